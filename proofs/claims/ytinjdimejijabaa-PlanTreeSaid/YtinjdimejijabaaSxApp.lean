/- Part of the proof: SxApp. -/
import Derived.Test.YtinjdimejijabaaSxBuild
import Derived.Laws.BytesString
import Derived.Deep.Upon
set_option linter.unusedVariables false
set_option linter.unusedSimpArgs false
namespace Go.Sx
section
variable {P : Program} {a : Act} {o : Oper} {w w0 : World} {fp : Nat -> Nat -> Prop} {ρ : Rho} {H : Heap} {e : Env} {nt : Nat} {K : SVal -> Heap -> Prop}
theorem Zdh {lo st len : Nat} {K : Chunk -> Prop} : ∀ (cs : List Chunk) (off : Nat), Zgm lo st len K cs off -> ∃ k xs, K (.ints k len xs) /\ st = 1 /\ off + lo + len <= Zac cs /\
    ∀ ρ, Zaf k len xs = ((Zab ρ cs).drop (off + lo)).take len
  | [], _, h => h.elim
  | .one v :: r, off, h => by
    simp only [Zgm] at h
    cases hb : Nat.beq off 0 with
    | true => rw [hb] at h; exact h.elim
    | false =>
      rw [hb] at h
      obtain ⟨k, xs, h1, h2, h3, h4⟩ := Zdh r _ h
      have := Za5 hb
      refine ⟨k, xs, h1, h2, by simp [Zac, Chunk.len]; omega, fun ρ => ?_⟩
      rw [h4 ρ]
      simp only [Zab, Chunk.conc]
      rw [show off + lo = (off - 1 + lo) + 1 by omega]
      simp
  | .ints k n xs :: r, off, h => by
    simp only [Zgm] at h
    cases hb : Nat.beq off 0 with
    | true =>
      rw [hb] at h
      obtain ⟨h0, h1, h2⟩ := Zad h
      obtain rfl := Zao h0
      have := beq_zero.1 hb
      subst this
      refine ⟨k, _, h2, rfl, by simp [Zac, Chunk.len]; omega, fun ρ => ?_⟩
      simp only [Zab, Chunk.conc, Nat.zero_add]
      rw [Zcd _ _ _ _ _ h1, List.drop_append_of_le_length (by rw [Zaa]; omega),
          List.take_append_of_le_length (by rw [List.length_drop, Zaa]; omega)]
    | false =>
      rw [hb] at h
      obtain ⟨hle, h⟩ := Zad h
      have hle := Nat.le_of_ble_eq_true hle
      obtain ⟨k', xs', h1, h2, h3, h4⟩ := Zdh r _ h
      refine ⟨k', xs', h1, h2, by simp [Zac, Chunk.len]; omega, fun ρ => ?_⟩
      rw [h4 ρ]
      simp only [Zab, Chunk.conc]
      rw [List.drop_append, List.drop_of_length_le (l := Zaf k n xs) (by rw [Zaa]; omega), List.nil_append, Zaa]
      congr 2; omega
  | .rows _ _ _ :: _, _, h => by simp only [Zgm] at h
theorem Zdy {lo len n' : Nat} {k' : IntKind} {ys : List Int} {ρ : Rho} {n : Nat} : ∀ (cs : List Chunk) (K : List Chunk -> Prop) (off : Nat), ZcW lo len k' n' ys K cs off -> ZaB ρ n cs ->
    ∃ cs', K cs' /\ ZaB ρ n cs' /\ Zac cs' = Zac cs /\ n' = len /\ off + lo + len <= Zac cs /\
      Zab ρ cs' = (Zab ρ cs).take (off + lo) ++ Zaf k' n' ys ++ (Zab ρ cs).drop (off + lo + len)
  | [], _, _, h, _ => h.elim
  | .one v :: r, K, off, h, hok => by
    simp only [ZaB] at hok
    simp only [ZcW] at h
    cases hb : Nat.beq off 0 with
    | true => rw [hb] at h; exact h.elim
    | false =>
      rw [hb] at h
      obtain ⟨cs', h1, h2, h3, h4, h5, h6⟩ := Zdy r _ _ h hok.2
      have := Za5 hb
      refine ⟨_, h1, by simp only [ZaB]; exact ⟨hok.1, h2⟩, by simp [Zac, h3], h4, by simp [Zac, Chunk.len]; omega, ?_⟩
      simp only [Zab, Chunk.conc, h6]
      rw [show off + lo = (off - 1 + lo) + 1 by omega, show off - 1 + lo + 1 + len = (off - 1 + lo + len) + 1 by omega]
      simp
  | .ints k m xs :: r, K, off, h, hok => by
    simp only [ZaB] at hok
    simp only [ZcW] at h
    cases hb : Nat.beq off 0 with
    | true =>
      rw [hb] at h
      have := beq_zero.1 hb
      subst this
      simp only [cond_true] at h
      obtain ⟨h0, rfl, h1, h2, h3, hK⟩ := Zad h
      obtain rfl := Zcr h0
      refine ⟨_, hK, by simp only [ZaB, Chunk.ok]; exact ⟨trivial, hok.2⟩, by simp [Zac, Chunk.len], rfl, by simp [Zac, Chunk.len]; omega, ?_⟩
      simp only [Zab, Chunk.conc, Nat.zero_add]
      rw [Zc5 _ _ _ _ _ _ h1 h2 h3, List.take_append_of_le_length (by rw [Zaa]; omega), List.drop_append_of_le_length (by rw [Zaa]; omega)]
      simp
    | false =>
      rw [hb] at h
      obtain ⟨hle, h⟩ := Zad h
      have hle := Nat.le_of_ble_eq_true hle
      obtain ⟨cs', h1, h2, h3, h4, h5, h6⟩ := Zdy r _ _ h hok.2
      refine ⟨_, h1, by simp only [ZaB]; exact ⟨hok.1, h2⟩, by simp [Zac, h3], h4, by simp [Zac, Chunk.len]; omega, ?_⟩
      simp only [Zab, Chunk.conc, h6]
      rw [List.take_append, List.drop_append, Zaa, List.take_of_length_le (l := Zaf k m xs) (by rw [Zaa]; omega), List.drop_of_length_le (l := Zaf k m xs) (by rw [Zaa]; omega),
        show off + lo - m = off - m + lo by omega, show off + lo + len - m = off - m + lo + len by omega]
      simp
  | .rows _ _ _ :: _, _, _, h, _ => by simp only [ZcW] at h
theorem Rel.move {id : Nat} {en : Ent} (h : Rel w0 fp ρ (H.set id en) w) (_hid : id < H.next) : Rel w0 fp (ρ.up H.next (ρ id)) ((H.drop id).push en) w := by
  have hlt := Rho.up_lt (ρ := ρ) (id := H.next) (p := ρ id)
  have hnx : (H.set id en).next = H.next := rfl
  have hsame : ∀ n, n = H.next -> (ρ.up H.next (ρ id)) n = ρ id := fun n hn => by subst hn; exact Rho.up_same
  have hen : (H.set id en).find id = some en := by rw [Heap.find_set, if_pos rfl]
  have hfind : ∀ n e', ((H.drop id).push en).find n = some e' -> (n = H.next /\ e' = en) ∨ (n < H.next /\ n ≠ id /\ (H.set id en).find n = some e') := fun n e' he => by
    rw [Heap.find_push] at he
    split at he
    · rename_i hn; cases he; exact .inl ⟨hn.symm, rfl⟩
    · rename_i hn
      rw [Heap.find_drop] at he
      split at he
      · cases he
      · rename_i hn'
        have hf : (H.set id en).find n = some e' := by rw [Heap.find_set, if_neg hn']; exact he
        exact .inr ⟨h.next _ _ hf, fun h => hn' h.symm, hf⟩
  have hw : ∀ n e' b o, n = H.next -> (Win (ρ.up H.next (ρ id)) n e' b o ↔ Win ρ id e' b o) := fun n e' b o hn => by
    unfold Win; rw [hsame n hn]
  have hw' : ∀ n e' b o, n < H.next -> (Win (ρ.up H.next (ρ id)) n e' b o ↔ Win ρ n e' b o) := fun n e' b o hn => by
    unfold Win; rw [hlt n hn]
  refine ⟨h.frame, fun n e' he => ?_, fun n e' he => ?_, fun n e' he hwr b o hwn => ?_, fun n m e1 e2 hne he1 he2 hwr b o hw1 hw2 => ?_, fun n e' he => ?_, fun n e' he => ?_, fun n e' he g1 g2 b base hb => ?_⟩
  · rcases hfind n e' he with ⟨hn, rfl⟩ | ⟨hn, hn', hf⟩
    · have hE := h.ents _ _ hen
      have hcc := Za2 hlt _ (h.oks _ _ hen)
      refine ⟨fun hnn => hE.nil (by rw [<- hsame n hn]; exact hnn), fun b base hb i v hv => ?_, fun hwr b base hb i hi => ?_, fun g1 g2 b base hb => hE.mp g1 g2 b base (by rw [<- hsame n hn]; exact hb)⟩
      · rw [hsame n hn] at hb; rw [hcc] at hv; exact hE.cells b base hb i v hv
      · rw [hsame n hn] at hb; exact hE.own hwr b base hb i hi
    · exact (h.ents _ _ hf).congr hlt hn (h.oks _ _ hf) (fun _ _ _ => rfl) (fun _ _ _ _ => rfl) (fun _ _ _ h => h)
  · rcases hfind n e' he with ⟨hn, rfl⟩ | ⟨hn, hn', hf⟩
    · exact Zbc hlt (by simp [Heap.push, Heap.drop]) _ (h.oks _ _ hen)
    · exact Zbc hlt (by simp [Heap.push, Heap.drop]) _ (h.oks _ _ hf)
  · rcases hfind n e' he with ⟨hn, rfl⟩ | ⟨hn, hn', hf⟩
    · exact h.own _ _ hen hwr b o ((hw _ _ _ _ hn).1 hwn)
    · exact h.own _ _ hf hwr b o ((hw' _ _ _ _ hn).1 hwn)
  · rcases hfind n e1 he1 with ⟨hn, rfl⟩ | ⟨hn, hn', hf⟩
    · rcases hfind m e2 he2 with ⟨hm, rfl⟩ | ⟨hm, hm', hf2⟩
      · exact hne (hn.trans hm.symm)
      · exact h.apart _ _ _ _ (Ne.symm hm') hen hf2 hwr b o ((hw _ _ _ _ hn).1 hw1) ((hw' _ _ _ _ hm).1 hw2)
    · rcases hfind m e2 he2 with ⟨hm, rfl⟩ | ⟨hm, hm', hf2⟩
      · exact h.apart _ _ _ _ hn' hf hen hwr b o ((hw' _ _ _ _ hn).1 hw1) ((hw _ _ _ _ hm).1 hw2)
      · exact h.apart _ _ _ _ hne hf hf2 hwr b o ((hw' _ _ _ _ hn).1 hw1) ((hw' _ _ _ _ hm).1 hw2)
  · rcases hfind n e' he with ⟨hn, rfl⟩ | ⟨hn, hn', hf⟩
    · subst hn; simp [Heap.push, Heap.drop]
    · simp [Heap.push, Heap.drop]; omega
  · rcases hfind n e' he with ⟨hn, rfl⟩ | ⟨hn, hn', hf⟩
    · exact h.ro _ _ hen
    · exact h.ro _ _ hf
  · rcases hfind n e' he with ⟨hn, rfl⟩ | ⟨hn, hn', hf⟩
    · exact h.mnew _ _ hen g1 g2 b base (by rw [<- hsame n hn]; exact hb)
    · exact h.mnew _ _ hf g1 g2 b base (by rw [<- hlt n hn]; exact hb)
theorem Rel.pushE (h : Rel w0 fp ρ H w) (p : Option (Nat × Nat)) {cs : List Chunk} (hok : ZaB ρ H.next cs) (h0 : Zac cs = 0) : Rel w0 fp (ρ.up H.next p) (H.push ⟨true, cs, 0⟩) w := by
  have hlt := Rho.up_lt (ρ := ρ) (id := H.next) (p := p)
  have hfind : ∀ n e', (H.push ⟨true, cs, 0⟩).find n = some e' -> (n = H.next /\ e' = ⟨true, cs, 0⟩) ∨ (n < H.next /\ H.find n = some e') := fun n e' he => by
    rw [Heap.find_push] at he
    split at he
    · rename_i hn; cases he; exact .inl ⟨hn.symm, rfl⟩
    · exact .inr ⟨h.next _ _ he, he⟩
  have hw0 : ∀ ρ' n b o, ¬ Win ρ' n ⟨true, cs, 0⟩ b o := fun ρ' n b o ⟨base, _, h1, h2⟩ => by simp only [Ent.size, h0] at h2; omega
  have hw' : ∀ n e' b o, n < H.next -> (Win (ρ.up H.next p) n e' b o ↔ Win ρ n e' b o) := fun n e' b o hn => by
    unfold Win; rw [hlt n hn]
  refine ⟨h.frame, fun n e' he => ?_, fun n e' he => ?_, fun n e' he hwr b o hwn => ?_, fun n m e1 e2 hne he1 he2 hwr b o hw1 hw2 => ?_, fun n e' he => ?_, fun n e' he => ?_, fun n e' he g1 g2 b base hb => ?_⟩
  · rcases hfind n e' he with ⟨hn, rfl⟩ | ⟨hn, hf⟩
    · refine ⟨fun _ => by simp [Ent.size, h0], fun b base hb i v hv => ?_, fun _ b base hb i hi => ?_, fun g => by cases g⟩
      · have := (List.getElem?_eq_some_iff.1 hv).1
        rw [Zae] at this; change i < Zac cs at this; omega
      · change i < Zac cs + 0 at hi; omega
    · exact (h.ents _ _ hf).congr hlt hn (h.oks _ _ hf) (fun _ _ _ => rfl) (fun _ _ _ _ => rfl) (fun _ _ _ h => h)
  · rcases hfind n e' he with ⟨hn, rfl⟩ | ⟨hn, hf⟩
    · exact Zbc hlt (by simp [Heap.push]) _ hok
    · exact Zbc hlt (by simp [Heap.push]) _ (h.oks _ _ hf)
  · rcases hfind n e' he with ⟨hn, rfl⟩ | ⟨hn, hf⟩
    · exact absurd hwn (hw0 _ _ _ _)
    · exact h.own _ _ hf hwr b o ((hw' _ _ _ _ hn).1 hwn)
  · rcases hfind n e1 he1 with ⟨hn, rfl⟩ | ⟨hn, hf⟩
    · exact hw0 _ _ _ _ hw1
    · rcases hfind m e2 he2 with ⟨hm, rfl⟩ | ⟨hm, hf2⟩
      · exact hw0 _ _ _ _ hw2
      · exact h.apart _ _ _ _ hne hf hf2 hwr b o ((hw' _ _ _ _ hn).1 hw1) ((hw' _ _ _ _ hm).1 hw2)
  · rcases hfind n e' he with ⟨hn, rfl⟩ | ⟨hn, hf⟩
    · subst hn; simp [Heap.push]
    · simp [Heap.push]; omega
  · rcases hfind n e' he with ⟨hn, rfl⟩ | ⟨hn, hf⟩
    · exact .inl rfl
    · exact h.ro _ _ hf
  · rcases hfind n e' he with ⟨hn, rfl⟩ | ⟨hn, hf⟩
    · cases g1
    · exact h.mnew _ _ hf g1 g2 b base (by rw [<- hlt n hn]; exact hb)
theorem Rel.same {id : Nat} {en : Ent} {cs' : List Chunk} (h : Rel w0 fp ρ H w) (he : H.find id = some en) (hcc : Zab ρ cs' = Zab ρ en.cs) (hok : ZaB ρ H.next cs') (hwt : en.wr = true) : Rel w0 fp ρ (H.set id ⟨en.wr, cs', en.ex⟩) w := by
  have hl : Zac cs' = Zac en.cs := by rw [<- Zae ρ, hcc, Zae]
  have hfind : ∀ n e', (H.set id ⟨en.wr, cs', en.ex⟩).find n = some e' -> ∃ e0, H.find n = some e0 /\ e'.wr = e0.wr /\ e'.ex = e0.ex /\ Zac e'.cs = Zac e0.cs /\ Zab ρ e'.cs = Zab ρ e0.cs /\ ZaB ρ H.next e'.cs /\ (e'.wr = false -> e' = e0) := fun n e' hn => by
    rw [Heap.find_set] at hn
    split at hn
    · rename_i hi; subst hi; cases hn; exact ⟨en, he, rfl, rfl, hl, hcc, hok, fun g => by simp [hwt] at g⟩
    · exact ⟨e', hn, rfl, rfl, rfl, rfl, h.oks _ _ hn, fun _ => rfl⟩
  have hw : ∀ n e' e0 b o, e'.ex = e0.ex -> Zac e'.cs = Zac e0.cs -> (Win ρ n e' b o ↔ Win ρ n e0 b o) := fun n e' e0 b o h1 h2 => by simp only [Win, Ent.size, h1, h2]
  refine ⟨h.frame, fun n e' hn => ?_, fun n e' hn => ?_, fun n e' hn hwr b o hwn => ?_, fun n m e1 e2 hne he1 he2 hwr b o hw1 hw2 => ?_, fun n e' hn => ?_, fun n e' hn => ?_, fun n e' hn q1 q2 b base hb => ?_⟩
  · obtain ⟨e0, g1, g2, g3, g4, g5, g6, g7⟩ := hfind n e' hn
    have hE := h.ents _ _ g1
    refine ⟨fun hnn => by have := hE.nil hnn; simp only [Ent.size] at *; omega, fun b base hb i v hv => hE.cells b base hb i v (g5 ▸ hv), fun hwr b base hb i hi => hE.own (g2 ▸ hwr) b base hb i (by simp only [Ent.size] at *; omega), fun q1 q2 b base hb => by have q := g7 q1; subst q; exact hE.mp q1 q2 b base hb⟩
  · obtain ⟨e0, g1, g2, g3, g4, g5, g6, g7⟩ := hfind n e' hn; exact g6
  · obtain ⟨e0, g1, g2, g3, g4, g5, g6, g7⟩ := hfind n e' hn; exact h.own _ _ g1 (g2 ▸ hwr) b o ((hw _ _ _ _ _ g3 g4).1 hwn)
  · obtain ⟨e0, g1, g2, g3, g4, g5, g6, g7⟩ := hfind n e1 he1
    obtain ⟨e3, k1, k2, k3, k4, k5, k6, k7⟩ := hfind m e2 he2
    exact h.apart _ _ _ _ hne g1 k1 (g2 ▸ hwr) b o ((hw _ _ _ _ _ g3 g4).1 hw1) ((hw _ _ _ _ _ k3 k4).1 hw2)
  · obtain ⟨e0, g1, _⟩ := hfind n e' hn; exact h.next _ _ g1
  · obtain ⟨e0, g1, g2, g3, g4, g5, g6, g7⟩ := hfind n e' hn
    have := h.ro _ _ g1
    rw [g2, g3, g4]; exact this
  · obtain ⟨e0, g1, g2, g3, g4, g5, g6, g7⟩ := hfind n e' hn
    have := g7 q1; subst this
    exact h.mnew _ _ g1 q1 q2 b base hb
theorem Zg6 {t : TypeId} {k : IntKind} (h : ZiP P t k = true) : ∃ el i z, P.underlying t = some (.slice el) /\ P.info? el = some i /\ i.size = 1 /\ i.bytes <= 8 /\ i.zero = some z /\ z.cells = #[.int k 0] := by
  unfold ZiP at h
  split at h
  · rename_i el hu
    split at h
    · rename_i i hi
      rw [Bool.and_eq_true, Bool.and_eq_true] at h
      unfold ZdK at h
      rw [hi] at h
      simp only at h
      split at h
      · rename_i z hz
        rw [Bool.and_eq_true] at h
        refine ⟨el, i, z, hu, hi, Nat.eq_of_beq_eq_true h.1.1, Nat.le_of_ble_eq_true h.1.2, hz, ?_⟩
        have := ZcY h.2.2
        rw [<- Array.toArray_toList (xs := z.cells), <- this]; simp [Zab, Chunk.conc, SVal.conc]
      · cases h.2
    · cases h
  · cases h
theorem ZjG {p q : TypeId -> Bool} {ts : List TypeId} (h : two P p q ts = true) : ∃ a b, ts = [a, b] /\ p a = true /\ q b = true := by
  unfold two at h
  split at h
  · rw [Bool.and_eq_true] at h; exact ⟨_, _, rfl, h.1, h.2⟩
  · cases h
theorem Zi4 {t : TypeId} (h : ZmR P t = true) : ∃ e, P.underlying t = some (.slice e) := by
  unfold ZmR at h
  split at h
  · rename_i e hu; exact ⟨e, hu⟩
  · cases h
theorem Zh2 {k : IntKind} {y : SVal} {K : Nat -> List Int -> Prop} (hok : y.ok ρ H.next) (h : Zh3 H k y K) : ∃ n ys, K n ys /\ (Zaf k n ys).length = n /\
    ((y.conc ρ = .slice none 0 0 /\ n = 0) ∨ ∃ b off c, y.conc ρ = .slice (some ⟨b, off, none⟩) n c /\ ∀ w, Rel w0 fp ρ H w -> ∀ j v, (Zaf k n ys)[j]? = some v -> w.cell? ⟨b, off + j, none⟩ = some v) := by
  unfold Zh3 at h
  split at h
  · exact ⟨0, [], h, Zaa _ _ _, .inl ⟨rfl, rfl⟩⟩
  · rename_i ad n c
    simp only [SVal.ok] at hok
    split at h
    · rename_i en hen
      obtain ⟨k', xs, h1, h2, h3, h4⟩ := Zdh _ _ h
      obtain ⟨h5, h6⟩ := Zad h1
      obtain rfl := Zcr h5
      refine ⟨n, xs, h6, Zaa _ _ _, ?_⟩
      cases hρ : ρ ad.id with
      | none =>
        have := hok.2 hρ
        left
        exact ⟨by simp [SVal.conc, SAddr.conc, hρ, this.1, this.2], this.1⟩
      | some p =>
        obtain ⟨b, base⟩ := p
        right
        refine ⟨b, base + (ad.off + ad.idx * ad.st), c, by simp [SVal.conc, SAddr.conc, hρ], fun w hr j v hj => ?_⟩
        rw [h4 ρ] at hj
        have := ZbZ rfl (by rw [Zae]; omega) j v hj
        rw [h2, Nat.mul_one, Nat.add_assoc]
        exact (hr.ents _ _ hen).cells b base hρ _ _ this
    · exact h.elim
  · exact h.elim
theorem ZgH {k : IntKind} {n : Nat} {ys : List Int} : ∀ u ∈ Zaf k n ys, u.oneCell' = true := ZcH
theorem Zle {k : IntKind} {y : SVal} {n : Nat} {ys : List Int} {t : TypeId} (ht : ZmR P t = true) (h : (y.conc ρ = .slice none 0 0 /\ n = 0) ∨ ∃ b off c, y.conc ρ = .slice (some ⟨b, off, none⟩) n c /\ ∀ w, Rel w0 fp ρ H w -> ∀ j v, (Zaf k n ys)[j]? = some v -> w.cell? ⟨b, off + j, none⟩ = some v)
    (hr : Rel w0 fp ρ H w) : Src P 1 t (y.conc ρ) n (Zaf k n ys) w := by
  obtain ⟨e', he'⟩ := Zi4 ht
  rcases h with ⟨h1, rfl⟩ | ⟨b, off, c, h1, h2⟩
  · rw [h1]; exact Src.ofNil w he' 0
  · rw [h1]; exact Src.ofSlice w he' _ n c _ (by rw [Zaa, Nat.mul_one]) (fun j v hj => by rw [Zdq]; exact h2 w hr j v hj) ZgH
theorem Zc6 {k : IntKind} {m n : Nat} {xs ys : List Int} (h : xs.length = m) : Zaf k (m + n) (xs ++ ys) = Zaf k m xs ++ Zaf k n ys := by
  apply List.ext_getElem?
  intro i
  rcases Nat.lt_or_ge i m with hi | hi
  · rw [Zaj _ _ _ _ (by omega), List.getElem?_append_left (by rw [Zaa]; exact hi), Zaj _ _ _ _ hi]
    simp [List.getD_eq_getElem?_getD, List.getElem?_append_left (show i < xs.length by omega)]
  · rw [List.getElem?_append_right (by rw [Zaa]; exact hi), Zaa]
    rcases Nat.lt_or_ge i (m + n) with hi' | hi'
    · rw [Zaj _ _ _ _ hi', Zaj _ _ _ _ (by omega)]
      simp [List.getD_eq_getElem?_getD, List.getElem?_append_right (show xs.length <= i by omega), h]
    · rw [List.getElem?_eq_none (by rw [Zaa]; exact hi'), List.getElem?_eq_none (by rw [Zaa]; omega)]
theorem ZfA {t tx ty el : TypeId} {i : TypeInfo} {z : Value} {k : IntKind} {base : Option Addr} {len cap n : Nat} {xs ys : List Int} {x : Value} (hu : P.underlying t = some (.slice el)) (hi : P.info? el = some i) (hs1 : i.size = 1) (hb8 : i.bytes <= 8) (hz : i.zero = some z) (hzc : z.cells = #[.int k 0])
    (hr : Rel w0 fp ρ H w) (hxl : xs.length = len) (hold : (Builtin.firstCells 1 len (.slice base len cap)).run P w.drew = .ok (Zaf k len xs).toArray w.drew) (hsrc : Src P 1 tx x n (Zaf k n ys) w)
    (hg : cap < len + n) (hbd : len + n <= 17592186044416) (hK : ∀ c, len + n <= c -> K (.slice ⟨H.next, 0, 0, 1⟩ (len + n) c) (H.push ⟨true, [.ints k (len + n) (xs ++ ys)], c - (len + n)⟩)) :
    ∃ v w', (Builtin.append_ #[t, tx] ty #[.slice base len cap, x]).run P w = .ok v w' /\ OpPost w0 fp ρ H K v w' := by
  have hbytes : (len + n) * i.bytes <= 140737488355328 := Nat.le_trans (Nat.mul_le_mul_left _ hb8) (by omega)
  have hrun := run_append_grow_src (P := P) w t tx ty el i z hu hi hz base len cap (Zaf k len xs) (by rw [hs1]; exact hold) x n (Zaf k n ys) (by rw [hs1]; exact hsrc) hg (by omega) (growslice_fits hg hbytes)
  have hge := grownCap_ge w (len + n) cap el
  refine ⟨_, _, hrun, ρ.up H.next (some (w.heap.size, 0)), _, _, hK _ hge, ?_, ?_, Rho.up_lt, by simp [Heap.push],
    (hr.drew (w.drawn + 1)).alloc (t := el) (by simp [ZaB, Chunk.ok]) ⟨(Builtin.zeroCells z.cells (grownCap w (len + n) cap el - (len + n))).toList, ?_, ?_⟩⟩
  · simp [SVal.conc, SAddr.conc, Rho.up_same]
  · simp [SVal.ok, Heap.push, Rho.up_same]
  · simp [Zab, Chunk.conc, Zc6 hxl]
  · rw [Array.length_toList, size_zeroCells, hzc]; simp
theorem Zh0 {e : Env} {x y : Opd} {xs : Array Operand} {K : SVal -> SVal -> Prop} {ρ : Rho} {n nt : Nat} {a : Act} (hf : Ze7 [x, y] xs.toList = true) (he : EnvOk ρ n nt e a.tmps)
    (h : x.ev e fun u => y.ev e fun v => K u v) : ∃ u v, K u v /\ u.ok ρ n /\ v.ok ρ n /\ xs.map a.eval = #[u.conc ρ, v.conc ρ] := by
  obtain ⟨vs, h1, h2, h3⟩ := Zcw (K := fun vs => ∃ u v, vs = [u, v] /\ K u v) he hf (by
    simp only [evL]; exact Opd.ev_mono (fun u hu => Opd.ev_mono (fun v hv => ⟨u, v, rfl, hv⟩) hu) h)
  obtain ⟨u, v, rfl, hK⟩ := h1
  simp only [okL] at h2
  exact ⟨u, v, hK, h2.1, h2.2.1, by rw [Zcp h3]; simp [Zap]⟩
theorem ZgV {k : IntKind} {x y : Opd} (hf : (AOp.append k x y).fits P o.op = true) (he : EnvOk ρ H.next nt e a.tmps) (hr : Rel w0 fp ρ H w) {Γ} (h : ZbA Γ (.append k x y) e H K) : Runs P a o w (OpPost w0 fp ρ H K) := by
  simp only [AOp.fits] at hf
  simp only [ZbA] at h
  split at hf
  · rename_i xs ts hop
    rw [Bool.and_eq_true] at hf
    obtain ⟨u, v, h', hok, hok', h3⟩ := Zh0 hf.1 he h
    clear h
    obtain ⟨t, t', hts, ht, ht'⟩ := ZjG hf.2
    obtain ⟨el, i, z, hu, hi, hs1, hb8, hz, hzc⟩ := Zg6 ht
    have hta : ts = #[t, t'] := by rw [<- Array.toArray_toList (xs := ts), hts]
    obtain ⟨n, ys, h, hyl, hsrc0⟩ := Zh2 (w0 := w0) (fp := fp) hok' h'
    clear h'
    have hsrc := Zle ht' hsrc0 hr
    have hexec : (execOp a.eval o).run P w = ((Builtin.append_ #[t, t'] o.type #[u.conc ρ, v.conc ρ]).run P w).andThen fun v w' => .ok (.value v) w' := by
      simp [execOp, hop, resolve, invoke, builtin, h3, hta]
    suffices hs : ∃ r w', (Builtin.append_ #[t, t'] o.type #[u.conc ρ, v.conc ρ]).run P w = .ok r w' /\ OpPost w0 fp ρ H K r w' by
      obtain ⟨r, w', h1, h2⟩ := hs
      exact ⟨r, w', .inl (by rw [hexec, h1]; rfl), h2⟩
    -- what is nil
    have hnil : ∀ (H' : Heap), H'.next = H.next -> Rel w0 fp ρ H' w -> u.conc ρ = .slice none 0 0 -> n <= 17592186044416 -> (∀ c, n <= c -> K (.slice ⟨H.next, 0, 0, 1⟩ n c) (H'.push ⟨true, [.ints k n ys], c - n⟩)) ->
        ∃ r w', (Builtin.append_ #[t, t'] o.type #[u.conc ρ, v.conc ρ]).run P w = .ok r w' /\ OpPost w0 fp ρ H K r w' := fun H' hnx hr' hu0 hbd hK => by
      rw [hu0]
      rcases Nat.eq_zero_or_pos n with h0 | hp
      · subst h0
        have hnil : Zaf k 0 ys = [] := by simp [Zaf]
        rw [hnil] at hsrc
        have hrun := run_append_nothing (P := P) w t t' o.type el i hu hi none 0 0 (Nat.le_refl _) _ (by rw [hs1]; exact hsrc)
        have hp := hr'.pushE none (cs := [.ints k 0 ys]) (by simp [ZaB, Chunk.ok]) (by simp [Zac, Chunk.len])
        rw [hnx] at hp
        have hk0 := hK 0 (Nat.le_refl _)
        refine ⟨_, _, hrun, ρ.up H.next none, _, _, hk0, ?_, ?_, Rho.up_lt, by simp [Heap.push, hnx], by simpa using hp⟩
        · simp [SVal.conc, SAddr.conc, Rho.up_same]
        · simp [SVal.ok, Heap.push, hnx]
      · have := ZfA (P := P) (ty := o.type) (K := K) (H := H') (len := 0) (cap := 0) (xs := []) hu hi hs1 hb8 hz hzc hr' rfl (by simpa [Zaf] using run_firstCells_none (P := P) w.drew 1 0 0 0) hsrc (by omega) (by omega) (fun c hc => by
          simpa [hnx] using hK c (by omega))
        obtain ⟨r, w', h1, ρ', sv, H'', g1, g2, g3, g4, g5, g6⟩ := this
        exact ⟨r, w', h1, ρ', sv, H'', g1, g2, g3, fun id hid => g4 id (by rw [hnx]; exact hid), by rw [<- hnx]; exact g5, g6⟩
    split at h
    · exact hnil H rfl hr rfl h.1 h.2
    · rename_i ad len cap
      simp only [SVal.ok] at hok
      split at h
      · rename_i en hen
        obtain ⟨h0, h⟩ := Zad h
        rw [Bool.and_eq_true, Bool.and_eq_true] at h0
        have ho0 := Zao h0.1.2
        have hi0 := Zao h0.2
        have hwr := h0.1.1
        split at h
        · rename_i k' m xs hcs
          obtain ⟨hkk, h1, h2, h4, h5, h6⟩ := Zad h
          obtain rfl := Zcr hkk
          subst h1
          cases hρ : ρ ad.id with
          | none =>
            have hlc := hok.2 hρ
            have hx0 : xs = [] := List.eq_nil_of_length_eq_zero (by omega)
            obtain ⟨rfl, hc0⟩ := hlc
            refine hnil (H.drop ad.id) rfl (hr.drop _) (by simp [SVal.conc, SAddr.conc, hρ, hc0]) (by omega) (fun c hc => ?_)
            have := h6 c (by omega)
            simpa [hx0] using this
          | some p =>
            obtain ⟨b, base⟩ := p
            have hE := hr.ents _ _ hen
            have huc : SVal.conc ρ (.slice ad m cap) = .slice (some ⟨b, base, none⟩) m cap := by simp [SVal.conc, SAddr.conc, hρ, ho0, hi0]
            have hcc : Zab ρ en.cs = Zaf k' m xs := by rw [hcs]; simp [Zab, Chunk.conc]
            have hlen : Zac en.cs = m := by rw [hcs]; simp [Zac, Chunk.len]
            rw [huc]
            by_cases hroom : m + n <= cap
            · -- there is room
              have hrun := run_append_room_src (P := P) w t t' o.type el i hu hi b base m cap (v.conc ρ) n (Zaf k' n ys) (by rw [hs1]; exact hsrc) hroom
                (fun j hj => by
                  rw [Zaa] at hj
                  obtain ⟨⟨v', hv'⟩, _⟩ := hE.own hwr b base hρ (m + j) (by simp only [Ent.size, hlen]; omega)
                  rw [hs1, Nat.mul_one, Nat.add_assoc, hv']; rfl)
                (fun j hj => by
                  rw [Zaa] at hj
                  obtain ⟨_, hz'⟩ := hE.own hwr b base hρ (m + j) (by simp only [Ent.size, hlen]; omega)
                  rw [hs1, Nat.mul_one, Nat.add_assoc, hz'])
              rw [hs1, Nat.mul_one] at hrun
              have hst := hr.store (off := m) (vs := Zaf k' n ys) (cs' := [.ints k' (m + n) (xs ++ ys)]) (ex' := cap - (m + n)) hen hwr hρ (by rw [Zaa]; simp only [Ent.size, hlen]; omega) (by simp [ZaB, Chunk.ok])
                (by simp only [Zac, Chunk.len, Ent.size, hlen]; omega) (fun j v' hj => by
                  simp only [Zab, Chunk.conc, List.append_nil] at hj
                  rw [Zc6 h2] at hj
                  rcases Nat.lt_or_ge j m with hjm | hjm
                  · right
                    rw [List.getElem?_append_left (by rw [Zaa]; exact hjm)] at hj
                    exact ⟨.inl hjm, by rw [hcc]; exact hj⟩
                  · left
                    rw [List.getElem?_append_right (by rw [Zaa]; exact hjm), Zaa] at hj
                    have := (List.getElem?_eq_some_iff.1 hj).1
                    rw [Zaa] at this
                    exact ⟨hjm, by rw [Zaa]; omega, hj⟩)
              refine ⟨_, _, hrun, ρ.up H.next (ρ ad.id), _, _, h6 cap hroom, ?_, ?_, Rho.up_lt, by simp [Heap.push, Heap.drop], hst.move hok.1⟩
              · simp [SVal.conc, SAddr.conc, Rho.up_same, hρ]
              · simp [SVal.ok, Heap.push, Heap.drop, Rho.up_same, hρ]
            · have hold : (Builtin.firstCells 1 m (.slice (some ⟨b, base, none⟩) m cap)).run P w.drew = .ok (Zaf k' m xs).toArray w.drew :=
                run_firstCells_some w.drew 1 m _ m cap _ (by rw [Zaa, Nat.mul_one]) (fun j v' hj => by
                  rw [Zdq, World.cell?_drew]
                  exact hE.cells b base hρ j v' (by rw [hcc]; exact hj))
              have := ZfA (P := P) (ty := o.type) (K := K) (H := H.drop ad.id) hu hi hs1 hb8 hz hzc (hr.drop ad.id) h2 hold hsrc (by omega) h5 (fun c hc => h6 c hc)
              obtain ⟨r, w', h1, ρ', sv, H'', g1, g2, g3, g4, g5, g6⟩ := this
              exact ⟨r, w', h1, ρ', sv, H'', g1, g2, g3, g4, g5, g6⟩
        · exact h.elim
      · exact h.elim
    · exact h.elim
  · cases hf
end
end Go.Sx
