/- Part of the proof: SxPtr. -/
import Derived.Test.YtinjdimejijabaaSxDel
set_option linter.unusedVariables false
set_option linter.unusedSimpArgs false
namespace Go.Sx
section
variable {P : Program} {a : Act} {o : Oper} {w w0 : World} {fp : Nat -> Nat -> Prop} {ρ : Rho} {H : Heap} {e : Env} {nt : Nat} {K : SVal -> Heap -> Prop}
theorem ZhH {K : SVal -> Prop} : ∀ {cs : List Chunk} {n : Nat}, Zjq K cs n -> ∀ {ρ : Rho} {m : Nat}, ZaL ρ m cs -> ∃ v, K v /\ v.ok ρ m /\ (Zaf ρ cs)[n]? = some (v.conc ρ)
  | [], _, h, _, _, _ => by simp [Zjq] at h
  | [.one v], n, h, ρ, m, hok => by
    obtain ⟨rfl, h⟩ := h
    exact ⟨v, h, hok.1, by simp [Zaf, Chunk.conc]⟩
  | .one v :: c :: r, n, h, ρ, m, hok => by
    have h' : (decide (n = 0) = true -> K v) /\ (decide (n = 0) = false -> Zjq K (c :: r) (n - 1)) := h
    by_cases hn : n = 0
    · subst hn
      exact ⟨v, h'.1 (by decide), hok.1, by simp [Zaf, Chunk.conc]⟩
    · obtain ⟨u, h1, h2, h3⟩ := ZhH (h'.2 (decide_eq_false hn)) (m := m) hok.2
      refine ⟨u, h1, h2, ?_⟩
      obtain ⟨k, rfl⟩ : ∃ k, n = k + 1 := ⟨n - 1, by omega⟩
      rw [Nat.add_sub_cancel] at h3
      simpa [Zaf, Chunk.conc] using h3
  | [.ints _ _ _], _, h, _, _, _ => by simp [Zjq] at h
  | [.rows _ _ _], _, h, _, _, _ => by simp [Zjq] at h
  | .ints _ _ _ :: _ :: _, _, h, _, _, _ => by simp [Zjq] at h
  | .rows _ _ _ :: _ :: _, _, h, _, _, _ => by simp [Zjq] at h
theorem Zc1 {x : Opd} (hf : (AOp.load1P x).fits P o.op = true) (he : EnvOk ρ H.next nt e a.tmps) (hr : Rel w0 fp ρ H w) {Γ} (h : Za7 Γ (.load1P x) e H K) : Looks P a o w0 fp ρ H K := by
  simp only [AOp.fits] at hf
  simp only [Za7] at h
  split at hf
  · rename_i t x' hop
    rw [Bool.and_eq_true] at hf
    obtain ⟨v, h, hok, h3⟩ := Opd.ev_sound hf.1 he h
    split at h
    · rename_i ad n
      simp only [SVal.ok] at hok
      split at h
      · rename_i en hen
        obtain ⟨h0, h⟩ := Zal h
        rw [Bool.and_eq_true] at h0
        obtain ⟨b, base, hb, hc, hent⟩ := Zgx hr hok hen
        obtain ⟨u, hK, huok, hu⟩ := ZhH h (hr.oks _ _ hen)
        have hcell := fun (w : World) (hr : Rel w0 fp ρ H w) => (hr.ents _ _ hen).cells b base hb _ _ hu
        refine ⟨_, hK, huok, fun w hr => ?_⟩
        rw [Zas h0.1, Zas h0.2, Nat.zero_add, Nat.mul_one] at hc
        simp only [SVal.conc, hc] at h3
        simp [execOp, hop, h3, Instr.loadAt, Instr.sureAddr, loadVar, Zdm hf.2, hcell w hr]
      · exact h.elim
    · exact h.elim
  · cases hf
theorem Zoz {t : TypeId} (h : Zup P t = true) : ∃ el i, P.underlying t = some (.slice el) /\ P.info? el = some i /\ i.size = 1 /\ ZcW P el [.one .nilptr] = true := by
  unfold Zup at h
  split at h
  · rename_i el hu
    split at h
    · rename_i i hi
      rw [Bool.and_eq_true] at h
      exact ⟨el, i, hu, hi, Zas h.1, h.2⟩
    · cases h
  · cases h
theorem ZkY {n : Nat} {a : Act} (he : EnvOk ρ H.next nt e a.tmps) : ∀ {ps : List Opd} {qs : List (Nat × Operand)} {i : Nat} {K : List SVal -> Prop} {cells : Array Value}, ZlL i ps qs = true -> ZnT e ps K -> i + ps.length = n -> cells.size = n ->
    ∃ vs cells', K vs /\ vs.length = ps.length /\ ZaL ρ H.next (vs.map Chunk.one) /\ Instr.fill (fun i => some (i * 1, 1)) cells (qs.map fun p => (p.1, a.eval p.2)) = some cells' /\ cells'.toList = cells.toList.take i ++ Zaf ρ (vs.map Chunk.one)
  | [], [], i, K, cells, _, h, hn, hc => by
    simp only [List.length_nil, Nat.add_zero] at hn
    subst hn
    exact ⟨[], cells, h, rfl, trivial, rfl, by rw [List.take_of_length_le (by rw [Array.length_toList, hc]; exact Nat.le_refl _)]; simp [Zaf]⟩
  | x :: r, (j, y) :: q, i, K, cells, hf, h, hn, hc => by
    simp only [ZlL, Bool.and_eq_true] at hf
    obtain rfl := Zas hf.1.1
    simp only [ZnT] at h
    obtain ⟨v, h1, h2, h3⟩ := Opd.ev_sound hf.1.2 he h
    split at h1
    · rename_i ad m
      have hvs : ((SVal.ptr ad m).conc ρ).cells.toList = [(SVal.ptr ad m).conc ρ] := by simp [SVal.conc, Value.cells]
      have hsz : ((SVal.ptr ad m).conc ρ).cells.size = 1 := by rw [<- Array.length_toList, hvs]; rfl
      simp only [List.length_cons] at hn
      obtain ⟨cells1, h6, h7⟩ := ZfN (fun i => some (i * 1, 1)) cells i ((SVal.ptr ad m).conc ρ) (q.map fun p => (p.1, a.eval p.2)) rfl hsz (by omega)
      rw [hvs, Nat.mul_one] at h7
      have hlen : (cells.toList.take i).length = i := by rw [List.length_take, Array.length_toList]; omega
      have hc1 : cells1.size = n := by
        rw [<- Array.length_toList, h7]
        simp only [List.length_append, hlen, List.length_singleton, List.length_drop, Array.length_toList]
        omega
      obtain ⟨vs, cells', g1, g2, g3, g4, g5⟩ := ZkY he hf.2 h1 (by omega) hc1
      refine ⟨.ptr ad m :: vs, cells', g1, by simp [g2], ⟨h2, g3⟩, by rw [List.map_cons, h3, h6]; exact g4, ?_⟩
      rw [g5, h7, List.take_left' (by rw [List.length_append, hlen]; rfl), List.map_cons, Zaf, Chunk.conc, List.append_assoc]
    · exact h1.elim
  | [], _ :: _, _, _, _, hf, _, _, _ => by cases hf
  | _ :: _, [], _, _, _, hf, _, _, _ => by cases hf
theorem Zkc {n : Nat} {ps : List Opd} (hf : (AOp.bsliceV n ps).fits P o.op = true) (he : EnvOk ρ H.next nt e a.tmps) (hr : Rel w0 fp ρ H w) {Γ} (h : Za7 Γ (.bsliceV n ps) e H K) : Runs P a o w (OpPost w0 fp ρ H K) := by
  simp only [AOp.fits] at hf
  simp only [Za7] at h
  split at hf
  · rename_i t n' parts hop
    simp only [Bool.and_eq_true] at hf
    obtain ⟨⟨⟨⟨⟨hn, hn0⟩, hle⟩, hpl⟩, hps⟩, ht⟩ := hf
    obtain rfl := Zas hn
    have hpl := Zas hpl
    have hle := Nat.le_of_ble_eq_true hle
    have hn0 := Nat.le_of_ble_eq_true hn0
    obtain ⟨el, inf, hu, hi, hs, hzero⟩ := Zoz ht
    obtain ⟨zv, hz1, hz2, hz3⟩ := Zcv (w := w) hzero
    let cells0 : Array Value := (Array.range (n * 1)).map (fun x => zv.cells[x % zv.cells.size]!)
    obtain ⟨vs, cells', h1, h2, h2', h3, h4⟩ := ZkY (n := n) (i := 0) (cells := cells0) he hps h (by omega) (by simp [cells0])
    have hparts : (parts.map fun (p : Nat × Operand) => (p.1, a.eval p.2)).toList = parts.toList.map fun p => (p.1, a.eval p.2) := by simp
    rw [List.take_zero, List.nil_append] at h4
    refine ⟨.slice (some ⟨w.heap.size, 0, none⟩) n n, _, .inl ?_, ⟨ρ.up H.next (some (w.heap.size, 0)), _, _, h1, ?_, ?_, Rho.up_lt, by simp [Heap.push],
      hr.alloc (cells := cells') (t := el) h2' ⟨[], by rw [h4, List.append_nil], rfl⟩⟩⟩
    · have hsz : (sizeOf el).run P w = .ok 1 w := by simp [sizeOf, typeInfo, hi, hs]
      have h16 : ¬ (n * 1 > 2 ^ 24) := by omega
      have hn1 : ¬ (n * 1 = 0) := by omega
      simp only [execOp, hop, Instr.buildSlice, Sem.run_bind, run_underlying hu, Result.andThen_ok, hsz, if_neg h16, if_neg hn1, hz1, Sem.run_pure, hparts]
      have h3' := h3
      simp only [cells0] at h3'
      simp only [h3', newRow, Sem.run_bind, run_newObj, Result.andThen_ok, Sem.run_pure]
      rfl
    · simp [SVal.conc, SAddr.conc, Rho.up_same]
    · simp [SVal.ok, Heap.push, Rho.up_same]
  · cases hf
theorem ZqJ {m i : Nat} {hs : List (Tup [.hd])} {d : Chunk} (h : i < m) : (Zaf ρ [.rows [.hd] m hs, d])[i]? = some (Zbw (hs.getD i (none, 0, 0))) := by
  have hl : (Zaj [.hd] m hs).length = m := by rw [Zag]; simp [Zah, Leaf.len]
  simp only [Zaf, Chunk.conc]
  rw [List.getElem?_append_left (by omega)]
  unfold Zaj
  have e : ∀ i, ZaA [.hd] (hs.getD i (Tup.dflt [.hd])) = [Zbw (hs.getD i (none, 0, 0))] := fun i => rfl
  simp only [e]
  have : ((List.range m).flatMap fun i => [Zbw (hs.getD i (none, 0, 0))]) = (List.range m).map fun i => Zbw (hs.getD i (none, 0, 0)) := by
    induction List.range m with
    | nil => rfl
    | cons x r ih => rw [List.flatMap_cons, List.map_cons, ih]; rfl
  rw [this]
  simp [h]
theorem Zf6 : ∀ {l : List (Nat × Option Ent)} {i : Nat} {e : Ent}, ZkJ l = true -> ZcM l i = some e -> e.wr = false -> e.ex = 2 -> False
  | [], _, _, _, h, _, _ => by simp [ZcM] at h
  | (k, none) :: r, i, e, hn, h, h1, h2 => by
    rw [ZaD] at h
    split at h
    · cases h
    · exact Zf6 (l := r) hn h h1 h2
  | (k, some e0) :: r, i, e, hn, h, h1, h2 => by
    simp only [ZkJ, Bool.and_eq_true, Bool.or_eq_true] at hn
    rw [ZaD] at h
    split at h
    · cases h
      rcases hn.1 with h3 | h3
      · rw [h1] at h3; cases h3
      · rw [h2] at h3; simp at h3
    · exact Zf6 hn.2 h h1 h2
theorem Rel.pushRo {cs : List Chunk} {p : Option (Nat × Nat)} (h : Rel w0 fp ρ H w) (hna : ZkJ H.ents = true) (hok : ZaL (ρ.up H.next p) (H.next + 1) cs) (hh : ZbM cs = none) (hnil : p = none -> Zai cs = 0)
    (hc : ∀ b base, p = some (b, base) -> ∀ (i : Nat) v, (Zaf (ρ.up H.next p) cs)[i]? = some v -> w.cell? ⟨b, base + i, none⟩ = some v /\ ¬ Wr ρ H b (base + i)) : Rel w0 fp (ρ.up H.next p) (H.push ⟨false, cs, 0⟩) w := by
  have hup := Rho.up_lt (ρ := ρ) (id := H.next) (p := p)
  have hfind : ∀ i e', (H.push ⟨false, cs, 0⟩).find i = some e' -> (i = H.next /\ e' = ⟨false, cs, 0⟩) ∨ (i < H.next /\ i ≠ H.next /\ H.find i = some e') := fun i e' hi => by
    rw [Heap.find_push] at hi
    split at hi
    · rename_i hid; cases hi; exact .inl ⟨hid.symm, rfl⟩
    · rename_i hid; exact .inr ⟨h.next i e' hi, fun h => hid h.symm, hi⟩
  refine ⟨h.frame, fun i e' hi => ?_, fun i e' hi => ?_, fun i e' hi hw x o hx => ?_, fun i j e1 e2 hne hi hj hw x o hx hx' => ?_, fun i e' hi => ?_, fun i e' hi => ?_, fun i e' hi h1 h2 b base hb => ?_, AbsR.none fun i e' hi h1 h2 => ?_, ?_⟩
  · rcases hfind i e' hi with ⟨rfl, rfl⟩ | ⟨hl, hne, hi1⟩
    · exact ⟨fun hn => by rw [Rho.up_same] at hn; simp [Ent.size, hnil hn], fun b base hb k v hv => (by rw [Rho.up_same] at hb; exact (hc b base hb k v hv).1), fun hw => (by cases hw), fun _ h2 => (by cases h2)⟩
    · exact (h.ents i e' hi1).congr hup hl (h.oks i e' hi1) (fun _ _ _ => rfl) (fun _ _ _ _ => rfl) fun _ _ _ h => h
  · rcases hfind i e' hi with ⟨rfl, rfl⟩ | ⟨hl, hne, hi1⟩
    · exact hok
    · exact Za4 hup (by simp [Heap.push]) _ (h.oks i e' hi1)
  · rcases hfind i e' hi with ⟨rfl, rfl⟩ | ⟨hl, hne, hi1⟩
    · cases hw
    · exact h.own i e' hi1 hw x o ((Win.congr (hup i hl)).1 hx)
  · rcases hfind i e1 hi with ⟨rfl, rfl⟩ | ⟨hl, hn1, hi1⟩
    · cases hw
    · have hx1 := (Win.congr (hup i hl)).1 hx
      rcases hfind j e2 hj with ⟨rfl, rfl⟩ | ⟨hl2, hn2, hj1⟩
      · obtain ⟨base, hb, q1, q2⟩ := hx'
        rw [Rho.up_same] at hb
        simp only [Ent.size, Nat.add_zero] at q2
        have hlt : o - base < (Zaf (ρ.up H.next p) cs).length := by rw [Zap]; omega
        have := (hc x base hb (o - base) _ (List.getElem?_eq_getElem hlt)).2
        rw [show base + (o - base) = o by omega] at this
        exact this ⟨i, e1, hi1, hw, hx1⟩
      · exact h.apart i j e1 e2 hne hi1 hj1 hw x o hx1 ((Win.congr (hup j hl2)).1 hx')
  · rcases hfind i e' hi with ⟨rfl, rfl⟩ | ⟨hl, hne, hi⟩ <;> simp [Heap.push] <;> omega
  · rcases hfind i e' hi with ⟨rfl, rfl⟩ | ⟨hl, hne, hi1⟩
    · exact .inr (.inl rfl)
    · exact h.ro i e' hi1
  · rcases hfind i e' hi with ⟨rfl, rfl⟩ | ⟨hl, hne, hi1⟩
    · cases h2
    · rw [hup i hl] at hb; exact h.mnew i e' hi1 h1 h2 b base hb
  · rcases hfind i e' hi with ⟨rfl, rfl⟩ | ⟨hl, hne, hi1⟩
    · cases h2
    · exact Zf6 hna hi1 h1 h2
  · refine h.hid.to3 (fun i e' hi hwr => ?_) (fun x o v _ ⟨i, e', hi, hwr, hw⟩ => ?_) fun _ _ _ hc _ => hc
    · rcases hfind i e' hi with ⟨rfl, rfl⟩ | ⟨hl, hne, hi1⟩
      · exact .inr (.inr hh)
      · exact .inr (.inl ⟨i, e', hi1, hwr, fun _ => rfl⟩)
    · rcases hfind i e' hi with ⟨rfl, rfl⟩ | ⟨hl, hne, hi1⟩
      · cases hwr
      · exact ⟨i, e', hi1, hwr, (Win.congr (hup i hl)).1 hw⟩
theorem ZkN {x : Opd} (hf : (AOp.loadHr x).fits P o.op = true) (he : EnvOk ρ H.next nt e a.tmps) (hr : Rel w0 fp ρ H w) {Γ} (h : Za7 Γ (.loadHr x) e H K) : Runs P a o w (OpPost w0 fp ρ H K) := by
  simp only [AOp.fits] at hf
  simp only [Za7] at h
  split at hf
  · rename_i t x' hop
    rw [Bool.and_eq_true] at hf
    obtain ⟨v, h, hok, h3⟩ := Opd.ev_sound hf.1 he h
    split at h
    · rename_i ad n
      simp only [SVal.ok] at hok
      -- what the header tells
      have key : ∀ (en : Ent) (m : Nat) (hs : List Hdr) (f : Nat -> Nat × List Value), H.find ad.id = some en -> en.wr = false -> ZbM en.cs = some (m, hs, f) -> (∀ i, i < m -> (Zaf ρ en.cs)[i]? = some (Zbw (hs.getD i (none, 0, 0)))) -> ad.off = 0 -> ad.st = 1 -> ZkJ H.ents = true ->
          ad.idx < m -> ∀ (cs : List Chunk) (st : Nat), (∀ ρ', Zaf ρ' cs = (f ad.idx).2) -> (∀ ρ' n', ZaL ρ' n' cs) -> ZbM cs = none -> Zai cs = (f ad.idx).2.length -> ((f ad.idx).1 = 0 -> (f ad.idx).2 = []) ->
          (∀ c : Nat, (f ad.idx).1 <= c -> K (.slice ⟨H.next, 0, 0, st⟩ (f ad.idx).1 c) (H.push ⟨false, cs, 0⟩)) -> Runs P a o w (OpPost w0 fp ρ H K) := by
        intro en m hs f hen hwr hhid hcell h0 h1 hna hlt cs st hcc hcok hch hcl hz hK
        obtain ⟨b, base, hb, hc, hent⟩ := Zgx hr hok hen
        rw [h0, h1, Nat.zero_add, Nat.mul_one] at hc
        have hw := hent.cells b base hb _ _ (hcell _ hlt)
        have hrow := hr.hid ad.id en m hs f hen hwr hhid ad.idx hlt
        have hrun : (execOp a.eval o).run P w = .ok (.value (Zbw (hs.getD ad.idx (none, 0, 0)))) w := by
          simp only [SVal.conc, hc] at h3
          simp [execOp, hop, h3, Instr.loadAt, Instr.sureAddr, loadVar, Zdm hf.2, hw]
        refine ⟨_, w, .inl hrun, ρ.up H.next (hs.getD ad.idx (none, 0, 0)).1, _, _, hK (hs.getD ad.idx (none, 0, 0)).2.2 ?_, ?_, ?_, Rho.up_lt, by simp [Heap.push], ?_⟩
        · rcases hrow with ⟨q1, q2, _⟩ | ⟨b1, o1, c1, q1, q2, _⟩
          · rw [q2]; exact Nat.zero_le _
          · rw [q1]; exact q2
        · rcases hrow with ⟨q1, q2, _⟩ | ⟨b1, o1, c1, q1, q2, _⟩
          · rw [q1, q2]; simp [Zbw, SVal.conc, SAddr.conc, Rho.up_same]
          · rw [q1]; simp [Zbw, SVal.conc, SAddr.conc, Rho.up_same]
        · simp only [SVal.ok, Heap.push, Rho.up_same]
          refine ⟨by omega, fun hn => ?_⟩
          rcases hrow with ⟨q1, q2, _⟩ | ⟨b1, o1, c1, q1, q2, _⟩
          · rw [q1, q2]; exact ⟨rfl, rfl⟩
          · rw [q1] at hn; cases hn
        · refine hr.pushRo hna (hcok _ _) hch (fun hn => ?_) fun b2 base2 hb2 i v hv => ?_
          · rcases hrow with ⟨q1, q2, q3⟩ | ⟨b1, o1, c1, q1, q2, _⟩
            · rw [hcl, q3]; rfl
            · rw [q1] at hn; cases hn
          · rw [hcc] at hv
            rcases hrow with ⟨q1, q2, q3⟩ | ⟨b1, o1, c1, q1, q2, q3⟩
            · rw [q1] at hb2; cases hb2
            · rw [q1] at hb2
              cases hb2
              exact q3 i v hv
      split at h
      · rename_i m hs cs ex hen
        obtain ⟨h0, h1, h⟩ := Zal h
        simp only [Bool.and_eq_true] at h0
        refine key _ m hs _ hen rfl rfl (fun i hi => ?_) (Zas h0.1.1) (Zas h0.1.2) h0.2 h1 [.rows [.int .i64, .int .i64] (ZaU cs ad.idx).length (ZaU cs ad.idx)] 2 (fun ρ' => by simp [Zaf, Chunk.conc]) (fun _ _ => ⟨trivial, trivial⟩) rfl (by show Zai [.rows [.int .i64, .int .i64] (ZaU cs ad.idx).length (ZaU cs ad.idx)] = (Zaj [.int .i64, .int .i64] (ZaU cs ad.idx).length (ZaU cs ad.idx)).length; rw [Zag]; rfl) (fun hz => ?_) h
        · exact ZqJ hi
        · have := List.eq_nil_of_length_eq_zero hz
          simp only [this]; rfl
      · rename_i m hs k cs ex hen
        obtain ⟨h0, h1, h⟩ := Zal h
        simp only [Bool.and_eq_true] at h0
        refine key _ m hs (fun i => ((List.getD cs i []).length, Zat k (List.getD cs i []).length (List.getD cs i []))) hen rfl (by cases k <;> rfl) (fun i hi => ?_) (Zas h0.1.1) (Zas h0.1.2) h0.2 h1 [.ints k (List.getD cs ad.idx []).length (List.getD cs ad.idx [])] 1 (fun ρ' => by simp [Zaf, Chunk.conc]) (fun _ _ => ⟨trivial, trivial⟩) rfl (by simp [Zai, Chunk.len, Zae]) (fun hz => ?_) h
        · exact ZqJ hi
        · have := List.eq_nil_of_length_eq_zero hz
          simp only [this]; rfl
      · exact h.elim
    · exact h.elim
  · cases hf
end
end Go.Sx
