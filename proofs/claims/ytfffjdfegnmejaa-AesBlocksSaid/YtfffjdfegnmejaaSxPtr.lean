/- Part of the proof: SxPtr. -/
import Derived.Test.YtfffjdfegnmejaaSxDel
set_option linter.unusedVariables false
set_option linter.unusedSimpArgs false
namespace Go.Sx
section
variable {P : Program} {a : Act} {o : Oper} {w w0 : World} {fp : Nat -> Nat -> Prop} {ρ : Rho} {H : Heap} {e : Env} {nt : Nat} {K : SVal -> Heap -> Prop}
theorem ZjN {K : SVal -> Prop} : ∀ {cs : List Chunk} {n : Nat}, ZlM K cs n -> ∀ {ρ : Rho} {m : Nat}, ZaE ρ m cs -> ∃ v, K v /\ v.ok ρ m /\ (Zab ρ cs)[n]? = some (v.conc ρ)
  | [], _, h, _, _, _ => by simp [ZlM] at h
  | [.one v], n, h, ρ, m, hok => by
    obtain ⟨rfl, h⟩ := h
    exact ⟨v, h, hok.1, by simp [Zab, Chunk.conc]⟩
  | .one v :: c :: r, n, h, ρ, m, hok => by
    have h' : (decide (n = 0) = true -> K v) /\ (decide (n = 0) = false -> ZlM K (c :: r) (n - 1)) := h
    by_cases hn : n = 0
    · subst hn
      exact ⟨v, h'.1 (by decide), hok.1, by simp [Zab, Chunk.conc]⟩
    · obtain ⟨u, h1, h2, h3⟩ := ZjN (h'.2 (decide_eq_false hn)) (m := m) hok.2
      refine ⟨u, h1, h2, ?_⟩
      obtain ⟨k, rfl⟩ : ∃ k, n = k + 1 := ⟨n - 1, by omega⟩
      rw [Nat.add_sub_cancel] at h3
      simpa [Zab, Chunk.conc] using h3
  | [.ints _ _ _], _, h, _, _, _ => by simp [ZlM] at h
  | [.rows _ _ _], _, h, _, _, _ => by simp [ZlM] at h
  | .ints _ _ _ :: _ :: _, _, h, _, _, _ => by simp [ZlM] at h
  | .rows _ _ _ :: _ :: _, _, h, _, _, _ => by simp [ZlM] at h
theorem Zdp {x : Opd} (hf : (AOp.load1P x).fits P o.op = true) (he : EnvOk ρ H.next nt e a.tmps) (hr : Rel w0 fp ρ H w) {Γ} (h : ZaV Γ (.load1P x) e H K) : Looks P a o w0 fp ρ H K := by
  simp only [AOp.fits] at hf
  simp only [ZaV] at h
  split at hf
  · rename_i t x' hop
    rw [Bool.and_eq_true] at hf
    obtain ⟨v, h, hok, h3⟩ := Opd.ev_sound hf.1 he h
    split at h
    · rename_i ad n
      simp only [SVal.ok] at hok
      split at h
      · rename_i en hen
        obtain ⟨h0, h⟩ := Zai h
        rw [Bool.and_eq_true] at h0
        obtain ⟨b, base, hb, hc, hent⟩ := ZgE hr hok hen
        obtain ⟨u, hK, huok, hu⟩ := ZjN h (hr.oks _ _ hen)
        have hcell := fun (w : World) (hr : Rel w0 fp ρ H w) => (hr.ents _ _ hen).cells b base hb _ _ hu
        refine ⟨_, hK, huok, fun w hr => ?_⟩
        rw [Zaq h0.1, Zaq h0.2, Nat.zero_add, Nat.mul_one] at hc
        simp only [SVal.conc, hc] at h3
        simp [execOp, hop, h3, Instr.loadAt, Instr.sureAddr, loadVar, Zcr hf.2, hcell w hr]
      · exact h.elim
    · exact h.elim
  · cases hf
theorem Zs4 {t : TypeId} (h : ZEd P t = true) : ∃ el i, P.underlying t = some (.slice el) /\ P.info? el = some i /\ i.size = 1 /\ ZcX P el [.one .nilptr] = true := by
  unfold ZEd at h
  split at h
  · rename_i el hu
    split at h
    · rename_i i hi
      rw [Bool.and_eq_true] at h
      exact ⟨el, i, hu, hi, Zaq h.1, h.2⟩
    · cases h
  · cases h
theorem Zod {n : Nat} {a : Act} (he : EnvOk ρ H.next nt e a.tmps) : ∀ {ps : List Opd} {qs : List (Nat × Operand)} {i : Nat} {K : List SVal -> Prop} {cells : Array Value}, Zkn i ps qs = true -> Zsa e ps K -> i + ps.length = n -> cells.size = n ->
    ∃ vs cells', K vs /\ vs.length = ps.length /\ ZaE ρ H.next (vs.map Chunk.one) /\ Instr.fill (fun i => some (i * 1, 1)) cells (qs.map fun p => (p.1, a.eval p.2)) = some cells' /\ cells'.toList = cells.toList.take i ++ Zab ρ (vs.map Chunk.one)
  | [], [], i, K, cells, _, h, hn, hc => by
    simp only [List.length_nil, Nat.add_zero] at hn
    subst hn
    exact ⟨[], cells, h, rfl, trivial, rfl, by rw [List.take_of_length_le (by rw [Array.length_toList, hc]; exact Nat.le_refl _)]; simp [Zab]⟩
  | x :: r, (j, y) :: q, i, K, cells, hf, h, hn, hc => by
    simp only [Zkn, Bool.and_eq_true] at hf
    obtain rfl := Zaq hf.1.1
    simp only [Zsa] at h
    obtain ⟨v, h1, h2, h3⟩ := Opd.ev_sound hf.1.2 he h
    split at h1
    · rename_i ad m
      have hvs : ((SVal.ptr ad m).conc ρ).cells.toList = [(SVal.ptr ad m).conc ρ] := by simp [SVal.conc, Value.cells]
      have hsz : ((SVal.ptr ad m).conc ρ).cells.size = 1 := by rw [<- Array.length_toList, hvs]; rfl
      simp only [List.length_cons] at hn
      obtain ⟨cells1, h6, h7⟩ := ZgW (fun i => some (i * 1, 1)) cells i ((SVal.ptr ad m).conc ρ) (q.map fun p => (p.1, a.eval p.2)) rfl hsz (by omega)
      rw [hvs, Nat.mul_one] at h7
      have hlen : (cells.toList.take i).length = i := by rw [List.length_take, Array.length_toList]; omega
      have hc1 : cells1.size = n := by
        rw [<- Array.length_toList, h7]
        simp only [List.length_append, hlen, List.length_singleton, List.length_drop, Array.length_toList]
        omega
      obtain ⟨vs, cells', g1, g2, g3, g4, g5⟩ := Zod he hf.2 h1 (by omega) hc1
      refine ⟨.ptr ad m :: vs, cells', g1, by simp [g2], ⟨h2, g3⟩, by rw [List.map_cons, h3, h6]; exact g4, ?_⟩
      rw [g5, h7, List.take_left' (by rw [List.length_append, hlen]; rfl), List.map_cons, Zab, Chunk.conc, List.append_assoc]
    · exact h1.elim
  | [], _ :: _, _, _, _, hf, _, _, _ => by cases hf
  | _ :: _, [], _, _, _, hf, _, _, _ => by cases hf
theorem Zni {n : Nat} {ps : List Opd} (hf : (AOp.bsliceV n ps).fits P o.op = true) (he : EnvOk ρ H.next nt e a.tmps) (hr : Rel w0 fp ρ H w) {Γ} (h : ZaV Γ (.bsliceV n ps) e H K) : Runs P a o w (OpPost w0 fp ρ H K) := by
  simp only [AOp.fits] at hf
  simp only [ZaV] at h
  split at hf
  · rename_i t n' parts hop
    simp only [Bool.and_eq_true] at hf
    obtain ⟨⟨⟨⟨⟨hn, hn0⟩, hle⟩, hpl⟩, hps⟩, ht⟩ := hf
    obtain rfl := Zaq hn
    have hpl := Zaq hpl
    have hle := Nat.le_of_ble_eq_true hle
    have hn0 := Nat.le_of_ble_eq_true hn0
    obtain ⟨el, inf, hu, hi, hs, hzero⟩ := Zs4 ht
    obtain ⟨zv, hz1, hz2, hz3⟩ := ZcC (w := w) hzero
    let cells0 : Array Value := (Array.range (n * 1)).map (fun x => zv.cells[x % zv.cells.size]!)
    obtain ⟨vs, cells', h1, h2, h2', h3, h4⟩ := Zod (n := n) (i := 0) (cells := cells0) he hps h (by omega) (by simp [cells0])
    have hparts : (parts.map fun (p : Nat × Operand) => (p.1, a.eval p.2)).toList = parts.toList.map fun p => (p.1, a.eval p.2) := by simp
    rw [List.take_zero, List.nil_append] at h4
    refine ⟨.slice (some ⟨w.heap.size, 0, none⟩) n n, _, .inl ?_, ⟨ρ.up H.next (some (w.heap.size, 0)), _, _, h1, ?_, ?_, Rho.up_lt, by simp [Heap.push],
      hr.alloc (cells := cells') (t := el) h2' ⟨[], by rw [h4, List.append_nil], rfl⟩ (by cases vs <;> rfl)⟩⟩
    · have hsz : (sizeOf el).run P w = .ok 1 w := by simp [sizeOf, typeInfo, hi, hs]
      have h16 : ¬ (n * 1 > 2 ^ 24) := by omega
      have hn1 : ¬ (n * 1 = 0) := by omega
      simp only [execOp, hop, Instr.buildSlice, Sem.run_bind, run_underlying hu, Result.andThen_ok, hsz, if_neg h16, if_neg hn1, hz1, Sem.run_pure, hparts]
      have h3' := h3
      simp only [cells0] at h3'
      simp only [h3', newRow, Sem.run_bind, run_newObj, Result.andThen_ok, Sem.run_pure]
      rfl
    · simp [SVal.conc, SAddr.conc, Rho.up_same]
    · simp [SVal.ok, Heap.push, Rho.up_same]
  · cases hf
theorem Zo4 {m i : Nat} {hs : List (Tup [.hd])} {d : Chunk} (h : i < m) : (Zab ρ [.rows [.hd] m hs, d])[i]? = some (ZaQ (hs.getD i (none, 0, 0))) := by
  have hl : (Zal [.hd] m hs).length = m := by rw [Zag]; simp [Zaj, Leaf.len]
  simp only [Zab, Chunk.conc]
  rw [List.getElem?_append_left (by omega)]
  unfold Zal
  have e : ∀ i, ZaB [.hd] (hs.getD i (Tup.dflt [.hd])) = [ZaQ (hs.getD i (none, 0, 0))] := fun i => rfl
  simp only [e]
  have : ((List.range m).flatMap fun i => [ZaQ (hs.getD i (none, 0, 0))]) = (List.range m).map fun i => ZaQ (hs.getD i (none, 0, 0)) := by
    induction List.range m with
    | nil => rfl
    | cons x r ih => rw [List.flatMap_cons, List.map_cons, ih]; rfl
  rw [this]
  simp [h]
theorem Zhs : ∀ {l : List (Nat × Option Ent)} {i : Nat} {e : Ent}, ZnV l = true -> Zc9 l i = some e -> e.wr = false -> e.ex = 2 -> False
  | [], _, _, _, h, _, _ => by simp [Zc9] at h
  | (k, none) :: r, i, e, hn, h, h1, h2 => by
    rw [ZaF] at h
    split at h
    · cases h
    · exact Zhs (l := r) hn h h1 h2
  | (k, some e0) :: r, i, e, hn, h, h1, h2 => by
    simp only [ZnV, Bool.and_eq_true, Bool.or_eq_true] at hn
    rw [ZaF] at h
    split at h
    · cases h
      rcases hn.1 with h3 | h3
      · rw [h1] at h3; cases h3
      · rw [h2] at h3; simp at h3
    · exact Zhs hn.2 h h1 h2
theorem Rel.pushRo {cs : List Chunk} {p : Option (Nat × Nat)} (h : Rel w0 fp ρ H w) (hna : ZnV H.ents = true) (hok : ZaE (ρ.up H.next p) (H.next + 1) cs) (hh : Za2 cs = none) (hnil : p = none -> Zam cs = 0)
    (hc : ∀ b base, p = some (b, base) -> ∀ (i : Nat) v, (Zab (ρ.up H.next p) cs)[i]? = some v -> w.cell? ⟨b, base + i, none⟩ = some v /\ ¬ Wr ρ H b (base + i)) : Rel w0 fp (ρ.up H.next p) (H.push ⟨false, cs, 0⟩) w := by
  have hup := Rho.up_lt (ρ := ρ) (id := H.next) (p := p)
  have hfind : ∀ i e', (H.push ⟨false, cs, 0⟩).find i = some e' -> (i = H.next /\ e' = ⟨false, cs, 0⟩) ∨ (i < H.next /\ i ≠ H.next /\ H.find i = some e') := fun i e' hi => by
    rw [Heap.find_push] at hi
    split at hi
    · rename_i hid; cases hi; exact .inl ⟨hid.symm, rfl⟩
    · rename_i hid; exact .inr ⟨h.next i e' hi, fun h => hid h.symm, hi⟩
  refine ⟨h.frame, fun i e' hi => ?_, fun i e' hi => ?_, fun i e' hi hw x o hx => ?_, fun i j e1 e2 hne hi hj hw x o hx hx' => ?_, fun i e' hi => ?_, fun i e' hi => ?_, fun i e' hi h1 h2 b base hb => ?_, AbsR.none fun i e' hi h1 h2 => ?_, ?_⟩
  · rcases hfind i e' hi with ⟨rfl, rfl⟩ | ⟨hl, hne, hi1⟩
    · exact ⟨fun hn => by rw [Rho.up_same] at hn; simp [Ent.size, hnil hn], fun b base hb k v hv => (by rw [Rho.up_same] at hb; exact (hc b base hb k v hv).1), fun hw => (by cases hw), fun _ h2 => (by cases h2)⟩
    · exact (h.ents i e' hi1).congr hup hl (h.oks i e' hi1) (fun _ _ _ => rfl) (fun _ _ _ _ => rfl) fun _ _ _ h => h
  · rcases hfind i e' hi with ⟨rfl, rfl⟩ | ⟨hl, hne, hi1⟩
    · exact hok
    · exact Za8 hup (by simp [Heap.push]) _ (h.oks i e' hi1)
  · rcases hfind i e' hi with ⟨rfl, rfl⟩ | ⟨hl, hne, hi1⟩
    · cases hw
    · exact h.own i e' hi1 hw x o ((Win.congr (hup i hl)).1 hx)
  · rcases hfind i e1 hi with ⟨rfl, rfl⟩ | ⟨hl, hn1, hi1⟩
    · cases hw
    · have hx1 := (Win.congr (hup i hl)).1 hx
      rcases hfind j e2 hj with ⟨rfl, rfl⟩ | ⟨hl2, hn2, hj1⟩
      · obtain ⟨base, hb, q1, q2⟩ := hx'
        rw [Rho.up_same] at hb
        simp only [Ent.size, Nat.add_zero] at q2
        have hlt : o - base < (Zab (ρ.up H.next p) cs).length := by rw [Zan]; omega
        have := (hc x base hb (o - base) _ (List.getElem?_eq_getElem hlt)).2
        rw [show base + (o - base) = o by omega] at this
        exact this ⟨i, e1, hi1, hw, hx1⟩
      · exact h.apart i j e1 e2 hne hi1 hj1 hw x o hx1 ((Win.congr (hup j hl2)).1 hx')
  · rcases hfind i e' hi with ⟨rfl, rfl⟩ | ⟨hl, hne, hi⟩ <;> simp [Heap.push] <;> omega
  · rcases hfind i e' hi with ⟨rfl, rfl⟩ | ⟨hl, hne, hi1⟩
    · exact .inr (.inl rfl)
    · exact h.ro i e' hi1
  · rcases hfind i e' hi with ⟨rfl, rfl⟩ | ⟨hl, hne, hi1⟩
    · cases h2
    · rw [hup i hl] at hb; exact h.mnew i e' hi1 h1 h2 b base hb
  · rcases hfind i e' hi with ⟨rfl, rfl⟩ | ⟨hl, hne, hi1⟩
    · cases h2
    · exact Zhs hna hi1 h1 h2
  · refine h.hid.to3 (fun i e' hi => ?_) (fun x o v _ ⟨i, e', hi, hwr, hw⟩ => ?_) fun _ _ _ hc _ => hc
    · rcases hfind i e' hi with ⟨rfl, rfl⟩ | ⟨hl, hne, hi1⟩
      · exact .inr (.inr hh)
      · exact .inr (.inl ⟨i, e', hi1, fun h => h, fun _ => rfl⟩)
    · rcases hfind i e' hi with ⟨rfl, rfl⟩ | ⟨hl, hne, hi1⟩
      · cases hwr
      · exact ⟨i, e', hi1, hwr, (Win.congr (hup i hl)).1 hw⟩
theorem Zn3 {x : Opd} (hf : (AOp.loadHr x).fits P o.op = true) (he : EnvOk ρ H.next nt e a.tmps) (hr : Rel w0 fp ρ H w) {Γ} (h : ZaV Γ (.loadHr x) e H K) : Runs P a o w (OpPost w0 fp ρ H K) := by
  simp only [AOp.fits] at hf
  simp only [ZaV] at h
  split at hf
  · rename_i t x' hop
    rw [Bool.and_eq_true] at hf
    obtain ⟨v, h, hok, h3⟩ := Opd.ev_sound hf.1 he h
    split at h
    · rename_i ad n
      simp only [SVal.ok] at hok
      -- what the header tells
      have key : ∀ (en : Ent) (m : Nat) (hs : List Hdr) (f : Nat -> Nat × List Value), H.find ad.id = some en -> Za2 en.cs = some (m, hs, f) -> (∀ i, i < m -> (Zab ρ en.cs)[i]? = some (ZaQ (hs.getD i (none, 0, 0)))) -> ad.off = 0 -> ad.st = 1 -> ZnV H.ents = true ->
          ad.idx < m -> ∀ (cs : List Chunk) (st : Nat), (∀ ρ', Zab ρ' cs = (f ad.idx).2) -> (∀ ρ' n', ZaE ρ' n' cs) -> Za2 cs = none -> Zam cs = (f ad.idx).2.length -> ((f ad.idx).1 = 0 -> (f ad.idx).2 = []) ->
          (∀ c : Nat, (f ad.idx).1 <= c -> K (.slice ⟨H.next, 0, 0, st⟩ (f ad.idx).1 c) (H.push ⟨false, cs, 0⟩)) -> Runs P a o w (OpPost w0 fp ρ H K) := by
        intro en m hs f hen hhid hcell h0 h1 hna hlt cs st hcc hcok hch hcl hz hK
        obtain ⟨b, base, hb, hc, hent⟩ := ZgE hr hok hen
        rw [h0, h1, Nat.zero_add, Nat.mul_one] at hc
        have hw := hent.cells b base hb _ _ (hcell _ hlt)
        have hrow0 := hr.hid ad.id en m hs f hen hhid ad.idx hlt
        have hrow : HidRow w (Wr ρ H) (hs.getD ad.idx (none, 0, 0)) (f ad.idx) := hrow0.to (fun _ _ _ _ hx => .inl hx) fun _ _ _ hc _ => hc
        have hrun : (execOp a.eval o).run P w = .ok (.value (ZaQ (hs.getD ad.idx (none, 0, 0)))) w := by
          simp only [SVal.conc, hc] at h3
          simp [execOp, hop, h3, Instr.loadAt, Instr.sureAddr, loadVar, Zcr hf.2, hw]
        refine ⟨_, w, .inl hrun, ρ.up H.next (hs.getD ad.idx (none, 0, 0)).1, _, _, hK (hs.getD ad.idx (none, 0, 0)).2.2 ?_, ?_, ?_, Rho.up_lt, by simp [Heap.push], ?_⟩
        · rcases hrow with ⟨q1, q2, _⟩ | ⟨b1, o1, c1, q1, q2, _⟩
          · rw [q2]; exact Nat.zero_le _
          · rw [q1]; exact q2
        · rcases hrow with ⟨q1, q2, _⟩ | ⟨b1, o1, c1, q1, q2, _⟩
          · rw [q1, q2]; simp [ZaQ, SVal.conc, SAddr.conc, Rho.up_same]
          · rw [q1]; simp [ZaQ, SVal.conc, SAddr.conc, Rho.up_same]
        · simp only [SVal.ok, Heap.push, Rho.up_same]
          refine ⟨by omega, fun hn => ?_⟩
          rcases hrow with ⟨q1, q2, _⟩ | ⟨b1, o1, c1, q1, q2, _⟩
          · rw [q1, q2]; exact ⟨rfl, rfl⟩
          · rw [q1] at hn; cases hn
        · refine hr.pushRo hna (hcok _ _) hch (fun hn => ?_) fun b2 base2 hb2 i v hv => ?_
          · rcases hrow with ⟨q1, q2, q3⟩ | ⟨b1, o1, c1, q1, q2, _⟩
            · rw [hcl, q3]; rfl
            · rw [q1] at hn; cases hn
          · rw [hcc] at hv
            rcases hrow with ⟨q1, q2, q3⟩ | ⟨b1, o1, c1, q1, q2, q3⟩
            · rw [q1] at hb2; cases hb2
            · rw [q1] at hb2
              cases hb2
              exact q3 i v hv
      split at h
      · rename_i m hs cs ex hen
        obtain ⟨h0, h1, h⟩ := Zai h
        simp only [Bool.and_eq_true] at h0
        refine key _ m hs _ hen rfl (fun i hi => ?_) (Zaq h0.1.1) (Zaq h0.1.2) h0.2 h1 [.rows [.int .i64, .int .i64] (ZdV cs ad.idx).length (ZdV cs ad.idx)] 2 (fun ρ' => by simp [Zab, Chunk.conc]) (fun _ _ => ⟨trivial, trivial⟩) rfl (by show Zam [.rows [.int .i64, .int .i64] (ZdV cs ad.idx).length (ZdV cs ad.idx)] = (Zal [.int .i64, .int .i64] (ZdV cs ad.idx).length (ZdV cs ad.idx)).length; rw [Zag]; rfl) (fun hz => ?_) h
        · exact Zo4 hi
        · have := List.eq_nil_of_length_eq_zero hz
          simp only [this]; rfl
      · rename_i wr m hs k cs ex hen
        obtain ⟨h0, h1, h⟩ := Zai h
        simp only [Bool.and_eq_true] at h0
        refine key _ m hs (fun i => ((List.getD cs i []).length, Zap k (List.getD cs i []).length (List.getD cs i []))) hen (by cases k <;> rfl) (fun i hi => ?_) (Zaq h0.1.1) (Zaq h0.1.2) h0.2 h1 [.ints k (List.getD cs ad.idx []).length (List.getD cs ad.idx [])] 1 (fun ρ' => by simp [Zab, Chunk.conc]) (fun _ _ => ⟨trivial, trivial⟩) rfl (by simp [Zam, Chunk.len, Zac]) (fun hz => ?_) h
        · exact Zo4 hi
        · have := List.eq_nil_of_length_eq_zero hz
          simp only [this]; rfl
      · exact h.elim
    · exact h.elim
  · cases hf
theorem Zkp {sh : List Leaf} {x y : Opd} (hf : (AOp.appendRW sh x y).fits P o.op = true) (he : EnvOk ρ H.next nt e a.tmps) (hr : Rel w0 fp ρ H w) {Γ} (h : ZaV Γ (.appendRW sh x y) e H K) : Runs P a o w (OpPost w0 fp ρ H K) := by
  simp only [AOp.fits] at hf
  simp only [ZaV] at h
  split at hf
  · rename_i xs ts hop
    rw [Bool.and_eq_true] at hf
    obtain ⟨u, v, h', hok, hok', h3⟩ := ZcQ hf.1 he h
    clear h
    obtain ⟨t, t', hts, ht, ht'⟩ := Zgy hf.2
    obtain ⟨el, i, z, hu, hi, hs1, hb8, hst1, hz, hzc0, _⟩ := ZcT ht
    have hzc : z.cells.size = Zaj sh := by rw [<- Array.length_toList, hzc0, Zau]
    have hta : ts = #[t, t'] := by rw [<- Array.toArray_toList (xs := ts), hts]
    obtain ⟨n, ys, h, hyl, hsrc0⟩ := ZkB (w0 := w0) (fp := fp) hok' h'
    clear h'
    have hsrc := ZoP ht' hsrc0 hr
    have hexec : (execOp a.eval o).run P w = ((Builtin.append_ #[t, t'] o.type #[u.conc ρ, v.conc ρ]).run P w).andThen fun v w' => .ok (.value v) w' := by
      simp [execOp, hop, resolve, invoke, builtin, h3, hta]
    suffices hs : ∃ r w', (Builtin.append_ #[t, t'] o.type #[u.conc ρ, v.conc ρ]).run P w = .ok r w' /\ OpPost w0 fp ρ H K r w' by
      obtain ⟨r, w', h1, h2⟩ := hs
      exact ⟨r, w', .inl (by rw [hexec, h1]; rfl), h2⟩
    have hnil : ∀ (H' : Heap), H'.next = H.next -> Rel w0 fp ρ H' w -> u.conc ρ = .slice none 0 0 -> n <= 1000000000 -> (∀ c, n <= c -> K (.slice ⟨H.next, 0, 0, Zaj sh⟩ n c) (H'.push ⟨true, [.rows sh n ys], (c - n) * Zaj sh⟩)) ->
        ∃ r w', (Builtin.append_ #[t, t'] o.type #[u.conc ρ, v.conc ρ]).run P w = .ok r w' /\ OpPost w0 fp ρ H K r w' := fun H' hnx hr' hu0 hbd hK => by
      rw [hu0]
      rcases Nat.eq_zero_or_pos n with h0 | hp
      · subst h0
        have hnil : Zal sh 0 ys = [] := by simp [Zal]
        rw [hnil] at hsrc
        have hrun := run_append_nothing (P := P) w t t' o.type el i hu hi none 0 0 (Nat.le_refl _) _ (by rw [hs1]; exact hsrc)
        have hp := hr'.pushE none (cs := [.rows sh 0 ys]) (by simp [ZaE, Chunk.ok]) (by simp [Zam, Chunk.len])
        rw [hnx] at hp
        have hk0 := hK 0 (Nat.le_refl _)
        refine ⟨_, _, hrun, ρ.up H.next none, _, _, hk0, ?_, ?_, Rho.up_lt, by simp [Heap.push, hnx], by simpa using hp⟩
        · simp [SVal.conc, SAddr.conc, Rho.up_same]
        · simp [SVal.ok, Heap.push, hnx]
      · have := ZjM (P := P) (ty := o.type) (K := K) (H := H') (len := 0) (cap := 0) (xs := []) hu hi hs1 hb8 hz hzc hr' rfl hyl (by simpa [Zal] using run_firstCells_none (P := P) w.drew (Zaj sh) 0 0 0) hsrc (by omega) (by omega) (fun c hc => by
          simpa [hnx] using hK c (by omega))
        obtain ⟨r, w', h1, ρ', sv, H'', g1, g2, g3, g4, g5, g6⟩ := this
        exact ⟨r, w', h1, ρ', sv, H'', g1, g2, g3, fun id hid => g4 id (by rw [hnx]; exact hid), by rw [<- hnx]; exact g5, g6⟩
    split at h
    · exact hnil H rfl hr rfl h.1 h.2
    · rename_i ad len cap
      simp only [SVal.ok] at hok
      split at h
      · rename_i en hen
        obtain ⟨h0, h⟩ := Zai h
        rw [Bool.and_eq_true, Bool.and_eq_true] at h0
        have ho0 := Zaq h0.1.2
        have hi0 := Zaq h0.2
        have hwr := h0.1.1
        split at h
        · rename_i sh' m xs hcs
          split at h
          · rename_i hsh
            subst hsh
            obtain ⟨h1, h2, h4, h5, h6⟩ := h
            simp only [ZbQ] at h6
            subst h1
            have hcm : m <= cap := Nat.le_of_mul_le_mul_right (by omega : m * Zaj sh' <= cap * Zaj sh') (by omega)
            cases hρ : ρ ad.id with
            | none =>
              have hlc := hok.2 hρ
              have hx0 : xs = [] := List.eq_nil_of_length_eq_zero (by omega)
              obtain ⟨rfl, hc0⟩ := hlc
              refine hnil (H.drop ad.id) rfl (hr.drop _) (by simp [SVal.conc, SAddr.conc, hρ, hc0]) (by omega) (fun c hc => ?_)
              have := h6 c (by omega)
              simpa [hx0] using this
            | some p =>
              obtain ⟨b, base⟩ := p
              have hE := hr.ents _ _ hen
              have huc : SVal.conc ρ (.slice ad m cap) = .slice (some ⟨b, base, none⟩) m cap := by simp [SVal.conc, SAddr.conc, hρ, ho0, hi0]
              have hcc : Zab ρ en.cs = Zal sh' m xs := by rw [hcs]; simp [Zab, Chunk.conc]
              have hlen : Zam en.cs = m * Zaj sh' := by rw [hcs]; simp [Zam, Chunk.len]
              rw [huc]
              by_cases hroom : m + n <= cap
              · have hmn : m * Zaj sh' + n * Zaj sh' <= cap * Zaj sh' := by rw [<- Nat.add_mul]; exact Nat.mul_le_mul_right _ hroom
                have hrun := run_append_room_src (P := P) w t t' o.type el i hu hi b base m cap (v.conc ρ) n (Zal sh' n ys) (by rw [hs1]; exact hsrc) hroom
                  (fun j hj => by
                    rw [Zag] at hj
                    obtain ⟨⟨v', hv'⟩, _⟩ := hE.own hwr b base hρ (m * Zaj sh' + j) (by simp only [Ent.size, hlen]; omega)
                    rw [hs1, Nat.add_assoc, hv']; rfl)
                  (fun j hj => by
                    rw [Zag] at hj
                    obtain ⟨_, hz'⟩ := hE.own hwr b base hρ (m * Zaj sh' + j) (by simp only [Ent.size, hlen]; omega)
                    rw [hs1, Nat.add_assoc, hz'])
                rw [hs1] at hrun
                have hst := hr.store (off := m * Zaj sh') (vs := Zal sh' n ys) (cs' := [.rows sh' (m + n) (xs ++ ys)]) (ex' := (cap - (m + n)) * Zaj sh') hen hwr hρ (by rw [Zag]; simp only [Ent.size, hlen]; omega) (by simp [ZaE, Chunk.ok])
                  (by
                    simp only [Zam, Chunk.len, Ent.size, hlen, Nat.add_zero]
                    rw [<- Nat.add_mul, Nat.add_sub_cancel' hroom]; omega) (fun j v' hj => by
                    simp only [Zab, Chunk.conc, List.append_nil] at hj
                    rw [Zc1 h2 hyl] at hj
                    rcases Nat.lt_or_ge j (m * Zaj sh') with hjm | hjm
                    · right
                      rw [List.getElem?_append_left (by rw [Zag]; exact hjm)] at hj
                      exact ⟨.inl hjm, by rw [hcc]; exact hj⟩
                    · left
                      rw [List.getElem?_append_right (by rw [Zag]; exact hjm), Zag] at hj
                      have := (List.getElem?_eq_some_iff.1 hj).1
                      rw [Zag] at this
                      exact ⟨hjm, by rw [Zag]; omega, hj⟩)
                refine ⟨_, _, hrun, ρ.up H.next (ρ ad.id), _, _, h6 cap hroom, ?_, ?_, Rho.up_lt, by simp [Heap.push, Heap.drop], hst.move hok.1⟩
                · simp [SVal.conc, SAddr.conc, Rho.up_same, hρ]
                · simp [SVal.ok, Heap.push, Heap.drop, Rho.up_same, hρ]
              · have hold : (Builtin.firstCells (Zaj sh') m (.slice (some ⟨b, base, none⟩) m cap)).run P w.drew = .ok (Zal sh' m xs).toArray w.drew :=
                  run_firstCells_some w.drew (Zaj sh') m _ m cap _ (Zag _ _ _) (fun j v' hj => by
                    rw [ZbA, World.cell?_drew]
                    exact hE.cells b base hρ j v' (by rw [hcc]; exact hj))
                have := ZjM (P := P) (ty := o.type) (K := K) (H := H.drop ad.id) hu hi hs1 hb8 hz hzc (hr.drop ad.id) h2 hyl hold hsrc (by omega) h5 (fun c hc => h6 c hc)
                obtain ⟨r, w', h1, ρ', sv, H'', g1, g2, g3, g4, g5, g6⟩ := this
                exact ⟨r, w', h1, ρ', sv, H'', g1, g2, g3, g4, g5, g6⟩
          · exact h.elim
        · exact h.elim
      · exact h.elim
    · exact h.elim
  · cases hf
end
end Go.Sx
