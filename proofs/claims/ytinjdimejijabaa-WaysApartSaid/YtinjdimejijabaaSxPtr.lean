/- Part of the proof: SxPtr. -/
import Derived.Test.YtinjdimejijabaaSxDel
import Derived.LaidEql
set_option linter.unusedVariables false
set_option linter.unusedSimpArgs false
namespace Go.Sx
section
variable {P : Program} {a : Act} {o : Oper} {w w0 : World} {fp : Nat -> Nat -> Prop} {ρ : Rho} {H : Heap} {e : Env} {nt : Nat} {K : SVal -> Heap -> Prop}
theorem Zg1 {K : SVal -> Prop} : ∀ {cs : List Chunk} {n : Nat}, ZiC K cs n -> ∀ {ρ : Rho} {m : Nat}, ZaM ρ m cs -> ∃ v, K v /\ v.ok ρ m /\ (Zag ρ cs)[n]? = some (v.conc ρ)
  | [], _, h, _, _, _ => by simp [ZiC] at h
  | [.one v], n, h, ρ, m, hok => by
    obtain ⟨rfl, h⟩ := h
    exact ⟨v, h, hok.1, by simp [Zag, Chunk.conc]⟩
  | .one v :: c :: r, n, h, ρ, m, hok => by
    have h' : (decide (n = 0) = true -> K v) /\ (decide (n = 0) = false -> ZiC K (c :: r) (n - 1)) := h
    by_cases hn : n = 0
    · subst hn
      exact ⟨v, h'.1 (by decide), hok.1, by simp [Zag, Chunk.conc]⟩
    · obtain ⟨u, h1, h2, h3⟩ := Zg1 (h'.2 (decide_eq_false hn)) (m := m) hok.2
      refine ⟨u, h1, h2, ?_⟩
      obtain ⟨k, rfl⟩ : ∃ k, n = k + 1 := ⟨n - 1, by omega⟩
      rw [Nat.add_sub_cancel] at h3
      simpa [Zag, Chunk.conc] using h3
  | [.ints _ _ _], _, h, _, _, _ => by simp [ZiC] at h
  | [.rows _ _ _], _, h, _, _, _ => by simp [ZiC] at h
  | .ints _ _ _ :: _ :: _, _, h, _, _, _ => by simp [ZiC] at h
  | .rows _ _ _ :: _ :: _, _, h, _, _, _ => by simp [ZiC] at h
theorem ZcF {x : Opd} (hf : (AOp.load1P x).fits P o.op = true) (he : EnvOk ρ H.next nt e a.tmps) (hr : Rel w0 fp ρ H w) {Γ} (h : Za3 Γ (.load1P x) e H K) : Looks P a o w0 fp ρ H K := by
  simp only [AOp.fits] at hf
  simp only [Za3] at h
  split at hf
  · rename_i t x' hop
    rw [Bool.and_eq_true] at hf
    obtain ⟨v, h, hok, h3⟩ := Opd.ev_sound hf.1 he h
    split at h
    · rename_i ad n
      simp only [SVal.ok] at hok
      split at h
      · rename_i en hen
        obtain ⟨h0, h⟩ := Zaj h
        rw [Bool.and_eq_true] at h0
        obtain ⟨b, base, hb, hc, hent⟩ := ZgH hr hok hen
        obtain ⟨u, hK, huok, hu⟩ := Zg1 h (hr.oks _ _ hen)
        have hcell := fun (w : World) (hr : Rel w0 fp ρ H w) => (hr.ents _ _ hen).cells b base hb _ _ hu
        refine ⟨_, hK, huok, fun w hr => ?_⟩
        rw [Zas h0.1, Zas h0.2, Nat.zero_add, Nat.mul_one] at hc
        simp only [SVal.conc, hc] at h3
        simp [execOp, hop, h3, Instr.loadAt, Instr.sureAddr, loadVar, ZdM hf.2, hcell w hr]
      · exact h.elim
    · exact h.elim
  · cases hf
theorem Zm9 {t : TypeId} (h : Zsd P t = true) : ∃ el i, P.underlying t = some (.slice el) /\ P.info? el = some i /\ i.size = 1 /\ ZcB P el [.one .nilptr] = true := by
  unfold Zsd at h
  split at h
  · rename_i el hu
    split at h
    · rename_i i hi
      rw [Bool.and_eq_true] at h
      exact ⟨el, i, hu, hi, Zas h.1, h.2⟩
    · cases h
  · cases h
theorem Zj6 {n : Nat} {a : Act} (he : EnvOk ρ H.next nt e a.tmps) : ∀ {ps : List Opd} {qs : List (Nat × Operand)} {i : Nat} {K : List SVal -> Prop} {cells : Array Value}, ZkQ i ps qs = true -> ZmD e ps K -> i + ps.length = n -> cells.size = n ->
    ∃ vs cells', K vs /\ vs.length = ps.length /\ ZaM ρ H.next (vs.map Chunk.one) /\ Instr.fill (fun i => some (i * 1, 1)) cells (qs.map fun p => (p.1, a.eval p.2)) = some cells' /\ cells'.toList = cells.toList.take i ++ Zag ρ (vs.map Chunk.one)
  | [], [], i, K, cells, _, h, hn, hc => by
    simp only [List.length_nil, Nat.add_zero] at hn
    subst hn
    exact ⟨[], cells, h, rfl, trivial, rfl, by rw [List.take_of_length_le (by rw [Array.length_toList, hc]; exact Nat.le_refl _)]; simp [Zag]⟩
  | x :: r, (j, y) :: q, i, K, cells, hf, h, hn, hc => by
    simp only [ZkQ, Bool.and_eq_true] at hf
    obtain rfl := Zas hf.1.1
    simp only [ZmD] at h
    obtain ⟨v, h1, h2, h3⟩ := Opd.ev_sound hf.1.2 he h
    split at h1
    · rename_i ad m
      have hvs : ((SVal.ptr ad m).conc ρ).cells.toList = [(SVal.ptr ad m).conc ρ] := by simp [SVal.conc, Value.cells]
      have hsz : ((SVal.ptr ad m).conc ρ).cells.size = 1 := by rw [<- Array.length_toList, hvs]; rfl
      simp only [List.length_cons] at hn
      obtain ⟨cells1, h6, h7⟩ := Zfj (fun i => some (i * 1, 1)) cells i ((SVal.ptr ad m).conc ρ) (q.map fun p => (p.1, a.eval p.2)) rfl hsz (by omega)
      rw [hvs, Nat.mul_one] at h7
      have hlen : (cells.toList.take i).length = i := by rw [List.length_take, Array.length_toList]; omega
      have hc1 : cells1.size = n := by
        rw [<- Array.length_toList, h7]
        simp only [List.length_append, hlen, List.length_singleton, List.length_drop, Array.length_toList]
        omega
      obtain ⟨vs, cells', g1, g2, g3, g4, g5⟩ := Zj6 he hf.2 h1 (by omega) hc1
      refine ⟨.ptr ad m :: vs, cells', g1, by simp [g2], ⟨h2, g3⟩, by rw [List.map_cons, h3, h6]; exact g4, ?_⟩
      rw [g5, h7, List.take_left' (by rw [List.length_append, hlen]; rfl), List.map_cons, Zag, Chunk.conc, List.append_assoc]
    · exact h1.elim
  | [], _ :: _, _, _, _, hf, _, _, _ => by cases hf
  | _ :: _, [], _, _, _, hf, _, _, _ => by cases hf
theorem Zjl {n : Nat} {ps : List Opd} (hf : (AOp.bsliceV n ps).fits P o.op = true) (he : EnvOk ρ H.next nt e a.tmps) (hr : Rel w0 fp ρ H w) {Γ} (h : Za3 Γ (.bsliceV n ps) e H K) : Runs P a o w (OpPost w0 fp ρ H K) := by
  simp only [AOp.fits] at hf
  simp only [Za3] at h
  split at hf
  · rename_i t n' parts hop
    simp only [Bool.and_eq_true] at hf
    obtain ⟨⟨⟨⟨⟨hn, hn0⟩, hle⟩, hpl⟩, hps⟩, ht⟩ := hf
    obtain rfl := Zas hn
    have hpl := Zas hpl
    have hle := Nat.le_of_ble_eq_true hle
    have hn0 := Nat.le_of_ble_eq_true hn0
    obtain ⟨el, inf, hu, hi, hs, hzero⟩ := Zm9 ht
    obtain ⟨zv, hz1, hz2, hz3⟩ := Zce (w := w) hzero
    let cells0 : Array Value := (Array.range (n * 1)).map (fun x => zv.cells[x % zv.cells.size]!)
    obtain ⟨vs, cells', h1, h2, h2', h3, h4⟩ := Zj6 (n := n) (i := 0) (cells := cells0) he hps h (by omega) (by simp [cells0])
    have hparts : (parts.map fun (p : Nat × Operand) => (p.1, a.eval p.2)).toList = parts.toList.map fun p => (p.1, a.eval p.2) := by simp
    rw [List.take_zero, List.nil_append] at h4
    refine ⟨.slice (some ⟨w.heap.size, 0, none⟩) n n, _, .inl ?_, ⟨ρ.up H.next (some (w.heap.size, 0)), _, _, h1, ?_, ?_, Rho.up_lt, by simp [Heap.push],
      hr.alloc (cells := cells') (t := el) h2' ⟨[], by rw [h4, List.append_nil], rfl⟩⟩⟩
    · have hsz : (sizeOf el).run P w = .ok 1 w := by simp [sizeOf, typeInfo, hi, hs]
      have h16 : ¬ (n * 1 > 2 ^ 24) := by omega
      have hn1 : ¬ (n * 1 = 0) := by omega
      simp only [execOp, hop, Instr.buildSlice, Sem.run_bind, run_underlying hu, Result.andThen_ok, hsz, if_neg h16, if_neg hn1, hz1, Sem.run_pure, hparts]
      have h3' := h3
      simp only [cells0] at h3'
      simp only [h3', newRow, Sem.run_bind, run_newObj, Result.andThen_ok, Sem.run_pure]
      rfl
    · simp [SVal.conc, SAddr.conc, Rho.up_same]
    · simp [SVal.ok, Heap.push, Rho.up_same]
  · cases hf
theorem ZjO {t el : TypeId} {inf : TypeInfo} {p q : Addr} {v : Bool} {w : World} (hu : P.underlying t = some (.pointer el)) (hi : P.info? el = some inf) (hs : 1 <= inf.size) (hq : (sameAddr p q).run P w = .ok v w) : (Op.equal t (.pointer (some p)) (.pointer (some q))).run P w = .ok v w := by
  have : ∀ d, (Op.equalIn (d + 1) t (.pointer (some p)) (.pointer (some q))).run P w = .ok v w := fun d => by
    have h0 : inf.size ≠ 0 := by omega
    simp [Op.equalIn, Sem.run_bind, run_underlying hu, sizeOf, typeInfo, hi, h0, hq]
  exact this 9999
theorem Zep {ne : Bool} {x y : Opd} (hf : (AOp.eqPA ne x y).fits P o.op = true) (he : EnvOk ρ H.next nt e a.tmps) (_hr : Rel w0 fp ρ H w) {Γ} (h : Za3 Γ (.eqPA ne x y) e H K) : Looks P a o w0 fp ρ H K := by
  simp only [AOp.fits] at hf
  simp only [Za3] at h
  split at hf
  · rename_i op t x' y' ty hop
    simp only [Bool.and_eq_true] at hf
    obtain ⟨⟨⟨h0, hx⟩, hy⟩, ht⟩ := hf
    obtain ⟨v, h, hok, h3⟩ := Opd.ev_sound hx he h
    obtain ⟨u, h, hok', h5⟩ := Opd.ev_sound hy he h
    unfold Zw5 at ht
    split at ht
    · rename_i el hu
      split at ht
      · rename_i inf hi
        have hs := Nat.le_of_ble_eq_true ht
        have hrun : ∀ (w : World) (p q : Addr) (r : Bool), (sameAddr p q).run P w = .ok r w -> a.eval x' = .pointer (some p) -> a.eval y' = .pointer (some q) -> (execOp a.eval o).run P w = .ok (.value (.bool (if ne then !r else r))) w := by
          intro w p q r hq hv1 hv2
          have hq := ZjO hu hi hs hq
          unfold ZsO at h0
          split at h0
          · simp [execOp, hop, hv1, hv2, eqGuard, binOp, hq]
          · simp [execOp, hop, hv1, hv2, eqGuard, binOp, hq]
          · cases h0
        cases v with
        | ptr p m => cases u with
          | ptr q m' =>
            obtain ⟨h1, h⟩ := Zaj h
            simp only [Bool.and_eq_true] at h1
            obtain ⟨⟨⟨k1, k2⟩, k3⟩, k4⟩ := h1
            have k1 := Zas k1
            have k2 := Zas k2
            have k3 := Zas k3
            have k4 := Zas k4
            simp only [SVal.ok] at hok hok'
            obtain ⟨⟨b1, o1⟩, hp⟩ := Option.ne_none_iff_exists'.1 hok.2
            obtain ⟨⟨b2, o2⟩, hq⟩ := Option.ne_none_iff_exists'.1 hok'.2
            have hv1 : a.eval x' = .pointer (some ⟨b1, o1, none⟩) := by rw [h3]; simp [SVal.conc, SAddr.conc, hp, k1, k2]
            have hv2 : a.eval y' = .pointer (some ⟨b2, o2, none⟩) := by rw [h5]; simp [SVal.conc, SAddr.conc, hq, k3, k4]
            cases hid : Nat.beq p.id q.id with
            | true =>
              rw [hid] at h
              have := Zas hid
              rw [this, hq] at hp
              cases hp
              refine ⟨_, h, by simp [SVal.ok], fun w hr => ?_⟩
              rw [hrun w _ _ true (run_sameAddr_same w _) hv1 hv2]
              cases ne <;> simp [SVal.conc]
            | false =>
              rw [hid] at h
              simp only [cond_false] at h
              split at h
              · rename_i e1 e2 cs1 cs2 he1 he2
                have hne : p.id ≠ q.id := fun e => by rw [e] at hid; simp at hid
                refine ⟨_, h, by simp [SVal.ok], fun w hr => ?_⟩
                obtain ⟨B, hB⟩ := hr.ab
                obtain ⟨b3, ys, g1, g2, ⟨bs3, hs3, g3⟩, g4, g5, g6⟩ := hB p.id _ he1 rfl rfl
                obtain ⟨b4, zs, l1, l2, ⟨bs4, hs4, l3⟩, l4, l5, l6⟩ := hB q.id _ he2 rfl rfl
                rw [hp] at g1
                rw [hq] at l1
                cases g1
                cases l1
                obtain ⟨c1, t1, f1⟩ := g3.fz
                obtain ⟨c2, t2, f2⟩ := l3.fz
                have hbb : b1 ≠ b2 := fun e => by
                  subst e
                  exact g6 q.id _ (Ne.symm hne) he2 rfl rfl _ ((g3.blk _).2 (.inl rfl)) ((l3.blk _).2 (.inl rfl))
                rw [hrun w _ _ false (run_sameAddr_other w (by simp [hbb]) f1 f2) hv1 hv2]
                cases ne <;> simp [SVal.conc]
              · exact h.elim
          | _ => exact h.elim
        | _ => first | exact h.elim | (cases u <;> exact h.elim)
      · cases ht
    · cases ht
  · cases hf
end
end Go.Sx
