/- Part of the proof: SxAppR. -/
import Derived.Test.YtinjdimejijabaaSxApp
set_option linter.unusedVariables false
set_option linter.unusedSimpArgs false
namespace Go.Sx
section
variable {P : Program} {a : Act} {o : Oper} {w w0 : World} {fp : Nat -> Nat -> Prop} {ρ : Rho} {H : Heap} {e : Env} {nt : Nat} {K : SVal -> Heap -> Prop}
theorem ZhD : ∀ (l : Leaf) (x : l.T), ∀ u ∈ l.conc x, u.oneCell' = true
  | .int _, _, u, h => by simp only [Leaf.conc, List.mem_singleton] at h; subst h; rfl
  | .bool, _, u, h => by simp only [Leaf.conc, List.mem_singleton] at h; subst h; rfl
  | .ints _ _, _, u, h => ZhG u h
  | .hd, _, u, h => by simp only [Leaf.conc, List.mem_singleton] at h; subst h; rfl
theorem Zir : ∀ (sh : List Leaf) (x : Tup sh), ∀ u ∈ ZaF sh x, u.oneCell' = true
  | [], _, u, h => by simp [ZaF] at h
  | [l], x, u, h => ZhD l x u (by simpa [ZaF] using h)
  | l :: m :: r, x, u, h => by
    simp only [ZaF, List.mem_append] at h
    rcases h with h | h
    · exact ZhD l _ u h
    · exact Zir (m :: r) _ u h
theorem Zhu {sh : List Leaf} {n : Nat} {xs : List (Tup sh)} : ∀ u ∈ Zal sh n xs, u.oneCell' = true := fun u h => by
  unfold Zal at h
  obtain ⟨i, _, hi⟩ := List.mem_flatMap.1 h
  exact Zir sh _ u hi
theorem Zcp {t : TypeId} {sh : List Leaf} (h : ZkG P t sh = true) : ∃ el i z, P.underlying t = some (.slice el) /\ P.info? el = some i /\ i.size = Zah sh /\ i.bytes <= 100000 /\ 1 <= Zah sh /\ i.zero = some z /\ z.cells.toList = ZaF sh (Tup.dflt sh) /\ Zdf P el (Zbt sh (Tup.dflt sh)) = true := by
  unfold ZkG at h
  split at h
  · rename_i el hu
    split at h
    · rename_i i hi
      simp only [Bool.and_eq_true] at h
      obtain ⟨⟨⟨h1, h2⟩, h3⟩, h4⟩ := h
      have h4' := h4
      unfold Zdf at h4
      rw [hi] at h4
      simp only at h4
      split at h4
      · rename_i z hz
        rw [Bool.and_eq_true] at h4
        refine ⟨el, i, z, hu, hi, Nat.eq_of_beq_eq_true h1, Nat.le_of_ble_eq_true h2, Nat.le_of_ble_eq_true h3, hz, ?_, h4'⟩
        rw [<- Zc1 h4.2, ZbU]
      · cases h4
    · cases h
  · cases h
theorem ZmY {sh : List Leaf} {n : Nat} {a : Act} (he : EnvOk ρ H.next nt e a.tmps) : ∀ {ps : List Opd} {qs : List (Nat × Operand)} {i : Nat} {K : List (Tup sh) -> Prop} {cells : Array Value}, Zn3 i ps qs = true -> ZqJ e sh ps K -> i + ps.length = n -> cells.size = n * Zah sh ->
    ∃ ys cells', K ys /\ ys.length = ps.length /\ Instr.fill (fun i => some (i * Zah sh, Zah sh)) cells (qs.map fun p => (p.1, a.eval p.2)) = some cells' /\ cells'.toList = cells.toList.take (i * Zah sh) ++ ys.flatMap (ZaF sh)
  | [], [], i, K, cells, _, h, hn, hc => by
    simp only [List.length_nil, Nat.add_zero] at hn
    subst hn
    exact ⟨[], cells, h, rfl, rfl, by rw [List.take_of_length_le (by rw [Array.length_toList, hc]; exact Nat.le_refl _)]; simp⟩
  | x :: r, (j, y) :: q, i, K, cells, hf, h, hn, hc => by
    simp only [Zn3, Bool.and_eq_true] at hf
    obtain rfl := Zat hf.1.1
    simp only [ZqJ] at h
    obtain ⟨v, h1, h2, h3⟩ := Opd.ev_sound hf.1.2 he h
    split at h1
    · rename_i cs
      obtain ⟨t, h4, h5⟩ := ZfN (ρ := ρ) sh cs _ h1
      have hvc : ((SVal.agg cs).conc ρ).cells.toList = ZaF sh t := by rw [<- h5]; simp [SVal.conc, Value.cells]
      have hvs : ((SVal.agg cs).conc ρ).cells.size = Zah sh := by rw [<- Array.length_toList, hvc, Zas]
      simp only [List.length_cons] at hn
      have hle : i * Zah sh + Zah sh <= cells.size := by
        rw [hc, <- hn, <- Nat.succ_mul]
        exact Nat.mul_le_mul_right _ (by omega)
      obtain ⟨cells1, h6, h7⟩ := ZgE (fun i => some (i * Zah sh, Zah sh)) cells i ((SVal.agg cs).conc ρ) (q.map fun p => (p.1, a.eval p.2)) rfl hvs hle
      rw [hvc] at h7
      have hlen : (cells.toList.take (i * Zah sh)).length = i * Zah sh := by rw [List.length_take, Array.length_toList]; omega
      have hc1 : cells1.size = n * Zah sh := by
        rw [<- Array.length_toList, h7]
        simp only [List.length_append, hlen, Zas, List.length_drop, Array.length_toList]
        omega
      obtain ⟨ys, cells', h8, h9, h10, h11⟩ := ZmY he hf.2 h4 (by omega) hc1
      refine ⟨t :: ys, cells', h8, by simp [h9], by rw [List.map_cons, h3, h6]; exact h10, ?_⟩
      rw [h11, h7, Nat.succ_mul, List.take_left' (by rw [List.length_append, hlen, Zas]), List.flatMap_cons, List.append_assoc]
    · exact h1.elim
  | [], _ :: _, _, _, _, hf, _, _, _ => by cases hf
  | _ :: _, [], _, _, _, hf, _, _, _ => by cases hf
theorem Zmf {sh : List Leaf} {n : Nat} {ps : List Opd} (hf : (AOp.bsliceR sh n ps).fits P o.op = true) (he : EnvOk ρ H.next nt e a.tmps) (hr : Rel w0 fp ρ H w) {Γ} (h : Zbe Γ (.bsliceR sh n ps) e H K) : Runs P a o w (OpPost w0 fp ρ H K) := by
  simp only [AOp.fits] at hf
  simp only [Zbe] at h
  split at hf
  · rename_i t n' parts hop
    simp only [Bool.and_eq_true] at hf
    obtain ⟨⟨⟨⟨hn, hle⟩, hpl⟩, hps⟩, ht⟩ := hf
    obtain rfl := Zat hn
    have hpl := Zat hpl
    have hle := Nat.le_of_ble_eq_true hle
    obtain ⟨el, inf, z, hu, hi, hs, hb, hs1, hz, hzc, hzero⟩ := Zcp ht
    obtain ⟨zv, hz1, hz2, hz3⟩ := ZcS (w := w) hzero
    have hzs : zv.cells.size = Zah sh := by
      rw [<- Array.length_toList, hz3, ZbU, Zas]
    let cells0 : Array Value := (Array.range (n * Zah sh)).map (fun x => zv.cells[x % zv.cells.size]!)
    obtain ⟨ys, cells', h1, h2, h3, h4⟩ := ZmY (n := n) (i := 0) (cells := cells0) he hps h (by omega) (by simp [cells0])
    have hparts : (parts.map fun (p : Nat × Operand) => (p.1, a.eval p.2)).toList = parts.toList.map fun p => (p.1, a.eval p.2) := by simp
    rw [Nat.zero_mul, List.take_zero, List.nil_append] at h4
    have hys : ys.length = n := by omega
    have hc' : cells' = (Zal sh n ys).toArray := by rw [Za8 hys, <- h4]
    subst hc'
    refine ⟨.slice (some ⟨w.heap.size, 0, none⟩) n n, _, .inl ?_, ⟨ρ.up H.next (some (w.heap.size, 0)), _, _, h1, ?_, ?_, Rho.up_lt, by simp [Heap.push],
      hr.alloc (cells := (Zal sh n ys).toArray) (t := el) (by simp [ZaV, Chunk.ok]) ⟨[], by simp [Zai, Chunk.conc], rfl⟩⟩⟩
    · have hsz : (sizeOf el).run P w = .ok (Zah sh) w := by simp [sizeOf, typeInfo, hi, hs]
      have h16 : ¬ (n * Zah sh > 2 ^ 24) := by omega
      simp only [execOp, hop, Instr.buildSlice, Sem.run_bind, run_underlying hu, Result.andThen_ok, hsz, if_neg h16]
      by_cases hn0 : n * Zah sh = 0
      · have hz0 : ∀ f : Nat -> Value, (Array.range (n * Zah sh)).map f = #[] := fun f => by rw [hn0]; simp
        simp only [cells0, hz0] at h3
        simp only [if_pos hn0, Sem.run_pure, Result.andThen_ok, hz0, hparts, h3, newRow, Sem.run_bind, run_newObj]
        rfl
      · simp only [if_neg hn0, Sem.run_bind, hz1, Result.andThen_ok, Sem.run_pure, hparts]
        have h3' := h3
        simp only [cells0] at h3'
        simp only [h3', newRow, Sem.run_bind, run_newObj, Result.andThen_ok, Sem.run_pure]
        rfl
    · simp [SVal.conc, SAddr.conc, Rho.up_same]
    · simp [SVal.ok, Heap.push, Rho.up_same]
  · cases hf
theorem Zgl (sh : List Leaf) (l : Nat) : Zal sh l (List.replicate l (Tup.dflt sh)) = (List.replicate l (ZaF sh (Tup.dflt sh))).flatten := by
  rw [Za8 (by simp), List.flatMap_replicate]
theorem Zc6 {α : Type} (z : List α) (hz : 0 < z.length) : ∀ (c j : Nat), (List.replicate c z).flatten[j]? = if j < c * z.length then z[j % z.length]? else none
  | 0, j => by simp
  | c + 1, j => by
    rw [List.replicate_succ, List.flatten_cons]
    by_cases hj : j < z.length
    · have : z.length <= (c + 1) * z.length := Nat.le_mul_of_pos_left _ (by omega)
      rw [List.getElem?_append_left hj, if_pos (by omega), Nat.mod_eq_of_lt hj]
    · rw [List.getElem?_append_right (by omega), Zc6 z hz c, Nat.succ_mul, Nat.mod_eq_sub_mod (by omega : j ≥ z.length)]
      by_cases h2 : j - z.length < c * z.length
      · rw [if_pos h2, if_pos (by omega)]
      · rw [if_neg h2, if_neg (by omega)]
theorem Zjy {sh : List Leaf} {x y : Opd} (hf : (AOp.mksliceR sh x y).fits P o.op = true) (he : EnvOk ρ H.next nt e a.tmps) (hr : Rel w0 fp ρ H w) {Γ} (h : Zbe Γ (.mksliceR sh x y) e H K) : Runs P a o w (OpPost w0 fp ρ H K) := by
  simp only [AOp.fits] at hf
  simp only [Zbe] at h
  split at hf
  · rename_i t x' y' hop
    rw [Bool.and_eq_true, Bool.and_eq_true] at hf
    obtain ⟨v, h', hok, h3⟩ := Opd.ev_sound hf.1.1 he h
    clear h
    obtain ⟨u, h, hok', h5⟩ := Opd.ev_sound hf.1.2 he h'
    clear h'
    obtain ⟨el, i, z, hu, hi, hs, hb, hs1, hz, hzc, _⟩ := Zcp hf.2
    split at h
    · rename_i k1 l k2 c
      obtain ⟨h0, h1, h2, hK⟩ := h
      simp only [SVal.conc] at h3 h5
      have hsc : (Zah sh : Int) * c ≥ c := by
        have : (1 : Int) * c <= (Zah sh : Int) * c := Int.mul_le_mul_of_nonneg_right (by omega) (by omega)
        omega
      have hb2 : (i.bytes : Int) * c <= 281474976710656 := by
        have : (i.bytes : Int) * c <= 100000 * c := Int.mul_le_mul_of_nonneg_right (by omega) (by omega)
        omega
      have hcc : c.toNat * i.size <= 16777216 := by
        have : ((c.toNat * i.size : Nat) : Int) = (Zah sh : Int) * c := by rw [hs, Int.natCast_mul, Int.toNat_of_nonneg (by omega), Int.mul_comm]
        omega
      have hrun := run_makeSlice (P := P) w t el i z hu hi hz k1 k2 l c h0 h1 hcc hb2 (by omega)
      have hzl : z.cells.size = Zah sh := by rw [<- Array.length_toList, hzc, Zas]
      refine ⟨_, _, .inl (by simp only [execOp, hop, h3, h5, Sem.run_bind, hrun, Result.andThen_ok, Sem.run_pure]; rfl), ρ.up H.next (some (w.heap.size, 0)), _, _, hK, ?_, ?_, Rho.up_lt, by simp [Heap.push],
        hr.alloc (t := el) (by simp [ZaV, Chunk.ok]) ⟨(List.replicate (c.toNat - l.toNat) (ZaF sh (Tup.dflt sh))).flatten, ?_, by simp [Zas]⟩⟩
      · simp [SVal.conc, SAddr.conc, Rho.up_same]
      · simp [SVal.ok, Heap.push, Rho.up_same]
      · simp only [Zai, Chunk.conc, List.append_nil]
        rw [Zgl, <- List.flatten_append, List.replicate_append_replicate, show l.toNat + (c.toNat - l.toNat) = c.toNat by omega, hs]
        apply List.ext_getElem?
        intro j
        rw [Zc6 _ (by rw [Zas]; omega), Zas]
        simp only [madeCells, Array.toList_map, Array.toList_range, List.getElem?_map, hzl]
        rcases Nat.lt_or_ge j (c.toNat * Zah sh) with hj | hj
        · have hm : j % Zah sh < Zah sh := Nat.mod_lt _ (by omega)
          rw [if_pos hj, List.getElem?_range hj, <- hzc, Array.getElem?_toList]
          simp [hzl, hm]
        · rw [if_neg (by omega), List.getElem?_eq_none (by simp; omega)]; rfl
    · exact h.elim
  · cases hf
theorem Zmb {sh' sh : List Leaf} (h : sh' = sh) (n : Nat) (xs : List (Tup sh')) : Zal sh n (ZbM h xs) = Zal sh' n xs /\ (ZbM h xs).length = xs.length := by
  subst h; exact ⟨rfl, rfl⟩
theorem ZjO {sh : List Leaf} {y : SVal} {K : Nat -> List (Tup sh) -> Prop} (hs1 : 1 <= Zah sh) (hok : y.ok ρ H.next) (h : ZHN H sh y K) : ∃ n ys, K n ys /\ ys.length = n /\
    ((y.conc ρ = .slice none 0 0 /\ n = 0) ∨ ∃ b off c, y.conc ρ = .slice (some ⟨b, off, none⟩) n c /\ ∀ w, Rel w0 fp ρ H w -> ∀ j v, (Zal sh n ys)[j]? = some v -> w.cell? ⟨b, off + j, none⟩ = some v) := by
  unfold ZHN at h
  split at h
  · exact ⟨0, [], h, rfl, .inl ⟨rfl, rfl⟩⟩
  · rename_i ad n c
    simp only [SVal.ok] at hok
    split at h
    · rename_i en hen
      obtain ⟨h0, h⟩ := Zao h
      rw [Bool.and_eq_true] at h0
      have ho0 := Zat h0.1
      have hi0 := Zat h0.2
      split at h
      · rename_i sh' m ys hcs
        split at h
        · rename_i hsh
          obtain ⟨rfl, h1, h2⟩ := h
          have hcr := Zmb hsh m ys
          refine ⟨m, _, h2, by rw [hcr.2, h1], ?_⟩
          cases hρ : ρ ad.id with
          | none =>
            have := hok.2 hρ
            left
            exact ⟨by simp [SVal.conc, SAddr.conc, hρ, this.1, this.2], this.1⟩
          | some p =>
            obtain ⟨b, base⟩ := p
            right
            refine ⟨b, base, c, by simp [SVal.conc, SAddr.conc, hρ, ho0, hi0], fun w hr j v hj => ?_⟩
            rw [hcr.1] at hj
            exact (hr.ents _ _ hen).cells b base hρ _ _ (by rw [hcs]; simpa [Zai, Chunk.conc] using hj)
        · exact h.elim
      · exact h.elim
    · exact h.elim
  · exact h.elim
theorem ZkB {sh : List Leaf} {y : SVal} {n : Nat} {ys : List (Tup sh)} {t : TypeId} (ht : ZvU P t = true) (h : (y.conc ρ = .slice none 0 0 /\ n = 0) ∨ ∃ b off c, y.conc ρ = .slice (some ⟨b, off, none⟩) n c /\ ∀ w, Rel w0 fp ρ H w -> ∀ j v, (Zal sh n ys)[j]? = some v -> w.cell? ⟨b, off + j, none⟩ = some v)
    (hr : Rel w0 fp ρ H w) : Src P (Zah sh) t (y.conc ρ) n (Zal sh n ys) w := by
  obtain ⟨e', he'⟩ := ZmR ht
  rcases h with ⟨h1, rfl⟩ | ⟨b, off, c, h1, h2⟩
  · rw [h1]; exact Src.ofNil w he' 0
  · rw [h1]; exact Src.ofSlice w he' _ n c _ (Zae _ _ _) (fun j v hj => by rw [ZbZ]; exact h2 w hr j v hj) Zhu
theorem Zb8 {sh : List Leaf} {m n : Nat} {xs ys : List (Tup sh)} (h : xs.length = m) (h' : ys.length = n) : Zal sh (m + n) (xs ++ ys) = Zal sh m xs ++ Zal sh n ys := by
  rw [Za8 h, Za8 h', Za8 (by rw [List.length_append, h, h']), List.flatMap_append]
theorem Zee {t tx ty el : TypeId} {i : TypeInfo} {z : Value} {sh : List Leaf} {base : Option Addr} {len cap n : Nat} {xs ys : List (Tup sh)} {x : Value} (hu : P.underlying t = some (.slice el)) (hi : P.info? el = some i) (hs1 : i.size = Zah sh) (hb8 : i.bytes <= 100000) (hz : i.zero = some z) (hzc : z.cells.size = Zah sh)
    (hr : Rel w0 fp ρ H w) (hxl : xs.length = len) (hyl : ys.length = n) (hold : (Builtin.firstCells (Zah sh) len (.slice base len cap)).run P w.drew = .ok (Zal sh len xs).toArray w.drew) (hsrc : Src P (Zah sh) tx x n (Zal sh n ys) w)
    (hg : cap < len + n) (hbd : len + n <= 1000000000) (hK : ∀ c, len + n <= c -> K (.slice ⟨H.next, 0, 0, Zah sh⟩ (len + n) c) (H.push ⟨true, [.rows sh (len + n) (xs ++ ys)], (c - (len + n)) * Zah sh⟩)) :
    ∃ v w', (Builtin.append_ #[t, tx] ty #[.slice base len cap, x]).run P w = .ok v w' /\ OpPost w0 fp ρ H K v w' := by
  have hbytes : (len + n) * i.bytes <= 140737488355328 := Nat.le_trans (Nat.mul_le_mul_left _ hb8) (by omega)
  have hrun := run_append_grow_src (P := P) w t tx ty el i z hu hi hz base len cap (Zal sh len xs) (by rw [hs1]; exact hold) x n (Zal sh n ys) (by rw [hs1]; exact hsrc) hg (by omega) (growslice_fits hg hbytes)
  have hge := grownCap_ge w (len + n) cap el
  refine ⟨_, _, hrun, ρ.up H.next (some (w.heap.size, 0)), _, _, hK _ hge, ?_, ?_, Rho.up_lt, by simp [Heap.push],
    (hr.drew (w.drawn + 1)).alloc (t := el) (by simp [ZaV, Chunk.ok]) ⟨(Builtin.zeroCells z.cells (grownCap w (len + n) cap el - (len + n))).toList, ?_, ?_⟩⟩
  · simp [SVal.conc, SAddr.conc, Rho.up_same]
  · simp [SVal.ok, Heap.push, Rho.up_same]
  · simp [Zai, Chunk.conc, Zb8 hxl hyl]
  · rw [Array.length_toList, size_zeroCells, hzc]
theorem Zmg {sh : List Leaf} {x y : Opd} (hf : (AOp.appendR sh x y).fits P o.op = true) (he : EnvOk ρ H.next nt e a.tmps) (hr : Rel w0 fp ρ H w) {Γ} (h : Zbe Γ (.appendR sh x y) e H K) : Runs P a o w (OpPost w0 fp ρ H K) := by
  simp only [AOp.fits] at hf
  simp only [Zbe] at h
  split at hf
  · rename_i xs ts hop
    rw [Bool.and_eq_true] at hf
    obtain ⟨u, v, h', hok, hok', h3⟩ := ZcX hf.1 he h
    clear h
    obtain ⟨t, t', hts, ht, ht'⟩ := Zgf hf.2
    obtain ⟨el, i, z, hu, hi, hs1, hb8, hst1, hz, hzc0, _⟩ := Zcp ht
    have hzc : z.cells.size = Zah sh := by rw [<- Array.length_toList, hzc0, Zas]
    have hta : ts = #[t, t'] := by rw [<- Array.toArray_toList (xs := ts), hts]
    obtain ⟨n, ys, h, hyl, hsrc0⟩ := ZjO (w0 := w0) (fp := fp) hst1 hok' h'
    clear h'
    have hsrc := ZkB ht' hsrc0 hr
    have hexec : (execOp a.eval o).run P w = ((Builtin.append_ #[t, t'] o.type #[u.conc ρ, v.conc ρ]).run P w).andThen fun v w' => .ok (.value v) w' := by
      simp [execOp, hop, resolve, invoke, builtin, h3, hta]
    suffices hs : ∃ r w', (Builtin.append_ #[t, t'] o.type #[u.conc ρ, v.conc ρ]).run P w = .ok r w' /\ OpPost w0 fp ρ H K r w' by
      obtain ⟨r, w', h1, h2⟩ := hs
      exact ⟨r, w', .inl (by rw [hexec, h1]; rfl), h2⟩
    have hnil : ∀ (H' : Heap), H'.next = H.next -> Rel w0 fp ρ H' w -> u.conc ρ = .slice none 0 0 -> n <= 1000000000 -> (∀ c, n <= c -> K (.slice ⟨H.next, 0, 0, Zah sh⟩ n c) (H'.push ⟨true, [.rows sh n ys], (c - n) * Zah sh⟩)) ->
        ∃ r w', (Builtin.append_ #[t, t'] o.type #[u.conc ρ, v.conc ρ]).run P w = .ok r w' /\ OpPost w0 fp ρ H K r w' := fun H' hnx hr' hu0 hbd hK => by
      rw [hu0]
      rcases Nat.eq_zero_or_pos n with h0 | hp
      · subst h0
        have hnil : Zal sh 0 ys = [] := by simp [Zal]
        rw [hnil] at hsrc
        have hrun := run_append_nothing (P := P) w t t' o.type el i hu hi none 0 0 (Nat.le_refl _) _ (by rw [hs1]; exact hsrc)
        have hp := hr'.pushE none (cs := [.rows sh 0 ys]) (by simp [ZaV, Chunk.ok]) (by simp [Zam, Chunk.len])
        rw [hnx] at hp
        have hk0 := hK 0 (Nat.le_refl _)
        refine ⟨_, _, hrun, ρ.up H.next none, _, _, hk0, ?_, ?_, Rho.up_lt, by simp [Heap.push, hnx], by simpa using hp⟩
        · simp [SVal.conc, SAddr.conc, Rho.up_same]
        · simp [SVal.ok, Heap.push, hnx]
      · have := Zee (P := P) (ty := o.type) (K := K) (H := H') (len := 0) (cap := 0) (xs := []) hu hi hs1 hb8 hz hzc hr' rfl hyl (by simpa [Zal] using run_firstCells_none (P := P) w.drew (Zah sh) 0 0 0) hsrc (by omega) (by omega) (fun c hc => by
          simpa [hnx] using hK c (by omega))
        obtain ⟨r, w', h1, ρ', sv, H'', g1, g2, g3, g4, g5, g6⟩ := this
        exact ⟨r, w', h1, ρ', sv, H'', g1, g2, g3, fun id hid => g4 id (by rw [hnx]; exact hid), by rw [<- hnx]; exact g5, g6⟩
    split at h
    · exact hnil H rfl hr rfl h.1 h.2
    · rename_i ad len cap
      simp only [SVal.ok] at hok
      split at h
      · rename_i en hen
        obtain ⟨h0, h⟩ := Zao h
        rw [Bool.and_eq_true, Bool.and_eq_true] at h0
        have ho0 := Zat h0.1.2
        have hi0 := Zat h0.2
        have hwr := h0.1.1
        split at h
        · rename_i sh' m xs hcs
          split at h
          · rename_i hsh
            subst hsh
            obtain ⟨h1, h2, h4, h5, h6⟩ := h
            simp only [ZbM] at h6
            subst h1
            have hcm : m <= cap := Nat.le_of_mul_le_mul_right (by omega : m * Zah sh' <= cap * Zah sh') (by omega)
            cases hρ : ρ ad.id with
            | none =>
              have hlc := hok.2 hρ
              have hx0 : xs = [] := List.eq_nil_of_length_eq_zero (by omega)
              obtain ⟨rfl, hc0⟩ := hlc
              refine hnil (H.drop ad.id) rfl (hr.drop _) (by simp [SVal.conc, SAddr.conc, hρ, hc0]) (by omega) (fun c hc => ?_)
              have := h6 c (by omega)
              simpa [hx0] using this
            | some p =>
              obtain ⟨b, base⟩ := p
              have hE := hr.ents _ _ hen
              have huc : SVal.conc ρ (.slice ad m cap) = .slice (some ⟨b, base, none⟩) m cap := by simp [SVal.conc, SAddr.conc, hρ, ho0, hi0]
              have hcc : Zai ρ en.cs = Zal sh' m xs := by rw [hcs]; simp [Zai, Chunk.conc]
              have hlen : Zam en.cs = m * Zah sh' := by rw [hcs]; simp [Zam, Chunk.len]
              rw [huc]
              by_cases hroom : m + n <= cap
              · have hmn : m * Zah sh' + n * Zah sh' <= cap * Zah sh' := by rw [<- Nat.add_mul]; exact Nat.mul_le_mul_right _ hroom
                have hrun := run_append_room_src (P := P) w t t' o.type el i hu hi b base m cap (v.conc ρ) n (Zal sh' n ys) (by rw [hs1]; exact hsrc) hroom
                  (fun j hj => by
                    rw [Zae] at hj
                    obtain ⟨⟨v', hv'⟩, _⟩ := hE.own hwr b base hρ (m * Zah sh' + j) (by simp only [Ent.size, hlen]; omega)
                    rw [hs1, Nat.add_assoc, hv']; rfl)
                  (fun j hj => by
                    rw [Zae] at hj
                    obtain ⟨_, hz'⟩ := hE.own hwr b base hρ (m * Zah sh' + j) (by simp only [Ent.size, hlen]; omega)
                    rw [hs1, Nat.add_assoc, hz'])
                rw [hs1] at hrun
                have hst := hr.store (off := m * Zah sh') (vs := Zal sh' n ys) (cs' := [.rows sh' (m + n) (xs ++ ys)]) (ex' := (cap - (m + n)) * Zah sh') hen hwr hρ (by rw [Zae]; simp only [Ent.size, hlen]; omega) (by simp [ZaV, Chunk.ok])
                  (by
                    simp only [Zam, Chunk.len, Ent.size, hlen, Nat.add_zero]
                    rw [<- Nat.add_mul, Nat.add_sub_cancel' hroom]; omega) (fun j v' hj => by
                    simp only [Zai, Chunk.conc, List.append_nil] at hj
                    rw [Zb8 h2 hyl] at hj
                    rcases Nat.lt_or_ge j (m * Zah sh') with hjm | hjm
                    · right
                      rw [List.getElem?_append_left (by rw [Zae]; exact hjm)] at hj
                      exact ⟨.inl hjm, by rw [hcc]; exact hj⟩
                    · left
                      rw [List.getElem?_append_right (by rw [Zae]; exact hjm), Zae] at hj
                      have := (List.getElem?_eq_some_iff.1 hj).1
                      rw [Zae] at this
                      exact ⟨hjm, by rw [Zae]; omega, hj⟩)
                refine ⟨_, _, hrun, ρ.up H.next (ρ ad.id), _, _, h6 cap hroom, ?_, ?_, Rho.up_lt, by simp [Heap.push, Heap.drop], hst.move hok.1⟩
                · simp [SVal.conc, SAddr.conc, Rho.up_same, hρ]
                · simp [SVal.ok, Heap.push, Heap.drop, Rho.up_same, hρ]
              · have hold : (Builtin.firstCells (Zah sh') m (.slice (some ⟨b, base, none⟩) m cap)).run P w.drew = .ok (Zal sh' m xs).toArray w.drew :=
                  run_firstCells_some w.drew (Zah sh') m _ m cap _ (Zae _ _ _) (fun j v' hj => by
                    rw [ZbZ, World.cell?_drew]
                    exact hE.cells b base hρ j v' (by rw [hcc]; exact hj))
                have := Zee (P := P) (ty := o.type) (K := K) (H := H.drop ad.id) hu hi hs1 hb8 hz hzc (hr.drop ad.id) h2 hyl hold hsrc (by omega) h5 (fun c hc => h6 c hc)
                obtain ⟨r, w', h1, ρ', sv, H'', g1, g2, g3, g4, g5, g6⟩ := this
                exact ⟨r, w', h1, ρ', sv, H'', g1, g2, g3, g4, g5, g6⟩
          · exact h.elim
        · exact h.elim
      · exact h.elim
    · exact h.elim
  · cases hf
end
end Go.Sx
