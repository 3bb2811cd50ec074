/- Part of the proof: SxAppR. -/
import Derived.Test.YtfffjdfegnmejaaSxApp
set_option linter.unusedVariables false
set_option linter.unusedSimpArgs false
namespace Go.Sx
section
variable {P : Program} {a : Act} {o : Oper} {w w0 : World} {fp : Nat -> Nat -> Prop} {ρ : Rho} {H : Heap} {e : Env} {nt : Nat} {K : SVal -> Heap -> Prop}
theorem Zik : ∀ (l : Leaf) (x : l.T), ∀ u ∈ l.conc x, u.oneCell' = true
  | .int _, _, u, h => by simp only [Leaf.conc, List.mem_singleton] at h; subst h; rfl
  | .bool, _, u, h => by simp only [Leaf.conc, List.mem_singleton] at h; subst h; rfl
  | .ints _ _, _, u, h => Zio u h
  | .hd, _, u, h => by simp only [Leaf.conc, List.mem_singleton] at h; subst h; rfl
theorem Zji : ∀ (sh : List Leaf) (x : Tup sh), ∀ u ∈ ZaB sh x, u.oneCell' = true
  | [], _, u, h => by simp [ZaB] at h
  | [l], x, u, h => Zik l x u (by simpa [ZaB] using h)
  | l :: m :: r, x, u, h => by
    simp only [ZaB, List.mem_append] at h
    rcases h with h | h
    · exact Zik l _ u h
    · exact Zji (m :: r) _ u h
theorem Zid {sh : List Leaf} {n : Nat} {xs : List (Tup sh)} : ∀ u ∈ Zal sh n xs, u.oneCell' = true := fun u h => by
  unfold Zal at h
  obtain ⟨i, _, hi⟩ := List.mem_flatMap.1 h
  exact Zji sh _ u hi
theorem ZcT {t : TypeId} {sh : List Leaf} (h : ZnP P t sh = true) : ∃ el i z, P.underlying t = some (.slice el) /\ P.info? el = some i /\ i.size = Zaj sh /\ i.bytes <= 100000 /\ 1 <= Zaj sh /\ i.zero = some z /\ z.cells.toList = ZaB sh (Tup.dflt sh) /\ ZcX P el (Zbf sh (Tup.dflt sh)) = true := by
  unfold ZnP at h
  split at h
  · rename_i el hu
    split at h
    · rename_i i hi
      simp only [Bool.and_eq_true] at h
      obtain ⟨⟨⟨h1, h2⟩, h3⟩, h4⟩ := h
      have h4' := h4
      unfold ZcX at h4
      rw [hi] at h4
      simp only at h4
      split at h4
      · rename_i z hz
        rw [Bool.and_eq_true] at h4
        refine ⟨el, i, z, hu, hi, Nat.eq_of_beq_eq_true h1, Nat.le_of_ble_eq_true h2, Nat.le_of_ble_eq_true h3, hz, ?_, h4'⟩
        rw [<- ZcZ h4.2, Zco]
      · cases h4
    · cases h
  · cases h
theorem Zlu (sh : List Leaf) (l : Nat) : Zal sh l (List.replicate l (Tup.dflt sh)) = (List.replicate l (ZaB sh (Tup.dflt sh))).flatten := by
  rw [ZaW (by simp), List.flatMap_replicate]
theorem Zfd {α : Type} (z : List α) (hz : 0 < z.length) : ∀ (c j : Nat), (List.replicate c z).flatten[j]? = if j < c * z.length then z[j % z.length]? else none
  | 0, j => by simp
  | c + 1, j => by
    rw [List.replicate_succ, List.flatten_cons]
    by_cases hj : j < z.length
    · have : z.length <= (c + 1) * z.length := Nat.le_mul_of_pos_left _ (by omega)
      rw [List.getElem?_append_left hj, if_pos (by omega), Nat.mod_eq_of_lt hj]
    · rw [List.getElem?_append_right (by omega), Zfd z hz c, Nat.succ_mul, Nat.mod_eq_sub_mod (by omega : j ≥ z.length)]
      by_cases h2 : j - z.length < c * z.length
      · rw [if_pos h2, if_pos (by omega)]
      · rw [if_neg h2, if_neg (by omega)]
theorem Zne {sh' sh : List Leaf} (h : sh' = sh) (n : Nat) (xs : List (Tup sh')) : Zal sh n (ZbQ h xs) = Zal sh' n xs /\ (ZbQ h xs).length = xs.length := by
  subst h; exact ⟨rfl, rfl⟩
theorem ZsW {sh : List Leaf} {y : SVal} {K : Nat -> List (Tup sh) -> Prop} (hs1 : 1 <= Zaj sh) (hok : y.ok ρ H.next) (h : ZL2 H sh y K) : ∃ n ys, K n ys /\ ys.length = n /\
    ((y.conc ρ = .slice none 0 0 /\ n = 0) ∨ ∃ b off c, y.conc ρ = .slice (some ⟨b, off, none⟩) n c /\ ∀ w, Rel w0 fp ρ H w -> ∀ j v, (Zal sh n ys)[j]? = some v -> w.cell? ⟨b, off + j, none⟩ = some v) := by
  unfold ZL2 at h
  split at h
  · exact ⟨0, [], h, rfl, .inl ⟨rfl, rfl⟩⟩
  · rename_i ad n c
    simp only [SVal.ok] at hok
    split at h
    · rename_i en hen
      obtain ⟨h0, h⟩ := Zai h
      rw [Bool.and_eq_true] at h0
      have ho0 := Zaq h0.1
      have hi0 := Zaq h0.2
      split at h
      · rename_i sh' m ys hcs
        split at h
        · rename_i hsh
          obtain ⟨rfl, h1, h2⟩ := h
          have hcr := Zne hsh m ys
          refine ⟨m, _, h2, by rw [hcr.2, h1], ?_⟩
          cases hρ : ρ ad.id with
          | none =>
            have := hok.2 hρ
            left
            exact ⟨by simp [SVal.conc, SAddr.conc, hρ, this.1, this.2], this.1⟩
          | some p =>
            obtain ⟨b, base⟩ := p
            right
            refine ⟨b, base, c, by simp [SVal.conc, SAddr.conc, hρ, ho0, hi0], fun w hr j v hj => ?_⟩
            rw [hcr.1] at hj
            exact (hr.ents _ _ hen).cells b base hρ _ _ (by rw [hcs]; simpa [Zab, Chunk.conc] using hj)
        · exact h.elim
      · exact h.elim
    · exact h.elim
  · exact h.elim
theorem ZoP {sh : List Leaf} {y : SVal} {n : Nat} {ys : List (Tup sh)} {t : TypeId} (ht : Zzi P t = true) (h : (y.conc ρ = .slice none 0 0 /\ n = 0) ∨ ∃ b off c, y.conc ρ = .slice (some ⟨b, off, none⟩) n c /\ ∀ w, Rel w0 fp ρ H w -> ∀ j v, (Zal sh n ys)[j]? = some v -> w.cell? ⟨b, off + j, none⟩ = some v)
    (hr : Rel w0 fp ρ H w) : Src P (Zaj sh) t (y.conc ρ) n (Zal sh n ys) w := by
  obtain ⟨e', he'⟩ := ZjG ht
  rcases h with ⟨h1, rfl⟩ | ⟨b, off, c, h1, h2⟩
  · rw [h1]; exact Src.ofNil w he' 0
  · rw [h1]; exact Src.ofSlice w he' _ n c _ (Zag _ _ _) (fun j v hj => by rw [ZbA]; exact h2 w hr j v hj) Zid
theorem Zc1 {sh : List Leaf} {m n : Nat} {xs ys : List (Tup sh)} (h : xs.length = m) (h' : ys.length = n) : Zal sh (m + n) (xs ++ ys) = Zal sh m xs ++ Zal sh n ys := by
  rw [ZaW h, ZaW h', ZaW (by rw [List.length_append, h, h']), List.flatMap_append]
theorem ZjM {t tx ty el : TypeId} {i : TypeInfo} {z : Value} {sh : List Leaf} {base : Option Addr} {len cap n : Nat} {xs ys : List (Tup sh)} {x : Value} (hu : P.underlying t = some (.slice el)) (hi : P.info? el = some i) (hs1 : i.size = Zaj sh) (hb8 : i.bytes <= 100000) (hz : i.zero = some z) (hzc : z.cells.size = Zaj sh)
    (hr : Rel w0 fp ρ H w) (hxl : xs.length = len) (hyl : ys.length = n) (hold : (Builtin.firstCells (Zaj sh) len (.slice base len cap)).run P w.drew = .ok (Zal sh len xs).toArray w.drew) (hsrc : Src P (Zaj sh) tx x n (Zal sh n ys) w)
    (hg : cap < len + n) (hbd : len + n <= 1000000000) (hK : ∀ c, len + n <= c -> K (.slice ⟨H.next, 0, 0, Zaj sh⟩ (len + n) c) (H.push ⟨true, [.rows sh (len + n) (xs ++ ys)], (c - (len + n)) * Zaj sh⟩)) :
    ∃ v w', (Builtin.append_ #[t, tx] ty #[.slice base len cap, x]).run P w = .ok v w' /\ OpPost w0 fp ρ H K v w' := by
  have hbytes : (len + n) * i.bytes <= 140737488355328 := Nat.le_trans (Nat.mul_le_mul_left _ hb8) (by omega)
  have hrun := run_append_grow_src (P := P) w t tx ty el i z hu hi hz base len cap (Zal sh len xs) (by rw [hs1]; exact hold) x n (Zal sh n ys) (by rw [hs1]; exact hsrc) hg (by omega) (growslice_fits hg hbytes)
  have hge := grownCap_ge w (len + n) cap el
  refine ⟨_, _, hrun, ρ.up H.next (some (w.heap.size, 0)), _, _, hK _ hge, ?_, ?_, Rho.up_lt, by simp [Heap.push],
    (hr.drew (w.drawn + 1)).alloc (t := el) (by simp [ZaE, Chunk.ok]) ⟨(Builtin.zeroCells z.cells (grownCap w (len + n) cap el - (len + n))).toList, ?_, ?_⟩⟩
  · simp [SVal.conc, SAddr.conc, Rho.up_same]
  · simp [SVal.ok, Heap.push, Rho.up_same]
  · simp [Zab, Chunk.conc, Zc1 hxl hyl]
  · rw [Array.length_toList, size_zeroCells, hzc]
end
end Go.Sx
