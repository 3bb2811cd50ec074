/- Part of the proof: SxSortI. -/
import Derived.Test.YtinjdimejijabaaSxCall
import Derived.Test.YtinjdimejijabaaSxG
import Derived.Test.YtinjdimejijabaaSxAbsC
import Derived.Shelf.Sort.Plain
import Derived.Shelf.Slices.In.SortNone
set_option linter.unusedVariables false
set_option linter.unusedSimpArgs false
namespace Go.Sx
open Go.Sort Go.Proofs
def Za7 (xs : List Int) : List Int := xs.mergeSort fun x y => decide (x <= y)
theorem Zbw (xs : List Int) : (Za7 xs).length = xs.length := List.length_mergeSort ..
def Zn5 : Nat -> List Value -> Array Value -> Array Value
  | _, [], c => c
  | o, v :: r, c => Zn5 (o + 1) r (c.setIfInBounds o v)
theorem ZiX : ∀ (vs : List Value) (o : Nat) (c : Array Value) (k : Nat), (k < o ∨ o + vs.length <= k) -> (Zn5 o vs c)[k]? = c[k]?
  | [], _, _, _, _ => rfl
  | v :: r, o, c, k, h => by
    simp only [List.length_cons] at h
    rw [Zn5, ZiX r (o + 1) _ k (by omega), Array.getElem?_setIfInBounds_ne (by omega)]
theorem ZqI : ∀ (vs : List Value) (o : Nat) (c : Array Value) (k : Nat) (hk : k < vs.length), o + k < c.size -> (Zn5 o vs c)[o + k]? = some vs[k]
  | v :: r, o, c, 0, _, h => by
    rw [Zn5, ZiX r (o + 1) _ (o + 0) (by omega)]
    simp only [Nat.add_zero] at h ⊢
    rw [Array.getElem?_setIfInBounds_self_of_lt h]
    rfl
  | v :: r, o, c, k + 1, hk, h => by
    rw [Zn5, show o + (k + 1) = o + 1 + k by omega]
    exact ZqI r (o + 1) _ k (by simpa using hk) (by simpa using (by omega : o + 1 + k < c.size))
theorem Zht (b : Nat) : ∀ (vs : List Value) (o : Nat) (w : World), w.setCells b o vs = mapBlock w b (Zn5 o vs)
  | [], o, w => by
    rw [World.setCells]
    exact (mapBlock_id w b _ fun c e fr _ => rfl).symm
  | v :: r, o, w => by
    rw [World.setCells, Zht b r, setCell_eq, mapBlock_mapBlock]
    rfl
theorem Zix {w : World} {b off : Nat} {ys : List Int} (h : ∀ c e fr, w.heap[b]? = some (.cells c e fr) -> off + ys.length <= c.size) :
    putRow (Value.int .i64) w b off ys.toArray = w.setCells b off (ys.map (Value.int .i64)) := by
  rw [Zht]
  refine mapBlock_congr w b _ _ fun c e fr hc => ?_
  have hle := h c e fr hc
  apply Array.ext_getElem?
  intro k
  unfold putCells
  rw [Array.getElem?_mapIdx]
  by_cases hk : off <= k /\ k < off + ys.length
  · obtain ⟨j, rfl⟩ : ∃ j, k = off + j := ⟨k - off, by omega⟩
    have hj : j < ys.length := by omega
    rw [ZqI _ _ _ j (by simpa using hj) (by omega), Array.getElem?_eq_getElem (by omega)]
    simp only [Option.map_some, List.size_toArray, if_pos hk, List.getElem_map, Nat.add_sub_cancel_left]
    simp [hj]
  · rw [ZiX _ _ _ _ (by simp; omega)]
    cases hc : c[k]? with
    | none => rfl
    | some x => simp only [Option.map_some, List.size_toArray, if_neg hk]
theorem Frame.grow (w : World) (os : Array Obj) : Frame w (fun _ _ => False) (Go.Sort.grow w os) :=
  ⟨rfl, rfl, rfl, by simp, fun b hb _ => heap_grow_old w os hb, fun b hb c t fz hc => ⟨c, by rw [heap_grow_old w os hb]; exact hc, rfl, fun _ _ => rfl⟩⟩
def Zrg : Zcw := fun args H => match args, H with
  | [.slice ⟨0, 0, 0, 1⟩ s_n s_c], ⟨1, [(0, some ⟨true, [.ints .i64 s_m s], 0⟩)]⟩ => some (s_m = s_n /\ (List.length s = s_n /\ s_n <= s_c /\ s_n <= 1000000000), fun K => K (.tuple []) ⟨1, [(0, some ⟨true, [.ints .i64 s_n (Za7 s)], 0⟩)]⟩)
  | _, _ => none
theorem Zrq {P : Program} {ρ0 : Go.Shelf.Ren} (Ly : Lays.n189 P ρ0) : Sound P (ρ0.f 189) (gS Zrg) := by
  intro args H K hs ρ w hr hok
  obtain ⟨pre, out, hD, hp, hK⟩ := ZbK hs
  unfold Zrg at hD
  split at hD
  · rename_i n c m xs
    cases hD
    obtain ⟨rfl, hl, hle, hbig⟩ := hp
    have hf : (⟨1, [(0, some ⟨true, [.ints .i64 m xs], 0⟩)]⟩ : Heap).find 0 = some ⟨true, [.ints .i64 m xs], 0⟩ := rfl
    have hE := hr.ents 0 _ hf
    have hsz : (⟨true, [.ints .i64 m xs], 0⟩ : Ent).size = m := by simp [Ent.size, Zam, Chunk.len]
    have hsl : (Za7 xs).length = m := by rw [Zbw, hl]
    simp only [okL, SVal.ok] at hok
    cases hρ : ρ 0 with
    | none =>
      obtain ⟨rfl, rfl⟩ := hok.1.2 hρ
      have hx : xs = [] := List.eq_nil_of_length_eq_zero hl
      subst hx
      have hc : ZaJ ρ [SVal.slice ⟨0, 0, 0, 1⟩ 0 0] = [.slice none 0 0] := by simp [ZaJ, SVal.conc, SAddr.conc, hρ]
      rw [hc]
      refine (Any.slices_Sort_int_none Ly none 0 w).mono ?_
      rintro e w' ⟨rfl, rfl⟩
      exact ⟨ρ, _, _, hK, rfl, trivial, fun _ _ => rfl, Nat.le_refl _, by simpa [Za7] using hr⟩
    | some p =>
      obtain ⟨b, base⟩ := p
      have hc : ZaJ ρ [SVal.slice ⟨0, 0, 0, 1⟩ m c] = [.slice (some ⟨b, base, none⟩) xs.length c] := by simp [ZaJ, SVal.conc, SAddr.conc, hρ, hl]
      rw [hc]
      by_cases h0 : xs.length = 0
      · have hx : xs = [] := List.eq_nil_of_length_eq_zero h0
        subst hx
        obtain rfl : m = 0 := hl.symm
        refine (Any.slices_Sort_int_none Ly (some ⟨b, base, none⟩) c w).mono ?_
        rintro e w' ⟨rfl, rfl⟩
        exact ⟨ρ, _, _, hK, rfl, trivial, fun _ _ => rfl, Nat.le_refl _, by simpa [Za7] using hr⟩
      have hcell : ∀ j, j < m -> w.cell? ⟨b, base + j, none⟩ = some (.int .i64 (xs.getD j 0)) := fun j hj => by
        refine hE.cells b base hρ j _ ?_
        simp only [Zai, Chunk.conc, List.append_nil]
        exact ZaI _ _ _ _ hj
      have hH : Holds (Value.int .i64) w b base xs.toArray := fun j hj => by
        have hj' : j < m := by rw [<- hl]; simpa using hj
        refine ⟨?_, (hE.own rfl b base hρ j (by rw [hsz]; exact hj')).2⟩
        rw [hcell j hj']
        have hj2 : j < xs.length := by omega
        simp [hj2, List.getD_eq_getElem?_getD]
      have hblk : b < w.heap.size := ZdK (hcell 0 (by omega))
      refine (Any.slices_Sort_int Ly b base c xs w hH hblk (by omega)).mono ?_
      rintro e w' ⟨rfl, n, os, rfl⟩
      have hr1 := hr.heap (w' := Go.Sort.ahead w n) rfl rfl rfl rfl
      have hput : putRow (Value.int .i64) (Go.Sort.ahead w n) b base (Za7 xs).toArray = (Go.Sort.ahead w n).setCells b (base + 0) ((Za7 xs).map (Value.int .i64)) := by
        rw [Nat.add_zero]
        refine Zix fun c' e fr hc' => ?_
        have hw : w.heap[b]? = some (.cells c' e fr) := hc'
        have := hcell (m - 1) (by omega)
        simp only [World.cell?, hw, Option.isSome_none, Bool.false_eq_true, if_false] at this
        have := (Array.getElem?_eq_some_iff.1 this).1
        omega
      have hr2 := hr1.store (off := 0) (vs := (Za7 xs).map (Value.int .i64)) (cs' := [.ints .i64 m (Za7 xs)]) (ex' := 0) hf rfl hρ (by rw [hsz]; simp [hsl]) ⟨trivial, trivial⟩ (by rw [hsz]; simp [Zam, Chunk.len]) (fun i v hv => by
        left
        simp only [Zai, Chunk.conc, List.append_nil, ZiO hsl] at hv
        have hi := (List.getElem?_eq_some_iff.1 hv).1
        exact ⟨Nat.zero_le _, by omega, by simpa using hv⟩)
      have hr3 := hr2.quietF (Frame.grow _ os) (fun _ _ h => h)
      rw [<- hput] at hr3
      exact ⟨ρ, _, _, hK, rfl, trivial, fun _ _ => rfl, Nat.le_refl _, hr3.ext (fun i => by rw [Heap.find_set]; simp only [Heap.find, ZaH]; split <;> simp_all) rfl⟩
  · cases hD
end Go.Sx
