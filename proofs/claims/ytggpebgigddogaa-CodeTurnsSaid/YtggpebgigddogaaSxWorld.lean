/- What loads, stores and new blocks do to a world that holds a small heap. -/
import Derived.Test.YtggpebgigddogaaSxBase
import Derived.WalkKit
namespace Go.Sx

/-! ### The heap behind stores -/
theorem heap_setCells_other (b : Nat) : ∀ (vs : List Value) (o : Nat) (w : World) (k : Nat), k ≠ b → (w.setCells b o vs).heap[k]? = w.heap[k]?
  | [], _, _, _, _ => rfl
  | v :: r, o, w, k, h => by
    rw [World.setCells, heap_setCells_other b r (o + 1) _ k h, heap_setCell_other _ _ _ _ (by simpa using h)]

theorem heap_setCells_same (b : Nat) : ∀ (vs : List Value) (o : Nat) (w : World) (c : Array Value) (t : TypeId) (fz : Nat × Nat), w.heap[b]? = some (.cells c t fz) →
    ∃ c', (w.setCells b o vs).heap[b]? = some (.cells c' t fz) ∧ c'.size = c.size ∧ ∀ i : Nat, (i < o ∨ o + vs.length ≤ i) → c'[i]? = c[i]?
  | [], _, _, c, _, _, h => ⟨c, h, rfl, fun _ _ => rfl⟩
  | v :: r, o, w, c, t, fz, h => by
    have h1 : (w.setCell ⟨b, o, none⟩ v).heap[b]? = some (.cells (c.setIfInBounds o v) t fz) := by
      simp only [World.setCell, Array.getElem?_modify, h, if_true, Option.map_some]
      rfl
    obtain ⟨c', h2, h3, h4⟩ := heap_setCells_same b r (o + 1) _ _ t fz h1
    refine ⟨c', h2, by simpa using h3, fun i hi => ?_⟩
    rw [h4 i (by simp at hi; omega)]
    rw [Array.getElem?_setIfInBounds_ne (by simp at hi; omega)]

theorem setCells_size (b : Nat) : ∀ (vs : List Value) (o : Nat) (w : World), (w.setCells b o vs).heap.size = w.heap.size
  | [], _, _ => rfl
  | v :: r, o, w => by rw [World.setCells, setCells_size b r]; simp

theorem setCells_os (b : Nat) : ∀ (vs : List Value) (o : Nat) (w : World), (w.setCells b o vs).os = w.os ∧ (w.setCells b o vs).tape = w.tape ∧ (w.setCells b o vs).output = w.output
  | [], _, _ => ⟨rfl, rfl, rfl⟩
  | v :: r, o, w => by rw [World.setCells]; exact setCells_os b r (o + 1) _

/-! ### Frames -/
theorem Frame.heap {w0 w w' : World} {fp : Nat → Nat → Prop} (h : Frame w0 fp w) (hh : w'.heap = w.heap) (ho : w'.os = w.os) (ht : w'.tape = w.tape) (hu : w'.output = w.output) : Frame w0 fp w' :=
  ⟨ho.trans h.os, ht.trans h.tape, hu.trans h.output, hh ▸ h.size, fun b hb hn => by rw [hh]; exact h.other b hb hn, fun b hb c t fz hc => by rw [hh]; exact h.cells b hb c t fz hc⟩

theorem Frame.alloc {w0 w : World} {fp : Nat → Nat → Prop} (h : Frame w0 fp w) (o : Obj) : Frame w0 fp (w.alloc o) := by
  have hs := h.size
  refine ⟨h.os, h.tape, h.output, by simp; omega, fun b hb hn => ?_, fun b hb c t fz hc => ?_⟩
  · rw [RowKit.Below.heap_alloc _ _ _ (by omega)]; exact h.other b hb hn
  · rw [RowKit.Below.heap_alloc _ _ _ (by omega)]; exact h.cells b hb c t fz hc

theorem Frame.setCells {w0 w : World} {fp : Nat → Nat → Prop} (h : Frame w0 fp w) {b o : Nat} {vs : List Value}
    (hfp : ∀ i, o ≤ i → i < o + vs.length → fp b i ∨ w0.heap.size ≤ b) : Frame w0 fp (w.setCells b o vs) := by
  obtain ⟨h1, h2, h3⟩ := setCells_os b vs o w
  refine ⟨h1.trans h.os, h2.trans h.tape, h3.trans h.output, by rw [setCells_size]; exact h.size, fun b' hb hn => ?_, fun b' hb c t fz hc => ?_⟩
  · by_cases hbb : b' = b
    · subst hbb
      cases vs with
      | nil => exact h.other _ hb hn
      | cons v r =>
        rcases hfp o (Nat.le_refl _) (by simp) with h' | h'
        · exact absurd h' (hn o)
        · omega
    · rw [heap_setCells_other _ _ _ _ _ hbb]; exact h.other _ hb hn
  · obtain ⟨c', hc', hs', hg'⟩ := h.cells b' hb c t fz hc
    by_cases hbb : b' = b
    · subst hbb
      obtain ⟨c'', hc'', hs'', hg''⟩ := heap_setCells_same b' vs o w c' t fz hc'
      refine ⟨c'', hc'', by omega, fun i hi => ?_⟩
      rw [hg'' i ?_]
      · exact hg' i hi
      · rcases Nat.lt_or_ge i o with hio | hio
        · exact .inl hio
        · rcases Nat.lt_or_ge i (o + vs.length) with hio' | hio'
          · rcases hfp i hio hio' with h' | h'
            · exact absurd h' hi
            · omega
          · exact .inr hio'
    · exact ⟨c', by rw [heap_setCells_other _ _ _ _ _ hbb]; exact hc', hs', hg'⟩

/-! ### Relations -/
theorem Rel.heap {w0 w w' : World} {fp ρ H} (h : Rel w0 fp ρ H w) (hh : w'.heap = w.heap) (ho : w'.os = w.os) (ht : w'.tape = w.tape) (hu : w'.output = w.output) : Rel w0 fp ρ H w' := by
  have hc : ∀ a, w'.cell? a = w.cell? a := fun a => by simp [World.cell?, hh]
  have hf : ∀ a, w'.frozen? a = w.frozen? a := fun a => by simp [World.frozen?, hh]
  exact ⟨h.frame.heap hh ho ht hu, fun id e he => ⟨(h.ents id e he).nil, fun b base hb i v hv => by rw [hc]; exact (h.ents id e he).cells b base hb i v hv,
    fun hw b base hb i hi => by rw [hc, hf]; exact (h.ents id e he).own hw b base hb i hi⟩, h.oks, h.own, h.apart, h.next, h.ro⟩

theorem Rel.drew {w0 w : World} {fp ρ H} (h : Rel w0 fp ρ H w) (n : Nat) : Rel w0 fp ρ H { w with drawn := n } := h.heap rfl rfl rfl rfl

def Rho.up (ρ : Rho) (id : Nat) (p : Option (Nat × Nat)) : Rho := fun i => if i = id then p else ρ i
theorem Rho.up_lt {ρ : Rho} {id : Nat} {p} : ∀ i, i < id → ρ.up id p i = ρ i := fun i h => by simp [Rho.up, Nat.ne_of_lt h]
theorem Rho.up_same {ρ : Rho} {id : Nat} {p} : ρ.up id p id = p := by simp [Rho.up]

/-- What the entries of a small heap say hangs on their own cells alone. -/
theorem cell_lt {w : World} {a : Addr} {v : Value} (h : w.cell? a = some v) : a.block < w.heap.size := by
  unfold World.cell? at h
  split at h
  · rename_i hb
    exact (Array.getElem?_eq_some_iff.1 hb).1
  · cases h

theorem EntOk.lt {ρ w id e} (h : EntOk ρ w id e) {b base : Nat} (hb : ρ id = some (b, base)) (hs : 0 < lenCs e.cs) : b < w.heap.size := by
  have hl := concCs_length ρ e.cs
  have : 0 < (concCs ρ e.cs).length := by omega
  have := h.cells b base hb 0 _ (List.getElem?_eq_getElem this)
  exact cell_lt this

theorem EntOk.congr {ρ ρ' : Rho} {w w' : World} {id n : Nat} {e : Ent} (h : EntOk ρ w id e) (hρ : ∀ i, i < n → ρ' i = ρ i) (hid : id < n) (hok : okCs ρ n e.cs)
    (hc : ∀ b o, Win ρ id e b o → w'.cell? ⟨b, o, none⟩ = w.cell? ⟨b, o, none⟩)
    (hf : e.wr = true → ∀ b o, Win ρ id e b o → w'.frozen? ⟨b, o, none⟩ = w.frozen? ⟨b, o, none⟩) : EntOk ρ' w' id e := by
  have hid' := hρ id hid
  have hcc := concCs_congr hρ e.cs hok
  refine ⟨fun hn => h.nil (hid' ▸ hn), fun b base hb i v hv => ?_, fun hw b base hb i hi => ?_⟩
  · rw [hid'] at hb; rw [hcc] at hv
    have hi : i < (concCs ρ e.cs).length := (List.getElem?_eq_some_iff.1 hv).1
    rw [concCs_length] at hi
    rw [hc b (base + i) ⟨base, hb, by omega, by simp only [Ent.size]; omega⟩]
    exact h.cells b base hb i v hv
  · rw [hid'] at hb
    have hwin : Win ρ id e b (base + i) := ⟨base, hb, by omega, by omega⟩
    rw [hc b _ hwin, hf hw b _ hwin]
    exact h.own hw b base hb i hi

theorem Win.congr {ρ ρ' : Rho} {id : Nat} {e : Ent} {b o : Nat} (hρ : ρ' id = ρ id) : Win ρ' id e b o ↔ Win ρ id e b o := by simp [Win, hρ]

/-- Writable cells are there. -/
theorem Rel.win_lt {w0 w : World} {fp ρ H} (h : Rel w0 fp ρ H w) {id e b o} (he : H.find id = some e) (hw : Win ρ id e b o) : b < w.heap.size := by
  obtain ⟨base, hb, h1, h2⟩ := hw
  rcases h.ro id e he with hs | hs
  · obtain ⟨⟨v, hv⟩, _⟩ := (h.ents id e he).own hs b base hb (o - base) (by omega)
    exact cell_lt hv
  · exact (h.ents id e he).lt hb (by simp only [Ent.size, hs] at h2; omega)

/-- A new block. -/
theorem Rel.alloc {w0 w : World} {fp ρ H} (h : Rel w0 fp ρ H w) {cs : List Chunk} {ex : Nat} {cells : Array Value} {t : TypeId}
    (hok : okCs ρ H.next cs) (hc : ∃ more : List Value, cells.toList = concCs ρ cs ++ more ∧ more.length = ex) :
    Rel w0 fp (ρ.up H.next (some (w.heap.size, 0))) (H.push ⟨true, cs, ex⟩) (w.alloc (.cells cells t)) := by
  obtain ⟨more, hcells, hmore⟩ := hc
  have hup := Rho.up_lt (ρ := ρ) (id := H.next) (p := some (w.heap.size, 0))
  have hsz : cells.size = lenCs cs + ex := by
    rw [← Array.length_toList, hcells, List.length_append, concCs_length, hmore]
  have hold : ∀ id e, H.find id = some e → id < H.next ∧ ∀ b o, Win ρ id e b o → b < w.heap.size := fun id e he => ⟨h.next id e he, fun b o hw => h.win_lt he hw⟩
  refine ⟨h.frame.alloc _, fun id e he => ?_, fun id e he => ?_, fun id e he hwr b o hw => ?_, fun id id' e e' hne he he' hwr b o hw hw' => ?_, fun id e he => ?_, fun id e he => ?_⟩
  · rw [Heap.find_push] at he
    split at he
    · rename_i hid
      subst hid
      cases he
      refine ⟨fun hn => by simp [Rho.up_same] at hn, fun b base hb i v hv => ?_, fun _ b base hb i hi => ?_⟩
      · rw [Rho.up_same] at hb
        cases hb
        rw [concCs_congr hup cs hok] at hv
        rw [Nat.zero_add, World.cell?_alloc_new, ← Array.getElem?_toList, hcells]
        have hlt := (List.getElem?_eq_some_iff.1 hv).1
        rw [List.getElem?_append_left hlt]; exact hv
      · rw [Rho.up_same] at hb
        cases hb
        rw [Nat.zero_add, World.cell?_alloc_new, World.frozen?_alloc_new]
        simp only [Ent.size] at hi
        exact ⟨⟨cells[i]'(by omega), by simp [show i < cells.size by omega]⟩, rfl⟩
    · have := hold id e he
      exact (h.ents id e he).congr hup this.1 (h.oks id e he)
        (fun b o hw => World.cell?_alloc_lt _ _ _ (this.2 b o hw)) (fun _ b o hw => World.frozen?_alloc_old _ _ _ (Nat.ne_of_lt (this.2 b o hw)))
  · rw [Heap.find_push] at he
    split at he
    · cases he
      exact okCs_mono hup (by simp [Heap.push]) cs hok
    · exact okCs_mono hup (by simp [Heap.push]) _ (h.oks id e he)
  · rw [Heap.find_push] at he
    split at he
    · rename_i hid
      subst hid
      cases he
      obtain ⟨base, hb, _, _⟩ := hw
      rw [Rho.up_same] at hb
      cases hb
      exact .inr h.frame.size
    · exact h.own id e he hwr b o ((Win.congr (hup id (hold id e he).1)).1 hw)
  · rw [Heap.find_push] at he he'
    split at he
    · rename_i hid
      subst hid
      cases he
      obtain ⟨base, hb, _, _⟩ := hw
      rw [Rho.up_same] at hb
      cases hb
      split at he'
      · rename_i hid'; exact hne hid'
      · have h1 := hold id' e' he'
        have := h1.2 _ _ ((Win.congr (hup id' h1.1)).1 hw')
        omega
    · have h1 := hold id e he
      have hw1 := (Win.congr (hup id h1.1)).1 hw
      split at he'
      · rename_i hid'
        subst hid'
        cases he'
        obtain ⟨base, hb, _, _⟩ := hw'
        rw [Rho.up_same] at hb
        cases hb
        have := h1.2 _ _ hw1
        omega
      · have h2 := hold id' e' he'
        exact h.apart id id' e e' hne he he' hwr b o hw1 ((Win.congr (hup id' h2.1)).1 hw')
  · rw [Heap.find_push] at he
    split at he
    · rename_i hid; subst hid; simp [Heap.push]
    · have := h.next id e he; simp [Heap.push]; omega
  · rw [Heap.find_push] at he
    split at he
    · cases he; exact .inl rfl
    · exact h.ro id e he

/-- A store into cells of an entry. -/
theorem Rel.store {w0 w : World} {fp ρ H} (h : Rel w0 fp ρ H w) {id : Nat} {e : Ent} {b base off : Nat} {vs : List Value} {cs' : List Chunk} {ex' : Nat}
    (he : H.find id = some e) (hwr : e.wr = true) (hb : ρ id = some (b, base)) (hoff : off + vs.length ≤ e.size) (hok : okCs ρ H.next cs') (hsz : lenCs cs' + ex' = e.size)
    (hold : ∀ (i : Nat) v, (concCs ρ cs')[i]? = some v → (off ≤ i ∧ i < off + vs.length ∧ vs[i - off]? = some v) ∨ ((i < off ∨ off + vs.length ≤ i) ∧ (concCs ρ e.cs)[i]? = some v)) :
    Rel w0 fp ρ (H.set id ⟨true, cs', ex'⟩) (w.setCells b (base + off) vs) := by
  have hent := h.ents id e he
  have hsame : ∀ i, i < e.size → ∃ v, w.cell? ⟨b, base + i, none⟩ = some v := fun i hi => (hent.own hwr b base hb i hi).1
  have hin : ∀ j, j < vs.length → (w.cell? ⟨b, base + off + j, none⟩).isSome = true := fun j hj => by
    obtain ⟨v, hv⟩ := hsame (off + j) (by omega)
    rw [show base + off + j = base + (off + j) by omega, hv]; rfl
  have hfrz : ∀ x, (w.setCells b (base + off) vs).frozen? x = w.frozen? x := World.frozen?_setCells b vs _ w
  have hWin : ∀ b' o, Win ρ id ⟨true, cs', ex'⟩ b' o ↔ Win ρ id e b' o := fun b' o => by simp only [Win, Ent.size] at *; simp only [hsz]
  have hother : ∀ id' e', id' ≠ id → H.find id' = some e' → ∀ b' o, Win ρ id' e' b' o → (w.setCells b (base + off) vs).cell? ⟨b', o, none⟩ = w.cell? ⟨b', o, none⟩ := fun id' e' hne he' b' o hw => by
    refine World.cell?_setCells_out b vs _ w _ (fun hbb _ => ?_)
    simp only at hbb ⊢
    subst hbb
    rcases Nat.lt_or_ge o (base + off) with h1 | h1
    · exact .inl h1
    · rcases Nat.lt_or_ge o (base + off + vs.length) with h2 | h2
      · exact absurd hw (h.apart id id' e e' (Ne.symm hne) he he' hwr b' o ⟨base, hb, by omega, by omega⟩)
      · exact .inr h2
  refine ⟨h.frame.setCells fun i h1 h2 => h.own id e he hwr b i ⟨base, hb, by omega, by omega⟩, fun id' e' he' => ?_, fun id' e' he' => ?_, fun id' e' he' hwr' b' o hw => ?_, fun i1 i2 e1 e2 hne he1 he2 hwr' b' o hw1 hw2 => ?_, fun id' e' he' => ?_, fun id' e' he' => ?_⟩
  · rw [Heap.find_set] at he'
    split at he'
    · rename_i hid
      subst hid
      cases he'
      refine ⟨fun hn => (by rw [hb] at hn; cases hn), fun b' base' hb' i v hv => ?_, fun _ b' base' hb' i hi => ?_⟩
      · rw [hb] at hb'
        cases hb'
        rcases hold i v hv with ⟨h1, h2, h3⟩ | ⟨h1, h3⟩
        · have := World.cell?_setCells_in b vs (base + off) w hin (i - off) (by omega)
          rw [show base + off + (i - off) = base + i by omega] at this
          rw [this]
          have hlt : i - off < vs.length := by omega
          rw [List.getElem?_eq_getElem hlt] at h3
          exact h3
        · rw [World.cell?_setCells_out b vs _ w _ (fun _ _ => by simp only; omega)]
          exact hent.cells b base hb i v h3
      · rw [hb] at hb'
        cases hb'
        simp only [Ent.size] at hi
        rw [hsz] at hi
        rw [hfrz]
        refine ⟨?_, (hent.own hwr b base hb i hi).2⟩
        rcases Nat.lt_or_ge i off with h1 | h1
        · rw [World.cell?_setCells_out b vs _ w _ (fun _ _ => by simp only; omega)]
          exact hsame i hi
        · rcases Nat.lt_or_ge i (off + vs.length) with h2 | h2
          · have := World.cell?_setCells_in b vs (base + off) w hin (i - off) (by omega)
            rw [show base + off + (i - off) = base + i by omega] at this
            exact ⟨_, this⟩
          · rw [World.cell?_setCells_out b vs _ w _ (fun _ _ => by simp only; omega)]
            exact hsame i hi
    · rename_i hid
      exact (h.ents id' e' he').congr (fun _ _ => rfl) (h.next id' e' he') (h.oks id' e' he') (hother id' e' (fun h => hid h.symm) he') (fun _ b' o _ => hfrz _)
  · rw [Heap.find_set] at he'
    split at he'
    · cases he'; exact hok
    · exact h.oks id' e' he'
  · rw [Heap.find_set] at he'
    split at he'
    · rename_i hid
      subst hid
      cases he'
      exact h.own id e he hwr b' o ((hWin b' o).1 hw)
    · exact h.own id' e' he' hwr' b' o hw
  · rw [Heap.find_set] at he1 he2
    split at he1
    · rename_i hid
      subst hid
      cases he1
      split at he2
      · rename_i hid2; exact hne hid2
      · exact h.apart id i2 e e2 hne he he2 hwr b' o ((hWin b' o).1 hw1) hw2
    · split at he2
      · rename_i hid2
        subst hid2
        cases he2
        exact h.apart i1 id e1 e hne he1 he hwr' b' o hw1 ((hWin b' o).1 hw2)
      · exact h.apart i1 i2 e1 e2 hne he1 he2 hwr' b' o hw1 hw2
  · rw [Heap.find_set] at he'
    split at he'
    · rename_i hid; subst hid; exact h.next id e he
    · exact h.next id' e' he'
  · rw [Heap.find_set] at he'
    split at he'
    · cases he'; exact .inl rfl
    · exact h.ro id' e' he'

theorem Rel.drop {w0 w : World} {fp ρ H} (h : Rel w0 fp ρ H w) (id : Nat) : Rel w0 fp ρ (H.drop id) w := by
  have hf : ∀ i e, (H.drop id).find i = some e → H.find i = some e := fun i e he => by
    rw [Heap.find_drop] at he
    split at he
    · cases he
    · exact he
  exact ⟨h.frame, fun i e he => h.ents i e (hf i e he), fun i e he => h.oks i e (hf i e he), fun i e he => h.own i e (hf i e he),
    fun i j e e' hne he he' => h.apart i j e e' hne (hf i e he) (hf j e' he'), fun i e he => h.next i e (hf i e he), fun i e he => h.ro i e (hf i e he)⟩
end Go.Sx
