/- Part of the proof: SxG. -/
import Derived.Test.YtinjdimejijabaaSxV1
import Derived.KernelRfl
set_option linter.unusedVariables false
set_option linter.unusedSimpArgs false
namespace Go.Sx
abbrev ZCf := (SVal -> Heap -> Prop) -> Prop
abbrev Zd4 := List SVal -> Heap -> Option (Prop × ZCf)
def gS (D : Zd4) : ZoQ := fun args H K => match D args H with
  | some (pre, out) => pre /\ out K
  | none => False
theorem Zct {D : Zd4} {args : List SVal} {H : Heap} {K : SVal -> Heap -> Prop} (h : gS D args H K) : ∃ pre out, D args H = some (pre, out) /\ pre /\ out K := by
  unfold gS at h
  split at h
  · rename_i pre out hD
    exact ⟨pre, out, hD, h⟩
  · exact h.elim
theorem Zjo {D : Zd4} {args : List SVal} {H : Heap} {K : SVal -> Heap -> Prop} {pre : Prop} {out : ZCf} (hD : D args H = some (pre, out)) (hp : pre) (h : out K) : gS D args H K := by
  unfold gS
  rw [hD]
  exact ⟨hp, h⟩
theorem ZaE {n0 : Nat} {K : SVal -> Heap -> Prop} {r r' : SVal} {H H' : Heap} (l : List (Nat × Nat)) (ids : List Nat) (h1 : Zlj n0 l = true) (h2 : Nat.ble n0 H'.next = true) (h3 : r = r'.ren (tau l)) (h4 : r'.bd H'.next)
    (h5 : Zbq (tau l) H'.next H H'.ents) (h6 : H'.ents.map (·.1) = ids) (h7 : ZuX l ids = true) (hK : K r' H') : Zd2 n0 K r H :=
  ⟨tau l, r', H', Zi1 h1, Nat.le_of_ble_eq_true h2, h3, h4, h5, Zjk (h6 ▸ h7), hK⟩
theorem ZaM {n0 : Nat} {K : SVal -> Heap -> Prop} {r : SVal} {H : Heap} (h : Zd2 n0 K r H) : Ret n0 K r H := .inl h
theorem pbd {n : Nat} {v : SVal} (h : Zgy v = true := by kernel_rfl) : v.bd n := (Zf4 (τ := ZdA) h).2
theorem pcs {n : Nat} {cs : List Chunk} (h : Za9 cs = true := by kernel_rfl) : Zfp n cs := (ZcG (τ := ZdA) h).2
theorem bsl {n l c : Nat} {a : SAddr} (h : Nat.blt a.id n = true := by kernel_rfl) : SVal.bd n (.slice a l c) := Zr2 h
theorem bpt {n m : Nat} {a : SAddr} (h : Nat.blt a.id n = true := by kernel_rfl) : SVal.bd n (.ptr a m) := ZzS h
theorem bmp {n i : Nat} (h : Nat.blt i n = true := by kernel_rfl) : SVal.bd n (.map i) := by simp only [SVal.bd]; exact Nat.le_of_ble_eq_true h
theorem esc {τ : Nat -> Part} {n s : Nat} {e r : Env} {v : SVal} (hb : v.bd n) (hr : Zc9 τ n e r) (h : Zd7 e s = some (v.ren τ) := by kernel_rfl) : Zc9 τ n e ((s, some v) :: r) := ZlO h hb hr
theorem hsc {l : List (Nat × Nat)} {n i : Nat} {H : Heap} {en : Ent} {r : List (Nat × Option Ent)} (hb : Zfp n en.cs) (hr : Zbq (tau l) n H r) (h : H.find (Zrw l i) = some ⟨en.wr, ZaO (tau l) en.cs, en.ex⟩ := by kernel_rfl) (hn : Nat.blt i n = true := by kernel_rfl) :
    Zbq (tau l) n H ((i, some en) :: r) := ZkU h hb hn hr
theorem lpk {P : Program} {w0 : World} {fp : Nat -> Nat -> Prop} {ρi : Rho} {n0 nt : Nat} {e e' : Env} {H H' : Heap} {K : Zdh} {r : List ACode} (ks hs : List Nat) (h : SemL P w0 fp ρi n0 nt r e' H' K) (h1 : ZdF ks e = e' := by kernel_rfl) (h2 : H.keep hs = H' := by kernel_rfl) :
    SemL P w0 fp ρi n0 nt r e H K := Zz7 ks hs h1 h2 h
end Go.Sx
