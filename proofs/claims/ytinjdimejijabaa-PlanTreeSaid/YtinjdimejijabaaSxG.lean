/- Part of the proof: SxG. -/
import Derived.Test.YtinjdimejijabaaSxV1
import Derived.KernelRfl
set_option linter.unusedVariables false
set_option linter.unusedSimpArgs false
namespace Go.Sx
theorem pbd {n : Nat} {v : SVal} (h : ZgB v = true := by kernel_rfl) : v.bd n := (Zei (τ := Zbm) h).2
theorem pcs {n : Nat} {cs : List Chunk} (h : Zau cs = true := by kernel_rfl) : ZbK n cs := (Zb6 (τ := Zbm) h).2
theorem bpt {n m : Nat} {a : SAddr} (h : Nat.blt a.id n = true := by kernel_rfl) : SVal.bd n (.ptr a m) := ZmE h
theorem bmp {n i : Nat} (h : Nat.blt i n = true := by kernel_rfl) : SVal.bd n (.map i) := by simp only [SVal.bd]; exact Nat.le_of_ble_eq_true h
theorem esc {τ : Nat -> Part} {n s : Nat} {e r : Env} {v : SVal} (hb : v.bd n) (hr : Za6 τ n e r) (h : ZbD e s = some (v.ren τ) := by kernel_rfl) : Za6 τ n e ((s, some v) :: r) := Zhe h hb hr
theorem hsc {l : List (Nat × Nat)} {n i : Nat} {H : Heap} {en : Ent} {r : List (Nat × Option Ent)} (hb : ZbK n en.cs) (hr : Zar (tau l) n H r) (h : H.find (ZeU l i) = some ⟨en.wr, Zai (tau l) en.cs, en.ex⟩ := by kernel_rfl) (hn : Nat.blt i n = true := by kernel_rfl) :
    Zar (tau l) n H ((i, some en) :: r) := ZgJ h hb hn hr
theorem lpk {P : Program} {w0 : World} {fp : Nat -> Nat -> Prop} {ρi : Rho} {n0 nt : Nat} {e e' : Env} {H H' : Heap} {K : Zfi} {r : List ACode} (ks hs : List Nat) (h : SemL P w0 fp ρi n0 nt r e' H' K) (h1 : Zdr ks e = e' := by kernel_rfl) (h2 : H.keep hs = H' := by kernel_rfl) :
    SemL P w0 fp ρi n0 nt r e H K := ZmN ks hs h1 h2 h
end Go.Sx
