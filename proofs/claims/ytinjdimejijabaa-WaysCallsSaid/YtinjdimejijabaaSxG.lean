/- Part of the proof: SxG. -/
import Derived.Test.YtinjdimejijabaaSxV1
import Derived.KernelRfl
set_option linter.unusedVariables false
set_option linter.unusedSimpArgs false
namespace Go.Sx
abbrev ZJS := (SVal -> Heap -> Prop) -> Prop
abbrev Zcw := List SVal -> Heap -> Option (Prop × ZJS)
def gS (D : Zcw) : ZrR := fun args H K => match D args H with
  | some (pre, out) => pre /\ out K
  | none => False
theorem ZbK {D : Zcw} {args : List SVal} {H : Heap} {K : SVal -> Heap -> Prop} (h : gS D args H K) : ∃ pre out, D args H = some (pre, out) /\ pre /\ out K := by
  unfold gS at h
  split at h
  · rename_i pre out hD
    exact ⟨pre, out, hD, h⟩
  · exact h.elim
theorem ZkX {D : Zcw} {args : List SVal} {H : Heap} {K : SVal -> Heap -> Prop} {pre : Prop} {out : ZJS} (hD : D args H = some (pre, out)) (hp : pre) (h : out K) : gS D args H K := by
  unfold gS
  rw [hD]
  exact ⟨hp, h⟩
theorem Zay {n0 : Nat} {K : SVal -> Heap -> Prop} {r r' : SVal} {H H' : Heap} (l : List (Nat × Nat)) (ids : List Nat) (h1 : Znl n0 l = true) (h2 : Nat.ble n0 H'.next = true) (h3 : r = r'.ren (tau l)) (h4 : r'.bd H'.next)
    (h5 : ZbI (tau l) H'.next H H'.ents) (h6 : H'.ents.map (·.1) = ids) (h7 : ZAO l ids = true) (hK : K r' H') : Zcn n0 K r H :=
  ⟨tau l, r', H', Zkz h1, Nat.le_of_ble_eq_true h2, h3, h4, h5, ZkT (h6 ▸ h7), hK⟩
theorem ZaD {n0 : Nat} {K : SVal -> Heap -> Prop} {r : SVal} {H : Heap} (h : Zcn n0 K r H) : Ret n0 K r H := .inl h
theorem pbd {n : Nat} {v : SVal} (h : Zhz v = true := by kernel_rfl) : v.bd n := (ZgV (τ := Zd1) h).2
theorem pcs {n : Nat} {cs : List Chunk} (h : Zbl cs = true := by kernel_rfl) : ZfA n cs := (Zc2 (τ := Zd1) h).2
theorem bsl {n l c : Nat} {a : SAddr} (h : Nat.blt a.id n = true := by kernel_rfl) : SVal.bd n (.slice a l c) := Zwi h
theorem bpt {n m : Nat} {a : SAddr} (h : Nat.blt a.id n = true := by kernel_rfl) : SVal.bd n (.ptr a m) := ZHo h
theorem esc {τ : Nat -> Part} {n s : Nat} {e r : Env} {v : SVal} (hb : v.bd n) (hr : Zdu τ n e r) (h : ZeF e s = some (v.ren τ) := by kernel_rfl) : Zdu τ n e ((s, some v) :: r) := Zn7 h hb hr
theorem hsc {l : List (Nat × Nat)} {n i : Nat} {H : Heap} {en : Ent} {r : List (Nat × Option Ent)} (hb : ZfA n en.cs) (hr : ZbI (tau l) n H r) (h : H.find (ZvE l i) = some ⟨en.wr, ZaW (tau l) en.cs, en.ex⟩ := by kernel_rfl) (hn : Nat.blt i n = true := by kernel_rfl) :
    ZbI (tau l) n H ((i, some en) :: r) := ZmV h hb hn hr
theorem lpk {P : Program} {w0 : World} {fp : Nat -> Nat -> Prop} {ρi : Rho} {n0 nt : Nat} {e e' : Env} {H H' : Heap} {K : ZcJ} {r : List ACode} (ks hs : List Nat) (h : SemL P w0 fp ρi n0 nt r e' H' K) (h1 : Zd6 ks e = e' := by kernel_rfl) (h2 : H.keep hs = H' := by kernel_rfl) :
    SemL P w0 fp ρi n0 nt r e H K := ZHF ks hs h1 h2 h
end Go.Sx
