/- Part of the proof: SxG. -/
import Derived.Test.YtfffjdfegnmejaaSxV1
import Derived.KernelRfl
set_option linter.unusedVariables false
set_option linter.unusedSimpArgs false
namespace Go.Sx
abbrev ZO2 := (SVal -> Heap -> Prop) -> Prop
abbrev ZfW := List SVal -> Heap -> Option (Prop × ZO2)
def gS (D : ZfW) : Zyw := fun args H K => match D args H with
  | some (pre, out) => pre /\ out K
  | none => False
theorem Zdv {D : ZfW} {args : List SVal} {H : Heap} {K : SVal -> Heap -> Prop} (h : gS D args H K) : ∃ pre out, D args H = some (pre, out) /\ pre /\ out K := by
  unfold gS at h
  split at h
  · rename_i pre out hD
    exact ⟨pre, out, hD, h⟩
  · exact h.elim
theorem Zbm {n0 : Nat} {K : SVal -> Heap -> Prop} {r r' : SVal} {H H' : Heap} (l : List (Nat × Nat)) (ids : List Nat) (h1 : Zts n0 l = true) (h2 : Nat.ble n0 H'.next = true) (h3 : r = r'.ren (tau l)) (h4 : r'.bd H'.next)
    (h5 : ZbI (tau l) H'.next H H'.ents) (h6 : H'.ents.map (·.1) = ids) (h7 : ZLt l ids = true) (hK : K r' H') : Zkj n0 K r H :=
  ⟨tau l, r', H', ZoN h1, Nat.le_of_ble_eq_true h2, h3, h4, h5, Zo3 (h6 ▸ h7), hK⟩
theorem ZHV {n0 : Nat} {K : SVal -> Heap -> Prop} {r r2 : SVal} {H H2 : Heap} (zs : Zs) (hz : zsB zs = true) (hd : (fun Z : SVal -> Heap -> Prop => dnV 8 r zs H fun v _ H => Z v H) = fun Z => Z r2 H2) (h : Zkj n0 K r2 H2) : Ret n0 K r H :=
  .inr (.inr ⟨zs, hz, by have := congrFun hd (Zkj n0 K); exact cast this.symm h⟩)
theorem Zb4 {n0 : Nat} {K : SVal -> Heap -> Prop} {r : SVal} {H : Heap} (h : Zkj n0 K r H) : Ret n0 K r H := .inl h
theorem pbd {n : Nat} {v : SVal} (h : ZnU v = true := by kernel_rfl) : v.bd n := (Zhq (τ := ZcY) h).2
theorem pcs {n : Nat} {cs : List Chunk} (h : Zbh cs = true := by kernel_rfl) : ZfM n cs := (Zc2 (τ := ZcY) h).2
theorem bsl {n l c : Nat} {a : SAddr} (h : Nat.blt a.id n = true := by kernel_rfl) : SVal.bd n (.slice a l c) := ZzB h
theorem bpt {n m : Nat} {a : SAddr} (h : Nat.blt a.id n = true := by kernel_rfl) : SVal.bd n (.ptr a m) := ZLG h
theorem esc {τ : Nat -> Part} {n s : Nat} {e r : Env} {v : SVal} (hb : v.bd n) (hr : Zdw τ n e r) (h : ZeN e s = some (v.ren τ) := by kernel_rfl) : Zdw τ n e ((s, some v) :: r) := Zo9 h hb hr
theorem hsc {l : List (Nat × Nat)} {n i : Nat} {H : Heap} {en : Ent} {r : List (Nat × Option Ent)} (hb : ZfM n en.cs) (hr : ZbI (tau l) n H r) (h : H.find (ZyN l i) = some ⟨en.wr, ZaD (tau l) en.cs, en.ex⟩ := by kernel_rfl) (hn : Nat.blt i n = true := by kernel_rfl) :
    ZbI (tau l) n H ((i, some en) :: r) := Zn8 h hb hn hr
theorem lpk {P : Program} {w0 : World} {fp : Nat -> Nat -> Prop} {ρi : Rho} {n0 nt : Nat} {e e' : Env} {H H' : Heap} {K : ZaY} {r : List ACode} (ks hs : List Nat) (h : SemL P w0 fp ρi n0 nt r e' H' K) (h1 : ZeM ks e = e' := by kernel_rfl) (h2 : H.keep hs = H' := by kernel_rfl) :
    SemL P w0 fp ρi n0 nt r e H K := ZLN ks hs h1 h2 h
end Go.Sx
