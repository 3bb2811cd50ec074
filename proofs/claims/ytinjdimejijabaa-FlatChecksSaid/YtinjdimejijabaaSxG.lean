/- Part of the proof: SxG. -/
import Derived.Test.YtinjdimejijabaaSxV1
import Derived.KernelRfl
set_option linter.unusedVariables false
set_option linter.unusedSimpArgs false
namespace Go.Sx
abbrev ZR2 := (SVal -> Heap -> Prop) -> Prop
abbrev ZjB := List SVal -> Heap -> Option (Prop × ZR2)
def gS (D : ZjB) : ZjV := fun args H K => match D args H with
  | some (pre, out) => pre /\ out K
  | none => False
theorem ZhE {D : ZjB} {args : List SVal} {H : Heap} {K : SVal -> Heap -> Prop} (h : gS D args H K) : ∃ pre out, D args H = some (pre, out) /\ pre /\ out K := by
  unfold gS at h
  split at h
  · rename_i pre out hD
    exact ⟨pre, out, hD, h⟩
  · exact h.elim
theorem ZPi {D : ZjB} {args : List SVal} {H : Heap} {K : SVal -> Heap -> Prop} {pre : Prop} {out : ZR2} (hD : D args H = some (pre, out)) (hp : pre) (h : out K) : gS D args H K := by
  unfold gS
  rw [hD]
  exact ⟨hp, h⟩
theorem Zbo {n0 : Nat} {K : SVal -> Heap -> Prop} {r r' : SVal} {H H' : Heap} (l : List (Nat × Nat)) (ids : List Nat) (h1 : ZlU n0 l = true) (h2 : Nat.ble n0 H'.next = true) (h3 : r = r'.ren (tau l)) (h4 : r'.bd H'.next)
    (h5 : ZaV (tau l) H'.next H H'.ents) (h6 : H'.ents.map (·.1) = ids) (h7 : ZHa l ids = true) (hK : K r' H') : Zf5 n0 K r H :=
  ⟨tau l, r', H', ZkK h1, Nat.le_of_ble_eq_true h2, h3, h4, h5, Zm8 (h6 ▸ h7), hK⟩
theorem Zw0 {n0 : Nat} {K : SVal -> Heap -> Prop} {r r2 : SVal} {H H2 : Heap} (zs : Zs) (hz : zsB zs = true) (hd : (fun Z : SVal -> Heap -> Prop => dnV 8 r zs H fun v _ H => Z v H) = fun Z => Z r2 H2) (h : Zf5 n0 K r2 H2) : Ret n0 K r H :=
  .inr (.inr ⟨zs, hz, by have := congrFun hd (Zf5 n0 K); exact cast this.symm h⟩)
theorem ZbS {n0 : Nat} {K : SVal -> Heap -> Prop} {r : SVal} {H : Heap} (h : Zf5 n0 K r H) : Ret n0 K r H := .inl h
theorem pbd {n : Nat} {v : SVal} (h : ZjK v = true := by kernel_rfl) : v.bd n := (Zjg (τ := ZbF) h).2
theorem pcs {n : Nat} {cs : List Chunk} (h : ZaS cs = true := by kernel_rfl) : Zbm n cs := (Ze1 (τ := ZbF) h).2
theorem bsl {n l c : Nat} {a : SAddr} (h : Nat.blt a.id n = true := by kernel_rfl) : SVal.bd n (.slice a l c) := ZAO h
theorem bpt {n m : Nat} {a : SAddr} (h : Nat.blt a.id n = true := by kernel_rfl) : SVal.bd n (.ptr a m) := ZN7 h
theorem esc {τ : Nat -> Part} {n s : Nat} {e r : Env} {v : SVal} (hb : v.bd n) (hr : Zbk τ n e r) (h : ZbL e s = some (v.ren τ) := by kernel_rfl) : Zbk τ n e ((s, some v) :: r) := ZqR h hb hr
theorem hsc {l : List (Nat × Nat)} {n i : Nat} {H : Heap} {en : Ent} {r : List (Nat × Option Ent)} (hb : Zbm n en.cs) (hr : ZaV (tau l) n H r) (h : H.find (Zed l i) = some ⟨en.wr, ZaR (tau l) en.cs, en.ex⟩ := by kernel_rfl) (hn : Nat.blt i n = true := by kernel_rfl) :
    ZaV (tau l) n H ((i, some en) :: r) := Zpz h hb hn hr
theorem lpk {P : Program} {w0 : World} {fp : Nat -> Nat -> Prop} {ρi : Rho} {n0 nt : Nat} {e e' : Env} {H H' : Heap} {K : ZdV} {r : List ACode} (ks hs : List Nat) (h : SemL P w0 fp ρi n0 nt r e' H' K) (h1 : Zgc ks e = e' := by kernel_rfl) (h2 : H.keep hs = H' := by kernel_rfl) :
    SemL P w0 fp ρi n0 nt r e H K := ZOq ks hs h1 h2 h
end Go.Sx
