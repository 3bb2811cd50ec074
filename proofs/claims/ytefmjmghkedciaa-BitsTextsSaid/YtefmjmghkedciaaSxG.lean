/- Contracts of functions that are handed anything that small heaps can tell: a pattern of the arguments and of the small heap gives what must be, and what comes of it. -/
import Derived.Test.YtefmjmghkedciaaSxV1
import Derived.KernelRfl
set_option linter.unusedVariables false
set_option linter.unusedSimpArgs false
namespace Go.Sx
abbrev GOut := (SVal → Heap → Prop) → Prop
abbrev GSpec := List SVal → Heap → Option (Prop × GOut)
def gS (D : GSpec) : Spec := fun args H K => match D args H with
  | some (pre, out) => pre ∧ out K
  | none => False
theorem gS_inv {D : GSpec} {args : List SVal} {H : Heap} {K : SVal → Heap → Prop} (h : gS D args H K) : ∃ pre out, D args H = some (pre, out) ∧ pre ∧ out K := by
  unfold gS at h
  split at h
  · rename_i pre out hD
    exact ⟨pre, out, hD, h⟩
  · exact h.elim
theorem gS_mk {D : GSpec} {args : List SVal} {H : Heap} {K : SVal → Heap → Prop} {pre : Prop} {out : GOut} (hD : D args H = some (pre, out)) (hp : pre) (h : out K) : gS D args H K := by
  unfold gS
  rw [hD]
  exact ⟨hp, h⟩
theorem ret0_tau {n0 : Nat} {K : SVal → Heap → Prop} {r r' : SVal} {H H' : Heap} (l : List (Nat × Nat)) (ids : List Nat) (h1 : allGe n0 l = true) (h2 : Nat.ble n0 H'.next = true) (h3 : r = r'.ren (tau l)) (h4 : r'.bd H'.next)
    (h5 : heapSub (tau l) H'.next H H'.ents) (h6 : H'.ents.map (·.1) = ids) (h7 : injB l ids = true) (hK : K r' H') : Ret0 n0 K r H :=
  ⟨tau l, r', H', tau_fix h1, Nat.le_of_ble_eq_true h2, h3, h4, h5, injB_ok (h6 ▸ h7), hK⟩
/-- What a function hands back, nil slices in it told as slices of no elements. -/
theorem ret_dn {n0 : Nat} {K : SVal → Heap → Prop} {r r2 : SVal} {H H2 : Heap} (zs : Zs) (hz : zsB zs = true) (hd : (fun Z : SVal → Heap → Prop => dnV 8 r zs H fun v _ H => Z v H) = fun Z => Z r2 H2) (h : Ret0 n0 K r2 H2) : Ret n0 K r H :=
  .inr (.inr ⟨zs, hz, by have := congrFun hd (Ret0 n0 K); exact cast this.symm h⟩)
theorem ret_of0 {n0 : Nat} {K : SVal → Heap → Prop} {r : SVal} {H : Heap} (h : Ret0 n0 K r H) : Ret n0 K r H := .inl h
/-! Short names for what walks print. -/
theorem pbd {n : Nat} {v : SVal} (h : plainQ v = true := by kernel_rfl) : v.bd n := (plainQ_ren (τ := whole) h).2
theorem pcs {n : Nat} {cs : List Chunk} (h : plainCs cs = true := by kernel_rfl) : bdCs n cs := (plainCs_ren (τ := whole) h).2
theorem bsl {n l c : Nat} {a : SAddr} (h : Nat.blt a.id n = true := by kernel_rfl) : SVal.bd n (.slice a l c) := bd_slice h
theorem bpt {n m : Nat} {a : SAddr} (h : Nat.blt a.id n = true := by kernel_rfl) : SVal.bd n (.ptr a m) := bd_ptr h
theorem esc {τ : Nat → Part} {n s : Nat} {e r : Env} {v : SVal} (hb : v.bd n) (hr : envSub τ n e r) (h : getE e s = some (v.ren τ) := by kernel_rfl) : envSub τ n e ((s, some v) :: r) := envSub_cons h hb hr
theorem hsc {l : List (Nat × Nat)} {n i : Nat} {H : Heap} {en : Ent} {r : List (Nat × Option Ent)} (hb : bdCs n en.cs) (hr : heapSub (tau l) n H r) (h : H.find (tauE l i) = some ⟨en.wr, renCs (tau l) en.cs, en.ex⟩ := by kernel_rfl) (hn : Nat.blt i n = true := by kernel_rfl) :
    heapSub (tau l) n H ((i, some en) :: r) := heapSub_cons h hb hn hr
theorem lpk {P : Program} {w0 : World} {fp : Nat → Nat → Prop} {ρi : Rho} {n0 nt : Nat} {e e' : Env} {H H' : Heap} {K : Cont} {r : List ACode} (ks hs : List Nat) (h : SemL P w0 fp ρi n0 nt r e' H' K) (h1 : pickE ks e = e' := by kernel_rfl) (h2 : H.keep hs = H' := by kernel_rfl) :
    SemL P w0 fp ρi n0 nt r e H K := L_pick ks hs h1 h2 h
end Go.Sx
