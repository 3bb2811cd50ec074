/- Two parts of the proof. -/
import Derived.Test.YtinjdimejijabaaSxHelp
import Derived.Test.YtinjdimejijabaaSxPlan
import Derived.Test.YtinjdimejijabaaSxBit
import Derived.Test.YtinjdimejijabaaRows
import Derived.ProofKit
import Derived.Test.YtinjdimejijabaaSxRow
import Derived.Test.YtinjdimejijabaaSxRegion
import Derived.Test.YtinjdimejijabaaSxCacheV
import Derived.Test.YtinjdimejijabaaSxRow2
import Derived.Test.YtinjdimejijabaaSxLCalls
set_option linter.unusedVariables false
set_option linter.unusedSimpArgs false
namespace Go.Sx
def ZI9 (v : Int) : Nat -> List Int
  | 0 => []
  | k + 1 => ZI9 v k ++ [(v / 256 ^ k) % 256]
end Go.Sx

namespace Go.Sx
def ZIu (n : Int) : Bool := n == 1 || n == 2 || n == 4 || n == 8
def ZJV (kind : Int) : Bool := decide (2 <= kind /\ kind <= 4)
def ZJU (at_ n : Int) : Nat := (min (at_ % 32) (32 - n)).toNat
end Go.Sx

namespace Go.Sx
structure OpV where
  okind : Int
  oat : Int
  on : Int
  oval : Int
  owant : Int
def OpV.cs (o : OpV) : List Chunk := [.one (.int .i64 o.okind), .one (.int .i64 o.oat), .one (.int .i64 o.on), .one (.int .u64 o.oval), .one (.int .u64 o.owant)]
namespace OpV
def good (o : OpV) : Bool := ZIu o.on && (ZJV o.okind || o.okind == 1)
def numAt (o : OpV) (k : Nat) (xs : List Int) : Int := ZDM ((xs.drop k).take o.on.toNat)
def putAt (o : OpV) (k : Nat) (xs : List Int) : Option Int :=
  if o.okind = 1 then none else if o.okind = 3 then (if o.numAt k xs = o.owant % 256 ^ o.on.toNat then some o.oval else none) else if o.okind = 4 then some ((o.oval + o.numAt k xs) % 18446744073709551616) else some o.oval
def laid (o : OpV) (k : Nat) (xs : List Int) (v : Int) : List Int := xs.take k ++ ZI9 v o.on.toNat ++ xs.drop (k + o.on.toNat)
def nextAt (o : OpV) (k : Nat) (xs : List Int) : List Int := match o.putAt k xs with
  | some v => o.laid k xs v
  | none => xs
def place (o : OpV) : Nat := ZJU o.oat o.on
def next (o : OpV) (xs : List Int) : List Int := if o.good = true then o.nextAt o.place xs else xs
end OpV
end Go.Sx

namespace Go.Proofs.Ytinjdimejijabaa
theorem ZtE : Try.prog.make = some .cut := by kernel_rfl
theorem Zrw : Try.prog.liftsFinal = false := by kernel_rfl
theorem ZkI : Try.prog.mayEnter = true := by kernel_rfl
end Go.Proofs.Ytinjdimejijabaa

namespace Go.Sx
theorem ZpL {n : Int} (h : (Lit.int .i64 n).wf = true) : I64 n := by
  simp only [Lit.wf, Bool.and_eq_true, decide_eq_true_eq, IntKind.min, IntKind.max, IntKind.signed, IntKind.bits] at h
  unfold I64; simp at h; omega
end Go.Sx

namespace Go.Proofs.Ytinjdimejijabaa
theorem Try.own : ownKnob Try.prog.godebug = none := by kernel_rfl
theorem Try.laidOut : laidOutB Try.prog = true := by kernel_rfl
end Go.Proofs.Ytinjdimejijabaa

namespace Go.Sx
theorem Zpy {l : List (Tup Zaf)} (h : ∀ x ∈ l, Tup.wf Zaf x) : Zml l := fun x hx => by
  obtain ⟨h1, h2, h3⟩ := h x hx
  exact ⟨ZpL h1, ZpL h2, ZpL h3⟩
end Go.Sx

namespace Go.Proofs.Ytinjdimejijabaa
theorem Zrz : (Rows.waysCallsRow.lifted == Try.prog.liftsFinal) = true := by rw [Zrw]; rfl
theorem Zv7 : (Try.prog.make == some Rows.waysCallsRow.make) = true := by rw [ZtE]; rfl
set_option maxHeartbeats 4000000 in
theorem Zn6 : joinedFacts Try.prog 10 Try.f10 Rows.waysCallsSpec Rows.waysCallsRow = true := by
  simp only [joinedFacts, Bool.and_eq_true]
  repeat' apply And.intro
  all_goals first | (with_reducible exact ZkI) | (with_reducible exact Zrz) | (with_reducible exact Zv7) | (as_aux_lemma => kernel_rfl)
theorem ZrA : joinedFacts Try.checked.prog 10 Try.f10 Rows.waysCallsSpec Rows.waysCallsRow = true := Zn6
end Go.Proofs.Ytinjdimejijabaa

namespace Go.Proofs.Ytinjdimejijabaa
open Go.ChangeShapes Go.WideShapes Go.ChangeAt Go.RowKit Go.Sx
theorem Zv6 : (Try.f10.params.toList.all fun t => Try.prog.readableRec t && decide (t < Try.prog.types.size)) = true := by kernel_rfl
theorem ZAq : Try.f10.resultTypes = #[4] := by kernel_rfl
theorem Zjq : Sx.Znh Try.prog 8 24 = some [.int .i64, .int .i64] := by kernel_rfl
theorem Zjt : Sx.ZAS Try.prog 24 = true := by kernel_rfl
theorem Zjp : Sx.Znh Try.prog 8 35 = some [.rw [.int .i64, .int .i64, .int .i64]] := by kernel_rfl
theorem Zjs : Sx.ZAS Try.prog 35 = false := by kernel_rfl
set_option maxRecDepth 100000 in
theorem waysCalls_lifted (os : Os) (started : os.Started) (H : Type) (enc : TypeId × Value -> H) :
    ReturnsInHanded {} Try.checked os 10 .any (Rows.waysCallsSpec.pre6 enc Try.prog Try.f10 Rows.waysCallsRow.domain false) (Rows.waysCallsSpec.post enc Try.prog Try.f10 false true false false) := by
  refine returnsInHanded_of_change (C := Try.checked) Try.own started (by kernel_rfl) Try.func10
    (ChangeSpec.witness6 (enc := enc) (C := Try.checked) false ⟨#[], #[.agg #[.int .i64 0, .int .i64 0], .slice none 0 0, .int .i64 0], []⟩ 8 (by kernel_rfl) (by kernel_rfl) (by kernel_rfl) (by kernel_rfl)) ?_
  intro W base args ds gs before hval0 hW hcnd _
  have hval : ∀ (j : Nat) t v, Try.f10.params[j]? = some t -> args[j]? = some v -> Value.okWide Try.prog W .any base t v := hval0
  have hW' := hW
  obtain ⟨p, q, hA0, hV, rfl, hfz, hnd⟩ := hW
  have hA : DataW.TrodAll enc Try.prog W 0 (fun _ => true) true Try.f10.params.toList args.toList ds p := hA0
  rw [Try.params10] at hA hval
  obtain ⟨v0, vs0, d0, ds0, p0, q0, hv0, rfl, rfl, h0, hr0⟩ := trodAll_cons hA
  obtain ⟨v1, vs1, d1, ds1, p1, q1, hv1, rfl, rfl, h1, hr1⟩ := trodAll_cons hr0
  obtain ⟨v2, vs2, d2, ds2, p2, q2, hv2, rfl, rfl, h2, hr2⟩ := trodAll_cons hr1
  obtain ⟨rfl, rfl, rfl⟩ := trodAll_nil hr2
  subst hv1
  subst hv2
  have hargs : args = #[v0, v1, v2] := by have := congrArg List.toArray hv0; simpa using this
  subst hargs
  clear hv0
  obtain ⟨rfl, rfl⟩ := trodVars_none hV
  have sp0 := fun a l c => Sx.ZjJ (a := a) (l := l) (c := c) (hval 0 24 v0 rfl rfl)
  have at0 := Sx.Zra (l := [.int .i64, .int .i64]) (m := 8) Zjq (by kernel_rfl) h0
  obtain ⟨cs0, rfl, ce0⟩ := Sx.Zwk Zjt (hval 0 24 v0 rfl rfl)
  rw [ce0] at sp0 at0
  clear ce0
  obtain ⟨_, t0_0, rfl, ⟨n0_0, rfl, w0_0⟩, a0_0⟩ := at0
  obtain ⟨_, t0_1, rfl, ⟨n0_1, rfl, w0_1⟩, a0_1⟩ := a0_0
  obtain rfl : t0_1 = [] := a0_1
  have sp1 := fun a l c => Sx.ZjJ (a := a) (l := l) (c := c) (hval 1 35 v1 rfl rfl)
  have at1 := Sx.Zra (l := [.rw [.int .i64, .int .i64, .int .i64]]) (m := 8) Zjp (by kernel_rfl) h1
  have ce1 := Sx.ZvM Zjs (hval 1 35 v1 rfl rfl)
  rw [ce1] at sp1 at1
  clear ce1
  obtain ⟨_, t1_0, e1_0, ⟨q1_0, l1_0, c1_0, x1_0, rfl, i1_0, o1_0, w1_0⟩, a1_0⟩ := at1
  obtain rfl : t1_0 = [] := a1_0
  simp only [List.cons_append, List.nil_append, List.cons.injEq, and_true] at e1_0
  subst e1_0
  obtain ⟨r1_0, rfl, g1_0, m1_0, M1_0, e1_0, k1_0⟩ := Sx.ZvJ o1_0 fun a ha => sp1 a l1_0 c1_0 (by rw [ha]; simp)
  obtain ⟨n2, rfl, rfl, rfl, w2⟩ := open_int Try.underlying3 (hval 2 3 v2 rfl rfl) h2
  have hP : Zhl [.agg [.one (.int .i64 n0_0), .one (.int .i64 n0_1)], .slice ⟨0, 0, 0, 3⟩ l1_0 c1_0, .int .i64 n2] ⟨1, Sx.Zi0 0 [(r1_0, [.rows Zaf l1_0 x1_0])]⟩ = some (l1_0 = l1_0 /\ ((Zml x1_0 /\ List.length x1_0 = l1_0 /\ l1_0 <= c1_0) /\ I64 n2), fun K => K (.bool true) ⟨1, Sx.Zi0 0 [(r1_0, [.rows Zaf l1_0 x1_0])]⟩) := by kernel_rfl
  have h := Sx.Zrp (W := W) (args := [.agg [.one (.int .i64 n0_0), .one (.int .i64 n0_1)], .slice ⟨0, 0, 0, 3⟩ l1_0 c1_0, .int .i64 n2]) [(r1_0, [.rows Zaf l1_0 x1_0])] Zrm (Sx.ZkX hP ⟨rfl, ⟨Sx.Zpy w1_0, i1_0, m1_0⟩, Sx.ZpL w2⟩ rfl) (by
    simp only [List.mem_cons, List.not_mem_nil, or_false]
    rintro e rfl
    · exact Sx.ZvI (fun h => (g1_0 h).1) k1_0) (by
    simp only [Sx.okL, Sx.SVal.ok, Sx.ZaV, Sx.Chunk.ok, Sx.ZnM, Sx.PlanV.cs, and_true, true_and]
    exact ⟨by simp, g1_0⟩)
  simp only [Sx.ZaJ, Sx.SVal.conc, Sx.SAddr.conc, Sx.Zai, Sx.Chunk.conc, Sx.ZnM, List.append_nil, List.getElem?_cons_zero, List.getElem?_cons_succ, Nat.zero_mul, Nat.add_zero, List.cons_append, List.nil_append] at h ⊢
  refine h.mono fun e W' ⟨he, hw⟩ => ?_
  subst he
  exact ⟨_, rfl, Sx.ZvT hW' rfl hw Try.laidOut Zv6 rfl ZAq Try.underlying4⟩
theorem ZuQ : Try.checked.prog.funcNamed Rows.waysCallsRow.func = some 10 := by kernel_rfl
theorem Zv8 : Try.f10.isInstance Try.checked.prog Rows.waysCallsRow.origin Rows.waysCallsRow.targs := (of_decide_eq_true (by kernel_rfl))
theorem Zv5 : Try.f10.isWrapper Try.checked.prog Rows.waysCallsRow.wrapper Rows.waysCallsRow.mainSum := (by unfold Func.isWrapper; first | (rw [if_pos (by decide +kernel)]; kernel_rfl) | (rw [if_neg (by decide +kernel)]; exact ⟨rfl, rfl⟩))
theorem waysCalls_holds : Rows.WaysCallsSaid :=
  OpenClaim.holds_of_wide 10 Try.f10 rfl rfl rfl rfl rfl rfl rfl ⟨rfl, rfl, rfl, rfl, rfl⟩ rfl rfl rfl rfl rfl ZuQ Try.func10 ZrA
    Zv8 Zv5
    (fun os started H enc _ => waysCalls_lifted os started H enc)
end Go.Proofs.Ytinjdimejijabaa
