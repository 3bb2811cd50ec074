/- Part of the proof: SxFitT. -/
import Derived.Test.YtinjdimejijabaaSxPlanP
import Derived.Test.YtinjdimejijabaaSxTreeM
import Derived.Test.YtinjdimejijabaaSxG
import Derived.KernelRfl
set_option linter.unusedVariables false
set_option linter.unusedSimpArgs false
set_option maxRecDepth 20000
namespace Go.Proofs.Ytinjdimejijabaa
open Go.Sx
def Zjs : Zec := fun args => match args with
  | [.agg [.one (.int .i64 s_0), .one (.int .i64 s_1)], .int .i64 n] => some (True, .bool (decide (s_0 <= n /\ n <= s_1)))
  | _ => none
def ZkT : PCon := ⟨67, Zjs⟩
def Zhg : ACode := .reg (.op (some 2) (.box (.tm 0)) (.op (some 4) (.mov (.cn (.bool false))) .nil))
def Zf0 : ACode := .reg (.op (some 5) (.mov (.tm 1)) (.op (some 6) (.fieldAddr (.tm 2) 0 1) (.op (some 7) (.load1 (.tm 6)) (.op (some 8) (.bin .geq (.tm 5) (.tm 7)) (.op (some 9) (.mov (.tm 8)) (.grpJ 9 true (.op (some 10) (.mov (.tm 1)) (.op (some 11) (.fieldAddr (.tm 2) 1 1) (.op (some 12) (.load1 (.tm 11)) (.op (some 13) (.bin .leq (.tm 10) (.tm 12)) .nil)))) 14 (.tm 13) (.cn (.bool false)) (.op (some 4) (.mov (.tm 14)) .nil)))))))
def Zkn : ACode := (.seq Zhg (.seq Zf0 .ret))
def ZfH : Res := .one (.tm 4)
theorem Zhs : ZbT Try.prog 67 2 15 Zkn ZfH = true := by kernel_rfl
def Zjw : Zat := Zgo [] []
theorem Zi7 : ZaZ Try.prog Zjw := Zdg trivial trivial
section
variable {w0 : World} {fp : Nat -> Nat -> Prop} {ρi : Rho} {Kf : SVal -> Heap -> Prop}
abbrev Ya0 (x0 : SpanV) : Heap := ⟨1, [(0, some ⟨true, (SpanV.cs x0), 0⟩)]⟩
abbrev Ya1 (x0 : Int) : Env := [(1, some (.int .i64 x0)), (2, some (.ptr ⟨0, 0, 0, 1⟩ 2))]
theorem Zlg (s : SpanV) (n : Int) (Z : Env -> Heap -> Prop) (h : ∃ qq : Bool, ((decide (s.lo <= n)) = true -> (Za7 (Ya0 s) (Ya0 s) [(0, some ⟨true, (SpanV.cs s), 0⟩)]) /\ (decide (n <= s.hi)) = qq) /\ ((decide (s.lo <= n)) = false -> false = qq) /\ Z [(4, some (.bool qq))] ⟨1, []⟩) : EvC Zjw Zf0 (Ya1 n) (Ya0 s) [4] [] Z := EvC.of (by kernel_rfl) h
theorem ZkI (s : SpanV) (n : Int) : RetC ZfH [(4, some (.bool ((decide (s.lo <= n)) && (decide (n <= s.hi)))))] ⟨1, []⟩ (.bool ((decide (s.lo <= n)) && (decide (n <= s.hi)))) := RetC.of (fun Z => by kernel_rfl)
def Zgp (s : SpanV) (n : Int) : Prop := ((decide (s.lo <= n)) && (decide (n <= s.hi))) = (decide (s.lo <= n /\ n <= s.hi))
abbrev Ya2 : Heap := ⟨0, []⟩
theorem ZlQ (s : SpanV) (n : Int) (hK : Kf (.bool (decide (s.lo <= n /\ n <= s.hi))) ⟨0, []⟩) (h : Zgp s n) : SemL Try.prog w0 fp ρi 0 15 [Zf0, .ret] (Ya1 n) (Ya0 s) (fnK ZfH 0 Kf) :=
  ZaK Zi7 (Zlg s n _ ⟨((decide (s.lo <= n)) && (decide (n <= s.hi))), fun hc_qq => ⟨(Zcq _), (qa1 hc_qq)⟩, fun hc_qq => qa2 hc_qq, (ZeG (R := ZfH) (m := 0) (Kf := Kf) (fun _ _ h => h) (ZkI s n) (ZbR rfl (by kernel_rfl) (cg1 (fun (z1 : Bool) => (.bool z1 : SVal)) h) hK))⟩)
abbrev Ya3 (x0 : SpanV) (x1 : Int) : Env := [(0, some (.agg (SpanV.cs x0))), (1, some (.int .i64 x1))]
theorem Zlf (s : SpanV) (n : Int) (Z : Env -> Heap -> Prop) (h : Z (Ya1 n) (Ya0 s)) : EvC Zjw Zhg (Ya3 s n) Ya2 [1, 2] [0] Z := EvC.of (by kernel_rfl) h
theorem ZlP (s : SpanV) (n : Int) (hK : Kf (.bool (decide (s.lo <= n /\ n <= s.hi))) ⟨0, []⟩) (h : Zgp s n) : SemL Try.prog w0 fp ρi 0 15 [Zhg, (.seq Zf0 .ret)] (Ya3 s n) Ya2 (fnK ZfH 0 Kf) :=
  ZaK Zi7 (Zlf s n _ (Za0 (ZlQ s n hK h)))
theorem Zk8 (s : SpanV) (n : Int) (hK : Kf (.bool (decide (s.lo <= n /\ n <= s.hi))) ⟨0, []⟩) (h : Zgp s n) : SemL Try.prog w0 fp ρi 0 15 [Zkn] (Ya3 s n) Ya2 (fnK ZfH 0 Kf) :=
  (Za0 (ZlP s n hK h))
end
theorem ZkU (s : SpanV) (n : Int) (hpre : True) : Zgp s n := by
  unfold Zgp
  rw [Bool.decide_and]
theorem Zld : Sound Try.prog 67 (Zc0 Zjs) := by
  refine Zcv Zhs ?_
  intro args H K h
  obtain ⟨pre, v, hP, hpre, rfl, hK⟩ := Zbt h
  unfold Zjs at hP
  split at hP
  · cases hP
    exact ⟨rfl, fun w0 fp ρi => Zk8 (SpanV.mk _ _) _ hK (ZkU (SpanV.mk _ _) _ hpre)⟩
  · cases hP
def Zju : Zec := fun args => match args with
  | [.int .i64 n, .int .i64 b] => some ((0 < b /\ b <= 1000 /\ I64 n), .int .i64 (n % b))
  | _ => none
def ZiW : PCon := ⟨47, Zju⟩
def Zhi : ACode := .reg (.op (some 4) (.mov (.cn (.int .i64 0))) .nil)
def Zf1 : ACode := .reg (.op (some 5) (.mov (.tm 0)) (.op (some 6) (.mov (.tm 1)) (.op (some 7) (.bin .rem (.tm 5) (.tm 6)) (.op (some 0) (.mov (.tm 7)) .nil))))
def Zfa : ACode := .reg (.op (some 8) (.mov (.tm 0)) (.op (some 9) (.bin .lss (.tm 8) (.cn (.int .i64 0))) .nil))
def Zhh : ACode := .reg (.op (some 10) (.mov (.tm 0)) (.op (some 11) (.mov (.tm 1)) (.op (some 12) (.bin .add (.tm 10) (.tm 11)) (.op (some 0) (.mov (.tm 12)) .nil))))
def Ze9 : ACode := .cond (.tm 9) Zhh .skip
def Zc8 : ACode := .reg (.op (some 13) (.mov (.tm 0)) (.op (some 4) (.mov (.tm 13)) .nil))
def Zkp : ACode := (.seq Zhi (.seq Zf1 (.seq (.seq Zfa Ze9) (.seq Zc8 .ret))))
def Zdx : Res := .one (.tm 4)
theorem Zhu : ZbT Try.prog 47 2 14 Zkp Zdx = true := by kernel_rfl
def ZfL : Zat := Zgo [] []
theorem Ze6 : ZaZ Try.prog ZfL := Zdg trivial trivial
section
variable {w0 : World} {fp : Nat -> Nat -> Prop} {ρi : Rho} {Kf : SVal -> Heap -> Prop}
theorem Zll (n b am : Int) (Z : Env -> Heap -> Prop) (h : Z [(4, some (.int .i64 am))] Ya2) : EvC ZfL Zc8 [(0, some (.int .i64 am))] Ya2 [4] [] Z := EvC.of (by kernel_rfl) h
theorem ZkJ (n b am : Int) : RetC Zdx [(4, some (.int .i64 am))] Ya2 (.int .i64 am) := RetC.of (fun Z => by kernel_rfl)
def ZhC (n b am : Int) : Prop := am = (n % b)
abbrev Ya4 (x0 : SVal -> Heap -> Prop) (x1 x2 : Int) : Prop := x0 (.int .i64 (x1 % x2)) ⟨0, []⟩
theorem Zka (n b : Int) (hK : (Ya4 Kf n b)) (am : Int) (h : ZhC n b am) : SemL Try.prog w0 fp ρi 0 14 [Zc8, .ret] [(0, some (.int .i64 am))] Ya2 (fnK Zdx 0 Kf) :=
  ZaK Ze6 (Zll n b am _ (ZeG (R := Zdx) (m := 0) (Kf := Kf) (fun _ _ h => h) (ZkJ n b am) (ZbR rfl (by kernel_rfl) (cg1 (fun (z1 : Int) => (.int .i64 z1 : SVal)) h) hK)))
abbrev Ya5 (x0 x1 : Int) : Env := [(0, some (.int .i64 x0)), (1, some (.int .i64 x1))]
theorem Zlk (n b v0 : Int) (Z : Env -> Heap -> Prop) (h : Z [(0, some (.int .i64 (IntKind.i64.wrap (v0 + b))))] Ya2) : EvC ZfL Zhh (Ya5 v0 b) Ya2 [0] [] Z := EvC.of (by kernel_rfl) h
def Zit (n b v0 : Int) : Prop := ∀ am : Int, am = ((v0 + b) + 9223372036854775808) % 18446744073709551616 - 9223372036854775808 -> ZhC n b am
theorem ZlV (n b : Int) (hK : (Ya4 Kf n b)) (v0 : Int) (h : Zit n b v0) : SemL Try.prog w0 fp ρi 0 14 [Zhh, (.seq Zc8 .ret)] (Ya5 v0 b) Ya2 (fnK Zdx 0 Kf) :=
  ZaK Ze6 (Zlk n b v0 _ (Za0 (Zka n b hK (IntKind.i64.wrap (v0 + b)) (h (IntKind.i64.wrap (v0 + b)) (ZmQ _)))))
def ZhB (n b v0 : Int) : Prop := ((decide (v0 < 0)) = true -> (Zit n b v0)) /\ ((decide (v0 < 0)) = false -> (ZhC n b v0))
abbrev Ya6 (x0 x1 : Int) : Env := [(0, some (.int .i64 x0)), (1, some (.int .i64 x1)), (9, some (.bool (decide (x0 < 0))))]
theorem ZlU (n b : Int) (hK : (Ya4 Kf n b)) (v0 : Int) (h : ZhB n b v0) : SemL Try.prog w0 fp ρi 0 14 [Ze9, (.seq Zc8 .ret)] (Ya6 v0 b) Ya2 (fnK Zdx 0 Kf) :=
  ZfK (q := (decide (v0 < 0))) (by kernel_rfl) (fun hq => (lpk [0, 1] [] (ZlV n b hK v0 (h.1 hq)))) (fun hq => (ZfJ (lpk [0] [] (Za0 (Zka n b hK v0 (h.2 hq))))))
theorem Zlj (n b v0 : Int) (Z : Env -> Heap -> Prop) (h : Z (Ya6 v0 b) Ya2) : EvC ZfL Zfa (Ya5 v0 b) Ya2 [0, 1, 9] [] Z := EvC.of (by kernel_rfl) h
theorem ZlT (n b : Int) (hK : (Ya4 Kf n b)) (v0 : Int) (h : ZhB n b v0) : SemL Try.prog w0 fp ρi 0 14 [Zfa, Ze9, (.seq Zc8 .ret)] (Ya5 v0 b) Ya2 (fnK Zdx 0 Kf) :=
  ZaK Ze6 (Zlj n b v0 _ (ZlU n b hK v0 h))
theorem Zli (n b : Int) (Z : Env -> Heap -> Prop) (h : ((b ≠ 0)) /\ Z [(0, some (.int .i64 (Int.tmod n b))), (1, some (.int .i64 b))] Ya2) : EvC ZfL Zf1 (Ya5 n b) Ya2 [0, 1] [] Z := EvC.of (by kernel_rfl) h
def Zgq (n b : Int) : Prop := ((b ≠ 0)) /\ (∀ v0 : Int, v0 = (Int.tmod n b) -> ZhB n b v0)
theorem ZlS (n b : Int) (hK : (Ya4 Kf n b)) (h : Zgq n b) : SemL Try.prog w0 fp ρi 0 14 [Zf1, (.seq (.seq Zfa Ze9) (.seq Zc8 .ret))] (Ya5 n b) Ya2 (fnK Zdx 0 Kf) :=
  ZaK Ze6 (Zli n b _ ⟨h.1, (Za0 (Za0 (ZlT n b hK (Int.tmod n b) (h.2 (Int.tmod n b) rfl))))⟩)
theorem Zlh (n b : Int) (Z : Env -> Heap -> Prop) (h : Z (Ya5 n b) Ya2) : EvC ZfL Zhi (Ya5 n b) Ya2 [0, 1] [] Z := EvC.of (by kernel_rfl) h
theorem ZlR (n b : Int) (hK : (Ya4 Kf n b)) (h : Zgq n b) : SemL Try.prog w0 fp ρi 0 14 [Zhi, (.seq Zf1 (.seq (.seq Zfa Ze9) (.seq Zc8 .ret)))] (Ya5 n b) Ya2 (fnK Zdx 0 Kf) :=
  ZaK Ze6 (Zlh n b _ (Za0 (ZlS n b hK h)))
theorem Zla (n b : Int) (hK : (Ya4 Kf n b)) (h : Zgq n b) : SemL Try.prog w0 fp ρi 0 14 [Zkp] (Ya5 n b) Ya2 (fnK Zdx 0 Kf) :=
  (Za0 (ZlR n b hK h))
end
theorem ZkW (n b : Int) (hpre : (0 < b /\ b <= 1000 /\ I64 n)) : Zgq n b := by
  unfold Zgq ZhB Zit ZhC
  obtain ⟨h1, h2, h3, h4⟩ := hpre
  obtain ⟨h, a1, a2⟩ := Zh1 (n := n) h1
  simp only [decide_eq_true_eq, decide_eq_false_iff_not]
  refine ⟨by omega, ?_⟩
  rintro v0 rfl
  refine ⟨fun h5 v hv => ?_, fun h5 => ?_⟩ <;> omega
theorem Zj8 : Sound Try.prog 47 (Zc0 Zju) := by
  refine Zcv Zhu ?_
  intro args H K h
  obtain ⟨pre, v, hP, hpre, rfl, hK⟩ := Zbt h
  unfold Zju at hP
  split at hP
  · cases hP
    exact ⟨rfl, fun w0 fp ρi => Zla _ _ hK (ZkW _ _ hpre)⟩
  · cases hP
def Zjt : Zec := fun args => match args with
  | [.agg [.one (.int .i64 s_0), .one (.int .i64 s_1)], .int .i64 n] => some ((SpanV.ok (SpanV.mk s_0 s_1) /\ I64 n), .int .i64 (ZbL s_0 s_1 n))
  | _ => none
def ZiU : PCon := ⟨45, Zjt⟩
def Zhm : ACode := .reg (.op (some 2) (.box (.tm 0)) (.op (some 4) (.mov (.cn (.int .i64 0))) .nil))
def Zf5 : ACode := .reg (.op (some 5) (.loadA 2 (.tm 2)) (.op (some 6) (.mov (.tm 1)) (.op (some 7) (.call 67 [(.tm 5), (.tm 6)]) .nil)))
def Zhl : ACode := .reg (.op (some 8) (.mov (.tm 1)) (.op (some 4) (.mov (.tm 8)) .nil))
def Zf4 : ACode := .cond (.tm 7) (.seq Zhl .ret) .skip
def Zf3 : Items := .op (some 9) (.fieldAddr (.tm 2) 0 1) (.op (some 10) (.load1 (.tm 9)) (.op (some 11) (.mov (.tm 1)) (.op (some 12) (.fieldAddr (.tm 2) 1 1) (.op (some 13) (.load1 (.tm 12)) (.op (some 14) (.fieldAddr (.tm 2) 0 1) (.op (some 15) (.load1 (.tm 14)) (.op (some 16) (.bin .sub (.tm 13) (.tm 15)) (.op (some 17) (.bin .add (.tm 16) (.cn (.int .i64 1))) (.op (some 18) (.call 47 [(.tm 11), (.tm 17)]) (.op (some 19) (.bin .add (.tm 10) (.tm 18)) (.op (some 4) (.mov (.tm 19)) .nil)))))))))))
def Zem : ACode := .regQ Zf3
def Zko : ACode := (.seq Zhm (.seq (.seq Zf5 Zf4) (.seq Zem .ret)))
def Zde : Res := .one (.tm 4)
theorem Zht : ZbT Try.prog 45 2 20 Zko Zde = true := by kernel_rfl
def ZgY : Zat := Zgo [ZiW, ZkT] []
theorem ZfV : ZaZ Try.prog ZgY := Zdg ⟨Zj8, Zld, trivial⟩ trivial
section
variable {w0 : World} {fp : Nat -> Nat -> Prop} {ρi : Rho} {Kf : SVal -> Heap -> Prop}
theorem Zlr (s : SpanV) (n : Int) (Z : Env -> Heap -> Prop) (h : Z [(4, some (.int .i64 n))] ⟨1, []⟩) : EvC ZgY Zhl [(1, some (.int .i64 n))] ⟨1, []⟩ [4] [] Z := EvC.of (by kernel_rfl) h
theorem ZkM (s : SpanV) (n : Int) : RetC Zde [(4, some (.int .i64 n))] ⟨1, []⟩ (.int .i64 n) := RetC.of (fun Z => by kernel_rfl)
def Ziv (s : SpanV) (n : Int) : Prop := n = (ZbL s.lo s.hi n)
abbrev Ya7 (x0 : SVal -> Heap -> Prop) (x1 : SpanV) (x2 : Int) : Prop := x0 (.int .i64 (ZbL x1.lo x1.hi x2)) ⟨0, []⟩
theorem Zl2 (s : SpanV) (n : Int) (hK : (Ya7 Kf s n)) (h : Ziv s n) : SemL Try.prog w0 fp ρi 0 20 [Zhl, .ret, (.seq Zem .ret)] [(1, some (.int .i64 n))] ⟨1, []⟩ (fnK Zde 0 Kf) :=
  ZaK ZfV (Zlr s n _ (ZeG (R := Zde) (m := 0) (Kf := Kf) (fun _ _ h => h) (ZkM s n) (ZbR rfl (by kernel_rfl) (cg1 (fun (z1 : Int) => (.int .i64 z1 : SVal)) h) hK)))
abbrev Ya8 (x0 : SpanV) (x1 : Int) : Env := [(4, some (.int .i64 (IntKind.i64.wrap (x0.lo + (x1 % (IntKind.i64.wrap ((IntKind.i64.wrap (x0.hi - x0.lo)) + 1)))))))]
theorem Zlq (s : SpanV) (n : Int) (Z : Env -> Heap -> Prop) (h : ((SVal.bd 1 (.int .i64 (n % (IntKind.i64.wrap ((IntKind.i64.wrap (s.hi - s.lo)) + 1)))))) /\ ((0 < (IntKind.i64.wrap ((IntKind.i64.wrap (s.hi - s.lo)) + 1)) /\ (IntKind.i64.wrap ((IntKind.i64.wrap (s.hi - s.lo)) + 1)) <= 1000 /\ I64 n) /\ ((.int .i64 (n % (IntKind.i64.wrap ((IntKind.i64.wrap (s.hi - s.lo)) + 1))) : SVal) = .int .i64 (n % (IntKind.i64.wrap ((IntKind.i64.wrap (s.hi - s.lo)) + 1)))) /\ (Za7 (Ya0 s) (Ya0 s) [(0, some ⟨true, (SpanV.cs s), 0⟩)])) /\ Z (Ya8 s n) ⟨1, []⟩) : EvQC ZgY Zf3 [.int .i64 (n % (IntKind.i64.wrap ((IntKind.i64.wrap (s.hi - s.lo)) + 1)))] (Ya1 n) (Ya0 s) [4] [] Z := EvQC.of (by kernel_rfl) h
theorem ZkL (s : SpanV) (n : Int) : RetC Zde (Ya8 s n) ⟨1, []⟩ (.int .i64 (IntKind.i64.wrap (s.lo + (n % (IntKind.i64.wrap ((IntKind.i64.wrap (s.hi - s.lo)) + 1)))))) := RetC.of (fun Z => by kernel_rfl)
def Ziu (s : SpanV) (n : Int) : Prop := ((0 < (IntKind.i64.wrap ((IntKind.i64.wrap (s.hi - s.lo)) + 1)) /\ (IntKind.i64.wrap ((IntKind.i64.wrap (s.hi - s.lo)) + 1)) <= 1000 /\ I64 n)) /\ ((IntKind.i64.wrap (s.lo + (n % (IntKind.i64.wrap ((IntKind.i64.wrap (s.hi - s.lo)) + 1))))) = (ZbL s.lo s.hi n))
theorem Zl1 (s : SpanV) (n : Int) (hK : (Ya7 Kf s n)) (h : Ziu s n) : SemL Try.prog w0 fp ρi 0 20 [Zem, .ret] (Ya1 n) (Ya0 s) (fnK Zde 0 Kf) :=
  Zjv ZfV (its := Zf3) (Zlq s n _ ⟨(Zco (τ := Zbm) (by kernel_rfl)).2, ⟨⟨h.1, rfl, (Zcq _)⟩, (ZeG (R := Zde) (m := 0) (Kf := Kf) (fun _ _ h => h) (ZkL s n) (ZbR rfl (by kernel_rfl) (cg1 (fun (z1 : Int) => (.int .i64 z1 : SVal)) h.2) hK))⟩⟩)
def Zfp (s : SpanV) (n : Int) : Prop := ((decide (s.lo <= n /\ n <= s.hi)) = true -> (Ziv s n)) /\ ((decide (s.lo <= n /\ n <= s.hi)) = false -> (Ziu s n))
abbrev Ya9 (x0 : Int) (x1 : SpanV) : Env := [(1, some (.int .i64 x0)), (2, some (.ptr ⟨0, 0, 0, 1⟩ 2)), (7, some (.bool (decide (x1.lo <= x0 /\ x0 <= x1.hi))))]
theorem Zl0 (s : SpanV) (n : Int) (hK : (Ya7 Kf s n)) (h : Zfp s n) : SemL Try.prog w0 fp ρi 0 20 [Zf4, (.seq Zem .ret)] (Ya9 n s) (Ya0 s) (fnK Zde 0 Kf) :=
  ZfK (q := (decide (s.lo <= n /\ n <= s.hi))) (by kernel_rfl) (fun hq => (Za0 (lpk [1] [] (Zl2 s n hK (h.1 hq))))) (fun hq => (ZfJ (lpk [1, 2] [0] (Za0 (Zl1 s n hK (h.2 hq))))))
theorem Zlp (s : SpanV) (n : Int) (Z : Env -> Heap -> Prop) (h : (True) /\ Z (Ya9 n s) (Ya0 s)) : EvC ZgY Zf5 (Ya1 n) (Ya0 s) [1, 2, 7] [0] Z := EvC.of (by kernel_rfl) h
theorem ZlZ (s : SpanV) (n : Int) (hK : (Ya7 Kf s n)) (h : Zfp s n) : SemL Try.prog w0 fp ρi 0 20 [Zf5, Zf4, (.seq Zem .ret)] (Ya1 n) (Ya0 s) (fnK Zde 0 Kf) :=
  ZaK ZfV (Zlp s n _ ⟨True.intro, (Zl0 s n hK h)⟩)
theorem Zlo (s : SpanV) (n : Int) (Z : Env -> Heap -> Prop) (h : Z (Ya1 n) (Ya0 s)) : EvC ZgY Zhm (Ya3 s n) Ya2 [1, 2] [0] Z := EvC.of (by kernel_rfl) h
theorem ZlY (s : SpanV) (n : Int) (hK : (Ya7 Kf s n)) (h : Zfp s n) : SemL Try.prog w0 fp ρi 0 20 [Zhm, (.seq (.seq Zf5 Zf4) (.seq Zem .ret))] (Ya3 s n) Ya2 (fnK Zde 0 Kf) :=
  ZaK ZfV (Zlo s n _ (Za0 (Za0 (ZlZ s n hK h))))
theorem Zk9 (s : SpanV) (n : Int) (hK : (Ya7 Kf s n)) (h : Zfp s n) : SemL Try.prog w0 fp ρi 0 20 [Zko] (Ya3 s n) Ya2 (fnK Zde 0 Kf) :=
  (Za0 (ZlY s n hK h))
end
theorem ZkV (s : SpanV) (n : Int) (hpre : (SpanV.ok s /\ I64 n)) : Zfp s n := by
  unfold Zfp Ziu Ziv
  obtain ⟨⟨h1, h2, h3⟩, h4, h5⟩ := hpre
  simp only [decide_eq_true_eq, decide_eq_false_iff_not, ZmQ]
  rw [show (((s.hi - s.lo + 9223372036854775808) % 18446744073709551616 - 9223372036854775808 + 1 + 9223372036854775808) % 18446744073709551616 - 9223372036854775808) = s.hi - s.lo + 1 by omega]
  refine ⟨fun h => (Zi8 h.1 h.2).symm, fun h => ⟨⟨by omega, by omega, h4, h5⟩, ?_⟩⟩
  unfold ZbL
  rw [if_neg h]
  have := Int.emod_nonneg n (show s.hi - s.lo + 1 ≠ 0 by omega)
  have := Int.emod_lt_of_pos n (show 0 < s.hi - s.lo + 1 by omega)
  omega
theorem Zj7 : Sound Try.prog 45 (Zc0 Zjt) := by
  refine Zcv Zht ?_
  intro args H K h
  obtain ⟨pre, v, hP, hpre, rfl, hK⟩ := Zbt h
  unfold Zjt at hP
  split at hP
  · cases hP
    exact ⟨rfl, fun w0 fp ρi => Zk9 (SpanV.mk _ _) _ hK (ZkV (SpanV.mk _ _) _ hpre)⟩
  · cases hP
def Zfg : Zec := fun args => match args with
  | [.agg [.one (.int .i64 x_0), .one (.int .i64 x_1)]] => some ((I64 x_0 /\ I64 x_1), .agg (ShapeV.cs (ShapeV.fit (ShapeV.mk x_0 x_1))))
  | _ => none
def Zia : PCon := ⟨46, Zfg⟩
def Zhk : ACode := .reg (.op (some 1) (.box (.tm 0)) (.op (some 2) (.alloc [.i 0, .i 0]) .nil))
def Zf2 : List MStep := [.mk 0 0 (some 3) (.build [.i 0, .i 0] [(0, 1, (.cn (.int .i64 1))), (1, 1, (.cn (.int .i64 4)))]), .mk 1 0 (some 4) (.fieldAddr (.tm 1) 0 1), .mk 2 0 (some 5) (.load1 (.tm 4)), .mk 4 0 (some 7) (.build [.i 0, .i 0] [(0, 1, (.cn (.int .i64 1))), (1, 1, (.cn (.int .i64 4)))]), .mk 5 0 (some 8) (.fieldAddr (.tm 1) 1 1), .mk 6 0 (some 9) (.load1 (.tm 8)), .mk 3 1 (some 6) (.call 45 [(.tm 3), (.tm 5)]), .mk 7 2 (some 10) (.call 45 [(.tm 7), (.tm 9)]), .mk 8 0 (some 11) (.build [.i 0, .i 0] [(0, 1, (.tm 6)), (1, 1, (.tm 10))]), .mk 9 2 none (.storeA 2 (.tm 2) (.tm 11))]
def Zhj : ACode := .regM Zf2
def ZgP : ACode := (.seq Zhk (.seq Zhj .ret))
def Zcy : Res := .one (.cA 2 2)
theorem Zfo : ZbT Try.prog 46 1 12 ZgP Zcy = true := by kernel_rfl
def Zfh : Zat := Zgo [ZiU] []
theorem Zfz : ZaZ Try.prog Zfh := Zdg ⟨Zj7, trivial⟩ trivial
section
variable {w0 : World} {fp : Nat -> Nat -> Prop} {ρi : Rho} {Kf : SVal -> Heap -> Prop}
abbrev Zk7 (x0 : ShapeV) : Heap := ⟨2, [(0, some ⟨true, (ShapeV.cs x0), 0⟩), (1, some ⟨true, [.i 0, .i 0], 0⟩)]⟩
abbrev ZnN (x0 : ShapeV) : Heap := ⟨2, [(1, some ⟨true, [.i (ZbL (1 : Int) (4 : Int) x0.sets), .i (ZbL (1 : Int) (4 : Int) x0.ways)], 0⟩)]⟩
abbrev Znk : Env := [(1, some (.ptr ⟨0, 0, 0, 1⟩ 2)), (2, some (.ptr ⟨1, 0, 0, 1⟩ 2))]
theorem Zln (x : ShapeV) (Z : Env -> Heap -> Prop) (h : ((SpanV.ok (SpanV.mk 1 4) /\ I64 x.sets)) /\ ((Za7 (Zk7 x) (Heap.keep (Zk7 x) [0]) (ZdX [0] (Zk7 x)))) /\ ((SpanV.ok (SpanV.mk 1 4) /\ I64 x.ways)) /\ Z [(2, some (.ptr ⟨1, 0, 0, 1⟩ 2))] (ZnN x)) : EvNC Zfh Zf2 [[], [], [0], [], [], [], [], [], [], []] Znk (Zk7 x) [2] [1] Z := EvNC.of (by kernel_rfl) h
theorem ZkK (x : ShapeV) : RetC Zcy [(2, some (.ptr ⟨1, 0, 0, 1⟩ 2))] (ZnN x) (.agg [.i (ZbL (1 : Int) (4 : Int) x.sets), .i (ZbL (1 : Int) (4 : Int) x.ways)]) := RetC.of (fun Z => by kernel_rfl)
def Zgr (x : ShapeV) : Prop := ((SpanV.ok (SpanV.mk 1 4) /\ I64 x.sets)) /\ (((SpanV.ok (SpanV.mk 1 4) /\ I64 x.ways)) /\ (((ZbL (1 : Int) (4 : Int) x.sets) = (ShapeV.fit x).sets) /\ ((ZbL (1 : Int) (4 : Int) x.ways) = (ShapeV.fit x).ways)))
theorem ZlX (x : ShapeV) (hK : Kf (.agg (ShapeV.cs (ShapeV.fit x))) ⟨0, []⟩) (h : Zgr x) : SemL Try.prog w0 fp ρi 0 12 [Zhj, .ret] Znk (Zk7 x) (fnK Zcy 0 Kf) :=
  Zhz Zfz (steps := Zf2) (Zln x _ ⟨h.1, ⟨ZcG, ⟨h.2.1, (ZeG (R := Zcy) (m := 0) (Kf := Kf) (fun _ _ h => h) (ZkK x) (ZbR rfl (by kernel_rfl) (cg2 (fun (z1 z2 : Int) => (.agg [.i z1, .i z2] : SVal)) h.2.2.1 h.2.2.2) hK))⟩⟩⟩)
theorem Zlm (x : ShapeV) (Z : Env -> Heap -> Prop) (h : Z Znk (Zk7 x)) : EvC Zfh Zhk [(0, some (.agg (ShapeV.cs x)))] Ya2 [1, 2] [0, 1] Z := EvC.of (by kernel_rfl) h
theorem ZlW (x : ShapeV) (hK : Kf (.agg (ShapeV.cs (ShapeV.fit x))) ⟨0, []⟩) (h : Zgr x) : SemL Try.prog w0 fp ρi 0 12 [Zhk, (.seq Zhj .ret)] [(0, some (.agg (ShapeV.cs x)))] Ya2 (fnK Zcy 0 Kf) :=
  ZaK Zfz (Zlm x _ (Za0 (ZlX x hK h)))
theorem Zis (x : ShapeV) (hK : Kf (.agg (ShapeV.cs (ShapeV.fit x))) ⟨0, []⟩) (h : Zgr x) : SemL Try.prog w0 fp ρi 0 12 [ZgP] [(0, some (.agg (ShapeV.cs x)))] Ya2 (fnK Zcy 0 Kf) :=
  (Za0 (ZlW x hK h))
end
theorem Zif (x : ShapeV) (hpre : (I64 x.sets /\ I64 x.ways)) : Zgr x := by
  unfold Zgr
  exact ⟨⟨⟨by decide, by decide, by decide⟩, hpre.1⟩, ⟨⟨by decide, by decide, by decide⟩, hpre.2⟩, rfl, rfl⟩
theorem ZiM : Sound Try.prog 46 (Zc0 Zfg) := by
  refine Zcv Zfo ?_
  intro args H K h
  obtain ⟨pre, v, hP, hpre, rfl, hK⟩ := Zbt h
  unfold Zfg at hP
  split at hP
  · cases hP
    exact ⟨rfl, fun w0 fp ρi => Zis (ShapeV.mk _ _) hK (Zif (ShapeV.mk _ _) hpre)⟩
  · cases hP
def Zk4 : Zec := fun args => match args with
  | [.agg [.one (.int .i64 aK), .one (.int .i64 aJ), .one (.int .i64 aI), .one (.int .i64 aH), .one (.int .i64 aG), .one (.int .i64 aF), .one (.int .u64 aE), .one (.int .i64 aD), .one (.int .i64 aC), .one (.int .i64 aB), .one (.int .i64 ax), .one (.int .i64 aw), .one (.int .i64 av), .one (.int .i64 au), .ints .u8 ap ar, .ints .u8 ao aq]] => bif Nat.beq ap 16 && Nat.beq ao 16 then some ((PlanV.Wf (PlanV.mk aK aJ aI aH aG aF aE aD aC aB ax aw av au ar aq)), .agg (PlanV.cs (PlanV.fit (PlanV.mk aK aJ aI aH aG aF aE aD aC aB ax aw av au ar aq)))) else none
  | _ => none
def Zms : PCon := ⟨12, Zk4⟩
def Zhr : ACode := .reg (.op (some 1) (.box (.tm 0)) (.op (some 2) (.alloc [.i 0, .i 0, .i 0, .i 0, .i 0, .i 0, .one (.int .u64 0), .i 0, .i 0, .i 0, .i 0, .i 0, .i 0, .i 0, .ints .u8 16 (List.replicate 16 0), .ints .u8 16 (List.replicate 16 0)]) .nil))
def Zgc : ACode := .reg (.op (some 3) (.build [.i 0, .i 0] [(0, 1, (.cn (.int .i64 1))), (1, 1, (.cn (.int .i64 4)))]) (.op (some 4) (.fieldAddr (.tm 1) 0 1) (.op (some 5) (.load1 (.tm 4)) (.op (some 6) (.call 45 [(.tm 3), (.tm 5)]) (.op (some 7) (.fieldAddr (.tm 1) 0 1) (.op none (.store1 (.tm 7) (.tm 6)) .nil))))))
def Zfc : ACode := .reg (.op (some 8) (.build [.i 0, .i 0] [(0, 1, (.cn (.int .i64 1))), (1, 1, (.cn (.int .i64 4)))]) (.op (some 9) (.fieldAddr (.tm 1) 1 1) (.op (some 10) (.load1 (.tm 9)) (.op (some 11) (.call 45 [(.tm 8), (.tm 10)]) (.op (some 12) (.fieldAddr (.tm 1) 1 1) (.op none (.store1 (.tm 12) (.tm 11)) .nil))))))
def Zen : ACode := .reg (.op (some 13) (.build [.i 0, .i 0] [(0, 1, (.cn (.int .i64 1))), (1, 1, (.cn (.int .i64 16)))]) (.op (some 14) (.fieldAddr (.tm 1) 2 1) (.op (some 15) (.load1 (.tm 14)) (.op (some 16) (.call 45 [(.tm 13), (.tm 15)]) (.op (some 17) (.fieldAddr (.tm 1) 2 1) (.op none (.store1 (.tm 17) (.tm 16)) .nil))))))
def ZdI : ACode := .reg (.op (some 18) (.build [.i 0, .i 0] [(0, 1, (.cn (.int .i64 1))), (1, 1, (.cn (.int .i64 8)))]) (.op (some 19) (.fieldAddr (.tm 1) 3 1) (.op (some 20) (.load1 (.tm 19)) (.op (some 21) (.call 45 [(.tm 18), (.tm 20)]) (.op (some 22) (.fieldAddr (.tm 1) 3 1) (.op none (.store1 (.tm 22) (.tm 21)) .nil))))))
def Zda : ACode := .reg (.op (some 23) (.build [.i 0, .i 0] [(0, 1, (.cn (.int .i64 2))), (1, 1, (.cn (.int .i64 4)))]) (.op (some 24) (.fieldAddr (.tm 1) 4 1) (.op (some 25) (.load1 (.tm 24)) (.op (some 26) (.call 45 [(.tm 23), (.tm 25)]) (.op (some 27) (.fieldAddr (.tm 1) 4 1) (.op none (.store1 (.tm 27) (.tm 26)) .nil))))))
def ZcN : ACode := .reg (.op (some 28) (.build [.i 0, .i 0] [(0, 1, (.cn (.int .i64 1))), (1, 1, (.cn (.int .i64 8)))]) (.op (some 29) (.fieldAddr (.tm 1) 5 1) (.op (some 30) (.load1 (.tm 29)) (.op (some 31) (.call 45 [(.tm 28), (.tm 30)]) (.op (some 32) (.fieldAddr (.tm 1) 5 1) (.op none (.store1 (.tm 32) (.tm 31)) .nil))))))
def Zck : ACode := .reg (.op (some 33) (.fieldAddr (.tm 1) 6 1) (.op (some 34) (.load1 (.tm 33)) (.op (some 35) (.min2 (.tm 34) (.cn (.int .u64 4294967296))) (.op (some 36) (.fieldAddr (.tm 1) 6 1) (.op none (.store1 (.tm 36) (.tm 35)) .nil)))))
def Zgb : List MStep := [.mk 0 0 (some 37) (.fieldAddr (.tm 1) 7 2), .mk 1 0 (some 38) (.loadA 2 (.tm 37)), .mk 3 0 (some 40) (.fieldAddr (.tm 1) 9 2), .mk 4 0 (some 41) (.loadA 2 (.tm 40)), .mk 2 1 (some 39) (.call 46 [(.tm 38)]), .mk 6 0 (some 43) (.fieldAddr (.tm 1) 7 2), .mk 5 1 (some 42) (.call 46 [(.tm 41)]), .mk 7 2 none (.storeA 2 (.tm 43) (.tm 39)), .mk 8 0 (some 44) (.fieldAddr (.tm 1) 9 2), .mk 9 2 none (.storeA 2 (.tm 44) (.tm 42))]
def Zcj : ACode := .regM Zgb
def ZbW : ACode := .reg (.op (some 45) (.build [.i 0, .i 0] [(0, 1, (.cn (.int .i64 1))), (1, 1, (.cn (.int .i64 4)))]) (.op (some 46) (.fieldAddr (.tm 1) 12 1) (.op (some 47) (.load1 (.tm 46)) (.op (some 48) (.call 45 [(.tm 45), (.tm 47)]) (.op (some 49) (.fieldAddr (.tm 1) 12 1) (.op none (.store1 (.tm 49) (.tm 48)) .nil))))))
def Zbr : ACode := .reg (.op (some 50) (.fieldAddr (.tm 1) 13 1) (.op (some 51) (.load1 (.tm 50)) (.op (some 52) (.call 47 [(.tm 51), (.cn (.int .i64 2))]) (.op (some 53) (.fieldAddr (.tm 1) 13 1) (.op none (.store1 (.tm 53) (.tm 52)) .nil)))))
def Zfd : List MStep := [.mk 0 0 (some 54) (.loadA 46 (.tm 1)), .mk 2 0 (some 56) (.fieldAddr (.tm 1) 11 1), .mk 3 0 (some 57) (.load1 (.tm 56)), .mk 1 1 (some 55) (.call 48 [(.tm 54)]), .mk 4 2 (some 58) (.call 47 [(.tm 57), (.cn (.int .i64 4))]), .mk 5 0 (some 59) (.bin .add (.tm 55) (.tm 58)), .mk 6 0 (some 60) (.fieldAddr (.tm 1) 11 1), .mk 7 2 none (.store1 (.tm 60) (.tm 59))]
def Zbq : ACode := .regM Zfd
def Zbg : ACode := .reg (.op (some 61) (.loadA 46 (.tm 1)) (.op none (.storeA 46 (.tm 2) (.tm 61)) .nil))
def ZmD : ACode := (.seq Zhr (.seq Zgc (.seq Zfc (.seq Zen (.seq ZdI (.seq Zda (.seq ZcN (.seq Zck (.seq Zcj (.seq ZbW (.seq Zbr (.seq Zbq (.seq Zbg .ret)))))))))))))
def Zdf : Res := .one (.cA 2 46)
theorem Zij : ZbT Try.prog 12 1 62 ZmD Zdf = true := by kernel_rfl
def Zed : Zat := Zgo [ZiU, Zia, ZiW, ZjP] []
theorem Zcu : ZaZ Try.prog Zed := Zdg ⟨Zj7, ZiM, Zj8, ZkE, trivial⟩ trivial
section
variable {w0 : World} {fp : Nat -> Nat -> Prop} {ρi : Rho} {Kf : SVal -> Heap -> Prop}
abbrev ZnM (x0 x1 x2 x3 x4 x5 x6 : Int) (x7 x8 : ShapeV) (x9 ay aA : Int) (az : PlanV) : Heap := ⟨2, [(1, some ⟨true, [.i x0, .i x1, .i x2, .i x3, .i x4, .i x5, .one (.int .u64 x6), .i x7.sets, .i x7.ways, .i x8.sets, .i x8.ways, .i x9, .i ay, .i aA, .ints .u8 16 az.key, .ints .u8 16 az.tag], 0⟩)]⟩
abbrev ZcV : Env := [(1, some (.ptr ⟨0, 0, 0, 1⟩ 46)), (2, some (.ptr ⟨1, 0, 0, 1⟩ 46))]
abbrev ZnL (x0 x1 x2 x3 x4 x5 x6 : Int) (x7 x8 : ShapeV) (x9 ay aA : Int) (az : PlanV) : Heap := ⟨2, [(0, some ⟨true, [.i x0, .i x1, .i x2, .i x3, .i x4, .i x5, .one (.int .u64 x6), .i x7.sets, .i x7.ways, .i x8.sets, .i x8.ways, .i x9, .i ay, .i aA, .ints .u8 16 az.key, .ints .u8 16 az.tag], 0⟩), (1, some ⟨true, [.i 0, .i 0, .i 0, .i 0, .i 0, .i 0, .one (.int .u64 0), .i 0, .i 0, .i 0, .i 0, .i 0, .i 0, .i 0, .ints .u8 16 (List.replicate 16 0), .ints .u8 16 (List.replicate 16 0)], 0⟩)]⟩
theorem ZlK (p : PlanV) (aa ab ac ad ae af ag : Int) (aj ai : ShapeV) (al ah ak : Int) (Z : Env -> Heap -> Prop) (h : Z [(2, some (.ptr ⟨1, 0, 0, 1⟩ 46))] (ZnM aa ab ac ad ae af ag aj ai al ah ak p)) : EvC Zed Zbg ZcV (ZnL aa ab ac ad ae af ag aj ai al ah ak p) [2] [1] Z := EvC.of (by kernel_rfl) h
theorem ZkN (p : PlanV) (aa ab ac ad ae af ag : Int) (aj ai : ShapeV) (al ah ak : Int) : RetC Zdf [(2, some (.ptr ⟨1, 0, 0, 1⟩ 46))] (ZnM aa ab ac ad ae af ag aj ai al ah ak p) (.agg [.i aa, .i ab, .i ac, .i ad, .i ae, .i af, .one (.int .u64 ag), .i aj.sets, .i aj.ways, .i ai.sets, .i ai.ways, .i al, .i ah, .i ak, .ints .u8 16 p.key, .ints .u8 16 p.tag]) := RetC.of (fun Z => by kernel_rfl)
def ZiH (p : PlanV) (aa ab ac ad ae af ag : Int) (aj ai : ShapeV) (al ah ak : Int) : Prop := (aa = (PlanV.fit p).cores) /\ (ab = (PlanV.fit p).banks) /\ (ac = (PlanV.fit p).pages) /\ (ad = (PlanV.fit p).lines) /\ (ae = (PlanV.fit p).arity) /\ (af = (PlanV.fit p).minor) /\ (ag = (PlanV.fit p).major) /\ (aj.sets = (PlanV.fit p).ns) /\ (aj.ways = (PlanV.fit p).nw) /\ (ai.sets = (PlanV.fit p).fs) /\ (ai.ways = (PlanV.fit p).fw) /\ (al = (PlanV.fit p).met) /\ (ah = (PlanV.fit p).queue) /\ (ak = (PlanV.fit p).kind) /\ (p.key = (PlanV.fit p).key) /\ (p.tag = (PlanV.fit p).tag)
abbrev ZhX (x0 : SVal -> Heap -> Prop) (x1 : PlanV) : Prop := x0 (.agg (PlanV.cs (PlanV.fit x1))) ⟨0, []⟩
theorem Zmr (p : PlanV) (hK : (ZhX Kf p)) (aa ab ac ad ae af ag : Int) (aj ai : ShapeV) (al ah ak : Int) (h : ZiH p aa ab ac ad ae af ag aj ai al ah ak) : SemL Try.prog w0 fp ρi 0 62 [Zbg, .ret] ZcV (ZnL aa ab ac ad ae af ag aj ai al ah ak p) (fnK Zdf 0 Kf) :=
  ZaK Zcu (ZlK p aa ab ac ad ae af ag aj ai al ah ak _ (ZeG (R := Zdf) (m := 0) (Kf := Kf) (fun _ _ h => h) (ZkN p aa ab ac ad ae af ag aj ai al ah ak) (ZbR rfl (by kernel_rfl) (ZnU (fun (z1 z2 z3 z4 z5 z6 z7 z8 z9 z10 z11 z12 z13 z14 : Int) (z15 z16 : List Int) => (.agg [.i z1, .i z2, .i z3, .i z4, .i z5, .i z6, .one (.int .u64 z7), .i z8, .i z9, .i z10, .i z11, .i z12, .i z13, .i z14, .ints .u8 16 z15, .ints .u8 16 z16] : SVal)) h.1 h.2.1 h.2.2.1 h.2.2.2.1 h.2.2.2.2.1 h.2.2.2.2.2.1 h.2.2.2.2.2.2.1 h.2.2.2.2.2.2.2.1 h.2.2.2.2.2.2.2.2.1 h.2.2.2.2.2.2.2.2.2.1 h.2.2.2.2.2.2.2.2.2.2.1 h.2.2.2.2.2.2.2.2.2.2.2.1 h.2.2.2.2.2.2.2.2.2.2.2.2.1 h.2.2.2.2.2.2.2.2.2.2.2.2.2.1 h.2.2.2.2.2.2.2.2.2.2.2.2.2.2.1 h.2.2.2.2.2.2.2.2.2.2.2.2.2.2.2) hK)))
abbrev ZmH (x0 x1 x2 x3 x4 x5 x6 : Int) (x7 x8 : ShapeV) (x9 : PlanV) (ay aA : Int) : Heap := ⟨2, [(0, some ⟨true, [.i x0, .i x1, .i x2, .i x3, .i x4, .i x5, .one (.int .u64 x6), .i x7.sets, .i x7.ways, .i x8.sets, .i x8.ways, .i x9.met, .i ay, .i aA, .ints .u8 16 x9.key, .ints .u8 16 x9.tag], 0⟩), (1, some ⟨true, [.i 0, .i 0, .i 0, .i 0, .i 0, .i 0, .one (.int .u64 0), .i 0, .i 0, .i 0, .i 0, .i 0, .i 0, .i 0, .ints .u8 16 (List.replicate 16 0), .ints .u8 16 (List.replicate 16 0)], 0⟩)]⟩
theorem ZlJ (p : PlanV) (aa ab ac ad ae af ag : Int) (aj ai : ShapeV) (ah ak : Int) (Z : Env -> Heap -> Prop) (h : (True) /\ ((Za7 (ZmH aa ab ac ad ae af ag aj ai p ah ak) (Heap.keep (ZmH aa ab ac ad ae af ag aj ai p ah ak) [0]) (ZdX [0] (ZmH aa ab ac ad ae af ag aj ai p ah ak)))) /\ ((0 < (4 : Int) /\ (4 : Int) <= 1000 /\ I64 p.met)) /\ Z ZcV ⟨2, [(0, some ⟨true, [.i aa, .i ab, .i ac, .i ad, .i ae, .i af, .one (.int .u64 ag), .i aj.sets, .i aj.ways, .i ai.sets, .i ai.ways, .i (IntKind.i64.wrap ((PlanV.least (PlanV.mk aa ab ac ad ae af ag aj.sets aj.ways ai.sets ai.ways p.met ah ak p.key p.tag)) + (p.met % (4 : Int)))), .i ah, .i ak, .ints .u8 16 p.key, .ints .u8 16 p.tag], 0⟩), (1, some ⟨true, [.i 0, .i 0, .i 0, .i 0, .i 0, .i 0, .one (.int .u64 0), .i 0, .i 0, .i 0, .i 0, .i 0, .i 0, .i 0, .ints .u8 16 (List.replicate 16 0), .ints .u8 16 (List.replicate 16 0)], 0⟩)]⟩) : EvNC Zed Zfd [[0], [], [], [], [], [], [], []] ZcV (ZmH aa ab ac ad ae af ag aj ai p ah ak) [1, 2] [0, 1] Z := EvNC.of (by kernel_rfl) h
def ZiG (p : PlanV) (aa ab ac ad ae af ag : Int) (aj ai : ShapeV) (ah ak : Int) : Prop := ((0 < (4 : Int) /\ (4 : Int) <= 1000 /\ I64 p.met)) /\ (∀ al : Int, al = (((PlanV.least (PlanV.mk aa ab ac ad ae af ag aj.sets aj.ways ai.sets ai.ways p.met ah ak p.key p.tag)) + (p.met % (4 : Int))) + 9223372036854775808) % 18446744073709551616 - 9223372036854775808 -> ZiH p aa ab ac ad ae af ag aj ai al ah ak)
theorem Zmq (p : PlanV) (hK : (ZhX Kf p)) (aa ab ac ad ae af ag : Int) (aj ai : ShapeV) (ah ak : Int) (h : ZiG p aa ab ac ad ae af ag aj ai ah ak) : SemL Try.prog w0 fp ρi 0 62 [Zbq, (.seq Zbg .ret)] ZcV (ZmH aa ab ac ad ae af ag aj ai p ah ak) (fnK Zdf 0 Kf) :=
  Zhz Zcu (steps := Zfd) (ZlJ p aa ab ac ad ae af ag aj ai ah ak _ ⟨True.intro, ⟨ZcG, ⟨h.1, (Za0 (Zmr p hK aa ab ac ad ae af ag aj ai (IntKind.i64.wrap ((PlanV.least (PlanV.mk aa ab ac ad ae af ag aj.sets aj.ways ai.sets ai.ways p.met ah ak p.key p.tag)) + (p.met % (4 : Int)))) ah ak (h.2 (IntKind.i64.wrap ((PlanV.least (PlanV.mk aa ab ac ad ae af ag aj.sets aj.ways ai.sets ai.ways p.met ah ak p.key p.tag)) + (p.met % (4 : Int)))) (ZmQ _))))⟩⟩⟩)
abbrev ZnK (x0 x1 x2 x3 x4 x5 x6 : Int) (x7 x8 : ShapeV) (x9 : PlanV) (ay : Int) : Heap := ⟨2, [(0, some ⟨true, [.i x0, .i x1, .i x2, .i x3, .i x4, .i x5, .one (.int .u64 x6), .i x7.sets, .i x7.ways, .i x8.sets, .i x8.ways, .i x9.met, .i ay, .i x9.kind, .ints .u8 16 x9.key, .ints .u8 16 x9.tag], 0⟩), (1, some ⟨true, [.i 0, .i 0, .i 0, .i 0, .i 0, .i 0, .one (.int .u64 0), .i 0, .i 0, .i 0, .i 0, .i 0, .i 0, .i 0, .ints .u8 16 (List.replicate 16 0), .ints .u8 16 (List.replicate 16 0)], 0⟩)]⟩
theorem ZlI (p : PlanV) (aa ab ac ad ae af ag : Int) (aj ai : ShapeV) (ah : Int) (Z : Env -> Heap -> Prop) (h : ((0 < (2 : Int) /\ (2 : Int) <= 1000 /\ I64 p.kind)) /\ Z ZcV ⟨2, [(0, some ⟨true, [.i aa, .i ab, .i ac, .i ad, .i ae, .i af, .one (.int .u64 ag), .i aj.sets, .i aj.ways, .i ai.sets, .i ai.ways, .i p.met, .i ah, .i (p.kind % (2 : Int)), .ints .u8 16 p.key, .ints .u8 16 p.tag], 0⟩), (1, some ⟨true, [.i 0, .i 0, .i 0, .i 0, .i 0, .i 0, .one (.int .u64 0), .i 0, .i 0, .i 0, .i 0, .i 0, .i 0, .i 0, .ints .u8 16 (List.replicate 16 0), .ints .u8 16 (List.replicate 16 0)], 0⟩)]⟩) : EvC Zed Zbr ZcV (ZnK aa ab ac ad ae af ag aj ai p ah) [1, 2] [0, 1] Z := EvC.of (by kernel_rfl) h
def ZiF (p : PlanV) (aa ab ac ad ae af ag : Int) (aj ai : ShapeV) (ah : Int) : Prop := ((0 < (2 : Int) /\ (2 : Int) <= 1000 /\ I64 p.kind)) /\ (∀ ak : Int, ak = (p.kind % (2 : Int)) -> ZiG p aa ab ac ad ae af ag aj ai ah ak)
theorem Zmp (p : PlanV) (hK : (ZhX Kf p)) (aa ab ac ad ae af ag : Int) (aj ai : ShapeV) (ah : Int) (h : ZiF p aa ab ac ad ae af ag aj ai ah) : SemL Try.prog w0 fp ρi 0 62 [Zbr, (.seq Zbq (.seq Zbg .ret))] ZcV (ZnK aa ab ac ad ae af ag aj ai p ah) (fnK Zdf 0 Kf) :=
  ZaK Zcu (ZlI p aa ab ac ad ae af ag aj ai ah _ ⟨h.1, (Za0 (Zmq p hK aa ab ac ad ae af ag aj ai ah (p.kind % (2 : Int)) (h.2 (p.kind % (2 : Int)) rfl)))⟩)
abbrev ZnJ (x0 x1 x2 x3 x4 x5 x6 : Int) (x7 x8 : ShapeV) (x9 : PlanV) : Heap := ⟨2, [(0, some ⟨true, [.i x0, .i x1, .i x2, .i x3, .i x4, .i x5, .one (.int .u64 x6), .i x7.sets, .i x7.ways, .i x8.sets, .i x8.ways, .i x9.met, .i x9.queue, .i x9.kind, .ints .u8 16 x9.key, .ints .u8 16 x9.tag], 0⟩), (1, some ⟨true, [.i 0, .i 0, .i 0, .i 0, .i 0, .i 0, .one (.int .u64 0), .i 0, .i 0, .i 0, .i 0, .i 0, .i 0, .i 0, .ints .u8 16 (List.replicate 16 0), .ints .u8 16 (List.replicate 16 0)], 0⟩)]⟩
theorem ZlH (p : PlanV) (aa ab ac ad ae af ag : Int) (aj ai : ShapeV) (Z : Env -> Heap -> Prop) (h : ((SpanV.ok (SpanV.mk 1 4) /\ I64 p.queue)) /\ Z ZcV ⟨2, [(0, some ⟨true, [.i aa, .i ab, .i ac, .i ad, .i ae, .i af, .one (.int .u64 ag), .i aj.sets, .i aj.ways, .i ai.sets, .i ai.ways, .i p.met, .i (ZbL (1 : Int) (4 : Int) p.queue), .i p.kind, .ints .u8 16 p.key, .ints .u8 16 p.tag], 0⟩), (1, some ⟨true, [.i 0, .i 0, .i 0, .i 0, .i 0, .i 0, .one (.int .u64 0), .i 0, .i 0, .i 0, .i 0, .i 0, .i 0, .i 0, .ints .u8 16 (List.replicate 16 0), .ints .u8 16 (List.replicate 16 0)], 0⟩)]⟩) : EvC Zed ZbW ZcV (ZnJ aa ab ac ad ae af ag aj ai p) [1, 2] [0, 1] Z := EvC.of (by kernel_rfl) h
def ZiE (p : PlanV) (aa ab ac ad ae af ag : Int) (aj ai : ShapeV) : Prop := ((SpanV.ok (SpanV.mk 1 4) /\ I64 p.queue)) /\ (∀ ah : Int, ah = (ZbL (1 : Int) (4 : Int) p.queue) -> ZiF p aa ab ac ad ae af ag aj ai ah)
theorem Zmo (p : PlanV) (hK : (ZhX Kf p)) (aa ab ac ad ae af ag : Int) (aj ai : ShapeV) (h : ZiE p aa ab ac ad ae af ag aj ai) : SemL Try.prog w0 fp ρi 0 62 [ZbW, (.seq Zbr (.seq Zbq (.seq Zbg .ret)))] ZcV (ZnJ aa ab ac ad ae af ag aj ai p) (fnK Zdf 0 Kf) :=
  ZaK Zcu (ZlH p aa ab ac ad ae af ag aj ai _ ⟨h.1, (Za0 (Zmp p hK aa ab ac ad ae af ag aj ai (ZbL (1 : Int) (4 : Int) p.queue) (h.2 (ZbL (1 : Int) (4 : Int) p.queue) rfl)))⟩)
abbrev Zkt (x0 x1 x2 x3 x4 x5 x6 : Int) (x7 : PlanV) : Heap := ⟨2, [(0, some ⟨true, [.i x0, .i x1, .i x2, .i x3, .i x4, .i x5, .one (.int .u64 x6), .i x7.ns, .i x7.nw, .i x7.fs, .i x7.fw, .i x7.met, .i x7.queue, .i x7.kind, .ints .u8 16 x7.key, .ints .u8 16 x7.tag], 0⟩), (1, some ⟨true, [.i 0, .i 0, .i 0, .i 0, .i 0, .i 0, .one (.int .u64 0), .i 0, .i 0, .i 0, .i 0, .i 0, .i 0, .i 0, .ints .u8 16 (List.replicate 16 0), .ints .u8 16 (List.replicate 16 0)], 0⟩)]⟩
theorem ZlG (p : PlanV) (aa ab ac ad ae af ag : Int) (Z : Env -> Heap -> Prop) (h : ((I64 p.ns /\ I64 p.nw)) /\ ((Za7 (Zkt aa ab ac ad ae af ag p) (Heap.keep (Zkt aa ab ac ad ae af ag p) [0]) (ZdX [0] (Zkt aa ab ac ad ae af ag p)))) /\ ((I64 p.fs /\ I64 p.fw)) /\ ((Za7 (Zkt aa ab ac ad ae af ag p) (Heap.keep (Zkt aa ab ac ad ae af ag p) [0]) (ZdX [0] (Zkt aa ab ac ad ae af ag p)))) /\ Z ZcV ⟨2, [(0, some ⟨true, [.i aa, .i ab, .i ac, .i ad, .i ae, .i af, .one (.int .u64 ag), .i (ShapeV.fit (ShapeV.mk p.ns p.nw)).sets, .i (ShapeV.fit (ShapeV.mk p.ns p.nw)).ways, .i (ShapeV.fit (ShapeV.mk p.fs p.fw)).sets, .i (ShapeV.fit (ShapeV.mk p.fs p.fw)).ways, .i p.met, .i p.queue, .i p.kind, .ints .u8 16 p.key, .ints .u8 16 p.tag], 0⟩), (1, some ⟨true, [.i 0, .i 0, .i 0, .i 0, .i 0, .i 0, .one (.int .u64 0), .i 0, .i 0, .i 0, .i 0, .i 0, .i 0, .i 0, .ints .u8 16 (List.replicate 16 0), .ints .u8 16 (List.replicate 16 0)], 0⟩)]⟩) : EvNC Zed Zgb [[], [0], [], [], [], [], [], [], [], []] ZcV (Zkt aa ab ac ad ae af ag p) [1, 2] [0, 1] Z := EvNC.of (by kernel_rfl) h
def ZiD (p : PlanV) (aa ab ac ad ae af ag : Int) : Prop := ((I64 p.ns /\ I64 p.nw)) /\ (((I64 p.fs /\ I64 p.fw)) /\ (∀ aj : ShapeV, aj = (ShapeV.fit (ShapeV.mk p.ns p.nw)) -> ∀ ai : ShapeV, ai = (ShapeV.fit (ShapeV.mk p.fs p.fw)) -> ZiE p aa ab ac ad ae af ag aj ai))
theorem Zmn (p : PlanV) (hK : (ZhX Kf p)) (aa ab ac ad ae af ag : Int) (h : ZiD p aa ab ac ad ae af ag) : SemL Try.prog w0 fp ρi 0 62 [Zcj, (.seq ZbW (.seq Zbr (.seq Zbq (.seq Zbg .ret))))] ZcV (Zkt aa ab ac ad ae af ag p) (fnK Zdf 0 Kf) :=
  Zhz Zcu (steps := Zgb) (ZlG p aa ab ac ad ae af ag _ ⟨h.1, ⟨ZcG, ⟨h.2.1, ⟨ZcG, (Za0 (Zmo p hK aa ab ac ad ae af ag (ShapeV.fit (ShapeV.mk p.ns p.nw)) (ShapeV.fit (ShapeV.mk p.fs p.fw)) ((h.2.2 (ShapeV.fit (ShapeV.mk p.ns p.nw)) rfl) (ShapeV.fit (ShapeV.mk p.fs p.fw)) rfl)))⟩⟩⟩⟩)
abbrev ZnI (x0 x1 x2 x3 x4 x5 : Int) (x6 : PlanV) : Heap := ⟨2, [(0, some ⟨true, [.i x0, .i x1, .i x2, .i x3, .i x4, .i x5, .one (.int .u64 x6.major), .i x6.ns, .i x6.nw, .i x6.fs, .i x6.fw, .i x6.met, .i x6.queue, .i x6.kind, .ints .u8 16 x6.key, .ints .u8 16 x6.tag], 0⟩), (1, some ⟨true, [.i 0, .i 0, .i 0, .i 0, .i 0, .i 0, .one (.int .u64 0), .i 0, .i 0, .i 0, .i 0, .i 0, .i 0, .i 0, .ints .u8 16 (List.replicate 16 0), .ints .u8 16 (List.replicate 16 0)], 0⟩)]⟩
theorem ZlF (p : PlanV) (aa ab ac ad ae af : Int) (Z : Env -> Heap -> Prop) (h : Z ZcV ⟨2, [(0, some ⟨true, [.i aa, .i ab, .i ac, .i ad, .i ae, .i af, .one (.int .u64 (if 4294967296 < p.major then 4294967296 else p.major)), .i p.ns, .i p.nw, .i p.fs, .i p.fw, .i p.met, .i p.queue, .i p.kind, .ints .u8 16 p.key, .ints .u8 16 p.tag], 0⟩), (1, some ⟨true, [.i 0, .i 0, .i 0, .i 0, .i 0, .i 0, .one (.int .u64 0), .i 0, .i 0, .i 0, .i 0, .i 0, .i 0, .i 0, .ints .u8 16 (List.replicate 16 0), .ints .u8 16 (List.replicate 16 0)], 0⟩)]⟩) : EvC Zed Zck ZcV (ZnI aa ab ac ad ae af p) [1, 2] [0, 1] Z := EvC.of (by kernel_rfl) h
def ZiC (p : PlanV) (aa ab ac ad ae af : Int) : Prop := ∀ ag : Int, ag = (if 4294967296 < p.major then 4294967296 else p.major) -> ZiD p aa ab ac ad ae af ag
theorem Zmm (p : PlanV) (hK : (ZhX Kf p)) (aa ab ac ad ae af : Int) (h : ZiC p aa ab ac ad ae af) : SemL Try.prog w0 fp ρi 0 62 [Zck, (.seq Zcj (.seq ZbW (.seq Zbr (.seq Zbq (.seq Zbg .ret)))))] ZcV (ZnI aa ab ac ad ae af p) (fnK Zdf 0 Kf) :=
  ZaK Zcu (ZlF p aa ab ac ad ae af _ (Za0 (Zmn p hK aa ab ac ad ae af (if 4294967296 < p.major then 4294967296 else p.major) (h (if 4294967296 < p.major then 4294967296 else p.major) rfl))))
abbrev ZnH (x0 x1 x2 x3 x4 : Int) (x5 : PlanV) : Heap := ⟨2, [(0, some ⟨true, [.i x0, .i x1, .i x2, .i x3, .i x4, .i x5.minor, .one (.int .u64 x5.major), .i x5.ns, .i x5.nw, .i x5.fs, .i x5.fw, .i x5.met, .i x5.queue, .i x5.kind, .ints .u8 16 x5.key, .ints .u8 16 x5.tag], 0⟩), (1, some ⟨true, [.i 0, .i 0, .i 0, .i 0, .i 0, .i 0, .one (.int .u64 0), .i 0, .i 0, .i 0, .i 0, .i 0, .i 0, .i 0, .ints .u8 16 (List.replicate 16 0), .ints .u8 16 (List.replicate 16 0)], 0⟩)]⟩
theorem ZlE (p : PlanV) (aa ab ac ad ae : Int) (Z : Env -> Heap -> Prop) (h : ((SpanV.ok (SpanV.mk 1 8) /\ I64 p.minor)) /\ Z ZcV ⟨2, [(0, some ⟨true, [.i aa, .i ab, .i ac, .i ad, .i ae, .i (ZbL (1 : Int) (8 : Int) p.minor), .one (.int .u64 p.major), .i p.ns, .i p.nw, .i p.fs, .i p.fw, .i p.met, .i p.queue, .i p.kind, .ints .u8 16 p.key, .ints .u8 16 p.tag], 0⟩), (1, some ⟨true, [.i 0, .i 0, .i 0, .i 0, .i 0, .i 0, .one (.int .u64 0), .i 0, .i 0, .i 0, .i 0, .i 0, .i 0, .i 0, .ints .u8 16 (List.replicate 16 0), .ints .u8 16 (List.replicate 16 0)], 0⟩)]⟩) : EvC Zed ZcN ZcV (ZnH aa ab ac ad ae p) [1, 2] [0, 1] Z := EvC.of (by kernel_rfl) h
def ZiB (p : PlanV) (aa ab ac ad ae : Int) : Prop := ((SpanV.ok (SpanV.mk 1 8) /\ I64 p.minor)) /\ (∀ af : Int, af = (ZbL (1 : Int) (8 : Int) p.minor) -> ZiC p aa ab ac ad ae af)
theorem Zml (p : PlanV) (hK : (ZhX Kf p)) (aa ab ac ad ae : Int) (h : ZiB p aa ab ac ad ae) : SemL Try.prog w0 fp ρi 0 62 [ZcN, (.seq Zck (.seq Zcj (.seq ZbW (.seq Zbr (.seq Zbq (.seq Zbg .ret))))))] ZcV (ZnH aa ab ac ad ae p) (fnK Zdf 0 Kf) :=
  ZaK Zcu (ZlE p aa ab ac ad ae _ ⟨h.1, (Za0 (Zmm p hK aa ab ac ad ae (ZbL (1 : Int) (8 : Int) p.minor) (h.2 (ZbL (1 : Int) (8 : Int) p.minor) rfl)))⟩)
abbrev ZnG (x0 x1 x2 x3 : Int) (x4 : PlanV) : Heap := ⟨2, [(0, some ⟨true, [.i x0, .i x1, .i x2, .i x3, .i x4.arity, .i x4.minor, .one (.int .u64 x4.major), .i x4.ns, .i x4.nw, .i x4.fs, .i x4.fw, .i x4.met, .i x4.queue, .i x4.kind, .ints .u8 16 x4.key, .ints .u8 16 x4.tag], 0⟩), (1, some ⟨true, [.i 0, .i 0, .i 0, .i 0, .i 0, .i 0, .one (.int .u64 0), .i 0, .i 0, .i 0, .i 0, .i 0, .i 0, .i 0, .ints .u8 16 (List.replicate 16 0), .ints .u8 16 (List.replicate 16 0)], 0⟩)]⟩
theorem ZlD (p : PlanV) (aa ab ac ad : Int) (Z : Env -> Heap -> Prop) (h : ((SpanV.ok (SpanV.mk 2 4) /\ I64 p.arity)) /\ Z ZcV ⟨2, [(0, some ⟨true, [.i aa, .i ab, .i ac, .i ad, .i (ZbL (2 : Int) (4 : Int) p.arity), .i p.minor, .one (.int .u64 p.major), .i p.ns, .i p.nw, .i p.fs, .i p.fw, .i p.met, .i p.queue, .i p.kind, .ints .u8 16 p.key, .ints .u8 16 p.tag], 0⟩), (1, some ⟨true, [.i 0, .i 0, .i 0, .i 0, .i 0, .i 0, .one (.int .u64 0), .i 0, .i 0, .i 0, .i 0, .i 0, .i 0, .i 0, .ints .u8 16 (List.replicate 16 0), .ints .u8 16 (List.replicate 16 0)], 0⟩)]⟩) : EvC Zed Zda ZcV (ZnG aa ab ac ad p) [1, 2] [0, 1] Z := EvC.of (by kernel_rfl) h
def ZiA (p : PlanV) (aa ab ac ad : Int) : Prop := ((SpanV.ok (SpanV.mk 2 4) /\ I64 p.arity)) /\ (∀ ae : Int, ae = (ZbL (2 : Int) (4 : Int) p.arity) -> ZiB p aa ab ac ad ae)
theorem Zmk (p : PlanV) (hK : (ZhX Kf p)) (aa ab ac ad : Int) (h : ZiA p aa ab ac ad) : SemL Try.prog w0 fp ρi 0 62 [Zda, (.seq ZcN (.seq Zck (.seq Zcj (.seq ZbW (.seq Zbr (.seq Zbq (.seq Zbg .ret)))))))] ZcV (ZnG aa ab ac ad p) (fnK Zdf 0 Kf) :=
  ZaK Zcu (ZlD p aa ab ac ad _ ⟨h.1, (Za0 (Zml p hK aa ab ac ad (ZbL (2 : Int) (4 : Int) p.arity) (h.2 (ZbL (2 : Int) (4 : Int) p.arity) rfl)))⟩)
abbrev ZnF (x0 x1 x2 : Int) (x3 : PlanV) : Heap := ⟨2, [(0, some ⟨true, [.i x0, .i x1, .i x2, .i x3.lines, .i x3.arity, .i x3.minor, .one (.int .u64 x3.major), .i x3.ns, .i x3.nw, .i x3.fs, .i x3.fw, .i x3.met, .i x3.queue, .i x3.kind, .ints .u8 16 x3.key, .ints .u8 16 x3.tag], 0⟩), (1, some ⟨true, [.i 0, .i 0, .i 0, .i 0, .i 0, .i 0, .one (.int .u64 0), .i 0, .i 0, .i 0, .i 0, .i 0, .i 0, .i 0, .ints .u8 16 (List.replicate 16 0), .ints .u8 16 (List.replicate 16 0)], 0⟩)]⟩
theorem ZlC (p : PlanV) (aa ab ac : Int) (Z : Env -> Heap -> Prop) (h : ((SpanV.ok (SpanV.mk 1 8) /\ I64 p.lines)) /\ Z ZcV ⟨2, [(0, some ⟨true, [.i aa, .i ab, .i ac, .i (ZbL (1 : Int) (8 : Int) p.lines), .i p.arity, .i p.minor, .one (.int .u64 p.major), .i p.ns, .i p.nw, .i p.fs, .i p.fw, .i p.met, .i p.queue, .i p.kind, .ints .u8 16 p.key, .ints .u8 16 p.tag], 0⟩), (1, some ⟨true, [.i 0, .i 0, .i 0, .i 0, .i 0, .i 0, .one (.int .u64 0), .i 0, .i 0, .i 0, .i 0, .i 0, .i 0, .i 0, .ints .u8 16 (List.replicate 16 0), .ints .u8 16 (List.replicate 16 0)], 0⟩)]⟩) : EvC Zed ZdI ZcV (ZnF aa ab ac p) [1, 2] [0, 1] Z := EvC.of (by kernel_rfl) h
def Ziz (p : PlanV) (aa ab ac : Int) : Prop := ((SpanV.ok (SpanV.mk 1 8) /\ I64 p.lines)) /\ (∀ ad : Int, ad = (ZbL (1 : Int) (8 : Int) p.lines) -> ZiA p aa ab ac ad)
theorem Zmj (p : PlanV) (hK : (ZhX Kf p)) (aa ab ac : Int) (h : Ziz p aa ab ac) : SemL Try.prog w0 fp ρi 0 62 [ZdI, (.seq Zda (.seq ZcN (.seq Zck (.seq Zcj (.seq ZbW (.seq Zbr (.seq Zbq (.seq Zbg .ret))))))))] ZcV (ZnF aa ab ac p) (fnK Zdf 0 Kf) :=
  ZaK Zcu (ZlC p aa ab ac _ ⟨h.1, (Za0 (Zmk p hK aa ab ac (ZbL (1 : Int) (8 : Int) p.lines) (h.2 (ZbL (1 : Int) (8 : Int) p.lines) rfl)))⟩)
abbrev ZnE (x0 x1 : Int) (x2 : PlanV) : Heap := ⟨2, [(0, some ⟨true, [.i x0, .i x1, .i x2.pages, .i x2.lines, .i x2.arity, .i x2.minor, .one (.int .u64 x2.major), .i x2.ns, .i x2.nw, .i x2.fs, .i x2.fw, .i x2.met, .i x2.queue, .i x2.kind, .ints .u8 16 x2.key, .ints .u8 16 x2.tag], 0⟩), (1, some ⟨true, [.i 0, .i 0, .i 0, .i 0, .i 0, .i 0, .one (.int .u64 0), .i 0, .i 0, .i 0, .i 0, .i 0, .i 0, .i 0, .ints .u8 16 (List.replicate 16 0), .ints .u8 16 (List.replicate 16 0)], 0⟩)]⟩
theorem ZlB (p : PlanV) (aa ab : Int) (Z : Env -> Heap -> Prop) (h : ((SpanV.ok (SpanV.mk 1 16) /\ I64 p.pages)) /\ Z ZcV ⟨2, [(0, some ⟨true, [.i aa, .i ab, .i (ZbL (1 : Int) (16 : Int) p.pages), .i p.lines, .i p.arity, .i p.minor, .one (.int .u64 p.major), .i p.ns, .i p.nw, .i p.fs, .i p.fw, .i p.met, .i p.queue, .i p.kind, .ints .u8 16 p.key, .ints .u8 16 p.tag], 0⟩), (1, some ⟨true, [.i 0, .i 0, .i 0, .i 0, .i 0, .i 0, .one (.int .u64 0), .i 0, .i 0, .i 0, .i 0, .i 0, .i 0, .i 0, .ints .u8 16 (List.replicate 16 0), .ints .u8 16 (List.replicate 16 0)], 0⟩)]⟩) : EvC Zed Zen ZcV (ZnE aa ab p) [1, 2] [0, 1] Z := EvC.of (by kernel_rfl) h
def Ziy (p : PlanV) (aa ab : Int) : Prop := ((SpanV.ok (SpanV.mk 1 16) /\ I64 p.pages)) /\ (∀ ac : Int, ac = (ZbL (1 : Int) (16 : Int) p.pages) -> Ziz p aa ab ac)
theorem Zmi (p : PlanV) (hK : (ZhX Kf p)) (aa ab : Int) (h : Ziy p aa ab) : SemL Try.prog w0 fp ρi 0 62 [Zen, (.seq ZdI (.seq Zda (.seq ZcN (.seq Zck (.seq Zcj (.seq ZbW (.seq Zbr (.seq Zbq (.seq Zbg .ret)))))))))] ZcV (ZnE aa ab p) (fnK Zdf 0 Kf) :=
  ZaK Zcu (ZlB p aa ab _ ⟨h.1, (Za0 (Zmj p hK aa ab (ZbL (1 : Int) (16 : Int) p.pages) (h.2 (ZbL (1 : Int) (16 : Int) p.pages) rfl)))⟩)
abbrev ZnD (x0 : Int) (x1 : PlanV) : Heap := ⟨2, [(0, some ⟨true, [.i x0, .i x1.banks, .i x1.pages, .i x1.lines, .i x1.arity, .i x1.minor, .one (.int .u64 x1.major), .i x1.ns, .i x1.nw, .i x1.fs, .i x1.fw, .i x1.met, .i x1.queue, .i x1.kind, .ints .u8 16 x1.key, .ints .u8 16 x1.tag], 0⟩), (1, some ⟨true, [.i 0, .i 0, .i 0, .i 0, .i 0, .i 0, .one (.int .u64 0), .i 0, .i 0, .i 0, .i 0, .i 0, .i 0, .i 0, .ints .u8 16 (List.replicate 16 0), .ints .u8 16 (List.replicate 16 0)], 0⟩)]⟩
theorem ZkH (p : PlanV) (aa : Int) (Z : Env -> Heap -> Prop) (h : ((SpanV.ok (SpanV.mk 1 4) /\ I64 p.banks)) /\ Z ZcV ⟨2, [(0, some ⟨true, [.i aa, .i (ZbL (1 : Int) (4 : Int) p.banks), .i p.pages, .i p.lines, .i p.arity, .i p.minor, .one (.int .u64 p.major), .i p.ns, .i p.nw, .i p.fs, .i p.fw, .i p.met, .i p.queue, .i p.kind, .ints .u8 16 p.key, .ints .u8 16 p.tag], 0⟩), (1, some ⟨true, [.i 0, .i 0, .i 0, .i 0, .i 0, .i 0, .one (.int .u64 0), .i 0, .i 0, .i 0, .i 0, .i 0, .i 0, .i 0, .ints .u8 16 (List.replicate 16 0), .ints .u8 16 (List.replicate 16 0)], 0⟩)]⟩) : EvC Zed Zfc ZcV (ZnD aa p) [1, 2] [0, 1] Z := EvC.of (by kernel_rfl) h
def Zg3 (p : PlanV) (aa : Int) : Prop := ((SpanV.ok (SpanV.mk 1 4) /\ I64 p.banks)) /\ (∀ ab : Int, ab = (ZbL (1 : Int) (4 : Int) p.banks) -> Ziy p aa ab)
theorem ZkS (p : PlanV) (hK : (ZhX Kf p)) (aa : Int) (h : Zg3 p aa) : SemL Try.prog w0 fp ρi 0 62 [Zfc, (.seq Zen (.seq ZdI (.seq Zda (.seq ZcN (.seq Zck (.seq Zcj (.seq ZbW (.seq Zbr (.seq Zbq (.seq Zbg .ret))))))))))] ZcV (ZnD aa p) (fnK Zdf 0 Kf) :=
  ZaK Zcu (ZkH p aa _ ⟨h.1, (Za0 (Zmi p hK aa (ZbL (1 : Int) (4 : Int) p.banks) (h.2 (ZbL (1 : Int) (4 : Int) p.banks) rfl)))⟩)
abbrev Znj (x0 : PlanV) : Heap := ⟨2, [(0, some ⟨true, (PlanV.cs x0), 0⟩), (1, some ⟨true, [.i 0, .i 0, .i 0, .i 0, .i 0, .i 0, .one (.int .u64 0), .i 0, .i 0, .i 0, .i 0, .i 0, .i 0, .i 0, .ints .u8 16 (List.replicate 16 0), .ints .u8 16 (List.replicate 16 0)], 0⟩)]⟩
theorem ZkG (p : PlanV) (Z : Env -> Heap -> Prop) (h : ((SpanV.ok (SpanV.mk 1 4) /\ I64 p.cores)) /\ Z ZcV ⟨2, [(0, some ⟨true, [.i (ZbL (1 : Int) (4 : Int) p.cores), .i p.banks, .i p.pages, .i p.lines, .i p.arity, .i p.minor, .one (.int .u64 p.major), .i p.ns, .i p.nw, .i p.fs, .i p.fw, .i p.met, .i p.queue, .i p.kind, .ints .u8 16 p.key, .ints .u8 16 p.tag], 0⟩), (1, some ⟨true, [.i 0, .i 0, .i 0, .i 0, .i 0, .i 0, .one (.int .u64 0), .i 0, .i 0, .i 0, .i 0, .i 0, .i 0, .i 0, .ints .u8 16 (List.replicate 16 0), .ints .u8 16 (List.replicate 16 0)], 0⟩)]⟩) : EvC Zed Zgc ZcV (Znj p) [1, 2] [0, 1] Z := EvC.of (by kernel_rfl) h
def ZeS (p : PlanV) : Prop := ((SpanV.ok (SpanV.mk 1 4) /\ I64 p.cores)) /\ (∀ aa : Int, aa = (ZbL (1 : Int) (4 : Int) p.cores) -> Zg3 p aa)
theorem ZkR (p : PlanV) (hK : (ZhX Kf p)) (h : ZeS p) : SemL Try.prog w0 fp ρi 0 62 [Zgc, (.seq Zfc (.seq Zen (.seq ZdI (.seq Zda (.seq ZcN (.seq Zck (.seq Zcj (.seq ZbW (.seq Zbr (.seq Zbq (.seq Zbg .ret)))))))))))] ZcV (Znj p) (fnK Zdf 0 Kf) :=
  ZaK Zcu (ZkG p _ ⟨h.1, (Za0 (ZkS p hK (ZbL (1 : Int) (4 : Int) p.cores) (h.2 (ZbL (1 : Int) (4 : Int) p.cores) rfl)))⟩)
abbrev Zk6 (x0 : PlanV) : Env := [(0, some (.agg (PlanV.cs x0)))]
theorem ZkF (p : PlanV) (Z : Env -> Heap -> Prop) (h : Z ZcV (Znj p)) : EvC Zed Zhr (Zk6 p) Ya2 [1, 2] [0, 1] Z := EvC.of (by kernel_rfl) h
theorem ZkQ (p : PlanV) (hK : (ZhX Kf p)) (h : ZeS p) : SemL Try.prog w0 fp ρi 0 62 [Zhr, (.seq Zgc (.seq Zfc (.seq Zen (.seq ZdI (.seq Zda (.seq ZcN (.seq Zck (.seq Zcj (.seq ZbW (.seq Zbr (.seq Zbq (.seq Zbg .ret))))))))))))] (Zk6 p) Ya2 (fnK Zdf 0 Kf) :=
  ZaK Zcu (ZkF p _ (Za0 (ZkR p hK h)))
theorem ZmV (p : PlanV) (hK : (ZhX Kf p)) (h : ZeS p) : SemL Try.prog w0 fp ρi 0 62 [ZmD] (Zk6 p) Ya2 (fnK Zdf 0 Kf) :=
  (Za0 (ZkQ p hK h))
end
theorem Zmu (p : PlanV) (hpre : (PlanV.Wf p)) : ZeS p := by
  unfold ZeS Zg3 Ziy Ziz ZiA ZiB ZiC ZiD ZiE ZiF ZiG ZiH
  obtain ⟨w1, w2, w3, w4, w5, w6, w7, w8, w9, w10, w11, w12, w13, w14, hk, ht⟩ := hpre
  have hmet := PlanV.fit_met p
  refine ⟨⟨⟨by decide, by decide, by decide⟩, w1⟩, ?_⟩; rintro _ rfl
  refine ⟨⟨⟨by decide, by decide, by decide⟩, w2⟩, ?_⟩; rintro _ rfl
  refine ⟨⟨⟨by decide, by decide, by decide⟩, w3⟩, ?_⟩; rintro _ rfl
  refine ⟨⟨⟨by decide, by decide, by decide⟩, w4⟩, ?_⟩; rintro _ rfl
  refine ⟨⟨⟨by decide, by decide, by decide⟩, w5⟩, ?_⟩; rintro _ rfl
  refine ⟨⟨⟨by decide, by decide, by decide⟩, w6⟩, ?_⟩; rintro _ rfl
  rintro _ rfl
  refine ⟨⟨w8, w9⟩, ⟨w10, w11⟩, ?_⟩; rintro _ rfl _ rfl
  refine ⟨⟨⟨by decide, by decide, by decide⟩, w13⟩, ?_⟩; rintro _ rfl
  refine ⟨⟨by decide, by decide, w14⟩, ?_⟩; rintro _ rfl
  refine ⟨⟨by decide, by decide, w12⟩, ?_⟩
  intro v hv
  refine ⟨rfl, rfl, rfl, rfl, rfl, rfl, rfl, rfl, rfl, rfl, rfl, ?_, rfl, rfl, rfl, rfl⟩
  rw [hv]
  exact hmet
theorem ZmW : Sound Try.prog 12 (Zc0 Zk4) := by
  refine Zcv Zij ?_
  intro args H K h
  obtain ⟨pre, v, hP, hpre, rfl, hK⟩ := Zbt h
  unfold Zk4 at hP
  split at hP
  · obtain ⟨hb, hP⟩ := Zag hP
    simp only [Bool.and_eq_true] at hb
    obtain ⟨h0, h1⟩ := hb
    obtain rfl := Nat.eq_of_beq_eq_true h0
    obtain rfl := Nat.eq_of_beq_eq_true h1
    cases hP
    exact ⟨rfl, fun w0 fp ρi => ZmV (PlanV.mk _ _ _ _ _ _ _ _ _ _ _ _ _ _ _ _) hK (Zmu (PlanV.mk _ _ _ _ _ _ _ _ _ _ _ _ _ _ _ _) hpre)⟩
  · cases hP
def Zff : Zec := fun args => match args with
  | [.agg [.one (.int .i64 aK), .one (.int .i64 aJ), .one (.int .i64 aI), .one (.int .i64 aH), .one (.int .i64 aG), .one (.int .i64 aF), .one (.int .u64 aE), .one (.int .i64 aD), .one (.int .i64 aC), .one (.int .i64 aB), .one (.int .i64 ax), .one (.int .i64 aw), .one (.int .i64 av), .one (.int .i64 au), .ints .u8 ap ar, .ints .u8 ao aq]] => bif Nat.beq ap 16 && Nat.beq ao 16 then some ((PlanV.Wf (PlanV.mk aK aJ aI aH aG aF aE aD aC aB ax aw av au ar aq)), .bool true) else none
  | _ => none
def Zjk : ACode := .reg (.op (some 1) (.box (.tm 0)) (.op (some 2) (.mov (.cn (.bool false))) .nil))
def ZhT : ACode := .reg (.op (some 7) (.call 11 []) (.op (some 8) (.not (.tm 7)) .nil))
def ZmC : ACode := .reg (.op (some 2) (.mov (.cn (.bool false))) .nil)
def ZhS : ACode := .cond (.tm 8) (.seq ZmC .ret) .skip
def ZfE : ACode := .reg (.op (some 9) (.loadA 46 (.tm 1)) (.op (some 10) (.call 12 [(.tm 9)]) (.op none (.storeA 46 (.tm 1) (.tm 10)) .nil)))
def Zfb : ACode := .reg (.op (some 11) (.loadA 46 (.tm 1)) (.op (some 12) (.call 13 [(.tm 11)]) (.op (some 3) (.mov (.tm 12)) .nil)))
def ZeD : ACode := .reg (.op (some 4) (.mov (.cn (.int .i64 1))) .nil)
def Zjh : ACode := .reg (.op (some 13) (.mov (.tm 4)) (.op (some 14) (.mov (.tm 3)) (.op (some 15) (.bin .lss (.tm 13) (.tm 14)) .nil)))
def Zjg : ACode := .cond (.tm 15) .skip (.exit 0)
def Zjf : ACode := .reg (.op (some 18) (.makeMap [.ints .i64 0 ([] : List Int)]) (.op (some 5) (.mov (.tm 18)) .nil))
def Zga : ACode := .reg (.op (some 6) (.mov (.cn (.int .i64 0))) .nil)
def Zhq : ACode := .reg (.op (some 19) (.mov (.tm 6)) (.op (some 20) (.loadA 46 (.tm 1)) (.op (some 21) (.mov (.tm 4)) (.op (some 22) (.bin .sub (.tm 21) (.cn (.int .i64 1))) (.op (some 23) (.call 14 [(.tm 20), (.tm 22)]) (.op (some 24) (.bin .lss (.tm 19) (.tm 23)) .nil))))))
def Zhp : ACode := .cond (.tm 24) .skip (.exit 2)
def Zho : ACode := .reg (.op (some 27) (.mov (.tm 5)) (.op (some 28) (.mov (.tm 6)) (.op (some 29) (.fieldAddr (.tm 1) 4 1) (.op (some 30) (.load1 (.tm 29)) (.op (some 31) (.bin .quo (.tm 28) (.tm 30)) (.op none (.mapUpd .i64 (.tm 27) (.tm 31) (.cn (.int .i64 1))) .nil))))))
def Zf9 : ACode := .block 3 Zho
def ZdH : ACode := .reg (.op (some 25) (.mov (.tm 6)) (.op (some 26) (.bin .add (.tm 25) (.cn (.int .i64 1))) (.op (some 6) (.mov (.tm 26)) .nil)))
def Zjj : ACode := .loop (.seq (.seq Zhq Zhp) (.seq Zf9 ZdH))
def Zf8 : ACode := .block 2 Zjj
def ZdG : ACode := .reg (.op (some 32) (.mov (.tm 5)) (.op (some 33) (.mapLen (.tm 32)) (.op (some 34) (.loadA 46 (.tm 1)) (.op (some 35) (.mov (.tm 4)) (.op (some 36) (.call 14 [(.tm 34), (.tm 35)]) (.op (some 37) (.bin .neq (.tm 33) (.tm 36)) .nil))))))
def Zhn : ACode := .reg (.op (some 2) (.mov (.cn (.bool false))) .nil)
def ZdF : ACode := .cond (.tm 37) (.seq Zhn .ret) .skip
def Zf7 : ACode := .block 1 (.seq Zjf (.seq (.seq Zga Zf8) (.seq ZdG ZdF)))
def ZdE : ACode := .reg (.op (some 16) (.mov (.tm 4)) (.op (some 17) (.bin .add (.tm 16) (.cn (.int .i64 1))) (.op (some 4) (.mov (.tm 17)) .nil)))
def Zji : ACode := .loop (.seq (.seq Zjh Zjg) (.seq Zf7 ZdE))
def Zc9 : ACode := .block 0 Zji
def Zf6 : Items := .op (some 38) (.mov (.tm 3)) (.op (some 39) (.bin .geq (.tm 38) (.cn (.int .i64 1))) (.op (some 40) (.mov (.tm 39)) (.grpJ 40 true (.op (some 41) (.mov (.tm 3)) (.op (some 42) (.bin .leq (.tm 41) (.cn (.int .i64 5))) .nil)) 43 (.tm 42) (.cn (.bool false)) (.op (some 44) (.mov (.tm 43)) (.grpJ 44 true (.op (some 45) (.loadA 46 (.tm 1)) (.op (some 46) (.mov (.tm 3)) (.op (some 47) (.bin .sub (.tm 46) (.cn (.int .i64 1))) (.op (some 48) (.call 14 [(.tm 45), (.tm 47)]) (.op (some 49) (.bin .eql (.tm 48) (.cn (.int .i64 1))) .nil))))) 50 (.tm 49) (.cn (.bool false)) (.op (some 51) (.mov (.tm 50)) (.grpJ 51 true (.op (some 52) (.loadA 46 (.tm 1)) (.op (some 53) (.call 14 [(.tm 52), (.cn (.int .i64 0))]) (.op (some 54) (.fieldAddr (.tm 1) 2 1) (.op (some 55) (.load1 (.tm 54)) (.op (some 56) (.bin .eql (.tm 53) (.tm 55)) .nil))))) 57 (.tm 56) (.cn (.bool false)) (.op (some 2) (.mov (.tm 57)) .nil))))))))
def Zci : ACode := .regQ Zf6
def ZgO : ACode := (.seq Zjk (.seq (.seq ZhT ZhS) (.seq ZfE (.seq Zfb (.seq (.seq ZeD Zc9) (.seq Zci .ret))))))
def ZaX : Res := .one (.tm 2)
theorem Zfn : ZbT Try.prog 3 1 58 ZgO ZaX = true := by kernel_rfl
def ZaY : Zat := Zgo [ZiV, Zms, ZiX, ZjO] []
theorem ZaI : ZaZ Try.prog ZaY := Zdg ⟨ZjH, ZmW, ZjI, ZkD, trivial⟩ trivial
section
variable {w0 : World} {fp : Nat -> Nat -> Prop} {ρi : Rho} {Kf : SVal -> Heap -> Prop}
def Zkj (w0 : World) (fp : Nat -> Nat -> Prop) (ρi : Rho) (Kf : SVal -> Heap -> Prop) (p : PlanV) : Zfi := ZfG 0 (fun e H => SemL Try.prog w0 fp ρi 0 58 [(.seq Zci .ret)] e H (fnK ZaX 0 Kf)) (fnK ZaX 0 Kf)
def Zkl (p : PlanV) (v3 : Int) (h0 : PlanV) : Int -> Prop := fun s => match s with | v4 => 1 <= v4 /\ v4 <= (PlanV.levels h0 : Int)
def Zkc (p : PlanV) (v3 : Int) (h0 : PlanV) : Int -> Nat := fun s => match s with | v4 => (((PlanV.levels h0 : Int) - v4).toNat)
def Zkh (p : PlanV) (v3 : Int) (h0 : PlanV) : Int -> Env := fun s => match s with | v4 => [(1, some (.ptr ⟨0, 0, 0, 1⟩ 46)), (3, some (.int .i64 v3)), (4, some (.int .i64 v4))]
def Zkf (p : PlanV) (v3 : Int) (h0 : PlanV) : Int -> Heap := fun s => match s with | v4 => ⟨1, [(0, some ⟨true, (PlanV.cs h0), 0⟩)]⟩
def Zfv (w0 : World) (fp : Nat -> Nat -> Prop) (ρi : Rho) (Kf : SVal -> Heap -> Prop) (p : PlanV) (v3 : Int) (h0 : PlanV) (v4 : Int) : Zfi := ZjR 0 (Zkl p v3 h0) (Zkc p v3 h0) (Zkh p v3 h0) (Zkf p v3 h0) v4 (Zkj w0 fp ρi Kf p)
def ZeB (w0 : World) (fp : Nat -> Nat -> Prop) (ρi : Rho) (Kf : SVal -> Heap -> Prop) (p : PlanV) (v3 : Int) (h0 : PlanV) (v4 : Int) : Zfi := ZfG 1 (fun e H => SemL Try.prog w0 fp ρi 0 58 [ZdE] e H (Zfv w0 fp ρi Kf p v3 h0 v4)) (Zfv w0 fp ρi Kf p v3 h0 v4)
def Zki (w0 : World) (fp : Nat -> Nat -> Prop) (ρi : Rho) (Kf : SVal -> Heap -> Prop) (p : PlanV) (v3 : Int) (h0 : PlanV) (v4 : Int) : Zfi := ZfG 2 (fun e H => SemL Try.prog w0 fp ρi 0 58 [(.seq ZdG ZdF)] e H (ZeB w0 fp ρi Kf p v3 h0 v4)) (ZeB w0 fp ρi Kf p v3 h0 v4)
def Zkk (p : PlanV) (v3 v4 : Int) (h0 : PlanV) : Int × List Int -> Prop := fun s => match s with | (v6, h1) => 0 <= v6 /\ v6 <= PlanV.width h0 (v4 - 1) /\ h1 = Zip (PlanV.arity h0) v6
def Zkb (p : PlanV) (v3 v4 : Int) (h0 : PlanV) : Int × List Int -> Nat := fun s => match s with | (v6, h1) => ((PlanV.width h0 (v4 - 1) - v6).toNat)
def Zkg (p : PlanV) (v3 v4 : Int) (h0 : PlanV) : Int × List Int -> Env := fun s => match s with | (v6, h1) => [(1, some (.ptr ⟨0, 0, 0, 1⟩ 46)), (3, some (.int .i64 v3)), (4, some (.int .i64 v4)), (5, some (.map 1)), (6, some (.int .i64 v6))]
def Zke (p : PlanV) (v3 v4 : Int) (h0 : PlanV) : Int × List Int -> Heap := fun s => match s with | (v6, h1) => ⟨2, [(0, some ⟨true, (PlanV.cs h0), 0⟩), (1, some ⟨false, [.ints .i64 0 h1], 1⟩)]⟩
def Zfu (w0 : World) (fp : Nat -> Nat -> Prop) (ρi : Rho) (Kf : SVal -> Heap -> Prop) (p : PlanV) (v3 v4 : Int) (h0 : PlanV) (v6 : Int) (h1 : List Int) : Zfi := ZjR 0 (Zkk p v3 v4 h0) (Zkb p v3 v4 h0) (Zkg p v3 v4 h0) (Zke p v3 v4 h0) (v6, h1) (Zki w0 fp ρi Kf p v3 h0 v4)
abbrev Ziq (x0 : PlanV) (x1 : List Int) : Heap := ⟨2, [(0, some ⟨true, (PlanV.cs x0), 0⟩), (1, some ⟨false, [.ints .i64 0 x1], 1⟩)]⟩
abbrev Zks (x0 x1 x2 : Int) : Env := [(1, some (.ptr ⟨0, 0, 0, 1⟩ 46)), (3, some (.int .i64 x0)), (4, some (.int .i64 x1)), (5, some (.map 1)), (6, some (.int .i64 x2))]
theorem Zm3 (p : PlanV) (v3 v4 v6 : Int) (h0 : PlanV) (an h1 : List Int) (Z : Env -> Heap -> Prop) (h : Z [(1, some (.ptr ⟨0, 0, 0, 1⟩ 46)), (3, some (.int .i64 v3)), (4, some (.int .i64 v4)), (5, some (.map 1)), (6, some (.int .i64 (IntKind.i64.wrap (v6 + 1))))] (Ziq h0 an)) : EvC ZaY ZdH (Zks v3 v4 v6) (Ziq h0 an) [1, 3, 4, 5, 6] [0, 1] Z := EvC.of (by kernel_rfl) h
def ZkB (p : PlanV) (v3 v4 v6 : Int) (h0 : PlanV) (an h1 : List Int) : Prop := (0 <= (IntKind.i64.wrap (v6 + 1)) /\ (IntKind.i64.wrap (v6 + 1)) <= PlanV.width h0 (v4 - 1) /\ an = Zip (PlanV.arity h0) (IntKind.i64.wrap (v6 + 1))) /\ (((PlanV.width h0 (v4 - 1) - (IntKind.i64.wrap (v6 + 1))).toNat) < ((PlanV.width h0 (v4 - 1) - v6).toNat))
abbrev ZeF (x0 : SVal -> Heap -> Prop) : Prop := x0 (.bool true) ⟨0, []⟩
theorem Znd (p : PlanV) (hK : (ZeF Kf)) (v3 v4 v6 : Int) (h0 : PlanV) (an h1 : List Int) (h : ZkB p v3 v4 v6 h0 an h1) : SemL Try.prog w0 fp ρi 0 58 [ZdH] (Zks v3 v4 v6) (Ziq h0 an) (Zfu w0 fp ρi Kf p v3 v4 h0 v6 h1) :=
  ZaK ZaI (Zm3 p v3 v4 v6 h0 an h1 _ (Zj6 (ZgE (x' := ((IntKind.i64.wrap (v6 + 1)), an)) (τ := tau []) h.1 h.2 (ZeK [] [0, 1] rfl rfl (esc bpt (esc pbd (esc pbd (esc bmp (esc pbd Zdp))))) (hsc pcs (hsc pcs ZcI)) (by kernel_rfl) rfl))))
def Zmx (w0 : World) (fp : Nat -> Nat -> Prop) (ρi : Rho) (Kf : SVal -> Heap -> Prop) (p : PlanV) (v3 : Int) (h0 : PlanV) (v4 v6 : Int) (h1 : List Int) : Zfi := ZfG 3 (fun e H => SemL Try.prog w0 fp ρi 0 58 [ZdH] e H (Zfu w0 fp ρi Kf p v3 v4 h0 v6 h1)) (Zfu w0 fp ρi Kf p v3 v4 h0 v6 h1)
theorem Zm2 (p : PlanV) (v3 v4 v6 : Int) (h0 : PlanV) (h1 : List Int) (Z : Env -> Heap -> Prop) (h : ((h0.arity ≠ 0)) /\ Z (Zks v3 v4 v6) ⟨2, [(0, some ⟨true, (PlanV.cs h0), 0⟩), (1, some ⟨false, [.ints .i64 0 (Zdd (IntKind.i64.wrap (Int.tdiv v6 h0.arity)) h1)], 1⟩)]⟩) : EvC ZaY Zho (Zks v3 v4 v6) (Ziq h0 h1) [1, 3, 4, 5, 6] [0, 1] Z := EvC.of (by kernel_rfl) h
def ZjD (p : PlanV) (v3 v4 v6 : Int) (h0 : PlanV) (h1 : List Int) : Prop := ((h0.arity ≠ 0)) /\ (∀ an : List Int, an = (Zdd (IntKind.i64.wrap (Int.tdiv v6 h0.arity)) h1) -> ZkB p v3 v4 v6 h0 an h1)
theorem Znc (p : PlanV) (hK : (ZeF Kf)) (v3 v4 v6 : Int) (h0 : PlanV) (h1 : List Int) (h : ZjD p v3 v4 v6 h0 h1) : SemL Try.prog w0 fp ρi 0 58 [Zho] (Zks v3 v4 v6) (Ziq h0 h1) (Zmx w0 fp ρi Kf p v3 h0 v4 v6 h1) :=
  ZaK ZaI (Zm2 p v3 v4 v6 h0 h1 _ ⟨h.1, (Zj6 (Znd p hK v3 v4 v6 h0 (Zdd (IntKind.i64.wrap (Int.tdiv v6 h0.arity)) h1) h1 (h.2 (Zdd (IntKind.i64.wrap (Int.tdiv v6 h0.arity)) h1) rfl)))⟩)
theorem Znb (p : PlanV) (hK : (ZeF Kf)) (v3 v4 v6 : Int) (h0 : PlanV) (h1 : List Int) (h : ZjD p v3 v4 v6 h0 h1) : SemL Try.prog w0 fp ρi 0 58 [Zf9, ZdH] (Zks v3 v4 v6) (Ziq h0 h1) (Zfu w0 fp ρi Kf p v3 v4 h0 v6 h1) :=
  Zgk (Znc p hK v3 v4 v6 h0 h1 h)
theorem Zm1 (p : PlanV) (v3 : Int) (h0 : PlanV) (v4 : Int) (Z : Env -> Heap -> Prop) (h : Z [(2, some (.bool false))] ⟨2, []⟩) : EvC ZaY Zhn [] ⟨2, []⟩ [2] [] Z := EvC.of (by kernel_rfl) h
theorem ZlM (p : PlanV) : RetC ZaX [(2, some (.bool false))] ⟨2, []⟩ (.bool false) := RetC.of (fun Z => by kernel_rfl)
def ZkA (p : PlanV) (v3 : Int) (h0 : PlanV) (v4 : Int) : Prop := false = true
theorem Zna (p : PlanV) (hK : (ZeF Kf)) (v3 : Int) (h0 : PlanV) (v4 : Int) (h : ZkA p v3 h0 v4) : SemL Try.prog w0 fp ρi 0 58 [Zhn, .ret] [] ⟨2, []⟩ (ZeB w0 fp ρi Kf p v3 h0 v4) :=
  ZaK ZaI (Zm1 p v3 h0 v4 _ (ZeG (R := ZaX) (m := 0) (Kf := Kf) (fun _ _ h => h) (ZlM p) (ZbR rfl (by kernel_rfl) (cg1 (fun (z1 : Bool) => (.bool z1 : SVal)) h) hK)))
abbrev ZmG (x0 : PlanV) : Heap := ⟨2, [(0, some ⟨true, (PlanV.cs x0), 0⟩)]⟩
abbrev Zk3 (x0 x1 : Int) : Env := [(1, some (.ptr ⟨0, 0, 0, 1⟩ 46)), (3, some (.int .i64 x0)), (4, some (.int .i64 x1))]
theorem Zm0 (p : PlanV) (v3 v4 : Int) (h0 : PlanV) (Z : Env -> Heap -> Prop) (h : Z [(1, some (.ptr ⟨0, 0, 0, 1⟩ 46)), (3, some (.int .i64 v3)), (4, some (.int .i64 (IntKind.i64.wrap (v4 + 1))))] (ZmG h0)) : EvC ZaY ZdE (Zk3 v3 v4) (ZmG h0) [1, 3, 4] [0] Z := EvC.of (by kernel_rfl) h
def Zkz (p : PlanV) (v3 v4 : Int) (h0 : PlanV) : Prop := (1 <= (IntKind.i64.wrap (v4 + 1)) /\ (IntKind.i64.wrap (v4 + 1)) <= (PlanV.levels h0 : Int)) /\ ((((PlanV.levels h0 : Int) - (IntKind.i64.wrap (v4 + 1))).toNat) < (((PlanV.levels h0 : Int) - v4).toNat))
theorem Zm9 (p : PlanV) (hK : (ZeF Kf)) (v3 v4 : Int) (h0 : PlanV) (h : Zkz p v3 v4 h0) : SemL Try.prog w0 fp ρi 0 58 [ZdE] (Zk3 v3 v4) (ZmG h0) (Zfv w0 fp ρi Kf p v3 h0 v4) :=
  ZaK ZaI (Zm0 p v3 v4 h0 _ (Zj6 (ZgE (x' := (IntKind.i64.wrap (v4 + 1))) (τ := tau []) h.1 h.2 (ZeK [] [0] rfl rfl (esc bpt (esc pbd (esc pbd Zdp))) (hsc pcs ZcI) (by kernel_rfl) rfl))))
def Zky (p : PlanV) (v3 v4 : Int) (h1 : List Int) (h0 : PlanV) : Prop := ((((List.length h1 : Nat) : Int) != (PlanV.width h0 v4)) = true -> (ZkA p v3 h0 v4)) /\ ((((List.length h1 : Nat) : Int) != (PlanV.width h0 v4)) = false -> (Zkz p v3 v4 h0))
abbrev ZnC (x0 x1 : Int) (x2 : List Int) (x3 : PlanV) : Env := [(1, some (.ptr ⟨0, 0, 0, 1⟩ 46)), (3, some (.int .i64 x0)), (4, some (.int .i64 x1)), (37, some (.bool (((List.length x2 : Nat) : Int) != (PlanV.width x3 x1))))]
theorem Zm8 (p : PlanV) (hK : (ZeF Kf)) (v3 v4 : Int) (h1 : List Int) (h0 : PlanV) (h : Zky p v3 v4 h1 h0) : SemL Try.prog w0 fp ρi 0 58 [ZdF] (ZnC v3 v4 h1 h0) (ZmG h0) (ZeB w0 fp ρi Kf p v3 h0 v4) :=
  ZfK (q := (((List.length h1 : Nat) : Int) != (PlanV.width h0 v4))) (by kernel_rfl) (fun hq => (Za0 (lpk [] [] (Zna p hK v3 h0 v4 (h.1 hq))))) (fun hq => (ZfJ (Zj6 (lpk [1, 3, 4] [0] (Zm9 p hK v3 v4 h0 (h.2 hq))))))
abbrev ZmF (x0 x1 : Int) : Env := [(1, some (.ptr ⟨0, 0, 0, 1⟩ 46)), (3, some (.int .i64 x0)), (4, some (.int .i64 x1)), (5, some (.map 1))]
theorem ZmZ (p : PlanV) (v3 v4 : Int) (h0 : PlanV) (h1 : List Int) (Z : Env -> Heap -> Prop) (h : (True) /\ Z (ZnC v3 v4 h1 h0) (ZmG h0)) : EvC ZaY ZdG (ZmF v3 v4) (Ziq h0 h1) [1, 3, 4, 37] [0] Z := EvC.of (by kernel_rfl) h
def Zkx (p : PlanV) (v3 v4 : Int) (h0 : PlanV) (h1 : List Int) : Prop := Zky p v3 v4 h1 h0
theorem Zm7 (p : PlanV) (hK : (ZeF Kf)) (v3 v4 : Int) (h0 : PlanV) (h1 : List Int) (h : Zkx p v3 v4 h0 h1) : SemL Try.prog w0 fp ρi 0 58 [ZdG, ZdF] (ZmF v3 v4) (Ziq h0 h1) (ZeB w0 fp ρi Kf p v3 h0 v4) :=
  ZaK ZaI (ZmZ p v3 v4 h0 h1 _ ⟨True.intro, (Zm8 p hK v3 v4 h1 h0 h)⟩)
def ZjC (p : PlanV) (v3 v4 v6 : Int) (h0 : PlanV) (h1 : List Int) : Prop := ((decide (v6 < (PlanV.width h0 (IntKind.i64.wrap (v4 - 1))))) = true -> (ZjD p v3 v4 v6 h0 h1)) /\ ((decide (v6 < (PlanV.width h0 (IntKind.i64.wrap (v4 - 1))))) = false -> (Zkx p v3 v4 h0 h1))
abbrev ZnB (x0 x1 x2 : Int) (x3 : PlanV) : Env := [(1, some (.ptr ⟨0, 0, 0, 1⟩ 46)), (3, some (.int .i64 x0)), (4, some (.int .i64 x1)), (5, some (.map 1)), (6, some (.int .i64 x2)), (24, some (.bool (decide (x2 < (PlanV.width x3 (IntKind.i64.wrap (x1 - 1)))))))]
theorem Zm6 (p : PlanV) (hK : (ZeF Kf)) (v3 v4 v6 : Int) (h0 : PlanV) (h1 : List Int) (h : ZjC p v3 v4 v6 h0 h1) : SemL Try.prog w0 fp ρi 0 58 [Zhp, (.seq Zf9 ZdH)] (ZnB v3 v4 v6 h0) (Ziq h0 h1) (Zfu w0 fp ρi Kf p v3 v4 h0 v6 h1) :=
  ZfK (q := (decide (v6 < (PlanV.width h0 (IntKind.i64.wrap (v4 - 1)))))) (by kernel_rfl) (fun hq => (ZfJ (lpk [1, 3, 4, 5, 6] [0, 1] (Za0 (Znb p hK v3 v4 v6 h0 h1 (h.1 hq)))))) (fun hq => (Zkv (lpk [1, 3, 4, 5] [0, 1] (Za0 (Zm7 p hK v3 v4 h0 h1 (h.2 hq))))))
theorem ZmY (p : PlanV) (v3 v4 v6 : Int) (h0 : PlanV) (h1 : List Int) (Z : Env -> Heap -> Prop) (h : (True) /\ Z (ZnB v3 v4 v6 h0) (Ziq h0 h1)) : EvC ZaY Zhq (Zks v3 v4 v6) (Ziq h0 h1) [1, 3, 4, 5, 6, 24] [0, 1] Z := EvC.of (by kernel_rfl) h
theorem Zm5 (p : PlanV) (hK : (ZeF Kf)) (v3 v4 v6 : Int) (h0 : PlanV) (h1 : List Int) (h : ZjC p v3 v4 v6 h0 h1) : SemL Try.prog w0 fp ρi 0 58 [Zhq, Zhp, (.seq Zf9 ZdH)] (Zks v3 v4 v6) (Ziq h0 h1) (Zfu w0 fp ρi Kf p v3 v4 h0 v6 h1) :=
  ZaK ZaI (ZmY p v3 v4 v6 h0 h1 _ ⟨True.intro, (Zm6 p hK v3 v4 v6 h0 h1 h)⟩)
def Zg2 (p : PlanV) (v3 v4 : Int) (h0 : PlanV) : Prop := (0 <= (0 : Int) /\ (0 : Int) <= PlanV.width h0 (v4 - 1) /\ ([] : List Int) = Zip (PlanV.arity h0) (0 : Int)) /\ (∀ (v6 : Int) (h1 : List Int), (0 <= v6 /\ v6 <= PlanV.width h0 (v4 - 1) /\ h1 = Zip (PlanV.arity h0) v6) -> (ZjC p v3 v4 v6 h0 h1))
abbrev Zni (x0 x1 : Int) : Env := [(1, some (.ptr ⟨0, 0, 0, 1⟩ 46)), (3, some (.int .i64 x0)), (4, some (.int .i64 x1)), (5, some (.map 1)), (6, some (.int .i64 0))]
abbrev Zk5 (x0 : PlanV) : Heap := ⟨2, [(0, some ⟨true, (PlanV.cs x0), 0⟩), (1, some ⟨false, [.ints .i64 0 ([] : List Int)], 1⟩)]⟩
theorem Zm4 (p : PlanV) (hK : (ZeF Kf)) (v3 v4 : Int) (h0 : PlanV) (h : Zg2 p v3 v4 h0) : SemL Try.prog w0 fp ρi 0 58 [Zjj] (Zni v3 v4) (Zk5 h0) (Zki w0 fp ρi Kf p v3 h0 v4) :=
  Zku (Zkk p v3 v4 h0) (Zkb p v3 v4 h0) (Zkg p v3 v4 h0) (Zke p v3 v4 h0) ⟨(0, ([] : List Int)), tau [], h.1, (ZeK [] [0, 1] rfl rfl (esc bpt (esc pbd (esc pbd (esc bmp (esc pbd Zdp))))) (hsc pcs (hsc pcs ZcI)) (by kernel_rfl) rfl)⟩ (fun s => match s with | (v6, h1) => fun hi => (Za0 (Za0 (Zm5 p hK v3 v4 v6 h0 h1 (h.2 v6 h1 hi)))))
theorem Zmh (p : PlanV) (hK : (ZeF Kf)) (v3 v4 : Int) (h0 : PlanV) (h : Zg2 p v3 v4 h0) : SemL Try.prog w0 fp ρi 0 58 [Zf8, (.seq ZdG ZdF)] (Zni v3 v4) (Zk5 h0) (ZeB w0 fp ρi Kf p v3 h0 v4) :=
  Zgk (Zm4 p hK v3 v4 h0 h)
theorem ZlA (p : PlanV) (v3 v4 : Int) (h0 : PlanV) (Z : Env -> Heap -> Prop) (h : Z (Zni v3 v4) (Zk5 h0)) : EvC ZaY Zga (ZmF v3 v4) (Zk5 h0) [1, 3, 4, 5, 6] [0, 1] Z := EvC.of (by kernel_rfl) h
theorem Zmg (p : PlanV) (hK : (ZeF Kf)) (v3 v4 : Int) (h0 : PlanV) (h : Zg2 p v3 v4 h0) : SemL Try.prog w0 fp ρi 0 58 [Zga, Zf8, (.seq ZdG ZdF)] (ZmF v3 v4) (Zk5 h0) (ZeB w0 fp ρi Kf p v3 h0 v4) :=
  ZaK ZaI (ZlA p v3 v4 h0 _ (Zmh p hK v3 v4 h0 h))
abbrev Zef (x0 : PlanV) : Heap := ⟨1, [(0, some ⟨true, (PlanV.cs x0), 0⟩)]⟩
theorem Zlz (p : PlanV) (v3 v4 : Int) (h0 : PlanV) (Z : Env -> Heap -> Prop) (h : Z (ZmF v3 v4) (Zk5 h0)) : EvC ZaY Zjf (Zk3 v3 v4) (Zef h0) [1, 3, 4, 5] [0, 1] Z := EvC.of (by kernel_rfl) h
theorem Zmf (p : PlanV) (hK : (ZeF Kf)) (v3 v4 : Int) (h0 : PlanV) (h : Zg2 p v3 v4 h0) : SemL Try.prog w0 fp ρi 0 58 [Zjf, (.seq (.seq Zga Zf8) (.seq ZdG ZdF))] (Zk3 v3 v4) (Zef h0) (ZeB w0 fp ρi Kf p v3 h0 v4) :=
  ZaK ZaI (Zlz p v3 v4 h0 _ (Za0 (Za0 (Zmg p hK v3 v4 h0 h))))
theorem Zme (p : PlanV) (hK : (ZeF Kf)) (v3 v4 : Int) (h0 : PlanV) (h : Zg2 p v3 v4 h0) : SemL Try.prog w0 fp ρi 0 58 [Zf7, ZdE] (Zk3 v3 v4) (Zef h0) (Zfv w0 fp ρi Kf p v3 h0 v4) :=
  Zgk (Za0 (Zmf p hK v3 v4 h0 h))
abbrev ZmT (x0 : Int) : Env := [(1, some (.ptr ⟨0, 0, 0, 1⟩ 46)), (3, some (.int .i64 x0))]
theorem Zly (p : PlanV) (v3 : Int) (h0 : PlanV) (Z : Env -> Heap -> Prop) (h : ∃ qq : Bool, ((decide (1 <= v3)) = true -> (decide (v3 <= 5)) = qq) /\ ((decide (1 <= v3)) = false -> false = qq) /\ ∃ qq'1 : Bool, (qq = true -> ((SVal.bd 1 (.int .i64 (PlanV.width h0 (IntKind.i64.wrap (v3 - 1)))))) /\ (True /\ ((.int .i64 (PlanV.width h0 (IntKind.i64.wrap (v3 - 1))) : SVal) = .int .i64 (PlanV.width h0 (IntKind.i64.wrap (v3 - 1)))) /\ (Za7 (Zef h0) (Zef h0) [(0, some ⟨true, (PlanV.cs h0), 0⟩)])) /\ ((PlanV.width h0 (IntKind.i64.wrap (v3 - 1))) == 1) = qq'1) /\ (qq = false -> false = qq'1) /\ ∃ qq'2 : Bool, (qq'1 = true -> ((SVal.bd 1 (.int .i64 (PlanV.width h0 (0 : Int))))) /\ (True /\ ((.int .i64 (PlanV.width h0 (0 : Int)) : SVal) = .int .i64 (PlanV.width h0 (0 : Int))) /\ (Za7 (Zef h0) (Zef h0) [(0, some ⟨true, (PlanV.cs h0), 0⟩)])) /\ ((PlanV.width h0 (0 : Int)) == h0.pages) = qq'2) /\ (qq'1 = false -> false = qq'2) /\ Z [(2, some (.bool qq'2))] ⟨1, []⟩) : EvQC ZaY Zf6 [.int .i64 (PlanV.width h0 (IntKind.i64.wrap (v3 - 1))), .int .i64 (PlanV.width h0 (0 : Int))] (ZmT v3) (Zef h0) [2] [] Z := EvQC.of (by kernel_rfl) h
theorem ZlL (p : PlanV) (v3 : Int) (h0 : PlanV) : RetC ZaX [(2, some (.bool ((((decide (1 <= v3)) && (decide (v3 <= 5))) && ((PlanV.width h0 (IntKind.i64.wrap (v3 - 1))) == 1)) && ((PlanV.width h0 (0 : Int)) == h0.pages))))] ⟨1, []⟩ (.bool ((((decide (1 <= v3)) && (decide (v3 <= 5))) && ((PlanV.width h0 (IntKind.i64.wrap (v3 - 1))) == 1)) && ((PlanV.width h0 (0 : Int)) == h0.pages))) := RetC.of (fun Z => by kernel_rfl)
def Zix (p : PlanV) (v3 : Int) (h0 : PlanV) : Prop := ((((decide (1 <= v3)) && (decide (v3 <= 5))) && ((PlanV.width h0 (IntKind.i64.wrap (v3 - 1))) == 1)) && ((PlanV.width h0 (0 : Int)) == h0.pages)) = true
theorem Zmd (p : PlanV) (hK : (ZeF Kf)) (v3 : Int) (h0 : PlanV) (h : Zix p v3 h0) : SemL Try.prog w0 fp ρi 0 58 [Zci, .ret] (ZmT v3) (Zef h0) (fnK ZaX 0 Kf) :=
  Zjv ZaI (its := Zf6) (Zly p v3 h0 _ ⟨((decide (1 <= v3)) && (decide (v3 <= 5))), fun hc_qq => (qa1 hc_qq), fun hc_qq => qa2 hc_qq, ⟨(((decide (1 <= v3)) && (decide (v3 <= 5))) && ((PlanV.width h0 (IntKind.i64.wrap (v3 - 1))) == 1)), fun hc_qq_1 => ⟨(Zco (τ := Zbm) (by kernel_rfl)).2, ⟨⟨True.intro, rfl, (Zcq _)⟩, (qa1 hc_qq_1)⟩⟩, fun hc_qq_1 => qa2 hc_qq_1, ⟨((((decide (1 <= v3)) && (decide (v3 <= 5))) && ((PlanV.width h0 (IntKind.i64.wrap (v3 - 1))) == 1)) && ((PlanV.width h0 (0 : Int)) == h0.pages)), fun hc_qq_2 => ⟨(Zco (τ := Zbm) (by kernel_rfl)).2, ⟨⟨True.intro, rfl, (Zcq _)⟩, (qa1 hc_qq_2)⟩⟩, fun hc_qq_2 => qa2 hc_qq_2, (ZeG (R := ZaX) (m := 0) (Kf := Kf) (fun _ _ h => h) (ZlL p v3 h0) (ZbR rfl (by kernel_rfl) (cg1 (fun (z1 : Bool) => (.bool z1 : SVal)) h) hK))⟩⟩⟩)
def ZhD (p : PlanV) (v3 v4 : Int) (h0 : PlanV) : Prop := ((decide (v4 < v3)) = true -> (Zg2 p v3 v4 h0)) /\ ((decide (v4 < v3)) = false -> (Zix p v3 h0))
abbrev ZnA (x0 x1 : Int) : Env := [(1, some (.ptr ⟨0, 0, 0, 1⟩ 46)), (3, some (.int .i64 x0)), (4, some (.int .i64 x1)), (15, some (.bool (decide (x1 < x0))))]
theorem Zmc (p : PlanV) (hK : (ZeF Kf)) (v3 v4 : Int) (h0 : PlanV) (h : ZhD p v3 v4 h0) : SemL Try.prog w0 fp ρi 0 58 [Zjg, (.seq Zf7 ZdE)] (ZnA v3 v4) (Zef h0) (Zfv w0 fp ρi Kf p v3 h0 v4) :=
  ZfK (q := (decide (v4 < v3))) (by kernel_rfl) (fun hq => (ZfJ (lpk [1, 3, 4] [0] (Za0 (Zme p hK v3 v4 h0 (h.1 hq)))))) (fun hq => (Zkv (lpk [1, 3] [0] (Za0 (Zmd p hK v3 h0 (h.2 hq))))))
theorem Zlx (p : PlanV) (v3 v4 : Int) (h0 : PlanV) (Z : Env -> Heap -> Prop) (h : Z (ZnA v3 v4) (Zef h0)) : EvC ZaY Zjh (Zk3 v3 v4) (Zef h0) [1, 3, 4, 15] [0] Z := EvC.of (by kernel_rfl) h
theorem Zmb (p : PlanV) (hK : (ZeF Kf)) (v3 v4 : Int) (h0 : PlanV) (h : ZhD p v3 v4 h0) : SemL Try.prog w0 fp ρi 0 58 [Zjh, Zjg, (.seq Zf7 ZdE)] (Zk3 v3 v4) (Zef h0) (Zfv w0 fp ρi Kf p v3 h0 v4) :=
  ZaK ZaI (Zlx p v3 v4 h0 _ (Zmc p hK v3 v4 h0 h))
def Zgs (p : PlanV) (v3 : Int) (h0 : PlanV) : Prop := (1 <= (1 : Int) /\ (1 : Int) <= (PlanV.levels h0 : Int)) /\ (∀ (v4 : Int), (1 <= v4 /\ v4 <= (PlanV.levels h0 : Int)) -> (ZhD p v3 v4 h0))
abbrev Znh (x0 : Int) : Env := [(1, some (.ptr ⟨0, 0, 0, 1⟩ 46)), (3, some (.int .i64 x0)), (4, some (.int .i64 1))]
theorem Zma (p : PlanV) (hK : (ZeF Kf)) (v3 : Int) (h0 : PlanV) (h : Zgs p v3 h0) : SemL Try.prog w0 fp ρi 0 58 [Zji] (Znh v3) (Zef h0) (Zkj w0 fp ρi Kf p) :=
  Zku (Zkl p v3 h0) (Zkc p v3 h0) (Zkh p v3 h0) (Zkf p v3 h0) ⟨1, tau [], h.1, (ZeK [] [0] rfl rfl (esc bpt (esc pbd (esc pbd Zdp))) (hsc pcs ZcI) (by kernel_rfl) rfl)⟩ (fun s => match s with | v4 => fun hi => (Za0 (Za0 (Zmb p hK v3 v4 h0 (h.2 v4 hi)))))
theorem Zl9 (p : PlanV) (hK : (ZeF Kf)) (v3 : Int) (h0 : PlanV) (h : Zgs p v3 h0) : SemL Try.prog w0 fp ρi 0 58 [Zc9, (.seq Zci .ret)] (Znh v3) (Zef h0) (fnK ZaX 0 Kf) :=
  Zgk (Zma p hK v3 h0 h)
theorem Zlw (p : PlanV) (v3 : Int) (h0 : PlanV) (Z : Env -> Heap -> Prop) (h : Z (Znh v3) (Zef h0)) : EvC ZaY ZeD (ZmT v3) (Zef h0) [1, 3, 4] [0] Z := EvC.of (by kernel_rfl) h
theorem Zl8 (p : PlanV) (hK : (ZeF Kf)) (v3 : Int) (h0 : PlanV) (h : Zgs p v3 h0) : SemL Try.prog w0 fp ρi 0 58 [ZeD, Zc9, (.seq Zci .ret)] (ZmT v3) (Zef h0) (fnK ZaX 0 Kf) :=
  ZaK ZaI (Zlw p v3 h0 _ (Zl9 p hK v3 h0 h))
abbrev Zkr : Env := [(1, some (.ptr ⟨0, 0, 0, 1⟩ 46))]
theorem Zlv (p h0 : PlanV) (Z : Env -> Heap -> Prop) (h : (True) /\ Z [(1, some (.ptr ⟨0, 0, 0, 1⟩ 46)), (3, some (.int .i64 ((PlanV.levels h0 : Nat) : Int)))] (Zef h0)) : EvC ZaY Zfb Zkr (Zef h0) [1, 3] [0] Z := EvC.of (by kernel_rfl) h
def Ziw (p h0 : PlanV) : Prop := ∀ v3 : Int, v3 = ((PlanV.levels h0 : Nat) : Int) -> Zgs p v3 h0
theorem Zl7 (p : PlanV) (hK : (ZeF Kf)) (h0 : PlanV) (h : Ziw p h0) : SemL Try.prog w0 fp ρi 0 58 [Zfb, (.seq (.seq ZeD Zc9) (.seq Zci .ret))] Zkr (Zef h0) (fnK ZaX 0 Kf) :=
  ZaK ZaI (Zlv p h0 _ ⟨True.intro, (Za0 (Za0 (Zl8 p hK ((PlanV.levels h0 : Nat) : Int) h0 (h ((PlanV.levels h0 : Nat) : Int) rfl))))⟩)
theorem Zlu (p : PlanV) (Z : Env -> Heap -> Prop) (h : ((PlanV.Wf p)) /\ Z Zkr ⟨1, [(0, some ⟨true, (PlanV.cs (PlanV.fit p)), 0⟩)]⟩) : EvC ZaY ZfE Zkr (Zef p) [1] [0] Z := EvC.of (by kernel_rfl) h
def ZeR (p : PlanV) : Prop := ((PlanV.Wf p)) /\ (∀ h0 : PlanV, h0 = (PlanV.fit p) -> Ziw p h0)
theorem Zl6 (p : PlanV) (hK : (ZeF Kf)) (h : ZeR p) : SemL Try.prog w0 fp ρi 0 58 [ZfE, (.seq Zfb (.seq (.seq ZeD Zc9) (.seq Zci .ret)))] Zkr (Zef p) (fnK ZaX 0 Kf) :=
  ZaK ZaI (Zlu p _ ⟨h.1, (Za0 (Zl7 p hK (PlanV.fit p) (h.2 (PlanV.fit p) rfl)))⟩)
abbrev Znz : Env := [(1, some (.ptr ⟨0, 0, 0, 1⟩ 46)), (8, some (.bool false))]
theorem Zl5 (p : PlanV) (hK : (ZeF Kf)) (h : ZeR p) : SemL Try.prog w0 fp ρi 0 58 [ZhS, (.seq ZfE (.seq Zfb (.seq (.seq ZeD Zc9) (.seq Zci .ret))))] Znz (Zef p) (fnK ZaX 0 Kf) :=
  ZfK (q := false) (by kernel_rfl) (fun hq => Bool.noConfusion hq) (fun _ => (ZfJ (lpk [1] [0] (Za0 (Zl6 p hK h)))))
theorem Zlt (p : PlanV) (Z : Env -> Heap -> Prop) (h : (True) /\ Z Znz (Zef p)) : EvC ZaY ZhT Zkr (Zef p) [1, 8] [0] Z := EvC.of (by kernel_rfl) h
theorem Zl4 (p : PlanV) (hK : (ZeF Kf)) (h : ZeR p) : SemL Try.prog w0 fp ρi 0 58 [ZhT, ZhS, (.seq ZfE (.seq Zfb (.seq (.seq ZeD Zc9) (.seq Zci .ret))))] Zkr (Zef p) (fnK ZaX 0 Kf) :=
  ZaK ZaI (Zlt p _ ⟨True.intro, (Zl5 p hK h)⟩)
theorem Zls (p : PlanV) (Z : Env -> Heap -> Prop) (h : Z Zkr (Zef p)) : EvC ZaY Zjk (Zk6 p) Ya2 [1] [0] Z := EvC.of (by kernel_rfl) h
theorem Zl3 (p : PlanV) (hK : (ZeF Kf)) (h : ZeR p) : SemL Try.prog w0 fp ρi 0 58 [Zjk, (.seq (.seq ZhT ZhS) (.seq ZfE (.seq Zfb (.seq (.seq ZeD Zc9) (.seq Zci .ret)))))] (Zk6 p) Ya2 (fnK ZaX 0 Kf) :=
  ZaK ZaI (Zls p _ (Za0 (Za0 (Zl4 p hK h))))
theorem Zir (p : PlanV) (hK : (ZeF Kf)) (h : ZeR p) : SemL Try.prog w0 fp ρi 0 58 [ZgO] (Zk6 p) Ya2 (fnK ZaX 0 Kf) :=
  (Za0 (Zl3 p hK h))
end
theorem Zie (p : PlanV) (hpre : (PlanV.Wf p)) : ZeR p := by
  unfold ZeR Ziw Zgs ZhD Zix Zg2 ZjC Zkx Zky Zkz ZkA ZjD ZkB
  refine ⟨hpre, ?_⟩
  rintro q hq v3 rfl
  have hr : q.right = true := hq ▸ p.fit_right
  have hs := PlanV.right_shaped hr
  have hsh := of_decide_eq_true hs
  have hl5 := q.widths_len
  have hlev : q.levels = q.widths.length := rfl
  have hw := PlanV.wid hs
  have hlp : 1 <= q.levels := hw.len1
  simp only [decide_eq_true_eq, decide_eq_false_iff_not, ZmQ]
  refine ⟨⟨by omega, by omega⟩, ?_⟩
  rintro v4 ⟨h1, h2⟩
  have b1 := q.width_le (v4 - 1)
  have b2 := q.width_le v4
  rw [show (v4 - 1 + 9223372036854775808) % 18446744073709551616 - 9223372036854775808 = v4 - 1 by omega]
  refine ⟨fun h3 => ⟨⟨by omega, b1.1, (ZiY (by omega)).symm⟩, ?_⟩, fun h3 => ?_⟩
  · rintro v6 k1 ⟨h4, h5, rfl⟩
    rw [show (v6 + 1 + 9223372036854775808) % 18446744073709551616 - 9223372036854775808 = v6 + 1 by omega,
      show (v4 + 1 + 9223372036854775808) % 18446744073709551616 - 9223372036854775808 = v4 + 1 by omega]
    refine ⟨fun h6 => ⟨by omega, ?_⟩, fun h6 => ?_⟩
    · rintro _ rfl
      have d1 := Int.ediv_nonneg h4 (show 0 <= q.arity by omega)
      have d2 := Int.ediv_le_self q.arity h4
      rw [Int.tdiv_eq_ediv_of_nonneg h4, show (v6 / q.arity + 9223372036854775808) % 18446744073709551616 - 9223372036854775808 = v6 / q.arity by omega, ZiZ (by omega) h4]
      exact ⟨⟨by omega, by omega, rfl⟩, by omega⟩
    · obtain rfl : v6 = q.width (v4 - 1) := by omega
      have h7 := Zib hs h1 h3
      rw [h7]
      exact ⟨fun h => by simp at h, fun _ => ⟨⟨by omega, by omega⟩, by omega⟩⟩
  · rw [show ((q.levels : Int) - 1 + 9223372036854775808) % 18446744073709551616 - 9223372036854775808 = (q.levels : Int) - 1 by omega]
    have e1 := hw.first
    have e2 := hw.last
    have e3 : q.width ((q.levels : Int) - 1) = 1 := by unfold PlanV.width; rw [if_pos (by omega), show ((q.levels : Int) - 1).toNat = q.widths.length - 1 by omega]; exact e2
    have e4 : q.width 0 = q.pages := by unfold PlanV.width; rw [if_pos (by omega)]; exact e1
    rw [e3, e4]
    simp only [Bool.and_eq_true, decide_eq_true_eq, beq_self_eq_true, and_true]
    omega
theorem ZiL : Sound Try.prog 3 (Zc0 Zff) := by
  refine Zcv Zfn ?_
  intro args H K h
  obtain ⟨pre, v, hP, hpre, rfl, hK⟩ := Zbt h
  unfold Zff at hP
  split at hP
  · obtain ⟨hb, hP⟩ := Zag hP
    simp only [Bool.and_eq_true] at hb
    obtain ⟨h0, h1⟩ := hb
    obtain rfl := Nat.eq_of_beq_eq_true h0
    obtain rfl := Nat.eq_of_beq_eq_true h1
    cases hP
    exact ⟨rfl, fun w0 fp ρi => Zir (PlanV.mk _ _ _ _ _ _ _ _ _ _ _ _ _ _ _ _) hK (Zie (PlanV.mk _ _ _ _ _ _ _ _ _ _ _ _ _ _ _ _) hpre)⟩
  · cases hP
end Go.Proofs.Ytinjdimejijabaa
