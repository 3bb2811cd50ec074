/- Two parts of the proof. -/
import Derived.Test.YtinjdimejijabaaSxPlanP
import Derived.Test.YtinjdimejijabaaSxRegion3
import Derived.KernelRfl
import Derived.Test.YtinjdimejijabaaSxRegV
import Derived.Test.YtinjdimejijabaaSxRegion4
set_option linter.unusedVariables false
set_option linter.unusedSimpArgs false
set_option maxRecDepth 20000
namespace Go.Proofs.Ytinjdimejijabaa
open Go.Sx
section
variable {w0 : World} {fp : Nat -> Nat -> Prop} {ρi : Rho} {Kf : SVal -> Heap -> Prop}
end
end Go.Proofs.Ytinjdimejijabaa

set_option linter.unusedVariables false
set_option linter.unusedSimpArgs false
set_option maxRecDepth 20000
namespace Go.Proofs.Ytinjdimejijabaa
open Go.Sx
section
variable {w0 : World} {fp : Nat -> Nat -> Prop} {ρi : Rho} {Kf : SVal -> Heap -> Prop}
end
def ZkN : Zfm := fun args => match args with
  | [.agg [.one (.int .i64 p_0), .one (.int .i64 p_1), .one (.int .i64 p_2), .one (.int .i64 p_3), .one (.int .i64 p_4), .one (.int .i64 p_5), .one (.int .u64 p_6), .one (.int .i64 p_7), .one (.int .i64 p_8), .one (.int .i64 p_9), .one (.int .i64 p_10), .one (.int .i64 p_11), .one (.int .i64 p_12), .one (.int .i64 p_13), .ints .u8 p_14_n p_14, .ints .u8 p_15_n p_15], .int .i64 at_, .int .i64 n] => bif Nat.beq p_14_n 16 && Nat.beq p_15_n 16 then some ((I64 at_ /\ I64 n), .tuple [.int .i64 (PlanV.lnOf (PlanV.mk p_0 p_1 p_2 p_3 p_4 p_5 p_6 p_7 p_8 p_9 p_10 p_11 p_12 p_13 p_14 p_15) at_ n), .int .i64 (PlanV.offOf (PlanV.mk p_0 p_1 p_2 p_3 p_4 p_5 p_6 p_7 p_8 p_9 p_10 p_11 p_12 p_13 p_14 p_15) at_ n), .int .i64 (PlanV.codeOf (PlanV.mk p_0 p_1 p_2 p_3 p_4 p_5 p_6 p_7 p_8 p_9 p_10 p_11 p_12 p_13 p_14 p_15) at_ n)]) else none
  | _ => none
def Zrt : PCon := ⟨73, ZkN⟩
def ZbO (p : PlanV) (at_ n : Int) (Kf : SVal -> Heap -> Prop) : Prop := Kf (.tuple [.int .i64 (PlanV.lnOf p at_ n), .int .i64 (PlanV.offOf p at_ n), .int .i64 (PlanV.codeOf p at_ n)]) ⟨0, []⟩
def Znm : ACode := .reg (.op (some 3) (.box (.tm 0)) (.op (some 6) (.mov (.cn (.int .i64 0))) (.op (some 7) (.mov (.cn (.int .i64 0))) (.op (some 8) (.mov (.cn (.int .i64 0))) .nil))))
def Znl : ACode := .reg (.op (some 10) (.loadA 46 (.tm 3)) (.op (some 11) (.call 85 [(.tm 10)]) (.op (some 12) (.not (.tm 11)) (.op (some 9) (.mov (.tm 12)) .nil))))
def Znk : ACode := .reg (.op (some 6) (.mov (.cn (.int .i64 0))) (.op (some 7) (.mov (.cn (.int .i64 0))) (.op (some 8) (.mov (.cn (.int .i64 4))) .nil)))
def Znj : ACode := .reg (.op (some 14) (.mov (.tm 2)) (.op (some 15) (.bin .neq (.tm 14) (.cn (.int .i64 1))) (.op (some 16) (.mov (.tm 15)) (.grpJ 16 true (.op (some 17) (.mov (.tm 2)) (.op (some 18) (.bin .neq (.tm 17) (.cn (.int .i64 2))) .nil)) 19 (.tm 18) (.cn (.bool false)) (.op (some 20) (.mov (.tm 19)) (.grpJ 20 true (.op (some 21) (.mov (.tm 2)) (.op (some 22) (.bin .neq (.tm 21) (.cn (.int .i64 4))) .nil)) 23 (.tm 22) (.cn (.bool false)) (.op (some 24) (.mov (.tm 23)) (.grpJ 24 true (.op (some 25) (.mov (.tm 2)) (.op (some 26) (.bin .neq (.tm 25) (.cn (.int .i64 8))) .nil)) 27 (.tm 26) (.cn (.bool false)) (.op (some 13) (.mov (.tm 27)) .nil)))))))))
def Zni : ACode := .reg (.op (some 6) (.mov (.cn (.int .i64 0))) (.op (some 7) (.mov (.cn (.int .i64 0))) (.op (some 8) (.mov (.cn (.int .i64 1))) .nil)))
def Znh : ACode := .reg (.op (some 29) (.mov (.tm 1)) (.op (some 30) (.bin .lss (.tm 29) (.cn (.int .i64 0))) (.op (some 31) (.mov (.tm 30)) (.grpJ 31 false (.op (some 32) (.mov (.tm 1)) (.op (some 33) (.loadA 46 (.tm 3)) (.op (some 34) (.call 86 [(.tm 33)]) (.op (some 35) (.bin .geq (.tm 32) (.tm 34)) .nil)))) 36 (.tm 35) (.cn (.bool true)) (.op (some 28) (.mov (.tm 36)) .nil)))))
def Zng : ACode := .reg (.op (some 6) (.mov (.cn (.int .i64 0))) (.op (some 7) (.mov (.cn (.int .i64 0))) (.op (some 8) (.mov (.cn (.int .i64 2))) .nil)))
def Znf : ACode := .reg (.op (some 38) (.mov (.tm 1)) (.op (some 39) (.mov (.tm 2)) (.op (some 40) (.bin .rem (.tm 38) (.tm 39)) (.op (some 41) (.bin .neq (.tm 40) (.cn (.int .i64 0))) (.op (some 37) (.mov (.tm 41)) .nil)))))
def Zne : ACode := .reg (.op (some 6) (.mov (.cn (.int .i64 0))) (.op (some 7) (.mov (.cn (.int .i64 0))) (.op (some 8) (.mov (.cn (.int .i64 9))) .nil)))
def Znd : ACode := .cond (.tm 37) (.seq Zne .ret) .skip
def ZjU : ACode := .cond (.tm 28) (.seq Zng .ret) (.seq Znf Znd)
def ZjT : ACode := .cond (.tm 13) (.seq Zni .ret) (.seq Znh ZjU)
def ZjS : ACode := .cond (.tm 9) (.seq Znk .ret) (.seq Znj ZjT)
def ZjR : ACode := .block 0 (.seq Znl ZjS)
def Zf6 : ACode := .reg (.op (some 42) (.mov (.tm 1)) (.op (some 43) (.bin .quo (.tm 42) (.cn (.int .i64 32))) (.op (some 44) (.mov (.tm 1)) (.op (some 45) (.bin .rem (.tm 44) (.cn (.int .i64 32))) (.op (some 6) (.mov (.tm 43)) (.op (some 7) (.mov (.tm 45)) (.op (some 8) (.mov (.cn (.int .i64 0))) .nil)))))))
def ZoH : ACode := (.seq Znm (.seq ZjR (.seq Zf6 .ret)))
def Zcc : Res := .many [.tm 6, .tm 7, .tm 8]
theorem Zkz : ZbJ Try.prog 73 3 46 ZoH Zcc = true := by kernel_rfl
def Zc9 : Za7 := Zfk [ZsO, Zwz] []
theorem ZcR : Zbb Try.prog Zc9 := Zch ⟨Zua, Zxi, trivial⟩ trivial
section
variable {w0 : World} {fp : Nat -> Nat -> Prop} {ρi : Rho} {Kf : SVal -> Heap -> Prop}
def Zdu (w0 : World) (fp : Nat -> Nat -> Prop) (ρi : Rho) (Kf : SVal -> Heap -> Prop) (p : PlanV) (at_ n : Int) : Zgh := Zep 0 (fun e H => SemL Try.prog w0 fp ρi 0 46 [(.seq Zf6 .ret)] e H (fnK Zcc 0 Kf)) (fnK Zcc 0 Kf)
abbrev Yb0 : Env := [(6, some (.int .i64 0)), (7, some (.int .i64 0)), (8, some (.int .i64 4))]
abbrev Yb1 : Heap := ⟨1, []⟩
theorem ZxG (p : PlanV) (at_ n : Int) (Z : Env -> Heap -> Prop) (h : Z Yb0 Yb1) : EvC Zc9 Znk [] Yb1 [6, 7, 8] [] Z := EvC.of (by kernel_rfl) h
theorem Zu3 (p : PlanV) (at_ n : Int) : RetC Zcc Yb0 Yb1 (.tuple [.int .i64 0, .int .i64 0, .int .i64 4]) := RetC.of (fun Z => by kernel_rfl)
def ZpL (p : PlanV) (at_ n : Int) : Prop := (0 = (PlanV.lnOf p at_ n)) /\ (0 = (PlanV.offOf p at_ n)) /\ (4 = (PlanV.codeOf p at_ n))
theorem Zzn (p : PlanV) (at_ n : Int) (hK : ZbO p at_ n Kf) (h : ZpL p at_ n) : SemL Try.prog w0 fp ρi 0 46 [Znk, .ret] [] Yb1 (Zdu w0 fp ρi Kf p at_ n) :=
  Zas ZcR (ZxG p at_ n _ (Zbz (R := Zcc) (m := 0) (Kf := Kf) (fun _ _ h => h) (Zu3 p at_ n) (Zbd rfl (by kernel_rfl) (cg3 (fun (z1 z2 z3 : Int) => (.tuple [.int .i64 z1, .int .i64 z2, .int .i64 z3] : SVal)) h.1 h.2.1 h.2.2) hK)))
abbrev Yb2 : Env := [(6, some (.int .i64 0)), (7, some (.int .i64 0)), (8, some (.int .i64 1))]
theorem ZxF (p : PlanV) (at_ n : Int) (Z : Env -> Heap -> Prop) (h : Z Yb2 Yb1) : EvC Zc9 Zni [] Yb1 [6, 7, 8] [] Z := EvC.of (by kernel_rfl) h
theorem Zu2 (p : PlanV) (at_ n : Int) : RetC Zcc Yb2 Yb1 (.tuple [.int .i64 0, .int .i64 0, .int .i64 1]) := RetC.of (fun Z => by kernel_rfl)
def ZpK (p : PlanV) (at_ n : Int) : Prop := (0 = (PlanV.lnOf p at_ n)) /\ (0 = (PlanV.offOf p at_ n)) /\ (1 = (PlanV.codeOf p at_ n))
theorem Zzm (p : PlanV) (at_ n : Int) (hK : ZbO p at_ n Kf) (h : ZpK p at_ n) : SemL Try.prog w0 fp ρi 0 46 [Zni, .ret] [] Yb1 (Zdu w0 fp ρi Kf p at_ n) :=
  Zas ZcR (ZxF p at_ n _ (Zbz (R := Zcc) (m := 0) (Kf := Kf) (fun _ _ h => h) (Zu2 p at_ n) (Zbd rfl (by kernel_rfl) (cg3 (fun (z1 z2 z3 : Int) => (.tuple [.int .i64 z1, .int .i64 z2, .int .i64 z3] : SVal)) h.1 h.2.1 h.2.2) hK)))
abbrev Yb3 : Env := [(6, some (.int .i64 0)), (7, some (.int .i64 0)), (8, some (.int .i64 2))]
theorem ZxE (p : PlanV) (at_ n : Int) (Z : Env -> Heap -> Prop) (h : Z Yb3 Yb1) : EvC Zc9 Zng [] Yb1 [6, 7, 8] [] Z := EvC.of (by kernel_rfl) h
theorem Zu1 (p : PlanV) (at_ n : Int) : RetC Zcc Yb3 Yb1 (.tuple [.int .i64 0, .int .i64 0, .int .i64 2]) := RetC.of (fun Z => by kernel_rfl)
def ZpJ (p : PlanV) (at_ n : Int) : Prop := (0 = (PlanV.lnOf p at_ n)) /\ (0 = (PlanV.offOf p at_ n)) /\ (2 = (PlanV.codeOf p at_ n))
theorem Zzl (p : PlanV) (at_ n : Int) (hK : ZbO p at_ n Kf) (h : ZpJ p at_ n) : SemL Try.prog w0 fp ρi 0 46 [Zng, .ret] [] Yb1 (Zdu w0 fp ρi Kf p at_ n) :=
  Zas ZcR (ZxE p at_ n _ (Zbz (R := Zcc) (m := 0) (Kf := Kf) (fun _ _ h => h) (Zu1 p at_ n) (Zbd rfl (by kernel_rfl) (cg3 (fun (z1 z2 z3 : Int) => (.tuple [.int .i64 z1, .int .i64 z2, .int .i64 z3] : SVal)) h.1 h.2.1 h.2.2) hK)))
abbrev Yb4 : Env := [(6, some (.int .i64 0)), (7, some (.int .i64 0)), (8, some (.int .i64 9))]
theorem ZxD (p : PlanV) (at_ n : Int) (Z : Env -> Heap -> Prop) (h : Z Yb4 Yb1) : EvC Zc9 Zne [] Yb1 [6, 7, 8] [] Z := EvC.of (by kernel_rfl) h
theorem Zu0 (p : PlanV) (at_ n : Int) : RetC Zcc Yb4 Yb1 (.tuple [.int .i64 0, .int .i64 0, .int .i64 9]) := RetC.of (fun Z => by kernel_rfl)
def ZpI (p : PlanV) (at_ n : Int) : Prop := (0 = (PlanV.lnOf p at_ n)) /\ (0 = (PlanV.offOf p at_ n)) /\ (9 = (PlanV.codeOf p at_ n))
theorem Zzk (p : PlanV) (at_ n : Int) (hK : ZbO p at_ n Kf) (h : ZpI p at_ n) : SemL Try.prog w0 fp ρi 0 46 [Zne, .ret] [] Yb1 (Zdu w0 fp ρi Kf p at_ n) :=
  Zas ZcR (ZxD p at_ n _ (Zbz (R := Zcc) (m := 0) (Kf := Kf) (fun _ _ h => h) (Zu0 p at_ n) (Zbd rfl (by kernel_rfl) (cg3 (fun (z1 z2 z3 : Int) => (.tuple [.int .i64 z1, .int .i64 z2, .int .i64 z3] : SVal)) h.1 h.2.1 h.2.2) hK)))
abbrev Yb5 (x0 : Int) : Env := [(6, some (.int .i64 (IntKind.i64.wrap (Int.tdiv x0 32)))), (7, some (.int .i64 (Int.tmod x0 32))), (8, some (.int .i64 0))]
theorem ZxC (p : PlanV) (at_ n : Int) (Z : Env -> Heap -> Prop) (h : (((32 : Int) ≠ 0)) /\ (((32 : Int) ≠ 0)) /\ Z (Yb5 at_) Yb1) : EvC Zc9 Zf6 [(1, some (.int .i64 at_))] Yb1 [6, 7, 8] [] Z := EvC.of (by kernel_rfl) h
theorem ZuZ (p : PlanV) (at_ n : Int) : RetC Zcc (Yb5 at_) Yb1 (.tuple [.int .i64 (IntKind.i64.wrap (Int.tdiv at_ 32)), .int .i64 (Int.tmod at_ 32), .int .i64 0]) := RetC.of (fun Z => by kernel_rfl)
def ZpH (p : PlanV) (at_ n : Int) : Prop := ((IntKind.i64.wrap (Int.tdiv at_ 32)) = (PlanV.lnOf p at_ n)) /\ ((Int.tmod at_ 32) = (PlanV.offOf p at_ n)) /\ (0 = (PlanV.codeOf p at_ n))
theorem Zzj (p : PlanV) (at_ n : Int) (hK : ZbO p at_ n Kf) (h : ZpH p at_ n) : SemL Try.prog w0 fp ρi 0 46 [Zf6, .ret] [(1, some (.int .i64 at_))] Yb1 (fnK Zcc 0 Kf) :=
  Zas ZcR (ZxC p at_ n _ ⟨(by decide), ⟨(by decide), (Zbz (R := Zcc) (m := 0) (Kf := Kf) (fun _ _ h => h) (ZuZ p at_ n) (Zbd rfl (by kernel_rfl) (cg3 (fun (z1 z2 z3 : Int) => (.tuple [.int .i64 z1, .int .i64 z2, .int .i64 z3] : SVal)) h.1 h.2.1 h.2.2) hK))⟩⟩)
def ZpG (p : PlanV) (at_ n : Int) : Prop := (((Int.tmod at_ n) != 0) = true -> (ZpI p at_ n)) /\ (((Int.tmod at_ n) != 0) = false -> (ZpH p at_ n))
theorem Zzi (p : PlanV) (at_ n : Int) (hK : ZbO p at_ n Kf) (h : ZpG p at_ n) : SemL Try.prog w0 fp ρi 0 46 [Znd] [(1, some (.int .i64 at_)), (37, some (.bool ((Int.tmod at_ n) != 0)))] Yb1 (Zdu w0 fp ρi Kf p at_ n) :=
  ZbD (q := ((Int.tmod at_ n) != 0)) (by kernel_rfl) (fun hq => (Zau (lpk [] [] (Zzk p at_ n hK (h.1 hq))))) (fun hq => (Zcd (ZhP (lpk [1] [] (Zau (Zzj p at_ n hK (h.2 hq)))))))
theorem ZxB (p : PlanV) (at_ n : Int) (Z : Env -> Heap -> Prop) (h : ((n ≠ 0)) /\ Z [(1, some (.int .i64 at_)), (37, some (.bool ((Int.tmod at_ n) != 0)))] Yb1) : EvC Zc9 Znf [(1, some (.int .i64 at_)), (2, some (.int .i64 n))] Yb1 [1, 37] [] Z := EvC.of (by kernel_rfl) h
def ZpF (p : PlanV) (at_ n : Int) : Prop := ((n ≠ 0)) /\ (ZpG p at_ n)
theorem Zzh (p : PlanV) (at_ n : Int) (hK : ZbO p at_ n Kf) (h : ZpF p at_ n) : SemL Try.prog w0 fp ρi 0 46 [Znf, Znd] [(1, some (.int .i64 at_)), (2, some (.int .i64 n))] Yb1 (Zdu w0 fp ρi Kf p at_ n) :=
  Zas ZcR (ZxB p at_ n _ ⟨h.1, (Zzi p at_ n hK h.2)⟩)
def ZpE (p : PlanV) (at_ n : Int) : Prop := (((decide (at_ < 0)) || (decide ((PlanV.tags p) <= at_))) = true -> (ZpJ p at_ n)) /\ (((decide (at_ < 0)) || (decide ((PlanV.tags p) <= at_))) = false -> (ZpF p at_ n))
theorem Zzg (p : PlanV) (at_ n : Int) (hK : ZbO p at_ n Kf) (h : ZpE p at_ n) : SemL Try.prog w0 fp ρi 0 46 [ZjU] [(1, some (.int .i64 at_)), (2, some (.int .i64 n)), (28, some (.bool ((decide (at_ < 0)) || (decide ((PlanV.tags p) <= at_)))))] Yb1 (Zdu w0 fp ρi Kf p at_ n) :=
  ZbD (q := ((decide (at_ < 0)) || (decide ((PlanV.tags p) <= at_)))) (by kernel_rfl) (fun hq => (Zau (lpk [] [] (Zzl p at_ n hK (h.1 hq))))) (fun hq => (Zau (lpk [1, 2] [] (Zzh p at_ n hK (h.2 hq)))))
abbrev Yb6 (x0 : PlanV) : Heap := ⟨1, [(0, some ⟨true, (PlanV.cs x0), 0⟩)]⟩
abbrev Yb7 (x0 x1 : Int) : Env := [(1, some (.int .i64 x0)), (2, some (.int .i64 x1)), (3, some (.ptr ⟨0, 0, 0, 1⟩ 46))]
theorem ZxA (p : PlanV) (at_ n : Int) (Z : Env -> Heap -> Prop) (h : ∃ qq'3 : Bool, ((decide (at_ < 0)) = false -> (True) /\ (ZaN (Yb6 p) (Yb6 p) [(0, some ⟨true, (PlanV.cs p), 0⟩)]) /\ (decide ((PlanV.tags p) <= at_)) = qq'3) /\ ((decide (at_ < 0)) = true -> true = qq'3) /\ Z [(1, some (.int .i64 at_)), (2, some (.int .i64 n)), (28, some (.bool qq'3))] Yb1) : EvC Zc9 Znh (Yb7 at_ n) (Yb6 p) [1, 2, 28] [] Z := EvC.of (by kernel_rfl) h
def ZpD (p : PlanV) (at_ n : Int) : Prop := ZpE p at_ n
theorem Zzf (p : PlanV) (at_ n : Int) (hK : ZbO p at_ n Kf) (h : ZpD p at_ n) : SemL Try.prog w0 fp ρi 0 46 [Znh, ZjU] (Yb7 at_ n) (Yb6 p) (Zdu w0 fp ρi Kf p at_ n) :=
  Zas ZcR (ZxA p at_ n _ ⟨((decide (at_ < 0)) || (decide ((PlanV.tags p) <= at_))), fun hc_qq_3 => ⟨True.intro, ⟨(Za3 _), (qo1 hc_qq_3)⟩⟩, fun hc_qq_3 => qo2 hc_qq_3, (Zzg p at_ n hK h)⟩)
def ZpC (p : PlanV) (at_ n : Int) : Prop := (((((n != 1) && (n != 2)) && (n != 4)) && (n != 8)) = true -> (ZpK p at_ n)) /\ (((((n != 1) && (n != 2)) && (n != 4)) && (n != 8)) = false -> (ZpD p at_ n))
theorem Zze (p : PlanV) (at_ n : Int) (hK : ZbO p at_ n Kf) (h : ZpC p at_ n) : SemL Try.prog w0 fp ρi 0 46 [ZjT] [(1, some (.int .i64 at_)), (2, some (.int .i64 n)), (3, some (.ptr ⟨0, 0, 0, 1⟩ 46)), (13, some (.bool ((((n != 1) && (n != 2)) && (n != 4)) && (n != 8))))] (Yb6 p) (Zdu w0 fp ρi Kf p at_ n) :=
  ZbD (q := ((((n != 1) && (n != 2)) && (n != 4)) && (n != 8))) (by kernel_rfl) (fun hq => (Zau (lpk [] [] (Zzm p at_ n hK (h.1 hq))))) (fun hq => (Zau (lpk [1, 2, 3] [0] (Zzf p at_ n hK (h.2 hq)))))
theorem Zuf (p : PlanV) (at_ n : Int) (Z : Env -> Heap -> Prop) (h : ∃ qq : Bool, ((n != 1) = true -> (ZaN (Yb6 p) (Yb6 p) [(0, some ⟨true, (PlanV.cs p), 0⟩)]) /\ (n != 2) = qq) /\ ((n != 1) = false -> false = qq) /\ ∃ qq'1 : Bool, (qq = true -> (ZaN (Yb6 p) (Yb6 p) [(0, some ⟨true, (PlanV.cs p), 0⟩)]) /\ (n != 4) = qq'1) /\ (qq = false -> false = qq'1) /\ ∃ qq'2 : Bool, (qq'1 = true -> (ZaN (Yb6 p) (Yb6 p) [(0, some ⟨true, (PlanV.cs p), 0⟩)]) /\ (n != 8) = qq'2) /\ (qq'1 = false -> false = qq'2) /\ Z [(1, some (.int .i64 at_)), (2, some (.int .i64 n)), (3, some (.ptr ⟨0, 0, 0, 1⟩ 46)), (13, some (.bool qq'2))] (Yb6 p)) : EvC Zc9 Znj (Yb7 at_ n) (Yb6 p) [1, 2, 3, 13] [0] Z := EvC.of (by kernel_rfl) h
def ZlL (p : PlanV) (at_ n : Int) : Prop := ZpC p at_ n
theorem Zvy (p : PlanV) (at_ n : Int) (hK : ZbO p at_ n Kf) (h : ZlL p at_ n) : SemL Try.prog w0 fp ρi 0 46 [Znj, ZjT] (Yb7 at_ n) (Yb6 p) (Zdu w0 fp ρi Kf p at_ n) :=
  Zas ZcR (Zuf p at_ n _ ⟨((n != 1) && (n != 2)), fun hc_qq => ⟨(Za3 _), (qa1 hc_qq)⟩, fun hc_qq => qa2 hc_qq, ⟨(((n != 1) && (n != 2)) && (n != 4)), fun hc_qq_1 => ⟨(Za3 _), (qa1 hc_qq_1)⟩, fun hc_qq_1 => qa2 hc_qq_1, ⟨((((n != 1) && (n != 2)) && (n != 4)) && (n != 8)), fun hc_qq_2 => ⟨(Za3 _), (qa1 hc_qq_2)⟩, fun hc_qq_2 => qa2 hc_qq_2, (Zze p at_ n hK h)⟩⟩⟩)
def ZlK (p : PlanV) (at_ n : Int) : Prop := ((!(PlanV.right p)) = true -> (ZpL p at_ n)) /\ ((!(PlanV.right p)) = false -> (ZlL p at_ n))
abbrev Yb8 (x0 x1 : Int) (x2 : PlanV) : Env := [(1, some (.int .i64 x0)), (2, some (.int .i64 x1)), (3, some (.ptr ⟨0, 0, 0, 1⟩ 46)), (9, some (.bool (!(PlanV.right x2))))]
theorem Zvx (p : PlanV) (at_ n : Int) (hK : ZbO p at_ n Kf) (h : ZlK p at_ n) : SemL Try.prog w0 fp ρi 0 46 [ZjS] (Yb8 at_ n p) (Yb6 p) (Zdu w0 fp ρi Kf p at_ n) :=
  ZbD (q := (!(PlanV.right p))) (by kernel_rfl) (fun hq => (Zau (lpk [] [] (Zzn p at_ n hK (h.1 hq))))) (fun hq => (Zau (lpk [1, 2, 3] [0] (Zvy p at_ n hK (h.2 hq)))))
theorem Zue (p : PlanV) (at_ n : Int) (Z : Env -> Heap -> Prop) (h : (True) /\ Z (Yb8 at_ n p) (Yb6 p)) : EvC Zc9 Znl (Yb7 at_ n) (Yb6 p) [1, 2, 3, 9] [0] Z := EvC.of (by kernel_rfl) h
def ZlJ (p : PlanV) (at_ n : Int) : Prop := ZlK p at_ n
theorem Zvw (p : PlanV) (at_ n : Int) (hK : ZbO p at_ n Kf) (h : ZlJ p at_ n) : SemL Try.prog w0 fp ρi 0 46 [Znl, ZjS] (Yb7 at_ n) (Yb6 p) (Zdu w0 fp ρi Kf p at_ n) :=
  Zas ZcR (Zue p at_ n _ ⟨True.intro, (Zvx p at_ n hK h)⟩)
def ZlI (p : PlanV) (at_ n : Int) : Prop := ZlJ p at_ n
theorem Zvv (p : PlanV) (at_ n : Int) (hK : ZbO p at_ n Kf) (h : ZlI p at_ n) : SemL Try.prog w0 fp ρi 0 46 [ZjR, (.seq Zf6 .ret)] (Yb7 at_ n) (Yb6 p) (fnK Zcc 0 Kf) :=
  Zdy (Zau (Zvw p at_ n hK h))
abbrev Yb9 (x0 : PlanV) (x1 x2 : Int) : Env := [(0, some (.agg (PlanV.cs x0))), (1, some (.int .i64 x1)), (2, some (.int .i64 x2))]
theorem Zud (p : PlanV) (at_ n : Int) (Z : Env -> Heap -> Prop) (h : Z (Yb7 at_ n) (Yb6 p)) : EvC Zc9 Znm (Yb9 p at_ n) ⟨0, []⟩ [1, 2, 3] [0] Z := EvC.of (by kernel_rfl) h
def ZlH (p : PlanV) (at_ n : Int) : Prop := ZlI p at_ n
theorem Zvu (p : PlanV) (at_ n : Int) (hK : ZbO p at_ n Kf) (h : ZlH p at_ n) : SemL Try.prog w0 fp ρi 0 46 [Znm, (.seq ZjR (.seq Zf6 .ret))] (Yb9 p at_ n) ⟨0, []⟩ (fnK Zcc 0 Kf) :=
  Zas ZcR (Zud p at_ n _ (Zau (Zvv p at_ n hK h)))
def Zh3 (p : PlanV) (at_ n : Int) : Prop := ZlH p at_ n
theorem ZsA (p : PlanV) (at_ n : Int) (hK : ZbO p at_ n Kf) (h : Zh3 p at_ n) : SemL Try.prog w0 fp ρi 0 46 [ZoH] (Yb9 p at_ n) ⟨0, []⟩ (fnK Zcc 0 Kf) :=
  (Zau (Zvu p at_ n hK h))
end
theorem Zry (p : PlanV) (at_ n : Int) (hpre : (I64 at_ /\ I64 n)) : Zh3 p at_ n := by
  unfold Zh3 ZlH ZlI ZlJ ZlK ZlL ZpC ZpD ZpE ZpF ZpG ZpH ZpI ZpJ ZpK ZpL
  have hn4 : (n != 1 && n != 2 && n != 4 && n != 8) = !(decide (n = 1 ∨ n = 2 ∨ n = 4 ∨ n = 8)) := by
    rw [Bool.eq_iff_iff]
    simp only [Bool.and_eq_true, bne_iff_ne, ne_eq, Bool.not_eq_true', decide_eq_false_iff_not]
    omega
  rw [hn4]
  have ha := _root_.Go.Sx.PlanV.all_le p
  have ht : p.tags = p.all * 32 := rfl
  have hw := hpre.1
  unfold I64 at hw
  refine ⟨fun h => PlanV.line_bad (PlanV.code4 (ZgK h)) (by decide), fun h => ?_⟩
  have hr := Zgm h
  refine ⟨fun h => PlanV.line_bad (PlanV.code1 hr (of_decide_eq_false (ZgK h))) (by decide), fun h => ?_⟩
  have hn := of_decide_eq_true (Zgm h)
  refine ⟨fun h => ?_, fun h => ?_⟩
  · simp only [Bool.or_eq_true, decide_eq_true_eq] at h
    exact PlanV.line_bad (PlanV.code2 hr hn (by omega)) (by decide)
  simp only [Bool.or_eq_false_iff, decide_eq_false_iff_not] at h
  refine ⟨by omega, fun h1 => ?_, fun h1 => ?_⟩
  · rw [Int.tmod_eq_emod_of_nonneg (by omega), bne_iff_ne] at h1
    exact PlanV.line_bad (PlanV.code9 hr hn (by omega) h1) (by decide)
  · rw [Int.tmod_eq_emod_of_nonneg (by omega), bne_eq_false_iff_eq] at h1
    have := PlanV.line_ok (PlanV.code0 hr hn (by omega) h1)
    rw [Int.tmod_eq_emod_of_nonneg (by omega), Int.tdiv_eq_ediv_of_nonneg (by omega), ZlC]
    exact ⟨by rw [<- this.1]; omega, this.2⟩
theorem ZsH : Sound Try.prog 73 (ZeB ZkN) := by
  refine ZbP Zkz ?_
  intro args H K h
  obtain ⟨pre, v, hP, hpre, rfl, hK⟩ := ZbW h
  unfold ZkN at hP
  split at hP
  · obtain ⟨hb, hP⟩ := ZaT hP
    simp only [Bool.and_eq_true] at hb
    obtain ⟨h0, h1⟩ := hb
    obtain rfl := Nat.eq_of_beq_eq_true h0
    obtain rfl := Nat.eq_of_beq_eq_true h1
    cases hP
    exact ⟨rfl, fun w0 fp ρi => ZsA (PlanV.mk _ _ _ _ _ _ _ _ _ _ _ _ _ _ _ _) _ _ hK (Zry (PlanV.mk _ _ _ _ _ _ _ _ _ _ _ _ _ _ _ _) _ _ hpre)⟩
  · cases hP
section
variable {w0 : World} {fp : Nat -> Nat -> Prop} {ρi : Rho} {Kf : SVal -> Heap -> Prop}
end
end Go.Proofs.Ytinjdimejijabaa
