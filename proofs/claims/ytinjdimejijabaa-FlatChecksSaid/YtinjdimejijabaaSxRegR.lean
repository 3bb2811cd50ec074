/- Part of the proof: SxRegR. -/
import Derived.Test.YtinjdimejijabaaSxPlanP
import Derived.Test.YtinjdimejijabaaSxRegion3
import Derived.KernelRfl
set_option linter.unusedVariables false
set_option linter.unusedSimpArgs false
set_option maxRecDepth 20000
namespace Go.Proofs.Ytinjdimejijabaa
open Go.Sx
def ZsN : ZlV := fun ds => match ds with
  | [.pl (.agg [.one (.int .i64 a1), .one (.int .i64 a0), .one (.int .i64 aZ), .one (.int .i64 aY), .one (.int .i64 aX), .one (.int .i64 aW), .one (.int .u64 aV), .one (.int .i64 aU), .one (.int .i64 aT), .one (.int .i64 aS), .one (.int .i64 aR), .one (.int .i64 aQ), .one (.int .i64 aP), .one (.int .i64 aO), .ints .u8 aL aN, .ints .u8 aK aM])] => bif Nat.beq aL 16 && Nat.beq aK 16 then some (True, [.rw Zac (List.length (PlanV.parts (PlanV.mk a1 a0 aZ aY aX aW aV aU aT aS aR aQ aP aO aN aM))) (PlanV.parts (PlanV.mk a1 a0 aZ aY aX aW aV aU aT aS aR aQ aP aO aN aM))], []) else none
  | _ => none
def Zyn : Con := ⟨100, dC ZsN, [], [], []⟩
def Zbd (p : PlanV) (Kf : SVal -> Heap -> Prop) : Prop := ∀ cap0 : Nat, (List.length (PlanV.parts p)) <= cap0 -> Kf (.slice ⟨0, 0, 0, 7⟩ (List.length (PlanV.parts p)) cap0) ⟨1, [(0, some ⟨true, [.rows Zac (List.length (PlanV.parts p)) (PlanV.parts p)], ((cap0 - (List.length (PlanV.parts p))) * 7)⟩)]⟩
def Zoz : ACode := .reg (.op (some 1) (.box (.tm 0)) (.op (some 2) (.mov (.cn (.nilslice))) .nil))
def Zkt : ACode := .reg (.op (some 9) (.bsliceR Zac 0 []) (.op (some 3) (.mov (.tm 9)) (.op (some 4) (.mov (.cn (.int .i64 0))) .nil)))
def ZiX : ACode := .reg (.op (some 10) (.loadA 46 (.tm 1)) (.op (some 11) (.call 29 [(.tm 10)]) (.op (some 12) (.not (.tm 11)) .nil)))
def Zoy : ACode := .reg (.op (some 13) (.mov (.tm 3)) (.op (some 2) (.mov (.tm 13)) .nil))
def ZiT : ACode := .cond (.tm 12) (.seq Zoy .ret) .skip
def Zfx : ACode := .reg (.op (some 5) (.mov (.cn (.int .i64 0))) .nil)
def Zox : ACode := .reg (.op (some 14) (.mov (.tm 5)) (.op (some 15) (.fieldAddr (.tm 1) 2 1) (.op (some 16) (.load1 (.tm 15)) (.op (some 17) (.fieldAddr (.tm 1) 3 1) (.op (some 18) (.load1 (.tm 17)) (.op (some 19) (.bin .mul (.tm 16) (.tm 18)) (.op (some 20) (.bin .lss (.tm 14) (.tm 19)) .nil)))))))
def Zow : ACode := .cond (.tm 20) .skip (.exit 0)
def Zov : ACode := .reg (.op (some 23) (.mov (.tm 3)) (.op (some 24) (.mov (.tm 5)) (.op (some 25) (.build [.i 0, .i 0, .i 0, .i 0, .i 0] [(0, 1, (.cn (.int .i64 1))), (1, 1, (.tm 24))]) (.op (some 26) (.mov (.tm 4)) (.op (some 27) (.build [.i 0, .i 0, .i 0, .i 0, .i 0, .i 0, .i 0] [(0, 5, (.tm 25)), (5, 1, (.tm 26)), (6, 1, (.cn (.int .i64 32)))]) (.op (some 28) (.bsliceR Zac 1 [(.tm 27)]) (.op (some 29) (.appendR Zac (.tm 23) (.tm 28)) (.op (some 3) (.mov (.tm 29)) .nil))))))))
def Zks : ACode := .reg (.op (some 30) (.mov (.tm 4)) (.op (some 31) (.bin .add (.tm 30) (.cn (.int .i64 32))) (.op (some 4) (.mov (.tm 31)) .nil)))
def Zi0 : ACode := .block 1 (.seq Zov Zks)
def Zfe : ACode := .reg (.op (some 21) (.mov (.tm 5)) (.op (some 22) (.bin .add (.tm 21) (.cn (.int .i64 1))) (.op (some 5) (.mov (.tm 22)) .nil)))
def ZpL : ACode := .loop (.seq (.seq Zox Zow) (.seq Zi0 Zfe))
def ZeE : ACode := .block 0 ZpL
def Zdo : ACode := .reg (.op (some 6) (.mov (.cn (.int .i64 0))) .nil)
def ZlF : ACode := .reg (.op (some 32) (.mov (.tm 6)) (.op (some 33) (.fieldAddr (.tm 1) 2 1) (.op (some 34) (.load1 (.tm 33)) (.op (some 35) (.fieldAddr (.tm 1) 3 1) (.op (some 36) (.load1 (.tm 35)) (.op (some 37) (.bin .mul (.tm 34) (.tm 36)) (.op (some 38) (.bin .lss (.tm 32) (.tm 37)) .nil)))))))
def ZlE : ACode := .cond (.tm 38) .skip (.exit 2)
def ZlD : ACode := .reg (.op (some 41) (.mov (.tm 3)) (.op (some 42) (.mov (.tm 6)) (.op (some 43) (.build [.i 0, .i 0, .i 0, .i 0, .i 0] [(0, 1, (.cn (.int .i64 2))), (1, 1, (.tm 42))]) (.op (some 44) (.mov (.tm 4)) (.op (some 45) (.build [.i 0, .i 0, .i 0, .i 0, .i 0, .i 0, .i 0] [(0, 5, (.tm 43)), (5, 1, (.tm 44)), (6, 1, (.cn (.int .i64 8)))]) (.op (some 46) (.bsliceR Zac 1 [(.tm 45)]) (.op (some 47) (.appendR Zac (.tm 41) (.tm 46)) (.op (some 3) (.mov (.tm 47)) .nil))))))))
def ZiZ : ACode := .reg (.op (some 48) (.mov (.tm 4)) (.op (some 49) (.bin .add (.tm 48) (.cn (.int .i64 8))) (.op (some 4) (.mov (.tm 49)) .nil)))
def ZiY : ACode := .block 3 (.seq ZlD ZiZ)
def Zfd : ACode := .reg (.op (some 39) (.mov (.tm 6)) (.op (some 40) (.bin .add (.tm 39) (.cn (.int .i64 1))) (.op (some 6) (.mov (.tm 40)) .nil)))
def ZpK : ACode := .loop (.seq (.seq ZlF ZlE) (.seq ZiY Zfd))
def Zdn : ACode := .block 2 ZpK
def ZcI : ACode := .reg (.op (some 7) (.mov (.cn (.int .i64 0))) .nil)
def ZlC : ACode := .reg (.op (some 50) (.mov (.tm 7)) (.op (some 51) (.loadA 46 (.tm 1)) (.op (some 52) (.call 71 [(.tm 51)]) (.op (some 53) (.bin .lss (.tm 50) (.tm 52)) .nil))))
def ZlB : ACode := .cond (.tm 53) .skip (.exit 4)
def ZlA : ACode := .reg (.op (some 8) (.mov (.cn (.int .i64 0))) .nil)
def Zlz : ACode := .reg (.op (some 56) (.mov (.tm 8)) (.op (some 57) (.loadA 46 (.tm 1)) (.op (some 58) (.mov (.tm 7)) (.op (some 59) (.call 84 [(.tm 57), (.tm 58)]) (.op (some 60) (.bin .lss (.tm 56) (.tm 59)) .nil)))))
def Zly : ACode := .cond (.tm 60) .skip (.exit 6)
def Zlx : ACode := .reg (.op (some 63) (.mov (.tm 3)) (.op (some 64) (.mov (.tm 7)) (.op (some 65) (.mov (.tm 8)) (.op (some 66) (.build [.i 0, .i 0] [(0, 1, (.tm 64)), (1, 1, (.tm 65))]) (.op (some 67) (.build [.i 0, .i 0, .i 0, .i 0, .i 0] [(0, 1, (.cn (.int .i64 3))), (2, 2, (.tm 66))]) (.op (some 68) (.mov (.tm 4)) (.op (some 69) (.build [.i 0, .i 0, .i 0, .i 0, .i 0, .i 0, .i 0] [(0, 5, (.tm 67)), (5, 1, (.tm 68)), (6, 1, (.cn (.int .i64 32)))]) (.op (some 70) (.bsliceR Zac 1 [(.tm 69)]) (.op (some 71) (.appendR Zac (.tm 63) (.tm 70)) (.op (some 3) (.mov (.tm 71)) .nil))))))))))
def ZiW : ACode := .reg (.op (some 72) (.mov (.tm 4)) (.op (some 73) (.bin .add (.tm 72) (.cn (.int .i64 32))) (.op (some 4) (.mov (.tm 73)) .nil)))
def ZiV : ACode := .block 7 (.seq Zlx ZiW)
def Zfc : ACode := .reg (.op (some 61) (.mov (.tm 8)) (.op (some 62) (.bin .add (.tm 61) (.cn (.int .i64 1))) (.op (some 8) (.mov (.tm 62)) .nil)))
def ZpJ : ACode := .loop (.seq (.seq Zlz Zly) (.seq ZiV Zfc))
def Zlw : ACode := .block 6 ZpJ
def ZiU : ACode := .block 5 (.seq ZlA Zlw)
def Zfb : ACode := .reg (.op (some 54) (.mov (.tm 7)) (.op (some 55) (.bin .add (.tm 54) (.cn (.int .i64 1))) (.op (some 7) (.mov (.tm 55)) .nil)))
def ZpI : ACode := .loop (.seq (.seq ZlC ZlB) (.seq ZiU Zfb))
def ZcH : ACode := .block 4 ZpI
def Zb8 : ACode := .reg (.op (some 74) (.mov (.tm 3)) (.op (some 2) (.mov (.tm 74)) .nil))
def Zyh : ACode := (.seq Zoz (.seq Zkt (.seq (.seq ZiX ZiT) (.seq (.seq Zfx ZeE) (.seq (.seq Zdo Zdn) (.seq (.seq ZcI ZcH) (.seq Zb8 .ret)))))))
def Zcp : Res := .one (.tm 2)
theorem ZpQ : ZbE Try.prog 100 1 75 Zyh Zcp = true := by kernel_rfl
def Zcq : Zbe := ZdX [Zkd, Zw9, Zz8] []
theorem ZbV : Zbg Try.prog Zcq := ZbH ⟨ZmQ, Zzb, ZBU, trivial⟩ trivial
section
variable {w0 : World} {fp : Nat -> Nat -> Prop} {ρi : Rho} {Kf : SVal -> Heap -> Prop}
abbrev Ya0 (x0 : List (Tup Zac)) : Heap := ⟨2, [(1, some ⟨true, [.rows Zac 0 x0], 0⟩)]⟩
theorem ZDl (p : PlanV) (h1 : List (Tup Zac)) (Z : Env -> Heap -> Prop) (h : Z [(2, some (.slice ⟨1, 0, 0, 7⟩ 0 0))] (Ya0 h1)) : EvC Zcq Zoy [(3, some (.slice ⟨1, 0, 0, 7⟩ 0 0))] (Ya0 h1) [2] [1] Z := EvC.of (by kernel_rfl) h
theorem Zzu (p : PlanV) (h1 : List (Tup Zac)) : RetC Zcp [(2, some (.slice ⟨1, 0, 0, 7⟩ 0 0))] (Ya0 h1) (.slice ⟨1, 0, 0, 7⟩ 0 0) := RetC.of (fun Z => by kernel_rfl)
def ZqG (p : PlanV) (h1 : List (Tup Zac)) : Prop := (0 = (List.length (PlanV.parts p))) /\ (0 = (List.length (PlanV.parts p))) /\ (h1 = (PlanV.parts p)) /\ (0 = ((0 - (List.length (PlanV.parts p))) * 7)) /\ (((List.length (PlanV.parts p)) : Nat) <= 0)
abbrev Ya1 (x0 : Nat) (x1 : List (Tup Zac)) (x2 : Nat) : Heap := ⟨2, [(1, some ⟨true, [.rows Zac x0 x1], x2⟩)]⟩
theorem ZGv (p : PlanV) (hK : Zbd p Kf) (h1 : List (Tup Zac)) (h : ZqG p h1) : SemL Try.prog w0 fp ρi 0 75 [Zoy, .ret, (.seq (.seq Zfx ZeE) (.seq (.seq Zdo Zdn) (.seq (.seq ZcI ZcH) (.seq Zb8 .ret))))] [(3, some (.slice ⟨1, 0, 0, 7⟩ 0 0))] (Ya0 h1) (fnK Zcp 0 Kf) :=
  Zae ZbV (ZDl p h1 _ (Za7 (R := Zcp) (m := 0) (Kf := Kf) (fun _ _ h => h) (Zzu p h1) (Eq.mpr (cg4 (fun (z1 z2 : Nat) (z3 : List (Tup Zac)) (z4 : Nat) => Ret 0 Kf (.slice ⟨1, 0, 0, 7⟩ z1 0) (Ya1 z2 z3 z4)) h.1 h.2.1 h.2.2.1 h.2.2.2.1) (Zir [(0, 1)] [0] rfl rfl (by kernel_rfl) bsl (hsc pcs Zah) (by kernel_rfl) rfl (hK 0 h.2.2.2.2)))))
def ZtV (w0 : World) (fp : Nat -> Nat -> Prop) (ρi : Rho) (Kf : SVal -> Heap -> Prop) (p : PlanV) : ZdV := Zch 0 (fun e H => SemL Try.prog w0 fp ρi 0 75 [(.seq (.seq Zdo Zdn) (.seq (.seq ZcI ZcH) (.seq Zb8 .ret)))] e H (fnK Zcp 0 Kf)) (fnK Zcp 0 Kf)
def ZtZ (p : PlanV) : Nat × Nat × Int × Int × Nat × List (Tup Zac) × Nat -> Prop := fun s => match s with | (av, az, v4, v5, aA, ao, x1) => p.right = true /\ 0 <= v5 /\ v5 <= p.all /\ v4 = v5 * 32 /\ ao = PlanV.partsD (Int.toNat v5) /\ Zeg (ao) av az aA x1
def ZtI (p : PlanV) : Nat × Nat × Int × Int × Nat × List (Tup Zac) × Nat -> Nat := fun s => match s with | (av, az, v4, v5, aA, ao, x1) => ((p.all - v5).toNat)
def ZtO (p : PlanV) : Nat × Nat × Int × Int × Nat × List (Tup Zac) × Nat -> Env := fun s => match s with | (av, az, v4, v5, aA, ao, x1) => [(1, some (.ptr ⟨0, 0, 0, 1⟩ 46)), (3, some (.slice ⟨1, 0, 0, 7⟩ av az)), (4, some (.int .i64 v4)), (5, some (.int .i64 v5))]
def ZtL (p : PlanV) : Nat × Nat × Int × Int × Nat × List (Tup Zac) × Nat -> Heap := fun s => match s with | (av, az, v4, v5, aA, ao, x1) => ⟨2, [(0, some ⟨true, (PlanV.cs p), 0⟩), (1, some ⟨true, [.rows Zac aA ao], x1⟩)]⟩
def Zht (w0 : World) (fp : Nat -> Nat -> Prop) (ρi : Rho) (Kf : SVal -> Heap -> Prop) (p : PlanV) (av az : Nat) (v4 v5 : Int) (aA : Nat) (ao : List (Tup Zac)) (x1 : Nat) : ZdV := ZiC 0 (ZtZ p) (ZtI p) (ZtO p) (ZtL p) (av, az, v4, v5, aA, ao, x1) (ZtV w0 fp ρi Kf p)
abbrev Ya2 (x0 : PlanV) (x1 : Nat) (x2 : List (Tup Zac)) (x3 : Nat) : Heap := ⟨4, [(0, some ⟨true, (PlanV.cs x0), 0⟩), (3, some ⟨true, [.rows Zac x1 x2], x3⟩)]⟩
abbrev Ya3 (x0 x1 : Nat) (x2 x3 : Int) : Env := [(1, some (.ptr ⟨0, 0, 0, 1⟩ 46)), (3, some (.slice ⟨3, 0, 0, 7⟩ x0 x1)), (4, some (.int .i64 x2)), (5, some (.int .i64 x3))]
theorem ZDk (p : PlanV) (ay c : Nat) (aJ v5 : Int) (h3 : List (Tup Zac)) (x3 av az : Nat) (v4 : Int) (aA : Nat) (ao : List (Tup Zac)) (x1 : Nat) (Z : Env -> Heap -> Prop) (h : Z [(1, some (.ptr ⟨0, 0, 0, 1⟩ 46)), (3, some (.slice ⟨3, 0, 0, 7⟩ ay c)), (4, some (.int .i64 aJ)), (5, some (.int .i64 (IntKind.i64.wrap (v5 + 1))))] (Ya2 p ay h3 x3)) : EvC Zcq Zfe (Ya3 ay c aJ v5) (Ya2 p ay h3 x3) [1, 3, 4, 5] [0, 3] Z := EvC.of (by kernel_rfl) h
def ZqF (p : PlanV) (ay c : Nat) (aJ v5 : Int) (h3 : List (Tup Zac)) (x3 av az : Nat) (v4 : Int) (aA : Nat) (ao : List (Tup Zac)) (x1 : Nat) : Prop := (p.right = true /\ 0 <= (IntKind.i64.wrap (v5 + 1)) /\ (IntKind.i64.wrap (v5 + 1)) <= p.all /\ aJ = (IntKind.i64.wrap (v5 + 1)) * 32 /\ h3 = PlanV.partsD (Int.toNat (IntKind.i64.wrap (v5 + 1))) /\ Zeg (h3) ay c ay x3) /\ (((p.all - (IntKind.i64.wrap (v5 + 1))).toNat) < ((p.all - v5).toNat))
theorem ZGu (p : PlanV) (hK : Zbd p Kf) (ay c : Nat) (aJ v5 : Int) (h3 : List (Tup Zac)) (x3 av az : Nat) (v4 : Int) (aA : Nat) (ao : List (Tup Zac)) (x1 : Nat) (h : ZqF p ay c aJ v5 h3 x3 av az v4 aA ao x1) : SemL Try.prog w0 fp ρi 0 75 [Zfe] (Ya3 ay c aJ v5) (Ya2 p ay h3 x3) (Zht w0 fp ρi Kf p av az v4 v5 aA ao x1) :=
  Zae ZbV (ZDk p ay c aJ v5 h3 x3 av az v4 aA ao x1 _ (ZdB (Zdb (x' := (ay, c, aJ, (IntKind.i64.wrap (v5 + 1)), ay, h3, x3)) (τ := tau [(1, 3)]) h.1 h.2 (ZbC [(1, 3)] [0, 1] rfl rfl (esc bpt (esc bsl (esc pbd (esc pbd Zba)))) (hsc pcs (hsc pcs Zah)) (by kernel_rfl) rfl))))
def ZtU (w0 : World) (fp : Nat -> Nat -> Prop) (ρi : Rho) (Kf : SVal -> Heap -> Prop) (p : PlanV) (av az : Nat) (v4 v5 : Int) (aA : Nat) (ao : List (Tup Zac)) (x1 : Nat) : ZdV := Zch 1 (fun e H => SemL Try.prog w0 fp ρi 0 75 [Zfe] e H (Zht w0 fp ρi Kf p av az v4 v5 aA ao x1)) (Zht w0 fp ρi Kf p av az v4 v5 aA ao x1)
theorem ZDj (p : PlanV) (ay c : Nat) (v4 v5 : Int) (h3 : List (Tup Zac)) (x3 av az aA : Nat) (ao : List (Tup Zac)) (x1 : Nat) (Z : Env -> Heap -> Prop) (h : Z [(1, some (.ptr ⟨0, 0, 0, 1⟩ 46)), (3, some (.slice ⟨3, 0, 0, 7⟩ ay c)), (4, some (.int .i64 (IntKind.i64.wrap (v4 + 32)))), (5, some (.int .i64 v5))] (Ya2 p ay h3 x3)) : EvC Zcq Zks (Ya3 ay c v4 v5) (Ya2 p ay h3 x3) [1, 3, 4, 5] [0, 3] Z := EvC.of (by kernel_rfl) h
def ZqE (p : PlanV) (ay c : Nat) (v4 v5 : Int) (h3 : List (Tup Zac)) (x3 av az aA : Nat) (ao : List (Tup Zac)) (x1 : Nat) : Prop := ∀ aJ : Int, aJ = ((v4 + 32) + 9223372036854775808) % 18446744073709551616 - 9223372036854775808 -> ZqF p ay c aJ v5 h3 x3 av az v4 aA ao x1
theorem ZGt (p : PlanV) (hK : Zbd p Kf) (ay c : Nat) (v4 v5 : Int) (h3 : List (Tup Zac)) (x3 av az aA : Nat) (ao : List (Tup Zac)) (x1 : Nat) (h : ZqE p ay c v4 v5 h3 x3 av az aA ao x1) : SemL Try.prog w0 fp ρi 0 75 [Zks] (Ya3 ay c v4 v5) (Ya2 p ay h3 x3) (ZtU w0 fp ρi Kf p av az v4 v5 aA ao x1) :=
  Zae ZbV (ZDj p ay c v4 v5 h3 x3 av az aA ao x1 _ (ZdB (ZGu p hK ay c (IntKind.i64.wrap (v4 + 32)) v5 h3 x3 av az v4 aA ao x1 (h (IntKind.i64.wrap (v4 + 32)) (ZgO _)))))
abbrev Ya4 (x0 x1 : Nat) (x2 x3 : Int) : Env := [(1, some (.ptr ⟨0, 0, 0, 1⟩ 46)), (3, some (.slice ⟨1, 0, 0, 7⟩ x0 x1)), (4, some (.int .i64 x2)), (5, some (.int .i64 x3))]
abbrev Ya5 (x0 : PlanV) (x1 : Nat) (x2 : List (Tup Zac)) (x3 : Nat) : Heap := ⟨2, [(0, some ⟨true, (PlanV.cs x0), 0⟩), (1, some ⟨true, [.rows Zac x1 x2], x3⟩)]⟩
theorem ZDi (p : PlanV) (av az : Nat) (v4 v5 : Int) (aA : Nat) (ao : List (Tup Zac)) (x1 : Nat) (Z : Env -> Heap -> Prop) (h : (((1 : Nat) = 1)) /\ ((List.length [((1, v5, 0, 0, 0, v4, 32) : Tup Zac)] = 1)) /\ ((aA = av)) /\ ((List.length ao = av)) /\ ((((av * 7) + x1) = (az * 7))) /\ (((av + 1) <= 1000000000)) /\ ∀ (c : Nat), (av + 1) <= c -> Z [(1, some (.ptr ⟨0, 0, 0, 1⟩ 46)), (3, some (.slice ⟨3, 0, 0, 7⟩ (av + 1) c)), (4, some (.int .i64 v4)), (5, some (.int .i64 v5))] ⟨4, [(0, some ⟨true, (PlanV.cs p), 0⟩), (3, some ⟨true, [.rows Zac (av + 1) (ao ++ [((1, v5, 0, 0, 0, v4, 32) : Tup Zac)])], ((c - (av + 1)) * 7)⟩)]⟩) : EvC Zcq Zov (Ya4 av az v4 v5) (Ya5 p aA ao x1) [1, 3, 4, 5] [0, 3] Z := EvC.of (by kernel_rfl) h
def ZmK (p : PlanV) (av az : Nat) (v4 v5 : Int) (aA : Nat) (ao : List (Tup Zac)) (x1 : Nat) : Prop := ((aA = av)) /\ (((List.length ao = av)) /\ (((((av * 7) + x1) = (az * 7))) /\ ((((av + 1) <= 1000000000)) /\ (∀ (c : Nat), ((av + 1) <= c) -> (∀ ay : Nat, ay = (av + 1) -> ∀ h3 : List (Tup Zac), h3 = (ao ++ [((1, v5, 0, 0, 0, v4, 32) : Tup Zac)]) -> ∀ x3 : Nat, x3 = ((c - (av + 1)) * 7) -> ZqE p ay c v4 v5 h3 x3 av az aA ao x1)))))
theorem ZGs (p : PlanV) (hK : Zbd p Kf) (av az : Nat) (v4 v5 : Int) (aA : Nat) (ao : List (Tup Zac)) (x1 : Nat) (h : ZmK p av az v4 v5 aA ao x1) : SemL Try.prog w0 fp ρi 0 75 [Zov, Zks] (Ya4 av az v4 v5) (Ya5 p aA ao x1) (ZtU w0 fp ρi Kf p av az v4 v5 aA ao x1) :=
  Zae ZbV (ZDi p av az v4 v5 aA ao x1 _ ⟨rfl, ⟨rfl, ⟨h.1, ⟨h.2.1, ⟨h.2.2.1, ⟨h.2.2.2.1, (fun c h_c_0 => (ZGt p hK (av + 1) c v4 v5 (ao ++ [((1, v5, 0, 0, 0, v4, 32) : Tup Zac)]) ((c - (av + 1)) * 7) av az aA ao x1 ((((h.2.2.2.2 c h_c_0) (av + 1) rfl) (ao ++ [((1, v5, 0, 0, 0, v4, 32) : Tup Zac)]) rfl) ((c - (av + 1)) * 7) rfl)))⟩⟩⟩⟩⟩⟩)
theorem ZGr (p : PlanV) (hK : Zbd p Kf) (av az : Nat) (v4 v5 : Int) (aA : Nat) (ao : List (Tup Zac)) (x1 : Nat) (h : ZmK p av az v4 v5 aA ao x1) : SemL Try.prog w0 fp ρi 0 75 [Zi0, Zfe] (Ya4 av az v4 v5) (Ya5 p aA ao x1) (Zht w0 fp ρi Kf p av az v4 v5 aA ao x1) :=
  ZbN (Zag (ZGs p hK av az v4 v5 aA ao x1 h))
def ZtT (w0 : World) (fp : Nat -> Nat -> Prop) (ρi : Rho) (Kf : SVal -> Heap -> Prop) (p : PlanV) : ZdV := Zch 2 (fun e H => SemL Try.prog w0 fp ρi 0 75 [(.seq (.seq ZcI ZcH) (.seq Zb8 .ret))] e H (fnK Zcp 0 Kf)) (fnK Zcp 0 Kf)
def ZtY (p : PlanV) : Nat × Nat × Int × Int × Nat × List (Tup Zac) × Nat -> Prop := fun s => match s with | (ad, ai, am, v6, aj, an, aq) => p.right = true /\ 0 <= v6 /\ v6 <= p.all /\ am = p.all * 32 + v6 * 8 /\ an = PlanV.partsD (Int.toNat p.all) ++ PlanV.partsT p (Int.toNat v6) /\ Zeg (an) ad ai aj aq
def ZtH (p : PlanV) : Nat × Nat × Int × Int × Nat × List (Tup Zac) × Nat -> Nat := fun s => match s with | (ad, ai, am, v6, aj, an, aq) => ((p.all - v6).toNat)
def ZtN (p : PlanV) : Nat × Nat × Int × Int × Nat × List (Tup Zac) × Nat -> Env := fun s => match s with | (ad, ai, am, v6, aj, an, aq) => [(1, some (.ptr ⟨0, 0, 0, 1⟩ 46)), (3, some (.slice ⟨1, 0, 0, 7⟩ ad ai)), (4, some (.int .i64 am)), (6, some (.int .i64 v6))]
def ZtK (p : PlanV) : Nat × Nat × Int × Int × Nat × List (Tup Zac) × Nat -> Heap := fun s => match s with | (ad, ai, am, v6, aj, an, aq) => ⟨2, [(0, some ⟨true, (PlanV.cs p), 0⟩), (1, some ⟨true, [.rows Zac aj an], aq⟩)]⟩
def Zhs (w0 : World) (fp : Nat -> Nat -> Prop) (ρi : Rho) (Kf : SVal -> Heap -> Prop) (p : PlanV) (ad ai : Nat) (am v6 : Int) (aj : Nat) (an : List (Tup Zac)) (aq : Nat) : ZdV := ZiC 0 (ZtY p) (ZtH p) (ZtN p) (ZtK p) (ad, ai, am, v6, aj, an, aq) (ZtT w0 fp ρi Kf p)
abbrev Ya6 (x0 x1 : Nat) (x2 x3 : Int) : Env := [(1, some (.ptr ⟨0, 0, 0, 1⟩ 46)), (3, some (.slice ⟨3, 0, 0, 7⟩ x0 x1)), (4, some (.int .i64 x2)), (6, some (.int .i64 x3))]
theorem ZDh (p : PlanV) (ax aG : Nat) (aI v6 : Int) (aC : List (Tup Zac)) (aE ad ai : Nat) (am : Int) (aj : Nat) (an : List (Tup Zac)) (aq : Nat) (Z : Env -> Heap -> Prop) (h : Z [(1, some (.ptr ⟨0, 0, 0, 1⟩ 46)), (3, some (.slice ⟨3, 0, 0, 7⟩ ax aG)), (4, some (.int .i64 aI)), (6, some (.int .i64 (IntKind.i64.wrap (v6 + 1))))] (Ya2 p ax aC aE)) : EvC Zcq Zfd (Ya6 ax aG aI v6) (Ya2 p ax aC aE) [1, 3, 4, 6] [0, 3] Z := EvC.of (by kernel_rfl) h
def ZqD (p : PlanV) (ax aG : Nat) (aI v6 : Int) (aC : List (Tup Zac)) (aE ad ai : Nat) (am : Int) (aj : Nat) (an : List (Tup Zac)) (aq : Nat) : Prop := (p.right = true /\ 0 <= (IntKind.i64.wrap (v6 + 1)) /\ (IntKind.i64.wrap (v6 + 1)) <= p.all /\ aI = p.all * 32 + (IntKind.i64.wrap (v6 + 1)) * 8 /\ aC = PlanV.partsD (Int.toNat p.all) ++ PlanV.partsT p (Int.toNat (IntKind.i64.wrap (v6 + 1))) /\ Zeg (aC) ax aG ax aE) /\ (((p.all - (IntKind.i64.wrap (v6 + 1))).toNat) < ((p.all - v6).toNat))
theorem ZGq (p : PlanV) (hK : Zbd p Kf) (ax aG : Nat) (aI v6 : Int) (aC : List (Tup Zac)) (aE ad ai : Nat) (am : Int) (aj : Nat) (an : List (Tup Zac)) (aq : Nat) (h : ZqD p ax aG aI v6 aC aE ad ai am aj an aq) : SemL Try.prog w0 fp ρi 0 75 [Zfd] (Ya6 ax aG aI v6) (Ya2 p ax aC aE) (Zhs w0 fp ρi Kf p ad ai am v6 aj an aq) :=
  Zae ZbV (ZDh p ax aG aI v6 aC aE ad ai am aj an aq _ (ZdB (Zdb (x' := (ax, aG, aI, (IntKind.i64.wrap (v6 + 1)), ax, aC, aE)) (τ := tau [(1, 3)]) h.1 h.2 (ZbC [(1, 3)] [0, 1] rfl rfl (esc bpt (esc bsl (esc pbd (esc pbd Zba)))) (hsc pcs (hsc pcs Zah)) (by kernel_rfl) rfl))))
def ZtS (w0 : World) (fp : Nat -> Nat -> Prop) (ρi : Rho) (Kf : SVal -> Heap -> Prop) (p : PlanV) (ad ai : Nat) (am v6 : Int) (aj : Nat) (an : List (Tup Zac)) (aq : Nat) : ZdV := Zch 3 (fun e H => SemL Try.prog w0 fp ρi 0 75 [Zfd] e H (Zhs w0 fp ρi Kf p ad ai am v6 aj an aq)) (Zhs w0 fp ρi Kf p ad ai am v6 aj an aq)
theorem ZDg (p : PlanV) (ax aG : Nat) (am v6 : Int) (aC : List (Tup Zac)) (aE ad ai aj : Nat) (an : List (Tup Zac)) (aq : Nat) (Z : Env -> Heap -> Prop) (h : Z [(1, some (.ptr ⟨0, 0, 0, 1⟩ 46)), (3, some (.slice ⟨3, 0, 0, 7⟩ ax aG)), (4, some (.int .i64 (IntKind.i64.wrap (am + 8)))), (6, some (.int .i64 v6))] (Ya2 p ax aC aE)) : EvC Zcq ZiZ (Ya6 ax aG am v6) (Ya2 p ax aC aE) [1, 3, 4, 6] [0, 3] Z := EvC.of (by kernel_rfl) h
def ZqC (p : PlanV) (ax aG : Nat) (am v6 : Int) (aC : List (Tup Zac)) (aE ad ai aj : Nat) (an : List (Tup Zac)) (aq : Nat) : Prop := ∀ aI : Int, aI = ((am + 8) + 9223372036854775808) % 18446744073709551616 - 9223372036854775808 -> ZqD p ax aG aI v6 aC aE ad ai am aj an aq
theorem ZGp (p : PlanV) (hK : Zbd p Kf) (ax aG : Nat) (am v6 : Int) (aC : List (Tup Zac)) (aE ad ai aj : Nat) (an : List (Tup Zac)) (aq : Nat) (h : ZqC p ax aG am v6 aC aE ad ai aj an aq) : SemL Try.prog w0 fp ρi 0 75 [ZiZ] (Ya6 ax aG am v6) (Ya2 p ax aC aE) (ZtS w0 fp ρi Kf p ad ai am v6 aj an aq) :=
  Zae ZbV (ZDg p ax aG am v6 aC aE ad ai aj an aq _ (ZdB (ZGq p hK ax aG (IntKind.i64.wrap (am + 8)) v6 aC aE ad ai am aj an aq (h (IntKind.i64.wrap (am + 8)) (ZgO _)))))
abbrev Ya7 (x0 x1 : Nat) (x2 x3 : Int) : Env := [(1, some (.ptr ⟨0, 0, 0, 1⟩ 46)), (3, some (.slice ⟨1, 0, 0, 7⟩ x0 x1)), (4, some (.int .i64 x2)), (6, some (.int .i64 x3))]
theorem ZDf (p : PlanV) (ad ai : Nat) (am v6 : Int) (aj : Nat) (an : List (Tup Zac)) (aq : Nat) (Z : Env -> Heap -> Prop) (h : (((1 : Nat) = 1)) /\ ((List.length [((2, v6, 0, 0, 0, am, 8) : Tup Zac)] = 1)) /\ ((aj = ad)) /\ ((List.length an = ad)) /\ ((((ad * 7) + aq) = (ai * 7))) /\ (((ad + 1) <= 1000000000)) /\ ∀ (aG : Nat), (ad + 1) <= aG -> Z [(1, some (.ptr ⟨0, 0, 0, 1⟩ 46)), (3, some (.slice ⟨3, 0, 0, 7⟩ (ad + 1) aG)), (4, some (.int .i64 am)), (6, some (.int .i64 v6))] ⟨4, [(0, some ⟨true, (PlanV.cs p), 0⟩), (3, some ⟨true, [.rows Zac (ad + 1) (an ++ [((2, v6, 0, 0, 0, am, 8) : Tup Zac)])], ((aG - (ad + 1)) * 7)⟩)]⟩) : EvC Zcq ZlD (Ya7 ad ai am v6) (Ya5 p aj an aq) [1, 3, 4, 6] [0, 3] Z := EvC.of (by kernel_rfl) h
def ZmJ (p : PlanV) (ad ai : Nat) (am v6 : Int) (aj : Nat) (an : List (Tup Zac)) (aq : Nat) : Prop := ((aj = ad)) /\ (((List.length an = ad)) /\ (((((ad * 7) + aq) = (ai * 7))) /\ ((((ad + 1) <= 1000000000)) /\ (∀ (aG : Nat), ((ad + 1) <= aG) -> (∀ ax : Nat, ax = (ad + 1) -> ∀ aC : List (Tup Zac), aC = (an ++ [((2, v6, 0, 0, 0, am, 8) : Tup Zac)]) -> ∀ aE : Nat, aE = ((aG - (ad + 1)) * 7) -> ZqC p ax aG am v6 aC aE ad ai aj an aq)))))
theorem ZGo (p : PlanV) (hK : Zbd p Kf) (ad ai : Nat) (am v6 : Int) (aj : Nat) (an : List (Tup Zac)) (aq : Nat) (h : ZmJ p ad ai am v6 aj an aq) : SemL Try.prog w0 fp ρi 0 75 [ZlD, ZiZ] (Ya7 ad ai am v6) (Ya5 p aj an aq) (ZtS w0 fp ρi Kf p ad ai am v6 aj an aq) :=
  Zae ZbV (ZDf p ad ai am v6 aj an aq _ ⟨rfl, ⟨rfl, ⟨h.1, ⟨h.2.1, ⟨h.2.2.1, ⟨h.2.2.2.1, (fun aG h_c_1_0 => (ZGp p hK (ad + 1) aG am v6 (an ++ [((2, v6, 0, 0, 0, am, 8) : Tup Zac)]) ((aG - (ad + 1)) * 7) ad ai aj an aq ((((h.2.2.2.2 aG h_c_1_0) (ad + 1) rfl) (an ++ [((2, v6, 0, 0, 0, am, 8) : Tup Zac)]) rfl) ((aG - (ad + 1)) * 7) rfl)))⟩⟩⟩⟩⟩⟩)
theorem ZGn (p : PlanV) (hK : Zbd p Kf) (ad ai : Nat) (am v6 : Int) (aj : Nat) (an : List (Tup Zac)) (aq : Nat) (h : ZmJ p ad ai am v6 aj an aq) : SemL Try.prog w0 fp ρi 0 75 [ZiY, Zfd] (Ya7 ad ai am v6) (Ya5 p aj an aq) (Zhs w0 fp ρi Kf p ad ai am v6 aj an aq) :=
  ZbN (Zag (ZGo p hK ad ai am v6 aj an aq h))
def ZtR (w0 : World) (fp : Nat -> Nat -> Prop) (ρi : Rho) (Kf : SVal -> Heap -> Prop) (p : PlanV) : ZdV := Zch 4 (fun e H => SemL Try.prog w0 fp ρi 0 75 [(.seq Zb8 .ret)] e H (fnK Zcp 0 Kf)) (fnK Zcp 0 Kf)
def ZtX (p : PlanV) : Nat × Nat × Int × Int × Nat × List (Tup Zac) × Nat -> Prop := fun s => match s with | (ab, aa, ah, v7, ac, ae, af) => p.right = true /\ 0 <= v7 /\ v7 <= p.levels /\ ah = p.itemsAt + p.ahead v7 * 32 /\ ae = PlanV.partsD (Int.toNat p.all) ++ PlanV.partsT p (Int.toNat p.all) ++ PlanV.partsL p (Int.toNat v7) /\ Zeg (ae) ab aa ac af
def ZtG (p : PlanV) : Nat × Nat × Int × Int × Nat × List (Tup Zac) × Nat -> Nat := fun s => match s with | (ab, aa, ah, v7, ac, ae, af) => ((p.levels - v7).toNat)
def ZtM (p : PlanV) : Nat × Nat × Int × Int × Nat × List (Tup Zac) × Nat -> Env := fun s => match s with | (ab, aa, ah, v7, ac, ae, af) => [(1, some (.ptr ⟨0, 0, 0, 1⟩ 46)), (3, some (.slice ⟨1, 0, 0, 7⟩ ab aa)), (4, some (.int .i64 ah)), (7, some (.int .i64 v7))]
def ZtJ (p : PlanV) : Nat × Nat × Int × Int × Nat × List (Tup Zac) × Nat -> Heap := fun s => match s with | (ab, aa, ah, v7, ac, ae, af) => ⟨2, [(0, some ⟨true, (PlanV.cs p), 0⟩), (1, some ⟨true, [.rows Zac ac ae], af⟩)]⟩
def Zhr (w0 : World) (fp : Nat -> Nat -> Prop) (ρi : Rho) (Kf : SVal -> Heap -> Prop) (p : PlanV) (ab aa : Nat) (ah v7 : Int) (ac : Nat) (ae : List (Tup Zac)) (af : Nat) : ZdV := ZiC 0 (ZtX p) (ZtG p) (ZtM p) (ZtJ p) (ab, aa, ah, v7, ac, ae, af) (ZtR w0 fp ρi Kf p)
def Zkg (w0 : World) (fp : Nat -> Nat -> Prop) (ρi : Rho) (Kf : SVal -> Heap -> Prop) (p : PlanV) (ab aa : Nat) (ah v7 : Int) (ac : Nat) (ae : List (Tup Zac)) (af : Nat) : ZdV := Zch 5 (fun e H => SemL Try.prog w0 fp ρi 0 75 [Zfb] e H (Zhr w0 fp ρi Kf p ab aa ah v7 ac ae af)) (Zhr w0 fp ρi Kf p ab aa ah v7 ac ae af)
def ZtQ (w0 : World) (fp : Nat -> Nat -> Prop) (ρi : Rho) (Kf : SVal -> Heap -> Prop) (p : PlanV) (ab aa : Nat) (ah v7 : Int) (ac : Nat) (ae : List (Tup Zac)) (af : Nat) : ZdV := Zch 6 (fun e H => SemL Try.prog w0 fp ρi 0 75 [] e H (Zkg w0 fp ρi Kf p ab aa ah v7 ac ae af)) (Zkg w0 fp ρi Kf p ab aa ah v7 ac ae af)
def Zpv (p : PlanV) (v7 : Int) (ab aa : Nat) (ah : Int) (ac : Nat) (ae : List (Tup Zac)) (af : Nat) : Nat × Nat × Int × Int × Nat × List (Tup Zac) × Nat -> Prop := fun s => match s with | (ag, ak, ap, v8, al, ar, au) => p.right = true /\ 0 <= v7 /\ v7 < p.levels /\ 0 <= v8 /\ v8 <= p.width v7 /\ ap = p.itemsAt + (p.ahead v7 + v8) * 32 /\ ar = PlanV.partsD (Int.toNat p.all) ++ PlanV.partsT p (Int.toNat p.all) ++ PlanV.partsL p (Int.toNat v7) ++ PlanV.partsI p (Int.toNat v7) (Int.toNat v8) /\ Zeg (ar) ag ak al au
def Zpr (p : PlanV) (v7 : Int) (ab aa : Nat) (ah : Int) (ac : Nat) (ae : List (Tup Zac)) (af : Nat) : Nat × Nat × Int × Int × Nat × List (Tup Zac) × Nat -> Nat := fun s => match s with | (ag, ak, ap, v8, al, ar, au) => ((p.width v7 - v8).toNat)
def Zpt (p : PlanV) (v7 : Int) (ab aa : Nat) (ah : Int) (ac : Nat) (ae : List (Tup Zac)) (af : Nat) : Nat × Nat × Int × Int × Nat × List (Tup Zac) × Nat -> Env := fun s => match s with | (ag, ak, ap, v8, al, ar, au) => [(1, some (.ptr ⟨0, 0, 0, 1⟩ 46)), (3, some (.slice ⟨1, 0, 0, 7⟩ ag ak)), (4, some (.int .i64 ap)), (7, some (.int .i64 v7)), (8, some (.int .i64 v8))]
def Zps (p : PlanV) (v7 : Int) (ab aa : Nat) (ah : Int) (ac : Nat) (ae : List (Tup Zac)) (af : Nat) : Nat × Nat × Int × Int × Nat × List (Tup Zac) × Nat -> Heap := fun s => match s with | (ag, ak, ap, v8, al, ar, au) => ⟨2, [(0, some ⟨true, (PlanV.cs p), 0⟩), (1, some ⟨true, [.rows Zac al ar], au⟩)]⟩
def ZfU (w0 : World) (fp : Nat -> Nat -> Prop) (ρi : Rho) (Kf : SVal -> Heap -> Prop) (p : PlanV) (v7 : Int) (ab aa : Nat) (ah : Int) (ac : Nat) (ae : List (Tup Zac)) (af ag ak : Nat) (ap v8 : Int) (al : Nat) (ar : List (Tup Zac)) (au : Nat) : ZdV := ZiC 0 (Zpv p v7 ab aa ah ac ae af) (Zpr p v7 ab aa ah ac ae af) (Zpt p v7 ab aa ah ac ae af) (Zps p v7 ab aa ah ac ae af) (ag, ak, ap, v8, al, ar, au) (ZtQ w0 fp ρi Kf p ab aa ah v7 ac ae af)
abbrev Ya8 (x0 x1 : Nat) (x2 x3 x4 : Int) : Env := [(1, some (.ptr ⟨0, 0, 0, 1⟩ 46)), (3, some (.slice ⟨3, 0, 0, 7⟩ x0 x1)), (4, some (.int .i64 x2)), (7, some (.int .i64 x3)), (8, some (.int .i64 x4))]
theorem ZDe (p : PlanV) (aw aF : Nat) (aH v7 v8 : Int) (aB : List (Tup Zac)) (aD ab aa : Nat) (ah : Int) (ac : Nat) (ae : List (Tup Zac)) (af ag ak : Nat) (ap : Int) (al : Nat) (ar : List (Tup Zac)) (au : Nat) (Z : Env -> Heap -> Prop) (h : Z [(1, some (.ptr ⟨0, 0, 0, 1⟩ 46)), (3, some (.slice ⟨3, 0, 0, 7⟩ aw aF)), (4, some (.int .i64 aH)), (7, some (.int .i64 v7)), (8, some (.int .i64 (IntKind.i64.wrap (v8 + 1))))] (Ya2 p aw aB aD)) : EvC Zcq Zfc (Ya8 aw aF aH v7 v8) (Ya2 p aw aB aD) [1, 3, 4, 7, 8] [0, 3] Z := EvC.of (by kernel_rfl) h
def ZqB (p : PlanV) (aw aF : Nat) (aH v7 v8 : Int) (aB : List (Tup Zac)) (aD ab aa : Nat) (ah : Int) (ac : Nat) (ae : List (Tup Zac)) (af ag ak : Nat) (ap : Int) (al : Nat) (ar : List (Tup Zac)) (au : Nat) : Prop := (p.right = true /\ 0 <= v7 /\ v7 < p.levels /\ 0 <= (IntKind.i64.wrap (v8 + 1)) /\ (IntKind.i64.wrap (v8 + 1)) <= p.width v7 /\ aH = p.itemsAt + (p.ahead v7 + (IntKind.i64.wrap (v8 + 1))) * 32 /\ aB = PlanV.partsD (Int.toNat p.all) ++ PlanV.partsT p (Int.toNat p.all) ++ PlanV.partsL p (Int.toNat v7) ++ PlanV.partsI p (Int.toNat v7) (Int.toNat (IntKind.i64.wrap (v8 + 1))) /\ Zeg (aB) aw aF aw aD) /\ (((p.width v7 - (IntKind.i64.wrap (v8 + 1))).toNat) < ((p.width v7 - v8).toNat))
theorem ZGm (p : PlanV) (hK : Zbd p Kf) (aw aF : Nat) (aH v7 v8 : Int) (aB : List (Tup Zac)) (aD ab aa : Nat) (ah : Int) (ac : Nat) (ae : List (Tup Zac)) (af ag ak : Nat) (ap : Int) (al : Nat) (ar : List (Tup Zac)) (au : Nat) (h : ZqB p aw aF aH v7 v8 aB aD ab aa ah ac ae af ag ak ap al ar au) : SemL Try.prog w0 fp ρi 0 75 [Zfc] (Ya8 aw aF aH v7 v8) (Ya2 p aw aB aD) (ZfU w0 fp ρi Kf p v7 ab aa ah ac ae af ag ak ap v8 al ar au) :=
  Zae ZbV (ZDe p aw aF aH v7 v8 aB aD ab aa ah ac ae af ag ak ap al ar au _ (ZdB (Zdb (x' := (aw, aF, aH, (IntKind.i64.wrap (v8 + 1)), aw, aB, aD)) (τ := tau [(1, 3)]) h.1 h.2 (ZbC [(1, 3)] [0, 1] rfl rfl (esc bpt (esc bsl (esc pbd (esc pbd (esc pbd Zba))))) (hsc pcs (hsc pcs Zah)) (by kernel_rfl) rfl))))
def Zpu (w0 : World) (fp : Nat -> Nat -> Prop) (ρi : Rho) (Kf : SVal -> Heap -> Prop) (p : PlanV) (ab aa : Nat) (ah v7 : Int) (ac : Nat) (ae : List (Tup Zac)) (af ag ak : Nat) (ap v8 : Int) (al : Nat) (ar : List (Tup Zac)) (au : Nat) : ZdV := Zch 7 (fun e H => SemL Try.prog w0 fp ρi 0 75 [Zfc] e H (ZfU w0 fp ρi Kf p v7 ab aa ah ac ae af ag ak ap v8 al ar au)) (ZfU w0 fp ρi Kf p v7 ab aa ah ac ae af ag ak ap v8 al ar au)
theorem Zzr (p : PlanV) (aw aF : Nat) (ap v7 v8 : Int) (aB : List (Tup Zac)) (aD ab aa : Nat) (ah : Int) (ac : Nat) (ae : List (Tup Zac)) (af ag ak al : Nat) (ar : List (Tup Zac)) (au : Nat) (Z : Env -> Heap -> Prop) (h : Z [(1, some (.ptr ⟨0, 0, 0, 1⟩ 46)), (3, some (.slice ⟨3, 0, 0, 7⟩ aw aF)), (4, some (.int .i64 (IntKind.i64.wrap (ap + 32)))), (7, some (.int .i64 v7)), (8, some (.int .i64 v8))] (Ya2 p aw aB aD)) : EvC Zcq ZiW (Ya8 aw aF ap v7 v8) (Ya2 p aw aB aD) [1, 3, 4, 7, 8] [0, 3] Z := EvC.of (by kernel_rfl) h
def ZmN (p : PlanV) (aw aF : Nat) (ap v7 v8 : Int) (aB : List (Tup Zac)) (aD ab aa : Nat) (ah : Int) (ac : Nat) (ae : List (Tup Zac)) (af ag ak al : Nat) (ar : List (Tup Zac)) (au : Nat) : Prop := ∀ aH : Int, aH = ((ap + 32) + 9223372036854775808) % 18446744073709551616 - 9223372036854775808 -> ZqB p aw aF aH v7 v8 aB aD ab aa ah ac ae af ag ak ap al ar au
theorem Zz4 (p : PlanV) (hK : Zbd p Kf) (aw aF : Nat) (ap v7 v8 : Int) (aB : List (Tup Zac)) (aD ab aa : Nat) (ah : Int) (ac : Nat) (ae : List (Tup Zac)) (af ag ak al : Nat) (ar : List (Tup Zac)) (au : Nat) (h : ZmN p aw aF ap v7 v8 aB aD ab aa ah ac ae af ag ak al ar au) : SemL Try.prog w0 fp ρi 0 75 [ZiW] (Ya8 aw aF ap v7 v8) (Ya2 p aw aB aD) (Zpu w0 fp ρi Kf p ab aa ah v7 ac ae af ag ak ap v8 al ar au) :=
  Zae ZbV (Zzr p aw aF ap v7 v8 aB aD ab aa ah ac ae af ag ak al ar au _ (ZdB (ZGm p hK aw aF (IntKind.i64.wrap (ap + 32)) v7 v8 aB aD ab aa ah ac ae af ag ak ap al ar au (h (IntKind.i64.wrap (ap + 32)) (ZgO _)))))
abbrev Ya9 (x0 x1 : Nat) (x2 x3 x4 : Int) : Env := [(1, some (.ptr ⟨0, 0, 0, 1⟩ 46)), (3, some (.slice ⟨1, 0, 0, 7⟩ x0 x1)), (4, some (.int .i64 x2)), (7, some (.int .i64 x3)), (8, some (.int .i64 x4))]
theorem Zzq (p : PlanV) (ag ak : Nat) (ap v7 v8 : Int) (al : Nat) (ar : List (Tup Zac)) (au ab aa : Nat) (ah : Int) (ac : Nat) (ae : List (Tup Zac)) (af : Nat) (Z : Env -> Heap -> Prop) (h : (((1 : Nat) = 1)) /\ ((List.length [((3, 0, v7, v8, 0, ap, 32) : Tup Zac)] = 1)) /\ ((al = ag)) /\ ((List.length ar = ag)) /\ ((((ag * 7) + au) = (ak * 7))) /\ (((ag + 1) <= 1000000000)) /\ ∀ (aF : Nat), (ag + 1) <= aF -> Z [(1, some (.ptr ⟨0, 0, 0, 1⟩ 46)), (3, some (.slice ⟨3, 0, 0, 7⟩ (ag + 1) aF)), (4, some (.int .i64 ap)), (7, some (.int .i64 v7)), (8, some (.int .i64 v8))] ⟨4, [(0, some ⟨true, (PlanV.cs p), 0⟩), (3, some ⟨true, [.rows Zac (ag + 1) (ar ++ [((3, 0, v7, v8, 0, ap, 32) : Tup Zac)])], ((aF - (ag + 1)) * 7)⟩)]⟩) : EvC Zcq Zlx (Ya9 ag ak ap v7 v8) (Ya5 p al ar au) [1, 3, 4, 7, 8] [0, 3] Z := EvC.of (by kernel_rfl) h
def Zj9 (p : PlanV) (ag ak : Nat) (ap v7 v8 : Int) (al : Nat) (ar : List (Tup Zac)) (au ab aa : Nat) (ah : Int) (ac : Nat) (ae : List (Tup Zac)) (af : Nat) : Prop := ((al = ag)) /\ (((List.length ar = ag)) /\ (((((ag * 7) + au) = (ak * 7))) /\ ((((ag + 1) <= 1000000000)) /\ (∀ (aF : Nat), ((ag + 1) <= aF) -> (∀ aw : Nat, aw = (ag + 1) -> ∀ aB : List (Tup Zac), aB = (ar ++ [((3, 0, v7, v8, 0, ap, 32) : Tup Zac)]) -> ∀ aD : Nat, aD = ((aF - (ag + 1)) * 7) -> ZmN p aw aF ap v7 v8 aB aD ab aa ah ac ae af ag ak al ar au)))))
theorem Zz3 (p : PlanV) (hK : Zbd p Kf) (ag ak : Nat) (ap v7 v8 : Int) (al : Nat) (ar : List (Tup Zac)) (au ab aa : Nat) (ah : Int) (ac : Nat) (ae : List (Tup Zac)) (af : Nat) (h : Zj9 p ag ak ap v7 v8 al ar au ab aa ah ac ae af) : SemL Try.prog w0 fp ρi 0 75 [Zlx, ZiW] (Ya9 ag ak ap v7 v8) (Ya5 p al ar au) (Zpu w0 fp ρi Kf p ab aa ah v7 ac ae af ag ak ap v8 al ar au) :=
  Zae ZbV (Zzq p ag ak ap v7 v8 al ar au ab aa ah ac ae af _ ⟨rfl, ⟨rfl, ⟨h.1, ⟨h.2.1, ⟨h.2.2.1, ⟨h.2.2.2.1, (fun aF h_c_2_0 => (Zz4 p hK (ag + 1) aF ap v7 v8 (ar ++ [((3, 0, v7, v8, 0, ap, 32) : Tup Zac)]) ((aF - (ag + 1)) * 7) ab aa ah ac ae af ag ak al ar au ((((h.2.2.2.2 aF h_c_2_0) (ag + 1) rfl) (ar ++ [((3, 0, v7, v8, 0, ap, 32) : Tup Zac)]) rfl) ((aF - (ag + 1)) * 7) rfl)))⟩⟩⟩⟩⟩⟩)
theorem Zz2 (p : PlanV) (hK : Zbd p Kf) (ag ak : Nat) (ap v7 v8 : Int) (al : Nat) (ar : List (Tup Zac)) (au ab aa : Nat) (ah : Int) (ac : Nat) (ae : List (Tup Zac)) (af : Nat) (h : Zj9 p ag ak ap v7 v8 al ar au ab aa ah ac ae af) : SemL Try.prog w0 fp ρi 0 75 [ZiV, Zfc] (Ya9 ag ak ap v7 v8) (Ya5 p al ar au) (ZfU w0 fp ρi Kf p v7 ab aa ah ac ae af ag ak ap v8 al ar au) :=
  ZbN (Zag (Zz3 p hK ag ak ap v7 v8 al ar au ab aa ah ac ae af h))
abbrev ZG0 (x0 x1 : Nat) (x2 x3 : Int) : Env := [(1, some (.ptr ⟨0, 0, 0, 1⟩ 46)), (3, some (.slice ⟨1, 0, 0, 7⟩ x0 x1)), (4, some (.int .i64 x2)), (7, some (.int .i64 x3))]
theorem Zzp (p : PlanV) (ag ak : Nat) (ap v7 : Int) (al : Nat) (ar : List (Tup Zac)) (au ab aa : Nat) (ah : Int) (ac : Nat) (ae : List (Tup Zac)) (af : Nat) (Z : Env -> Heap -> Prop) (h : Z [(1, some (.ptr ⟨0, 0, 0, 1⟩ 46)), (3, some (.slice ⟨1, 0, 0, 7⟩ ag ak)), (4, some (.int .i64 ap)), (7, some (.int .i64 (IntKind.i64.wrap (v7 + 1))))] (Ya5 p al ar au)) : EvC Zcq Zfb (ZG0 ag ak ap v7) (Ya5 p al ar au) [1, 3, 4, 7] [0, 1] Z := EvC.of (by kernel_rfl) h
def ZmM (p : PlanV) (ag ak : Nat) (ap v7 : Int) (al : Nat) (ar : List (Tup Zac)) (au ab aa : Nat) (ah : Int) (ac : Nat) (ae : List (Tup Zac)) (af : Nat) : Prop := (p.right = true /\ 0 <= (IntKind.i64.wrap (v7 + 1)) /\ (IntKind.i64.wrap (v7 + 1)) <= p.levels /\ ap = p.itemsAt + p.ahead (IntKind.i64.wrap (v7 + 1)) * 32 /\ ar = PlanV.partsD (Int.toNat p.all) ++ PlanV.partsT p (Int.toNat p.all) ++ PlanV.partsL p (Int.toNat (IntKind.i64.wrap (v7 + 1))) /\ Zeg (ar) ag ak al au) /\ (((p.levels - (IntKind.i64.wrap (v7 + 1))).toNat) < ((p.levels - v7).toNat))
theorem Zz1 (p : PlanV) (hK : Zbd p Kf) (ag ak : Nat) (ap v7 : Int) (al : Nat) (ar : List (Tup Zac)) (au ab aa : Nat) (ah : Int) (ac : Nat) (ae : List (Tup Zac)) (af : Nat) (h : ZmM p ag ak ap v7 al ar au ab aa ah ac ae af) : SemL Try.prog w0 fp ρi 0 75 [Zfb] (ZG0 ag ak ap v7) (Ya5 p al ar au) (Zhr w0 fp ρi Kf p ab aa ah v7 ac ae af) :=
  Zae ZbV (Zzp p ag ak ap v7 al ar au ab aa ah ac ae af _ (ZdB (Zdb (x' := (ag, ak, ap, (IntKind.i64.wrap (v7 + 1)), al, ar, au)) (τ := tau []) h.1 h.2 (ZbC [] [0, 1] rfl rfl (esc bpt (esc bsl (esc pbd (esc pbd Zba)))) (hsc pcs (hsc pcs Zah)) (by kernel_rfl) rfl))))
def Zj8 (p : PlanV) (ag ak : Nat) (ap v7 v8 : Int) (al : Nat) (ar : List (Tup Zac)) (au ab aa : Nat) (ah : Int) (ac : Nat) (ae : List (Tup Zac)) (af : Nat) : Prop := ((decide (v8 < (PlanV.width p v7))) = true -> (Zj9 p ag ak ap v7 v8 al ar au ab aa ah ac ae af)) /\ ((decide (v8 < (PlanV.width p v7))) = false -> (ZmM p ag ak ap v7 al ar au ab aa ah ac ae af))
abbrev ZR0 (x0 x1 : Nat) (x2 x3 x4 : Int) (x5 : PlanV) : Env := [(1, some (.ptr ⟨0, 0, 0, 1⟩ 46)), (3, some (.slice ⟨1, 0, 0, 7⟩ x0 x1)), (4, some (.int .i64 x2)), (7, some (.int .i64 x3)), (8, some (.int .i64 x4)), (60, some (.bool (decide (x4 < (PlanV.width x5 x3)))))]
theorem Zz0 (p : PlanV) (hK : Zbd p Kf) (ag ak : Nat) (ap v7 v8 : Int) (al : Nat) (ar : List (Tup Zac)) (au ab aa : Nat) (ah : Int) (ac : Nat) (ae : List (Tup Zac)) (af : Nat) (h : Zj8 p ag ak ap v7 v8 al ar au ab aa ah ac ae af) : SemL Try.prog w0 fp ρi 0 75 [Zly, (.seq ZiV Zfc)] (ZR0 ag ak ap v7 v8 p) (Ya5 p al ar au) (ZfU w0 fp ρi Kf p v7 ab aa ah ac ae af ag ak ap v8 al ar au) :=
  Za9 (q := (decide (v8 < (PlanV.width p v7)))) (by kernel_rfl) (fun hq => (Zbh (lpk [1, 3, 4, 7, 8] [0, 1] (Zag (Zz2 p hK ag ak ap v7 v8 al ar au ab aa ah ac ae af (h.1 hq)))))) (fun hq => (ZeQ (lpk [1, 3, 4, 7] [0, 1] (ZdB (Zz1 p hK ag ak ap v7 al ar au ab aa ah ac ae af (h.2 hq))))))
theorem Zzo (p : PlanV) (ag ak : Nat) (ap v7 v8 : Int) (al : Nat) (ar : List (Tup Zac)) (au ab aa : Nat) (ah : Int) (ac : Nat) (ae : List (Tup Zac)) (af : Nat) (Z : Env -> Heap -> Prop) (h : (True) /\ Z (ZR0 ag ak ap v7 v8 p) (Ya5 p al ar au)) : EvC Zcq Zlz (Ya9 ag ak ap v7 v8) (Ya5 p al ar au) [1, 3, 4, 7, 8, 60] [0, 1] Z := EvC.of (by kernel_rfl) h
theorem ZzZ (p : PlanV) (hK : Zbd p Kf) (ag ak : Nat) (ap v7 v8 : Int) (al : Nat) (ar : List (Tup Zac)) (au ab aa : Nat) (ah : Int) (ac : Nat) (ae : List (Tup Zac)) (af : Nat) (h : Zj8 p ag ak ap v7 v8 al ar au ab aa ah ac ae af) : SemL Try.prog w0 fp ρi 0 75 [Zlz, Zly, (.seq ZiV Zfc)] (Ya9 ag ak ap v7 v8) (Ya5 p al ar au) (ZfU w0 fp ρi Kf p v7 ab aa ah ac ae af ag ak ap v8 al ar au) :=
  Zae ZbV (Zzo p ag ak ap v7 v8 al ar au ab aa ah ac ae af _ ⟨True.intro, (Zz0 p hK ag ak ap v7 v8 al ar au ab aa ah ac ae af h)⟩)
def Zhi (p : PlanV) (ab aa : Nat) (ah v7 : Int) (ac : Nat) (ae : List (Tup Zac)) (af : Nat) : Prop := (p.right = true /\ 0 <= v7 /\ v7 < p.levels /\ 0 <= (0 : Int) /\ (0 : Int) <= p.width v7 /\ ah = p.itemsAt + (p.ahead v7 + (0 : Int)) * 32 /\ ae = PlanV.partsD (Int.toNat p.all) ++ PlanV.partsT p (Int.toNat p.all) ++ PlanV.partsL p (Int.toNat v7) ++ PlanV.partsI p (Int.toNat v7) (Int.toNat (0 : Int)) /\ Zeg (ae) ab aa ac af) /\ (∀ (ag ak : Nat) (ap v8 : Int) (al : Nat) (ar : List (Tup Zac)) (au : Nat), (p.right = true /\ 0 <= v7 /\ v7 < p.levels /\ 0 <= v8 /\ v8 <= p.width v7 /\ ap = p.itemsAt + (p.ahead v7 + v8) * 32 /\ ar = PlanV.partsD (Int.toNat p.all) ++ PlanV.partsT p (Int.toNat p.all) ++ PlanV.partsL p (Int.toNat v7) ++ PlanV.partsI p (Int.toNat v7) (Int.toNat v8) /\ Zeg (ar) ag ak al au) -> (Zj8 p ag ak ap v7 v8 al ar au ab aa ah ac ae af))
abbrev ZQb (x0 x1 : Nat) (x2 x3 : Int) : Env := [(1, some (.ptr ⟨0, 0, 0, 1⟩ 46)), (3, some (.slice ⟨1, 0, 0, 7⟩ x0 x1)), (4, some (.int .i64 x2)), (7, some (.int .i64 x3)), (8, some (.int .i64 0))]
theorem ZzY (p : PlanV) (hK : Zbd p Kf) (ab aa : Nat) (ah v7 : Int) (ac : Nat) (ae : List (Tup Zac)) (af : Nat) (h : Zhi p ab aa ah v7 ac ae af) : SemL Try.prog w0 fp ρi 0 75 [ZpJ] (ZQb ab aa ah v7) (Ya5 p ac ae af) (ZtQ w0 fp ρi Kf p ab aa ah v7 ac ae af) :=
  ZgJ (Zpv p v7 ab aa ah ac ae af) (Zpr p v7 ab aa ah ac ae af) (Zpt p v7 ab aa ah ac ae af) (Zps p v7 ab aa ah ac ae af) ⟨(ab, aa, ah, 0, ac, ae, af), tau [], h.1, (ZbC [] [0, 1] rfl rfl (esc bpt (esc bsl (esc pbd (esc pbd (esc pbd Zba))))) (hsc pcs (hsc pcs Zah)) (by kernel_rfl) rfl)⟩ (fun s => match s with | (ag, ak, ap, v8, al, ar, au) => fun hi => (Zag (Zag (ZzZ p hK ag ak ap v7 v8 al ar au ab aa ah ac ae af (h.2 ag ak ap v8 al ar au hi)))))
theorem ZzX (p : PlanV) (hK : Zbd p Kf) (ab aa : Nat) (ah v7 : Int) (ac : Nat) (ae : List (Tup Zac)) (af : Nat) (h : Zhi p ab aa ah v7 ac ae af) : SemL Try.prog w0 fp ρi 0 75 [Zlw] (ZQb ab aa ah v7) (Ya5 p ac ae af) (Zkg w0 fp ρi Kf p ab aa ah v7 ac ae af) :=
  ZbN (ZzY p hK ab aa ah v7 ac ae af h)
theorem Zzn (p : PlanV) (ab aa : Nat) (ah v7 : Int) (ac : Nat) (ae : List (Tup Zac)) (af : Nat) (Z : Env -> Heap -> Prop) (h : Z (ZQb ab aa ah v7) (Ya5 p ac ae af)) : EvC Zcq ZlA (ZG0 ab aa ah v7) (Ya5 p ac ae af) [1, 3, 4, 7, 8] [0, 1] Z := EvC.of (by kernel_rfl) h
theorem ZzW (p : PlanV) (hK : Zbd p Kf) (ab aa : Nat) (ah v7 : Int) (ac : Nat) (ae : List (Tup Zac)) (af : Nat) (h : Zhi p ab aa ah v7 ac ae af) : SemL Try.prog w0 fp ρi 0 75 [ZlA, Zlw] (ZG0 ab aa ah v7) (Ya5 p ac ae af) (Zkg w0 fp ρi Kf p ab aa ah v7 ac ae af) :=
  Zae ZbV (Zzn p ab aa ah v7 ac ae af _ (ZzX p hK ab aa ah v7 ac ae af h))
theorem ZzV (p : PlanV) (hK : Zbd p Kf) (ab aa : Nat) (ah v7 : Int) (ac : Nat) (ae : List (Tup Zac)) (af : Nat) (h : Zhi p ab aa ah v7 ac ae af) : SemL Try.prog w0 fp ρi 0 75 [ZiU, Zfb] (ZG0 ab aa ah v7) (Ya5 p ac ae af) (Zhr w0 fp ρi Kf p ab aa ah v7 ac ae af) :=
  ZbN (Zag (ZzW p hK ab aa ah v7 ac ae af h))
theorem Zzm (p : PlanV) (ab aa ac : Nat) (ae : List (Tup Zac)) (af : Nat) (Z : Env -> Heap -> Prop) (h : Z [(2, some (.slice ⟨1, 0, 0, 7⟩ ab aa))] (Ya1 ac ae af)) : EvC Zcq Zb8 [(3, some (.slice ⟨1, 0, 0, 7⟩ ab aa))] (Ya1 ac ae af) [2] [1] Z := EvC.of (by kernel_rfl) h
theorem Zzt (p : PlanV) (ab aa ac : Nat) (ae : List (Tup Zac)) (af : Nat) : RetC Zcp [(2, some (.slice ⟨1, 0, 0, 7⟩ ab aa))] (Ya1 ac ae af) (.slice ⟨1, 0, 0, 7⟩ ab aa) := RetC.of (fun Z => by kernel_rfl)
def ZmL (p : PlanV) (ab aa ac : Nat) (ae : List (Tup Zac)) (af : Nat) : Prop := (ab = (List.length (PlanV.parts p))) /\ (ac = (List.length (PlanV.parts p))) /\ (ae = (PlanV.parts p)) /\ (af = ((aa - (List.length (PlanV.parts p))) * 7)) /\ (((List.length (PlanV.parts p)) : Nat) <= aa)
theorem ZzU (p : PlanV) (hK : Zbd p Kf) (ab aa ac : Nat) (ae : List (Tup Zac)) (af : Nat) (h : ZmL p ab aa ac ae af) : SemL Try.prog w0 fp ρi 0 75 [Zb8, .ret] [(3, some (.slice ⟨1, 0, 0, 7⟩ ab aa))] (Ya1 ac ae af) (fnK Zcp 0 Kf) :=
  Zae ZbV (Zzm p ab aa ac ae af _ (Za7 (R := Zcp) (m := 0) (Kf := Kf) (fun _ _ h => h) (Zzt p ab aa ac ae af) (Eq.mpr (cg4 (fun (z1 z2 : Nat) (z3 : List (Tup Zac)) (z4 : Nat) => Ret 0 Kf (.slice ⟨1, 0, 0, 7⟩ z1 aa) (Ya1 z2 z3 z4)) h.1 h.2.1 h.2.2.1 h.2.2.2.1) (Zir [(0, 1)] [0] rfl rfl (by kernel_rfl) bsl (hsc pcs Zah) (by kernel_rfl) rfl (hK aa h.2.2.2.2)))))
def Zj7 (p : PlanV) (ab aa : Nat) (ah v7 : Int) (ac : Nat) (ae : List (Tup Zac)) (af : Nat) : Prop := ((decide (v7 < ((PlanV.levels p : Nat) : Int))) = true -> (Zhi p ab aa ah v7 ac ae af)) /\ ((decide (v7 < ((PlanV.levels p : Nat) : Int))) = false -> (ZmL p ab aa ac ae af))
abbrev ZRZ (x0 x1 : Nat) (x2 x3 : Int) (x4 : PlanV) : Env := [(1, some (.ptr ⟨0, 0, 0, 1⟩ 46)), (3, some (.slice ⟨1, 0, 0, 7⟩ x0 x1)), (4, some (.int .i64 x2)), (7, some (.int .i64 x3)), (53, some (.bool (decide (x3 < ((PlanV.levels x4 : Nat) : Int)))))]
theorem ZzT (p : PlanV) (hK : Zbd p Kf) (ab aa : Nat) (ah v7 : Int) (ac : Nat) (ae : List (Tup Zac)) (af : Nat) (h : Zj7 p ab aa ah v7 ac ae af) : SemL Try.prog w0 fp ρi 0 75 [ZlB, (.seq ZiU Zfb)] (ZRZ ab aa ah v7 p) (Ya5 p ac ae af) (Zhr w0 fp ρi Kf p ab aa ah v7 ac ae af) :=
  Za9 (q := (decide (v7 < ((PlanV.levels p : Nat) : Int)))) (by kernel_rfl) (fun hq => (Zbh (lpk [1, 3, 4, 7] [0, 1] (Zag (ZzV p hK ab aa ah v7 ac ae af (h.1 hq)))))) (fun hq => (ZeQ (lpk [3] [1] (Zag (ZzU p hK ab aa ac ae af (h.2 hq))))))
theorem Zzl (p : PlanV) (ab aa : Nat) (ah v7 : Int) (ac : Nat) (ae : List (Tup Zac)) (af : Nat) (Z : Env -> Heap -> Prop) (h : (True) /\ Z (ZRZ ab aa ah v7 p) (Ya5 p ac ae af)) : EvC Zcq ZlC (ZG0 ab aa ah v7) (Ya5 p ac ae af) [1, 3, 4, 7, 53] [0, 1] Z := EvC.of (by kernel_rfl) h
theorem ZzS (p : PlanV) (hK : Zbd p Kf) (ab aa : Nat) (ah v7 : Int) (ac : Nat) (ae : List (Tup Zac)) (af : Nat) (h : Zj7 p ab aa ah v7 ac ae af) : SemL Try.prog w0 fp ρi 0 75 [ZlC, ZlB, (.seq ZiU Zfb)] (ZG0 ab aa ah v7) (Ya5 p ac ae af) (Zhr w0 fp ρi Kf p ab aa ah v7 ac ae af) :=
  Zae ZbV (Zzl p ab aa ah v7 ac ae af _ ⟨True.intro, (ZzT p hK ab aa ah v7 ac ae af h)⟩)
def Zij (p : PlanV) (ad ai : Nat) (am : Int) (aj : Nat) (an : List (Tup Zac)) (aq : Nat) : Prop := (p.right = true /\ 0 <= (0 : Int) /\ (0 : Int) <= p.levels /\ am = p.itemsAt + p.ahead (0 : Int) * 32 /\ an = PlanV.partsD (Int.toNat p.all) ++ PlanV.partsT p (Int.toNat p.all) ++ PlanV.partsL p (Int.toNat (0 : Int)) /\ Zeg (an) ad ai aj aq) /\ (∀ (ab aa : Nat) (ah v7 : Int) (ac : Nat) (ae : List (Tup Zac)) (af : Nat), (p.right = true /\ 0 <= v7 /\ v7 <= p.levels /\ ah = p.itemsAt + p.ahead v7 * 32 /\ ae = PlanV.partsD (Int.toNat p.all) ++ PlanV.partsT p (Int.toNat p.all) ++ PlanV.partsL p (Int.toNat v7) /\ Zeg (ae) ab aa ac af) -> (Zj7 p ab aa ah v7 ac ae af))
abbrev ZQa (x0 x1 : Nat) (x2 : Int) : Env := [(1, some (.ptr ⟨0, 0, 0, 1⟩ 46)), (3, some (.slice ⟨1, 0, 0, 7⟩ x0 x1)), (4, some (.int .i64 x2)), (7, some (.int .i64 0))]
theorem ZzR (p : PlanV) (hK : Zbd p Kf) (ad ai : Nat) (am : Int) (aj : Nat) (an : List (Tup Zac)) (aq : Nat) (h : Zij p ad ai am aj an aq) : SemL Try.prog w0 fp ρi 0 75 [ZpI] (ZQa ad ai am) (Ya5 p aj an aq) (ZtR w0 fp ρi Kf p) :=
  ZgJ (ZtX p) (ZtG p) (ZtM p) (ZtJ p) ⟨(ad, ai, am, 0, aj, an, aq), tau [], h.1, (ZbC [] [0, 1] rfl rfl (esc bpt (esc bsl (esc pbd (esc pbd Zba)))) (hsc pcs (hsc pcs Zah)) (by kernel_rfl) rfl)⟩ (fun s => match s with | (ab, aa, ah, v7, ac, ae, af) => fun hi => (Zag (Zag (ZzS p hK ab aa ah v7 ac ae af (h.2 ab aa ah v7 ac ae af hi)))))
theorem ZzQ (p : PlanV) (hK : Zbd p Kf) (ad ai : Nat) (am : Int) (aj : Nat) (an : List (Tup Zac)) (aq : Nat) (h : Zij p ad ai am aj an aq) : SemL Try.prog w0 fp ρi 0 75 [ZcH, (.seq Zb8 .ret)] (ZQa ad ai am) (Ya5 p aj an aq) (fnK Zcp 0 Kf) :=
  ZbN (ZzR p hK ad ai am aj an aq h)
abbrev ZOG (x0 x1 : Nat) (x2 : Int) : Env := [(1, some (.ptr ⟨0, 0, 0, 1⟩ 46)), (3, some (.slice ⟨1, 0, 0, 7⟩ x0 x1)), (4, some (.int .i64 x2))]
theorem Zzk (p : PlanV) (ad ai : Nat) (am : Int) (aj : Nat) (an : List (Tup Zac)) (aq : Nat) (Z : Env -> Heap -> Prop) (h : Z (ZQa ad ai am) (Ya5 p aj an aq)) : EvC Zcq ZcI (ZOG ad ai am) (Ya5 p aj an aq) [1, 3, 4, 7] [0, 1] Z := EvC.of (by kernel_rfl) h
theorem ZzP (p : PlanV) (hK : Zbd p Kf) (ad ai : Nat) (am : Int) (aj : Nat) (an : List (Tup Zac)) (aq : Nat) (h : Zij p ad ai am aj an aq) : SemL Try.prog w0 fp ρi 0 75 [ZcI, ZcH, (.seq Zb8 .ret)] (ZOG ad ai am) (Ya5 p aj an aq) (fnK Zcp 0 Kf) :=
  Zae ZbV (Zzk p ad ai am aj an aq _ (ZzQ p hK ad ai am aj an aq h))
def Zj6 (p : PlanV) (ad ai : Nat) (am v6 : Int) (aj : Nat) (an : List (Tup Zac)) (aq : Nat) : Prop := ((decide (v6 < (IntKind.i64.wrap (p.pages * p.lines)))) = true -> (ZmJ p ad ai am v6 aj an aq)) /\ ((decide (v6 < (IntKind.i64.wrap (p.pages * p.lines)))) = false -> (Zij p ad ai am aj an aq))
abbrev ZRY (x0 x1 : Nat) (x2 x3 : Int) (x4 : PlanV) : Env := [(1, some (.ptr ⟨0, 0, 0, 1⟩ 46)), (3, some (.slice ⟨1, 0, 0, 7⟩ x0 x1)), (4, some (.int .i64 x2)), (6, some (.int .i64 x3)), (38, some (.bool (decide (x3 < (IntKind.i64.wrap (x4.pages * x4.lines))))))]
theorem ZzO (p : PlanV) (hK : Zbd p Kf) (ad ai : Nat) (am v6 : Int) (aj : Nat) (an : List (Tup Zac)) (aq : Nat) (h : Zj6 p ad ai am v6 aj an aq) : SemL Try.prog w0 fp ρi 0 75 [ZlE, (.seq ZiY Zfd)] (ZRY ad ai am v6 p) (Ya5 p aj an aq) (Zhs w0 fp ρi Kf p ad ai am v6 aj an aq) :=
  Za9 (q := (decide (v6 < (IntKind.i64.wrap (p.pages * p.lines))))) (by kernel_rfl) (fun hq => (Zbh (lpk [1, 3, 4, 6] [0, 1] (Zag (ZGn p hK ad ai am v6 aj an aq (h.1 hq)))))) (fun hq => (ZeQ (lpk [1, 3, 4] [0, 1] (Zag (Zag (ZzP p hK ad ai am aj an aq (h.2 hq)))))))
theorem Zzj (p : PlanV) (ad ai : Nat) (am v6 : Int) (aj : Nat) (an : List (Tup Zac)) (aq : Nat) (Z : Env -> Heap -> Prop) (h : Z (ZRY ad ai am v6 p) (Ya5 p aj an aq)) : EvC Zcq ZlF (Ya7 ad ai am v6) (Ya5 p aj an aq) [1, 3, 4, 6, 38] [0, 1] Z := EvC.of (by kernel_rfl) h
theorem ZzN (p : PlanV) (hK : Zbd p Kf) (ad ai : Nat) (am v6 : Int) (aj : Nat) (an : List (Tup Zac)) (aq : Nat) (h : Zj6 p ad ai am v6 aj an aq) : SemL Try.prog w0 fp ρi 0 75 [ZlF, ZlE, (.seq ZiY Zfd)] (Ya7 ad ai am v6) (Ya5 p aj an aq) (Zhs w0 fp ρi Kf p ad ai am v6 aj an aq) :=
  Zae ZbV (Zzj p ad ai am v6 aj an aq _ (ZzO p hK ad ai am v6 aj an aq h))
def Zii (p : PlanV) (av az : Nat) (v4 : Int) (aA : Nat) (ao : List (Tup Zac)) (x1 : Nat) : Prop := (p.right = true /\ 0 <= (0 : Int) /\ (0 : Int) <= p.all /\ v4 = p.all * 32 + (0 : Int) * 8 /\ ao = PlanV.partsD (Int.toNat p.all) ++ PlanV.partsT p (Int.toNat (0 : Int)) /\ Zeg (ao) av az aA x1) /\ (∀ (ad ai : Nat) (am v6 : Int) (aj : Nat) (an : List (Tup Zac)) (aq : Nat), (p.right = true /\ 0 <= v6 /\ v6 <= p.all /\ am = p.all * 32 + v6 * 8 /\ an = PlanV.partsD (Int.toNat p.all) ++ PlanV.partsT p (Int.toNat v6) /\ Zeg (an) ad ai aj aq) -> (Zj6 p ad ai am v6 aj an aq))
abbrev ZP9 (x0 x1 : Nat) (x2 : Int) : Env := [(1, some (.ptr ⟨0, 0, 0, 1⟩ 46)), (3, some (.slice ⟨1, 0, 0, 7⟩ x0 x1)), (4, some (.int .i64 x2)), (6, some (.int .i64 0))]
theorem ZzM (p : PlanV) (hK : Zbd p Kf) (av az : Nat) (v4 : Int) (aA : Nat) (ao : List (Tup Zac)) (x1 : Nat) (h : Zii p av az v4 aA ao x1) : SemL Try.prog w0 fp ρi 0 75 [ZpK] (ZP9 av az v4) (Ya5 p aA ao x1) (ZtT w0 fp ρi Kf p) :=
  ZgJ (ZtY p) (ZtH p) (ZtN p) (ZtK p) ⟨(av, az, v4, 0, aA, ao, x1), tau [], h.1, (ZbC [] [0, 1] rfl rfl (esc bpt (esc bsl (esc pbd (esc pbd Zba)))) (hsc pcs (hsc pcs Zah)) (by kernel_rfl) rfl)⟩ (fun s => match s with | (ad, ai, am, v6, aj, an, aq) => fun hi => (Zag (Zag (ZzN p hK ad ai am v6 aj an aq (h.2 ad ai am v6 aj an aq hi)))))
theorem ZzL (p : PlanV) (hK : Zbd p Kf) (av az : Nat) (v4 : Int) (aA : Nat) (ao : List (Tup Zac)) (x1 : Nat) (h : Zii p av az v4 aA ao x1) : SemL Try.prog w0 fp ρi 0 75 [Zdn, (.seq (.seq ZcI ZcH) (.seq Zb8 .ret))] (ZP9 av az v4) (Ya5 p aA ao x1) (fnK Zcp 0 Kf) :=
  ZbN (ZzM p hK av az v4 aA ao x1 h)
theorem Zzi (p : PlanV) (av az : Nat) (v4 : Int) (aA : Nat) (ao : List (Tup Zac)) (x1 : Nat) (Z : Env -> Heap -> Prop) (h : Z (ZP9 av az v4) (Ya5 p aA ao x1)) : EvC Zcq Zdo (ZOG av az v4) (Ya5 p aA ao x1) [1, 3, 4, 6] [0, 1] Z := EvC.of (by kernel_rfl) h
theorem ZzK (p : PlanV) (hK : Zbd p Kf) (av az : Nat) (v4 : Int) (aA : Nat) (ao : List (Tup Zac)) (x1 : Nat) (h : Zii p av az v4 aA ao x1) : SemL Try.prog w0 fp ρi 0 75 [Zdo, Zdn, (.seq (.seq ZcI ZcH) (.seq Zb8 .ret))] (ZOG av az v4) (Ya5 p aA ao x1) (fnK Zcp 0 Kf) :=
  Zae ZbV (Zzi p av az v4 aA ao x1 _ (ZzL p hK av az v4 aA ao x1 h))
def Zj5 (p : PlanV) (av az : Nat) (v4 v5 : Int) (aA : Nat) (ao : List (Tup Zac)) (x1 : Nat) : Prop := ((decide (v5 < (IntKind.i64.wrap (p.pages * p.lines)))) = true -> (ZmK p av az v4 v5 aA ao x1)) /\ ((decide (v5 < (IntKind.i64.wrap (p.pages * p.lines)))) = false -> (Zii p av az v4 aA ao x1))
abbrev ZRX (x0 x1 : Nat) (x2 x3 : Int) (x4 : PlanV) : Env := [(1, some (.ptr ⟨0, 0, 0, 1⟩ 46)), (3, some (.slice ⟨1, 0, 0, 7⟩ x0 x1)), (4, some (.int .i64 x2)), (5, some (.int .i64 x3)), (20, some (.bool (decide (x3 < (IntKind.i64.wrap (x4.pages * x4.lines))))))]
theorem ZzJ (p : PlanV) (hK : Zbd p Kf) (av az : Nat) (v4 v5 : Int) (aA : Nat) (ao : List (Tup Zac)) (x1 : Nat) (h : Zj5 p av az v4 v5 aA ao x1) : SemL Try.prog w0 fp ρi 0 75 [Zow, (.seq Zi0 Zfe)] (ZRX av az v4 v5 p) (Ya5 p aA ao x1) (Zht w0 fp ρi Kf p av az v4 v5 aA ao x1) :=
  Za9 (q := (decide (v5 < (IntKind.i64.wrap (p.pages * p.lines))))) (by kernel_rfl) (fun hq => (Zbh (lpk [1, 3, 4, 5] [0, 1] (Zag (ZGr p hK av az v4 v5 aA ao x1 (h.1 hq)))))) (fun hq => (ZeQ (lpk [1, 3, 4] [0, 1] (Zag (Zag (ZzK p hK av az v4 aA ao x1 (h.2 hq)))))))
theorem Zzh (p : PlanV) (av az : Nat) (v4 v5 : Int) (aA : Nat) (ao : List (Tup Zac)) (x1 : Nat) (Z : Env -> Heap -> Prop) (h : Z (ZRX av az v4 v5 p) (Ya5 p aA ao x1)) : EvC Zcq Zox (Ya4 av az v4 v5) (Ya5 p aA ao x1) [1, 3, 4, 5, 20] [0, 1] Z := EvC.of (by kernel_rfl) h
theorem ZzI (p : PlanV) (hK : Zbd p Kf) (av az : Nat) (v4 v5 : Int) (aA : Nat) (ao : List (Tup Zac)) (x1 : Nat) (h : Zj5 p av az v4 v5 aA ao x1) : SemL Try.prog w0 fp ρi 0 75 [Zox, Zow, (.seq Zi0 Zfe)] (Ya4 av az v4 v5) (Ya5 p aA ao x1) (Zht w0 fp ρi Kf p av az v4 v5 aA ao x1) :=
  Zae ZbV (Zzh p av az v4 v5 aA ao x1 _ (ZzJ p hK av az v4 v5 aA ao x1 h))
def Zih (p : PlanV) (h1 : List (Tup Zac)) : Prop := (p.right = true /\ 0 <= (0 : Int) /\ (0 : Int) <= p.all /\ (0 : Int) = (0 : Int) * 32 /\ h1 = PlanV.partsD (Int.toNat (0 : Int)) /\ Zeg (h1) (0 : Nat) (0 : Nat) (0 : Nat) (0 : Nat)) /\ (∀ (av az : Nat) (v4 v5 : Int) (aA : Nat) (ao : List (Tup Zac)) (x1 : Nat), (p.right = true /\ 0 <= v5 /\ v5 <= p.all /\ v4 = v5 * 32 /\ ao = PlanV.partsD (Int.toNat v5) /\ Zeg (ao) av az aA x1) -> (Zj5 p av az v4 v5 aA ao x1))
abbrev ZP8 : Env := [(1, some (.ptr ⟨0, 0, 0, 1⟩ 46)), (3, some (.slice ⟨1, 0, 0, 7⟩ 0 0)), (4, some (.int .i64 0)), (5, some (.int .i64 0))]
abbrev ZAV (x0 : PlanV) (x1 : List (Tup Zac)) : Heap := ⟨2, [(0, some ⟨true, (PlanV.cs x0), 0⟩), (1, some ⟨true, [.rows Zac 0 x1], 0⟩)]⟩
theorem ZzH (p : PlanV) (hK : Zbd p Kf) (h1 : List (Tup Zac)) (h : Zih p h1) : SemL Try.prog w0 fp ρi 0 75 [ZpL] ZP8 (ZAV p h1) (ZtV w0 fp ρi Kf p) :=
  ZgJ (ZtZ p) (ZtI p) (ZtO p) (ZtL p) ⟨(0, 0, 0, 0, 0, h1, 0), tau [], h.1, (ZbC [] [0, 1] rfl rfl (esc bpt (esc bsl (esc pbd (esc pbd Zba)))) (hsc pcs (hsc pcs Zah)) (by kernel_rfl) rfl)⟩ (fun s => match s with | (av, az, v4, v5, aA, ao, x1) => fun hi => (Zag (Zag (ZzI p hK av az v4 v5 aA ao x1 (h.2 av az v4 v5 aA ao x1 hi)))))
theorem ZzG (p : PlanV) (hK : Zbd p Kf) (h1 : List (Tup Zac)) (h : Zih p h1) : SemL Try.prog w0 fp ρi 0 75 [ZeE, (.seq (.seq Zdo Zdn) (.seq (.seq ZcI ZcH) (.seq Zb8 .ret)))] ZP8 (ZAV p h1) (fnK Zcp 0 Kf) :=
  ZbN (ZzH p hK h1 h)
abbrev ZOl : Env := [(1, some (.ptr ⟨0, 0, 0, 1⟩ 46)), (3, some (.slice ⟨1, 0, 0, 7⟩ 0 0)), (4, some (.int .i64 0))]
theorem Zzg (p : PlanV) (h1 : List (Tup Zac)) (Z : Env -> Heap -> Prop) (h : Z ZP8 (ZAV p h1)) : EvC Zcq Zfx ZOl (ZAV p h1) [1, 3, 4, 5] [0, 1] Z := EvC.of (by kernel_rfl) h
theorem ZzF (p : PlanV) (hK : Zbd p Kf) (h1 : List (Tup Zac)) (h : Zih p h1) : SemL Try.prog w0 fp ρi 0 75 [Zfx, ZeE, (.seq (.seq Zdo Zdn) (.seq (.seq ZcI ZcH) (.seq Zb8 .ret)))] ZOl (ZAV p h1) (fnK Zcp 0 Kf) :=
  Zae ZbV (Zzg p h1 _ (ZzG p hK h1 h))
def Zj4 (p : PlanV) (h1 : List (Tup Zac)) : Prop := ((!(PlanV.right p)) = true -> (ZqG p h1)) /\ ((!(PlanV.right p)) = false -> (Zih p h1))
abbrev ZRW (x0 : PlanV) : Env := [(1, some (.ptr ⟨0, 0, 0, 1⟩ 46)), (3, some (.slice ⟨1, 0, 0, 7⟩ 0 0)), (4, some (.int .i64 0)), (12, some (.bool (!(PlanV.right x0))))]
theorem ZzE (p : PlanV) (hK : Zbd p Kf) (h1 : List (Tup Zac)) (h : Zj4 p h1) : SemL Try.prog w0 fp ρi 0 75 [ZiT, (.seq (.seq Zfx ZeE) (.seq (.seq Zdo Zdn) (.seq (.seq ZcI ZcH) (.seq Zb8 .ret))))] (ZRW p) (ZAV p h1) (fnK Zcp 0 Kf) :=
  Za9 (q := (!(PlanV.right p))) (by kernel_rfl) (fun hq => (Zag (lpk [3] [1] (ZGv p hK h1 (h.1 hq))))) (fun hq => (Zbh (lpk [1, 3, 4] [0, 1] (Zag (Zag (ZzF p hK h1 (h.2 hq)))))))
theorem Zzf (p : PlanV) (h1 : List (Tup Zac)) (Z : Env -> Heap -> Prop) (h : (True) /\ Z (ZRW p) (ZAV p h1)) : EvC Zcq ZiX ZOl (ZAV p h1) [1, 3, 4, 12] [0, 1] Z := EvC.of (by kernel_rfl) h
theorem ZzD (p : PlanV) (hK : Zbd p Kf) (h1 : List (Tup Zac)) (h : Zj4 p h1) : SemL Try.prog w0 fp ρi 0 75 [ZiX, ZiT, (.seq (.seq Zfx ZeE) (.seq (.seq Zdo Zdn) (.seq (.seq ZcI ZcH) (.seq Zb8 .ret))))] ZOl (ZAV p h1) (fnK Zcp 0 Kf) :=
  Zae ZbV (Zzf p h1 _ ⟨True.intro, (ZzE p hK h1 h)⟩)
abbrev ZP7 : Env := [(1, some (.ptr ⟨0, 0, 0, 1⟩ 46))]
abbrev ZP6 (x0 : PlanV) : Heap := ⟨1, [(0, some ⟨true, (PlanV.cs x0), 0⟩)]⟩
theorem Zze (p : PlanV) (Z : Env -> Heap -> Prop) (h : Z ZOl ⟨2, [(0, some ⟨true, (PlanV.cs p), 0⟩), (1, some ⟨true, [.rows Zac 0 ([] : List (Tup Zac))], 0⟩)]⟩) : EvC Zcq Zkt ZP7 (ZP6 p) [1, 3, 4] [0, 1] Z := EvC.of (by kernel_rfl) h
def Zig (p : PlanV) : Prop := ∀ h1 : List (Tup Zac), h1 = ([] : List (Tup Zac)) -> Zj4 p h1
theorem ZzC (p : PlanV) (hK : Zbd p Kf) (h : Zig p) : SemL Try.prog w0 fp ρi 0 75 [Zkt, (.seq (.seq ZiX ZiT) (.seq (.seq Zfx ZeE) (.seq (.seq Zdo Zdn) (.seq (.seq ZcI ZcH) (.seq Zb8 .ret)))))] ZP7 (ZP6 p) (fnK Zcp 0 Kf) :=
  Zae ZbV (Zze p _ (Zag (Zag (ZzD p hK ([] : List (Tup Zac)) (h ([] : List (Tup Zac)) rfl)))))
theorem Zzd (p : PlanV) (Z : Env -> Heap -> Prop) (h : Z ZP7 (ZP6 p)) : EvC Zcq Zoz [(0, some (.agg (PlanV.cs p)))] ⟨0, []⟩ [1] [0] Z := EvC.of (by kernel_rfl) h
theorem ZzB (p : PlanV) (hK : Zbd p Kf) (h : Zig p) : SemL Try.prog w0 fp ρi 0 75 [Zoz, (.seq Zkt (.seq (.seq ZiX ZiT) (.seq (.seq Zfx ZeE) (.seq (.seq Zdo Zdn) (.seq (.seq ZcI ZcH) (.seq Zb8 .ret))))))] [(0, some (.agg (PlanV.cs p)))] ⟨0, []⟩ (fnK Zcp 0 Kf) :=
  Zae ZbV (Zzd p _ (Zag (ZzC p hK h)))
theorem ZBH (p : PlanV) (hK : Zbd p Kf) (h : Zig p) : SemL Try.prog w0 fp ρi 0 75 [Zyh] [(0, some (.agg (PlanV.cs p)))] ⟨0, []⟩ (fnK Zcp 0 Kf) :=
  (Zag (ZzB p hK h))
end
theorem ZAf (p : PlanV) (hpre : True) : Zig p := by
  unfold Zig Zj4 Zih Zj5 Zii Zj6 Zij Zj7 ZmL Zhi Zj8 ZmM Zj9 ZmN ZqB ZmJ ZqC ZqD ZmK ZqE ZqF ZqG
  rintro _ rfl
  refine ⟨fun h => ?_, fun h => ?_⟩
  · have h := Zge h
    have e : p.parts = [] := by unfold PlanV.parts; rw [if_neg (by rw [h]; decide)]
    rw [e]
    exact ⟨rfl, rfl, rfl, rfl, Nat.le_refl _⟩
  have hr := ZfQ h
  have hs := PlanV.right_shaped hr
  have ha := PlanV.all_le' hs
  have hlv := PlanV.levels_le p
  have hw : IntKind.i64.wrap (p.pages * p.lines) = p.all := by rw [<- ha.2.2, ZgO]; omega
  rw [hw]
  refine ⟨⟨hr, by omega, by omega, by omega, rfl, rfl, rfl, rfl⟩, ?_⟩
  rintro l c v4 v5 n L x ⟨-, h0, h1, rfl, rfl, hi⟩
  have hl := hi.2.1
  rw [PlanV.partsD_len] at hl
  refine ⟨fun hlt => ?_, fun hge => ?_⟩
  · have hlt := of_decide_eq_true hlt
    refine ⟨hi.1, hi.2.1.symm, hi.2.2, by omega, fun c' hc => ?_⟩
    rintro _ rfl _ rfl _ rfl _ rfl
    have e1 : IntKind.i64.wrap (v5 + 1) = v5 + 1 := by rw [ZgO]; omega
    have e2 : (v5 + 1).toNat = v5.toNat + 1 := by omega
    rw [e1, e2, PlanV.partsD_succ]
    refine ⟨⟨hr, by omega, by omega, by omega, ?_, ZhK _ hi hc⟩, by omega⟩
    unfold PlanV.partD
    rw [Int.toNat_of_nonneg h0]
  have hge := of_decide_eq_false hge
  obtain rfl : v5 = p.all := by omega
  refine ⟨⟨hr, by omega, by omega, by omega, (by simp [PlanV.partsT]), hi⟩, ?_⟩
  clear hi hl
  rintro l c v4 v6 n L x ⟨-, h0, h1, rfl, rfl, hi⟩
  have hl := hi.2.1
  rw [List.length_append, PlanV.partsD_len, PlanV.partsT_len] at hl
  refine ⟨fun hlt => ?_, fun hge => ?_⟩
  · have hlt := of_decide_eq_true hlt
    refine ⟨hi.1, hi.2.1.symm, hi.2.2, by omega, fun c' hc => ?_⟩
    rintro _ rfl _ rfl _ rfl _ rfl
    have e1 : IntKind.i64.wrap (v6 + 1) = v6 + 1 := by rw [ZgO]; omega
    have e2 : (v6 + 1).toNat = v6.toNat + 1 := by omega
    rw [e1, e2, PlanV.partsT_succ, <- List.append_assoc]
    refine ⟨⟨hr, by omega, by omega, by omega, ?_, ZhK _ hi hc⟩, by omega⟩
    unfold PlanV.partT
    rw [Int.toNat_of_nonneg h0]
  have hge := of_decide_eq_false hge
  obtain rfl : v6 = p.all := by omega
  have hit : p.itemsAt = p.all * 40 := rfl
  refine ⟨⟨hr, by omega, by omega, by rw [PlanV.ahead_zero]; omega, (by simp [PlanV.partsL]), hi⟩, ?_⟩
  clear hi hl
  rintro l c v4 v7 n L x ⟨-, h0, h1, rfl, rfl, hi⟩
  have hlL := PlanV.partsL_len p v7.toNat
  refine ⟨fun hlt => ?_, fun hge => ?_⟩
  · have hlt := of_decide_eq_true hlt
    have hwl := PlanV.width_le p v7
    have hal := PlanV.ahead_le p v7.toNat
    rw [Int.toNat_of_nonneg h0] at hal
    refine ⟨⟨hr, h0, hlt, by omega, by omega, by omega, (by simp [PlanV.partsI]), hi⟩, ?_⟩
    clear hi
    rintro l c v4 v8 n L x ⟨-, -, -, g0, g1, rfl, rfl, hi⟩
    have hl := hi.2.1
    rw [List.length_append, List.length_append, List.length_append, PlanV.partsD_len, PlanV.partsT_len, PlanV.partsI_len] at hl
    refine ⟨fun hlt2 => ?_, fun hge2 => ?_⟩
    · have hlt2 := of_decide_eq_true hlt2
      refine ⟨hi.1, hi.2.1.symm, hi.2.2, by omega, fun c' hc => ?_⟩
      rintro _ rfl _ rfl _ rfl _ rfl
      have e1 : IntKind.i64.wrap (v8 + 1) = v8 + 1 := by rw [ZgO]; omega
      have e2 : (v8 + 1).toNat = v8.toNat + 1 := by omega
      rw [e1, e2, PlanV.partsI_succ, <- List.append_assoc]
      refine ⟨⟨hr, h0, hlt, by omega, by omega, by omega, ?_, ZhK _ hi hc⟩, by omega⟩
      unfold PlanV.partI
      rw [Int.toNat_of_nonneg h0, Int.toNat_of_nonneg g0, show p.itemsAt + p.ahead v7 * 32 + v8 * 32 = p.itemsAt + (p.ahead v7 + v8) * 32 by omega]
    · have hge2 := of_decide_eq_false hge2
      obtain rfl : v8 = p.width v7 := by omega
      have e1 : IntKind.i64.wrap (v7 + 1) = v7 + 1 := by rw [ZgO]; omega
      have e2 : (v7 + 1).toNat = v7.toNat + 1 := by omega
      have e3 := PlanV.ahead_succ p v7.toNat
      rw [Int.toNat_of_nonneg h0] at e3
      rw [e1, e2, PlanV.partsL_succ, <- List.append_assoc, e3, Int.toNat_of_nonneg h0]
      exact ⟨⟨hr, by omega, by omega, rfl, rfl, hi⟩, by omega⟩
  · have hge := of_decide_eq_false hge
    have e : v7.toNat = p.levels := by omega
    rw [e] at hi
    have ep : PlanV.parts p = PlanV.partsD p.all.toNat ++ p.partsT p.all.toNat ++ p.partsL p.levels := by unfold PlanV.parts; rw [if_pos hr]
    rw [e, <- ep]
    rw [<- ep] at hi
    obtain ⟨h1, h2, h3⟩ := hi
    exact ⟨by omega, by omega, rfl, by omega, by omega⟩
theorem sqParts : Sound Try.prog 100 (dS ZsN) := by
  refine Zbq ZpQ ?_
  rintro args H K ⟨ds, rfl, rfl, h⟩
  split at h
  · rename_i pre rs ws hD
    obtain ⟨hpre, hK⟩ := h
    unfold ZsN at hD
    split at hD
    · obtain ⟨hb, hD⟩ := ZaM hD
      simp only [Bool.and_eq_true] at hb
      obtain ⟨h0, h1⟩ := hb
      obtain rfl := Nat.eq_of_beq_eq_true h0
      obtain rfl := Nat.eq_of_beq_eq_true h1
      cases hD
      exact ⟨rfl, fun w0 fp ρi => ZBH (PlanV.mk _ _ _ _ _ _ _ _ _ _ _ _ _ _ _ _) hK (ZAf (PlanV.mk _ _ _ _ _ _ _ _ _ _ _ _ _ _ _ _) hpre)⟩
    · cases hD
  · exact h.elim
end Go.Proofs.Ytinjdimejijabaa
