/- Part of the proof: SxRegN2. -/
import Derived.Test.YtinjdimejijabaaSxRegR
import Derived.Test.YtinjdimejijabaaSxRegV
import Derived.Test.YtinjdimejijabaaSxRegion4
import Derived.KernelRfl
set_option linter.unusedVariables false
set_option linter.unusedSimpArgs false
set_option maxRecDepth 20000
namespace Go.Proofs.Ytinjdimejijabaa
open Go.Sx
def Zsu : Zez := fun args => match args with
  | [.agg [.one (.int .i64 p_0), .one (.int .i64 p_1), .one (.int .i64 p_2), .one (.int .i64 p_3), .one (.int .i64 p_4), .one (.int .i64 p_5), .one (.int .u64 p_6), .one (.int .i64 p_7), .one (.int .i64 p_8), .one (.int .i64 p_9), .one (.int .i64 p_10), .one (.int .i64 p_11), .one (.int .i64 p_12), .one (.int .i64 p_13), .ints .u8 p_14_n p_14, .ints .u8 p_15_n p_15], .int .i64 at_] => bif Nat.beq p_14_n 16 && Nat.beq p_15_n 16 then some ((I64 at_), .tuple [.agg (PlaceV.cs (PlanV.placeOf (PlanV.mk p_0 p_1 p_2 p_3 p_4 p_5 p_6 p_7 p_8 p_9 p_10 p_11 p_12 p_13 p_14 p_15) at_)), .bool (PlanV.placeB (PlanV.mk p_0 p_1 p_2 p_3 p_4 p_5 p_6 p_7 p_8 p_9 p_10 p_11 p_12 p_13 p_14 p_15) at_)]) else none
  | _ => none
def ZAq : PCon := ⟨88, Zsu⟩
def ZqZ : ACode := .reg (.op (some 2) (.box (.tm 0)) (.op (some 4) (.alloc [.one (.int .i64 0), .one (.int .i64 0), .one (.int .i64 0), .one (.int .i64 0), .one (.int .i64 0)]) (.op (some 5) (.mov (.cn (.bool false))) .nil)))
def Zmy : ACode := .reg (.op (some 9) (.loadA 46 (.tm 2)) (.op (some 10) (.call 100 [(.tm 9)]) (.op (some 6) (.mov (.tm 10)) .nil)))
def Zkd : ACode := .reg (.op (some 7) (.mov (.cn (.int .i64 0))) .nil)
def ZqY : ACode := .reg (.op (some 11) (.mov (.tm 7)) (.op (some 12) (.mov (.tm 6)) (.op (some 13) (.len (.tm 12)) (.op (some 14) (.bin .lss (.tm 11) (.tm 13)) .nil))))
def ZqX : ACode := .cond (.tm 14) .skip (.exit 0)
def Zmx : Items := .op (some 17) (.mov (.tm 1)) (.op (some 18) (.mov (.tm 6)) (.op (some 19) (.mov (.tm 7)) (.op (some 20) (.idxS (.tm 18) (.tm 19) 7) (.op (some 21) (.fieldAddr (.tm 20) 5 1) (.op (some 22) (.load1 (.tm 21)) (.op (some 23) (.bin .geq (.tm 17) (.tm 22)) (.op (some 24) (.mov (.tm 23)) (.grpJ 24 true (.op (some 25) (.mov (.tm 1)) (.op (some 26) (.mov (.tm 6)) (.op (some 27) (.mov (.tm 7)) (.op (some 28) (.idxS (.tm 26) (.tm 27) 7) (.op (some 29) (.fieldAddr (.tm 28) 5 1) (.op (some 30) (.load1 (.tm 29)) (.op (some 31) (.mov (.tm 6)) (.op (some 32) (.mov (.tm 7)) (.op (some 33) (.idxS (.tm 31) (.tm 32) 7) (.op (some 34) (.fieldAddr (.tm 33) 6 1) (.op (some 35) (.load1 (.tm 34)) (.op (some 36) (.bin .add (.tm 30) (.tm 35)) (.op (some 37) (.bin .lss (.tm 25) (.tm 36)) .nil))))))))))))) 38 (.tm 37) (.cn (.bool false)) .nil))))))))
def Zys : ACode := .regQ Zmx
def ZqW : ACode := .reg (.op (some 39) (.mov (.tm 6)) (.op (some 40) (.mov (.tm 7)) (.op (some 41) (.idxS (.tm 39) (.tm 40) 7) (.op (some 42) (.fieldAddr (.tm 41) 0 5) (.op (some 43) (.loadA 5 (.tm 42)) (.op (some 8) (.alloc [.one (.int .i64 0), .one (.int .i64 0), .one (.int .i64 0), .one (.int .i64 0), .one (.int .i64 0)]) (.op none (.storeA 5 (.tm 8) (.tm 43)) .nil)))))))
def Zmw : ACode := .reg (.op (some 44) (.mov (.tm 1)) (.op (some 45) (.mov (.tm 6)) (.op (some 46) (.mov (.tm 7)) (.op (some 47) (.idxS (.tm 45) (.tm 46) 7) (.op (some 48) (.fieldAddr (.tm 47) 5 1) (.op (some 49) (.load1 (.tm 48)) (.op (some 50) (.bin .sub (.tm 44) (.tm 49)) (.op (some 51) (.fieldAddr (.tm 8) 4 1) (.op none (.store1 (.tm 51) (.tm 50)) .nil)))))))))
def Zkc : ACode := .reg (.op (some 52) (.loadA 5 (.tm 8)) (.op none (.storeA 5 (.tm 4) (.tm 52)) (.op (some 5) (.mov (.cn (.bool true))) .nil)))
def ZqV : ACode := .cond (.tm 38) (.seq ZqW (.seq Zmw (.seq Zkc .ret))) .skip
def Zjx : ACode := .block 1 (.seq Zys ZqV)
def Zf1 : ACode := .reg (.op (some 15) (.mov (.tm 7)) (.op (some 16) (.bin .add (.tm 15) (.cn (.int .i64 1))) (.op (some 7) (.mov (.tm 16)) .nil)))
def Ztk : ACode := .loop (.seq (.seq ZqY ZqX) (.seq Zjx Zf1))
def Zid : ACode := .block 0 Ztk
def Ze6 : ACode := .reg (.op (some 53) (.build [.one (.int .i64 0), .one (.int .i64 0), .one (.int .i64 0), .one (.int .i64 0), .one (.int .i64 0)] []) (.op none (.storeA 5 (.tm 4) (.tm 53)) (.op (some 5) (.mov (.cn (.bool false))) .nil)))
def ZyB : ACode := (.seq ZqZ (.seq Zmy (.seq (.seq Zkd Zid) (.seq Ze6 .ret))))
def Zd3 : Res := .many [.cA 4 5, .tm 5]
theorem ZoG : ZbD Try.prog 88 2 54 ZyB Zd3 = true := by kernel_rfl
def ZeU : Za8 := ZdW [] [ZyI]
theorem Zd5 : Za9 Try.prog ZeU := ZbI trivial ⟨sqParts.dC, trivial⟩
section
variable {w0 : World} {fp : Nat -> Nat -> Prop} {ρi : Rho} {Kf : SVal -> Heap -> Prop}
def Zx0 (w0 : World) (fp : Nat -> Nat -> Prop) (ρi : Rho) (Kf : SVal -> Heap -> Prop) (p : PlanV) (at_ : Int) : Zek := ZcF 0 (fun e H => SemL Try.prog w0 fp ρi 0 54 [(.seq Ze6 .ret)] e H (fnK Zd3 0 Kf)) (fnK Zd3 0 Kf)
def Zx5 (p : PlanV) (at_ : Int) (v6l c : Nat) (h2 : List (Tup Zab)) (x2 : Nat) : Int -> Prop := fun s => match s with | v7 => 0 <= v7 /\ v7 <= (v6l : Int) /\ PlanV.placeIn (List.take (Int.toNat v7) h2) at_ = none
def ZxO (p : PlanV) (at_ : Int) (v6l c : Nat) (h2 : List (Tup Zab)) (x2 : Nat) : Int -> Nat := fun s => match s with | v7 => (((v6l : Int) - v7).toNat)
def ZxW (p : PlanV) (at_ : Int) (v6l c : Nat) (h2 : List (Tup Zab)) (x2 : Nat) : Int -> Env := fun s => match s with | v7 => [(1, some (.int .i64 at_)), (4, some (.ptr ⟨1, 0, 0, 1⟩ 5)), (6, some (.slice ⟨2, 0, 0, 7⟩ v6l c)), (7, some (.int .i64 v7))]
def ZxS (p : PlanV) (at_ : Int) (v6l c : Nat) (h2 : List (Tup Zab)) (x2 : Nat) : Int -> Heap := fun s => match s with | v7 => ⟨3, [(1, some ⟨true, [.one (.int .i64 0), .one (.int .i64 0), .one (.int .i64 0), .one (.int .i64 0), .one (.int .i64 0)], 0⟩), (2, some ⟨true, [.rows Zab v6l h2], x2⟩)]⟩
def ZiI (w0 : World) (fp : Nat -> Nat -> Prop) (ρi : Rho) (Kf : SVal -> Heap -> Prop) (p : PlanV) (at_ : Int) (v6l c : Nat) (h2 : List (Tup Zab)) (x2 : Nat) (v7 : Int) : Zek := ZjY 0 (Zx5 p at_ v6l c h2 x2) (ZxO p at_ v6l c h2 x2) (ZxW p at_ v6l c h2 x2) (ZxS p at_ v6l c h2 x2) v7 (Zx0 w0 fp ρi Kf p at_)
def Zj0 (w0 : World) (fp : Nat -> Nat -> Prop) (ρi : Rho) (Kf : SVal -> Heap -> Prop) (p : PlanV) (at_ : Int) (v6l c : Nat) (h2 : List (Tup Zab)) (x2 : Nat) (v7 : Int) : Zek := ZcF 1 (fun e H => SemL Try.prog w0 fp ρi 0 54 [Zf1] e H (ZiI w0 fp ρi Kf p at_ v6l c h2 x2 v7)) (ZiI w0 fp ρi Kf p at_ v6l c h2 x2 v7)
abbrev Yc0 : Env := [(4, some (.ptr ⟨1, 0, 0, 1⟩ 5)), (5, some (.bool true))]
abbrev Yc1 (x0 x1 x2 x3 x4 : Int) : Heap := ⟨4, [(1, some ⟨true, [.one (.int .i64 x0), .one (.int .i64 x1), .one (.int .i64 x2), .one (.int .i64 x3), .one (.int .i64 x4)], 0⟩)]⟩
abbrev Yc2 : Env := [(4, some (.ptr ⟨1, 0, 0, 1⟩ 5)), (8, some (.ptr ⟨3, 0, 0, 1⟩ 5))]
abbrev Yc3 (x0 x1 x2 x3 x4 : Int) : Heap := ⟨4, [(1, some ⟨true, [.one (.int .i64 0), .one (.int .i64 0), .one (.int .i64 0), .one (.int .i64 0), .one (.int .i64 0)], 0⟩), (3, some ⟨true, [.one (.int .i64 x0), .one (.int .i64 x1), .one (.int .i64 x2), .one (.int .i64 x3), .one (.int .i64 x4)], 0⟩)]⟩
theorem ZG5 (p : PlanV) (at_ h3_0 h3_1 h3_2 h3_3 h3_4'1 : Int) (v6l c : Nat) (h2 : List (Tup Zab)) (x2 : Nat) (v7 : Int) (Z : Env -> Heap -> Prop) (h : Z Yc0 (Yc1 h3_0 h3_1 h3_2 h3_3 h3_4'1)) : EvC ZeU Zkc Yc2 (Yc3 h3_0 h3_1 h3_2 h3_3 h3_4'1) [4, 5] [1] Z := EvC.of (by kernel_rfl) h
theorem ZDm (p : PlanV) (at_ h3_0 h3_1 h3_2 h3_3 h3_4'1 : Int) : RetC Zd3 Yc0 (Yc1 h3_0 h3_1 h3_2 h3_3 h3_4'1) (.tuple [.agg [.one (.int .i64 h3_0), .one (.int .i64 h3_1), .one (.int .i64 h3_2), .one (.int .i64 h3_3), .one (.int .i64 h3_4'1)], .bool true]) := RetC.of (fun Z => by kernel_rfl)
def Zuv (p : PlanV) (at_ h3_0 h3_1 h3_2 h3_3 h3_4'1 : Int) (v6l c : Nat) (h2 : List (Tup Zab)) (x2 : Nat) (v7 : Int) : Prop := (h3_0 = (PlanV.placeOf p at_).pkind) /\ (h3_1 = (PlanV.placeOf p at_).pline) /\ (h3_2 = (PlanV.placeOf p at_).plevel) /\ (h3_3 = (PlanV.placeOf p at_).pindex) /\ (h3_4'1 = (PlanV.placeOf p at_).poff) /\ (true = (PlanV.placeB p at_))
abbrev Yc4 : Heap := ⟨0, []⟩
abbrev Yc5 (x0 : SVal -> Heap -> Prop) (x1 : PlanV) (x2 : Int) : Prop := x0 (.tuple [.agg (PlaceV.cs (PlanV.placeOf x1 x2)), .bool (PlanV.placeB x1 x2)]) ⟨0, []⟩
theorem ZJD (p : PlanV) (at_ : Int) (hK : (Yc5 Kf p at_)) (h3_0 h3_1 h3_2 h3_3 h3_4'1 : Int) (v6l c : Nat) (h2 : List (Tup Zab)) (x2 : Nat) (v7 : Int) (h : Zuv p at_ h3_0 h3_1 h3_2 h3_3 h3_4'1 v6l c h2 x2 v7) : SemL Try.prog w0 fp ρi 0 54 [Zkc, .ret] Yc2 (Yc3 h3_0 h3_1 h3_2 h3_3 h3_4'1) (Zj0 w0 fp ρi Kf p at_ v6l c h2 x2 v7) :=
  Zae Zd5 (ZG5 p at_ h3_0 h3_1 h3_2 h3_3 h3_4'1 v6l c h2 x2 v7 _ (Zba (R := Zd3) (m := 0) (Kf := Kf) (fun _ _ h => h) (ZDm p at_ h3_0 h3_1 h3_2 h3_3 h3_4'1) (Za3 rfl (by kernel_rfl) (cg6 (fun (z1 z2 z3 z4 z5 : Int) (z6 : Bool) => (.tuple [.agg [.one (.int .i64 z1), .one (.int .i64 z2), .one (.int .i64 z3), .one (.int .i64 z4), .one (.int .i64 z5)], .bool z6] : SVal)) h.1 h.2.1 h.2.2.1 h.2.2.2.1 h.2.2.2.2.1 h.2.2.2.2.2) hK)))
abbrev Yc6 (x0 : Int) (x1 x2 : Nat) (x3 : Int) : Env := [(1, some (.int .i64 x0)), (4, some (.ptr ⟨1, 0, 0, 1⟩ 5)), (6, some (.slice ⟨2, 0, 0, 7⟩ x1 x2)), (7, some (.int .i64 x3)), (8, some (.ptr ⟨3, 0, 0, 1⟩ 5))]
abbrev Yc7 (x0 : Nat) (x1 : List (Tup Zab)) (x2 : Nat) (x3 x4 x5 x6 x7 : Int) : Heap := ⟨4, [(1, some ⟨true, [.one (.int .i64 0), .one (.int .i64 0), .one (.int .i64 0), .one (.int .i64 0), .one (.int .i64 0)], 0⟩), (2, some ⟨true, [.rows Zab x0 x1], x2⟩), (3, some ⟨true, [.one (.int .i64 x3), .one (.int .i64 x4), .one (.int .i64 x5), .one (.int .i64 x6), .one (.int .i64 x7)], 0⟩)]⟩
theorem ZG4 (p : PlanV) (at_ : Int) (v6l c : Nat) (v7 : Int) (h2 : List (Tup Zab)) (x2 : Nat) (h3_0 h3_1 h3_2 h3_3 h3_4 : Int) (Z : Env -> Heap -> Prop) (h : ((0 <= v7)) /\ ((v7 < ((v6l : Nat) : Int))) /\ (((0 + (Int.toNat v7)) < v6l)) /\ Z Yc2 ⟨4, [(1, some ⟨true, [.one (.int .i64 0), .one (.int .i64 0), .one (.int .i64 0), .one (.int .i64 0), .one (.int .i64 0)], 0⟩), (3, some ⟨true, [.one (.int .i64 h3_0), .one (.int .i64 h3_1), .one (.int .i64 h3_2), .one (.int .i64 h3_3), .one (.int .i64 (IntKind.i64.wrap (at_ - (List.getD h2 (0 + (Int.toNat v7)) (Tup.dflt Zab)).2.2.2.2.2.1)))], 0⟩)]⟩) : EvC ZeU Zmw (Yc6 at_ v6l c v7) (Yc7 v6l h2 x2 h3_0 h3_1 h3_2 h3_3 h3_4) [4, 8] [1, 3] Z := EvC.of (by kernel_rfl) h
def Zuu (p : PlanV) (at_ : Int) (v6l c : Nat) (v7 : Int) (h2 : List (Tup Zab)) (x2 : Nat) (h3_0 h3_1 h3_2 h3_3 h3_4 : Int) : Prop := ((0 <= v7)) /\ (((v7 < ((v6l : Nat) : Int))) /\ ((((0 + (Int.toNat v7)) < v6l)) /\ (∀ h3_4'1 : Int, h3_4'1 = ((at_ - (List.getD h2 (0 + (Int.toNat v7)) (Tup.dflt Zab)).2.2.2.2.2.1) + 9223372036854775808) % 18446744073709551616 - 9223372036854775808 -> Zuv p at_ h3_0 h3_1 h3_2 h3_3 h3_4'1 v6l c h2 x2 v7)))
theorem ZJC (p : PlanV) (at_ : Int) (hK : (Yc5 Kf p at_)) (v6l c : Nat) (v7 : Int) (h2 : List (Tup Zab)) (x2 : Nat) (h3_0 h3_1 h3_2 h3_3 h3_4 : Int) (h : Zuu p at_ v6l c v7 h2 x2 h3_0 h3_1 h3_2 h3_3 h3_4) : SemL Try.prog w0 fp ρi 0 54 [Zmw, (.seq Zkc .ret)] (Yc6 at_ v6l c v7) (Yc7 v6l h2 x2 h3_0 h3_1 h3_2 h3_3 h3_4) (Zj0 w0 fp ρi Kf p at_ v6l c h2 x2 v7) :=
  Zae Zd5 (ZG4 p at_ v6l c v7 h2 x2 h3_0 h3_1 h3_2 h3_3 h3_4 _ ⟨h.1, ⟨h.2.1, ⟨h.2.2.1, (Zag (ZJD p at_ hK h3_0 h3_1 h3_2 h3_3 (IntKind.i64.wrap (at_ - (List.getD h2 (0 + (Int.toNat v7)) (Tup.dflt Zab)).2.2.2.2.2.1)) v6l c h2 x2 v7 (h.2.2.2 (IntKind.i64.wrap (at_ - (List.getD h2 (0 + (Int.toNat v7)) (Tup.dflt Zab)).2.2.2.2.2.1)) (Zhl _))))⟩⟩⟩)
abbrev Yc8 (x0 : Int) (x1 x2 : Nat) (x3 : Int) : Env := [(1, some (.int .i64 x0)), (4, some (.ptr ⟨1, 0, 0, 1⟩ 5)), (6, some (.slice ⟨2, 0, 0, 7⟩ x1 x2)), (7, some (.int .i64 x3))]
abbrev Yc9 (x0 : Nat) (x1 : List (Tup Zab)) (x2 : Nat) : Heap := ⟨3, [(1, some ⟨true, [.one (.int .i64 0), .one (.int .i64 0), .one (.int .i64 0), .one (.int .i64 0), .one (.int .i64 0)], 0⟩), (2, some ⟨true, [.rows Zab x0 x1], x2⟩)]⟩
theorem ZG3 (p : PlanV) (at_ : Int) (v6l c : Nat) (v7 : Int) (h2 : List (Tup Zab)) (x2 : Nat) (Z : Env -> Heap -> Prop) (h : ((0 <= v7)) /\ ((v7 < ((v6l : Nat) : Int))) /\ (((0 + (Int.toNat v7)) < v6l)) /\ Z (Yc6 at_ v6l c v7) ⟨4, [(1, some ⟨true, [.one (.int .i64 0), .one (.int .i64 0), .one (.int .i64 0), .one (.int .i64 0), .one (.int .i64 0)], 0⟩), (2, some ⟨true, [.rows Zab v6l h2], x2⟩), (3, some ⟨true, [.one (.int .i64 (List.getD h2 (0 + (Int.toNat v7)) (Tup.dflt Zab)).1), .one (.int .i64 (List.getD h2 (0 + (Int.toNat v7)) (Tup.dflt Zab)).2.1), .one (.int .i64 (List.getD h2 (0 + (Int.toNat v7)) (Tup.dflt Zab)).2.2.1), .one (.int .i64 (List.getD h2 (0 + (Int.toNat v7)) (Tup.dflt Zab)).2.2.2.1), .one (.int .i64 (List.getD h2 (0 + (Int.toNat v7)) (Tup.dflt Zab)).2.2.2.2.1)], 0⟩)]⟩) : EvC ZeU ZqW (Yc8 at_ v6l c v7) (Yc9 v6l h2 x2) [1, 4, 6, 7, 8] [1, 2, 3] Z := EvC.of (by kernel_rfl) h
def Zut (p : PlanV) (at_ : Int) (v6l c : Nat) (v7 : Int) (h2 : List (Tup Zab)) (x2 : Nat) : Prop := ((0 <= v7)) /\ (((v7 < ((v6l : Nat) : Int))) /\ ((((0 + (Int.toNat v7)) < v6l)) /\ (∀ h3_0 : Int, h3_0 = (List.getD h2 (0 + (Int.toNat v7)) (Tup.dflt Zab)).1 -> ∀ h3_1 : Int, h3_1 = (List.getD h2 (0 + (Int.toNat v7)) (Tup.dflt Zab)).2.1 -> ∀ h3_2 : Int, h3_2 = (List.getD h2 (0 + (Int.toNat v7)) (Tup.dflt Zab)).2.2.1 -> ∀ h3_3 : Int, h3_3 = (List.getD h2 (0 + (Int.toNat v7)) (Tup.dflt Zab)).2.2.2.1 -> ∀ h3_4 : Int, h3_4 = (List.getD h2 (0 + (Int.toNat v7)) (Tup.dflt Zab)).2.2.2.2.1 -> Zuu p at_ v6l c v7 h2 x2 h3_0 h3_1 h3_2 h3_3 h3_4)))
theorem ZJB (p : PlanV) (at_ : Int) (hK : (Yc5 Kf p at_)) (v6l c : Nat) (v7 : Int) (h2 : List (Tup Zab)) (x2 : Nat) (h : Zut p at_ v6l c v7 h2 x2) : SemL Try.prog w0 fp ρi 0 54 [ZqW, (.seq Zmw (.seq Zkc .ret))] (Yc8 at_ v6l c v7) (Yc9 v6l h2 x2) (Zj0 w0 fp ρi Kf p at_ v6l c h2 x2 v7) :=
  Zae Zd5 (ZG3 p at_ v6l c v7 h2 x2 _ ⟨h.1, ⟨h.2.1, ⟨h.2.2.1, (Zag (ZJC p at_ hK v6l c v7 h2 x2 (List.getD h2 (0 + (Int.toNat v7)) (Tup.dflt Zab)).1 (List.getD h2 (0 + (Int.toNat v7)) (Tup.dflt Zab)).2.1 (List.getD h2 (0 + (Int.toNat v7)) (Tup.dflt Zab)).2.2.1 (List.getD h2 (0 + (Int.toNat v7)) (Tup.dflt Zab)).2.2.2.1 (List.getD h2 (0 + (Int.toNat v7)) (Tup.dflt Zab)).2.2.2.2.1 (((((h.2.2.2 (List.getD h2 (0 + (Int.toNat v7)) (Tup.dflt Zab)).1 rfl) (List.getD h2 (0 + (Int.toNat v7)) (Tup.dflt Zab)).2.1 rfl) (List.getD h2 (0 + (Int.toNat v7)) (Tup.dflt Zab)).2.2.1 rfl) (List.getD h2 (0 + (Int.toNat v7)) (Tup.dflt Zab)).2.2.2.1 rfl) (List.getD h2 (0 + (Int.toNat v7)) (Tup.dflt Zab)).2.2.2.2.1 rfl)))⟩⟩⟩)
theorem ZG2 (p : PlanV) (at_ : Int) (v6l c : Nat) (v7 : Int) (h2 : List (Tup Zab)) (x2 : Nat) (Z : Env -> Heap -> Prop) (h : Z [(1, some (.int .i64 at_)), (4, some (.ptr ⟨1, 0, 0, 1⟩ 5)), (6, some (.slice ⟨2, 0, 0, 7⟩ v6l c)), (7, some (.int .i64 (IntKind.i64.wrap (v7 + 1))))] (Yc9 v6l h2 x2)) : EvC ZeU Zf1 (Yc8 at_ v6l c v7) (Yc9 v6l h2 x2) [1, 4, 6, 7] [1, 2] Z := EvC.of (by kernel_rfl) h
def Zus (p : PlanV) (at_ : Int) (v6l c : Nat) (v7 : Int) (h2 : List (Tup Zab)) (x2 : Nat) : Prop := (0 <= (IntKind.i64.wrap (v7 + 1)) /\ (IntKind.i64.wrap (v7 + 1)) <= (v6l : Int) /\ PlanV.placeIn (List.take (Int.toNat (IntKind.i64.wrap (v7 + 1))) h2) at_ = none) /\ ((((v6l : Int) - (IntKind.i64.wrap (v7 + 1))).toNat) < (((v6l : Int) - v7).toNat))
theorem ZJA (p : PlanV) (at_ : Int) (hK : (Yc5 Kf p at_)) (v6l c : Nat) (v7 : Int) (h2 : List (Tup Zab)) (x2 : Nat) (h : Zus p at_ v6l c v7 h2 x2) : SemL Try.prog w0 fp ρi 0 54 [Zf1] (Yc8 at_ v6l c v7) (Yc9 v6l h2 x2) (ZiI w0 fp ρi Kf p at_ v6l c h2 x2 v7) :=
  Zae Zd5 (ZG2 p at_ v6l c v7 h2 x2 _ (Zej (ZdE (x' := (IntKind.i64.wrap (v7 + 1))) (τ := tau []) h.1 h.2 (ZbT [] [1, 2] rfl rfl (esc pbd (esc bpt (esc bsl (esc pbd Zbv)))) (hsc pcs (hsc pcs Zaw)) (by kernel_rfl) rfl))))
def Zur (p : PlanV) (at_ : Int) (v6l c : Nat) (v7 : Int) (h2 : List (Tup Zab)) (x2 : Nat) : Prop := (((decide ((List.getD h2 (0 + (Int.toNat v7)) (Tup.dflt Zab)).2.2.2.2.2.1 <= at_)) && (decide (at_ < (IntKind.i64.wrap ((List.getD h2 (0 + (Int.toNat v7)) (Tup.dflt Zab)).2.2.2.2.2.1 + (List.getD h2 (0 + (Int.toNat v7)) (Tup.dflt Zab)).2.2.2.2.2.2))))) = true -> (Zut p at_ v6l c v7 h2 x2)) /\ (((decide ((List.getD h2 (0 + (Int.toNat v7)) (Tup.dflt Zab)).2.2.2.2.2.1 <= at_)) && (decide (at_ < (IntKind.i64.wrap ((List.getD h2 (0 + (Int.toNat v7)) (Tup.dflt Zab)).2.2.2.2.2.1 + (List.getD h2 (0 + (Int.toNat v7)) (Tup.dflt Zab)).2.2.2.2.2.2))))) = false -> (Zus p at_ v6l c v7 h2 x2))
theorem ZJz (p : PlanV) (at_ : Int) (hK : (Yc5 Kf p at_)) (v6l c : Nat) (v7 : Int) (h2 : List (Tup Zab)) (x2 : Nat) (h : Zur p at_ v6l c v7 h2 x2) : SemL Try.prog w0 fp ρi 0 54 [ZqV] [(1, some (.int .i64 at_)), (4, some (.ptr ⟨1, 0, 0, 1⟩ 5)), (6, some (.slice ⟨2, 0, 0, 7⟩ v6l c)), (7, some (.int .i64 v7)), (38, some (.bool ((decide ((List.getD h2 (0 + (Int.toNat v7)) (Tup.dflt Zab)).2.2.2.2.2.1 <= at_)) && (decide (at_ < (IntKind.i64.wrap ((List.getD h2 (0 + (Int.toNat v7)) (Tup.dflt Zab)).2.2.2.2.2.1 + (List.getD h2 (0 + (Int.toNat v7)) (Tup.dflt Zab)).2.2.2.2.2.2)))))))] (Yc9 v6l h2 x2) (Zj0 w0 fp ρi Kf p at_ v6l c h2 x2 v7) :=
  Zbf (q := ((decide ((List.getD h2 (0 + (Int.toNat v7)) (Tup.dflt Zab)).2.2.2.2.2.1 <= at_)) && (decide (at_ < (IntKind.i64.wrap ((List.getD h2 (0 + (Int.toNat v7)) (Tup.dflt Zab)).2.2.2.2.2.1 + (List.getD h2 (0 + (Int.toNat v7)) (Tup.dflt Zab)).2.2.2.2.2.2)))))) (by kernel_rfl) (fun hq => (Zag (lpk [1, 4, 6, 7] [1, 2] (ZJB p at_ hK v6l c v7 h2 x2 (h.1 hq))))) (fun hq => (Zbu (Zej (lpk [1, 4, 6, 7] [1, 2] (ZJA p at_ hK v6l c v7 h2 x2 (h.2 hq))))))
theorem ZG1 (p : PlanV) (at_ : Int) (v6l c : Nat) (v7 : Int) (h2 : List (Tup Zab)) (x2 : Nat) (Z : Env -> Heap -> Prop) (h : ((0 <= v7)) /\ ((v7 < ((v6l : Nat) : Int))) /\ (((0 + (Int.toNat v7)) < v6l)) /\ ∃ qq : Bool, ((decide ((List.getD h2 (0 + (Int.toNat v7)) (Tup.dflt Zab)).2.2.2.2.2.1 <= at_)) = true -> ((0 <= v7)) /\ ((v7 < ((v6l : Nat) : Int))) /\ (((0 + (Int.toNat v7)) < v6l)) /\ ((0 <= v7)) /\ ((v7 < ((v6l : Nat) : Int))) /\ (((0 + (Int.toNat v7)) < v6l)) /\ (decide (at_ < (IntKind.i64.wrap ((List.getD h2 (0 + (Int.toNat v7)) (Tup.dflt Zab)).2.2.2.2.2.1 + (List.getD h2 (0 + (Int.toNat v7)) (Tup.dflt Zab)).2.2.2.2.2.2)))) = qq) /\ ((decide ((List.getD h2 (0 + (Int.toNat v7)) (Tup.dflt Zab)).2.2.2.2.2.1 <= at_)) = false -> false = qq) /\ Z [(1, some (.int .i64 at_)), (4, some (.ptr ⟨1, 0, 0, 1⟩ 5)), (6, some (.slice ⟨2, 0, 0, 7⟩ v6l c)), (7, some (.int .i64 v7)), (38, some (.bool qq))] (Yc9 v6l h2 x2)) : EvQC ZeU Zmx [] (Yc8 at_ v6l c v7) (Yc9 v6l h2 x2) [1, 4, 6, 7, 38] [1, 2] Z := EvQC.of (by kernel_rfl) h
def Zuq (p : PlanV) (at_ : Int) (v6l c : Nat) (v7 : Int) (h2 : List (Tup Zab)) (x2 : Nat) : Prop := ((0 <= v7)) /\ (((v7 < ((v6l : Nat) : Int))) /\ ((((0 + (Int.toNat v7)) < v6l)) /\ (((decide ((List.getD h2 (0 + (Int.toNat v7)) (Tup.dflt Zab)).2.2.2.2.2.1 <= at_)) = true -> (((0 <= v7)) /\ (((v7 < ((v6l : Nat) : Int))) /\ ((((0 + (Int.toNat v7)) < v6l)) /\ (((0 <= v7)) /\ (((v7 < ((v6l : Nat) : Int))) /\ (((0 + (Int.toNat v7)) < v6l)))))))) /\ (Zur p at_ v6l c v7 h2 x2))))
theorem ZJy (p : PlanV) (at_ : Int) (hK : (Yc5 Kf p at_)) (v6l c : Nat) (v7 : Int) (h2 : List (Tup Zab)) (x2 : Nat) (h : Zuq p at_ v6l c v7 h2 x2) : SemL Try.prog w0 fp ρi 0 54 [Zys, ZqV] (Yc8 at_ v6l c v7) (Yc9 v6l h2 x2) (Zj0 w0 fp ρi Kf p at_ v6l c h2 x2 v7) :=
  Zi0 Zd5 (its := Zmx) (ZG1 p at_ v6l c v7 h2 x2 _ ⟨h.1, ⟨h.2.1, ⟨h.2.2.1, ⟨((decide ((List.getD h2 (0 + (Int.toNat v7)) (Tup.dflt Zab)).2.2.2.2.2.1 <= at_)) && (decide (at_ < (IntKind.i64.wrap ((List.getD h2 (0 + (Int.toNat v7)) (Tup.dflt Zab)).2.2.2.2.2.1 + (List.getD h2 (0 + (Int.toNat v7)) (Tup.dflt Zab)).2.2.2.2.2.2))))), fun hc_qq => ⟨(h.2.2.2.1 hc_qq).1, ⟨(h.2.2.2.1 hc_qq).2.1, ⟨(h.2.2.2.1 hc_qq).2.2.1, ⟨(h.2.2.2.1 hc_qq).2.2.2.1, ⟨(h.2.2.2.1 hc_qq).2.2.2.2.1, ⟨(h.2.2.2.1 hc_qq).2.2.2.2.2, (qa1 hc_qq)⟩⟩⟩⟩⟩⟩, fun hc_qq => qa2 hc_qq, (ZJz p at_ hK v6l c v7 h2 x2 h.2.2.2.2)⟩⟩⟩⟩)
def Zup (p : PlanV) (at_ : Int) (v6l c : Nat) (v7 : Int) (h2 : List (Tup Zab)) (x2 : Nat) : Prop := Zuq p at_ v6l c v7 h2 x2
theorem ZJx (p : PlanV) (at_ : Int) (hK : (Yc5 Kf p at_)) (v6l c : Nat) (v7 : Int) (h2 : List (Tup Zab)) (x2 : Nat) (h : Zup p at_ v6l c v7 h2 x2) : SemL Try.prog w0 fp ρi 0 54 [Zjx, Zf1] (Yc8 at_ v6l c v7) (Yc9 v6l h2 x2) (ZiI w0 fp ρi Kf p at_ v6l c h2 x2 v7) :=
  Zb4 (Zag (ZJy p at_ hK v6l c v7 h2 x2 h))
abbrev ZQc : Env := [(4, some (.ptr ⟨1, 0, 0, 1⟩ 5)), (5, some (.bool false))]
abbrev ZNl : Heap := ⟨3, [(1, some ⟨true, [.one (.int .i64 0), .one (.int .i64 0), .one (.int .i64 0), .one (.int .i64 0), .one (.int .i64 0)], 0⟩)]⟩
theorem ZG0 (p : PlanV) (at_ : Int) (Z : Env -> Heap -> Prop) (h : Z ZQc ZNl) : EvC ZeU Ze6 [(4, some (.ptr ⟨1, 0, 0, 1⟩ 5))] ZNl [4, 5] [1] Z := EvC.of (by kernel_rfl) h
theorem ZDl (p : PlanV) (at_ : Int) : RetC Zd3 ZQc ZNl (.tuple [.agg [.one (.int .i64 0), .one (.int .i64 0), .one (.int .i64 0), .one (.int .i64 0), .one (.int .i64 0)], .bool false]) := RetC.of (fun Z => by kernel_rfl)
def Zuo (p : PlanV) (at_ : Int) : Prop := (0 = (PlanV.placeOf p at_).pkind) /\ (0 = (PlanV.placeOf p at_).pline) /\ (0 = (PlanV.placeOf p at_).plevel) /\ (0 = (PlanV.placeOf p at_).pindex) /\ (0 = (PlanV.placeOf p at_).poff) /\ (false = (PlanV.placeB p at_))
theorem ZJw (p : PlanV) (at_ : Int) (hK : (Yc5 Kf p at_)) (h : Zuo p at_) : SemL Try.prog w0 fp ρi 0 54 [Ze6, .ret] [(4, some (.ptr ⟨1, 0, 0, 1⟩ 5))] ZNl (fnK Zd3 0 Kf) :=
  Zae Zd5 (ZG0 p at_ _ (Zba (R := Zd3) (m := 0) (Kf := Kf) (fun _ _ h => h) (ZDl p at_) (Za3 rfl (by kernel_rfl) (cg6 (fun (z1 z2 z3 z4 z5 : Int) (z6 : Bool) => (.tuple [.agg [.one (.int .i64 z1), .one (.int .i64 z2), .one (.int .i64 z3), .one (.int .i64 z4), .one (.int .i64 z5)], .bool z6] : SVal)) h.1 h.2.1 h.2.2.1 h.2.2.2.1 h.2.2.2.2.1 h.2.2.2.2.2) hK)))
def Zun (p : PlanV) (at_ : Int) (v6l c : Nat) (v7 : Int) (h2 : List (Tup Zab)) (x2 : Nat) : Prop := ((decide (v7 < ((v6l : Nat) : Int))) = true -> (Zup p at_ v6l c v7 h2 x2)) /\ ((decide (v7 < ((v6l : Nat) : Int))) = false -> (Zuo p at_))
abbrev ZQb (x0 : Int) (x1 x2 : Nat) (x3 : Int) : Env := [(1, some (.int .i64 x0)), (4, some (.ptr ⟨1, 0, 0, 1⟩ 5)), (6, some (.slice ⟨2, 0, 0, 7⟩ x1 x2)), (7, some (.int .i64 x3)), (14, some (.bool (decide (x3 < ((x1 : Nat) : Int)))))]
theorem ZJv (p : PlanV) (at_ : Int) (hK : (Yc5 Kf p at_)) (v6l c : Nat) (v7 : Int) (h2 : List (Tup Zab)) (x2 : Nat) (h : Zun p at_ v6l c v7 h2 x2) : SemL Try.prog w0 fp ρi 0 54 [ZqX, (.seq Zjx Zf1)] (ZQb at_ v6l c v7) (Yc9 v6l h2 x2) (ZiI w0 fp ρi Kf p at_ v6l c h2 x2 v7) :=
  Zbf (q := (decide (v7 < ((v6l : Nat) : Int)))) (by kernel_rfl) (fun hq => (Zbu (lpk [1, 4, 6, 7] [1, 2] (Zag (ZJx p at_ hK v6l c v7 h2 x2 (h.1 hq)))))) (fun hq => (ZfI (lpk [4] [1] (Zag (ZJw p at_ hK (h.2 hq))))))
theorem ZGZ (p : PlanV) (at_ : Int) (v6l c : Nat) (v7 : Int) (h2 : List (Tup Zab)) (x2 : Nat) (Z : Env -> Heap -> Prop) (h : Z (ZQb at_ v6l c v7) (Yc9 v6l h2 x2)) : EvC ZeU ZqY (Yc8 at_ v6l c v7) (Yc9 v6l h2 x2) [1, 4, 6, 7, 14] [1, 2] Z := EvC.of (by kernel_rfl) h
def Zum (p : PlanV) (at_ : Int) (v6l c : Nat) (v7 : Int) (h2 : List (Tup Zab)) (x2 : Nat) : Prop := Zun p at_ v6l c v7 h2 x2
theorem ZJu (p : PlanV) (at_ : Int) (hK : (Yc5 Kf p at_)) (v6l c : Nat) (v7 : Int) (h2 : List (Tup Zab)) (x2 : Nat) (h : Zum p at_ v6l c v7 h2 x2) : SemL Try.prog w0 fp ρi 0 54 [ZqY, ZqX, (.seq Zjx Zf1)] (Yc8 at_ v6l c v7) (Yc9 v6l h2 x2) (ZiI w0 fp ρi Kf p at_ v6l c h2 x2 v7) :=
  Zae Zd5 (ZGZ p at_ v6l c v7 h2 x2 _ (ZJv p at_ hK v6l c v7 h2 x2 h))
def Zo5 (p : PlanV) (at_ : Int) (v6l c : Nat) (h2 : List (Tup Zab)) (x2 : Nat) : Prop := (0 <= (0 : Int) /\ (0 : Int) <= (v6l : Int) /\ PlanV.placeIn (List.take (Int.toNat (0 : Int)) h2) at_ = none) /\ (∀ (v7 : Int), (0 <= v7 /\ v7 <= (v6l : Int) /\ PlanV.placeIn (List.take (Int.toNat v7) h2) at_ = none) -> (Zum p at_ v6l c v7 h2 x2))
abbrev ZOy (x0 : Int) (x1 x2 : Nat) : Env := [(1, some (.int .i64 x0)), (4, some (.ptr ⟨1, 0, 0, 1⟩ 5)), (6, some (.slice ⟨2, 0, 0, 7⟩ x1 x2)), (7, some (.int .i64 0))]
theorem ZEk (p : PlanV) (at_ : Int) (hK : (Yc5 Kf p at_)) (v6l c : Nat) (h2 : List (Tup Zab)) (x2 : Nat) (h : Zo5 p at_ v6l c h2 x2) : SemL Try.prog w0 fp ρi 0 54 [Ztk] (ZOy at_ v6l c) (Yc9 v6l h2 x2) (Zx0 w0 fp ρi Kf p at_) :=
  Ziw (Zx5 p at_ v6l c h2 x2) (ZxO p at_ v6l c h2 x2) (ZxW p at_ v6l c h2 x2) (ZxS p at_ v6l c h2 x2) ⟨0, tau [], h.1, (ZbT [] [1, 2] rfl rfl (esc pbd (esc bpt (esc bsl (esc pbd Zbv)))) (hsc pcs (hsc pcs Zaw)) (by kernel_rfl) rfl)⟩ (fun s => match s with | v7 => fun hi => (Zag (Zag (ZJu p at_ hK v6l c v7 h2 x2 (h.2 v7 hi)))))
def Zo4 (p : PlanV) (at_ : Int) (v6l c : Nat) (h2 : List (Tup Zab)) (x2 : Nat) : Prop := Zo5 p at_ v6l c h2 x2
theorem ZEj (p : PlanV) (at_ : Int) (hK : (Yc5 Kf p at_)) (v6l c : Nat) (h2 : List (Tup Zab)) (x2 : Nat) (h : Zo4 p at_ v6l c h2 x2) : SemL Try.prog w0 fp ρi 0 54 [Zid, (.seq Ze6 .ret)] (ZOy at_ v6l c) (Yc9 v6l h2 x2) (fnK Zd3 0 Kf) :=
  Zb4 (ZEk p at_ hK v6l c h2 x2 h)
abbrev ZQa (x0 : Int) (x1 x2 : Nat) : Env := [(1, some (.int .i64 x0)), (4, some (.ptr ⟨1, 0, 0, 1⟩ 5)), (6, some (.slice ⟨2, 0, 0, 7⟩ x1 x2))]
theorem ZCi (p : PlanV) (at_ : Int) (v6l c : Nat) (h2 : List (Tup Zab)) (x2 : Nat) (Z : Env -> Heap -> Prop) (h : Z (ZOy at_ v6l c) (Yc9 v6l h2 x2)) : EvC ZeU Zkd (ZQa at_ v6l c) (Yc9 v6l h2 x2) [1, 4, 6, 7] [1, 2] Z := EvC.of (by kernel_rfl) h
def Zo3 (p : PlanV) (at_ : Int) (v6l c : Nat) (h2 : List (Tup Zab)) (x2 : Nat) : Prop := Zo4 p at_ v6l c h2 x2
theorem ZEi (p : PlanV) (at_ : Int) (hK : (Yc5 Kf p at_)) (v6l c : Nat) (h2 : List (Tup Zab)) (x2 : Nat) (h : Zo3 p at_ v6l c h2 x2) : SemL Try.prog w0 fp ρi 0 54 [Zkd, Zid, (.seq Ze6 .ret)] (ZQa at_ v6l c) (Yc9 v6l h2 x2) (fnK Zd3 0 Kf) :=
  Zae Zd5 (ZCi p at_ v6l c h2 x2 _ (ZEj p at_ hK v6l c h2 x2 h))
abbrev ZOx (x0 : Int) : Env := [(1, some (.int .i64 x0)), (2, some (.ptr ⟨0, 0, 0, 1⟩ 46)), (4, some (.ptr ⟨1, 0, 0, 1⟩ 5))]
abbrev ZOw (x0 : PlanV) : Heap := ⟨2, [(0, some ⟨true, (PlanV.cs x0), 0⟩), (1, some ⟨true, [.one (.int .i64 0), .one (.int .i64 0), .one (.int .i64 0), .one (.int .i64 0), .one (.int .i64 0)], 0⟩)]⟩
theorem ZCh (p : PlanV) (at_ : Int) (Z : Env -> Heap -> Prop) (h : (True) /\ ∀ (c : Nat), (List.length (PlanV.parts p)) <= c -> Z [(1, some (.int .i64 at_)), (4, some (.ptr ⟨1, 0, 0, 1⟩ 5)), (6, some (.slice ⟨2, 0, 0, 7⟩ (List.length (PlanV.parts p)) c))] ⟨3, [(1, some ⟨true, [.one (.int .i64 0), .one (.int .i64 0), .one (.int .i64 0), .one (.int .i64 0), .one (.int .i64 0)], 0⟩), (2, some ⟨true, [.rows Zab (List.length (PlanV.parts p)) (PlanV.parts p)], ((c - (List.length (PlanV.parts p))) * 7)⟩)]⟩) : EvC ZeU Zmy (ZOx at_) (ZOw p) [1, 4, 6] [1, 2] Z := EvC.of (by kernel_rfl) h
def Zo2 (p : PlanV) (at_ : Int) : Prop := ∀ (c : Nat), ((List.length (PlanV.parts p)) <= c) -> (∀ v6l : Nat, v6l = (List.length (PlanV.parts p)) -> ∀ h2 : List (Tup Zab), h2 = (PlanV.parts p) -> ∀ x2 : Nat, x2 = ((c - (List.length (PlanV.parts p))) * 7) -> Zo3 p at_ v6l c h2 x2)
theorem ZEh (p : PlanV) (at_ : Int) (hK : (Yc5 Kf p at_)) (h : Zo2 p at_) : SemL Try.prog w0 fp ρi 0 54 [Zmy, (.seq (.seq Zkd Zid) (.seq Ze6 .ret))] (ZOx at_) (ZOw p) (fnK Zd3 0 Kf) :=
  Zae Zd5 (ZCh p at_ _ ⟨True.intro, (fun c h_c_0 => (Zag (Zag (ZEi p at_ hK (List.length (PlanV.parts p)) c (PlanV.parts p) ((c - (List.length (PlanV.parts p))) * 7) ((((h c h_c_0) (List.length (PlanV.parts p)) rfl) (PlanV.parts p) rfl) ((c - (List.length (PlanV.parts p))) * 7) rfl)))))⟩)
abbrev ZOv (x0 : PlanV) (x1 : Int) : Env := [(0, some (.agg (PlanV.cs x0))), (1, some (.int .i64 x1))]
theorem ZCg (p : PlanV) (at_ : Int) (Z : Env -> Heap -> Prop) (h : Z (ZOx at_) (ZOw p)) : EvC ZeU ZqZ (ZOv p at_) Yc4 [1, 2, 4] [0, 1] Z := EvC.of (by kernel_rfl) h
def Zo1 (p : PlanV) (at_ : Int) : Prop := Zo2 p at_
theorem ZEg (p : PlanV) (at_ : Int) (hK : (Yc5 Kf p at_)) (h : Zo1 p at_) : SemL Try.prog w0 fp ρi 0 54 [ZqZ, (.seq Zmy (.seq (.seq Zkd Zid) (.seq Ze6 .ret)))] (ZOv p at_) Yc4 (fnK Zd3 0 Kf) :=
  Zae Zd5 (ZCg p at_ _ (Zag (ZEh p at_ hK h)))
def ZlY (p : PlanV) (at_ : Int) : Prop := Zo1 p at_
theorem ZBT (p : PlanV) (at_ : Int) (hK : (Yc5 Kf p at_)) (h : ZlY p at_) : SemL Try.prog w0 fp ρi 0 54 [ZyB] (ZOv p at_) Yc4 (fnK Zd3 0 Kf) :=
  (Zag (ZEg p at_ hK h))
end
theorem ZAv (p : PlanV) (at_ : Int) (hpre : (I64 at_)) : ZlY p at_ := by
  unfold ZlY Zo1 Zo2 Zo3 Zo4 Zo5 Zum Zun Zuo Zup Zuq Zur Zus Zut Zuu Zuv
  rintro c hc _ rfl _ rfl x2 hx
  have hb := PlanV.parts_len p
  unfold I64 at hpre
  refine ⟨⟨by omega, by omega, rfl⟩, ?_⟩
  rintro i ⟨h0, h1, hf⟩
  refine ⟨fun hlt => ?_, fun hge => ?_⟩
  · have hlt := of_decide_eq_true hlt
    have hi : i.toNat < p.parts.length := by omega
    have e1 : IntKind.i64.wrap (i + 1) = i + 1 := by rw [Zhl]; omega
    have e2 : (i + 1).toNat = i.toNat + 1 := by omega
    rw [Nat.zero_add, e1, e2]
    have hm := PlanV.getD_mem (d := Tup.dflt Zab) hi
    have hstep := fun hn => Zyl (P := fun q => decide (PlanV.pAt q <= at_) && decide (at_ < PlanV.pAt q + PlanV.pN q)) (d := Tup.dflt Zab) hf hi hn
    have htake := fun ht => Zyk (P := fun q => decide (PlanV.pAt q <= at_) && decide (at_ < PlanV.pAt q + PlanV.pN q)) (d := Tup.dflt Zab) hf hi ht
    generalize p.parts.getD i.toNat (Tup.dflt Zab) = q at hm hstep htake ⊢
    have hN := PlanV.parts_N hm
    unfold PlanV.pN at hN
    have hA := PlanV.parts_at hm
    unfold PlanV.pAt at hA
    have e3 : IntKind.i64.wrap (q.2.2.2.2.2.1 + q.2.2.2.2.2.2) = q.2.2.2.2.2.1 + q.2.2.2.2.2.2 := by rw [Zhl]; omega
    rw [e3]
    refine ⟨h0, hlt, hi, fun _ => ⟨h0, hlt, hi, h0, hlt, hi⟩, fun ht => ?_, fun hn => ⟨⟨by omega, by omega, hstep hn⟩, by omega⟩⟩
    have hfind : PlanV.placeIn p.parts at_ = some q := htake ht
    have ht2 := List.find?_some (show p.parts.find? (fun q => decide (PlanV.pAt q <= at_) && decide (at_ < PlanV.pAt q + PlanV.pN q)) = some q from hfind)
    simp only [Bool.and_eq_true, decide_eq_true_eq] at ht2
    unfold PlanV.pAt PlanV.pN at ht2
    refine ⟨h0, hlt, hi, ?_⟩
    rintro _ rfl _ rfl _ rfl _ rfl _ rfl
    refine ⟨h0, hlt, hi, ?_⟩
    intro z hz
    have hz : z = at_ - q.2.2.2.2.2.1 := by omega
    unfold PlanV.placeOf PlanV.placeB
    rw [hfind, hz]
    exact ⟨rfl, rfl, rfl, rfl, rfl, rfl⟩
  · have hge := of_decide_eq_false hge
    rw [List.take_of_length_le (by omega)] at hf
    unfold PlanV.placeOf PlanV.placeB
    rw [hf]
    exact ⟨rfl, rfl, rfl, rfl, rfl, rfl⟩
theorem ZCd : Sound Try.prog 88 (Zed Zsu) := by
  refine Zbx ZoG ?_
  intro args H K h
  obtain ⟨pre, v, hP, hpre, rfl, hK⟩ := ZbH h
  unfold Zsu at hP
  split at hP
  · obtain ⟨hb, hP⟩ := ZaP hP
    simp only [Bool.and_eq_true] at hb
    obtain ⟨h0, h1⟩ := hb
    obtain rfl := Nat.eq_of_beq_eq_true h0
    obtain rfl := Nat.eq_of_beq_eq_true h1
    cases hP
    exact ⟨rfl, fun w0 fp ρi => ZBT (PlanV.mk _ _ _ _ _ _ _ _ _ _ _ _ _ _ _ _) _ hK (ZAv (PlanV.mk _ _ _ _ _ _ _ _ _ _ _ _ _ _ _ _) _ hpre)⟩
  · cases hP
def ZnT : Zez := fun args => match args with
  | [.agg [.one (.int .i64 p_0), .one (.int .i64 p_1), .one (.int .i64 p_2), .one (.int .i64 p_3), .one (.int .i64 p_4), .one (.int .i64 p_5), .one (.int .u64 p_6), .one (.int .i64 p_7), .one (.int .i64 p_8), .one (.int .i64 p_9), .one (.int .i64 p_10), .one (.int .i64 p_11), .one (.int .i64 p_12), .one (.int .i64 p_13), .ints .u8 p_14_n p_14, .ints .u8 p_15_n p_15], .int .i64 at_, .int .i64 n] => bif Nat.beq p_14_n 16 && Nat.beq p_15_n 16 then some ((I64 at_ /\ I64 n), .tuple [.int .i64 (PlanV.lnOf (PlanV.mk p_0 p_1 p_2 p_3 p_4 p_5 p_6 p_7 p_8 p_9 p_10 p_11 p_12 p_13 p_14 p_15) at_ n), .int .i64 (PlanV.offOf (PlanV.mk p_0 p_1 p_2 p_3 p_4 p_5 p_6 p_7 p_8 p_9 p_10 p_11 p_12 p_13 p_14 p_15) at_ n), .int .i64 (PlanV.codeOf (PlanV.mk p_0 p_1 p_2 p_3 p_4 p_5 p_6 p_7 p_8 p_9 p_10 p_11 p_12 p_13 p_14 p_15) at_ n)]) else none
  | _ => none
def ZxE : PCon := ⟨73, ZnT⟩
def Zru : ACode := .reg (.op (some 3) (.box (.tm 0)) (.op (some 6) (.mov (.cn (.int .i64 0))) (.op (some 7) (.mov (.cn (.int .i64 0))) (.op (some 8) (.mov (.cn (.int .i64 0))) .nil))))
def Zrt : ACode := .reg (.op (some 10) (.loadA 46 (.tm 3)) (.op (some 11) (.call 85 [(.tm 10)]) (.op (some 12) (.not (.tm 11)) (.op (some 9) (.mov (.tm 12)) .nil))))
def Zrs : ACode := .reg (.op (some 6) (.mov (.cn (.int .i64 0))) (.op (some 7) (.mov (.cn (.int .i64 0))) (.op (some 8) (.mov (.cn (.int .i64 4))) .nil)))
def Zrr : ACode := .reg (.op (some 14) (.mov (.tm 2)) (.op (some 15) (.bin .neq (.tm 14) (.cn (.int .i64 1))) (.op (some 16) (.mov (.tm 15)) (.grpJ 16 true (.op (some 17) (.mov (.tm 2)) (.op (some 18) (.bin .neq (.tm 17) (.cn (.int .i64 2))) .nil)) 19 (.tm 18) (.cn (.bool false)) (.op (some 20) (.mov (.tm 19)) (.grpJ 20 true (.op (some 21) (.mov (.tm 2)) (.op (some 22) (.bin .neq (.tm 21) (.cn (.int .i64 4))) .nil)) 23 (.tm 22) (.cn (.bool false)) (.op (some 24) (.mov (.tm 23)) (.grpJ 24 true (.op (some 25) (.mov (.tm 2)) (.op (some 26) (.bin .neq (.tm 25) (.cn (.int .i64 8))) .nil)) 27 (.tm 26) (.cn (.bool false)) (.op (some 13) (.mov (.tm 27)) .nil)))))))))
def Zrq : ACode := .reg (.op (some 6) (.mov (.cn (.int .i64 0))) (.op (some 7) (.mov (.cn (.int .i64 0))) (.op (some 8) (.mov (.cn (.int .i64 1))) .nil)))
def Zrp : ACode := .reg (.op (some 29) (.mov (.tm 1)) (.op (some 30) (.bin .lss (.tm 29) (.cn (.int .i64 0))) (.op (some 31) (.mov (.tm 30)) (.grpJ 31 false (.op (some 32) (.mov (.tm 1)) (.op (some 33) (.loadA 46 (.tm 3)) (.op (some 34) (.call 86 [(.tm 33)]) (.op (some 35) (.bin .geq (.tm 32) (.tm 34)) .nil)))) 36 (.tm 35) (.cn (.bool true)) (.op (some 28) (.mov (.tm 36)) .nil)))))
def Zro : ACode := .reg (.op (some 6) (.mov (.cn (.int .i64 0))) (.op (some 7) (.mov (.cn (.int .i64 0))) (.op (some 8) (.mov (.cn (.int .i64 2))) .nil)))
def Zrn : ACode := .reg (.op (some 38) (.mov (.tm 1)) (.op (some 39) (.mov (.tm 2)) (.op (some 40) (.bin .rem (.tm 38) (.tm 39)) (.op (some 41) (.bin .neq (.tm 40) (.cn (.int .i64 0))) (.op (some 37) (.mov (.tm 41)) .nil)))))
def Zrm : ACode := .reg (.op (some 6) (.mov (.cn (.int .i64 0))) (.op (some 7) (.mov (.cn (.int .i64 0))) (.op (some 8) (.mov (.cn (.int .i64 9))) .nil)))
def Zrl : ACode := .cond (.tm 37) (.seq Zrm .ret) .skip
def ZmM : ACode := .cond (.tm 28) (.seq Zro .ret) (.seq Zrn Zrl)
def ZmL : ACode := .cond (.tm 13) (.seq Zrq .ret) (.seq Zrp ZmM)
def ZmK : ACode := .cond (.tm 9) (.seq Zrs .ret) (.seq Zrr ZmL)
def ZmJ : ACode := .block 0 (.seq Zrt ZmK)
def Zha : ACode := .reg (.op (some 42) (.mov (.tm 1)) (.op (some 43) (.bin .quo (.tm 42) (.cn (.int .i64 32))) (.op (some 44) (.mov (.tm 1)) (.op (some 45) (.bin .rem (.tm 44) (.cn (.int .i64 32))) (.op (some 6) (.mov (.tm 43)) (.op (some 7) (.mov (.tm 45)) (.op (some 8) (.mov (.cn (.int .i64 0))) .nil)))))))
def Ztt : ACode := (.seq Zru (.seq ZmJ (.seq Zha .ret)))
def ZcA : Res := .many [.tm 6, .tm 7, .tm 8]
theorem ZnH : ZbD Try.prog 73 3 46 Ztt ZcA = true := by kernel_rfl
def ZdO : Za8 := ZdW [ZAo, ZFU] []
theorem Zdn : Za9 Try.prog ZdO := ZbI ⟨ZCb, ZGT, trivial⟩ trivial
section
variable {w0 : World} {fp : Nat -> Nat -> Prop} {ρi : Rho} {Kf : SVal -> Heap -> Prop}
def Zeo (w0 : World) (fp : Nat -> Nat -> Prop) (ρi : Rho) (Kf : SVal -> Heap -> Prop) (p : PlanV) (at_ n : Int) : Zek := ZcF 0 (fun e H => SemL Try.prog w0 fp ρi 0 46 [(.seq Zha .ret)] e H (fnK ZcA 0 Kf)) (fnK ZcA 0 Kf)
abbrev ZNk : Env := [(6, some (.int .i64 0)), (7, some (.int .i64 0)), (8, some (.int .i64 4))]
abbrev Zhe : Heap := ⟨1, []⟩
theorem ZHR (p : PlanV) (at_ n : Int) (Z : Env -> Heap -> Prop) (h : Z ZNk Zhe) : EvC ZdO Zrs [] Zhe [6, 7, 8] [] Z := EvC.of (by kernel_rfl) h
theorem ZDD (p : PlanV) (at_ n : Int) : RetC ZcA ZNk Zhe (.tuple [.int .i64 0, .int .i64 0, .int .i64 4]) := RetC.of (fun Z => by kernel_rfl)
def ZvA (p : PlanV) (at_ n : Int) : Prop := (0 = (PlanV.lnOf p at_ n)) /\ (0 = (PlanV.offOf p at_ n)) /\ (4 = (PlanV.codeOf p at_ n))
abbrev Zhk (x0 : SVal -> Heap -> Prop) (x1 : PlanV) (x2 x3 : Int) : Prop := x0 (.tuple [.int .i64 (PlanV.lnOf x1 x2 x3), .int .i64 (PlanV.offOf x1 x2 x3), .int .i64 (PlanV.codeOf x1 x2 x3)]) ⟨0, []⟩
theorem ZKJ (p : PlanV) (at_ n : Int) (hK : (Zhk Kf p at_ n)) (h : ZvA p at_ n) : SemL Try.prog w0 fp ρi 0 46 [Zrs, .ret] [] Zhe (Zeo w0 fp ρi Kf p at_ n) :=
  Zae Zdn (ZHR p at_ n _ (Zba (R := ZcA) (m := 0) (Kf := Kf) (fun _ _ h => h) (ZDD p at_ n) (Za3 rfl (by kernel_rfl) (cg3 (fun (z1 z2 z3 : Int) => (.tuple [.int .i64 z1, .int .i64 z2, .int .i64 z3] : SVal)) h.1 h.2.1 h.2.2) hK)))
abbrev ZNj : Env := [(6, some (.int .i64 0)), (7, some (.int .i64 0)), (8, some (.int .i64 1))]
theorem ZHQ (p : PlanV) (at_ n : Int) (Z : Env -> Heap -> Prop) (h : Z ZNj Zhe) : EvC ZdO Zrq [] Zhe [6, 7, 8] [] Z := EvC.of (by kernel_rfl) h
theorem ZDC (p : PlanV) (at_ n : Int) : RetC ZcA ZNj Zhe (.tuple [.int .i64 0, .int .i64 0, .int .i64 1]) := RetC.of (fun Z => by kernel_rfl)
def Zvz (p : PlanV) (at_ n : Int) : Prop := (0 = (PlanV.lnOf p at_ n)) /\ (0 = (PlanV.offOf p at_ n)) /\ (1 = (PlanV.codeOf p at_ n))
theorem ZKI (p : PlanV) (at_ n : Int) (hK : (Zhk Kf p at_ n)) (h : Zvz p at_ n) : SemL Try.prog w0 fp ρi 0 46 [Zrq, .ret] [] Zhe (Zeo w0 fp ρi Kf p at_ n) :=
  Zae Zdn (ZHQ p at_ n _ (Zba (R := ZcA) (m := 0) (Kf := Kf) (fun _ _ h => h) (ZDC p at_ n) (Za3 rfl (by kernel_rfl) (cg3 (fun (z1 z2 z3 : Int) => (.tuple [.int .i64 z1, .int .i64 z2, .int .i64 z3] : SVal)) h.1 h.2.1 h.2.2) hK)))
abbrev ZNi : Env := [(6, some (.int .i64 0)), (7, some (.int .i64 0)), (8, some (.int .i64 2))]
theorem ZHP (p : PlanV) (at_ n : Int) (Z : Env -> Heap -> Prop) (h : Z ZNi Zhe) : EvC ZdO Zro [] Zhe [6, 7, 8] [] Z := EvC.of (by kernel_rfl) h
theorem ZDB (p : PlanV) (at_ n : Int) : RetC ZcA ZNi Zhe (.tuple [.int .i64 0, .int .i64 0, .int .i64 2]) := RetC.of (fun Z => by kernel_rfl)
def Zvy (p : PlanV) (at_ n : Int) : Prop := (0 = (PlanV.lnOf p at_ n)) /\ (0 = (PlanV.offOf p at_ n)) /\ (2 = (PlanV.codeOf p at_ n))
theorem ZKH (p : PlanV) (at_ n : Int) (hK : (Zhk Kf p at_ n)) (h : Zvy p at_ n) : SemL Try.prog w0 fp ρi 0 46 [Zro, .ret] [] Zhe (Zeo w0 fp ρi Kf p at_ n) :=
  Zae Zdn (ZHP p at_ n _ (Zba (R := ZcA) (m := 0) (Kf := Kf) (fun _ _ h => h) (ZDB p at_ n) (Za3 rfl (by kernel_rfl) (cg3 (fun (z1 z2 z3 : Int) => (.tuple [.int .i64 z1, .int .i64 z2, .int .i64 z3] : SVal)) h.1 h.2.1 h.2.2) hK)))
abbrev ZNh : Env := [(6, some (.int .i64 0)), (7, some (.int .i64 0)), (8, some (.int .i64 9))]
theorem ZHO (p : PlanV) (at_ n : Int) (Z : Env -> Heap -> Prop) (h : Z ZNh Zhe) : EvC ZdO Zrm [] Zhe [6, 7, 8] [] Z := EvC.of (by kernel_rfl) h
theorem ZDA (p : PlanV) (at_ n : Int) : RetC ZcA ZNh Zhe (.tuple [.int .i64 0, .int .i64 0, .int .i64 9]) := RetC.of (fun Z => by kernel_rfl)
def Zvx (p : PlanV) (at_ n : Int) : Prop := (0 = (PlanV.lnOf p at_ n)) /\ (0 = (PlanV.offOf p at_ n)) /\ (9 = (PlanV.codeOf p at_ n))
theorem ZKG (p : PlanV) (at_ n : Int) (hK : (Zhk Kf p at_ n)) (h : Zvx p at_ n) : SemL Try.prog w0 fp ρi 0 46 [Zrm, .ret] [] Zhe (Zeo w0 fp ρi Kf p at_ n) :=
  Zae Zdn (ZHO p at_ n _ (Zba (R := ZcA) (m := 0) (Kf := Kf) (fun _ _ h => h) (ZDA p at_ n) (Za3 rfl (by kernel_rfl) (cg3 (fun (z1 z2 z3 : Int) => (.tuple [.int .i64 z1, .int .i64 z2, .int .i64 z3] : SVal)) h.1 h.2.1 h.2.2) hK)))
abbrev ZP9 (x0 : Int) : Env := [(6, some (.int .i64 (IntKind.i64.wrap (Int.tdiv x0 32)))), (7, some (.int .i64 (Int.tmod x0 32))), (8, some (.int .i64 0))]
theorem ZHN (p : PlanV) (at_ n : Int) (Z : Env -> Heap -> Prop) (h : (((32 : Int) ≠ 0)) /\ (((32 : Int) ≠ 0)) /\ Z (ZP9 at_) Zhe) : EvC ZdO Zha [(1, some (.int .i64 at_))] Zhe [6, 7, 8] [] Z := EvC.of (by kernel_rfl) h
theorem ZDz (p : PlanV) (at_ n : Int) : RetC ZcA (ZP9 at_) Zhe (.tuple [.int .i64 (IntKind.i64.wrap (Int.tdiv at_ 32)), .int .i64 (Int.tmod at_ 32), .int .i64 0]) := RetC.of (fun Z => by kernel_rfl)
def Zvw (p : PlanV) (at_ n : Int) : Prop := ((IntKind.i64.wrap (Int.tdiv at_ 32)) = (PlanV.lnOf p at_ n)) /\ ((Int.tmod at_ 32) = (PlanV.offOf p at_ n)) /\ (0 = (PlanV.codeOf p at_ n))
theorem ZKF (p : PlanV) (at_ n : Int) (hK : (Zhk Kf p at_ n)) (h : Zvw p at_ n) : SemL Try.prog w0 fp ρi 0 46 [Zha, .ret] [(1, some (.int .i64 at_))] Zhe (fnK ZcA 0 Kf) :=
  Zae Zdn (ZHN p at_ n _ ⟨(by decide), ⟨(by decide), (Zba (R := ZcA) (m := 0) (Kf := Kf) (fun _ _ h => h) (ZDz p at_ n) (Za3 rfl (by kernel_rfl) (cg3 (fun (z1 z2 z3 : Int) => (.tuple [.int .i64 z1, .int .i64 z2, .int .i64 z3] : SVal)) h.1 h.2.1 h.2.2) hK))⟩⟩)
def Zvv (p : PlanV) (at_ n : Int) : Prop := (((Int.tmod at_ n) != 0) = true -> (Zvx p at_ n)) /\ (((Int.tmod at_ n) != 0) = false -> (Zvw p at_ n))
theorem ZKE (p : PlanV) (at_ n : Int) (hK : (Zhk Kf p at_ n)) (h : Zvv p at_ n) : SemL Try.prog w0 fp ρi 0 46 [Zrl] [(1, some (.int .i64 at_)), (37, some (.bool ((Int.tmod at_ n) != 0)))] Zhe (Zeo w0 fp ρi Kf p at_ n) :=
  Zbf (q := ((Int.tmod at_ n) != 0)) (by kernel_rfl) (fun hq => (Zag (lpk [] [] (ZKG p at_ n hK (h.1 hq))))) (fun hq => (Zbu (Zej (lpk [1] [] (Zag (ZKF p at_ n hK (h.2 hq)))))))
theorem ZHM (p : PlanV) (at_ n : Int) (Z : Env -> Heap -> Prop) (h : ((n ≠ 0)) /\ Z [(1, some (.int .i64 at_)), (37, some (.bool ((Int.tmod at_ n) != 0)))] Zhe) : EvC ZdO Zrn [(1, some (.int .i64 at_)), (2, some (.int .i64 n))] Zhe [1, 37] [] Z := EvC.of (by kernel_rfl) h
def Zvu (p : PlanV) (at_ n : Int) : Prop := ((n ≠ 0)) /\ (Zvv p at_ n)
theorem ZKD (p : PlanV) (at_ n : Int) (hK : (Zhk Kf p at_ n)) (h : Zvu p at_ n) : SemL Try.prog w0 fp ρi 0 46 [Zrn, Zrl] [(1, some (.int .i64 at_)), (2, some (.int .i64 n))] Zhe (Zeo w0 fp ρi Kf p at_ n) :=
  Zae Zdn (ZHM p at_ n _ ⟨h.1, (ZKE p at_ n hK h.2)⟩)
def Zvt (p : PlanV) (at_ n : Int) : Prop := (((decide (at_ < 0)) || (decide ((PlanV.tags p) <= at_))) = true -> (Zvy p at_ n)) /\ (((decide (at_ < 0)) || (decide ((PlanV.tags p) <= at_))) = false -> (Zvu p at_ n))
theorem ZKC (p : PlanV) (at_ n : Int) (hK : (Zhk Kf p at_ n)) (h : Zvt p at_ n) : SemL Try.prog w0 fp ρi 0 46 [ZmM] [(1, some (.int .i64 at_)), (2, some (.int .i64 n)), (28, some (.bool ((decide (at_ < 0)) || (decide ((PlanV.tags p) <= at_)))))] Zhe (Zeo w0 fp ρi Kf p at_ n) :=
  Zbf (q := ((decide (at_ < 0)) || (decide ((PlanV.tags p) <= at_)))) (by kernel_rfl) (fun hq => (Zag (lpk [] [] (ZKH p at_ n hK (h.1 hq))))) (fun hq => (Zag (lpk [1, 2] [] (ZKD p at_ n hK (h.2 hq)))))
abbrev Zgm (x0 : PlanV) : Heap := ⟨1, [(0, some ⟨true, (PlanV.cs x0), 0⟩)]⟩
abbrev Zsp (x0 x1 : Int) : Env := [(1, some (.int .i64 x0)), (2, some (.int .i64 x1)), (3, some (.ptr ⟨0, 0, 0, 1⟩ 46))]
theorem ZHL (p : PlanV) (at_ n : Int) (Z : Env -> Heap -> Prop) (h : ∃ qq'3 : Bool, ((decide (at_ < 0)) = false -> (True) /\ (ZaK (Zgm p) (Zgm p) [(0, some ⟨true, (PlanV.cs p), 0⟩)]) /\ (decide ((PlanV.tags p) <= at_)) = qq'3) /\ ((decide (at_ < 0)) = true -> true = qq'3) /\ Z [(1, some (.int .i64 at_)), (2, some (.int .i64 n)), (28, some (.bool qq'3))] Zhe) : EvC ZdO Zrp (Zsp at_ n) (Zgm p) [1, 2, 28] [] Z := EvC.of (by kernel_rfl) h
def Zvs (p : PlanV) (at_ n : Int) : Prop := Zvt p at_ n
theorem ZKB (p : PlanV) (at_ n : Int) (hK : (Zhk Kf p at_ n)) (h : Zvs p at_ n) : SemL Try.prog w0 fp ρi 0 46 [Zrp, ZmM] (Zsp at_ n) (Zgm p) (Zeo w0 fp ρi Kf p at_ n) :=
  Zae Zdn (ZHL p at_ n _ ⟨((decide (at_ < 0)) || (decide ((PlanV.tags p) <= at_))), fun hc_qq_3 => ⟨True.intro, ⟨(ZaT _), (qo1 hc_qq_3)⟩⟩, fun hc_qq_3 => qo2 hc_qq_3, (ZKC p at_ n hK h)⟩)
def Zvr (p : PlanV) (at_ n : Int) : Prop := (((((n != 1) && (n != 2)) && (n != 4)) && (n != 8)) = true -> (Zvz p at_ n)) /\ (((((n != 1) && (n != 2)) && (n != 4)) && (n != 8)) = false -> (Zvs p at_ n))
theorem ZKA (p : PlanV) (at_ n : Int) (hK : (Zhk Kf p at_ n)) (h : Zvr p at_ n) : SemL Try.prog w0 fp ρi 0 46 [ZmL] [(1, some (.int .i64 at_)), (2, some (.int .i64 n)), (3, some (.ptr ⟨0, 0, 0, 1⟩ 46)), (13, some (.bool ((((n != 1) && (n != 2)) && (n != 4)) && (n != 8))))] (Zgm p) (Zeo w0 fp ρi Kf p at_ n) :=
  Zbf (q := ((((n != 1) && (n != 2)) && (n != 4)) && (n != 8))) (by kernel_rfl) (fun hq => (Zag (lpk [] [] (ZKI p at_ n hK (h.1 hq))))) (fun hq => (Zag (lpk [1, 2, 3] [0] (ZKB p at_ n hK (h.2 hq)))))
theorem ZCo (p : PlanV) (at_ n : Int) (Z : Env -> Heap -> Prop) (h : ∃ qq : Bool, ((n != 1) = true -> (ZaK (Zgm p) (Zgm p) [(0, some ⟨true, (PlanV.cs p), 0⟩)]) /\ (n != 2) = qq) /\ ((n != 1) = false -> false = qq) /\ ∃ qq'1 : Bool, (qq = true -> (ZaK (Zgm p) (Zgm p) [(0, some ⟨true, (PlanV.cs p), 0⟩)]) /\ (n != 4) = qq'1) /\ (qq = false -> false = qq'1) /\ ∃ qq'2 : Bool, (qq'1 = true -> (ZaK (Zgm p) (Zgm p) [(0, some ⟨true, (PlanV.cs p), 0⟩)]) /\ (n != 8) = qq'2) /\ (qq'1 = false -> false = qq'2) /\ Z [(1, some (.int .i64 at_)), (2, some (.int .i64 n)), (3, some (.ptr ⟨0, 0, 0, 1⟩ 46)), (13, some (.bool qq'2))] (Zgm p)) : EvC ZdO Zrr (Zsp at_ n) (Zgm p) [1, 2, 3, 13] [0] Z := EvC.of (by kernel_rfl) h
def Zpf (p : PlanV) (at_ n : Int) : Prop := Zvr p at_ n
theorem ZEu (p : PlanV) (at_ n : Int) (hK : (Zhk Kf p at_ n)) (h : Zpf p at_ n) : SemL Try.prog w0 fp ρi 0 46 [Zrr, ZmL] (Zsp at_ n) (Zgm p) (Zeo w0 fp ρi Kf p at_ n) :=
  Zae Zdn (ZCo p at_ n _ ⟨((n != 1) && (n != 2)), fun hc_qq => ⟨(ZaT _), (qa1 hc_qq)⟩, fun hc_qq => qa2 hc_qq, ⟨(((n != 1) && (n != 2)) && (n != 4)), fun hc_qq_1 => ⟨(ZaT _), (qa1 hc_qq_1)⟩, fun hc_qq_1 => qa2 hc_qq_1, ⟨((((n != 1) && (n != 2)) && (n != 4)) && (n != 8)), fun hc_qq_2 => ⟨(ZaT _), (qa1 hc_qq_2)⟩, fun hc_qq_2 => qa2 hc_qq_2, (ZKA p at_ n hK h)⟩⟩⟩)
def Zpe (p : PlanV) (at_ n : Int) : Prop := ((!(PlanV.right p)) = true -> (ZvA p at_ n)) /\ ((!(PlanV.right p)) = false -> (Zpf p at_ n))
abbrev ZP8 (x0 x1 : Int) (x2 : PlanV) : Env := [(1, some (.int .i64 x0)), (2, some (.int .i64 x1)), (3, some (.ptr ⟨0, 0, 0, 1⟩ 46)), (9, some (.bool (!(PlanV.right x2))))]
theorem ZEt (p : PlanV) (at_ n : Int) (hK : (Zhk Kf p at_ n)) (h : Zpe p at_ n) : SemL Try.prog w0 fp ρi 0 46 [ZmK] (ZP8 at_ n p) (Zgm p) (Zeo w0 fp ρi Kf p at_ n) :=
  Zbf (q := (!(PlanV.right p))) (by kernel_rfl) (fun hq => (Zag (lpk [] [] (ZKJ p at_ n hK (h.1 hq))))) (fun hq => (Zag (lpk [1, 2, 3] [0] (ZEu p at_ n hK (h.2 hq)))))
theorem ZCn (p : PlanV) (at_ n : Int) (Z : Env -> Heap -> Prop) (h : (True) /\ Z (ZP8 at_ n p) (Zgm p)) : EvC ZdO Zrt (Zsp at_ n) (Zgm p) [1, 2, 3, 9] [0] Z := EvC.of (by kernel_rfl) h
def Zpd (p : PlanV) (at_ n : Int) : Prop := Zpe p at_ n
theorem ZEs (p : PlanV) (at_ n : Int) (hK : (Zhk Kf p at_ n)) (h : Zpd p at_ n) : SemL Try.prog w0 fp ρi 0 46 [Zrt, ZmK] (Zsp at_ n) (Zgm p) (Zeo w0 fp ρi Kf p at_ n) :=
  Zae Zdn (ZCn p at_ n _ ⟨True.intro, (ZEt p at_ n hK h)⟩)
def Zpc (p : PlanV) (at_ n : Int) : Prop := Zpd p at_ n
theorem ZEr (p : PlanV) (at_ n : Int) (hK : (Zhk Kf p at_ n)) (h : Zpc p at_ n) : SemL Try.prog w0 fp ρi 0 46 [ZmJ, (.seq Zha .ret)] (Zsp at_ n) (Zgm p) (fnK ZcA 0 Kf) :=
  Zb4 (Zag (ZEs p at_ n hK h))
abbrev ZGF (x0 : PlanV) (x1 x2 : Int) : Env := [(0, some (.agg (PlanV.cs x0))), (1, some (.int .i64 x1)), (2, some (.int .i64 x2))]
theorem ZCm (p : PlanV) (at_ n : Int) (Z : Env -> Heap -> Prop) (h : Z (Zsp at_ n) (Zgm p)) : EvC ZdO Zru (ZGF p at_ n) Yc4 [1, 2, 3] [0] Z := EvC.of (by kernel_rfl) h
def Zpb (p : PlanV) (at_ n : Int) : Prop := Zpc p at_ n
theorem ZEq (p : PlanV) (at_ n : Int) (hK : (Zhk Kf p at_ n)) (h : Zpb p at_ n) : SemL Try.prog w0 fp ρi 0 46 [Zru, (.seq ZmJ (.seq Zha .ret))] (ZGF p at_ n) Yc4 (fnK ZcA 0 Kf) :=
  Zae Zdn (ZCm p at_ n _ (Zag (ZEr p at_ n hK h)))
def ZjL (p : PlanV) (at_ n : Int) : Prop := Zpb p at_ n
theorem Zzk (p : PlanV) (at_ n : Int) (hK : (Zhk Kf p at_ n)) (h : ZjL p at_ n) : SemL Try.prog w0 fp ρi 0 46 [Ztt] (ZGF p at_ n) Yc4 (fnK ZcA 0 Kf) :=
  (Zag (ZEq p at_ n hK h))
end
theorem ZxK (p : PlanV) (at_ n : Int) (hpre : (I64 at_ /\ I64 n)) : ZjL p at_ n := by
  unfold ZjL Zpb Zpc Zpd Zpe Zpf Zvr Zvs Zvt Zvu Zvv Zvw Zvx Zvy Zvz ZvA
  have hn4 : (n != 1 && n != 2 && n != 4 && n != 8) = !(decide (n = 1 ∨ n = 2 ∨ n = 4 ∨ n = 8)) := by
    rw [Bool.eq_iff_iff]
    simp only [Bool.and_eq_true, bne_iff_ne, ne_eq, Bool.not_eq_true', decide_eq_false_iff_not]
    omega
  rw [hn4]
  have ha := _root_.Go.Sx.PlanV.all_le p
  have ht : p.tags = p.all * 32 := rfl
  have hw := hpre.1
  unfold I64 at hw
  refine ⟨fun h => PlanV.line_bad (PlanV.code4 (ZfR h)) (by decide), fun h => ?_⟩
  have hr := Zfw h
  refine ⟨fun h => PlanV.line_bad (PlanV.code1 hr (of_decide_eq_false (ZfR h))) (by decide), fun h => ?_⟩
  have hn := of_decide_eq_true (Zfw h)
  refine ⟨fun h => ?_, fun h => ?_⟩
  · simp only [Bool.or_eq_true, decide_eq_true_eq] at h
    exact PlanV.line_bad (PlanV.code2 hr hn (by omega)) (by decide)
  simp only [Bool.or_eq_false_iff, decide_eq_false_iff_not] at h
  refine ⟨by omega, fun h1 => ?_, fun h1 => ?_⟩
  · rw [Int.tmod_eq_emod_of_nonneg (by omega), bne_iff_ne] at h1
    exact PlanV.line_bad (PlanV.code9 hr hn (by omega) h1) (by decide)
  · rw [Int.tmod_eq_emod_of_nonneg (by omega), bne_eq_false_iff_eq] at h1
    have := PlanV.line_ok (PlanV.code0 hr hn (by omega) h1)
    rw [Int.tmod_eq_emod_of_nonneg (by omega), Int.tdiv_eq_ediv_of_nonneg (by omega), Zhl]
    exact ⟨by rw [<- this.1]; omega, this.2⟩
theorem Zzr : Sound Try.prog 73 (Zed ZnT) := by
  refine Zbx ZnH ?_
  intro args H K h
  obtain ⟨pre, v, hP, hpre, rfl, hK⟩ := ZbH h
  unfold ZnT at hP
  split at hP
  · obtain ⟨hb, hP⟩ := ZaP hP
    simp only [Bool.and_eq_true] at hb
    obtain ⟨h0, h1⟩ := hb
    obtain rfl := Nat.eq_of_beq_eq_true h0
    obtain rfl := Nat.eq_of_beq_eq_true h1
    cases hP
    exact ⟨rfl, fun w0 fp ρi => Zzk (PlanV.mk _ _ _ _ _ _ _ _ _ _ _ _ _ _ _ _) _ _ hK (ZxK (PlanV.mk _ _ _ _ _ _ _ _ _ _ _ _ _ _ _ _) _ _ hpre)⟩
  · cases hP
def Zy6 : Zez := fun args => match args with
  | [.agg [.one (.int .i64 p_0), .one (.int .i64 p_1), .one (.int .i64 p_2), .one (.int .i64 p_3), .one (.int .i64 p_4), .one (.int .i64 p_5), .one (.int .u64 p_6), .one (.int .i64 p_7), .one (.int .i64 p_8), .one (.int .i64 p_9), .one (.int .i64 p_10), .one (.int .i64 p_11), .one (.int .i64 p_12), .one (.int .i64 p_13), .ints .u8 p_14_n p_14, .ints .u8 p_15_n p_15], .int .i64 at_, .int .i64 n] => bif Nat.beq p_14_n 16 && Nat.beq p_15_n 16 then some ((I64 at_ /\ I64 n), .tuple [.int .i64 (PlanV.lnOf (PlanV.mk p_0 p_1 p_2 p_3 p_4 p_5 p_6 p_7 p_8 p_9 p_10 p_11 p_12 p_13 p_14 p_15) at_ n), .int .i64 (PlanV.offOf (PlanV.mk p_0 p_1 p_2 p_3 p_4 p_5 p_6 p_7 p_8 p_9 p_10 p_11 p_12 p_13 p_14 p_15) at_ n), .int .i64 (PlanV.codeOf (PlanV.mk p_0 p_1 p_2 p_3 p_4 p_5 p_6 p_7 p_8 p_9 p_10 p_11 p_12 p_13 p_14 p_15) at_ n)]) else none
  | _ => none
def ZFV : PCon := ⟨79, Zy6⟩
def Zra : ACode := .reg (.op (some 3) (.box (.tm 0)) (.op (some 6) (.mov (.cn (.int .i64 0))) (.op (some 7) (.mov (.cn (.int .i64 0))) (.op (some 8) (.mov (.cn (.int .i64 0))) .nil))))
def ZmG : ACode := .reg (.op (some 11) (.loadA 46 (.tm 3)) (.op (some 12) (.call 29 [(.tm 11)]) (.op (some 13) (.not (.tm 12)) .nil)))
def Zq9 : ACode := .reg (.op (some 6) (.mov (.cn (.int .i64 0))) (.op (some 7) (.mov (.cn (.int .i64 0))) (.op (some 8) (.mov (.cn (.int .i64 4))) .nil)))
def ZmE : ACode := .cond (.tm 13) (.seq Zq9 .ret) .skip
def Zhu : ACode := .reg (.op (some 14) (.mov (.tm 2)) (.op (some 15) (.bin .neq (.tm 14) (.cn (.int .i64 1))) (.op (some 16) (.mov (.tm 15)) (.grpJ 16 true (.op (some 17) (.mov (.tm 2)) (.op (some 18) (.bin .neq (.tm 17) (.cn (.int .i64 2))) .nil)) 19 (.tm 18) (.cn (.bool false)) (.op (some 20) (.mov (.tm 19)) (.grpJ 20 true (.op (some 21) (.mov (.tm 2)) (.op (some 22) (.bin .neq (.tm 21) (.cn (.int .i64 4))) .nil)) 23 (.tm 22) (.cn (.bool false)) (.op (some 24) (.mov (.tm 23)) (.grpJ 24 true (.op (some 25) (.mov (.tm 2)) (.op (some 26) (.bin .neq (.tm 25) (.cn (.int .i64 8))) .nil)) 27 (.tm 26) (.cn (.bool false)) .nil))))))))
def Zq8 : ACode := .reg (.op (some 6) (.mov (.cn (.int .i64 0))) (.op (some 7) (.mov (.cn (.int .i64 0))) (.op (some 8) (.mov (.cn (.int .i64 1))) .nil)))
def Zht : ACode := .cond (.tm 27) (.seq Zq8 .ret) .skip
def Zfi : ACode := .reg (.op (some 29) (.loadA 46 (.tm 3)) (.op (some 30) (.mov (.tm 1)) (.op (some 31) (.call 88 [(.tm 29), (.tm 30)]) (.op (some 28) (.mov (.tm 31)) (.op (some 32) (.extract (.tm 28) 0) (.op (some 33) (.extract (.tm 28) 1) (.op (some 9) (.alloc [.one (.int .i64 0), .one (.int .i64 0), .one (.int .i64 0), .one (.int .i64 0), .one (.int .i64 0)]) (.op none (.storeA 5 (.tm 9) (.tm 32)) (.op (some 10) (.mov (.tm 33)) .nil)))))))))
def ZeK : ACode := .reg (.op (some 34) (.mov (.tm 10)) (.op (some 35) (.not (.tm 34)) (.op (some 36) (.mov (.tm 35)) (.grpJ 36 false (.op (some 37) (.fieldAddr (.tm 9) 0 1) (.op (some 38) (.load1 (.tm 37)) (.op (some 39) (.bin .neq (.tm 38) (.cn (.int .i64 1))) .nil))) 40 (.tm 39) (.cn (.bool true)) .nil))))
def Zq7 : ACode := .reg (.op (some 6) (.mov (.cn (.int .i64 0))) (.op (some 7) (.mov (.cn (.int .i64 0))) (.op (some 8) (.mov (.cn (.int .i64 2))) .nil)))
def ZdJ : ACode := .cond (.tm 40) (.seq Zq7 .ret) .skip
def ZcZ : ACode := .reg (.op (some 41) (.mov (.tm 1)) (.op (some 42) (.mov (.tm 2)) (.op (some 43) (.bin .rem (.tm 41) (.tm 42)) (.op (some 44) (.bin .neq (.tm 43) (.cn (.int .i64 0))) .nil))))
def ZmF : ACode := .reg (.op (some 6) (.mov (.cn (.int .i64 0))) (.op (some 7) (.mov (.cn (.int .i64 0))) (.op (some 8) (.mov (.cn (.int .i64 9))) .nil)))
def ZcY : ACode := .cond (.tm 44) (.seq ZmF .ret) .skip
def Zkg : Items := .op (some 45) (.fieldAddr (.tm 9) 1 1) (.op (some 46) (.load1 (.tm 45)) (.op (some 47) (.fieldAddr (.tm 9) 4 1) (.op (some 48) (.load1 (.tm 47)) (.op (some 6) (.mov (.tm 46)) (.op (some 7) (.mov (.tm 48)) (.op (some 8) (.mov (.cn (.int .i64 0))) .nil))))))
def ZcH : ACode := .regQ Zkg
def ZBy : ACode := (.seq Zra (.seq (.seq ZmG ZmE) (.seq (.seq Zhu Zht) (.seq Zfi (.seq (.seq ZeK ZdJ) (.seq (.seq ZcZ ZcY) (.seq ZcH .ret)))))))
def ZcN : Res := .many [.tm 6, .tm 7, .tm 8]
theorem Zsf : ZbD Try.prog 79 3 49 ZBy ZcN = true := by kernel_rfl
def Zgk : Za8 := ZdW [Zjq, ZAq] []
theorem ZeI : Za9 Try.prog Zgk := ZbI ⟨Zl4, ZCd, trivial⟩ trivial
section
variable {w0 : World} {fp : Nat -> Nat -> Prop} {ρi : Rho} {Kf : SVal -> Heap -> Prop}
theorem ZHA (p : PlanV) (at_ n : Int) (Z : Env -> Heap -> Prop) (h : Z ZNk Zhe) : EvC Zgk Zq9 [] Zhe [6, 7, 8] [] Z := EvC.of (by kernel_rfl) h
theorem ZDt (p : PlanV) (at_ n : Int) : RetC ZcN ZNk Zhe (.tuple [.int .i64 0, .int .i64 0, .int .i64 4]) := RetC.of (fun Z => by kernel_rfl)
def Zvd (p : PlanV) (at_ n : Int) : Prop := (0 = (PlanV.lnOf p at_ n)) /\ (0 = (PlanV.offOf p at_ n)) /\ (4 = (PlanV.codeOf p at_ n))
theorem ZKm (p : PlanV) (at_ n : Int) (hK : (Zhk Kf p at_ n)) (h : Zvd p at_ n) : SemL Try.prog w0 fp ρi 0 49 [Zq9, .ret, (.seq (.seq Zhu Zht) (.seq Zfi (.seq (.seq ZeK ZdJ) (.seq (.seq ZcZ ZcY) (.seq ZcH .ret)))))] [] Zhe (fnK ZcN 0 Kf) :=
  Zae ZeI (ZHA p at_ n _ (Zba (R := ZcN) (m := 0) (Kf := Kf) (fun _ _ h => h) (ZDt p at_ n) (Za3 rfl (by kernel_rfl) (cg3 (fun (z1 z2 z3 : Int) => (.tuple [.int .i64 z1, .int .i64 z2, .int .i64 z3] : SVal)) h.1 h.2.1 h.2.2) hK)))
theorem ZHz (p : PlanV) (at_ n : Int) (Z : Env -> Heap -> Prop) (h : Z ZNj Zhe) : EvC Zgk Zq8 [] Zhe [6, 7, 8] [] Z := EvC.of (by kernel_rfl) h
theorem ZDs (p : PlanV) (at_ n : Int) : RetC ZcN ZNj Zhe (.tuple [.int .i64 0, .int .i64 0, .int .i64 1]) := RetC.of (fun Z => by kernel_rfl)
def Zvc (p : PlanV) (at_ n : Int) : Prop := (0 = (PlanV.lnOf p at_ n)) /\ (0 = (PlanV.offOf p at_ n)) /\ (1 = (PlanV.codeOf p at_ n))
theorem ZKl (p : PlanV) (at_ n : Int) (hK : (Zhk Kf p at_ n)) (h : Zvc p at_ n) : SemL Try.prog w0 fp ρi 0 49 [Zq8, .ret, (.seq Zfi (.seq (.seq ZeK ZdJ) (.seq (.seq ZcZ ZcY) (.seq ZcH .ret))))] [] Zhe (fnK ZcN 0 Kf) :=
  Zae ZeI (ZHz p at_ n _ (Zba (R := ZcN) (m := 0) (Kf := Kf) (fun _ _ h => h) (ZDs p at_ n) (Za3 rfl (by kernel_rfl) (cg3 (fun (z1 z2 z3 : Int) => (.tuple [.int .i64 z1, .int .i64 z2, .int .i64 z3] : SVal)) h.1 h.2.1 h.2.2) hK)))
theorem ZHy (p : PlanV) (at_ n : Int) (Z : Env -> Heap -> Prop) (h : Z ZNi ⟨2, []⟩) : EvC Zgk Zq7 [] ⟨2, []⟩ [6, 7, 8] [] Z := EvC.of (by kernel_rfl) h
theorem ZDr (p : PlanV) (at_ n : Int) : RetC ZcN ZNi ⟨2, []⟩ (.tuple [.int .i64 0, .int .i64 0, .int .i64 2]) := RetC.of (fun Z => by kernel_rfl)
def Zvb (p : PlanV) (at_ n : Int) : Prop := (0 = (PlanV.lnOf p at_ n)) /\ (0 = (PlanV.offOf p at_ n)) /\ (2 = (PlanV.codeOf p at_ n))
theorem ZKk (p : PlanV) (at_ n : Int) (hK : (Zhk Kf p at_ n)) (h : Zvb p at_ n) : SemL Try.prog w0 fp ρi 0 49 [Zq7, .ret, (.seq (.seq ZcZ ZcY) (.seq ZcH .ret))] [] ⟨2, []⟩ (fnK ZcN 0 Kf) :=
  Zae ZeI (ZHy p at_ n _ (Zba (R := ZcN) (m := 0) (Kf := Kf) (fun _ _ h => h) (ZDr p at_ n) (Za3 rfl (by kernel_rfl) (cg3 (fun (z1 z2 z3 : Int) => (.tuple [.int .i64 z1, .int .i64 z2, .int .i64 z3] : SVal)) h.1 h.2.1 h.2.2) hK)))
theorem ZHx (p : PlanV) (at_ n : Int) (Z : Env -> Heap -> Prop) (h : Z ZNh ⟨2, []⟩) : EvC Zgk ZmF [] ⟨2, []⟩ [6, 7, 8] [] Z := EvC.of (by kernel_rfl) h
theorem ZDq (p : PlanV) (at_ n : Int) : RetC ZcN ZNh ⟨2, []⟩ (.tuple [.int .i64 0, .int .i64 0, .int .i64 9]) := RetC.of (fun Z => by kernel_rfl)
def Zva (p : PlanV) (at_ n : Int) : Prop := (0 = (PlanV.lnOf p at_ n)) /\ (0 = (PlanV.offOf p at_ n)) /\ (9 = (PlanV.codeOf p at_ n))
theorem ZKj (p : PlanV) (at_ n : Int) (hK : (Zhk Kf p at_ n)) (h : Zva p at_ n) : SemL Try.prog w0 fp ρi 0 49 [ZmF, .ret, (.seq ZcH .ret)] [] ⟨2, []⟩ (fnK ZcN 0 Kf) :=
  Zae ZeI (ZHx p at_ n _ (Zba (R := ZcN) (m := 0) (Kf := Kf) (fun _ _ h => h) (ZDq p at_ n) (Za3 rfl (by kernel_rfl) (cg3 (fun (z1 z2 z3 : Int) => (.tuple [.int .i64 z1, .int .i64 z2, .int .i64 z3] : SVal)) h.1 h.2.1 h.2.2) hK)))
abbrev ZP7 (x0 : PlaceV) : Env := [(6, some (.int .i64 x0.pline)), (7, some (.int .i64 x0.poff)), (8, some (.int .i64 0))]
abbrev Zug (x0 : PlaceV) : Heap := ⟨2, [(1, some ⟨true, (PlaceV.cs x0), 0⟩)]⟩
theorem ZHw (p : PlanV) (at_ n : Int) (h1 : PlaceV) (Z : Env -> Heap -> Prop) (h : Z (ZP7 h1) ⟨2, []⟩) : EvQC Zgk Zkg [] [(9, some (.ptr ⟨1, 0, 0, 1⟩ 5))] (Zug h1) [6, 7, 8] [] Z := EvQC.of (by kernel_rfl) h
theorem ZDp (p : PlanV) (at_ n : Int) (h1 : PlaceV) : RetC ZcN (ZP7 h1) ⟨2, []⟩ (.tuple [.int .i64 h1.pline, .int .i64 h1.poff, .int .i64 0]) := RetC.of (fun Z => by kernel_rfl)
def Zu9 (p : PlanV) (at_ n : Int) (h1 : PlaceV) : Prop := (h1.pline = (PlanV.lnOf p at_ n)) /\ (h1.poff = (PlanV.offOf p at_ n)) /\ (0 = (PlanV.codeOf p at_ n))
theorem ZKi (p : PlanV) (at_ n : Int) (hK : (Zhk Kf p at_ n)) (h1 : PlaceV) (h : Zu9 p at_ n h1) : SemL Try.prog w0 fp ρi 0 49 [ZcH, .ret] [(9, some (.ptr ⟨1, 0, 0, 1⟩ 5))] (Zug h1) (fnK ZcN 0 Kf) :=
  Zi0 ZeI (its := Zkg) (ZHw p at_ n h1 _ (Zba (R := ZcN) (m := 0) (Kf := Kf) (fun _ _ h => h) (ZDp p at_ n h1) (Za3 rfl (by kernel_rfl) (cg3 (fun (z1 z2 z3 : Int) => (.tuple [.int .i64 z1, .int .i64 z2, .int .i64 z3] : SVal)) h.1 h.2.1 h.2.2) hK)))
def Zu8 (p : PlanV) (at_ n : Int) (h1 : PlaceV) : Prop := (((Int.tmod at_ n) != 0) = true -> (Zva p at_ n)) /\ (((Int.tmod at_ n) != 0) = false -> (Zu9 p at_ n h1))
abbrev ZP6 (x0 x1 : Int) : Env := [(9, some (.ptr ⟨1, 0, 0, 1⟩ 5)), (44, some (.bool ((Int.tmod x0 x1) != 0)))]
theorem ZKh (p : PlanV) (at_ n : Int) (hK : (Zhk Kf p at_ n)) (h1 : PlaceV) (h : Zu8 p at_ n h1) : SemL Try.prog w0 fp ρi 0 49 [ZcY, (.seq ZcH .ret)] (ZP6 at_ n) (Zug h1) (fnK ZcN 0 Kf) :=
  Zbf (q := ((Int.tmod at_ n) != 0)) (by kernel_rfl) (fun hq => (Zag (lpk [] [] (ZKj p at_ n hK (h.1 hq))))) (fun hq => (Zbu (lpk [9] [1] (Zag (ZKi p at_ n hK h1 (h.2 hq))))))
abbrev ZP5 (x0 x1 : Int) : Env := [(1, some (.int .i64 x0)), (2, some (.int .i64 x1)), (9, some (.ptr ⟨1, 0, 0, 1⟩ 5))]
theorem ZHv (p : PlanV) (at_ n : Int) (h1 : PlaceV) (Z : Env -> Heap -> Prop) (h : ((n ≠ 0)) /\ Z (ZP6 at_ n) (Zug h1)) : EvC Zgk ZcZ (ZP5 at_ n) (Zug h1) [9, 44] [1] Z := EvC.of (by kernel_rfl) h
def Zu7 (p : PlanV) (at_ n : Int) (h1 : PlaceV) : Prop := ((n ≠ 0)) /\ (Zu8 p at_ n h1)
theorem ZKg (p : PlanV) (at_ n : Int) (hK : (Zhk Kf p at_ n)) (h1 : PlaceV) (h : Zu7 p at_ n h1) : SemL Try.prog w0 fp ρi 0 49 [ZcZ, ZcY, (.seq ZcH .ret)] (ZP5 at_ n) (Zug h1) (fnK ZcN 0 Kf) :=
  Zae ZeI (ZHv p at_ n h1 _ ⟨h.1, (ZKh p at_ n hK h1 h.2)⟩)
def Zu6 (p : PlanV) (at_ n : Int) (h1 : PlaceV) : Prop := (((!(PlanV.placeB p at_)) || (h1.pkind != 1)) = true -> (Zvb p at_ n)) /\ (((!(PlanV.placeB p at_)) || (h1.pkind != 1)) = false -> (Zu7 p at_ n h1))
theorem ZKf (p : PlanV) (at_ n : Int) (hK : (Zhk Kf p at_ n)) (h1 : PlaceV) (h : Zu6 p at_ n h1) : SemL Try.prog w0 fp ρi 0 49 [ZdJ, (.seq (.seq ZcZ ZcY) (.seq ZcH .ret))] [(1, some (.int .i64 at_)), (2, some (.int .i64 n)), (9, some (.ptr ⟨1, 0, 0, 1⟩ 5)), (40, some (.bool ((!(PlanV.placeB p at_)) || (h1.pkind != 1))))] (Zug h1) (fnK ZcN 0 Kf) :=
  Zbf (q := ((!(PlanV.placeB p at_)) || (h1.pkind != 1))) (by kernel_rfl) (fun hq => (Zag (lpk [] [] (ZKk p at_ n hK (h.1 hq))))) (fun hq => (Zbu (lpk [1, 2, 9] [1] (Zag (Zag (ZKg p at_ n hK h1 (h.2 hq)))))))
abbrev ZOu (x0 x1 : Int) (x2 : PlanV) : Env := [(1, some (.int .i64 x0)), (2, some (.int .i64 x1)), (9, some (.ptr ⟨1, 0, 0, 1⟩ 5)), (10, some (.bool (PlanV.placeB x2 x0)))]
theorem ZHu (p : PlanV) (at_ n : Int) (h1 : PlaceV) (Z : Env -> Heap -> Prop) (h : ∃ qq'3 : Bool, ((!(PlanV.placeB p at_)) = false -> (ZaK (Zug h1) (Zug h1) [(1, some ⟨true, (PlaceV.cs h1), 0⟩)]) /\ (h1.pkind != 1) = qq'3) /\ ((!(PlanV.placeB p at_)) = true -> true = qq'3) /\ Z [(1, some (.int .i64 at_)), (2, some (.int .i64 n)), (9, some (.ptr ⟨1, 0, 0, 1⟩ 5)), (40, some (.bool qq'3))] (Zug h1)) : EvC Zgk ZeK (ZOu at_ n p) (Zug h1) [1, 2, 9, 40] [1] Z := EvC.of (by kernel_rfl) h
def Zu5 (p : PlanV) (at_ n : Int) (h1 : PlaceV) : Prop := Zu6 p at_ n h1
theorem ZKe (p : PlanV) (at_ n : Int) (hK : (Zhk Kf p at_ n)) (h1 : PlaceV) (h : Zu5 p at_ n h1) : SemL Try.prog w0 fp ρi 0 49 [ZeK, ZdJ, (.seq (.seq ZcZ ZcY) (.seq ZcH .ret))] (ZOu at_ n p) (Zug h1) (fnK ZcN 0 Kf) :=
  Zae ZeI (ZHu p at_ n h1 _ ⟨((!(PlanV.placeB p at_)) || (h1.pkind != 1)), fun hc_qq_3 => ⟨(ZaT _), (qo1 hc_qq_3)⟩, fun hc_qq_3 => qo2 hc_qq_3, (ZKf p at_ n hK h1 h)⟩)
theorem ZHt (p : PlanV) (at_ n : Int) (Z : Env -> Heap -> Prop) (h : ((I64 at_)) /\ Z (ZOu at_ n p) ⟨2, [(1, some ⟨true, (PlaceV.cs (PlanV.placeOf p at_)), 0⟩)]⟩) : EvC Zgk Zfi (Zsp at_ n) (Zgm p) [1, 2, 9, 10] [1] Z := EvC.of (by kernel_rfl) h
def Zu4 (p : PlanV) (at_ n : Int) : Prop := ((I64 at_)) /\ (∀ h1 : PlaceV, h1 = (PlanV.placeOf p at_) -> Zu5 p at_ n h1)
theorem ZKd (p : PlanV) (at_ n : Int) (hK : (Zhk Kf p at_ n)) (h : Zu4 p at_ n) : SemL Try.prog w0 fp ρi 0 49 [Zfi, (.seq (.seq ZeK ZdJ) (.seq (.seq ZcZ ZcY) (.seq ZcH .ret)))] (Zsp at_ n) (Zgm p) (fnK ZcN 0 Kf) :=
  Zae ZeI (ZHt p at_ n _ ⟨h.1, (Zag (Zag (ZKe p at_ n hK (PlanV.placeOf p at_) (h.2 (PlanV.placeOf p at_) rfl))))⟩)
def Zpa (p : PlanV) (at_ n : Int) : Prop := (((((n != 1) && (n != 2)) && (n != 4)) && (n != 8)) = true -> (Zvc p at_ n)) /\ (((((n != 1) && (n != 2)) && (n != 4)) && (n != 8)) = false -> (Zu4 p at_ n))
theorem ZEp (p : PlanV) (at_ n : Int) (hK : (Zhk Kf p at_ n)) (h : Zpa p at_ n) : SemL Try.prog w0 fp ρi 0 49 [Zht, (.seq Zfi (.seq (.seq ZeK ZdJ) (.seq (.seq ZcZ ZcY) (.seq ZcH .ret))))] [(1, some (.int .i64 at_)), (2, some (.int .i64 n)), (3, some (.ptr ⟨0, 0, 0, 1⟩ 46)), (27, some (.bool ((((n != 1) && (n != 2)) && (n != 4)) && (n != 8))))] (Zgm p) (fnK ZcN 0 Kf) :=
  Zbf (q := ((((n != 1) && (n != 2)) && (n != 4)) && (n != 8))) (by kernel_rfl) (fun hq => (Zag (lpk [] [] (ZKl p at_ n hK (h.1 hq))))) (fun hq => (Zbu (lpk [1, 2, 3] [0] (Zag (ZKd p at_ n hK (h.2 hq))))))
theorem ZCl (p : PlanV) (at_ n : Int) (Z : Env -> Heap -> Prop) (h : ∃ qq : Bool, ((n != 1) = true -> (ZaK (Zgm p) (Zgm p) [(0, some ⟨true, (PlanV.cs p), 0⟩)]) /\ (n != 2) = qq) /\ ((n != 1) = false -> false = qq) /\ ∃ qq'1 : Bool, (qq = true -> (ZaK (Zgm p) (Zgm p) [(0, some ⟨true, (PlanV.cs p), 0⟩)]) /\ (n != 4) = qq'1) /\ (qq = false -> false = qq'1) /\ ∃ qq'2 : Bool, (qq'1 = true -> (ZaK (Zgm p) (Zgm p) [(0, some ⟨true, (PlanV.cs p), 0⟩)]) /\ (n != 8) = qq'2) /\ (qq'1 = false -> false = qq'2) /\ Z [(1, some (.int .i64 at_)), (2, some (.int .i64 n)), (3, some (.ptr ⟨0, 0, 0, 1⟩ 46)), (27, some (.bool qq'2))] (Zgm p)) : EvC Zgk Zhu (Zsp at_ n) (Zgm p) [1, 2, 3, 27] [0] Z := EvC.of (by kernel_rfl) h
def Zo9 (p : PlanV) (at_ n : Int) : Prop := Zpa p at_ n
theorem ZEo (p : PlanV) (at_ n : Int) (hK : (Zhk Kf p at_ n)) (h : Zo9 p at_ n) : SemL Try.prog w0 fp ρi 0 49 [Zhu, Zht, (.seq Zfi (.seq (.seq ZeK ZdJ) (.seq (.seq ZcZ ZcY) (.seq ZcH .ret))))] (Zsp at_ n) (Zgm p) (fnK ZcN 0 Kf) :=
  Zae ZeI (ZCl p at_ n _ ⟨((n != 1) && (n != 2)), fun hc_qq => ⟨(ZaT _), (qa1 hc_qq)⟩, fun hc_qq => qa2 hc_qq, ⟨(((n != 1) && (n != 2)) && (n != 4)), fun hc_qq_1 => ⟨(ZaT _), (qa1 hc_qq_1)⟩, fun hc_qq_1 => qa2 hc_qq_1, ⟨((((n != 1) && (n != 2)) && (n != 4)) && (n != 8)), fun hc_qq_2 => ⟨(ZaT _), (qa1 hc_qq_2)⟩, fun hc_qq_2 => qa2 hc_qq_2, (ZEp p at_ n hK h)⟩⟩⟩)
def Zo8 (p : PlanV) (at_ n : Int) : Prop := ((!(PlanV.right p)) = true -> (Zvd p at_ n)) /\ ((!(PlanV.right p)) = false -> (Zo9 p at_ n))
abbrev ZP4 (x0 x1 : Int) (x2 : PlanV) : Env := [(1, some (.int .i64 x0)), (2, some (.int .i64 x1)), (3, some (.ptr ⟨0, 0, 0, 1⟩ 46)), (13, some (.bool (!(PlanV.right x2))))]
theorem ZEn (p : PlanV) (at_ n : Int) (hK : (Zhk Kf p at_ n)) (h : Zo8 p at_ n) : SemL Try.prog w0 fp ρi 0 49 [ZmE, (.seq (.seq Zhu Zht) (.seq Zfi (.seq (.seq ZeK ZdJ) (.seq (.seq ZcZ ZcY) (.seq ZcH .ret)))))] (ZP4 at_ n p) (Zgm p) (fnK ZcN 0 Kf) :=
  Zbf (q := (!(PlanV.right p))) (by kernel_rfl) (fun hq => (Zag (lpk [] [] (ZKm p at_ n hK (h.1 hq))))) (fun hq => (Zbu (lpk [1, 2, 3] [0] (Zag (Zag (ZEo p at_ n hK (h.2 hq)))))))
theorem ZCk (p : PlanV) (at_ n : Int) (Z : Env -> Heap -> Prop) (h : (True) /\ Z (ZP4 at_ n p) (Zgm p)) : EvC Zgk ZmG (Zsp at_ n) (Zgm p) [1, 2, 3, 13] [0] Z := EvC.of (by kernel_rfl) h
def Zo7 (p : PlanV) (at_ n : Int) : Prop := Zo8 p at_ n
theorem ZEm (p : PlanV) (at_ n : Int) (hK : (Zhk Kf p at_ n)) (h : Zo7 p at_ n) : SemL Try.prog w0 fp ρi 0 49 [ZmG, ZmE, (.seq (.seq Zhu Zht) (.seq Zfi (.seq (.seq ZeK ZdJ) (.seq (.seq ZcZ ZcY) (.seq ZcH .ret)))))] (Zsp at_ n) (Zgm p) (fnK ZcN 0 Kf) :=
  Zae ZeI (ZCk p at_ n _ ⟨True.intro, (ZEn p at_ n hK h)⟩)
theorem ZCj (p : PlanV) (at_ n : Int) (Z : Env -> Heap -> Prop) (h : Z (Zsp at_ n) (Zgm p)) : EvC Zgk Zra (ZGF p at_ n) Yc4 [1, 2, 3] [0] Z := EvC.of (by kernel_rfl) h
def Zo6 (p : PlanV) (at_ n : Int) : Prop := Zo7 p at_ n
theorem ZEl (p : PlanV) (at_ n : Int) (hK : (Zhk Kf p at_ n)) (h : Zo6 p at_ n) : SemL Try.prog w0 fp ρi 0 49 [Zra, (.seq (.seq ZmG ZmE) (.seq (.seq Zhu Zht) (.seq Zfi (.seq (.seq ZeK ZdJ) (.seq (.seq ZcZ ZcY) (.seq ZcH .ret))))))] (ZGF p at_ n) Yc4 (fnK ZcN 0 Kf) :=
  Zae ZeI (ZCj p at_ n _ (Zag (Zag (ZEm p at_ n hK h))))
def ZqG (p : PlanV) (at_ n : Int) : Prop := Zo6 p at_ n
theorem ZGK (p : PlanV) (at_ n : Int) (hK : (Zhk Kf p at_ n)) (h : ZqG p at_ n) : SemL Try.prog w0 fp ρi 0 49 [ZBy] (ZGF p at_ n) Yc4 (fnK ZcN 0 Kf) :=
  (Zag (ZEl p at_ n hK h))
end
theorem ZF0 (p : PlanV) (at_ n : Int) (hpre : (I64 at_ /\ I64 n)) : ZqG p at_ n := by
  unfold ZqG Zo6 Zo7 Zo8 Zo9 Zpa Zu4 Zu5 Zu6 Zu7 Zu8 Zu9 Zva Zvb Zvc Zvd
  have hn4 : (n != 1 && n != 2 && n != 4 && n != 8) = !(decide (n = 1 ∨ n = 2 ∨ n = 4 ∨ n = 8)) := by
    rw [Bool.eq_iff_iff]
    simp only [Bool.and_eq_true, bne_iff_ne, ne_eq, Bool.not_eq_true', decide_eq_false_iff_not]
    omega
  rw [hn4]
  have ha := _root_.Go.Sx.PlanV.all_le p
  have ht : p.tags = p.all * 32 := rfl
  have hw := hpre.1
  unfold I64 at hw
  refine ⟨fun h => PlanV.line_bad (PlanV.code4 (ZfR h)) (by decide), fun h => ?_⟩
  have hr := Zfw h
  refine ⟨fun h => PlanV.line_bad (PlanV.code1 hr (of_decide_eq_false (ZfR h))) (by decide), fun h => ?_⟩
  have hn := of_decide_eq_true (Zfw h)
  refine ⟨hpre.1, ?_⟩
  rintro _ rfl
  rw [PlanV.place_kind hr]
  refine ⟨fun h => PlanV.line_bad (PlanV.code2 hr hn (of_decide_eq_false (ZfR h))) (by decide), fun h => ?_⟩
  have h := of_decide_eq_true (Zfw h)
  refine ⟨by omega, fun h1 => ?_, fun h1 => ?_⟩
  · rw [Int.tmod_eq_emod_of_nonneg (by omega), bne_iff_ne] at h1
    exact PlanV.line_bad (PlanV.code9 hr hn h h1) (by decide)
  · rw [Int.tmod_eq_emod_of_nonneg (by omega), bne_eq_false_iff_eq] at h1
    have := PlanV.line_ok (PlanV.code0 hr hn h h1)
    obtain ⟨g1, g2⟩ := PlanV.place_data hr h.1 h.2
    rw [g2]
    exact this
theorem ZGU : Sound Try.prog 79 (Zed Zy6) := by
  refine Zbx Zsf ?_
  intro args H K h
  obtain ⟨pre, v, hP, hpre, rfl, hK⟩ := ZbH h
  unfold Zy6 at hP
  split at hP
  · obtain ⟨hb, hP⟩ := ZaP hP
    simp only [Bool.and_eq_true] at hb
    obtain ⟨h0, h1⟩ := hb
    obtain rfl := Nat.eq_of_beq_eq_true h0
    obtain rfl := Nat.eq_of_beq_eq_true h1
    cases hP
    exact ⟨rfl, fun w0 fp ρi => ZGK (PlanV.mk _ _ _ _ _ _ _ _ _ _ _ _ _ _ _ _) _ _ hK (ZF0 (PlanV.mk _ _ _ _ _ _ _ _ _ _ _ _ _ _ _ _) _ _ hpre)⟩
  · cases hP
end Go.Proofs.Ytinjdimejijabaa
