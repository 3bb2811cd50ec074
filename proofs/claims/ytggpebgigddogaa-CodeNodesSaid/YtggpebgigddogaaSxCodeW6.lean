/- Walks, printed by vcg. -/
import Derived.Test.YtggpebgigddogaaSxBitsP
import Derived.Test.YtggpebgigddogaaSxCodeT
import Derived.Test.YtggpebgigddogaaSxG
import Derived.KernelRfl
set_option linter.unusedVariables false
set_option linter.unusedSimpArgs false
namespace Go.Proofs.Ytggpebgigddogaa
open Go.Sx
def DcSpan : GSpec := fun args H => match args, H with
  | [.ptr ⟨0, 0, 0, 1⟩ 32, .int .i64 child], ⟨1, [(0, some ⟨false, [.ints .u8 b_0_n b_0], 0⟩)]⟩ => bif Nat.beq b_0_n 32 then some ((I64 child), fun K => ((decide (0 ≤ child ∧ child ≤ 3)) = true → K (.tuple [.slice ⟨0, 0, (Int.toNat (8 * child)), 1⟩ 8 8, .bool true]) ⟨1, [(0, some ⟨false, [.ints .u8 32 b_0], 0⟩)]⟩) ∧ ((decide (0 ≤ child ∧ child ≤ 3)) = false → K (.tuple [.nilslice, .bool false]) ⟨1, [(0, some ⟨false, [.ints .u8 32 b_0], 0⟩)]⟩)) else none
  | _, _ => none
def concSpan : Con := ⟨61, gS DcSpan, [], [], []⟩
def cz61_n0 : ACode := .reg (.op (some 4) (.mov (.cn (.nilslice))) (.op (some 5) (.mov (.cn (.bool false))) .nil))
def cz61_n1 : ACode := .reg (.op (some 7) (.mov (.tm 1)) (.op (some 8) (.bin .lss (.tm 7) (.cn (.int .i64 0))) (.op (some 9) (.mov (.tm 8)) (.grpJ 9 false (.op (some 10) (.mov (.tm 1)) (.op (some 11) (.bin .geq (.tm 10) (.cn (.int .i64 4))) .nil)) 12 (.tm 11) (.cn (.bool true)) .nil))))
def cz61_n2 : ACode := .reg (.op (some 4) (.mov (.cn (.nilslice))) (.op (some 5) (.mov (.cn (.bool false))) .nil))
def cz61_n3 : ACode := .cond (.tm 12) (.seq cz61_n2 .ret) .skip
def cz61_n4 : ACode := .reg (.op (some 13) (.mov (.tm 1)) (.op (some 14) (.bin .mul (.tm 13) (.cn (.int .i64 8))) (.op (some 6) (.mov (.tm 14)) .nil)))
def cz61_n5 : ACode := .reg (.op (some 15) (.mov (.tm 0)) (.op (some 16) (.nilCheck (.tm 15)) (.op (some 17) (.mov (.tm 6)) (.op (some 18) (.mov (.tm 6)) (.op (some 19) (.bin .add (.tm 18) (.cn (.int .i64 8))) (.op (some 20) (.mov (.tm 6)) (.op (some 21) (.bin .add (.tm 20) (.cn (.int .i64 8))) (.op (some 22) (.sliceP 32 (.tm 16) (some (.tm 17)) (some (.tm 19)) (some (.tm 21))) (.op (some 4) (.mov (.tm 22)) (.op (some 5) (.mov (.cn (.bool true))) .nil))))))))))
def ccSpan : ACode := (.seq cz61_n0 (.seq (.seq cz61_n1 cz61_n3) (.seq cz61_n4 (.seq cz61_n5 .ret))))
def RcSpan : Res := .many [.tm 4, .tm 5]
theorem ccSpan_fits : fnFits Try.prog 61 2 23 ccSpan RcSpan = true := by kernel_rfl
def GcSpan : Calls' := withP [] []
theorem hGcSpan : CallOk Try.prog GcSpan := withP_ok trivial trivial
section
variable {w0 : World} {fp : Nat → Nat → Prop} {ρi : Rho} {Kf : SVal → Heap → Prop}
theorem rz61_0 (b_0 : List Int) (child : Int) (Z : Env → Heap → Prop) (h : Z [(4, some (.nilslice)), (5, some (.bool false))] ⟨1, [(0, some ⟨false, [.ints .u8 32 b_0], 0⟩)]⟩) : EvC GcSpan cz61_n2 [] ⟨1, [(0, some ⟨false, [.ints .u8 32 b_0], 0⟩)]⟩ [4, 5] [0] Z := EvC.of (by kernel_rfl) h
theorem rtz61_0 (b_0 : List Int) (child : Int) : RetC RcSpan [(4, some (.nilslice)), (5, some (.bool false))] ⟨1, [(0, some ⟨false, [.ints .u8 32 b_0], 0⟩)]⟩ (.tuple [.nilslice, .bool false]) := RetC.of (fun Z => by kernel_rfl)
def vz61_0 (b_0 : List Int) (child : Int) : Prop := (decide (0 ≤ child ∧ child ≤ 3)) = false
theorem pz61_0 (b_0 : List Int) (child : Int) (hK : ((decide (0 ≤ child ∧ child ≤ 3)) = true → Kf (.tuple [.slice ⟨0, 0, (Int.toNat (8 * child)), 1⟩ 8 8, .bool true]) ⟨1, [(0, some ⟨false, [.ints .u8 32 b_0], 0⟩)]⟩) ∧ ((decide (0 ≤ child ∧ child ≤ 3)) = false → Kf (.tuple [.nilslice, .bool false]) ⟨1, [(0, some ⟨false, [.ints .u8 32 b_0], 0⟩)]⟩)) (h : vz61_0 b_0 child) : SemL Try.prog w0 fp ρi 1 23 [cz61_n2, .ret, (.seq cz61_n4 (.seq cz61_n5 .ret))] [] ⟨1, [(0, some ⟨false, [.ints .u8 32 b_0], 0⟩)]⟩ (fnK RcSpan 1 Kf) :=
  L_regE hGcSpan (rz61_0 b_0 child (fun e H => SemL Try.prog w0 fp ρi 1 23 [.ret, (.seq cz61_n4 (.seq cz61_n5 .ret))] e H (fnK RcSpan 1 Kf)) (L_retE (R := RcSpan) (m := 1) (Kf := Kf) (fun _ _ h => h) (rtz61_0 b_0 child) (ret_of0 (ret0_tau [] [0] rfl (by kernel_rfl) rfl (bd_tuple (bdL_cons pbd (bdL_cons pbd bdL_nil))) (hsc pcs heapSub_nil) rfl (by kernel_rfl) ((hK.2 h))))))
theorem rz61_1 (b_0 : List Int) (child : Int) (v6 : Int) (Z : Env → Heap → Prop) (h : ((0 ≤ (IntKind.i64.wrap (v6 + 8)))) ∧ (((IntKind.i64.wrap (v6 + 8)) ≤ 32)) ∧ ((0 ≤ (IntKind.i64.wrap (v6 + 8)))) ∧ (((IntKind.i64.wrap (v6 + 8)) ≤ (((Int.toNat (IntKind.i64.wrap (v6 + 8))) : Nat) : Int))) ∧ ((0 ≤ v6)) ∧ ((v6 ≤ (((Int.toNat (IntKind.i64.wrap (v6 + 8))) : Nat) : Int))) ∧ Z [(4, some (.slice ⟨0, 0, (0 + (if (Int.toNat (IntKind.i64.wrap (v6 + 8))) = (Int.toNat v6) then 0 else (Int.toNat v6))), 1⟩ ((Int.toNat (IntKind.i64.wrap (v6 + 8))) - (Int.toNat v6)) ((Int.toNat (IntKind.i64.wrap (v6 + 8))) - (Int.toNat v6)))), (5, some (.bool true))] ⟨1, [(0, some ⟨false, [.ints .u8 32 b_0], 0⟩)]⟩) : EvC GcSpan cz61_n5 [(0, some (.ptr ⟨0, 0, 0, 1⟩ 32)), (6, some (.int .i64 v6))] ⟨1, [(0, some ⟨false, [.ints .u8 32 b_0], 0⟩)]⟩ [4, 5] [0] Z := EvC.of (by kernel_rfl) h
theorem rtz61_1 (b_0 : List Int) (child : Int) (v6 : Int) : RetC RcSpan [(4, some (.slice ⟨0, 0, (0 + (if (Int.toNat (IntKind.i64.wrap (v6 + 8))) = (Int.toNat v6) then 0 else (Int.toNat v6))), 1⟩ ((Int.toNat (IntKind.i64.wrap (v6 + 8))) - (Int.toNat v6)) ((Int.toNat (IntKind.i64.wrap (v6 + 8))) - (Int.toNat v6)))), (5, some (.bool true))] ⟨1, [(0, some ⟨false, [.ints .u8 32 b_0], 0⟩)]⟩ (.tuple [.slice ⟨0, 0, (0 + (if (Int.toNat (IntKind.i64.wrap (v6 + 8))) = (Int.toNat v6) then 0 else (Int.toNat v6))), 1⟩ ((Int.toNat (IntKind.i64.wrap (v6 + 8))) - (Int.toNat v6)) ((Int.toNat (IntKind.i64.wrap (v6 + 8))) - (Int.toNat v6)), .bool true]) := RetC.of (fun Z => by kernel_rfl)
def vz61_1 (b_0 : List Int) (child : Int) (v6 : Int) : Prop := ((0 ≤ (IntKind.i64.wrap (v6 + 8)))) ∧ ((((IntKind.i64.wrap (v6 + 8)) ≤ 32)) ∧ (((0 ≤ (IntKind.i64.wrap (v6 + 8)))) ∧ ((((IntKind.i64.wrap (v6 + 8)) ≤ (((Int.toNat (IntKind.i64.wrap (v6 + 8))) : Nat) : Int))) ∧ (((0 ≤ v6)) ∧ (((v6 ≤ (((Int.toNat (IntKind.i64.wrap (v6 + 8))) : Nat) : Int))) ∧ (((decide (0 ≤ child ∧ child ≤ 3)) = true) ∧ (((Int.toNat (IntKind.i64.wrap (v6 + 8))) - (Int.toNat v6)) = 8) ∧ ((0 + (if (Int.toNat (IntKind.i64.wrap (v6 + 8))) = (Int.toNat v6) then 0 else (Int.toNat v6))) = (Int.toNat (8 * child))) ∧ (((Int.toNat (IntKind.i64.wrap (v6 + 8))) - (Int.toNat v6)) = 8)))))))
theorem pz61_1 (b_0 : List Int) (child : Int) (hK : ((decide (0 ≤ child ∧ child ≤ 3)) = true → Kf (.tuple [.slice ⟨0, 0, (Int.toNat (8 * child)), 1⟩ 8 8, .bool true]) ⟨1, [(0, some ⟨false, [.ints .u8 32 b_0], 0⟩)]⟩) ∧ ((decide (0 ≤ child ∧ child ≤ 3)) = false → Kf (.tuple [.nilslice, .bool false]) ⟨1, [(0, some ⟨false, [.ints .u8 32 b_0], 0⟩)]⟩)) (v6 : Int) (h : vz61_1 b_0 child v6) : SemL Try.prog w0 fp ρi 1 23 [cz61_n5, .ret] [(0, some (.ptr ⟨0, 0, 0, 1⟩ 32)), (6, some (.int .i64 v6))] ⟨1, [(0, some ⟨false, [.ints .u8 32 b_0], 0⟩)]⟩ (fnK RcSpan 1 Kf) :=
  L_regE hGcSpan (rz61_1 b_0 child v6 (fun e H => SemL Try.prog w0 fp ρi 1 23 [.ret] e H (fnK RcSpan 1 Kf)) ⟨h.1, ⟨h.2.1, ⟨h.2.2.1, ⟨h.2.2.2.1, ⟨h.2.2.2.2.1, ⟨h.2.2.2.2.2.1, (L_retE (R := RcSpan) (m := 1) (Kf := Kf) (fun _ _ h => h) (rtz61_1 b_0 child v6) (ret_of0 (Eq.mpr (cg3 (fun (z1 : Nat) (z2 : Nat) (z3 : Nat) => Ret0 1 Kf (.tuple [.slice ⟨0, 0, z2, 1⟩ z3 z1, .bool true]) ⟨1, [(0, some ⟨false, [.ints .u8 32 b_0], 0⟩)]⟩) h.2.2.2.2.2.2.2.1 h.2.2.2.2.2.2.2.2.1 h.2.2.2.2.2.2.2.2.2) (ret0_tau [] [0] rfl (by kernel_rfl) rfl (bd_tuple (bdL_cons bsl (bdL_cons pbd bdL_nil))) (hsc pcs heapSub_nil) rfl (by kernel_rfl) ((hK.1 h.2.2.2.2.2.2.1))))))⟩⟩⟩⟩⟩⟩)
theorem rz61_2 (b_0 : List Int) (child : Int) (Z : Env → Heap → Prop) (h : Z [(0, some (.ptr ⟨0, 0, 0, 1⟩ 32)), (6, some (.int .i64 (IntKind.i64.wrap (child * 8))))] ⟨1, [(0, some ⟨false, [.ints .u8 32 b_0], 0⟩)]⟩) : EvC GcSpan cz61_n4 [(0, some (.ptr ⟨0, 0, 0, 1⟩ 32)), (1, some (.int .i64 child))] ⟨1, [(0, some ⟨false, [.ints .u8 32 b_0], 0⟩)]⟩ [0, 6] [0] Z := EvC.of (by kernel_rfl) h
def vz61_2 (b_0 : List Int) (child : Int) : Prop := ∀ v6 : Int, v6 = ((child * 8) + 9223372036854775808) % 18446744073709551616 - 9223372036854775808 → vz61_1 b_0 child v6
theorem pz61_2 (b_0 : List Int) (child : Int) (hK : ((decide (0 ≤ child ∧ child ≤ 3)) = true → Kf (.tuple [.slice ⟨0, 0, (Int.toNat (8 * child)), 1⟩ 8 8, .bool true]) ⟨1, [(0, some ⟨false, [.ints .u8 32 b_0], 0⟩)]⟩) ∧ ((decide (0 ≤ child ∧ child ≤ 3)) = false → Kf (.tuple [.nilslice, .bool false]) ⟨1, [(0, some ⟨false, [.ints .u8 32 b_0], 0⟩)]⟩)) (h : vz61_2 b_0 child) : SemL Try.prog w0 fp ρi 1 23 [cz61_n4, (.seq cz61_n5 .ret)] [(0, some (.ptr ⟨0, 0, 0, 1⟩ 32)), (1, some (.int .i64 child))] ⟨1, [(0, some ⟨false, [.ints .u8 32 b_0], 0⟩)]⟩ (fnK RcSpan 1 Kf) :=
  L_regE hGcSpan (rz61_2 b_0 child (fun e H => SemL Try.prog w0 fp ρi 1 23 [(.seq cz61_n5 .ret)] e H (fnK RcSpan 1 Kf)) (L_seq (pz61_1 b_0 child hK (IntKind.i64.wrap (child * 8)) (h (IntKind.i64.wrap (child * 8)) (wi64 _)))))
def vz61_3 (b_0 : List Int) (child : Int) : Prop := (((decide (child < 0)) || (decide (4 ≤ child))) = true → (vz61_0 b_0 child)) ∧ (((decide (child < 0)) || (decide (4 ≤ child))) = false → (vz61_2 b_0 child))
theorem pz61_3 (b_0 : List Int) (child : Int) (hK : ((decide (0 ≤ child ∧ child ≤ 3)) = true → Kf (.tuple [.slice ⟨0, 0, (Int.toNat (8 * child)), 1⟩ 8 8, .bool true]) ⟨1, [(0, some ⟨false, [.ints .u8 32 b_0], 0⟩)]⟩) ∧ ((decide (0 ≤ child ∧ child ≤ 3)) = false → Kf (.tuple [.nilslice, .bool false]) ⟨1, [(0, some ⟨false, [.ints .u8 32 b_0], 0⟩)]⟩)) (h : vz61_3 b_0 child) : SemL Try.prog w0 fp ρi 1 23 [cz61_n3, (.seq cz61_n4 (.seq cz61_n5 .ret))] [(0, some (.ptr ⟨0, 0, 0, 1⟩ 32)), (1, some (.int .i64 child)), (12, some (.bool ((decide (child < 0)) || (decide (4 ≤ child)))))] ⟨1, [(0, some ⟨false, [.ints .u8 32 b_0], 0⟩)]⟩ (fnK RcSpan 1 Kf) :=
  L_cond (q := ((decide (child < 0)) || (decide (4 ≤ child)))) (by kernel_rfl) (fun hq => (L_seq (lpk [] [0] (pz61_0 b_0 child hK (h.1 hq))))) (fun hq => (L_skip (lpk [0, 1] [0] (L_seq (pz61_2 b_0 child hK (h.2 hq))))))
theorem rz61_4 (b_0 : List Int) (child : Int) (Z : Env → Heap → Prop) (h : ∃ qq : Bool, ((decide (child < 0)) = false → (keeps ⟨1, [(0, some ⟨false, [.ints .u8 32 b_0], 0⟩)]⟩ ⟨1, [(0, some ⟨false, [.ints .u8 32 b_0], 0⟩)]⟩ [(0, some ⟨false, [.ints .u8 32 b_0], 0⟩)]) ∧ (decide (4 ≤ child)) = qq) ∧ ((decide (child < 0)) = true → true = qq) ∧ Z [(0, some (.ptr ⟨0, 0, 0, 1⟩ 32)), (1, some (.int .i64 child)), (12, some (.bool qq))] ⟨1, [(0, some ⟨false, [.ints .u8 32 b_0], 0⟩)]⟩) : EvC GcSpan cz61_n1 [(0, some (.ptr ⟨0, 0, 0, 1⟩ 32)), (1, some (.int .i64 child))] ⟨1, [(0, some ⟨false, [.ints .u8 32 b_0], 0⟩)]⟩ [0, 1, 12] [0] Z := EvC.of (by kernel_rfl) h
def vz61_4 (b_0 : List Int) (child : Int) : Prop := vz61_3 b_0 child
theorem pz61_4 (b_0 : List Int) (child : Int) (hK : ((decide (0 ≤ child ∧ child ≤ 3)) = true → Kf (.tuple [.slice ⟨0, 0, (Int.toNat (8 * child)), 1⟩ 8 8, .bool true]) ⟨1, [(0, some ⟨false, [.ints .u8 32 b_0], 0⟩)]⟩) ∧ ((decide (0 ≤ child ∧ child ≤ 3)) = false → Kf (.tuple [.nilslice, .bool false]) ⟨1, [(0, some ⟨false, [.ints .u8 32 b_0], 0⟩)]⟩)) (h : vz61_4 b_0 child) : SemL Try.prog w0 fp ρi 1 23 [cz61_n1, cz61_n3, (.seq cz61_n4 (.seq cz61_n5 .ret))] [(0, some (.ptr ⟨0, 0, 0, 1⟩ 32)), (1, some (.int .i64 child))] ⟨1, [(0, some ⟨false, [.ints .u8 32 b_0], 0⟩)]⟩ (fnK RcSpan 1 Kf) :=
  L_regE hGcSpan (rz61_4 b_0 child (fun e H => SemL Try.prog w0 fp ρi 1 23 [cz61_n3, (.seq cz61_n4 (.seq cz61_n5 .ret))] e H (fnK RcSpan 1 Kf)) ⟨((decide (child < 0)) || (decide (4 ≤ child))), fun hc_qq => ⟨(keeps_refl _), (qo1 hc_qq)⟩, fun hc_qq => qo2 hc_qq, (pz61_3 b_0 child hK h)⟩)
theorem rz61_5 (b_0 : List Int) (child : Int) (Z : Env → Heap → Prop) (h : Z [(0, some (.ptr ⟨0, 0, 0, 1⟩ 32)), (1, some (.int .i64 child))] ⟨1, [(0, some ⟨false, [.ints .u8 32 b_0], 0⟩)]⟩) : EvC GcSpan cz61_n0 [(0, some (.ptr ⟨0, 0, 0, 1⟩ 32)), (1, some (.int .i64 child))] ⟨1, [(0, some ⟨false, [.ints .u8 32 b_0], 0⟩)]⟩ [0, 1] [0] Z := EvC.of (by kernel_rfl) h
def vz61_5 (b_0 : List Int) (child : Int) : Prop := vz61_4 b_0 child
theorem pz61_5 (b_0 : List Int) (child : Int) (hK : ((decide (0 ≤ child ∧ child ≤ 3)) = true → Kf (.tuple [.slice ⟨0, 0, (Int.toNat (8 * child)), 1⟩ 8 8, .bool true]) ⟨1, [(0, some ⟨false, [.ints .u8 32 b_0], 0⟩)]⟩) ∧ ((decide (0 ≤ child ∧ child ≤ 3)) = false → Kf (.tuple [.nilslice, .bool false]) ⟨1, [(0, some ⟨false, [.ints .u8 32 b_0], 0⟩)]⟩)) (h : vz61_5 b_0 child) : SemL Try.prog w0 fp ρi 1 23 [cz61_n0, (.seq (.seq cz61_n1 cz61_n3) (.seq cz61_n4 (.seq cz61_n5 .ret)))] [(0, some (.ptr ⟨0, 0, 0, 1⟩ 32)), (1, some (.int .i64 child))] ⟨1, [(0, some ⟨false, [.ints .u8 32 b_0], 0⟩)]⟩ (fnK RcSpan 1 Kf) :=
  L_regE hGcSpan (rz61_5 b_0 child (fun e H => SemL Try.prog w0 fp ρi 1 23 [(.seq (.seq cz61_n1 cz61_n3) (.seq cz61_n4 (.seq cz61_n5 .ret)))] e H (fnK RcSpan 1 Kf)) (L_seq (L_seq (pz61_4 b_0 child hK h))))
def vccSpan (b_0 : List Int) (child : Int) : Prop := vz61_5 b_0 child
theorem wcSpan (b_0 : List Int) (child : Int) (hK : ((decide (0 ≤ child ∧ child ≤ 3)) = true → Kf (.tuple [.slice ⟨0, 0, (Int.toNat (8 * child)), 1⟩ 8 8, .bool true]) ⟨1, [(0, some ⟨false, [.ints .u8 32 b_0], 0⟩)]⟩) ∧ ((decide (0 ≤ child ∧ child ≤ 3)) = false → Kf (.tuple [.nilslice, .bool false]) ⟨1, [(0, some ⟨false, [.ints .u8 32 b_0], 0⟩)]⟩)) (h : vccSpan b_0 child) : SemL Try.prog w0 fp ρi 1 23 [ccSpan] [(0, some (.ptr ⟨0, 0, 0, 1⟩ 32)), (1, some (.int .i64 child))] ⟨1, [(0, some ⟨false, [.ints .u8 32 b_0], 0⟩)]⟩ (fnK RcSpan 1 Kf) :=
  (L_seq (pz61_5 b_0 child hK h))
end
theorem okcSpan (b_0 : List Int) (child : Int) (hpre : (I64 child)) : vccSpan b_0 child := by
  unfold vccSpan vz61_5 vz61_4 vz61_3 vz61_2 vz61_1 vz61_0
  have hc : -9223372036854775808 ≤ child ∧ child ≤ 9223372036854775807 := hpre
  refine ⟨fun h => decide_eq_false (by simp only [Bool.or_eq_true, decide_eq_true_eq] at h; omega), fun h => ?_⟩
  simp only [Bool.or_eq_false_iff, decide_eq_false_iff_not] at h
  rintro v6 rfl
  have e1 : (child * 8 + 9223372036854775808) % 18446744073709551616 - 9223372036854775808 = 8 * child := by omega
  rw [e1]
  have e2 : IntKind.i64.wrap (8 * child + 8) = 8 * child + 8 := by rw [wi64]; omega
  rw [e2]
  refine ⟨by omega, by omega, by omega, by omega, by omega, by omega, decide_eq_true (by omega), by omega, ?_, by omega⟩
  rw [if_neg (by omega), Nat.zero_add]
theorem scSpan : Sound Try.prog 61 (gS DcSpan) := by
  refine fn_soundA ccSpan_fits ?_
  intro args H K h
  obtain ⟨pre, out, hD, hpre, hK⟩ := gS_inv h
  unfold DcSpan at hD
  split at hD
  · obtain ⟨hb, hD⟩ := bif_some hD
    have h0 := hb
    obtain rfl := Nat.eq_of_beq_eq_true h0
    cases hD
    exact ⟨rfl, fun w0 fp ρi => wcSpan _ _ hK (okcSpan _ _ hpre)⟩
  · cases hD
def PcTag : PSpec := fun args => match args with
  | [.agg [.ints .u8 b_n b], .int .i64 child] => bif Nat.beq b_n 32 then some ((LineOk b ∧ I64 child), .tuple [.int .u64 (kidT b child), .int .i64 (kidE child)]) else none
  | _ => none
def pccTag : PCon := ⟨35, PcTag⟩
def cz35_n0 : ACode := .reg (.op (some 2) (.box (.tm 0)) (.op (some 4) (.mov (.cn (.int .u64 0))) (.op (some 5) (.mov (.cn (.int .i64 0))) .nil)))
def cz35_n1 : ACode := .reg (.op (some 9) (.mov (.tm 1)) (.op (some 10) (.call 61 [(.tm 2), (.tm 9)]) (.op (some 8) (.mov (.tm 10)) (.op (some 11) (.extract (.tm 8) 0) (.op (some 12) (.extract (.tm 8) 1) (.op (some 6) (.mov (.tm 11)) (.op (some 7) (.mov (.tm 12)) .nil)))))))
def cz35_n2 : ACode := .reg (.op (some 13) (.mov (.tm 7)) (.op (some 14) (.not (.tm 13)) .nil))
def cz35_n3 : ACode := .reg (.op (some 4) (.mov (.cn (.int .u64 0))) (.op (some 5) (.mov (.cn (.int .i64 2))) .nil))
def cz35_n4 : ACode := .cond (.tm 14) (.seq cz35_n3 .ret) .skip
def cz35_n5 : ACode := .reg (.op (some 15) (.mov (.tm 6)) (.op (some 16) (.call 56 [(.tm 15)]) (.op (some 4) (.mov (.tm 16)) (.op (some 5) (.mov (.cn (.int .i64 0))) .nil))))
def ccTag : ACode := (.seq cz35_n0 (.seq cz35_n1 (.seq (.seq cz35_n2 cz35_n4) (.seq cz35_n5 .ret))))
def RcTag : Res := .many [.tm 4, .tm 5]
theorem ccTag_fits : fnFits Try.prog 35 2 17 ccTag RcTag = true := by kernel_rfl
def GcTag : Calls' := withP [] [conbRead, concSpan]
theorem hGcTag : CallOk Try.prog GcTag := withP_ok trivial ⟨sbRead.dC, scSpan, trivial⟩
section
variable {w0 : World} {fp : Nat → Nat → Prop} {ρi : Rho} {Kf : SVal → Heap → Prop}
theorem rz35_0 (b : List Int) (child : Int) (v6i : Nat) (Z : Env → Heap → Prop) (h : (((v6i + 8) ≤ 32)) ∧ (((8 : Nat) = 8)) ∧ ((List.length (List.take 8 (List.drop v6i b)) = 8 ∧ 8 ≤ 8 ∧ 8 ≤ 1000000000 ∧ Byt (List.take 8 (List.drop v6i b)))) ∧ Z [(4, some (.int .u64 (readB (List.take 8 (List.take 8 (List.drop v6i b)))))), (5, some (.int .i64 0))] ⟨1, []⟩) : EvC GcTag cz35_n5 [(6, some (.slice ⟨0, 0, v6i, 1⟩ 8 8))] ⟨1, [(0, some ⟨true, [.ints .u8 32 b], 0⟩)]⟩ [4, 5] [] Z := EvC.of (by kernel_rfl) h
theorem rtz35_0 (b : List Int) (child : Int) (v6i : Nat) : RetC RcTag [(4, some (.int .u64 (readB (List.take 8 (List.take 8 (List.drop v6i b)))))), (5, some (.int .i64 0))] ⟨1, []⟩ (.tuple [.int .u64 (readB (List.take 8 (List.take 8 (List.drop v6i b)))), .int .i64 0]) := RetC.of (fun Z => by kernel_rfl)
def vz35_0 (b : List Int) (child : Int) (v6i : Nat) : Prop := (((v6i + 8) ≤ 32)) ∧ (((List.length (List.take 8 (List.drop v6i b)) = 8 ∧ 8 ≤ 8 ∧ 8 ≤ 1000000000 ∧ Byt (List.take 8 (List.drop v6i b)))) ∧ (((readB (List.take 8 (List.take 8 (List.drop v6i b)))) = (kidT b child)) ∧ (0 = (kidE child))))
theorem pz35_0 (b : List Int) (child : Int) (hK : Kf (.tuple [.int .u64 (kidT b child), .int .i64 (kidE child)]) ⟨0, []⟩) (v6i : Nat) (h : vz35_0 b child v6i) : SemL Try.prog w0 fp ρi 0 17 [cz35_n5, .ret] [(6, some (.slice ⟨0, 0, v6i, 1⟩ 8 8))] ⟨1, [(0, some ⟨true, [.ints .u8 32 b], 0⟩)]⟩ (fnK RcTag 0 Kf) :=
  L_regE hGcTag (rz35_0 b child v6i (fun e H => SemL Try.prog w0 fp ρi 0 17 [.ret] e H (fnK RcTag 0 Kf)) ⟨h.1, ⟨rfl, ⟨h.2.1, (L_retE (R := RcTag) (m := 0) (Kf := Kf) (fun _ _ h => h) (rtz35_0 b child v6i) (ret_plain rfl (by kernel_rfl) (cg2 (fun (z1 : Int) (z2 : Int) => (.tuple [.int .u64 z1, .int .i64 z2] : SVal)) h.2.2.1 h.2.2.2) hK))⟩⟩⟩)
def vz35_1 (b : List Int) (child : Int) (v6i : Nat) : Prop := vz35_0 b child v6i
theorem pz35_1 (b : List Int) (child : Int) (hK : Kf (.tuple [.int .u64 (kidT b child), .int .i64 (kidE child)]) ⟨0, []⟩) (v6i : Nat) (h : vz35_1 b child v6i) : SemL Try.prog w0 fp ρi 0 17 [cz35_n4, (.seq cz35_n5 .ret)] [(6, some (.slice ⟨0, 0, v6i, 1⟩ 8 8)), (14, some (.bool false))] ⟨1, [(0, some ⟨true, [.ints .u8 32 b], 0⟩)]⟩ (fnK RcTag 0 Kf) :=
  L_cond (q := false) (by kernel_rfl) (fun hq => Bool.noConfusion hq) (fun _ => (L_skip (lpk [6] [0] (L_seq (pz35_0 b child hK v6i h)))))
theorem rz35_2 (b : List Int) (child : Int) (v6i : Nat) (Z : Env → Heap → Prop) (h : Z [(6, some (.slice ⟨0, 0, v6i, 1⟩ 8 8)), (14, some (.bool false))] ⟨1, [(0, some ⟨true, [.ints .u8 32 b], 0⟩)]⟩) : EvC GcTag cz35_n2 [(6, some (.slice ⟨0, 0, v6i, 1⟩ 8 8)), (7, some (.bool true))] ⟨1, [(0, some ⟨true, [.ints .u8 32 b], 0⟩)]⟩ [6, 14] [0] Z := EvC.of (by kernel_rfl) h
def vz35_2 (b : List Int) (child : Int) (v6i : Nat) : Prop := vz35_1 b child v6i
theorem pz35_2 (b : List Int) (child : Int) (hK : Kf (.tuple [.int .u64 (kidT b child), .int .i64 (kidE child)]) ⟨0, []⟩) (v6i : Nat) (h : vz35_2 b child v6i) : SemL Try.prog w0 fp ρi 0 17 [cz35_n2, cz35_n4, (.seq cz35_n5 .ret)] [(6, some (.slice ⟨0, 0, v6i, 1⟩ 8 8)), (7, some (.bool true))] ⟨1, [(0, some ⟨true, [.ints .u8 32 b], 0⟩)]⟩ (fnK RcTag 0 Kf) :=
  L_regE hGcTag (rz35_2 b child v6i (fun e H => SemL Try.prog w0 fp ρi 0 17 [cz35_n4, (.seq cz35_n5 .ret)] e H (fnK RcTag 0 Kf)) (pz35_1 b child hK v6i h))
theorem rz35_3 (b : List Int) (child : Int) (Z : Env → Heap → Prop) (h : Z [(4, some (.int .u64 0)), (5, some (.int .i64 2))] ⟨1, []⟩) : EvC GcTag cz35_n3 [] ⟨1, []⟩ [4, 5] [] Z := EvC.of (by kernel_rfl) h
theorem rtz35_1 (b : List Int) (child : Int) : RetC RcTag [(4, some (.int .u64 0)), (5, some (.int .i64 2))] ⟨1, []⟩ (.tuple [.int .u64 0, .int .i64 2]) := RetC.of (fun Z => by kernel_rfl)
def vz35_3 (b : List Int) (child : Int) : Prop := (0 = (kidT b child)) ∧ (2 = (kidE child))
theorem pz35_3 (b : List Int) (child : Int) (hK : Kf (.tuple [.int .u64 (kidT b child), .int .i64 (kidE child)]) ⟨0, []⟩) (h : vz35_3 b child) : SemL Try.prog w0 fp ρi 0 17 [cz35_n3, .ret, (.seq cz35_n5 .ret)] [] ⟨1, []⟩ (fnK RcTag 0 Kf) :=
  L_regE hGcTag (rz35_3 b child (fun e H => SemL Try.prog w0 fp ρi 0 17 [.ret, (.seq cz35_n5 .ret)] e H (fnK RcTag 0 Kf)) (L_retE (R := RcTag) (m := 0) (Kf := Kf) (fun _ _ h => h) (rtz35_1 b child) (ret_plain rfl (by kernel_rfl) (cg2 (fun (z1 : Int) (z2 : Int) => (.tuple [.int .u64 z1, .int .i64 z2] : SVal)) h.1 h.2) hK)))
def vz35_4 (b : List Int) (child : Int) : Prop := vz35_3 b child
theorem pz35_4 (b : List Int) (child : Int) (hK : Kf (.tuple [.int .u64 (kidT b child), .int .i64 (kidE child)]) ⟨0, []⟩) (h : vz35_4 b child) : SemL Try.prog w0 fp ρi 0 17 [cz35_n4, (.seq cz35_n5 .ret)] [(6, some (.nilslice)), (14, some (.bool true))] ⟨1, []⟩ (fnK RcTag 0 Kf) :=
  L_cond (q := true) (by kernel_rfl) (fun _ => (L_seq (lpk [] [] (pz35_3 b child hK h)))) (fun hq => Bool.noConfusion hq)
theorem rz35_5 (b : List Int) (child : Int) (Z : Env → Heap → Prop) (h : Z [(6, some (.nilslice)), (14, some (.bool true))] ⟨1, []⟩) : EvC GcTag cz35_n2 [(6, some (.nilslice)), (7, some (.bool false))] ⟨1, []⟩ [6, 14] [] Z := EvC.of (by kernel_rfl) h
def vz35_5 (b : List Int) (child : Int) : Prop := vz35_4 b child
theorem pz35_5 (b : List Int) (child : Int) (hK : Kf (.tuple [.int .u64 (kidT b child), .int .i64 (kidE child)]) ⟨0, []⟩) (h : vz35_5 b child) : SemL Try.prog w0 fp ρi 0 17 [cz35_n2, cz35_n4, (.seq cz35_n5 .ret)] [(6, some (.nilslice)), (7, some (.bool false))] ⟨1, []⟩ (fnK RcTag 0 Kf) :=
  L_regE hGcTag (rz35_5 b child (fun e H => SemL Try.prog w0 fp ρi 0 17 [cz35_n4, (.seq cz35_n5 .ret)] e H (fnK RcTag 0 Kf)) (pz35_4 b child hK h))
theorem rz35_6 (b : List Int) (child : Int) (Z : Env → Heap → Prop) (h : ((I64 child)) ∧ ((decide (0 ≤ child ∧ child ≤ 3)) = true → Z [(6, some (.slice ⟨0, 0, (Int.toNat (8 * child)), 1⟩ 8 8)), (7, some (.bool true))] ⟨1, [(0, some ⟨true, [.ints .u8 32 b], 0⟩)]⟩) ∧ ((decide (0 ≤ child ∧ child ≤ 3)) = false → Z [(6, some (.nilslice)), (7, some (.bool false))] ⟨1, [(0, some ⟨true, [.ints .u8 32 b], 0⟩)]⟩)) : EvC GcTag cz35_n1 [(1, some (.int .i64 child)), (2, some (.ptr ⟨0, 0, 0, 1⟩ 32))] ⟨1, [(0, some ⟨true, [.ints .u8 32 b], 0⟩)]⟩ [6, 7] [0] Z := EvC.of (by kernel_rfl) h
def vz35_6 (b : List Int) (child : Int) : Prop := ((I64 child)) ∧ (((decide (0 ≤ child ∧ child ≤ 3)) = true → (∀ v6i : Nat, v6i = (Int.toNat (8 * child)) → vz35_2 b child v6i)) ∧ ((decide (0 ≤ child ∧ child ≤ 3)) = false → (vz35_5 b child)))
theorem pz35_6 (b : List Int) (child : Int) (hK : Kf (.tuple [.int .u64 (kidT b child), .int .i64 (kidE child)]) ⟨0, []⟩) (h : vz35_6 b child) : SemL Try.prog w0 fp ρi 0 17 [cz35_n1, (.seq (.seq cz35_n2 cz35_n4) (.seq cz35_n5 .ret))] [(1, some (.int .i64 child)), (2, some (.ptr ⟨0, 0, 0, 1⟩ 32))] ⟨1, [(0, some ⟨true, [.ints .u8 32 b], 0⟩)]⟩ (fnK RcTag 0 Kf) :=
  L_regE hGcTag (rz35_6 b child (fun e H => SemL Try.prog w0 fp ρi 0 17 [(.seq (.seq cz35_n2 cz35_n4) (.seq cz35_n5 .ret))] e H (fnK RcTag 0 Kf)) ⟨h.1, ⟨fun hc1 => (L_seq (L_seq (pz35_2 b child hK (Int.toNat (8 * child)) ((h.2.1 hc1) (Int.toNat (8 * child)) rfl)))), fun hc1 => (L_seq (L_seq (lpk [6, 7] [] (pz35_5 b child hK (h.2.2 hc1)))))⟩⟩)
theorem rz35_7 (b : List Int) (child : Int) (Z : Env → Heap → Prop) (h : Z [(1, some (.int .i64 child)), (2, some (.ptr ⟨0, 0, 0, 1⟩ 32))] ⟨1, [(0, some ⟨true, [.ints .u8 32 b], 0⟩)]⟩) : EvC GcTag cz35_n0 [(0, some (.agg [.ints .u8 32 b])), (1, some (.int .i64 child))] ⟨0, []⟩ [1, 2] [0] Z := EvC.of (by kernel_rfl) h
def vz35_7 (b : List Int) (child : Int) : Prop := vz35_6 b child
theorem pz35_7 (b : List Int) (child : Int) (hK : Kf (.tuple [.int .u64 (kidT b child), .int .i64 (kidE child)]) ⟨0, []⟩) (h : vz35_7 b child) : SemL Try.prog w0 fp ρi 0 17 [cz35_n0, (.seq cz35_n1 (.seq (.seq cz35_n2 cz35_n4) (.seq cz35_n5 .ret)))] [(0, some (.agg [.ints .u8 32 b])), (1, some (.int .i64 child))] ⟨0, []⟩ (fnK RcTag 0 Kf) :=
  L_regE hGcTag (rz35_7 b child (fun e H => SemL Try.prog w0 fp ρi 0 17 [(.seq cz35_n1 (.seq (.seq cz35_n2 cz35_n4) (.seq cz35_n5 .ret)))] e H (fnK RcTag 0 Kf)) (L_seq (pz35_6 b child hK h)))
def vccTag (b : List Int) (child : Int) : Prop := vz35_7 b child
theorem wcTag (b : List Int) (child : Int) (hK : Kf (.tuple [.int .u64 (kidT b child), .int .i64 (kidE child)]) ⟨0, []⟩) (h : vccTag b child) : SemL Try.prog w0 fp ρi 0 17 [ccTag] [(0, some (.agg [.ints .u8 32 b])), (1, some (.int .i64 child))] ⟨0, []⟩ (fnK RcTag 0 Kf) :=
  (L_seq (pz35_7 b child hK h))
end
theorem okcTag (b : List Int) (child : Int) (hpre : (LineOk b ∧ I64 child)) : vccTag b child := by
  unfold vccTag vz35_7 vz35_6 vz35_5 vz35_4 vz35_3 vz35_2 vz35_1 vz35_0
  obtain ⟨⟨hl, hb⟩, hc⟩ := hpre
  refine ⟨hc, fun h => ?_, fun h => ?_⟩
  · have hk := of_decide_eq_true h
    have hkb : kidB child = true := h
    rintro v6 rfl
    have hlen : (List.take 8 (List.drop (8 * child).toNat b)).length = 8 := by simp; omega
    refine ⟨by omega, ⟨hlen, by omega, by omega, fun x hx => hb x (List.mem_of_mem_drop (List.mem_of_mem_take hx))⟩, ?_, ?_⟩
    · unfold kidT tagL
      rw [if_pos hkb, List.take_take]; rfl
    · unfold kidE; rw [if_pos hkb]
  · have hkb : kidB child = false := h
    unfold kidT kidE
    rw [if_neg (by rw [hkb]; decide), if_neg (by rw [hkb]; decide)]
    exact ⟨rfl, rfl⟩
theorem scTag : Sound Try.prog 35 (pureS PcTag) := by
  refine fn_soundA ccTag_fits ?_
  intro args H K h
  obtain ⟨pre, v, hP, hpre, rfl, hK⟩ := pureS_inv h
  unfold PcTag at hP
  split at hP
  · obtain ⟨hb, hP⟩ := bif_some hP
    have h0 := hb
    obtain rfl := Nat.eq_of_beq_eq_true h0
    cases hP
    exact ⟨rfl, fun w0 fp ρi => wcTag _ _ hK (okcTag _ _ hpre)⟩
  · cases hP
def PcWith : PSpec := fun args => match args with
  | [.agg [.ints .u8 b_n b], .int .i64 child, .int .u64 tag] => bif Nat.beq b_n 32 then some ((LineOk b ∧ I64 child ∧ 0 ≤ tag ∧ tag < 2 ^ 64), .tuple [.agg [.ints .u8 32 (kidW b child tag)], .int .i64 (kidE child)]) else none
  | _ => none
def pccWith : PCon := ⟨36, PcWith⟩
def cz36_n0 : ACode := .reg (.op (some 3) (.box (.tm 0)) (.op (some 6) (.alloc [.ints .u8 32 (List.replicate 32 0)]) (.op (some 7) (.mov (.cn (.int .i64 0))) .nil)))
def cz36_n1 : ACode := .reg (.op (some 11) (.mov (.tm 1)) (.op (some 12) (.call 61 [(.tm 3), (.tm 11)]) (.op (some 10) (.mov (.tm 12)) (.op (some 13) (.extract (.tm 10) 0) (.op (some 14) (.extract (.tm 10) 1) (.op (some 8) (.mov (.tm 13)) (.op (some 9) (.mov (.tm 14)) .nil)))))))
def cz36_n2 : ACode := .reg (.op (some 15) (.mov (.tm 9)) (.op (some 16) (.not (.tm 15)) .nil))
def cz36_n3 : ACode := .reg (.op (some 17) (.build [.ints .u8 32 (List.replicate 32 0)] []) (.op none (.storeA 32 (.tm 6) (.tm 17)) (.op (some 7) (.mov (.cn (.int .i64 2))) .nil)))
def cz36_n4 : ACode := .cond (.tm 16) (.seq cz36_n3 .ret) .skip
def cz36_n5 : ACode := .reg (.op (some 18) (.mov (.tm 8)) (.op (some 19) (.mov (.tm 2)) (.op (some 20) (.call 46 [(.cn (.nilslice)), (.tm 19), (.cn (.int .i64 8))]) (.op (some 21) (.copy .u8 (.tm 18) (.tm 20)) .nil))))
def cz36_n6 : ACode := .reg (.op (some 22) (.loadA 32 (.tm 3)) (.op none (.storeA 32 (.tm 6) (.tm 22)) (.op (some 7) (.mov (.cn (.int .i64 0))) .nil)))
def ccWith : ACode := (.seq cz36_n0 (.seq cz36_n1 (.seq (.seq cz36_n2 cz36_n4) (.seq cz36_n5 (.seq cz36_n6 .ret)))))
def RcWith : Res := .many [.cA 6 32, .tm 7]
theorem ccWith_fits : fnFits Try.prog 36 3 23 ccWith RcWith = true := by kernel_rfl
def GcWith : Calls' := withP [] [conbNumber, concSpan]
theorem hGcWith : CallOk Try.prog GcWith := withP_ok trivial ⟨sbNumber.dC, scSpan, trivial⟩
section
variable {w0 : World} {fp : Nat → Nat → Prop} {ρi : Rho} {Kf : SVal → Heap → Prop}
theorem rz36_0 (b : List Int) (child : Int) (tag : Int) (h0 : List Int) (Z : Env → Heap → Prop) (h : Z [(6, some (.ptr ⟨1, 0, 0, 1⟩ 32)), (7, some (.int .i64 0))] ⟨4, [(1, some ⟨true, [.ints .u8 32 h0], 0⟩)]⟩) : EvC GcWith cz36_n6 [(3, some (.ptr ⟨0, 0, 0, 1⟩ 32)), (6, some (.ptr ⟨1, 0, 0, 1⟩ 32))] ⟨4, [(0, some ⟨true, [.ints .u8 32 h0], 0⟩), (1, some ⟨true, [.ints .u8 32 (List.replicate 32 0)], 0⟩)]⟩ [6, 7] [1] Z := EvC.of (by kernel_rfl) h
theorem rtz36_0 (b : List Int) (child : Int) (tag : Int) (h0 : List Int) : RetC RcWith [(6, some (.ptr ⟨1, 0, 0, 1⟩ 32)), (7, some (.int .i64 0))] ⟨4, [(1, some ⟨true, [.ints .u8 32 h0], 0⟩)]⟩ (.tuple [.agg [.ints .u8 32 h0], .int .i64 0]) := RetC.of (fun Z => by kernel_rfl)
def vz36_0 (b : List Int) (child : Int) (tag : Int) (h0 : List Int) : Prop := (h0 = (kidW b child tag)) ∧ (0 = (kidE child))
theorem pz36_0 (b : List Int) (child : Int) (tag : Int) (hK : Kf (.tuple [.agg [.ints .u8 32 (kidW b child tag)], .int .i64 (kidE child)]) ⟨0, []⟩) (h0 : List Int) (h : vz36_0 b child tag h0) : SemL Try.prog w0 fp ρi 0 23 [cz36_n6, .ret] [(3, some (.ptr ⟨0, 0, 0, 1⟩ 32)), (6, some (.ptr ⟨1, 0, 0, 1⟩ 32))] ⟨4, [(0, some ⟨true, [.ints .u8 32 h0], 0⟩), (1, some ⟨true, [.ints .u8 32 (List.replicate 32 0)], 0⟩)]⟩ (fnK RcWith 0 Kf) :=
  L_regE hGcWith (rz36_0 b child tag h0 (fun e H => SemL Try.prog w0 fp ρi 0 23 [.ret] e H (fnK RcWith 0 Kf)) (L_retE (R := RcWith) (m := 0) (Kf := Kf) (fun _ _ h => h) (rtz36_0 b child tag h0) (ret_plain rfl (by kernel_rfl) (cg2 (fun (z1 : List Int) (z2 : Int) => (.tuple [.agg [.ints .u8 32 z1], .int .i64 z2] : SVal)) h.1 h.2) hK)))
theorem rz36_1 (b : List Int) (child : Int) (tag : Int) (v8i : Nat) (Z : Env → Heap → Prop) (h : (((0 : Nat) ≤ 0)) ∧ (((0 : Nat) = 0)) ∧ ((List.length ([] : List Int) = 0 ∧ 0 ≤ 1000000 ∧ 0 ≤ tag ∧ tag < 2 ^ 64)) ∧ ∀ (c : Nat), (0 + Int.toNat (min (8 : Int) 64)) ≤ c → (((0 + (0 + Int.toNat (min (8 : Int) 64))) ≤ (0 + Int.toNat (min (8 : Int) 64)))) ∧ (((min (0 + Int.toNat (min (8 : Int) 64)) 8) = (min (0 + Int.toNat (min (8 : Int) 64)) 8))) ∧ (((v8i + (min (0 + Int.toNat (min (8 : Int) 64)) 8)) ≤ 32)) ∧ ((List.length b = 32)) ∧ ((List.length (List.take (min (0 + Int.toNat (min (8 : Int) 64)) 8) (List.take (0 + Int.toNat (min (8 : Int) 64)) (numB tag (Int.toNat (min (8 : Int) 64))))) = (min (0 + Int.toNat (min (8 : Int) 64)) 8))) ∧ Z [(3, some (.ptr ⟨0, 0, 0, 1⟩ 32)), (6, some (.ptr ⟨1, 0, 0, 1⟩ 32))] ⟨4, [(0, some ⟨true, [.ints .u8 32 (List.take v8i b ++ (List.take (min (0 + Int.toNat (min (8 : Int) 64)) 8) (List.take (0 + Int.toNat (min (8 : Int) 64)) (numB tag (Int.toNat (min (8 : Int) 64))))) ++ List.drop (v8i + (min (0 + Int.toNat (min (8 : Int) 64)) 8)) b)], 0⟩), (1, some ⟨true, [.ints .u8 32 (List.replicate 32 0)], 0⟩)]⟩) : EvC GcWith cz36_n5 [(2, some (.int .u64 tag)), (3, some (.ptr ⟨0, 0, 0, 1⟩ 32)), (6, some (.ptr ⟨1, 0, 0, 1⟩ 32)), (8, some (.slice ⟨0, 0, v8i, 1⟩ 8 8))] ⟨2, [(0, some ⟨true, [.ints .u8 32 b], 0⟩), (1, some ⟨true, [.ints .u8 32 (List.replicate 32 0)], 0⟩)]⟩ [3, 6] [0, 1] Z := EvC.of (by kernel_rfl) h
def vz36_1 (b : List Int) (child : Int) (tag : Int) (v8i : Nat) : Prop := ((List.length ([] : List Int) = 0 ∧ 0 ≤ 1000000 ∧ 0 ≤ tag ∧ tag < 2 ^ 64)) ∧ (∀ (c : Nat), ((0 + Int.toNat (min (8 : Int) 64)) ≤ c) → ((((0 + (0 + Int.toNat (min (8 : Int) 64))) ≤ (0 + Int.toNat (min (8 : Int) 64)))) ∧ ((((v8i + (min (0 + Int.toNat (min (8 : Int) 64)) 8)) ≤ 32)) ∧ (((List.length b = 32)) ∧ (((List.length (List.take (min (0 + Int.toNat (min (8 : Int) 64)) 8) (List.take (0 + Int.toNat (min (8 : Int) 64)) (numB tag (Int.toNat (min (8 : Int) 64))))) = (min (0 + Int.toNat (min (8 : Int) 64)) 8))) ∧ (∀ h0 : List Int, h0 = (List.take v8i b ++ (List.take (min (0 + Int.toNat (min (8 : Int) 64)) 8) (List.take (0 + Int.toNat (min (8 : Int) 64)) (numB tag (Int.toNat (min (8 : Int) 64))))) ++ List.drop (v8i + (min (0 + Int.toNat (min (8 : Int) 64)) 8)) b) → vz36_0 b child tag h0))))))
theorem pz36_1 (b : List Int) (child : Int) (tag : Int) (hK : Kf (.tuple [.agg [.ints .u8 32 (kidW b child tag)], .int .i64 (kidE child)]) ⟨0, []⟩) (v8i : Nat) (h : vz36_1 b child tag v8i) : SemL Try.prog w0 fp ρi 0 23 [cz36_n5, (.seq cz36_n6 .ret)] [(2, some (.int .u64 tag)), (3, some (.ptr ⟨0, 0, 0, 1⟩ 32)), (6, some (.ptr ⟨1, 0, 0, 1⟩ 32)), (8, some (.slice ⟨0, 0, v8i, 1⟩ 8 8))] ⟨2, [(0, some ⟨true, [.ints .u8 32 b], 0⟩), (1, some ⟨true, [.ints .u8 32 (List.replicate 32 0)], 0⟩)]⟩ (fnK RcWith 0 Kf) :=
  L_regE hGcWith (rz36_1 b child tag v8i (fun e H => SemL Try.prog w0 fp ρi 0 23 [(.seq cz36_n6 .ret)] e H (fnK RcWith 0 Kf)) ⟨(by decide), ⟨rfl, ⟨h.1, (fun c h_c_0 => ⟨(h.2 c h_c_0).1, ⟨rfl, ⟨(h.2 c h_c_0).2.1, ⟨(h.2 c h_c_0).2.2.1, ⟨(h.2 c h_c_0).2.2.2.1, (L_seq (pz36_0 b child tag hK (List.take v8i b ++ (List.take (min (0 + Int.toNat (min (8 : Int) 64)) 8) (List.take (0 + Int.toNat (min (8 : Int) 64)) (numB tag (Int.toNat (min (8 : Int) 64))))) ++ List.drop (v8i + (min (0 + Int.toNat (min (8 : Int) 64)) 8)) b) ((h.2 c h_c_0).2.2.2.2 (List.take v8i b ++ (List.take (min (0 + Int.toNat (min (8 : Int) 64)) 8) (List.take (0 + Int.toNat (min (8 : Int) 64)) (numB tag (Int.toNat (min (8 : Int) 64))))) ++ List.drop (v8i + (min (0 + Int.toNat (min (8 : Int) 64)) 8)) b) rfl)))⟩⟩⟩⟩⟩)⟩⟩⟩)
def vz36_2 (b : List Int) (child : Int) (tag : Int) (v8i : Nat) : Prop := vz36_1 b child tag v8i
theorem pz36_2 (b : List Int) (child : Int) (tag : Int) (hK : Kf (.tuple [.agg [.ints .u8 32 (kidW b child tag)], .int .i64 (kidE child)]) ⟨0, []⟩) (v8i : Nat) (h : vz36_2 b child tag v8i) : SemL Try.prog w0 fp ρi 0 23 [cz36_n4, (.seq cz36_n5 (.seq cz36_n6 .ret))] [(2, some (.int .u64 tag)), (3, some (.ptr ⟨0, 0, 0, 1⟩ 32)), (6, some (.ptr ⟨1, 0, 0, 1⟩ 32)), (8, some (.slice ⟨0, 0, v8i, 1⟩ 8 8)), (16, some (.bool false))] ⟨2, [(0, some ⟨true, [.ints .u8 32 b], 0⟩), (1, some ⟨true, [.ints .u8 32 (List.replicate 32 0)], 0⟩)]⟩ (fnK RcWith 0 Kf) :=
  L_cond (q := false) (by kernel_rfl) (fun hq => Bool.noConfusion hq) (fun _ => (L_skip (lpk [2, 3, 6, 8] [0, 1] (L_seq (pz36_1 b child tag hK v8i h)))))
theorem rz36_3 (b : List Int) (child : Int) (tag : Int) (v8i : Nat) (Z : Env → Heap → Prop) (h : Z [(2, some (.int .u64 tag)), (3, some (.ptr ⟨0, 0, 0, 1⟩ 32)), (6, some (.ptr ⟨1, 0, 0, 1⟩ 32)), (8, some (.slice ⟨0, 0, v8i, 1⟩ 8 8)), (16, some (.bool false))] ⟨2, [(0, some ⟨true, [.ints .u8 32 b], 0⟩), (1, some ⟨true, [.ints .u8 32 (List.replicate 32 0)], 0⟩)]⟩) : EvC GcWith cz36_n2 [(2, some (.int .u64 tag)), (3, some (.ptr ⟨0, 0, 0, 1⟩ 32)), (6, some (.ptr ⟨1, 0, 0, 1⟩ 32)), (8, some (.slice ⟨0, 0, v8i, 1⟩ 8 8)), (9, some (.bool true))] ⟨2, [(0, some ⟨true, [.ints .u8 32 b], 0⟩), (1, some ⟨true, [.ints .u8 32 (List.replicate 32 0)], 0⟩)]⟩ [2, 3, 6, 8, 16] [0, 1] Z := EvC.of (by kernel_rfl) h
def vz36_3 (b : List Int) (child : Int) (tag : Int) (v8i : Nat) : Prop := vz36_2 b child tag v8i
theorem pz36_3 (b : List Int) (child : Int) (tag : Int) (hK : Kf (.tuple [.agg [.ints .u8 32 (kidW b child tag)], .int .i64 (kidE child)]) ⟨0, []⟩) (v8i : Nat) (h : vz36_3 b child tag v8i) : SemL Try.prog w0 fp ρi 0 23 [cz36_n2, cz36_n4, (.seq cz36_n5 (.seq cz36_n6 .ret))] [(2, some (.int .u64 tag)), (3, some (.ptr ⟨0, 0, 0, 1⟩ 32)), (6, some (.ptr ⟨1, 0, 0, 1⟩ 32)), (8, some (.slice ⟨0, 0, v8i, 1⟩ 8 8)), (9, some (.bool true))] ⟨2, [(0, some ⟨true, [.ints .u8 32 b], 0⟩), (1, some ⟨true, [.ints .u8 32 (List.replicate 32 0)], 0⟩)]⟩ (fnK RcWith 0 Kf) :=
  L_regE hGcWith (rz36_3 b child tag v8i (fun e H => SemL Try.prog w0 fp ρi 0 23 [cz36_n4, (.seq cz36_n5 (.seq cz36_n6 .ret))] e H (fnK RcWith 0 Kf)) (pz36_2 b child tag hK v8i h))
theorem rz36_4 (b : List Int) (child : Int) (tag : Int) (Z : Env → Heap → Prop) (h : Z [(6, some (.ptr ⟨1, 0, 0, 1⟩ 32)), (7, some (.int .i64 2))] ⟨2, [(1, some ⟨true, [.ints .u8 32 (List.replicate 32 0)], 0⟩)]⟩) : EvC GcWith cz36_n3 [(6, some (.ptr ⟨1, 0, 0, 1⟩ 32))] ⟨2, [(1, some ⟨true, [.ints .u8 32 (List.replicate 32 0)], 0⟩)]⟩ [6, 7] [1] Z := EvC.of (by kernel_rfl) h
theorem rtz36_1 (b : List Int) (child : Int) (tag : Int) : RetC RcWith [(6, some (.ptr ⟨1, 0, 0, 1⟩ 32)), (7, some (.int .i64 2))] ⟨2, [(1, some ⟨true, [.ints .u8 32 (List.replicate 32 0)], 0⟩)]⟩ (.tuple [.agg [.ints .u8 32 (List.replicate 32 0)], .int .i64 2]) := RetC.of (fun Z => by kernel_rfl)
def vz36_4 (b : List Int) (child : Int) (tag : Int) : Prop := ((List.replicate 32 0) = (kidW b child tag)) ∧ (2 = (kidE child))
theorem pz36_4 (b : List Int) (child : Int) (tag : Int) (hK : Kf (.tuple [.agg [.ints .u8 32 (kidW b child tag)], .int .i64 (kidE child)]) ⟨0, []⟩) (h : vz36_4 b child tag) : SemL Try.prog w0 fp ρi 0 23 [cz36_n3, .ret, (.seq cz36_n5 (.seq cz36_n6 .ret))] [(6, some (.ptr ⟨1, 0, 0, 1⟩ 32))] ⟨2, [(1, some ⟨true, [.ints .u8 32 (List.replicate 32 0)], 0⟩)]⟩ (fnK RcWith 0 Kf) :=
  L_regE hGcWith (rz36_4 b child tag (fun e H => SemL Try.prog w0 fp ρi 0 23 [.ret, (.seq cz36_n5 (.seq cz36_n6 .ret))] e H (fnK RcWith 0 Kf)) (L_retE (R := RcWith) (m := 0) (Kf := Kf) (fun _ _ h => h) (rtz36_1 b child tag) (ret_plain rfl (by kernel_rfl) (cg2 (fun (z1 : List Int) (z2 : Int) => (.tuple [.agg [.ints .u8 32 z1], .int .i64 z2] : SVal)) h.1 h.2) hK)))
def vz36_5 (b : List Int) (child : Int) (tag : Int) : Prop := vz36_4 b child tag
theorem pz36_5 (b : List Int) (child : Int) (tag : Int) (hK : Kf (.tuple [.agg [.ints .u8 32 (kidW b child tag)], .int .i64 (kidE child)]) ⟨0, []⟩) (h : vz36_5 b child tag) : SemL Try.prog w0 fp ρi 0 23 [cz36_n4, (.seq cz36_n5 (.seq cz36_n6 .ret))] [(2, some (.int .u64 tag)), (3, some (.ptr ⟨0, 0, 0, 1⟩ 32)), (6, some (.ptr ⟨1, 0, 0, 1⟩ 32)), (8, some (.nilslice)), (16, some (.bool true))] ⟨2, [(0, some ⟨true, [.ints .u8 32 b], 0⟩), (1, some ⟨true, [.ints .u8 32 (List.replicate 32 0)], 0⟩)]⟩ (fnK RcWith 0 Kf) :=
  L_cond (q := true) (by kernel_rfl) (fun _ => (L_seq (lpk [6] [1] (pz36_4 b child tag hK h)))) (fun hq => Bool.noConfusion hq)
theorem rz36_6 (b : List Int) (child : Int) (tag : Int) (Z : Env → Heap → Prop) (h : Z [(2, some (.int .u64 tag)), (3, some (.ptr ⟨0, 0, 0, 1⟩ 32)), (6, some (.ptr ⟨1, 0, 0, 1⟩ 32)), (8, some (.nilslice)), (16, some (.bool true))] ⟨2, [(0, some ⟨true, [.ints .u8 32 b], 0⟩), (1, some ⟨true, [.ints .u8 32 (List.replicate 32 0)], 0⟩)]⟩) : EvC GcWith cz36_n2 [(2, some (.int .u64 tag)), (3, some (.ptr ⟨0, 0, 0, 1⟩ 32)), (6, some (.ptr ⟨1, 0, 0, 1⟩ 32)), (8, some (.nilslice)), (9, some (.bool false))] ⟨2, [(0, some ⟨true, [.ints .u8 32 b], 0⟩), (1, some ⟨true, [.ints .u8 32 (List.replicate 32 0)], 0⟩)]⟩ [2, 3, 6, 8, 16] [0, 1] Z := EvC.of (by kernel_rfl) h
def vz36_6 (b : List Int) (child : Int) (tag : Int) : Prop := vz36_5 b child tag
theorem pz36_6 (b : List Int) (child : Int) (tag : Int) (hK : Kf (.tuple [.agg [.ints .u8 32 (kidW b child tag)], .int .i64 (kidE child)]) ⟨0, []⟩) (h : vz36_6 b child tag) : SemL Try.prog w0 fp ρi 0 23 [cz36_n2, cz36_n4, (.seq cz36_n5 (.seq cz36_n6 .ret))] [(2, some (.int .u64 tag)), (3, some (.ptr ⟨0, 0, 0, 1⟩ 32)), (6, some (.ptr ⟨1, 0, 0, 1⟩ 32)), (8, some (.nilslice)), (9, some (.bool false))] ⟨2, [(0, some ⟨true, [.ints .u8 32 b], 0⟩), (1, some ⟨true, [.ints .u8 32 (List.replicate 32 0)], 0⟩)]⟩ (fnK RcWith 0 Kf) :=
  L_regE hGcWith (rz36_6 b child tag (fun e H => SemL Try.prog w0 fp ρi 0 23 [cz36_n4, (.seq cz36_n5 (.seq cz36_n6 .ret))] e H (fnK RcWith 0 Kf)) (pz36_5 b child tag hK h))
theorem rz36_7 (b : List Int) (child : Int) (tag : Int) (Z : Env → Heap → Prop) (h : ((I64 child)) ∧ ((decide (0 ≤ child ∧ child ≤ 3)) = true → Z [(2, some (.int .u64 tag)), (3, some (.ptr ⟨0, 0, 0, 1⟩ 32)), (6, some (.ptr ⟨1, 0, 0, 1⟩ 32)), (8, some (.slice ⟨0, 0, (Int.toNat (8 * child)), 1⟩ 8 8)), (9, some (.bool true))] ⟨2, [(0, some ⟨true, [.ints .u8 32 b], 0⟩), (1, some ⟨true, [.ints .u8 32 (List.replicate 32 0)], 0⟩)]⟩) ∧ ((decide (0 ≤ child ∧ child ≤ 3)) = false → Z [(2, some (.int .u64 tag)), (3, some (.ptr ⟨0, 0, 0, 1⟩ 32)), (6, some (.ptr ⟨1, 0, 0, 1⟩ 32)), (8, some (.nilslice)), (9, some (.bool false))] ⟨2, [(0, some ⟨true, [.ints .u8 32 b], 0⟩), (1, some ⟨true, [.ints .u8 32 (List.replicate 32 0)], 0⟩)]⟩)) : EvC GcWith cz36_n1 [(1, some (.int .i64 child)), (2, some (.int .u64 tag)), (3, some (.ptr ⟨0, 0, 0, 1⟩ 32)), (6, some (.ptr ⟨1, 0, 0, 1⟩ 32))] ⟨2, [(0, some ⟨true, [.ints .u8 32 b], 0⟩), (1, some ⟨true, [.ints .u8 32 (List.replicate 32 0)], 0⟩)]⟩ [2, 3, 6, 8, 9] [0, 1] Z := EvC.of (by kernel_rfl) h
def vz36_7 (b : List Int) (child : Int) (tag : Int) : Prop := ((I64 child)) ∧ (((decide (0 ≤ child ∧ child ≤ 3)) = true → (∀ v8i : Nat, v8i = (Int.toNat (8 * child)) → vz36_3 b child tag v8i)) ∧ ((decide (0 ≤ child ∧ child ≤ 3)) = false → (vz36_6 b child tag)))
theorem pz36_7 (b : List Int) (child : Int) (tag : Int) (hK : Kf (.tuple [.agg [.ints .u8 32 (kidW b child tag)], .int .i64 (kidE child)]) ⟨0, []⟩) (h : vz36_7 b child tag) : SemL Try.prog w0 fp ρi 0 23 [cz36_n1, (.seq (.seq cz36_n2 cz36_n4) (.seq cz36_n5 (.seq cz36_n6 .ret)))] [(1, some (.int .i64 child)), (2, some (.int .u64 tag)), (3, some (.ptr ⟨0, 0, 0, 1⟩ 32)), (6, some (.ptr ⟨1, 0, 0, 1⟩ 32))] ⟨2, [(0, some ⟨true, [.ints .u8 32 b], 0⟩), (1, some ⟨true, [.ints .u8 32 (List.replicate 32 0)], 0⟩)]⟩ (fnK RcWith 0 Kf) :=
  L_regE hGcWith (rz36_7 b child tag (fun e H => SemL Try.prog w0 fp ρi 0 23 [(.seq (.seq cz36_n2 cz36_n4) (.seq cz36_n5 (.seq cz36_n6 .ret)))] e H (fnK RcWith 0 Kf)) ⟨h.1, ⟨fun hc2 => (L_seq (L_seq (pz36_3 b child tag hK (Int.toNat (8 * child)) ((h.2.1 hc2) (Int.toNat (8 * child)) rfl)))), fun hc2 => (L_seq (L_seq (pz36_6 b child tag hK (h.2.2 hc2))))⟩⟩)
theorem rz36_8 (b : List Int) (child : Int) (tag : Int) (Z : Env → Heap → Prop) (h : Z [(1, some (.int .i64 child)), (2, some (.int .u64 tag)), (3, some (.ptr ⟨0, 0, 0, 1⟩ 32)), (6, some (.ptr ⟨1, 0, 0, 1⟩ 32))] ⟨2, [(0, some ⟨true, [.ints .u8 32 b], 0⟩), (1, some ⟨true, [.ints .u8 32 (List.replicate 32 0)], 0⟩)]⟩) : EvC GcWith cz36_n0 [(0, some (.agg [.ints .u8 32 b])), (1, some (.int .i64 child)), (2, some (.int .u64 tag))] ⟨0, []⟩ [1, 2, 3, 6] [0, 1] Z := EvC.of (by kernel_rfl) h
def vz36_8 (b : List Int) (child : Int) (tag : Int) : Prop := vz36_7 b child tag
theorem pz36_8 (b : List Int) (child : Int) (tag : Int) (hK : Kf (.tuple [.agg [.ints .u8 32 (kidW b child tag)], .int .i64 (kidE child)]) ⟨0, []⟩) (h : vz36_8 b child tag) : SemL Try.prog w0 fp ρi 0 23 [cz36_n0, (.seq cz36_n1 (.seq (.seq cz36_n2 cz36_n4) (.seq cz36_n5 (.seq cz36_n6 .ret))))] [(0, some (.agg [.ints .u8 32 b])), (1, some (.int .i64 child)), (2, some (.int .u64 tag))] ⟨0, []⟩ (fnK RcWith 0 Kf) :=
  L_regE hGcWith (rz36_8 b child tag (fun e H => SemL Try.prog w0 fp ρi 0 23 [(.seq cz36_n1 (.seq (.seq cz36_n2 cz36_n4) (.seq cz36_n5 (.seq cz36_n6 .ret))))] e H (fnK RcWith 0 Kf)) (L_seq (pz36_7 b child tag hK h)))
def vccWith (b : List Int) (child : Int) (tag : Int) : Prop := vz36_8 b child tag
theorem wcWith (b : List Int) (child : Int) (tag : Int) (hK : Kf (.tuple [.agg [.ints .u8 32 (kidW b child tag)], .int .i64 (kidE child)]) ⟨0, []⟩) (h : vccWith b child tag) : SemL Try.prog w0 fp ρi 0 23 [ccWith] [(0, some (.agg [.ints .u8 32 b])), (1, some (.int .i64 child)), (2, some (.int .u64 tag))] ⟨0, []⟩ (fnK RcWith 0 Kf) :=
  (L_seq (pz36_8 b child tag hK h))
end
theorem okcWith (b : List Int) (child : Int) (tag : Int) (hpre : (LineOk b ∧ I64 child ∧ 0 ≤ tag ∧ tag < 2 ^ 64)) : vccWith b child tag := by
  unfold vccWith vz36_8 vz36_7 vz36_6 vz36_5 vz36_4 vz36_3 vz36_2 vz36_1 vz36_0
  obtain ⟨⟨hl, hb⟩, hc, ht, ht2⟩ := hpre
  refine ⟨hc, fun h => ?_, fun h => ?_⟩
  · have hk := of_decide_eq_true h
    have hkb : kidB child = true := h
    rintro v8 rfl
    have h8 : (min (8 : Int) 64).toNat = 8 := by decide
    have hn : (List.take (0 + 8) (numB tag 8)) = numB tag 8 := List.take_of_length_le (by simp [numB_length])
    refine ⟨⟨rfl, by omega, ht, ht2⟩, fun k hk => ⟨by omega, by omega, hl, by simp [numB_length], ?_⟩⟩
    rintro h0 e0
    rw [h8, hn, show min (0 + 8) 8 = 8 by decide, List.take_of_length_le (l := numB tag 8) (by simp [numB_length])] at e0
    unfold kidW kidE
    rw [if_pos hkb, if_pos hkb, e0]
    unfold putN
    rw [numB_length]
    exact ⟨rfl, rfl⟩
  · have hkb : kidB child = false := h
    unfold kidW kidE
    rw [if_neg (by rw [hkb]; decide), if_neg (by rw [hkb]; decide)]
    exact ⟨rfl, rfl⟩
theorem scWith : Sound Try.prog 36 (pureS PcWith) := by
  refine fn_soundA ccWith_fits ?_
  intro args H K h
  obtain ⟨pre, v, hP, hpre, rfl, hK⟩ := pureS_inv h
  unfold PcWith at hP
  split at hP
  · obtain ⟨hb, hP⟩ := bif_some hP
    have h0 := hb
    obtain rfl := Nat.eq_of_beq_eq_true h0
    cases hP
    exact ⟨rfl, fun w0 fp ρi => wcWith _ _ _ hK (okcWith _ _ _ hpre)⟩
  · cases hP
end Go.Proofs.Ytggpebgigddogaa
