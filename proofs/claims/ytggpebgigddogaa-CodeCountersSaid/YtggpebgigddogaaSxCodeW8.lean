/- Part of the proof: SxCodeW8. -/
import Derived.Test.YtggpebgigddogaaSxPutQ
import Derived.Test.YtggpebgigddogaaSxPlanP
import Derived.Test.YtggpebgigddogaaSxCodeN
import Derived.Test.YtggpebgigddogaaSxCodeK
import Derived.KernelRfl
set_option linter.unusedVariables false
set_option linter.unusedSimpArgs false
namespace Go.Proofs.Ytggpebgigddogaa
open Go.Sx
def DcCount : GSpec := fun args H => match args, H with
  | [.agg [.one (.int .i64 p_0), .one (.int .i64 p_1), .one (.int .i64 p_2), .one (.int .i64 p_3), .one (.int .i64 p_4), .one (.int .i64 p_5), .one (.int .u64 p_6), .one (.int .i64 p_7), .one (.int .i64 p_8), .one (.int .i64 p_9), .one (.int .i64 p_10), .one (.int .i64 p_11), .one (.int .i64 p_12), .one (.int .i64 p_13), .ints .u8 p_14_n p_14, .ints .u8 p_15_n p_15], .agg [.ints .u8 b_n b]], ⟨0, []⟩ => bif Nat.beq p_14_n 16 && Nat.beq p_15_n 16 && Nat.beq b_n 32 then some ((LineOk b), fun K => ((!PlanV.right (PlanV.mk p_0 p_1 p_2 p_3 p_4 p_5 p_6 p_7 p_8 p_9 p_10 p_11 p_12 p_13 p_14 p_15)) = true -> K (.tuple [.agg [.one (.int .u64 0), .one (.nilslice)], .int .i64 4]) ⟨0, []⟩) /\ ((!PlanV.right (PlanV.mk p_0 p_1 p_2 p_3 p_4 p_5 p_6 p_7 p_8 p_9 p_10 p_11 p_12 p_13 p_14 p_15)) = false -> ∀ cap0 : Nat, (Int.toNat (PlanV.lines (PlanV.mk p_0 p_1 p_2 p_3 p_4 p_5 p_6 p_7 p_8 p_9 p_10 p_11 p_12 p_13 p_14 p_15))) <= cap0 -> K (.tuple [.agg [.one (.int .u64 (readB (List.take 8 b))), .one (.slice ⟨0, 0, 0, 1⟩ (Int.toNat (PlanV.lines (PlanV.mk p_0 p_1 p_2 p_3 p_4 p_5 p_6 p_7 p_8 p_9 p_10 p_11 p_12 p_13 p_14 p_15))) cap0)], .int .i64 0]) ⟨1, [(0, some ⟨true, [.ints .i64 (Int.toNat (PlanV.lines (PlanV.mk p_0 p_1 p_2 p_3 p_4 p_5 p_6 p_7 p_8 p_9 p_10 p_11 p_12 p_13 p_14 p_15))) (PlanV.minL (PlanV.mk p_0 p_1 p_2 p_3 p_4 p_5 p_6 p_7 p_8 p_9 p_10 p_11 p_12 p_13 p_14 p_15) b)], (cap0 - (Int.toNat (PlanV.lines (PlanV.mk p_0 p_1 p_2 p_3 p_4 p_5 p_6 p_7 p_8 p_9 p_10 p_11 p_12 p_13 p_14 p_15))))⟩)]⟩)) else none
  | _, _ => none
def concCount : Con := ⟨32, gS DcCount, [], [], []⟩
def cz32_n0 : ACode := .reg (.op (some 2) (.box (.tm 0)) (.op (some 3) (.box (.tm 1)) (.op (some 4) (.alloc [.one (.int .u64 0), .one (.nilslice)]) (.op (some 5) (.mov (.cn (.int .i64 0))) .nil))))
def cz32_n1 : ACode := .reg (.op (some 9) (.loadA 46 (.tm 2)) (.op (some 10) (.call 55 [(.tm 9)]) (.op (some 11) (.bin .neq (.tm 10) (.cn (.int .i64 0))) .nil)))
def cz32_n2 : ACode := .reg (.op (some 12) (.loadA 2 (.tm 4)) (.op none (.storeA 2 (.tm 4) (.tm 12)) (.op (some 5) (.mov (.cn (.int .i64 4))) .nil)))
def cz32_n3 : ACode := .cond (.tm 11) (.seq cz32_n2 .ret) .skip
def cz32_n4 : ACode := .reg (.op (some 13) (.sliceP 32 (.tm 3) none none none) (.op (some 14) (.call 56 [(.tm 13)]) (.op (some 15) (.fieldAddr (.tm 4) 0 1) (.op none (.store1 (.tm 15) (.tm 14)) .nil))))
def cz32_n5 : ACode := .reg (.op (some 16) (.fieldAddr (.tm 2) 3 1) (.op (some 17) (.load1 (.tm 16)) (.op (some 18) (.mov (.cn (.int .i64 0))) .nil)))
def cz32_n6 : ACode := .reg (.op (some 19) (.bin .lss (.tm 18) (.tm 17)) .nil)
def cz32_n7 : ACode := .cond (.tm 19) .skip (.exit 0)
def cz32_n8 : ACode := .reg (.op (some 20) (.mov (.tm 18)) (.op (some 6) (.mov (.tm 20)) .nil))
def cz32_n9i : Items := .op (some 22) (.sliceP 32 (.tm 3) none none none) (.op (some 23) (.mov (.tm 6)) (.op (some 24) (.fieldAddr (.tm 2) 5 1) (.op (some 25) (.load1 (.tm 24)) (.op (some 26) (.bin .mul (.tm 23) (.tm 25)) (.op (some 27) (.bin .add (.cn (.int .i64 64)) (.tm 26)) (.op (some 28) (.fieldAddr (.tm 2) 5 1) (.op (some 29) (.load1 (.tm 28)) (.op (some 30) (.call 52 [(.tm 22), (.tm 27), (.tm 29)]) (.op (some 21) (.mov (.tm 30)) (.op (some 31) (.extract (.tm 21) 0) (.op (some 32) (.extract (.tm 21) 1) (.op (some 7) (.mov (.tm 31)) (.op (some 8) (.mov (.tm 32)) .nil)))))))))))))
def cz32_n9 : ACode := .regQ cz32_n9i
def cz32_n10 : ACode := .reg (.op (some 33) (.fieldAddr (.tm 4) 1 1) (.op (some 34) (.load1 (.tm 33)) (.op (some 35) (.mov (.tm 7)) (.op (some 36) (.conv .i64 (.tm 35)) (.op (some 37) (.bslice .i64 1 [(0, (.tm 36))]) (.op (some 38) (.append .i64 (.tm 34) (.tm 37)) (.op (some 39) (.fieldAddr (.tm 4) 1 1) (.op none (.store1 (.tm 39) (.tm 38)) .nil))))))))
def cz32_n11 : ACode := .block 1 (.seq cz32_n8 (.seq cz32_n9 cz32_n10))
def cz32_n12 : ACode := .reg (.op (some 40) (.bin .add (.tm 18) (.cn (.int .i64 1))) (.op (some 18) (.mov (.tm 40)) .nil))
def cz32_n13 : ACode := .loop (.seq cz32_n6 (.seq cz32_n7 (.seq cz32_n11 cz32_n12)))
def cz32_n14 : ACode := .block 0 cz32_n13
def cz32_n15 : ACode := .reg (.op (some 41) (.loadA 2 (.tm 4)) (.op none (.storeA 2 (.tm 4) (.tm 41)) (.op (some 5) (.mov (.cn (.int .i64 0))) .nil)))
def ccCount : ACode := (.seq cz32_n0 (.seq (.seq cz32_n1 cz32_n3) (.seq cz32_n4 (.seq (.seq cz32_n5 cz32_n14) (.seq cz32_n15 .ret)))))
def RcCount : Res := .many [.cA 4 2, .tm 5]
theorem ccCount_fits : fnFits Try.prog 32 2 42 ccCount RcCount = true := by kernel_rfl
def GcCount : Calls' := withP [pcpCheck] [conbGet, conbRead]
theorem hGcCount : CallOk Try.prog GcCount := withP_ok ⟨spCheck, trivial⟩ ⟨sbGet, sbRead.dC, trivial⟩
section
variable {w0 : World} {fp : Nat -> Nat -> Prop} {ρi : Rho} {Kf : SVal -> Heap -> Prop}
abbrev Yb0 : Env := [(4, some (.ptr ⟨2, 0, 0, 1⟩ 2)), (5, some (.int .i64 4))]
abbrev Yb1 : Heap := ⟨3, [(2, some ⟨true, [.one (.int .u64 0), .one (.nilslice)], 0⟩)]⟩
abbrev Yb2 : Env := [(4, some (.ptr ⟨2, 0, 0, 1⟩ 2))]
theorem rz32_0 (p : PlanV) (b : List Int) (Z : Env -> Heap -> Prop) (h : Z Yb0 Yb1) : EvC GcCount cz32_n2 Yb2 Yb1 [4, 5] [2] Z := EvC.of (by kernel_rfl) h
theorem rtz32_0 (p : PlanV) (b : List Int) : RetC RcCount Yb0 Yb1 (.tuple [.agg [.one (.int .u64 0), .one (.nilslice)], .int .i64 4]) := RetC.of (fun Z => by kernel_rfl)
def vz32_0 (p : PlanV) (b : List Int) : Prop := (!PlanV.right p) = true
abbrev Yb3 : Heap := ⟨0, []⟩
abbrev Yb4 (x0 : PlanV) (x1 : List Int) (x2 : Nat) : Heap := ⟨1, [(0, some ⟨true, [.ints .i64 (Int.toNat (PlanV.lines x0)) (PlanV.minL x0 x1)], (x2 - (Int.toNat (PlanV.lines x0)))⟩)]⟩
theorem pz32_0 (p : PlanV) (b : List Int) (hK : ((!PlanV.right p) = true -> Kf (.tuple [.agg [.one (.int .u64 0), .one (.nilslice)], .int .i64 4]) Yb3) /\ ((!PlanV.right p) = false -> ∀ cap0 : Nat, (Int.toNat (PlanV.lines p)) <= cap0 -> Kf (.tuple [.agg [.one (.int .u64 (readB (List.take 8 b))), .one (.slice ⟨0, 0, 0, 1⟩ (Int.toNat (PlanV.lines p)) cap0)], .int .i64 0]) (Yb4 p b cap0))) (h : vz32_0 p b) : SemL Try.prog w0 fp ρi 0 42 [cz32_n2, .ret, (.seq cz32_n4 (.seq (.seq cz32_n5 cz32_n14) (.seq cz32_n15 .ret)))] Yb2 Yb1 (fnK RcCount 0 Kf) :=
  L_regE hGcCount (rz32_0 p b _ (L_retE (R := RcCount) (m := 0) (Kf := Kf) (fun _ _ h => h) (rtz32_0 p b) (ret_of0 (ret0_tau [] [] rfl (by kernel_rfl) rfl (bd_tuple (bdL_cons pbd (bdL_cons pbd bdL_nil))) heapSub_nil rfl (by kernel_rfl) ((hK.1 h))))))
def kkz32_0 (w0 : World) (fp : Nat -> Nat -> Prop) (ρi : Rho) (Kf : SVal -> Heap -> Prop) (p : PlanV) (b : List Int) : Cont := blockK 0 (fun e H => SemL Try.prog w0 fp ρi 0 42 [(.seq cz32_n15 .ret)] e H (fnK RcCount 0 Kf)) (fnK RcCount 0 Kf)
def ivz32_1 (p : PlanV) (b : List Int) (h2_0 : Int) : Int × Nat × Nat × Nat × List Int × Nat -> Prop := fun s => match s with | (v18, h2_1l, h2_1c, h3n, h3, x3) => 0 <= v18 /\ v18 <= p.lines /\ h2_1l = v18.toNat /\ h3n = v18.toNat /\ h3 = p.minF b v18.toNat /\ h2_1l + x3 = h2_1c
def muz32_1 (p : PlanV) (b : List Int) (h2_0 : Int) : Int × Nat × Nat × Nat × List Int × Nat -> Nat := fun s => match s with | (v18, h2_1l, h2_1c, h3n, h3, x3) => ((p.lines - v18).toNat)
def liz32_1 (p : PlanV) (b : List Int) (h2_0 : Int) : Int × Nat × Nat × Nat × List Int × Nat -> Env := fun s => match s with | (v18, h2_1l, h2_1c, h3n, h3, x3) => [(2, some (.ptr ⟨0, 0, 0, 1⟩ 46)), (3, some (.ptr ⟨1, 0, 0, 1⟩ 32)), (4, some (.ptr ⟨2, 0, 0, 1⟩ 2)), (17, some (.int .i64 p.lines)), (18, some (.int .i64 v18))]
def ljz32_1 (p : PlanV) (b : List Int) (h2_0 : Int) : Int × Nat × Nat × Nat × List Int × Nat -> Heap := fun s => match s with | (v18, h2_1l, h2_1c, h3n, h3, x3) => ⟨4, [(0, some ⟨true, (PlanV.cs p), 0⟩), (1, some ⟨true, [.ints .u8 32 b], 0⟩), (2, some ⟨true, [.one (.int .u64 h2_0), .one (.slice ⟨3, 0, 0, 1⟩ h2_1l h2_1c)], 0⟩), (3, some ⟨true, [.ints .i64 h3n h3], x3⟩)]⟩
def kkz32_1 (w0 : World) (fp : Nat -> Nat -> Prop) (ρi : Rho) (Kf : SVal -> Heap -> Prop) (p : PlanV) (b : List Int) (h2_0 v18 : Int) (h2_1l h2_1c h3n : Nat) (h3 : List Int) (x3 : Nat) : Cont := loopK 0 (ivz32_1 p b h2_0) (muz32_1 p b h2_0) (liz32_1 p b h2_0) (ljz32_1 p b h2_0) (v18, h2_1l, h2_1c, h3n, h3, x3) (kkz32_0 w0 fp ρi Kf p b)
abbrev Yb5 (x0 : PlanV) (x1 : List Int) (x2 : Int) (x3 x4 : Nat) (x5 : List Int) (x6 : Nat) : Heap := ⟨6, [(0, some ⟨true, (PlanV.cs x0), 0⟩), (1, some ⟨true, [.ints .u8 32 x1], 0⟩), (2, some ⟨true, [.one (.int .u64 x2), .one (.slice ⟨5, 0, 0, 1⟩ x3 x4)], 0⟩), (5, some ⟨true, [.ints .i64 x3 x5], x6⟩)]⟩
abbrev Yb6 (x0 : PlanV) (x1 : Int) : Env := [(2, some (.ptr ⟨0, 0, 0, 1⟩ 46)), (3, some (.ptr ⟨1, 0, 0, 1⟩ 32)), (4, some (.ptr ⟨2, 0, 0, 1⟩ 2)), (17, some (.int .i64 x0.lines)), (18, some (.int .i64 x1))]
theorem rz32_1 (p : PlanV) (b : List Int) (v18 h2_0 : Int) (h2_1l'1 c : Nat) (h5 : List Int) (x5 h2_1l h2_1c h3n : Nat) (h3 : List Int) (x3 : Nat) (Z : Env -> Heap -> Prop) (h : Z [(2, some (.ptr ⟨0, 0, 0, 1⟩ 46)), (3, some (.ptr ⟨1, 0, 0, 1⟩ 32)), (4, some (.ptr ⟨2, 0, 0, 1⟩ 2)), (17, some (.int .i64 p.lines)), (18, some (.int .i64 (IntKind.i64.wrap (v18 + 1))))] (Yb5 p b h2_0 h2_1l'1 c h5 x5)) : EvC GcCount cz32_n12 (Yb6 p v18) (Yb5 p b h2_0 h2_1l'1 c h5 x5) [2, 3, 4, 17, 18] [0, 1, 2, 5] Z := EvC.of (by kernel_rfl) h
def vz32_1 (p : PlanV) (b : List Int) (v18 h2_0 : Int) (h2_1l'1 c : Nat) (h5 : List Int) (x5 h2_1l h2_1c h3n : Nat) (h3 : List Int) (x3 : Nat) : Prop := (0 <= (IntKind.i64.wrap (v18 + 1)) /\ (IntKind.i64.wrap (v18 + 1)) <= p.lines /\ h2_1l'1 = (IntKind.i64.wrap (v18 + 1)).toNat /\ h2_1l'1 = (IntKind.i64.wrap (v18 + 1)).toNat /\ h5 = p.minF b (IntKind.i64.wrap (v18 + 1)).toNat /\ h2_1l'1 + x5 = c) /\ (((p.lines - (IntKind.i64.wrap (v18 + 1))).toNat) < ((p.lines - v18).toNat))
theorem pz32_1 (p : PlanV) (b : List Int) (hK : ((!PlanV.right p) = true -> Kf (.tuple [.agg [.one (.int .u64 0), .one (.nilslice)], .int .i64 4]) Yb3) /\ ((!PlanV.right p) = false -> ∀ cap0 : Nat, (Int.toNat (PlanV.lines p)) <= cap0 -> Kf (.tuple [.agg [.one (.int .u64 (readB (List.take 8 b))), .one (.slice ⟨0, 0, 0, 1⟩ (Int.toNat (PlanV.lines p)) cap0)], .int .i64 0]) (Yb4 p b cap0))) (v18 h2_0 : Int) (h2_1l'1 c : Nat) (h5 : List Int) (x5 h2_1l h2_1c h3n : Nat) (h3 : List Int) (x3 : Nat) (h : vz32_1 p b v18 h2_0 h2_1l'1 c h5 x5 h2_1l h2_1c h3n h3 x3) : SemL Try.prog w0 fp ρi 0 42 [cz32_n12] (Yb6 p v18) (Yb5 p b h2_0 h2_1l'1 c h5 x5) (kkz32_1 w0 fp ρi Kf p b h2_0 v18 h2_1l h2_1c h3n h3 x3) :=
  L_regE hGcCount (rz32_1 p b v18 h2_0 h2_1l'1 c h5 x5 h2_1l h2_1c h3n h3 x3 _ (L_nil (loop_back (x' := ((IntKind.i64.wrap (v18 + 1)), h2_1l'1, c, h2_1l'1, h5, x5)) (τ := tau [(3, 5)]) h.1 h.2 (sub_tau' [(3, 5)] [0, 1, 2, 3] rfl rfl (esc bpt (esc bpt (esc bpt (esc pbd (esc pbd envSub_nil))))) (hsc pcs (hsc pcs (hsc (bdCs_one pbd (bdCs_one bsl bdCs_nil)) (hsc pcs heapSub_nil)))) (by kernel_rfl) rfl))))
def kkz32_2 (w0 : World) (fp : Nat -> Nat -> Prop) (ρi : Rho) (Kf : SVal -> Heap -> Prop) (p : PlanV) (b : List Int) (h2_0 v18 : Int) (h2_1l h2_1c h3n : Nat) (h3 : List Int) (x3 : Nat) : Cont := blockK 1 (fun e H => SemL Try.prog w0 fp ρi 0 42 [cz32_n12] e H (kkz32_1 w0 fp ρi Kf p b h2_0 v18 h2_1l h2_1c h3n h3 x3)) (kkz32_1 w0 fp ρi Kf p b h2_0 v18 h2_1l h2_1c h3n h3 x3)
abbrev Yb7 (x0 : Int) (x1 : PlanV) (x2 : Int) : Env := [(2, some (.ptr ⟨0, 0, 0, 1⟩ 46)), (3, some (.ptr ⟨1, 0, 0, 1⟩ 32)), (4, some (.ptr ⟨2, 0, 0, 1⟩ 2)), (7, some (.int .u64 x0)), (17, some (.int .i64 x1.lines)), (18, some (.int .i64 x2))]
abbrev Yb8 (x0 : PlanV) (x1 : List Int) (x2 : Int) (x3 x4 x5 : Nat) (x6 : List Int) (x7 : Nat) : Heap := ⟨4, [(0, some ⟨true, (PlanV.cs x0), 0⟩), (1, some ⟨true, [.ints .u8 32 x1], 0⟩), (2, some ⟨true, [.one (.int .u64 x2), .one (.slice ⟨3, 0, 0, 1⟩ x3 x4)], 0⟩), (3, some ⟨true, [.ints .i64 x5 x6], x7⟩)]⟩
theorem rz32_2 (p : PlanV) (b : List Int) (v7 v18 h2_0 : Int) (h2_1l h2_1c h3n : Nat) (h3 : List Int) (x3 : Nat) (Z : Env -> Heap -> Prop) (h : (((1 : Nat) <= 1)) /\ ((h3n = h2_1l)) /\ ((List.length h3 = h2_1l)) /\ (((h2_1l + x3) = h2_1c)) /\ (((h2_1l + 1) <= 17592186044416)) /\ ∀ (c : Nat), (h2_1l + 1) <= c -> Z (Yb6 p v18) ⟨6, [(0, some ⟨true, (PlanV.cs p), 0⟩), (1, some ⟨true, [.ints .u8 32 b], 0⟩), (2, some ⟨true, [.one (.int .u64 h2_0), .one (.slice ⟨5, 0, 0, 1⟩ (h2_1l + 1) c)], 0⟩), (5, some ⟨true, [.ints .i64 (h2_1l + 1) (h3 ++ (List.take 1 [(IntKind.i64.wrap v7)]))], (c - (h2_1l + 1))⟩)]⟩) : EvC GcCount cz32_n10 (Yb7 v7 p v18) (Yb8 p b h2_0 h2_1l h2_1c h3n h3 x3) [2, 3, 4, 17, 18] [0, 1, 2, 5] Z := EvC.of (by kernel_rfl) h
def vz32_2 (p : PlanV) (b : List Int) (v7 v18 h2_0 : Int) (h2_1l h2_1c h3n : Nat) (h3 : List Int) (x3 : Nat) : Prop := ((h3n = h2_1l)) /\ (((List.length h3 = h2_1l)) /\ ((((h2_1l + x3) = h2_1c)) /\ ((((h2_1l + 1) <= 17592186044416)) /\ (∀ (c : Nat), ((h2_1l + 1) <= c) -> (∀ h2_1l'1 : Nat, h2_1l'1 = (h2_1l + 1) -> ∀ h5 : List Int, h5 = (h3 ++ (List.take 1 [(IntKind.i64.wrap v7)])) -> ∀ x5 : Nat, x5 = (c - (h2_1l + 1)) -> vz32_1 p b v18 h2_0 h2_1l'1 c h5 x5 h2_1l h2_1c h3n h3 x3)))))
theorem pz32_2 (p : PlanV) (b : List Int) (hK : ((!PlanV.right p) = true -> Kf (.tuple [.agg [.one (.int .u64 0), .one (.nilslice)], .int .i64 4]) Yb3) /\ ((!PlanV.right p) = false -> ∀ cap0 : Nat, (Int.toNat (PlanV.lines p)) <= cap0 -> Kf (.tuple [.agg [.one (.int .u64 (readB (List.take 8 b))), .one (.slice ⟨0, 0, 0, 1⟩ (Int.toNat (PlanV.lines p)) cap0)], .int .i64 0]) (Yb4 p b cap0))) (v7 v18 h2_0 : Int) (h2_1l h2_1c h3n : Nat) (h3 : List Int) (x3 : Nat) (h : vz32_2 p b v7 v18 h2_0 h2_1l h2_1c h3n h3 x3) : SemL Try.prog w0 fp ρi 0 42 [cz32_n10] (Yb7 v7 p v18) (Yb8 p b h2_0 h2_1l h2_1c h3n h3 x3) (kkz32_2 w0 fp ρi Kf p b h2_0 v18 h2_1l h2_1c h3n h3 x3) :=
  L_regE hGcCount (rz32_2 p b v7 v18 h2_0 h2_1l h2_1c h3n h3 x3 _ ⟨(by decide), ⟨h.1, ⟨h.2.1, ⟨h.2.2.1, ⟨h.2.2.2.1, (fun c h_c_0 => (L_nil (pz32_1 p b hK v18 h2_0 (h2_1l + 1) c (h3 ++ (List.take 1 [(IntKind.i64.wrap v7)])) (c - (h2_1l + 1)) h2_1l h2_1c h3n h3 x3 ((((h.2.2.2.2 c h_c_0) (h2_1l + 1) rfl) (h3 ++ (List.take 1 [(IntKind.i64.wrap v7)])) rfl) (c - (h2_1l + 1)) rfl))))⟩⟩⟩⟩⟩)
abbrev Yb9 (x0 : Int) (x1 : PlanV) : Env := [(2, some (.ptr ⟨0, 0, 0, 1⟩ 46)), (3, some (.ptr ⟨1, 0, 0, 1⟩ 32)), (4, some (.ptr ⟨2, 0, 0, 1⟩ 2)), (6, some (.int .i64 x0)), (17, some (.int .i64 x1.lines)), (18, some (.int .i64 x0))]
theorem rz32_3 (p : PlanV) (b : List Int) (v18 h2_0 : Int) (h2_1l h2_1c h3n : Nat) (h3 : List Int) (x3 : Nat) (Z : Env -> Heap -> Prop) (h : ((SVal.bd 4 (.tuple [.int .u64 (gotL (List.take 32 b) (IntKind.i64.wrap (64 + (IntKind.i64.wrap (v18 * p.minor)))) p.minor), .int .i64 (gotE 32 (IntKind.i64.wrap (64 + (IntKind.i64.wrap (v18 * p.minor)))) p.minor)]))) /\ ((((32 : Nat) <= 32)) /\ (((32 : Nat) = 32) /\ (List.length (List.take 32 b) = 32 /\ 32 <= 32 /\ 32 <= 1000000 /\ Byt (List.take 32 b) /\ I64 (IntKind.i64.wrap (64 + (IntKind.i64.wrap (v18 * p.minor)))) /\ I64 p.minor)) /\ ((.tuple [.int .u64 (gotL (List.take 32 b) (IntKind.i64.wrap (64 + (IntKind.i64.wrap (v18 * p.minor)))) p.minor), .int .i64 (gotE 32 (IntKind.i64.wrap (64 + (IntKind.i64.wrap (v18 * p.minor)))) p.minor)] : SVal) = .tuple [.int .u64 (gotL (List.take 32 b) (IntKind.i64.wrap (64 + (IntKind.i64.wrap (v18 * p.minor)))) p.minor), .int .i64 (gotE 32 (IntKind.i64.wrap (64 + (IntKind.i64.wrap (v18 * p.minor)))) p.minor)]) /\ (keeps (Yb8 p b h2_0 h2_1l h2_1c h3n h3 x3) (Yb8 p b h2_0 h2_1l h2_1c h3n h3 x3) [(0, some ⟨true, (PlanV.cs p), 0⟩), (1, some ⟨true, [.ints .u8 32 b], 0⟩), (2, some ⟨true, [.one (.int .u64 h2_0), .one (.slice ⟨3, 0, 0, 1⟩ h2_1l h2_1c)], 0⟩), (3, some ⟨true, [.ints .i64 h3n h3], x3⟩)])) /\ Z [(2, some (.ptr ⟨0, 0, 0, 1⟩ 46)), (3, some (.ptr ⟨1, 0, 0, 1⟩ 32)), (4, some (.ptr ⟨2, 0, 0, 1⟩ 2)), (7, some (.int .u64 (gotL (List.take 32 b) (IntKind.i64.wrap (64 + (IntKind.i64.wrap (v18 * p.minor)))) p.minor))), (17, some (.int .i64 p.lines)), (18, some (.int .i64 v18))] (Yb8 p b h2_0 h2_1l h2_1c h3n h3 x3)) : EvQC GcCount cz32_n9i [.tuple [.int .u64 (gotL (List.take 32 b) (IntKind.i64.wrap (64 + (IntKind.i64.wrap (v18 * p.minor)))) p.minor), .int .i64 (gotE 32 (IntKind.i64.wrap (64 + (IntKind.i64.wrap (v18 * p.minor)))) p.minor)]] (Yb9 v18 p) (Yb8 p b h2_0 h2_1l h2_1c h3n h3 x3) [2, 3, 4, 7, 17, 18] [0, 1, 2, 3] Z := EvQC.of (by kernel_rfl) h
def vz32_3 (p : PlanV) (b : List Int) (v18 h2_0 : Int) (h2_1l h2_1c h3n : Nat) (h3 : List Int) (x3 : Nat) : Prop := ((List.length (List.take 32 b) = 32 /\ 32 <= 32 /\ 32 <= 1000000 /\ Byt (List.take 32 b) /\ I64 (IntKind.i64.wrap (64 + (IntKind.i64.wrap (v18 * p.minor)))) /\ I64 p.minor)) /\ (∀ v7 : Int, v7 = (gotL (List.take 32 b) (IntKind.i64.wrap (64 + (IntKind.i64.wrap (v18 * p.minor)))) p.minor) -> vz32_2 p b v7 v18 h2_0 h2_1l h2_1c h3n h3 x3)
theorem pz32_3 (p : PlanV) (b : List Int) (hK : ((!PlanV.right p) = true -> Kf (.tuple [.agg [.one (.int .u64 0), .one (.nilslice)], .int .i64 4]) Yb3) /\ ((!PlanV.right p) = false -> ∀ cap0 : Nat, (Int.toNat (PlanV.lines p)) <= cap0 -> Kf (.tuple [.agg [.one (.int .u64 (readB (List.take 8 b))), .one (.slice ⟨0, 0, 0, 1⟩ (Int.toNat (PlanV.lines p)) cap0)], .int .i64 0]) (Yb4 p b cap0))) (v18 h2_0 : Int) (h2_1l h2_1c h3n : Nat) (h3 : List Int) (x3 : Nat) (h : vz32_3 p b v18 h2_0 h2_1l h2_1c h3n h3 x3) : SemL Try.prog w0 fp ρi 0 42 [cz32_n9, cz32_n10] (Yb9 v18 p) (Yb8 p b h2_0 h2_1l h2_1c h3n h3 x3) (kkz32_2 w0 fp ρi Kf p b h2_0 v18 h2_1l h2_1c h3n h3 x3) :=
  L_regQE hGcCount (its := cz32_n9i) (rz32_3 p b v18 h2_0 h2_1l h2_1c h3n h3 x3 _ ⟨(plainR_ren (τ := whole) (by kernel_rfl)).2, ⟨⟨(by decide), ⟨⟨rfl, h.1⟩, ⟨rfl, (keeps_refl _)⟩⟩⟩, (pz32_2 p b hK (gotL (List.take 32 b) (IntKind.i64.wrap (64 + (IntKind.i64.wrap (v18 * p.minor)))) p.minor) v18 h2_0 h2_1l h2_1c h3n h3 x3 (h.2 (gotL (List.take 32 b) (IntKind.i64.wrap (64 + (IntKind.i64.wrap (v18 * p.minor)))) p.minor) rfl))⟩⟩)
theorem rz32_4 (p : PlanV) (b : List Int) (v18 h2_0 : Int) (h2_1l h2_1c h3n : Nat) (h3 : List Int) (x3 : Nat) (Z : Env -> Heap -> Prop) (h : Z (Yb9 v18 p) (Yb8 p b h2_0 h2_1l h2_1c h3n h3 x3)) : EvC GcCount cz32_n8 (Yb6 p v18) (Yb8 p b h2_0 h2_1l h2_1c h3n h3 x3) [2, 3, 4, 6, 17, 18] [0, 1, 2, 3] Z := EvC.of (by kernel_rfl) h
def vz32_4 (p : PlanV) (b : List Int) (v18 h2_0 : Int) (h2_1l h2_1c h3n : Nat) (h3 : List Int) (x3 : Nat) : Prop := vz32_3 p b v18 h2_0 h2_1l h2_1c h3n h3 x3
theorem pz32_4 (p : PlanV) (b : List Int) (hK : ((!PlanV.right p) = true -> Kf (.tuple [.agg [.one (.int .u64 0), .one (.nilslice)], .int .i64 4]) Yb3) /\ ((!PlanV.right p) = false -> ∀ cap0 : Nat, (Int.toNat (PlanV.lines p)) <= cap0 -> Kf (.tuple [.agg [.one (.int .u64 (readB (List.take 8 b))), .one (.slice ⟨0, 0, 0, 1⟩ (Int.toNat (PlanV.lines p)) cap0)], .int .i64 0]) (Yb4 p b cap0))) (v18 h2_0 : Int) (h2_1l h2_1c h3n : Nat) (h3 : List Int) (x3 : Nat) (h : vz32_4 p b v18 h2_0 h2_1l h2_1c h3n h3 x3) : SemL Try.prog w0 fp ρi 0 42 [cz32_n8, (.seq cz32_n9 cz32_n10)] (Yb6 p v18) (Yb8 p b h2_0 h2_1l h2_1c h3n h3 x3) (kkz32_2 w0 fp ρi Kf p b h2_0 v18 h2_1l h2_1c h3n h3 x3) :=
  L_regE hGcCount (rz32_4 p b v18 h2_0 h2_1l h2_1c h3n h3 x3 _ (L_seq (pz32_3 p b hK v18 h2_0 h2_1l h2_1c h3n h3 x3 h)))
def vz32_5 (p : PlanV) (b : List Int) (v18 h2_0 : Int) (h2_1l h2_1c h3n : Nat) (h3 : List Int) (x3 : Nat) : Prop := vz32_4 p b v18 h2_0 h2_1l h2_1c h3n h3 x3
theorem pz32_5 (p : PlanV) (b : List Int) (hK : ((!PlanV.right p) = true -> Kf (.tuple [.agg [.one (.int .u64 0), .one (.nilslice)], .int .i64 4]) Yb3) /\ ((!PlanV.right p) = false -> ∀ cap0 : Nat, (Int.toNat (PlanV.lines p)) <= cap0 -> Kf (.tuple [.agg [.one (.int .u64 (readB (List.take 8 b))), .one (.slice ⟨0, 0, 0, 1⟩ (Int.toNat (PlanV.lines p)) cap0)], .int .i64 0]) (Yb4 p b cap0))) (v18 h2_0 : Int) (h2_1l h2_1c h3n : Nat) (h3 : List Int) (x3 : Nat) (h : vz32_5 p b v18 h2_0 h2_1l h2_1c h3n h3 x3) : SemL Try.prog w0 fp ρi 0 42 [cz32_n11, cz32_n12] (Yb6 p v18) (Yb8 p b h2_0 h2_1l h2_1c h3n h3 x3) (kkz32_1 w0 fp ρi Kf p b h2_0 v18 h2_1l h2_1c h3n h3 x3) :=
  L_block (L_seq (pz32_4 p b hK v18 h2_0 h2_1l h2_1c h3n h3 x3 h))
abbrev Yb10 : Env := [(4, some (.ptr ⟨2, 0, 0, 1⟩ 2)), (5, some (.int .i64 0))]
abbrev Yb11 (x0 : Int) (x1 x2 x3 : Nat) (x4 : List Int) (x5 : Nat) : Heap := ⟨4, [(2, some ⟨true, [.one (.int .u64 x0), .one (.slice ⟨3, 0, 0, 1⟩ x1 x2)], 0⟩), (3, some ⟨true, [.ints .i64 x3 x4], x5⟩)]⟩
theorem rz32_6 (p : PlanV) (b : List Int) (h2_0 : Int) (h2_1l h2_1c h3n : Nat) (h3 : List Int) (x3 : Nat) (Z : Env -> Heap -> Prop) (h : Z Yb10 (Yb11 h2_0 h2_1l h2_1c h3n h3 x3)) : EvC GcCount cz32_n15 Yb2 (Yb11 h2_0 h2_1l h2_1c h3n h3 x3) [4, 5] [2, 3] Z := EvC.of (by kernel_rfl) h
theorem rtz32_1 (p : PlanV) (b : List Int) (h2_0 : Int) (h2_1l h2_1c h3n : Nat) (h3 : List Int) (x3 : Nat) : RetC RcCount Yb10 (Yb11 h2_0 h2_1l h2_1c h3n h3 x3) (.tuple [.agg [.one (.int .u64 h2_0), .one (.slice ⟨3, 0, 0, 1⟩ h2_1l h2_1c)], .int .i64 0]) := RetC.of (fun Z => by kernel_rfl)
def vz32_6 (p : PlanV) (b : List Int) (h2_0 : Int) (h2_1l h2_1c h3n : Nat) (h3 : List Int) (x3 : Nat) : Prop := ((!PlanV.right p) = false) /\ (h2_0 = (readB (List.take 8 b))) /\ (h2_1l = (Int.toNat (PlanV.lines p))) /\ (h3n = (Int.toNat (PlanV.lines p))) /\ (h3 = (PlanV.minL p b)) /\ (x3 = (h2_1c - (Int.toNat (PlanV.lines p)))) /\ (((Int.toNat (PlanV.lines p)) : Nat) <= h2_1c)
theorem pz32_6 (p : PlanV) (b : List Int) (hK : ((!PlanV.right p) = true -> Kf (.tuple [.agg [.one (.int .u64 0), .one (.nilslice)], .int .i64 4]) Yb3) /\ ((!PlanV.right p) = false -> ∀ cap0 : Nat, (Int.toNat (PlanV.lines p)) <= cap0 -> Kf (.tuple [.agg [.one (.int .u64 (readB (List.take 8 b))), .one (.slice ⟨0, 0, 0, 1⟩ (Int.toNat (PlanV.lines p)) cap0)], .int .i64 0]) (Yb4 p b cap0))) (h2_0 : Int) (h2_1l h2_1c h3n : Nat) (h3 : List Int) (x3 : Nat) (h : vz32_6 p b h2_0 h2_1l h2_1c h3n h3 x3) : SemL Try.prog w0 fp ρi 0 42 [cz32_n15, .ret] Yb2 (Yb11 h2_0 h2_1l h2_1c h3n h3 x3) (fnK RcCount 0 Kf) :=
  L_regE hGcCount (rz32_6 p b h2_0 h2_1l h2_1c h3n h3 x3 _ (L_retE (R := RcCount) (m := 0) (Kf := Kf) (fun _ _ h => h) (rtz32_1 p b h2_0 h2_1l h2_1c h3n h3 x3) (ret_of0 (Eq.mpr (cg5 (fun (z1 : Int) (z2 z3 : Nat) (z4 : List Int) (z5 : Nat) => Ret0 0 Kf (.tuple [.agg [.one (.int .u64 z1), .one (.slice ⟨3, 0, 0, 1⟩ z2 h2_1c)], .int .i64 0]) (Yb11 h2_0 h2_1l h2_1c z3 z4 z5)) h.2.1 h.2.2.1 h.2.2.2.1 h.2.2.2.2.1 h.2.2.2.2.2.1) (ret0_tau [(0, 3)] [0] rfl (by kernel_rfl) rfl (bd_tuple (bdL_cons (bd_agg (bdCs_one pbd (bdCs_one bsl bdCs_nil))) (bdL_cons pbd bdL_nil))) (hsc pcs heapSub_nil) rfl (by kernel_rfl) ((hK.2 h.1) h2_1c h.2.2.2.2.2.2))))))
def vz32_7 (p : PlanV) (b : List Int) (v18 h2_0 : Int) (h2_1l h2_1c h3n : Nat) (h3 : List Int) (x3 : Nat) : Prop := ((decide (v18 < p.lines)) = true -> (vz32_5 p b v18 h2_0 h2_1l h2_1c h3n h3 x3)) /\ ((decide (v18 < p.lines)) = false -> (vz32_6 p b h2_0 h2_1l h2_1c h3n h3 x3))
abbrev Yb12 (x0 : PlanV) (x1 : Int) : Env := [(2, some (.ptr ⟨0, 0, 0, 1⟩ 46)), (3, some (.ptr ⟨1, 0, 0, 1⟩ 32)), (4, some (.ptr ⟨2, 0, 0, 1⟩ 2)), (17, some (.int .i64 x0.lines)), (18, some (.int .i64 x1)), (19, some (.bool (decide (x1 < x0.lines))))]
theorem pz32_7 (p : PlanV) (b : List Int) (hK : ((!PlanV.right p) = true -> Kf (.tuple [.agg [.one (.int .u64 0), .one (.nilslice)], .int .i64 4]) Yb3) /\ ((!PlanV.right p) = false -> ∀ cap0 : Nat, (Int.toNat (PlanV.lines p)) <= cap0 -> Kf (.tuple [.agg [.one (.int .u64 (readB (List.take 8 b))), .one (.slice ⟨0, 0, 0, 1⟩ (Int.toNat (PlanV.lines p)) cap0)], .int .i64 0]) (Yb4 p b cap0))) (v18 h2_0 : Int) (h2_1l h2_1c h3n : Nat) (h3 : List Int) (x3 : Nat) (h : vz32_7 p b v18 h2_0 h2_1l h2_1c h3n h3 x3) : SemL Try.prog w0 fp ρi 0 42 [cz32_n7, (.seq cz32_n11 cz32_n12)] (Yb12 p v18) (Yb8 p b h2_0 h2_1l h2_1c h3n h3 x3) (kkz32_1 w0 fp ρi Kf p b h2_0 v18 h2_1l h2_1c h3n h3 x3) :=
  L_cond (q := (decide (v18 < p.lines))) (by kernel_rfl) (fun hq => (L_skip (lpk [2, 3, 4, 17, 18] [0, 1, 2, 3] (L_seq (pz32_5 p b hK v18 h2_0 h2_1l h2_1c h3n h3 x3 (h.1 hq)))))) (fun hq => (L_exit (lpk [4] [2, 3] (L_seq (pz32_6 p b hK h2_0 h2_1l h2_1c h3n h3 x3 (h.2 hq))))))
theorem rz32_8 (p : PlanV) (b : List Int) (v18 h2_0 : Int) (h2_1l h2_1c h3n : Nat) (h3 : List Int) (x3 : Nat) (Z : Env -> Heap -> Prop) (h : Z (Yb12 p v18) (Yb8 p b h2_0 h2_1l h2_1c h3n h3 x3)) : EvC GcCount cz32_n6 (Yb6 p v18) (Yb8 p b h2_0 h2_1l h2_1c h3n h3 x3) [2, 3, 4, 17, 18, 19] [0, 1, 2, 3] Z := EvC.of (by kernel_rfl) h
def vz32_8 (p : PlanV) (b : List Int) (v18 h2_0 : Int) (h2_1l h2_1c h3n : Nat) (h3 : List Int) (x3 : Nat) : Prop := vz32_7 p b v18 h2_0 h2_1l h2_1c h3n h3 x3
theorem pz32_8 (p : PlanV) (b : List Int) (hK : ((!PlanV.right p) = true -> Kf (.tuple [.agg [.one (.int .u64 0), .one (.nilslice)], .int .i64 4]) Yb3) /\ ((!PlanV.right p) = false -> ∀ cap0 : Nat, (Int.toNat (PlanV.lines p)) <= cap0 -> Kf (.tuple [.agg [.one (.int .u64 (readB (List.take 8 b))), .one (.slice ⟨0, 0, 0, 1⟩ (Int.toNat (PlanV.lines p)) cap0)], .int .i64 0]) (Yb4 p b cap0))) (v18 h2_0 : Int) (h2_1l h2_1c h3n : Nat) (h3 : List Int) (x3 : Nat) (h : vz32_8 p b v18 h2_0 h2_1l h2_1c h3n h3 x3) : SemL Try.prog w0 fp ρi 0 42 [cz32_n6, (.seq cz32_n7 (.seq cz32_n11 cz32_n12))] (Yb6 p v18) (Yb8 p b h2_0 h2_1l h2_1c h3n h3 x3) (kkz32_1 w0 fp ρi Kf p b h2_0 v18 h2_1l h2_1c h3n h3 x3) :=
  L_regE hGcCount (rz32_8 p b v18 h2_0 h2_1l h2_1c h3n h3 x3 _ (L_seq (pz32_7 p b hK v18 h2_0 h2_1l h2_1c h3n h3 x3 h)))
def vz32_9 (p : PlanV) (b : List Int) (h2_0 : Int) : Prop := (0 <= (0 : Int) /\ (0 : Int) <= p.lines /\ (0 : Nat) = (0 : Int).toNat /\ (0 : Nat) = (0 : Int).toNat /\ ([] : List Int) = p.minF b (0 : Int).toNat /\ (0 : Nat) + (0 : Nat) = (0 : Nat)) /\ (∀ (v18 : Int) (h2_1l h2_1c h3n : Nat) (h3 : List Int) (x3 : Nat), (0 <= v18 /\ v18 <= p.lines /\ h2_1l = v18.toNat /\ h3n = v18.toNat /\ h3 = p.minF b v18.toNat /\ h2_1l + x3 = h2_1c) -> (vz32_8 p b v18 h2_0 h2_1l h2_1c h3n h3 x3))
abbrev Yb13 (x0 : PlanV) : Env := [(2, some (.ptr ⟨0, 0, 0, 1⟩ 46)), (3, some (.ptr ⟨1, 0, 0, 1⟩ 32)), (4, some (.ptr ⟨2, 0, 0, 1⟩ 2)), (17, some (.int .i64 x0.lines)), (18, some (.int .i64 0))]
abbrev Yb14 (x0 : PlanV) (x1 : List Int) (x2 : Int) : Heap := ⟨3, [(0, some ⟨true, (PlanV.cs x0), 0⟩), (1, some ⟨true, [.ints .u8 32 x1], 0⟩), (2, some ⟨true, [.one (.int .u64 x2), .one (.nilslice)], 0⟩)]⟩
theorem pz32_9 (p : PlanV) (b : List Int) (hK : ((!PlanV.right p) = true -> Kf (.tuple [.agg [.one (.int .u64 0), .one (.nilslice)], .int .i64 4]) Yb3) /\ ((!PlanV.right p) = false -> ∀ cap0 : Nat, (Int.toNat (PlanV.lines p)) <= cap0 -> Kf (.tuple [.agg [.one (.int .u64 (readB (List.take 8 b))), .one (.slice ⟨0, 0, 0, 1⟩ (Int.toNat (PlanV.lines p)) cap0)], .int .i64 0]) (Yb4 p b cap0))) (h2_0 : Int) (h : vz32_9 p b h2_0) : SemL Try.prog w0 fp ρi 0 42 [cz32_n13] (Yb13 p) (Yb14 p b h2_0) (kkz32_0 w0 fp ρi Kf p b) :=
  L_denilH (id := 2) (en := ⟨true, [.one (.int .u64 h2_0), .one (.nilslice)], 0⟩) (cs' := [.one (.int .u64 h2_0), .one (.slice ⟨3, 0, 0, 1⟩ 0 0)]) (H' := ⟨4, [(3, some ⟨true, [.ints .i64 0 ([] : List Int)], 0⟩), (0, some ⟨true, (PlanV.cs p), 0⟩), (1, some ⟨true, [.ints .u8 32 b], 0⟩), (2, some ⟨true, [.one (.int .u64 h2_0), .one (.nilslice)], 0⟩)]⟩) [(some [.ints .i64 0 ([] : List Int)])] rfl rfl (by kernel_rfl) (L_loop (ivz32_1 p b h2_0) (muz32_1 p b h2_0) (liz32_1 p b h2_0) (ljz32_1 p b h2_0) ⟨(0, 0, 0, 0, ([] : List Int), 0), tau [], h.1, (sub_tau' [] [0, 1, 2, 3] rfl rfl (esc bpt (esc bpt (esc bpt (esc pbd (esc pbd envSub_nil))))) (hsc pcs (hsc pcs (hsc (bdCs_one pbd (bdCs_one bsl bdCs_nil)) (hsc pcs heapSub_nil)))) (by kernel_rfl) rfl)⟩ (fun s => match s with | (v18, h2_1l, h2_1c, h3n, h3, x3) => fun hi => (L_seq (pz32_8 p b hK v18 h2_0 h2_1l h2_1c h3n h3 x3 (h.2 v18 h2_1l h2_1c h3n h3 x3 hi)))))
def vz32_10 (p : PlanV) (b : List Int) (h2_0 : Int) : Prop := vz32_9 p b h2_0
theorem pz32_10 (p : PlanV) (b : List Int) (hK : ((!PlanV.right p) = true -> Kf (.tuple [.agg [.one (.int .u64 0), .one (.nilslice)], .int .i64 4]) Yb3) /\ ((!PlanV.right p) = false -> ∀ cap0 : Nat, (Int.toNat (PlanV.lines p)) <= cap0 -> Kf (.tuple [.agg [.one (.int .u64 (readB (List.take 8 b))), .one (.slice ⟨0, 0, 0, 1⟩ (Int.toNat (PlanV.lines p)) cap0)], .int .i64 0]) (Yb4 p b cap0))) (h2_0 : Int) (h : vz32_10 p b h2_0) : SemL Try.prog w0 fp ρi 0 42 [cz32_n14, (.seq cz32_n15 .ret)] (Yb13 p) (Yb14 p b h2_0) (fnK RcCount 0 Kf) :=
  L_block (pz32_9 p b hK h2_0 h)
abbrev Yb15 : Env := [(2, some (.ptr ⟨0, 0, 0, 1⟩ 46)), (3, some (.ptr ⟨1, 0, 0, 1⟩ 32)), (4, some (.ptr ⟨2, 0, 0, 1⟩ 2))]
theorem rz32_11 (p : PlanV) (b : List Int) (h2_0 : Int) (Z : Env -> Heap -> Prop) (h : Z (Yb13 p) (Yb14 p b h2_0)) : EvC GcCount cz32_n5 Yb15 (Yb14 p b h2_0) [2, 3, 4, 17, 18] [0, 1, 2] Z := EvC.of (by kernel_rfl) h
def vz32_11 (p : PlanV) (b : List Int) (h2_0 : Int) : Prop := vz32_10 p b h2_0
theorem pz32_11 (p : PlanV) (b : List Int) (hK : ((!PlanV.right p) = true -> Kf (.tuple [.agg [.one (.int .u64 0), .one (.nilslice)], .int .i64 4]) Yb3) /\ ((!PlanV.right p) = false -> ∀ cap0 : Nat, (Int.toNat (PlanV.lines p)) <= cap0 -> Kf (.tuple [.agg [.one (.int .u64 (readB (List.take 8 b))), .one (.slice ⟨0, 0, 0, 1⟩ (Int.toNat (PlanV.lines p)) cap0)], .int .i64 0]) (Yb4 p b cap0))) (h2_0 : Int) (h : vz32_11 p b h2_0) : SemL Try.prog w0 fp ρi 0 42 [cz32_n5, cz32_n14, (.seq cz32_n15 .ret)] Yb15 (Yb14 p b h2_0) (fnK RcCount 0 Kf) :=
  L_regE hGcCount (rz32_11 p b h2_0 _ (pz32_10 p b hK h2_0 h))
abbrev Yb16 (x0 : PlanV) (x1 : List Int) : Heap := ⟨3, [(0, some ⟨true, (PlanV.cs x0), 0⟩), (1, some ⟨true, [.ints .u8 32 x1], 0⟩), (2, some ⟨true, [.one (.int .u64 0), .one (.nilslice)], 0⟩)]⟩
theorem rz32_12 (p : PlanV) (b : List Int) (Z : Env -> Heap -> Prop) (h : (((32 : Nat) <= 32)) /\ (((32 : Nat) = 32)) /\ ((List.length (List.take 32 b) = 32 /\ 32 <= 32 /\ 32 <= 1000000000 /\ Byt (List.take 32 b))) /\ Z Yb15 ⟨3, [(0, some ⟨true, (PlanV.cs p), 0⟩), (1, some ⟨true, [.ints .u8 32 b], 0⟩), (2, some ⟨true, [.one (.int .u64 (readB (List.take 8 (List.take 32 b)))), .one (.nilslice)], 0⟩)]⟩) : EvC GcCount cz32_n4 Yb15 (Yb16 p b) [2, 3, 4] [0, 1, 2] Z := EvC.of (by kernel_rfl) h
def vz32_12 (p : PlanV) (b : List Int) : Prop := ((List.length (List.take 32 b) = 32 /\ 32 <= 32 /\ 32 <= 1000000000 /\ Byt (List.take 32 b))) /\ (∀ h2_0 : Int, h2_0 = (readB (List.take 8 (List.take 32 b))) -> vz32_11 p b h2_0)
theorem pz32_12 (p : PlanV) (b : List Int) (hK : ((!PlanV.right p) = true -> Kf (.tuple [.agg [.one (.int .u64 0), .one (.nilslice)], .int .i64 4]) Yb3) /\ ((!PlanV.right p) = false -> ∀ cap0 : Nat, (Int.toNat (PlanV.lines p)) <= cap0 -> Kf (.tuple [.agg [.one (.int .u64 (readB (List.take 8 b))), .one (.slice ⟨0, 0, 0, 1⟩ (Int.toNat (PlanV.lines p)) cap0)], .int .i64 0]) (Yb4 p b cap0))) (h : vz32_12 p b) : SemL Try.prog w0 fp ρi 0 42 [cz32_n4, (.seq (.seq cz32_n5 cz32_n14) (.seq cz32_n15 .ret))] Yb15 (Yb16 p b) (fnK RcCount 0 Kf) :=
  L_regE hGcCount (rz32_12 p b _ ⟨(by decide), ⟨rfl, ⟨h.1, (L_seq (L_seq (pz32_11 p b hK (readB (List.take 8 (List.take 32 b))) (h.2 (readB (List.take 8 (List.take 32 b))) rfl))))⟩⟩⟩)
def vz32_13 (p : PlanV) (b : List Int) : Prop := (((bif PlanV.right p then 0 else 4 : Int) != 0) = true -> (vz32_0 p b)) /\ (((bif PlanV.right p then 0 else 4 : Int) != 0) = false -> (vz32_12 p b))
abbrev Yb17 (x0 : PlanV) : Env := [(2, some (.ptr ⟨0, 0, 0, 1⟩ 46)), (3, some (.ptr ⟨1, 0, 0, 1⟩ 32)), (4, some (.ptr ⟨2, 0, 0, 1⟩ 2)), (11, some (.bool ((bif PlanV.right x0 then 0 else 4 : Int) != 0)))]
theorem pz32_13 (p : PlanV) (b : List Int) (hK : ((!PlanV.right p) = true -> Kf (.tuple [.agg [.one (.int .u64 0), .one (.nilslice)], .int .i64 4]) Yb3) /\ ((!PlanV.right p) = false -> ∀ cap0 : Nat, (Int.toNat (PlanV.lines p)) <= cap0 -> Kf (.tuple [.agg [.one (.int .u64 (readB (List.take 8 b))), .one (.slice ⟨0, 0, 0, 1⟩ (Int.toNat (PlanV.lines p)) cap0)], .int .i64 0]) (Yb4 p b cap0))) (h : vz32_13 p b) : SemL Try.prog w0 fp ρi 0 42 [cz32_n3, (.seq cz32_n4 (.seq (.seq cz32_n5 cz32_n14) (.seq cz32_n15 .ret)))] (Yb17 p) (Yb16 p b) (fnK RcCount 0 Kf) :=
  L_cond (q := ((bif PlanV.right p then 0 else 4 : Int) != 0)) (by kernel_rfl) (fun hq => (L_seq (lpk [4] [2] (pz32_0 p b hK (h.1 hq))))) (fun hq => (L_skip (lpk [2, 3, 4] [0, 1, 2] (L_seq (pz32_12 p b hK (h.2 hq))))))
theorem rz32_14 (p : PlanV) (b : List Int) (Z : Env -> Heap -> Prop) (h : (True) /\ Z (Yb17 p) (Yb16 p b)) : EvC GcCount cz32_n1 Yb15 (Yb16 p b) [2, 3, 4, 11] [0, 1, 2] Z := EvC.of (by kernel_rfl) h
def vz32_14 (p : PlanV) (b : List Int) : Prop := vz32_13 p b
theorem pz32_14 (p : PlanV) (b : List Int) (hK : ((!PlanV.right p) = true -> Kf (.tuple [.agg [.one (.int .u64 0), .one (.nilslice)], .int .i64 4]) Yb3) /\ ((!PlanV.right p) = false -> ∀ cap0 : Nat, (Int.toNat (PlanV.lines p)) <= cap0 -> Kf (.tuple [.agg [.one (.int .u64 (readB (List.take 8 b))), .one (.slice ⟨0, 0, 0, 1⟩ (Int.toNat (PlanV.lines p)) cap0)], .int .i64 0]) (Yb4 p b cap0))) (h : vz32_14 p b) : SemL Try.prog w0 fp ρi 0 42 [cz32_n1, cz32_n3, (.seq cz32_n4 (.seq (.seq cz32_n5 cz32_n14) (.seq cz32_n15 .ret)))] Yb15 (Yb16 p b) (fnK RcCount 0 Kf) :=
  L_regE hGcCount (rz32_14 p b _ ⟨True.intro, (pz32_13 p b hK h)⟩)
abbrev Yb18 (x0 : PlanV) (x1 : List Int) : Env := [(0, some (.agg (PlanV.cs x0))), (1, some (.agg [.ints .u8 32 x1]))]
theorem rz32_15 (p : PlanV) (b : List Int) (Z : Env -> Heap -> Prop) (h : Z Yb15 (Yb16 p b)) : EvC GcCount cz32_n0 (Yb18 p b) Yb3 [2, 3, 4] [0, 1, 2] Z := EvC.of (by kernel_rfl) h
def vz32_15 (p : PlanV) (b : List Int) : Prop := vz32_14 p b
theorem pz32_15 (p : PlanV) (b : List Int) (hK : ((!PlanV.right p) = true -> Kf (.tuple [.agg [.one (.int .u64 0), .one (.nilslice)], .int .i64 4]) Yb3) /\ ((!PlanV.right p) = false -> ∀ cap0 : Nat, (Int.toNat (PlanV.lines p)) <= cap0 -> Kf (.tuple [.agg [.one (.int .u64 (readB (List.take 8 b))), .one (.slice ⟨0, 0, 0, 1⟩ (Int.toNat (PlanV.lines p)) cap0)], .int .i64 0]) (Yb4 p b cap0))) (h : vz32_15 p b) : SemL Try.prog w0 fp ρi 0 42 [cz32_n0, (.seq (.seq cz32_n1 cz32_n3) (.seq cz32_n4 (.seq (.seq cz32_n5 cz32_n14) (.seq cz32_n15 .ret))))] (Yb18 p b) Yb3 (fnK RcCount 0 Kf) :=
  L_regE hGcCount (rz32_15 p b _ (L_seq (L_seq (pz32_14 p b hK h))))
def vccCount (p : PlanV) (b : List Int) : Prop := vz32_15 p b
theorem wcCount (p : PlanV) (b : List Int) (hK : ((!PlanV.right p) = true -> Kf (.tuple [.agg [.one (.int .u64 0), .one (.nilslice)], .int .i64 4]) Yb3) /\ ((!PlanV.right p) = false -> ∀ cap0 : Nat, (Int.toNat (PlanV.lines p)) <= cap0 -> Kf (.tuple [.agg [.one (.int .u64 (readB (List.take 8 b))), .one (.slice ⟨0, 0, 0, 1⟩ (Int.toNat (PlanV.lines p)) cap0)], .int .i64 0]) (Yb4 p b cap0))) (h : vccCount p b) : SemL Try.prog w0 fp ρi 0 42 [ccCount] (Yb18 p b) Yb3 (fnK RcCount 0 Kf) :=
  (L_seq (pz32_15 p b hK h))
end
theorem okcCount (p : PlanV) (b : List Int) (hpre : (LineOk b)) : vccCount p b := by
  unfold vccCount vz32_15 vz32_14 vz32_13 vz32_12 vz32_11 vz32_10 vz32_9 vz32_8 vz32_7 vz32_6 vz32_5 vz32_4 vz32_3 vz32_2 vz32_1 vz32_0
  have hb := hpre
  refine ⟨fun hr => ?_, fun hr => ?_⟩
  · have hr : p.right = false := by cases h : p.right <;> simp_all
    rw [hr]
    rfl
  · have hr : p.right = true := by cases h : p.right <;> simp_all
    have hf := PlanV.right_facts hr
    rw [takeAll' hb.1]
    refine ⟨⟨hb.1, by omega, by omega, hb.2⟩, ?_⟩
    rintro m rfl
    refine ⟨⟨by omega, by omega, rfl, rfl, rfl, rfl⟩, ?_⟩
    rintro v18 l c n h3 x3 ⟨i0, i1, rfl, rfl, rfl, i5⟩
    refine ⟨fun hlt => ?_, fun hge => ?_⟩
    · have hlt := of_decide_eq_true hlt
      obtain ⟨g1, g2, g3⟩ := PlanV.got_at hr hb.1 i0 hlt
      have g4 := PlanV.min_lt hr b (64 + v18.toNat * p.minor.toNat)
      have w1 : IntKind.i64.wrap (v18 + 1) = v18 + 1 := by rw [wi64]; omega
      rw [g1, g3, w1]
      refine ⟨⟨hb.1, by omega, by omega, hb.2, by unfold I64; omega, by unfold I64; omega⟩, ?_⟩
      rintro v7 rfl
      have w2 : IntKind.i64.wrap (getB b (64 + v18.toNat * p.minor.toNat) p.minor.toNat) = getB b (64 + v18.toNat * p.minor.toNat) p.minor.toNat := by rw [wi64]; omega
      rw [w2]
      refine ⟨rfl, PlanV.minF_length _ _ _, i5, by omega, fun c2 hc2 => ?_⟩
      rintro l2 rfl h5 rfl x5 rfl
      refine ⟨⟨by omega, by omega, by omega, by omega, ?_, by omega⟩, by omega⟩
      rw [show (v18 + 1).toNat = v18.toNat + 1 by omega, PlanV.minF_succ]
      rfl
    · have hge := of_decide_eq_false hge
      have e : v18 = p.lines := by omega
      subst e
      rw [hr]
      exact ⟨rfl, rfl, rfl, rfl, rfl, by omega, by omega⟩
theorem scCount : Sound Try.prog 32 (gS DcCount) := by
  refine fn_soundA ccCount_fits ?_
  intro args H K h
  obtain ⟨pre, out, hD, hpre, hK⟩ := gS_inv h
  unfold DcCount at hD
  split at hD
  · obtain ⟨hb, hD⟩ := bif_some hD
    simp only [Bool.and_eq_true] at hb
    obtain ⟨⟨h0, h1⟩, h2⟩ := hb
    obtain rfl := Nat.eq_of_beq_eq_true h0
    obtain rfl := Nat.eq_of_beq_eq_true h1
    obtain rfl := Nat.eq_of_beq_eq_true h2
    cases hD
    exact ⟨rfl, fun w0 fp ρi => wcCount (PlanV.mk _ _ _ _ _ _ _ _ _ _ _ _ _ _ _ _) _ hK (okcCount (PlanV.mk _ _ _ _ _ _ _ _ _ _ _ _ _ _ _ _) _ hpre)⟩
  · cases hD
def Dq7Count : GSpec := fun args H => match args, H with
  | [.agg [.one (.int .i64 p_0), .one (.int .i64 p_1), .one (.int .i64 p_2), .one (.int .i64 p_3), .one (.int .i64 p_4), .one (.int .i64 p_5), .one (.int .u64 p_6), .one (.int .i64 p_7), .one (.int .i64 p_8), .one (.int .i64 p_9), .one (.int .i64 p_10), .one (.int .i64 p_11), .one (.int .i64 p_12), .one (.int .i64 p_13), .ints .u8 p_14_n p_14, .ints .u8 p_15_n p_15], .agg [.ints .u8 b_n b]], ⟨0, []⟩ => bif Nat.beq p_14_n 16 && Nat.beq p_15_n 16 && Nat.beq b_n 32 then some ((PlanV.right (PlanV.mk p_0 p_1 p_2 p_3 p_4 p_5 p_6 p_7 p_8 p_9 p_10 p_11 p_12 p_13 p_14 p_15) = true /\ LineOk b), fun K => ∀ cap0 : Nat, (Int.toNat (PlanV.lines (PlanV.mk p_0 p_1 p_2 p_3 p_4 p_5 p_6 p_7 p_8 p_9 p_10 p_11 p_12 p_13 p_14 p_15))) <= cap0 -> K (.agg [.one (.int .u64 (readB (List.take 8 b))), .one (.slice ⟨0, 0, 0, 1⟩ (Int.toNat (PlanV.lines (PlanV.mk p_0 p_1 p_2 p_3 p_4 p_5 p_6 p_7 p_8 p_9 p_10 p_11 p_12 p_13 p_14 p_15))) cap0)]) ⟨1, [(0, some ⟨true, [.ints .i64 (Int.toNat (PlanV.lines (PlanV.mk p_0 p_1 p_2 p_3 p_4 p_5 p_6 p_7 p_8 p_9 p_10 p_11 p_12 p_13 p_14 p_15))) (PlanV.minL (PlanV.mk p_0 p_1 p_2 p_3 p_4 p_5 p_6 p_7 p_8 p_9 p_10 p_11 p_12 p_13 p_14 p_15) b)], (cap0 - (Int.toNat (PlanV.lines (PlanV.mk p_0 p_1 p_2 p_3 p_4 p_5 p_6 p_7 p_8 p_9 p_10 p_11 p_12 p_13 p_14 p_15))))⟩)]⟩) else none
  | _, _ => none
def conq7Count : Con := ⟨33, gS Dq7Count, [], [], []⟩
def cz33_n0 : ACode := .reg (.op (some 2) (.box (.tm 0)) (.op (some 3) (.box (.tm 1)) (.op (some 4) (.alloc [.one (.int .u64 0), .one (.nilslice)]) .nil)))
def cz33_n1 : ACode := .reg (.op (some 9) (.sliceP 32 (.tm 3) none none none) (.op (some 10) (.call 57 [(.tm 9)]) (.op (some 11) (.build [.one (.int .u64 0), .one (.nilslice)] [(0, 1, (.tm 10))]) (.op (some 5) (.alloc [.one (.int .u64 0), .one (.nilslice)]) (.op none (.storeA 2 (.tm 5) (.tm 11)) .nil)))))
def cz33_n2 : ACode := .reg (.op (some 6) (.mov (.cn (.int .i64 0))) .nil)
def cz33_n3 : ACode := .reg (.op (some 12) (.mov (.tm 6)) (.op (some 13) (.fieldAddr (.tm 2) 3 1) (.op (some 14) (.load1 (.tm 13)) (.op (some 15) (.bin .lss (.tm 12) (.tm 14)) .nil))))
def cz33_n4 : ACode := .cond (.tm 15) .skip (.exit 0)
def cz33_n5i : Items := .op (some 19) (.sliceP 32 (.tm 3) none none none) (.op (some 20) (.mov (.tm 6)) (.op (some 21) (.fieldAddr (.tm 2) 5 1) (.op (some 22) (.load1 (.tm 21)) (.op (some 23) (.bin .mul (.tm 20) (.tm 22)) (.op (some 24) (.bin .add (.cn (.int .i64 64)) (.tm 23)) (.op (some 25) (.fieldAddr (.tm 2) 5 1) (.op (some 26) (.load1 (.tm 25)) (.op (some 27) (.call 58 [(.tm 19), (.tm 24), (.tm 26)]) (.op (some 18) (.mov (.tm 27)) (.op (some 28) (.extract (.tm 18) 0) (.op (some 29) (.extract (.tm 18) 1) (.op (some 7) (.mov (.tm 28)) (.op (some 8) (.mov (.tm 29)) .nil)))))))))))))
def cz33_n5 : ACode := .regQ cz33_n5i
def cz33_n6 : ACode := .reg (.op (some 30) (.fieldAddr (.tm 5) 1 1) (.op (some 31) (.load1 (.tm 30)) (.op (some 32) (.mov (.tm 7)) (.op (some 33) (.conv .i64 (.tm 32)) (.op (some 34) (.bslice .i64 1 [(0, (.tm 33))]) (.op (some 35) (.append .i64 (.tm 31) (.tm 34)) (.op (some 36) (.fieldAddr (.tm 5) 1 1) (.op none (.store1 (.tm 36) (.tm 35)) .nil))))))))
def cz33_n7 : ACode := .block 1 (.seq cz33_n5 cz33_n6)
def cz33_n8 : ACode := .reg (.op (some 16) (.mov (.tm 6)) (.op (some 17) (.bin .add (.tm 16) (.cn (.int .i64 1))) (.op (some 6) (.mov (.tm 17)) .nil)))
def cz33_n9 : ACode := .loop (.seq (.seq cz33_n3 cz33_n4) (.seq cz33_n7 cz33_n8))
def cz33_n10 : ACode := .block 0 cz33_n9
def cz33_n11 : ACode := .reg (.op (some 37) (.loadA 2 (.tm 5)) (.op none (.storeA 2 (.tm 4) (.tm 37)) .nil))
def cq7Count : ACode := (.seq cz33_n0 (.seq cz33_n1 (.seq (.seq cz33_n2 cz33_n10) (.seq cz33_n11 .ret))))
def Rq7Count : Res := .one (.cA 4 2)
theorem cq7Count_fits : fnFits Try.prog 33 2 38 cq7Count Rq7Count = true := by kernel_rfl
def Gq7Count : Calls' := withP [] [conqRead, conqGet]
theorem hGq7Count : CallOk Try.prog Gq7Count := withP_ok trivial ⟨sqRead.dC, sqGet, trivial⟩
section
variable {w0 : World} {fp : Nat -> Nat -> Prop} {ρi : Rho} {Kf : SVal -> Heap -> Prop}
def kkz33_0 (w0 : World) (fp : Nat -> Nat -> Prop) (ρi : Rho) (Kf : SVal -> Heap -> Prop) (p : PlanV) (b : List Int) : Cont := blockK 0 (fun e H => SemL Try.prog w0 fp ρi 0 38 [(.seq cz33_n11 .ret)] e H (fnK Rq7Count 0 Kf)) (fnK Rq7Count 0 Kf)
def ivz33_1 (p : PlanV) (b : List Int) (h3_0 : Int) : Int × Nat × Nat × Nat × List Int × Nat -> Prop := fun s => match s with | (v6, h3_1l, h3_1c, h4n, h4, x4) => 0 <= v6 /\ v6 <= p.lines /\ h3_1l = v6.toNat /\ h4n = v6.toNat /\ h4 = p.minF b v6.toNat /\ h3_1l + x4 = h3_1c
def muz33_1 (p : PlanV) (b : List Int) (h3_0 : Int) : Int × Nat × Nat × Nat × List Int × Nat -> Nat := fun s => match s with | (v6, h3_1l, h3_1c, h4n, h4, x4) => ((p.lines - v6).toNat)
def liz33_1 (p : PlanV) (b : List Int) (h3_0 : Int) : Int × Nat × Nat × Nat × List Int × Nat -> Env := fun s => match s with | (v6, h3_1l, h3_1c, h4n, h4, x4) => [(2, some (.ptr ⟨0, 0, 0, 1⟩ 46)), (3, some (.ptr ⟨1, 0, 0, 1⟩ 32)), (4, some (.ptr ⟨2, 0, 0, 1⟩ 2)), (5, some (.ptr ⟨3, 0, 0, 1⟩ 2)), (6, some (.int .i64 v6))]
def ljz33_1 (p : PlanV) (b : List Int) (h3_0 : Int) : Int × Nat × Nat × Nat × List Int × Nat -> Heap := fun s => match s with | (v6, h3_1l, h3_1c, h4n, h4, x4) => ⟨5, [(0, some ⟨true, (PlanV.cs p), 0⟩), (1, some ⟨true, [.ints .u8 32 b], 0⟩), (2, some ⟨true, [.one (.int .u64 0), .one (.nilslice)], 0⟩), (3, some ⟨true, [.one (.int .u64 h3_0), .one (.slice ⟨4, 0, 0, 1⟩ h3_1l h3_1c)], 0⟩), (4, some ⟨true, [.ints .i64 h4n h4], x4⟩)]⟩
def kkz33_1 (w0 : World) (fp : Nat -> Nat -> Prop) (ρi : Rho) (Kf : SVal -> Heap -> Prop) (p : PlanV) (b : List Int) (h3_0 v6 : Int) (h3_1l h3_1c h4n : Nat) (h4 : List Int) (x4 : Nat) : Cont := loopK 0 (ivz33_1 p b h3_0) (muz33_1 p b h3_0) (liz33_1 p b h3_0) (ljz33_1 p b h3_0) (v6, h3_1l, h3_1c, h4n, h4, x4) (kkz33_0 w0 fp ρi Kf p b)
abbrev Yb19 (x0 : PlanV) (x1 : List Int) (x2 : Int) (x3 x4 : Nat) (x5 : List Int) (x6 : Nat) : Heap := ⟨7, [(0, some ⟨true, (PlanV.cs x0), 0⟩), (1, some ⟨true, [.ints .u8 32 x1], 0⟩), (2, some ⟨true, [.one (.int .u64 0), .one (.nilslice)], 0⟩), (3, some ⟨true, [.one (.int .u64 x2), .one (.slice ⟨6, 0, 0, 1⟩ x3 x4)], 0⟩), (6, some ⟨true, [.ints .i64 x3 x5], x6⟩)]⟩
abbrev Yb20 (x0 : Int) : Env := [(2, some (.ptr ⟨0, 0, 0, 1⟩ 46)), (3, some (.ptr ⟨1, 0, 0, 1⟩ 32)), (4, some (.ptr ⟨2, 0, 0, 1⟩ 2)), (5, some (.ptr ⟨3, 0, 0, 1⟩ 2)), (6, some (.int .i64 x0))]
theorem rz33_0 (p : PlanV) (b : List Int) (v6 h3_0 : Int) (h3_1l'1 c : Nat) (h6 : List Int) (x6 h3_1l h3_1c h4n : Nat) (h4 : List Int) (x4 : Nat) (Z : Env -> Heap -> Prop) (h : Z [(2, some (.ptr ⟨0, 0, 0, 1⟩ 46)), (3, some (.ptr ⟨1, 0, 0, 1⟩ 32)), (4, some (.ptr ⟨2, 0, 0, 1⟩ 2)), (5, some (.ptr ⟨3, 0, 0, 1⟩ 2)), (6, some (.int .i64 (IntKind.i64.wrap (v6 + 1))))] (Yb19 p b h3_0 h3_1l'1 c h6 x6)) : EvC Gq7Count cz33_n8 (Yb20 v6) (Yb19 p b h3_0 h3_1l'1 c h6 x6) [2, 3, 4, 5, 6] [0, 1, 2, 3, 6] Z := EvC.of (by kernel_rfl) h
def vz33_0 (p : PlanV) (b : List Int) (v6 h3_0 : Int) (h3_1l'1 c : Nat) (h6 : List Int) (x6 h3_1l h3_1c h4n : Nat) (h4 : List Int) (x4 : Nat) : Prop := (0 <= (IntKind.i64.wrap (v6 + 1)) /\ (IntKind.i64.wrap (v6 + 1)) <= p.lines /\ h3_1l'1 = (IntKind.i64.wrap (v6 + 1)).toNat /\ h3_1l'1 = (IntKind.i64.wrap (v6 + 1)).toNat /\ h6 = p.minF b (IntKind.i64.wrap (v6 + 1)).toNat /\ h3_1l'1 + x6 = c) /\ (((p.lines - (IntKind.i64.wrap (v6 + 1))).toNat) < ((p.lines - v6).toNat))
theorem pz33_0 (p : PlanV) (b : List Int) (hK : ∀ cap0 : Nat, (Int.toNat (PlanV.lines p)) <= cap0 -> Kf (.agg [.one (.int .u64 (readB (List.take 8 b))), .one (.slice ⟨0, 0, 0, 1⟩ (Int.toNat (PlanV.lines p)) cap0)]) (Yb4 p b cap0)) (v6 h3_0 : Int) (h3_1l'1 c : Nat) (h6 : List Int) (x6 h3_1l h3_1c h4n : Nat) (h4 : List Int) (x4 : Nat) (h : vz33_0 p b v6 h3_0 h3_1l'1 c h6 x6 h3_1l h3_1c h4n h4 x4) : SemL Try.prog w0 fp ρi 0 38 [cz33_n8] (Yb20 v6) (Yb19 p b h3_0 h3_1l'1 c h6 x6) (kkz33_1 w0 fp ρi Kf p b h3_0 v6 h3_1l h3_1c h4n h4 x4) :=
  L_regE hGq7Count (rz33_0 p b v6 h3_0 h3_1l'1 c h6 x6 h3_1l h3_1c h4n h4 x4 _ (L_nil (loop_back (x' := ((IntKind.i64.wrap (v6 + 1)), h3_1l'1, c, h3_1l'1, h6, x6)) (τ := tau [(4, 6)]) h.1 h.2 (sub_tau' [(4, 6)] [0, 1, 2, 3, 4] rfl rfl (esc bpt (esc bpt (esc bpt (esc bpt (esc pbd envSub_nil))))) (hsc pcs (hsc pcs (hsc pcs (hsc (bdCs_one pbd (bdCs_one bsl bdCs_nil)) (hsc pcs heapSub_nil))))) (by kernel_rfl) rfl))))
def kkz33_2 (w0 : World) (fp : Nat -> Nat -> Prop) (ρi : Rho) (Kf : SVal -> Heap -> Prop) (p : PlanV) (b : List Int) (h3_0 v6 : Int) (h3_1l h3_1c h4n : Nat) (h4 : List Int) (x4 : Nat) : Cont := blockK 1 (fun e H => SemL Try.prog w0 fp ρi 0 38 [cz33_n8] e H (kkz33_1 w0 fp ρi Kf p b h3_0 v6 h3_1l h3_1c h4n h4 x4)) (kkz33_1 w0 fp ρi Kf p b h3_0 v6 h3_1l h3_1c h4n h4 x4)
abbrev Yb21 (x0 x1 : Int) : Env := [(2, some (.ptr ⟨0, 0, 0, 1⟩ 46)), (3, some (.ptr ⟨1, 0, 0, 1⟩ 32)), (4, some (.ptr ⟨2, 0, 0, 1⟩ 2)), (5, some (.ptr ⟨3, 0, 0, 1⟩ 2)), (6, some (.int .i64 x0)), (7, some (.int .u64 x1))]
abbrev Yb22 (x0 : PlanV) (x1 : List Int) (x2 : Int) (x3 x4 x5 : Nat) (x6 : List Int) (x7 : Nat) : Heap := ⟨5, [(0, some ⟨true, (PlanV.cs x0), 0⟩), (1, some ⟨true, [.ints .u8 32 x1], 0⟩), (2, some ⟨true, [.one (.int .u64 0), .one (.nilslice)], 0⟩), (3, some ⟨true, [.one (.int .u64 x2), .one (.slice ⟨4, 0, 0, 1⟩ x3 x4)], 0⟩), (4, some ⟨true, [.ints .i64 x5 x6], x7⟩)]⟩
theorem rz33_1 (p : PlanV) (b : List Int) (v6 v7 h3_0 : Int) (h3_1l h3_1c h4n : Nat) (h4 : List Int) (x4 : Nat) (Z : Env -> Heap -> Prop) (h : (((1 : Nat) <= 1)) /\ ((h4n = h3_1l)) /\ ((List.length h4 = h3_1l)) /\ (((h3_1l + x4) = h3_1c)) /\ (((h3_1l + 1) <= 17592186044416)) /\ ∀ (c : Nat), (h3_1l + 1) <= c -> Z (Yb20 v6) ⟨7, [(0, some ⟨true, (PlanV.cs p), 0⟩), (1, some ⟨true, [.ints .u8 32 b], 0⟩), (2, some ⟨true, [.one (.int .u64 0), .one (.nilslice)], 0⟩), (3, some ⟨true, [.one (.int .u64 h3_0), .one (.slice ⟨6, 0, 0, 1⟩ (h3_1l + 1) c)], 0⟩), (6, some ⟨true, [.ints .i64 (h3_1l + 1) (h4 ++ (List.take 1 [(IntKind.i64.wrap v7)]))], (c - (h3_1l + 1))⟩)]⟩) : EvC Gq7Count cz33_n6 (Yb21 v6 v7) (Yb22 p b h3_0 h3_1l h3_1c h4n h4 x4) [2, 3, 4, 5, 6] [0, 1, 2, 3, 6] Z := EvC.of (by kernel_rfl) h
def vz33_1 (p : PlanV) (b : List Int) (v6 v7 h3_0 : Int) (h3_1l h3_1c h4n : Nat) (h4 : List Int) (x4 : Nat) : Prop := ((h4n = h3_1l)) /\ (((List.length h4 = h3_1l)) /\ ((((h3_1l + x4) = h3_1c)) /\ ((((h3_1l + 1) <= 17592186044416)) /\ (∀ (c : Nat), ((h3_1l + 1) <= c) -> (∀ h3_1l'1 : Nat, h3_1l'1 = (h3_1l + 1) -> ∀ h6 : List Int, h6 = (h4 ++ (List.take 1 [(IntKind.i64.wrap v7)])) -> ∀ x6 : Nat, x6 = (c - (h3_1l + 1)) -> vz33_0 p b v6 h3_0 h3_1l'1 c h6 x6 h3_1l h3_1c h4n h4 x4)))))
theorem pz33_1 (p : PlanV) (b : List Int) (hK : ∀ cap0 : Nat, (Int.toNat (PlanV.lines p)) <= cap0 -> Kf (.agg [.one (.int .u64 (readB (List.take 8 b))), .one (.slice ⟨0, 0, 0, 1⟩ (Int.toNat (PlanV.lines p)) cap0)]) (Yb4 p b cap0)) (v6 v7 h3_0 : Int) (h3_1l h3_1c h4n : Nat) (h4 : List Int) (x4 : Nat) (h : vz33_1 p b v6 v7 h3_0 h3_1l h3_1c h4n h4 x4) : SemL Try.prog w0 fp ρi 0 38 [cz33_n6] (Yb21 v6 v7) (Yb22 p b h3_0 h3_1l h3_1c h4n h4 x4) (kkz33_2 w0 fp ρi Kf p b h3_0 v6 h3_1l h3_1c h4n h4 x4) :=
  L_regE hGq7Count (rz33_1 p b v6 v7 h3_0 h3_1l h3_1c h4n h4 x4 _ ⟨(by decide), ⟨h.1, ⟨h.2.1, ⟨h.2.2.1, ⟨h.2.2.2.1, (fun c h_c_0 => (L_nil (pz33_0 p b hK v6 h3_0 (h3_1l + 1) c (h4 ++ (List.take 1 [(IntKind.i64.wrap v7)])) (c - (h3_1l + 1)) h3_1l h3_1c h4n h4 x4 ((((h.2.2.2.2 c h_c_0) (h3_1l + 1) rfl) (h4 ++ (List.take 1 [(IntKind.i64.wrap v7)])) rfl) (c - (h3_1l + 1)) rfl))))⟩⟩⟩⟩⟩)
theorem rz33_2 (p : PlanV) (b : List Int) (v6 h3_0 : Int) (h3_1l h3_1c h4n : Nat) (h4 : List Int) (x4 : Nat) (Z : Env -> Heap -> Prop) (h : ((SVal.bd 5 (.tuple [.int .u64 (gotL (List.take 32 b) (IntKind.i64.wrap (64 + (IntKind.i64.wrap (v6 * p.minor)))) p.minor), .int .i64 (gotE 32 (IntKind.i64.wrap (64 + (IntKind.i64.wrap (v6 * p.minor)))) p.minor)]))) /\ ((((32 : Nat) <= 32)) /\ (((32 : Nat) = 32) /\ (List.length (List.take 32 b) = 32 /\ 32 <= 32 /\ 32 <= 1000000 /\ Byt (List.take 32 b) /\ I64 (IntKind.i64.wrap (64 + (IntKind.i64.wrap (v6 * p.minor)))) /\ I64 p.minor)) /\ ((.tuple [.int .u64 (gotL (List.take 32 b) (IntKind.i64.wrap (64 + (IntKind.i64.wrap (v6 * p.minor)))) p.minor), .int .i64 (gotE 32 (IntKind.i64.wrap (64 + (IntKind.i64.wrap (v6 * p.minor)))) p.minor)] : SVal) = .tuple [.int .u64 (gotL (List.take 32 b) (IntKind.i64.wrap (64 + (IntKind.i64.wrap (v6 * p.minor)))) p.minor), .int .i64 (gotE 32 (IntKind.i64.wrap (64 + (IntKind.i64.wrap (v6 * p.minor)))) p.minor)]) /\ (keeps (Yb22 p b h3_0 h3_1l h3_1c h4n h4 x4) (Yb22 p b h3_0 h3_1l h3_1c h4n h4 x4) [(0, some ⟨true, (PlanV.cs p), 0⟩), (1, some ⟨true, [.ints .u8 32 b], 0⟩), (2, some ⟨true, [.one (.int .u64 0), .one (.nilslice)], 0⟩), (3, some ⟨true, [.one (.int .u64 h3_0), .one (.slice ⟨4, 0, 0, 1⟩ h3_1l h3_1c)], 0⟩), (4, some ⟨true, [.ints .i64 h4n h4], x4⟩)])) /\ Z [(2, some (.ptr ⟨0, 0, 0, 1⟩ 46)), (3, some (.ptr ⟨1, 0, 0, 1⟩ 32)), (4, some (.ptr ⟨2, 0, 0, 1⟩ 2)), (5, some (.ptr ⟨3, 0, 0, 1⟩ 2)), (6, some (.int .i64 v6)), (7, some (.int .u64 (gotL (List.take 32 b) (IntKind.i64.wrap (64 + (IntKind.i64.wrap (v6 * p.minor)))) p.minor)))] (Yb22 p b h3_0 h3_1l h3_1c h4n h4 x4)) : EvQC Gq7Count cz33_n5i [.tuple [.int .u64 (gotL (List.take 32 b) (IntKind.i64.wrap (64 + (IntKind.i64.wrap (v6 * p.minor)))) p.minor), .int .i64 (gotE 32 (IntKind.i64.wrap (64 + (IntKind.i64.wrap (v6 * p.minor)))) p.minor)]] (Yb20 v6) (Yb22 p b h3_0 h3_1l h3_1c h4n h4 x4) [2, 3, 4, 5, 6, 7] [0, 1, 2, 3, 4] Z := EvQC.of (by kernel_rfl) h
def vz33_2 (p : PlanV) (b : List Int) (v6 h3_0 : Int) (h3_1l h3_1c h4n : Nat) (h4 : List Int) (x4 : Nat) : Prop := ((List.length (List.take 32 b) = 32 /\ 32 <= 32 /\ 32 <= 1000000 /\ Byt (List.take 32 b) /\ I64 (IntKind.i64.wrap (64 + (IntKind.i64.wrap (v6 * p.minor)))) /\ I64 p.minor)) /\ (∀ v7 : Int, v7 = (gotL (List.take 32 b) (IntKind.i64.wrap (64 + (IntKind.i64.wrap (v6 * p.minor)))) p.minor) -> vz33_1 p b v6 v7 h3_0 h3_1l h3_1c h4n h4 x4)
theorem pz33_2 (p : PlanV) (b : List Int) (hK : ∀ cap0 : Nat, (Int.toNat (PlanV.lines p)) <= cap0 -> Kf (.agg [.one (.int .u64 (readB (List.take 8 b))), .one (.slice ⟨0, 0, 0, 1⟩ (Int.toNat (PlanV.lines p)) cap0)]) (Yb4 p b cap0)) (v6 h3_0 : Int) (h3_1l h3_1c h4n : Nat) (h4 : List Int) (x4 : Nat) (h : vz33_2 p b v6 h3_0 h3_1l h3_1c h4n h4 x4) : SemL Try.prog w0 fp ρi 0 38 [cz33_n5, cz33_n6] (Yb20 v6) (Yb22 p b h3_0 h3_1l h3_1c h4n h4 x4) (kkz33_2 w0 fp ρi Kf p b h3_0 v6 h3_1l h3_1c h4n h4 x4) :=
  L_regQE hGq7Count (its := cz33_n5i) (rz33_2 p b v6 h3_0 h3_1l h3_1c h4n h4 x4 _ ⟨(plainR_ren (τ := whole) (by kernel_rfl)).2, ⟨⟨(by decide), ⟨⟨rfl, h.1⟩, ⟨rfl, (keeps_refl _)⟩⟩⟩, (pz33_1 p b hK v6 (gotL (List.take 32 b) (IntKind.i64.wrap (64 + (IntKind.i64.wrap (v6 * p.minor)))) p.minor) h3_0 h3_1l h3_1c h4n h4 x4 (h.2 (gotL (List.take 32 b) (IntKind.i64.wrap (64 + (IntKind.i64.wrap (v6 * p.minor)))) p.minor) rfl))⟩⟩)
def vz33_3 (p : PlanV) (b : List Int) (v6 h3_0 : Int) (h3_1l h3_1c h4n : Nat) (h4 : List Int) (x4 : Nat) : Prop := vz33_2 p b v6 h3_0 h3_1l h3_1c h4n h4 x4
theorem pz33_3 (p : PlanV) (b : List Int) (hK : ∀ cap0 : Nat, (Int.toNat (PlanV.lines p)) <= cap0 -> Kf (.agg [.one (.int .u64 (readB (List.take 8 b))), .one (.slice ⟨0, 0, 0, 1⟩ (Int.toNat (PlanV.lines p)) cap0)]) (Yb4 p b cap0)) (v6 h3_0 : Int) (h3_1l h3_1c h4n : Nat) (h4 : List Int) (x4 : Nat) (h : vz33_3 p b v6 h3_0 h3_1l h3_1c h4n h4 x4) : SemL Try.prog w0 fp ρi 0 38 [cz33_n7, cz33_n8] (Yb20 v6) (Yb22 p b h3_0 h3_1l h3_1c h4n h4 x4) (kkz33_1 w0 fp ρi Kf p b h3_0 v6 h3_1l h3_1c h4n h4 x4) :=
  L_block (L_seq (pz33_2 p b hK v6 h3_0 h3_1l h3_1c h4n h4 x4 h))
abbrev Yb23 (x0 : Int) (x1 x2 x3 : Nat) (x4 : List Int) (x5 : Nat) : Heap := ⟨5, [(2, some ⟨true, [.one (.int .u64 x0), .one (.slice ⟨4, 0, 0, 1⟩ x1 x2)], 0⟩), (4, some ⟨true, [.ints .i64 x3 x4], x5⟩)]⟩
abbrev Yb24 : Env := [(4, some (.ptr ⟨2, 0, 0, 1⟩ 2)), (5, some (.ptr ⟨3, 0, 0, 1⟩ 2))]
abbrev Yb25 (x0 : Int) (x1 x2 x3 : Nat) (x4 : List Int) (x5 : Nat) : Heap := ⟨5, [(2, some ⟨true, [.one (.int .u64 0), .one (.nilslice)], 0⟩), (3, some ⟨true, [.one (.int .u64 x0), .one (.slice ⟨4, 0, 0, 1⟩ x1 x2)], 0⟩), (4, some ⟨true, [.ints .i64 x3 x4], x5⟩)]⟩
theorem rz33_4 (p : PlanV) (b : List Int) (h3_0 : Int) (h3_1l h3_1c h4n : Nat) (h4 : List Int) (x4 : Nat) (Z : Env -> Heap -> Prop) (h : Z Yb2 (Yb23 h3_0 h3_1l h3_1c h4n h4 x4)) : EvC Gq7Count cz33_n11 Yb24 (Yb25 h3_0 h3_1l h3_1c h4n h4 x4) [4] [2, 4] Z := EvC.of (by kernel_rfl) h
theorem rtz33_0 (p : PlanV) (b : List Int) (h3_0 : Int) (h3_1l h3_1c h4n : Nat) (h4 : List Int) (x4 : Nat) : RetC Rq7Count Yb2 (Yb23 h3_0 h3_1l h3_1c h4n h4 x4) (.agg [.one (.int .u64 h3_0), .one (.slice ⟨4, 0, 0, 1⟩ h3_1l h3_1c)]) := RetC.of (fun Z => by kernel_rfl)
def vz33_4 (p : PlanV) (b : List Int) (h3_0 : Int) (h3_1l h3_1c h4n : Nat) (h4 : List Int) (x4 : Nat) : Prop := (h3_0 = (readB (List.take 8 b))) /\ (h3_1l = (Int.toNat (PlanV.lines p))) /\ (h4n = (Int.toNat (PlanV.lines p))) /\ (h4 = (PlanV.minL p b)) /\ (x4 = (h3_1c - (Int.toNat (PlanV.lines p)))) /\ (((Int.toNat (PlanV.lines p)) : Nat) <= h3_1c)
theorem pz33_4 (p : PlanV) (b : List Int) (hK : ∀ cap0 : Nat, (Int.toNat (PlanV.lines p)) <= cap0 -> Kf (.agg [.one (.int .u64 (readB (List.take 8 b))), .one (.slice ⟨0, 0, 0, 1⟩ (Int.toNat (PlanV.lines p)) cap0)]) (Yb4 p b cap0)) (h3_0 : Int) (h3_1l h3_1c h4n : Nat) (h4 : List Int) (x4 : Nat) (h : vz33_4 p b h3_0 h3_1l h3_1c h4n h4 x4) : SemL Try.prog w0 fp ρi 0 38 [cz33_n11, .ret] Yb24 (Yb25 h3_0 h3_1l h3_1c h4n h4 x4) (fnK Rq7Count 0 Kf) :=
  L_regE hGq7Count (rz33_4 p b h3_0 h3_1l h3_1c h4n h4 x4 _ (L_retE (R := Rq7Count) (m := 0) (Kf := Kf) (fun _ _ h => h) (rtz33_0 p b h3_0 h3_1l h3_1c h4n h4 x4) (ret_of0 (Eq.mpr (cg5 (fun (z1 : Int) (z2 z3 : Nat) (z4 : List Int) (z5 : Nat) => Ret0 0 Kf (.agg [.one (.int .u64 z1), .one (.slice ⟨4, 0, 0, 1⟩ z2 h3_1c)]) (Yb23 h3_0 h3_1l h3_1c z3 z4 z5)) h.1 h.2.1 h.2.2.1 h.2.2.2.1 h.2.2.2.2.1) (ret0_tau [(0, 4)] [0] rfl (by kernel_rfl) rfl (bd_agg (bdCs_one pbd (bdCs_one bsl bdCs_nil))) (hsc pcs heapSub_nil) rfl (by kernel_rfl) (hK h3_1c h.2.2.2.2.2))))))
def vz33_5 (p : PlanV) (b : List Int) (v6 h3_0 : Int) (h3_1l h3_1c h4n : Nat) (h4 : List Int) (x4 : Nat) : Prop := ((decide (v6 < p.lines)) = true -> (vz33_3 p b v6 h3_0 h3_1l h3_1c h4n h4 x4)) /\ ((decide (v6 < p.lines)) = false -> (vz33_4 p b h3_0 h3_1l h3_1c h4n h4 x4))
abbrev Yb26 (x0 : Int) (x1 : PlanV) : Env := [(2, some (.ptr ⟨0, 0, 0, 1⟩ 46)), (3, some (.ptr ⟨1, 0, 0, 1⟩ 32)), (4, some (.ptr ⟨2, 0, 0, 1⟩ 2)), (5, some (.ptr ⟨3, 0, 0, 1⟩ 2)), (6, some (.int .i64 x0)), (15, some (.bool (decide (x0 < x1.lines))))]
theorem pz33_5 (p : PlanV) (b : List Int) (hK : ∀ cap0 : Nat, (Int.toNat (PlanV.lines p)) <= cap0 -> Kf (.agg [.one (.int .u64 (readB (List.take 8 b))), .one (.slice ⟨0, 0, 0, 1⟩ (Int.toNat (PlanV.lines p)) cap0)]) (Yb4 p b cap0)) (v6 h3_0 : Int) (h3_1l h3_1c h4n : Nat) (h4 : List Int) (x4 : Nat) (h : vz33_5 p b v6 h3_0 h3_1l h3_1c h4n h4 x4) : SemL Try.prog w0 fp ρi 0 38 [cz33_n4, (.seq cz33_n7 cz33_n8)] (Yb26 v6 p) (Yb22 p b h3_0 h3_1l h3_1c h4n h4 x4) (kkz33_1 w0 fp ρi Kf p b h3_0 v6 h3_1l h3_1c h4n h4 x4) :=
  L_cond (q := (decide (v6 < p.lines))) (by kernel_rfl) (fun hq => (L_skip (lpk [2, 3, 4, 5, 6] [0, 1, 2, 3, 4] (L_seq (pz33_3 p b hK v6 h3_0 h3_1l h3_1c h4n h4 x4 (h.1 hq)))))) (fun hq => (L_exit (lpk [4, 5] [2, 3, 4] (L_seq (pz33_4 p b hK h3_0 h3_1l h3_1c h4n h4 x4 (h.2 hq))))))
theorem rz33_6 (p : PlanV) (b : List Int) (v6 h3_0 : Int) (h3_1l h3_1c h4n : Nat) (h4 : List Int) (x4 : Nat) (Z : Env -> Heap -> Prop) (h : Z (Yb26 v6 p) (Yb22 p b h3_0 h3_1l h3_1c h4n h4 x4)) : EvC Gq7Count cz33_n3 (Yb20 v6) (Yb22 p b h3_0 h3_1l h3_1c h4n h4 x4) [2, 3, 4, 5, 6, 15] [0, 1, 2, 3, 4] Z := EvC.of (by kernel_rfl) h
def vz33_6 (p : PlanV) (b : List Int) (v6 h3_0 : Int) (h3_1l h3_1c h4n : Nat) (h4 : List Int) (x4 : Nat) : Prop := vz33_5 p b v6 h3_0 h3_1l h3_1c h4n h4 x4
theorem pz33_6 (p : PlanV) (b : List Int) (hK : ∀ cap0 : Nat, (Int.toNat (PlanV.lines p)) <= cap0 -> Kf (.agg [.one (.int .u64 (readB (List.take 8 b))), .one (.slice ⟨0, 0, 0, 1⟩ (Int.toNat (PlanV.lines p)) cap0)]) (Yb4 p b cap0)) (v6 h3_0 : Int) (h3_1l h3_1c h4n : Nat) (h4 : List Int) (x4 : Nat) (h : vz33_6 p b v6 h3_0 h3_1l h3_1c h4n h4 x4) : SemL Try.prog w0 fp ρi 0 38 [cz33_n3, cz33_n4, (.seq cz33_n7 cz33_n8)] (Yb20 v6) (Yb22 p b h3_0 h3_1l h3_1c h4n h4 x4) (kkz33_1 w0 fp ρi Kf p b h3_0 v6 h3_1l h3_1c h4n h4 x4) :=
  L_regE hGq7Count (rz33_6 p b v6 h3_0 h3_1l h3_1c h4n h4 x4 _ (pz33_5 p b hK v6 h3_0 h3_1l h3_1c h4n h4 x4 h))
def vz33_7 (p : PlanV) (b : List Int) (h3_0 : Int) : Prop := (0 <= (0 : Int) /\ (0 : Int) <= p.lines /\ (0 : Nat) = (0 : Int).toNat /\ (0 : Nat) = (0 : Int).toNat /\ ([] : List Int) = p.minF b (0 : Int).toNat /\ (0 : Nat) + (0 : Nat) = (0 : Nat)) /\ (∀ (v6 : Int) (h3_1l h3_1c h4n : Nat) (h4 : List Int) (x4 : Nat), (0 <= v6 /\ v6 <= p.lines /\ h3_1l = v6.toNat /\ h4n = v6.toNat /\ h4 = p.minF b v6.toNat /\ h3_1l + x4 = h3_1c) -> (vz33_6 p b v6 h3_0 h3_1l h3_1c h4n h4 x4))
abbrev Yb27 : Env := [(2, some (.ptr ⟨0, 0, 0, 1⟩ 46)), (3, some (.ptr ⟨1, 0, 0, 1⟩ 32)), (4, some (.ptr ⟨2, 0, 0, 1⟩ 2)), (5, some (.ptr ⟨3, 0, 0, 1⟩ 2)), (6, some (.int .i64 0))]
abbrev Yb28 (x0 : PlanV) (x1 : List Int) (x2 : Int) : Heap := ⟨4, [(0, some ⟨true, (PlanV.cs x0), 0⟩), (1, some ⟨true, [.ints .u8 32 x1], 0⟩), (2, some ⟨true, [.one (.int .u64 0), .one (.nilslice)], 0⟩), (3, some ⟨true, [.one (.int .u64 x2), .one (.nilslice)], 0⟩)]⟩
theorem pz33_7 (p : PlanV) (b : List Int) (hK : ∀ cap0 : Nat, (Int.toNat (PlanV.lines p)) <= cap0 -> Kf (.agg [.one (.int .u64 (readB (List.take 8 b))), .one (.slice ⟨0, 0, 0, 1⟩ (Int.toNat (PlanV.lines p)) cap0)]) (Yb4 p b cap0)) (h3_0 : Int) (h : vz33_7 p b h3_0) : SemL Try.prog w0 fp ρi 0 38 [cz33_n9] Yb27 (Yb28 p b h3_0) (kkz33_0 w0 fp ρi Kf p b) :=
  L_denilH (id := 3) (en := ⟨true, [.one (.int .u64 h3_0), .one (.nilslice)], 0⟩) (cs' := [.one (.int .u64 h3_0), .one (.slice ⟨4, 0, 0, 1⟩ 0 0)]) (H' := ⟨5, [(4, some ⟨true, [.ints .i64 0 ([] : List Int)], 0⟩), (0, some ⟨true, (PlanV.cs p), 0⟩), (1, some ⟨true, [.ints .u8 32 b], 0⟩), (2, some ⟨true, [.one (.int .u64 0), .one (.nilslice)], 0⟩), (3, some ⟨true, [.one (.int .u64 h3_0), .one (.nilslice)], 0⟩)]⟩) [(some [.ints .i64 0 ([] : List Int)])] rfl rfl (by kernel_rfl) (L_loop (ivz33_1 p b h3_0) (muz33_1 p b h3_0) (liz33_1 p b h3_0) (ljz33_1 p b h3_0) ⟨(0, 0, 0, 0, ([] : List Int), 0), tau [], h.1, (sub_tau' [] [0, 1, 2, 3, 4] rfl rfl (esc bpt (esc bpt (esc bpt (esc bpt (esc pbd envSub_nil))))) (hsc pcs (hsc pcs (hsc pcs (hsc (bdCs_one pbd (bdCs_one bsl bdCs_nil)) (hsc pcs heapSub_nil))))) (by kernel_rfl) rfl)⟩ (fun s => match s with | (v6, h3_1l, h3_1c, h4n, h4, x4) => fun hi => (L_seq (L_seq (pz33_6 p b hK v6 h3_0 h3_1l h3_1c h4n h4 x4 (h.2 v6 h3_1l h3_1c h4n h4 x4 hi))))))
def vz33_8 (p : PlanV) (b : List Int) (h3_0 : Int) : Prop := vz33_7 p b h3_0
theorem pz33_8 (p : PlanV) (b : List Int) (hK : ∀ cap0 : Nat, (Int.toNat (PlanV.lines p)) <= cap0 -> Kf (.agg [.one (.int .u64 (readB (List.take 8 b))), .one (.slice ⟨0, 0, 0, 1⟩ (Int.toNat (PlanV.lines p)) cap0)]) (Yb4 p b cap0)) (h3_0 : Int) (h : vz33_8 p b h3_0) : SemL Try.prog w0 fp ρi 0 38 [cz33_n10, (.seq cz33_n11 .ret)] Yb27 (Yb28 p b h3_0) (fnK Rq7Count 0 Kf) :=
  L_block (pz33_7 p b hK h3_0 h)
abbrev Yb29 : Env := [(2, some (.ptr ⟨0, 0, 0, 1⟩ 46)), (3, some (.ptr ⟨1, 0, 0, 1⟩ 32)), (4, some (.ptr ⟨2, 0, 0, 1⟩ 2)), (5, some (.ptr ⟨3, 0, 0, 1⟩ 2))]
theorem rz33_9 (p : PlanV) (b : List Int) (h3_0 : Int) (Z : Env -> Heap -> Prop) (h : Z Yb27 (Yb28 p b h3_0)) : EvC Gq7Count cz33_n2 Yb29 (Yb28 p b h3_0) [2, 3, 4, 5, 6] [0, 1, 2, 3] Z := EvC.of (by kernel_rfl) h
def vz33_9 (p : PlanV) (b : List Int) (h3_0 : Int) : Prop := vz33_8 p b h3_0
theorem pz33_9 (p : PlanV) (b : List Int) (hK : ∀ cap0 : Nat, (Int.toNat (PlanV.lines p)) <= cap0 -> Kf (.agg [.one (.int .u64 (readB (List.take 8 b))), .one (.slice ⟨0, 0, 0, 1⟩ (Int.toNat (PlanV.lines p)) cap0)]) (Yb4 p b cap0)) (h3_0 : Int) (h : vz33_9 p b h3_0) : SemL Try.prog w0 fp ρi 0 38 [cz33_n2, cz33_n10, (.seq cz33_n11 .ret)] Yb29 (Yb28 p b h3_0) (fnK Rq7Count 0 Kf) :=
  L_regE hGq7Count (rz33_9 p b h3_0 _ (pz33_8 p b hK h3_0 h))
theorem rz33_10 (p : PlanV) (b : List Int) (Z : Env -> Heap -> Prop) (h : (((32 : Nat) <= 32)) /\ (((32 : Nat) = 32)) /\ ((List.length (List.take 32 b) = 32 /\ 32 <= 32 /\ 32 <= 1000000000 /\ Byt (List.take 32 b))) /\ Z Yb29 ⟨4, [(0, some ⟨true, (PlanV.cs p), 0⟩), (1, some ⟨true, [.ints .u8 32 b], 0⟩), (2, some ⟨true, [.one (.int .u64 0), .one (.nilslice)], 0⟩), (3, some ⟨true, [.one (.int .u64 (readB (List.take 8 (List.take 32 b)))), .one (.nilslice)], 0⟩)]⟩) : EvC Gq7Count cz33_n1 Yb15 (Yb16 p b) [2, 3, 4, 5] [0, 1, 2, 3] Z := EvC.of (by kernel_rfl) h
def vz33_10 (p : PlanV) (b : List Int) : Prop := ((List.length (List.take 32 b) = 32 /\ 32 <= 32 /\ 32 <= 1000000000 /\ Byt (List.take 32 b))) /\ (∀ h3_0 : Int, h3_0 = (readB (List.take 8 (List.take 32 b))) -> vz33_9 p b h3_0)
theorem pz33_10 (p : PlanV) (b : List Int) (hK : ∀ cap0 : Nat, (Int.toNat (PlanV.lines p)) <= cap0 -> Kf (.agg [.one (.int .u64 (readB (List.take 8 b))), .one (.slice ⟨0, 0, 0, 1⟩ (Int.toNat (PlanV.lines p)) cap0)]) (Yb4 p b cap0)) (h : vz33_10 p b) : SemL Try.prog w0 fp ρi 0 38 [cz33_n1, (.seq (.seq cz33_n2 cz33_n10) (.seq cz33_n11 .ret))] Yb15 (Yb16 p b) (fnK Rq7Count 0 Kf) :=
  L_regE hGq7Count (rz33_10 p b _ ⟨(by decide), ⟨rfl, ⟨h.1, (L_seq (L_seq (pz33_9 p b hK (readB (List.take 8 (List.take 32 b))) (h.2 (readB (List.take 8 (List.take 32 b))) rfl))))⟩⟩⟩)
theorem rz33_11 (p : PlanV) (b : List Int) (Z : Env -> Heap -> Prop) (h : Z Yb15 (Yb16 p b)) : EvC Gq7Count cz33_n0 (Yb18 p b) Yb3 [2, 3, 4] [0, 1, 2] Z := EvC.of (by kernel_rfl) h
def vz33_11 (p : PlanV) (b : List Int) : Prop := vz33_10 p b
theorem pz33_11 (p : PlanV) (b : List Int) (hK : ∀ cap0 : Nat, (Int.toNat (PlanV.lines p)) <= cap0 -> Kf (.agg [.one (.int .u64 (readB (List.take 8 b))), .one (.slice ⟨0, 0, 0, 1⟩ (Int.toNat (PlanV.lines p)) cap0)]) (Yb4 p b cap0)) (h : vz33_11 p b) : SemL Try.prog w0 fp ρi 0 38 [cz33_n0, (.seq cz33_n1 (.seq (.seq cz33_n2 cz33_n10) (.seq cz33_n11 .ret)))] (Yb18 p b) Yb3 (fnK Rq7Count 0 Kf) :=
  L_regE hGq7Count (rz33_11 p b _ (L_seq (pz33_10 p b hK h)))
def vcq7Count (p : PlanV) (b : List Int) : Prop := vz33_11 p b
theorem wq7Count (p : PlanV) (b : List Int) (hK : ∀ cap0 : Nat, (Int.toNat (PlanV.lines p)) <= cap0 -> Kf (.agg [.one (.int .u64 (readB (List.take 8 b))), .one (.slice ⟨0, 0, 0, 1⟩ (Int.toNat (PlanV.lines p)) cap0)]) (Yb4 p b cap0)) (h : vcq7Count p b) : SemL Try.prog w0 fp ρi 0 38 [cq7Count] (Yb18 p b) Yb3 (fnK Rq7Count 0 Kf) :=
  (L_seq (pz33_11 p b hK h))
end
theorem okq7Count (p : PlanV) (b : List Int) (hpre : (PlanV.right p = true /\ LineOk b)) : vcq7Count p b := by
  unfold vcq7Count vz33_11 vz33_10 vz33_9 vz33_8 vz33_7 vz33_6 vz33_5 vz33_4 vz33_3 vz33_2 vz33_1 vz33_0
  obtain ⟨hr, hb⟩ := hpre
  have hf := PlanV.right_facts hr
  rw [takeAll' hb.1]
  refine ⟨⟨hb.1, by omega, by omega, hb.2⟩, ?_⟩
  rintro m rfl
  refine ⟨⟨by omega, by omega, rfl, rfl, rfl, rfl⟩, ?_⟩
  rintro v18 l c n h3 x3 ⟨i0, i1, rfl, rfl, rfl, i5⟩
  refine ⟨fun hlt => ?_, fun hge => ?_⟩
  · have hlt := of_decide_eq_true hlt
    obtain ⟨g1, g2, g3⟩ := PlanV.got_at hr hb.1 i0 hlt
    have g4 := PlanV.min_lt hr b (64 + v18.toNat * p.minor.toNat)
    have w1 : IntKind.i64.wrap (v18 + 1) = v18 + 1 := by rw [wi64]; omega
    rw [g1, g3, w1]
    refine ⟨⟨hb.1, by omega, by omega, hb.2, by unfold I64; omega, by unfold I64; omega⟩, ?_⟩
    rintro v7 rfl
    have w2 : IntKind.i64.wrap (getB b (64 + v18.toNat * p.minor.toNat) p.minor.toNat) = getB b (64 + v18.toNat * p.minor.toNat) p.minor.toNat := by rw [wi64]; omega
    rw [w2]
    refine ⟨rfl, PlanV.minF_length _ _ _, i5, by omega, fun c2 hc2 => ?_⟩
    rintro l2 rfl h5 rfl x5 rfl
    refine ⟨⟨by omega, by omega, by omega, by omega, ?_, by omega⟩, by omega⟩
    rw [show (v18 + 1).toNat = v18.toNat + 1 by omega, PlanV.minF_succ]
    rfl
  · have hge := of_decide_eq_false hge
    have e : v18 = p.lines := by omega
    subst e
    exact ⟨rfl, rfl, rfl, rfl, by omega, by omega⟩
theorem sq7Count : Sound Try.prog 33 (gS Dq7Count) := by
  refine fn_soundA cq7Count_fits ?_
  intro args H K h
  obtain ⟨pre, out, hD, hpre, hK⟩ := gS_inv h
  unfold Dq7Count at hD
  split at hD
  · obtain ⟨hb, hD⟩ := bif_some hD
    simp only [Bool.and_eq_true] at hb
    obtain ⟨⟨h0, h1⟩, h2⟩ := hb
    obtain rfl := Nat.eq_of_beq_eq_true h0
    obtain rfl := Nat.eq_of_beq_eq_true h1
    obtain rfl := Nat.eq_of_beq_eq_true h2
    cases hD
    exact ⟨rfl, fun w0 fp ρi => wq7Count (PlanV.mk _ _ _ _ _ _ _ _ _ _ _ _ _ _ _ _) _ hK (okq7Count (PlanV.mk _ _ _ _ _ _ _ _ _ _ _ _ _ _ _ _) _ hpre)⟩
  · cases hD
def Dq7Line : GSpec := fun args H => match args, H with
  | [.slice ⟨0, 0, 0, 1⟩ b_n b_c], ⟨1, [(0, some ⟨false, [.ints .u8 b_m b], 0⟩)]⟩ => some (b_m = b_n /\ (List.length b = 32 /\ b_n = 32 /\ 32 <= b_c), fun K => K (.agg [.ints .u8 32 b]) ⟨1, [(0, some ⟨false, [.ints .u8 b_n b], 0⟩)]⟩)
  | _, _ => none
def conq7Line : Con := ⟨60, gS Dq7Line, [], [], []⟩
def cz60_n0 : ACode := .reg (.op (some 2) (.alloc [.ints .u8 32 (List.replicate 32 0)]) .nil)
def cz60_n1 : ACode := .reg (.op (some 5) (.build [.ints .u8 32 (List.replicate 32 0)] []) (.op (some 3) (.alloc [.ints .u8 32 (List.replicate 32 0)]) (.op none (.storeA 32 (.tm 3) (.tm 5)) .nil)))
def cz60_n2 : ACode := .reg (.op (some 4) (.mov (.cn (.int .i64 0))) .nil)
def cz60_n3 : ACode := .reg (.op (some 6) (.mov (.tm 4)) (.op (some 7) (.bin .lss (.tm 6) (.cn (.int .i64 32))) (.op (some 8) (.mov (.tm 7)) (.grpJ 8 true (.op (some 9) (.mov (.tm 4)) (.op (some 10) (.mov (.tm 0)) (.op (some 11) (.len (.tm 10)) (.op (some 12) (.bin .lss (.tm 9) (.tm 11)) .nil)))) 13 (.tm 12) (.cn (.bool false)) .nil))))
def cz60_n4 : ACode := .cond (.tm 13) .skip (.exit 0)
def cz60_n5 : ACode := .reg (.op (some 16) (.mov (.tm 4)) (.op (some 17) (.mov (.tm 0)) (.op (some 18) (.mov (.tm 4)) (.op (some 19) (.idxS (.tm 17) (.tm 18) 1) (.op (some 20) (.load1 (.tm 19)) (.op (some 21) (.idxA (.tm 3) (.tm 16) 32 1) (.op none (.store1 (.tm 21) (.tm 20)) .nil)))))))
def cz60_n6 : ACode := .block 1 cz60_n5
def cz60_n7 : ACode := .reg (.op (some 14) (.mov (.tm 4)) (.op (some 15) (.bin .add (.tm 14) (.cn (.int .i64 1))) (.op (some 4) (.mov (.tm 15)) .nil)))
def cz60_n8 : ACode := .loop (.seq (.seq cz60_n3 cz60_n4) (.seq cz60_n6 cz60_n7))
def cz60_n9 : ACode := .block 0 cz60_n8
def cz60_n10 : ACode := .reg (.op (some 22) (.loadA 32 (.tm 3)) (.op none (.storeA 32 (.tm 2) (.tm 22)) .nil))
def cq7Line : ACode := (.seq cz60_n0 (.seq cz60_n1 (.seq (.seq cz60_n2 cz60_n9) (.seq cz60_n10 .ret))))
def Rq7Line : Res := .one (.cA 2 32)
theorem cq7Line_fits : fnFits Try.prog 60 1 23 cq7Line Rq7Line = true := by kernel_rfl
def Gq7Line : Calls' := withP [] []
theorem hGq7Line : CallOk Try.prog Gq7Line := withP_ok trivial trivial
section
variable {w0 : World} {fp : Nat -> Nat -> Prop} {ρi : Rho} {Kf : SVal -> Heap -> Prop}
def kkz60_0 (w0 : World) (fp : Nat -> Nat -> Prop) (ρi : Rho) (Kf : SVal -> Heap -> Prop) (b : List Int) (b_n b_c : Nat) : Cont := blockK 0 (fun e H => SemL Try.prog w0 fp ρi 1 23 [(.seq cz60_n10 .ret)] e H (fnK Rq7Line 1 Kf)) (fnK Rq7Line 1 Kf)
def ivz60_1 (b : List Int) (b_n b_c : Nat) : Int × List Int -> Prop := fun s => match s with | (v4, h2) => 0 <= v4 /\ v4 <= 32 /\ h2.length = 32 /\ List.take v4.toNat h2 = List.take v4.toNat b
def muz60_1 (b : List Int) (b_n b_c : Nat) : Int × List Int -> Nat := fun s => match s with | (v4, h2) => ((32 - v4).toNat)
def liz60_1 (b : List Int) (b_n b_c : Nat) : Int × List Int -> Env := fun s => match s with | (v4, h2) => [(0, some (.slice ⟨0, 0, 0, 1⟩ b_n b_c)), (2, some (.ptr ⟨1, 0, 0, 1⟩ 32)), (3, some (.ptr ⟨2, 0, 0, 1⟩ 32)), (4, some (.int .i64 v4))]
def ljz60_1 (b : List Int) (b_n b_c : Nat) : Int × List Int -> Heap := fun s => match s with | (v4, h2) => ⟨3, [(0, some ⟨false, [.ints .u8 b_n b], 0⟩), (1, some ⟨true, [.ints .u8 32 (List.replicate 32 0)], 0⟩), (2, some ⟨true, [.ints .u8 32 h2], 0⟩)]⟩
def kkz60_1 (w0 : World) (fp : Nat -> Nat -> Prop) (ρi : Rho) (Kf : SVal -> Heap -> Prop) (b : List Int) (b_n b_c : Nat) (v4 : Int) (h2 : List Int) : Cont := loopK 1 (ivz60_1 b b_n b_c) (muz60_1 b b_n b_c) (liz60_1 b b_n b_c) (ljz60_1 b b_n b_c) (v4, h2) (kkz60_0 w0 fp ρi Kf b b_n b_c)
abbrev Yb30 (x0 : Nat) (x1 x2 : List Int) : Heap := ⟨3, [(0, some ⟨false, [.ints .u8 x0 x1], 0⟩), (1, some ⟨true, [.ints .u8 32 (List.replicate 32 0)], 0⟩), (2, some ⟨true, [.ints .u8 32 x2], 0⟩)]⟩
abbrev Yb31 (x0 x1 : Nat) (x2 : Int) : Env := [(0, some (.slice ⟨0, 0, 0, 1⟩ x0 x1)), (2, some (.ptr ⟨1, 0, 0, 1⟩ 32)), (3, some (.ptr ⟨2, 0, 0, 1⟩ 32)), (4, some (.int .i64 x2))]
theorem rz60_0 (b : List Int) (b_n b_c : Nat) (v4 : Int) (h2'1 h2 : List Int) (Z : Env -> Heap -> Prop) (h : Z [(0, some (.slice ⟨0, 0, 0, 1⟩ b_n b_c)), (2, some (.ptr ⟨1, 0, 0, 1⟩ 32)), (3, some (.ptr ⟨2, 0, 0, 1⟩ 32)), (4, some (.int .i64 (IntKind.i64.wrap (v4 + 1))))] (Yb30 b_n b h2'1)) : EvC Gq7Line cz60_n7 (Yb31 b_n b_c v4) (Yb30 b_n b h2'1) [0, 2, 3, 4] [0, 1, 2] Z := EvC.of (by kernel_rfl) h
def vz60_0 (b : List Int) (b_n b_c : Nat) (v4 : Int) (h2'1 h2 : List Int) : Prop := (0 <= (IntKind.i64.wrap (v4 + 1)) /\ (IntKind.i64.wrap (v4 + 1)) <= 32 /\ h2'1.length = 32 /\ List.take (IntKind.i64.wrap (v4 + 1)).toNat h2'1 = List.take (IntKind.i64.wrap (v4 + 1)).toNat b) /\ (((32 - (IntKind.i64.wrap (v4 + 1))).toNat) < ((32 - v4).toNat))
abbrev Yb32 (x0 : Nat) (x1 : List Int) : Heap := ⟨1, [(0, some ⟨false, [.ints .u8 x0 x1], 0⟩)]⟩
abbrev Yb33 (x0 : SVal -> Heap -> Prop) (x1 : List Int) (x2 : Nat) : Prop := x0 (.agg [.ints .u8 32 x1]) ⟨1, [(0, some ⟨false, [.ints .u8 x2 x1], 0⟩)]⟩
theorem pz60_0 (b : List Int) (b_n b_c : Nat) (hK : (Yb33 Kf b b_n)) (v4 : Int) (h2'1 h2 : List Int) (h : vz60_0 b b_n b_c v4 h2'1 h2) : SemL Try.prog w0 fp ρi 1 23 [cz60_n7] (Yb31 b_n b_c v4) (Yb30 b_n b h2'1) (kkz60_1 w0 fp ρi Kf b b_n b_c v4 h2) :=
  L_regE hGq7Line (rz60_0 b b_n b_c v4 h2'1 h2 _ (L_nil (loop_back (x' := ((IntKind.i64.wrap (v4 + 1)), h2'1)) (τ := tau []) h.1 h.2 (sub_tau' [] [0, 1, 2] rfl rfl (esc bsl (esc bpt (esc bpt (esc pbd envSub_nil)))) (hsc pcs (hsc pcs (hsc pcs heapSub_nil))) (by kernel_rfl) rfl))))
def kkz60_2 (w0 : World) (fp : Nat -> Nat -> Prop) (ρi : Rho) (Kf : SVal -> Heap -> Prop) (b : List Int) (b_n b_c : Nat) (v4 : Int) (h2 : List Int) : Cont := blockK 1 (fun e H => SemL Try.prog w0 fp ρi 1 23 [cz60_n7] e H (kkz60_1 w0 fp ρi Kf b b_n b_c v4 h2)) (kkz60_1 w0 fp ρi Kf b b_n b_c v4 h2)
theorem rz60_1 (b : List Int) (b_n b_c : Nat) (v4 : Int) (h2 : List Int) (Z : Env -> Heap -> Prop) (h : ((0 <= v4)) /\ ((v4 < ((b_n : Nat) : Int))) /\ (((0 + (Int.toNat v4)) < b_n)) /\ ((0 <= v4)) /\ ((v4 < 32)) /\ (((0 + ((Int.toNat v4) * 1)) < 32)) /\ (((0 + ((Int.toNat v4) * 1)) < List.length h2)) /\ Z (Yb31 b_n b_c v4) ⟨3, [(0, some ⟨false, [.ints .u8 b_n b], 0⟩), (1, some ⟨true, [.ints .u8 32 (List.replicate 32 0)], 0⟩), (2, some ⟨true, [.ints .u8 32 (List.set h2 (0 + ((Int.toNat v4) * 1)) (List.getD b (0 + (Int.toNat v4)) 0))], 0⟩)]⟩) : EvC Gq7Line cz60_n5 (Yb31 b_n b_c v4) (Yb30 b_n b h2) [0, 2, 3, 4] [0, 1, 2] Z := EvC.of (by kernel_rfl) h
def vz60_1 (b : List Int) (b_n b_c : Nat) (v4 : Int) (h2 : List Int) : Prop := ((0 <= v4)) /\ (((v4 < ((b_n : Nat) : Int))) /\ ((((0 + (Int.toNat v4)) < b_n)) /\ (((0 <= v4)) /\ (((v4 < 32)) /\ ((((0 + ((Int.toNat v4) * 1)) < 32)) /\ ((((0 + ((Int.toNat v4) * 1)) < List.length h2)) /\ (∀ h2'1 : List Int, h2'1 = (List.set h2 (0 + ((Int.toNat v4) * 1)) (List.getD b (0 + (Int.toNat v4)) 0)) -> vz60_0 b b_n b_c v4 h2'1 h2)))))))
theorem pz60_1 (b : List Int) (b_n b_c : Nat) (hK : (Yb33 Kf b b_n)) (v4 : Int) (h2 : List Int) (h : vz60_1 b b_n b_c v4 h2) : SemL Try.prog w0 fp ρi 1 23 [cz60_n5] (Yb31 b_n b_c v4) (Yb30 b_n b h2) (kkz60_2 w0 fp ρi Kf b b_n b_c v4 h2) :=
  L_regE hGq7Line (rz60_1 b b_n b_c v4 h2 _ ⟨h.1, ⟨h.2.1, ⟨h.2.2.1, ⟨h.2.2.2.1, ⟨h.2.2.2.2.1, ⟨h.2.2.2.2.2.1, ⟨h.2.2.2.2.2.2.1, (L_nil (pz60_0 b b_n b_c hK v4 (List.set h2 (0 + ((Int.toNat v4) * 1)) (List.getD b (0 + (Int.toNat v4)) 0)) h2 (h.2.2.2.2.2.2.2 (List.set h2 (0 + ((Int.toNat v4) * 1)) (List.getD b (0 + (Int.toNat v4)) 0)) rfl)))⟩⟩⟩⟩⟩⟩⟩)
def vz60_2 (b : List Int) (b_n b_c : Nat) (v4 : Int) (h2 : List Int) : Prop := vz60_1 b b_n b_c v4 h2
theorem pz60_2 (b : List Int) (b_n b_c : Nat) (hK : (Yb33 Kf b b_n)) (v4 : Int) (h2 : List Int) (h : vz60_2 b b_n b_c v4 h2) : SemL Try.prog w0 fp ρi 1 23 [cz60_n6, cz60_n7] (Yb31 b_n b_c v4) (Yb30 b_n b h2) (kkz60_1 w0 fp ρi Kf b b_n b_c v4 h2) :=
  L_block (pz60_1 b b_n b_c hK v4 h2 h)
abbrev Yb34 (x0 : Nat) (x1 x2 : List Int) : Heap := ⟨3, [(0, some ⟨false, [.ints .u8 x0 x1], 0⟩), (1, some ⟨true, [.ints .u8 32 x2], 0⟩)]⟩
abbrev Yb35 : Env := [(2, some (.ptr ⟨1, 0, 0, 1⟩ 32)), (3, some (.ptr ⟨2, 0, 0, 1⟩ 32))]
theorem rz60_3 (b : List Int) (b_n b_c : Nat) (h2 : List Int) (Z : Env -> Heap -> Prop) (h : Z [(2, some (.ptr ⟨1, 0, 0, 1⟩ 32))] (Yb34 b_n b h2)) : EvC Gq7Line cz60_n10 Yb35 (Yb30 b_n b h2) [2] [0, 1] Z := EvC.of (by kernel_rfl) h
theorem rtz60_0 (b : List Int) (b_n b_c : Nat) (h2 : List Int) : RetC Rq7Line [(2, some (.ptr ⟨1, 0, 0, 1⟩ 32))] (Yb34 b_n b h2) (.agg [.ints .u8 32 h2]) := RetC.of (fun Z => by kernel_rfl)
def vz60_3 (b : List Int) (b_n b_c : Nat) (h2 : List Int) : Prop := h2 = b
theorem pz60_3 (b : List Int) (b_n b_c : Nat) (hK : (Yb33 Kf b b_n)) (h2 : List Int) (h : vz60_3 b b_n b_c h2) : SemL Try.prog w0 fp ρi 1 23 [cz60_n10, .ret] Yb35 (Yb30 b_n b h2) (fnK Rq7Line 1 Kf) :=
  L_regE hGq7Line (rz60_3 b b_n b_c h2 _ (L_retE (R := Rq7Line) (m := 1) (Kf := Kf) (fun _ _ h => h) (rtz60_0 b b_n b_c h2) (ret_of0 (Eq.mpr (cg1 (fun (z1 : List Int) => Ret0 1 Kf (.agg [.ints .u8 32 z1]) (Yb34 b_n b h2)) h) (ret0_tau [] [0] rfl (by kernel_rfl) rfl pbd (hsc pcs heapSub_nil) rfl (by kernel_rfl) (hK))))))
def vz60_4 (b : List Int) (b_n b_c : Nat) (v4 : Int) (h2 : List Int) : Prop := (((decide (v4 < 32)) && (decide (v4 < ((b_n : Nat) : Int)))) = true -> (vz60_2 b b_n b_c v4 h2)) /\ (((decide (v4 < 32)) && (decide (v4 < ((b_n : Nat) : Int)))) = false -> (vz60_3 b b_n b_c h2))
theorem pz60_4 (b : List Int) (b_n b_c : Nat) (hK : (Yb33 Kf b b_n)) (v4 : Int) (h2 : List Int) (h : vz60_4 b b_n b_c v4 h2) : SemL Try.prog w0 fp ρi 1 23 [cz60_n4, (.seq cz60_n6 cz60_n7)] [(0, some (.slice ⟨0, 0, 0, 1⟩ b_n b_c)), (2, some (.ptr ⟨1, 0, 0, 1⟩ 32)), (3, some (.ptr ⟨2, 0, 0, 1⟩ 32)), (4, some (.int .i64 v4)), (13, some (.bool ((decide (v4 < 32)) && (decide (v4 < ((b_n : Nat) : Int))))))] (Yb30 b_n b h2) (kkz60_1 w0 fp ρi Kf b b_n b_c v4 h2) :=
  L_cond (q := ((decide (v4 < 32)) && (decide (v4 < ((b_n : Nat) : Int))))) (by kernel_rfl) (fun hq => (L_skip (lpk [0, 2, 3, 4] [0, 1, 2] (L_seq (pz60_2 b b_n b_c hK v4 h2 (h.1 hq)))))) (fun hq => (L_exit (lpk [2, 3] [0, 1, 2] (L_seq (pz60_3 b b_n b_c hK h2 (h.2 hq))))))
theorem rz60_5 (b : List Int) (b_n b_c : Nat) (v4 : Int) (h2 : List Int) (Z : Env -> Heap -> Prop) (h : ∃ qq : Bool, ((decide (v4 < 32)) = true -> (keeps (Yb30 b_n b h2) (Yb30 b_n b h2) [(0, some ⟨false, [.ints .u8 b_n b], 0⟩), (1, some ⟨true, [.ints .u8 32 (List.replicate 32 0)], 0⟩), (2, some ⟨true, [.ints .u8 32 h2], 0⟩)]) /\ (decide (v4 < ((b_n : Nat) : Int))) = qq) /\ ((decide (v4 < 32)) = false -> false = qq) /\ Z [(0, some (.slice ⟨0, 0, 0, 1⟩ b_n b_c)), (2, some (.ptr ⟨1, 0, 0, 1⟩ 32)), (3, some (.ptr ⟨2, 0, 0, 1⟩ 32)), (4, some (.int .i64 v4)), (13, some (.bool qq))] (Yb30 b_n b h2)) : EvC Gq7Line cz60_n3 (Yb31 b_n b_c v4) (Yb30 b_n b h2) [0, 2, 3, 4, 13] [0, 1, 2] Z := EvC.of (by kernel_rfl) h
def vz60_5 (b : List Int) (b_n b_c : Nat) (v4 : Int) (h2 : List Int) : Prop := vz60_4 b b_n b_c v4 h2
theorem pz60_5 (b : List Int) (b_n b_c : Nat) (hK : (Yb33 Kf b b_n)) (v4 : Int) (h2 : List Int) (h : vz60_5 b b_n b_c v4 h2) : SemL Try.prog w0 fp ρi 1 23 [cz60_n3, cz60_n4, (.seq cz60_n6 cz60_n7)] (Yb31 b_n b_c v4) (Yb30 b_n b h2) (kkz60_1 w0 fp ρi Kf b b_n b_c v4 h2) :=
  L_regE hGq7Line (rz60_5 b b_n b_c v4 h2 _ ⟨((decide (v4 < 32)) && (decide (v4 < ((b_n : Nat) : Int)))), fun hc_qq => ⟨(keeps_refl _), (qa1 hc_qq)⟩, fun hc_qq => qa2 hc_qq, (pz60_4 b b_n b_c hK v4 h2 h)⟩)
def vz60_6 (b : List Int) (b_n b_c : Nat) : Prop := (0 <= (0 : Int) /\ (0 : Int) <= 32 /\ (List.replicate 32 0).length = 32 /\ List.take (0 : Int).toNat (List.replicate 32 0) = List.take (0 : Int).toNat b) /\ (∀ (v4 : Int) (h2 : List Int), (0 <= v4 /\ v4 <= 32 /\ h2.length = 32 /\ List.take v4.toNat h2 = List.take v4.toNat b) -> (vz60_5 b b_n b_c v4 h2))
abbrev Yb36 (x0 x1 : Nat) : Env := [(0, some (.slice ⟨0, 0, 0, 1⟩ x0 x1)), (2, some (.ptr ⟨1, 0, 0, 1⟩ 32)), (3, some (.ptr ⟨2, 0, 0, 1⟩ 32)), (4, some (.int .i64 0))]
abbrev Yb37 (x0 : Nat) (x1 : List Int) : Heap := ⟨3, [(0, some ⟨false, [.ints .u8 x0 x1], 0⟩), (1, some ⟨true, [.ints .u8 32 (List.replicate 32 0)], 0⟩), (2, some ⟨true, [.ints .u8 32 (List.replicate 32 0)], 0⟩)]⟩
theorem pz60_6 (b : List Int) (b_n b_c : Nat) (hK : (Yb33 Kf b b_n)) (h : vz60_6 b b_n b_c) : SemL Try.prog w0 fp ρi 1 23 [cz60_n8] (Yb36 b_n b_c) (Yb37 b_n b) (kkz60_0 w0 fp ρi Kf b b_n b_c) :=
  L_loop (ivz60_1 b b_n b_c) (muz60_1 b b_n b_c) (liz60_1 b b_n b_c) (ljz60_1 b b_n b_c) ⟨(0, (List.replicate 32 0)), tau [], h.1, (sub_tau' [] [0, 1, 2] rfl rfl (esc bsl (esc bpt (esc bpt (esc pbd envSub_nil)))) (hsc pcs (hsc pcs (hsc pcs heapSub_nil))) (by kernel_rfl) rfl)⟩ (fun s => match s with | (v4, h2) => fun hi => (L_seq (L_seq (pz60_5 b b_n b_c hK v4 h2 (h.2 v4 h2 hi)))))
def vz60_7 (b : List Int) (b_n b_c : Nat) : Prop := vz60_6 b b_n b_c
theorem pz60_7 (b : List Int) (b_n b_c : Nat) (hK : (Yb33 Kf b b_n)) (h : vz60_7 b b_n b_c) : SemL Try.prog w0 fp ρi 1 23 [cz60_n9, (.seq cz60_n10 .ret)] (Yb36 b_n b_c) (Yb37 b_n b) (fnK Rq7Line 1 Kf) :=
  L_block (pz60_6 b b_n b_c hK h)
abbrev Yb38 (x0 x1 : Nat) : Env := [(0, some (.slice ⟨0, 0, 0, 1⟩ x0 x1)), (2, some (.ptr ⟨1, 0, 0, 1⟩ 32)), (3, some (.ptr ⟨2, 0, 0, 1⟩ 32))]
theorem rz60_8 (b : List Int) (b_n b_c : Nat) (Z : Env -> Heap -> Prop) (h : Z (Yb36 b_n b_c) (Yb37 b_n b)) : EvC Gq7Line cz60_n2 (Yb38 b_n b_c) (Yb37 b_n b) [0, 2, 3, 4] [0, 1, 2] Z := EvC.of (by kernel_rfl) h
def vz60_8 (b : List Int) (b_n b_c : Nat) : Prop := vz60_7 b b_n b_c
theorem pz60_8 (b : List Int) (b_n b_c : Nat) (hK : (Yb33 Kf b b_n)) (h : vz60_8 b b_n b_c) : SemL Try.prog w0 fp ρi 1 23 [cz60_n2, cz60_n9, (.seq cz60_n10 .ret)] (Yb38 b_n b_c) (Yb37 b_n b) (fnK Rq7Line 1 Kf) :=
  L_regE hGq7Line (rz60_8 b b_n b_c _ (pz60_7 b b_n b_c hK h))
abbrev Yb39 (x0 x1 : Nat) : Env := [(0, some (.slice ⟨0, 0, 0, 1⟩ x0 x1)), (2, some (.ptr ⟨1, 0, 0, 1⟩ 32))]
abbrev Yb40 (x0 : Nat) (x1 : List Int) : Heap := ⟨2, [(0, some ⟨false, [.ints .u8 x0 x1], 0⟩), (1, some ⟨true, [.ints .u8 32 (List.replicate 32 0)], 0⟩)]⟩
theorem rz60_9 (b : List Int) (b_n b_c : Nat) (Z : Env -> Heap -> Prop) (h : Z (Yb38 b_n b_c) (Yb37 b_n b)) : EvC Gq7Line cz60_n1 (Yb39 b_n b_c) (Yb40 b_n b) [0, 2, 3] [0, 1, 2] Z := EvC.of (by kernel_rfl) h
def vz60_9 (b : List Int) (b_n b_c : Nat) : Prop := vz60_8 b b_n b_c
theorem pz60_9 (b : List Int) (b_n b_c : Nat) (hK : (Yb33 Kf b b_n)) (h : vz60_9 b b_n b_c) : SemL Try.prog w0 fp ρi 1 23 [cz60_n1, (.seq (.seq cz60_n2 cz60_n9) (.seq cz60_n10 .ret))] (Yb39 b_n b_c) (Yb40 b_n b) (fnK Rq7Line 1 Kf) :=
  L_regE hGq7Line (rz60_9 b b_n b_c _ (L_seq (L_seq (pz60_8 b b_n b_c hK h))))
theorem rz60_10 (b : List Int) (b_n b_c : Nat) (Z : Env -> Heap -> Prop) (h : Z (Yb39 b_n b_c) (Yb40 b_n b)) : EvC Gq7Line cz60_n0 [(0, some (.slice ⟨0, 0, 0, 1⟩ b_n b_c))] (Yb32 b_n b) [0, 2] [0, 1] Z := EvC.of (by kernel_rfl) h
def vz60_10 (b : List Int) (b_n b_c : Nat) : Prop := vz60_9 b b_n b_c
theorem pz60_10 (b : List Int) (b_n b_c : Nat) (hK : (Yb33 Kf b b_n)) (h : vz60_10 b b_n b_c) : SemL Try.prog w0 fp ρi 1 23 [cz60_n0, (.seq cz60_n1 (.seq (.seq cz60_n2 cz60_n9) (.seq cz60_n10 .ret)))] [(0, some (.slice ⟨0, 0, 0, 1⟩ b_n b_c))] (Yb32 b_n b) (fnK Rq7Line 1 Kf) :=
  L_regE hGq7Line (rz60_10 b b_n b_c _ (L_seq (pz60_9 b b_n b_c hK h)))
def vcq7Line (b : List Int) (b_n b_c : Nat) : Prop := vz60_10 b b_n b_c
theorem wq7Line (b : List Int) (b_n b_c : Nat) (hK : (Yb33 Kf b b_n)) (h : vcq7Line b b_n b_c) : SemL Try.prog w0 fp ρi 1 23 [cq7Line] [(0, some (.slice ⟨0, 0, 0, 1⟩ b_n b_c))] (Yb32 b_n b) (fnK Rq7Line 1 Kf) :=
  (L_seq (pz60_10 b b_n b_c hK h))
end
theorem okq7Line (b : List Int) (b_n b_c : Nat) (hpre : (List.length b = 32 /\ b_n = 32 /\ 32 <= b_c)) : vcq7Line b b_n b_c := by
  unfold vcq7Line vz60_10 vz60_9 vz60_8 vz60_7 vz60_6 vz60_5 vz60_4 vz60_3 vz60_2 vz60_1 vz60_0
  obtain ⟨h1, rfl, h3⟩ := hpre
  refine ⟨⟨by omega, by omega, by simp, by simp⟩, ?_⟩
  rintro v4 h2 ⟨i0, i1, i2, i3⟩
  refine ⟨fun hlt => ?_, fun hge => ?_⟩
  · have hlt : v4 < 32 := by simp only [Bool.and_eq_true, decide_eq_true_eq] at hlt; omega
    have w1 : IntKind.i64.wrap (v4 + 1) = v4 + 1 := by rw [wi64]; omega
    rw [w1, Nat.zero_add, Nat.mul_one, Nat.zero_add]
    refine ⟨i0, by omega, by omega, i0, hlt, by omega, by omega, ?_⟩
    rintro h21 rfl
    refine ⟨⟨by omega, by omega, by rw [List.length_set, i2], ?_⟩, by omega⟩
    have e : (v4 + 1).toNat = v4.toNat + 1 := by omega
    rw [e, List.take_add_one, List.take_add_one, List.take_set_of_le (by omega), i3, List.getElem?_set_self (by omega), List.getD_eq_getElem?_getD, List.getElem?_eq_getElem (by omega : v4.toNat < b.length)]
    rfl
  · have hge : v4 = 32 := by simp only [Bool.and_eq_false_iff, decide_eq_false_iff_not] at hge; omega
    subst hge
    rw [List.take_of_length_le (by omega), List.take_of_length_le (by omega)] at i3
    exact i3
theorem sq7Line : Sound Try.prog 60 (gS Dq7Line) := by
  refine fn_soundA cq7Line_fits ?_
  intro args H K h
  obtain ⟨pre, out, hD, hpre, hK⟩ := gS_inv h
  unfold Dq7Line at hD
  split at hD
  · cases hD
    obtain ⟨rfl, hpre⟩ := hpre
    exact ⟨rfl, fun w0 fp ρi => wq7Line _ _ _ hK (okq7Line _ _ _ hpre)⟩
  · cases hD
end Go.Proofs.Ytggpebgigddogaa
