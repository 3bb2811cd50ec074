/- Part of the proof: SxCodeW5e. -/
import Derived.Test.YtggpebgigddogaaSxCodeW5a
import Derived.KernelRfl
set_option linter.unusedVariables false
set_option linter.unusedSimpArgs false
namespace Go.Proofs.Ytggpebgigddogaa
open Go.Sx
def DcCounters : GSpec := fun args H => match args, H with
  | [.agg [.one (.int .i64 p_0), .one (.int .i64 p_1), .one (.int .i64 p_2), .one (.int .i64 p_3), .one (.int .i64 p_4), .one (.int .i64 p_5), .one (.int .u64 p_6), .one (.int .i64 p_7), .one (.int .i64 p_8), .one (.int .i64 p_9), .one (.int .i64 p_10), .one (.int .i64 p_11), .one (.int .i64 p_12), .one (.int .i64 p_13), .ints .u8 p_14_n p_14, .ints .u8 p_15_n p_15], .agg [.one (.int .u64 c_0), .one (.slice ⟨0, 0, 0, 1⟩ c_n c_c)]], ⟨1, [(0, some ⟨false, [.ints .i64 c_m c], 0⟩)]⟩ => bif Nat.beq p_14_n 16 && Nat.beq p_15_n 16 then some (c_m = c_n /\ (List.length c = c_n /\ c_n <= c_c /\ c_n <= 1000000 /\ 0 <= c_0 /\ c_0 < 2 ^ 64), fun K => K (.tuple [.agg [.ints .u8 32 (PlanV.cntL (PlanV.mk p_0 p_1 p_2 p_3 p_4 p_5 p_6 p_7 p_8 p_9 p_10 p_11 p_12 p_13 p_14 p_15) c_0 c)], .int .i64 (PlanV.wrongC (PlanV.mk p_0 p_1 p_2 p_3 p_4 p_5 p_6 p_7 p_8 p_9 p_10 p_11 p_12 p_13 p_14 p_15) c_0 c)]) ⟨1, [(0, some ⟨false, [.ints .i64 c_n c], 0⟩)]⟩) else none
  | _, _ => none
def concCounters : Con := ⟨18, gS DcCounters, [], [], [(some [.ints .i64 0 ([] : List Int)])]⟩
def cz18_n0 : ACode := .reg (.op (some 2) (.box (.tm 0)) (.op (some 3) (.box (.tm 1)) (.op (some 4) (.alloc [.ints .u8 32 (List.replicate 32 0)]) (.op (some 5) (.mov (.cn (.int .i64 0))) .nil))))
def cz18_n1 : ACode := .reg (.op (some 9) (.loadA 46 (.tm 2)) (.op (some 10) (.loadA 2 (.tm 3)) (.op (some 11) (.call 39 [(.tm 9), (.tm 10)]) (.op (some 6) (.mov (.tm 11)) .nil))))
def cz18_n2 : ACode := .reg (.op (some 12) (.mov (.tm 6)) (.op (some 13) (.bin .neq (.tm 12) (.cn (.int .i64 0))) .nil))
def cz18_n3 : ACode := .reg (.op (some 14) (.loadA 32 (.tm 4)) (.op (some 15) (.mov (.tm 6)) (.op none (.storeA 32 (.tm 4) (.tm 14)) (.op (some 5) (.mov (.tm 15)) .nil))))
def cz18_n4 : ACode := .cond (.tm 13) (.seq cz18_n3 .ret) .skip
def cz18_n5m : List MStep := [.mk 0 0 (some 16) (.sliceP 32 (.tm 4) none none none), .mk 1 0 (some 17) (.fieldAddr (.tm 3) 0 1), .mk 2 0 (some 18) (.load1 (.tm 17)), .mk 3 1 (some 19) (.call 46 [(.cn (.nilslice)), (.tm 18), (.cn (.int .i64 8))]), .mk 4 2 (some 20) (.copy .u8 (.tm 16) (.tm 19))]
def cz18_n5 : ACode := .regM cz18_n5m
def cz18_n6 : ACode := .reg (.op (some 21) (.fieldAddr (.tm 3) 1 1) (.op (some 22) (.load1 (.tm 21)) (.op (some 23) (.len (.tm 22)) (.op (some 24) (.mov (.cn (.int .i64 0))) .nil))))
def cz18_n7 : ACode := .reg (.op (some 25) (.bin .lss (.tm 24) (.tm 23)) .nil)
def cz18_n8 : ACode := .cond (.tm 25) .skip (.exit 0)
def cz18_n9 : ACode := .reg (.op (some 26) (.mov (.tm 24)) (.op (some 27) (.idxS (.tm 22) (.tm 24) 1) (.op (some 28) (.load1 (.tm 27)) (.op (some 7) (.mov (.tm 26)) (.op (some 8) (.mov (.tm 28)) .nil)))))
def cz18_n10m : List MStep := [.mk 0 0 (some 29) (.sliceP 32 (.tm 4) none none none), .mk 1 0 (some 30) (.mov (.tm 7)), .mk 2 0 (some 31) (.fieldAddr (.tm 2) 5 1), .mk 3 0 (some 32) (.load1 (.tm 31)), .mk 4 0 (some 33) (.bin .mul (.tm 30) (.tm 32)), .mk 5 0 (some 34) (.bin .add (.cn (.int .i64 64)) (.tm 33)), .mk 6 0 (some 35) (.fieldAddr (.tm 2) 5 1), .mk 7 0 (some 36) (.load1 (.tm 35)), .mk 8 0 (some 37) (.mov (.tm 8)), .mk 9 0 (some 38) (.conv .u64 (.tm 37)), .mk 10 2 (some 39) (.call 47 [(.tm 29), (.tm 34), (.tm 36), (.tm 38)])]
def cz18_n10 : ACode := .regM cz18_n10m
def cz18_n11 : ACode := .block 1 (.seq cz18_n9 cz18_n10)
def cz18_n12 : ACode := .reg (.op (some 40) (.bin .add (.tm 24) (.cn (.int .i64 1))) (.op (some 24) (.mov (.tm 40)) .nil))
def cz18_n13 : ACode := .loop (.seq cz18_n7 (.seq cz18_n8 (.seq cz18_n11 cz18_n12)))
def cz18_n14 : ACode := .block 0 cz18_n13
def cz18_n15 : ACode := .reg (.op (some 41) (.loadA 32 (.tm 4)) (.op none (.storeA 32 (.tm 4) (.tm 41)) (.op (some 5) (.mov (.cn (.int .i64 0))) .nil)))
def ccCounters : ACode := (.seq cz18_n0 (.seq (.seq cz18_n1 (.seq cz18_n2 cz18_n4)) (.seq cz18_n5 (.seq (.seq cz18_n6 cz18_n14) (.seq cz18_n15 .ret)))))
def RcCounters : Res := .many [.cA 4 32, .tm 5]
theorem ccCounters_fits : fnFits Try.prog 18 2 42 ccCounters RcCounters = true := by kernel_rfl
def GcCounters : Calls' := withP [] [concRight, conbNumber, conbPut]
theorem hGcCounters : CallOk Try.prog GcCounters := withP_ok trivial ⟨scRight, sbNumber.dC, sbPut, trivial⟩
section
variable {w0 : World} {fp : Nat -> Nat -> Prop} {ρi : Rho} {Kf : SVal -> Heap -> Prop}
abbrev Ye0 (x0 : Int) : Env := [(4, some (.ptr ⟨3, 0, 0, 1⟩ 32)), (5, some (.int .i64 x0))]
abbrev Ye1 (x0 : Nat) (x1 : List Int) : Heap := ⟨4, [(0, some ⟨false, [.ints .i64 x0 x1], 0⟩), (3, some ⟨true, [.ints .u8 32 (List.replicate 32 0)], 0⟩)]⟩
abbrev Ye2 (x0 : Int) : Env := [(4, some (.ptr ⟨3, 0, 0, 1⟩ 32)), (6, some (.int .i64 x0))]
theorem rz18_0 (p : PlanV) (c_0 : Int) (c : List Int) (c_n c_c : Nat) (v6 : Int) (Z : Env -> Heap -> Prop) (h : Z (Ye0 v6) (Ye1 c_n c)) : EvC GcCounters cz18_n3 (Ye2 v6) (Ye1 c_n c) [4, 5] [0, 3] Z := EvC.of (by kernel_rfl) h
theorem rtz18_0 (p : PlanV) (c_0 : Int) (c : List Int) (c_n c_c : Nat) (v6 : Int) : RetC RcCounters (Ye0 v6) (Ye1 c_n c) (.tuple [.agg [.ints .u8 32 (List.replicate 32 0)], .int .i64 v6]) := RetC.of (fun Z => by kernel_rfl)
def vz18_0 (p : PlanV) (c_0 : Int) (c : List Int) (c_n c_c : Nat) (v6 : Int) : Prop := ((List.replicate 32 0) = (PlanV.cntL p c_0 c)) /\ (v6 = (PlanV.wrongC p c_0 c))
abbrev Ye3 (x0 : Nat) (x1 : List Int) : Heap := ⟨1, [(0, some ⟨false, [.ints .i64 x0 x1], 0⟩)]⟩
abbrev Ye4 (x0 : SVal -> Heap -> Prop) (x1 : PlanV) (x2 : Int) (x3 : List Int) (x4 : Nat) : Prop := x0 (.tuple [.agg [.ints .u8 32 (PlanV.cntL x1 x2 x3)], .int .i64 (PlanV.wrongC x1 x2 x3)]) ⟨1, [(0, some ⟨false, [.ints .i64 x4 x3], 0⟩)]⟩
theorem pz18_0 (p : PlanV) (c_0 : Int) (c : List Int) (c_n c_c : Nat) (hK : (Ye4 Kf p c_0 c c_n)) (v6 : Int) (h : vz18_0 p c_0 c c_n c_c v6) : SemL Try.prog w0 fp ρi 1 42 [cz18_n3, .ret, (.seq cz18_n5 (.seq (.seq cz18_n6 cz18_n14) (.seq cz18_n15 .ret)))] (Ye2 v6) (Ye1 c_n c) (fnK RcCounters 1 Kf) :=
  L_regE hGcCounters (rz18_0 p c_0 c c_n c_c v6 _ (L_retE (R := RcCounters) (m := 1) (Kf := Kf) (fun _ _ h => h) (rtz18_0 p c_0 c c_n c_c v6) (ret_of0 (Eq.mpr (cg2 (fun (z1 : List Int) (z2 : Int) => Ret0 1 Kf (.tuple [.agg [.ints .u8 32 z1], .int .i64 z2]) (Ye1 c_n c)) h.1 h.2) (ret0_tau [] [0] rfl (by kernel_rfl) rfl (bd_tuple (bdL_cons pbd (bdL_cons pbd bdL_nil))) (hsc pcs heapSub_nil) rfl (by kernel_rfl) (hK))))))
def kkz18_0 (w0 : World) (fp : Nat -> Nat -> Prop) (ρi : Rho) (Kf : SVal -> Heap -> Prop) (p : PlanV) (c_0 : Int) (c : List Int) (c_n c_c : Nat) : Cont := blockK 0 (fun e H => SemL Try.prog w0 fp ρi 1 42 [(.seq cz18_n15 .ret)] e H (fnK RcCounters 1 Kf)) (fnK RcCounters 1 Kf)
def ivz18_1 (p : PlanV) (c_0 : Int) (c : List Int) (c_n c_c : Nat) (v23 : Int) : Int × List Int -> Prop := fun s => match s with | (v24, h3'1) => 0 <= v24 /\ v24 <= (c_n : Int) /\ h3'1 = p.cntF c_0 c v24.toNat
def muz18_1 (p : PlanV) (c_0 : Int) (c : List Int) (c_n c_c : Nat) (v23 : Int) : Int × List Int -> Nat := fun s => match s with | (v24, h3'1) => (((c_n : Int) - v24).toNat)
def liz18_1 (p : PlanV) (c_0 : Int) (c : List Int) (c_n c_c : Nat) (v23 : Int) : Int × List Int -> Env := fun s => match s with | (v24, h3'1) => [(2, some (.ptr ⟨1, 0, 0, 1⟩ 46)), (4, some (.ptr ⟨3, 0, 0, 1⟩ 32)), (22, some (.slice ⟨0, 0, 0, 1⟩ c_n c_c)), (23, some (.int .i64 v23)), (24, some (.int .i64 v24))]
def ljz18_1 (p : PlanV) (c_0 : Int) (c : List Int) (c_n c_c : Nat) (v23 : Int) : Int × List Int -> Heap := fun s => match s with | (v24, h3'1) => ⟨6, [(0, some ⟨false, [.ints .i64 c_n c], 0⟩), (1, some ⟨true, (PlanV.cs p), 0⟩), (3, some ⟨true, [.ints .u8 32 h3'1], 0⟩)]⟩
def kkz18_1 (w0 : World) (fp : Nat -> Nat -> Prop) (ρi : Rho) (Kf : SVal -> Heap -> Prop) (p : PlanV) (c_0 : Int) (c : List Int) (c_n c_c : Nat) (v23 v24 : Int) (h3'1 : List Int) : Cont := loopK 1 (ivz18_1 p c_0 c c_n c_c v23) (muz18_1 p c_0 c c_n c_c v23) (liz18_1 p c_0 c c_n c_c v23) (ljz18_1 p c_0 c c_n c_c v23) (v24, h3'1) (kkz18_0 w0 fp ρi Kf p c_0 c c_n c_c)
abbrev Ye5 (x0 : Nat) (x1 : List Int) (x2 : PlanV) (x3 : List Int) : Heap := ⟨6, [(0, some ⟨false, [.ints .i64 x0 x1], 0⟩), (1, some ⟨true, (PlanV.cs x2), 0⟩), (3, some ⟨true, [.ints .u8 32 x3], 0⟩)]⟩
abbrev Ye6 (x0 x1 : Nat) (x2 x3 : Int) : Env := [(2, some (.ptr ⟨1, 0, 0, 1⟩ 46)), (4, some (.ptr ⟨3, 0, 0, 1⟩ 32)), (22, some (.slice ⟨0, 0, 0, 1⟩ x0 x1)), (23, some (.int .i64 x2)), (24, some (.int .i64 x3))]
theorem rz18_1 (p : PlanV) (c_0 : Int) (c : List Int) (c_n c_c : Nat) (v23 v24 : Int) (h3'2 h3'1 : List Int) (Z : Env -> Heap -> Prop) (h : Z [(2, some (.ptr ⟨1, 0, 0, 1⟩ 46)), (4, some (.ptr ⟨3, 0, 0, 1⟩ 32)), (22, some (.slice ⟨0, 0, 0, 1⟩ c_n c_c)), (23, some (.int .i64 v23)), (24, some (.int .i64 (IntKind.i64.wrap (v24 + 1))))] (Ye5 c_n c p h3'2)) : EvC GcCounters cz18_n12 (Ye6 c_n c_c v23 v24) (Ye5 c_n c p h3'2) [2, 4, 22, 23, 24] [0, 1, 3] Z := EvC.of (by kernel_rfl) h
def vz18_1 (p : PlanV) (c_0 : Int) (c : List Int) (c_n c_c : Nat) (v23 v24 : Int) (h3'2 h3'1 : List Int) : Prop := (0 <= (IntKind.i64.wrap (v24 + 1)) /\ (IntKind.i64.wrap (v24 + 1)) <= (c_n : Int) /\ h3'2 = p.cntF c_0 c (IntKind.i64.wrap (v24 + 1)).toNat) /\ ((((c_n : Int) - (IntKind.i64.wrap (v24 + 1))).toNat) < (((c_n : Int) - v24).toNat))
theorem pz18_1 (p : PlanV) (c_0 : Int) (c : List Int) (c_n c_c : Nat) (hK : (Ye4 Kf p c_0 c c_n)) (v23 v24 : Int) (h3'2 h3'1 : List Int) (h : vz18_1 p c_0 c c_n c_c v23 v24 h3'2 h3'1) : SemL Try.prog w0 fp ρi 1 42 [cz18_n12] (Ye6 c_n c_c v23 v24) (Ye5 c_n c p h3'2) (kkz18_1 w0 fp ρi Kf p c_0 c c_n c_c v23 v24 h3'1) :=
  L_regE hGcCounters (rz18_1 p c_0 c c_n c_c v23 v24 h3'2 h3'1 _ (L_nil (loop_back (x' := ((IntKind.i64.wrap (v24 + 1)), h3'2)) (τ := tau []) h.1 h.2 (sub_tau' [] [0, 1, 3] rfl rfl (esc bpt (esc bpt (esc bsl (esc pbd (esc pbd envSub_nil))))) (hsc pcs (hsc pcs (hsc pcs heapSub_nil))) (by kernel_rfl) rfl))))
def kkz18_2 (w0 : World) (fp : Nat -> Nat -> Prop) (ρi : Rho) (Kf : SVal -> Heap -> Prop) (p : PlanV) (c_0 : Int) (c : List Int) (c_n c_c : Nat) (v23 v24 : Int) (h3'1 : List Int) : Cont := blockK 1 (fun e H => SemL Try.prog w0 fp ρi 1 42 [cz18_n12] e H (kkz18_1 w0 fp ρi Kf p c_0 c c_n c_c v23 v24 h3'1)) (kkz18_1 w0 fp ρi Kf p c_0 c c_n c_c v23 v24 h3'1)
abbrev Ye7 (x0 x1 : Int) (x2 x3 : Nat) (x4 : Int) : Env := [(2, some (.ptr ⟨1, 0, 0, 1⟩ 46)), (4, some (.ptr ⟨3, 0, 0, 1⟩ 32)), (7, some (.int .i64 x0)), (8, some (.int .i64 x1)), (22, some (.slice ⟨0, 0, 0, 1⟩ x2 x3)), (23, some (.int .i64 x4)), (24, some (.int .i64 x0))]
theorem rz18_2 (p : PlanV) (c_0 : Int) (c : List Int) (c_n c_c : Nat) (v24 v8 v23 : Int) (h3'1 : List Int) (Z : Env -> Heap -> Prop) (h : (((32 : Nat) <= 32)) /\ (((32 : Nat) = 32) /\ (List.length (List.take 32 h3'1) = 32 /\ 32 <= 32 /\ 32 <= 1000000 /\ Byt (List.take 32 h3'1) /\ I64 (IntKind.i64.wrap (64 + (IntKind.i64.wrap (v24 * p.minor)))) /\ I64 p.minor /\ 0 <= (IntKind.u64.wrap v8) /\ (IntKind.u64.wrap v8) < 2 ^ 64)) /\ (((32 : Nat) = 32)) /\ (((32 : Nat) <= 32)) /\ ((List.length h3'1 = 32)) /\ ((List.length (putL (List.take 32 h3'1) (IntKind.i64.wrap (64 + (IntKind.i64.wrap (v24 * p.minor)))) p.minor (IntKind.u64.wrap v8)) = 32)) /\ Z (Ye6 c_n c_c v23 v24) ⟨6, [(0, some ⟨false, [.ints .i64 c_n c], 0⟩), (1, some ⟨true, (PlanV.cs p), 0⟩), (3, some ⟨true, [.ints .u8 32 (List.take 0 h3'1 ++ (putL (List.take 32 h3'1) (IntKind.i64.wrap (64 + (IntKind.i64.wrap (v24 * p.minor)))) p.minor (IntKind.u64.wrap v8)) ++ List.drop (0 + 32) h3'1)], 0⟩)]⟩) : EvNC GcCounters cz18_n10m [[], [], [], [1], [], [], [], [], [], [], []] (Ye7 v24 v8 c_n c_c v23) (Ye5 c_n c p h3'1) [2, 4, 22, 23, 24] [0, 1, 3] Z := EvNC.of (by kernel_rfl) h
def vz18_2 (p : PlanV) (c_0 : Int) (c : List Int) (c_n c_c : Nat) (v24 v8 v23 : Int) (h3'1 : List Int) : Prop := ((List.length (List.take 32 h3'1) = 32 /\ 32 <= 32 /\ 32 <= 1000000 /\ Byt (List.take 32 h3'1) /\ I64 (IntKind.i64.wrap (64 + (IntKind.i64.wrap (v24 * p.minor)))) /\ I64 p.minor /\ 0 <= (IntKind.u64.wrap v8) /\ (IntKind.u64.wrap v8) < 2 ^ 64)) /\ (((List.length h3'1 = 32)) /\ (((List.length (putL (List.take 32 h3'1) (IntKind.i64.wrap (64 + (IntKind.i64.wrap (v24 * p.minor)))) p.minor (IntKind.u64.wrap v8)) = 32)) /\ (∀ h3'2 : List Int, h3'2 = (List.take 0 h3'1 ++ (putL (List.take 32 h3'1) (IntKind.i64.wrap (64 + (IntKind.i64.wrap (v24 * p.minor)))) p.minor (IntKind.u64.wrap v8)) ++ List.drop (0 + 32) h3'1) -> vz18_1 p c_0 c c_n c_c v23 v24 h3'2 h3'1)))
theorem pz18_2 (p : PlanV) (c_0 : Int) (c : List Int) (c_n c_c : Nat) (hK : (Ye4 Kf p c_0 c c_n)) (v24 v8 v23 : Int) (h3'1 : List Int) (h : vz18_2 p c_0 c c_n c_c v24 v8 v23 h3'1) : SemL Try.prog w0 fp ρi 1 42 [cz18_n10] (Ye7 v24 v8 c_n c_c v23) (Ye5 c_n c p h3'1) (kkz18_2 w0 fp ρi Kf p c_0 c c_n c_c v23 v24 h3'1) :=
  L_regME hGcCounters (steps := cz18_n10m) (rz18_2 p c_0 c c_n c_c v24 v8 v23 h3'1 _ ⟨(by decide), ⟨⟨rfl, h.1⟩, ⟨rfl, ⟨(by decide), ⟨h.2.1, ⟨h.2.2.1, (L_nil (pz18_1 p c_0 c c_n c_c hK v23 v24 (List.take 0 h3'1 ++ (putL (List.take 32 h3'1) (IntKind.i64.wrap (64 + (IntKind.i64.wrap (v24 * p.minor)))) p.minor (IntKind.u64.wrap v8)) ++ List.drop (0 + 32) h3'1) h3'1 (h.2.2.2 (List.take 0 h3'1 ++ (putL (List.take 32 h3'1) (IntKind.i64.wrap (64 + (IntKind.i64.wrap (v24 * p.minor)))) p.minor (IntKind.u64.wrap v8)) ++ List.drop (0 + 32) h3'1) rfl)))⟩⟩⟩⟩⟩⟩)
theorem rz18_3 (p : PlanV) (c_0 : Int) (c : List Int) (c_n c_c : Nat) (v23 v24 : Int) (h3'1 : List Int) (Z : Env -> Heap -> Prop) (h : ((0 <= v24)) /\ ((v24 < ((c_n : Nat) : Int))) /\ (((0 + (Int.toNat v24)) < c_n)) /\ Z [(2, some (.ptr ⟨1, 0, 0, 1⟩ 46)), (4, some (.ptr ⟨3, 0, 0, 1⟩ 32)), (7, some (.int .i64 v24)), (8, some (.int .i64 (List.getD c (0 + (Int.toNat v24)) 0))), (22, some (.slice ⟨0, 0, 0, 1⟩ c_n c_c)), (23, some (.int .i64 v23)), (24, some (.int .i64 v24))] (Ye5 c_n c p h3'1)) : EvC GcCounters cz18_n9 (Ye6 c_n c_c v23 v24) (Ye5 c_n c p h3'1) [2, 4, 7, 8, 22, 23, 24] [0, 1, 3] Z := EvC.of (by kernel_rfl) h
def vz18_3 (p : PlanV) (c_0 : Int) (c : List Int) (c_n c_c : Nat) (v23 v24 : Int) (h3'1 : List Int) : Prop := ((0 <= v24)) /\ (((v24 < ((c_n : Nat) : Int))) /\ ((((0 + (Int.toNat v24)) < c_n)) /\ (∀ v8 : Int, v8 = (List.getD c (0 + (Int.toNat v24)) 0) -> vz18_2 p c_0 c c_n c_c v24 v8 v23 h3'1)))
theorem pz18_3 (p : PlanV) (c_0 : Int) (c : List Int) (c_n c_c : Nat) (hK : (Ye4 Kf p c_0 c c_n)) (v23 v24 : Int) (h3'1 : List Int) (h : vz18_3 p c_0 c c_n c_c v23 v24 h3'1) : SemL Try.prog w0 fp ρi 1 42 [cz18_n9, cz18_n10] (Ye6 c_n c_c v23 v24) (Ye5 c_n c p h3'1) (kkz18_2 w0 fp ρi Kf p c_0 c c_n c_c v23 v24 h3'1) :=
  L_regE hGcCounters (rz18_3 p c_0 c c_n c_c v23 v24 h3'1 _ ⟨h.1, ⟨h.2.1, ⟨h.2.2.1, (pz18_2 p c_0 c c_n c_c hK v24 (List.getD c (0 + (Int.toNat v24)) 0) v23 h3'1 (h.2.2.2 (List.getD c (0 + (Int.toNat v24)) 0) rfl))⟩⟩⟩)
def vz18_4 (p : PlanV) (c_0 : Int) (c : List Int) (c_n c_c : Nat) (v23 v24 : Int) (h3'1 : List Int) : Prop := vz18_3 p c_0 c c_n c_c v23 v24 h3'1
theorem pz18_4 (p : PlanV) (c_0 : Int) (c : List Int) (c_n c_c : Nat) (hK : (Ye4 Kf p c_0 c c_n)) (v23 v24 : Int) (h3'1 : List Int) (h : vz18_4 p c_0 c c_n c_c v23 v24 h3'1) : SemL Try.prog w0 fp ρi 1 42 [cz18_n11, cz18_n12] (Ye6 c_n c_c v23 v24) (Ye5 c_n c p h3'1) (kkz18_1 w0 fp ρi Kf p c_0 c c_n c_c v23 v24 h3'1) :=
  L_block (L_seq (pz18_3 p c_0 c c_n c_c hK v23 v24 h3'1 h))
abbrev Ye8 : Env := [(4, some (.ptr ⟨3, 0, 0, 1⟩ 32)), (5, some (.int .i64 0))]
abbrev Ye9 (x0 : Nat) (x1 x2 : List Int) : Heap := ⟨6, [(0, some ⟨false, [.ints .i64 x0 x1], 0⟩), (3, some ⟨true, [.ints .u8 32 x2], 0⟩)]⟩
theorem rz18_5 (p : PlanV) (c_0 : Int) (c : List Int) (c_n c_c : Nat) (h3'1 : List Int) (Z : Env -> Heap -> Prop) (h : Z Ye8 (Ye9 c_n c h3'1)) : EvC GcCounters cz18_n15 [(4, some (.ptr ⟨3, 0, 0, 1⟩ 32))] (Ye9 c_n c h3'1) [4, 5] [0, 3] Z := EvC.of (by kernel_rfl) h
theorem rtz18_1 (p : PlanV) (c_0 : Int) (c : List Int) (c_n c_c : Nat) (h3'1 : List Int) : RetC RcCounters Ye8 (Ye9 c_n c h3'1) (.tuple [.agg [.ints .u8 32 h3'1], .int .i64 0]) := RetC.of (fun Z => by kernel_rfl)
def vz18_5 (p : PlanV) (c_0 : Int) (c : List Int) (c_n c_c : Nat) (h3'1 : List Int) : Prop := (h3'1 = (PlanV.cntL p c_0 c)) /\ (0 = (PlanV.wrongC p c_0 c))
theorem pz18_5 (p : PlanV) (c_0 : Int) (c : List Int) (c_n c_c : Nat) (hK : (Ye4 Kf p c_0 c c_n)) (h3'1 : List Int) (h : vz18_5 p c_0 c c_n c_c h3'1) : SemL Try.prog w0 fp ρi 1 42 [cz18_n15, .ret] [(4, some (.ptr ⟨3, 0, 0, 1⟩ 32))] (Ye9 c_n c h3'1) (fnK RcCounters 1 Kf) :=
  L_regE hGcCounters (rz18_5 p c_0 c c_n c_c h3'1 _ (L_retE (R := RcCounters) (m := 1) (Kf := Kf) (fun _ _ h => h) (rtz18_1 p c_0 c c_n c_c h3'1) (ret_of0 (Eq.mpr (cg2 (fun (z1 : List Int) (z2 : Int) => Ret0 1 Kf (.tuple [.agg [.ints .u8 32 z1], .int .i64 z2]) (Ye9 c_n c h3'1)) h.1 h.2) (ret0_tau [] [0] rfl (by kernel_rfl) rfl (bd_tuple (bdL_cons pbd (bdL_cons pbd bdL_nil))) (hsc pcs heapSub_nil) rfl (by kernel_rfl) (hK))))))
def vz18_6 (p : PlanV) (c_0 : Int) (c : List Int) (c_n c_c : Nat) (v23 v24 : Int) (h3'1 : List Int) : Prop := ((decide (v24 < v23)) = true -> (vz18_4 p c_0 c c_n c_c v23 v24 h3'1)) /\ ((decide (v24 < v23)) = false -> (vz18_5 p c_0 c c_n c_c h3'1))
abbrev Ye10 (x0 x1 : Nat) (x2 x3 : Int) : Env := [(2, some (.ptr ⟨1, 0, 0, 1⟩ 46)), (4, some (.ptr ⟨3, 0, 0, 1⟩ 32)), (22, some (.slice ⟨0, 0, 0, 1⟩ x0 x1)), (23, some (.int .i64 x2)), (24, some (.int .i64 x3)), (25, some (.bool (decide (x3 < x2))))]
theorem pz18_6 (p : PlanV) (c_0 : Int) (c : List Int) (c_n c_c : Nat) (hK : (Ye4 Kf p c_0 c c_n)) (v23 v24 : Int) (h3'1 : List Int) (h : vz18_6 p c_0 c c_n c_c v23 v24 h3'1) : SemL Try.prog w0 fp ρi 1 42 [cz18_n8, (.seq cz18_n11 cz18_n12)] (Ye10 c_n c_c v23 v24) (Ye5 c_n c p h3'1) (kkz18_1 w0 fp ρi Kf p c_0 c c_n c_c v23 v24 h3'1) :=
  L_cond (q := (decide (v24 < v23))) (by kernel_rfl) (fun hq => (L_skip (lpk [2, 4, 22, 23, 24] [0, 1, 3] (L_seq (pz18_4 p c_0 c c_n c_c hK v23 v24 h3'1 (h.1 hq)))))) (fun hq => (L_exit (lpk [4] [0, 3] (L_seq (pz18_5 p c_0 c c_n c_c hK h3'1 (h.2 hq))))))
theorem rz18_7 (p : PlanV) (c_0 : Int) (c : List Int) (c_n c_c : Nat) (v23 v24 : Int) (h3'1 : List Int) (Z : Env -> Heap -> Prop) (h : Z (Ye10 c_n c_c v23 v24) (Ye5 c_n c p h3'1)) : EvC GcCounters cz18_n7 (Ye6 c_n c_c v23 v24) (Ye5 c_n c p h3'1) [2, 4, 22, 23, 24, 25] [0, 1, 3] Z := EvC.of (by kernel_rfl) h
def vz18_7 (p : PlanV) (c_0 : Int) (c : List Int) (c_n c_c : Nat) (v23 v24 : Int) (h3'1 : List Int) : Prop := vz18_6 p c_0 c c_n c_c v23 v24 h3'1
theorem pz18_7 (p : PlanV) (c_0 : Int) (c : List Int) (c_n c_c : Nat) (hK : (Ye4 Kf p c_0 c c_n)) (v23 v24 : Int) (h3'1 : List Int) (h : vz18_7 p c_0 c c_n c_c v23 v24 h3'1) : SemL Try.prog w0 fp ρi 1 42 [cz18_n7, (.seq cz18_n8 (.seq cz18_n11 cz18_n12))] (Ye6 c_n c_c v23 v24) (Ye5 c_n c p h3'1) (kkz18_1 w0 fp ρi Kf p c_0 c c_n c_c v23 v24 h3'1) :=
  L_regE hGcCounters (rz18_7 p c_0 c c_n c_c v23 v24 h3'1 _ (L_seq (pz18_6 p c_0 c c_n c_c hK v23 v24 h3'1 h)))
def vz18_8 (p : PlanV) (c_0 : Int) (c : List Int) (c_n c_c : Nat) (v23 : Int) (h3 : List Int) : Prop := (0 <= (0 : Int) /\ (0 : Int) <= (c_n : Int) /\ h3 = p.cntF c_0 c (0 : Int).toNat) /\ (∀ (v24 : Int) (h3'1 : List Int), (0 <= v24 /\ v24 <= (c_n : Int) /\ h3'1 = p.cntF c_0 c v24.toNat) -> (vz18_7 p c_0 c c_n c_c v23 v24 h3'1))
abbrev Ye11 (x0 x1 : Nat) (x2 : Int) : Env := [(2, some (.ptr ⟨1, 0, 0, 1⟩ 46)), (4, some (.ptr ⟨3, 0, 0, 1⟩ 32)), (22, some (.slice ⟨0, 0, 0, 1⟩ x0 x1)), (23, some (.int .i64 x2)), (24, some (.int .i64 0))]
theorem pz18_8 (p : PlanV) (c_0 : Int) (c : List Int) (c_n c_c : Nat) (hK : (Ye4 Kf p c_0 c c_n)) (v23 : Int) (h3 : List Int) (h : vz18_8 p c_0 c c_n c_c v23 h3) : SemL Try.prog w0 fp ρi 1 42 [cz18_n13] (Ye11 c_n c_c v23) (Ye5 c_n c p h3) (kkz18_0 w0 fp ρi Kf p c_0 c c_n c_c) :=
  L_loop (ivz18_1 p c_0 c c_n c_c v23) (muz18_1 p c_0 c c_n c_c v23) (liz18_1 p c_0 c c_n c_c v23) (ljz18_1 p c_0 c c_n c_c v23) ⟨(0, h3), tau [], h.1, (sub_tau' [] [0, 1, 3] rfl rfl (esc bpt (esc bpt (esc bsl (esc pbd (esc pbd envSub_nil))))) (hsc pcs (hsc pcs (hsc pcs heapSub_nil))) (by kernel_rfl) rfl)⟩ (fun s => match s with | (v24, h3'1) => fun hi => (L_seq (pz18_7 p c_0 c c_n c_c hK v23 v24 h3'1 (h.2 v24 h3'1 hi))))
def vz18_9 (p : PlanV) (c_0 : Int) (c : List Int) (c_n c_c : Nat) (v23 : Int) (h3 : List Int) : Prop := vz18_8 p c_0 c c_n c_c v23 h3
theorem pz18_9 (p : PlanV) (c_0 : Int) (c : List Int) (c_n c_c : Nat) (hK : (Ye4 Kf p c_0 c c_n)) (v23 : Int) (h3 : List Int) (h : vz18_9 p c_0 c c_n c_c v23 h3) : SemL Try.prog w0 fp ρi 1 42 [cz18_n14, (.seq cz18_n15 .ret)] (Ye11 c_n c_c v23) (Ye5 c_n c p h3) (fnK RcCounters 1 Kf) :=
  L_block (pz18_8 p c_0 c c_n c_c hK v23 h3 h)
abbrev Ye12 : Env := [(2, some (.ptr ⟨1, 0, 0, 1⟩ 46)), (3, some (.ptr ⟨2, 0, 0, 1⟩ 2)), (4, some (.ptr ⟨3, 0, 0, 1⟩ 32))]
abbrev Ye13 (x0 : Nat) (x1 : List Int) (x2 : PlanV) (x3 : Int) (x4 : Nat) (x5 : List Int) : Heap := ⟨6, [(0, some ⟨false, [.ints .i64 x0 x1], 0⟩), (1, some ⟨true, (PlanV.cs x2), 0⟩), (2, some ⟨true, [.one (.int .u64 x3), .one (.slice ⟨0, 0, 0, 1⟩ x0 x4)], 0⟩), (3, some ⟨true, [.ints .u8 32 x5], 0⟩)]⟩
theorem rz18_10 (p : PlanV) (c_0 : Int) (c : List Int) (c_n c_c : Nat) (h3 : List Int) (Z : Env -> Heap -> Prop) (h : Z [(2, some (.ptr ⟨1, 0, 0, 1⟩ 46)), (4, some (.ptr ⟨3, 0, 0, 1⟩ 32)), (22, some (.slice ⟨0, 0, 0, 1⟩ c_n c_c)), (23, some (.int .i64 ((c_n : Nat) : Int))), (24, some (.int .i64 0))] (Ye5 c_n c p h3)) : EvC GcCounters cz18_n6 Ye12 (Ye13 c_n c p c_0 c_c h3) [2, 4, 22, 23, 24] [0, 1, 3] Z := EvC.of (by kernel_rfl) h
def vz18_10 (p : PlanV) (c_0 : Int) (c : List Int) (c_n c_c : Nat) (h3 : List Int) : Prop := ∀ v23 : Int, v23 = ((c_n : Nat) : Int) -> vz18_9 p c_0 c c_n c_c v23 h3
theorem pz18_10 (p : PlanV) (c_0 : Int) (c : List Int) (c_n c_c : Nat) (hK : (Ye4 Kf p c_0 c c_n)) (h3 : List Int) (h : vz18_10 p c_0 c c_n c_c h3) : SemL Try.prog w0 fp ρi 1 42 [cz18_n6, cz18_n14, (.seq cz18_n15 .ret)] Ye12 (Ye13 c_n c p c_0 c_c h3) (fnK RcCounters 1 Kf) :=
  L_regE hGcCounters (rz18_10 p c_0 c c_n c_c h3 _ (pz18_9 p c_0 c c_n c_c hK ((c_n : Nat) : Int) h3 (h ((c_n : Nat) : Int) rfl)))
abbrev Ye14 (x0 : Nat) (x1 : List Int) (x2 : PlanV) (x3 : Int) (x4 : Nat) : Heap := ⟨4, [(0, some ⟨false, [.ints .i64 x0 x1], 0⟩), (1, some ⟨true, (PlanV.cs x2), 0⟩), (2, some ⟨true, [.one (.int .u64 x3), .one (.slice ⟨0, 0, 0, 1⟩ x0 x4)], 0⟩), (3, some ⟨true, [.ints .u8 32 (List.replicate 32 0)], 0⟩)]⟩
theorem rz18_11 (p : PlanV) (c_0 : Int) (c : List Int) (c_n c_c : Nat) (Z : Env -> Heap -> Prop) (h : (((0 : Nat) <= 0)) /\ (((0 : Nat) = 0)) /\ ((List.length ([] : List Int) = 0 /\ 0 <= 1000000 /\ 0 <= c_0 /\ c_0 < 2 ^ 64)) /\ ∀ (c'1 : Nat), (0 + Int.toNat (min (8 : Int) 64)) <= c'1 -> ((keeps ⟨6, [(0, some ⟨false, [.ints .i64 c_n c], 0⟩), (1, some ⟨true, (PlanV.cs p), 0⟩), (2, some ⟨true, [.one (.int .u64 c_0), .one (.slice ⟨0, 0, 0, 1⟩ c_n c_c)], 0⟩), (3, some ⟨true, [.ints .u8 32 (List.replicate 32 0)], 0⟩), (4, some ⟨true, [.ints .u8 0 ([] : List Int)], 0⟩), (5, some ⟨true, [.ints .u8 (0 + Int.toNat (min (8 : Int) 64)) (numB c_0 (Int.toNat (min (8 : Int) 64)))], (c'1 - (0 + Int.toNat (min (8 : Int) 64)))⟩)]⟩ (Heap.keep (Ye14 c_n c p c_0 c_c) [2]) (pickH [2] (Ye14 c_n c p c_0 c_c)))) /\ (((0 + (0 + Int.toNat (min (8 : Int) 64))) <= (0 + Int.toNat (min (8 : Int) 64)))) /\ (((min (0 + Int.toNat (min (8 : Int) 64)) 32) = (min (0 + Int.toNat (min (8 : Int) 64)) 32))) /\ (((0 + (min (0 + Int.toNat (min (8 : Int) 64)) 32)) <= 32)) /\ ((List.length ((List.replicate 32 0) : List Int) = 32)) /\ ((List.length (List.take (min (0 + Int.toNat (min (8 : Int) 64)) 32) (List.take (0 + Int.toNat (min (8 : Int) 64)) (numB c_0 (Int.toNat (min (8 : Int) 64))))) = (min (0 + Int.toNat (min (8 : Int) 64)) 32))) /\ Z Ye12 ⟨6, [(0, some ⟨false, [.ints .i64 c_n c], 0⟩), (1, some ⟨true, (PlanV.cs p), 0⟩), (2, some ⟨true, [.one (.int .u64 c_0), .one (.slice ⟨0, 0, 0, 1⟩ c_n c_c)], 0⟩), (3, some ⟨true, [.ints .u8 32 (List.take 0 (List.replicate 32 0) ++ (List.take (min (0 + Int.toNat (min (8 : Int) 64)) 32) (List.take (0 + Int.toNat (min (8 : Int) 64)) (numB c_0 (Int.toNat (min (8 : Int) 64))))) ++ List.drop (0 + (min (0 + Int.toNat (min (8 : Int) 64)) 32)) (List.replicate 32 0))], 0⟩)]⟩) : EvNC GcCounters cz18_n5m [[], [], [2], [], []] Ye12 (Ye14 c_n c p c_0 c_c) [2, 3, 4] [0, 1, 2, 3] Z := EvNC.of (by kernel_rfl) h
def vz18_11 (p : PlanV) (c_0 : Int) (c : List Int) (c_n c_c : Nat) : Prop := ((List.length ([] : List Int) = 0 /\ 0 <= 1000000 /\ 0 <= c_0 /\ c_0 < 2 ^ 64)) /\ (∀ (c'1 : Nat), ((0 + Int.toNat (min (8 : Int) 64)) <= c'1) -> ((((0 + (0 + Int.toNat (min (8 : Int) 64))) <= (0 + Int.toNat (min (8 : Int) 64)))) /\ ((((0 + (min (0 + Int.toNat (min (8 : Int) 64)) 32)) <= 32)) /\ (((List.length (List.take (min (0 + Int.toNat (min (8 : Int) 64)) 32) (List.take (0 + Int.toNat (min (8 : Int) 64)) (numB c_0 (Int.toNat (min (8 : Int) 64))))) = (min (0 + Int.toNat (min (8 : Int) 64)) 32))) /\ (∀ h3 : List Int, h3 = (List.take 0 (List.replicate 32 0) ++ (List.take (min (0 + Int.toNat (min (8 : Int) 64)) 32) (List.take (0 + Int.toNat (min (8 : Int) 64)) (numB c_0 (Int.toNat (min (8 : Int) 64))))) ++ List.drop (0 + (min (0 + Int.toNat (min (8 : Int) 64)) 32)) (List.replicate 32 0)) -> vz18_10 p c_0 c c_n c_c h3)))))
theorem pz18_11 (p : PlanV) (c_0 : Int) (c : List Int) (c_n c_c : Nat) (hK : (Ye4 Kf p c_0 c c_n)) (h : vz18_11 p c_0 c c_n c_c) : SemL Try.prog w0 fp ρi 1 42 [cz18_n5, (.seq (.seq cz18_n6 cz18_n14) (.seq cz18_n15 .ret))] Ye12 (Ye14 c_n c p c_0 c_c) (fnK RcCounters 1 Kf) :=
  L_regME hGcCounters (steps := cz18_n5m) (rz18_11 p c_0 c c_n c_c _ ⟨(by decide), ⟨rfl, ⟨h.1, (fun c'1 h_c_1_0 => ⟨(keepsG_ids (by kernel_rfl)), ⟨(h.2 c'1 h_c_1_0).1, ⟨rfl, ⟨(h.2 c'1 h_c_1_0).2.1, ⟨(by simp), ⟨(h.2 c'1 h_c_1_0).2.2.1, (L_seq (L_seq (pz18_10 p c_0 c c_n c_c hK (List.take 0 (List.replicate 32 0) ++ (List.take (min (0 + Int.toNat (min (8 : Int) 64)) 32) (List.take (0 + Int.toNat (min (8 : Int) 64)) (numB c_0 (Int.toNat (min (8 : Int) 64))))) ++ List.drop (0 + (min (0 + Int.toNat (min (8 : Int) 64)) 32)) (List.replicate 32 0)) ((h.2 c'1 h_c_1_0).2.2.2 (List.take 0 (List.replicate 32 0) ++ (List.take (min (0 + Int.toNat (min (8 : Int) 64)) 32) (List.take (0 + Int.toNat (min (8 : Int) 64)) (numB c_0 (Int.toNat (min (8 : Int) 64))))) ++ List.drop (0 + (min (0 + Int.toNat (min (8 : Int) 64)) 32)) (List.replicate 32 0)) rfl))))⟩⟩⟩⟩⟩⟩)⟩⟩⟩)
def vz18_12 (p : PlanV) (c_0 : Int) (c : List Int) (c_n c_c : Nat) (v6 : Int) : Prop := ((v6 != 0) = true -> (vz18_0 p c_0 c c_n c_c v6)) /\ ((v6 != 0) = false -> (vz18_11 p c_0 c c_n c_c))
abbrev Ye15 (x0 : Int) : Env := [(2, some (.ptr ⟨1, 0, 0, 1⟩ 46)), (3, some (.ptr ⟨2, 0, 0, 1⟩ 2)), (4, some (.ptr ⟨3, 0, 0, 1⟩ 32)), (6, some (.int .i64 x0)), (13, some (.bool (x0 != 0)))]
theorem pz18_12 (p : PlanV) (c_0 : Int) (c : List Int) (c_n c_c : Nat) (hK : (Ye4 Kf p c_0 c c_n)) (v6 : Int) (h : vz18_12 p c_0 c c_n c_c v6) : SemL Try.prog w0 fp ρi 1 42 [cz18_n4, (.seq cz18_n5 (.seq (.seq cz18_n6 cz18_n14) (.seq cz18_n15 .ret)))] (Ye15 v6) (Ye14 c_n c p c_0 c_c) (fnK RcCounters 1 Kf) :=
  L_cond (q := (v6 != 0)) (by kernel_rfl) (fun hq => (L_seq (lpk [4, 6] [0, 3] (pz18_0 p c_0 c c_n c_c hK v6 (h.1 hq))))) (fun hq => (L_skip (lpk [2, 3, 4] [0, 1, 2, 3] (L_seq (pz18_11 p c_0 c c_n c_c hK (h.2 hq))))))
abbrev Ye16 (x0 : Int) : Env := [(2, some (.ptr ⟨1, 0, 0, 1⟩ 46)), (3, some (.ptr ⟨2, 0, 0, 1⟩ 2)), (4, some (.ptr ⟨3, 0, 0, 1⟩ 32)), (6, some (.int .i64 x0))]
theorem rz18_13 (p : PlanV) (c_0 : Int) (c : List Int) (c_n c_c : Nat) (v6 : Int) (Z : Env -> Heap -> Prop) (h : Z (Ye15 v6) (Ye14 c_n c p c_0 c_c)) : EvC GcCounters cz18_n2 (Ye16 v6) (Ye14 c_n c p c_0 c_c) [2, 3, 4, 6, 13] [0, 1, 2, 3] Z := EvC.of (by kernel_rfl) h
def vz18_13 (p : PlanV) (c_0 : Int) (c : List Int) (c_n c_c : Nat) (v6 : Int) : Prop := vz18_12 p c_0 c c_n c_c v6
theorem pz18_13 (p : PlanV) (c_0 : Int) (c : List Int) (c_n c_c : Nat) (hK : (Ye4 Kf p c_0 c c_n)) (v6 : Int) (h : vz18_13 p c_0 c c_n c_c v6) : SemL Try.prog w0 fp ρi 1 42 [cz18_n2, cz18_n4, (.seq cz18_n5 (.seq (.seq cz18_n6 cz18_n14) (.seq cz18_n15 .ret)))] (Ye16 v6) (Ye14 c_n c p c_0 c_c) (fnK RcCounters 1 Kf) :=
  L_regE hGcCounters (rz18_13 p c_0 c c_n c_c v6 _ (pz18_12 p c_0 c c_n c_c hK v6 h))
theorem rz18_14 (p : PlanV) (c_0 : Int) (c : List Int) (c_n c_c : Nat) (Z : Env -> Heap -> Prop) (h : (((0 + c_n) <= c_n)) /\ (((c_n : Nat) = c_n) /\ (List.length (List.take c_n c) = c_n /\ c_n <= c_c /\ c_n <= 1000000)) /\ Z [(2, some (.ptr ⟨1, 0, 0, 1⟩ 46)), (3, some (.ptr ⟨2, 0, 0, 1⟩ 2)), (4, some (.ptr ⟨3, 0, 0, 1⟩ 32)), (6, some (.int .i64 (PlanV.wrongC p c_0 (List.take c_n c))))] (Ye14 c_n c p c_0 c_c)) : EvC GcCounters cz18_n1 Ye12 (Ye14 c_n c p c_0 c_c) [2, 3, 4, 6] [0, 1, 2, 3] Z := EvC.of (by kernel_rfl) h
def vz18_14 (p : PlanV) (c_0 : Int) (c : List Int) (c_n c_c : Nat) : Prop := (((0 + c_n) <= c_n)) /\ (((List.length (List.take c_n c) = c_n /\ c_n <= c_c /\ c_n <= 1000000)) /\ (∀ v6 : Int, v6 = (PlanV.wrongC p c_0 (List.take c_n c)) -> vz18_13 p c_0 c c_n c_c v6))
theorem pz18_14 (p : PlanV) (c_0 : Int) (c : List Int) (c_n c_c : Nat) (hK : (Ye4 Kf p c_0 c c_n)) (h : vz18_14 p c_0 c c_n c_c) : SemL Try.prog w0 fp ρi 1 42 [cz18_n1, (.seq cz18_n2 cz18_n4), (.seq cz18_n5 (.seq (.seq cz18_n6 cz18_n14) (.seq cz18_n15 .ret)))] Ye12 (Ye14 c_n c p c_0 c_c) (fnK RcCounters 1 Kf) :=
  L_regE hGcCounters (rz18_14 p c_0 c c_n c_c _ ⟨h.1, ⟨⟨rfl, h.2.1⟩, (L_seq (pz18_13 p c_0 c c_n c_c hK (PlanV.wrongC p c_0 (List.take c_n c)) (h.2.2 (PlanV.wrongC p c_0 (List.take c_n c)) rfl)))⟩⟩)
abbrev Ye17 (x0 : PlanV) (x1 : Int) (x2 x3 : Nat) : Env := [(0, some (.agg (PlanV.cs x0))), (1, some (.agg [.one (.int .u64 x1), .one (.slice ⟨0, 0, 0, 1⟩ x2 x3)]))]
theorem rz18_15 (p : PlanV) (c_0 : Int) (c : List Int) (c_n c_c : Nat) (Z : Env -> Heap -> Prop) (h : Z Ye12 (Ye14 c_n c p c_0 c_c)) : EvC GcCounters cz18_n0 (Ye17 p c_0 c_n c_c) (Ye3 c_n c) [2, 3, 4] [0, 1, 2, 3] Z := EvC.of (by kernel_rfl) h
def vz18_15 (p : PlanV) (c_0 : Int) (c : List Int) (c_n c_c : Nat) : Prop := vz18_14 p c_0 c c_n c_c
theorem pz18_15 (p : PlanV) (c_0 : Int) (c : List Int) (c_n c_c : Nat) (hK : (Ye4 Kf p c_0 c c_n)) (h : vz18_15 p c_0 c c_n c_c) : SemL Try.prog w0 fp ρi 1 42 [cz18_n0, (.seq (.seq cz18_n1 (.seq cz18_n2 cz18_n4)) (.seq cz18_n5 (.seq (.seq cz18_n6 cz18_n14) (.seq cz18_n15 .ret))))] (Ye17 p c_0 c_n c_c) (Ye3 c_n c) (fnK RcCounters 1 Kf) :=
  L_regE hGcCounters (rz18_15 p c_0 c c_n c_c _ (L_seq (L_seq (pz18_14 p c_0 c c_n c_c hK h))))
def vccCounters (p : PlanV) (c_0 : Int) (c : List Int) (c_n c_c : Nat) : Prop := vz18_15 p c_0 c c_n c_c
theorem wcCounters (p : PlanV) (c_0 : Int) (c : List Int) (c_n c_c : Nat) (hK : (Ye4 Kf p c_0 c c_n)) (h : vccCounters p c_0 c c_n c_c) : SemL Try.prog w0 fp ρi 1 42 [ccCounters] (Ye17 p c_0 c_n c_c) (Ye3 c_n c) (fnK RcCounters 1 Kf) :=
  (L_seq (pz18_15 p c_0 c c_n c_c hK h))
end
theorem okcCounters (p : PlanV) (c_0 : Int) (c : List Int) (c_n c_c : Nat) (hpre : (List.length c = c_n /\ c_n <= c_c /\ c_n <= 1000000 /\ 0 <= c_0 /\ c_0 < 2 ^ 64)) : vccCounters p c_0 c c_n c_c := by
  unfold vccCounters vz18_15 vz18_14 vz18_13 vz18_12 vz18_11 vz18_10 vz18_9 vz18_8 vz18_7 vz18_6 vz18_5 vz18_4 vz18_3 vz18_2 vz18_1 vz18_0
  obtain ⟨hl, hc, hl2, hm, hm2⟩ := hpre
  have ht : List.take c_n c = c := List.take_of_length_le (by omega)
  rw [ht]
  refine ⟨by omega, ⟨hl, hc, hl2⟩, ?_⟩
  rintro v6 rfl
  refine ⟨fun hw => ⟨?_, rfl⟩, fun hw => ⟨⟨rfl, by omega, hm, hm2⟩, fun k hk => ⟨by omega, by omega, by simp [numB_length], ?_⟩⟩⟩
  · unfold PlanV.cntL; rw [if_neg (by simpa using hw)]
  have hw : p.wrongC c_0 c = 0 := by simpa using hw
  obtain ⟨hr, hmj, hln, hel⟩ := PlanV.wrongC_zero hw
  have hrf := PlanV.right_facts hr
  have htop := PlanV.pow_minor hr
  rintro h3 e3 v23 rfl
  have e4 : h3 = p.cntF c_0 c 0 := by
    rw [e3]
    have : (min (8 : Int) 64).toNat = 8 := by decide
    rw [this, show min (0 + 8) 32 = 8 by decide, List.take_zero, List.nil_append, List.take_of_length_le (l := numB c_0 8) (by simp [numB_length]), List.take_of_length_le (l := numB c_0 8) (by simp [numB_length])]
    rfl
  refine ⟨⟨by omega, by omega, e4⟩, ?_⟩
  rintro i y ⟨h0, h1, rfl⟩
  refine ⟨fun hlt => ?_, fun hge => ?_⟩
  · have hlt := of_decide_eq_true hlt
    have e1 : IntKind.i64.wrap (i + 1) = i + 1 := by rw [wi64]; omega
    have e2 : (i + 1).toNat = i.toNat + 1 := by omega
    have hi := hel i.toNat (by omega)
    have hlen := PlanV.cntF_length p c_0 c i.toNat
    have htk : List.take 32 (p.cntF c_0 c i.toNat) = p.cntF c_0 c i.toNat := List.take_of_length_le (by omega)
    have him : 0 <= i * p.minor /\ i * p.minor <= 64 := by
      have h8 : i <= 7 := by omega
      refine ⟨Int.mul_nonneg h0 (by omega), ?_⟩
      have := Int.mul_le_mul (c := (7 : Int)) (d := 8) (a := i) (b := p.minor) (by omega) (by omega) (by omega) (by omega)
      omega
    have e5 : IntKind.i64.wrap (i * p.minor) = i * p.minor := by rw [wi64]; omega
    have e6 : IntKind.i64.wrap (64 + i * p.minor) = 64 + i * p.minor := by rw [wi64]; omega
    rw [Nat.zero_add]
    refine ⟨h0, by omega, by omega, ?_⟩
    rintro v8 rfl
    have hv : IntKind.u64.wrap (c.getD i.toNat 0) = c.getD i.toNat 0 := by rw [wrap_u64]; unfold PlanV.top at hi; omega
    rw [e5, e6, htk, hv]
    unfold PlanV.top at hi
    have e7 : 64 + ((i.toNat : Nat) : Int) * p.minor = 64 + i * p.minor := by rw [show ((i.toNat : Nat) : Int) = i by omega]
    refine ⟨⟨hlen, by omega, by omega, PlanV.cntF_byt _ _ _ _, by unfold I64; omega, by unfold I64; omega, by omega, by omega⟩, hlen, by rw [putL_length]; exact hlen, ?_⟩
    rintro _ rfl
    rw [e1, e2, PlanV.cntF, e7]
    refine ⟨⟨by omega, by omega, ?_⟩, by omega⟩
    rw [List.take_zero, List.nil_append, List.drop_of_length_le (by omega), List.append_nil]
  · have hge := of_decide_eq_false hge
    obtain rfl : i = (c_n : Int) := by omega
    unfold PlanV.cntL
    rw [if_pos hw, hl]
    exact ⟨rfl, hw.symm⟩
theorem scCounters : Sound Try.prog 18 (gS DcCounters) := by
  refine fn_soundA ccCounters_fits ?_
  intro args H K h
  obtain ⟨pre, out, hD, hpre, hK⟩ := gS_inv h
  unfold DcCounters at hD
  split at hD
  · obtain ⟨hb, hD⟩ := bif_some hD
    simp only [Bool.and_eq_true] at hb
    obtain ⟨h0, h1⟩ := hb
    obtain rfl := Nat.eq_of_beq_eq_true h0
    obtain rfl := Nat.eq_of_beq_eq_true h1
    cases hD
    obtain ⟨rfl, hpre⟩ := hpre
    exact ⟨rfl, fun w0 fp ρi => wcCounters (PlanV.mk _ _ _ _ _ _ _ _ _ _ _ _ _ _ _ _) _ _ _ _ hK (okcCounters (PlanV.mk _ _ _ _ _ _ _ _ _ _ _ _ _ _ _ _) _ _ _ _ hpre)⟩
  · cases hD
end Go.Proofs.Ytggpebgigddogaa
