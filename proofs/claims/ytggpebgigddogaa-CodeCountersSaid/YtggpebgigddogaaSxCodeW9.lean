/- Part of the proof: SxCodeW9. -/
import Derived.Test.YtggpebgigddogaaSxCodeW8
import Derived.KernelRfl
set_option linter.unusedVariables false
set_option linter.unusedSimpArgs false
namespace Go.Proofs.Ytggpebgigddogaa
open Go.Sx
def Dq7Counters : GSpec := fun args H => match args, H with
  | [.agg [.one (.int .i64 p_0), .one (.int .i64 p_1), .one (.int .i64 p_2), .one (.int .i64 p_3), .one (.int .i64 p_4), .one (.int .i64 p_5), .one (.int .u64 p_6), .one (.int .i64 p_7), .one (.int .i64 p_8), .one (.int .i64 p_9), .one (.int .i64 p_10), .one (.int .i64 p_11), .one (.int .i64 p_12), .one (.int .i64 p_13), .ints .u8 p_14_n p_14, .ints .u8 p_15_n p_15], .agg [.one (.int .u64 c_0), .one (.slice ⟨0, 0, 0, 1⟩ c_n c_c)]], ⟨1, [(0, some ⟨false, [.ints .i64 c_m c], 0⟩)]⟩ => bif Nat.beq p_14_n 16 && Nat.beq p_15_n 16 then some (c_m = c_n /\ (List.length c = c_n /\ c_n <= c_c /\ c_n <= 1000000 /\ 0 <= c_0 /\ c_0 < 2 ^ 64 /\ PlanV.wrongC (PlanV.mk p_0 p_1 p_2 p_3 p_4 p_5 p_6 p_7 p_8 p_9 p_10 p_11 p_12 p_13 p_14 p_15) c_0 c = 0), fun K => K (.agg [.ints .u8 32 (PlanV.cntL (PlanV.mk p_0 p_1 p_2 p_3 p_4 p_5 p_6 p_7 p_8 p_9 p_10 p_11 p_12 p_13 p_14 p_15) c_0 c)]) ⟨1, [(0, some ⟨false, [.ints .i64 c_n c], 0⟩)]⟩) else none
  | _, _ => none
def conq7Counters : Con := ⟨34, gS Dq7Counters, [], [], []⟩
def cz34_n0 : ACode := .reg (.op (some 2) (.box (.tm 0)) (.op (some 3) (.box (.tm 1)) (.op (some 4) (.alloc [.ints .u8 32 (List.replicate 32 0)]) .nil)))
def cz34_n1 : ACode := .reg (.op (some 7) (.bslice .u8 0 []) (.op (some 8) (.fieldAddr (.tm 3) 0 1) (.op (some 9) (.load1 (.tm 8)) (.op (some 10) (.call 54 [(.tm 7), (.tm 9), (.cn (.int .i64 8))]) (.op (some 5) (.mov (.tm 10)) .nil)))))
def cz34_n2 : ACode := .reg (.op (some 11) (.mov (.tm 5)) (.op (some 12) (.call 54 [(.tm 11), (.cn (.int .u64 0)), (.cn (.int .i64 24))]) (.op (some 5) (.mov (.tm 12)) .nil)))
def cz34_n3 : ACode := .reg (.op (some 6) (.mov (.cn (.int .i64 0))) .nil)
def cz34_n4 : ACode := .reg (.op (some 13) (.mov (.tm 6)) (.op (some 14) (.fieldAddr (.tm 2) 3 1) (.op (some 15) (.load1 (.tm 14)) (.op (some 16) (.bin .lss (.tm 13) (.tm 15)) .nil))))
def cz34_n5 : ACode := .cond (.tm 16) .skip (.exit 0)
def cz34_n6m : List MStep := [.mk 0 0 (some 20) (.mov (.tm 5)), .mk 1 0 (some 21) (.mov (.tm 6)), .mk 2 0 (some 22) (.fieldAddr (.tm 2) 5 1), .mk 3 0 (some 23) (.load1 (.tm 22)), .mk 4 0 (some 24) (.bin .mul (.tm 21) (.tm 23)), .mk 5 0 (some 25) (.bin .add (.cn (.int .i64 64)) (.tm 24)), .mk 6 0 (some 26) (.fieldAddr (.tm 2) 5 1), .mk 7 0 (some 27) (.load1 (.tm 26)), .mk 8 0 (some 28) (.fieldAddr (.tm 3) 1 1), .mk 9 0 (some 29) (.load1 (.tm 28)), .mk 10 0 (some 30) (.mov (.tm 6)), .mk 11 0 (some 31) (.idxS (.tm 29) (.tm 30) 1), .mk 12 0 (some 32) (.load1 (.tm 31)), .mk 13 0 (some 33) (.conv .u64 (.tm 32)), .mk 14 2 (some 34) (.call 59 [(.tm 20), (.tm 25), (.tm 27), (.tm 33)]), .mk 15 0 (some 19) (.mov (.tm 34)), .mk 16 0 (some 35) (.extract (.tm 19) 0), .mk 17 0 (some 36) (.extract (.tm 19) 1), .mk 18 0 (some 5) (.mov (.tm 35))]
def cz34_n6 : ACode := .regM cz34_n6m
def cz34_n7 : ACode := .block 1 cz34_n6
def cz34_n8 : ACode := .reg (.op (some 17) (.mov (.tm 6)) (.op (some 18) (.bin .add (.tm 17) (.cn (.int .i64 1))) (.op (some 6) (.mov (.tm 18)) .nil)))
def cz34_n9 : ACode := .loop (.seq (.seq cz34_n4 cz34_n5) (.seq cz34_n7 cz34_n8))
def cz34_n10 : ACode := .block 0 cz34_n9
def cz34_n11 : ACode := .reg (.op (some 37) (.mov (.tm 5)) (.op (some 38) (.call 60 [(.tm 37)]) (.op none (.storeA 32 (.tm 4) (.tm 38)) .nil)))
def cq7Counters : ACode := (.seq cz34_n0 (.seq cz34_n1 (.seq cz34_n2 (.seq (.seq cz34_n3 cz34_n10) (.seq cz34_n11 .ret)))))
def Rq7Counters : Res := .one (.cA 4 32)
theorem cq7Counters_fits : fnFits Try.prog 34 2 39 cq7Counters Rq7Counters = true := by kernel_rfl
def Gq7Counters : Calls' := withP [] [conqNumber, conqPut, conq7Line]
theorem hGq7Counters : CallOk Try.prog Gq7Counters := withP_ok trivial ⟨sqNumber.dC, sqPut, sq7Line, trivial⟩
section
variable {w0 : World} {fp : Nat -> Nat -> Prop} {ρi : Rho} {Kf : SVal -> Heap -> Prop}
def kkz34_0 (w0 : World) (fp : Nat -> Nat -> Prop) (ρi : Rho) (Kf : SVal -> Heap -> Prop) (p : PlanV) (c_0 : Int) (c : List Int) (c_n c_c : Nat) : Cont := blockK 0 (fun e H => SemL Try.prog w0 fp ρi 1 39 [(.seq cz34_n11 .ret)] e H (fnK Rq7Counters 1 Kf)) (fnK Rq7Counters 1 Kf)
def ivz34_1 (p : PlanV) (c_0 : Int) (c : List Int) (c_n c_c v5l'1 : Nat) : Nat × Int × List Int × Nat -> Prop := fun s => match s with | (v5c, v6, h6'1, x6'1) => 0 <= v6 /\ v6 <= p.lines /\ h6'1 = PlanV.cntF p c_0 c v6.toNat /\ v5l'1 + x6'1 = v5c
def muz34_1 (p : PlanV) (c_0 : Int) (c : List Int) (c_n c_c v5l'1 : Nat) : Nat × Int × List Int × Nat -> Nat := fun s => match s with | (v5c, v6, h6'1, x6'1) => ((p.lines - v6).toNat)
def liz34_1 (p : PlanV) (c_0 : Int) (c : List Int) (c_n c_c v5l'1 : Nat) : Nat × Int × List Int × Nat -> Env := fun s => match s with | (v5c, v6, h6'1, x6'1) => [(2, some (.ptr ⟨1, 0, 0, 1⟩ 46)), (3, some (.ptr ⟨2, 0, 0, 1⟩ 2)), (4, some (.ptr ⟨3, 0, 0, 1⟩ 32)), (5, some (.slice ⟨6, 0, 0, 1⟩ v5l'1 v5c)), (6, some (.int .i64 v6))]
def ljz34_1 (p : PlanV) (c_0 : Int) (c : List Int) (c_n c_c v5l'1 : Nat) : Nat × Int × List Int × Nat -> Heap := fun s => match s with | (v5c, v6, h6'1, x6'1) => ⟨7, [(0, some ⟨false, [.ints .i64 c_n c], 0⟩), (1, some ⟨true, (PlanV.cs p), 0⟩), (2, some ⟨true, [.one (.int .u64 c_0), .one (.slice ⟨0, 0, 0, 1⟩ c_n c_c)], 0⟩), (3, some ⟨true, [.ints .u8 32 (List.replicate 32 0)], 0⟩), (6, some ⟨true, [.ints .u8 v5l'1 h6'1], x6'1⟩)]⟩
def kkz34_1 (w0 : World) (fp : Nat -> Nat -> Prop) (ρi : Rho) (Kf : SVal -> Heap -> Prop) (p : PlanV) (c_0 : Int) (c : List Int) (c_n c_c v5l'1 v5c : Nat) (v6 : Int) (h6'1 : List Int) (x6'1 : Nat) : Cont := loopK 1 (ivz34_1 p c_0 c c_n c_c v5l'1) (muz34_1 p c_0 c c_n c_c v5l'1) (liz34_1 p c_0 c c_n c_c v5l'1) (ljz34_1 p c_0 c c_n c_c v5l'1) (v5c, v6, h6'1, x6'1) (kkz34_0 w0 fp ρi Kf p c_0 c c_n c_c)
abbrev Yc0 (x0 : Nat) (x1 : List Int) (x2 : PlanV) (x3 : Int) (x4 x5 : Nat) (x6 : List Int) (x7 : Nat) : Heap := ⟨8, [(0, some ⟨false, [.ints .i64 x0 x1], 0⟩), (1, some ⟨true, (PlanV.cs x2), 0⟩), (2, some ⟨true, [.one (.int .u64 x3), .one (.slice ⟨0, 0, 0, 1⟩ x0 x4)], 0⟩), (3, some ⟨true, [.ints .u8 32 (List.replicate 32 0)], 0⟩), (7, some ⟨true, [.ints .u8 x5 x6], x7⟩)]⟩
abbrev Yc1 (x0 x1 : Nat) (x2 : Int) : Env := [(2, some (.ptr ⟨1, 0, 0, 1⟩ 46)), (3, some (.ptr ⟨2, 0, 0, 1⟩ 2)), (4, some (.ptr ⟨3, 0, 0, 1⟩ 32)), (5, some (.slice ⟨7, 0, 0, 1⟩ x0 x1)), (6, some (.int .i64 x2))]
theorem rz34_0 (p : PlanV) (c_0 : Int) (c : List Int) (c_n c_c v5l'1 c'3 : Nat) (v6 : Int) (h7 : List Int) (x7 v5c : Nat) (h6'1 : List Int) (x6'1 : Nat) (Z : Env -> Heap -> Prop) (h : Z [(2, some (.ptr ⟨1, 0, 0, 1⟩ 46)), (3, some (.ptr ⟨2, 0, 0, 1⟩ 2)), (4, some (.ptr ⟨3, 0, 0, 1⟩ 32)), (5, some (.slice ⟨7, 0, 0, 1⟩ v5l'1 c'3)), (6, some (.int .i64 (IntKind.i64.wrap (v6 + 1))))] (Yc0 c_n c p c_0 c_c v5l'1 h7 x7)) : EvC Gq7Counters cz34_n8 (Yc1 v5l'1 c'3 v6) (Yc0 c_n c p c_0 c_c v5l'1 h7 x7) [2, 3, 4, 5, 6] [0, 1, 2, 3, 7] Z := EvC.of (by kernel_rfl) h
def vz34_0 (p : PlanV) (c_0 : Int) (c : List Int) (c_n c_c v5l'1 c'3 : Nat) (v6 : Int) (h7 : List Int) (x7 v5c : Nat) (h6'1 : List Int) (x6'1 : Nat) : Prop := (0 <= (IntKind.i64.wrap (v6 + 1)) /\ (IntKind.i64.wrap (v6 + 1)) <= p.lines /\ h7 = PlanV.cntF p c_0 c (IntKind.i64.wrap (v6 + 1)).toNat /\ v5l'1 + x7 = c'3) /\ (((p.lines - (IntKind.i64.wrap (v6 + 1))).toNat) < ((p.lines - v6).toNat))
abbrev Yc2 (x0 : Nat) (x1 : List Int) : Heap := ⟨1, [(0, some ⟨false, [.ints .i64 x0 x1], 0⟩)]⟩
abbrev Yc3 (x0 : SVal -> Heap -> Prop) (x1 : PlanV) (x2 : Int) (x3 : List Int) (x4 : Nat) : Prop := x0 (.agg [.ints .u8 32 (PlanV.cntL x1 x2 x3)]) ⟨1, [(0, some ⟨false, [.ints .i64 x4 x3], 0⟩)]⟩
theorem pz34_0 (p : PlanV) (c_0 : Int) (c : List Int) (c_n c_c : Nat) (hK : (Yc3 Kf p c_0 c c_n)) (v5l'1 c'3 : Nat) (v6 : Int) (h7 : List Int) (x7 v5c : Nat) (h6'1 : List Int) (x6'1 : Nat) (h : vz34_0 p c_0 c c_n c_c v5l'1 c'3 v6 h7 x7 v5c h6'1 x6'1) : SemL Try.prog w0 fp ρi 1 39 [cz34_n8] (Yc1 v5l'1 c'3 v6) (Yc0 c_n c p c_0 c_c v5l'1 h7 x7) (kkz34_1 w0 fp ρi Kf p c_0 c c_n c_c v5l'1 v5c v6 h6'1 x6'1) :=
  L_regE hGq7Counters (rz34_0 p c_0 c c_n c_c v5l'1 c'3 v6 h7 x7 v5c h6'1 x6'1 _ (L_nil (loop_back (x' := (c'3, (IntKind.i64.wrap (v6 + 1)), h7, x7)) (τ := tau [(6, 7)]) h.1 h.2 (sub_tau' [(6, 7)] [0, 1, 2, 3, 6] rfl rfl (esc bpt (esc bpt (esc bpt (esc bsl (esc pbd envSub_nil))))) (hsc pcs (hsc pcs (hsc (bdCs_one pbd (bdCs_one bsl bdCs_nil)) (hsc pcs (hsc pcs heapSub_nil))))) (by kernel_rfl) rfl))))
def kkz34_2 (w0 : World) (fp : Nat -> Nat -> Prop) (ρi : Rho) (Kf : SVal -> Heap -> Prop) (p : PlanV) (c_0 : Int) (c : List Int) (c_n c_c v5l'1 v5c : Nat) (v6 : Int) (h6'1 : List Int) (x6'1 : Nat) : Cont := blockK 1 (fun e H => SemL Try.prog w0 fp ρi 1 39 [cz34_n8] e H (kkz34_1 w0 fp ρi Kf p c_0 c c_n c_c v5l'1 v5c v6 h6'1 x6'1)) (kkz34_1 w0 fp ρi Kf p c_0 c c_n c_c v5l'1 v5c v6 h6'1 x6'1)
abbrev Yc4 (x0 x1 : Nat) (x2 : Int) : Env := [(2, some (.ptr ⟨1, 0, 0, 1⟩ 46)), (3, some (.ptr ⟨2, 0, 0, 1⟩ 2)), (4, some (.ptr ⟨3, 0, 0, 1⟩ 32)), (5, some (.slice ⟨6, 0, 0, 1⟩ x0 x1)), (6, some (.int .i64 x2))]
abbrev Yc5 (x0 : Nat) (x1 : List Int) (x2 : PlanV) (x3 : Int) (x4 x5 : Nat) (x6 : List Int) (x7 : Nat) : Heap := ⟨7, [(0, some ⟨false, [.ints .i64 x0 x1], 0⟩), (1, some ⟨true, (PlanV.cs x2), 0⟩), (2, some ⟨true, [.one (.int .u64 x3), .one (.slice ⟨0, 0, 0, 1⟩ x0 x4)], 0⟩), (3, some ⟨true, [.ints .u8 32 (List.replicate 32 0)], 0⟩), (6, some ⟨true, [.ints .u8 x5 x6], x7⟩)]⟩
theorem rz34_1 (p : PlanV) (c_0 : Int) (c : List Int) (c_n c_c v5l'1 v5c : Nat) (v6 : Int) (h6'1 : List Int) (x6'1 : Nat) (Z : Env -> Heap -> Prop) (h : ((0 <= v6)) /\ ((v6 < ((c_n : Nat) : Int))) /\ (((0 + (Int.toNat v6)) < c_n)) /\ (((0 + v5l'1) <= v5l'1)) /\ (((v5l'1 : Nat) = v5l'1) /\ (List.length (List.take v5l'1 h6'1) = v5l'1 /\ v5l'1 <= v5c /\ v5l'1 <= 1000000 /\ Byt (List.take v5l'1 h6'1) /\ I64 (IntKind.i64.wrap (64 + (IntKind.i64.wrap (v6 * p.minor)))) /\ I64 p.minor /\ 0 <= (IntKind.u64.wrap (List.getD c (0 + (Int.toNat v6)) 0)) /\ (IntKind.u64.wrap (List.getD c (0 + (Int.toNat v6)) 0)) < 2 ^ 64)) /\ ∀ (c'3 : Nat), v5l'1 <= c'3 -> Z (Yc1 v5l'1 c'3 v6) ⟨8, [(0, some ⟨false, [.ints .i64 c_n c], 0⟩), (1, some ⟨true, (PlanV.cs p), 0⟩), (2, some ⟨true, [.one (.int .u64 c_0), .one (.slice ⟨0, 0, 0, 1⟩ c_n c_c)], 0⟩), (3, some ⟨true, [.ints .u8 32 (List.replicate 32 0)], 0⟩), (7, some ⟨true, [.ints .u8 v5l'1 (putL (List.take v5l'1 h6'1) (IntKind.i64.wrap (64 + (IntKind.i64.wrap (v6 * p.minor)))) p.minor (IntKind.u64.wrap (List.getD c (0 + (Int.toNat v6)) 0)))], (c'3 - v5l'1)⟩)]⟩) : EvNC Gq7Counters cz34_n6m [[], [], [], [1], [], [], [], [], [], [2], [], [], [0], [], [], [], [], [], []] (Yc4 v5l'1 v5c v6) (Yc5 c_n c p c_0 c_c v5l'1 h6'1 x6'1) [2, 3, 4, 5, 6] [0, 1, 2, 3, 7] Z := EvNC.of (by kernel_rfl) h
def vz34_1 (p : PlanV) (c_0 : Int) (c : List Int) (c_n c_c v5l'1 v5c : Nat) (v6 : Int) (h6'1 : List Int) (x6'1 : Nat) : Prop := ((0 <= v6)) /\ (((v6 < ((c_n : Nat) : Int))) /\ ((((0 + (Int.toNat v6)) < c_n)) /\ ((((0 + v5l'1) <= v5l'1)) /\ (((List.length (List.take v5l'1 h6'1) = v5l'1 /\ v5l'1 <= v5c /\ v5l'1 <= 1000000 /\ Byt (List.take v5l'1 h6'1) /\ I64 (IntKind.i64.wrap (64 + (IntKind.i64.wrap (v6 * p.minor)))) /\ I64 p.minor /\ 0 <= (IntKind.u64.wrap (List.getD c (0 + (Int.toNat v6)) 0)) /\ (IntKind.u64.wrap (List.getD c (0 + (Int.toNat v6)) 0)) < 2 ^ 64)) /\ (∀ (c'3 : Nat), (v5l'1 <= c'3) -> (∀ h7 : List Int, h7 = (putL (List.take v5l'1 h6'1) (IntKind.i64.wrap (64 + (IntKind.i64.wrap (v6 * p.minor)))) p.minor (IntKind.u64.wrap (List.getD c (0 + (Int.toNat v6)) 0))) -> ∀ x7 : Nat, x7 = (c'3 - v5l'1) -> vz34_0 p c_0 c c_n c_c v5l'1 c'3 v6 h7 x7 v5c h6'1 x6'1))))))
theorem pz34_1 (p : PlanV) (c_0 : Int) (c : List Int) (c_n c_c : Nat) (hK : (Yc3 Kf p c_0 c c_n)) (v5l'1 v5c : Nat) (v6 : Int) (h6'1 : List Int) (x6'1 : Nat) (h : vz34_1 p c_0 c c_n c_c v5l'1 v5c v6 h6'1 x6'1) : SemL Try.prog w0 fp ρi 1 39 [cz34_n6] (Yc4 v5l'1 v5c v6) (Yc5 c_n c p c_0 c_c v5l'1 h6'1 x6'1) (kkz34_2 w0 fp ρi Kf p c_0 c c_n c_c v5l'1 v5c v6 h6'1 x6'1) :=
  L_regME hGq7Counters (steps := cz34_n6m) (rz34_1 p c_0 c c_n c_c v5l'1 v5c v6 h6'1 x6'1 _ ⟨h.1, ⟨h.2.1, ⟨h.2.2.1, ⟨h.2.2.2.1, ⟨⟨rfl, h.2.2.2.2.1⟩, (fun c'3 h_c_3_0 => (L_nil (pz34_0 p c_0 c c_n c_c hK v5l'1 c'3 v6 (putL (List.take v5l'1 h6'1) (IntKind.i64.wrap (64 + (IntKind.i64.wrap (v6 * p.minor)))) p.minor (IntKind.u64.wrap (List.getD c (0 + (Int.toNat v6)) 0))) (c'3 - v5l'1) v5c h6'1 x6'1 (((h.2.2.2.2.2 c'3 h_c_3_0) (putL (List.take v5l'1 h6'1) (IntKind.i64.wrap (64 + (IntKind.i64.wrap (v6 * p.minor)))) p.minor (IntKind.u64.wrap (List.getD c (0 + (Int.toNat v6)) 0))) rfl) (c'3 - v5l'1) rfl))))⟩⟩⟩⟩⟩)
def vz34_2 (p : PlanV) (c_0 : Int) (c : List Int) (c_n c_c v5l'1 v5c : Nat) (v6 : Int) (h6'1 : List Int) (x6'1 : Nat) : Prop := vz34_1 p c_0 c c_n c_c v5l'1 v5c v6 h6'1 x6'1
theorem pz34_2 (p : PlanV) (c_0 : Int) (c : List Int) (c_n c_c : Nat) (hK : (Yc3 Kf p c_0 c c_n)) (v5l'1 v5c : Nat) (v6 : Int) (h6'1 : List Int) (x6'1 : Nat) (h : vz34_2 p c_0 c c_n c_c v5l'1 v5c v6 h6'1 x6'1) : SemL Try.prog w0 fp ρi 1 39 [cz34_n7, cz34_n8] (Yc4 v5l'1 v5c v6) (Yc5 c_n c p c_0 c_c v5l'1 h6'1 x6'1) (kkz34_1 w0 fp ρi Kf p c_0 c c_n c_c v5l'1 v5c v6 h6'1 x6'1) :=
  L_block (pz34_1 p c_0 c c_n c_c hK v5l'1 v5c v6 h6'1 x6'1 h)
abbrev Yc6 (x0 : Nat) (x1 : List Int) (x2 : Nat) (x3 : List Int) : Heap := ⟨7, [(0, some ⟨false, [.ints .i64 x0 x1], 0⟩), (3, some ⟨true, [.ints .u8 32 (List.take x2 x3)], 0⟩)]⟩
abbrev Yc7 (x0 x1 : Nat) : Env := [(4, some (.ptr ⟨3, 0, 0, 1⟩ 32)), (5, some (.slice ⟨6, 0, 0, 1⟩ x0 x1))]
abbrev Yc8 (x0 : Nat) (x1 : List Int) (x2 : Nat) (x3 : List Int) (x4 : Nat) : Heap := ⟨7, [(0, some ⟨false, [.ints .i64 x0 x1], 0⟩), (3, some ⟨true, [.ints .u8 32 (List.replicate 32 0)], 0⟩), (6, some ⟨true, [.ints .u8 x2 x3], x4⟩)]⟩
theorem rz34_3 (p : PlanV) (c_0 : Int) (c : List Int) (c_n c_c v5l'1 v5c : Nat) (h6'1 : List Int) (x6'1 : Nat) (Z : Env -> Heap -> Prop) (h : (((0 + v5l'1) <= v5l'1)) /\ (((v5l'1 : Nat) = v5l'1) /\ (List.length (List.take v5l'1 h6'1) = 32 /\ v5l'1 = 32 /\ 32 <= v5c)) /\ Z [(4, some (.ptr ⟨3, 0, 0, 1⟩ 32))] (Yc6 c_n c v5l'1 h6'1)) : EvC Gq7Counters cz34_n11 (Yc7 v5l'1 v5c) (Yc8 c_n c v5l'1 h6'1 x6'1) [4] [0, 3] Z := EvC.of (by kernel_rfl) h
theorem rtz34_0 (p : PlanV) (c_0 : Int) (c : List Int) (c_n c_c v5l'1 : Nat) (h6'1 : List Int) : RetC Rq7Counters [(4, some (.ptr ⟨3, 0, 0, 1⟩ 32))] (Yc6 c_n c v5l'1 h6'1) (.agg [.ints .u8 32 (List.take v5l'1 h6'1)]) := RetC.of (fun Z => by kernel_rfl)
def vz34_3 (p : PlanV) (c_0 : Int) (c : List Int) (c_n c_c v5l'1 v5c : Nat) (h6'1 : List Int) (x6'1 : Nat) : Prop := (((0 + v5l'1) <= v5l'1)) /\ (((List.length (List.take v5l'1 h6'1) = 32 /\ v5l'1 = 32 /\ 32 <= v5c)) /\ ((List.take v5l'1 h6'1) = (PlanV.cntL p c_0 c)))
theorem pz34_3 (p : PlanV) (c_0 : Int) (c : List Int) (c_n c_c : Nat) (hK : (Yc3 Kf p c_0 c c_n)) (v5l'1 v5c : Nat) (h6'1 : List Int) (x6'1 : Nat) (h : vz34_3 p c_0 c c_n c_c v5l'1 v5c h6'1 x6'1) : SemL Try.prog w0 fp ρi 1 39 [cz34_n11, .ret] (Yc7 v5l'1 v5c) (Yc8 c_n c v5l'1 h6'1 x6'1) (fnK Rq7Counters 1 Kf) :=
  L_regE hGq7Counters (rz34_3 p c_0 c c_n c_c v5l'1 v5c h6'1 x6'1 _ ⟨h.1, ⟨⟨rfl, h.2.1⟩, (L_retE (R := Rq7Counters) (m := 1) (Kf := Kf) (fun _ _ h => h) (rtz34_0 p c_0 c c_n c_c v5l'1 h6'1) (ret_of0 (Eq.mpr (cg1 (fun (z1 : List Int) => Ret0 1 Kf (.agg [.ints .u8 32 z1]) (Yc6 c_n c v5l'1 h6'1)) h.2.2) (ret0_tau [] [0] rfl (by kernel_rfl) rfl pbd (hsc pcs heapSub_nil) rfl (by kernel_rfl) (hK)))))⟩⟩)
def vz34_4 (p : PlanV) (c_0 : Int) (c : List Int) (c_n c_c v5l'1 v5c : Nat) (v6 : Int) (h6'1 : List Int) (x6'1 : Nat) : Prop := ((decide (v6 < p.lines)) = true -> (vz34_2 p c_0 c c_n c_c v5l'1 v5c v6 h6'1 x6'1)) /\ ((decide (v6 < p.lines)) = false -> (vz34_3 p c_0 c c_n c_c v5l'1 v5c h6'1 x6'1))
abbrev Yc9 (x0 x1 : Nat) (x2 : Int) (x3 : PlanV) : Env := [(2, some (.ptr ⟨1, 0, 0, 1⟩ 46)), (3, some (.ptr ⟨2, 0, 0, 1⟩ 2)), (4, some (.ptr ⟨3, 0, 0, 1⟩ 32)), (5, some (.slice ⟨6, 0, 0, 1⟩ x0 x1)), (6, some (.int .i64 x2)), (16, some (.bool (decide (x2 < x3.lines))))]
theorem pz34_4 (p : PlanV) (c_0 : Int) (c : List Int) (c_n c_c : Nat) (hK : (Yc3 Kf p c_0 c c_n)) (v5l'1 v5c : Nat) (v6 : Int) (h6'1 : List Int) (x6'1 : Nat) (h : vz34_4 p c_0 c c_n c_c v5l'1 v5c v6 h6'1 x6'1) : SemL Try.prog w0 fp ρi 1 39 [cz34_n5, (.seq cz34_n7 cz34_n8)] (Yc9 v5l'1 v5c v6 p) (Yc5 c_n c p c_0 c_c v5l'1 h6'1 x6'1) (kkz34_1 w0 fp ρi Kf p c_0 c c_n c_c v5l'1 v5c v6 h6'1 x6'1) :=
  L_cond (q := (decide (v6 < p.lines))) (by kernel_rfl) (fun hq => (L_skip (lpk [2, 3, 4, 5, 6] [0, 1, 2, 3, 6] (L_seq (pz34_2 p c_0 c c_n c_c hK v5l'1 v5c v6 h6'1 x6'1 (h.1 hq)))))) (fun hq => (L_exit (lpk [4, 5] [0, 3, 6] (L_seq (pz34_3 p c_0 c c_n c_c hK v5l'1 v5c h6'1 x6'1 (h.2 hq))))))
theorem rz34_5 (p : PlanV) (c_0 : Int) (c : List Int) (c_n c_c v5l'1 v5c : Nat) (v6 : Int) (h6'1 : List Int) (x6'1 : Nat) (Z : Env -> Heap -> Prop) (h : Z (Yc9 v5l'1 v5c v6 p) (Yc5 c_n c p c_0 c_c v5l'1 h6'1 x6'1)) : EvC Gq7Counters cz34_n4 (Yc4 v5l'1 v5c v6) (Yc5 c_n c p c_0 c_c v5l'1 h6'1 x6'1) [2, 3, 4, 5, 6, 16] [0, 1, 2, 3, 6] Z := EvC.of (by kernel_rfl) h
def vz34_5 (p : PlanV) (c_0 : Int) (c : List Int) (c_n c_c v5l'1 v5c : Nat) (v6 : Int) (h6'1 : List Int) (x6'1 : Nat) : Prop := vz34_4 p c_0 c c_n c_c v5l'1 v5c v6 h6'1 x6'1
theorem pz34_5 (p : PlanV) (c_0 : Int) (c : List Int) (c_n c_c : Nat) (hK : (Yc3 Kf p c_0 c c_n)) (v5l'1 v5c : Nat) (v6 : Int) (h6'1 : List Int) (x6'1 : Nat) (h : vz34_5 p c_0 c c_n c_c v5l'1 v5c v6 h6'1 x6'1) : SemL Try.prog w0 fp ρi 1 39 [cz34_n4, cz34_n5, (.seq cz34_n7 cz34_n8)] (Yc4 v5l'1 v5c v6) (Yc5 c_n c p c_0 c_c v5l'1 h6'1 x6'1) (kkz34_1 w0 fp ρi Kf p c_0 c c_n c_c v5l'1 v5c v6 h6'1 x6'1) :=
  L_regE hGq7Counters (rz34_5 p c_0 c c_n c_c v5l'1 v5c v6 h6'1 x6'1 _ (pz34_4 p c_0 c c_n c_c hK v5l'1 v5c v6 h6'1 x6'1 h))
def vz34_6 (p : PlanV) (c_0 : Int) (c : List Int) (c_n c_c v5l'1 c'2 : Nat) (h6 : List Int) (x6 : Nat) : Prop := (0 <= (0 : Int) /\ (0 : Int) <= p.lines /\ h6 = PlanV.cntF p c_0 c (0 : Int).toNat /\ v5l'1 + x6 = c'2) /\ (∀ (v5c : Nat) (v6 : Int) (h6'1 : List Int) (x6'1 : Nat), (0 <= v6 /\ v6 <= p.lines /\ h6'1 = PlanV.cntF p c_0 c v6.toNat /\ v5l'1 + x6'1 = v5c) -> (vz34_5 p c_0 c c_n c_c v5l'1 v5c v6 h6'1 x6'1))
abbrev Yc10 (x0 x1 : Nat) : Env := [(2, some (.ptr ⟨1, 0, 0, 1⟩ 46)), (3, some (.ptr ⟨2, 0, 0, 1⟩ 2)), (4, some (.ptr ⟨3, 0, 0, 1⟩ 32)), (5, some (.slice ⟨6, 0, 0, 1⟩ x0 x1)), (6, some (.int .i64 0))]
theorem pz34_6 (p : PlanV) (c_0 : Int) (c : List Int) (c_n c_c : Nat) (hK : (Yc3 Kf p c_0 c c_n)) (v5l'1 c'2 : Nat) (h6 : List Int) (x6 : Nat) (h : vz34_6 p c_0 c c_n c_c v5l'1 c'2 h6 x6) : SemL Try.prog w0 fp ρi 1 39 [cz34_n9] (Yc10 v5l'1 c'2) (Yc5 c_n c p c_0 c_c v5l'1 h6 x6) (kkz34_0 w0 fp ρi Kf p c_0 c c_n c_c) :=
  L_loop (ivz34_1 p c_0 c c_n c_c v5l'1) (muz34_1 p c_0 c c_n c_c v5l'1) (liz34_1 p c_0 c c_n c_c v5l'1) (ljz34_1 p c_0 c c_n c_c v5l'1) ⟨(c'2, 0, h6, x6), tau [], h.1, (sub_tau' [] [0, 1, 2, 3, 6] rfl rfl (esc bpt (esc bpt (esc bpt (esc bsl (esc pbd envSub_nil))))) (hsc pcs (hsc pcs (hsc (bdCs_one pbd (bdCs_one bsl bdCs_nil)) (hsc pcs (hsc pcs heapSub_nil))))) (by kernel_rfl) rfl)⟩ (fun s => match s with | (v5c, v6, h6'1, x6'1) => fun hi => (L_seq (L_seq (pz34_5 p c_0 c c_n c_c hK v5l'1 v5c v6 h6'1 x6'1 (h.2 v5c v6 h6'1 x6'1 hi)))))
def vz34_7 (p : PlanV) (c_0 : Int) (c : List Int) (c_n c_c v5l'1 c'2 : Nat) (h6 : List Int) (x6 : Nat) : Prop := vz34_6 p c_0 c c_n c_c v5l'1 c'2 h6 x6
theorem pz34_7 (p : PlanV) (c_0 : Int) (c : List Int) (c_n c_c : Nat) (hK : (Yc3 Kf p c_0 c c_n)) (v5l'1 c'2 : Nat) (h6 : List Int) (x6 : Nat) (h : vz34_7 p c_0 c c_n c_c v5l'1 c'2 h6 x6) : SemL Try.prog w0 fp ρi 1 39 [cz34_n10, (.seq cz34_n11 .ret)] (Yc10 v5l'1 c'2) (Yc5 c_n c p c_0 c_c v5l'1 h6 x6) (fnK Rq7Counters 1 Kf) :=
  L_block (pz34_6 p c_0 c c_n c_c hK v5l'1 c'2 h6 x6 h)
abbrev Yc11 (x0 x1 : Nat) : Env := [(2, some (.ptr ⟨1, 0, 0, 1⟩ 46)), (3, some (.ptr ⟨2, 0, 0, 1⟩ 2)), (4, some (.ptr ⟨3, 0, 0, 1⟩ 32)), (5, some (.slice ⟨6, 0, 0, 1⟩ x0 x1))]
theorem rz34_8 (p : PlanV) (c_0 : Int) (c : List Int) (c_n c_c v5l'1 c'2 : Nat) (h6 : List Int) (x6 : Nat) (Z : Env -> Heap -> Prop) (h : Z (Yc10 v5l'1 c'2) (Yc5 c_n c p c_0 c_c v5l'1 h6 x6)) : EvC Gq7Counters cz34_n3 (Yc11 v5l'1 c'2) (Yc5 c_n c p c_0 c_c v5l'1 h6 x6) [2, 3, 4, 5, 6] [0, 1, 2, 3, 6] Z := EvC.of (by kernel_rfl) h
def vz34_8 (p : PlanV) (c_0 : Int) (c : List Int) (c_n c_c v5l'1 c'2 : Nat) (h6 : List Int) (x6 : Nat) : Prop := vz34_7 p c_0 c c_n c_c v5l'1 c'2 h6 x6
theorem pz34_8 (p : PlanV) (c_0 : Int) (c : List Int) (c_n c_c : Nat) (hK : (Yc3 Kf p c_0 c c_n)) (v5l'1 c'2 : Nat) (h6 : List Int) (x6 : Nat) (h : vz34_8 p c_0 c c_n c_c v5l'1 c'2 h6 x6) : SemL Try.prog w0 fp ρi 1 39 [cz34_n3, cz34_n10, (.seq cz34_n11 .ret)] (Yc11 v5l'1 c'2) (Yc5 c_n c p c_0 c_c v5l'1 h6 x6) (fnK Rq7Counters 1 Kf) :=
  L_regE hGq7Counters (rz34_8 p c_0 c c_n c_c v5l'1 c'2 h6 x6 _ (pz34_7 p c_0 c c_n c_c hK v5l'1 c'2 h6 x6 h))
abbrev Yc12 (x0 x1 : Nat) : Env := [(2, some (.ptr ⟨1, 0, 0, 1⟩ 46)), (3, some (.ptr ⟨2, 0, 0, 1⟩ 2)), (4, some (.ptr ⟨3, 0, 0, 1⟩ 32)), (5, some (.slice ⟨5, 0, 0, 1⟩ x0 x1))]
abbrev Yc13 (x0 : Nat) (x1 : List Int) (x2 : PlanV) (x3 : Int) (x4 x5 : Nat) (x6 : List Int) (x7 : Nat) : Heap := ⟨6, [(0, some ⟨false, [.ints .i64 x0 x1], 0⟩), (1, some ⟨true, (PlanV.cs x2), 0⟩), (2, some ⟨true, [.one (.int .u64 x3), .one (.slice ⟨0, 0, 0, 1⟩ x0 x4)], 0⟩), (3, some ⟨true, [.ints .u8 32 (List.replicate 32 0)], 0⟩), (5, some ⟨true, [.ints .u8 x5 x6], x7⟩)]⟩
theorem rz34_9 (p : PlanV) (c_0 : Int) (c : List Int) (c_n c_c v5l c'1 : Nat) (h5 : List Int) (x5 : Nat) (Z : Env -> Heap -> Prop) (h : (((0 + v5l) <= v5l)) /\ ((v5l = v5l)) /\ ((List.length (List.take v5l h5) = v5l /\ v5l <= 1000000 /\ 0 <= (0 : Int) /\ (0 : Int) < 2 ^ 64)) /\ ∀ (c'2 : Nat), (v5l + Int.toNat (min (24 : Int) 64)) <= c'2 -> Z [(2, some (.ptr ⟨1, 0, 0, 1⟩ 46)), (3, some (.ptr ⟨2, 0, 0, 1⟩ 2)), (4, some (.ptr ⟨3, 0, 0, 1⟩ 32)), (5, some (.slice ⟨6, 0, 0, 1⟩ (v5l + Int.toNat (min (24 : Int) 64)) c'2))] ⟨7, [(0, some ⟨false, [.ints .i64 c_n c], 0⟩), (1, some ⟨true, (PlanV.cs p), 0⟩), (2, some ⟨true, [.one (.int .u64 c_0), .one (.slice ⟨0, 0, 0, 1⟩ c_n c_c)], 0⟩), (3, some ⟨true, [.ints .u8 32 (List.replicate 32 0)], 0⟩), (6, some ⟨true, [.ints .u8 (v5l + Int.toNat (min (24 : Int) 64)) ((List.take v5l h5) ++ (numB (0 : Int) (Int.toNat (min (24 : Int) 64))))], (c'2 - (v5l + Int.toNat (min (24 : Int) 64)))⟩)]⟩) : EvC Gq7Counters cz34_n2 (Yc12 v5l c'1) (Yc13 c_n c p c_0 c_c v5l h5 x5) [2, 3, 4, 5] [0, 1, 2, 3, 6] Z := EvC.of (by kernel_rfl) h
def vz34_9 (p : PlanV) (c_0 : Int) (c : List Int) (c_n c_c v5l c'1 : Nat) (h5 : List Int) (x5 : Nat) : Prop := (((0 + v5l) <= v5l)) /\ (((List.length (List.take v5l h5) = v5l /\ v5l <= 1000000 /\ 0 <= (0 : Int) /\ (0 : Int) < 2 ^ 64)) /\ (∀ (c'2 : Nat), ((v5l + Int.toNat (min (24 : Int) 64)) <= c'2) -> (∀ v5l'1 : Nat, v5l'1 = (v5l + Int.toNat (min (24 : Int) 64)) -> ∀ h6 : List Int, h6 = ((List.take v5l h5) ++ (numB (0 : Int) (Int.toNat (min (24 : Int) 64)))) -> ∀ x6 : Nat, x6 = (c'2 - (v5l + Int.toNat (min (24 : Int) 64))) -> vz34_8 p c_0 c c_n c_c v5l'1 c'2 h6 x6)))
theorem pz34_9 (p : PlanV) (c_0 : Int) (c : List Int) (c_n c_c : Nat) (hK : (Yc3 Kf p c_0 c c_n)) (v5l c'1 : Nat) (h5 : List Int) (x5 : Nat) (h : vz34_9 p c_0 c c_n c_c v5l c'1 h5 x5) : SemL Try.prog w0 fp ρi 1 39 [cz34_n2, (.seq (.seq cz34_n3 cz34_n10) (.seq cz34_n11 .ret))] (Yc12 v5l c'1) (Yc13 c_n c p c_0 c_c v5l h5 x5) (fnK Rq7Counters 1 Kf) :=
  L_regE hGq7Counters (rz34_9 p c_0 c c_n c_c v5l c'1 h5 x5 _ ⟨h.1, ⟨rfl, ⟨h.2.1, (fun c'2 h_c_2_0 => (L_seq (L_seq (pz34_8 p c_0 c c_n c_c hK (v5l + Int.toNat (min (24 : Int) 64)) c'2 ((List.take v5l h5) ++ (numB (0 : Int) (Int.toNat (min (24 : Int) 64)))) (c'2 - (v5l + Int.toNat (min (24 : Int) 64))) ((((h.2.2 c'2 h_c_2_0) (v5l + Int.toNat (min (24 : Int) 64)) rfl) ((List.take v5l h5) ++ (numB (0 : Int) (Int.toNat (min (24 : Int) 64)))) rfl) (c'2 - (v5l + Int.toNat (min (24 : Int) 64))) rfl)))))⟩⟩⟩)
abbrev Yc14 : Env := [(2, some (.ptr ⟨1, 0, 0, 1⟩ 46)), (3, some (.ptr ⟨2, 0, 0, 1⟩ 2)), (4, some (.ptr ⟨3, 0, 0, 1⟩ 32))]
abbrev Yc15 (x0 : Nat) (x1 : List Int) (x2 : PlanV) (x3 : Int) (x4 : Nat) : Heap := ⟨4, [(0, some ⟨false, [.ints .i64 x0 x1], 0⟩), (1, some ⟨true, (PlanV.cs x2), 0⟩), (2, some ⟨true, [.one (.int .u64 x3), .one (.slice ⟨0, 0, 0, 1⟩ x0 x4)], 0⟩), (3, some ⟨true, [.ints .u8 32 (List.replicate 32 0)], 0⟩)]⟩
theorem rz34_10 (p : PlanV) (c_0 : Int) (c : List Int) (c_n c_c : Nat) (Z : Env -> Heap -> Prop) (h : (((0 : Nat) <= 0)) /\ (((0 : Nat) = 0)) /\ ((List.length ([] : List Int) = 0 /\ 0 <= 1000000 /\ 0 <= c_0 /\ c_0 < 2 ^ 64)) /\ ∀ (c'1 : Nat), (0 + Int.toNat (min (8 : Int) 64)) <= c'1 -> Z [(2, some (.ptr ⟨1, 0, 0, 1⟩ 46)), (3, some (.ptr ⟨2, 0, 0, 1⟩ 2)), (4, some (.ptr ⟨3, 0, 0, 1⟩ 32)), (5, some (.slice ⟨5, 0, 0, 1⟩ (0 + Int.toNat (min (8 : Int) 64)) c'1))] ⟨6, [(0, some ⟨false, [.ints .i64 c_n c], 0⟩), (1, some ⟨true, (PlanV.cs p), 0⟩), (2, some ⟨true, [.one (.int .u64 c_0), .one (.slice ⟨0, 0, 0, 1⟩ c_n c_c)], 0⟩), (3, some ⟨true, [.ints .u8 32 (List.replicate 32 0)], 0⟩), (5, some ⟨true, [.ints .u8 (0 + Int.toNat (min (8 : Int) 64)) (numB c_0 (Int.toNat (min (8 : Int) 64)))], (c'1 - (0 + Int.toNat (min (8 : Int) 64)))⟩)]⟩) : EvC Gq7Counters cz34_n1 Yc14 (Yc15 c_n c p c_0 c_c) [2, 3, 4, 5] [0, 1, 2, 3, 5] Z := EvC.of (by kernel_rfl) h
def vz34_10 (p : PlanV) (c_0 : Int) (c : List Int) (c_n c_c : Nat) : Prop := ((List.length ([] : List Int) = 0 /\ 0 <= 1000000 /\ 0 <= c_0 /\ c_0 < 2 ^ 64)) /\ (∀ (c'1 : Nat), ((0 + Int.toNat (min (8 : Int) 64)) <= c'1) -> (∀ v5l : Nat, v5l = (0 + Int.toNat (min (8 : Int) 64)) -> ∀ h5 : List Int, h5 = (numB c_0 (Int.toNat (min (8 : Int) 64))) -> ∀ x5 : Nat, x5 = (c'1 - (0 + Int.toNat (min (8 : Int) 64))) -> vz34_9 p c_0 c c_n c_c v5l c'1 h5 x5))
theorem pz34_10 (p : PlanV) (c_0 : Int) (c : List Int) (c_n c_c : Nat) (hK : (Yc3 Kf p c_0 c c_n)) (h : vz34_10 p c_0 c c_n c_c) : SemL Try.prog w0 fp ρi 1 39 [cz34_n1, (.seq cz34_n2 (.seq (.seq cz34_n3 cz34_n10) (.seq cz34_n11 .ret)))] Yc14 (Yc15 c_n c p c_0 c_c) (fnK Rq7Counters 1 Kf) :=
  L_regE hGq7Counters (rz34_10 p c_0 c c_n c_c _ ⟨(by decide), ⟨rfl, ⟨h.1, (fun c'1 h_c_1_0 => (L_seq (pz34_9 p c_0 c c_n c_c hK (0 + Int.toNat (min (8 : Int) 64)) c'1 (numB c_0 (Int.toNat (min (8 : Int) 64))) (c'1 - (0 + Int.toNat (min (8 : Int) 64))) ((((h.2 c'1 h_c_1_0) (0 + Int.toNat (min (8 : Int) 64)) rfl) (numB c_0 (Int.toNat (min (8 : Int) 64))) rfl) (c'1 - (0 + Int.toNat (min (8 : Int) 64))) rfl))))⟩⟩⟩)
abbrev Yc16 (x0 : PlanV) (x1 : Int) (x2 x3 : Nat) : Env := [(0, some (.agg (PlanV.cs x0))), (1, some (.agg [.one (.int .u64 x1), .one (.slice ⟨0, 0, 0, 1⟩ x2 x3)]))]
theorem rz34_11 (p : PlanV) (c_0 : Int) (c : List Int) (c_n c_c : Nat) (Z : Env -> Heap -> Prop) (h : Z Yc14 (Yc15 c_n c p c_0 c_c)) : EvC Gq7Counters cz34_n0 (Yc16 p c_0 c_n c_c) (Yc2 c_n c) [2, 3, 4] [0, 1, 2, 3] Z := EvC.of (by kernel_rfl) h
def vz34_11 (p : PlanV) (c_0 : Int) (c : List Int) (c_n c_c : Nat) : Prop := vz34_10 p c_0 c c_n c_c
theorem pz34_11 (p : PlanV) (c_0 : Int) (c : List Int) (c_n c_c : Nat) (hK : (Yc3 Kf p c_0 c c_n)) (h : vz34_11 p c_0 c c_n c_c) : SemL Try.prog w0 fp ρi 1 39 [cz34_n0, (.seq cz34_n1 (.seq cz34_n2 (.seq (.seq cz34_n3 cz34_n10) (.seq cz34_n11 .ret))))] (Yc16 p c_0 c_n c_c) (Yc2 c_n c) (fnK Rq7Counters 1 Kf) :=
  L_regE hGq7Counters (rz34_11 p c_0 c c_n c_c _ (L_seq (pz34_10 p c_0 c c_n c_c hK h)))
def vcq7Counters (p : PlanV) (c_0 : Int) (c : List Int) (c_n c_c : Nat) : Prop := vz34_11 p c_0 c c_n c_c
theorem wq7Counters (p : PlanV) (c_0 : Int) (c : List Int) (c_n c_c : Nat) (hK : (Yc3 Kf p c_0 c c_n)) (h : vcq7Counters p c_0 c c_n c_c) : SemL Try.prog w0 fp ρi 1 39 [cq7Counters] (Yc16 p c_0 c_n c_c) (Yc2 c_n c) (fnK Rq7Counters 1 Kf) :=
  (L_seq (pz34_11 p c_0 c c_n c_c hK h))
end
theorem okq7Counters (p : PlanV) (c_0 : Int) (c : List Int) (c_n c_c : Nat) (hpre : (List.length c = c_n /\ c_n <= c_c /\ c_n <= 1000000 /\ 0 <= c_0 /\ c_0 < 2 ^ 64 /\ PlanV.wrongC p c_0 c = 0)) : vcq7Counters p c_0 c c_n c_c := by
  unfold vcq7Counters vz34_11 vz34_10 vz34_9 vz34_8 vz34_7 vz34_6 vz34_5 vz34_4 vz34_3 vz34_2 vz34_1 vz34_0
  obtain ⟨h1, h2, h3, h4, h5, h6⟩ := hpre
  obtain ⟨hr, hj, hl, hx⟩ := PlanV.wrongC_zero h6
  have hf := PlanV.right_facts hr
  have n8 : (min 8 64 : Int).toNat = 8 := by decide
  have n24 : (min 24 64 : Int).toNat = 24 := by decide
  rw [n8, n24]
  refine ⟨⟨rfl, by omega, h4, h5⟩, fun c1 hc1 => ?_⟩
  rintro a rfl b1 rfl x5 -
  have t8 : List.take (0 + 8) (numB c_0 8) = numB c_0 8 := List.take_of_length_le (by rw [numB_length]; omega)
  rw [t8]
  refine ⟨by omega, ⟨by rw [numB_length], by omega, by omega, by omega⟩, fun c2 hc2 => ?_⟩
  rintro a ea b2 hb2 x6 rfl
  have ea : a = 32 := ea
  subst ea
  have z24 : numB 0 24 = List.replicate 24 0 := by decide +kernel
  rw [z24] at hb2
  refine ⟨⟨by omega, by omega, hb2, by omega⟩, ?_⟩
  rintro v5c v6 b3 x7 ⟨i0, i1, rfl, i3⟩
  have lb := PlanV.cntF_length p c_0 c v6.toNat
  have bb := PlanV.cntF_byt p c_0 c v6.toNat
  rw [takeAll' lb]
  refine ⟨fun hlt => ?_, fun hge => ?_⟩
  · have hlt := of_decide_eq_true hlt
    obtain ⟨g1, g2, g3⟩ := PlanV.got_at hr lb i0 hlt
    have hv := hx v6.toNat (by omega)
    have hp : (2 : Int) ^ p.minor.toNat <= 2 ^ 8 := by exact_mod_cast Nat.pow_le_pow_right (n := 2) (by omega) (show p.minor.toNat <= 8 by omega)
    unfold PlanV.top at hv
    have w0 : IntKind.u64.wrap (c.getD v6.toNat 0) = c.getD v6.toNat 0 := by rw [wrap_u64]; omega
    have w1 : IntKind.i64.wrap (v6 + 1) = v6 + 1 := by rw [wi64]; omega
    rw [g1, Nat.zero_add, w0, w1]
    refine ⟨i0, by omega, by omega, by omega, ⟨lb, by omega, by omega, bb, by unfold I64; omega, by unfold I64; omega, by omega, by omega⟩, fun c3 hc3 => ?_⟩
    rintro h7 rfl x8 rfl
    refine ⟨⟨by omega, by omega, ?_, by omega⟩, by omega⟩
    rw [show (v6 + 1).toNat = v6.toNat + 1 by omega, PlanV.cntF]
    congr 1
    rw [Int.natCast_add, Int.natCast_mul, show ((p.minor.toNat : Nat) : Int) = p.minor by omega]
    rfl
  · have hge := of_decide_eq_false hge
    have e : v6.toNat = c.length := by omega
    refine ⟨by omega, ⟨lb, rfl, by omega⟩, ?_⟩
    unfold PlanV.cntL
    rw [if_pos h6, e]
theorem sq7Counters : Sound Try.prog 34 (gS Dq7Counters) := by
  refine fn_soundA cq7Counters_fits ?_
  intro args H K h
  obtain ⟨pre, out, hD, hpre, hK⟩ := gS_inv h
  unfold Dq7Counters at hD
  split at hD
  · obtain ⟨hb, hD⟩ := bif_some hD
    simp only [Bool.and_eq_true] at hb
    obtain ⟨h0, h1⟩ := hb
    obtain rfl := Nat.eq_of_beq_eq_true h0
    obtain rfl := Nat.eq_of_beq_eq_true h1
    cases hD
    obtain ⟨rfl, hpre⟩ := hpre
    exact ⟨rfl, fun w0 fp ρi => wq7Counters (PlanV.mk _ _ _ _ _ _ _ _ _ _ _ _ _ _ _ _) _ _ _ _ hK (okq7Counters (PlanV.mk _ _ _ _ _ _ _ _ _ _ _ _ _ _ _ _) _ _ _ _ hpre)⟩
  · cases hD
end Go.Proofs.Ytggpebgigddogaa
