/- Part of the proof: SxAesN. -/
import Derived.Test.YtefmjmghkedciaaSxAesW
import Derived.KernelRfl
set_option linter.unusedVariables false
set_option linter.unusedSimpArgs false
set_option maxRecDepth 20000
namespace Go.Proofs.Ytefmjmghkedciaa
open Go.Sx
def DaNew : GSpec := fun args H => match args, H with
  | [.agg [.ints .u8 key_n key]], ⟨0, []⟩ => bif Nat.beq key_n 16 then some ((BlkOk key), fun K => K (.ptr ⟨0, 0, 0, 1⟩ 432) ⟨1, [(0, some ⟨true, [.ints .u8 256 sboxT, .ints .u8 176 (keysL key)], 0⟩)]⟩) else none
  | _, _ => none
def conaNew : Con := ⟨26, gS DaNew, [], [], []⟩
def cz26_n0 : ACode := .reg (.op (some 1) (.box (.tm 0)) (.op (some 2) (.mov (.cn (.nilptr))) .nil))
def cz26_n1 : ACode := .reg (.op (some 9) (.call 49 []) (.op (some 10) (.build [.ints .u8 256 (List.replicate 256 0), .ints .u8 176 (List.replicate 176 0)] [(0, 256, (.tm 9))]) (.op (some 11) (.box (.tm 10)) (.op (some 3) (.mov (.tm 11)) .nil))))
def cz26_n2m : List MStep := [.mk 0 0 (some 12) (.mov (.tm 3)), .mk 1 0 (some 13) (.loadA 16 (.tm 1)), .mk 2 0 (some 14) (.nilCheck (.tm 12)), .mk 3 0 (some 15) (.fieldAddr (.tm 14) 256 176), .mk 4 0 (some 16) (.idxA (.tm 15) (.cn (.int .i64 0)) 11 16), .mk 5 2 none (.storeA 16 (.tm 16) (.tm 13))]
def cz26_n2 : ACode := .regM cz26_n2m
def cz26_n3 : ACode := .reg (.op (some 4) (.mov (.cn (.int .u8 1))) .nil)
def cz26_n4 : ACode := .reg (.op (some 5) (.mov (.cn (.int .i64 1))) .nil)
def cz26_n5 : ACode := .reg (.op (some 17) (.mov (.tm 5)) (.op (some 18) (.bin .leq (.tm 17) (.cn (.int .i64 10))) .nil))
def cz26_n6 : ACode := .cond (.tm 18) .skip (.exit 0)
def cz26_n7 : ACode := .reg (.op (some 21) (.mov (.tm 3)) (.op (some 22) (.mov (.tm 5)) (.op (some 23) (.bin .sub (.tm 22) (.cn (.int .i64 1))) (.op (some 24) (.nilCheck (.tm 21)) (.op (some 25) (.fieldAddr (.tm 24) 256 176) (.op (some 26) (.idxA (.tm 25) (.tm 23) 11 16) (.op (some 27) (.loadA 16 (.tm 26)) (.op (some 6) (.alloc [.ints .u8 16 (List.replicate 16 0)]) (.op none (.storeA 16 (.tm 6) (.tm 27)) .nil)))))))))
def cz26_n8m : List MStep := [.mk 0 0 (some 28) (.mov (.tm 3)), .mk 1 0 (some 29) (.idxA (.tm 6) (.cn (.int .i64 13)) 16 1), .mk 2 0 (some 30) (.load1 (.tm 29)), .mk 3 0 (some 31) (.nilCheck (.tm 28)), .mk 4 0 (some 32) (.fieldAddr (.tm 31) 0 256), .mk 5 0 (some 33) (.idxA (.tm 32) (.tm 30) 256 1), .mk 6 0 (some 34) (.load1 (.tm 33)), .mk 7 0 (some 35) (.mov (.tm 4)), .mk 8 0 (some 36) (.bin .xor (.tm 34) (.tm 35)), .mk 9 0 (some 37) (.mov (.tm 3)), .mk 10 0 (some 38) (.idxA (.tm 6) (.cn (.int .i64 14)) 16 1), .mk 11 0 (some 39) (.load1 (.tm 38)), .mk 12 0 (some 40) (.nilCheck (.tm 37)), .mk 13 0 (some 41) (.fieldAddr (.tm 40) 0 256), .mk 14 0 (some 42) (.idxA (.tm 41) (.tm 39) 256 1), .mk 15 0 (some 43) (.load1 (.tm 42)), .mk 16 0 (some 44) (.mov (.tm 3)), .mk 17 0 (some 45) (.idxA (.tm 6) (.cn (.int .i64 15)) 16 1), .mk 18 0 (some 46) (.load1 (.tm 45)), .mk 19 0 (some 47) (.nilCheck (.tm 44)), .mk 20 0 (some 48) (.fieldAddr (.tm 47) 0 256), .mk 21 0 (some 49) (.idxA (.tm 48) (.tm 46) 256 1), .mk 22 0 (some 50) (.load1 (.tm 49)), .mk 23 0 (some 51) (.mov (.tm 3)), .mk 24 0 (some 52) (.idxA (.tm 6) (.cn (.int .i64 12)) 16 1), .mk 25 0 (some 53) (.load1 (.tm 52)), .mk 26 0 (some 54) (.nilCheck (.tm 51)), .mk 27 0 (some 55) (.fieldAddr (.tm 54) 0 256), .mk 28 0 (some 56) (.idxA (.tm 55) (.tm 53) 256 1), .mk 29 0 (some 57) (.load1 (.tm 56)), .mk 30 0 (some 58) (.buildI .u8 4 [(0, (.tm 36)), (1, (.tm 43)), (2, (.tm 50)), (3, (.tm 57))]), .mk 31 1 (some 7) (.alloc [.ints .u8 4 (List.replicate 4 0)]), .mk 32 2 none (.storeA 4 (.tm 7) (.tm 58))]
def cz26_n8 : ACode := .regM cz26_n8m
def cz26_n9 : ACode := .reg (.op (some 59) (.mov (.tm 4)) (.op (some 60) (.call 47 [(.tm 59)]) (.op (some 4) (.mov (.tm 60)) .nil)))
def cz26_n10 : ACode := .reg (.op (some 61) (.mov (.cn (.int .i64 0))) .nil)
def cz26_n11 : ACode := .reg (.op (some 62) (.bin .lss (.tm 61) (.cn (.int .i64 16))) .nil)
def cz26_n12 : ACode := .cond (.tm 62) .skip (.exit 2)
def cz26_n13 : ACode := .reg (.op (some 63) (.mov (.tm 61)) (.op (some 8) (.mov (.tm 63)) .nil))
def cz26_n14m : List MStep := [.mk 0 0 (some 64) (.mov (.tm 8)), .mk 1 0 (some 65) (.bin .and (.tm 64) (.cn (.int .i64 3))), .mk 2 0 (some 66) (.idxA (.tm 7) (.tm 65) 4 1), .mk 3 0 (some 67) (.load1 (.tm 66)), .mk 4 0 (some 68) (.mov (.tm 8)), .mk 5 0 (some 69) (.idxA (.tm 6) (.tm 68) 16 1), .mk 6 0 (some 70) (.load1 (.tm 69)), .mk 7 0 (some 71) (.bin .xor (.tm 67) (.tm 70)), .mk 8 0 (some 72) (.idxA (.tm 7) (.tm 65) 4 1), .mk 9 2 none (.store1 (.tm 72) (.tm 71))]
def cz26_n14 : ACode := .regM cz26_n14m
def cz26_n15m : List MStep := [.mk 0 0 (some 73) (.mov (.tm 3)), .mk 1 0 (some 74) (.mov (.tm 5)), .mk 2 0 (some 75) (.mov (.tm 8)), .mk 3 0 (some 76) (.mov (.tm 8)), .mk 4 0 (some 77) (.bin .and (.tm 76) (.cn (.int .i64 3))), .mk 5 0 (some 78) (.idxA (.tm 7) (.tm 77) 4 1), .mk 6 0 (some 79) (.load1 (.tm 78)), .mk 7 0 (some 80) (.nilCheck (.tm 73)), .mk 8 0 (some 81) (.fieldAddr (.tm 80) 256 176), .mk 9 0 (some 82) (.idxA (.tm 81) (.tm 74) 11 16), .mk 10 0 (some 83) (.idxA (.tm 82) (.tm 75) 16 1), .mk 11 2 none (.store1 (.tm 83) (.tm 79))]
def cz26_n15 : ACode := .regM cz26_n15m
def cz26_n16 : ACode := .block 3 (.seq cz26_n13 (.seq cz26_n14 cz26_n15))
def cz26_n17 : ACode := .reg (.op (some 84) (.bin .add (.tm 61) (.cn (.int .i64 1))) (.op (some 61) (.mov (.tm 84)) .nil))
def cz26_n18 : ACode := .loop (.seq cz26_n11 (.seq cz26_n12 (.seq cz26_n16 cz26_n17)))
def cz26_n19 : ACode := .block 2 cz26_n18
def cz26_n20 : ACode := .block 1 (.seq cz26_n7 (.seq cz26_n8 (.seq cz26_n9 (.seq cz26_n10 cz26_n19))))
def cz26_n21 : ACode := .reg (.op (some 19) (.mov (.tm 5)) (.op (some 20) (.bin .add (.tm 19) (.cn (.int .i64 1))) (.op (some 5) (.mov (.tm 20)) .nil)))
def cz26_n22 : ACode := .loop (.seq (.seq cz26_n5 cz26_n6) (.seq cz26_n20 cz26_n21))
def cz26_n23 : ACode := .block 0 cz26_n22
def cz26_n24 : ACode := .reg (.op (some 85) (.mov (.tm 3)) (.op (some 2) (.mov (.tm 85)) .nil))
def caNew : ACode := (.seq cz26_n0 (.seq cz26_n1 (.seq cz26_n2 (.seq cz26_n3 (.seq (.seq cz26_n4 cz26_n23) (.seq cz26_n24 .ret))))))
def RaNew : Res := .one (.tm 2)
theorem caNew_fits : fnFits Try.prog 26 1 86 caNew RaNew = true := by kernel_rfl
def GaNew : Calls' := withP [pcaDouble, pcaBuild] []
theorem hGaNew : CallOk Try.prog GaNew := withP_ok ⟨saDouble, saBuild, trivial⟩ trivial
section
variable {w0 : World} {fp : Nat -> Nat -> Prop} {ρi : Rho} {Kf : SVal -> Heap -> Prop}
def kkz26_0 (w0 : World) (fp : Nat -> Nat -> Prop) (ρi : Rho) (Kf : SVal -> Heap -> Prop) (key : List Int) : Cont := blockK 0 (fun e H => SemL Try.prog w0 fp ρi 0 86 [(.seq cz26_n24 .ret)] e H (fnK RaNew 0 Kf)) (fnK RaNew 0 Kf)
def ivz26_1 (key : List Int) : Int × Int × List Int -> Prop := fun s => match s with | (v4, v5, h1_1'1) => 1 <= v5 /\ v5 <= 11 /\ v4 = (kRun key (v5 - 1).toNat).2 /\ h1_1'1.length = 176 /\ List.take (16 * v5.toNat) h1_1'1 = (kRun key (v5 - 1).toNat).1
def muz26_1 (key : List Int) : Int × Int × List Int -> Nat := fun s => match s with | (v4, v5, h1_1'1) => ((11 - v5).toNat)
def liz26_1 (key : List Int) : Int × Int × List Int -> Env := fun s => match s with | (v4, v5, h1_1'1) => [(3, some (.ptr ⟨1, 0, 0, 1⟩ 432)), (4, some (.int .u8 v4)), (5, some (.int .i64 v5))]
def ljz26_1 (key : List Int) : Int × Int × List Int -> Heap := fun s => match s with | (v4, v5, h1_1'1) => ⟨2, [(1, some ⟨true, [.ints .u8 256 sboxT, .ints .u8 176 h1_1'1], 0⟩)]⟩
def kkz26_1 (w0 : World) (fp : Nat -> Nat -> Prop) (ρi : Rho) (Kf : SVal -> Heap -> Prop) (key : List Int) (v4 v5 : Int) (h1_1'1 : List Int) : Cont := loopK 0 (ivz26_1 key) (muz26_1 key) (liz26_1 key) (ljz26_1 key) (v4, v5, h1_1'1) (kkz26_0 w0 fp ρi Kf key)
def kkz26_2 (w0 : World) (fp : Nat -> Nat -> Prop) (ρi : Rho) (Kf : SVal -> Heap -> Prop) (key : List Int) (v4 v5 : Int) (h1_1'1 : List Int) : Cont := blockK 1 (fun e H => SemL Try.prog w0 fp ρi 0 86 [cz26_n21] e H (kkz26_1 w0 fp ρi Kf key v4 v5 h1_1'1)) (kkz26_1 w0 fp ρi Kf key v4 v5 h1_1'1)
def kkz26_3 (w0 : World) (fp : Nat -> Nat -> Prop) (ρi : Rho) (Kf : SVal -> Heap -> Prop) (key : List Int) (v4 v5 : Int) (h1_1'1 : List Int) : Cont := blockK 2 (fun e H => SemL Try.prog w0 fp ρi 0 86 [] e H (kkz26_2 w0 fp ρi Kf key v4 v5 h1_1'1)) (kkz26_2 w0 fp ρi Kf key v4 v5 h1_1'1)
def ivz26_4 (key : List Int) (v4'1 v5 : Int) (h2 : List Int) (v4 : Int) (h1_1'1 : List Int) : Int × List Int × List Int -> Prop := fun s => match s with | (v61, h1_1'2, h3'1) => 0 <= v61 /\ v61 <= 16 /\ h1_1'2.length = 176 /\ h3'1 = (kGo h2 v4 v61.toNat).1 /\ List.take (16 * v5.toNat + v61.toNat) h1_1'2 = (kRun key (v5 - 1).toNat).1 ++ (kGo h2 v4 v61.toNat).2
def muz26_4 (key : List Int) (v4'1 v5 : Int) (h2 : List Int) (v4 : Int) (h1_1'1 : List Int) : Int × List Int × List Int -> Nat := fun s => match s with | (v61, h1_1'2, h3'1) => ((16 - v61).toNat)
def liz26_4 (key : List Int) (v4'1 v5 : Int) (h2 : List Int) (v4 : Int) (h1_1'1 : List Int) : Int × List Int × List Int -> Env := fun s => match s with | (v61, h1_1'2, h3'1) => [(3, some (.ptr ⟨1, 0, 0, 1⟩ 432)), (4, some (.int .u8 v4'1)), (5, some (.int .i64 v5)), (6, some (.ptr ⟨2, 0, 0, 1⟩ 16)), (7, some (.ptr ⟨3, 0, 0, 1⟩ 4)), (61, some (.int .i64 v61))]
def ljz26_4 (key : List Int) (v4'1 v5 : Int) (h2 : List Int) (v4 : Int) (h1_1'1 : List Int) : Int × List Int × List Int -> Heap := fun s => match s with | (v61, h1_1'2, h3'1) => ⟨4, [(1, some ⟨true, [.ints .u8 256 sboxT, .ints .u8 176 h1_1'2], 0⟩), (2, some ⟨true, [.ints .u8 16 h2], 0⟩), (3, some ⟨true, [.ints .u8 4 h3'1], 0⟩)]⟩
def kkz26_4 (w0 : World) (fp : Nat -> Nat -> Prop) (ρi : Rho) (Kf : SVal -> Heap -> Prop) (key : List Int) (v4'1 v5 : Int) (h2 : List Int) (v4 : Int) (h1_1'1 : List Int) (v61 : Int) (h1_1'2 h3'1 : List Int) : Cont := loopK 0 (ivz26_4 key v4'1 v5 h2 v4 h1_1'1) (muz26_4 key v4'1 v5 h2 v4 h1_1'1) (liz26_4 key v4'1 v5 h2 v4 h1_1'1) (ljz26_4 key v4'1 v5 h2 v4 h1_1'1) (v61, h1_1'2, h3'1) (kkz26_3 w0 fp ρi Kf key v4 v5 h1_1'1)
abbrev Yf0 (x0 x1 x2 : List Int) : Heap := ⟨4, [(1, some ⟨true, [.ints .u8 256 sboxT, .ints .u8 176 x0], 0⟩), (2, some ⟨true, [.ints .u8 16 x1], 0⟩), (3, some ⟨true, [.ints .u8 4 x2], 0⟩)]⟩
abbrev Yf1 (x0 x1 x2 : Int) : Env := [(3, some (.ptr ⟨1, 0, 0, 1⟩ 432)), (4, some (.int .u8 x0)), (5, some (.int .i64 x1)), (6, some (.ptr ⟨2, 0, 0, 1⟩ 16)), (7, some (.ptr ⟨3, 0, 0, 1⟩ 4)), (61, some (.int .i64 x2))]
theorem rz26_0 (key : List Int) (v4'1 v5 v61 : Int) (h1_1'3 h2 h3'2 : List Int) (v4 : Int) (h1_1'1 h1_1'2 h3'1 : List Int) (Z : Env -> Heap -> Prop) (h : Z [(3, some (.ptr ⟨1, 0, 0, 1⟩ 432)), (4, some (.int .u8 v4'1)), (5, some (.int .i64 v5)), (6, some (.ptr ⟨2, 0, 0, 1⟩ 16)), (7, some (.ptr ⟨3, 0, 0, 1⟩ 4)), (61, some (.int .i64 (IntKind.i64.wrap (v61 + 1))))] (Yf0 h1_1'3 h2 h3'2)) : EvC GaNew cz26_n17 (Yf1 v4'1 v5 v61) (Yf0 h1_1'3 h2 h3'2) [3, 4, 5, 6, 7, 61] [1, 2, 3] Z := EvC.of (by kernel_rfl) h
def vz26_0 (key : List Int) (v4'1 v5 v61 : Int) (h1_1'3 h2 h3'2 : List Int) (v4 : Int) (h1_1'1 h1_1'2 h3'1 : List Int) : Prop := (0 <= (IntKind.i64.wrap (v61 + 1)) /\ (IntKind.i64.wrap (v61 + 1)) <= 16 /\ h1_1'3.length = 176 /\ h3'2 = (kGo h2 v4 (IntKind.i64.wrap (v61 + 1)).toNat).1 /\ List.take (16 * v5.toNat + (IntKind.i64.wrap (v61 + 1)).toNat) h1_1'3 = (kRun key (v5 - 1).toNat).1 ++ (kGo h2 v4 (IntKind.i64.wrap (v61 + 1)).toNat).2) /\ (((16 - (IntKind.i64.wrap (v61 + 1))).toNat) < ((16 - v61).toNat))
abbrev Yf2 (x0 : List Int) : Heap := ⟨1, [(0, some ⟨true, [.ints .u8 256 sboxT, .ints .u8 176 (keysL x0)], 0⟩)]⟩
abbrev Yf3 (x0 : SVal -> Heap -> Prop) (x1 : List Int) : Prop := x0 (.ptr ⟨0, 0, 0, 1⟩ 432) ⟨1, [(0, some ⟨true, [.ints .u8 256 sboxT, .ints .u8 176 (keysL x1)], 0⟩)]⟩
theorem pz26_0 (key : List Int) (hK : (Yf3 Kf key)) (v4'1 v5 v61 : Int) (h1_1'3 h2 h3'2 : List Int) (v4 : Int) (h1_1'1 h1_1'2 h3'1 : List Int) (h : vz26_0 key v4'1 v5 v61 h1_1'3 h2 h3'2 v4 h1_1'1 h1_1'2 h3'1) : SemL Try.prog w0 fp ρi 0 86 [cz26_n17] (Yf1 v4'1 v5 v61) (Yf0 h1_1'3 h2 h3'2) (kkz26_4 w0 fp ρi Kf key v4'1 v5 h2 v4 h1_1'1 v61 h1_1'2 h3'1) :=
  L_regE hGaNew (rz26_0 key v4'1 v5 v61 h1_1'3 h2 h3'2 v4 h1_1'1 h1_1'2 h3'1 _ (L_nil (loop_back (x' := ((IntKind.i64.wrap (v61 + 1)), h1_1'3, h3'2)) (τ := tau []) h.1 h.2 (sub_tau' [] [1, 2, 3] rfl rfl (esc bpt (esc pbd (esc pbd (esc bpt (esc bpt (esc pbd envSub_nil)))))) (hsc pcs (hsc pcs (hsc pcs heapSub_nil))) (by kernel_rfl) rfl))))
def kkz26_5 (w0 : World) (fp : Nat -> Nat -> Prop) (ρi : Rho) (Kf : SVal -> Heap -> Prop) (key : List Int) (v4 v5 : Int) (h1_1'1 : List Int) (v4'1 : Int) (h2 : List Int) (v61 : Int) (h1_1'2 h3'1 : List Int) : Cont := blockK 3 (fun e H => SemL Try.prog w0 fp ρi 0 86 [cz26_n17] e H (kkz26_4 w0 fp ρi Kf key v4'1 v5 h2 v4 h1_1'1 v61 h1_1'2 h3'1)) (kkz26_4 w0 fp ρi Kf key v4'1 v5 h2 v4 h1_1'1 v61 h1_1'2 h3'1)
abbrev Yf4 (x0 x1 x2 : Int) : Env := [(3, some (.ptr ⟨1, 0, 0, 1⟩ 432)), (4, some (.int .u8 x0)), (5, some (.int .i64 x1)), (6, some (.ptr ⟨2, 0, 0, 1⟩ 16)), (7, some (.ptr ⟨3, 0, 0, 1⟩ 4)), (8, some (.int .i64 x2)), (61, some (.int .i64 x2))]
theorem rz26_1 (key : List Int) (v4'1 v5 v61 : Int) (h1_1'2 h2 h3'2 : List Int) (v4 : Int) (h1_1'1 h3'1 : List Int) (Z : Env -> Heap -> Prop) (h : ((0 <= (iand .i64 v61 3))) /\ (((iand .i64 v61 3) < 4)) /\ (((0 + ((Int.toNat (iand .i64 v61 3)) * 1)) < 4)) /\ ((0 <= v5)) /\ ((v5 < 11)) /\ ((0 <= v61)) /\ ((v61 < 16)) /\ (((((0 + ((Int.toNat v5) * 16)) * 1) + ((Int.toNat v61) * 1)) < 176)) /\ (((((0 + ((Int.toNat v5) * 16)) * 1) + ((Int.toNat v61) * 1)) < List.length h1_1'2)) /\ Z (Yf1 v4'1 v5 v61) ⟨4, [(1, some ⟨true, [.ints .u8 256 sboxT, .ints .u8 176 (List.set h1_1'2 (((0 + ((Int.toNat v5) * 16)) * 1) + ((Int.toNat v61) * 1)) (List.getD h3'2 (0 + ((Int.toNat (iand .i64 v61 3)) * 1)) 0))], 0⟩), (2, some ⟨true, [.ints .u8 16 h2], 0⟩), (3, some ⟨true, [.ints .u8 4 h3'2], 0⟩)]⟩) : EvNC GaNew cz26_n15m [[], [], [], [], [], [], [3], [], [], [], [], []] (Yf4 v4'1 v5 v61) (Yf0 h1_1'2 h2 h3'2) [3, 4, 5, 6, 7, 61] [1, 2, 3] Z := EvNC.of (by kernel_rfl) h
def vz26_1 (key : List Int) (v4'1 v5 v61 : Int) (h1_1'2 h2 h3'2 : List Int) (v4 : Int) (h1_1'1 h3'1 : List Int) : Prop := ((0 <= (iand .i64 v61 3))) /\ ((((iand .i64 v61 3) < 4)) /\ ((((0 + ((Int.toNat (iand .i64 v61 3)) * 1)) < 4)) /\ (((0 <= v5)) /\ (((v5 < 11)) /\ (((0 <= v61)) /\ (((v61 < 16)) /\ ((((((0 + ((Int.toNat v5) * 16)) * 1) + ((Int.toNat v61) * 1)) < 176)) /\ ((((((0 + ((Int.toNat v5) * 16)) * 1) + ((Int.toNat v61) * 1)) < List.length h1_1'2)) /\ (∀ h1_1'3 : List Int, h1_1'3 = (List.set h1_1'2 (((0 + ((Int.toNat v5) * 16)) * 1) + ((Int.toNat v61) * 1)) (List.getD h3'2 (0 + ((Int.toNat (iand .i64 v61 3)) * 1)) 0)) -> vz26_0 key v4'1 v5 v61 h1_1'3 h2 h3'2 v4 h1_1'1 h1_1'2 h3'1)))))))))
theorem pz26_1 (key : List Int) (hK : (Yf3 Kf key)) (v4'1 v5 v61 : Int) (h1_1'2 h2 h3'2 : List Int) (v4 : Int) (h1_1'1 h3'1 : List Int) (h : vz26_1 key v4'1 v5 v61 h1_1'2 h2 h3'2 v4 h1_1'1 h3'1) : SemL Try.prog w0 fp ρi 0 86 [cz26_n15] (Yf4 v4'1 v5 v61) (Yf0 h1_1'2 h2 h3'2) (kkz26_5 w0 fp ρi Kf key v4 v5 h1_1'1 v4'1 h2 v61 h1_1'2 h3'1) :=
  L_regME hGaNew (steps := cz26_n15m) (rz26_1 key v4'1 v5 v61 h1_1'2 h2 h3'2 v4 h1_1'1 h3'1 _ ⟨h.1, ⟨h.2.1, ⟨h.2.2.1, ⟨h.2.2.2.1, ⟨h.2.2.2.2.1, ⟨h.2.2.2.2.2.1, ⟨h.2.2.2.2.2.2.1, ⟨h.2.2.2.2.2.2.2.1, ⟨h.2.2.2.2.2.2.2.2.1, (L_nil (pz26_0 key hK v4'1 v5 v61 (List.set h1_1'2 (((0 + ((Int.toNat v5) * 16)) * 1) + ((Int.toNat v61) * 1)) (List.getD h3'2 (0 + ((Int.toNat (iand .i64 v61 3)) * 1)) 0)) h2 h3'2 v4 h1_1'1 h1_1'2 h3'1 (h.2.2.2.2.2.2.2.2.2 (List.set h1_1'2 (((0 + ((Int.toNat v5) * 16)) * 1) + ((Int.toNat v61) * 1)) (List.getD h3'2 (0 + ((Int.toNat (iand .i64 v61 3)) * 1)) 0)) rfl)))⟩⟩⟩⟩⟩⟩⟩⟩⟩)
theorem rz26_2 (key : List Int) (v4'1 v5 v61 : Int) (h1_1'2 h2 h3'1 : List Int) (v4 : Int) (h1_1'1 : List Int) (Z : Env -> Heap -> Prop) (h : ((0 <= (iand .i64 v61 3))) /\ (((iand .i64 v61 3) < 4)) /\ (((0 + ((Int.toNat (iand .i64 v61 3)) * 1)) < 4)) /\ ((0 <= v61)) /\ ((v61 < 16)) /\ (((0 + ((Int.toNat v61) * 1)) < 16)) /\ ((0 <= (iand .i64 v61 3))) /\ (((iand .i64 v61 3) < 4)) /\ (((0 + ((Int.toNat (iand .i64 v61 3)) * 1)) < 4)) /\ (((0 + ((Int.toNat (iand .i64 v61 3)) * 1)) < List.length h3'1)) /\ Z (Yf4 v4'1 v5 v61) ⟨4, [(1, some ⟨true, [.ints .u8 256 sboxT, .ints .u8 176 h1_1'2], 0⟩), (2, some ⟨true, [.ints .u8 16 h2], 0⟩), (3, some ⟨true, [.ints .u8 4 (List.set h3'1 (0 + ((Int.toNat (iand .i64 v61 3)) * 1)) (ixor .u8 (List.getD h3'1 (0 + ((Int.toNat (iand .i64 v61 3)) * 1)) 0) (List.getD h2 (0 + ((Int.toNat v61) * 1)) 0)))], 0⟩)]⟩) : EvNC GaNew cz26_n14m [[], [], [], [3], [], [], [2], [], [], []] (Yf4 v4'1 v5 v61) (Yf0 h1_1'2 h2 h3'1) [3, 4, 5, 6, 7, 8, 61] [1, 2, 3] Z := EvNC.of (by kernel_rfl) h
def vz26_2 (key : List Int) (v4'1 v5 v61 : Int) (h1_1'2 h2 h3'1 : List Int) (v4 : Int) (h1_1'1 : List Int) : Prop := ((0 <= (iand .i64 v61 3))) /\ ((((iand .i64 v61 3) < 4)) /\ ((((0 + ((Int.toNat (iand .i64 v61 3)) * 1)) < 4)) /\ (((0 <= v61)) /\ (((v61 < 16)) /\ ((((0 + ((Int.toNat v61) * 1)) < 16)) /\ (((0 <= (iand .i64 v61 3))) /\ ((((iand .i64 v61 3) < 4)) /\ ((((0 + ((Int.toNat (iand .i64 v61 3)) * 1)) < 4)) /\ ((((0 + ((Int.toNat (iand .i64 v61 3)) * 1)) < List.length h3'1)) /\ (∀ h3'2 : List Int, h3'2 = (List.set h3'1 (0 + ((Int.toNat (iand .i64 v61 3)) * 1)) (ixor .u8 (List.getD h3'1 (0 + ((Int.toNat (iand .i64 v61 3)) * 1)) 0) (List.getD h2 (0 + ((Int.toNat v61) * 1)) 0))) -> vz26_1 key v4'1 v5 v61 h1_1'2 h2 h3'2 v4 h1_1'1 h3'1))))))))))
theorem pz26_2 (key : List Int) (hK : (Yf3 Kf key)) (v4'1 v5 v61 : Int) (h1_1'2 h2 h3'1 : List Int) (v4 : Int) (h1_1'1 : List Int) (h : vz26_2 key v4'1 v5 v61 h1_1'2 h2 h3'1 v4 h1_1'1) : SemL Try.prog w0 fp ρi 0 86 [cz26_n14, cz26_n15] (Yf4 v4'1 v5 v61) (Yf0 h1_1'2 h2 h3'1) (kkz26_5 w0 fp ρi Kf key v4 v5 h1_1'1 v4'1 h2 v61 h1_1'2 h3'1) :=
  L_regME hGaNew (steps := cz26_n14m) (rz26_2 key v4'1 v5 v61 h1_1'2 h2 h3'1 v4 h1_1'1 _ ⟨h.1, ⟨h.2.1, ⟨h.2.2.1, ⟨h.2.2.2.1, ⟨h.2.2.2.2.1, ⟨h.2.2.2.2.2.1, ⟨h.2.2.2.2.2.2.1, ⟨h.2.2.2.2.2.2.2.1, ⟨h.2.2.2.2.2.2.2.2.1, ⟨h.2.2.2.2.2.2.2.2.2.1, (pz26_1 key hK v4'1 v5 v61 h1_1'2 h2 (List.set h3'1 (0 + ((Int.toNat (iand .i64 v61 3)) * 1)) (ixor .u8 (List.getD h3'1 (0 + ((Int.toNat (iand .i64 v61 3)) * 1)) 0) (List.getD h2 (0 + ((Int.toNat v61) * 1)) 0))) v4 h1_1'1 h3'1 (h.2.2.2.2.2.2.2.2.2.2 (List.set h3'1 (0 + ((Int.toNat (iand .i64 v61 3)) * 1)) (ixor .u8 (List.getD h3'1 (0 + ((Int.toNat (iand .i64 v61 3)) * 1)) 0) (List.getD h2 (0 + ((Int.toNat v61) * 1)) 0))) rfl))⟩⟩⟩⟩⟩⟩⟩⟩⟩⟩)
theorem rz26_3 (key : List Int) (v4'1 v5 v61 : Int) (h1_1'2 h2 h3'1 : List Int) (v4 : Int) (h1_1'1 : List Int) (Z : Env -> Heap -> Prop) (h : Z (Yf4 v4'1 v5 v61) (Yf0 h1_1'2 h2 h3'1)) : EvC GaNew cz26_n13 (Yf1 v4'1 v5 v61) (Yf0 h1_1'2 h2 h3'1) [3, 4, 5, 6, 7, 8, 61] [1, 2, 3] Z := EvC.of (by kernel_rfl) h
def vz26_3 (key : List Int) (v4'1 v5 v61 : Int) (h1_1'2 h2 h3'1 : List Int) (v4 : Int) (h1_1'1 : List Int) : Prop := vz26_2 key v4'1 v5 v61 h1_1'2 h2 h3'1 v4 h1_1'1
theorem pz26_3 (key : List Int) (hK : (Yf3 Kf key)) (v4'1 v5 v61 : Int) (h1_1'2 h2 h3'1 : List Int) (v4 : Int) (h1_1'1 : List Int) (h : vz26_3 key v4'1 v5 v61 h1_1'2 h2 h3'1 v4 h1_1'1) : SemL Try.prog w0 fp ρi 0 86 [cz26_n13, (.seq cz26_n14 cz26_n15)] (Yf1 v4'1 v5 v61) (Yf0 h1_1'2 h2 h3'1) (kkz26_5 w0 fp ρi Kf key v4 v5 h1_1'1 v4'1 h2 v61 h1_1'2 h3'1) :=
  L_regE hGaNew (rz26_3 key v4'1 v5 v61 h1_1'2 h2 h3'1 v4 h1_1'1 _ (L_seq (pz26_2 key hK v4'1 v5 v61 h1_1'2 h2 h3'1 v4 h1_1'1 h)))
def vz26_4 (key : List Int) (v4'1 v5 v61 : Int) (h1_1'2 h2 h3'1 : List Int) (v4 : Int) (h1_1'1 : List Int) : Prop := vz26_3 key v4'1 v5 v61 h1_1'2 h2 h3'1 v4 h1_1'1
theorem pz26_4 (key : List Int) (hK : (Yf3 Kf key)) (v4'1 v5 v61 : Int) (h1_1'2 h2 h3'1 : List Int) (v4 : Int) (h1_1'1 : List Int) (h : vz26_4 key v4'1 v5 v61 h1_1'2 h2 h3'1 v4 h1_1'1) : SemL Try.prog w0 fp ρi 0 86 [cz26_n16, cz26_n17] (Yf1 v4'1 v5 v61) (Yf0 h1_1'2 h2 h3'1) (kkz26_4 w0 fp ρi Kf key v4'1 v5 h2 v4 h1_1'1 v61 h1_1'2 h3'1) :=
  L_block (L_seq (pz26_3 key hK v4'1 v5 v61 h1_1'2 h2 h3'1 v4 h1_1'1 h))
abbrev Yf5 (x0 : List Int) : Heap := ⟨4, [(1, some ⟨true, [.ints .u8 256 sboxT, .ints .u8 176 x0], 0⟩)]⟩
abbrev Yf6 (x0 x1 : Int) : Env := [(3, some (.ptr ⟨1, 0, 0, 1⟩ 432)), (4, some (.int .u8 x0)), (5, some (.int .i64 x1))]
theorem rz26_5 (key : List Int) (v4'1 v5 : Int) (h1_1'2 : List Int) (v4 : Int) (h1_1'1 : List Int) (Z : Env -> Heap -> Prop) (h : Z [(3, some (.ptr ⟨1, 0, 0, 1⟩ 432)), (4, some (.int .u8 v4'1)), (5, some (.int .i64 (IntKind.i64.wrap (v5 + 1))))] (Yf5 h1_1'2)) : EvC GaNew cz26_n21 (Yf6 v4'1 v5) (Yf5 h1_1'2) [3, 4, 5] [1] Z := EvC.of (by kernel_rfl) h
def vz26_5 (key : List Int) (v4'1 v5 : Int) (h1_1'2 : List Int) (v4 : Int) (h1_1'1 : List Int) : Prop := (1 <= (IntKind.i64.wrap (v5 + 1)) /\ (IntKind.i64.wrap (v5 + 1)) <= 11 /\ v4'1 = (kRun key ((IntKind.i64.wrap (v5 + 1)) - 1).toNat).2 /\ h1_1'2.length = 176 /\ List.take (16 * (IntKind.i64.wrap (v5 + 1)).toNat) h1_1'2 = (kRun key ((IntKind.i64.wrap (v5 + 1)) - 1).toNat).1) /\ (((11 - (IntKind.i64.wrap (v5 + 1))).toNat) < ((11 - v5).toNat))
theorem pz26_5 (key : List Int) (hK : (Yf3 Kf key)) (v4'1 v5 : Int) (h1_1'2 : List Int) (v4 : Int) (h1_1'1 : List Int) (h : vz26_5 key v4'1 v5 h1_1'2 v4 h1_1'1) : SemL Try.prog w0 fp ρi 0 86 [cz26_n21] (Yf6 v4'1 v5) (Yf5 h1_1'2) (kkz26_1 w0 fp ρi Kf key v4 v5 h1_1'1) :=
  L_regE hGaNew (rz26_5 key v4'1 v5 h1_1'2 v4 h1_1'1 _ (L_nil (loop_back (x' := (v4'1, (IntKind.i64.wrap (v5 + 1)), h1_1'2)) (τ := tau []) h.1 h.2 (sub_tau' [] [1] rfl rfl (esc bpt (esc pbd (esc pbd envSub_nil))) (hsc pcs heapSub_nil) (by kernel_rfl) rfl))))
def vz26_6 (key : List Int) (v4'1 v5 v61 : Int) (h1_1'2 h2 h3'1 : List Int) (v4 : Int) (h1_1'1 : List Int) : Prop := ((decide (v61 < 16)) = true -> (vz26_4 key v4'1 v5 v61 h1_1'2 h2 h3'1 v4 h1_1'1)) /\ ((decide (v61 < 16)) = false -> (vz26_5 key v4'1 v5 h1_1'2 v4 h1_1'1))
abbrev Yf7 (x0 x1 x2 : Int) : Env := [(3, some (.ptr ⟨1, 0, 0, 1⟩ 432)), (4, some (.int .u8 x0)), (5, some (.int .i64 x1)), (6, some (.ptr ⟨2, 0, 0, 1⟩ 16)), (7, some (.ptr ⟨3, 0, 0, 1⟩ 4)), (61, some (.int .i64 x2)), (62, some (.bool (decide (x2 < 16))))]
theorem pz26_6 (key : List Int) (hK : (Yf3 Kf key)) (v4'1 v5 v61 : Int) (h1_1'2 h2 h3'1 : List Int) (v4 : Int) (h1_1'1 : List Int) (h : vz26_6 key v4'1 v5 v61 h1_1'2 h2 h3'1 v4 h1_1'1) : SemL Try.prog w0 fp ρi 0 86 [cz26_n12, (.seq cz26_n16 cz26_n17)] (Yf7 v4'1 v5 v61) (Yf0 h1_1'2 h2 h3'1) (kkz26_4 w0 fp ρi Kf key v4'1 v5 h2 v4 h1_1'1 v61 h1_1'2 h3'1) :=
  L_cond (q := (decide (v61 < 16))) (by kernel_rfl) (fun hq => (L_skip (lpk [3, 4, 5, 6, 7, 61] [1, 2, 3] (L_seq (pz26_4 key hK v4'1 v5 v61 h1_1'2 h2 h3'1 v4 h1_1'1 (h.1 hq)))))) (fun hq => (L_exit (lpk [3, 4, 5] [1] (L_nil (pz26_5 key hK v4'1 v5 h1_1'2 v4 h1_1'1 (h.2 hq))))))
theorem rz26_7 (key : List Int) (v4'1 v5 v61 : Int) (h1_1'2 h2 h3'1 : List Int) (v4 : Int) (h1_1'1 : List Int) (Z : Env -> Heap -> Prop) (h : Z (Yf7 v4'1 v5 v61) (Yf0 h1_1'2 h2 h3'1)) : EvC GaNew cz26_n11 (Yf1 v4'1 v5 v61) (Yf0 h1_1'2 h2 h3'1) [3, 4, 5, 6, 7, 61, 62] [1, 2, 3] Z := EvC.of (by kernel_rfl) h
def vz26_7 (key : List Int) (v4'1 v5 v61 : Int) (h1_1'2 h2 h3'1 : List Int) (v4 : Int) (h1_1'1 : List Int) : Prop := vz26_6 key v4'1 v5 v61 h1_1'2 h2 h3'1 v4 h1_1'1
theorem pz26_7 (key : List Int) (hK : (Yf3 Kf key)) (v4'1 v5 v61 : Int) (h1_1'2 h2 h3'1 : List Int) (v4 : Int) (h1_1'1 : List Int) (h : vz26_7 key v4'1 v5 v61 h1_1'2 h2 h3'1 v4 h1_1'1) : SemL Try.prog w0 fp ρi 0 86 [cz26_n11, (.seq cz26_n12 (.seq cz26_n16 cz26_n17))] (Yf1 v4'1 v5 v61) (Yf0 h1_1'2 h2 h3'1) (kkz26_4 w0 fp ρi Kf key v4'1 v5 h2 v4 h1_1'1 v61 h1_1'2 h3'1) :=
  L_regE hGaNew (rz26_7 key v4'1 v5 v61 h1_1'2 h2 h3'1 v4 h1_1'1 _ (L_seq (pz26_6 key hK v4'1 v5 v61 h1_1'2 h2 h3'1 v4 h1_1'1 h)))
def vz26_8 (key : List Int) (v4'1 v5 : Int) (h1_1'1 h2 h3 : List Int) (v4 : Int) : Prop := (0 <= (0 : Int) /\ (0 : Int) <= 16 /\ h1_1'1.length = 176 /\ h3 = (kGo h2 v4 (0 : Int).toNat).1 /\ List.take (16 * v5.toNat + (0 : Int).toNat) h1_1'1 = (kRun key (v5 - 1).toNat).1 ++ (kGo h2 v4 (0 : Int).toNat).2) /\ (∀ (v61 : Int) (h1_1'2 h3'1 : List Int), (0 <= v61 /\ v61 <= 16 /\ h1_1'2.length = 176 /\ h3'1 = (kGo h2 v4 v61.toNat).1 /\ List.take (16 * v5.toNat + v61.toNat) h1_1'2 = (kRun key (v5 - 1).toNat).1 ++ (kGo h2 v4 v61.toNat).2) -> (vz26_7 key v4'1 v5 v61 h1_1'2 h2 h3'1 v4 h1_1'1))
abbrev Yf8 (x0 x1 : Int) : Env := [(3, some (.ptr ⟨1, 0, 0, 1⟩ 432)), (4, some (.int .u8 x0)), (5, some (.int .i64 x1)), (6, some (.ptr ⟨2, 0, 0, 1⟩ 16)), (7, some (.ptr ⟨3, 0, 0, 1⟩ 4)), (61, some (.int .i64 0))]
theorem pz26_8 (key : List Int) (hK : (Yf3 Kf key)) (v4'1 v5 : Int) (h1_1'1 h2 h3 : List Int) (v4 : Int) (h : vz26_8 key v4'1 v5 h1_1'1 h2 h3 v4) : SemL Try.prog w0 fp ρi 0 86 [cz26_n18] (Yf8 v4'1 v5) (Yf0 h1_1'1 h2 h3) (kkz26_3 w0 fp ρi Kf key v4 v5 h1_1'1) :=
  L_loop (ivz26_4 key v4'1 v5 h2 v4 h1_1'1) (muz26_4 key v4'1 v5 h2 v4 h1_1'1) (liz26_4 key v4'1 v5 h2 v4 h1_1'1) (ljz26_4 key v4'1 v5 h2 v4 h1_1'1) ⟨(0, h1_1'1, h3), tau [], h.1, (sub_tau' [] [1, 2, 3] rfl rfl (esc bpt (esc pbd (esc pbd (esc bpt (esc bpt (esc pbd envSub_nil)))))) (hsc pcs (hsc pcs (hsc pcs heapSub_nil))) (by kernel_rfl) rfl)⟩ (fun s => match s with | (v61, h1_1'2, h3'1) => fun hi => (L_seq (pz26_7 key hK v4'1 v5 v61 h1_1'2 h2 h3'1 v4 h1_1'1 (h.2 v61 h1_1'2 h3'1 hi))))
def vz26_9 (key : List Int) (v4'1 v5 : Int) (h1_1'1 h2 h3 : List Int) (v4 : Int) : Prop := vz26_8 key v4'1 v5 h1_1'1 h2 h3 v4
theorem pz26_9 (key : List Int) (hK : (Yf3 Kf key)) (v4'1 v5 : Int) (h1_1'1 h2 h3 : List Int) (v4 : Int) (h : vz26_9 key v4'1 v5 h1_1'1 h2 h3 v4) : SemL Try.prog w0 fp ρi 0 86 [cz26_n19] (Yf8 v4'1 v5) (Yf0 h1_1'1 h2 h3) (kkz26_2 w0 fp ρi Kf key v4 v5 h1_1'1) :=
  L_block (pz26_8 key hK v4'1 v5 h1_1'1 h2 h3 v4 h)
abbrev Yf9 (x0 x1 : Int) : Env := [(3, some (.ptr ⟨1, 0, 0, 1⟩ 432)), (4, some (.int .u8 x0)), (5, some (.int .i64 x1)), (6, some (.ptr ⟨2, 0, 0, 1⟩ 16)), (7, some (.ptr ⟨3, 0, 0, 1⟩ 4))]
theorem rz26_10 (key : List Int) (v4'1 v5 : Int) (h1_1'1 h2 h3 : List Int) (v4 : Int) (Z : Env -> Heap -> Prop) (h : Z (Yf8 v4'1 v5) (Yf0 h1_1'1 h2 h3)) : EvC GaNew cz26_n10 (Yf9 v4'1 v5) (Yf0 h1_1'1 h2 h3) [3, 4, 5, 6, 7, 61] [1, 2, 3] Z := EvC.of (by kernel_rfl) h
def vz26_10 (key : List Int) (v4'1 v5 : Int) (h1_1'1 h2 h3 : List Int) (v4 : Int) : Prop := vz26_9 key v4'1 v5 h1_1'1 h2 h3 v4
theorem pz26_10 (key : List Int) (hK : (Yf3 Kf key)) (v4'1 v5 : Int) (h1_1'1 h2 h3 : List Int) (v4 : Int) (h : vz26_10 key v4'1 v5 h1_1'1 h2 h3 v4) : SemL Try.prog w0 fp ρi 0 86 [cz26_n10, cz26_n19] (Yf9 v4'1 v5) (Yf0 h1_1'1 h2 h3) (kkz26_2 w0 fp ρi Kf key v4 v5 h1_1'1) :=
  L_regE hGaNew (rz26_10 key v4'1 v5 h1_1'1 h2 h3 v4 _ (pz26_9 key hK v4'1 v5 h1_1'1 h2 h3 v4 h))
theorem rz26_11 (key : List Int) (v4 v5 : Int) (h1_1'1 h2 h3 : List Int) (Z : Env -> Heap -> Prop) (h : ((0 <= v4 /\ v4 < 256)) /\ Z [(3, some (.ptr ⟨1, 0, 0, 1⟩ 432)), (4, some (.int .u8 (dbl v4))), (5, some (.int .i64 v5)), (6, some (.ptr ⟨2, 0, 0, 1⟩ 16)), (7, some (.ptr ⟨3, 0, 0, 1⟩ 4))] (Yf0 h1_1'1 h2 h3)) : EvC GaNew cz26_n9 (Yf9 v4 v5) (Yf0 h1_1'1 h2 h3) [3, 4, 5, 6, 7] [1, 2, 3] Z := EvC.of (by kernel_rfl) h
def vz26_11 (key : List Int) (v4 v5 : Int) (h1_1'1 h2 h3 : List Int) : Prop := ((0 <= v4 /\ v4 < 256)) /\ (∀ v4'1 : Int, v4'1 = (dbl v4) -> vz26_10 key v4'1 v5 h1_1'1 h2 h3 v4)
theorem pz26_11 (key : List Int) (hK : (Yf3 Kf key)) (v4 v5 : Int) (h1_1'1 h2 h3 : List Int) (h : vz26_11 key v4 v5 h1_1'1 h2 h3) : SemL Try.prog w0 fp ρi 0 86 [cz26_n9, (.seq cz26_n10 cz26_n19)] (Yf9 v4 v5) (Yf0 h1_1'1 h2 h3) (kkz26_2 w0 fp ρi Kf key v4 v5 h1_1'1) :=
  L_regE hGaNew (rz26_11 key v4 v5 h1_1'1 h2 h3 _ ⟨h.1, (L_seq (pz26_10 key hK (dbl v4) v5 h1_1'1 h2 h3 v4 (h.2 (dbl v4) rfl)))⟩)
abbrev Yf10 (x0 x1 : List Int) : Heap := ⟨3, [(1, some ⟨true, [.ints .u8 256 sboxT, .ints .u8 176 x0], 0⟩), (2, some ⟨true, [.ints .u8 16 x1], 0⟩)]⟩
abbrev Yf11 (x0 x1 : Int) : Env := [(3, some (.ptr ⟨1, 0, 0, 1⟩ 432)), (4, some (.int .u8 x0)), (5, some (.int .i64 x1)), (6, some (.ptr ⟨2, 0, 0, 1⟩ 16))]
theorem rz26_12 (key : List Int) (v4 v5 : Int) (h1_1'1 h2 : List Int) (Z : Env -> Heap -> Prop) (h : (((0 : Int) <= 13)) /\ (((13 : Int) < 16)) /\ (((13 : Nat) < 16)) /\ ((0 <= (List.getD h2 13 0))) /\ (((List.getD h2 13 0) < 256)) /\ (((0 + ((Int.toNat (List.getD h2 13 0)) * 1)) < 256)) /\ (((0 : Int) <= 14)) /\ (((14 : Int) < 16)) /\ (((14 : Nat) < 16)) /\ ((0 <= (List.getD h2 14 0))) /\ (((List.getD h2 14 0) < 256)) /\ (((0 + ((Int.toNat (List.getD h2 14 0)) * 1)) < 256)) /\ (((0 : Int) <= 15)) /\ (((15 : Int) < 16)) /\ (((15 : Nat) < 16)) /\ ((0 <= (List.getD h2 15 0))) /\ (((List.getD h2 15 0) < 256)) /\ (((0 + ((Int.toNat (List.getD h2 15 0)) * 1)) < 256)) /\ (((0 : Int) <= 12)) /\ (((12 : Int) < 16)) /\ (((12 : Nat) < 16)) /\ ((0 <= (List.getD h2 12 0))) /\ (((List.getD h2 12 0) < 256)) /\ (((0 + ((Int.toNat (List.getD h2 12 0)) * 1)) < 256)) /\ ((keeps ⟨4, [(1, some ⟨true, [.ints .u8 256 sboxT, .ints .u8 176 h1_1'1], 0⟩), (2, some ⟨true, [.ints .u8 16 h2], 0⟩), (3, some ⟨true, [.ints .u8 4 (List.replicate 4 0)], 0⟩)]⟩ (Heap.keep (Yf10 h1_1'1 h2) [1, 2]) (pickH [1, 2] (Yf10 h1_1'1 h2)))) /\ Z (Yf9 v4 v5) ⟨4, [(1, some ⟨true, [.ints .u8 256 sboxT, .ints .u8 176 h1_1'1], 0⟩), (2, some ⟨true, [.ints .u8 16 h2], 0⟩), (3, some ⟨true, [.ints .u8 4 [(ixor .u8 (List.getD sboxT (0 + ((Int.toNat (List.getD h2 13 0)) * 1)) 0) v4), (List.getD sboxT (0 + ((Int.toNat (List.getD h2 14 0)) * 1)) 0), (List.getD sboxT (0 + ((Int.toNat (List.getD h2 15 0)) * 1)) 0), (List.getD sboxT (0 + ((Int.toNat (List.getD h2 12 0)) * 1)) 0)]], 0⟩)]⟩) : EvNC GaNew cz26_n8m [[], [], [2], [], [], [], [1], [], [], [], [], [], [], [], [], [], [], [], [], [], [], [], [], [], [], [], [], [], [], [], [], [], []] (Yf11 v4 v5) (Yf10 h1_1'1 h2) [3, 4, 5, 6, 7] [1, 2, 3] Z := EvNC.of (by kernel_rfl) h
def vz26_12 (key : List Int) (v4 v5 : Int) (h1_1'1 h2 : List Int) : Prop := ((0 <= (List.getD h2 13 0))) /\ ((((List.getD h2 13 0) < 256)) /\ ((((0 + ((Int.toNat (List.getD h2 13 0)) * 1)) < 256)) /\ (((0 <= (List.getD h2 14 0))) /\ ((((List.getD h2 14 0) < 256)) /\ ((((0 + ((Int.toNat (List.getD h2 14 0)) * 1)) < 256)) /\ (((0 <= (List.getD h2 15 0))) /\ ((((List.getD h2 15 0) < 256)) /\ ((((0 + ((Int.toNat (List.getD h2 15 0)) * 1)) < 256)) /\ (((0 <= (List.getD h2 12 0))) /\ ((((List.getD h2 12 0) < 256)) /\ ((((0 + ((Int.toNat (List.getD h2 12 0)) * 1)) < 256)) /\ (∀ h3 : List Int, h3 = [(ixor .u8 (List.getD sboxT (0 + ((Int.toNat (List.getD h2 13 0)) * 1)) 0) v4), (List.getD sboxT (0 + ((Int.toNat (List.getD h2 14 0)) * 1)) 0), (List.getD sboxT (0 + ((Int.toNat (List.getD h2 15 0)) * 1)) 0), (List.getD sboxT (0 + ((Int.toNat (List.getD h2 12 0)) * 1)) 0)] -> vz26_11 key v4 v5 h1_1'1 h2 h3))))))))))))
theorem pz26_12 (key : List Int) (hK : (Yf3 Kf key)) (v4 v5 : Int) (h1_1'1 h2 : List Int) (h : vz26_12 key v4 v5 h1_1'1 h2) : SemL Try.prog w0 fp ρi 0 86 [cz26_n8, (.seq cz26_n9 (.seq cz26_n10 cz26_n19))] (Yf11 v4 v5) (Yf10 h1_1'1 h2) (kkz26_2 w0 fp ρi Kf key v4 v5 h1_1'1) :=
  L_regME hGaNew (steps := cz26_n8m) (rz26_12 key v4 v5 h1_1'1 h2 _ ⟨(by decide), ⟨(by decide), ⟨(by decide), ⟨h.1, ⟨h.2.1, ⟨h.2.2.1, ⟨(by decide), ⟨(by decide), ⟨(by decide), ⟨h.2.2.2.1, ⟨h.2.2.2.2.1, ⟨h.2.2.2.2.2.1, ⟨(by decide), ⟨(by decide), ⟨(by decide), ⟨h.2.2.2.2.2.2.1, ⟨h.2.2.2.2.2.2.2.1, ⟨h.2.2.2.2.2.2.2.2.1, ⟨(by decide), ⟨(by decide), ⟨(by decide), ⟨h.2.2.2.2.2.2.2.2.2.1, ⟨h.2.2.2.2.2.2.2.2.2.2.1, ⟨h.2.2.2.2.2.2.2.2.2.2.2.1, ⟨(keepsG_ids (by kernel_rfl)), (L_seq (pz26_11 key hK v4 v5 h1_1'1 h2 [(ixor .u8 (List.getD sboxT (0 + ((Int.toNat (List.getD h2 13 0)) * 1)) 0) v4), (List.getD sboxT (0 + ((Int.toNat (List.getD h2 14 0)) * 1)) 0), (List.getD sboxT (0 + ((Int.toNat (List.getD h2 15 0)) * 1)) 0), (List.getD sboxT (0 + ((Int.toNat (List.getD h2 12 0)) * 1)) 0)] (h.2.2.2.2.2.2.2.2.2.2.2.2 [(ixor .u8 (List.getD sboxT (0 + ((Int.toNat (List.getD h2 13 0)) * 1)) 0) v4), (List.getD sboxT (0 + ((Int.toNat (List.getD h2 14 0)) * 1)) 0), (List.getD sboxT (0 + ((Int.toNat (List.getD h2 15 0)) * 1)) 0), (List.getD sboxT (0 + ((Int.toNat (List.getD h2 12 0)) * 1)) 0)] rfl)))⟩⟩⟩⟩⟩⟩⟩⟩⟩⟩⟩⟩⟩⟩⟩⟩⟩⟩⟩⟩⟩⟩⟩⟩⟩)
abbrev Yf12 (x0 : List Int) : Heap := ⟨2, [(1, some ⟨true, [.ints .u8 256 sboxT, .ints .u8 176 x0], 0⟩)]⟩
theorem rz26_13 (key : List Int) (v4 v5 : Int) (h1_1'1 : List Int) (Z : Env -> Heap -> Prop) (h : ((0 <= (IntKind.i64.wrap (v5 - 1)))) /\ (((IntKind.i64.wrap (v5 - 1)) < 11)) /\ ((((0 + ((Int.toNat (IntKind.i64.wrap (v5 - 1))) * 16)) + 16) <= 176)) /\ Z (Yf11 v4 v5) ⟨3, [(1, some ⟨true, [.ints .u8 256 sboxT, .ints .u8 176 h1_1'1], 0⟩), (2, some ⟨true, [.ints .u8 16 (List.take 16 (List.drop (0 + ((Int.toNat (IntKind.i64.wrap (v5 - 1))) * 16)) h1_1'1))], 0⟩)]⟩) : EvC GaNew cz26_n7 (Yf6 v4 v5) (Yf12 h1_1'1) [3, 4, 5, 6] [1, 2] Z := EvC.of (by kernel_rfl) h
def vz26_13 (key : List Int) (v4 v5 : Int) (h1_1'1 : List Int) : Prop := ((0 <= (IntKind.i64.wrap (v5 - 1)))) /\ ((((IntKind.i64.wrap (v5 - 1)) < 11)) /\ (((((0 + ((Int.toNat (IntKind.i64.wrap (v5 - 1))) * 16)) + 16) <= 176)) /\ (∀ h2 : List Int, h2 = (List.take 16 (List.drop (0 + ((Int.toNat (IntKind.i64.wrap (v5 - 1))) * 16)) h1_1'1)) -> vz26_12 key v4 v5 h1_1'1 h2)))
theorem pz26_13 (key : List Int) (hK : (Yf3 Kf key)) (v4 v5 : Int) (h1_1'1 : List Int) (h : vz26_13 key v4 v5 h1_1'1) : SemL Try.prog w0 fp ρi 0 86 [cz26_n7, (.seq cz26_n8 (.seq cz26_n9 (.seq cz26_n10 cz26_n19)))] (Yf6 v4 v5) (Yf12 h1_1'1) (kkz26_2 w0 fp ρi Kf key v4 v5 h1_1'1) :=
  L_regE hGaNew (rz26_13 key v4 v5 h1_1'1 _ ⟨h.1, ⟨h.2.1, ⟨h.2.2.1, (L_seq (pz26_12 key hK v4 v5 h1_1'1 (List.take 16 (List.drop (0 + ((Int.toNat (IntKind.i64.wrap (v5 - 1))) * 16)) h1_1'1)) (h.2.2.2 (List.take 16 (List.drop (0 + ((Int.toNat (IntKind.i64.wrap (v5 - 1))) * 16)) h1_1'1)) rfl)))⟩⟩⟩)
def vz26_14 (key : List Int) (v4 v5 : Int) (h1_1'1 : List Int) : Prop := vz26_13 key v4 v5 h1_1'1
theorem pz26_14 (key : List Int) (hK : (Yf3 Kf key)) (v4 v5 : Int) (h1_1'1 : List Int) (h : vz26_14 key v4 v5 h1_1'1) : SemL Try.prog w0 fp ρi 0 86 [cz26_n20, cz26_n21] (Yf6 v4 v5) (Yf12 h1_1'1) (kkz26_1 w0 fp ρi Kf key v4 v5 h1_1'1) :=
  L_block (L_seq (pz26_13 key hK v4 v5 h1_1'1 h))
abbrev Yf13 : Env := [(3, some (.ptr ⟨1, 0, 0, 1⟩ 432))]
theorem rz26_15 (key h1_1'1 : List Int) (Z : Env -> Heap -> Prop) (h : Z [(2, some (.ptr ⟨1, 0, 0, 1⟩ 432))] (Yf12 h1_1'1)) : EvC GaNew cz26_n24 Yf13 (Yf12 h1_1'1) [2] [1] Z := EvC.of (by kernel_rfl) h
theorem rtz26_0 (key h1_1'1 : List Int) : RetC RaNew [(2, some (.ptr ⟨1, 0, 0, 1⟩ 432))] (Yf12 h1_1'1) (.ptr ⟨1, 0, 0, 1⟩ 432) := RetC.of (fun Z => by kernel_rfl)
def vz26_15 (key h1_1'1 : List Int) : Prop := h1_1'1 = (keysL key)
theorem pz26_15 (key : List Int) (hK : (Yf3 Kf key)) (h1_1'1 : List Int) (h : vz26_15 key h1_1'1) : SemL Try.prog w0 fp ρi 0 86 [cz26_n24, .ret] Yf13 (Yf12 h1_1'1) (fnK RaNew 0 Kf) :=
  L_regE hGaNew (rz26_15 key h1_1'1 _ (L_retE (R := RaNew) (m := 0) (Kf := Kf) (fun _ _ h => h) (rtz26_0 key h1_1'1) (ret_of0 (Eq.mpr (cg1 (fun (z1 : List Int) => Ret0 0 Kf (.ptr ⟨1, 0, 0, 1⟩ 432) (Yf12 z1)) h) (ret0_tau [(0, 1)] [0] rfl (by kernel_rfl) rfl bpt (hsc pcs heapSub_nil) rfl (by kernel_rfl) (hK))))))
def vz26_16 (key : List Int) (v4 v5 : Int) (h1_1'1 : List Int) : Prop := ((decide (v5 <= 10)) = true -> (vz26_14 key v4 v5 h1_1'1)) /\ ((decide (v5 <= 10)) = false -> (vz26_15 key h1_1'1))
abbrev Yf14 (x0 x1 : Int) : Env := [(3, some (.ptr ⟨1, 0, 0, 1⟩ 432)), (4, some (.int .u8 x0)), (5, some (.int .i64 x1)), (18, some (.bool (decide (x1 <= 10))))]
theorem pz26_16 (key : List Int) (hK : (Yf3 Kf key)) (v4 v5 : Int) (h1_1'1 : List Int) (h : vz26_16 key v4 v5 h1_1'1) : SemL Try.prog w0 fp ρi 0 86 [cz26_n6, (.seq cz26_n20 cz26_n21)] (Yf14 v4 v5) (Yf12 h1_1'1) (kkz26_1 w0 fp ρi Kf key v4 v5 h1_1'1) :=
  L_cond (q := (decide (v5 <= 10))) (by kernel_rfl) (fun hq => (L_skip (lpk [3, 4, 5] [1] (L_seq (pz26_14 key hK v4 v5 h1_1'1 (h.1 hq)))))) (fun hq => (L_exit (lpk [3] [1] (L_seq (pz26_15 key hK h1_1'1 (h.2 hq))))))
theorem rz26_17 (key : List Int) (v4 v5 : Int) (h1_1'1 : List Int) (Z : Env -> Heap -> Prop) (h : Z (Yf14 v4 v5) (Yf12 h1_1'1)) : EvC GaNew cz26_n5 (Yf6 v4 v5) (Yf12 h1_1'1) [3, 4, 5, 18] [1] Z := EvC.of (by kernel_rfl) h
def vz26_17 (key : List Int) (v4 v5 : Int) (h1_1'1 : List Int) : Prop := vz26_16 key v4 v5 h1_1'1
theorem pz26_17 (key : List Int) (hK : (Yf3 Kf key)) (v4 v5 : Int) (h1_1'1 : List Int) (h : vz26_17 key v4 v5 h1_1'1) : SemL Try.prog w0 fp ρi 0 86 [cz26_n5, cz26_n6, (.seq cz26_n20 cz26_n21)] (Yf6 v4 v5) (Yf12 h1_1'1) (kkz26_1 w0 fp ρi Kf key v4 v5 h1_1'1) :=
  L_regE hGaNew (rz26_17 key v4 v5 h1_1'1 _ (pz26_16 key hK v4 v5 h1_1'1 h))
def vz26_18 (key h1_1 : List Int) : Prop := (1 <= (1 : Int) /\ (1 : Int) <= 11 /\ (1 : Int) = (kRun key ((1 : Int) - 1).toNat).2 /\ h1_1.length = 176 /\ List.take (16 * (1 : Int).toNat) h1_1 = (kRun key ((1 : Int) - 1).toNat).1) /\ (∀ (v4 v5 : Int) (h1_1'1 : List Int), (1 <= v5 /\ v5 <= 11 /\ v4 = (kRun key (v5 - 1).toNat).2 /\ h1_1'1.length = 176 /\ List.take (16 * v5.toNat) h1_1'1 = (kRun key (v5 - 1).toNat).1) -> (vz26_17 key v4 v5 h1_1'1))
abbrev Yf15 : Env := [(3, some (.ptr ⟨1, 0, 0, 1⟩ 432)), (4, some (.int .u8 1)), (5, some (.int .i64 1))]
theorem pz26_18 (key : List Int) (hK : (Yf3 Kf key)) (h1_1 : List Int) (h : vz26_18 key h1_1) : SemL Try.prog w0 fp ρi 0 86 [cz26_n22] Yf15 (Yf12 h1_1) (kkz26_0 w0 fp ρi Kf key) :=
  L_loop (ivz26_1 key) (muz26_1 key) (liz26_1 key) (ljz26_1 key) ⟨(1, 1, h1_1), tau [], h.1, (sub_tau' [] [1] rfl rfl (esc bpt (esc pbd (esc pbd envSub_nil))) (hsc pcs heapSub_nil) (by kernel_rfl) rfl)⟩ (fun s => match s with | (v4, v5, h1_1'1) => fun hi => (L_seq (L_seq (pz26_17 key hK v4 v5 h1_1'1 (h.2 v4 v5 h1_1'1 hi)))))
def vz26_19 (key h1_1 : List Int) : Prop := vz26_18 key h1_1
theorem pz26_19 (key : List Int) (hK : (Yf3 Kf key)) (h1_1 : List Int) (h : vz26_19 key h1_1) : SemL Try.prog w0 fp ρi 0 86 [cz26_n23, (.seq cz26_n24 .ret)] Yf15 (Yf12 h1_1) (fnK RaNew 0 Kf) :=
  L_block (pz26_18 key hK h1_1 h)
abbrev Yf16 : Env := [(3, some (.ptr ⟨1, 0, 0, 1⟩ 432)), (4, some (.int .u8 1))]
theorem rz26_20 (key h1_1 : List Int) (Z : Env -> Heap -> Prop) (h : Z Yf15 (Yf12 h1_1)) : EvC GaNew cz26_n4 Yf16 (Yf12 h1_1) [3, 4, 5] [1] Z := EvC.of (by kernel_rfl) h
def vz26_20 (key h1_1 : List Int) : Prop := vz26_19 key h1_1
theorem pz26_20 (key : List Int) (hK : (Yf3 Kf key)) (h1_1 : List Int) (h : vz26_20 key h1_1) : SemL Try.prog w0 fp ρi 0 86 [cz26_n4, cz26_n23, (.seq cz26_n24 .ret)] Yf16 (Yf12 h1_1) (fnK RaNew 0 Kf) :=
  L_regE hGaNew (rz26_20 key h1_1 _ (pz26_19 key hK h1_1 h))
theorem rz26_21 (key h1_1 : List Int) (Z : Env -> Heap -> Prop) (h : Z Yf16 (Yf12 h1_1)) : EvC GaNew cz26_n3 Yf13 (Yf12 h1_1) [3, 4] [1] Z := EvC.of (by kernel_rfl) h
def vz26_21 (key h1_1 : List Int) : Prop := vz26_20 key h1_1
theorem pz26_21 (key : List Int) (hK : (Yf3 Kf key)) (h1_1 : List Int) (h : vz26_21 key h1_1) : SemL Try.prog w0 fp ρi 0 86 [cz26_n3, (.seq (.seq cz26_n4 cz26_n23) (.seq cz26_n24 .ret))] Yf13 (Yf12 h1_1) (fnK RaNew 0 Kf) :=
  L_regE hGaNew (rz26_21 key h1_1 _ (L_seq (L_seq (pz26_20 key hK h1_1 h))))
abbrev Yf17 : Env := [(1, some (.ptr ⟨0, 0, 0, 1⟩ 16)), (3, some (.ptr ⟨1, 0, 0, 1⟩ 432))]
abbrev Yf18 (x0 : List Int) : Heap := ⟨2, [(0, some ⟨true, [.ints .u8 16 x0], 0⟩), (1, some ⟨true, [.ints .u8 256 sboxT, .ints .u8 176 (List.replicate 176 0)], 0⟩)]⟩
theorem rz26_22 (key : List Int) (Z : Env -> Heap -> Prop) (h : (((0 : Int) <= 0)) /\ (((0 : Int) < 11)) /\ (((16 : Nat) <= 176)) /\ ((List.length ((List.replicate 176 0) : List Int) = 176)) /\ ((List.length key = 16)) /\ Z Yf13 ⟨2, [(1, some ⟨true, [.ints .u8 256 sboxT, .ints .u8 176 (List.take 0 (List.replicate 176 0) ++ key ++ List.drop (0 + 16) (List.replicate 176 0))], 0⟩)]⟩) : EvNC GaNew cz26_n2m [[], [0], [], [], [], []] Yf17 (Yf18 key) [3] [1] Z := EvNC.of (by kernel_rfl) h
def vz26_22 (key : List Int) : Prop := ((List.length key = 16)) /\ (∀ h1_1 : List Int, h1_1 = (List.take 0 (List.replicate 176 0) ++ key ++ List.drop (0 + 16) (List.replicate 176 0)) -> vz26_21 key h1_1)
theorem pz26_22 (key : List Int) (hK : (Yf3 Kf key)) (h : vz26_22 key) : SemL Try.prog w0 fp ρi 0 86 [cz26_n2, (.seq cz26_n3 (.seq (.seq cz26_n4 cz26_n23) (.seq cz26_n24 .ret)))] Yf17 (Yf18 key) (fnK RaNew 0 Kf) :=
  L_regME hGaNew (steps := cz26_n2m) (rz26_22 key _ ⟨(by decide), ⟨(by decide), ⟨(by decide), ⟨(by simp), ⟨h.1, (L_seq (pz26_21 key hK (List.take 0 (List.replicate 176 0) ++ key ++ List.drop (0 + 16) (List.replicate 176 0)) (h.2 (List.take 0 (List.replicate 176 0) ++ key ++ List.drop (0 + 16) (List.replicate 176 0)) rfl)))⟩⟩⟩⟩⟩)
abbrev Yf19 : Env := [(1, some (.ptr ⟨0, 0, 0, 1⟩ 16))]
abbrev Yf20 (x0 : List Int) : Heap := ⟨1, [(0, some ⟨true, [.ints .u8 16 x0], 0⟩)]⟩
theorem rz26_23 (key : List Int) (Z : Env -> Heap -> Prop) (h : (True) /\ Z Yf17 (Yf18 key)) : EvC GaNew cz26_n1 Yf19 (Yf20 key) [1, 3] [0, 1] Z := EvC.of (by kernel_rfl) h
def vz26_23 (key : List Int) : Prop := vz26_22 key
theorem pz26_23 (key : List Int) (hK : (Yf3 Kf key)) (h : vz26_23 key) : SemL Try.prog w0 fp ρi 0 86 [cz26_n1, (.seq cz26_n2 (.seq cz26_n3 (.seq (.seq cz26_n4 cz26_n23) (.seq cz26_n24 .ret))))] Yf19 (Yf20 key) (fnK RaNew 0 Kf) :=
  L_regE hGaNew (rz26_23 key _ ⟨True.intro, (L_seq (pz26_22 key hK h))⟩)
theorem rz26_24 (key : List Int) (Z : Env -> Heap -> Prop) (h : Z Yf19 (Yf20 key)) : EvC GaNew cz26_n0 [(0, some (.agg [.ints .u8 16 key]))] ⟨0, []⟩ [1] [0] Z := EvC.of (by kernel_rfl) h
def vz26_24 (key : List Int) : Prop := vz26_23 key
theorem pz26_24 (key : List Int) (hK : (Yf3 Kf key)) (h : vz26_24 key) : SemL Try.prog w0 fp ρi 0 86 [cz26_n0, (.seq cz26_n1 (.seq cz26_n2 (.seq cz26_n3 (.seq (.seq cz26_n4 cz26_n23) (.seq cz26_n24 .ret)))))] [(0, some (.agg [.ints .u8 16 key]))] ⟨0, []⟩ (fnK RaNew 0 Kf) :=
  L_regE hGaNew (rz26_24 key _ (L_seq (pz26_23 key hK h)))
def vcaNew (key : List Int) : Prop := vz26_24 key
theorem waNew (key : List Int) (hK : (Yf3 Kf key)) (h : vcaNew key) : SemL Try.prog w0 fp ρi 0 86 [caNew] [(0, some (.agg [.ints .u8 16 key]))] ⟨0, []⟩ (fnK RaNew 0 Kf) :=
  (L_seq (pz26_24 key hK h))
end
theorem okaNew (key : List Int) (hpre : (BlkOk key)) : vcaNew key := by
  unfold vcaNew vz26_24 vz26_23 vz26_22 vz26_21 vz26_20 vz26_19 vz26_18 vz26_17 vz26_16 vz26_15 vz26_14 vz26_13 vz26_12 vz26_11 vz26_10 vz26_9 vz26_8 vz26_7 vz26_6 vz26_5 vz26_4 vz26_3 vz26_2 vz26_1 vz26_0
  have hk := hpre
  refine ⟨hk.1, ?_⟩
  rintro h1 e1
  have l1 : h1.length = 176 := by rw [e1]; simp [hk.1]
  have t1 : List.take 16 h1 = key := by rw [e1, List.take_zero, List.nil_append, List.take_left' hk.1]
  refine ⟨⟨by omega, by omega, rfl, l1, t1⟩, ?_⟩
  rintro v4 v5 hh ⟨i0, i1, i2, i3, i4⟩
  obtain ⟨r, hr⟩ : ∃ r : Nat, (v5 - 1).toNat = r := ⟨_, rfl⟩
  have hv5 : v5.toNat = r + 1 := by omega
  rw [hr] at i2 i4
  obtain ⟨o1, o2, o3⟩ := kRun_ok hk r
  refine ⟨fun hlt => ?_, fun hge => ?_⟩
  · have hlt := of_decide_eq_true hlt
    have w1 : IntKind.i64.wrap (v5 - 1) = v5 - 1 := by rw [wi64]; omega
    have w2 : IntKind.i64.wrap (v5 + 1) = v5 + 1 := by rw [wi64]; omega
    rw [w1, w2, hr]
    refine ⟨by omega, by omega, by omega, ?_⟩
    rintro h2 e2
    have e2 : h2 = (kRun key r).1.drop (16 * r) := by
      rw [e2, <- i4, List.drop_take, Nat.zero_add, Nat.mul_comm r 16]
      congr 1
      omega
    have b2 : ∀ j, 0 <= h2.getD j 0 /\ h2.getD j 0 < 256 := fun j => getDb (by rw [e2]; exact fun x hx => o2 x (List.mem_of_mem_drop hx)) j
    refine ⟨(b2 _).1, (b2 _).2, by have := b2 13; omega, (b2 _).1, (b2 _).2, by have := b2 14; omega, (b2 _).1, (b2 _).2, by have := b2 15; omega, (b2 _).1, (b2 _).2, by have := b2 12; omega, ?_⟩
    rintro h3 e3
    have e3 : h3 = (kGo h2 v4 0).1 := by rw [e3]; simp only [Nat.zero_add, Nat.mul_one]; rfl
    refine ⟨by rw [i2]; exact o3, ?_⟩
    rintro v41 rfl
    refine ⟨⟨by omega, by omega, i3, e3, by rw [show (0 : Int).toNat = 0 from rfl, Nat.add_zero, i4]; simp [kGo]⟩, ?_⟩
    rintro v61 hh2 h31 ⟨j0, j1, j2, rfl, j4⟩
    have gl := kGo_len h2 v4 v61.toNat
    refine ⟨fun hlt2 => ?_, fun hge2 => ?_⟩
    · have hlt2 := of_decide_eq_true hlt2
      have w3 : IntKind.i64.wrap (v61 + 1) = v61 + 1 := by rw [wi64]; omega
      have a3 := and3 v61.toNat (by omega)
      rw [show ((v61.toNat : Nat) : Int) = v61 by omega] at a3
      rw [a3, w3, Int.toNat_natCast]
      simp only [Nat.zero_add, Nat.mul_one]
      have hm : v61.toNat % 4 < 4 := Nat.mod_lt _ (by omega)
      refine ⟨by omega, by omega, hm, j0, by omega, by omega, by omega, by omega, hm, by omega, ?_⟩
      rintro h32 rfl
      refine ⟨by omega, by omega, hm, by omega, by omega, j0, by omega, by omega, by omega, ?_⟩
      rintro hh3 rfl
      have eq : ((kGo h2 v4 v61.toNat).1.set (v61.toNat % 4) (ixor .u8 ((kGo h2 v4 v61.toNat).1.getD (v61.toNat % 4) 0) (h2.getD v61.toNat 0))).getD (v61.toNat % 4) 0 = ixor .u8 ((kGo h2 v4 v61.toNat).1.getD (v61.toNat % 4) 0) (h2.getD v61.toNat 0) := by
        rw [getD_setI (by omega), if_pos rfl]
      rw [eq]
      have e1 : (v61 + 1).toNat = v61.toNat + 1 := by omega
      refine ⟨⟨by omega, by omega, by rw [List.length_set, j2], by rw [e1]; rfl, ?_⟩, by omega⟩
      rw [e1, <- Nat.add_assoc, Nat.mul_comm v5.toNat 16, take_set1 (by omega), j4, kGo, List.append_assoc]
    · have hge2 : v61 = 16 := by have := of_decide_eq_false hge2; omega
      subst hge2
      refine ⟨⟨by omega, by omega, ?_, j2, ?_⟩, by omega⟩
      · rw [show (v5 + 1 - 1).toNat = r + 1 by omega, kRun, i2]
      · rw [show (v5 + 1 - 1).toNat = r + 1 by omega, show 16 * (v5 + 1).toNat = 16 * v5.toNat + (16 : Int).toNat by omega, j4, kRun, e2, i2]
        rfl
  · have hge : v5 = 11 := by have := of_decide_eq_false hge; omega
    subst hge
    have : r = 10 := by omega
    subst this
    rw [List.take_of_length_le (by omega)] at i4
    exact i4
theorem saNew : Sound Try.prog 26 (gS DaNew) := by
  refine fn_soundA caNew_fits ?_
  intro args H K h
  obtain ⟨pre, out, hD, hpre, hK⟩ := gS_inv h
  unfold DaNew at hD
  split at hD
  · obtain ⟨hb, hD⟩ := bif_some hD
    have h0 := hb
    obtain rfl := Nat.eq_of_beq_eq_true h0
    cases hD
    exact ⟨rfl, fun w0 fp ρi => waNew _ hK (okaNew _ hpre)⟩
  · cases hD
end Go.Proofs.Ytefmjmghkedciaa
