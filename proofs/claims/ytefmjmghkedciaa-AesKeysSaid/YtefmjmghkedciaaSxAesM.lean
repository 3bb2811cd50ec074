/- Part of the proof: SxAesM. -/
import Derived.Test.YtefmjmghkedciaaSxAesW
import Derived.KernelRfl
set_option linter.unusedVariables false
set_option linter.unusedSimpArgs false
set_option maxRecDepth 20000
namespace Go.Proofs.Ytefmjmghkedciaa
open Go.Sx
def DaMix : GSpec := fun args H => match args, H with
  | [.ptr ⟨0, 0, 0, 1⟩ 16], ⟨1, [(0, some ⟨true, [.ints .u8 st_n st], 0⟩)]⟩ => bif Nat.beq st_n 16 then some ((BlkOk st), fun K => K (.tuple []) ⟨1, [(0, some ⟨true, [.ints .u8 16 (mixL st)], 0⟩)]⟩) else none
  | _, _ => none
def conaMix : Con := ⟨52, gS DaMix, [0], [], []⟩
def cz52_n0 : ACode := .reg (.op (some 8) (.mov (.cn (.int .i64 0))) .nil)
def cz52_n1 : ACode := .reg (.op (some 9) (.bin .lss (.tm 8) (.cn (.int .i64 4))) .nil)
def cz52_n2 : ACode := .cond (.tm 9) .skip (.exit 0)
def cz52_n3 : ACode := .reg (.op (some 10) (.mov (.tm 8)) (.op (some 2) (.mov (.tm 10)) .nil))
def cz52_n4 : ACode := .reg (.op (some 11) (.mov (.tm 0)) (.op (some 12) (.nilCheck (.tm 11)) (.op (some 13) (.mov (.tm 2)) (.op (some 14) (.bin .mul (.cn (.int .i64 4)) (.tm 13)) (.op (some 15) (.mov (.tm 2)) (.op (some 16) (.bin .mul (.cn (.int .i64 4)) (.tm 15)) (.op (some 17) (.bin .add (.tm 16) (.cn (.int .i64 4))) (.op (some 18) (.sliceP 16 (.tm 12) (some (.tm 14)) (some (.tm 17)) none) (.op (some 3) (.mov (.tm 18)) .nil)))))))))
def cz52_n5i : Items := .op (some 19) (.mov (.tm 3)) (.op (some 20) (.idxS (.tm 19) (.cn (.int .i64 0)) 1) (.op (some 21) (.load1 (.tm 20)) (.op (some 22) (.mov (.tm 3)) (.op (some 23) (.idxS (.tm 22) (.cn (.int .i64 1)) 1) (.op (some 24) (.load1 (.tm 23)) (.op (some 25) (.bin .xor (.tm 21) (.tm 24)) (.op (some 26) (.mov (.tm 3)) (.op (some 27) (.idxS (.tm 26) (.cn (.int .i64 2)) 1) (.op (some 28) (.load1 (.tm 27)) (.op (some 29) (.bin .xor (.tm 25) (.tm 28)) (.op (some 30) (.mov (.tm 3)) (.op (some 31) (.idxS (.tm 30) (.cn (.int .i64 3)) 1) (.op (some 32) (.load1 (.tm 31)) (.op (some 33) (.bin .xor (.tm 29) (.tm 32)) (.op (some 4) (.mov (.tm 33)) .nil)))))))))))))))
def cz52_n5 : ACode := .regQ cz52_n5i
def cz52_n6 : ACode := .reg (.op (some 34) (.mov (.tm 3)) (.op (some 35) (.idxS (.tm 34) (.cn (.int .i64 0)) 1) (.op (some 36) (.load1 (.tm 35)) (.op (some 5) (.mov (.tm 36)) .nil))))
def cz52_n7 : ACode := .reg (.op (some 37) (.mov (.tm 3)) (.op (some 38) (.len (.tm 37)) (.op (some 39) (.mov (.cn (.int .i64 0))) .nil)))
def cz52_n8 : ACode := .reg (.op (some 40) (.bin .lss (.tm 39) (.tm 38)) .nil)
def cz52_n9 : ACode := .cond (.tm 40) .skip (.exit 2)
def cz52_n10 : ACode := .reg (.op (some 41) (.mov (.tm 39)) (.op (some 6) (.mov (.tm 41)) .nil))
def cz52_n11 : ACode := .reg (.op (some 42) (.mov (.tm 5)) (.op (some 7) (.mov (.tm 42)) .nil))
def cz52_n12 : ACode := .reg (.op (some 43) (.mov (.tm 6)) (.op (some 44) (.bin .lss (.tm 43) (.cn (.int .i64 3))) .nil))
def cz52_n13 : ACode := .reg (.op (some 45) (.mov (.tm 3)) (.op (some 46) (.mov (.tm 6)) (.op (some 47) (.bin .add (.tm 46) (.cn (.int .i64 1))) (.op (some 48) (.idxS (.tm 45) (.tm 47) 1) (.op (some 49) (.load1 (.tm 48)) (.op (some 7) (.mov (.tm 49)) .nil))))))
def cz52_n14 : ACode := .cond (.tm 44) cz52_n13 .skip
def cz52_n15m : List MStep := [.mk 0 0 (some 50) (.mov (.tm 3)), .mk 1 0 (some 51) (.mov (.tm 6)), .mk 2 0 (some 52) (.idxS (.tm 50) (.tm 51) 1), .mk 3 0 (some 53) (.load1 (.tm 52)), .mk 4 0 (some 54) (.mov (.tm 4)), .mk 5 0 (some 55) (.mov (.tm 3)), .mk 6 0 (some 56) (.mov (.tm 6)), .mk 7 0 (some 57) (.idxS (.tm 55) (.tm 56) 1), .mk 8 0 (some 58) (.load1 (.tm 57)), .mk 9 0 (some 59) (.mov (.tm 7)), .mk 10 0 (some 60) (.bin .xor (.tm 58) (.tm 59)), .mk 11 1 (some 61) (.call 47 [(.tm 60)]), .mk 12 0 (some 62) (.bin .xor (.tm 54) (.tm 61)), .mk 13 0 (some 63) (.bin .xor (.tm 53) (.tm 62)), .mk 14 0 (some 64) (.idxS (.tm 50) (.tm 51) 1), .mk 15 2 none (.store1 (.tm 64) (.tm 63))]
def cz52_n15 : ACode := .regM cz52_n15m
def cz52_n16 : ACode := .block 3 (.seq cz52_n10 (.seq cz52_n11 (.seq (.seq cz52_n12 cz52_n14) cz52_n15)))
def cz52_n17 : ACode := .reg (.op (some 65) (.bin .add (.tm 39) (.cn (.int .i64 1))) (.op (some 39) (.mov (.tm 65)) .nil))
def cz52_n18 : ACode := .loop (.seq cz52_n8 (.seq cz52_n9 (.seq cz52_n16 cz52_n17)))
def cz52_n19 : ACode := .block 2 cz52_n18
def cz52_n20 : ACode := .block 1 (.seq cz52_n3 (.seq cz52_n4 (.seq cz52_n5 (.seq cz52_n6 (.seq cz52_n7 cz52_n19)))))
def cz52_n21 : ACode := .reg (.op (some 66) (.bin .add (.tm 8) (.cn (.int .i64 1))) (.op (some 8) (.mov (.tm 66)) .nil))
def cz52_n22 : ACode := .loop (.seq cz52_n1 (.seq cz52_n2 (.seq cz52_n20 cz52_n21)))
def cz52_n23 : ACode := .block 0 cz52_n22
def caMix : ACode := (.seq cz52_n0 cz52_n23)
def RaMix : Res := .many []
theorem caMix_fits : fnFits Try.prog 52 1 67 caMix RaMix = true := by kernel_rfl
def GaMix : Calls' := withP [pcaDouble] []
theorem hGaMix : CallOk Try.prog GaMix := withP_ok ⟨saDouble, trivial⟩ trivial
section
variable {w0 : World} {fp : Nat -> Nat -> Prop} {ρi : Rho} {Kf : SVal -> Heap -> Prop}
def kkz52_0 (w0 : World) (fp : Nat -> Nat -> Prop) (ρi : Rho) (Kf : SVal -> Heap -> Prop) (st : List Int) : Cont := blockK 0 (fun e H => SemL Try.prog w0 fp ρi 1 67 [] e H (fnK RaMix 1 Kf)) (fnK RaMix 1 Kf)
def ivz52_1 (st : List Int) : Int × List Int -> Prop := fun s => match s with | (v8, h0) => 0 <= v8 /\ v8 <= 4 /\ h0.length = 16 /\ ∀ j : Nat, j < 16 -> h0.getD j 0 = if (j : Int) < 4 * v8 then mixF st j else st.getD j 0
def muz52_1 (st : List Int) : Int × List Int -> Nat := fun s => match s with | (v8, h0) => ((4 - v8).toNat)
def liz52_1 (st : List Int) : Int × List Int -> Env := fun s => match s with | (v8, h0) => [(0, some (.ptr ⟨0, 0, 0, 1⟩ 16)), (8, some (.int .i64 v8))]
def ljz52_1 (st : List Int) : Int × List Int -> Heap := fun s => match s with | (v8, h0) => ⟨1, [(0, some ⟨true, [.ints .u8 16 h0], 0⟩)]⟩
def kkz52_1 (w0 : World) (fp : Nat -> Nat -> Prop) (ρi : Rho) (Kf : SVal -> Heap -> Prop) (st : List Int) (v8 : Int) (h0 : List Int) : Cont := loopK 1 (ivz52_1 st) (muz52_1 st) (liz52_1 st) (ljz52_1 st) (v8, h0) (kkz52_0 w0 fp ρi Kf st)
def kkz52_2 (w0 : World) (fp : Nat -> Nat -> Prop) (ρi : Rho) (Kf : SVal -> Heap -> Prop) (st : List Int) (v8 : Int) (h0 : List Int) : Cont := blockK 1 (fun e H => SemL Try.prog w0 fp ρi 1 67 [cz52_n21] e H (kkz52_1 w0 fp ρi Kf st v8 h0)) (kkz52_1 w0 fp ρi Kf st v8 h0)
def kkz52_3 (w0 : World) (fp : Nat -> Nat -> Prop) (ρi : Rho) (Kf : SVal -> Heap -> Prop) (st : List Int) (v8 : Int) (h0 : List Int) : Cont := blockK 2 (fun e H => SemL Try.prog w0 fp ρi 1 67 [] e H (kkz52_2 w0 fp ρi Kf st v8 h0)) (kkz52_2 w0 fp ρi Kf st v8 h0)
def ivz52_4 (st : List Int) (v3i v3l v3c : Nat) (v4 v5 v8 v38 : Int) (h0 : List Int) : Int × List Int -> Prop := fun s => match s with | (v39, h0'1) => 0 <= v39 /\ v39 <= 4 /\ h0'1.length = 16 /\ ∀ j : Nat, j < 16 -> h0'1.getD j 0 = if (j : Int) < 4 * v8 + v39 then mixF st j else st.getD j 0
def muz52_4 (st : List Int) (v3i v3l v3c : Nat) (v4 v5 v8 v38 : Int) (h0 : List Int) : Int × List Int -> Nat := fun s => match s with | (v39, h0'1) => ((4 - v39).toNat)
def liz52_4 (st : List Int) (v3i v3l v3c : Nat) (v4 v5 v8 v38 : Int) (h0 : List Int) : Int × List Int -> Env := fun s => match s with | (v39, h0'1) => [(0, some (.ptr ⟨0, 0, 0, 1⟩ 16)), (3, some (.slice ⟨0, 0, v3i, 1⟩ v3l v3c)), (4, some (.int .u8 v4)), (5, some (.int .u8 v5)), (8, some (.int .i64 v8)), (38, some (.int .i64 v38)), (39, some (.int .i64 v39))]
def ljz52_4 (st : List Int) (v3i v3l v3c : Nat) (v4 v5 v8 v38 : Int) (h0 : List Int) : Int × List Int -> Heap := fun s => match s with | (v39, h0'1) => ⟨1, [(0, some ⟨true, [.ints .u8 16 h0'1], 0⟩)]⟩
def kkz52_4 (w0 : World) (fp : Nat -> Nat -> Prop) (ρi : Rho) (Kf : SVal -> Heap -> Prop) (st : List Int) (v3i v3l v3c : Nat) (v4 v5 v8 v38 : Int) (h0 : List Int) (v39 : Int) (h0'1 : List Int) : Cont := loopK 1 (ivz52_4 st v3i v3l v3c v4 v5 v8 v38 h0) (muz52_4 st v3i v3l v3c v4 v5 v8 v38 h0) (liz52_4 st v3i v3l v3c v4 v5 v8 v38 h0) (ljz52_4 st v3i v3l v3c v4 v5 v8 v38 h0) (v39, h0'1) (kkz52_3 w0 fp ρi Kf st v8 h0)
abbrev Yd0 (x0 : List Int) : Heap := ⟨1, [(0, some ⟨true, [.ints .u8 16 x0], 0⟩)]⟩
abbrev Yd1 (x0 x1 x2 : Nat) (x3 x4 x5 x6 x7 : Int) : Env := [(0, some (.ptr ⟨0, 0, 0, 1⟩ 16)), (3, some (.slice ⟨0, 0, x0, 1⟩ x1 x2)), (4, some (.int .u8 x3)), (5, some (.int .u8 x4)), (8, some (.int .i64 x5)), (38, some (.int .i64 x6)), (39, some (.int .i64 x7))]
theorem rz52_0 (st : List Int) (v3i v3l v3c : Nat) (v4 v5 v8 v38 v39 : Int) (h0'2 h0 h0'1 : List Int) (Z : Env -> Heap -> Prop) (h : Z [(0, some (.ptr ⟨0, 0, 0, 1⟩ 16)), (3, some (.slice ⟨0, 0, v3i, 1⟩ v3l v3c)), (4, some (.int .u8 v4)), (5, some (.int .u8 v5)), (8, some (.int .i64 v8)), (38, some (.int .i64 v38)), (39, some (.int .i64 (IntKind.i64.wrap (v39 + 1))))] (Yd0 h0'2)) : EvC GaMix cz52_n17 (Yd1 v3i v3l v3c v4 v5 v8 v38 v39) (Yd0 h0'2) [0, 3, 4, 5, 8, 38, 39] [0] Z := EvC.of (by kernel_rfl) h
def vz52_0 (st : List Int) (v3i v3l v3c : Nat) (v4 v5 v8 v38 v39 : Int) (h0'2 h0 h0'1 : List Int) : Prop := (0 <= (IntKind.i64.wrap (v39 + 1)) /\ (IntKind.i64.wrap (v39 + 1)) <= 4 /\ h0'2.length = 16 /\ ∀ j : Nat, j < 16 -> h0'2.getD j 0 = if (j : Int) < 4 * v8 + (IntKind.i64.wrap (v39 + 1)) then mixF st j else st.getD j 0) /\ (((4 - (IntKind.i64.wrap (v39 + 1))).toNat) < ((4 - v39).toNat))
abbrev Yd2 (x0 : List Int) : Heap := ⟨1, [(0, some ⟨true, [.ints .u8 16 (mixL x0)], 0⟩)]⟩
abbrev Yd3 (x0 : SVal -> Heap -> Prop) (x1 : List Int) : Prop := x0 (.tuple []) ⟨1, [(0, some ⟨true, [.ints .u8 16 (mixL x1)], 0⟩)]⟩
theorem pz52_0 (st : List Int) (hK : (Yd3 Kf st)) (v3i v3l v3c : Nat) (v4 v5 v8 v38 v39 : Int) (h0'2 h0 h0'1 : List Int) (h : vz52_0 st v3i v3l v3c v4 v5 v8 v38 v39 h0'2 h0 h0'1) : SemL Try.prog w0 fp ρi 1 67 [cz52_n17] (Yd1 v3i v3l v3c v4 v5 v8 v38 v39) (Yd0 h0'2) (kkz52_4 w0 fp ρi Kf st v3i v3l v3c v4 v5 v8 v38 h0 v39 h0'1) :=
  L_regE hGaMix (rz52_0 st v3i v3l v3c v4 v5 v8 v38 v39 h0'2 h0 h0'1 _ (L_nil (loop_back (x' := ((IntKind.i64.wrap (v39 + 1)), h0'2)) (τ := tau []) h.1 h.2 (sub_tau' [] [0] rfl rfl (esc bpt (esc bsl (esc pbd (esc pbd (esc pbd (esc pbd (esc pbd envSub_nil))))))) (hsc pcs heapSub_nil) (by kernel_rfl) rfl))))
def kkz52_5 (w0 : World) (fp : Nat -> Nat -> Prop) (ρi : Rho) (Kf : SVal -> Heap -> Prop) (st : List Int) (v8 : Int) (h0 : List Int) (v3i v3l v3c : Nat) (v4 v5 v38 v39 : Int) (h0'1 : List Int) : Cont := blockK 3 (fun e H => SemL Try.prog w0 fp ρi 1 67 [cz52_n17] e H (kkz52_4 w0 fp ρi Kf st v3i v3l v3c v4 v5 v8 v38 h0 v39 h0'1)) (kkz52_4 w0 fp ρi Kf st v3i v3l v3c v4 v5 v8 v38 h0 v39 h0'1)
abbrev Yd4 (x0 x1 x2 : Nat) (x3 x4 x5 x6 x7 x8 : Int) : Env := [(0, some (.ptr ⟨0, 0, 0, 1⟩ 16)), (3, some (.slice ⟨0, 0, x0, 1⟩ x1 x2)), (4, some (.int .u8 x3)), (5, some (.int .u8 x4)), (6, some (.int .i64 x5)), (7, some (.int .u8 x6)), (8, some (.int .i64 x7)), (38, some (.int .i64 x8)), (39, some (.int .i64 x5))]
theorem rz52_1 (st : List Int) (v3i v3l v3c : Nat) (v4 v5 v39 v7 v8 v38 : Int) (h0'1 h0 : List Int) (Z : Env -> Heap -> Prop) (h : ((0 <= v39)) /\ ((v39 < ((v3l : Nat) : Int))) /\ (((v3i + (Int.toNat v39)) < 16)) /\ ((0 <= v39)) /\ ((v39 < ((v3l : Nat) : Int))) /\ (((v3i + (Int.toNat v39)) < 16)) /\ ((0 <= (ixor .u8 (List.getD h0'1 (v3i + (Int.toNat v39)) 0) v7) /\ (ixor .u8 (List.getD h0'1 (v3i + (Int.toNat v39)) 0) v7) < 256)) /\ ((keeps (Yd0 h0'1) (Heap.keep (Yd0 h0'1) [0]) (pickH [0] (Yd0 h0'1)))) /\ ((0 <= v39)) /\ ((v39 < ((v3l : Nat) : Int))) /\ (((v3i + (Int.toNat v39)) < 16)) /\ (((v3i + (Int.toNat v39)) < List.length h0'1)) /\ Z (Yd1 v3i v3l v3c v4 v5 v8 v38 v39) ⟨1, [(0, some ⟨true, [.ints .u8 16 (List.set h0'1 (v3i + (Int.toNat v39)) (ixor .u8 (List.getD h0'1 (v3i + (Int.toNat v39)) 0) (ixor .u8 v4 (dbl (ixor .u8 (List.getD h0'1 (v3i + (Int.toNat v39)) 0) v7)))))], 0⟩)]⟩) : EvNC GaMix cz52_n15m [[], [], [], [0], [], [], [], [], [], [], [], [], [], [], [], []] (Yd4 v3i v3l v3c v4 v5 v39 v7 v8 v38) (Yd0 h0'1) [0, 3, 4, 5, 8, 38, 39] [0] Z := EvNC.of (by kernel_rfl) h
def vz52_1 (st : List Int) (v3i v3l v3c : Nat) (v4 v5 v39 v7 v8 v38 : Int) (h0'1 h0 : List Int) : Prop := ((0 <= v39)) /\ (((v39 < ((v3l : Nat) : Int))) /\ ((((v3i + (Int.toNat v39)) < 16)) /\ (((0 <= v39)) /\ (((v39 < ((v3l : Nat) : Int))) /\ ((((v3i + (Int.toNat v39)) < 16)) /\ (((0 <= (ixor .u8 (List.getD h0'1 (v3i + (Int.toNat v39)) 0) v7) /\ (ixor .u8 (List.getD h0'1 (v3i + (Int.toNat v39)) 0) v7) < 256)) /\ (((0 <= v39)) /\ (((v39 < ((v3l : Nat) : Int))) /\ ((((v3i + (Int.toNat v39)) < 16)) /\ ((((v3i + (Int.toNat v39)) < List.length h0'1)) /\ (∀ h0'2 : List Int, h0'2 = (List.set h0'1 (v3i + (Int.toNat v39)) (ixor .u8 (List.getD h0'1 (v3i + (Int.toNat v39)) 0) (ixor .u8 v4 (dbl (ixor .u8 (List.getD h0'1 (v3i + (Int.toNat v39)) 0) v7))))) -> vz52_0 st v3i v3l v3c v4 v5 v8 v38 v39 h0'2 h0 h0'1)))))))))))
theorem pz52_1 (st : List Int) (hK : (Yd3 Kf st)) (v3i v3l v3c : Nat) (v4 v5 v39 v7 v8 v38 : Int) (h0'1 h0 : List Int) (h : vz52_1 st v3i v3l v3c v4 v5 v39 v7 v8 v38 h0'1 h0) : SemL Try.prog w0 fp ρi 1 67 [cz52_n15] (Yd4 v3i v3l v3c v4 v5 v39 v7 v8 v38) (Yd0 h0'1) (kkz52_5 w0 fp ρi Kf st v8 h0 v3i v3l v3c v4 v5 v38 v39 h0'1) :=
  L_regME hGaMix (steps := cz52_n15m) (rz52_1 st v3i v3l v3c v4 v5 v39 v7 v8 v38 h0'1 h0 _ ⟨h.1, ⟨h.2.1, ⟨h.2.2.1, ⟨h.2.2.2.1, ⟨h.2.2.2.2.1, ⟨h.2.2.2.2.2.1, ⟨h.2.2.2.2.2.2.1, ⟨keepsG_refl, ⟨h.2.2.2.2.2.2.2.1, ⟨h.2.2.2.2.2.2.2.2.1, ⟨h.2.2.2.2.2.2.2.2.2.1, ⟨h.2.2.2.2.2.2.2.2.2.2.1, (L_nil (pz52_0 st hK v3i v3l v3c v4 v5 v8 v38 v39 (List.set h0'1 (v3i + (Int.toNat v39)) (ixor .u8 (List.getD h0'1 (v3i + (Int.toNat v39)) 0) (ixor .u8 v4 (dbl (ixor .u8 (List.getD h0'1 (v3i + (Int.toNat v39)) 0) v7))))) h0 h0'1 (h.2.2.2.2.2.2.2.2.2.2.2 (List.set h0'1 (v3i + (Int.toNat v39)) (ixor .u8 (List.getD h0'1 (v3i + (Int.toNat v39)) 0) (ixor .u8 v4 (dbl (ixor .u8 (List.getD h0'1 (v3i + (Int.toNat v39)) 0) v7))))) rfl)))⟩⟩⟩⟩⟩⟩⟩⟩⟩⟩⟩⟩)
abbrev Yd5 (x0 x1 x2 : Nat) (x3 x4 x5 x6 x7 : Int) : Env := [(0, some (.ptr ⟨0, 0, 0, 1⟩ 16)), (3, some (.slice ⟨0, 0, x0, 1⟩ x1 x2)), (4, some (.int .u8 x3)), (5, some (.int .u8 x4)), (6, some (.int .i64 x5)), (8, some (.int .i64 x6)), (38, some (.int .i64 x7)), (39, some (.int .i64 x5))]
theorem rz52_2 (st : List Int) (v3i v3l v3c : Nat) (v4 v5 v39 v8 v38 : Int) (h0'1 h0 : List Int) (Z : Env -> Heap -> Prop) (h : ((0 <= (IntKind.i64.wrap (v39 + 1)))) /\ (((IntKind.i64.wrap (v39 + 1)) < ((v3l : Nat) : Int))) /\ (((v3i + (Int.toNat (IntKind.i64.wrap (v39 + 1)))) < 16)) /\ Z [(0, some (.ptr ⟨0, 0, 0, 1⟩ 16)), (3, some (.slice ⟨0, 0, v3i, 1⟩ v3l v3c)), (4, some (.int .u8 v4)), (5, some (.int .u8 v5)), (6, some (.int .i64 v39)), (7, some (.int .u8 (List.getD h0'1 (v3i + (Int.toNat (IntKind.i64.wrap (v39 + 1)))) 0))), (8, some (.int .i64 v8)), (38, some (.int .i64 v38)), (39, some (.int .i64 v39))] (Yd0 h0'1)) : EvC GaMix cz52_n13 (Yd5 v3i v3l v3c v4 v5 v39 v8 v38) (Yd0 h0'1) [0, 3, 4, 5, 6, 7, 8, 38, 39] [0] Z := EvC.of (by kernel_rfl) h
def vz52_2 (st : List Int) (v3i v3l v3c : Nat) (v4 v5 v39 v8 v38 : Int) (h0'1 h0 : List Int) : Prop := ((0 <= (IntKind.i64.wrap (v39 + 1)))) /\ ((((IntKind.i64.wrap (v39 + 1)) < ((v3l : Nat) : Int))) /\ ((((v3i + (Int.toNat (IntKind.i64.wrap (v39 + 1)))) < 16)) /\ (∀ v7 : Int, v7 = (List.getD h0'1 (v3i + (Int.toNat (IntKind.i64.wrap (v39 + 1)))) 0) -> vz52_1 st v3i v3l v3c v4 v5 v39 v7 v8 v38 h0'1 h0)))
theorem pz52_2 (st : List Int) (hK : (Yd3 Kf st)) (v3i v3l v3c : Nat) (v4 v5 v39 v8 v38 : Int) (h0'1 h0 : List Int) (h : vz52_2 st v3i v3l v3c v4 v5 v39 v8 v38 h0'1 h0) : SemL Try.prog w0 fp ρi 1 67 [cz52_n13, cz52_n15] (Yd5 v3i v3l v3c v4 v5 v39 v8 v38) (Yd0 h0'1) (kkz52_5 w0 fp ρi Kf st v8 h0 v3i v3l v3c v4 v5 v38 v39 h0'1) :=
  L_regE hGaMix (rz52_2 st v3i v3l v3c v4 v5 v39 v8 v38 h0'1 h0 _ ⟨h.1, ⟨h.2.1, ⟨h.2.2.1, (pz52_1 st hK v3i v3l v3c v4 v5 v39 (List.getD h0'1 (v3i + (Int.toNat (IntKind.i64.wrap (v39 + 1)))) 0) v8 v38 h0'1 h0 (h.2.2.2 (List.getD h0'1 (v3i + (Int.toNat (IntKind.i64.wrap (v39 + 1)))) 0) rfl))⟩⟩⟩)
def vz52_3 (st : List Int) (v3i v3l v3c : Nat) (v4 v5 v39 v8 v38 : Int) (h0'1 h0 : List Int) : Prop := ((decide (v39 < 3)) = true -> (vz52_2 st v3i v3l v3c v4 v5 v39 v8 v38 h0'1 h0)) /\ ((decide (v39 < 3)) = false -> (vz52_1 st v3i v3l v3c v4 v5 v39 v5 v8 v38 h0'1 h0))
abbrev Yd6 (x0 x1 x2 : Nat) (x3 x4 x5 x6 x7 : Int) : Env := [(0, some (.ptr ⟨0, 0, 0, 1⟩ 16)), (3, some (.slice ⟨0, 0, x0, 1⟩ x1 x2)), (4, some (.int .u8 x3)), (5, some (.int .u8 x4)), (6, some (.int .i64 x5)), (7, some (.int .u8 x4)), (8, some (.int .i64 x6)), (38, some (.int .i64 x7)), (39, some (.int .i64 x5)), (44, some (.bool (decide (x5 < 3))))]
theorem pz52_3 (st : List Int) (hK : (Yd3 Kf st)) (v3i v3l v3c : Nat) (v4 v5 v39 v8 v38 : Int) (h0'1 h0 : List Int) (h : vz52_3 st v3i v3l v3c v4 v5 v39 v8 v38 h0'1 h0) : SemL Try.prog w0 fp ρi 1 67 [cz52_n14, cz52_n15] (Yd6 v3i v3l v3c v4 v5 v39 v8 v38) (Yd0 h0'1) (kkz52_5 w0 fp ρi Kf st v8 h0 v3i v3l v3c v4 v5 v38 v39 h0'1) :=
  L_cond (q := (decide (v39 < 3))) (by kernel_rfl) (fun hq => (lpk [0, 3, 4, 5, 6, 8, 38, 39] [0] (pz52_2 st hK v3i v3l v3c v4 v5 v39 v8 v38 h0'1 h0 (h.1 hq)))) (fun hq => (L_skip (lpk [0, 3, 4, 5, 6, 7, 8, 38, 39] [0] (pz52_1 st hK v3i v3l v3c v4 v5 v39 v5 v8 v38 h0'1 h0 (h.2 hq)))))
abbrev Yd7 (x0 x1 x2 : Nat) (x3 x4 x5 x6 x7 : Int) : Env := [(0, some (.ptr ⟨0, 0, 0, 1⟩ 16)), (3, some (.slice ⟨0, 0, x0, 1⟩ x1 x2)), (4, some (.int .u8 x3)), (5, some (.int .u8 x4)), (6, some (.int .i64 x5)), (7, some (.int .u8 x4)), (8, some (.int .i64 x6)), (38, some (.int .i64 x7)), (39, some (.int .i64 x5))]
theorem rz52_4 (st : List Int) (v3i v3l v3c : Nat) (v4 v5 v39 v8 v38 : Int) (h0'1 h0 : List Int) (Z : Env -> Heap -> Prop) (h : Z (Yd6 v3i v3l v3c v4 v5 v39 v8 v38) (Yd0 h0'1)) : EvC GaMix cz52_n12 (Yd7 v3i v3l v3c v4 v5 v39 v8 v38) (Yd0 h0'1) [0, 3, 4, 5, 6, 7, 8, 38, 39, 44] [0] Z := EvC.of (by kernel_rfl) h
def vz52_4 (st : List Int) (v3i v3l v3c : Nat) (v4 v5 v39 v8 v38 : Int) (h0'1 h0 : List Int) : Prop := vz52_3 st v3i v3l v3c v4 v5 v39 v8 v38 h0'1 h0
theorem pz52_4 (st : List Int) (hK : (Yd3 Kf st)) (v3i v3l v3c : Nat) (v4 v5 v39 v8 v38 : Int) (h0'1 h0 : List Int) (h : vz52_4 st v3i v3l v3c v4 v5 v39 v8 v38 h0'1 h0) : SemL Try.prog w0 fp ρi 1 67 [cz52_n12, cz52_n14, cz52_n15] (Yd7 v3i v3l v3c v4 v5 v39 v8 v38) (Yd0 h0'1) (kkz52_5 w0 fp ρi Kf st v8 h0 v3i v3l v3c v4 v5 v38 v39 h0'1) :=
  L_regE hGaMix (rz52_4 st v3i v3l v3c v4 v5 v39 v8 v38 h0'1 h0 _ (pz52_3 st hK v3i v3l v3c v4 v5 v39 v8 v38 h0'1 h0 h))
theorem rz52_5 (st : List Int) (v3i v3l v3c : Nat) (v4 v5 v39 v8 v38 : Int) (h0'1 h0 : List Int) (Z : Env -> Heap -> Prop) (h : Z (Yd7 v3i v3l v3c v4 v5 v39 v8 v38) (Yd0 h0'1)) : EvC GaMix cz52_n11 (Yd5 v3i v3l v3c v4 v5 v39 v8 v38) (Yd0 h0'1) [0, 3, 4, 5, 6, 7, 8, 38, 39] [0] Z := EvC.of (by kernel_rfl) h
def vz52_5 (st : List Int) (v3i v3l v3c : Nat) (v4 v5 v39 v8 v38 : Int) (h0'1 h0 : List Int) : Prop := vz52_4 st v3i v3l v3c v4 v5 v39 v8 v38 h0'1 h0
theorem pz52_5 (st : List Int) (hK : (Yd3 Kf st)) (v3i v3l v3c : Nat) (v4 v5 v39 v8 v38 : Int) (h0'1 h0 : List Int) (h : vz52_5 st v3i v3l v3c v4 v5 v39 v8 v38 h0'1 h0) : SemL Try.prog w0 fp ρi 1 67 [cz52_n11, (.seq (.seq cz52_n12 cz52_n14) cz52_n15)] (Yd5 v3i v3l v3c v4 v5 v39 v8 v38) (Yd0 h0'1) (kkz52_5 w0 fp ρi Kf st v8 h0 v3i v3l v3c v4 v5 v38 v39 h0'1) :=
  L_regE hGaMix (rz52_5 st v3i v3l v3c v4 v5 v39 v8 v38 h0'1 h0 _ (L_seq (L_seq (pz52_4 st hK v3i v3l v3c v4 v5 v39 v8 v38 h0'1 h0 h))))
theorem rz52_6 (st : List Int) (v3i v3l v3c : Nat) (v4 v5 v8 v38 v39 : Int) (h0'1 h0 : List Int) (Z : Env -> Heap -> Prop) (h : Z (Yd5 v3i v3l v3c v4 v5 v39 v8 v38) (Yd0 h0'1)) : EvC GaMix cz52_n10 (Yd1 v3i v3l v3c v4 v5 v8 v38 v39) (Yd0 h0'1) [0, 3, 4, 5, 6, 8, 38, 39] [0] Z := EvC.of (by kernel_rfl) h
def vz52_6 (st : List Int) (v3i v3l v3c : Nat) (v4 v5 v8 v38 v39 : Int) (h0'1 h0 : List Int) : Prop := vz52_5 st v3i v3l v3c v4 v5 v39 v8 v38 h0'1 h0
theorem pz52_6 (st : List Int) (hK : (Yd3 Kf st)) (v3i v3l v3c : Nat) (v4 v5 v8 v38 v39 : Int) (h0'1 h0 : List Int) (h : vz52_6 st v3i v3l v3c v4 v5 v8 v38 v39 h0'1 h0) : SemL Try.prog w0 fp ρi 1 67 [cz52_n10, (.seq cz52_n11 (.seq (.seq cz52_n12 cz52_n14) cz52_n15))] (Yd1 v3i v3l v3c v4 v5 v8 v38 v39) (Yd0 h0'1) (kkz52_5 w0 fp ρi Kf st v8 h0 v3i v3l v3c v4 v5 v38 v39 h0'1) :=
  L_regE hGaMix (rz52_6 st v3i v3l v3c v4 v5 v8 v38 v39 h0'1 h0 _ (L_seq (pz52_5 st hK v3i v3l v3c v4 v5 v39 v8 v38 h0'1 h0 h)))
def vz52_7 (st : List Int) (v3i v3l v3c : Nat) (v4 v5 v8 v38 v39 : Int) (h0'1 h0 : List Int) : Prop := vz52_6 st v3i v3l v3c v4 v5 v8 v38 v39 h0'1 h0
theorem pz52_7 (st : List Int) (hK : (Yd3 Kf st)) (v3i v3l v3c : Nat) (v4 v5 v8 v38 v39 : Int) (h0'1 h0 : List Int) (h : vz52_7 st v3i v3l v3c v4 v5 v8 v38 v39 h0'1 h0) : SemL Try.prog w0 fp ρi 1 67 [cz52_n16, cz52_n17] (Yd1 v3i v3l v3c v4 v5 v8 v38 v39) (Yd0 h0'1) (kkz52_4 w0 fp ρi Kf st v3i v3l v3c v4 v5 v8 v38 h0 v39 h0'1) :=
  L_block (L_seq (pz52_6 st hK v3i v3l v3c v4 v5 v8 v38 v39 h0'1 h0 h))
abbrev Yd8 (x0 : Int) : Env := [(0, some (.ptr ⟨0, 0, 0, 1⟩ 16)), (8, some (.int .i64 x0))]
theorem rz52_8 (st : List Int) (v8 : Int) (h0'1 h0 : List Int) (Z : Env -> Heap -> Prop) (h : Z [(0, some (.ptr ⟨0, 0, 0, 1⟩ 16)), (8, some (.int .i64 (IntKind.i64.wrap (v8 + 1))))] (Yd0 h0'1)) : EvC GaMix cz52_n21 (Yd8 v8) (Yd0 h0'1) [0, 8] [0] Z := EvC.of (by kernel_rfl) h
def vz52_8 (st : List Int) (v8 : Int) (h0'1 h0 : List Int) : Prop := (0 <= (IntKind.i64.wrap (v8 + 1)) /\ (IntKind.i64.wrap (v8 + 1)) <= 4 /\ h0'1.length = 16 /\ ∀ j : Nat, j < 16 -> h0'1.getD j 0 = if (j : Int) < 4 * (IntKind.i64.wrap (v8 + 1)) then mixF st j else st.getD j 0) /\ (((4 - (IntKind.i64.wrap (v8 + 1))).toNat) < ((4 - v8).toNat))
theorem pz52_8 (st : List Int) (hK : (Yd3 Kf st)) (v8 : Int) (h0'1 h0 : List Int) (h : vz52_8 st v8 h0'1 h0) : SemL Try.prog w0 fp ρi 1 67 [cz52_n21] (Yd8 v8) (Yd0 h0'1) (kkz52_1 w0 fp ρi Kf st v8 h0) :=
  L_regE hGaMix (rz52_8 st v8 h0'1 h0 _ (L_nil (loop_back (x' := ((IntKind.i64.wrap (v8 + 1)), h0'1)) (τ := tau []) h.1 h.2 (sub_tau' [] [0] rfl rfl (esc bpt (esc pbd envSub_nil)) (hsc pcs heapSub_nil) (by kernel_rfl) rfl))))
def vz52_9 (st : List Int) (v3i v3l v3c : Nat) (v4 v5 v8 v38 v39 : Int) (h0'1 h0 : List Int) : Prop := ((decide (v39 < v38)) = true -> (vz52_7 st v3i v3l v3c v4 v5 v8 v38 v39 h0'1 h0)) /\ ((decide (v39 < v38)) = false -> (vz52_8 st v8 h0'1 h0))
abbrev Yd9 (x0 x1 x2 : Nat) (x3 x4 x5 x6 x7 : Int) : Env := [(0, some (.ptr ⟨0, 0, 0, 1⟩ 16)), (3, some (.slice ⟨0, 0, x0, 1⟩ x1 x2)), (4, some (.int .u8 x3)), (5, some (.int .u8 x4)), (8, some (.int .i64 x5)), (38, some (.int .i64 x6)), (39, some (.int .i64 x7)), (40, some (.bool (decide (x7 < x6))))]
theorem pz52_9 (st : List Int) (hK : (Yd3 Kf st)) (v3i v3l v3c : Nat) (v4 v5 v8 v38 v39 : Int) (h0'1 h0 : List Int) (h : vz52_9 st v3i v3l v3c v4 v5 v8 v38 v39 h0'1 h0) : SemL Try.prog w0 fp ρi 1 67 [cz52_n9, (.seq cz52_n16 cz52_n17)] (Yd9 v3i v3l v3c v4 v5 v8 v38 v39) (Yd0 h0'1) (kkz52_4 w0 fp ρi Kf st v3i v3l v3c v4 v5 v8 v38 h0 v39 h0'1) :=
  L_cond (q := (decide (v39 < v38))) (by kernel_rfl) (fun hq => (L_skip (lpk [0, 3, 4, 5, 8, 38, 39] [0] (L_seq (pz52_7 st hK v3i v3l v3c v4 v5 v8 v38 v39 h0'1 h0 (h.1 hq)))))) (fun hq => (L_exit (lpk [0, 8] [0] (L_nil (pz52_8 st hK v8 h0'1 h0 (h.2 hq))))))
theorem rz52_10 (st : List Int) (v3i v3l v3c : Nat) (v4 v5 v8 v38 v39 : Int) (h0'1 h0 : List Int) (Z : Env -> Heap -> Prop) (h : Z (Yd9 v3i v3l v3c v4 v5 v8 v38 v39) (Yd0 h0'1)) : EvC GaMix cz52_n8 (Yd1 v3i v3l v3c v4 v5 v8 v38 v39) (Yd0 h0'1) [0, 3, 4, 5, 8, 38, 39, 40] [0] Z := EvC.of (by kernel_rfl) h
def vz52_10 (st : List Int) (v3i v3l v3c : Nat) (v4 v5 v8 v38 v39 : Int) (h0'1 h0 : List Int) : Prop := vz52_9 st v3i v3l v3c v4 v5 v8 v38 v39 h0'1 h0
theorem pz52_10 (st : List Int) (hK : (Yd3 Kf st)) (v3i v3l v3c : Nat) (v4 v5 v8 v38 v39 : Int) (h0'1 h0 : List Int) (h : vz52_10 st v3i v3l v3c v4 v5 v8 v38 v39 h0'1 h0) : SemL Try.prog w0 fp ρi 1 67 [cz52_n8, (.seq cz52_n9 (.seq cz52_n16 cz52_n17))] (Yd1 v3i v3l v3c v4 v5 v8 v38 v39) (Yd0 h0'1) (kkz52_4 w0 fp ρi Kf st v3i v3l v3c v4 v5 v8 v38 h0 v39 h0'1) :=
  L_regE hGaMix (rz52_10 st v3i v3l v3c v4 v5 v8 v38 v39 h0'1 h0 _ (L_seq (pz52_9 st hK v3i v3l v3c v4 v5 v8 v38 v39 h0'1 h0 h)))
def vz52_11 (st : List Int) (v3i v3l v3c : Nat) (v4 v5 v8 v38 : Int) (h0 : List Int) : Prop := (0 <= (0 : Int) /\ (0 : Int) <= 4 /\ h0.length = 16 /\ ∀ j : Nat, j < 16 -> h0.getD j 0 = if (j : Int) < 4 * v8 + (0 : Int) then mixF st j else st.getD j 0) /\ (∀ (v39 : Int) (h0'1 : List Int), (0 <= v39 /\ v39 <= 4 /\ h0'1.length = 16 /\ ∀ j : Nat, j < 16 -> h0'1.getD j 0 = if (j : Int) < 4 * v8 + v39 then mixF st j else st.getD j 0) -> (vz52_10 st v3i v3l v3c v4 v5 v8 v38 v39 h0'1 h0))
abbrev Yd10 (x0 x1 x2 : Nat) (x3 x4 x5 x6 : Int) : Env := [(0, some (.ptr ⟨0, 0, 0, 1⟩ 16)), (3, some (.slice ⟨0, 0, x0, 1⟩ x1 x2)), (4, some (.int .u8 x3)), (5, some (.int .u8 x4)), (8, some (.int .i64 x5)), (38, some (.int .i64 x6)), (39, some (.int .i64 0))]
theorem pz52_11 (st : List Int) (hK : (Yd3 Kf st)) (v3i v3l v3c : Nat) (v4 v5 v8 v38 : Int) (h0 : List Int) (h : vz52_11 st v3i v3l v3c v4 v5 v8 v38 h0) : SemL Try.prog w0 fp ρi 1 67 [cz52_n18] (Yd10 v3i v3l v3c v4 v5 v8 v38) (Yd0 h0) (kkz52_3 w0 fp ρi Kf st v8 h0) :=
  L_loop (ivz52_4 st v3i v3l v3c v4 v5 v8 v38 h0) (muz52_4 st v3i v3l v3c v4 v5 v8 v38 h0) (liz52_4 st v3i v3l v3c v4 v5 v8 v38 h0) (ljz52_4 st v3i v3l v3c v4 v5 v8 v38 h0) ⟨(0, h0), tau [], h.1, (sub_tau' [] [0] rfl rfl (esc bpt (esc bsl (esc pbd (esc pbd (esc pbd (esc pbd (esc pbd envSub_nil))))))) (hsc pcs heapSub_nil) (by kernel_rfl) rfl)⟩ (fun s => match s with | (v39, h0'1) => fun hi => (L_seq (pz52_10 st hK v3i v3l v3c v4 v5 v8 v38 v39 h0'1 h0 (h.2 v39 h0'1 hi))))
def vz52_12 (st : List Int) (v3i v3l v3c : Nat) (v4 v5 v8 v38 : Int) (h0 : List Int) : Prop := vz52_11 st v3i v3l v3c v4 v5 v8 v38 h0
theorem pz52_12 (st : List Int) (hK : (Yd3 Kf st)) (v3i v3l v3c : Nat) (v4 v5 v8 v38 : Int) (h0 : List Int) (h : vz52_12 st v3i v3l v3c v4 v5 v8 v38 h0) : SemL Try.prog w0 fp ρi 1 67 [cz52_n19] (Yd10 v3i v3l v3c v4 v5 v8 v38) (Yd0 h0) (kkz52_2 w0 fp ρi Kf st v8 h0) :=
  L_block (pz52_11 st hK v3i v3l v3c v4 v5 v8 v38 h0 h)
abbrev Yd11 (x0 x1 x2 : Nat) (x3 x4 x5 : Int) : Env := [(0, some (.ptr ⟨0, 0, 0, 1⟩ 16)), (3, some (.slice ⟨0, 0, x0, 1⟩ x1 x2)), (4, some (.int .u8 x3)), (5, some (.int .u8 x4)), (8, some (.int .i64 x5))]
theorem rz52_13 (st : List Int) (v3i v3l v3c : Nat) (v4 v5 v8 : Int) (h0 : List Int) (Z : Env -> Heap -> Prop) (h : Z [(0, some (.ptr ⟨0, 0, 0, 1⟩ 16)), (3, some (.slice ⟨0, 0, v3i, 1⟩ v3l v3c)), (4, some (.int .u8 v4)), (5, some (.int .u8 v5)), (8, some (.int .i64 v8)), (38, some (.int .i64 ((v3l : Nat) : Int))), (39, some (.int .i64 0))] (Yd0 h0)) : EvC GaMix cz52_n7 (Yd11 v3i v3l v3c v4 v5 v8) (Yd0 h0) [0, 3, 4, 5, 8, 38, 39] [0] Z := EvC.of (by kernel_rfl) h
def vz52_13 (st : List Int) (v3i v3l v3c : Nat) (v4 v5 v8 : Int) (h0 : List Int) : Prop := ∀ v38 : Int, v38 = ((v3l : Nat) : Int) -> vz52_12 st v3i v3l v3c v4 v5 v8 v38 h0
theorem pz52_13 (st : List Int) (hK : (Yd3 Kf st)) (v3i v3l v3c : Nat) (v4 v5 v8 : Int) (h0 : List Int) (h : vz52_13 st v3i v3l v3c v4 v5 v8 h0) : SemL Try.prog w0 fp ρi 1 67 [cz52_n7, cz52_n19] (Yd11 v3i v3l v3c v4 v5 v8) (Yd0 h0) (kkz52_2 w0 fp ρi Kf st v8 h0) :=
  L_regE hGaMix (rz52_13 st v3i v3l v3c v4 v5 v8 h0 _ (pz52_12 st hK v3i v3l v3c v4 v5 v8 ((v3l : Nat) : Int) h0 (h ((v3l : Nat) : Int) rfl)))
abbrev Yd12 (x0 x1 x2 : Nat) (x3 x4 : Int) : Env := [(0, some (.ptr ⟨0, 0, 0, 1⟩ 16)), (3, some (.slice ⟨0, 0, x0, 1⟩ x1 x2)), (4, some (.int .u8 x3)), (8, some (.int .i64 x4))]
theorem rz52_14 (st : List Int) (v3i v3l v3c : Nat) (v4 v8 : Int) (h0 : List Int) (Z : Env -> Heap -> Prop) (h : (((0 : Int) <= 0)) /\ ((0 < ((v3l : Nat) : Int))) /\ (((v3i + 0) < 16)) /\ Z [(0, some (.ptr ⟨0, 0, 0, 1⟩ 16)), (3, some (.slice ⟨0, 0, v3i, 1⟩ v3l v3c)), (4, some (.int .u8 v4)), (5, some (.int .u8 (List.getD h0 (v3i + 0) 0))), (8, some (.int .i64 v8))] (Yd0 h0)) : EvC GaMix cz52_n6 (Yd12 v3i v3l v3c v4 v8) (Yd0 h0) [0, 3, 4, 5, 8] [0] Z := EvC.of (by kernel_rfl) h
def vz52_14 (st : List Int) (v3i v3l v3c : Nat) (v4 v8 : Int) (h0 : List Int) : Prop := ((0 < ((v3l : Nat) : Int))) /\ ((((v3i + 0) < 16)) /\ (∀ v5 : Int, v5 = (List.getD h0 (v3i + 0) 0) -> vz52_13 st v3i v3l v3c v4 v5 v8 h0))
theorem pz52_14 (st : List Int) (hK : (Yd3 Kf st)) (v3i v3l v3c : Nat) (v4 v8 : Int) (h0 : List Int) (h : vz52_14 st v3i v3l v3c v4 v8 h0) : SemL Try.prog w0 fp ρi 1 67 [cz52_n6, (.seq cz52_n7 cz52_n19)] (Yd12 v3i v3l v3c v4 v8) (Yd0 h0) (kkz52_2 w0 fp ρi Kf st v8 h0) :=
  L_regE hGaMix (rz52_14 st v3i v3l v3c v4 v8 h0 _ ⟨(by decide), ⟨h.1, ⟨h.2.1, (L_seq (pz52_13 st hK v3i v3l v3c v4 (List.getD h0 (v3i + 0) 0) v8 h0 (h.2.2 (List.getD h0 (v3i + 0) 0) rfl)))⟩⟩⟩)
theorem rz52_15 (st : List Int) (v3i v3l v3c : Nat) (v8 : Int) (h0 : List Int) (Z : Env -> Heap -> Prop) (h : (((0 : Int) <= 0)) /\ ((0 < ((v3l : Nat) : Int))) /\ (((v3i + 0) < 16)) /\ (((0 : Int) <= 1)) /\ ((1 < ((v3l : Nat) : Int))) /\ (((v3i + 1) < 16)) /\ (((0 : Int) <= 2)) /\ ((2 < ((v3l : Nat) : Int))) /\ (((v3i + 2) < 16)) /\ (((0 : Int) <= 3)) /\ ((3 < ((v3l : Nat) : Int))) /\ (((v3i + 3) < 16)) /\ Z [(0, some (.ptr ⟨0, 0, 0, 1⟩ 16)), (3, some (.slice ⟨0, 0, v3i, 1⟩ v3l v3c)), (4, some (.int .u8 (ixor .u8 (ixor .u8 (ixor .u8 (List.getD h0 (v3i + 0) 0) (List.getD h0 (v3i + 1) 0)) (List.getD h0 (v3i + 2) 0)) (List.getD h0 (v3i + 3) 0)))), (8, some (.int .i64 v8))] (Yd0 h0)) : EvQC GaMix cz52_n5i [] [(0, some (.ptr ⟨0, 0, 0, 1⟩ 16)), (3, some (.slice ⟨0, 0, v3i, 1⟩ v3l v3c)), (8, some (.int .i64 v8))] (Yd0 h0) [0, 3, 4, 8] [0] Z := EvQC.of (by kernel_rfl) h
def vz52_15 (st : List Int) (v3i v3l v3c : Nat) (v8 : Int) (h0 : List Int) : Prop := ((0 < ((v3l : Nat) : Int))) /\ ((((v3i + 0) < 16)) /\ (((1 < ((v3l : Nat) : Int))) /\ ((((v3i + 1) < 16)) /\ (((2 < ((v3l : Nat) : Int))) /\ ((((v3i + 2) < 16)) /\ (((3 < ((v3l : Nat) : Int))) /\ ((((v3i + 3) < 16)) /\ (∀ v4 : Int, v4 = (ixor .u8 (ixor .u8 (ixor .u8 (List.getD h0 (v3i + 0) 0) (List.getD h0 (v3i + 1) 0)) (List.getD h0 (v3i + 2) 0)) (List.getD h0 (v3i + 3) 0)) -> vz52_14 st v3i v3l v3c v4 v8 h0))))))))
theorem pz52_15 (st : List Int) (hK : (Yd3 Kf st)) (v3i v3l v3c : Nat) (v8 : Int) (h0 : List Int) (h : vz52_15 st v3i v3l v3c v8 h0) : SemL Try.prog w0 fp ρi 1 67 [cz52_n5, (.seq cz52_n6 (.seq cz52_n7 cz52_n19))] [(0, some (.ptr ⟨0, 0, 0, 1⟩ 16)), (3, some (.slice ⟨0, 0, v3i, 1⟩ v3l v3c)), (8, some (.int .i64 v8))] (Yd0 h0) (kkz52_2 w0 fp ρi Kf st v8 h0) :=
  L_regQE hGaMix (its := cz52_n5i) (rz52_15 st v3i v3l v3c v8 h0 _ ⟨(by decide), ⟨h.1, ⟨h.2.1, ⟨(by decide), ⟨h.2.2.1, ⟨h.2.2.2.1, ⟨(by decide), ⟨h.2.2.2.2.1, ⟨h.2.2.2.2.2.1, ⟨(by decide), ⟨h.2.2.2.2.2.2.1, ⟨h.2.2.2.2.2.2.2.1, (L_seq (pz52_14 st hK v3i v3l v3c (ixor .u8 (ixor .u8 (ixor .u8 (List.getD h0 (v3i + 0) 0) (List.getD h0 (v3i + 1) 0)) (List.getD h0 (v3i + 2) 0)) (List.getD h0 (v3i + 3) 0)) v8 h0 (h.2.2.2.2.2.2.2.2 (ixor .u8 (ixor .u8 (ixor .u8 (List.getD h0 (v3i + 0) 0) (List.getD h0 (v3i + 1) 0)) (List.getD h0 (v3i + 2) 0)) (List.getD h0 (v3i + 3) 0)) rfl)))⟩⟩⟩⟩⟩⟩⟩⟩⟩⟩⟩⟩)
abbrev Yd13 (x0 : Int) : Env := [(0, some (.ptr ⟨0, 0, 0, 1⟩ 16)), (2, some (.int .i64 x0)), (8, some (.int .i64 x0))]
theorem rz52_16 (st : List Int) (v8 : Int) (h0 : List Int) (Z : Env -> Heap -> Prop) (h : ((0 <= (IntKind.i64.wrap ((IntKind.i64.wrap (4 * v8)) + 4)))) /\ (((IntKind.i64.wrap ((IntKind.i64.wrap (4 * v8)) + 4)) <= 16)) /\ ((0 <= (IntKind.i64.wrap (4 * v8)))) /\ (((IntKind.i64.wrap (4 * v8)) <= (((Int.toNat (IntKind.i64.wrap ((IntKind.i64.wrap (4 * v8)) + 4))) : Nat) : Int))) /\ Z [(0, some (.ptr ⟨0, 0, 0, 1⟩ 16)), (3, some (.slice ⟨0, 0, (0 + (if 16 = (Int.toNat (IntKind.i64.wrap (4 * v8))) then 0 else (Int.toNat (IntKind.i64.wrap (4 * v8))))), 1⟩ ((Int.toNat (IntKind.i64.wrap ((IntKind.i64.wrap (4 * v8)) + 4))) - (Int.toNat (IntKind.i64.wrap (4 * v8)))) (16 - (Int.toNat (IntKind.i64.wrap (4 * v8)))))), (8, some (.int .i64 v8))] (Yd0 h0)) : EvC GaMix cz52_n4 (Yd13 v8) (Yd0 h0) [0, 3, 8] [0] Z := EvC.of (by kernel_rfl) h
def vz52_16 (st : List Int) (v8 : Int) (h0 : List Int) : Prop := ((0 <= (IntKind.i64.wrap ((IntKind.i64.wrap (4 * v8)) + 4)))) /\ ((((IntKind.i64.wrap ((IntKind.i64.wrap (4 * v8)) + 4)) <= 16)) /\ (((0 <= (IntKind.i64.wrap (4 * v8)))) /\ ((((IntKind.i64.wrap (4 * v8)) <= (((Int.toNat (IntKind.i64.wrap ((IntKind.i64.wrap (4 * v8)) + 4))) : Nat) : Int))) /\ (∀ v3i : Nat, v3i = (0 + (if 16 = (Int.toNat (IntKind.i64.wrap (4 * v8))) then 0 else (Int.toNat (IntKind.i64.wrap (4 * v8))))) -> ∀ v3l : Nat, v3l = ((Int.toNat (IntKind.i64.wrap ((IntKind.i64.wrap (4 * v8)) + 4))) - (Int.toNat (IntKind.i64.wrap (4 * v8)))) -> ∀ v3c : Nat, v3c = (16 - (Int.toNat (IntKind.i64.wrap (4 * v8)))) -> vz52_15 st v3i v3l v3c v8 h0))))
theorem pz52_16 (st : List Int) (hK : (Yd3 Kf st)) (v8 : Int) (h0 : List Int) (h : vz52_16 st v8 h0) : SemL Try.prog w0 fp ρi 1 67 [cz52_n4, (.seq cz52_n5 (.seq cz52_n6 (.seq cz52_n7 cz52_n19)))] (Yd13 v8) (Yd0 h0) (kkz52_2 w0 fp ρi Kf st v8 h0) :=
  L_regE hGaMix (rz52_16 st v8 h0 _ ⟨h.1, ⟨h.2.1, ⟨h.2.2.1, ⟨h.2.2.2.1, (L_seq (pz52_15 st hK (0 + (if 16 = (Int.toNat (IntKind.i64.wrap (4 * v8))) then 0 else (Int.toNat (IntKind.i64.wrap (4 * v8))))) ((Int.toNat (IntKind.i64.wrap ((IntKind.i64.wrap (4 * v8)) + 4))) - (Int.toNat (IntKind.i64.wrap (4 * v8)))) (16 - (Int.toNat (IntKind.i64.wrap (4 * v8)))) v8 h0 (((h.2.2.2.2 (0 + (if 16 = (Int.toNat (IntKind.i64.wrap (4 * v8))) then 0 else (Int.toNat (IntKind.i64.wrap (4 * v8))))) rfl) ((Int.toNat (IntKind.i64.wrap ((IntKind.i64.wrap (4 * v8)) + 4))) - (Int.toNat (IntKind.i64.wrap (4 * v8)))) rfl) (16 - (Int.toNat (IntKind.i64.wrap (4 * v8)))) rfl)))⟩⟩⟩⟩)
theorem rz52_17 (st : List Int) (v8 : Int) (h0 : List Int) (Z : Env -> Heap -> Prop) (h : Z (Yd13 v8) (Yd0 h0)) : EvC GaMix cz52_n3 (Yd8 v8) (Yd0 h0) [0, 2, 8] [0] Z := EvC.of (by kernel_rfl) h
def vz52_17 (st : List Int) (v8 : Int) (h0 : List Int) : Prop := vz52_16 st v8 h0
theorem pz52_17 (st : List Int) (hK : (Yd3 Kf st)) (v8 : Int) (h0 : List Int) (h : vz52_17 st v8 h0) : SemL Try.prog w0 fp ρi 1 67 [cz52_n3, (.seq cz52_n4 (.seq cz52_n5 (.seq cz52_n6 (.seq cz52_n7 cz52_n19))))] (Yd8 v8) (Yd0 h0) (kkz52_2 w0 fp ρi Kf st v8 h0) :=
  L_regE hGaMix (rz52_17 st v8 h0 _ (L_seq (pz52_16 st hK v8 h0 h)))
def vz52_18 (st : List Int) (v8 : Int) (h0 : List Int) : Prop := vz52_17 st v8 h0
theorem pz52_18 (st : List Int) (hK : (Yd3 Kf st)) (v8 : Int) (h0 : List Int) (h : vz52_18 st v8 h0) : SemL Try.prog w0 fp ρi 1 67 [cz52_n20, cz52_n21] (Yd8 v8) (Yd0 h0) (kkz52_1 w0 fp ρi Kf st v8 h0) :=
  L_block (L_seq (pz52_17 st hK v8 h0 h))
theorem rtz52_0 (st h0 : List Int) : RetC RaMix [] (Yd0 h0) (.tuple []) := RetC.of (fun Z => by kernel_rfl)
def vz52_19 (st : List Int) (v8 : Int) (h0 : List Int) : Prop := ((decide (v8 < 4)) = true -> (vz52_18 st v8 h0)) /\ ((decide (v8 < 4)) = false -> (h0 = (mixL st)))
abbrev Yd14 (x0 : Int) : Env := [(0, some (.ptr ⟨0, 0, 0, 1⟩ 16)), (8, some (.int .i64 x0)), (9, some (.bool (decide (x0 < 4))))]
theorem pz52_19 (st : List Int) (hK : (Yd3 Kf st)) (v8 : Int) (h0 : List Int) (h : vz52_19 st v8 h0) : SemL Try.prog w0 fp ρi 1 67 [cz52_n2, (.seq cz52_n20 cz52_n21)] (Yd14 v8) (Yd0 h0) (kkz52_1 w0 fp ρi Kf st v8 h0) :=
  L_cond (q := (decide (v8 < 4))) (by kernel_rfl) (fun hq => (L_skip (lpk [0, 8] [0] (L_seq (pz52_18 st hK v8 h0 (h.1 hq)))))) (fun hq => (L_exit (lpk [] [0] (L_endE (R := RaMix) (m := 1) (Kf := Kf) (fun _ _ h => h) (rtz52_0 st h0) (ret_of0 (Eq.mpr (cg1 (fun (z1 : List Int) => Ret0 1 Kf (.tuple []) (Yd0 z1)) (h.2 hq)) (ret0_tau [] [0] rfl (by kernel_rfl) rfl (bd_tuple bdL_nil) (hsc pcs heapSub_nil) rfl (by kernel_rfl) (hK))))))))
theorem rz52_20 (st : List Int) (v8 : Int) (h0 : List Int) (Z : Env -> Heap -> Prop) (h : Z (Yd14 v8) (Yd0 h0)) : EvC GaMix cz52_n1 (Yd8 v8) (Yd0 h0) [0, 8, 9] [0] Z := EvC.of (by kernel_rfl) h
def vz52_20 (st : List Int) (v8 : Int) (h0 : List Int) : Prop := vz52_19 st v8 h0
theorem pz52_20 (st : List Int) (hK : (Yd3 Kf st)) (v8 : Int) (h0 : List Int) (h : vz52_20 st v8 h0) : SemL Try.prog w0 fp ρi 1 67 [cz52_n1, (.seq cz52_n2 (.seq cz52_n20 cz52_n21))] (Yd8 v8) (Yd0 h0) (kkz52_1 w0 fp ρi Kf st v8 h0) :=
  L_regE hGaMix (rz52_20 st v8 h0 _ (L_seq (pz52_19 st hK v8 h0 h)))
def vz52_21 (st : List Int) : Prop := (0 <= (0 : Int) /\ (0 : Int) <= 4 /\ st.length = 16 /\ ∀ j : Nat, j < 16 -> st.getD j 0 = if (j : Int) < 4 * (0 : Int) then mixF st j else st.getD j 0) /\ (∀ (v8 : Int) (h0 : List Int), (0 <= v8 /\ v8 <= 4 /\ h0.length = 16 /\ ∀ j : Nat, j < 16 -> h0.getD j 0 = if (j : Int) < 4 * v8 then mixF st j else st.getD j 0) -> (vz52_20 st v8 h0))
abbrev Yd15 : Env := [(0, some (.ptr ⟨0, 0, 0, 1⟩ 16)), (8, some (.int .i64 0))]
theorem pz52_21 (st : List Int) (hK : (Yd3 Kf st)) (h : vz52_21 st) : SemL Try.prog w0 fp ρi 1 67 [cz52_n22] Yd15 (Yd0 st) (kkz52_0 w0 fp ρi Kf st) :=
  L_loop (ivz52_1 st) (muz52_1 st) (liz52_1 st) (ljz52_1 st) ⟨(0, st), tau [], h.1, (sub_tau' [] [0] rfl rfl (esc bpt (esc pbd envSub_nil)) (hsc pcs heapSub_nil) (by kernel_rfl) rfl)⟩ (fun s => match s with | (v8, h0) => fun hi => (L_seq (pz52_20 st hK v8 h0 (h.2 v8 h0 hi))))
def vz52_22 (st : List Int) : Prop := vz52_21 st
theorem pz52_22 (st : List Int) (hK : (Yd3 Kf st)) (h : vz52_22 st) : SemL Try.prog w0 fp ρi 1 67 [cz52_n23] Yd15 (Yd0 st) (fnK RaMix 1 Kf) :=
  L_block (pz52_21 st hK h)
abbrev Yd16 : Env := [(0, some (.ptr ⟨0, 0, 0, 1⟩ 16))]
theorem rz52_23 (st : List Int) (Z : Env -> Heap -> Prop) (h : Z Yd15 (Yd0 st)) : EvC GaMix cz52_n0 Yd16 (Yd0 st) [0, 8] [0] Z := EvC.of (by kernel_rfl) h
def vz52_23 (st : List Int) : Prop := vz52_22 st
theorem pz52_23 (st : List Int) (hK : (Yd3 Kf st)) (h : vz52_23 st) : SemL Try.prog w0 fp ρi 1 67 [cz52_n0, cz52_n23] Yd16 (Yd0 st) (fnK RaMix 1 Kf) :=
  L_regE hGaMix (rz52_23 st _ (pz52_22 st hK h))
def vcaMix (st : List Int) : Prop := vz52_23 st
theorem waMix (st : List Int) (hK : (Yd3 Kf st)) (h : vcaMix st) : SemL Try.prog w0 fp ρi 1 67 [caMix] Yd16 (Yd0 st) (fnK RaMix 1 Kf) :=
  (L_seq (pz52_23 st hK h))
end
theorem okaMix (st : List Int) (hpre : (BlkOk st)) : vcaMix st := by
  unfold vcaMix vz52_23 vz52_22 vz52_21 vz52_20 vz52_19 vz52_18 vz52_17 vz52_16 vz52_15 vz52_14 vz52_13 vz52_12 vz52_11 vz52_10 vz52_9 vz52_8 vz52_7 vz52_6 vz52_5 vz52_4 vz52_3 vz52_2 vz52_1 vz52_0
  have h1 := hpre
  refine ⟨⟨by omega, by omega, h1.1, fun j hj => by rw [if_neg (by omega)]⟩, ?_⟩
  rintro v8 h0 ⟨i0, i1, i2, i3⟩
  refine ⟨fun hlt => ?_, fun hge => ?_⟩
  · have hlt := of_decide_eq_true hlt
    have w1 : IntKind.i64.wrap (v8 + 1) = v8 + 1 := by rw [wi64]; omega
    have w4 : IntKind.i64.wrap (4 * v8) = 4 * v8 := by rw [wi64]; omega
    have w5 : IntKind.i64.wrap (4 * v8 + 4) = 4 * v8 + 4 := by rw [wi64]; omega
    rw [w4, w5, w1]
    refine ⟨by omega, by omega, by omega, by omega, ?_⟩
    rintro v3i e3 v3l el v3c ec
    rw [if_neg (by omega), Nat.zero_add] at e3
    have el : v3l = 4 := by omega
    clear ec
    subst el
    have g : ∀ k, k < 4 -> h0.getD (v3i + k) 0 = st.getD (4 * v8.toNat + k) 0 := fun k hk => by
      rw [i3 _ (by omega), if_neg (by omega), e3, show (4 * v8).toNat = 4 * v8.toNat by omega]
    refine ⟨by omega, by omega, by omega, by omega, by omega, by omega, by omega, by omega, ?_⟩
    rintro v4 e4
    have e4 : v4 = colX st v8.toNat := by rw [e4, g 0 (by omega), g 1 (by omega), g 2 (by omega), g 3 (by omega)]; rfl
    refine ⟨by omega, by omega, ?_⟩
    rintro v5 e5
    have e5 : v5 = st.getD (4 * v8.toNat) 0 := by rw [e5, g 0 (by omega)]; rfl
    rintro v38 rfl
    refine ⟨⟨by omega, by omega, i2, fun j hj => by rw [i3 j hj, Int.add_zero]⟩, ?_⟩
    rintro v39 h01 ⟨j0, j1, j2, j3⟩
    have key : ∀ nx : Int, v39 < 4 -> nx = st.getD (4 * v8.toNat + (v39.toNat + 1) % 4) 0 ->
        (0 <= v39 + 1 /\ v39 + 1 <= 4 /\ (h01.set (v3i + v39.toNat) (ixor .u8 (h01.getD (v3i + v39.toNat) 0) (ixor .u8 v4 (dbl (ixor .u8 (h01.getD (v3i + v39.toNat) 0) nx))))).length = 16 /\
        ∀ j : Nat, j < 16 -> (h01.set (v3i + v39.toNat) (ixor .u8 (h01.getD (v3i + v39.toNat) 0) (ixor .u8 v4 (dbl (ixor .u8 (h01.getD (v3i + v39.toNat) 0) nx))))).getD j 0 = if (j : Int) < 4 * v8 + (v39 + 1) then mixF st j else st.getD j 0) /\ (4 - (v39 + 1)).toNat < (4 - v39).toNat := by
      intro nx hv hnx
      refine ⟨⟨by omega, by omega, by rw [List.length_set, j2], fun j hj => ?_⟩, by omega⟩
      have hc : h01.getD (v3i + v39.toNat) 0 = st.getD (v3i + v39.toNat) 0 := by rw [j3 _ (by omega), if_neg (by omega)]
      rw [getD_setI (by omega), hc]
      by_cases hjv : j = v3i + v39.toNat
      · rw [if_pos hjv, if_pos (by omega)]
        unfold mixF
        rw [<- hjv, e4, hnx, show j / 4 = v8.toNat by omega, show j % 4 = v39.toNat by omega]
      · rw [if_neg hjv, j3 j hj]
        by_cases hjl : (j : Int) < 4 * v8 + v39
        · rw [if_pos hjl, if_pos (by omega)]
        · rw [if_neg hjl, if_neg (by omega)]
    refine ⟨fun hlt2 => ?_, fun hge2 => ?_⟩
    · have hlt2 := of_decide_eq_true hlt2
      have w6 : IntKind.i64.wrap (v39 + 1) = v39 + 1 := by rw [wi64]; omega
      rw [w6]
      refine ⟨fun h3 => ?_, fun h3 => ?_⟩
      · have h3 := of_decide_eq_true h3
        refine ⟨by omega, by omega, by omega, ?_⟩
        rintro v7 e7
        refine ⟨j0, by omega, by omega, j0, by omega, by omega, ixor_u8 _ _, j0, by omega, by omega, by omega, ?_⟩
        rintro h02 rfl
        refine key v7 (by omega) ?_
        rw [e7, j3 _ (by omega), if_neg (by omega)]
        congr 1
        omega
      · have h3 := of_decide_eq_false h3
        refine ⟨j0, by omega, by omega, j0, by omega, by omega, ixor_u8 _ _, j0, by omega, by omega, by omega, ?_⟩
        rintro h02 rfl
        refine key v5 (by omega) ?_
        rw [e5]
        congr 1
        omega
    · have hge2 := of_decide_eq_false hge2
      exact ⟨⟨by omega, by omega, j2, fun j hj => by rw [j3 j hj, show 4 * v8 + v39 = 4 * (v8 + 1) by omega]⟩, by omega⟩
  · have hge := of_decide_eq_false hge
    exact range_ext i2 fun j hj => by rw [i3 j hj, if_pos (by omega)]
theorem saMix : Sound Try.prog 52 (gS DaMix) := by
  refine fn_soundA caMix_fits ?_
  intro args H K h
  obtain ⟨pre, out, hD, hpre, hK⟩ := gS_inv h
  unfold DaMix at hD
  split at hD
  · obtain ⟨hb, hD⟩ := bif_some hD
    have h0 := hb
    obtain rfl := Nat.eq_of_beq_eq_true h0
    cases hD
    exact ⟨rfl, fun w0 fp ρi => waMix _ hK (okaMix _ hpre)⟩
  · cases hD
end Go.Proofs.Ytefmjmghkedciaa
