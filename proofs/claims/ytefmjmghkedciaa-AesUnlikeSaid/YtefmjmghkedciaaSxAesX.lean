/- Walks, printed by vcg. -/
import Derived.Test.YtefmjmghkedciaaSxAesW
import Derived.KernelRfl
set_option linter.unusedVariables false
set_option linter.unusedSimpArgs false
set_option maxRecDepth 20000
namespace Go.Proofs.Ytefmjmghkedciaa
open Go.Sx
def DaAdd : GSpec := fun args H => match args, H with
  | [.ptr ⟨0, 0, 0, 1⟩ 16, .agg [.ints .u8 key_n key]], ⟨1, [(0, some ⟨true, [.ints .u8 st_n st], 0⟩)]⟩ => bif Nat.beq st_n 16 && Nat.beq key_n 16 then some ((BlkOk st ∧ BlkOk key), fun K => K (.tuple []) ⟨1, [(0, some ⟨true, [.ints .u8 16 (xorL st key)], 0⟩)]⟩) else none
  | _, _ => none
def conaAdd : Con := ⟨50, gS DaAdd, [0], [], []⟩
def cz50_n0 : ACode := .reg (.op (some 3) (.box (.tm 1)) .nil)
def cz50_n1 : ACode := .reg (.op (some 5) (.mov (.cn (.int .i64 0))) .nil)
def cz50_n2 : ACode := .reg (.op (some 6) (.bin .lss (.tm 5) (.cn (.int .i64 16))) .nil)
def cz50_n3 : ACode := .cond (.tm 6) .skip (.exit 0)
def cz50_n4 : ACode := .reg (.op (some 7) (.mov (.tm 5)) (.op (some 4) (.mov (.tm 7)) .nil))
def cz50_n5m : List MStep := [.mk 0 0 (some 8) (.mov (.tm 0)), .mk 1 0 (some 9) (.mov (.tm 4)), .mk 2 0 (some 10) (.nilCheck (.tm 8)), .mk 3 0 (some 11) (.idxA (.tm 10) (.tm 9) 16 1), .mk 4 0 (some 12) (.load1 (.tm 11)), .mk 5 0 (some 13) (.mov (.tm 4)), .mk 6 0 (some 14) (.idxA (.tm 3) (.tm 13) 16 1), .mk 7 0 (some 15) (.load1 (.tm 14)), .mk 8 0 (some 16) (.bin .xor (.tm 12) (.tm 15)), .mk 9 0 (some 17) (.nilCheck (.tm 8)), .mk 10 0 (some 18) (.idxA (.tm 17) (.tm 9) 16 1), .mk 11 2 none (.store1 (.tm 18) (.tm 16))]
def cz50_n5 : ACode := .regM cz50_n5m
def cz50_n6 : ACode := .block 1 (.seq cz50_n4 cz50_n5)
def cz50_n7 : ACode := .reg (.op (some 19) (.bin .add (.tm 5) (.cn (.int .i64 1))) (.op (some 5) (.mov (.tm 19)) .nil))
def cz50_n8 : ACode := .loop (.seq cz50_n2 (.seq cz50_n3 (.seq cz50_n6 cz50_n7)))
def cz50_n9 : ACode := .block 0 cz50_n8
def caAdd : ACode := (.seq cz50_n0 (.seq cz50_n1 cz50_n9))
def RaAdd : Res := .many []
theorem caAdd_fits : fnFits Try.prog 50 2 20 caAdd RaAdd = true := by kernel_rfl
def GaAdd : Calls' := withP [] []
theorem hGaAdd : CallOk Try.prog GaAdd := withP_ok trivial trivial
section
variable {w0 : World} {fp : Nat → Nat → Prop} {ρi : Rho} {Kf : SVal → Heap → Prop}
def kkz50_0 (w0 : World) (fp : Nat → Nat → Prop) (ρi : Rho) (Kf : SVal → Heap → Prop) (st : List Int) (key : List Int) : Cont := blockK 0 (fun e H => SemL Try.prog w0 fp ρi 1 20 [] e H (fnK RaAdd 1 Kf)) (fnK RaAdd 1 Kf)
def ivz50_1 (st : List Int) (key : List Int) : Int × List Int → Prop := fun s => match s with | (v5, h0) => 0 ≤ v5 ∧ v5 ≤ 16 ∧ h0.length = 16 ∧ ∀ j : Nat, j < 16 → h0.getD j 0 = if (j : Int) < v5 then ixor .u8 (st.getD j 0) (key.getD j 0) else st.getD j 0
def muz50_1 (st : List Int) (key : List Int) : Int × List Int → Nat := fun s => match s with | (v5, h0) => ((16 - v5).toNat)
def liz50_1 (st : List Int) (key : List Int) : Int × List Int → Env := fun s => match s with | (v5, h0) => [(0, some (.ptr ⟨0, 0, 0, 1⟩ 16)), (3, some (.ptr ⟨1, 0, 0, 1⟩ 16)), (5, some (.int .i64 v5))]
def ljz50_1 (st : List Int) (key : List Int) : Int × List Int → Heap := fun s => match s with | (v5, h0) => ⟨2, [(0, some ⟨true, [.ints .u8 16 h0], 0⟩), (1, some ⟨true, [.ints .u8 16 key], 0⟩)]⟩
def kkz50_1 (w0 : World) (fp : Nat → Nat → Prop) (ρi : Rho) (Kf : SVal → Heap → Prop) (st : List Int) (key : List Int) (v5 : Int) (h0 : List Int) : Cont := loopK 1 (ivz50_1 st key) (muz50_1 st key) (liz50_1 st key) (ljz50_1 st key) (v5, h0) (kkz50_0 w0 fp ρi Kf st key)
theorem rz50_0 (st : List Int) (key : List Int) (v5 : Int) (h0'1 : List Int) (h0 : List Int) (Z : Env → Heap → Prop) (h : Z [(0, some (.ptr ⟨0, 0, 0, 1⟩ 16)), (3, some (.ptr ⟨1, 0, 0, 1⟩ 16)), (5, some (.int .i64 (IntKind.i64.wrap (v5 + 1))))] ⟨2, [(0, some ⟨true, [.ints .u8 16 h0'1], 0⟩), (1, some ⟨true, [.ints .u8 16 key], 0⟩)]⟩) : EvC GaAdd cz50_n7 [(0, some (.ptr ⟨0, 0, 0, 1⟩ 16)), (3, some (.ptr ⟨1, 0, 0, 1⟩ 16)), (5, some (.int .i64 v5))] ⟨2, [(0, some ⟨true, [.ints .u8 16 h0'1], 0⟩), (1, some ⟨true, [.ints .u8 16 key], 0⟩)]⟩ [0, 3, 5] [0, 1] Z := EvC.of (by kernel_rfl) h
def vz50_0 (st : List Int) (key : List Int) (v5 : Int) (h0'1 : List Int) (h0 : List Int) : Prop := (0 ≤ (IntKind.i64.wrap (v5 + 1)) ∧ (IntKind.i64.wrap (v5 + 1)) ≤ 16 ∧ h0'1.length = 16 ∧ ∀ j : Nat, j < 16 → h0'1.getD j 0 = if (j : Int) < (IntKind.i64.wrap (v5 + 1)) then ixor .u8 (st.getD j 0) (key.getD j 0) else st.getD j 0) ∧ (((16 - (IntKind.i64.wrap (v5 + 1))).toNat) < ((16 - v5).toNat))
theorem pz50_0 (st : List Int) (key : List Int) (hK : Kf (.tuple []) ⟨1, [(0, some ⟨true, [.ints .u8 16 (xorL st key)], 0⟩)]⟩) (v5 : Int) (h0'1 : List Int) (h0 : List Int) (h : vz50_0 st key v5 h0'1 h0) : SemL Try.prog w0 fp ρi 1 20 [cz50_n7] [(0, some (.ptr ⟨0, 0, 0, 1⟩ 16)), (3, some (.ptr ⟨1, 0, 0, 1⟩ 16)), (5, some (.int .i64 v5))] ⟨2, [(0, some ⟨true, [.ints .u8 16 h0'1], 0⟩), (1, some ⟨true, [.ints .u8 16 key], 0⟩)]⟩ (kkz50_1 w0 fp ρi Kf st key v5 h0) :=
  L_regE hGaAdd (rz50_0 st key v5 h0'1 h0 (fun e H => SemL Try.prog w0 fp ρi 1 20 [] e H (kkz50_1 w0 fp ρi Kf st key v5 h0)) (L_nil (loop_back (x' := ((IntKind.i64.wrap (v5 + 1)), h0'1)) (τ := tau []) h.1 h.2 (sub_tau' [] [0, 1] rfl rfl (esc bpt (esc bpt (esc pbd envSub_nil))) (hsc pcs (hsc pcs heapSub_nil)) (by kernel_rfl) rfl))))
def kkz50_2 (w0 : World) (fp : Nat → Nat → Prop) (ρi : Rho) (Kf : SVal → Heap → Prop) (st : List Int) (key : List Int) (v5 : Int) (h0 : List Int) : Cont := blockK 1 (fun e H => SemL Try.prog w0 fp ρi 1 20 [cz50_n7] e H (kkz50_1 w0 fp ρi Kf st key v5 h0)) (kkz50_1 w0 fp ρi Kf st key v5 h0)
theorem rz50_1 (st : List Int) (key : List Int) (v5 : Int) (h0 : List Int) (Z : Env → Heap → Prop) (h : ((0 ≤ v5)) ∧ ((v5 < 16)) ∧ (((0 + ((Int.toNat v5) * 1)) < 16)) ∧ ((0 ≤ v5)) ∧ ((v5 < 16)) ∧ (((0 + ((Int.toNat v5) * 1)) < 16)) ∧ ((0 ≤ v5)) ∧ ((v5 < 16)) ∧ (((0 + ((Int.toNat v5) * 1)) < 16)) ∧ (((0 + ((Int.toNat v5) * 1)) < List.length h0)) ∧ Z [(0, some (.ptr ⟨0, 0, 0, 1⟩ 16)), (3, some (.ptr ⟨1, 0, 0, 1⟩ 16)), (5, some (.int .i64 v5))] ⟨2, [(0, some ⟨true, [.ints .u8 16 (List.set h0 (0 + ((Int.toNat v5) * 1)) (ixor .u8 (List.getD h0 (0 + ((Int.toNat v5) * 1)) 0) (List.getD key (0 + ((Int.toNat v5) * 1)) 0)))], 0⟩), (1, some ⟨true, [.ints .u8 16 key], 0⟩)]⟩) : EvNC GaAdd cz50_n5m [[], [], [], [], [0], [], [], [1], [], [], [], []] [(0, some (.ptr ⟨0, 0, 0, 1⟩ 16)), (3, some (.ptr ⟨1, 0, 0, 1⟩ 16)), (4, some (.int .i64 v5)), (5, some (.int .i64 v5))] ⟨2, [(0, some ⟨true, [.ints .u8 16 h0], 0⟩), (1, some ⟨true, [.ints .u8 16 key], 0⟩)]⟩ [0, 3, 5] [0, 1] Z := EvNC.of (by kernel_rfl) h
def vz50_1 (st : List Int) (key : List Int) (v5 : Int) (h0 : List Int) : Prop := ((0 ≤ v5)) ∧ (((v5 < 16)) ∧ ((((0 + ((Int.toNat v5) * 1)) < 16)) ∧ (((0 ≤ v5)) ∧ (((v5 < 16)) ∧ ((((0 + ((Int.toNat v5) * 1)) < 16)) ∧ (((0 ≤ v5)) ∧ (((v5 < 16)) ∧ ((((0 + ((Int.toNat v5) * 1)) < 16)) ∧ ((((0 + ((Int.toNat v5) * 1)) < List.length h0)) ∧ (∀ h0'1 : List Int, h0'1 = (List.set h0 (0 + ((Int.toNat v5) * 1)) (ixor .u8 (List.getD h0 (0 + ((Int.toNat v5) * 1)) 0) (List.getD key (0 + ((Int.toNat v5) * 1)) 0))) → vz50_0 st key v5 h0'1 h0))))))))))
theorem pz50_1 (st : List Int) (key : List Int) (hK : Kf (.tuple []) ⟨1, [(0, some ⟨true, [.ints .u8 16 (xorL st key)], 0⟩)]⟩) (v5 : Int) (h0 : List Int) (h : vz50_1 st key v5 h0) : SemL Try.prog w0 fp ρi 1 20 [cz50_n5] [(0, some (.ptr ⟨0, 0, 0, 1⟩ 16)), (3, some (.ptr ⟨1, 0, 0, 1⟩ 16)), (4, some (.int .i64 v5)), (5, some (.int .i64 v5))] ⟨2, [(0, some ⟨true, [.ints .u8 16 h0], 0⟩), (1, some ⟨true, [.ints .u8 16 key], 0⟩)]⟩ (kkz50_2 w0 fp ρi Kf st key v5 h0) :=
  L_regME hGaAdd (steps := cz50_n5m) (rz50_1 st key v5 h0 (fun e H => SemL Try.prog w0 fp ρi 1 20 [] e H (kkz50_2 w0 fp ρi Kf st key v5 h0)) ⟨h.1, ⟨h.2.1, ⟨h.2.2.1, ⟨h.2.2.2.1, ⟨h.2.2.2.2.1, ⟨h.2.2.2.2.2.1, ⟨h.2.2.2.2.2.2.1, ⟨h.2.2.2.2.2.2.2.1, ⟨h.2.2.2.2.2.2.2.2.1, ⟨h.2.2.2.2.2.2.2.2.2.1, (L_nil (pz50_0 st key hK v5 (List.set h0 (0 + ((Int.toNat v5) * 1)) (ixor .u8 (List.getD h0 (0 + ((Int.toNat v5) * 1)) 0) (List.getD key (0 + ((Int.toNat v5) * 1)) 0))) h0 (h.2.2.2.2.2.2.2.2.2.2 (List.set h0 (0 + ((Int.toNat v5) * 1)) (ixor .u8 (List.getD h0 (0 + ((Int.toNat v5) * 1)) 0) (List.getD key (0 + ((Int.toNat v5) * 1)) 0))) rfl)))⟩⟩⟩⟩⟩⟩⟩⟩⟩⟩)
theorem rz50_2 (st : List Int) (key : List Int) (v5 : Int) (h0 : List Int) (Z : Env → Heap → Prop) (h : Z [(0, some (.ptr ⟨0, 0, 0, 1⟩ 16)), (3, some (.ptr ⟨1, 0, 0, 1⟩ 16)), (4, some (.int .i64 v5)), (5, some (.int .i64 v5))] ⟨2, [(0, some ⟨true, [.ints .u8 16 h0], 0⟩), (1, some ⟨true, [.ints .u8 16 key], 0⟩)]⟩) : EvC GaAdd cz50_n4 [(0, some (.ptr ⟨0, 0, 0, 1⟩ 16)), (3, some (.ptr ⟨1, 0, 0, 1⟩ 16)), (5, some (.int .i64 v5))] ⟨2, [(0, some ⟨true, [.ints .u8 16 h0], 0⟩), (1, some ⟨true, [.ints .u8 16 key], 0⟩)]⟩ [0, 3, 4, 5] [0, 1] Z := EvC.of (by kernel_rfl) h
def vz50_2 (st : List Int) (key : List Int) (v5 : Int) (h0 : List Int) : Prop := vz50_1 st key v5 h0
theorem pz50_2 (st : List Int) (key : List Int) (hK : Kf (.tuple []) ⟨1, [(0, some ⟨true, [.ints .u8 16 (xorL st key)], 0⟩)]⟩) (v5 : Int) (h0 : List Int) (h : vz50_2 st key v5 h0) : SemL Try.prog w0 fp ρi 1 20 [cz50_n4, cz50_n5] [(0, some (.ptr ⟨0, 0, 0, 1⟩ 16)), (3, some (.ptr ⟨1, 0, 0, 1⟩ 16)), (5, some (.int .i64 v5))] ⟨2, [(0, some ⟨true, [.ints .u8 16 h0], 0⟩), (1, some ⟨true, [.ints .u8 16 key], 0⟩)]⟩ (kkz50_2 w0 fp ρi Kf st key v5 h0) :=
  L_regE hGaAdd (rz50_2 st key v5 h0 (fun e H => SemL Try.prog w0 fp ρi 1 20 [cz50_n5] e H (kkz50_2 w0 fp ρi Kf st key v5 h0)) (pz50_1 st key hK v5 h0 h))
def vz50_3 (st : List Int) (key : List Int) (v5 : Int) (h0 : List Int) : Prop := vz50_2 st key v5 h0
theorem pz50_3 (st : List Int) (key : List Int) (hK : Kf (.tuple []) ⟨1, [(0, some ⟨true, [.ints .u8 16 (xorL st key)], 0⟩)]⟩) (v5 : Int) (h0 : List Int) (h : vz50_3 st key v5 h0) : SemL Try.prog w0 fp ρi 1 20 [cz50_n6, cz50_n7] [(0, some (.ptr ⟨0, 0, 0, 1⟩ 16)), (3, some (.ptr ⟨1, 0, 0, 1⟩ 16)), (5, some (.int .i64 v5))] ⟨2, [(0, some ⟨true, [.ints .u8 16 h0], 0⟩), (1, some ⟨true, [.ints .u8 16 key], 0⟩)]⟩ (kkz50_1 w0 fp ρi Kf st key v5 h0) :=
  L_block (L_seq (pz50_2 st key hK v5 h0 h))
theorem rtz50_0 (st : List Int) (key : List Int) (h0 : List Int) : RetC RaAdd [] ⟨2, [(0, some ⟨true, [.ints .u8 16 h0], 0⟩)]⟩ (.tuple []) := RetC.of (fun Z => by kernel_rfl)
def vz50_4 (st : List Int) (key : List Int) (v5 : Int) (h0 : List Int) : Prop := ((decide (v5 < 16)) = true → (vz50_3 st key v5 h0)) ∧ ((decide (v5 < 16)) = false → (h0 = (xorL st key)))
theorem pz50_4 (st : List Int) (key : List Int) (hK : Kf (.tuple []) ⟨1, [(0, some ⟨true, [.ints .u8 16 (xorL st key)], 0⟩)]⟩) (v5 : Int) (h0 : List Int) (h : vz50_4 st key v5 h0) : SemL Try.prog w0 fp ρi 1 20 [cz50_n3, (.seq cz50_n6 cz50_n7)] [(0, some (.ptr ⟨0, 0, 0, 1⟩ 16)), (3, some (.ptr ⟨1, 0, 0, 1⟩ 16)), (5, some (.int .i64 v5)), (6, some (.bool (decide (v5 < 16))))] ⟨2, [(0, some ⟨true, [.ints .u8 16 h0], 0⟩), (1, some ⟨true, [.ints .u8 16 key], 0⟩)]⟩ (kkz50_1 w0 fp ρi Kf st key v5 h0) :=
  L_cond (q := (decide (v5 < 16))) (by kernel_rfl) (fun hq => (L_skip (lpk [0, 3, 5] [0, 1] (L_seq (pz50_3 st key hK v5 h0 (h.1 hq)))))) (fun hq => (L_exit (lpk [] [0] (L_endE (R := RaAdd) (m := 1) (Kf := Kf) (fun _ _ h => h) (rtz50_0 st key h0) (ret_of0 (Eq.mpr (cg1 (fun (z1 : List Int) => Ret0 1 Kf (.tuple []) ⟨2, [(0, some ⟨true, [.ints .u8 16 z1], 0⟩)]⟩) (h.2 hq)) (ret0_tau [] [0] rfl (by kernel_rfl) rfl (bd_tuple bdL_nil) (hsc pcs heapSub_nil) rfl (by kernel_rfl) (hK))))))))
theorem rz50_5 (st : List Int) (key : List Int) (v5 : Int) (h0 : List Int) (Z : Env → Heap → Prop) (h : Z [(0, some (.ptr ⟨0, 0, 0, 1⟩ 16)), (3, some (.ptr ⟨1, 0, 0, 1⟩ 16)), (5, some (.int .i64 v5)), (6, some (.bool (decide (v5 < 16))))] ⟨2, [(0, some ⟨true, [.ints .u8 16 h0], 0⟩), (1, some ⟨true, [.ints .u8 16 key], 0⟩)]⟩) : EvC GaAdd cz50_n2 [(0, some (.ptr ⟨0, 0, 0, 1⟩ 16)), (3, some (.ptr ⟨1, 0, 0, 1⟩ 16)), (5, some (.int .i64 v5))] ⟨2, [(0, some ⟨true, [.ints .u8 16 h0], 0⟩), (1, some ⟨true, [.ints .u8 16 key], 0⟩)]⟩ [0, 3, 5, 6] [0, 1] Z := EvC.of (by kernel_rfl) h
def vz50_5 (st : List Int) (key : List Int) (v5 : Int) (h0 : List Int) : Prop := vz50_4 st key v5 h0
theorem pz50_5 (st : List Int) (key : List Int) (hK : Kf (.tuple []) ⟨1, [(0, some ⟨true, [.ints .u8 16 (xorL st key)], 0⟩)]⟩) (v5 : Int) (h0 : List Int) (h : vz50_5 st key v5 h0) : SemL Try.prog w0 fp ρi 1 20 [cz50_n2, (.seq cz50_n3 (.seq cz50_n6 cz50_n7))] [(0, some (.ptr ⟨0, 0, 0, 1⟩ 16)), (3, some (.ptr ⟨1, 0, 0, 1⟩ 16)), (5, some (.int .i64 v5))] ⟨2, [(0, some ⟨true, [.ints .u8 16 h0], 0⟩), (1, some ⟨true, [.ints .u8 16 key], 0⟩)]⟩ (kkz50_1 w0 fp ρi Kf st key v5 h0) :=
  L_regE hGaAdd (rz50_5 st key v5 h0 (fun e H => SemL Try.prog w0 fp ρi 1 20 [(.seq cz50_n3 (.seq cz50_n6 cz50_n7))] e H (kkz50_1 w0 fp ρi Kf st key v5 h0)) (L_seq (pz50_4 st key hK v5 h0 h)))
def vz50_6 (st : List Int) (key : List Int) : Prop := (0 ≤ (0 : Int) ∧ (0 : Int) ≤ 16 ∧ st.length = 16 ∧ ∀ j : Nat, j < 16 → st.getD j 0 = if (j : Int) < (0 : Int) then ixor .u8 (st.getD j 0) (key.getD j 0) else st.getD j 0) ∧ (∀ (v5 : Int) (h0 : List Int), (0 ≤ v5 ∧ v5 ≤ 16 ∧ h0.length = 16 ∧ ∀ j : Nat, j < 16 → h0.getD j 0 = if (j : Int) < v5 then ixor .u8 (st.getD j 0) (key.getD j 0) else st.getD j 0) → (vz50_5 st key v5 h0))
theorem pz50_6 (st : List Int) (key : List Int) (hK : Kf (.tuple []) ⟨1, [(0, some ⟨true, [.ints .u8 16 (xorL st key)], 0⟩)]⟩) (h : vz50_6 st key) : SemL Try.prog w0 fp ρi 1 20 [cz50_n8] [(0, some (.ptr ⟨0, 0, 0, 1⟩ 16)), (3, some (.ptr ⟨1, 0, 0, 1⟩ 16)), (5, some (.int .i64 0))] ⟨2, [(0, some ⟨true, [.ints .u8 16 st], 0⟩), (1, some ⟨true, [.ints .u8 16 key], 0⟩)]⟩ (kkz50_0 w0 fp ρi Kf st key) :=
  L_loop (ivz50_1 st key) (muz50_1 st key) (liz50_1 st key) (ljz50_1 st key) ⟨(0, st), tau [], h.1, (sub_tau' [] [0, 1] rfl rfl (esc bpt (esc bpt (esc pbd envSub_nil))) (hsc pcs (hsc pcs heapSub_nil)) (by kernel_rfl) rfl)⟩ (fun s => match s with | (v5, h0) => fun hi => (L_seq (pz50_5 st key hK v5 h0 (h.2 v5 h0 hi))))
def vz50_7 (st : List Int) (key : List Int) : Prop := vz50_6 st key
theorem pz50_7 (st : List Int) (key : List Int) (hK : Kf (.tuple []) ⟨1, [(0, some ⟨true, [.ints .u8 16 (xorL st key)], 0⟩)]⟩) (h : vz50_7 st key) : SemL Try.prog w0 fp ρi 1 20 [cz50_n9] [(0, some (.ptr ⟨0, 0, 0, 1⟩ 16)), (3, some (.ptr ⟨1, 0, 0, 1⟩ 16)), (5, some (.int .i64 0))] ⟨2, [(0, some ⟨true, [.ints .u8 16 st], 0⟩), (1, some ⟨true, [.ints .u8 16 key], 0⟩)]⟩ (fnK RaAdd 1 Kf) :=
  L_block (pz50_6 st key hK h)
theorem rz50_8 (st : List Int) (key : List Int) (Z : Env → Heap → Prop) (h : Z [(0, some (.ptr ⟨0, 0, 0, 1⟩ 16)), (3, some (.ptr ⟨1, 0, 0, 1⟩ 16)), (5, some (.int .i64 0))] ⟨2, [(0, some ⟨true, [.ints .u8 16 st], 0⟩), (1, some ⟨true, [.ints .u8 16 key], 0⟩)]⟩) : EvC GaAdd cz50_n1 [(0, some (.ptr ⟨0, 0, 0, 1⟩ 16)), (3, some (.ptr ⟨1, 0, 0, 1⟩ 16))] ⟨2, [(0, some ⟨true, [.ints .u8 16 st], 0⟩), (1, some ⟨true, [.ints .u8 16 key], 0⟩)]⟩ [0, 3, 5] [0, 1] Z := EvC.of (by kernel_rfl) h
def vz50_8 (st : List Int) (key : List Int) : Prop := vz50_7 st key
theorem pz50_8 (st : List Int) (key : List Int) (hK : Kf (.tuple []) ⟨1, [(0, some ⟨true, [.ints .u8 16 (xorL st key)], 0⟩)]⟩) (h : vz50_8 st key) : SemL Try.prog w0 fp ρi 1 20 [cz50_n1, cz50_n9] [(0, some (.ptr ⟨0, 0, 0, 1⟩ 16)), (3, some (.ptr ⟨1, 0, 0, 1⟩ 16))] ⟨2, [(0, some ⟨true, [.ints .u8 16 st], 0⟩), (1, some ⟨true, [.ints .u8 16 key], 0⟩)]⟩ (fnK RaAdd 1 Kf) :=
  L_regE hGaAdd (rz50_8 st key (fun e H => SemL Try.prog w0 fp ρi 1 20 [cz50_n9] e H (fnK RaAdd 1 Kf)) (pz50_7 st key hK h))
theorem rz50_9 (st : List Int) (key : List Int) (Z : Env → Heap → Prop) (h : Z [(0, some (.ptr ⟨0, 0, 0, 1⟩ 16)), (3, some (.ptr ⟨1, 0, 0, 1⟩ 16))] ⟨2, [(0, some ⟨true, [.ints .u8 16 st], 0⟩), (1, some ⟨true, [.ints .u8 16 key], 0⟩)]⟩) : EvC GaAdd cz50_n0 [(0, some (.ptr ⟨0, 0, 0, 1⟩ 16)), (1, some (.agg [.ints .u8 16 key]))] ⟨1, [(0, some ⟨true, [.ints .u8 16 st], 0⟩)]⟩ [0, 3] [0, 1] Z := EvC.of (by kernel_rfl) h
def vz50_9 (st : List Int) (key : List Int) : Prop := vz50_8 st key
theorem pz50_9 (st : List Int) (key : List Int) (hK : Kf (.tuple []) ⟨1, [(0, some ⟨true, [.ints .u8 16 (xorL st key)], 0⟩)]⟩) (h : vz50_9 st key) : SemL Try.prog w0 fp ρi 1 20 [cz50_n0, (.seq cz50_n1 cz50_n9)] [(0, some (.ptr ⟨0, 0, 0, 1⟩ 16)), (1, some (.agg [.ints .u8 16 key]))] ⟨1, [(0, some ⟨true, [.ints .u8 16 st], 0⟩)]⟩ (fnK RaAdd 1 Kf) :=
  L_regE hGaAdd (rz50_9 st key (fun e H => SemL Try.prog w0 fp ρi 1 20 [(.seq cz50_n1 cz50_n9)] e H (fnK RaAdd 1 Kf)) (L_seq (pz50_8 st key hK h)))
def vcaAdd (st : List Int) (key : List Int) : Prop := vz50_9 st key
theorem waAdd (st : List Int) (key : List Int) (hK : Kf (.tuple []) ⟨1, [(0, some ⟨true, [.ints .u8 16 (xorL st key)], 0⟩)]⟩) (h : vcaAdd st key) : SemL Try.prog w0 fp ρi 1 20 [caAdd] [(0, some (.ptr ⟨0, 0, 0, 1⟩ 16)), (1, some (.agg [.ints .u8 16 key]))] ⟨1, [(0, some ⟨true, [.ints .u8 16 st], 0⟩)]⟩ (fnK RaAdd 1 Kf) :=
  (L_seq (pz50_9 st key hK h))
end
theorem okaAdd (st : List Int) (key : List Int) (hpre : (BlkOk st ∧ BlkOk key)) : vcaAdd st key := by
  unfold vcaAdd vz50_9 vz50_8 vz50_7 vz50_6 vz50_5 vz50_4 vz50_3 vz50_2 vz50_1 vz50_0
  obtain ⟨h1, h2⟩ := hpre
  refine ⟨⟨by omega, by omega, h1.1, fun j hj => by rw [if_neg (by omega)]⟩, ?_⟩
  rintro v5 h0 ⟨i0, i1, i2, i3⟩
  refine ⟨fun hlt => ?_, fun hge => ?_⟩
  · have hlt := of_decide_eq_true hlt
    have w1 : IntKind.i64.wrap (v5 + 1) = v5 + 1 := by rw [wi64]; omega
    rw [w1, Nat.zero_add, Nat.mul_one]
    refine ⟨i0, by omega, by omega, i0, by omega, by omega, i0, by omega, by omega, by omega, ?_⟩
    rintro h01 rfl
    refine ⟨⟨by omega, by omega, by rw [List.length_set, i2], fun j hj => ?_⟩, by omega⟩
    rw [getD_setI (by omega)]
    by_cases hjv : j = v5.toNat
    · rw [if_pos hjv, if_pos (by omega), ← hjv, i3 j hj, if_neg (by omega)]
    · rw [if_neg hjv, i3 j hj]
      by_cases hjl : (j : Int) < v5
      · rw [if_pos hjl, if_pos (by omega)]
      · rw [if_neg hjl, if_neg (by omega)]
  · have hge := of_decide_eq_false hge
    exact range_ext i2 fun j hj => by rw [i3 j hj, if_pos (by omega)]
theorem saAdd : Sound Try.prog 50 (gS DaAdd) := by
  refine fn_soundA caAdd_fits ?_
  intro args H K h
  obtain ⟨pre, out, hD, hpre, hK⟩ := gS_inv h
  unfold DaAdd at hD
  split at hD
  · obtain ⟨hb, hD⟩ := bif_some hD
    simp only [Bool.and_eq_true] at hb
    obtain ⟨h0, h1⟩ := hb
    obtain rfl := Nat.eq_of_beq_eq_true h0
    obtain rfl := Nat.eq_of_beq_eq_true h1
    cases hD
    exact ⟨rfl, fun w0 fp ρi => waAdd _ _ hK (okaAdd _ _ hpre)⟩
  · cases hD
def DaShift : GSpec := fun args H => match args, H with
  | [.ptr ⟨0, 0, 0, 1⟩ 16, .ptr ⟨1, 0, 0, 1⟩ 256], ⟨2, [(0, some ⟨true, [.ints .u8 st_n st], 0⟩), (1, some ⟨false, [.ints .u8 t_n t], 0⟩)]⟩ => bif Nat.beq st_n 16 && Nat.beq t_n 256 then some ((BlkOk st ∧ t = sboxT), fun K => K (.tuple []) ⟨2, [(0, some ⟨true, [.ints .u8 16 (shiftL st)], 0⟩), (1, some ⟨false, [.ints .u8 256 t], 0⟩)]⟩) else none
  | _, _ => none
def conaShift : Con := ⟨51, gS DaShift, [0], [], []⟩
def cz51_n0 : ACode := .reg (.op (some 6) (.mov (.tm 0)) (.op (some 7) (.nilCheck (.tm 6)) (.op (some 8) (.loadA 16 (.tm 7)) (.op (some 4) (.alloc [.ints .u8 16 (List.replicate 16 0)]) (.op none (.storeA 16 (.tm 4) (.tm 8)) .nil)))))
def cz51_n1 : ACode := .reg (.op (some 9) (.mov (.cn (.int .i64 0))) .nil)
def cz51_n2 : ACode := .reg (.op (some 10) (.bin .lss (.tm 9) (.cn (.int .i64 16))) .nil)
def cz51_n3 : ACode := .cond (.tm 10) .skip (.exit 0)
def cz51_n4 : ACode := .reg (.op (some 11) (.mov (.tm 9)) (.op (some 5) (.mov (.tm 11)) .nil))
def cz51_n5m : List MStep := [.mk 0 0 (some 12) (.mov (.tm 0)), .mk 1 0 (some 13) (.mov (.tm 5)), .mk 2 0 (some 14) (.mov (.tm 1)), .mk 3 0 (some 15) (.mov (.tm 5)), .mk 4 0 (some 16) (.mov (.tm 5)), .mk 5 0 (some 17) (.bin .and (.tm 16) (.cn (.int .i64 3))), .mk 6 0 (some 18) (.bin .mul (.cn (.int .i64 4)) (.tm 17)), .mk 7 0 (some 19) (.bin .add (.tm 15) (.tm 18)), .mk 8 0 (some 20) (.bin .and (.tm 19) (.cn (.int .i64 15))), .mk 9 0 (some 21) (.idxA (.tm 4) (.tm 20) 16 1), .mk 10 0 (some 22) (.load1 (.tm 21)), .mk 11 0 (some 23) (.nilCheck (.tm 14)), .mk 12 0 (some 24) (.idxA (.tm 23) (.tm 22) 256 1), .mk 13 0 (some 25) (.load1 (.tm 24)), .mk 14 0 (some 26) (.nilCheck (.tm 12)), .mk 15 0 (some 27) (.idxA (.tm 26) (.tm 13) 16 1), .mk 16 2 none (.store1 (.tm 27) (.tm 25))]
def cz51_n5 : ACode := .regM cz51_n5m
def cz51_n6 : ACode := .block 1 (.seq cz51_n4 cz51_n5)
def cz51_n7 : ACode := .reg (.op (some 28) (.bin .add (.tm 9) (.cn (.int .i64 1))) (.op (some 9) (.mov (.tm 28)) .nil))
def cz51_n8 : ACode := .loop (.seq cz51_n2 (.seq cz51_n3 (.seq cz51_n6 cz51_n7)))
def cz51_n9 : ACode := .block 0 cz51_n8
def caShift : ACode := (.seq cz51_n0 (.seq cz51_n1 cz51_n9))
def RaShift : Res := .many []
theorem caShift_fits : fnFits Try.prog 51 2 29 caShift RaShift = true := by kernel_rfl
def GaShift : Calls' := withP [] []
theorem hGaShift : CallOk Try.prog GaShift := withP_ok trivial trivial
section
variable {w0 : World} {fp : Nat → Nat → Prop} {ρi : Rho} {Kf : SVal → Heap → Prop}
def kkz51_0 (w0 : World) (fp : Nat → Nat → Prop) (ρi : Rho) (Kf : SVal → Heap → Prop) (st : List Int) (t : List Int) : Cont := blockK 0 (fun e H => SemL Try.prog w0 fp ρi 2 29 [] e H (fnK RaShift 2 Kf)) (fnK RaShift 2 Kf)
def ivz51_1 (st : List Int) (t : List Int) : Int × List Int → Prop := fun s => match s with | (v9, h0) => 0 ≤ v9 ∧ v9 ≤ 16 ∧ h0.length = 16 ∧ ∀ j : Nat, j < 16 → (j : Int) < v9 → h0.getD j 0 = subB (st.getD ((j + 4 * (j % 4)) % 16) 0)
def muz51_1 (st : List Int) (t : List Int) : Int × List Int → Nat := fun s => match s with | (v9, h0) => ((16 - v9).toNat)
def liz51_1 (st : List Int) (t : List Int) : Int × List Int → Env := fun s => match s with | (v9, h0) => [(0, some (.ptr ⟨0, 0, 0, 1⟩ 16)), (1, some (.ptr ⟨1, 0, 0, 1⟩ 256)), (4, some (.ptr ⟨2, 0, 0, 1⟩ 16)), (9, some (.int .i64 v9))]
def ljz51_1 (st : List Int) (t : List Int) : Int × List Int → Heap := fun s => match s with | (v9, h0) => ⟨3, [(0, some ⟨true, [.ints .u8 16 h0], 0⟩), (1, some ⟨false, [.ints .u8 256 t], 0⟩), (2, some ⟨true, [.ints .u8 16 st], 0⟩)]⟩
def kkz51_1 (w0 : World) (fp : Nat → Nat → Prop) (ρi : Rho) (Kf : SVal → Heap → Prop) (st : List Int) (t : List Int) (v9 : Int) (h0 : List Int) : Cont := loopK 2 (ivz51_1 st t) (muz51_1 st t) (liz51_1 st t) (ljz51_1 st t) (v9, h0) (kkz51_0 w0 fp ρi Kf st t)
theorem rz51_0 (st : List Int) (t : List Int) (v9 : Int) (h0'1 : List Int) (h0 : List Int) (Z : Env → Heap → Prop) (h : Z [(0, some (.ptr ⟨0, 0, 0, 1⟩ 16)), (1, some (.ptr ⟨1, 0, 0, 1⟩ 256)), (4, some (.ptr ⟨2, 0, 0, 1⟩ 16)), (9, some (.int .i64 (IntKind.i64.wrap (v9 + 1))))] ⟨3, [(0, some ⟨true, [.ints .u8 16 h0'1], 0⟩), (1, some ⟨false, [.ints .u8 256 t], 0⟩), (2, some ⟨true, [.ints .u8 16 st], 0⟩)]⟩) : EvC GaShift cz51_n7 [(0, some (.ptr ⟨0, 0, 0, 1⟩ 16)), (1, some (.ptr ⟨1, 0, 0, 1⟩ 256)), (4, some (.ptr ⟨2, 0, 0, 1⟩ 16)), (9, some (.int .i64 v9))] ⟨3, [(0, some ⟨true, [.ints .u8 16 h0'1], 0⟩), (1, some ⟨false, [.ints .u8 256 t], 0⟩), (2, some ⟨true, [.ints .u8 16 st], 0⟩)]⟩ [0, 1, 4, 9] [0, 1, 2] Z := EvC.of (by kernel_rfl) h
def vz51_0 (st : List Int) (t : List Int) (v9 : Int) (h0'1 : List Int) (h0 : List Int) : Prop := (0 ≤ (IntKind.i64.wrap (v9 + 1)) ∧ (IntKind.i64.wrap (v9 + 1)) ≤ 16 ∧ h0'1.length = 16 ∧ ∀ j : Nat, j < 16 → (j : Int) < (IntKind.i64.wrap (v9 + 1)) → h0'1.getD j 0 = subB (st.getD ((j + 4 * (j % 4)) % 16) 0)) ∧ (((16 - (IntKind.i64.wrap (v9 + 1))).toNat) < ((16 - v9).toNat))
theorem pz51_0 (st : List Int) (t : List Int) (hK : Kf (.tuple []) ⟨2, [(0, some ⟨true, [.ints .u8 16 (shiftL st)], 0⟩), (1, some ⟨false, [.ints .u8 256 t], 0⟩)]⟩) (v9 : Int) (h0'1 : List Int) (h0 : List Int) (h : vz51_0 st t v9 h0'1 h0) : SemL Try.prog w0 fp ρi 2 29 [cz51_n7] [(0, some (.ptr ⟨0, 0, 0, 1⟩ 16)), (1, some (.ptr ⟨1, 0, 0, 1⟩ 256)), (4, some (.ptr ⟨2, 0, 0, 1⟩ 16)), (9, some (.int .i64 v9))] ⟨3, [(0, some ⟨true, [.ints .u8 16 h0'1], 0⟩), (1, some ⟨false, [.ints .u8 256 t], 0⟩), (2, some ⟨true, [.ints .u8 16 st], 0⟩)]⟩ (kkz51_1 w0 fp ρi Kf st t v9 h0) :=
  L_regE hGaShift (rz51_0 st t v9 h0'1 h0 (fun e H => SemL Try.prog w0 fp ρi 2 29 [] e H (kkz51_1 w0 fp ρi Kf st t v9 h0)) (L_nil (loop_back (x' := ((IntKind.i64.wrap (v9 + 1)), h0'1)) (τ := tau []) h.1 h.2 (sub_tau' [] [0, 1, 2] rfl rfl (esc bpt (esc bpt (esc bpt (esc pbd envSub_nil)))) (hsc pcs (hsc pcs (hsc pcs heapSub_nil))) (by kernel_rfl) rfl))))
def kkz51_2 (w0 : World) (fp : Nat → Nat → Prop) (ρi : Rho) (Kf : SVal → Heap → Prop) (st : List Int) (t : List Int) (v9 : Int) (h0 : List Int) : Cont := blockK 1 (fun e H => SemL Try.prog w0 fp ρi 2 29 [cz51_n7] e H (kkz51_1 w0 fp ρi Kf st t v9 h0)) (kkz51_1 w0 fp ρi Kf st t v9 h0)
theorem rz51_1 (st : List Int) (t : List Int) (v9 : Int) (h0 : List Int) (Z : Env → Heap → Prop) (h : ((0 ≤ (iand .i64 (IntKind.i64.wrap (v9 + (IntKind.i64.wrap (4 * (iand .i64 v9 3))))) 15))) ∧ (((iand .i64 (IntKind.i64.wrap (v9 + (IntKind.i64.wrap (4 * (iand .i64 v9 3))))) 15) < 16)) ∧ (((0 + ((Int.toNat (iand .i64 (IntKind.i64.wrap (v9 + (IntKind.i64.wrap (4 * (iand .i64 v9 3))))) 15)) * 1)) < 16)) ∧ ((0 ≤ (List.getD st (0 + ((Int.toNat (iand .i64 (IntKind.i64.wrap (v9 + (IntKind.i64.wrap (4 * (iand .i64 v9 3))))) 15)) * 1)) 0))) ∧ (((List.getD st (0 + ((Int.toNat (iand .i64 (IntKind.i64.wrap (v9 + (IntKind.i64.wrap (4 * (iand .i64 v9 3))))) 15)) * 1)) 0) < 256)) ∧ (((0 + ((Int.toNat (List.getD st (0 + ((Int.toNat (iand .i64 (IntKind.i64.wrap (v9 + (IntKind.i64.wrap (4 * (iand .i64 v9 3))))) 15)) * 1)) 0)) * 1)) < 256)) ∧ ((0 ≤ v9)) ∧ ((v9 < 16)) ∧ (((0 + ((Int.toNat v9) * 1)) < 16)) ∧ (((0 + ((Int.toNat v9) * 1)) < List.length h0)) ∧ Z [(0, some (.ptr ⟨0, 0, 0, 1⟩ 16)), (1, some (.ptr ⟨1, 0, 0, 1⟩ 256)), (4, some (.ptr ⟨2, 0, 0, 1⟩ 16)), (9, some (.int .i64 v9))] ⟨3, [(0, some ⟨true, [.ints .u8 16 (List.set h0 (0 + ((Int.toNat v9) * 1)) (List.getD t (0 + ((Int.toNat (List.getD st (0 + ((Int.toNat (iand .i64 (IntKind.i64.wrap (v9 + (IntKind.i64.wrap (4 * (iand .i64 v9 3))))) 15)) * 1)) 0)) * 1)) 0))], 0⟩), (1, some ⟨false, [.ints .u8 256 t], 0⟩), (2, some ⟨true, [.ints .u8 16 st], 0⟩)]⟩) : EvNC GaShift cz51_n5m [[], [], [], [], [], [], [], [], [], [], [2], [], [], [1], [], [], []] [(0, some (.ptr ⟨0, 0, 0, 1⟩ 16)), (1, some (.ptr ⟨1, 0, 0, 1⟩ 256)), (4, some (.ptr ⟨2, 0, 0, 1⟩ 16)), (5, some (.int .i64 v9)), (9, some (.int .i64 v9))] ⟨3, [(0, some ⟨true, [.ints .u8 16 h0], 0⟩), (1, some ⟨false, [.ints .u8 256 t], 0⟩), (2, some ⟨true, [.ints .u8 16 st], 0⟩)]⟩ [0, 1, 4, 9] [0, 1, 2] Z := EvNC.of (by kernel_rfl) h
def vz51_1 (st : List Int) (t : List Int) (v9 : Int) (h0 : List Int) : Prop := ((0 ≤ (iand .i64 (IntKind.i64.wrap (v9 + (IntKind.i64.wrap (4 * (iand .i64 v9 3))))) 15))) ∧ ((((iand .i64 (IntKind.i64.wrap (v9 + (IntKind.i64.wrap (4 * (iand .i64 v9 3))))) 15) < 16)) ∧ ((((0 + ((Int.toNat (iand .i64 (IntKind.i64.wrap (v9 + (IntKind.i64.wrap (4 * (iand .i64 v9 3))))) 15)) * 1)) < 16)) ∧ (((0 ≤ (List.getD st (0 + ((Int.toNat (iand .i64 (IntKind.i64.wrap (v9 + (IntKind.i64.wrap (4 * (iand .i64 v9 3))))) 15)) * 1)) 0))) ∧ ((((List.getD st (0 + ((Int.toNat (iand .i64 (IntKind.i64.wrap (v9 + (IntKind.i64.wrap (4 * (iand .i64 v9 3))))) 15)) * 1)) 0) < 256)) ∧ ((((0 + ((Int.toNat (List.getD st (0 + ((Int.toNat (iand .i64 (IntKind.i64.wrap (v9 + (IntKind.i64.wrap (4 * (iand .i64 v9 3))))) 15)) * 1)) 0)) * 1)) < 256)) ∧ (((0 ≤ v9)) ∧ (((v9 < 16)) ∧ ((((0 + ((Int.toNat v9) * 1)) < 16)) ∧ ((((0 + ((Int.toNat v9) * 1)) < List.length h0)) ∧ (∀ h0'1 : List Int, h0'1 = (List.set h0 (0 + ((Int.toNat v9) * 1)) (List.getD t (0 + ((Int.toNat (List.getD st (0 + ((Int.toNat (iand .i64 (IntKind.i64.wrap (v9 + (IntKind.i64.wrap (4 * (iand .i64 v9 3))))) 15)) * 1)) 0)) * 1)) 0)) → vz51_0 st t v9 h0'1 h0))))))))))
theorem pz51_1 (st : List Int) (t : List Int) (hK : Kf (.tuple []) ⟨2, [(0, some ⟨true, [.ints .u8 16 (shiftL st)], 0⟩), (1, some ⟨false, [.ints .u8 256 t], 0⟩)]⟩) (v9 : Int) (h0 : List Int) (h : vz51_1 st t v9 h0) : SemL Try.prog w0 fp ρi 2 29 [cz51_n5] [(0, some (.ptr ⟨0, 0, 0, 1⟩ 16)), (1, some (.ptr ⟨1, 0, 0, 1⟩ 256)), (4, some (.ptr ⟨2, 0, 0, 1⟩ 16)), (5, some (.int .i64 v9)), (9, some (.int .i64 v9))] ⟨3, [(0, some ⟨true, [.ints .u8 16 h0], 0⟩), (1, some ⟨false, [.ints .u8 256 t], 0⟩), (2, some ⟨true, [.ints .u8 16 st], 0⟩)]⟩ (kkz51_2 w0 fp ρi Kf st t v9 h0) :=
  L_regME hGaShift (steps := cz51_n5m) (rz51_1 st t v9 h0 (fun e H => SemL Try.prog w0 fp ρi 2 29 [] e H (kkz51_2 w0 fp ρi Kf st t v9 h0)) ⟨h.1, ⟨h.2.1, ⟨h.2.2.1, ⟨h.2.2.2.1, ⟨h.2.2.2.2.1, ⟨h.2.2.2.2.2.1, ⟨h.2.2.2.2.2.2.1, ⟨h.2.2.2.2.2.2.2.1, ⟨h.2.2.2.2.2.2.2.2.1, ⟨h.2.2.2.2.2.2.2.2.2.1, (L_nil (pz51_0 st t hK v9 (List.set h0 (0 + ((Int.toNat v9) * 1)) (List.getD t (0 + ((Int.toNat (List.getD st (0 + ((Int.toNat (iand .i64 (IntKind.i64.wrap (v9 + (IntKind.i64.wrap (4 * (iand .i64 v9 3))))) 15)) * 1)) 0)) * 1)) 0)) h0 (h.2.2.2.2.2.2.2.2.2.2 (List.set h0 (0 + ((Int.toNat v9) * 1)) (List.getD t (0 + ((Int.toNat (List.getD st (0 + ((Int.toNat (iand .i64 (IntKind.i64.wrap (v9 + (IntKind.i64.wrap (4 * (iand .i64 v9 3))))) 15)) * 1)) 0)) * 1)) 0)) rfl)))⟩⟩⟩⟩⟩⟩⟩⟩⟩⟩)
theorem rz51_2 (st : List Int) (t : List Int) (v9 : Int) (h0 : List Int) (Z : Env → Heap → Prop) (h : Z [(0, some (.ptr ⟨0, 0, 0, 1⟩ 16)), (1, some (.ptr ⟨1, 0, 0, 1⟩ 256)), (4, some (.ptr ⟨2, 0, 0, 1⟩ 16)), (5, some (.int .i64 v9)), (9, some (.int .i64 v9))] ⟨3, [(0, some ⟨true, [.ints .u8 16 h0], 0⟩), (1, some ⟨false, [.ints .u8 256 t], 0⟩), (2, some ⟨true, [.ints .u8 16 st], 0⟩)]⟩) : EvC GaShift cz51_n4 [(0, some (.ptr ⟨0, 0, 0, 1⟩ 16)), (1, some (.ptr ⟨1, 0, 0, 1⟩ 256)), (4, some (.ptr ⟨2, 0, 0, 1⟩ 16)), (9, some (.int .i64 v9))] ⟨3, [(0, some ⟨true, [.ints .u8 16 h0], 0⟩), (1, some ⟨false, [.ints .u8 256 t], 0⟩), (2, some ⟨true, [.ints .u8 16 st], 0⟩)]⟩ [0, 1, 4, 5, 9] [0, 1, 2] Z := EvC.of (by kernel_rfl) h
def vz51_2 (st : List Int) (t : List Int) (v9 : Int) (h0 : List Int) : Prop := vz51_1 st t v9 h0
theorem pz51_2 (st : List Int) (t : List Int) (hK : Kf (.tuple []) ⟨2, [(0, some ⟨true, [.ints .u8 16 (shiftL st)], 0⟩), (1, some ⟨false, [.ints .u8 256 t], 0⟩)]⟩) (v9 : Int) (h0 : List Int) (h : vz51_2 st t v9 h0) : SemL Try.prog w0 fp ρi 2 29 [cz51_n4, cz51_n5] [(0, some (.ptr ⟨0, 0, 0, 1⟩ 16)), (1, some (.ptr ⟨1, 0, 0, 1⟩ 256)), (4, some (.ptr ⟨2, 0, 0, 1⟩ 16)), (9, some (.int .i64 v9))] ⟨3, [(0, some ⟨true, [.ints .u8 16 h0], 0⟩), (1, some ⟨false, [.ints .u8 256 t], 0⟩), (2, some ⟨true, [.ints .u8 16 st], 0⟩)]⟩ (kkz51_2 w0 fp ρi Kf st t v9 h0) :=
  L_regE hGaShift (rz51_2 st t v9 h0 (fun e H => SemL Try.prog w0 fp ρi 2 29 [cz51_n5] e H (kkz51_2 w0 fp ρi Kf st t v9 h0)) (pz51_1 st t hK v9 h0 h))
def vz51_3 (st : List Int) (t : List Int) (v9 : Int) (h0 : List Int) : Prop := vz51_2 st t v9 h0
theorem pz51_3 (st : List Int) (t : List Int) (hK : Kf (.tuple []) ⟨2, [(0, some ⟨true, [.ints .u8 16 (shiftL st)], 0⟩), (1, some ⟨false, [.ints .u8 256 t], 0⟩)]⟩) (v9 : Int) (h0 : List Int) (h : vz51_3 st t v9 h0) : SemL Try.prog w0 fp ρi 2 29 [cz51_n6, cz51_n7] [(0, some (.ptr ⟨0, 0, 0, 1⟩ 16)), (1, some (.ptr ⟨1, 0, 0, 1⟩ 256)), (4, some (.ptr ⟨2, 0, 0, 1⟩ 16)), (9, some (.int .i64 v9))] ⟨3, [(0, some ⟨true, [.ints .u8 16 h0], 0⟩), (1, some ⟨false, [.ints .u8 256 t], 0⟩), (2, some ⟨true, [.ints .u8 16 st], 0⟩)]⟩ (kkz51_1 w0 fp ρi Kf st t v9 h0) :=
  L_block (L_seq (pz51_2 st t hK v9 h0 h))
theorem rtz51_0 (st : List Int) (t : List Int) (h0 : List Int) : RetC RaShift [] ⟨3, [(0, some ⟨true, [.ints .u8 16 h0], 0⟩), (1, some ⟨false, [.ints .u8 256 t], 0⟩)]⟩ (.tuple []) := RetC.of (fun Z => by kernel_rfl)
def vz51_4 (st : List Int) (t : List Int) (v9 : Int) (h0 : List Int) : Prop := ((decide (v9 < 16)) = true → (vz51_3 st t v9 h0)) ∧ ((decide (v9 < 16)) = false → (h0 = (shiftL st)))
theorem pz51_4 (st : List Int) (t : List Int) (hK : Kf (.tuple []) ⟨2, [(0, some ⟨true, [.ints .u8 16 (shiftL st)], 0⟩), (1, some ⟨false, [.ints .u8 256 t], 0⟩)]⟩) (v9 : Int) (h0 : List Int) (h : vz51_4 st t v9 h0) : SemL Try.prog w0 fp ρi 2 29 [cz51_n3, (.seq cz51_n6 cz51_n7)] [(0, some (.ptr ⟨0, 0, 0, 1⟩ 16)), (1, some (.ptr ⟨1, 0, 0, 1⟩ 256)), (4, some (.ptr ⟨2, 0, 0, 1⟩ 16)), (9, some (.int .i64 v9)), (10, some (.bool (decide (v9 < 16))))] ⟨3, [(0, some ⟨true, [.ints .u8 16 h0], 0⟩), (1, some ⟨false, [.ints .u8 256 t], 0⟩), (2, some ⟨true, [.ints .u8 16 st], 0⟩)]⟩ (kkz51_1 w0 fp ρi Kf st t v9 h0) :=
  L_cond (q := (decide (v9 < 16))) (by kernel_rfl) (fun hq => (L_skip (lpk [0, 1, 4, 9] [0, 1, 2] (L_seq (pz51_3 st t hK v9 h0 (h.1 hq)))))) (fun hq => (L_exit (lpk [] [0, 1] (L_endE (R := RaShift) (m := 2) (Kf := Kf) (fun _ _ h => h) (rtz51_0 st t h0) (ret_of0 (Eq.mpr (cg1 (fun (z1 : List Int) => Ret0 2 Kf (.tuple []) ⟨3, [(0, some ⟨true, [.ints .u8 16 z1], 0⟩), (1, some ⟨false, [.ints .u8 256 t], 0⟩)]⟩) (h.2 hq)) (ret0_tau [] [0, 1] rfl (by kernel_rfl) rfl (bd_tuple bdL_nil) (hsc pcs (hsc pcs heapSub_nil)) rfl (by kernel_rfl) (hK))))))))
theorem rz51_5 (st : List Int) (t : List Int) (v9 : Int) (h0 : List Int) (Z : Env → Heap → Prop) (h : Z [(0, some (.ptr ⟨0, 0, 0, 1⟩ 16)), (1, some (.ptr ⟨1, 0, 0, 1⟩ 256)), (4, some (.ptr ⟨2, 0, 0, 1⟩ 16)), (9, some (.int .i64 v9)), (10, some (.bool (decide (v9 < 16))))] ⟨3, [(0, some ⟨true, [.ints .u8 16 h0], 0⟩), (1, some ⟨false, [.ints .u8 256 t], 0⟩), (2, some ⟨true, [.ints .u8 16 st], 0⟩)]⟩) : EvC GaShift cz51_n2 [(0, some (.ptr ⟨0, 0, 0, 1⟩ 16)), (1, some (.ptr ⟨1, 0, 0, 1⟩ 256)), (4, some (.ptr ⟨2, 0, 0, 1⟩ 16)), (9, some (.int .i64 v9))] ⟨3, [(0, some ⟨true, [.ints .u8 16 h0], 0⟩), (1, some ⟨false, [.ints .u8 256 t], 0⟩), (2, some ⟨true, [.ints .u8 16 st], 0⟩)]⟩ [0, 1, 4, 9, 10] [0, 1, 2] Z := EvC.of (by kernel_rfl) h
def vz51_5 (st : List Int) (t : List Int) (v9 : Int) (h0 : List Int) : Prop := vz51_4 st t v9 h0
theorem pz51_5 (st : List Int) (t : List Int) (hK : Kf (.tuple []) ⟨2, [(0, some ⟨true, [.ints .u8 16 (shiftL st)], 0⟩), (1, some ⟨false, [.ints .u8 256 t], 0⟩)]⟩) (v9 : Int) (h0 : List Int) (h : vz51_5 st t v9 h0) : SemL Try.prog w0 fp ρi 2 29 [cz51_n2, (.seq cz51_n3 (.seq cz51_n6 cz51_n7))] [(0, some (.ptr ⟨0, 0, 0, 1⟩ 16)), (1, some (.ptr ⟨1, 0, 0, 1⟩ 256)), (4, some (.ptr ⟨2, 0, 0, 1⟩ 16)), (9, some (.int .i64 v9))] ⟨3, [(0, some ⟨true, [.ints .u8 16 h0], 0⟩), (1, some ⟨false, [.ints .u8 256 t], 0⟩), (2, some ⟨true, [.ints .u8 16 st], 0⟩)]⟩ (kkz51_1 w0 fp ρi Kf st t v9 h0) :=
  L_regE hGaShift (rz51_5 st t v9 h0 (fun e H => SemL Try.prog w0 fp ρi 2 29 [(.seq cz51_n3 (.seq cz51_n6 cz51_n7))] e H (kkz51_1 w0 fp ρi Kf st t v9 h0)) (L_seq (pz51_4 st t hK v9 h0 h)))
def vz51_6 (st : List Int) (t : List Int) : Prop := (0 ≤ (0 : Int) ∧ (0 : Int) ≤ 16 ∧ st.length = 16 ∧ ∀ j : Nat, j < 16 → (j : Int) < (0 : Int) → st.getD j 0 = subB (st.getD ((j + 4 * (j % 4)) % 16) 0)) ∧ (∀ (v9 : Int) (h0 : List Int), (0 ≤ v9 ∧ v9 ≤ 16 ∧ h0.length = 16 ∧ ∀ j : Nat, j < 16 → (j : Int) < v9 → h0.getD j 0 = subB (st.getD ((j + 4 * (j % 4)) % 16) 0)) → (vz51_5 st t v9 h0))
theorem pz51_6 (st : List Int) (t : List Int) (hK : Kf (.tuple []) ⟨2, [(0, some ⟨true, [.ints .u8 16 (shiftL st)], 0⟩), (1, some ⟨false, [.ints .u8 256 t], 0⟩)]⟩) (h : vz51_6 st t) : SemL Try.prog w0 fp ρi 2 29 [cz51_n8] [(0, some (.ptr ⟨0, 0, 0, 1⟩ 16)), (1, some (.ptr ⟨1, 0, 0, 1⟩ 256)), (4, some (.ptr ⟨2, 0, 0, 1⟩ 16)), (9, some (.int .i64 0))] ⟨3, [(0, some ⟨true, [.ints .u8 16 st], 0⟩), (1, some ⟨false, [.ints .u8 256 t], 0⟩), (2, some ⟨true, [.ints .u8 16 st], 0⟩)]⟩ (kkz51_0 w0 fp ρi Kf st t) :=
  L_loop (ivz51_1 st t) (muz51_1 st t) (liz51_1 st t) (ljz51_1 st t) ⟨(0, st), tau [], h.1, (sub_tau' [] [0, 1, 2] rfl rfl (esc bpt (esc bpt (esc bpt (esc pbd envSub_nil)))) (hsc pcs (hsc pcs (hsc pcs heapSub_nil))) (by kernel_rfl) rfl)⟩ (fun s => match s with | (v9, h0) => fun hi => (L_seq (pz51_5 st t hK v9 h0 (h.2 v9 h0 hi))))
def vz51_7 (st : List Int) (t : List Int) : Prop := vz51_6 st t
theorem pz51_7 (st : List Int) (t : List Int) (hK : Kf (.tuple []) ⟨2, [(0, some ⟨true, [.ints .u8 16 (shiftL st)], 0⟩), (1, some ⟨false, [.ints .u8 256 t], 0⟩)]⟩) (h : vz51_7 st t) : SemL Try.prog w0 fp ρi 2 29 [cz51_n9] [(0, some (.ptr ⟨0, 0, 0, 1⟩ 16)), (1, some (.ptr ⟨1, 0, 0, 1⟩ 256)), (4, some (.ptr ⟨2, 0, 0, 1⟩ 16)), (9, some (.int .i64 0))] ⟨3, [(0, some ⟨true, [.ints .u8 16 st], 0⟩), (1, some ⟨false, [.ints .u8 256 t], 0⟩), (2, some ⟨true, [.ints .u8 16 st], 0⟩)]⟩ (fnK RaShift 2 Kf) :=
  L_block (pz51_6 st t hK h)
theorem rz51_8 (st : List Int) (t : List Int) (Z : Env → Heap → Prop) (h : Z [(0, some (.ptr ⟨0, 0, 0, 1⟩ 16)), (1, some (.ptr ⟨1, 0, 0, 1⟩ 256)), (4, some (.ptr ⟨2, 0, 0, 1⟩ 16)), (9, some (.int .i64 0))] ⟨3, [(0, some ⟨true, [.ints .u8 16 st], 0⟩), (1, some ⟨false, [.ints .u8 256 t], 0⟩), (2, some ⟨true, [.ints .u8 16 st], 0⟩)]⟩) : EvC GaShift cz51_n1 [(0, some (.ptr ⟨0, 0, 0, 1⟩ 16)), (1, some (.ptr ⟨1, 0, 0, 1⟩ 256)), (4, some (.ptr ⟨2, 0, 0, 1⟩ 16))] ⟨3, [(0, some ⟨true, [.ints .u8 16 st], 0⟩), (1, some ⟨false, [.ints .u8 256 t], 0⟩), (2, some ⟨true, [.ints .u8 16 st], 0⟩)]⟩ [0, 1, 4, 9] [0, 1, 2] Z := EvC.of (by kernel_rfl) h
def vz51_8 (st : List Int) (t : List Int) : Prop := vz51_7 st t
theorem pz51_8 (st : List Int) (t : List Int) (hK : Kf (.tuple []) ⟨2, [(0, some ⟨true, [.ints .u8 16 (shiftL st)], 0⟩), (1, some ⟨false, [.ints .u8 256 t], 0⟩)]⟩) (h : vz51_8 st t) : SemL Try.prog w0 fp ρi 2 29 [cz51_n1, cz51_n9] [(0, some (.ptr ⟨0, 0, 0, 1⟩ 16)), (1, some (.ptr ⟨1, 0, 0, 1⟩ 256)), (4, some (.ptr ⟨2, 0, 0, 1⟩ 16))] ⟨3, [(0, some ⟨true, [.ints .u8 16 st], 0⟩), (1, some ⟨false, [.ints .u8 256 t], 0⟩), (2, some ⟨true, [.ints .u8 16 st], 0⟩)]⟩ (fnK RaShift 2 Kf) :=
  L_regE hGaShift (rz51_8 st t (fun e H => SemL Try.prog w0 fp ρi 2 29 [cz51_n9] e H (fnK RaShift 2 Kf)) (pz51_7 st t hK h))
theorem rz51_9 (st : List Int) (t : List Int) (Z : Env → Heap → Prop) (h : Z [(0, some (.ptr ⟨0, 0, 0, 1⟩ 16)), (1, some (.ptr ⟨1, 0, 0, 1⟩ 256)), (4, some (.ptr ⟨2, 0, 0, 1⟩ 16))] ⟨3, [(0, some ⟨true, [.ints .u8 16 st], 0⟩), (1, some ⟨false, [.ints .u8 256 t], 0⟩), (2, some ⟨true, [.ints .u8 16 st], 0⟩)]⟩) : EvC GaShift cz51_n0 [(0, some (.ptr ⟨0, 0, 0, 1⟩ 16)), (1, some (.ptr ⟨1, 0, 0, 1⟩ 256))] ⟨2, [(0, some ⟨true, [.ints .u8 16 st], 0⟩), (1, some ⟨false, [.ints .u8 256 t], 0⟩)]⟩ [0, 1, 4] [0, 1, 2] Z := EvC.of (by kernel_rfl) h
def vz51_9 (st : List Int) (t : List Int) : Prop := vz51_8 st t
theorem pz51_9 (st : List Int) (t : List Int) (hK : Kf (.tuple []) ⟨2, [(0, some ⟨true, [.ints .u8 16 (shiftL st)], 0⟩), (1, some ⟨false, [.ints .u8 256 t], 0⟩)]⟩) (h : vz51_9 st t) : SemL Try.prog w0 fp ρi 2 29 [cz51_n0, (.seq cz51_n1 cz51_n9)] [(0, some (.ptr ⟨0, 0, 0, 1⟩ 16)), (1, some (.ptr ⟨1, 0, 0, 1⟩ 256))] ⟨2, [(0, some ⟨true, [.ints .u8 16 st], 0⟩), (1, some ⟨false, [.ints .u8 256 t], 0⟩)]⟩ (fnK RaShift 2 Kf) :=
  L_regE hGaShift (rz51_9 st t (fun e H => SemL Try.prog w0 fp ρi 2 29 [(.seq cz51_n1 cz51_n9)] e H (fnK RaShift 2 Kf)) (L_seq (pz51_8 st t hK h)))
def vcaShift (st : List Int) (t : List Int) : Prop := vz51_9 st t
theorem waShift (st : List Int) (t : List Int) (hK : Kf (.tuple []) ⟨2, [(0, some ⟨true, [.ints .u8 16 (shiftL st)], 0⟩), (1, some ⟨false, [.ints .u8 256 t], 0⟩)]⟩) (h : vcaShift st t) : SemL Try.prog w0 fp ρi 2 29 [caShift] [(0, some (.ptr ⟨0, 0, 0, 1⟩ 16)), (1, some (.ptr ⟨1, 0, 0, 1⟩ 256))] ⟨2, [(0, some ⟨true, [.ints .u8 16 st], 0⟩), (1, some ⟨false, [.ints .u8 256 t], 0⟩)]⟩ (fnK RaShift 2 Kf) :=
  (L_seq (pz51_9 st t hK h))
end
theorem okaShift (st : List Int) (t : List Int) (hpre : (BlkOk st ∧ t = sboxT)) : vcaShift st t := by
  unfold vcaShift vz51_9 vz51_8 vz51_7 vz51_6 vz51_5 vz51_4 vz51_3 vz51_2 vz51_1 vz51_0
  obtain ⟨h1, rfl⟩ := hpre
  refine ⟨⟨by omega, by omega, h1.1, fun j hj hl => absurd hl (by omega)⟩, ?_⟩
  rintro v9 h0 ⟨i0, i1, i2, i3⟩
  refine ⟨fun hlt => ?_, fun hge => ?_⟩
  · have hlt := of_decide_eq_true hlt
    have w1 : IntKind.i64.wrap (v9 + 1) = v9 + 1 := by rw [wi64]; omega
    have hx := shift_ix v9.toNat (by omega)
    rw [show ((v9.toNat : Nat) : Int) = v9 by omega] at hx
    rw [w1, hx, Nat.zero_add, Nat.mul_one, Nat.zero_add, Nat.mul_one, Nat.zero_add, Nat.mul_one, Int.toNat_natCast]
    have hm : (v9.toNat + 4 * (v9.toNat % 4)) % 16 < 16 := Nat.mod_lt _ (by omega)
    have hb := getDb h1.2 ((v9.toNat + 4 * (v9.toNat % 4)) % 16)
    refine ⟨by omega, by omega, hm, hb.1, hb.2, by omega, i0, by omega, by omega, by omega, ?_⟩
    rintro h01 rfl
    refine ⟨⟨by omega, by omega, by rw [List.length_set, i2], fun j hj hl => ?_⟩, by omega⟩
    rw [getD_setI (by omega)]
    by_cases hjv : j = v9.toNat
    · rw [if_pos hjv, hjv]; rfl
    · rw [if_neg hjv]; exact i3 j hj (by omega)
  · have hge := of_decide_eq_false hge
    exact range_ext i2 fun j hj => i3 j hj (by omega)
theorem saShift : Sound Try.prog 51 (gS DaShift) := by
  refine fn_soundA caShift_fits ?_
  intro args H K h
  obtain ⟨pre, out, hD, hpre, hK⟩ := gS_inv h
  unfold DaShift at hD
  split at hD
  · obtain ⟨hb, hD⟩ := bif_some hD
    simp only [Bool.and_eq_true] at hb
    obtain ⟨h0, h1⟩ := hb
    obtain rfl := Nat.eq_of_beq_eq_true h0
    obtain rfl := Nat.eq_of_beq_eq_true h1
    cases hD
    exact ⟨rfl, fun w0 fp ρi => waShift _ _ hK (okaShift _ _ hpre)⟩
  · cases hD
def Pq1Digit : PSpec := fun args => match args with
  | [.int .u8 c] => some ((0 ≤ c ∧ c < 256), .int .i64 (digF c))
  | _ => none
def pcq1Digit : PCon := ⟨44, Pq1Digit⟩
def cz44_n0 : ACode := .reg (.op (some 2) (.mov (.cn (.int .i64 0))) .nil)
def cz44_n1 : ACode := .reg (.op (some 3) (.mov (.cn (.int .i64 0))) .nil)
def cz44_n2 : ACode := .reg (.op (some 4) (.mov (.tm 3)) (.op (some 5) (.bin .lss (.tm 4) (.cn (.int .i64 16))) .nil))
def cz44_n3 : ACode := .cond (.tm 5) .skip (.exit 0)
def cz44_n4 : ACode := .reg (.op (some 8) (.mov (.tm 3)) (.op (some 9) (.strIdx (.cn (.str ⟨#[48, 49, 50, 51, 52, 53, 54, 55, 56, 57, 97, 98, 99, 100, 101, 102]⟩)) (.tm 8)) (.op (some 10) (.mov (.tm 0)) (.op (some 11) (.bin .eql (.tm 9) (.tm 10)) .nil))))
def cz44_n5 : ACode := .reg (.op (some 12) (.mov (.tm 3)) (.op (some 2) (.mov (.tm 12)) .nil))
def cz44_n6 : ACode := .cond (.tm 11) (.seq cz44_n5 .ret) .skip
def cz44_n7 : ACode := .block 1 (.seq cz44_n4 cz44_n6)
def cz44_n8 : ACode := .reg (.op (some 6) (.mov (.tm 3)) (.op (some 7) (.bin .add (.tm 6) (.cn (.int .i64 1))) (.op (some 3) (.mov (.tm 7)) .nil)))
def cz44_n9 : ACode := .loop (.seq (.seq cz44_n2 cz44_n3) (.seq cz44_n7 cz44_n8))
def cz44_n10 : ACode := .block 0 cz44_n9
def cz44_n11 : ACode := .reg (.op (some 2) (.mov (.cn (.int .i64 (-1)))) .nil)
def cq1Digit : ACode := (.seq cz44_n0 (.seq (.seq cz44_n1 cz44_n10) (.seq cz44_n11 .ret)))
def Rq1Digit : Res := .one (.tm 2)
theorem cq1Digit_fits : fnFits Try.prog 44 1 13 cq1Digit Rq1Digit = true := by kernel_rfl
def Gq1Digit : Calls' := withP [] []
theorem hGq1Digit : CallOk Try.prog Gq1Digit := withP_ok trivial trivial
section
variable {w0 : World} {fp : Nat → Nat → Prop} {ρi : Rho} {Kf : SVal → Heap → Prop}
def kkz44_0 (w0 : World) (fp : Nat → Nat → Prop) (ρi : Rho) (Kf : SVal → Heap → Prop) (c : Int) : Cont := blockK 0 (fun e H => SemL Try.prog w0 fp ρi 0 13 [(.seq cz44_n11 .ret)] e H (fnK Rq1Digit 0 Kf)) (fnK Rq1Digit 0 Kf)
def ivz44_1 (c : Int) : Int → Prop := fun s => match s with | v3 => 0 ≤ v3 ∧ v3 ≤ 16 ∧ digGo (16 - v3).toNat v3.toNat c = digF c
def muz44_1 (c : Int) : Int → Nat := fun s => match s with | v3 => ((16 - v3).toNat)
def liz44_1 (c : Int) : Int → Env := fun s => match s with | v3 => [(0, some (.int .u8 c)), (3, some (.int .i64 v3))]
def ljz44_1 (c : Int) : Int → Heap := fun s => match s with | v3 => ⟨0, []⟩
def kkz44_1 (w0 : World) (fp : Nat → Nat → Prop) (ρi : Rho) (Kf : SVal → Heap → Prop) (c : Int) (v3 : Int) : Cont := loopK 0 (ivz44_1 c) (muz44_1 c) (liz44_1 c) (ljz44_1 c) v3 (kkz44_0 w0 fp ρi Kf c)
def kkz44_2 (w0 : World) (fp : Nat → Nat → Prop) (ρi : Rho) (Kf : SVal → Heap → Prop) (c : Int) (v3 : Int) : Cont := blockK 1 (fun e H => SemL Try.prog w0 fp ρi 0 13 [cz44_n8] e H (kkz44_1 w0 fp ρi Kf c v3)) (kkz44_1 w0 fp ρi Kf c v3)
theorem rz44_0 (c : Int) (v3 : Int) (Z : Env → Heap → Prop) (h : Z [(2, some (.int .i64 v3))] ⟨0, []⟩) : EvC Gq1Digit cz44_n5 [(3, some (.int .i64 v3))] ⟨0, []⟩ [2] [] Z := EvC.of (by kernel_rfl) h
theorem rtz44_0 (c : Int) (v3 : Int) : RetC Rq1Digit [(2, some (.int .i64 v3))] ⟨0, []⟩ (.int .i64 v3) := RetC.of (fun Z => by kernel_rfl)
def vz44_0 (c : Int) (v3 : Int) : Prop := v3 = (digF c)
theorem pz44_0 (c : Int) (hK : Kf (.int .i64 (digF c)) ⟨0, []⟩) (v3 : Int) (h : vz44_0 c v3) : SemL Try.prog w0 fp ρi 0 13 [cz44_n5, .ret] [(3, some (.int .i64 v3))] ⟨0, []⟩ (kkz44_2 w0 fp ρi Kf c v3) :=
  L_regE hGq1Digit (rz44_0 c v3 (fun e H => SemL Try.prog w0 fp ρi 0 13 [.ret] e H (kkz44_2 w0 fp ρi Kf c v3)) (L_retE (R := Rq1Digit) (m := 0) (Kf := Kf) (fun _ _ h => h) (rtz44_0 c v3) (ret_plain rfl (by kernel_rfl) (cg1 (fun (z1 : Int) => (.int .i64 z1 : SVal)) h) hK)))
theorem rz44_1 (c : Int) (v3 : Int) (Z : Env → Heap → Prop) (h : Z [(0, some (.int .u8 c)), (3, some (.int .i64 (IntKind.i64.wrap (v3 + 1))))] ⟨0, []⟩) : EvC Gq1Digit cz44_n8 [(0, some (.int .u8 c)), (3, some (.int .i64 v3))] ⟨0, []⟩ [0, 3] [] Z := EvC.of (by kernel_rfl) h
def vz44_1 (c : Int) (v3 : Int) : Prop := (0 ≤ (IntKind.i64.wrap (v3 + 1)) ∧ (IntKind.i64.wrap (v3 + 1)) ≤ 16 ∧ digGo (16 - (IntKind.i64.wrap (v3 + 1))).toNat (IntKind.i64.wrap (v3 + 1)).toNat c = digF c) ∧ (((16 - (IntKind.i64.wrap (v3 + 1))).toNat) < ((16 - v3).toNat))
theorem pz44_1 (c : Int) (hK : Kf (.int .i64 (digF c)) ⟨0, []⟩) (v3 : Int) (h : vz44_1 c v3) : SemL Try.prog w0 fp ρi 0 13 [cz44_n8] [(0, some (.int .u8 c)), (3, some (.int .i64 v3))] ⟨0, []⟩ (kkz44_1 w0 fp ρi Kf c v3) :=
  L_regE hGq1Digit (rz44_1 c v3 (fun e H => SemL Try.prog w0 fp ρi 0 13 [] e H (kkz44_1 w0 fp ρi Kf c v3)) (L_nil (loop_back (x' := (IntKind.i64.wrap (v3 + 1))) (τ := tau []) h.1 h.2 (sub_tau' [] [] rfl rfl (esc pbd (esc pbd envSub_nil)) heapSub_nil (by kernel_rfl) rfl))))
def vz44_2 (c : Int) (v3 : Int) : Prop := ((((((ByteArray.data ⟨#[48, 49, 50, 51, 52, 53, 54, 55, 56, 57, 97, 98, 99, 100, 101, 102]⟩).toList.getD (Int.toNat v3) 0).toNat : Nat) : Int) == c) = true → (vz44_0 c v3)) ∧ ((((((ByteArray.data ⟨#[48, 49, 50, 51, 52, 53, 54, 55, 56, 57, 97, 98, 99, 100, 101, 102]⟩).toList.getD (Int.toNat v3) 0).toNat : Nat) : Int) == c) = false → (vz44_1 c v3))
theorem pz44_2 (c : Int) (hK : Kf (.int .i64 (digF c)) ⟨0, []⟩) (v3 : Int) (h : vz44_2 c v3) : SemL Try.prog w0 fp ρi 0 13 [cz44_n6] [(0, some (.int .u8 c)), (3, some (.int .i64 v3)), (11, some (.bool (((((ByteArray.data ⟨#[48, 49, 50, 51, 52, 53, 54, 55, 56, 57, 97, 98, 99, 100, 101, 102]⟩).toList.getD (Int.toNat v3) 0).toNat : Nat) : Int) == c)))] ⟨0, []⟩ (kkz44_2 w0 fp ρi Kf c v3) :=
  L_cond (q := (((((ByteArray.data ⟨#[48, 49, 50, 51, 52, 53, 54, 55, 56, 57, 97, 98, 99, 100, 101, 102]⟩).toList.getD (Int.toNat v3) 0).toNat : Nat) : Int) == c)) (by kernel_rfl) (fun hq => (L_seq (lpk [3] [] (pz44_0 c hK v3 (h.1 hq))))) (fun hq => (L_skip (L_nil (lpk [0, 3] [] (pz44_1 c hK v3 (h.2 hq))))))
theorem rz44_3 (c : Int) (v3 : Int) (Z : Env → Heap → Prop) (h : ((0 ≤ v3)) ∧ ((v3 < ((ByteArray.size ⟨#[48, 49, 50, 51, 52, 53, 54, 55, 56, 57, 97, 98, 99, 100, 101, 102]⟩ : Nat) : Int))) ∧ Z [(0, some (.int .u8 c)), (3, some (.int .i64 v3)), (11, some (.bool (((((ByteArray.data ⟨#[48, 49, 50, 51, 52, 53, 54, 55, 56, 57, 97, 98, 99, 100, 101, 102]⟩).toList.getD (Int.toNat v3) 0).toNat : Nat) : Int) == c)))] ⟨0, []⟩) : EvC Gq1Digit cz44_n4 [(0, some (.int .u8 c)), (3, some (.int .i64 v3))] ⟨0, []⟩ [0, 3, 11] [] Z := EvC.of (by kernel_rfl) h
def vz44_3 (c : Int) (v3 : Int) : Prop := ((0 ≤ v3)) ∧ (((v3 < ((ByteArray.size ⟨#[48, 49, 50, 51, 52, 53, 54, 55, 56, 57, 97, 98, 99, 100, 101, 102]⟩ : Nat) : Int))) ∧ (vz44_2 c v3))
theorem pz44_3 (c : Int) (hK : Kf (.int .i64 (digF c)) ⟨0, []⟩) (v3 : Int) (h : vz44_3 c v3) : SemL Try.prog w0 fp ρi 0 13 [cz44_n4, cz44_n6] [(0, some (.int .u8 c)), (3, some (.int .i64 v3))] ⟨0, []⟩ (kkz44_2 w0 fp ρi Kf c v3) :=
  L_regE hGq1Digit (rz44_3 c v3 (fun e H => SemL Try.prog w0 fp ρi 0 13 [cz44_n6] e H (kkz44_2 w0 fp ρi Kf c v3)) ⟨h.1, ⟨h.2.1, (pz44_2 c hK v3 h.2.2)⟩⟩)
def vz44_4 (c : Int) (v3 : Int) : Prop := vz44_3 c v3
theorem pz44_4 (c : Int) (hK : Kf (.int .i64 (digF c)) ⟨0, []⟩) (v3 : Int) (h : vz44_4 c v3) : SemL Try.prog w0 fp ρi 0 13 [cz44_n7, cz44_n8] [(0, some (.int .u8 c)), (3, some (.int .i64 v3))] ⟨0, []⟩ (kkz44_1 w0 fp ρi Kf c v3) :=
  L_block (L_seq (pz44_3 c hK v3 h))
theorem rz44_5 (c : Int) (Z : Env → Heap → Prop) (h : Z [(2, some (.int .i64 (-1)))] ⟨0, []⟩) : EvC Gq1Digit cz44_n11 [] ⟨0, []⟩ [2] [] Z := EvC.of (by kernel_rfl) h
theorem rtz44_1 (c : Int) : RetC Rq1Digit [(2, some (.int .i64 (-1)))] ⟨0, []⟩ (.int .i64 (-1)) := RetC.of (fun Z => by kernel_rfl)
def vz44_5 (c : Int) : Prop := (-1) = (digF c)
theorem pz44_5 (c : Int) (hK : Kf (.int .i64 (digF c)) ⟨0, []⟩) (h : vz44_5 c) : SemL Try.prog w0 fp ρi 0 13 [cz44_n11, .ret] [] ⟨0, []⟩ (fnK Rq1Digit 0 Kf) :=
  L_regE hGq1Digit (rz44_5 c (fun e H => SemL Try.prog w0 fp ρi 0 13 [.ret] e H (fnK Rq1Digit 0 Kf)) (L_retE (R := Rq1Digit) (m := 0) (Kf := Kf) (fun _ _ h => h) (rtz44_1 c) (ret_plain rfl (by kernel_rfl) (cg1 (fun (z1 : Int) => (.int .i64 z1 : SVal)) h) hK)))
def vz44_6 (c : Int) (v3 : Int) : Prop := ((decide (v3 < 16)) = true → (vz44_4 c v3)) ∧ ((decide (v3 < 16)) = false → (vz44_5 c))
theorem pz44_6 (c : Int) (hK : Kf (.int .i64 (digF c)) ⟨0, []⟩) (v3 : Int) (h : vz44_6 c v3) : SemL Try.prog w0 fp ρi 0 13 [cz44_n3, (.seq cz44_n7 cz44_n8)] [(0, some (.int .u8 c)), (3, some (.int .i64 v3)), (5, some (.bool (decide (v3 < 16))))] ⟨0, []⟩ (kkz44_1 w0 fp ρi Kf c v3) :=
  L_cond (q := (decide (v3 < 16))) (by kernel_rfl) (fun hq => (L_skip (lpk [0, 3] [] (L_seq (pz44_4 c hK v3 (h.1 hq)))))) (fun hq => (L_exit (lpk [] [] (L_seq (pz44_5 c hK (h.2 hq))))))
theorem rz44_7 (c : Int) (v3 : Int) (Z : Env → Heap → Prop) (h : Z [(0, some (.int .u8 c)), (3, some (.int .i64 v3)), (5, some (.bool (decide (v3 < 16))))] ⟨0, []⟩) : EvC Gq1Digit cz44_n2 [(0, some (.int .u8 c)), (3, some (.int .i64 v3))] ⟨0, []⟩ [0, 3, 5] [] Z := EvC.of (by kernel_rfl) h
def vz44_7 (c : Int) (v3 : Int) : Prop := vz44_6 c v3
theorem pz44_7 (c : Int) (hK : Kf (.int .i64 (digF c)) ⟨0, []⟩) (v3 : Int) (h : vz44_7 c v3) : SemL Try.prog w0 fp ρi 0 13 [cz44_n2, cz44_n3, (.seq cz44_n7 cz44_n8)] [(0, some (.int .u8 c)), (3, some (.int .i64 v3))] ⟨0, []⟩ (kkz44_1 w0 fp ρi Kf c v3) :=
  L_regE hGq1Digit (rz44_7 c v3 (fun e H => SemL Try.prog w0 fp ρi 0 13 [cz44_n3, (.seq cz44_n7 cz44_n8)] e H (kkz44_1 w0 fp ρi Kf c v3)) (pz44_6 c hK v3 h))
def vz44_8 (c : Int) : Prop := (0 ≤ (0 : Int) ∧ (0 : Int) ≤ 16 ∧ digGo (16 - (0 : Int)).toNat (0 : Int).toNat c = digF c) ∧ (∀ (v3 : Int), (0 ≤ v3 ∧ v3 ≤ 16 ∧ digGo (16 - v3).toNat v3.toNat c = digF c) → (vz44_7 c v3))
theorem pz44_8 (c : Int) (hK : Kf (.int .i64 (digF c)) ⟨0, []⟩) (h : vz44_8 c) : SemL Try.prog w0 fp ρi 0 13 [cz44_n9] [(0, some (.int .u8 c)), (3, some (.int .i64 0))] ⟨0, []⟩ (kkz44_0 w0 fp ρi Kf c) :=
  L_loop (ivz44_1 c) (muz44_1 c) (liz44_1 c) (ljz44_1 c) ⟨0, tau [], h.1, (sub_tau' [] [] rfl rfl (esc pbd (esc pbd envSub_nil)) heapSub_nil (by kernel_rfl) rfl)⟩ (fun s => match s with | v3 => fun hi => (L_seq (L_seq (pz44_7 c hK v3 (h.2 v3 hi)))))
def vz44_9 (c : Int) : Prop := vz44_8 c
theorem pz44_9 (c : Int) (hK : Kf (.int .i64 (digF c)) ⟨0, []⟩) (h : vz44_9 c) : SemL Try.prog w0 fp ρi 0 13 [cz44_n10, (.seq cz44_n11 .ret)] [(0, some (.int .u8 c)), (3, some (.int .i64 0))] ⟨0, []⟩ (fnK Rq1Digit 0 Kf) :=
  L_block (pz44_8 c hK h)
theorem rz44_10 (c : Int) (Z : Env → Heap → Prop) (h : Z [(0, some (.int .u8 c)), (3, some (.int .i64 0))] ⟨0, []⟩) : EvC Gq1Digit cz44_n1 [(0, some (.int .u8 c))] ⟨0, []⟩ [0, 3] [] Z := EvC.of (by kernel_rfl) h
def vz44_10 (c : Int) : Prop := vz44_9 c
theorem pz44_10 (c : Int) (hK : Kf (.int .i64 (digF c)) ⟨0, []⟩) (h : vz44_10 c) : SemL Try.prog w0 fp ρi 0 13 [cz44_n1, cz44_n10, (.seq cz44_n11 .ret)] [(0, some (.int .u8 c))] ⟨0, []⟩ (fnK Rq1Digit 0 Kf) :=
  L_regE hGq1Digit (rz44_10 c (fun e H => SemL Try.prog w0 fp ρi 0 13 [cz44_n10, (.seq cz44_n11 .ret)] e H (fnK Rq1Digit 0 Kf)) (pz44_9 c hK h))
theorem rz44_11 (c : Int) (Z : Env → Heap → Prop) (h : Z [(0, some (.int .u8 c))] ⟨0, []⟩) : EvC Gq1Digit cz44_n0 [(0, some (.int .u8 c))] ⟨0, []⟩ [0] [] Z := EvC.of (by kernel_rfl) h
def vz44_11 (c : Int) : Prop := vz44_10 c
theorem pz44_11 (c : Int) (hK : Kf (.int .i64 (digF c)) ⟨0, []⟩) (h : vz44_11 c) : SemL Try.prog w0 fp ρi 0 13 [cz44_n0, (.seq (.seq cz44_n1 cz44_n10) (.seq cz44_n11 .ret))] [(0, some (.int .u8 c))] ⟨0, []⟩ (fnK Rq1Digit 0 Kf) :=
  L_regE hGq1Digit (rz44_11 c (fun e H => SemL Try.prog w0 fp ρi 0 13 [(.seq (.seq cz44_n1 cz44_n10) (.seq cz44_n11 .ret))] e H (fnK Rq1Digit 0 Kf)) (L_seq (L_seq (pz44_10 c hK h))))
def vcq1Digit (c : Int) : Prop := vz44_11 c
theorem wq1Digit (c : Int) (hK : Kf (.int .i64 (digF c)) ⟨0, []⟩) (h : vcq1Digit c) : SemL Try.prog w0 fp ρi 0 13 [cq1Digit] [(0, some (.int .u8 c))] ⟨0, []⟩ (fnK Rq1Digit 0 Kf) :=
  (L_seq (pz44_11 c hK h))
end
theorem okq1Digit (c : Int) (hpre : (0 ≤ c ∧ c < 256)) : vcq1Digit c := by
  unfold vcq1Digit vz44_11 vz44_10 vz44_9 vz44_8 vz44_7 vz44_6 vz44_5 vz44_4 vz44_3 vz44_2 vz44_1 vz44_0
  refine ⟨⟨by omega, by omega, rfl⟩, ?_⟩
  rintro v3 ⟨i0, i1, i2⟩
  refine ⟨fun hlt => ?_, fun hge => ?_⟩
  · have hlt := of_decide_eq_true hlt
    have w1 : IntKind.i64.wrap (v3 + 1) = v3 + 1 := by rw [wi64]; omega
    rw [show (16 - v3).toNat = (16 - (v3 + 1)).toNat + 1 by omega, digGo] at i2
    rw [w1]
    refine ⟨i0, hlt, fun h => ?_, fun h => ?_⟩
    · have h : (hexC v3.toNat == c) = true := h
      rw [if_pos h] at i2
      omega
    · have h : (hexC v3.toNat == c) = false := h
      rw [if_neg (by rw [h]; decide)] at i2
      exact ⟨⟨by omega, by omega, by rw [show (v3 + 1).toNat = v3.toNat + 1 by omega]; exact i2⟩, by omega⟩
  · have hge := of_decide_eq_false hge
    rw [show (16 - v3).toNat = 0 by omega] at i2
    exact i2
theorem sq1Digit : Sound Try.prog 44 (pureS Pq1Digit) := by
  refine fn_soundA cq1Digit_fits ?_
  intro args H K h
  obtain ⟨pre, v, hP, hpre, rfl, hK⟩ := pureS_inv h
  unfold Pq1Digit at hP
  split at hP
  · cases hP
    exact ⟨rfl, fun w0 fp ρi => wq1Digit _ hK (okq1Digit _ hpre)⟩
  · cases hP
def DaRounds : GSpec := fun args H => match args, H with
  | [.ptr ⟨0, 0, 0, 1⟩ 432], ⟨1, [(0, some ⟨false, [.ints .u8 t_n t, .ints .u8 k_n k], 0⟩)]⟩ => bif Nat.beq t_n 256 && Nat.beq k_n 176 then some (True, fun K => K (.agg [.ints .u8 176 k]) ⟨1, [(0, some ⟨false, [.ints .u8 256 t, .ints .u8 176 k], 0⟩)]⟩) else none
  | _, _ => none
def conaRounds : Con := ⟨29, gS DaRounds, [], [], []⟩
def cz29_n0 : ACode := .reg (.op (some 2) (.alloc [.ints .u8 176 (List.replicate 176 0)]) .nil)
def cz29_n1 : ACode := .reg (.op (some 3) (.mov (.tm 0)) (.op (some 4) (.nilCheck (.tm 3)) (.op (some 5) (.fieldAddr (.tm 4) 256 176) (.op (some 6) (.loadA 176 (.tm 5)) (.op none (.storeA 176 (.tm 2) (.tm 6)) .nil)))))
def caRounds : ACode := (.seq cz29_n0 (.seq cz29_n1 .ret))
def RaRounds : Res := .one (.cA 2 176)
theorem caRounds_fits : fnFits Try.prog 29 1 7 caRounds RaRounds = true := by kernel_rfl
def GaRounds : Calls' := withP [] []
theorem hGaRounds : CallOk Try.prog GaRounds := withP_ok trivial trivial
section
variable {w0 : World} {fp : Nat → Nat → Prop} {ρi : Rho} {Kf : SVal → Heap → Prop}
theorem rz29_0 (t : List Int) (k : List Int) (Z : Env → Heap → Prop) (h : Z [(2, some (.ptr ⟨1, 0, 0, 1⟩ 176))] ⟨2, [(0, some ⟨false, [.ints .u8 256 t, .ints .u8 176 k], 0⟩), (1, some ⟨true, [.ints .u8 176 k], 0⟩)]⟩) : EvC GaRounds cz29_n1 [(0, some (.ptr ⟨0, 0, 0, 1⟩ 432)), (2, some (.ptr ⟨1, 0, 0, 1⟩ 176))] ⟨2, [(0, some ⟨false, [.ints .u8 256 t, .ints .u8 176 k], 0⟩), (1, some ⟨true, [.ints .u8 176 (List.replicate 176 0)], 0⟩)]⟩ [2] [0, 1] Z := EvC.of (by kernel_rfl) h
theorem rtz29_0 (t : List Int) (k : List Int) : RetC RaRounds [(2, some (.ptr ⟨1, 0, 0, 1⟩ 176))] ⟨2, [(0, some ⟨false, [.ints .u8 256 t, .ints .u8 176 k], 0⟩), (1, some ⟨true, [.ints .u8 176 k], 0⟩)]⟩ (.agg [.ints .u8 176 k]) := RetC.of (fun Z => by kernel_rfl)
def vz29_0 (t : List Int) (k : List Int) : Prop := True
theorem pz29_0 (t : List Int) (k : List Int) (hK : Kf (.agg [.ints .u8 176 k]) ⟨1, [(0, some ⟨false, [.ints .u8 256 t, .ints .u8 176 k], 0⟩)]⟩) (h : vz29_0 t k) : SemL Try.prog w0 fp ρi 1 7 [cz29_n1, .ret] [(0, some (.ptr ⟨0, 0, 0, 1⟩ 432)), (2, some (.ptr ⟨1, 0, 0, 1⟩ 176))] ⟨2, [(0, some ⟨false, [.ints .u8 256 t, .ints .u8 176 k], 0⟩), (1, some ⟨true, [.ints .u8 176 (List.replicate 176 0)], 0⟩)]⟩ (fnK RaRounds 1 Kf) :=
  L_regE hGaRounds (rz29_0 t k (fun e H => SemL Try.prog w0 fp ρi 1 7 [.ret] e H (fnK RaRounds 1 Kf)) (L_retE (R := RaRounds) (m := 1) (Kf := Kf) (fun _ _ h => h) (rtz29_0 t k) (ret_of0 (ret0_tau [] [0] rfl (by kernel_rfl) rfl pbd (hsc pcs heapSub_nil) rfl (by kernel_rfl) (hK)))))
theorem rz29_1 (t : List Int) (k : List Int) (Z : Env → Heap → Prop) (h : Z [(0, some (.ptr ⟨0, 0, 0, 1⟩ 432)), (2, some (.ptr ⟨1, 0, 0, 1⟩ 176))] ⟨2, [(0, some ⟨false, [.ints .u8 256 t, .ints .u8 176 k], 0⟩), (1, some ⟨true, [.ints .u8 176 (List.replicate 176 0)], 0⟩)]⟩) : EvC GaRounds cz29_n0 [(0, some (.ptr ⟨0, 0, 0, 1⟩ 432))] ⟨1, [(0, some ⟨false, [.ints .u8 256 t, .ints .u8 176 k], 0⟩)]⟩ [0, 2] [0, 1] Z := EvC.of (by kernel_rfl) h
def vz29_1 (t : List Int) (k : List Int) : Prop := vz29_0 t k
theorem pz29_1 (t : List Int) (k : List Int) (hK : Kf (.agg [.ints .u8 176 k]) ⟨1, [(0, some ⟨false, [.ints .u8 256 t, .ints .u8 176 k], 0⟩)]⟩) (h : vz29_1 t k) : SemL Try.prog w0 fp ρi 1 7 [cz29_n0, (.seq cz29_n1 .ret)] [(0, some (.ptr ⟨0, 0, 0, 1⟩ 432))] ⟨1, [(0, some ⟨false, [.ints .u8 256 t, .ints .u8 176 k], 0⟩)]⟩ (fnK RaRounds 1 Kf) :=
  L_regE hGaRounds (rz29_1 t k (fun e H => SemL Try.prog w0 fp ρi 1 7 [(.seq cz29_n1 .ret)] e H (fnK RaRounds 1 Kf)) (L_seq (pz29_0 t k hK h)))
def vcaRounds (t : List Int) (k : List Int) : Prop := vz29_1 t k
theorem waRounds (t : List Int) (k : List Int) (hK : Kf (.agg [.ints .u8 176 k]) ⟨1, [(0, some ⟨false, [.ints .u8 256 t, .ints .u8 176 k], 0⟩)]⟩) (h : vcaRounds t k) : SemL Try.prog w0 fp ρi 1 7 [caRounds] [(0, some (.ptr ⟨0, 0, 0, 1⟩ 432))] ⟨1, [(0, some ⟨false, [.ints .u8 256 t, .ints .u8 176 k], 0⟩)]⟩ (fnK RaRounds 1 Kf) :=
  (L_seq (pz29_1 t k hK h))
end
theorem okaRounds (t : List Int) (k : List Int) (hpre : True) : vcaRounds t k := by
  unfold vcaRounds vz29_1 vz29_0
  trivial
theorem saRounds : Sound Try.prog 29 (gS DaRounds) := by
  refine fn_soundA caRounds_fits ?_
  intro args H K h
  obtain ⟨pre, out, hD, hpre, hK⟩ := gS_inv h
  unfold DaRounds at hD
  split at hD
  · obtain ⟨hb, hD⟩ := bif_some hD
    simp only [Bool.and_eq_true] at hb
    obtain ⟨h0, h1⟩ := hb
    obtain rfl := Nat.eq_of_beq_eq_true h0
    obtain rfl := Nat.eq_of_beq_eq_true h1
    cases hD
    exact ⟨rfl, fun w0 fp ρi => waRounds _ _ hK (okaRounds _ _ hpre)⟩
  · cases hD
end Go.Proofs.Ytefmjmghkedciaa
