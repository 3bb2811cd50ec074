/- Part of the proof: SxAesE. -/
import Derived.Test.YtefmjmghkedciaaSxAesX
import Derived.Test.YtefmjmghkedciaaSxAesM
import Derived.KernelRfl
set_option linter.unusedVariables false
set_option linter.unusedSimpArgs false
set_option maxRecDepth 20000
namespace Go.Proofs.Ytefmjmghkedciaa
open Go.Sx
def DaEnc : GSpec := fun args H => match args, H with
  | [.ptr ⟨0, 0, 0, 1⟩ 432, .agg [.ints .u8 b_n b]], ⟨1, [(0, some ⟨false, [.ints .u8 t_n t, .ints .u8 k_n k], 0⟩)]⟩ => bif Nat.beq t_n 256 && Nat.beq k_n 176 && Nat.beq b_n 16 then some ((t = sboxT /\ KeysOk k /\ BlkOk b), fun K => K (.agg [.ints .u8 16 (encL k b)]) ⟨1, [(0, some ⟨false, [.ints .u8 256 t, .ints .u8 176 k], 0⟩)]⟩) else none
  | _, _ => none
def conaEnc : Con := ⟨27, gS DaEnc, [], [], []⟩
def cz27_n0 : ACode := .reg (.op (some 3) (.box (.tm 1)) (.op (some 4) (.alloc [.ints .u8 16 (List.replicate 16 0)]) .nil))
def cz27_n1 : ACode := .reg (.op (some 7) (.loadA 16 (.tm 3)) (.op (some 5) (.alloc [.ints .u8 16 (List.replicate 16 0)]) (.op none (.storeA 16 (.tm 5) (.tm 7)) .nil)))
def cz27_n2 : ACode := .reg (.op (some 8) (.mov (.tm 0)) (.op (some 9) (.nilCheck (.tm 8)) (.op (some 10) (.fieldAddr (.tm 9) 256 176) (.op (some 11) (.idxA (.tm 10) (.cn (.int .i64 0)) 11 16) (.op (some 12) (.loadA 16 (.tm 11)) (.op (some 13) (.call 50 [(.tm 5), (.tm 12)]) .nil))))))
def cz27_n3 : ACode := .reg (.op (some 6) (.mov (.cn (.int .i64 1))) .nil)
def cz27_n4 : ACode := .reg (.op (some 14) (.mov (.tm 6)) (.op (some 15) (.bin .leq (.tm 14) (.cn (.int .i64 10))) .nil))
def cz27_n5 : ACode := .cond (.tm 15) .skip (.exit 0)
def cz27_n6 : ACode := .reg (.op (some 18) (.mov (.tm 0)) (.op (some 19) (.nilCheck (.tm 18)) (.op (some 20) (.fieldAddr (.tm 19) 0 256) (.op (some 21) (.call 51 [(.tm 5), (.tm 20)]) .nil))))
def cz27_n7 : ACode := .reg (.op (some 22) (.mov (.tm 6)) (.op (some 23) (.bin .lss (.tm 22) (.cn (.int .i64 10))) .nil))
def cz27_n8 : ACode := .reg (.op (some 24) (.call 52 [(.tm 5)]) .nil)
def cz27_n9 : ACode := .cond (.tm 23) cz27_n8 .skip
def cz27_n10 : ACode := .reg (.op (some 25) (.mov (.tm 0)) (.op (some 26) (.mov (.tm 6)) (.op (some 27) (.nilCheck (.tm 25)) (.op (some 28) (.fieldAddr (.tm 27) 256 176) (.op (some 29) (.idxA (.tm 28) (.tm 26) 11 16) (.op (some 30) (.loadA 16 (.tm 29)) (.op (some 31) (.call 50 [(.tm 5), (.tm 30)]) .nil)))))))
def cz27_n11 : ACode := .block 1 (.seq cz27_n6 (.seq (.seq cz27_n7 cz27_n9) cz27_n10))
def cz27_n12 : ACode := .reg (.op (some 16) (.mov (.tm 6)) (.op (some 17) (.bin .add (.tm 16) (.cn (.int .i64 1))) (.op (some 6) (.mov (.tm 17)) .nil)))
def cz27_n13 : ACode := .loop (.seq (.seq cz27_n4 cz27_n5) (.seq cz27_n11 cz27_n12))
def cz27_n14 : ACode := .block 0 cz27_n13
def cz27_n15 : ACode := .reg (.op (some 32) (.loadA 16 (.tm 5)) (.op none (.storeA 16 (.tm 4) (.tm 32)) .nil))
def caEnc : ACode := (.seq cz27_n0 (.seq cz27_n1 (.seq cz27_n2 (.seq (.seq cz27_n3 cz27_n14) (.seq cz27_n15 .ret)))))
def RaEnc : Res := .one (.cA 4 16)
theorem caEnc_fits : fnFits Try.prog 27 2 33 caEnc RaEnc = true := by kernel_rfl
def GaEnc : Calls' := withP [] [conaAdd, conaShift, conaMix]
theorem hGaEnc : CallOk Try.prog GaEnc := withP_ok trivial ⟨saAdd, saShift, saMix, trivial⟩
section
variable {w0 : World} {fp : Nat -> Nat -> Prop} {ρi : Rho} {Kf : SVal -> Heap -> Prop}
def kkz27_0 (w0 : World) (fp : Nat -> Nat -> Prop) (ρi : Rho) (Kf : SVal -> Heap -> Prop) (t k b : List Int) : Cont := blockK 0 (fun e H => SemL Try.prog w0 fp ρi 1 33 [(.seq cz27_n15 .ret)] e H (fnK RaEnc 1 Kf)) (fnK RaEnc 1 Kf)
def ivz27_1 (t k b : List Int) : Int × List Int -> Prop := fun s => match s with | (v6, h3'1) => 1 <= v6 /\ v6 <= 11 /\ h3'1 = stR k b (v6 - 1).toNat
def muz27_1 (t k b : List Int) : Int × List Int -> Nat := fun s => match s with | (v6, h3'1) => ((11 - v6).toNat)
def liz27_1 (t k b : List Int) : Int × List Int -> Env := fun s => match s with | (v6, h3'1) => [(0, some (.ptr ⟨0, 0, 0, 1⟩ 432)), (4, some (.ptr ⟨2, 0, 0, 1⟩ 16)), (5, some (.ptr ⟨3, 0, 0, 1⟩ 16)), (6, some (.int .i64 v6))]
def ljz27_1 (t k b : List Int) : Int × List Int -> Heap := fun s => match s with | (v6, h3'1) => ⟨4, [(0, some ⟨false, [.ints .u8 256 t, .ints .u8 176 k], 0⟩), (2, some ⟨true, [.ints .u8 16 (List.replicate 16 0)], 0⟩), (3, some ⟨true, [.ints .u8 16 h3'1], 0⟩)]⟩
def kkz27_1 (w0 : World) (fp : Nat -> Nat -> Prop) (ρi : Rho) (Kf : SVal -> Heap -> Prop) (t k b : List Int) (v6 : Int) (h3'1 : List Int) : Cont := loopK 1 (ivz27_1 t k b) (muz27_1 t k b) (liz27_1 t k b) (ljz27_1 t k b) (v6, h3'1) (kkz27_0 w0 fp ρi Kf t k b)
abbrev Ye0 (x0 x1 x2 : List Int) : Heap := ⟨4, [(0, some ⟨false, [.ints .u8 256 x0, .ints .u8 176 x1], 0⟩), (2, some ⟨true, [.ints .u8 16 (List.replicate 16 0)], 0⟩), (3, some ⟨true, [.ints .u8 16 x2], 0⟩)]⟩
abbrev Ye1 (x0 : Int) : Env := [(0, some (.ptr ⟨0, 0, 0, 1⟩ 432)), (4, some (.ptr ⟨2, 0, 0, 1⟩ 16)), (5, some (.ptr ⟨3, 0, 0, 1⟩ 16)), (6, some (.int .i64 x0))]
theorem rz27_0 (t k b : List Int) (v6 : Int) (h3'4 h3'1 : List Int) (Z : Env -> Heap -> Prop) (h : Z [(0, some (.ptr ⟨0, 0, 0, 1⟩ 432)), (4, some (.ptr ⟨2, 0, 0, 1⟩ 16)), (5, some (.ptr ⟨3, 0, 0, 1⟩ 16)), (6, some (.int .i64 (IntKind.i64.wrap (v6 + 1))))] (Ye0 t k h3'4)) : EvC GaEnc cz27_n12 (Ye1 v6) (Ye0 t k h3'4) [0, 4, 5, 6] [0, 2, 3] Z := EvC.of (by kernel_rfl) h
def vz27_0 (t k b : List Int) (v6 : Int) (h3'4 h3'1 : List Int) : Prop := (1 <= (IntKind.i64.wrap (v6 + 1)) /\ (IntKind.i64.wrap (v6 + 1)) <= 11 /\ h3'4 = stR k b ((IntKind.i64.wrap (v6 + 1)) - 1).toNat) /\ (((11 - (IntKind.i64.wrap (v6 + 1))).toNat) < ((11 - v6).toNat))
abbrev Ye2 (x0 x1 : List Int) : Heap := ⟨1, [(0, some ⟨false, [.ints .u8 256 x0, .ints .u8 176 x1], 0⟩)]⟩
abbrev Ye3 (x0 : SVal -> Heap -> Prop) (x1 x2 x3 : List Int) : Prop := x0 (.agg [.ints .u8 16 (encL x1 x2)]) ⟨1, [(0, some ⟨false, [.ints .u8 256 x3, .ints .u8 176 x1], 0⟩)]⟩
theorem pz27_0 (t k b : List Int) (hK : (Ye3 Kf k b t)) (v6 : Int) (h3'4 h3'1 : List Int) (h : vz27_0 t k b v6 h3'4 h3'1) : SemL Try.prog w0 fp ρi 1 33 [cz27_n12] (Ye1 v6) (Ye0 t k h3'4) (kkz27_1 w0 fp ρi Kf t k b v6 h3'1) :=
  L_regE hGaEnc (rz27_0 t k b v6 h3'4 h3'1 _ (L_nil (loop_back (x' := ((IntKind.i64.wrap (v6 + 1)), h3'4)) (τ := tau []) h.1 h.2 (sub_tau' [] [0, 2, 3] rfl rfl (esc bpt (esc bpt (esc bpt (esc pbd envSub_nil)))) (hsc pcs (hsc pcs (hsc pcs heapSub_nil))) (by kernel_rfl) rfl))))
def kkz27_2 (w0 : World) (fp : Nat -> Nat -> Prop) (ρi : Rho) (Kf : SVal -> Heap -> Prop) (t k b : List Int) (v6 : Int) (h3'1 : List Int) : Cont := blockK 1 (fun e H => SemL Try.prog w0 fp ρi 1 33 [cz27_n12] e H (kkz27_1 w0 fp ρi Kf t k b v6 h3'1)) (kkz27_1 w0 fp ρi Kf t k b v6 h3'1)
theorem rz27_1 (t k b : List Int) (v6 : Int) (h3'3 h3'1 : List Int) (Z : Env -> Heap -> Prop) (h : ((0 <= v6)) /\ ((v6 < 11)) /\ ((((0 + ((Int.toNat v6) * 16)) + 16) <= 176)) /\ ((BlkOk h3'3 /\ BlkOk (List.take 16 (List.drop (0 + ((Int.toNat v6) * 16)) k)))) /\ Z (Ye1 v6) ⟨4, [(0, some ⟨false, [.ints .u8 256 t, .ints .u8 176 k], 0⟩), (2, some ⟨true, [.ints .u8 16 (List.replicate 16 0)], 0⟩), (3, some ⟨true, [.ints .u8 16 (xorL h3'3 (List.take 16 (List.drop (0 + ((Int.toNat v6) * 16)) k)))], 0⟩)]⟩) : EvC GaEnc cz27_n10 (Ye1 v6) (Ye0 t k h3'3) [0, 4, 5, 6] [0, 2, 3] Z := EvC.of (by kernel_rfl) h
def vz27_1 (t k b : List Int) (v6 : Int) (h3'3 h3'1 : List Int) : Prop := ((0 <= v6)) /\ (((v6 < 11)) /\ (((((0 + ((Int.toNat v6) * 16)) + 16) <= 176)) /\ (((BlkOk h3'3 /\ BlkOk (List.take 16 (List.drop (0 + ((Int.toNat v6) * 16)) k)))) /\ (∀ h3'4 : List Int, h3'4 = (xorL h3'3 (List.take 16 (List.drop (0 + ((Int.toNat v6) * 16)) k))) -> vz27_0 t k b v6 h3'4 h3'1))))
theorem pz27_1 (t k b : List Int) (hK : (Ye3 Kf k b t)) (v6 : Int) (h3'3 h3'1 : List Int) (h : vz27_1 t k b v6 h3'3 h3'1) : SemL Try.prog w0 fp ρi 1 33 [cz27_n10] (Ye1 v6) (Ye0 t k h3'3) (kkz27_2 w0 fp ρi Kf t k b v6 h3'1) :=
  L_regE hGaEnc (rz27_1 t k b v6 h3'3 h3'1 _ ⟨h.1, ⟨h.2.1, ⟨h.2.2.1, ⟨h.2.2.2.1, (L_nil (pz27_0 t k b hK v6 (xorL h3'3 (List.take 16 (List.drop (0 + ((Int.toNat v6) * 16)) k))) h3'1 (h.2.2.2.2 (xorL h3'3 (List.take 16 (List.drop (0 + ((Int.toNat v6) * 16)) k))) rfl)))⟩⟩⟩⟩)
theorem rz27_2 (t k b : List Int) (v6 : Int) (h3'2 h3'1 : List Int) (Z : Env -> Heap -> Prop) (h : ((BlkOk h3'2)) /\ Z (Ye1 v6) ⟨4, [(0, some ⟨false, [.ints .u8 256 t, .ints .u8 176 k], 0⟩), (2, some ⟨true, [.ints .u8 16 (List.replicate 16 0)], 0⟩), (3, some ⟨true, [.ints .u8 16 (mixL h3'2)], 0⟩)]⟩) : EvC GaEnc cz27_n8 (Ye1 v6) (Ye0 t k h3'2) [0, 4, 5, 6] [0, 2, 3] Z := EvC.of (by kernel_rfl) h
def vz27_2 (t k b : List Int) (v6 : Int) (h3'2 h3'1 : List Int) : Prop := ((BlkOk h3'2)) /\ (∀ h3'3 : List Int, h3'3 = (mixL h3'2) -> vz27_1 t k b v6 h3'3 h3'1)
theorem pz27_2 (t k b : List Int) (hK : (Ye3 Kf k b t)) (v6 : Int) (h3'2 h3'1 : List Int) (h : vz27_2 t k b v6 h3'2 h3'1) : SemL Try.prog w0 fp ρi 1 33 [cz27_n8, cz27_n10] (Ye1 v6) (Ye0 t k h3'2) (kkz27_2 w0 fp ρi Kf t k b v6 h3'1) :=
  L_regE hGaEnc (rz27_2 t k b v6 h3'2 h3'1 _ ⟨h.1, (pz27_1 t k b hK v6 (mixL h3'2) h3'1 (h.2 (mixL h3'2) rfl))⟩)
def vz27_3 (t k b : List Int) (v6 : Int) (h3'2 h3'1 : List Int) : Prop := ((decide (v6 < 10)) = true -> (vz27_2 t k b v6 h3'2 h3'1)) /\ ((decide (v6 < 10)) = false -> (vz27_1 t k b v6 h3'2 h3'1))
abbrev Ye4 (x0 : Int) : Env := [(0, some (.ptr ⟨0, 0, 0, 1⟩ 432)), (4, some (.ptr ⟨2, 0, 0, 1⟩ 16)), (5, some (.ptr ⟨3, 0, 0, 1⟩ 16)), (6, some (.int .i64 x0)), (23, some (.bool (decide (x0 < 10))))]
theorem pz27_3 (t k b : List Int) (hK : (Ye3 Kf k b t)) (v6 : Int) (h3'2 h3'1 : List Int) (h : vz27_3 t k b v6 h3'2 h3'1) : SemL Try.prog w0 fp ρi 1 33 [cz27_n9, cz27_n10] (Ye4 v6) (Ye0 t k h3'2) (kkz27_2 w0 fp ρi Kf t k b v6 h3'1) :=
  L_cond (q := (decide (v6 < 10))) (by kernel_rfl) (fun hq => (lpk [0, 4, 5, 6] [0, 2, 3] (pz27_2 t k b hK v6 h3'2 h3'1 (h.1 hq)))) (fun hq => (L_skip (lpk [0, 4, 5, 6] [0, 2, 3] (pz27_1 t k b hK v6 h3'2 h3'1 (h.2 hq)))))
theorem rz27_4 (t k b : List Int) (v6 : Int) (h3'2 h3'1 : List Int) (Z : Env -> Heap -> Prop) (h : Z (Ye4 v6) (Ye0 t k h3'2)) : EvC GaEnc cz27_n7 (Ye1 v6) (Ye0 t k h3'2) [0, 4, 5, 6, 23] [0, 2, 3] Z := EvC.of (by kernel_rfl) h
def vz27_4 (t k b : List Int) (v6 : Int) (h3'2 h3'1 : List Int) : Prop := vz27_3 t k b v6 h3'2 h3'1
theorem pz27_4 (t k b : List Int) (hK : (Ye3 Kf k b t)) (v6 : Int) (h3'2 h3'1 : List Int) (h : vz27_4 t k b v6 h3'2 h3'1) : SemL Try.prog w0 fp ρi 1 33 [cz27_n7, cz27_n9, cz27_n10] (Ye1 v6) (Ye0 t k h3'2) (kkz27_2 w0 fp ρi Kf t k b v6 h3'1) :=
  L_regE hGaEnc (rz27_4 t k b v6 h3'2 h3'1 _ (pz27_3 t k b hK v6 h3'2 h3'1 h))
theorem rz27_5 (t k b : List Int) (v6 : Int) (h3'1 : List Int) (Z : Env -> Heap -> Prop) (h : ((BlkOk h3'1 /\ t = sboxT)) /\ Z (Ye1 v6) ⟨4, [(0, some ⟨false, [.ints .u8 256 t, .ints .u8 176 k], 0⟩), (2, some ⟨true, [.ints .u8 16 (List.replicate 16 0)], 0⟩), (3, some ⟨true, [.ints .u8 16 (shiftL h3'1)], 0⟩)]⟩) : EvC GaEnc cz27_n6 (Ye1 v6) (Ye0 t k h3'1) [0, 4, 5, 6] [0, 2, 3] Z := EvC.of (by kernel_rfl) h
def vz27_5 (t k b : List Int) (v6 : Int) (h3'1 : List Int) : Prop := ((BlkOk h3'1 /\ t = sboxT)) /\ (∀ h3'2 : List Int, h3'2 = (shiftL h3'1) -> vz27_4 t k b v6 h3'2 h3'1)
theorem pz27_5 (t k b : List Int) (hK : (Ye3 Kf k b t)) (v6 : Int) (h3'1 : List Int) (h : vz27_5 t k b v6 h3'1) : SemL Try.prog w0 fp ρi 1 33 [cz27_n6, (.seq (.seq cz27_n7 cz27_n9) cz27_n10)] (Ye1 v6) (Ye0 t k h3'1) (kkz27_2 w0 fp ρi Kf t k b v6 h3'1) :=
  L_regE hGaEnc (rz27_5 t k b v6 h3'1 _ ⟨h.1, (L_seq (L_seq (pz27_4 t k b hK v6 (shiftL h3'1) h3'1 (h.2 (shiftL h3'1) rfl))))⟩)
def vz27_6 (t k b : List Int) (v6 : Int) (h3'1 : List Int) : Prop := vz27_5 t k b v6 h3'1
theorem pz27_6 (t k b : List Int) (hK : (Ye3 Kf k b t)) (v6 : Int) (h3'1 : List Int) (h : vz27_6 t k b v6 h3'1) : SemL Try.prog w0 fp ρi 1 33 [cz27_n11, cz27_n12] (Ye1 v6) (Ye0 t k h3'1) (kkz27_1 w0 fp ρi Kf t k b v6 h3'1) :=
  L_block (L_seq (pz27_5 t k b hK v6 h3'1 h))
abbrev Ye5 (x0 x1 x2 : List Int) : Heap := ⟨4, [(0, some ⟨false, [.ints .u8 256 x0, .ints .u8 176 x1], 0⟩), (2, some ⟨true, [.ints .u8 16 x2], 0⟩)]⟩
abbrev Ye6 : Env := [(4, some (.ptr ⟨2, 0, 0, 1⟩ 16)), (5, some (.ptr ⟨3, 0, 0, 1⟩ 16))]
theorem rz27_7 (t k b h3'1 : List Int) (Z : Env -> Heap -> Prop) (h : Z [(4, some (.ptr ⟨2, 0, 0, 1⟩ 16))] (Ye5 t k h3'1)) : EvC GaEnc cz27_n15 Ye6 (Ye0 t k h3'1) [4] [0, 2] Z := EvC.of (by kernel_rfl) h
theorem rtz27_0 (t k b h3'1 : List Int) : RetC RaEnc [(4, some (.ptr ⟨2, 0, 0, 1⟩ 16))] (Ye5 t k h3'1) (.agg [.ints .u8 16 h3'1]) := RetC.of (fun Z => by kernel_rfl)
def vz27_7 (t k b h3'1 : List Int) : Prop := h3'1 = (encL k b)
theorem pz27_7 (t k b : List Int) (hK : (Ye3 Kf k b t)) (h3'1 : List Int) (h : vz27_7 t k b h3'1) : SemL Try.prog w0 fp ρi 1 33 [cz27_n15, .ret] Ye6 (Ye0 t k h3'1) (fnK RaEnc 1 Kf) :=
  L_regE hGaEnc (rz27_7 t k b h3'1 _ (L_retE (R := RaEnc) (m := 1) (Kf := Kf) (fun _ _ h => h) (rtz27_0 t k b h3'1) (ret_of0 (Eq.mpr (cg1 (fun (z1 : List Int) => Ret0 1 Kf (.agg [.ints .u8 16 z1]) (Ye5 t k h3'1)) h) (ret0_tau [] [0] rfl (by kernel_rfl) rfl pbd (hsc pcs heapSub_nil) rfl (by kernel_rfl) (hK))))))
def vz27_8 (t k b : List Int) (v6 : Int) (h3'1 : List Int) : Prop := ((decide (v6 <= 10)) = true -> (vz27_6 t k b v6 h3'1)) /\ ((decide (v6 <= 10)) = false -> (vz27_7 t k b h3'1))
abbrev Ye7 (x0 : Int) : Env := [(0, some (.ptr ⟨0, 0, 0, 1⟩ 432)), (4, some (.ptr ⟨2, 0, 0, 1⟩ 16)), (5, some (.ptr ⟨3, 0, 0, 1⟩ 16)), (6, some (.int .i64 x0)), (15, some (.bool (decide (x0 <= 10))))]
theorem pz27_8 (t k b : List Int) (hK : (Ye3 Kf k b t)) (v6 : Int) (h3'1 : List Int) (h : vz27_8 t k b v6 h3'1) : SemL Try.prog w0 fp ρi 1 33 [cz27_n5, (.seq cz27_n11 cz27_n12)] (Ye7 v6) (Ye0 t k h3'1) (kkz27_1 w0 fp ρi Kf t k b v6 h3'1) :=
  L_cond (q := (decide (v6 <= 10))) (by kernel_rfl) (fun hq => (L_skip (lpk [0, 4, 5, 6] [0, 2, 3] (L_seq (pz27_6 t k b hK v6 h3'1 (h.1 hq)))))) (fun hq => (L_exit (lpk [4, 5] [0, 2, 3] (L_seq (pz27_7 t k b hK h3'1 (h.2 hq))))))
theorem rz27_9 (t k b : List Int) (v6 : Int) (h3'1 : List Int) (Z : Env -> Heap -> Prop) (h : Z (Ye7 v6) (Ye0 t k h3'1)) : EvC GaEnc cz27_n4 (Ye1 v6) (Ye0 t k h3'1) [0, 4, 5, 6, 15] [0, 2, 3] Z := EvC.of (by kernel_rfl) h
def vz27_9 (t k b : List Int) (v6 : Int) (h3'1 : List Int) : Prop := vz27_8 t k b v6 h3'1
theorem pz27_9 (t k b : List Int) (hK : (Ye3 Kf k b t)) (v6 : Int) (h3'1 : List Int) (h : vz27_9 t k b v6 h3'1) : SemL Try.prog w0 fp ρi 1 33 [cz27_n4, cz27_n5, (.seq cz27_n11 cz27_n12)] (Ye1 v6) (Ye0 t k h3'1) (kkz27_1 w0 fp ρi Kf t k b v6 h3'1) :=
  L_regE hGaEnc (rz27_9 t k b v6 h3'1 _ (pz27_8 t k b hK v6 h3'1 h))
def vz27_10 (t k b h3 : List Int) : Prop := (1 <= (1 : Int) /\ (1 : Int) <= 11 /\ h3 = stR k b ((1 : Int) - 1).toNat) /\ (∀ (v6 : Int) (h3'1 : List Int), (1 <= v6 /\ v6 <= 11 /\ h3'1 = stR k b (v6 - 1).toNat) -> (vz27_9 t k b v6 h3'1))
abbrev Ye8 : Env := [(0, some (.ptr ⟨0, 0, 0, 1⟩ 432)), (4, some (.ptr ⟨2, 0, 0, 1⟩ 16)), (5, some (.ptr ⟨3, 0, 0, 1⟩ 16)), (6, some (.int .i64 1))]
theorem pz27_10 (t k b : List Int) (hK : (Ye3 Kf k b t)) (h3 : List Int) (h : vz27_10 t k b h3) : SemL Try.prog w0 fp ρi 1 33 [cz27_n13] Ye8 (Ye0 t k h3) (kkz27_0 w0 fp ρi Kf t k b) :=
  L_loop (ivz27_1 t k b) (muz27_1 t k b) (liz27_1 t k b) (ljz27_1 t k b) ⟨(1, h3), tau [], h.1, (sub_tau' [] [0, 2, 3] rfl rfl (esc bpt (esc bpt (esc bpt (esc pbd envSub_nil)))) (hsc pcs (hsc pcs (hsc pcs heapSub_nil))) (by kernel_rfl) rfl)⟩ (fun s => match s with | (v6, h3'1) => fun hi => (L_seq (L_seq (pz27_9 t k b hK v6 h3'1 (h.2 v6 h3'1 hi)))))
def vz27_11 (t k b h3 : List Int) : Prop := vz27_10 t k b h3
theorem pz27_11 (t k b : List Int) (hK : (Ye3 Kf k b t)) (h3 : List Int) (h : vz27_11 t k b h3) : SemL Try.prog w0 fp ρi 1 33 [cz27_n14, (.seq cz27_n15 .ret)] Ye8 (Ye0 t k h3) (fnK RaEnc 1 Kf) :=
  L_block (pz27_10 t k b hK h3 h)
abbrev Ye9 : Env := [(0, some (.ptr ⟨0, 0, 0, 1⟩ 432)), (4, some (.ptr ⟨2, 0, 0, 1⟩ 16)), (5, some (.ptr ⟨3, 0, 0, 1⟩ 16))]
theorem rz27_12 (t k b h3 : List Int) (Z : Env -> Heap -> Prop) (h : Z Ye8 (Ye0 t k h3)) : EvC GaEnc cz27_n3 Ye9 (Ye0 t k h3) [0, 4, 5, 6] [0, 2, 3] Z := EvC.of (by kernel_rfl) h
def vz27_12 (t k b h3 : List Int) : Prop := vz27_11 t k b h3
theorem pz27_12 (t k b : List Int) (hK : (Ye3 Kf k b t)) (h3 : List Int) (h : vz27_12 t k b h3) : SemL Try.prog w0 fp ρi 1 33 [cz27_n3, cz27_n14, (.seq cz27_n15 .ret)] Ye9 (Ye0 t k h3) (fnK RaEnc 1 Kf) :=
  L_regE hGaEnc (rz27_12 t k b h3 _ (pz27_11 t k b hK h3 h))
theorem rz27_13 (t k b : List Int) (Z : Env -> Heap -> Prop) (h : (((0 : Int) <= 0)) /\ (((0 : Int) < 11)) /\ (((16 : Nat) <= 176)) /\ ((BlkOk b /\ BlkOk (List.take 16 k))) /\ Z Ye9 ⟨4, [(0, some ⟨false, [.ints .u8 256 t, .ints .u8 176 k], 0⟩), (2, some ⟨true, [.ints .u8 16 (List.replicate 16 0)], 0⟩), (3, some ⟨true, [.ints .u8 16 (xorL b (List.take 16 k))], 0⟩)]⟩) : EvC GaEnc cz27_n2 Ye9 (Ye0 t k b) [0, 4, 5] [0, 2, 3] Z := EvC.of (by kernel_rfl) h
def vz27_13 (t k b : List Int) : Prop := ((BlkOk b /\ BlkOk (List.take 16 k))) /\ (∀ h3 : List Int, h3 = (xorL b (List.take 16 k)) -> vz27_12 t k b h3)
theorem pz27_13 (t k b : List Int) (hK : (Ye3 Kf k b t)) (h : vz27_13 t k b) : SemL Try.prog w0 fp ρi 1 33 [cz27_n2, (.seq (.seq cz27_n3 cz27_n14) (.seq cz27_n15 .ret))] Ye9 (Ye0 t k b) (fnK RaEnc 1 Kf) :=
  L_regE hGaEnc (rz27_13 t k b _ ⟨(by decide), ⟨(by decide), ⟨(by decide), ⟨h.1, (L_seq (L_seq (pz27_12 t k b hK (xorL b (List.take 16 k)) (h.2 (xorL b (List.take 16 k)) rfl))))⟩⟩⟩⟩)
abbrev Ye10 : Env := [(0, some (.ptr ⟨0, 0, 0, 1⟩ 432)), (3, some (.ptr ⟨1, 0, 0, 1⟩ 16)), (4, some (.ptr ⟨2, 0, 0, 1⟩ 16))]
abbrev Ye11 (x0 x1 x2 : List Int) : Heap := ⟨3, [(0, some ⟨false, [.ints .u8 256 x0, .ints .u8 176 x1], 0⟩), (1, some ⟨true, [.ints .u8 16 x2], 0⟩), (2, some ⟨true, [.ints .u8 16 (List.replicate 16 0)], 0⟩)]⟩
theorem rz27_14 (t k b : List Int) (Z : Env -> Heap -> Prop) (h : Z Ye9 (Ye0 t k b)) : EvC GaEnc cz27_n1 Ye10 (Ye11 t k b) [0, 4, 5] [0, 2, 3] Z := EvC.of (by kernel_rfl) h
def vz27_14 (t k b : List Int) : Prop := vz27_13 t k b
theorem pz27_14 (t k b : List Int) (hK : (Ye3 Kf k b t)) (h : vz27_14 t k b) : SemL Try.prog w0 fp ρi 1 33 [cz27_n1, (.seq cz27_n2 (.seq (.seq cz27_n3 cz27_n14) (.seq cz27_n15 .ret)))] Ye10 (Ye11 t k b) (fnK RaEnc 1 Kf) :=
  L_regE hGaEnc (rz27_14 t k b _ (L_seq (pz27_13 t k b hK h)))
abbrev Ye12 (x0 : List Int) : Env := [(0, some (.ptr ⟨0, 0, 0, 1⟩ 432)), (1, some (.agg [.ints .u8 16 x0]))]
theorem rz27_15 (t k b : List Int) (Z : Env -> Heap -> Prop) (h : Z Ye10 (Ye11 t k b)) : EvC GaEnc cz27_n0 (Ye12 b) (Ye2 t k) [0, 3, 4] [0, 1, 2] Z := EvC.of (by kernel_rfl) h
def vz27_15 (t k b : List Int) : Prop := vz27_14 t k b
theorem pz27_15 (t k b : List Int) (hK : (Ye3 Kf k b t)) (h : vz27_15 t k b) : SemL Try.prog w0 fp ρi 1 33 [cz27_n0, (.seq cz27_n1 (.seq cz27_n2 (.seq (.seq cz27_n3 cz27_n14) (.seq cz27_n15 .ret))))] (Ye12 b) (Ye2 t k) (fnK RaEnc 1 Kf) :=
  L_regE hGaEnc (rz27_15 t k b _ (L_seq (pz27_14 t k b hK h)))
def vcaEnc (t k b : List Int) : Prop := vz27_15 t k b
theorem waEnc (t k b : List Int) (hK : (Ye3 Kf k b t)) (h : vcaEnc t k b) : SemL Try.prog w0 fp ρi 1 33 [caEnc] (Ye12 b) (Ye2 t k) (fnK RaEnc 1 Kf) :=
  (L_seq (pz27_15 t k b hK h))
end
theorem okaEnc (t k b : List Int) (hpre : (t = sboxT /\ KeysOk k /\ BlkOk b)) : vcaEnc t k b := by
  unfold vcaEnc vz27_15 vz27_14 vz27_13 vz27_12 vz27_11 vz27_10 vz27_9 vz27_8 vz27_7 vz27_6 vz27_5 vz27_4 vz27_3 vz27_2 vz27_1 vz27_0
  obtain ⟨h1, h2, h3⟩ := hpre
  refine ⟨⟨h3, key_ok (r := 0) h2 (by omega)⟩, ?_⟩
  rintro h3' rfl
  refine ⟨⟨by omega, by omega, rfl⟩, ?_⟩
  rintro v6 hh ⟨i0, i1, rfl⟩
  obtain ⟨r, hr⟩ : ∃ r : Nat, (v6 - 1).toNat = r := ⟨_, rfl⟩
  rw [hr]
  refine ⟨fun hlt => ?_, fun hge => ?_⟩
  · have hlt := of_decide_eq_true hlt
    have w1 : IntKind.i64.wrap (v6 + 1) = v6 + 1 := by rw [wi64]; omega
    have e1 : (v6 + 1 - 1).toNat = r + 1 := by omega
    rw [w1, e1, Nat.zero_add, show v6.toNat * 16 = 16 * (r + 1) by omega]
    refine ⟨⟨stR_ok _ _ _, h1⟩, ?_⟩
    rintro s1 rfl
    refine ⟨fun h => ?_, fun h => ?_⟩
    · have h := of_decide_eq_true h
      refine ⟨shiftL_ok _, ?_⟩
      rintro s2 rfl
      refine ⟨by omega, by omega, by omega, ⟨mixL_ok _, key_ok h2 (by omega)⟩, ?_⟩
      rintro s3 rfl
      refine ⟨⟨by omega, by omega, ?_⟩, by omega⟩
      rw [stR, if_pos (by omega)]
    · have h := of_decide_eq_false h
      refine ⟨by omega, by omega, by omega, ⟨shiftL_ok _, key_ok h2 (by omega)⟩, ?_⟩
      rintro s3 rfl
      refine ⟨⟨by omega, by omega, ?_⟩, by omega⟩
      rw [stR, if_neg (by omega)]
  · have hge := of_decide_eq_false hge
    have : r = 10 := by omega
    subst this
    rfl
theorem saEnc : Sound Try.prog 27 (gS DaEnc) := by
  refine fn_soundA caEnc_fits ?_
  intro args H K h
  obtain ⟨pre, out, hD, hpre, hK⟩ := gS_inv h
  unfold DaEnc at hD
  split at hD
  · obtain ⟨hb, hD⟩ := bif_some hD
    simp only [Bool.and_eq_true] at hb
    obtain ⟨⟨h0, h1⟩, h2⟩ := hb
    obtain rfl := Nat.eq_of_beq_eq_true h0
    obtain rfl := Nat.eq_of_beq_eq_true h1
    obtain rfl := Nat.eq_of_beq_eq_true h2
    cases hD
    exact ⟨rfl, fun w0 fp ρi => waEnc _ _ _ hK (okaEnc _ _ _ hpre)⟩
  · cases hD
end Go.Proofs.Ytefmjmghkedciaa
