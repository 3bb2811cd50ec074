/- Walks, printed by vcg. -/
import Derived.Test.YtefmjmghkedciaaSxAesW
import Derived.Test.YtefmjmghkedciaaSxAes9
import Derived.KernelRfl
set_option linter.unusedVariables false
set_option linter.unusedSimpArgs false
set_option maxRecDepth 20000
namespace Go.Proofs.Ytefmjmghkedciaa
open Go.Sx
def Pq2Times : PSpec := fun args => match args with
  | [.int .u8 a, .int .u8 b] => some (((0 ≤ a ∧ a < 256) ∧ (0 ≤ b ∧ b < 256)), .int .u8 (mulB a b))
  | _ => none
def pcq2Times : PCon := ⟨23, Pq2Times⟩
def cz23_n0 : ACode := .reg (.op (some 4) (.mov (.cn (.int .u8 0))) .nil)
def cz23_n1 : ACode := .reg (.op (some 5) (.mov (.cn (.int .i64 0))) .nil)
def cz23_n2 : ACode := .reg (.op (some 6) (.mov (.cn (.int .i64 0))) .nil)
def cz23_n3 : ACode := .reg (.op (some 8) (.mov (.tm 6)) (.op (some 9) (.bin .lss (.tm 8) (.cn (.int .i64 8))) .nil))
def cz23_n4 : ACode := .cond (.tm 9) .skip (.exit 0)
def cz23_n5 : ACode := .reg (.op (some 12) (.mov (.tm 1)) (.op (some 13) (.mov (.tm 6)) (.op (some 14) (.bin .shr (.tm 12) (.tm 13)) (.op (some 15) (.bin .and (.tm 14) (.cn (.int .u8 1))) (.op (some 16) (.bin .eql (.tm 15) (.cn (.int .u8 1))) .nil)))))
def cz23_n6 : ACode := .reg (.op (some 17) (.mov (.tm 5)) (.op (some 18) (.mov (.tm 0)) (.op (some 19) (.conv .i64 (.tm 18)) (.op (some 20) (.mov (.tm 6)) (.op (some 21) (.bin .shl (.tm 19) (.tm 20)) (.op (some 22) (.bin .xor (.tm 17) (.tm 21)) (.op (some 5) (.mov (.tm 22)) .nil)))))))
def cz23_n7 : ACode := .cond (.tm 16) cz23_n6 .skip
def cz23_n8 : ACode := .block 1 (.seq cz23_n5 cz23_n7)
def cz23_n9 : ACode := .reg (.op (some 10) (.mov (.tm 6)) (.op (some 11) (.bin .add (.tm 10) (.cn (.int .i64 1))) (.op (some 6) (.mov (.tm 11)) .nil)))
def cz23_n10 : ACode := .loop (.seq (.seq cz23_n3 cz23_n4) (.seq cz23_n8 cz23_n9))
def cz23_n11 : ACode := .block 0 cz23_n10
def cz23_n12 : ACode := .reg (.op (some 7) (.mov (.cn (.int .i64 14))) .nil)
def cz23_n13 : ACode := .reg (.op (some 23) (.mov (.tm 7)) (.op (some 24) (.bin .geq (.tm 23) (.cn (.int .i64 8))) .nil))
def cz23_n14 : ACode := .cond (.tm 24) .skip (.exit 2)
def cz23_n15 : ACode := .reg (.op (some 27) (.mov (.tm 5)) (.op (some 28) (.mov (.tm 7)) (.op (some 29) (.bin .shr (.tm 27) (.tm 28)) (.op (some 30) (.bin .and (.tm 29) (.cn (.int .i64 1))) (.op (some 31) (.bin .eql (.tm 30) (.cn (.int .i64 1))) .nil)))))
def cz23_n16 : ACode := .reg (.op (some 32) (.mov (.tm 5)) (.op (some 33) (.mov (.tm 7)) (.op (some 34) (.bin .sub (.tm 33) (.cn (.int .i64 8))) (.op (some 35) (.bin .shl (.cn (.int .i64 283)) (.tm 34)) (.op (some 36) (.bin .xor (.tm 32) (.tm 35)) (.op (some 5) (.mov (.tm 36)) .nil))))))
def cz23_n17 : ACode := .cond (.tm 31) cz23_n16 .skip
def cz23_n18 : ACode := .block 3 (.seq cz23_n15 cz23_n17)
def cz23_n19 : ACode := .reg (.op (some 25) (.mov (.tm 7)) (.op (some 26) (.bin .sub (.tm 25) (.cn (.int .i64 1))) (.op (some 7) (.mov (.tm 26)) .nil)))
def cz23_n20 : ACode := .loop (.seq (.seq cz23_n13 cz23_n14) (.seq cz23_n18 cz23_n19))
def cz23_n21 : ACode := .block 2 cz23_n20
def cz23_n22 : ACode := .reg (.op (some 37) (.mov (.tm 5)) (.op (some 38) (.conv .u8 (.tm 37)) (.op (some 4) (.mov (.tm 38)) .nil)))
def cq2Times : ACode := (.seq cz23_n0 (.seq cz23_n1 (.seq (.seq cz23_n2 cz23_n11) (.seq (.seq cz23_n12 cz23_n21) (.seq cz23_n22 .ret)))))
def Rq2Times : Res := .one (.tm 4)
theorem cq2Times_fits : fnFits Try.prog 23 2 39 cq2Times Rq2Times = true := by kernel_rfl
def Gq2Times : Calls' := withP [] []
theorem hGq2Times : CallOk Try.prog Gq2Times := withP_ok trivial trivial
section
variable {w0 : World} {fp : Nat → Nat → Prop} {ρi : Rho} {Kf : SVal → Heap → Prop}
def kkz23_0 (w0 : World) (fp : Nat → Nat → Prop) (ρi : Rho) (Kf : SVal → Heap → Prop) (a : Int) (b : Int) : Cont := blockK 0 (fun e H => SemL Try.prog w0 fp ρi 0 39 [(.seq (.seq cz23_n12 cz23_n21) (.seq cz23_n22 .ret))] e H (fnK Rq2Times 0 Kf)) (fnK Rq2Times 0 Kf)
def ivz23_1 (a : Int) (b : Int) : Int × Int → Prop := fun s => match s with | (v5, v6) => 0 ≤ v6 ∧ v6 ≤ 8 ∧ v5 = ((qV v6.toNat (bv a) (bv b)).toNat : Nat)
def muz23_1 (a : Int) (b : Int) : Int × Int → Nat := fun s => match s with | (v5, v6) => ((8 - v6).toNat)
def liz23_1 (a : Int) (b : Int) : Int × Int → Env := fun s => match s with | (v5, v6) => [(0, some (.int .u8 a)), (1, some (.int .u8 b)), (5, some (.int .i64 v5)), (6, some (.int .i64 v6))]
def ljz23_1 (a : Int) (b : Int) : Int × Int → Heap := fun s => match s with | (v5, v6) => ⟨0, []⟩
def kkz23_1 (w0 : World) (fp : Nat → Nat → Prop) (ρi : Rho) (Kf : SVal → Heap → Prop) (a : Int) (b : Int) (v5 : Int) (v6 : Int) : Cont := loopK 0 (ivz23_1 a b) (muz23_1 a b) (liz23_1 a b) (ljz23_1 a b) (v5, v6) (kkz23_0 w0 fp ρi Kf a b)
theorem rz23_0 (a : Int) (b : Int) (v5'1 : Int) (v6 : Int) (v5 : Int) (Z : Env → Heap → Prop) (h : Z [(0, some (.int .u8 a)), (1, some (.int .u8 b)), (5, some (.int .i64 v5'1)), (6, some (.int .i64 (IntKind.i64.wrap (v6 + 1))))] ⟨0, []⟩) : EvC Gq2Times cz23_n9 [(0, some (.int .u8 a)), (1, some (.int .u8 b)), (5, some (.int .i64 v5'1)), (6, some (.int .i64 v6))] ⟨0, []⟩ [0, 1, 5, 6] [] Z := EvC.of (by kernel_rfl) h
def vz23_0 (a : Int) (b : Int) (v5'1 : Int) (v6 : Int) (v5 : Int) : Prop := (0 ≤ (IntKind.i64.wrap (v6 + 1)) ∧ (IntKind.i64.wrap (v6 + 1)) ≤ 8 ∧ v5'1 = ((qV (IntKind.i64.wrap (v6 + 1)).toNat (bv a) (bv b)).toNat : Nat)) ∧ (((8 - (IntKind.i64.wrap (v6 + 1))).toNat) < ((8 - v6).toNat))
theorem pz23_0 (a : Int) (b : Int) (hK : Kf (.int .u8 (mulB a b)) ⟨0, []⟩) (v5'1 : Int) (v6 : Int) (v5 : Int) (h : vz23_0 a b v5'1 v6 v5) : SemL Try.prog w0 fp ρi 0 39 [cz23_n9] [(0, some (.int .u8 a)), (1, some (.int .u8 b)), (5, some (.int .i64 v5'1)), (6, some (.int .i64 v6))] ⟨0, []⟩ (kkz23_1 w0 fp ρi Kf a b v5 v6) :=
  L_regE hGq2Times (rz23_0 a b v5'1 v6 v5 (fun e H => SemL Try.prog w0 fp ρi 0 39 [] e H (kkz23_1 w0 fp ρi Kf a b v5 v6)) (L_nil (loop_back (x' := (v5'1, (IntKind.i64.wrap (v6 + 1)))) (τ := tau []) h.1 h.2 (sub_tau' [] [] rfl rfl (esc pbd (esc pbd (esc pbd (esc pbd envSub_nil)))) heapSub_nil (by kernel_rfl) rfl))))
def kkz23_2 (w0 : World) (fp : Nat → Nat → Prop) (ρi : Rho) (Kf : SVal → Heap → Prop) (a : Int) (b : Int) (v5 : Int) (v6 : Int) : Cont := blockK 1 (fun e H => SemL Try.prog w0 fp ρi 0 39 [cz23_n9] e H (kkz23_1 w0 fp ρi Kf a b v5 v6)) (kkz23_1 w0 fp ρi Kf a b v5 v6)
theorem rz23_1 (a : Int) (b : Int) (v5 : Int) (v6 : Int) (Z : Env → Heap → Prop) (h : ((0 ≤ v6)) ∧ Z [(0, some (.int .u8 a)), (1, some (.int .u8 b)), (5, some (.int .i64 (ixor .i64 v5 (ishl .i64 (IntKind.i64.wrap a) v6)))), (6, some (.int .i64 v6))] ⟨0, []⟩) : EvC Gq2Times cz23_n6 [(0, some (.int .u8 a)), (1, some (.int .u8 b)), (5, some (.int .i64 v5)), (6, some (.int .i64 v6))] ⟨0, []⟩ [0, 1, 5, 6] [] Z := EvC.of (by kernel_rfl) h
def vz23_1 (a : Int) (b : Int) (v5 : Int) (v6 : Int) : Prop := ((0 ≤ v6)) ∧ (∀ v5'1 : Int, v5'1 = (ixor .i64 v5 (ishl .i64 (IntKind.i64.wrap a) v6)) → vz23_0 a b v5'1 v6 v5)
theorem pz23_1 (a : Int) (b : Int) (hK : Kf (.int .u8 (mulB a b)) ⟨0, []⟩) (v5 : Int) (v6 : Int) (h : vz23_1 a b v5 v6) : SemL Try.prog w0 fp ρi 0 39 [cz23_n6] [(0, some (.int .u8 a)), (1, some (.int .u8 b)), (5, some (.int .i64 v5)), (6, some (.int .i64 v6))] ⟨0, []⟩ (kkz23_2 w0 fp ρi Kf a b v5 v6) :=
  L_regE hGq2Times (rz23_1 a b v5 v6 (fun e H => SemL Try.prog w0 fp ρi 0 39 [] e H (kkz23_2 w0 fp ρi Kf a b v5 v6)) ⟨h.1, (L_nil (pz23_0 a b hK (ixor .i64 v5 (ishl .i64 (IntKind.i64.wrap a) v6)) v6 v5 (h.2 (ixor .i64 v5 (ishl .i64 (IntKind.i64.wrap a) v6)) rfl)))⟩)
def vz23_2 (a : Int) (b : Int) (v5 : Int) (v6 : Int) : Prop := (((iand .u8 (ishr .u8 b v6) 1) == 1) = true → (vz23_1 a b v5 v6)) ∧ (((iand .u8 (ishr .u8 b v6) 1) == 1) = false → (vz23_0 a b v5 v6 v5))
theorem pz23_2 (a : Int) (b : Int) (hK : Kf (.int .u8 (mulB a b)) ⟨0, []⟩) (v5 : Int) (v6 : Int) (h : vz23_2 a b v5 v6) : SemL Try.prog w0 fp ρi 0 39 [cz23_n7] [(0, some (.int .u8 a)), (1, some (.int .u8 b)), (5, some (.int .i64 v5)), (6, some (.int .i64 v6)), (16, some (.bool ((iand .u8 (ishr .u8 b v6) 1) == 1)))] ⟨0, []⟩ (kkz23_2 w0 fp ρi Kf a b v5 v6) :=
  L_cond (q := ((iand .u8 (ishr .u8 b v6) 1) == 1)) (by kernel_rfl) (fun hq => (lpk [0, 1, 5, 6] [] (pz23_1 a b hK v5 v6 (h.1 hq)))) (fun hq => (L_skip (L_nil (lpk [0, 1, 5, 6] [] (pz23_0 a b hK v5 v6 v5 (h.2 hq))))))
theorem rz23_3 (a : Int) (b : Int) (v5 : Int) (v6 : Int) (Z : Env → Heap → Prop) (h : ((0 ≤ v6)) ∧ Z [(0, some (.int .u8 a)), (1, some (.int .u8 b)), (5, some (.int .i64 v5)), (6, some (.int .i64 v6)), (16, some (.bool ((iand .u8 (ishr .u8 b v6) 1) == 1)))] ⟨0, []⟩) : EvC Gq2Times cz23_n5 [(0, some (.int .u8 a)), (1, some (.int .u8 b)), (5, some (.int .i64 v5)), (6, some (.int .i64 v6))] ⟨0, []⟩ [0, 1, 5, 6, 16] [] Z := EvC.of (by kernel_rfl) h
def vz23_3 (a : Int) (b : Int) (v5 : Int) (v6 : Int) : Prop := ((0 ≤ v6)) ∧ (vz23_2 a b v5 v6)
theorem pz23_3 (a : Int) (b : Int) (hK : Kf (.int .u8 (mulB a b)) ⟨0, []⟩) (v5 : Int) (v6 : Int) (h : vz23_3 a b v5 v6) : SemL Try.prog w0 fp ρi 0 39 [cz23_n5, cz23_n7] [(0, some (.int .u8 a)), (1, some (.int .u8 b)), (5, some (.int .i64 v5)), (6, some (.int .i64 v6))] ⟨0, []⟩ (kkz23_2 w0 fp ρi Kf a b v5 v6) :=
  L_regE hGq2Times (rz23_3 a b v5 v6 (fun e H => SemL Try.prog w0 fp ρi 0 39 [cz23_n7] e H (kkz23_2 w0 fp ρi Kf a b v5 v6)) ⟨h.1, (pz23_2 a b hK v5 v6 h.2)⟩)
def vz23_4 (a : Int) (b : Int) (v5 : Int) (v6 : Int) : Prop := vz23_3 a b v5 v6
theorem pz23_4 (a : Int) (b : Int) (hK : Kf (.int .u8 (mulB a b)) ⟨0, []⟩) (v5 : Int) (v6 : Int) (h : vz23_4 a b v5 v6) : SemL Try.prog w0 fp ρi 0 39 [cz23_n8, cz23_n9] [(0, some (.int .u8 a)), (1, some (.int .u8 b)), (5, some (.int .i64 v5)), (6, some (.int .i64 v6))] ⟨0, []⟩ (kkz23_1 w0 fp ρi Kf a b v5 v6) :=
  L_block (L_seq (pz23_3 a b hK v5 v6 h))
def kkz23_3 (w0 : World) (fp : Nat → Nat → Prop) (ρi : Rho) (Kf : SVal → Heap → Prop) (a : Int) (b : Int) : Cont := blockK 2 (fun e H => SemL Try.prog w0 fp ρi 0 39 [(.seq cz23_n22 .ret)] e H (fnK Rq2Times 0 Kf)) (fnK Rq2Times 0 Kf)
def ivz23_4 (a : Int) (b : Int) : Int × Int → Prop := fun s => match s with | (v5'2, v7) => 7 ≤ v7 ∧ v7 ≤ 14 ∧ v5'2 = ((rV (14 - v7).toNat (qV 8 (bv a) (bv b))).toNat : Nat)
def muz23_4 (a : Int) (b : Int) : Int × Int → Nat := fun s => match s with | (v5'2, v7) => ((v7 - 7).toNat)
def liz23_4 (a : Int) (b : Int) : Int × Int → Env := fun s => match s with | (v5'2, v7) => [(5, some (.int .i64 v5'2)), (7, some (.int .i64 v7))]
def ljz23_4 (a : Int) (b : Int) : Int × Int → Heap := fun s => match s with | (v5'2, v7) => ⟨0, []⟩
def kkz23_4 (w0 : World) (fp : Nat → Nat → Prop) (ρi : Rho) (Kf : SVal → Heap → Prop) (a : Int) (b : Int) (v5'2 : Int) (v7 : Int) : Cont := loopK 0 (ivz23_4 a b) (muz23_4 a b) (liz23_4 a b) (ljz23_4 a b) (v5'2, v7) (kkz23_3 w0 fp ρi Kf a b)
theorem rz23_5 (a : Int) (b : Int) (v5'3 : Int) (v7 : Int) (v5'2 : Int) (Z : Env → Heap → Prop) (h : Z [(5, some (.int .i64 v5'3)), (7, some (.int .i64 (IntKind.i64.wrap (v7 - 1))))] ⟨0, []⟩) : EvC Gq2Times cz23_n19 [(5, some (.int .i64 v5'3)), (7, some (.int .i64 v7))] ⟨0, []⟩ [5, 7] [] Z := EvC.of (by kernel_rfl) h
def vz23_5 (a : Int) (b : Int) (v5'3 : Int) (v7 : Int) (v5'2 : Int) : Prop := (7 ≤ (IntKind.i64.wrap (v7 - 1)) ∧ (IntKind.i64.wrap (v7 - 1)) ≤ 14 ∧ v5'3 = ((rV (14 - (IntKind.i64.wrap (v7 - 1))).toNat (qV 8 (bv a) (bv b))).toNat : Nat)) ∧ ((((IntKind.i64.wrap (v7 - 1)) - 7).toNat) < ((v7 - 7).toNat))
theorem pz23_5 (a : Int) (b : Int) (hK : Kf (.int .u8 (mulB a b)) ⟨0, []⟩) (v5'3 : Int) (v7 : Int) (v5'2 : Int) (h : vz23_5 a b v5'3 v7 v5'2) : SemL Try.prog w0 fp ρi 0 39 [cz23_n19] [(5, some (.int .i64 v5'3)), (7, some (.int .i64 v7))] ⟨0, []⟩ (kkz23_4 w0 fp ρi Kf a b v5'2 v7) :=
  L_regE hGq2Times (rz23_5 a b v5'3 v7 v5'2 (fun e H => SemL Try.prog w0 fp ρi 0 39 [] e H (kkz23_4 w0 fp ρi Kf a b v5'2 v7)) (L_nil (loop_back (x' := (v5'3, (IntKind.i64.wrap (v7 - 1)))) (τ := tau []) h.1 h.2 (sub_tau' [] [] rfl rfl (esc pbd (esc pbd envSub_nil)) heapSub_nil (by kernel_rfl) rfl))))
def kkz23_5 (w0 : World) (fp : Nat → Nat → Prop) (ρi : Rho) (Kf : SVal → Heap → Prop) (a : Int) (b : Int) (v5'2 : Int) (v7 : Int) : Cont := blockK 3 (fun e H => SemL Try.prog w0 fp ρi 0 39 [cz23_n19] e H (kkz23_4 w0 fp ρi Kf a b v5'2 v7)) (kkz23_4 w0 fp ρi Kf a b v5'2 v7)
theorem rz23_6 (a : Int) (b : Int) (v5'2 : Int) (v7 : Int) (Z : Env → Heap → Prop) (h : ((0 ≤ (IntKind.i64.wrap (v7 - 8)))) ∧ Z [(5, some (.int .i64 (ixor .i64 v5'2 (ishl .i64 283 (IntKind.i64.wrap (v7 - 8)))))), (7, some (.int .i64 v7))] ⟨0, []⟩) : EvC Gq2Times cz23_n16 [(5, some (.int .i64 v5'2)), (7, some (.int .i64 v7))] ⟨0, []⟩ [5, 7] [] Z := EvC.of (by kernel_rfl) h
def vz23_6 (a : Int) (b : Int) (v5'2 : Int) (v7 : Int) : Prop := ((0 ≤ (IntKind.i64.wrap (v7 - 8)))) ∧ (∀ v5'3 : Int, v5'3 = (ixor .i64 v5'2 (ishl .i64 283 (IntKind.i64.wrap (v7 - 8)))) → vz23_5 a b v5'3 v7 v5'2)
theorem pz23_6 (a : Int) (b : Int) (hK : Kf (.int .u8 (mulB a b)) ⟨0, []⟩) (v5'2 : Int) (v7 : Int) (h : vz23_6 a b v5'2 v7) : SemL Try.prog w0 fp ρi 0 39 [cz23_n16] [(5, some (.int .i64 v5'2)), (7, some (.int .i64 v7))] ⟨0, []⟩ (kkz23_5 w0 fp ρi Kf a b v5'2 v7) :=
  L_regE hGq2Times (rz23_6 a b v5'2 v7 (fun e H => SemL Try.prog w0 fp ρi 0 39 [] e H (kkz23_5 w0 fp ρi Kf a b v5'2 v7)) ⟨h.1, (L_nil (pz23_5 a b hK (ixor .i64 v5'2 (ishl .i64 283 (IntKind.i64.wrap (v7 - 8)))) v7 v5'2 (h.2 (ixor .i64 v5'2 (ishl .i64 283 (IntKind.i64.wrap (v7 - 8)))) rfl)))⟩)
def vz23_7 (a : Int) (b : Int) (v5'2 : Int) (v7 : Int) : Prop := (((iand .i64 (ishr .i64 v5'2 v7) 1) == 1) = true → (vz23_6 a b v5'2 v7)) ∧ (((iand .i64 (ishr .i64 v5'2 v7) 1) == 1) = false → (vz23_5 a b v5'2 v7 v5'2))
theorem pz23_7 (a : Int) (b : Int) (hK : Kf (.int .u8 (mulB a b)) ⟨0, []⟩) (v5'2 : Int) (v7 : Int) (h : vz23_7 a b v5'2 v7) : SemL Try.prog w0 fp ρi 0 39 [cz23_n17] [(5, some (.int .i64 v5'2)), (7, some (.int .i64 v7)), (31, some (.bool ((iand .i64 (ishr .i64 v5'2 v7) 1) == 1)))] ⟨0, []⟩ (kkz23_5 w0 fp ρi Kf a b v5'2 v7) :=
  L_cond (q := ((iand .i64 (ishr .i64 v5'2 v7) 1) == 1)) (by kernel_rfl) (fun hq => (lpk [5, 7] [] (pz23_6 a b hK v5'2 v7 (h.1 hq)))) (fun hq => (L_skip (L_nil (lpk [5, 7] [] (pz23_5 a b hK v5'2 v7 v5'2 (h.2 hq))))))
theorem rz23_8 (a : Int) (b : Int) (v5'2 : Int) (v7 : Int) (Z : Env → Heap → Prop) (h : ((0 ≤ v7)) ∧ Z [(5, some (.int .i64 v5'2)), (7, some (.int .i64 v7)), (31, some (.bool ((iand .i64 (ishr .i64 v5'2 v7) 1) == 1)))] ⟨0, []⟩) : EvC Gq2Times cz23_n15 [(5, some (.int .i64 v5'2)), (7, some (.int .i64 v7))] ⟨0, []⟩ [5, 7, 31] [] Z := EvC.of (by kernel_rfl) h
def vz23_8 (a : Int) (b : Int) (v5'2 : Int) (v7 : Int) : Prop := ((0 ≤ v7)) ∧ (vz23_7 a b v5'2 v7)
theorem pz23_8 (a : Int) (b : Int) (hK : Kf (.int .u8 (mulB a b)) ⟨0, []⟩) (v5'2 : Int) (v7 : Int) (h : vz23_8 a b v5'2 v7) : SemL Try.prog w0 fp ρi 0 39 [cz23_n15, cz23_n17] [(5, some (.int .i64 v5'2)), (7, some (.int .i64 v7))] ⟨0, []⟩ (kkz23_5 w0 fp ρi Kf a b v5'2 v7) :=
  L_regE hGq2Times (rz23_8 a b v5'2 v7 (fun e H => SemL Try.prog w0 fp ρi 0 39 [cz23_n17] e H (kkz23_5 w0 fp ρi Kf a b v5'2 v7)) ⟨h.1, (pz23_7 a b hK v5'2 v7 h.2)⟩)
def vz23_9 (a : Int) (b : Int) (v5'2 : Int) (v7 : Int) : Prop := vz23_8 a b v5'2 v7
theorem pz23_9 (a : Int) (b : Int) (hK : Kf (.int .u8 (mulB a b)) ⟨0, []⟩) (v5'2 : Int) (v7 : Int) (h : vz23_9 a b v5'2 v7) : SemL Try.prog w0 fp ρi 0 39 [cz23_n18, cz23_n19] [(5, some (.int .i64 v5'2)), (7, some (.int .i64 v7))] ⟨0, []⟩ (kkz23_4 w0 fp ρi Kf a b v5'2 v7) :=
  L_block (L_seq (pz23_8 a b hK v5'2 v7 h))
theorem rz23_10 (a : Int) (b : Int) (v5'2 : Int) (Z : Env → Heap → Prop) (h : Z [(4, some (.int .u8 (IntKind.u8.wrap v5'2)))] ⟨0, []⟩) : EvC Gq2Times cz23_n22 [(5, some (.int .i64 v5'2))] ⟨0, []⟩ [4] [] Z := EvC.of (by kernel_rfl) h
theorem rtz23_0 (a : Int) (b : Int) (v5'2 : Int) : RetC Rq2Times [(4, some (.int .u8 (IntKind.u8.wrap v5'2)))] ⟨0, []⟩ (.int .u8 (IntKind.u8.wrap v5'2)) := RetC.of (fun Z => by kernel_rfl)
def vz23_10 (a : Int) (b : Int) (v5'2 : Int) : Prop := (IntKind.u8.wrap v5'2) = (mulB a b)
theorem pz23_10 (a : Int) (b : Int) (hK : Kf (.int .u8 (mulB a b)) ⟨0, []⟩) (v5'2 : Int) (h : vz23_10 a b v5'2) : SemL Try.prog w0 fp ρi 0 39 [cz23_n22, .ret] [(5, some (.int .i64 v5'2))] ⟨0, []⟩ (fnK Rq2Times 0 Kf) :=
  L_regE hGq2Times (rz23_10 a b v5'2 (fun e H => SemL Try.prog w0 fp ρi 0 39 [.ret] e H (fnK Rq2Times 0 Kf)) (L_retE (R := Rq2Times) (m := 0) (Kf := Kf) (fun _ _ h => h) (rtz23_0 a b v5'2) (ret_plain rfl (by kernel_rfl) (cg1 (fun (z1 : Int) => (.int .u8 z1 : SVal)) h) hK)))
def vz23_11 (a : Int) (b : Int) (v5'2 : Int) (v7 : Int) : Prop := ((decide (8 ≤ v7)) = true → (vz23_9 a b v5'2 v7)) ∧ ((decide (8 ≤ v7)) = false → (vz23_10 a b v5'2))
theorem pz23_11 (a : Int) (b : Int) (hK : Kf (.int .u8 (mulB a b)) ⟨0, []⟩) (v5'2 : Int) (v7 : Int) (h : vz23_11 a b v5'2 v7) : SemL Try.prog w0 fp ρi 0 39 [cz23_n14, (.seq cz23_n18 cz23_n19)] [(5, some (.int .i64 v5'2)), (7, some (.int .i64 v7)), (24, some (.bool (decide (8 ≤ v7))))] ⟨0, []⟩ (kkz23_4 w0 fp ρi Kf a b v5'2 v7) :=
  L_cond (q := (decide (8 ≤ v7))) (by kernel_rfl) (fun hq => (L_skip (lpk [5, 7] [] (L_seq (pz23_9 a b hK v5'2 v7 (h.1 hq)))))) (fun hq => (L_exit (lpk [5] [] (L_seq (pz23_10 a b hK v5'2 (h.2 hq))))))
theorem rz23_12 (a : Int) (b : Int) (v5'2 : Int) (v7 : Int) (Z : Env → Heap → Prop) (h : Z [(5, some (.int .i64 v5'2)), (7, some (.int .i64 v7)), (24, some (.bool (decide (8 ≤ v7))))] ⟨0, []⟩) : EvC Gq2Times cz23_n13 [(5, some (.int .i64 v5'2)), (7, some (.int .i64 v7))] ⟨0, []⟩ [5, 7, 24] [] Z := EvC.of (by kernel_rfl) h
def vz23_12 (a : Int) (b : Int) (v5'2 : Int) (v7 : Int) : Prop := vz23_11 a b v5'2 v7
theorem pz23_12 (a : Int) (b : Int) (hK : Kf (.int .u8 (mulB a b)) ⟨0, []⟩) (v5'2 : Int) (v7 : Int) (h : vz23_12 a b v5'2 v7) : SemL Try.prog w0 fp ρi 0 39 [cz23_n13, cz23_n14, (.seq cz23_n18 cz23_n19)] [(5, some (.int .i64 v5'2)), (7, some (.int .i64 v7))] ⟨0, []⟩ (kkz23_4 w0 fp ρi Kf a b v5'2 v7) :=
  L_regE hGq2Times (rz23_12 a b v5'2 v7 (fun e H => SemL Try.prog w0 fp ρi 0 39 [cz23_n14, (.seq cz23_n18 cz23_n19)] e H (kkz23_4 w0 fp ρi Kf a b v5'2 v7)) (pz23_11 a b hK v5'2 v7 h))
def vz23_13 (a : Int) (b : Int) (v5 : Int) : Prop := (7 ≤ (14 : Int) ∧ (14 : Int) ≤ 14 ∧ v5 = ((rV (14 - (14 : Int)).toNat (qV 8 (bv a) (bv b))).toNat : Nat)) ∧ (∀ (v5'2 : Int) (v7 : Int), (7 ≤ v7 ∧ v7 ≤ 14 ∧ v5'2 = ((rV (14 - v7).toNat (qV 8 (bv a) (bv b))).toNat : Nat)) → (vz23_12 a b v5'2 v7))
theorem pz23_13 (a : Int) (b : Int) (hK : Kf (.int .u8 (mulB a b)) ⟨0, []⟩) (v5 : Int) (h : vz23_13 a b v5) : SemL Try.prog w0 fp ρi 0 39 [cz23_n20] [(5, some (.int .i64 v5)), (7, some (.int .i64 14))] ⟨0, []⟩ (kkz23_3 w0 fp ρi Kf a b) :=
  L_loop (ivz23_4 a b) (muz23_4 a b) (liz23_4 a b) (ljz23_4 a b) ⟨(v5, 14), tau [], h.1, (sub_tau' [] [] rfl rfl (esc pbd (esc pbd envSub_nil)) heapSub_nil (by kernel_rfl) rfl)⟩ (fun s => match s with | (v5'2, v7) => fun hi => (L_seq (L_seq (pz23_12 a b hK v5'2 v7 (h.2 v5'2 v7 hi)))))
def vz23_14 (a : Int) (b : Int) (v5 : Int) : Prop := vz23_13 a b v5
theorem pz23_14 (a : Int) (b : Int) (hK : Kf (.int .u8 (mulB a b)) ⟨0, []⟩) (v5 : Int) (h : vz23_14 a b v5) : SemL Try.prog w0 fp ρi 0 39 [cz23_n21, (.seq cz23_n22 .ret)] [(5, some (.int .i64 v5)), (7, some (.int .i64 14))] ⟨0, []⟩ (fnK Rq2Times 0 Kf) :=
  L_block (pz23_13 a b hK v5 h)
theorem rz23_15 (a : Int) (b : Int) (v5 : Int) (Z : Env → Heap → Prop) (h : Z [(5, some (.int .i64 v5)), (7, some (.int .i64 14))] ⟨0, []⟩) : EvC Gq2Times cz23_n12 [(5, some (.int .i64 v5))] ⟨0, []⟩ [5, 7] [] Z := EvC.of (by kernel_rfl) h
def vz23_15 (a : Int) (b : Int) (v5 : Int) : Prop := vz23_14 a b v5
theorem pz23_15 (a : Int) (b : Int) (hK : Kf (.int .u8 (mulB a b)) ⟨0, []⟩) (v5 : Int) (h : vz23_15 a b v5) : SemL Try.prog w0 fp ρi 0 39 [cz23_n12, cz23_n21, (.seq cz23_n22 .ret)] [(5, some (.int .i64 v5))] ⟨0, []⟩ (fnK Rq2Times 0 Kf) :=
  L_regE hGq2Times (rz23_15 a b v5 (fun e H => SemL Try.prog w0 fp ρi 0 39 [cz23_n21, (.seq cz23_n22 .ret)] e H (fnK Rq2Times 0 Kf)) (pz23_14 a b hK v5 h))
def vz23_16 (a : Int) (b : Int) (v5 : Int) (v6 : Int) : Prop := ((decide (v6 < 8)) = true → (vz23_4 a b v5 v6)) ∧ ((decide (v6 < 8)) = false → (vz23_15 a b v5))
theorem pz23_16 (a : Int) (b : Int) (hK : Kf (.int .u8 (mulB a b)) ⟨0, []⟩) (v5 : Int) (v6 : Int) (h : vz23_16 a b v5 v6) : SemL Try.prog w0 fp ρi 0 39 [cz23_n4, (.seq cz23_n8 cz23_n9)] [(0, some (.int .u8 a)), (1, some (.int .u8 b)), (5, some (.int .i64 v5)), (6, some (.int .i64 v6)), (9, some (.bool (decide (v6 < 8))))] ⟨0, []⟩ (kkz23_1 w0 fp ρi Kf a b v5 v6) :=
  L_cond (q := (decide (v6 < 8))) (by kernel_rfl) (fun hq => (L_skip (lpk [0, 1, 5, 6] [] (L_seq (pz23_4 a b hK v5 v6 (h.1 hq)))))) (fun hq => (L_exit (lpk [5] [] (L_seq (L_seq (pz23_15 a b hK v5 (h.2 hq)))))))
theorem rz23_17 (a : Int) (b : Int) (v5 : Int) (v6 : Int) (Z : Env → Heap → Prop) (h : Z [(0, some (.int .u8 a)), (1, some (.int .u8 b)), (5, some (.int .i64 v5)), (6, some (.int .i64 v6)), (9, some (.bool (decide (v6 < 8))))] ⟨0, []⟩) : EvC Gq2Times cz23_n3 [(0, some (.int .u8 a)), (1, some (.int .u8 b)), (5, some (.int .i64 v5)), (6, some (.int .i64 v6))] ⟨0, []⟩ [0, 1, 5, 6, 9] [] Z := EvC.of (by kernel_rfl) h
def vz23_17 (a : Int) (b : Int) (v5 : Int) (v6 : Int) : Prop := vz23_16 a b v5 v6
theorem pz23_17 (a : Int) (b : Int) (hK : Kf (.int .u8 (mulB a b)) ⟨0, []⟩) (v5 : Int) (v6 : Int) (h : vz23_17 a b v5 v6) : SemL Try.prog w0 fp ρi 0 39 [cz23_n3, cz23_n4, (.seq cz23_n8 cz23_n9)] [(0, some (.int .u8 a)), (1, some (.int .u8 b)), (5, some (.int .i64 v5)), (6, some (.int .i64 v6))] ⟨0, []⟩ (kkz23_1 w0 fp ρi Kf a b v5 v6) :=
  L_regE hGq2Times (rz23_17 a b v5 v6 (fun e H => SemL Try.prog w0 fp ρi 0 39 [cz23_n4, (.seq cz23_n8 cz23_n9)] e H (kkz23_1 w0 fp ρi Kf a b v5 v6)) (pz23_16 a b hK v5 v6 h))
def vz23_18 (a : Int) (b : Int) : Prop := (0 ≤ (0 : Int) ∧ (0 : Int) ≤ 8 ∧ (0 : Int) = ((qV (0 : Int).toNat (bv a) (bv b)).toNat : Nat)) ∧ (∀ (v5 : Int) (v6 : Int), (0 ≤ v6 ∧ v6 ≤ 8 ∧ v5 = ((qV v6.toNat (bv a) (bv b)).toNat : Nat)) → (vz23_17 a b v5 v6))
theorem pz23_18 (a : Int) (b : Int) (hK : Kf (.int .u8 (mulB a b)) ⟨0, []⟩) (h : vz23_18 a b) : SemL Try.prog w0 fp ρi 0 39 [cz23_n10] [(0, some (.int .u8 a)), (1, some (.int .u8 b)), (5, some (.int .i64 0)), (6, some (.int .i64 0))] ⟨0, []⟩ (kkz23_0 w0 fp ρi Kf a b) :=
  L_loop (ivz23_1 a b) (muz23_1 a b) (liz23_1 a b) (ljz23_1 a b) ⟨(0, 0), tau [], h.1, (sub_tau' [] [] rfl rfl (esc pbd (esc pbd (esc pbd (esc pbd envSub_nil)))) heapSub_nil (by kernel_rfl) rfl)⟩ (fun s => match s with | (v5, v6) => fun hi => (L_seq (L_seq (pz23_17 a b hK v5 v6 (h.2 v5 v6 hi)))))
def vz23_19 (a : Int) (b : Int) : Prop := vz23_18 a b
theorem pz23_19 (a : Int) (b : Int) (hK : Kf (.int .u8 (mulB a b)) ⟨0, []⟩) (h : vz23_19 a b) : SemL Try.prog w0 fp ρi 0 39 [cz23_n11, (.seq (.seq cz23_n12 cz23_n21) (.seq cz23_n22 .ret))] [(0, some (.int .u8 a)), (1, some (.int .u8 b)), (5, some (.int .i64 0)), (6, some (.int .i64 0))] ⟨0, []⟩ (fnK Rq2Times 0 Kf) :=
  L_block (pz23_18 a b hK h)
theorem rz23_20 (a : Int) (b : Int) (Z : Env → Heap → Prop) (h : Z [(0, some (.int .u8 a)), (1, some (.int .u8 b)), (5, some (.int .i64 0)), (6, some (.int .i64 0))] ⟨0, []⟩) : EvC Gq2Times cz23_n2 [(0, some (.int .u8 a)), (1, some (.int .u8 b)), (5, some (.int .i64 0))] ⟨0, []⟩ [0, 1, 5, 6] [] Z := EvC.of (by kernel_rfl) h
def vz23_20 (a : Int) (b : Int) : Prop := vz23_19 a b
theorem pz23_20 (a : Int) (b : Int) (hK : Kf (.int .u8 (mulB a b)) ⟨0, []⟩) (h : vz23_20 a b) : SemL Try.prog w0 fp ρi 0 39 [cz23_n2, cz23_n11, (.seq (.seq cz23_n12 cz23_n21) (.seq cz23_n22 .ret))] [(0, some (.int .u8 a)), (1, some (.int .u8 b)), (5, some (.int .i64 0))] ⟨0, []⟩ (fnK Rq2Times 0 Kf) :=
  L_regE hGq2Times (rz23_20 a b (fun e H => SemL Try.prog w0 fp ρi 0 39 [cz23_n11, (.seq (.seq cz23_n12 cz23_n21) (.seq cz23_n22 .ret))] e H (fnK Rq2Times 0 Kf)) (pz23_19 a b hK h))
theorem rz23_21 (a : Int) (b : Int) (Z : Env → Heap → Prop) (h : Z [(0, some (.int .u8 a)), (1, some (.int .u8 b)), (5, some (.int .i64 0))] ⟨0, []⟩) : EvC Gq2Times cz23_n1 [(0, some (.int .u8 a)), (1, some (.int .u8 b))] ⟨0, []⟩ [0, 1, 5] [] Z := EvC.of (by kernel_rfl) h
def vz23_21 (a : Int) (b : Int) : Prop := vz23_20 a b
theorem pz23_21 (a : Int) (b : Int) (hK : Kf (.int .u8 (mulB a b)) ⟨0, []⟩) (h : vz23_21 a b) : SemL Try.prog w0 fp ρi 0 39 [cz23_n1, (.seq (.seq cz23_n2 cz23_n11) (.seq (.seq cz23_n12 cz23_n21) (.seq cz23_n22 .ret)))] [(0, some (.int .u8 a)), (1, some (.int .u8 b))] ⟨0, []⟩ (fnK Rq2Times 0 Kf) :=
  L_regE hGq2Times (rz23_21 a b (fun e H => SemL Try.prog w0 fp ρi 0 39 [(.seq (.seq cz23_n2 cz23_n11) (.seq (.seq cz23_n12 cz23_n21) (.seq cz23_n22 .ret)))] e H (fnK Rq2Times 0 Kf)) (L_seq (L_seq (pz23_20 a b hK h))))
theorem rz23_22 (a : Int) (b : Int) (Z : Env → Heap → Prop) (h : Z [(0, some (.int .u8 a)), (1, some (.int .u8 b))] ⟨0, []⟩) : EvC Gq2Times cz23_n0 [(0, some (.int .u8 a)), (1, some (.int .u8 b))] ⟨0, []⟩ [0, 1] [] Z := EvC.of (by kernel_rfl) h
def vz23_22 (a : Int) (b : Int) : Prop := vz23_21 a b
theorem pz23_22 (a : Int) (b : Int) (hK : Kf (.int .u8 (mulB a b)) ⟨0, []⟩) (h : vz23_22 a b) : SemL Try.prog w0 fp ρi 0 39 [cz23_n0, (.seq cz23_n1 (.seq (.seq cz23_n2 cz23_n11) (.seq (.seq cz23_n12 cz23_n21) (.seq cz23_n22 .ret))))] [(0, some (.int .u8 a)), (1, some (.int .u8 b))] ⟨0, []⟩ (fnK Rq2Times 0 Kf) :=
  L_regE hGq2Times (rz23_22 a b (fun e H => SemL Try.prog w0 fp ρi 0 39 [(.seq cz23_n1 (.seq (.seq cz23_n2 cz23_n11) (.seq (.seq cz23_n12 cz23_n21) (.seq cz23_n22 .ret))))] e H (fnK Rq2Times 0 Kf)) (L_seq (pz23_21 a b hK h)))
def vcq2Times (a : Int) (b : Int) : Prop := vz23_22 a b
theorem wq2Times (a : Int) (b : Int) (hK : Kf (.int .u8 (mulB a b)) ⟨0, []⟩) (h : vcq2Times a b) : SemL Try.prog w0 fp ρi 0 39 [cq2Times] [(0, some (.int .u8 a)), (1, some (.int .u8 b))] ⟨0, []⟩ (fnK Rq2Times 0 Kf) :=
  (L_seq (pz23_22 a b hK h))
end
theorem okq2Times (a : Int) (b : Int) (hpre : ((0 ≤ a ∧ a < 256) ∧ (0 ≤ b ∧ b < 256))) : vcq2Times a b := by
  unfold vcq2Times vz23_22 vz23_21 vz23_20 vz23_19 vz23_18 vz23_17 vz23_16 vz23_15 vz23_14 vz23_13 vz23_12 vz23_11 vz23_10 vz23_9 vz23_8 vz23_7 vz23_6 vz23_5 vz23_4 vz23_3 vz23_2 vz23_1 vz23_0
  obtain ⟨ha, hb⟩ := hpre
  refine ⟨⟨by omega, by omega, by simp [qV]⟩, fun v5 v6 hI => ⟨fun hlt => ?_, fun hge => ?_⟩⟩
  · have hlt := of_decide_eq_true hlt
    have w1 : IntKind.i64.wrap (v6 + 1) = v6 + 1 := by rw [wi64]; omega
    have s := q2_step1 ha hb ⟨hI.1, hlt⟩ hI.2.2
    rw [w1]
    refine ⟨hI.1, fun hc => ⟨hI.1, fun x hx => ⟨⟨by omega, by omega, by rw [hx]; exact s.1 hc⟩, by omega⟩⟩, fun hc => ⟨⟨by omega, by omega, s.2 hc⟩, by omega⟩⟩
  · have hge := of_decide_eq_false hge
    have e : v6 = 8 := by omega
    subst e
    refine ⟨⟨by omega, by omega, hI.2.2⟩, fun x v7 hJ => ⟨fun hlt => ?_, fun hge => ?_⟩⟩
    · have hlt := of_decide_eq_true hlt
      have w1 : IntKind.i64.wrap (v7 - 1) = v7 - 1 := by rw [wi64]; omega
      have w2 : IntKind.i64.wrap (v7 - 8) = v7 - 8 := by rw [wi64]; omega
      have s := q2_step2 ⟨hlt, hJ.2.1⟩ hJ.2.2
      rw [w2] at s
      rw [w1, w2]
      refine ⟨by omega, fun hc => ⟨by omega, fun y hy => ⟨⟨by omega, by omega, by rw [hy]; exact s.1 hc⟩, by omega⟩⟩, fun hc => ⟨⟨by omega, by omega, s.2 hc⟩, by omega⟩⟩
    · have hge := of_decide_eq_false hge
      have e : v7 = 7 := by omega
      subst e
      exact q2_end ha hb hJ.2.2
theorem sq2Times : Sound Try.prog 23 (pureS Pq2Times) := by
  refine fn_soundA cq2Times_fits ?_
  intro args H K h
  obtain ⟨pre, v, hP, hpre, rfl, hK⟩ := pureS_inv h
  unfold Pq2Times at hP
  split at hP
  · cases hP
    exact ⟨rfl, fun w0 fp ρi => wq2Times _ _ hK (okq2Times _ _ hpre)⟩
  · cases hP
def Pq2Sub : PSpec := fun args => match args with
  | [.int .u8 x] => some ((0 ≤ x ∧ x < 256), .int .u8 (subB x))
  | _ => none
def pcq2Sub : PCon := ⟨25, Pq2Sub⟩
def cz25_n0 : ACode := .reg (.op (some 2) (.mov (.cn (.int .u8 0))) .nil)
def cz25_n1 : ACode := .reg (.op (some 3) (.mov (.cn (.int .i64 0))) .nil)
def cz25_n2 : ACode := .reg (.op (some 4) (.mov (.cn (.int .i64 1))) .nil)
def cz25_n3 : ACode := .reg (.op (some 8) (.mov (.tm 4)) (.op (some 9) (.bin .lss (.tm 8) (.cn (.int .i64 256))) .nil))
def cz25_n4 : ACode := .cond (.tm 9) .skip (.exit 0)
def cz25_n5 : ACode := .reg (.op (some 12) (.mov (.tm 0)) (.op (some 13) (.mov (.tm 4)) (.op (some 14) (.conv .u8 (.tm 13)) (.op (some 15) (.call 23 [(.tm 12), (.tm 14)]) (.op (some 16) (.bin .eql (.tm 15) (.cn (.int .u8 1))) .nil)))))
def cz25_n6 : ACode := .reg (.op (some 17) (.mov (.tm 4)) (.op (some 3) (.mov (.tm 17)) .nil))
def cz25_n7 : ACode := .cond (.tm 16) cz25_n6 .skip
def cz25_n8 : ACode := .block 1 (.seq cz25_n5 cz25_n7)
def cz25_n9 : ACode := .reg (.op (some 10) (.mov (.tm 4)) (.op (some 11) (.bin .add (.tm 10) (.cn (.int .i64 1))) (.op (some 4) (.mov (.tm 11)) .nil)))
def cz25_n10 : ACode := .loop (.seq (.seq cz25_n3 cz25_n4) (.seq cz25_n8 cz25_n9))
def cz25_n11 : ACode := .block 0 cz25_n10
def cz25_n12 : ACode := .reg (.op (some 5) (.mov (.cn (.int .i64 0))) .nil)
def cz25_n13 : ACode := .reg (.op (some 6) (.mov (.cn (.int .i64 0))) .nil)
def cz25_n14 : ACode := .reg (.op (some 18) (.mov (.tm 6)) (.op (some 19) (.bin .lss (.tm 18) (.cn (.int .i64 8))) .nil))
def cz25_n15 : ACode := .cond (.tm 19) .skip (.exit 2)
def cz25_n16i : Items := .op (some 22) (.mov (.tm 3)) (.op (some 23) (.mov (.tm 6)) (.op (some 24) (.bin .shr (.tm 22) (.tm 23)) (.op (some 25) (.mov (.tm 3)) (.op (some 26) (.mov (.tm 6)) (.op (some 27) (.bin .add (.tm 26) (.cn (.int .i64 4))) (.op (some 28) (.bin .rem (.tm 27) (.cn (.int .i64 8))) (.op (some 29) (.bin .shr (.tm 25) (.tm 28)) (.op (some 30) (.bin .xor (.tm 24) (.tm 29)) (.op (some 31) (.mov (.tm 3)) (.op (some 32) (.mov (.tm 6)) (.op (some 33) (.bin .add (.tm 32) (.cn (.int .i64 5))) (.op (some 34) (.bin .rem (.tm 33) (.cn (.int .i64 8))) (.op (some 35) (.bin .shr (.tm 31) (.tm 34)) (.op (some 36) (.bin .xor (.tm 30) (.tm 35)) (.op (some 37) (.mov (.tm 3)) (.op (some 38) (.mov (.tm 6)) (.op (some 39) (.bin .add (.tm 38) (.cn (.int .i64 6))) (.op (some 40) (.bin .rem (.tm 39) (.cn (.int .i64 8))) (.op (some 41) (.bin .shr (.tm 37) (.tm 40)) (.op (some 42) (.bin .xor (.tm 36) (.tm 41)) (.op (some 43) (.mov (.tm 3)) (.op (some 44) (.mov (.tm 6)) (.op (some 45) (.bin .add (.tm 44) (.cn (.int .i64 7))) (.op (some 46) (.bin .rem (.tm 45) (.cn (.int .i64 8))) (.op (some 47) (.bin .shr (.tm 43) (.tm 46)) (.op (some 48) (.bin .xor (.tm 42) (.tm 47)) (.op (some 49) (.mov (.tm 6)) (.op (some 50) (.bin .shr (.cn (.int .i64 99)) (.tm 49)) (.op (some 51) (.bin .xor (.tm 48) (.tm 50)) (.op (some 7) (.mov (.tm 51)) .nil))))))))))))))))))))))))))))))
def cz25_n16 : ACode := .regQ cz25_n16i
def cz25_n17 : ACode := .reg (.op (some 52) (.mov (.tm 5)) (.op (some 53) (.mov (.tm 7)) (.op (some 54) (.bin .and (.tm 53) (.cn (.int .i64 1))) (.op (some 55) (.mov (.tm 6)) (.op (some 56) (.bin .shl (.tm 54) (.tm 55)) (.op (some 57) (.bin .add (.tm 52) (.tm 56)) (.op (some 5) (.mov (.tm 57)) .nil)))))))
def cz25_n18 : ACode := .block 3 (.seq cz25_n16 cz25_n17)
def cz25_n19 : ACode := .reg (.op (some 20) (.mov (.tm 6)) (.op (some 21) (.bin .add (.tm 20) (.cn (.int .i64 1))) (.op (some 6) (.mov (.tm 21)) .nil)))
def cz25_n20 : ACode := .loop (.seq (.seq cz25_n14 cz25_n15) (.seq cz25_n18 cz25_n19))
def cz25_n21 : ACode := .block 2 cz25_n20
def cz25_n22 : ACode := .reg (.op (some 58) (.mov (.tm 5)) (.op (some 59) (.conv .u8 (.tm 58)) (.op (some 2) (.mov (.tm 59)) .nil)))
def cq2Sub : ACode := (.seq cz25_n0 (.seq cz25_n1 (.seq (.seq cz25_n2 cz25_n11) (.seq cz25_n12 (.seq (.seq cz25_n13 cz25_n21) (.seq cz25_n22 .ret))))))
def Rq2Sub : Res := .one (.tm 2)
theorem cq2Sub_fits : fnFits Try.prog 25 1 60 cq2Sub Rq2Sub = true := by kernel_rfl
def Gq2Sub : Calls' := withP [pcq2Times] []
theorem hGq2Sub : CallOk Try.prog Gq2Sub := withP_ok ⟨sq2Times, trivial⟩ trivial
section
variable {w0 : World} {fp : Nat → Nat → Prop} {ρi : Rho} {Kf : SVal → Heap → Prop}
def kkz25_0 (w0 : World) (fp : Nat → Nat → Prop) (ρi : Rho) (Kf : SVal → Heap → Prop) (x : Int) : Cont := blockK 0 (fun e H => SemL Try.prog w0 fp ρi 0 60 [(.seq cz25_n12 (.seq (.seq cz25_n13 cz25_n21) (.seq cz25_n22 .ret)))] e H (fnK Rq2Sub 0 Kf)) (fnK Rq2Sub 0 Kf)
def ivz25_1 (x : Int) : Int × Int → Prop := fun s => match s with | (v3, v4) => 1 ≤ v4 ∧ v4 ≤ 256 ∧ v3 = lastI x v4
def muz25_1 (x : Int) : Int × Int → Nat := fun s => match s with | (v3, v4) => ((256 - v4).toNat)
def liz25_1 (x : Int) : Int × Int → Env := fun s => match s with | (v3, v4) => [(0, some (.int .u8 x)), (3, some (.int .i64 v3)), (4, some (.int .i64 v4))]
def ljz25_1 (x : Int) : Int × Int → Heap := fun s => match s with | (v3, v4) => ⟨0, []⟩
def kkz25_1 (w0 : World) (fp : Nat → Nat → Prop) (ρi : Rho) (Kf : SVal → Heap → Prop) (x : Int) (v3 : Int) (v4 : Int) : Cont := loopK 0 (ivz25_1 x) (muz25_1 x) (liz25_1 x) (ljz25_1 x) (v3, v4) (kkz25_0 w0 fp ρi Kf x)
theorem rz25_0 (x : Int) (v3'1 : Int) (v4 : Int) (v3 : Int) (Z : Env → Heap → Prop) (h : Z [(0, some (.int .u8 x)), (3, some (.int .i64 v3'1)), (4, some (.int .i64 (IntKind.i64.wrap (v4 + 1))))] ⟨0, []⟩) : EvC Gq2Sub cz25_n9 [(0, some (.int .u8 x)), (3, some (.int .i64 v3'1)), (4, some (.int .i64 v4))] ⟨0, []⟩ [0, 3, 4] [] Z := EvC.of (by kernel_rfl) h
def vz25_0 (x : Int) (v3'1 : Int) (v4 : Int) (v3 : Int) : Prop := (1 ≤ (IntKind.i64.wrap (v4 + 1)) ∧ (IntKind.i64.wrap (v4 + 1)) ≤ 256 ∧ v3'1 = lastI x (IntKind.i64.wrap (v4 + 1))) ∧ (((256 - (IntKind.i64.wrap (v4 + 1))).toNat) < ((256 - v4).toNat))
theorem pz25_0 (x : Int) (hK : Kf (.int .u8 (subB x)) ⟨0, []⟩) (v3'1 : Int) (v4 : Int) (v3 : Int) (h : vz25_0 x v3'1 v4 v3) : SemL Try.prog w0 fp ρi 0 60 [cz25_n9] [(0, some (.int .u8 x)), (3, some (.int .i64 v3'1)), (4, some (.int .i64 v4))] ⟨0, []⟩ (kkz25_1 w0 fp ρi Kf x v3 v4) :=
  L_regE hGq2Sub (rz25_0 x v3'1 v4 v3 (fun e H => SemL Try.prog w0 fp ρi 0 60 [] e H (kkz25_1 w0 fp ρi Kf x v3 v4)) (L_nil (loop_back (x' := (v3'1, (IntKind.i64.wrap (v4 + 1)))) (τ := tau []) h.1 h.2 (sub_tau' [] [] rfl rfl (esc pbd (esc pbd (esc pbd envSub_nil))) heapSub_nil (by kernel_rfl) rfl))))
def kkz25_2 (w0 : World) (fp : Nat → Nat → Prop) (ρi : Rho) (Kf : SVal → Heap → Prop) (x : Int) (v3 : Int) (v4 : Int) : Cont := blockK 1 (fun e H => SemL Try.prog w0 fp ρi 0 60 [cz25_n9] e H (kkz25_1 w0 fp ρi Kf x v3 v4)) (kkz25_1 w0 fp ρi Kf x v3 v4)
theorem rz25_1 (x : Int) (v4 : Int) (v3 : Int) (Z : Env → Heap → Prop) (h : Z [(0, some (.int .u8 x)), (3, some (.int .i64 v4)), (4, some (.int .i64 v4))] ⟨0, []⟩) : EvC Gq2Sub cz25_n6 [(0, some (.int .u8 x)), (4, some (.int .i64 v4))] ⟨0, []⟩ [0, 3, 4] [] Z := EvC.of (by kernel_rfl) h
def vz25_1 (x : Int) (v4 : Int) (v3 : Int) : Prop := vz25_0 x v4 v4 v3
theorem pz25_1 (x : Int) (hK : Kf (.int .u8 (subB x)) ⟨0, []⟩) (v4 : Int) (v3 : Int) (h : vz25_1 x v4 v3) : SemL Try.prog w0 fp ρi 0 60 [cz25_n6] [(0, some (.int .u8 x)), (4, some (.int .i64 v4))] ⟨0, []⟩ (kkz25_2 w0 fp ρi Kf x v3 v4) :=
  L_regE hGq2Sub (rz25_1 x v4 v3 (fun e H => SemL Try.prog w0 fp ρi 0 60 [] e H (kkz25_2 w0 fp ρi Kf x v3 v4)) (L_nil (pz25_0 x hK v4 v4 v3 h)))
def vz25_2 (x : Int) (v3 : Int) (v4 : Int) : Prop := (((mulB x (IntKind.u8.wrap v4)) == 1) = true → (vz25_1 x v4 v3)) ∧ (((mulB x (IntKind.u8.wrap v4)) == 1) = false → (vz25_0 x v3 v4 v3))
theorem pz25_2 (x : Int) (hK : Kf (.int .u8 (subB x)) ⟨0, []⟩) (v3 : Int) (v4 : Int) (h : vz25_2 x v3 v4) : SemL Try.prog w0 fp ρi 0 60 [cz25_n7] [(0, some (.int .u8 x)), (3, some (.int .i64 v3)), (4, some (.int .i64 v4)), (16, some (.bool ((mulB x (IntKind.u8.wrap v4)) == 1)))] ⟨0, []⟩ (kkz25_2 w0 fp ρi Kf x v3 v4) :=
  L_cond (q := ((mulB x (IntKind.u8.wrap v4)) == 1)) (by kernel_rfl) (fun hq => (lpk [0, 4] [] (pz25_1 x hK v4 v3 (h.1 hq)))) (fun hq => (L_skip (L_nil (lpk [0, 3, 4] [] (pz25_0 x hK v3 v4 v3 (h.2 hq))))))
theorem rz25_3 (x : Int) (v3 : Int) (v4 : Int) (Z : Env → Heap → Prop) (h : (((0 ≤ x ∧ x < 256) ∧ (0 ≤ (IntKind.u8.wrap v4) ∧ (IntKind.u8.wrap v4) < 256))) ∧ Z [(0, some (.int .u8 x)), (3, some (.int .i64 v3)), (4, some (.int .i64 v4)), (16, some (.bool ((mulB x (IntKind.u8.wrap v4)) == 1)))] ⟨0, []⟩) : EvC Gq2Sub cz25_n5 [(0, some (.int .u8 x)), (3, some (.int .i64 v3)), (4, some (.int .i64 v4))] ⟨0, []⟩ [0, 3, 4, 16] [] Z := EvC.of (by kernel_rfl) h
def vz25_3 (x : Int) (v3 : Int) (v4 : Int) : Prop := (((0 ≤ x ∧ x < 256) ∧ (0 ≤ (IntKind.u8.wrap v4) ∧ (IntKind.u8.wrap v4) < 256))) ∧ (vz25_2 x v3 v4)
theorem pz25_3 (x : Int) (hK : Kf (.int .u8 (subB x)) ⟨0, []⟩) (v3 : Int) (v4 : Int) (h : vz25_3 x v3 v4) : SemL Try.prog w0 fp ρi 0 60 [cz25_n5, cz25_n7] [(0, some (.int .u8 x)), (3, some (.int .i64 v3)), (4, some (.int .i64 v4))] ⟨0, []⟩ (kkz25_2 w0 fp ρi Kf x v3 v4) :=
  L_regE hGq2Sub (rz25_3 x v3 v4 (fun e H => SemL Try.prog w0 fp ρi 0 60 [cz25_n7] e H (kkz25_2 w0 fp ρi Kf x v3 v4)) ⟨h.1, (pz25_2 x hK v3 v4 h.2)⟩)
def vz25_4 (x : Int) (v3 : Int) (v4 : Int) : Prop := vz25_3 x v3 v4
theorem pz25_4 (x : Int) (hK : Kf (.int .u8 (subB x)) ⟨0, []⟩) (v3 : Int) (v4 : Int) (h : vz25_4 x v3 v4) : SemL Try.prog w0 fp ρi 0 60 [cz25_n8, cz25_n9] [(0, some (.int .u8 x)), (3, some (.int .i64 v3)), (4, some (.int .i64 v4))] ⟨0, []⟩ (kkz25_1 w0 fp ρi Kf x v3 v4) :=
  L_block (L_seq (pz25_3 x hK v3 v4 h))
def kkz25_3 (w0 : World) (fp : Nat → Nat → Prop) (ρi : Rho) (Kf : SVal → Heap → Prop) (x : Int) : Cont := blockK 2 (fun e H => SemL Try.prog w0 fp ρi 0 60 [(.seq cz25_n22 .ret)] e H (fnK Rq2Sub 0 Kf)) (fnK Rq2Sub 0 Kf)
def ivz25_4 (x : Int) (v3 : Int) : Int × Int → Prop := fun s => match s with | (v5, v6) => 0 ≤ v6 ∧ v6 ≤ 8 ∧ v5 = sumS (invI x) v6.toNat
def muz25_4 (x : Int) (v3 : Int) : Int × Int → Nat := fun s => match s with | (v5, v6) => ((8 - v6).toNat)
def liz25_4 (x : Int) (v3 : Int) : Int × Int → Env := fun s => match s with | (v5, v6) => [(3, some (.int .i64 v3)), (5, some (.int .i64 v5)), (6, some (.int .i64 v6))]
def ljz25_4 (x : Int) (v3 : Int) : Int × Int → Heap := fun s => match s with | (v5, v6) => ⟨0, []⟩
def kkz25_4 (w0 : World) (fp : Nat → Nat → Prop) (ρi : Rho) (Kf : SVal → Heap → Prop) (x : Int) (v3 : Int) (v5 : Int) (v6 : Int) : Cont := loopK 0 (ivz25_4 x v3) (muz25_4 x v3) (liz25_4 x v3) (ljz25_4 x v3) (v5, v6) (kkz25_3 w0 fp ρi Kf x)
theorem rz25_5 (x : Int) (v3 : Int) (v5'1 : Int) (v6 : Int) (v5 : Int) (Z : Env → Heap → Prop) (h : Z [(3, some (.int .i64 v3)), (5, some (.int .i64 v5'1)), (6, some (.int .i64 (IntKind.i64.wrap (v6 + 1))))] ⟨0, []⟩) : EvC Gq2Sub cz25_n19 [(3, some (.int .i64 v3)), (5, some (.int .i64 v5'1)), (6, some (.int .i64 v6))] ⟨0, []⟩ [3, 5, 6] [] Z := EvC.of (by kernel_rfl) h
def vz25_5 (x : Int) (v3 : Int) (v5'1 : Int) (v6 : Int) (v5 : Int) : Prop := (0 ≤ (IntKind.i64.wrap (v6 + 1)) ∧ (IntKind.i64.wrap (v6 + 1)) ≤ 8 ∧ v5'1 = sumS (invI x) (IntKind.i64.wrap (v6 + 1)).toNat) ∧ (((8 - (IntKind.i64.wrap (v6 + 1))).toNat) < ((8 - v6).toNat))
theorem pz25_5 (x : Int) (hK : Kf (.int .u8 (subB x)) ⟨0, []⟩) (v3 : Int) (v5'1 : Int) (v6 : Int) (v5 : Int) (h : vz25_5 x v3 v5'1 v6 v5) : SemL Try.prog w0 fp ρi 0 60 [cz25_n19] [(3, some (.int .i64 v3)), (5, some (.int .i64 v5'1)), (6, some (.int .i64 v6))] ⟨0, []⟩ (kkz25_4 w0 fp ρi Kf x v3 v5 v6) :=
  L_regE hGq2Sub (rz25_5 x v3 v5'1 v6 v5 (fun e H => SemL Try.prog w0 fp ρi 0 60 [] e H (kkz25_4 w0 fp ρi Kf x v3 v5 v6)) (L_nil (loop_back (x' := (v5'1, (IntKind.i64.wrap (v6 + 1)))) (τ := tau []) h.1 h.2 (sub_tau' [] [] rfl rfl (esc pbd (esc pbd (esc pbd envSub_nil))) heapSub_nil (by kernel_rfl) rfl))))
def kkz25_5 (w0 : World) (fp : Nat → Nat → Prop) (ρi : Rho) (Kf : SVal → Heap → Prop) (x : Int) (v3 : Int) (v5 : Int) (v6 : Int) : Cont := blockK 3 (fun e H => SemL Try.prog w0 fp ρi 0 60 [cz25_n19] e H (kkz25_4 w0 fp ρi Kf x v3 v5 v6)) (kkz25_4 w0 fp ρi Kf x v3 v5 v6)
theorem rz25_6 (x : Int) (v3 : Int) (v5 : Int) (v6 : Int) (v7 : Int) (Z : Env → Heap → Prop) (h : ((0 ≤ v6)) ∧ Z [(3, some (.int .i64 v3)), (5, some (.int .i64 (IntKind.i64.wrap (v5 + (ishl .i64 (iand .i64 v7 1) v6))))), (6, some (.int .i64 v6))] ⟨0, []⟩) : EvC Gq2Sub cz25_n17 [(3, some (.int .i64 v3)), (5, some (.int .i64 v5)), (6, some (.int .i64 v6)), (7, some (.int .i64 v7))] ⟨0, []⟩ [3, 5, 6] [] Z := EvC.of (by kernel_rfl) h
def vz25_6 (x : Int) (v3 : Int) (v5 : Int) (v6 : Int) (v7 : Int) : Prop := ((0 ≤ v6)) ∧ (∀ v5'1 : Int, v5'1 = ((v5 + (ishl .i64 (iand .i64 v7 1) v6)) + 9223372036854775808) % 18446744073709551616 - 9223372036854775808 → vz25_5 x v3 v5'1 v6 v5)
theorem pz25_6 (x : Int) (hK : Kf (.int .u8 (subB x)) ⟨0, []⟩) (v3 : Int) (v5 : Int) (v6 : Int) (v7 : Int) (h : vz25_6 x v3 v5 v6 v7) : SemL Try.prog w0 fp ρi 0 60 [cz25_n17] [(3, some (.int .i64 v3)), (5, some (.int .i64 v5)), (6, some (.int .i64 v6)), (7, some (.int .i64 v7))] ⟨0, []⟩ (kkz25_5 w0 fp ρi Kf x v3 v5 v6) :=
  L_regE hGq2Sub (rz25_6 x v3 v5 v6 v7 (fun e H => SemL Try.prog w0 fp ρi 0 60 [] e H (kkz25_5 w0 fp ρi Kf x v3 v5 v6)) ⟨h.1, (L_nil (pz25_5 x hK v3 (IntKind.i64.wrap (v5 + (ishl .i64 (iand .i64 v7 1) v6))) v6 v5 (h.2 (IntKind.i64.wrap (v5 + (ishl .i64 (iand .i64 v7 1) v6))) (wi64 _))))⟩)
theorem rz25_7 (x : Int) (v3 : Int) (v5 : Int) (v6 : Int) (Z : Env → Heap → Prop) (h : ((0 ≤ v6)) ∧ (((8 : Int) ≠ 0)) ∧ ((0 ≤ (Int.tmod (IntKind.i64.wrap (v6 + 4)) 8))) ∧ (((8 : Int) ≠ 0)) ∧ ((0 ≤ (Int.tmod (IntKind.i64.wrap (v6 + 5)) 8))) ∧ (((8 : Int) ≠ 0)) ∧ ((0 ≤ (Int.tmod (IntKind.i64.wrap (v6 + 6)) 8))) ∧ (((8 : Int) ≠ 0)) ∧ ((0 ≤ (Int.tmod (IntKind.i64.wrap (v6 + 7)) 8))) ∧ ((0 ≤ v6)) ∧ Z [(3, some (.int .i64 v3)), (5, some (.int .i64 v5)), (6, some (.int .i64 v6)), (7, some (.int .i64 (ixor .i64 (ixor .i64 (ixor .i64 (ixor .i64 (ixor .i64 (ishr .i64 v3 v6) (ishr .i64 v3 (Int.tmod (IntKind.i64.wrap (v6 + 4)) 8))) (ishr .i64 v3 (Int.tmod (IntKind.i64.wrap (v6 + 5)) 8))) (ishr .i64 v3 (Int.tmod (IntKind.i64.wrap (v6 + 6)) 8))) (ishr .i64 v3 (Int.tmod (IntKind.i64.wrap (v6 + 7)) 8))) (ishr .i64 99 v6))))] ⟨0, []⟩) : EvQC Gq2Sub cz25_n16i [] [(3, some (.int .i64 v3)), (5, some (.int .i64 v5)), (6, some (.int .i64 v6))] ⟨0, []⟩ [3, 5, 6, 7] [] Z := EvQC.of (by kernel_rfl) h
def vz25_7 (x : Int) (v3 : Int) (v5 : Int) (v6 : Int) : Prop := ((0 ≤ v6)) ∧ (((0 ≤ (Int.tmod (IntKind.i64.wrap (v6 + 4)) 8))) ∧ (((0 ≤ (Int.tmod (IntKind.i64.wrap (v6 + 5)) 8))) ∧ (((0 ≤ (Int.tmod (IntKind.i64.wrap (v6 + 6)) 8))) ∧ (((0 ≤ (Int.tmod (IntKind.i64.wrap (v6 + 7)) 8))) ∧ (((0 ≤ v6)) ∧ (∀ v7 : Int, v7 = (ixor .i64 (ixor .i64 (ixor .i64 (ixor .i64 (ixor .i64 (ishr .i64 v3 v6) (ishr .i64 v3 (Int.tmod (IntKind.i64.wrap (v6 + 4)) 8))) (ishr .i64 v3 (Int.tmod (IntKind.i64.wrap (v6 + 5)) 8))) (ishr .i64 v3 (Int.tmod (IntKind.i64.wrap (v6 + 6)) 8))) (ishr .i64 v3 (Int.tmod (IntKind.i64.wrap (v6 + 7)) 8))) (ishr .i64 99 v6)) → vz25_6 x v3 v5 v6 v7))))))
theorem pz25_7 (x : Int) (hK : Kf (.int .u8 (subB x)) ⟨0, []⟩) (v3 : Int) (v5 : Int) (v6 : Int) (h : vz25_7 x v3 v5 v6) : SemL Try.prog w0 fp ρi 0 60 [cz25_n16, cz25_n17] [(3, some (.int .i64 v3)), (5, some (.int .i64 v5)), (6, some (.int .i64 v6))] ⟨0, []⟩ (kkz25_5 w0 fp ρi Kf x v3 v5 v6) :=
  L_regQE hGq2Sub (its := cz25_n16i) (rz25_7 x v3 v5 v6 (fun e H => SemL Try.prog w0 fp ρi 0 60 [cz25_n17] e H (kkz25_5 w0 fp ρi Kf x v3 v5 v6)) ⟨h.1, ⟨(by decide), ⟨h.2.1, ⟨(by decide), ⟨h.2.2.1, ⟨(by decide), ⟨h.2.2.2.1, ⟨(by decide), ⟨h.2.2.2.2.1, ⟨h.2.2.2.2.2.1, (pz25_6 x hK v3 v5 v6 (ixor .i64 (ixor .i64 (ixor .i64 (ixor .i64 (ixor .i64 (ishr .i64 v3 v6) (ishr .i64 v3 (Int.tmod (IntKind.i64.wrap (v6 + 4)) 8))) (ishr .i64 v3 (Int.tmod (IntKind.i64.wrap (v6 + 5)) 8))) (ishr .i64 v3 (Int.tmod (IntKind.i64.wrap (v6 + 6)) 8))) (ishr .i64 v3 (Int.tmod (IntKind.i64.wrap (v6 + 7)) 8))) (ishr .i64 99 v6)) (h.2.2.2.2.2.2 (ixor .i64 (ixor .i64 (ixor .i64 (ixor .i64 (ixor .i64 (ishr .i64 v3 v6) (ishr .i64 v3 (Int.tmod (IntKind.i64.wrap (v6 + 4)) 8))) (ishr .i64 v3 (Int.tmod (IntKind.i64.wrap (v6 + 5)) 8))) (ishr .i64 v3 (Int.tmod (IntKind.i64.wrap (v6 + 6)) 8))) (ishr .i64 v3 (Int.tmod (IntKind.i64.wrap (v6 + 7)) 8))) (ishr .i64 99 v6)) rfl))⟩⟩⟩⟩⟩⟩⟩⟩⟩⟩)
def vz25_8 (x : Int) (v3 : Int) (v5 : Int) (v6 : Int) : Prop := vz25_7 x v3 v5 v6
theorem pz25_8 (x : Int) (hK : Kf (.int .u8 (subB x)) ⟨0, []⟩) (v3 : Int) (v5 : Int) (v6 : Int) (h : vz25_8 x v3 v5 v6) : SemL Try.prog w0 fp ρi 0 60 [cz25_n18, cz25_n19] [(3, some (.int .i64 v3)), (5, some (.int .i64 v5)), (6, some (.int .i64 v6))] ⟨0, []⟩ (kkz25_4 w0 fp ρi Kf x v3 v5 v6) :=
  L_block (L_seq (pz25_7 x hK v3 v5 v6 h))
theorem rz25_9 (x : Int) (v5 : Int) (Z : Env → Heap → Prop) (h : Z [(2, some (.int .u8 (IntKind.u8.wrap v5)))] ⟨0, []⟩) : EvC Gq2Sub cz25_n22 [(5, some (.int .i64 v5))] ⟨0, []⟩ [2] [] Z := EvC.of (by kernel_rfl) h
theorem rtz25_0 (x : Int) (v5 : Int) : RetC Rq2Sub [(2, some (.int .u8 (IntKind.u8.wrap v5)))] ⟨0, []⟩ (.int .u8 (IntKind.u8.wrap v5)) := RetC.of (fun Z => by kernel_rfl)
def vz25_9 (x : Int) (v5 : Int) : Prop := (IntKind.u8.wrap v5) = (subB x)
theorem pz25_9 (x : Int) (hK : Kf (.int .u8 (subB x)) ⟨0, []⟩) (v5 : Int) (h : vz25_9 x v5) : SemL Try.prog w0 fp ρi 0 60 [cz25_n22, .ret] [(5, some (.int .i64 v5))] ⟨0, []⟩ (fnK Rq2Sub 0 Kf) :=
  L_regE hGq2Sub (rz25_9 x v5 (fun e H => SemL Try.prog w0 fp ρi 0 60 [.ret] e H (fnK Rq2Sub 0 Kf)) (L_retE (R := Rq2Sub) (m := 0) (Kf := Kf) (fun _ _ h => h) (rtz25_0 x v5) (ret_plain rfl (by kernel_rfl) (cg1 (fun (z1 : Int) => (.int .u8 z1 : SVal)) h) hK)))
def vz25_10 (x : Int) (v3 : Int) (v5 : Int) (v6 : Int) : Prop := ((decide (v6 < 8)) = true → (vz25_8 x v3 v5 v6)) ∧ ((decide (v6 < 8)) = false → (vz25_9 x v5))
theorem pz25_10 (x : Int) (hK : Kf (.int .u8 (subB x)) ⟨0, []⟩) (v3 : Int) (v5 : Int) (v6 : Int) (h : vz25_10 x v3 v5 v6) : SemL Try.prog w0 fp ρi 0 60 [cz25_n15, (.seq cz25_n18 cz25_n19)] [(3, some (.int .i64 v3)), (5, some (.int .i64 v5)), (6, some (.int .i64 v6)), (19, some (.bool (decide (v6 < 8))))] ⟨0, []⟩ (kkz25_4 w0 fp ρi Kf x v3 v5 v6) :=
  L_cond (q := (decide (v6 < 8))) (by kernel_rfl) (fun hq => (L_skip (lpk [3, 5, 6] [] (L_seq (pz25_8 x hK v3 v5 v6 (h.1 hq)))))) (fun hq => (L_exit (lpk [5] [] (L_seq (pz25_9 x hK v5 (h.2 hq))))))
theorem rz25_11 (x : Int) (v3 : Int) (v5 : Int) (v6 : Int) (Z : Env → Heap → Prop) (h : Z [(3, some (.int .i64 v3)), (5, some (.int .i64 v5)), (6, some (.int .i64 v6)), (19, some (.bool (decide (v6 < 8))))] ⟨0, []⟩) : EvC Gq2Sub cz25_n14 [(3, some (.int .i64 v3)), (5, some (.int .i64 v5)), (6, some (.int .i64 v6))] ⟨0, []⟩ [3, 5, 6, 19] [] Z := EvC.of (by kernel_rfl) h
def vz25_11 (x : Int) (v3 : Int) (v5 : Int) (v6 : Int) : Prop := vz25_10 x v3 v5 v6
theorem pz25_11 (x : Int) (hK : Kf (.int .u8 (subB x)) ⟨0, []⟩) (v3 : Int) (v5 : Int) (v6 : Int) (h : vz25_11 x v3 v5 v6) : SemL Try.prog w0 fp ρi 0 60 [cz25_n14, cz25_n15, (.seq cz25_n18 cz25_n19)] [(3, some (.int .i64 v3)), (5, some (.int .i64 v5)), (6, some (.int .i64 v6))] ⟨0, []⟩ (kkz25_4 w0 fp ρi Kf x v3 v5 v6) :=
  L_regE hGq2Sub (rz25_11 x v3 v5 v6 (fun e H => SemL Try.prog w0 fp ρi 0 60 [cz25_n15, (.seq cz25_n18 cz25_n19)] e H (kkz25_4 w0 fp ρi Kf x v3 v5 v6)) (pz25_10 x hK v3 v5 v6 h))
def vz25_12 (x : Int) (v3 : Int) : Prop := (0 ≤ (0 : Int) ∧ (0 : Int) ≤ 8 ∧ (0 : Int) = sumS (invI x) (0 : Int).toNat) ∧ (∀ (v5 : Int) (v6 : Int), (0 ≤ v6 ∧ v6 ≤ 8 ∧ v5 = sumS (invI x) v6.toNat) → (vz25_11 x v3 v5 v6))
theorem pz25_12 (x : Int) (hK : Kf (.int .u8 (subB x)) ⟨0, []⟩) (v3 : Int) (h : vz25_12 x v3) : SemL Try.prog w0 fp ρi 0 60 [cz25_n20] [(3, some (.int .i64 v3)), (5, some (.int .i64 0)), (6, some (.int .i64 0))] ⟨0, []⟩ (kkz25_3 w0 fp ρi Kf x) :=
  L_loop (ivz25_4 x v3) (muz25_4 x v3) (liz25_4 x v3) (ljz25_4 x v3) ⟨(0, 0), tau [], h.1, (sub_tau' [] [] rfl rfl (esc pbd (esc pbd (esc pbd envSub_nil))) heapSub_nil (by kernel_rfl) rfl)⟩ (fun s => match s with | (v5, v6) => fun hi => (L_seq (L_seq (pz25_11 x hK v3 v5 v6 (h.2 v5 v6 hi)))))
def vz25_13 (x : Int) (v3 : Int) : Prop := vz25_12 x v3
theorem pz25_13 (x : Int) (hK : Kf (.int .u8 (subB x)) ⟨0, []⟩) (v3 : Int) (h : vz25_13 x v3) : SemL Try.prog w0 fp ρi 0 60 [cz25_n21, (.seq cz25_n22 .ret)] [(3, some (.int .i64 v3)), (5, some (.int .i64 0)), (6, some (.int .i64 0))] ⟨0, []⟩ (fnK Rq2Sub 0 Kf) :=
  L_block (pz25_12 x hK v3 h)
theorem rz25_14 (x : Int) (v3 : Int) (Z : Env → Heap → Prop) (h : Z [(3, some (.int .i64 v3)), (5, some (.int .i64 0)), (6, some (.int .i64 0))] ⟨0, []⟩) : EvC Gq2Sub cz25_n13 [(3, some (.int .i64 v3)), (5, some (.int .i64 0))] ⟨0, []⟩ [3, 5, 6] [] Z := EvC.of (by kernel_rfl) h
def vz25_14 (x : Int) (v3 : Int) : Prop := vz25_13 x v3
theorem pz25_14 (x : Int) (hK : Kf (.int .u8 (subB x)) ⟨0, []⟩) (v3 : Int) (h : vz25_14 x v3) : SemL Try.prog w0 fp ρi 0 60 [cz25_n13, cz25_n21, (.seq cz25_n22 .ret)] [(3, some (.int .i64 v3)), (5, some (.int .i64 0))] ⟨0, []⟩ (fnK Rq2Sub 0 Kf) :=
  L_regE hGq2Sub (rz25_14 x v3 (fun e H => SemL Try.prog w0 fp ρi 0 60 [cz25_n21, (.seq cz25_n22 .ret)] e H (fnK Rq2Sub 0 Kf)) (pz25_13 x hK v3 h))
theorem rz25_15 (x : Int) (v3 : Int) (Z : Env → Heap → Prop) (h : Z [(3, some (.int .i64 v3)), (5, some (.int .i64 0))] ⟨0, []⟩) : EvC Gq2Sub cz25_n12 [(3, some (.int .i64 v3))] ⟨0, []⟩ [3, 5] [] Z := EvC.of (by kernel_rfl) h
def vz25_15 (x : Int) (v3 : Int) : Prop := vz25_14 x v3
theorem pz25_15 (x : Int) (hK : Kf (.int .u8 (subB x)) ⟨0, []⟩) (v3 : Int) (h : vz25_15 x v3) : SemL Try.prog w0 fp ρi 0 60 [cz25_n12, (.seq (.seq cz25_n13 cz25_n21) (.seq cz25_n22 .ret))] [(3, some (.int .i64 v3))] ⟨0, []⟩ (fnK Rq2Sub 0 Kf) :=
  L_regE hGq2Sub (rz25_15 x v3 (fun e H => SemL Try.prog w0 fp ρi 0 60 [(.seq (.seq cz25_n13 cz25_n21) (.seq cz25_n22 .ret))] e H (fnK Rq2Sub 0 Kf)) (L_seq (L_seq (pz25_14 x hK v3 h))))
def vz25_16 (x : Int) (v3 : Int) (v4 : Int) : Prop := ((decide (v4 < 256)) = true → (vz25_4 x v3 v4)) ∧ ((decide (v4 < 256)) = false → (vz25_15 x v3))
theorem pz25_16 (x : Int) (hK : Kf (.int .u8 (subB x)) ⟨0, []⟩) (v3 : Int) (v4 : Int) (h : vz25_16 x v3 v4) : SemL Try.prog w0 fp ρi 0 60 [cz25_n4, (.seq cz25_n8 cz25_n9)] [(0, some (.int .u8 x)), (3, some (.int .i64 v3)), (4, some (.int .i64 v4)), (9, some (.bool (decide (v4 < 256))))] ⟨0, []⟩ (kkz25_1 w0 fp ρi Kf x v3 v4) :=
  L_cond (q := (decide (v4 < 256))) (by kernel_rfl) (fun hq => (L_skip (lpk [0, 3, 4] [] (L_seq (pz25_4 x hK v3 v4 (h.1 hq)))))) (fun hq => (L_exit (lpk [3] [] (L_seq (pz25_15 x hK v3 (h.2 hq))))))
theorem rz25_17 (x : Int) (v3 : Int) (v4 : Int) (Z : Env → Heap → Prop) (h : Z [(0, some (.int .u8 x)), (3, some (.int .i64 v3)), (4, some (.int .i64 v4)), (9, some (.bool (decide (v4 < 256))))] ⟨0, []⟩) : EvC Gq2Sub cz25_n3 [(0, some (.int .u8 x)), (3, some (.int .i64 v3)), (4, some (.int .i64 v4))] ⟨0, []⟩ [0, 3, 4, 9] [] Z := EvC.of (by kernel_rfl) h
def vz25_17 (x : Int) (v3 : Int) (v4 : Int) : Prop := vz25_16 x v3 v4
theorem pz25_17 (x : Int) (hK : Kf (.int .u8 (subB x)) ⟨0, []⟩) (v3 : Int) (v4 : Int) (h : vz25_17 x v3 v4) : SemL Try.prog w0 fp ρi 0 60 [cz25_n3, cz25_n4, (.seq cz25_n8 cz25_n9)] [(0, some (.int .u8 x)), (3, some (.int .i64 v3)), (4, some (.int .i64 v4))] ⟨0, []⟩ (kkz25_1 w0 fp ρi Kf x v3 v4) :=
  L_regE hGq2Sub (rz25_17 x v3 v4 (fun e H => SemL Try.prog w0 fp ρi 0 60 [cz25_n4, (.seq cz25_n8 cz25_n9)] e H (kkz25_1 w0 fp ρi Kf x v3 v4)) (pz25_16 x hK v3 v4 h))
def vz25_18 (x : Int) : Prop := (1 ≤ (1 : Int) ∧ (1 : Int) ≤ 256 ∧ (0 : Int) = lastI x (1 : Int)) ∧ (∀ (v3 : Int) (v4 : Int), (1 ≤ v4 ∧ v4 ≤ 256 ∧ v3 = lastI x v4) → (vz25_17 x v3 v4))
theorem pz25_18 (x : Int) (hK : Kf (.int .u8 (subB x)) ⟨0, []⟩) (h : vz25_18 x) : SemL Try.prog w0 fp ρi 0 60 [cz25_n10] [(0, some (.int .u8 x)), (3, some (.int .i64 0)), (4, some (.int .i64 1))] ⟨0, []⟩ (kkz25_0 w0 fp ρi Kf x) :=
  L_loop (ivz25_1 x) (muz25_1 x) (liz25_1 x) (ljz25_1 x) ⟨(0, 1), tau [], h.1, (sub_tau' [] [] rfl rfl (esc pbd (esc pbd (esc pbd envSub_nil))) heapSub_nil (by kernel_rfl) rfl)⟩ (fun s => match s with | (v3, v4) => fun hi => (L_seq (L_seq (pz25_17 x hK v3 v4 (h.2 v3 v4 hi)))))
def vz25_19 (x : Int) : Prop := vz25_18 x
theorem pz25_19 (x : Int) (hK : Kf (.int .u8 (subB x)) ⟨0, []⟩) (h : vz25_19 x) : SemL Try.prog w0 fp ρi 0 60 [cz25_n11, (.seq cz25_n12 (.seq (.seq cz25_n13 cz25_n21) (.seq cz25_n22 .ret)))] [(0, some (.int .u8 x)), (3, some (.int .i64 0)), (4, some (.int .i64 1))] ⟨0, []⟩ (fnK Rq2Sub 0 Kf) :=
  L_block (pz25_18 x hK h)
theorem rz25_20 (x : Int) (Z : Env → Heap → Prop) (h : Z [(0, some (.int .u8 x)), (3, some (.int .i64 0)), (4, some (.int .i64 1))] ⟨0, []⟩) : EvC Gq2Sub cz25_n2 [(0, some (.int .u8 x)), (3, some (.int .i64 0))] ⟨0, []⟩ [0, 3, 4] [] Z := EvC.of (by kernel_rfl) h
def vz25_20 (x : Int) : Prop := vz25_19 x
theorem pz25_20 (x : Int) (hK : Kf (.int .u8 (subB x)) ⟨0, []⟩) (h : vz25_20 x) : SemL Try.prog w0 fp ρi 0 60 [cz25_n2, cz25_n11, (.seq cz25_n12 (.seq (.seq cz25_n13 cz25_n21) (.seq cz25_n22 .ret)))] [(0, some (.int .u8 x)), (3, some (.int .i64 0))] ⟨0, []⟩ (fnK Rq2Sub 0 Kf) :=
  L_regE hGq2Sub (rz25_20 x (fun e H => SemL Try.prog w0 fp ρi 0 60 [cz25_n11, (.seq cz25_n12 (.seq (.seq cz25_n13 cz25_n21) (.seq cz25_n22 .ret)))] e H (fnK Rq2Sub 0 Kf)) (pz25_19 x hK h))
theorem rz25_21 (x : Int) (Z : Env → Heap → Prop) (h : Z [(0, some (.int .u8 x)), (3, some (.int .i64 0))] ⟨0, []⟩) : EvC Gq2Sub cz25_n1 [(0, some (.int .u8 x))] ⟨0, []⟩ [0, 3] [] Z := EvC.of (by kernel_rfl) h
def vz25_21 (x : Int) : Prop := vz25_20 x
theorem pz25_21 (x : Int) (hK : Kf (.int .u8 (subB x)) ⟨0, []⟩) (h : vz25_21 x) : SemL Try.prog w0 fp ρi 0 60 [cz25_n1, (.seq (.seq cz25_n2 cz25_n11) (.seq cz25_n12 (.seq (.seq cz25_n13 cz25_n21) (.seq cz25_n22 .ret))))] [(0, some (.int .u8 x))] ⟨0, []⟩ (fnK Rq2Sub 0 Kf) :=
  L_regE hGq2Sub (rz25_21 x (fun e H => SemL Try.prog w0 fp ρi 0 60 [(.seq (.seq cz25_n2 cz25_n11) (.seq cz25_n12 (.seq (.seq cz25_n13 cz25_n21) (.seq cz25_n22 .ret))))] e H (fnK Rq2Sub 0 Kf)) (L_seq (L_seq (pz25_20 x hK h))))
theorem rz25_22 (x : Int) (Z : Env → Heap → Prop) (h : Z [(0, some (.int .u8 x))] ⟨0, []⟩) : EvC Gq2Sub cz25_n0 [(0, some (.int .u8 x))] ⟨0, []⟩ [0] [] Z := EvC.of (by kernel_rfl) h
def vz25_22 (x : Int) : Prop := vz25_21 x
theorem pz25_22 (x : Int) (hK : Kf (.int .u8 (subB x)) ⟨0, []⟩) (h : vz25_22 x) : SemL Try.prog w0 fp ρi 0 60 [cz25_n0, (.seq cz25_n1 (.seq (.seq cz25_n2 cz25_n11) (.seq cz25_n12 (.seq (.seq cz25_n13 cz25_n21) (.seq cz25_n22 .ret)))))] [(0, some (.int .u8 x))] ⟨0, []⟩ (fnK Rq2Sub 0 Kf) :=
  L_regE hGq2Sub (rz25_22 x (fun e H => SemL Try.prog w0 fp ρi 0 60 [(.seq cz25_n1 (.seq (.seq cz25_n2 cz25_n11) (.seq cz25_n12 (.seq (.seq cz25_n13 cz25_n21) (.seq cz25_n22 .ret)))))] e H (fnK Rq2Sub 0 Kf)) (L_seq (pz25_21 x hK h)))
def vcq2Sub (x : Int) : Prop := vz25_22 x
theorem wq2Sub (x : Int) (hK : Kf (.int .u8 (subB x)) ⟨0, []⟩) (h : vcq2Sub x) : SemL Try.prog w0 fp ρi 0 60 [cq2Sub] [(0, some (.int .u8 x))] ⟨0, []⟩ (fnK Rq2Sub 0 Kf) :=
  (L_seq (pz25_22 x hK h))
end
theorem okq2Sub (x : Int) (hpre : (0 ≤ x ∧ x < 256)) : vcq2Sub x := by
  unfold vcq2Sub vz25_22 vz25_21 vz25_20 vz25_19 vz25_18 vz25_17 vz25_16 vz25_15 vz25_14 vz25_13 vz25_12 vz25_11 vz25_10 vz25_9 vz25_8 vz25_7 vz25_6 vz25_5 vz25_4 vz25_3 vz25_2 vz25_1 vz25_0
  have iv := invI_ok hpre
  refine ⟨⟨by omega, by omega, by unfold lastI; rw [if_neg (by omega)]⟩, fun v3 v4 hI => ⟨fun hlt => ?_, fun hge => ?_⟩⟩
  · have hlt := of_decide_eq_true hlt
    have w1 : IntKind.i64.wrap (v4 + 1) = v4 + 1 := by rw [wi64]; omega
    have w2 : IntKind.u8.wrap v4 = v4 := by rw [wrap_u8]; omega
    have s := lastI_step hpre ⟨hI.1, hlt⟩
    rw [w1, w2]
    refine ⟨⟨hpre, by omega⟩, fun hc => ⟨⟨by omega, by omega, (s.1 hc).symm⟩, by omega⟩, fun hc => ⟨⟨by omega, by omega, by rw [s.2 hc]; exact hI.2.2⟩, by omega⟩⟩
  · have hge := of_decide_eq_false hge
    have e : v4 = 256 := by omega
    subst e
    obtain ⟨_, _, e⟩ := hI
    rw [lastI_end hpre] at e
    subst e
    refine ⟨⟨by omega, by omega, rfl⟩, fun v5 v6 hJ => ⟨fun hlt => ?_, fun hge => ?_⟩⟩
    · have hlt := of_decide_eq_true hlt
      have w1 : IntKind.i64.wrap (v6 + 1) = v6 + 1 := by rw [wi64]; omega
      have t : ∀ c : Int, 0 ≤ c → c ≤ 8 → 0 ≤ (IntKind.i64.wrap (v6 + c)).tmod 8 := fun c h0 h1 => by
        have w : IntKind.i64.wrap (v6 + c) = v6 + c := by rw [wi64]; omega
        rw [w]; exact Int.tmod_nonneg 8 (by omega)
      refine ⟨hJ.1, t 4 (by omega) (by omega), t 5 (by omega) (by omega), t 6 (by omega) (by omega), t 7 (by omega) (by omega), hJ.1, fun v7 h7 => ⟨hJ.1, fun y hy => ?_⟩⟩
      rw [w1]
      refine ⟨⟨by omega, by omega, ?_⟩, by omega⟩
      rw [hy, h7, hJ.2.2, show (v6 + 1).toNat = v6.toNat + 1 by omega, sumS, show ((v6.toNat : Nat) : Int) = v6 by omega]
      rfl
    · have hge := of_decide_eq_false hge
      have e : v6 = 8 := by omega
      subst e
      rw [hJ.2.2]
      exact sumS_end hpre
theorem sq2Sub : Sound Try.prog 25 (pureS Pq2Sub) := by
  refine fn_soundA cq2Sub_fits ?_
  intro args H K h
  obtain ⟨pre, v, hP, hpre, rfl, hK⟩ := pureS_inv h
  unfold Pq2Sub at hP
  split at hP
  · cases hP
    exact ⟨rfl, fun w0 fp ρi => wq2Sub _ hK (okq2Sub _ hpre)⟩
  · cases hP
end Go.Proofs.Ytefmjmghkedciaa
