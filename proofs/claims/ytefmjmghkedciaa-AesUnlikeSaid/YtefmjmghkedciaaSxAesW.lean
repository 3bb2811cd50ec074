/- Walks, printed by vcg. -/
import Derived.Test.YtefmjmghkedciaaSxProgC
import Derived.Test.YtefmjmghkedciaaSxAes2
import Derived.KernelRfl
set_option linter.unusedVariables false
set_option linter.unusedSimpArgs false
set_option maxRecDepth 20000
namespace Go.Proofs.Ytefmjmghkedciaa
open Go.Sx
def PaDouble : PSpec := fun args => match args with
  | [.int .u8 a] => some ((0 ≤ a ∧ a < 256), .int .u8 (dbl a))
  | _ => none
def pcaDouble : PCon := ⟨47, PaDouble⟩
def cz47_n0 : ACode := .reg (.op (some 2) (.mov (.cn (.int .u8 0))) .nil)
def cz47_n1 : ACode := .reg (.op (some 4) (.mov (.tm 0)) (.op (some 5) (.bin .shl (.tm 4) (.cn (.int .u64 1))) (.op (some 3) (.mov (.tm 5)) .nil)))
def cz47_n2 : ACode := .reg (.op (some 6) (.mov (.tm 0)) (.op (some 7) (.bin .and (.tm 6) (.cn (.int .u8 128))) (.op (some 8) (.bin .gtr (.tm 7) (.cn (.int .u8 0))) .nil)))
def cz47_n3 : ACode := .reg (.op (some 9) (.mov (.tm 3)) (.op (some 10) (.bin .xor (.tm 9) (.cn (.int .u8 27))) (.op (some 3) (.mov (.tm 10)) .nil)))
def cz47_n4 : ACode := .cond (.tm 8) cz47_n3 .skip
def cz47_n5 : ACode := .reg (.op (some 11) (.mov (.tm 3)) (.op (some 2) (.mov (.tm 11)) .nil))
def caDouble : ACode := (.seq cz47_n0 (.seq cz47_n1 (.seq (.seq cz47_n2 cz47_n4) (.seq cz47_n5 .ret))))
def RaDouble : Res := .one (.tm 2)
theorem caDouble_fits : fnFits Try.prog 47 1 12 caDouble RaDouble = true := by kernel_rfl
def GaDouble : Calls' := withP [] []
theorem hGaDouble : CallOk Try.prog GaDouble := withP_ok trivial trivial
section
variable {w0 : World} {fp : Nat → Nat → Prop} {ρi : Rho} {Kf : SVal → Heap → Prop}
theorem rz47_0 (a : Int) (v3'1 : Int) (Z : Env → Heap → Prop) (h : Z [(2, some (.int .u8 v3'1))] ⟨0, []⟩) : EvC GaDouble cz47_n5 [(3, some (.int .u8 v3'1))] ⟨0, []⟩ [2] [] Z := EvC.of (by kernel_rfl) h
theorem rtz47_0 (a : Int) (v3'1 : Int) : RetC RaDouble [(2, some (.int .u8 v3'1))] ⟨0, []⟩ (.int .u8 v3'1) := RetC.of (fun Z => by kernel_rfl)
def vz47_0 (a : Int) (v3'1 : Int) : Prop := v3'1 = (dbl a)
theorem pz47_0 (a : Int) (hK : Kf (.int .u8 (dbl a)) ⟨0, []⟩) (v3'1 : Int) (h : vz47_0 a v3'1) : SemL Try.prog w0 fp ρi 0 12 [cz47_n5, .ret] [(3, some (.int .u8 v3'1))] ⟨0, []⟩ (fnK RaDouble 0 Kf) :=
  L_regE hGaDouble (rz47_0 a v3'1 (fun e H => SemL Try.prog w0 fp ρi 0 12 [.ret] e H (fnK RaDouble 0 Kf)) (L_retE (R := RaDouble) (m := 0) (Kf := Kf) (fun _ _ h => h) (rtz47_0 a v3'1) (ret_plain rfl (by kernel_rfl) (cg1 (fun (z1 : Int) => (.int .u8 z1 : SVal)) h) hK)))
theorem rz47_1 (a : Int) (v3 : Int) (Z : Env → Heap → Prop) (h : Z [(3, some (.int .u8 (ixor .u8 v3 27)))] ⟨0, []⟩) : EvC GaDouble cz47_n3 [(3, some (.int .u8 v3))] ⟨0, []⟩ [3] [] Z := EvC.of (by kernel_rfl) h
def vz47_1 (a : Int) (v3 : Int) : Prop := ∀ v3'1 : Int, v3'1 = (ixor .u8 v3 27) → vz47_0 a v3'1
theorem pz47_1 (a : Int) (hK : Kf (.int .u8 (dbl a)) ⟨0, []⟩) (v3 : Int) (h : vz47_1 a v3) : SemL Try.prog w0 fp ρi 0 12 [cz47_n3, (.seq cz47_n5 .ret)] [(3, some (.int .u8 v3))] ⟨0, []⟩ (fnK RaDouble 0 Kf) :=
  L_regE hGaDouble (rz47_1 a v3 (fun e H => SemL Try.prog w0 fp ρi 0 12 [(.seq cz47_n5 .ret)] e H (fnK RaDouble 0 Kf)) (L_seq (pz47_0 a hK (ixor .u8 v3 27) (h (ixor .u8 v3 27) rfl))))
def vz47_2 (a : Int) (v3 : Int) : Prop := ((decide (0 < (iand .u8 a 128))) = true → (vz47_1 a v3)) ∧ ((decide (0 < (iand .u8 a 128))) = false → (vz47_0 a v3))
theorem pz47_2 (a : Int) (hK : Kf (.int .u8 (dbl a)) ⟨0, []⟩) (v3 : Int) (h : vz47_2 a v3) : SemL Try.prog w0 fp ρi 0 12 [cz47_n4, (.seq cz47_n5 .ret)] [(3, some (.int .u8 v3)), (8, some (.bool (decide (0 < (iand .u8 a 128)))))] ⟨0, []⟩ (fnK RaDouble 0 Kf) :=
  L_cond (q := (decide (0 < (iand .u8 a 128)))) (by kernel_rfl) (fun hq => (lpk [3] [] (pz47_1 a hK v3 (h.1 hq)))) (fun hq => (L_skip (lpk [3] [] (L_seq (pz47_0 a hK v3 (h.2 hq))))))
theorem rz47_3 (a : Int) (v3 : Int) (Z : Env → Heap → Prop) (h : Z [(3, some (.int .u8 v3)), (8, some (.bool (decide (0 < (iand .u8 a 128)))))] ⟨0, []⟩) : EvC GaDouble cz47_n2 [(0, some (.int .u8 a)), (3, some (.int .u8 v3))] ⟨0, []⟩ [3, 8] [] Z := EvC.of (by kernel_rfl) h
def vz47_3 (a : Int) (v3 : Int) : Prop := vz47_2 a v3
theorem pz47_3 (a : Int) (hK : Kf (.int .u8 (dbl a)) ⟨0, []⟩) (v3 : Int) (h : vz47_3 a v3) : SemL Try.prog w0 fp ρi 0 12 [cz47_n2, cz47_n4, (.seq cz47_n5 .ret)] [(0, some (.int .u8 a)), (3, some (.int .u8 v3))] ⟨0, []⟩ (fnK RaDouble 0 Kf) :=
  L_regE hGaDouble (rz47_3 a v3 (fun e H => SemL Try.prog w0 fp ρi 0 12 [cz47_n4, (.seq cz47_n5 .ret)] e H (fnK RaDouble 0 Kf)) (pz47_2 a hK v3 h))
theorem rz47_4 (a : Int) (Z : Env → Heap → Prop) (h : (((0 : Int) ≤ 1)) ∧ Z [(0, some (.int .u8 a)), (3, some (.int .u8 (ishl .u8 a 1)))] ⟨0, []⟩) : EvC GaDouble cz47_n1 [(0, some (.int .u8 a))] ⟨0, []⟩ [0, 3] [] Z := EvC.of (by kernel_rfl) h
def vz47_4 (a : Int) : Prop := ∀ v3 : Int, v3 = (ishl .u8 a 1) → vz47_3 a v3
theorem pz47_4 (a : Int) (hK : Kf (.int .u8 (dbl a)) ⟨0, []⟩) (h : vz47_4 a) : SemL Try.prog w0 fp ρi 0 12 [cz47_n1, (.seq (.seq cz47_n2 cz47_n4) (.seq cz47_n5 .ret))] [(0, some (.int .u8 a))] ⟨0, []⟩ (fnK RaDouble 0 Kf) :=
  L_regE hGaDouble (rz47_4 a (fun e H => SemL Try.prog w0 fp ρi 0 12 [(.seq (.seq cz47_n2 cz47_n4) (.seq cz47_n5 .ret))] e H (fnK RaDouble 0 Kf)) ⟨(by decide), (L_seq (L_seq (pz47_3 a hK (ishl .u8 a 1) (h (ishl .u8 a 1) rfl))))⟩)
theorem rz47_5 (a : Int) (Z : Env → Heap → Prop) (h : Z [(0, some (.int .u8 a))] ⟨0, []⟩) : EvC GaDouble cz47_n0 [(0, some (.int .u8 a))] ⟨0, []⟩ [0] [] Z := EvC.of (by kernel_rfl) h
def vz47_5 (a : Int) : Prop := vz47_4 a
theorem pz47_5 (a : Int) (hK : Kf (.int .u8 (dbl a)) ⟨0, []⟩) (h : vz47_5 a) : SemL Try.prog w0 fp ρi 0 12 [cz47_n0, (.seq cz47_n1 (.seq (.seq cz47_n2 cz47_n4) (.seq cz47_n5 .ret)))] [(0, some (.int .u8 a))] ⟨0, []⟩ (fnK RaDouble 0 Kf) :=
  L_regE hGaDouble (rz47_5 a (fun e H => SemL Try.prog w0 fp ρi 0 12 [(.seq cz47_n1 (.seq (.seq cz47_n2 cz47_n4) (.seq cz47_n5 .ret)))] e H (fnK RaDouble 0 Kf)) (L_seq (pz47_4 a hK h)))
def vcaDouble (a : Int) : Prop := vz47_5 a
theorem waDouble (a : Int) (hK : Kf (.int .u8 (dbl a)) ⟨0, []⟩) (h : vcaDouble a) : SemL Try.prog w0 fp ρi 0 12 [caDouble] [(0, some (.int .u8 a))] ⟨0, []⟩ (fnK RaDouble 0 Kf) :=
  (L_seq (pz47_5 a hK h))
end
theorem okaDouble (a : Int) (hpre : (0 ≤ a ∧ a < 256)) : vcaDouble a := by
  unfold vcaDouble vz47_5 vz47_4 vz47_3 vz47_2 vz47_1 vz47_0
  rintro v3 rfl
  unfold dbl
  refine ⟨fun h => ?_, fun h => ?_⟩
  · rintro v rfl
    rw [if_pos (of_decide_eq_true h)]
  · rw [if_neg (of_decide_eq_false h)]
theorem saDouble : Sound Try.prog 47 (pureS PaDouble) := by
  refine fn_soundA caDouble_fits ?_
  intro args H K h
  obtain ⟨pre, v, hP, hpre, rfl, hK⟩ := pureS_inv h
  unfold PaDouble at hP
  split at hP
  · cases hP
    exact ⟨rfl, fun w0 fp ρi => waDouble _ hK (okaDouble _ hpre)⟩
  · cases hP
def PaTimes : PSpec := fun args => match args with
  | [.int .u8 a, .int .u8 b] => some (((0 ≤ a ∧ a < 256) ∧ (0 ≤ b ∧ b < 256)), .int .u8 (mulB a b))
  | _ => none
def pcaTimes : PCon := ⟨22, PaTimes⟩
def cz22_n0 : ACode := .reg (.op (some 4) (.mov (.cn (.int .u8 0))) .nil)
def cz22_n1 : ACode := .reg (.op (some 5) (.mov (.tm 1)) (.op (some 6) (.bin .gtr (.tm 5) (.cn (.int .u8 0))) .nil))
def cz22_n2 : ACode := .cond (.tm 6) .skip (.exit 0)
def cz22_n3 : ACode := .reg (.op (some 9) (.mov (.tm 1)) (.op (some 10) (.bin .and (.tm 9) (.cn (.int .u8 1))) (.op (some 11) (.bin .gtr (.tm 10) (.cn (.int .u8 0))) .nil)))
def cz22_n4 : ACode := .reg (.op (some 12) (.mov (.tm 4)) (.op (some 13) (.mov (.tm 0)) (.op (some 14) (.bin .xor (.tm 12) (.tm 13)) (.op (some 4) (.mov (.tm 14)) .nil))))
def cz22_n5 : ACode := .cond (.tm 11) cz22_n4 .skip
def cz22_n6 : ACode := .reg (.op (some 15) (.mov (.tm 0)) (.op (some 16) (.call 47 [(.tm 15)]) (.op (some 0) (.mov (.tm 16)) .nil)))
def cz22_n7 : ACode := .block 1 (.seq (.seq cz22_n3 cz22_n5) cz22_n6)
def cz22_n8 : ACode := .reg (.op (some 7) (.mov (.tm 1)) (.op (some 8) (.bin .shr (.tm 7) (.cn (.int .u64 1))) (.op (some 1) (.mov (.tm 8)) .nil)))
def cz22_n9 : ACode := .loop (.seq (.seq cz22_n1 cz22_n2) (.seq cz22_n7 cz22_n8))
def cz22_n10 : ACode := .block 0 cz22_n9
def cz22_n11 : ACode := .reg (.op (some 17) (.mov (.tm 4)) (.op (some 4) (.mov (.tm 17)) .nil))
def caTimes : ACode := (.seq cz22_n0 (.seq cz22_n10 (.seq cz22_n11 .ret)))
def RaTimes : Res := .one (.tm 4)
theorem caTimes_fits : fnFits Try.prog 22 2 18 caTimes RaTimes = true := by kernel_rfl
def GaTimes : Calls' := withP [pcaDouble] []
theorem hGaTimes : CallOk Try.prog GaTimes := withP_ok ⟨saDouble, trivial⟩ trivial
section
variable {w0 : World} {fp : Nat → Nat → Prop} {ρi : Rho} {Kf : SVal → Heap → Prop}
def kkz22_0 (w0 : World) (fp : Nat → Nat → Prop) (ρi : Rho) (Kf : SVal → Heap → Prop) (a : Int) (b : Int) : Cont := blockK 0 (fun e H => SemL Try.prog w0 fp ρi 0 18 [(.seq cz22_n11 .ret)] e H (fnK RaTimes 0 Kf)) (fnK RaTimes 0 Kf)
def ivz22_1 (a : Int) (b : Int) : Int × Int × Int → Prop := fun s => match s with | (v0, v1, v4) => (0 ≤ v0 ∧ v0 < 256) ∧ (0 ≤ v1 ∧ v1 < 256) ∧ ∃ k : Nat, v1 < 2 ^ k ∧ mulGo k v0 v1 v4 = mulB a b
def muz22_1 (a : Int) (b : Int) : Int × Int × Int → Nat := fun s => match s with | (v0, v1, v4) => (v1.toNat)
def liz22_1 (a : Int) (b : Int) : Int × Int × Int → Env := fun s => match s with | (v0, v1, v4) => [(0, some (.int .u8 v0)), (1, some (.int .u8 v1)), (4, some (.int .u8 v4))]
def ljz22_1 (a : Int) (b : Int) : Int × Int × Int → Heap := fun s => match s with | (v0, v1, v4) => ⟨0, []⟩
def kkz22_1 (w0 : World) (fp : Nat → Nat → Prop) (ρi : Rho) (Kf : SVal → Heap → Prop) (a : Int) (b : Int) (v0 : Int) (v1 : Int) (v4 : Int) : Cont := loopK 0 (ivz22_1 a b) (muz22_1 a b) (liz22_1 a b) (ljz22_1 a b) (v0, v1, v4) (kkz22_0 w0 fp ρi Kf a b)
theorem rz22_0 (a : Int) (b : Int) (v0'1 : Int) (v1 : Int) (v4'1 : Int) (v0 : Int) (v4 : Int) (Z : Env → Heap → Prop) (h : (((0 : Int) ≤ 1)) ∧ Z [(0, some (.int .u8 v0'1)), (1, some (.int .u8 (ishr .u8 v1 1))), (4, some (.int .u8 v4'1))] ⟨0, []⟩) : EvC GaTimes cz22_n8 [(0, some (.int .u8 v0'1)), (1, some (.int .u8 v1)), (4, some (.int .u8 v4'1))] ⟨0, []⟩ [0, 1, 4] [] Z := EvC.of (by kernel_rfl) h
def vz22_0 (a : Int) (b : Int) (v0'1 : Int) (v1 : Int) (v4'1 : Int) (v0 : Int) (v4 : Int) : Prop := ((0 ≤ v0'1 ∧ v0'1 < 256) ∧ (0 ≤ (ishr .u8 v1 1) ∧ (ishr .u8 v1 1) < 256) ∧ ∃ k : Nat, (ishr .u8 v1 1) < 2 ^ k ∧ mulGo k v0'1 (ishr .u8 v1 1) v4'1 = mulB a b) ∧ (((ishr .u8 v1 1).toNat) < (v1.toNat))
theorem pz22_0 (a : Int) (b : Int) (hK : Kf (.int .u8 (mulB a b)) ⟨0, []⟩) (v0'1 : Int) (v1 : Int) (v4'1 : Int) (v0 : Int) (v4 : Int) (h : vz22_0 a b v0'1 v1 v4'1 v0 v4) : SemL Try.prog w0 fp ρi 0 18 [cz22_n8] [(0, some (.int .u8 v0'1)), (1, some (.int .u8 v1)), (4, some (.int .u8 v4'1))] ⟨0, []⟩ (kkz22_1 w0 fp ρi Kf a b v0 v1 v4) :=
  L_regE hGaTimes (rz22_0 a b v0'1 v1 v4'1 v0 v4 (fun e H => SemL Try.prog w0 fp ρi 0 18 [] e H (kkz22_1 w0 fp ρi Kf a b v0 v1 v4)) ⟨(by decide), (L_nil (loop_back (x' := (v0'1, (ishr .u8 v1 1), v4'1)) (τ := tau []) h.1 h.2 (sub_tau' [] [] rfl rfl (esc pbd (esc pbd (esc pbd envSub_nil))) heapSub_nil (by kernel_rfl) rfl)))⟩)
def kkz22_2 (w0 : World) (fp : Nat → Nat → Prop) (ρi : Rho) (Kf : SVal → Heap → Prop) (a : Int) (b : Int) (v0 : Int) (v1 : Int) (v4 : Int) : Cont := blockK 1 (fun e H => SemL Try.prog w0 fp ρi 0 18 [cz22_n8] e H (kkz22_1 w0 fp ρi Kf a b v0 v1 v4)) (kkz22_1 w0 fp ρi Kf a b v0 v1 v4)
theorem rz22_1 (a : Int) (b : Int) (v0 : Int) (v1 : Int) (v4'1 : Int) (v4 : Int) (Z : Env → Heap → Prop) (h : ((0 ≤ v0 ∧ v0 < 256)) ∧ Z [(0, some (.int .u8 (dbl v0))), (1, some (.int .u8 v1)), (4, some (.int .u8 v4'1))] ⟨0, []⟩) : EvC GaTimes cz22_n6 [(0, some (.int .u8 v0)), (1, some (.int .u8 v1)), (4, some (.int .u8 v4'1))] ⟨0, []⟩ [0, 1, 4] [] Z := EvC.of (by kernel_rfl) h
def vz22_1 (a : Int) (b : Int) (v0 : Int) (v1 : Int) (v4'1 : Int) (v4 : Int) : Prop := ((0 ≤ v0 ∧ v0 < 256)) ∧ (∀ v0'1 : Int, v0'1 = (dbl v0) → vz22_0 a b v0'1 v1 v4'1 v0 v4)
theorem pz22_1 (a : Int) (b : Int) (hK : Kf (.int .u8 (mulB a b)) ⟨0, []⟩) (v0 : Int) (v1 : Int) (v4'1 : Int) (v4 : Int) (h : vz22_1 a b v0 v1 v4'1 v4) : SemL Try.prog w0 fp ρi 0 18 [cz22_n6] [(0, some (.int .u8 v0)), (1, some (.int .u8 v1)), (4, some (.int .u8 v4'1))] ⟨0, []⟩ (kkz22_2 w0 fp ρi Kf a b v0 v1 v4) :=
  L_regE hGaTimes (rz22_1 a b v0 v1 v4'1 v4 (fun e H => SemL Try.prog w0 fp ρi 0 18 [] e H (kkz22_2 w0 fp ρi Kf a b v0 v1 v4)) ⟨h.1, (L_nil (pz22_0 a b hK (dbl v0) v1 v4'1 v0 v4 (h.2 (dbl v0) rfl)))⟩)
theorem rz22_2 (a : Int) (b : Int) (v0 : Int) (v1 : Int) (v4 : Int) (Z : Env → Heap → Prop) (h : Z [(0, some (.int .u8 v0)), (1, some (.int .u8 v1)), (4, some (.int .u8 (ixor .u8 v4 v0)))] ⟨0, []⟩) : EvC GaTimes cz22_n4 [(0, some (.int .u8 v0)), (1, some (.int .u8 v1)), (4, some (.int .u8 v4))] ⟨0, []⟩ [0, 1, 4] [] Z := EvC.of (by kernel_rfl) h
def vz22_2 (a : Int) (b : Int) (v0 : Int) (v1 : Int) (v4 : Int) : Prop := ∀ v4'1 : Int, v4'1 = (ixor .u8 v4 v0) → vz22_1 a b v0 v1 v4'1 v4
theorem pz22_2 (a : Int) (b : Int) (hK : Kf (.int .u8 (mulB a b)) ⟨0, []⟩) (v0 : Int) (v1 : Int) (v4 : Int) (h : vz22_2 a b v0 v1 v4) : SemL Try.prog w0 fp ρi 0 18 [cz22_n4, cz22_n6] [(0, some (.int .u8 v0)), (1, some (.int .u8 v1)), (4, some (.int .u8 v4))] ⟨0, []⟩ (kkz22_2 w0 fp ρi Kf a b v0 v1 v4) :=
  L_regE hGaTimes (rz22_2 a b v0 v1 v4 (fun e H => SemL Try.prog w0 fp ρi 0 18 [cz22_n6] e H (kkz22_2 w0 fp ρi Kf a b v0 v1 v4)) (pz22_1 a b hK v0 v1 (ixor .u8 v4 v0) v4 (h (ixor .u8 v4 v0) rfl)))
def vz22_3 (a : Int) (b : Int) (v0 : Int) (v1 : Int) (v4 : Int) : Prop := ((decide (0 < (iand .u8 v1 1))) = true → (vz22_2 a b v0 v1 v4)) ∧ ((decide (0 < (iand .u8 v1 1))) = false → (vz22_1 a b v0 v1 v4 v4))
theorem pz22_3 (a : Int) (b : Int) (hK : Kf (.int .u8 (mulB a b)) ⟨0, []⟩) (v0 : Int) (v1 : Int) (v4 : Int) (h : vz22_3 a b v0 v1 v4) : SemL Try.prog w0 fp ρi 0 18 [cz22_n5, cz22_n6] [(0, some (.int .u8 v0)), (1, some (.int .u8 v1)), (4, some (.int .u8 v4)), (11, some (.bool (decide (0 < (iand .u8 v1 1)))))] ⟨0, []⟩ (kkz22_2 w0 fp ρi Kf a b v0 v1 v4) :=
  L_cond (q := (decide (0 < (iand .u8 v1 1)))) (by kernel_rfl) (fun hq => (lpk [0, 1, 4] [] (pz22_2 a b hK v0 v1 v4 (h.1 hq)))) (fun hq => (L_skip (lpk [0, 1, 4] [] (pz22_1 a b hK v0 v1 v4 v4 (h.2 hq)))))
theorem rz22_4 (a : Int) (b : Int) (v0 : Int) (v1 : Int) (v4 : Int) (Z : Env → Heap → Prop) (h : Z [(0, some (.int .u8 v0)), (1, some (.int .u8 v1)), (4, some (.int .u8 v4)), (11, some (.bool (decide (0 < (iand .u8 v1 1)))))] ⟨0, []⟩) : EvC GaTimes cz22_n3 [(0, some (.int .u8 v0)), (1, some (.int .u8 v1)), (4, some (.int .u8 v4))] ⟨0, []⟩ [0, 1, 4, 11] [] Z := EvC.of (by kernel_rfl) h
def vz22_4 (a : Int) (b : Int) (v0 : Int) (v1 : Int) (v4 : Int) : Prop := vz22_3 a b v0 v1 v4
theorem pz22_4 (a : Int) (b : Int) (hK : Kf (.int .u8 (mulB a b)) ⟨0, []⟩) (v0 : Int) (v1 : Int) (v4 : Int) (h : vz22_4 a b v0 v1 v4) : SemL Try.prog w0 fp ρi 0 18 [cz22_n3, cz22_n5, cz22_n6] [(0, some (.int .u8 v0)), (1, some (.int .u8 v1)), (4, some (.int .u8 v4))] ⟨0, []⟩ (kkz22_2 w0 fp ρi Kf a b v0 v1 v4) :=
  L_regE hGaTimes (rz22_4 a b v0 v1 v4 (fun e H => SemL Try.prog w0 fp ρi 0 18 [cz22_n5, cz22_n6] e H (kkz22_2 w0 fp ρi Kf a b v0 v1 v4)) (pz22_3 a b hK v0 v1 v4 h))
def vz22_5 (a : Int) (b : Int) (v0 : Int) (v1 : Int) (v4 : Int) : Prop := vz22_4 a b v0 v1 v4
theorem pz22_5 (a : Int) (b : Int) (hK : Kf (.int .u8 (mulB a b)) ⟨0, []⟩) (v0 : Int) (v1 : Int) (v4 : Int) (h : vz22_5 a b v0 v1 v4) : SemL Try.prog w0 fp ρi 0 18 [cz22_n7, cz22_n8] [(0, some (.int .u8 v0)), (1, some (.int .u8 v1)), (4, some (.int .u8 v4))] ⟨0, []⟩ (kkz22_1 w0 fp ρi Kf a b v0 v1 v4) :=
  L_block (L_seq (L_seq (pz22_4 a b hK v0 v1 v4 h)))
theorem rz22_6 (a : Int) (b : Int) (v4 : Int) (Z : Env → Heap → Prop) (h : Z [(4, some (.int .u8 v4))] ⟨0, []⟩) : EvC GaTimes cz22_n11 [(4, some (.int .u8 v4))] ⟨0, []⟩ [4] [] Z := EvC.of (by kernel_rfl) h
theorem rtz22_0 (a : Int) (b : Int) (v4 : Int) : RetC RaTimes [(4, some (.int .u8 v4))] ⟨0, []⟩ (.int .u8 v4) := RetC.of (fun Z => by kernel_rfl)
def vz22_6 (a : Int) (b : Int) (v4 : Int) : Prop := v4 = (mulB a b)
theorem pz22_6 (a : Int) (b : Int) (hK : Kf (.int .u8 (mulB a b)) ⟨0, []⟩) (v4 : Int) (h : vz22_6 a b v4) : SemL Try.prog w0 fp ρi 0 18 [cz22_n11, .ret] [(4, some (.int .u8 v4))] ⟨0, []⟩ (fnK RaTimes 0 Kf) :=
  L_regE hGaTimes (rz22_6 a b v4 (fun e H => SemL Try.prog w0 fp ρi 0 18 [.ret] e H (fnK RaTimes 0 Kf)) (L_retE (R := RaTimes) (m := 0) (Kf := Kf) (fun _ _ h => h) (rtz22_0 a b v4) (ret_plain rfl (by kernel_rfl) (cg1 (fun (z1 : Int) => (.int .u8 z1 : SVal)) h) hK)))
def vz22_7 (a : Int) (b : Int) (v0 : Int) (v1 : Int) (v4 : Int) : Prop := ((decide (0 < v1)) = true → (vz22_5 a b v0 v1 v4)) ∧ ((decide (0 < v1)) = false → (vz22_6 a b v4))
theorem pz22_7 (a : Int) (b : Int) (hK : Kf (.int .u8 (mulB a b)) ⟨0, []⟩) (v0 : Int) (v1 : Int) (v4 : Int) (h : vz22_7 a b v0 v1 v4) : SemL Try.prog w0 fp ρi 0 18 [cz22_n2, (.seq cz22_n7 cz22_n8)] [(0, some (.int .u8 v0)), (1, some (.int .u8 v1)), (4, some (.int .u8 v4)), (6, some (.bool (decide (0 < v1))))] ⟨0, []⟩ (kkz22_1 w0 fp ρi Kf a b v0 v1 v4) :=
  L_cond (q := (decide (0 < v1))) (by kernel_rfl) (fun hq => (L_skip (lpk [0, 1, 4] [] (L_seq (pz22_5 a b hK v0 v1 v4 (h.1 hq)))))) (fun hq => (L_exit (lpk [4] [] (L_seq (pz22_6 a b hK v4 (h.2 hq))))))
theorem rz22_8 (a : Int) (b : Int) (v0 : Int) (v1 : Int) (v4 : Int) (Z : Env → Heap → Prop) (h : Z [(0, some (.int .u8 v0)), (1, some (.int .u8 v1)), (4, some (.int .u8 v4)), (6, some (.bool (decide (0 < v1))))] ⟨0, []⟩) : EvC GaTimes cz22_n1 [(0, some (.int .u8 v0)), (1, some (.int .u8 v1)), (4, some (.int .u8 v4))] ⟨0, []⟩ [0, 1, 4, 6] [] Z := EvC.of (by kernel_rfl) h
def vz22_8 (a : Int) (b : Int) (v0 : Int) (v1 : Int) (v4 : Int) : Prop := vz22_7 a b v0 v1 v4
theorem pz22_8 (a : Int) (b : Int) (hK : Kf (.int .u8 (mulB a b)) ⟨0, []⟩) (v0 : Int) (v1 : Int) (v4 : Int) (h : vz22_8 a b v0 v1 v4) : SemL Try.prog w0 fp ρi 0 18 [cz22_n1, cz22_n2, (.seq cz22_n7 cz22_n8)] [(0, some (.int .u8 v0)), (1, some (.int .u8 v1)), (4, some (.int .u8 v4))] ⟨0, []⟩ (kkz22_1 w0 fp ρi Kf a b v0 v1 v4) :=
  L_regE hGaTimes (rz22_8 a b v0 v1 v4 (fun e H => SemL Try.prog w0 fp ρi 0 18 [cz22_n2, (.seq cz22_n7 cz22_n8)] e H (kkz22_1 w0 fp ρi Kf a b v0 v1 v4)) (pz22_7 a b hK v0 v1 v4 h))
def vz22_9 (a : Int) (b : Int) : Prop := ((0 ≤ a ∧ a < 256) ∧ (0 ≤ b ∧ b < 256) ∧ ∃ k : Nat, b < 2 ^ k ∧ mulGo k a b (0 : Int) = mulB a b) ∧ (∀ (v0 : Int) (v1 : Int) (v4 : Int), ((0 ≤ v0 ∧ v0 < 256) ∧ (0 ≤ v1 ∧ v1 < 256) ∧ ∃ k : Nat, v1 < 2 ^ k ∧ mulGo k v0 v1 v4 = mulB a b) → (vz22_8 a b v0 v1 v4))
theorem pz22_9 (a : Int) (b : Int) (hK : Kf (.int .u8 (mulB a b)) ⟨0, []⟩) (h : vz22_9 a b) : SemL Try.prog w0 fp ρi 0 18 [cz22_n9] [(0, some (.int .u8 a)), (1, some (.int .u8 b)), (4, some (.int .u8 0))] ⟨0, []⟩ (kkz22_0 w0 fp ρi Kf a b) :=
  L_loop (ivz22_1 a b) (muz22_1 a b) (liz22_1 a b) (ljz22_1 a b) ⟨(a, b, 0), tau [], h.1, (sub_tau' [] [] rfl rfl (esc pbd (esc pbd (esc pbd envSub_nil))) heapSub_nil (by kernel_rfl) rfl)⟩ (fun s => match s with | (v0, v1, v4) => fun hi => (L_seq (L_seq (pz22_8 a b hK v0 v1 v4 (h.2 v0 v1 v4 hi)))))
def vz22_10 (a : Int) (b : Int) : Prop := vz22_9 a b
theorem pz22_10 (a : Int) (b : Int) (hK : Kf (.int .u8 (mulB a b)) ⟨0, []⟩) (h : vz22_10 a b) : SemL Try.prog w0 fp ρi 0 18 [cz22_n10, (.seq cz22_n11 .ret)] [(0, some (.int .u8 a)), (1, some (.int .u8 b)), (4, some (.int .u8 0))] ⟨0, []⟩ (fnK RaTimes 0 Kf) :=
  L_block (pz22_9 a b hK h)
theorem rz22_11 (a : Int) (b : Int) (Z : Env → Heap → Prop) (h : Z [(0, some (.int .u8 a)), (1, some (.int .u8 b)), (4, some (.int .u8 0))] ⟨0, []⟩) : EvC GaTimes cz22_n0 [(0, some (.int .u8 a)), (1, some (.int .u8 b))] ⟨0, []⟩ [0, 1, 4] [] Z := EvC.of (by kernel_rfl) h
def vz22_11 (a : Int) (b : Int) : Prop := vz22_10 a b
theorem pz22_11 (a : Int) (b : Int) (hK : Kf (.int .u8 (mulB a b)) ⟨0, []⟩) (h : vz22_11 a b) : SemL Try.prog w0 fp ρi 0 18 [cz22_n0, (.seq cz22_n10 (.seq cz22_n11 .ret))] [(0, some (.int .u8 a)), (1, some (.int .u8 b))] ⟨0, []⟩ (fnK RaTimes 0 Kf) :=
  L_regE hGaTimes (rz22_11 a b (fun e H => SemL Try.prog w0 fp ρi 0 18 [(.seq cz22_n10 (.seq cz22_n11 .ret))] e H (fnK RaTimes 0 Kf)) (L_seq (pz22_10 a b hK h)))
def vcaTimes (a : Int) (b : Int) : Prop := vz22_11 a b
theorem waTimes (a : Int) (b : Int) (hK : Kf (.int .u8 (mulB a b)) ⟨0, []⟩) (h : vcaTimes a b) : SemL Try.prog w0 fp ρi 0 18 [caTimes] [(0, some (.int .u8 a)), (1, some (.int .u8 b))] ⟨0, []⟩ (fnK RaTimes 0 Kf) :=
  (L_seq (pz22_11 a b hK h))
end
theorem okaTimes (a : Int) (b : Int) (hpre : ((0 ≤ a ∧ a < 256) ∧ (0 ≤ b ∧ b < 256))) : vcaTimes a b := by
  unfold vcaTimes vz22_11 vz22_10 vz22_9 vz22_8 vz22_7 vz22_6 vz22_5 vz22_4 vz22_3 vz22_2 vz22_1 vz22_0
  refine ⟨⟨hpre.1, hpre.2, 8, by omega, rfl⟩, ?_⟩
  rintro v0 v1 v4 ⟨i0, i1, k, hk, he⟩
  refine ⟨fun hlt => ?_, fun hge => ?_⟩
  · have hlt := of_decide_eq_true hlt
    have hv := half8 i1.1
    rw [hv]
    match k, hk, he with
    | 0, hk, he => exact absurd hk (by simp; omega)
    | k + 1, hk, he =>
      rw [mulGo, if_pos hlt, hv] at he
      rw [Int.pow_succ] at hk
      refine ⟨fun hb => ?_, fun hb => ?_⟩
      · rw [if_pos (of_decide_eq_true hb)] at he
        rintro v41 rfl
        refine ⟨i0, ?_⟩
        rintro v01 rfl
        exact ⟨⟨dbl_byte _, by omega, k, by omega, he⟩, by omega⟩
      · rw [if_neg (of_decide_eq_false hb)] at he
        refine ⟨i0, ?_⟩
        rintro v01 rfl
        exact ⟨⟨dbl_byte _, by omega, k, by omega, he⟩, by omega⟩
  · have hge := of_decide_eq_false hge
    match k, he with
    | 0, he => exact he
    | k + 1, he => rw [mulGo, if_neg hge] at he; exact he
theorem saTimes : Sound Try.prog 22 (pureS PaTimes) := by
  refine fn_soundA caTimes_fits ?_
  intro args H K h
  obtain ⟨pre, v, hP, hpre, rfl, hK⟩ := pureS_inv h
  unfold PaTimes at hP
  split at hP
  · cases hP
    exact ⟨rfl, fun w0 fp ρi => waTimes _ _ hK (okaTimes _ _ hpre)⟩
  · cases hP
def ProtL8 : PSpec := fun args => match args with
  | [.int .u8 x, .int .i64 k] => some (((0 ≤ x ∧ x < 256) ∧ 0 ≤ k ∧ k ≤ 7), .int .u8 (rotB x k))
  | _ => none
def pcrotL8 : PCon := ⟨48, ProtL8⟩
def cz48_n0 : ACode := .reg (.op (some 4) (.mov (.cn (.int .u8 0))) .nil)
def cz48_n1 : ACode := .reg (.op (some 6) (.mov (.tm 1)) (.op (some 7) (.conv .u64 (.tm 6)) (.op (some 8) (.bin .and (.tm 7) (.cn (.int .u64 7))) (.op (some 5) (.mov (.tm 8)) .nil))))
def cz48_n2 : ACode := .reg (.op (some 9) (.mov (.tm 0)) (.op (some 10) (.mov (.tm 5)) (.op (some 11) (.bin .shl (.tm 9) (.tm 10)) (.op (some 12) (.mov (.tm 0)) (.op (some 13) (.mov (.tm 5)) (.op (some 14) (.bin .sub (.cn (.int .u64 8)) (.tm 13)) (.op (some 15) (.bin .shr (.tm 12) (.tm 14)) (.op (some 16) (.bin .or (.tm 11) (.tm 15)) (.op (some 4) (.mov (.tm 16)) .nil)))))))))
def crotL8 : ACode := (.seq cz48_n0 (.seq cz48_n1 (.seq cz48_n2 .ret)))
def RrotL8 : Res := .one (.tm 4)
theorem crotL8_fits : fnFits Try.prog 48 2 17 crotL8 RrotL8 = true := by kernel_rfl
def GrotL8 : Calls' := withP [] []
theorem hGrotL8 : CallOk Try.prog GrotL8 := withP_ok trivial trivial
section
variable {w0 : World} {fp : Nat → Nat → Prop} {ρi : Rho} {Kf : SVal → Heap → Prop}
theorem rz48_0 (x : Int) (k : Int) (v5 : Int) (Z : Env → Heap → Prop) (h : ((0 ≤ v5)) ∧ ((0 ≤ (IntKind.u64.wrap (8 - v5)))) ∧ Z [(4, some (.int .u8 (ior .u8 (ishl .u8 x v5) (ishr .u8 x (IntKind.u64.wrap (8 - v5))))))] ⟨0, []⟩) : EvC GrotL8 cz48_n2 [(0, some (.int .u8 x)), (5, some (.int .u64 v5))] ⟨0, []⟩ [4] [] Z := EvC.of (by kernel_rfl) h
theorem rtz48_0 (x : Int) (k : Int) (v5 : Int) : RetC RrotL8 [(4, some (.int .u8 (ior .u8 (ishl .u8 x v5) (ishr .u8 x (IntKind.u64.wrap (8 - v5))))))] ⟨0, []⟩ (.int .u8 (ior .u8 (ishl .u8 x v5) (ishr .u8 x (IntKind.u64.wrap (8 - v5))))) := RetC.of (fun Z => by kernel_rfl)
def vz48_0 (x : Int) (k : Int) (v5 : Int) : Prop := ((0 ≤ v5)) ∧ (((0 ≤ (IntKind.u64.wrap (8 - v5)))) ∧ ((ior .u8 (ishl .u8 x v5) (ishr .u8 x (IntKind.u64.wrap (8 - v5)))) = (rotB x k)))
theorem pz48_0 (x : Int) (k : Int) (hK : Kf (.int .u8 (rotB x k)) ⟨0, []⟩) (v5 : Int) (h : vz48_0 x k v5) : SemL Try.prog w0 fp ρi 0 17 [cz48_n2, .ret] [(0, some (.int .u8 x)), (5, some (.int .u64 v5))] ⟨0, []⟩ (fnK RrotL8 0 Kf) :=
  L_regE hGrotL8 (rz48_0 x k v5 (fun e H => SemL Try.prog w0 fp ρi 0 17 [.ret] e H (fnK RrotL8 0 Kf)) ⟨h.1, ⟨h.2.1, (L_retE (R := RrotL8) (m := 0) (Kf := Kf) (fun _ _ h => h) (rtz48_0 x k v5) (ret_plain rfl (by kernel_rfl) (cg1 (fun (z1 : Int) => (.int .u8 z1 : SVal)) h.2.2) hK))⟩⟩)
theorem rz48_1 (x : Int) (k : Int) (Z : Env → Heap → Prop) (h : Z [(0, some (.int .u8 x)), (5, some (.int .u64 (iand .u64 (IntKind.u64.wrap k) 7)))] ⟨0, []⟩) : EvC GrotL8 cz48_n1 [(0, some (.int .u8 x)), (1, some (.int .i64 k))] ⟨0, []⟩ [0, 5] [] Z := EvC.of (by kernel_rfl) h
def vz48_1 (x : Int) (k : Int) : Prop := ∀ v5 : Int, v5 = (iand .u64 (IntKind.u64.wrap k) 7) → vz48_0 x k v5
theorem pz48_1 (x : Int) (k : Int) (hK : Kf (.int .u8 (rotB x k)) ⟨0, []⟩) (h : vz48_1 x k) : SemL Try.prog w0 fp ρi 0 17 [cz48_n1, (.seq cz48_n2 .ret)] [(0, some (.int .u8 x)), (1, some (.int .i64 k))] ⟨0, []⟩ (fnK RrotL8 0 Kf) :=
  L_regE hGrotL8 (rz48_1 x k (fun e H => SemL Try.prog w0 fp ρi 0 17 [(.seq cz48_n2 .ret)] e H (fnK RrotL8 0 Kf)) (L_seq (pz48_0 x k hK (iand .u64 (IntKind.u64.wrap k) 7) (h (iand .u64 (IntKind.u64.wrap k) 7) rfl))))
theorem rz48_2 (x : Int) (k : Int) (Z : Env → Heap → Prop) (h : Z [(0, some (.int .u8 x)), (1, some (.int .i64 k))] ⟨0, []⟩) : EvC GrotL8 cz48_n0 [(0, some (.int .u8 x)), (1, some (.int .i64 k))] ⟨0, []⟩ [0, 1] [] Z := EvC.of (by kernel_rfl) h
def vz48_2 (x : Int) (k : Int) : Prop := vz48_1 x k
theorem pz48_2 (x : Int) (k : Int) (hK : Kf (.int .u8 (rotB x k)) ⟨0, []⟩) (h : vz48_2 x k) : SemL Try.prog w0 fp ρi 0 17 [cz48_n0, (.seq cz48_n1 (.seq cz48_n2 .ret))] [(0, some (.int .u8 x)), (1, some (.int .i64 k))] ⟨0, []⟩ (fnK RrotL8 0 Kf) :=
  L_regE hGrotL8 (rz48_2 x k (fun e H => SemL Try.prog w0 fp ρi 0 17 [(.seq cz48_n1 (.seq cz48_n2 .ret))] e H (fnK RrotL8 0 Kf)) (L_seq (pz48_1 x k hK h)))
def vcrotL8 (x : Int) (k : Int) : Prop := vz48_2 x k
theorem wrotL8 (x : Int) (k : Int) (hK : Kf (.int .u8 (rotB x k)) ⟨0, []⟩) (h : vcrotL8 x k) : SemL Try.prog w0 fp ρi 0 17 [crotL8] [(0, some (.int .u8 x)), (1, some (.int .i64 k))] ⟨0, []⟩ (fnK RrotL8 0 Kf) :=
  (L_seq (pz48_2 x k hK h))
end
theorem okrotL8 (x : Int) (k : Int) (hpre : ((0 ≤ x ∧ x < 256) ∧ 0 ≤ k ∧ k ≤ 7)) : vcrotL8 x k := by
  unfold vcrotL8 vz48_2 vz48_1 vz48_0
  obtain ⟨h0, h1, h2⟩ := hpre
  have e5 : iand .u64 (IntKind.u64.wrap k) 7 = k := by
    obtain ⟨n, rfl⟩ := Int.eq_ofNat_of_zero_le h1
    have hn : n ≤ 7 := by omega
    rw [wrap_u64]
    have : n = 0 ∨ n = 1 ∨ n = 2 ∨ n = 3 ∨ n = 4 ∨ n = 5 ∨ n = 6 ∨ n = 7 := by omega
    rcases this with rfl | rfl | rfl | rfl | rfl | rfl | rfl | rfl <;> decide +kernel
  rw [e5]
  rintro v5 rfl
  have e8 : IntKind.u64.wrap (8 - v5) = 8 - v5 := by rw [wrap_u64]; omega
  rw [e8]
  exact ⟨h1, by omega, rfl⟩
theorem srotL8 : Sound Try.prog 48 (pureS ProtL8) := by
  refine fn_soundA crotL8_fits ?_
  intro args H K h
  obtain ⟨pre, v, hP, hpre, rfl, hK⟩ := pureS_inv h
  unfold ProtL8 at hP
  split at hP
  · cases hP
    exact ⟨rfl, fun w0 fp ρi => wrotL8 _ _ hK (okrotL8 _ _ hpre)⟩
  · cases hP
def PaSub : PSpec := fun args => match args with
  | [.int .u8 x] => some ((0 ≤ x ∧ x < 256), .int .u8 (subB x))
  | _ => none
def pcaSub : PCon := ⟨24, PaSub⟩
def cz24_n0 : ACode := .reg (.op (some 2) (.mov (.cn (.int .u8 0))) .nil)
def cz24_n1 : ACode := .reg (.op (some 8) (.mov (.tm 0)) (.op (some 3) (.mov (.cn (.int .u8 1))) (.op (some 4) (.mov (.tm 8)) .nil)))
def cz24_n2 : ACode := .reg (.op (some 5) (.mov (.cn (.int .i64 254))) .nil)
def cz24_n3 : ACode := .reg (.op (some 9) (.mov (.tm 5)) (.op (some 10) (.bin .gtr (.tm 9) (.cn (.int .i64 0))) .nil))
def cz24_n4 : ACode := .cond (.tm 10) .skip (.exit 0)
def cz24_n5 : ACode := .reg (.op (some 13) (.mov (.tm 5)) (.op (some 14) (.bin .and (.tm 13) (.cn (.int .i64 1))) (.op (some 15) (.bin .gtr (.tm 14) (.cn (.int .i64 0))) .nil)))
def cz24_n6 : ACode := .reg (.op (some 16) (.mov (.tm 3)) (.op (some 17) (.mov (.tm 4)) (.op (some 18) (.call 22 [(.tm 16), (.tm 17)]) (.op (some 3) (.mov (.tm 18)) .nil))))
def cz24_n7 : ACode := .cond (.tm 15) cz24_n6 .skip
def cz24_n8 : ACode := .reg (.op (some 19) (.mov (.tm 4)) (.op (some 20) (.mov (.tm 4)) (.op (some 21) (.call 22 [(.tm 19), (.tm 20)]) (.op (some 4) (.mov (.tm 21)) .nil))))
def cz24_n9 : ACode := .block 1 (.seq (.seq cz24_n5 cz24_n7) cz24_n8)
def cz24_n10 : ACode := .reg (.op (some 11) (.mov (.tm 5)) (.op (some 12) (.bin .shr (.tm 11) (.cn (.int .u64 1))) (.op (some 5) (.mov (.tm 12)) .nil)))
def cz24_n11 : ACode := .loop (.seq (.seq cz24_n3 cz24_n4) (.seq cz24_n9 cz24_n10))
def cz24_n12 : ACode := .block 0 cz24_n11
def cz24_n13 : ACode := .reg (.op (some 6) (.mov (.cn (.int .u8 99))) .nil)
def cz24_n14 : ACode := .reg (.op (some 22) (.mov (.cn (.int .i64 0))) .nil)
def cz24_n15 : ACode := .reg (.op (some 23) (.bin .lss (.tm 22) (.cn (.int .i64 5))) .nil)
def cz24_n16 : ACode := .cond (.tm 23) .skip (.exit 2)
def cz24_n17 : ACode := .reg (.op (some 24) (.mov (.tm 22)) (.op (some 7) (.mov (.tm 24)) .nil))
def cz24_n18 : ACode := .reg (.op (some 25) (.mov (.tm 6)) (.op (some 26) (.mov (.tm 3)) (.op (some 27) (.mov (.tm 7)) (.op (some 28) (.call 48 [(.tm 26), (.tm 27)]) (.op (some 29) (.bin .xor (.tm 25) (.tm 28)) (.op (some 6) (.mov (.tm 29)) .nil))))))
def cz24_n19 : ACode := .block 3 (.seq cz24_n17 cz24_n18)
def cz24_n20 : ACode := .reg (.op (some 30) (.bin .add (.tm 22) (.cn (.int .i64 1))) (.op (some 22) (.mov (.tm 30)) .nil))
def cz24_n21 : ACode := .loop (.seq cz24_n15 (.seq cz24_n16 (.seq cz24_n19 cz24_n20)))
def cz24_n22 : ACode := .block 2 cz24_n21
def cz24_n23 : ACode := .reg (.op (some 31) (.mov (.tm 6)) (.op (some 2) (.mov (.tm 31)) .nil))
def caSub : ACode := (.seq cz24_n0 (.seq cz24_n1 (.seq (.seq cz24_n2 cz24_n12) (.seq cz24_n13 (.seq (.seq cz24_n14 cz24_n22) (.seq cz24_n23 .ret))))))
def RaSub : Res := .one (.tm 2)
theorem caSub_fits : fnFits Try.prog 24 1 32 caSub RaSub = true := by kernel_rfl
def GaSub : Calls' := withP [pcaTimes, pcrotL8] []
theorem hGaSub : CallOk Try.prog GaSub := withP_ok ⟨saTimes, srotL8, trivial⟩ trivial
section
variable {w0 : World} {fp : Nat → Nat → Prop} {ρi : Rho} {Kf : SVal → Heap → Prop}
def kkz24_0 (w0 : World) (fp : Nat → Nat → Prop) (ρi : Rho) (Kf : SVal → Heap → Prop) (x : Int) : Cont := blockK 0 (fun e H => SemL Try.prog w0 fp ρi 0 32 [(.seq cz24_n13 (.seq (.seq cz24_n14 cz24_n22) (.seq cz24_n23 .ret)))] e H (fnK RaSub 0 Kf)) (fnK RaSub 0 Kf)
def ivz24_1 (x : Int) : Int × Int × Int → Prop := fun s => match s with | (v3, v4, v5) => ∃ i : Nat, i ≤ 8 ∧ v5 = pwN i ∧ v3 = (pwS x i).1 ∧ v4 = (pwS x i).2
def muz24_1 (x : Int) : Int × Int × Int → Nat := fun s => match s with | (v3, v4, v5) => (v5.toNat)
def liz24_1 (x : Int) : Int × Int × Int → Env := fun s => match s with | (v3, v4, v5) => [(3, some (.int .u8 v3)), (4, some (.int .u8 v4)), (5, some (.int .i64 v5))]
def ljz24_1 (x : Int) : Int × Int × Int → Heap := fun s => match s with | (v3, v4, v5) => ⟨0, []⟩
def kkz24_1 (w0 : World) (fp : Nat → Nat → Prop) (ρi : Rho) (Kf : SVal → Heap → Prop) (x : Int) (v3 : Int) (v4 : Int) (v5 : Int) : Cont := loopK 0 (ivz24_1 x) (muz24_1 x) (liz24_1 x) (ljz24_1 x) (v3, v4, v5) (kkz24_0 w0 fp ρi Kf x)
theorem rz24_0 (x : Int) (v3'1 : Int) (v4'1 : Int) (v5 : Int) (v3 : Int) (v4 : Int) (Z : Env → Heap → Prop) (h : (((0 : Int) ≤ 1)) ∧ Z [(3, some (.int .u8 v3'1)), (4, some (.int .u8 v4'1)), (5, some (.int .i64 (ishr .i64 v5 1)))] ⟨0, []⟩) : EvC GaSub cz24_n10 [(3, some (.int .u8 v3'1)), (4, some (.int .u8 v4'1)), (5, some (.int .i64 v5))] ⟨0, []⟩ [3, 4, 5] [] Z := EvC.of (by kernel_rfl) h
def vz24_0 (x : Int) (v3'1 : Int) (v4'1 : Int) (v5 : Int) (v3 : Int) (v4 : Int) : Prop := (∃ i : Nat, i ≤ 8 ∧ (ishr .i64 v5 1) = pwN i ∧ v3'1 = (pwS x i).1 ∧ v4'1 = (pwS x i).2) ∧ (((ishr .i64 v5 1).toNat) < (v5.toNat))
theorem pz24_0 (x : Int) (hK : Kf (.int .u8 (subB x)) ⟨0, []⟩) (v3'1 : Int) (v4'1 : Int) (v5 : Int) (v3 : Int) (v4 : Int) (h : vz24_0 x v3'1 v4'1 v5 v3 v4) : SemL Try.prog w0 fp ρi 0 32 [cz24_n10] [(3, some (.int .u8 v3'1)), (4, some (.int .u8 v4'1)), (5, some (.int .i64 v5))] ⟨0, []⟩ (kkz24_1 w0 fp ρi Kf x v3 v4 v5) :=
  L_regE hGaSub (rz24_0 x v3'1 v4'1 v5 v3 v4 (fun e H => SemL Try.prog w0 fp ρi 0 32 [] e H (kkz24_1 w0 fp ρi Kf x v3 v4 v5)) ⟨(by decide), (L_nil (loop_back (x' := (v3'1, v4'1, (ishr .i64 v5 1))) (τ := tau []) h.1 h.2 (sub_tau' [] [] rfl rfl (esc pbd (esc pbd (esc pbd envSub_nil))) heapSub_nil (by kernel_rfl) rfl)))⟩)
def kkz24_2 (w0 : World) (fp : Nat → Nat → Prop) (ρi : Rho) (Kf : SVal → Heap → Prop) (x : Int) (v3 : Int) (v4 : Int) (v5 : Int) : Cont := blockK 1 (fun e H => SemL Try.prog w0 fp ρi 0 32 [cz24_n10] e H (kkz24_1 w0 fp ρi Kf x v3 v4 v5)) (kkz24_1 w0 fp ρi Kf x v3 v4 v5)
theorem rz24_1 (x : Int) (v3'1 : Int) (v4 : Int) (v5 : Int) (v3 : Int) (Z : Env → Heap → Prop) (h : (((0 ≤ v4 ∧ v4 < 256) ∧ (0 ≤ v4 ∧ v4 < 256))) ∧ Z [(3, some (.int .u8 v3'1)), (4, some (.int .u8 (mulB v4 v4))), (5, some (.int .i64 v5))] ⟨0, []⟩) : EvC GaSub cz24_n8 [(3, some (.int .u8 v3'1)), (4, some (.int .u8 v4)), (5, some (.int .i64 v5))] ⟨0, []⟩ [3, 4, 5] [] Z := EvC.of (by kernel_rfl) h
def vz24_1 (x : Int) (v3'1 : Int) (v4 : Int) (v5 : Int) (v3 : Int) : Prop := (((0 ≤ v4 ∧ v4 < 256) ∧ (0 ≤ v4 ∧ v4 < 256))) ∧ (∀ v4'1 : Int, v4'1 = (mulB v4 v4) → vz24_0 x v3'1 v4'1 v5 v3 v4)
theorem pz24_1 (x : Int) (hK : Kf (.int .u8 (subB x)) ⟨0, []⟩) (v3'1 : Int) (v4 : Int) (v5 : Int) (v3 : Int) (h : vz24_1 x v3'1 v4 v5 v3) : SemL Try.prog w0 fp ρi 0 32 [cz24_n8] [(3, some (.int .u8 v3'1)), (4, some (.int .u8 v4)), (5, some (.int .i64 v5))] ⟨0, []⟩ (kkz24_2 w0 fp ρi Kf x v3 v4 v5) :=
  L_regE hGaSub (rz24_1 x v3'1 v4 v5 v3 (fun e H => SemL Try.prog w0 fp ρi 0 32 [] e H (kkz24_2 w0 fp ρi Kf x v3 v4 v5)) ⟨h.1, (L_nil (pz24_0 x hK v3'1 (mulB v4 v4) v5 v3 v4 (h.2 (mulB v4 v4) rfl)))⟩)
theorem rz24_2 (x : Int) (v3 : Int) (v4 : Int) (v5 : Int) (Z : Env → Heap → Prop) (h : (((0 ≤ v3 ∧ v3 < 256) ∧ (0 ≤ v4 ∧ v4 < 256))) ∧ Z [(3, some (.int .u8 (mulB v3 v4))), (4, some (.int .u8 v4)), (5, some (.int .i64 v5))] ⟨0, []⟩) : EvC GaSub cz24_n6 [(3, some (.int .u8 v3)), (4, some (.int .u8 v4)), (5, some (.int .i64 v5))] ⟨0, []⟩ [3, 4, 5] [] Z := EvC.of (by kernel_rfl) h
def vz24_2 (x : Int) (v3 : Int) (v4 : Int) (v5 : Int) : Prop := (((0 ≤ v3 ∧ v3 < 256) ∧ (0 ≤ v4 ∧ v4 < 256))) ∧ (∀ v3'1 : Int, v3'1 = (mulB v3 v4) → vz24_1 x v3'1 v4 v5 v3)
theorem pz24_2 (x : Int) (hK : Kf (.int .u8 (subB x)) ⟨0, []⟩) (v3 : Int) (v4 : Int) (v5 : Int) (h : vz24_2 x v3 v4 v5) : SemL Try.prog w0 fp ρi 0 32 [cz24_n6, cz24_n8] [(3, some (.int .u8 v3)), (4, some (.int .u8 v4)), (5, some (.int .i64 v5))] ⟨0, []⟩ (kkz24_2 w0 fp ρi Kf x v3 v4 v5) :=
  L_regE hGaSub (rz24_2 x v3 v4 v5 (fun e H => SemL Try.prog w0 fp ρi 0 32 [cz24_n8] e H (kkz24_2 w0 fp ρi Kf x v3 v4 v5)) ⟨h.1, (pz24_1 x hK (mulB v3 v4) v4 v5 v3 (h.2 (mulB v3 v4) rfl))⟩)
def vz24_3 (x : Int) (v3 : Int) (v4 : Int) (v5 : Int) : Prop := ((decide (0 < (iand .i64 v5 1))) = true → (vz24_2 x v3 v4 v5)) ∧ ((decide (0 < (iand .i64 v5 1))) = false → (vz24_1 x v3 v4 v5 v3))
theorem pz24_3 (x : Int) (hK : Kf (.int .u8 (subB x)) ⟨0, []⟩) (v3 : Int) (v4 : Int) (v5 : Int) (h : vz24_3 x v3 v4 v5) : SemL Try.prog w0 fp ρi 0 32 [cz24_n7, cz24_n8] [(3, some (.int .u8 v3)), (4, some (.int .u8 v4)), (5, some (.int .i64 v5)), (15, some (.bool (decide (0 < (iand .i64 v5 1)))))] ⟨0, []⟩ (kkz24_2 w0 fp ρi Kf x v3 v4 v5) :=
  L_cond (q := (decide (0 < (iand .i64 v5 1)))) (by kernel_rfl) (fun hq => (lpk [3, 4, 5] [] (pz24_2 x hK v3 v4 v5 (h.1 hq)))) (fun hq => (L_skip (lpk [3, 4, 5] [] (pz24_1 x hK v3 v4 v5 v3 (h.2 hq)))))
theorem rz24_4 (x : Int) (v3 : Int) (v4 : Int) (v5 : Int) (Z : Env → Heap → Prop) (h : Z [(3, some (.int .u8 v3)), (4, some (.int .u8 v4)), (5, some (.int .i64 v5)), (15, some (.bool (decide (0 < (iand .i64 v5 1)))))] ⟨0, []⟩) : EvC GaSub cz24_n5 [(3, some (.int .u8 v3)), (4, some (.int .u8 v4)), (5, some (.int .i64 v5))] ⟨0, []⟩ [3, 4, 5, 15] [] Z := EvC.of (by kernel_rfl) h
def vz24_4 (x : Int) (v3 : Int) (v4 : Int) (v5 : Int) : Prop := vz24_3 x v3 v4 v5
theorem pz24_4 (x : Int) (hK : Kf (.int .u8 (subB x)) ⟨0, []⟩) (v3 : Int) (v4 : Int) (v5 : Int) (h : vz24_4 x v3 v4 v5) : SemL Try.prog w0 fp ρi 0 32 [cz24_n5, cz24_n7, cz24_n8] [(3, some (.int .u8 v3)), (4, some (.int .u8 v4)), (5, some (.int .i64 v5))] ⟨0, []⟩ (kkz24_2 w0 fp ρi Kf x v3 v4 v5) :=
  L_regE hGaSub (rz24_4 x v3 v4 v5 (fun e H => SemL Try.prog w0 fp ρi 0 32 [cz24_n7, cz24_n8] e H (kkz24_2 w0 fp ρi Kf x v3 v4 v5)) (pz24_3 x hK v3 v4 v5 h))
def vz24_5 (x : Int) (v3 : Int) (v4 : Int) (v5 : Int) : Prop := vz24_4 x v3 v4 v5
theorem pz24_5 (x : Int) (hK : Kf (.int .u8 (subB x)) ⟨0, []⟩) (v3 : Int) (v4 : Int) (v5 : Int) (h : vz24_5 x v3 v4 v5) : SemL Try.prog w0 fp ρi 0 32 [cz24_n9, cz24_n10] [(3, some (.int .u8 v3)), (4, some (.int .u8 v4)), (5, some (.int .i64 v5))] ⟨0, []⟩ (kkz24_1 w0 fp ρi Kf x v3 v4 v5) :=
  L_block (L_seq (L_seq (pz24_4 x hK v3 v4 v5 h)))
def kkz24_3 (w0 : World) (fp : Nat → Nat → Prop) (ρi : Rho) (Kf : SVal → Heap → Prop) (x : Int) : Cont := blockK 2 (fun e H => SemL Try.prog w0 fp ρi 0 32 [(.seq cz24_n23 .ret)] e H (fnK RaSub 0 Kf)) (fnK RaSub 0 Kf)
def ivz24_4 (x : Int) (v3 : Int) : Int × Int → Prop := fun s => match s with | (v6, v22) => 0 ≤ v22 ∧ v22 ≤ 5 ∧ v6 = rotS v3 v22.toNat
def muz24_4 (x : Int) (v3 : Int) : Int × Int → Nat := fun s => match s with | (v6, v22) => ((5 - v22).toNat)
def liz24_4 (x : Int) (v3 : Int) : Int × Int → Env := fun s => match s with | (v6, v22) => [(3, some (.int .u8 v3)), (6, some (.int .u8 v6)), (22, some (.int .i64 v22))]
def ljz24_4 (x : Int) (v3 : Int) : Int × Int → Heap := fun s => match s with | (v6, v22) => ⟨0, []⟩
def kkz24_4 (w0 : World) (fp : Nat → Nat → Prop) (ρi : Rho) (Kf : SVal → Heap → Prop) (x : Int) (v3 : Int) (v6 : Int) (v22 : Int) : Cont := loopK 0 (ivz24_4 x v3) (muz24_4 x v3) (liz24_4 x v3) (ljz24_4 x v3) (v6, v22) (kkz24_3 w0 fp ρi Kf x)
theorem rz24_6 (x : Int) (v3 : Int) (v6'1 : Int) (v22 : Int) (v6 : Int) (Z : Env → Heap → Prop) (h : Z [(3, some (.int .u8 v3)), (6, some (.int .u8 v6'1)), (22, some (.int .i64 (IntKind.i64.wrap (v22 + 1))))] ⟨0, []⟩) : EvC GaSub cz24_n20 [(3, some (.int .u8 v3)), (6, some (.int .u8 v6'1)), (22, some (.int .i64 v22))] ⟨0, []⟩ [3, 6, 22] [] Z := EvC.of (by kernel_rfl) h
def vz24_6 (x : Int) (v3 : Int) (v6'1 : Int) (v22 : Int) (v6 : Int) : Prop := (0 ≤ (IntKind.i64.wrap (v22 + 1)) ∧ (IntKind.i64.wrap (v22 + 1)) ≤ 5 ∧ v6'1 = rotS v3 (IntKind.i64.wrap (v22 + 1)).toNat) ∧ (((5 - (IntKind.i64.wrap (v22 + 1))).toNat) < ((5 - v22).toNat))
theorem pz24_6 (x : Int) (hK : Kf (.int .u8 (subB x)) ⟨0, []⟩) (v3 : Int) (v6'1 : Int) (v22 : Int) (v6 : Int) (h : vz24_6 x v3 v6'1 v22 v6) : SemL Try.prog w0 fp ρi 0 32 [cz24_n20] [(3, some (.int .u8 v3)), (6, some (.int .u8 v6'1)), (22, some (.int .i64 v22))] ⟨0, []⟩ (kkz24_4 w0 fp ρi Kf x v3 v6 v22) :=
  L_regE hGaSub (rz24_6 x v3 v6'1 v22 v6 (fun e H => SemL Try.prog w0 fp ρi 0 32 [] e H (kkz24_4 w0 fp ρi Kf x v3 v6 v22)) (L_nil (loop_back (x' := (v6'1, (IntKind.i64.wrap (v22 + 1)))) (τ := tau []) h.1 h.2 (sub_tau' [] [] rfl rfl (esc pbd (esc pbd (esc pbd envSub_nil))) heapSub_nil (by kernel_rfl) rfl))))
def kkz24_5 (w0 : World) (fp : Nat → Nat → Prop) (ρi : Rho) (Kf : SVal → Heap → Prop) (x : Int) (v3 : Int) (v6 : Int) (v22 : Int) : Cont := blockK 3 (fun e H => SemL Try.prog w0 fp ρi 0 32 [cz24_n20] e H (kkz24_4 w0 fp ρi Kf x v3 v6 v22)) (kkz24_4 w0 fp ρi Kf x v3 v6 v22)
theorem rz24_7 (x : Int) (v3 : Int) (v6 : Int) (v22 : Int) (Z : Env → Heap → Prop) (h : (((0 ≤ v3 ∧ v3 < 256) ∧ 0 ≤ v22 ∧ v22 ≤ 7)) ∧ Z [(3, some (.int .u8 v3)), (6, some (.int .u8 (ixor .u8 v6 (rotB v3 v22)))), (22, some (.int .i64 v22))] ⟨0, []⟩) : EvC GaSub cz24_n18 [(3, some (.int .u8 v3)), (6, some (.int .u8 v6)), (7, some (.int .i64 v22)), (22, some (.int .i64 v22))] ⟨0, []⟩ [3, 6, 22] [] Z := EvC.of (by kernel_rfl) h
def vz24_7 (x : Int) (v3 : Int) (v6 : Int) (v22 : Int) : Prop := (((0 ≤ v3 ∧ v3 < 256) ∧ 0 ≤ v22 ∧ v22 ≤ 7)) ∧ (∀ v6'1 : Int, v6'1 = (ixor .u8 v6 (rotB v3 v22)) → vz24_6 x v3 v6'1 v22 v6)
theorem pz24_7 (x : Int) (hK : Kf (.int .u8 (subB x)) ⟨0, []⟩) (v3 : Int) (v6 : Int) (v22 : Int) (h : vz24_7 x v3 v6 v22) : SemL Try.prog w0 fp ρi 0 32 [cz24_n18] [(3, some (.int .u8 v3)), (6, some (.int .u8 v6)), (7, some (.int .i64 v22)), (22, some (.int .i64 v22))] ⟨0, []⟩ (kkz24_5 w0 fp ρi Kf x v3 v6 v22) :=
  L_regE hGaSub (rz24_7 x v3 v6 v22 (fun e H => SemL Try.prog w0 fp ρi 0 32 [] e H (kkz24_5 w0 fp ρi Kf x v3 v6 v22)) ⟨h.1, (L_nil (pz24_6 x hK v3 (ixor .u8 v6 (rotB v3 v22)) v22 v6 (h.2 (ixor .u8 v6 (rotB v3 v22)) rfl)))⟩)
theorem rz24_8 (x : Int) (v3 : Int) (v6 : Int) (v22 : Int) (Z : Env → Heap → Prop) (h : Z [(3, some (.int .u8 v3)), (6, some (.int .u8 v6)), (7, some (.int .i64 v22)), (22, some (.int .i64 v22))] ⟨0, []⟩) : EvC GaSub cz24_n17 [(3, some (.int .u8 v3)), (6, some (.int .u8 v6)), (22, some (.int .i64 v22))] ⟨0, []⟩ [3, 6, 7, 22] [] Z := EvC.of (by kernel_rfl) h
def vz24_8 (x : Int) (v3 : Int) (v6 : Int) (v22 : Int) : Prop := vz24_7 x v3 v6 v22
theorem pz24_8 (x : Int) (hK : Kf (.int .u8 (subB x)) ⟨0, []⟩) (v3 : Int) (v6 : Int) (v22 : Int) (h : vz24_8 x v3 v6 v22) : SemL Try.prog w0 fp ρi 0 32 [cz24_n17, cz24_n18] [(3, some (.int .u8 v3)), (6, some (.int .u8 v6)), (22, some (.int .i64 v22))] ⟨0, []⟩ (kkz24_5 w0 fp ρi Kf x v3 v6 v22) :=
  L_regE hGaSub (rz24_8 x v3 v6 v22 (fun e H => SemL Try.prog w0 fp ρi 0 32 [cz24_n18] e H (kkz24_5 w0 fp ρi Kf x v3 v6 v22)) (pz24_7 x hK v3 v6 v22 h))
def vz24_9 (x : Int) (v3 : Int) (v6 : Int) (v22 : Int) : Prop := vz24_8 x v3 v6 v22
theorem pz24_9 (x : Int) (hK : Kf (.int .u8 (subB x)) ⟨0, []⟩) (v3 : Int) (v6 : Int) (v22 : Int) (h : vz24_9 x v3 v6 v22) : SemL Try.prog w0 fp ρi 0 32 [cz24_n19, cz24_n20] [(3, some (.int .u8 v3)), (6, some (.int .u8 v6)), (22, some (.int .i64 v22))] ⟨0, []⟩ (kkz24_4 w0 fp ρi Kf x v3 v6 v22) :=
  L_block (L_seq (pz24_8 x hK v3 v6 v22 h))
theorem rz24_10 (x : Int) (v6 : Int) (Z : Env → Heap → Prop) (h : Z [(2, some (.int .u8 v6))] ⟨0, []⟩) : EvC GaSub cz24_n23 [(6, some (.int .u8 v6))] ⟨0, []⟩ [2] [] Z := EvC.of (by kernel_rfl) h
theorem rtz24_0 (x : Int) (v6 : Int) : RetC RaSub [(2, some (.int .u8 v6))] ⟨0, []⟩ (.int .u8 v6) := RetC.of (fun Z => by kernel_rfl)
def vz24_10 (x : Int) (v6 : Int) : Prop := v6 = (subB x)
theorem pz24_10 (x : Int) (hK : Kf (.int .u8 (subB x)) ⟨0, []⟩) (v6 : Int) (h : vz24_10 x v6) : SemL Try.prog w0 fp ρi 0 32 [cz24_n23, .ret] [(6, some (.int .u8 v6))] ⟨0, []⟩ (fnK RaSub 0 Kf) :=
  L_regE hGaSub (rz24_10 x v6 (fun e H => SemL Try.prog w0 fp ρi 0 32 [.ret] e H (fnK RaSub 0 Kf)) (L_retE (R := RaSub) (m := 0) (Kf := Kf) (fun _ _ h => h) (rtz24_0 x v6) (ret_plain rfl (by kernel_rfl) (cg1 (fun (z1 : Int) => (.int .u8 z1 : SVal)) h) hK)))
def vz24_11 (x : Int) (v3 : Int) (v6 : Int) (v22 : Int) : Prop := ((decide (v22 < 5)) = true → (vz24_9 x v3 v6 v22)) ∧ ((decide (v22 < 5)) = false → (vz24_10 x v6))
theorem pz24_11 (x : Int) (hK : Kf (.int .u8 (subB x)) ⟨0, []⟩) (v3 : Int) (v6 : Int) (v22 : Int) (h : vz24_11 x v3 v6 v22) : SemL Try.prog w0 fp ρi 0 32 [cz24_n16, (.seq cz24_n19 cz24_n20)] [(3, some (.int .u8 v3)), (6, some (.int .u8 v6)), (22, some (.int .i64 v22)), (23, some (.bool (decide (v22 < 5))))] ⟨0, []⟩ (kkz24_4 w0 fp ρi Kf x v3 v6 v22) :=
  L_cond (q := (decide (v22 < 5))) (by kernel_rfl) (fun hq => (L_skip (lpk [3, 6, 22] [] (L_seq (pz24_9 x hK v3 v6 v22 (h.1 hq)))))) (fun hq => (L_exit (lpk [6] [] (L_seq (pz24_10 x hK v6 (h.2 hq))))))
theorem rz24_12 (x : Int) (v3 : Int) (v6 : Int) (v22 : Int) (Z : Env → Heap → Prop) (h : Z [(3, some (.int .u8 v3)), (6, some (.int .u8 v6)), (22, some (.int .i64 v22)), (23, some (.bool (decide (v22 < 5))))] ⟨0, []⟩) : EvC GaSub cz24_n15 [(3, some (.int .u8 v3)), (6, some (.int .u8 v6)), (22, some (.int .i64 v22))] ⟨0, []⟩ [3, 6, 22, 23] [] Z := EvC.of (by kernel_rfl) h
def vz24_12 (x : Int) (v3 : Int) (v6 : Int) (v22 : Int) : Prop := vz24_11 x v3 v6 v22
theorem pz24_12 (x : Int) (hK : Kf (.int .u8 (subB x)) ⟨0, []⟩) (v3 : Int) (v6 : Int) (v22 : Int) (h : vz24_12 x v3 v6 v22) : SemL Try.prog w0 fp ρi 0 32 [cz24_n15, (.seq cz24_n16 (.seq cz24_n19 cz24_n20))] [(3, some (.int .u8 v3)), (6, some (.int .u8 v6)), (22, some (.int .i64 v22))] ⟨0, []⟩ (kkz24_4 w0 fp ρi Kf x v3 v6 v22) :=
  L_regE hGaSub (rz24_12 x v3 v6 v22 (fun e H => SemL Try.prog w0 fp ρi 0 32 [(.seq cz24_n16 (.seq cz24_n19 cz24_n20))] e H (kkz24_4 w0 fp ρi Kf x v3 v6 v22)) (L_seq (pz24_11 x hK v3 v6 v22 h)))
def vz24_13 (x : Int) (v3 : Int) : Prop := (0 ≤ (0 : Int) ∧ (0 : Int) ≤ 5 ∧ (99 : Int) = rotS v3 (0 : Int).toNat) ∧ (∀ (v6 : Int) (v22 : Int), (0 ≤ v22 ∧ v22 ≤ 5 ∧ v6 = rotS v3 v22.toNat) → (vz24_12 x v3 v6 v22))
theorem pz24_13 (x : Int) (hK : Kf (.int .u8 (subB x)) ⟨0, []⟩) (v3 : Int) (h : vz24_13 x v3) : SemL Try.prog w0 fp ρi 0 32 [cz24_n21] [(3, some (.int .u8 v3)), (6, some (.int .u8 99)), (22, some (.int .i64 0))] ⟨0, []⟩ (kkz24_3 w0 fp ρi Kf x) :=
  L_loop (ivz24_4 x v3) (muz24_4 x v3) (liz24_4 x v3) (ljz24_4 x v3) ⟨(99, 0), tau [], h.1, (sub_tau' [] [] rfl rfl (esc pbd (esc pbd (esc pbd envSub_nil))) heapSub_nil (by kernel_rfl) rfl)⟩ (fun s => match s with | (v6, v22) => fun hi => (L_seq (pz24_12 x hK v3 v6 v22 (h.2 v6 v22 hi))))
def vz24_14 (x : Int) (v3 : Int) : Prop := vz24_13 x v3
theorem pz24_14 (x : Int) (hK : Kf (.int .u8 (subB x)) ⟨0, []⟩) (v3 : Int) (h : vz24_14 x v3) : SemL Try.prog w0 fp ρi 0 32 [cz24_n22, (.seq cz24_n23 .ret)] [(3, some (.int .u8 v3)), (6, some (.int .u8 99)), (22, some (.int .i64 0))] ⟨0, []⟩ (fnK RaSub 0 Kf) :=
  L_block (pz24_13 x hK v3 h)
theorem rz24_15 (x : Int) (v3 : Int) (Z : Env → Heap → Prop) (h : Z [(3, some (.int .u8 v3)), (6, some (.int .u8 99)), (22, some (.int .i64 0))] ⟨0, []⟩) : EvC GaSub cz24_n14 [(3, some (.int .u8 v3)), (6, some (.int .u8 99))] ⟨0, []⟩ [3, 6, 22] [] Z := EvC.of (by kernel_rfl) h
def vz24_15 (x : Int) (v3 : Int) : Prop := vz24_14 x v3
theorem pz24_15 (x : Int) (hK : Kf (.int .u8 (subB x)) ⟨0, []⟩) (v3 : Int) (h : vz24_15 x v3) : SemL Try.prog w0 fp ρi 0 32 [cz24_n14, cz24_n22, (.seq cz24_n23 .ret)] [(3, some (.int .u8 v3)), (6, some (.int .u8 99))] ⟨0, []⟩ (fnK RaSub 0 Kf) :=
  L_regE hGaSub (rz24_15 x v3 (fun e H => SemL Try.prog w0 fp ρi 0 32 [cz24_n22, (.seq cz24_n23 .ret)] e H (fnK RaSub 0 Kf)) (pz24_14 x hK v3 h))
theorem rz24_16 (x : Int) (v3 : Int) (Z : Env → Heap → Prop) (h : Z [(3, some (.int .u8 v3)), (6, some (.int .u8 99))] ⟨0, []⟩) : EvC GaSub cz24_n13 [(3, some (.int .u8 v3))] ⟨0, []⟩ [3, 6] [] Z := EvC.of (by kernel_rfl) h
def vz24_16 (x : Int) (v3 : Int) : Prop := vz24_15 x v3
theorem pz24_16 (x : Int) (hK : Kf (.int .u8 (subB x)) ⟨0, []⟩) (v3 : Int) (h : vz24_16 x v3) : SemL Try.prog w0 fp ρi 0 32 [cz24_n13, (.seq (.seq cz24_n14 cz24_n22) (.seq cz24_n23 .ret))] [(3, some (.int .u8 v3))] ⟨0, []⟩ (fnK RaSub 0 Kf) :=
  L_regE hGaSub (rz24_16 x v3 (fun e H => SemL Try.prog w0 fp ρi 0 32 [(.seq (.seq cz24_n14 cz24_n22) (.seq cz24_n23 .ret))] e H (fnK RaSub 0 Kf)) (L_seq (L_seq (pz24_15 x hK v3 h))))
def vz24_17 (x : Int) (v3 : Int) (v4 : Int) (v5 : Int) : Prop := ((decide (0 < v5)) = true → (vz24_5 x v3 v4 v5)) ∧ ((decide (0 < v5)) = false → (vz24_16 x v3))
theorem pz24_17 (x : Int) (hK : Kf (.int .u8 (subB x)) ⟨0, []⟩) (v3 : Int) (v4 : Int) (v5 : Int) (h : vz24_17 x v3 v4 v5) : SemL Try.prog w0 fp ρi 0 32 [cz24_n4, (.seq cz24_n9 cz24_n10)] [(3, some (.int .u8 v3)), (4, some (.int .u8 v4)), (5, some (.int .i64 v5)), (10, some (.bool (decide (0 < v5))))] ⟨0, []⟩ (kkz24_1 w0 fp ρi Kf x v3 v4 v5) :=
  L_cond (q := (decide (0 < v5))) (by kernel_rfl) (fun hq => (L_skip (lpk [3, 4, 5] [] (L_seq (pz24_5 x hK v3 v4 v5 (h.1 hq)))))) (fun hq => (L_exit (lpk [3] [] (L_seq (pz24_16 x hK v3 (h.2 hq))))))
theorem rz24_18 (x : Int) (v3 : Int) (v4 : Int) (v5 : Int) (Z : Env → Heap → Prop) (h : Z [(3, some (.int .u8 v3)), (4, some (.int .u8 v4)), (5, some (.int .i64 v5)), (10, some (.bool (decide (0 < v5))))] ⟨0, []⟩) : EvC GaSub cz24_n3 [(3, some (.int .u8 v3)), (4, some (.int .u8 v4)), (5, some (.int .i64 v5))] ⟨0, []⟩ [3, 4, 5, 10] [] Z := EvC.of (by kernel_rfl) h
def vz24_18 (x : Int) (v3 : Int) (v4 : Int) (v5 : Int) : Prop := vz24_17 x v3 v4 v5
theorem pz24_18 (x : Int) (hK : Kf (.int .u8 (subB x)) ⟨0, []⟩) (v3 : Int) (v4 : Int) (v5 : Int) (h : vz24_18 x v3 v4 v5) : SemL Try.prog w0 fp ρi 0 32 [cz24_n3, cz24_n4, (.seq cz24_n9 cz24_n10)] [(3, some (.int .u8 v3)), (4, some (.int .u8 v4)), (5, some (.int .i64 v5))] ⟨0, []⟩ (kkz24_1 w0 fp ρi Kf x v3 v4 v5) :=
  L_regE hGaSub (rz24_18 x v3 v4 v5 (fun e H => SemL Try.prog w0 fp ρi 0 32 [cz24_n4, (.seq cz24_n9 cz24_n10)] e H (kkz24_1 w0 fp ρi Kf x v3 v4 v5)) (pz24_17 x hK v3 v4 v5 h))
def vz24_19 (x : Int) : Prop := (∃ i : Nat, i ≤ 8 ∧ (254 : Int) = pwN i ∧ (1 : Int) = (pwS x i).1 ∧ x = (pwS x i).2) ∧ (∀ (v3 : Int) (v4 : Int) (v5 : Int), (∃ i : Nat, i ≤ 8 ∧ v5 = pwN i ∧ v3 = (pwS x i).1 ∧ v4 = (pwS x i).2) → (vz24_18 x v3 v4 v5))
theorem pz24_19 (x : Int) (hK : Kf (.int .u8 (subB x)) ⟨0, []⟩) (h : vz24_19 x) : SemL Try.prog w0 fp ρi 0 32 [cz24_n11] [(3, some (.int .u8 1)), (4, some (.int .u8 x)), (5, some (.int .i64 254))] ⟨0, []⟩ (kkz24_0 w0 fp ρi Kf x) :=
  L_loop (ivz24_1 x) (muz24_1 x) (liz24_1 x) (ljz24_1 x) ⟨(1, x, 254), tau [], h.1, (sub_tau' [] [] rfl rfl (esc pbd (esc pbd (esc pbd envSub_nil))) heapSub_nil (by kernel_rfl) rfl)⟩ (fun s => match s with | (v3, v4, v5) => fun hi => (L_seq (L_seq (pz24_18 x hK v3 v4 v5 (h.2 v3 v4 v5 hi)))))
def vz24_20 (x : Int) : Prop := vz24_19 x
theorem pz24_20 (x : Int) (hK : Kf (.int .u8 (subB x)) ⟨0, []⟩) (h : vz24_20 x) : SemL Try.prog w0 fp ρi 0 32 [cz24_n12, (.seq cz24_n13 (.seq (.seq cz24_n14 cz24_n22) (.seq cz24_n23 .ret)))] [(3, some (.int .u8 1)), (4, some (.int .u8 x)), (5, some (.int .i64 254))] ⟨0, []⟩ (fnK RaSub 0 Kf) :=
  L_block (pz24_19 x hK h)
theorem rz24_21 (x : Int) (Z : Env → Heap → Prop) (h : Z [(3, some (.int .u8 1)), (4, some (.int .u8 x)), (5, some (.int .i64 254))] ⟨0, []⟩) : EvC GaSub cz24_n2 [(3, some (.int .u8 1)), (4, some (.int .u8 x))] ⟨0, []⟩ [3, 4, 5] [] Z := EvC.of (by kernel_rfl) h
def vz24_21 (x : Int) : Prop := vz24_20 x
theorem pz24_21 (x : Int) (hK : Kf (.int .u8 (subB x)) ⟨0, []⟩) (h : vz24_21 x) : SemL Try.prog w0 fp ρi 0 32 [cz24_n2, cz24_n12, (.seq cz24_n13 (.seq (.seq cz24_n14 cz24_n22) (.seq cz24_n23 .ret)))] [(3, some (.int .u8 1)), (4, some (.int .u8 x))] ⟨0, []⟩ (fnK RaSub 0 Kf) :=
  L_regE hGaSub (rz24_21 x (fun e H => SemL Try.prog w0 fp ρi 0 32 [cz24_n12, (.seq cz24_n13 (.seq (.seq cz24_n14 cz24_n22) (.seq cz24_n23 .ret)))] e H (fnK RaSub 0 Kf)) (pz24_20 x hK h))
theorem rz24_22 (x : Int) (Z : Env → Heap → Prop) (h : Z [(3, some (.int .u8 1)), (4, some (.int .u8 x))] ⟨0, []⟩) : EvC GaSub cz24_n1 [(0, some (.int .u8 x))] ⟨0, []⟩ [3, 4] [] Z := EvC.of (by kernel_rfl) h
def vz24_22 (x : Int) : Prop := vz24_21 x
theorem pz24_22 (x : Int) (hK : Kf (.int .u8 (subB x)) ⟨0, []⟩) (h : vz24_22 x) : SemL Try.prog w0 fp ρi 0 32 [cz24_n1, (.seq (.seq cz24_n2 cz24_n12) (.seq cz24_n13 (.seq (.seq cz24_n14 cz24_n22) (.seq cz24_n23 .ret))))] [(0, some (.int .u8 x))] ⟨0, []⟩ (fnK RaSub 0 Kf) :=
  L_regE hGaSub (rz24_22 x (fun e H => SemL Try.prog w0 fp ρi 0 32 [(.seq (.seq cz24_n2 cz24_n12) (.seq cz24_n13 (.seq (.seq cz24_n14 cz24_n22) (.seq cz24_n23 .ret))))] e H (fnK RaSub 0 Kf)) (L_seq (L_seq (pz24_21 x hK h))))
theorem rz24_23 (x : Int) (Z : Env → Heap → Prop) (h : Z [(0, some (.int .u8 x))] ⟨0, []⟩) : EvC GaSub cz24_n0 [(0, some (.int .u8 x))] ⟨0, []⟩ [0] [] Z := EvC.of (by kernel_rfl) h
def vz24_23 (x : Int) : Prop := vz24_22 x
theorem pz24_23 (x : Int) (hK : Kf (.int .u8 (subB x)) ⟨0, []⟩) (h : vz24_23 x) : SemL Try.prog w0 fp ρi 0 32 [cz24_n0, (.seq cz24_n1 (.seq (.seq cz24_n2 cz24_n12) (.seq cz24_n13 (.seq (.seq cz24_n14 cz24_n22) (.seq cz24_n23 .ret)))))] [(0, some (.int .u8 x))] ⟨0, []⟩ (fnK RaSub 0 Kf) :=
  L_regE hGaSub (rz24_23 x (fun e H => SemL Try.prog w0 fp ρi 0 32 [(.seq cz24_n1 (.seq (.seq cz24_n2 cz24_n12) (.seq cz24_n13 (.seq (.seq cz24_n14 cz24_n22) (.seq cz24_n23 .ret)))))] e H (fnK RaSub 0 Kf)) (L_seq (pz24_22 x hK h)))
def vcaSub (x : Int) : Prop := vz24_23 x
theorem waSub (x : Int) (hK : Kf (.int .u8 (subB x)) ⟨0, []⟩) (h : vcaSub x) : SemL Try.prog w0 fp ρi 0 32 [caSub] [(0, some (.int .u8 x))] ⟨0, []⟩ (fnK RaSub 0 Kf) :=
  (L_seq (pz24_23 x hK h))
end
theorem okaSub (x : Int) (hpre : (0 ≤ x ∧ x < 256)) : vcaSub x := by
  unfold vcaSub vz24_23 vz24_22 vz24_21 vz24_20 vz24_19 vz24_18 vz24_17 vz24_16 vz24_15 vz24_14 vz24_13 vz24_12 vz24_11 vz24_10 vz24_9 vz24_8 vz24_7 vz24_6 vz24_5 vz24_4 vz24_3 vz24_2 vz24_1 vz24_0
  refine ⟨⟨0, by omega, rfl, rfl, rfl⟩, ?_⟩
  rintro v3 v4 v5 ⟨i, hi, rfl, rfl, rfl⟩
  have hb := pwS_byte hpre i
  refine ⟨fun hlt => ?_, fun hge => ?_⟩
  · have hlt := (pwN_pos i hi).1 (of_decide_eq_true hlt)
    have hm := pwN_mu i hlt
    refine ⟨fun h => ⟨hb, ?_⟩, fun h => ⟨⟨hb.2, hb.2⟩, ?_⟩⟩
    · rintro v31 rfl
      refine ⟨⟨hb.2, hb.2⟩, ?_⟩
      rintro v41 rfl
      exact ⟨⟨i + 1, by omega, rfl, (if_pos (of_decide_eq_true h)).symm, rfl⟩, hm⟩
    · rintro v41 rfl
      exact ⟨⟨i + 1, by omega, rfl, (if_neg (of_decide_eq_false h)).symm, rfl⟩, hm⟩
  · have hge := of_decide_eq_false hge
    have e : i = 8 := by
      have := pwN_pos i hi
      omega
    subst e
    refine ⟨⟨by omega, by omega, rfl⟩, ?_⟩
    rintro v6 v22 ⟨j0, j1, rfl⟩
    refine ⟨fun hlt => ⟨⟨hb.1, by omega, by omega⟩, ?_⟩, fun hge => ?_⟩
    · have hlt := of_decide_eq_true hlt
      rintro v61 rfl
      have w1 : IntKind.i64.wrap (v22 + 1) = v22 + 1 := by rw [wi64]; omega
      rw [w1]
      refine ⟨⟨by omega, by omega, ?_⟩, by omega⟩
      rw [show (v22 + 1).toNat = v22.toNat + 1 by omega, rotS, show ((v22.toNat : Nat) : Int) = v22 by omega]
    · have hge := of_decide_eq_false hge
      rw [← sub_tab hpre, show v22 = 5 by omega]
      rfl
theorem saSub : Sound Try.prog 24 (pureS PaSub) := by
  refine fn_soundA caSub_fits ?_
  intro args H K h
  obtain ⟨pre, v, hP, hpre, rfl, hK⟩ := pureS_inv h
  unfold PaSub at hP
  split at hP
  · cases hP
    exact ⟨rfl, fun w0 fp ρi => waSub _ hK (okaSub _ hpre)⟩
  · cases hP
def PaBuild : PSpec := fun args => match args with
  | [] => some (True, .agg [.ints .u8 256 sboxT])
  | _ => none
def pcaBuild : PCon := ⟨49, PaBuild⟩
def cz49_n0 : ACode := .reg (.op (some 0) (.alloc [.ints .u8 256 (List.replicate 256 0)]) .nil)
def cz49_n1 : ACode := .reg (.op (some 2) (.mov (.cn (.int .i64 0))) .nil)
def cz49_n2 : ACode := .reg (.op (some 3) (.bin .lss (.tm 2) (.cn (.int .i64 256))) .nil)
def cz49_n3 : ACode := .cond (.tm 3) .skip (.exit 0)
def cz49_n4 : ACode := .reg (.op (some 4) (.mov (.tm 2)) (.op (some 1) (.mov (.tm 4)) .nil))
def cz49_n5 : ACode := .reg (.op (some 5) (.mov (.tm 1)) (.op (some 6) (.mov (.tm 1)) (.op (some 7) (.conv .u8 (.tm 6)) (.op (some 8) (.call 24 [(.tm 7)]) (.op (some 9) (.idxA (.tm 0) (.tm 5) 256 1) (.op none (.store1 (.tm 9) (.tm 8)) .nil))))))
def cz49_n6 : ACode := .block 1 (.seq cz49_n4 cz49_n5)
def cz49_n7 : ACode := .reg (.op (some 10) (.bin .add (.tm 2) (.cn (.int .i64 1))) (.op (some 2) (.mov (.tm 10)) .nil))
def cz49_n8 : ACode := .loop (.seq cz49_n2 (.seq cz49_n3 (.seq cz49_n6 cz49_n7)))
def cz49_n9 : ACode := .block 0 cz49_n8
def cz49_n10 : ACode := .reg (.op (some 11) (.loadA 256 (.tm 0)) (.op none (.storeA 256 (.tm 0) (.tm 11)) .nil))
def caBuild : ACode := (.seq cz49_n0 (.seq (.seq cz49_n1 cz49_n9) (.seq cz49_n10 .ret)))
def RaBuild : Res := .one (.cA 0 256)
theorem caBuild_fits : fnFits Try.prog 49 0 12 caBuild RaBuild = true := by kernel_rfl
def GaBuild : Calls' := withP [pcaSub] []
theorem hGaBuild : CallOk Try.prog GaBuild := withP_ok ⟨saSub, trivial⟩ trivial
section
variable {w0 : World} {fp : Nat → Nat → Prop} {ρi : Rho} {Kf : SVal → Heap → Prop}
def kkz49_0 (w0 : World) (fp : Nat → Nat → Prop) (ρi : Rho) (Kf : SVal → Heap → Prop) : Cont := blockK 0 (fun e H => SemL Try.prog w0 fp ρi 0 12 [(.seq cz49_n10 .ret)] e H (fnK RaBuild 0 Kf)) (fnK RaBuild 0 Kf)
def ivz49_1 : Int × List Int → Prop := fun s => match s with | (v2, h0) => 0 ≤ v2 ∧ v2 ≤ 256 ∧ h0.length = 256 ∧ List.take v2.toNat h0 = List.take v2.toNat sboxT
def muz49_1 : Int × List Int → Nat := fun s => match s with | (v2, h0) => ((256 - v2).toNat)
def liz49_1 : Int × List Int → Env := fun s => match s with | (v2, h0) => [(0, some (.ptr ⟨0, 0, 0, 1⟩ 256)), (2, some (.int .i64 v2))]
def ljz49_1 : Int × List Int → Heap := fun s => match s with | (v2, h0) => ⟨1, [(0, some ⟨true, [.ints .u8 256 h0], 0⟩)]⟩
def kkz49_1 (w0 : World) (fp : Nat → Nat → Prop) (ρi : Rho) (Kf : SVal → Heap → Prop) (v2 : Int) (h0 : List Int) : Cont := loopK 0 (ivz49_1) (muz49_1) (liz49_1) (ljz49_1) (v2, h0) (kkz49_0 w0 fp ρi Kf)
theorem rz49_0 (v2 : Int) (h0'1 : List Int) (h0 : List Int) (Z : Env → Heap → Prop) (h : Z [(0, some (.ptr ⟨0, 0, 0, 1⟩ 256)), (2, some (.int .i64 (IntKind.i64.wrap (v2 + 1))))] ⟨1, [(0, some ⟨true, [.ints .u8 256 h0'1], 0⟩)]⟩) : EvC GaBuild cz49_n7 [(0, some (.ptr ⟨0, 0, 0, 1⟩ 256)), (2, some (.int .i64 v2))] ⟨1, [(0, some ⟨true, [.ints .u8 256 h0'1], 0⟩)]⟩ [0, 2] [0] Z := EvC.of (by kernel_rfl) h
def vz49_0 (v2 : Int) (h0'1 : List Int) (h0 : List Int) : Prop := (0 ≤ (IntKind.i64.wrap (v2 + 1)) ∧ (IntKind.i64.wrap (v2 + 1)) ≤ 256 ∧ h0'1.length = 256 ∧ List.take (IntKind.i64.wrap (v2 + 1)).toNat h0'1 = List.take (IntKind.i64.wrap (v2 + 1)).toNat sboxT) ∧ (((256 - (IntKind.i64.wrap (v2 + 1))).toNat) < ((256 - v2).toNat))
theorem pz49_0 (hK : Kf (.agg [.ints .u8 256 sboxT]) ⟨0, []⟩) (v2 : Int) (h0'1 : List Int) (h0 : List Int) (h : vz49_0 v2 h0'1 h0) : SemL Try.prog w0 fp ρi 0 12 [cz49_n7] [(0, some (.ptr ⟨0, 0, 0, 1⟩ 256)), (2, some (.int .i64 v2))] ⟨1, [(0, some ⟨true, [.ints .u8 256 h0'1], 0⟩)]⟩ (kkz49_1 w0 fp ρi Kf v2 h0) :=
  L_regE hGaBuild (rz49_0 v2 h0'1 h0 (fun e H => SemL Try.prog w0 fp ρi 0 12 [] e H (kkz49_1 w0 fp ρi Kf v2 h0)) (L_nil (loop_back (x' := ((IntKind.i64.wrap (v2 + 1)), h0'1)) (τ := tau []) h.1 h.2 (sub_tau' [] [0] rfl rfl (esc bpt (esc pbd envSub_nil)) (hsc pcs heapSub_nil) (by kernel_rfl) rfl))))
def kkz49_2 (w0 : World) (fp : Nat → Nat → Prop) (ρi : Rho) (Kf : SVal → Heap → Prop) (v2 : Int) (h0 : List Int) : Cont := blockK 1 (fun e H => SemL Try.prog w0 fp ρi 0 12 [cz49_n7] e H (kkz49_1 w0 fp ρi Kf v2 h0)) (kkz49_1 w0 fp ρi Kf v2 h0)
theorem rz49_1 (v2 : Int) (h0 : List Int) (Z : Env → Heap → Prop) (h : ((0 ≤ (IntKind.u8.wrap v2) ∧ (IntKind.u8.wrap v2) < 256)) ∧ ((0 ≤ v2)) ∧ ((v2 < 256)) ∧ (((0 + ((Int.toNat v2) * 1)) < 256)) ∧ (((0 + ((Int.toNat v2) * 1)) < List.length h0)) ∧ Z [(0, some (.ptr ⟨0, 0, 0, 1⟩ 256)), (2, some (.int .i64 v2))] ⟨1, [(0, some ⟨true, [.ints .u8 256 (List.set h0 (0 + ((Int.toNat v2) * 1)) (subB (IntKind.u8.wrap v2)))], 0⟩)]⟩) : EvC GaBuild cz49_n5 [(0, some (.ptr ⟨0, 0, 0, 1⟩ 256)), (1, some (.int .i64 v2)), (2, some (.int .i64 v2))] ⟨1, [(0, some ⟨true, [.ints .u8 256 h0], 0⟩)]⟩ [0, 2] [0] Z := EvC.of (by kernel_rfl) h
def vz49_1 (v2 : Int) (h0 : List Int) : Prop := ((0 ≤ (IntKind.u8.wrap v2) ∧ (IntKind.u8.wrap v2) < 256)) ∧ (((0 ≤ v2)) ∧ (((v2 < 256)) ∧ ((((0 + ((Int.toNat v2) * 1)) < 256)) ∧ ((((0 + ((Int.toNat v2) * 1)) < List.length h0)) ∧ (∀ h0'1 : List Int, h0'1 = (List.set h0 (0 + ((Int.toNat v2) * 1)) (subB (IntKind.u8.wrap v2))) → vz49_0 v2 h0'1 h0)))))
theorem pz49_1 (hK : Kf (.agg [.ints .u8 256 sboxT]) ⟨0, []⟩) (v2 : Int) (h0 : List Int) (h : vz49_1 v2 h0) : SemL Try.prog w0 fp ρi 0 12 [cz49_n5] [(0, some (.ptr ⟨0, 0, 0, 1⟩ 256)), (1, some (.int .i64 v2)), (2, some (.int .i64 v2))] ⟨1, [(0, some ⟨true, [.ints .u8 256 h0], 0⟩)]⟩ (kkz49_2 w0 fp ρi Kf v2 h0) :=
  L_regE hGaBuild (rz49_1 v2 h0 (fun e H => SemL Try.prog w0 fp ρi 0 12 [] e H (kkz49_2 w0 fp ρi Kf v2 h0)) ⟨h.1, ⟨h.2.1, ⟨h.2.2.1, ⟨h.2.2.2.1, ⟨h.2.2.2.2.1, (L_nil (pz49_0 hK v2 (List.set h0 (0 + ((Int.toNat v2) * 1)) (subB (IntKind.u8.wrap v2))) h0 (h.2.2.2.2.2 (List.set h0 (0 + ((Int.toNat v2) * 1)) (subB (IntKind.u8.wrap v2))) rfl)))⟩⟩⟩⟩⟩)
theorem rz49_2 (v2 : Int) (h0 : List Int) (Z : Env → Heap → Prop) (h : Z [(0, some (.ptr ⟨0, 0, 0, 1⟩ 256)), (1, some (.int .i64 v2)), (2, some (.int .i64 v2))] ⟨1, [(0, some ⟨true, [.ints .u8 256 h0], 0⟩)]⟩) : EvC GaBuild cz49_n4 [(0, some (.ptr ⟨0, 0, 0, 1⟩ 256)), (2, some (.int .i64 v2))] ⟨1, [(0, some ⟨true, [.ints .u8 256 h0], 0⟩)]⟩ [0, 1, 2] [0] Z := EvC.of (by kernel_rfl) h
def vz49_2 (v2 : Int) (h0 : List Int) : Prop := vz49_1 v2 h0
theorem pz49_2 (hK : Kf (.agg [.ints .u8 256 sboxT]) ⟨0, []⟩) (v2 : Int) (h0 : List Int) (h : vz49_2 v2 h0) : SemL Try.prog w0 fp ρi 0 12 [cz49_n4, cz49_n5] [(0, some (.ptr ⟨0, 0, 0, 1⟩ 256)), (2, some (.int .i64 v2))] ⟨1, [(0, some ⟨true, [.ints .u8 256 h0], 0⟩)]⟩ (kkz49_2 w0 fp ρi Kf v2 h0) :=
  L_regE hGaBuild (rz49_2 v2 h0 (fun e H => SemL Try.prog w0 fp ρi 0 12 [cz49_n5] e H (kkz49_2 w0 fp ρi Kf v2 h0)) (pz49_1 hK v2 h0 h))
def vz49_3 (v2 : Int) (h0 : List Int) : Prop := vz49_2 v2 h0
theorem pz49_3 (hK : Kf (.agg [.ints .u8 256 sboxT]) ⟨0, []⟩) (v2 : Int) (h0 : List Int) (h : vz49_3 v2 h0) : SemL Try.prog w0 fp ρi 0 12 [cz49_n6, cz49_n7] [(0, some (.ptr ⟨0, 0, 0, 1⟩ 256)), (2, some (.int .i64 v2))] ⟨1, [(0, some ⟨true, [.ints .u8 256 h0], 0⟩)]⟩ (kkz49_1 w0 fp ρi Kf v2 h0) :=
  L_block (L_seq (pz49_2 hK v2 h0 h))
theorem rz49_4 (h0 : List Int) (Z : Env → Heap → Prop) (h : Z [(0, some (.ptr ⟨0, 0, 0, 1⟩ 256))] ⟨1, [(0, some ⟨true, [.ints .u8 256 h0], 0⟩)]⟩) : EvC GaBuild cz49_n10 [(0, some (.ptr ⟨0, 0, 0, 1⟩ 256))] ⟨1, [(0, some ⟨true, [.ints .u8 256 h0], 0⟩)]⟩ [0] [0] Z := EvC.of (by kernel_rfl) h
theorem rtz49_0 (h0 : List Int) : RetC RaBuild [(0, some (.ptr ⟨0, 0, 0, 1⟩ 256))] ⟨1, [(0, some ⟨true, [.ints .u8 256 h0], 0⟩)]⟩ (.agg [.ints .u8 256 h0]) := RetC.of (fun Z => by kernel_rfl)
def vz49_4 (h0 : List Int) : Prop := h0 = sboxT
theorem pz49_4 (hK : Kf (.agg [.ints .u8 256 sboxT]) ⟨0, []⟩) (h0 : List Int) (h : vz49_4 h0) : SemL Try.prog w0 fp ρi 0 12 [cz49_n10, .ret] [(0, some (.ptr ⟨0, 0, 0, 1⟩ 256))] ⟨1, [(0, some ⟨true, [.ints .u8 256 h0], 0⟩)]⟩ (fnK RaBuild 0 Kf) :=
  L_regE hGaBuild (rz49_4 h0 (fun e H => SemL Try.prog w0 fp ρi 0 12 [.ret] e H (fnK RaBuild 0 Kf)) (L_retE (R := RaBuild) (m := 0) (Kf := Kf) (fun _ _ h => h) (rtz49_0 h0) (ret_plain rfl (by kernel_rfl) (cg1 (fun (z1 : List Int) => (.agg [.ints .u8 256 z1] : SVal)) h) hK)))
def vz49_5 (v2 : Int) (h0 : List Int) : Prop := ((decide (v2 < 256)) = true → (vz49_3 v2 h0)) ∧ ((decide (v2 < 256)) = false → (vz49_4 h0))
theorem pz49_5 (hK : Kf (.agg [.ints .u8 256 sboxT]) ⟨0, []⟩) (v2 : Int) (h0 : List Int) (h : vz49_5 v2 h0) : SemL Try.prog w0 fp ρi 0 12 [cz49_n3, (.seq cz49_n6 cz49_n7)] [(0, some (.ptr ⟨0, 0, 0, 1⟩ 256)), (2, some (.int .i64 v2)), (3, some (.bool (decide (v2 < 256))))] ⟨1, [(0, some ⟨true, [.ints .u8 256 h0], 0⟩)]⟩ (kkz49_1 w0 fp ρi Kf v2 h0) :=
  L_cond (q := (decide (v2 < 256))) (by kernel_rfl) (fun hq => (L_skip (lpk [0, 2] [0] (L_seq (pz49_3 hK v2 h0 (h.1 hq)))))) (fun hq => (L_exit (lpk [0] [0] (L_seq (pz49_4 hK h0 (h.2 hq))))))
theorem rz49_6 (v2 : Int) (h0 : List Int) (Z : Env → Heap → Prop) (h : Z [(0, some (.ptr ⟨0, 0, 0, 1⟩ 256)), (2, some (.int .i64 v2)), (3, some (.bool (decide (v2 < 256))))] ⟨1, [(0, some ⟨true, [.ints .u8 256 h0], 0⟩)]⟩) : EvC GaBuild cz49_n2 [(0, some (.ptr ⟨0, 0, 0, 1⟩ 256)), (2, some (.int .i64 v2))] ⟨1, [(0, some ⟨true, [.ints .u8 256 h0], 0⟩)]⟩ [0, 2, 3] [0] Z := EvC.of (by kernel_rfl) h
def vz49_6 (v2 : Int) (h0 : List Int) : Prop := vz49_5 v2 h0
theorem pz49_6 (hK : Kf (.agg [.ints .u8 256 sboxT]) ⟨0, []⟩) (v2 : Int) (h0 : List Int) (h : vz49_6 v2 h0) : SemL Try.prog w0 fp ρi 0 12 [cz49_n2, (.seq cz49_n3 (.seq cz49_n6 cz49_n7))] [(0, some (.ptr ⟨0, 0, 0, 1⟩ 256)), (2, some (.int .i64 v2))] ⟨1, [(0, some ⟨true, [.ints .u8 256 h0], 0⟩)]⟩ (kkz49_1 w0 fp ρi Kf v2 h0) :=
  L_regE hGaBuild (rz49_6 v2 h0 (fun e H => SemL Try.prog w0 fp ρi 0 12 [(.seq cz49_n3 (.seq cz49_n6 cz49_n7))] e H (kkz49_1 w0 fp ρi Kf v2 h0)) (L_seq (pz49_5 hK v2 h0 h)))
def vz49_7 : Prop := (0 ≤ (0 : Int) ∧ (0 : Int) ≤ 256 ∧ (List.replicate 256 0).length = 256 ∧ List.take (0 : Int).toNat (List.replicate 256 0) = List.take (0 : Int).toNat sboxT) ∧ (∀ (v2 : Int) (h0 : List Int), (0 ≤ v2 ∧ v2 ≤ 256 ∧ h0.length = 256 ∧ List.take v2.toNat h0 = List.take v2.toNat sboxT) → (vz49_6 v2 h0))
theorem pz49_7 (hK : Kf (.agg [.ints .u8 256 sboxT]) ⟨0, []⟩) (h : vz49_7) : SemL Try.prog w0 fp ρi 0 12 [cz49_n8] [(0, some (.ptr ⟨0, 0, 0, 1⟩ 256)), (2, some (.int .i64 0))] ⟨1, [(0, some ⟨true, [.ints .u8 256 (List.replicate 256 0)], 0⟩)]⟩ (kkz49_0 w0 fp ρi Kf) :=
  L_loop (ivz49_1) (muz49_1) (liz49_1) (ljz49_1) ⟨(0, (List.replicate 256 0)), tau [], h.1, (sub_tau' [] [0] rfl rfl (esc bpt (esc pbd envSub_nil)) (hsc pcs heapSub_nil) (by kernel_rfl) rfl)⟩ (fun s => match s with | (v2, h0) => fun hi => (L_seq (pz49_6 hK v2 h0 (h.2 v2 h0 hi))))
def vz49_8 : Prop := vz49_7
theorem pz49_8 (hK : Kf (.agg [.ints .u8 256 sboxT]) ⟨0, []⟩) (h : vz49_8) : SemL Try.prog w0 fp ρi 0 12 [cz49_n9, (.seq cz49_n10 .ret)] [(0, some (.ptr ⟨0, 0, 0, 1⟩ 256)), (2, some (.int .i64 0))] ⟨1, [(0, some ⟨true, [.ints .u8 256 (List.replicate 256 0)], 0⟩)]⟩ (fnK RaBuild 0 Kf) :=
  L_block (pz49_7 hK h)
theorem rz49_9 (Z : Env → Heap → Prop) (h : Z [(0, some (.ptr ⟨0, 0, 0, 1⟩ 256)), (2, some (.int .i64 0))] ⟨1, [(0, some ⟨true, [.ints .u8 256 (List.replicate 256 0)], 0⟩)]⟩) : EvC GaBuild cz49_n1 [(0, some (.ptr ⟨0, 0, 0, 1⟩ 256))] ⟨1, [(0, some ⟨true, [.ints .u8 256 (List.replicate 256 0)], 0⟩)]⟩ [0, 2] [0] Z := EvC.of (by kernel_rfl) h
def vz49_9 : Prop := vz49_8
theorem pz49_9 (hK : Kf (.agg [.ints .u8 256 sboxT]) ⟨0, []⟩) (h : vz49_9) : SemL Try.prog w0 fp ρi 0 12 [cz49_n1, cz49_n9, (.seq cz49_n10 .ret)] [(0, some (.ptr ⟨0, 0, 0, 1⟩ 256))] ⟨1, [(0, some ⟨true, [.ints .u8 256 (List.replicate 256 0)], 0⟩)]⟩ (fnK RaBuild 0 Kf) :=
  L_regE hGaBuild (rz49_9 (fun e H => SemL Try.prog w0 fp ρi 0 12 [cz49_n9, (.seq cz49_n10 .ret)] e H (fnK RaBuild 0 Kf)) (pz49_8 hK h))
theorem rz49_10 (Z : Env → Heap → Prop) (h : Z [(0, some (.ptr ⟨0, 0, 0, 1⟩ 256))] ⟨1, [(0, some ⟨true, [.ints .u8 256 (List.replicate 256 0)], 0⟩)]⟩) : EvC GaBuild cz49_n0 [] ⟨0, []⟩ [0] [0] Z := EvC.of (by kernel_rfl) h
def vz49_10 : Prop := vz49_9
theorem pz49_10 (hK : Kf (.agg [.ints .u8 256 sboxT]) ⟨0, []⟩) (h : vz49_10) : SemL Try.prog w0 fp ρi 0 12 [cz49_n0, (.seq (.seq cz49_n1 cz49_n9) (.seq cz49_n10 .ret))] [] ⟨0, []⟩ (fnK RaBuild 0 Kf) :=
  L_regE hGaBuild (rz49_10 (fun e H => SemL Try.prog w0 fp ρi 0 12 [(.seq (.seq cz49_n1 cz49_n9) (.seq cz49_n10 .ret))] e H (fnK RaBuild 0 Kf)) (L_seq (L_seq (pz49_9 hK h))))
def vcaBuild : Prop := vz49_10
theorem waBuild (hK : Kf (.agg [.ints .u8 256 sboxT]) ⟨0, []⟩) (h : vcaBuild) : SemL Try.prog w0 fp ρi 0 12 [caBuild] [] ⟨0, []⟩ (fnK RaBuild 0 Kf) :=
  (L_seq (pz49_10 hK h))
end
theorem okaBuild (hpre : True) : vcaBuild := by
  unfold vcaBuild vz49_10 vz49_9 vz49_8 vz49_7 vz49_6 vz49_5 vz49_4 vz49_3 vz49_2 vz49_1 vz49_0
  refine ⟨⟨by omega, by omega, by rw [List.length_replicate], rfl⟩, ?_⟩
  rintro v2 h0 ⟨i0, i1, i2, i3⟩
  have ls : sboxT.length = 256 := by decide +kernel
  refine ⟨fun hlt => ?_, fun hge => ?_⟩
  · have hlt := of_decide_eq_true hlt
    have w1 : IntKind.i64.wrap (v2 + 1) = v2 + 1 := by rw [wi64]; omega
    have w8 : IntKind.u8.wrap v2 = v2 := by rw [wrap_u8]; omega
    rw [w1, w8, Nat.zero_add, Nat.mul_one]
    refine ⟨by omega, i0, by omega, by omega, by omega, ?_⟩
    rintro h1 rfl
    refine ⟨⟨by omega, by omega, by rw [List.length_set, i2], ?_⟩, by omega⟩
    rw [show (v2 + 1).toNat = v2.toNat + 1 by omega, List.take_add_one, List.take_add_one, List.take_set_of_le (by omega), i3, List.getElem?_set_self (by omega)]
    unfold subB
    rw [List.getD_eq_getElem?_getD, List.getElem?_eq_getElem (by omega : v2.toNat < sboxT.length)]
    rfl
  · have hge : v2 = 256 := by have := of_decide_eq_false hge; omega
    subst hge
    rw [List.take_of_length_le (by omega), List.take_of_length_le (by omega)] at i3
    exact i3
theorem saBuild : Sound Try.prog 49 (pureS PaBuild) := by
  refine fn_soundA caBuild_fits ?_
  intro args H K h
  obtain ⟨pre, v, hP, hpre, rfl, hK⟩ := pureS_inv h
  unfold PaBuild at hP
  split at hP
  · cases hP
    exact ⟨rfl, fun w0 fp ρi => waBuild hK (okaBuild hpre)⟩
  · cases hP
end Go.Proofs.Ytefmjmghkedciaa
