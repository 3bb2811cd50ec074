/- Walks, printed by vcg. -/
import Derived.Test.YtinapgobpoiioaaSxAesS
import Derived.Test.YtinapgobpoiioaaSxAes5
import Derived.KernelRfl
set_option linter.unusedVariables false
set_option linter.unusedSimpArgs false
set_option maxRecDepth 20000
namespace Go.Proofs.Ytinapgobpoiioaa
open Go.Sx
def PaesSubs : PSpec := fun args => match args with
  | [.int .u8 a, .int .u8 b] => some (((0 ≤ a ∧ a < 256) ∧ (0 ≤ b ∧ b < 256)), .bool true)
  | _ => none
def pcaesSubs : PCon := ⟨6, PaesSubs⟩
def cz6_n0 : ACode := .reg (.op (some 4) (.mov (.cn (.bool false))) .nil)
def cz6_n1 : ACode := .reg (.op (some 7) (.call 8 []) (.op (some 8) (.not (.tm 7)) .nil))
def cz6_n2 : ACode := .reg (.op (some 4) (.mov (.cn (.bool false))) .nil)
def cz6_n3 : ACode := .cond (.tm 8) (.seq cz6_n2 .ret) .skip
def cz6_n4 : ACode := .reg (.op (some 9) (.mov (.tm 0)) (.op (some 10) (.call 11 [(.tm 9)]) (.op (some 11) (.mov (.tm 1)) (.op (some 12) (.call 11 [(.tm 11)]) (.op (some 5) (.mov (.tm 10)) (.op (some 6) (.mov (.tm 12)) .nil))))))
def cz6_n5 : ACode := .reg (.op (some 13) (.mov (.tm 5)) (.op (some 14) (.mov (.tm 6)) (.op (some 15) (.bin .eql (.tm 13) (.tm 14)) (.op (some 16) (.mov (.tm 0)) (.op (some 17) (.mov (.tm 1)) (.op (some 18) (.bin .eql (.tm 16) (.tm 17)) (.op (some 19) (.beq2 false (.tm 15) (.tm 18)) (.op (some 20) (.mov (.tm 19)) (.grpJ 20 true (.op (some 21) (.mov (.tm 5)) (.op (some 22) (.mov (.tm 0)) (.op (some 23) (.bin .neq (.tm 21) (.tm 22)) .nil))) 24 (.tm 23) (.cn (.bool false)) (.op (some 25) (.mov (.tm 24)) (.grpJ 25 true (.op (some 26) (.mov (.tm 5)) (.op (some 27) (.mov (.tm 0)) (.op (some 28) (.inv (.tm 27)) (.op (some 29) (.bin .neq (.tm 26) (.tm 28)) .nil)))) 30 (.tm 29) (.cn (.bool false)) (.op (some 4) (.mov (.tm 30)) .nil))))))))))))
def caesSubs : ACode := (.seq cz6_n0 (.seq (.seq cz6_n1 cz6_n3) (.seq cz6_n4 (.seq cz6_n5 .ret))))
def RaesSubs : Res := .one (.tm 4)
theorem caesSubs_fits : fnFits Try.prog 6 2 31 caesSubs RaesSubs = true := by kernel_rfl
def GaesSubs : Calls' := withP [pcl2Speaks, pcaSub] []
theorem hGaesSubs : CallOk Try.prog GaesSubs := withP_ok ⟨sl2Speaks, saSub, trivial⟩ trivial
section
variable {w0 : World} {fp : Nat → Nat → Prop} {ρi : Rho} {Kf : SVal → Heap → Prop}
theorem rz6_0 (a : Int) (b : Int) (v5 : Int) (v6 : Int) (Z : Env → Heap → Prop) (h : ∃ qq : Bool, (((v5 == v6) == (a == b)) = true → (keeps ⟨0, []⟩ ⟨0, []⟩ []) ∧ (v5 != a) = qq) ∧ (((v5 == v6) == (a == b)) = false → false = qq) ∧ ∃ qq'1 : Bool, (qq = true → (keeps ⟨0, []⟩ ⟨0, []⟩ []) ∧ (v5 != (ixor .u8 255 a)) = qq'1) ∧ (qq = false → false = qq'1) ∧ Z [(4, some (.bool qq'1))] ⟨0, []⟩) : EvC GaesSubs cz6_n5 [(0, some (.int .u8 a)), (1, some (.int .u8 b)), (5, some (.int .u8 v5)), (6, some (.int .u8 v6))] ⟨0, []⟩ [4] [] Z := EvC.of (by kernel_rfl) h
theorem rtz6_0 (a : Int) (b : Int) (v5 : Int) (v6 : Int) : RetC RaesSubs [(4, some (.bool ((((v5 == v6) == (a == b)) && (v5 != a)) && (v5 != (ixor .u8 255 a)))))] ⟨0, []⟩ (.bool ((((v5 == v6) == (a == b)) && (v5 != a)) && (v5 != (ixor .u8 255 a)))) := RetC.of (fun Z => by kernel_rfl)
def vz6_0 (a : Int) (b : Int) (v5 : Int) (v6 : Int) : Prop := ((((v5 == v6) == (a == b)) && (v5 != a)) && (v5 != (ixor .u8 255 a))) = true
theorem pz6_0 (a : Int) (b : Int) (hK : Kf (.bool true) ⟨0, []⟩) (v5 : Int) (v6 : Int) (h : vz6_0 a b v5 v6) : SemL Try.prog w0 fp ρi 0 31 [cz6_n5, .ret] [(0, some (.int .u8 a)), (1, some (.int .u8 b)), (5, some (.int .u8 v5)), (6, some (.int .u8 v6))] ⟨0, []⟩ (fnK RaesSubs 0 Kf) :=
  L_regE hGaesSubs (rz6_0 a b v5 v6 (fun e H => SemL Try.prog w0 fp ρi 0 31 [.ret] e H (fnK RaesSubs 0 Kf)) ⟨(((v5 == v6) == (a == b)) && (v5 != a)), fun hc_qq => ⟨(keeps_refl _), (qa1 hc_qq)⟩, fun hc_qq => qa2 hc_qq, ⟨((((v5 == v6) == (a == b)) && (v5 != a)) && (v5 != (ixor .u8 255 a))), fun hc_qq_1 => ⟨(keeps_refl _), (qa1 hc_qq_1)⟩, fun hc_qq_1 => qa2 hc_qq_1, (L_retE (R := RaesSubs) (m := 0) (Kf := Kf) (fun _ _ h => h) (rtz6_0 a b v5 v6) (ret_plain rfl (by kernel_rfl) (cg1 (fun (z1 : Bool) => (.bool z1 : SVal)) h) hK))⟩⟩)
theorem rz6_1 (a : Int) (b : Int) (Z : Env → Heap → Prop) (h : ((0 ≤ a ∧ a < 256)) ∧ ((0 ≤ b ∧ b < 256)) ∧ Z [(0, some (.int .u8 a)), (1, some (.int .u8 b)), (5, some (.int .u8 (subB a))), (6, some (.int .u8 (subB b)))] ⟨0, []⟩) : EvC GaesSubs cz6_n4 [(0, some (.int .u8 a)), (1, some (.int .u8 b))] ⟨0, []⟩ [0, 1, 5, 6] [] Z := EvC.of (by kernel_rfl) h
def vz6_1 (a : Int) (b : Int) : Prop := ((0 ≤ a ∧ a < 256)) ∧ (((0 ≤ b ∧ b < 256)) ∧ (∀ v5 : Int, v5 = (subB a) → ∀ v6 : Int, v6 = (subB b) → vz6_0 a b v5 v6))
theorem pz6_1 (a : Int) (b : Int) (hK : Kf (.bool true) ⟨0, []⟩) (h : vz6_1 a b) : SemL Try.prog w0 fp ρi 0 31 [cz6_n4, (.seq cz6_n5 .ret)] [(0, some (.int .u8 a)), (1, some (.int .u8 b))] ⟨0, []⟩ (fnK RaesSubs 0 Kf) :=
  L_regE hGaesSubs (rz6_1 a b (fun e H => SemL Try.prog w0 fp ρi 0 31 [(.seq cz6_n5 .ret)] e H (fnK RaesSubs 0 Kf)) ⟨h.1, ⟨h.2.1, (L_seq (pz6_0 a b hK (subB a) (subB b) ((h.2.2 (subB a) rfl) (subB b) rfl)))⟩⟩)
def vz6_2 (a : Int) (b : Int) : Prop := vz6_1 a b
theorem pz6_2 (a : Int) (b : Int) (hK : Kf (.bool true) ⟨0, []⟩) (h : vz6_2 a b) : SemL Try.prog w0 fp ρi 0 31 [cz6_n3, (.seq cz6_n4 (.seq cz6_n5 .ret))] [(0, some (.int .u8 a)), (1, some (.int .u8 b)), (8, some (.bool false))] ⟨0, []⟩ (fnK RaesSubs 0 Kf) :=
  L_cond (q := false) (by kernel_rfl) (fun hq => Bool.noConfusion hq) (fun _ => (L_skip (lpk [0, 1] [] (L_seq (pz6_1 a b hK h)))))
theorem rz6_3 (a : Int) (b : Int) (Z : Env → Heap → Prop) (h : (True) ∧ Z [(0, some (.int .u8 a)), (1, some (.int .u8 b)), (8, some (.bool false))] ⟨0, []⟩) : EvC GaesSubs cz6_n1 [(0, some (.int .u8 a)), (1, some (.int .u8 b))] ⟨0, []⟩ [0, 1, 8] [] Z := EvC.of (by kernel_rfl) h
def vz6_3 (a : Int) (b : Int) : Prop := vz6_2 a b
theorem pz6_3 (a : Int) (b : Int) (hK : Kf (.bool true) ⟨0, []⟩) (h : vz6_3 a b) : SemL Try.prog w0 fp ρi 0 31 [cz6_n1, cz6_n3, (.seq cz6_n4 (.seq cz6_n5 .ret))] [(0, some (.int .u8 a)), (1, some (.int .u8 b))] ⟨0, []⟩ (fnK RaesSubs 0 Kf) :=
  L_regE hGaesSubs (rz6_3 a b (fun e H => SemL Try.prog w0 fp ρi 0 31 [cz6_n3, (.seq cz6_n4 (.seq cz6_n5 .ret))] e H (fnK RaesSubs 0 Kf)) ⟨True.intro, (pz6_2 a b hK h)⟩)
theorem rz6_4 (a : Int) (b : Int) (Z : Env → Heap → Prop) (h : Z [(0, some (.int .u8 a)), (1, some (.int .u8 b))] ⟨0, []⟩) : EvC GaesSubs cz6_n0 [(0, some (.int .u8 a)), (1, some (.int .u8 b))] ⟨0, []⟩ [0, 1] [] Z := EvC.of (by kernel_rfl) h
def vz6_4 (a : Int) (b : Int) : Prop := vz6_3 a b
theorem pz6_4 (a : Int) (b : Int) (hK : Kf (.bool true) ⟨0, []⟩) (h : vz6_4 a b) : SemL Try.prog w0 fp ρi 0 31 [cz6_n0, (.seq (.seq cz6_n1 cz6_n3) (.seq cz6_n4 (.seq cz6_n5 .ret)))] [(0, some (.int .u8 a)), (1, some (.int .u8 b))] ⟨0, []⟩ (fnK RaesSubs 0 Kf) :=
  L_regE hGaesSubs (rz6_4 a b (fun e H => SemL Try.prog w0 fp ρi 0 31 [(.seq (.seq cz6_n1 cz6_n3) (.seq cz6_n4 (.seq cz6_n5 .ret)))] e H (fnK RaesSubs 0 Kf)) (L_seq (L_seq (pz6_3 a b hK h))))
def vcaesSubs (a : Int) (b : Int) : Prop := vz6_4 a b
theorem waesSubs (a : Int) (b : Int) (hK : Kf (.bool true) ⟨0, []⟩) (h : vcaesSubs a b) : SemL Try.prog w0 fp ρi 0 31 [caesSubs] [(0, some (.int .u8 a)), (1, some (.int .u8 b))] ⟨0, []⟩ (fnK RaesSubs 0 Kf) :=
  (L_seq (pz6_4 a b hK h))
end
theorem okaesSubs (a : Int) (b : Int) (hpre : ((0 ≤ a ∧ a < 256) ∧ (0 ≤ b ∧ b < 256))) : vcaesSubs a b := by
  unfold vcaesSubs vz6_4 vz6_3 vz6_2 vz6_1 vz6_0
  obtain ⟨ha, hb⟩ := hpre
  refine ⟨ha, hb, ?_⟩
  rintro v5 rfl v6 rfl
  have i1 := isb ha
  have e : (subB a == subB b) = (a == b) := by
    rw [Bool.eq_iff_iff, beq_iff_eq, beq_iff_eq]
    exact ⟨fun h => subB_inj ha hb h, fun h => by rw [h]⟩
  rw [e, show ((a == b) == (a == b)) = true from beq_self_eq_true _, Bool.true_and, Bool.and_eq_true, bne_iff_ne, bne_iff_ne]
  exact i1.2
theorem saesSubs : Sound Try.prog 6 (pureS PaesSubs) := by
  refine fn_soundA caesSubs_fits ?_
  intro args H K h
  obtain ⟨pre, v, hP, hpre, rfl, hK⟩ := pureS_inv h
  unfold PaesSubs at hP
  split at hP
  · cases hP
    exact ⟨rfl, fun w0 fp ρi => waesSubs _ _ hK (okaesSubs _ _ hpre)⟩
  · cases hP
end Go.Proofs.Ytinapgobpoiioaa
