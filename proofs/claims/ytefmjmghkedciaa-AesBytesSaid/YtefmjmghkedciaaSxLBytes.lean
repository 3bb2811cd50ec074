/- Walks, printed by vcg. -/
import Derived.Test.YtefmjmghkedciaaSxAesS
import Derived.Test.YtefmjmghkedciaaSxAesQ
import Derived.KernelRfl
set_option linter.unusedVariables false
set_option linter.unusedSimpArgs false
set_option maxRecDepth 20000
namespace Go.Proofs.Ytefmjmghkedciaa
open Go.Sx
def PaesBytes : PSpec := fun args => match args with
  | [.int .u8 a, .int .u8 b] => some (((0 ≤ a ∧ a < 256) ∧ (0 ≤ b ∧ b < 256)), .bool true)
  | _ => none
def pcaesBytes : PCon := ⟨5, PaesBytes⟩
def cz5_n0 : ACode := .reg (.op (some 4) (.mov (.cn (.bool false))) .nil)
def cz5_n1 : ACode := .reg (.op (some 5) (.call 21 []) (.op (some 6) (.not (.tm 5)) .nil))
def cz5_n2 : ACode := .reg (.op (some 4) (.mov (.cn (.bool false))) .nil)
def cz5_n3 : ACode := .cond (.tm 6) (.seq cz5_n2 .ret) .skip
def cz5_n4 : ACode := .reg (.op (some 7) (.mov (.tm 0)) (.op (some 8) (.mov (.tm 1)) (.op (some 9) (.call 22 [(.tm 7), (.tm 8)]) (.op (some 10) (.mov (.tm 0)) (.op (some 11) (.mov (.tm 1)) (.op (some 12) (.call 23 [(.tm 10), (.tm 11)]) (.op (some 13) (.bin .eql (.tm 9) (.tm 12)) (.op (some 14) (.mov (.tm 13)) (.grpJ 14 true (.op (some 15) (.mov (.tm 0)) (.op (some 16) (.call 24 [(.tm 15)]) (.op (some 17) (.mov (.tm 0)) (.op (some 18) (.call 25 [(.tm 17)]) (.op (some 19) (.bin .eql (.tm 16) (.tm 18)) .nil))))) 20 (.tm 19) (.cn (.bool false)) (.op (some 21) (.mov (.tm 20)) (.grpJ 21 true (.op (some 22) (.mov (.tm 0)) (.op (some 23) (.mov (.tm 1)) (.op (some 24) (.call 22 [(.tm 22), (.tm 23)]) (.op (some 25) (.mov (.tm 1)) (.op (some 26) (.mov (.tm 0)) (.op (some 27) (.call 22 [(.tm 25), (.tm 26)]) (.op (some 28) (.bin .eql (.tm 24) (.tm 27)) .nil))))))) 29 (.tm 28) (.cn (.bool false)) (.op (some 30) (.mov (.tm 29)) (.grpJ 30 true (.op (some 31) (.mov (.tm 0)) (.op (some 32) (.call 22 [(.tm 31), (.cn (.int .u8 1))]) (.op (some 33) (.mov (.tm 0)) (.op (some 34) (.bin .eql (.tm 32) (.tm 33)) .nil)))) 35 (.tm 34) (.cn (.bool false)) (.op (some 4) (.mov (.tm 35)) .nil))))))))))))))
def caesBytes : ACode := (.seq cz5_n0 (.seq (.seq cz5_n1 cz5_n3) (.seq cz5_n4 .ret)))
def RaesBytes : Res := .one (.tm 4)
theorem caesBytes_fits : fnFits Try.prog 5 2 36 caesBytes RaesBytes = true := by kernel_rfl
def GaesBytes : Calls' := withP [pcl2Speaks, pcaTimes, pcq2Times, pcaSub, pcq2Sub] []
theorem hGaesBytes : CallOk Try.prog GaesBytes := withP_ok ⟨sl2Speaks, saTimes, sq2Times, saSub, sq2Sub, trivial⟩ trivial
section
variable {w0 : World} {fp : Nat → Nat → Prop} {ρi : Rho} {Kf : SVal → Heap → Prop}
theorem rz5_0 (a : Int) (b : Int) (Z : Env → Heap → Prop) (h : (((0 ≤ a ∧ a < 256) ∧ (0 ≤ b ∧ b < 256))) ∧ (((0 ≤ a ∧ a < 256) ∧ (0 ≤ b ∧ b < 256))) ∧ ∃ qq : Bool, (((mulB a b) == (mulB a b)) = true → ((0 ≤ a ∧ a < 256)) ∧ ((0 ≤ a ∧ a < 256)) ∧ (keeps ⟨0, []⟩ ⟨0, []⟩ []) ∧ ((subB a) == (subB a)) = qq) ∧ (((mulB a b) == (mulB a b)) = false → false = qq) ∧ ∃ qq'1 : Bool, (qq = true → (((0 ≤ a ∧ a < 256) ∧ (0 ≤ b ∧ b < 256))) ∧ (((0 ≤ b ∧ b < 256) ∧ (0 ≤ a ∧ a < 256))) ∧ (keeps ⟨0, []⟩ ⟨0, []⟩ []) ∧ ((mulB a b) == (mulB b a)) = qq'1) ∧ (qq = false → false = qq'1) ∧ ∃ qq'2 : Bool, (qq'1 = true → (((0 ≤ a ∧ a < 256) ∧ (0 ≤ (1 : Int) ∧ (1 : Int) < 256))) ∧ (keeps ⟨0, []⟩ ⟨0, []⟩ []) ∧ ((mulB a (1 : Int)) == a) = qq'2) ∧ (qq'1 = false → false = qq'2) ∧ Z [(4, some (.bool qq'2))] ⟨0, []⟩) : EvC GaesBytes cz5_n4 [(0, some (.int .u8 a)), (1, some (.int .u8 b))] ⟨0, []⟩ [4] [] Z := EvC.of (by kernel_rfl) h
theorem rtz5_0 (a : Int) (b : Int) : RetC RaesBytes [(4, some (.bool (((((mulB a b) == (mulB a b)) && ((subB a) == (subB a))) && ((mulB a b) == (mulB b a))) && ((mulB a (1 : Int)) == a))))] ⟨0, []⟩ (.bool (((((mulB a b) == (mulB a b)) && ((subB a) == (subB a))) && ((mulB a b) == (mulB b a))) && ((mulB a (1 : Int)) == a))) := RetC.of (fun Z => by kernel_rfl)
def vz5_0 (a : Int) (b : Int) : Prop := (((0 ≤ a ∧ a < 256) ∧ (0 ≤ b ∧ b < 256))) ∧ ((((0 ≤ a ∧ a < 256) ∧ (0 ≤ b ∧ b < 256))) ∧ ((((mulB a b) == (mulB a b)) = true → (((0 ≤ a ∧ a < 256)) ∧ ((0 ≤ a ∧ a < 256)))) ∧ (((((mulB a b) == (mulB a b)) && ((subB a) == (subB a))) = true → ((((0 ≤ a ∧ a < 256) ∧ (0 ≤ b ∧ b < 256))) ∧ (((0 ≤ b ∧ b < 256) ∧ (0 ≤ a ∧ a < 256))))) ∧ ((((((mulB a b) == (mulB a b)) && ((subB a) == (subB a))) && ((mulB a b) == (mulB b a))) = true → (((0 ≤ a ∧ a < 256) ∧ (0 ≤ (1 : Int) ∧ (1 : Int) < 256)))) ∧ ((((((mulB a b) == (mulB a b)) && ((subB a) == (subB a))) && ((mulB a b) == (mulB b a))) && ((mulB a (1 : Int)) == a)) = true)))))
theorem pz5_0 (a : Int) (b : Int) (hK : Kf (.bool true) ⟨0, []⟩) (h : vz5_0 a b) : SemL Try.prog w0 fp ρi 0 36 [cz5_n4, .ret] [(0, some (.int .u8 a)), (1, some (.int .u8 b))] ⟨0, []⟩ (fnK RaesBytes 0 Kf) :=
  L_regE hGaesBytes (rz5_0 a b (fun e H => SemL Try.prog w0 fp ρi 0 36 [.ret] e H (fnK RaesBytes 0 Kf)) ⟨h.1, ⟨h.2.1, ⟨(((mulB a b) == (mulB a b)) && ((subB a) == (subB a))), fun hc_qq => ⟨(h.2.2.1 hc_qq).1, ⟨(h.2.2.1 hc_qq).2, ⟨(keeps_refl _), (qa1 hc_qq)⟩⟩⟩, fun hc_qq => qa2 hc_qq, ⟨((((mulB a b) == (mulB a b)) && ((subB a) == (subB a))) && ((mulB a b) == (mulB b a))), fun hc_qq_1 => ⟨(h.2.2.2.1 hc_qq_1).1, ⟨(h.2.2.2.1 hc_qq_1).2, ⟨(keeps_refl _), (qa1 hc_qq_1)⟩⟩⟩, fun hc_qq_1 => qa2 hc_qq_1, ⟨(((((mulB a b) == (mulB a b)) && ((subB a) == (subB a))) && ((mulB a b) == (mulB b a))) && ((mulB a (1 : Int)) == a)), fun hc_qq_2 => ⟨(h.2.2.2.2.1 hc_qq_2), ⟨(keeps_refl _), (qa1 hc_qq_2)⟩⟩, fun hc_qq_2 => qa2 hc_qq_2, (L_retE (R := RaesBytes) (m := 0) (Kf := Kf) (fun _ _ h => h) (rtz5_0 a b) (ret_plain rfl (by kernel_rfl) (cg1 (fun (z1 : Bool) => (.bool z1 : SVal)) h.2.2.2.2.2) hK))⟩⟩⟩⟩⟩)
def vz5_1 (a : Int) (b : Int) : Prop := vz5_0 a b
theorem pz5_1 (a : Int) (b : Int) (hK : Kf (.bool true) ⟨0, []⟩) (h : vz5_1 a b) : SemL Try.prog w0 fp ρi 0 36 [cz5_n3, (.seq cz5_n4 .ret)] [(0, some (.int .u8 a)), (1, some (.int .u8 b)), (6, some (.bool false))] ⟨0, []⟩ (fnK RaesBytes 0 Kf) :=
  L_cond (q := false) (by kernel_rfl) (fun hq => Bool.noConfusion hq) (fun _ => (L_skip (lpk [0, 1] [] (L_seq (pz5_0 a b hK h)))))
theorem rz5_2 (a : Int) (b : Int) (Z : Env → Heap → Prop) (h : (True) ∧ Z [(0, some (.int .u8 a)), (1, some (.int .u8 b)), (6, some (.bool false))] ⟨0, []⟩) : EvC GaesBytes cz5_n1 [(0, some (.int .u8 a)), (1, some (.int .u8 b))] ⟨0, []⟩ [0, 1, 6] [] Z := EvC.of (by kernel_rfl) h
def vz5_2 (a : Int) (b : Int) : Prop := vz5_1 a b
theorem pz5_2 (a : Int) (b : Int) (hK : Kf (.bool true) ⟨0, []⟩) (h : vz5_2 a b) : SemL Try.prog w0 fp ρi 0 36 [cz5_n1, cz5_n3, (.seq cz5_n4 .ret)] [(0, some (.int .u8 a)), (1, some (.int .u8 b))] ⟨0, []⟩ (fnK RaesBytes 0 Kf) :=
  L_regE hGaesBytes (rz5_2 a b (fun e H => SemL Try.prog w0 fp ρi 0 36 [cz5_n3, (.seq cz5_n4 .ret)] e H (fnK RaesBytes 0 Kf)) ⟨True.intro, (pz5_1 a b hK h)⟩)
theorem rz5_3 (a : Int) (b : Int) (Z : Env → Heap → Prop) (h : Z [(0, some (.int .u8 a)), (1, some (.int .u8 b))] ⟨0, []⟩) : EvC GaesBytes cz5_n0 [(0, some (.int .u8 a)), (1, some (.int .u8 b))] ⟨0, []⟩ [0, 1] [] Z := EvC.of (by kernel_rfl) h
def vz5_3 (a : Int) (b : Int) : Prop := vz5_2 a b
theorem pz5_3 (a : Int) (b : Int) (hK : Kf (.bool true) ⟨0, []⟩) (h : vz5_3 a b) : SemL Try.prog w0 fp ρi 0 36 [cz5_n0, (.seq (.seq cz5_n1 cz5_n3) (.seq cz5_n4 .ret))] [(0, some (.int .u8 a)), (1, some (.int .u8 b))] ⟨0, []⟩ (fnK RaesBytes 0 Kf) :=
  L_regE hGaesBytes (rz5_3 a b (fun e H => SemL Try.prog w0 fp ρi 0 36 [(.seq (.seq cz5_n1 cz5_n3) (.seq cz5_n4 .ret))] e H (fnK RaesBytes 0 Kf)) (L_seq (L_seq (pz5_2 a b hK h))))
def vcaesBytes (a : Int) (b : Int) : Prop := vz5_3 a b
theorem waesBytes (a : Int) (b : Int) (hK : Kf (.bool true) ⟨0, []⟩) (h : vcaesBytes a b) : SemL Try.prog w0 fp ρi 0 36 [caesBytes] [(0, some (.int .u8 a)), (1, some (.int .u8 b))] ⟨0, []⟩ (fnK RaesBytes 0 Kf) :=
  (L_seq (pz5_3 a b hK h))
end
theorem okaesBytes (a : Int) (b : Int) (hpre : ((0 ≤ a ∧ a < 256) ∧ (0 ≤ b ∧ b < 256))) : vcaesBytes a b := by
  unfold vcaesBytes vz5_3 vz5_2 vz5_1 vz5_0
  obtain ⟨ha, hb⟩ := hpre
  refine ⟨⟨ha, hb⟩, ⟨ha, hb⟩, fun _ => ⟨ha, ha⟩, fun _ => ⟨⟨ha, hb⟩, hb, ha⟩, fun _ => ⟨ha, by omega⟩, ?_⟩
  rw [mulB_by1 ha, mulB_comm hb ha, beq_self_eq_true, beq_self_eq_true, beq_self_eq_true]
  rfl
theorem saesBytes : Sound Try.prog 5 (pureS PaesBytes) := by
  refine fn_soundA caesBytes_fits ?_
  intro args H K h
  obtain ⟨pre, v, hP, hpre, rfl, hK⟩ := pureS_inv h
  unfold PaesBytes at hP
  split at hP
  · cases hP
    exact ⟨rfl, fun w0 fp ρi => waesBytes _ _ hK (okaesBytes _ _ hpre)⟩
  · cases hP
end Go.Proofs.Ytefmjmghkedciaa
