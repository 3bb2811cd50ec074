/- Walks, printed by vcg. -/
import Derived.Test.YtlmcdbgcbmjilaaSxPlanP
import Derived.Test.YtlmcdbgcbmjilaaSxRegion
import Derived.KernelRfl
namespace Go.Proofs.Ytlmcdbgcbmjilaa
open Go.Sx
def PrRight : PSpec := fun args => match args with
  | [.agg [.one (.int .i64 p_0), .one (.int .i64 p_1), .one (.int .i64 p_2), .one (.int .i64 p_3), .one (.int .i64 p_4), .one (.int .i64 p_5), .one (.int .u64 p_6), .one (.int .i64 p_7), .one (.int .i64 p_8), .one (.int .i64 p_9), .one (.int .i64 p_10), .one (.int .i64 p_11), .one (.int .i64 p_12), .one (.int .i64 p_13), .ints .u8 p_14_n p_14, .ints .u8 p_15_n p_15]] => bif Nat.beq p_14_n 16 && Nat.beq p_15_n 16 then some (True, .bool (PlanV.right (PlanV.mk p_0 p_1 p_2 p_3 p_4 p_5 p_6 p_7 p_8 p_9 p_10 p_11 p_12 p_13 p_14 p_15))) else none
  | _ => none
def pcrRight : PCon := ⟨171, PrRight⟩
def crRight_n0 : ACode := .reg (.op (some 1) (.box (.tm 0)) (.op (some 2) (.mov (.cn (.bool false))) .nil))
def crRight_n1 : ACode := .reg (.op (some 3) (.loadA 46 (.tm 1)) (.op (some 4) (.call 49 [(.tm 3)]) (.op (some 5) (.bin .eql (.tm 4) (.cn (.int .i64 0))) (.op (some 2) (.mov (.tm 5)) .nil))))
def crRight : ACode := (.seq crRight_n0 (.seq crRight_n1 .ret))
def RrRight : Res := .one (.tm 2)
theorem crRight_fits : fnFits Try.prog 171 1 6 crRight RrRight = true := by kernel_rfl
def GrRight : Calls' := withP [pcpCheck] []
theorem hGrRight : CallOk Try.prog GrRight := withP_ok ⟨spCheck, trivial⟩ trivial
section
variable {w0 : World} {fp : Nat → Nat → Prop} {ρi : Rho} {Kf : SVal → Heap → Prop}
theorem rrRight_0 (p : PlanV) (Z : Env → Heap → Prop) : evCode GrRight Λ0 crRight_n1 [(1, some (.ptr ⟨0, 0, 0, 1⟩ 46))] ⟨1, [(0, some ⟨true, (PlanV.cs p), 0⟩)]⟩ (onlyN fun e' H' => Z (pickE [2] e') (H'.keep [])) = ((True) ∧ Z [(2, some (.bool ((bif PlanV.right p then 0 else 4 : Int) == 0)))] ⟨1, []⟩) := by kernel_rfl
theorem rtrRight_0 (p : PlanV) (Z : SVal → Prop) : Res.ev RrRight [(2, some (.bool ((bif PlanV.right p then 0 else 4 : Int) == 0)))] ⟨1, []⟩ Z = Z (.bool ((bif PlanV.right p then 0 else 4 : Int) == 0)) := by kernel_rfl
def vrRight_0 (p : PlanV) : Prop := ((bif PlanV.right p then 0 else 4 : Int) == 0) = (PlanV.right p)
theorem prRight_0 (p : PlanV) (hK : Kf (.bool (PlanV.right p)) ⟨0, []⟩) (h : vrRight_0 p) : SemL Try.prog w0 fp ρi 0 6 [crRight_n1, .ret] [(1, some (.ptr ⟨0, 0, 0, 1⟩ 46))] ⟨1, [(0, some ⟨true, (PlanV.cs p), 0⟩)]⟩ (fnK RrRight 0 Kf) :=
  L_reg hGrRight [2] [] ((rrRight_0 p (fun e H => SemL Try.prog w0 fp ρi 0 6 [.ret] e H (fnK RrRight 0 Kf))).mpr ⟨True.intro, (L_ret ((rtrRight_0 p (fun r => Ret 0 Kf r ⟨1, []⟩)).mpr (ret_plain rfl (by kernel_rfl) (cg1 (fun (z1 : Bool) => (.bool z1 : SVal)) h) hK)))⟩)
theorem rrRight_1 (p : PlanV) (Z : Env → Heap → Prop) : evCode GrRight Λ0 crRight_n0 [(0, some (.agg (PlanV.cs p)))] ⟨0, []⟩ (onlyN fun e' H' => Z (pickE [1] e') (H'.keep [0])) = (Z [(1, some (.ptr ⟨0, 0, 0, 1⟩ 46))] ⟨1, [(0, some ⟨true, (PlanV.cs p), 0⟩)]⟩) := by kernel_rfl
def vrRight_1 (p : PlanV) : Prop := vrRight_0 p
theorem prRight_1 (p : PlanV) (hK : Kf (.bool (PlanV.right p)) ⟨0, []⟩) (h : vrRight_1 p) : SemL Try.prog w0 fp ρi 0 6 [crRight_n0, (.seq crRight_n1 .ret)] [(0, some (.agg (PlanV.cs p)))] ⟨0, []⟩ (fnK RrRight 0 Kf) :=
  L_reg hGrRight [1] [0] ((rrRight_1 p (fun e H => SemL Try.prog w0 fp ρi 0 6 [(.seq crRight_n1 .ret)] e H (fnK RrRight 0 Kf))).mpr (L_seq (prRight_0 p hK h)))
def vcrRight (p : PlanV) : Prop := vrRight_1 p
theorem wrRight (p : PlanV) (hK : Kf (.bool (PlanV.right p)) ⟨0, []⟩) (h : vcrRight p) : SemL Try.prog w0 fp ρi 0 6 [crRight] [(0, some (.agg (PlanV.cs p)))] ⟨0, []⟩ (fnK RrRight 0 Kf) :=
  (L_seq (prRight_1 p hK h))
end
theorem okrRight (p : PlanV) (hpre : True) : vcrRight p := by
  unfold vcrRight vrRight_1 vrRight_0
  cases PlanV.right p <;> rfl
theorem srRight : Sound Try.prog 171 (pureS PrRight) := by
  refine fn_soundA crRight_fits ?_
  intro args H K h
  obtain ⟨pre, v, hP, hpre, rfl, hK⟩ := pureS_inv h
  unfold PrRight at hP
  split at hP
  · obtain ⟨hb, hP⟩ := bif_some hP
    simp only [Bool.and_eq_true] at hb
    obtain ⟨h0, h1⟩ := hb
    obtain rfl := Nat.eq_of_beq_eq_true h0
    obtain rfl := Nat.eq_of_beq_eq_true h1
    cases hP
    exact ⟨rfl, fun w0 fp ρi => wrRight (PlanV.mk _ _ _ _ _ _ _ _ _ _ _ _ _ _ _ _) hK (okrRight (PlanV.mk _ _ _ _ _ _ _ _ _ _ _ _ _ _ _ _) hpre)⟩
  · cases hP
def PrLine : PSpec := fun args => match args with
  | [.agg [.one (.int .i64 p_0), .one (.int .i64 p_1), .one (.int .i64 p_2), .one (.int .i64 p_3), .one (.int .i64 p_4), .one (.int .i64 p_5), .one (.int .u64 p_6), .one (.int .i64 p_7), .one (.int .i64 p_8), .one (.int .i64 p_9), .one (.int .i64 p_10), .one (.int .i64 p_11), .one (.int .i64 p_12), .one (.int .i64 p_13), .ints .u8 p_14_n p_14, .ints .u8 p_15_n p_15], .int .i64 n] => bif Nat.beq p_14_n 16 && Nat.beq p_15_n 16 then some (True, .bool (PlanV.lineB (PlanV.mk p_0 p_1 p_2 p_3 p_4 p_5 p_6 p_7 p_8 p_9 p_10 p_11 p_12 p_13 p_14 p_15) n)) else none
  | _ => none
def pcrLine : PCon := ⟨166, PrLine⟩
def crLine_n0 : ACode := .reg (.op (some 2) (.box (.tm 0)) (.op (some 4) (.mov (.cn (.bool false))) .nil))
def crLine_n1 : ACode := .reg (.op (some 5) (.loadA 46 (.tm 2)) (.op (some 6) (.call 171 [(.tm 5)]) (.op (some 7) (.mov (.tm 6)) (.grpJ 7 true (.op (some 8) (.mov (.tm 1)) (.op (some 9) (.bin .geq (.tm 8) (.cn (.int .i64 0))) .nil)) 10 (.tm 9) (.cn (.bool false)) (.op (some 11) (.mov (.tm 10)) (.grpJ 11 true (.op (some 12) (.mov (.tm 1)) (.op (some 13) (.loadA 46 (.tm 2)) (.op (some 14) (.call 55 [(.tm 13)]) (.op (some 15) (.bin .lss (.tm 12) (.tm 14)) .nil)))) 16 (.tm 15) (.cn (.bool false)) (.op (some 4) (.mov (.tm 16)) .nil)))))))
def crLine : ACode := (.seq crLine_n0 (.seq crLine_n1 .ret))
def RrLine : Res := .one (.tm 4)
theorem crLine_fits : fnFits Try.prog 166 2 17 crLine RrLine = true := by kernel_rfl
def GrLine : Calls' := withP [pcpAll, pcrRight] []
theorem hGrLine : CallOk Try.prog GrLine := withP_ok ⟨spAll, srRight, trivial⟩ trivial
section
variable {w0 : World} {fp : Nat → Nat → Prop} {ρi : Rho} {Kf : SVal → Heap → Prop}
theorem rrLine_0 (p : PlanV) (n : Int) (Z : Env → Heap → Prop) : evCode GrLine Λ0 crLine_n1 [(1, some (.int .i64 n)), (2, some (.ptr ⟨0, 0, 0, 1⟩ 46))] ⟨1, [(0, some ⟨true, (PlanV.cs p), 0⟩)]⟩ (onlyN fun e' H' => Z (pickE [4] e') (H'.keep [])) = ((True) ∧ ∃ qq : Bool, ((PlanV.right p) = true → (keeps ⟨1, [(0, some ⟨true, (PlanV.cs p), 0⟩)]⟩ ⟨1, [(0, some ⟨true, (PlanV.cs p), 0⟩)]⟩ [(0, some ⟨true, (PlanV.cs p), 0⟩)]) ∧ (decide (0 ≤ n)) = qq) ∧ ((PlanV.right p) = false → false = qq) ∧ ∃ qq'1 : Bool, (qq = true → (True) ∧ (keeps ⟨1, [(0, some ⟨true, (PlanV.cs p), 0⟩)]⟩ ⟨1, [(0, some ⟨true, (PlanV.cs p), 0⟩)]⟩ [(0, some ⟨true, (PlanV.cs p), 0⟩)]) ∧ (decide (n < (PlanV.all p))) = qq'1) ∧ (qq = false → false = qq'1) ∧ Z [(4, some (.bool qq'1))] ⟨1, []⟩) := by kernel_rfl
theorem rtrLine_0 (p : PlanV) (n : Int) (Z : SVal → Prop) : Res.ev RrLine [(4, some (.bool (((PlanV.right p) && (decide (0 ≤ n))) && (decide (n < (PlanV.all p))))))] ⟨1, []⟩ Z = Z (.bool (((PlanV.right p) && (decide (0 ≤ n))) && (decide (n < (PlanV.all p))))) := by kernel_rfl
def vrLine_0 (p : PlanV) (n : Int) : Prop := (((PlanV.right p) && (decide (0 ≤ n))) && (decide (n < (PlanV.all p)))) = (PlanV.lineB p n)
theorem prLine_0 (p : PlanV) (n : Int) (hK : Kf (.bool (PlanV.lineB p n)) ⟨0, []⟩) (h : vrLine_0 p n) : SemL Try.prog w0 fp ρi 0 17 [crLine_n1, .ret] [(1, some (.int .i64 n)), (2, some (.ptr ⟨0, 0, 0, 1⟩ 46))] ⟨1, [(0, some ⟨true, (PlanV.cs p), 0⟩)]⟩ (fnK RrLine 0 Kf) :=
  L_reg hGrLine [4] [] ((rrLine_0 p n (fun e H => SemL Try.prog w0 fp ρi 0 17 [.ret] e H (fnK RrLine 0 Kf))).mpr ⟨True.intro, ⟨((PlanV.right p) && (decide (0 ≤ n))), fun hc_qq => ⟨(keeps_refl _), (qa1 hc_qq)⟩, fun hc_qq => qa2 hc_qq, ⟨(((PlanV.right p) && (decide (0 ≤ n))) && (decide (n < (PlanV.all p)))), fun hc_qq_1 => ⟨True.intro, ⟨(keeps_refl _), (qa1 hc_qq_1)⟩⟩, fun hc_qq_1 => qa2 hc_qq_1, (L_ret ((rtrLine_0 p n (fun r => Ret 0 Kf r ⟨1, []⟩)).mpr (ret_plain rfl (by kernel_rfl) (cg1 (fun (z1 : Bool) => (.bool z1 : SVal)) h) hK)))⟩⟩⟩)
theorem rrLine_1 (p : PlanV) (n : Int) (Z : Env → Heap → Prop) : evCode GrLine Λ0 crLine_n0 [(0, some (.agg (PlanV.cs p))), (1, some (.int .i64 n))] ⟨0, []⟩ (onlyN fun e' H' => Z (pickE [1, 2] e') (H'.keep [0])) = (Z [(1, some (.int .i64 n)), (2, some (.ptr ⟨0, 0, 0, 1⟩ 46))] ⟨1, [(0, some ⟨true, (PlanV.cs p), 0⟩)]⟩) := by kernel_rfl
def vrLine_1 (p : PlanV) (n : Int) : Prop := vrLine_0 p n
theorem prLine_1 (p : PlanV) (n : Int) (hK : Kf (.bool (PlanV.lineB p n)) ⟨0, []⟩) (h : vrLine_1 p n) : SemL Try.prog w0 fp ρi 0 17 [crLine_n0, (.seq crLine_n1 .ret)] [(0, some (.agg (PlanV.cs p))), (1, some (.int .i64 n))] ⟨0, []⟩ (fnK RrLine 0 Kf) :=
  L_reg hGrLine [1, 2] [0] ((rrLine_1 p n (fun e H => SemL Try.prog w0 fp ρi 0 17 [(.seq crLine_n1 .ret)] e H (fnK RrLine 0 Kf))).mpr (L_seq (prLine_0 p n hK h)))
def vcrLine (p : PlanV) (n : Int) : Prop := vrLine_1 p n
theorem wrLine (p : PlanV) (n : Int) (hK : Kf (.bool (PlanV.lineB p n)) ⟨0, []⟩) (h : vcrLine p n) : SemL Try.prog w0 fp ρi 0 17 [crLine] [(0, some (.agg (PlanV.cs p))), (1, some (.int .i64 n))] ⟨0, []⟩ (fnK RrLine 0 Kf) :=
  (L_seq (prLine_1 p n hK h))
end
theorem okrLine (p : PlanV) (n : Int) (hpre : True) : vcrLine p n := by
  unfold vcrLine vrLine_1 vrLine_0
  rfl
theorem srLine : Sound Try.prog 166 (pureS PrLine) := by
  refine fn_soundA crLine_fits ?_
  intro args H K h
  obtain ⟨pre, v, hP, hpre, rfl, hK⟩ := pureS_inv h
  unfold PrLine at hP
  split at hP
  · obtain ⟨hb, hP⟩ := bif_some hP
    simp only [Bool.and_eq_true] at hb
    obtain ⟨h0, h1⟩ := hb
    obtain rfl := Nat.eq_of_beq_eq_true h0
    obtain rfl := Nat.eq_of_beq_eq_true h1
    cases hP
    exact ⟨rfl, fun w0 fp ρi => wrLine (PlanV.mk _ _ _ _ _ _ _ _ _ _ _ _ _ _ _ _) _ hK (okrLine (PlanV.mk _ _ _ _ _ _ _ _ _ _ _ _ _ _ _ _) _ hpre)⟩
  · cases hP
def PrItem : PSpec := fun args => match args with
  | [.agg [.one (.int .i64 p_0), .one (.int .i64 p_1), .one (.int .i64 p_2), .one (.int .i64 p_3), .one (.int .i64 p_4), .one (.int .i64 p_5), .one (.int .u64 p_6), .one (.int .i64 p_7), .one (.int .i64 p_8), .one (.int .i64 p_9), .one (.int .i64 p_10), .one (.int .i64 p_11), .one (.int .i64 p_12), .one (.int .i64 p_13), .ints .u8 p_14_n p_14, .ints .u8 p_15_n p_15], .agg [.one (.int .i64 x_0), .one (.int .i64 x_1)]] => bif Nat.beq p_14_n 16 && Nat.beq p_15_n 16 then some (True, .bool (PlanV.itemB (PlanV.mk p_0 p_1 p_2 p_3 p_4 p_5 p_6 p_7 p_8 p_9 p_10 p_11 p_12 p_13 p_14 p_15) (ItemV.mk x_0 x_1))) else none
  | _ => none
def pcrItem : PCon := ⟨163, PrItem⟩
def crItem_n0 : ACode := .reg (.op (some 2) (.box (.tm 0)) (.op (some 3) (.box (.tm 1)) (.op (some 4) (.mov (.cn (.bool false))) .nil)))
def crItem_n1i : Items := .op (some 5) (.loadA 46 (.tm 2)) (.op (some 6) (.call 171 [(.tm 5)]) (.op (some 7) (.mov (.tm 6)) (.grpJ 7 true (.op (some 8) (.fieldAddr (.tm 3) 1 1) (.op (some 9) (.load1 (.tm 8)) (.op (some 10) (.bin .geq (.tm 9) (.cn (.int .i64 0))) .nil))) 11 (.tm 10) (.cn (.bool false)) (.op (some 12) (.mov (.tm 11)) (.grpJ 12 true (.op (some 13) (.fieldAddr (.tm 3) 1 1) (.op (some 14) (.load1 (.tm 13)) (.op (some 15) (.loadA 46 (.tm 2)) (.op (some 16) (.fieldAddr (.tm 3) 0 1) (.op (some 17) (.load1 (.tm 16)) (.op (some 18) (.call 53 [(.tm 15), (.tm 17)]) (.op (some 19) (.bin .lss (.tm 14) (.tm 18)) .nil))))))) 20 (.tm 19) (.cn (.bool false)) (.op (some 4) (.mov (.tm 20)) .nil))))))
def crItem_n1 : ACode := .regQ crItem_n1i
def crItem : ACode := (.seq crItem_n0 (.seq crItem_n1 .ret))
def RrItem : Res := .one (.tm 4)
theorem crItem_fits : fnFits Try.prog 163 2 21 crItem RrItem = true := by kernel_rfl
def GrItem : Calls' := withP [pcpWidth, pcrRight] []
theorem hGrItem : CallOk Try.prog GrItem := withP_ok ⟨spWidth, srRight, trivial⟩ trivial
section
variable {w0 : World} {fp : Nat → Nat → Prop} {ρi : Rho} {Kf : SVal → Heap → Prop}
theorem rrItem_0 (p : PlanV) (x : ItemV) (Z : Env → Heap → Prop) : evR GrItem ⟨2, [(0, some ⟨true, (PlanV.cs p), 0⟩), (1, some ⟨true, (ItemV.cs x), 0⟩)]⟩ crItem_n1i [.bool (PlanV.right p), .int .i64 (PlanV.width p x.level)] [(2, some (.ptr ⟨0, 0, 0, 1⟩ 46)), (3, some (.ptr ⟨1, 0, 0, 1⟩ 2))] (fun _ e' => Z (pickE [4] e') (Heap.keep ⟨2, [(0, some ⟨true, (PlanV.cs p), 0⟩), (1, some ⟨true, (ItemV.cs x), 0⟩)]⟩ [])) = (((SVal.bd 2 (.bool (PlanV.right p)))) ∧ (True ∧ ((.bool (PlanV.right p) : SVal) = .bool (PlanV.right p)) ∧ (keeps ⟨2, [(0, some ⟨true, (PlanV.cs p), 0⟩), (1, some ⟨true, (ItemV.cs x), 0⟩)]⟩ ⟨2, [(0, some ⟨true, (PlanV.cs p), 0⟩), (1, some ⟨true, (ItemV.cs x), 0⟩)]⟩ [(0, some ⟨true, (PlanV.cs p), 0⟩), (1, some ⟨true, (ItemV.cs x), 0⟩)])) ∧ ∃ qq : Bool, ((PlanV.right p) = true → (decide (0 ≤ x.index)) = qq) ∧ ((PlanV.right p) = false → false = qq) ∧ ∃ qq'1 : Bool, (qq = true → ((SVal.bd 2 (.int .i64 (PlanV.width p x.level)))) ∧ (True ∧ ((.int .i64 (PlanV.width p x.level) : SVal) = .int .i64 (PlanV.width p x.level)) ∧ (keeps ⟨2, [(0, some ⟨true, (PlanV.cs p), 0⟩), (1, some ⟨true, (ItemV.cs x), 0⟩)]⟩ ⟨2, [(0, some ⟨true, (PlanV.cs p), 0⟩), (1, some ⟨true, (ItemV.cs x), 0⟩)]⟩ [(0, some ⟨true, (PlanV.cs p), 0⟩), (1, some ⟨true, (ItemV.cs x), 0⟩)])) ∧ (decide (x.index < (PlanV.width p x.level))) = qq'1) ∧ (qq = false → false = qq'1) ∧ Z [(4, some (.bool qq'1))] ⟨2, []⟩) := by kernel_rfl
theorem rtrItem_0 (p : PlanV) (x : ItemV) (Z : SVal → Prop) : Res.ev RrItem [(4, some (.bool (((PlanV.right p) && (decide (0 ≤ x.index))) && (decide (x.index < (PlanV.width p x.level))))))] ⟨2, []⟩ Z = Z (.bool (((PlanV.right p) && (decide (0 ≤ x.index))) && (decide (x.index < (PlanV.width p x.level))))) := by kernel_rfl
def vrItem_0 (p : PlanV) (x : ItemV) : Prop := (((PlanV.right p) && (decide (0 ≤ x.index))) && (decide (x.index < (PlanV.width p x.level)))) = (PlanV.itemB p x)
theorem prItem_0 (p : PlanV) (x : ItemV) (hK : Kf (.bool (PlanV.itemB p x)) ⟨0, []⟩) (h : vrItem_0 p x) : SemL Try.prog w0 fp ρi 0 21 [crItem_n1, .ret] [(2, some (.ptr ⟨0, 0, 0, 1⟩ 46)), (3, some (.ptr ⟨1, 0, 0, 1⟩ 2))] ⟨2, [(0, some ⟨true, (PlanV.cs p), 0⟩), (1, some ⟨true, (ItemV.cs x), 0⟩)]⟩ (fnK RrItem 0 Kf) :=
  L_regQ hGrItem (its := crItem_n1i) [.bool (PlanV.right p), .int .i64 (PlanV.width p x.level)] [4] [] ((rrItem_0 p x (fun e H => SemL Try.prog w0 fp ρi 0 21 [.ret] e H (fnK RrItem 0 Kf))).mpr ⟨(plainR_ren (τ := whole) (by kernel_rfl)).2, ⟨⟨True.intro, rfl, (keeps_refl _)⟩, ⟨((PlanV.right p) && (decide (0 ≤ x.index))), fun hc_qq => (qa1 hc_qq), fun hc_qq => qa2 hc_qq, ⟨(((PlanV.right p) && (decide (0 ≤ x.index))) && (decide (x.index < (PlanV.width p x.level)))), fun hc_qq_1 => ⟨(plainR_ren (τ := whole) (by kernel_rfl)).2, ⟨⟨True.intro, rfl, (keeps_refl _)⟩, (qa1 hc_qq_1)⟩⟩, fun hc_qq_1 => qa2 hc_qq_1, (L_ret ((rtrItem_0 p x (fun r => Ret 0 Kf r ⟨2, []⟩)).mpr (ret_plain rfl (by kernel_rfl) (cg1 (fun (z1 : Bool) => (.bool z1 : SVal)) h) hK)))⟩⟩⟩⟩)
theorem rrItem_1 (p : PlanV) (x : ItemV) (Z : Env → Heap → Prop) : evCode GrItem Λ0 crItem_n0 [(0, some (.agg (PlanV.cs p))), (1, some (.agg (ItemV.cs x)))] ⟨0, []⟩ (onlyN fun e' H' => Z (pickE [2, 3] e') (H'.keep [0, 1])) = (Z [(2, some (.ptr ⟨0, 0, 0, 1⟩ 46)), (3, some (.ptr ⟨1, 0, 0, 1⟩ 2))] ⟨2, [(0, some ⟨true, (PlanV.cs p), 0⟩), (1, some ⟨true, (ItemV.cs x), 0⟩)]⟩) := by kernel_rfl
def vrItem_1 (p : PlanV) (x : ItemV) : Prop := vrItem_0 p x
theorem prItem_1 (p : PlanV) (x : ItemV) (hK : Kf (.bool (PlanV.itemB p x)) ⟨0, []⟩) (h : vrItem_1 p x) : SemL Try.prog w0 fp ρi 0 21 [crItem_n0, (.seq crItem_n1 .ret)] [(0, some (.agg (PlanV.cs p))), (1, some (.agg (ItemV.cs x)))] ⟨0, []⟩ (fnK RrItem 0 Kf) :=
  L_reg hGrItem [2, 3] [0, 1] ((rrItem_1 p x (fun e H => SemL Try.prog w0 fp ρi 0 21 [(.seq crItem_n1 .ret)] e H (fnK RrItem 0 Kf))).mpr (L_seq (prItem_0 p x hK h)))
def vcrItem (p : PlanV) (x : ItemV) : Prop := vrItem_1 p x
theorem wrItem (p : PlanV) (x : ItemV) (hK : Kf (.bool (PlanV.itemB p x)) ⟨0, []⟩) (h : vcrItem p x) : SemL Try.prog w0 fp ρi 0 21 [crItem] [(0, some (.agg (PlanV.cs p))), (1, some (.agg (ItemV.cs x)))] ⟨0, []⟩ (fnK RrItem 0 Kf) :=
  (L_seq (prItem_1 p x hK h))
end
theorem okrItem (p : PlanV) (x : ItemV) (hpre : True) : vcrItem p x := by
  unfold vcrItem vrItem_1 vrItem_0
  rfl
theorem srItem : Sound Try.prog 163 (pureS PrItem) := by
  refine fn_soundA crItem_fits ?_
  intro args H K h
  obtain ⟨pre, v, hP, hpre, rfl, hK⟩ := pureS_inv h
  unfold PrItem at hP
  split at hP
  · obtain ⟨hb, hP⟩ := bif_some hP
    simp only [Bool.and_eq_true] at hb
    obtain ⟨h0, h1⟩ := hb
    obtain rfl := Nat.eq_of_beq_eq_true h0
    obtain rfl := Nat.eq_of_beq_eq_true h1
    cases hP
    exact ⟨rfl, fun w0 fp ρi => wrItem (PlanV.mk _ _ _ _ _ _ _ _ _ _ _ _ _ _ _ _) (ItemV.mk _ _) hK (okrItem (PlanV.mk _ _ _ _ _ _ _ _ _ _ _ _ _ _ _ _) (ItemV.mk _ _) hpre)⟩
  · cases hP
def PrTags : PSpec := fun args => match args with
  | [.agg [.one (.int .i64 p_0), .one (.int .i64 p_1), .one (.int .i64 p_2), .one (.int .i64 p_3), .one (.int .i64 p_4), .one (.int .i64 p_5), .one (.int .u64 p_6), .one (.int .i64 p_7), .one (.int .i64 p_8), .one (.int .i64 p_9), .one (.int .i64 p_10), .one (.int .i64 p_11), .one (.int .i64 p_12), .one (.int .i64 p_13), .ints .u8 p_14_n p_14, .ints .u8 p_15_n p_15]] => bif Nat.beq p_14_n 16 && Nat.beq p_15_n 16 then some (True, .int .i64 (PlanV.tags (PlanV.mk p_0 p_1 p_2 p_3 p_4 p_5 p_6 p_7 p_8 p_9 p_10 p_11 p_12 p_13 p_14 p_15))) else none
  | _ => none
def pcrTags : PCon := ⟨172, PrTags⟩
def crTags_n0 : ACode := .reg (.op (some 1) (.box (.tm 0)) (.op (some 2) (.mov (.cn (.int .i64 0))) .nil))
def crTags_n1 : ACode := .reg (.op (some 3) (.loadA 46 (.tm 1)) (.op (some 4) (.call 55 [(.tm 3)]) (.op (some 5) (.bin .mul (.tm 4) (.cn (.int .i64 32))) (.op (some 2) (.mov (.tm 5)) .nil))))
def crTags : ACode := (.seq crTags_n0 (.seq crTags_n1 .ret))
def RrTags : Res := .one (.tm 2)
theorem crTags_fits : fnFits Try.prog 172 1 6 crTags RrTags = true := by kernel_rfl
def GrTags : Calls' := withP [pcpAll] []
theorem hGrTags : CallOk Try.prog GrTags := withP_ok ⟨spAll, trivial⟩ trivial
section
variable {w0 : World} {fp : Nat → Nat → Prop} {ρi : Rho} {Kf : SVal → Heap → Prop}
theorem rrTags_0 (p : PlanV) (Z : Env → Heap → Prop) : evCode GrTags Λ0 crTags_n1 [(1, some (.ptr ⟨0, 0, 0, 1⟩ 46))] ⟨1, [(0, some ⟨true, (PlanV.cs p), 0⟩)]⟩ (onlyN fun e' H' => Z (pickE [2] e') (H'.keep [])) = ((True) ∧ Z [(2, some (.int .i64 (IntKind.i64.wrap ((PlanV.all p) * 32))))] ⟨1, []⟩) := by kernel_rfl
theorem rtrTags_0 (p : PlanV) (Z : SVal → Prop) : Res.ev RrTags [(2, some (.int .i64 (IntKind.i64.wrap ((PlanV.all p) * 32))))] ⟨1, []⟩ Z = Z (.int .i64 (IntKind.i64.wrap ((PlanV.all p) * 32))) := by kernel_rfl
def vrTags_0 (p : PlanV) : Prop := (IntKind.i64.wrap ((PlanV.all p) * 32)) = (PlanV.tags p)
theorem prTags_0 (p : PlanV) (hK : Kf (.int .i64 (PlanV.tags p)) ⟨0, []⟩) (h : vrTags_0 p) : SemL Try.prog w0 fp ρi 0 6 [crTags_n1, .ret] [(1, some (.ptr ⟨0, 0, 0, 1⟩ 46))] ⟨1, [(0, some ⟨true, (PlanV.cs p), 0⟩)]⟩ (fnK RrTags 0 Kf) :=
  L_reg hGrTags [2] [] ((rrTags_0 p (fun e H => SemL Try.prog w0 fp ρi 0 6 [.ret] e H (fnK RrTags 0 Kf))).mpr ⟨True.intro, (L_ret ((rtrTags_0 p (fun r => Ret 0 Kf r ⟨1, []⟩)).mpr (ret_plain rfl (by kernel_rfl) (cg1 (fun (z1 : Int) => (.int .i64 z1 : SVal)) h) hK)))⟩)
theorem rrTags_1 (p : PlanV) (Z : Env → Heap → Prop) : evCode GrTags Λ0 crTags_n0 [(0, some (.agg (PlanV.cs p)))] ⟨0, []⟩ (onlyN fun e' H' => Z (pickE [1] e') (H'.keep [0])) = (Z [(1, some (.ptr ⟨0, 0, 0, 1⟩ 46))] ⟨1, [(0, some ⟨true, (PlanV.cs p), 0⟩)]⟩) := by kernel_rfl
def vrTags_1 (p : PlanV) : Prop := vrTags_0 p
theorem prTags_1 (p : PlanV) (hK : Kf (.int .i64 (PlanV.tags p)) ⟨0, []⟩) (h : vrTags_1 p) : SemL Try.prog w0 fp ρi 0 6 [crTags_n0, (.seq crTags_n1 .ret)] [(0, some (.agg (PlanV.cs p)))] ⟨0, []⟩ (fnK RrTags 0 Kf) :=
  L_reg hGrTags [1] [0] ((rrTags_1 p (fun e H => SemL Try.prog w0 fp ρi 0 6 [(.seq crTags_n1 .ret)] e H (fnK RrTags 0 Kf))).mpr (L_seq (prTags_0 p hK h)))
def vcrTags (p : PlanV) : Prop := vrTags_1 p
theorem wrTags (p : PlanV) (hK : Kf (.int .i64 (PlanV.tags p)) ⟨0, []⟩) (h : vcrTags p) : SemL Try.prog w0 fp ρi 0 6 [crTags] [(0, some (.agg (PlanV.cs p)))] ⟨0, []⟩ (fnK RrTags 0 Kf) :=
  (L_seq (prTags_1 p hK h))
end
theorem okrTags (p : PlanV) (hpre : True) : vcrTags p := by
  unfold vcrTags vrTags_1 vrTags_0
  have := p.all_le
  unfold PlanV.tags
  rw [wi64]; omega
theorem srTags : Sound Try.prog 172 (pureS PrTags) := by
  refine fn_soundA crTags_fits ?_
  intro args H K h
  obtain ⟨pre, v, hP, hpre, rfl, hK⟩ := pureS_inv h
  unfold PrTags at hP
  split at hP
  · obtain ⟨hb, hP⟩ := bif_some hP
    simp only [Bool.and_eq_true] at hb
    obtain ⟨h0, h1⟩ := hb
    obtain rfl := Nat.eq_of_beq_eq_true h0
    obtain rfl := Nat.eq_of_beq_eq_true h1
    cases hP
    exact ⟨rfl, fun w0 fp ρi => wrTags (PlanV.mk _ _ _ _ _ _ _ _ _ _ _ _ _ _ _ _) hK (okrTags (PlanV.mk _ _ _ _ _ _ _ _ _ _ _ _ _ _ _ _) hpre)⟩
  · cases hP
def PrItems : PSpec := fun args => match args with
  | [.agg [.one (.int .i64 p_0), .one (.int .i64 p_1), .one (.int .i64 p_2), .one (.int .i64 p_3), .one (.int .i64 p_4), .one (.int .i64 p_5), .one (.int .u64 p_6), .one (.int .i64 p_7), .one (.int .i64 p_8), .one (.int .i64 p_9), .one (.int .i64 p_10), .one (.int .i64 p_11), .one (.int .i64 p_12), .one (.int .i64 p_13), .ints .u8 p_14_n p_14, .ints .u8 p_15_n p_15]] => bif Nat.beq p_14_n 16 && Nat.beq p_15_n 16 then some (True, .int .i64 (PlanV.itemsAt (PlanV.mk p_0 p_1 p_2 p_3 p_4 p_5 p_6 p_7 p_8 p_9 p_10 p_11 p_12 p_13 p_14 p_15))) else none
  | _ => none
def pcrItems : PCon := ⟨164, PrItems⟩
def crItems_n0 : ACode := .reg (.op (some 1) (.box (.tm 0)) (.op (some 2) (.mov (.cn (.int .i64 0))) .nil))
def crItems_n1i : Items := .op (some 3) (.loadA 46 (.tm 1)) (.op (some 4) (.call 172 [(.tm 3)]) (.op (some 5) (.loadA 46 (.tm 1)) (.op (some 6) (.call 55 [(.tm 5)]) (.op (some 7) (.bin .mul (.tm 6) (.cn (.int .i64 8))) (.op (some 8) (.bin .add (.tm 4) (.tm 7)) (.op (some 2) (.mov (.tm 8)) .nil))))))
def crItems_n1 : ACode := .regQ crItems_n1i
def crItems : ACode := (.seq crItems_n0 (.seq crItems_n1 .ret))
def RrItems : Res := .one (.tm 2)
theorem crItems_fits : fnFits Try.prog 164 1 9 crItems RrItems = true := by kernel_rfl
def GrItems : Calls' := withP [pcpAll, pcrTags] []
theorem hGrItems : CallOk Try.prog GrItems := withP_ok ⟨spAll, srTags, trivial⟩ trivial
section
variable {w0 : World} {fp : Nat → Nat → Prop} {ρi : Rho} {Kf : SVal → Heap → Prop}
theorem rrItems_0 (p : PlanV) (Z : Env → Heap → Prop) : evR GrItems ⟨1, [(0, some ⟨true, (PlanV.cs p), 0⟩)]⟩ crItems_n1i [.int .i64 (PlanV.tags p), .int .i64 (PlanV.all p)] [(1, some (.ptr ⟨0, 0, 0, 1⟩ 46))] (fun _ e' => Z (pickE [2] e') (Heap.keep ⟨1, [(0, some ⟨true, (PlanV.cs p), 0⟩)]⟩ [])) = (((SVal.bd 1 (.int .i64 (PlanV.tags p)))) ∧ (True ∧ ((.int .i64 (PlanV.tags p) : SVal) = .int .i64 (PlanV.tags p)) ∧ (keeps ⟨1, [(0, some ⟨true, (PlanV.cs p), 0⟩)]⟩ ⟨1, [(0, some ⟨true, (PlanV.cs p), 0⟩)]⟩ [(0, some ⟨true, (PlanV.cs p), 0⟩)])) ∧ ((SVal.bd 1 (.int .i64 (PlanV.all p)))) ∧ (True ∧ ((.int .i64 (PlanV.all p) : SVal) = .int .i64 (PlanV.all p)) ∧ (keeps ⟨1, [(0, some ⟨true, (PlanV.cs p), 0⟩)]⟩ ⟨1, [(0, some ⟨true, (PlanV.cs p), 0⟩)]⟩ [(0, some ⟨true, (PlanV.cs p), 0⟩)])) ∧ Z [(2, some (.int .i64 (IntKind.i64.wrap ((PlanV.tags p) + (IntKind.i64.wrap ((PlanV.all p) * 8))))))] ⟨1, []⟩) := by kernel_rfl
theorem rtrItems_0 (p : PlanV) (Z : SVal → Prop) : Res.ev RrItems [(2, some (.int .i64 (IntKind.i64.wrap ((PlanV.tags p) + (IntKind.i64.wrap ((PlanV.all p) * 8))))))] ⟨1, []⟩ Z = Z (.int .i64 (IntKind.i64.wrap ((PlanV.tags p) + (IntKind.i64.wrap ((PlanV.all p) * 8))))) := by kernel_rfl
def vrItems_0 (p : PlanV) : Prop := (IntKind.i64.wrap ((PlanV.tags p) + (IntKind.i64.wrap ((PlanV.all p) * 8)))) = (PlanV.itemsAt p)
theorem prItems_0 (p : PlanV) (hK : Kf (.int .i64 (PlanV.itemsAt p)) ⟨0, []⟩) (h : vrItems_0 p) : SemL Try.prog w0 fp ρi 0 9 [crItems_n1, .ret] [(1, some (.ptr ⟨0, 0, 0, 1⟩ 46))] ⟨1, [(0, some ⟨true, (PlanV.cs p), 0⟩)]⟩ (fnK RrItems 0 Kf) :=
  L_regQ hGrItems (its := crItems_n1i) [.int .i64 (PlanV.tags p), .int .i64 (PlanV.all p)] [2] [] ((rrItems_0 p (fun e H => SemL Try.prog w0 fp ρi 0 9 [.ret] e H (fnK RrItems 0 Kf))).mpr ⟨(plainR_ren (τ := whole) (by kernel_rfl)).2, ⟨⟨True.intro, rfl, (keeps_refl _)⟩, ⟨(plainR_ren (τ := whole) (by kernel_rfl)).2, ⟨⟨True.intro, rfl, (keeps_refl _)⟩, (L_ret ((rtrItems_0 p (fun r => Ret 0 Kf r ⟨1, []⟩)).mpr (ret_plain rfl (by kernel_rfl) (cg1 (fun (z1 : Int) => (.int .i64 z1 : SVal)) h) hK)))⟩⟩⟩⟩)
theorem rrItems_1 (p : PlanV) (Z : Env → Heap → Prop) : evCode GrItems Λ0 crItems_n0 [(0, some (.agg (PlanV.cs p)))] ⟨0, []⟩ (onlyN fun e' H' => Z (pickE [1] e') (H'.keep [0])) = (Z [(1, some (.ptr ⟨0, 0, 0, 1⟩ 46))] ⟨1, [(0, some ⟨true, (PlanV.cs p), 0⟩)]⟩) := by kernel_rfl
def vrItems_1 (p : PlanV) : Prop := vrItems_0 p
theorem prItems_1 (p : PlanV) (hK : Kf (.int .i64 (PlanV.itemsAt p)) ⟨0, []⟩) (h : vrItems_1 p) : SemL Try.prog w0 fp ρi 0 9 [crItems_n0, (.seq crItems_n1 .ret)] [(0, some (.agg (PlanV.cs p)))] ⟨0, []⟩ (fnK RrItems 0 Kf) :=
  L_reg hGrItems [1] [0] ((rrItems_1 p (fun e H => SemL Try.prog w0 fp ρi 0 9 [(.seq crItems_n1 .ret)] e H (fnK RrItems 0 Kf))).mpr (L_seq (prItems_0 p hK h)))
def vcrItems (p : PlanV) : Prop := vrItems_1 p
theorem wrItems (p : PlanV) (hK : Kf (.int .i64 (PlanV.itemsAt p)) ⟨0, []⟩) (h : vcrItems p) : SemL Try.prog w0 fp ρi 0 9 [crItems] [(0, some (.agg (PlanV.cs p)))] ⟨0, []⟩ (fnK RrItems 0 Kf) :=
  (L_seq (prItems_1 p hK h))
end
theorem okrItems (p : PlanV) (hpre : True) : vcrItems p := by
  unfold vcrItems vrItems_1 vrItems_0
  have := p.all_le
  unfold PlanV.tags PlanV.itemsAt
  simp only [wi64]; omega
theorem srItems : Sound Try.prog 164 (pureS PrItems) := by
  refine fn_soundA crItems_fits ?_
  intro args H K h
  obtain ⟨pre, v, hP, hpre, rfl, hK⟩ := pureS_inv h
  unfold PrItems at hP
  split at hP
  · obtain ⟨hb, hP⟩ := bif_some hP
    simp only [Bool.and_eq_true] at hb
    obtain ⟨h0, h1⟩ := hb
    obtain rfl := Nat.eq_of_beq_eq_true h0
    obtain rfl := Nat.eq_of_beq_eq_true h1
    cases hP
    exact ⟨rfl, fun w0 fp ρi => wrItems (PlanV.mk _ _ _ _ _ _ _ _ _ _ _ _ _ _ _ _) hK (okrItems (PlanV.mk _ _ _ _ _ _ _ _ _ _ _ _ _ _ _ _) hpre)⟩
  · cases hP
def PrData : PSpec := fun args => match args with
  | [.agg [.one (.int .i64 p_0), .one (.int .i64 p_1), .one (.int .i64 p_2), .one (.int .i64 p_3), .one (.int .i64 p_4), .one (.int .i64 p_5), .one (.int .u64 p_6), .one (.int .i64 p_7), .one (.int .i64 p_8), .one (.int .i64 p_9), .one (.int .i64 p_10), .one (.int .i64 p_11), .one (.int .i64 p_12), .one (.int .i64 p_13), .ints .u8 p_14_n p_14, .ints .u8 p_15_n p_15], .int .i64 n] => bif Nat.beq p_14_n 16 && Nat.beq p_15_n 16 then some (True, .tuple [.int .i64 (PlanV.dataAt (PlanV.mk p_0 p_1 p_2 p_3 p_4 p_5 p_6 p_7 p_8 p_9 p_10 p_11 p_12 p_13 p_14 p_15) n), .bool (PlanV.lineB (PlanV.mk p_0 p_1 p_2 p_3 p_4 p_5 p_6 p_7 p_8 p_9 p_10 p_11 p_12 p_13 p_14 p_15) n)]) else none
  | _ => none
def pcrData : PCon := ⟨84, PrData⟩
def crData_n0 : ACode := .reg (.op (some 2) (.box (.tm 0)) (.op (some 4) (.mov (.cn (.int .i64 0))) (.op (some 5) (.mov (.cn (.bool false))) .nil)))
def crData_n1 : ACode := .reg (.op (some 6) (.loadA 46 (.tm 2)) (.op (some 7) (.mov (.tm 1)) (.op (some 8) (.call 166 [(.tm 6), (.tm 7)]) (.op (some 9) (.not (.tm 8)) .nil))))
def crData_n2 : ACode := .reg (.op (some 4) (.mov (.cn (.int .i64 0))) (.op (some 5) (.mov (.cn (.bool false))) .nil))
def crData_n3 : ACode := .cond (.tm 9) (.seq crData_n2 .ret) .skip
def crData_n4 : ACode := .reg (.op (some 10) (.mov (.tm 1)) (.op (some 11) (.bin .mul (.tm 10) (.cn (.int .i64 32))) (.op (some 4) (.mov (.tm 11)) (.op (some 5) (.mov (.cn (.bool true))) .nil))))
def crData : ACode := (.seq crData_n0 (.seq (.seq crData_n1 crData_n3) (.seq crData_n4 .ret)))
def RrData : Res := .many [.tm 4, .tm 5]
theorem crData_fits : fnFits Try.prog 84 2 12 crData RrData = true := by kernel_rfl
def GrData : Calls' := withP [pcrLine] []
theorem hGrData : CallOk Try.prog GrData := withP_ok ⟨srLine, trivial⟩ trivial
section
variable {w0 : World} {fp : Nat → Nat → Prop} {ρi : Rho} {Kf : SVal → Heap → Prop}
theorem rrData_0 (p : PlanV) (n : Int) (Z : Env → Heap → Prop) : evCode GrData Λ0 crData_n2 [(1, some (.int .i64 n)), (9, some (.bool (!(PlanV.lineB p n))))] ⟨1, []⟩ (onlyN fun e' H' => Z (pickE [4, 5] e') (H'.keep [])) = (Z [(4, some (.int .i64 0)), (5, some (.bool false))] ⟨1, []⟩) := by kernel_rfl
theorem rtrData_0 (p : PlanV) (n : Int) (Z : SVal → Prop) : Res.ev RrData [(4, some (.int .i64 0)), (5, some (.bool false))] ⟨1, []⟩ Z = Z (.tuple [.int .i64 0, .bool false]) := by kernel_rfl
def vrData_0 (p : PlanV) (n : Int) : Prop := (0 = (PlanV.dataAt p n)) ∧ (false = (PlanV.lineB p n))
theorem prData_0 (p : PlanV) (n : Int) (hK : Kf (.tuple [.int .i64 (PlanV.dataAt p n), .bool (PlanV.lineB p n)]) ⟨0, []⟩) (h : vrData_0 p n) : SemL Try.prog w0 fp ρi 0 12 [crData_n2, .ret, (.seq crData_n4 .ret)] [(1, some (.int .i64 n)), (9, some (.bool (!(PlanV.lineB p n))))] ⟨1, []⟩ (fnK RrData 0 Kf) :=
  L_reg hGrData [4, 5] [] ((rrData_0 p n (fun e H => SemL Try.prog w0 fp ρi 0 12 [.ret, (.seq crData_n4 .ret)] e H (fnK RrData 0 Kf))).mpr (L_ret ((rtrData_0 p n (fun r => Ret 0 Kf r ⟨1, []⟩)).mpr (ret_plain rfl (by kernel_rfl) (cg2 (fun (z1 : Int) (z2 : Bool) => (.tuple [.int .i64 z1, .bool z2] : SVal)) h.1 h.2) hK))))
theorem rrData_1 (p : PlanV) (n : Int) (Z : Env → Heap → Prop) : evCode GrData Λ0 crData_n4 [(1, some (.int .i64 n)), (9, some (.bool (!(PlanV.lineB p n))))] ⟨1, []⟩ (onlyN fun e' H' => Z (pickE [4, 5] e') (H'.keep [])) = (Z [(4, some (.int .i64 (IntKind.i64.wrap (n * 32)))), (5, some (.bool true))] ⟨1, []⟩) := by kernel_rfl
theorem rtrData_1 (p : PlanV) (n : Int) (Z : SVal → Prop) : Res.ev RrData [(4, some (.int .i64 (IntKind.i64.wrap (n * 32)))), (5, some (.bool true))] ⟨1, []⟩ Z = Z (.tuple [.int .i64 (IntKind.i64.wrap (n * 32)), .bool true]) := by kernel_rfl
def vrData_1 (p : PlanV) (n : Int) : Prop := ((IntKind.i64.wrap (n * 32)) = (PlanV.dataAt p n)) ∧ (true = (PlanV.lineB p n))
theorem prData_1 (p : PlanV) (n : Int) (hK : Kf (.tuple [.int .i64 (PlanV.dataAt p n), .bool (PlanV.lineB p n)]) ⟨0, []⟩) (h : vrData_1 p n) : SemL Try.prog w0 fp ρi 0 12 [crData_n4, .ret] [(1, some (.int .i64 n)), (9, some (.bool (!(PlanV.lineB p n))))] ⟨1, []⟩ (fnK RrData 0 Kf) :=
  L_reg hGrData [4, 5] [] ((rrData_1 p n (fun e H => SemL Try.prog w0 fp ρi 0 12 [.ret] e H (fnK RrData 0 Kf))).mpr (L_ret ((rtrData_1 p n (fun r => Ret 0 Kf r ⟨1, []⟩)).mpr (ret_plain rfl (by kernel_rfl) (cg2 (fun (z1 : Int) (z2 : Bool) => (.tuple [.int .i64 z1, .bool z2] : SVal)) h.1 h.2) hK))))
def vrData_2 (p : PlanV) (n : Int) : Prop := ((!(PlanV.lineB p n)) = true → (vrData_0 p n)) ∧ ((!(PlanV.lineB p n)) = false → (vrData_1 p n))
theorem prData_2 (p : PlanV) (n : Int) (hK : Kf (.tuple [.int .i64 (PlanV.dataAt p n), .bool (PlanV.lineB p n)]) ⟨0, []⟩) (h : vrData_2 p n) : SemL Try.prog w0 fp ρi 0 12 [crData_n3, (.seq crData_n4 .ret)] [(1, some (.int .i64 n)), (9, some (.bool (!(PlanV.lineB p n))))] ⟨1, []⟩ (fnK RrData 0 Kf) :=
  L_cond (q := (!(PlanV.lineB p n))) (by kernel_rfl) (fun hq => (L_seq (prData_0 p n hK (h.1 hq)))) (fun hq => (L_skip (L_seq (prData_1 p n hK (h.2 hq)))))
theorem rrData_3 (p : PlanV) (n : Int) (Z : Env → Heap → Prop) : evCode GrData Λ0 crData_n1 [(1, some (.int .i64 n)), (2, some (.ptr ⟨0, 0, 0, 1⟩ 46))] ⟨1, [(0, some ⟨true, (PlanV.cs p), 0⟩)]⟩ (onlyN fun e' H' => Z (pickE [1, 9] e') (H'.keep [])) = ((True) ∧ Z [(1, some (.int .i64 n)), (9, some (.bool (!(PlanV.lineB p n))))] ⟨1, []⟩) := by kernel_rfl
def vrData_3 (p : PlanV) (n : Int) : Prop := vrData_2 p n
theorem prData_3 (p : PlanV) (n : Int) (hK : Kf (.tuple [.int .i64 (PlanV.dataAt p n), .bool (PlanV.lineB p n)]) ⟨0, []⟩) (h : vrData_3 p n) : SemL Try.prog w0 fp ρi 0 12 [crData_n1, crData_n3, (.seq crData_n4 .ret)] [(1, some (.int .i64 n)), (2, some (.ptr ⟨0, 0, 0, 1⟩ 46))] ⟨1, [(0, some ⟨true, (PlanV.cs p), 0⟩)]⟩ (fnK RrData 0 Kf) :=
  L_reg hGrData [1, 9] [] ((rrData_3 p n (fun e H => SemL Try.prog w0 fp ρi 0 12 [crData_n3, (.seq crData_n4 .ret)] e H (fnK RrData 0 Kf))).mpr ⟨True.intro, (prData_2 p n hK h)⟩)
theorem rrData_4 (p : PlanV) (n : Int) (Z : Env → Heap → Prop) : evCode GrData Λ0 crData_n0 [(0, some (.agg (PlanV.cs p))), (1, some (.int .i64 n))] ⟨0, []⟩ (onlyN fun e' H' => Z (pickE [1, 2] e') (H'.keep [0])) = (Z [(1, some (.int .i64 n)), (2, some (.ptr ⟨0, 0, 0, 1⟩ 46))] ⟨1, [(0, some ⟨true, (PlanV.cs p), 0⟩)]⟩) := by kernel_rfl
def vrData_4 (p : PlanV) (n : Int) : Prop := vrData_3 p n
theorem prData_4 (p : PlanV) (n : Int) (hK : Kf (.tuple [.int .i64 (PlanV.dataAt p n), .bool (PlanV.lineB p n)]) ⟨0, []⟩) (h : vrData_4 p n) : SemL Try.prog w0 fp ρi 0 12 [crData_n0, (.seq (.seq crData_n1 crData_n3) (.seq crData_n4 .ret))] [(0, some (.agg (PlanV.cs p))), (1, some (.int .i64 n))] ⟨0, []⟩ (fnK RrData 0 Kf) :=
  L_reg hGrData [1, 2] [0] ((rrData_4 p n (fun e H => SemL Try.prog w0 fp ρi 0 12 [(.seq (.seq crData_n1 crData_n3) (.seq crData_n4 .ret))] e H (fnK RrData 0 Kf))).mpr (L_seq (L_seq (prData_3 p n hK h))))
def vcrData (p : PlanV) (n : Int) : Prop := vrData_4 p n
theorem wrData (p : PlanV) (n : Int) (hK : Kf (.tuple [.int .i64 (PlanV.dataAt p n), .bool (PlanV.lineB p n)]) ⟨0, []⟩) (h : vcrData p n) : SemL Try.prog w0 fp ρi 0 12 [crData] [(0, some (.agg (PlanV.cs p))), (1, some (.int .i64 n))] ⟨0, []⟩ (fnK RrData 0 Kf) :=
  (L_seq (prData_4 p n hK h))
end
theorem okrData (p : PlanV) (n : Int) (hpre : True) : vcrData p n := by
  unfold vcrData vrData_4 vrData_3 vrData_2 vrData_1 vrData_0
  refine ⟨fun h => ?_, fun h => ?_⟩
  · have h := not_t h
    unfold PlanV.dataAt; rw [h]; exact ⟨rfl, rfl⟩
  · have h := not_f h
    have h1 := PlanV.lineB_true h
    have := p.all_le
    unfold PlanV.dataAt; rw [h, wi64, if_pos rfl]; exact ⟨by omega, rfl⟩
theorem srData : Sound Try.prog 84 (pureS PrData) := by
  refine fn_soundA crData_fits ?_
  intro args H K h
  obtain ⟨pre, v, hP, hpre, rfl, hK⟩ := pureS_inv h
  unfold PrData at hP
  split at hP
  · obtain ⟨hb, hP⟩ := bif_some hP
    simp only [Bool.and_eq_true] at hb
    obtain ⟨h0, h1⟩ := hb
    obtain rfl := Nat.eq_of_beq_eq_true h0
    obtain rfl := Nat.eq_of_beq_eq_true h1
    cases hP
    exact ⟨rfl, fun w0 fp ρi => wrData (PlanV.mk _ _ _ _ _ _ _ _ _ _ _ _ _ _ _ _) _ hK (okrData (PlanV.mk _ _ _ _ _ _ _ _ _ _ _ _ _ _ _ _) _ hpre)⟩
  · cases hP
def PrTag : PSpec := fun args => match args with
  | [.agg [.one (.int .i64 p_0), .one (.int .i64 p_1), .one (.int .i64 p_2), .one (.int .i64 p_3), .one (.int .i64 p_4), .one (.int .i64 p_5), .one (.int .u64 p_6), .one (.int .i64 p_7), .one (.int .i64 p_8), .one (.int .i64 p_9), .one (.int .i64 p_10), .one (.int .i64 p_11), .one (.int .i64 p_12), .one (.int .i64 p_13), .ints .u8 p_14_n p_14, .ints .u8 p_15_n p_15], .int .i64 n] => bif Nat.beq p_14_n 16 && Nat.beq p_15_n 16 then some (True, .tuple [.int .i64 (PlanV.tagAt (PlanV.mk p_0 p_1 p_2 p_3 p_4 p_5 p_6 p_7 p_8 p_9 p_10 p_11 p_12 p_13 p_14 p_15) n), .bool (PlanV.lineB (PlanV.mk p_0 p_1 p_2 p_3 p_4 p_5 p_6 p_7 p_8 p_9 p_10 p_11 p_12 p_13 p_14 p_15) n)]) else none
  | _ => none
def pcrTag : PCon := ⟨86, PrTag⟩
def crTag_n0 : ACode := .reg (.op (some 2) (.box (.tm 0)) (.op (some 4) (.mov (.cn (.int .i64 0))) (.op (some 5) (.mov (.cn (.bool false))) .nil)))
def crTag_n1 : ACode := .reg (.op (some 6) (.loadA 46 (.tm 2)) (.op (some 7) (.mov (.tm 1)) (.op (some 8) (.call 166 [(.tm 6), (.tm 7)]) (.op (some 9) (.not (.tm 8)) .nil))))
def crTag_n2 : ACode := .reg (.op (some 4) (.mov (.cn (.int .i64 0))) (.op (some 5) (.mov (.cn (.bool false))) .nil))
def crTag_n3 : ACode := .cond (.tm 9) (.seq crTag_n2 .ret) .skip
def crTag_n4 : ACode := .reg (.op (some 10) (.loadA 46 (.tm 2)) (.op (some 11) (.call 172 [(.tm 10)]) (.op (some 12) (.mov (.tm 1)) (.op (some 13) (.bin .mul (.tm 12) (.cn (.int .i64 8))) (.op (some 14) (.bin .add (.tm 11) (.tm 13)) (.op (some 4) (.mov (.tm 14)) (.op (some 5) (.mov (.cn (.bool true))) .nil)))))))
def crTag : ACode := (.seq crTag_n0 (.seq (.seq crTag_n1 crTag_n3) (.seq crTag_n4 .ret)))
def RrTag : Res := .many [.tm 4, .tm 5]
theorem crTag_fits : fnFits Try.prog 86 2 15 crTag RrTag = true := by kernel_rfl
def GrTag : Calls' := withP [pcrLine, pcrTags] []
theorem hGrTag : CallOk Try.prog GrTag := withP_ok ⟨srLine, srTags, trivial⟩ trivial
section
variable {w0 : World} {fp : Nat → Nat → Prop} {ρi : Rho} {Kf : SVal → Heap → Prop}
theorem rrTag_0 (p : PlanV) (n : Int) (Z : Env → Heap → Prop) : evCode GrTag Λ0 crTag_n2 [(1, some (.int .i64 n)), (2, some (.ptr ⟨0, 0, 0, 1⟩ 46)), (9, some (.bool (!(PlanV.lineB p n))))] ⟨1, [(0, some ⟨true, (PlanV.cs p), 0⟩)]⟩ (onlyN fun e' H' => Z (pickE [4, 5] e') (H'.keep [])) = (Z [(4, some (.int .i64 0)), (5, some (.bool false))] ⟨1, []⟩) := by kernel_rfl
theorem rtrTag_0 (p : PlanV) (n : Int) (Z : SVal → Prop) : Res.ev RrTag [(4, some (.int .i64 0)), (5, some (.bool false))] ⟨1, []⟩ Z = Z (.tuple [.int .i64 0, .bool false]) := by kernel_rfl
def vrTag_0 (p : PlanV) (n : Int) : Prop := (0 = (PlanV.tagAt p n)) ∧ (false = (PlanV.lineB p n))
theorem prTag_0 (p : PlanV) (n : Int) (hK : Kf (.tuple [.int .i64 (PlanV.tagAt p n), .bool (PlanV.lineB p n)]) ⟨0, []⟩) (h : vrTag_0 p n) : SemL Try.prog w0 fp ρi 0 15 [crTag_n2, .ret, (.seq crTag_n4 .ret)] [(1, some (.int .i64 n)), (2, some (.ptr ⟨0, 0, 0, 1⟩ 46)), (9, some (.bool (!(PlanV.lineB p n))))] ⟨1, [(0, some ⟨true, (PlanV.cs p), 0⟩)]⟩ (fnK RrTag 0 Kf) :=
  L_reg hGrTag [4, 5] [] ((rrTag_0 p n (fun e H => SemL Try.prog w0 fp ρi 0 15 [.ret, (.seq crTag_n4 .ret)] e H (fnK RrTag 0 Kf))).mpr (L_ret ((rtrTag_0 p n (fun r => Ret 0 Kf r ⟨1, []⟩)).mpr (ret_plain rfl (by kernel_rfl) (cg2 (fun (z1 : Int) (z2 : Bool) => (.tuple [.int .i64 z1, .bool z2] : SVal)) h.1 h.2) hK))))
theorem rrTag_1 (p : PlanV) (n : Int) (Z : Env → Heap → Prop) : evCode GrTag Λ0 crTag_n4 [(1, some (.int .i64 n)), (2, some (.ptr ⟨0, 0, 0, 1⟩ 46)), (9, some (.bool (!(PlanV.lineB p n))))] ⟨1, [(0, some ⟨true, (PlanV.cs p), 0⟩)]⟩ (onlyN fun e' H' => Z (pickE [4, 5] e') (H'.keep [])) = ((True) ∧ Z [(4, some (.int .i64 (IntKind.i64.wrap ((PlanV.tags p) + (IntKind.i64.wrap (n * 8)))))), (5, some (.bool true))] ⟨1, []⟩) := by kernel_rfl
theorem rtrTag_1 (p : PlanV) (n : Int) (Z : SVal → Prop) : Res.ev RrTag [(4, some (.int .i64 (IntKind.i64.wrap ((PlanV.tags p) + (IntKind.i64.wrap (n * 8)))))), (5, some (.bool true))] ⟨1, []⟩ Z = Z (.tuple [.int .i64 (IntKind.i64.wrap ((PlanV.tags p) + (IntKind.i64.wrap (n * 8)))), .bool true]) := by kernel_rfl
def vrTag_1 (p : PlanV) (n : Int) : Prop := ((IntKind.i64.wrap ((PlanV.tags p) + (IntKind.i64.wrap (n * 8)))) = (PlanV.tagAt p n)) ∧ (true = (PlanV.lineB p n))
theorem prTag_1 (p : PlanV) (n : Int) (hK : Kf (.tuple [.int .i64 (PlanV.tagAt p n), .bool (PlanV.lineB p n)]) ⟨0, []⟩) (h : vrTag_1 p n) : SemL Try.prog w0 fp ρi 0 15 [crTag_n4, .ret] [(1, some (.int .i64 n)), (2, some (.ptr ⟨0, 0, 0, 1⟩ 46)), (9, some (.bool (!(PlanV.lineB p n))))] ⟨1, [(0, some ⟨true, (PlanV.cs p), 0⟩)]⟩ (fnK RrTag 0 Kf) :=
  L_reg hGrTag [4, 5] [] ((rrTag_1 p n (fun e H => SemL Try.prog w0 fp ρi 0 15 [.ret] e H (fnK RrTag 0 Kf))).mpr ⟨True.intro, (L_ret ((rtrTag_1 p n (fun r => Ret 0 Kf r ⟨1, []⟩)).mpr (ret_plain rfl (by kernel_rfl) (cg2 (fun (z1 : Int) (z2 : Bool) => (.tuple [.int .i64 z1, .bool z2] : SVal)) h.1 h.2) hK)))⟩)
def vrTag_2 (p : PlanV) (n : Int) : Prop := ((!(PlanV.lineB p n)) = true → (vrTag_0 p n)) ∧ ((!(PlanV.lineB p n)) = false → (vrTag_1 p n))
theorem prTag_2 (p : PlanV) (n : Int) (hK : Kf (.tuple [.int .i64 (PlanV.tagAt p n), .bool (PlanV.lineB p n)]) ⟨0, []⟩) (h : vrTag_2 p n) : SemL Try.prog w0 fp ρi 0 15 [crTag_n3, (.seq crTag_n4 .ret)] [(1, some (.int .i64 n)), (2, some (.ptr ⟨0, 0, 0, 1⟩ 46)), (9, some (.bool (!(PlanV.lineB p n))))] ⟨1, [(0, some ⟨true, (PlanV.cs p), 0⟩)]⟩ (fnK RrTag 0 Kf) :=
  L_cond (q := (!(PlanV.lineB p n))) (by kernel_rfl) (fun hq => (L_seq (prTag_0 p n hK (h.1 hq)))) (fun hq => (L_skip (L_seq (prTag_1 p n hK (h.2 hq)))))
theorem rrTag_3 (p : PlanV) (n : Int) (Z : Env → Heap → Prop) : evCode GrTag Λ0 crTag_n1 [(1, some (.int .i64 n)), (2, some (.ptr ⟨0, 0, 0, 1⟩ 46))] ⟨1, [(0, some ⟨true, (PlanV.cs p), 0⟩)]⟩ (onlyN fun e' H' => Z (pickE [1, 2, 9] e') (H'.keep [0])) = ((True) ∧ Z [(1, some (.int .i64 n)), (2, some (.ptr ⟨0, 0, 0, 1⟩ 46)), (9, some (.bool (!(PlanV.lineB p n))))] ⟨1, [(0, some ⟨true, (PlanV.cs p), 0⟩)]⟩) := by kernel_rfl
def vrTag_3 (p : PlanV) (n : Int) : Prop := vrTag_2 p n
theorem prTag_3 (p : PlanV) (n : Int) (hK : Kf (.tuple [.int .i64 (PlanV.tagAt p n), .bool (PlanV.lineB p n)]) ⟨0, []⟩) (h : vrTag_3 p n) : SemL Try.prog w0 fp ρi 0 15 [crTag_n1, crTag_n3, (.seq crTag_n4 .ret)] [(1, some (.int .i64 n)), (2, some (.ptr ⟨0, 0, 0, 1⟩ 46))] ⟨1, [(0, some ⟨true, (PlanV.cs p), 0⟩)]⟩ (fnK RrTag 0 Kf) :=
  L_reg hGrTag [1, 2, 9] [0] ((rrTag_3 p n (fun e H => SemL Try.prog w0 fp ρi 0 15 [crTag_n3, (.seq crTag_n4 .ret)] e H (fnK RrTag 0 Kf))).mpr ⟨True.intro, (prTag_2 p n hK h)⟩)
theorem rrTag_4 (p : PlanV) (n : Int) (Z : Env → Heap → Prop) : evCode GrTag Λ0 crTag_n0 [(0, some (.agg (PlanV.cs p))), (1, some (.int .i64 n))] ⟨0, []⟩ (onlyN fun e' H' => Z (pickE [1, 2] e') (H'.keep [0])) = (Z [(1, some (.int .i64 n)), (2, some (.ptr ⟨0, 0, 0, 1⟩ 46))] ⟨1, [(0, some ⟨true, (PlanV.cs p), 0⟩)]⟩) := by kernel_rfl
def vrTag_4 (p : PlanV) (n : Int) : Prop := vrTag_3 p n
theorem prTag_4 (p : PlanV) (n : Int) (hK : Kf (.tuple [.int .i64 (PlanV.tagAt p n), .bool (PlanV.lineB p n)]) ⟨0, []⟩) (h : vrTag_4 p n) : SemL Try.prog w0 fp ρi 0 15 [crTag_n0, (.seq (.seq crTag_n1 crTag_n3) (.seq crTag_n4 .ret))] [(0, some (.agg (PlanV.cs p))), (1, some (.int .i64 n))] ⟨0, []⟩ (fnK RrTag 0 Kf) :=
  L_reg hGrTag [1, 2] [0] ((rrTag_4 p n (fun e H => SemL Try.prog w0 fp ρi 0 15 [(.seq (.seq crTag_n1 crTag_n3) (.seq crTag_n4 .ret))] e H (fnK RrTag 0 Kf))).mpr (L_seq (L_seq (prTag_3 p n hK h))))
def vcrTag (p : PlanV) (n : Int) : Prop := vrTag_4 p n
theorem wrTag (p : PlanV) (n : Int) (hK : Kf (.tuple [.int .i64 (PlanV.tagAt p n), .bool (PlanV.lineB p n)]) ⟨0, []⟩) (h : vcrTag p n) : SemL Try.prog w0 fp ρi 0 15 [crTag] [(0, some (.agg (PlanV.cs p))), (1, some (.int .i64 n))] ⟨0, []⟩ (fnK RrTag 0 Kf) :=
  (L_seq (prTag_4 p n hK h))
end
theorem okrTag (p : PlanV) (n : Int) (hpre : True) : vcrTag p n := by
  unfold vcrTag vrTag_4 vrTag_3 vrTag_2 vrTag_1 vrTag_0
  refine ⟨fun h => ?_, fun h => ?_⟩
  · have h := not_t h
    unfold PlanV.tagAt; rw [h]; exact ⟨rfl, rfl⟩
  · have h := not_f h
    have h1 := PlanV.lineB_true h
    have := p.all_le
    unfold PlanV.tagAt PlanV.tags; rw [h, if_pos rfl]; simp only [wi64]; exact ⟨by omega, trivial⟩
theorem srTag : Sound Try.prog 86 (pureS PrTag) := by
  refine fn_soundA crTag_fits ?_
  intro args H K h
  obtain ⟨pre, v, hP, hpre, rfl, hK⟩ := pureS_inv h
  unfold PrTag at hP
  split at hP
  · obtain ⟨hb, hP⟩ := bif_some hP
    simp only [Bool.and_eq_true] at hb
    obtain ⟨h0, h1⟩ := hb
    obtain rfl := Nat.eq_of_beq_eq_true h0
    obtain rfl := Nat.eq_of_beq_eq_true h1
    cases hP
    exact ⟨rfl, fun w0 fp ρi => wrTag (PlanV.mk _ _ _ _ _ _ _ _ _ _ _ _ _ _ _ _) _ hK (okrTag (PlanV.mk _ _ _ _ _ _ _ _ _ _ _ _ _ _ _ _) _ hpre)⟩
  · cases hP
def PrAhead : PSpec := fun args => match args with
  | [.agg [.one (.int .i64 p_0), .one (.int .i64 p_1), .one (.int .i64 p_2), .one (.int .i64 p_3), .one (.int .i64 p_4), .one (.int .i64 p_5), .one (.int .u64 p_6), .one (.int .i64 p_7), .one (.int .i64 p_8), .one (.int .i64 p_9), .one (.int .i64 p_10), .one (.int .i64 p_11), .one (.int .i64 p_12), .one (.int .i64 p_13), .ints .u8 p_14_n p_14, .ints .u8 p_15_n p_15], .int .i64 l] => bif Nat.beq p_14_n 16 && Nat.beq p_15_n 16 then some ((l ≤ 5), .int .i64 (PlanV.ahead (PlanV.mk p_0 p_1 p_2 p_3 p_4 p_5 p_6 p_7 p_8 p_9 p_10 p_11 p_12 p_13 p_14 p_15) l)) else none
  | _ => none
def pcrAhead : PCon := ⟨165, PrAhead⟩
def crAhead_n0 : ACode := .reg (.op (some 2) (.box (.tm 0)) (.op (some 4) (.mov (.cn (.int .i64 0))) .nil))
def crAhead_n1 : ACode := .reg (.op (some 6) (.mov (.tm 1)) (.op (some 7) (.mov (.cn (.int .i64 0))) .nil))
def crAhead_n2 : ACode := .reg (.op (some 8) (.bin .lss (.tm 7) (.tm 6)) .nil)
def crAhead_n3 : ACode := .cond (.tm 8) .skip (.exit 0)
def crAhead_n4 : ACode := .reg (.op (some 9) (.mov (.tm 7)) (.op (some 5) (.mov (.tm 9)) .nil))
def crAhead_n5 : ACode := .reg (.op (some 10) (.mov (.tm 4)) (.op (some 11) (.loadA 46 (.tm 2)) (.op (some 12) (.mov (.tm 5)) (.op (some 13) (.call 53 [(.tm 11), (.tm 12)]) (.op (some 14) (.bin .add (.tm 10) (.tm 13)) (.op (some 4) (.mov (.tm 14)) .nil))))))
def crAhead_n6 : ACode := .block 1 (.seq crAhead_n4 crAhead_n5)
def crAhead_n7 : ACode := .reg (.op (some 15) (.bin .add (.tm 7) (.cn (.int .i64 1))) (.op (some 7) (.mov (.tm 15)) .nil))
def crAhead_n8 : ACode := .loop (.seq crAhead_n2 (.seq crAhead_n3 (.seq crAhead_n6 crAhead_n7)))
def crAhead_n9 : ACode := .block 0 crAhead_n8
def crAhead_n10 : ACode := .reg (.op (some 16) (.mov (.tm 4)) (.op (some 4) (.mov (.tm 16)) .nil))
def crAhead : ACode := (.seq crAhead_n0 (.seq (.seq crAhead_n1 crAhead_n9) (.seq crAhead_n10 .ret)))
def RrAhead : Res := .one (.tm 4)
theorem crAhead_fits : fnFits Try.prog 165 2 17 crAhead RrAhead = true := by kernel_rfl
def GrAhead : Calls' := withP [pcpWidth] []
theorem hGrAhead : CallOk Try.prog GrAhead := withP_ok ⟨spWidth, trivial⟩ trivial
section
variable {w0 : World} {fp : Nat → Nat → Prop} {ρi : Rho} {Kf : SVal → Heap → Prop}
def kkrAhead_0 (w0 : World) (fp : Nat → Nat → Prop) (ρi : Rho) (Kf : SVal → Heap → Prop) (p : PlanV) (l : Int) : Cont := blockK 0 (fun e H => SemL Try.prog w0 fp ρi 0 17 [(.seq crAhead_n10 .ret)] e H (fnK RrAhead 0 Kf)) (fnK RrAhead 0 Kf)
def ivrAhead_1 (p : PlanV) (l : Int) : Int × Int → Prop := fun s => match s with | (v4, v7) => 0 ≤ v7 ∧ v7 ≤ max l 0 ∧ v4 = PlanV.ahead p v7
def murAhead_1 (p : PlanV) (l : Int) : Int × Int → Nat := fun s => match s with | (v4, v7) => ((l - v7).toNat)
def lirAhead_1 (p : PlanV) (l : Int) : Int × Int → Env := fun s => match s with | (v4, v7) => [(2, some (.ptr ⟨0, 0, 0, 1⟩ 46)), (4, some (.int .i64 v4)), (6, some (.int .i64 l)), (7, some (.int .i64 v7))]
def ljrAhead_1 (p : PlanV) (l : Int) : Int × Int → Heap := fun s => match s with | (v4, v7) => ⟨1, [(0, some ⟨true, (PlanV.cs p), 0⟩)]⟩
def kkrAhead_1 (w0 : World) (fp : Nat → Nat → Prop) (ρi : Rho) (Kf : SVal → Heap → Prop) (p : PlanV) (l : Int) (v4 : Int) (v7 : Int) : Cont := loopK 0 (ivrAhead_1 p l) (murAhead_1 p l) (lirAhead_1 p l) (ljrAhead_1 p l) (v4, v7) (kkrAhead_0 w0 fp ρi Kf p l)
theorem rrAhead_0 (p : PlanV) (l : Int) (v4'1 : Int) (v7 : Int) (v4 : Int) (Z : Env → Heap → Prop) : evCode GrAhead Λ0 crAhead_n7 [(2, some (.ptr ⟨0, 0, 0, 1⟩ 46)), (4, some (.int .i64 v4'1)), (6, some (.int .i64 l)), (7, some (.int .i64 v7))] ⟨1, [(0, some ⟨true, (PlanV.cs p), 0⟩)]⟩ (onlyN fun e' H' => Z (pickE [2, 4, 6, 7] e') (H'.keep [0])) = (Z [(2, some (.ptr ⟨0, 0, 0, 1⟩ 46)), (4, some (.int .i64 v4'1)), (6, some (.int .i64 l)), (7, some (.int .i64 (IntKind.i64.wrap (v7 + 1))))] ⟨1, [(0, some ⟨true, (PlanV.cs p), 0⟩)]⟩) := by kernel_rfl
def vrAhead_0 (p : PlanV) (l : Int) (v4'1 : Int) (v7 : Int) (v4 : Int) : Prop := (0 ≤ (IntKind.i64.wrap (v7 + 1)) ∧ (IntKind.i64.wrap (v7 + 1)) ≤ max l 0 ∧ v4'1 = PlanV.ahead p (IntKind.i64.wrap (v7 + 1))) ∧ (((l - (IntKind.i64.wrap (v7 + 1))).toNat) < ((l - v7).toNat))
theorem prAhead_0 (p : PlanV) (l : Int) (hK : Kf (.int .i64 (PlanV.ahead p l)) ⟨0, []⟩) (v4'1 : Int) (v7 : Int) (v4 : Int) (h : vrAhead_0 p l v4'1 v7 v4) : SemL Try.prog w0 fp ρi 0 17 [crAhead_n7] [(2, some (.ptr ⟨0, 0, 0, 1⟩ 46)), (4, some (.int .i64 v4'1)), (6, some (.int .i64 l)), (7, some (.int .i64 v7))] ⟨1, [(0, some ⟨true, (PlanV.cs p), 0⟩)]⟩ (kkrAhead_1 w0 fp ρi Kf p l v4 v7) :=
  L_reg hGrAhead [2, 4, 6, 7] [0] ((rrAhead_0 p l v4'1 v7 v4 (fun e H => SemL Try.prog w0 fp ρi 0 17 [] e H (kkrAhead_1 w0 fp ρi Kf p l v4 v7))).mpr (L_nil (loop_back (x' := (v4'1, (IntKind.i64.wrap (v7 + 1)))) (τ := tau []) h.1 h.2 (sub_tau' [] [0] rfl rfl (envSub_cons (by kernel_rfl) (bd_ptr (by kernel_rfl)) (envSub_cons (by kernel_rfl) (plainQ_ren (τ := whole) (by kernel_rfl)).2 (envSub_cons (by kernel_rfl) (plainQ_ren (τ := whole) (by kernel_rfl)).2 (envSub_cons (by kernel_rfl) (plainQ_ren (τ := whole) (by kernel_rfl)).2 envSub_nil)))) (heapSub_cons (by kernel_rfl) (plainCs_ren (τ := whole) (by kernel_rfl)).2 (by kernel_rfl) heapSub_nil) (by kernel_rfl) rfl))))
def kkrAhead_2 (w0 : World) (fp : Nat → Nat → Prop) (ρi : Rho) (Kf : SVal → Heap → Prop) (p : PlanV) (l : Int) (v4 : Int) (v7 : Int) : Cont := blockK 1 (fun e H => SemL Try.prog w0 fp ρi 0 17 [crAhead_n7] e H (kkrAhead_1 w0 fp ρi Kf p l v4 v7)) (kkrAhead_1 w0 fp ρi Kf p l v4 v7)
theorem rrAhead_1 (p : PlanV) (l : Int) (v4 : Int) (v7 : Int) (Z : Env → Heap → Prop) : evCode GrAhead Λ0 crAhead_n5 [(2, some (.ptr ⟨0, 0, 0, 1⟩ 46)), (4, some (.int .i64 v4)), (5, some (.int .i64 v7)), (6, some (.int .i64 l)), (7, some (.int .i64 v7))] ⟨1, [(0, some ⟨true, (PlanV.cs p), 0⟩)]⟩ (onlyN fun e' H' => Z (pickE [2, 4, 6, 7] e') (H'.keep [0])) = ((True) ∧ Z [(2, some (.ptr ⟨0, 0, 0, 1⟩ 46)), (4, some (.int .i64 (IntKind.i64.wrap (v4 + (PlanV.width p v7))))), (6, some (.int .i64 l)), (7, some (.int .i64 v7))] ⟨1, [(0, some ⟨true, (PlanV.cs p), 0⟩)]⟩) := by kernel_rfl
def vrAhead_1 (p : PlanV) (l : Int) (v4 : Int) (v7 : Int) : Prop := ∀ v4'1 : Int, v4'1 = ((v4 + (PlanV.width p v7)) + 9223372036854775808) % 18446744073709551616 - 9223372036854775808 → vrAhead_0 p l v4'1 v7 v4
theorem prAhead_1 (p : PlanV) (l : Int) (hK : Kf (.int .i64 (PlanV.ahead p l)) ⟨0, []⟩) (v4 : Int) (v7 : Int) (h : vrAhead_1 p l v4 v7) : SemL Try.prog w0 fp ρi 0 17 [crAhead_n5] [(2, some (.ptr ⟨0, 0, 0, 1⟩ 46)), (4, some (.int .i64 v4)), (5, some (.int .i64 v7)), (6, some (.int .i64 l)), (7, some (.int .i64 v7))] ⟨1, [(0, some ⟨true, (PlanV.cs p), 0⟩)]⟩ (kkrAhead_2 w0 fp ρi Kf p l v4 v7) :=
  L_reg hGrAhead [2, 4, 6, 7] [0] ((rrAhead_1 p l v4 v7 (fun e H => SemL Try.prog w0 fp ρi 0 17 [] e H (kkrAhead_2 w0 fp ρi Kf p l v4 v7))).mpr ⟨True.intro, (L_nil (prAhead_0 p l hK (IntKind.i64.wrap (v4 + (PlanV.width p v7))) v7 v4 (h (IntKind.i64.wrap (v4 + (PlanV.width p v7))) (wi64 _))))⟩)
theorem rrAhead_2 (p : PlanV) (l : Int) (v4 : Int) (v7 : Int) (Z : Env → Heap → Prop) : evCode GrAhead Λ0 crAhead_n4 [(2, some (.ptr ⟨0, 0, 0, 1⟩ 46)), (4, some (.int .i64 v4)), (6, some (.int .i64 l)), (7, some (.int .i64 v7)), (8, some (.bool (decide (v7 < l))))] ⟨1, [(0, some ⟨true, (PlanV.cs p), 0⟩)]⟩ (onlyN fun e' H' => Z (pickE [2, 4, 5, 6, 7] e') (H'.keep [0])) = (Z [(2, some (.ptr ⟨0, 0, 0, 1⟩ 46)), (4, some (.int .i64 v4)), (5, some (.int .i64 v7)), (6, some (.int .i64 l)), (7, some (.int .i64 v7))] ⟨1, [(0, some ⟨true, (PlanV.cs p), 0⟩)]⟩) := by kernel_rfl
def vrAhead_2 (p : PlanV) (l : Int) (v4 : Int) (v7 : Int) : Prop := vrAhead_1 p l v4 v7
theorem prAhead_2 (p : PlanV) (l : Int) (hK : Kf (.int .i64 (PlanV.ahead p l)) ⟨0, []⟩) (v4 : Int) (v7 : Int) (h : vrAhead_2 p l v4 v7) : SemL Try.prog w0 fp ρi 0 17 [crAhead_n4, crAhead_n5] [(2, some (.ptr ⟨0, 0, 0, 1⟩ 46)), (4, some (.int .i64 v4)), (6, some (.int .i64 l)), (7, some (.int .i64 v7)), (8, some (.bool (decide (v7 < l))))] ⟨1, [(0, some ⟨true, (PlanV.cs p), 0⟩)]⟩ (kkrAhead_2 w0 fp ρi Kf p l v4 v7) :=
  L_reg hGrAhead [2, 4, 5, 6, 7] [0] ((rrAhead_2 p l v4 v7 (fun e H => SemL Try.prog w0 fp ρi 0 17 [crAhead_n5] e H (kkrAhead_2 w0 fp ρi Kf p l v4 v7))).mpr (prAhead_1 p l hK v4 v7 h))
def vrAhead_3 (p : PlanV) (l : Int) (v4 : Int) (v7 : Int) : Prop := vrAhead_2 p l v4 v7
theorem prAhead_3 (p : PlanV) (l : Int) (hK : Kf (.int .i64 (PlanV.ahead p l)) ⟨0, []⟩) (v4 : Int) (v7 : Int) (h : vrAhead_3 p l v4 v7) : SemL Try.prog w0 fp ρi 0 17 [crAhead_n6, crAhead_n7] [(2, some (.ptr ⟨0, 0, 0, 1⟩ 46)), (4, some (.int .i64 v4)), (6, some (.int .i64 l)), (7, some (.int .i64 v7)), (8, some (.bool (decide (v7 < l))))] ⟨1, [(0, some ⟨true, (PlanV.cs p), 0⟩)]⟩ (kkrAhead_1 w0 fp ρi Kf p l v4 v7) :=
  L_block (L_seq (prAhead_2 p l hK v4 v7 h))
theorem rrAhead_4 (p : PlanV) (l : Int) (v4'2 : Int) (v7'1 : Int) (v8 : Bool) (Z : Env → Heap → Prop) : evCode GrAhead Λ0 crAhead_n10 [(2, some (.ptr ⟨0, 0, 0, 1⟩ 46)), (4, some (.int .i64 v4'2)), (6, some (.int .i64 l)), (7, some (.int .i64 v7'1)), (8, some (.bool v8))] ⟨1, [(0, some ⟨true, (PlanV.cs p), 0⟩)]⟩ (onlyN fun e' H' => Z (pickE [4] e') (H'.keep [])) = (Z [(4, some (.int .i64 v4'2))] ⟨1, []⟩) := by kernel_rfl
theorem rtrAhead_0 (p : PlanV) (l : Int) (v4'2 : Int) (Z : SVal → Prop) : Res.ev RrAhead [(4, some (.int .i64 v4'2))] ⟨1, []⟩ Z = Z (.int .i64 v4'2) := by kernel_rfl
def vrAhead_4 (p : PlanV) (l : Int) (v4'2 : Int) (v7'1 : Int) (v8 : Bool) : Prop := v4'2 = (PlanV.ahead p l)
theorem prAhead_4 (p : PlanV) (l : Int) (hK : Kf (.int .i64 (PlanV.ahead p l)) ⟨0, []⟩) (v4'2 : Int) (v7'1 : Int) (v8 : Bool) (h : vrAhead_4 p l v4'2 v7'1 v8) : SemL Try.prog w0 fp ρi 0 17 [crAhead_n10, .ret] [(2, some (.ptr ⟨0, 0, 0, 1⟩ 46)), (4, some (.int .i64 v4'2)), (6, some (.int .i64 l)), (7, some (.int .i64 v7'1)), (8, some (.bool v8))] ⟨1, [(0, some ⟨true, (PlanV.cs p), 0⟩)]⟩ (fnK RrAhead 0 Kf) :=
  L_reg hGrAhead [4] [] ((rrAhead_4 p l v4'2 v7'1 v8 (fun e H => SemL Try.prog w0 fp ρi 0 17 [.ret] e H (fnK RrAhead 0 Kf))).mpr (L_ret ((rtrAhead_0 p l v4'2 (fun r => Ret 0 Kf r ⟨1, []⟩)).mpr (ret_plain rfl (by kernel_rfl) (cg1 (fun (z1 : Int) => (.int .i64 z1 : SVal)) h) hK))))
def vrAhead_5 (p : PlanV) (l : Int) (v4 : Int) (v7 : Int) : Prop := ((decide (v7 < l)) = true → (vrAhead_3 p l v4 v7)) ∧ ((decide (v7 < l)) = false → (∀ v8 : Bool, v8 = (decide (v7 < l)) → vrAhead_4 p l v4 v7 v8))
theorem prAhead_5 (p : PlanV) (l : Int) (hK : Kf (.int .i64 (PlanV.ahead p l)) ⟨0, []⟩) (v4 : Int) (v7 : Int) (h : vrAhead_5 p l v4 v7) : SemL Try.prog w0 fp ρi 0 17 [crAhead_n3, (.seq crAhead_n6 crAhead_n7)] [(2, some (.ptr ⟨0, 0, 0, 1⟩ 46)), (4, some (.int .i64 v4)), (6, some (.int .i64 l)), (7, some (.int .i64 v7)), (8, some (.bool (decide (v7 < l))))] ⟨1, [(0, some ⟨true, (PlanV.cs p), 0⟩)]⟩ (kkrAhead_1 w0 fp ρi Kf p l v4 v7) :=
  L_cond (q := (decide (v7 < l))) (by kernel_rfl) (fun hq => (L_skip (L_seq (prAhead_3 p l hK v4 v7 (h.1 hq))))) (fun hq => (L_exit (L_seq (prAhead_4 p l hK v4 v7 (decide (v7 < l)) ((h.2 hq) (decide (v7 < l)) rfl)))))
theorem rrAhead_6 (p : PlanV) (l : Int) (v4 : Int) (v7 : Int) (Z : Env → Heap → Prop) : evCode GrAhead Λ0 crAhead_n2 [(2, some (.ptr ⟨0, 0, 0, 1⟩ 46)), (4, some (.int .i64 v4)), (6, some (.int .i64 l)), (7, some (.int .i64 v7))] ⟨1, [(0, some ⟨true, (PlanV.cs p), 0⟩)]⟩ (onlyN fun e' H' => Z (pickE [2, 4, 6, 7, 8] e') (H'.keep [0])) = (Z [(2, some (.ptr ⟨0, 0, 0, 1⟩ 46)), (4, some (.int .i64 v4)), (6, some (.int .i64 l)), (7, some (.int .i64 v7)), (8, some (.bool (decide (v7 < l))))] ⟨1, [(0, some ⟨true, (PlanV.cs p), 0⟩)]⟩) := by kernel_rfl
def vrAhead_6 (p : PlanV) (l : Int) (v4 : Int) (v7 : Int) : Prop := vrAhead_5 p l v4 v7
theorem prAhead_6 (p : PlanV) (l : Int) (hK : Kf (.int .i64 (PlanV.ahead p l)) ⟨0, []⟩) (v4 : Int) (v7 : Int) (h : vrAhead_6 p l v4 v7) : SemL Try.prog w0 fp ρi 0 17 [crAhead_n2, (.seq crAhead_n3 (.seq crAhead_n6 crAhead_n7))] [(2, some (.ptr ⟨0, 0, 0, 1⟩ 46)), (4, some (.int .i64 v4)), (6, some (.int .i64 l)), (7, some (.int .i64 v7))] ⟨1, [(0, some ⟨true, (PlanV.cs p), 0⟩)]⟩ (kkrAhead_1 w0 fp ρi Kf p l v4 v7) :=
  L_reg hGrAhead [2, 4, 6, 7, 8] [0] ((rrAhead_6 p l v4 v7 (fun e H => SemL Try.prog w0 fp ρi 0 17 [(.seq crAhead_n3 (.seq crAhead_n6 crAhead_n7))] e H (kkrAhead_1 w0 fp ρi Kf p l v4 v7))).mpr (L_seq (prAhead_5 p l hK v4 v7 h)))
def vrAhead_7 (p : PlanV) (l : Int) : Prop := (0 ≤ (0 : Int) ∧ (0 : Int) ≤ max l 0 ∧ (0 : Int) = PlanV.ahead p (0 : Int)) ∧ (∀ (v4 : Int) (v7 : Int), (0 ≤ v7 ∧ v7 ≤ max l 0 ∧ v4 = PlanV.ahead p v7) → (vrAhead_6 p l v4 v7))
theorem prAhead_7 (p : PlanV) (l : Int) (hK : Kf (.int .i64 (PlanV.ahead p l)) ⟨0, []⟩) (h : vrAhead_7 p l) : SemL Try.prog w0 fp ρi 0 17 [crAhead_n8] [(2, some (.ptr ⟨0, 0, 0, 1⟩ 46)), (4, some (.int .i64 0)), (6, some (.int .i64 l)), (7, some (.int .i64 0))] ⟨1, [(0, some ⟨true, (PlanV.cs p), 0⟩)]⟩ (kkrAhead_0 w0 fp ρi Kf p l) :=
  L_loop (ivrAhead_1 p l) (murAhead_1 p l) (lirAhead_1 p l) (ljrAhead_1 p l) ⟨(0, 0), tau [], h.1, (sub_tau' [] [0] rfl rfl (envSub_cons (by kernel_rfl) (bd_ptr (by kernel_rfl)) (envSub_cons (by kernel_rfl) (plainQ_ren (τ := whole) (by kernel_rfl)).2 (envSub_cons (by kernel_rfl) (plainQ_ren (τ := whole) (by kernel_rfl)).2 (envSub_cons (by kernel_rfl) (plainQ_ren (τ := whole) (by kernel_rfl)).2 envSub_nil)))) (heapSub_cons (by kernel_rfl) (plainCs_ren (τ := whole) (by kernel_rfl)).2 (by kernel_rfl) heapSub_nil) (by kernel_rfl) rfl)⟩ (fun s => match s with | (v4, v7) => fun hi => (L_seq (prAhead_6 p l hK v4 v7 (h.2 v4 v7 hi))))
def vrAhead_8 (p : PlanV) (l : Int) : Prop := vrAhead_7 p l
theorem prAhead_8 (p : PlanV) (l : Int) (hK : Kf (.int .i64 (PlanV.ahead p l)) ⟨0, []⟩) (h : vrAhead_8 p l) : SemL Try.prog w0 fp ρi 0 17 [crAhead_n9, (.seq crAhead_n10 .ret)] [(2, some (.ptr ⟨0, 0, 0, 1⟩ 46)), (4, some (.int .i64 0)), (6, some (.int .i64 l)), (7, some (.int .i64 0))] ⟨1, [(0, some ⟨true, (PlanV.cs p), 0⟩)]⟩ (fnK RrAhead 0 Kf) :=
  L_block (prAhead_7 p l hK h)
theorem rrAhead_9 (p : PlanV) (l : Int) (Z : Env → Heap → Prop) : evCode GrAhead Λ0 crAhead_n1 [(1, some (.int .i64 l)), (2, some (.ptr ⟨0, 0, 0, 1⟩ 46)), (4, some (.int .i64 0))] ⟨1, [(0, some ⟨true, (PlanV.cs p), 0⟩)]⟩ (onlyN fun e' H' => Z (pickE [2, 4, 6, 7] e') (H'.keep [0])) = (Z [(2, some (.ptr ⟨0, 0, 0, 1⟩ 46)), (4, some (.int .i64 0)), (6, some (.int .i64 l)), (7, some (.int .i64 0))] ⟨1, [(0, some ⟨true, (PlanV.cs p), 0⟩)]⟩) := by kernel_rfl
def vrAhead_9 (p : PlanV) (l : Int) : Prop := vrAhead_8 p l
theorem prAhead_9 (p : PlanV) (l : Int) (hK : Kf (.int .i64 (PlanV.ahead p l)) ⟨0, []⟩) (h : vrAhead_9 p l) : SemL Try.prog w0 fp ρi 0 17 [crAhead_n1, crAhead_n9, (.seq crAhead_n10 .ret)] [(1, some (.int .i64 l)), (2, some (.ptr ⟨0, 0, 0, 1⟩ 46)), (4, some (.int .i64 0))] ⟨1, [(0, some ⟨true, (PlanV.cs p), 0⟩)]⟩ (fnK RrAhead 0 Kf) :=
  L_reg hGrAhead [2, 4, 6, 7] [0] ((rrAhead_9 p l (fun e H => SemL Try.prog w0 fp ρi 0 17 [crAhead_n9, (.seq crAhead_n10 .ret)] e H (fnK RrAhead 0 Kf))).mpr (prAhead_8 p l hK h))
theorem rrAhead_10 (p : PlanV) (l : Int) (Z : Env → Heap → Prop) : evCode GrAhead Λ0 crAhead_n0 [(0, some (.agg (PlanV.cs p))), (1, some (.int .i64 l))] ⟨0, []⟩ (onlyN fun e' H' => Z (pickE [1, 2, 4] e') (H'.keep [0])) = (Z [(1, some (.int .i64 l)), (2, some (.ptr ⟨0, 0, 0, 1⟩ 46)), (4, some (.int .i64 0))] ⟨1, [(0, some ⟨true, (PlanV.cs p), 0⟩)]⟩) := by kernel_rfl
def vrAhead_10 (p : PlanV) (l : Int) : Prop := vrAhead_9 p l
theorem prAhead_10 (p : PlanV) (l : Int) (hK : Kf (.int .i64 (PlanV.ahead p l)) ⟨0, []⟩) (h : vrAhead_10 p l) : SemL Try.prog w0 fp ρi 0 17 [crAhead_n0, (.seq (.seq crAhead_n1 crAhead_n9) (.seq crAhead_n10 .ret))] [(0, some (.agg (PlanV.cs p))), (1, some (.int .i64 l))] ⟨0, []⟩ (fnK RrAhead 0 Kf) :=
  L_reg hGrAhead [1, 2, 4] [0] ((rrAhead_10 p l (fun e H => SemL Try.prog w0 fp ρi 0 17 [(.seq (.seq crAhead_n1 crAhead_n9) (.seq crAhead_n10 .ret))] e H (fnK RrAhead 0 Kf))).mpr (L_seq (L_seq (prAhead_9 p l hK h))))
def vcrAhead (p : PlanV) (l : Int) : Prop := vrAhead_10 p l
theorem wrAhead (p : PlanV) (l : Int) (hK : Kf (.int .i64 (PlanV.ahead p l)) ⟨0, []⟩) (h : vcrAhead p l) : SemL Try.prog w0 fp ρi 0 17 [crAhead] [(0, some (.agg (PlanV.cs p))), (1, some (.int .i64 l))] ⟨0, []⟩ (fnK RrAhead 0 Kf) :=
  (L_seq (prAhead_10 p l hK h))
end
theorem okrAhead (p : PlanV) (l : Int) (hpre : (l ≤ 5)) : vcrAhead p l := by
  unfold vcrAhead vrAhead_10 vrAhead_9 vrAhead_8 vrAhead_7 vrAhead_6 vrAhead_5 vrAhead_4 vrAhead_3 vrAhead_2 vrAhead_1 vrAhead_0
  refine ⟨⟨by omega, by omega, by rw [PlanV.ahead_zero]⟩, ?_⟩
  rintro v4 v7 ⟨h1, h2, h3⟩
  obtain ⟨k, rfl⟩ := Int.eq_ofNat_of_zero_le h1
  have a1 := p.ahead_le k
  have a2 := p.width_le k
  have a3 := p.ahead_succ k
  simp only [decide_eq_true_eq, decide_eq_false_iff_not, wi64]
  refine ⟨fun h v hv => ?_, fun h _ _ => ?_⟩
  · rw [show (((k : Int) + 1 + 9223372036854775808) % 18446744073709551616 - 9223372036854775808) = (k : Int) + 1 by omega]
    exact ⟨⟨by omega, by omega, by omega⟩, by omega⟩
  · rcases Int.lt_or_le 0 l with h4 | h4
    · have : l = k := by omega
      rw [h3, this]
    · have : k = 0 := by omega
      subst this
      rw [h3]
      unfold PlanV.ahead
      rw [show l.toNat = 0 by omega]; rfl
theorem srAhead : Sound Try.prog 165 (pureS PrAhead) := by
  refine fn_soundA crAhead_fits ?_
  intro args H K h
  obtain ⟨pre, v, hP, hpre, rfl, hK⟩ := pureS_inv h
  unfold PrAhead at hP
  split at hP
  · obtain ⟨hb, hP⟩ := bif_some hP
    simp only [Bool.and_eq_true] at hb
    obtain ⟨h0, h1⟩ := hb
    obtain rfl := Nat.eq_of_beq_eq_true h0
    obtain rfl := Nat.eq_of_beq_eq_true h1
    cases hP
    exact ⟨rfl, fun w0 fp ρi => wrAhead (PlanV.mk _ _ _ _ _ _ _ _ _ _ _ _ _ _ _ _) _ hK (okrAhead (PlanV.mk _ _ _ _ _ _ _ _ _ _ _ _ _ _ _ _) _ hpre)⟩
  · cases hP
def PrItemAt : PSpec := fun args => match args with
  | [.agg [.one (.int .i64 p_0), .one (.int .i64 p_1), .one (.int .i64 p_2), .one (.int .i64 p_3), .one (.int .i64 p_4), .one (.int .i64 p_5), .one (.int .u64 p_6), .one (.int .i64 p_7), .one (.int .i64 p_8), .one (.int .i64 p_9), .one (.int .i64 p_10), .one (.int .i64 p_11), .one (.int .i64 p_12), .one (.int .i64 p_13), .ints .u8 p_14_n p_14, .ints .u8 p_15_n p_15], .agg [.one (.int .i64 x_0), .one (.int .i64 x_1)]] => bif Nat.beq p_14_n 16 && Nat.beq p_15_n 16 then some (True, .tuple [.int .i64 (PlanV.itemAt (PlanV.mk p_0 p_1 p_2 p_3 p_4 p_5 p_6 p_7 p_8 p_9 p_10 p_11 p_12 p_13 p_14 p_15) (ItemV.mk x_0 x_1)), .bool (PlanV.itemB (PlanV.mk p_0 p_1 p_2 p_3 p_4 p_5 p_6 p_7 p_8 p_9 p_10 p_11 p_12 p_13 p_14 p_15) (ItemV.mk x_0 x_1))]) else none
  | _ => none
def pcrItemAt : PCon := ⟨67, PrItemAt⟩
def crItemAt_n0 : ACode := .reg (.op (some 2) (.box (.tm 0)) (.op (some 3) (.box (.tm 1)) (.op (some 4) (.mov (.cn (.int .i64 0))) (.op (some 5) (.mov (.cn (.bool false))) .nil))))
def crItemAt_n1 : ACode := .reg (.op (some 6) (.loadA 46 (.tm 2)) (.op (some 7) (.loadA 2 (.tm 3)) (.op (some 8) (.call 163 [(.tm 6), (.tm 7)]) (.op (some 9) (.not (.tm 8)) .nil))))
def crItemAt_n2 : ACode := .reg (.op (some 4) (.mov (.cn (.int .i64 0))) (.op (some 5) (.mov (.cn (.bool false))) .nil))
def crItemAt_n3 : ACode := .cond (.tm 9) (.seq crItemAt_n2 .ret) .skip
def crItemAt_n4i : Items := .op (some 10) (.loadA 46 (.tm 2)) (.op (some 11) (.call 164 [(.tm 10)]) (.op (some 12) (.loadA 46 (.tm 2)) (.op (some 13) (.fieldAddr (.tm 3) 0 1) (.op (some 14) (.load1 (.tm 13)) (.op (some 15) (.call 165 [(.tm 12), (.tm 14)]) (.op (some 16) (.fieldAddr (.tm 3) 1 1) (.op (some 17) (.load1 (.tm 16)) (.op (some 18) (.bin .add (.tm 15) (.tm 17)) (.op (some 19) (.bin .mul (.tm 18) (.cn (.int .i64 32))) (.op (some 20) (.bin .add (.tm 11) (.tm 19)) (.op (some 4) (.mov (.tm 20)) (.op (some 5) (.mov (.cn (.bool true))) .nil))))))))))))
def crItemAt_n4 : ACode := .regQ crItemAt_n4i
def crItemAt : ACode := (.seq crItemAt_n0 (.seq (.seq crItemAt_n1 crItemAt_n3) (.seq crItemAt_n4 .ret)))
def RrItemAt : Res := .many [.tm 4, .tm 5]
theorem crItemAt_fits : fnFits Try.prog 67 2 21 crItemAt RrItemAt = true := by kernel_rfl
def GrItemAt : Calls' := withP [pcrItem, pcrItems, pcrAhead] []
theorem hGrItemAt : CallOk Try.prog GrItemAt := withP_ok ⟨srItem, srItems, srAhead, trivial⟩ trivial
section
variable {w0 : World} {fp : Nat → Nat → Prop} {ρi : Rho} {Kf : SVal → Heap → Prop}
theorem rrItemAt_0 (p : PlanV) (x : ItemV) (Z : Env → Heap → Prop) : evCode GrItemAt Λ0 crItemAt_n2 [(2, some (.ptr ⟨0, 0, 0, 1⟩ 46)), (3, some (.ptr ⟨1, 0, 0, 1⟩ 2)), (9, some (.bool (!(PlanV.itemB p x))))] ⟨2, [(0, some ⟨true, (PlanV.cs p), 0⟩), (1, some ⟨true, (ItemV.cs x), 0⟩)]⟩ (onlyN fun e' H' => Z (pickE [4, 5] e') (H'.keep [])) = (Z [(4, some (.int .i64 0)), (5, some (.bool false))] ⟨2, []⟩) := by kernel_rfl
theorem rtrItemAt_0 (p : PlanV) (x : ItemV) (Z : SVal → Prop) : Res.ev RrItemAt [(4, some (.int .i64 0)), (5, some (.bool false))] ⟨2, []⟩ Z = Z (.tuple [.int .i64 0, .bool false]) := by kernel_rfl
def vrItemAt_0 (p : PlanV) (x : ItemV) : Prop := (0 = (PlanV.itemAt p x)) ∧ (false = (PlanV.itemB p x))
theorem prItemAt_0 (p : PlanV) (x : ItemV) (hK : Kf (.tuple [.int .i64 (PlanV.itemAt p x), .bool (PlanV.itemB p x)]) ⟨0, []⟩) (h : vrItemAt_0 p x) : SemL Try.prog w0 fp ρi 0 21 [crItemAt_n2, .ret, (.seq crItemAt_n4 .ret)] [(2, some (.ptr ⟨0, 0, 0, 1⟩ 46)), (3, some (.ptr ⟨1, 0, 0, 1⟩ 2)), (9, some (.bool (!(PlanV.itemB p x))))] ⟨2, [(0, some ⟨true, (PlanV.cs p), 0⟩), (1, some ⟨true, (ItemV.cs x), 0⟩)]⟩ (fnK RrItemAt 0 Kf) :=
  L_reg hGrItemAt [4, 5] [] ((rrItemAt_0 p x (fun e H => SemL Try.prog w0 fp ρi 0 21 [.ret, (.seq crItemAt_n4 .ret)] e H (fnK RrItemAt 0 Kf))).mpr (L_ret ((rtrItemAt_0 p x (fun r => Ret 0 Kf r ⟨2, []⟩)).mpr (ret_plain rfl (by kernel_rfl) (cg2 (fun (z1 : Int) (z2 : Bool) => (.tuple [.int .i64 z1, .bool z2] : SVal)) h.1 h.2) hK))))
theorem rrItemAt_1 (p : PlanV) (x : ItemV) (Z : Env → Heap → Prop) : evR GrItemAt ⟨2, [(0, some ⟨true, (PlanV.cs p), 0⟩), (1, some ⟨true, (ItemV.cs x), 0⟩)]⟩ crItemAt_n4i [.int .i64 (PlanV.itemsAt p), .int .i64 (PlanV.ahead p x.level)] [(2, some (.ptr ⟨0, 0, 0, 1⟩ 46)), (3, some (.ptr ⟨1, 0, 0, 1⟩ 2)), (9, some (.bool (!(PlanV.itemB p x))))] (fun _ e' => Z (pickE [4, 5] e') (Heap.keep ⟨2, [(0, some ⟨true, (PlanV.cs p), 0⟩), (1, some ⟨true, (ItemV.cs x), 0⟩)]⟩ [])) = (((SVal.bd 2 (.int .i64 (PlanV.itemsAt p)))) ∧ (True ∧ ((.int .i64 (PlanV.itemsAt p) : SVal) = .int .i64 (PlanV.itemsAt p)) ∧ (keeps ⟨2, [(0, some ⟨true, (PlanV.cs p), 0⟩), (1, some ⟨true, (ItemV.cs x), 0⟩)]⟩ ⟨2, [(0, some ⟨true, (PlanV.cs p), 0⟩), (1, some ⟨true, (ItemV.cs x), 0⟩)]⟩ [(0, some ⟨true, (PlanV.cs p), 0⟩), (1, some ⟨true, (ItemV.cs x), 0⟩)])) ∧ ((SVal.bd 2 (.int .i64 (PlanV.ahead p x.level)))) ∧ ((x.level ≤ 5) ∧ ((.int .i64 (PlanV.ahead p x.level) : SVal) = .int .i64 (PlanV.ahead p x.level)) ∧ (keeps ⟨2, [(0, some ⟨true, (PlanV.cs p), 0⟩), (1, some ⟨true, (ItemV.cs x), 0⟩)]⟩ ⟨2, [(0, some ⟨true, (PlanV.cs p), 0⟩), (1, some ⟨true, (ItemV.cs x), 0⟩)]⟩ [(0, some ⟨true, (PlanV.cs p), 0⟩), (1, some ⟨true, (ItemV.cs x), 0⟩)])) ∧ Z [(4, some (.int .i64 (IntKind.i64.wrap ((PlanV.itemsAt p) + (IntKind.i64.wrap ((IntKind.i64.wrap ((PlanV.ahead p x.level) + x.index)) * 32)))))), (5, some (.bool true))] ⟨2, []⟩) := by kernel_rfl
theorem rtrItemAt_1 (p : PlanV) (x : ItemV) (Z : SVal → Prop) : Res.ev RrItemAt [(4, some (.int .i64 (IntKind.i64.wrap ((PlanV.itemsAt p) + (IntKind.i64.wrap ((IntKind.i64.wrap ((PlanV.ahead p x.level) + x.index)) * 32)))))), (5, some (.bool true))] ⟨2, []⟩ Z = Z (.tuple [.int .i64 (IntKind.i64.wrap ((PlanV.itemsAt p) + (IntKind.i64.wrap ((IntKind.i64.wrap ((PlanV.ahead p x.level) + x.index)) * 32)))), .bool true]) := by kernel_rfl
def vrItemAt_1 (p : PlanV) (x : ItemV) : Prop := ((x.level ≤ 5)) ∧ (((IntKind.i64.wrap ((PlanV.itemsAt p) + (IntKind.i64.wrap ((IntKind.i64.wrap ((PlanV.ahead p x.level) + x.index)) * 32)))) = (PlanV.itemAt p x)) ∧ (true = (PlanV.itemB p x)))
theorem prItemAt_1 (p : PlanV) (x : ItemV) (hK : Kf (.tuple [.int .i64 (PlanV.itemAt p x), .bool (PlanV.itemB p x)]) ⟨0, []⟩) (h : vrItemAt_1 p x) : SemL Try.prog w0 fp ρi 0 21 [crItemAt_n4, .ret] [(2, some (.ptr ⟨0, 0, 0, 1⟩ 46)), (3, some (.ptr ⟨1, 0, 0, 1⟩ 2)), (9, some (.bool (!(PlanV.itemB p x))))] ⟨2, [(0, some ⟨true, (PlanV.cs p), 0⟩), (1, some ⟨true, (ItemV.cs x), 0⟩)]⟩ (fnK RrItemAt 0 Kf) :=
  L_regQ hGrItemAt (its := crItemAt_n4i) [.int .i64 (PlanV.itemsAt p), .int .i64 (PlanV.ahead p x.level)] [4, 5] [] ((rrItemAt_1 p x (fun e H => SemL Try.prog w0 fp ρi 0 21 [.ret] e H (fnK RrItemAt 0 Kf))).mpr ⟨(plainR_ren (τ := whole) (by kernel_rfl)).2, ⟨⟨True.intro, rfl, (keeps_refl _)⟩, ⟨(plainR_ren (τ := whole) (by kernel_rfl)).2, ⟨⟨h.1, rfl, (keeps_refl _)⟩, (L_ret ((rtrItemAt_1 p x (fun r => Ret 0 Kf r ⟨2, []⟩)).mpr (ret_plain rfl (by kernel_rfl) (cg2 (fun (z1 : Int) (z2 : Bool) => (.tuple [.int .i64 z1, .bool z2] : SVal)) h.2.1 h.2.2) hK)))⟩⟩⟩⟩)
def vrItemAt_2 (p : PlanV) (x : ItemV) : Prop := ((!(PlanV.itemB p x)) = true → (vrItemAt_0 p x)) ∧ ((!(PlanV.itemB p x)) = false → (vrItemAt_1 p x))
theorem prItemAt_2 (p : PlanV) (x : ItemV) (hK : Kf (.tuple [.int .i64 (PlanV.itemAt p x), .bool (PlanV.itemB p x)]) ⟨0, []⟩) (h : vrItemAt_2 p x) : SemL Try.prog w0 fp ρi 0 21 [crItemAt_n3, (.seq crItemAt_n4 .ret)] [(2, some (.ptr ⟨0, 0, 0, 1⟩ 46)), (3, some (.ptr ⟨1, 0, 0, 1⟩ 2)), (9, some (.bool (!(PlanV.itemB p x))))] ⟨2, [(0, some ⟨true, (PlanV.cs p), 0⟩), (1, some ⟨true, (ItemV.cs x), 0⟩)]⟩ (fnK RrItemAt 0 Kf) :=
  L_cond (q := (!(PlanV.itemB p x))) (by kernel_rfl) (fun hq => (L_seq (prItemAt_0 p x hK (h.1 hq)))) (fun hq => (L_skip (L_seq (prItemAt_1 p x hK (h.2 hq)))))
theorem rrItemAt_3 (p : PlanV) (x : ItemV) (Z : Env → Heap → Prop) : evCode GrItemAt Λ0 crItemAt_n1 [(2, some (.ptr ⟨0, 0, 0, 1⟩ 46)), (3, some (.ptr ⟨1, 0, 0, 1⟩ 2))] ⟨2, [(0, some ⟨true, (PlanV.cs p), 0⟩), (1, some ⟨true, (ItemV.cs x), 0⟩)]⟩ (onlyN fun e' H' => Z (pickE [2, 3, 9] e') (H'.keep [0, 1])) = ((True) ∧ Z [(2, some (.ptr ⟨0, 0, 0, 1⟩ 46)), (3, some (.ptr ⟨1, 0, 0, 1⟩ 2)), (9, some (.bool (!(PlanV.itemB p x))))] ⟨2, [(0, some ⟨true, (PlanV.cs p), 0⟩), (1, some ⟨true, (ItemV.cs x), 0⟩)]⟩) := by kernel_rfl
def vrItemAt_3 (p : PlanV) (x : ItemV) : Prop := vrItemAt_2 p x
theorem prItemAt_3 (p : PlanV) (x : ItemV) (hK : Kf (.tuple [.int .i64 (PlanV.itemAt p x), .bool (PlanV.itemB p x)]) ⟨0, []⟩) (h : vrItemAt_3 p x) : SemL Try.prog w0 fp ρi 0 21 [crItemAt_n1, crItemAt_n3, (.seq crItemAt_n4 .ret)] [(2, some (.ptr ⟨0, 0, 0, 1⟩ 46)), (3, some (.ptr ⟨1, 0, 0, 1⟩ 2))] ⟨2, [(0, some ⟨true, (PlanV.cs p), 0⟩), (1, some ⟨true, (ItemV.cs x), 0⟩)]⟩ (fnK RrItemAt 0 Kf) :=
  L_reg hGrItemAt [2, 3, 9] [0, 1] ((rrItemAt_3 p x (fun e H => SemL Try.prog w0 fp ρi 0 21 [crItemAt_n3, (.seq crItemAt_n4 .ret)] e H (fnK RrItemAt 0 Kf))).mpr ⟨True.intro, (prItemAt_2 p x hK h)⟩)
theorem rrItemAt_4 (p : PlanV) (x : ItemV) (Z : Env → Heap → Prop) : evCode GrItemAt Λ0 crItemAt_n0 [(0, some (.agg (PlanV.cs p))), (1, some (.agg (ItemV.cs x)))] ⟨0, []⟩ (onlyN fun e' H' => Z (pickE [2, 3] e') (H'.keep [0, 1])) = (Z [(2, some (.ptr ⟨0, 0, 0, 1⟩ 46)), (3, some (.ptr ⟨1, 0, 0, 1⟩ 2))] ⟨2, [(0, some ⟨true, (PlanV.cs p), 0⟩), (1, some ⟨true, (ItemV.cs x), 0⟩)]⟩) := by kernel_rfl
def vrItemAt_4 (p : PlanV) (x : ItemV) : Prop := vrItemAt_3 p x
theorem prItemAt_4 (p : PlanV) (x : ItemV) (hK : Kf (.tuple [.int .i64 (PlanV.itemAt p x), .bool (PlanV.itemB p x)]) ⟨0, []⟩) (h : vrItemAt_4 p x) : SemL Try.prog w0 fp ρi 0 21 [crItemAt_n0, (.seq (.seq crItemAt_n1 crItemAt_n3) (.seq crItemAt_n4 .ret))] [(0, some (.agg (PlanV.cs p))), (1, some (.agg (ItemV.cs x)))] ⟨0, []⟩ (fnK RrItemAt 0 Kf) :=
  L_reg hGrItemAt [2, 3] [0, 1] ((rrItemAt_4 p x (fun e H => SemL Try.prog w0 fp ρi 0 21 [(.seq (.seq crItemAt_n1 crItemAt_n3) (.seq crItemAt_n4 .ret))] e H (fnK RrItemAt 0 Kf))).mpr (L_seq (L_seq (prItemAt_3 p x hK h))))
def vcrItemAt (p : PlanV) (x : ItemV) : Prop := vrItemAt_4 p x
theorem wrItemAt (p : PlanV) (x : ItemV) (hK : Kf (.tuple [.int .i64 (PlanV.itemAt p x), .bool (PlanV.itemB p x)]) ⟨0, []⟩) (h : vcrItemAt p x) : SemL Try.prog w0 fp ρi 0 21 [crItemAt] [(0, some (.agg (PlanV.cs p))), (1, some (.agg (ItemV.cs x)))] ⟨0, []⟩ (fnK RrItemAt 0 Kf) :=
  (L_seq (prItemAt_4 p x hK h))
end
theorem okrItemAt (p : PlanV) (x : ItemV) (hpre : True) : vcrItemAt p x := by
  unfold vcrItemAt vrItemAt_4 vrItemAt_3 vrItemAt_2 vrItemAt_1 vrItemAt_0
  refine ⟨fun h => ?_, fun h => ?_⟩
  · have h := not_t h
    unfold PlanV.itemAt; rw [h]; exact ⟨rfl, rfl⟩
  · have h := not_f h
    obtain ⟨h1, h2, h3⟩ := PlanV.itemB_true h
    obtain ⟨h4, h5⟩ := PlanV.width_level (p := p) (l := x.level) (by omega)
    have h6 := p.widths_len
    unfold PlanV.levels at h5
    obtain ⟨k, hk⟩ := Int.eq_ofNat_of_zero_le h4
    have a0 := p.all_le
    have a1 := p.ahead_le k
    have a2 := p.width_le k
    rw [← hk] at a1 a2
    refine ⟨by omega, ?_, by rw [h]⟩
    unfold PlanV.itemAt PlanV.itemsAt; rw [h, if_pos rfl]; simp only [wi64]; omega
theorem srItemAt : Sound Try.prog 67 (pureS PrItemAt) := by
  refine fn_soundA crItemAt_fits ?_
  intro args H K h
  obtain ⟨pre, v, hP, hpre, rfl, hK⟩ := pureS_inv h
  unfold PrItemAt at hP
  split at hP
  · obtain ⟨hb, hP⟩ := bif_some hP
    simp only [Bool.and_eq_true] at hb
    obtain ⟨h0, h1⟩ := hb
    obtain rfl := Nat.eq_of_beq_eq_true h0
    obtain rfl := Nat.eq_of_beq_eq_true h1
    cases hP
    exact ⟨rfl, fun w0 fp ρi => wrItemAt (PlanV.mk _ _ _ _ _ _ _ _ _ _ _ _ _ _ _ _) (ItemV.mk _ _) hK (okrItemAt (PlanV.mk _ _ _ _ _ _ _ _ _ _ _ _ _ _ _ _) (ItemV.mk _ _) hpre)⟩
  · cases hP
def PrPage : PSpec := fun args => match args with
  | [.agg [.one (.int .i64 p_0), .one (.int .i64 p_1), .one (.int .i64 p_2), .one (.int .i64 p_3), .one (.int .i64 p_4), .one (.int .i64 p_5), .one (.int .u64 p_6), .one (.int .i64 p_7), .one (.int .i64 p_8), .one (.int .i64 p_9), .one (.int .i64 p_10), .one (.int .i64 p_11), .one (.int .i64 p_12), .one (.int .i64 p_13), .ints .u8 p_14_n p_14, .ints .u8 p_15_n p_15], .int .i64 n] => bif Nat.beq p_14_n 16 && Nat.beq p_15_n 16 then some (True, .tuple [.int .i64 (PlanV.pageOf (PlanV.mk p_0 p_1 p_2 p_3 p_4 p_5 p_6 p_7 p_8 p_9 p_10 p_11 p_12 p_13 p_14 p_15) n), .int .i64 (PlanV.slotOf (PlanV.mk p_0 p_1 p_2 p_3 p_4 p_5 p_6 p_7 p_8 p_9 p_10 p_11 p_12 p_13 p_14 p_15) n), .bool (PlanV.lineB (PlanV.mk p_0 p_1 p_2 p_3 p_4 p_5 p_6 p_7 p_8 p_9 p_10 p_11 p_12 p_13 p_14 p_15) n)]) else none
  | _ => none
def pcrPage : PCon := ⟨69, PrPage⟩
def crPage_n0 : ACode := .reg (.op (some 2) (.box (.tm 0)) (.op (some 4) (.mov (.cn (.int .i64 0))) (.op (some 5) (.mov (.cn (.int .i64 0))) (.op (some 6) (.mov (.cn (.bool false))) .nil))))
def crPage_n1 : ACode := .reg (.op (some 7) (.loadA 46 (.tm 2)) (.op (some 8) (.mov (.tm 1)) (.op (some 9) (.call 166 [(.tm 7), (.tm 8)]) (.op (some 10) (.not (.tm 9)) .nil))))
def crPage_n2 : ACode := .reg (.op (some 4) (.mov (.cn (.int .i64 0))) (.op (some 5) (.mov (.cn (.int .i64 0))) (.op (some 6) (.mov (.cn (.bool false))) .nil)))
def crPage_n3 : ACode := .cond (.tm 10) (.seq crPage_n2 .ret) .skip
def crPage_n4i : Items := .op (some 11) (.mov (.tm 1)) (.op (some 12) (.fieldAddr (.tm 2) 3 1) (.op (some 13) (.load1 (.tm 12)) (.op (some 14) (.bin .quo (.tm 11) (.tm 13)) (.op (some 15) (.mov (.tm 1)) (.op (some 16) (.fieldAddr (.tm 2) 3 1) (.op (some 17) (.load1 (.tm 16)) (.op (some 18) (.bin .rem (.tm 15) (.tm 17)) (.op (some 4) (.mov (.tm 14)) (.op (some 5) (.mov (.tm 18)) (.op (some 6) (.mov (.cn (.bool true))) .nil))))))))))
def crPage_n4 : ACode := .regQ crPage_n4i
def crPage : ACode := (.seq crPage_n0 (.seq (.seq crPage_n1 crPage_n3) (.seq crPage_n4 .ret)))
def RrPage : Res := .many [.tm 4, .tm 5, .tm 6]
theorem crPage_fits : fnFits Try.prog 69 2 19 crPage RrPage = true := by kernel_rfl
def GrPage : Calls' := withP [pcrLine] []
theorem hGrPage : CallOk Try.prog GrPage := withP_ok ⟨srLine, trivial⟩ trivial
section
variable {w0 : World} {fp : Nat → Nat → Prop} {ρi : Rho} {Kf : SVal → Heap → Prop}
theorem rrPage_0 (p : PlanV) (n : Int) (Z : Env → Heap → Prop) : evCode GrPage Λ0 crPage_n2 [(1, some (.int .i64 n)), (2, some (.ptr ⟨0, 0, 0, 1⟩ 46)), (10, some (.bool (!(PlanV.lineB p n))))] ⟨1, [(0, some ⟨true, (PlanV.cs p), 0⟩)]⟩ (onlyN fun e' H' => Z (pickE [4, 5, 6] e') (H'.keep [])) = (Z [(4, some (.int .i64 0)), (5, some (.int .i64 0)), (6, some (.bool false))] ⟨1, []⟩) := by kernel_rfl
theorem rtrPage_0 (p : PlanV) (n : Int) (Z : SVal → Prop) : Res.ev RrPage [(4, some (.int .i64 0)), (5, some (.int .i64 0)), (6, some (.bool false))] ⟨1, []⟩ Z = Z (.tuple [.int .i64 0, .int .i64 0, .bool false]) := by kernel_rfl
def vrPage_0 (p : PlanV) (n : Int) : Prop := (0 = (PlanV.pageOf p n)) ∧ (0 = (PlanV.slotOf p n)) ∧ (false = (PlanV.lineB p n))
theorem prPage_0 (p : PlanV) (n : Int) (hK : Kf (.tuple [.int .i64 (PlanV.pageOf p n), .int .i64 (PlanV.slotOf p n), .bool (PlanV.lineB p n)]) ⟨0, []⟩) (h : vrPage_0 p n) : SemL Try.prog w0 fp ρi 0 19 [crPage_n2, .ret, (.seq crPage_n4 .ret)] [(1, some (.int .i64 n)), (2, some (.ptr ⟨0, 0, 0, 1⟩ 46)), (10, some (.bool (!(PlanV.lineB p n))))] ⟨1, [(0, some ⟨true, (PlanV.cs p), 0⟩)]⟩ (fnK RrPage 0 Kf) :=
  L_reg hGrPage [4, 5, 6] [] ((rrPage_0 p n (fun e H => SemL Try.prog w0 fp ρi 0 19 [.ret, (.seq crPage_n4 .ret)] e H (fnK RrPage 0 Kf))).mpr (L_ret ((rtrPage_0 p n (fun r => Ret 0 Kf r ⟨1, []⟩)).mpr (ret_plain rfl (by kernel_rfl) (cg3 (fun (z1 : Int) (z2 : Int) (z3 : Bool) => (.tuple [.int .i64 z1, .int .i64 z2, .bool z3] : SVal)) h.1 h.2.1 h.2.2) hK))))
theorem rrPage_1 (p : PlanV) (n : Int) (Z : Env → Heap → Prop) : evR GrPage ⟨1, [(0, some ⟨true, (PlanV.cs p), 0⟩)]⟩ crPage_n4i [] [(1, some (.int .i64 n)), (2, some (.ptr ⟨0, 0, 0, 1⟩ 46)), (10, some (.bool (!(PlanV.lineB p n))))] (fun _ e' => Z (pickE [4, 5, 6] e') (Heap.keep ⟨1, [(0, some ⟨true, (PlanV.cs p), 0⟩)]⟩ [])) = (((p.lines ≠ 0)) ∧ ((p.lines ≠ 0)) ∧ Z [(4, some (.int .i64 (IntKind.i64.wrap (Int.tdiv n p.lines)))), (5, some (.int .i64 (Int.tmod n p.lines))), (6, some (.bool true))] ⟨1, []⟩) := by kernel_rfl
theorem rtrPage_1 (p : PlanV) (n : Int) (Z : SVal → Prop) : Res.ev RrPage [(4, some (.int .i64 (IntKind.i64.wrap (Int.tdiv n p.lines)))), (5, some (.int .i64 (Int.tmod n p.lines))), (6, some (.bool true))] ⟨1, []⟩ Z = Z (.tuple [.int .i64 (IntKind.i64.wrap (Int.tdiv n p.lines)), .int .i64 (Int.tmod n p.lines), .bool true]) := by kernel_rfl
def vrPage_1 (p : PlanV) (n : Int) : Prop := ((p.lines ≠ 0)) ∧ (((p.lines ≠ 0)) ∧ (((IntKind.i64.wrap (Int.tdiv n p.lines)) = (PlanV.pageOf p n)) ∧ ((Int.tmod n p.lines) = (PlanV.slotOf p n)) ∧ (true = (PlanV.lineB p n))))
theorem prPage_1 (p : PlanV) (n : Int) (hK : Kf (.tuple [.int .i64 (PlanV.pageOf p n), .int .i64 (PlanV.slotOf p n), .bool (PlanV.lineB p n)]) ⟨0, []⟩) (h : vrPage_1 p n) : SemL Try.prog w0 fp ρi 0 19 [crPage_n4, .ret] [(1, some (.int .i64 n)), (2, some (.ptr ⟨0, 0, 0, 1⟩ 46)), (10, some (.bool (!(PlanV.lineB p n))))] ⟨1, [(0, some ⟨true, (PlanV.cs p), 0⟩)]⟩ (fnK RrPage 0 Kf) :=
  L_regQ hGrPage (its := crPage_n4i) [] [4, 5, 6] [] ((rrPage_1 p n (fun e H => SemL Try.prog w0 fp ρi 0 19 [.ret] e H (fnK RrPage 0 Kf))).mpr ⟨h.1, ⟨h.2.1, (L_ret ((rtrPage_1 p n (fun r => Ret 0 Kf r ⟨1, []⟩)).mpr (ret_plain rfl (by kernel_rfl) (cg3 (fun (z1 : Int) (z2 : Int) (z3 : Bool) => (.tuple [.int .i64 z1, .int .i64 z2, .bool z3] : SVal)) h.2.2.1 h.2.2.2.1 h.2.2.2.2) hK)))⟩⟩)
def vrPage_2 (p : PlanV) (n : Int) : Prop := ((!(PlanV.lineB p n)) = true → (vrPage_0 p n)) ∧ ((!(PlanV.lineB p n)) = false → (vrPage_1 p n))
theorem prPage_2 (p : PlanV) (n : Int) (hK : Kf (.tuple [.int .i64 (PlanV.pageOf p n), .int .i64 (PlanV.slotOf p n), .bool (PlanV.lineB p n)]) ⟨0, []⟩) (h : vrPage_2 p n) : SemL Try.prog w0 fp ρi 0 19 [crPage_n3, (.seq crPage_n4 .ret)] [(1, some (.int .i64 n)), (2, some (.ptr ⟨0, 0, 0, 1⟩ 46)), (10, some (.bool (!(PlanV.lineB p n))))] ⟨1, [(0, some ⟨true, (PlanV.cs p), 0⟩)]⟩ (fnK RrPage 0 Kf) :=
  L_cond (q := (!(PlanV.lineB p n))) (by kernel_rfl) (fun hq => (L_seq (prPage_0 p n hK (h.1 hq)))) (fun hq => (L_skip (L_seq (prPage_1 p n hK (h.2 hq)))))
theorem rrPage_3 (p : PlanV) (n : Int) (Z : Env → Heap → Prop) : evCode GrPage Λ0 crPage_n1 [(1, some (.int .i64 n)), (2, some (.ptr ⟨0, 0, 0, 1⟩ 46))] ⟨1, [(0, some ⟨true, (PlanV.cs p), 0⟩)]⟩ (onlyN fun e' H' => Z (pickE [1, 2, 10] e') (H'.keep [0])) = ((True) ∧ Z [(1, some (.int .i64 n)), (2, some (.ptr ⟨0, 0, 0, 1⟩ 46)), (10, some (.bool (!(PlanV.lineB p n))))] ⟨1, [(0, some ⟨true, (PlanV.cs p), 0⟩)]⟩) := by kernel_rfl
def vrPage_3 (p : PlanV) (n : Int) : Prop := vrPage_2 p n
theorem prPage_3 (p : PlanV) (n : Int) (hK : Kf (.tuple [.int .i64 (PlanV.pageOf p n), .int .i64 (PlanV.slotOf p n), .bool (PlanV.lineB p n)]) ⟨0, []⟩) (h : vrPage_3 p n) : SemL Try.prog w0 fp ρi 0 19 [crPage_n1, crPage_n3, (.seq crPage_n4 .ret)] [(1, some (.int .i64 n)), (2, some (.ptr ⟨0, 0, 0, 1⟩ 46))] ⟨1, [(0, some ⟨true, (PlanV.cs p), 0⟩)]⟩ (fnK RrPage 0 Kf) :=
  L_reg hGrPage [1, 2, 10] [0] ((rrPage_3 p n (fun e H => SemL Try.prog w0 fp ρi 0 19 [crPage_n3, (.seq crPage_n4 .ret)] e H (fnK RrPage 0 Kf))).mpr ⟨True.intro, (prPage_2 p n hK h)⟩)
theorem rrPage_4 (p : PlanV) (n : Int) (Z : Env → Heap → Prop) : evCode GrPage Λ0 crPage_n0 [(0, some (.agg (PlanV.cs p))), (1, some (.int .i64 n))] ⟨0, []⟩ (onlyN fun e' H' => Z (pickE [1, 2] e') (H'.keep [0])) = (Z [(1, some (.int .i64 n)), (2, some (.ptr ⟨0, 0, 0, 1⟩ 46))] ⟨1, [(0, some ⟨true, (PlanV.cs p), 0⟩)]⟩) := by kernel_rfl
def vrPage_4 (p : PlanV) (n : Int) : Prop := vrPage_3 p n
theorem prPage_4 (p : PlanV) (n : Int) (hK : Kf (.tuple [.int .i64 (PlanV.pageOf p n), .int .i64 (PlanV.slotOf p n), .bool (PlanV.lineB p n)]) ⟨0, []⟩) (h : vrPage_4 p n) : SemL Try.prog w0 fp ρi 0 19 [crPage_n0, (.seq (.seq crPage_n1 crPage_n3) (.seq crPage_n4 .ret))] [(0, some (.agg (PlanV.cs p))), (1, some (.int .i64 n))] ⟨0, []⟩ (fnK RrPage 0 Kf) :=
  L_reg hGrPage [1, 2] [0] ((rrPage_4 p n (fun e H => SemL Try.prog w0 fp ρi 0 19 [(.seq (.seq crPage_n1 crPage_n3) (.seq crPage_n4 .ret))] e H (fnK RrPage 0 Kf))).mpr (L_seq (L_seq (prPage_3 p n hK h))))
def vcrPage (p : PlanV) (n : Int) : Prop := vrPage_4 p n
theorem wrPage (p : PlanV) (n : Int) (hK : Kf (.tuple [.int .i64 (PlanV.pageOf p n), .int .i64 (PlanV.slotOf p n), .bool (PlanV.lineB p n)]) ⟨0, []⟩) (h : vcrPage p n) : SemL Try.prog w0 fp ρi 0 19 [crPage] [(0, some (.agg (PlanV.cs p))), (1, some (.int .i64 n))] ⟨0, []⟩ (fnK RrPage 0 Kf) :=
  (L_seq (prPage_4 p n hK h))
end
theorem okrPage (p : PlanV) (n : Int) (hpre : True) : vcrPage p n := by
  unfold vcrPage vrPage_4 vrPage_3 vrPage_2 vrPage_1 vrPage_0
  refine ⟨fun h => ?_, fun h => ?_⟩
  · have h := not_t h
    unfold PlanV.pageOf PlanV.slotOf; rw [h]; exact ⟨rfl, rfl, rfl⟩
  · have h := not_f h
    obtain ⟨h1, h2, h3⟩ := PlanV.lineB_true h
    have hs := of_decide_eq_true (PlanV.right_shaped h1)
    have := p.all_le
    unfold PlanV.pageOf PlanV.slotOf; rw [h]; simp only [wi64, if_pos]
    rw [Int.tdiv_eq_ediv_of_nonneg h2, Int.tmod_eq_emod_of_nonneg h2]
    have d1 := Int.ediv_le_self p.lines h2
    have d2 := Int.ediv_nonneg h2 (show 0 ≤ p.lines by omega)
    exact ⟨by omega, by omega, by omega, rfl, trivial⟩
theorem srPage : Sound Try.prog 69 (pureS PrPage) := by
  refine fn_soundA crPage_fits ?_
  intro args H K h
  obtain ⟨pre, v, hP, hpre, rfl, hK⟩ := pureS_inv h
  unfold PrPage at hP
  split at hP
  · obtain ⟨hb, hP⟩ := bif_some hP
    simp only [Bool.and_eq_true] at hb
    obtain ⟨h0, h1⟩ := hb
    obtain rfl := Nat.eq_of_beq_eq_true h0
    obtain rfl := Nat.eq_of_beq_eq_true h1
    cases hP
    exact ⟨rfl, fun w0 fp ρi => wrPage (PlanV.mk _ _ _ _ _ _ _ _ _ _ _ _ _ _ _ _) _ hK (okrPage (PlanV.mk _ _ _ _ _ _ _ _ _ _ _ _ _ _ _ _) _ hpre)⟩
  · cases hP
def PrBank : PSpec := fun args => match args with
  | [.agg [.one (.int .i64 p_0), .one (.int .i64 p_1), .one (.int .i64 p_2), .one (.int .i64 p_3), .one (.int .i64 p_4), .one (.int .i64 p_5), .one (.int .u64 p_6), .one (.int .i64 p_7), .one (.int .i64 p_8), .one (.int .i64 p_9), .one (.int .i64 p_10), .one (.int .i64 p_11), .one (.int .i64 p_12), .one (.int .i64 p_13), .ints .u8 p_14_n p_14, .ints .u8 p_15_n p_15], .int .i64 n] => bif Nat.beq p_14_n 16 && Nat.beq p_15_n 16 then some (True, .tuple [.int .i64 (PlanV.bankOf (PlanV.mk p_0 p_1 p_2 p_3 p_4 p_5 p_6 p_7 p_8 p_9 p_10 p_11 p_12 p_13 p_14 p_15) n), .bool (PlanV.lineB (PlanV.mk p_0 p_1 p_2 p_3 p_4 p_5 p_6 p_7 p_8 p_9 p_10 p_11 p_12 p_13 p_14 p_15) n)]) else none
  | _ => none
def pcrBank : PCon := ⟨70, PrBank⟩
def crBank_n0 : ACode := .reg (.op (some 2) (.box (.tm 0)) (.op (some 4) (.mov (.cn (.int .i64 0))) (.op (some 5) (.mov (.cn (.bool false))) .nil)))
def crBank_n1 : ACode := .reg (.op (some 6) (.loadA 46 (.tm 2)) (.op (some 7) (.mov (.tm 1)) (.op (some 8) (.call 166 [(.tm 6), (.tm 7)]) (.op (some 9) (.not (.tm 8)) .nil))))
def crBank_n2 : ACode := .reg (.op (some 4) (.mov (.cn (.int .i64 0))) (.op (some 5) (.mov (.cn (.bool false))) .nil))
def crBank_n3 : ACode := .cond (.tm 9) (.seq crBank_n2 .ret) .skip
def crBank_n4 : ACode := .reg (.op (some 10) (.mov (.tm 1)) (.op (some 11) (.fieldAddr (.tm 2) 1 1) (.op (some 12) (.load1 (.tm 11)) (.op (some 13) (.bin .rem (.tm 10) (.tm 12)) (.op (some 4) (.mov (.tm 13)) (.op (some 5) (.mov (.cn (.bool true))) .nil))))))
def crBank : ACode := (.seq crBank_n0 (.seq (.seq crBank_n1 crBank_n3) (.seq crBank_n4 .ret)))
def RrBank : Res := .many [.tm 4, .tm 5]
theorem crBank_fits : fnFits Try.prog 70 2 14 crBank RrBank = true := by kernel_rfl
def GrBank : Calls' := withP [pcrLine] []
theorem hGrBank : CallOk Try.prog GrBank := withP_ok ⟨srLine, trivial⟩ trivial
section
variable {w0 : World} {fp : Nat → Nat → Prop} {ρi : Rho} {Kf : SVal → Heap → Prop}
theorem rrBank_0 (p : PlanV) (n : Int) (Z : Env → Heap → Prop) : evCode GrBank Λ0 crBank_n2 [(1, some (.int .i64 n)), (2, some (.ptr ⟨0, 0, 0, 1⟩ 46)), (9, some (.bool (!(PlanV.lineB p n))))] ⟨1, [(0, some ⟨true, (PlanV.cs p), 0⟩)]⟩ (onlyN fun e' H' => Z (pickE [4, 5] e') (H'.keep [])) = (Z [(4, some (.int .i64 0)), (5, some (.bool false))] ⟨1, []⟩) := by kernel_rfl
theorem rtrBank_0 (p : PlanV) (n : Int) (Z : SVal → Prop) : Res.ev RrBank [(4, some (.int .i64 0)), (5, some (.bool false))] ⟨1, []⟩ Z = Z (.tuple [.int .i64 0, .bool false]) := by kernel_rfl
def vrBank_0 (p : PlanV) (n : Int) : Prop := (0 = (PlanV.bankOf p n)) ∧ (false = (PlanV.lineB p n))
theorem prBank_0 (p : PlanV) (n : Int) (hK : Kf (.tuple [.int .i64 (PlanV.bankOf p n), .bool (PlanV.lineB p n)]) ⟨0, []⟩) (h : vrBank_0 p n) : SemL Try.prog w0 fp ρi 0 14 [crBank_n2, .ret, (.seq crBank_n4 .ret)] [(1, some (.int .i64 n)), (2, some (.ptr ⟨0, 0, 0, 1⟩ 46)), (9, some (.bool (!(PlanV.lineB p n))))] ⟨1, [(0, some ⟨true, (PlanV.cs p), 0⟩)]⟩ (fnK RrBank 0 Kf) :=
  L_reg hGrBank [4, 5] [] ((rrBank_0 p n (fun e H => SemL Try.prog w0 fp ρi 0 14 [.ret, (.seq crBank_n4 .ret)] e H (fnK RrBank 0 Kf))).mpr (L_ret ((rtrBank_0 p n (fun r => Ret 0 Kf r ⟨1, []⟩)).mpr (ret_plain rfl (by kernel_rfl) (cg2 (fun (z1 : Int) (z2 : Bool) => (.tuple [.int .i64 z1, .bool z2] : SVal)) h.1 h.2) hK))))
theorem rrBank_1 (p : PlanV) (n : Int) (Z : Env → Heap → Prop) : evCode GrBank Λ0 crBank_n4 [(1, some (.int .i64 n)), (2, some (.ptr ⟨0, 0, 0, 1⟩ 46)), (9, some (.bool (!(PlanV.lineB p n))))] ⟨1, [(0, some ⟨true, (PlanV.cs p), 0⟩)]⟩ (onlyN fun e' H' => Z (pickE [4, 5] e') (H'.keep [])) = (((p.banks ≠ 0)) ∧ Z [(4, some (.int .i64 (Int.tmod n p.banks))), (5, some (.bool true))] ⟨1, []⟩) := by kernel_rfl
theorem rtrBank_1 (p : PlanV) (n : Int) (Z : SVal → Prop) : Res.ev RrBank [(4, some (.int .i64 (Int.tmod n p.banks))), (5, some (.bool true))] ⟨1, []⟩ Z = Z (.tuple [.int .i64 (Int.tmod n p.banks), .bool true]) := by kernel_rfl
def vrBank_1 (p : PlanV) (n : Int) : Prop := ((p.banks ≠ 0)) ∧ (((Int.tmod n p.banks) = (PlanV.bankOf p n)) ∧ (true = (PlanV.lineB p n)))
theorem prBank_1 (p : PlanV) (n : Int) (hK : Kf (.tuple [.int .i64 (PlanV.bankOf p n), .bool (PlanV.lineB p n)]) ⟨0, []⟩) (h : vrBank_1 p n) : SemL Try.prog w0 fp ρi 0 14 [crBank_n4, .ret] [(1, some (.int .i64 n)), (2, some (.ptr ⟨0, 0, 0, 1⟩ 46)), (9, some (.bool (!(PlanV.lineB p n))))] ⟨1, [(0, some ⟨true, (PlanV.cs p), 0⟩)]⟩ (fnK RrBank 0 Kf) :=
  L_reg hGrBank [4, 5] [] ((rrBank_1 p n (fun e H => SemL Try.prog w0 fp ρi 0 14 [.ret] e H (fnK RrBank 0 Kf))).mpr ⟨h.1, (L_ret ((rtrBank_1 p n (fun r => Ret 0 Kf r ⟨1, []⟩)).mpr (ret_plain rfl (by kernel_rfl) (cg2 (fun (z1 : Int) (z2 : Bool) => (.tuple [.int .i64 z1, .bool z2] : SVal)) h.2.1 h.2.2) hK)))⟩)
def vrBank_2 (p : PlanV) (n : Int) : Prop := ((!(PlanV.lineB p n)) = true → (vrBank_0 p n)) ∧ ((!(PlanV.lineB p n)) = false → (vrBank_1 p n))
theorem prBank_2 (p : PlanV) (n : Int) (hK : Kf (.tuple [.int .i64 (PlanV.bankOf p n), .bool (PlanV.lineB p n)]) ⟨0, []⟩) (h : vrBank_2 p n) : SemL Try.prog w0 fp ρi 0 14 [crBank_n3, (.seq crBank_n4 .ret)] [(1, some (.int .i64 n)), (2, some (.ptr ⟨0, 0, 0, 1⟩ 46)), (9, some (.bool (!(PlanV.lineB p n))))] ⟨1, [(0, some ⟨true, (PlanV.cs p), 0⟩)]⟩ (fnK RrBank 0 Kf) :=
  L_cond (q := (!(PlanV.lineB p n))) (by kernel_rfl) (fun hq => (L_seq (prBank_0 p n hK (h.1 hq)))) (fun hq => (L_skip (L_seq (prBank_1 p n hK (h.2 hq)))))
theorem rrBank_3 (p : PlanV) (n : Int) (Z : Env → Heap → Prop) : evCode GrBank Λ0 crBank_n1 [(1, some (.int .i64 n)), (2, some (.ptr ⟨0, 0, 0, 1⟩ 46))] ⟨1, [(0, some ⟨true, (PlanV.cs p), 0⟩)]⟩ (onlyN fun e' H' => Z (pickE [1, 2, 9] e') (H'.keep [0])) = ((True) ∧ Z [(1, some (.int .i64 n)), (2, some (.ptr ⟨0, 0, 0, 1⟩ 46)), (9, some (.bool (!(PlanV.lineB p n))))] ⟨1, [(0, some ⟨true, (PlanV.cs p), 0⟩)]⟩) := by kernel_rfl
def vrBank_3 (p : PlanV) (n : Int) : Prop := vrBank_2 p n
theorem prBank_3 (p : PlanV) (n : Int) (hK : Kf (.tuple [.int .i64 (PlanV.bankOf p n), .bool (PlanV.lineB p n)]) ⟨0, []⟩) (h : vrBank_3 p n) : SemL Try.prog w0 fp ρi 0 14 [crBank_n1, crBank_n3, (.seq crBank_n4 .ret)] [(1, some (.int .i64 n)), (2, some (.ptr ⟨0, 0, 0, 1⟩ 46))] ⟨1, [(0, some ⟨true, (PlanV.cs p), 0⟩)]⟩ (fnK RrBank 0 Kf) :=
  L_reg hGrBank [1, 2, 9] [0] ((rrBank_3 p n (fun e H => SemL Try.prog w0 fp ρi 0 14 [crBank_n3, (.seq crBank_n4 .ret)] e H (fnK RrBank 0 Kf))).mpr ⟨True.intro, (prBank_2 p n hK h)⟩)
theorem rrBank_4 (p : PlanV) (n : Int) (Z : Env → Heap → Prop) : evCode GrBank Λ0 crBank_n0 [(0, some (.agg (PlanV.cs p))), (1, some (.int .i64 n))] ⟨0, []⟩ (onlyN fun e' H' => Z (pickE [1, 2] e') (H'.keep [0])) = (Z [(1, some (.int .i64 n)), (2, some (.ptr ⟨0, 0, 0, 1⟩ 46))] ⟨1, [(0, some ⟨true, (PlanV.cs p), 0⟩)]⟩) := by kernel_rfl
def vrBank_4 (p : PlanV) (n : Int) : Prop := vrBank_3 p n
theorem prBank_4 (p : PlanV) (n : Int) (hK : Kf (.tuple [.int .i64 (PlanV.bankOf p n), .bool (PlanV.lineB p n)]) ⟨0, []⟩) (h : vrBank_4 p n) : SemL Try.prog w0 fp ρi 0 14 [crBank_n0, (.seq (.seq crBank_n1 crBank_n3) (.seq crBank_n4 .ret))] [(0, some (.agg (PlanV.cs p))), (1, some (.int .i64 n))] ⟨0, []⟩ (fnK RrBank 0 Kf) :=
  L_reg hGrBank [1, 2] [0] ((rrBank_4 p n (fun e H => SemL Try.prog w0 fp ρi 0 14 [(.seq (.seq crBank_n1 crBank_n3) (.seq crBank_n4 .ret))] e H (fnK RrBank 0 Kf))).mpr (L_seq (L_seq (prBank_3 p n hK h))))
def vcrBank (p : PlanV) (n : Int) : Prop := vrBank_4 p n
theorem wrBank (p : PlanV) (n : Int) (hK : Kf (.tuple [.int .i64 (PlanV.bankOf p n), .bool (PlanV.lineB p n)]) ⟨0, []⟩) (h : vcrBank p n) : SemL Try.prog w0 fp ρi 0 14 [crBank] [(0, some (.agg (PlanV.cs p))), (1, some (.int .i64 n))] ⟨0, []⟩ (fnK RrBank 0 Kf) :=
  (L_seq (prBank_4 p n hK h))
end
theorem okrBank (p : PlanV) (n : Int) (hpre : True) : vcrBank p n := by
  unfold vcrBank vrBank_4 vrBank_3 vrBank_2 vrBank_1 vrBank_0
  refine ⟨fun h => ?_, fun h => ?_⟩
  · have h := not_t h
    unfold PlanV.bankOf; rw [h]; exact ⟨rfl, rfl⟩
  · have h := not_f h
    obtain ⟨h1, h2, h3⟩ := PlanV.lineB_true h
    have hs := of_decide_eq_true (PlanV.right_shaped h1)
    have := p.all_le
    unfold PlanV.bankOf; rw [h]; simp only [wi64, if_pos]
    rw [Int.tmod_eq_emod_of_nonneg h2]
    exact ⟨by omega, rfl, trivial⟩
theorem srBank : Sound Try.prog 70 (pureS PrBank) := by
  refine fn_soundA crBank_fits ?_
  intro args H K h
  obtain ⟨pre, v, hP, hpre, rfl, hK⟩ := pureS_inv h
  unfold PrBank at hP
  split at hP
  · obtain ⟨hb, hP⟩ := bif_some hP
    simp only [Bool.and_eq_true] at hb
    obtain ⟨h0, h1⟩ := hb
    obtain rfl := Nat.eq_of_beq_eq_true h0
    obtain rfl := Nat.eq_of_beq_eq_true h1
    cases hP
    exact ⟨rfl, fun w0 fp ρi => wrBank (PlanV.mk _ _ _ _ _ _ _ _ _ _ _ _ _ _ _ _) _ hK (okrBank (PlanV.mk _ _ _ _ _ _ _ _ _ _ _ _ _ _ _ _) _ hpre)⟩
  · cases hP
def PrParent : PSpec := fun args => match args with
  | [.agg [.one (.int .i64 p_0), .one (.int .i64 p_1), .one (.int .i64 p_2), .one (.int .i64 p_3), .one (.int .i64 p_4), .one (.int .i64 p_5), .one (.int .u64 p_6), .one (.int .i64 p_7), .one (.int .i64 p_8), .one (.int .i64 p_9), .one (.int .i64 p_10), .one (.int .i64 p_11), .one (.int .i64 p_12), .one (.int .i64 p_13), .ints .u8 p_14_n p_14, .ints .u8 p_15_n p_15], .agg [.one (.int .i64 x_0), .one (.int .i64 x_1)]] => bif Nat.beq p_14_n 16 && Nat.beq p_15_n 16 then some (True, .tuple [.agg (ItemV.cs (PlanV.upOf (PlanV.mk p_0 p_1 p_2 p_3 p_4 p_5 p_6 p_7 p_8 p_9 p_10 p_11 p_12 p_13 p_14 p_15) (ItemV.mk x_0 x_1))), .int .i64 (PlanV.childOf (PlanV.mk p_0 p_1 p_2 p_3 p_4 p_5 p_6 p_7 p_8 p_9 p_10 p_11 p_12 p_13 p_14 p_15) (ItemV.mk x_0 x_1)), .bool (PlanV.aboveB (PlanV.mk p_0 p_1 p_2 p_3 p_4 p_5 p_6 p_7 p_8 p_9 p_10 p_11 p_12 p_13 p_14 p_15) (ItemV.mk x_0 x_1))]) else none
  | _ => none
def pcrParent : PCon := ⟨68, PrParent⟩
def crParent_n0 : ACode := .reg (.op (some 2) (.box (.tm 0)) (.op (some 3) (.box (.tm 1)) (.op (some 4) (.alloc [.one (.int .i64 0), .one (.int .i64 0)]) (.op (some 5) (.mov (.cn (.int .i64 0))) (.op (some 6) (.mov (.cn (.bool false))) .nil)))))
def crParent_n1i : Items := .op (some 7) (.loadA 46 (.tm 2)) (.op (some 8) (.loadA 2 (.tm 3)) (.op (some 9) (.call 163 [(.tm 7), (.tm 8)]) (.op (some 10) (.not (.tm 9)) (.op (some 11) (.mov (.tm 10)) (.grpJ 11 false (.op (some 12) (.fieldAddr (.tm 3) 0 1) (.op (some 13) (.load1 (.tm 12)) (.op (some 14) (.bin .add (.tm 13) (.cn (.int .i64 1))) (.op (some 15) (.loadA 46 (.tm 2)) (.op (some 16) (.call 51 [(.tm 15)]) (.op (some 17) (.bin .geq (.tm 14) (.tm 16)) .nil)))))) 18 (.tm 17) (.cn (.bool true)) .nil)))))
def crParent_n1 : ACode := .regQ crParent_n1i
def crParent_n2 : ACode := .reg (.op (some 19) (.build [.one (.int .i64 0), .one (.int .i64 0)] []) (.op none (.storeA 2 (.tm 4) (.tm 19)) (.op (some 5) (.mov (.cn (.int .i64 0))) (.op (some 6) (.mov (.cn (.bool false))) .nil))))
def crParent_n3 : ACode := .cond (.tm 18) (.seq crParent_n2 .ret) .skip
def crParent_n4m : List MStep := [.mk 0 0 (some 20) (.fieldAddr (.tm 3) 0 1), .mk 1 0 (some 21) (.load1 (.tm 20)), .mk 2 0 (some 22) (.bin .add (.tm 21) (.cn (.int .i64 1))), .mk 3 0 (some 23) (.fieldAddr (.tm 3) 1 1), .mk 4 0 (some 24) (.load1 (.tm 23)), .mk 5 0 (some 25) (.fieldAddr (.tm 2) 4 1), .mk 6 0 (some 26) (.load1 (.tm 25)), .mk 7 0 (some 27) (.bin .quo (.tm 24) (.tm 26)), .mk 8 0 (some 28) (.build [.one (.int .i64 0), .one (.int .i64 0)] [(0, 1, (.tm 22)), (1, 1, (.tm 27))]), .mk 9 0 (some 29) (.fieldAddr (.tm 3) 1 1), .mk 10 0 (some 30) (.load1 (.tm 29)), .mk 11 0 (some 31) (.fieldAddr (.tm 2) 4 1), .mk 12 0 (some 32) (.load1 (.tm 31)), .mk 13 0 (some 33) (.bin .rem (.tm 30) (.tm 32)), .mk 14 1 none (.storeA 2 (.tm 4) (.tm 28)), .mk 15 0 (some 5) (.mov (.tm 33)), .mk 16 0 (some 6) (.mov (.cn (.bool true)))]
def crParent_n4 : ACode := .regM crParent_n4m
def crParent : ACode := (.seq crParent_n0 (.seq (.seq crParent_n1 crParent_n3) (.seq crParent_n4 .ret)))
def RrParent : Res := .many [.cA 4 2, .tm 5, .tm 6]
theorem crParent_fits : fnFits Try.prog 68 2 34 crParent RrParent = true := by kernel_rfl
def GrParent : Calls' := withP [pcpLevels, pcrItem] []
theorem hGrParent : CallOk Try.prog GrParent := withP_ok ⟨spLevels, srItem, trivial⟩ trivial
section
variable {w0 : World} {fp : Nat → Nat → Prop} {ρi : Rho} {Kf : SVal → Heap → Prop}
theorem rrParent_0 (p : PlanV) (x : ItemV) (Z : Env → Heap → Prop) : evCode GrParent Λ0 crParent_n2 [(2, some (.ptr ⟨0, 0, 0, 1⟩ 46)), (3, some (.ptr ⟨1, 0, 0, 1⟩ 2)), (4, some (.ptr ⟨2, 0, 0, 1⟩ 2)), (18, some (.bool ((!(PlanV.itemB p x)) || (decide (((PlanV.levels p : Nat) : Int) ≤ (IntKind.i64.wrap (x.level + 1)))))))] ⟨3, [(0, some ⟨true, (PlanV.cs p), 0⟩), (1, some ⟨true, (ItemV.cs x), 0⟩), (2, some ⟨true, [.one (.int .i64 0), .one (.int .i64 0)], 0⟩)]⟩ (onlyN fun e' H' => Z (pickE [4, 5, 6] e') (H'.keep [2])) = (Z [(4, some (.ptr ⟨2, 0, 0, 1⟩ 2)), (5, some (.int .i64 0)), (6, some (.bool false))] ⟨3, [(2, some ⟨true, [.one (.int .i64 0), .one (.int .i64 0)], 0⟩)]⟩) := by kernel_rfl
theorem rtrParent_0 (p : PlanV) (x : ItemV) (Z : SVal → Prop) : Res.ev RrParent [(4, some (.ptr ⟨2, 0, 0, 1⟩ 2)), (5, some (.int .i64 0)), (6, some (.bool false))] ⟨3, [(2, some ⟨true, [.one (.int .i64 0), .one (.int .i64 0)], 0⟩)]⟩ Z = Z (.tuple [.agg [.one (.int .i64 0), .one (.int .i64 0)], .int .i64 0, .bool false]) := by kernel_rfl
def vrParent_0 (p : PlanV) (x : ItemV) : Prop := (0 = (PlanV.upOf p x).level) ∧ (0 = (PlanV.upOf p x).index) ∧ (0 = (PlanV.childOf p x)) ∧ (false = (PlanV.aboveB p x))
theorem prParent_0 (p : PlanV) (x : ItemV) (hK : Kf (.tuple [.agg (ItemV.cs (PlanV.upOf p x)), .int .i64 (PlanV.childOf p x), .bool (PlanV.aboveB p x)]) ⟨0, []⟩) (h : vrParent_0 p x) : SemL Try.prog w0 fp ρi 0 34 [crParent_n2, .ret, (.seq crParent_n4 .ret)] [(2, some (.ptr ⟨0, 0, 0, 1⟩ 46)), (3, some (.ptr ⟨1, 0, 0, 1⟩ 2)), (4, some (.ptr ⟨2, 0, 0, 1⟩ 2)), (18, some (.bool ((!(PlanV.itemB p x)) || (decide (((PlanV.levels p : Nat) : Int) ≤ (IntKind.i64.wrap (x.level + 1)))))))] ⟨3, [(0, some ⟨true, (PlanV.cs p), 0⟩), (1, some ⟨true, (ItemV.cs x), 0⟩), (2, some ⟨true, [.one (.int .i64 0), .one (.int .i64 0)], 0⟩)]⟩ (fnK RrParent 0 Kf) :=
  L_reg hGrParent [4, 5, 6] [2] ((rrParent_0 p x (fun e H => SemL Try.prog w0 fp ρi 0 34 [.ret, (.seq crParent_n4 .ret)] e H (fnK RrParent 0 Kf))).mpr (L_ret ((rtrParent_0 p x (fun r => Ret 0 Kf r ⟨3, [(2, some ⟨true, [.one (.int .i64 0), .one (.int .i64 0)], 0⟩)]⟩)).mpr (ret_plain rfl (by kernel_rfl) (cg4 (fun (z1 : Int) (z2 : Int) (z3 : Int) (z4 : Bool) => (.tuple [.agg [.one (.int .i64 z1), .one (.int .i64 z2)], .int .i64 z3, .bool z4] : SVal)) h.1 h.2.1 h.2.2.1 h.2.2.2) hK))))
theorem rrParent_1 (p : PlanV) (x : ItemV) (Z : Env → Heap → Prop) : evN GrParent [] crParent_n4m [[], [1], [], [], [], [], [0], [], [], [], [], [], [], [], [], [], []] [(2, some (.ptr ⟨0, 0, 0, 1⟩ 46)), (3, some (.ptr ⟨1, 0, 0, 1⟩ 2)), (4, some (.ptr ⟨2, 0, 0, 1⟩ 2)), (18, some (.bool ((!(PlanV.itemB p x)) || (decide (((PlanV.levels p : Nat) : Int) ≤ (IntKind.i64.wrap (x.level + 1)))))))] ⟨3, [(0, some ⟨true, (PlanV.cs p), 0⟩), (1, some ⟨true, (ItemV.cs x), 0⟩), (2, some ⟨true, [.one (.int .i64 0), .one (.int .i64 0)], 0⟩)]⟩ (fun e' H' => Z (pickE [4, 5, 6] e') (H'.keep [2])) = (((p.arity ≠ 0)) ∧ ((p.arity ≠ 0)) ∧ ((keeps ⟨3, [(0, some ⟨true, (PlanV.cs p), 0⟩), (1, some ⟨true, (ItemV.cs x), 0⟩), (2, some ⟨true, [.one (.int .i64 (IntKind.i64.wrap (x.level + 1))), .one (.int .i64 (IntKind.i64.wrap (Int.tdiv x.index p.arity)))], 0⟩)]⟩ (Heap.keep ⟨3, [(0, some ⟨true, (PlanV.cs p), 0⟩), (1, some ⟨true, (ItemV.cs x), 0⟩), (2, some ⟨true, [.one (.int .i64 0), .one (.int .i64 0)], 0⟩)]⟩ [0, 1]) (pickH [0, 1] ⟨3, [(0, some ⟨true, (PlanV.cs p), 0⟩), (1, some ⟨true, (ItemV.cs x), 0⟩), (2, some ⟨true, [.one (.int .i64 0), .one (.int .i64 0)], 0⟩)]⟩))) ∧ Z [(4, some (.ptr ⟨2, 0, 0, 1⟩ 2)), (5, some (.int .i64 (Int.tmod x.index p.arity))), (6, some (.bool true))] ⟨3, [(2, some ⟨true, [.one (.int .i64 (IntKind.i64.wrap (x.level + 1))), .one (.int .i64 (IntKind.i64.wrap (Int.tdiv x.index p.arity)))], 0⟩)]⟩) := by kernel_rfl
theorem rtrParent_1 (p : PlanV) (x : ItemV) (Z : SVal → Prop) : Res.ev RrParent [(4, some (.ptr ⟨2, 0, 0, 1⟩ 2)), (5, some (.int .i64 (Int.tmod x.index p.arity))), (6, some (.bool true))] ⟨3, [(2, some ⟨true, [.one (.int .i64 (IntKind.i64.wrap (x.level + 1))), .one (.int .i64 (IntKind.i64.wrap (Int.tdiv x.index p.arity)))], 0⟩)]⟩ Z = Z (.tuple [.agg [.one (.int .i64 (IntKind.i64.wrap (x.level + 1))), .one (.int .i64 (IntKind.i64.wrap (Int.tdiv x.index p.arity)))], .int .i64 (Int.tmod x.index p.arity), .bool true]) := by kernel_rfl
def vrParent_1 (p : PlanV) (x : ItemV) : Prop := ((p.arity ≠ 0)) ∧ (((p.arity ≠ 0)) ∧ (((IntKind.i64.wrap (x.level + 1)) = (PlanV.upOf p x).level) ∧ ((IntKind.i64.wrap (Int.tdiv x.index p.arity)) = (PlanV.upOf p x).index) ∧ ((Int.tmod x.index p.arity) = (PlanV.childOf p x)) ∧ (true = (PlanV.aboveB p x))))
theorem prParent_1 (p : PlanV) (x : ItemV) (hK : Kf (.tuple [.agg (ItemV.cs (PlanV.upOf p x)), .int .i64 (PlanV.childOf p x), .bool (PlanV.aboveB p x)]) ⟨0, []⟩) (h : vrParent_1 p x) : SemL Try.prog w0 fp ρi 0 34 [crParent_n4, .ret] [(2, some (.ptr ⟨0, 0, 0, 1⟩ 46)), (3, some (.ptr ⟨1, 0, 0, 1⟩ 2)), (4, some (.ptr ⟨2, 0, 0, 1⟩ 2)), (18, some (.bool ((!(PlanV.itemB p x)) || (decide (((PlanV.levels p : Nat) : Int) ≤ (IntKind.i64.wrap (x.level + 1)))))))] ⟨3, [(0, some ⟨true, (PlanV.cs p), 0⟩), (1, some ⟨true, (ItemV.cs x), 0⟩), (2, some ⟨true, [.one (.int .i64 0), .one (.int .i64 0)], 0⟩)]⟩ (fnK RrParent 0 Kf) :=
  L_regM hGrParent (steps := crParent_n4m) [[], [1], [], [], [], [], [0], [], [], [], [], [], [], [], [], [], []] [4, 5, 6] [2] ((rrParent_1 p x (fun e H => SemL Try.prog w0 fp ρi 0 34 [.ret] e H (fnK RrParent 0 Kf))).mpr ⟨h.1, ⟨h.2.1, ⟨(And.intro rfl (And.intro rfl True.intro)), (L_ret ((rtrParent_1 p x (fun r => Ret 0 Kf r ⟨3, [(2, some ⟨true, [.one (.int .i64 (IntKind.i64.wrap (x.level + 1))), .one (.int .i64 (IntKind.i64.wrap (Int.tdiv x.index p.arity)))], 0⟩)]⟩)).mpr (ret_plain rfl (by kernel_rfl) (cg4 (fun (z1 : Int) (z2 : Int) (z3 : Int) (z4 : Bool) => (.tuple [.agg [.one (.int .i64 z1), .one (.int .i64 z2)], .int .i64 z3, .bool z4] : SVal)) h.2.2.1 h.2.2.2.1 h.2.2.2.2.1 h.2.2.2.2.2) hK)))⟩⟩⟩)
def vrParent_2 (p : PlanV) (x : ItemV) : Prop := (((!(PlanV.itemB p x)) || (decide (((PlanV.levels p : Nat) : Int) ≤ (IntKind.i64.wrap (x.level + 1))))) = true → (vrParent_0 p x)) ∧ (((!(PlanV.itemB p x)) || (decide (((PlanV.levels p : Nat) : Int) ≤ (IntKind.i64.wrap (x.level + 1))))) = false → (vrParent_1 p x))
theorem prParent_2 (p : PlanV) (x : ItemV) (hK : Kf (.tuple [.agg (ItemV.cs (PlanV.upOf p x)), .int .i64 (PlanV.childOf p x), .bool (PlanV.aboveB p x)]) ⟨0, []⟩) (h : vrParent_2 p x) : SemL Try.prog w0 fp ρi 0 34 [crParent_n3, (.seq crParent_n4 .ret)] [(2, some (.ptr ⟨0, 0, 0, 1⟩ 46)), (3, some (.ptr ⟨1, 0, 0, 1⟩ 2)), (4, some (.ptr ⟨2, 0, 0, 1⟩ 2)), (18, some (.bool ((!(PlanV.itemB p x)) || (decide (((PlanV.levels p : Nat) : Int) ≤ (IntKind.i64.wrap (x.level + 1)))))))] ⟨3, [(0, some ⟨true, (PlanV.cs p), 0⟩), (1, some ⟨true, (ItemV.cs x), 0⟩), (2, some ⟨true, [.one (.int .i64 0), .one (.int .i64 0)], 0⟩)]⟩ (fnK RrParent 0 Kf) :=
  L_cond (q := ((!(PlanV.itemB p x)) || (decide (((PlanV.levels p : Nat) : Int) ≤ (IntKind.i64.wrap (x.level + 1)))))) (by kernel_rfl) (fun hq => (L_seq (prParent_0 p x hK (h.1 hq)))) (fun hq => (L_skip (L_seq (prParent_1 p x hK (h.2 hq)))))
theorem rrParent_3 (p : PlanV) (x : ItemV) (Z : Env → Heap → Prop) : evR GrParent ⟨3, [(0, some ⟨true, (PlanV.cs p), 0⟩), (1, some ⟨true, (ItemV.cs x), 0⟩), (2, some ⟨true, [.one (.int .i64 0), .one (.int .i64 0)], 0⟩)]⟩ crParent_n1i [.bool (PlanV.itemB p x), .int .i64 ((PlanV.levels p : Nat) : Int)] [(2, some (.ptr ⟨0, 0, 0, 1⟩ 46)), (3, some (.ptr ⟨1, 0, 0, 1⟩ 2)), (4, some (.ptr ⟨2, 0, 0, 1⟩ 2))] (fun _ e' => Z (pickE [2, 3, 4, 18] e') (Heap.keep ⟨3, [(0, some ⟨true, (PlanV.cs p), 0⟩), (1, some ⟨true, (ItemV.cs x), 0⟩), (2, some ⟨true, [.one (.int .i64 0), .one (.int .i64 0)], 0⟩)]⟩ [0, 1, 2])) = (((SVal.bd 3 (.bool (PlanV.itemB p x)))) ∧ (True ∧ ((.bool (PlanV.itemB p x) : SVal) = .bool (PlanV.itemB p x)) ∧ (keeps ⟨3, [(0, some ⟨true, (PlanV.cs p), 0⟩), (1, some ⟨true, (ItemV.cs x), 0⟩), (2, some ⟨true, [.one (.int .i64 0), .one (.int .i64 0)], 0⟩)]⟩ ⟨3, [(0, some ⟨true, (PlanV.cs p), 0⟩), (1, some ⟨true, (ItemV.cs x), 0⟩), (2, some ⟨true, [.one (.int .i64 0), .one (.int .i64 0)], 0⟩)]⟩ [(0, some ⟨true, (PlanV.cs p), 0⟩), (1, some ⟨true, (ItemV.cs x), 0⟩), (2, some ⟨true, [.one (.int .i64 0), .one (.int .i64 0)], 0⟩)])) ∧ ∃ qq : Bool, ((!(PlanV.itemB p x)) = false → ((SVal.bd 3 (.int .i64 ((PlanV.levels p : Nat) : Int)))) ∧ (True ∧ ((.int .i64 ((PlanV.levels p : Nat) : Int) : SVal) = .int .i64 ((PlanV.levels p : Nat) : Int)) ∧ (keeps ⟨3, [(0, some ⟨true, (PlanV.cs p), 0⟩), (1, some ⟨true, (ItemV.cs x), 0⟩), (2, some ⟨true, [.one (.int .i64 0), .one (.int .i64 0)], 0⟩)]⟩ ⟨3, [(0, some ⟨true, (PlanV.cs p), 0⟩), (1, some ⟨true, (ItemV.cs x), 0⟩), (2, some ⟨true, [.one (.int .i64 0), .one (.int .i64 0)], 0⟩)]⟩ [(0, some ⟨true, (PlanV.cs p), 0⟩), (1, some ⟨true, (ItemV.cs x), 0⟩), (2, some ⟨true, [.one (.int .i64 0), .one (.int .i64 0)], 0⟩)])) ∧ (decide (((PlanV.levels p : Nat) : Int) ≤ (IntKind.i64.wrap (x.level + 1)))) = qq) ∧ ((!(PlanV.itemB p x)) = true → true = qq) ∧ Z [(2, some (.ptr ⟨0, 0, 0, 1⟩ 46)), (3, some (.ptr ⟨1, 0, 0, 1⟩ 2)), (4, some (.ptr ⟨2, 0, 0, 1⟩ 2)), (18, some (.bool qq))] ⟨3, [(0, some ⟨true, (PlanV.cs p), 0⟩), (1, some ⟨true, (ItemV.cs x), 0⟩), (2, some ⟨true, [.one (.int .i64 0), .one (.int .i64 0)], 0⟩)]⟩) := by kernel_rfl
def vrParent_3 (p : PlanV) (x : ItemV) : Prop := vrParent_2 p x
theorem prParent_3 (p : PlanV) (x : ItemV) (hK : Kf (.tuple [.agg (ItemV.cs (PlanV.upOf p x)), .int .i64 (PlanV.childOf p x), .bool (PlanV.aboveB p x)]) ⟨0, []⟩) (h : vrParent_3 p x) : SemL Try.prog w0 fp ρi 0 34 [crParent_n1, crParent_n3, (.seq crParent_n4 .ret)] [(2, some (.ptr ⟨0, 0, 0, 1⟩ 46)), (3, some (.ptr ⟨1, 0, 0, 1⟩ 2)), (4, some (.ptr ⟨2, 0, 0, 1⟩ 2))] ⟨3, [(0, some ⟨true, (PlanV.cs p), 0⟩), (1, some ⟨true, (ItemV.cs x), 0⟩), (2, some ⟨true, [.one (.int .i64 0), .one (.int .i64 0)], 0⟩)]⟩ (fnK RrParent 0 Kf) :=
  L_regQ hGrParent (its := crParent_n1i) [.bool (PlanV.itemB p x), .int .i64 ((PlanV.levels p : Nat) : Int)] [2, 3, 4, 18] [0, 1, 2] ((rrParent_3 p x (fun e H => SemL Try.prog w0 fp ρi 0 34 [crParent_n3, (.seq crParent_n4 .ret)] e H (fnK RrParent 0 Kf))).mpr ⟨(plainR_ren (τ := whole) (by kernel_rfl)).2, ⟨⟨True.intro, rfl, (keeps_refl _)⟩, ⟨((!(PlanV.itemB p x)) || (decide (((PlanV.levels p : Nat) : Int) ≤ (IntKind.i64.wrap (x.level + 1))))), fun hc_qq => ⟨(plainR_ren (τ := whole) (by kernel_rfl)).2, ⟨⟨True.intro, rfl, (keeps_refl _)⟩, (qo1 hc_qq)⟩⟩, fun hc_qq => qo2 hc_qq, (prParent_2 p x hK h)⟩⟩⟩)
theorem rrParent_4 (p : PlanV) (x : ItemV) (Z : Env → Heap → Prop) : evCode GrParent Λ0 crParent_n0 [(0, some (.agg (PlanV.cs p))), (1, some (.agg (ItemV.cs x)))] ⟨0, []⟩ (onlyN fun e' H' => Z (pickE [2, 3, 4] e') (H'.keep [0, 1, 2])) = (Z [(2, some (.ptr ⟨0, 0, 0, 1⟩ 46)), (3, some (.ptr ⟨1, 0, 0, 1⟩ 2)), (4, some (.ptr ⟨2, 0, 0, 1⟩ 2))] ⟨3, [(0, some ⟨true, (PlanV.cs p), 0⟩), (1, some ⟨true, (ItemV.cs x), 0⟩), (2, some ⟨true, [.one (.int .i64 0), .one (.int .i64 0)], 0⟩)]⟩) := by kernel_rfl
def vrParent_4 (p : PlanV) (x : ItemV) : Prop := vrParent_3 p x
theorem prParent_4 (p : PlanV) (x : ItemV) (hK : Kf (.tuple [.agg (ItemV.cs (PlanV.upOf p x)), .int .i64 (PlanV.childOf p x), .bool (PlanV.aboveB p x)]) ⟨0, []⟩) (h : vrParent_4 p x) : SemL Try.prog w0 fp ρi 0 34 [crParent_n0, (.seq (.seq crParent_n1 crParent_n3) (.seq crParent_n4 .ret))] [(0, some (.agg (PlanV.cs p))), (1, some (.agg (ItemV.cs x)))] ⟨0, []⟩ (fnK RrParent 0 Kf) :=
  L_reg hGrParent [2, 3, 4] [0, 1, 2] ((rrParent_4 p x (fun e H => SemL Try.prog w0 fp ρi 0 34 [(.seq (.seq crParent_n1 crParent_n3) (.seq crParent_n4 .ret))] e H (fnK RrParent 0 Kf))).mpr (L_seq (L_seq (prParent_3 p x hK h))))
def vcrParent (p : PlanV) (x : ItemV) : Prop := vrParent_4 p x
theorem wrParent (p : PlanV) (x : ItemV) (hK : Kf (.tuple [.agg (ItemV.cs (PlanV.upOf p x)), .int .i64 (PlanV.childOf p x), .bool (PlanV.aboveB p x)]) ⟨0, []⟩) (h : vcrParent p x) : SemL Try.prog w0 fp ρi 0 34 [crParent] [(0, some (.agg (PlanV.cs p))), (1, some (.agg (ItemV.cs x)))] ⟨0, []⟩ (fnK RrParent 0 Kf) :=
  (L_seq (prParent_4 p x hK h))
end
theorem okrParent (p : PlanV) (x : ItemV) (hpre : True) : vcrParent p x := by
  unfold vcrParent vrParent_4 vrParent_3 vrParent_2 vrParent_1 vrParent_0
  have hl := p.widths_len
  have hlev : PlanV.levels p = p.widths.length := rfl
  have key : (!p.itemB x || decide ((p.levels : Int) ≤ IntKind.i64.wrap (x.level + 1))) = !p.aboveB x := by
    unfold PlanV.aboveB
    cases h : p.itemB x with
    | false => rfl
    | true =>
      obtain ⟨h1, h2, h3⟩ := PlanV.itemB_true h
      obtain ⟨h4, h5⟩ := PlanV.width_level (p := p) (l := x.level) (by omega)
      rw [wi64, show (x.level + 1 + 9223372036854775808) % 18446744073709551616 - 9223372036854775808 = x.level + 1 by omega]
      simp only [Bool.not_true, Bool.false_or, Bool.true_and]
      rw [Bool.eq_iff_iff]
      simp only [decide_eq_true_eq, Bool.not_eq_true', decide_eq_false_iff_not]
      omega
  rw [key]
  refine ⟨fun h => ?_, fun h => ?_⟩
  · have h := not_t h
    unfold PlanV.upOf PlanV.childOf; rw [h]; exact ⟨rfl, rfl, rfl, rfl⟩
  · have h := not_f h
    have h0 := h
    unfold PlanV.aboveB at h0
    simp only [Bool.and_eq_true, decide_eq_true_eq] at h0
    obtain ⟨h1, h2, h3⟩ := PlanV.itemB_true h0.1
    obtain ⟨h4, h5⟩ := PlanV.width_level (p := p) (l := x.level) (by omega)
    have hs := of_decide_eq_true (PlanV.right_shaped h1)
    have hw := p.width_le x.level
    unfold PlanV.upOf PlanV.childOf; rw [h]; simp only [wi64, if_pos]
    rw [Int.tdiv_eq_ediv_of_nonneg h2, Int.tmod_eq_emod_of_nonneg h2]
    have d1 := Int.ediv_le_self p.arity h2
    have d2 := Int.ediv_nonneg h2 (show 0 ≤ p.arity by omega)
    exact ⟨by omega, by omega, by omega, by omega, rfl, trivial⟩
theorem srParent : Sound Try.prog 68 (pureS PrParent) := by
  refine fn_soundA crParent_fits ?_
  intro args H K h
  obtain ⟨pre, v, hP, hpre, rfl, hK⟩ := pureS_inv h
  unfold PrParent at hP
  split at hP
  · obtain ⟨hb, hP⟩ := bif_some hP
    simp only [Bool.and_eq_true] at hb
    obtain ⟨h0, h1⟩ := hb
    obtain rfl := Nat.eq_of_beq_eq_true h0
    obtain rfl := Nat.eq_of_beq_eq_true h1
    cases hP
    exact ⟨rfl, fun w0 fp ρi => wrParent (PlanV.mk _ _ _ _ _ _ _ _ _ _ _ _ _ _ _ _) (ItemV.mk _ _) hK (okrParent (PlanV.mk _ _ _ _ _ _ _ _ _ _ _ _ _ _ _ _) (ItemV.mk _ _) hpre)⟩
  · cases hP
def PrSize : PSpec := fun args => match args with
  | [.agg [.one (.int .i64 p_0), .one (.int .i64 p_1), .one (.int .i64 p_2), .one (.int .i64 p_3), .one (.int .i64 p_4), .one (.int .i64 p_5), .one (.int .u64 p_6), .one (.int .i64 p_7), .one (.int .i64 p_8), .one (.int .i64 p_9), .one (.int .i64 p_10), .one (.int .i64 p_11), .one (.int .i64 p_12), .one (.int .i64 p_13), .ints .u8 p_14_n p_14, .ints .u8 p_15_n p_15]] => bif Nat.beq p_14_n 16 && Nat.beq p_15_n 16 then some (True, .int .i64 (PlanV.size (PlanV.mk p_0 p_1 p_2 p_3 p_4 p_5 p_6 p_7 p_8 p_9 p_10 p_11 p_12 p_13 p_14 p_15))) else none
  | _ => none
def pcrSize : PCon := ⟨82, PrSize⟩
def crSize_n0 : ACode := .reg (.op (some 1) (.box (.tm 0)) (.op (some 2) (.mov (.cn (.int .i64 0))) .nil))
def crSize_n1 : ACode := .reg (.op (some 3) (.loadA 46 (.tm 1)) (.op (some 4) (.call 171 [(.tm 3)]) (.op (some 5) (.not (.tm 4)) .nil)))
def crSize_n2 : ACode := .reg (.op (some 2) (.mov (.cn (.int .i64 0))) .nil)
def crSize_n3 : ACode := .cond (.tm 5) (.seq crSize_n2 .ret) .skip
def crSize_n4i : Items := .op (some 6) (.loadA 46 (.tm 1)) (.op (some 7) (.call 164 [(.tm 6)]) (.op (some 8) (.loadA 46 (.tm 1)) (.op (some 9) (.loadA 46 (.tm 1)) (.op (some 10) (.call 51 [(.tm 9)]) (.op (some 11) (.call 165 [(.tm 8), (.tm 10)]) (.op (some 12) (.bin .mul (.tm 11) (.cn (.int .i64 32))) (.op (some 13) (.bin .add (.tm 7) (.tm 12)) (.op (some 2) (.mov (.tm 13)) .nil))))))))
def crSize_n4 : ACode := .regQ crSize_n4i
def crSize : ACode := (.seq crSize_n0 (.seq (.seq crSize_n1 crSize_n3) (.seq crSize_n4 .ret)))
def RrSize : Res := .one (.tm 2)
theorem crSize_fits : fnFits Try.prog 82 1 14 crSize RrSize = true := by kernel_rfl
def GrSize : Calls' := withP [pcpLevels, pcrItems, pcrAhead, pcrRight] []
theorem hGrSize : CallOk Try.prog GrSize := withP_ok ⟨spLevels, srItems, srAhead, srRight, trivial⟩ trivial
section
variable {w0 : World} {fp : Nat → Nat → Prop} {ρi : Rho} {Kf : SVal → Heap → Prop}
theorem rrSize_0 (p : PlanV) (Z : Env → Heap → Prop) : evCode GrSize Λ0 crSize_n2 [(1, some (.ptr ⟨0, 0, 0, 1⟩ 46)), (5, some (.bool (!(PlanV.right p))))] ⟨1, [(0, some ⟨true, (PlanV.cs p), 0⟩)]⟩ (onlyN fun e' H' => Z (pickE [2] e') (H'.keep [])) = (Z [(2, some (.int .i64 0))] ⟨1, []⟩) := by kernel_rfl
theorem rtrSize_0 (p : PlanV) (Z : SVal → Prop) : Res.ev RrSize [(2, some (.int .i64 0))] ⟨1, []⟩ Z = Z (.int .i64 0) := by kernel_rfl
def vrSize_0 (p : PlanV) : Prop := 0 = (PlanV.size p)
theorem prSize_0 (p : PlanV) (hK : Kf (.int .i64 (PlanV.size p)) ⟨0, []⟩) (h : vrSize_0 p) : SemL Try.prog w0 fp ρi 0 14 [crSize_n2, .ret, (.seq crSize_n4 .ret)] [(1, some (.ptr ⟨0, 0, 0, 1⟩ 46)), (5, some (.bool (!(PlanV.right p))))] ⟨1, [(0, some ⟨true, (PlanV.cs p), 0⟩)]⟩ (fnK RrSize 0 Kf) :=
  L_reg hGrSize [2] [] ((rrSize_0 p (fun e H => SemL Try.prog w0 fp ρi 0 14 [.ret, (.seq crSize_n4 .ret)] e H (fnK RrSize 0 Kf))).mpr (L_ret ((rtrSize_0 p (fun r => Ret 0 Kf r ⟨1, []⟩)).mpr (ret_plain rfl (by kernel_rfl) (cg1 (fun (z1 : Int) => (.int .i64 z1 : SVal)) h) hK))))
theorem rrSize_1 (p : PlanV) (Z : Env → Heap → Prop) : evR GrSize ⟨1, [(0, some ⟨true, (PlanV.cs p), 0⟩)]⟩ crSize_n4i [.int .i64 (PlanV.itemsAt p), .int .i64 ((PlanV.levels p : Nat) : Int), .int .i64 (PlanV.ahead p ((PlanV.levels p : Nat) : Int))] [(1, some (.ptr ⟨0, 0, 0, 1⟩ 46)), (5, some (.bool (!(PlanV.right p))))] (fun _ e' => Z (pickE [2] e') (Heap.keep ⟨1, [(0, some ⟨true, (PlanV.cs p), 0⟩)]⟩ [])) = (((SVal.bd 1 (.int .i64 (PlanV.itemsAt p)))) ∧ (True ∧ ((.int .i64 (PlanV.itemsAt p) : SVal) = .int .i64 (PlanV.itemsAt p)) ∧ (keeps ⟨1, [(0, some ⟨true, (PlanV.cs p), 0⟩)]⟩ ⟨1, [(0, some ⟨true, (PlanV.cs p), 0⟩)]⟩ [(0, some ⟨true, (PlanV.cs p), 0⟩)])) ∧ ((SVal.bd 1 (.int .i64 ((PlanV.levels p : Nat) : Int)))) ∧ (True ∧ ((.int .i64 ((PlanV.levels p : Nat) : Int) : SVal) = .int .i64 ((PlanV.levels p : Nat) : Int)) ∧ (keeps ⟨1, [(0, some ⟨true, (PlanV.cs p), 0⟩)]⟩ ⟨1, [(0, some ⟨true, (PlanV.cs p), 0⟩)]⟩ [(0, some ⟨true, (PlanV.cs p), 0⟩)])) ∧ ((SVal.bd 1 (.int .i64 (PlanV.ahead p ((PlanV.levels p : Nat) : Int))))) ∧ ((((PlanV.levels p : Nat) : Int) ≤ 5) ∧ ((.int .i64 (PlanV.ahead p ((PlanV.levels p : Nat) : Int)) : SVal) = .int .i64 (PlanV.ahead p ((PlanV.levels p : Nat) : Int))) ∧ (keeps ⟨1, [(0, some ⟨true, (PlanV.cs p), 0⟩)]⟩ ⟨1, [(0, some ⟨true, (PlanV.cs p), 0⟩)]⟩ [(0, some ⟨true, (PlanV.cs p), 0⟩)])) ∧ Z [(2, some (.int .i64 (IntKind.i64.wrap ((PlanV.itemsAt p) + (IntKind.i64.wrap ((PlanV.ahead p ((PlanV.levels p : Nat) : Int)) * 32))))))] ⟨1, []⟩) := by kernel_rfl
theorem rtrSize_1 (p : PlanV) (Z : SVal → Prop) : Res.ev RrSize [(2, some (.int .i64 (IntKind.i64.wrap ((PlanV.itemsAt p) + (IntKind.i64.wrap ((PlanV.ahead p ((PlanV.levels p : Nat) : Int)) * 32))))))] ⟨1, []⟩ Z = Z (.int .i64 (IntKind.i64.wrap ((PlanV.itemsAt p) + (IntKind.i64.wrap ((PlanV.ahead p ((PlanV.levels p : Nat) : Int)) * 32))))) := by kernel_rfl
def vrSize_1 (p : PlanV) : Prop := ((((PlanV.levels p : Nat) : Int) ≤ 5)) ∧ ((IntKind.i64.wrap ((PlanV.itemsAt p) + (IntKind.i64.wrap ((PlanV.ahead p ((PlanV.levels p : Nat) : Int)) * 32)))) = (PlanV.size p))
theorem prSize_1 (p : PlanV) (hK : Kf (.int .i64 (PlanV.size p)) ⟨0, []⟩) (h : vrSize_1 p) : SemL Try.prog w0 fp ρi 0 14 [crSize_n4, .ret] [(1, some (.ptr ⟨0, 0, 0, 1⟩ 46)), (5, some (.bool (!(PlanV.right p))))] ⟨1, [(0, some ⟨true, (PlanV.cs p), 0⟩)]⟩ (fnK RrSize 0 Kf) :=
  L_regQ hGrSize (its := crSize_n4i) [.int .i64 (PlanV.itemsAt p), .int .i64 ((PlanV.levels p : Nat) : Int), .int .i64 (PlanV.ahead p ((PlanV.levels p : Nat) : Int))] [2] [] ((rrSize_1 p (fun e H => SemL Try.prog w0 fp ρi 0 14 [.ret] e H (fnK RrSize 0 Kf))).mpr ⟨(plainR_ren (τ := whole) (by kernel_rfl)).2, ⟨⟨True.intro, rfl, (keeps_refl _)⟩, ⟨(plainR_ren (τ := whole) (by kernel_rfl)).2, ⟨⟨True.intro, rfl, (keeps_refl _)⟩, ⟨(plainR_ren (τ := whole) (by kernel_rfl)).2, ⟨⟨h.1, rfl, (keeps_refl _)⟩, (L_ret ((rtrSize_1 p (fun r => Ret 0 Kf r ⟨1, []⟩)).mpr (ret_plain rfl (by kernel_rfl) (cg1 (fun (z1 : Int) => (.int .i64 z1 : SVal)) h.2) hK)))⟩⟩⟩⟩⟩⟩)
def vrSize_2 (p : PlanV) : Prop := ((!(PlanV.right p)) = true → (vrSize_0 p)) ∧ ((!(PlanV.right p)) = false → (vrSize_1 p))
theorem prSize_2 (p : PlanV) (hK : Kf (.int .i64 (PlanV.size p)) ⟨0, []⟩) (h : vrSize_2 p) : SemL Try.prog w0 fp ρi 0 14 [crSize_n3, (.seq crSize_n4 .ret)] [(1, some (.ptr ⟨0, 0, 0, 1⟩ 46)), (5, some (.bool (!(PlanV.right p))))] ⟨1, [(0, some ⟨true, (PlanV.cs p), 0⟩)]⟩ (fnK RrSize 0 Kf) :=
  L_cond (q := (!(PlanV.right p))) (by kernel_rfl) (fun hq => (L_seq (prSize_0 p hK (h.1 hq)))) (fun hq => (L_skip (L_seq (prSize_1 p hK (h.2 hq)))))
theorem rrSize_3 (p : PlanV) (Z : Env → Heap → Prop) : evCode GrSize Λ0 crSize_n1 [(1, some (.ptr ⟨0, 0, 0, 1⟩ 46))] ⟨1, [(0, some ⟨true, (PlanV.cs p), 0⟩)]⟩ (onlyN fun e' H' => Z (pickE [1, 5] e') (H'.keep [0])) = ((True) ∧ Z [(1, some (.ptr ⟨0, 0, 0, 1⟩ 46)), (5, some (.bool (!(PlanV.right p))))] ⟨1, [(0, some ⟨true, (PlanV.cs p), 0⟩)]⟩) := by kernel_rfl
def vrSize_3 (p : PlanV) : Prop := vrSize_2 p
theorem prSize_3 (p : PlanV) (hK : Kf (.int .i64 (PlanV.size p)) ⟨0, []⟩) (h : vrSize_3 p) : SemL Try.prog w0 fp ρi 0 14 [crSize_n1, crSize_n3, (.seq crSize_n4 .ret)] [(1, some (.ptr ⟨0, 0, 0, 1⟩ 46))] ⟨1, [(0, some ⟨true, (PlanV.cs p), 0⟩)]⟩ (fnK RrSize 0 Kf) :=
  L_reg hGrSize [1, 5] [0] ((rrSize_3 p (fun e H => SemL Try.prog w0 fp ρi 0 14 [crSize_n3, (.seq crSize_n4 .ret)] e H (fnK RrSize 0 Kf))).mpr ⟨True.intro, (prSize_2 p hK h)⟩)
theorem rrSize_4 (p : PlanV) (Z : Env → Heap → Prop) : evCode GrSize Λ0 crSize_n0 [(0, some (.agg (PlanV.cs p)))] ⟨0, []⟩ (onlyN fun e' H' => Z (pickE [1] e') (H'.keep [0])) = (Z [(1, some (.ptr ⟨0, 0, 0, 1⟩ 46))] ⟨1, [(0, some ⟨true, (PlanV.cs p), 0⟩)]⟩) := by kernel_rfl
def vrSize_4 (p : PlanV) : Prop := vrSize_3 p
theorem prSize_4 (p : PlanV) (hK : Kf (.int .i64 (PlanV.size p)) ⟨0, []⟩) (h : vrSize_4 p) : SemL Try.prog w0 fp ρi 0 14 [crSize_n0, (.seq (.seq crSize_n1 crSize_n3) (.seq crSize_n4 .ret))] [(0, some (.agg (PlanV.cs p)))] ⟨0, []⟩ (fnK RrSize 0 Kf) :=
  L_reg hGrSize [1] [0] ((rrSize_4 p (fun e H => SemL Try.prog w0 fp ρi 0 14 [(.seq (.seq crSize_n1 crSize_n3) (.seq crSize_n4 .ret))] e H (fnK RrSize 0 Kf))).mpr (L_seq (L_seq (prSize_3 p hK h))))
def vcrSize (p : PlanV) : Prop := vrSize_4 p
theorem wrSize (p : PlanV) (hK : Kf (.int .i64 (PlanV.size p)) ⟨0, []⟩) (h : vcrSize p) : SemL Try.prog w0 fp ρi 0 14 [crSize] [(0, some (.agg (PlanV.cs p)))] ⟨0, []⟩ (fnK RrSize 0 Kf) :=
  (L_seq (prSize_4 p hK h))
end
theorem okrSize (p : PlanV) (hpre : True) : vcrSize p := by
  unfold vcrSize vrSize_4 vrSize_3 vrSize_2 vrSize_1 vrSize_0
  have hl := p.widths_len
  have hlev : PlanV.levels p = p.widths.length := rfl
  have a0 := p.all_le
  have a1 := p.ahead_le p.levels
  refine ⟨fun h => ?_, fun h => ?_⟩
  · have h := not_t h
    unfold PlanV.size; rw [h]; rfl
  · have h := not_f h
    refine ⟨by omega, ?_⟩
    unfold PlanV.size PlanV.itemsAt; rw [h, if_pos rfl]; simp only [wi64]; omega
theorem srSize : Sound Try.prog 82 (pureS PrSize) := by
  refine fn_soundA crSize_fits ?_
  intro args H K h
  obtain ⟨pre, v, hP, hpre, rfl, hK⟩ := pureS_inv h
  unfold PrSize at hP
  split at hP
  · obtain ⟨hb, hP⟩ := bif_some hP
    simp only [Bool.and_eq_true] at hb
    obtain ⟨h0, h1⟩ := hb
    obtain rfl := Nat.eq_of_beq_eq_true h0
    obtain rfl := Nat.eq_of_beq_eq_true h1
    cases hP
    exact ⟨rfl, fun w0 fp ρi => wrSize (PlanV.mk _ _ _ _ _ _ _ _ _ _ _ _ _ _ _ _) hK (okrSize (PlanV.mk _ _ _ _ _ _ _ _ _ _ _ _ _ _ _ _) hpre)⟩
  · cases hP
end Go.Proofs.Ytlmcdbgcbmjilaa
