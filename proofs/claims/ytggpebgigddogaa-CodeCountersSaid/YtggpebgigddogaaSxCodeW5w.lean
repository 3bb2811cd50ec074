/- Part of the proof: SxCodeW5w. -/
import Derived.Test.YtggpebgigddogaaSxPlanP
import Derived.Test.YtggpebgigddogaaSxCodeN
import Derived.KernelRfl
set_option linter.unusedVariables false
set_option linter.unusedSimpArgs false
namespace Go.Proofs.Ytggpebgigddogaa
open Go.Sx
def Pq7Most : PSpec := fun args => match args with
  | [.agg [.one (.int .i64 p_0), .one (.int .i64 p_1), .one (.int .i64 p_2), .one (.int .i64 p_3), .one (.int .i64 p_4), .one (.int .i64 p_5), .one (.int .u64 p_6), .one (.int .i64 p_7), .one (.int .i64 p_8), .one (.int .i64 p_9), .one (.int .i64 p_10), .one (.int .i64 p_11), .one (.int .i64 p_12), .one (.int .i64 p_13), .ints .u8 p_14_n p_14, .ints .u8 p_15_n p_15]] => bif Nat.beq p_14_n 16 && Nat.beq p_15_n 16 then some ((PlanV.right (PlanV.mk p_0 p_1 p_2 p_3 p_4 p_5 p_6 p_7 p_8 p_9 p_10 p_11 p_12 p_13 p_14 p_15) = true), .int .i64 (PlanV.top (PlanV.mk p_0 p_1 p_2 p_3 p_4 p_5 p_6 p_7 p_8 p_9 p_10 p_11 p_12 p_13 p_14 p_15))) else none
  | _ => none
def pcq7Most : PCon := ⟨42, Pq7Most⟩
def cz42_n0 : ACode := .reg (.op (some 1) (.box (.tm 0)) (.op (some 2) (.mov (.cn (.int .i64 0))) .nil))
def cz42_n1 : ACode := .reg (.op (some 3) (.mov (.cn (.int .i64 1))) .nil)
def cz42_n2 : ACode := .reg (.op (some 4) (.mov (.cn (.int .i64 0))) .nil)
def cz42_n3 : ACode := .reg (.op (some 5) (.mov (.tm 4)) (.op (some 6) (.fieldAddr (.tm 1) 5 1) (.op (some 7) (.load1 (.tm 6)) (.op (some 8) (.bin .lss (.tm 5) (.tm 7)) .nil))))
def cz42_n4 : ACode := .cond (.tm 8) .skip (.exit 0)
def cz42_n5 : ACode := .reg (.op (some 11) (.mov (.tm 3)) (.op (some 12) (.bin .mul (.tm 11) (.cn (.int .i64 2))) (.op (some 3) (.mov (.tm 12)) .nil)))
def cz42_n6 : ACode := .block 1 cz42_n5
def cz42_n7 : ACode := .reg (.op (some 9) (.mov (.tm 4)) (.op (some 10) (.bin .add (.tm 9) (.cn (.int .i64 1))) (.op (some 4) (.mov (.tm 10)) .nil)))
def cz42_n8 : ACode := .loop (.seq (.seq cz42_n3 cz42_n4) (.seq cz42_n6 cz42_n7))
def cz42_n9 : ACode := .block 0 cz42_n8
def cz42_n10 : ACode := .reg (.op (some 13) (.mov (.tm 3)) (.op (some 14) (.bin .sub (.tm 13) (.cn (.int .i64 1))) (.op (some 2) (.mov (.tm 14)) .nil)))
def cq7Most : ACode := (.seq cz42_n0 (.seq cz42_n1 (.seq (.seq cz42_n2 cz42_n9) (.seq cz42_n10 .ret))))
def Rq7Most : Res := .one (.tm 2)
theorem cq7Most_fits : fnFits Try.prog 42 1 15 cq7Most Rq7Most = true := by kernel_rfl
def Gq7Most : Calls' := withP [] []
theorem hGq7Most : CallOk Try.prog Gq7Most := withP_ok trivial trivial
section
variable {w0 : World} {fp : Nat -> Nat -> Prop} {ρi : Rho} {Kf : SVal -> Heap -> Prop}
def kkz42_0 (w0 : World) (fp : Nat -> Nat -> Prop) (ρi : Rho) (Kf : SVal -> Heap -> Prop) (p : PlanV) : Cont := blockK 0 (fun e H => SemL Try.prog w0 fp ρi 0 15 [(.seq cz42_n10 .ret)] e H (fnK Rq7Most 0 Kf)) (fnK Rq7Most 0 Kf)
def ivz42_1 (p : PlanV) : Int × Int -> Prop := fun s => match s with | (v3, v4) => 0 <= v4 /\ v4 <= p.minor /\ v3 = 2 ^ (Int.toNat v4)
def muz42_1 (p : PlanV) : Int × Int -> Nat := fun s => match s with | (v3, v4) => ((p.minor - v4).toNat)
def liz42_1 (p : PlanV) : Int × Int -> Env := fun s => match s with | (v3, v4) => [(1, some (.ptr ⟨0, 0, 0, 1⟩ 46)), (3, some (.int .i64 v3)), (4, some (.int .i64 v4))]
def ljz42_1 (p : PlanV) : Int × Int -> Heap := fun s => match s with | (v3, v4) => ⟨1, [(0, some ⟨true, (PlanV.cs p), 0⟩)]⟩
def kkz42_1 (w0 : World) (fp : Nat -> Nat -> Prop) (ρi : Rho) (Kf : SVal -> Heap -> Prop) (p : PlanV) (v3 v4 : Int) : Cont := loopK 0 (ivz42_1 p) (muz42_1 p) (liz42_1 p) (ljz42_1 p) (v3, v4) (kkz42_0 w0 fp ρi Kf p)
abbrev Yh0 (x0 : PlanV) : Heap := ⟨1, [(0, some ⟨true, (PlanV.cs x0), 0⟩)]⟩
abbrev Yh1 (x0 x1 : Int) : Env := [(1, some (.ptr ⟨0, 0, 0, 1⟩ 46)), (3, some (.int .i64 x0)), (4, some (.int .i64 x1))]
theorem rz42_0 (p : PlanV) (v3'1 v4 v3 : Int) (Z : Env -> Heap -> Prop) (h : Z [(1, some (.ptr ⟨0, 0, 0, 1⟩ 46)), (3, some (.int .i64 v3'1)), (4, some (.int .i64 (IntKind.i64.wrap (v4 + 1))))] (Yh0 p)) : EvC Gq7Most cz42_n7 (Yh1 v3'1 v4) (Yh0 p) [1, 3, 4] [0] Z := EvC.of (by kernel_rfl) h
def vz42_0 (p : PlanV) (v3'1 v4 v3 : Int) : Prop := (0 <= (IntKind.i64.wrap (v4 + 1)) /\ (IntKind.i64.wrap (v4 + 1)) <= p.minor /\ v3'1 = 2 ^ (Int.toNat (IntKind.i64.wrap (v4 + 1)))) /\ (((p.minor - (IntKind.i64.wrap (v4 + 1))).toNat) < ((p.minor - v4).toNat))
abbrev Yh2 : Heap := ⟨0, []⟩
abbrev Yh3 (x0 : SVal -> Heap -> Prop) (x1 : PlanV) : Prop := x0 (.int .i64 (PlanV.top x1)) ⟨0, []⟩
theorem pz42_0 (p : PlanV) (hK : (Yh3 Kf p)) (v3'1 v4 v3 : Int) (h : vz42_0 p v3'1 v4 v3) : SemL Try.prog w0 fp ρi 0 15 [cz42_n7] (Yh1 v3'1 v4) (Yh0 p) (kkz42_1 w0 fp ρi Kf p v3 v4) :=
  L_regE hGq7Most (rz42_0 p v3'1 v4 v3 _ (L_nil (loop_back (x' := (v3'1, (IntKind.i64.wrap (v4 + 1)))) (τ := tau []) h.1 h.2 (sub_tau' [] [0] rfl rfl (esc bpt (esc pbd (esc pbd envSub_nil))) (hsc pcs heapSub_nil) (by kernel_rfl) rfl))))
def kkz42_2 (w0 : World) (fp : Nat -> Nat -> Prop) (ρi : Rho) (Kf : SVal -> Heap -> Prop) (p : PlanV) (v3 v4 : Int) : Cont := blockK 1 (fun e H => SemL Try.prog w0 fp ρi 0 15 [cz42_n7] e H (kkz42_1 w0 fp ρi Kf p v3 v4)) (kkz42_1 w0 fp ρi Kf p v3 v4)
theorem rz42_1 (p : PlanV) (v3 v4 : Int) (Z : Env -> Heap -> Prop) (h : Z [(1, some (.ptr ⟨0, 0, 0, 1⟩ 46)), (3, some (.int .i64 (IntKind.i64.wrap (v3 * 2)))), (4, some (.int .i64 v4))] (Yh0 p)) : EvC Gq7Most cz42_n5 (Yh1 v3 v4) (Yh0 p) [1, 3, 4] [0] Z := EvC.of (by kernel_rfl) h
def vz42_1 (p : PlanV) (v3 v4 : Int) : Prop := ∀ v3'1 : Int, v3'1 = ((v3 * 2) + 9223372036854775808) % 18446744073709551616 - 9223372036854775808 -> vz42_0 p v3'1 v4 v3
theorem pz42_1 (p : PlanV) (hK : (Yh3 Kf p)) (v3 v4 : Int) (h : vz42_1 p v3 v4) : SemL Try.prog w0 fp ρi 0 15 [cz42_n5] (Yh1 v3 v4) (Yh0 p) (kkz42_2 w0 fp ρi Kf p v3 v4) :=
  L_regE hGq7Most (rz42_1 p v3 v4 _ (L_nil (pz42_0 p hK (IntKind.i64.wrap (v3 * 2)) v4 v3 (h (IntKind.i64.wrap (v3 * 2)) (wi64 _)))))
def vz42_2 (p : PlanV) (v3 v4 : Int) : Prop := vz42_1 p v3 v4
theorem pz42_2 (p : PlanV) (hK : (Yh3 Kf p)) (v3 v4 : Int) (h : vz42_2 p v3 v4) : SemL Try.prog w0 fp ρi 0 15 [cz42_n6, cz42_n7] (Yh1 v3 v4) (Yh0 p) (kkz42_1 w0 fp ρi Kf p v3 v4) :=
  L_block (pz42_1 p hK v3 v4 h)
theorem rz42_3 (p : PlanV) (v3 : Int) (Z : Env -> Heap -> Prop) (h : Z [(2, some (.int .i64 (IntKind.i64.wrap (v3 - 1))))] ⟨1, []⟩) : EvC Gq7Most cz42_n10 [(3, some (.int .i64 v3))] ⟨1, []⟩ [2] [] Z := EvC.of (by kernel_rfl) h
theorem rtz42_0 (p : PlanV) (v3 : Int) : RetC Rq7Most [(2, some (.int .i64 (IntKind.i64.wrap (v3 - 1))))] ⟨1, []⟩ (.int .i64 (IntKind.i64.wrap (v3 - 1))) := RetC.of (fun Z => by kernel_rfl)
def vz42_3 (p : PlanV) (v3 : Int) : Prop := (IntKind.i64.wrap (v3 - 1)) = (PlanV.top p)
theorem pz42_3 (p : PlanV) (hK : (Yh3 Kf p)) (v3 : Int) (h : vz42_3 p v3) : SemL Try.prog w0 fp ρi 0 15 [cz42_n10, .ret] [(3, some (.int .i64 v3))] ⟨1, []⟩ (fnK Rq7Most 0 Kf) :=
  L_regE hGq7Most (rz42_3 p v3 _ (L_retE (R := Rq7Most) (m := 0) (Kf := Kf) (fun _ _ h => h) (rtz42_0 p v3) (ret_plain rfl (by kernel_rfl) (cg1 (fun (z1 : Int) => (.int .i64 z1 : SVal)) h) hK)))
def vz42_4 (p : PlanV) (v3 v4 : Int) : Prop := ((decide (v4 < p.minor)) = true -> (vz42_2 p v3 v4)) /\ ((decide (v4 < p.minor)) = false -> (vz42_3 p v3))
abbrev Yh4 (x0 x1 : Int) (x2 : PlanV) : Env := [(1, some (.ptr ⟨0, 0, 0, 1⟩ 46)), (3, some (.int .i64 x0)), (4, some (.int .i64 x1)), (8, some (.bool (decide (x1 < x2.minor))))]
theorem pz42_4 (p : PlanV) (hK : (Yh3 Kf p)) (v3 v4 : Int) (h : vz42_4 p v3 v4) : SemL Try.prog w0 fp ρi 0 15 [cz42_n4, (.seq cz42_n6 cz42_n7)] (Yh4 v3 v4 p) (Yh0 p) (kkz42_1 w0 fp ρi Kf p v3 v4) :=
  L_cond (q := (decide (v4 < p.minor))) (by kernel_rfl) (fun hq => (L_skip (lpk [1, 3, 4] [0] (L_seq (pz42_2 p hK v3 v4 (h.1 hq)))))) (fun hq => (L_exit (lpk [3] [] (L_seq (pz42_3 p hK v3 (h.2 hq))))))
theorem rz42_5 (p : PlanV) (v3 v4 : Int) (Z : Env -> Heap -> Prop) (h : Z (Yh4 v3 v4 p) (Yh0 p)) : EvC Gq7Most cz42_n3 (Yh1 v3 v4) (Yh0 p) [1, 3, 4, 8] [0] Z := EvC.of (by kernel_rfl) h
def vz42_5 (p : PlanV) (v3 v4 : Int) : Prop := vz42_4 p v3 v4
theorem pz42_5 (p : PlanV) (hK : (Yh3 Kf p)) (v3 v4 : Int) (h : vz42_5 p v3 v4) : SemL Try.prog w0 fp ρi 0 15 [cz42_n3, cz42_n4, (.seq cz42_n6 cz42_n7)] (Yh1 v3 v4) (Yh0 p) (kkz42_1 w0 fp ρi Kf p v3 v4) :=
  L_regE hGq7Most (rz42_5 p v3 v4 _ (pz42_4 p hK v3 v4 h))
def vz42_6 (p : PlanV) : Prop := (0 <= (0 : Int) /\ (0 : Int) <= p.minor /\ (1 : Int) = 2 ^ (Int.toNat (0 : Int))) /\ (∀ (v3 v4 : Int), (0 <= v4 /\ v4 <= p.minor /\ v3 = 2 ^ (Int.toNat v4)) -> (vz42_5 p v3 v4))
abbrev Yh5 : Env := [(1, some (.ptr ⟨0, 0, 0, 1⟩ 46)), (3, some (.int .i64 1)), (4, some (.int .i64 0))]
theorem pz42_6 (p : PlanV) (hK : (Yh3 Kf p)) (h : vz42_6 p) : SemL Try.prog w0 fp ρi 0 15 [cz42_n8] Yh5 (Yh0 p) (kkz42_0 w0 fp ρi Kf p) :=
  L_loop (ivz42_1 p) (muz42_1 p) (liz42_1 p) (ljz42_1 p) ⟨(1, 0), tau [], h.1, (sub_tau' [] [0] rfl rfl (esc bpt (esc pbd (esc pbd envSub_nil))) (hsc pcs heapSub_nil) (by kernel_rfl) rfl)⟩ (fun s => match s with | (v3, v4) => fun hi => (L_seq (L_seq (pz42_5 p hK v3 v4 (h.2 v3 v4 hi)))))
def vz42_7 (p : PlanV) : Prop := vz42_6 p
theorem pz42_7 (p : PlanV) (hK : (Yh3 Kf p)) (h : vz42_7 p) : SemL Try.prog w0 fp ρi 0 15 [cz42_n9, (.seq cz42_n10 .ret)] Yh5 (Yh0 p) (fnK Rq7Most 0 Kf) :=
  L_block (pz42_6 p hK h)
abbrev Yh6 : Env := [(1, some (.ptr ⟨0, 0, 0, 1⟩ 46)), (3, some (.int .i64 1))]
theorem rz42_8 (p : PlanV) (Z : Env -> Heap -> Prop) (h : Z Yh5 (Yh0 p)) : EvC Gq7Most cz42_n2 Yh6 (Yh0 p) [1, 3, 4] [0] Z := EvC.of (by kernel_rfl) h
def vz42_8 (p : PlanV) : Prop := vz42_7 p
theorem pz42_8 (p : PlanV) (hK : (Yh3 Kf p)) (h : vz42_8 p) : SemL Try.prog w0 fp ρi 0 15 [cz42_n2, cz42_n9, (.seq cz42_n10 .ret)] Yh6 (Yh0 p) (fnK Rq7Most 0 Kf) :=
  L_regE hGq7Most (rz42_8 p _ (pz42_7 p hK h))
abbrev Yh7 : Env := [(1, some (.ptr ⟨0, 0, 0, 1⟩ 46))]
theorem rz42_9 (p : PlanV) (Z : Env -> Heap -> Prop) (h : Z Yh6 (Yh0 p)) : EvC Gq7Most cz42_n1 Yh7 (Yh0 p) [1, 3] [0] Z := EvC.of (by kernel_rfl) h
def vz42_9 (p : PlanV) : Prop := vz42_8 p
theorem pz42_9 (p : PlanV) (hK : (Yh3 Kf p)) (h : vz42_9 p) : SemL Try.prog w0 fp ρi 0 15 [cz42_n1, (.seq (.seq cz42_n2 cz42_n9) (.seq cz42_n10 .ret))] Yh7 (Yh0 p) (fnK Rq7Most 0 Kf) :=
  L_regE hGq7Most (rz42_9 p _ (L_seq (L_seq (pz42_8 p hK h))))
theorem rz42_10 (p : PlanV) (Z : Env -> Heap -> Prop) (h : Z Yh7 (Yh0 p)) : EvC Gq7Most cz42_n0 [(0, some (.agg (PlanV.cs p)))] Yh2 [1] [0] Z := EvC.of (by kernel_rfl) h
def vz42_10 (p : PlanV) : Prop := vz42_9 p
theorem pz42_10 (p : PlanV) (hK : (Yh3 Kf p)) (h : vz42_10 p) : SemL Try.prog w0 fp ρi 0 15 [cz42_n0, (.seq cz42_n1 (.seq (.seq cz42_n2 cz42_n9) (.seq cz42_n10 .ret)))] [(0, some (.agg (PlanV.cs p)))] Yh2 (fnK Rq7Most 0 Kf) :=
  L_regE hGq7Most (rz42_10 p _ (L_seq (pz42_9 p hK h)))
def vcq7Most (p : PlanV) : Prop := vz42_10 p
theorem wq7Most (p : PlanV) (hK : (Yh3 Kf p)) (h : vcq7Most p) : SemL Try.prog w0 fp ρi 0 15 [cq7Most] [(0, some (.agg (PlanV.cs p)))] Yh2 (fnK Rq7Most 0 Kf) :=
  (L_seq (pz42_10 p hK h))
end
theorem okq7Most (p : PlanV) (hpre : (PlanV.right p = true)) : vcq7Most p := by
  unfold vcq7Most vz42_10 vz42_9 vz42_8 vz42_7 vz42_6 vz42_5 vz42_4 vz42_3 vz42_2 vz42_1 vz42_0
  have hm := PlanV.minor_le hpre
  have h2 := PlanV.pow_minor hpre
  refine ⟨⟨by omega, hm.1, rfl⟩, ?_⟩
  rintro n i ⟨h0, h1, rfl⟩
  refine ⟨fun hlt => ?_, fun hge => ?_⟩
  · have hlt := of_decide_eq_true hlt
    have e1 : IntKind.i64.wrap (i + 1) = i + 1 := by rw [wi64]; omega
    have e2 : (i + 1).toNat = i.toNat + 1 := by omega
    have h3 := ipow_le (b := 2) 2 rfl (by omega) (show i.toNat + 1 <= p.minor.toNat by omega)
    have h4 : (2 : Int) ^ (i.toNat + 1) = 2 ^ i.toNat * 2 := Int.pow_succ 2 i.toNat
    have h5 : (0 : Int) < 2 ^ i.toNat := Int.pow_pos (by decide)
    intro z hz
    rw [e1, e2]
    exact ⟨⟨by omega, by omega, by omega⟩, by omega⟩
  · have hge := of_decide_eq_false hge
    obtain rfl : i = p.minor := by omega
    unfold PlanV.top
    rw [wi64]
    omega
theorem sq7Most : Sound Try.prog 42 (pureS Pq7Most) := by
  refine fn_soundA cq7Most_fits ?_
  intro args H K h
  obtain ⟨pre, v, hP, hpre, rfl, hK⟩ := pureS_inv h
  unfold Pq7Most at hP
  split at hP
  · obtain ⟨hb, hP⟩ := bif_some hP
    simp only [Bool.and_eq_true] at hb
    obtain ⟨h0, h1⟩ := hb
    obtain rfl := Nat.eq_of_beq_eq_true h0
    obtain rfl := Nat.eq_of_beq_eq_true h1
    cases hP
    exact ⟨rfl, fun w0 fp ρi => wq7Most (PlanV.mk _ _ _ _ _ _ _ _ _ _ _ _ _ _ _ _) hK (okq7Most (PlanV.mk _ _ _ _ _ _ _ _ _ _ _ _ _ _ _ _) hpre)⟩
  · cases hP
def Dq7Wrong : GSpec := fun args H => match args, H with
  | [.agg [.one (.int .i64 p_0), .one (.int .i64 p_1), .one (.int .i64 p_2), .one (.int .i64 p_3), .one (.int .i64 p_4), .one (.int .i64 p_5), .one (.int .u64 p_6), .one (.int .i64 p_7), .one (.int .i64 p_8), .one (.int .i64 p_9), .one (.int .i64 p_10), .one (.int .i64 p_11), .one (.int .i64 p_12), .one (.int .i64 p_13), .ints .u8 p_14_n p_14, .ints .u8 p_15_n p_15], .agg [.one (.int .u64 c_0), .one (.slice ⟨0, 0, 0, 1⟩ c_n c_c)]], ⟨1, [(0, some ⟨false, [.ints .i64 c_m c], 0⟩)]⟩ => bif Nat.beq p_14_n 16 && Nat.beq p_15_n 16 then some (c_m = c_n /\ (List.length c = c_n /\ c_n <= c_c /\ c_n <= 1000000), fun K => K (.int .i64 (PlanV.wrongC (PlanV.mk p_0 p_1 p_2 p_3 p_4 p_5 p_6 p_7 p_8 p_9 p_10 p_11 p_12 p_13 p_14 p_15) c_0 c)) ⟨1, [(0, some ⟨false, [.ints .i64 c_n c], 0⟩)]⟩) else none
  | _, _ => none
def conq7Wrong : Con := ⟨17, gS Dq7Wrong, [], [], [(some [.ints .i64 0 ([] : List Int)])]⟩
def cz17_n0 : ACode := .reg (.op (some 2) (.box (.tm 0)) (.op (some 3) (.box (.tm 1)) (.op (some 4) (.mov (.cn (.int .i64 0))) .nil)))
def cz17_n1 : ACode := .reg (.op (some 6) (.loadA 46 (.tm 2)) (.op (some 7) (.call 45 [(.tm 6)]) (.op (some 8) (.not (.tm 7)) .nil)))
def cz17_n2 : ACode := .reg (.op (some 4) (.mov (.cn (.int .i64 4))) .nil)
def cz17_n3 : ACode := .cond (.tm 8) (.seq cz17_n2 .ret) .skip
def cz17_n4 : ACode := .reg (.op (some 9) (.fieldAddr (.tm 3) 0 1) (.op (some 10) (.load1 (.tm 9)) (.op (some 11) (.fieldAddr (.tm 2) 6 1) (.op (some 12) (.load1 (.tm 11)) (.op (some 13) (.bin .gtr (.tm 10) (.tm 12)) (.op (some 14) (.mov (.tm 13)) (.grpJ 14 false (.op (some 15) (.fieldAddr (.tm 3) 1 1) (.op (some 16) (.load1 (.tm 15)) (.op (some 17) (.len (.tm 16)) (.op (some 18) (.fieldAddr (.tm 2) 3 1) (.op (some 19) (.load1 (.tm 18)) (.op (some 20) (.bin .neq (.tm 17) (.tm 19)) .nil)))))) 21 (.tm 20) (.cn (.bool true)) .nil)))))))
def cz17_n5 : ACode := .reg (.op (some 4) (.mov (.cn (.int .i64 1))) .nil)
def cz17_n6 : ACode := .cond (.tm 21) (.seq cz17_n5 .ret) .skip
def cz17_n7 : ACode := .reg (.op (some 5) (.mov (.cn (.int .i64 0))) .nil)
def cz17_n8 : ACode := .reg (.op (some 22) (.mov (.tm 5)) (.op (some 23) (.fieldAddr (.tm 3) 1 1) (.op (some 24) (.load1 (.tm 23)) (.op (some 25) (.len (.tm 24)) (.op (some 26) (.bin .lss (.tm 22) (.tm 25)) .nil)))))
def cz17_n9 : ACode := .cond (.tm 26) .skip (.exit 0)
def cz17_n10i : Items := .op (some 29) (.fieldAddr (.tm 3) 1 1) (.op (some 30) (.load1 (.tm 29)) (.op (some 31) (.mov (.tm 5)) (.op (some 32) (.idxS (.tm 30) (.tm 31) 1) (.op (some 33) (.load1 (.tm 32)) (.op (some 34) (.bin .lss (.tm 33) (.cn (.int .i64 0))) (.op (some 35) (.mov (.tm 34)) (.grpJ 35 false (.op (some 36) (.fieldAddr (.tm 3) 1 1) (.op (some 37) (.load1 (.tm 36)) (.op (some 38) (.mov (.tm 5)) (.op (some 39) (.idxS (.tm 37) (.tm 38) 1) (.op (some 40) (.load1 (.tm 39)) (.op (some 41) (.loadA 46 (.tm 2)) (.op (some 42) (.call 42 [(.tm 41)]) (.op (some 43) (.bin .gtr (.tm 40) (.tm 42)) .nil)))))))) 44 (.tm 43) (.cn (.bool true)) .nil)))))))
def cz17_n10 : ACode := .regQ cz17_n10i
def cz17_n11 : ACode := .reg (.op (some 4) (.mov (.cn (.int .i64 1))) .nil)
def cz17_n12 : ACode := .cond (.tm 44) (.seq cz17_n11 .ret) .skip
def cz17_n13 : ACode := .block 1 (.seq cz17_n10 cz17_n12)
def cz17_n14 : ACode := .reg (.op (some 27) (.mov (.tm 5)) (.op (some 28) (.bin .add (.tm 27) (.cn (.int .i64 1))) (.op (some 5) (.mov (.tm 28)) .nil)))
def cz17_n15 : ACode := .loop (.seq (.seq cz17_n8 cz17_n9) (.seq cz17_n13 cz17_n14))
def cz17_n16 : ACode := .block 0 cz17_n15
def cz17_n17 : ACode := .reg (.op (some 4) (.mov (.cn (.int .i64 0))) .nil)
def cq7Wrong : ACode := (.seq cz17_n0 (.seq (.seq cz17_n1 cz17_n3) (.seq (.seq cz17_n4 cz17_n6) (.seq (.seq cz17_n7 cz17_n16) (.seq cz17_n17 .ret)))))
def Rq7Wrong : Res := .one (.tm 4)
theorem cq7Wrong_fits : fnFits Try.prog 17 2 45 cq7Wrong Rq7Wrong = true := by kernel_rfl
def Gq7Wrong : Calls' := withP [pcq7Most, pcqRight] []
theorem hGq7Wrong : CallOk Try.prog Gq7Wrong := withP_ok ⟨sq7Most, sqRight, trivial⟩ trivial
section
variable {w0 : World} {fp : Nat -> Nat -> Prop} {ρi : Rho} {Kf : SVal -> Heap -> Prop}
abbrev Yh8 (x0 : Nat) (x1 : List Int) : Heap := ⟨3, [(0, some ⟨false, [.ints .i64 x0 x1], 0⟩)]⟩
theorem rz17_0 (p : PlanV) (c_0 : Int) (c : List Int) (c_n c_c : Nat) (Z : Env -> Heap -> Prop) (h : Z [(4, some (.int .i64 4))] (Yh8 c_n c)) : EvC Gq7Wrong cz17_n2 [] (Yh8 c_n c) [4] [0] Z := EvC.of (by kernel_rfl) h
theorem rtz17_0 (p : PlanV) (c_0 : Int) (c : List Int) (c_n c_c : Nat) : RetC Rq7Wrong [(4, some (.int .i64 4))] (Yh8 c_n c) (.int .i64 4) := RetC.of (fun Z => by kernel_rfl)
def vz17_0 (p : PlanV) (c_0 : Int) (c : List Int) (c_n c_c : Nat) : Prop := 4 = (PlanV.wrongC p c_0 c)
abbrev Yh9 (x0 : Nat) (x1 : List Int) : Heap := ⟨1, [(0, some ⟨false, [.ints .i64 x0 x1], 0⟩)]⟩
abbrev Yh10 (x0 : SVal -> Heap -> Prop) (x1 : PlanV) (x2 : Int) (x3 : List Int) (x4 : Nat) : Prop := x0 (.int .i64 (PlanV.wrongC x1 x2 x3)) ⟨1, [(0, some ⟨false, [.ints .i64 x4 x3], 0⟩)]⟩
theorem pz17_0 (p : PlanV) (c_0 : Int) (c : List Int) (c_n c_c : Nat) (hK : (Yh10 Kf p c_0 c c_n)) (h : vz17_0 p c_0 c c_n c_c) : SemL Try.prog w0 fp ρi 1 45 [cz17_n2, .ret, (.seq (.seq cz17_n4 cz17_n6) (.seq (.seq cz17_n7 cz17_n16) (.seq cz17_n17 .ret)))] [] (Yh8 c_n c) (fnK Rq7Wrong 1 Kf) :=
  L_regE hGq7Wrong (rz17_0 p c_0 c c_n c_c _ (L_retE (R := Rq7Wrong) (m := 1) (Kf := Kf) (fun _ _ h => h) (rtz17_0 p c_0 c c_n c_c) (ret_of0 (Eq.mpr (cg1 (fun (z1 : Int) => Ret0 1 Kf (.int .i64 z1) (Yh8 c_n c)) h) (ret0_tau [] [0] rfl (by kernel_rfl) rfl pbd (hsc pcs heapSub_nil) rfl (by kernel_rfl) (hK))))))
abbrev Yh11 : Env := [(4, some (.int .i64 1))]
theorem rz17_1 (p : PlanV) (c_0 : Int) (c : List Int) (c_n c_c : Nat) (Z : Env -> Heap -> Prop) (h : Z Yh11 (Yh8 c_n c)) : EvC Gq7Wrong cz17_n5 [] (Yh8 c_n c) [4] [0] Z := EvC.of (by kernel_rfl) h
theorem rtz17_1 (p : PlanV) (c_0 : Int) (c : List Int) (c_n c_c : Nat) : RetC Rq7Wrong Yh11 (Yh8 c_n c) (.int .i64 1) := RetC.of (fun Z => by kernel_rfl)
def vz17_1 (p : PlanV) (c_0 : Int) (c : List Int) (c_n c_c : Nat) : Prop := 1 = (PlanV.wrongC p c_0 c)
theorem pz17_1 (p : PlanV) (c_0 : Int) (c : List Int) (c_n c_c : Nat) (hK : (Yh10 Kf p c_0 c c_n)) (h : vz17_1 p c_0 c c_n c_c) : SemL Try.prog w0 fp ρi 1 45 [cz17_n5, .ret, (.seq (.seq cz17_n7 cz17_n16) (.seq cz17_n17 .ret))] [] (Yh8 c_n c) (fnK Rq7Wrong 1 Kf) :=
  L_regE hGq7Wrong (rz17_1 p c_0 c c_n c_c _ (L_retE (R := Rq7Wrong) (m := 1) (Kf := Kf) (fun _ _ h => h) (rtz17_1 p c_0 c c_n c_c) (ret_of0 (Eq.mpr (cg1 (fun (z1 : Int) => Ret0 1 Kf (.int .i64 z1) (Yh8 c_n c)) h) (ret0_tau [] [0] rfl (by kernel_rfl) rfl pbd (hsc pcs heapSub_nil) rfl (by kernel_rfl) (hK))))))
def kkz17_0 (w0 : World) (fp : Nat -> Nat -> Prop) (ρi : Rho) (Kf : SVal -> Heap -> Prop) (p : PlanV) (c_0 : Int) (c : List Int) (c_n c_c : Nat) : Cont := blockK 0 (fun e H => SemL Try.prog w0 fp ρi 1 45 [(.seq cz17_n17 .ret)] e H (fnK Rq7Wrong 1 Kf)) (fnK Rq7Wrong 1 Kf)
def ivz17_1 (p : PlanV) (c_0 : Int) (c : List Int) (c_n c_c : Nat) : Int -> Prop := fun s => match s with | v5 => p.right = true /\ c_0 <= p.major /\ (c_n : Int) = p.lines /\ 0 <= v5 /\ v5 <= (c_n : Int) /\ (List.take (Int.toNat v5) c).any (fun x => decide (x < 0) || decide (p.top < x)) = false
def muz17_1 (p : PlanV) (c_0 : Int) (c : List Int) (c_n c_c : Nat) : Int -> Nat := fun s => match s with | v5 => (((c_n : Int) - v5).toNat)
def liz17_1 (p : PlanV) (c_0 : Int) (c : List Int) (c_n c_c : Nat) : Int -> Env := fun s => match s with | v5 => [(2, some (.ptr ⟨1, 0, 0, 1⟩ 46)), (3, some (.ptr ⟨2, 0, 0, 1⟩ 2)), (5, some (.int .i64 v5))]
def ljz17_1 (p : PlanV) (c_0 : Int) (c : List Int) (c_n c_c : Nat) : Int -> Heap := fun s => match s with | v5 => ⟨3, [(0, some ⟨false, [.ints .i64 c_n c], 0⟩), (1, some ⟨true, (PlanV.cs p), 0⟩), (2, some ⟨true, [.one (.int .u64 c_0), .one (.slice ⟨0, 0, 0, 1⟩ c_n c_c)], 0⟩)]⟩
def kkz17_1 (w0 : World) (fp : Nat -> Nat -> Prop) (ρi : Rho) (Kf : SVal -> Heap -> Prop) (p : PlanV) (c_0 : Int) (c : List Int) (c_n c_c : Nat) (v5 : Int) : Cont := loopK 1 (ivz17_1 p c_0 c c_n c_c) (muz17_1 p c_0 c c_n c_c) (liz17_1 p c_0 c c_n c_c) (ljz17_1 p c_0 c c_n c_c) v5 (kkz17_0 w0 fp ρi Kf p c_0 c c_n c_c)
def kkz17_2 (w0 : World) (fp : Nat -> Nat -> Prop) (ρi : Rho) (Kf : SVal -> Heap -> Prop) (p : PlanV) (c_0 : Int) (c : List Int) (c_n c_c : Nat) (v5 : Int) : Cont := blockK 1 (fun e H => SemL Try.prog w0 fp ρi 1 45 [cz17_n14] e H (kkz17_1 w0 fp ρi Kf p c_0 c c_n c_c v5)) (kkz17_1 w0 fp ρi Kf p c_0 c c_n c_c v5)
theorem rz17_2 (p : PlanV) (c_0 : Int) (c : List Int) (c_n c_c : Nat) (v5 : Int) (Z : Env -> Heap -> Prop) (h : Z Yh11 (Yh8 c_n c)) : EvC Gq7Wrong cz17_n11 [] (Yh8 c_n c) [4] [0] Z := EvC.of (by kernel_rfl) h
theorem rtz17_2 (p : PlanV) (c_0 : Int) (c : List Int) (c_n c_c : Nat) : RetC Rq7Wrong Yh11 (Yh8 c_n c) (.int .i64 1) := RetC.of (fun Z => by kernel_rfl)
def vz17_2 (p : PlanV) (c_0 : Int) (c : List Int) (c_n c_c : Nat) (v5 : Int) : Prop := 1 = (PlanV.wrongC p c_0 c)
theorem pz17_2 (p : PlanV) (c_0 : Int) (c : List Int) (c_n c_c : Nat) (hK : (Yh10 Kf p c_0 c c_n)) (v5 : Int) (h : vz17_2 p c_0 c c_n c_c v5) : SemL Try.prog w0 fp ρi 1 45 [cz17_n11, .ret] [] (Yh8 c_n c) (kkz17_2 w0 fp ρi Kf p c_0 c c_n c_c v5) :=
  L_regE hGq7Wrong (rz17_2 p c_0 c c_n c_c v5 _ (L_retE (R := Rq7Wrong) (m := 1) (Kf := Kf) (fun _ _ h => h) (rtz17_2 p c_0 c c_n c_c) (ret_of0 (Eq.mpr (cg1 (fun (z1 : Int) => Ret0 1 Kf (.int .i64 z1) (Yh8 c_n c)) h) (ret0_tau [] [0] rfl (by kernel_rfl) rfl pbd (hsc pcs heapSub_nil) rfl (by kernel_rfl) (hK))))))
abbrev Yh12 (x0 : Nat) (x1 : List Int) (x2 : PlanV) (x3 : Int) (x4 : Nat) : Heap := ⟨3, [(0, some ⟨false, [.ints .i64 x0 x1], 0⟩), (1, some ⟨true, (PlanV.cs x2), 0⟩), (2, some ⟨true, [.one (.int .u64 x3), .one (.slice ⟨0, 0, 0, 1⟩ x0 x4)], 0⟩)]⟩
abbrev Yh13 (x0 : Int) : Env := [(2, some (.ptr ⟨1, 0, 0, 1⟩ 46)), (3, some (.ptr ⟨2, 0, 0, 1⟩ 2)), (5, some (.int .i64 x0))]
theorem rz17_3 (p : PlanV) (c_0 : Int) (c : List Int) (c_n c_c : Nat) (v5 : Int) (Z : Env -> Heap -> Prop) (h : Z [(2, some (.ptr ⟨1, 0, 0, 1⟩ 46)), (3, some (.ptr ⟨2, 0, 0, 1⟩ 2)), (5, some (.int .i64 (IntKind.i64.wrap (v5 + 1))))] (Yh12 c_n c p c_0 c_c)) : EvC Gq7Wrong cz17_n14 (Yh13 v5) (Yh12 c_n c p c_0 c_c) [2, 3, 5] [0, 1, 2] Z := EvC.of (by kernel_rfl) h
def vz17_3 (p : PlanV) (c_0 : Int) (c : List Int) (c_n c_c : Nat) (v5 : Int) : Prop := (p.right = true /\ c_0 <= p.major /\ (c_n : Int) = p.lines /\ 0 <= (IntKind.i64.wrap (v5 + 1)) /\ (IntKind.i64.wrap (v5 + 1)) <= (c_n : Int) /\ (List.take (Int.toNat (IntKind.i64.wrap (v5 + 1))) c).any (fun x => decide (x < 0) || decide (p.top < x)) = false) /\ ((((c_n : Int) - (IntKind.i64.wrap (v5 + 1))).toNat) < (((c_n : Int) - v5).toNat))
theorem pz17_3 (p : PlanV) (c_0 : Int) (c : List Int) (c_n c_c : Nat) (hK : (Yh10 Kf p c_0 c c_n)) (v5 : Int) (h : vz17_3 p c_0 c c_n c_c v5) : SemL Try.prog w0 fp ρi 1 45 [cz17_n14] (Yh13 v5) (Yh12 c_n c p c_0 c_c) (kkz17_1 w0 fp ρi Kf p c_0 c c_n c_c v5) :=
  L_regE hGq7Wrong (rz17_3 p c_0 c c_n c_c v5 _ (L_nil (loop_back (x' := (IntKind.i64.wrap (v5 + 1))) (τ := tau []) h.1 h.2 (sub_tau' [] [0, 1, 2] rfl rfl (esc bpt (esc bpt (esc pbd envSub_nil))) (hsc pcs (hsc pcs (hsc (bdCs_one pbd (bdCs_one bsl bdCs_nil)) heapSub_nil))) (by kernel_rfl) rfl))))
def vz17_4 (p : PlanV) (c_0 : Int) (c : List Int) (c_n c_c : Nat) (v5 : Int) : Prop := (((decide ((List.getD c (0 + (Int.toNat v5)) 0) < 0)) || (decide ((PlanV.top p) < (List.getD c (0 + (Int.toNat v5)) 0)))) = true -> (vz17_2 p c_0 c c_n c_c v5)) /\ (((decide ((List.getD c (0 + (Int.toNat v5)) 0) < 0)) || (decide ((PlanV.top p) < (List.getD c (0 + (Int.toNat v5)) 0)))) = false -> (vz17_3 p c_0 c c_n c_c v5))
theorem pz17_4 (p : PlanV) (c_0 : Int) (c : List Int) (c_n c_c : Nat) (hK : (Yh10 Kf p c_0 c c_n)) (v5 : Int) (h : vz17_4 p c_0 c c_n c_c v5) : SemL Try.prog w0 fp ρi 1 45 [cz17_n12] [(2, some (.ptr ⟨1, 0, 0, 1⟩ 46)), (3, some (.ptr ⟨2, 0, 0, 1⟩ 2)), (5, some (.int .i64 v5)), (44, some (.bool ((decide ((List.getD c (0 + (Int.toNat v5)) 0) < 0)) || (decide ((PlanV.top p) < (List.getD c (0 + (Int.toNat v5)) 0))))))] (Yh12 c_n c p c_0 c_c) (kkz17_2 w0 fp ρi Kf p c_0 c c_n c_c v5) :=
  L_cond (q := ((decide ((List.getD c (0 + (Int.toNat v5)) 0) < 0)) || (decide ((PlanV.top p) < (List.getD c (0 + (Int.toNat v5)) 0))))) (by kernel_rfl) (fun hq => (L_seq (lpk [] [0] (pz17_2 p c_0 c c_n c_c hK v5 (h.1 hq))))) (fun hq => (L_skip (L_nil (lpk [2, 3, 5] [0, 1, 2] (pz17_3 p c_0 c c_n c_c hK v5 (h.2 hq))))))
theorem rz17_5 (p : PlanV) (c_0 : Int) (c : List Int) (c_n c_c : Nat) (v5 : Int) (Z : Env -> Heap -> Prop) (h : ((0 <= v5)) /\ ((v5 < ((c_n : Nat) : Int))) /\ (((0 + (Int.toNat v5)) < c_n)) /\ ∃ qq'1 : Bool, ((decide ((List.getD c (0 + (Int.toNat v5)) 0) < 0)) = false -> ((0 <= v5)) /\ ((v5 < ((c_n : Nat) : Int))) /\ (((0 + (Int.toNat v5)) < c_n)) /\ ((SVal.bd 3 (.int .i64 (PlanV.top p)))) /\ ((PlanV.right p = true) /\ ((.int .i64 (PlanV.top p) : SVal) = .int .i64 (PlanV.top p)) /\ (keeps (Yh12 c_n c p c_0 c_c) (Yh12 c_n c p c_0 c_c) [(0, some ⟨false, [.ints .i64 c_n c], 0⟩), (1, some ⟨true, (PlanV.cs p), 0⟩), (2, some ⟨true, [.one (.int .u64 c_0), .one (.slice ⟨0, 0, 0, 1⟩ c_n c_c)], 0⟩)])) /\ (decide ((PlanV.top p) < (List.getD c (0 + (Int.toNat v5)) 0))) = qq'1) /\ ((decide ((List.getD c (0 + (Int.toNat v5)) 0) < 0)) = true -> true = qq'1) /\ Z [(2, some (.ptr ⟨1, 0, 0, 1⟩ 46)), (3, some (.ptr ⟨2, 0, 0, 1⟩ 2)), (5, some (.int .i64 v5)), (44, some (.bool qq'1))] (Yh12 c_n c p c_0 c_c)) : EvQC Gq7Wrong cz17_n10i [.int .i64 (PlanV.top p)] (Yh13 v5) (Yh12 c_n c p c_0 c_c) [2, 3, 5, 44] [0, 1, 2] Z := EvQC.of (by kernel_rfl) h
def vz17_5 (p : PlanV) (c_0 : Int) (c : List Int) (c_n c_c : Nat) (v5 : Int) : Prop := ((0 <= v5)) /\ (((v5 < ((c_n : Nat) : Int))) /\ ((((0 + (Int.toNat v5)) < c_n)) /\ (((decide ((List.getD c (0 + (Int.toNat v5)) 0) < 0)) = false -> (((0 <= v5)) /\ (((v5 < ((c_n : Nat) : Int))) /\ ((((0 + (Int.toNat v5)) < c_n)) /\ ((PlanV.right p = true)))))) /\ (vz17_4 p c_0 c c_n c_c v5))))
theorem pz17_5 (p : PlanV) (c_0 : Int) (c : List Int) (c_n c_c : Nat) (hK : (Yh10 Kf p c_0 c c_n)) (v5 : Int) (h : vz17_5 p c_0 c c_n c_c v5) : SemL Try.prog w0 fp ρi 1 45 [cz17_n10, cz17_n12] (Yh13 v5) (Yh12 c_n c p c_0 c_c) (kkz17_2 w0 fp ρi Kf p c_0 c c_n c_c v5) :=
  L_regQE hGq7Wrong (its := cz17_n10i) (rz17_5 p c_0 c c_n c_c v5 _ ⟨h.1, ⟨h.2.1, ⟨h.2.2.1, ⟨((decide ((List.getD c (0 + (Int.toNat v5)) 0) < 0)) || (decide ((PlanV.top p) < (List.getD c (0 + (Int.toNat v5)) 0)))), fun hc_qq_1 => ⟨(h.2.2.2.1 hc_qq_1).1, ⟨(h.2.2.2.1 hc_qq_1).2.1, ⟨(h.2.2.2.1 hc_qq_1).2.2.1, ⟨(plainR_ren (τ := whole) (by kernel_rfl)).2, ⟨⟨(h.2.2.2.1 hc_qq_1).2.2.2, rfl, (keeps_refl _)⟩, (qo1 hc_qq_1)⟩⟩⟩⟩⟩, fun hc_qq_1 => qo2 hc_qq_1, (pz17_4 p c_0 c c_n c_c hK v5 h.2.2.2.2)⟩⟩⟩⟩)
def vz17_6 (p : PlanV) (c_0 : Int) (c : List Int) (c_n c_c : Nat) (v5 : Int) : Prop := vz17_5 p c_0 c c_n c_c v5
theorem pz17_6 (p : PlanV) (c_0 : Int) (c : List Int) (c_n c_c : Nat) (hK : (Yh10 Kf p c_0 c c_n)) (v5 : Int) (h : vz17_6 p c_0 c c_n c_c v5) : SemL Try.prog w0 fp ρi 1 45 [cz17_n13, cz17_n14] (Yh13 v5) (Yh12 c_n c p c_0 c_c) (kkz17_1 w0 fp ρi Kf p c_0 c c_n c_c v5) :=
  L_block (L_seq (pz17_5 p c_0 c c_n c_c hK v5 h))
theorem rz17_7 (p : PlanV) (c_0 : Int) (c : List Int) (c_n c_c : Nat) (Z : Env -> Heap -> Prop) (h : Z [(4, some (.int .i64 0))] (Yh8 c_n c)) : EvC Gq7Wrong cz17_n17 [] (Yh8 c_n c) [4] [0] Z := EvC.of (by kernel_rfl) h
theorem rtz17_3 (p : PlanV) (c_0 : Int) (c : List Int) (c_n c_c : Nat) : RetC Rq7Wrong [(4, some (.int .i64 0))] (Yh8 c_n c) (.int .i64 0) := RetC.of (fun Z => by kernel_rfl)
def vz17_7 (p : PlanV) (c_0 : Int) (c : List Int) (c_n c_c : Nat) : Prop := 0 = (PlanV.wrongC p c_0 c)
theorem pz17_7 (p : PlanV) (c_0 : Int) (c : List Int) (c_n c_c : Nat) (hK : (Yh10 Kf p c_0 c c_n)) (h : vz17_7 p c_0 c c_n c_c) : SemL Try.prog w0 fp ρi 1 45 [cz17_n17, .ret] [] (Yh8 c_n c) (fnK Rq7Wrong 1 Kf) :=
  L_regE hGq7Wrong (rz17_7 p c_0 c c_n c_c _ (L_retE (R := Rq7Wrong) (m := 1) (Kf := Kf) (fun _ _ h => h) (rtz17_3 p c_0 c c_n c_c) (ret_of0 (Eq.mpr (cg1 (fun (z1 : Int) => Ret0 1 Kf (.int .i64 z1) (Yh8 c_n c)) h) (ret0_tau [] [0] rfl (by kernel_rfl) rfl pbd (hsc pcs heapSub_nil) rfl (by kernel_rfl) (hK))))))
def vz17_8 (p : PlanV) (c_0 : Int) (c : List Int) (c_n c_c : Nat) (v5 : Int) : Prop := ((decide (v5 < ((c_n : Nat) : Int))) = true -> (vz17_6 p c_0 c c_n c_c v5)) /\ ((decide (v5 < ((c_n : Nat) : Int))) = false -> (vz17_7 p c_0 c c_n c_c))
abbrev Yh14 (x0 : Int) (x1 : Nat) : Env := [(2, some (.ptr ⟨1, 0, 0, 1⟩ 46)), (3, some (.ptr ⟨2, 0, 0, 1⟩ 2)), (5, some (.int .i64 x0)), (26, some (.bool (decide (x0 < ((x1 : Nat) : Int)))))]
theorem pz17_8 (p : PlanV) (c_0 : Int) (c : List Int) (c_n c_c : Nat) (hK : (Yh10 Kf p c_0 c c_n)) (v5 : Int) (h : vz17_8 p c_0 c c_n c_c v5) : SemL Try.prog w0 fp ρi 1 45 [cz17_n9, (.seq cz17_n13 cz17_n14)] (Yh14 v5 c_n) (Yh12 c_n c p c_0 c_c) (kkz17_1 w0 fp ρi Kf p c_0 c c_n c_c v5) :=
  L_cond (q := (decide (v5 < ((c_n : Nat) : Int)))) (by kernel_rfl) (fun hq => (L_skip (lpk [2, 3, 5] [0, 1, 2] (L_seq (pz17_6 p c_0 c c_n c_c hK v5 (h.1 hq)))))) (fun hq => (L_exit (lpk [] [0] (L_seq (pz17_7 p c_0 c c_n c_c hK (h.2 hq))))))
theorem rz17_9 (p : PlanV) (c_0 : Int) (c : List Int) (c_n c_c : Nat) (v5 : Int) (Z : Env -> Heap -> Prop) (h : Z (Yh14 v5 c_n) (Yh12 c_n c p c_0 c_c)) : EvC Gq7Wrong cz17_n8 (Yh13 v5) (Yh12 c_n c p c_0 c_c) [2, 3, 5, 26] [0, 1, 2] Z := EvC.of (by kernel_rfl) h
def vz17_9 (p : PlanV) (c_0 : Int) (c : List Int) (c_n c_c : Nat) (v5 : Int) : Prop := vz17_8 p c_0 c c_n c_c v5
theorem pz17_9 (p : PlanV) (c_0 : Int) (c : List Int) (c_n c_c : Nat) (hK : (Yh10 Kf p c_0 c c_n)) (v5 : Int) (h : vz17_9 p c_0 c c_n c_c v5) : SemL Try.prog w0 fp ρi 1 45 [cz17_n8, cz17_n9, (.seq cz17_n13 cz17_n14)] (Yh13 v5) (Yh12 c_n c p c_0 c_c) (kkz17_1 w0 fp ρi Kf p c_0 c c_n c_c v5) :=
  L_regE hGq7Wrong (rz17_9 p c_0 c c_n c_c v5 _ (pz17_8 p c_0 c c_n c_c hK v5 h))
def vz17_10 (p : PlanV) (c_0 : Int) (c : List Int) (c_n c_c : Nat) : Prop := (p.right = true /\ c_0 <= p.major /\ (c_n : Int) = p.lines /\ 0 <= (0 : Int) /\ (0 : Int) <= (c_n : Int) /\ (List.take (Int.toNat (0 : Int)) c).any (fun x => decide (x < 0) || decide (p.top < x)) = false) /\ (∀ (v5 : Int), (p.right = true /\ c_0 <= p.major /\ (c_n : Int) = p.lines /\ 0 <= v5 /\ v5 <= (c_n : Int) /\ (List.take (Int.toNat v5) c).any (fun x => decide (x < 0) || decide (p.top < x)) = false) -> (vz17_9 p c_0 c c_n c_c v5))
abbrev Yh15 : Env := [(2, some (.ptr ⟨1, 0, 0, 1⟩ 46)), (3, some (.ptr ⟨2, 0, 0, 1⟩ 2)), (5, some (.int .i64 0))]
theorem pz17_10 (p : PlanV) (c_0 : Int) (c : List Int) (c_n c_c : Nat) (hK : (Yh10 Kf p c_0 c c_n)) (h : vz17_10 p c_0 c c_n c_c) : SemL Try.prog w0 fp ρi 1 45 [cz17_n15] Yh15 (Yh12 c_n c p c_0 c_c) (kkz17_0 w0 fp ρi Kf p c_0 c c_n c_c) :=
  L_loop (ivz17_1 p c_0 c c_n c_c) (muz17_1 p c_0 c c_n c_c) (liz17_1 p c_0 c c_n c_c) (ljz17_1 p c_0 c c_n c_c) ⟨0, tau [], h.1, (sub_tau' [] [0, 1, 2] rfl rfl (esc bpt (esc bpt (esc pbd envSub_nil))) (hsc pcs (hsc pcs (hsc (bdCs_one pbd (bdCs_one bsl bdCs_nil)) heapSub_nil))) (by kernel_rfl) rfl)⟩ (fun s => match s with | v5 => fun hi => (L_seq (L_seq (pz17_9 p c_0 c c_n c_c hK v5 (h.2 v5 hi)))))
def vz17_11 (p : PlanV) (c_0 : Int) (c : List Int) (c_n c_c : Nat) : Prop := vz17_10 p c_0 c c_n c_c
theorem pz17_11 (p : PlanV) (c_0 : Int) (c : List Int) (c_n c_c : Nat) (hK : (Yh10 Kf p c_0 c c_n)) (h : vz17_11 p c_0 c c_n c_c) : SemL Try.prog w0 fp ρi 1 45 [cz17_n16, (.seq cz17_n17 .ret)] Yh15 (Yh12 c_n c p c_0 c_c) (fnK Rq7Wrong 1 Kf) :=
  L_block (pz17_10 p c_0 c c_n c_c hK h)
abbrev Yh16 : Env := [(2, some (.ptr ⟨1, 0, 0, 1⟩ 46)), (3, some (.ptr ⟨2, 0, 0, 1⟩ 2))]
theorem rz17_12 (p : PlanV) (c_0 : Int) (c : List Int) (c_n c_c : Nat) (Z : Env -> Heap -> Prop) (h : Z Yh15 (Yh12 c_n c p c_0 c_c)) : EvC Gq7Wrong cz17_n7 Yh16 (Yh12 c_n c p c_0 c_c) [2, 3, 5] [0, 1, 2] Z := EvC.of (by kernel_rfl) h
def vz17_12 (p : PlanV) (c_0 : Int) (c : List Int) (c_n c_c : Nat) : Prop := vz17_11 p c_0 c c_n c_c
theorem pz17_12 (p : PlanV) (c_0 : Int) (c : List Int) (c_n c_c : Nat) (hK : (Yh10 Kf p c_0 c c_n)) (h : vz17_12 p c_0 c c_n c_c) : SemL Try.prog w0 fp ρi 1 45 [cz17_n7, cz17_n16, (.seq cz17_n17 .ret)] Yh16 (Yh12 c_n c p c_0 c_c) (fnK Rq7Wrong 1 Kf) :=
  L_regE hGq7Wrong (rz17_12 p c_0 c c_n c_c _ (pz17_11 p c_0 c c_n c_c hK h))
def vz17_13 (p : PlanV) (c_0 : Int) (c : List Int) (c_n c_c : Nat) : Prop := (((decide (p.major < c_0)) || (((c_n : Nat) : Int) != p.lines)) = true -> (vz17_1 p c_0 c c_n c_c)) /\ (((decide (p.major < c_0)) || (((c_n : Nat) : Int) != p.lines)) = false -> (vz17_12 p c_0 c c_n c_c))
theorem pz17_13 (p : PlanV) (c_0 : Int) (c : List Int) (c_n c_c : Nat) (hK : (Yh10 Kf p c_0 c c_n)) (h : vz17_13 p c_0 c c_n c_c) : SemL Try.prog w0 fp ρi 1 45 [cz17_n6, (.seq (.seq cz17_n7 cz17_n16) (.seq cz17_n17 .ret))] [(2, some (.ptr ⟨1, 0, 0, 1⟩ 46)), (3, some (.ptr ⟨2, 0, 0, 1⟩ 2)), (21, some (.bool ((decide (p.major < c_0)) || (((c_n : Nat) : Int) != p.lines))))] (Yh12 c_n c p c_0 c_c) (fnK Rq7Wrong 1 Kf) :=
  L_cond (q := ((decide (p.major < c_0)) || (((c_n : Nat) : Int) != p.lines))) (by kernel_rfl) (fun hq => (L_seq (lpk [] [0] (pz17_1 p c_0 c c_n c_c hK (h.1 hq))))) (fun hq => (L_skip (lpk [2, 3] [0, 1, 2] (L_seq (L_seq (pz17_12 p c_0 c c_n c_c hK (h.2 hq)))))))
theorem rz17_14 (p : PlanV) (c_0 : Int) (c : List Int) (c_n c_c : Nat) (Z : Env -> Heap -> Prop) (h : ∃ qq : Bool, ((decide (p.major < c_0)) = false -> (keeps (Yh12 c_n c p c_0 c_c) (Yh12 c_n c p c_0 c_c) [(0, some ⟨false, [.ints .i64 c_n c], 0⟩), (1, some ⟨true, (PlanV.cs p), 0⟩), (2, some ⟨true, [.one (.int .u64 c_0), .one (.slice ⟨0, 0, 0, 1⟩ c_n c_c)], 0⟩)]) /\ (((c_n : Nat) : Int) != p.lines) = qq) /\ ((decide (p.major < c_0)) = true -> true = qq) /\ Z [(2, some (.ptr ⟨1, 0, 0, 1⟩ 46)), (3, some (.ptr ⟨2, 0, 0, 1⟩ 2)), (21, some (.bool qq))] (Yh12 c_n c p c_0 c_c)) : EvC Gq7Wrong cz17_n4 Yh16 (Yh12 c_n c p c_0 c_c) [2, 3, 21] [0, 1, 2] Z := EvC.of (by kernel_rfl) h
def vz17_14 (p : PlanV) (c_0 : Int) (c : List Int) (c_n c_c : Nat) : Prop := vz17_13 p c_0 c c_n c_c
theorem pz17_14 (p : PlanV) (c_0 : Int) (c : List Int) (c_n c_c : Nat) (hK : (Yh10 Kf p c_0 c c_n)) (h : vz17_14 p c_0 c c_n c_c) : SemL Try.prog w0 fp ρi 1 45 [cz17_n4, cz17_n6, (.seq (.seq cz17_n7 cz17_n16) (.seq cz17_n17 .ret))] Yh16 (Yh12 c_n c p c_0 c_c) (fnK Rq7Wrong 1 Kf) :=
  L_regE hGq7Wrong (rz17_14 p c_0 c c_n c_c _ ⟨((decide (p.major < c_0)) || (((c_n : Nat) : Int) != p.lines)), fun hc_qq => ⟨(keeps_refl _), (qo1 hc_qq)⟩, fun hc_qq => qo2 hc_qq, (pz17_13 p c_0 c c_n c_c hK h)⟩)
def vz17_15 (p : PlanV) (c_0 : Int) (c : List Int) (c_n c_c : Nat) : Prop := ((!(PlanV.right p)) = true -> (vz17_0 p c_0 c c_n c_c)) /\ ((!(PlanV.right p)) = false -> (vz17_14 p c_0 c c_n c_c))
abbrev Yh17 (x0 : PlanV) : Env := [(2, some (.ptr ⟨1, 0, 0, 1⟩ 46)), (3, some (.ptr ⟨2, 0, 0, 1⟩ 2)), (8, some (.bool (!(PlanV.right x0))))]
theorem pz17_15 (p : PlanV) (c_0 : Int) (c : List Int) (c_n c_c : Nat) (hK : (Yh10 Kf p c_0 c c_n)) (h : vz17_15 p c_0 c c_n c_c) : SemL Try.prog w0 fp ρi 1 45 [cz17_n3, (.seq (.seq cz17_n4 cz17_n6) (.seq (.seq cz17_n7 cz17_n16) (.seq cz17_n17 .ret)))] (Yh17 p) (Yh12 c_n c p c_0 c_c) (fnK Rq7Wrong 1 Kf) :=
  L_cond (q := (!(PlanV.right p))) (by kernel_rfl) (fun hq => (L_seq (lpk [] [0] (pz17_0 p c_0 c c_n c_c hK (h.1 hq))))) (fun hq => (L_skip (lpk [2, 3] [0, 1, 2] (L_seq (L_seq (pz17_14 p c_0 c c_n c_c hK (h.2 hq)))))))
theorem rz17_16 (p : PlanV) (c_0 : Int) (c : List Int) (c_n c_c : Nat) (Z : Env -> Heap -> Prop) (h : (True) /\ Z (Yh17 p) (Yh12 c_n c p c_0 c_c)) : EvC Gq7Wrong cz17_n1 Yh16 (Yh12 c_n c p c_0 c_c) [2, 3, 8] [0, 1, 2] Z := EvC.of (by kernel_rfl) h
def vz17_16 (p : PlanV) (c_0 : Int) (c : List Int) (c_n c_c : Nat) : Prop := vz17_15 p c_0 c c_n c_c
theorem pz17_16 (p : PlanV) (c_0 : Int) (c : List Int) (c_n c_c : Nat) (hK : (Yh10 Kf p c_0 c c_n)) (h : vz17_16 p c_0 c c_n c_c) : SemL Try.prog w0 fp ρi 1 45 [cz17_n1, cz17_n3, (.seq (.seq cz17_n4 cz17_n6) (.seq (.seq cz17_n7 cz17_n16) (.seq cz17_n17 .ret)))] Yh16 (Yh12 c_n c p c_0 c_c) (fnK Rq7Wrong 1 Kf) :=
  L_regE hGq7Wrong (rz17_16 p c_0 c c_n c_c _ ⟨True.intro, (pz17_15 p c_0 c c_n c_c hK h)⟩)
abbrev Yh18 (x0 : PlanV) (x1 : Int) (x2 x3 : Nat) : Env := [(0, some (.agg (PlanV.cs x0))), (1, some (.agg [.one (.int .u64 x1), .one (.slice ⟨0, 0, 0, 1⟩ x2 x3)]))]
theorem rz17_17 (p : PlanV) (c_0 : Int) (c : List Int) (c_n c_c : Nat) (Z : Env -> Heap -> Prop) (h : Z Yh16 (Yh12 c_n c p c_0 c_c)) : EvC Gq7Wrong cz17_n0 (Yh18 p c_0 c_n c_c) (Yh9 c_n c) [2, 3] [0, 1, 2] Z := EvC.of (by kernel_rfl) h
def vz17_17 (p : PlanV) (c_0 : Int) (c : List Int) (c_n c_c : Nat) : Prop := vz17_16 p c_0 c c_n c_c
theorem pz17_17 (p : PlanV) (c_0 : Int) (c : List Int) (c_n c_c : Nat) (hK : (Yh10 Kf p c_0 c c_n)) (h : vz17_17 p c_0 c c_n c_c) : SemL Try.prog w0 fp ρi 1 45 [cz17_n0, (.seq (.seq cz17_n1 cz17_n3) (.seq (.seq cz17_n4 cz17_n6) (.seq (.seq cz17_n7 cz17_n16) (.seq cz17_n17 .ret))))] (Yh18 p c_0 c_n c_c) (Yh9 c_n c) (fnK Rq7Wrong 1 Kf) :=
  L_regE hGq7Wrong (rz17_17 p c_0 c c_n c_c _ (L_seq (L_seq (pz17_16 p c_0 c c_n c_c hK h))))
def vcq7Wrong (p : PlanV) (c_0 : Int) (c : List Int) (c_n c_c : Nat) : Prop := vz17_17 p c_0 c c_n c_c
theorem wq7Wrong (p : PlanV) (c_0 : Int) (c : List Int) (c_n c_c : Nat) (hK : (Yh10 Kf p c_0 c c_n)) (h : vcq7Wrong p c_0 c c_n c_c) : SemL Try.prog w0 fp ρi 1 45 [cq7Wrong] (Yh18 p c_0 c_n c_c) (Yh9 c_n c) (fnK Rq7Wrong 1 Kf) :=
  (L_seq (pz17_17 p c_0 c c_n c_c hK h))
end
theorem okq7Wrong (p : PlanV) (c_0 : Int) (c : List Int) (c_n c_c : Nat) (hpre : (List.length c = c_n /\ c_n <= c_c /\ c_n <= 1000000)) : vcq7Wrong p c_0 c c_n c_c := by
  unfold vcq7Wrong vz17_17 vz17_16 vz17_15 vz17_14 vz17_13 vz17_12 vz17_11 vz17_10 vz17_9 vz17_8 vz17_7 vz17_6 vz17_5 vz17_4 vz17_3 vz17_2 vz17_1 vz17_0
  obtain ⟨hl, -, hl2⟩ := hpre
  refine ⟨fun h => ?_, fun h => ?_⟩
  · have h := not_t h
    unfold PlanV.wrongC
    rw [if_neg (by rw [h]; decide)]
  have hr := not_f h
  have w1 : (p.major < c_0 ∨ (c.length : Int) ≠ p.lines ∨ c.any (fun x => decide (x < 0) || decide (p.top < x)) = true) -> 1 = p.wrongC c_0 c := fun h => by
    unfold PlanV.wrongC; rw [if_pos hr, if_pos h]
  refine ⟨fun h => ?_, fun h => ?_⟩
  · simp only [Bool.or_eq_true, decide_eq_true_eq, bne_iff_ne, ne_eq] at h
    exact w1 (by rw [hl]; rcases h with h | h; exact .inl h; exact .inr (.inl h))
  simp only [Bool.or_eq_false_iff, decide_eq_false_iff_not, bne_eq_false_iff_eq] at h
  refine ⟨⟨hr, by omega, h.2, by omega, by omega, by simp⟩, ?_⟩
  rintro i ⟨-, -, -, h0, h1, ha⟩
  refine ⟨fun hlt => ?_, fun hge => ?_⟩
  · have hlt := of_decide_eq_true hlt
    have e1 : IntKind.i64.wrap (i + 1) = i + 1 := by rw [wi64]; omega
    have e2 : (i + 1).toNat = i.toNat + 1 := by omega
    rw [Nat.zero_add, e1, e2, take_succ_getD (by omega), List.any_append, ha]
    refine ⟨h0, hlt, by omega, fun _ => ⟨h0, hlt, by omega, hr⟩, fun hb => w1 (.inr (.inr ?_)), fun hb => ⟨⟨hr, by omega, h.2, by omega, by omega, ?_⟩, by omega⟩⟩
    · rw [List.any_eq_true]
      refine ⟨c.getD i.toNat 0, ?_, hb⟩
      rw [List.getD_eq_getElem?_getD, List.getElem?_eq_getElem (by omega)]
      exact List.getElem_mem _
    · simp only [List.any_cons, List.any_nil, Bool.or_false, Bool.false_or]; exact hb
  · have hge := of_decide_eq_false hge
    rw [List.take_of_length_le (by omega)] at ha
    unfold PlanV.wrongC
    rw [if_pos hr, if_neg (by rw [hl, ha]; simp; omega)]
theorem sq7Wrong : Sound Try.prog 17 (gS Dq7Wrong) := by
  refine fn_soundA cq7Wrong_fits ?_
  intro args H K h
  obtain ⟨pre, out, hD, hpre, hK⟩ := gS_inv h
  unfold Dq7Wrong at hD
  split at hD
  · obtain ⟨hb, hD⟩ := bif_some hD
    simp only [Bool.and_eq_true] at hb
    obtain ⟨h0, h1⟩ := hb
    obtain rfl := Nat.eq_of_beq_eq_true h0
    obtain rfl := Nat.eq_of_beq_eq_true h1
    cases hD
    obtain ⟨rfl, hpre⟩ := hpre
    exact ⟨rfl, fun w0 fp ρi => wq7Wrong (PlanV.mk _ _ _ _ _ _ _ _ _ _ _ _ _ _ _ _) _ _ _ _ hK (okq7Wrong (PlanV.mk _ _ _ _ _ _ _ _ _ _ _ _ _ _ _ _) _ _ _ _ hpre)⟩
  · cases hD
end Go.Proofs.Ytggpebgigddogaa
