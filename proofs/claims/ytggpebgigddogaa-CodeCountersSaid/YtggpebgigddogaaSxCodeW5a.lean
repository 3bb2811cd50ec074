/- Part of the proof: SxCodeW5a. -/
import Derived.Test.YtggpebgigddogaaSxBitsP
import Derived.Test.YtggpebgigddogaaSxPlanP
import Derived.Test.YtggpebgigddogaaSxCodeN
import Derived.KernelRfl
set_option linter.unusedVariables false
set_option linter.unusedSimpArgs false
namespace Go.Proofs.Ytggpebgigddogaa
open Go.Sx
def PcTop : PSpec := fun args => match args with
  | [.agg [.one (.int .i64 p_0), .one (.int .i64 p_1), .one (.int .i64 p_2), .one (.int .i64 p_3), .one (.int .i64 p_4), .one (.int .i64 p_5), .one (.int .u64 p_6), .one (.int .i64 p_7), .one (.int .i64 p_8), .one (.int .i64 p_9), .one (.int .i64 p_10), .one (.int .i64 p_11), .one (.int .i64 p_12), .one (.int .i64 p_13), .ints .u8 p_14_n p_14, .ints .u8 p_15_n p_15]] => bif Nat.beq p_14_n 16 && Nat.beq p_15_n 16 then some ((PlanV.right (PlanV.mk p_0 p_1 p_2 p_3 p_4 p_5 p_6 p_7 p_8 p_9 p_10 p_11 p_12 p_13 p_14 p_15) = true), .int .i64 (PlanV.top (PlanV.mk p_0 p_1 p_2 p_3 p_4 p_5 p_6 p_7 p_8 p_9 p_10 p_11 p_12 p_13 p_14 p_15))) else none
  | _ => none
def pccTop : PCon := ⟨41, PcTop⟩
def cz41_n0 : ACode := .reg (.op (some 1) (.box (.tm 0)) (.op (some 2) (.mov (.cn (.int .i64 0))) .nil))
def cz41_n1 : ACode := .reg (.op (some 3) (.fieldAddr (.tm 1) 5 1) (.op (some 4) (.load1 (.tm 3)) (.op (some 5) (.bin .shl (.cn (.int .i64 1)) (.tm 4)) (.op (some 6) (.bin .sub (.tm 5) (.cn (.int .i64 1))) (.op (some 2) (.mov (.tm 6)) .nil)))))
def ccTop : ACode := (.seq cz41_n0 (.seq cz41_n1 .ret))
def RcTop : Res := .one (.tm 2)
theorem ccTop_fits : fnFits Try.prog 41 1 7 ccTop RcTop = true := by kernel_rfl
def GcTop : Calls' := withP [] []
theorem hGcTop : CallOk Try.prog GcTop := withP_ok trivial trivial
section
variable {w0 : World} {fp : Nat -> Nat -> Prop} {ρi : Rho} {Kf : SVal -> Heap -> Prop}
abbrev Yd0 (x0 : PlanV) : Env := [(2, some (.int .i64 (IntKind.i64.wrap ((ishl .i64 1 x0.minor) - 1))))]
abbrev Yd1 : Env := [(1, some (.ptr ⟨0, 0, 0, 1⟩ 46))]
abbrev Yd2 (x0 : PlanV) : Heap := ⟨1, [(0, some ⟨true, (PlanV.cs x0), 0⟩)]⟩
theorem rz41_0 (p : PlanV) (Z : Env -> Heap -> Prop) (h : ((0 <= p.minor)) /\ Z (Yd0 p) ⟨1, []⟩) : EvC GcTop cz41_n1 Yd1 (Yd2 p) [2] [] Z := EvC.of (by kernel_rfl) h
theorem rtz41_0 (p : PlanV) : RetC RcTop (Yd0 p) ⟨1, []⟩ (.int .i64 (IntKind.i64.wrap ((ishl .i64 1 p.minor) - 1))) := RetC.of (fun Z => by kernel_rfl)
def vz41_0 (p : PlanV) : Prop := ((0 <= p.minor)) /\ ((IntKind.i64.wrap ((ishl .i64 1 p.minor) - 1)) = (PlanV.top p))
theorem pz41_0 (p : PlanV) (hK : Kf (.int .i64 (PlanV.top p)) ⟨0, []⟩) (h : vz41_0 p) : SemL Try.prog w0 fp ρi 0 7 [cz41_n1, .ret] Yd1 (Yd2 p) (fnK RcTop 0 Kf) :=
  L_regE hGcTop (rz41_0 p _ ⟨h.1, (L_retE (R := RcTop) (m := 0) (Kf := Kf) (fun _ _ h => h) (rtz41_0 p) (ret_plain rfl (by kernel_rfl) (cg1 (fun (z1 : Int) => (.int .i64 z1 : SVal)) h.2) hK))⟩)
theorem rz41_1 (p : PlanV) (Z : Env -> Heap -> Prop) (h : Z Yd1 (Yd2 p)) : EvC GcTop cz41_n0 [(0, some (.agg (PlanV.cs p)))] ⟨0, []⟩ [1] [0] Z := EvC.of (by kernel_rfl) h
def vz41_1 (p : PlanV) : Prop := vz41_0 p
theorem pz41_1 (p : PlanV) (hK : Kf (.int .i64 (PlanV.top p)) ⟨0, []⟩) (h : vz41_1 p) : SemL Try.prog w0 fp ρi 0 7 [cz41_n0, (.seq cz41_n1 .ret)] [(0, some (.agg (PlanV.cs p)))] ⟨0, []⟩ (fnK RcTop 0 Kf) :=
  L_regE hGcTop (rz41_1 p _ (L_seq (pz41_0 p hK h)))
def vccTop (p : PlanV) : Prop := vz41_1 p
theorem wcTop (p : PlanV) (hK : Kf (.int .i64 (PlanV.top p)) ⟨0, []⟩) (h : vccTop p) : SemL Try.prog w0 fp ρi 0 7 [ccTop] [(0, some (.agg (PlanV.cs p)))] ⟨0, []⟩ (fnK RcTop 0 Kf) :=
  (L_seq (pz41_1 p hK h))
end
theorem okcTop (p : PlanV) (hpre : (PlanV.right p = true)) : vccTop p := by
  unfold vccTop vz41_1 vz41_0
  have hm := PlanV.minor_le hpre
  refine ⟨hm.1, ?_⟩
  have h2 := PlanV.pow_minor hpre
  have e : ishl .i64 1 p.minor = 2 ^ p.minor.toNat := by
    have hk : IntKind.i64.bits = 64 := rfl
    unfold ishl
    rw [hk, Nat.min_eq_left (by omega), Int.one_mul, wi64]
    omega
  rw [e, wi64]
  unfold PlanV.top
  omega
theorem scTop : Sound Try.prog 41 (pureS PcTop) := by
  refine fn_soundA ccTop_fits ?_
  intro args H K h
  obtain ⟨pre, v, hP, hpre, rfl, hK⟩ := pureS_inv h
  unfold PcTop at hP
  split at hP
  · obtain ⟨hb, hP⟩ := bif_some hP
    simp only [Bool.and_eq_true] at hb
    obtain ⟨h0, h1⟩ := hb
    obtain rfl := Nat.eq_of_beq_eq_true h0
    obtain rfl := Nat.eq_of_beq_eq_true h1
    cases hP
    exact ⟨rfl, fun w0 fp ρi => wcTop (PlanV.mk _ _ _ _ _ _ _ _ _ _ _ _ _ _ _ _) hK (okcTop (PlanV.mk _ _ _ _ _ _ _ _ _ _ _ _ _ _ _ _) hpre)⟩
  · cases hP
def DcR1 : GSpec := fun args H => match args, H with
  | [.int .i64 n, .ptr ⟨0, 0, 0, 1⟩ 46], ⟨1, [(0, some ⟨false, [.one (.int .i64 q_0), .one (.int .i64 q_1), .one (.int .i64 q_2), .one (.int .i64 q_3), .one (.int .i64 q_4), .one (.int .i64 q_5), .one (.int .u64 q_6), .one (.int .i64 q_7), .one (.int .i64 q_8), .one (.int .i64 q_9), .one (.int .i64 q_10), .one (.int .i64 q_11), .one (.int .i64 q_12), .one (.int .i64 q_13), .ints .u8 q_14_n q_14, .ints .u8 q_15_n q_15], 0⟩)]⟩ => bif Nat.beq q_14_n 16 && Nat.beq q_15_n 16 then some ((PlanV.right (PlanV.mk q_0 q_1 q_2 q_3 q_4 q_5 q_6 q_7 q_8 q_9 q_10 q_11 q_12 q_13 q_14 q_15) = true), fun K => K (.bool (badM (PlanV.mk q_0 q_1 q_2 q_3 q_4 q_5 q_6 q_7 q_8 q_9 q_10 q_11 q_12 q_13 q_14 q_15) n)) ⟨1, [(0, some ⟨false, [.one (.int .i64 q_0), .one (.int .i64 q_1), .one (.int .i64 q_2), .one (.int .i64 q_3), .one (.int .i64 q_4), .one (.int .i64 q_5), .one (.int .u64 q_6), .one (.int .i64 q_7), .one (.int .i64 q_8), .one (.int .i64 q_9), .one (.int .i64 q_10), .one (.int .i64 q_11), .one (.int .i64 q_12), .one (.int .i64 q_13), .ints .u8 16 q_14, .ints .u8 16 q_15], 0⟩)]⟩) else none
  | _, _ => none
def concR1 : Con := ⟨63, gS DcR1, [], [], []⟩
def cz63_n0 : ACode := .reg (.op (some 3) (.mov (.cn (.bool false))) .nil)
def cz63_n1 : ACode := .reg (.op (some 4) (.mov (.tm 0)) (.op (some 5) (.bin .lss (.tm 4) (.cn (.int .i64 0))) (.op (some 6) (.mov (.tm 5)) (.grpJ 6 false (.op (some 7) (.mov (.tm 0)) (.op (some 8) (.loadA 46 (.tm 1)) (.op (some 9) (.call 41 [(.tm 8)]) (.op (some 10) (.bin .gtr (.tm 7) (.tm 9)) .nil)))) 11 (.tm 10) (.cn (.bool true)) (.op (some 3) (.mov (.tm 11)) .nil)))))
def ccR1 : ACode := (.seq cz63_n0 (.seq cz63_n1 .ret))
def RcR1 : Res := .one (.tm 3)
theorem ccR1_fits : fnFits Try.prog 63 2 12 ccR1 RcR1 = true := by kernel_rfl
def GcR1 : Calls' := withP [pccTop] []
theorem hGcR1 : CallOk Try.prog GcR1 := withP_ok ⟨scTop, trivial⟩ trivial
section
variable {w0 : World} {fp : Nat -> Nat -> Prop} {ρi : Rho} {Kf : SVal -> Heap -> Prop}
abbrev Yd3 (x0 : PlanV) : Heap := ⟨1, [(0, some ⟨false, (PlanV.cs x0), 0⟩)]⟩
abbrev Yd4 (x0 : Int) : Env := [(0, some (.int .i64 x0)), (1, some (.ptr ⟨0, 0, 0, 1⟩ 46))]
theorem rz63_0 (n : Int) (q : PlanV) (Z : Env -> Heap -> Prop) (h : ∃ qq : Bool, ((decide (n < 0)) = false -> ((PlanV.right q = true)) /\ (keeps (Yd3 q) (Yd3 q) [(0, some ⟨false, (PlanV.cs q), 0⟩)]) /\ (decide ((PlanV.top q) < n)) = qq) /\ ((decide (n < 0)) = true -> true = qq) /\ Z [(3, some (.bool qq))] (Yd3 q)) : EvC GcR1 cz63_n1 (Yd4 n) (Yd3 q) [3] [0] Z := EvC.of (by kernel_rfl) h
theorem rtz63_0 (n : Int) (q : PlanV) : RetC RcR1 [(3, some (.bool ((decide (n < 0)) || (decide ((PlanV.top q) < n)))))] (Yd3 q) (.bool ((decide (n < 0)) || (decide ((PlanV.top q) < n)))) := RetC.of (fun Z => by kernel_rfl)
def vz63_0 (n : Int) (q : PlanV) : Prop := ((decide (n < 0)) = false -> ((PlanV.right q = true))) /\ (((decide (n < 0)) || (decide ((PlanV.top q) < n))) = (badM q n))
abbrev Yd5 (x0 : SVal -> Heap -> Prop) (x1 : PlanV) (x2 : Int) : Prop := x0 (.bool (badM x1 x2)) ⟨1, [(0, some ⟨false, (PlanV.cs x1), 0⟩)]⟩
theorem pz63_0 (n : Int) (q : PlanV) (hK : (Yd5 Kf q n)) (h : vz63_0 n q) : SemL Try.prog w0 fp ρi 1 12 [cz63_n1, .ret] (Yd4 n) (Yd3 q) (fnK RcR1 1 Kf) :=
  L_regE hGcR1 (rz63_0 n q _ ⟨((decide (n < 0)) || (decide ((PlanV.top q) < n))), fun hc_qq => ⟨(h.1 hc_qq), ⟨(keeps_refl _), (qo1 hc_qq)⟩⟩, fun hc_qq => qo2 hc_qq, (L_retE (R := RcR1) (m := 1) (Kf := Kf) (fun _ _ h => h) (rtz63_0 n q) (ret_of0 (Eq.mpr (cg1 (fun (z1 : Bool) => Ret0 1 Kf (.bool z1) (Yd3 q)) h.2) (ret0_tau [] [0] rfl (by kernel_rfl) rfl pbd (hsc pcs heapSub_nil) rfl (by kernel_rfl) (hK)))))⟩)
theorem rz63_1 (n : Int) (q : PlanV) (Z : Env -> Heap -> Prop) (h : Z (Yd4 n) (Yd3 q)) : EvC GcR1 cz63_n0 (Yd4 n) (Yd3 q) [0, 1] [0] Z := EvC.of (by kernel_rfl) h
def vz63_1 (n : Int) (q : PlanV) : Prop := vz63_0 n q
theorem pz63_1 (n : Int) (q : PlanV) (hK : (Yd5 Kf q n)) (h : vz63_1 n q) : SemL Try.prog w0 fp ρi 1 12 [cz63_n0, (.seq cz63_n1 .ret)] (Yd4 n) (Yd3 q) (fnK RcR1 1 Kf) :=
  L_regE hGcR1 (rz63_1 n q _ (L_seq (pz63_0 n q hK h)))
def vccR1 (n : Int) (q : PlanV) : Prop := vz63_1 n q
theorem wcR1 (n : Int) (q : PlanV) (hK : (Yd5 Kf q n)) (h : vccR1 n q) : SemL Try.prog w0 fp ρi 1 12 [ccR1] (Yd4 n) (Yd3 q) (fnK RcR1 1 Kf) :=
  (L_seq (pz63_1 n q hK h))
end
theorem okcR1 (n : Int) (q : PlanV) (hpre : (PlanV.right q = true)) : vccR1 n q := by
  unfold vccR1 vz63_1 vz63_0
  exact ⟨fun _ => hpre, rfl⟩
theorem scR1 : Sound Try.prog 63 (gS DcR1) := by
  refine fn_soundA ccR1_fits ?_
  intro args H K h
  obtain ⟨pre, out, hD, hpre, hK⟩ := gS_inv h
  unfold DcR1 at hD
  split at hD
  · obtain ⟨hb, hD⟩ := bif_some hD
    simp only [Bool.and_eq_true] at hb
    obtain ⟨h0, h1⟩ := hb
    obtain rfl := Nat.eq_of_beq_eq_true h0
    obtain rfl := Nat.eq_of_beq_eq_true h1
    cases hD
    exact ⟨rfl, fun w0 fp ρi => wcR1 _ (PlanV.mk _ _ _ _ _ _ _ _ _ _ _ _ _ _ _ _) hK (okcR1 _ (PlanV.mk _ _ _ _ _ _ _ _ _ _ _ _ _ _ _ _) hpre)⟩
  · cases hD
def DiFn : GSpec := fun args H => match args, H with
  | [.slice ⟨0, 0, 0, 1⟩ xs_n xs_c, .fn (.func 63) [] [.ptr ⟨1, 0, 0, 1⟩ 46]], ⟨2, [(0, some ⟨false, [.ints .i64 xs_m xs], 0⟩), (1, some ⟨false, [.one (.int .i64 q_0), .one (.int .i64 q_1), .one (.int .i64 q_2), .one (.int .i64 q_3), .one (.int .i64 q_4), .one (.int .i64 q_5), .one (.int .u64 q_6), .one (.int .i64 q_7), .one (.int .i64 q_8), .one (.int .i64 q_9), .one (.int .i64 q_10), .one (.int .i64 q_11), .one (.int .i64 q_12), .one (.int .i64 q_13), .ints .u8 q_14_n q_14, .ints .u8 q_15_n q_15], 0⟩)]⟩ => bif Nat.beq q_14_n 16 && Nat.beq q_15_n 16 then some (xs_m = xs_n /\ ((List.length xs = xs_n /\ xs_n <= xs_c /\ xs_n <= 1000000) /\ (PlanV.right (PlanV.mk q_0 q_1 q_2 q_3 q_4 q_5 q_6 q_7 q_8 q_9 q_10 q_11 q_12 q_13 q_14 q_15) = true)), fun K => K (.int .i64 (idxM (PlanV.mk q_0 q_1 q_2 q_3 q_4 q_5 q_6 q_7 q_8 q_9 q_10 q_11 q_12 q_13 q_14 q_15) xs)) ⟨2, [(0, some ⟨false, [.ints .i64 xs_n xs], 0⟩), (1, some ⟨false, [.one (.int .i64 q_0), .one (.int .i64 q_1), .one (.int .i64 q_2), .one (.int .i64 q_3), .one (.int .i64 q_4), .one (.int .i64 q_5), .one (.int .u64 q_6), .one (.int .i64 q_7), .one (.int .i64 q_8), .one (.int .i64 q_9), .one (.int .i64 q_10), .one (.int .i64 q_11), .one (.int .i64 q_12), .one (.int .i64 q_13), .ints .u8 16 q_14, .ints .u8 16 q_15], 0⟩)]⟩) else none
  | _, _ => none
def coniFn : Con := ⟨73, gS DiFn, [], [], [(some [.ints .i64 0 ([] : List Int)])]⟩
def cz73_n0 : ACode := .reg (.op (some 4) (.mov (.cn (.int .i64 0))) .nil)
def cz73_n1 : ACode := .reg (.op (some 6) (.mov (.tm 0)) (.op (some 7) (.len (.tm 6)) (.op (some 8) (.mov (.cn (.int .i64 0))) .nil)))
def cz73_n2 : ACode := .reg (.op (some 9) (.bin .lss (.tm 8) (.tm 7)) .nil)
def cz73_n3 : ACode := .cond (.tm 9) .skip (.exit 0)
def cz73_n4 : ACode := .reg (.op (some 10) (.mov (.tm 8)) (.op (some 5) (.mov (.tm 10)) .nil))
def cz73_n5 : ACode := .reg (.op (some 11) (.mov (.tm 1)) (.op (some 12) (.mov (.tm 0)) (.op (some 13) (.mov (.tm 5)) (.op (some 14) (.idxS (.tm 12) (.tm 13) 1) (.op (some 15) (.load1 (.tm 14)) (.op (some 16) (.callV 63 (.tm 11) [(.tm 15)]) .nil))))))
def cz73_n6 : ACode := .reg (.op (some 17) (.mov (.tm 5)) (.op (some 4) (.mov (.tm 17)) .nil))
def cz73_n7 : ACode := .cond (.tm 16) (.seq cz73_n6 .ret) .skip
def cz73_n8 : ACode := .block 1 (.seq cz73_n4 (.seq cz73_n5 cz73_n7))
def cz73_n9 : ACode := .reg (.op (some 18) (.bin .add (.tm 8) (.cn (.int .i64 1))) (.op (some 8) (.mov (.tm 18)) .nil))
def cz73_n10 : ACode := .loop (.seq cz73_n2 (.seq cz73_n3 (.seq cz73_n8 cz73_n9)))
def cz73_n11 : ACode := .block 0 cz73_n10
def cz73_n12 : ACode := .reg (.op (some 4) (.mov (.cn (.int .i64 (-1)))) .nil)
def ciFn : ACode := (.seq cz73_n0 (.seq (.seq cz73_n1 cz73_n11) (.seq cz73_n12 .ret)))
def RiFn : Res := .one (.tm 4)
theorem ciFn_fits : fnFits Try.prog 73 2 19 ciFn RiFn = true := by kernel_rfl
def GiFn : Calls' := withP [] [concR1]
theorem hGiFn : CallOk Try.prog GiFn := withP_ok trivial ⟨scR1, trivial⟩
section
variable {w0 : World} {fp : Nat -> Nat -> Prop} {ρi : Rho} {Kf : SVal -> Heap -> Prop}
def kkz73_0 (w0 : World) (fp : Nat -> Nat -> Prop) (ρi : Rho) (Kf : SVal -> Heap -> Prop) (xs : List Int) (xs_n xs_c : Nat) (q : PlanV) : Cont := blockK 0 (fun e H => SemL Try.prog w0 fp ρi 2 19 [(.seq cz73_n12 .ret)] e H (fnK RiFn 2 Kf)) (fnK RiFn 2 Kf)
def ivz73_1 (xs : List Int) (xs_n xs_c : Nat) (q : PlanV) (v7 : Int) : Int -> Prop := fun s => match s with | v8 => 0 <= v8 /\ v8 <= (xs_n : Int) /\ (List.take (Int.toNat v8) xs).any (badM q) = false
def muz73_1 (xs : List Int) (xs_n xs_c : Nat) (q : PlanV) (v7 : Int) : Int -> Nat := fun s => match s with | v8 => (((xs_n : Int) - v8).toNat)
def liz73_1 (xs : List Int) (xs_n xs_c : Nat) (q : PlanV) (v7 : Int) : Int -> Env := fun s => match s with | v8 => [(0, some (.slice ⟨0, 0, 0, 1⟩ xs_n xs_c)), (1, some (.fn (.func 63) [] [.ptr ⟨1, 0, 0, 1⟩ 46])), (7, some (.int .i64 v7)), (8, some (.int .i64 v8))]
def ljz73_1 (xs : List Int) (xs_n xs_c : Nat) (q : PlanV) (v7 : Int) : Int -> Heap := fun s => match s with | v8 => ⟨2, [(0, some ⟨false, [.ints .i64 xs_n xs], 0⟩), (1, some ⟨false, (PlanV.cs q), 0⟩)]⟩
def kkz73_1 (w0 : World) (fp : Nat -> Nat -> Prop) (ρi : Rho) (Kf : SVal -> Heap -> Prop) (xs : List Int) (xs_n xs_c : Nat) (q : PlanV) (v7 v8 : Int) : Cont := loopK 2 (ivz73_1 xs xs_n xs_c q v7) (muz73_1 xs xs_n xs_c q v7) (liz73_1 xs xs_n xs_c q v7) (ljz73_1 xs xs_n xs_c q v7) v8 (kkz73_0 w0 fp ρi Kf xs xs_n xs_c q)
def kkz73_2 (w0 : World) (fp : Nat -> Nat -> Prop) (ρi : Rho) (Kf : SVal -> Heap -> Prop) (xs : List Int) (xs_n xs_c : Nat) (q : PlanV) (v7 v8 : Int) : Cont := blockK 1 (fun e H => SemL Try.prog w0 fp ρi 2 19 [cz73_n9] e H (kkz73_1 w0 fp ρi Kf xs xs_n xs_c q v7 v8)) (kkz73_1 w0 fp ρi Kf xs xs_n xs_c q v7 v8)
abbrev Yd6 (x0 : Nat) (x1 : List Int) (x2 : PlanV) : Heap := ⟨2, [(0, some ⟨false, [.ints .i64 x0 x1], 0⟩), (1, some ⟨false, (PlanV.cs x2), 0⟩)]⟩
theorem rz73_0 (xs : List Int) (xs_n xs_c : Nat) (q : PlanV) (v8 v7 : Int) (Z : Env -> Heap -> Prop) (h : Z [(4, some (.int .i64 v8))] (Yd6 xs_n xs q)) : EvC GiFn cz73_n6 [(5, some (.int .i64 v8))] (Yd6 xs_n xs q) [4] [0, 1] Z := EvC.of (by kernel_rfl) h
theorem rtz73_0 (xs : List Int) (xs_n xs_c : Nat) (q : PlanV) (v8 : Int) : RetC RiFn [(4, some (.int .i64 v8))] (Yd6 xs_n xs q) (.int .i64 v8) := RetC.of (fun Z => by kernel_rfl)
def vz73_0 (xs : List Int) (xs_n xs_c : Nat) (q : PlanV) (v8 v7 : Int) : Prop := v8 = (idxM q xs)
abbrev Yd7 (x0 : SVal -> Heap -> Prop) (x1 : PlanV) (x2 : List Int) (x3 : Nat) : Prop := x0 (.int .i64 (idxM x1 x2)) ⟨2, [(0, some ⟨false, [.ints .i64 x3 x2], 0⟩), (1, some ⟨false, (PlanV.cs x1), 0⟩)]⟩
theorem pz73_0 (xs : List Int) (xs_n xs_c : Nat) (q : PlanV) (hK : (Yd7 Kf q xs xs_n)) (v8 v7 : Int) (h : vz73_0 xs xs_n xs_c q v8 v7) : SemL Try.prog w0 fp ρi 2 19 [cz73_n6, .ret] [(5, some (.int .i64 v8))] (Yd6 xs_n xs q) (kkz73_2 w0 fp ρi Kf xs xs_n xs_c q v7 v8) :=
  L_regE hGiFn (rz73_0 xs xs_n xs_c q v8 v7 _ (L_retE (R := RiFn) (m := 2) (Kf := Kf) (fun _ _ h => h) (rtz73_0 xs xs_n xs_c q v8) (ret_of0 (Eq.mpr (cg1 (fun (z1 : Int) => Ret0 2 Kf (.int .i64 z1) (Yd6 xs_n xs q)) h) (ret0_tau [] [0, 1] rfl (by kernel_rfl) rfl pbd (hsc pcs (hsc pcs heapSub_nil)) rfl (by kernel_rfl) (hK))))))
abbrev Yd8 (x0 x1 : Nat) (x2 x3 : Int) : Env := [(0, some (.slice ⟨0, 0, 0, 1⟩ x0 x1)), (1, some (.fn (.func 63) [] [.ptr ⟨1, 0, 0, 1⟩ 46])), (7, some (.int .i64 x2)), (8, some (.int .i64 x3))]
theorem rz73_1 (xs : List Int) (xs_n xs_c : Nat) (q : PlanV) (v7 v8 : Int) (Z : Env -> Heap -> Prop) (h : Z [(0, some (.slice ⟨0, 0, 0, 1⟩ xs_n xs_c)), (1, some (.fn (.func 63) [] [.ptr ⟨1, 0, 0, 1⟩ 46])), (7, some (.int .i64 v7)), (8, some (.int .i64 (IntKind.i64.wrap (v8 + 1))))] (Yd6 xs_n xs q)) : EvC GiFn cz73_n9 (Yd8 xs_n xs_c v7 v8) (Yd6 xs_n xs q) [0, 1, 7, 8] [0, 1] Z := EvC.of (by kernel_rfl) h
def vz73_1 (xs : List Int) (xs_n xs_c : Nat) (q : PlanV) (v7 v8 : Int) : Prop := (0 <= (IntKind.i64.wrap (v8 + 1)) /\ (IntKind.i64.wrap (v8 + 1)) <= (xs_n : Int) /\ (List.take (Int.toNat (IntKind.i64.wrap (v8 + 1))) xs).any (badM q) = false) /\ ((((xs_n : Int) - (IntKind.i64.wrap (v8 + 1))).toNat) < (((xs_n : Int) - v8).toNat))
theorem pz73_1 (xs : List Int) (xs_n xs_c : Nat) (q : PlanV) (hK : (Yd7 Kf q xs xs_n)) (v7 v8 : Int) (h : vz73_1 xs xs_n xs_c q v7 v8) : SemL Try.prog w0 fp ρi 2 19 [cz73_n9] (Yd8 xs_n xs_c v7 v8) (Yd6 xs_n xs q) (kkz73_1 w0 fp ρi Kf xs xs_n xs_c q v7 v8) :=
  L_regE hGiFn (rz73_1 xs xs_n xs_c q v7 v8 _ (L_nil (loop_back (x' := (IntKind.i64.wrap (v8 + 1))) (τ := tau []) h.1 h.2 (sub_tau' [] [0, 1] rfl rfl (esc bsl (esc (bd_fn (bdL_cons bpt bdL_nil)) (esc pbd (esc pbd envSub_nil)))) (hsc pcs (hsc pcs heapSub_nil)) (by kernel_rfl) rfl))))
def vz73_2 (xs : List Int) (xs_n xs_c : Nat) (q : PlanV) (v8 v7 : Int) : Prop := ((badM q (List.getD xs (0 + (Int.toNat v8)) 0)) = true -> (vz73_0 xs xs_n xs_c q v8 v7)) /\ ((badM q (List.getD xs (0 + (Int.toNat v8)) 0)) = false -> (vz73_1 xs xs_n xs_c q v7 v8))
abbrev Yd9 (x0 x1 : Nat) (x2 x3 : Int) (x4 : PlanV) (x5 : List Int) : Env := [(0, some (.slice ⟨0, 0, 0, 1⟩ x0 x1)), (1, some (.fn (.func 63) [] [.ptr ⟨1, 0, 0, 1⟩ 46])), (5, some (.int .i64 x2)), (7, some (.int .i64 x3)), (8, some (.int .i64 x2)), (16, some (.bool (badM x4 (List.getD x5 (0 + (Int.toNat x2)) 0))))]
theorem pz73_2 (xs : List Int) (xs_n xs_c : Nat) (q : PlanV) (hK : (Yd7 Kf q xs xs_n)) (v8 v7 : Int) (h : vz73_2 xs xs_n xs_c q v8 v7) : SemL Try.prog w0 fp ρi 2 19 [cz73_n7] (Yd9 xs_n xs_c v8 v7 q xs) (Yd6 xs_n xs q) (kkz73_2 w0 fp ρi Kf xs xs_n xs_c q v7 v8) :=
  L_cond (q := (badM q (List.getD xs (0 + (Int.toNat v8)) 0))) (by kernel_rfl) (fun hq => (L_seq (lpk [5] [0, 1] (pz73_0 xs xs_n xs_c q hK v8 v7 (h.1 hq))))) (fun hq => (L_skip (L_nil (lpk [0, 1, 7, 8] [0, 1] (pz73_1 xs xs_n xs_c q hK v7 v8 (h.2 hq))))))
abbrev Yd10 (x0 x1 : Nat) (x2 x3 : Int) : Env := [(0, some (.slice ⟨0, 0, 0, 1⟩ x0 x1)), (1, some (.fn (.func 63) [] [.ptr ⟨1, 0, 0, 1⟩ 46])), (5, some (.int .i64 x2)), (7, some (.int .i64 x3)), (8, some (.int .i64 x2))]
theorem rz73_3 (xs : List Int) (xs_n xs_c : Nat) (q : PlanV) (v8 v7 : Int) (Z : Env -> Heap -> Prop) (h : ((0 <= v8)) /\ ((v8 < ((xs_n : Nat) : Int))) /\ (((0 + (Int.toNat v8)) < xs_n)) /\ ((PlanV.right q = true)) /\ Z (Yd9 xs_n xs_c v8 v7 q xs) (Yd6 xs_n xs q)) : EvC GiFn cz73_n5 (Yd10 xs_n xs_c v8 v7) (Yd6 xs_n xs q) [0, 1, 5, 7, 8, 16] [0, 1] Z := EvC.of (by kernel_rfl) h
def vz73_3 (xs : List Int) (xs_n xs_c : Nat) (q : PlanV) (v8 v7 : Int) : Prop := ((0 <= v8)) /\ (((v8 < ((xs_n : Nat) : Int))) /\ ((((0 + (Int.toNat v8)) < xs_n)) /\ (((PlanV.right q = true)) /\ (vz73_2 xs xs_n xs_c q v8 v7))))
theorem pz73_3 (xs : List Int) (xs_n xs_c : Nat) (q : PlanV) (hK : (Yd7 Kf q xs xs_n)) (v8 v7 : Int) (h : vz73_3 xs xs_n xs_c q v8 v7) : SemL Try.prog w0 fp ρi 2 19 [cz73_n5, cz73_n7] (Yd10 xs_n xs_c v8 v7) (Yd6 xs_n xs q) (kkz73_2 w0 fp ρi Kf xs xs_n xs_c q v7 v8) :=
  L_regE hGiFn (rz73_3 xs xs_n xs_c q v8 v7 _ ⟨h.1, ⟨h.2.1, ⟨h.2.2.1, ⟨h.2.2.2.1, (pz73_2 xs xs_n xs_c q hK v8 v7 h.2.2.2.2)⟩⟩⟩⟩)
theorem rz73_4 (xs : List Int) (xs_n xs_c : Nat) (q : PlanV) (v7 v8 : Int) (Z : Env -> Heap -> Prop) (h : Z (Yd10 xs_n xs_c v8 v7) (Yd6 xs_n xs q)) : EvC GiFn cz73_n4 (Yd8 xs_n xs_c v7 v8) (Yd6 xs_n xs q) [0, 1, 5, 7, 8] [0, 1] Z := EvC.of (by kernel_rfl) h
def vz73_4 (xs : List Int) (xs_n xs_c : Nat) (q : PlanV) (v7 v8 : Int) : Prop := vz73_3 xs xs_n xs_c q v8 v7
theorem pz73_4 (xs : List Int) (xs_n xs_c : Nat) (q : PlanV) (hK : (Yd7 Kf q xs xs_n)) (v7 v8 : Int) (h : vz73_4 xs xs_n xs_c q v7 v8) : SemL Try.prog w0 fp ρi 2 19 [cz73_n4, (.seq cz73_n5 cz73_n7)] (Yd8 xs_n xs_c v7 v8) (Yd6 xs_n xs q) (kkz73_2 w0 fp ρi Kf xs xs_n xs_c q v7 v8) :=
  L_regE hGiFn (rz73_4 xs xs_n xs_c q v7 v8 _ (L_seq (pz73_3 xs xs_n xs_c q hK v8 v7 h)))
def vz73_5 (xs : List Int) (xs_n xs_c : Nat) (q : PlanV) (v7 v8 : Int) : Prop := vz73_4 xs xs_n xs_c q v7 v8
theorem pz73_5 (xs : List Int) (xs_n xs_c : Nat) (q : PlanV) (hK : (Yd7 Kf q xs xs_n)) (v7 v8 : Int) (h : vz73_5 xs xs_n xs_c q v7 v8) : SemL Try.prog w0 fp ρi 2 19 [cz73_n8, cz73_n9] (Yd8 xs_n xs_c v7 v8) (Yd6 xs_n xs q) (kkz73_1 w0 fp ρi Kf xs xs_n xs_c q v7 v8) :=
  L_block (L_seq (pz73_4 xs xs_n xs_c q hK v7 v8 h))
theorem rz73_6 (xs : List Int) (xs_n xs_c : Nat) (q : PlanV) (Z : Env -> Heap -> Prop) (h : Z [(4, some (.int .i64 (-1)))] (Yd6 xs_n xs q)) : EvC GiFn cz73_n12 [] (Yd6 xs_n xs q) [4] [0, 1] Z := EvC.of (by kernel_rfl) h
theorem rtz73_1 (xs : List Int) (xs_n xs_c : Nat) (q : PlanV) : RetC RiFn [(4, some (.int .i64 (-1)))] (Yd6 xs_n xs q) (.int .i64 (-1)) := RetC.of (fun Z => by kernel_rfl)
def vz73_6 (xs : List Int) (xs_n xs_c : Nat) (q : PlanV) : Prop := (-1) = (idxM q xs)
theorem pz73_6 (xs : List Int) (xs_n xs_c : Nat) (q : PlanV) (hK : (Yd7 Kf q xs xs_n)) (h : vz73_6 xs xs_n xs_c q) : SemL Try.prog w0 fp ρi 2 19 [cz73_n12, .ret] [] (Yd6 xs_n xs q) (fnK RiFn 2 Kf) :=
  L_regE hGiFn (rz73_6 xs xs_n xs_c q _ (L_retE (R := RiFn) (m := 2) (Kf := Kf) (fun _ _ h => h) (rtz73_1 xs xs_n xs_c q) (ret_of0 (Eq.mpr (cg1 (fun (z1 : Int) => Ret0 2 Kf (.int .i64 z1) (Yd6 xs_n xs q)) h) (ret0_tau [] [0, 1] rfl (by kernel_rfl) rfl pbd (hsc pcs (hsc pcs heapSub_nil)) rfl (by kernel_rfl) (hK))))))
def vz73_7 (xs : List Int) (xs_n xs_c : Nat) (q : PlanV) (v7 v8 : Int) : Prop := ((decide (v8 < v7)) = true -> (vz73_5 xs xs_n xs_c q v7 v8)) /\ ((decide (v8 < v7)) = false -> (vz73_6 xs xs_n xs_c q))
abbrev Yd11 (x0 x1 : Nat) (x2 x3 : Int) : Env := [(0, some (.slice ⟨0, 0, 0, 1⟩ x0 x1)), (1, some (.fn (.func 63) [] [.ptr ⟨1, 0, 0, 1⟩ 46])), (7, some (.int .i64 x2)), (8, some (.int .i64 x3)), (9, some (.bool (decide (x3 < x2))))]
theorem pz73_7 (xs : List Int) (xs_n xs_c : Nat) (q : PlanV) (hK : (Yd7 Kf q xs xs_n)) (v7 v8 : Int) (h : vz73_7 xs xs_n xs_c q v7 v8) : SemL Try.prog w0 fp ρi 2 19 [cz73_n3, (.seq cz73_n8 cz73_n9)] (Yd11 xs_n xs_c v7 v8) (Yd6 xs_n xs q) (kkz73_1 w0 fp ρi Kf xs xs_n xs_c q v7 v8) :=
  L_cond (q := (decide (v8 < v7))) (by kernel_rfl) (fun hq => (L_skip (lpk [0, 1, 7, 8] [0, 1] (L_seq (pz73_5 xs xs_n xs_c q hK v7 v8 (h.1 hq)))))) (fun hq => (L_exit (lpk [] [0, 1] (L_seq (pz73_6 xs xs_n xs_c q hK (h.2 hq))))))
theorem rz73_8 (xs : List Int) (xs_n xs_c : Nat) (q : PlanV) (v7 v8 : Int) (Z : Env -> Heap -> Prop) (h : Z (Yd11 xs_n xs_c v7 v8) (Yd6 xs_n xs q)) : EvC GiFn cz73_n2 (Yd8 xs_n xs_c v7 v8) (Yd6 xs_n xs q) [0, 1, 7, 8, 9] [0, 1] Z := EvC.of (by kernel_rfl) h
def vz73_8 (xs : List Int) (xs_n xs_c : Nat) (q : PlanV) (v7 v8 : Int) : Prop := vz73_7 xs xs_n xs_c q v7 v8
theorem pz73_8 (xs : List Int) (xs_n xs_c : Nat) (q : PlanV) (hK : (Yd7 Kf q xs xs_n)) (v7 v8 : Int) (h : vz73_8 xs xs_n xs_c q v7 v8) : SemL Try.prog w0 fp ρi 2 19 [cz73_n2, (.seq cz73_n3 (.seq cz73_n8 cz73_n9))] (Yd8 xs_n xs_c v7 v8) (Yd6 xs_n xs q) (kkz73_1 w0 fp ρi Kf xs xs_n xs_c q v7 v8) :=
  L_regE hGiFn (rz73_8 xs xs_n xs_c q v7 v8 _ (L_seq (pz73_7 xs xs_n xs_c q hK v7 v8 h)))
def vz73_9 (xs : List Int) (xs_n xs_c : Nat) (q : PlanV) (v7 : Int) : Prop := (0 <= (0 : Int) /\ (0 : Int) <= (xs_n : Int) /\ (List.take (Int.toNat (0 : Int)) xs).any (badM q) = false) /\ (∀ (v8 : Int), (0 <= v8 /\ v8 <= (xs_n : Int) /\ (List.take (Int.toNat v8) xs).any (badM q) = false) -> (vz73_8 xs xs_n xs_c q v7 v8))
abbrev Yd12 (x0 x1 : Nat) (x2 : Int) : Env := [(0, some (.slice ⟨0, 0, 0, 1⟩ x0 x1)), (1, some (.fn (.func 63) [] [.ptr ⟨1, 0, 0, 1⟩ 46])), (7, some (.int .i64 x2)), (8, some (.int .i64 0))]
theorem pz73_9 (xs : List Int) (xs_n xs_c : Nat) (q : PlanV) (hK : (Yd7 Kf q xs xs_n)) (v7 : Int) (h : vz73_9 xs xs_n xs_c q v7) : SemL Try.prog w0 fp ρi 2 19 [cz73_n10] (Yd12 xs_n xs_c v7) (Yd6 xs_n xs q) (kkz73_0 w0 fp ρi Kf xs xs_n xs_c q) :=
  L_loop (ivz73_1 xs xs_n xs_c q v7) (muz73_1 xs xs_n xs_c q v7) (liz73_1 xs xs_n xs_c q v7) (ljz73_1 xs xs_n xs_c q v7) ⟨0, tau [], h.1, (sub_tau' [] [0, 1] rfl rfl (esc bsl (esc (bd_fn (bdL_cons bpt bdL_nil)) (esc pbd (esc pbd envSub_nil)))) (hsc pcs (hsc pcs heapSub_nil)) (by kernel_rfl) rfl)⟩ (fun s => match s with | v8 => fun hi => (L_seq (pz73_8 xs xs_n xs_c q hK v7 v8 (h.2 v8 hi))))
def vz73_10 (xs : List Int) (xs_n xs_c : Nat) (q : PlanV) (v7 : Int) : Prop := vz73_9 xs xs_n xs_c q v7
theorem pz73_10 (xs : List Int) (xs_n xs_c : Nat) (q : PlanV) (hK : (Yd7 Kf q xs xs_n)) (v7 : Int) (h : vz73_10 xs xs_n xs_c q v7) : SemL Try.prog w0 fp ρi 2 19 [cz73_n11, (.seq cz73_n12 .ret)] (Yd12 xs_n xs_c v7) (Yd6 xs_n xs q) (fnK RiFn 2 Kf) :=
  L_block (pz73_9 xs xs_n xs_c q hK v7 h)
abbrev Yd13 (x0 x1 : Nat) : Env := [(0, some (.slice ⟨0, 0, 0, 1⟩ x0 x1)), (1, some (.fn (.func 63) [] [.ptr ⟨1, 0, 0, 1⟩ 46]))]
theorem rz73_11 (xs : List Int) (xs_n xs_c : Nat) (q : PlanV) (Z : Env -> Heap -> Prop) (h : Z [(0, some (.slice ⟨0, 0, 0, 1⟩ xs_n xs_c)), (1, some (.fn (.func 63) [] [.ptr ⟨1, 0, 0, 1⟩ 46])), (7, some (.int .i64 ((xs_n : Nat) : Int))), (8, some (.int .i64 0))] (Yd6 xs_n xs q)) : EvC GiFn cz73_n1 (Yd13 xs_n xs_c) (Yd6 xs_n xs q) [0, 1, 7, 8] [0, 1] Z := EvC.of (by kernel_rfl) h
def vz73_11 (xs : List Int) (xs_n xs_c : Nat) (q : PlanV) : Prop := ∀ v7 : Int, v7 = ((xs_n : Nat) : Int) -> vz73_10 xs xs_n xs_c q v7
theorem pz73_11 (xs : List Int) (xs_n xs_c : Nat) (q : PlanV) (hK : (Yd7 Kf q xs xs_n)) (h : vz73_11 xs xs_n xs_c q) : SemL Try.prog w0 fp ρi 2 19 [cz73_n1, cz73_n11, (.seq cz73_n12 .ret)] (Yd13 xs_n xs_c) (Yd6 xs_n xs q) (fnK RiFn 2 Kf) :=
  L_regE hGiFn (rz73_11 xs xs_n xs_c q _ (pz73_10 xs xs_n xs_c q hK ((xs_n : Nat) : Int) (h ((xs_n : Nat) : Int) rfl)))
theorem rz73_12 (xs : List Int) (xs_n xs_c : Nat) (q : PlanV) (Z : Env -> Heap -> Prop) (h : Z (Yd13 xs_n xs_c) (Yd6 xs_n xs q)) : EvC GiFn cz73_n0 (Yd13 xs_n xs_c) (Yd6 xs_n xs q) [0, 1] [0, 1] Z := EvC.of (by kernel_rfl) h
def vz73_12 (xs : List Int) (xs_n xs_c : Nat) (q : PlanV) : Prop := vz73_11 xs xs_n xs_c q
theorem pz73_12 (xs : List Int) (xs_n xs_c : Nat) (q : PlanV) (hK : (Yd7 Kf q xs xs_n)) (h : vz73_12 xs xs_n xs_c q) : SemL Try.prog w0 fp ρi 2 19 [cz73_n0, (.seq (.seq cz73_n1 cz73_n11) (.seq cz73_n12 .ret))] (Yd13 xs_n xs_c) (Yd6 xs_n xs q) (fnK RiFn 2 Kf) :=
  L_regE hGiFn (rz73_12 xs xs_n xs_c q _ (L_seq (L_seq (pz73_11 xs xs_n xs_c q hK h))))
def vciFn (xs : List Int) (xs_n xs_c : Nat) (q : PlanV) : Prop := vz73_12 xs xs_n xs_c q
theorem wiFn (xs : List Int) (xs_n xs_c : Nat) (q : PlanV) (hK : (Yd7 Kf q xs xs_n)) (h : vciFn xs xs_n xs_c q) : SemL Try.prog w0 fp ρi 2 19 [ciFn] (Yd13 xs_n xs_c) (Yd6 xs_n xs q) (fnK RiFn 2 Kf) :=
  (L_seq (pz73_12 xs xs_n xs_c q hK h))
end
theorem okiFn (xs : List Int) (xs_n xs_c : Nat) (q : PlanV) (hpre : ((List.length xs = xs_n /\ xs_n <= xs_c /\ xs_n <= 1000000) /\ (PlanV.right q = true))) : vciFn xs xs_n xs_c q := by
  unfold vciFn vz73_12 vz73_11 vz73_10 vz73_9 vz73_8 vz73_7 vz73_6 vz73_5 vz73_4 vz73_3 vz73_2 vz73_1 vz73_0
  obtain ⟨⟨hl, -, hl2⟩, hr⟩ := hpre
  rintro v7 rfl
  refine ⟨⟨by omega, by omega, rfl⟩, ?_⟩
  rintro i ⟨h0, h1, ha⟩
  refine ⟨fun hlt => ?_, fun hge => ?_⟩
  · have hlt := of_decide_eq_true hlt
    have e1 : IntKind.i64.wrap (i + 1) = i + 1 := by rw [wi64]; omega
    have e2 : (i + 1).toNat = i.toNat + 1 := by omega
    rw [Nat.zero_add]
    refine ⟨h0, hlt, by omega, hr, fun hb => ?_, fun hb => ?_⟩
    · rw [show idxM q xs = ((i.toNat : Nat) : Int) from PlanV.idxM_at (by omega) ha hb]; omega
    · rw [e1, e2, take_succ_getD (by omega), List.any_append, ha]
      exact ⟨⟨by omega, by omega, by simp only [List.any_cons, List.any_nil, Bool.or_false, Bool.false_or]; exact hb⟩, by omega⟩
  · have hge := of_decide_eq_false hge
    rw [List.take_of_length_le (by omega)] at ha
    exact (PlanV.idxM_none ha).symm
theorem siFn : Sound Try.prog 73 (gS DiFn) := by
  refine fn_soundA ciFn_fits ?_
  intro args H K h
  obtain ⟨pre, out, hD, hpre, hK⟩ := gS_inv h
  unfold DiFn at hD
  split at hD
  · obtain ⟨hb, hD⟩ := bif_some hD
    simp only [Bool.and_eq_true] at hb
    obtain ⟨h0, h1⟩ := hb
    obtain rfl := Nat.eq_of_beq_eq_true h0
    obtain rfl := Nat.eq_of_beq_eq_true h1
    cases hD
    obtain ⟨rfl, hpre⟩ := hpre
    exact ⟨rfl, fun w0 fp ρi => wiFn _ _ _ (PlanV.mk _ _ _ _ _ _ _ _ _ _ _ _ _ _ _ _) hK (okiFn _ _ _ (PlanV.mk _ _ _ _ _ _ _ _ _ _ _ _ _ _ _ _) hpre)⟩
  · cases hD
def DcFn : GSpec := fun args H => match args, H with
  | [.slice ⟨0, 0, 0, 1⟩ xs_n xs_c, .fn (.func 63) [] [.ptr ⟨1, 0, 0, 1⟩ 46]], ⟨2, [(0, some ⟨false, [.ints .i64 xs_m xs], 0⟩), (1, some ⟨false, [.one (.int .i64 q_0), .one (.int .i64 q_1), .one (.int .i64 q_2), .one (.int .i64 q_3), .one (.int .i64 q_4), .one (.int .i64 q_5), .one (.int .u64 q_6), .one (.int .i64 q_7), .one (.int .i64 q_8), .one (.int .i64 q_9), .one (.int .i64 q_10), .one (.int .i64 q_11), .one (.int .i64 q_12), .one (.int .i64 q_13), .ints .u8 q_14_n q_14, .ints .u8 q_15_n q_15], 0⟩)]⟩ => bif Nat.beq q_14_n 16 && Nat.beq q_15_n 16 then some (xs_m = xs_n /\ ((List.length xs = xs_n /\ xs_n <= xs_c /\ xs_n <= 1000000) /\ (PlanV.right (PlanV.mk q_0 q_1 q_2 q_3 q_4 q_5 q_6 q_7 q_8 q_9 q_10 q_11 q_12 q_13 q_14 q_15) = true)), fun K => K (.bool (List.any xs (badM (PlanV.mk q_0 q_1 q_2 q_3 q_4 q_5 q_6 q_7 q_8 q_9 q_10 q_11 q_12 q_13 q_14 q_15)))) ⟨2, [(0, some ⟨false, [.ints .i64 xs_n xs], 0⟩), (1, some ⟨false, [.one (.int .i64 q_0), .one (.int .i64 q_1), .one (.int .i64 q_2), .one (.int .i64 q_3), .one (.int .i64 q_4), .one (.int .i64 q_5), .one (.int .u64 q_6), .one (.int .i64 q_7), .one (.int .i64 q_8), .one (.int .i64 q_9), .one (.int .i64 q_10), .one (.int .i64 q_11), .one (.int .i64 q_12), .one (.int .i64 q_13), .ints .u8 16 q_14, .ints .u8 16 q_15], 0⟩)]⟩) else none
  | _, _ => none
def concFn : Con := ⟨62, gS DcFn, [], [], [(some [.ints .i64 0 ([] : List Int)])]⟩
def cz62_n0 : ACode := .reg (.op (some 4) (.mov (.cn (.bool false))) .nil)
def cz62_n1 : ACode := .reg (.op (some 5) (.mov (.tm 0)) (.op (some 6) (.mov (.tm 1)) (.op (some 7) (.call 73 [(.tm 5), (.tm 6)]) (.op (some 8) (.bin .geq (.tm 7) (.cn (.int .i64 0))) (.op (some 4) (.mov (.tm 8)) .nil)))))
def ccFn : ACode := (.seq cz62_n0 (.seq cz62_n1 .ret))
def RcFn : Res := .one (.tm 4)
theorem ccFn_fits : fnFits Try.prog 62 2 9 ccFn RcFn = true := by kernel_rfl
def GcFn : Calls' := withP [] [coniFn]
theorem hGcFn : CallOk Try.prog GcFn := withP_ok trivial ⟨siFn, trivial⟩
section
variable {w0 : World} {fp : Nat -> Nat -> Prop} {ρi : Rho} {Kf : SVal -> Heap -> Prop}
theorem rz62_0 (xs : List Int) (xs_n xs_c : Nat) (q : PlanV) (Z : Env -> Heap -> Prop) (h : (((0 + xs_n) <= xs_n)) /\ (((xs_n : Nat) = xs_n) /\ ((List.length (List.take xs_n xs) = xs_n /\ xs_n <= xs_c /\ xs_n <= 1000000) /\ (PlanV.right q = true))) /\ Z [(4, some (.bool (decide (0 <= (idxM q (List.take xs_n xs))))))] (Yd6 xs_n xs q)) : EvC GcFn cz62_n1 (Yd13 xs_n xs_c) (Yd6 xs_n xs q) [4] [0, 1] Z := EvC.of (by kernel_rfl) h
theorem rtz62_0 (xs : List Int) (xs_n xs_c : Nat) (q : PlanV) : RetC RcFn [(4, some (.bool (decide (0 <= (idxM q (List.take xs_n xs))))))] (Yd6 xs_n xs q) (.bool (decide (0 <= (idxM q (List.take xs_n xs))))) := RetC.of (fun Z => by kernel_rfl)
def vz62_0 (xs : List Int) (xs_n xs_c : Nat) (q : PlanV) : Prop := (((0 + xs_n) <= xs_n)) /\ ((((List.length (List.take xs_n xs) = xs_n /\ xs_n <= xs_c /\ xs_n <= 1000000) /\ (PlanV.right q = true))) /\ ((decide (0 <= (idxM q (List.take xs_n xs)))) = (List.any xs (badM q))))
abbrev Yd14 (x0 : SVal -> Heap -> Prop) (x1 : List Int) (x2 : PlanV) (x3 : Nat) : Prop := x0 (.bool (List.any x1 (badM x2))) ⟨2, [(0, some ⟨false, [.ints .i64 x3 x1], 0⟩), (1, some ⟨false, (PlanV.cs x2), 0⟩)]⟩
theorem pz62_0 (xs : List Int) (xs_n xs_c : Nat) (q : PlanV) (hK : (Yd14 Kf xs q xs_n)) (h : vz62_0 xs xs_n xs_c q) : SemL Try.prog w0 fp ρi 2 9 [cz62_n1, .ret] (Yd13 xs_n xs_c) (Yd6 xs_n xs q) (fnK RcFn 2 Kf) :=
  L_regE hGcFn (rz62_0 xs xs_n xs_c q _ ⟨h.1, ⟨⟨rfl, h.2.1⟩, (L_retE (R := RcFn) (m := 2) (Kf := Kf) (fun _ _ h => h) (rtz62_0 xs xs_n xs_c q) (ret_of0 (Eq.mpr (cg1 (fun (z1 : Bool) => Ret0 2 Kf (.bool z1) (Yd6 xs_n xs q)) h.2.2) (ret0_tau [] [0, 1] rfl (by kernel_rfl) rfl pbd (hsc pcs (hsc pcs heapSub_nil)) rfl (by kernel_rfl) (hK)))))⟩⟩)
theorem rz62_1 (xs : List Int) (xs_n xs_c : Nat) (q : PlanV) (Z : Env -> Heap -> Prop) (h : Z (Yd13 xs_n xs_c) (Yd6 xs_n xs q)) : EvC GcFn cz62_n0 (Yd13 xs_n xs_c) (Yd6 xs_n xs q) [0, 1] [0, 1] Z := EvC.of (by kernel_rfl) h
def vz62_1 (xs : List Int) (xs_n xs_c : Nat) (q : PlanV) : Prop := vz62_0 xs xs_n xs_c q
theorem pz62_1 (xs : List Int) (xs_n xs_c : Nat) (q : PlanV) (hK : (Yd14 Kf xs q xs_n)) (h : vz62_1 xs xs_n xs_c q) : SemL Try.prog w0 fp ρi 2 9 [cz62_n0, (.seq cz62_n1 .ret)] (Yd13 xs_n xs_c) (Yd6 xs_n xs q) (fnK RcFn 2 Kf) :=
  L_regE hGcFn (rz62_1 xs xs_n xs_c q _ (L_seq (pz62_0 xs xs_n xs_c q hK h)))
def vccFn (xs : List Int) (xs_n xs_c : Nat) (q : PlanV) : Prop := vz62_1 xs xs_n xs_c q
theorem wcFn (xs : List Int) (xs_n xs_c : Nat) (q : PlanV) (hK : (Yd14 Kf xs q xs_n)) (h : vccFn xs xs_n xs_c q) : SemL Try.prog w0 fp ρi 2 9 [ccFn] (Yd13 xs_n xs_c) (Yd6 xs_n xs q) (fnK RcFn 2 Kf) :=
  (L_seq (pz62_1 xs xs_n xs_c q hK h))
end
theorem okcFn (xs : List Int) (xs_n xs_c : Nat) (q : PlanV) (hpre : ((List.length xs = xs_n /\ xs_n <= xs_c /\ xs_n <= 1000000) /\ (PlanV.right q = true))) : vccFn xs xs_n xs_c q := by
  unfold vccFn vz62_1 vz62_0
  have hl := hpre.1.1
  rw [List.take_of_length_le (by omega)]
  exact ⟨by omega, hpre, PlanV.idxM_any⟩
theorem scFn : Sound Try.prog 62 (gS DcFn) := by
  refine fn_soundA ccFn_fits ?_
  intro args H K h
  obtain ⟨pre, out, hD, hpre, hK⟩ := gS_inv h
  unfold DcFn at hD
  split at hD
  · obtain ⟨hb, hD⟩ := bif_some hD
    simp only [Bool.and_eq_true] at hb
    obtain ⟨h0, h1⟩ := hb
    obtain rfl := Nat.eq_of_beq_eq_true h0
    obtain rfl := Nat.eq_of_beq_eq_true h1
    cases hD
    obtain ⟨rfl, hpre⟩ := hpre
    exact ⟨rfl, fun w0 fp ρi => wcFn _ _ _ (PlanV.mk _ _ _ _ _ _ _ _ _ _ _ _ _ _ _ _) hK (okcFn _ _ _ (PlanV.mk _ _ _ _ _ _ _ _ _ _ _ _ _ _ _ _) hpre)⟩
  · cases hD
def Dq7Same : GSpec := fun args H => match args, H with
  | [.agg [.one (.int .u64 a_0), .one (.slice ⟨0, 0, 0, 1⟩ a_n a_c)], .agg [.one (.int .u64 b_0), .one (.slice ⟨1, 0, 0, 1⟩ b_n b_c)]], ⟨2, [(0, some ⟨false, [.ints .i64 a_m a], 0⟩), (1, some ⟨false, [.ints .i64 b_m b], 0⟩)]⟩ => some (a_m = a_n /\ b_m = b_n /\ ((List.length a = a_n /\ a_n <= a_c /\ a_n <= 1000000) /\ (List.length b = b_n /\ b_n <= b_c /\ b_n <= 1000000)), fun K => K (.bool (sameC a_0 a b_0 b)) ⟨2, [(0, some ⟨false, [.ints .i64 a_n a], 0⟩), (1, some ⟨false, [.ints .i64 b_n b], 0⟩)]⟩)
  | _, _ => none
def conq7Same : Con := ⟨15, gS Dq7Same, [], [], [(some [.ints .i64 0 ([] : List Int)]), (some [.ints .i64 0 ([] : List Int)])]⟩
def cz15_n0 : ACode := .reg (.op (some 2) (.box (.tm 0)) (.op (some 3) (.box (.tm 1)) (.op (some 4) (.mov (.cn (.bool false))) .nil)))
def cz15_n1 : ACode := .reg (.op (some 6) (.fieldAddr (.tm 2) 0 1) (.op (some 7) (.load1 (.tm 6)) (.op (some 8) (.fieldAddr (.tm 3) 0 1) (.op (some 9) (.load1 (.tm 8)) (.op (some 10) (.bin .neq (.tm 7) (.tm 9)) (.op (some 11) (.mov (.tm 10)) (.grpJ 11 false (.op (some 12) (.fieldAddr (.tm 2) 1 1) (.op (some 13) (.load1 (.tm 12)) (.op (some 14) (.len (.tm 13)) (.op (some 15) (.fieldAddr (.tm 3) 1 1) (.op (some 16) (.load1 (.tm 15)) (.op (some 17) (.len (.tm 16)) (.op (some 18) (.bin .neq (.tm 14) (.tm 17)) .nil))))))) 19 (.tm 18) (.cn (.bool true)) .nil)))))))
def cz15_n2 : ACode := .reg (.op (some 4) (.mov (.cn (.bool false))) .nil)
def cz15_n3 : ACode := .cond (.tm 19) (.seq cz15_n2 .ret) .skip
def cz15_n4 : ACode := .reg (.op (some 5) (.mov (.cn (.int .i64 0))) .nil)
def cz15_n5 : ACode := .reg (.op (some 20) (.mov (.tm 5)) (.op (some 21) (.fieldAddr (.tm 2) 1 1) (.op (some 22) (.load1 (.tm 21)) (.op (some 23) (.len (.tm 22)) (.op (some 24) (.bin .lss (.tm 20) (.tm 23)) .nil)))))
def cz15_n6 : ACode := .cond (.tm 24) .skip (.exit 0)
def cz15_n7i : Items := .op (some 27) (.fieldAddr (.tm 2) 1 1) (.op (some 28) (.load1 (.tm 27)) (.op (some 29) (.mov (.tm 5)) (.op (some 30) (.idxS (.tm 28) (.tm 29) 1) (.op (some 31) (.load1 (.tm 30)) (.op (some 32) (.fieldAddr (.tm 3) 1 1) (.op (some 33) (.load1 (.tm 32)) (.op (some 34) (.mov (.tm 5)) (.op (some 35) (.idxS (.tm 33) (.tm 34) 1) (.op (some 36) (.load1 (.tm 35)) (.op (some 37) (.bin .neq (.tm 31) (.tm 36)) .nil))))))))))
def cz15_n7 : ACode := .regQ cz15_n7i
def cz15_n8 : ACode := .reg (.op (some 4) (.mov (.cn (.bool false))) .nil)
def cz15_n9 : ACode := .cond (.tm 37) (.seq cz15_n8 .ret) .skip
def cz15_n10 : ACode := .block 1 (.seq cz15_n7 cz15_n9)
def cz15_n11 : ACode := .reg (.op (some 25) (.mov (.tm 5)) (.op (some 26) (.bin .add (.tm 25) (.cn (.int .i64 1))) (.op (some 5) (.mov (.tm 26)) .nil)))
def cz15_n12 : ACode := .loop (.seq (.seq cz15_n5 cz15_n6) (.seq cz15_n10 cz15_n11))
def cz15_n13 : ACode := .block 0 cz15_n12
def cz15_n14 : ACode := .reg (.op (some 4) (.mov (.cn (.bool true))) .nil)
def cq7Same : ACode := (.seq cz15_n0 (.seq (.seq cz15_n1 cz15_n3) (.seq (.seq cz15_n4 cz15_n13) (.seq cz15_n14 .ret))))
def Rq7Same : Res := .one (.tm 4)
theorem cq7Same_fits : fnFits Try.prog 15 2 38 cq7Same Rq7Same = true := by kernel_rfl
def Gq7Same : Calls' := withP [] []
theorem hGq7Same : CallOk Try.prog Gq7Same := withP_ok trivial trivial
section
variable {w0 : World} {fp : Nat -> Nat -> Prop} {ρi : Rho} {Kf : SVal -> Heap -> Prop}
abbrev Yd15 : Env := [(4, some (.bool false))]
abbrev Yd16 (x0 : Nat) (x1 : List Int) (x2 : Nat) (x3 : List Int) : Heap := ⟨4, [(0, some ⟨false, [.ints .i64 x0 x1], 0⟩), (1, some ⟨false, [.ints .i64 x2 x3], 0⟩)]⟩
theorem rz15_0 (a_0 : Int) (a : List Int) (a_n a_c : Nat) (b_0 : Int) (b : List Int) (b_n b_c : Nat) (Z : Env -> Heap -> Prop) (h : Z Yd15 (Yd16 a_n a b_n b)) : EvC Gq7Same cz15_n2 [] (Yd16 a_n a b_n b) [4] [0, 1] Z := EvC.of (by kernel_rfl) h
theorem rtz15_0 (a_0 : Int) (a : List Int) (a_n a_c : Nat) (b_0 : Int) (b : List Int) (b_n b_c : Nat) : RetC Rq7Same Yd15 (Yd16 a_n a b_n b) (.bool false) := RetC.of (fun Z => by kernel_rfl)
def vz15_0 (a_0 : Int) (a : List Int) (a_n a_c : Nat) (b_0 : Int) (b : List Int) (b_n b_c : Nat) : Prop := false = (sameC a_0 a b_0 b)
abbrev Yd17 (x0 : Nat) (x1 : List Int) (x2 : Nat) (x3 : List Int) : Heap := ⟨2, [(0, some ⟨false, [.ints .i64 x0 x1], 0⟩), (1, some ⟨false, [.ints .i64 x2 x3], 0⟩)]⟩
abbrev Yd18 (x0 : SVal -> Heap -> Prop) (x1 : Int) (x2 : List Int) (x3 : Int) (x4 : List Int) (x5 x6 : Nat) : Prop := x0 (.bool (sameC x1 x2 x3 x4)) ⟨2, [(0, some ⟨false, [.ints .i64 x5 x2], 0⟩), (1, some ⟨false, [.ints .i64 x6 x4], 0⟩)]⟩
theorem pz15_0 (a_0 : Int) (a : List Int) (a_n a_c : Nat) (b_0 : Int) (b : List Int) (b_n b_c : Nat) (hK : (Yd18 Kf a_0 a b_0 b a_n b_n)) (h : vz15_0 a_0 a a_n a_c b_0 b b_n b_c) : SemL Try.prog w0 fp ρi 2 38 [cz15_n2, .ret, (.seq (.seq cz15_n4 cz15_n13) (.seq cz15_n14 .ret))] [] (Yd16 a_n a b_n b) (fnK Rq7Same 2 Kf) :=
  L_regE hGq7Same (rz15_0 a_0 a a_n a_c b_0 b b_n b_c _ (L_retE (R := Rq7Same) (m := 2) (Kf := Kf) (fun _ _ h => h) (rtz15_0 a_0 a a_n a_c b_0 b b_n b_c) (ret_of0 (Eq.mpr (cg1 (fun (z1 : Bool) => Ret0 2 Kf (.bool z1) (Yd16 a_n a b_n b)) h) (ret0_tau [] [0, 1] rfl (by kernel_rfl) rfl pbd (hsc pcs (hsc pcs heapSub_nil)) rfl (by kernel_rfl) (hK))))))
def kkz15_0 (w0 : World) (fp : Nat -> Nat -> Prop) (ρi : Rho) (Kf : SVal -> Heap -> Prop) (a_0 : Int) (a : List Int) (a_n a_c : Nat) (b_0 : Int) (b : List Int) (b_n b_c : Nat) : Cont := blockK 0 (fun e H => SemL Try.prog w0 fp ρi 2 38 [(.seq cz15_n14 .ret)] e H (fnK Rq7Same 2 Kf)) (fnK Rq7Same 2 Kf)
def ivz15_1 (a_0 : Int) (a : List Int) (a_n a_c : Nat) (b_0 : Int) (b : List Int) (b_n b_c : Nat) : Int -> Prop := fun s => match s with | v5 => 0 <= v5 /\ v5 <= (a_n : Int) /\ a_0 = b_0 /\ a_n = b_n /\ List.take (Int.toNat v5) a = List.take (Int.toNat v5) b
def muz15_1 (a_0 : Int) (a : List Int) (a_n a_c : Nat) (b_0 : Int) (b : List Int) (b_n b_c : Nat) : Int -> Nat := fun s => match s with | v5 => (((a_n : Int) - v5).toNat)
def liz15_1 (a_0 : Int) (a : List Int) (a_n a_c : Nat) (b_0 : Int) (b : List Int) (b_n b_c : Nat) : Int -> Env := fun s => match s with | v5 => [(2, some (.ptr ⟨2, 0, 0, 1⟩ 2)), (3, some (.ptr ⟨3, 0, 0, 1⟩ 2)), (5, some (.int .i64 v5))]
def ljz15_1 (a_0 : Int) (a : List Int) (a_n a_c : Nat) (b_0 : Int) (b : List Int) (b_n b_c : Nat) : Int -> Heap := fun s => match s with | v5 => ⟨4, [(0, some ⟨false, [.ints .i64 a_n a], 0⟩), (1, some ⟨false, [.ints .i64 b_n b], 0⟩), (2, some ⟨true, [.one (.int .u64 a_0), .one (.slice ⟨0, 0, 0, 1⟩ a_n a_c)], 0⟩), (3, some ⟨true, [.one (.int .u64 b_0), .one (.slice ⟨1, 0, 0, 1⟩ b_n b_c)], 0⟩)]⟩
def kkz15_1 (w0 : World) (fp : Nat -> Nat -> Prop) (ρi : Rho) (Kf : SVal -> Heap -> Prop) (a_0 : Int) (a : List Int) (a_n a_c : Nat) (b_0 : Int) (b : List Int) (b_n b_c : Nat) (v5 : Int) : Cont := loopK 2 (ivz15_1 a_0 a a_n a_c b_0 b b_n b_c) (muz15_1 a_0 a a_n a_c b_0 b b_n b_c) (liz15_1 a_0 a a_n a_c b_0 b b_n b_c) (ljz15_1 a_0 a a_n a_c b_0 b b_n b_c) v5 (kkz15_0 w0 fp ρi Kf a_0 a a_n a_c b_0 b b_n b_c)
def kkz15_2 (w0 : World) (fp : Nat -> Nat -> Prop) (ρi : Rho) (Kf : SVal -> Heap -> Prop) (a_0 : Int) (a : List Int) (a_n a_c : Nat) (b_0 : Int) (b : List Int) (b_n b_c : Nat) (v5 : Int) : Cont := blockK 1 (fun e H => SemL Try.prog w0 fp ρi 2 38 [cz15_n11] e H (kkz15_1 w0 fp ρi Kf a_0 a a_n a_c b_0 b b_n b_c v5)) (kkz15_1 w0 fp ρi Kf a_0 a a_n a_c b_0 b b_n b_c v5)
theorem rz15_1 (a_0 : Int) (a : List Int) (a_n a_c : Nat) (b_0 : Int) (b : List Int) (b_n b_c : Nat) (v5 : Int) (Z : Env -> Heap -> Prop) (h : Z Yd15 (Yd16 a_n a b_n b)) : EvC Gq7Same cz15_n8 [] (Yd16 a_n a b_n b) [4] [0, 1] Z := EvC.of (by kernel_rfl) h
theorem rtz15_1 (a_0 : Int) (a : List Int) (a_n a_c : Nat) (b_0 : Int) (b : List Int) (b_n b_c : Nat) : RetC Rq7Same Yd15 (Yd16 a_n a b_n b) (.bool false) := RetC.of (fun Z => by kernel_rfl)
def vz15_1 (a_0 : Int) (a : List Int) (a_n a_c : Nat) (b_0 : Int) (b : List Int) (b_n b_c : Nat) (v5 : Int) : Prop := false = (sameC a_0 a b_0 b)
theorem pz15_1 (a_0 : Int) (a : List Int) (a_n a_c : Nat) (b_0 : Int) (b : List Int) (b_n b_c : Nat) (hK : (Yd18 Kf a_0 a b_0 b a_n b_n)) (v5 : Int) (h : vz15_1 a_0 a a_n a_c b_0 b b_n b_c v5) : SemL Try.prog w0 fp ρi 2 38 [cz15_n8, .ret] [] (Yd16 a_n a b_n b) (kkz15_2 w0 fp ρi Kf a_0 a a_n a_c b_0 b b_n b_c v5) :=
  L_regE hGq7Same (rz15_1 a_0 a a_n a_c b_0 b b_n b_c v5 _ (L_retE (R := Rq7Same) (m := 2) (Kf := Kf) (fun _ _ h => h) (rtz15_1 a_0 a a_n a_c b_0 b b_n b_c) (ret_of0 (Eq.mpr (cg1 (fun (z1 : Bool) => Ret0 2 Kf (.bool z1) (Yd16 a_n a b_n b)) h) (ret0_tau [] [0, 1] rfl (by kernel_rfl) rfl pbd (hsc pcs (hsc pcs heapSub_nil)) rfl (by kernel_rfl) (hK))))))
abbrev Yd19 (x0 : Nat) (x1 : List Int) (x2 : Nat) (x3 : List Int) (x4 : Int) (x5 : Nat) (x6 : Int) (x7 : Nat) : Heap := ⟨4, [(0, some ⟨false, [.ints .i64 x0 x1], 0⟩), (1, some ⟨false, [.ints .i64 x2 x3], 0⟩), (2, some ⟨true, [.one (.int .u64 x4), .one (.slice ⟨0, 0, 0, 1⟩ x0 x5)], 0⟩), (3, some ⟨true, [.one (.int .u64 x6), .one (.slice ⟨1, 0, 0, 1⟩ x2 x7)], 0⟩)]⟩
abbrev Yd20 (x0 : Int) : Env := [(2, some (.ptr ⟨2, 0, 0, 1⟩ 2)), (3, some (.ptr ⟨3, 0, 0, 1⟩ 2)), (5, some (.int .i64 x0))]
theorem rz15_2 (a_0 : Int) (a : List Int) (a_n a_c : Nat) (b_0 : Int) (b : List Int) (b_n b_c : Nat) (v5 : Int) (Z : Env -> Heap -> Prop) (h : Z [(2, some (.ptr ⟨2, 0, 0, 1⟩ 2)), (3, some (.ptr ⟨3, 0, 0, 1⟩ 2)), (5, some (.int .i64 (IntKind.i64.wrap (v5 + 1))))] (Yd19 a_n a b_n b a_0 a_c b_0 b_c)) : EvC Gq7Same cz15_n11 (Yd20 v5) (Yd19 a_n a b_n b a_0 a_c b_0 b_c) [2, 3, 5] [0, 1, 2, 3] Z := EvC.of (by kernel_rfl) h
def vz15_2 (a_0 : Int) (a : List Int) (a_n a_c : Nat) (b_0 : Int) (b : List Int) (b_n b_c : Nat) (v5 : Int) : Prop := (0 <= (IntKind.i64.wrap (v5 + 1)) /\ (IntKind.i64.wrap (v5 + 1)) <= (a_n : Int) /\ a_0 = b_0 /\ a_n = b_n /\ List.take (Int.toNat (IntKind.i64.wrap (v5 + 1))) a = List.take (Int.toNat (IntKind.i64.wrap (v5 + 1))) b) /\ ((((a_n : Int) - (IntKind.i64.wrap (v5 + 1))).toNat) < (((a_n : Int) - v5).toNat))
theorem pz15_2 (a_0 : Int) (a : List Int) (a_n a_c : Nat) (b_0 : Int) (b : List Int) (b_n b_c : Nat) (hK : (Yd18 Kf a_0 a b_0 b a_n b_n)) (v5 : Int) (h : vz15_2 a_0 a a_n a_c b_0 b b_n b_c v5) : SemL Try.prog w0 fp ρi 2 38 [cz15_n11] (Yd20 v5) (Yd19 a_n a b_n b a_0 a_c b_0 b_c) (kkz15_1 w0 fp ρi Kf a_0 a a_n a_c b_0 b b_n b_c v5) :=
  L_regE hGq7Same (rz15_2 a_0 a a_n a_c b_0 b b_n b_c v5 _ (L_nil (loop_back (x' := (IntKind.i64.wrap (v5 + 1))) (τ := tau []) h.1 h.2 (sub_tau' [] [0, 1, 2, 3] rfl rfl (esc bpt (esc bpt (esc pbd envSub_nil))) (hsc pcs (hsc pcs (hsc (bdCs_one pbd (bdCs_one bsl bdCs_nil)) (hsc (bdCs_one pbd (bdCs_one bsl bdCs_nil)) heapSub_nil)))) (by kernel_rfl) rfl))))
def vz15_3 (a_0 : Int) (a : List Int) (a_n a_c : Nat) (b_0 : Int) (b : List Int) (b_n b_c : Nat) (v5 : Int) : Prop := (((List.getD a (0 + (Int.toNat v5)) 0) != (List.getD b (0 + (Int.toNat v5)) 0)) = true -> (vz15_1 a_0 a a_n a_c b_0 b b_n b_c v5)) /\ (((List.getD a (0 + (Int.toNat v5)) 0) != (List.getD b (0 + (Int.toNat v5)) 0)) = false -> (vz15_2 a_0 a a_n a_c b_0 b b_n b_c v5))
abbrev Yd21 (x0 : Int) (x1 x2 : List Int) : Env := [(2, some (.ptr ⟨2, 0, 0, 1⟩ 2)), (3, some (.ptr ⟨3, 0, 0, 1⟩ 2)), (5, some (.int .i64 x0)), (37, some (.bool ((List.getD x1 (0 + (Int.toNat x0)) 0) != (List.getD x2 (0 + (Int.toNat x0)) 0))))]
theorem pz15_3 (a_0 : Int) (a : List Int) (a_n a_c : Nat) (b_0 : Int) (b : List Int) (b_n b_c : Nat) (hK : (Yd18 Kf a_0 a b_0 b a_n b_n)) (v5 : Int) (h : vz15_3 a_0 a a_n a_c b_0 b b_n b_c v5) : SemL Try.prog w0 fp ρi 2 38 [cz15_n9] (Yd21 v5 a b) (Yd19 a_n a b_n b a_0 a_c b_0 b_c) (kkz15_2 w0 fp ρi Kf a_0 a a_n a_c b_0 b b_n b_c v5) :=
  L_cond (q := ((List.getD a (0 + (Int.toNat v5)) 0) != (List.getD b (0 + (Int.toNat v5)) 0))) (by kernel_rfl) (fun hq => (L_seq (lpk [] [0, 1] (pz15_1 a_0 a a_n a_c b_0 b b_n b_c hK v5 (h.1 hq))))) (fun hq => (L_skip (L_nil (lpk [2, 3, 5] [0, 1, 2, 3] (pz15_2 a_0 a a_n a_c b_0 b b_n b_c hK v5 (h.2 hq))))))
theorem rz15_4 (a_0 : Int) (a : List Int) (a_n a_c : Nat) (b_0 : Int) (b : List Int) (b_n b_c : Nat) (v5 : Int) (Z : Env -> Heap -> Prop) (h : ((0 <= v5)) /\ ((v5 < ((a_n : Nat) : Int))) /\ (((0 + (Int.toNat v5)) < a_n)) /\ ((0 <= v5)) /\ ((v5 < ((b_n : Nat) : Int))) /\ (((0 + (Int.toNat v5)) < b_n)) /\ Z (Yd21 v5 a b) (Yd19 a_n a b_n b a_0 a_c b_0 b_c)) : EvQC Gq7Same cz15_n7i [] (Yd20 v5) (Yd19 a_n a b_n b a_0 a_c b_0 b_c) [2, 3, 5, 37] [0, 1, 2, 3] Z := EvQC.of (by kernel_rfl) h
def vz15_4 (a_0 : Int) (a : List Int) (a_n a_c : Nat) (b_0 : Int) (b : List Int) (b_n b_c : Nat) (v5 : Int) : Prop := ((0 <= v5)) /\ (((v5 < ((a_n : Nat) : Int))) /\ ((((0 + (Int.toNat v5)) < a_n)) /\ (((0 <= v5)) /\ (((v5 < ((b_n : Nat) : Int))) /\ ((((0 + (Int.toNat v5)) < b_n)) /\ (vz15_3 a_0 a a_n a_c b_0 b b_n b_c v5))))))
theorem pz15_4 (a_0 : Int) (a : List Int) (a_n a_c : Nat) (b_0 : Int) (b : List Int) (b_n b_c : Nat) (hK : (Yd18 Kf a_0 a b_0 b a_n b_n)) (v5 : Int) (h : vz15_4 a_0 a a_n a_c b_0 b b_n b_c v5) : SemL Try.prog w0 fp ρi 2 38 [cz15_n7, cz15_n9] (Yd20 v5) (Yd19 a_n a b_n b a_0 a_c b_0 b_c) (kkz15_2 w0 fp ρi Kf a_0 a a_n a_c b_0 b b_n b_c v5) :=
  L_regQE hGq7Same (its := cz15_n7i) (rz15_4 a_0 a a_n a_c b_0 b b_n b_c v5 _ ⟨h.1, ⟨h.2.1, ⟨h.2.2.1, ⟨h.2.2.2.1, ⟨h.2.2.2.2.1, ⟨h.2.2.2.2.2.1, (pz15_3 a_0 a a_n a_c b_0 b b_n b_c hK v5 h.2.2.2.2.2.2)⟩⟩⟩⟩⟩⟩)
def vz15_5 (a_0 : Int) (a : List Int) (a_n a_c : Nat) (b_0 : Int) (b : List Int) (b_n b_c : Nat) (v5 : Int) : Prop := vz15_4 a_0 a a_n a_c b_0 b b_n b_c v5
theorem pz15_5 (a_0 : Int) (a : List Int) (a_n a_c : Nat) (b_0 : Int) (b : List Int) (b_n b_c : Nat) (hK : (Yd18 Kf a_0 a b_0 b a_n b_n)) (v5 : Int) (h : vz15_5 a_0 a a_n a_c b_0 b b_n b_c v5) : SemL Try.prog w0 fp ρi 2 38 [cz15_n10, cz15_n11] (Yd20 v5) (Yd19 a_n a b_n b a_0 a_c b_0 b_c) (kkz15_1 w0 fp ρi Kf a_0 a a_n a_c b_0 b b_n b_c v5) :=
  L_block (L_seq (pz15_4 a_0 a a_n a_c b_0 b b_n b_c hK v5 h))
theorem rz15_6 (a_0 : Int) (a : List Int) (a_n a_c : Nat) (b_0 : Int) (b : List Int) (b_n b_c : Nat) (Z : Env -> Heap -> Prop) (h : Z [(4, some (.bool true))] (Yd16 a_n a b_n b)) : EvC Gq7Same cz15_n14 [] (Yd16 a_n a b_n b) [4] [0, 1] Z := EvC.of (by kernel_rfl) h
theorem rtz15_2 (a_0 : Int) (a : List Int) (a_n a_c : Nat) (b_0 : Int) (b : List Int) (b_n b_c : Nat) : RetC Rq7Same [(4, some (.bool true))] (Yd16 a_n a b_n b) (.bool true) := RetC.of (fun Z => by kernel_rfl)
def vz15_6 (a_0 : Int) (a : List Int) (a_n a_c : Nat) (b_0 : Int) (b : List Int) (b_n b_c : Nat) : Prop := true = (sameC a_0 a b_0 b)
theorem pz15_6 (a_0 : Int) (a : List Int) (a_n a_c : Nat) (b_0 : Int) (b : List Int) (b_n b_c : Nat) (hK : (Yd18 Kf a_0 a b_0 b a_n b_n)) (h : vz15_6 a_0 a a_n a_c b_0 b b_n b_c) : SemL Try.prog w0 fp ρi 2 38 [cz15_n14, .ret] [] (Yd16 a_n a b_n b) (fnK Rq7Same 2 Kf) :=
  L_regE hGq7Same (rz15_6 a_0 a a_n a_c b_0 b b_n b_c _ (L_retE (R := Rq7Same) (m := 2) (Kf := Kf) (fun _ _ h => h) (rtz15_2 a_0 a a_n a_c b_0 b b_n b_c) (ret_of0 (Eq.mpr (cg1 (fun (z1 : Bool) => Ret0 2 Kf (.bool z1) (Yd16 a_n a b_n b)) h) (ret0_tau [] [0, 1] rfl (by kernel_rfl) rfl pbd (hsc pcs (hsc pcs heapSub_nil)) rfl (by kernel_rfl) (hK))))))
def vz15_7 (a_0 : Int) (a : List Int) (a_n a_c : Nat) (b_0 : Int) (b : List Int) (b_n b_c : Nat) (v5 : Int) : Prop := ((decide (v5 < ((a_n : Nat) : Int))) = true -> (vz15_5 a_0 a a_n a_c b_0 b b_n b_c v5)) /\ ((decide (v5 < ((a_n : Nat) : Int))) = false -> (vz15_6 a_0 a a_n a_c b_0 b b_n b_c))
abbrev Yd22 (x0 : Int) (x1 : Nat) : Env := [(2, some (.ptr ⟨2, 0, 0, 1⟩ 2)), (3, some (.ptr ⟨3, 0, 0, 1⟩ 2)), (5, some (.int .i64 x0)), (24, some (.bool (decide (x0 < ((x1 : Nat) : Int)))))]
theorem pz15_7 (a_0 : Int) (a : List Int) (a_n a_c : Nat) (b_0 : Int) (b : List Int) (b_n b_c : Nat) (hK : (Yd18 Kf a_0 a b_0 b a_n b_n)) (v5 : Int) (h : vz15_7 a_0 a a_n a_c b_0 b b_n b_c v5) : SemL Try.prog w0 fp ρi 2 38 [cz15_n6, (.seq cz15_n10 cz15_n11)] (Yd22 v5 a_n) (Yd19 a_n a b_n b a_0 a_c b_0 b_c) (kkz15_1 w0 fp ρi Kf a_0 a a_n a_c b_0 b b_n b_c v5) :=
  L_cond (q := (decide (v5 < ((a_n : Nat) : Int)))) (by kernel_rfl) (fun hq => (L_skip (lpk [2, 3, 5] [0, 1, 2, 3] (L_seq (pz15_5 a_0 a a_n a_c b_0 b b_n b_c hK v5 (h.1 hq)))))) (fun hq => (L_exit (lpk [] [0, 1] (L_seq (pz15_6 a_0 a a_n a_c b_0 b b_n b_c hK (h.2 hq))))))
theorem rz15_8 (a_0 : Int) (a : List Int) (a_n a_c : Nat) (b_0 : Int) (b : List Int) (b_n b_c : Nat) (v5 : Int) (Z : Env -> Heap -> Prop) (h : Z (Yd22 v5 a_n) (Yd19 a_n a b_n b a_0 a_c b_0 b_c)) : EvC Gq7Same cz15_n5 (Yd20 v5) (Yd19 a_n a b_n b a_0 a_c b_0 b_c) [2, 3, 5, 24] [0, 1, 2, 3] Z := EvC.of (by kernel_rfl) h
def vz15_8 (a_0 : Int) (a : List Int) (a_n a_c : Nat) (b_0 : Int) (b : List Int) (b_n b_c : Nat) (v5 : Int) : Prop := vz15_7 a_0 a a_n a_c b_0 b b_n b_c v5
theorem pz15_8 (a_0 : Int) (a : List Int) (a_n a_c : Nat) (b_0 : Int) (b : List Int) (b_n b_c : Nat) (hK : (Yd18 Kf a_0 a b_0 b a_n b_n)) (v5 : Int) (h : vz15_8 a_0 a a_n a_c b_0 b b_n b_c v5) : SemL Try.prog w0 fp ρi 2 38 [cz15_n5, cz15_n6, (.seq cz15_n10 cz15_n11)] (Yd20 v5) (Yd19 a_n a b_n b a_0 a_c b_0 b_c) (kkz15_1 w0 fp ρi Kf a_0 a a_n a_c b_0 b b_n b_c v5) :=
  L_regE hGq7Same (rz15_8 a_0 a a_n a_c b_0 b b_n b_c v5 _ (pz15_7 a_0 a a_n a_c b_0 b b_n b_c hK v5 h))
def vz15_9 (a_0 : Int) (a : List Int) (a_n a_c : Nat) (b_0 : Int) (b : List Int) (b_n b_c : Nat) : Prop := (0 <= (0 : Int) /\ (0 : Int) <= (a_n : Int) /\ a_0 = b_0 /\ a_n = b_n /\ List.take (Int.toNat (0 : Int)) a = List.take (Int.toNat (0 : Int)) b) /\ (∀ (v5 : Int), (0 <= v5 /\ v5 <= (a_n : Int) /\ a_0 = b_0 /\ a_n = b_n /\ List.take (Int.toNat v5) a = List.take (Int.toNat v5) b) -> (vz15_8 a_0 a a_n a_c b_0 b b_n b_c v5))
abbrev Yd23 : Env := [(2, some (.ptr ⟨2, 0, 0, 1⟩ 2)), (3, some (.ptr ⟨3, 0, 0, 1⟩ 2)), (5, some (.int .i64 0))]
theorem pz15_9 (a_0 : Int) (a : List Int) (a_n a_c : Nat) (b_0 : Int) (b : List Int) (b_n b_c : Nat) (hK : (Yd18 Kf a_0 a b_0 b a_n b_n)) (h : vz15_9 a_0 a a_n a_c b_0 b b_n b_c) : SemL Try.prog w0 fp ρi 2 38 [cz15_n12] Yd23 (Yd19 a_n a b_n b a_0 a_c b_0 b_c) (kkz15_0 w0 fp ρi Kf a_0 a a_n a_c b_0 b b_n b_c) :=
  L_loop (ivz15_1 a_0 a a_n a_c b_0 b b_n b_c) (muz15_1 a_0 a a_n a_c b_0 b b_n b_c) (liz15_1 a_0 a a_n a_c b_0 b b_n b_c) (ljz15_1 a_0 a a_n a_c b_0 b b_n b_c) ⟨0, tau [], h.1, (sub_tau' [] [0, 1, 2, 3] rfl rfl (esc bpt (esc bpt (esc pbd envSub_nil))) (hsc pcs (hsc pcs (hsc (bdCs_one pbd (bdCs_one bsl bdCs_nil)) (hsc (bdCs_one pbd (bdCs_one bsl bdCs_nil)) heapSub_nil)))) (by kernel_rfl) rfl)⟩ (fun s => match s with | v5 => fun hi => (L_seq (L_seq (pz15_8 a_0 a a_n a_c b_0 b b_n b_c hK v5 (h.2 v5 hi)))))
def vz15_10 (a_0 : Int) (a : List Int) (a_n a_c : Nat) (b_0 : Int) (b : List Int) (b_n b_c : Nat) : Prop := vz15_9 a_0 a a_n a_c b_0 b b_n b_c
theorem pz15_10 (a_0 : Int) (a : List Int) (a_n a_c : Nat) (b_0 : Int) (b : List Int) (b_n b_c : Nat) (hK : (Yd18 Kf a_0 a b_0 b a_n b_n)) (h : vz15_10 a_0 a a_n a_c b_0 b b_n b_c) : SemL Try.prog w0 fp ρi 2 38 [cz15_n13, (.seq cz15_n14 .ret)] Yd23 (Yd19 a_n a b_n b a_0 a_c b_0 b_c) (fnK Rq7Same 2 Kf) :=
  L_block (pz15_9 a_0 a a_n a_c b_0 b b_n b_c hK h)
abbrev Yd24 : Env := [(2, some (.ptr ⟨2, 0, 0, 1⟩ 2)), (3, some (.ptr ⟨3, 0, 0, 1⟩ 2))]
theorem rz15_11 (a_0 : Int) (a : List Int) (a_n a_c : Nat) (b_0 : Int) (b : List Int) (b_n b_c : Nat) (Z : Env -> Heap -> Prop) (h : Z Yd23 (Yd19 a_n a b_n b a_0 a_c b_0 b_c)) : EvC Gq7Same cz15_n4 Yd24 (Yd19 a_n a b_n b a_0 a_c b_0 b_c) [2, 3, 5] [0, 1, 2, 3] Z := EvC.of (by kernel_rfl) h
def vz15_11 (a_0 : Int) (a : List Int) (a_n a_c : Nat) (b_0 : Int) (b : List Int) (b_n b_c : Nat) : Prop := vz15_10 a_0 a a_n a_c b_0 b b_n b_c
theorem pz15_11 (a_0 : Int) (a : List Int) (a_n a_c : Nat) (b_0 : Int) (b : List Int) (b_n b_c : Nat) (hK : (Yd18 Kf a_0 a b_0 b a_n b_n)) (h : vz15_11 a_0 a a_n a_c b_0 b b_n b_c) : SemL Try.prog w0 fp ρi 2 38 [cz15_n4, cz15_n13, (.seq cz15_n14 .ret)] Yd24 (Yd19 a_n a b_n b a_0 a_c b_0 b_c) (fnK Rq7Same 2 Kf) :=
  L_regE hGq7Same (rz15_11 a_0 a a_n a_c b_0 b b_n b_c _ (pz15_10 a_0 a a_n a_c b_0 b b_n b_c hK h))
def vz15_12 (a_0 : Int) (a : List Int) (a_n a_c : Nat) (b_0 : Int) (b : List Int) (b_n b_c : Nat) : Prop := (((a_0 != b_0) || (((a_n : Nat) : Int) != ((b_n : Nat) : Int))) = true -> (vz15_0 a_0 a a_n a_c b_0 b b_n b_c)) /\ (((a_0 != b_0) || (((a_n : Nat) : Int) != ((b_n : Nat) : Int))) = false -> (vz15_11 a_0 a a_n a_c b_0 b b_n b_c))
theorem pz15_12 (a_0 : Int) (a : List Int) (a_n a_c : Nat) (b_0 : Int) (b : List Int) (b_n b_c : Nat) (hK : (Yd18 Kf a_0 a b_0 b a_n b_n)) (h : vz15_12 a_0 a a_n a_c b_0 b b_n b_c) : SemL Try.prog w0 fp ρi 2 38 [cz15_n3, (.seq (.seq cz15_n4 cz15_n13) (.seq cz15_n14 .ret))] [(2, some (.ptr ⟨2, 0, 0, 1⟩ 2)), (3, some (.ptr ⟨3, 0, 0, 1⟩ 2)), (19, some (.bool ((a_0 != b_0) || (((a_n : Nat) : Int) != ((b_n : Nat) : Int)))))] (Yd19 a_n a b_n b a_0 a_c b_0 b_c) (fnK Rq7Same 2 Kf) :=
  L_cond (q := ((a_0 != b_0) || (((a_n : Nat) : Int) != ((b_n : Nat) : Int)))) (by kernel_rfl) (fun hq => (L_seq (lpk [] [0, 1] (pz15_0 a_0 a a_n a_c b_0 b b_n b_c hK (h.1 hq))))) (fun hq => (L_skip (lpk [2, 3] [0, 1, 2, 3] (L_seq (L_seq (pz15_11 a_0 a a_n a_c b_0 b b_n b_c hK (h.2 hq)))))))
theorem rz15_13 (a_0 : Int) (a : List Int) (a_n a_c : Nat) (b_0 : Int) (b : List Int) (b_n b_c : Nat) (Z : Env -> Heap -> Prop) (h : ∃ qq : Bool, ((a_0 != b_0) = false -> (keeps (Yd19 a_n a b_n b a_0 a_c b_0 b_c) (Yd19 a_n a b_n b a_0 a_c b_0 b_c) [(0, some ⟨false, [.ints .i64 a_n a], 0⟩), (1, some ⟨false, [.ints .i64 b_n b], 0⟩), (2, some ⟨true, [.one (.int .u64 a_0), .one (.slice ⟨0, 0, 0, 1⟩ a_n a_c)], 0⟩), (3, some ⟨true, [.one (.int .u64 b_0), .one (.slice ⟨1, 0, 0, 1⟩ b_n b_c)], 0⟩)]) /\ (((a_n : Nat) : Int) != ((b_n : Nat) : Int)) = qq) /\ ((a_0 != b_0) = true -> true = qq) /\ Z [(2, some (.ptr ⟨2, 0, 0, 1⟩ 2)), (3, some (.ptr ⟨3, 0, 0, 1⟩ 2)), (19, some (.bool qq))] (Yd19 a_n a b_n b a_0 a_c b_0 b_c)) : EvC Gq7Same cz15_n1 Yd24 (Yd19 a_n a b_n b a_0 a_c b_0 b_c) [2, 3, 19] [0, 1, 2, 3] Z := EvC.of (by kernel_rfl) h
def vz15_13 (a_0 : Int) (a : List Int) (a_n a_c : Nat) (b_0 : Int) (b : List Int) (b_n b_c : Nat) : Prop := vz15_12 a_0 a a_n a_c b_0 b b_n b_c
theorem pz15_13 (a_0 : Int) (a : List Int) (a_n a_c : Nat) (b_0 : Int) (b : List Int) (b_n b_c : Nat) (hK : (Yd18 Kf a_0 a b_0 b a_n b_n)) (h : vz15_13 a_0 a a_n a_c b_0 b b_n b_c) : SemL Try.prog w0 fp ρi 2 38 [cz15_n1, cz15_n3, (.seq (.seq cz15_n4 cz15_n13) (.seq cz15_n14 .ret))] Yd24 (Yd19 a_n a b_n b a_0 a_c b_0 b_c) (fnK Rq7Same 2 Kf) :=
  L_regE hGq7Same (rz15_13 a_0 a a_n a_c b_0 b b_n b_c _ ⟨((a_0 != b_0) || (((a_n : Nat) : Int) != ((b_n : Nat) : Int))), fun hc_qq => ⟨(keeps_refl _), (qo1 hc_qq)⟩, fun hc_qq => qo2 hc_qq, (pz15_12 a_0 a a_n a_c b_0 b b_n b_c hK h)⟩)
abbrev Yd25 (x0 : Int) (x1 x2 : Nat) (x3 : Int) (x4 x5 : Nat) : Env := [(0, some (.agg [.one (.int .u64 x0), .one (.slice ⟨0, 0, 0, 1⟩ x1 x2)])), (1, some (.agg [.one (.int .u64 x3), .one (.slice ⟨1, 0, 0, 1⟩ x4 x5)]))]
theorem rz15_14 (a_0 : Int) (a : List Int) (a_n a_c : Nat) (b_0 : Int) (b : List Int) (b_n b_c : Nat) (Z : Env -> Heap -> Prop) (h : Z Yd24 (Yd19 a_n a b_n b a_0 a_c b_0 b_c)) : EvC Gq7Same cz15_n0 (Yd25 a_0 a_n a_c b_0 b_n b_c) (Yd17 a_n a b_n b) [2, 3] [0, 1, 2, 3] Z := EvC.of (by kernel_rfl) h
def vz15_14 (a_0 : Int) (a : List Int) (a_n a_c : Nat) (b_0 : Int) (b : List Int) (b_n b_c : Nat) : Prop := vz15_13 a_0 a a_n a_c b_0 b b_n b_c
theorem pz15_14 (a_0 : Int) (a : List Int) (a_n a_c : Nat) (b_0 : Int) (b : List Int) (b_n b_c : Nat) (hK : (Yd18 Kf a_0 a b_0 b a_n b_n)) (h : vz15_14 a_0 a a_n a_c b_0 b b_n b_c) : SemL Try.prog w0 fp ρi 2 38 [cz15_n0, (.seq (.seq cz15_n1 cz15_n3) (.seq (.seq cz15_n4 cz15_n13) (.seq cz15_n14 .ret)))] (Yd25 a_0 a_n a_c b_0 b_n b_c) (Yd17 a_n a b_n b) (fnK Rq7Same 2 Kf) :=
  L_regE hGq7Same (rz15_14 a_0 a a_n a_c b_0 b b_n b_c _ (L_seq (L_seq (pz15_13 a_0 a a_n a_c b_0 b b_n b_c hK h))))
def vcq7Same (a_0 : Int) (a : List Int) (a_n a_c : Nat) (b_0 : Int) (b : List Int) (b_n b_c : Nat) : Prop := vz15_14 a_0 a a_n a_c b_0 b b_n b_c
theorem wq7Same (a_0 : Int) (a : List Int) (a_n a_c : Nat) (b_0 : Int) (b : List Int) (b_n b_c : Nat) (hK : (Yd18 Kf a_0 a b_0 b a_n b_n)) (h : vcq7Same a_0 a a_n a_c b_0 b b_n b_c) : SemL Try.prog w0 fp ρi 2 38 [cq7Same] (Yd25 a_0 a_n a_c b_0 b_n b_c) (Yd17 a_n a b_n b) (fnK Rq7Same 2 Kf) :=
  (L_seq (pz15_14 a_0 a a_n a_c b_0 b b_n b_c hK h))
end
theorem okq7Same (a_0 : Int) (a : List Int) (a_n a_c : Nat) (b_0 : Int) (b : List Int) (b_n b_c : Nat) (hpre : ((List.length a = a_n /\ a_n <= a_c /\ a_n <= 1000000) /\ (List.length b = b_n /\ b_n <= b_c /\ b_n <= 1000000))) : vcq7Same a_0 a a_n a_c b_0 b b_n b_c := by
  unfold vcq7Same vz15_14 vz15_13 vz15_12 vz15_11 vz15_10 vz15_9 vz15_8 vz15_7 vz15_6 vz15_5 vz15_4 vz15_3 vz15_2 vz15_1 vz15_0
  obtain ⟨⟨ha, -, ha2⟩, hb, -, hb2⟩ := hpre
  refine ⟨fun h => ?_, fun h => ⟨?_, ?_⟩⟩
  · simp only [Bool.or_eq_true, bne_iff_ne, ne_eq] at h
    unfold sameC
    symm
    rw [Bool.and_eq_false_iff]
    rcases h with h | h
    · left; exact beq_eq_false_iff_ne.2 h
    · right; refine beq_eq_false_iff_ne.2 fun he => h ?_
      rw [<- ha, <- hb, he]
  · simp only [Bool.or_eq_false_iff, bne_eq_false_iff_eq] at h
    exact ⟨by omega, by omega, h.1, by omega, rfl⟩
  · rintro i ⟨h0, h1, rfl, rfl, ht⟩
    refine ⟨fun hlt => ?_, fun hge => ?_⟩
    · have hlt := of_decide_eq_true hlt
      refine ⟨h0, hlt, by omega, h0, hlt, by omega, fun hd => ?_, fun hd => ?_⟩
      · simp only [bne_iff_ne, ne_eq] at hd
        unfold sameC
        symm
        rw [Bool.and_eq_false_iff]
        right; exact beq_eq_false_iff_ne.2 fun he => hd (by rw [he])
      · simp only [bne_eq_false_iff_eq, Nat.zero_add] at hd
        have e1 : IntKind.i64.wrap (i + 1) = i + 1 := by rw [wi64]; omega
        have e2 : (i + 1).toNat = i.toNat + 1 := by omega
        rw [e1, e2, take_succ_getD (by omega), take_succ_getD (by omega), ht, hd]
        exact ⟨⟨by omega, by omega, rfl, rfl, rfl⟩, by omega⟩
    · have hge := of_decide_eq_false hge
      rw [List.take_of_length_le (by omega), List.take_of_length_le (by omega)] at ht
      unfold sameC
      rw [ht]; simp
theorem sq7Same : Sound Try.prog 15 (gS Dq7Same) := by
  refine fn_soundA cq7Same_fits ?_
  intro args H K h
  obtain ⟨pre, out, hD, hpre, hK⟩ := gS_inv h
  unfold Dq7Same at hD
  split at hD
  · cases hD
    obtain ⟨rfl, rfl, hpre⟩ := hpre
    exact ⟨rfl, fun w0 fp ρi => wq7Same _ _ _ _ _ _ _ _ hK (okq7Same _ _ _ _ _ _ _ _ hpre)⟩
  · cases hD
def DcRight : GSpec := fun args H => match args, H with
  | [.agg [.one (.int .i64 p_0), .one (.int .i64 p_1), .one (.int .i64 p_2), .one (.int .i64 p_3), .one (.int .i64 p_4), .one (.int .i64 p_5), .one (.int .u64 p_6), .one (.int .i64 p_7), .one (.int .i64 p_8), .one (.int .i64 p_9), .one (.int .i64 p_10), .one (.int .i64 p_11), .one (.int .i64 p_12), .one (.int .i64 p_13), .ints .u8 p_14_n p_14, .ints .u8 p_15_n p_15], .agg [.one (.int .u64 c_0), .one (.slice ⟨0, 0, 0, 1⟩ c_n c_c)]], ⟨1, [(0, some ⟨false, [.ints .i64 c_m c], 0⟩)]⟩ => bif Nat.beq p_14_n 16 && Nat.beq p_15_n 16 then some (c_m = c_n /\ (List.length c = c_n /\ c_n <= c_c /\ c_n <= 1000000), fun K => K (.int .i64 (PlanV.wrongC (PlanV.mk p_0 p_1 p_2 p_3 p_4 p_5 p_6 p_7 p_8 p_9 p_10 p_11 p_12 p_13 p_14 p_15) c_0 c)) ⟨1, [(0, some ⟨false, [.ints .i64 c_n c], 0⟩)]⟩) else none
  | _, _ => none
def concRight : Con := ⟨39, gS DcRight, [], [], [(some [.ints .i64 0 ([] : List Int)])]⟩
def cz39_n0 : ACode := .reg (.op (some 2) (.box (.tm 0)) (.op (some 3) (.box (.tm 1)) (.op (some 4) (.mov (.cn (.int .i64 0))) .nil)))
def cz39_n1 : ACode := .reg (.op (some 6) (.loadA 46 (.tm 2)) (.op (some 7) (.call 55 [(.tm 6)]) (.op (some 8) (.bin .neq (.tm 7) (.cn (.int .i64 0))) (.op (some 5) (.mov (.tm 8)) .nil))))
def cz39_n2 : ACode := .reg (.op (some 4) (.mov (.cn (.int .i64 4))) .nil)
def cz39_n3 : ACode := .reg (.op (some 10) (.fieldAddr (.tm 3) 0 1) (.op (some 11) (.load1 (.tm 10)) (.op (some 12) (.fieldAddr (.tm 2) 6 1) (.op (some 13) (.load1 (.tm 12)) (.op (some 14) (.bin .gtr (.tm 11) (.tm 13)) (.op (some 9) (.mov (.tm 14)) .nil))))))
def cz39_n4 : ACode := .reg (.op (some 15) (.fieldAddr (.tm 3) 1 1) (.op (some 16) (.load1 (.tm 15)) (.op (some 17) (.len (.tm 16)) (.op (some 18) (.fieldAddr (.tm 2) 3 1) (.op (some 19) (.load1 (.tm 18)) (.op (some 20) (.bin .neq (.tm 17) (.tm 19)) (.op (some 9) (.mov (.tm 20)) .nil)))))))
def cz39_n5 : ACode := .reg (.op (some 21) (.fieldAddr (.tm 3) 1 1) (.op (some 22) (.load1 (.tm 21)) (.op (some 23) (.mkFn 63 [(.tm 2)]) (.op (some 24) (.call 62 [(.tm 22), (.tm 23)]) (.op (some 9) (.mov (.tm 24)) .nil)))))
def cz39_n6 : ACode := .cond (.tm 9) .skip cz39_n5
def cz39_n7 : ACode := .cond (.tm 9) .skip (.seq cz39_n4 cz39_n6)
def cz39_n8 : ACode := .reg (.op (some 4) (.mov (.cn (.int .i64 1))) .nil)
def cz39_n9 : ACode := .cond (.tm 9) (.seq cz39_n8 .ret) .skip
def cz39_n10 : ACode := .cond (.tm 5) (.seq cz39_n2 .ret) (.seq (.seq cz39_n3 cz39_n7) cz39_n9)
def cz39_n11 : ACode := .block 0 (.seq cz39_n1 cz39_n10)
def cz39_n12 : ACode := .reg (.op (some 4) (.mov (.cn (.int .i64 0))) .nil)
def ccRight : ACode := (.seq cz39_n0 (.seq cz39_n11 (.seq cz39_n12 .ret)))
def RcRight : Res := .one (.tm 4)
theorem ccRight_fits : fnFits Try.prog 39 2 25 ccRight RcRight = true := by kernel_rfl
def GcRight : Calls' := withP [pcpCheck] [concFn]
theorem hGcRight : CallOk Try.prog GcRight := withP_ok ⟨spCheck, trivial⟩ ⟨scFn, trivial⟩
section
variable {w0 : World} {fp : Nat -> Nat -> Prop} {ρi : Rho} {Kf : SVal -> Heap -> Prop}
def kkz39_0 (w0 : World) (fp : Nat -> Nat -> Prop) (ρi : Rho) (Kf : SVal -> Heap -> Prop) (p : PlanV) (c_0 : Int) (c : List Int) (c_n c_c : Nat) : Cont := blockK 0 (fun e H => SemL Try.prog w0 fp ρi 1 25 [(.seq cz39_n12 .ret)] e H (fnK RcRight 1 Kf)) (fnK RcRight 1 Kf)
abbrev Yd26 (x0 : Nat) (x1 : List Int) : Heap := ⟨3, [(0, some ⟨false, [.ints .i64 x0 x1], 0⟩)]⟩
theorem rz39_0 (p : PlanV) (c_0 : Int) (c : List Int) (c_n c_c : Nat) (Z : Env -> Heap -> Prop) (h : Z [(4, some (.int .i64 4))] (Yd26 c_n c)) : EvC GcRight cz39_n2 [] (Yd26 c_n c) [4] [0] Z := EvC.of (by kernel_rfl) h
theorem rtz39_0 (p : PlanV) (c_0 : Int) (c : List Int) (c_n c_c : Nat) : RetC RcRight [(4, some (.int .i64 4))] (Yd26 c_n c) (.int .i64 4) := RetC.of (fun Z => by kernel_rfl)
def vz39_0 (p : PlanV) (c_0 : Int) (c : List Int) (c_n c_c : Nat) : Prop := 4 = (PlanV.wrongC p c_0 c)
abbrev Yd27 (x0 : Nat) (x1 : List Int) : Heap := ⟨1, [(0, some ⟨false, [.ints .i64 x0 x1], 0⟩)]⟩
abbrev Yd28 (x0 : SVal -> Heap -> Prop) (x1 : PlanV) (x2 : Int) (x3 : List Int) (x4 : Nat) : Prop := x0 (.int .i64 (PlanV.wrongC x1 x2 x3)) ⟨1, [(0, some ⟨false, [.ints .i64 x4 x3], 0⟩)]⟩
theorem pz39_0 (p : PlanV) (c_0 : Int) (c : List Int) (c_n c_c : Nat) (hK : (Yd28 Kf p c_0 c c_n)) (h : vz39_0 p c_0 c c_n c_c) : SemL Try.prog w0 fp ρi 1 25 [cz39_n2, .ret] [] (Yd26 c_n c) (kkz39_0 w0 fp ρi Kf p c_0 c c_n c_c) :=
  L_regE hGcRight (rz39_0 p c_0 c c_n c_c _ (L_retE (R := RcRight) (m := 1) (Kf := Kf) (fun _ _ h => h) (rtz39_0 p c_0 c c_n c_c) (ret_of0 (Eq.mpr (cg1 (fun (z1 : Int) => Ret0 1 Kf (.int .i64 z1) (Yd26 c_n c)) h) (ret0_tau [] [0] rfl (by kernel_rfl) rfl pbd (hsc pcs heapSub_nil) rfl (by kernel_rfl) (hK))))))
theorem rz39_1 (p : PlanV) (c_0 : Int) (c : List Int) (c_n c_c : Nat) (Z : Env -> Heap -> Prop) (h : Z [(4, some (.int .i64 1))] (Yd26 c_n c)) : EvC GcRight cz39_n8 [] (Yd26 c_n c) [4] [0] Z := EvC.of (by kernel_rfl) h
theorem rtz39_1 (p : PlanV) (c_0 : Int) (c : List Int) (c_n c_c : Nat) : RetC RcRight [(4, some (.int .i64 1))] (Yd26 c_n c) (.int .i64 1) := RetC.of (fun Z => by kernel_rfl)
def vz39_1 (p : PlanV) (c_0 : Int) (c : List Int) (c_n c_c : Nat) : Prop := 1 = (PlanV.wrongC p c_0 c)
theorem pz39_1 (p : PlanV) (c_0 : Int) (c : List Int) (c_n c_c : Nat) (hK : (Yd28 Kf p c_0 c c_n)) (h : vz39_1 p c_0 c c_n c_c) : SemL Try.prog w0 fp ρi 1 25 [cz39_n8, .ret] [] (Yd26 c_n c) (kkz39_0 w0 fp ρi Kf p c_0 c c_n c_c) :=
  L_regE hGcRight (rz39_1 p c_0 c c_n c_c _ (L_retE (R := RcRight) (m := 1) (Kf := Kf) (fun _ _ h => h) (rtz39_1 p c_0 c c_n c_c) (ret_of0 (Eq.mpr (cg1 (fun (z1 : Int) => Ret0 1 Kf (.int .i64 z1) (Yd26 c_n c)) h) (ret0_tau [] [0] rfl (by kernel_rfl) rfl pbd (hsc pcs heapSub_nil) rfl (by kernel_rfl) (hK))))))
theorem rz39_2 (p : PlanV) (c_0 : Int) (c : List Int) (c_n c_c : Nat) (Z : Env -> Heap -> Prop) (h : Z [(4, some (.int .i64 0))] (Yd26 c_n c)) : EvC GcRight cz39_n12 [] (Yd26 c_n c) [4] [0] Z := EvC.of (by kernel_rfl) h
theorem rtz39_2 (p : PlanV) (c_0 : Int) (c : List Int) (c_n c_c : Nat) : RetC RcRight [(4, some (.int .i64 0))] (Yd26 c_n c) (.int .i64 0) := RetC.of (fun Z => by kernel_rfl)
def vz39_2 (p : PlanV) (c_0 : Int) (c : List Int) (c_n c_c : Nat) : Prop := 0 = (PlanV.wrongC p c_0 c)
theorem pz39_2 (p : PlanV) (c_0 : Int) (c : List Int) (c_n c_c : Nat) (hK : (Yd28 Kf p c_0 c c_n)) (h : vz39_2 p c_0 c c_n c_c) : SemL Try.prog w0 fp ρi 1 25 [cz39_n12, .ret] [] (Yd26 c_n c) (fnK RcRight 1 Kf) :=
  L_regE hGcRight (rz39_2 p c_0 c c_n c_c _ (L_retE (R := RcRight) (m := 1) (Kf := Kf) (fun _ _ h => h) (rtz39_2 p c_0 c c_n c_c) (ret_of0 (Eq.mpr (cg1 (fun (z1 : Int) => Ret0 1 Kf (.int .i64 z1) (Yd26 c_n c)) h) (ret0_tau [] [0] rfl (by kernel_rfl) rfl pbd (hsc pcs heapSub_nil) rfl (by kernel_rfl) (hK))))))
def vz39_3 (p : PlanV) (c_0 : Int) (c : List Int) (c_n c_c : Nat) (v9 : Bool) : Prop := (v9 = true -> (vz39_1 p c_0 c c_n c_c)) /\ (v9 = false -> (vz39_2 p c_0 c c_n c_c))
theorem pz39_3 (p : PlanV) (c_0 : Int) (c : List Int) (c_n c_c : Nat) (hK : (Yd28 Kf p c_0 c c_n)) (v9 : Bool) (h : vz39_3 p c_0 c c_n c_c v9) : SemL Try.prog w0 fp ρi 1 25 [cz39_n9] [(9, some (.bool v9))] (Yd26 c_n c) (kkz39_0 w0 fp ρi Kf p c_0 c c_n c_c) :=
  L_cond (q := v9) (by kernel_rfl) (fun hq => (L_seq (lpk [] [0] (pz39_1 p c_0 c c_n c_c hK (h.1 hq))))) (fun hq => (L_skip (L_nil (lpk [] [0] (L_seq (pz39_2 p c_0 c c_n c_c hK (h.2 hq)))))))
abbrev Yd29 : Env := [(2, some (.ptr ⟨1, 0, 0, 1⟩ 46)), (3, some (.ptr ⟨2, 0, 0, 1⟩ 2))]
abbrev Yd30 (x0 : Nat) (x1 : List Int) (x2 : PlanV) (x3 : Int) (x4 : Nat) : Heap := ⟨3, [(0, some ⟨false, [.ints .i64 x0 x1], 0⟩), (1, some ⟨true, (PlanV.cs x2), 0⟩), (2, some ⟨true, [.one (.int .u64 x3), .one (.slice ⟨0, 0, 0, 1⟩ x0 x4)], 0⟩)]⟩
theorem rz39_4 (p : PlanV) (c_0 : Int) (c : List Int) (c_n c_c : Nat) (Z : Env -> Heap -> Prop) (h : (((0 + c_n) <= c_n)) /\ (((c_n : Nat) = c_n) /\ ((List.length (List.take c_n c) = c_n /\ c_n <= c_c /\ c_n <= 1000000) /\ (PlanV.right p = true))) /\ Z [(9, some (.bool (List.any (List.take c_n c) (badM p))))] (Yd26 c_n c)) : EvC GcRight cz39_n5 Yd29 (Yd30 c_n c p c_0 c_c) [9] [0] Z := EvC.of (by kernel_rfl) h
def vz39_4 (p : PlanV) (c_0 : Int) (c : List Int) (c_n c_c : Nat) : Prop := (((0 + c_n) <= c_n)) /\ ((((List.length (List.take c_n c) = c_n /\ c_n <= c_c /\ c_n <= 1000000) /\ (PlanV.right p = true))) /\ (∀ v9 : Bool, v9 = (List.any (List.take c_n c) (badM p)) -> vz39_3 p c_0 c c_n c_c v9))
theorem pz39_4 (p : PlanV) (c_0 : Int) (c : List Int) (c_n c_c : Nat) (hK : (Yd28 Kf p c_0 c c_n)) (h : vz39_4 p c_0 c c_n c_c) : SemL Try.prog w0 fp ρi 1 25 [cz39_n5, cz39_n9] Yd29 (Yd30 c_n c p c_0 c_c) (kkz39_0 w0 fp ρi Kf p c_0 c c_n c_c) :=
  L_regE hGcRight (rz39_4 p c_0 c c_n c_c _ ⟨h.1, ⟨⟨rfl, h.2.1⟩, (pz39_3 p c_0 c c_n c_c hK (List.any (List.take c_n c) (badM p)) (h.2.2 (List.any (List.take c_n c) (badM p)) rfl))⟩⟩)
def vz39_5 (p : PlanV) (c_0 : Int) (c : List Int) (c_n c_c : Nat) : Prop := ((((c_n : Nat) : Int) != p.lines) = true -> (∀ v9 : Bool, v9 = (((c_n : Nat) : Int) != p.lines) -> vz39_3 p c_0 c c_n c_c v9)) /\ ((((c_n : Nat) : Int) != p.lines) = false -> (vz39_4 p c_0 c c_n c_c))
abbrev Yd31 (x0 : Nat) (x1 : PlanV) : Env := [(2, some (.ptr ⟨1, 0, 0, 1⟩ 46)), (3, some (.ptr ⟨2, 0, 0, 1⟩ 2)), (9, some (.bool (((x0 : Nat) : Int) != x1.lines)))]
theorem pz39_5 (p : PlanV) (c_0 : Int) (c : List Int) (c_n c_c : Nat) (hK : (Yd28 Kf p c_0 c c_n)) (h : vz39_5 p c_0 c c_n c_c) : SemL Try.prog w0 fp ρi 1 25 [cz39_n6, cz39_n9] (Yd31 c_n p) (Yd30 c_n c p c_0 c_c) (kkz39_0 w0 fp ρi Kf p c_0 c c_n c_c) :=
  L_cond (q := (((c_n : Nat) : Int) != p.lines)) (by kernel_rfl) (fun hq => (L_skip (lpk [9] [0] (pz39_3 p c_0 c c_n c_c hK (((c_n : Nat) : Int) != p.lines) ((h.1 hq) (((c_n : Nat) : Int) != p.lines) rfl))))) (fun hq => (lpk [2, 3] [0, 1, 2] (pz39_4 p c_0 c c_n c_c hK (h.2 hq))))
theorem rz39_6 (p : PlanV) (c_0 : Int) (c : List Int) (c_n c_c : Nat) (Z : Env -> Heap -> Prop) (h : Z (Yd31 c_n p) (Yd30 c_n c p c_0 c_c)) : EvC GcRight cz39_n4 Yd29 (Yd30 c_n c p c_0 c_c) [2, 3, 9] [0, 1, 2] Z := EvC.of (by kernel_rfl) h
def vz39_6 (p : PlanV) (c_0 : Int) (c : List Int) (c_n c_c : Nat) : Prop := vz39_5 p c_0 c c_n c_c
theorem pz39_6 (p : PlanV) (c_0 : Int) (c : List Int) (c_n c_c : Nat) (hK : (Yd28 Kf p c_0 c c_n)) (h : vz39_6 p c_0 c c_n c_c) : SemL Try.prog w0 fp ρi 1 25 [cz39_n4, cz39_n6, cz39_n9] Yd29 (Yd30 c_n c p c_0 c_c) (kkz39_0 w0 fp ρi Kf p c_0 c c_n c_c) :=
  L_regE hGcRight (rz39_6 p c_0 c c_n c_c _ (pz39_5 p c_0 c c_n c_c hK h))
def vz39_7 (p : PlanV) (c_0 : Int) (c : List Int) (c_n c_c : Nat) : Prop := ((decide (p.major < c_0)) = true -> (∀ v9 : Bool, v9 = (decide (p.major < c_0)) -> vz39_3 p c_0 c c_n c_c v9)) /\ ((decide (p.major < c_0)) = false -> (vz39_6 p c_0 c c_n c_c))
abbrev Yd32 (x0 : PlanV) (x1 : Int) : Env := [(2, some (.ptr ⟨1, 0, 0, 1⟩ 46)), (3, some (.ptr ⟨2, 0, 0, 1⟩ 2)), (9, some (.bool (decide (x0.major < x1))))]
theorem pz39_7 (p : PlanV) (c_0 : Int) (c : List Int) (c_n c_c : Nat) (hK : (Yd28 Kf p c_0 c c_n)) (h : vz39_7 p c_0 c c_n c_c) : SemL Try.prog w0 fp ρi 1 25 [cz39_n7, cz39_n9] (Yd32 p c_0) (Yd30 c_n c p c_0 c_c) (kkz39_0 w0 fp ρi Kf p c_0 c c_n c_c) :=
  L_cond (q := (decide (p.major < c_0))) (by kernel_rfl) (fun hq => (L_skip (lpk [9] [0] (pz39_3 p c_0 c c_n c_c hK (decide (p.major < c_0)) ((h.1 hq) (decide (p.major < c_0)) rfl))))) (fun hq => (L_seq (lpk [2, 3] [0, 1, 2] (pz39_6 p c_0 c c_n c_c hK (h.2 hq)))))
theorem rz39_8 (p : PlanV) (c_0 : Int) (c : List Int) (c_n c_c : Nat) (Z : Env -> Heap -> Prop) (h : Z (Yd32 p c_0) (Yd30 c_n c p c_0 c_c)) : EvC GcRight cz39_n3 Yd29 (Yd30 c_n c p c_0 c_c) [2, 3, 9] [0, 1, 2] Z := EvC.of (by kernel_rfl) h
def vz39_8 (p : PlanV) (c_0 : Int) (c : List Int) (c_n c_c : Nat) : Prop := vz39_7 p c_0 c c_n c_c
theorem pz39_8 (p : PlanV) (c_0 : Int) (c : List Int) (c_n c_c : Nat) (hK : (Yd28 Kf p c_0 c c_n)) (h : vz39_8 p c_0 c c_n c_c) : SemL Try.prog w0 fp ρi 1 25 [cz39_n3, cz39_n7, cz39_n9] Yd29 (Yd30 c_n c p c_0 c_c) (kkz39_0 w0 fp ρi Kf p c_0 c c_n c_c) :=
  L_regE hGcRight (rz39_8 p c_0 c c_n c_c _ (pz39_7 p c_0 c c_n c_c hK h))
def vz39_9 (p : PlanV) (c_0 : Int) (c : List Int) (c_n c_c : Nat) : Prop := (((bif PlanV.right p then 0 else 4 : Int) != 0) = true -> (vz39_0 p c_0 c c_n c_c)) /\ (((bif PlanV.right p then 0 else 4 : Int) != 0) = false -> (vz39_8 p c_0 c c_n c_c))
abbrev Yd33 (x0 : PlanV) : Env := [(2, some (.ptr ⟨1, 0, 0, 1⟩ 46)), (3, some (.ptr ⟨2, 0, 0, 1⟩ 2)), (5, some (.bool ((bif PlanV.right x0 then 0 else 4 : Int) != 0)))]
theorem pz39_9 (p : PlanV) (c_0 : Int) (c : List Int) (c_n c_c : Nat) (hK : (Yd28 Kf p c_0 c c_n)) (h : vz39_9 p c_0 c c_n c_c) : SemL Try.prog w0 fp ρi 1 25 [cz39_n10] (Yd33 p) (Yd30 c_n c p c_0 c_c) (kkz39_0 w0 fp ρi Kf p c_0 c c_n c_c) :=
  L_cond (q := ((bif PlanV.right p then 0 else 4 : Int) != 0)) (by kernel_rfl) (fun hq => (L_seq (lpk [] [0] (pz39_0 p c_0 c c_n c_c hK (h.1 hq))))) (fun hq => (L_seq (L_seq (lpk [2, 3] [0, 1, 2] (pz39_8 p c_0 c c_n c_c hK (h.2 hq))))))
theorem rz39_10 (p : PlanV) (c_0 : Int) (c : List Int) (c_n c_c : Nat) (Z : Env -> Heap -> Prop) (h : (True) /\ Z (Yd33 p) (Yd30 c_n c p c_0 c_c)) : EvC GcRight cz39_n1 Yd29 (Yd30 c_n c p c_0 c_c) [2, 3, 5] [0, 1, 2] Z := EvC.of (by kernel_rfl) h
def vz39_10 (p : PlanV) (c_0 : Int) (c : List Int) (c_n c_c : Nat) : Prop := vz39_9 p c_0 c c_n c_c
theorem pz39_10 (p : PlanV) (c_0 : Int) (c : List Int) (c_n c_c : Nat) (hK : (Yd28 Kf p c_0 c c_n)) (h : vz39_10 p c_0 c c_n c_c) : SemL Try.prog w0 fp ρi 1 25 [cz39_n1, cz39_n10] Yd29 (Yd30 c_n c p c_0 c_c) (kkz39_0 w0 fp ρi Kf p c_0 c c_n c_c) :=
  L_regE hGcRight (rz39_10 p c_0 c c_n c_c _ ⟨True.intro, (pz39_9 p c_0 c c_n c_c hK h)⟩)
def vz39_11 (p : PlanV) (c_0 : Int) (c : List Int) (c_n c_c : Nat) : Prop := vz39_10 p c_0 c c_n c_c
theorem pz39_11 (p : PlanV) (c_0 : Int) (c : List Int) (c_n c_c : Nat) (hK : (Yd28 Kf p c_0 c c_n)) (h : vz39_11 p c_0 c c_n c_c) : SemL Try.prog w0 fp ρi 1 25 [cz39_n11, (.seq cz39_n12 .ret)] Yd29 (Yd30 c_n c p c_0 c_c) (fnK RcRight 1 Kf) :=
  L_block (L_seq (pz39_10 p c_0 c c_n c_c hK h))
abbrev Yd34 (x0 : PlanV) (x1 : Int) (x2 x3 : Nat) : Env := [(0, some (.agg (PlanV.cs x0))), (1, some (.agg [.one (.int .u64 x1), .one (.slice ⟨0, 0, 0, 1⟩ x2 x3)]))]
theorem rz39_12 (p : PlanV) (c_0 : Int) (c : List Int) (c_n c_c : Nat) (Z : Env -> Heap -> Prop) (h : Z Yd29 (Yd30 c_n c p c_0 c_c)) : EvC GcRight cz39_n0 (Yd34 p c_0 c_n c_c) (Yd27 c_n c) [2, 3] [0, 1, 2] Z := EvC.of (by kernel_rfl) h
def vz39_12 (p : PlanV) (c_0 : Int) (c : List Int) (c_n c_c : Nat) : Prop := vz39_11 p c_0 c c_n c_c
theorem pz39_12 (p : PlanV) (c_0 : Int) (c : List Int) (c_n c_c : Nat) (hK : (Yd28 Kf p c_0 c c_n)) (h : vz39_12 p c_0 c c_n c_c) : SemL Try.prog w0 fp ρi 1 25 [cz39_n0, (.seq cz39_n11 (.seq cz39_n12 .ret))] (Yd34 p c_0 c_n c_c) (Yd27 c_n c) (fnK RcRight 1 Kf) :=
  L_regE hGcRight (rz39_12 p c_0 c c_n c_c _ (L_seq (pz39_11 p c_0 c c_n c_c hK h)))
def vccRight (p : PlanV) (c_0 : Int) (c : List Int) (c_n c_c : Nat) : Prop := vz39_12 p c_0 c c_n c_c
theorem wcRight (p : PlanV) (c_0 : Int) (c : List Int) (c_n c_c : Nat) (hK : (Yd28 Kf p c_0 c c_n)) (h : vccRight p c_0 c c_n c_c) : SemL Try.prog w0 fp ρi 1 25 [ccRight] (Yd34 p c_0 c_n c_c) (Yd27 c_n c) (fnK RcRight 1 Kf) :=
  (L_seq (pz39_12 p c_0 c c_n c_c hK h))
end
theorem okcRight (p : PlanV) (c_0 : Int) (c : List Int) (c_n c_c : Nat) (hpre : (List.length c = c_n /\ c_n <= c_c /\ c_n <= 1000000)) : vccRight p c_0 c c_n c_c := by
  unfold vccRight vz39_12 vz39_11 vz39_10 vz39_9 vz39_8 vz39_7 vz39_6 vz39_5 vz39_4 vz39_3 vz39_2 vz39_1 vz39_0
  obtain ⟨hl, hc, hl2⟩ := hpre
  refine ⟨fun h => ?_, fun h => ?_⟩
  · have h := bif04_t h
    unfold PlanV.wrongC
    rw [if_neg (by rw [h]; decide)]
  have hr := bif04_f h
  have w1 : (p.major < c_0 ∨ (c.length : Int) ≠ p.lines ∨ c.any (fun x => decide (x < 0) || decide (p.top < x)) = true) -> 1 = p.wrongC c_0 c := fun h => by
    unfold PlanV.wrongC; rw [if_pos hr, if_pos h]
  have w0 : ¬ (p.major < c_0 ∨ (c.length : Int) ≠ p.lines ∨ c.any (fun x => decide (x < 0) || decide (p.top < x)) = true) -> 0 = p.wrongC c_0 c := fun h => by
    unfold PlanV.wrongC; rw [if_pos hr, if_neg h]
  refine ⟨fun hd => ?_, fun hd => ⟨fun hn => ?_, fun hn => ⟨by omega, ⟨⟨by rw [List.take_of_length_le (by omega)]; exact hl, hc, hl2⟩, hr⟩, ?_⟩⟩⟩
  · rintro v9 rfl
    exact ⟨fun h => w1 (.inl (of_decide_eq_true h)), fun h => by rw [hd] at h; cases h⟩
  · rintro v9 rfl
    exact ⟨fun h => w1 (.inr (.inl (by rw [hl]; simpa using h))), fun h => by rw [hn] at h; cases h⟩
  · rintro v9 rfl
    rw [List.take_of_length_le (by omega)]
    have hn : (c_n : Int) = p.lines := by simpa using hn
    have hd := of_decide_eq_false hd
    refine ⟨fun h => w1 (.inr (.inr h)), fun h => w0 ?_⟩
    rw [hl]
    rintro (h1 | h1 | h1)
    · exact hd h1
    · exact h1 hn
    · have h2 : c.any (badM p) = true := h1
      rw [h2] at h; cases h
theorem scRight : Sound Try.prog 39 (gS DcRight) := by
  refine fn_soundA ccRight_fits ?_
  intro args H K h
  obtain ⟨pre, out, hD, hpre, hK⟩ := gS_inv h
  unfold DcRight at hD
  split at hD
  · obtain ⟨hb, hD⟩ := bif_some hD
    simp only [Bool.and_eq_true] at hb
    obtain ⟨h0, h1⟩ := hb
    obtain rfl := Nat.eq_of_beq_eq_true h0
    obtain rfl := Nat.eq_of_beq_eq_true h1
    cases hD
    obtain ⟨rfl, hpre⟩ := hpre
    exact ⟨rfl, fun w0 fp ρi => wcRight (PlanV.mk _ _ _ _ _ _ _ _ _ _ _ _ _ _ _ _) _ _ _ _ hK (okcRight (PlanV.mk _ _ _ _ _ _ _ _ _ _ _ _ _ _ _ _) _ _ _ _ hpre)⟩
  · cases hD
def DcloneI : GSpec := fun args H => match args, H with
  | [.slice ⟨0, 0, 0, 1⟩ b_n b_c], ⟨1, [(0, some ⟨false, [.ints .i64 b_m b], 0⟩)]⟩ => some (b_m = b_n /\ (List.length b = b_n /\ b_n <= b_c /\ b_n <= 1000000), fun K => ∀ cap0 : Nat, b_n <= cap0 -> K (.slice ⟨1, 0, 0, 1⟩ b_n cap0) ⟨2, [(1, some ⟨true, [.ints .i64 b_n b], (cap0 - b_n)⟩), (0, some ⟨false, [.ints .i64 b_n b], 0⟩)]⟩)
  | _, _ => none
def concloneI : Con := ⟨40, gS DcloneI, [], [], [(some [.ints .i64 0 ([] : List Int)])]⟩
def cz40_n0 : ACode := .reg (.op (some 2) (.mov (.cn (.nilslice))) .nil)
def cz40_n1 : ACode := .reg (.op (some 3) (.mov (.tm 0)) (.op (some 4) (.isNil false (.tm 3)) .nil))
def cz40_n2 : ACode := .reg (.op (some 2) (.mov (.cn (.nilslice))) .nil)
def cz40_n3 : ACode := .cond (.tm 4) (.seq cz40_n2 .ret) .skip
def cz40_n4 : ACode := .reg (.op (some 5) (.bslice .i64 0 []) (.op (some 6) (.mov (.tm 0)) (.op (some 7) (.append .i64 (.tm 5) (.tm 6)) (.op (some 2) (.mov (.tm 7)) .nil))))
def ccloneI : ACode := (.seq cz40_n0 (.seq (.seq cz40_n1 cz40_n3) (.seq cz40_n4 .ret)))
def RcloneI : Res := .one (.tm 2)
theorem ccloneI_fits : fnFits Try.prog 40 1 8 ccloneI RcloneI = true := by kernel_rfl
def GcloneI : Calls' := withP [] []
theorem hGcloneI : CallOk Try.prog GcloneI := withP_ok trivial trivial
section
variable {w0 : World} {fp : Nat -> Nat -> Prop} {ρi : Rho} {Kf : SVal -> Heap -> Prop}
theorem rz40_0 (b : List Int) (b_n b_c : Nat) (Z : Env -> Heap -> Prop) (h : Z [(2, some (.nilslice))] (Yd27 b_n b)) : EvC GcloneI cz40_n2 [] (Yd27 b_n b) [2] [0] Z := EvC.of (by kernel_rfl) h
theorem rtz40_0 (b : List Int) (b_n b_c : Nat) : RetC RcloneI [(2, some (.nilslice))] (Yd27 b_n b) (.nilslice) := RetC.of (fun Z => by kernel_rfl)
def vz40_0 (b : List Int) (b_n b_c : Nat) : Prop := (0 = b_n) /\ (0 = b_n) /\ (([] : List Int) = b) /\ (0 = (0 - b_n)) /\ ((b_n : Nat) <= 0)
abbrev Yd35 (x0 : Nat) (x1 : List Int) (x2 : Nat) : Heap := ⟨2, [(1, some ⟨true, [.ints .i64 x0 x1], (x2 - x0)⟩), (0, some ⟨false, [.ints .i64 x0 x1], 0⟩)]⟩
theorem pz40_0 (b : List Int) (b_n b_c : Nat) (hK : ∀ cap0 : Nat, b_n <= cap0 -> Kf (.slice ⟨1, 0, 0, 1⟩ b_n cap0) (Yd35 b_n b cap0)) (h : vz40_0 b b_n b_c) : SemL Try.prog w0 fp ρi 1 8 [cz40_n2, .ret, (.seq cz40_n4 .ret)] [] (Yd27 b_n b) (fnK RcloneI 1 Kf) :=
  L_regE hGcloneI (rz40_0 b b_n b_c _ (L_retE (R := RcloneI) (m := 1) (Kf := Kf) (fun _ _ h => h) (rtz40_0 b b_n b_c) (ret_dn (r2 := .slice ⟨1, 0, 0, 1⟩ 0 0) (H2 := ⟨2, [(1, some ⟨true, [.ints .i64 0 ([] : List Int)], 0⟩), (0, some ⟨false, [.ints .i64 b_n b], 0⟩)]⟩) [(some [.ints .i64 0 ([] : List Int)])] rfl (by kernel_rfl) (Eq.mpr (cg4 (fun (z1 z2 : Nat) (z3 : List Int) (z4 : Nat) => Ret0 1 Kf (.slice ⟨1, 0, 0, 1⟩ z1 0) ⟨2, [(1, some ⟨true, [.ints .i64 z2 z3], z4⟩), (0, some ⟨false, [.ints .i64 b_n b], 0⟩)]⟩) h.1 h.2.1 h.2.2.1 h.2.2.2.1) (ret0_tau [] [1, 0] rfl (by kernel_rfl) rfl bsl (hsc pcs (hsc pcs heapSub_nil)) rfl (by kernel_rfl) (hK 0 h.2.2.2.2))))))
abbrev Yd36 (x0 : Nat) (x1 : List Int) (x2 : Nat) : Heap := ⟨3, [(0, some ⟨false, [.ints .i64 x0 x1], 0⟩), (2, some ⟨true, [.ints .i64 (0 + x0) (List.take x0 x1)], (x2 - (0 + x0))⟩)]⟩
abbrev Yd37 (x0 x1 : Nat) : Env := [(0, some (.slice ⟨0, 0, 0, 1⟩ x0 x1))]
theorem rz40_1 (b : List Int) (b_n b_c : Nat) (Z : Env -> Heap -> Prop) (h : (((0 + b_n) <= b_n)) /\ ((0 = 0)) /\ ((List.length ([] : List Int) = 0)) /\ ((0 = 0)) /\ (((0 + b_n) <= 17592186044416)) /\ ∀ (c : Nat), (0 + b_n) <= c -> Z [(2, some (.slice ⟨2, 0, 0, 1⟩ (0 + b_n) c))] (Yd36 b_n b c)) : EvC GcloneI cz40_n4 (Yd37 b_n b_c) (Yd27 b_n b) [2] [0, 2] Z := EvC.of (by kernel_rfl) h
theorem rtz40_1 (b : List Int) (b_n b_c c : Nat) : RetC RcloneI [(2, some (.slice ⟨2, 0, 0, 1⟩ (0 + b_n) c))] (Yd36 b_n b c) (.slice ⟨2, 0, 0, 1⟩ (0 + b_n) c) := RetC.of (fun Z => by kernel_rfl)
def vz40_1 (b : List Int) (b_n b_c : Nat) : Prop := (((0 + b_n) <= b_n)) /\ ((((0 + b_n) <= 17592186044416)) /\ (∀ (c : Nat), ((0 + b_n) <= c) -> (((0 + b_n) = b_n) /\ ((0 + b_n) = b_n) /\ ((List.take b_n b) = b) /\ ((c - (0 + b_n)) = (c - b_n)) /\ ((b_n : Nat) <= c))))
theorem pz40_1 (b : List Int) (b_n b_c : Nat) (hK : ∀ cap0 : Nat, b_n <= cap0 -> Kf (.slice ⟨1, 0, 0, 1⟩ b_n cap0) (Yd35 b_n b cap0)) (h : vz40_1 b b_n b_c) : SemL Try.prog w0 fp ρi 1 8 [cz40_n4, .ret] (Yd37 b_n b_c) (Yd27 b_n b) (fnK RcloneI 1 Kf) :=
  L_regE hGcloneI (rz40_1 b b_n b_c _ ⟨h.1, ⟨rfl, ⟨(by simp), ⟨rfl, ⟨h.2.1, (fun c h_c_0 => (L_retE (R := RcloneI) (m := 1) (Kf := Kf) (fun _ _ h => h) (rtz40_1 b b_n b_c c) (ret_of0 (Eq.mpr (cg4 (fun (z1 z2 : Nat) (z3 : List Int) (z4 : Nat) => Ret0 1 Kf (.slice ⟨2, 0, 0, 1⟩ z1 c) ⟨3, [(0, some ⟨false, [.ints .i64 b_n b], 0⟩), (2, some ⟨true, [.ints .i64 z2 z3], z4⟩)]⟩) (h.2.2 c h_c_0).1 (h.2.2 c h_c_0).2.1 (h.2.2 c h_c_0).2.2.1 (h.2.2 c h_c_0).2.2.2.1) (ret0_tau [(1, 2)] [1, 0] rfl (by kernel_rfl) rfl bsl (hsc pcs (hsc pcs heapSub_nil)) rfl (by kernel_rfl) (hK c (h.2.2 c h_c_0).2.2.2.2))))))⟩⟩⟩⟩⟩)
def vz40_2 (b : List Int) (b_n b_c : Nat) (q : Bool) : Prop := (q = true -> (vz40_0 b b_n b_c)) /\ (q = false -> (vz40_1 b b_n b_c))
theorem pz40_2 (b : List Int) (b_n b_c : Nat) (hK : ∀ cap0 : Nat, b_n <= cap0 -> Kf (.slice ⟨1, 0, 0, 1⟩ b_n cap0) (Yd35 b_n b cap0)) (q : Bool) (h : vz40_2 b b_n b_c q) : SemL Try.prog w0 fp ρi 1 8 [cz40_n3, (.seq cz40_n4 .ret)] [(0, some (.slice ⟨0, 0, 0, 1⟩ b_n b_c)), (4, some (.bool q))] (Yd27 b_n b) (fnK RcloneI 1 Kf) :=
  L_cond (q := q) (by kernel_rfl) (fun hq => (L_seq (lpk [] [0] (pz40_0 b b_n b_c hK (h.1 hq))))) (fun hq => (L_skip (lpk [0] [0] (L_seq (pz40_1 b b_n b_c hK (h.2 hq))))))
theorem rz40_3 (b : List Int) (b_n b_c : Nat) (Z : Env -> Heap -> Prop) (h : ∀ (q : Bool), (q = true -> b_n = 0 /\ b_c = 0) -> Z [(0, some (.slice ⟨0, 0, 0, 1⟩ b_n b_c)), (4, some (.bool q))] (Yd27 b_n b)) : EvC GcloneI cz40_n1 (Yd37 b_n b_c) (Yd27 b_n b) [0, 4] [0] Z := EvC.of (by kernel_rfl) h
def vz40_3 (b : List Int) (b_n b_c : Nat) : Prop := ∀ (q : Bool), ((q = true -> b_n = 0 /\ b_c = 0)) -> (vz40_2 b b_n b_c q)
theorem pz40_3 (b : List Int) (b_n b_c : Nat) (hK : ∀ cap0 : Nat, b_n <= cap0 -> Kf (.slice ⟨1, 0, 0, 1⟩ b_n cap0) (Yd35 b_n b cap0)) (h : vz40_3 b b_n b_c) : SemL Try.prog w0 fp ρi 1 8 [cz40_n1, cz40_n3, (.seq cz40_n4 .ret)] (Yd37 b_n b_c) (Yd27 b_n b) (fnK RcloneI 1 Kf) :=
  L_regE hGcloneI (rz40_3 b b_n b_c _ (fun q h_q_0 => (pz40_2 b b_n b_c hK q (h q h_q_0))))
theorem rz40_4 (b : List Int) (b_n b_c : Nat) (Z : Env -> Heap -> Prop) (h : Z (Yd37 b_n b_c) (Yd27 b_n b)) : EvC GcloneI cz40_n0 (Yd37 b_n b_c) (Yd27 b_n b) [0] [0] Z := EvC.of (by kernel_rfl) h
def vz40_4 (b : List Int) (b_n b_c : Nat) : Prop := vz40_3 b b_n b_c
theorem pz40_4 (b : List Int) (b_n b_c : Nat) (hK : ∀ cap0 : Nat, b_n <= cap0 -> Kf (.slice ⟨1, 0, 0, 1⟩ b_n cap0) (Yd35 b_n b cap0)) (h : vz40_4 b b_n b_c) : SemL Try.prog w0 fp ρi 1 8 [cz40_n0, (.seq (.seq cz40_n1 cz40_n3) (.seq cz40_n4 .ret))] (Yd37 b_n b_c) (Yd27 b_n b) (fnK RcloneI 1 Kf) :=
  L_regE hGcloneI (rz40_4 b b_n b_c _ (L_seq (L_seq (pz40_3 b b_n b_c hK h))))
def vccloneI (b : List Int) (b_n b_c : Nat) : Prop := vz40_4 b b_n b_c
theorem wcloneI (b : List Int) (b_n b_c : Nat) (hK : ∀ cap0 : Nat, b_n <= cap0 -> Kf (.slice ⟨1, 0, 0, 1⟩ b_n cap0) (Yd35 b_n b cap0)) (h : vccloneI b b_n b_c) : SemL Try.prog w0 fp ρi 1 8 [ccloneI] (Yd37 b_n b_c) (Yd27 b_n b) (fnK RcloneI 1 Kf) :=
  (L_seq (pz40_4 b b_n b_c hK h))
end
theorem okcloneI (b : List Int) (b_n b_c : Nat) (hpre : (List.length b = b_n /\ b_n <= b_c /\ b_n <= 1000000)) : vccloneI b b_n b_c := by
  unfold vccloneI vz40_4 vz40_3 vz40_2 vz40_1 vz40_0
  obtain ⟨hl, hc, hl2⟩ := hpre
  refine fun q hq => ⟨fun h => ?_, fun h => ⟨by omega, by omega, fun k hk => ⟨by omega, by omega, by rw [List.take_of_length_le (by omega)], by omega, by omega⟩⟩⟩
  obtain ⟨h1, h2⟩ := hq h
  have : b = [] := List.eq_nil_of_length_eq_zero (by omega)
  exact ⟨by omega, by omega, this.symm, by omega, by omega⟩
theorem scloneI : Sound Try.prog 40 (gS DcloneI) := by
  refine fn_soundA ccloneI_fits ?_
  intro args H K h
  obtain ⟨pre, out, hD, hpre, hK⟩ := gS_inv h
  unfold DcloneI at hD
  split at hD
  · cases hD
    obtain ⟨rfl, hpre⟩ := hpre
    exact ⟨rfl, fun w0 fp ρi => wcloneI _ _ _ hK (okcloneI _ _ _ hpre)⟩
  · cases hD
def DcNext : GSpec := fun args H => match args, H with
  | [.agg [.one (.int .i64 p_0), .one (.int .i64 p_1), .one (.int .i64 p_2), .one (.int .i64 p_3), .one (.int .i64 p_4), .one (.int .i64 p_5), .one (.int .u64 p_6), .one (.int .i64 p_7), .one (.int .i64 p_8), .one (.int .i64 p_9), .one (.int .i64 p_10), .one (.int .i64 p_11), .one (.int .i64 p_12), .one (.int .i64 p_13), .ints .u8 p_14_n p_14, .ints .u8 p_15_n p_15], .agg [.one (.int .u64 c_0), .one (.slice ⟨0, 0, 0, 1⟩ c_n c_c)], .int .i64 slot], ⟨1, [(0, some ⟨false, [.ints .i64 c_m c], 0⟩)]⟩ => bif Nat.beq p_14_n 16 && Nat.beq p_15_n 16 then some (c_m = c_n /\ ((List.length c = c_n /\ c_n <= c_c /\ c_n <= 1000000) /\ 0 <= c_0 /\ c_0 < 2 ^ 64 /\ I64 slot), fun K => ∀ cap0 : Nat, (List.length (PlanV.nextL (PlanV.mk p_0 p_1 p_2 p_3 p_4 p_5 p_6 p_7 p_8 p_9 p_10 p_11 p_12 p_13 p_14 p_15) c_0 c slot)) <= cap0 -> K (.tuple [.agg [.one (.int .u64 (PlanV.nextM (PlanV.mk p_0 p_1 p_2 p_3 p_4 p_5 p_6 p_7 p_8 p_9 p_10 p_11 p_12 p_13 p_14 p_15) c_0 c slot)), .one (.slice ⟨1, 0, 0, 1⟩ (List.length (PlanV.nextL (PlanV.mk p_0 p_1 p_2 p_3 p_4 p_5 p_6 p_7 p_8 p_9 p_10 p_11 p_12 p_13 p_14 p_15) c_0 c slot)) cap0)], .bool (PlanV.nextO (PlanV.mk p_0 p_1 p_2 p_3 p_4 p_5 p_6 p_7 p_8 p_9 p_10 p_11 p_12 p_13 p_14 p_15) c_0 c slot), .int .i64 (PlanV.nextE (PlanV.mk p_0 p_1 p_2 p_3 p_4 p_5 p_6 p_7 p_8 p_9 p_10 p_11 p_12 p_13 p_14 p_15) c_0 c slot)]) ⟨2, [(1, some ⟨true, [.ints .i64 (List.length (PlanV.nextL (PlanV.mk p_0 p_1 p_2 p_3 p_4 p_5 p_6 p_7 p_8 p_9 p_10 p_11 p_12 p_13 p_14 p_15) c_0 c slot)) (PlanV.nextL (PlanV.mk p_0 p_1 p_2 p_3 p_4 p_5 p_6 p_7 p_8 p_9 p_10 p_11 p_12 p_13 p_14 p_15) c_0 c slot)], (cap0 - (List.length (PlanV.nextL (PlanV.mk p_0 p_1 p_2 p_3 p_4 p_5 p_6 p_7 p_8 p_9 p_10 p_11 p_12 p_13 p_14 p_15) c_0 c slot)))⟩), (0, some ⟨false, [.ints .i64 c_n c], 0⟩)]⟩) else none
  | _, _ => none
def concNext : Con := ⟨13, gS DcNext, [], [], [(some [.ints .i64 0 ([] : List Int)])]⟩
def cz13_n0 : ACode := .reg (.op (some 3) (.box (.tm 0)) (.op (some 4) (.box (.tm 1)) (.op (some 6) (.alloc [.one (.int .u64 0), .one (.nilslice)]) (.op (some 7) (.mov (.cn (.bool false))) (.op (some 8) (.mov (.cn (.int .i64 0))) .nil)))))
def cz13_n1 : ACode := .reg (.op (some 10) (.loadA 46 (.tm 3)) (.op (some 11) (.loadA 2 (.tm 4)) (.op (some 12) (.call 39 [(.tm 10), (.tm 11)]) (.op (some 9) (.mov (.tm 12)) .nil))))
def cz13_n2 : ACode := .reg (.op (some 14) (.mov (.tm 9)) (.op (some 15) (.bin .neq (.tm 14) (.cn (.int .i64 0))) (.op (some 13) (.mov (.tm 15)) .nil)))
def cz13_n3 : ACode := .reg (.op (some 16) (.loadA 2 (.tm 6)) (.op (some 17) (.mov (.tm 9)) (.op none (.storeA 2 (.tm 6) (.tm 16)) (.op (some 7) (.mov (.cn (.bool false))) (.op (some 8) (.mov (.tm 17)) .nil)))))
def cz13_n4 : ACode := .reg (.op (some 19) (.mov (.tm 2)) (.op (some 20) (.bin .lss (.tm 19) (.cn (.int .i64 0))) (.op (some 21) (.mov (.tm 20)) (.grpJ 21 false (.op (some 22) (.mov (.tm 2)) (.op (some 23) (.fieldAddr (.tm 3) 3 1) (.op (some 24) (.load1 (.tm 23)) (.op (some 25) (.bin .geq (.tm 22) (.tm 24)) .nil)))) 26 (.tm 25) (.cn (.bool true)) (.op (some 18) (.mov (.tm 26)) .nil)))))
def cz13_n5 : ACode := .reg (.op (some 27) (.loadA 2 (.tm 6)) (.op none (.storeA 2 (.tm 6) (.tm 27)) (.op (some 7) (.mov (.cn (.bool false))) (.op (some 8) (.mov (.cn (.int .i64 2))) .nil))))
def cz13_n6 : ACode := .cond (.tm 18) (.seq cz13_n5 .ret) .skip
def cz13_n7 : ACode := .cond (.tm 13) (.seq cz13_n3 .ret) (.seq cz13_n4 cz13_n6)
def cz13_n8 : ACode := .block 0 (.seq cz13_n2 cz13_n7)
def cz13_n9m : List MStep := [.mk 0 0 (some 28) (.fieldAddr (.tm 4) 0 1), .mk 1 0 (some 29) (.load1 (.tm 28)), .mk 2 0 (some 30) (.fieldAddr (.tm 4) 1 1), .mk 3 0 (some 31) (.load1 (.tm 30)), .mk 4 1 (some 32) (.call 40 [(.tm 31)]), .mk 5 0 (some 33) (.build [.one (.int .u64 0), .one (.nilslice)] [(0, 1, (.tm 29)), (1, 1, (.tm 32))]), .mk 6 2 none (.storeA 2 (.tm 6) (.tm 33))]
def cz13_n9 : ACode := .regM cz13_n9m
def cz13_n10i : Items := .op (some 34) (.fieldAddr (.tm 6) 1 1) (.op (some 35) (.load1 (.tm 34)) (.op (some 36) (.mov (.tm 2)) (.op (some 37) (.idxS (.tm 35) (.tm 36) 1) (.op (some 38) (.load1 (.tm 37)) (.op (some 39) (.loadA 46 (.tm 3)) (.op (some 40) (.call 41 [(.tm 39)]) (.op (some 41) (.bin .lss (.tm 38) (.tm 40)) .nil)))))))
def cz13_n10 : ACode := .regQ cz13_n10i
def cz13_n11 : ACode := .reg (.op (some 42) (.fieldAddr (.tm 6) 1 1) (.op (some 43) (.load1 (.tm 42)) (.op (some 44) (.mov (.tm 2)) (.op (some 45) (.idxS (.tm 43) (.tm 44) 1) (.op (some 46) (.load1 (.tm 45)) (.op (some 47) (.bin .add (.tm 46) (.cn (.int .i64 1))) (.op (some 48) (.idxS (.tm 43) (.tm 44) 1) (.op none (.store1 (.tm 48) (.tm 47)) .nil))))))))
def cz13_n12 : ACode := .reg (.op (some 49) (.loadA 2 (.tm 6)) (.op none (.storeA 2 (.tm 6) (.tm 49)) (.op (some 7) (.mov (.cn (.bool false))) (.op (some 8) (.mov (.cn (.int .i64 0))) .nil))))
def cz13_n13 : ACode := .cond (.tm 41) (.seq cz13_n11 (.seq cz13_n12 .ret)) .skip
def cz13_n14 : ACode := .reg (.op (some 50) (.fieldAddr (.tm 4) 0 1) (.op (some 51) (.load1 (.tm 50)) (.op (some 52) (.fieldAddr (.tm 3) 6 1) (.op (some 53) (.load1 (.tm 52)) (.op (some 54) (.bin .eql (.tm 51) (.tm 53)) .nil)))))
def cz13_n15 : ACode := .reg (.op (some 55) (.build [.one (.int .u64 0), .one (.nilslice)] []) (.op none (.storeA 2 (.tm 6) (.tm 55)) (.op (some 7) (.mov (.cn (.bool false))) (.op (some 8) (.mov (.cn (.int .i64 21))) .nil))))
def cz13_n16 : ACode := .cond (.tm 54) (.seq cz13_n15 .ret) .skip
def cz13_n17m : List MStep := [.mk 0 0 (some 56) (.fieldAddr (.tm 4) 0 1), .mk 1 0 (some 57) (.load1 (.tm 56)), .mk 2 0 (some 58) (.bin .add (.tm 57) (.cn (.int .u64 1))), .mk 3 0 (some 59) (.fieldAddr (.tm 3) 3 1), .mk 4 0 (some 60) (.load1 (.tm 59)), .mk 5 1 (some 61) (.mkslice .i64 (.tm 60) (.tm 60)), .mk 6 0 (some 62) (.build [.one (.int .u64 0), .one (.nilslice)] [(0, 1, (.tm 58)), (1, 1, (.tm 61))]), .mk 7 2 none (.storeA 2 (.tm 6) (.tm 62)), .mk 8 0 (some 7) (.mov (.cn (.bool true))), .mk 9 0 (some 8) (.mov (.cn (.int .i64 0)))]
def cz13_n17 : ACode := .regM cz13_n17m
def ccNext : ACode := (.seq cz13_n0 (.seq (.seq cz13_n1 cz13_n8) (.seq cz13_n9 (.seq (.seq cz13_n10 cz13_n13) (.seq (.seq cz13_n14 cz13_n16) (.seq cz13_n17 .ret))))))
def RcNext : Res := .many [.cA 6 2, .tm 7, .tm 8]
theorem ccNext_fits : fnFits Try.prog 13 3 63 ccNext RcNext = true := by kernel_rfl
def GcNext : Calls' := withP [pccTop] [concRight, concloneI]
theorem hGcNext : CallOk Try.prog GcNext := withP_ok ⟨scTop, trivial⟩ ⟨scRight, scloneI, trivial⟩
section
variable {w0 : World} {fp : Nat -> Nat -> Prop} {ρi : Rho} {Kf : SVal -> Heap -> Prop}
def kkz13_0 (w0 : World) (fp : Nat -> Nat -> Prop) (ρi : Rho) (Kf : SVal -> Heap -> Prop) (p : PlanV) (c_0 : Int) (c : List Int) (c_n c_c : Nat) (slot : Int) : Cont := blockK 0 (fun e H => SemL Try.prog w0 fp ρi 1 63 [(.seq cz13_n9 (.seq (.seq cz13_n10 cz13_n13) (.seq (.seq cz13_n14 cz13_n16) (.seq cz13_n17 .ret))))] e H (fnK RcNext 1 Kf)) (fnK RcNext 1 Kf)
abbrev Yd38 (x0 : Int) : Env := [(6, some (.ptr ⟨3, 0, 0, 1⟩ 2)), (7, some (.bool false)), (8, some (.int .i64 x0))]
abbrev Yd39 (x0 : Nat) (x1 : List Int) : Heap := ⟨4, [(0, some ⟨false, [.ints .i64 x0 x1], 0⟩), (3, some ⟨true, [.one (.int .u64 0), .one (.nilslice)], 0⟩)]⟩
abbrev Yd40 (x0 : Int) : Env := [(6, some (.ptr ⟨3, 0, 0, 1⟩ 2)), (9, some (.int .i64 x0))]
theorem rz13_0 (p : PlanV) (c_0 : Int) (c : List Int) (c_n c_c : Nat) (slot v9 : Int) (Z : Env -> Heap -> Prop) (h : Z (Yd38 v9) (Yd39 c_n c)) : EvC GcNext cz13_n3 (Yd40 v9) (Yd39 c_n c) [6, 7, 8] [0, 3] Z := EvC.of (by kernel_rfl) h
theorem rtz13_0 (p : PlanV) (c_0 : Int) (c : List Int) (c_n c_c : Nat) (slot v9 : Int) : RetC RcNext (Yd38 v9) (Yd39 c_n c) (.tuple [.agg [.one (.int .u64 0), .one (.nilslice)], .bool false, .int .i64 v9]) := RetC.of (fun Z => by kernel_rfl)
def vz13_0 (p : PlanV) (c_0 : Int) (c : List Int) (c_n c_c : Nat) (slot v9 : Int) : Prop := (0 = (PlanV.nextM p c_0 c slot)) /\ (0 = (List.length (PlanV.nextL p c_0 c slot))) /\ (false = (PlanV.nextO p c_0 c slot)) /\ (v9 = (PlanV.nextE p c_0 c slot)) /\ (0 = (List.length (PlanV.nextL p c_0 c slot))) /\ (([] : List Int) = (PlanV.nextL p c_0 c slot)) /\ (0 = (0 - (List.length (PlanV.nextL p c_0 c slot)))) /\ (((List.length (PlanV.nextL p c_0 c slot)) : Nat) <= 0)
abbrev Yd41 (x0 : PlanV) (x1 : Int) (x2 : List Int) (x3 : Int) (x4 x5 : Nat) : Heap := ⟨2, [(1, some ⟨true, [.ints .i64 (List.length (PlanV.nextL x0 x1 x2 x3)) (PlanV.nextL x0 x1 x2 x3)], (x4 - (List.length (PlanV.nextL x0 x1 x2 x3)))⟩), (0, some ⟨false, [.ints .i64 x5 x2], 0⟩)]⟩
abbrev Yd42 (x0 : Nat) (x1 : List Int) : Heap := ⟨5, [(4, some ⟨true, [.ints .i64 0 ([] : List Int)], 0⟩), (0, some ⟨false, [.ints .i64 x0 x1], 0⟩), (3, some ⟨true, [.one (.int .u64 0), .one (.nilslice)], 0⟩)]⟩
abbrev Yd43 (x0 : Nat) (x1 : List Int) (x2 x3 : Nat) (x4 : List Int) : Heap := ⟨5, [(4, some ⟨true, [.ints .i64 x0 x1], x2⟩), (0, some ⟨false, [.ints .i64 x3 x4], 0⟩), (3, some ⟨true, [.one (.int .u64 0), .one (.nilslice)], 0⟩)]⟩
theorem pz13_0 (p : PlanV) (c_0 : Int) (c : List Int) (c_n c_c : Nat) (slot : Int) (hK : ∀ cap0 : Nat, (List.length (PlanV.nextL p c_0 c slot)) <= cap0 -> Kf (.tuple [.agg [.one (.int .u64 (PlanV.nextM p c_0 c slot)), .one (.slice ⟨1, 0, 0, 1⟩ (List.length (PlanV.nextL p c_0 c slot)) cap0)], .bool (PlanV.nextO p c_0 c slot), .int .i64 (PlanV.nextE p c_0 c slot)]) (Yd41 p c_0 c slot cap0 c_n)) (v9 : Int) (h : vz13_0 p c_0 c c_n c_c slot v9) : SemL Try.prog w0 fp ρi 1 63 [cz13_n3, .ret] (Yd40 v9) (Yd39 c_n c) (kkz13_0 w0 fp ρi Kf p c_0 c c_n c_c slot) :=
  L_regE hGcNext (rz13_0 p c_0 c c_n c_c slot v9 _ (L_retE (R := RcNext) (m := 1) (Kf := Kf) (fun _ _ h => h) (rtz13_0 p c_0 c c_n c_c slot v9) (ret_dn (r2 := .tuple [.agg [.one (.int .u64 0), .one (.slice ⟨4, 0, 0, 1⟩ 0 0)], .bool false, .int .i64 v9]) (H2 := (Yd42 c_n c)) [(some [.ints .i64 0 ([] : List Int)])] rfl (by kernel_rfl) (Eq.mpr (cg7 (fun (z1 : Int) (z2 : Nat) (z3 : Bool) (z4 : Int) (z5 : Nat) (z6 : List Int) (z7 : Nat) => Ret0 1 Kf (.tuple [.agg [.one (.int .u64 z1), .one (.slice ⟨4, 0, 0, 1⟩ z2 0)], .bool z3, .int .i64 z4]) (Yd43 z5 z6 z7 c_n c)) h.1 h.2.1 h.2.2.1 h.2.2.2.1 h.2.2.2.2.1 h.2.2.2.2.2.1 h.2.2.2.2.2.2.1) (ret0_tau [(1, 4)] [1, 0] rfl (by kernel_rfl) rfl (bd_tuple (bdL_cons (bd_agg (bdCs_one pbd (bdCs_one bsl bdCs_nil))) (bdL_cons pbd (bdL_cons pbd bdL_nil)))) (hsc pcs (hsc pcs heapSub_nil)) rfl (by kernel_rfl) (hK 0 h.2.2.2.2.2.2.2))))))
abbrev Yd44 : Env := [(6, some (.ptr ⟨3, 0, 0, 1⟩ 2)), (7, some (.bool false)), (8, some (.int .i64 2))]
abbrev Yd45 : Env := [(6, some (.ptr ⟨3, 0, 0, 1⟩ 2))]
theorem rz13_1 (p : PlanV) (c_0 : Int) (c : List Int) (c_n c_c : Nat) (slot : Int) (Z : Env -> Heap -> Prop) (h : Z Yd44 (Yd39 c_n c)) : EvC GcNext cz13_n5 Yd45 (Yd39 c_n c) [6, 7, 8] [0, 3] Z := EvC.of (by kernel_rfl) h
theorem rtz13_1 (p : PlanV) (c_0 : Int) (c : List Int) (c_n c_c : Nat) (slot : Int) : RetC RcNext Yd44 (Yd39 c_n c) (.tuple [.agg [.one (.int .u64 0), .one (.nilslice)], .bool false, .int .i64 2]) := RetC.of (fun Z => by kernel_rfl)
def vz13_1 (p : PlanV) (c_0 : Int) (c : List Int) (c_n c_c : Nat) (slot : Int) : Prop := (0 = (PlanV.nextM p c_0 c slot)) /\ (0 = (List.length (PlanV.nextL p c_0 c slot))) /\ (false = (PlanV.nextO p c_0 c slot)) /\ (2 = (PlanV.nextE p c_0 c slot)) /\ (0 = (List.length (PlanV.nextL p c_0 c slot))) /\ (([] : List Int) = (PlanV.nextL p c_0 c slot)) /\ (0 = (0 - (List.length (PlanV.nextL p c_0 c slot)))) /\ (((List.length (PlanV.nextL p c_0 c slot)) : Nat) <= 0)
theorem pz13_1 (p : PlanV) (c_0 : Int) (c : List Int) (c_n c_c : Nat) (slot : Int) (hK : ∀ cap0 : Nat, (List.length (PlanV.nextL p c_0 c slot)) <= cap0 -> Kf (.tuple [.agg [.one (.int .u64 (PlanV.nextM p c_0 c slot)), .one (.slice ⟨1, 0, 0, 1⟩ (List.length (PlanV.nextL p c_0 c slot)) cap0)], .bool (PlanV.nextO p c_0 c slot), .int .i64 (PlanV.nextE p c_0 c slot)]) (Yd41 p c_0 c slot cap0 c_n)) (h : vz13_1 p c_0 c c_n c_c slot) : SemL Try.prog w0 fp ρi 1 63 [cz13_n5, .ret] Yd45 (Yd39 c_n c) (kkz13_0 w0 fp ρi Kf p c_0 c c_n c_c slot) :=
  L_regE hGcNext (rz13_1 p c_0 c c_n c_c slot _ (L_retE (R := RcNext) (m := 1) (Kf := Kf) (fun _ _ h => h) (rtz13_1 p c_0 c c_n c_c slot) (ret_dn (r2 := .tuple [.agg [.one (.int .u64 0), .one (.slice ⟨4, 0, 0, 1⟩ 0 0)], .bool false, .int .i64 2]) (H2 := (Yd42 c_n c)) [(some [.ints .i64 0 ([] : List Int)])] rfl (by kernel_rfl) (Eq.mpr (cg7 (fun (z1 : Int) (z2 : Nat) (z3 : Bool) (z4 : Int) (z5 : Nat) (z6 : List Int) (z7 : Nat) => Ret0 1 Kf (.tuple [.agg [.one (.int .u64 z1), .one (.slice ⟨4, 0, 0, 1⟩ z2 0)], .bool z3, .int .i64 z4]) (Yd43 z5 z6 z7 c_n c)) h.1 h.2.1 h.2.2.1 h.2.2.2.1 h.2.2.2.2.1 h.2.2.2.2.2.1 h.2.2.2.2.2.2.1) (ret0_tau [(1, 4)] [1, 0] rfl (by kernel_rfl) rfl (bd_tuple (bdL_cons (bd_agg (bdCs_one pbd (bdCs_one bsl bdCs_nil))) (bdL_cons pbd (bdL_cons pbd bdL_nil)))) (hsc pcs (hsc pcs heapSub_nil)) rfl (by kernel_rfl) (hK 0 h.2.2.2.2.2.2.2))))))
abbrev Yd46 : Env := [(6, some (.ptr ⟨3, 0, 0, 1⟩ 2)), (7, some (.bool false)), (8, some (.int .i64 0))]
abbrev Yd47 (x0 : Nat) (x1 : List Int) (x2 : Int) (x3 : Nat) (x4 : List Int) (x5 : Nat) : Heap := ⟨5, [(0, some ⟨false, [.ints .i64 x0 x1], 0⟩), (3, some ⟨true, [.one (.int .u64 x2), .one (.slice ⟨4, 0, 0, 1⟩ x0 x3)], 0⟩), (4, some ⟨true, [.ints .i64 x0 x4], x5⟩)]⟩
theorem rz13_2 (p : PlanV) (c_0 : Int) (c : List Int) (c_n c_c : Nat) (slot : Int) (c'1 : Nat) (h4'1 : List Int) (x4 : Nat) (Z : Env -> Heap -> Prop) (h : Z Yd46 (Yd47 c_n c c_0 c'1 h4'1 x4)) : EvC GcNext cz13_n12 Yd45 (Yd47 c_n c c_0 c'1 h4'1 x4) [6, 7, 8] [0, 3, 4] Z := EvC.of (by kernel_rfl) h
theorem rtz13_2 (p : PlanV) (c_0 : Int) (c : List Int) (c_n c_c : Nat) (slot : Int) (c'1 : Nat) (h4'1 : List Int) (x4 : Nat) : RetC RcNext Yd46 (Yd47 c_n c c_0 c'1 h4'1 x4) (.tuple [.agg [.one (.int .u64 c_0), .one (.slice ⟨4, 0, 0, 1⟩ c_n c'1)], .bool false, .int .i64 0]) := RetC.of (fun Z => by kernel_rfl)
def vz13_2 (p : PlanV) (c_0 : Int) (c : List Int) (c_n c_c : Nat) (slot : Int) (c'1 : Nat) (h4'1 : List Int) (x4 : Nat) : Prop := (c_0 = (PlanV.nextM p c_0 c slot)) /\ (c_n = (List.length (PlanV.nextL p c_0 c slot))) /\ (false = (PlanV.nextO p c_0 c slot)) /\ (0 = (PlanV.nextE p c_0 c slot)) /\ (c_n = (List.length (PlanV.nextL p c_0 c slot))) /\ (h4'1 = (PlanV.nextL p c_0 c slot)) /\ (x4 = (c'1 - (List.length (PlanV.nextL p c_0 c slot)))) /\ (((List.length (PlanV.nextL p c_0 c slot)) : Nat) <= c'1)
theorem pz13_2 (p : PlanV) (c_0 : Int) (c : List Int) (c_n c_c : Nat) (slot : Int) (hK : ∀ cap0 : Nat, (List.length (PlanV.nextL p c_0 c slot)) <= cap0 -> Kf (.tuple [.agg [.one (.int .u64 (PlanV.nextM p c_0 c slot)), .one (.slice ⟨1, 0, 0, 1⟩ (List.length (PlanV.nextL p c_0 c slot)) cap0)], .bool (PlanV.nextO p c_0 c slot), .int .i64 (PlanV.nextE p c_0 c slot)]) (Yd41 p c_0 c slot cap0 c_n)) (c'1 : Nat) (h4'1 : List Int) (x4 : Nat) (h : vz13_2 p c_0 c c_n c_c slot c'1 h4'1 x4) : SemL Try.prog w0 fp ρi 1 63 [cz13_n12, .ret, (.seq (.seq cz13_n14 cz13_n16) (.seq cz13_n17 .ret))] Yd45 (Yd47 c_n c c_0 c'1 h4'1 x4) (fnK RcNext 1 Kf) :=
  L_regE hGcNext (rz13_2 p c_0 c c_n c_c slot c'1 h4'1 x4 _ (L_retE (R := RcNext) (m := 1) (Kf := Kf) (fun _ _ h => h) (rtz13_2 p c_0 c c_n c_c slot c'1 h4'1 x4) (ret_of0 (Eq.mpr (cg7 (fun (z1 : Int) (z2 : Nat) (z3 : Bool) (z4 : Int) (z5 : Nat) (z6 : List Int) (z7 : Nat) => Ret0 1 Kf (.tuple [.agg [.one (.int .u64 z1), .one (.slice ⟨4, 0, 0, 1⟩ z2 c'1)], .bool z3, .int .i64 z4]) ⟨5, [(0, some ⟨false, [.ints .i64 c_n c], 0⟩), (3, some ⟨true, [.one (.int .u64 c_0), .one (.slice ⟨4, 0, 0, 1⟩ c_n c'1)], 0⟩), (4, some ⟨true, [.ints .i64 z5 z6], z7⟩)]⟩) h.1 h.2.1 h.2.2.1 h.2.2.2.1 h.2.2.2.2.1 h.2.2.2.2.2.1 h.2.2.2.2.2.2.1) (ret0_tau [(1, 4)] [1, 0] rfl (by kernel_rfl) rfl (bd_tuple (bdL_cons (bd_agg (bdCs_one pbd (bdCs_one bsl bdCs_nil))) (bdL_cons pbd (bdL_cons pbd bdL_nil)))) (hsc pcs (hsc pcs heapSub_nil)) rfl (by kernel_rfl) (hK c'1 h.2.2.2.2.2.2.2))))))
abbrev Yd48 (x0 : Int) : Env := [(2, some (.int .i64 x0)), (6, some (.ptr ⟨3, 0, 0, 1⟩ 2))]
theorem rz13_3 (p : PlanV) (c_0 : Int) (c : List Int) (c_n c_c : Nat) (slot : Int) (c'1 : Nat) (h4 : List Int) (x4 : Nat) (Z : Env -> Heap -> Prop) (h : ((0 <= slot)) /\ ((slot < ((c_n : Nat) : Int))) /\ (((0 + (Int.toNat slot)) < c_n)) /\ ((0 <= slot)) /\ ((slot < ((c_n : Nat) : Int))) /\ (((0 + (Int.toNat slot)) < c_n)) /\ (((0 + (Int.toNat slot)) < List.length h4)) /\ Z Yd45 ⟨5, [(0, some ⟨false, [.ints .i64 c_n c], 0⟩), (3, some ⟨true, [.one (.int .u64 c_0), .one (.slice ⟨4, 0, 0, 1⟩ c_n c'1)], 0⟩), (4, some ⟨true, [.ints .i64 c_n (List.set h4 (0 + (Int.toNat slot)) (IntKind.i64.wrap ((List.getD h4 (0 + (Int.toNat slot)) 0) + 1)))], x4⟩)]⟩) : EvC GcNext cz13_n11 (Yd48 slot) (Yd47 c_n c c_0 c'1 h4 x4) [6] [0, 3, 4] Z := EvC.of (by kernel_rfl) h
def vz13_3 (p : PlanV) (c_0 : Int) (c : List Int) (c_n c_c : Nat) (slot : Int) (c'1 : Nat) (h4 : List Int) (x4 : Nat) : Prop := ((0 <= slot)) /\ (((slot < ((c_n : Nat) : Int))) /\ ((((0 + (Int.toNat slot)) < c_n)) /\ (((0 <= slot)) /\ (((slot < ((c_n : Nat) : Int))) /\ ((((0 + (Int.toNat slot)) < c_n)) /\ ((((0 + (Int.toNat slot)) < List.length h4)) /\ (∀ h4'1 : List Int, h4'1 = (List.set h4 (0 + (Int.toNat slot)) (IntKind.i64.wrap ((List.getD h4 (0 + (Int.toNat slot)) 0) + 1))) -> vz13_2 p c_0 c c_n c_c slot c'1 h4'1 x4)))))))
theorem pz13_3 (p : PlanV) (c_0 : Int) (c : List Int) (c_n c_c : Nat) (slot : Int) (hK : ∀ cap0 : Nat, (List.length (PlanV.nextL p c_0 c slot)) <= cap0 -> Kf (.tuple [.agg [.one (.int .u64 (PlanV.nextM p c_0 c slot)), .one (.slice ⟨1, 0, 0, 1⟩ (List.length (PlanV.nextL p c_0 c slot)) cap0)], .bool (PlanV.nextO p c_0 c slot), .int .i64 (PlanV.nextE p c_0 c slot)]) (Yd41 p c_0 c slot cap0 c_n)) (c'1 : Nat) (h4 : List Int) (x4 : Nat) (h : vz13_3 p c_0 c c_n c_c slot c'1 h4 x4) : SemL Try.prog w0 fp ρi 1 63 [cz13_n11, (.seq cz13_n12 .ret), (.seq (.seq cz13_n14 cz13_n16) (.seq cz13_n17 .ret))] (Yd48 slot) (Yd47 c_n c c_0 c'1 h4 x4) (fnK RcNext 1 Kf) :=
  L_regE hGcNext (rz13_3 p c_0 c c_n c_c slot c'1 h4 x4 _ ⟨h.1, ⟨h.2.1, ⟨h.2.2.1, ⟨h.2.2.2.1, ⟨h.2.2.2.2.1, ⟨h.2.2.2.2.2.1, ⟨h.2.2.2.2.2.2.1, (L_seq (pz13_2 p c_0 c c_n c_c slot hK c'1 (List.set h4 (0 + (Int.toNat slot)) (IntKind.i64.wrap ((List.getD h4 (0 + (Int.toNat slot)) 0) + 1))) x4 (h.2.2.2.2.2.2.2 (List.set h4 (0 + (Int.toNat slot)) (IntKind.i64.wrap ((List.getD h4 (0 + (Int.toNat slot)) 0) + 1))) rfl)))⟩⟩⟩⟩⟩⟩⟩)
abbrev Yd49 : Env := [(6, some (.ptr ⟨3, 0, 0, 1⟩ 2)), (7, some (.bool false)), (8, some (.int .i64 21))]
abbrev Yd50 (x0 : Nat) (x1 : List Int) : Heap := ⟨5, [(0, some ⟨false, [.ints .i64 x0 x1], 0⟩), (3, some ⟨true, [.one (.int .u64 0), .one (.nilslice)], 0⟩)]⟩
theorem rz13_4 (p : PlanV) (c_0 : Int) (c : List Int) (c_n c_c : Nat) (slot : Int) (c'1 : Nat) (h4 : List Int) (x4 : Nat) (Z : Env -> Heap -> Prop) (h : Z Yd49 (Yd50 c_n c)) : EvC GcNext cz13_n15 Yd45 (Yd47 c_n c c_0 c'1 h4 x4) [6, 7, 8] [0, 3] Z := EvC.of (by kernel_rfl) h
theorem rtz13_3 (p : PlanV) (c_0 : Int) (c : List Int) (c_n c_c : Nat) (slot : Int) : RetC RcNext Yd49 (Yd50 c_n c) (.tuple [.agg [.one (.int .u64 0), .one (.nilslice)], .bool false, .int .i64 21]) := RetC.of (fun Z => by kernel_rfl)
def vz13_4 (p : PlanV) (c_0 : Int) (c : List Int) (c_n c_c : Nat) (slot : Int) (c'1 : Nat) (h4 : List Int) (x4 : Nat) : Prop := (0 = (PlanV.nextM p c_0 c slot)) /\ (0 = (List.length (PlanV.nextL p c_0 c slot))) /\ (false = (PlanV.nextO p c_0 c slot)) /\ (21 = (PlanV.nextE p c_0 c slot)) /\ (0 = (List.length (PlanV.nextL p c_0 c slot))) /\ (([] : List Int) = (PlanV.nextL p c_0 c slot)) /\ (0 = (0 - (List.length (PlanV.nextL p c_0 c slot)))) /\ (((List.length (PlanV.nextL p c_0 c slot)) : Nat) <= 0)
theorem pz13_4 (p : PlanV) (c_0 : Int) (c : List Int) (c_n c_c : Nat) (slot : Int) (hK : ∀ cap0 : Nat, (List.length (PlanV.nextL p c_0 c slot)) <= cap0 -> Kf (.tuple [.agg [.one (.int .u64 (PlanV.nextM p c_0 c slot)), .one (.slice ⟨1, 0, 0, 1⟩ (List.length (PlanV.nextL p c_0 c slot)) cap0)], .bool (PlanV.nextO p c_0 c slot), .int .i64 (PlanV.nextE p c_0 c slot)]) (Yd41 p c_0 c slot cap0 c_n)) (c'1 : Nat) (h4 : List Int) (x4 : Nat) (h : vz13_4 p c_0 c c_n c_c slot c'1 h4 x4) : SemL Try.prog w0 fp ρi 1 63 [cz13_n15, .ret, (.seq cz13_n17 .ret)] Yd45 (Yd47 c_n c c_0 c'1 h4 x4) (fnK RcNext 1 Kf) :=
  L_regE hGcNext (rz13_4 p c_0 c c_n c_c slot c'1 h4 x4 _ (L_retE (R := RcNext) (m := 1) (Kf := Kf) (fun _ _ h => h) (rtz13_3 p c_0 c c_n c_c slot) (ret_dn (r2 := .tuple [.agg [.one (.int .u64 0), .one (.slice ⟨5, 0, 0, 1⟩ 0 0)], .bool false, .int .i64 21]) (H2 := ⟨6, [(5, some ⟨true, [.ints .i64 0 ([] : List Int)], 0⟩), (0, some ⟨false, [.ints .i64 c_n c], 0⟩), (3, some ⟨true, [.one (.int .u64 0), .one (.nilslice)], 0⟩)]⟩) [(some [.ints .i64 0 ([] : List Int)])] rfl (by kernel_rfl) (Eq.mpr (cg7 (fun (z1 : Int) (z2 : Nat) (z3 : Bool) (z4 : Int) (z5 : Nat) (z6 : List Int) (z7 : Nat) => Ret0 1 Kf (.tuple [.agg [.one (.int .u64 z1), .one (.slice ⟨5, 0, 0, 1⟩ z2 0)], .bool z3, .int .i64 z4]) ⟨6, [(5, some ⟨true, [.ints .i64 z5 z6], z7⟩), (0, some ⟨false, [.ints .i64 c_n c], 0⟩), (3, some ⟨true, [.one (.int .u64 0), .one (.nilslice)], 0⟩)]⟩) h.1 h.2.1 h.2.2.1 h.2.2.2.1 h.2.2.2.2.1 h.2.2.2.2.2.1 h.2.2.2.2.2.2.1) (ret0_tau [(1, 5)] [1, 0] rfl (by kernel_rfl) rfl (bd_tuple (bdL_cons (bd_agg (bdCs_one pbd (bdCs_one bsl bdCs_nil))) (bdL_cons pbd (bdL_cons pbd bdL_nil)))) (hsc pcs (hsc pcs heapSub_nil)) rfl (by kernel_rfl) (hK 0 h.2.2.2.2.2.2.2))))))
abbrev Yd51 (x0 : Nat) (x1 : List Int) (x2 : PlanV) (x3 : Int) (x4 x5 : Nat) (x6 : List Int) (x7 : Nat) : Heap := ⟨5, [(0, some ⟨false, [.ints .i64 x0 x1], 0⟩), (1, some ⟨true, (PlanV.cs x2), 0⟩), (2, some ⟨true, [.one (.int .u64 x3), .one (.slice ⟨0, 0, 0, 1⟩ x0 x4)], 0⟩), (3, some ⟨true, [.one (.int .u64 x3), .one (.slice ⟨4, 0, 0, 1⟩ x0 x5)], 0⟩), (4, some ⟨true, [.ints .i64 x0 x6], x7⟩)]⟩
abbrev Yd52 : Env := [(6, some (.ptr ⟨3, 0, 0, 1⟩ 2)), (7, some (.bool true)), (8, some (.int .i64 0))]
abbrev Yd53 (x0 : Nat) (x1 : List Int) (x2 : Int) (x3 : PlanV) : Heap := ⟨6, [(0, some ⟨false, [.ints .i64 x0 x1], 0⟩), (3, some ⟨true, [.one (.int .u64 (IntKind.u64.wrap (x2 + 1))), .one (.slice ⟨5, 0, 0, 1⟩ (Int.toNat x3.lines) (Int.toNat x3.lines))], 0⟩), (5, some ⟨true, [.ints .i64 (Int.toNat x3.lines) (List.replicate (Int.toNat x3.lines) (0 : Int))], ((Int.toNat x3.lines) - (Int.toNat x3.lines))⟩)]⟩
abbrev Yd54 : Env := [(3, some (.ptr ⟨1, 0, 0, 1⟩ 46)), (4, some (.ptr ⟨2, 0, 0, 1⟩ 2)), (6, some (.ptr ⟨3, 0, 0, 1⟩ 2))]
theorem rz13_5 (p : PlanV) (c_0 : Int) (c : List Int) (c_n c_c : Nat) (slot : Int) (c'1 : Nat) (h4 : List Int) (x4 : Nat) (Z : Env -> Heap -> Prop) (h : ((0 <= p.lines)) /\ ((p.lines <= p.lines)) /\ ((p.lines <= 1048576)) /\ ((keeps ⟨6, [(0, some ⟨false, [.ints .i64 c_n c], 0⟩), (1, some ⟨true, (PlanV.cs p), 0⟩), (2, some ⟨true, [.one (.int .u64 c_0), .one (.slice ⟨0, 0, 0, 1⟩ c_n c_c)], 0⟩), (3, some ⟨true, [.one (.int .u64 c_0), .one (.slice ⟨4, 0, 0, 1⟩ c_n c'1)], 0⟩), (4, some ⟨true, [.ints .i64 c_n h4], x4⟩), (5, some ⟨true, [.ints .i64 (Int.toNat p.lines) (List.replicate (Int.toNat p.lines) (0 : Int))], ((Int.toNat p.lines) - (Int.toNat p.lines))⟩)]⟩ (Heap.keep (Yd51 c_n c p c_0 c_c c'1 h4 x4) [1, 2]) (pickH [1, 2] (Yd51 c_n c p c_0 c_c c'1 h4 x4)))) /\ Z Yd52 (Yd53 c_n c c_0 p)) : EvNC GcNext cz13_n17m [[], [2], [], [], [1], [], [], [], [], []] Yd54 (Yd51 c_n c p c_0 c_c c'1 h4 x4) [6, 7, 8] [0, 3, 5] Z := EvNC.of (by kernel_rfl) h
theorem rtz13_4 (p : PlanV) (c_0 : Int) (c : List Int) (c_n c_c : Nat) (slot : Int) : RetC RcNext Yd52 (Yd53 c_n c c_0 p) (.tuple [.agg [.one (.int .u64 (IntKind.u64.wrap (c_0 + 1))), .one (.slice ⟨5, 0, 0, 1⟩ (Int.toNat p.lines) (Int.toNat p.lines))], .bool true, .int .i64 0]) := RetC.of (fun Z => by kernel_rfl)
def vz13_5 (p : PlanV) (c_0 : Int) (c : List Int) (c_n c_c : Nat) (slot : Int) (c'1 : Nat) (h4 : List Int) (x4 : Nat) : Prop := ((0 <= p.lines)) /\ (((p.lines <= 1048576)) /\ (((IntKind.u64.wrap (c_0 + 1)) = (PlanV.nextM p c_0 c slot)) /\ ((Int.toNat p.lines) = (List.length (PlanV.nextL p c_0 c slot))) /\ (true = (PlanV.nextO p c_0 c slot)) /\ (0 = (PlanV.nextE p c_0 c slot)) /\ ((Int.toNat p.lines) = (List.length (PlanV.nextL p c_0 c slot))) /\ ((List.replicate (Int.toNat p.lines) (0 : Int)) = (PlanV.nextL p c_0 c slot)) /\ (((Int.toNat p.lines) - (Int.toNat p.lines)) = ((Int.toNat p.lines) - (List.length (PlanV.nextL p c_0 c slot)))) /\ (((List.length (PlanV.nextL p c_0 c slot)) : Nat) <= (Int.toNat p.lines))))
theorem pz13_5 (p : PlanV) (c_0 : Int) (c : List Int) (c_n c_c : Nat) (slot : Int) (hK : ∀ cap0 : Nat, (List.length (PlanV.nextL p c_0 c slot)) <= cap0 -> Kf (.tuple [.agg [.one (.int .u64 (PlanV.nextM p c_0 c slot)), .one (.slice ⟨1, 0, 0, 1⟩ (List.length (PlanV.nextL p c_0 c slot)) cap0)], .bool (PlanV.nextO p c_0 c slot), .int .i64 (PlanV.nextE p c_0 c slot)]) (Yd41 p c_0 c slot cap0 c_n)) (c'1 : Nat) (h4 : List Int) (x4 : Nat) (h : vz13_5 p c_0 c c_n c_c slot c'1 h4 x4) : SemL Try.prog w0 fp ρi 1 63 [cz13_n17, .ret] Yd54 (Yd51 c_n c p c_0 c_c c'1 h4 x4) (fnK RcNext 1 Kf) :=
  L_regME hGcNext (steps := cz13_n17m) (rz13_5 p c_0 c c_n c_c slot c'1 h4 x4 _ ⟨h.1, ⟨(Int.le_refl _), ⟨h.2.1, ⟨(keepsG_ids (by kernel_rfl)), (L_retE (R := RcNext) (m := 1) (Kf := Kf) (fun _ _ h => h) (rtz13_4 p c_0 c c_n c_c slot) (ret_of0 (Eq.mpr (cg7 (fun (z1 : Int) (z2 : Nat) (z3 : Bool) (z4 : Int) (z5 : Nat) (z6 : List Int) (z7 : Nat) => Ret0 1 Kf (.tuple [.agg [.one (.int .u64 z1), .one (.slice ⟨5, 0, 0, 1⟩ z2 (Int.toNat p.lines))], .bool z3, .int .i64 z4]) ⟨6, [(0, some ⟨false, [.ints .i64 c_n c], 0⟩), (3, some ⟨true, [.one (.int .u64 (IntKind.u64.wrap (c_0 + 1))), .one (.slice ⟨5, 0, 0, 1⟩ (Int.toNat p.lines) (Int.toNat p.lines))], 0⟩), (5, some ⟨true, [.ints .i64 z5 z6], z7⟩)]⟩) h.2.2.1 h.2.2.2.1 h.2.2.2.2.1 h.2.2.2.2.2.1 h.2.2.2.2.2.2.1 h.2.2.2.2.2.2.2.1 h.2.2.2.2.2.2.2.2.1) (ret0_tau [(1, 5)] [1, 0] rfl (by kernel_rfl) rfl (bd_tuple (bdL_cons (bd_agg (bdCs_one pbd (bdCs_one bsl bdCs_nil))) (bdL_cons pbd (bdL_cons pbd bdL_nil)))) (hsc pcs (hsc pcs heapSub_nil)) rfl (by kernel_rfl) (hK (Int.toNat p.lines) h.2.2.2.2.2.2.2.2.2)))))⟩⟩⟩⟩)
def vz13_6 (p : PlanV) (c_0 : Int) (c : List Int) (c_n c_c : Nat) (slot : Int) (c'1 : Nat) (h4 : List Int) (x4 : Nat) : Prop := ((c_0 == p.major) = true -> (vz13_4 p c_0 c c_n c_c slot c'1 h4 x4)) /\ ((c_0 == p.major) = false -> (vz13_5 p c_0 c c_n c_c slot c'1 h4 x4))
abbrev Yd55 (x0 : Int) (x1 : PlanV) : Env := [(3, some (.ptr ⟨1, 0, 0, 1⟩ 46)), (4, some (.ptr ⟨2, 0, 0, 1⟩ 2)), (6, some (.ptr ⟨3, 0, 0, 1⟩ 2)), (54, some (.bool (x0 == x1.major)))]
theorem pz13_6 (p : PlanV) (c_0 : Int) (c : List Int) (c_n c_c : Nat) (slot : Int) (hK : ∀ cap0 : Nat, (List.length (PlanV.nextL p c_0 c slot)) <= cap0 -> Kf (.tuple [.agg [.one (.int .u64 (PlanV.nextM p c_0 c slot)), .one (.slice ⟨1, 0, 0, 1⟩ (List.length (PlanV.nextL p c_0 c slot)) cap0)], .bool (PlanV.nextO p c_0 c slot), .int .i64 (PlanV.nextE p c_0 c slot)]) (Yd41 p c_0 c slot cap0 c_n)) (c'1 : Nat) (h4 : List Int) (x4 : Nat) (h : vz13_6 p c_0 c c_n c_c slot c'1 h4 x4) : SemL Try.prog w0 fp ρi 1 63 [cz13_n16, (.seq cz13_n17 .ret)] (Yd55 c_0 p) (Yd51 c_n c p c_0 c_c c'1 h4 x4) (fnK RcNext 1 Kf) :=
  L_cond (q := (c_0 == p.major)) (by kernel_rfl) (fun hq => (L_seq (lpk [6] [0, 3, 4] (pz13_4 p c_0 c c_n c_c slot hK c'1 h4 x4 (h.1 hq))))) (fun hq => (L_skip (lpk [3, 4, 6] [0, 1, 2, 3, 4] (L_seq (pz13_5 p c_0 c c_n c_c slot hK c'1 h4 x4 (h.2 hq))))))
theorem rz13_7 (p : PlanV) (c_0 : Int) (c : List Int) (c_n c_c : Nat) (slot : Int) (c'1 : Nat) (h4 : List Int) (x4 : Nat) (Z : Env -> Heap -> Prop) (h : Z (Yd55 c_0 p) (Yd51 c_n c p c_0 c_c c'1 h4 x4)) : EvC GcNext cz13_n14 Yd54 (Yd51 c_n c p c_0 c_c c'1 h4 x4) [3, 4, 6, 54] [0, 1, 2, 3, 4] Z := EvC.of (by kernel_rfl) h
def vz13_7 (p : PlanV) (c_0 : Int) (c : List Int) (c_n c_c : Nat) (slot : Int) (c'1 : Nat) (h4 : List Int) (x4 : Nat) : Prop := vz13_6 p c_0 c c_n c_c slot c'1 h4 x4
theorem pz13_7 (p : PlanV) (c_0 : Int) (c : List Int) (c_n c_c : Nat) (slot : Int) (hK : ∀ cap0 : Nat, (List.length (PlanV.nextL p c_0 c slot)) <= cap0 -> Kf (.tuple [.agg [.one (.int .u64 (PlanV.nextM p c_0 c slot)), .one (.slice ⟨1, 0, 0, 1⟩ (List.length (PlanV.nextL p c_0 c slot)) cap0)], .bool (PlanV.nextO p c_0 c slot), .int .i64 (PlanV.nextE p c_0 c slot)]) (Yd41 p c_0 c slot cap0 c_n)) (c'1 : Nat) (h4 : List Int) (x4 : Nat) (h : vz13_7 p c_0 c c_n c_c slot c'1 h4 x4) : SemL Try.prog w0 fp ρi 1 63 [cz13_n14, cz13_n16, (.seq cz13_n17 .ret)] Yd54 (Yd51 c_n c p c_0 c_c c'1 h4 x4) (fnK RcNext 1 Kf) :=
  L_regE hGcNext (rz13_7 p c_0 c c_n c_c slot c'1 h4 x4 _ (pz13_6 p c_0 c c_n c_c slot hK c'1 h4 x4 h))
def vz13_8 (p : PlanV) (c_0 : Int) (c : List Int) (c_n c_c : Nat) (slot : Int) (h4 : List Int) (c'1 x4 : Nat) : Prop := ((decide ((List.getD h4 (0 + (Int.toNat slot)) 0) < (PlanV.top p))) = true -> (vz13_3 p c_0 c c_n c_c slot c'1 h4 x4)) /\ ((decide ((List.getD h4 (0 + (Int.toNat slot)) 0) < (PlanV.top p))) = false -> (vz13_7 p c_0 c c_n c_c slot c'1 h4 x4))
abbrev Yd56 (x0 : Int) (x1 : List Int) (x2 : PlanV) : Env := [(2, some (.int .i64 x0)), (3, some (.ptr ⟨1, 0, 0, 1⟩ 46)), (4, some (.ptr ⟨2, 0, 0, 1⟩ 2)), (6, some (.ptr ⟨3, 0, 0, 1⟩ 2)), (41, some (.bool (decide ((List.getD x1 (0 + (Int.toNat x0)) 0) < (PlanV.top x2)))))]
theorem pz13_8 (p : PlanV) (c_0 : Int) (c : List Int) (c_n c_c : Nat) (slot : Int) (hK : ∀ cap0 : Nat, (List.length (PlanV.nextL p c_0 c slot)) <= cap0 -> Kf (.tuple [.agg [.one (.int .u64 (PlanV.nextM p c_0 c slot)), .one (.slice ⟨1, 0, 0, 1⟩ (List.length (PlanV.nextL p c_0 c slot)) cap0)], .bool (PlanV.nextO p c_0 c slot), .int .i64 (PlanV.nextE p c_0 c slot)]) (Yd41 p c_0 c slot cap0 c_n)) (h4 : List Int) (c'1 x4 : Nat) (h : vz13_8 p c_0 c c_n c_c slot h4 c'1 x4) : SemL Try.prog w0 fp ρi 1 63 [cz13_n13, (.seq (.seq cz13_n14 cz13_n16) (.seq cz13_n17 .ret))] (Yd56 slot h4 p) (Yd51 c_n c p c_0 c_c c'1 h4 x4) (fnK RcNext 1 Kf) :=
  L_cond (q := (decide ((List.getD h4 (0 + (Int.toNat slot)) 0) < (PlanV.top p)))) (by kernel_rfl) (fun hq => (L_seq (lpk [2, 6] [0, 3, 4] (pz13_3 p c_0 c c_n c_c slot hK c'1 h4 x4 (h.1 hq))))) (fun hq => (L_skip (lpk [3, 4, 6] [0, 1, 2, 3, 4] (L_seq (L_seq (pz13_7 p c_0 c c_n c_c slot hK c'1 h4 x4 (h.2 hq)))))))
abbrev Yd57 (x0 : Int) : Env := [(2, some (.int .i64 x0)), (3, some (.ptr ⟨1, 0, 0, 1⟩ 46)), (4, some (.ptr ⟨2, 0, 0, 1⟩ 2)), (6, some (.ptr ⟨3, 0, 0, 1⟩ 2))]
theorem rz13_9 (p : PlanV) (c_0 : Int) (c : List Int) (c_n c_c : Nat) (slot : Int) (c'1 : Nat) (h4 : List Int) (x4 : Nat) (Z : Env -> Heap -> Prop) (h : ((0 <= slot)) /\ ((slot < ((c_n : Nat) : Int))) /\ (((0 + (Int.toNat slot)) < c_n)) /\ ((SVal.bd 5 (.int .i64 (PlanV.top p)))) /\ ((PlanV.right p = true) /\ ((.int .i64 (PlanV.top p) : SVal) = .int .i64 (PlanV.top p)) /\ (keeps (Yd51 c_n c p c_0 c_c c'1 h4 x4) (Yd51 c_n c p c_0 c_c c'1 h4 x4) [(0, some ⟨false, [.ints .i64 c_n c], 0⟩), (1, some ⟨true, (PlanV.cs p), 0⟩), (2, some ⟨true, [.one (.int .u64 c_0), .one (.slice ⟨0, 0, 0, 1⟩ c_n c_c)], 0⟩), (3, some ⟨true, [.one (.int .u64 c_0), .one (.slice ⟨4, 0, 0, 1⟩ c_n c'1)], 0⟩), (4, some ⟨true, [.ints .i64 c_n h4], x4⟩)])) /\ Z (Yd56 slot h4 p) (Yd51 c_n c p c_0 c_c c'1 h4 x4)) : EvQC GcNext cz13_n10i [.int .i64 (PlanV.top p)] (Yd57 slot) (Yd51 c_n c p c_0 c_c c'1 h4 x4) [2, 3, 4, 6, 41] [0, 1, 2, 3, 4] Z := EvQC.of (by kernel_rfl) h
def vz13_9 (p : PlanV) (c_0 : Int) (c : List Int) (c_n c_c : Nat) (slot : Int) (c'1 : Nat) (h4 : List Int) (x4 : Nat) : Prop := ((0 <= slot)) /\ (((slot < ((c_n : Nat) : Int))) /\ ((((0 + (Int.toNat slot)) < c_n)) /\ (((PlanV.right p = true)) /\ (vz13_8 p c_0 c c_n c_c slot h4 c'1 x4))))
theorem pz13_9 (p : PlanV) (c_0 : Int) (c : List Int) (c_n c_c : Nat) (slot : Int) (hK : ∀ cap0 : Nat, (List.length (PlanV.nextL p c_0 c slot)) <= cap0 -> Kf (.tuple [.agg [.one (.int .u64 (PlanV.nextM p c_0 c slot)), .one (.slice ⟨1, 0, 0, 1⟩ (List.length (PlanV.nextL p c_0 c slot)) cap0)], .bool (PlanV.nextO p c_0 c slot), .int .i64 (PlanV.nextE p c_0 c slot)]) (Yd41 p c_0 c slot cap0 c_n)) (c'1 : Nat) (h4 : List Int) (x4 : Nat) (h : vz13_9 p c_0 c c_n c_c slot c'1 h4 x4) : SemL Try.prog w0 fp ρi 1 63 [cz13_n10, cz13_n13, (.seq (.seq cz13_n14 cz13_n16) (.seq cz13_n17 .ret))] (Yd57 slot) (Yd51 c_n c p c_0 c_c c'1 h4 x4) (fnK RcNext 1 Kf) :=
  L_regQE hGcNext (its := cz13_n10i) (rz13_9 p c_0 c c_n c_c slot c'1 h4 x4 _ ⟨h.1, ⟨h.2.1, ⟨h.2.2.1, ⟨(plainR_ren (τ := whole) (by kernel_rfl)).2, ⟨⟨h.2.2.2.1, rfl, (keeps_refl _)⟩, (pz13_8 p c_0 c c_n c_c slot hK h4 c'1 x4 h.2.2.2.2)⟩⟩⟩⟩⟩)
abbrev Yd58 (x0 : Nat) (x1 : List Int) (x2 : PlanV) (x3 : Int) (x4 : Nat) : Heap := ⟨4, [(0, some ⟨false, [.ints .i64 x0 x1], 0⟩), (1, some ⟨true, (PlanV.cs x2), 0⟩), (2, some ⟨true, [.one (.int .u64 x3), .one (.slice ⟨0, 0, 0, 1⟩ x0 x4)], 0⟩), (3, some ⟨true, [.one (.int .u64 0), .one (.nilslice)], 0⟩)]⟩
theorem rz13_10 (p : PlanV) (c_0 : Int) (c : List Int) (c_n c_c : Nat) (slot : Int) (Z : Env -> Heap -> Prop) (h : (((0 + c_n) <= c_n)) /\ (((c_n : Nat) = c_n) /\ (List.length (List.take c_n c) = c_n /\ c_n <= c_c /\ c_n <= 1000000)) /\ ∀ (c'1 : Nat), c_n <= c'1 -> ((keeps ⟨5, [(0, some ⟨false, [.ints .i64 c_n c], 0⟩), (1, some ⟨true, (PlanV.cs p), 0⟩), (2, some ⟨true, [.one (.int .u64 c_0), .one (.slice ⟨0, 0, 0, 1⟩ c_n c_c)], 0⟩), (3, some ⟨true, [.one (.int .u64 0), .one (.nilslice)], 0⟩), (4, some ⟨true, [.ints .i64 c_n (List.take c_n c)], (c'1 - c_n)⟩)]⟩ (Heap.keep (Yd58 c_n c p c_0 c_c) [2]) (pickH [2] (Yd58 c_n c p c_0 c_c)))) /\ Z (Yd57 slot) ⟨5, [(0, some ⟨false, [.ints .i64 c_n c], 0⟩), (1, some ⟨true, (PlanV.cs p), 0⟩), (2, some ⟨true, [.one (.int .u64 c_0), .one (.slice ⟨0, 0, 0, 1⟩ c_n c_c)], 0⟩), (3, some ⟨true, [.one (.int .u64 c_0), .one (.slice ⟨4, 0, 0, 1⟩ c_n c'1)], 0⟩), (4, some ⟨true, [.ints .i64 c_n (List.take c_n c)], (c'1 - c_n)⟩)]⟩) : EvNC GcNext cz13_n9m [[], [2], [], [], [], [], []] (Yd57 slot) (Yd58 c_n c p c_0 c_c) [2, 3, 4, 6] [0, 1, 2, 3, 4] Z := EvNC.of (by kernel_rfl) h
def vz13_10 (p : PlanV) (c_0 : Int) (c : List Int) (c_n c_c : Nat) (slot : Int) : Prop := (((0 + c_n) <= c_n)) /\ (((List.length (List.take c_n c) = c_n /\ c_n <= c_c /\ c_n <= 1000000)) /\ (∀ (c'1 : Nat), (c_n <= c'1) -> (∀ h4 : List Int, h4 = (List.take c_n c) -> ∀ x4 : Nat, x4 = (c'1 - c_n) -> vz13_9 p c_0 c c_n c_c slot c'1 h4 x4)))
theorem pz13_10 (p : PlanV) (c_0 : Int) (c : List Int) (c_n c_c : Nat) (slot : Int) (hK : ∀ cap0 : Nat, (List.length (PlanV.nextL p c_0 c slot)) <= cap0 -> Kf (.tuple [.agg [.one (.int .u64 (PlanV.nextM p c_0 c slot)), .one (.slice ⟨1, 0, 0, 1⟩ (List.length (PlanV.nextL p c_0 c slot)) cap0)], .bool (PlanV.nextO p c_0 c slot), .int .i64 (PlanV.nextE p c_0 c slot)]) (Yd41 p c_0 c slot cap0 c_n)) (h : vz13_10 p c_0 c c_n c_c slot) : SemL Try.prog w0 fp ρi 1 63 [cz13_n9, (.seq (.seq cz13_n10 cz13_n13) (.seq (.seq cz13_n14 cz13_n16) (.seq cz13_n17 .ret)))] (Yd57 slot) (Yd58 c_n c p c_0 c_c) (fnK RcNext 1 Kf) :=
  L_regME hGcNext (steps := cz13_n9m) (rz13_10 p c_0 c c_n c_c slot _ ⟨h.1, ⟨⟨rfl, h.2.1⟩, (fun c'1 h_c_1_0 => ⟨(keepsG_ids (by kernel_rfl)), (L_seq (L_seq (pz13_9 p c_0 c c_n c_c slot hK c'1 (List.take c_n c) (c'1 - c_n) (((h.2.2 c'1 h_c_1_0) (List.take c_n c) rfl) (c'1 - c_n) rfl))))⟩)⟩⟩)
def vz13_11 (p : PlanV) (c_0 : Int) (c : List Int) (c_n c_c : Nat) (slot : Int) : Prop := (((decide (slot < 0)) || (decide (p.lines <= slot))) = true -> (vz13_1 p c_0 c c_n c_c slot)) /\ (((decide (slot < 0)) || (decide (p.lines <= slot))) = false -> (vz13_10 p c_0 c c_n c_c slot))
theorem pz13_11 (p : PlanV) (c_0 : Int) (c : List Int) (c_n c_c : Nat) (slot : Int) (hK : ∀ cap0 : Nat, (List.length (PlanV.nextL p c_0 c slot)) <= cap0 -> Kf (.tuple [.agg [.one (.int .u64 (PlanV.nextM p c_0 c slot)), .one (.slice ⟨1, 0, 0, 1⟩ (List.length (PlanV.nextL p c_0 c slot)) cap0)], .bool (PlanV.nextO p c_0 c slot), .int .i64 (PlanV.nextE p c_0 c slot)]) (Yd41 p c_0 c slot cap0 c_n)) (h : vz13_11 p c_0 c c_n c_c slot) : SemL Try.prog w0 fp ρi 1 63 [cz13_n6] [(2, some (.int .i64 slot)), (3, some (.ptr ⟨1, 0, 0, 1⟩ 46)), (4, some (.ptr ⟨2, 0, 0, 1⟩ 2)), (6, some (.ptr ⟨3, 0, 0, 1⟩ 2)), (18, some (.bool ((decide (slot < 0)) || (decide (p.lines <= slot)))))] (Yd58 c_n c p c_0 c_c) (kkz13_0 w0 fp ρi Kf p c_0 c c_n c_c slot) :=
  L_cond (q := ((decide (slot < 0)) || (decide (p.lines <= slot)))) (by kernel_rfl) (fun hq => (L_seq (lpk [6] [0, 3] (pz13_1 p c_0 c c_n c_c slot hK (h.1 hq))))) (fun hq => (L_skip (L_nil (lpk [2, 3, 4, 6] [0, 1, 2, 3] (L_seq (pz13_10 p c_0 c c_n c_c slot hK (h.2 hq)))))))
theorem rz13_12 (p : PlanV) (c_0 : Int) (c : List Int) (c_n c_c : Nat) (slot : Int) (Z : Env -> Heap -> Prop) (h : ∃ qq : Bool, ((decide (slot < 0)) = false -> (keeps (Yd58 c_n c p c_0 c_c) (Yd58 c_n c p c_0 c_c) [(0, some ⟨false, [.ints .i64 c_n c], 0⟩), (1, some ⟨true, (PlanV.cs p), 0⟩), (2, some ⟨true, [.one (.int .u64 c_0), .one (.slice ⟨0, 0, 0, 1⟩ c_n c_c)], 0⟩), (3, some ⟨true, [.one (.int .u64 0), .one (.nilslice)], 0⟩)]) /\ (decide (p.lines <= slot)) = qq) /\ ((decide (slot < 0)) = true -> true = qq) /\ Z [(2, some (.int .i64 slot)), (3, some (.ptr ⟨1, 0, 0, 1⟩ 46)), (4, some (.ptr ⟨2, 0, 0, 1⟩ 2)), (6, some (.ptr ⟨3, 0, 0, 1⟩ 2)), (18, some (.bool qq))] (Yd58 c_n c p c_0 c_c)) : EvC GcNext cz13_n4 (Yd57 slot) (Yd58 c_n c p c_0 c_c) [2, 3, 4, 6, 18] [0, 1, 2, 3] Z := EvC.of (by kernel_rfl) h
def vz13_12 (p : PlanV) (c_0 : Int) (c : List Int) (c_n c_c : Nat) (slot : Int) : Prop := vz13_11 p c_0 c c_n c_c slot
theorem pz13_12 (p : PlanV) (c_0 : Int) (c : List Int) (c_n c_c : Nat) (slot : Int) (hK : ∀ cap0 : Nat, (List.length (PlanV.nextL p c_0 c slot)) <= cap0 -> Kf (.tuple [.agg [.one (.int .u64 (PlanV.nextM p c_0 c slot)), .one (.slice ⟨1, 0, 0, 1⟩ (List.length (PlanV.nextL p c_0 c slot)) cap0)], .bool (PlanV.nextO p c_0 c slot), .int .i64 (PlanV.nextE p c_0 c slot)]) (Yd41 p c_0 c slot cap0 c_n)) (h : vz13_12 p c_0 c c_n c_c slot) : SemL Try.prog w0 fp ρi 1 63 [cz13_n4, cz13_n6] (Yd57 slot) (Yd58 c_n c p c_0 c_c) (kkz13_0 w0 fp ρi Kf p c_0 c c_n c_c slot) :=
  L_regE hGcNext (rz13_12 p c_0 c c_n c_c slot _ ⟨((decide (slot < 0)) || (decide (p.lines <= slot))), fun hc_qq => ⟨(keeps_refl _), (qo1 hc_qq)⟩, fun hc_qq => qo2 hc_qq, (pz13_11 p c_0 c c_n c_c slot hK h)⟩)
def vz13_13 (p : PlanV) (c_0 : Int) (c : List Int) (c_n c_c : Nat) (slot v9 : Int) : Prop := ((v9 != 0) = true -> (vz13_0 p c_0 c c_n c_c slot v9)) /\ ((v9 != 0) = false -> (vz13_12 p c_0 c c_n c_c slot))
abbrev Yd59 (x0 x1 : Int) : Env := [(2, some (.int .i64 x0)), (3, some (.ptr ⟨1, 0, 0, 1⟩ 46)), (4, some (.ptr ⟨2, 0, 0, 1⟩ 2)), (6, some (.ptr ⟨3, 0, 0, 1⟩ 2)), (9, some (.int .i64 x1)), (13, some (.bool (x1 != 0)))]
theorem pz13_13 (p : PlanV) (c_0 : Int) (c : List Int) (c_n c_c : Nat) (slot : Int) (hK : ∀ cap0 : Nat, (List.length (PlanV.nextL p c_0 c slot)) <= cap0 -> Kf (.tuple [.agg [.one (.int .u64 (PlanV.nextM p c_0 c slot)), .one (.slice ⟨1, 0, 0, 1⟩ (List.length (PlanV.nextL p c_0 c slot)) cap0)], .bool (PlanV.nextO p c_0 c slot), .int .i64 (PlanV.nextE p c_0 c slot)]) (Yd41 p c_0 c slot cap0 c_n)) (v9 : Int) (h : vz13_13 p c_0 c c_n c_c slot v9) : SemL Try.prog w0 fp ρi 1 63 [cz13_n7] (Yd59 slot v9) (Yd58 c_n c p c_0 c_c) (kkz13_0 w0 fp ρi Kf p c_0 c c_n c_c slot) :=
  L_cond (q := (v9 != 0)) (by kernel_rfl) (fun hq => (L_seq (lpk [6, 9] [0, 3] (pz13_0 p c_0 c c_n c_c slot hK v9 (h.1 hq))))) (fun hq => (L_seq (lpk [2, 3, 4, 6] [0, 1, 2, 3] (pz13_12 p c_0 c c_n c_c slot hK (h.2 hq)))))
abbrev Yd60 (x0 x1 : Int) : Env := [(2, some (.int .i64 x0)), (3, some (.ptr ⟨1, 0, 0, 1⟩ 46)), (4, some (.ptr ⟨2, 0, 0, 1⟩ 2)), (6, some (.ptr ⟨3, 0, 0, 1⟩ 2)), (9, some (.int .i64 x1))]
theorem rz13_14 (p : PlanV) (c_0 : Int) (c : List Int) (c_n c_c : Nat) (slot v9 : Int) (Z : Env -> Heap -> Prop) (h : Z (Yd59 slot v9) (Yd58 c_n c p c_0 c_c)) : EvC GcNext cz13_n2 (Yd60 slot v9) (Yd58 c_n c p c_0 c_c) [2, 3, 4, 6, 9, 13] [0, 1, 2, 3] Z := EvC.of (by kernel_rfl) h
def vz13_14 (p : PlanV) (c_0 : Int) (c : List Int) (c_n c_c : Nat) (slot v9 : Int) : Prop := vz13_13 p c_0 c c_n c_c slot v9
theorem pz13_14 (p : PlanV) (c_0 : Int) (c : List Int) (c_n c_c : Nat) (slot : Int) (hK : ∀ cap0 : Nat, (List.length (PlanV.nextL p c_0 c slot)) <= cap0 -> Kf (.tuple [.agg [.one (.int .u64 (PlanV.nextM p c_0 c slot)), .one (.slice ⟨1, 0, 0, 1⟩ (List.length (PlanV.nextL p c_0 c slot)) cap0)], .bool (PlanV.nextO p c_0 c slot), .int .i64 (PlanV.nextE p c_0 c slot)]) (Yd41 p c_0 c slot cap0 c_n)) (v9 : Int) (h : vz13_14 p c_0 c c_n c_c slot v9) : SemL Try.prog w0 fp ρi 1 63 [cz13_n2, cz13_n7] (Yd60 slot v9) (Yd58 c_n c p c_0 c_c) (kkz13_0 w0 fp ρi Kf p c_0 c c_n c_c slot) :=
  L_regE hGcNext (rz13_14 p c_0 c c_n c_c slot v9 _ (pz13_13 p c_0 c c_n c_c slot hK v9 h))
def vz13_15 (p : PlanV) (c_0 : Int) (c : List Int) (c_n c_c : Nat) (slot v9 : Int) : Prop := vz13_14 p c_0 c c_n c_c slot v9
theorem pz13_15 (p : PlanV) (c_0 : Int) (c : List Int) (c_n c_c : Nat) (slot : Int) (hK : ∀ cap0 : Nat, (List.length (PlanV.nextL p c_0 c slot)) <= cap0 -> Kf (.tuple [.agg [.one (.int .u64 (PlanV.nextM p c_0 c slot)), .one (.slice ⟨1, 0, 0, 1⟩ (List.length (PlanV.nextL p c_0 c slot)) cap0)], .bool (PlanV.nextO p c_0 c slot), .int .i64 (PlanV.nextE p c_0 c slot)]) (Yd41 p c_0 c slot cap0 c_n)) (v9 : Int) (h : vz13_15 p c_0 c c_n c_c slot v9) : SemL Try.prog w0 fp ρi 1 63 [cz13_n8, (.seq cz13_n9 (.seq (.seq cz13_n10 cz13_n13) (.seq (.seq cz13_n14 cz13_n16) (.seq cz13_n17 .ret))))] (Yd60 slot v9) (Yd58 c_n c p c_0 c_c) (fnK RcNext 1 Kf) :=
  L_block (L_seq (pz13_14 p c_0 c c_n c_c slot hK v9 h))
theorem rz13_16 (p : PlanV) (c_0 : Int) (c : List Int) (c_n c_c : Nat) (slot : Int) (Z : Env -> Heap -> Prop) (h : (((0 + c_n) <= c_n)) /\ (((c_n : Nat) = c_n) /\ (List.length (List.take c_n c) = c_n /\ c_n <= c_c /\ c_n <= 1000000)) /\ Z [(2, some (.int .i64 slot)), (3, some (.ptr ⟨1, 0, 0, 1⟩ 46)), (4, some (.ptr ⟨2, 0, 0, 1⟩ 2)), (6, some (.ptr ⟨3, 0, 0, 1⟩ 2)), (9, some (.int .i64 (PlanV.wrongC p c_0 (List.take c_n c))))] (Yd58 c_n c p c_0 c_c)) : EvC GcNext cz13_n1 (Yd57 slot) (Yd58 c_n c p c_0 c_c) [2, 3, 4, 6, 9] [0, 1, 2, 3] Z := EvC.of (by kernel_rfl) h
def vz13_16 (p : PlanV) (c_0 : Int) (c : List Int) (c_n c_c : Nat) (slot : Int) : Prop := (((0 + c_n) <= c_n)) /\ (((List.length (List.take c_n c) = c_n /\ c_n <= c_c /\ c_n <= 1000000)) /\ (∀ v9 : Int, v9 = (PlanV.wrongC p c_0 (List.take c_n c)) -> vz13_15 p c_0 c c_n c_c slot v9))
theorem pz13_16 (p : PlanV) (c_0 : Int) (c : List Int) (c_n c_c : Nat) (slot : Int) (hK : ∀ cap0 : Nat, (List.length (PlanV.nextL p c_0 c slot)) <= cap0 -> Kf (.tuple [.agg [.one (.int .u64 (PlanV.nextM p c_0 c slot)), .one (.slice ⟨1, 0, 0, 1⟩ (List.length (PlanV.nextL p c_0 c slot)) cap0)], .bool (PlanV.nextO p c_0 c slot), .int .i64 (PlanV.nextE p c_0 c slot)]) (Yd41 p c_0 c slot cap0 c_n)) (h : vz13_16 p c_0 c c_n c_c slot) : SemL Try.prog w0 fp ρi 1 63 [cz13_n1, cz13_n8, (.seq cz13_n9 (.seq (.seq cz13_n10 cz13_n13) (.seq (.seq cz13_n14 cz13_n16) (.seq cz13_n17 .ret))))] (Yd57 slot) (Yd58 c_n c p c_0 c_c) (fnK RcNext 1 Kf) :=
  L_regE hGcNext (rz13_16 p c_0 c c_n c_c slot _ ⟨h.1, ⟨⟨rfl, h.2.1⟩, (pz13_15 p c_0 c c_n c_c slot hK (PlanV.wrongC p c_0 (List.take c_n c)) (h.2.2 (PlanV.wrongC p c_0 (List.take c_n c)) rfl))⟩⟩)
abbrev Yd61 (x0 : PlanV) (x1 : Int) (x2 x3 : Nat) (x4 : Int) : Env := [(0, some (.agg (PlanV.cs x0))), (1, some (.agg [.one (.int .u64 x1), .one (.slice ⟨0, 0, 0, 1⟩ x2 x3)])), (2, some (.int .i64 x4))]
theorem rz13_17 (p : PlanV) (c_0 : Int) (c : List Int) (c_n c_c : Nat) (slot : Int) (Z : Env -> Heap -> Prop) (h : Z (Yd57 slot) (Yd58 c_n c p c_0 c_c)) : EvC GcNext cz13_n0 (Yd61 p c_0 c_n c_c slot) (Yd27 c_n c) [2, 3, 4, 6] [0, 1, 2, 3] Z := EvC.of (by kernel_rfl) h
def vz13_17 (p : PlanV) (c_0 : Int) (c : List Int) (c_n c_c : Nat) (slot : Int) : Prop := vz13_16 p c_0 c c_n c_c slot
theorem pz13_17 (p : PlanV) (c_0 : Int) (c : List Int) (c_n c_c : Nat) (slot : Int) (hK : ∀ cap0 : Nat, (List.length (PlanV.nextL p c_0 c slot)) <= cap0 -> Kf (.tuple [.agg [.one (.int .u64 (PlanV.nextM p c_0 c slot)), .one (.slice ⟨1, 0, 0, 1⟩ (List.length (PlanV.nextL p c_0 c slot)) cap0)], .bool (PlanV.nextO p c_0 c slot), .int .i64 (PlanV.nextE p c_0 c slot)]) (Yd41 p c_0 c slot cap0 c_n)) (h : vz13_17 p c_0 c c_n c_c slot) : SemL Try.prog w0 fp ρi 1 63 [cz13_n0, (.seq (.seq cz13_n1 cz13_n8) (.seq cz13_n9 (.seq (.seq cz13_n10 cz13_n13) (.seq (.seq cz13_n14 cz13_n16) (.seq cz13_n17 .ret)))))] (Yd61 p c_0 c_n c_c slot) (Yd27 c_n c) (fnK RcNext 1 Kf) :=
  L_regE hGcNext (rz13_17 p c_0 c c_n c_c slot _ (L_seq (L_seq (pz13_16 p c_0 c c_n c_c slot hK h))))
def vccNext (p : PlanV) (c_0 : Int) (c : List Int) (c_n c_c : Nat) (slot : Int) : Prop := vz13_17 p c_0 c c_n c_c slot
theorem wcNext (p : PlanV) (c_0 : Int) (c : List Int) (c_n c_c : Nat) (slot : Int) (hK : ∀ cap0 : Nat, (List.length (PlanV.nextL p c_0 c slot)) <= cap0 -> Kf (.tuple [.agg [.one (.int .u64 (PlanV.nextM p c_0 c slot)), .one (.slice ⟨1, 0, 0, 1⟩ (List.length (PlanV.nextL p c_0 c slot)) cap0)], .bool (PlanV.nextO p c_0 c slot), .int .i64 (PlanV.nextE p c_0 c slot)]) (Yd41 p c_0 c slot cap0 c_n)) (h : vccNext p c_0 c c_n c_c slot) : SemL Try.prog w0 fp ρi 1 63 [ccNext] (Yd61 p c_0 c_n c_c slot) (Yd27 c_n c) (fnK RcNext 1 Kf) :=
  (L_seq (pz13_17 p c_0 c c_n c_c slot hK h))
end
theorem okcNext (p : PlanV) (c_0 : Int) (c : List Int) (c_n c_c : Nat) (slot : Int) (hpre : ((List.length c = c_n /\ c_n <= c_c /\ c_n <= 1000000) /\ 0 <= c_0 /\ c_0 < 2 ^ 64 /\ I64 slot)) : vccNext p c_0 c c_n c_c slot := by
  unfold vccNext vz13_17 vz13_16 vz13_15 vz13_14 vz13_13 vz13_12 vz13_11 vz13_10 vz13_9 vz13_8 vz13_7 vz13_6 vz13_5 vz13_4 vz13_3 vz13_2 vz13_1 vz13_0
  obtain ⟨⟨hl, hc, hl2⟩, hm, hm2, hs⟩ := hpre
  have ht : List.take c_n c = c := List.take_of_length_le (by omega)
  rw [ht]
  refine ⟨by omega, ⟨hl, hc, hl2⟩, ?_⟩
  rintro v9 rfl
  have err : ∀ e, p.nextE c_0 c slot = e -> e ≠ 0 -> 0 = p.nextM c_0 c slot /\ 0 = (p.nextL c_0 c slot).length /\ false = p.nextO c_0 c slot /\ e = p.nextE c_0 c slot /\ 0 = (p.nextL c_0 c slot).length /\ [] = p.nextL c_0 c slot /\ 0 = 0 - (p.nextL c_0 c slot).length /\ (p.nextL c_0 c slot).length <= 0 := fun e h1 h2 => by
    obtain ⟨g1, g2, g3⟩ := PlanV.next_err h1 h2
    rw [g1, g2, g3, h1]
    exact ⟨rfl, rfl, rfl, rfl, rfl, rfl, rfl, Nat.le_refl _⟩
  refine ⟨fun hw => err _ (PlanV.nextE_wrong (by simpa using hw)) (by simpa using hw), fun hw => ?_⟩
  have hw : p.wrongC c_0 c = 0 := by simpa using hw
  obtain ⟨hr, hmj, hln, hel⟩ := PlanV.wrongC_zero hw
  have hrf := PlanV.right_facts hr
  have htop := PlanV.pow_minor hr
  refine ⟨fun hsl => err 2 (PlanV.nextE_slot hw (by simpa using hsl)) (by decide), fun hsl => ?_⟩
  have hsl : ¬ (slot < 0 ∨ p.lines <= slot) := by simpa using hsl
  refine ⟨by omega, ⟨hl, hc, hl2⟩, ?_⟩
  rintro k hk h4 hh x4 rfl
  rw [hh, Nat.zero_add]
  have hx := hel slot.toNat (by omega)
  refine ⟨by omega, by omega, by omega, hr, fun hlt => ?_, fun hge => ⟨fun he => ?_, fun hne => ?_⟩⟩
  · have hlt := of_decide_eq_true hlt
    obtain ⟨g1, g2, g3, g4⟩ := PlanV.next_on hw hsl (by omega)
    refine ⟨by omega, by omega, by omega, by omega, by omega, by omega, by omega, ?_⟩
    rintro _ rfl
    have e1 : IntKind.i64.wrap (c.getD slot.toNat 0 + 1) = c.getD slot.toNat 0 + 1 := by unfold PlanV.top at *; rw [wi64]; omega
    rw [e1, g1, g2, g3, g4, List.length_set]
    exact ⟨rfl, hl.symm, rfl, rfl, hl.symm, rfl, by omega, by omega⟩
  · exact err 21 (PlanV.nextE_end hw hsl (by have := of_decide_eq_false hge; omega) (by simpa using he)) (by decide)
  · obtain ⟨g1, g2, g3, g4⟩ := PlanV.next_over hw hsl (by have := of_decide_eq_false hge; omega) (by simpa using hne)
    have hne : c_0 ≠ p.major := by simpa using hne
    rw [g1, g2, g3, g4, List.length_replicate, wrap_u64]
    exact ⟨by omega, by omega, by omega, rfl, rfl, rfl, rfl, rfl, rfl, by omega⟩
theorem scNext : Sound Try.prog 13 (gS DcNext) := by
  refine fn_soundA ccNext_fits ?_
  intro args H K h
  obtain ⟨pre, out, hD, hpre, hK⟩ := gS_inv h
  unfold DcNext at hD
  split at hD
  · obtain ⟨hb, hD⟩ := bif_some hD
    simp only [Bool.and_eq_true] at hb
    obtain ⟨h0, h1⟩ := hb
    obtain rfl := Nat.eq_of_beq_eq_true h0
    obtain rfl := Nat.eq_of_beq_eq_true h1
    cases hD
    obtain ⟨rfl, hpre⟩ := hpre
    exact ⟨rfl, fun w0 fp ρi => wcNext (PlanV.mk _ _ _ _ _ _ _ _ _ _ _ _ _ _ _ _) _ _ _ _ _ hK (okcNext (PlanV.mk _ _ _ _ _ _ _ _ _ _ _ _ _ _ _ _) _ _ _ _ _ hpre)⟩
  · cases hD
end Go.Proofs.Ytggpebgigddogaa
