/- Part of the proof: SxPutQ. -/
import Derived.Test.YtggpebgigddogaaSxBitsP
import Derived.Test.YtggpebgigddogaaSxG
import Derived.Test.YtggpebgigddogaaSxPutL
import Derived.KernelRfl
set_option linter.unusedVariables false
set_option linter.unusedSimpArgs false
namespace Go.Proofs.Ytggpebgigddogaa
open Go.Sx
def Dq1Fits : GSpec := fun args H => match args, H with
  | [.slice ⟨0, 0, 0, 1⟩ b_n b_c, .int .i64 at_, .int .i64 n], ⟨1, [(0, some ⟨false, [.ints .u8 b_m b], 0⟩)]⟩ => some (b_m = b_n /\ (b_n <= 1000000 /\ I64 at_ /\ I64 n), fun K => K (.bool (thereB b_n at_ n)) ⟨1, [(0, some ⟨false, [.ints .u8 b_n b], 0⟩)]⟩)
  | _, _ => none
def conq1Fits : Con := ⟨71, gS Dq1Fits, [], [], []⟩
def cz71_n0 : ACode := .reg (.op (some 6) (.mov (.cn (.bool false))) .nil)
def cz71_n1 : ACode := .reg (.op (some 7) (.mov (.tm 1)) (.op (some 8) (.bin .geq (.tm 7) (.cn (.int .i64 0))) (.op (some 9) (.mov (.tm 8)) (.grpJ 9 true (.op (some 10) (.mov (.tm 2)) (.op (some 11) (.bin .geq (.tm 10) (.cn (.int .i64 0))) .nil)) 12 (.tm 11) (.cn (.bool false)) (.op (some 13) (.mov (.tm 12)) (.grpJ 13 true (.op (some 14) (.mov (.tm 2)) (.op (some 15) (.bin .leq (.tm 14) (.cn (.int .i64 64))) .nil)) 16 (.tm 15) (.cn (.bool false)) (.op (some 17) (.mov (.tm 16)) (.grpJ 17 true (.op (some 18) (.mov (.tm 1)) (.op (some 19) (.mov (.tm 0)) (.op (some 20) (.len (.tm 19)) (.op (some 21) (.bin .mul (.cn (.int .i64 8)) (.tm 20)) (.op (some 22) (.bin .leq (.tm 18) (.tm 21)) .nil))))) 23 (.tm 22) (.cn (.bool false)) (.op (some 24) (.mov (.tm 23)) (.grpJ 24 true (.op (some 25) (.mov (.tm 2)) (.op (some 26) (.mov (.tm 0)) (.op (some 27) (.len (.tm 26)) (.op (some 28) (.bin .mul (.cn (.int .i64 8)) (.tm 27)) (.op (some 29) (.mov (.tm 1)) (.op (some 30) (.bin .sub (.tm 28) (.tm 29)) (.op (some 31) (.bin .leq (.tm 25) (.tm 30)) .nil))))))) 32 (.tm 31) (.cn (.bool false)) (.op (some 6) (.mov (.tm 32)) .nil)))))))))))
def cq1Fits : ACode := (.seq cz71_n0 (.seq cz71_n1 .ret))
def Rq1Fits : Res := .one (.tm 6)
theorem cq1Fits_fits : fnFits Try.prog 71 3 33 cq1Fits Rq1Fits = true := by kernel_rfl
def Gq1Fits : Calls' := withP [] []
theorem hGq1Fits : CallOk Try.prog Gq1Fits := withP_ok trivial trivial
section
variable {w0 : World} {fp : Nat -> Nat -> Prop} {ρi : Rho} {Kf : SVal -> Heap -> Prop}
abbrev Ya0 (x0 : Nat) (x1 : List Int) : Heap := ⟨1, [(0, some ⟨false, [.ints .u8 x0 x1], 0⟩)]⟩
abbrev Ya1 (x0 x1 : Nat) (x2 x3 : Int) : Env := [(0, some (.slice ⟨0, 0, 0, 1⟩ x0 x1)), (1, some (.int .i64 x2)), (2, some (.int .i64 x3))]
theorem rz71_0 (b : List Int) (b_n b_c : Nat) (at_ n : Int) (Z : Env -> Heap -> Prop) (h : ∃ qq : Bool, ((decide (0 <= at_)) = true -> (keeps (Ya0 b_n b) (Ya0 b_n b) [(0, some ⟨false, [.ints .u8 b_n b], 0⟩)]) /\ (decide (0 <= n)) = qq) /\ ((decide (0 <= at_)) = false -> false = qq) /\ ∃ qq'1 : Bool, (qq = true -> (keeps (Ya0 b_n b) (Ya0 b_n b) [(0, some ⟨false, [.ints .u8 b_n b], 0⟩)]) /\ (decide (n <= 64)) = qq'1) /\ (qq = false -> false = qq'1) /\ ∃ qq'2 : Bool, (qq'1 = true -> (keeps (Ya0 b_n b) (Ya0 b_n b) [(0, some ⟨false, [.ints .u8 b_n b], 0⟩)]) /\ (decide (at_ <= (IntKind.i64.wrap (8 * ((b_n : Nat) : Int))))) = qq'2) /\ (qq'1 = false -> false = qq'2) /\ ∃ qq'3 : Bool, (qq'2 = true -> (keeps (Ya0 b_n b) (Ya0 b_n b) [(0, some ⟨false, [.ints .u8 b_n b], 0⟩)]) /\ (decide (n <= (IntKind.i64.wrap ((IntKind.i64.wrap (8 * ((b_n : Nat) : Int))) - at_)))) = qq'3) /\ (qq'2 = false -> false = qq'3) /\ Z [(6, some (.bool qq'3))] (Ya0 b_n b)) : EvC Gq1Fits cz71_n1 (Ya1 b_n b_c at_ n) (Ya0 b_n b) [6] [0] Z := EvC.of (by kernel_rfl) h
theorem rtz71_0 (b : List Int) (b_n b_c : Nat) (at_ n : Int) : RetC Rq1Fits [(6, some (.bool (((((decide (0 <= at_)) && (decide (0 <= n))) && (decide (n <= 64))) && (decide (at_ <= (IntKind.i64.wrap (8 * ((b_n : Nat) : Int)))))) && (decide (n <= (IntKind.i64.wrap ((IntKind.i64.wrap (8 * ((b_n : Nat) : Int))) - at_)))))))] (Ya0 b_n b) (.bool (((((decide (0 <= at_)) && (decide (0 <= n))) && (decide (n <= 64))) && (decide (at_ <= (IntKind.i64.wrap (8 * ((b_n : Nat) : Int)))))) && (decide (n <= (IntKind.i64.wrap ((IntKind.i64.wrap (8 * ((b_n : Nat) : Int))) - at_)))))) := RetC.of (fun Z => by kernel_rfl)
def vz71_0 (b : List Int) (b_n b_c : Nat) (at_ n : Int) : Prop := (((((decide (0 <= at_)) && (decide (0 <= n))) && (decide (n <= 64))) && (decide (at_ <= (IntKind.i64.wrap (8 * ((b_n : Nat) : Int)))))) && (decide (n <= (IntKind.i64.wrap ((IntKind.i64.wrap (8 * ((b_n : Nat) : Int))) - at_))))) = (thereB b_n at_ n)
theorem pz71_0 (b : List Int) (b_n b_c : Nat) (at_ n : Int) (hK : Kf (.bool (thereB b_n at_ n)) ⟨1, [(0, some ⟨false, [.ints .u8 b_n b], 0⟩)]⟩) (h : vz71_0 b b_n b_c at_ n) : SemL Try.prog w0 fp ρi 1 33 [cz71_n1, .ret] (Ya1 b_n b_c at_ n) (Ya0 b_n b) (fnK Rq1Fits 1 Kf) :=
  L_regE hGq1Fits (rz71_0 b b_n b_c at_ n _ ⟨((decide (0 <= at_)) && (decide (0 <= n))), fun hc_qq => ⟨(keeps_refl _), (qa1 hc_qq)⟩, fun hc_qq => qa2 hc_qq, ⟨(((decide (0 <= at_)) && (decide (0 <= n))) && (decide (n <= 64))), fun hc_qq_1 => ⟨(keeps_refl _), (qa1 hc_qq_1)⟩, fun hc_qq_1 => qa2 hc_qq_1, ⟨((((decide (0 <= at_)) && (decide (0 <= n))) && (decide (n <= 64))) && (decide (at_ <= (IntKind.i64.wrap (8 * ((b_n : Nat) : Int)))))), fun hc_qq_2 => ⟨(keeps_refl _), (qa1 hc_qq_2)⟩, fun hc_qq_2 => qa2 hc_qq_2, ⟨(((((decide (0 <= at_)) && (decide (0 <= n))) && (decide (n <= 64))) && (decide (at_ <= (IntKind.i64.wrap (8 * ((b_n : Nat) : Int)))))) && (decide (n <= (IntKind.i64.wrap ((IntKind.i64.wrap (8 * ((b_n : Nat) : Int))) - at_))))), fun hc_qq_3 => ⟨(keeps_refl _), (qa1 hc_qq_3)⟩, fun hc_qq_3 => qa2 hc_qq_3, (L_retE (R := Rq1Fits) (m := 1) (Kf := Kf) (fun _ _ h => h) (rtz71_0 b b_n b_c at_ n) (ret_of0 (Eq.mpr (cg1 (fun (z1 : Bool) => Ret0 1 Kf (.bool z1) (Ya0 b_n b)) h) (ret0_tau [] [0] rfl (by kernel_rfl) rfl pbd (hsc pcs heapSub_nil) rfl (by kernel_rfl) (hK)))))⟩⟩⟩⟩)
theorem rz71_1 (b : List Int) (b_n b_c : Nat) (at_ n : Int) (Z : Env -> Heap -> Prop) (h : Z (Ya1 b_n b_c at_ n) (Ya0 b_n b)) : EvC Gq1Fits cz71_n0 (Ya1 b_n b_c at_ n) (Ya0 b_n b) [0, 1, 2] [0] Z := EvC.of (by kernel_rfl) h
def vz71_1 (b : List Int) (b_n b_c : Nat) (at_ n : Int) : Prop := vz71_0 b b_n b_c at_ n
theorem pz71_1 (b : List Int) (b_n b_c : Nat) (at_ n : Int) (hK : Kf (.bool (thereB b_n at_ n)) ⟨1, [(0, some ⟨false, [.ints .u8 b_n b], 0⟩)]⟩) (h : vz71_1 b b_n b_c at_ n) : SemL Try.prog w0 fp ρi 1 33 [cz71_n0, (.seq cz71_n1 .ret)] (Ya1 b_n b_c at_ n) (Ya0 b_n b) (fnK Rq1Fits 1 Kf) :=
  L_regE hGq1Fits (rz71_1 b b_n b_c at_ n _ (L_seq (pz71_0 b b_n b_c at_ n hK h)))
def vcq1Fits (b : List Int) (b_n b_c : Nat) (at_ n : Int) : Prop := vz71_1 b b_n b_c at_ n
theorem wq1Fits (b : List Int) (b_n b_c : Nat) (at_ n : Int) (hK : Kf (.bool (thereB b_n at_ n)) ⟨1, [(0, some ⟨false, [.ints .u8 b_n b], 0⟩)]⟩) (h : vcq1Fits b b_n b_c at_ n) : SemL Try.prog w0 fp ρi 1 33 [cq1Fits] (Ya1 b_n b_c at_ n) (Ya0 b_n b) (fnK Rq1Fits 1 Kf) :=
  (L_seq (pz71_1 b b_n b_c at_ n hK h))
end
theorem okq1Fits (b : List Int) (b_n b_c : Nat) (at_ n : Int) (hpre : (b_n <= 1000000 /\ I64 at_ /\ I64 n)) : vcq1Fits b b_n b_c at_ n := by
  unfold vcq1Fits vz71_1 vz71_0
  obtain ⟨h1, h2, h3⟩ := hpre
  unfold I64 at h2 h3
  have w8 : IntKind.i64.wrap (8 * (b_n : Int)) = 8 * b_n := by rw [wi64]; omega
  rw [w8]
  by_cases ha : 0 <= at_
  · have w9 : IntKind.i64.wrap (8 * (b_n : Int) - at_) = 8 * b_n - at_ := by rw [wi64]; omega
    rw [w9, Bool.eq_iff_iff, thereB_iff]
    simp only [Bool.and_eq_true, decide_eq_true_eq]
    omega
  · rw [decide_eq_false ha]
    symm
    rw [Bool.false_and, Bool.false_and, Bool.false_and, Bool.false_and, <- Bool.not_eq_true, thereB_iff]
    omega
theorem sq1Fits : Sound Try.prog 71 (gS Dq1Fits) := by
  refine fn_soundA cq1Fits_fits ?_
  intro args H K h
  obtain ⟨pre, out, hD, hpre, hK⟩ := gS_inv h
  unfold Dq1Fits at hD
  split at hD
  · cases hD
    obtain ⟨rfl, hpre⟩ := hpre
    exact ⟨rfl, fun w0 fp ρi => wq1Fits _ _ _ _ _ hK (okq1Fits _ _ _ _ _ hpre)⟩
  · cases hD
def Dq1Bit : GSpec := fun args H => match args, H with
  | [.slice ⟨0, 0, 0, 1⟩ b_n b_c, .int .i64 k], ⟨1, [(0, some ⟨false, [.ints .u8 b_m b], 0⟩)]⟩ => some (b_m = b_n /\ (List.length b = b_n /\ b_n <= b_c /\ b_n <= 1000000 /\ Byt b /\ 0 <= k /\ k < 8 * (b_n : Int)), fun K => K (.int .i64 (bitB b (Int.toNat k))) ⟨1, [(0, some ⟨false, [.ints .u8 b_n b], 0⟩)]⟩)
  | _, _ => none
def conq1Bit : Con := ⟨72, gS Dq1Bit, [], [], []⟩
def cz72_n0 : ACode := .reg (.op (some 4) (.mov (.cn (.int .i64 0))) .nil)
def cz72_n1m : List MStep := [.mk 0 0 (some 5) (.mov (.tm 0)), .mk 1 0 (some 6) (.mov (.tm 1)), .mk 2 0 (some 7) (.bin .quo (.tm 6) (.cn (.int .i64 8))), .mk 3 0 (some 8) (.idxS (.tm 5) (.tm 7) 1), .mk 4 0 (some 9) (.load1 (.tm 8)), .mk 5 0 (some 10) (.conv .i64 (.tm 9)), .mk 7 0 (some 12) (.mov (.tm 1)), .mk 8 0 (some 13) (.bin .rem (.tm 12) (.cn (.int .i64 8))), .mk 6 1 (some 11) (.bslice .i64 8 [(0, (.cn (.int .i64 1))), (1, (.cn (.int .i64 2))), (2, (.cn (.int .i64 4))), (3, (.cn (.int .i64 8))), (4, (.cn (.int .i64 16))), (5, (.cn (.int .i64 32))), (6, (.cn (.int .i64 64))), (7, (.cn (.int .i64 128)))]), .mk 9 0 (some 14) (.idxS (.tm 11) (.tm 13) 1), .mk 10 0 (some 15) (.load1 (.tm 14)), .mk 11 0 (some 16) (.bin .quo (.tm 10) (.tm 15)), .mk 12 0 (some 17) (.bin .rem (.tm 16) (.cn (.int .i64 2))), .mk 13 0 (some 4) (.mov (.tm 17))]
def cz72_n1 : ACode := .regM cz72_n1m
def cq1Bit : ACode := (.seq cz72_n0 (.seq cz72_n1 .ret))
def Rq1Bit : Res := .one (.tm 4)
theorem cq1Bit_fits : fnFits Try.prog 72 2 18 cq1Bit Rq1Bit = true := by kernel_rfl
def Gq1Bit : Calls' := withP [] []
theorem hGq1Bit : CallOk Try.prog Gq1Bit := withP_ok trivial trivial
section
variable {w0 : World} {fp : Nat -> Nat -> Prop} {ρi : Rho} {Kf : SVal -> Heap -> Prop}
abbrev Ya2 (x0 : List Int) (x1 : Int) : Env := [(4, some (.int .i64 (Int.tmod (IntKind.i64.wrap (Int.tdiv (IntKind.i64.wrap (List.getD x0 (0 + (Int.toNat (IntKind.i64.wrap (Int.tdiv x1 8)))) 0)) (List.getD ([1, 2, 4, 8, 16, 32, 64, 128] : List Int) (0 + (Int.toNat (Int.tmod x1 8))) 0))) 2)))]
abbrev Ya3 (x0 : Nat) (x1 : List Int) : Heap := ⟨2, [(0, some ⟨false, [.ints .u8 x0 x1], 0⟩)]⟩
abbrev Ya4 (x0 x1 : Nat) (x2 : Int) : Env := [(0, some (.slice ⟨0, 0, 0, 1⟩ x0 x1)), (1, some (.int .i64 x2))]
theorem rz72_0 (b : List Int) (b_n b_c : Nat) (k : Int) (Z : Env -> Heap -> Prop) (h : (((8 : Int) ≠ 0)) /\ ((0 <= (IntKind.i64.wrap (Int.tdiv k 8)))) /\ (((IntKind.i64.wrap (Int.tdiv k 8)) < ((b_n : Nat) : Int))) /\ (((0 + (Int.toNat (IntKind.i64.wrap (Int.tdiv k 8)))) < b_n)) /\ (((8 : Int) ≠ 0)) /\ ((keeps ⟨2, [(0, some ⟨false, [.ints .u8 b_n b], 0⟩), (1, some ⟨true, [.ints .i64 8 [1, 2, 4, 8, 16, 32, 64, 128]], 0⟩)]⟩ (Heap.keep (Ya0 b_n b) [0]) (pickH [0] (Ya0 b_n b)))) /\ ((0 <= (Int.tmod k 8))) /\ (((Int.tmod k 8) < 8)) /\ (((0 + (Int.toNat (Int.tmod k 8))) < 8)) /\ (((List.getD ([1, 2, 4, 8, 16, 32, 64, 128] : List Int) (0 + (Int.toNat (Int.tmod k 8))) 0) ≠ 0)) /\ (((2 : Int) ≠ 0)) /\ Z (Ya2 b k) (Ya3 b_n b)) : EvNC Gq1Bit cz72_n1m [[], [], [], [], [0], [], [], [], [], [], [1], [], [], []] (Ya4 b_n b_c k) (Ya0 b_n b) [4] [0] Z := EvNC.of (by kernel_rfl) h
theorem rtz72_0 (b : List Int) (b_n b_c : Nat) (k : Int) : RetC Rq1Bit (Ya2 b k) (Ya3 b_n b) (.int .i64 (Int.tmod (IntKind.i64.wrap (Int.tdiv (IntKind.i64.wrap (List.getD b (0 + (Int.toNat (IntKind.i64.wrap (Int.tdiv k 8)))) 0)) (List.getD ([1, 2, 4, 8, 16, 32, 64, 128] : List Int) (0 + (Int.toNat (Int.tmod k 8))) 0))) 2)) := RetC.of (fun Z => by kernel_rfl)
def vz72_0 (b : List Int) (b_n b_c : Nat) (k : Int) : Prop := ((0 <= (IntKind.i64.wrap (Int.tdiv k 8)))) /\ ((((IntKind.i64.wrap (Int.tdiv k 8)) < ((b_n : Nat) : Int))) /\ ((((0 + (Int.toNat (IntKind.i64.wrap (Int.tdiv k 8)))) < b_n)) /\ (((0 <= (Int.tmod k 8))) /\ ((((Int.tmod k 8) < 8)) /\ ((((0 + (Int.toNat (Int.tmod k 8))) < 8)) /\ ((((List.getD ([1, 2, 4, 8, 16, 32, 64, 128] : List Int) (0 + (Int.toNat (Int.tmod k 8))) 0) ≠ 0)) /\ ((Int.tmod (IntKind.i64.wrap (Int.tdiv (IntKind.i64.wrap (List.getD b (0 + (Int.toNat (IntKind.i64.wrap (Int.tdiv k 8)))) 0)) (List.getD ([1, 2, 4, 8, 16, 32, 64, 128] : List Int) (0 + (Int.toNat (Int.tmod k 8))) 0))) 2) = (bitB b (Int.toNat k)))))))))
abbrev Ya5 (x0 : SVal -> Heap -> Prop) (x1 : List Int) (x2 : Int) (x3 : Nat) : Prop := x0 (.int .i64 (bitB x1 (Int.toNat x2))) ⟨1, [(0, some ⟨false, [.ints .u8 x3 x1], 0⟩)]⟩
theorem pz72_0 (b : List Int) (b_n b_c : Nat) (k : Int) (hK : (Ya5 Kf b k b_n)) (h : vz72_0 b b_n b_c k) : SemL Try.prog w0 fp ρi 1 18 [cz72_n1, .ret] (Ya4 b_n b_c k) (Ya0 b_n b) (fnK Rq1Bit 1 Kf) :=
  L_regME hGq1Bit (steps := cz72_n1m) (rz72_0 b b_n b_c k _ ⟨(by decide), ⟨h.1, ⟨h.2.1, ⟨h.2.2.1, ⟨(by decide), ⟨(keepsG_ids (by kernel_rfl)), ⟨h.2.2.2.1, ⟨h.2.2.2.2.1, ⟨h.2.2.2.2.2.1, ⟨h.2.2.2.2.2.2.1, ⟨(by decide), (L_retE (R := Rq1Bit) (m := 1) (Kf := Kf) (fun _ _ h => h) (rtz72_0 b b_n b_c k) (ret_of0 (Eq.mpr (cg1 (fun (z1 : Int) => Ret0 1 Kf (.int .i64 z1) (Ya3 b_n b)) h.2.2.2.2.2.2.2) (ret0_tau [] [0] rfl (by kernel_rfl) rfl pbd (hsc pcs heapSub_nil) rfl (by kernel_rfl) (hK)))))⟩⟩⟩⟩⟩⟩⟩⟩⟩⟩⟩)
theorem rz72_1 (b : List Int) (b_n b_c : Nat) (k : Int) (Z : Env -> Heap -> Prop) (h : Z (Ya4 b_n b_c k) (Ya0 b_n b)) : EvC Gq1Bit cz72_n0 (Ya4 b_n b_c k) (Ya0 b_n b) [0, 1] [0] Z := EvC.of (by kernel_rfl) h
def vz72_1 (b : List Int) (b_n b_c : Nat) (k : Int) : Prop := vz72_0 b b_n b_c k
theorem pz72_1 (b : List Int) (b_n b_c : Nat) (k : Int) (hK : (Ya5 Kf b k b_n)) (h : vz72_1 b b_n b_c k) : SemL Try.prog w0 fp ρi 1 18 [cz72_n0, (.seq cz72_n1 .ret)] (Ya4 b_n b_c k) (Ya0 b_n b) (fnK Rq1Bit 1 Kf) :=
  L_regE hGq1Bit (rz72_1 b b_n b_c k _ (L_seq (pz72_0 b b_n b_c k hK h)))
def vcq1Bit (b : List Int) (b_n b_c : Nat) (k : Int) : Prop := vz72_1 b b_n b_c k
theorem wq1Bit (b : List Int) (b_n b_c : Nat) (k : Int) (hK : (Ya5 Kf b k b_n)) (h : vcq1Bit b b_n b_c k) : SemL Try.prog w0 fp ρi 1 18 [cq1Bit] (Ya4 b_n b_c k) (Ya0 b_n b) (fnK Rq1Bit 1 Kf) :=
  (L_seq (pz72_1 b b_n b_c k hK h))
end
theorem okq1Bit (b : List Int) (b_n b_c : Nat) (k : Int) (hpre : (List.length b = b_n /\ b_n <= b_c /\ b_n <= 1000000 /\ Byt b /\ 0 <= k /\ k < 8 * (b_n : Int))) : vcq1Bit b b_n b_c k := by
  unfold vcq1Bit vz72_1 vz72_0
  obtain ⟨h1, h2, h3, h4, h5, h6⟩ := hpre
  have et : k.tdiv 8 = k / 8 := Int.tdiv_eq_ediv_of_nonneg h5
  have em : k.tmod 8 = k % 8 := Int.tmod_eq_emod_of_nonneg h5
  have w8 : IntKind.i64.wrap (k / 8) = k / 8 := by rw [wi64]; omega
  have hx := getDb h4 (k / 8).toNat
  have wx : IntKind.i64.wrap (b.getD (k / 8).toNat 0) = b.getD (k / 8).toNat 0 := by rw [wi64]; omega
  have hp : (0 : Int) < 2 ^ (k % 8).toNat := Int.pow_pos (by omega)
  rw [et, em, w8, Nat.zero_add, Nat.zero_add, p2tab (c := (k % 8).toNat) (by omega), wx, Int.tdiv_eq_ediv_of_nonneg hx.1]
  have h7 : 0 <= b.getD (k / 8).toNat 0 / 2 ^ (k % 8).toNat := Int.ediv_nonneg hx.1 (by omega)
  have h8 : b.getD (k / 8).toNat 0 / 2 ^ (k % 8).toNat <= b.getD (k / 8).toNat 0 := Int.ediv_le_self _ hx.1
  have wy : IntKind.i64.wrap (b.getD (k / 8).toNat 0 / 2 ^ (k % 8).toNat) = b.getD (k / 8).toNat 0 / 2 ^ (k % 8).toNat := by rw [wi64]; omega
  rw [wy, Int.tmod_eq_emod_of_nonneg h7]
  refine ⟨by omega, by omega, by omega, by omega, by omega, by omega, by omega, ?_⟩
  unfold bitB bit8
  rw [show k.toNat / 8 = (k / 8).toNat by omega, show k.toNat % 8 = (k % 8).toNat by omega]
theorem sq1Bit : Sound Try.prog 72 (gS Dq1Bit) := by
  refine fn_soundA cq1Bit_fits ?_
  intro args H K h
  obtain ⟨pre, out, hD, hpre, hK⟩ := gS_inv h
  unfold Dq1Bit at hD
  split at hD
  · cases hD
    obtain ⟨rfl, hpre⟩ := hpre
    exact ⟨rfl, fun w0 fp ρi => wq1Bit _ _ _ _ hK (okq1Bit _ _ _ _ hpre)⟩
  · cases hD
def DqPut : GSpec := fun args H => match args, H with
  | [.slice ⟨0, 0, 0, 1⟩ b_n b_c, .int .i64 at_, .int .i64 n, .int .u64 v], ⟨1, [(0, some ⟨false, [.ints .u8 b_m b], 0⟩)]⟩ => some (b_m = b_n /\ (List.length b = b_n /\ b_n <= b_c /\ b_n <= 1000000 /\ Byt b /\ I64 at_ /\ I64 n /\ 0 <= v /\ v < 2 ^ 64), fun K => ∀ cap0 : Nat, b_n <= cap0 -> K (.tuple [.slice ⟨1, 0, 0, 1⟩ b_n cap0, .int .i64 (putE b_n at_ n v)]) ⟨2, [(1, some ⟨true, [.ints .u8 b_n (putL b at_ n v)], (cap0 - b_n)⟩), (0, some ⟨false, [.ints .u8 b_n b], 0⟩)]⟩)
  | _, _ => none
def conqPut : Con := ⟨59, gS DqPut, [], [], []⟩
def cz59_n0 : ACode := .reg (.op (some 8) (.mov (.cn (.nilslice))) (.op (some 9) (.mov (.cn (.int .i64 0))) .nil))
def cz59_n1 : ACode := .reg (.op (some 16) (.bslice .u8 0 []) (.op (some 17) (.mov (.tm 0)) (.op (some 18) (.append .u8 (.tm 16) (.tm 17)) (.op (some 10) (.mov (.tm 18)) .nil))))
def cz59_n2 : ACode := .reg (.op (some 19) (.mov (.tm 0)) (.op (some 20) (.mov (.tm 1)) (.op (some 21) (.mov (.tm 2)) (.op (some 22) (.call 71 [(.tm 19), (.tm 20), (.tm 21)]) (.op (some 23) (.not (.tm 22)) .nil)))))
def cz59_n3 : ACode := .reg (.op (some 24) (.mov (.tm 10)) (.op (some 8) (.mov (.tm 24)) (.op (some 9) (.mov (.cn (.int .i64 2))) .nil)))
def cz59_n4 : ACode := .cond (.tm 23) (.seq cz59_n3 .ret) .skip
def cz59_n5 : ACode := .reg (.op (some 25) (.mov (.tm 3)) (.op (some 11) (.mov (.tm 25)) .nil))
def cz59_n6 : ACode := .reg (.op (some 12) (.mov (.cn (.int .i64 0))) .nil)
def cz59_n7 : ACode := .reg (.op (some 26) (.mov (.tm 12)) (.op (some 27) (.mov (.tm 2)) (.op (some 28) (.bin .lss (.tm 26) (.tm 27)) .nil)))
def cz59_n8 : ACode := .cond (.tm 28) .skip (.exit 0)
def cz59_n9 : ACode := .reg (.op (some 31) (.mov (.tm 11)) (.op (some 32) (.bin .quo (.tm 31) (.cn (.int .u64 2))) (.op (some 11) (.mov (.tm 32)) .nil)))
def cz59_n10 : ACode := .block 1 cz59_n9
def cz59_n11 : ACode := .reg (.op (some 29) (.mov (.tm 12)) (.op (some 30) (.bin .add (.tm 29) (.cn (.int .i64 1))) (.op (some 12) (.mov (.tm 30)) .nil)))
def cz59_n12 : ACode := .loop (.seq (.seq cz59_n7 cz59_n8) (.seq cz59_n10 cz59_n11))
def cz59_n13 : ACode := .block 0 cz59_n12
def cz59_n14 : ACode := .reg (.op (some 33) (.mov (.tm 11)) (.op (some 34) (.bin .neq (.tm 33) (.cn (.int .u64 0))) .nil))
def cz59_n15 : ACode := .reg (.op (some 35) (.mov (.tm 10)) (.op (some 8) (.mov (.tm 35)) (.op (some 9) (.mov (.cn (.int .i64 1))) .nil)))
def cz59_n16 : ACode := .cond (.tm 34) (.seq cz59_n15 .ret) .skip
def cz59_n17 : ACode := .reg (.op (some 13) (.mov (.cn (.int .i64 0))) .nil)
def cz59_n18 : ACode := .reg (.op (some 36) (.mov (.tm 13)) (.op (some 37) (.mov (.tm 2)) (.op (some 38) (.bin .lss (.tm 36) (.tm 37)) .nil)))
def cz59_n19 : ACode := .cond (.tm 38) .skip (.exit 2)
def cz59_n20 : ACode := .reg (.op (some 41) (.mov (.tm 3)) (.op (some 42) (.bin .rem (.tm 41) (.cn (.int .u64 2))) (.op (some 43) (.conv .i64 (.tm 42)) (.op (some 14) (.mov (.tm 43)) .nil))))
def cz59_n21 : ACode := .reg (.op (some 44) (.mov (.tm 3)) (.op (some 45) (.bin .quo (.tm 44) (.cn (.int .u64 2))) (.op (some 3) (.mov (.tm 45)) .nil)))
def cz59_n22 : ACode := .reg (.op (some 46) (.bslice .u8 8 [(0, (.cn (.int .u8 1))), (1, (.cn (.int .u8 2))), (2, (.cn (.int .u8 4))), (3, (.cn (.int .u8 8))), (4, (.cn (.int .u8 16))), (5, (.cn (.int .u8 32))), (6, (.cn (.int .u8 64))), (7, (.cn (.int .u8 128)))]) (.op (some 47) (.mov (.tm 1)) (.op (some 48) (.mov (.tm 13)) (.op (some 49) (.bin .add (.tm 47) (.tm 48)) (.op (some 50) (.bin .rem (.tm 49) (.cn (.int .i64 8))) (.op (some 51) (.idxS (.tm 46) (.tm 50) 1) (.op (some 52) (.load1 (.tm 51)) (.op (some 15) (.mov (.tm 52)) .nil))))))))
def cz59_n23 : ACode := .reg (.op (some 53) (.mov (.tm 10)) (.op (some 54) (.mov (.tm 1)) (.op (some 55) (.mov (.tm 13)) (.op (some 56) (.bin .add (.tm 54) (.tm 55)) (.op (some 57) (.call 72 [(.tm 53), (.tm 56)]) (.op (some 58) (.bin .eql (.tm 57) (.cn (.int .i64 1))) (.op (some 59) (.mov (.tm 58)) (.grpJ 59 true (.op (some 60) (.mov (.tm 14)) (.op (some 61) (.bin .eql (.tm 60) (.cn (.int .i64 0))) .nil)) 62 (.tm 61) (.cn (.bool false)) .nil))))))))
def cz59_n24 : ACode := .reg (.op (some 63) (.mov (.tm 10)) (.op (some 64) (.mov (.tm 1)) (.op (some 65) (.mov (.tm 13)) (.op (some 66) (.bin .add (.tm 64) (.tm 65)) (.op (some 67) (.bin .quo (.tm 66) (.cn (.int .i64 8))) (.op (some 68) (.idxS (.tm 63) (.tm 67) 1) (.op (some 69) (.load1 (.tm 68)) (.op (some 70) (.mov (.tm 15)) (.op (some 71) (.bin .sub (.tm 69) (.tm 70)) (.op (some 72) (.idxS (.tm 63) (.tm 67) 1) (.op none (.store1 (.tm 72) (.tm 71)) .nil)))))))))))
def cz59_n25 : ACode := .cond (.tm 62) cz59_n24 .skip
def cz59_n26 : ACode := .reg (.op (some 73) (.mov (.tm 10)) (.op (some 74) (.mov (.tm 1)) (.op (some 75) (.mov (.tm 13)) (.op (some 76) (.bin .add (.tm 74) (.tm 75)) (.op (some 77) (.call 72 [(.tm 73), (.tm 76)]) (.op (some 78) (.bin .eql (.tm 77) (.cn (.int .i64 0))) (.op (some 79) (.mov (.tm 78)) (.grpJ 79 true (.op (some 80) (.mov (.tm 14)) (.op (some 81) (.bin .eql (.tm 80) (.cn (.int .i64 1))) .nil)) 82 (.tm 81) (.cn (.bool false)) .nil))))))))
def cz59_n27 : ACode := .reg (.op (some 83) (.mov (.tm 10)) (.op (some 84) (.mov (.tm 1)) (.op (some 85) (.mov (.tm 13)) (.op (some 86) (.bin .add (.tm 84) (.tm 85)) (.op (some 87) (.bin .quo (.tm 86) (.cn (.int .i64 8))) (.op (some 88) (.idxS (.tm 83) (.tm 87) 1) (.op (some 89) (.load1 (.tm 88)) (.op (some 90) (.mov (.tm 15)) (.op (some 91) (.bin .add (.tm 89) (.tm 90)) (.op (some 92) (.idxS (.tm 83) (.tm 87) 1) (.op none (.store1 (.tm 92) (.tm 91)) .nil)))))))))))
def cz59_n28 : ACode := .cond (.tm 82) cz59_n27 .skip
def cz59_n29 : ACode := .block 3 (.seq cz59_n20 (.seq cz59_n21 (.seq cz59_n22 (.seq (.seq cz59_n23 cz59_n25) (.seq cz59_n26 cz59_n28)))))
def cz59_n30 : ACode := .reg (.op (some 39) (.mov (.tm 13)) (.op (some 40) (.bin .add (.tm 39) (.cn (.int .i64 1))) (.op (some 13) (.mov (.tm 40)) .nil)))
def cz59_n31 : ACode := .loop (.seq (.seq cz59_n18 cz59_n19) (.seq cz59_n29 cz59_n30))
def cz59_n32 : ACode := .block 2 cz59_n31
def cz59_n33 : ACode := .reg (.op (some 93) (.mov (.tm 10)) (.op (some 8) (.mov (.tm 93)) (.op (some 9) (.mov (.cn (.int .i64 0))) .nil)))
def cqPut : ACode := (.seq cz59_n0 (.seq cz59_n1 (.seq (.seq cz59_n2 cz59_n4) (.seq cz59_n5 (.seq (.seq cz59_n6 cz59_n13) (.seq (.seq cz59_n14 cz59_n16) (.seq (.seq cz59_n17 cz59_n32) (.seq cz59_n33 .ret))))))))
def RqPut : Res := .many [.tm 8, .tm 9]
theorem cqPut_fits : fnFits Try.prog 59 4 94 cqPut RqPut = true := by kernel_rfl
def GqPut : Calls' := withP [] [conq1Fits, conq1Bit]
theorem hGqPut : CallOk Try.prog GqPut := withP_ok trivial ⟨sq1Fits, sq1Bit, trivial⟩
section
variable {w0 : World} {fp : Nat -> Nat -> Prop} {ρi : Rho} {Kf : SVal -> Heap -> Prop}
abbrev Ya6 (x0 : Nat) (x1 : List Int) (x2 : Nat) (x3 : List Int) (x4 : Nat) : Heap := ⟨3, [(0, some ⟨false, [.ints .u8 x0 x1], 0⟩), (2, some ⟨true, [.ints .u8 x2 x3], x4⟩)]⟩
abbrev Ya7 (x0 x1 : Nat) : Env := [(10, some (.slice ⟨2, 0, 0, 1⟩ x0 x1))]
theorem rz59_0 (b : List Int) (b_n b_c : Nat) (at_ n v : Int) (v10l c : Nat) (h2 : List Int) (x2 : Nat) (Z : Env -> Heap -> Prop) (h : Z [(8, some (.slice ⟨2, 0, 0, 1⟩ v10l c)), (9, some (.int .i64 2))] (Ya6 b_n b v10l h2 x2)) : EvC GqPut cz59_n3 (Ya7 v10l c) (Ya6 b_n b v10l h2 x2) [8, 9] [0, 2] Z := EvC.of (by kernel_rfl) h
theorem rtz59_0 (b : List Int) (b_n b_c : Nat) (at_ n v : Int) (v10l c : Nat) (h2 : List Int) (x2 : Nat) : RetC RqPut [(8, some (.slice ⟨2, 0, 0, 1⟩ v10l c)), (9, some (.int .i64 2))] (Ya6 b_n b v10l h2 x2) (.tuple [.slice ⟨2, 0, 0, 1⟩ v10l c, .int .i64 2]) := RetC.of (fun Z => by kernel_rfl)
def vz59_0 (b : List Int) (b_n b_c : Nat) (at_ n v : Int) (v10l c : Nat) (h2 : List Int) (x2 : Nat) : Prop := (v10l = b_n) /\ (2 = (putE b_n at_ n v)) /\ (v10l = b_n) /\ (h2 = (putL b at_ n v)) /\ (x2 = (c - b_n)) /\ ((b_n : Nat) <= c)
abbrev Ya8 (x0 : Nat) (x1 : List Int) (x2 x3 x4 : Int) (x5 : Nat) : Heap := ⟨2, [(1, some ⟨true, [.ints .u8 x0 (putL x1 x2 x3 x4)], (x5 - x0)⟩), (0, some ⟨false, [.ints .u8 x0 x1], 0⟩)]⟩
theorem pz59_0 (b : List Int) (b_n b_c : Nat) (at_ n v : Int) (hK : ∀ cap0 : Nat, b_n <= cap0 -> Kf (.tuple [.slice ⟨1, 0, 0, 1⟩ b_n cap0, .int .i64 (putE b_n at_ n v)]) (Ya8 b_n b at_ n v cap0)) (v10l c : Nat) (h2 : List Int) (x2 : Nat) (h : vz59_0 b b_n b_c at_ n v v10l c h2 x2) : SemL Try.prog w0 fp ρi 1 94 [cz59_n3, .ret, (.seq cz59_n5 (.seq (.seq cz59_n6 cz59_n13) (.seq (.seq cz59_n14 cz59_n16) (.seq (.seq cz59_n17 cz59_n32) (.seq cz59_n33 .ret)))))] (Ya7 v10l c) (Ya6 b_n b v10l h2 x2) (fnK RqPut 1 Kf) :=
  L_regE hGqPut (rz59_0 b b_n b_c at_ n v v10l c h2 x2 _ (L_retE (R := RqPut) (m := 1) (Kf := Kf) (fun _ _ h => h) (rtz59_0 b b_n b_c at_ n v v10l c h2 x2) (ret_of0 (Eq.mpr (cg5 (fun (z1 : Nat) (z2 : Int) (z3 : Nat) (z4 : List Int) (z5 : Nat) => Ret0 1 Kf (.tuple [.slice ⟨2, 0, 0, 1⟩ z1 c, .int .i64 z2]) (Ya6 b_n b z3 z4 z5)) h.1 h.2.1 h.2.2.1 h.2.2.2.1 h.2.2.2.2.1) (ret0_tau [(1, 2)] [1, 0] rfl (by kernel_rfl) rfl (bd_tuple (bdL_cons bsl (bdL_cons pbd bdL_nil))) (hsc pcs (hsc pcs heapSub_nil)) rfl (by kernel_rfl) (hK c h.2.2.2.2.2))))))
def kkz59_0 (w0 : World) (fp : Nat -> Nat -> Prop) (ρi : Rho) (Kf : SVal -> Heap -> Prop) (b : List Int) (b_n b_c : Nat) (at_ n v : Int) : Cont := blockK 0 (fun e H => SemL Try.prog w0 fp ρi 1 94 [(.seq (.seq cz59_n14 cz59_n16) (.seq (.seq cz59_n17 cz59_n32) (.seq cz59_n33 .ret)))] e H (fnK RqPut 1 Kf)) (fnK RqPut 1 Kf)
def ivz59_1 (b : List Int) (b_n b_c : Nat) (at_ n v : Int) (v10l c : Nat) (h2 : List Int) (x2 : Nat) : Int × Int -> Prop := fun s => match s with | (v11, v12) => 0 <= v12 /\ v12 <= n /\ v11 = v / 2 ^ v12.toNat
def muz59_1 (b : List Int) (b_n b_c : Nat) (at_ n v : Int) (v10l c : Nat) (h2 : List Int) (x2 : Nat) : Int × Int -> Nat := fun s => match s with | (v11, v12) => ((n - v12).toNat)
def liz59_1 (b : List Int) (b_n b_c : Nat) (at_ n v : Int) (v10l c : Nat) (h2 : List Int) (x2 : Nat) : Int × Int -> Env := fun s => match s with | (v11, v12) => [(1, some (.int .i64 at_)), (2, some (.int .i64 n)), (3, some (.int .u64 v)), (10, some (.slice ⟨2, 0, 0, 1⟩ v10l c)), (11, some (.int .u64 v11)), (12, some (.int .i64 v12))]
def ljz59_1 (b : List Int) (b_n b_c : Nat) (at_ n v : Int) (v10l c : Nat) (h2 : List Int) (x2 : Nat) : Int × Int -> Heap := fun s => match s with | (v11, v12) => ⟨3, [(0, some ⟨false, [.ints .u8 b_n b], 0⟩), (2, some ⟨true, [.ints .u8 v10l h2], x2⟩)]⟩
def kkz59_1 (w0 : World) (fp : Nat -> Nat -> Prop) (ρi : Rho) (Kf : SVal -> Heap -> Prop) (b : List Int) (b_n b_c : Nat) (at_ n v : Int) (v10l c : Nat) (h2 : List Int) (x2 : Nat) (v11 v12 : Int) : Cont := loopK 1 (ivz59_1 b b_n b_c at_ n v v10l c h2 x2) (muz59_1 b b_n b_c at_ n v v10l c h2 x2) (liz59_1 b b_n b_c at_ n v v10l c h2 x2) (ljz59_1 b b_n b_c at_ n v v10l c h2 x2) (v11, v12) (kkz59_0 w0 fp ρi Kf b b_n b_c at_ n v)
abbrev Ya9 (x0 x1 x2 : Int) (x3 x4 : Nat) (x5 x6 : Int) : Env := [(1, some (.int .i64 x0)), (2, some (.int .i64 x1)), (3, some (.int .u64 x2)), (10, some (.slice ⟨2, 0, 0, 1⟩ x3 x4)), (11, some (.int .u64 x5)), (12, some (.int .i64 x6))]
theorem rz59_1 (b : List Int) (b_n b_c : Nat) (at_ n v : Int) (v10l c : Nat) (v11'1 v12 : Int) (h2 : List Int) (x2 : Nat) (v11 : Int) (Z : Env -> Heap -> Prop) (h : Z [(1, some (.int .i64 at_)), (2, some (.int .i64 n)), (3, some (.int .u64 v)), (10, some (.slice ⟨2, 0, 0, 1⟩ v10l c)), (11, some (.int .u64 v11'1)), (12, some (.int .i64 (IntKind.i64.wrap (v12 + 1))))] (Ya6 b_n b v10l h2 x2)) : EvC GqPut cz59_n11 (Ya9 at_ n v v10l c v11'1 v12) (Ya6 b_n b v10l h2 x2) [1, 2, 3, 10, 11, 12] [0, 2] Z := EvC.of (by kernel_rfl) h
def vz59_1 (b : List Int) (b_n b_c : Nat) (at_ n v : Int) (v10l c : Nat) (v11'1 v12 : Int) (h2 : List Int) (x2 : Nat) (v11 : Int) : Prop := (0 <= (IntKind.i64.wrap (v12 + 1)) /\ (IntKind.i64.wrap (v12 + 1)) <= n /\ v11'1 = v / 2 ^ (IntKind.i64.wrap (v12 + 1)).toNat) /\ (((n - (IntKind.i64.wrap (v12 + 1))).toNat) < ((n - v12).toNat))
theorem pz59_1 (b : List Int) (b_n b_c : Nat) (at_ n v : Int) (hK : ∀ cap0 : Nat, b_n <= cap0 -> Kf (.tuple [.slice ⟨1, 0, 0, 1⟩ b_n cap0, .int .i64 (putE b_n at_ n v)]) (Ya8 b_n b at_ n v cap0)) (v10l c : Nat) (v11'1 v12 : Int) (h2 : List Int) (x2 : Nat) (v11 : Int) (h : vz59_1 b b_n b_c at_ n v v10l c v11'1 v12 h2 x2 v11) : SemL Try.prog w0 fp ρi 1 94 [cz59_n11] (Ya9 at_ n v v10l c v11'1 v12) (Ya6 b_n b v10l h2 x2) (kkz59_1 w0 fp ρi Kf b b_n b_c at_ n v v10l c h2 x2 v11 v12) :=
  L_regE hGqPut (rz59_1 b b_n b_c at_ n v v10l c v11'1 v12 h2 x2 v11 _ (L_nil (loop_back (x' := (v11'1, (IntKind.i64.wrap (v12 + 1)))) (τ := tau []) h.1 h.2 (sub_tau' [] [0, 2] rfl rfl (esc pbd (esc pbd (esc pbd (esc bsl (esc pbd (esc pbd envSub_nil)))))) (hsc pcs (hsc pcs heapSub_nil)) (by kernel_rfl) rfl))))
def kkz59_2 (w0 : World) (fp : Nat -> Nat -> Prop) (ρi : Rho) (Kf : SVal -> Heap -> Prop) (b : List Int) (b_n b_c : Nat) (at_ n v : Int) (v10l c : Nat) (h2 : List Int) (x2 : Nat) (v11 v12 : Int) : Cont := blockK 1 (fun e H => SemL Try.prog w0 fp ρi 1 94 [cz59_n11] e H (kkz59_1 w0 fp ρi Kf b b_n b_c at_ n v v10l c h2 x2 v11 v12)) (kkz59_1 w0 fp ρi Kf b b_n b_c at_ n v v10l c h2 x2 v11 v12)
theorem rz59_2 (b : List Int) (b_n b_c : Nat) (at_ n v : Int) (v10l c : Nat) (v11 v12 : Int) (h2 : List Int) (x2 : Nat) (Z : Env -> Heap -> Prop) (h : (((2 : Int) ≠ 0)) /\ Z [(1, some (.int .i64 at_)), (2, some (.int .i64 n)), (3, some (.int .u64 v)), (10, some (.slice ⟨2, 0, 0, 1⟩ v10l c)), (11, some (.int .u64 (IntKind.u64.wrap (Int.tdiv v11 2)))), (12, some (.int .i64 v12))] (Ya6 b_n b v10l h2 x2)) : EvC GqPut cz59_n9 (Ya9 at_ n v v10l c v11 v12) (Ya6 b_n b v10l h2 x2) [1, 2, 3, 10, 11, 12] [0, 2] Z := EvC.of (by kernel_rfl) h
def vz59_2 (b : List Int) (b_n b_c : Nat) (at_ n v : Int) (v10l c : Nat) (v11 v12 : Int) (h2 : List Int) (x2 : Nat) : Prop := ∀ v11'1 : Int, v11'1 = (Int.tdiv v11 2) % 18446744073709551616 -> vz59_1 b b_n b_c at_ n v v10l c v11'1 v12 h2 x2 v11
theorem pz59_2 (b : List Int) (b_n b_c : Nat) (at_ n v : Int) (hK : ∀ cap0 : Nat, b_n <= cap0 -> Kf (.tuple [.slice ⟨1, 0, 0, 1⟩ b_n cap0, .int .i64 (putE b_n at_ n v)]) (Ya8 b_n b at_ n v cap0)) (v10l c : Nat) (v11 v12 : Int) (h2 : List Int) (x2 : Nat) (h : vz59_2 b b_n b_c at_ n v v10l c v11 v12 h2 x2) : SemL Try.prog w0 fp ρi 1 94 [cz59_n9] (Ya9 at_ n v v10l c v11 v12) (Ya6 b_n b v10l h2 x2) (kkz59_2 w0 fp ρi Kf b b_n b_c at_ n v v10l c h2 x2 v11 v12) :=
  L_regE hGqPut (rz59_2 b b_n b_c at_ n v v10l c v11 v12 h2 x2 _ ⟨(by decide), (L_nil (pz59_1 b b_n b_c at_ n v hK v10l c (IntKind.u64.wrap (Int.tdiv v11 2)) v12 h2 x2 v11 (h (IntKind.u64.wrap (Int.tdiv v11 2)) (wrap_u64 _))))⟩)
def vz59_3 (b : List Int) (b_n b_c : Nat) (at_ n v : Int) (v10l c : Nat) (v11 v12 : Int) (h2 : List Int) (x2 : Nat) : Prop := vz59_2 b b_n b_c at_ n v v10l c v11 v12 h2 x2
theorem pz59_3 (b : List Int) (b_n b_c : Nat) (at_ n v : Int) (hK : ∀ cap0 : Nat, b_n <= cap0 -> Kf (.tuple [.slice ⟨1, 0, 0, 1⟩ b_n cap0, .int .i64 (putE b_n at_ n v)]) (Ya8 b_n b at_ n v cap0)) (v10l c : Nat) (v11 v12 : Int) (h2 : List Int) (x2 : Nat) (h : vz59_3 b b_n b_c at_ n v v10l c v11 v12 h2 x2) : SemL Try.prog w0 fp ρi 1 94 [cz59_n10, cz59_n11] (Ya9 at_ n v v10l c v11 v12) (Ya6 b_n b v10l h2 x2) (kkz59_1 w0 fp ρi Kf b b_n b_c at_ n v v10l c h2 x2 v11 v12) :=
  L_block (pz59_2 b b_n b_c at_ n v hK v10l c v11 v12 h2 x2 h)
theorem rz59_4 (b : List Int) (b_n b_c : Nat) (at_ n v : Int) (v10l c : Nat) (h2 : List Int) (x2 : Nat) (Z : Env -> Heap -> Prop) (h : Z [(8, some (.slice ⟨2, 0, 0, 1⟩ v10l c)), (9, some (.int .i64 1))] (Ya6 b_n b v10l h2 x2)) : EvC GqPut cz59_n15 (Ya7 v10l c) (Ya6 b_n b v10l h2 x2) [8, 9] [0, 2] Z := EvC.of (by kernel_rfl) h
theorem rtz59_1 (b : List Int) (b_n b_c : Nat) (at_ n v : Int) (v10l c : Nat) (h2 : List Int) (x2 : Nat) : RetC RqPut [(8, some (.slice ⟨2, 0, 0, 1⟩ v10l c)), (9, some (.int .i64 1))] (Ya6 b_n b v10l h2 x2) (.tuple [.slice ⟨2, 0, 0, 1⟩ v10l c, .int .i64 1]) := RetC.of (fun Z => by kernel_rfl)
def vz59_4 (b : List Int) (b_n b_c : Nat) (at_ n v : Int) (v10l c : Nat) (h2 : List Int) (x2 : Nat) : Prop := (v10l = b_n) /\ (1 = (putE b_n at_ n v)) /\ (v10l = b_n) /\ (h2 = (putL b at_ n v)) /\ (x2 = (c - b_n)) /\ ((b_n : Nat) <= c)
theorem pz59_4 (b : List Int) (b_n b_c : Nat) (at_ n v : Int) (hK : ∀ cap0 : Nat, b_n <= cap0 -> Kf (.tuple [.slice ⟨1, 0, 0, 1⟩ b_n cap0, .int .i64 (putE b_n at_ n v)]) (Ya8 b_n b at_ n v cap0)) (v10l c : Nat) (h2 : List Int) (x2 : Nat) (h : vz59_4 b b_n b_c at_ n v v10l c h2 x2) : SemL Try.prog w0 fp ρi 1 94 [cz59_n15, .ret, (.seq (.seq cz59_n17 cz59_n32) (.seq cz59_n33 .ret))] (Ya7 v10l c) (Ya6 b_n b v10l h2 x2) (fnK RqPut 1 Kf) :=
  L_regE hGqPut (rz59_4 b b_n b_c at_ n v v10l c h2 x2 _ (L_retE (R := RqPut) (m := 1) (Kf := Kf) (fun _ _ h => h) (rtz59_1 b b_n b_c at_ n v v10l c h2 x2) (ret_of0 (Eq.mpr (cg5 (fun (z1 : Nat) (z2 : Int) (z3 : Nat) (z4 : List Int) (z5 : Nat) => Ret0 1 Kf (.tuple [.slice ⟨2, 0, 0, 1⟩ z1 c, .int .i64 z2]) (Ya6 b_n b z3 z4 z5)) h.1 h.2.1 h.2.2.1 h.2.2.2.1 h.2.2.2.2.1) (ret0_tau [(1, 2)] [1, 0] rfl (by kernel_rfl) rfl (bd_tuple (bdL_cons bsl (bdL_cons pbd bdL_nil))) (hsc pcs (hsc pcs heapSub_nil)) rfl (by kernel_rfl) (hK c h.2.2.2.2.2))))))
def kkz59_3 (w0 : World) (fp : Nat -> Nat -> Prop) (ρi : Rho) (Kf : SVal -> Heap -> Prop) (b : List Int) (b_n b_c : Nat) (at_ n v : Int) : Cont := blockK 2 (fun e H => SemL Try.prog w0 fp ρi 1 94 [(.seq cz59_n33 .ret)] e H (fnK RqPut 1 Kf)) (fnK RqPut 1 Kf)
def ivz59_4 (b : List Int) (b_n b_c : Nat) (at_ n v : Int) (v10l c x2 : Nat) : Int × Int × List Int -> Prop := fun s => match s with | (v3, v13, h2'1) => 0 <= v13 /\ v13 <= n /\ v3 = v / 2 ^ v13.toNat /\ PutI b at_.toNat v v13.toNat h2'1
def muz59_4 (b : List Int) (b_n b_c : Nat) (at_ n v : Int) (v10l c x2 : Nat) : Int × Int × List Int -> Nat := fun s => match s with | (v3, v13, h2'1) => ((n - v13).toNat)
def liz59_4 (b : List Int) (b_n b_c : Nat) (at_ n v : Int) (v10l c x2 : Nat) : Int × Int × List Int -> Env := fun s => match s with | (v3, v13, h2'1) => [(1, some (.int .i64 at_)), (2, some (.int .i64 n)), (3, some (.int .u64 v3)), (10, some (.slice ⟨2, 0, 0, 1⟩ v10l c)), (13, some (.int .i64 v13))]
def ljz59_4 (b : List Int) (b_n b_c : Nat) (at_ n v : Int) (v10l c x2 : Nat) : Int × Int × List Int -> Heap := fun s => match s with | (v3, v13, h2'1) => ⟨3, [(0, some ⟨false, [.ints .u8 b_n b], 0⟩), (2, some ⟨true, [.ints .u8 v10l h2'1], x2⟩)]⟩
def kkz59_4 (w0 : World) (fp : Nat -> Nat -> Prop) (ρi : Rho) (Kf : SVal -> Heap -> Prop) (b : List Int) (b_n b_c : Nat) (at_ n v : Int) (v10l c x2 : Nat) (v3 v13 : Int) (h2'1 : List Int) : Cont := loopK 1 (ivz59_4 b b_n b_c at_ n v v10l c x2) (muz59_4 b b_n b_c at_ n v v10l c x2) (liz59_4 b b_n b_c at_ n v v10l c x2) (ljz59_4 b b_n b_c at_ n v v10l c x2) (v3, v13, h2'1) (kkz59_3 w0 fp ρi Kf b b_n b_c at_ n v)
abbrev Ya10 (x0 : Nat) (x1 : List Int) (x2 : Nat) (x3 : List Int) (x4 : Nat) : Heap := ⟨4, [(0, some ⟨false, [.ints .u8 x0 x1], 0⟩), (2, some ⟨true, [.ints .u8 x2 x3], x4⟩)]⟩
abbrev Ya11 (x0 x1 x2 : Int) (x3 x4 : Nat) (x5 : Int) : Env := [(1, some (.int .i64 x0)), (2, some (.int .i64 x1)), (3, some (.int .u64 x2)), (10, some (.slice ⟨2, 0, 0, 1⟩ x3 x4)), (13, some (.int .i64 x5))]
theorem rz59_5 (b : List Int) (b_n b_c : Nat) (at_ n v v3'1 : Int) (v10l c : Nat) (v13 : Int) (h2'3 : List Int) (x2 : Nat) (v3 : Int) (h2'1 : List Int) (Z : Env -> Heap -> Prop) (h : Z [(1, some (.int .i64 at_)), (2, some (.int .i64 n)), (3, some (.int .u64 v3'1)), (10, some (.slice ⟨2, 0, 0, 1⟩ v10l c)), (13, some (.int .i64 (IntKind.i64.wrap (v13 + 1))))] (Ya10 b_n b v10l h2'3 x2)) : EvC GqPut cz59_n30 (Ya11 at_ n v3'1 v10l c v13) (Ya10 b_n b v10l h2'3 x2) [1, 2, 3, 10, 13] [0, 2] Z := EvC.of (by kernel_rfl) h
def vz59_5 (b : List Int) (b_n b_c : Nat) (at_ n v v3'1 : Int) (v10l c : Nat) (v13 : Int) (h2'3 : List Int) (x2 : Nat) (v3 : Int) (h2'1 : List Int) : Prop := (0 <= (IntKind.i64.wrap (v13 + 1)) /\ (IntKind.i64.wrap (v13 + 1)) <= n /\ v3'1 = v / 2 ^ (IntKind.i64.wrap (v13 + 1)).toNat /\ PutI b at_.toNat v (IntKind.i64.wrap (v13 + 1)).toNat h2'3) /\ (((n - (IntKind.i64.wrap (v13 + 1))).toNat) < ((n - v13).toNat))
theorem pz59_5 (b : List Int) (b_n b_c : Nat) (at_ n v : Int) (hK : ∀ cap0 : Nat, b_n <= cap0 -> Kf (.tuple [.slice ⟨1, 0, 0, 1⟩ b_n cap0, .int .i64 (putE b_n at_ n v)]) (Ya8 b_n b at_ n v cap0)) (v3'1 : Int) (v10l c : Nat) (v13 : Int) (h2'3 : List Int) (x2 : Nat) (v3 : Int) (h2'1 : List Int) (h : vz59_5 b b_n b_c at_ n v v3'1 v10l c v13 h2'3 x2 v3 h2'1) : SemL Try.prog w0 fp ρi 1 94 [cz59_n30] (Ya11 at_ n v3'1 v10l c v13) (Ya10 b_n b v10l h2'3 x2) (kkz59_4 w0 fp ρi Kf b b_n b_c at_ n v v10l c x2 v3 v13 h2'1) :=
  L_regE hGqPut (rz59_5 b b_n b_c at_ n v v3'1 v10l c v13 h2'3 x2 v3 h2'1 _ (L_nil (loop_back (x' := (v3'1, (IntKind.i64.wrap (v13 + 1)), h2'3)) (τ := tau []) h.1 h.2 (sub_tau' [] [0, 2] rfl rfl (esc pbd (esc pbd (esc pbd (esc bsl (esc pbd envSub_nil))))) (hsc pcs (hsc pcs heapSub_nil)) (by kernel_rfl) rfl))))
def kkz59_5 (w0 : World) (fp : Nat -> Nat -> Prop) (ρi : Rho) (Kf : SVal -> Heap -> Prop) (b : List Int) (b_n b_c : Nat) (at_ n v : Int) (v10l c x2 : Nat) (v3 v13 : Int) (h2'1 : List Int) : Cont := blockK 3 (fun e H => SemL Try.prog w0 fp ρi 1 94 [cz59_n30] e H (kkz59_4 w0 fp ρi Kf b b_n b_c at_ n v v10l c x2 v3 v13 h2'1)) (kkz59_4 w0 fp ρi Kf b b_n b_c at_ n v v10l c x2 v3 v13 h2'1)
abbrev Ya12 (x0 x1 x2 : Int) (x3 x4 : Nat) (x5 x6 : Int) : Env := [(1, some (.int .i64 x0)), (2, some (.int .i64 x1)), (3, some (.int .u64 x2)), (10, some (.slice ⟨2, 0, 0, 1⟩ x3 x4)), (13, some (.int .i64 x5)), (15, some (.int .u8 x6))]
theorem rz59_6 (b : List Int) (b_n b_c : Nat) (at_ n v v3'1 : Int) (v10l c : Nat) (v13 v15 : Int) (h2'2 : List Int) (x2 : Nat) (v3 : Int) (h2'1 : List Int) (Z : Env -> Heap -> Prop) (h : (((8 : Int) ≠ 0)) /\ ((0 <= (IntKind.i64.wrap (Int.tdiv (IntKind.i64.wrap (at_ + v13)) 8)))) /\ (((IntKind.i64.wrap (Int.tdiv (IntKind.i64.wrap (at_ + v13)) 8)) < ((v10l : Nat) : Int))) /\ (((0 + (Int.toNat (IntKind.i64.wrap (Int.tdiv (IntKind.i64.wrap (at_ + v13)) 8)))) < v10l)) /\ ((0 <= (IntKind.i64.wrap (Int.tdiv (IntKind.i64.wrap (at_ + v13)) 8)))) /\ (((IntKind.i64.wrap (Int.tdiv (IntKind.i64.wrap (at_ + v13)) 8)) < ((v10l : Nat) : Int))) /\ (((0 + (Int.toNat (IntKind.i64.wrap (Int.tdiv (IntKind.i64.wrap (at_ + v13)) 8)))) < v10l)) /\ (((0 + (Int.toNat (IntKind.i64.wrap (Int.tdiv (IntKind.i64.wrap (at_ + v13)) 8)))) < List.length h2'2)) /\ Z (Ya11 at_ n v3'1 v10l c v13) ⟨4, [(0, some ⟨false, [.ints .u8 b_n b], 0⟩), (2, some ⟨true, [.ints .u8 v10l (List.set h2'2 (0 + (Int.toNat (IntKind.i64.wrap (Int.tdiv (IntKind.i64.wrap (at_ + v13)) 8)))) (IntKind.u8.wrap ((List.getD h2'2 (0 + (Int.toNat (IntKind.i64.wrap (Int.tdiv (IntKind.i64.wrap (at_ + v13)) 8)))) 0) + v15)))], x2⟩)]⟩) : EvC GqPut cz59_n27 (Ya12 at_ n v3'1 v10l c v13 v15) (Ya10 b_n b v10l h2'2 x2) [1, 2, 3, 10, 13] [0, 2] Z := EvC.of (by kernel_rfl) h
def vz59_6 (b : List Int) (b_n b_c : Nat) (at_ n v v3'1 : Int) (v10l c : Nat) (v13 v15 : Int) (h2'2 : List Int) (x2 : Nat) (v3 : Int) (h2'1 : List Int) : Prop := ((0 <= (IntKind.i64.wrap (Int.tdiv (IntKind.i64.wrap (at_ + v13)) 8)))) /\ ((((IntKind.i64.wrap (Int.tdiv (IntKind.i64.wrap (at_ + v13)) 8)) < ((v10l : Nat) : Int))) /\ ((((0 + (Int.toNat (IntKind.i64.wrap (Int.tdiv (IntKind.i64.wrap (at_ + v13)) 8)))) < v10l)) /\ (((0 <= (IntKind.i64.wrap (Int.tdiv (IntKind.i64.wrap (at_ + v13)) 8)))) /\ ((((IntKind.i64.wrap (Int.tdiv (IntKind.i64.wrap (at_ + v13)) 8)) < ((v10l : Nat) : Int))) /\ ((((0 + (Int.toNat (IntKind.i64.wrap (Int.tdiv (IntKind.i64.wrap (at_ + v13)) 8)))) < v10l)) /\ ((((0 + (Int.toNat (IntKind.i64.wrap (Int.tdiv (IntKind.i64.wrap (at_ + v13)) 8)))) < List.length h2'2)) /\ (∀ h2'3 : List Int, h2'3 = (List.set h2'2 (0 + (Int.toNat (IntKind.i64.wrap (Int.tdiv (IntKind.i64.wrap (at_ + v13)) 8)))) (IntKind.u8.wrap ((List.getD h2'2 (0 + (Int.toNat (IntKind.i64.wrap (Int.tdiv (IntKind.i64.wrap (at_ + v13)) 8)))) 0) + v15))) -> vz59_5 b b_n b_c at_ n v v3'1 v10l c v13 h2'3 x2 v3 h2'1)))))))
theorem pz59_6 (b : List Int) (b_n b_c : Nat) (at_ n v : Int) (hK : ∀ cap0 : Nat, b_n <= cap0 -> Kf (.tuple [.slice ⟨1, 0, 0, 1⟩ b_n cap0, .int .i64 (putE b_n at_ n v)]) (Ya8 b_n b at_ n v cap0)) (v3'1 : Int) (v10l c : Nat) (v13 v15 : Int) (h2'2 : List Int) (x2 : Nat) (v3 : Int) (h2'1 : List Int) (h : vz59_6 b b_n b_c at_ n v v3'1 v10l c v13 v15 h2'2 x2 v3 h2'1) : SemL Try.prog w0 fp ρi 1 94 [cz59_n27] (Ya12 at_ n v3'1 v10l c v13 v15) (Ya10 b_n b v10l h2'2 x2) (kkz59_5 w0 fp ρi Kf b b_n b_c at_ n v v10l c x2 v3 v13 h2'1) :=
  L_regE hGqPut (rz59_6 b b_n b_c at_ n v v3'1 v10l c v13 v15 h2'2 x2 v3 h2'1 _ ⟨(by decide), ⟨h.1, ⟨h.2.1, ⟨h.2.2.1, ⟨h.2.2.2.1, ⟨h.2.2.2.2.1, ⟨h.2.2.2.2.2.1, ⟨h.2.2.2.2.2.2.1, (L_nil (pz59_5 b b_n b_c at_ n v hK v3'1 v10l c v13 (List.set h2'2 (0 + (Int.toNat (IntKind.i64.wrap (Int.tdiv (IntKind.i64.wrap (at_ + v13)) 8)))) (IntKind.u8.wrap ((List.getD h2'2 (0 + (Int.toNat (IntKind.i64.wrap (Int.tdiv (IntKind.i64.wrap (at_ + v13)) 8)))) 0) + v15))) x2 v3 h2'1 (h.2.2.2.2.2.2.2 (List.set h2'2 (0 + (Int.toNat (IntKind.i64.wrap (Int.tdiv (IntKind.i64.wrap (at_ + v13)) 8)))) (IntKind.u8.wrap ((List.getD h2'2 (0 + (Int.toNat (IntKind.i64.wrap (Int.tdiv (IntKind.i64.wrap (at_ + v13)) 8)))) 0) + v15))) rfl)))⟩⟩⟩⟩⟩⟩⟩⟩)
def vz59_7 (b : List Int) (b_n b_c : Nat) (at_ n v v3'1 : Int) (v10l c : Nat) (v13 v15 : Int) (h2'2 : List Int) (v14 : Int) (x2 : Nat) (v3 : Int) (h2'1 : List Int) : Prop := ((((bitB (List.take v10l h2'2) (Int.toNat (IntKind.i64.wrap (at_ + v13)))) == 0) && (v14 == 1)) = true -> (vz59_6 b b_n b_c at_ n v v3'1 v10l c v13 v15 h2'2 x2 v3 h2'1)) /\ ((((bitB (List.take v10l h2'2) (Int.toNat (IntKind.i64.wrap (at_ + v13)))) == 0) && (v14 == 1)) = false -> (vz59_5 b b_n b_c at_ n v v3'1 v10l c v13 h2'2 x2 v3 h2'1))
theorem pz59_7 (b : List Int) (b_n b_c : Nat) (at_ n v : Int) (hK : ∀ cap0 : Nat, b_n <= cap0 -> Kf (.tuple [.slice ⟨1, 0, 0, 1⟩ b_n cap0, .int .i64 (putE b_n at_ n v)]) (Ya8 b_n b at_ n v cap0)) (v3'1 : Int) (v10l c : Nat) (v13 v15 : Int) (h2'2 : List Int) (v14 : Int) (x2 : Nat) (v3 : Int) (h2'1 : List Int) (h : vz59_7 b b_n b_c at_ n v v3'1 v10l c v13 v15 h2'2 v14 x2 v3 h2'1) : SemL Try.prog w0 fp ρi 1 94 [cz59_n28] [(1, some (.int .i64 at_)), (2, some (.int .i64 n)), (3, some (.int .u64 v3'1)), (10, some (.slice ⟨2, 0, 0, 1⟩ v10l c)), (13, some (.int .i64 v13)), (15, some (.int .u8 v15)), (82, some (.bool (((bitB (List.take v10l h2'2) (Int.toNat (IntKind.i64.wrap (at_ + v13)))) == 0) && (v14 == 1))))] (Ya10 b_n b v10l h2'2 x2) (kkz59_5 w0 fp ρi Kf b b_n b_c at_ n v v10l c x2 v3 v13 h2'1) :=
  L_cond (q := (((bitB (List.take v10l h2'2) (Int.toNat (IntKind.i64.wrap (at_ + v13)))) == 0) && (v14 == 1))) (by kernel_rfl) (fun hq => (lpk [1, 2, 3, 10, 13, 15] [0, 2] (pz59_6 b b_n b_c at_ n v hK v3'1 v10l c v13 v15 h2'2 x2 v3 h2'1 (h.1 hq)))) (fun hq => (L_skip (L_nil (lpk [1, 2, 3, 10, 13] [0, 2] (pz59_5 b b_n b_c at_ n v hK v3'1 v10l c v13 h2'2 x2 v3 h2'1 (h.2 hq))))))
theorem rz59_8 (b : List Int) (b_n b_c : Nat) (at_ n v v3'1 : Int) (v10l c : Nat) (v13 v14 v15 : Int) (h2'2 : List Int) (x2 : Nat) (v3 : Int) (h2'1 : List Int) (Z : Env -> Heap -> Prop) (h : (((0 + v10l) <= v10l)) /\ (((v10l : Nat) = v10l) /\ (List.length (List.take v10l h2'2) = v10l /\ v10l <= c /\ v10l <= 1000000 /\ Byt (List.take v10l h2'2) /\ 0 <= (IntKind.i64.wrap (at_ + v13)) /\ (IntKind.i64.wrap (at_ + v13)) < 8 * (v10l : Int))) /\ ∃ qq'1 : Bool, (((bitB (List.take v10l h2'2) (Int.toNat (IntKind.i64.wrap (at_ + v13)))) == 0) = true -> (keeps ⟨4, [(0, some ⟨false, [.ints .u8 b_n b], 0⟩), (2, some ⟨true, [.ints .u8 v10l h2'2], x2⟩)]⟩ ⟨4, [(0, some ⟨false, [.ints .u8 b_n b], 0⟩), (2, some ⟨true, [.ints .u8 v10l h2'2], x2⟩)]⟩ [(0, some ⟨false, [.ints .u8 b_n b], 0⟩), (2, some ⟨true, [.ints .u8 v10l h2'2], x2⟩)]) /\ (v14 == 1) = qq'1) /\ (((bitB (List.take v10l h2'2) (Int.toNat (IntKind.i64.wrap (at_ + v13)))) == 0) = false -> false = qq'1) /\ Z [(1, some (.int .i64 at_)), (2, some (.int .i64 n)), (3, some (.int .u64 v3'1)), (10, some (.slice ⟨2, 0, 0, 1⟩ v10l c)), (13, some (.int .i64 v13)), (15, some (.int .u8 v15)), (82, some (.bool qq'1))] ⟨4, [(0, some ⟨false, [.ints .u8 b_n b], 0⟩), (2, some ⟨true, [.ints .u8 v10l h2'2], x2⟩)]⟩) : EvC GqPut cz59_n26 [(1, some (.int .i64 at_)), (2, some (.int .i64 n)), (3, some (.int .u64 v3'1)), (10, some (.slice ⟨2, 0, 0, 1⟩ v10l c)), (13, some (.int .i64 v13)), (14, some (.int .i64 v14)), (15, some (.int .u8 v15))] ⟨4, [(0, some ⟨false, [.ints .u8 b_n b], 0⟩), (2, some ⟨true, [.ints .u8 v10l h2'2], x2⟩)]⟩ [1, 2, 3, 10, 13, 15, 82] [0, 2] Z := EvC.of (by kernel_rfl) h
def vz59_8 (b : List Int) (b_n b_c : Nat) (at_ n v v3'1 : Int) (v10l c : Nat) (v13 v14 v15 : Int) (h2'2 : List Int) (x2 : Nat) (v3 : Int) (h2'1 : List Int) : Prop := (((0 + v10l) <= v10l)) /\ (((List.length (List.take v10l h2'2) = v10l /\ v10l <= c /\ v10l <= 1000000 /\ Byt (List.take v10l h2'2) /\ 0 <= (IntKind.i64.wrap (at_ + v13)) /\ (IntKind.i64.wrap (at_ + v13)) < 8 * (v10l : Int))) /\ (vz59_7 b b_n b_c at_ n v v3'1 v10l c v13 v15 h2'2 v14 x2 v3 h2'1))
abbrev Ya13 (x0 x1 x2 : Int) (x3 x4 : Nat) (x5 x6 x7 : Int) : Env := [(1, some (.int .i64 x0)), (2, some (.int .i64 x1)), (3, some (.int .u64 x2)), (10, some (.slice ⟨2, 0, 0, 1⟩ x3 x4)), (13, some (.int .i64 x5)), (14, some (.int .i64 x6)), (15, some (.int .u8 x7))]
theorem pz59_8 (b : List Int) (b_n b_c : Nat) (at_ n v : Int) (hK : ∀ cap0 : Nat, b_n <= cap0 -> Kf (.tuple [.slice ⟨1, 0, 0, 1⟩ b_n cap0, .int .i64 (putE b_n at_ n v)]) (Ya8 b_n b at_ n v cap0)) (v3'1 : Int) (v10l c : Nat) (v13 v14 v15 : Int) (h2'2 : List Int) (x2 : Nat) (v3 : Int) (h2'1 : List Int) (h : vz59_8 b b_n b_c at_ n v v3'1 v10l c v13 v14 v15 h2'2 x2 v3 h2'1) : SemL Try.prog w0 fp ρi 1 94 [cz59_n26, cz59_n28] (Ya13 at_ n v3'1 v10l c v13 v14 v15) (Ya10 b_n b v10l h2'2 x2) (kkz59_5 w0 fp ρi Kf b b_n b_c at_ n v v10l c x2 v3 v13 h2'1) :=
  L_regE hGqPut (rz59_8 b b_n b_c at_ n v v3'1 v10l c v13 v14 v15 h2'2 x2 v3 h2'1 _ ⟨h.1, ⟨⟨rfl, h.2.1⟩, ⟨(((bitB (List.take v10l h2'2) (Int.toNat (IntKind.i64.wrap (at_ + v13)))) == 0) && (v14 == 1)), fun hc_qq_1 => ⟨(keeps_refl _), (qa1 hc_qq_1)⟩, fun hc_qq_1 => qa2 hc_qq_1, (pz59_7 b b_n b_c at_ n v hK v3'1 v10l c v13 v15 h2'2 v14 x2 v3 h2'1 h.2.2)⟩⟩⟩)
theorem rz59_9 (b : List Int) (b_n b_c : Nat) (at_ n v v3'1 : Int) (v10l c : Nat) (v13 v14 v15 : Int) (h2'1 : List Int) (x2 : Nat) (v3 : Int) (Z : Env -> Heap -> Prop) (h : (((8 : Int) ≠ 0)) /\ ((0 <= (IntKind.i64.wrap (Int.tdiv (IntKind.i64.wrap (at_ + v13)) 8)))) /\ (((IntKind.i64.wrap (Int.tdiv (IntKind.i64.wrap (at_ + v13)) 8)) < ((v10l : Nat) : Int))) /\ (((0 + (Int.toNat (IntKind.i64.wrap (Int.tdiv (IntKind.i64.wrap (at_ + v13)) 8)))) < v10l)) /\ ((0 <= (IntKind.i64.wrap (Int.tdiv (IntKind.i64.wrap (at_ + v13)) 8)))) /\ (((IntKind.i64.wrap (Int.tdiv (IntKind.i64.wrap (at_ + v13)) 8)) < ((v10l : Nat) : Int))) /\ (((0 + (Int.toNat (IntKind.i64.wrap (Int.tdiv (IntKind.i64.wrap (at_ + v13)) 8)))) < v10l)) /\ (((0 + (Int.toNat (IntKind.i64.wrap (Int.tdiv (IntKind.i64.wrap (at_ + v13)) 8)))) < List.length h2'1)) /\ Z (Ya13 at_ n v3'1 v10l c v13 v14 v15) ⟨4, [(0, some ⟨false, [.ints .u8 b_n b], 0⟩), (2, some ⟨true, [.ints .u8 v10l (List.set h2'1 (0 + (Int.toNat (IntKind.i64.wrap (Int.tdiv (IntKind.i64.wrap (at_ + v13)) 8)))) (IntKind.u8.wrap ((List.getD h2'1 (0 + (Int.toNat (IntKind.i64.wrap (Int.tdiv (IntKind.i64.wrap (at_ + v13)) 8)))) 0) - v15)))], x2⟩)]⟩) : EvC GqPut cz59_n24 (Ya13 at_ n v3'1 v10l c v13 v14 v15) (Ya10 b_n b v10l h2'1 x2) [1, 2, 3, 10, 13, 14, 15] [0, 2] Z := EvC.of (by kernel_rfl) h
def vz59_9 (b : List Int) (b_n b_c : Nat) (at_ n v v3'1 : Int) (v10l c : Nat) (v13 v14 v15 : Int) (h2'1 : List Int) (x2 : Nat) (v3 : Int) : Prop := ((0 <= (IntKind.i64.wrap (Int.tdiv (IntKind.i64.wrap (at_ + v13)) 8)))) /\ ((((IntKind.i64.wrap (Int.tdiv (IntKind.i64.wrap (at_ + v13)) 8)) < ((v10l : Nat) : Int))) /\ ((((0 + (Int.toNat (IntKind.i64.wrap (Int.tdiv (IntKind.i64.wrap (at_ + v13)) 8)))) < v10l)) /\ (((0 <= (IntKind.i64.wrap (Int.tdiv (IntKind.i64.wrap (at_ + v13)) 8)))) /\ ((((IntKind.i64.wrap (Int.tdiv (IntKind.i64.wrap (at_ + v13)) 8)) < ((v10l : Nat) : Int))) /\ ((((0 + (Int.toNat (IntKind.i64.wrap (Int.tdiv (IntKind.i64.wrap (at_ + v13)) 8)))) < v10l)) /\ ((((0 + (Int.toNat (IntKind.i64.wrap (Int.tdiv (IntKind.i64.wrap (at_ + v13)) 8)))) < List.length h2'1)) /\ (∀ h2'2 : List Int, h2'2 = (List.set h2'1 (0 + (Int.toNat (IntKind.i64.wrap (Int.tdiv (IntKind.i64.wrap (at_ + v13)) 8)))) (IntKind.u8.wrap ((List.getD h2'1 (0 + (Int.toNat (IntKind.i64.wrap (Int.tdiv (IntKind.i64.wrap (at_ + v13)) 8)))) 0) - v15))) -> vz59_8 b b_n b_c at_ n v v3'1 v10l c v13 v14 v15 h2'2 x2 v3 h2'1)))))))
theorem pz59_9 (b : List Int) (b_n b_c : Nat) (at_ n v : Int) (hK : ∀ cap0 : Nat, b_n <= cap0 -> Kf (.tuple [.slice ⟨1, 0, 0, 1⟩ b_n cap0, .int .i64 (putE b_n at_ n v)]) (Ya8 b_n b at_ n v cap0)) (v3'1 : Int) (v10l c : Nat) (v13 v14 v15 : Int) (h2'1 : List Int) (x2 : Nat) (v3 : Int) (h : vz59_9 b b_n b_c at_ n v v3'1 v10l c v13 v14 v15 h2'1 x2 v3) : SemL Try.prog w0 fp ρi 1 94 [cz59_n24, (.seq cz59_n26 cz59_n28)] (Ya13 at_ n v3'1 v10l c v13 v14 v15) (Ya10 b_n b v10l h2'1 x2) (kkz59_5 w0 fp ρi Kf b b_n b_c at_ n v v10l c x2 v3 v13 h2'1) :=
  L_regE hGqPut (rz59_9 b b_n b_c at_ n v v3'1 v10l c v13 v14 v15 h2'1 x2 v3 _ ⟨(by decide), ⟨h.1, ⟨h.2.1, ⟨h.2.2.1, ⟨h.2.2.2.1, ⟨h.2.2.2.2.1, ⟨h.2.2.2.2.2.1, ⟨h.2.2.2.2.2.2.1, (L_seq (pz59_8 b b_n b_c at_ n v hK v3'1 v10l c v13 v14 v15 (List.set h2'1 (0 + (Int.toNat (IntKind.i64.wrap (Int.tdiv (IntKind.i64.wrap (at_ + v13)) 8)))) (IntKind.u8.wrap ((List.getD h2'1 (0 + (Int.toNat (IntKind.i64.wrap (Int.tdiv (IntKind.i64.wrap (at_ + v13)) 8)))) 0) - v15))) x2 v3 h2'1 (h.2.2.2.2.2.2.2 (List.set h2'1 (0 + (Int.toNat (IntKind.i64.wrap (Int.tdiv (IntKind.i64.wrap (at_ + v13)) 8)))) (IntKind.u8.wrap ((List.getD h2'1 (0 + (Int.toNat (IntKind.i64.wrap (Int.tdiv (IntKind.i64.wrap (at_ + v13)) 8)))) 0) - v15))) rfl)))⟩⟩⟩⟩⟩⟩⟩⟩)
def vz59_10 (b : List Int) (b_n b_c : Nat) (at_ n v v3'1 : Int) (v10l c : Nat) (v13 v14 v15 : Int) (h2'1 : List Int) (x2 : Nat) (v3 : Int) : Prop := ((((bitB (List.take v10l h2'1) (Int.toNat (IntKind.i64.wrap (at_ + v13)))) == 1) && (v14 == 0)) = true -> (vz59_9 b b_n b_c at_ n v v3'1 v10l c v13 v14 v15 h2'1 x2 v3)) /\ ((((bitB (List.take v10l h2'1) (Int.toNat (IntKind.i64.wrap (at_ + v13)))) == 1) && (v14 == 0)) = false -> (vz59_8 b b_n b_c at_ n v v3'1 v10l c v13 v14 v15 h2'1 x2 v3 h2'1))
theorem pz59_10 (b : List Int) (b_n b_c : Nat) (at_ n v : Int) (hK : ∀ cap0 : Nat, b_n <= cap0 -> Kf (.tuple [.slice ⟨1, 0, 0, 1⟩ b_n cap0, .int .i64 (putE b_n at_ n v)]) (Ya8 b_n b at_ n v cap0)) (v3'1 : Int) (v10l c : Nat) (v13 v14 v15 : Int) (h2'1 : List Int) (x2 : Nat) (v3 : Int) (h : vz59_10 b b_n b_c at_ n v v3'1 v10l c v13 v14 v15 h2'1 x2 v3) : SemL Try.prog w0 fp ρi 1 94 [cz59_n25, (.seq cz59_n26 cz59_n28)] [(1, some (.int .i64 at_)), (2, some (.int .i64 n)), (3, some (.int .u64 v3'1)), (10, some (.slice ⟨2, 0, 0, 1⟩ v10l c)), (13, some (.int .i64 v13)), (14, some (.int .i64 v14)), (15, some (.int .u8 v15)), (62, some (.bool (((bitB (List.take v10l h2'1) (Int.toNat (IntKind.i64.wrap (at_ + v13)))) == 1) && (v14 == 0))))] (Ya10 b_n b v10l h2'1 x2) (kkz59_5 w0 fp ρi Kf b b_n b_c at_ n v v10l c x2 v3 v13 h2'1) :=
  L_cond (q := (((bitB (List.take v10l h2'1) (Int.toNat (IntKind.i64.wrap (at_ + v13)))) == 1) && (v14 == 0))) (by kernel_rfl) (fun hq => (lpk [1, 2, 3, 10, 13, 14, 15] [0, 2] (pz59_9 b b_n b_c at_ n v hK v3'1 v10l c v13 v14 v15 h2'1 x2 v3 (h.1 hq)))) (fun hq => (L_skip (lpk [1, 2, 3, 10, 13, 14, 15] [0, 2] (L_seq (pz59_8 b b_n b_c at_ n v hK v3'1 v10l c v13 v14 v15 h2'1 x2 v3 h2'1 (h.2 hq))))))
theorem rz59_11 (b : List Int) (b_n b_c : Nat) (at_ n v v3'1 : Int) (v10l c : Nat) (v13 v14 v15 : Int) (h2'1 : List Int) (x2 : Nat) (v3 : Int) (Z : Env -> Heap -> Prop) (h : (((0 + v10l) <= v10l)) /\ (((v10l : Nat) = v10l) /\ (List.length (List.take v10l h2'1) = v10l /\ v10l <= c /\ v10l <= 1000000 /\ Byt (List.take v10l h2'1) /\ 0 <= (IntKind.i64.wrap (at_ + v13)) /\ (IntKind.i64.wrap (at_ + v13)) < 8 * (v10l : Int))) /\ ∃ qq : Bool, (((bitB (List.take v10l h2'1) (Int.toNat (IntKind.i64.wrap (at_ + v13)))) == 1) = true -> (keeps ⟨4, [(0, some ⟨false, [.ints .u8 b_n b], 0⟩), (2, some ⟨true, [.ints .u8 v10l h2'1], x2⟩)]⟩ ⟨4, [(0, some ⟨false, [.ints .u8 b_n b], 0⟩), (2, some ⟨true, [.ints .u8 v10l h2'1], x2⟩)]⟩ [(0, some ⟨false, [.ints .u8 b_n b], 0⟩), (2, some ⟨true, [.ints .u8 v10l h2'1], x2⟩)]) /\ (v14 == 0) = qq) /\ (((bitB (List.take v10l h2'1) (Int.toNat (IntKind.i64.wrap (at_ + v13)))) == 1) = false -> false = qq) /\ Z [(1, some (.int .i64 at_)), (2, some (.int .i64 n)), (3, some (.int .u64 v3'1)), (10, some (.slice ⟨2, 0, 0, 1⟩ v10l c)), (13, some (.int .i64 v13)), (14, some (.int .i64 v14)), (15, some (.int .u8 v15)), (62, some (.bool qq))] ⟨4, [(0, some ⟨false, [.ints .u8 b_n b], 0⟩), (2, some ⟨true, [.ints .u8 v10l h2'1], x2⟩)]⟩) : EvC GqPut cz59_n23 [(1, some (.int .i64 at_)), (2, some (.int .i64 n)), (3, some (.int .u64 v3'1)), (10, some (.slice ⟨2, 0, 0, 1⟩ v10l c)), (13, some (.int .i64 v13)), (14, some (.int .i64 v14)), (15, some (.int .u8 v15))] ⟨4, [(0, some ⟨false, [.ints .u8 b_n b], 0⟩), (2, some ⟨true, [.ints .u8 v10l h2'1], x2⟩)]⟩ [1, 2, 3, 10, 13, 14, 15, 62] [0, 2] Z := EvC.of (by kernel_rfl) h
def vz59_11 (b : List Int) (b_n b_c : Nat) (at_ n v v3'1 : Int) (v10l c : Nat) (v13 v14 v15 : Int) (h2'1 : List Int) (x2 : Nat) (v3 : Int) : Prop := (((0 + v10l) <= v10l)) /\ (((List.length (List.take v10l h2'1) = v10l /\ v10l <= c /\ v10l <= 1000000 /\ Byt (List.take v10l h2'1) /\ 0 <= (IntKind.i64.wrap (at_ + v13)) /\ (IntKind.i64.wrap (at_ + v13)) < 8 * (v10l : Int))) /\ (vz59_10 b b_n b_c at_ n v v3'1 v10l c v13 v14 v15 h2'1 x2 v3))
theorem pz59_11 (b : List Int) (b_n b_c : Nat) (at_ n v : Int) (hK : ∀ cap0 : Nat, b_n <= cap0 -> Kf (.tuple [.slice ⟨1, 0, 0, 1⟩ b_n cap0, .int .i64 (putE b_n at_ n v)]) (Ya8 b_n b at_ n v cap0)) (v3'1 : Int) (v10l c : Nat) (v13 v14 v15 : Int) (h2'1 : List Int) (x2 : Nat) (v3 : Int) (h : vz59_11 b b_n b_c at_ n v v3'1 v10l c v13 v14 v15 h2'1 x2 v3) : SemL Try.prog w0 fp ρi 1 94 [cz59_n23, cz59_n25, (.seq cz59_n26 cz59_n28)] (Ya13 at_ n v3'1 v10l c v13 v14 v15) (Ya10 b_n b v10l h2'1 x2) (kkz59_5 w0 fp ρi Kf b b_n b_c at_ n v v10l c x2 v3 v13 h2'1) :=
  L_regE hGqPut (rz59_11 b b_n b_c at_ n v v3'1 v10l c v13 v14 v15 h2'1 x2 v3 _ ⟨h.1, ⟨⟨rfl, h.2.1⟩, ⟨(((bitB (List.take v10l h2'1) (Int.toNat (IntKind.i64.wrap (at_ + v13)))) == 1) && (v14 == 0)), fun hc_qq => ⟨(keeps_refl _), (qa1 hc_qq)⟩, fun hc_qq => qa2 hc_qq, (pz59_10 b b_n b_c at_ n v hK v3'1 v10l c v13 v14 v15 h2'1 x2 v3 h.2.2)⟩⟩⟩)
abbrev Ya14 (x0 x1 x2 : Int) (x3 x4 : Nat) (x5 x6 : Int) : Env := [(1, some (.int .i64 x0)), (2, some (.int .i64 x1)), (3, some (.int .u64 x2)), (10, some (.slice ⟨2, 0, 0, 1⟩ x3 x4)), (13, some (.int .i64 x5)), (14, some (.int .i64 x6))]
theorem rz59_12 (b : List Int) (b_n b_c : Nat) (at_ n v v3'1 : Int) (v10l c : Nat) (v13 v14 : Int) (h2'1 : List Int) (x2 : Nat) (v3 : Int) (Z : Env -> Heap -> Prop) (h : (((8 : Int) ≠ 0)) /\ ((0 <= (Int.tmod (IntKind.i64.wrap (at_ + v13)) 8))) /\ (((Int.tmod (IntKind.i64.wrap (at_ + v13)) 8) < 8)) /\ (((0 + (Int.toNat (Int.tmod (IntKind.i64.wrap (at_ + v13)) 8))) < 8)) /\ Z [(1, some (.int .i64 at_)), (2, some (.int .i64 n)), (3, some (.int .u64 v3'1)), (10, some (.slice ⟨2, 0, 0, 1⟩ v10l c)), (13, some (.int .i64 v13)), (14, some (.int .i64 v14)), (15, some (.int .u8 (List.getD ([1, 2, 4, 8, 16, 32, 64, 128] : List Int) (0 + (Int.toNat (Int.tmod (IntKind.i64.wrap (at_ + v13)) 8))) 0)))] (Ya10 b_n b v10l h2'1 x2)) : EvC GqPut cz59_n22 (Ya14 at_ n v3'1 v10l c v13 v14) (Ya6 b_n b v10l h2'1 x2) [1, 2, 3, 10, 13, 14, 15] [0, 2] Z := EvC.of (by kernel_rfl) h
def vz59_12 (b : List Int) (b_n b_c : Nat) (at_ n v v3'1 : Int) (v10l c : Nat) (v13 v14 : Int) (h2'1 : List Int) (x2 : Nat) (v3 : Int) : Prop := ((0 <= (Int.tmod (IntKind.i64.wrap (at_ + v13)) 8))) /\ ((((Int.tmod (IntKind.i64.wrap (at_ + v13)) 8) < 8)) /\ ((((0 + (Int.toNat (Int.tmod (IntKind.i64.wrap (at_ + v13)) 8))) < 8)) /\ (∀ v15 : Int, v15 = (List.getD ([1, 2, 4, 8, 16, 32, 64, 128] : List Int) (0 + (Int.toNat (Int.tmod (IntKind.i64.wrap (at_ + v13)) 8))) 0) -> vz59_11 b b_n b_c at_ n v v3'1 v10l c v13 v14 v15 h2'1 x2 v3)))
theorem pz59_12 (b : List Int) (b_n b_c : Nat) (at_ n v : Int) (hK : ∀ cap0 : Nat, b_n <= cap0 -> Kf (.tuple [.slice ⟨1, 0, 0, 1⟩ b_n cap0, .int .i64 (putE b_n at_ n v)]) (Ya8 b_n b at_ n v cap0)) (v3'1 : Int) (v10l c : Nat) (v13 v14 : Int) (h2'1 : List Int) (x2 : Nat) (v3 : Int) (h : vz59_12 b b_n b_c at_ n v v3'1 v10l c v13 v14 h2'1 x2 v3) : SemL Try.prog w0 fp ρi 1 94 [cz59_n22, (.seq (.seq cz59_n23 cz59_n25) (.seq cz59_n26 cz59_n28))] (Ya14 at_ n v3'1 v10l c v13 v14) (Ya6 b_n b v10l h2'1 x2) (kkz59_5 w0 fp ρi Kf b b_n b_c at_ n v v10l c x2 v3 v13 h2'1) :=
  L_regE hGqPut (rz59_12 b b_n b_c at_ n v v3'1 v10l c v13 v14 h2'1 x2 v3 _ ⟨(by decide), ⟨h.1, ⟨h.2.1, ⟨h.2.2.1, (L_seq (L_seq (pz59_11 b b_n b_c at_ n v hK v3'1 v10l c v13 v14 (List.getD ([1, 2, 4, 8, 16, 32, 64, 128] : List Int) (0 + (Int.toNat (Int.tmod (IntKind.i64.wrap (at_ + v13)) 8))) 0) h2'1 x2 v3 (h.2.2.2 (List.getD ([1, 2, 4, 8, 16, 32, 64, 128] : List Int) (0 + (Int.toNat (Int.tmod (IntKind.i64.wrap (at_ + v13)) 8))) 0) rfl))))⟩⟩⟩⟩)
theorem rz59_13 (b : List Int) (b_n b_c : Nat) (at_ n v v3 : Int) (v10l c : Nat) (v13 v14 : Int) (h2'1 : List Int) (x2 : Nat) (Z : Env -> Heap -> Prop) (h : (((2 : Int) ≠ 0)) /\ Z [(1, some (.int .i64 at_)), (2, some (.int .i64 n)), (3, some (.int .u64 (IntKind.u64.wrap (Int.tdiv v3 2)))), (10, some (.slice ⟨2, 0, 0, 1⟩ v10l c)), (13, some (.int .i64 v13)), (14, some (.int .i64 v14))] (Ya6 b_n b v10l h2'1 x2)) : EvC GqPut cz59_n21 (Ya14 at_ n v3 v10l c v13 v14) (Ya6 b_n b v10l h2'1 x2) [1, 2, 3, 10, 13, 14] [0, 2] Z := EvC.of (by kernel_rfl) h
def vz59_13 (b : List Int) (b_n b_c : Nat) (at_ n v v3 : Int) (v10l c : Nat) (v13 v14 : Int) (h2'1 : List Int) (x2 : Nat) : Prop := ∀ v3'1 : Int, v3'1 = (Int.tdiv v3 2) % 18446744073709551616 -> vz59_12 b b_n b_c at_ n v v3'1 v10l c v13 v14 h2'1 x2 v3
theorem pz59_13 (b : List Int) (b_n b_c : Nat) (at_ n v : Int) (hK : ∀ cap0 : Nat, b_n <= cap0 -> Kf (.tuple [.slice ⟨1, 0, 0, 1⟩ b_n cap0, .int .i64 (putE b_n at_ n v)]) (Ya8 b_n b at_ n v cap0)) (v3 : Int) (v10l c : Nat) (v13 v14 : Int) (h2'1 : List Int) (x2 : Nat) (h : vz59_13 b b_n b_c at_ n v v3 v10l c v13 v14 h2'1 x2) : SemL Try.prog w0 fp ρi 1 94 [cz59_n21, (.seq cz59_n22 (.seq (.seq cz59_n23 cz59_n25) (.seq cz59_n26 cz59_n28)))] (Ya14 at_ n v3 v10l c v13 v14) (Ya6 b_n b v10l h2'1 x2) (kkz59_5 w0 fp ρi Kf b b_n b_c at_ n v v10l c x2 v3 v13 h2'1) :=
  L_regE hGqPut (rz59_13 b b_n b_c at_ n v v3 v10l c v13 v14 h2'1 x2 _ ⟨(by decide), (L_seq (pz59_12 b b_n b_c at_ n v hK (IntKind.u64.wrap (Int.tdiv v3 2)) v10l c v13 v14 h2'1 x2 v3 (h (IntKind.u64.wrap (Int.tdiv v3 2)) (wrap_u64 _))))⟩)
theorem rz59_14 (b : List Int) (b_n b_c : Nat) (at_ n v v3 : Int) (v10l c : Nat) (v13 : Int) (h2'1 : List Int) (x2 : Nat) (Z : Env -> Heap -> Prop) (h : (((2 : Int) ≠ 0)) /\ Z [(1, some (.int .i64 at_)), (2, some (.int .i64 n)), (3, some (.int .u64 v3)), (10, some (.slice ⟨2, 0, 0, 1⟩ v10l c)), (13, some (.int .i64 v13)), (14, some (.int .i64 (IntKind.i64.wrap (Int.tmod v3 2))))] (Ya6 b_n b v10l h2'1 x2)) : EvC GqPut cz59_n20 (Ya11 at_ n v3 v10l c v13) (Ya6 b_n b v10l h2'1 x2) [1, 2, 3, 10, 13, 14] [0, 2] Z := EvC.of (by kernel_rfl) h
def vz59_14 (b : List Int) (b_n b_c : Nat) (at_ n v v3 : Int) (v10l c : Nat) (v13 : Int) (h2'1 : List Int) (x2 : Nat) : Prop := ∀ v14 : Int, v14 = ((Int.tmod v3 2) + 9223372036854775808) % 18446744073709551616 - 9223372036854775808 -> vz59_13 b b_n b_c at_ n v v3 v10l c v13 v14 h2'1 x2
theorem pz59_14 (b : List Int) (b_n b_c : Nat) (at_ n v : Int) (hK : ∀ cap0 : Nat, b_n <= cap0 -> Kf (.tuple [.slice ⟨1, 0, 0, 1⟩ b_n cap0, .int .i64 (putE b_n at_ n v)]) (Ya8 b_n b at_ n v cap0)) (v3 : Int) (v10l c : Nat) (v13 : Int) (h2'1 : List Int) (x2 : Nat) (h : vz59_14 b b_n b_c at_ n v v3 v10l c v13 h2'1 x2) : SemL Try.prog w0 fp ρi 1 94 [cz59_n20, (.seq cz59_n21 (.seq cz59_n22 (.seq (.seq cz59_n23 cz59_n25) (.seq cz59_n26 cz59_n28))))] (Ya11 at_ n v3 v10l c v13) (Ya6 b_n b v10l h2'1 x2) (kkz59_5 w0 fp ρi Kf b b_n b_c at_ n v v10l c x2 v3 v13 h2'1) :=
  L_regE hGqPut (rz59_14 b b_n b_c at_ n v v3 v10l c v13 h2'1 x2 _ ⟨(by decide), (L_seq (pz59_13 b b_n b_c at_ n v hK v3 v10l c v13 (IntKind.i64.wrap (Int.tmod v3 2)) h2'1 x2 (h (IntKind.i64.wrap (Int.tmod v3 2)) (wi64 _))))⟩)
def vz59_15 (b : List Int) (b_n b_c : Nat) (at_ n v v3 : Int) (v10l c : Nat) (v13 : Int) (h2'1 : List Int) (x2 : Nat) : Prop := vz59_14 b b_n b_c at_ n v v3 v10l c v13 h2'1 x2
theorem pz59_15 (b : List Int) (b_n b_c : Nat) (at_ n v : Int) (hK : ∀ cap0 : Nat, b_n <= cap0 -> Kf (.tuple [.slice ⟨1, 0, 0, 1⟩ b_n cap0, .int .i64 (putE b_n at_ n v)]) (Ya8 b_n b at_ n v cap0)) (v3 : Int) (v10l c : Nat) (v13 : Int) (h2'1 : List Int) (x2 : Nat) (h : vz59_15 b b_n b_c at_ n v v3 v10l c v13 h2'1 x2) : SemL Try.prog w0 fp ρi 1 94 [cz59_n29, cz59_n30] (Ya11 at_ n v3 v10l c v13) (Ya6 b_n b v10l h2'1 x2) (kkz59_4 w0 fp ρi Kf b b_n b_c at_ n v v10l c x2 v3 v13 h2'1) :=
  L_block (L_seq (pz59_14 b b_n b_c at_ n v hK v3 v10l c v13 h2'1 x2 h))
theorem rz59_16 (b : List Int) (b_n b_c : Nat) (at_ n v : Int) (v10l c : Nat) (h2'1 : List Int) (x2 : Nat) (Z : Env -> Heap -> Prop) (h : Z [(8, some (.slice ⟨2, 0, 0, 1⟩ v10l c)), (9, some (.int .i64 0))] (Ya6 b_n b v10l h2'1 x2)) : EvC GqPut cz59_n33 (Ya7 v10l c) (Ya6 b_n b v10l h2'1 x2) [8, 9] [0, 2] Z := EvC.of (by kernel_rfl) h
theorem rtz59_2 (b : List Int) (b_n b_c : Nat) (at_ n v : Int) (v10l c : Nat) (h2'1 : List Int) (x2 : Nat) : RetC RqPut [(8, some (.slice ⟨2, 0, 0, 1⟩ v10l c)), (9, some (.int .i64 0))] (Ya6 b_n b v10l h2'1 x2) (.tuple [.slice ⟨2, 0, 0, 1⟩ v10l c, .int .i64 0]) := RetC.of (fun Z => by kernel_rfl)
def vz59_16 (b : List Int) (b_n b_c : Nat) (at_ n v : Int) (v10l c : Nat) (h2'1 : List Int) (x2 : Nat) : Prop := (v10l = b_n) /\ (0 = (putE b_n at_ n v)) /\ (v10l = b_n) /\ (h2'1 = (putL b at_ n v)) /\ (x2 = (c - b_n)) /\ ((b_n : Nat) <= c)
theorem pz59_16 (b : List Int) (b_n b_c : Nat) (at_ n v : Int) (hK : ∀ cap0 : Nat, b_n <= cap0 -> Kf (.tuple [.slice ⟨1, 0, 0, 1⟩ b_n cap0, .int .i64 (putE b_n at_ n v)]) (Ya8 b_n b at_ n v cap0)) (v10l c : Nat) (h2'1 : List Int) (x2 : Nat) (h : vz59_16 b b_n b_c at_ n v v10l c h2'1 x2) : SemL Try.prog w0 fp ρi 1 94 [cz59_n33, .ret] (Ya7 v10l c) (Ya6 b_n b v10l h2'1 x2) (fnK RqPut 1 Kf) :=
  L_regE hGqPut (rz59_16 b b_n b_c at_ n v v10l c h2'1 x2 _ (L_retE (R := RqPut) (m := 1) (Kf := Kf) (fun _ _ h => h) (rtz59_2 b b_n b_c at_ n v v10l c h2'1 x2) (ret_of0 (Eq.mpr (cg5 (fun (z1 : Nat) (z2 : Int) (z3 : Nat) (z4 : List Int) (z5 : Nat) => Ret0 1 Kf (.tuple [.slice ⟨2, 0, 0, 1⟩ z1 c, .int .i64 z2]) (Ya6 b_n b z3 z4 z5)) h.1 h.2.1 h.2.2.1 h.2.2.2.1 h.2.2.2.2.1) (ret0_tau [(1, 2)] [1, 0] rfl (by kernel_rfl) rfl (bd_tuple (bdL_cons bsl (bdL_cons pbd bdL_nil))) (hsc pcs (hsc pcs heapSub_nil)) rfl (by kernel_rfl) (hK c h.2.2.2.2.2))))))
def vz59_17 (b : List Int) (b_n b_c : Nat) (at_ n v v3 : Int) (v10l c : Nat) (v13 : Int) (h2'1 : List Int) (x2 : Nat) : Prop := ((decide (v13 < n)) = true -> (vz59_15 b b_n b_c at_ n v v3 v10l c v13 h2'1 x2)) /\ ((decide (v13 < n)) = false -> (vz59_16 b b_n b_c at_ n v v10l c h2'1 x2))
abbrev Ya15 (x0 x1 x2 : Int) (x3 x4 : Nat) (x5 : Int) : Env := [(1, some (.int .i64 x0)), (2, some (.int .i64 x1)), (3, some (.int .u64 x2)), (10, some (.slice ⟨2, 0, 0, 1⟩ x3 x4)), (13, some (.int .i64 x5)), (38, some (.bool (decide (x5 < x1))))]
theorem pz59_17 (b : List Int) (b_n b_c : Nat) (at_ n v : Int) (hK : ∀ cap0 : Nat, b_n <= cap0 -> Kf (.tuple [.slice ⟨1, 0, 0, 1⟩ b_n cap0, .int .i64 (putE b_n at_ n v)]) (Ya8 b_n b at_ n v cap0)) (v3 : Int) (v10l c : Nat) (v13 : Int) (h2'1 : List Int) (x2 : Nat) (h : vz59_17 b b_n b_c at_ n v v3 v10l c v13 h2'1 x2) : SemL Try.prog w0 fp ρi 1 94 [cz59_n19, (.seq cz59_n29 cz59_n30)] (Ya15 at_ n v3 v10l c v13) (Ya6 b_n b v10l h2'1 x2) (kkz59_4 w0 fp ρi Kf b b_n b_c at_ n v v10l c x2 v3 v13 h2'1) :=
  L_cond (q := (decide (v13 < n))) (by kernel_rfl) (fun hq => (L_skip (lpk [1, 2, 3, 10, 13] [0, 2] (L_seq (pz59_15 b b_n b_c at_ n v hK v3 v10l c v13 h2'1 x2 (h.1 hq)))))) (fun hq => (L_exit (lpk [10] [0, 2] (L_seq (pz59_16 b b_n b_c at_ n v hK v10l c h2'1 x2 (h.2 hq))))))
theorem rz59_18 (b : List Int) (b_n b_c : Nat) (at_ n v v3 : Int) (v10l c : Nat) (v13 : Int) (h2'1 : List Int) (x2 : Nat) (Z : Env -> Heap -> Prop) (h : Z (Ya15 at_ n v3 v10l c v13) (Ya6 b_n b v10l h2'1 x2)) : EvC GqPut cz59_n18 (Ya11 at_ n v3 v10l c v13) (Ya6 b_n b v10l h2'1 x2) [1, 2, 3, 10, 13, 38] [0, 2] Z := EvC.of (by kernel_rfl) h
def vz59_18 (b : List Int) (b_n b_c : Nat) (at_ n v v3 : Int) (v10l c : Nat) (v13 : Int) (h2'1 : List Int) (x2 : Nat) : Prop := vz59_17 b b_n b_c at_ n v v3 v10l c v13 h2'1 x2
theorem pz59_18 (b : List Int) (b_n b_c : Nat) (at_ n v : Int) (hK : ∀ cap0 : Nat, b_n <= cap0 -> Kf (.tuple [.slice ⟨1, 0, 0, 1⟩ b_n cap0, .int .i64 (putE b_n at_ n v)]) (Ya8 b_n b at_ n v cap0)) (v3 : Int) (v10l c : Nat) (v13 : Int) (h2'1 : List Int) (x2 : Nat) (h : vz59_18 b b_n b_c at_ n v v3 v10l c v13 h2'1 x2) : SemL Try.prog w0 fp ρi 1 94 [cz59_n18, cz59_n19, (.seq cz59_n29 cz59_n30)] (Ya11 at_ n v3 v10l c v13) (Ya6 b_n b v10l h2'1 x2) (kkz59_4 w0 fp ρi Kf b b_n b_c at_ n v v10l c x2 v3 v13 h2'1) :=
  L_regE hGqPut (rz59_18 b b_n b_c at_ n v v3 v10l c v13 h2'1 x2 _ (pz59_17 b b_n b_c at_ n v hK v3 v10l c v13 h2'1 x2 h))
def vz59_19 (b : List Int) (b_n b_c : Nat) (at_ n v : Int) (v10l c : Nat) (h2 : List Int) (x2 : Nat) : Prop := (0 <= (0 : Int) /\ (0 : Int) <= n /\ v = v / 2 ^ (0 : Int).toNat /\ PutI b at_.toNat v (0 : Int).toNat h2) /\ (∀ (v3 v13 : Int) (h2'1 : List Int), (0 <= v13 /\ v13 <= n /\ v3 = v / 2 ^ v13.toNat /\ PutI b at_.toNat v v13.toNat h2'1) -> (vz59_18 b b_n b_c at_ n v v3 v10l c v13 h2'1 x2))
abbrev Ya16 (x0 x1 x2 : Int) (x3 x4 : Nat) : Env := [(1, some (.int .i64 x0)), (2, some (.int .i64 x1)), (3, some (.int .u64 x2)), (10, some (.slice ⟨2, 0, 0, 1⟩ x3 x4)), (13, some (.int .i64 0))]
theorem pz59_19 (b : List Int) (b_n b_c : Nat) (at_ n v : Int) (hK : ∀ cap0 : Nat, b_n <= cap0 -> Kf (.tuple [.slice ⟨1, 0, 0, 1⟩ b_n cap0, .int .i64 (putE b_n at_ n v)]) (Ya8 b_n b at_ n v cap0)) (v10l c : Nat) (h2 : List Int) (x2 : Nat) (h : vz59_19 b b_n b_c at_ n v v10l c h2 x2) : SemL Try.prog w0 fp ρi 1 94 [cz59_n31] (Ya16 at_ n v v10l c) (Ya6 b_n b v10l h2 x2) (kkz59_3 w0 fp ρi Kf b b_n b_c at_ n v) :=
  L_loop (ivz59_4 b b_n b_c at_ n v v10l c x2) (muz59_4 b b_n b_c at_ n v v10l c x2) (liz59_4 b b_n b_c at_ n v v10l c x2) (ljz59_4 b b_n b_c at_ n v v10l c x2) ⟨(v, 0, h2), tau [], h.1, (sub_tau' [] [0, 2] rfl rfl (esc pbd (esc pbd (esc pbd (esc bsl (esc pbd envSub_nil))))) (hsc pcs (hsc pcs heapSub_nil)) (by kernel_rfl) rfl)⟩ (fun s => match s with | (v3, v13, h2'1) => fun hi => (L_seq (L_seq (pz59_18 b b_n b_c at_ n v hK v3 v10l c v13 h2'1 x2 (h.2 v3 v13 h2'1 hi)))))
def vz59_20 (b : List Int) (b_n b_c : Nat) (at_ n v : Int) (v10l c : Nat) (h2 : List Int) (x2 : Nat) : Prop := vz59_19 b b_n b_c at_ n v v10l c h2 x2
theorem pz59_20 (b : List Int) (b_n b_c : Nat) (at_ n v : Int) (hK : ∀ cap0 : Nat, b_n <= cap0 -> Kf (.tuple [.slice ⟨1, 0, 0, 1⟩ b_n cap0, .int .i64 (putE b_n at_ n v)]) (Ya8 b_n b at_ n v cap0)) (v10l c : Nat) (h2 : List Int) (x2 : Nat) (h : vz59_20 b b_n b_c at_ n v v10l c h2 x2) : SemL Try.prog w0 fp ρi 1 94 [cz59_n32, (.seq cz59_n33 .ret)] (Ya16 at_ n v v10l c) (Ya6 b_n b v10l h2 x2) (fnK RqPut 1 Kf) :=
  L_block (pz59_19 b b_n b_c at_ n v hK v10l c h2 x2 h)
abbrev Ya17 (x0 x1 x2 : Int) (x3 x4 : Nat) : Env := [(1, some (.int .i64 x0)), (2, some (.int .i64 x1)), (3, some (.int .u64 x2)), (10, some (.slice ⟨2, 0, 0, 1⟩ x3 x4))]
theorem rz59_21 (b : List Int) (b_n b_c : Nat) (at_ n v : Int) (v10l c : Nat) (h2 : List Int) (x2 : Nat) (Z : Env -> Heap -> Prop) (h : Z (Ya16 at_ n v v10l c) (Ya6 b_n b v10l h2 x2)) : EvC GqPut cz59_n17 (Ya17 at_ n v v10l c) (Ya6 b_n b v10l h2 x2) [1, 2, 3, 10, 13] [0, 2] Z := EvC.of (by kernel_rfl) h
def vz59_21 (b : List Int) (b_n b_c : Nat) (at_ n v : Int) (v10l c : Nat) (h2 : List Int) (x2 : Nat) : Prop := vz59_20 b b_n b_c at_ n v v10l c h2 x2
theorem pz59_21 (b : List Int) (b_n b_c : Nat) (at_ n v : Int) (hK : ∀ cap0 : Nat, b_n <= cap0 -> Kf (.tuple [.slice ⟨1, 0, 0, 1⟩ b_n cap0, .int .i64 (putE b_n at_ n v)]) (Ya8 b_n b at_ n v cap0)) (v10l c : Nat) (h2 : List Int) (x2 : Nat) (h : vz59_21 b b_n b_c at_ n v v10l c h2 x2) : SemL Try.prog w0 fp ρi 1 94 [cz59_n17, cz59_n32, (.seq cz59_n33 .ret)] (Ya17 at_ n v v10l c) (Ya6 b_n b v10l h2 x2) (fnK RqPut 1 Kf) :=
  L_regE hGqPut (rz59_21 b b_n b_c at_ n v v10l c h2 x2 _ (pz59_20 b b_n b_c at_ n v hK v10l c h2 x2 h))
def vz59_22 (b : List Int) (b_n b_c : Nat) (at_ n v : Int) (v10l c : Nat) (v11 : Int) (h2 : List Int) (x2 : Nat) : Prop := ((v11 != 0) = true -> (vz59_4 b b_n b_c at_ n v v10l c h2 x2)) /\ ((v11 != 0) = false -> (vz59_21 b b_n b_c at_ n v v10l c h2 x2))
abbrev Ya18 (x0 x1 x2 : Int) (x3 x4 : Nat) (x5 : Int) : Env := [(1, some (.int .i64 x0)), (2, some (.int .i64 x1)), (3, some (.int .u64 x2)), (10, some (.slice ⟨2, 0, 0, 1⟩ x3 x4)), (34, some (.bool (x5 != 0)))]
theorem pz59_22 (b : List Int) (b_n b_c : Nat) (at_ n v : Int) (hK : ∀ cap0 : Nat, b_n <= cap0 -> Kf (.tuple [.slice ⟨1, 0, 0, 1⟩ b_n cap0, .int .i64 (putE b_n at_ n v)]) (Ya8 b_n b at_ n v cap0)) (v10l c : Nat) (v11 : Int) (h2 : List Int) (x2 : Nat) (h : vz59_22 b b_n b_c at_ n v v10l c v11 h2 x2) : SemL Try.prog w0 fp ρi 1 94 [cz59_n16, (.seq (.seq cz59_n17 cz59_n32) (.seq cz59_n33 .ret))] (Ya18 at_ n v v10l c v11) (Ya6 b_n b v10l h2 x2) (fnK RqPut 1 Kf) :=
  L_cond (q := (v11 != 0)) (by kernel_rfl) (fun hq => (L_seq (lpk [10] [0, 2] (pz59_4 b b_n b_c at_ n v hK v10l c h2 x2 (h.1 hq))))) (fun hq => (L_skip (lpk [1, 2, 3, 10] [0, 2] (L_seq (L_seq (pz59_21 b b_n b_c at_ n v hK v10l c h2 x2 (h.2 hq)))))))
theorem rz59_23 (b : List Int) (b_n b_c : Nat) (at_ n v : Int) (v10l c : Nat) (v11 : Int) (h2 : List Int) (x2 : Nat) (Z : Env -> Heap -> Prop) (h : Z (Ya18 at_ n v v10l c v11) (Ya6 b_n b v10l h2 x2)) : EvC GqPut cz59_n14 [(1, some (.int .i64 at_)), (2, some (.int .i64 n)), (3, some (.int .u64 v)), (10, some (.slice ⟨2, 0, 0, 1⟩ v10l c)), (11, some (.int .u64 v11))] (Ya6 b_n b v10l h2 x2) [1, 2, 3, 10, 34] [0, 2] Z := EvC.of (by kernel_rfl) h
def vz59_23 (b : List Int) (b_n b_c : Nat) (at_ n v : Int) (v10l c : Nat) (v11 : Int) (h2 : List Int) (x2 : Nat) : Prop := vz59_22 b b_n b_c at_ n v v10l c v11 h2 x2
theorem pz59_23 (b : List Int) (b_n b_c : Nat) (at_ n v : Int) (hK : ∀ cap0 : Nat, b_n <= cap0 -> Kf (.tuple [.slice ⟨1, 0, 0, 1⟩ b_n cap0, .int .i64 (putE b_n at_ n v)]) (Ya8 b_n b at_ n v cap0)) (v10l c : Nat) (v11 : Int) (h2 : List Int) (x2 : Nat) (h : vz59_23 b b_n b_c at_ n v v10l c v11 h2 x2) : SemL Try.prog w0 fp ρi 1 94 [cz59_n14, cz59_n16, (.seq (.seq cz59_n17 cz59_n32) (.seq cz59_n33 .ret))] [(1, some (.int .i64 at_)), (2, some (.int .i64 n)), (3, some (.int .u64 v)), (10, some (.slice ⟨2, 0, 0, 1⟩ v10l c)), (11, some (.int .u64 v11))] (Ya6 b_n b v10l h2 x2) (fnK RqPut 1 Kf) :=
  L_regE hGqPut (rz59_23 b b_n b_c at_ n v v10l c v11 h2 x2 _ (pz59_22 b b_n b_c at_ n v hK v10l c v11 h2 x2 h))
def vz59_24 (b : List Int) (b_n b_c : Nat) (at_ n v : Int) (v10l c : Nat) (v11 v12 : Int) (h2 : List Int) (x2 : Nat) : Prop := ((decide (v12 < n)) = true -> (vz59_3 b b_n b_c at_ n v v10l c v11 v12 h2 x2)) /\ ((decide (v12 < n)) = false -> (vz59_23 b b_n b_c at_ n v v10l c v11 h2 x2))
abbrev Ya19 (x0 x1 x2 : Int) (x3 x4 : Nat) (x5 x6 : Int) : Env := [(1, some (.int .i64 x0)), (2, some (.int .i64 x1)), (3, some (.int .u64 x2)), (10, some (.slice ⟨2, 0, 0, 1⟩ x3 x4)), (11, some (.int .u64 x5)), (12, some (.int .i64 x6)), (28, some (.bool (decide (x6 < x1))))]
theorem pz59_24 (b : List Int) (b_n b_c : Nat) (at_ n v : Int) (hK : ∀ cap0 : Nat, b_n <= cap0 -> Kf (.tuple [.slice ⟨1, 0, 0, 1⟩ b_n cap0, .int .i64 (putE b_n at_ n v)]) (Ya8 b_n b at_ n v cap0)) (v10l c : Nat) (v11 v12 : Int) (h2 : List Int) (x2 : Nat) (h : vz59_24 b b_n b_c at_ n v v10l c v11 v12 h2 x2) : SemL Try.prog w0 fp ρi 1 94 [cz59_n8, (.seq cz59_n10 cz59_n11)] (Ya19 at_ n v v10l c v11 v12) (Ya6 b_n b v10l h2 x2) (kkz59_1 w0 fp ρi Kf b b_n b_c at_ n v v10l c h2 x2 v11 v12) :=
  L_cond (q := (decide (v12 < n))) (by kernel_rfl) (fun hq => (L_skip (lpk [1, 2, 3, 10, 11, 12] [0, 2] (L_seq (pz59_3 b b_n b_c at_ n v hK v10l c v11 v12 h2 x2 (h.1 hq)))))) (fun hq => (L_exit (lpk [1, 2, 3, 10, 11] [0, 2] (L_seq (L_seq (pz59_23 b b_n b_c at_ n v hK v10l c v11 h2 x2 (h.2 hq)))))))
theorem rz59_25 (b : List Int) (b_n b_c : Nat) (at_ n v : Int) (v10l c : Nat) (v11 v12 : Int) (h2 : List Int) (x2 : Nat) (Z : Env -> Heap -> Prop) (h : Z (Ya19 at_ n v v10l c v11 v12) (Ya6 b_n b v10l h2 x2)) : EvC GqPut cz59_n7 (Ya9 at_ n v v10l c v11 v12) (Ya6 b_n b v10l h2 x2) [1, 2, 3, 10, 11, 12, 28] [0, 2] Z := EvC.of (by kernel_rfl) h
def vz59_25 (b : List Int) (b_n b_c : Nat) (at_ n v : Int) (v10l c : Nat) (v11 v12 : Int) (h2 : List Int) (x2 : Nat) : Prop := vz59_24 b b_n b_c at_ n v v10l c v11 v12 h2 x2
theorem pz59_25 (b : List Int) (b_n b_c : Nat) (at_ n v : Int) (hK : ∀ cap0 : Nat, b_n <= cap0 -> Kf (.tuple [.slice ⟨1, 0, 0, 1⟩ b_n cap0, .int .i64 (putE b_n at_ n v)]) (Ya8 b_n b at_ n v cap0)) (v10l c : Nat) (v11 v12 : Int) (h2 : List Int) (x2 : Nat) (h : vz59_25 b b_n b_c at_ n v v10l c v11 v12 h2 x2) : SemL Try.prog w0 fp ρi 1 94 [cz59_n7, cz59_n8, (.seq cz59_n10 cz59_n11)] (Ya9 at_ n v v10l c v11 v12) (Ya6 b_n b v10l h2 x2) (kkz59_1 w0 fp ρi Kf b b_n b_c at_ n v v10l c h2 x2 v11 v12) :=
  L_regE hGqPut (rz59_25 b b_n b_c at_ n v v10l c v11 v12 h2 x2 _ (pz59_24 b b_n b_c at_ n v hK v10l c v11 v12 h2 x2 h))
def vz59_26 (b : List Int) (b_n b_c : Nat) (at_ n v : Int) (v10l c : Nat) (h2 : List Int) (x2 : Nat) : Prop := (0 <= (0 : Int) /\ (0 : Int) <= n /\ v = v / 2 ^ (0 : Int).toNat) /\ (∀ (v11 v12 : Int), (0 <= v12 /\ v12 <= n /\ v11 = v / 2 ^ v12.toNat) -> (vz59_25 b b_n b_c at_ n v v10l c v11 v12 h2 x2))
abbrev Ya20 (x0 x1 x2 : Int) (x3 x4 : Nat) : Env := [(1, some (.int .i64 x0)), (2, some (.int .i64 x1)), (3, some (.int .u64 x2)), (10, some (.slice ⟨2, 0, 0, 1⟩ x3 x4)), (11, some (.int .u64 x2)), (12, some (.int .i64 0))]
theorem pz59_26 (b : List Int) (b_n b_c : Nat) (at_ n v : Int) (hK : ∀ cap0 : Nat, b_n <= cap0 -> Kf (.tuple [.slice ⟨1, 0, 0, 1⟩ b_n cap0, .int .i64 (putE b_n at_ n v)]) (Ya8 b_n b at_ n v cap0)) (v10l c : Nat) (h2 : List Int) (x2 : Nat) (h : vz59_26 b b_n b_c at_ n v v10l c h2 x2) : SemL Try.prog w0 fp ρi 1 94 [cz59_n12] (Ya20 at_ n v v10l c) (Ya6 b_n b v10l h2 x2) (kkz59_0 w0 fp ρi Kf b b_n b_c at_ n v) :=
  L_loop (ivz59_1 b b_n b_c at_ n v v10l c h2 x2) (muz59_1 b b_n b_c at_ n v v10l c h2 x2) (liz59_1 b b_n b_c at_ n v v10l c h2 x2) (ljz59_1 b b_n b_c at_ n v v10l c h2 x2) ⟨(v, 0), tau [], h.1, (sub_tau' [] [0, 2] rfl rfl (esc pbd (esc pbd (esc pbd (esc bsl (esc pbd (esc pbd envSub_nil)))))) (hsc pcs (hsc pcs heapSub_nil)) (by kernel_rfl) rfl)⟩ (fun s => match s with | (v11, v12) => fun hi => (L_seq (L_seq (pz59_25 b b_n b_c at_ n v hK v10l c v11 v12 h2 x2 (h.2 v11 v12 hi)))))
def vz59_27 (b : List Int) (b_n b_c : Nat) (at_ n v : Int) (v10l c : Nat) (h2 : List Int) (x2 : Nat) : Prop := vz59_26 b b_n b_c at_ n v v10l c h2 x2
theorem pz59_27 (b : List Int) (b_n b_c : Nat) (at_ n v : Int) (hK : ∀ cap0 : Nat, b_n <= cap0 -> Kf (.tuple [.slice ⟨1, 0, 0, 1⟩ b_n cap0, .int .i64 (putE b_n at_ n v)]) (Ya8 b_n b at_ n v cap0)) (v10l c : Nat) (h2 : List Int) (x2 : Nat) (h : vz59_27 b b_n b_c at_ n v v10l c h2 x2) : SemL Try.prog w0 fp ρi 1 94 [cz59_n13, (.seq (.seq cz59_n14 cz59_n16) (.seq (.seq cz59_n17 cz59_n32) (.seq cz59_n33 .ret)))] (Ya20 at_ n v v10l c) (Ya6 b_n b v10l h2 x2) (fnK RqPut 1 Kf) :=
  L_block (pz59_26 b b_n b_c at_ n v hK v10l c h2 x2 h)
abbrev Ya21 (x0 x1 x2 : Int) (x3 x4 : Nat) : Env := [(1, some (.int .i64 x0)), (2, some (.int .i64 x1)), (3, some (.int .u64 x2)), (10, some (.slice ⟨2, 0, 0, 1⟩ x3 x4)), (11, some (.int .u64 x2))]
theorem rz59_28 (b : List Int) (b_n b_c : Nat) (at_ n v : Int) (v10l c : Nat) (h2 : List Int) (x2 : Nat) (Z : Env -> Heap -> Prop) (h : Z (Ya20 at_ n v v10l c) (Ya6 b_n b v10l h2 x2)) : EvC GqPut cz59_n6 (Ya21 at_ n v v10l c) (Ya6 b_n b v10l h2 x2) [1, 2, 3, 10, 11, 12] [0, 2] Z := EvC.of (by kernel_rfl) h
def vz59_28 (b : List Int) (b_n b_c : Nat) (at_ n v : Int) (v10l c : Nat) (h2 : List Int) (x2 : Nat) : Prop := vz59_27 b b_n b_c at_ n v v10l c h2 x2
theorem pz59_28 (b : List Int) (b_n b_c : Nat) (at_ n v : Int) (hK : ∀ cap0 : Nat, b_n <= cap0 -> Kf (.tuple [.slice ⟨1, 0, 0, 1⟩ b_n cap0, .int .i64 (putE b_n at_ n v)]) (Ya8 b_n b at_ n v cap0)) (v10l c : Nat) (h2 : List Int) (x2 : Nat) (h : vz59_28 b b_n b_c at_ n v v10l c h2 x2) : SemL Try.prog w0 fp ρi 1 94 [cz59_n6, cz59_n13, (.seq (.seq cz59_n14 cz59_n16) (.seq (.seq cz59_n17 cz59_n32) (.seq cz59_n33 .ret)))] (Ya21 at_ n v v10l c) (Ya6 b_n b v10l h2 x2) (fnK RqPut 1 Kf) :=
  L_regE hGqPut (rz59_28 b b_n b_c at_ n v v10l c h2 x2 _ (pz59_27 b b_n b_c at_ n v hK v10l c h2 x2 h))
theorem rz59_29 (b : List Int) (b_n b_c : Nat) (at_ n v : Int) (v10l c : Nat) (h2 : List Int) (x2 : Nat) (Z : Env -> Heap -> Prop) (h : Z (Ya21 at_ n v v10l c) (Ya6 b_n b v10l h2 x2)) : EvC GqPut cz59_n5 (Ya17 at_ n v v10l c) (Ya6 b_n b v10l h2 x2) [1, 2, 3, 10, 11] [0, 2] Z := EvC.of (by kernel_rfl) h
def vz59_29 (b : List Int) (b_n b_c : Nat) (at_ n v : Int) (v10l c : Nat) (h2 : List Int) (x2 : Nat) : Prop := vz59_28 b b_n b_c at_ n v v10l c h2 x2
theorem pz59_29 (b : List Int) (b_n b_c : Nat) (at_ n v : Int) (hK : ∀ cap0 : Nat, b_n <= cap0 -> Kf (.tuple [.slice ⟨1, 0, 0, 1⟩ b_n cap0, .int .i64 (putE b_n at_ n v)]) (Ya8 b_n b at_ n v cap0)) (v10l c : Nat) (h2 : List Int) (x2 : Nat) (h : vz59_29 b b_n b_c at_ n v v10l c h2 x2) : SemL Try.prog w0 fp ρi 1 94 [cz59_n5, (.seq (.seq cz59_n6 cz59_n13) (.seq (.seq cz59_n14 cz59_n16) (.seq (.seq cz59_n17 cz59_n32) (.seq cz59_n33 .ret))))] (Ya17 at_ n v v10l c) (Ya6 b_n b v10l h2 x2) (fnK RqPut 1 Kf) :=
  L_regE hGqPut (rz59_29 b b_n b_c at_ n v v10l c h2 x2 _ (L_seq (L_seq (pz59_28 b b_n b_c at_ n v hK v10l c h2 x2 h))))
def vz59_30 (b : List Int) (b_n b_c : Nat) (at_ n v : Int) (v10l c : Nat) (h2 : List Int) (x2 : Nat) : Prop := ((!(thereB b_n at_ n)) = true -> (vz59_0 b b_n b_c at_ n v v10l c h2 x2)) /\ ((!(thereB b_n at_ n)) = false -> (vz59_29 b b_n b_c at_ n v v10l c h2 x2))
abbrev Ya22 (x0 x1 x2 : Int) (x3 x4 x5 : Nat) : Env := [(1, some (.int .i64 x0)), (2, some (.int .i64 x1)), (3, some (.int .u64 x2)), (10, some (.slice ⟨2, 0, 0, 1⟩ x3 x4)), (23, some (.bool (!(thereB x5 x0 x1))))]
theorem pz59_30 (b : List Int) (b_n b_c : Nat) (at_ n v : Int) (hK : ∀ cap0 : Nat, b_n <= cap0 -> Kf (.tuple [.slice ⟨1, 0, 0, 1⟩ b_n cap0, .int .i64 (putE b_n at_ n v)]) (Ya8 b_n b at_ n v cap0)) (v10l c : Nat) (h2 : List Int) (x2 : Nat) (h : vz59_30 b b_n b_c at_ n v v10l c h2 x2) : SemL Try.prog w0 fp ρi 1 94 [cz59_n4, (.seq cz59_n5 (.seq (.seq cz59_n6 cz59_n13) (.seq (.seq cz59_n14 cz59_n16) (.seq (.seq cz59_n17 cz59_n32) (.seq cz59_n33 .ret)))))] (Ya22 at_ n v v10l c b_n) (Ya6 b_n b v10l h2 x2) (fnK RqPut 1 Kf) :=
  L_cond (q := (!(thereB b_n at_ n))) (by kernel_rfl) (fun hq => (L_seq (lpk [10] [0, 2] (pz59_0 b b_n b_c at_ n v hK v10l c h2 x2 (h.1 hq))))) (fun hq => (L_skip (lpk [1, 2, 3, 10] [0, 2] (L_seq (pz59_29 b b_n b_c at_ n v hK v10l c h2 x2 (h.2 hq))))))
theorem rz59_31 (b : List Int) (b_n b_c : Nat) (at_ n v : Int) (v10l c : Nat) (h2 : List Int) (x2 : Nat) (Z : Env -> Heap -> Prop) (h : (((0 + b_n) <= b_n)) /\ (((b_n : Nat) = b_n) /\ (b_n <= 1000000 /\ I64 at_ /\ I64 n)) /\ Z (Ya22 at_ n v v10l c b_n) (Ya6 b_n b v10l h2 x2)) : EvC GqPut cz59_n2 [(0, some (.slice ⟨0, 0, 0, 1⟩ b_n b_c)), (1, some (.int .i64 at_)), (2, some (.int .i64 n)), (3, some (.int .u64 v)), (10, some (.slice ⟨2, 0, 0, 1⟩ v10l c))] (Ya6 b_n b v10l h2 x2) [1, 2, 3, 10, 23] [0, 2] Z := EvC.of (by kernel_rfl) h
def vz59_31 (b : List Int) (b_n b_c : Nat) (at_ n v : Int) (v10l c : Nat) (h2 : List Int) (x2 : Nat) : Prop := (((0 + b_n) <= b_n)) /\ (((b_n <= 1000000 /\ I64 at_ /\ I64 n)) /\ (vz59_30 b b_n b_c at_ n v v10l c h2 x2))
theorem pz59_31 (b : List Int) (b_n b_c : Nat) (at_ n v : Int) (hK : ∀ cap0 : Nat, b_n <= cap0 -> Kf (.tuple [.slice ⟨1, 0, 0, 1⟩ b_n cap0, .int .i64 (putE b_n at_ n v)]) (Ya8 b_n b at_ n v cap0)) (v10l c : Nat) (h2 : List Int) (x2 : Nat) (h : vz59_31 b b_n b_c at_ n v v10l c h2 x2) : SemL Try.prog w0 fp ρi 1 94 [cz59_n2, cz59_n4, (.seq cz59_n5 (.seq (.seq cz59_n6 cz59_n13) (.seq (.seq cz59_n14 cz59_n16) (.seq (.seq cz59_n17 cz59_n32) (.seq cz59_n33 .ret)))))] [(0, some (.slice ⟨0, 0, 0, 1⟩ b_n b_c)), (1, some (.int .i64 at_)), (2, some (.int .i64 n)), (3, some (.int .u64 v)), (10, some (.slice ⟨2, 0, 0, 1⟩ v10l c))] (Ya6 b_n b v10l h2 x2) (fnK RqPut 1 Kf) :=
  L_regE hGqPut (rz59_31 b b_n b_c at_ n v v10l c h2 x2 _ ⟨h.1, ⟨⟨rfl, h.2.1⟩, (pz59_30 b b_n b_c at_ n v hK v10l c h2 x2 h.2.2)⟩⟩)
abbrev Ya23 (x0 x1 : Nat) (x2 x3 x4 : Int) : Env := [(0, some (.slice ⟨0, 0, 0, 1⟩ x0 x1)), (1, some (.int .i64 x2)), (2, some (.int .i64 x3)), (3, some (.int .u64 x4))]
theorem rz59_32 (b : List Int) (b_n b_c : Nat) (at_ n v : Int) (Z : Env -> Heap -> Prop) (h : (((0 + b_n) <= b_n)) /\ ((0 = 0)) /\ ((List.length ([] : List Int) = 0)) /\ ((0 = 0)) /\ (((0 + b_n) <= 17592186044416)) /\ ∀ (c : Nat), (0 + b_n) <= c -> Z [(0, some (.slice ⟨0, 0, 0, 1⟩ b_n b_c)), (1, some (.int .i64 at_)), (2, some (.int .i64 n)), (3, some (.int .u64 v)), (10, some (.slice ⟨2, 0, 0, 1⟩ (0 + b_n) c))] ⟨3, [(0, some ⟨false, [.ints .u8 b_n b], 0⟩), (2, some ⟨true, [.ints .u8 (0 + b_n) (List.take b_n b)], (c - (0 + b_n))⟩)]⟩) : EvC GqPut cz59_n1 (Ya23 b_n b_c at_ n v) (Ya0 b_n b) [0, 1, 2, 3, 10] [0, 2] Z := EvC.of (by kernel_rfl) h
def vz59_32 (b : List Int) (b_n b_c : Nat) (at_ n v : Int) : Prop := (((0 + b_n) <= b_n)) /\ ((((0 + b_n) <= 17592186044416)) /\ (∀ (c : Nat), ((0 + b_n) <= c) -> (∀ v10l : Nat, v10l = (0 + b_n) -> ∀ h2 : List Int, h2 = (List.take b_n b) -> ∀ x2 : Nat, x2 = (c - (0 + b_n)) -> vz59_31 b b_n b_c at_ n v v10l c h2 x2)))
theorem pz59_32 (b : List Int) (b_n b_c : Nat) (at_ n v : Int) (hK : ∀ cap0 : Nat, b_n <= cap0 -> Kf (.tuple [.slice ⟨1, 0, 0, 1⟩ b_n cap0, .int .i64 (putE b_n at_ n v)]) (Ya8 b_n b at_ n v cap0)) (h : vz59_32 b b_n b_c at_ n v) : SemL Try.prog w0 fp ρi 1 94 [cz59_n1, (.seq (.seq cz59_n2 cz59_n4) (.seq cz59_n5 (.seq (.seq cz59_n6 cz59_n13) (.seq (.seq cz59_n14 cz59_n16) (.seq (.seq cz59_n17 cz59_n32) (.seq cz59_n33 .ret))))))] (Ya23 b_n b_c at_ n v) (Ya0 b_n b) (fnK RqPut 1 Kf) :=
  L_regE hGqPut (rz59_32 b b_n b_c at_ n v _ ⟨h.1, ⟨rfl, ⟨(by simp), ⟨rfl, ⟨h.2.1, (fun c h_c_0 => (L_seq (L_seq (pz59_31 b b_n b_c at_ n v hK (0 + b_n) c (List.take b_n b) (c - (0 + b_n)) ((((h.2.2 c h_c_0) (0 + b_n) rfl) (List.take b_n b) rfl) (c - (0 + b_n)) rfl)))))⟩⟩⟩⟩⟩)
theorem rz59_33 (b : List Int) (b_n b_c : Nat) (at_ n v : Int) (Z : Env -> Heap -> Prop) (h : Z (Ya23 b_n b_c at_ n v) (Ya0 b_n b)) : EvC GqPut cz59_n0 (Ya23 b_n b_c at_ n v) (Ya0 b_n b) [0, 1, 2, 3] [0] Z := EvC.of (by kernel_rfl) h
def vz59_33 (b : List Int) (b_n b_c : Nat) (at_ n v : Int) : Prop := vz59_32 b b_n b_c at_ n v
theorem pz59_33 (b : List Int) (b_n b_c : Nat) (at_ n v : Int) (hK : ∀ cap0 : Nat, b_n <= cap0 -> Kf (.tuple [.slice ⟨1, 0, 0, 1⟩ b_n cap0, .int .i64 (putE b_n at_ n v)]) (Ya8 b_n b at_ n v cap0)) (h : vz59_33 b b_n b_c at_ n v) : SemL Try.prog w0 fp ρi 1 94 [cz59_n0, (.seq cz59_n1 (.seq (.seq cz59_n2 cz59_n4) (.seq cz59_n5 (.seq (.seq cz59_n6 cz59_n13) (.seq (.seq cz59_n14 cz59_n16) (.seq (.seq cz59_n17 cz59_n32) (.seq cz59_n33 .ret)))))))] (Ya23 b_n b_c at_ n v) (Ya0 b_n b) (fnK RqPut 1 Kf) :=
  L_regE hGqPut (rz59_33 b b_n b_c at_ n v _ (L_seq (pz59_32 b b_n b_c at_ n v hK h)))
def vcqPut (b : List Int) (b_n b_c : Nat) (at_ n v : Int) : Prop := vz59_33 b b_n b_c at_ n v
theorem wqPut (b : List Int) (b_n b_c : Nat) (at_ n v : Int) (hK : ∀ cap0 : Nat, b_n <= cap0 -> Kf (.tuple [.slice ⟨1, 0, 0, 1⟩ b_n cap0, .int .i64 (putE b_n at_ n v)]) (Ya8 b_n b at_ n v cap0)) (h : vcqPut b b_n b_c at_ n v) : SemL Try.prog w0 fp ρi 1 94 [cqPut] (Ya23 b_n b_c at_ n v) (Ya0 b_n b) (fnK RqPut 1 Kf) :=
  (L_seq (pz59_33 b b_n b_c at_ n v hK h))
end
theorem okqPut (b : List Int) (b_n b_c : Nat) (at_ n v : Int) (hpre : (List.length b = b_n /\ b_n <= b_c /\ b_n <= 1000000 /\ Byt b /\ I64 at_ /\ I64 n /\ 0 <= v /\ v < 2 ^ 64)) : vcqPut b b_n b_c at_ n v := by
  unfold vcqPut vz59_33 vz59_32 vz59_31 vz59_30 vz59_29 vz59_28 vz59_27 vz59_26 vz59_25 vz59_24 vz59_23 vz59_22 vz59_21 vz59_20 vz59_19 vz59_18 vz59_17 vz59_16 vz59_15 vz59_14 vz59_13 vz59_12 vz59_11 vz59_10 vz59_9 vz59_8 vz59_7 vz59_6 vz59_5 vz59_4 vz59_3 vz59_2 vz59_1 vz59_0
  obtain ⟨h1, h2, h3, h4, h5, h6, h7⟩ := hpre
  have h56 := And.intro h5 h6
  unfold I64 at h56
  refine ⟨by omega, by omega, fun c hc => ?_⟩
  rintro v10l hv h2' hh2 x2 rfl
  rw [Nat.zero_add] at hv
  subst hv
  rw [takeAll' h1] at hh2
  subst hh2
  rw [Nat.zero_add] at hc ⊢
  refine ⟨by omega, ⟨h3, h5, h6⟩, fun hf => ?_, fun hf => ?_⟩
  · have hf : ¬ thereB v10l at_ n = true := by simpa using hf
    have e1 : putE v10l at_ n v = 2 := by unfold putE; rw [if_neg hf]
    have e2 : putL h2' at_ n v = h2' := by unfold putL; rw [h1, e1]; rfl
    rw [e1, e2]
    exact ⟨rfl, rfl, rfl, rfl, rfl, hc⟩
  · have hf : thereB v10l at_ n = true := by simpa using hf
    have hg := thereB_iff.1 hf
    refine ⟨⟨by omega, hg.2.1, by simp⟩, ?_⟩
    rintro v11 v12 ⟨i0, i1, rfl⟩
    have hh := half_u64 (i := v12.toNat) h7
    refine ⟨fun hlt => ?_, fun hge => ?_⟩
    · have hlt := of_decide_eq_true hlt
      rintro v111 rfl
      have w : IntKind.i64.wrap (v12 + 1) = v12 + 1 := by rw [wi64]; omega
      rw [w, hh.1, show (v12 + 1).toNat = v12.toNat + 1 by omega]
      exact ⟨⟨by omega, by omega, rfl⟩, by omega⟩
    · have hge := of_decide_eq_false hge
      have en : v12 = n := by omega
      subst en
      have hp : (0 : Int) < 2 ^ v12.toNat := Int.pow_pos (by omega)
      refine ⟨fun h => ?_, fun h => ?_⟩
      · have h : v / 2 ^ v12.toNat ≠ 0 := by simpa using h
        have hv : ¬ v < 2 ^ v12.toNat := fun hv => h (Int.ediv_eq_zero_of_lt h7.1 hv)
        have e1 : putE v10l at_ v12 v = 1 := by unfold putE; rw [if_pos hf, if_neg hv]
        have e2 : putL h2' at_ v12 v = h2' := by unfold putL; rw [h1, e1]; rfl
        rw [e1, e2]
        exact ⟨rfl, rfl, rfl, rfl, rfl, hc⟩
      · have h : v / 2 ^ v12.toNat = 0 := by simpa using h
        have hv : v < 2 ^ v12.toNat := by
          have h8 := Int.emod_add_mul_ediv v (2 ^ v12.toNat)
          have h9 := Int.emod_lt_of_pos v hp
          rw [h, Int.mul_zero, Int.add_zero] at h8
          omega
        have e1 : putE v10l at_ v12 v = 0 := by unfold putE; rw [if_pos hf, if_pos hv]
        have e2 : putL h2' at_ v12 v = setB h2' at_.toNat v12.toNat v := by unfold putL; rw [h1, e1]; rfl
        rw [e1, e2]
        clear h hh
        refine ⟨⟨by omega, hg.2.1, by simp, putI_zero h4⟩, ?_⟩
        rintro v3 v13 hx ⟨j0, j1, rfl, hI⟩
        have hh := half_u64 (i := v13.toNat) h7
        have lx : hx.length = v10l := hI.1.trans h1
        refine ⟨fun hlt => ?_, fun hge => ?_⟩
        · have hlt := of_decide_eq_true hlt
          rintro v14 hw v31 rfl
          have hw : v14 = v / 2 ^ v13.toNat % 2 := by rw [hw, Int.tmod_eq_emod_of_nonneg hh.2.1]; omega
          have w1 : IntKind.i64.wrap (at_ + v13) = at_ + v13 := by rw [wi64]; omega
          have w2 : IntKind.i64.wrap (v13 + 1) = v13 + 1 := by rw [wi64]; omega
          have w3 : IntKind.i64.wrap ((at_ + v13) / 8) = (at_ + v13) / 8 := by rw [wi64]; omega
          rw [w1, w2, Int.tmod_eq_emod_of_nonneg (by omega : 0 <= at_ + v13), Int.tdiv_eq_ediv_of_nonneg (by omega : 0 <= at_ + v13), w3, Nat.zero_add, Nat.zero_add]
          refine ⟨by omega, by omega, by omega, ?_⟩
          rintro v15 hv15
          rw [p2tab (by omega)] at hv15
          obtain ⟨s1, s2, s3⟩ := putI_step (K := (at_ + v13).toNat) hI (by omega) hw (by omega)
          rw [show (at_ + v13).toNat / 8 = ((at_ + v13) / 8).toNat by omega, show (at_ + v13).toNat % 8 = ((at_ + v13) % 8).toNat by omega, <- hv15] at s1 s2
          rw [hh.1, show (v13 + 1).toNat = v13.toNat + 1 by omega]
          rw [takeAll' lx]
          have ii := fun (hy : List Int) (hyp : PutI h2' at_.toNat v (v13.toNat + 1) hy) => (⟨⟨by omega, by omega, rfl, hyp⟩, by omega⟩ : (0 <= v13 + 1 /\ v13 + 1 <= v12 /\ v / 2 ^ (v13.toNat + 1) = v / 2 ^ (v13.toNat + 1) /\ PutI h2' at_.toNat v (v13.toNat + 1) hy) /\ (v12 - (v13 + 1)).toNat < (v12 - v13).toNat)
          have o01 : v14 = 0 ∨ v14 = 1 := by omega
          have b01 := bitB_01 hx (at_ + v13).toNat
          have r0 : 0 <= at_ + v13 /\ at_ + v13 < 8 * v10l := by omega
          have r1 : 0 <= (at_ + v13) / 8 /\ (at_ + v13) / 8 < v10l /\ ((at_ + v13) / 8).toNat < v10l := by omega
          refine ⟨by omega, ⟨lx, hc, h3, hI.2.1, r0.1, r0.2⟩, fun h => ?_, fun h => ?_⟩
          · have h : bitB hx (at_ + v13).toNat = 1 /\ v14 = 0 := by simpa using h
            have p := s1 h.1 h.2
            refine ⟨r1.1, r1.2.1, r1.2.2, r1.1, r1.2.1, r1.2.2, by omega, ?_⟩
            rintro hy rfl
            have ly := p.1.trans h1
            rw [takeAll' ly]
            refine ⟨by omega, ⟨ly, hc, h3, p.2.1, r0.1, r0.2⟩, fun g => ?_, fun _ => ii _ p⟩
            rw [h.2] at g
            simp at g
          · refine ⟨by omega, ⟨lx, hc, h3, hI.2.1, r0.1, r0.2⟩, fun g => ?_, fun g => ?_⟩
            · have g : bitB hx (at_ + v13).toNat = 0 /\ v14 = 1 := by simpa using g
              refine ⟨r1.1, r1.2.1, r1.2.2, r1.1, r1.2.1, r1.2.2, by omega, ?_⟩
              rintro hy rfl
              exact ii _ (s2 g.1 g.2)
            · refine ii _ (s3 ?_)
              simp only [Bool.and_eq_false_iff, beq_eq_false_iff_ne, ne_eq] at h g
              omega
        · have hge := of_decide_eq_false hge
          have en : v13 = v12 := by omega
          subst en
          exact ⟨rfl, rfl, rfl, putI_end hI (by omega), rfl, hc⟩
theorem sqPut : Sound Try.prog 59 (gS DqPut) := by
  refine fn_soundA cqPut_fits ?_
  intro args H K h
  obtain ⟨pre, out, hD, hpre, hK⟩ := gS_inv h
  unfold DqPut at hD
  split at hD
  · cases hD
    obtain ⟨rfl, hpre⟩ := hpre
    exact ⟨rfl, fun w0 fp ρi => wqPut _ _ _ _ _ _ hK (okqPut _ _ _ _ _ _ hpre)⟩
  · cases hD
def DqGet : GSpec := fun args H => match args, H with
  | [.slice ⟨0, 0, 0, 1⟩ b_n b_c, .int .i64 at_, .int .i64 n], ⟨1, [(0, some ⟨false, [.ints .u8 b_m b], 0⟩)]⟩ => some (b_m = b_n /\ (List.length b = b_n /\ b_n <= b_c /\ b_n <= 1000000 /\ Byt b /\ I64 at_ /\ I64 n), fun K => K (.tuple [.int .u64 (gotL b at_ n), .int .i64 (gotE b_n at_ n)]) ⟨1, [(0, some ⟨false, [.ints .u8 b_n b], 0⟩)]⟩)
  | _, _ => none
def conqGet : Con := ⟨58, gS DqGet, [], [], []⟩
def cz58_n0 : ACode := .reg (.op (some 6) (.mov (.cn (.int .u64 0))) (.op (some 7) (.mov (.cn (.int .i64 0))) .nil))
def cz58_n1 : ACode := .reg (.op (some 10) (.mov (.tm 0)) (.op (some 11) (.mov (.tm 1)) (.op (some 12) (.mov (.tm 2)) (.op (some 13) (.call 71 [(.tm 10), (.tm 11), (.tm 12)]) (.op (some 14) (.not (.tm 13)) .nil)))))
def cz58_n2 : ACode := .reg (.op (some 6) (.mov (.cn (.int .u64 0))) (.op (some 7) (.mov (.cn (.int .i64 2))) .nil))
def cz58_n3 : ACode := .cond (.tm 14) (.seq cz58_n2 .ret) .skip
def cz58_n4 : ACode := .reg (.op (some 8) (.mov (.cn (.int .u64 0))) .nil)
def cz58_n5 : ACode := .reg (.op (some 15) (.mov (.tm 2)) (.op (some 16) (.bin .sub (.tm 15) (.cn (.int .i64 1))) (.op (some 9) (.mov (.tm 16)) .nil)))
def cz58_n6 : ACode := .reg (.op (some 17) (.mov (.tm 9)) (.op (some 18) (.bin .geq (.tm 17) (.cn (.int .i64 0))) .nil))
def cz58_n7 : ACode := .cond (.tm 18) .skip (.exit 0)
def cz58_n8 : ACode := .reg (.op (some 21) (.mov (.tm 8)) (.op (some 22) (.bin .mul (.cn (.int .u64 2)) (.tm 21)) (.op (some 23) (.mov (.tm 0)) (.op (some 24) (.mov (.tm 1)) (.op (some 25) (.mov (.tm 9)) (.op (some 26) (.bin .add (.tm 24) (.tm 25)) (.op (some 27) (.call 72 [(.tm 23), (.tm 26)]) (.op (some 28) (.conv .u64 (.tm 27)) (.op (some 29) (.bin .add (.tm 22) (.tm 28)) (.op (some 8) (.mov (.tm 29)) .nil))))))))))
def cz58_n9 : ACode := .block 1 cz58_n8
def cz58_n10 : ACode := .reg (.op (some 19) (.mov (.tm 9)) (.op (some 20) (.bin .sub (.tm 19) (.cn (.int .i64 1))) (.op (some 9) (.mov (.tm 20)) .nil)))
def cz58_n11 : ACode := .loop (.seq (.seq cz58_n6 cz58_n7) (.seq cz58_n9 cz58_n10))
def cz58_n12 : ACode := .block 0 cz58_n11
def cz58_n13 : ACode := .reg (.op (some 30) (.mov (.tm 8)) (.op (some 6) (.mov (.tm 30)) (.op (some 7) (.mov (.cn (.int .i64 0))) .nil)))
def cqGet : ACode := (.seq cz58_n0 (.seq (.seq cz58_n1 cz58_n3) (.seq cz58_n4 (.seq (.seq cz58_n5 cz58_n12) (.seq cz58_n13 .ret)))))
def RqGet : Res := .many [.tm 6, .tm 7]
theorem cqGet_fits : fnFits Try.prog 58 3 31 cqGet RqGet = true := by kernel_rfl
def GqGet : Calls' := withP [] [conq1Fits, conq1Bit]
theorem hGqGet : CallOk Try.prog GqGet := withP_ok trivial ⟨sq1Fits, sq1Bit, trivial⟩
section
variable {w0 : World} {fp : Nat -> Nat -> Prop} {ρi : Rho} {Kf : SVal -> Heap -> Prop}
abbrev Ya24 : Env := [(6, some (.int .u64 0)), (7, some (.int .i64 2))]
theorem rz58_0 (b : List Int) (b_n b_c : Nat) (at_ n : Int) (Z : Env -> Heap -> Prop) (h : Z Ya24 (Ya0 b_n b)) : EvC GqGet cz58_n2 [] (Ya0 b_n b) [6, 7] [0] Z := EvC.of (by kernel_rfl) h
theorem rtz58_0 (b : List Int) (b_n b_c : Nat) (at_ n : Int) : RetC RqGet Ya24 (Ya0 b_n b) (.tuple [.int .u64 0, .int .i64 2]) := RetC.of (fun Z => by kernel_rfl)
def vz58_0 (b : List Int) (b_n b_c : Nat) (at_ n : Int) : Prop := (0 = (gotL b at_ n)) /\ (2 = (gotE b_n at_ n))
abbrev Ya25 (x0 : SVal -> Heap -> Prop) (x1 : List Int) (x2 x3 : Int) (x4 : Nat) : Prop := x0 (.tuple [.int .u64 (gotL x1 x2 x3), .int .i64 (gotE x4 x2 x3)]) ⟨1, [(0, some ⟨false, [.ints .u8 x4 x1], 0⟩)]⟩
theorem pz58_0 (b : List Int) (b_n b_c : Nat) (at_ n : Int) (hK : (Ya25 Kf b at_ n b_n)) (h : vz58_0 b b_n b_c at_ n) : SemL Try.prog w0 fp ρi 1 31 [cz58_n2, .ret, (.seq cz58_n4 (.seq (.seq cz58_n5 cz58_n12) (.seq cz58_n13 .ret)))] [] (Ya0 b_n b) (fnK RqGet 1 Kf) :=
  L_regE hGqGet (rz58_0 b b_n b_c at_ n _ (L_retE (R := RqGet) (m := 1) (Kf := Kf) (fun _ _ h => h) (rtz58_0 b b_n b_c at_ n) (ret_of0 (Eq.mpr (cg2 (fun (z1 z2 : Int) => Ret0 1 Kf (.tuple [.int .u64 z1, .int .i64 z2]) (Ya0 b_n b)) h.1 h.2) (ret0_tau [] [0] rfl (by kernel_rfl) rfl (bd_tuple (bdL_cons pbd (bdL_cons pbd bdL_nil))) (hsc pcs heapSub_nil) rfl (by kernel_rfl) (hK))))))
def kkz58_0 (w0 : World) (fp : Nat -> Nat -> Prop) (ρi : Rho) (Kf : SVal -> Heap -> Prop) (b : List Int) (b_n b_c : Nat) (at_ n : Int) : Cont := blockK 0 (fun e H => SemL Try.prog w0 fp ρi 1 31 [(.seq cz58_n13 .ret)] e H (fnK RqGet 1 Kf)) (fnK RqGet 1 Kf)
def ivz58_1 (b : List Int) (b_n b_c : Nat) (at_ n : Int) : Int × Int -> Prop := fun s => match s with | (v8, v9'1) => -1 <= v9'1 /\ v9'1 <= n - 1 /\ v8 = getB b (at_ + v9'1 + 1).toNat (n - 1 - v9'1).toNat
def muz58_1 (b : List Int) (b_n b_c : Nat) (at_ n : Int) : Int × Int -> Nat := fun s => match s with | (v8, v9'1) => ((v9'1 + 1).toNat)
def liz58_1 (b : List Int) (b_n b_c : Nat) (at_ n : Int) : Int × Int -> Env := fun s => match s with | (v8, v9'1) => [(0, some (.slice ⟨0, 0, 0, 1⟩ b_n b_c)), (1, some (.int .i64 at_)), (8, some (.int .u64 v8)), (9, some (.int .i64 v9'1))]
def ljz58_1 (b : List Int) (b_n b_c : Nat) (at_ n : Int) : Int × Int -> Heap := fun s => match s with | (v8, v9'1) => ⟨1, [(0, some ⟨false, [.ints .u8 b_n b], 0⟩)]⟩
def kkz58_1 (w0 : World) (fp : Nat -> Nat -> Prop) (ρi : Rho) (Kf : SVal -> Heap -> Prop) (b : List Int) (b_n b_c : Nat) (at_ n v8 v9'1 : Int) : Cont := loopK 1 (ivz58_1 b b_n b_c at_ n) (muz58_1 b b_n b_c at_ n) (liz58_1 b b_n b_c at_ n) (ljz58_1 b b_n b_c at_ n) (v8, v9'1) (kkz58_0 w0 fp ρi Kf b b_n b_c at_ n)
abbrev Ya26 (x0 x1 : Nat) (x2 x3 x4 : Int) : Env := [(0, some (.slice ⟨0, 0, 0, 1⟩ x0 x1)), (1, some (.int .i64 x2)), (8, some (.int .u64 x3)), (9, some (.int .i64 x4))]
theorem rz58_1 (b : List Int) (b_n b_c : Nat) (at_ n v8'1 v9'1 v8 : Int) (Z : Env -> Heap -> Prop) (h : Z [(0, some (.slice ⟨0, 0, 0, 1⟩ b_n b_c)), (1, some (.int .i64 at_)), (8, some (.int .u64 v8'1)), (9, some (.int .i64 (IntKind.i64.wrap (v9'1 - 1))))] (Ya0 b_n b)) : EvC GqGet cz58_n10 (Ya26 b_n b_c at_ v8'1 v9'1) (Ya0 b_n b) [0, 1, 8, 9] [0] Z := EvC.of (by kernel_rfl) h
def vz58_1 (b : List Int) (b_n b_c : Nat) (at_ n v8'1 v9'1 v8 : Int) : Prop := (-1 <= (IntKind.i64.wrap (v9'1 - 1)) /\ (IntKind.i64.wrap (v9'1 - 1)) <= n - 1 /\ v8'1 = getB b (at_ + (IntKind.i64.wrap (v9'1 - 1)) + 1).toNat (n - 1 - (IntKind.i64.wrap (v9'1 - 1))).toNat) /\ ((((IntKind.i64.wrap (v9'1 - 1)) + 1).toNat) < ((v9'1 + 1).toNat))
theorem pz58_1 (b : List Int) (b_n b_c : Nat) (at_ n : Int) (hK : (Ya25 Kf b at_ n b_n)) (v8'1 v9'1 v8 : Int) (h : vz58_1 b b_n b_c at_ n v8'1 v9'1 v8) : SemL Try.prog w0 fp ρi 1 31 [cz58_n10] (Ya26 b_n b_c at_ v8'1 v9'1) (Ya0 b_n b) (kkz58_1 w0 fp ρi Kf b b_n b_c at_ n v8 v9'1) :=
  L_regE hGqGet (rz58_1 b b_n b_c at_ n v8'1 v9'1 v8 _ (L_nil (loop_back (x' := (v8'1, (IntKind.i64.wrap (v9'1 - 1)))) (τ := tau []) h.1 h.2 (sub_tau' [] [0] rfl rfl (esc bsl (esc pbd (esc pbd (esc pbd envSub_nil)))) (hsc pcs heapSub_nil) (by kernel_rfl) rfl))))
def kkz58_2 (w0 : World) (fp : Nat -> Nat -> Prop) (ρi : Rho) (Kf : SVal -> Heap -> Prop) (b : List Int) (b_n b_c : Nat) (at_ n v8 v9'1 : Int) : Cont := blockK 1 (fun e H => SemL Try.prog w0 fp ρi 1 31 [cz58_n10] e H (kkz58_1 w0 fp ρi Kf b b_n b_c at_ n v8 v9'1)) (kkz58_1 w0 fp ρi Kf b b_n b_c at_ n v8 v9'1)
theorem rz58_2 (b : List Int) (b_n b_c : Nat) (at_ n v8 v9'1 : Int) (Z : Env -> Heap -> Prop) (h : (((0 + b_n) <= b_n)) /\ (((b_n : Nat) = b_n) /\ (List.length (List.take b_n b) = b_n /\ b_n <= b_c /\ b_n <= 1000000 /\ Byt (List.take b_n b) /\ 0 <= (IntKind.i64.wrap (at_ + v9'1)) /\ (IntKind.i64.wrap (at_ + v9'1)) < 8 * (b_n : Int))) /\ Z [(0, some (.slice ⟨0, 0, 0, 1⟩ b_n b_c)), (1, some (.int .i64 at_)), (8, some (.int .u64 (IntKind.u64.wrap ((IntKind.u64.wrap (2 * v8)) + (IntKind.u64.wrap (bitB (List.take b_n b) (Int.toNat (IntKind.i64.wrap (at_ + v9'1))))))))), (9, some (.int .i64 v9'1))] ⟨1, [(0, some ⟨false, [.ints .u8 b_n b], 0⟩)]⟩) : EvC GqGet cz58_n8 [(0, some (.slice ⟨0, 0, 0, 1⟩ b_n b_c)), (1, some (.int .i64 at_)), (8, some (.int .u64 v8)), (9, some (.int .i64 v9'1))] ⟨1, [(0, some ⟨false, [.ints .u8 b_n b], 0⟩)]⟩ [0, 1, 8, 9] [0] Z := EvC.of (by kernel_rfl) h
def vz58_2 (b : List Int) (b_n b_c : Nat) (at_ n v8 v9'1 : Int) : Prop := (((0 + b_n) <= b_n)) /\ (((List.length (List.take b_n b) = b_n /\ b_n <= b_c /\ b_n <= 1000000 /\ Byt (List.take b_n b) /\ 0 <= (IntKind.i64.wrap (at_ + v9'1)) /\ (IntKind.i64.wrap (at_ + v9'1)) < 8 * (b_n : Int))) /\ (∀ v8'1 : Int, v8'1 = ((IntKind.u64.wrap (2 * v8)) + (IntKind.u64.wrap (bitB (List.take b_n b) (Int.toNat (IntKind.i64.wrap (at_ + v9'1)))))) % 18446744073709551616 -> vz58_1 b b_n b_c at_ n v8'1 v9'1 v8))
theorem pz58_2 (b : List Int) (b_n b_c : Nat) (at_ n : Int) (hK : (Ya25 Kf b at_ n b_n)) (v8 v9'1 : Int) (h : vz58_2 b b_n b_c at_ n v8 v9'1) : SemL Try.prog w0 fp ρi 1 31 [cz58_n8] (Ya26 b_n b_c at_ v8 v9'1) (Ya0 b_n b) (kkz58_2 w0 fp ρi Kf b b_n b_c at_ n v8 v9'1) :=
  L_regE hGqGet (rz58_2 b b_n b_c at_ n v8 v9'1 _ ⟨h.1, ⟨⟨rfl, h.2.1⟩, (L_nil (pz58_1 b b_n b_c at_ n hK (IntKind.u64.wrap ((IntKind.u64.wrap (2 * v8)) + (IntKind.u64.wrap (bitB (List.take b_n b) (Int.toNat (IntKind.i64.wrap (at_ + v9'1))))))) v9'1 v8 (h.2.2 (IntKind.u64.wrap ((IntKind.u64.wrap (2 * v8)) + (IntKind.u64.wrap (bitB (List.take b_n b) (Int.toNat (IntKind.i64.wrap (at_ + v9'1))))))) (wrap_u64 _))))⟩⟩)
def vz58_3 (b : List Int) (b_n b_c : Nat) (at_ n v8 v9'1 : Int) : Prop := vz58_2 b b_n b_c at_ n v8 v9'1
theorem pz58_3 (b : List Int) (b_n b_c : Nat) (at_ n : Int) (hK : (Ya25 Kf b at_ n b_n)) (v8 v9'1 : Int) (h : vz58_3 b b_n b_c at_ n v8 v9'1) : SemL Try.prog w0 fp ρi 1 31 [cz58_n9, cz58_n10] (Ya26 b_n b_c at_ v8 v9'1) (Ya0 b_n b) (kkz58_1 w0 fp ρi Kf b b_n b_c at_ n v8 v9'1) :=
  L_block (pz58_2 b b_n b_c at_ n hK v8 v9'1 h)
theorem rz58_4 (b : List Int) (b_n b_c : Nat) (at_ n v8 : Int) (Z : Env -> Heap -> Prop) (h : Z [(6, some (.int .u64 v8)), (7, some (.int .i64 0))] (Ya0 b_n b)) : EvC GqGet cz58_n13 [(8, some (.int .u64 v8))] (Ya0 b_n b) [6, 7] [0] Z := EvC.of (by kernel_rfl) h
theorem rtz58_1 (b : List Int) (b_n b_c : Nat) (at_ n v8 : Int) : RetC RqGet [(6, some (.int .u64 v8)), (7, some (.int .i64 0))] (Ya0 b_n b) (.tuple [.int .u64 v8, .int .i64 0]) := RetC.of (fun Z => by kernel_rfl)
def vz58_4 (b : List Int) (b_n b_c : Nat) (at_ n v8 : Int) : Prop := (v8 = (gotL b at_ n)) /\ (0 = (gotE b_n at_ n))
theorem pz58_4 (b : List Int) (b_n b_c : Nat) (at_ n : Int) (hK : (Ya25 Kf b at_ n b_n)) (v8 : Int) (h : vz58_4 b b_n b_c at_ n v8) : SemL Try.prog w0 fp ρi 1 31 [cz58_n13, .ret] [(8, some (.int .u64 v8))] (Ya0 b_n b) (fnK RqGet 1 Kf) :=
  L_regE hGqGet (rz58_4 b b_n b_c at_ n v8 _ (L_retE (R := RqGet) (m := 1) (Kf := Kf) (fun _ _ h => h) (rtz58_1 b b_n b_c at_ n v8) (ret_of0 (Eq.mpr (cg2 (fun (z1 z2 : Int) => Ret0 1 Kf (.tuple [.int .u64 z1, .int .i64 z2]) (Ya0 b_n b)) h.1 h.2) (ret0_tau [] [0] rfl (by kernel_rfl) rfl (bd_tuple (bdL_cons pbd (bdL_cons pbd bdL_nil))) (hsc pcs heapSub_nil) rfl (by kernel_rfl) (hK))))))
def vz58_5 (b : List Int) (b_n b_c : Nat) (at_ n v8 v9'1 : Int) : Prop := ((decide (0 <= v9'1)) = true -> (vz58_3 b b_n b_c at_ n v8 v9'1)) /\ ((decide (0 <= v9'1)) = false -> (vz58_4 b b_n b_c at_ n v8))
abbrev Ya27 (x0 x1 : Nat) (x2 x3 x4 : Int) : Env := [(0, some (.slice ⟨0, 0, 0, 1⟩ x0 x1)), (1, some (.int .i64 x2)), (8, some (.int .u64 x3)), (9, some (.int .i64 x4)), (18, some (.bool (decide (0 <= x4))))]
theorem pz58_5 (b : List Int) (b_n b_c : Nat) (at_ n : Int) (hK : (Ya25 Kf b at_ n b_n)) (v8 v9'1 : Int) (h : vz58_5 b b_n b_c at_ n v8 v9'1) : SemL Try.prog w0 fp ρi 1 31 [cz58_n7, (.seq cz58_n9 cz58_n10)] (Ya27 b_n b_c at_ v8 v9'1) (Ya0 b_n b) (kkz58_1 w0 fp ρi Kf b b_n b_c at_ n v8 v9'1) :=
  L_cond (q := (decide (0 <= v9'1))) (by kernel_rfl) (fun hq => (L_skip (lpk [0, 1, 8, 9] [0] (L_seq (pz58_3 b b_n b_c at_ n hK v8 v9'1 (h.1 hq)))))) (fun hq => (L_exit (lpk [8] [0] (L_seq (pz58_4 b b_n b_c at_ n hK v8 (h.2 hq))))))
theorem rz58_6 (b : List Int) (b_n b_c : Nat) (at_ n v8 v9'1 : Int) (Z : Env -> Heap -> Prop) (h : Z (Ya27 b_n b_c at_ v8 v9'1) (Ya0 b_n b)) : EvC GqGet cz58_n6 (Ya26 b_n b_c at_ v8 v9'1) (Ya0 b_n b) [0, 1, 8, 9, 18] [0] Z := EvC.of (by kernel_rfl) h
def vz58_6 (b : List Int) (b_n b_c : Nat) (at_ n v8 v9'1 : Int) : Prop := vz58_5 b b_n b_c at_ n v8 v9'1
theorem pz58_6 (b : List Int) (b_n b_c : Nat) (at_ n : Int) (hK : (Ya25 Kf b at_ n b_n)) (v8 v9'1 : Int) (h : vz58_6 b b_n b_c at_ n v8 v9'1) : SemL Try.prog w0 fp ρi 1 31 [cz58_n6, cz58_n7, (.seq cz58_n9 cz58_n10)] (Ya26 b_n b_c at_ v8 v9'1) (Ya0 b_n b) (kkz58_1 w0 fp ρi Kf b b_n b_c at_ n v8 v9'1) :=
  L_regE hGqGet (rz58_6 b b_n b_c at_ n v8 v9'1 _ (pz58_5 b b_n b_c at_ n hK v8 v9'1 h))
def vz58_7 (b : List Int) (b_n b_c : Nat) (at_ n v9 : Int) : Prop := (-1 <= v9 /\ v9 <= n - 1 /\ (0 : Int) = getB b (at_ + v9 + 1).toNat (n - 1 - v9).toNat) /\ (∀ (v8 v9'1 : Int), (-1 <= v9'1 /\ v9'1 <= n - 1 /\ v8 = getB b (at_ + v9'1 + 1).toNat (n - 1 - v9'1).toNat) -> (vz58_6 b b_n b_c at_ n v8 v9'1))
abbrev Ya28 (x0 x1 : Nat) (x2 x3 : Int) : Env := [(0, some (.slice ⟨0, 0, 0, 1⟩ x0 x1)), (1, some (.int .i64 x2)), (8, some (.int .u64 0)), (9, some (.int .i64 x3))]
theorem pz58_7 (b : List Int) (b_n b_c : Nat) (at_ n : Int) (hK : (Ya25 Kf b at_ n b_n)) (v9 : Int) (h : vz58_7 b b_n b_c at_ n v9) : SemL Try.prog w0 fp ρi 1 31 [cz58_n11] (Ya28 b_n b_c at_ v9) (Ya0 b_n b) (kkz58_0 w0 fp ρi Kf b b_n b_c at_ n) :=
  L_loop (ivz58_1 b b_n b_c at_ n) (muz58_1 b b_n b_c at_ n) (liz58_1 b b_n b_c at_ n) (ljz58_1 b b_n b_c at_ n) ⟨(0, v9), tau [], h.1, (sub_tau' [] [0] rfl rfl (esc bsl (esc pbd (esc pbd (esc pbd envSub_nil)))) (hsc pcs heapSub_nil) (by kernel_rfl) rfl)⟩ (fun s => match s with | (v8, v9'1) => fun hi => (L_seq (L_seq (pz58_6 b b_n b_c at_ n hK v8 v9'1 (h.2 v8 v9'1 hi)))))
def vz58_8 (b : List Int) (b_n b_c : Nat) (at_ n v9 : Int) : Prop := vz58_7 b b_n b_c at_ n v9
theorem pz58_8 (b : List Int) (b_n b_c : Nat) (at_ n : Int) (hK : (Ya25 Kf b at_ n b_n)) (v9 : Int) (h : vz58_8 b b_n b_c at_ n v9) : SemL Try.prog w0 fp ρi 1 31 [cz58_n12, (.seq cz58_n13 .ret)] (Ya28 b_n b_c at_ v9) (Ya0 b_n b) (fnK RqGet 1 Kf) :=
  L_block (pz58_7 b b_n b_c at_ n hK v9 h)
abbrev Ya29 (x0 x1 : Nat) (x2 x3 : Int) : Env := [(0, some (.slice ⟨0, 0, 0, 1⟩ x0 x1)), (1, some (.int .i64 x2)), (2, some (.int .i64 x3)), (8, some (.int .u64 0))]
theorem rz58_9 (b : List Int) (b_n b_c : Nat) (at_ n : Int) (Z : Env -> Heap -> Prop) (h : Z [(0, some (.slice ⟨0, 0, 0, 1⟩ b_n b_c)), (1, some (.int .i64 at_)), (8, some (.int .u64 0)), (9, some (.int .i64 (IntKind.i64.wrap (n - 1))))] (Ya0 b_n b)) : EvC GqGet cz58_n5 (Ya29 b_n b_c at_ n) (Ya0 b_n b) [0, 1, 8, 9] [0] Z := EvC.of (by kernel_rfl) h
def vz58_9 (b : List Int) (b_n b_c : Nat) (at_ n : Int) : Prop := ∀ v9 : Int, v9 = ((n - 1) + 9223372036854775808) % 18446744073709551616 - 9223372036854775808 -> vz58_8 b b_n b_c at_ n v9
theorem pz58_9 (b : List Int) (b_n b_c : Nat) (at_ n : Int) (hK : (Ya25 Kf b at_ n b_n)) (h : vz58_9 b b_n b_c at_ n) : SemL Try.prog w0 fp ρi 1 31 [cz58_n5, cz58_n12, (.seq cz58_n13 .ret)] (Ya29 b_n b_c at_ n) (Ya0 b_n b) (fnK RqGet 1 Kf) :=
  L_regE hGqGet (rz58_9 b b_n b_c at_ n _ (pz58_8 b b_n b_c at_ n hK (IntKind.i64.wrap (n - 1)) (h (IntKind.i64.wrap (n - 1)) (wi64 _))))
theorem rz58_10 (b : List Int) (b_n b_c : Nat) (at_ n : Int) (Z : Env -> Heap -> Prop) (h : Z (Ya29 b_n b_c at_ n) (Ya0 b_n b)) : EvC GqGet cz58_n4 (Ya1 b_n b_c at_ n) (Ya0 b_n b) [0, 1, 2, 8] [0] Z := EvC.of (by kernel_rfl) h
def vz58_10 (b : List Int) (b_n b_c : Nat) (at_ n : Int) : Prop := vz58_9 b b_n b_c at_ n
theorem pz58_10 (b : List Int) (b_n b_c : Nat) (at_ n : Int) (hK : (Ya25 Kf b at_ n b_n)) (h : vz58_10 b b_n b_c at_ n) : SemL Try.prog w0 fp ρi 1 31 [cz58_n4, (.seq (.seq cz58_n5 cz58_n12) (.seq cz58_n13 .ret))] (Ya1 b_n b_c at_ n) (Ya0 b_n b) (fnK RqGet 1 Kf) :=
  L_regE hGqGet (rz58_10 b b_n b_c at_ n _ (L_seq (L_seq (pz58_9 b b_n b_c at_ n hK h))))
def vz58_11 (b : List Int) (b_n b_c : Nat) (at_ n : Int) : Prop := ((!(thereB b_n at_ n)) = true -> (vz58_0 b b_n b_c at_ n)) /\ ((!(thereB b_n at_ n)) = false -> (vz58_10 b b_n b_c at_ n))
abbrev Ya30 (x0 x1 : Nat) (x2 x3 : Int) : Env := [(0, some (.slice ⟨0, 0, 0, 1⟩ x0 x1)), (1, some (.int .i64 x2)), (2, some (.int .i64 x3)), (14, some (.bool (!(thereB x0 x2 x3))))]
theorem pz58_11 (b : List Int) (b_n b_c : Nat) (at_ n : Int) (hK : (Ya25 Kf b at_ n b_n)) (h : vz58_11 b b_n b_c at_ n) : SemL Try.prog w0 fp ρi 1 31 [cz58_n3, (.seq cz58_n4 (.seq (.seq cz58_n5 cz58_n12) (.seq cz58_n13 .ret)))] (Ya30 b_n b_c at_ n) (Ya0 b_n b) (fnK RqGet 1 Kf) :=
  L_cond (q := (!(thereB b_n at_ n))) (by kernel_rfl) (fun hq => (L_seq (lpk [] [0] (pz58_0 b b_n b_c at_ n hK (h.1 hq))))) (fun hq => (L_skip (lpk [0, 1, 2] [0] (L_seq (pz58_10 b b_n b_c at_ n hK (h.2 hq))))))
theorem rz58_12 (b : List Int) (b_n b_c : Nat) (at_ n : Int) (Z : Env -> Heap -> Prop) (h : (((0 + b_n) <= b_n)) /\ (((b_n : Nat) = b_n) /\ (b_n <= 1000000 /\ I64 at_ /\ I64 n)) /\ Z (Ya30 b_n b_c at_ n) (Ya0 b_n b)) : EvC GqGet cz58_n1 (Ya1 b_n b_c at_ n) (Ya0 b_n b) [0, 1, 2, 14] [0] Z := EvC.of (by kernel_rfl) h
def vz58_12 (b : List Int) (b_n b_c : Nat) (at_ n : Int) : Prop := (((0 + b_n) <= b_n)) /\ (((b_n <= 1000000 /\ I64 at_ /\ I64 n)) /\ (vz58_11 b b_n b_c at_ n))
theorem pz58_12 (b : List Int) (b_n b_c : Nat) (at_ n : Int) (hK : (Ya25 Kf b at_ n b_n)) (h : vz58_12 b b_n b_c at_ n) : SemL Try.prog w0 fp ρi 1 31 [cz58_n1, cz58_n3, (.seq cz58_n4 (.seq (.seq cz58_n5 cz58_n12) (.seq cz58_n13 .ret)))] (Ya1 b_n b_c at_ n) (Ya0 b_n b) (fnK RqGet 1 Kf) :=
  L_regE hGqGet (rz58_12 b b_n b_c at_ n _ ⟨h.1, ⟨⟨rfl, h.2.1⟩, (pz58_11 b b_n b_c at_ n hK h.2.2)⟩⟩)
theorem rz58_13 (b : List Int) (b_n b_c : Nat) (at_ n : Int) (Z : Env -> Heap -> Prop) (h : Z (Ya1 b_n b_c at_ n) (Ya0 b_n b)) : EvC GqGet cz58_n0 (Ya1 b_n b_c at_ n) (Ya0 b_n b) [0, 1, 2] [0] Z := EvC.of (by kernel_rfl) h
def vz58_13 (b : List Int) (b_n b_c : Nat) (at_ n : Int) : Prop := vz58_12 b b_n b_c at_ n
theorem pz58_13 (b : List Int) (b_n b_c : Nat) (at_ n : Int) (hK : (Ya25 Kf b at_ n b_n)) (h : vz58_13 b b_n b_c at_ n) : SemL Try.prog w0 fp ρi 1 31 [cz58_n0, (.seq (.seq cz58_n1 cz58_n3) (.seq cz58_n4 (.seq (.seq cz58_n5 cz58_n12) (.seq cz58_n13 .ret))))] (Ya1 b_n b_c at_ n) (Ya0 b_n b) (fnK RqGet 1 Kf) :=
  L_regE hGqGet (rz58_13 b b_n b_c at_ n _ (L_seq (L_seq (pz58_12 b b_n b_c at_ n hK h))))
def vcqGet (b : List Int) (b_n b_c : Nat) (at_ n : Int) : Prop := vz58_13 b b_n b_c at_ n
theorem wqGet (b : List Int) (b_n b_c : Nat) (at_ n : Int) (hK : (Ya25 Kf b at_ n b_n)) (h : vcqGet b b_n b_c at_ n) : SemL Try.prog w0 fp ρi 1 31 [cqGet] (Ya1 b_n b_c at_ n) (Ya0 b_n b) (fnK RqGet 1 Kf) :=
  (L_seq (pz58_13 b b_n b_c at_ n hK h))
end
theorem okqGet (b : List Int) (b_n b_c : Nat) (at_ n : Int) (hpre : (List.length b = b_n /\ b_n <= b_c /\ b_n <= 1000000 /\ Byt b /\ I64 at_ /\ I64 n)) : vcqGet b b_n b_c at_ n := by
  unfold vcqGet vz58_13 vz58_12 vz58_11 vz58_10 vz58_9 vz58_8 vz58_7 vz58_6 vz58_5 vz58_4 vz58_3 vz58_2 vz58_1 vz58_0
  obtain ⟨h1, h2, h3, h4, h5, h6⟩ := hpre
  have h56 := And.intro h5 h6
  unfold I64 at h56
  refine ⟨by omega, ⟨h3, h5, h6⟩, fun hf => ?_, fun hf => ?_⟩
  · have hf : ¬ thereB b_n at_ n = true := by simpa using hf
    unfold gotL gotE
    rw [h1, if_neg hf, if_neg hf]
    exact ⟨rfl, rfl⟩
  · have hf : thereB b_n at_ n = true := by simpa using hf
    have hg := thereB_iff.1 hf
    have e1 : gotL b at_ n = getB b at_.toNat n.toNat := by unfold gotL; rw [h1, if_pos hf]
    have e2 : gotE b_n at_ n = 0 := by unfold gotE; rw [if_pos hf]
    rw [e1, e2]
    rintro v9 e9
    have e9 : v9 = n - 1 := by omega
    subst e9
    refine ⟨⟨by omega, by omega, ?_⟩, ?_⟩
    · rw [show (n - 1 - (n - 1)).toNat = 0 by omega]; rfl
    · rintro v8 v91 ⟨g1, g2, g3⟩
      refine ⟨fun hlt => ?_, fun hge => ?_⟩
      · have hlt := of_decide_eq_true hlt
        have w1 : IntKind.i64.wrap (at_ + v91) = at_ + v91 := by rw [wi64]; omega
        rw [w1, takeAll' h1]
        refine ⟨by omega, ⟨h1, h2, h3, h4, by omega, by omega⟩, ?_⟩
        rintro v82 rfl
        have hb := bitB_01 b (at_ + v91).toNat
        have hl := getB_lt b (at_ + v91 + 1).toNat (n - 1 - v91).toNat
        have hp : (2 : Int) ^ (n - 1 - v91).toNat <= 2 ^ 63 := by exact_mod_cast Nat.pow_le_pow_right (n := 2) (by omega) (show (n - 1 - v91).toNat <= 63 by omega)
        rw [<- g3] at hl
        have w2 : IntKind.u64.wrap (2 * v8) = 2 * v8 := by rw [wrap_u64]; omega
        have w3 : IntKind.u64.wrap (bitB b (at_ + v91).toNat) = bitB b (at_ + v91).toNat := by rw [wrap_u64]; omega
        have w4 : IntKind.i64.wrap (v91 - 1) = v91 - 1 := by rw [wi64]; omega
        rw [w2, w3, w4]
        refine ⟨⟨by omega, by omega, ?_⟩, by omega⟩
        have e2 : (at_ + v91).toNat + 1 = (at_ + v91 + 1).toNat := by omega
        rw [show (at_ + (v91 - 1) + 1).toNat = (at_ + v91).toNat by omega, show (n - 1 - (v91 - 1)).toNat = (n - 1 - v91).toNat + 1 by omega, getB_cons, e2, <- g3]
        omega
      · have hge := of_decide_eq_false hge
        refine ⟨?_, rfl⟩
        rw [g3]
        congr 1 <;> omega
theorem sqGet : Sound Try.prog 58 (gS DqGet) := by
  refine fn_soundA cqGet_fits ?_
  intro args H K h
  obtain ⟨pre, out, hD, hpre, hK⟩ := gS_inv h
  unfold DqGet at hD
  split at hD
  · cases hD
    obtain ⟨rfl, hpre⟩ := hpre
    exact ⟨rfl, fun w0 fp ρi => wqGet _ _ _ _ _ hK (okqGet _ _ _ _ _ hpre)⟩
  · cases hD
end Go.Proofs.Ytggpebgigddogaa
