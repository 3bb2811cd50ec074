/- Part of the proof: SxFlatX. -/
import Derived.Test.YtinjdimejijabaaSxWordK2
import Derived.Test.YtinjdimejijabaaSxWordW2
import Derived.Test.YtinjdimejijabaaSxFlat2
import Derived.Test.YtinjdimejijabaaSxMixT
import Derived.KernelRfl
set_option linter.unusedVariables false
set_option linter.unusedSimpArgs false
set_option maxRecDepth 20000
namespace Go.Proofs.Ytinjdimejijabaa
open Go.Sx
def ZGs : ZkO := fun args H => match args, H with
  | [.agg [.one (.int .i64 p_0), .one (.int .i64 p_1), .one (.int .i64 p_2), .one (.int .i64 p_3), .one (.int .i64 p_4), .one (.int .i64 p_5), .one (.int .u64 p_6), .one (.int .i64 p_7), .one (.int .i64 p_8), .one (.int .i64 p_9), .one (.int .i64 p_10), .one (.int .i64 p_11), .one (.int .i64 p_12), .one (.int .i64 p_13), .ints .u8 p_14_n p_14, .ints .u8 p_15_n p_15]], ⟨0, []⟩ => bif Nat.beq p_14_n 16 && Nat.beq p_15_n 16 then some ((PlanV.right (PlanV.mk p_0 p_1 p_2 p_3 p_4 p_5 p_6 p_7 p_8 p_9 p_10 p_11 p_12 p_13 p_14 p_15) = true), fun K => ∀ cap0 : Nat, (32 * (Int.toNat (PlanV.all (PlanV.mk p_0 p_1 p_2 p_3 p_4 p_5 p_6 p_7 p_8 p_9 p_10 p_11 p_12 p_13 p_14 p_15)))) <= cap0 -> K (.ptr ⟨1, 0, 0, 1⟩ 47) ⟨2, [(1, some ⟨true, [.one (.int .i64 p_0), .one (.int .i64 p_1), .one (.int .i64 p_2), .one (.int .i64 p_3), .one (.int .i64 p_4), .one (.int .i64 p_5), .one (.int .u64 p_6), .one (.int .i64 p_7), .one (.int .i64 p_8), .one (.int .i64 p_9), .one (.int .i64 p_10), .one (.int .i64 p_11), .one (.int .i64 p_12), .one (.int .i64 p_13), .ints .u8 16 p_14, .ints .u8 16 p_15, .one (.slice ⟨0, 0, 0, 1⟩ (32 * (Int.toNat (PlanV.all (PlanV.mk p_0 p_1 p_2 p_3 p_4 p_5 p_6 p_7 p_8 p_9 p_10 p_11 p_12 p_13 p_14 p_15)))) cap0)], 0⟩), (0, some ⟨true, [.ints .u8 (32 * (Int.toNat (PlanV.all (PlanV.mk p_0 p_1 p_2 p_3 p_4 p_5 p_6 p_7 p_8 p_9 p_10 p_11 p_12 p_13 p_14 p_15)))) (List.replicate (32 * (Int.toNat (PlanV.all (PlanV.mk p_0 p_1 p_2 p_3 p_4 p_5 p_6 p_7 p_8 p_9 p_10 p_11 p_12 p_13 p_14 p_15)))) 0)], (cap0 - (32 * (Int.toNat (PlanV.all (PlanV.mk p_0 p_1 p_2 p_3 p_4 p_5 p_6 p_7 p_8 p_9 p_10 p_11 p_12 p_13 p_14 p_15)))))⟩)]⟩) else none
  | _, _ => none
def ZGc : Con := ⟨30, gS ZGs, [], [], []⟩
def ZrX : ACode := .reg (.op (some 1) (.box (.tm 0)) (.op (some 2) (.mov (.cn (.nilptr))) .nil))
def Znl : List MStep := [.mk 0 0 (some 3) (.loadA 46 (.tm 1)), .mk 1 0 (some 4) (.fieldAddr (.tm 1) 2 1), .mk 2 0 (some 5) (.load1 (.tm 4)), .mk 3 0 (some 6) (.bin .mul (.cn (.int .i64 32)) (.tm 5)), .mk 4 0 (some 7) (.fieldAddr (.tm 1) 3 1), .mk 5 0 (some 8) (.load1 (.tm 7)), .mk 6 0 (some 9) (.bin .mul (.tm 6) (.tm 8)), .mk 7 1 (some 10) (.mkslice .u8 (.tm 9) (.tm 9)), .mk 8 0 (some 11) (.build [.one (.int .i64 0), .one (.int .i64 0), .one (.int .i64 0), .one (.int .i64 0), .one (.int .i64 0), .one (.int .i64 0), .one (.int .u64 0), .one (.int .i64 0), .one (.int .i64 0), .one (.int .i64 0), .one (.int .i64 0), .one (.int .i64 0), .one (.int .i64 0), .one (.int .i64 0), .ints .u8 16 (List.replicate 16 0), .ints .u8 16 (List.replicate 16 0), .one (.nilslice)] [(0, 46, (.tm 3)), (46, 1, (.tm 10))]), .mk 9 2 (some 12) (.box (.tm 11)), .mk 10 0 (some 2) (.mov (.tm 12))]
def ZrW : ACode := .regM Znl
def ZMI : ACode := (.seq ZrX (.seq ZrW .ret))
def Zua : Res := .one (.tm 2)
theorem Zt5 : ZbD Try.prog 30 1 13 ZMI Zua = true := by kernel_rfl
def ZGr : Za8 := ZdW [] []
theorem ZBp : Za9 Try.prog ZGr := ZbI trivial trivial
section
variable {w0 : World} {fp : Nat -> Nat -> Prop} {ρi : Rho} {Kf : SVal -> Heap -> Prop}
abbrev Yk0 (x0 : PlanV) : Heap := ⟨1, [(0, some ⟨true, (PlanV.cs x0), 0⟩)]⟩
abbrev Yk1 (x0 : PlanV) : Heap := ⟨3, [(1, some ⟨true, [.ints .u8 (Int.toNat (IntKind.i64.wrap ((IntKind.i64.wrap (32 * x0.pages)) * x0.lines))) (List.replicate (Int.toNat (IntKind.i64.wrap ((IntKind.i64.wrap (32 * x0.pages)) * x0.lines))) (0 : Int))], ((Int.toNat (IntKind.i64.wrap ((IntKind.i64.wrap (32 * x0.pages)) * x0.lines))) - (Int.toNat (IntKind.i64.wrap ((IntKind.i64.wrap (32 * x0.pages)) * x0.lines))))⟩), (2, some ⟨true, [.one (.int .i64 x0.cores), .one (.int .i64 x0.banks), .one (.int .i64 x0.pages), .one (.int .i64 x0.lines), .one (.int .i64 x0.arity), .one (.int .i64 x0.minor), .one (.int .u64 x0.major), .one (.int .i64 x0.ns), .one (.int .i64 x0.nw), .one (.int .i64 x0.fs), .one (.int .i64 x0.fw), .one (.int .i64 x0.met), .one (.int .i64 x0.queue), .one (.int .i64 x0.kind), .ints .u8 16 x0.key, .ints .u8 16 x0.tag, .one (.slice ⟨1, 0, 0, 1⟩ (Int.toNat (IntKind.i64.wrap ((IntKind.i64.wrap (32 * x0.pages)) * x0.lines))) (Int.toNat (IntKind.i64.wrap ((IntKind.i64.wrap (32 * x0.pages)) * x0.lines))))], 0⟩)]⟩
abbrev Yk2 : Env := [(1, some (.ptr ⟨0, 0, 0, 1⟩ 46))]
theorem ZIN (p : PlanV) (Z : Env -> Heap -> Prop) (h : ((0 <= (IntKind.i64.wrap ((IntKind.i64.wrap (32 * p.pages)) * p.lines)))) /\ (((IntKind.i64.wrap ((IntKind.i64.wrap (32 * p.pages)) * p.lines)) <= (IntKind.i64.wrap ((IntKind.i64.wrap (32 * p.pages)) * p.lines)))) /\ (((IntKind.i64.wrap ((IntKind.i64.wrap (32 * p.pages)) * p.lines)) <= 1048576)) /\ ((ZaK ⟨2, [(0, some ⟨true, (PlanV.cs p), 0⟩), (1, some ⟨true, [.ints .u8 (Int.toNat (IntKind.i64.wrap ((IntKind.i64.wrap (32 * p.pages)) * p.lines))) (List.replicate (Int.toNat (IntKind.i64.wrap ((IntKind.i64.wrap (32 * p.pages)) * p.lines))) (0 : Int))], ((Int.toNat (IntKind.i64.wrap ((IntKind.i64.wrap (32 * p.pages)) * p.lines))) - (Int.toNat (IntKind.i64.wrap ((IntKind.i64.wrap (32 * p.pages)) * p.lines))))⟩)]⟩ (Heap.keep (Yk0 p) [0]) (Zdu [0] (Yk0 p)))) /\ Z [(2, some (.ptr ⟨2, 0, 0, 1⟩ 47))] (Yk1 p)) : EvNC ZGr Znl [[0], [], [], [], [], [], [], [], [], [], []] Yk2 (Yk0 p) [2] [1, 2] Z := EvNC.of (by kernel_rfl) h
theorem ZD1 (p : PlanV) : RetC Zua [(2, some (.ptr ⟨2, 0, 0, 1⟩ 47))] (Yk1 p) (.ptr ⟨2, 0, 0, 1⟩ 47) := RetC.of (fun Z => by kernel_rfl)
def ZwJ (p : PlanV) : Prop := ((0 <= (IntKind.i64.wrap ((IntKind.i64.wrap (32 * p.pages)) * p.lines)))) /\ ((((IntKind.i64.wrap ((IntKind.i64.wrap (32 * p.pages)) * p.lines)) <= 1048576)) /\ (((Int.toNat (IntKind.i64.wrap ((IntKind.i64.wrap (32 * p.pages)) * p.lines))) = (32 * (Int.toNat (PlanV.all p)))) /\ ((Int.toNat (IntKind.i64.wrap ((IntKind.i64.wrap (32 * p.pages)) * p.lines))) = (32 * (Int.toNat (PlanV.all p)))) /\ ((List.replicate (Int.toNat (IntKind.i64.wrap ((IntKind.i64.wrap (32 * p.pages)) * p.lines))) (0 : Int)) = (List.replicate (32 * (Int.toNat (PlanV.all p))) 0)) /\ (((Int.toNat (IntKind.i64.wrap ((IntKind.i64.wrap (32 * p.pages)) * p.lines))) - (Int.toNat (IntKind.i64.wrap ((IntKind.i64.wrap (32 * p.pages)) * p.lines)))) = ((Int.toNat (IntKind.i64.wrap ((IntKind.i64.wrap (32 * p.pages)) * p.lines))) - (32 * (Int.toNat (PlanV.all p))))) /\ (((32 * (Int.toNat (PlanV.all p))) : Nat) <= (Int.toNat (IntKind.i64.wrap ((IntKind.i64.wrap (32 * p.pages)) * p.lines))))))
abbrev Yk3 (x0 : PlanV) (x1 : Nat) : Heap := ⟨2, [(1, some ⟨true, [.one (.int .i64 x0.cores), .one (.int .i64 x0.banks), .one (.int .i64 x0.pages), .one (.int .i64 x0.lines), .one (.int .i64 x0.arity), .one (.int .i64 x0.minor), .one (.int .u64 x0.major), .one (.int .i64 x0.ns), .one (.int .i64 x0.nw), .one (.int .i64 x0.fs), .one (.int .i64 x0.fw), .one (.int .i64 x0.met), .one (.int .i64 x0.queue), .one (.int .i64 x0.kind), .ints .u8 16 x0.key, .ints .u8 16 x0.tag, .one (.slice ⟨0, 0, 0, 1⟩ (32 * (Int.toNat (PlanV.all x0))) x1)], 0⟩), (0, some ⟨true, [.ints .u8 (32 * (Int.toNat (PlanV.all x0))) (List.replicate (32 * (Int.toNat (PlanV.all x0))) 0)], (x1 - (32 * (Int.toNat (PlanV.all x0))))⟩)]⟩
theorem ZLT (p : PlanV) (hK : ∀ cap0 : Nat, (32 * (Int.toNat (PlanV.all p))) <= cap0 -> Kf (.ptr ⟨1, 0, 0, 1⟩ 47) (Yk3 p cap0)) (h : ZwJ p) : SemL Try.prog w0 fp ρi 0 13 [ZrW, .ret] Yk2 (Yk0 p) (fnK Zua 0 Kf) :=
  Zi1 ZBp (steps := Znl) (ZIN p _ ⟨h.1, ⟨(Int.le_refl _), ⟨h.2.1, ⟨(ZiO (by kernel_rfl)), (Zba (R := Zua) (m := 0) (Kf := Kf) (fun _ _ h => h) (ZD1 p) (Zcd (Eq.mpr (cg4 (fun (z1 z2 : Nat) (z3 : List Int) (z4 : Nat) => Ziu 0 Kf (.ptr ⟨2, 0, 0, 1⟩ 47) ⟨3, [(1, some ⟨true, [.ints .u8 z2 z3], z4⟩), (2, some ⟨true, [.one (.int .i64 p.cores), .one (.int .i64 p.banks), .one (.int .i64 p.pages), .one (.int .i64 p.lines), .one (.int .i64 p.arity), .one (.int .i64 p.minor), .one (.int .u64 p.major), .one (.int .i64 p.ns), .one (.int .i64 p.nw), .one (.int .i64 p.fs), .one (.int .i64 p.fw), .one (.int .i64 p.met), .one (.int .i64 p.queue), .one (.int .i64 p.kind), .ints .u8 16 p.key, .ints .u8 16 p.tag, .one (.slice ⟨1, 0, 0, 1⟩ z1 (Int.toNat (IntKind.i64.wrap ((IntKind.i64.wrap (32 * p.pages)) * p.lines))))], 0⟩)]⟩) h.2.2.1 h.2.2.2.1 h.2.2.2.2.1 h.2.2.2.2.2.1) (ZbL [(0, 1), (1, 2)] [1, 0] rfl (by kernel_rfl) rfl bpt (hsc (Zaa pbd (Zaa pbd (Zaa pbd (Zaa pbd (Zaa pbd (Zaa pbd (Zaa pbd (Zaa pbd (Zaa pbd (Zaa pbd (Zaa pbd (Zaa pbd (Zaa pbd (Zaa pbd (ZaW (ZaW (Zaa bsl Zb0))))))))))))))))) (hsc pcs Zaw)) rfl (by kernel_rfl) (hK (Int.toNat (IntKind.i64.wrap ((IntKind.i64.wrap (32 * p.pages)) * p.lines))) h.2.2.2.2.2.2)))))⟩⟩⟩⟩)
theorem ZIM (p : PlanV) (Z : Env -> Heap -> Prop) (h : Z Yk2 (Yk0 p)) : EvC ZGr ZrX [(0, some (.agg (PlanV.cs p)))] ⟨0, []⟩ [1] [0] Z := EvC.of (by kernel_rfl) h
def ZwI (p : PlanV) : Prop := ZwJ p
theorem ZLS (p : PlanV) (hK : ∀ cap0 : Nat, (32 * (Int.toNat (PlanV.all p))) <= cap0 -> Kf (.ptr ⟨1, 0, 0, 1⟩ 47) (Yk3 p cap0)) (h : ZwI p) : SemL Try.prog w0 fp ρi 0 13 [ZrX, (.seq ZrW .ret)] [(0, some (.agg (PlanV.cs p)))] ⟨0, []⟩ (fnK Zua 0 Kf) :=
  Zae ZBp (ZIM p _ (Zag (ZLT p hK h)))
def Zxm (p : PlanV) : Prop := ZwI p
theorem ZNr (p : PlanV) (hK : ∀ cap0 : Nat, (32 * (Int.toNat (PlanV.all p))) <= cap0 -> Kf (.ptr ⟨1, 0, 0, 1⟩ 47) (Yk3 p cap0)) (h : Zxm p) : SemL Try.prog w0 fp ρi 0 13 [ZMI] [(0, some (.agg (PlanV.cs p)))] ⟨0, []⟩ (fnK Zua 0 Kf) :=
  (Zag (ZLS p hK h))
end
theorem ZMz (p : PlanV) (hpre : (PlanV.right p = true)) : Zxm p := by
  unfold Zxm ZwI ZwJ
  have hs := PlanV.right_shaped hpre
  have ha := PlanV.all_sh hs
  have hb := of_decide_eq_true hs
  have w1 : IntKind.i64.wrap (32 * p.pages) = 32 * p.pages := by rw [Zhl]; omega
  have e : 32 * p.pages * p.lines = 32 * p.all := by rw [ha.2.2, Int.mul_assoc]
  have w2 : IntKind.i64.wrap (IntKind.i64.wrap (32 * p.pages) * p.lines) = 32 * p.all := by rw [w1, e, Zhl]; omega
  rw [w2]
  have : (32 * p.all).toNat = 32 * p.all.toNat := by omega
  rw [this]
  exact ⟨by omega, by omega, rfl, rfl, rfl, rfl, Nat.le_refl _⟩
theorem ZNx : Sound Try.prog 30 (gS ZGs) := by
  refine Zbx Zt5 ?_
  intro args H K h
  obtain ⟨pre, out, hD, hpre, hK⟩ := Zjf h
  unfold ZGs at hD
  split at hD
  · obtain ⟨hb, hD⟩ := ZaP hD
    simp only [Bool.and_eq_true] at hb
    obtain ⟨h0, h1⟩ := hb
    obtain rfl := Nat.eq_of_beq_eq_true h0
    obtain rfl := Nat.eq_of_beq_eq_true h1
    cases hD
    exact ⟨rfl, fun w0 fp ρi => ZNr (PlanV.mk _ _ _ _ _ _ _ _ _ _ _ _ _ _ _ _) hK (ZMz (PlanV.mk _ _ _ _ _ _ _ _ _ _ _ _ _ _ _ _) hpre)⟩
  · cases hD
def ZOH : ZkO := fun args H => match args, H with
  | [.ptr ⟨1, 0, 0, 1⟩ 47, .agg [.one (.int .i64 o_0), .one (.int .i64 o_1), .one (.int .i64 o_2), .one (.int .u64 o_3), .one (.int .u64 o_4)]], ⟨2, [(0, some ⟨true, [.ints .u8 bs_m bs], 0⟩), (1, some ⟨true, [.one (.int .i64 p_0), .one (.int .i64 p_1), .one (.int .i64 p_2), .one (.int .i64 p_3), .one (.int .i64 p_4), .one (.int .i64 p_5), .one (.int .u64 p_6), .one (.int .i64 p_7), .one (.int .i64 p_8), .one (.int .i64 p_9), .one (.int .i64 p_10), .one (.int .i64 p_11), .one (.int .i64 p_12), .one (.int .i64 p_13), .ints .u8 p_14_n p_14, .ints .u8 p_15_n p_15, .one (.slice ⟨0, 0, 0, 1⟩ bs_n bs_c)], 0⟩)]⟩ => bif Nat.beq p_14_n 16 && Nat.beq p_15_n 16 then some (bs_m = bs_n /\ (PlanV.right (PlanV.mk p_0 p_1 p_2 p_3 p_4 p_5 p_6 p_7 p_8 p_9 p_10 p_11 p_12 p_13 p_14 p_15) = true /\ Zgh (PlanV.mk p_0 p_1 p_2 p_3 p_4 p_5 p_6 p_7 p_8 p_9 p_10 p_11 p_12 p_13 p_14 p_15) bs /\ List.length bs = bs_n /\ bs_n <= bs_c /\ OpV.Wf (OpV.mk o_0 o_1 o_2 o_3 o_4)), fun K => ((!PlanV.byteB (PlanV.mk p_0 p_1 p_2 p_3 p_4 p_5 p_6 p_7 p_8 p_9 p_10 p_11 p_12 p_13 p_14 p_15) (OpV.mk o_0 o_1 o_2 o_3 o_4)) = true -> K (.tuple [.int .u64 0, .int .i64 (PlanV.opCode (PlanV.mk p_0 p_1 p_2 p_3 p_4 p_5 p_6 p_7 p_8 p_9 p_10 p_11 p_12 p_13 p_14 p_15) (OpV.mk o_0 o_1 o_2 o_3 o_4))]) ⟨2, [(0, some ⟨true, [.ints .u8 bs_n bs], 0⟩), (1, some ⟨true, [.one (.int .i64 p_0), .one (.int .i64 p_1), .one (.int .i64 p_2), .one (.int .i64 p_3), .one (.int .i64 p_4), .one (.int .i64 p_5), .one (.int .u64 p_6), .one (.int .i64 p_7), .one (.int .i64 p_8), .one (.int .i64 p_9), .one (.int .i64 p_10), .one (.int .i64 p_11), .one (.int .i64 p_12), .one (.int .i64 p_13), .ints .u8 16 p_14, .ints .u8 16 p_15, .one (.slice ⟨0, 0, 0, 1⟩ bs_n bs_c)], 0⟩)]⟩) /\ ((!PlanV.byteB (PlanV.mk p_0 p_1 p_2 p_3 p_4 p_5 p_6 p_7 p_8 p_9 p_10 p_11 p_12 p_13 p_14 p_15) (OpV.mk o_0 o_1 o_2 o_3 o_4)) = false -> ∀ cap0 : Nat, bs_n <= cap0 -> K (.tuple [.int .u64 (PlanV.byteR (PlanV.mk p_0 p_1 p_2 p_3 p_4 p_5 p_6 p_7 p_8 p_9 p_10 p_11 p_12 p_13 p_14 p_15) (OpV.mk o_0 o_1 o_2 o_3 o_4) bs), .int .i64 (PlanV.opCode (PlanV.mk p_0 p_1 p_2 p_3 p_4 p_5 p_6 p_7 p_8 p_9 p_10 p_11 p_12 p_13 p_14 p_15) (OpV.mk o_0 o_1 o_2 o_3 o_4))]) ⟨3, [(2, some ⟨true, [.ints .u8 bs_n (PlanV.byteL (PlanV.mk p_0 p_1 p_2 p_3 p_4 p_5 p_6 p_7 p_8 p_9 p_10 p_11 p_12 p_13 p_14 p_15) (OpV.mk o_0 o_1 o_2 o_3 o_4) bs)], (cap0 - bs_n)⟩), (0, some ⟨true, [.ints .u8 bs_n bs], 0⟩), (1, some ⟨true, [.one (.int .i64 p_0), .one (.int .i64 p_1), .one (.int .i64 p_2), .one (.int .i64 p_3), .one (.int .i64 p_4), .one (.int .i64 p_5), .one (.int .u64 p_6), .one (.int .i64 p_7), .one (.int .i64 p_8), .one (.int .i64 p_9), .one (.int .i64 p_10), .one (.int .i64 p_11), .one (.int .i64 p_12), .one (.int .i64 p_13), .ints .u8 16 p_14, .ints .u8 16 p_15, .one (.slice ⟨2, 0, 0, 1⟩ bs_n cap0)], 0⟩)]⟩)) else none
  | _, _ => none
def ZMH : Con := ⟨31, gS ZOH, [0, 1], [], []⟩
def ZrV : ACode := .reg (.op (some 3) (.box (.tm 1)) (.op (some 4) (.mov (.cn (.int .u64 0))) (.op (some 5) (.mov (.cn (.int .i64 0))) .nil)))
def Znk : Items := .op (some 9) (.mov (.tm 0)) (.op (some 10) (.nilCheck (.tm 9)) (.op (some 11) (.fieldAddr (.tm 10) 0 46) (.op (some 12) (.loadA 46 (.tm 11)) (.op (some 13) (.loadA 5 (.tm 3)) (.op (some 14) (.call 62 [(.tm 12), (.tm 13)]) (.op (some 6) (.mov (.tm 14)) .nil))))))
def ZrU : ACode := .regQ Znk
def Zkq : ACode := .reg (.op (some 15) (.mov (.tm 6)) (.op (some 16) (.bin .neq (.tm 15) (.cn (.int .i64 0))) (.op (some 17) (.mov (.tm 16)) (.grpJ 17 false (.op (some 18) (.fieldAddr (.tm 3) 0 1) (.op (some 19) (.load1 (.tm 18)) (.op (some 20) (.bin .eql (.tm 19) (.cn (.int .i64 6))) .nil))) 21 (.tm 20) (.cn (.bool true)) (.op (some 22) (.mov (.tm 21)) (.grpJ 22 false (.op (some 23) (.fieldAddr (.tm 3) 0 1) (.op (some 24) (.load1 (.tm 23)) (.op (some 25) (.bin .eql (.tm 24) (.cn (.int .i64 5))) .nil))) 26 (.tm 25) (.cn (.bool true)) .nil))))))
def ZrT : ACode := .reg (.op (some 27) (.mov (.tm 6)) (.op (some 4) (.mov (.cn (.int .u64 0))) (.op (some 5) (.mov (.tm 27)) .nil)))
def Zkp : ACode := .cond (.tm 26) (.seq ZrT .ret) .skip
def Znj : List MStep := [.mk 0 0 (some 29) (.loadA 5 (.tm 3)), .mk 1 0 (some 30) (.mov (.tm 0)), .mk 2 0 (some 31) (.nilCheck (.tm 30)), .mk 3 0 (some 32) (.fieldAddr (.tm 31) 46 1), .mk 4 0 (some 33) (.load1 (.tm 32)), .mk 5 0 (some 34) (.fieldAddr (.tm 3) 1 1), .mk 6 0 (some 35) (.load1 (.tm 34)), .mk 7 2 (some 36) (.call 63 [(.tm 29), (.tm 33), (.tm 35)]), .mk 8 0 (some 28) (.mov (.tm 36)), .mk 9 0 (some 37) (.extract (.tm 28) 0), .mk 10 0 (some 38) (.extract (.tm 28) 1), .mk 11 0 (some 7) (.mov (.tm 37)), .mk 12 0 (some 8) (.mov (.tm 38))]
def ZhE : ACode := .regM Znj
def Zf6 : ACode := .reg (.op (some 39) (.mov (.tm 0)) (.op (some 40) (.mov (.tm 7)) (.op (some 41) (.nilCheck (.tm 39)) (.op (some 42) (.fieldAddr (.tm 41) 46 1) (.op none (.store1 (.tm 42) (.tm 40)) .nil)))))
def Zfo : ACode := .reg (.op (some 43) (.mov (.tm 8)) (.op (some 4) (.mov (.tm 43)) (.op (some 5) (.mov (.cn (.int .i64 0))) .nil)))
def ZOT : ACode := (.seq ZrV (.seq ZrU (.seq (.seq Zkq Zkp) (.seq ZhE (.seq Zf6 (.seq Zfo .ret))))))
def Ztz : Res := .many [.tm 4, .tm 5]
theorem ZyN : ZbD Try.prog 31 2 44 ZOT Ztz = true := by kernel_rfl
def ZBQ : Za8 := ZdW [ZtO] [ZyJ]
theorem ZqN : Za9 Try.prog ZBQ := ZbI ⟨Zxr, trivial⟩ ⟨sqBytes.dC, trivial⟩
section
variable {w0 : World} {fp : Nat -> Nat -> Prop} {ρi : Rho} {Kf : SVal -> Heap -> Prop}
abbrev Yk4 (x0 : Nat) (x1 : List Int) (x2 : PlanV) (x3 : Nat) : Heap := ⟨3, [(0, some ⟨true, [.ints .u8 x0 x1], 0⟩), (1, some ⟨true, [.one (.int .i64 x2.cores), .one (.int .i64 x2.banks), .one (.int .i64 x2.pages), .one (.int .i64 x2.lines), .one (.int .i64 x2.arity), .one (.int .i64 x2.minor), .one (.int .u64 x2.major), .one (.int .i64 x2.ns), .one (.int .i64 x2.nw), .one (.int .i64 x2.fs), .one (.int .i64 x2.fw), .one (.int .i64 x2.met), .one (.int .i64 x2.queue), .one (.int .i64 x2.kind), .ints .u8 16 x2.key, .ints .u8 16 x2.tag, .one (.slice ⟨0, 0, 0, 1⟩ x0 x3)], 0⟩)]⟩
theorem ZIL (p : PlanV) (bs : List Int) (bs_n bs_c : Nat) (o : OpV) (v6 : Int) (Z : Env -> Heap -> Prop) (h : Z [(4, some (.int .u64 0)), (5, some (.int .i64 v6))] (Yk4 bs_n bs p bs_c)) : EvC ZBQ ZrT [(6, some (.int .i64 v6))] (Yk4 bs_n bs p bs_c) [4, 5] [0, 1] Z := EvC.of (by kernel_rfl) h
theorem ZD0 (p : PlanV) (bs : List Int) (bs_n bs_c : Nat) (o : OpV) (v6 : Int) : RetC Ztz [(4, some (.int .u64 0)), (5, some (.int .i64 v6))] (Yk4 bs_n bs p bs_c) (.tuple [.int .u64 0, .int .i64 v6]) := RetC.of (fun Z => by kernel_rfl)
def ZwH (p : PlanV) (bs : List Int) (bs_n bs_c : Nat) (o : OpV) (v6 : Int) : Prop := ((!PlanV.byteB p o) = true) /\ (v6 = (PlanV.opCode p o))
abbrev Yk5 (x0 : Nat) (x1 : List Int) (x2 : PlanV) (x3 : Nat) : Heap := ⟨2, [(0, some ⟨true, [.ints .u8 x0 x1], 0⟩), (1, some ⟨true, [.one (.int .i64 x2.cores), .one (.int .i64 x2.banks), .one (.int .i64 x2.pages), .one (.int .i64 x2.lines), .one (.int .i64 x2.arity), .one (.int .i64 x2.minor), .one (.int .u64 x2.major), .one (.int .i64 x2.ns), .one (.int .i64 x2.nw), .one (.int .i64 x2.fs), .one (.int .i64 x2.fw), .one (.int .i64 x2.met), .one (.int .i64 x2.queue), .one (.int .i64 x2.kind), .ints .u8 16 x2.key, .ints .u8 16 x2.tag, .one (.slice ⟨0, 0, 0, 1⟩ x0 x3)], 0⟩)]⟩
abbrev Yk6 (x0 : Nat) (x1 : PlanV) (x2 : OpV) (x3 : List Int) (x4 : Nat) : Heap := ⟨3, [(2, some ⟨true, [.ints .u8 x0 (PlanV.byteL x1 x2 x3)], (x4 - x0)⟩), (0, some ⟨true, [.ints .u8 x0 x3], 0⟩), (1, some ⟨true, [.one (.int .i64 x1.cores), .one (.int .i64 x1.banks), .one (.int .i64 x1.pages), .one (.int .i64 x1.lines), .one (.int .i64 x1.arity), .one (.int .i64 x1.minor), .one (.int .u64 x1.major), .one (.int .i64 x1.ns), .one (.int .i64 x1.nw), .one (.int .i64 x1.fs), .one (.int .i64 x1.fw), .one (.int .i64 x1.met), .one (.int .i64 x1.queue), .one (.int .i64 x1.kind), .ints .u8 16 x1.key, .ints .u8 16 x1.tag, .one (.slice ⟨2, 0, 0, 1⟩ x0 x4)], 0⟩)]⟩
theorem ZLR (p : PlanV) (bs : List Int) (bs_n bs_c : Nat) (o : OpV) (hK : ((!PlanV.byteB p o) = true -> Kf (.tuple [.int .u64 0, .int .i64 (PlanV.opCode p o)]) (Yk5 bs_n bs p bs_c)) /\ ((!PlanV.byteB p o) = false -> ∀ cap0 : Nat, bs_n <= cap0 -> Kf (.tuple [.int .u64 (PlanV.byteR p o bs), .int .i64 (PlanV.opCode p o)]) (Yk6 bs_n p o bs cap0))) (v6 : Int) (h : ZwH p bs bs_n bs_c o v6) : SemL Try.prog w0 fp ρi 2 44 [ZrT, .ret, (.seq ZhE (.seq Zf6 (.seq Zfo .ret)))] [(6, some (.int .i64 v6))] (Yk4 bs_n bs p bs_c) (fnK Ztz 2 Kf) :=
  Zae ZqN (ZIL p bs bs_n bs_c o v6 _ (Zba (R := Ztz) (m := 2) (Kf := Kf) (fun _ _ h => h) (ZD0 p bs bs_n bs_c o v6) (Zcd (Eq.mpr (cg1 (fun (z1 : Int) => Ziu 2 Kf (.tuple [.int .u64 0, .int .i64 z1]) (Yk4 bs_n bs p bs_c)) h.2) (ZbL [] [0, 1] rfl (by kernel_rfl) rfl (ZcU (ZbA pbd (ZbA pbd Zdz))) (hsc pcs (hsc (Zaa pbd (Zaa pbd (Zaa pbd (Zaa pbd (Zaa pbd (Zaa pbd (Zaa pbd (Zaa pbd (Zaa pbd (Zaa pbd (Zaa pbd (Zaa pbd (Zaa pbd (Zaa pbd (ZaW (ZaW (Zaa bsl Zb0))))))))))))))))) Zaw)) rfl (by kernel_rfl) ((hK.1 h.1)))))))
abbrev Yk7 (x0 : Nat) (x1 : List Int) (x2 : PlanV) (x3 : Nat) (x4 : List Int) (x5 : Nat) : Heap := ⟨4, [(0, some ⟨true, [.ints .u8 x0 x1], 0⟩), (1, some ⟨true, [.one (.int .i64 x2.cores), .one (.int .i64 x2.banks), .one (.int .i64 x2.pages), .one (.int .i64 x2.lines), .one (.int .i64 x2.arity), .one (.int .i64 x2.minor), .one (.int .u64 x2.major), .one (.int .i64 x2.ns), .one (.int .i64 x2.nw), .one (.int .i64 x2.fs), .one (.int .i64 x2.fw), .one (.int .i64 x2.met), .one (.int .i64 x2.queue), .one (.int .i64 x2.kind), .ints .u8 16 x2.key, .ints .u8 16 x2.tag, .one (.slice ⟨3, 0, 0, 1⟩ x0 x3)], 0⟩), (3, some ⟨true, [.ints .u8 x0 x4], x5⟩)]⟩
theorem ZIK (p : PlanV) (bs : List Int) (bs_n bs_c : Nat) (o : OpV) (v8 : Int) (c : Nat) (h3 : List Int) (x3 : Nat) (Z : Env -> Heap -> Prop) (h : Z [(4, some (.int .u64 v8)), (5, some (.int .i64 0))] (Yk7 bs_n bs p c h3 x3)) : EvC ZBQ Zfo [(8, some (.int .u64 v8))] (Yk7 bs_n bs p c h3 x3) [4, 5] [0, 1, 3] Z := EvC.of (by kernel_rfl) h
theorem ZDZ (p : PlanV) (bs : List Int) (bs_n bs_c : Nat) (o : OpV) (v8 : Int) (c : Nat) (h3 : List Int) (x3 : Nat) : RetC Ztz [(4, some (.int .u64 v8)), (5, some (.int .i64 0))] (Yk7 bs_n bs p c h3 x3) (.tuple [.int .u64 v8, .int .i64 0]) := RetC.of (fun Z => by kernel_rfl)
def ZwG (p : PlanV) (bs : List Int) (bs_n bs_c : Nat) (o : OpV) (v8 : Int) (c : Nat) (h3 : List Int) (x3 : Nat) : Prop := ((!PlanV.byteB p o) = false) /\ (v8 = (PlanV.byteR p o bs)) /\ (0 = (PlanV.opCode p o)) /\ (h3 = (PlanV.byteL p o bs)) /\ (x3 = (c - bs_n)) /\ ((bs_n : Nat) <= c)
theorem ZLQ (p : PlanV) (bs : List Int) (bs_n bs_c : Nat) (o : OpV) (hK : ((!PlanV.byteB p o) = true -> Kf (.tuple [.int .u64 0, .int .i64 (PlanV.opCode p o)]) (Yk5 bs_n bs p bs_c)) /\ ((!PlanV.byteB p o) = false -> ∀ cap0 : Nat, bs_n <= cap0 -> Kf (.tuple [.int .u64 (PlanV.byteR p o bs), .int .i64 (PlanV.opCode p o)]) (Yk6 bs_n p o bs cap0))) (v8 : Int) (c : Nat) (h3 : List Int) (x3 : Nat) (h : ZwG p bs bs_n bs_c o v8 c h3 x3) : SemL Try.prog w0 fp ρi 2 44 [Zfo, .ret] [(8, some (.int .u64 v8))] (Yk7 bs_n bs p c h3 x3) (fnK Ztz 2 Kf) :=
  Zae ZqN (ZIK p bs bs_n bs_c o v8 c h3 x3 _ (Zba (R := Ztz) (m := 2) (Kf := Kf) (fun _ _ h => h) (ZDZ p bs bs_n bs_c o v8 c h3 x3) (Zcd (Eq.mpr (cg4 (fun (z1 z2 : Int) (z3 : List Int) (z4 : Nat) => Ziu 2 Kf (.tuple [.int .u64 z1, .int .i64 z2]) (Yk7 bs_n bs p c z3 z4)) h.2.1 h.2.2.1 h.2.2.2.1 h.2.2.2.2.1) (ZbL [(2, 3)] [2, 0, 1] rfl (by kernel_rfl) rfl (ZcU (ZbA pbd (ZbA pbd Zdz))) (hsc pcs (hsc pcs (hsc (Zaa pbd (Zaa pbd (Zaa pbd (Zaa pbd (Zaa pbd (Zaa pbd (Zaa pbd (Zaa pbd (Zaa pbd (Zaa pbd (Zaa pbd (Zaa pbd (Zaa pbd (Zaa pbd (ZaW (ZaW (Zaa bsl Zb0))))))))))))))))) Zaw))) rfl (by kernel_rfl) ((hK.2 h.1) c h.2.2.2.2.2))))))
abbrev Yk8 (x0 x1 : Nat) (x2 : Int) : Env := [(0, some (.ptr ⟨1, 0, 0, 1⟩ 47)), (7, some (.slice ⟨3, 0, 0, 1⟩ x0 x1)), (8, some (.int .u64 x2))]
abbrev Yk9 (x0 : Nat) (x1 : List Int) (x2 : PlanV) (x3 : Nat) (x4 : List Int) (x5 : Nat) : Heap := ⟨4, [(0, some ⟨true, [.ints .u8 x0 x1], 0⟩), (1, some ⟨true, [.one (.int .i64 x2.cores), .one (.int .i64 x2.banks), .one (.int .i64 x2.pages), .one (.int .i64 x2.lines), .one (.int .i64 x2.arity), .one (.int .i64 x2.minor), .one (.int .u64 x2.major), .one (.int .i64 x2.ns), .one (.int .i64 x2.nw), .one (.int .i64 x2.fs), .one (.int .i64 x2.fw), .one (.int .i64 x2.met), .one (.int .i64 x2.queue), .one (.int .i64 x2.kind), .ints .u8 16 x2.key, .ints .u8 16 x2.tag, .one (.slice ⟨0, 0, 0, 1⟩ x0 x3)], 0⟩), (3, some ⟨true, [.ints .u8 x0 x4], x5⟩)]⟩
theorem ZIJ (p : PlanV) (bs : List Int) (bs_n bs_c : Nat) (o : OpV) (c : Nat) (v8 : Int) (h3 : List Int) (x3 : Nat) (Z : Env -> Heap -> Prop) (h : Z [(8, some (.int .u64 v8))] (Yk7 bs_n bs p c h3 x3)) : EvC ZBQ Zf6 (Yk8 bs_n c v8) (Yk9 bs_n bs p bs_c h3 x3) [8] [0, 1, 3] Z := EvC.of (by kernel_rfl) h
def ZwF (p : PlanV) (bs : List Int) (bs_n bs_c : Nat) (o : OpV) (c : Nat) (v8 : Int) (h3 : List Int) (x3 : Nat) : Prop := ZwG p bs bs_n bs_c o v8 c h3 x3
theorem ZLP (p : PlanV) (bs : List Int) (bs_n bs_c : Nat) (o : OpV) (hK : ((!PlanV.byteB p o) = true -> Kf (.tuple [.int .u64 0, .int .i64 (PlanV.opCode p o)]) (Yk5 bs_n bs p bs_c)) /\ ((!PlanV.byteB p o) = false -> ∀ cap0 : Nat, bs_n <= cap0 -> Kf (.tuple [.int .u64 (PlanV.byteR p o bs), .int .i64 (PlanV.opCode p o)]) (Yk6 bs_n p o bs cap0))) (c : Nat) (v8 : Int) (h3 : List Int) (x3 : Nat) (h : ZwF p bs bs_n bs_c o c v8 h3 x3) : SemL Try.prog w0 fp ρi 2 44 [Zf6, (.seq Zfo .ret)] (Yk8 bs_n c v8) (Yk9 bs_n bs p bs_c h3 x3) (fnK Ztz 2 Kf) :=
  Zae ZqN (ZIJ p bs bs_n bs_c o c v8 h3 x3 _ (Zag (ZLQ p bs bs_n bs_c o hK v8 c h3 x3 h)))
abbrev ZMP : Env := [(0, some (.ptr ⟨1, 0, 0, 1⟩ 47)), (3, some (.ptr ⟨2, 0, 0, 1⟩ 5))]
theorem ZII (p : PlanV) (bs : List Int) (bs_n bs_c : Nat) (o : OpV) (Z : Env -> Heap -> Prop) (h : (((0 + bs_n) <= bs_n)) /\ ((bs_n = bs_n)) /\ ((OpV.Wf o /\ sizeB o.on = true /\ List.length (List.take bs_n bs) = bs_n /\ bs_n <= bs_c /\ bs_n <= 1000000 /\ Byt (List.take bs_n bs) /\ 0 <= o.oat /\ o.oat + o.on <= (bs_n : Int))) /\ ∀ (c : Nat), bs_n <= c -> Z [(0, some (.ptr ⟨1, 0, 0, 1⟩ 47)), (7, some (.slice ⟨3, 0, 0, 1⟩ bs_n c)), (8, some (.int .u64 (OpV.numAt o (Int.toNat o.oat) (List.take bs_n bs))))] ⟨4, [(0, some ⟨true, [.ints .u8 bs_n bs], 0⟩), (1, some ⟨true, [.one (.int .i64 p.cores), .one (.int .i64 p.banks), .one (.int .i64 p.pages), .one (.int .i64 p.lines), .one (.int .i64 p.arity), .one (.int .i64 p.minor), .one (.int .u64 p.major), .one (.int .i64 p.ns), .one (.int .i64 p.nw), .one (.int .i64 p.fs), .one (.int .i64 p.fw), .one (.int .i64 p.met), .one (.int .i64 p.queue), .one (.int .i64 p.kind), .ints .u8 16 p.key, .ints .u8 16 p.tag, .one (.slice ⟨0, 0, 0, 1⟩ bs_n bs_c)], 0⟩), (3, some ⟨true, [.ints .u8 bs_n (OpV.nextAt o (Int.toNat o.oat) (List.take bs_n bs))], (c - bs_n)⟩)]⟩) : EvNC ZBQ Znj [[2], [], [], [], [1], [], [], [], [], [], [], [], []] ZMP ⟨3, [(0, some ⟨true, [.ints .u8 bs_n bs], 0⟩), (1, some ⟨true, [.one (.int .i64 p.cores), .one (.int .i64 p.banks), .one (.int .i64 p.pages), .one (.int .i64 p.lines), .one (.int .i64 p.arity), .one (.int .i64 p.minor), .one (.int .u64 p.major), .one (.int .i64 p.ns), .one (.int .i64 p.nw), .one (.int .i64 p.fs), .one (.int .i64 p.fw), .one (.int .i64 p.met), .one (.int .i64 p.queue), .one (.int .i64 p.kind), .ints .u8 16 p.key, .ints .u8 16 p.tag, .one (.slice ⟨0, 0, 0, 1⟩ bs_n bs_c)], 0⟩), (2, some ⟨true, (OpV.cs o), 0⟩)]⟩ [0, 7, 8] [0, 1, 3] Z := EvNC.of (by kernel_rfl) h
def ZwE (p : PlanV) (bs : List Int) (bs_n bs_c : Nat) (o : OpV) : Prop := (((0 + bs_n) <= bs_n)) /\ (((OpV.Wf o /\ sizeB o.on = true /\ List.length (List.take bs_n bs) = bs_n /\ bs_n <= bs_c /\ bs_n <= 1000000 /\ Byt (List.take bs_n bs) /\ 0 <= o.oat /\ o.oat + o.on <= (bs_n : Int))) /\ (∀ (c : Nat), (bs_n <= c) -> (∀ v8 : Int, v8 = (OpV.numAt o (Int.toNat o.oat) (List.take bs_n bs)) -> ∀ h3 : List Int, h3 = (OpV.nextAt o (Int.toNat o.oat) (List.take bs_n bs)) -> ∀ x3 : Nat, x3 = (c - bs_n) -> ZwF p bs bs_n bs_c o c v8 h3 x3)))
abbrev Zso (x0 : Nat) (x1 : List Int) (x2 : PlanV) (x3 : Nat) (x4 : OpV) : Heap := ⟨3, [(0, some ⟨true, [.ints .u8 x0 x1], 0⟩), (1, some ⟨true, [.one (.int .i64 x2.cores), .one (.int .i64 x2.banks), .one (.int .i64 x2.pages), .one (.int .i64 x2.lines), .one (.int .i64 x2.arity), .one (.int .i64 x2.minor), .one (.int .u64 x2.major), .one (.int .i64 x2.ns), .one (.int .i64 x2.nw), .one (.int .i64 x2.fs), .one (.int .i64 x2.fw), .one (.int .i64 x2.met), .one (.int .i64 x2.queue), .one (.int .i64 x2.kind), .ints .u8 16 x2.key, .ints .u8 16 x2.tag, .one (.slice ⟨0, 0, 0, 1⟩ x0 x3)], 0⟩), (2, some ⟨true, (OpV.cs x4), 0⟩)]⟩
theorem ZLO (p : PlanV) (bs : List Int) (bs_n bs_c : Nat) (o : OpV) (hK : ((!PlanV.byteB p o) = true -> Kf (.tuple [.int .u64 0, .int .i64 (PlanV.opCode p o)]) (Yk5 bs_n bs p bs_c)) /\ ((!PlanV.byteB p o) = false -> ∀ cap0 : Nat, bs_n <= cap0 -> Kf (.tuple [.int .u64 (PlanV.byteR p o bs), .int .i64 (PlanV.opCode p o)]) (Yk6 bs_n p o bs cap0))) (h : ZwE p bs bs_n bs_c o) : SemL Try.prog w0 fp ρi 2 44 [ZhE, (.seq Zf6 (.seq Zfo .ret))] ZMP (Zso bs_n bs p bs_c o) (fnK Ztz 2 Kf) :=
  Zi1 ZqN (steps := Znj) (ZII p bs bs_n bs_c o _ ⟨h.1, ⟨rfl, ⟨h.2.1, (fun c h_c_0 => (Zag (ZLP p bs bs_n bs_c o hK c (OpV.numAt o (Int.toNat o.oat) (List.take bs_n bs)) (OpV.nextAt o (Int.toNat o.oat) (List.take bs_n bs)) (c - bs_n) ((((h.2.2 c h_c_0) (OpV.numAt o (Int.toNat o.oat) (List.take bs_n bs)) rfl) (OpV.nextAt o (Int.toNat o.oat) (List.take bs_n bs)) rfl) (c - bs_n) rfl))))⟩⟩⟩)
def ZwD (p : PlanV) (bs : List Int) (bs_n bs_c : Nat) (o : OpV) (v6 : Int) : Prop := ((((v6 != 0) || (o.okind == 6)) || (o.okind == 5)) = true -> (ZwH p bs bs_n bs_c o v6)) /\ ((((v6 != 0) || (o.okind == 6)) || (o.okind == 5)) = false -> (ZwE p bs bs_n bs_c o))
theorem ZLN (p : PlanV) (bs : List Int) (bs_n bs_c : Nat) (o : OpV) (hK : ((!PlanV.byteB p o) = true -> Kf (.tuple [.int .u64 0, .int .i64 (PlanV.opCode p o)]) (Yk5 bs_n bs p bs_c)) /\ ((!PlanV.byteB p o) = false -> ∀ cap0 : Nat, bs_n <= cap0 -> Kf (.tuple [.int .u64 (PlanV.byteR p o bs), .int .i64 (PlanV.opCode p o)]) (Yk6 bs_n p o bs cap0))) (v6 : Int) (h : ZwD p bs bs_n bs_c o v6) : SemL Try.prog w0 fp ρi 2 44 [Zkp, (.seq ZhE (.seq Zf6 (.seq Zfo .ret)))] [(0, some (.ptr ⟨1, 0, 0, 1⟩ 47)), (3, some (.ptr ⟨2, 0, 0, 1⟩ 5)), (6, some (.int .i64 v6)), (26, some (.bool (((v6 != 0) || (o.okind == 6)) || (o.okind == 5))))] (Zso bs_n bs p bs_c o) (fnK Ztz 2 Kf) :=
  Zbf (q := (((v6 != 0) || (o.okind == 6)) || (o.okind == 5))) (by kernel_rfl) (fun hq => (Zag (lpk [6] [0, 1] (ZLR p bs bs_n bs_c o hK v6 (h.1 hq))))) (fun hq => (Zbu (lpk [0, 3] [0, 1, 2] (Zag (ZLO p bs bs_n bs_c o hK (h.2 hq))))))
abbrev ZPf (x0 : Int) : Env := [(0, some (.ptr ⟨1, 0, 0, 1⟩ 47)), (3, some (.ptr ⟨2, 0, 0, 1⟩ 5)), (6, some (.int .i64 x0))]
theorem ZIH (p : PlanV) (bs : List Int) (bs_n bs_c : Nat) (o : OpV) (v6 : Int) (Z : Env -> Heap -> Prop) (h : ∃ qq : Bool, ((v6 != 0) = false -> (ZaK (Zso bs_n bs p bs_c o) (Zso bs_n bs p bs_c o) [(0, some ⟨true, [.ints .u8 bs_n bs], 0⟩), (1, some ⟨true, [.one (.int .i64 p.cores), .one (.int .i64 p.banks), .one (.int .i64 p.pages), .one (.int .i64 p.lines), .one (.int .i64 p.arity), .one (.int .i64 p.minor), .one (.int .u64 p.major), .one (.int .i64 p.ns), .one (.int .i64 p.nw), .one (.int .i64 p.fs), .one (.int .i64 p.fw), .one (.int .i64 p.met), .one (.int .i64 p.queue), .one (.int .i64 p.kind), .ints .u8 16 p.key, .ints .u8 16 p.tag, .one (.slice ⟨0, 0, 0, 1⟩ bs_n bs_c)], 0⟩), (2, some ⟨true, (OpV.cs o), 0⟩)]) /\ (o.okind == 6) = qq) /\ ((v6 != 0) = true -> true = qq) /\ ∃ qq'1 : Bool, (qq = false -> (ZaK (Zso bs_n bs p bs_c o) (Zso bs_n bs p bs_c o) [(0, some ⟨true, [.ints .u8 bs_n bs], 0⟩), (1, some ⟨true, [.one (.int .i64 p.cores), .one (.int .i64 p.banks), .one (.int .i64 p.pages), .one (.int .i64 p.lines), .one (.int .i64 p.arity), .one (.int .i64 p.minor), .one (.int .u64 p.major), .one (.int .i64 p.ns), .one (.int .i64 p.nw), .one (.int .i64 p.fs), .one (.int .i64 p.fw), .one (.int .i64 p.met), .one (.int .i64 p.queue), .one (.int .i64 p.kind), .ints .u8 16 p.key, .ints .u8 16 p.tag, .one (.slice ⟨0, 0, 0, 1⟩ bs_n bs_c)], 0⟩), (2, some ⟨true, (OpV.cs o), 0⟩)]) /\ (o.okind == 5) = qq'1) /\ (qq = true -> true = qq'1) /\ Z [(0, some (.ptr ⟨1, 0, 0, 1⟩ 47)), (3, some (.ptr ⟨2, 0, 0, 1⟩ 5)), (6, some (.int .i64 v6)), (26, some (.bool qq'1))] (Zso bs_n bs p bs_c o)) : EvC ZBQ Zkq (ZPf v6) (Zso bs_n bs p bs_c o) [0, 3, 6, 26] [0, 1, 2] Z := EvC.of (by kernel_rfl) h
def ZwC (p : PlanV) (bs : List Int) (bs_n bs_c : Nat) (o : OpV) (v6 : Int) : Prop := ZwD p bs bs_n bs_c o v6
theorem ZLM (p : PlanV) (bs : List Int) (bs_n bs_c : Nat) (o : OpV) (hK : ((!PlanV.byteB p o) = true -> Kf (.tuple [.int .u64 0, .int .i64 (PlanV.opCode p o)]) (Yk5 bs_n bs p bs_c)) /\ ((!PlanV.byteB p o) = false -> ∀ cap0 : Nat, bs_n <= cap0 -> Kf (.tuple [.int .u64 (PlanV.byteR p o bs), .int .i64 (PlanV.opCode p o)]) (Yk6 bs_n p o bs cap0))) (v6 : Int) (h : ZwC p bs bs_n bs_c o v6) : SemL Try.prog w0 fp ρi 2 44 [Zkq, Zkp, (.seq ZhE (.seq Zf6 (.seq Zfo .ret)))] (ZPf v6) (Zso bs_n bs p bs_c o) (fnK Ztz 2 Kf) :=
  Zae ZqN (ZIH p bs bs_n bs_c o v6 _ ⟨((v6 != 0) || (o.okind == 6)), fun hc_qq => ⟨(ZaT _), (qo1 hc_qq)⟩, fun hc_qq => qo2 hc_qq, ⟨(((v6 != 0) || (o.okind == 6)) || (o.okind == 5)), fun hc_qq_1 => ⟨(ZaT _), (qo1 hc_qq_1)⟩, fun hc_qq_1 => qo2 hc_qq_1, (ZLN p bs bs_n bs_c o hK v6 h)⟩⟩)
theorem ZIG (p : PlanV) (bs : List Int) (bs_n bs_c : Nat) (o : OpV) (Z : Env -> Heap -> Prop) (h : ((SVal.bd 3 (.int .i64 (PlanV.opCode p o)))) /\ ((OpV.Wf o) /\ ((.int .i64 (PlanV.opCode p o) : SVal) = .int .i64 (PlanV.opCode p o)) /\ (ZaK (Zso bs_n bs p bs_c o) (Zso bs_n bs p bs_c o) [(0, some ⟨true, [.ints .u8 bs_n bs], 0⟩), (1, some ⟨true, [.one (.int .i64 p.cores), .one (.int .i64 p.banks), .one (.int .i64 p.pages), .one (.int .i64 p.lines), .one (.int .i64 p.arity), .one (.int .i64 p.minor), .one (.int .u64 p.major), .one (.int .i64 p.ns), .one (.int .i64 p.nw), .one (.int .i64 p.fs), .one (.int .i64 p.fw), .one (.int .i64 p.met), .one (.int .i64 p.queue), .one (.int .i64 p.kind), .ints .u8 16 p.key, .ints .u8 16 p.tag, .one (.slice ⟨0, 0, 0, 1⟩ bs_n bs_c)], 0⟩), (2, some ⟨true, (OpV.cs o), 0⟩)])) /\ Z [(0, some (.ptr ⟨1, 0, 0, 1⟩ 47)), (3, some (.ptr ⟨2, 0, 0, 1⟩ 5)), (6, some (.int .i64 (PlanV.opCode p o)))] (Zso bs_n bs p bs_c o)) : EvQC ZBQ Znk [.int .i64 (PlanV.opCode p o)] ZMP (Zso bs_n bs p bs_c o) [0, 3, 6] [0, 1, 2] Z := EvQC.of (by kernel_rfl) h
def ZwB (p : PlanV) (bs : List Int) (bs_n bs_c : Nat) (o : OpV) : Prop := ((OpV.Wf o)) /\ (∀ v6 : Int, v6 = (PlanV.opCode p o) -> ZwC p bs bs_n bs_c o v6)
theorem ZLL (p : PlanV) (bs : List Int) (bs_n bs_c : Nat) (o : OpV) (hK : ((!PlanV.byteB p o) = true -> Kf (.tuple [.int .u64 0, .int .i64 (PlanV.opCode p o)]) (Yk5 bs_n bs p bs_c)) /\ ((!PlanV.byteB p o) = false -> ∀ cap0 : Nat, bs_n <= cap0 -> Kf (.tuple [.int .u64 (PlanV.byteR p o bs), .int .i64 (PlanV.opCode p o)]) (Yk6 bs_n p o bs cap0))) (h : ZwB p bs bs_n bs_c o) : SemL Try.prog w0 fp ρi 2 44 [ZrU, (.seq (.seq Zkq Zkp) (.seq ZhE (.seq Zf6 (.seq Zfo .ret))))] ZMP (Zso bs_n bs p bs_c o) (fnK Ztz 2 Kf) :=
  Zi0 ZqN (its := Znk) (ZIG p bs bs_n bs_c o _ ⟨(ZeA (τ := ZbB) (by kernel_rfl)).2, ⟨⟨h.1, rfl, (ZaT _)⟩, (Zag (Zag (ZLM p bs bs_n bs_c o hK (PlanV.opCode p o) (h.2 (PlanV.opCode p o) rfl))))⟩⟩)
abbrev ZOb (x0 : OpV) : Env := [(0, some (.ptr ⟨1, 0, 0, 1⟩ 47)), (1, some (.agg (OpV.cs x0)))]
theorem ZIF (p : PlanV) (bs : List Int) (bs_n bs_c : Nat) (o : OpV) (Z : Env -> Heap -> Prop) (h : Z ZMP (Zso bs_n bs p bs_c o)) : EvC ZBQ ZrV (ZOb o) (Yk5 bs_n bs p bs_c) [0, 3] [0, 1, 2] Z := EvC.of (by kernel_rfl) h
def ZwA (p : PlanV) (bs : List Int) (bs_n bs_c : Nat) (o : OpV) : Prop := ZwB p bs bs_n bs_c o
theorem ZLK (p : PlanV) (bs : List Int) (bs_n bs_c : Nat) (o : OpV) (hK : ((!PlanV.byteB p o) = true -> Kf (.tuple [.int .u64 0, .int .i64 (PlanV.opCode p o)]) (Yk5 bs_n bs p bs_c)) /\ ((!PlanV.byteB p o) = false -> ∀ cap0 : Nat, bs_n <= cap0 -> Kf (.tuple [.int .u64 (PlanV.byteR p o bs), .int .i64 (PlanV.opCode p o)]) (Yk6 bs_n p o bs cap0))) (h : ZwA p bs bs_n bs_c o) : SemL Try.prog w0 fp ρi 2 44 [ZrV, (.seq ZrU (.seq (.seq Zkq Zkp) (.seq ZhE (.seq Zf6 (.seq Zfo .ret)))))] (ZOb o) (Yk5 bs_n bs p bs_c) (fnK Ztz 2 Kf) :=
  Zae ZqN (ZIF p bs bs_n bs_c o _ (Zag (ZLL p bs bs_n bs_c o hK h)))
def ZB8 (p : PlanV) (bs : List Int) (bs_n bs_c : Nat) (o : OpV) : Prop := ZwA p bs bs_n bs_c o
theorem ZQm (p : PlanV) (bs : List Int) (bs_n bs_c : Nat) (o : OpV) (hK : ((!PlanV.byteB p o) = true -> Kf (.tuple [.int .u64 0, .int .i64 (PlanV.opCode p o)]) (Yk5 bs_n bs p bs_c)) /\ ((!PlanV.byteB p o) = false -> ∀ cap0 : Nat, bs_n <= cap0 -> Kf (.tuple [.int .u64 (PlanV.byteR p o bs), .int .i64 (PlanV.opCode p o)]) (Yk6 bs_n p o bs cap0))) (h : ZB8 p bs bs_n bs_c o) : SemL Try.prog w0 fp ρi 2 44 [ZOT] (ZOb o) (Yk5 bs_n bs p bs_c) (fnK Ztz 2 Kf) :=
  (Zag (ZLK p bs bs_n bs_c o hK h))
end
theorem ZNV (p : PlanV) (bs : List Int) (bs_n bs_c : Nat) (o : OpV) (hpre : (PlanV.right p = true /\ Zgh p bs /\ List.length bs = bs_n /\ bs_n <= bs_c /\ OpV.Wf o)) : ZB8 p bs bs_n bs_c o := by
  unfold ZB8 ZwA ZwB ZwC ZwD ZwE ZwF ZwG ZwH
  obtain ⟨hr, hl, h1, h2, hw⟩ := hpre
  have ta : List.take bs_n bs = bs := List.take_of_length_le (by omega)
  have hal := PlanV.all_bd p
  have hl1 := hl.1
  refine ⟨hw, fun v6 h6 => ⟨fun h => ?_, fun h => ?_⟩⟩
  · refine ⟨?_, h6⟩
    unfold PlanV.byteB
    rw [<- h6]
    cases hc : (v6 == 0) with
    | false => rfl
    | true =>
      have e0 : v6 = 0 := by simpa using hc
      subst e0
      have hk : o.okind = 6 ∨ o.okind = 5 := by simpa [Bool.or_eq_true] using h
      rw [decide_eq_false (by omega)]
      rfl
  · have hc : p.opCode o = 0 /\ o.okind ≠ 6 /\ o.okind ≠ 5 := by
      rw [Bool.or_eq_false_iff, Bool.or_eq_false_iff, bne_eq_false_iff_eq, beq_eq_false_iff_ne, beq_eq_false_iff_ne] at h
      exact ⟨by rw [<- h6]; exact h.1.1, h.1.2, h.2⟩
    have hk := PlanV.code_kind hc.1
    have hb : p.byteB o = true := by unfold PlanV.byteB; rw [hc.1, decide_eq_true (by omega)]; rfl
    obtain ⟨_, hg, hs, a0, a1, _⟩ := PlanV.byte_at hb
    rw [ta, hb]
    refine ⟨by omega, ⟨hw, hs, h1, h2, by omega, hl.2, a0, by omega⟩, fun c hcc v8 h8 h3 hh3 x3 hx3 => ⟨rfl, ?_, hc.1.symm, ?_, hx3, hcc⟩⟩
    · rw [h8]; unfold PlanV.byteR; rw [if_pos hb]
    · rw [hh3]; unfold PlanV.byteL; rw [if_pos hb]
theorem ZQp : Sound Try.prog 31 (gS ZOH) := by
  refine Zbx ZyN ?_
  intro args H K h
  obtain ⟨pre, out, hD, hpre, hK⟩ := Zjf h
  unfold ZOH at hD
  split at hD
  · obtain ⟨hb, hD⟩ := ZaP hD
    simp only [Bool.and_eq_true] at hb
    obtain ⟨h0, h1⟩ := hb
    obtain rfl := Nat.eq_of_beq_eq_true h0
    obtain rfl := Nat.eq_of_beq_eq_true h1
    cases hD
    obtain ⟨rfl, hpre⟩ := hpre
    exact ⟨rfl, fun w0 fp ρi => ZQm (PlanV.mk _ _ _ _ _ _ _ _ _ _ _ _ _ _ _ _) _ _ _ (OpV.mk _ _ _ _ _) hK (ZNV (PlanV.mk _ _ _ _ _ _ _ _ _ _ _ _ _ _ _ _) _ _ _ (OpV.mk _ _ _ _ _) hpre)⟩
  · cases hD
def Zzd : ZkO := fun args H => match args, H with
  | [.ptr ⟨1, 0, 0, 1⟩ 47, .int .i64 n], ⟨2, [(0, some ⟨true, [.ints .u8 bs_m bs], 0⟩), (1, some ⟨true, [.one (.int .i64 p_0), .one (.int .i64 p_1), .one (.int .i64 p_2), .one (.int .i64 p_3), .one (.int .i64 p_4), .one (.int .i64 p_5), .one (.int .u64 p_6), .one (.int .i64 p_7), .one (.int .i64 p_8), .one (.int .i64 p_9), .one (.int .i64 p_10), .one (.int .i64 p_11), .one (.int .i64 p_12), .one (.int .i64 p_13), .ints .u8 p_14_n p_14, .ints .u8 p_15_n p_15, .one (.slice ⟨0, 0, 0, 1⟩ bs_n bs_c)], 0⟩)]⟩ => bif Nat.beq p_14_n 16 && Nat.beq p_15_n 16 then some (bs_m = bs_n /\ (PlanV.right (PlanV.mk p_0 p_1 p_2 p_3 p_4 p_5 p_6 p_7 p_8 p_9 p_10 p_11 p_12 p_13 p_14 p_15) = true /\ Zgh (PlanV.mk p_0 p_1 p_2 p_3 p_4 p_5 p_6 p_7 p_8 p_9 p_10 p_11 p_12 p_13 p_14 p_15) bs /\ List.length bs = bs_n /\ bs_n <= bs_c /\ 0 <= n /\ 32 * n + 32 <= (bs_n : Int)), fun K => K (.agg [.ints .u8 32 (List.take 32 (List.drop (32 * Int.toNat n) bs))]) ⟨2, [(0, some ⟨true, [.ints .u8 bs_n bs], 0⟩), (1, some ⟨true, [.one (.int .i64 p_0), .one (.int .i64 p_1), .one (.int .i64 p_2), .one (.int .i64 p_3), .one (.int .i64 p_4), .one (.int .i64 p_5), .one (.int .u64 p_6), .one (.int .i64 p_7), .one (.int .i64 p_8), .one (.int .i64 p_9), .one (.int .i64 p_10), .one (.int .i64 p_11), .one (.int .i64 p_12), .one (.int .i64 p_13), .ints .u8 16 p_14, .ints .u8 16 p_15, .one (.slice ⟨0, 0, 0, 1⟩ bs_n bs_c)], 0⟩)]⟩) else none
  | _, _ => none
def ZAP : Con := ⟨33, gS Zzd, [0, 1], [], []⟩
def ZrQ : ACode := .reg (.op (some 4) (.alloc [.ints .u8 32 (List.replicate 32 0)]) .nil)
def Zng : ACode := .reg (.op (some 7) (.build [.ints .u8 32 (List.replicate 32 0)] []) (.op (some 5) (.alloc [.ints .u8 32 (List.replicate 32 0)]) (.op none (.storeA 32 (.tm 5) (.tm 7)) .nil)))
def Zko : ACode := .reg (.op (some 6) (.mov (.cn (.int .i64 0))) .nil)
def ZrP : ACode := .reg (.op (some 8) (.mov (.tm 6)) (.op (some 9) (.bin .lss (.tm 8) (.cn (.int .i64 32))) .nil))
def ZrO : ACode := .cond (.tm 9) .skip (.exit 0)
def ZrN : ACode := .reg (.op (some 12) (.mov (.tm 6)) (.op (some 13) (.mov (.tm 0)) (.op (some 14) (.nilCheck (.tm 13)) (.op (some 15) (.fieldAddr (.tm 14) 46 1) (.op (some 16) (.load1 (.tm 15)) (.op (some 17) (.mov (.tm 1)) (.op (some 18) (.bin .mul (.cn (.int .i64 32)) (.tm 17)) (.op (some 19) (.mov (.tm 6)) (.op (some 20) (.bin .add (.tm 18) (.tm 19)) (.op (some 21) (.idxS (.tm 16) (.tm 20) 1) (.op (some 22) (.load1 (.tm 21)) (.op (some 23) (.idxA (.tm 5) (.tm 12) 32 1) (.op none (.store1 (.tm 23) (.tm 22)) .nil)))))))))))))
def Znf : ACode := .block 1 ZrN
def ZhC : ACode := .reg (.op (some 10) (.mov (.tm 6)) (.op (some 11) (.bin .add (.tm 10) (.cn (.int .i64 1))) (.op (some 6) (.mov (.tm 11)) .nil)))
def Zyw : ACode := .loop (.seq (.seq ZrP ZrO) (.seq Znf ZhC))
def Zkn : ACode := .block 0 Zyw
def Ze8 : ACode := .reg (.op (some 24) (.loadA 32 (.tm 5)) (.op none (.storeA 32 (.tm 4) (.tm 24)) .nil))
def ZBE : ACode := (.seq ZrQ (.seq Zng (.seq (.seq Zko Zkn) (.seq Ze8 .ret))))
def ZgO : Res := .one (.cA 4 32)
theorem Zsg : ZbD Try.prog 33 2 25 ZBE ZgO = true := by kernel_rfl
def Zjj : Za8 := ZdW [] []
theorem Zhr : Za9 Try.prog Zjj := ZbI trivial trivial
section
variable {w0 : World} {fp : Nat -> Nat -> Prop} {ρi : Rho} {Kf : SVal -> Heap -> Prop}
def Zx2 (w0 : World) (fp : Nat -> Nat -> Prop) (ρi : Rho) (Kf : SVal -> Heap -> Prop) (p : PlanV) (bs : List Int) (bs_n bs_c : Nat) (n : Int) : Zek := ZcF 0 (fun e H => SemL Try.prog w0 fp ρi 2 25 [(.seq Ze8 .ret)] e H (fnK ZgO 2 Kf)) (fnK ZgO 2 Kf)
def Zx7 (p : PlanV) (bs : List Int) (bs_n bs_c : Nat) (n : Int) : Int × List Int -> Prop := fun s => match s with | (v6, h3) => 0 <= v6 /\ v6 <= 32 /\ h3.length = 32 /\ ∀ j : Nat, j < 32 -> h3.getD j 0 = if (j : Int) < v6 then bs.getD (32 * n.toNat + j) 0 else 0
def ZxQ (p : PlanV) (bs : List Int) (bs_n bs_c : Nat) (n : Int) : Int × List Int -> Nat := fun s => match s with | (v6, h3) => ((32 - v6).toNat)
def ZxY (p : PlanV) (bs : List Int) (bs_n bs_c : Nat) (n : Int) : Int × List Int -> Env := fun s => match s with | (v6, h3) => [(0, some (.ptr ⟨1, 0, 0, 1⟩ 47)), (1, some (.int .i64 n)), (4, some (.ptr ⟨2, 0, 0, 1⟩ 32)), (5, some (.ptr ⟨3, 0, 0, 1⟩ 32)), (6, some (.int .i64 v6))]
def ZxU (p : PlanV) (bs : List Int) (bs_n bs_c : Nat) (n : Int) : Int × List Int -> Heap := fun s => match s with | (v6, h3) => ⟨4, [(0, some ⟨true, [.ints .u8 bs_n bs], 0⟩), (1, some ⟨true, [.one (.int .i64 p.cores), .one (.int .i64 p.banks), .one (.int .i64 p.pages), .one (.int .i64 p.lines), .one (.int .i64 p.arity), .one (.int .i64 p.minor), .one (.int .u64 p.major), .one (.int .i64 p.ns), .one (.int .i64 p.nw), .one (.int .i64 p.fs), .one (.int .i64 p.fw), .one (.int .i64 p.met), .one (.int .i64 p.queue), .one (.int .i64 p.kind), .ints .u8 16 p.key, .ints .u8 16 p.tag, .one (.slice ⟨0, 0, 0, 1⟩ bs_n bs_c)], 0⟩), (2, some ⟨true, [.ints .u8 32 (List.replicate 32 0)], 0⟩), (3, some ⟨true, [.ints .u8 32 h3], 0⟩)]⟩
def ZiL (w0 : World) (fp : Nat -> Nat -> Prop) (ρi : Rho) (Kf : SVal -> Heap -> Prop) (p : PlanV) (bs : List Int) (bs_n bs_c : Nat) (n v6 : Int) (h3 : List Int) : Zek := ZjY 2 (Zx7 p bs bs_n bs_c n) (ZxQ p bs bs_n bs_c n) (ZxY p bs bs_n bs_c n) (ZxU p bs bs_n bs_c n) (v6, h3) (Zx2 w0 fp ρi Kf p bs bs_n bs_c n)
abbrev Zuf (x0 : Nat) (x1 : List Int) (x2 : PlanV) (x3 : Nat) (x4 : List Int) : Heap := ⟨4, [(0, some ⟨true, [.ints .u8 x0 x1], 0⟩), (1, some ⟨true, [.one (.int .i64 x2.cores), .one (.int .i64 x2.banks), .one (.int .i64 x2.pages), .one (.int .i64 x2.lines), .one (.int .i64 x2.arity), .one (.int .i64 x2.minor), .one (.int .u64 x2.major), .one (.int .i64 x2.ns), .one (.int .i64 x2.nw), .one (.int .i64 x2.fs), .one (.int .i64 x2.fw), .one (.int .i64 x2.met), .one (.int .i64 x2.queue), .one (.int .i64 x2.kind), .ints .u8 16 x2.key, .ints .u8 16 x2.tag, .one (.slice ⟨0, 0, 0, 1⟩ x0 x3)], 0⟩), (2, some ⟨true, [.ints .u8 32 (List.replicate 32 0)], 0⟩), (3, some ⟨true, [.ints .u8 32 x4], 0⟩)]⟩
abbrev ZBO (x0 x1 : Int) : Env := [(0, some (.ptr ⟨1, 0, 0, 1⟩ 47)), (1, some (.int .i64 x0)), (4, some (.ptr ⟨2, 0, 0, 1⟩ 32)), (5, some (.ptr ⟨3, 0, 0, 1⟩ 32)), (6, some (.int .i64 x1))]
theorem ZIA (p : PlanV) (bs : List Int) (bs_n bs_c : Nat) (n v6 : Int) (h3'1 h3 : List Int) (Z : Env -> Heap -> Prop) (h : Z [(0, some (.ptr ⟨1, 0, 0, 1⟩ 47)), (1, some (.int .i64 n)), (4, some (.ptr ⟨2, 0, 0, 1⟩ 32)), (5, some (.ptr ⟨3, 0, 0, 1⟩ 32)), (6, some (.int .i64 (IntKind.i64.wrap (v6 + 1))))] (Zuf bs_n bs p bs_c h3'1)) : EvC Zjj ZhC (ZBO n v6) (Zuf bs_n bs p bs_c h3'1) [0, 1, 4, 5, 6] [0, 1, 2, 3] Z := EvC.of (by kernel_rfl) h
def Zwu (p : PlanV) (bs : List Int) (bs_n bs_c : Nat) (n v6 : Int) (h3'1 h3 : List Int) : Prop := (0 <= (IntKind.i64.wrap (v6 + 1)) /\ (IntKind.i64.wrap (v6 + 1)) <= 32 /\ h3'1.length = 32 /\ ∀ j : Nat, j < 32 -> h3'1.getD j 0 = if (j : Int) < (IntKind.i64.wrap (v6 + 1)) then bs.getD (32 * n.toNat + j) 0 else 0) /\ (((32 - (IntKind.i64.wrap (v6 + 1))).toNat) < ((32 - v6).toNat))
abbrev Zue (x0 : SVal -> Heap -> Prop) (x1 : Int) (x2 : List Int) (x3 : Nat) (x4 : PlanV) (x5 : Nat) : Prop := x0 (.agg [.ints .u8 32 (List.take 32 (List.drop (32 * Int.toNat x1) x2))]) ⟨2, [(0, some ⟨true, [.ints .u8 x3 x2], 0⟩), (1, some ⟨true, [.one (.int .i64 x4.cores), .one (.int .i64 x4.banks), .one (.int .i64 x4.pages), .one (.int .i64 x4.lines), .one (.int .i64 x4.arity), .one (.int .i64 x4.minor), .one (.int .u64 x4.major), .one (.int .i64 x4.ns), .one (.int .i64 x4.nw), .one (.int .i64 x4.fs), .one (.int .i64 x4.fw), .one (.int .i64 x4.met), .one (.int .i64 x4.queue), .one (.int .i64 x4.kind), .ints .u8 16 x4.key, .ints .u8 16 x4.tag, .one (.slice ⟨0, 0, 0, 1⟩ x3 x5)], 0⟩)]⟩
theorem ZLE (p : PlanV) (bs : List Int) (bs_n bs_c : Nat) (n : Int) (hK : (Zue Kf n bs bs_n p bs_c)) (v6 : Int) (h3'1 h3 : List Int) (h : Zwu p bs bs_n bs_c n v6 h3'1 h3) : SemL Try.prog w0 fp ρi 2 25 [ZhC] (ZBO n v6) (Zuf bs_n bs p bs_c h3'1) (ZiL w0 fp ρi Kf p bs bs_n bs_c n v6 h3) :=
  Zae Zhr (ZIA p bs bs_n bs_c n v6 h3'1 h3 _ (Zej (ZdE (x' := ((IntKind.i64.wrap (v6 + 1)), h3'1)) (τ := tau []) h.1 h.2 (ZbT [] [0, 1, 2, 3] rfl rfl (esc bpt (esc pbd (esc bpt (esc bpt (esc pbd Zbv))))) (hsc pcs (hsc (Zaa pbd (Zaa pbd (Zaa pbd (Zaa pbd (Zaa pbd (Zaa pbd (Zaa pbd (Zaa pbd (Zaa pbd (Zaa pbd (Zaa pbd (Zaa pbd (Zaa pbd (Zaa pbd (ZaW (ZaW (Zaa bsl Zb0))))))))))))))))) (hsc pcs (hsc pcs Zaw)))) (by kernel_rfl) rfl))))
def ZF5 (w0 : World) (fp : Nat -> Nat -> Prop) (ρi : Rho) (Kf : SVal -> Heap -> Prop) (p : PlanV) (bs : List Int) (bs_n bs_c : Nat) (n v6 : Int) (h3 : List Int) : Zek := ZcF 1 (fun e H => SemL Try.prog w0 fp ρi 2 25 [ZhC] e H (ZiL w0 fp ρi Kf p bs bs_n bs_c n v6 h3)) (ZiL w0 fp ρi Kf p bs bs_n bs_c n v6 h3)
theorem ZIz (p : PlanV) (bs : List Int) (bs_n bs_c : Nat) (n v6 : Int) (h3 : List Int) (Z : Env -> Heap -> Prop) (h : ((0 <= (IntKind.i64.wrap ((IntKind.i64.wrap (32 * n)) + v6)))) /\ (((IntKind.i64.wrap ((IntKind.i64.wrap (32 * n)) + v6)) < ((bs_n : Nat) : Int))) /\ (((0 + (Int.toNat (IntKind.i64.wrap ((IntKind.i64.wrap (32 * n)) + v6)))) < bs_n)) /\ ((0 <= v6)) /\ ((v6 < 32)) /\ (((0 + ((Int.toNat v6) * 1)) < 32)) /\ (((0 + ((Int.toNat v6) * 1)) < List.length h3)) /\ Z (ZBO n v6) ⟨4, [(0, some ⟨true, [.ints .u8 bs_n bs], 0⟩), (1, some ⟨true, [.one (.int .i64 p.cores), .one (.int .i64 p.banks), .one (.int .i64 p.pages), .one (.int .i64 p.lines), .one (.int .i64 p.arity), .one (.int .i64 p.minor), .one (.int .u64 p.major), .one (.int .i64 p.ns), .one (.int .i64 p.nw), .one (.int .i64 p.fs), .one (.int .i64 p.fw), .one (.int .i64 p.met), .one (.int .i64 p.queue), .one (.int .i64 p.kind), .ints .u8 16 p.key, .ints .u8 16 p.tag, .one (.slice ⟨0, 0, 0, 1⟩ bs_n bs_c)], 0⟩), (2, some ⟨true, [.ints .u8 32 (List.replicate 32 0)], 0⟩), (3, some ⟨true, [.ints .u8 32 (List.set h3 (0 + ((Int.toNat v6) * 1)) (List.getD bs (0 + (Int.toNat (IntKind.i64.wrap ((IntKind.i64.wrap (32 * n)) + v6)))) 0))], 0⟩)]⟩) : EvC Zjj ZrN (ZBO n v6) (Zuf bs_n bs p bs_c h3) [0, 1, 4, 5, 6] [0, 1, 2, 3] Z := EvC.of (by kernel_rfl) h
def Zwt (p : PlanV) (bs : List Int) (bs_n bs_c : Nat) (n v6 : Int) (h3 : List Int) : Prop := ((0 <= (IntKind.i64.wrap ((IntKind.i64.wrap (32 * n)) + v6)))) /\ ((((IntKind.i64.wrap ((IntKind.i64.wrap (32 * n)) + v6)) < ((bs_n : Nat) : Int))) /\ ((((0 + (Int.toNat (IntKind.i64.wrap ((IntKind.i64.wrap (32 * n)) + v6)))) < bs_n)) /\ (((0 <= v6)) /\ (((v6 < 32)) /\ ((((0 + ((Int.toNat v6) * 1)) < 32)) /\ ((((0 + ((Int.toNat v6) * 1)) < List.length h3)) /\ (∀ h3'1 : List Int, h3'1 = (List.set h3 (0 + ((Int.toNat v6) * 1)) (List.getD bs (0 + (Int.toNat (IntKind.i64.wrap ((IntKind.i64.wrap (32 * n)) + v6)))) 0)) -> Zwu p bs bs_n bs_c n v6 h3'1 h3)))))))
theorem ZLD (p : PlanV) (bs : List Int) (bs_n bs_c : Nat) (n : Int) (hK : (Zue Kf n bs bs_n p bs_c)) (v6 : Int) (h3 : List Int) (h : Zwt p bs bs_n bs_c n v6 h3) : SemL Try.prog w0 fp ρi 2 25 [ZrN] (ZBO n v6) (Zuf bs_n bs p bs_c h3) (ZF5 w0 fp ρi Kf p bs bs_n bs_c n v6 h3) :=
  Zae Zhr (ZIz p bs bs_n bs_c n v6 h3 _ ⟨h.1, ⟨h.2.1, ⟨h.2.2.1, ⟨h.2.2.2.1, ⟨h.2.2.2.2.1, ⟨h.2.2.2.2.2.1, ⟨h.2.2.2.2.2.2.1, (Zej (ZLE p bs bs_n bs_c n hK v6 (List.set h3 (0 + ((Int.toNat v6) * 1)) (List.getD bs (0 + (Int.toNat (IntKind.i64.wrap ((IntKind.i64.wrap (32 * n)) + v6)))) 0)) h3 (h.2.2.2.2.2.2.2 (List.set h3 (0 + ((Int.toNat v6) * 1)) (List.getD bs (0 + (Int.toNat (IntKind.i64.wrap ((IntKind.i64.wrap (32 * n)) + v6)))) 0)) rfl)))⟩⟩⟩⟩⟩⟩⟩)
def Zws (p : PlanV) (bs : List Int) (bs_n bs_c : Nat) (n v6 : Int) (h3 : List Int) : Prop := Zwt p bs bs_n bs_c n v6 h3
theorem ZLC (p : PlanV) (bs : List Int) (bs_n bs_c : Nat) (n : Int) (hK : (Zue Kf n bs bs_n p bs_c)) (v6 : Int) (h3 : List Int) (h : Zws p bs bs_n bs_c n v6 h3) : SemL Try.prog w0 fp ρi 2 25 [Znf, ZhC] (ZBO n v6) (Zuf bs_n bs p bs_c h3) (ZiL w0 fp ρi Kf p bs bs_n bs_c n v6 h3) :=
  Zb4 (ZLD p bs bs_n bs_c n hK v6 h3 h)
abbrev ZOa (x0 : Nat) (x1 : List Int) (x2 : PlanV) (x3 : Nat) (x4 : List Int) : Heap := ⟨4, [(0, some ⟨true, [.ints .u8 x0 x1], 0⟩), (1, some ⟨true, [.one (.int .i64 x2.cores), .one (.int .i64 x2.banks), .one (.int .i64 x2.pages), .one (.int .i64 x2.lines), .one (.int .i64 x2.arity), .one (.int .i64 x2.minor), .one (.int .u64 x2.major), .one (.int .i64 x2.ns), .one (.int .i64 x2.nw), .one (.int .i64 x2.fs), .one (.int .i64 x2.fw), .one (.int .i64 x2.met), .one (.int .i64 x2.queue), .one (.int .i64 x2.kind), .ints .u8 16 x2.key, .ints .u8 16 x2.tag, .one (.slice ⟨0, 0, 0, 1⟩ x0 x3)], 0⟩), (2, some ⟨true, [.ints .u8 32 x4], 0⟩)]⟩
abbrev ZPe : Env := [(4, some (.ptr ⟨2, 0, 0, 1⟩ 32)), (5, some (.ptr ⟨3, 0, 0, 1⟩ 32))]
theorem ZIy (p : PlanV) (bs : List Int) (bs_n bs_c : Nat) (n : Int) (h3 : List Int) (Z : Env -> Heap -> Prop) (h : Z [(4, some (.ptr ⟨2, 0, 0, 1⟩ 32))] (ZOa bs_n bs p bs_c h3)) : EvC Zjj Ze8 ZPe (Zuf bs_n bs p bs_c h3) [4] [0, 1, 2] Z := EvC.of (by kernel_rfl) h
theorem ZDW (p : PlanV) (bs : List Int) (bs_n bs_c : Nat) (n : Int) (h3 : List Int) : RetC ZgO [(4, some (.ptr ⟨2, 0, 0, 1⟩ 32))] (ZOa bs_n bs p bs_c h3) (.agg [.ints .u8 32 h3]) := RetC.of (fun Z => by kernel_rfl)
def Zwr (p : PlanV) (bs : List Int) (bs_n bs_c : Nat) (n : Int) (h3 : List Int) : Prop := h3 = (List.take 32 (List.drop (32 * Int.toNat n) bs))
theorem ZLB (p : PlanV) (bs : List Int) (bs_n bs_c : Nat) (n : Int) (hK : (Zue Kf n bs bs_n p bs_c)) (h3 : List Int) (h : Zwr p bs bs_n bs_c n h3) : SemL Try.prog w0 fp ρi 2 25 [Ze8, .ret] ZPe (Zuf bs_n bs p bs_c h3) (fnK ZgO 2 Kf) :=
  Zae Zhr (ZIy p bs bs_n bs_c n h3 _ (Zba (R := ZgO) (m := 2) (Kf := Kf) (fun _ _ h => h) (ZDW p bs bs_n bs_c n h3) (Zcd (Eq.mpr (cg1 (fun (z1 : List Int) => Ziu 2 Kf (.agg [.ints .u8 32 z1]) (ZOa bs_n bs p bs_c h3)) h) (ZbL [] [0, 1] rfl (by kernel_rfl) rfl pbd (hsc pcs (hsc (Zaa pbd (Zaa pbd (Zaa pbd (Zaa pbd (Zaa pbd (Zaa pbd (Zaa pbd (Zaa pbd (Zaa pbd (Zaa pbd (Zaa pbd (Zaa pbd (Zaa pbd (Zaa pbd (ZaW (ZaW (Zaa bsl Zb0))))))))))))))))) Zaw)) rfl (by kernel_rfl) (hK))))))
def Zwq (p : PlanV) (bs : List Int) (bs_n bs_c : Nat) (n v6 : Int) (h3 : List Int) : Prop := ((decide (v6 < 32)) = true -> (Zws p bs bs_n bs_c n v6 h3)) /\ ((decide (v6 < 32)) = false -> (Zwr p bs bs_n bs_c n h3))
abbrev ZPd (x0 x1 : Int) : Env := [(0, some (.ptr ⟨1, 0, 0, 1⟩ 47)), (1, some (.int .i64 x0)), (4, some (.ptr ⟨2, 0, 0, 1⟩ 32)), (5, some (.ptr ⟨3, 0, 0, 1⟩ 32)), (6, some (.int .i64 x1)), (9, some (.bool (decide (x1 < 32))))]
theorem ZLA (p : PlanV) (bs : List Int) (bs_n bs_c : Nat) (n : Int) (hK : (Zue Kf n bs bs_n p bs_c)) (v6 : Int) (h3 : List Int) (h : Zwq p bs bs_n bs_c n v6 h3) : SemL Try.prog w0 fp ρi 2 25 [ZrO, (.seq Znf ZhC)] (ZPd n v6) (Zuf bs_n bs p bs_c h3) (ZiL w0 fp ρi Kf p bs bs_n bs_c n v6 h3) :=
  Zbf (q := (decide (v6 < 32))) (by kernel_rfl) (fun hq => (Zbu (lpk [0, 1, 4, 5, 6] [0, 1, 2, 3] (Zag (ZLC p bs bs_n bs_c n hK v6 h3 (h.1 hq)))))) (fun hq => (ZfI (lpk [4, 5] [0, 1, 2, 3] (Zag (ZLB p bs bs_n bs_c n hK h3 (h.2 hq))))))
theorem ZIx (p : PlanV) (bs : List Int) (bs_n bs_c : Nat) (n v6 : Int) (h3 : List Int) (Z : Env -> Heap -> Prop) (h : Z (ZPd n v6) (Zuf bs_n bs p bs_c h3)) : EvC Zjj ZrP (ZBO n v6) (Zuf bs_n bs p bs_c h3) [0, 1, 4, 5, 6, 9] [0, 1, 2, 3] Z := EvC.of (by kernel_rfl) h
def Zwp (p : PlanV) (bs : List Int) (bs_n bs_c : Nat) (n v6 : Int) (h3 : List Int) : Prop := Zwq p bs bs_n bs_c n v6 h3
theorem ZLz (p : PlanV) (bs : List Int) (bs_n bs_c : Nat) (n : Int) (hK : (Zue Kf n bs bs_n p bs_c)) (v6 : Int) (h3 : List Int) (h : Zwp p bs bs_n bs_c n v6 h3) : SemL Try.prog w0 fp ρi 2 25 [ZrP, ZrO, (.seq Znf ZhC)] (ZBO n v6) (Zuf bs_n bs p bs_c h3) (ZiL w0 fp ρi Kf p bs bs_n bs_c n v6 h3) :=
  Zae Zhr (ZIx p bs bs_n bs_c n v6 h3 _ (ZLA p bs bs_n bs_c n hK v6 h3 h))
def Zwo (p : PlanV) (bs : List Int) (bs_n bs_c : Nat) (n : Int) : Prop := (0 <= (0 : Int) /\ (0 : Int) <= 32 /\ (List.replicate 32 0).length = 32 /\ ∀ j : Nat, j < 32 -> (List.replicate 32 0).getD j 0 = if (j : Int) < (0 : Int) then bs.getD (32 * n.toNat + j) 0 else 0) /\ (∀ (v6 : Int) (h3 : List Int), (0 <= v6 /\ v6 <= 32 /\ h3.length = 32 /\ ∀ j : Nat, j < 32 -> h3.getD j 0 = if (j : Int) < v6 then bs.getD (32 * n.toNat + j) 0 else 0) -> (Zwp p bs bs_n bs_c n v6 h3))
abbrev ZN9 (x0 : Int) : Env := [(0, some (.ptr ⟨1, 0, 0, 1⟩ 47)), (1, some (.int .i64 x0)), (4, some (.ptr ⟨2, 0, 0, 1⟩ 32)), (5, some (.ptr ⟨3, 0, 0, 1⟩ 32)), (6, some (.int .i64 0))]
abbrev ZGy (x0 : Nat) (x1 : List Int) (x2 : PlanV) (x3 : Nat) : Heap := ⟨4, [(0, some ⟨true, [.ints .u8 x0 x1], 0⟩), (1, some ⟨true, [.one (.int .i64 x2.cores), .one (.int .i64 x2.banks), .one (.int .i64 x2.pages), .one (.int .i64 x2.lines), .one (.int .i64 x2.arity), .one (.int .i64 x2.minor), .one (.int .u64 x2.major), .one (.int .i64 x2.ns), .one (.int .i64 x2.nw), .one (.int .i64 x2.fs), .one (.int .i64 x2.fw), .one (.int .i64 x2.met), .one (.int .i64 x2.queue), .one (.int .i64 x2.kind), .ints .u8 16 x2.key, .ints .u8 16 x2.tag, .one (.slice ⟨0, 0, 0, 1⟩ x0 x3)], 0⟩), (2, some ⟨true, [.ints .u8 32 (List.replicate 32 0)], 0⟩), (3, some ⟨true, [.ints .u8 32 (List.replicate 32 0)], 0⟩)]⟩
theorem ZLy (p : PlanV) (bs : List Int) (bs_n bs_c : Nat) (n : Int) (hK : (Zue Kf n bs bs_n p bs_c)) (h : Zwo p bs bs_n bs_c n) : SemL Try.prog w0 fp ρi 2 25 [Zyw] (ZN9 n) (ZGy bs_n bs p bs_c) (Zx2 w0 fp ρi Kf p bs bs_n bs_c n) :=
  Ziw (Zx7 p bs bs_n bs_c n) (ZxQ p bs bs_n bs_c n) (ZxY p bs bs_n bs_c n) (ZxU p bs bs_n bs_c n) ⟨(0, (List.replicate 32 0)), tau [], h.1, (ZbT [] [0, 1, 2, 3] rfl rfl (esc bpt (esc pbd (esc bpt (esc bpt (esc pbd Zbv))))) (hsc pcs (hsc (Zaa pbd (Zaa pbd (Zaa pbd (Zaa pbd (Zaa pbd (Zaa pbd (Zaa pbd (Zaa pbd (Zaa pbd (Zaa pbd (Zaa pbd (Zaa pbd (Zaa pbd (Zaa pbd (ZaW (ZaW (Zaa bsl Zb0))))))))))))))))) (hsc pcs (hsc pcs Zaw)))) (by kernel_rfl) rfl)⟩ (fun s => match s with | (v6, h3) => fun hi => (Zag (Zag (ZLz p bs bs_n bs_c n hK v6 h3 (h.2 v6 h3 hi)))))
def Zwn (p : PlanV) (bs : List Int) (bs_n bs_c : Nat) (n : Int) : Prop := Zwo p bs bs_n bs_c n
theorem ZLx (p : PlanV) (bs : List Int) (bs_n bs_c : Nat) (n : Int) (hK : (Zue Kf n bs bs_n p bs_c)) (h : Zwn p bs bs_n bs_c n) : SemL Try.prog w0 fp ρi 2 25 [Zkn, (.seq Ze8 .ret)] (ZN9 n) (ZGy bs_n bs p bs_c) (fnK ZgO 2 Kf) :=
  Zb4 (ZLy p bs bs_n bs_c n hK h)
abbrev ZN8 (x0 : Int) : Env := [(0, some (.ptr ⟨1, 0, 0, 1⟩ 47)), (1, some (.int .i64 x0)), (4, some (.ptr ⟨2, 0, 0, 1⟩ 32)), (5, some (.ptr ⟨3, 0, 0, 1⟩ 32))]
theorem ZIw (p : PlanV) (bs : List Int) (bs_n bs_c : Nat) (n : Int) (Z : Env -> Heap -> Prop) (h : Z (ZN9 n) (ZGy bs_n bs p bs_c)) : EvC Zjj Zko (ZN8 n) (ZGy bs_n bs p bs_c) [0, 1, 4, 5, 6] [0, 1, 2, 3] Z := EvC.of (by kernel_rfl) h
def Zwm (p : PlanV) (bs : List Int) (bs_n bs_c : Nat) (n : Int) : Prop := Zwn p bs bs_n bs_c n
theorem ZLw (p : PlanV) (bs : List Int) (bs_n bs_c : Nat) (n : Int) (hK : (Zue Kf n bs bs_n p bs_c)) (h : Zwm p bs bs_n bs_c n) : SemL Try.prog w0 fp ρi 2 25 [Zko, Zkn, (.seq Ze8 .ret)] (ZN8 n) (ZGy bs_n bs p bs_c) (fnK ZgO 2 Kf) :=
  Zae Zhr (ZIw p bs bs_n bs_c n _ (ZLx p bs bs_n bs_c n hK h))
abbrev ZN7 (x0 : Int) : Env := [(0, some (.ptr ⟨1, 0, 0, 1⟩ 47)), (1, some (.int .i64 x0)), (4, some (.ptr ⟨2, 0, 0, 1⟩ 32))]
abbrev ZN6 (x0 : Nat) (x1 : List Int) (x2 : PlanV) (x3 : Nat) : Heap := ⟨3, [(0, some ⟨true, [.ints .u8 x0 x1], 0⟩), (1, some ⟨true, [.one (.int .i64 x2.cores), .one (.int .i64 x2.banks), .one (.int .i64 x2.pages), .one (.int .i64 x2.lines), .one (.int .i64 x2.arity), .one (.int .i64 x2.minor), .one (.int .u64 x2.major), .one (.int .i64 x2.ns), .one (.int .i64 x2.nw), .one (.int .i64 x2.fs), .one (.int .i64 x2.fw), .one (.int .i64 x2.met), .one (.int .i64 x2.queue), .one (.int .i64 x2.kind), .ints .u8 16 x2.key, .ints .u8 16 x2.tag, .one (.slice ⟨0, 0, 0, 1⟩ x0 x3)], 0⟩), (2, some ⟨true, [.ints .u8 32 (List.replicate 32 0)], 0⟩)]⟩
theorem ZIv (p : PlanV) (bs : List Int) (bs_n bs_c : Nat) (n : Int) (Z : Env -> Heap -> Prop) (h : Z (ZN8 n) (ZGy bs_n bs p bs_c)) : EvC Zjj Zng (ZN7 n) (ZN6 bs_n bs p bs_c) [0, 1, 4, 5] [0, 1, 2, 3] Z := EvC.of (by kernel_rfl) h
def Zwl (p : PlanV) (bs : List Int) (bs_n bs_c : Nat) (n : Int) : Prop := Zwm p bs bs_n bs_c n
theorem ZLv (p : PlanV) (bs : List Int) (bs_n bs_c : Nat) (n : Int) (hK : (Zue Kf n bs bs_n p bs_c)) (h : Zwl p bs bs_n bs_c n) : SemL Try.prog w0 fp ρi 2 25 [Zng, (.seq (.seq Zko Zkn) (.seq Ze8 .ret))] (ZN7 n) (ZN6 bs_n bs p bs_c) (fnK ZgO 2 Kf) :=
  Zae Zhr (ZIv p bs bs_n bs_c n _ (Zag (Zag (ZLw p bs bs_n bs_c n hK h))))
abbrev ZN5 (x0 : Int) : Env := [(0, some (.ptr ⟨1, 0, 0, 1⟩ 47)), (1, some (.int .i64 x0))]
theorem ZCR (p : PlanV) (bs : List Int) (bs_n bs_c : Nat) (n : Int) (Z : Env -> Heap -> Prop) (h : Z (ZN7 n) (ZN6 bs_n bs p bs_c)) : EvC Zjj ZrQ (ZN5 n) (Yk5 bs_n bs p bs_c) [0, 1, 4] [0, 1, 2] Z := EvC.of (by kernel_rfl) h
def ZpY (p : PlanV) (bs : List Int) (bs_n bs_c : Nat) (n : Int) : Prop := Zwl p bs bs_n bs_c n
theorem ZFd (p : PlanV) (bs : List Int) (bs_n bs_c : Nat) (n : Int) (hK : (Zue Kf n bs bs_n p bs_c)) (h : ZpY p bs bs_n bs_c n) : SemL Try.prog w0 fp ρi 2 25 [ZrQ, (.seq Zng (.seq (.seq Zko Zkn) (.seq Ze8 .ret)))] (ZN5 n) (Yk5 bs_n bs p bs_c) (fnK ZgO 2 Kf) :=
  Zae Zhr (ZCR p bs bs_n bs_c n _ (Zag (ZLv p bs bs_n bs_c n hK h)))
def ZqH (p : PlanV) (bs : List Int) (bs_n bs_c : Nat) (n : Int) : Prop := ZpY p bs bs_n bs_c n
theorem ZGM (p : PlanV) (bs : List Int) (bs_n bs_c : Nat) (n : Int) (hK : (Zue Kf n bs bs_n p bs_c)) (h : ZqH p bs bs_n bs_c n) : SemL Try.prog w0 fp ρi 2 25 [ZBE] (ZN5 n) (Yk5 bs_n bs p bs_c) (fnK ZgO 2 Kf) :=
  (Zag (ZFd p bs bs_n bs_c n hK h))
end
theorem ZF1 (p : PlanV) (bs : List Int) (bs_n bs_c : Nat) (n : Int) (hpre : (PlanV.right p = true /\ Zgh p bs /\ List.length bs = bs_n /\ bs_n <= bs_c /\ 0 <= n /\ 32 * n + 32 <= (bs_n : Int))) : ZqH p bs bs_n bs_c n := by
  unfold ZqH ZpY Zwl Zwm Zwn Zwo Zwp Zwq Zwr Zws Zwt Zwu
  obtain ⟨hr, hl, h1, h2, n0, n1⟩ := hpre
  have hal := PlanV.all_bd p
  have hl1 := hl.1
  refine ⟨⟨by omega, by omega, by simp, fun j hj => by rw [if_neg (by omega), List.getD_eq_getElem?_getD, List.getElem?_replicate, if_pos hj]; rfl⟩, fun v6 h3 hI => ⟨fun hlt => ?_, fun hge => ?_⟩⟩
  · have hlt := of_decide_eq_true hlt
    obtain ⟨i0, i1, i2, i3⟩ := hI
    have w1 : IntKind.i64.wrap (IntKind.i64.wrap (32 * n) + v6) = 32 * n + v6 := by rw [Zhl, Zhl]; omega
    have w2 : IntKind.i64.wrap (v6 + 1) = v6 + 1 := by rw [Zhl]; omega
    rw [w1, w2]
    refine ⟨by omega, by omega, by omega, i0, hlt, by omega, by omega, fun h4 hh4 => ⟨⟨by omega, by omega, by rw [hh4, List.length_set, i2], fun j hj => ?_⟩, by omega⟩⟩
    rw [hh4, Zyg (by omega)]
    by_cases e : j = v6.toNat
    · rw [if_pos (by omega), if_pos (by omega)]
      congr 1
      omega
    · rw [if_neg (by omega), i3 j hj]
      by_cases e2 : (j : Int) < v6
      · rw [if_pos e2, if_pos (by omega)]
      · rw [if_neg e2, if_neg (by omega)]
  · have hge := of_decide_eq_false hge
    obtain ⟨i0, i1, i2, i3⟩ := hI
    have l32 : (List.take 32 (List.drop (32 * n.toNat) bs)).length = 32 := by rw [List.length_take, List.length_drop]; omega
    have e1 := Zoc (f := fun j => bs.getD (32 * n.toNat + j) 0) i2 fun j hj => by rw [i3 j hj, if_pos (by omega)]
    have e2 := Zoc (l := List.take 32 (List.drop (32 * n.toNat) bs)) (f := fun j => bs.getD (32 * n.toNat + j) 0) l32 fun j hj => by
      rw [List.getD_eq_getElem?_getD, List.getElem?_take_of_lt hj, List.getElem?_drop, <- List.getD_eq_getElem?_getD]
    rw [e1, e2]
theorem ZGW : Sound Try.prog 33 (gS Zzd) := by
  refine Zbx Zsg ?_
  intro args H K h
  obtain ⟨pre, out, hD, hpre, hK⟩ := Zjf h
  unfold Zzd at hD
  split at hD
  · obtain ⟨hb, hD⟩ := ZaP hD
    simp only [Bool.and_eq_true] at hb
    obtain ⟨h0, h1⟩ := hb
    obtain rfl := Nat.eq_of_beq_eq_true h0
    obtain rfl := Nat.eq_of_beq_eq_true h1
    cases hD
    obtain ⟨rfl, hpre⟩ := hpre
    exact ⟨rfl, fun w0 fp ρi => ZGM (PlanV.mk _ _ _ _ _ _ _ _ _ _ _ _ _ _ _ _) _ _ _ _ hK (ZF1 (PlanV.mk _ _ _ _ _ _ _ _ _ _ _ _ _ _ _ _) _ _ _ _ hpre)⟩
  · cases hD
end Go.Proofs.Ytinjdimejijabaa
