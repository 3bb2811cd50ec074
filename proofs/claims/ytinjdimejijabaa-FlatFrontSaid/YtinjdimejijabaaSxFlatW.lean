/- Part of the proof: SxFlatW. -/
import Derived.Test.YtinjdimejijabaaSxWordK2
import Derived.Test.YtinjdimejijabaaSxWordW2
import Derived.Test.YtinjdimejijabaaSxFlat2
import Derived.Test.YtinjdimejijabaaSxMixT
import Derived.KernelRfl
set_option linter.unusedVariables false
set_option linter.unusedSimpArgs false
set_option maxRecDepth 20000
namespace Go.Proofs.Ytinjdimejijabaa
open Go.Sx
def ZwX : Zn7 := fun args H => match args, H with
  | [.agg [.one (.int .i64 p_0), .one (.int .i64 p_1), .one (.int .i64 p_2), .one (.int .i64 p_3), .one (.int .i64 p_4), .one (.int .i64 p_5), .one (.int .u64 p_6), .one (.int .i64 p_7), .one (.int .i64 p_8), .one (.int .i64 p_9), .one (.int .i64 p_10), .one (.int .i64 p_11), .one (.int .i64 p_12), .one (.int .i64 p_13), .ints .u8 p_14_n p_14, .ints .u8 p_15_n p_15]], ⟨0, []⟩ => bif Nat.beq p_14_n 16 && Nat.beq p_15_n 16 then some (True, fun K => ((!PlanV.right (PlanV.mk p_0 p_1 p_2 p_3 p_4 p_5 p_6 p_7 p_8 p_9 p_10 p_11 p_12 p_13 p_14 p_15)) = true -> K (.tuple [.nilptr, .int .i64 4]) ⟨0, []⟩) /\ ((!PlanV.right (PlanV.mk p_0 p_1 p_2 p_3 p_4 p_5 p_6 p_7 p_8 p_9 p_10 p_11 p_12 p_13 p_14 p_15)) = false -> K (.tuple [.ptr ⟨1, 0, 0, 1⟩ 47, .int .i64 0]) ⟨2, [(1, some ⟨true, [.one (.int .i64 p_0), .one (.int .i64 p_1), .one (.int .i64 p_2), .one (.int .i64 p_3), .one (.int .i64 p_4), .one (.int .i64 p_5), .one (.int .u64 p_6), .one (.int .i64 p_7), .one (.int .i64 p_8), .one (.int .i64 p_9), .one (.int .i64 p_10), .one (.int .i64 p_11), .one (.int .i64 p_12), .one (.int .i64 p_13), .ints .u8 16 p_14, .ints .u8 16 p_15, .one (.slice ⟨0, 0, 0, 32⟩ (Int.toNat (PlanV.all (PlanV.mk p_0 p_1 p_2 p_3 p_4 p_5 p_6 p_7 p_8 p_9 p_10 p_11 p_12 p_13 p_14 p_15))) (Int.toNat (PlanV.all (PlanV.mk p_0 p_1 p_2 p_3 p_4 p_5 p_6 p_7 p_8 p_9 p_10 p_11 p_12 p_13 p_14 p_15))))], 0⟩), (0, some ⟨true, [.rows Zad (Int.toNat (PlanV.all (PlanV.mk p_0 p_1 p_2 p_3 p_4 p_5 p_6 p_7 p_8 p_9 p_10 p_11 p_12 p_13 p_14 p_15))) (Zcy (Int.toNat (PlanV.all (PlanV.mk p_0 p_1 p_2 p_3 p_4 p_5 p_6 p_7 p_8 p_9 p_10 p_11 p_12 p_13 p_14 p_15))))], 0⟩)]⟩)) else none
  | _, _ => none
def Zr7 : Con := ⟨26, gS ZwX, [], [], []⟩
def Zih (p : PlanV) (Kf : SVal -> Heap -> Prop) : Prop := ((!PlanV.right p) = true -> Kf (.tuple [.nilptr, .int .i64 4]) ⟨0, []⟩) /\ ((!PlanV.right p) = false -> Kf (.tuple [.ptr ⟨1, 0, 0, 1⟩ 47, .int .i64 0]) ⟨2, [(1, some ⟨true, [.one (.int .i64 p.cores), .one (.int .i64 p.banks), .one (.int .i64 p.pages), .one (.int .i64 p.lines), .one (.int .i64 p.arity), .one (.int .i64 p.minor), .one (.int .u64 p.major), .one (.int .i64 p.ns), .one (.int .i64 p.nw), .one (.int .i64 p.fs), .one (.int .i64 p.fw), .one (.int .i64 p.met), .one (.int .i64 p.queue), .one (.int .i64 p.kind), .ints .u8 16 p.key, .ints .u8 16 p.tag, .one (.slice ⟨0, 0, 0, 32⟩ (Int.toNat (PlanV.all p)) (Int.toNat (PlanV.all p)))], 0⟩), (0, some ⟨true, [.rows Zad (Int.toNat (PlanV.all p)) (Zcy (Int.toNat (PlanV.all p)))], 0⟩)]⟩)
def ZnN : ACode := .reg (.op (some 1) (.box (.tm 0)) (.op (some 2) (.mov (.cn (.nilptr))) (.op (some 3) (.mov (.cn (.int .i64 0))) .nil)))
def Zkv : ACode := .reg (.op (some 5) (.loadA 46 (.tm 1)) (.op (some 6) (.call 56 [(.tm 5)]) (.op (some 4) (.mov (.tm 6)) .nil)))
def ZiC : ACode := .reg (.op (some 7) (.mov (.tm 4)) (.op (some 8) (.bin .neq (.tm 7) (.cn (.int .i64 0))) .nil))
def ZnM : ACode := .reg (.op (some 9) (.mov (.tm 4)) (.op (some 2) (.mov (.cn (.nilptr))) (.op (some 3) (.mov (.tm 9)) .nil)))
def ZiB : ACode := .cond (.tm 8) (.seq ZnM .ret) .skip
def Zku : List MStep := [.mk 0 0 (some 10) (.loadA 46 (.tm 1)), .mk 1 0 (some 11) (.loadA 46 (.tm 1)), .mk 2 1 (some 12) (.call 57 [(.tm 11)]), .mk 3 1 (some 13) (.mksliceR Zad (.tm 12) (.tm 12)), .mk 4 0 (some 14) (.build [.one (.int .i64 0), .one (.int .i64 0), .one (.int .i64 0), .one (.int .i64 0), .one (.int .i64 0), .one (.int .i64 0), .one (.int .u64 0), .one (.int .i64 0), .one (.int .i64 0), .one (.int .i64 0), .one (.int .i64 0), .one (.int .i64 0), .one (.int .i64 0), .one (.int .i64 0), .ints .u8 16 (List.replicate 16 0), .ints .u8 16 (List.replicate 16 0), .one (.nilslice)] [(0, 46, (.tm 10)), (46, 1, (.tm 13))]), .mk 5 2 (some 15) (.box (.tm 14)), .mk 6 0 (some 2) (.mov (.tm 15)), .mk 7 0 (some 3) (.mov (.cn (.int .i64 0)))]
def Zgv : ACode := .regM Zku
def ZA3 : ACode := (.seq ZnN (.seq (.seq Zkv (.seq ZiC ZiB)) (.seq Zgv .ret)))
def ZhO : Res := .many [.tm 2, .tm 3]
theorem Zpb : ZbJ Try.prog 26 1 16 ZA3 ZhO = true := by kernel_rfl
def Zpf : Za7 := Zfk [Zjx, Ztw] []
theorem Zlh : Zbb Try.prog Zpf := Zch ⟨ZmN, Zxk, trivial⟩ trivial
section
variable {w0 : World} {fp : Nat -> Nat -> Prop} {ρi : Rho} {Kf : SVal -> Heap -> Prop}
theorem ZyF (p : PlanV) (v4 : Int) (Z : Env -> Heap -> Prop) (h : Z [(2, some (.nilptr)), (3, some (.int .i64 v4))] ⟨1, []⟩) : EvC Zpf ZnM [(4, some (.int .i64 v4))] ⟨1, []⟩ [2, 3] [] Z := EvC.of (by kernel_rfl) h
theorem Zvo (p : PlanV) (v4 : Int) : RetC ZhO [(2, some (.nilptr)), (3, some (.int .i64 v4))] ⟨1, []⟩ (.tuple [.nilptr, .int .i64 v4]) := RetC.of (fun Z => by kernel_rfl)
def Zq0 (p : PlanV) (v4 : Int) : Prop := ((!PlanV.right p) = true) /\ (v4 = 4)
theorem ZAD (p : PlanV) (hK : Zih p Kf) (v4 : Int) (h : Zq0 p v4) : SemL Try.prog w0 fp ρi 0 16 [ZnM, .ret, (.seq Zgv .ret)] [(4, some (.int .i64 v4))] ⟨1, []⟩ (fnK ZhO 0 Kf) :=
  Zas Zlh (ZyF p v4 _ (Zbz (R := ZhO) (m := 0) (Kf := Kf) (fun _ _ h => h) (Zvo p v4) (Zde (Eq.mpr (cg1 (fun (z1 : Int) => ZkM 0 Kf (.tuple [.nilptr, .int .i64 z1]) ⟨1, []⟩) h.2) (ZcH [] [] rfl (by kernel_rfl) rfl (ZdF (Zb0 pbd (Zb0 pbd Zfg))) Zbe rfl (by kernel_rfl) ((hK.1 h.1)))))))
abbrev Ye0 (x0 : PlanV) : Heap := ⟨1, [(0, some ⟨true, (PlanV.cs x0), 0⟩)]⟩
abbrev Ye1 : Env := [(2, some (.ptr ⟨2, 0, 0, 1⟩ 47)), (3, some (.int .i64 0))]
abbrev Ye2 (x0 : PlanV) : Heap := ⟨3, [(1, some ⟨true, [.rows Zad (Int.toNat (PlanV.all x0)) (List.replicate (Int.toNat (PlanV.all x0)) (Tup.dflt Zad))], (((Int.toNat (PlanV.all x0)) - (Int.toNat (PlanV.all x0))) * 32)⟩), (2, some ⟨true, [.one (.int .i64 x0.cores), .one (.int .i64 x0.banks), .one (.int .i64 x0.pages), .one (.int .i64 x0.lines), .one (.int .i64 x0.arity), .one (.int .i64 x0.minor), .one (.int .u64 x0.major), .one (.int .i64 x0.ns), .one (.int .i64 x0.nw), .one (.int .i64 x0.fs), .one (.int .i64 x0.fw), .one (.int .i64 x0.met), .one (.int .i64 x0.queue), .one (.int .i64 x0.kind), .ints .u8 16 x0.key, .ints .u8 16 x0.tag, .one (.slice ⟨1, 0, 0, 32⟩ (Int.toNat (PlanV.all x0)) (Int.toNat (PlanV.all x0)))], 0⟩)]⟩
abbrev Ye3 : Env := [(1, some (.ptr ⟨0, 0, 0, 1⟩ 46))]
theorem ZyE (p : PlanV) (Z : Env -> Heap -> Prop) (h : (True) /\ ((ZaN (Ye0 p) (Heap.keep (Ye0 p) [0]) (Zdf [0] (Ye0 p)))) /\ ((0 <= (PlanV.all p))) /\ (((PlanV.all p) <= (PlanV.all p))) /\ (((32 : Int) * (PlanV.all p) <= 1048576)) /\ ((ZaN ⟨2, [(0, some ⟨true, (PlanV.cs p), 0⟩), (1, some ⟨true, [.rows Zad (Int.toNat (PlanV.all p)) (List.replicate (Int.toNat (PlanV.all p)) (Tup.dflt Zad))], (((Int.toNat (PlanV.all p)) - (Int.toNat (PlanV.all p))) * 32)⟩)]⟩ (Heap.keep (Ye0 p) [0]) (Zdf [0] (Ye0 p)))) /\ Z Ye1 (Ye2 p)) : EvNC Zpf Zku [[0], [], [], [], [], [], [], []] Ye3 (Ye0 p) [2, 3] [1, 2] Z := EvNC.of (by kernel_rfl) h
theorem Zvn (p : PlanV) : RetC ZhO Ye1 (Ye2 p) (.tuple [.ptr ⟨2, 0, 0, 1⟩ 47, .int .i64 0]) := RetC.of (fun Z => by kernel_rfl)
def ZqZ (p : PlanV) : Prop := ((0 <= (PlanV.all p))) /\ ((((32 : Int) * (PlanV.all p) <= 1048576)) /\ (((!PlanV.right p) = false) /\ ((List.replicate (Int.toNat (PlanV.all p)) (Tup.dflt Zad)) = (Zcy (Int.toNat (PlanV.all p)))) /\ ((((Int.toNat (PlanV.all p)) - (Int.toNat (PlanV.all p))) * 32) = 0)))
theorem ZAC (p : PlanV) (hK : Zih p Kf) (h : ZqZ p) : SemL Try.prog w0 fp ρi 0 16 [Zgv, .ret] Ye3 (Ye0 p) (fnK ZhO 0 Kf) :=
  ZkR Zlh (steps := Zku) (ZyE p _ ⟨True.intro, ⟨Zdk, ⟨h.1, ⟨(Int.le_refl _), ⟨h.2.1, ⟨(Zo1 (by kernel_rfl)), (Zbz (R := ZhO) (m := 0) (Kf := Kf) (fun _ _ h => h) (Zvn p) (Zde (Eq.mpr (cg2 (fun (z1 : List (Tup Zad)) (z2 : Nat) => ZkM 0 Kf (.tuple [.ptr ⟨2, 0, 0, 1⟩ 47, .int .i64 0]) ⟨3, [(1, some ⟨true, [.rows Zad (Int.toNat (PlanV.all p)) z1], z2⟩), (2, some ⟨true, [.one (.int .i64 p.cores), .one (.int .i64 p.banks), .one (.int .i64 p.pages), .one (.int .i64 p.lines), .one (.int .i64 p.arity), .one (.int .i64 p.minor), .one (.int .u64 p.major), .one (.int .i64 p.ns), .one (.int .i64 p.nw), .one (.int .i64 p.fs), .one (.int .i64 p.fw), .one (.int .i64 p.met), .one (.int .i64 p.queue), .one (.int .i64 p.kind), .ints .u8 16 p.key, .ints .u8 16 p.tag, .one (.slice ⟨1, 0, 0, 32⟩ (Int.toNat (PlanV.all p)) (Int.toNat (PlanV.all p)))], 0⟩)]⟩) h.2.2.2.1 h.2.2.2.2) (ZcH [(0, 1), (1, 2)] [1, 0] rfl (by kernel_rfl) rfl (ZdF (Zb0 bpt (Zb0 pbd Zfg))) (hsc (Zac pbd (Zac pbd (Zac pbd (Zac pbd (Zac pbd (Zac pbd (Zac pbd (Zac pbd (Zac pbd (Zac pbd (Zac pbd (Zac pbd (Zac pbd (Zac pbd (ZbG (ZbG (Zac bsl ZdG))))))))))))))))) (hsc pcs Zbe)) rfl (by kernel_rfl) ((hK.2 h.2.2.1))))))⟩⟩⟩⟩⟩⟩)
def ZqY (p : PlanV) (v4 : Int) : Prop := ((v4 != 0) = true -> (Zq0 p v4)) /\ ((v4 != 0) = false -> (ZqZ p))
abbrev Ye4 (x0 : Int) : Env := [(1, some (.ptr ⟨0, 0, 0, 1⟩ 46)), (4, some (.int .i64 x0)), (8, some (.bool (x0 != 0)))]
theorem ZAB (p : PlanV) (hK : Zih p Kf) (v4 : Int) (h : ZqY p v4) : SemL Try.prog w0 fp ρi 0 16 [ZiB, (.seq Zgv .ret)] (Ye4 v4) (Ye0 p) (fnK ZhO 0 Kf) :=
  ZbD (q := (v4 != 0)) (by kernel_rfl) (fun hq => (Zau (lpk [4] [] (ZAD p hK v4 (h.1 hq))))) (fun hq => (Zcd (lpk [1] [0] (Zau (ZAC p hK (h.2 hq))))))
abbrev Ye5 (x0 : Int) : Env := [(1, some (.ptr ⟨0, 0, 0, 1⟩ 46)), (4, some (.int .i64 x0))]
theorem ZyD (p : PlanV) (v4 : Int) (Z : Env -> Heap -> Prop) (h : Z (Ye4 v4) (Ye0 p)) : EvC Zpf ZiC (Ye5 v4) (Ye0 p) [1, 4, 8] [0] Z := EvC.of (by kernel_rfl) h
def ZqX (p : PlanV) (v4 : Int) : Prop := ZqY p v4
theorem ZAA (p : PlanV) (hK : Zih p Kf) (v4 : Int) (h : ZqX p v4) : SemL Try.prog w0 fp ρi 0 16 [ZiC, ZiB, (.seq Zgv .ret)] (Ye5 v4) (Ye0 p) (fnK ZhO 0 Kf) :=
  Zas Zlh (ZyD p v4 _ (ZAB p hK v4 h))
theorem ZyC (p : PlanV) (Z : Env -> Heap -> Prop) (h : (True) /\ Z [(1, some (.ptr ⟨0, 0, 0, 1⟩ 46)), (4, some (.int .i64 (bif PlanV.right p then 0 else 4 : Int)))] (Ye0 p)) : EvC Zpf Zkv Ye3 (Ye0 p) [1, 4] [0] Z := EvC.of (by kernel_rfl) h
def ZqW (p : PlanV) : Prop := ∀ v4 : Int, v4 = (bif PlanV.right p then 0 else 4 : Int) -> ZqX p v4
theorem ZAz (p : PlanV) (hK : Zih p Kf) (h : ZqW p) : SemL Try.prog w0 fp ρi 0 16 [Zkv, (.seq ZiC ZiB), (.seq Zgv .ret)] Ye3 (Ye0 p) (fnK ZhO 0 Kf) :=
  Zas Zlh (ZyC p _ ⟨True.intro, (Zau (ZAA p hK (bif PlanV.right p then 0 else 4 : Int) (h (bif PlanV.right p then 0 else 4 : Int) rfl)))⟩)
theorem ZyB (p : PlanV) (Z : Env -> Heap -> Prop) (h : Z Ye3 (Ye0 p)) : EvC Zpf ZnN [(0, some (.agg (PlanV.cs p)))] ⟨0, []⟩ [1] [0] Z := EvC.of (by kernel_rfl) h
def ZqV (p : PlanV) : Prop := ZqW p
theorem ZAy (p : PlanV) (hK : Zih p Kf) (h : ZqV p) : SemL Try.prog w0 fp ρi 0 16 [ZnN, (.seq (.seq Zkv (.seq ZiC ZiB)) (.seq Zgv .ret))] [(0, some (.agg (PlanV.cs p)))] ⟨0, []⟩ (fnK ZhO 0 Kf) :=
  Zas Zlh (ZyB p _ (Zau (Zau (ZAz p hK h))))
def Zre (p : PlanV) : Prop := ZqV p
theorem ZBt (p : PlanV) (hK : Zih p Kf) (h : Zre p) : SemL Try.prog w0 fp ρi 0 16 [ZA3] [(0, some (.agg (PlanV.cs p)))] ⟨0, []⟩ (fnK ZhO 0 Kf) :=
  (Zau (ZAy p hK h))
end
theorem ZAU (p : PlanV) (hpre : True) : Zre p := by
  unfold Zre ZqV ZqW ZqX ZqY ZqZ Zq0
  intro v4 h4
  have hl := PlanV.all_bd p
  refine ⟨fun h => ?_, fun h => ?_⟩
  · cases hr : p.right with
    | true => rw [hr] at h4; subst h4; exact absurd h (by decide)
    | false => rw [hr] at h4; subst h4; exact ⟨rfl, rfl⟩
  · cases hr : p.right with
    | false => rw [hr] at h4; subst h4; exact absurd h (by decide)
    | true => exact ⟨by omega, by omega, rfl, rfl, by omega⟩
theorem Zxl : Sound Try.prog 26 (gS ZwX) := by
  refine ZbP Zpb ?_
  intro args H K h
  obtain ⟨pre, out, hD, hpre, hK⟩ := Zou h
  unfold ZwX at hD
  split at hD
  · obtain ⟨hb, hD⟩ := ZaT hD
    simp only [Bool.and_eq_true] at hb
    obtain ⟨h0, h1⟩ := hb
    obtain rfl := Nat.eq_of_beq_eq_true h0
    obtain rfl := Nat.eq_of_beq_eq_true h1
    cases hD
    exact ⟨rfl, fun w0 fp ρi => ZBt (PlanV.mk _ _ _ _ _ _ _ _ _ _ _ _ _ _ _ _) hK (ZAU (PlanV.mk _ _ _ _ _ _ _ _ _ _ _ _ _ _ _ _) hpre)⟩
  · cases hD
def ZCl : Zn7 := fun args H => match args, H with
  | [.ptr ⟨1, 0, 0, 1⟩ 47, .agg [.one (.int .i64 o_0), .one (.int .i64 o_1), .one (.int .i64 o_2), .one (.int .u64 o_3), .one (.int .u64 o_4)]], ⟨2, [(0, some ⟨true, [.rows [.ints .u8 32] ls_m ls], 0⟩), (1, some ⟨true, [.one (.int .i64 p_0), .one (.int .i64 p_1), .one (.int .i64 p_2), .one (.int .i64 p_3), .one (.int .i64 p_4), .one (.int .i64 p_5), .one (.int .u64 p_6), .one (.int .i64 p_7), .one (.int .i64 p_8), .one (.int .i64 p_9), .one (.int .i64 p_10), .one (.int .i64 p_11), .one (.int .i64 p_12), .one (.int .i64 p_13), .ints .u8 p_14_n p_14, .ints .u8 p_15_n p_15, .one (.slice ⟨0, 0, 0, 32⟩ ls_n ls_c)], 0⟩)]⟩ => bif Nat.beq p_14_n 16 && Nat.beq p_15_n 16 then some (ls_m = ls_n /\ (PlanV.right (PlanV.mk p_0 p_1 p_2 p_3 p_4 p_5 p_6 p_7 p_8 p_9 p_10 p_11 p_12 p_13 p_14 p_15) = true /\ LinesOk (PlanV.mk p_0 p_1 p_2 p_3 p_4 p_5 p_6 p_7 p_8 p_9 p_10 p_11 p_12 p_13 p_14 p_15) ls /\ List.length ls = ls_n /\ ls_n <= ls_c /\ OpV.Wf (OpV.mk o_0 o_1 o_2 o_3 o_4)), fun K => K (.tuple [.int .u64 (PlanV.flatR (PlanV.mk p_0 p_1 p_2 p_3 p_4 p_5 p_6 p_7 p_8 p_9 p_10 p_11 p_12 p_13 p_14 p_15) (OpV.mk o_0 o_1 o_2 o_3 o_4) ls), .int .i64 (PlanV.opCode (PlanV.mk p_0 p_1 p_2 p_3 p_4 p_5 p_6 p_7 p_8 p_9 p_10 p_11 p_12 p_13 p_14 p_15) (OpV.mk o_0 o_1 o_2 o_3 o_4))]) ⟨2, [(0, some ⟨true, [.rows Zad ls_n (PlanV.flatL (PlanV.mk p_0 p_1 p_2 p_3 p_4 p_5 p_6 p_7 p_8 p_9 p_10 p_11 p_12 p_13 p_14 p_15) (OpV.mk o_0 o_1 o_2 o_3 o_4) ls)], 0⟩), (1, some ⟨true, [.one (.int .i64 p_0), .one (.int .i64 p_1), .one (.int .i64 p_2), .one (.int .i64 p_3), .one (.int .i64 p_4), .one (.int .i64 p_5), .one (.int .u64 p_6), .one (.int .i64 p_7), .one (.int .i64 p_8), .one (.int .i64 p_9), .one (.int .i64 p_10), .one (.int .i64 p_11), .one (.int .i64 p_12), .one (.int .i64 p_13), .ints .u8 16 p_14, .ints .u8 16 p_15, .one (.slice ⟨0, 0, 0, 32⟩ ls_n ls_c)], 0⟩)]⟩) else none
  | _, _ => none
def ZtL : Con := ⟨27, gS ZCl, [0, 1], [], []⟩
def Zii (p : PlanV) (ls : List (Tup Zad)) (ls_n ls_c : Nat) (o : OpV) (Kf : SVal -> Heap -> Prop) : Prop := Kf (.tuple [.int .u64 (PlanV.flatR p o ls), .int .i64 (PlanV.opCode p o)]) ⟨2, [(0, some ⟨true, [.rows Zad ls_n (PlanV.flatL p o ls)], 0⟩), (1, some ⟨true, [.one (.int .i64 p.cores), .one (.int .i64 p.banks), .one (.int .i64 p.pages), .one (.int .i64 p.lines), .one (.int .i64 p.arity), .one (.int .i64 p.minor), .one (.int .u64 p.major), .one (.int .i64 p.ns), .one (.int .i64 p.nw), .one (.int .i64 p.fs), .one (.int .i64 p.fw), .one (.int .i64 p.met), .one (.int .i64 p.queue), .one (.int .i64 p.kind), .ints .u8 16 p.key, .ints .u8 16 p.tag, .one (.slice ⟨0, 0, 0, 32⟩ ls_n ls_c)], 0⟩)]⟩
def ZnL : ACode := .reg (.op (some 3) (.box (.tm 1)) (.op (some 4) (.mov (.cn (.int .u64 0))) (.op (some 5) (.mov (.cn (.int .i64 0))) .nil)))
def Zkt : Items := .op (some 9) (.mov (.tm 0)) (.op (some 10) (.nilCheck (.tm 9)) (.op (some 11) (.fieldAddr (.tm 10) 0 46) (.op (some 12) (.loadA 46 (.tm 11)) (.op (some 13) (.loadA 5 (.tm 3)) (.op (some 14) (.call 58 [(.tm 12), (.tm 13)]) (.op (some 6) (.mov (.tm 14)) .nil))))))
def ZnK : ACode := .regQ Zkt
def ZiA : ACode := .reg (.op (some 15) (.mov (.tm 6)) (.op (some 16) (.bin .neq (.tm 15) (.cn (.int .i64 0))) .nil))
def ZnJ : ACode := .reg (.op (some 17) (.mov (.tm 6)) (.op (some 4) (.mov (.cn (.int .u64 0))) (.op (some 5) (.mov (.tm 17)) .nil)))
def Ziz : ACode := .cond (.tm 16) (.seq ZnJ .ret) .skip
def Zks : Items := .op (some 19) (.mov (.tm 0)) (.op (some 20) (.nilCheck (.tm 19)) (.op (some 21) (.fieldAddr (.tm 20) 0 46) (.op (some 22) (.loadA 46 (.tm 21)) (.op (some 23) (.loadA 5 (.tm 3)) (.op (some 24) (.call 59 [(.tm 22), (.tm 23)]) (.op (some 18) (.mov (.tm 24)) (.op (some 25) (.extract (.tm 18) 0) (.op (some 26) (.extract (.tm 18) 1) (.op (some 7) (.mov (.tm 25)) (.op (some 8) (.mov (.tm 26)) .nil))))))))))
def Zgu : ACode := .regQ Zks
def Zfb : ACode := .reg (.op (some 27) (.mov (.tm 8)) .nil)
def Zkr : MTree := (.st 0 0 none (some 29) (.mov (.tm 0)) (.st 1 0 none (some 30) (.nilCheck (.tm 29)) (.st 2 0 none (some 31) (.fieldAddr (.tm 30) 46 1) (.st 3 0 none (some 32) (.load1 (.tm 31)) (.st 4 0 none (some 33) (.mov (.tm 7)) (.st 5 0 none (some 34) (.loadA 5 (.tm 3)) (.st 6 0 none (some 35) (.mov (.tm 0)) (.st 7 0 none (some 36) (.nilCheck (.tm 35)) (.st 8 0 none (some 37) (.fieldAddr (.tm 36) 46 1) (.st 9 0 none (some 38) (.load1 (.tm 37)) (.st 10 0 none (some 39) (.mov (.tm 7)) (.st 11 0 none (some 40) (.idxS (.tm 38) (.tm 39) 32) (.st 12 0 none (some 41) (.loadA 32 (.tm 40)) (.st 13 1 none (some 42) (.call 60 [(.tm 34), (.tm 41)]) (.st 14 0 none (some 28) (.mov (.tm 42)) (.st 15 0 none (some 43) (.extract (.tm 28) 0) (.st 17 0 none (some 45) (.idxS (.tm 32) (.tm 33) 32) (.alt (.st 16 1 none (some 44) (.extract (.tm 28) 1) (.st 18 2 none none (.storeA 32 (.tm 45) (.tm 43)) (.st 19 0 none (some 4) (.mov (.tm 44)) .nil))) (.st 18 2 none none (.storeA 32 (.tm 45) (.tm 43)) (.st 16 0 none (some 44) (.extract (.tm 28) 1) (.st 19 0 none (some 4) (.mov (.tm 44)) .nil)))))))))))))))))))))
def ZrZ : ACode := .regT Zkr
def Zfa : ACode := .cond (.tm 27) ZrZ .skip
def Zdx : ACode := .reg (.op (some 46) (.mov (.tm 4)) (.op (some 4) (.mov (.tm 46)) (.op (some 5) (.mov (.cn (.int .i64 0))) .nil)))
def ZCx : ACode := (.seq ZnL (.seq (.seq ZnK (.seq ZiA Ziz)) (.seq (.seq Zgu (.seq Zfb Zfa)) (.seq Zdx .ret))))
def ZlG : Res := .many [.tm 4, .tm 5]
theorem Zsa : ZbJ Try.prog 27 2 47 ZCx ZlG = true := by kernel_rfl
def Ztq : Za7 := Zfk [Zoo, Zwy, ZBR] []
theorem Zli : Zbb Try.prog Ztq := Zch ⟨Zrf, Zxg, ZDx, trivial⟩ trivial
section
variable {w0 : World} {fp : Nat -> Nat -> Prop} {ρi : Rho} {Kf : SVal -> Heap -> Prop}
abbrev Ye6 (x0 : Nat) (x1 : List (Tup Zad)) (x2 : PlanV) (x3 : Nat) : Heap := ⟨3, [(0, some ⟨true, [.rows Zad x0 x1], 0⟩), (1, some ⟨true, [.one (.int .i64 x2.cores), .one (.int .i64 x2.banks), .one (.int .i64 x2.pages), .one (.int .i64 x2.lines), .one (.int .i64 x2.arity), .one (.int .i64 x2.minor), .one (.int .u64 x2.major), .one (.int .i64 x2.ns), .one (.int .i64 x2.nw), .one (.int .i64 x2.fs), .one (.int .i64 x2.fw), .one (.int .i64 x2.met), .one (.int .i64 x2.queue), .one (.int .i64 x2.kind), .ints .u8 16 x2.key, .ints .u8 16 x2.tag, .one (.slice ⟨0, 0, 0, 32⟩ x0 x3)], 0⟩)]⟩
theorem ZyA (p : PlanV) (ls : List (Tup Zad)) (ls_n ls_c : Nat) (o : OpV) (v6 : Int) (Z : Env -> Heap -> Prop) (h : Z [(4, some (.int .u64 0)), (5, some (.int .i64 v6))] (Ye6 ls_n ls p ls_c)) : EvC Ztq ZnJ [(6, some (.int .i64 v6))] (Ye6 ls_n ls p ls_c) [4, 5] [0, 1] Z := EvC.of (by kernel_rfl) h
theorem Zvm (p : PlanV) (ls : List (Tup Zad)) (ls_n ls_c : Nat) (o : OpV) (v6 : Int) : RetC ZlG [(4, some (.int .u64 0)), (5, some (.int .i64 v6))] (Ye6 ls_n ls p ls_c) (.tuple [.int .u64 0, .int .i64 v6]) := RetC.of (fun Z => by kernel_rfl)
def ZqU (p : PlanV) (ls : List (Tup Zad)) (ls_n ls_c : Nat) (o : OpV) (v6 : Int) : Prop := (0 = (PlanV.flatR p o ls)) /\ (v6 = (PlanV.opCode p o)) /\ (ls = (PlanV.flatL p o ls))
theorem ZAx (p : PlanV) (ls : List (Tup Zad)) (ls_n ls_c : Nat) (o : OpV) (hK : Zii p ls ls_n ls_c o Kf) (v6 : Int) (h : ZqU p ls ls_n ls_c o v6) : SemL Try.prog w0 fp ρi 2 47 [ZnJ, .ret, (.seq (.seq Zgu (.seq Zfb Zfa)) (.seq Zdx .ret))] [(6, some (.int .i64 v6))] (Ye6 ls_n ls p ls_c) (fnK ZlG 2 Kf) :=
  Zas Zli (ZyA p ls ls_n ls_c o v6 _ (Zbz (R := ZlG) (m := 2) (Kf := Kf) (fun _ _ h => h) (Zvm p ls ls_n ls_c o v6) (Zde (Eq.mpr (cg3 (fun (z1 z2 : Int) (z3 : List (Tup Zad)) => ZkM 2 Kf (.tuple [.int .u64 z1, .int .i64 z2]) (Ye6 ls_n z3 p ls_c)) h.1 h.2.1 h.2.2) (ZcH [] [0, 1] rfl (by kernel_rfl) rfl (ZdF (Zb0 pbd (Zb0 pbd Zfg))) (hsc pcs (hsc (Zac pbd (Zac pbd (Zac pbd (Zac pbd (Zac pbd (Zac pbd (Zac pbd (Zac pbd (Zac pbd (Zac pbd (Zac pbd (Zac pbd (Zac pbd (Zac pbd (ZbG (ZbG (Zac bsl ZdG))))))))))))))))) Zbe)) rfl (by kernel_rfl) (hK))))))
theorem Zyz (p : PlanV) (ls : List (Tup Zad)) (ls_n ls_c : Nat) (o : OpV) (v4 : Int) (h0 : List (Tup Zad)) (Z : Env -> Heap -> Prop) (h : Z [(4, some (.int .u64 v4)), (5, some (.int .i64 0))] (Ye6 ls_n h0 p ls_c)) : EvC Ztq Zdx [(4, some (.int .u64 v4))] (Ye6 ls_n h0 p ls_c) [4, 5] [0, 1] Z := EvC.of (by kernel_rfl) h
theorem Zvl (p : PlanV) (ls : List (Tup Zad)) (ls_n ls_c : Nat) (o : OpV) (v4 : Int) (h0 : List (Tup Zad)) : RetC ZlG [(4, some (.int .u64 v4)), (5, some (.int .i64 0))] (Ye6 ls_n h0 p ls_c) (.tuple [.int .u64 v4, .int .i64 0]) := RetC.of (fun Z => by kernel_rfl)
def ZkX (p : PlanV) (ls : List (Tup Zad)) (ls_n ls_c : Nat) (o : OpV) (v4 : Int) (h0 : List (Tup Zad)) : Prop := (v4 = (PlanV.flatR p o ls)) /\ (0 = (PlanV.opCode p o)) /\ (h0 = (PlanV.flatL p o ls))
theorem Zrq (p : PlanV) (ls : List (Tup Zad)) (ls_n ls_c : Nat) (o : OpV) (hK : Zii p ls ls_n ls_c o Kf) (v4 : Int) (h0 : List (Tup Zad)) (h : ZkX p ls ls_n ls_c o v4 h0) : SemL Try.prog w0 fp ρi 2 47 [Zdx, .ret] [(4, some (.int .u64 v4))] (Ye6 ls_n h0 p ls_c) (fnK ZlG 2 Kf) :=
  Zas Zli (Zyz p ls ls_n ls_c o v4 h0 _ (Zbz (R := ZlG) (m := 2) (Kf := Kf) (fun _ _ h => h) (Zvl p ls ls_n ls_c o v4 h0) (Zde (Eq.mpr (cg3 (fun (z1 z2 : Int) (z3 : List (Tup Zad)) => ZkM 2 Kf (.tuple [.int .u64 z1, .int .i64 z2]) (Ye6 ls_n z3 p ls_c)) h.1 h.2.1 h.2.2) (ZcH [] [0, 1] rfl (by kernel_rfl) rfl (ZdF (Zb0 pbd (Zb0 pbd Zfg))) (hsc pcs (hsc (Zac pbd (Zac pbd (Zac pbd (Zac pbd (Zac pbd (Zac pbd (Zac pbd (Zac pbd (Zac pbd (Zac pbd (Zac pbd (Zac pbd (Zac pbd (Zac pbd (ZbG (ZbG (Zac bsl ZdG))))))))))))))))) Zbe)) rfl (by kernel_rfl) (hK))))))
abbrev Ye7 (x0 : Nat) (x1 : List (Tup Zad)) (x2 : PlanV) (x3 : Nat) (x4 : OpV) : Heap := ⟨3, [(0, some ⟨true, [.rows Zad x0 x1], 0⟩), (1, some ⟨true, [.one (.int .i64 x2.cores), .one (.int .i64 x2.banks), .one (.int .i64 x2.pages), .one (.int .i64 x2.lines), .one (.int .i64 x2.arity), .one (.int .i64 x2.minor), .one (.int .u64 x2.major), .one (.int .i64 x2.ns), .one (.int .i64 x2.nw), .one (.int .i64 x2.fs), .one (.int .i64 x2.fw), .one (.int .i64 x2.met), .one (.int .i64 x2.queue), .one (.int .i64 x2.kind), .ints .u8 16 x2.key, .ints .u8 16 x2.tag, .one (.slice ⟨0, 0, 0, 32⟩ x0 x3)], 0⟩), (2, some ⟨true, (OpV.cs x4), 0⟩)]⟩
abbrev Ye8 (x0 : Nat) (x1 : List (Tup Zad)) (x2 : Int) (x3 : OpV) (x4 : PlanV) (x5 : Nat) : Heap := ⟨3, [(0, some ⟨true, [.rows Zad x0 (List.set x1 (0 + (Int.toNat x2)) (((OpV.next x3 (List.getD x1 (0 + (Int.toNat x2)) (Tup.dflt Zad)))) : Tup Zad))], 0⟩), (1, some ⟨true, [.one (.int .i64 x4.cores), .one (.int .i64 x4.banks), .one (.int .i64 x4.pages), .one (.int .i64 x4.lines), .one (.int .i64 x4.arity), .one (.int .i64 x4.minor), .one (.int .u64 x4.major), .one (.int .i64 x4.ns), .one (.int .i64 x4.nw), .one (.int .i64 x4.fs), .one (.int .i64 x4.fw), .one (.int .i64 x4.met), .one (.int .i64 x4.queue), .one (.int .i64 x4.kind), .ints .u8 16 x4.key, .ints .u8 16 x4.tag, .one (.slice ⟨0, 0, 0, 32⟩ x0 x5)], 0⟩)]⟩
abbrev Ye9 (x0 : Int) : Env := [(0, some (.ptr ⟨1, 0, 0, 1⟩ 47)), (3, some (.ptr ⟨2, 0, 0, 1⟩ 5)), (7, some (.int .i64 x0))]
theorem Zyy (p : PlanV) (ls : List (Tup Zad)) (ls_n ls_c : Nat) (o : OpV) (v7 : Int) (Z : Env -> Heap -> Prop) (h : ((0 <= v7)) /\ ((v7 < ((ls_n : Nat) : Int))) /\ (((0 + (Int.toNat v7)) < ls_n)) /\ ((OpV.Wf o /\ Zg7 (List.getD ls (0 + (Int.toNat v7)) (Tup.dflt Zad)))) /\ ((ZaN (Ye7 ls_n ls p ls_c o) (Heap.keep (Ye7 ls_n ls p ls_c o) [0, 1, 2, 1]) (Zdf [0, 1, 2, 1] (Ye7 ls_n ls p ls_c o)))) /\ ((0 <= v7)) /\ ((v7 < ((ls_n : Nat) : Int))) /\ (((ZaN (Ye7 ls_n ls p ls_c o) (Heap.keep (Ye7 ls_n ls p ls_c o) [0, 1, 2, 1]) (Zdf [0, 1, 2, 1] (Ye7 ls_n ls p ls_c o)))) /\ (((0 + (Int.toNat v7)) < ls_n)) /\ ((List.length ls = ls_n)) /\ Z [(4, some (.int .u64 (OpV.result o (List.getD ls (0 + (Int.toNat v7)) (Tup.dflt Zad)))))] (Ye8 ls_n ls v7 o p ls_c)) /\ (((0 + (Int.toNat v7)) < ls_n)) /\ ((List.length ls = ls_n)) /\ Z [(4, some (.int .u64 (OpV.result o (List.getD ls (0 + (Int.toNat v7)) (Tup.dflt Zad)))))] (Ye8 ls_n ls v7 o p ls_c)) : EvTC Ztq Zkr [[], [], [], [1], [], [2], [], [], [], [1], [], [], [0], [], [], [], [], [], [], []] (Ye9 v7) (Ye7 ls_n ls p ls_c o) [4] [0, 1] Z := EvTC.of (by kernel_rfl) h
def ZqT (p : PlanV) (ls : List (Tup Zad)) (ls_n ls_c : Nat) (o : OpV) (v7 : Int) : Prop := ((0 <= v7)) /\ (((v7 < ((ls_n : Nat) : Int))) /\ ((((0 + (Int.toNat v7)) < ls_n)) /\ (((OpV.Wf o /\ Zg7 (List.getD ls (0 + (Int.toNat v7)) (Tup.dflt Zad)))) /\ (((0 <= v7)) /\ (((v7 < ((ls_n : Nat) : Int))) /\ (((((0 + (Int.toNat v7)) < ls_n)) /\ (((List.length ls = ls_n)) /\ (∀ v4 : Int, v4 = (OpV.result o (List.getD ls (0 + (Int.toNat v7)) (Tup.dflt Zad))) -> ∀ h0 : List (Tup Zad), h0 = (List.set ls (0 + (Int.toNat v7)) (((OpV.next o (List.getD ls (0 + (Int.toNat v7)) (Tup.dflt Zad)))) : Tup Zad)) -> ZkX p ls ls_n ls_c o v4 h0))) /\ ((((0 + (Int.toNat v7)) < ls_n)) /\ (((List.length ls = ls_n)) /\ (∀ v4 : Int, v4 = (OpV.result o (List.getD ls (0 + (Int.toNat v7)) (Tup.dflt Zad))) -> ∀ h0 : List (Tup Zad), h0 = (List.set ls (0 + (Int.toNat v7)) (((OpV.next o (List.getD ls (0 + (Int.toNat v7)) (Tup.dflt Zad)))) : Tup Zad)) -> ZkX p ls ls_n ls_c o v4 h0)))))))))
theorem ZAw (p : PlanV) (ls : List (Tup Zad)) (ls_n ls_c : Nat) (o : OpV) (hK : Zii p ls ls_n ls_c o Kf) (v7 : Int) (h : ZqT p ls ls_n ls_c o v7) : SemL Try.prog w0 fp ρi 2 47 [ZrZ, (.seq Zdx .ret)] (Ye9 v7) (Ye7 ls_n ls p ls_c o) (fnK ZlG 2 Kf) :=
  ZwW Zli (t := Zkr) (Zyy p ls ls_n ls_c o v7 _ ⟨h.1, ⟨h.2.1, ⟨h.2.2.1, ⟨h.2.2.2.1, ⟨Zdk, ⟨h.2.2.2.2.1, ⟨h.2.2.2.2.2.1, ⟨⟨Zdk, ⟨h.2.2.2.2.2.2.1.1, ⟨h.2.2.2.2.2.2.1.2.1, (Zau (Zrq p ls ls_n ls_c o hK (OpV.result o (List.getD ls (0 + (Int.toNat v7)) (Tup.dflt Zad))) (List.set ls (0 + (Int.toNat v7)) (((OpV.next o (List.getD ls (0 + (Int.toNat v7)) (Tup.dflt Zad)))) : Tup Zad)) ((h.2.2.2.2.2.2.1.2.2 (OpV.result o (List.getD ls (0 + (Int.toNat v7)) (Tup.dflt Zad))) rfl) (List.set ls (0 + (Int.toNat v7)) (((OpV.next o (List.getD ls (0 + (Int.toNat v7)) (Tup.dflt Zad)))) : Tup Zad)) rfl)))⟩⟩⟩, ⟨h.2.2.2.2.2.2.2.1, ⟨h.2.2.2.2.2.2.2.2.1, (Zau (Zrq p ls ls_n ls_c o hK (OpV.result o (List.getD ls (0 + (Int.toNat v7)) (Tup.dflt Zad))) (List.set ls (0 + (Int.toNat v7)) (((OpV.next o (List.getD ls (0 + (Int.toNat v7)) (Tup.dflt Zad)))) : Tup Zad)) ((h.2.2.2.2.2.2.2.2.2 (OpV.result o (List.getD ls (0 + (Int.toNat v7)) (Tup.dflt Zad))) rfl) (List.set ls (0 + (Int.toNat v7)) (((OpV.next o (List.getD ls (0 + (Int.toNat v7)) (Tup.dflt Zad)))) : Tup Zad)) rfl)))⟩⟩⟩⟩⟩⟩⟩⟩⟩⟩)
def ZqS (p : PlanV) (ls : List (Tup Zad)) (ls_n ls_c : Nat) (o : OpV) (v7 : Int) : Prop := ((PlanV.opB p o) = true -> (ZqT p ls ls_n ls_c o v7)) /\ ((PlanV.opB p o) = false -> (ZkX p ls ls_n ls_c o 0 ls))
abbrev ZDa (x0 : Int) (x1 : PlanV) (x2 : OpV) : Env := [(0, some (.ptr ⟨1, 0, 0, 1⟩ 47)), (3, some (.ptr ⟨2, 0, 0, 1⟩ 5)), (4, some (.int .u64 0)), (7, some (.int .i64 x0)), (27, some (.bool (PlanV.opB x1 x2)))]
theorem ZAv (p : PlanV) (ls : List (Tup Zad)) (ls_n ls_c : Nat) (o : OpV) (hK : Zii p ls ls_n ls_c o Kf) (v7 : Int) (h : ZqS p ls ls_n ls_c o v7) : SemL Try.prog w0 fp ρi 2 47 [Zfa, (.seq Zdx .ret)] (ZDa v7 p o) (Ye7 ls_n ls p ls_c o) (fnK ZlG 2 Kf) :=
  ZbD (q := (PlanV.opB p o)) (by kernel_rfl) (fun hq => (lpk [0, 3, 7] [0, 1, 2] (ZAw p ls ls_n ls_c o hK v7 (h.1 hq)))) (fun hq => (Zcd (lpk [4] [0, 1] (Zau (Zrq p ls ls_n ls_c o hK 0 ls (h.2 hq))))))
abbrev ZC9 (x0 : Int) (x1 : PlanV) (x2 : OpV) : Env := [(0, some (.ptr ⟨1, 0, 0, 1⟩ 47)), (3, some (.ptr ⟨2, 0, 0, 1⟩ 5)), (4, some (.int .u64 0)), (7, some (.int .i64 x0)), (8, some (.bool (PlanV.opB x1 x2)))]
theorem Zyx (p : PlanV) (ls : List (Tup Zad)) (ls_n ls_c : Nat) (o : OpV) (v7 : Int) (Z : Env -> Heap -> Prop) (h : Z (ZDa v7 p o) (Ye7 ls_n ls p ls_c o)) : EvC Ztq Zfb (ZC9 v7 p o) (Ye7 ls_n ls p ls_c o) [0, 3, 4, 7, 27] [0, 1, 2] Z := EvC.of (by kernel_rfl) h
def ZqR (p : PlanV) (ls : List (Tup Zad)) (ls_n ls_c : Nat) (o : OpV) (v7 : Int) : Prop := ZqS p ls ls_n ls_c o v7
theorem ZAu (p : PlanV) (ls : List (Tup Zad)) (ls_n ls_c : Nat) (o : OpV) (hK : Zii p ls ls_n ls_c o Kf) (v7 : Int) (h : ZqR p ls ls_n ls_c o v7) : SemL Try.prog w0 fp ρi 2 47 [Zfb, Zfa, (.seq Zdx .ret)] (ZC9 v7 p o) (Ye7 ls_n ls p ls_c o) (fnK ZlG 2 Kf) :=
  Zas Zli (Zyx p ls ls_n ls_c o v7 _ (ZAv p ls ls_n ls_c o hK v7 h))
abbrev ZBc : Env := [(0, some (.ptr ⟨1, 0, 0, 1⟩ 47)), (3, some (.ptr ⟨2, 0, 0, 1⟩ 5)), (4, some (.int .u64 0))]
theorem Zyw (p : PlanV) (ls : List (Tup Zad)) (ls_n ls_c : Nat) (o : OpV) (Z : Env -> Heap -> Prop) (h : ((SVal.bd 3 (.tuple [.int .i64 (PlanV.opLine p o), .bool (PlanV.opB p o)]))) /\ ((OpV.Wf o) /\ ((.tuple [.int .i64 (PlanV.opLine p o), .bool (PlanV.opB p o)] : SVal) = .tuple [.int .i64 (PlanV.opLine p o), .bool (PlanV.opB p o)]) /\ (ZaN (Ye7 ls_n ls p ls_c o) (Ye7 ls_n ls p ls_c o) [(0, some ⟨true, [.rows Zad ls_n ls], 0⟩), (1, some ⟨true, [.one (.int .i64 p.cores), .one (.int .i64 p.banks), .one (.int .i64 p.pages), .one (.int .i64 p.lines), .one (.int .i64 p.arity), .one (.int .i64 p.minor), .one (.int .u64 p.major), .one (.int .i64 p.ns), .one (.int .i64 p.nw), .one (.int .i64 p.fs), .one (.int .i64 p.fw), .one (.int .i64 p.met), .one (.int .i64 p.queue), .one (.int .i64 p.kind), .ints .u8 16 p.key, .ints .u8 16 p.tag, .one (.slice ⟨0, 0, 0, 32⟩ ls_n ls_c)], 0⟩), (2, some ⟨true, (OpV.cs o), 0⟩)])) /\ Z [(0, some (.ptr ⟨1, 0, 0, 1⟩ 47)), (3, some (.ptr ⟨2, 0, 0, 1⟩ 5)), (4, some (.int .u64 0)), (7, some (.int .i64 (PlanV.opLine p o))), (8, some (.bool (PlanV.opB p o)))] (Ye7 ls_n ls p ls_c o)) : EvQC Ztq Zks [.tuple [.int .i64 (PlanV.opLine p o), .bool (PlanV.opB p o)]] ZBc (Ye7 ls_n ls p ls_c o) [0, 3, 4, 7, 8] [0, 1, 2] Z := EvQC.of (by kernel_rfl) h
def ZqQ (p : PlanV) (ls : List (Tup Zad)) (ls_n ls_c : Nat) (o : OpV) : Prop := ((OpV.Wf o)) /\ (∀ v7 : Int, v7 = (PlanV.opLine p o) -> ZqR p ls ls_n ls_c o v7)
theorem ZAt (p : PlanV) (ls : List (Tup Zad)) (ls_n ls_c : Nat) (o : OpV) (hK : Zii p ls ls_n ls_c o Kf) (h : ZqQ p ls ls_n ls_c o) : SemL Try.prog w0 fp ρi 2 47 [Zgu, (.seq Zfb Zfa), (.seq Zdx .ret)] ZBc (Ye7 ls_n ls p ls_c o) (fnK ZlG 2 Kf) :=
  ZkQ Zli (its := Zks) (Zyw p ls ls_n ls_c o _ ⟨(ZdJ (τ := Zby) (by kernel_rfl)).2, ⟨⟨h.1, rfl, (Za3 _)⟩, (Zau (ZAu p ls ls_n ls_c o hK (PlanV.opLine p o) (h.2 (PlanV.opLine p o) rfl)))⟩⟩)
def ZqP (p : PlanV) (ls : List (Tup Zad)) (ls_n ls_c : Nat) (o : OpV) (v6 : Int) : Prop := ((v6 != 0) = true -> (ZqU p ls ls_n ls_c o v6)) /\ ((v6 != 0) = false -> (ZqQ p ls ls_n ls_c o))
abbrev ZC8 (x0 : Int) : Env := [(0, some (.ptr ⟨1, 0, 0, 1⟩ 47)), (3, some (.ptr ⟨2, 0, 0, 1⟩ 5)), (4, some (.int .u64 0)), (6, some (.int .i64 x0)), (16, some (.bool (x0 != 0)))]
theorem ZAs (p : PlanV) (ls : List (Tup Zad)) (ls_n ls_c : Nat) (o : OpV) (hK : Zii p ls ls_n ls_c o Kf) (v6 : Int) (h : ZqP p ls ls_n ls_c o v6) : SemL Try.prog w0 fp ρi 2 47 [Ziz, (.seq (.seq Zgu (.seq Zfb Zfa)) (.seq Zdx .ret))] (ZC8 v6) (Ye7 ls_n ls p ls_c o) (fnK ZlG 2 Kf) :=
  ZbD (q := (v6 != 0)) (by kernel_rfl) (fun hq => (Zau (lpk [6] [0, 1] (ZAx p ls ls_n ls_c o hK v6 (h.1 hq))))) (fun hq => (Zcd (lpk [0, 3, 4] [0, 1, 2] (Zau (Zau (ZAt p ls ls_n ls_c o hK (h.2 hq)))))))
abbrev ZC7 (x0 : Int) : Env := [(0, some (.ptr ⟨1, 0, 0, 1⟩ 47)), (3, some (.ptr ⟨2, 0, 0, 1⟩ 5)), (4, some (.int .u64 0)), (6, some (.int .i64 x0))]
theorem Zyv (p : PlanV) (ls : List (Tup Zad)) (ls_n ls_c : Nat) (o : OpV) (v6 : Int) (Z : Env -> Heap -> Prop) (h : Z (ZC8 v6) (Ye7 ls_n ls p ls_c o)) : EvC Ztq ZiA (ZC7 v6) (Ye7 ls_n ls p ls_c o) [0, 3, 4, 6, 16] [0, 1, 2] Z := EvC.of (by kernel_rfl) h
def ZqO (p : PlanV) (ls : List (Tup Zad)) (ls_n ls_c : Nat) (o : OpV) (v6 : Int) : Prop := ZqP p ls ls_n ls_c o v6
theorem ZAr (p : PlanV) (ls : List (Tup Zad)) (ls_n ls_c : Nat) (o : OpV) (hK : Zii p ls ls_n ls_c o Kf) (v6 : Int) (h : ZqO p ls ls_n ls_c o v6) : SemL Try.prog w0 fp ρi 2 47 [ZiA, Ziz, (.seq (.seq Zgu (.seq Zfb Zfa)) (.seq Zdx .ret))] (ZC7 v6) (Ye7 ls_n ls p ls_c o) (fnK ZlG 2 Kf) :=
  Zas Zli (Zyv p ls ls_n ls_c o v6 _ (ZAs p ls ls_n ls_c o hK v6 h))
theorem Zyu (p : PlanV) (ls : List (Tup Zad)) (ls_n ls_c : Nat) (o : OpV) (Z : Env -> Heap -> Prop) (h : ((SVal.bd 3 (.int .i64 (PlanV.opCode p o)))) /\ ((OpV.Wf o) /\ ((.int .i64 (PlanV.opCode p o) : SVal) = .int .i64 (PlanV.opCode p o)) /\ (ZaN (Ye7 ls_n ls p ls_c o) (Ye7 ls_n ls p ls_c o) [(0, some ⟨true, [.rows Zad ls_n ls], 0⟩), (1, some ⟨true, [.one (.int .i64 p.cores), .one (.int .i64 p.banks), .one (.int .i64 p.pages), .one (.int .i64 p.lines), .one (.int .i64 p.arity), .one (.int .i64 p.minor), .one (.int .u64 p.major), .one (.int .i64 p.ns), .one (.int .i64 p.nw), .one (.int .i64 p.fs), .one (.int .i64 p.fw), .one (.int .i64 p.met), .one (.int .i64 p.queue), .one (.int .i64 p.kind), .ints .u8 16 p.key, .ints .u8 16 p.tag, .one (.slice ⟨0, 0, 0, 32⟩ ls_n ls_c)], 0⟩), (2, some ⟨true, (OpV.cs o), 0⟩)])) /\ Z [(0, some (.ptr ⟨1, 0, 0, 1⟩ 47)), (3, some (.ptr ⟨2, 0, 0, 1⟩ 5)), (4, some (.int .u64 0)), (6, some (.int .i64 (PlanV.opCode p o)))] (Ye7 ls_n ls p ls_c o)) : EvQC Ztq Zkt [.int .i64 (PlanV.opCode p o)] ZBc (Ye7 ls_n ls p ls_c o) [0, 3, 4, 6] [0, 1, 2] Z := EvQC.of (by kernel_rfl) h
def ZqN (p : PlanV) (ls : List (Tup Zad)) (ls_n ls_c : Nat) (o : OpV) : Prop := ((OpV.Wf o)) /\ (∀ v6 : Int, v6 = (PlanV.opCode p o) -> ZqO p ls ls_n ls_c o v6)
theorem ZAq (p : PlanV) (ls : List (Tup Zad)) (ls_n ls_c : Nat) (o : OpV) (hK : Zii p ls ls_n ls_c o Kf) (h : ZqN p ls ls_n ls_c o) : SemL Try.prog w0 fp ρi 2 47 [ZnK, (.seq ZiA Ziz), (.seq (.seq Zgu (.seq Zfb Zfa)) (.seq Zdx .ret))] ZBc (Ye7 ls_n ls p ls_c o) (fnK ZlG 2 Kf) :=
  ZkQ Zli (its := Zkt) (Zyu p ls ls_n ls_c o _ ⟨(ZdJ (τ := Zby) (by kernel_rfl)).2, ⟨⟨h.1, rfl, (Za3 _)⟩, (Zau (ZAr p ls ls_n ls_c o hK (PlanV.opCode p o) (h.2 (PlanV.opCode p o) rfl)))⟩⟩)
abbrev ZCh (x0 : OpV) : Env := [(0, some (.ptr ⟨1, 0, 0, 1⟩ 47)), (1, some (.agg (OpV.cs x0)))]
abbrev ZCg (x0 : Nat) (x1 : List (Tup Zad)) (x2 : PlanV) (x3 : Nat) : Heap := ⟨2, [(0, some ⟨true, [.rows Zad x0 x1], 0⟩), (1, some ⟨true, [.one (.int .i64 x2.cores), .one (.int .i64 x2.banks), .one (.int .i64 x2.pages), .one (.int .i64 x2.lines), .one (.int .i64 x2.arity), .one (.int .i64 x2.minor), .one (.int .u64 x2.major), .one (.int .i64 x2.ns), .one (.int .i64 x2.nw), .one (.int .i64 x2.fs), .one (.int .i64 x2.fw), .one (.int .i64 x2.met), .one (.int .i64 x2.queue), .one (.int .i64 x2.kind), .ints .u8 16 x2.key, .ints .u8 16 x2.tag, .one (.slice ⟨0, 0, 0, 32⟩ x0 x3)], 0⟩)]⟩
theorem Zyt (p : PlanV) (ls : List (Tup Zad)) (ls_n ls_c : Nat) (o : OpV) (Z : Env -> Heap -> Prop) (h : Z ZBc (Ye7 ls_n ls p ls_c o)) : EvC Ztq ZnL (ZCh o) (ZCg ls_n ls p ls_c) [0, 3, 4] [0, 1, 2] Z := EvC.of (by kernel_rfl) h
def ZqM (p : PlanV) (ls : List (Tup Zad)) (ls_n ls_c : Nat) (o : OpV) : Prop := ZqN p ls ls_n ls_c o
theorem ZAp (p : PlanV) (ls : List (Tup Zad)) (ls_n ls_c : Nat) (o : OpV) (hK : Zii p ls ls_n ls_c o Kf) (h : ZqM p ls ls_n ls_c o) : SemL Try.prog w0 fp ρi 2 47 [ZnL, (.seq (.seq ZnK (.seq ZiA Ziz)) (.seq (.seq Zgu (.seq Zfb Zfa)) (.seq Zdx .ret)))] (ZCh o) (ZCg ls_n ls p ls_c) (fnK ZlG 2 Kf) :=
  Zas Zli (Zyt p ls ls_n ls_c o _ (Zau (Zau (ZAq p ls ls_n ls_c o hK h))))
def Zt8 (p : PlanV) (ls : List (Tup Zad)) (ls_n ls_c : Nat) (o : OpV) : Prop := ZqM p ls ls_n ls_c o
theorem ZDw (p : PlanV) (ls : List (Tup Zad)) (ls_n ls_c : Nat) (o : OpV) (hK : Zii p ls ls_n ls_c o Kf) (h : Zt8 p ls ls_n ls_c o) : SemL Try.prog w0 fp ρi 2 47 [ZCx] (ZCh o) (ZCg ls_n ls p ls_c) (fnK ZlG 2 Kf) :=
  (Zau (ZAp p ls ls_n ls_c o hK h))
end
theorem ZBW (p : PlanV) (ls : List (Tup Zad)) (ls_n ls_c : Nat) (o : OpV) (hpre : (PlanV.right p = true /\ LinesOk p ls /\ List.length ls = ls_n /\ ls_n <= ls_c /\ OpV.Wf o)) : Zt8 p ls ls_n ls_c o := by
  unfold Zt8 ZqM ZqN ZqO ZqP ZqQ ZqR ZqS ZqT ZkX ZqU
  obtain ⟨hr, hl, h1, h2, hw⟩ := hpre
  refine ⟨hw, fun v6 h6 => ⟨fun h => ?_, fun h => ⟨hw, fun v7 h7 => ⟨fun hB => ?_, fun hB => ?_⟩⟩⟩⟩
  · have hB : ¬ p.opB o = true := fun hB => by
      rw [h6, (PlanV.opB_line hB).2.2.2.1] at h; exact absurd h (by decide)
    unfold PlanV.flatR PlanV.flatL
    rw [if_neg hB, if_neg hB]
    exact ⟨rfl, h6, rfl⟩
  · obtain ⟨e, k0, k1, hc, _⟩ := PlanV.opB_line hB
    rw [e] at h7
    subst h7
    have hl1 := hl.1
    have lok := hl.at_ (k := (o.oat / 32).toNat) (by omega)
    have T : ∀ (v4 : Int), v4 = o.result (ls.getD (0 + (o.oat / 32).toNat) (Tup.dflt Zad)) -> ∀ (h0 : List (Tup Zad)), h0 = ls.set (0 + (o.oat / 32).toNat) (o.next (ls.getD (0 + (o.oat / 32).toNat) (Tup.dflt Zad))) -> v4 = p.flatR o ls /\ 0 = p.opCode o /\ h0 = p.flatL o ls := by
      intro v4 e4 h0 e0
      rw [Nat.zero_add] at e4 e0
      unfold PlanV.flatR PlanV.flatL
      rw [if_pos hB, if_pos hB]
      exact ⟨e4, hc.symm, e0⟩
    have lok2 : Zg7 (ls.getD (0 + (o.oat / 32).toNat) (Tup.dflt Zad)) := by rw [Nat.zero_add]; exact lok
    exact ⟨k0, by omega, by omega, ⟨hw, lok2⟩, k0, by omega, ⟨by omega, h1, T⟩, by omega, h1, T⟩
  · have hB : ¬ p.opB o = true := fun e => by rw [e] at hB; cases hB
    unfold PlanV.flatR PlanV.flatL
    rw [if_neg hB, if_neg hB]
    have : p.opCode o = 0 := by rw [<- h6]; simpa using h
    exact ⟨rfl, this.symm, rfl⟩
theorem ZCm : Sound Try.prog 27 (gS ZCl) := by
  refine ZbP Zsa ?_
  intro args H K h
  obtain ⟨pre, out, hD, hpre, hK⟩ := Zou h
  unfold ZCl at hD
  split at hD
  · obtain ⟨hb, hD⟩ := ZaT hD
    simp only [Bool.and_eq_true] at hb
    obtain ⟨h0, h1⟩ := hb
    obtain rfl := Nat.eq_of_beq_eq_true h0
    obtain rfl := Nat.eq_of_beq_eq_true h1
    cases hD
    obtain ⟨rfl, hpre⟩ := hpre
    exact ⟨rfl, fun w0 fp ρi => ZDw (PlanV.mk _ _ _ _ _ _ _ _ _ _ _ _ _ _ _ _) _ _ _ (OpV.mk _ _ _ _ _) hK (ZBW (PlanV.mk _ _ _ _ _ _ _ _ _ _ _ _ _ _ _ _) _ _ _ (OpV.mk _ _ _ _ _) hpre)⟩
  · cases hD
section
variable {w0 : World} {fp : Nat -> Nat -> Prop} {ρi : Rho} {Kf : SVal -> Heap -> Prop}
end
section
variable {w0 : World} {fp : Nat -> Nat -> Prop} {ρi : Rho} {Kf : SVal -> Heap -> Prop}
end
end Go.Proofs.Ytinjdimejijabaa
