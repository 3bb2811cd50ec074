/- Part of the proof: SxWaysN. -/
import Derived.Test.YtinjdimejijabaaSxProgC
import Derived.Test.YtinjdimejijabaaSxCacheN
import Derived.Test.YtinjdimejijabaaSxMixT
import Derived.KernelRfl
set_option linter.unusedVariables false
set_option linter.unusedSimpArgs false
set_option maxRecDepth 20000
namespace Go.Proofs.Ytinjdimejijabaa
open Go.Sx
def Zln : ZpM := fun args => match args with
  | [.int .i64 n] => some (True, .int .i64 (ZaM n))
  | _ => none
def Zpk : PCon := ⟨50, Zln⟩
def ZkB : ACode := .reg (.op (some 2) (.mov (.cn (.int .i64 0))) .nil)
def Ziv : ACode := .reg (.op (some 3) (.mov (.tm 0)) (.op (some 4) (.max2 (.tm 3) (.cn (.int .i64 1))) (.op (some 5) (.min2 (.tm 4) (.cn (.int .i64 64))) (.op (some 2) (.mov (.tm 5)) .nil))))
def ZoM : ACode := (.seq ZkB (.seq Ziv .ret))
def ZfE : Res := .one (.tm 2)
theorem ZjJ : ZbP Try.prog 50 1 6 ZoM ZfE = true := by kernel_rfl
def Zlp : ZaB := Zdy [] []
theorem Zl5 : ZaR Try.prog Zlp := Za9 trivial trivial
section
variable {w0 : World} {fp : Nat -> Nat -> Prop} {ρi : Rho} {Kf : SVal -> Heap -> Prop}
abbrev Yc0 (x0 : Int) : Env := [(2, some (.int .i64 (if 64 < (if x0 < 1 then 1 else x0) then 64 else (if x0 < 1 then 1 else x0))))]
abbrev Yc1 : Heap := ⟨0, []⟩
abbrev Yc2 (x0 : Int) : Env := [(0, some (.int .i64 x0))]
theorem ZsV (n : Int) (Z : Env -> Heap -> Prop) (h : Z (Yc0 n) Yc1) : EvC Zlp Ziv (Yc2 n) Yc1 [2] [] Z := EvC.of (by kernel_rfl) h
theorem ZqO (n : Int) : RetC ZfE (Yc0 n) Yc1 (.int .i64 (if 64 < (if n < 1 then 1 else n) then 64 else (if n < 1 then 1 else n))) := RetC.of (fun Z => by kernel_rfl)
def Zi9 (n : Int) : Prop := (if 64 < (if n < 1 then 1 else n) then 64 else (if n < 1 then 1 else n)) = (ZaM n)
theorem ZuC (n : Int) (hK : Kf (.int .i64 (ZaM n)) ⟨0, []⟩) (h : Zi9 n) : SemL Try.prog w0 fp ρi 0 6 [Ziv, .ret] (Yc2 n) Yc1 (fnK ZfE 0 Kf) :=
  Zap Zl5 (ZsV n _ (ZaT (R := ZfE) (m := 0) (Kf := Kf) (fun _ _ h => h) (ZqO n) (ZnY rfl (by kernel_rfl) (cg1 (fun (z1 : Int) => (.int .i64 z1 : SVal)) h) hK)))
theorem ZsU (n : Int) (Z : Env -> Heap -> Prop) (h : Z (Yc2 n) Yc1) : EvC Zlp ZkB (Yc2 n) Yc1 [0] [] Z := EvC.of (by kernel_rfl) h
theorem ZuB (n : Int) (hK : Kf (.int .i64 (ZaM n)) ⟨0, []⟩) (h : Zi9 n) : SemL Try.prog w0 fp ρi 0 6 [ZkB, (.seq Ziv .ret)] (Yc2 n) Yc1 (fnK ZfE 0 Kf) :=
  Zap Zl5 (ZsU n _ (Zau (ZuC n hK h)))
theorem Zqb (n : Int) (hK : Kf (.int .i64 (ZaM n)) ⟨0, []⟩) (h : Zi9 n) : SemL Try.prog w0 fp ρi 0 6 [ZoM] (Yc2 n) Yc1 (fnK ZfE 0 Kf) :=
  (Zau (ZuB n hK h))
end
theorem Zpo (n : Int) (hpre : True) : Zi9 n := by
  unfold Zi9
  show (if 64 < if n < 1 then 1 else n then 64 else if n < 1 then 1 else n) = ZaM n
  unfold ZaM
  by_cases h : n < 1
  · rw [if_pos h]; omega
  · rw [if_neg h]; by_cases h2 : 64 < n
    · rw [if_pos h2]; omega
    · rw [if_neg h2]; omega
theorem Zqp : Sound Try.prog 50 (ZmE Zln) := by
  refine ZaY ZjJ ?_
  intro args H K h
  obtain ⟨pre, v, hP, hpre, rfl, hK⟩ := Zn3 h
  unfold Zln at hP
  split at hP
  · cases hP
    exact ⟨rfl, fun w0 fp ρi => Zqb _ hK (Zpo _ hpre)⟩
  · cases hP
def ZwP : Zd2 := fun args H => match args, H with
  | [.agg [.one (.int .i64 sets), .one (.int .i64 ways)]], ⟨0, []⟩ => some (True, fun K => K (.ptr ⟨1, 0, 0, 1⟩ 2) ⟨2, [(1, some ⟨true, [.i (ZaM ways), .one (.slice ⟨0, 0, 0, 1⟩ (ZaJ sets) (ZaJ sets))], 0⟩), (0, some ⟨true, [.rows Zab (ZaJ sets) (List.replicate (ZaJ sets) (Tup.dflt Zab))], 0⟩)]⟩)
  | _, _ => none
def Zl2 (sets ways : Int) (Kf : SVal -> Heap -> Prop) : Prop := Kf (.ptr ⟨1, 0, 0, 1⟩ 2) ⟨2, [(1, some ⟨true, [.i (ZaM ways), .one (.slice ⟨0, 0, 0, 1⟩ (ZaJ sets) (ZaJ sets))], 0⟩), (0, some ⟨true, [.rows Zab (ZaJ sets) (List.replicate (ZaJ sets) (Tup.dflt Zab))], 0⟩)]⟩
def Zlc : ACode := .reg (.op (some 1) (.box (.tm 0)) (.op (some 2) (.mov (.cn (.nilptr))) .nil))
def ZiP : ACode := .reg (.op (some 3) (.mov (.cn (.fn (.func 50) [] []))) .nil)
def ZiN : List MStep := [.mk 0 0 (some 4) (.mov (.tm 3)), .mk 1 0 (some 5) (.fieldAddr (.tm 1) 1 1), .mk 2 0 (some 6) (.load1 (.tm 5)), .mk 4 0 (some 8) (.mov (.tm 3)), .mk 5 0 (some 9) (.fieldAddr (.tm 1) 0 1), .mk 6 0 (some 10) (.load1 (.tm 9)), .mk 3 1 (some 7) (.callV 50 (.tm 4) [(.tm 6)]), .mk 7 2 (some 11) (.callV 50 (.tm 8) [(.tm 10)]), .mk 8 2 (some 12) (.mksliceR Zab (.tm 11) (.tm 11)), .mk 9 0 (some 13) (.build [.i 0, .one (.nilslice)] [(0, 1, (.tm 7)), (1, 1, (.tm 12))]), .mk 10 2 (some 14) (.box (.tm 13)), .mk 11 0 (some 2) (.mov (.tm 14))]
def ZiO : ACode := .regM ZiN
def Zws : ACode := (.seq Zlc (.seq ZiP (.seq ZiO .ret)))
def Zlm : Res := .one (.tm 2)
theorem ZmM : ZbP Try.prog 16 1 15 Zws Zlm = true := by kernel_rfl
def ZpN : ZaB := Zdy [Zpk] []
theorem Zow : ZaR Try.prog ZpN := Za9 ⟨Zqp, trivial⟩ trivial
section
variable {w0 : World} {fp : Nat -> Nat -> Prop} {ρi : Rho} {Kf : SVal -> Heap -> Prop}
abbrev Yc3 (x0 x1 : Int) : Heap := ⟨1, [(0, some ⟨true, [.i x0, .i x1], 0⟩)]⟩
abbrev Yc4 (x0 x1 : Int) : Heap := ⟨3, [(1, some ⟨true, [.rows Zab (Int.toNat (ZaM x0)) (List.replicate (Int.toNat (ZaM x0)) (Tup.dflt Zab))], (((Int.toNat (ZaM x0)) - (Int.toNat (ZaM x0))) * 1)⟩), (2, some ⟨true, [.i (ZaM x1), .one (.slice ⟨1, 0, 0, 1⟩ (Int.toNat (ZaM x0)) (Int.toNat (ZaM x0)))], 0⟩)]⟩
abbrev Yc5 : Env := [(1, some (.ptr ⟨0, 0, 0, 1⟩ 2)), (3, some (.fn (.func 50) [] []))]
theorem ZtX (sets ways : Int) (Z : Env -> Heap -> Prop) (h : (True) /\ ((Zbp (Yc3 sets ways) (Heap.keep (Yc3 sets ways) [0]) (Zbz [0] (Yc3 sets ways)))) /\ (True) /\ ((0 <= (ZaM sets))) /\ (((ZaM sets) <= (ZaM sets))) /\ (((1 : Int) * (ZaM sets) <= 1048576)) /\ Z [(2, some (.ptr ⟨2, 0, 0, 1⟩ 2))] (Yc4 sets ways)) : EvNC ZpN ZiN [[], [], [0], [], [], [], [], [], [], [], [], []] Yc5 (Yc3 sets ways) [2] [1, 2] Z := EvNC.of (by kernel_rfl) h
theorem Zq9 (sets ways : Int) : RetC Zlm [(2, some (.ptr ⟨2, 0, 0, 1⟩ 2))] (Yc4 sets ways) (.ptr ⟨2, 0, 0, 1⟩ 2) := RetC.of (fun Z => by kernel_rfl)
def Zhi (sets ways : Int) : Prop := ((0 <= (ZaM sets))) /\ ((((1 : Int) * (ZaM sets) <= 1048576)) /\ (((Int.toNat (ZaM sets)) = (ZaJ sets)) /\ ((Int.toNat (ZaM sets)) = (ZaJ sets)) /\ ((Int.toNat (ZaM sets)) = (ZaJ sets)) /\ ((List.replicate (Int.toNat (ZaM sets)) (Tup.dflt Zab)) = (List.replicate (ZaJ sets) (Tup.dflt Zab))) /\ ((((Int.toNat (ZaM sets)) - (Int.toNat (ZaM sets))) * 1) = 0)))
theorem Zv4 (sets ways : Int) (hK : Zl2 sets ways Kf) (h : Zhi sets ways) : SemL Try.prog w0 fp ρi 0 15 [ZiO, .ret] Yc5 (Yc3 sets ways) (fnK Zlm 0 Kf) :=
  ZiX Zow (steps := ZiN) (ZtX sets ways _ ⟨True.intro, ⟨ZgG, ⟨True.intro, ⟨h.1, ⟨(Int.le_refl _), ⟨h.2.1, (ZaT (R := Zlm) (m := 0) (Kf := Kf) (fun _ _ h => h) (Zq9 sets ways) (ZaK (Eq.mpr (cg5 (fun (z1 z2 z3 : Nat) (z4 : List (Tup Zab)) (z5 : Nat) => Zdr 0 Kf (.ptr ⟨2, 0, 0, 1⟩ 2) ⟨3, [(1, some ⟨true, [.rows Zab z3 z4], z5⟩), (2, some ⟨true, [.i (ZaM ways), .one (.slice ⟨1, 0, 0, 1⟩ z2 z1)], 0⟩)]⟩) h.2.2.1 h.2.2.2.1 h.2.2.2.2.1 h.2.2.2.2.2.1 h.2.2.2.2.2.2) (Zaz [(0, 1), (1, 2)] [1, 0] rfl (by kernel_rfl) rfl bpt (hsc (Zam pbd (Zam bsl Zax)) (hsc pcs Zak)) rfl (by kernel_rfl) (hK)))))⟩⟩⟩⟩⟩⟩)
abbrev Yc6 : Env := [(1, some (.ptr ⟨0, 0, 0, 1⟩ 2))]
theorem ZtW (sets ways : Int) (Z : Env -> Heap -> Prop) (h : Z Yc5 (Yc3 sets ways)) : EvC ZpN ZiP Yc6 (Yc3 sets ways) [1, 3] [0] Z := EvC.of (by kernel_rfl) h
theorem Zv3 (sets ways : Int) (hK : Zl2 sets ways Kf) (h : Zhi sets ways) : SemL Try.prog w0 fp ρi 0 15 [ZiP, (.seq ZiO .ret)] Yc6 (Yc3 sets ways) (fnK Zlm 0 Kf) :=
  Zap Zow (ZtW sets ways _ (Zau (Zv4 sets ways hK h)))
abbrev Yc7 (x0 x1 : Int) : Env := [(0, some (.agg [.i x0, .i x1]))]
theorem ZtV (sets ways : Int) (Z : Env -> Heap -> Prop) (h : Z Yc6 (Yc3 sets ways)) : EvC ZpN Zlc (Yc7 sets ways) Yc1 [1] [0] Z := EvC.of (by kernel_rfl) h
theorem Zv2 (sets ways : Int) (hK : Zl2 sets ways Kf) (h : Zhi sets ways) : SemL Try.prog w0 fp ρi 0 15 [Zlc, (.seq ZiP (.seq ZiO .ret))] (Yc7 sets ways) Yc1 (fnK Zlm 0 Kf) :=
  Zap Zow (ZtV sets ways _ (Zau (Zv3 sets ways hK h)))
theorem Zxb (sets ways : Int) (hK : Zl2 sets ways Kf) (h : Zhi sets ways) : SemL Try.prog w0 fp ρi 0 15 [Zws] (Yc7 sets ways) Yc1 (fnK Zlm 0 Kf) :=
  (Zau (Zv2 sets ways hK h))
end
theorem Zwd (sets ways : Int) (hpre : True) : Zhi sets ways := by
  unfold Zhi
  have h := Zg4 sets
  exact ⟨by omega, by omega, rfl, rfl, rfl, rfl, by omega⟩
theorem Zxh : Sound Try.prog 16 (gS ZwP) := by
  refine ZaY ZmM ?_
  intro args H K h
  obtain ⟨pre, out, hD, hpre, hK⟩ := ZcG h
  unfold ZwP at hD
  split at hD
  · cases hD
    exact ⟨rfl, fun w0 fp ρi => Zxb _ _ hK (Zwd _ _ hpre)⟩
  · cases hD
end Go.Proofs.Ytinjdimejijabaa
