/- Part of the proof: SxWaysN. -/
import Derived.Test.YtinjdimejijabaaSxProgC
import Derived.Test.YtinjdimejijabaaSxCacheN
import Derived.Test.YtinjdimejijabaaSxMixT
import Derived.KernelRfl
set_option linter.unusedVariables false
set_option linter.unusedSimpArgs false
set_option maxRecDepth 20000
namespace Go.Proofs.Ytinjdimejijabaa
open Go.Sx
def ZmY : Zr8 := fun args => match args with
  | [.int .i64 n] => some (True, .int .i64 (ZaP n))
  | _ => none
def ZrE : PCon := ⟨50, ZmY⟩
def Zmk : ACode := .reg (.op (some 2) (.mov (.cn (.int .i64 0))) .nil)
def ZjM : ACode := .reg (.op (some 3) (.mov (.tm 0)) (.op (some 4) (.max2 (.tm 3) (.cn (.int .i64 1))) (.op (some 5) (.min2 (.tm 4) (.cn (.int .i64 64))) (.op (some 2) (.mov (.tm 5)) .nil))))
def Zq0 : ACode := (.seq Zmk (.seq ZjM .ret))
def Zgj : Res := .one (.tm 2)
theorem Zk2 : ZbX Try.prog 50 1 6 Zq0 Zgj = true := by kernel_rfl
def Zm0 : ZaC := Zdz [] []
theorem ZnO : ZaT Try.prog Zm0 := Zba trivial trivial
section
variable {w0 : World} {fp : Nat -> Nat -> Prop} {ρi : Rho} {Kf : SVal -> Heap -> Prop}
abbrev Yc0 (x0 : Int) : Env := [(2, some (.int .i64 (if 64 < (if x0 < 1 then 1 else x0) then 64 else (if x0 < 1 then 1 else x0))))]
abbrev Yc1 : Heap := ⟨0, []⟩
abbrev Yc2 (x0 : Int) : Env := [(0, some (.int .i64 x0))]
theorem Zv3 (n : Int) (Z : Env -> Heap -> Prop) (h : Z (Yc0 n) Yc1) : EvC Zm0 ZjM (Yc2 n) Yc1 [2] [] Z := EvC.of (by kernel_rfl) h
theorem Ztn (n : Int) : RetC Zgj (Yc0 n) Yc1 (.int .i64 (if 64 < (if n < 1 then 1 else n) then 64 else (if n < 1 then 1 else n))) := RetC.of (fun Z => by kernel_rfl)
def Zkp (n : Int) : Prop := (if 64 < (if n < 1 then 1 else n) then 64 else (if n < 1 then 1 else n)) = (ZaP n)
theorem Zyd (n : Int) (hK : Kf (.int .i64 (ZaP n)) ⟨0, []⟩) (h : Zkp n) : SemL Try.prog w0 fp ρi 0 6 [ZjM, .ret] (Yc2 n) Yc1 (fnK Zgj 0 Kf) :=
  Zan ZnO (Zv3 n _ (ZaX (R := Zgj) (m := 0) (Kf := Kf) (fun _ _ h => h) (Ztn n) (ZpW rfl (by kernel_rfl) (cg1 (fun (z1 : Int) => (.int .i64 z1 : SVal)) h) hK)))
theorem Zv2 (n : Int) (Z : Env -> Heap -> Prop) (h : Z (Yc2 n) Yc1) : EvC Zm0 Zmk (Yc2 n) Yc1 [0] [] Z := EvC.of (by kernel_rfl) h
theorem Zyc (n : Int) (hK : Kf (.int .i64 (ZaP n)) ⟨0, []⟩) (h : Zkp n) : SemL Try.prog w0 fp ρi 0 6 [Zmk, (.seq ZjM .ret)] (Yc2 n) Yc1 (fnK Zgj 0 Kf) :=
  Zan ZnO (Zv2 n _ (Zar (Zyd n hK h)))
theorem ZsE (n : Int) (hK : Kf (.int .i64 (ZaP n)) ⟨0, []⟩) (h : Zkp n) : SemL Try.prog w0 fp ρi 0 6 [Zq0] (Yc2 n) Yc1 (fnK Zgj 0 Kf) :=
  (Zar (Zyc n hK h))
end
theorem ZrI (n : Int) (hpre : True) : Zkp n := by
  unfold Zkp
  show (if 64 < if n < 1 then 1 else n then 64 else if n < 1 then 1 else n) = ZaP n
  unfold ZaP
  by_cases h : n < 1
  · rw [if_pos h]; omega
  · rw [if_neg h]; by_cases h2 : 64 < n
    · rw [if_pos h2]; omega
    · rw [if_neg h2]; omega
theorem ZsR : Sound Try.prog 50 (Zoy ZmY) := by
  refine Za2 Zk2 ?_
  intro args H K h
  obtain ⟨pre, v, hP, hpre, rfl, hK⟩ := Zp1 h
  unfold ZmY at hP
  split at hP
  · cases hP
    exact ⟨rfl, fun w0 fp ρi => ZsE _ hK (ZrI _ hpre)⟩
  · cases hP
def ZAa : Zd4 := fun args H => match args, H with
  | [.agg [.one (.int .i64 sets), .one (.int .i64 ways)]], ⟨0, []⟩ => some (True, fun K => K (.ptr ⟨1, 0, 0, 1⟩ 2) ⟨2, [(1, some ⟨true, [.i (ZaP ways), .one (.slice ⟨0, 0, 0, 1⟩ (ZaK sets) (ZaK sets))], 0⟩), (0, some ⟨true, [.rows Zab (ZaK sets) (List.replicate (ZaK sets) (Tup.dflt Zab))], 0⟩)]⟩)
  | _, _ => none
def ZnL (sets ways : Int) (Kf : SVal -> Heap -> Prop) : Prop := Kf (.ptr ⟨1, 0, 0, 1⟩ 2) ⟨2, [(1, some ⟨true, [.i (ZaP ways), .one (.slice ⟨0, 0, 0, 1⟩ (ZaK sets) (ZaK sets))], 0⟩), (0, some ⟨true, [.rows Zab (ZaK sets) (List.replicate (ZaK sets) (Tup.dflt Zab))], 0⟩)]⟩
def ZmN : ACode := .reg (.op (some 1) (.box (.tm 0)) (.op (some 2) (.mov (.cn (.nilptr))) .nil))
def Zj6 : ACode := .reg (.op (some 3) (.mov (.cn (.fn (.func 50) [] []))) .nil)
def Zj4 : List MStep := [.mk 0 0 (some 4) (.mov (.tm 3)), .mk 1 0 (some 5) (.fieldAddr (.tm 1) 1 1), .mk 2 0 (some 6) (.load1 (.tm 5)), .mk 4 0 (some 8) (.mov (.tm 3)), .mk 5 0 (some 9) (.fieldAddr (.tm 1) 0 1), .mk 6 0 (some 10) (.load1 (.tm 9)), .mk 3 1 (some 7) (.callV 50 (.tm 4) [(.tm 6)]), .mk 7 2 (some 11) (.callV 50 (.tm 8) [(.tm 10)]), .mk 8 2 (some 12) (.mksliceR Zab (.tm 11) (.tm 11)), .mk 9 0 (some 13) (.build [.i 0, .one (.nilslice)] [(0, 1, (.tm 7)), (1, 1, (.tm 12))]), .mk 10 2 (some 14) (.box (.tm 13)), .mk 11 0 (some 2) (.mov (.tm 14))]
def Zj5 : ACode := .regM Zj4
def ZzN : ACode := (.seq ZmN (.seq Zj6 (.seq Zj5 .ret)))
def ZmX : Res := .one (.tm 2)
theorem ZoI : ZbX Try.prog 16 1 15 ZzN ZmX = true := by kernel_rfl
def Zsa : ZaC := Zdz [ZrE] []
theorem ZqK : ZaT Try.prog Zsa := Zba ⟨ZsR, trivial⟩ trivial
section
variable {w0 : World} {fp : Nat -> Nat -> Prop} {ρi : Rho} {Kf : SVal -> Heap -> Prop}
abbrev Yc3 (x0 x1 : Int) : Heap := ⟨1, [(0, some ⟨true, [.i x0, .i x1], 0⟩)]⟩
abbrev Yc4 (x0 x1 : Int) : Heap := ⟨3, [(1, some ⟨true, [.rows Zab (Int.toNat (ZaP x0)) (List.replicate (Int.toNat (ZaP x0)) (Tup.dflt Zab))], (((Int.toNat (ZaP x0)) - (Int.toNat (ZaP x0))) * 1)⟩), (2, some ⟨true, [.i (ZaP x1), .one (.slice ⟨1, 0, 0, 1⟩ (Int.toNat (ZaP x0)) (Int.toNat (ZaP x0)))], 0⟩)]⟩
abbrev Yc5 : Env := [(1, some (.ptr ⟨0, 0, 0, 1⟩ 2)), (3, some (.fn (.func 50) [] []))]
theorem ZwY (sets ways : Int) (Z : Env -> Heap -> Prop) (h : (True) /\ ((Zb3 (Yc3 sets ways) (Heap.keep (Yc3 sets ways) [0]) (ZbS [0] (Yc3 sets ways)))) /\ (True) /\ ((0 <= (ZaP sets))) /\ (((ZaP sets) <= (ZaP sets))) /\ (((1 : Int) * (ZaP sets) <= 1048576)) /\ Z [(2, some (.ptr ⟨2, 0, 0, 1⟩ 2))] (Yc4 sets ways)) : EvNC Zsa Zj4 [[], [], [0], [], [], [], [], [], [], [], [], []] Yc5 (Yc3 sets ways) [2] [1, 2] Z := EvNC.of (by kernel_rfl) h
theorem ZtJ (sets ways : Int) : RetC ZmX [(2, some (.ptr ⟨2, 0, 0, 1⟩ 2))] (Yc4 sets ways) (.ptr ⟨2, 0, 0, 1⟩ 2) := RetC.of (fun Z => by kernel_rfl)
def Zih (sets ways : Int) : Prop := ((0 <= (ZaP sets))) /\ ((((1 : Int) * (ZaP sets) <= 1048576)) /\ (((Int.toNat (ZaP sets)) = (ZaK sets)) /\ ((Int.toNat (ZaP sets)) = (ZaK sets)) /\ ((Int.toNat (ZaP sets)) = (ZaK sets)) /\ ((List.replicate (Int.toNat (ZaP sets)) (Tup.dflt Zab)) = (List.replicate (ZaK sets) (Tup.dflt Zab))) /\ ((((Int.toNat (ZaP sets)) - (Int.toNat (ZaP sets))) * 1) = 0)))
theorem Zzr (sets ways : Int) (hK : ZnL sets ways Kf) (h : Zih sets ways) : SemL Try.prog w0 fp ρi 0 15 [Zj5, .ret] Yc5 (Yc3 sets ways) (fnK ZmX 0 Kf) :=
  Zrb ZqK (steps := Zj4) (ZwY sets ways _ ⟨True.intro, ⟨ZlG, ⟨True.intro, ⟨h.1, ⟨(Int.le_refl _), ⟨h.2.1, (ZaX (R := ZmX) (m := 0) (Kf := Kf) (fun _ _ h => h) (ZtJ sets ways) (ZaM (Eq.mpr (cg5 (fun (z1 z2 z3 : Nat) (z4 : List (Tup Zab)) (z5 : Nat) => Zd2 0 Kf (.ptr ⟨2, 0, 0, 1⟩ 2) ⟨3, [(1, some ⟨true, [.rows Zab z3 z4], z5⟩), (2, some ⟨true, [.i (ZaP ways), .one (.slice ⟨1, 0, 0, 1⟩ z2 z1)], 0⟩)]⟩) h.2.2.1 h.2.2.2.1 h.2.2.2.2.1 h.2.2.2.2.2.1 h.2.2.2.2.2.2) (ZaE [(0, 1), (1, 2)] [1, 0] rfl (by kernel_rfl) rfl bpt (hsc (Zam pbd (Zam bsl Zav)) (hsc pcs Zak)) rfl (by kernel_rfl) (hK)))))⟩⟩⟩⟩⟩⟩)
abbrev Yc6 : Env := [(1, some (.ptr ⟨0, 0, 0, 1⟩ 2))]
theorem ZwX (sets ways : Int) (Z : Env -> Heap -> Prop) (h : Z Yc5 (Yc3 sets ways)) : EvC Zsa Zj6 Yc6 (Yc3 sets ways) [1, 3] [0] Z := EvC.of (by kernel_rfl) h
theorem Zzq (sets ways : Int) (hK : ZnL sets ways Kf) (h : Zih sets ways) : SemL Try.prog w0 fp ρi 0 15 [Zj6, (.seq Zj5 .ret)] Yc6 (Yc3 sets ways) (fnK ZmX 0 Kf) :=
  Zan ZqK (ZwX sets ways _ (Zar (Zzr sets ways hK h)))
abbrev Yc7 (x0 x1 : Int) : Env := [(0, some (.agg [.i x0, .i x1]))]
theorem ZwW (sets ways : Int) (Z : Env -> Heap -> Prop) (h : Z Yc6 (Yc3 sets ways)) : EvC Zsa ZmN (Yc7 sets ways) Yc1 [1] [0] Z := EvC.of (by kernel_rfl) h
theorem Zzp (sets ways : Int) (hK : ZnL sets ways Kf) (h : Zih sets ways) : SemL Try.prog w0 fp ρi 0 15 [ZmN, (.seq Zj6 (.seq Zj5 .ret))] (Yc7 sets ways) Yc1 (fnK ZmX 0 Kf) :=
  Zan ZqK (ZwW sets ways _ (Zar (Zzq sets ways hK h)))
theorem ZAw (sets ways : Int) (hK : ZnL sets ways Kf) (h : Zih sets ways) : SemL Try.prog w0 fp ρi 0 15 [ZzN] (Yc7 sets ways) Yc1 (fnK ZmX 0 Kf) :=
  (Zar (Zzp sets ways hK h))
end
theorem Zzz (sets ways : Int) (hpre : True) : Zih sets ways := by
  unfold Zih
  have h := Zh0 sets
  exact ⟨by omega, by omega, rfl, rfl, rfl, rfl, by omega⟩
theorem ZAC : Sound Try.prog 16 (gS ZAa) := by
  refine Za2 ZoI ?_
  intro args H K h
  obtain ⟨pre, out, hD, hpre, hK⟩ := Zct h
  unfold ZAa at hD
  split at hD
  · cases hD
    exact ⟨rfl, fun w0 fp ρi => ZAw _ _ hK (Zzz _ _ hpre)⟩
  · cases hD
end Go.Proofs.Ytinjdimejijabaa
