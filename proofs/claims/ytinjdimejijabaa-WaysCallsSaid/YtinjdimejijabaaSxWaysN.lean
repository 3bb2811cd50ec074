/- Part of the proof: SxWaysN. -/
import Derived.Test.YtinjdimejijabaaSxProgC
import Derived.Test.YtinjdimejijabaaSxCacheN
import Derived.Test.YtinjdimejijabaaSxMixT
import Derived.KernelRfl
set_option linter.unusedVariables false
set_option linter.unusedSimpArgs false
set_option maxRecDepth 20000
namespace Go.Proofs.Ytinjdimejijabaa
open Go.Sx
def ZpC : Zvd := fun args => match args with
  | [.int .i64 n] => some (True, .int .i64 (ZaA n))
  | _ => none
def ZvL : PCon := ⟨50, ZpC⟩
def Zop : ACode := .reg (.op (some 2) (.mov (.cn (.int .i64 0))) .nil)
def Zlh : ACode := .reg (.op (some 3) (.mov (.tm 0)) (.op (some 4) (.max2 (.tm 3) (.cn (.int .i64 1))) (.op (some 5) (.min2 (.tm 4) (.cn (.int .i64 64))) (.op (some 2) (.mov (.tm 5)) .nil))))
def Zu0 : ACode := (.seq Zop (.seq Zlh .ret))
def Zhk : Res := .one (.tm 2)
theorem Zm3 : Zbr Try.prog 50 1 6 Zu0 Zhk = true := by kernel_rfl
def ZpE : ZaE := Zci [] []
theorem ZqF : ZaT Try.prog ZpE := ZaZ trivial trivial
section
variable {w0 : World} {fp : Nat -> Nat -> Prop} {ρi : Rho} {Kf : SVal -> Heap -> Prop}
abbrev Yc0 (x0 : Int) : Env := [(2, some (.int .i64 (if 64 < (if x0 < 1 then 1 else x0) then 64 else (if x0 < 1 then 1 else x0))))]
abbrev Yc1 : Heap := ⟨0, []⟩
abbrev Yc2 (x0 : Int) : Env := [(0, some (.int .i64 x0))]
theorem ZBQ (n : Int) (Z : Env -> Heap -> Prop) (h : Z (Yc0 n) Yc1) : EvC ZpE Zlh (Yc2 n) Yc1 [2] [] Z := EvC.of (by kernel_rfl) h
theorem Zx3 (n : Int) : RetC Zhk (Yc0 n) Yc1 (.int .i64 (if 64 < (if n < 1 then 1 else n) then 64 else (if n < 1 then 1 else n))) := RetC.of (fun Z => by kernel_rfl)
def Zmr (n : Int) : Prop := (if 64 < (if n < 1 then 1 else n) then 64 else (if n < 1 then 1 else n)) = (ZaA n)
theorem ZEp (n : Int) (hK : Kf (.int .i64 (ZaA n)) ⟨0, []⟩) (h : Zmr n) : SemL Try.prog w0 fp ρi 0 6 [Zlh, .ret] (Yc2 n) Yc1 (fnK Zhk 0 Kf) :=
  Zak ZqF (ZBQ n _ (ZaL (R := Zhk) (m := 0) (Kf := Kf) (fun _ _ h => h) (Zx3 n) (Zgm rfl (by kernel_rfl) (cg1 (fun (z1 : Int) => (.int .i64 z1 : SVal)) h) hK)))
theorem ZBP (n : Int) (Z : Env -> Heap -> Prop) (h : Z (Yc2 n) Yc1) : EvC ZpE Zop (Yc2 n) Yc1 [0] [] Z := EvC.of (by kernel_rfl) h
theorem ZEo (n : Int) (hK : Kf (.int .i64 (ZaA n)) ⟨0, []⟩) (h : Zmr n) : SemL Try.prog w0 fp ρi 0 6 [Zop, (.seq Zlh .ret)] (Yc2 n) Yc1 (fnK Zhk 0 Kf) :=
  Zak ZqF (ZBP n _ (Zan (ZEp n hK h)))
theorem ZwU (n : Int) (hK : Kf (.int .i64 (ZaA n)) ⟨0, []⟩) (h : Zmr n) : SemL Try.prog w0 fp ρi 0 6 [Zu0] (Yc2 n) Yc1 (fnK Zhk 0 Kf) :=
  (Zan (ZEo n hK h))
end
theorem ZvP (n : Int) (hpre : True) : Zmr n := by
  unfold Zmr
  show (if 64 < if n < 1 then 1 else n then 64 else if n < 1 then 1 else n) = ZaA n
  unfold ZaA
  by_cases h : n < 1
  · rw [if_pos h]; omega
  · rw [if_neg h]; by_cases h2 : 64 < n
    · rw [if_pos h2]; omega
    · rw [if_neg h2]; omega
theorem Zw1 : Sound Try.prog 50 (ZnP ZpC) := by
  refine ZaQ Zm3 ?_
  intro args H K h
  obtain ⟨pre, v, hP, hpre, rfl, hK⟩ := ZmI h
  unfold ZpC at hP
  split at hP
  · cases hP
    exact ⟨rfl, fun w0 fp ρi => ZwU _ hK (ZvP _ hpre)⟩
  · cases hP
def ZHI : Zcw := fun args H => match args, H with
  | [.agg [.one (.int .i64 sets), .one (.int .i64 ways)]], ⟨0, []⟩ => some (True, fun K => K (.ptr ⟨1, 0, 0, 1⟩ 2) ⟨2, [(1, some ⟨true, [.i (ZaA ways), .one (.slice ⟨0, 0, 0, 1⟩ (ZaP sets) (ZaP sets))], 0⟩), (0, some ⟨true, [.rows Zab (ZaP sets) (List.replicate (ZaP sets) (Tup.dflt Zab))], 0⟩)]⟩)
  | _, _ => none
def ZqC (sets ways : Int) (Kf : SVal -> Heap -> Prop) : Prop := Kf (.ptr ⟨1, 0, 0, 1⟩ 2) ⟨2, [(1, some ⟨true, [.i (ZaA ways), .one (.slice ⟨0, 0, 0, 1⟩ (ZaP sets) (ZaP sets))], 0⟩), (0, some ⟨true, [.rows Zab (ZaP sets) (List.replicate (ZaP sets) (Tup.dflt Zab))], 0⟩)]⟩
def Zpk : ACode := .reg (.op (some 1) (.box (.tm 0)) (.op (some 2) (.mov (.cn (.nilptr))) .nil))
def ZlR : ACode := .reg (.op (some 3) (.mov (.cn (.fn (.func 50) [] []))) .nil)
def ZlP : List MStep := [.mk 0 0 (some 4) (.mov (.tm 3)), .mk 1 0 (some 5) (.fieldAddr (.tm 1) 1 1), .mk 2 0 (some 6) (.load1 (.tm 5)), .mk 4 0 (some 8) (.mov (.tm 3)), .mk 5 0 (some 9) (.fieldAddr (.tm 1) 0 1), .mk 6 0 (some 10) (.load1 (.tm 9)), .mk 3 1 (some 7) (.callV 50 (.tm 4) [(.tm 6)]), .mk 7 2 (some 11) (.callV 50 (.tm 8) [(.tm 10)]), .mk 8 2 (some 12) (.mksliceR Zab (.tm 11) (.tm 11)), .mk 9 0 (some 13) (.build [.i 0, .one (.nilslice)] [(0, 1, (.tm 7)), (1, 1, (.tm 12))]), .mk 10 2 (some 14) (.box (.tm 13)), .mk 11 0 (some 2) (.mov (.tm 14))]
def ZlQ : ACode := .regM ZlP
def ZHd : ACode := (.seq Zpk (.seq ZlR (.seq ZlQ .ret)))
def ZpB : Res := .one (.tm 2)
theorem ZrF : Zbr Try.prog 16 1 15 ZHd ZpB = true := by kernel_rfl
def Zwr : ZaE := Zci [ZvL] []
theorem ZuL : ZaT Try.prog Zwr := ZaZ ⟨Zw1, trivial⟩ trivial
section
variable {w0 : World} {fp : Nat -> Nat -> Prop} {ρi : Rho} {Kf : SVal -> Heap -> Prop}
abbrev Yc3 (x0 x1 : Int) : Heap := ⟨1, [(0, some ⟨true, [.i x0, .i x1], 0⟩)]⟩
abbrev Yc4 (x0 x1 : Int) : Heap := ⟨3, [(1, some ⟨true, [.rows Zab (Int.toNat (ZaA x0)) (List.replicate (Int.toNat (ZaA x0)) (Tup.dflt Zab))], (((Int.toNat (ZaA x0)) - (Int.toNat (ZaA x0))) * 1)⟩), (2, some ⟨true, [.i (ZaA x1), .one (.slice ⟨1, 0, 0, 1⟩ (Int.toNat (ZaA x0)) (Int.toNat (ZaA x0)))], 0⟩)]⟩
abbrev Yc5 : Env := [(1, some (.ptr ⟨0, 0, 0, 1⟩ 2)), (3, some (.fn (.func 50) [] []))]
theorem ZDy (sets ways : Int) (Z : Env -> Heap -> Prop) (h : (True) /\ ((Zbk (Yc3 sets ways) (Heap.keep (Yc3 sets ways) [0]) (Zbv [0] (Yc3 sets ways)))) /\ (True) /\ ((0 <= (ZaA sets))) /\ (((ZaA sets) <= (ZaA sets))) /\ (((1 : Int) * (ZaA sets) <= 1048576)) /\ Z [(2, some (.ptr ⟨2, 0, 0, 1⟩ 2))] (Yc4 sets ways)) : EvNC Zwr ZlP [[], [], [0], [], [], [], [], [], [], [], [], []] Yc5 (Yc3 sets ways) [2] [1, 2] Z := EvNC.of (by kernel_rfl) h
theorem ZyF (sets ways : Int) : RetC ZpB [(2, some (.ptr ⟨2, 0, 0, 1⟩ 2))] (Yc4 sets ways) (.ptr ⟨2, 0, 0, 1⟩ 2) := RetC.of (fun Z => by kernel_rfl)
def ZjI (sets ways : Int) : Prop := ((0 <= (ZaA sets))) /\ ((((1 : Int) * (ZaA sets) <= 1048576)) /\ (((Int.toNat (ZaA sets)) = (ZaP sets)) /\ ((Int.toNat (ZaA sets)) = (ZaP sets)) /\ ((Int.toNat (ZaA sets)) = (ZaP sets)) /\ ((List.replicate (Int.toNat (ZaA sets)) (Tup.dflt Zab)) = (List.replicate (ZaP sets) (Tup.dflt Zab))) /\ ((((Int.toNat (ZaA sets)) - (Int.toNat (ZaA sets))) * 1) = 0)))
theorem ZGH (sets ways : Int) (hK : ZqC sets ways Kf) (h : ZjI sets ways) : SemL Try.prog w0 fp ρi 0 15 [ZlQ, .ret] Yc5 (Yc3 sets ways) (fnK ZpB 0 Kf) :=
  ZeB ZuL (steps := ZlP) (ZDy sets ways _ ⟨True.intro, ⟨ZiN, ⟨True.intro, ⟨h.1, ⟨(Int.le_refl _), ⟨h.2.1, (ZaL (R := ZpB) (m := 0) (Kf := Kf) (fun _ _ h => h) (ZyF sets ways) (ZaD (Eq.mpr (cg5 (fun (z1 z2 z3 : Nat) (z4 : List (Tup Zab)) (z5 : Nat) => Zcn 0 Kf (.ptr ⟨2, 0, 0, 1⟩ 2) ⟨3, [(1, some ⟨true, [.rows Zab z3 z4], z5⟩), (2, some ⟨true, [.i (ZaA ways), .one (.slice ⟨1, 0, 0, 1⟩ z2 z1)], 0⟩)]⟩) h.2.2.1 h.2.2.2.1 h.2.2.2.2.1 h.2.2.2.2.2.1 h.2.2.2.2.2.2) (Zay [(0, 1), (1, 2)] [1, 0] rfl (by kernel_rfl) rfl bpt (hsc (Zac pbd (Zac bsl Zap)) (hsc pcs Zag)) rfl (by kernel_rfl) (hK)))))⟩⟩⟩⟩⟩⟩)
abbrev Yc6 : Env := [(1, some (.ptr ⟨0, 0, 0, 1⟩ 2))]
theorem ZDx (sets ways : Int) (Z : Env -> Heap -> Prop) (h : Z Yc5 (Yc3 sets ways)) : EvC Zwr ZlR Yc6 (Yc3 sets ways) [1, 3] [0] Z := EvC.of (by kernel_rfl) h
theorem ZGG (sets ways : Int) (hK : ZqC sets ways Kf) (h : ZjI sets ways) : SemL Try.prog w0 fp ρi 0 15 [ZlR, (.seq ZlQ .ret)] Yc6 (Yc3 sets ways) (fnK ZpB 0 Kf) :=
  Zak ZuL (ZDx sets ways _ (Zan (ZGH sets ways hK h)))
abbrev Yc7 (x0 x1 : Int) : Env := [(0, some (.agg [.i x0, .i x1]))]
theorem ZDw (sets ways : Int) (Z : Env -> Heap -> Prop) (h : Z Yc6 (Yc3 sets ways)) : EvC Zwr Zpk (Yc7 sets ways) Yc1 [1] [0] Z := EvC.of (by kernel_rfl) h
theorem ZGF (sets ways : Int) (hK : ZqC sets ways Kf) (h : ZjI sets ways) : SemL Try.prog w0 fp ρi 0 15 [Zpk, (.seq ZlR (.seq ZlQ .ret))] (Yc7 sets ways) Yc1 (fnK ZpB 0 Kf) :=
  Zak ZuL (ZDw sets ways _ (Zan (ZGG sets ways hK h)))
theorem ZIc (sets ways : Int) (hK : ZqC sets ways Kf) (h : ZjI sets ways) : SemL Try.prog w0 fp ρi 0 15 [ZHd] (Yc7 sets ways) Yc1 (fnK ZpB 0 Kf) :=
  (Zan (ZGF sets ways hK h))
end
theorem ZGX (sets ways : Int) (hpre : True) : ZjI sets ways := by
  unfold ZjI
  have h := Zfd sets
  exact ⟨by omega, by omega, rfl, rfl, rfl, rfl, by omega⟩
theorem ZIm : Sound Try.prog 16 (gS ZHI) := by
  refine ZaQ ZrF ?_
  intro args H K h
  obtain ⟨pre, out, hD, hpre, hK⟩ := ZbK h
  unfold ZHI at hD
  split at hD
  · cases hD
    exact ⟨rfl, fun w0 fp ρi => ZIc _ _ hK (ZGX _ _ hpre)⟩
  · cases hD
end Go.Proofs.Ytinjdimejijabaa
