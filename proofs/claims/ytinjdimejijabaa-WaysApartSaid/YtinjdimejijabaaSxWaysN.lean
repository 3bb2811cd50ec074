/- Part of the proof: SxWaysN. -/
import Derived.Test.YtinjdimejijabaaSxProgC
import Derived.Test.YtinjdimejijabaaSxCacheN
import Derived.Test.YtinjdimejijabaaSxMixT
import Derived.KernelRfl
set_option linter.unusedVariables false
set_option linter.unusedSimpArgs false
set_option maxRecDepth 20000
namespace Go.Proofs.Ytinjdimejijabaa
open Go.Sx
def ZlM : Zqh := fun args => match args with
  | [.int .i64 n] => some (True, .int .i64 (ZaJ n))
  | _ => none
def ZpR : PCon := ⟨50, ZlM⟩
def Zle : ACode := .reg (.op (some 2) (.mov (.cn (.int .i64 0))) .nil)
def ZiY : ACode := .reg (.op (some 3) (.mov (.tm 0)) (.op (some 4) (.max2 (.tm 3) (.cn (.int .i64 1))) (.op (some 5) (.min2 (.tm 4) (.cn (.int .i64 64))) (.op (some 2) (.mov (.tm 5)) .nil))))
def Zpk : ACode := (.seq Zle (.seq ZiY .ret))
def ZfQ : Res := .one (.tm 2)
theorem Zkb : ZbR Try.prog 50 1 6 Zpk ZfQ = true := by kernel_rfl
def ZlP : ZaC := ZdE [] []
theorem Zmz : ZaR Try.prog ZlP := Zba trivial trivial
section
variable {w0 : World} {fp : Nat -> Nat -> Prop} {ρi : Rho} {Kf : SVal -> Heap -> Prop}
abbrev Yc0 (x0 : Int) : Env := [(2, some (.int .i64 (if 64 < (if x0 < 1 then 1 else x0) then 64 else (if x0 < 1 then 1 else x0))))]
abbrev Yc1 : Heap := ⟨0, []⟩
abbrev Yc2 (x0 : Int) : Env := [(0, some (.int .i64 x0))]
theorem ZtP (n : Int) (Z : Env -> Heap -> Prop) (h : Z (Yc0 n) Yc1) : EvC ZlP ZiY (Yc2 n) Yc1 [2] [] Z := EvC.of (by kernel_rfl) h
theorem Zrl (n : Int) : RetC ZfQ (Yc0 n) Yc1 (.int .i64 (if 64 < (if n < 1 then 1 else n) then 64 else (if n < 1 then 1 else n))) := RetC.of (fun Z => by kernel_rfl)
def ZjC (n : Int) : Prop := (if 64 < (if n < 1 then 1 else n) then 64 else (if n < 1 then 1 else n)) = (ZaJ n)
theorem ZvV (n : Int) (hK : Kf (.int .i64 (ZaJ n)) ⟨0, []⟩) (h : ZjC n) : SemL Try.prog w0 fp ρi 0 6 [ZiY, .ret] (Yc2 n) Yc1 (fnK ZfQ 0 Kf) :=
  Zap Zmz (ZtP n _ (ZaV (R := ZfQ) (m := 0) (Kf := Kf) (fun _ _ h => h) (Zrl n) (Zow rfl (by kernel_rfl) (cg1 (fun (z1 : Int) => (.int .i64 z1 : SVal)) h) hK)))
theorem ZtO (n : Int) (Z : Env -> Heap -> Prop) (h : Z (Yc2 n) Yc1) : EvC ZlP Zle (Yc2 n) Yc1 [0] [] Z := EvC.of (by kernel_rfl) h
theorem ZvU (n : Int) (hK : Kf (.int .i64 (ZaJ n)) ⟨0, []⟩) (h : ZjC n) : SemL Try.prog w0 fp ρi 0 6 [Zle, (.seq ZiY .ret)] (Yc2 n) Yc1 (fnK ZfQ 0 Kf) :=
  Zap Zmz (ZtO n _ (Zav (ZvV n hK h)))
theorem ZqL (n : Int) (hK : Kf (.int .i64 (ZaJ n)) ⟨0, []⟩) (h : ZjC n) : SemL Try.prog w0 fp ρi 0 6 [Zpk] (Yc2 n) Yc1 (fnK ZfQ 0 Kf) :=
  (Zav (ZvU n hK h))
end
theorem ZpV (n : Int) (hpre : True) : ZjC n := by
  unfold ZjC
  show (if 64 < if n < 1 then 1 else n then 64 else if n < 1 then 1 else n) = ZaJ n
  unfold ZaJ
  by_cases h : n < 1
  · rw [if_pos h]; omega
  · rw [if_neg h]; by_cases h2 : 64 < n
    · rw [if_pos h2]; omega
    · rw [if_neg h2]; omega
theorem ZqW : Sound Try.prog 50 (Zm8 ZlM) := by
  refine ZaZ Zkb ?_
  intro args H K h
  obtain ⟨pre, v, hP, hpre, rfl, hK⟩ := ZoB h
  unfold ZlM at hP
  split at hP
  · cases hP
    exact ⟨rfl, fun w0 fp ρi => ZqL _ hK (ZpV _ hpre)⟩
  · cases hP
def ZxM : Zeb := fun args H => match args, H with
  | [.agg [.one (.int .i64 sets), .one (.int .i64 ways)]], ⟨0, []⟩ => some (True, fun K => K (.ptr ⟨1, 0, 0, 1⟩ 2) ⟨2, [(1, some ⟨true, [.i (ZaJ ways), .one (.slice ⟨0, 0, 0, 1⟩ (ZaG sets) (ZaG sets))], 0⟩), (0, some ⟨true, [.rows Zab (ZaG sets) (List.replicate (ZaG sets) (Tup.dflt Zab))], 0⟩)]⟩)
  | _, _ => none
def Zmw (sets ways : Int) (Kf : SVal -> Heap -> Prop) : Prop := Kf (.ptr ⟨1, 0, 0, 1⟩ 2) ⟨2, [(1, some ⟨true, [.i (ZaJ ways), .one (.slice ⟨0, 0, 0, 1⟩ (ZaG sets) (ZaG sets))], 0⟩), (0, some ⟨true, [.rows Zab (ZaG sets) (List.replicate (ZaG sets) (Tup.dflt Zab))], 0⟩)]⟩
def ZlA : ACode := .reg (.op (some 1) (.box (.tm 0)) (.op (some 2) (.mov (.cn (.nilptr))) .nil))
def Zjf : ACode := .reg (.op (some 3) (.mov (.cn (.fn (.func 50) [] []))) .nil)
def Zjd : List MStep := [.mk 0 0 (some 4) (.mov (.tm 3)), .mk 1 0 (some 5) (.fieldAddr (.tm 1) 1 1), .mk 2 0 (some 6) (.load1 (.tm 5)), .mk 4 0 (some 8) (.mov (.tm 3)), .mk 5 0 (some 9) (.fieldAddr (.tm 1) 0 1), .mk 6 0 (some 10) (.load1 (.tm 9)), .mk 3 1 (some 7) (.callV 50 (.tm 4) [(.tm 6)]), .mk 7 2 (some 11) (.callV 50 (.tm 8) [(.tm 10)]), .mk 8 2 (some 12) (.mksliceR Zab (.tm 11) (.tm 11)), .mk 9 0 (some 13) (.build [.i 0, .one (.nilslice)] [(0, 1, (.tm 7)), (1, 1, (.tm 12))]), .mk 10 2 (some 14) (.box (.tm 13)), .mk 11 0 (some 2) (.mov (.tm 14))]
def Zje : ACode := .regM Zjd
def Zxo : ACode := (.seq ZlA (.seq Zjf (.seq Zje .ret)))
def ZlL : Res := .one (.tm 2)
theorem Znh : ZbR Try.prog 16 1 15 Zxo ZlL = true := by kernel_rfl
def Zqi : ZaC := ZdE [ZpR] []
theorem Zo4 : ZaR Try.prog Zqi := Zba ⟨ZqW, trivial⟩ trivial
section
variable {w0 : World} {fp : Nat -> Nat -> Prop} {ρi : Rho} {Kf : SVal -> Heap -> Prop}
abbrev Yc3 (x0 x1 : Int) : Heap := ⟨1, [(0, some ⟨true, [.i x0, .i x1], 0⟩)]⟩
abbrev Yc4 (x0 x1 : Int) : Heap := ⟨3, [(1, some ⟨true, [.rows Zab (Int.toNat (ZaJ x0)) (List.replicate (Int.toNat (ZaJ x0)) (Tup.dflt Zab))], (((Int.toNat (ZaJ x0)) - (Int.toNat (ZaJ x0))) * 1)⟩), (2, some ⟨true, [.i (ZaJ x1), .one (.slice ⟨1, 0, 0, 1⟩ (Int.toNat (ZaJ x0)) (Int.toNat (ZaJ x0)))], 0⟩)]⟩
abbrev Yc5 : Env := [(1, some (.ptr ⟨0, 0, 0, 1⟩ 2)), (3, some (.fn (.func 50) [] []))]
theorem ZuE (sets ways : Int) (Z : Env -> Heap -> Prop) (h : (True) /\ ((Zbp (Yc3 sets ways) (Heap.keep (Yc3 sets ways) [0]) (ZbD [0] (Yc3 sets ways)))) /\ (True) /\ ((0 <= (ZaJ sets))) /\ (((ZaJ sets) <= (ZaJ sets))) /\ (((1 : Int) * (ZaJ sets) <= 1048576)) /\ Z [(2, some (.ptr ⟨2, 0, 0, 1⟩ 2))] (Yc4 sets ways)) : EvNC Zqi Zjd [[], [], [0], [], [], [], [], [], [], [], [], []] Yc5 (Yc3 sets ways) [2] [1, 2] Z := EvNC.of (by kernel_rfl) h
theorem ZrG (sets ways : Int) : RetC ZlL [(2, some (.ptr ⟨2, 0, 0, 1⟩ 2))] (Yc4 sets ways) (.ptr ⟨2, 0, 0, 1⟩ 2) := RetC.of (fun Z => by kernel_rfl)
def ZhC (sets ways : Int) : Prop := ((0 <= (ZaJ sets))) /\ ((((1 : Int) * (ZaJ sets) <= 1048576)) /\ (((Int.toNat (ZaJ sets)) = (ZaG sets)) /\ ((Int.toNat (ZaJ sets)) = (ZaG sets)) /\ ((Int.toNat (ZaJ sets)) = (ZaG sets)) /\ ((List.replicate (Int.toNat (ZaJ sets)) (Tup.dflt Zab)) = (List.replicate (ZaG sets) (Tup.dflt Zab))) /\ ((((Int.toNat (ZaJ sets)) - (Int.toNat (ZaJ sets))) * 1) = 0)))
theorem ZwZ (sets ways : Int) (hK : Zmw sets ways Kf) (h : ZhC sets ways) : SemL Try.prog w0 fp ρi 0 15 [Zje, .ret] Yc5 (Yc3 sets ways) (fnK ZlL 0 Kf) :=
  ZlN Zo4 (steps := Zjd) (ZuE sets ways _ ⟨True.intro, ⟨ZkL, ⟨True.intro, ⟨h.1, ⟨(Int.le_refl _), ⟨h.2.1, (ZaV (R := ZlL) (m := 0) (Kf := Kf) (fun _ _ h => h) (ZrG sets ways) (ZaO (Eq.mpr (cg5 (fun (z1 z2 z3 : Nat) (z4 : List (Tup Zab)) (z5 : Nat) => ZdI 0 Kf (.ptr ⟨2, 0, 0, 1⟩ 2) ⟨3, [(1, some ⟨true, [.rows Zab z3 z4], z5⟩), (2, some ⟨true, [.i (ZaJ ways), .one (.slice ⟨1, 0, 0, 1⟩ z2 z1)], 0⟩)]⟩) h.2.2.1 h.2.2.2.1 h.2.2.2.2.1 h.2.2.2.2.2.1 h.2.2.2.2.2.2) (ZaF [(0, 1), (1, 2)] [1, 0] rfl (by kernel_rfl) rfl bpt (hsc (Zao pbd (Zao bsl Zax)) (hsc pcs Zan)) rfl (by kernel_rfl) (hK)))))⟩⟩⟩⟩⟩⟩)
abbrev Yc6 : Env := [(1, some (.ptr ⟨0, 0, 0, 1⟩ 2))]
theorem ZuD (sets ways : Int) (Z : Env -> Heap -> Prop) (h : Z Yc5 (Yc3 sets ways)) : EvC Zqi Zjf Yc6 (Yc3 sets ways) [1, 3] [0] Z := EvC.of (by kernel_rfl) h
theorem ZwY (sets ways : Int) (hK : Zmw sets ways Kf) (h : ZhC sets ways) : SemL Try.prog w0 fp ρi 0 15 [Zjf, (.seq Zje .ret)] Yc6 (Yc3 sets ways) (fnK ZlL 0 Kf) :=
  Zap Zo4 (ZuD sets ways _ (Zav (ZwZ sets ways hK h)))
abbrev Yc7 (x0 x1 : Int) : Env := [(0, some (.agg [.i x0, .i x1]))]
theorem ZuC (sets ways : Int) (Z : Env -> Heap -> Prop) (h : Z Yc6 (Yc3 sets ways)) : EvC Zqi ZlA (Yc7 sets ways) Yc1 [1] [0] Z := EvC.of (by kernel_rfl) h
theorem ZwX (sets ways : Int) (hK : Zmw sets ways Kf) (h : ZhC sets ways) : SemL Try.prog w0 fp ρi 0 15 [ZlA, (.seq Zjf (.seq Zje .ret))] (Yc7 sets ways) Yc1 (fnK ZlL 0 Kf) :=
  Zap Zo4 (ZuC sets ways _ (Zav (ZwY sets ways hK h)))
theorem Zx8 (sets ways : Int) (hK : Zmw sets ways Kf) (h : ZhC sets ways) : SemL Try.prog w0 fp ρi 0 15 [Zxo] (Yc7 sets ways) Yc1 (fnK ZlL 0 Kf) :=
  (Zav (ZwX sets ways hK h))
end
theorem Zw9 (sets ways : Int) (hpre : True) : ZhC sets ways := by
  unfold ZhC
  have h := Zfq sets
  exact ⟨by omega, by omega, rfl, rfl, rfl, rfl, by omega⟩
theorem Zye : Sound Try.prog 16 (gS ZxM) := by
  refine ZaZ Znh ?_
  intro args H K h
  obtain ⟨pre, out, hD, hpre, hK⟩ := ZcN h
  unfold ZxM at hD
  split at hD
  · cases hD
    exact ⟨rfl, fun w0 fp ρi => Zx8 _ _ hK (Zw9 _ _ hpre)⟩
  · cases hD
end Go.Proofs.Ytinjdimejijabaa
