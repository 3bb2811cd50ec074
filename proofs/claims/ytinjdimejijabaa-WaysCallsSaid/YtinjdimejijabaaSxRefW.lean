/- Part of the proof: SxRefW. -/
import Derived.Test.YtinjdimejijabaaSxProgC
import Derived.Test.YtinjdimejijabaaSxRefC
import Derived.Test.YtinjdimejijabaaSxMixT
import Derived.KernelRfl
set_option linter.unusedVariables false
set_option linter.unusedSimpArgs false
set_option maxRecDepth 20000
namespace Go.Proofs.Ytinjdimejijabaa
open Go.Sx
def ZAF : Zvd := fun args => match args with
  | [.int .i64 n] => some (True, .int .i64 (ZaA n))
  | _ => none
def ZGT : PCon := ⟨66, ZAF⟩
def Zoi : ACode := .reg (.op (some 2) (.mov (.cn (.int .i64 0))) .nil)
def Zla : ACode := .reg (.op (some 3) (.mov (.tm 0)) (.op (some 4) (.bin .lss (.tm 3) (.cn (.int .i64 1))) .nil))
def Zoh : ACode := .reg (.op (some 2) (.mov (.cn (.int .i64 1))) .nil)
def Zk9 : ACode := .cond (.tm 4) (.seq Zoh .ret) .skip
def ZfX : ACode := .reg (.op (some 5) (.mov (.tm 0)) (.op (some 6) (.bin .gtr (.tm 5) (.cn (.int .i64 64))) .nil))
def Zog : ACode := .reg (.op (some 2) (.mov (.cn (.int .i64 64))) .nil)
def ZfW : ACode := .cond (.tm 6) (.seq Zog .ret) .skip
def ZdD : ACode := .reg (.op (some 7) (.mov (.tm 0)) (.op (some 2) (.mov (.tm 7)) .nil))
def ZHl : ACode := (.seq Zoi (.seq (.seq Zla Zk9) (.seq (.seq ZfX ZfW) (.seq ZdD .ret))))
def ZfB : Res := .one (.tm 2)
theorem ZrM : Zbr Try.prog 66 1 8 ZHl ZfB = true := by kernel_rfl
def ZpF : ZaE := Zci [] []
theorem Zj3 : ZaT Try.prog ZpF := ZaZ trivial trivial
section
variable {w0 : World} {fp : Nat -> Nat -> Prop} {ρi : Rho} {Kf : SVal -> Heap -> Prop}
abbrev Yf0 : Heap := ⟨0, []⟩
theorem ZBz (n : Int) (Z : Env -> Heap -> Prop) (h : Z [(2, some (.int .i64 1))] Yf0) : EvC ZpF Zoh [] Yf0 [2] [] Z := EvC.of (by kernel_rfl) h
theorem ZxW (n : Int) : RetC ZfB [(2, some (.int .i64 1))] Yf0 (.int .i64 1) := RetC.of (fun Z => by kernel_rfl)
def Zr4 (n : Int) : Prop := 1 = (ZaA n)
abbrev Yf1 (x0 : SVal -> Heap -> Prop) (x1 : Int) : Prop := x0 (.int .i64 (ZaA x1)) ⟨0, []⟩
theorem ZD6 (n : Int) (hK : (Yf1 Kf n)) (h : Zr4 n) : SemL Try.prog w0 fp ρi 0 8 [Zoh, .ret, (.seq (.seq ZfX ZfW) (.seq ZdD .ret))] [] Yf0 (fnK ZfB 0 Kf) :=
  Zak Zj3 (ZBz n _ (ZaL (R := ZfB) (m := 0) (Kf := Kf) (fun _ _ h => h) (ZxW n) (Zgm rfl (by kernel_rfl) (cg1 (fun (z1 : Int) => (.int .i64 z1 : SVal)) h) hK)))
theorem ZBy (n : Int) (Z : Env -> Heap -> Prop) (h : Z [(2, some (.int .i64 64))] Yf0) : EvC ZpF Zog [] Yf0 [2] [] Z := EvC.of (by kernel_rfl) h
theorem ZxV (n : Int) : RetC ZfB [(2, some (.int .i64 64))] Yf0 (.int .i64 64) := RetC.of (fun Z => by kernel_rfl)
def Zr3 (n : Int) : Prop := 64 = (ZaA n)
theorem ZD5 (n : Int) (hK : (Yf1 Kf n)) (h : Zr3 n) : SemL Try.prog w0 fp ρi 0 8 [Zog, .ret, (.seq ZdD .ret)] [] Yf0 (fnK ZfB 0 Kf) :=
  Zak Zj3 (ZBy n _ (ZaL (R := ZfB) (m := 0) (Kf := Kf) (fun _ _ h => h) (ZxV n) (Zgm rfl (by kernel_rfl) (cg1 (fun (z1 : Int) => (.int .i64 z1 : SVal)) h) hK)))
abbrev Yf2 (x0 : Int) : Env := [(0, some (.int .i64 x0))]
theorem ZBx (n : Int) (Z : Env -> Heap -> Prop) (h : Z [(2, some (.int .i64 n))] Yf0) : EvC ZpF ZdD (Yf2 n) Yf0 [2] [] Z := EvC.of (by kernel_rfl) h
theorem ZxU (n : Int) : RetC ZfB [(2, some (.int .i64 n))] Yf0 (.int .i64 n) := RetC.of (fun Z => by kernel_rfl)
def Zr2 (n : Int) : Prop := n = (ZaA n)
theorem ZD4 (n : Int) (hK : (Yf1 Kf n)) (h : Zr2 n) : SemL Try.prog w0 fp ρi 0 8 [ZdD, .ret] (Yf2 n) Yf0 (fnK ZfB 0 Kf) :=
  Zak Zj3 (ZBx n _ (ZaL (R := ZfB) (m := 0) (Kf := Kf) (fun _ _ h => h) (ZxU n) (Zgm rfl (by kernel_rfl) (cg1 (fun (z1 : Int) => (.int .i64 z1 : SVal)) h) hK)))
def ZpQ (n : Int) : Prop := ((decide (64 < n)) = true -> (Zr3 n)) /\ ((decide (64 < n)) = false -> (Zr2 n))
abbrev Yf3 (x0 : Int) : Env := [(0, some (.int .i64 x0)), (6, some (.bool (decide (64 < x0))))]
theorem ZD3 (n : Int) (hK : (Yf1 Kf n)) (h : ZpQ n) : SemL Try.prog w0 fp ρi 0 8 [ZfW, (.seq ZdD .ret)] (Yf3 n) Yf0 (fnK ZfB 0 Kf) :=
  Za0 (q := (decide (64 < n))) (by kernel_rfl) (fun hq => (Zan (lpk [] [] (ZD5 n hK (h.1 hq))))) (fun hq => (Zbb (lpk [0] [] (Zan (ZD4 n hK (h.2 hq))))))
theorem ZBw (n : Int) (Z : Env -> Heap -> Prop) (h : Z (Yf3 n) Yf0) : EvC ZpF ZfX (Yf2 n) Yf0 [0, 6] [] Z := EvC.of (by kernel_rfl) h
theorem ZD2 (n : Int) (hK : (Yf1 Kf n)) (h : ZpQ n) : SemL Try.prog w0 fp ρi 0 8 [ZfX, ZfW, (.seq ZdD .ret)] (Yf2 n) Yf0 (fnK ZfB 0 Kf) :=
  Zak Zj3 (ZBw n _ (ZD3 n hK h))
def ZjE (n : Int) : Prop := ((decide (n < 1)) = true -> (Zr4 n)) /\ ((decide (n < 1)) = false -> (ZpQ n))
abbrev Yf4 (x0 : Int) : Env := [(0, some (.int .i64 x0)), (4, some (.bool (decide (x0 < 1))))]
theorem ZD1 (n : Int) (hK : (Yf1 Kf n)) (h : ZjE n) : SemL Try.prog w0 fp ρi 0 8 [Zk9, (.seq (.seq ZfX ZfW) (.seq ZdD .ret))] (Yf4 n) Yf0 (fnK ZfB 0 Kf) :=
  Za0 (q := (decide (n < 1))) (by kernel_rfl) (fun hq => (Zan (lpk [] [] (ZD6 n hK (h.1 hq))))) (fun hq => (Zbb (lpk [0] [] (Zan (Zan (ZD2 n hK (h.2 hq)))))))
theorem ZBv (n : Int) (Z : Env -> Heap -> Prop) (h : Z (Yf4 n) Yf0) : EvC ZpF Zla (Yf2 n) Yf0 [0, 4] [] Z := EvC.of (by kernel_rfl) h
theorem ZD0 (n : Int) (hK : (Yf1 Kf n)) (h : ZjE n) : SemL Try.prog w0 fp ρi 0 8 [Zla, Zk9, (.seq (.seq ZfX ZfW) (.seq ZdD .ret))] (Yf2 n) Yf0 (fnK ZfB 0 Kf) :=
  Zak Zj3 (ZBv n _ (ZD1 n hK h))
theorem ZBu (n : Int) (Z : Env -> Heap -> Prop) (h : Z (Yf2 n) Yf0) : EvC ZpF Zoi (Yf2 n) Yf0 [0] [] Z := EvC.of (by kernel_rfl) h
theorem ZDZ (n : Int) (hK : (Yf1 Kf n)) (h : ZjE n) : SemL Try.prog w0 fp ρi 0 8 [Zoi, (.seq (.seq Zla Zk9) (.seq (.seq ZfX ZfW) (.seq ZdD .ret)))] (Yf2 n) Yf0 (fnK ZfB 0 Kf) :=
  Zak Zj3 (ZBu n _ (Zan (Zan (ZD0 n hK h))))
theorem ZIj (n : Int) (hK : (Yf1 Kf n)) (h : ZjE n) : SemL Try.prog w0 fp ρi 0 8 [ZHl] (Yf2 n) Yf0 (fnK ZfB 0 Kf) :=
  (Zan (ZDZ n hK h))
end
theorem ZG4 (n : Int) (hpre : True) : ZjE n := by
  unfold ZjE ZpQ Zr2 Zr3 Zr4
  have h : ZaA n = min (max n 1) 64 := rfl
  refine ⟨fun g => ?_, fun g => ⟨fun g2 => ?_, fun g2 => ?_⟩⟩
  · have := of_decide_eq_true g; omega
  · have := of_decide_eq_false g; have := of_decide_eq_true g2; omega
  · have := of_decide_eq_false g; have := of_decide_eq_false g2; omega
theorem ZIs : Sound Try.prog 66 (ZnP ZAF) := by
  refine ZaQ ZrM ?_
  intro args H K h
  obtain ⟨pre, v, hP, hpre, rfl, hK⟩ := ZmI h
  unfold ZAF at hP
  split at hP
  · cases hP
    exact ⟨rfl, fun w0 fp ρi => ZIj _ hK (ZG4 _ hpre)⟩
  · cases hP
def ZAM : Zcw := fun args H => match args, H with
  | [.agg [.one (.int .i64 sets), .one (.int .i64 ways)]], ⟨0, []⟩ => some (True, fun K => K (.ptr ⟨0, 0, 0, 1⟩ 3) ⟨1, [(0, some ⟨true, [.i (ZaA sets), .i (ZaA ways), .one (.nilslice)], 0⟩)]⟩)
  | _, _ => none
def ZAv : Con := ⟨37, gS ZAM, [], [], []⟩
def ZuF (sets ways : Int) (Kf : SVal -> Heap -> Prop) : Prop := Kf (.ptr ⟨0, 0, 0, 1⟩ 3) ⟨1, [(0, some ⟨true, [.i (ZaA sets), .i (ZaA ways), .one (.nilslice)], 0⟩)]⟩
def ZoR : ACode := .reg (.op (some 1) (.box (.tm 0)) (.op (some 2) (.mov (.cn (.nilptr))) .nil))
def Zlx : List MStep := [.mk 0 0 (some 3) (.fieldAddr (.tm 1) 0 1), .mk 1 0 (some 4) (.load1 (.tm 3)), .mk 3 0 (some 6) (.fieldAddr (.tm 1) 1 1), .mk 4 0 (some 7) (.load1 (.tm 6)), .mk 2 1 (some 5) (.call 66 [(.tm 4)]), .mk 5 2 (some 8) (.call 66 [(.tm 7)]), .mk 6 0 (some 9) (.build [.i 0, .i 0, .one (.nilslice)] [(0, 1, (.tm 5)), (1, 1, (.tm 8))]), .mk 7 2 (some 10) (.box (.tm 9)), .mk 8 0 (some 2) (.mov (.tm 10))]
def ZoQ : ACode := .regM Zlx
def ZHk : ACode := (.seq ZoR (.seq ZoQ .ret))
def ZrS : Res := .one (.tm 2)
theorem ZrL : Zbr Try.prog 37 1 11 ZHk ZrS = true := by kernel_rfl
def ZAH : ZaE := Zci [ZGT] []
theorem ZwB : ZaT Try.prog ZAH := ZaZ ⟨ZIs, trivial⟩ trivial
section
variable {w0 : World} {fp : Nat -> Nat -> Prop} {ρi : Rho} {Kf : SVal -> Heap -> Prop}
abbrev Yf5 (x0 x1 : Int) : Heap := ⟨1, [(0, some ⟨true, [.i x0, .i x1], 0⟩)]⟩
abbrev Yf6 (x0 x1 : Int) : Heap := ⟨2, [(1, some ⟨true, [.i (ZaA x0), .i (ZaA x1), .one (.nilslice)], 0⟩)]⟩
abbrev Yf7 : Env := [(1, some (.ptr ⟨0, 0, 0, 1⟩ 2))]
theorem ZCD (sets ways : Int) (Z : Env -> Heap -> Prop) (h : (True) /\ ((Zbk (Yf5 sets ways) (Heap.keep (Yf5 sets ways) [0]) (Zbv [0] (Yf5 sets ways)))) /\ (True) /\ Z [(2, some (.ptr ⟨1, 0, 0, 1⟩ 3))] (Yf6 sets ways)) : EvNC ZAH Zlx [[], [0], [], [], [], [], [], [], []] Yf7 (Yf5 sets ways) [2] [1] Z := EvNC.of (by kernel_rfl) h
theorem Zyj (sets ways : Int) : RetC ZrS [(2, some (.ptr ⟨1, 0, 0, 1⟩ 3))] (Yf6 sets ways) (.ptr ⟨1, 0, 0, 1⟩ 3) := RetC.of (fun Z => by kernel_rfl)
def Zmt (sets ways : Int) : Prop := True
theorem ZFt (sets ways : Int) (hK : ZuF sets ways Kf) (h : Zmt sets ways) : SemL Try.prog w0 fp ρi 0 11 [ZoQ, .ret] Yf7 (Yf5 sets ways) (fnK ZrS 0 Kf) :=
  ZeB ZwB (steps := Zlx) (ZCD sets ways _ ⟨True.intro, ⟨ZiN, ⟨True.intro, (ZaL (R := ZrS) (m := 0) (Kf := Kf) (fun _ _ h => h) (Zyj sets ways) (ZaD (Zay [(0, 1)] [0] rfl (by kernel_rfl) rfl bpt (hsc pcs Zag) rfl (by kernel_rfl) (hK))))⟩⟩⟩)
abbrev Yf8 (x0 x1 : Int) : Env := [(0, some (.agg [.i x0, .i x1]))]
theorem ZCC (sets ways : Int) (Z : Env -> Heap -> Prop) (h : Z Yf7 (Yf5 sets ways)) : EvC ZAH ZoR (Yf8 sets ways) Yf0 [1] [0] Z := EvC.of (by kernel_rfl) h
theorem ZFs (sets ways : Int) (hK : ZuF sets ways Kf) (h : Zmt sets ways) : SemL Try.prog w0 fp ρi 0 11 [ZoR, (.seq ZoQ .ret)] (Yf8 sets ways) Yf0 (fnK ZrS 0 Kf) :=
  Zak ZwB (ZCC sets ways _ (Zan (ZFt sets ways hK h)))
theorem ZIi (sets ways : Int) (hK : ZuF sets ways Kf) (h : Zmt sets ways) : SemL Try.prog w0 fp ρi 0 11 [ZHk] (Yf8 sets ways) Yf0 (fnK ZrS 0 Kf) :=
  (Zan (ZFs sets ways hK h))
end
theorem ZG3 (sets ways : Int) (hpre : True) : Zmt sets ways := by
  unfold Zmt
  trivial
theorem ZIr : Sound Try.prog 37 (gS ZAM) := by
  refine ZaQ ZrL ?_
  intro args H K h
  obtain ⟨pre, out, hD, hpre, hK⟩ := ZbK h
  unfold ZAM at hD
  split at hD
  · cases hD
    exact ⟨rfl, fun w0 fp ρi => ZIi _ _ hK (ZG3 _ _ hpre)⟩
  · cases hD
def Zvn : Zcw := fun args H => match args, H with
  | [.ptr ⟨1, 0, 0, 1⟩ 3, .int .i64 key], ⟨2, [(0, some ⟨false, [.rows [.int .i64, .int .i64] list_m list], 0⟩), (1, some ⟨false, [.one (.int .i64 sets), .one (.int .i64 ways), .one (.slice ⟨0, 0, 0, 2⟩ list_n list_c)], 0⟩)]⟩ => some (list_m = list_n /\ (List.length list = list_n /\ list_n <= list_c /\ list_n <= 100000 /\ I64 key /\ 1 <= sets /\ sets <= 64 /\ 1 <= ways /\ ways <= 64 /\ (∀ x ∈ list, 0 <= x.1)), fun K => K (.int .i64 (idxK key list)) ⟨2, [(0, some ⟨false, [.rows Zaa list_n list], 0⟩), (1, some ⟨false, [.i sets, .i ways, .one (.slice ⟨0, 0, 0, 2⟩ list_n list_c)], 0⟩)]⟩)
  | _, _ => none
def Zif : Con := ⟨41, gS Zvn, [], [], []⟩
def Zcu (sets ways : Int) (list : List (Tup Zaa)) (list_n list_c : Nat) (key : Int) (Kf : SVal -> Heap -> Prop) : Prop := Kf (.int .i64 (idxK key list)) ⟨2, [(0, some ⟨false, [.rows Zaa list_n list], 0⟩), (1, some ⟨false, [.i sets, .i ways, .one (.slice ⟨0, 0, 0, 2⟩ list_n list_c)], 0⟩)]⟩
def ZoJ : ACode := .reg (.op (some 4) (.mov (.cn (.int .i64 0))) .nil)
def Zlt : ACode := .reg (.op (some 5) (.mov (.cn (.int .i64 0))) .nil)
def ZoI : ACode := .reg (.op (some 6) (.mov (.tm 5)) (.op (some 7) (.mov (.tm 0)) (.op (some 8) (.nilCheck (.tm 7)) (.op (some 9) (.fieldAddr (.tm 8) 2 1) (.op (some 10) (.load1 (.tm 9)) (.op (some 11) (.len (.tm 10)) (.op (some 12) (.bin .lss (.tm 6) (.tm 11)) .nil)))))))
def ZoH : ACode := .cond (.tm 12) .skip (.exit 0)
def ZoG : ACode := .reg (.op (some 15) (.mov (.tm 0)) (.op (some 16) (.nilCheck (.tm 15)) (.op (some 17) (.fieldAddr (.tm 16) 2 1) (.op (some 18) (.load1 (.tm 17)) (.op (some 19) (.mov (.tm 5)) (.op (some 20) (.idxS (.tm 18) (.tm 19) 2) (.op (some 21) (.fieldAddr (.tm 20) 0 1) (.op (some 22) (.load1 (.tm 21)) (.op (some 23) (.mov (.tm 1)) (.op (some 24) (.bin .eql (.tm 22) (.tm 23)) .nil))))))))))
def ZoF : ACode := .reg (.op (some 25) (.mov (.tm 5)) (.op (some 4) (.mov (.tm 25)) .nil))
def ZoE : ACode := .cond (.tm 24) (.seq ZoF .ret) .skip
def Zls : ACode := .block 1 (.seq ZoG ZoE)
def Zf0 : ACode := .reg (.op (some 13) (.mov (.tm 5)) (.op (some 14) (.bin .add (.tm 13) (.cn (.int .i64 1))) (.op (some 5) (.mov (.tm 14)) .nil)))
def ZuV : ACode := .loop (.seq (.seq ZoI ZoH) (.seq Zls Zf0))
def Zh5 : ACode := .block 0 ZuV
def Zem : ACode := .reg (.op (some 4) (.mov (.cn (.int .i64 (-1)))) .nil)
def ZwJ : ACode := (.seq ZoJ (.seq (.seq Zlt Zh5) (.seq Zem .ret)))
def ZeH : Res := .one (.tm 4)
theorem Zpw : Zbr Try.prog 41 2 26 ZwJ ZeH = true := by kernel_rfl
def ZhQ : ZaE := Zci [] []
theorem ZfT : ZaT Try.prog ZhQ := ZaZ trivial trivial
section
variable {w0 : World} {fp : Nat -> Nat -> Prop} {ρi : Rho} {Kf : SVal -> Heap -> Prop}
def Zum (w0 : World) (fp : Nat -> Nat -> Prop) (ρi : Rho) (Kf : SVal -> Heap -> Prop) (sets ways : Int) (list : List (Tup Zaa)) (list_n list_c : Nat) (key : Int) : ZcJ := ZbH 0 (fun e H => SemL Try.prog w0 fp ρi 2 26 [(.seq Zem .ret)] e H (fnK ZeH 2 Kf)) (fnK ZeH 2 Kf)
def Zuy (sets ways : Int) (list : List (Tup Zaa)) (list_n list_c : Nat) (key : Int) : Int -> Prop := fun s => match s with | v5 => ∃ i : Nat, v5 = i /\ i <= list_n /\ (List.take i list).any (Zgy key) = false
def ZtQ (sets ways : Int) (list : List (Tup Zaa)) (list_n list_c : Nat) (key : Int) : Int -> Nat := fun s => match s with | v5 => (((list_n : Int) - v5).toNat)
def Zub (sets ways : Int) (list : List (Tup Zaa)) (list_n list_c : Nat) (key : Int) : Int -> Env := fun s => match s with | v5 => [(0, some (.ptr ⟨1, 0, 0, 1⟩ 3)), (1, some (.int .i64 key)), (5, some (.int .i64 v5))]
def Zt1 (sets ways : Int) (list : List (Tup Zaa)) (list_n list_c : Nat) (key : Int) : Int -> Heap := fun s => match s with | v5 => ⟨2, [(0, some ⟨false, [.rows Zaa list_n list], 0⟩), (1, some ⟨false, [.i sets, .i ways, .one (.slice ⟨0, 0, 0, 2⟩ list_n list_c)], 0⟩)]⟩
def Zg1 (w0 : World) (fp : Nat -> Nat -> Prop) (ρi : Rho) (Kf : SVal -> Heap -> Prop) (sets ways : Int) (list : List (Tup Zaa)) (list_n list_c : Nat) (key v5 : Int) : ZcJ := ZhT 2 (Zuy sets ways list list_n list_c key) (ZtQ sets ways list list_n list_c key) (Zub sets ways list list_n list_c key) (Zt1 sets ways list list_n list_c key) v5 (Zum w0 fp ρi Kf sets ways list list_n list_c key)
def ZnT (w0 : World) (fp : Nat -> Nat -> Prop) (ρi : Rho) (Kf : SVal -> Heap -> Prop) (sets ways : Int) (list : List (Tup Zaa)) (list_n list_c : Nat) (key v5 : Int) : ZcJ := ZbH 1 (fun e H => SemL Try.prog w0 fp ρi 2 26 [Zf0] e H (Zg1 w0 fp ρi Kf sets ways list list_n list_c key v5)) (Zg1 w0 fp ρi Kf sets ways list list_n list_c key v5)
abbrev Yf9 (x0 : Nat) (x1 : List (Tup Zaa)) (x2 x3 : Int) (x4 : Nat) : Heap := ⟨2, [(0, some ⟨false, [.rows Zaa x0 x1], 0⟩), (1, some ⟨false, [.i x2, .i x3, .one (.slice ⟨0, 0, 0, 2⟩ x0 x4)], 0⟩)]⟩
theorem ZCc (sets ways : Int) (list : List (Tup Zaa)) (list_n list_c : Nat) (key v5 : Int) (Z : Env -> Heap -> Prop) (h : Z [(4, some (.int .i64 v5))] (Yf9 list_n list sets ways list_c)) : EvC ZhQ ZoF [(5, some (.int .i64 v5))] (Yf9 list_n list sets ways list_c) [4] [0, 1] Z := EvC.of (by kernel_rfl) h
theorem Zya (sets ways : Int) (list : List (Tup Zaa)) (list_n list_c : Nat) (key v5 : Int) : RetC ZeH [(4, some (.int .i64 v5))] (Yf9 list_n list sets ways list_c) (.int .i64 v5) := RetC.of (fun Z => by kernel_rfl)
def Zsu (sets ways : Int) (list : List (Tup Zaa)) (list_n list_c : Nat) (key v5 : Int) : Prop := v5 = (idxK key list)
theorem ZEZ (sets ways : Int) (list : List (Tup Zaa)) (list_n list_c : Nat) (key : Int) (hK : Zcu sets ways list list_n list_c key Kf) (v5 : Int) (h : Zsu sets ways list list_n list_c key v5) : SemL Try.prog w0 fp ρi 2 26 [ZoF, .ret] [(5, some (.int .i64 v5))] (Yf9 list_n list sets ways list_c) (ZnT w0 fp ρi Kf sets ways list list_n list_c key v5) :=
  Zak ZfT (ZCc sets ways list list_n list_c key v5 _ (ZaL (R := ZeH) (m := 2) (Kf := Kf) (fun _ _ h => h) (Zya sets ways list list_n list_c key v5) (ZaD (Eq.mpr (cg1 (fun (z1 : Int) => Zcn 2 Kf (.int .i64 z1) (Yf9 list_n list sets ways list_c)) h) (Zay [] [0, 1] rfl (by kernel_rfl) rfl pbd (hsc pcs (hsc (Zac pbd (Zac pbd (Zac bsl Zap))) Zag)) rfl (by kernel_rfl) (hK))))))
abbrev ZAB (x0 x1 : Int) : Env := [(0, some (.ptr ⟨1, 0, 0, 1⟩ 3)), (1, some (.int .i64 x0)), (5, some (.int .i64 x1))]
theorem ZCb (sets ways : Int) (list : List (Tup Zaa)) (list_n list_c : Nat) (key v5 : Int) (Z : Env -> Heap -> Prop) (h : Z [(0, some (.ptr ⟨1, 0, 0, 1⟩ 3)), (1, some (.int .i64 key)), (5, some (.int .i64 (IntKind.i64.wrap (v5 + 1))))] (Yf9 list_n list sets ways list_c)) : EvC ZhQ Zf0 (ZAB key v5) (Yf9 list_n list sets ways list_c) [0, 1, 5] [0, 1] Z := EvC.of (by kernel_rfl) h
def Zst (sets ways : Int) (list : List (Tup Zaa)) (list_n list_c : Nat) (key v5 : Int) : Prop := (∃ i : Nat, (IntKind.i64.wrap (v5 + 1)) = i /\ i <= list_n /\ (List.take i list).any (Zgy key) = false) /\ ((((list_n : Int) - (IntKind.i64.wrap (v5 + 1))).toNat) < (((list_n : Int) - v5).toNat))
theorem ZEY (sets ways : Int) (list : List (Tup Zaa)) (list_n list_c : Nat) (key : Int) (hK : Zcu sets ways list list_n list_c key Kf) (v5 : Int) (h : Zst sets ways list list_n list_c key v5) : SemL Try.prog w0 fp ρi 2 26 [Zf0] (ZAB key v5) (Yf9 list_n list sets ways list_c) (Zg1 w0 fp ρi Kf sets ways list list_n list_c key v5) :=
  Zak ZfT (ZCb sets ways list list_n list_c key v5 _ (Zch (ZbV (x' := (IntKind.i64.wrap (v5 + 1))) (τ := tau []) h.1 h.2 (ZaR [] [0, 1] rfl rfl (esc bpt (esc pbd (esc pbd ZaB))) (hsc pcs (hsc (Zac pbd (Zac pbd (Zac bsl Zap))) Zag)) (by kernel_rfl) rfl))))
def Zss (sets ways : Int) (list : List (Tup Zaa)) (list_n list_c : Nat) (key v5 : Int) : Prop := (((List.getD list (0 + (Int.toNat v5)) (Tup.dflt Zaa)).1 == key) = true -> (Zsu sets ways list list_n list_c key v5)) /\ (((List.getD list (0 + (Int.toNat v5)) (Tup.dflt Zaa)).1 == key) = false -> (Zst sets ways list list_n list_c key v5))
abbrev ZJz (x0 x1 : Int) (x2 : List (Tup Zaa)) : Env := [(0, some (.ptr ⟨1, 0, 0, 1⟩ 3)), (1, some (.int .i64 x0)), (5, some (.int .i64 x1)), (24, some (.bool ((List.getD x2 (0 + (Int.toNat x1)) (Tup.dflt Zaa)).1 == x0)))]
theorem ZEX (sets ways : Int) (list : List (Tup Zaa)) (list_n list_c : Nat) (key : Int) (hK : Zcu sets ways list list_n list_c key Kf) (v5 : Int) (h : Zss sets ways list list_n list_c key v5) : SemL Try.prog w0 fp ρi 2 26 [ZoE] (ZJz key v5 list) (Yf9 list_n list sets ways list_c) (ZnT w0 fp ρi Kf sets ways list list_n list_c key v5) :=
  Za0 (q := ((List.getD list (0 + (Int.toNat v5)) (Tup.dflt Zaa)).1 == key)) (by kernel_rfl) (fun hq => (Zan (lpk [5] [0, 1] (ZEZ sets ways list list_n list_c key hK v5 (h.1 hq))))) (fun hq => (Zbb (Zch (P := Try.prog) (w0 := w0) (fp := fp) (ρi := ρi) (n0 := 2) (nt := 26) (lpk [0, 1, 5] [0, 1] (ZEY sets ways list list_n list_c key hK v5 (h.2 hq))))))
theorem ZCa (sets ways : Int) (list : List (Tup Zaa)) (list_n list_c : Nat) (key v5 : Int) (Z : Env -> Heap -> Prop) (h : ((0 <= v5)) /\ ((v5 < ((list_n : Nat) : Int))) /\ (((0 + (Int.toNat v5)) < list_n)) /\ Z (ZJz key v5 list) (Yf9 list_n list sets ways list_c)) : EvC ZhQ ZoG (ZAB key v5) (Yf9 list_n list sets ways list_c) [0, 1, 5, 24] [0, 1] Z := EvC.of (by kernel_rfl) h
def Zp0 (sets ways : Int) (list : List (Tup Zaa)) (list_n list_c : Nat) (key v5 : Int) : Prop := ((0 <= v5)) /\ (((v5 < ((list_n : Nat) : Int))) /\ ((((0 + (Int.toNat v5)) < list_n)) /\ (Zss sets ways list list_n list_c key v5)))
theorem ZEW (sets ways : Int) (list : List (Tup Zaa)) (list_n list_c : Nat) (key : Int) (hK : Zcu sets ways list list_n list_c key Kf) (v5 : Int) (h : Zp0 sets ways list list_n list_c key v5) : SemL Try.prog w0 fp ρi 2 26 [ZoG, ZoE] (ZAB key v5) (Yf9 list_n list sets ways list_c) (ZnT w0 fp ρi Kf sets ways list list_n list_c key v5) :=
  Zak ZfT (ZCa sets ways list list_n list_c key v5 _ ⟨h.1, ⟨h.2.1, ⟨h.2.2.1, (ZEX sets ways list list_n list_c key hK v5 h.2.2.2)⟩⟩⟩)
theorem ZEV (sets ways : Int) (list : List (Tup Zaa)) (list_n list_c : Nat) (key : Int) (hK : Zcu sets ways list list_n list_c key Kf) (v5 : Int) (h : Zp0 sets ways list list_n list_c key v5) : SemL Try.prog w0 fp ρi 2 26 [Zls, Zf0] (ZAB key v5) (Yf9 list_n list sets ways list_c) (Zg1 w0 fp ρi Kf sets ways list list_n list_c key v5) :=
  Zbi (Zan (ZEW sets ways list list_n list_c key hK v5 h))
theorem ZB9 (sets ways : Int) (list : List (Tup Zaa)) (list_n list_c : Nat) (key : Int) (Z : Env -> Heap -> Prop) (h : Z [(4, some (.int .i64 (-1)))] (Yf9 list_n list sets ways list_c)) : EvC ZhQ Zem [] (Yf9 list_n list sets ways list_c) [4] [0, 1] Z := EvC.of (by kernel_rfl) h
theorem Zx9 (sets ways : Int) (list : List (Tup Zaa)) (list_n list_c : Nat) (key : Int) : RetC ZeH [(4, some (.int .i64 (-1)))] (Yf9 list_n list sets ways list_c) (.int .i64 (-1)) := RetC.of (fun Z => by kernel_rfl)
def Zsr (sets ways : Int) (list : List (Tup Zaa)) (list_n list_c : Nat) (key : Int) : Prop := (-1) = (idxK key list)
theorem ZEU (sets ways : Int) (list : List (Tup Zaa)) (list_n list_c : Nat) (key : Int) (hK : Zcu sets ways list list_n list_c key Kf) (h : Zsr sets ways list list_n list_c key) : SemL Try.prog w0 fp ρi 2 26 [Zem, .ret] [] (Yf9 list_n list sets ways list_c) (fnK ZeH 2 Kf) :=
  Zak ZfT (ZB9 sets ways list list_n list_c key _ (ZaL (R := ZeH) (m := 2) (Kf := Kf) (fun _ _ h => h) (Zx9 sets ways list list_n list_c key) (ZaD (Eq.mpr (cg1 (fun (z1 : Int) => Zcn 2 Kf (.int .i64 z1) (Yf9 list_n list sets ways list_c)) h) (Zay [] [0, 1] rfl (by kernel_rfl) rfl pbd (hsc pcs (hsc (Zac pbd (Zac pbd (Zac bsl Zap))) Zag)) rfl (by kernel_rfl) (hK))))))
def ZpZ (sets ways : Int) (list : List (Tup Zaa)) (list_n list_c : Nat) (key v5 : Int) : Prop := ((decide (v5 < ((list_n : Nat) : Int))) = true -> (Zp0 sets ways list list_n list_c key v5)) /\ ((decide (v5 < ((list_n : Nat) : Int))) = false -> (Zsr sets ways list list_n list_c key))
abbrev ZJy (x0 x1 : Int) (x2 : Nat) : Env := [(0, some (.ptr ⟨1, 0, 0, 1⟩ 3)), (1, some (.int .i64 x0)), (5, some (.int .i64 x1)), (12, some (.bool (decide (x1 < ((x2 : Nat) : Int)))))]
theorem ZET (sets ways : Int) (list : List (Tup Zaa)) (list_n list_c : Nat) (key : Int) (hK : Zcu sets ways list list_n list_c key Kf) (v5 : Int) (h : ZpZ sets ways list list_n list_c key v5) : SemL Try.prog w0 fp ρi 2 26 [ZoH, (.seq Zls Zf0)] (ZJy key v5 list_n) (Yf9 list_n list sets ways list_c) (Zg1 w0 fp ρi Kf sets ways list list_n list_c key v5) :=
  Za0 (q := (decide (v5 < ((list_n : Nat) : Int)))) (by kernel_rfl) (fun hq => (Zbb (lpk [0, 1, 5] [0, 1] (Zan (ZEV sets ways list list_n list_c key hK v5 (h.1 hq)))))) (fun hq => (ZfK (lpk [] [0, 1] (Zan (ZEU sets ways list list_n list_c key hK (h.2 hq))))))
theorem ZB8 (sets ways : Int) (list : List (Tup Zaa)) (list_n list_c : Nat) (key v5 : Int) (Z : Env -> Heap -> Prop) (h : Z (ZJy key v5 list_n) (Yf9 list_n list sets ways list_c)) : EvC ZhQ ZoI (ZAB key v5) (Yf9 list_n list sets ways list_c) [0, 1, 5, 12] [0, 1] Z := EvC.of (by kernel_rfl) h
theorem ZES (sets ways : Int) (list : List (Tup Zaa)) (list_n list_c : Nat) (key : Int) (hK : Zcu sets ways list list_n list_c key Kf) (v5 : Int) (h : ZpZ sets ways list list_n list_c key v5) : SemL Try.prog w0 fp ρi 2 26 [ZoI, ZoH, (.seq Zls Zf0)] (ZAB key v5) (Yf9 list_n list sets ways list_c) (Zg1 w0 fp ρi Kf sets ways list list_n list_c key v5) :=
  Zak ZfT (ZB8 sets ways list list_n list_c key v5 _ (ZET sets ways list list_n list_c key hK v5 h))
def Zim (sets ways : Int) (list : List (Tup Zaa)) (list_n list_c : Nat) (key : Int) : Prop := (∃ i : Nat, (0 : Int) = i /\ i <= list_n /\ (List.take i list).any (Zgy key) = false) /\ (∀ (v5 : Int), (∃ i : Nat, v5 = i /\ i <= list_n /\ (List.take i list).any (Zgy key) = false) -> (ZpZ sets ways list list_n list_c key v5))
abbrev ZIP (x0 : Int) : Env := [(0, some (.ptr ⟨1, 0, 0, 1⟩ 3)), (1, some (.int .i64 x0)), (5, some (.int .i64 0))]
theorem ZER (sets ways : Int) (list : List (Tup Zaa)) (list_n list_c : Nat) (key : Int) (hK : Zcu sets ways list list_n list_c key Kf) (h : Zim sets ways list list_n list_c key) : SemL Try.prog w0 fp ρi 2 26 [ZuV] (ZIP key) (Yf9 list_n list sets ways list_c) (Zum w0 fp ρi Kf sets ways list list_n list_c key) :=
  ZfJ (Zuy sets ways list list_n list_c key) (ZtQ sets ways list list_n list_c key) (Zub sets ways list list_n list_c key) (Zt1 sets ways list list_n list_c key) ⟨0, tau [], h.1, (ZaR [] [0, 1] rfl rfl (esc bpt (esc pbd (esc pbd ZaB))) (hsc pcs (hsc (Zac pbd (Zac pbd (Zac bsl Zap))) Zag)) (by kernel_rfl) rfl)⟩ (fun s => match s with | v5 => fun hi => (Zan (Zan (ZES sets ways list list_n list_c key hK v5 (h.2 v5 hi)))))
theorem ZEQ (sets ways : Int) (list : List (Tup Zaa)) (list_n list_c : Nat) (key : Int) (hK : Zcu sets ways list list_n list_c key Kf) (h : Zim sets ways list list_n list_c key) : SemL Try.prog w0 fp ρi 2 26 [Zh5, (.seq Zem .ret)] (ZIP key) (Yf9 list_n list sets ways list_c) (fnK ZeH 2 Kf) :=
  Zbi (ZER sets ways list list_n list_c key hK h)
abbrev ZhO (x0 : Int) : Env := [(0, some (.ptr ⟨1, 0, 0, 1⟩ 3)), (1, some (.int .i64 x0))]
theorem Zxh (sets ways : Int) (list : List (Tup Zaa)) (list_n list_c : Nat) (key : Int) (Z : Env -> Heap -> Prop) (h : Z (ZIP key) (Yf9 list_n list sets ways list_c)) : EvC ZhQ Zlt (ZhO key) (Yf9 list_n list sets ways list_c) [0, 1, 5] [0, 1] Z := EvC.of (by kernel_rfl) h
theorem Zza (sets ways : Int) (list : List (Tup Zaa)) (list_n list_c : Nat) (key : Int) (hK : Zcu sets ways list list_n list_c key Kf) (h : Zim sets ways list list_n list_c key) : SemL Try.prog w0 fp ρi 2 26 [Zlt, Zh5, (.seq Zem .ret)] (ZhO key) (Yf9 list_n list sets ways list_c) (fnK ZeH 2 Kf) :=
  Zak ZfT (Zxh sets ways list list_n list_c key _ (ZEQ sets ways list list_n list_c key hK h))
theorem Zxg (sets ways : Int) (list : List (Tup Zaa)) (list_n list_c : Nat) (key : Int) (Z : Env -> Heap -> Prop) (h : Z (ZhO key) (Yf9 list_n list sets ways list_c)) : EvC ZhQ ZoJ (ZhO key) (Yf9 list_n list sets ways list_c) [0, 1] [0, 1] Z := EvC.of (by kernel_rfl) h
theorem Zy9 (sets ways : Int) (list : List (Tup Zaa)) (list_n list_c : Nat) (key : Int) (hK : Zcu sets ways list list_n list_c key Kf) (h : Zim sets ways list list_n list_c key) : SemL Try.prog w0 fp ρi 2 26 [ZoJ, (.seq (.seq Zlt Zh5) (.seq Zem .ret))] (ZhO key) (Yf9 list_n list sets ways list_c) (fnK ZeH 2 Kf) :=
  Zak ZfT (Zxg sets ways list list_n list_c key _ (Zan (Zan (Zza sets ways list list_n list_c key hK h))))
theorem ZBa (sets ways : Int) (list : List (Tup Zaa)) (list_n list_c : Nat) (key : Int) (hK : Zcu sets ways list list_n list_c key Kf) (h : Zim sets ways list list_n list_c key) : SemL Try.prog w0 fp ρi 2 26 [ZwJ] (ZhO key) (Yf9 list_n list sets ways list_c) (fnK ZeH 2 Kf) :=
  (Zan (Zy9 sets ways list list_n list_c key hK h))
end
theorem ZAg (sets ways : Int) (list : List (Tup Zaa)) (list_n list_c : Nat) (key : Int) (hpre : (List.length list = list_n /\ list_n <= list_c /\ list_n <= 100000 /\ I64 key /\ 1 <= sets /\ sets <= 64 /\ 1 <= ways /\ ways <= 64 /\ (∀ x ∈ list, 0 <= x.1))) : Zim sets ways list list_n list_c key := by
  unfold Zim ZpZ Zsr Zp0 Zss Zst Zsu
  obtain ⟨hl, hc, hn, hk, -⟩ := hpre
  refine ⟨⟨0, rfl, Nat.zero_le _, rfl⟩, ?_⟩
  rintro _ ⟨i, rfl, hi, ha⟩
  refine ⟨fun hlt => ?_, fun hge => ?_⟩
  · have hlt := of_decide_eq_true hlt
    refine ⟨by omega, hlt, by omega, ?_⟩
    rw [show 0 + ((i : Nat) : Int).toNat = i by omega]
    refine ⟨fun hb => (ZnY (by omega) ha hb).symm, fun hb => ?_⟩
    have e1 : IntKind.i64.wrap ((i : Int) + 1) = ((i + 1 : Nat) : Int) := by rw [Zrj]; omega
    refine ⟨⟨i + 1, e1, by omega, ?_⟩, by rw [e1]; omega⟩
    rw [Zcx (by omega), List.any_append, ha]
    simpa using hb
  · have hge := of_decide_eq_false hge
    rw [List.take_of_length_le (by omega)] at ha
    exact (ZiQ ha).symm
theorem Zqr : Sound Try.prog 41 (gS Zvn) := by
  refine ZaQ Zpw ?_
  intro args H K h
  obtain ⟨pre, out, hD, hpre, hK⟩ := ZbK h
  unfold Zvn at hD
  split at hD
  · cases hD
    obtain ⟨rfl, hpre⟩ := hpre
    exact ⟨rfl, fun w0 fp ρi => ZBa _ _ _ _ _ _ hK (ZAg _ _ _ _ _ _ hpre)⟩
  · cases hD
def Zvo : Zcw := fun args H => match args, H with
  | [.ptr ⟨1, 0, 0, 1⟩ 3, .int .i64 key], ⟨2, [(0, some ⟨false, [.rows [.int .i64, .int .i64] list_m list], 0⟩), (1, some ⟨true, [.one (.int .i64 sets), .one (.int .i64 ways), .one (.slice ⟨0, 0, 0, 2⟩ list_n list_c)], 0⟩)]⟩ => some (list_m = list_n /\ (List.length list = list_n /\ list_n <= list_c /\ list_n <= 100000 /\ I64 key /\ 1 <= sets /\ sets <= 64 /\ 1 <= ways /\ ways <= 64 /\ (∀ x ∈ list, 0 <= x.1)), fun K => ((decide ((idxK key list) < 0)) = true -> K (.bool false) ⟨2, [(0, some ⟨false, [.rows Zaa list_n list], 0⟩), (1, some ⟨true, [.i sets, .i ways, .one (.slice ⟨0, 0, 0, 2⟩ list_n list_c)], 0⟩)]⟩) /\ ((decide ((idxK key list) < 0)) = false -> ∀ cap0 : Nat, (list_n - 1) <= cap0 -> K (.bool true) ⟨3, [(2, some ⟨true, [.rows Zaa (list_n - 1) (Zbs (idxK key list) list)], ((cap0 - (list_n - 1)) * 2)⟩), (0, some ⟨false, [.rows Zaa list_n list], 0⟩), (1, some ⟨true, [.i sets, .i ways, .one (.slice ⟨2, 0, 0, 2⟩ (list_n - 1) cap0)], 0⟩)]⟩))
  | _, _ => none
def Zma : Con := ⟨39, gS Zvo, [1], [], []⟩
def Zec (sets ways : Int) (list : List (Tup Zaa)) (list_n list_c : Nat) (key : Int) (Kf : SVal -> Heap -> Prop) : Prop := ((decide ((idxK key list) < 0)) = true -> Kf (.bool false) ⟨2, [(0, some ⟨false, [.rows Zaa list_n list], 0⟩), (1, some ⟨true, [.i sets, .i ways, .one (.slice ⟨0, 0, 0, 2⟩ list_n list_c)], 0⟩)]⟩) /\ ((decide ((idxK key list) < 0)) = false -> ∀ cap0 : Nat, (list_n - 1) <= cap0 -> Kf (.bool true) ⟨3, [(2, some ⟨true, [.rows Zaa (list_n - 1) (Zbs (idxK key list) list)], ((cap0 - (list_n - 1)) * 2)⟩), (0, some ⟨false, [.rows Zaa list_n list], 0⟩), (1, some ⟨true, [.i sets, .i ways, .one (.slice ⟨2, 0, 0, 2⟩ (list_n - 1) cap0)], 0⟩)]⟩)
def ZoN : ACode := .reg (.op (some 4) (.mov (.cn (.bool false))) .nil)
def Zlv : ACode := .reg (.op (some 7) (.mov (.tm 0)) (.op (some 8) (.mov (.tm 1)) (.op (some 9) (.call 41 [(.tm 7), (.tm 8)]) (.op (some 5) (.mov (.tm 9)) .nil))))
def Zja : ACode := .reg (.op (some 10) (.mov (.tm 5)) (.op (some 11) (.bin .lss (.tm 10) (.cn (.int .i64 0))) .nil))
def ZoM : ACode := .reg (.op (some 4) (.mov (.cn (.bool false))) .nil)
def Zi9 : ACode := .cond (.tm 11) (.seq ZoM .ret) .skip
def Ze9 : ACode := .reg (.op (some 12) (.bsliceR Zaa 0 []) (.op (some 13) (.mov (.tm 0)) (.op (some 14) (.nilCheck (.tm 13)) (.op (some 15) (.fieldAddr (.tm 14) 2 1) (.op (some 16) (.load1 (.tm 15)) (.op (some 17) (.mov (.tm 5)) (.op (some 18) (.sliceS 2 (.tm 16) none (some (.tm 17)) none) (.op (some 19) (.appendRW Zaa (.tm 12) (.tm 18)) (.op (some 6) (.mov (.tm 19)) .nil)))))))))
def Zeo : ACode := .reg (.op (some 20) (.mov (.tm 0)) (.op (some 21) (.mov (.tm 6)) (.op (some 22) (.mov (.tm 0)) (.op (some 23) (.nilCheck (.tm 22)) (.op (some 24) (.fieldAddr (.tm 23) 2 1) (.op (some 25) (.load1 (.tm 24)) (.op (some 26) (.mov (.tm 5)) (.op (some 27) (.bin .add (.tm 26) (.cn (.int .i64 1))) (.op (some 28) (.sliceS 2 (.tm 25) (some (.tm 27)) none none) (.op (some 29) (.appendRW Zaa (.tm 21) (.tm 28)) (.op (some 30) (.nilCheck (.tm 20)) (.op (some 31) (.fieldAddr (.tm 30) 2 1) (.op none (.store1 (.tm 31) (.tm 29)) .nil)))))))))))))
def ZdH : ACode := .reg (.op (some 4) (.mov (.cn (.bool true))) .nil)
def ZwK : ACode := (.seq ZoN (.seq Zlv (.seq (.seq Zja Zi9) (.seq Ze9 (.seq Zeo (.seq ZdH .ret))))))
def ZdA : Res := .one (.tm 4)
theorem Zpx : Zbr Try.prog 39 2 32 ZwK ZdA = true := by kernel_rfl
def ZhR : ZaE := Zci [] [Zif]
theorem ZfU : ZaT Try.prog ZhR := ZaZ trivial ⟨Zqr, trivial⟩
section
variable {w0 : World} {fp : Nat -> Nat -> Prop} {ρi : Rho} {Kf : SVal -> Heap -> Prop}
abbrev Znn (x0 : Nat) (x1 : List (Tup Zaa)) (x2 x3 : Int) (x4 : Nat) : Heap := ⟨2, [(0, some ⟨false, [.rows Zaa x0 x1], 0⟩), (1, some ⟨true, [.i x2, .i x3, .one (.slice ⟨0, 0, 0, 2⟩ x0 x4)], 0⟩)]⟩
theorem ZCs (sets ways : Int) (list : List (Tup Zaa)) (list_n list_c : Nat) (key : Int) (Z : Env -> Heap -> Prop) (h : Z [(4, some (.bool false))] (Znn list_n list sets ways list_c)) : EvC ZhR ZoM [] (Znn list_n list sets ways list_c) [4] [0, 1] Z := EvC.of (by kernel_rfl) h
theorem Zyf (sets ways : Int) (list : List (Tup Zaa)) (list_n list_c : Nat) (key : Int) : RetC ZdA [(4, some (.bool false))] (Znn list_n list sets ways list_c) (.bool false) := RetC.of (fun Z => by kernel_rfl)
def ZsF (sets ways : Int) (list : List (Tup Zaa)) (list_n list_c : Nat) (key : Int) : Prop := (decide ((idxK key list) < 0)) = true
theorem ZFh (sets ways : Int) (list : List (Tup Zaa)) (list_n list_c : Nat) (key : Int) (hK : Zec sets ways list list_n list_c key Kf) (h : ZsF sets ways list list_n list_c key) : SemL Try.prog w0 fp ρi 2 32 [ZoM, .ret, (.seq Ze9 (.seq Zeo (.seq ZdH .ret)))] [] (Znn list_n list sets ways list_c) (fnK ZdA 2 Kf) :=
  Zak ZfU (ZCs sets ways list list_n list_c key _ (ZaL (R := ZdA) (m := 2) (Kf := Kf) (fun _ _ h => h) (Zyf sets ways list list_n list_c key) (ZaD (Zay [] [0, 1] rfl (by kernel_rfl) rfl pbd (hsc pcs (hsc (Zac pbd (Zac pbd (Zac bsl Zap))) Zag)) rfl (by kernel_rfl) ((hK.1 h))))))
abbrev ZH0 (x0 : Nat) (x1 : List (Tup Zaa)) (x2 x3 : Int) (x4 x5 : Nat) (x6 : List (Tup Zaa)) (x7 : Nat) : Heap := ⟨5, [(0, some ⟨false, [.rows Zaa x0 x1], 0⟩), (1, some ⟨true, [.i x2, .i x3, .one (.slice ⟨4, 0, 0, 2⟩ x4 x5)], 0⟩), (4, some ⟨true, [.rows Zaa x4 x6], x7⟩)]⟩
theorem ZCr (sets ways : Int) (list : List (Tup Zaa)) (list_n list_c : Nat) (key : Int) (ae ag : Nat) (h4 : List (Tup Zaa)) (x4 : Nat) (Z : Env -> Heap -> Prop) (h : Z [(4, some (.bool true))] (ZH0 list_n list sets ways ae ag h4 x4)) : EvC ZhR ZdH [] (ZH0 list_n list sets ways ae ag h4 x4) [4] [0, 1, 4] Z := EvC.of (by kernel_rfl) h
theorem Zye (sets ways : Int) (list : List (Tup Zaa)) (list_n list_c : Nat) (key : Int) (ae ag : Nat) (h4 : List (Tup Zaa)) (x4 : Nat) : RetC ZdA [(4, some (.bool true))] (ZH0 list_n list sets ways ae ag h4 x4) (.bool true) := RetC.of (fun Z => by kernel_rfl)
def ZsE (sets ways : Int) (list : List (Tup Zaa)) (list_n list_c : Nat) (key : Int) (ae ag : Nat) (h4 : List (Tup Zaa)) (x4 : Nat) : Prop := ((decide ((idxK key list) < 0)) = false) /\ (ae = (list_n - 1)) /\ (ae = (list_n - 1)) /\ (h4 = (Zbs (idxK key list) list)) /\ (x4 = ((ag - (list_n - 1)) * 2)) /\ (((list_n - 1) : Nat) <= ag)
theorem ZFg (sets ways : Int) (list : List (Tup Zaa)) (list_n list_c : Nat) (key : Int) (hK : Zec sets ways list list_n list_c key Kf) (ae ag : Nat) (h4 : List (Tup Zaa)) (x4 : Nat) (h : ZsE sets ways list list_n list_c key ae ag h4 x4) : SemL Try.prog w0 fp ρi 2 32 [ZdH, .ret] [] (ZH0 list_n list sets ways ae ag h4 x4) (fnK ZdA 2 Kf) :=
  Zak ZfU (ZCr sets ways list list_n list_c key ae ag h4 x4 _ (ZaL (R := ZdA) (m := 2) (Kf := Kf) (fun _ _ h => h) (Zye sets ways list list_n list_c key ae ag h4 x4) (ZaD (Eq.mpr (cg4 (fun (z1 z2 : Nat) (z3 : List (Tup Zaa)) (z4 : Nat) => Zcn 2 Kf (.bool true) ⟨5, [(0, some ⟨false, [.rows Zaa list_n list], 0⟩), (1, some ⟨true, [.i sets, .i ways, .one (.slice ⟨4, 0, 0, 2⟩ z1 ag)], 0⟩), (4, some ⟨true, [.rows Zaa z2 z3], z4⟩)]⟩) h.2.1 h.2.2.1 h.2.2.2.1 h.2.2.2.2.1) (Zay [(2, 4)] [2, 0, 1] rfl (by kernel_rfl) rfl pbd (hsc pcs (hsc pcs (hsc (Zac pbd (Zac pbd (Zac bsl Zap))) Zag))) rfl (by kernel_rfl) ((hK.2 h.1) ag h.2.2.2.2.2))))))
abbrev ZJx (x0 : Int) (x1 x2 : Nat) : Env := [(0, some (.ptr ⟨1, 0, 0, 1⟩ 3)), (5, some (.int .i64 x0)), (6, some (.slice ⟨3, 0, 0, 2⟩ x1 x2))]
abbrev ZJw (x0 : Nat) (x1 : List (Tup Zaa)) (x2 x3 : Int) (x4 x5 : Nat) (x6 : List (Tup Zaa)) (x7 : Nat) : Heap := ⟨4, [(0, some ⟨false, [.rows Zaa x0 x1], 0⟩), (1, some ⟨true, [.i x2, .i x3, .one (.slice ⟨0, 0, 0, 2⟩ x0 x4)], 0⟩), (3, some ⟨true, [.rows Zaa x5 x6], x7⟩)]⟩
theorem ZCq (sets ways : Int) (list : List (Tup Zaa)) (list_n list_c : Nat) (key v5 : Int) (ah c : Nat) (h3 : List (Tup Zaa)) (x3 : Nat) (Z : Env -> Heap -> Prop) (h : ((0 <= (IntKind.i64.wrap (v5 + 1)))) /\ (((IntKind.i64.wrap (v5 + 1)) <= ((list_n : Nat) : Int))) /\ ((((0 + (if list_c = (Int.toNat (IntKind.i64.wrap (v5 + 1))) then 0 else (Int.toNat (IntKind.i64.wrap (v5 + 1))))) + (list_n - (Int.toNat (IntKind.i64.wrap (v5 + 1))))) <= list_n)) /\ ((List.length list = list_n)) /\ (((ah : Nat) = ah)) /\ ((List.length h3 = ah)) /\ ((((ah * 2) + x3) = (c * 2))) /\ (((ah + (list_n - (Int.toNat (IntKind.i64.wrap (v5 + 1))))) <= 1000000000)) /\ ∀ (ag : Nat), (ah + (list_n - (Int.toNat (IntKind.i64.wrap (v5 + 1))))) <= ag -> Z [] ⟨5, [(0, some ⟨false, [.rows Zaa list_n list], 0⟩), (1, some ⟨true, [.i sets, .i ways, .one (.slice ⟨4, 0, 0, 2⟩ (ah + (list_n - (Int.toNat (IntKind.i64.wrap (v5 + 1))))) ag)], 0⟩), (4, some ⟨true, [.rows Zaa (ah + (list_n - (Int.toNat (IntKind.i64.wrap (v5 + 1))))) (h3 ++ (List.take (list_n - (Int.toNat (IntKind.i64.wrap (v5 + 1)))) (List.drop (0 + (if list_c = (Int.toNat (IntKind.i64.wrap (v5 + 1))) then 0 else (Int.toNat (IntKind.i64.wrap (v5 + 1))))) list)))], ((ag - (ah + (list_n - (Int.toNat (IntKind.i64.wrap (v5 + 1)))))) * 2)⟩)]⟩) : EvC ZhR Zeo (ZJx v5 ah c) (ZJw list_n list sets ways list_c ah h3 x3) [] [0, 1, 4] Z := EvC.of (by kernel_rfl) h
def ZsD (sets ways : Int) (list : List (Tup Zaa)) (list_n list_c : Nat) (key v5 : Int) (ah c : Nat) (h3 : List (Tup Zaa)) (x3 : Nat) : Prop := ((0 <= (IntKind.i64.wrap (v5 + 1)))) /\ ((((IntKind.i64.wrap (v5 + 1)) <= ((list_n : Nat) : Int))) /\ (((((0 + (if list_c = (Int.toNat (IntKind.i64.wrap (v5 + 1))) then 0 else (Int.toNat (IntKind.i64.wrap (v5 + 1))))) + (list_n - (Int.toNat (IntKind.i64.wrap (v5 + 1))))) <= list_n)) /\ (((List.length list = list_n)) /\ (((List.length h3 = ah)) /\ (((((ah * 2) + x3) = (c * 2))) /\ ((((ah + (list_n - (Int.toNat (IntKind.i64.wrap (v5 + 1))))) <= 1000000000)) /\ (∀ (ag : Nat), ((ah + (list_n - (Int.toNat (IntKind.i64.wrap (v5 + 1))))) <= ag) -> (∀ ae : Nat, ae = (ah + (list_n - (Int.toNat (IntKind.i64.wrap (v5 + 1))))) -> ∀ h4 : List (Tup Zaa), h4 = (h3 ++ (List.take (list_n - (Int.toNat (IntKind.i64.wrap (v5 + 1)))) (List.drop (0 + (if list_c = (Int.toNat (IntKind.i64.wrap (v5 + 1))) then 0 else (Int.toNat (IntKind.i64.wrap (v5 + 1))))) list))) -> ∀ x4 : Nat, x4 = ((ag - (ah + (list_n - (Int.toNat (IntKind.i64.wrap (v5 + 1)))))) * 2) -> ZsE sets ways list list_n list_c key ae ag h4 x4))))))))
theorem ZFf (sets ways : Int) (list : List (Tup Zaa)) (list_n list_c : Nat) (key : Int) (hK : Zec sets ways list list_n list_c key Kf) (v5 : Int) (ah c : Nat) (h3 : List (Tup Zaa)) (x3 : Nat) (h : ZsD sets ways list list_n list_c key v5 ah c h3 x3) : SemL Try.prog w0 fp ρi 2 32 [Zeo, (.seq ZdH .ret)] (ZJx v5 ah c) (ZJw list_n list sets ways list_c ah h3 x3) (fnK ZdA 2 Kf) :=
  Zak ZfU (ZCq sets ways list list_n list_c key v5 ah c h3 x3 _ ⟨h.1, ⟨h.2.1, ⟨h.2.2.1, ⟨h.2.2.2.1, ⟨rfl, ⟨h.2.2.2.2.1, ⟨h.2.2.2.2.2.1, ⟨h.2.2.2.2.2.2.1, (fun ag h_c_1_0 => (Zan (ZFg sets ways list list_n list_c key hK (ah + (list_n - (Int.toNat (IntKind.i64.wrap (v5 + 1))))) ag (h3 ++ (List.take (list_n - (Int.toNat (IntKind.i64.wrap (v5 + 1)))) (List.drop (0 + (if list_c = (Int.toNat (IntKind.i64.wrap (v5 + 1))) then 0 else (Int.toNat (IntKind.i64.wrap (v5 + 1))))) list))) ((ag - (ah + (list_n - (Int.toNat (IntKind.i64.wrap (v5 + 1)))))) * 2) ((((h.2.2.2.2.2.2.2 ag h_c_1_0) (ah + (list_n - (Int.toNat (IntKind.i64.wrap (v5 + 1))))) rfl) (h3 ++ (List.take (list_n - (Int.toNat (IntKind.i64.wrap (v5 + 1)))) (List.drop (0 + (if list_c = (Int.toNat (IntKind.i64.wrap (v5 + 1))) then 0 else (Int.toNat (IntKind.i64.wrap (v5 + 1))))) list))) rfl) ((ag - (ah + (list_n - (Int.toNat (IntKind.i64.wrap (v5 + 1)))))) * 2) rfl))))⟩⟩⟩⟩⟩⟩⟩⟩)
abbrev ZHZ (x0 : Int) : Env := [(0, some (.ptr ⟨1, 0, 0, 1⟩ 3)), (5, some (.int .i64 x0))]
theorem ZCp (sets ways : Int) (list : List (Tup Zaa)) (list_n list_c : Nat) (key v5 : Int) (Z : Env -> Heap -> Prop) (h : ((0 <= v5)) /\ ((v5 <= ((list_c : Nat) : Int))) /\ (((0 + ((Int.toNat v5) - 0)) <= list_n)) /\ ((List.length list = list_n)) /\ (((0 : Nat) = 0)) /\ ((List.length ([] : List (Tup Zaa)) = 0)) /\ (((0 : Nat) = 0)) /\ (((0 + ((Int.toNat v5) - 0)) <= 1000000000)) /\ ∀ (c : Nat), (0 + ((Int.toNat v5) - 0)) <= c -> Z [(0, some (.ptr ⟨1, 0, 0, 1⟩ 3)), (5, some (.int .i64 v5)), (6, some (.slice ⟨3, 0, 0, 2⟩ (0 + ((Int.toNat v5) - 0)) c))] ⟨4, [(0, some ⟨false, [.rows Zaa list_n list], 0⟩), (1, some ⟨true, [.i sets, .i ways, .one (.slice ⟨0, 0, 0, 2⟩ list_n list_c)], 0⟩), (3, some ⟨true, [.rows Zaa (0 + ((Int.toNat v5) - 0)) (([] : List (Tup Zaa)) ++ (List.take ((Int.toNat v5) - 0) (List.drop 0 list)))], ((c - (0 + ((Int.toNat v5) - 0))) * 2)⟩)]⟩) : EvC ZhR Ze9 (ZHZ v5) (Znn list_n list sets ways list_c) [0, 5, 6] [0, 1, 3] Z := EvC.of (by kernel_rfl) h
def ZsC (sets ways : Int) (list : List (Tup Zaa)) (list_n list_c : Nat) (key v5 : Int) : Prop := ((0 <= v5)) /\ (((v5 <= ((list_c : Nat) : Int))) /\ ((((0 + ((Int.toNat v5) - 0)) <= list_n)) /\ (((List.length list = list_n)) /\ ((((0 + ((Int.toNat v5) - 0)) <= 1000000000)) /\ (∀ (c : Nat), ((0 + ((Int.toNat v5) - 0)) <= c) -> (∀ ah : Nat, ah = (0 + ((Int.toNat v5) - 0)) -> ∀ h3 : List (Tup Zaa), h3 = (([] : List (Tup Zaa)) ++ (List.take ((Int.toNat v5) - 0) (List.drop 0 list))) -> ∀ x3 : Nat, x3 = ((c - (0 + ((Int.toNat v5) - 0))) * 2) -> ZsD sets ways list list_n list_c key v5 ah c h3 x3))))))
theorem ZFe (sets ways : Int) (list : List (Tup Zaa)) (list_n list_c : Nat) (key : Int) (hK : Zec sets ways list list_n list_c key Kf) (v5 : Int) (h : ZsC sets ways list list_n list_c key v5) : SemL Try.prog w0 fp ρi 2 32 [Ze9, (.seq Zeo (.seq ZdH .ret))] (ZHZ v5) (Znn list_n list sets ways list_c) (fnK ZdA 2 Kf) :=
  Zak ZfU (ZCp sets ways list list_n list_c key v5 _ ⟨h.1, ⟨h.2.1, ⟨h.2.2.1, ⟨h.2.2.2.1, ⟨rfl, ⟨rfl, ⟨rfl, ⟨h.2.2.2.2.1, (fun c h_c_0 => (Zan (ZFf sets ways list list_n list_c key hK v5 (0 + ((Int.toNat v5) - 0)) c (([] : List (Tup Zaa)) ++ (List.take ((Int.toNat v5) - 0) (List.drop 0 list))) ((c - (0 + ((Int.toNat v5) - 0))) * 2) ((((h.2.2.2.2.2 c h_c_0) (0 + ((Int.toNat v5) - 0)) rfl) (([] : List (Tup Zaa)) ++ (List.take ((Int.toNat v5) - 0) (List.drop 0 list))) rfl) ((c - (0 + ((Int.toNat v5) - 0))) * 2) rfl))))⟩⟩⟩⟩⟩⟩⟩⟩)
def Zp3 (sets ways : Int) (list : List (Tup Zaa)) (list_n list_c : Nat) (key v5 : Int) : Prop := ((decide (v5 < 0)) = true -> (ZsF sets ways list list_n list_c key)) /\ ((decide (v5 < 0)) = false -> (ZsC sets ways list list_n list_c key v5))
abbrev ZJv (x0 : Int) : Env := [(0, some (.ptr ⟨1, 0, 0, 1⟩ 3)), (5, some (.int .i64 x0)), (11, some (.bool (decide (x0 < 0))))]
theorem ZFd (sets ways : Int) (list : List (Tup Zaa)) (list_n list_c : Nat) (key : Int) (hK : Zec sets ways list list_n list_c key Kf) (v5 : Int) (h : Zp3 sets ways list list_n list_c key v5) : SemL Try.prog w0 fp ρi 2 32 [Zi9, (.seq Ze9 (.seq Zeo (.seq ZdH .ret)))] (ZJv v5) (Znn list_n list sets ways list_c) (fnK ZdA 2 Kf) :=
  Za0 (q := (decide (v5 < 0))) (by kernel_rfl) (fun hq => (Zan (lpk [] [0, 1] (ZFh sets ways list list_n list_c key hK (h.1 hq))))) (fun hq => (Zbb (lpk [0, 5] [0, 1] (Zan (ZFe sets ways list list_n list_c key hK v5 (h.2 hq))))))
theorem ZCo (sets ways : Int) (list : List (Tup Zaa)) (list_n list_c : Nat) (key v5 : Int) (Z : Env -> Heap -> Prop) (h : Z (ZJv v5) (Znn list_n list sets ways list_c)) : EvC ZhR Zja (ZHZ v5) (Znn list_n list sets ways list_c) [0, 5, 11] [0, 1] Z := EvC.of (by kernel_rfl) h
theorem ZFc (sets ways : Int) (list : List (Tup Zaa)) (list_n list_c : Nat) (key : Int) (hK : Zec sets ways list list_n list_c key Kf) (v5 : Int) (h : Zp3 sets ways list list_n list_c key v5) : SemL Try.prog w0 fp ρi 2 32 [Zja, Zi9, (.seq Ze9 (.seq Zeo (.seq ZdH .ret)))] (ZHZ v5) (Znn list_n list sets ways list_c) (fnK ZdA 2 Kf) :=
  Zak ZfU (ZCo sets ways list list_n list_c key v5 _ (ZFd sets ways list list_n list_c key hK v5 h))
theorem ZCn (sets ways : Int) (list : List (Tup Zaa)) (list_n list_c : Nat) (key : Int) (Z : Env -> Heap -> Prop) (h : (((list_n : Nat) <= list_n)) /\ (((list_n : Nat) = list_n) /\ (List.length (List.take list_n list) = list_n /\ list_n <= list_c /\ list_n <= 100000 /\ I64 key /\ 1 <= sets /\ sets <= 64 /\ 1 <= ways /\ ways <= 64 /\ (∀ x ∈ (List.take list_n list), 0 <= x.1))) /\ Z [(0, some (.ptr ⟨1, 0, 0, 1⟩ 3)), (5, some (.int .i64 (idxK key (List.take list_n list))))] (Znn list_n list sets ways list_c)) : EvC ZhR Zlv (ZhO key) (Znn list_n list sets ways list_c) [0, 5] [0, 1] Z := EvC.of (by kernel_rfl) h
def Zms (sets ways : Int) (list : List (Tup Zaa)) (list_n list_c : Nat) (key : Int) : Prop := ((List.length (List.take list_n list) = list_n /\ list_n <= list_c /\ list_n <= 100000 /\ I64 key /\ 1 <= sets /\ sets <= 64 /\ 1 <= ways /\ ways <= 64 /\ (∀ x ∈ (List.take list_n list), 0 <= x.1))) /\ (∀ v5 : Int, v5 = (idxK key (List.take list_n list)) -> Zp3 sets ways list list_n list_c key v5)
theorem ZFb (sets ways : Int) (list : List (Tup Zaa)) (list_n list_c : Nat) (key : Int) (hK : Zec sets ways list list_n list_c key Kf) (h : Zms sets ways list list_n list_c key) : SemL Try.prog w0 fp ρi 2 32 [Zlv, (.seq (.seq Zja Zi9) (.seq Ze9 (.seq Zeo (.seq ZdH .ret))))] (ZhO key) (Znn list_n list sets ways list_c) (fnK ZdA 2 Kf) :=
  Zak ZfU (ZCn sets ways list list_n list_c key _ ⟨(Nat.le_refl _), ⟨⟨rfl, h.1⟩, (Zan (Zan (ZFc sets ways list list_n list_c key hK (idxK key (List.take list_n list)) (h.2 (idxK key (List.take list_n list)) rfl))))⟩⟩)
theorem ZCm (sets ways : Int) (list : List (Tup Zaa)) (list_n list_c : Nat) (key : Int) (Z : Env -> Heap -> Prop) (h : Z (ZhO key) (Znn list_n list sets ways list_c)) : EvC ZhR ZoN (ZhO key) (Znn list_n list sets ways list_c) [0, 1] [0, 1] Z := EvC.of (by kernel_rfl) h
theorem ZFa (sets ways : Int) (list : List (Tup Zaa)) (list_n list_c : Nat) (key : Int) (hK : Zec sets ways list list_n list_c key Kf) (h : Zms sets ways list list_n list_c key) : SemL Try.prog w0 fp ρi 2 32 [ZoN, (.seq Zlv (.seq (.seq Zja Zi9) (.seq Ze9 (.seq Zeo (.seq ZdH .ret)))))] (ZhO key) (Znn list_n list sets ways list_c) (fnK ZdA 2 Kf) :=
  Zak ZfU (ZCm sets ways list list_n list_c key _ (Zan (ZFb sets ways list list_n list_c key hK h)))
theorem ZBb (sets ways : Int) (list : List (Tup Zaa)) (list_n list_c : Nat) (key : Int) (hK : Zec sets ways list list_n list_c key Kf) (h : Zms sets ways list list_n list_c key) : SemL Try.prog w0 fp ρi 2 32 [ZwK] (ZhO key) (Znn list_n list sets ways list_c) (fnK ZdA 2 Kf) :=
  (Zan (ZFa sets ways list list_n list_c key hK h))
end
theorem ZAh (sets ways : Int) (list : List (Tup Zaa)) (list_n list_c : Nat) (key : Int) (hpre : (List.length list = list_n /\ list_n <= list_c /\ list_n <= 100000 /\ I64 key /\ 1 <= sets /\ sets <= 64 /\ 1 <= ways /\ ways <= 64 /\ (∀ x ∈ list, 0 <= x.1))) : Zms sets ways list list_n list_c key := by
  unfold Zms Zp3 ZsC ZsD ZsE ZsF
  have hpre0 := hpre
  obtain ⟨hl, hc, hn, hk, hs1, hs2, hw1, hw2, hx⟩ := hpre
  rw [List.take_of_length_le (Nat.le_of_eq hl)]
  refine ⟨hpre0, ?_⟩
  have hi := @idxK_lt key list
  rintro _ rfl
  refine ⟨fun h => h, fun h => ?_⟩
  have h0 := of_decide_eq_false h
  have e1 : IntKind.i64.wrap (idxK key list + 1) = idxK key list + 1 := by rw [Zrj]; omega
  rw [e1]
  refine ⟨by omega, by omega, by omega, hl, by omega, fun c hcc => ?_⟩
  rintro _ rfl _ rfl _ rfl
  refine ⟨by omega, by omega, by split <;> omega, hl, by simp; omega, by omega, by omega, fun c' hcc' => ?_⟩
  rintro _ rfl _ rfl _ rfl
  exact ⟨h, by omega, by omega, ZHh hl (by omega) (by omega) hc, by omega, by omega⟩
theorem Ztr : Sound Try.prog 39 (gS Zvo) := by
  refine ZaQ Zpx ?_
  intro args H K h
  obtain ⟨pre, out, hD, hpre, hK⟩ := ZbK h
  unfold Zvo at hD
  split at hD
  · cases hD
    obtain ⟨rfl, hpre⟩ := hpre
    exact ⟨rfl, fun w0 fp ρi => ZBb _ _ _ _ _ _ hK (ZAh _ _ _ _ _ _ hpre)⟩
  · cases hD
def ZAL : Zcw := fun args H => match args, H with
  | [.ptr ⟨1, 0, 0, 1⟩ 3, .int .i64 key], ⟨2, [(0, some ⟨false, [.rows [.int .i64, .int .i64] list_m list], 0⟩), (1, some ⟨false, [.one (.int .i64 sets), .one (.int .i64 ways), .one (.slice ⟨0, 0, 0, 2⟩ list_n list_c)], 0⟩)]⟩ => some (list_m = list_n /\ (List.length list = list_n /\ list_n <= list_c /\ list_n <= 100000 /\ I64 key /\ 1 <= sets /\ sets <= 64 /\ 1 <= ways /\ ways <= 64 /\ (∀ x ∈ list, 0 <= x.1)), fun K => ∀ cap0 : Nat, (List.length (Zax sets key list)) <= cap0 -> K (.slice ⟨2, 0, 0, 1⟩ (List.length (Zax sets key list)) cap0) ⟨3, [(2, some ⟨true, [.ints .i64 (List.length (Zax sets key list)) (Zax sets key list)], (cap0 - (List.length (Zax sets key list)))⟩), (0, some ⟨false, [.rows Zaa list_n list], 0⟩), (1, some ⟨false, [.i sets, .i ways, .one (.slice ⟨0, 0, 0, 2⟩ list_n list_c)], 0⟩)]⟩)
  | _, _ => none
def Zu5 : Con := ⟨42, gS ZAL, [], [], []⟩
def Zdq (sets ways : Int) (list : List (Tup Zaa)) (list_n list_c : Nat) (key : Int) (Kf : SVal -> Heap -> Prop) : Prop := ∀ cap0 : Nat, (List.length (Zax sets key list)) <= cap0 -> Kf (.slice ⟨2, 0, 0, 1⟩ (List.length (Zax sets key list)) cap0) ⟨3, [(2, some ⟨true, [.ints .i64 (List.length (Zax sets key list)) (Zax sets key list)], (cap0 - (List.length (Zax sets key list)))⟩), (0, some ⟨false, [.rows Zaa list_n list], 0⟩), (1, some ⟨false, [.i sets, .i ways, .one (.slice ⟨0, 0, 0, 2⟩ list_n list_c)], 0⟩)]⟩
def ZoD : ACode := .reg (.op (some 4) (.mov (.cn (.nilslice))) .nil)
def Zlr : ACode := .reg (.op (some 7) (.bslice .i64 0 []) (.op (some 5) (.mov (.tm 7)) .nil))
def Zi6 : ACode := .reg (.op (some 6) (.mov (.cn (.int .i64 0))) .nil)
def ZoC : ACode := .reg (.op (some 8) (.mov (.tm 6)) (.op (some 9) (.mov (.tm 0)) (.op (some 10) (.nilCheck (.tm 9)) (.op (some 11) (.fieldAddr (.tm 10) 2 1) (.op (some 12) (.load1 (.tm 11)) (.op (some 13) (.len (.tm 12)) (.op (some 14) (.bin .lss (.tm 8) (.tm 13)) (.op (some 15) (.mov (.tm 14)) (.grpJ 15 true (.op (some 16) (.mov (.tm 1)) (.op (some 17) (.bin .geq (.tm 16) (.cn (.int .i64 0))) .nil)) 18 (.tm 17) (.cn (.bool false)) .nil)))))))))
def ZoB : ACode := .cond (.tm 18) .skip (.exit 0)
def Zlq : Items := .op (some 21) (.mov (.tm 0)) (.op (some 22) (.nilCheck (.tm 21)) (.op (some 23) (.fieldAddr (.tm 22) 2 1) (.op (some 24) (.load1 (.tm 23)) (.op (some 25) (.mov (.tm 6)) (.op (some 26) (.idxS (.tm 24) (.tm 25) 2) (.op (some 27) (.fieldAddr (.tm 26) 0 1) (.op (some 28) (.load1 (.tm 27)) (.op (some 29) (.mov (.tm 0)) (.op (some 30) (.nilCheck (.tm 29)) (.op (some 31) (.fieldAddr (.tm 30) 0 1) (.op (some 32) (.load1 (.tm 31)) (.op (some 33) (.bin .rem (.tm 28) (.tm 32)) (.op (some 34) (.mov (.tm 1)) (.op (some 35) (.mov (.tm 0)) (.op (some 36) (.nilCheck (.tm 35)) (.op (some 37) (.fieldAddr (.tm 36) 0 1) (.op (some 38) (.load1 (.tm 37)) (.op (some 39) (.bin .rem (.tm 34) (.tm 38)) (.op (some 40) (.bin .eql (.tm 33) (.tm 39)) .nil)))))))))))))))))))
def ZuU : ACode := .regQ Zlq
def ZoA : ACode := .reg (.op (some 41) (.mov (.tm 5)) (.op (some 42) (.mov (.tm 0)) (.op (some 43) (.nilCheck (.tm 42)) (.op (some 44) (.fieldAddr (.tm 43) 2 1) (.op (some 45) (.load1 (.tm 44)) (.op (some 46) (.mov (.tm 6)) (.op (some 47) (.idxS (.tm 45) (.tm 46) 2) (.op (some 48) (.fieldAddr (.tm 47) 0 1) (.op (some 49) (.load1 (.tm 48)) (.op (some 50) (.bslice .i64 1 [(0, (.tm 49))]) (.op (some 51) (.append .i64 (.tm 41) (.tm 50)) (.op (some 5) (.mov (.tm 51)) .nil))))))))))))
def Zoz : ACode := .cond (.tm 40) ZoA .skip
def Zlp : ACode := .block 1 (.seq ZuU Zoz)
def ZfZ : ACode := .reg (.op (some 19) (.mov (.tm 6)) (.op (some 20) (.bin .add (.tm 19) (.cn (.int .i64 1))) (.op (some 6) (.mov (.tm 20)) .nil)))
def ZqT : ACode := .loop (.seq (.seq ZoC ZoB) (.seq Zlp ZfZ))
def ZgG : ACode := .block 0 ZqT
def Zdx : ACode := .reg (.op (some 52) (.mov (.tm 5)) (.op (some 4) (.mov (.tm 52)) .nil))
def ZHj : ACode := (.seq ZoD (.seq Zlr (.seq (.seq Zi6 ZgG) (.seq Zdx .ret))))
def Zjv : Res := .one (.tm 4)
theorem ZrK : Zbr Try.prog 42 2 53 ZHj Zjv = true := by kernel_rfl
def Zmj : ZaE := Zci [] []
theorem ZhJ : ZaT Try.prog Zmj := ZaZ trivial trivial
section
variable {w0 : World} {fp : Nat -> Nat -> Prop} {ρi : Rho} {Kf : SVal -> Heap -> Prop}
def Zul (w0 : World) (fp : Nat -> Nat -> Prop) (ρi : Rho) (Kf : SVal -> Heap -> Prop) (sets ways : Int) (list : List (Tup Zaa)) (list_n list_c : Nat) (key : Int) : ZcJ := ZbH 0 (fun e H => SemL Try.prog w0 fp ρi 2 53 [(.seq Zdx .ret)] e H (fnK Zjv 2 Kf)) (fnK Zjv 2 Kf)
def Zux (sets ways : Int) (list : List (Tup Zaa)) (list_n list_c : Nat) (key : Int) : Nat × Nat × Int × Nat × List Int × Nat -> Prop := fun s => match s with | (aa, ab, v6, ac, h2, x2) => ∃ i : Nat, v6 = i /\ i <= list_n /\ ac = aa /\ List.length h2 = aa /\ aa + x2 = ab /\ aa <= i /\ h2 = Zax sets key (List.take i list)
def ZtP (sets ways : Int) (list : List (Tup Zaa)) (list_n list_c : Nat) (key : Int) : Nat × Nat × Int × Nat × List Int × Nat -> Nat := fun s => match s with | (aa, ab, v6, ac, h2, x2) => (((list_n : Int) - v6).toNat)
def Zua (sets ways : Int) (list : List (Tup Zaa)) (list_n list_c : Nat) (key : Int) : Nat × Nat × Int × Nat × List Int × Nat -> Env := fun s => match s with | (aa, ab, v6, ac, h2, x2) => [(0, some (.ptr ⟨1, 0, 0, 1⟩ 3)), (1, some (.int .i64 key)), (5, some (.slice ⟨2, 0, 0, 1⟩ aa ab)), (6, some (.int .i64 v6))]
def Zt0 (sets ways : Int) (list : List (Tup Zaa)) (list_n list_c : Nat) (key : Int) : Nat × Nat × Int × Nat × List Int × Nat -> Heap := fun s => match s with | (aa, ab, v6, ac, h2, x2) => ⟨3, [(0, some ⟨false, [.rows Zaa list_n list], 0⟩), (1, some ⟨false, [.i sets, .i ways, .one (.slice ⟨0, 0, 0, 2⟩ list_n list_c)], 0⟩), (2, some ⟨true, [.ints .i64 ac h2], x2⟩)]⟩
def Zg0 (w0 : World) (fp : Nat -> Nat -> Prop) (ρi : Rho) (Kf : SVal -> Heap -> Prop) (sets ways : Int) (list : List (Tup Zaa)) (list_n list_c : Nat) (key : Int) (aa ab : Nat) (v6 : Int) (ac : Nat) (h2 : List Int) (x2 : Nat) : ZcJ := ZhT 2 (Zux sets ways list list_n list_c key) (ZtP sets ways list list_n list_c key) (Zua sets ways list list_n list_c key) (Zt0 sets ways list list_n list_c key) (aa, ab, v6, ac, h2, x2) (Zul w0 fp ρi Kf sets ways list list_n list_c key)
abbrev ZjC (x0 : Nat) (x1 : List (Tup Zaa)) (x2 x3 : Int) (x4 x5 : Nat) (x6 : List Int) (x7 : Nat) : Heap := ⟨3, [(0, some ⟨false, [.rows Zaa x0 x1], 0⟩), (1, some ⟨false, [.i x2, .i x3, .one (.slice ⟨0, 0, 0, 2⟩ x0 x4)], 0⟩), (2, some ⟨true, [.ints .i64 x5 x6], x7⟩)]⟩
abbrev Zwm (x0 : Int) (x1 x2 : Nat) (x3 : Int) : Env := [(0, some (.ptr ⟨1, 0, 0, 1⟩ 3)), (1, some (.int .i64 x0)), (5, some (.slice ⟨2, 0, 0, 1⟩ x1 x2)), (6, some (.int .i64 x3))]
theorem ZB7 (sets ways : Int) (list : List (Tup Zaa)) (list_n list_c : Nat) (key : Int) (ad ai : Nat) (v6 : Int) (af : Nat) (aj : List Int) (ak aa ab ac : Nat) (h2 : List Int) (x2 : Nat) (Z : Env -> Heap -> Prop) (h : Z [(0, some (.ptr ⟨1, 0, 0, 1⟩ 3)), (1, some (.int .i64 key)), (5, some (.slice ⟨2, 0, 0, 1⟩ ad ai)), (6, some (.int .i64 (IntKind.i64.wrap (v6 + 1))))] (ZjC list_n list sets ways list_c af aj ak)) : EvC Zmj ZfZ (Zwm key ad ai v6) (ZjC list_n list sets ways list_c af aj ak) [0, 1, 5, 6] [0, 1, 2] Z := EvC.of (by kernel_rfl) h
def ZpY (sets ways : Int) (list : List (Tup Zaa)) (list_n list_c : Nat) (key : Int) (ad ai : Nat) (v6 : Int) (af : Nat) (aj : List Int) (ak aa ab ac : Nat) (h2 : List Int) (x2 : Nat) : Prop := (∃ i : Nat, (IntKind.i64.wrap (v6 + 1)) = i /\ i <= list_n /\ af = ad /\ List.length aj = ad /\ ad + ak = ai /\ ad <= i /\ aj = Zax sets key (List.take i list)) /\ ((((list_n : Int) - (IntKind.i64.wrap (v6 + 1))).toNat) < (((list_n : Int) - v6).toNat))
theorem Zwx (sets ways : Int) (list : List (Tup Zaa)) (list_n list_c : Nat) (key : Int) (hK : Zdq sets ways list list_n list_c key Kf) (ad ai : Nat) (v6 : Int) (af : Nat) (aj : List Int) (ak aa ab ac : Nat) (h2 : List Int) (x2 : Nat) (h : ZpY sets ways list list_n list_c key ad ai v6 af aj ak aa ab ac h2 x2) : SemL Try.prog w0 fp ρi 2 53 [ZfZ] (Zwm key ad ai v6) (ZjC list_n list sets ways list_c af aj ak) (Zg0 w0 fp ρi Kf sets ways list list_n list_c key aa ab v6 ac h2 x2) :=
  Zak ZhJ (ZB7 sets ways list list_n list_c key ad ai v6 af aj ak aa ab ac h2 x2 _ (Zch (ZbV (x' := (ad, ai, (IntKind.i64.wrap (v6 + 1)), af, aj, ak)) (τ := tau []) h.1 h.2 (ZaR [] [0, 1, 2] rfl rfl (esc bpt (esc pbd (esc bsl (esc pbd ZaB)))) (hsc pcs (hsc (Zac pbd (Zac pbd (Zac bsl Zap))) (hsc pcs Zag))) (by kernel_rfl) rfl))))
def ZnS (w0 : World) (fp : Nat -> Nat -> Prop) (ρi : Rho) (Kf : SVal -> Heap -> Prop) (sets ways : Int) (list : List (Tup Zaa)) (list_n list_c : Nat) (key : Int) (aa ab : Nat) (v6 : Int) (ac : Nat) (h2 : List Int) (x2 : Nat) : ZcJ := ZbH 1 (fun e H => SemL Try.prog w0 fp ρi 2 53 [ZfZ] e H (Zg0 w0 fp ρi Kf sets ways list list_n list_c key aa ab v6 ac h2 x2)) (Zg0 w0 fp ρi Kf sets ways list list_n list_c key aa ab v6 ac h2 x2)
theorem ZB6 (sets ways : Int) (list : List (Tup Zaa)) (list_n list_c : Nat) (key : Int) (aa ab : Nat) (v6 : Int) (ac : Nat) (h2 : List Int) (x2 : Nat) (Z : Env -> Heap -> Prop) (h : ((0 <= v6)) /\ ((v6 < ((list_n : Nat) : Int))) /\ (((0 + (Int.toNat v6)) < list_n)) /\ (((1 : Nat) <= 1)) /\ ((ac = aa)) /\ ((List.length h2 = aa)) /\ (((aa + x2) = ab)) /\ (((aa + 1) <= 17592186044416)) /\ ∀ (c : Nat), (aa + 1) <= c -> Z [(0, some (.ptr ⟨1, 0, 0, 1⟩ 3)), (1, some (.int .i64 key)), (5, some (.slice ⟨4, 0, 0, 1⟩ (aa + 1) c)), (6, some (.int .i64 v6))] ⟨5, [(0, some ⟨false, [.rows Zaa list_n list], 0⟩), (1, some ⟨false, [.i sets, .i ways, .one (.slice ⟨0, 0, 0, 2⟩ list_n list_c)], 0⟩), (4, some ⟨true, [.ints .i64 (aa + 1) (h2 ++ (List.take 1 [(List.getD list (0 + (Int.toNat v6)) (Tup.dflt Zaa)).1]))], (c - (aa + 1))⟩)]⟩) : EvC Zmj ZoA (Zwm key aa ab v6) (ZjC list_n list sets ways list_c ac h2 x2) [0, 1, 5, 6] [0, 1, 4] Z := EvC.of (by kernel_rfl) h
def Zsq (sets ways : Int) (list : List (Tup Zaa)) (list_n list_c : Nat) (key : Int) (aa ab : Nat) (v6 : Int) (ac : Nat) (h2 : List Int) (x2 : Nat) : Prop := ((0 <= v6)) /\ (((v6 < ((list_n : Nat) : Int))) /\ ((((0 + (Int.toNat v6)) < list_n)) /\ (((ac = aa)) /\ (((List.length h2 = aa)) /\ ((((aa + x2) = ab)) /\ ((((aa + 1) <= 17592186044416)) /\ (∀ (c : Nat), ((aa + 1) <= c) -> (∀ ad : Nat, ad = (aa + 1) -> ∀ af : Nat, af = (aa + 1) -> ∀ aj : List Int, aj = (h2 ++ (List.take 1 [(List.getD list (0 + (Int.toNat v6)) (Tup.dflt Zaa)).1])) -> ∀ ak : Nat, ak = (c - (aa + 1)) -> ZpY sets ways list list_n list_c key ad c v6 af aj ak aa ab ac h2 x2))))))))
theorem ZEP (sets ways : Int) (list : List (Tup Zaa)) (list_n list_c : Nat) (key : Int) (hK : Zdq sets ways list list_n list_c key Kf) (aa ab : Nat) (v6 : Int) (ac : Nat) (h2 : List Int) (x2 : Nat) (h : Zsq sets ways list list_n list_c key aa ab v6 ac h2 x2) : SemL Try.prog w0 fp ρi 2 53 [ZoA] (Zwm key aa ab v6) (ZjC list_n list sets ways list_c ac h2 x2) (ZnS w0 fp ρi Kf sets ways list list_n list_c key aa ab v6 ac h2 x2) :=
  Zak ZhJ (ZB6 sets ways list list_n list_c key aa ab v6 ac h2 x2 _ ⟨h.1, ⟨h.2.1, ⟨h.2.2.1, ⟨(by decide), ⟨h.2.2.2.1, ⟨h.2.2.2.2.1, ⟨h.2.2.2.2.2.1, ⟨h.2.2.2.2.2.2.1, (fun c h_c_0 => (Zch (SemL.sub (τ := tau [(2, 4)]) (e' := [(0, some (.ptr ⟨1, 0, 0, 1⟩ 3)), (1, some (.int .i64 key)), (5, some (.slice ⟨2, 0, 0, 1⟩ (aa + 1) c)), (6, some (.int .i64 v6))]) (H' := ⟨3, [(0, some ⟨false, [.rows Zaa list_n list], 0⟩), (1, some ⟨false, [.i sets, .i ways, .one (.slice ⟨0, 0, 0, 2⟩ list_n list_c)], 0⟩), (2, some ⟨true, [.ints .i64 (aa + 1) (h2 ++ (List.take 1 [(List.getD list (0 + (Int.toNat v6)) (Tup.dflt Zaa)).1]))], (c - (aa + 1))⟩)]⟩) (ZaR [(2, 4)] [0, 1, 2] rfl rfl (esc bpt (esc pbd (esc bsl (esc pbd ZaB)))) (hsc pcs (hsc (Zac pbd (Zac pbd (Zac bsl Zap))) (hsc pcs Zag))) (by kernel_rfl) rfl) (Zwx sets ways list list_n list_c key hK (aa + 1) c v6 (aa + 1) (h2 ++ (List.take 1 [(List.getD list (0 + (Int.toNat v6)) (Tup.dflt Zaa)).1])) (c - (aa + 1)) aa ab ac h2 x2 (((((h.2.2.2.2.2.2.2 c h_c_0) (aa + 1) rfl) (aa + 1) rfl) (h2 ++ (List.take 1 [(List.getD list (0 + (Int.toNat v6)) (Tup.dflt Zaa)).1])) rfl) (c - (aa + 1)) rfl)))))⟩⟩⟩⟩⟩⟩⟩⟩)
def Zsp (sets ways : Int) (list : List (Tup Zaa)) (list_n list_c : Nat) (key : Int) (aa ab : Nat) (v6 : Int) (ac : Nat) (h2 : List Int) (x2 : Nat) : Prop := (((Int.tmod (List.getD list (0 + (Int.toNat v6)) (Tup.dflt Zaa)).1 sets) == (Int.tmod key sets)) = true -> (Zsq sets ways list list_n list_c key aa ab v6 ac h2 x2)) /\ (((Int.tmod (List.getD list (0 + (Int.toNat v6)) (Tup.dflt Zaa)).1 sets) == (Int.tmod key sets)) = false -> (ZpY sets ways list list_n list_c key aa ab v6 ac h2 x2 aa ab ac h2 x2))
abbrev ZJu (x0 : Int) (x1 x2 : Nat) (x3 : Int) (x4 : List (Tup Zaa)) (x5 : Int) : Env := [(0, some (.ptr ⟨1, 0, 0, 1⟩ 3)), (1, some (.int .i64 x0)), (5, some (.slice ⟨2, 0, 0, 1⟩ x1 x2)), (6, some (.int .i64 x3)), (40, some (.bool ((Int.tmod (List.getD x4 (0 + (Int.toNat x3)) (Tup.dflt Zaa)).1 x5) == (Int.tmod x0 x5))))]
theorem ZEO (sets ways : Int) (list : List (Tup Zaa)) (list_n list_c : Nat) (key : Int) (hK : Zdq sets ways list list_n list_c key Kf) (aa ab : Nat) (v6 : Int) (ac : Nat) (h2 : List Int) (x2 : Nat) (h : Zsp sets ways list list_n list_c key aa ab v6 ac h2 x2) : SemL Try.prog w0 fp ρi 2 53 [Zoz] (ZJu key aa ab v6 list sets) (ZjC list_n list sets ways list_c ac h2 x2) (ZnS w0 fp ρi Kf sets ways list list_n list_c key aa ab v6 ac h2 x2) :=
  Za0 (q := ((Int.tmod (List.getD list (0 + (Int.toNat v6)) (Tup.dflt Zaa)).1 sets) == (Int.tmod key sets))) (by kernel_rfl) (fun hq => (lpk [0, 1, 5, 6] [0, 1, 2] (ZEP sets ways list list_n list_c key hK aa ab v6 ac h2 x2 (h.1 hq)))) (fun hq => (Zbb (Zch (P := Try.prog) (w0 := w0) (fp := fp) (ρi := ρi) (n0 := 2) (nt := 53) (lpk [0, 1, 5, 6] [0, 1, 2] (Zwx sets ways list list_n list_c key hK aa ab v6 ac h2 x2 aa ab ac h2 x2 (h.2 hq))))))
theorem ZB5 (sets ways : Int) (list : List (Tup Zaa)) (list_n list_c : Nat) (key : Int) (aa ab : Nat) (v6 : Int) (ac : Nat) (h2 : List Int) (x2 : Nat) (Z : Env -> Heap -> Prop) (h : ((0 <= v6)) /\ ((v6 < ((list_n : Nat) : Int))) /\ (((0 + (Int.toNat v6)) < list_n)) /\ ((sets ≠ 0)) /\ ((sets ≠ 0)) /\ Z (ZJu key aa ab v6 list sets) (ZjC list_n list sets ways list_c ac h2 x2)) : EvQC Zmj Zlq [] (Zwm key aa ab v6) (ZjC list_n list sets ways list_c ac h2 x2) [0, 1, 5, 6, 40] [0, 1, 2] Z := EvQC.of (by kernel_rfl) h
def ZpX (sets ways : Int) (list : List (Tup Zaa)) (list_n list_c : Nat) (key : Int) (aa ab : Nat) (v6 : Int) (ac : Nat) (h2 : List Int) (x2 : Nat) : Prop := ((0 <= v6)) /\ (((v6 < ((list_n : Nat) : Int))) /\ ((((0 + (Int.toNat v6)) < list_n)) /\ (((sets ≠ 0)) /\ (((sets ≠ 0)) /\ (Zsp sets ways list list_n list_c key aa ab v6 ac h2 x2)))))
theorem ZEN (sets ways : Int) (list : List (Tup Zaa)) (list_n list_c : Nat) (key : Int) (hK : Zdq sets ways list list_n list_c key Kf) (aa ab : Nat) (v6 : Int) (ac : Nat) (h2 : List Int) (x2 : Nat) (h : ZpX sets ways list list_n list_c key aa ab v6 ac h2 x2) : SemL Try.prog w0 fp ρi 2 53 [ZuU, Zoz] (Zwm key aa ab v6) (ZjC list_n list sets ways list_c ac h2 x2) (ZnS w0 fp ρi Kf sets ways list list_n list_c key aa ab v6 ac h2 x2) :=
  Zgc ZhJ (its := Zlq) (ZB5 sets ways list list_n list_c key aa ab v6 ac h2 x2 _ ⟨h.1, ⟨h.2.1, ⟨h.2.2.1, ⟨h.2.2.2.1, ⟨h.2.2.2.2.1, (ZEO sets ways list list_n list_c key hK aa ab v6 ac h2 x2 h.2.2.2.2.2)⟩⟩⟩⟩⟩)
theorem ZEM (sets ways : Int) (list : List (Tup Zaa)) (list_n list_c : Nat) (key : Int) (hK : Zdq sets ways list list_n list_c key Kf) (aa ab : Nat) (v6 : Int) (ac : Nat) (h2 : List Int) (x2 : Nat) (h : ZpX sets ways list list_n list_c key aa ab v6 ac h2 x2) : SemL Try.prog w0 fp ρi 2 53 [Zlp, ZfZ] (Zwm key aa ab v6) (ZjC list_n list sets ways list_c ac h2 x2) (Zg0 w0 fp ρi Kf sets ways list list_n list_c key aa ab v6 ac h2 x2) :=
  Zbi (Zan (ZEN sets ways list list_n list_c key hK aa ab v6 ac h2 x2 h))
theorem ZB4 (sets ways : Int) (list : List (Tup Zaa)) (list_n list_c : Nat) (key : Int) (aa ab ac : Nat) (h2 : List Int) (x2 : Nat) (Z : Env -> Heap -> Prop) (h : Z [(4, some (.slice ⟨2, 0, 0, 1⟩ aa ab))] (ZjC list_n list sets ways list_c ac h2 x2)) : EvC Zmj Zdx [(5, some (.slice ⟨2, 0, 0, 1⟩ aa ab))] (ZjC list_n list sets ways list_c ac h2 x2) [4] [0, 1, 2] Z := EvC.of (by kernel_rfl) h
theorem Zx8 (sets ways : Int) (list : List (Tup Zaa)) (list_n list_c : Nat) (key : Int) (aa ab ac : Nat) (h2 : List Int) (x2 : Nat) : RetC Zjv [(4, some (.slice ⟨2, 0, 0, 1⟩ aa ab))] (ZjC list_n list sets ways list_c ac h2 x2) (.slice ⟨2, 0, 0, 1⟩ aa ab) := RetC.of (fun Z => by kernel_rfl)
def Zso (sets ways : Int) (list : List (Tup Zaa)) (list_n list_c : Nat) (key : Int) (aa ab ac : Nat) (h2 : List Int) (x2 : Nat) : Prop := (aa = (List.length (Zax sets key list))) /\ (ac = (List.length (Zax sets key list))) /\ (h2 = (Zax sets key list)) /\ (x2 = (ab - (List.length (Zax sets key list)))) /\ (((List.length (Zax sets key list)) : Nat) <= ab)
theorem ZEL (sets ways : Int) (list : List (Tup Zaa)) (list_n list_c : Nat) (key : Int) (hK : Zdq sets ways list list_n list_c key Kf) (aa ab ac : Nat) (h2 : List Int) (x2 : Nat) (h : Zso sets ways list list_n list_c key aa ab ac h2 x2) : SemL Try.prog w0 fp ρi 2 53 [Zdx, .ret] [(5, some (.slice ⟨2, 0, 0, 1⟩ aa ab))] (ZjC list_n list sets ways list_c ac h2 x2) (fnK Zjv 2 Kf) :=
  Zak ZhJ (ZB4 sets ways list list_n list_c key aa ab ac h2 x2 _ (ZaL (R := Zjv) (m := 2) (Kf := Kf) (fun _ _ h => h) (Zx8 sets ways list list_n list_c key aa ab ac h2 x2) (ZaD (Eq.mpr (cg4 (fun (z1 z2 : Nat) (z3 : List Int) (z4 : Nat) => Zcn 2 Kf (.slice ⟨2, 0, 0, 1⟩ z1 ab) (ZjC list_n list sets ways list_c z2 z3 z4)) h.1 h.2.1 h.2.2.1 h.2.2.2.1) (Zay [] [2, 0, 1] rfl (by kernel_rfl) rfl bsl (hsc pcs (hsc pcs (hsc (Zac pbd (Zac pbd (Zac bsl Zap))) Zag))) rfl (by kernel_rfl) (hK ab h.2.2.2.2))))))
def ZpW (sets ways : Int) (list : List (Tup Zaa)) (list_n list_c : Nat) (key : Int) (aa ab : Nat) (v6 : Int) (ac : Nat) (h2 : List Int) (x2 : Nat) : Prop := (((decide (v6 < ((list_n : Nat) : Int))) && (decide (0 <= key))) = true -> (ZpX sets ways list list_n list_c key aa ab v6 ac h2 x2)) /\ (((decide (v6 < ((list_n : Nat) : Int))) && (decide (0 <= key))) = false -> (Zso sets ways list list_n list_c key aa ab ac h2 x2))
theorem ZEK (sets ways : Int) (list : List (Tup Zaa)) (list_n list_c : Nat) (key : Int) (hK : Zdq sets ways list list_n list_c key Kf) (aa ab : Nat) (v6 : Int) (ac : Nat) (h2 : List Int) (x2 : Nat) (h : ZpW sets ways list list_n list_c key aa ab v6 ac h2 x2) : SemL Try.prog w0 fp ρi 2 53 [ZoB, (.seq Zlp ZfZ)] [(0, some (.ptr ⟨1, 0, 0, 1⟩ 3)), (1, some (.int .i64 key)), (5, some (.slice ⟨2, 0, 0, 1⟩ aa ab)), (6, some (.int .i64 v6)), (18, some (.bool ((decide (v6 < ((list_n : Nat) : Int))) && (decide (0 <= key)))))] (ZjC list_n list sets ways list_c ac h2 x2) (Zg0 w0 fp ρi Kf sets ways list list_n list_c key aa ab v6 ac h2 x2) :=
  Za0 (q := ((decide (v6 < ((list_n : Nat) : Int))) && (decide (0 <= key)))) (by kernel_rfl) (fun hq => (Zbb (lpk [0, 1, 5, 6] [0, 1, 2] (Zan (ZEM sets ways list list_n list_c key hK aa ab v6 ac h2 x2 (h.1 hq)))))) (fun hq => (ZfK (lpk [5] [0, 1, 2] (Zan (ZEL sets ways list list_n list_c key hK aa ab ac h2 x2 (h.2 hq))))))
theorem ZB3 (sets ways : Int) (list : List (Tup Zaa)) (list_n list_c : Nat) (key : Int) (aa ab : Nat) (v6 : Int) (ac : Nat) (h2 : List Int) (x2 : Nat) (Z : Env -> Heap -> Prop) (h : ∃ qq : Bool, ((decide (v6 < ((list_n : Nat) : Int))) = true -> (Zbk (ZjC list_n list sets ways list_c ac h2 x2) (ZjC list_n list sets ways list_c ac h2 x2) [(0, some ⟨false, [.rows Zaa list_n list], 0⟩), (1, some ⟨false, [.i sets, .i ways, .one (.slice ⟨0, 0, 0, 2⟩ list_n list_c)], 0⟩), (2, some ⟨true, [.ints .i64 ac h2], x2⟩)]) /\ (decide (0 <= key)) = qq) /\ ((decide (v6 < ((list_n : Nat) : Int))) = false -> false = qq) /\ Z [(0, some (.ptr ⟨1, 0, 0, 1⟩ 3)), (1, some (.int .i64 key)), (5, some (.slice ⟨2, 0, 0, 1⟩ aa ab)), (6, some (.int .i64 v6)), (18, some (.bool qq))] (ZjC list_n list sets ways list_c ac h2 x2)) : EvC Zmj ZoC (Zwm key aa ab v6) (ZjC list_n list sets ways list_c ac h2 x2) [0, 1, 5, 6, 18] [0, 1, 2] Z := EvC.of (by kernel_rfl) h
theorem ZEJ (sets ways : Int) (list : List (Tup Zaa)) (list_n list_c : Nat) (key : Int) (hK : Zdq sets ways list list_n list_c key Kf) (aa ab : Nat) (v6 : Int) (ac : Nat) (h2 : List Int) (x2 : Nat) (h : ZpW sets ways list list_n list_c key aa ab v6 ac h2 x2) : SemL Try.prog w0 fp ρi 2 53 [ZoC, ZoB, (.seq Zlp ZfZ)] (Zwm key aa ab v6) (ZjC list_n list sets ways list_c ac h2 x2) (Zg0 w0 fp ρi Kf sets ways list list_n list_c key aa ab v6 ac h2 x2) :=
  Zak ZhJ (ZB3 sets ways list list_n list_c key aa ab v6 ac h2 x2 _ ⟨((decide (v6 < ((list_n : Nat) : Int))) && (decide (0 <= key))), fun hc_qq => ⟨(Zct _), (qa1 hc_qq)⟩, fun hc_qq => qa2 hc_qq, (ZEK sets ways list list_n list_c key hK aa ab v6 ac h2 x2 h)⟩)
def Zhn (sets ways : Int) (list : List (Tup Zaa)) (list_n list_c : Nat) (key : Int) : Prop := (∃ i : Nat, (0 : Int) = i /\ i <= list_n /\ (0 : Nat) = (0 : Nat) /\ List.length ([] : List Int) = (0 : Nat) /\ (0 : Nat) + (0 : Nat) = (0 : Nat) /\ (0 : Nat) <= i /\ ([] : List Int) = Zax sets key (List.take i list)) /\ (∀ (aa ab : Nat) (v6 : Int) (ac : Nat) (h2 : List Int) (x2 : Nat), (∃ i : Nat, v6 = i /\ i <= list_n /\ ac = aa /\ List.length h2 = aa /\ aa + x2 = ab /\ aa <= i /\ h2 = Zax sets key (List.take i list)) -> (ZpW sets ways list list_n list_c key aa ab v6 ac h2 x2))
abbrev ZIO (x0 : Int) : Env := [(0, some (.ptr ⟨1, 0, 0, 1⟩ 3)), (1, some (.int .i64 x0)), (5, some (.slice ⟨2, 0, 0, 1⟩ 0 0)), (6, some (.int .i64 0))]
abbrev ZAY (x0 : Nat) (x1 : List (Tup Zaa)) (x2 x3 : Int) (x4 : Nat) : Heap := ⟨3, [(0, some ⟨false, [.rows Zaa x0 x1], 0⟩), (1, some ⟨false, [.i x2, .i x3, .one (.slice ⟨0, 0, 0, 2⟩ x0 x4)], 0⟩), (2, some ⟨true, [.ints .i64 0 ([] : List Int)], 0⟩)]⟩
theorem ZEI (sets ways : Int) (list : List (Tup Zaa)) (list_n list_c : Nat) (key : Int) (hK : Zdq sets ways list list_n list_c key Kf) (h : Zhn sets ways list list_n list_c key) : SemL Try.prog w0 fp ρi 2 53 [ZqT] (ZIO key) (ZAY list_n list sets ways list_c) (Zul w0 fp ρi Kf sets ways list list_n list_c key) :=
  ZfJ (Zux sets ways list list_n list_c key) (ZtP sets ways list list_n list_c key) (Zua sets ways list list_n list_c key) (Zt0 sets ways list list_n list_c key) ⟨(0, 0, 0, 0, ([] : List Int), 0), tau [], h.1, (ZaR [] [0, 1, 2] rfl rfl (esc bpt (esc pbd (esc bsl (esc pbd ZaB)))) (hsc pcs (hsc (Zac pbd (Zac pbd (Zac bsl Zap))) (hsc pcs Zag))) (by kernel_rfl) rfl)⟩ (fun s => match s with | (aa, ab, v6, ac, h2, x2) => fun hi => (Zan (Zan (ZEJ sets ways list list_n list_c key hK aa ab v6 ac h2 x2 (h.2 aa ab v6 ac h2 x2 hi)))))
theorem ZEH (sets ways : Int) (list : List (Tup Zaa)) (list_n list_c : Nat) (key : Int) (hK : Zdq sets ways list list_n list_c key Kf) (h : Zhn sets ways list list_n list_c key) : SemL Try.prog w0 fp ρi 2 53 [ZgG, (.seq Zdx .ret)] (ZIO key) (ZAY list_n list sets ways list_c) (fnK Zjv 2 Kf) :=
  Zbi (ZEI sets ways list list_n list_c key hK h)
abbrev ZIN (x0 : Int) : Env := [(0, some (.ptr ⟨1, 0, 0, 1⟩ 3)), (1, some (.int .i64 x0)), (5, some (.slice ⟨2, 0, 0, 1⟩ 0 0))]
theorem Zxf (sets ways : Int) (list : List (Tup Zaa)) (list_n list_c : Nat) (key : Int) (Z : Env -> Heap -> Prop) (h : Z (ZIO key) (ZAY list_n list sets ways list_c)) : EvC Zmj Zi6 (ZIN key) (ZAY list_n list sets ways list_c) [0, 1, 5, 6] [0, 1, 2] Z := EvC.of (by kernel_rfl) h
theorem Zy8 (sets ways : Int) (list : List (Tup Zaa)) (list_n list_c : Nat) (key : Int) (hK : Zdq sets ways list list_n list_c key Kf) (h : Zhn sets ways list list_n list_c key) : SemL Try.prog w0 fp ρi 2 53 [Zi6, ZgG, (.seq Zdx .ret)] (ZIN key) (ZAY list_n list sets ways list_c) (fnK Zjv 2 Kf) :=
  Zak ZhJ (Zxf sets ways list list_n list_c key _ (ZEH sets ways list list_n list_c key hK h))
theorem Zxe (sets ways : Int) (list : List (Tup Zaa)) (list_n list_c : Nat) (key : Int) (Z : Env -> Heap -> Prop) (h : Z (ZIN key) (ZAY list_n list sets ways list_c)) : EvC Zmj Zlr (ZhO key) (Yf9 list_n list sets ways list_c) [0, 1, 5] [0, 1, 2] Z := EvC.of (by kernel_rfl) h
theorem Zy7 (sets ways : Int) (list : List (Tup Zaa)) (list_n list_c : Nat) (key : Int) (hK : Zdq sets ways list list_n list_c key Kf) (h : Zhn sets ways list list_n list_c key) : SemL Try.prog w0 fp ρi 2 53 [Zlr, (.seq (.seq Zi6 ZgG) (.seq Zdx .ret))] (ZhO key) (Yf9 list_n list sets ways list_c) (fnK Zjv 2 Kf) :=
  Zak ZhJ (Zxe sets ways list list_n list_c key _ (Zan (Zan (Zy8 sets ways list list_n list_c key hK h))))
theorem Zxd (sets ways : Int) (list : List (Tup Zaa)) (list_n list_c : Nat) (key : Int) (Z : Env -> Heap -> Prop) (h : Z (ZhO key) (Yf9 list_n list sets ways list_c)) : EvC Zmj ZoD (ZhO key) (Yf9 list_n list sets ways list_c) [0, 1] [0, 1] Z := EvC.of (by kernel_rfl) h
theorem Zy6 (sets ways : Int) (list : List (Tup Zaa)) (list_n list_c : Nat) (key : Int) (hK : Zdq sets ways list list_n list_c key Kf) (h : Zhn sets ways list list_n list_c key) : SemL Try.prog w0 fp ρi 2 53 [ZoD, (.seq Zlr (.seq (.seq Zi6 ZgG) (.seq Zdx .ret)))] (ZhO key) (Yf9 list_n list sets ways list_c) (fnK Zjv 2 Kf) :=
  Zak ZhJ (Zxd sets ways list list_n list_c key _ (Zan (Zy7 sets ways list list_n list_c key hK h)))
theorem ZIh (sets ways : Int) (list : List (Tup Zaa)) (list_n list_c : Nat) (key : Int) (hK : Zdq sets ways list list_n list_c key Kf) (h : Zhn sets ways list list_n list_c key) : SemL Try.prog w0 fp ρi 2 53 [ZHj] (ZhO key) (Yf9 list_n list sets ways list_c) (fnK Zjv 2 Kf) :=
  (Zan (Zy6 sets ways list list_n list_c key hK h))
end
theorem ZG2 (sets ways : Int) (list : List (Tup Zaa)) (list_n list_c : Nat) (key : Int) (hpre : (List.length list = list_n /\ list_n <= list_c /\ list_n <= 100000 /\ I64 key /\ 1 <= sets /\ sets <= 64 /\ 1 <= ways /\ ways <= 64 /\ (∀ x ∈ list, 0 <= x.1))) : Zhn sets ways list list_n list_c key := by
  unfold Zhn ZpW Zso ZpX Zsp Zsq ZpY
  obtain ⟨hl, hc, hn, hk, hs1, hs2, hw1, hw2, hx⟩ := hpre
  refine ⟨⟨0, rfl, Nat.zero_le _, rfl, rfl, rfl, Nat.le_refl _, by unfold Zax; split <;> rfl⟩, ?_⟩
  rintro vl vc _ hn' st x ⟨i, rfl, hi, rfl, hsl, hsx, hle, rfl⟩
  refine ⟨fun hlt => ?_, fun hge => ?_⟩
  · simp only [Bool.and_eq_true, decide_eq_true_eq] at hlt
    have e0 : 0 + ((i : Nat) : Int).toNat = i := by omega
    have e1 : IntKind.i64.wrap ((i : Int) + 1) = ((i + 1 : Nat) : Int) := by rw [Zrj]; omega
    have hst := ZnN (sets := sets) (k := key) (xs := list) (i := i) (by omega) hlt.2
    refine ⟨by omega, by omega, by omega, by omega, by omega, fun hb => ?_, fun hb => ?_⟩
    · rw [e0] at hb
      rw [if_pos hb] at hst
      refine ⟨by omega, by omega, by omega, rfl, hsl, hsx, by omega, fun c hcc => ?_⟩
      rintro _ rfl _ rfl _ rfl _ rfl
      rw [e0, e1]
      refine ⟨⟨i + 1, rfl, by omega, rfl, ?_, by omega, by omega, ?_⟩, by omega⟩
      · rw [List.length_append]; simp; omega
      · rw [hst]; rfl
    · rw [e0] at hb
      rw [if_neg (by rw [hb]; decide), List.append_nil] at hst
      rw [e1]
      exact ⟨⟨i + 1, rfl, by omega, rfl, hsl, hsx, by omega, hst.symm⟩, by omega⟩
  · have hf : Zax sets key (List.take i list) = Zax sets key list := by
      by_cases h0 : 0 <= key
      · rw [decide_eq_true h0, Bool.and_true] at hge
        have := of_decide_eq_false hge
        rw [List.take_of_length_le (by omega)]
      · unfold Zax
        rw [if_pos (by omega), if_pos (by omega)]
    rw [hf] at hsl
    rw [hf]
    exact ⟨hsl.symm, hsl.symm, rfl, by omega, by omega⟩
theorem ZBk : Sound Try.prog 42 (gS ZAL) := by
  refine ZaQ ZrK ?_
  intro args H K h
  obtain ⟨pre, out, hD, hpre, hK⟩ := ZbK h
  unfold ZAL at hD
  split at hD
  · cases hD
    obtain ⟨rfl, hpre⟩ := hpre
    exact ⟨rfl, fun w0 fp ρi => ZIh _ _ _ _ _ _ hK (ZG2 _ _ _ _ _ _ hpre)⟩
  · cases hD
def Zvl : Zcw := fun args H => match args, H with
  | [.ptr ⟨1, 0, 0, 1⟩ 3, .int .i64 key], ⟨2, [(0, some ⟨false, [.rows [.int .i64, .int .i64] list_m list], 0⟩), (1, some ⟨false, [.one (.int .i64 sets), .one (.int .i64 ways), .one (.slice ⟨0, 0, 0, 2⟩ list_n list_c)], 0⟩)]⟩ => some (list_m = list_n /\ (List.length list = list_n /\ list_n <= list_c /\ list_n <= 100000 /\ I64 key /\ 1 <= sets /\ sets <= 64 /\ 1 <= ways /\ ways <= 64 /\ (∀ x ∈ list, 0 <= x.1)), fun K => K (.int .i64 (ZaS sets ways key list)) ⟨2, [(0, some ⟨false, [.rows Zaa list_n list], 0⟩), (1, some ⟨false, [.i sets, .i ways, .one (.slice ⟨0, 0, 0, 2⟩ list_n list_c)], 0⟩)]⟩)
  | _, _ => none
def Zq4 : Con := ⟨44, gS Zvl, [], [], []⟩
def Zeb (sets ways : Int) (list : List (Tup Zaa)) (list_n list_c : Nat) (key : Int) (Kf : SVal -> Heap -> Prop) : Prop := Kf (.int .i64 (ZaS sets ways key list)) ⟨2, [(0, some ⟨false, [.rows Zaa list_n list], 0⟩), (1, some ⟨false, [.i sets, .i ways, .one (.slice ⟨0, 0, 0, 2⟩ list_n list_c)], 0⟩)]⟩
def Zos : ACode := .reg (.op (some 4) (.mov (.cn (.int .i64 0))) .nil)
def Zlk : ACode := .reg (.op (some 5) (.mov (.tm 1)) (.op (some 6) (.bin .lss (.tm 5) (.cn (.int .i64 0))) .nil))
def Zor : ACode := .reg (.op (some 4) (.mov (.cn (.int .i64 1))) .nil)
def Zlj : ACode := .cond (.tm 6) (.seq Zor .ret) .skip
def Zli : MTree := (.st 0 0 none (some 7) (.mov (.tm 0)) (.st 1 0 none (some 8) (.mov (.tm 1)) (.st 2 1 none (some 9) (.call 41 [(.tm 7), (.tm 8)]) (.st 3 0 none (some 10) (.bin .lss (.tm 9) (.cn (.int .i64 0))) (.st 4 0 none (some 11) (.mov (.tm 10)) (.gd 11 (.st 5 0 (some (11, true)) (some 12) (.mov (.tm 0)) (.st 6 0 (some (11, true)) (some 13) (.mov (.tm 1)) (.st 9 0 (some (11, true)) (some 16) (.mov (.tm 0)) (.st 10 0 (some (11, true)) (some 17) (.nilCheck (.tm 16)) (.st 11 0 (some (11, true)) (some 18) (.fieldAddr (.tm 17) 1 1) (.st 12 0 (some (11, true)) (some 19) (.load1 (.tm 18)) (.st 7 1 (some (11, true)) (some 14) (.call 42 [(.tm 12), (.tm 13)]) (.st 8 0 (some (11, true)) (some 15) (.len (.tm 14)) (.st 13 0 (some (11, true)) (some 20) (.bin .geq (.tm 15) (.tm 19)) (.st 14 0 none (some 21) (.pick (.tm 11) (.tm 20) (.cn (.bool false))) .nil)))))))))) (.sk 5 (11, false) (some 12) (.sk 6 (11, false) (some 13) (.sk 7 (11, false) (some 14) (.sk 8 (11, false) (some 15) (.sk 9 (11, false) (some 16) (.sk 10 (11, false) (some 17) (.sk 11 (11, false) (some 18) (.sk 12 (11, false) (some 19) (.sk 13 (11, false) (some 20) (.st 14 0 none (some 21) (.pick (.tm 11) (.tm 20) (.cn (.bool false))) .nil))))))))))))))))
def Zha : ACode := .regT Zli
def Zoq : ACode := .reg (.op (some 4) (.mov (.cn (.int .i64 5))) .nil)
def ZfY : ACode := .cond (.tm 21) (.seq Zoq .ret) .skip
def ZdF : ACode := .reg (.op (some 4) (.mov (.cn (.int .i64 0))) .nil)
def ZwH : ACode := (.seq Zos (.seq (.seq Zlk Zlj) (.seq (.seq Zha ZfY) (.seq ZdF .ret))))
def ZcQ : Res := .one (.tm 4)
theorem Zpu : Zbr Try.prog 44 2 22 ZwH ZcQ = true := by kernel_rfl
def Zjw : ZaE := Zci [] [Zif, Zu5]
theorem Zg7 : ZaT Try.prog Zjw := ZaZ trivial ⟨Zqr, ZBk, trivial⟩
section
variable {w0 : World} {fp : Nat -> Nat -> Prop} {ρi : Rho} {Kf : SVal -> Heap -> Prop}
theorem ZBW (sets ways : Int) (list : List (Tup Zaa)) (list_n list_c : Nat) (key : Int) (Z : Env -> Heap -> Prop) (h : Z [(4, some (.int .i64 1))] (Yf9 list_n list sets ways list_c)) : EvC Zjw Zor [] (Yf9 list_n list sets ways list_c) [4] [0, 1] Z := EvC.of (by kernel_rfl) h
theorem Zx6 (sets ways : Int) (list : List (Tup Zaa)) (list_n list_c : Nat) (key : Int) : RetC ZcQ [(4, some (.int .i64 1))] (Yf9 list_n list sets ways list_c) (.int .i64 1) := RetC.of (fun Z => by kernel_rfl)
def Zsh (sets ways : Int) (list : List (Tup Zaa)) (list_n list_c : Nat) (key : Int) : Prop := 1 = (ZaS sets ways key list)
theorem ZEw (sets ways : Int) (list : List (Tup Zaa)) (list_n list_c : Nat) (key : Int) (hK : Zeb sets ways list list_n list_c key Kf) (h : Zsh sets ways list list_n list_c key) : SemL Try.prog w0 fp ρi 2 22 [Zor, .ret, (.seq (.seq Zha ZfY) (.seq ZdF .ret))] [] (Yf9 list_n list sets ways list_c) (fnK ZcQ 2 Kf) :=
  Zak Zg7 (ZBW sets ways list list_n list_c key _ (ZaL (R := ZcQ) (m := 2) (Kf := Kf) (fun _ _ h => h) (Zx6 sets ways list list_n list_c key) (ZaD (Eq.mpr (cg1 (fun (z1 : Int) => Zcn 2 Kf (.int .i64 z1) (Yf9 list_n list sets ways list_c)) h) (Zay [] [0, 1] rfl (by kernel_rfl) rfl pbd (hsc pcs (hsc (Zac pbd (Zac pbd (Zac bsl Zap))) Zag)) rfl (by kernel_rfl) (hK))))))
theorem ZBV (sets ways : Int) (list : List (Tup Zaa)) (list_n list_c : Nat) (key : Int) (Z : Env -> Heap -> Prop) (h : Z [(4, some (.int .i64 5))] (Yf9 list_n list sets ways list_c)) : EvC Zjw Zoq [] (Yf9 list_n list sets ways list_c) [4] [0, 1] Z := EvC.of (by kernel_rfl) h
theorem Zx5 (sets ways : Int) (list : List (Tup Zaa)) (list_n list_c : Nat) (key : Int) : RetC ZcQ [(4, some (.int .i64 5))] (Yf9 list_n list sets ways list_c) (.int .i64 5) := RetC.of (fun Z => by kernel_rfl)
def Zsg (sets ways : Int) (list : List (Tup Zaa)) (list_n list_c : Nat) (key : Int) : Prop := 5 = (ZaS sets ways key list)
theorem ZEv (sets ways : Int) (list : List (Tup Zaa)) (list_n list_c : Nat) (key : Int) (hK : Zeb sets ways list list_n list_c key Kf) (h : Zsg sets ways list list_n list_c key) : SemL Try.prog w0 fp ρi 2 22 [Zoq, .ret, (.seq ZdF .ret)] [] (Yf9 list_n list sets ways list_c) (fnK ZcQ 2 Kf) :=
  Zak Zg7 (ZBV sets ways list list_n list_c key _ (ZaL (R := ZcQ) (m := 2) (Kf := Kf) (fun _ _ h => h) (Zx5 sets ways list list_n list_c key) (ZaD (Eq.mpr (cg1 (fun (z1 : Int) => Zcn 2 Kf (.int .i64 z1) (Yf9 list_n list sets ways list_c)) h) (Zay [] [0, 1] rfl (by kernel_rfl) rfl pbd (hsc pcs (hsc (Zac pbd (Zac pbd (Zac bsl Zap))) Zag)) rfl (by kernel_rfl) (hK))))))
theorem ZBU (sets ways : Int) (list : List (Tup Zaa)) (list_n list_c : Nat) (key : Int) (Z : Env -> Heap -> Prop) (h : Z [(4, some (.int .i64 0))] (Yf9 list_n list sets ways list_c)) : EvC Zjw ZdF [] (Yf9 list_n list sets ways list_c) [4] [0, 1] Z := EvC.of (by kernel_rfl) h
theorem Zx4 (sets ways : Int) (list : List (Tup Zaa)) (list_n list_c : Nat) (key : Int) : RetC ZcQ [(4, some (.int .i64 0))] (Yf9 list_n list sets ways list_c) (.int .i64 0) := RetC.of (fun Z => by kernel_rfl)
def Zsf (sets ways : Int) (list : List (Tup Zaa)) (list_n list_c : Nat) (key : Int) : Prop := 0 = (ZaS sets ways key list)
theorem ZEu (sets ways : Int) (list : List (Tup Zaa)) (list_n list_c : Nat) (key : Int) (hK : Zeb sets ways list list_n list_c key Kf) (h : Zsf sets ways list list_n list_c key) : SemL Try.prog w0 fp ρi 2 22 [ZdF, .ret] [] (Yf9 list_n list sets ways list_c) (fnK ZcQ 2 Kf) :=
  Zak Zg7 (ZBU sets ways list list_n list_c key _ (ZaL (R := ZcQ) (m := 2) (Kf := Kf) (fun _ _ h => h) (Zx4 sets ways list list_n list_c key) (ZaD (Eq.mpr (cg1 (fun (z1 : Int) => Zcn 2 Kf (.int .i64 z1) (Yf9 list_n list sets ways list_c)) h) (Zay [] [0, 1] rfl (by kernel_rfl) rfl pbd (hsc pcs (hsc (Zac pbd (Zac pbd (Zac bsl Zap))) Zag)) rfl (by kernel_rfl) (hK))))))
def ZpT (sets ways : Int) (list : List (Tup Zaa)) (list_n list_c : Nat) (key : Int) (al : Bool) : Prop := (al = true -> (Zsg sets ways list list_n list_c key)) /\ (al = false -> (Zsf sets ways list list_n list_c key))
theorem Zww (sets ways : Int) (list : List (Tup Zaa)) (list_n list_c : Nat) (key : Int) (hK : Zeb sets ways list list_n list_c key Kf) (al : Bool) (h : ZpT sets ways list list_n list_c key al) : SemL Try.prog w0 fp ρi 2 22 [ZfY, (.seq ZdF .ret)] [(21, some (.bool al))] (Yf9 list_n list sets ways list_c) (fnK ZcQ 2 Kf) :=
  Za0 (q := al) (by kernel_rfl) (fun hq => (Zan (lpk [] [0, 1] (ZEv sets ways list list_n list_c key hK (h.1 hq))))) (fun hq => (Zbb (lpk [] [0, 1] (Zan (ZEu sets ways list list_n list_c key hK (h.2 hq))))))
theorem ZBT (sets ways : Int) (list : List (Tup Zaa)) (list_n list_c : Nat) (key : Int) (Z : Env -> Heap -> Prop) (h : (((list_n : Nat) <= list_n)) /\ (((list_n : Nat) = list_n) /\ (List.length (List.take list_n list) = list_n /\ list_n <= list_c /\ list_n <= 100000 /\ I64 key /\ 1 <= sets /\ sets <= 64 /\ 1 <= ways /\ ways <= 64 /\ (∀ x ∈ (List.take list_n list), 0 <= x.1))) /\ ((Zbk (Yf9 list_n list sets ways list_c) (Heap.keep (Yf9 list_n list sets ways list_c) []) (Zbv [] (Yf9 list_n list sets ways list_c)))) /\ ((decide ((idxK key (List.take list_n list)) < 0)) = true -> (((list_n : Nat) <= list_n)) /\ (((list_n : Nat) = list_n) /\ (List.length (List.take list_n list) = list_n /\ list_n <= list_c /\ list_n <= 100000 /\ I64 key /\ 1 <= sets /\ sets <= 64 /\ 1 <= ways /\ ways <= 64 /\ (∀ x ∈ (List.take list_n list), 0 <= x.1))) /\ ∀ (ag : Nat), (List.length (Zax sets key (List.take list_n list))) <= ag -> ((Zbk ⟨3, [(0, some ⟨false, [.rows Zaa list_n list], 0⟩), (1, some ⟨false, [.i sets, .i ways, .one (.slice ⟨0, 0, 0, 2⟩ list_n list_c)], 0⟩), (2, some ⟨true, [.ints .i64 (List.length (Zax sets key (List.take list_n list))) (Zax sets key (List.take list_n list))], (ag - (List.length (Zax sets key (List.take list_n list))))⟩)]⟩ (Heap.keep (Yf9 list_n list sets ways list_c) [1]) (Zbv [1] (Yf9 list_n list sets ways list_c)))) /\ Z [(21, some (.bool (decide (ways <= (((List.length (Zax sets key (List.take list_n list))) : Nat) : Int)))))] ⟨3, [(0, some ⟨false, [.rows Zaa list_n list], 0⟩), (1, some ⟨false, [.i sets, .i ways, .one (.slice ⟨0, 0, 0, 2⟩ list_n list_c)], 0⟩)]⟩) /\ ((decide ((idxK key (List.take list_n list)) < 0)) = false -> Z [(21, some (.bool false))] (Yf9 list_n list sets ways list_c))) : EvTC Zjw Zli [[], [], [], [], [], [], [], [], [], [], [1], [], [], [], []] (ZhO key) (Yf9 list_n list sets ways list_c) [21] [0, 1] Z := EvTC.of (by kernel_rfl) h
def Zse (sets ways : Int) (list : List (Tup Zaa)) (list_n list_c : Nat) (key : Int) : Prop := ((List.length (List.take list_n list) = list_n /\ list_n <= list_c /\ list_n <= 100000 /\ I64 key /\ 1 <= sets /\ sets <= 64 /\ 1 <= ways /\ ways <= 64 /\ (∀ x ∈ (List.take list_n list), 0 <= x.1))) /\ (((decide ((idxK key (List.take list_n list)) < 0)) = true -> (((List.length (List.take list_n list) = list_n /\ list_n <= list_c /\ list_n <= 100000 /\ I64 key /\ 1 <= sets /\ sets <= 64 /\ 1 <= ways /\ ways <= 64 /\ (∀ x ∈ (List.take list_n list), 0 <= x.1))) /\ (∀ (ag : Nat), ((List.length (Zax sets key (List.take list_n list))) <= ag) -> (∀ al : Bool, al = (decide (ways <= (((List.length (Zax sets key (List.take list_n list))) : Nat) : Int))) -> ZpT sets ways list list_n list_c key al)))) /\ ((decide ((idxK key (List.take list_n list)) < 0)) = false -> (ZpT sets ways list list_n list_c key false)))
theorem ZEt (sets ways : Int) (list : List (Tup Zaa)) (list_n list_c : Nat) (key : Int) (hK : Zeb sets ways list list_n list_c key Kf) (h : Zse sets ways list list_n list_c key) : SemL Try.prog w0 fp ρi 2 22 [Zha, ZfY, (.seq ZdF .ret)] (ZhO key) (Yf9 list_n list sets ways list_c) (fnK ZcQ 2 Kf) :=
  Zve Zg7 (t := Zli) (ZBT sets ways list list_n list_c key _ ⟨(Nat.le_refl _), ⟨⟨rfl, h.1⟩, ⟨(Za5 (by kernel_rfl)), ⟨fun hc1 => ⟨(Nat.le_refl _), ⟨⟨rfl, (h.2.1 hc1).1⟩, (fun ag h_c_1_0 => ⟨(Za5 (by kernel_rfl)), (SemL.sub (τ := tau []) (e' := [(21, some (.bool (decide (ways <= (((List.length (Zax sets key (List.take list_n list))) : Nat) : Int)))))]) (H' := (Yf9 list_n list sets ways list_c)) (ZaR [] [0, 1] rfl rfl (esc pbd ZaB) (hsc pcs (hsc (Zac pbd (Zac pbd (Zac bsl Zap))) Zag)) (by kernel_rfl) rfl) (Zww sets ways list list_n list_c key hK (decide (ways <= (((List.length (Zax sets key (List.take list_n list))) : Nat) : Int))) (((h.2.1 hc1).2 ag h_c_1_0) (decide (ways <= (((List.length (Zax sets key (List.take list_n list))) : Nat) : Int))) rfl)))⟩)⟩⟩, fun hc1 => (Zww sets ways list list_n list_c key hK false (h.2.2 hc1))⟩⟩⟩⟩)
def ZjG (sets ways : Int) (list : List (Tup Zaa)) (list_n list_c : Nat) (key : Int) : Prop := ((decide (key < 0)) = true -> (Zsh sets ways list list_n list_c key)) /\ ((decide (key < 0)) = false -> (Zse sets ways list list_n list_c key))
abbrev ZJt (x0 : Int) : Env := [(0, some (.ptr ⟨1, 0, 0, 1⟩ 3)), (1, some (.int .i64 x0)), (6, some (.bool (decide (x0 < 0))))]
theorem ZEs (sets ways : Int) (list : List (Tup Zaa)) (list_n list_c : Nat) (key : Int) (hK : Zeb sets ways list list_n list_c key Kf) (h : ZjG sets ways list list_n list_c key) : SemL Try.prog w0 fp ρi 2 22 [Zlj, (.seq (.seq Zha ZfY) (.seq ZdF .ret))] (ZJt key) (Yf9 list_n list sets ways list_c) (fnK ZcQ 2 Kf) :=
  Za0 (q := (decide (key < 0))) (by kernel_rfl) (fun hq => (Zan (lpk [] [0, 1] (ZEw sets ways list list_n list_c key hK (h.1 hq))))) (fun hq => (Zbb (lpk [0, 1] [0, 1] (Zan (Zan (ZEt sets ways list list_n list_c key hK (h.2 hq)))))))
theorem ZBS (sets ways : Int) (list : List (Tup Zaa)) (list_n list_c : Nat) (key : Int) (Z : Env -> Heap -> Prop) (h : Z (ZJt key) (Yf9 list_n list sets ways list_c)) : EvC Zjw Zlk (ZhO key) (Yf9 list_n list sets ways list_c) [0, 1, 6] [0, 1] Z := EvC.of (by kernel_rfl) h
theorem ZEr (sets ways : Int) (list : List (Tup Zaa)) (list_n list_c : Nat) (key : Int) (hK : Zeb sets ways list list_n list_c key Kf) (h : ZjG sets ways list list_n list_c key) : SemL Try.prog w0 fp ρi 2 22 [Zlk, Zlj, (.seq (.seq Zha ZfY) (.seq ZdF .ret))] (ZhO key) (Yf9 list_n list sets ways list_c) (fnK ZcQ 2 Kf) :=
  Zak Zg7 (ZBS sets ways list list_n list_c key _ (ZEs sets ways list list_n list_c key hK h))
theorem ZBR (sets ways : Int) (list : List (Tup Zaa)) (list_n list_c : Nat) (key : Int) (Z : Env -> Heap -> Prop) (h : Z (ZhO key) (Yf9 list_n list sets ways list_c)) : EvC Zjw Zos (ZhO key) (Yf9 list_n list sets ways list_c) [0, 1] [0, 1] Z := EvC.of (by kernel_rfl) h
theorem ZEq (sets ways : Int) (list : List (Tup Zaa)) (list_n list_c : Nat) (key : Int) (hK : Zeb sets ways list list_n list_c key Kf) (h : ZjG sets ways list list_n list_c key) : SemL Try.prog w0 fp ρi 2 22 [Zos, (.seq (.seq Zlk Zlj) (.seq (.seq Zha ZfY) (.seq ZdF .ret)))] (ZhO key) (Yf9 list_n list sets ways list_c) (fnK ZcQ 2 Kf) :=
  Zak Zg7 (ZBR sets ways list list_n list_c key _ (Zan (Zan (ZEr sets ways list list_n list_c key hK h))))
theorem ZA8 (sets ways : Int) (list : List (Tup Zaa)) (list_n list_c : Nat) (key : Int) (hK : Zeb sets ways list list_n list_c key Kf) (h : ZjG sets ways list list_n list_c key) : SemL Try.prog w0 fp ρi 2 22 [ZwH] (ZhO key) (Yf9 list_n list sets ways list_c) (fnK ZcQ 2 Kf) :=
  (Zan (ZEq sets ways list list_n list_c key hK h))
end
theorem ZAe (sets ways : Int) (list : List (Tup Zaa)) (list_n list_c : Nat) (key : Int) (hpre : (List.length list = list_n /\ list_n <= list_c /\ list_n <= 100000 /\ I64 key /\ 1 <= sets /\ sets <= 64 /\ 1 <= ways /\ ways <= 64 /\ (∀ x ∈ list, 0 <= x.1))) : ZjG sets ways list list_n list_c key := by
  unfold ZjG Zse ZpT Zsf Zsg Zsh
  have hpre0 := hpre
  obtain ⟨hl, hc, hn, hk, hs1, hs2, hw1, hw2, hx⟩ := hpre
  rw [List.take_of_length_le (Nat.le_of_eq hl)]
  unfold ZaS
  refine ⟨fun h => by rw [if_pos (of_decide_eq_true h)], fun h => ⟨hpre0, fun h2 => ⟨hpre0, fun c hcc => ?_⟩, fun h2 => ⟨fun h3 => (by cases h3), fun _ => ?_⟩⟩⟩
  · rintro _ rfl
    rw [if_neg (of_decide_eq_false h)]
    exact ⟨fun h3 => by rw [if_pos ⟨of_decide_eq_true h2, of_decide_eq_true h3⟩], fun h3 => by rw [if_neg fun g => of_decide_eq_false h3 g.2]⟩
  · rw [if_neg (of_decide_eq_false h), if_neg fun g => of_decide_eq_false h2 g.1]
theorem Zwu : Sound Try.prog 44 (gS Zvl) := by
  refine ZaQ Zpu ?_
  intro args H K h
  obtain ⟨pre, out, hD, hpre, hK⟩ := ZbK h
  unfold Zvl at hD
  split at hD
  · cases hD
    obtain ⟨rfl, hpre⟩ := hpre
    exact ⟨rfl, fun w0 fp ρi => ZA8 _ _ _ _ _ _ hK (ZAe _ _ _ _ _ _ hpre)⟩
  · cases hD
end Go.Proofs.Ytinjdimejijabaa
