/- Part of the proof: SxWaysS. -/
import Derived.Test.YtinjdimejijabaaSxOpnN
import Derived.Test.YtinjdimejijabaaSxMixT
import Derived.KernelRfl
set_option linter.unusedVariables false
set_option linter.unusedSimpArgs false
set_option maxRecDepth 20000
namespace Go.Proofs.Ytinjdimejijabaa
open Go.Sx
def Zkh : Zri := fun ds => match ds with
  | [.sl false .i64 a_n a_c a, .sl false .i64 aa b_c b] => some (((List.length a = a_n /\ a_n <= a_c /\ a_n <= 1000000) /\ (List.length b = aa /\ aa <= b_c /\ aa <= 1000000)), [.pl (.bool (a == b))], [])
  | _ => none
def ZoM : Con := ⟨23, dC Zkh, [], [.ints .i64 0 []], []⟩
def Za5 (a : List Int) (a_n a_c : Nat) (b : List Int) (aa b_c : Nat) (Kf : SVal -> Heap -> Prop) : Prop := Kf (.bool (a == b)) ⟨2, [(0, some ⟨false, [.ints .i64 a_n a], 0⟩), (1, some ⟨false, [.ints .i64 aa b], 0⟩)]⟩
def Zmx : ACode := .reg (.op (some 4) (.mov (.cn (.bool false))) .nil)
def ZjS : ACode := .reg (.op (some 6) (.mov (.tm 0)) (.op (some 7) (.len (.tm 6)) (.op (some 8) (.mov (.tm 1)) (.op (some 9) (.len (.tm 8)) (.op (some 10) (.bin .neq (.tm 7) (.tm 9)) .nil)))))
def Zmw : ACode := .reg (.op (some 4) (.mov (.cn (.bool false))) .nil)
def ZjR : ACode := .cond (.tm 10) (.seq Zmw .ret) .skip
def Zfd : ACode := .reg (.op (some 5) (.mov (.cn (.int .i64 0))) .nil)
def Zmv : ACode := .reg (.op (some 11) (.mov (.tm 5)) (.op (some 12) (.mov (.tm 0)) (.op (some 13) (.len (.tm 12)) (.op (some 14) (.bin .lss (.tm 11) (.tm 13)) .nil))))
def Zmu : ACode := .cond (.tm 14) .skip (.exit 0)
def ZjQ : Items := .op (some 17) (.mov (.tm 0)) (.op (some 18) (.mov (.tm 5)) (.op (some 19) (.idxS (.tm 17) (.tm 18) 1) (.op (some 20) (.load1 (.tm 19)) (.op (some 21) (.mov (.tm 1)) (.op (some 22) (.mov (.tm 5)) (.op (some 23) (.idxS (.tm 21) (.tm 22) 1) (.op (some 24) (.load1 (.tm 23)) (.op (some 25) (.bin .neq (.tm 20) (.tm 24)) .nil))))))))
def ZqW : ACode := .regQ ZjQ
def Zmt : ACode := .reg (.op (some 4) (.mov (.cn (.bool false))) .nil)
def Zms : ACode := .cond (.tm 25) (.seq Zmt .ret) .skip
def Zg6 : ACode := .block 1 (.seq ZqW Zms)
def ZdV : ACode := .reg (.op (some 15) (.mov (.tm 5)) (.op (some 16) (.bin .add (.tm 15) (.cn (.int .i64 1))) (.op (some 5) (.mov (.tm 16)) .nil)))
def Zn3 : ACode := .loop (.seq (.seq Zmv Zmu) (.seq Zg6 ZdV))
def ZdU : ACode := .block 0 Zn3
def Zce : ACode := .reg (.op (some 4) (.mov (.cn (.bool true))) .nil)
def Zn5 : ACode := (.seq Zmx (.seq (.seq ZjS ZjR) (.seq (.seq Zfd ZdU) (.seq Zce .ret))))
def Zbe : Res := .one (.tm 4)
theorem Zj8 : ZbX Try.prog 23 2 26 Zn5 Zbe = true := by kernel_rfl
def Zcg : ZaC := Zdz [] []
theorem ZbV : ZaT Try.prog Zcg := Zba trivial trivial
section
variable {w0 : World} {fp : Nat -> Nat -> Prop} {ρi : Rho} {Kf : SVal -> Heap -> Prop}
abbrev Yd0 : Env := [(4, some (.bool false))]
abbrev Yd1 (x0 : Nat) (x1 : List Int) (x2 : Nat) (x3 : List Int) : Heap := ⟨2, [(0, some ⟨false, [.ints .i64 x0 x1], 0⟩), (1, some ⟨false, [.ints .i64 x2 x3], 0⟩)]⟩
theorem Zwf (a : List Int) (a_n a_c : Nat) (b : List Int) (aa b_c : Nat) (Z : Env -> Heap -> Prop) (h : Z Yd0 (Yd1 a_n a aa b)) : EvC Zcg Zmw [] (Yd1 a_n a aa b) [4] [0, 1] Z := EvC.of (by kernel_rfl) h
theorem Ztr (a : List Int) (a_n a_c : Nat) (b : List Int) (aa b_c : Nat) : RetC Zbe Yd0 (Yd1 a_n a aa b) (.bool false) := RetC.of (fun Z => by kernel_rfl)
def Zpq (a : List Int) (a_n a_c : Nat) (b : List Int) (aa b_c : Nat) : Prop := false = (a == b)
theorem Zyx (a : List Int) (a_n a_c : Nat) (b : List Int) (aa b_c : Nat) (hK : Za5 a a_n a_c b aa b_c Kf) (h : Zpq a a_n a_c b aa b_c) : SemL Try.prog w0 fp ρi 2 26 [Zmw, .ret, (.seq (.seq Zfd ZdU) (.seq Zce .ret))] [] (Yd1 a_n a aa b) (fnK Zbe 2 Kf) :=
  Zan ZbV (Zwf a a_n a_c b aa b_c _ (ZaX (R := Zbe) (m := 2) (Kf := Kf) (fun _ _ h => h) (Ztr a a_n a_c b aa b_c) (Eq.mpr (cg1 (fun (z1 : Bool) => Ret 2 Kf (.bool z1) (Yd1 a_n a aa b)) h) (Zhl [] [0, 1] rfl rfl (by kernel_rfl) pbd (hsc pcs (hsc pcs Zak)) (by kernel_rfl) rfl (hK)))))
def Zqv (w0 : World) (fp : Nat -> Nat -> Prop) (ρi : Rho) (Kf : SVal -> Heap -> Prop) (a : List Int) (a_n a_c : Nat) (b : List Int) (aa b_c : Nat) : Zdh := Zb1 0 (fun e H => SemL Try.prog w0 fp ρi 2 26 [(.seq Zce .ret)] e H (fnK Zbe 2 Kf)) (fnK Zbe 2 Kf)
def ZqB (a : List Int) (a_n a_c : Nat) (b : List Int) (aa b_c : Nat) : Int -> Prop := fun s => match s with | v5 => 0 <= v5 /\ v5 <= (a_n : Int) /\ a_n = aa /\ List.take (Int.toNat v5) a = List.take (Int.toNat v5) b
def Zqd (a : List Int) (a_n a_c : Nat) (b : List Int) (aa b_c : Nat) : Int -> Nat := fun s => match s with | v5 => (((a_n : Int) - v5).toNat)
def Zqo (a : List Int) (a_n a_c : Nat) (b : List Int) (aa b_c : Nat) : Int -> Env := fun s => match s with | v5 => [(0, some (.slice ⟨0, 0, 0, 1⟩ a_n a_c)), (1, some (.slice ⟨1, 0, 0, 1⟩ aa b_c)), (5, some (.int .i64 v5))]
def Zqj (a : List Int) (a_n a_c : Nat) (b : List Int) (aa b_c : Nat) : Int -> Heap := fun s => match s with | v5 => ⟨2, [(0, some ⟨false, [.ints .i64 a_n a], 0⟩), (1, some ⟨false, [.ints .i64 aa b], 0⟩)]⟩
def Zga (w0 : World) (fp : Nat -> Nat -> Prop) (ρi : Rho) (Kf : SVal -> Heap -> Prop) (a : List Int) (a_n a_c : Nat) (b : List Int) (aa b_c : Nat) (v5 : Int) : Zdh := Zje 2 (ZqB a a_n a_c b aa b_c) (Zqd a a_n a_c b aa b_c) (Zqo a a_n a_c b aa b_c) (Zqj a a_n a_c b aa b_c) v5 (Zqv w0 fp ρi Kf a a_n a_c b aa b_c)
def ZlC (w0 : World) (fp : Nat -> Nat -> Prop) (ρi : Rho) (Kf : SVal -> Heap -> Prop) (a : List Int) (a_n a_c : Nat) (b : List Int) (aa b_c : Nat) (v5 : Int) : Zdh := Zb1 1 (fun e H => SemL Try.prog w0 fp ρi 2 26 [ZdV] e H (Zga w0 fp ρi Kf a a_n a_c b aa b_c v5)) (Zga w0 fp ρi Kf a a_n a_c b aa b_c v5)
theorem Zwe (a : List Int) (a_n a_c : Nat) (b : List Int) (aa b_c : Nat) (v5 : Int) (Z : Env -> Heap -> Prop) (h : Z Yd0 (Yd1 a_n a aa b)) : EvC Zcg Zmt [] (Yd1 a_n a aa b) [4] [0, 1] Z := EvC.of (by kernel_rfl) h
theorem Ztq (a : List Int) (a_n a_c : Nat) (b : List Int) (aa b_c : Nat) : RetC Zbe Yd0 (Yd1 a_n a aa b) (.bool false) := RetC.of (fun Z => by kernel_rfl)
def Zpp (a : List Int) (a_n a_c : Nat) (b : List Int) (aa b_c : Nat) (v5 : Int) : Prop := false = (a == b)
theorem Zyw (a : List Int) (a_n a_c : Nat) (b : List Int) (aa b_c : Nat) (hK : Za5 a a_n a_c b aa b_c Kf) (v5 : Int) (h : Zpp a a_n a_c b aa b_c v5) : SemL Try.prog w0 fp ρi 2 26 [Zmt, .ret] [] (Yd1 a_n a aa b) (ZlC w0 fp ρi Kf a a_n a_c b aa b_c v5) :=
  Zan ZbV (Zwe a a_n a_c b aa b_c v5 _ (ZaX (R := Zbe) (m := 2) (Kf := Kf) (fun _ _ h => h) (Ztq a a_n a_c b aa b_c) (Eq.mpr (cg1 (fun (z1 : Bool) => Ret 2 Kf (.bool z1) (Yd1 a_n a aa b)) h) (Zhl [] [0, 1] rfl rfl (by kernel_rfl) pbd (hsc pcs (hsc pcs Zak)) (by kernel_rfl) rfl (hK)))))
abbrev Yd2 (x0 x1 x2 x3 : Nat) (x4 : Int) : Env := [(0, some (.slice ⟨0, 0, 0, 1⟩ x0 x1)), (1, some (.slice ⟨1, 0, 0, 1⟩ x2 x3)), (5, some (.int .i64 x4))]
theorem Zwd (a : List Int) (a_n a_c : Nat) (b : List Int) (aa b_c : Nat) (v5 : Int) (Z : Env -> Heap -> Prop) (h : Z [(0, some (.slice ⟨0, 0, 0, 1⟩ a_n a_c)), (1, some (.slice ⟨1, 0, 0, 1⟩ aa b_c)), (5, some (.int .i64 (IntKind.i64.wrap (v5 + 1))))] (Yd1 a_n a aa b)) : EvC Zcg ZdV (Yd2 a_n a_c aa b_c v5) (Yd1 a_n a aa b) [0, 1, 5] [0, 1] Z := EvC.of (by kernel_rfl) h
def Zpo (a : List Int) (a_n a_c : Nat) (b : List Int) (aa b_c : Nat) (v5 : Int) : Prop := (0 <= (IntKind.i64.wrap (v5 + 1)) /\ (IntKind.i64.wrap (v5 + 1)) <= (a_n : Int) /\ a_n = aa /\ List.take (Int.toNat (IntKind.i64.wrap (v5 + 1))) a = List.take (Int.toNat (IntKind.i64.wrap (v5 + 1))) b) /\ ((((a_n : Int) - (IntKind.i64.wrap (v5 + 1))).toNat) < (((a_n : Int) - v5).toNat))
theorem Zyv (a : List Int) (a_n a_c : Nat) (b : List Int) (aa b_c : Nat) (hK : Za5 a a_n a_c b aa b_c Kf) (v5 : Int) (h : Zpo a a_n a_c b aa b_c v5) : SemL Try.prog w0 fp ρi 2 26 [ZdV] (Yd2 a_n a_c aa b_c v5) (Yd1 a_n a aa b) (Zga w0 fp ρi Kf a a_n a_c b aa b_c v5) :=
  Zan ZbV (Zwd a a_n a_c b aa b_c v5 _ (ZcV (ZcI (x' := (IntKind.i64.wrap (v5 + 1))) (τ := tau []) h.1 h.2 (Zbk [] [0, 1] rfl rfl (esc bsl (esc bsl (esc pbd ZaZ))) (hsc pcs (hsc pcs Zak)) (by kernel_rfl) rfl))))
def Zpn (a : List Int) (a_n a_c : Nat) (b : List Int) (aa b_c : Nat) (v5 : Int) : Prop := (((List.getD a (0 + (Int.toNat v5)) 0) != (List.getD b (0 + (Int.toNat v5)) 0)) = true -> (Zpp a a_n a_c b aa b_c v5)) /\ (((List.getD a (0 + (Int.toNat v5)) 0) != (List.getD b (0 + (Int.toNat v5)) 0)) = false -> (Zpo a a_n a_c b aa b_c v5))
abbrev Yd3 (x0 x1 x2 x3 : Nat) (x4 : Int) (x5 x6 : List Int) : Env := [(0, some (.slice ⟨0, 0, 0, 1⟩ x0 x1)), (1, some (.slice ⟨1, 0, 0, 1⟩ x2 x3)), (5, some (.int .i64 x4)), (25, some (.bool ((List.getD x5 (0 + (Int.toNat x4)) 0) != (List.getD x6 (0 + (Int.toNat x4)) 0))))]
theorem Zyu (a : List Int) (a_n a_c : Nat) (b : List Int) (aa b_c : Nat) (hK : Za5 a a_n a_c b aa b_c Kf) (v5 : Int) (h : Zpn a a_n a_c b aa b_c v5) : SemL Try.prog w0 fp ρi 2 26 [Zms] (Yd3 a_n a_c aa b_c v5 a b) (Yd1 a_n a aa b) (ZlC w0 fp ρi Kf a a_n a_c b aa b_c v5) :=
  Za8 (q := ((List.getD a (0 + (Int.toNat v5)) 0) != (List.getD b (0 + (Int.toNat v5)) 0))) (by kernel_rfl) (fun hq => (Zar (lpk [] [0, 1] (Zyw a a_n a_c b aa b_c hK v5 (h.1 hq))))) (fun hq => (ZbD (ZcV (lpk [0, 1, 5] [0, 1] (Zyv a a_n a_c b aa b_c hK v5 (h.2 hq))))))
theorem Zwc (a : List Int) (a_n a_c : Nat) (b : List Int) (aa b_c : Nat) (v5 : Int) (Z : Env -> Heap -> Prop) (h : ((0 <= v5)) /\ ((v5 < ((a_n : Nat) : Int))) /\ (((0 + (Int.toNat v5)) < a_n)) /\ ((0 <= v5)) /\ ((v5 < ((aa : Nat) : Int))) /\ (((0 + (Int.toNat v5)) < aa)) /\ Z (Yd3 a_n a_c aa b_c v5 a b) (Yd1 a_n a aa b)) : EvQC Zcg ZjQ [] (Yd2 a_n a_c aa b_c v5) (Yd1 a_n a aa b) [0, 1, 5, 25] [0, 1] Z := EvQC.of (by kernel_rfl) h
def Znp (a : List Int) (a_n a_c : Nat) (b : List Int) (aa b_c : Nat) (v5 : Int) : Prop := ((0 <= v5)) /\ (((v5 < ((a_n : Nat) : Int))) /\ ((((0 + (Int.toNat v5)) < a_n)) /\ (((0 <= v5)) /\ (((v5 < ((aa : Nat) : Int))) /\ ((((0 + (Int.toNat v5)) < aa)) /\ (Zpn a a_n a_c b aa b_c v5))))))
theorem Zyt (a : List Int) (a_n a_c : Nat) (b : List Int) (aa b_c : Nat) (hK : Za5 a a_n a_c b aa b_c Kf) (v5 : Int) (h : Znp a a_n a_c b aa b_c v5) : SemL Try.prog w0 fp ρi 2 26 [ZqW, Zms] (Yd2 a_n a_c aa b_c v5) (Yd1 a_n a aa b) (ZlC w0 fp ρi Kf a a_n a_c b aa b_c v5) :=
  Zh8 ZbV (its := ZjQ) (Zwc a a_n a_c b aa b_c v5 _ ⟨h.1, ⟨h.2.1, ⟨h.2.2.1, ⟨h.2.2.2.1, ⟨h.2.2.2.2.1, ⟨h.2.2.2.2.2.1, (Zyu a a_n a_c b aa b_c hK v5 h.2.2.2.2.2.2)⟩⟩⟩⟩⟩⟩)
theorem Zys (a : List Int) (a_n a_c : Nat) (b : List Int) (aa b_c : Nat) (hK : Za5 a a_n a_c b aa b_c Kf) (v5 : Int) (h : Znp a a_n a_c b aa b_c v5) : SemL Try.prog w0 fp ρi 2 26 [Zg6, ZdV] (Yd2 a_n a_c aa b_c v5) (Yd1 a_n a aa b) (Zga w0 fp ρi Kf a a_n a_c b aa b_c v5) :=
  Zbx (Zar (Zyt a a_n a_c b aa b_c hK v5 h))
theorem Zwb (a : List Int) (a_n a_c : Nat) (b : List Int) (aa b_c : Nat) (Z : Env -> Heap -> Prop) (h : Z [(4, some (.bool true))] (Yd1 a_n a aa b)) : EvC Zcg Zce [] (Yd1 a_n a aa b) [4] [0, 1] Z := EvC.of (by kernel_rfl) h
theorem Ztp (a : List Int) (a_n a_c : Nat) (b : List Int) (aa b_c : Nat) : RetC Zbe [(4, some (.bool true))] (Yd1 a_n a aa b) (.bool true) := RetC.of (fun Z => by kernel_rfl)
def Zpm (a : List Int) (a_n a_c : Nat) (b : List Int) (aa b_c : Nat) : Prop := true = (a == b)
theorem Zyr (a : List Int) (a_n a_c : Nat) (b : List Int) (aa b_c : Nat) (hK : Za5 a a_n a_c b aa b_c Kf) (h : Zpm a a_n a_c b aa b_c) : SemL Try.prog w0 fp ρi 2 26 [Zce, .ret] [] (Yd1 a_n a aa b) (fnK Zbe 2 Kf) :=
  Zan ZbV (Zwb a a_n a_c b aa b_c _ (ZaX (R := Zbe) (m := 2) (Kf := Kf) (fun _ _ h => h) (Ztp a a_n a_c b aa b_c) (Eq.mpr (cg1 (fun (z1 : Bool) => Ret 2 Kf (.bool z1) (Yd1 a_n a aa b)) h) (Zhl [] [0, 1] rfl rfl (by kernel_rfl) pbd (hsc pcs (hsc pcs Zak)) (by kernel_rfl) rfl (hK)))))
def Zno (a : List Int) (a_n a_c : Nat) (b : List Int) (aa b_c : Nat) (v5 : Int) : Prop := ((decide (v5 < ((a_n : Nat) : Int))) = true -> (Znp a a_n a_c b aa b_c v5)) /\ ((decide (v5 < ((a_n : Nat) : Int))) = false -> (Zpm a a_n a_c b aa b_c))
abbrev Yd4 (x0 x1 x2 x3 : Nat) (x4 : Int) : Env := [(0, some (.slice ⟨0, 0, 0, 1⟩ x0 x1)), (1, some (.slice ⟨1, 0, 0, 1⟩ x2 x3)), (5, some (.int .i64 x4)), (14, some (.bool (decide (x4 < ((x0 : Nat) : Int)))))]
theorem Zyq (a : List Int) (a_n a_c : Nat) (b : List Int) (aa b_c : Nat) (hK : Za5 a a_n a_c b aa b_c Kf) (v5 : Int) (h : Zno a a_n a_c b aa b_c v5) : SemL Try.prog w0 fp ρi 2 26 [Zmu, (.seq Zg6 ZdV)] (Yd4 a_n a_c aa b_c v5) (Yd1 a_n a aa b) (Zga w0 fp ρi Kf a a_n a_c b aa b_c v5) :=
  Za8 (q := (decide (v5 < ((a_n : Nat) : Int)))) (by kernel_rfl) (fun hq => (ZbD (lpk [0, 1, 5] [0, 1] (Zar (Zys a a_n a_c b aa b_c hK v5 (h.1 hq)))))) (fun hq => (Zia (lpk [] [0, 1] (Zar (Zyr a a_n a_c b aa b_c hK (h.2 hq))))))
theorem Zwa (a : List Int) (a_n a_c : Nat) (b : List Int) (aa b_c : Nat) (v5 : Int) (Z : Env -> Heap -> Prop) (h : Z (Yd4 a_n a_c aa b_c v5) (Yd1 a_n a aa b)) : EvC Zcg Zmv (Yd2 a_n a_c aa b_c v5) (Yd1 a_n a aa b) [0, 1, 5, 14] [0, 1] Z := EvC.of (by kernel_rfl) h
theorem Zyp (a : List Int) (a_n a_c : Nat) (b : List Int) (aa b_c : Nat) (hK : Za5 a a_n a_c b aa b_c Kf) (v5 : Int) (h : Zno a a_n a_c b aa b_c v5) : SemL Try.prog w0 fp ρi 2 26 [Zmv, Zmu, (.seq Zg6 ZdV)] (Yd2 a_n a_c aa b_c v5) (Yd1 a_n a aa b) (Zga w0 fp ρi Kf a a_n a_c b aa b_c v5) :=
  Zan ZbV (Zwa a a_n a_c b aa b_c v5 _ (Zyq a a_n a_c b aa b_c hK v5 h))
def Zkq (a : List Int) (a_n a_c : Nat) (b : List Int) (aa b_c : Nat) : Prop := (0 <= (0 : Int) /\ (0 : Int) <= (a_n : Int) /\ a_n = aa /\ List.take (Int.toNat (0 : Int)) a = List.take (Int.toNat (0 : Int)) b) /\ (∀ (v5 : Int), (0 <= v5 /\ v5 <= (a_n : Int) /\ a_n = aa /\ List.take (Int.toNat v5) a = List.take (Int.toNat v5) b) -> (Zno a a_n a_c b aa b_c v5))
abbrev Yd5 (x0 x1 x2 x3 : Nat) : Env := [(0, some (.slice ⟨0, 0, 0, 1⟩ x0 x1)), (1, some (.slice ⟨1, 0, 0, 1⟩ x2 x3)), (5, some (.int .i64 0))]
theorem Zyo (a : List Int) (a_n a_c : Nat) (b : List Int) (aa b_c : Nat) (hK : Za5 a a_n a_c b aa b_c Kf) (h : Zkq a a_n a_c b aa b_c) : SemL Try.prog w0 fp ρi 2 26 [Zn3] (Yd5 a_n a_c aa b_c) (Yd1 a_n a aa b) (Zqv w0 fp ρi Kf a a_n a_c b aa b_c) :=
  Zh9 (ZqB a a_n a_c b aa b_c) (Zqd a a_n a_c b aa b_c) (Zqo a a_n a_c b aa b_c) (Zqj a a_n a_c b aa b_c) ⟨0, tau [], h.1, (Zbk [] [0, 1] rfl rfl (esc bsl (esc bsl (esc pbd ZaZ))) (hsc pcs (hsc pcs Zak)) (by kernel_rfl) rfl)⟩ (fun s => match s with | v5 => fun hi => (Zar (Zar (Zyp a a_n a_c b aa b_c hK v5 (h.2 v5 hi)))))
theorem Zt8 (a : List Int) (a_n a_c : Nat) (b : List Int) (aa b_c : Nat) (hK : Za5 a a_n a_c b aa b_c Kf) (h : Zkq a a_n a_c b aa b_c) : SemL Try.prog w0 fp ρi 2 26 [ZdU, (.seq Zce .ret)] (Yd5 a_n a_c aa b_c) (Yd1 a_n a aa b) (fnK Zbe 2 Kf) :=
  Zbx (Zyo a a_n a_c b aa b_c hK h)
abbrev Yd6 (x0 x1 x2 x3 : Nat) : Env := [(0, some (.slice ⟨0, 0, 0, 1⟩ x0 x1)), (1, some (.slice ⟨1, 0, 0, 1⟩ x2 x3))]
theorem Zs4 (a : List Int) (a_n a_c : Nat) (b : List Int) (aa b_c : Nat) (Z : Env -> Heap -> Prop) (h : Z (Yd5 a_n a_c aa b_c) (Yd1 a_n a aa b)) : EvC Zcg Zfd (Yd6 a_n a_c aa b_c) (Yd1 a_n a aa b) [0, 1, 5] [0, 1] Z := EvC.of (by kernel_rfl) h
theorem Zt7 (a : List Int) (a_n a_c : Nat) (b : List Int) (aa b_c : Nat) (hK : Za5 a a_n a_c b aa b_c Kf) (h : Zkq a a_n a_c b aa b_c) : SemL Try.prog w0 fp ρi 2 26 [Zfd, ZdU, (.seq Zce .ret)] (Yd6 a_n a_c aa b_c) (Yd1 a_n a aa b) (fnK Zbe 2 Kf) :=
  Zan ZbV (Zs4 a a_n a_c b aa b_c _ (Zt8 a a_n a_c b aa b_c hK h))
def ZfY (a : List Int) (a_n a_c : Nat) (b : List Int) (aa b_c : Nat) : Prop := ((((a_n : Nat) : Int) != ((aa : Nat) : Int)) = true -> (Zpq a a_n a_c b aa b_c)) /\ ((((a_n : Nat) : Int) != ((aa : Nat) : Int)) = false -> (Zkq a a_n a_c b aa b_c))
abbrev Yd7 (x0 x1 x2 x3 : Nat) : Env := [(0, some (.slice ⟨0, 0, 0, 1⟩ x0 x1)), (1, some (.slice ⟨1, 0, 0, 1⟩ x2 x3)), (10, some (.bool (((x0 : Nat) : Int) != ((x2 : Nat) : Int))))]
theorem Zt6 (a : List Int) (a_n a_c : Nat) (b : List Int) (aa b_c : Nat) (hK : Za5 a a_n a_c b aa b_c Kf) (h : ZfY a a_n a_c b aa b_c) : SemL Try.prog w0 fp ρi 2 26 [ZjR, (.seq (.seq Zfd ZdU) (.seq Zce .ret))] (Yd7 a_n a_c aa b_c) (Yd1 a_n a aa b) (fnK Zbe 2 Kf) :=
  Za8 (q := (((a_n : Nat) : Int) != ((aa : Nat) : Int))) (by kernel_rfl) (fun hq => (Zar (lpk [] [0, 1] (Zyx a a_n a_c b aa b_c hK (h.1 hq))))) (fun hq => (ZbD (lpk [0, 1] [0, 1] (Zar (Zar (Zt7 a a_n a_c b aa b_c hK (h.2 hq)))))))
theorem Zs3 (a : List Int) (a_n a_c : Nat) (b : List Int) (aa b_c : Nat) (Z : Env -> Heap -> Prop) (h : Z (Yd7 a_n a_c aa b_c) (Yd1 a_n a aa b)) : EvC Zcg ZjS (Yd6 a_n a_c aa b_c) (Yd1 a_n a aa b) [0, 1, 10] [0, 1] Z := EvC.of (by kernel_rfl) h
theorem Zt5 (a : List Int) (a_n a_c : Nat) (b : List Int) (aa b_c : Nat) (hK : Za5 a a_n a_c b aa b_c Kf) (h : ZfY a a_n a_c b aa b_c) : SemL Try.prog w0 fp ρi 2 26 [ZjS, ZjR, (.seq (.seq Zfd ZdU) (.seq Zce .ret))] (Yd6 a_n a_c aa b_c) (Yd1 a_n a aa b) (fnK Zbe 2 Kf) :=
  Zan ZbV (Zs3 a a_n a_c b aa b_c _ (Zt6 a a_n a_c b aa b_c hK h))
theorem Zs2 (a : List Int) (a_n a_c : Nat) (b : List Int) (aa b_c : Nat) (Z : Env -> Heap -> Prop) (h : Z (Yd6 a_n a_c aa b_c) (Yd1 a_n a aa b)) : EvC Zcg Zmx (Yd6 a_n a_c aa b_c) (Yd1 a_n a aa b) [0, 1] [0, 1] Z := EvC.of (by kernel_rfl) h
theorem Zt4 (a : List Int) (a_n a_c : Nat) (b : List Int) (aa b_c : Nat) (hK : Za5 a a_n a_c b aa b_c Kf) (h : ZfY a a_n a_c b aa b_c) : SemL Try.prog w0 fp ρi 2 26 [Zmx, (.seq (.seq ZjS ZjR) (.seq (.seq Zfd ZdU) (.seq Zce .ret)))] (Yd6 a_n a_c aa b_c) (Yd1 a_n a aa b) (fnK Zbe 2 Kf) :=
  Zan ZbV (Zs2 a a_n a_c b aa b_c _ (Zar (Zar (Zt5 a a_n a_c b aa b_c hK h))))
theorem Zrn (a : List Int) (a_n a_c : Nat) (b : List Int) (aa b_c : Nat) (hK : Za5 a a_n a_c b aa b_c Kf) (h : ZfY a a_n a_c b aa b_c) : SemL Try.prog w0 fp ρi 2 26 [Zn5] (Yd6 a_n a_c aa b_c) (Yd1 a_n a aa b) (fnK Zbe 2 Kf) :=
  (Zar (Zt4 a a_n a_c b aa b_c hK h))
end
theorem Zp5 (a : List Int) (a_n a_c : Nat) (b : List Int) (aa b_c : Nat) (hpre : ((List.length a = a_n /\ a_n <= a_c /\ a_n <= 1000000) /\ (List.length b = aa /\ aa <= b_c /\ aa <= 1000000))) : ZfY a a_n a_c b aa b_c := by
  unfold ZfY Zkq Zno Zpm Znp Zpn Zpo Zpp Zpq
  obtain ⟨⟨ha, -, ha2⟩, hb, -, hb2⟩ := hpre
  refine ⟨fun h => ?_, fun h => ⟨?_, ?_⟩⟩
  · simp only [bne_iff_ne, ne_eq] at h
    exact (beq_eq_false_iff_ne.2 fun he => h (by rw [<- ha, <- hb, he])).symm
  · simp only [bne_eq_false_iff_eq] at h
    exact ⟨by omega, by omega, by omega, rfl⟩
  · rintro i ⟨h0, h1, rfl, ht⟩
    refine ⟨fun hlt => ?_, fun hge => ?_⟩
    · have hlt := of_decide_eq_true hlt
      refine ⟨h0, hlt, by omega, h0, hlt, by omega, fun hd => ?_, fun hd => ?_⟩
      · simp only [bne_iff_ne, ne_eq] at hd
        exact (beq_eq_false_iff_ne.2 fun he => hd (by rw [he])).symm
      · simp only [bne_eq_false_iff_eq, Nat.zero_add] at hd
        have e1 : IntKind.i64.wrap (i + 1) = i + 1 := by rw [Zrq]; omega
        have e2 : (i + 1).toNat = i.toNat + 1 := by omega
        rw [e1, e2, ZeU (by omega), ZeU (by omega), ht, hd]
        exact ⟨⟨by omega, by omega, rfl, rfl⟩, by omega⟩
    · have hge := of_decide_eq_false hge
      rw [List.take_of_length_le (by omega), List.take_of_length_le (by omega)] at ht
      rw [ht]; simp
theorem sq11Same : Sound Try.prog 23 (dS Zkh) := by
  refine Za2 Zj8 ?_
  rintro args H K ⟨ds, rfl, rfl, h⟩
  split at h
  · rename_i pre rs ws hD
    obtain ⟨hpre, hK⟩ := h
    unfold Zkh at hD
    split at hD
    · cases hD
      exact ⟨rfl, fun w0 fp ρi => Zrn _ _ _ _ _ _ hK (Zp5 _ _ _ _ _ _ hpre)⟩
    · cases hD
  · exact h.elim
def Zgl : Zd4 := fun args H => match args, H with
  | [], ⟨0, []⟩ => some (True, fun K => K (.bool true) ⟨0, []⟩)
  | _, _ => none
def Zk3 : Con := ⟨15, gS Zgl, [], [], []⟩
def ZmO : ACode := .reg (.op (some 0) (.mov (.cn (.bool false))) .nil)
def Zj7 : ACode := .reg (.op (some 4) (.build [.i 0, .i 0] [(0, 1, (.cn (.int .i64 1))), (1, 1, (.cn (.int .i64 2)))]) (.op (some 5) (.call 16 [(.tm 4)]) (.op (some 1) (.mov (.tm 5)) .nil)))
def ZhX : ACode := .reg (.op (some 6) (.mov (.tm 1)) (.op (some 7) (.call 17 [(.tm 6), (.cn (.int .i64 5)), (.cn (.int .i64 1))]) (.op (some 8) (.mov (.tm 1)) (.op (some 9) (.call 17 [(.tm 8), (.cn (.int .i64 7)), (.cn (.int .i64 2))]) (.op (some 2) (.mov (.tm 7)) (.op (some 3) (.mov (.tm 9)) .nil))))))
def Zge : ACode := .reg (.op (some 10) (.mov (.tm 2)) (.op (some 11) (.bin .eql (.tm 10) (.cn (.int .i64 0))) (.op (some 12) (.mov (.tm 11)) (.grpJ 12 true (.op (some 13) (.mov (.tm 3)) (.op (some 14) (.bin .eql (.tm 13) (.cn (.int .i64 0))) .nil)) 15 (.tm 14) (.cn (.bool false)) (.op (some 16) (.mov (.tm 15)) (.grp 16 true (.op (some 17) (.mov (.tm 1)) (.op (some 18) (.call 20 [(.tm 17), (.cn (.int .i64 5))]) .nil)) (.op (some 19) (.pick (.tm 16) (.tm 18) (.cn (.bool false))) (.op (some 20) (.mov (.tm 19)) (.grpJ 20 true (.op (some 21) (.mov (.tm 1)) (.op (some 22) (.call 21 [(.tm 21), (.cn (.int .i64 0))]) (.op (some 23) (.bslice .i64 2 [(0, (.cn (.int .i64 7))), (1, (.cn (.int .i64 5)))]) (.op (some 24) (.call 23 [(.tm 22), (.tm 23)]) .nil)))) 25 (.tm 24) (.cn (.bool false)) (.op (some 26) (.mov (.tm 25)) (.grp 26 true (.op (some 27) (.mov (.tm 1)) (.op (some 28) (.call 17 [(.tm 27), (.cn (.int .i64 9)), (.cn (.int .i64 3))]) (.op (some 29) (.bin .eql (.tm 28) (.cn (.int .i64 5))) .nil))) (.op (some 30) (.pick (.tm 26) (.tm 29) (.cn (.bool false))) (.op (some 0) (.mov (.tm 30)) .nil)))))))))))))
def ZiM : ACode := (.seq ZmO (.seq Zj7 (.seq ZhX (.seq Zge .ret))))
def Za3 : Res := .one (.tm 0)
theorem ZhZ : ZbX Try.prog 15 0 31 ZiM Za3 = true := by kernel_rfl
def Zdy : ZaC := Zrp Zvd ZsG (Zdz [] [ZoM])
theorem ZdK : ZaT Try.prog Zdy := Zm4 Zrs Zm6 (Zba trivial ⟨sq11Same.dC, trivial⟩)
section
variable {w0 : World} {fp : Nat -> Nat -> Prop} {ρi : Rho} {Kf : SVal -> Heap -> Prop}
abbrev Yd8 (x0 : List (Tup Zac)) : Heap := ⟨1, [(0, some ⟨false, [.rows Zac 0 x0], 2⟩)]⟩
abbrev Yd9 (x0 : List (Tup Zac)) : Env := [(0, some (.bool ((CacheV.setR (Zay (CacheV.code (CacheV.touchC (Zay x0) (5 : Int)))) (9 : Int) (3 : Int)) == 5)))]
abbrev ZAl : Env := [(0, some (.bool false))]
abbrev ZBZ (x0 x1 : Int) : Env := [(1, some (.ptr ⟨0, 0, 0, 1⟩ 2)), (2, some (.int .i64 x0)), (3, some (.int .i64 x1))]
theorem Zw2 (v2 v3 : Int) (ab : List (Tup Zac)) (Z : Env -> Heap -> Prop) (h : ∃ qq : Bool, ((v2 == 0) = true -> (Zb3 (Yd8 ab) (Yd8 ab) [(0, some ⟨false, [.rows Zac 0 ab], 2⟩)]) /\ (v3 == 0) = qq) /\ ((v2 == 0) = false -> false = qq) /\ (qq = true -> ((CacheV.Good (Zay ab) /\ I64 (5 : Int))) /\ ∃ qq'1 : Bool, ((CacheV.hasB (Zay ab) (5 : Int)) = true -> ((CacheV.Good (Zay (CacheV.code (CacheV.touchC (Zay ab) (5 : Int)))) /\ I64 (0 : Int))) /\ ∀ (c : Nat), (List.length (CacheV.oldL (Zay (CacheV.code (CacheV.touchC (Zay ab) (5 : Int)))) (0 : Int))) <= c -> (((0 + (List.length (CacheV.oldL (Zay (CacheV.code (CacheV.touchC (Zay ab) (5 : Int)))) (0 : Int)))) <= (List.length (CacheV.oldL (Zay (CacheV.code (CacheV.touchC (Zay ab) (5 : Int)))) (0 : Int))))) /\ (((2 : Nat) <= 2)) /\ (((List.length (CacheV.oldL (Zay (CacheV.code (CacheV.touchC (Zay ab) (5 : Int)))) (0 : Int))) = (List.length (CacheV.oldL (Zay (CacheV.code (CacheV.touchC (Zay ab) (5 : Int)))) (0 : Int))))) /\ (((2 : Nat) = 2)) /\ (((List.length (List.take (List.length (CacheV.oldL (Zay (CacheV.code (CacheV.touchC (Zay ab) (5 : Int)))) (0 : Int))) (CacheV.oldL (Zay (CacheV.code (CacheV.touchC (Zay ab) (5 : Int)))) (0 : Int))) = (List.length (CacheV.oldL (Zay (CacheV.code (CacheV.touchC (Zay ab) (5 : Int)))) (0 : Int))) /\ (List.length (CacheV.oldL (Zay (CacheV.code (CacheV.touchC (Zay ab) (5 : Int)))) (0 : Int))) <= c /\ (List.length (CacheV.oldL (Zay (CacheV.code (CacheV.touchC (Zay ab) (5 : Int)))) (0 : Int))) <= 1000000) /\ (List.length ([7, 5] : List Int) = 2 /\ 2 <= 2 /\ 2 <= 1000000))) /\ (Zb3 ⟨3, [(0, some ⟨false, [.rows Zac 0 (CacheV.code (CacheV.touchC (Zay ab) (5 : Int)))], 2⟩), (1, some ⟨true, [.ints .i64 (List.length (CacheV.oldL (Zay (CacheV.code (CacheV.touchC (Zay ab) (5 : Int)))) (0 : Int))) (CacheV.oldL (Zay (CacheV.code (CacheV.touchC (Zay ab) (5 : Int)))) (0 : Int))], (c - (List.length (CacheV.oldL (Zay (CacheV.code (CacheV.touchC (Zay ab) (5 : Int)))) (0 : Int))))⟩), (2, some ⟨true, [.ints .i64 2 [7, 5]], 0⟩)]⟩ ⟨1, [(0, some ⟨false, [.rows Zac 0 (CacheV.code (CacheV.touchC (Zay ab) (5 : Int)))], 2⟩), (0, some ⟨false, [.rows Zac 0 (CacheV.code (CacheV.touchC (Zay ab) (5 : Int)))], 2⟩)]⟩ [(0, some ⟨false, [.rows Zac 0 (CacheV.code (CacheV.touchC (Zay ab) (5 : Int)))], 2⟩), (0, some ⟨false, [.rows Zac 0 (CacheV.code (CacheV.touchC (Zay ab) (5 : Int)))], 2⟩)]) /\ ((List.take (List.length (CacheV.oldL (Zay (CacheV.code (CacheV.touchC (Zay ab) (5 : Int)))) (0 : Int))) (CacheV.oldL (Zay (CacheV.code (CacheV.touchC (Zay ab) (5 : Int)))) (0 : Int))) == ([7, 5] : List Int)) = qq'1) /\ ((CacheV.hasB (Zay ab) (5 : Int)) = false -> false = qq'1) /\ (qq'1 = true -> ((CacheV.Good (Zay (CacheV.code (CacheV.touchC (Zay ab) (5 : Int)))) /\ I64 (9 : Int))) /\ Z (Yd9 ab) ⟨1, []⟩) /\ (qq'1 = false -> Z ZAl ⟨1, []⟩)) /\ (qq = false -> ∃ qq'2 : Bool, (false = true -> ((CacheV.Good (Zay ab) /\ I64 (0 : Int))) /\ ∀ (ac : Nat), (List.length (CacheV.oldL (Zay ab) (0 : Int))) <= ac -> (((0 + (List.length (CacheV.oldL (Zay ab) (0 : Int)))) <= (List.length (CacheV.oldL (Zay ab) (0 : Int))))) /\ (((2 : Nat) <= 2)) /\ (((List.length (CacheV.oldL (Zay ab) (0 : Int))) = (List.length (CacheV.oldL (Zay ab) (0 : Int))))) /\ (((2 : Nat) = 2)) /\ (((List.length (List.take (List.length (CacheV.oldL (Zay ab) (0 : Int))) (CacheV.oldL (Zay ab) (0 : Int))) = (List.length (CacheV.oldL (Zay ab) (0 : Int))) /\ (List.length (CacheV.oldL (Zay ab) (0 : Int))) <= ac /\ (List.length (CacheV.oldL (Zay ab) (0 : Int))) <= 1000000) /\ (List.length ([7, 5] : List Int) = 2 /\ 2 <= 2 /\ 2 <= 1000000))) /\ (Zb3 ⟨3, [(0, some ⟨false, [.rows Zac 0 ab], 2⟩), (1, some ⟨true, [.ints .i64 (List.length (CacheV.oldL (Zay ab) (0 : Int))) (CacheV.oldL (Zay ab) (0 : Int))], (ac - (List.length (CacheV.oldL (Zay ab) (0 : Int))))⟩), (2, some ⟨true, [.ints .i64 2 [7, 5]], 0⟩)]⟩ (Yd8 ab) [(0, some ⟨false, [.rows Zac 0 ab], 2⟩)]) /\ ((List.take (List.length (CacheV.oldL (Zay ab) (0 : Int))) (CacheV.oldL (Zay ab) (0 : Int))) == ([7, 5] : List Int)) = qq'2) /\ (false = false -> false = qq'2) /\ (qq'2 = true -> ((CacheV.Good (Zay ab) /\ I64 (9 : Int))) /\ Z [(0, some (.bool ((CacheV.setR (Zay ab) (9 : Int) (3 : Int)) == 5)))] ⟨1, []⟩) /\ (qq'2 = false -> Z ZAl ⟨1, []⟩))) : EvC Zdy Zge (ZBZ v2 v3) (Yd8 ab) [0] [] Z := EvC.of (by kernel_rfl) h
theorem ZtN (ab : List (Tup Zac)) : RetC Za3 (Yd9 ab) ⟨1, []⟩ (.bool ((CacheV.setR (Zay (CacheV.code (CacheV.touchC (Zay ab) (5 : Int)))) (9 : Int) (3 : Int)) == 5)) := RetC.of (fun Z => by kernel_rfl)
theorem ZtM : RetC Za3 ZAl ⟨1, []⟩ (.bool false) := RetC.of (fun Z => by kernel_rfl)
theorem ZtL (ab : List (Tup Zac)) : RetC Za3 [(0, some (.bool ((CacheV.setR (Zay ab) (9 : Int) (3 : Int)) == 5)))] ⟨1, []⟩ (.bool ((CacheV.setR (Zay ab) (9 : Int) (3 : Int)) == 5)) := RetC.of (fun Z => by kernel_rfl)
theorem ZtK : RetC Za3 ZAl ⟨1, []⟩ (.bool false) := RetC.of (fun Z => by kernel_rfl)
def ZpL (v2 v3 : Int) (ab : List (Tup Zac)) : Prop := (((v2 == 0) && (v3 == 0)) = true -> (((CacheV.Good (Zay ab) /\ I64 (5 : Int))) /\ (((CacheV.hasB (Zay ab) (5 : Int)) = true -> (((CacheV.Good (Zay (CacheV.code (CacheV.touchC (Zay ab) (5 : Int)))) /\ I64 (0 : Int))) /\ (∀ (c : Nat), ((List.length (CacheV.oldL (Zay (CacheV.code (CacheV.touchC (Zay ab) (5 : Int)))) (0 : Int))) <= c) -> ((((0 + (List.length (CacheV.oldL (Zay (CacheV.code (CacheV.touchC (Zay ab) (5 : Int)))) (0 : Int)))) <= (List.length (CacheV.oldL (Zay (CacheV.code (CacheV.touchC (Zay ab) (5 : Int)))) (0 : Int))))) /\ (((List.length (List.take (List.length (CacheV.oldL (Zay (CacheV.code (CacheV.touchC (Zay ab) (5 : Int)))) (0 : Int))) (CacheV.oldL (Zay (CacheV.code (CacheV.touchC (Zay ab) (5 : Int)))) (0 : Int))) = (List.length (CacheV.oldL (Zay (CacheV.code (CacheV.touchC (Zay ab) (5 : Int)))) (0 : Int))) /\ (List.length (CacheV.oldL (Zay (CacheV.code (CacheV.touchC (Zay ab) (5 : Int)))) (0 : Int))) <= c /\ (List.length (CacheV.oldL (Zay (CacheV.code (CacheV.touchC (Zay ab) (5 : Int)))) (0 : Int))) <= 1000000) /\ (List.length ([7, 5] : List Int) = 2 /\ 2 <= 2 /\ 2 <= 1000000))))))) /\ ((((CacheV.hasB (Zay ab) (5 : Int)) && ((List.take (List.length (CacheV.oldL (Zay (CacheV.code (CacheV.touchC (Zay ab) (5 : Int)))) (0 : Int))) (CacheV.oldL (Zay (CacheV.code (CacheV.touchC (Zay ab) (5 : Int)))) (0 : Int))) == ([7, 5] : List Int))) = true -> (((CacheV.Good (Zay (CacheV.code (CacheV.touchC (Zay ab) (5 : Int)))) /\ I64 (9 : Int))) /\ (((CacheV.setR (Zay (CacheV.code (CacheV.touchC (Zay ab) (5 : Int)))) (9 : Int) (3 : Int)) == 5) = true))) /\ (((CacheV.hasB (Zay ab) (5 : Int)) && ((List.take (List.length (CacheV.oldL (Zay (CacheV.code (CacheV.touchC (Zay ab) (5 : Int)))) (0 : Int))) (CacheV.oldL (Zay (CacheV.code (CacheV.touchC (Zay ab) (5 : Int)))) (0 : Int))) == ([7, 5] : List Int))) = false -> (false = true)))))) /\ (((v2 == 0) && (v3 == 0)) = false -> ((false = true -> (((CacheV.Good (Zay ab) /\ I64 (0 : Int))) /\ (∀ (ac : Nat), ((List.length (CacheV.oldL (Zay ab) (0 : Int))) <= ac) -> ((((0 + (List.length (CacheV.oldL (Zay ab) (0 : Int)))) <= (List.length (CacheV.oldL (Zay ab) (0 : Int))))) /\ (((List.length (List.take (List.length (CacheV.oldL (Zay ab) (0 : Int))) (CacheV.oldL (Zay ab) (0 : Int))) = (List.length (CacheV.oldL (Zay ab) (0 : Int))) /\ (List.length (CacheV.oldL (Zay ab) (0 : Int))) <= ac /\ (List.length (CacheV.oldL (Zay ab) (0 : Int))) <= 1000000) /\ (List.length ([7, 5] : List Int) = 2 /\ 2 <= 2 /\ 2 <= 1000000))))))) /\ (((false && ((List.take (List.length (CacheV.oldL (Zay ab) (0 : Int))) (CacheV.oldL (Zay ab) (0 : Int))) == ([7, 5] : List Int))) = true -> (((CacheV.Good (Zay ab) /\ I64 (9 : Int))) /\ (((CacheV.setR (Zay ab) (9 : Int) (3 : Int)) == 5) = true))) /\ ((false && ((List.take (List.length (CacheV.oldL (Zay ab) (0 : Int))) (CacheV.oldL (Zay ab) (0 : Int))) == ([7, 5] : List Int))) = false -> (false = true)))))
abbrev ZzY (x0 : SVal -> Heap -> Prop) : Prop := x0 (.bool true) ⟨0, []⟩
theorem Zzv (hK : (ZzY Kf)) (v2 v3 : Int) (ab : List (Tup Zac)) (h : ZpL v2 v3 ab) : SemL Try.prog w0 fp ρi 0 31 [Zge, .ret] (ZBZ v2 v3) (Yd8 ab) (fnK Za3 0 Kf) :=
  Zan ZdK (Zw2 v2 v3 ab _ ⟨((v2 == 0) && (v3 == 0)), fun hc_qq => ⟨(Ziv _), (qa1 hc_qq)⟩, fun hc_qq => qa2 hc_qq, ⟨fun hc1 => ⟨(h.1 hc1).1, ⟨((CacheV.hasB (Zay ab) (5 : Int)) && ((List.take (List.length (CacheV.oldL (Zay (CacheV.code (CacheV.touchC (Zay ab) (5 : Int)))) (0 : Int))) (CacheV.oldL (Zay (CacheV.code (CacheV.touchC (Zay ab) (5 : Int)))) (0 : Int))) == ([7, 5] : List Int))), fun hc_qq_1 => ⟨((h.1 hc1).2.1 hc_qq_1).1, (fun c h_c_0 => ⟨(((h.1 hc1).2.1 hc_qq_1).2 c h_c_0).1, ⟨(by decide), ⟨rfl, ⟨rfl, ⟨(((h.1 hc1).2.1 hc_qq_1).2 c h_c_0).2, ⟨(ZkP [0, 0] (by kernel_rfl) (by kernel_rfl)), (qa1 hc_qq_1)⟩⟩⟩⟩⟩⟩)⟩, fun hc_qq_1 => qa2 hc_qq_1, ⟨fun hc2 => ⟨((h.1 hc1).2.2.1 hc2).1, (ZaX (R := Za3) (m := 0) (Kf := Kf) (fun _ _ h => h) (ZtN ab) (ZaM (Eq.mpr (cg1 (fun (z1 : Bool) => Zd2 0 Kf (.bool z1) ⟨1, []⟩) ((h.1 hc1).2.2.1 hc2).2) (ZaE [] [] rfl (by kernel_rfl) rfl pbd Zak rfl (by kernel_rfl) (hK)))))⟩, fun hc2 => (ZaX (R := Za3) (m := 0) (Kf := Kf) (fun _ _ h => h) (ZtM) (ZaM (Eq.mpr (cg1 (fun (z1 : Bool) => Zd2 0 Kf (.bool z1) ⟨1, []⟩) ((h.1 hc1).2.2.2 hc2)) (ZaE [] [] rfl (by kernel_rfl) rfl pbd Zak rfl (by kernel_rfl) (hK)))))⟩⟩⟩, fun hc1 => ⟨(false && ((List.take (List.length (CacheV.oldL (Zay ab) (0 : Int))) (CacheV.oldL (Zay ab) (0 : Int))) == ([7, 5] : List Int))), fun hc_qq_2 => ⟨((h.2 hc1).1 hc_qq_2).1, (fun ac h_c_1_0 => ⟨(((h.2 hc1).1 hc_qq_2).2 ac h_c_1_0).1, ⟨(by decide), ⟨rfl, ⟨rfl, ⟨(((h.2 hc1).1 hc_qq_2).2 ac h_c_1_0).2, ⟨(ZkP [0] (by kernel_rfl) (by kernel_rfl)), (qa1 hc_qq_2)⟩⟩⟩⟩⟩⟩)⟩, fun hc_qq_2 => qa2 hc_qq_2, ⟨fun hc3 => ⟨((h.2 hc1).2.1 hc3).1, (ZaX (R := Za3) (m := 0) (Kf := Kf) (fun _ _ h => h) (ZtL ab) (ZaM (Eq.mpr (cg1 (fun (z1 : Bool) => Zd2 0 Kf (.bool z1) ⟨1, []⟩) ((h.2 hc1).2.1 hc3).2) (ZaE [] [] rfl (by kernel_rfl) rfl pbd Zak rfl (by kernel_rfl) (hK)))))⟩, fun hc3 => (ZaX (R := Za3) (m := 0) (Kf := Kf) (fun _ _ h => h) (ZtK) (ZaM (Eq.mpr (cg1 (fun (z1 : Bool) => Zd2 0 Kf (.bool z1) ⟨1, []⟩) ((h.2 hc1).2.2 hc3)) (ZaE [] [] rfl (by kernel_rfl) rfl pbd Zak rfl (by kernel_rfl) (hK)))))⟩⟩⟩⟩)
abbrev ZBh : Env := [(1, some (.ptr ⟨0, 0, 0, 1⟩ 2))]
theorem Zw1 (h0 : List (Tup Zac)) (Z : Env -> Heap -> Prop) (h : ((CacheV.Good (Zay h0) /\ I64 (5 : Int))) /\ ((CacheV.Good (Zay (CacheV.code (CacheV.setC (Zay h0) (5 : Int) (1 : Int)))) /\ I64 (7 : Int))) /\ Z [(1, some (.ptr ⟨0, 0, 0, 1⟩ 2)), (2, some (.int .i64 (CacheV.setR (Zay h0) (5 : Int) (1 : Int)))), (3, some (.int .i64 (CacheV.setR (Zay (CacheV.code (CacheV.setC (Zay h0) (5 : Int) (1 : Int)))) (7 : Int) (2 : Int))))] ⟨1, [(0, some ⟨false, [.rows Zac 0 (CacheV.code (CacheV.setC (Zay (CacheV.code (CacheV.setC (Zay h0) (5 : Int) (1 : Int)))) (7 : Int) (2 : Int)))], 2⟩)]⟩) : EvC Zdy ZhX ZBh (Yd8 h0) [1, 2, 3] [0] Z := EvC.of (by kernel_rfl) h
def ZpK (h0 : List (Tup Zac)) : Prop := ((CacheV.Good (Zay h0) /\ I64 (5 : Int))) /\ (((CacheV.Good (Zay (CacheV.code (CacheV.setC (Zay h0) (5 : Int) (1 : Int)))) /\ I64 (7 : Int))) /\ (∀ v2 : Int, v2 = (CacheV.setR (Zay h0) (5 : Int) (1 : Int)) -> ∀ v3 : Int, v3 = (CacheV.setR (Zay (CacheV.code (CacheV.setC (Zay h0) (5 : Int) (1 : Int)))) (7 : Int) (2 : Int)) -> ∀ ab : List (Tup Zac), ab = (CacheV.code (CacheV.setC (Zay (CacheV.code (CacheV.setC (Zay h0) (5 : Int) (1 : Int)))) (7 : Int) (2 : Int))) -> ZpL v2 v3 ab))
theorem Zzu (hK : (ZzY Kf)) (h0 : List (Tup Zac)) (h : ZpK h0) : SemL Try.prog w0 fp ρi 0 31 [ZhX, (.seq Zge .ret)] ZBh (Yd8 h0) (fnK Za3 0 Kf) :=
  Zan ZdK (Zw1 h0 _ ⟨h.1, ⟨h.2.1, (Zar (Zzv hK (CacheV.setR (Zay h0) (5 : Int) (1 : Int)) (CacheV.setR (Zay (CacheV.code (CacheV.setC (Zay h0) (5 : Int) (1 : Int)))) (7 : Int) (2 : Int)) (CacheV.code (CacheV.setC (Zay (CacheV.code (CacheV.setC (Zay h0) (5 : Int) (1 : Int)))) (7 : Int) (2 : Int))) (((h.2.2 (CacheV.setR (Zay h0) (5 : Int) (1 : Int)) rfl) (CacheV.setR (Zay (CacheV.code (CacheV.setC (Zay h0) (5 : Int) (1 : Int)))) (7 : Int) (2 : Int)) rfl) (CacheV.code (CacheV.setC (Zay (CacheV.code (CacheV.setC (Zay h0) (5 : Int) (1 : Int)))) (7 : Int) (2 : Int))) rfl)))⟩⟩)
theorem Zw0 (Z : Env -> Heap -> Prop) (h : (True) /\ Z ZBh ⟨1, [(0, some ⟨false, [.rows Zac 0 (CacheV.code (ZgY (1 : Int) (2 : Int)))], 2⟩)]⟩) : EvC Zdy Zj7 [] ⟨0, []⟩ [1] [0] Z := EvC.of (by kernel_rfl) h
def Zkv : Prop := ∀ h0 : List (Tup Zac), h0 = (CacheV.code (ZgY (1 : Int) (2 : Int))) -> ZpK h0
theorem Zzt (hK : (ZzY Kf)) (h : Zkv) : SemL Try.prog w0 fp ρi 0 31 [Zj7, (.seq ZhX (.seq Zge .ret))] [] ⟨0, []⟩ (fnK Za3 0 Kf) :=
  Zan ZdK (Zw0 _ ⟨True.intro, (Zar (Zzu hK (CacheV.code (ZgY (1 : Int) (2 : Int))) (h (CacheV.code (ZgY (1 : Int) (2 : Int))) rfl)))⟩)
theorem ZwZ (Z : Env -> Heap -> Prop) (h : Z [] ⟨0, []⟩) : EvC Zdy ZmO [] ⟨0, []⟩ [] [] Z := EvC.of (by kernel_rfl) h
theorem Zzs (hK : (ZzY Kf)) (h : Zkv) : SemL Try.prog w0 fp ρi 0 31 [ZmO, (.seq Zj7 (.seq ZhX (.seq Zge .ret)))] [] ⟨0, []⟩ (fnK Za3 0 Kf) :=
  Zan ZdK (ZwZ _ (Zar (Zzt hK h)))
theorem Zok (hK : (ZzY Kf)) (h : Zkv) : SemL Try.prog w0 fp ρi 0 31 [ZiM] [] ⟨0, []⟩ (fnK Za3 0 Kf) :=
  (Zar (Zzs hK h))
end
theorem ZlB (hpre : True) : Zkv := by
  unfold Zkv ZpK ZpL
  simp only [ZcP]
  have e0 : ZgY 1 2 = ⟨2, [[]]⟩ := rfl
  have e1 : (⟨2, [[]]⟩ : CacheV).setC 5 1 = ⟨2, [[(5, 1)]]⟩ := by rfl
  have r1 : (⟨2, [[]]⟩ : CacheV).setR 5 1 = 0 := by rfl
  have e2 : (⟨2, [[(5, 1)]]⟩ : CacheV).setC 7 2 = ⟨2, [[(5, 1), (7, 2)]]⟩ := by rfl
  have r2 : (⟨2, [[(5, 1)]]⟩ : CacheV).setR 7 2 = 0 := by rfl
  have e3 : (⟨2, [[(5, 1), (7, 2)]]⟩ : CacheV).touchC 5 = ⟨2, [[(7, 2), (5, 1)]]⟩ := by rfl
  have r3 : (⟨2, [[(5, 1), (7, 2)]]⟩ : CacheV).hasB 5 = true := by rfl
  have e4 : (⟨2, [[(7, 2), (5, 1)]]⟩ : CacheV).oldL 0 = [7, 5] := by rfl
  have r5 : (⟨2, [[(7, 2), (5, 1)]]⟩ : CacheV).setR 9 3 = 5 := by rfl
  have g : ∀ r : List (Int × Int), r.length <= 2 -> (⟨2, [r]⟩ : CacheV).Good := fun r hr => ⟨by show (1 : Int) <= 2; decide, by show (2 : Int) <= 64; decide, by show 0 < 1; decide, by show 1 <= 64; decide, fun x hx => by
    obtain rfl := List.mem_singleton.1 hx
    simp only; omega⟩
  rintro _ rfl
  simp only [ZcP]
  rw [e0]
  refine ⟨⟨g _ (by decide), by decide, by decide⟩, ⟨by rw [e1]; exact g _ (by decide), by decide, by decide⟩, ?_⟩
  rw [r1, e1, r2, e2]
  rintro _ rfl _ rfl _ rfl
  simp only [ZcP]
  rw [r3, e3, e4, r5]
  exact ⟨fun _ => ⟨⟨g _ (by decide), by decide, by decide⟩, fun _ => ⟨⟨g _ (by decide), by decide, by decide⟩, fun c hc => ⟨by decide, ⟨rfl, hc, by decide⟩, rfl, by decide, by decide⟩⟩, fun _ => ⟨⟨g _ (by decide), by decide, by decide⟩, rfl⟩, fun h => by cases h⟩, fun h => by cases h⟩
theorem Zop : Sound Try.prog 15 (gS Zgl) := by
  refine Za2 ZhZ ?_
  intro args H K h
  obtain ⟨pre, out, hD, hpre, hK⟩ := Zct h
  unfold Zgl at hD
  split at hD
  · cases hD
    exact ⟨rfl, fun w0 fp ρi => Zok hK (ZlB hpre)⟩
  · cases hD
end Go.Proofs.Ytinjdimejijabaa
