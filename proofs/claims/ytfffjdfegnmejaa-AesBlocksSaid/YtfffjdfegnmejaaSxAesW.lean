/- Two parts of the proof. -/
import Derived.Test.YtfffjdfegnmejaaRows
import Derived.Test.YtfffjdfegnmejaaSxV1
import Derived.Test.YtfffjdfegnmejaaSxG
import Derived.Test.YtfffjdfegnmejaaSxMixT
import Derived.Test.YtfffjdfegnmejaaSxPutL
import Derived.Test.YtfffjdfegnmejaaSxAes2
import Derived.KernelRfl

set_option linter.unusedVariables false
set_option linter.unusedSimpArgs false
set_option maxRecDepth 20000
namespace Go.Proofs.Ytfffjdfegnmejaa
open Go.Sx
def Zns : Zgt := fun args => match args with
  | [.int .u8 a] => some ((0 <= a /\ a < 256), .int .u8 (dbl a))
  | _ => none
def Zjs : PCon := ⟨27, Zns⟩
def Zqk : ACode := .reg (.op (some 2) (.mov (.cn (.int .u8 0))) .nil)
def ZmI : ACode := .reg (.op (some 4) (.mov (.tm 0)) (.op (some 5) (.bin .shl (.tm 4) (.cn (.int .u64 1))) (.op (some 3) (.mov (.tm 5)) .nil)))
def Zj5 : ACode := .reg (.op (some 6) (.mov (.tm 0)) (.op (some 7) (.bin .and (.tm 6) (.cn (.int .u8 128))) (.op (some 8) (.bin .gtr (.tm 7) (.cn (.int .u8 0))) .nil)))
def Zqj : ACode := .reg (.op (some 9) (.mov (.tm 3)) (.op (some 10) (.bin .xor (.tm 9) (.cn (.int .u8 27))) (.op (some 3) (.mov (.tm 10)) .nil)))
def Zj4 : ACode := .cond (.tm 8) Zqj .skip
def Zfh : ACode := .reg (.op (some 11) (.mov (.tm 3)) (.op (some 2) (.mov (.tm 11)) .nil))
def ZsL : ACode := (.seq Zqk (.seq ZmI (.seq (.seq Zj5 Zj4) (.seq Zfh .ret))))
def Zcq : Res := .one (.tm 2)
theorem Znh : Zbj Try.prog 27 1 12 ZsL Zcq = true := by kernel_rfl
def ZfO : Zav := Zcl [] []
theorem Zfc : ZaK Try.prog ZfO := ZaL trivial trivial
section
variable {w0 : World} {fp : Nat -> Nat -> Prop} {ρi : Rho} {Kf : SVal -> Heap -> Prop}
abbrev Ya0 : Heap := ⟨0, []⟩
abbrev Ya1 (x0 : Int) : Env := [(3, some (.int .u8 x0))]
theorem ZG2 (a ab : Int) (Z : Env -> Heap -> Prop) (h : Z [(2, some (.int .u8 ab))] Ya0) : EvC ZfO Zfh (Ya1 ab) Ya0 [2] [] Z := EvC.of (by kernel_rfl) h
theorem ZB6 (a ab : Int) : RetC Zcq [(2, some (.int .u8 ab))] Ya0 (.int .u8 ab) := RetC.of (fun Z => by kernel_rfl)
def ZrB (a ab : Int) : Prop := ab = (dbl a)
abbrev Ya2 (x0 : SVal -> Heap -> Prop) (x1 : Int) : Prop := x0 (.int .u8 (dbl x1)) ⟨0, []⟩
theorem ZzQ (a : Int) (hK : (Ya2 Kf a)) (ab : Int) (h : ZrB a ab) : SemL Try.prog w0 fp ρi 0 12 [Zfh, .ret] (Ya1 ab) Ya0 (fnK Zcq 0 Kf) :=
  Zad Zfc (ZG2 a ab _ (Zbv (R := Zcq) (m := 0) (Kf := Kf) (fun _ _ h => h) (ZB6 a ab) (Zbg rfl (by kernel_rfl) (cg1 (fun (z1 : Int) => (.int .u8 z1 : SVal)) h) hK)))
theorem ZG1 (a v3 : Int) (Z : Env -> Heap -> Prop) (h : Z [(3, some (.int .u8 (Zar .u8 v3 27)))] Ya0) : EvC ZfO Zqj (Ya1 v3) Ya0 [3] [] Z := EvC.of (by kernel_rfl) h
def Zui (a v3 : Int) : Prop := ∀ ab : Int, ab = (Zar .u8 v3 27) -> ZrB a ab
theorem ZJ8 (a : Int) (hK : (Ya2 Kf a)) (v3 : Int) (h : Zui a v3) : SemL Try.prog w0 fp ρi 0 12 [Zqj, (.seq Zfh .ret)] (Ya1 v3) Ya0 (fnK Zcq 0 Kf) :=
  Zad Zfc (ZG1 a v3 _ (Zah (ZzQ a hK (Zar .u8 v3 27) (h (Zar .u8 v3 27) rfl))))
def ZrA (a v3 : Int) : Prop := ((decide (0 < (ZaR .u8 a 128))) = true -> (Zui a v3)) /\ ((decide (0 < (ZaR .u8 a 128))) = false -> (ZrB a v3))
theorem ZJ7 (a : Int) (hK : (Ya2 Kf a)) (v3 : Int) (h : ZrA a v3) : SemL Try.prog w0 fp ρi 0 12 [Zj4, (.seq Zfh .ret)] [(3, some (.int .u8 v3)), (8, some (.bool (decide (0 < (ZaR .u8 a 128)))))] Ya0 (fnK Zcq 0 Kf) :=
  ZaJ (q := (decide (0 < (ZaR .u8 a 128)))) (by kernel_rfl) (fun hq => (lpk [3] [] (ZJ8 a hK v3 (h.1 hq)))) (fun hq => (ZaI (lpk [3] [] (Zah (ZzQ a hK v3 (h.2 hq))))))
theorem ZG0 (a v3 : Int) (Z : Env -> Heap -> Prop) (h : Z [(3, some (.int .u8 v3)), (8, some (.bool (decide (0 < (ZaR .u8 a 128)))))] Ya0) : EvC ZfO Zj5 [(0, some (.int .u8 a)), (3, some (.int .u8 v3))] Ya0 [3, 8] [] Z := EvC.of (by kernel_rfl) h
theorem ZJ6 (a : Int) (hK : (Ya2 Kf a)) (v3 : Int) (h : ZrA a v3) : SemL Try.prog w0 fp ρi 0 12 [Zj5, Zj4, (.seq Zfh .ret)] [(0, some (.int .u8 a)), (3, some (.int .u8 v3))] Ya0 (fnK Zcq 0 Kf) :=
  Zad Zfc (ZG0 a v3 _ (ZJ7 a hK v3 h))
abbrev Ya3 (x0 : Int) : Env := [(0, some (.int .u8 x0))]
theorem ZGZ (a : Int) (Z : Env -> Heap -> Prop) (h : (((0 : Int) <= 1)) /\ Z [(0, some (.int .u8 a)), (3, some (.int .u8 (Zgv .u8 a 1)))] Ya0) : EvC ZfO ZmI (Ya3 a) Ya0 [0, 3] [] Z := EvC.of (by kernel_rfl) h
def ZnE (a : Int) : Prop := ∀ v3 : Int, v3 = (Zgv .u8 a 1) -> ZrA a v3
theorem ZJ5 (a : Int) (hK : (Ya2 Kf a)) (h : ZnE a) : SemL Try.prog w0 fp ρi 0 12 [ZmI, (.seq (.seq Zj5 Zj4) (.seq Zfh .ret))] (Ya3 a) Ya0 (fnK Zcq 0 Kf) :=
  Zad Zfc (ZGZ a _ ⟨(by decide), (Zah (Zah (ZJ6 a hK (Zgv .u8 a 1) (h (Zgv .u8 a 1) rfl))))⟩)
theorem ZGY (a : Int) (Z : Env -> Heap -> Prop) (h : Z (Ya3 a) Ya0) : EvC ZfO Zqk (Ya3 a) Ya0 [0] [] Z := EvC.of (by kernel_rfl) h
theorem ZJ4 (a : Int) (hK : (Ya2 Kf a)) (h : ZnE a) : SemL Try.prog w0 fp ρi 0 12 [Zqk, (.seq ZmI (.seq (.seq Zj5 Zj4) (.seq Zfh .ret)))] (Ya3 a) Ya0 (fnK Zcq 0 Kf) :=
  Zad Zfc (ZGY a _ (Zah (ZJ5 a hK h)))
theorem ZyG (a : Int) (hK : (Ya2 Kf a)) (h : ZnE a) : SemL Try.prog w0 fp ρi 0 12 [ZsL] (Ya3 a) Ya0 (fnK Zcq 0 Kf) :=
  (Zah (ZJ4 a hK h))
end
theorem Zu8 (a : Int) (hpre : (0 <= a /\ a < 256)) : ZnE a := by
  unfold ZnE ZrA Zui ZrB
  rintro v3 rfl
  unfold dbl
  refine ⟨fun h => ?_, fun h => ?_⟩
  · rintro v rfl
    rw [if_pos (of_decide_eq_true h)]
  · rw [if_neg (of_decide_eq_false h)]
theorem Zlq : Sound Try.prog 27 (ZeL Zns) := by
  refine ZaC Znh ?_
  intro args H K h
  obtain ⟨pre, v, hP, hpre, rfl, hK⟩ := ZbD h
  unfold Zns at hP
  split at hP
  · cases hP
    exact ⟨rfl, fun w0 fp ρi => ZyG _ hK (Zu8 _ hpre)⟩
  · cases hP
def Zq3 : Zgt := fun args => match args with
  | [.int .u8 a, .int .u8 b] => some (((0 <= a /\ a < 256) /\ (0 <= b /\ b < 256)), .int .u8 (Zb1 a b))
  | _ => none
def Zy3 : PCon := ⟨41, Zq3⟩
def ZpG : ACode := .reg (.op (some 4) (.mov (.cn (.int .u8 0))) .nil)
def ZpF : ACode := .reg (.op (some 5) (.mov (.tm 1)) (.op (some 6) (.bin .gtr (.tm 5) (.cn (.int .u8 0))) .nil))
def ZpE : ACode := .cond (.tm 6) .skip (.exit 0)
def ZpD : ACode := .reg (.op (some 9) (.mov (.tm 1)) (.op (some 10) (.bin .and (.tm 9) (.cn (.int .u8 1))) (.op (some 11) (.bin .gtr (.tm 10) (.cn (.int .u8 0))) .nil)))
def ZpC : ACode := .reg (.op (some 12) (.mov (.tm 4)) (.op (some 13) (.mov (.tm 0)) (.op (some 14) (.bin .xor (.tm 12) (.tm 13)) (.op (some 4) (.mov (.tm 14)) .nil))))
def ZpB : ACode := .cond (.tm 11) ZpC .skip
def ZhX : ACode := .reg (.op (some 15) (.mov (.tm 0)) (.op (some 16) (.call 27 [(.tm 15)]) (.op (some 0) (.mov (.tm 16)) .nil)))
def Zmb : ACode := .block 1 (.seq (.seq ZpD ZpB) ZhX)
def Zgh : ACode := .reg (.op (some 7) (.mov (.tm 1)) (.op (some 8) (.bin .shr (.tm 7) (.cn (.int .u64 1))) (.op (some 1) (.mov (.tm 8)) .nil)))
def ZxP : ACode := .loop (.seq (.seq ZpF ZpE) (.seq Zmb Zgh))
def Zmc : ACode := .block 0 ZxP
def ZfG : ACode := .reg (.op (some 17) (.mov (.tm 4)) (.op (some 4) (.mov (.tm 17)) .nil))
def Zx9 : ACode := (.seq ZpG (.seq Zmc (.seq ZfG .ret)))
def ZeG : Res := .one (.tm 4)
theorem Zoq : Zbj Try.prog 41 2 18 Zx9 ZeG = true := by kernel_rfl
def Zfp : Zav := Zcl [Zjs] []
theorem Zea : ZaK Try.prog Zfp := ZaL ⟨Zlq, trivial⟩ trivial
section
variable {w0 : World} {fp : Nat -> Nat -> Prop} {ρi : Rho} {Kf : SVal -> Heap -> Prop}
def Zwy (w0 : World) (fp : Nat -> Nat -> Prop) (ρi : Rho) (Kf : SVal -> Heap -> Prop) (a b : Int) : ZaY := Zax 0 (fun e H => SemL Try.prog w0 fp ρi 0 18 [(.seq ZfG .ret)] e H (fnK ZeG 0 Kf)) (fnK ZeG 0 Kf)
def Zw7 (a b : Int) : Int × Int × Int -> Prop := fun s => match s with | (v0, v1, v4) => (0 <= v0 /\ v0 < 256) /\ (0 <= v1 /\ v1 < 256) /\ ∃ k : Nat, v1 < 2 ^ k /\ ZgK k v0 v1 v4 = Zb1 a b
def Zvf (a b : Int) : Int × Int × Int -> Nat := fun s => match s with | (v0, v1, v4) => (v1.toNat)
def Zv5 (a b : Int) : Int × Int × Int -> Env := fun s => match s with | (v0, v1, v4) => [(0, some (.int .u8 v0)), (1, some (.int .u8 v1)), (4, some (.int .u8 v4))]
def ZvG (a b : Int) : Int × Int × Int -> Heap := fun s => match s with | (v0, v1, v4) => ⟨0, []⟩
def Zhy (w0 : World) (fp : Nat -> Nat -> Prop) (ρi : Rho) (Kf : SVal -> Heap -> Prop) (a b v0 v1 v4 : Int) : ZaY := Zb2 0 (Zw7 a b) (Zvf a b) (Zv5 a b) (ZvG a b) (v0, v1, v4) (Zwy w0 fp ρi Kf a b)
abbrev Ya4 (x0 x1 x2 : Int) : Env := [(0, some (.int .u8 x0)), (1, some (.int .u8 x1)), (4, some (.int .u8 x2))]
theorem ZGb (a b ad v1 ac v0 v4 : Int) (Z : Env -> Heap -> Prop) (h : (((0 : Int) <= 1)) /\ Z [(0, some (.int .u8 ad)), (1, some (.int .u8 (ZbF .u8 v1 1))), (4, some (.int .u8 ac))] Ya0) : EvC Zfp Zgh (Ya4 ad v1 ac) Ya0 [0, 1, 4] [] Z := EvC.of (by kernel_rfl) h
def Zt1 (a b ad v1 ac v0 v4 : Int) : Prop := ((0 <= ad /\ ad < 256) /\ (0 <= (ZbF .u8 v1 1) /\ (ZbF .u8 v1 1) < 256) /\ ∃ k : Nat, (ZbF .u8 v1 1) < 2 ^ k /\ ZgK k ad (ZbF .u8 v1 1) ac = Zb1 a b) /\ (((ZbF .u8 v1 1).toNat) < (v1.toNat))
abbrev Ya5 (x0 : SVal -> Heap -> Prop) (x1 x2 : Int) : Prop := x0 (.int .u8 (Zb1 x1 x2)) ⟨0, []⟩
theorem ZIP (a b : Int) (hK : (Ya5 Kf a b)) (ad v1 ac v0 v4 : Int) (h : Zt1 a b ad v1 ac v0 v4) : SemL Try.prog w0 fp ρi 0 18 [Zgh] (Ya4 ad v1 ac) Ya0 (Zhy w0 fp ρi Kf a b v0 v1 v4) :=
  Zad Zea (ZGb a b ad v1 ac v0 v4 _ ⟨(by decide), (ZaO (Zay (x' := (ad, (ZbF .u8 v1 1), ac)) (τ := tau []) h.1 h.2 (Zao [] [] rfl rfl (esc pbd (esc pbd (esc pbd Zak))) Zae (by kernel_rfl) rfl)))⟩)
def ZlB (w0 : World) (fp : Nat -> Nat -> Prop) (ρi : Rho) (Kf : SVal -> Heap -> Prop) (a b v0 v1 v4 : Int) : ZaY := Zax 1 (fun e H => SemL Try.prog w0 fp ρi 0 18 [Zgh] e H (Zhy w0 fp ρi Kf a b v0 v1 v4)) (Zhy w0 fp ρi Kf a b v0 v1 v4)
theorem ZGa (a b v0 v1 ac v4 : Int) (Z : Env -> Heap -> Prop) (h : ((0 <= v0 /\ v0 < 256)) /\ Z [(0, some (.int .u8 (dbl v0))), (1, some (.int .u8 v1)), (4, some (.int .u8 ac))] Ya0) : EvC Zfp ZhX (Ya4 v0 v1 ac) Ya0 [0, 1, 4] [] Z := EvC.of (by kernel_rfl) h
def Zrl (a b v0 v1 ac v4 : Int) : Prop := ((0 <= v0 /\ v0 < 256)) /\ (∀ ad : Int, ad = (dbl v0) -> Zt1 a b ad v1 ac v0 v4)
theorem ZzO (a b : Int) (hK : (Ya5 Kf a b)) (v0 v1 ac v4 : Int) (h : Zrl a b v0 v1 ac v4) : SemL Try.prog w0 fp ρi 0 18 [ZhX] (Ya4 v0 v1 ac) Ya0 (ZlB w0 fp ρi Kf a b v0 v1 v4) :=
  Zad Zea (ZGa a b v0 v1 ac v4 _ ⟨h.1, (ZaO (ZIP a b hK (dbl v0) v1 ac v0 v4 (h.2 (dbl v0) rfl)))⟩)
theorem ZF9 (a b v0 v1 v4 : Int) (Z : Env -> Heap -> Prop) (h : Z [(0, some (.int .u8 v0)), (1, some (.int .u8 v1)), (4, some (.int .u8 (Zar .u8 v4 v0)))] Ya0) : EvC Zfp ZpC (Ya4 v0 v1 v4) Ya0 [0, 1, 4] [] Z := EvC.of (by kernel_rfl) h
def Zt0 (a b v0 v1 v4 : Int) : Prop := ∀ ac : Int, ac = (Zar .u8 v4 v0) -> Zrl a b v0 v1 ac v4
theorem ZIO (a b : Int) (hK : (Ya5 Kf a b)) (v0 v1 v4 : Int) (h : Zt0 a b v0 v1 v4) : SemL Try.prog w0 fp ρi 0 18 [ZpC, ZhX] (Ya4 v0 v1 v4) Ya0 (ZlB w0 fp ρi Kf a b v0 v1 v4) :=
  Zad Zea (ZF9 a b v0 v1 v4 _ (ZzO a b hK v0 v1 (Zar .u8 v4 v0) v4 (h (Zar .u8 v4 v0) rfl)))
def ZnA (a b v0 v1 v4 : Int) : Prop := ((decide (0 < (ZaR .u8 v1 1))) = true -> (Zt0 a b v0 v1 v4)) /\ ((decide (0 < (ZaR .u8 v1 1))) = false -> (Zrl a b v0 v1 v4 v4))
abbrev Ya6 (x0 x1 x2 : Int) : Env := [(0, some (.int .u8 x0)), (1, some (.int .u8 x1)), (4, some (.int .u8 x2)), (11, some (.bool (decide (0 < (ZaR .u8 x1 1)))))]
theorem ZIN (a b : Int) (hK : (Ya5 Kf a b)) (v0 v1 v4 : Int) (h : ZnA a b v0 v1 v4) : SemL Try.prog w0 fp ρi 0 18 [ZpB, ZhX] (Ya6 v0 v1 v4) Ya0 (ZlB w0 fp ρi Kf a b v0 v1 v4) :=
  ZaJ (q := (decide (0 < (ZaR .u8 v1 1)))) (by kernel_rfl) (fun hq => (lpk [0, 1, 4] [] (ZIO a b hK v0 v1 v4 (h.1 hq)))) (fun hq => (ZaI (lpk [0, 1, 4] [] (ZzO a b hK v0 v1 v4 v4 (h.2 hq)))))
theorem ZF8 (a b v0 v1 v4 : Int) (Z : Env -> Heap -> Prop) (h : Z (Ya6 v0 v1 v4) Ya0) : EvC Zfp ZpD (Ya4 v0 v1 v4) Ya0 [0, 1, 4, 11] [] Z := EvC.of (by kernel_rfl) h
theorem ZIM (a b : Int) (hK : (Ya5 Kf a b)) (v0 v1 v4 : Int) (h : ZnA a b v0 v1 v4) : SemL Try.prog w0 fp ρi 0 18 [ZpD, ZpB, ZhX] (Ya4 v0 v1 v4) Ya0 (ZlB w0 fp ρi Kf a b v0 v1 v4) :=
  Zad Zea (ZF8 a b v0 v1 v4 _ (ZIN a b hK v0 v1 v4 h))
theorem ZIL (a b : Int) (hK : (Ya5 Kf a b)) (v0 v1 v4 : Int) (h : ZnA a b v0 v1 v4) : SemL Try.prog w0 fp ρi 0 18 [Zmb, Zgh] (Ya4 v0 v1 v4) Ya0 (Zhy w0 fp ρi Kf a b v0 v1 v4) :=
  Zat (Zah (Zah (ZIM a b hK v0 v1 v4 h)))
theorem ZF7 (a b v4 : Int) (Z : Env -> Heap -> Prop) (h : Z [(4, some (.int .u8 v4))] Ya0) : EvC Zfp ZfG [(4, some (.int .u8 v4))] Ya0 [4] [] Z := EvC.of (by kernel_rfl) h
theorem ZBX (a b v4 : Int) : RetC ZeG [(4, some (.int .u8 v4))] Ya0 (.int .u8 v4) := RetC.of (fun Z => by kernel_rfl)
def ZtZ (a b v4 : Int) : Prop := v4 = (Zb1 a b)
theorem ZIK (a b : Int) (hK : (Ya5 Kf a b)) (v4 : Int) (h : ZtZ a b v4) : SemL Try.prog w0 fp ρi 0 18 [ZfG, .ret] [(4, some (.int .u8 v4))] Ya0 (fnK ZeG 0 Kf) :=
  Zad Zea (ZF7 a b v4 _ (Zbv (R := ZeG) (m := 0) (Kf := Kf) (fun _ _ h => h) (ZBX a b v4) (Zbg rfl (by kernel_rfl) (cg1 (fun (z1 : Int) => (.int .u8 z1 : SVal)) h) hK)))
def Zrk (a b v0 v1 v4 : Int) : Prop := ((decide (0 < v1)) = true -> (ZnA a b v0 v1 v4)) /\ ((decide (0 < v1)) = false -> (ZtZ a b v4))
abbrev Ya7 (x0 x1 x2 : Int) : Env := [(0, some (.int .u8 x0)), (1, some (.int .u8 x1)), (4, some (.int .u8 x2)), (6, some (.bool (decide (0 < x1))))]
theorem ZIJ (a b : Int) (hK : (Ya5 Kf a b)) (v0 v1 v4 : Int) (h : Zrk a b v0 v1 v4) : SemL Try.prog w0 fp ρi 0 18 [ZpE, (.seq Zmb Zgh)] (Ya7 v0 v1 v4) Ya0 (Zhy w0 fp ρi Kf a b v0 v1 v4) :=
  ZaJ (q := (decide (0 < v1))) (by kernel_rfl) (fun hq => (ZaI (lpk [0, 1, 4] [] (Zah (ZIL a b hK v0 v1 v4 (h.1 hq)))))) (fun hq => (Zbb (lpk [4] [] (Zah (ZIK a b hK v4 (h.2 hq))))))
theorem ZF6 (a b v0 v1 v4 : Int) (Z : Env -> Heap -> Prop) (h : Z (Ya7 v0 v1 v4) Ya0) : EvC Zfp ZpF (Ya4 v0 v1 v4) Ya0 [0, 1, 4, 6] [] Z := EvC.of (by kernel_rfl) h
theorem ZII (a b : Int) (hK : (Ya5 Kf a b)) (v0 v1 v4 : Int) (h : Zrk a b v0 v1 v4) : SemL Try.prog w0 fp ρi 0 18 [ZpF, ZpE, (.seq Zmb Zgh)] (Ya4 v0 v1 v4) Ya0 (Zhy w0 fp ρi Kf a b v0 v1 v4) :=
  Zad Zea (ZF6 a b v0 v1 v4 _ (ZIJ a b hK v0 v1 v4 h))
def Zku (a b : Int) : Prop := ((0 <= a /\ a < 256) /\ (0 <= b /\ b < 256) /\ ∃ k : Nat, b < 2 ^ k /\ ZgK k a b (0 : Int) = Zb1 a b) /\ (∀ (v0 v1 v4 : Int), ((0 <= v0 /\ v0 < 256) /\ (0 <= v1 /\ v1 < 256) /\ ∃ k : Nat, v1 < 2 ^ k /\ ZgK k v0 v1 v4 = Zb1 a b) -> (Zrk a b v0 v1 v4))
abbrev Ya8 (x0 x1 : Int) : Env := [(0, some (.int .u8 x0)), (1, some (.int .u8 x1)), (4, some (.int .u8 0))]
theorem ZIH (a b : Int) (hK : (Ya5 Kf a b)) (h : Zku a b) : SemL Try.prog w0 fp ρi 0 18 [ZxP] (Ya8 a b) Ya0 (Zwy w0 fp ρi Kf a b) :=
  Zbd (Zw7 a b) (Zvf a b) (Zv5 a b) (ZvG a b) ⟨(a, b, 0), tau [], h.1, (Zao [] [] rfl rfl (esc pbd (esc pbd (esc pbd Zak))) Zae (by kernel_rfl) rfl)⟩ (fun s => match s with | (v0, v1, v4) => fun hi => (Zah (Zah (ZII a b hK v0 v1 v4 (h.2 v0 v1 v4 hi)))))
theorem ZCP (a b : Int) (hK : (Ya5 Kf a b)) (h : Zku a b) : SemL Try.prog w0 fp ρi 0 18 [Zmc, (.seq ZfG .ret)] (Ya8 a b) Ya0 (fnK ZeG 0 Kf) :=
  Zat (ZIH a b hK h)
abbrev Ya9 (x0 x1 : Int) : Env := [(0, some (.int .u8 x0)), (1, some (.int .u8 x1))]
theorem ZA0 (a b : Int) (Z : Env -> Heap -> Prop) (h : Z (Ya8 a b) Ya0) : EvC Zfp ZpG (Ya9 a b) Ya0 [0, 1, 4] [] Z := EvC.of (by kernel_rfl) h
theorem ZCO (a b : Int) (hK : (Ya5 Kf a b)) (h : Zku a b) : SemL Try.prog w0 fp ρi 0 18 [ZpG, (.seq Zmc (.seq ZfG .ret))] (Ya9 a b) Ya0 (fnK ZeG 0 Kf) :=
  Zad Zea (ZA0 a b _ (Zah (ZCP a b hK h)))
theorem ZAq (a b : Int) (hK : (Ya5 Kf a b)) (h : Zku a b) : SemL Try.prog w0 fp ρi 0 18 [Zx9] (Ya9 a b) Ya0 (fnK ZeG 0 Kf) :=
  (Zah (ZCO a b hK h))
end
theorem Zy6 (a b : Int) (hpre : ((0 <= a /\ a < 256) /\ (0 <= b /\ b < 256))) : Zku a b := by
  unfold Zku Zrk ZtZ ZnA Zt0 Zrl Zt1
  refine ⟨⟨hpre.1, hpre.2, 8, by omega, rfl⟩, ?_⟩
  rintro v0 v1 v4 ⟨i0, i1, k, hk, he⟩
  refine ⟨fun hlt => ?_, fun hge => ?_⟩
  · have hlt := of_decide_eq_true hlt
    have hv := ZLu i1.1
    rw [hv]
    match k, hk, he with
    | 0, hk, he => exact absurd hk (by simp; omega)
    | k + 1, hk, he =>
      rw [ZgK, if_pos hlt, hv] at he
      rw [Int.pow_succ] at hk
      refine ⟨fun hb => ?_, fun hb => ?_⟩
      · rw [if_pos (of_decide_eq_true hb)] at he
        rintro ag rfl
        refine ⟨i0, ?_⟩
        rintro ah rfl
        exact ⟨⟨ZiI _, by omega, k, by omega, he⟩, by omega⟩
      · rw [if_neg (of_decide_eq_false hb)] at he
        refine ⟨i0, ?_⟩
        rintro ah rfl
        exact ⟨⟨ZiI _, by omega, k, by omega, he⟩, by omega⟩
  · have hge := of_decide_eq_false hge
    match k, he with
    | 0, he => exact he
    | k + 1, he => rw [ZgK, if_neg hge] at he; exact he
theorem ZAH : Sound Try.prog 41 (ZeL Zq3) := by
  refine ZaC Zoq ?_
  intro args H K h
  obtain ⟨pre, v, hP, hpre, rfl, hK⟩ := ZbD h
  unfold Zq3 at hP
  split at hP
  · cases hP
    exact ⟨rfl, fun w0 fp ρi => ZAq _ _ hK (Zy6 _ _ hpre)⟩
  · cases hP
def Zyk : Zgt := fun args => match args with
  | [.int .u8 x, .int .i64 k] => some (((0 <= x /\ x < 256) /\ 0 <= k /\ k <= 7), .int .u8 (ZuN x k))
  | _ => none
def ZEe : PCon := ⟨42, Zyk⟩
def ZpA : ACode := .reg (.op (some 4) (.mov (.cn (.int .u8 0))) .nil)
def Zma : ACode := .reg (.op (some 6) (.mov (.tm 1)) (.op (some 7) (.conv .u64 (.tm 6)) (.op (some 8) (.bin .and (.tm 7) (.cn (.int .u64 7))) (.op (some 5) (.mov (.tm 8)) .nil))))
def ZjW : ACode := .reg (.op (some 9) (.mov (.tm 0)) (.op (some 10) (.mov (.tm 5)) (.op (some 11) (.bin .shl (.tm 9) (.tm 10)) (.op (some 12) (.mov (.tm 0)) (.op (some 13) (.mov (.tm 5)) (.op (some 14) (.bin .sub (.cn (.int .u64 8)) (.tm 13)) (.op (some 15) (.bin .shr (.tm 12) (.tm 14)) (.op (some 16) (.bin .or (.tm 11) (.tm 15)) (.op (some 4) (.mov (.tm 16)) .nil)))))))))
def ZAe : ACode := (.seq ZpA (.seq Zma (.seq ZjW .ret)))
def Zki : Res := .one (.tm 4)
theorem ZqU : Zbj Try.prog 42 2 17 ZAe Zki = true := by kernel_rfl
def ZsQ : Zav := Zcl [] []
theorem Zo5 : ZaK Try.prog ZsQ := ZaL trivial trivial
section
variable {w0 : World} {fp : Nat -> Nat -> Prop} {ρi : Rho} {Kf : SVal -> Heap -> Prop}
abbrev ZOU (x0 x1 : Int) : Env := [(4, some (.int .u8 (ior .u8 (Zgv .u8 x0 x1) (ZbF .u8 x0 (IntKind.u64.wrap (8 - x1))))))]
theorem ZF5 (x k v5 : Int) (Z : Env -> Heap -> Prop) (h : ((0 <= v5)) /\ ((0 <= (IntKind.u64.wrap (8 - v5)))) /\ Z (ZOU x v5) Ya0) : EvC ZsQ ZjW [(0, some (.int .u8 x)), (5, some (.int .u64 v5))] Ya0 [4] [] Z := EvC.of (by kernel_rfl) h
theorem ZBW (x k v5 : Int) : RetC Zki (ZOU x v5) Ya0 (.int .u8 (ior .u8 (Zgv .u8 x v5) (ZbF .u8 x (IntKind.u64.wrap (8 - v5))))) := RetC.of (fun Z => by kernel_rfl)
def ZtY (x k v5 : Int) : Prop := ((0 <= v5)) /\ (((0 <= (IntKind.u64.wrap (8 - v5)))) /\ ((ior .u8 (Zgv .u8 x v5) (ZbF .u8 x (IntKind.u64.wrap (8 - v5)))) = (ZuN x k)))
theorem ZIG (x k : Int) (hK : Kf (.int .u8 (ZuN x k)) ⟨0, []⟩) (v5 : Int) (h : ZtY x k v5) : SemL Try.prog w0 fp ρi 0 17 [ZjW, .ret] [(0, some (.int .u8 x)), (5, some (.int .u64 v5))] Ya0 (fnK Zki 0 Kf) :=
  Zad Zo5 (ZF5 x k v5 _ ⟨h.1, ⟨h.2.1, (Zbv (R := Zki) (m := 0) (Kf := Kf) (fun _ _ h => h) (ZBW x k v5) (Zbg rfl (by kernel_rfl) (cg1 (fun (z1 : Int) => (.int .u8 z1 : SVal)) h.2.2) hK))⟩⟩)
abbrev ZFh (x0 x1 : Int) : Env := [(0, some (.int .u8 x0)), (1, some (.int .i64 x1))]
theorem ZF4 (x k : Int) (Z : Env -> Heap -> Prop) (h : Z [(0, some (.int .u8 x)), (5, some (.int .u64 (ZaR .u64 (IntKind.u64.wrap k) 7)))] Ya0) : EvC ZsQ Zma (ZFh x k) Ya0 [0, 5] [] Z := EvC.of (by kernel_rfl) h
def Znz (x k : Int) : Prop := ∀ v5 : Int, v5 = (ZaR .u64 (IntKind.u64.wrap k) 7) -> ZtY x k v5
theorem ZIF (x k : Int) (hK : Kf (.int .u8 (ZuN x k)) ⟨0, []⟩) (h : Znz x k) : SemL Try.prog w0 fp ρi 0 17 [Zma, (.seq ZjW .ret)] (ZFh x k) Ya0 (fnK Zki 0 Kf) :=
  Zad Zo5 (ZF4 x k _ (Zah (ZIG x k hK (ZaR .u64 (IntKind.u64.wrap k) 7) (h (ZaR .u64 (IntKind.u64.wrap k) 7) rfl))))
theorem ZF3 (x k : Int) (Z : Env -> Heap -> Prop) (h : Z (ZFh x k) Ya0) : EvC ZsQ ZpA (ZFh x k) Ya0 [0, 1] [] Z := EvC.of (by kernel_rfl) h
theorem ZIE (x k : Int) (hK : Kf (.int .u8 (ZuN x k)) ⟨0, []⟩) (h : Znz x k) : SemL Try.prog w0 fp ρi 0 17 [ZpA, (.seq Zma (.seq ZjW .ret))] (ZFh x k) Ya0 (fnK Zki 0 Kf) :=
  Zad Zo5 (ZF3 x k _ (Zah (ZIF x k hK h)))
theorem ZFj (x k : Int) (hK : Kf (.int .u8 (ZuN x k)) ⟨0, []⟩) (h : Znz x k) : SemL Try.prog w0 fp ρi 0 17 [ZAe] (ZFh x k) Ya0 (fnK Zki 0 Kf) :=
  (Zah (ZIE x k hK h))
end
theorem ZEh (x k : Int) (hpre : ((0 <= x /\ x < 256) /\ 0 <= k /\ k <= 7)) : Znz x k := by
  unfold Znz ZtY
  obtain ⟨h0, h1, h2⟩ := hpre
  have e5 : ZaR .u64 (IntKind.u64.wrap k) 7 = k := by
    obtain ⟨n, rfl⟩ := Int.eq_ofNat_of_zero_le h1
    have hn : n <= 7 := by omega
    rw [Zq8]
    have : n = 0 ∨ n = 1 ∨ n = 2 ∨ n = 3 ∨ n = 4 ∨ n = 5 ∨ n = 6 ∨ n = 7 := by omega
    rcases this with rfl | rfl | rfl | rfl | rfl | rfl | rfl | rfl <;> decide +kernel
  rw [e5]
  rintro v5 rfl
  have e8 : IntKind.u64.wrap (8 - v5) = 8 - v5 := by rw [Zq8]; omega
  rw [e8]
  exact ⟨h1, by omega, rfl⟩
theorem ZFq : Sound Try.prog 42 (ZeL Zyk) := by
  refine ZaC ZqU ?_
  intro args H K h
  obtain ⟨pre, v, hP, hpre, rfl, hK⟩ := ZbD h
  unfold Zyk at hP
  split at hP
  · cases hP
    exact ⟨rfl, fun w0 fp ρi => ZFj _ _ hK (ZEh _ _ hpre)⟩
  · cases hP
def ZEP : Zgt := fun args => match args with
  | [.int .u8 x] => some ((0 <= x /\ x < 256), .int .u8 (ZcR x))
  | _ => none
def ZzU : PCon := ⟨23, ZEP⟩
def ZqD : ACode := .reg (.op (some 2) (.mov (.cn (.int .u8 0))) .nil)
def ZmV : ACode := .reg (.op (some 8) (.mov (.tm 0)) (.op (some 3) (.mov (.cn (.int .u8 1))) (.op (some 4) (.mov (.tm 8)) .nil)))
def Zka : ACode := .reg (.op (some 5) (.mov (.cn (.int .i64 254))) .nil)
def ZqC : ACode := .reg (.op (some 9) (.mov (.tm 5)) (.op (some 10) (.bin .gtr (.tm 9) (.cn (.int .i64 0))) .nil))
def ZqB : ACode := .cond (.tm 10) .skip (.exit 0)
def ZqA : ACode := .reg (.op (some 13) (.mov (.tm 5)) (.op (some 14) (.bin .and (.tm 13) (.cn (.int .i64 1))) (.op (some 15) (.bin .gtr (.tm 14) (.cn (.int .i64 0))) .nil)))
def Zqz : ACode := .reg (.op (some 16) (.mov (.tm 3)) (.op (some 17) (.mov (.tm 4)) (.op (some 18) (.call 41 [(.tm 16), (.tm 17)]) (.op (some 3) (.mov (.tm 18)) .nil))))
def Zqy : ACode := .cond (.tm 15) Zqz .skip
def Zh1 : ACode := .reg (.op (some 19) (.mov (.tm 4)) (.op (some 20) (.mov (.tm 4)) (.op (some 21) (.call 41 [(.tm 19), (.tm 20)]) (.op (some 4) (.mov (.tm 21)) .nil))))
def ZmR : ACode := .block 1 (.seq (.seq ZqA Zqy) Zh1)
def Zex : ACode := .reg (.op (some 11) (.mov (.tm 5)) (.op (some 12) (.bin .shr (.tm 11) (.cn (.int .u64 1))) (.op (some 5) (.mov (.tm 12)) .nil)))
def ZsA : ACode := .loop (.seq (.seq ZqC ZqB) (.seq ZmR Zex))
def Zg7 : ACode := .block 0 ZsA
def ZdF : ACode := .reg (.op (some 6) (.mov (.cn (.int .u8 99))) .nil)
def ZcJ : ACode := .reg (.op (some 22) (.mov (.cn (.int .i64 0))) .nil)
def ZmU : ACode := .reg (.op (some 23) (.bin .lss (.tm 22) (.cn (.int .i64 5))) .nil)
def ZmT : ACode := .cond (.tm 23) .skip (.exit 2)
def ZmS : ACode := .reg (.op (some 24) (.mov (.tm 22)) (.op (some 7) (.mov (.tm 24)) .nil))
def ZiW : ACode := .reg (.op (some 25) (.mov (.tm 6)) (.op (some 26) (.mov (.tm 3)) (.op (some 27) (.mov (.tm 7)) (.op (some 28) (.call 42 [(.tm 26), (.tm 27)]) (.op (some 29) (.bin .xor (.tm 25) (.tm 28)) (.op (some 6) (.mov (.tm 29)) .nil))))))
def ZiV : ACode := .block 3 (.seq ZmS ZiW)
def Zew : ACode := .reg (.op (some 30) (.bin .add (.tm 22) (.cn (.int .i64 1))) (.op (some 22) (.mov (.tm 30)) .nil))
def Zsz : ACode := .loop (.seq ZmU (.seq ZmT (.seq ZiV Zew)))
def ZcI : ACode := .block 2 Zsz
def ZbO : ACode := .reg (.op (some 31) (.mov (.tm 6)) (.op (some 2) (.mov (.tm 31)) .nil))
def ZLA : ACode := (.seq ZqD (.seq ZmV (.seq (.seq Zka Zg7) (.seq ZdF (.seq (.seq ZcJ ZcI) (.seq ZbO .ret))))))
def ZfT : Res := .one (.tm 2)
theorem Ztl : Zbj Try.prog 23 1 32 ZLA ZfT = true := by kernel_rfl
def ZfU : Zav := Zcl [Zy3, ZEe] []
theorem Zc7 : ZaK Try.prog ZfU := ZaL ⟨ZAH, ZFq, trivial⟩ trivial
section
variable {w0 : World} {fp : Nat -> Nat -> Prop} {ρi : Rho} {Kf : SVal -> Heap -> Prop}
def ZwS (w0 : World) (fp : Nat -> Nat -> Prop) (ρi : Rho) (Kf : SVal -> Heap -> Prop) (x : Int) : ZaY := Zax 0 (fun e H => SemL Try.prog w0 fp ρi 0 32 [(.seq ZdF (.seq (.seq ZcJ ZcI) (.seq ZbO .ret)))] e H (fnK ZfT 0 Kf)) (fnK ZfT 0 Kf)
def Zxm (x : Int) : Int × Int × Int -> Prop := fun s => match s with | (v3, v4, v5) => ∃ i : Nat, i <= 8 /\ v5 = pwN i /\ v3 = (pwS x i).1 /\ v4 = (pwS x i).2
def Zvu (x : Int) : Int × Int × Int -> Nat := fun s => match s with | (v3, v4, v5) => (v5.toNat)
def Zwk (x : Int) : Int × Int × Int -> Env := fun s => match s with | (v3, v4, v5) => [(3, some (.int .u8 v3)), (4, some (.int .u8 v4)), (5, some (.int .i64 v5))]
def ZvV (x : Int) : Int × Int × Int -> Heap := fun s => match s with | (v3, v4, v5) => ⟨0, []⟩
def ZhO (w0 : World) (fp : Nat -> Nat -> Prop) (ρi : Rho) (Kf : SVal -> Heap -> Prop) (x v3 v4 v5 : Int) : ZaY := Zb2 0 (Zxm x) (Zvu x) (Zwk x) (ZvV x) (v3, v4, v5) (ZwS w0 fp ρi Kf x)
abbrev Zyi (x0 x1 x2 : Int) : Env := [(3, some (.int .u8 x0)), (4, some (.int .u8 x1)), (5, some (.int .i64 x2))]
theorem ZHt (x ab ac v5 v3 v4 : Int) (Z : Env -> Heap -> Prop) (h : (((0 : Int) <= 1)) /\ Z [(3, some (.int .u8 ab)), (4, some (.int .u8 ac)), (5, some (.int .i64 (ZbF .i64 v5 1)))] Ya0) : EvC ZfU Zex (Zyi ab ac v5) Ya0 [3, 4, 5] [] Z := EvC.of (by kernel_rfl) h
def Zuv (x ab ac v5 v3 v4 : Int) : Prop := (∃ i : Nat, i <= 8 /\ (ZbF .i64 v5 1) = pwN i /\ ab = (pwS x i).1 /\ ac = (pwS x i).2) /\ (((ZbF .i64 v5 1).toNat) < (v5.toNat))
abbrev Ziz (x0 : SVal -> Heap -> Prop) (x1 : Int) : Prop := x0 (.int .u8 (ZcR x1)) ⟨0, []⟩
theorem ZKK (x : Int) (hK : (Ziz Kf x)) (ab ac v5 v3 v4 : Int) (h : Zuv x ab ac v5 v3 v4) : SemL Try.prog w0 fp ρi 0 32 [Zex] (Zyi ab ac v5) Ya0 (ZhO w0 fp ρi Kf x v3 v4 v5) :=
  Zad Zc7 (ZHt x ab ac v5 v3 v4 _ ⟨(by decide), (ZaO (Zay (x' := (ab, ac, (ZbF .i64 v5 1))) (τ := tau []) h.1 h.2 (Zao [] [] rfl rfl (esc pbd (esc pbd (esc pbd Zak))) Zae (by kernel_rfl) rfl)))⟩)
def ZlE (w0 : World) (fp : Nat -> Nat -> Prop) (ρi : Rho) (Kf : SVal -> Heap -> Prop) (x v3 v4 v5 : Int) : ZaY := Zax 1 (fun e H => SemL Try.prog w0 fp ρi 0 32 [Zex] e H (ZhO w0 fp ρi Kf x v3 v4 v5)) (ZhO w0 fp ρi Kf x v3 v4 v5)
theorem ZHs (x ab v4 v5 v3 : Int) (Z : Env -> Heap -> Prop) (h : (((0 <= v4 /\ v4 < 256) /\ (0 <= v4 /\ v4 < 256))) /\ Z [(3, some (.int .u8 ab)), (4, some (.int .u8 (Zb1 v4 v4))), (5, some (.int .i64 v5))] Ya0) : EvC ZfU Zh1 (Zyi ab v4 v5) Ya0 [3, 4, 5] [] Z := EvC.of (by kernel_rfl) h
def ZrG (x ab v4 v5 v3 : Int) : Prop := (((0 <= v4 /\ v4 < 256) /\ (0 <= v4 /\ v4 < 256))) /\ (∀ ac : Int, ac = (Zb1 v4 v4) -> Zuv x ab ac v5 v3 v4)
theorem ZzR (x : Int) (hK : (Ziz Kf x)) (ab v4 v5 v3 : Int) (h : ZrG x ab v4 v5 v3) : SemL Try.prog w0 fp ρi 0 32 [Zh1] (Zyi ab v4 v5) Ya0 (ZlE w0 fp ρi Kf x v3 v4 v5) :=
  Zad Zc7 (ZHs x ab v4 v5 v3 _ ⟨h.1, (ZaO (ZKK x hK ab (Zb1 v4 v4) v5 v3 v4 (h.2 (Zb1 v4 v4) rfl)))⟩)
theorem ZHr (x v3 v4 v5 : Int) (Z : Env -> Heap -> Prop) (h : (((0 <= v3 /\ v3 < 256) /\ (0 <= v4 /\ v4 < 256))) /\ Z [(3, some (.int .u8 (Zb1 v3 v4))), (4, some (.int .u8 v4)), (5, some (.int .i64 v5))] Ya0) : EvC ZfU Zqz (Zyi v3 v4 v5) Ya0 [3, 4, 5] [] Z := EvC.of (by kernel_rfl) h
def Zuu (x v3 v4 v5 : Int) : Prop := (((0 <= v3 /\ v3 < 256) /\ (0 <= v4 /\ v4 < 256))) /\ (∀ ab : Int, ab = (Zb1 v3 v4) -> ZrG x ab v4 v5 v3)
theorem ZKJ (x : Int) (hK : (Ziz Kf x)) (v3 v4 v5 : Int) (h : Zuu x v3 v4 v5) : SemL Try.prog w0 fp ρi 0 32 [Zqz, Zh1] (Zyi v3 v4 v5) Ya0 (ZlE w0 fp ρi Kf x v3 v4 v5) :=
  Zad Zc7 (ZHr x v3 v4 v5 _ ⟨h.1, (ZzR x hK (Zb1 v3 v4) v4 v5 v3 (h.2 (Zb1 v3 v4) rfl))⟩)
def ZnJ (x v3 v4 v5 : Int) : Prop := ((decide (0 < (ZaR .i64 v5 1))) = true -> (Zuu x v3 v4 v5)) /\ ((decide (0 < (ZaR .i64 v5 1))) = false -> (ZrG x v3 v4 v5 v3))
abbrev ZOT (x0 x1 x2 : Int) : Env := [(3, some (.int .u8 x0)), (4, some (.int .u8 x1)), (5, some (.int .i64 x2)), (15, some (.bool (decide (0 < (ZaR .i64 x2 1)))))]
theorem ZKI (x : Int) (hK : (Ziz Kf x)) (v3 v4 v5 : Int) (h : ZnJ x v3 v4 v5) : SemL Try.prog w0 fp ρi 0 32 [Zqy, Zh1] (ZOT v3 v4 v5) Ya0 (ZlE w0 fp ρi Kf x v3 v4 v5) :=
  ZaJ (q := (decide (0 < (ZaR .i64 v5 1)))) (by kernel_rfl) (fun hq => (lpk [3, 4, 5] [] (ZKJ x hK v3 v4 v5 (h.1 hq)))) (fun hq => (ZaI (lpk [3, 4, 5] [] (ZzR x hK v3 v4 v5 v3 (h.2 hq)))))
theorem ZHq (x v3 v4 v5 : Int) (Z : Env -> Heap -> Prop) (h : Z (ZOT v3 v4 v5) Ya0) : EvC ZfU ZqA (Zyi v3 v4 v5) Ya0 [3, 4, 5, 15] [] Z := EvC.of (by kernel_rfl) h
theorem ZKH (x : Int) (hK : (Ziz Kf x)) (v3 v4 v5 : Int) (h : ZnJ x v3 v4 v5) : SemL Try.prog w0 fp ρi 0 32 [ZqA, Zqy, Zh1] (Zyi v3 v4 v5) Ya0 (ZlE w0 fp ρi Kf x v3 v4 v5) :=
  Zad Zc7 (ZHq x v3 v4 v5 _ (ZKI x hK v3 v4 v5 h))
theorem ZKG (x : Int) (hK : (Ziz Kf x)) (v3 v4 v5 : Int) (h : ZnJ x v3 v4 v5) : SemL Try.prog w0 fp ρi 0 32 [ZmR, Zex] (Zyi v3 v4 v5) Ya0 (ZhO w0 fp ρi Kf x v3 v4 v5) :=
  Zat (Zah (Zah (ZKH x hK v3 v4 v5 h)))
def ZwR (w0 : World) (fp : Nat -> Nat -> Prop) (ρi : Rho) (Kf : SVal -> Heap -> Prop) (x : Int) : ZaY := Zax 2 (fun e H => SemL Try.prog w0 fp ρi 0 32 [(.seq ZbO .ret)] e H (fnK ZfT 0 Kf)) (fnK ZfT 0 Kf)
def Zxl (x v3 : Int) : Int × Int -> Prop := fun s => match s with | (v6, aa) => 0 <= aa /\ aa <= 5 /\ v6 = ZCf v3 aa.toNat
def Zvt (x v3 : Int) : Int × Int -> Nat := fun s => match s with | (v6, aa) => ((5 - aa).toNat)
def Zwj (x v3 : Int) : Int × Int -> Env := fun s => match s with | (v6, aa) => [(3, some (.int .u8 v3)), (6, some (.int .u8 v6)), (22, some (.int .i64 aa))]
def ZvU (x v3 : Int) : Int × Int -> Heap := fun s => match s with | (v6, aa) => ⟨0, []⟩
def ZhN (w0 : World) (fp : Nat -> Nat -> Prop) (ρi : Rho) (Kf : SVal -> Heap -> Prop) (x v3 v6 aa : Int) : ZaY := Zb2 0 (Zxl x v3) (Zvt x v3) (Zwj x v3) (ZvU x v3) (v6, aa) (ZwR w0 fp ρi Kf x)
abbrev ZEO (x0 x1 x2 : Int) : Env := [(3, some (.int .u8 x0)), (6, some (.int .u8 x1)), (22, some (.int .i64 x2))]
theorem ZHp (x v3 af aa v6 : Int) (Z : Env -> Heap -> Prop) (h : Z [(3, some (.int .u8 v3)), (6, some (.int .u8 af)), (22, some (.int .i64 (IntKind.i64.wrap (aa + 1))))] Ya0) : EvC ZfU Zew (ZEO v3 af aa) Ya0 [3, 6, 22] [] Z := EvC.of (by kernel_rfl) h
def Zut (x v3 af aa v6 : Int) : Prop := (0 <= (IntKind.i64.wrap (aa + 1)) /\ (IntKind.i64.wrap (aa + 1)) <= 5 /\ af = ZCf v3 (IntKind.i64.wrap (aa + 1)).toNat) /\ (((5 - (IntKind.i64.wrap (aa + 1))).toNat) < ((5 - aa).toNat))
theorem ZKF (x : Int) (hK : (Ziz Kf x)) (v3 af aa v6 : Int) (h : Zut x v3 af aa v6) : SemL Try.prog w0 fp ρi 0 32 [Zew] (ZEO v3 af aa) Ya0 (ZhN w0 fp ρi Kf x v3 v6 aa) :=
  Zad Zc7 (ZHp x v3 af aa v6 _ (ZaO (Zay (x' := (af, (IntKind.i64.wrap (aa + 1)))) (τ := tau []) h.1 h.2 (Zao [] [] rfl rfl (esc pbd (esc pbd (esc pbd Zak))) Zae (by kernel_rfl) rfl))))
def ZwQ (w0 : World) (fp : Nat -> Nat -> Prop) (ρi : Rho) (Kf : SVal -> Heap -> Prop) (x v3 v6 aa : Int) : ZaY := Zax 3 (fun e H => SemL Try.prog w0 fp ρi 0 32 [Zew] e H (ZhN w0 fp ρi Kf x v3 v6 aa)) (ZhN w0 fp ρi Kf x v3 v6 aa)
abbrev ZN4 (x0 x1 x2 : Int) : Env := [(3, some (.int .u8 x0)), (6, some (.int .u8 x1)), (7, some (.int .i64 x2)), (22, some (.int .i64 x2))]
theorem ZHo (x v3 v6 aa : Int) (Z : Env -> Heap -> Prop) (h : (((0 <= v3 /\ v3 < 256) /\ 0 <= aa /\ aa <= 7)) /\ Z [(3, some (.int .u8 v3)), (6, some (.int .u8 (Zar .u8 v6 (ZuN v3 aa)))), (22, some (.int .i64 aa))] Ya0) : EvC ZfU ZiW (ZN4 v3 v6 aa) Ya0 [3, 6, 22] [] Z := EvC.of (by kernel_rfl) h
def ZnI (x v3 v6 aa : Int) : Prop := (((0 <= v3 /\ v3 < 256) /\ 0 <= aa /\ aa <= 7)) /\ (∀ af : Int, af = (Zar .u8 v6 (ZuN v3 aa)) -> Zut x v3 af aa v6)
theorem ZKE (x : Int) (hK : (Ziz Kf x)) (v3 v6 aa : Int) (h : ZnI x v3 v6 aa) : SemL Try.prog w0 fp ρi 0 32 [ZiW] (ZN4 v3 v6 aa) Ya0 (ZwQ w0 fp ρi Kf x v3 v6 aa) :=
  Zad Zc7 (ZHo x v3 v6 aa _ ⟨h.1, (ZaO (ZKF x hK v3 (Zar .u8 v6 (ZuN v3 aa)) aa v6 (h.2 (Zar .u8 v6 (ZuN v3 aa)) rfl)))⟩)
theorem ZHn (x v3 v6 aa : Int) (Z : Env -> Heap -> Prop) (h : Z (ZN4 v3 v6 aa) Ya0) : EvC ZfU ZmS (ZEO v3 v6 aa) Ya0 [3, 6, 7, 22] [] Z := EvC.of (by kernel_rfl) h
theorem ZKD (x : Int) (hK : (Ziz Kf x)) (v3 v6 aa : Int) (h : ZnI x v3 v6 aa) : SemL Try.prog w0 fp ρi 0 32 [ZmS, ZiW] (ZEO v3 v6 aa) Ya0 (ZwQ w0 fp ρi Kf x v3 v6 aa) :=
  Zad Zc7 (ZHn x v3 v6 aa _ (ZKE x hK v3 v6 aa h))
theorem ZKC (x : Int) (hK : (Ziz Kf x)) (v3 v6 aa : Int) (h : ZnI x v3 v6 aa) : SemL Try.prog w0 fp ρi 0 32 [ZiV, Zew] (ZEO v3 v6 aa) Ya0 (ZhN w0 fp ρi Kf x v3 v6 aa) :=
  Zat (Zah (ZKD x hK v3 v6 aa h))
theorem ZBD (x v6 : Int) (Z : Env -> Heap -> Prop) (h : Z [(2, some (.int .u8 v6))] Ya0) : EvC ZfU ZbO [(6, some (.int .u8 v6))] Ya0 [2] [] Z := EvC.of (by kernel_rfl) h
theorem ZCa (x v6 : Int) : RetC ZfT [(2, some (.int .u8 v6))] Ya0 (.int .u8 v6) := RetC.of (fun Z => by kernel_rfl)
def ZoK (x v6 : Int) : Prop := v6 = (ZcR x)
theorem ZDQ (x : Int) (hK : (Ziz Kf x)) (v6 : Int) (h : ZoK x v6) : SemL Try.prog w0 fp ρi 0 32 [ZbO, .ret] [(6, some (.int .u8 v6))] Ya0 (fnK ZfT 0 Kf) :=
  Zad Zc7 (ZBD x v6 _ (Zbv (R := ZfT) (m := 0) (Kf := Kf) (fun _ _ h => h) (ZCa x v6) (Zbg rfl (by kernel_rfl) (cg1 (fun (z1 : Int) => (.int .u8 z1 : SVal)) h) hK)))
def Zlh (x v3 v6 aa : Int) : Prop := ((decide (aa < 5)) = true -> (ZnI x v3 v6 aa)) /\ ((decide (aa < 5)) = false -> (ZoK x v6))
abbrev ZOS (x0 x1 x2 : Int) : Env := [(3, some (.int .u8 x0)), (6, some (.int .u8 x1)), (22, some (.int .i64 x2)), (23, some (.bool (decide (x2 < 5))))]
theorem ZDP (x : Int) (hK : (Ziz Kf x)) (v3 v6 aa : Int) (h : Zlh x v3 v6 aa) : SemL Try.prog w0 fp ρi 0 32 [ZmT, (.seq ZiV Zew)] (ZOS v3 v6 aa) Ya0 (ZhN w0 fp ρi Kf x v3 v6 aa) :=
  ZaJ (q := (decide (aa < 5))) (by kernel_rfl) (fun hq => (ZaI (lpk [3, 6, 22] [] (Zah (ZKC x hK v3 v6 aa (h.1 hq)))))) (fun hq => (Zbb (lpk [6] [] (Zah (ZDQ x hK v6 (h.2 hq))))))
theorem ZBC (x v3 v6 aa : Int) (Z : Env -> Heap -> Prop) (h : Z (ZOS v3 v6 aa) Ya0) : EvC ZfU ZmU (ZEO v3 v6 aa) Ya0 [3, 6, 22, 23] [] Z := EvC.of (by kernel_rfl) h
theorem ZDO (x : Int) (hK : (Ziz Kf x)) (v3 v6 aa : Int) (h : Zlh x v3 v6 aa) : SemL Try.prog w0 fp ρi 0 32 [ZmU, (.seq ZmT (.seq ZiV Zew))] (ZEO v3 v6 aa) Ya0 (ZhN w0 fp ρi Kf x v3 v6 aa) :=
  Zad Zc7 (ZBC x v3 v6 aa _ (Zah (ZDP x hK v3 v6 aa h)))
def Zhk (x v3 : Int) : Prop := (0 <= (0 : Int) /\ (0 : Int) <= 5 /\ (99 : Int) = ZCf v3 (0 : Int).toNat) /\ (∀ (v6 aa : Int), (0 <= aa /\ aa <= 5 /\ v6 = ZCf v3 aa.toNat) -> (Zlh x v3 v6 aa))
abbrev ZN3 (x0 : Int) : Env := [(3, some (.int .u8 x0)), (6, some (.int .u8 99)), (22, some (.int .i64 0))]
theorem ZDN (x : Int) (hK : (Ziz Kf x)) (v3 : Int) (h : Zhk x v3) : SemL Try.prog w0 fp ρi 0 32 [Zsz] (ZN3 v3) Ya0 (ZwR w0 fp ρi Kf x) :=
  Zbd (Zxl x v3) (Zvt x v3) (Zwj x v3) (ZvU x v3) ⟨(99, 0), tau [], h.1, (Zao [] [] rfl rfl (esc pbd (esc pbd (esc pbd Zak))) Zae (by kernel_rfl) rfl)⟩ (fun s => match s with | (v6, aa) => fun hi => (Zah (ZDO x hK v3 v6 aa (h.2 v6 aa hi))))
theorem ZDM (x : Int) (hK : (Ziz Kf x)) (v3 : Int) (h : Zhk x v3) : SemL Try.prog w0 fp ρi 0 32 [ZcI, (.seq ZbO .ret)] (ZN3 v3) Ya0 (fnK ZfT 0 Kf) :=
  Zat (ZDN x hK v3 h)
abbrev ZN2 (x0 : Int) : Env := [(3, some (.int .u8 x0)), (6, some (.int .u8 99))]
theorem ZBB (x v3 : Int) (Z : Env -> Heap -> Prop) (h : Z (ZN3 v3) Ya0) : EvC ZfU ZcJ (ZN2 v3) Ya0 [3, 6, 22] [] Z := EvC.of (by kernel_rfl) h
theorem ZDL (x : Int) (hK : (Ziz Kf x)) (v3 : Int) (h : Zhk x v3) : SemL Try.prog w0 fp ρi 0 32 [ZcJ, ZcI, (.seq ZbO .ret)] (ZN2 v3) Ya0 (fnK ZfT 0 Kf) :=
  Zad Zc7 (ZBB x v3 _ (ZDM x hK v3 h))
theorem ZBA (x v3 : Int) (Z : Env -> Heap -> Prop) (h : Z (ZN2 v3) Ya0) : EvC ZfU ZdF (Ya1 v3) Ya0 [3, 6] [] Z := EvC.of (by kernel_rfl) h
theorem ZDK (x : Int) (hK : (Ziz Kf x)) (v3 : Int) (h : Zhk x v3) : SemL Try.prog w0 fp ρi 0 32 [ZdF, (.seq (.seq ZcJ ZcI) (.seq ZbO .ret))] (Ya1 v3) Ya0 (fnK ZfT 0 Kf) :=
  Zad Zc7 (ZBA x v3 _ (Zah (Zah (ZDL x hK v3 h))))
def Zlg (x v3 v4 v5 : Int) : Prop := ((decide (0 < v5)) = true -> (ZnJ x v3 v4 v5)) /\ ((decide (0 < v5)) = false -> (Zhk x v3))
abbrev ZOR (x0 x1 x2 : Int) : Env := [(3, some (.int .u8 x0)), (4, some (.int .u8 x1)), (5, some (.int .i64 x2)), (10, some (.bool (decide (0 < x2))))]
theorem ZDJ (x : Int) (hK : (Ziz Kf x)) (v3 v4 v5 : Int) (h : Zlg x v3 v4 v5) : SemL Try.prog w0 fp ρi 0 32 [ZqB, (.seq ZmR Zex)] (ZOR v3 v4 v5) Ya0 (ZhO w0 fp ρi Kf x v3 v4 v5) :=
  ZaJ (q := (decide (0 < v5))) (by kernel_rfl) (fun hq => (ZaI (lpk [3, 4, 5] [] (Zah (ZKG x hK v3 v4 v5 (h.1 hq)))))) (fun hq => (Zbb (lpk [3] [] (Zah (ZDK x hK v3 (h.2 hq))))))
theorem ZBz (x v3 v4 v5 : Int) (Z : Env -> Heap -> Prop) (h : Z (ZOR v3 v4 v5) Ya0) : EvC ZfU ZqC (Zyi v3 v4 v5) Ya0 [3, 4, 5, 10] [] Z := EvC.of (by kernel_rfl) h
theorem ZDI (x : Int) (hK : (Ziz Kf x)) (v3 v4 v5 : Int) (h : Zlg x v3 v4 v5) : SemL Try.prog w0 fp ρi 0 32 [ZqC, ZqB, (.seq ZmR Zex)] (Zyi v3 v4 v5) Ya0 (ZhO w0 fp ρi Kf x v3 v4 v5) :=
  Zad Zc7 (ZBz x v3 v4 v5 _ (ZDJ x hK v3 v4 v5 h))
def ZeV (x : Int) : Prop := (∃ i : Nat, i <= 8 /\ (254 : Int) = pwN i /\ (1 : Int) = (pwS x i).1 /\ x = (pwS x i).2) /\ (∀ (v3 v4 v5 : Int), (∃ i : Nat, i <= 8 /\ v5 = pwN i /\ v3 = (pwS x i).1 /\ v4 = (pwS x i).2) -> (Zlg x v3 v4 v5))
abbrev ZN1 (x0 : Int) : Env := [(3, some (.int .u8 1)), (4, some (.int .u8 x0)), (5, some (.int .i64 254))]
theorem ZDH (x : Int) (hK : (Ziz Kf x)) (h : ZeV x) : SemL Try.prog w0 fp ρi 0 32 [ZsA] (ZN1 x) Ya0 (ZwS w0 fp ρi Kf x) :=
  Zbd (Zxm x) (Zvu x) (Zwk x) (ZvV x) ⟨(1, x, 254), tau [], h.1, (Zao [] [] rfl rfl (esc pbd (esc pbd (esc pbd Zak))) Zae (by kernel_rfl) rfl)⟩ (fun s => match s with | (v3, v4, v5) => fun hi => (Zah (Zah (ZDI x hK v3 v4 v5 (h.2 v3 v4 v5 hi)))))
theorem ZDG (x : Int) (hK : (Ziz Kf x)) (h : ZeV x) : SemL Try.prog w0 fp ρi 0 32 [Zg7, (.seq ZdF (.seq (.seq ZcJ ZcI) (.seq ZbO .ret)))] (ZN1 x) Ya0 (fnK ZfT 0 Kf) :=
  Zat (ZDH x hK h)
abbrev ZN0 (x0 : Int) : Env := [(3, some (.int .u8 1)), (4, some (.int .u8 x0))]
theorem ZBy (x : Int) (Z : Env -> Heap -> Prop) (h : Z (ZN1 x) Ya0) : EvC ZfU Zka (ZN0 x) Ya0 [3, 4, 5] [] Z := EvC.of (by kernel_rfl) h
theorem ZDF (x : Int) (hK : (Ziz Kf x)) (h : ZeV x) : SemL Try.prog w0 fp ρi 0 32 [Zka, Zg7, (.seq ZdF (.seq (.seq ZcJ ZcI) (.seq ZbO .ret)))] (ZN0 x) Ya0 (fnK ZfT 0 Kf) :=
  Zad Zc7 (ZBy x _ (ZDG x hK h))
theorem ZBx (x : Int) (Z : Env -> Heap -> Prop) (h : Z (ZN0 x) Ya0) : EvC ZfU ZmV (Ya3 x) Ya0 [3, 4] [] Z := EvC.of (by kernel_rfl) h
theorem ZDE (x : Int) (hK : (Ziz Kf x)) (h : ZeV x) : SemL Try.prog w0 fp ρi 0 32 [ZmV, (.seq (.seq Zka Zg7) (.seq ZdF (.seq (.seq ZcJ ZcI) (.seq ZbO .ret))))] (Ya3 x) Ya0 (fnK ZfT 0 Kf) :=
  Zad Zc7 (ZBx x _ (Zah (Zah (ZDF x hK h))))
theorem ZBw (x : Int) (Z : Env -> Heap -> Prop) (h : Z (Ya3 x) Ya0) : EvC ZfU ZqD (Ya3 x) Ya0 [0] [] Z := EvC.of (by kernel_rfl) h
theorem ZDD (x : Int) (hK : (Ziz Kf x)) (h : ZeV x) : SemL Try.prog w0 fp ρi 0 32 [ZqD, (.seq ZmV (.seq (.seq Zka Zg7) (.seq ZdF (.seq (.seq ZcJ ZcI) (.seq ZbO .ret)))))] (Ya3 x) Ya0 (fnK ZfT 0 Kf) :=
  Zad Zc7 (ZBw x _ (Zah (ZDE x hK h)))
theorem ZLX (x : Int) (hK : (Ziz Kf x)) (h : ZeV x) : SemL Try.prog w0 fp ρi 0 32 [ZLA] (Ya3 x) Ya0 (fnK ZfT 0 Kf) :=
  (Zah (ZDD x hK h))
end
theorem ZLi (x : Int) (hpre : (0 <= x /\ x < 256)) : ZeV x := by
  unfold ZeV Zlg Zhk Zlh ZoK ZnI Zut ZnJ Zuu ZrG Zuv
  refine ⟨⟨0, by omega, rfl, rfl, rfl⟩, ?_⟩
  rintro v3 v4 v5 ⟨i, hi, rfl, rfl, rfl⟩
  have hb := ZrY hpre i
  refine ⟨fun hlt => ?_, fun hge => ?_⟩
  · have hlt := (ZuV i hi).1 (of_decide_eq_true hlt)
    have hm := ZLf i hlt
    refine ⟨fun h => ⟨hb, ?_⟩, fun h => ⟨⟨hb.2, hb.2⟩, ?_⟩⟩
    · rintro aj rfl
      refine ⟨⟨hb.2, hb.2⟩, ?_⟩
      rintro ag rfl
      exact ⟨⟨i + 1, by omega, rfl, (if_pos (of_decide_eq_true h)).symm, rfl⟩, hm⟩
    · rintro ag rfl
      exact ⟨⟨i + 1, by omega, rfl, (if_neg (of_decide_eq_false h)).symm, rfl⟩, hm⟩
  · have hge := of_decide_eq_false hge
    have e : i = 8 := by
      have := ZuV i hi
      omega
    subst e
    refine ⟨⟨by omega, by omega, rfl⟩, ?_⟩
    rintro v6 aa ⟨j0, j1, rfl⟩
    refine ⟨fun hlt => ⟨⟨hb.1, by omega, by omega⟩, ?_⟩, fun hge => ?_⟩
    · have hlt := of_decide_eq_true hlt
      rintro ai rfl
      have w1 : IntKind.i64.wrap (aa + 1) = aa + 1 := by rw [ZdQ]; omega
      rw [w1]
      refine ⟨⟨by omega, by omega, ?_⟩, by omega⟩
      rw [show (aa + 1).toNat = aa.toNat + 1 by omega, ZCf, show ((aa.toNat : Nat) : Int) = aa by omega]
    · have hge := of_decide_eq_false hge
      rw [<- ZAE hpre, show aa = 5 by omega]
      rfl
theorem ZFx : Sound Try.prog 23 (ZeL ZEP) := by
  refine ZaC Ztl ?_
  intro args H K h
  obtain ⟨pre, v, hP, hpre, rfl, hK⟩ := ZbD h
  unfold ZEP at hP
  split at hP
  · cases hP
    exact ⟨rfl, fun w0 fp ρi => ZLX _ hK (ZLi _ hpre)⟩
  · cases hP
def Zq4 : Zgt := fun args => match args with
  | [] => some (True, .agg [.ints .u8 256 sboxT])
  | _ => none
def Zy4 : PCon := ⟨26, Zq4⟩
def Zqo : ACode := .reg (.op (some 0) (.alloc [.ints .u8 256 (List.replicate 256 0)]) .nil)
def ZmM : ACode := .reg (.op (some 2) (.mov (.cn (.int .i64 0))) .nil)
def Zqn : ACode := .reg (.op (some 3) (.bin .lss (.tm 2) (.cn (.int .i64 256))) .nil)
def Zqm : ACode := .cond (.tm 3) .skip (.exit 0)
def Zql : ACode := .reg (.op (some 4) (.mov (.tm 2)) (.op (some 1) (.mov (.tm 4)) .nil))
def ZmL : ACode := .reg (.op (some 5) (.mov (.tm 1)) (.op (some 6) (.mov (.tm 1)) (.op (some 7) (.conv .u8 (.tm 6)) (.op (some 8) (.call 23 [(.tm 7)]) (.op (some 9) (.idxA (.tm 0) (.tm 5) 256 1) (.op none (.store1 (.tm 9) (.tm 8)) .nil))))))
def ZmK : ACode := .block 1 (.seq Zql ZmL)
def Zgo : ACode := .reg (.op (some 10) (.bin .add (.tm 2) (.cn (.int .i64 1))) (.op (some 2) (.mov (.tm 10)) .nil))
def Zx1 : ACode := .loop (.seq Zqn (.seq Zqm (.seq ZmK Zgo)))
def ZmJ : ACode := .block 0 Zx1
def Zes : ACode := .reg (.op (some 11) (.loadA 256 (.tm 0)) (.op none (.storeA 256 (.tm 0) (.tm 11)) .nil))
def Zyb : ACode := (.seq Zqo (.seq (.seq ZmM ZmJ) (.seq Zes .ret)))
def ZdN : Res := .one (.cA 0 256)
theorem Zos : Zbj Try.prog 26 0 12 Zyb ZdN = true := by kernel_rfl
def Zfq : Zav := Zcl [ZzU] []
theorem Zeb : ZaK Try.prog Zfq := ZaL ⟨ZFx, trivial⟩ trivial
section
variable {w0 : World} {fp : Nat -> Nat -> Prop} {ρi : Rho} {Kf : SVal -> Heap -> Prop}
def ZwN (w0 : World) (fp : Nat -> Nat -> Prop) (ρi : Rho) (Kf : SVal -> Heap -> Prop) : ZaY := Zax 0 (fun e H => SemL Try.prog w0 fp ρi 0 12 [(.seq Zes .ret)] e H (fnK ZdN 0 Kf)) (fnK ZdN 0 Kf)
def Zxi : Int × List Int -> Prop := fun s => match s with | (v2, h0) => 0 <= v2 /\ v2 <= 256 /\ h0.length = 256 /\ List.take v2.toNat h0 = List.take v2.toNat sboxT
def Zvq : Int × List Int -> Nat := fun s => match s with | (v2, h0) => ((256 - v2).toNat)
def Zwg : Int × List Int -> Env := fun s => match s with | (v2, h0) => [(0, some (.ptr ⟨0, 0, 0, 1⟩ 256)), (2, some (.int .i64 v2))]
def ZvR : Int × List Int -> Heap := fun s => match s with | (v2, h0) => ⟨1, [(0, some ⟨true, [.ints .u8 256 h0], 0⟩)]⟩
def ZhK (w0 : World) (fp : Nat -> Nat -> Prop) (ρi : Rho) (Kf : SVal -> Heap -> Prop) (v2 : Int) (h0 : List Int) : ZaY := Zb2 0 (Zxi) (Zvq) (Zwg) (ZvR) (v2, h0) (ZwN w0 fp ρi Kf)
abbrev Zoy (x0 : List Int) : Heap := ⟨1, [(0, some ⟨true, [.ints .u8 256 x0], 0⟩)]⟩
abbrev ZAo (x0 : Int) : Env := [(0, some (.ptr ⟨0, 0, 0, 1⟩ 256)), (2, some (.int .i64 x0))]
theorem ZG8 (v2 : Int) (ae h0 : List Int) (Z : Env -> Heap -> Prop) (h : Z [(0, some (.ptr ⟨0, 0, 0, 1⟩ 256)), (2, some (.int .i64 (IntKind.i64.wrap (v2 + 1))))] (Zoy ae)) : EvC Zfq Zgo (ZAo v2) (Zoy ae) [0, 2] [0] Z := EvC.of (by kernel_rfl) h
def Zuk (v2 : Int) (ae h0 : List Int) : Prop := (0 <= (IntKind.i64.wrap (v2 + 1)) /\ (IntKind.i64.wrap (v2 + 1)) <= 256 /\ ae.length = 256 /\ List.take (IntKind.i64.wrap (v2 + 1)).toNat ae = List.take (IntKind.i64.wrap (v2 + 1)).toNat sboxT) /\ (((256 - (IntKind.i64.wrap (v2 + 1))).toNat) < ((256 - v2).toNat))
abbrev Zty (x0 : SVal -> Heap -> Prop) : Prop := x0 (.agg [.ints .u8 256 sboxT]) ⟨0, []⟩
theorem ZKi (hK : (Zty Kf)) (v2 : Int) (ae h0 : List Int) (h : Zuk v2 ae h0) : SemL Try.prog w0 fp ρi 0 12 [Zgo] (ZAo v2) (Zoy ae) (ZhK w0 fp ρi Kf v2 h0) :=
  Zad Zeb (ZG8 v2 ae h0 _ (ZaO (Zay (x' := ((IntKind.i64.wrap (v2 + 1)), ae)) (τ := tau []) h.1 h.2 (Zao [] [0] rfl rfl (esc bpt (esc pbd Zak)) (hsc pcs Zae) (by kernel_rfl) rfl))))
def ZwM (w0 : World) (fp : Nat -> Nat -> Prop) (ρi : Rho) (Kf : SVal -> Heap -> Prop) (v2 : Int) (h0 : List Int) : ZaY := Zax 1 (fun e H => SemL Try.prog w0 fp ρi 0 12 [Zgo] e H (ZhK w0 fp ρi Kf v2 h0)) (ZhK w0 fp ρi Kf v2 h0)
abbrev ZNZ (x0 : Int) : Env := [(0, some (.ptr ⟨0, 0, 0, 1⟩ 256)), (1, some (.int .i64 x0)), (2, some (.int .i64 x0))]
theorem ZG7 (v2 : Int) (h0 : List Int) (Z : Env -> Heap -> Prop) (h : ((0 <= (IntKind.u8.wrap v2) /\ (IntKind.u8.wrap v2) < 256)) /\ ((0 <= v2)) /\ ((v2 < 256)) /\ (((0 + ((Int.toNat v2) * 1)) < 256)) /\ (((0 + ((Int.toNat v2) * 1)) < List.length h0)) /\ Z (ZAo v2) ⟨1, [(0, some ⟨true, [.ints .u8 256 (List.set h0 (0 + ((Int.toNat v2) * 1)) (ZcR (IntKind.u8.wrap v2)))], 0⟩)]⟩) : EvC Zfq ZmL (ZNZ v2) (Zoy h0) [0, 2] [0] Z := EvC.of (by kernel_rfl) h
def ZnF (v2 : Int) (h0 : List Int) : Prop := ((0 <= (IntKind.u8.wrap v2) /\ (IntKind.u8.wrap v2) < 256)) /\ (((0 <= v2)) /\ (((v2 < 256)) /\ ((((0 + ((Int.toNat v2) * 1)) < 256)) /\ ((((0 + ((Int.toNat v2) * 1)) < List.length h0)) /\ (∀ ae : List Int, ae = (List.set h0 (0 + ((Int.toNat v2) * 1)) (ZcR (IntKind.u8.wrap v2))) -> Zuk v2 ae h0)))))
theorem ZKh (hK : (Zty Kf)) (v2 : Int) (h0 : List Int) (h : ZnF v2 h0) : SemL Try.prog w0 fp ρi 0 12 [ZmL] (ZNZ v2) (Zoy h0) (ZwM w0 fp ρi Kf v2 h0) :=
  Zad Zeb (ZG7 v2 h0 _ ⟨h.1, ⟨h.2.1, ⟨h.2.2.1, ⟨h.2.2.2.1, ⟨h.2.2.2.2.1, (ZaO (ZKi hK v2 (List.set h0 (0 + ((Int.toNat v2) * 1)) (ZcR (IntKind.u8.wrap v2))) h0 (h.2.2.2.2.2 (List.set h0 (0 + ((Int.toNat v2) * 1)) (ZcR (IntKind.u8.wrap v2))) rfl)))⟩⟩⟩⟩⟩)
theorem ZG6 (v2 : Int) (h0 : List Int) (Z : Env -> Heap -> Prop) (h : Z (ZNZ v2) (Zoy h0)) : EvC Zfq Zql (ZAo v2) (Zoy h0) [0, 1, 2] [0] Z := EvC.of (by kernel_rfl) h
theorem ZKg (hK : (Zty Kf)) (v2 : Int) (h0 : List Int) (h : ZnF v2 h0) : SemL Try.prog w0 fp ρi 0 12 [Zql, ZmL] (ZAo v2) (Zoy h0) (ZwM w0 fp ρi Kf v2 h0) :=
  Zad Zeb (ZG6 v2 h0 _ (ZKh hK v2 h0 h))
theorem ZKf (hK : (Zty Kf)) (v2 : Int) (h0 : List Int) (h : ZnF v2 h0) : SemL Try.prog w0 fp ρi 0 12 [ZmK, Zgo] (ZAo v2) (Zoy h0) (ZhK w0 fp ρi Kf v2 h0) :=
  Zat (Zah (ZKg hK v2 h0 h))
abbrev ZEN : Env := [(0, some (.ptr ⟨0, 0, 0, 1⟩ 256))]
theorem ZG5 (h0 : List Int) (Z : Env -> Heap -> Prop) (h : Z ZEN (Zoy h0)) : EvC Zfq Zes ZEN (Zoy h0) [0] [0] Z := EvC.of (by kernel_rfl) h
theorem ZB7 (h0 : List Int) : RetC ZdN ZEN (Zoy h0) (.agg [.ints .u8 256 h0]) := RetC.of (fun Z => by kernel_rfl)
def Zuj (h0 : List Int) : Prop := h0 = sboxT
theorem ZKe (hK : (Zty Kf)) (h0 : List Int) (h : Zuj h0) : SemL Try.prog w0 fp ρi 0 12 [Zes, .ret] ZEN (Zoy h0) (fnK ZdN 0 Kf) :=
  Zad Zeb (ZG5 h0 _ (Zbv (R := ZdN) (m := 0) (Kf := Kf) (fun _ _ h => h) (ZB7 h0) (Zbg rfl (by kernel_rfl) (cg1 (fun (z1 : List Int) => (.agg [.ints .u8 256 z1] : SVal)) h) hK)))
def ZrC (v2 : Int) (h0 : List Int) : Prop := ((decide (v2 < 256)) = true -> (ZnF v2 h0)) /\ ((decide (v2 < 256)) = false -> (Zuj h0))
abbrev ZOQ (x0 : Int) : Env := [(0, some (.ptr ⟨0, 0, 0, 1⟩ 256)), (2, some (.int .i64 x0)), (3, some (.bool (decide (x0 < 256))))]
theorem ZKd (hK : (Zty Kf)) (v2 : Int) (h0 : List Int) (h : ZrC v2 h0) : SemL Try.prog w0 fp ρi 0 12 [Zqm, (.seq ZmK Zgo)] (ZOQ v2) (Zoy h0) (ZhK w0 fp ρi Kf v2 h0) :=
  ZaJ (q := (decide (v2 < 256))) (by kernel_rfl) (fun hq => (ZaI (lpk [0, 2] [0] (Zah (ZKf hK v2 h0 (h.1 hq)))))) (fun hq => (Zbb (lpk [0] [0] (Zah (ZKe hK h0 (h.2 hq))))))
theorem ZG4 (v2 : Int) (h0 : List Int) (Z : Env -> Heap -> Prop) (h : Z (ZOQ v2) (Zoy h0)) : EvC Zfq Zqn (ZAo v2) (Zoy h0) [0, 2, 3] [0] Z := EvC.of (by kernel_rfl) h
theorem ZKc (hK : (Zty Kf)) (v2 : Int) (h0 : List Int) (h : ZrC v2 h0) : SemL Try.prog w0 fp ρi 0 12 [Zqn, (.seq Zqm (.seq ZmK Zgo))] (ZAo v2) (Zoy h0) (ZhK w0 fp ρi Kf v2 h0) :=
  Zad Zeb (ZG4 v2 h0 _ (Zah (ZKd hK v2 h0 h)))
def Zjc : Prop := (0 <= (0 : Int) /\ (0 : Int) <= 256 /\ (List.replicate 256 0).length = 256 /\ List.take (0 : Int).toNat (List.replicate 256 0) = List.take (0 : Int).toNat sboxT) /\ (∀ (v2 : Int) (h0 : List Int), (0 <= v2 /\ v2 <= 256 /\ h0.length = 256 /\ List.take v2.toNat h0 = List.take v2.toNat sboxT) -> (ZrC v2 h0))
abbrev ZNY : Env := [(0, some (.ptr ⟨0, 0, 0, 1⟩ 256)), (2, some (.int .i64 0))]
abbrev ZFg : Heap := ⟨1, [(0, some ⟨true, [.ints .u8 256 (List.replicate 256 0)], 0⟩)]⟩
theorem ZKb (hK : (Zty Kf)) (h : Zjc) : SemL Try.prog w0 fp ρi 0 12 [Zx1] ZNY ZFg (ZwN w0 fp ρi Kf) :=
  Zbd (Zxi) (Zvq) (Zwg) (ZvR) ⟨(0, (List.replicate 256 0)), tau [], h.1, (Zao [] [0] rfl rfl (esc bpt (esc pbd Zak)) (hsc pcs Zae) (by kernel_rfl) rfl)⟩ (fun s => match s with | (v2, h0) => fun hi => (Zah (ZKc hK v2 h0 (h.2 v2 h0 hi))))
theorem ZKa (hK : (Zty Kf)) (h : Zjc) : SemL Try.prog w0 fp ρi 0 12 [ZmJ, (.seq Zes .ret)] ZNY ZFg (fnK ZdN 0 Kf) :=
  Zat (ZKb hK h)
theorem ZG3 (Z : Env -> Heap -> Prop) (h : Z ZNY ZFg) : EvC Zfq ZmM ZEN ZFg [0, 2] [0] Z := EvC.of (by kernel_rfl) h
theorem ZJ9 (hK : (Zty Kf)) (h : Zjc) : SemL Try.prog w0 fp ρi 0 12 [ZmM, ZmJ, (.seq Zes .ret)] ZEN ZFg (fnK ZdN 0 Kf) :=
  Zad Zeb (ZG3 _ (ZKa hK h))
theorem ZBn (Z : Env -> Heap -> Prop) (h : Z ZEN ZFg) : EvC Zfq Zqo [] Ya0 [0] [0] Z := EvC.of (by kernel_rfl) h
theorem ZDq (hK : (Zty Kf)) (h : Zjc) : SemL Try.prog w0 fp ρi 0 12 [Zqo, (.seq (.seq ZmM ZmJ) (.seq Zes .ret))] [] Ya0 (fnK ZdN 0 Kf) :=
  Zad Zeb (ZBn _ (Zah (Zah (ZJ9 hK h))))
theorem ZAs (hK : (Zty Kf)) (h : Zjc) : SemL Try.prog w0 fp ρi 0 12 [Zyb] [] Ya0 (fnK ZdN 0 Kf) :=
  (Zah (ZDq hK h))
end
theorem Zy8 (hpre : True) : Zjc := by
  unfold Zjc ZrC Zuj ZnF Zuk
  refine ⟨⟨by omega, by omega, by rw [List.length_replicate], rfl⟩, ?_⟩
  rintro v2 h0 ⟨i0, i1, i2, i3⟩
  have ls : sboxT.length = 256 := by decide +kernel
  refine ⟨fun hlt => ?_, fun hge => ?_⟩
  · have hlt := of_decide_eq_true hlt
    have w1 : IntKind.i64.wrap (v2 + 1) = v2 + 1 := by rw [ZdQ]; omega
    have w8 : IntKind.u8.wrap v2 = v2 := by rw [wrap_u8]; omega
    rw [w1, w8, Nat.zero_add, Nat.mul_one]
    refine ⟨by omega, i0, by omega, by omega, by omega, ?_⟩
    rintro h1 rfl
    refine ⟨⟨by omega, by omega, by rw [List.length_set, i2], ?_⟩, by omega⟩
    rw [show (v2 + 1).toNat = v2.toNat + 1 by omega, List.take_add_one, List.take_add_one, List.take_set_of_le (by omega), i3, List.getElem?_set_self (by omega)]
    unfold ZcR
    rw [List.getD_eq_getElem?_getD, List.getElem?_eq_getElem (by omega : v2.toNat < sboxT.length)]
    rfl
  · have hge : v2 = 256 := by have := of_decide_eq_false hge; omega
    subst hge
    rw [List.take_of_length_le (by omega), List.take_of_length_le (by omega)] at i3
    exact i3
theorem ZAJ : Sound Try.prog 26 (ZeL Zq4) := by
  refine ZaC Zos ?_
  intro args H K h
  obtain ⟨pre, v, hP, hpre, rfl, hK⟩ := ZbD h
  unfold Zq4 at hP
  split at hP
  · cases hP
    exact ⟨rfl, fun w0 fp ρi => ZAs hK (Zy8 hpre)⟩
  · cases hP
end Go.Proofs.Ytfffjdfegnmejaa
