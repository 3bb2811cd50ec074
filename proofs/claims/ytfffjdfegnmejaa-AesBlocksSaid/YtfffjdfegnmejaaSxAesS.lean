/- Part of the proof: SxAesS. -/
import Derived.Test.YtfffjdfegnmejaaSxAesU
import Derived.Test.YtfffjdfegnmejaaSxAesE
import Derived.Test.YtfffjdfegnmejaaSxAesN
import Derived.Test.YtfffjdfegnmejaaSxAes4
import Derived.KernelRfl
set_option linter.unusedVariables false
set_option linter.unusedSimpArgs false
set_option maxRecDepth 20000
namespace Go.Proofs.Ytfffjdfegnmejaa
open Go.Sx
def Zkk : Zgt := fun args => match args with
  | [] => some (True, .bool true)
  | _ => none
def Zs6 : PCon := ⟨7, Zkk⟩
def ZxN : ACode := .reg (.op (some 0) (.mov (.cn (.bool false))) .nil)
def Zsi : ACode := .reg (.op (some 2) (.call 22 [(.cn (.str ⟨#[48, 48, 48, 49, 48, 50, 48, 51, 48, 52, 48, 53, 48, 54, 48, 55, 48, 56, 48, 57, 48, 97, 48, 98, 48, 99, 48, 100, 48, 101, 48, 102]⟩))]) (.op (some 3) (.call 9 [(.tm 2)]) (.op (some 1) (.mov (.tm 3)) .nil)))
def Zok : ACode := .reg (.op (some 4) (.call 23 [(.cn (.int .u8 0))]) (.op (some 5) (.bin .eql (.tm 4) (.cn (.int .u8 99))) (.op (some 6) (.mov (.tm 5)) (.grpJ 6 true (.op (some 7) (.mov (.tm 1)) (.op (some 8) (.isNilP true (.tm 7)) .nil)) 9 (.tm 8) (.cn (.bool false)) (.op (some 10) (.mov (.tm 9)) (.grpJ 10 true (.op (some 11) (.mov (.tm 1)) (.op (some 12) (.call 22 [(.cn (.str ⟨#[48, 48, 49, 49, 50, 50, 51, 51, 52, 52, 53, 53, 54, 54, 55, 55, 56, 56, 57, 57, 97, 97, 98, 98, 99, 99, 100, 100, 101, 101, 102, 102]⟩))]) (.op (some 13) (.call 11 [(.tm 11), (.tm 12)]) (.op (some 14) (.call 22 [(.cn (.str ⟨#[54, 57, 99, 52, 101, 48, 100, 56, 54, 97, 55, 98, 48, 52, 51, 48, 100, 56, 99, 100, 98, 55, 56, 48, 55, 48, 98, 52, 99, 53, 53, 97]⟩))]) (.op (some 15) (.eqA false [.ints .u8 16 (List.replicate 16 0)] (.tm 13) (.tm 14)) .nil))))) 16 (.tm 15) (.cn (.bool false)) (.op (some 0) (.mov (.tm 16)) .nil)))))))
def Zom : ACode := (.seq ZxN (.seq Zsi (.seq Zok .ret)))
def Zdf : Res := .one (.tm 0)
theorem Zko : Zbj Try.prog 7 0 17 Zom Zdf = true := by kernel_rfl
def Zhe : Zav := Zcl [ZuY, ZzU] [Zx6, Zx7]
theorem ZhT : ZaK Try.prog Zhe := ZaL ⟨ZyT, ZFx, trivial⟩ ⟨ZFy, ZFz, trivial⟩
section
variable {w0 : World} {fp : Nat -> Nat -> Prop} {ρi : Rho} {Kf : SVal -> Heap -> Prop}
abbrev Yl0 (x0 : List Int) : Heap := ⟨1, [(0, some ⟨true, [.ints .u8 256 sboxT, .ints .u8 176 x0], 0⟩)]⟩
abbrev Yl1 : Env := [(1, some (.ptr ⟨0, 0, 0, 1⟩ 432))]
theorem ZMj (aa : List Int) (Z : Env -> Heap -> Prop) (h : ((0 <= (0 : Int) /\ (0 : Int) < 256)) /\ ∃ qq : Bool, (((ZcR (0 : Int)) == 99) = true -> (Zby (Yl0 aa) (Yl0 aa) [(0, some ⟨true, [.ints .u8 256 sboxT, .ints .u8 176 aa], 0⟩)]) /\ true = qq) /\ (((ZcR (0 : Int)) == 99) = false -> false = qq) /\ ∃ qq'1 : Bool, (qq = true -> (((ByteArray.size ⟨#[48, 48, 49, 49, 50, 50, 51, 51, 52, 52, 53, 53, 54, 54, 55, 55, 56, 56, 57, 57, 97, 97, 98, 98, 99, 99, 100, 100, 101, 101, 102, 102]⟩ <= 1000000) /\ ZoA ⟨#[48, 48, 49, 49, 50, 50, 51, 51, 52, 52, 53, 53, 54, 54, 55, 55, 56, 56, 57, 57, 97, 97, 98, 98, 99, 99, 100, 100, 101, 101, 102, 102]⟩ = true)) /\ ((sboxT = sboxT /\ Zhd aa /\ Zaz (ZfL ⟨#[48, 48, 49, 49, 50, 50, 51, 51, 52, 52, 53, 53, 54, 54, 55, 55, 56, 56, 57, 57, 97, 97, 98, 98, 99, 99, 100, 100, 101, 101, 102, 102]⟩))) /\ (((ByteArray.size ⟨#[54, 57, 99, 52, 101, 48, 100, 56, 54, 97, 55, 98, 48, 52, 51, 48, 100, 56, 99, 100, 98, 55, 56, 48, 55, 48, 98, 52, 99, 53, 53, 97]⟩ <= 1000000) /\ ZoA ⟨#[54, 57, 99, 52, 101, 48, 100, 56, 54, 97, 55, 98, 48, 52, 51, 48, 100, 56, 99, 100, 98, 55, 56, 48, 55, 48, 98, 52, 99, 53, 53, 97]⟩ = true)) /\ ((List.length (ZdO aa (ZfL ⟨#[48, 48, 49, 49, 50, 50, 51, 51, 52, 52, 53, 53, 54, 54, 55, 55, 56, 56, 57, 57, 97, 97, 98, 98, 99, 99, 100, 100, 101, 101, 102, 102]⟩)) = 16)) /\ ((List.length (ZfL ⟨#[54, 57, 99, 52, 101, 48, 100, 56, 54, 97, 55, 98, 48, 52, 51, 48, 100, 56, 99, 100, 98, 55, 56, 48, 55, 48, 98, 52, 99, 53, 53, 97]⟩) = 16)) /\ (Zby (Yl0 aa) (Yl0 aa) [(0, some ⟨true, [.ints .u8 256 sboxT, .ints .u8 176 aa], 0⟩)]) /\ (((ZdO aa (ZfL ⟨#[48, 48, 49, 49, 50, 50, 51, 51, 52, 52, 53, 53, 54, 54, 55, 55, 56, 56, 57, 57, 97, 97, 98, 98, 99, 99, 100, 100, 101, 101, 102, 102]⟩)) == (ZfL ⟨#[54, 57, 99, 52, 101, 48, 100, 56, 54, 97, 55, 98, 48, 52, 51, 48, 100, 56, 99, 100, 98, 55, 56, 48, 55, 48, 98, 52, 99, 53, 53, 97]⟩)) && true) = qq'1) /\ (qq = false -> false = qq'1) /\ Z [(0, some (.bool qq'1))] ⟨1, []⟩) : EvC Zhe Zok Yl1 (Yl0 aa) [0] [] Z := EvC.of (by kernel_rfl) h
theorem ZHS (aa : List Int) : RetC Zdf [(0, some (.bool ((((ZcR (0 : Int)) == 99) && true) && (((ZdO aa (ZfL ⟨#[48, 48, 49, 49, 50, 50, 51, 51, 52, 52, 53, 53, 54, 54, 55, 55, 56, 56, 57, 57, 97, 97, 98, 98, 99, 99, 100, 100, 101, 101, 102, 102]⟩)) == (ZfL ⟨#[54, 57, 99, 52, 101, 48, 100, 56, 54, 97, 55, 98, 48, 52, 51, 48, 100, 56, 99, 100, 98, 55, 56, 48, 55, 48, 98, 52, 99, 53, 53, 97]⟩)) && true))))] ⟨1, []⟩ (.bool ((((ZcR (0 : Int)) == 99) && true) && (((ZdO aa (ZfL ⟨#[48, 48, 49, 49, 50, 50, 51, 51, 52, 52, 53, 53, 54, 54, 55, 55, 56, 56, 57, 57, 97, 97, 98, 98, 99, 99, 100, 100, 101, 101, 102, 102]⟩)) == (ZfL ⟨#[54, 57, 99, 52, 101, 48, 100, 56, 54, 97, 55, 98, 48, 52, 51, 48, 100, 56, 99, 100, 98, 55, 56, 48, 55, 48, 98, 52, 99, 53, 53, 97]⟩)) && true))) := RetC.of (fun Z => by kernel_rfl)
def ZAx (aa : List Int) : Prop := ((0 <= (0 : Int) /\ (0 : Int) < 256)) /\ (((((ZcR (0 : Int)) == 99) && true) = true -> ((((ByteArray.size ⟨#[48, 48, 49, 49, 50, 50, 51, 51, 52, 52, 53, 53, 54, 54, 55, 55, 56, 56, 57, 57, 97, 97, 98, 98, 99, 99, 100, 100, 101, 101, 102, 102]⟩ <= 1000000) /\ ZoA ⟨#[48, 48, 49, 49, 50, 50, 51, 51, 52, 52, 53, 53, 54, 54, 55, 55, 56, 56, 57, 57, 97, 97, 98, 98, 99, 99, 100, 100, 101, 101, 102, 102]⟩ = true)) /\ (((sboxT = sboxT /\ Zhd aa /\ Zaz (ZfL ⟨#[48, 48, 49, 49, 50, 50, 51, 51, 52, 52, 53, 53, 54, 54, 55, 55, 56, 56, 57, 57, 97, 97, 98, 98, 99, 99, 100, 100, 101, 101, 102, 102]⟩))) /\ ((((ByteArray.size ⟨#[54, 57, 99, 52, 101, 48, 100, 56, 54, 97, 55, 98, 48, 52, 51, 48, 100, 56, 99, 100, 98, 55, 56, 48, 55, 48, 98, 52, 99, 53, 53, 97]⟩ <= 1000000) /\ ZoA ⟨#[54, 57, 99, 52, 101, 48, 100, 56, 54, 97, 55, 98, 48, 52, 51, 48, 100, 56, 99, 100, 98, 55, 56, 48, 55, 48, 98, 52, 99, 53, 53, 97]⟩ = true)) /\ (((List.length (ZdO aa (ZfL ⟨#[48, 48, 49, 49, 50, 50, 51, 51, 52, 52, 53, 53, 54, 54, 55, 55, 56, 56, 57, 57, 97, 97, 98, 98, 99, 99, 100, 100, 101, 101, 102, 102]⟩)) = 16)) /\ ((List.length (ZfL ⟨#[54, 57, 99, 52, 101, 48, 100, 56, 54, 97, 55, 98, 48, 52, 51, 48, 100, 56, 99, 100, 98, 55, 56, 48, 55, 48, 98, 52, 99, 53, 53, 97]⟩) = 16))))))) /\ (((((ZcR (0 : Int)) == 99) && true) && (((ZdO aa (ZfL ⟨#[48, 48, 49, 49, 50, 50, 51, 51, 52, 52, 53, 53, 54, 54, 55, 55, 56, 56, 57, 57, 97, 97, 98, 98, 99, 99, 100, 100, 101, 101, 102, 102]⟩)) == (ZfL ⟨#[54, 57, 99, 52, 101, 48, 100, 56, 54, 97, 55, 98, 48, 52, 51, 48, 100, 56, 99, 100, 98, 55, 56, 48, 55, 48, 98, 52, 99, 53, 53, 97]⟩)) && true)) = true))
theorem ZMF (hK : Kf (.bool true) ⟨0, []⟩) (aa : List Int) (h : ZAx aa) : SemL Try.prog w0 fp ρi 0 17 [Zok, .ret] Yl1 (Yl0 aa) (fnK Zdf 0 Kf) :=
  Zad ZhT (ZMj aa _ ⟨h.1, ⟨(((ZcR (0 : Int)) == 99) && true), fun hc_qq => ⟨(ZbZ _), (qa1 hc_qq)⟩, fun hc_qq => qa2 hc_qq, ⟨((((ZcR (0 : Int)) == 99) && true) && (((ZdO aa (ZfL ⟨#[48, 48, 49, 49, 50, 50, 51, 51, 52, 52, 53, 53, 54, 54, 55, 55, 56, 56, 57, 57, 97, 97, 98, 98, 99, 99, 100, 100, 101, 101, 102, 102]⟩)) == (ZfL ⟨#[54, 57, 99, 52, 101, 48, 100, 56, 54, 97, 55, 98, 48, 52, 51, 48, 100, 56, 99, 100, 98, 55, 56, 48, 55, 48, 98, 52, 99, 53, 53, 97]⟩)) && true)), fun hc_qq_1 => ⟨(h.2.1 hc_qq_1).1, ⟨(h.2.1 hc_qq_1).2.1, ⟨(h.2.1 hc_qq_1).2.2.1, ⟨(h.2.1 hc_qq_1).2.2.2.1, ⟨(h.2.1 hc_qq_1).2.2.2.2, ⟨(ZwZ [0] (by kernel_rfl) (by kernel_rfl)), (qa1 hc_qq_1)⟩⟩⟩⟩⟩⟩, fun hc_qq_1 => qa2 hc_qq_1, (Zbv (R := Zdf) (m := 0) (Kf := Kf) (fun _ _ h => h) (ZHS aa) (Zbg rfl (by kernel_rfl) (cg1 (fun (z1 : Bool) => (.bool z1 : SVal)) h.2.2) hK))⟩⟩⟩)
theorem ZMi (Z : Env -> Heap -> Prop) (h : (((ByteArray.size ⟨#[48, 48, 48, 49, 48, 50, 48, 51, 48, 52, 48, 53, 48, 54, 48, 55, 48, 56, 48, 57, 48, 97, 48, 98, 48, 99, 48, 100, 48, 101, 48, 102]⟩ <= 1000000) /\ ZoA ⟨#[48, 48, 48, 49, 48, 50, 48, 51, 48, 52, 48, 53, 48, 54, 48, 55, 48, 56, 48, 57, 48, 97, 48, 98, 48, 99, 48, 100, 48, 101, 48, 102]⟩ = true)) /\ ((Zaz (ZfL ⟨#[48, 48, 48, 49, 48, 50, 48, 51, 48, 52, 48, 53, 48, 54, 48, 55, 48, 56, 48, 57, 48, 97, 48, 98, 48, 99, 48, 100, 48, 101, 48, 102]⟩))) /\ Z Yl1 ⟨1, [(0, some ⟨true, [.ints .u8 256 sboxT, .ints .u8 176 (ZfP (ZfL ⟨#[48, 48, 48, 49, 48, 50, 48, 51, 48, 52, 48, 53, 48, 54, 48, 55, 48, 56, 48, 57, 48, 97, 48, 98, 48, 99, 48, 100, 48, 101, 48, 102]⟩))], 0⟩)]⟩) : EvC Zhe Zsi [] ⟨0, []⟩ [1] [0] Z := EvC.of (by kernel_rfl) h
def ZtK : Prop := (((ByteArray.size ⟨#[48, 48, 48, 49, 48, 50, 48, 51, 48, 52, 48, 53, 48, 54, 48, 55, 48, 56, 48, 57, 48, 97, 48, 98, 48, 99, 48, 100, 48, 101, 48, 102]⟩ <= 1000000) /\ ZoA ⟨#[48, 48, 48, 49, 48, 50, 48, 51, 48, 52, 48, 53, 48, 54, 48, 55, 48, 56, 48, 57, 48, 97, 48, 98, 48, 99, 48, 100, 48, 101, 48, 102]⟩ = true)) /\ (((Zaz (ZfL ⟨#[48, 48, 48, 49, 48, 50, 48, 51, 48, 52, 48, 53, 48, 54, 48, 55, 48, 56, 48, 57, 48, 97, 48, 98, 48, 99, 48, 100, 48, 101, 48, 102]⟩))) /\ (∀ aa : List Int, aa = (ZfP (ZfL ⟨#[48, 48, 48, 49, 48, 50, 48, 51, 48, 52, 48, 53, 48, 54, 48, 55, 48, 56, 48, 57, 48, 97, 48, 98, 48, 99, 48, 100, 48, 101, 48, 102]⟩)) -> ZAx aa))
theorem ZME (hK : Kf (.bool true) ⟨0, []⟩) (h : ZtK) : SemL Try.prog w0 fp ρi 0 17 [Zsi, (.seq Zok .ret)] [] ⟨0, []⟩ (fnK Zdf 0 Kf) :=
  Zad ZhT (ZMi _ ⟨h.1, ⟨h.2.1, (Zah (ZMF hK (ZfP (ZfL ⟨#[48, 48, 48, 49, 48, 50, 48, 51, 48, 52, 48, 53, 48, 54, 48, 55, 48, 56, 48, 57, 48, 97, 48, 98, 48, 99, 48, 100, 48, 101, 48, 102]⟩)) (h.2.2 (ZfP (ZfL ⟨#[48, 48, 48, 49, 48, 50, 48, 51, 48, 52, 48, 53, 48, 54, 48, 55, 48, 56, 48, 57, 48, 97, 48, 98, 48, 99, 48, 100, 48, 101, 48, 102]⟩)) rfl)))⟩⟩)
theorem ZMh (Z : Env -> Heap -> Prop) (h : Z [] ⟨0, []⟩) : EvC Zhe ZxN [] ⟨0, []⟩ [] [] Z := EvC.of (by kernel_rfl) h
theorem ZMD (hK : Kf (.bool true) ⟨0, []⟩) (h : ZtK) : SemL Try.prog w0 fp ρi 0 17 [ZxN, (.seq Zsi (.seq Zok .ret))] [] ⟨0, []⟩ (fnK Zdf 0 Kf) :=
  Zad ZhT (ZMh _ (Zah (ZME hK h)))
theorem ZtC (hK : Kf (.bool true) ⟨0, []⟩) (h : ZtK) : SemL Try.prog w0 fp ρi 0 17 [Zom] [] ⟨0, []⟩ (fnK Zdf 0 Kf) :=
  (Zah (ZMD hK h))
end
theorem Zs7 (hpre : True) : ZtK := by
  unfold ZtK ZAx
  have hs : ZcR 0 = 99 := by decide +kernel
  have hK := ex_ok.1
  have hB := ex_ok.2.1
  have hC := ex_ok.2.2
  have he := ZLw
  have bK := Zq0 hK.2
  have bB := Zq0 hB.2
  have bC := Zq0 hC.2
  refine ⟨hK, bK, ?_⟩
  rintro h rfl
  refine ⟨by omega, fun _ => ⟨hB, ⟨rfl, ZlF bK, bB⟩, hC, (ZkA _ _ _).1, bC.1⟩, ?_⟩
  have he : (ZdO (ZfP (ZfL exK)) (ZfL exB) == ZfL exC) = true := by rw [he]; exact beq_self_eq_true _
  rw [hs]
  exact (congrArg (fun z => (99 == 99 && true && (z && true))) he).trans rfl
theorem ZuK : Sound Try.prog 7 (ZeL Zkk) := by
  refine ZaC Zko ?_
  intro args H K h
  obtain ⟨pre, v, hP, hpre, rfl, hK⟩ := ZbD h
  unfold Zkk at hP
  split at hP
  · cases hP
    exact ⟨rfl, fun w0 fp ρi => ZtC hK (Zs7 hpre)⟩
  · cases hP
end Go.Proofs.Ytfffjdfegnmejaa
