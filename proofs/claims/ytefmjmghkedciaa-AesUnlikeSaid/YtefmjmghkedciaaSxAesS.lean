/- Walks, printed by vcg. -/
import Derived.Test.YtefmjmghkedciaaSxAesU
import Derived.Test.YtefmjmghkedciaaSxAesE
import Derived.Test.YtefmjmghkedciaaSxAesN
import Derived.Test.YtefmjmghkedciaaSxAes4
import Derived.KernelRfl
set_option linter.unusedVariables false
set_option linter.unusedSimpArgs false
set_option maxRecDepth 20000
namespace Go.Proofs.Ytefmjmghkedciaa
open Go.Sx
def Pl2Speaks : PSpec := fun args => match args with
  | [] => some (True, .bool true)
  | _ => none
def pcl2Speaks : PCon := ⟨21, Pl2Speaks⟩
def cz21_n0 : ACode := .reg (.op (some 0) (.mov (.cn (.bool false))) .nil)
def cz21_n1 : ACode := .reg (.op (some 2) (.call 46 [(.cn (.str ⟨#[48, 48, 48, 49, 48, 50, 48, 51, 48, 52, 48, 53, 48, 54, 48, 55, 48, 56, 48, 57, 48, 97, 48, 98, 48, 99, 48, 100, 48, 101, 48, 102]⟩))]) (.op (some 3) (.call 26 [(.tm 2)]) (.op (some 1) (.mov (.tm 3)) .nil)))
def cz21_n2 : ACode := .reg (.op (some 4) (.call 24 [(.cn (.int .u8 0))]) (.op (some 5) (.bin .eql (.tm 4) (.cn (.int .u8 99))) (.op (some 6) (.mov (.tm 5)) (.grpJ 6 true (.op (some 7) (.mov (.tm 1)) (.op (some 8) (.isNilP true (.tm 7)) .nil)) 9 (.tm 8) (.cn (.bool false)) (.op (some 10) (.mov (.tm 9)) (.grpJ 10 true (.op (some 11) (.mov (.tm 1)) (.op (some 12) (.call 46 [(.cn (.str ⟨#[48, 48, 49, 49, 50, 50, 51, 51, 52, 52, 53, 53, 54, 54, 55, 55, 56, 56, 57, 57, 97, 97, 98, 98, 99, 99, 100, 100, 101, 101, 102, 102]⟩))]) (.op (some 13) (.call 27 [(.tm 11), (.tm 12)]) (.op (some 14) (.call 46 [(.cn (.str ⟨#[54, 57, 99, 52, 101, 48, 100, 56, 54, 97, 55, 98, 48, 52, 51, 48, 100, 56, 99, 100, 98, 55, 56, 48, 55, 48, 98, 52, 99, 53, 53, 97]⟩))]) (.op (some 15) (.eqA false [.ints .u8 16 (List.replicate 16 0)] (.tm 13) (.tm 14)) .nil))))) 16 (.tm 15) (.cn (.bool false)) (.op (some 0) (.mov (.tm 16)) .nil)))))))
def cl2Speaks : ACode := (.seq cz21_n0 (.seq cz21_n1 (.seq cz21_n2 .ret)))
def Rl2Speaks : Res := .one (.tm 0)
theorem cl2Speaks_fits : fnFits Try.prog 21 0 17 cl2Speaks Rl2Speaks = true := by kernel_rfl
def Gl2Speaks : Calls' := withP [pcaSub, pcl2Block] [conaNew, conaEnc]
theorem hGl2Speaks : CallOk Try.prog Gl2Speaks := withP_ok ⟨saSub, sl2Block, trivial⟩ ⟨saNew, saEnc, trivial⟩
section
variable {w0 : World} {fp : Nat → Nat → Prop} {ρi : Rho} {Kf : SVal → Heap → Prop}
theorem rz21_0 (h0_1 : List Int) (Z : Env → Heap → Prop) (h : ((0 ≤ (0 : Int) ∧ (0 : Int) < 256)) ∧ ∃ qq : Bool, (((subB (0 : Int)) == 99) = true → (keeps ⟨1, [(0, some ⟨true, [.ints .u8 256 sboxT, .ints .u8 176 h0_1], 0⟩)]⟩ ⟨1, [(0, some ⟨true, [.ints .u8 256 sboxT, .ints .u8 176 h0_1], 0⟩)]⟩ [(0, some ⟨true, [.ints .u8 256 sboxT, .ints .u8 176 h0_1], 0⟩)]) ∧ true = qq) ∧ (((subB (0 : Int)) == 99) = false → false = qq) ∧ ∃ qq'1 : Bool, (qq = true → (((ByteArray.size ⟨#[48, 48, 49, 49, 50, 50, 51, 51, 52, 52, 53, 53, 54, 54, 55, 55, 56, 56, 57, 57, 97, 97, 98, 98, 99, 99, 100, 100, 101, 101, 102, 102]⟩ ≤ 1000000) ∧ unOk ⟨#[48, 48, 49, 49, 50, 50, 51, 51, 52, 52, 53, 53, 54, 54, 55, 55, 56, 56, 57, 57, 97, 97, 98, 98, 99, 99, 100, 100, 101, 101, 102, 102]⟩ = true)) ∧ ((sboxT = sboxT ∧ KeysOk h0_1 ∧ BlkOk (blkL ⟨#[48, 48, 49, 49, 50, 50, 51, 51, 52, 52, 53, 53, 54, 54, 55, 55, 56, 56, 57, 57, 97, 97, 98, 98, 99, 99, 100, 100, 101, 101, 102, 102]⟩))) ∧ (((ByteArray.size ⟨#[54, 57, 99, 52, 101, 48, 100, 56, 54, 97, 55, 98, 48, 52, 51, 48, 100, 56, 99, 100, 98, 55, 56, 48, 55, 48, 98, 52, 99, 53, 53, 97]⟩ ≤ 1000000) ∧ unOk ⟨#[54, 57, 99, 52, 101, 48, 100, 56, 54, 97, 55, 98, 48, 52, 51, 48, 100, 56, 99, 100, 98, 55, 56, 48, 55, 48, 98, 52, 99, 53, 53, 97]⟩ = true)) ∧ ((List.length (encL h0_1 (blkL ⟨#[48, 48, 49, 49, 50, 50, 51, 51, 52, 52, 53, 53, 54, 54, 55, 55, 56, 56, 57, 57, 97, 97, 98, 98, 99, 99, 100, 100, 101, 101, 102, 102]⟩)) = 16)) ∧ ((List.length (blkL ⟨#[54, 57, 99, 52, 101, 48, 100, 56, 54, 97, 55, 98, 48, 52, 51, 48, 100, 56, 99, 100, 98, 55, 56, 48, 55, 48, 98, 52, 99, 53, 53, 97]⟩) = 16)) ∧ (keeps ⟨1, [(0, some ⟨true, [.ints .u8 256 sboxT, .ints .u8 176 h0_1], 0⟩)]⟩ ⟨1, [(0, some ⟨true, [.ints .u8 256 sboxT, .ints .u8 176 h0_1], 0⟩)]⟩ [(0, some ⟨true, [.ints .u8 256 sboxT, .ints .u8 176 h0_1], 0⟩)]) ∧ (((encL h0_1 (blkL ⟨#[48, 48, 49, 49, 50, 50, 51, 51, 52, 52, 53, 53, 54, 54, 55, 55, 56, 56, 57, 57, 97, 97, 98, 98, 99, 99, 100, 100, 101, 101, 102, 102]⟩)) == (blkL ⟨#[54, 57, 99, 52, 101, 48, 100, 56, 54, 97, 55, 98, 48, 52, 51, 48, 100, 56, 99, 100, 98, 55, 56, 48, 55, 48, 98, 52, 99, 53, 53, 97]⟩)) && true) = qq'1) ∧ (qq = false → false = qq'1) ∧ Z [(0, some (.bool qq'1))] ⟨1, []⟩) : EvC Gl2Speaks cz21_n2 [(1, some (.ptr ⟨0, 0, 0, 1⟩ 432))] ⟨1, [(0, some ⟨true, [.ints .u8 256 sboxT, .ints .u8 176 h0_1], 0⟩)]⟩ [0] [] Z := EvC.of (by kernel_rfl) h
theorem rtz21_0 (h0_1 : List Int) : RetC Rl2Speaks [(0, some (.bool ((((subB (0 : Int)) == 99) && true) && (((encL h0_1 (blkL ⟨#[48, 48, 49, 49, 50, 50, 51, 51, 52, 52, 53, 53, 54, 54, 55, 55, 56, 56, 57, 57, 97, 97, 98, 98, 99, 99, 100, 100, 101, 101, 102, 102]⟩)) == (blkL ⟨#[54, 57, 99, 52, 101, 48, 100, 56, 54, 97, 55, 98, 48, 52, 51, 48, 100, 56, 99, 100, 98, 55, 56, 48, 55, 48, 98, 52, 99, 53, 53, 97]⟩)) && true))))] ⟨1, []⟩ (.bool ((((subB (0 : Int)) == 99) && true) && (((encL h0_1 (blkL ⟨#[48, 48, 49, 49, 50, 50, 51, 51, 52, 52, 53, 53, 54, 54, 55, 55, 56, 56, 57, 57, 97, 97, 98, 98, 99, 99, 100, 100, 101, 101, 102, 102]⟩)) == (blkL ⟨#[54, 57, 99, 52, 101, 48, 100, 56, 54, 97, 55, 98, 48, 52, 51, 48, 100, 56, 99, 100, 98, 55, 56, 48, 55, 48, 98, 52, 99, 53, 53, 97]⟩)) && true))) := RetC.of (fun Z => by kernel_rfl)
def vz21_0 (h0_1 : List Int) : Prop := ((0 ≤ (0 : Int) ∧ (0 : Int) < 256)) ∧ (((((subB (0 : Int)) == 99) && true) = true → ((((ByteArray.size ⟨#[48, 48, 49, 49, 50, 50, 51, 51, 52, 52, 53, 53, 54, 54, 55, 55, 56, 56, 57, 57, 97, 97, 98, 98, 99, 99, 100, 100, 101, 101, 102, 102]⟩ ≤ 1000000) ∧ unOk ⟨#[48, 48, 49, 49, 50, 50, 51, 51, 52, 52, 53, 53, 54, 54, 55, 55, 56, 56, 57, 57, 97, 97, 98, 98, 99, 99, 100, 100, 101, 101, 102, 102]⟩ = true)) ∧ (((sboxT = sboxT ∧ KeysOk h0_1 ∧ BlkOk (blkL ⟨#[48, 48, 49, 49, 50, 50, 51, 51, 52, 52, 53, 53, 54, 54, 55, 55, 56, 56, 57, 57, 97, 97, 98, 98, 99, 99, 100, 100, 101, 101, 102, 102]⟩))) ∧ ((((ByteArray.size ⟨#[54, 57, 99, 52, 101, 48, 100, 56, 54, 97, 55, 98, 48, 52, 51, 48, 100, 56, 99, 100, 98, 55, 56, 48, 55, 48, 98, 52, 99, 53, 53, 97]⟩ ≤ 1000000) ∧ unOk ⟨#[54, 57, 99, 52, 101, 48, 100, 56, 54, 97, 55, 98, 48, 52, 51, 48, 100, 56, 99, 100, 98, 55, 56, 48, 55, 48, 98, 52, 99, 53, 53, 97]⟩ = true)) ∧ (((List.length (encL h0_1 (blkL ⟨#[48, 48, 49, 49, 50, 50, 51, 51, 52, 52, 53, 53, 54, 54, 55, 55, 56, 56, 57, 57, 97, 97, 98, 98, 99, 99, 100, 100, 101, 101, 102, 102]⟩)) = 16)) ∧ ((List.length (blkL ⟨#[54, 57, 99, 52, 101, 48, 100, 56, 54, 97, 55, 98, 48, 52, 51, 48, 100, 56, 99, 100, 98, 55, 56, 48, 55, 48, 98, 52, 99, 53, 53, 97]⟩) = 16))))))) ∧ (((((subB (0 : Int)) == 99) && true) && (((encL h0_1 (blkL ⟨#[48, 48, 49, 49, 50, 50, 51, 51, 52, 52, 53, 53, 54, 54, 55, 55, 56, 56, 57, 57, 97, 97, 98, 98, 99, 99, 100, 100, 101, 101, 102, 102]⟩)) == (blkL ⟨#[54, 57, 99, 52, 101, 48, 100, 56, 54, 97, 55, 98, 48, 52, 51, 48, 100, 56, 99, 100, 98, 55, 56, 48, 55, 48, 98, 52, 99, 53, 53, 97]⟩)) && true)) = true))
theorem pz21_0 (hK : Kf (.bool true) ⟨0, []⟩) (h0_1 : List Int) (h : vz21_0 h0_1) : SemL Try.prog w0 fp ρi 0 17 [cz21_n2, .ret] [(1, some (.ptr ⟨0, 0, 0, 1⟩ 432))] ⟨1, [(0, some ⟨true, [.ints .u8 256 sboxT, .ints .u8 176 h0_1], 0⟩)]⟩ (fnK Rl2Speaks 0 Kf) :=
  L_regE hGl2Speaks (rz21_0 h0_1 (fun e H => SemL Try.prog w0 fp ρi 0 17 [.ret] e H (fnK Rl2Speaks 0 Kf)) ⟨h.1, ⟨(((subB (0 : Int)) == 99) && true), fun hc_qq => ⟨(keeps_refl _), (qa1 hc_qq)⟩, fun hc_qq => qa2 hc_qq, ⟨((((subB (0 : Int)) == 99) && true) && (((encL h0_1 (blkL ⟨#[48, 48, 49, 49, 50, 50, 51, 51, 52, 52, 53, 53, 54, 54, 55, 55, 56, 56, 57, 57, 97, 97, 98, 98, 99, 99, 100, 100, 101, 101, 102, 102]⟩)) == (blkL ⟨#[54, 57, 99, 52, 101, 48, 100, 56, 54, 97, 55, 98, 48, 52, 51, 48, 100, 56, 99, 100, 98, 55, 56, 48, 55, 48, 98, 52, 99, 53, 53, 97]⟩)) && true)), fun hc_qq_1 => ⟨(h.2.1 hc_qq_1).1, ⟨(h.2.1 hc_qq_1).2.1, ⟨(h.2.1 hc_qq_1).2.2.1, ⟨(h.2.1 hc_qq_1).2.2.2.1, ⟨(h.2.1 hc_qq_1).2.2.2.2, ⟨(keeps_ids [0] (by kernel_rfl) (by kernel_rfl)), (qa1 hc_qq_1)⟩⟩⟩⟩⟩⟩, fun hc_qq_1 => qa2 hc_qq_1, (L_retE (R := Rl2Speaks) (m := 0) (Kf := Kf) (fun _ _ h => h) (rtz21_0 h0_1) (ret_plain rfl (by kernel_rfl) (cg1 (fun (z1 : Bool) => (.bool z1 : SVal)) h.2.2) hK))⟩⟩⟩)
theorem rz21_1 (Z : Env → Heap → Prop) (h : (((ByteArray.size ⟨#[48, 48, 48, 49, 48, 50, 48, 51, 48, 52, 48, 53, 48, 54, 48, 55, 48, 56, 48, 57, 48, 97, 48, 98, 48, 99, 48, 100, 48, 101, 48, 102]⟩ ≤ 1000000) ∧ unOk ⟨#[48, 48, 48, 49, 48, 50, 48, 51, 48, 52, 48, 53, 48, 54, 48, 55, 48, 56, 48, 57, 48, 97, 48, 98, 48, 99, 48, 100, 48, 101, 48, 102]⟩ = true)) ∧ ((BlkOk (blkL ⟨#[48, 48, 48, 49, 48, 50, 48, 51, 48, 52, 48, 53, 48, 54, 48, 55, 48, 56, 48, 57, 48, 97, 48, 98, 48, 99, 48, 100, 48, 101, 48, 102]⟩))) ∧ Z [(1, some (.ptr ⟨0, 0, 0, 1⟩ 432))] ⟨1, [(0, some ⟨true, [.ints .u8 256 sboxT, .ints .u8 176 (keysL (blkL ⟨#[48, 48, 48, 49, 48, 50, 48, 51, 48, 52, 48, 53, 48, 54, 48, 55, 48, 56, 48, 57, 48, 97, 48, 98, 48, 99, 48, 100, 48, 101, 48, 102]⟩))], 0⟩)]⟩) : EvC Gl2Speaks cz21_n1 [] ⟨0, []⟩ [1] [0] Z := EvC.of (by kernel_rfl) h
def vz21_1 : Prop := (((ByteArray.size ⟨#[48, 48, 48, 49, 48, 50, 48, 51, 48, 52, 48, 53, 48, 54, 48, 55, 48, 56, 48, 57, 48, 97, 48, 98, 48, 99, 48, 100, 48, 101, 48, 102]⟩ ≤ 1000000) ∧ unOk ⟨#[48, 48, 48, 49, 48, 50, 48, 51, 48, 52, 48, 53, 48, 54, 48, 55, 48, 56, 48, 57, 48, 97, 48, 98, 48, 99, 48, 100, 48, 101, 48, 102]⟩ = true)) ∧ (((BlkOk (blkL ⟨#[48, 48, 48, 49, 48, 50, 48, 51, 48, 52, 48, 53, 48, 54, 48, 55, 48, 56, 48, 57, 48, 97, 48, 98, 48, 99, 48, 100, 48, 101, 48, 102]⟩))) ∧ (∀ h0_1 : List Int, h0_1 = (keysL (blkL ⟨#[48, 48, 48, 49, 48, 50, 48, 51, 48, 52, 48, 53, 48, 54, 48, 55, 48, 56, 48, 57, 48, 97, 48, 98, 48, 99, 48, 100, 48, 101, 48, 102]⟩)) → vz21_0 h0_1))
theorem pz21_1 (hK : Kf (.bool true) ⟨0, []⟩) (h : vz21_1) : SemL Try.prog w0 fp ρi 0 17 [cz21_n1, (.seq cz21_n2 .ret)] [] ⟨0, []⟩ (fnK Rl2Speaks 0 Kf) :=
  L_regE hGl2Speaks (rz21_1 (fun e H => SemL Try.prog w0 fp ρi 0 17 [(.seq cz21_n2 .ret)] e H (fnK Rl2Speaks 0 Kf)) ⟨h.1, ⟨h.2.1, (L_seq (pz21_0 hK (keysL (blkL ⟨#[48, 48, 48, 49, 48, 50, 48, 51, 48, 52, 48, 53, 48, 54, 48, 55, 48, 56, 48, 57, 48, 97, 48, 98, 48, 99, 48, 100, 48, 101, 48, 102]⟩)) (h.2.2 (keysL (blkL ⟨#[48, 48, 48, 49, 48, 50, 48, 51, 48, 52, 48, 53, 48, 54, 48, 55, 48, 56, 48, 57, 48, 97, 48, 98, 48, 99, 48, 100, 48, 101, 48, 102]⟩)) rfl)))⟩⟩)
theorem rz21_2 (Z : Env → Heap → Prop) (h : Z [] ⟨0, []⟩) : EvC Gl2Speaks cz21_n0 [] ⟨0, []⟩ [] [] Z := EvC.of (by kernel_rfl) h
def vz21_2 : Prop := vz21_1
theorem pz21_2 (hK : Kf (.bool true) ⟨0, []⟩) (h : vz21_2) : SemL Try.prog w0 fp ρi 0 17 [cz21_n0, (.seq cz21_n1 (.seq cz21_n2 .ret))] [] ⟨0, []⟩ (fnK Rl2Speaks 0 Kf) :=
  L_regE hGl2Speaks (rz21_2 (fun e H => SemL Try.prog w0 fp ρi 0 17 [(.seq cz21_n1 (.seq cz21_n2 .ret))] e H (fnK Rl2Speaks 0 Kf)) (L_seq (pz21_1 hK h)))
def vcl2Speaks : Prop := vz21_2
theorem wl2Speaks (hK : Kf (.bool true) ⟨0, []⟩) (h : vcl2Speaks) : SemL Try.prog w0 fp ρi 0 17 [cl2Speaks] [] ⟨0, []⟩ (fnK Rl2Speaks 0 Kf) :=
  (L_seq (pz21_2 hK h))
end
theorem okl2Speaks (hpre : True) : vcl2Speaks := by
  unfold vcl2Speaks vz21_2 vz21_1 vz21_0
  have hs : subB 0 = 99 := by decide +kernel
  have hK := ex_ok.1
  have hB := ex_ok.2.1
  have hC := ex_ok.2.2
  have he := ex_enc
  have bK := blkL_ok hK.2
  have bB := blkL_ok hB.2
  have bC := blkL_ok hC.2
  refine ⟨hK, bK, ?_⟩
  rintro h rfl
  refine ⟨by omega, fun _ => ⟨hB, ⟨rfl, keysL_ok bK, bB⟩, hC, (stR_ok _ _ _).1, bC.1⟩, ?_⟩
  have he : (encL (keysL (blkL exK)) (blkL exB) == blkL exC) = true := by rw [he]; exact beq_self_eq_true _
  rw [hs]
  exact (congrArg (fun z => (99 == 99 && true && (z && true))) he).trans rfl
theorem sl2Speaks : Sound Try.prog 21 (pureS Pl2Speaks) := by
  refine fn_soundA cl2Speaks_fits ?_
  intro args H K h
  obtain ⟨pre, v, hP, hpre, rfl, hK⟩ := pureS_inv h
  unfold Pl2Speaks at hP
  split at hP
  · cases hP
    exact ⟨rfl, fun w0 fp ρi => wl2Speaks hK (okl2Speaks hpre)⟩
  · cases hP
end Go.Proofs.Ytefmjmghkedciaa
