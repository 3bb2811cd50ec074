/- Part of the proof: SxAesU. -/
import Derived.Test.YtefmjmghkedciaaSxAesX
import Derived.Test.YtefmjmghkedciaaSxAes3
import Derived.KernelRfl
set_option linter.unusedVariables false
set_option linter.unusedSimpArgs false
set_option maxRecDepth 20000
namespace Go.Proofs.Ytefmjmghkedciaa
open Go.Sx
def Dq1Unhex : GSpec := fun args H => match args, H with
  | [.str sx], ⟨0, []⟩ => some (((ByteArray.size sx <= 1000000) /\ unOk sx = true), fun K => ∀ cap0 : Nat, (ByteArray.size sx / 2) <= cap0 -> K (.tuple [.slice ⟨0, 0, 0, 1⟩ (ByteArray.size sx / 2) cap0, .bool (decide (ByteArray.size sx % 2 = 0))]) ⟨1, [(0, some ⟨true, [.ints .u8 (ByteArray.size sx / 2) (unL sx)], (cap0 - (ByteArray.size sx / 2))⟩)]⟩)
  | _, _ => none
def conq1Unhex : Con := ⟨17, gS Dq1Unhex, [], [], []⟩
def cz17_n0 : ACode := .reg (.op (some 2) (.mov (.cn (.nilslice))) (.op (some 3) (.mov (.cn (.bool false))) .nil))
def cz17_n1 : ACode := .reg (.op (some 8) (.bslice .u8 0 []) (.op (some 4) (.mov (.tm 8)) .nil))
def cz17_n2 : ACode := .reg (.op (some 5) (.mov (.cn (.int .i64 0))) .nil)
def cz17_n3 : ACode := .reg (.op (some 9) (.mov (.tm 5)) (.op (some 10) (.bin .add (.tm 9) (.cn (.int .i64 1))) (.op (some 11) (.mov (.tm 0)) (.op (some 12) (.slen (.tm 11)) (.op (some 13) (.bin .lss (.tm 10) (.tm 12)) .nil)))))
def cz17_n4 : ACode := .cond (.tm 13) .skip (.exit 0)
def cz17_n5i : Items := .op (some 16) (.mov (.tm 0)) (.op (some 17) (.mov (.tm 5)) (.op (some 18) (.strIdx (.tm 16) (.tm 17)) (.op (some 19) (.call 44 [(.tm 18)]) (.op (some 20) (.mov (.tm 0)) (.op (some 21) (.mov (.tm 5)) (.op (some 22) (.bin .add (.tm 21) (.cn (.int .i64 1))) (.op (some 23) (.strIdx (.tm 20) (.tm 22)) (.op (some 24) (.call 44 [(.tm 23)]) (.op (some 6) (.mov (.tm 19)) (.op (some 7) (.mov (.tm 24)) .nil))))))))))
def cz17_n5 : ACode := .regQ cz17_n5i
def cz17_n6 : ACode := .reg (.op (some 25) (.mov (.tm 6)) (.op (some 26) (.bin .lss (.tm 25) (.cn (.int .i64 0))) (.op (some 27) (.mov (.tm 26)) (.grpJ 27 false (.op (some 28) (.mov (.tm 7)) (.op (some 29) (.bin .lss (.tm 28) (.cn (.int .i64 0))) .nil)) 30 (.tm 29) (.cn (.bool true)) .nil))))
def cz17_n7 : ACode := .reg (.op (some 2) (.mov (.cn (.nilslice))) (.op (some 3) (.mov (.cn (.bool false))) .nil))
def cz17_n8 : ACode := .cond (.tm 30) (.seq cz17_n7 .ret) .skip
def cz17_n9 : ACode := .reg (.op (some 31) (.mov (.tm 4)) (.op (some 32) (.mov (.tm 6)) (.op (some 33) (.bin .mul (.cn (.int .i64 16)) (.tm 32)) (.op (some 34) (.mov (.tm 7)) (.op (some 35) (.bin .add (.tm 33) (.tm 34)) (.op (some 36) (.conv .u8 (.tm 35)) (.op (some 37) (.bslice .u8 1 [(0, (.tm 36))]) (.op (some 38) (.append .u8 (.tm 31) (.tm 37)) (.op (some 4) (.mov (.tm 38)) .nil)))))))))
def cz17_n10 : ACode := .block 1 (.seq cz17_n5 (.seq (.seq cz17_n6 cz17_n8) cz17_n9))
def cz17_n11 : ACode := .reg (.op (some 14) (.mov (.tm 5)) (.op (some 15) (.bin .add (.tm 14) (.cn (.int .i64 2))) (.op (some 5) (.mov (.tm 15)) .nil)))
def cz17_n12 : ACode := .loop (.seq (.seq cz17_n3 cz17_n4) (.seq cz17_n10 cz17_n11))
def cz17_n13 : ACode := .block 0 cz17_n12
def cz17_n14 : ACode := .reg (.op (some 39) (.mov (.tm 4)) (.op (some 40) (.mov (.tm 0)) (.op (some 41) (.slen (.tm 40)) (.op (some 42) (.bin .rem (.tm 41) (.cn (.int .i64 2))) (.op (some 43) (.bin .eql (.tm 42) (.cn (.int .i64 0))) (.op (some 2) (.mov (.tm 39)) (.op (some 3) (.mov (.tm 43)) .nil)))))))
def cq1Unhex : ACode := (.seq cz17_n0 (.seq cz17_n1 (.seq (.seq cz17_n2 cz17_n13) (.seq cz17_n14 .ret))))
def Rq1Unhex : Res := .many [.tm 2, .tm 3]
theorem cq1Unhex_fits : fnFits Try.prog 17 1 44 cq1Unhex Rq1Unhex = true := by kernel_rfl
def Gq1Unhex : Calls' := withP [pcq1Digit] []
theorem hGq1Unhex : CallOk Try.prog Gq1Unhex := withP_ok ⟨sq1Digit, trivial⟩ trivial
section
variable {w0 : World} {fp : Nat -> Nat -> Prop} {ρi : Rho} {Kf : SVal -> Heap -> Prop}
def kkz17_0 (w0 : World) (fp : Nat -> Nat -> Prop) (ρi : Rho) (Kf : SVal -> Heap -> Prop) (sx : ByteArray) : Cont := blockK 0 (fun e H => SemL Try.prog w0 fp ρi 0 44 [(.seq cz17_n14 .ret)] e H (fnK Rq1Unhex 0 Kf)) (fnK Rq1Unhex 0 Kf)
def ivz17_1 (sx : ByteArray) : Nat × Nat × Int × Nat × List Int × Nat -> Prop := fun s => match s with | (v4l, v4c, v5, h0n, h0, x0) => ∃ k : Nat, k <= sx.size / 2 /\ v5 = 2 * k /\ v4l = k /\ h0n = k /\ h0 = (List.range k).map (unAt sx) /\ v4l + x0 = v4c
def muz17_1 (sx : ByteArray) : Nat × Nat × Int × Nat × List Int × Nat -> Nat := fun s => match s with | (v4l, v4c, v5, h0n, h0, x0) => (((sx.size : Int) - v5).toNat)
def liz17_1 (sx : ByteArray) : Nat × Nat × Int × Nat × List Int × Nat -> Env := fun s => match s with | (v4l, v4c, v5, h0n, h0, x0) => [(0, some (.str sx)), (4, some (.slice ⟨0, 0, 0, 1⟩ v4l v4c)), (5, some (.int .i64 v5))]
def ljz17_1 (sx : ByteArray) : Nat × Nat × Int × Nat × List Int × Nat -> Heap := fun s => match s with | (v4l, v4c, v5, h0n, h0, x0) => ⟨1, [(0, some ⟨true, [.ints .u8 h0n h0], x0⟩)]⟩
def kkz17_1 (w0 : World) (fp : Nat -> Nat -> Prop) (ρi : Rho) (Kf : SVal -> Heap -> Prop) (sx : ByteArray) (v4l v4c : Nat) (v5 : Int) (h0n : Nat) (h0 : List Int) (x0 : Nat) : Cont := loopK 0 (ivz17_1 sx) (muz17_1 sx) (liz17_1 sx) (ljz17_1 sx) (v4l, v4c, v5, h0n, h0, x0) (kkz17_0 w0 fp ρi Kf sx)
def kkz17_2 (w0 : World) (fp : Nat -> Nat -> Prop) (ρi : Rho) (Kf : SVal -> Heap -> Prop) (sx : ByteArray) (v4l v4c : Nat) (v5 : Int) (h0n : Nat) (h0 : List Int) (x0 : Nat) : Cont := blockK 1 (fun e H => SemL Try.prog w0 fp ρi 0 44 [cz17_n11] e H (kkz17_1 w0 fp ρi Kf sx v4l v4c v5 h0n h0 x0)) (kkz17_1 w0 fp ρi Kf sx v4l v4c v5 h0n h0 x0)
abbrev Yc0 : Env := [(2, some (.nilslice)), (3, some (.bool false))]
theorem rz17_0 (sx : ByteArray) (v4l v4c : Nat) (v5 : Int) (h0n : Nat) (h0 : List Int) (x0 : Nat) (Z : Env -> Heap -> Prop) (h : Z Yc0 ⟨1, []⟩) : EvC Gq1Unhex cz17_n7 [] ⟨1, []⟩ [2, 3] [] Z := EvC.of (by kernel_rfl) h
theorem rtz17_0 (sx : ByteArray) : RetC Rq1Unhex Yc0 ⟨1, []⟩ (.tuple [.nilslice, .bool false]) := RetC.of (fun Z => by kernel_rfl)
def vz17_0 (sx : ByteArray) (v4l v4c : Nat) (v5 : Int) (h0n : Nat) (h0 : List Int) (x0 : Nat) : Prop := (0 = (ByteArray.size sx / 2)) /\ (false = (decide (ByteArray.size sx % 2 = 0))) /\ (0 = (ByteArray.size sx / 2)) /\ (([] : List Int) = (unL sx)) /\ (0 = (0 - (ByteArray.size sx / 2))) /\ (((ByteArray.size sx / 2) : Nat) <= 0)
abbrev Yc1 (x0 : ByteArray) (x1 : Nat) : Heap := ⟨1, [(0, some ⟨true, [.ints .u8 (ByteArray.size x0 / 2) (unL x0)], (x1 - (ByteArray.size x0 / 2))⟩)]⟩
theorem pz17_0 (sx : ByteArray) (hK : ∀ cap0 : Nat, (ByteArray.size sx / 2) <= cap0 -> Kf (.tuple [.slice ⟨0, 0, 0, 1⟩ (ByteArray.size sx / 2) cap0, .bool (decide (ByteArray.size sx % 2 = 0))]) (Yc1 sx cap0)) (v4l v4c : Nat) (v5 : Int) (h0n : Nat) (h0 : List Int) (x0 : Nat) (h : vz17_0 sx v4l v4c v5 h0n h0 x0) : SemL Try.prog w0 fp ρi 0 44 [cz17_n7, .ret, cz17_n9] [] ⟨1, []⟩ (kkz17_2 w0 fp ρi Kf sx v4l v4c v5 h0n h0 x0) :=
  L_regE hGq1Unhex (rz17_0 sx v4l v4c v5 h0n h0 x0 _ (L_retE (R := Rq1Unhex) (m := 0) (Kf := Kf) (fun _ _ h => h) (rtz17_0 sx) (ret_dn (r2 := .tuple [.slice ⟨1, 0, 0, 1⟩ 0 0, .bool false]) (H2 := ⟨2, [(1, some ⟨true, [.ints .u8 0 ([] : List Int)], 0⟩)]⟩) [(some [.ints .u8 0 ([] : List Int)])] rfl (by kernel_rfl) (Eq.mpr (cg5 (fun (z1 : Nat) (z2 : Bool) (z3 : Nat) (z4 : List Int) (z5 : Nat) => Ret0 0 Kf (.tuple [.slice ⟨1, 0, 0, 1⟩ z1 0, .bool z2]) ⟨2, [(1, some ⟨true, [.ints .u8 z3 z4], z5⟩)]⟩) h.1 h.2.1 h.2.2.1 h.2.2.2.1 h.2.2.2.2.1) (ret0_tau [(0, 1)] [0] rfl (by kernel_rfl) rfl (bd_tuple (bdL_cons bsl (bdL_cons pbd bdL_nil))) (hsc pcs heapSub_nil) rfl (by kernel_rfl) (hK 0 h.2.2.2.2.2))))))
theorem rz17_1 (sx : ByteArray) (v4l'1 c : Nat) (v5 : Int) (h2 : List Int) (x2 v4l v4c h0n : Nat) (h0 : List Int) (x0 : Nat) (Z : Env -> Heap -> Prop) (h : Z [(0, some (.str sx)), (4, some (.slice ⟨2, 0, 0, 1⟩ v4l'1 c)), (5, some (.int .i64 (IntKind.i64.wrap (v5 + 2))))] ⟨3, [(2, some ⟨true, [.ints .u8 v4l'1 h2], x2⟩)]⟩) : EvC Gq1Unhex cz17_n11 [(0, some (.str sx)), (4, some (.slice ⟨2, 0, 0, 1⟩ v4l'1 c)), (5, some (.int .i64 v5))] ⟨3, [(2, some ⟨true, [.ints .u8 v4l'1 h2], x2⟩)]⟩ [0, 4, 5] [2] Z := EvC.of (by kernel_rfl) h
def vz17_1 (sx : ByteArray) (v4l'1 c : Nat) (v5 : Int) (h2 : List Int) (x2 v4l v4c h0n : Nat) (h0 : List Int) (x0 : Nat) : Prop := (∃ k : Nat, k <= sx.size / 2 /\ (IntKind.i64.wrap (v5 + 2)) = 2 * k /\ v4l'1 = k /\ v4l'1 = k /\ h2 = (List.range k).map (unAt sx) /\ v4l'1 + x2 = c) /\ ((((sx.size : Int) - (IntKind.i64.wrap (v5 + 2))).toNat) < (((sx.size : Int) - v5).toNat))
theorem pz17_1 (sx : ByteArray) (hK : ∀ cap0 : Nat, (ByteArray.size sx / 2) <= cap0 -> Kf (.tuple [.slice ⟨0, 0, 0, 1⟩ (ByteArray.size sx / 2) cap0, .bool (decide (ByteArray.size sx % 2 = 0))]) (Yc1 sx cap0)) (v4l'1 c : Nat) (v5 : Int) (h2 : List Int) (x2 v4l v4c h0n : Nat) (h0 : List Int) (x0 : Nat) (h : vz17_1 sx v4l'1 c v5 h2 x2 v4l v4c h0n h0 x0) : SemL Try.prog w0 fp ρi 0 44 [cz17_n11] [(0, some (.str sx)), (4, some (.slice ⟨2, 0, 0, 1⟩ v4l'1 c)), (5, some (.int .i64 v5))] ⟨3, [(2, some ⟨true, [.ints .u8 v4l'1 h2], x2⟩)]⟩ (kkz17_1 w0 fp ρi Kf sx v4l v4c v5 h0n h0 x0) :=
  L_regE hGq1Unhex (rz17_1 sx v4l'1 c v5 h2 x2 v4l v4c h0n h0 x0 _ (L_nil (loop_back (x' := (v4l'1, c, (IntKind.i64.wrap (v5 + 2)), v4l'1, h2, x2)) (τ := tau [(0, 2)]) h.1 h.2 (sub_tau' [(0, 2)] [0] rfl rfl (esc pbd (esc bsl (esc pbd envSub_nil))) (hsc pcs heapSub_nil) (by kernel_rfl) rfl))))
abbrev Yc2 (x0 : ByteArray) (x1 x2 : Nat) (x3 x4 x5 : Int) : Env := [(0, some (.str x0)), (4, some (.slice ⟨0, 0, 0, 1⟩ x1 x2)), (5, some (.int .i64 x3)), (6, some (.int .i64 x4)), (7, some (.int .i64 x5))]
abbrev Yc3 (x0 : Nat) (x1 : List Int) (x2 : Nat) : Heap := ⟨1, [(0, some ⟨true, [.ints .u8 x0 x1], x2⟩)]⟩
theorem rz17_2 (sx : ByteArray) (v4l v4c : Nat) (v5 v6 v7 : Int) (h0n : Nat) (h0 : List Int) (x0 : Nat) (Z : Env -> Heap -> Prop) (h : (((1 : Nat) <= 1)) /\ ((h0n = v4l)) /\ ((List.length h0 = v4l)) /\ (((v4l + x0) = v4c)) /\ (((v4l + 1) <= 17592186044416)) /\ ∀ (c : Nat), (v4l + 1) <= c -> Z [(0, some (.str sx)), (4, some (.slice ⟨2, 0, 0, 1⟩ (v4l + 1) c)), (5, some (.int .i64 v5))] ⟨3, [(2, some ⟨true, [.ints .u8 (v4l + 1) (h0 ++ (List.take 1 [(IntKind.u8.wrap (IntKind.i64.wrap ((IntKind.i64.wrap (16 * v6)) + v7)))]))], (c - (v4l + 1))⟩)]⟩) : EvC Gq1Unhex cz17_n9 (Yc2 sx v4l v4c v5 v6 v7) (Yc3 h0n h0 x0) [0, 4, 5] [2] Z := EvC.of (by kernel_rfl) h
def vz17_2 (sx : ByteArray) (v4l v4c : Nat) (v5 v6 v7 : Int) (h0n : Nat) (h0 : List Int) (x0 : Nat) : Prop := ((h0n = v4l)) /\ (((List.length h0 = v4l)) /\ ((((v4l + x0) = v4c)) /\ ((((v4l + 1) <= 17592186044416)) /\ (∀ (c : Nat), ((v4l + 1) <= c) -> (∀ v4l'1 : Nat, v4l'1 = (v4l + 1) -> ∀ h2 : List Int, h2 = (h0 ++ (List.take 1 [(IntKind.u8.wrap (IntKind.i64.wrap ((IntKind.i64.wrap (16 * v6)) + v7)))])) -> ∀ x2 : Nat, x2 = (c - (v4l + 1)) -> vz17_1 sx v4l'1 c v5 h2 x2 v4l v4c h0n h0 x0)))))
theorem pz17_2 (sx : ByteArray) (hK : ∀ cap0 : Nat, (ByteArray.size sx / 2) <= cap0 -> Kf (.tuple [.slice ⟨0, 0, 0, 1⟩ (ByteArray.size sx / 2) cap0, .bool (decide (ByteArray.size sx % 2 = 0))]) (Yc1 sx cap0)) (v4l v4c : Nat) (v5 v6 v7 : Int) (h0n : Nat) (h0 : List Int) (x0 : Nat) (h : vz17_2 sx v4l v4c v5 v6 v7 h0n h0 x0) : SemL Try.prog w0 fp ρi 0 44 [cz17_n9] (Yc2 sx v4l v4c v5 v6 v7) (Yc3 h0n h0 x0) (kkz17_2 w0 fp ρi Kf sx v4l v4c v5 h0n h0 x0) :=
  L_regE hGq1Unhex (rz17_2 sx v4l v4c v5 v6 v7 h0n h0 x0 _ ⟨(by decide), ⟨h.1, ⟨h.2.1, ⟨h.2.2.1, ⟨h.2.2.2.1, (fun c h_c_0 => (L_nil (pz17_1 sx hK (v4l + 1) c v5 (h0 ++ (List.take 1 [(IntKind.u8.wrap (IntKind.i64.wrap ((IntKind.i64.wrap (16 * v6)) + v7)))])) (c - (v4l + 1)) v4l v4c h0n h0 x0 ((((h.2.2.2.2 c h_c_0) (v4l + 1) rfl) (h0 ++ (List.take 1 [(IntKind.u8.wrap (IntKind.i64.wrap ((IntKind.i64.wrap (16 * v6)) + v7)))])) rfl) (c - (v4l + 1)) rfl))))⟩⟩⟩⟩⟩)
def vz17_3 (sx : ByteArray) (v4l v4c : Nat) (v5 v6 v7 : Int) (h0n : Nat) (h0 : List Int) (x0 : Nat) : Prop := (((decide (v6 < 0)) || (decide (v7 < 0))) = true -> (vz17_0 sx v4l v4c v5 h0n h0 x0)) /\ (((decide (v6 < 0)) || (decide (v7 < 0))) = false -> (vz17_2 sx v4l v4c v5 v6 v7 h0n h0 x0))
theorem pz17_3 (sx : ByteArray) (hK : ∀ cap0 : Nat, (ByteArray.size sx / 2) <= cap0 -> Kf (.tuple [.slice ⟨0, 0, 0, 1⟩ (ByteArray.size sx / 2) cap0, .bool (decide (ByteArray.size sx % 2 = 0))]) (Yc1 sx cap0)) (v4l v4c : Nat) (v5 v6 v7 : Int) (h0n : Nat) (h0 : List Int) (x0 : Nat) (h : vz17_3 sx v4l v4c v5 v6 v7 h0n h0 x0) : SemL Try.prog w0 fp ρi 0 44 [cz17_n8, cz17_n9] [(0, some (.str sx)), (4, some (.slice ⟨0, 0, 0, 1⟩ v4l v4c)), (5, some (.int .i64 v5)), (6, some (.int .i64 v6)), (7, some (.int .i64 v7)), (30, some (.bool ((decide (v6 < 0)) || (decide (v7 < 0)))))] (Yc3 h0n h0 x0) (kkz17_2 w0 fp ρi Kf sx v4l v4c v5 h0n h0 x0) :=
  L_cond (q := ((decide (v6 < 0)) || (decide (v7 < 0)))) (by kernel_rfl) (fun hq => (L_seq (lpk [] [] (pz17_0 sx hK v4l v4c v5 h0n h0 x0 (h.1 hq))))) (fun hq => (L_skip (lpk [0, 4, 5, 6, 7] [0] (pz17_2 sx hK v4l v4c v5 v6 v7 h0n h0 x0 (h.2 hq)))))
theorem rz17_4 (sx : ByteArray) (v4l v4c : Nat) (v5 v6 v7 : Int) (h0n : Nat) (h0 : List Int) (x0 : Nat) (Z : Env -> Heap -> Prop) (h : ∃ qq : Bool, ((decide (v6 < 0)) = false -> (keeps (Yc3 h0n h0 x0) (Yc3 h0n h0 x0) [(0, some ⟨true, [.ints .u8 h0n h0], x0⟩)]) /\ (decide (v7 < 0)) = qq) /\ ((decide (v6 < 0)) = true -> true = qq) /\ Z [(0, some (.str sx)), (4, some (.slice ⟨0, 0, 0, 1⟩ v4l v4c)), (5, some (.int .i64 v5)), (6, some (.int .i64 v6)), (7, some (.int .i64 v7)), (30, some (.bool qq))] (Yc3 h0n h0 x0)) : EvC Gq1Unhex cz17_n6 (Yc2 sx v4l v4c v5 v6 v7) (Yc3 h0n h0 x0) [0, 4, 5, 6, 7, 30] [0] Z := EvC.of (by kernel_rfl) h
def vz17_4 (sx : ByteArray) (v4l v4c : Nat) (v5 v6 v7 : Int) (h0n : Nat) (h0 : List Int) (x0 : Nat) : Prop := vz17_3 sx v4l v4c v5 v6 v7 h0n h0 x0
theorem pz17_4 (sx : ByteArray) (hK : ∀ cap0 : Nat, (ByteArray.size sx / 2) <= cap0 -> Kf (.tuple [.slice ⟨0, 0, 0, 1⟩ (ByteArray.size sx / 2) cap0, .bool (decide (ByteArray.size sx % 2 = 0))]) (Yc1 sx cap0)) (v4l v4c : Nat) (v5 v6 v7 : Int) (h0n : Nat) (h0 : List Int) (x0 : Nat) (h : vz17_4 sx v4l v4c v5 v6 v7 h0n h0 x0) : SemL Try.prog w0 fp ρi 0 44 [cz17_n6, cz17_n8, cz17_n9] (Yc2 sx v4l v4c v5 v6 v7) (Yc3 h0n h0 x0) (kkz17_2 w0 fp ρi Kf sx v4l v4c v5 h0n h0 x0) :=
  L_regE hGq1Unhex (rz17_4 sx v4l v4c v5 v6 v7 h0n h0 x0 _ ⟨((decide (v6 < 0)) || (decide (v7 < 0))), fun hc_qq => ⟨(keeps_refl _), (qo1 hc_qq)⟩, fun hc_qq => qo2 hc_qq, (pz17_3 sx hK v4l v4c v5 v6 v7 h0n h0 x0 h)⟩)
abbrev Yc4 (x0 : ByteArray) (x1 x2 : Nat) (x3 : Int) : Env := [(0, some (.str x0)), (4, some (.slice ⟨0, 0, 0, 1⟩ x1 x2)), (5, some (.int .i64 x3))]
theorem rz17_5 (sx : ByteArray) (v4l v4c : Nat) (v5 : Int) (h0n : Nat) (h0 : List Int) (x0 : Nat) (Z : Env -> Heap -> Prop) (h : ((0 <= v5)) /\ ((v5 < ((ByteArray.size sx : Nat) : Int))) /\ ((SVal.bd 1 (.int .i64 (digF ((((ByteArray.data sx).toList.getD (Int.toNat v5) 0).toNat : Nat) : Int))))) /\ ((0 <= ((((ByteArray.data sx).toList.getD (Int.toNat v5) 0).toNat : Nat) : Int) /\ ((((ByteArray.data sx).toList.getD (Int.toNat v5) 0).toNat : Nat) : Int) < 256) /\ ((.int .i64 (digF ((((ByteArray.data sx).toList.getD (Int.toNat v5) 0).toNat : Nat) : Int)) : SVal) = .int .i64 (digF ((((ByteArray.data sx).toList.getD (Int.toNat v5) 0).toNat : Nat) : Int))) /\ (keeps (Yc3 h0n h0 x0) (Yc3 h0n h0 x0) [(0, some ⟨true, [.ints .u8 h0n h0], x0⟩)])) /\ ((0 <= (IntKind.i64.wrap (v5 + 1)))) /\ (((IntKind.i64.wrap (v5 + 1)) < ((ByteArray.size sx : Nat) : Int))) /\ ((SVal.bd 1 (.int .i64 (digF ((((ByteArray.data sx).toList.getD (Int.toNat (IntKind.i64.wrap (v5 + 1))) 0).toNat : Nat) : Int))))) /\ ((0 <= ((((ByteArray.data sx).toList.getD (Int.toNat (IntKind.i64.wrap (v5 + 1))) 0).toNat : Nat) : Int) /\ ((((ByteArray.data sx).toList.getD (Int.toNat (IntKind.i64.wrap (v5 + 1))) 0).toNat : Nat) : Int) < 256) /\ ((.int .i64 (digF ((((ByteArray.data sx).toList.getD (Int.toNat (IntKind.i64.wrap (v5 + 1))) 0).toNat : Nat) : Int)) : SVal) = .int .i64 (digF ((((ByteArray.data sx).toList.getD (Int.toNat (IntKind.i64.wrap (v5 + 1))) 0).toNat : Nat) : Int))) /\ (keeps (Yc3 h0n h0 x0) (Yc3 h0n h0 x0) [(0, some ⟨true, [.ints .u8 h0n h0], x0⟩)])) /\ Z [(0, some (.str sx)), (4, some (.slice ⟨0, 0, 0, 1⟩ v4l v4c)), (5, some (.int .i64 v5)), (6, some (.int .i64 (digF ((((ByteArray.data sx).toList.getD (Int.toNat v5) 0).toNat : Nat) : Int)))), (7, some (.int .i64 (digF ((((ByteArray.data sx).toList.getD (Int.toNat (IntKind.i64.wrap (v5 + 1))) 0).toNat : Nat) : Int))))] (Yc3 h0n h0 x0)) : EvQC Gq1Unhex cz17_n5i [.int .i64 (digF ((((ByteArray.data sx).toList.getD (Int.toNat v5) 0).toNat : Nat) : Int)), .int .i64 (digF ((((ByteArray.data sx).toList.getD (Int.toNat (IntKind.i64.wrap (v5 + 1))) 0).toNat : Nat) : Int))] (Yc4 sx v4l v4c v5) (Yc3 h0n h0 x0) [0, 4, 5, 6, 7] [0] Z := EvQC.of (by kernel_rfl) h
def vz17_5 (sx : ByteArray) (v4l v4c : Nat) (v5 : Int) (h0n : Nat) (h0 : List Int) (x0 : Nat) : Prop := ((0 <= v5)) /\ (((v5 < ((ByteArray.size sx : Nat) : Int))) /\ (((0 <= ((((ByteArray.data sx).toList.getD (Int.toNat v5) 0).toNat : Nat) : Int) /\ ((((ByteArray.data sx).toList.getD (Int.toNat v5) 0).toNat : Nat) : Int) < 256)) /\ (((0 <= (IntKind.i64.wrap (v5 + 1)))) /\ ((((IntKind.i64.wrap (v5 + 1)) < ((ByteArray.size sx : Nat) : Int))) /\ (((0 <= ((((ByteArray.data sx).toList.getD (Int.toNat (IntKind.i64.wrap (v5 + 1))) 0).toNat : Nat) : Int) /\ ((((ByteArray.data sx).toList.getD (Int.toNat (IntKind.i64.wrap (v5 + 1))) 0).toNat : Nat) : Int) < 256)) /\ (∀ v6 : Int, v6 = (digF ((((ByteArray.data sx).toList.getD (Int.toNat v5) 0).toNat : Nat) : Int)) -> ∀ v7 : Int, v7 = (digF ((((ByteArray.data sx).toList.getD (Int.toNat (IntKind.i64.wrap (v5 + 1))) 0).toNat : Nat) : Int)) -> vz17_4 sx v4l v4c v5 v6 v7 h0n h0 x0))))))
theorem pz17_5 (sx : ByteArray) (hK : ∀ cap0 : Nat, (ByteArray.size sx / 2) <= cap0 -> Kf (.tuple [.slice ⟨0, 0, 0, 1⟩ (ByteArray.size sx / 2) cap0, .bool (decide (ByteArray.size sx % 2 = 0))]) (Yc1 sx cap0)) (v4l v4c : Nat) (v5 : Int) (h0n : Nat) (h0 : List Int) (x0 : Nat) (h : vz17_5 sx v4l v4c v5 h0n h0 x0) : SemL Try.prog w0 fp ρi 0 44 [cz17_n5, (.seq (.seq cz17_n6 cz17_n8) cz17_n9)] (Yc4 sx v4l v4c v5) (Yc3 h0n h0 x0) (kkz17_2 w0 fp ρi Kf sx v4l v4c v5 h0n h0 x0) :=
  L_regQE hGq1Unhex (its := cz17_n5i) (rz17_5 sx v4l v4c v5 h0n h0 x0 _ ⟨h.1, ⟨h.2.1, ⟨(plainR_ren (τ := whole) (by kernel_rfl)).2, ⟨⟨h.2.2.1, rfl, (keeps_refl _)⟩, ⟨h.2.2.2.1, ⟨h.2.2.2.2.1, ⟨(plainR_ren (τ := whole) (by kernel_rfl)).2, ⟨⟨h.2.2.2.2.2.1, rfl, (keeps_refl _)⟩, (L_seq (L_seq (pz17_4 sx hK v4l v4c v5 (digF ((((ByteArray.data sx).toList.getD (Int.toNat v5) 0).toNat : Nat) : Int)) (digF ((((ByteArray.data sx).toList.getD (Int.toNat (IntKind.i64.wrap (v5 + 1))) 0).toNat : Nat) : Int)) h0n h0 x0 ((h.2.2.2.2.2.2 (digF ((((ByteArray.data sx).toList.getD (Int.toNat v5) 0).toNat : Nat) : Int)) rfl) (digF ((((ByteArray.data sx).toList.getD (Int.toNat (IntKind.i64.wrap (v5 + 1))) 0).toNat : Nat) : Int)) rfl))))⟩⟩⟩⟩⟩⟩⟩⟩)
def vz17_6 (sx : ByteArray) (v4l v4c : Nat) (v5 : Int) (h0n : Nat) (h0 : List Int) (x0 : Nat) : Prop := vz17_5 sx v4l v4c v5 h0n h0 x0
theorem pz17_6 (sx : ByteArray) (hK : ∀ cap0 : Nat, (ByteArray.size sx / 2) <= cap0 -> Kf (.tuple [.slice ⟨0, 0, 0, 1⟩ (ByteArray.size sx / 2) cap0, .bool (decide (ByteArray.size sx % 2 = 0))]) (Yc1 sx cap0)) (v4l v4c : Nat) (v5 : Int) (h0n : Nat) (h0 : List Int) (x0 : Nat) (h : vz17_6 sx v4l v4c v5 h0n h0 x0) : SemL Try.prog w0 fp ρi 0 44 [cz17_n10, cz17_n11] (Yc4 sx v4l v4c v5) (Yc3 h0n h0 x0) (kkz17_1 w0 fp ρi Kf sx v4l v4c v5 h0n h0 x0) :=
  L_block (L_seq (pz17_5 sx hK v4l v4c v5 h0n h0 x0 h))
abbrev Yc5 (x0 x1 : Nat) (x2 : ByteArray) : Env := [(2, some (.slice ⟨0, 0, 0, 1⟩ x0 x1)), (3, some (.bool ((Int.tmod ((ByteArray.size x2 : Nat) : Int) 2) == 0)))]
theorem rz17_7 (sx : ByteArray) (v4l v4c h0n : Nat) (h0 : List Int) (x0 : Nat) (Z : Env -> Heap -> Prop) (h : (((2 : Int) ≠ 0)) /\ Z (Yc5 v4l v4c sx) (Yc3 h0n h0 x0)) : EvC Gq1Unhex cz17_n14 [(0, some (.str sx)), (4, some (.slice ⟨0, 0, 0, 1⟩ v4l v4c))] (Yc3 h0n h0 x0) [2, 3] [0] Z := EvC.of (by kernel_rfl) h
theorem rtz17_1 (sx : ByteArray) (v4l v4c h0n : Nat) (h0 : List Int) (x0 : Nat) : RetC Rq1Unhex (Yc5 v4l v4c sx) (Yc3 h0n h0 x0) (.tuple [.slice ⟨0, 0, 0, 1⟩ v4l v4c, .bool ((Int.tmod ((ByteArray.size sx : Nat) : Int) 2) == 0)]) := RetC.of (fun Z => by kernel_rfl)
def vz17_7 (sx : ByteArray) (v4l v4c h0n : Nat) (h0 : List Int) (x0 : Nat) : Prop := (v4l = (ByteArray.size sx / 2)) /\ (((Int.tmod ((ByteArray.size sx : Nat) : Int) 2) == 0) = (decide (ByteArray.size sx % 2 = 0))) /\ (h0n = (ByteArray.size sx / 2)) /\ (h0 = (unL sx)) /\ (x0 = (v4c - (ByteArray.size sx / 2))) /\ (((ByteArray.size sx / 2) : Nat) <= v4c)
theorem pz17_7 (sx : ByteArray) (hK : ∀ cap0 : Nat, (ByteArray.size sx / 2) <= cap0 -> Kf (.tuple [.slice ⟨0, 0, 0, 1⟩ (ByteArray.size sx / 2) cap0, .bool (decide (ByteArray.size sx % 2 = 0))]) (Yc1 sx cap0)) (v4l v4c h0n : Nat) (h0 : List Int) (x0 : Nat) (h : vz17_7 sx v4l v4c h0n h0 x0) : SemL Try.prog w0 fp ρi 0 44 [cz17_n14, .ret] [(0, some (.str sx)), (4, some (.slice ⟨0, 0, 0, 1⟩ v4l v4c))] (Yc3 h0n h0 x0) (fnK Rq1Unhex 0 Kf) :=
  L_regE hGq1Unhex (rz17_7 sx v4l v4c h0n h0 x0 _ ⟨(by decide), (L_retE (R := Rq1Unhex) (m := 0) (Kf := Kf) (fun _ _ h => h) (rtz17_1 sx v4l v4c h0n h0 x0) (ret_of0 (Eq.mpr (cg5 (fun (z1 : Nat) (z2 : Bool) (z3 : Nat) (z4 : List Int) (z5 : Nat) => Ret0 0 Kf (.tuple [.slice ⟨0, 0, 0, 1⟩ z1 v4c, .bool z2]) (Yc3 z3 z4 z5)) h.1 h.2.1 h.2.2.1 h.2.2.2.1 h.2.2.2.2.1) (ret0_tau [] [0] rfl (by kernel_rfl) rfl (bd_tuple (bdL_cons bsl (bdL_cons pbd bdL_nil))) (hsc pcs heapSub_nil) rfl (by kernel_rfl) (hK v4c h.2.2.2.2.2)))))⟩)
def vz17_8 (sx : ByteArray) (v4l v4c : Nat) (v5 : Int) (h0n : Nat) (h0 : List Int) (x0 : Nat) : Prop := ((decide ((IntKind.i64.wrap (v5 + 1)) < ((ByteArray.size sx : Nat) : Int))) = true -> (vz17_6 sx v4l v4c v5 h0n h0 x0)) /\ ((decide ((IntKind.i64.wrap (v5 + 1)) < ((ByteArray.size sx : Nat) : Int))) = false -> (vz17_7 sx v4l v4c h0n h0 x0))
abbrev Yc6 (x0 : ByteArray) (x1 x2 : Nat) (x3 : Int) : Env := [(0, some (.str x0)), (4, some (.slice ⟨0, 0, 0, 1⟩ x1 x2)), (5, some (.int .i64 x3)), (13, some (.bool (decide ((IntKind.i64.wrap (x3 + 1)) < ((ByteArray.size x0 : Nat) : Int)))))]
theorem pz17_8 (sx : ByteArray) (hK : ∀ cap0 : Nat, (ByteArray.size sx / 2) <= cap0 -> Kf (.tuple [.slice ⟨0, 0, 0, 1⟩ (ByteArray.size sx / 2) cap0, .bool (decide (ByteArray.size sx % 2 = 0))]) (Yc1 sx cap0)) (v4l v4c : Nat) (v5 : Int) (h0n : Nat) (h0 : List Int) (x0 : Nat) (h : vz17_8 sx v4l v4c v5 h0n h0 x0) : SemL Try.prog w0 fp ρi 0 44 [cz17_n4, (.seq cz17_n10 cz17_n11)] (Yc6 sx v4l v4c v5) (Yc3 h0n h0 x0) (kkz17_1 w0 fp ρi Kf sx v4l v4c v5 h0n h0 x0) :=
  L_cond (q := (decide ((IntKind.i64.wrap (v5 + 1)) < ((ByteArray.size sx : Nat) : Int)))) (by kernel_rfl) (fun hq => (L_skip (lpk [0, 4, 5] [0] (L_seq (pz17_6 sx hK v4l v4c v5 h0n h0 x0 (h.1 hq)))))) (fun hq => (L_exit (lpk [0, 4] [0] (L_seq (pz17_7 sx hK v4l v4c h0n h0 x0 (h.2 hq))))))
theorem rz17_9 (sx : ByteArray) (v4l v4c : Nat) (v5 : Int) (h0n : Nat) (h0 : List Int) (x0 : Nat) (Z : Env -> Heap -> Prop) (h : Z (Yc6 sx v4l v4c v5) (Yc3 h0n h0 x0)) : EvC Gq1Unhex cz17_n3 (Yc4 sx v4l v4c v5) (Yc3 h0n h0 x0) [0, 4, 5, 13] [0] Z := EvC.of (by kernel_rfl) h
def vz17_9 (sx : ByteArray) (v4l v4c : Nat) (v5 : Int) (h0n : Nat) (h0 : List Int) (x0 : Nat) : Prop := vz17_8 sx v4l v4c v5 h0n h0 x0
theorem pz17_9 (sx : ByteArray) (hK : ∀ cap0 : Nat, (ByteArray.size sx / 2) <= cap0 -> Kf (.tuple [.slice ⟨0, 0, 0, 1⟩ (ByteArray.size sx / 2) cap0, .bool (decide (ByteArray.size sx % 2 = 0))]) (Yc1 sx cap0)) (v4l v4c : Nat) (v5 : Int) (h0n : Nat) (h0 : List Int) (x0 : Nat) (h : vz17_9 sx v4l v4c v5 h0n h0 x0) : SemL Try.prog w0 fp ρi 0 44 [cz17_n3, cz17_n4, (.seq cz17_n10 cz17_n11)] (Yc4 sx v4l v4c v5) (Yc3 h0n h0 x0) (kkz17_1 w0 fp ρi Kf sx v4l v4c v5 h0n h0 x0) :=
  L_regE hGq1Unhex (rz17_9 sx v4l v4c v5 h0n h0 x0 _ (pz17_8 sx hK v4l v4c v5 h0n h0 x0 h))
def vz17_10 (sx : ByteArray) : Prop := (∃ k : Nat, k <= sx.size / 2 /\ (0 : Int) = 2 * k /\ (0 : Nat) = k /\ (0 : Nat) = k /\ ([] : List Int) = (List.range k).map (unAt sx) /\ (0 : Nat) + (0 : Nat) = (0 : Nat)) /\ (∀ (v4l v4c : Nat) (v5 : Int) (h0n : Nat) (h0 : List Int) (x0 : Nat), (∃ k : Nat, k <= sx.size / 2 /\ v5 = 2 * k /\ v4l = k /\ h0n = k /\ h0 = (List.range k).map (unAt sx) /\ v4l + x0 = v4c) -> (vz17_9 sx v4l v4c v5 h0n h0 x0))
abbrev Yc7 (x0 : ByteArray) : Env := [(0, some (.str x0)), (4, some (.slice ⟨0, 0, 0, 1⟩ 0 0)), (5, some (.int .i64 0))]
abbrev Yc8 : Heap := ⟨1, [(0, some ⟨true, [.ints .u8 0 ([] : List Int)], 0⟩)]⟩
theorem pz17_10 (sx : ByteArray) (hK : ∀ cap0 : Nat, (ByteArray.size sx / 2) <= cap0 -> Kf (.tuple [.slice ⟨0, 0, 0, 1⟩ (ByteArray.size sx / 2) cap0, .bool (decide (ByteArray.size sx % 2 = 0))]) (Yc1 sx cap0)) (h : vz17_10 sx) : SemL Try.prog w0 fp ρi 0 44 [cz17_n12] (Yc7 sx) Yc8 (kkz17_0 w0 fp ρi Kf sx) :=
  L_loop (ivz17_1 sx) (muz17_1 sx) (liz17_1 sx) (ljz17_1 sx) ⟨(0, 0, 0, 0, ([] : List Int), 0), tau [], h.1, (sub_tau' [] [0] rfl rfl (esc pbd (esc bsl (esc pbd envSub_nil))) (hsc pcs heapSub_nil) (by kernel_rfl) rfl)⟩ (fun s => match s with | (v4l, v4c, v5, h0n, h0, x0) => fun hi => (L_seq (L_seq (pz17_9 sx hK v4l v4c v5 h0n h0 x0 (h.2 v4l v4c v5 h0n h0 x0 hi)))))
def vz17_11 (sx : ByteArray) : Prop := vz17_10 sx
theorem pz17_11 (sx : ByteArray) (hK : ∀ cap0 : Nat, (ByteArray.size sx / 2) <= cap0 -> Kf (.tuple [.slice ⟨0, 0, 0, 1⟩ (ByteArray.size sx / 2) cap0, .bool (decide (ByteArray.size sx % 2 = 0))]) (Yc1 sx cap0)) (h : vz17_11 sx) : SemL Try.prog w0 fp ρi 0 44 [cz17_n13, (.seq cz17_n14 .ret)] (Yc7 sx) Yc8 (fnK Rq1Unhex 0 Kf) :=
  L_block (pz17_10 sx hK h)
abbrev Yc9 (x0 : ByteArray) : Env := [(0, some (.str x0)), (4, some (.slice ⟨0, 0, 0, 1⟩ 0 0))]
theorem rz17_12 (sx : ByteArray) (Z : Env -> Heap -> Prop) (h : Z (Yc7 sx) Yc8) : EvC Gq1Unhex cz17_n2 (Yc9 sx) Yc8 [0, 4, 5] [0] Z := EvC.of (by kernel_rfl) h
def vz17_12 (sx : ByteArray) : Prop := vz17_11 sx
theorem pz17_12 (sx : ByteArray) (hK : ∀ cap0 : Nat, (ByteArray.size sx / 2) <= cap0 -> Kf (.tuple [.slice ⟨0, 0, 0, 1⟩ (ByteArray.size sx / 2) cap0, .bool (decide (ByteArray.size sx % 2 = 0))]) (Yc1 sx cap0)) (h : vz17_12 sx) : SemL Try.prog w0 fp ρi 0 44 [cz17_n2, cz17_n13, (.seq cz17_n14 .ret)] (Yc9 sx) Yc8 (fnK Rq1Unhex 0 Kf) :=
  L_regE hGq1Unhex (rz17_12 sx _ (pz17_11 sx hK h))
abbrev Yc10 (x0 : ByteArray) : Env := [(0, some (.str x0))]
abbrev Yc11 : Heap := ⟨0, []⟩
theorem rz17_13 (sx : ByteArray) (Z : Env -> Heap -> Prop) (h : Z (Yc9 sx) Yc8) : EvC Gq1Unhex cz17_n1 (Yc10 sx) Yc11 [0, 4] [0] Z := EvC.of (by kernel_rfl) h
def vz17_13 (sx : ByteArray) : Prop := vz17_12 sx
theorem pz17_13 (sx : ByteArray) (hK : ∀ cap0 : Nat, (ByteArray.size sx / 2) <= cap0 -> Kf (.tuple [.slice ⟨0, 0, 0, 1⟩ (ByteArray.size sx / 2) cap0, .bool (decide (ByteArray.size sx % 2 = 0))]) (Yc1 sx cap0)) (h : vz17_13 sx) : SemL Try.prog w0 fp ρi 0 44 [cz17_n1, (.seq (.seq cz17_n2 cz17_n13) (.seq cz17_n14 .ret))] (Yc10 sx) Yc11 (fnK Rq1Unhex 0 Kf) :=
  L_regE hGq1Unhex (rz17_13 sx _ (L_seq (L_seq (pz17_12 sx hK h))))
theorem rz17_14 (sx : ByteArray) (Z : Env -> Heap -> Prop) (h : Z (Yc10 sx) Yc11) : EvC Gq1Unhex cz17_n0 (Yc10 sx) Yc11 [0] [] Z := EvC.of (by kernel_rfl) h
def vz17_14 (sx : ByteArray) : Prop := vz17_13 sx
theorem pz17_14 (sx : ByteArray) (hK : ∀ cap0 : Nat, (ByteArray.size sx / 2) <= cap0 -> Kf (.tuple [.slice ⟨0, 0, 0, 1⟩ (ByteArray.size sx / 2) cap0, .bool (decide (ByteArray.size sx % 2 = 0))]) (Yc1 sx cap0)) (h : vz17_14 sx) : SemL Try.prog w0 fp ρi 0 44 [cz17_n0, (.seq cz17_n1 (.seq (.seq cz17_n2 cz17_n13) (.seq cz17_n14 .ret)))] (Yc10 sx) Yc11 (fnK Rq1Unhex 0 Kf) :=
  L_regE hGq1Unhex (rz17_14 sx _ (L_seq (pz17_13 sx hK h)))
def vcq1Unhex (sx : ByteArray) : Prop := vz17_14 sx
theorem wq1Unhex (sx : ByteArray) (hK : ∀ cap0 : Nat, (ByteArray.size sx / 2) <= cap0 -> Kf (.tuple [.slice ⟨0, 0, 0, 1⟩ (ByteArray.size sx / 2) cap0, .bool (decide (ByteArray.size sx % 2 = 0))]) (Yc1 sx cap0)) (h : vcq1Unhex sx) : SemL Try.prog w0 fp ρi 0 44 [cq1Unhex] (Yc10 sx) Yc11 (fnK Rq1Unhex 0 Kf) :=
  (L_seq (pz17_14 sx hK h))
end
theorem okq1Unhex (sx : ByteArray) (hpre : ((ByteArray.size sx <= 1000000) /\ unOk sx = true)) : vcq1Unhex sx := by
  unfold vcq1Unhex vz17_14 vz17_13 vz17_12 vz17_11 vz17_10 vz17_9 vz17_8 vz17_7 vz17_6 vz17_5 vz17_4 vz17_3 vz17_2 vz17_1 vz17_0
  obtain ⟨h1, h2⟩ := hpre
  refine ⟨⟨0, by omega, rfl, rfl, rfl, rfl, rfl⟩, ?_⟩
  rintro l c v5 n h0 x0 ⟨k, hk, rfl, rfl, rfl, rfl, i5⟩
  have w1 : IntKind.i64.wrap (2 * (n : Int) + 1) = 2 * n + 1 := by rw [wi64]; omega
  have w2 : IntKind.i64.wrap (2 * (n : Int) + 2) = 2 * n + 2 := by rw [wi64]; omega
  rw [w1, w2]
  refine ⟨fun hlt => ?_, fun hge => ?_⟩
  · have hlt := of_decide_eq_true hlt
    have e1 : (2 * (n : Int)).toNat = 2 * n := by omega
    have e2 : (2 * (n : Int) + 1).toNat = 2 * n + 1 := by omega
    have ok := unOkN_le (k := n + 1) (n := sx.size / 2 - (n + 1)) (by rw [show n + 1 + (sx.size / 2 - (n + 1)) = sx.size / 2 by omega]; exact h2)
    rw [unOkN_succ, Bool.and_eq_true, Bool.and_eq_true, decide_eq_true_eq, decide_eq_true_eq] at ok
    obtain ⟨_, d1, d2⟩ := ok
    have r1 := digF_ran (sB sx (2 * n))
    have r2 := digF_ran (sB sx (2 * n + 1))
    have s1 := sB_byte sx (2 * n)
    have s2 := sB_byte sx (2 * n + 1)
    rw [e1, e2]
    refine ⟨by omega, by omega, s1, by omega, hlt, s2, ?_⟩
    rintro v6 e6 v7 e7
    have e6 : v6 = digF (sB sx (2 * n)) := e6
    have e7 : v7 = digF (sB sx (2 * n + 1)) := e7
    refine ⟨fun h => ?_, fun h => ?_⟩
    · simp only [Bool.or_eq_true, decide_eq_true_eq] at h
      omega
    · refine ⟨rfl, by simp, i5, by omega, fun c2 hc2 => ?_⟩
      rintro l2 rfl h3 rfl x2 rfl
      have w3 : IntKind.i64.wrap (16 * v6) = 16 * v6 := by rw [wi64]; omega
      have w4 : IntKind.i64.wrap (16 * v6 + v7) = 16 * v6 + v7 := by rw [wi64]; omega
      have w5 : IntKind.u8.wrap (16 * v6 + v7) = 16 * v6 + v7 := by rw [wrap_u8]; omega
      rw [w3, w4, w5]
      refine ⟨⟨n + 1, by omega, by omega, rfl, rfl, ?_, by omega⟩, by omega⟩
      rw [List.range_succ, List.map_append, e6, e7]
      rfl
  · have hge := of_decide_eq_false hge
    have e : n = sx.size / 2 := by omega
    subst e
    refine ⟨rfl, ?_, rfl, rfl, by omega, by omega⟩
    rw [Int.tmod_eq_emod_of_nonneg (by omega), Bool.eq_iff_iff, beq_iff_eq, decide_eq_true_eq]
    omega
theorem sq1Unhex : Sound Try.prog 17 (gS Dq1Unhex) := by
  refine fn_soundA cq1Unhex_fits ?_
  intro args H K h
  obtain ⟨pre, out, hD, hpre, hK⟩ := gS_inv h
  unfold Dq1Unhex at hD
  split at hD
  · cases hD
    exact ⟨rfl, fun w0 fp ρi => wq1Unhex _ hK (okq1Unhex _ hpre)⟩
  · cases hD
def Pl2Block : PSpec := fun args => match args with
  | [.str sx] => some (((ByteArray.size sx <= 1000000) /\ unOk sx = true), .agg [.ints .u8 16 (blkL sx)])
  | _ => none
def pcl2Block : PCon := ⟨46, Pl2Block⟩
def cz46_n0 : ACode := .reg (.op (some 2) (.alloc [.ints .u8 16 (List.replicate 16 0)]) .nil)
def cz46_n1 : ACode := .reg (.op (some 8) (.mov (.tm 0)) (.op (some 9) (.call 17 [(.tm 8)]) (.op (some 7) (.mov (.tm 9)) (.op (some 10) (.extract (.tm 7) 0) (.op (some 11) (.extract (.tm 7) 1) (.op (some 3) (.mov (.tm 10)) (.op (some 4) (.mov (.tm 11)) .nil)))))))
def cz46_n2 : ACode := .reg (.op (some 12) (.build [.ints .u8 16 (List.replicate 16 0)] []) (.op (some 5) (.alloc [.ints .u8 16 (List.replicate 16 0)]) (.op none (.storeA 16 (.tm 5) (.tm 12)) .nil)))
def cz46_n3 : ACode := .reg (.op (some 6) (.mov (.cn (.int .i64 0))) .nil)
def cz46_n4 : ACode := .reg (.op (some 13) (.mov (.tm 6)) (.op (some 14) (.mov (.tm 3)) (.op (some 15) (.len (.tm 14)) (.op (some 16) (.bin .lss (.tm 13) (.tm 15)) (.op (some 17) (.mov (.tm 16)) (.grpJ 17 true (.op (some 18) (.mov (.tm 6)) (.op (some 19) (.bin .lss (.tm 18) (.cn (.int .i64 16))) .nil)) 20 (.tm 19) (.cn (.bool false)) .nil))))))
def cz46_n5 : ACode := .cond (.tm 20) .skip (.exit 0)
def cz46_n6 : ACode := .reg (.op (some 23) (.mov (.tm 6)) (.op (some 24) (.mov (.tm 3)) (.op (some 25) (.mov (.tm 6)) (.op (some 26) (.idxS (.tm 24) (.tm 25) 1) (.op (some 27) (.load1 (.tm 26)) (.op (some 28) (.idxA (.tm 5) (.tm 23) 16 1) (.op none (.store1 (.tm 28) (.tm 27)) .nil)))))))
def cz46_n7 : ACode := .block 1 cz46_n6
def cz46_n8 : ACode := .reg (.op (some 21) (.mov (.tm 6)) (.op (some 22) (.bin .add (.tm 21) (.cn (.int .i64 1))) (.op (some 6) (.mov (.tm 22)) .nil)))
def cz46_n9 : ACode := .loop (.seq (.seq cz46_n4 cz46_n5) (.seq cz46_n7 cz46_n8))
def cz46_n10 : ACode := .block 0 cz46_n9
def cz46_n11 : ACode := .reg (.op (some 29) (.loadA 16 (.tm 5)) (.op none (.storeA 16 (.tm 2) (.tm 29)) .nil))
def cl2Block : ACode := (.seq cz46_n0 (.seq cz46_n1 (.seq cz46_n2 (.seq (.seq cz46_n3 cz46_n10) (.seq cz46_n11 .ret)))))
def Rl2Block : Res := .one (.cA 2 16)
theorem cl2Block_fits : fnFits Try.prog 46 1 30 cl2Block Rl2Block = true := by kernel_rfl
def Gl2Block : Calls' := withP [] [conq1Unhex]
theorem hGl2Block : CallOk Try.prog Gl2Block := withP_ok trivial ⟨sq1Unhex, trivial⟩
section
variable {w0 : World} {fp : Nat -> Nat -> Prop} {ρi : Rho} {Kf : SVal -> Heap -> Prop}
def kkz46_0 (w0 : World) (fp : Nat -> Nat -> Prop) (ρi : Rho) (Kf : SVal -> Heap -> Prop) (sx : ByteArray) : Cont := blockK 0 (fun e H => SemL Try.prog w0 fp ρi 0 30 [(.seq cz46_n11 .ret)] e H (fnK Rl2Block 0 Kf)) (fnK Rl2Block 0 Kf)
def ivz46_1 (sx : ByteArray) (v3l c : Nat) (h1 : List Int) (x1 : Nat) : Int × List Int -> Prop := fun s => match s with | (v6, h2) => 0 <= v6 /\ v6 <= 16 /\ h2.length = 16 /\ ∀ j : Nat, j < 16 -> h2.getD j 0 = if (j : Int) < v6 then (unL sx).getD j 0 else 0
def muz46_1 (sx : ByteArray) (v3l c : Nat) (h1 : List Int) (x1 : Nat) : Int × List Int -> Nat := fun s => match s with | (v6, h2) => ((16 - v6).toNat)
def liz46_1 (sx : ByteArray) (v3l c : Nat) (h1 : List Int) (x1 : Nat) : Int × List Int -> Env := fun s => match s with | (v6, h2) => [(2, some (.ptr ⟨0, 0, 0, 1⟩ 16)), (3, some (.slice ⟨1, 0, 0, 1⟩ v3l c)), (5, some (.ptr ⟨2, 0, 0, 1⟩ 16)), (6, some (.int .i64 v6))]
def ljz46_1 (sx : ByteArray) (v3l c : Nat) (h1 : List Int) (x1 : Nat) : Int × List Int -> Heap := fun s => match s with | (v6, h2) => ⟨3, [(0, some ⟨true, [.ints .u8 16 (List.replicate 16 0)], 0⟩), (1, some ⟨true, [.ints .u8 v3l h1], x1⟩), (2, some ⟨true, [.ints .u8 16 h2], 0⟩)]⟩
def kkz46_1 (w0 : World) (fp : Nat -> Nat -> Prop) (ρi : Rho) (Kf : SVal -> Heap -> Prop) (sx : ByteArray) (v3l c : Nat) (h1 : List Int) (x1 : Nat) (v6 : Int) (h2 : List Int) : Cont := loopK 0 (ivz46_1 sx v3l c h1 x1) (muz46_1 sx v3l c h1 x1) (liz46_1 sx v3l c h1 x1) (ljz46_1 sx v3l c h1 x1) (v6, h2) (kkz46_0 w0 fp ρi Kf sx)
abbrev Yc12 (x0 : Nat) (x1 : List Int) (x2 : Nat) (x3 : List Int) : Heap := ⟨3, [(0, some ⟨true, [.ints .u8 16 (List.replicate 16 0)], 0⟩), (1, some ⟨true, [.ints .u8 x0 x1], x2⟩), (2, some ⟨true, [.ints .u8 16 x3], 0⟩)]⟩
abbrev Yc13 (x0 x1 : Nat) (x2 : Int) : Env := [(2, some (.ptr ⟨0, 0, 0, 1⟩ 16)), (3, some (.slice ⟨1, 0, 0, 1⟩ x0 x1)), (5, some (.ptr ⟨2, 0, 0, 1⟩ 16)), (6, some (.int .i64 x2))]
theorem rz46_0 (sx : ByteArray) (v3l c : Nat) (v6 : Int) (h1 : List Int) (x1 : Nat) (h2'1 h2 : List Int) (Z : Env -> Heap -> Prop) (h : Z [(2, some (.ptr ⟨0, 0, 0, 1⟩ 16)), (3, some (.slice ⟨1, 0, 0, 1⟩ v3l c)), (5, some (.ptr ⟨2, 0, 0, 1⟩ 16)), (6, some (.int .i64 (IntKind.i64.wrap (v6 + 1))))] (Yc12 v3l h1 x1 h2'1)) : EvC Gl2Block cz46_n8 (Yc13 v3l c v6) (Yc12 v3l h1 x1 h2'1) [2, 3, 5, 6] [0, 1, 2] Z := EvC.of (by kernel_rfl) h
def vz46_0 (sx : ByteArray) (v3l c : Nat) (v6 : Int) (h1 : List Int) (x1 : Nat) (h2'1 h2 : List Int) : Prop := (0 <= (IntKind.i64.wrap (v6 + 1)) /\ (IntKind.i64.wrap (v6 + 1)) <= 16 /\ h2'1.length = 16 /\ ∀ j : Nat, j < 16 -> h2'1.getD j 0 = if (j : Int) < (IntKind.i64.wrap (v6 + 1)) then (unL sx).getD j 0 else 0) /\ (((16 - (IntKind.i64.wrap (v6 + 1))).toNat) < ((16 - v6).toNat))
abbrev Yc14 (x0 : SVal -> Heap -> Prop) (x1 : ByteArray) : Prop := x0 (.agg [.ints .u8 16 (blkL x1)]) ⟨0, []⟩
theorem pz46_0 (sx : ByteArray) (hK : (Yc14 Kf sx)) (v3l c : Nat) (v6 : Int) (h1 : List Int) (x1 : Nat) (h2'1 h2 : List Int) (h : vz46_0 sx v3l c v6 h1 x1 h2'1 h2) : SemL Try.prog w0 fp ρi 0 30 [cz46_n8] (Yc13 v3l c v6) (Yc12 v3l h1 x1 h2'1) (kkz46_1 w0 fp ρi Kf sx v3l c h1 x1 v6 h2) :=
  L_regE hGl2Block (rz46_0 sx v3l c v6 h1 x1 h2'1 h2 _ (L_nil (loop_back (x' := ((IntKind.i64.wrap (v6 + 1)), h2'1)) (τ := tau []) h.1 h.2 (sub_tau' [] [0, 1, 2] rfl rfl (esc bpt (esc bsl (esc bpt (esc pbd envSub_nil)))) (hsc pcs (hsc pcs (hsc pcs heapSub_nil))) (by kernel_rfl) rfl))))
def kkz46_2 (w0 : World) (fp : Nat -> Nat -> Prop) (ρi : Rho) (Kf : SVal -> Heap -> Prop) (sx : ByteArray) (v3l c : Nat) (h1 : List Int) (x1 : Nat) (v6 : Int) (h2 : List Int) : Cont := blockK 1 (fun e H => SemL Try.prog w0 fp ρi 0 30 [cz46_n8] e H (kkz46_1 w0 fp ρi Kf sx v3l c h1 x1 v6 h2)) (kkz46_1 w0 fp ρi Kf sx v3l c h1 x1 v6 h2)
theorem rz46_1 (sx : ByteArray) (v3l c : Nat) (v6 : Int) (h1 : List Int) (x1 : Nat) (h2 : List Int) (Z : Env -> Heap -> Prop) (h : ((0 <= v6)) /\ ((v6 < ((v3l : Nat) : Int))) /\ (((0 + (Int.toNat v6)) < v3l)) /\ ((0 <= v6)) /\ ((v6 < 16)) /\ (((0 + ((Int.toNat v6) * 1)) < 16)) /\ (((0 + ((Int.toNat v6) * 1)) < List.length h2)) /\ Z (Yc13 v3l c v6) ⟨3, [(0, some ⟨true, [.ints .u8 16 (List.replicate 16 0)], 0⟩), (1, some ⟨true, [.ints .u8 v3l h1], x1⟩), (2, some ⟨true, [.ints .u8 16 (List.set h2 (0 + ((Int.toNat v6) * 1)) (List.getD h1 (0 + (Int.toNat v6)) 0))], 0⟩)]⟩) : EvC Gl2Block cz46_n6 (Yc13 v3l c v6) (Yc12 v3l h1 x1 h2) [2, 3, 5, 6] [0, 1, 2] Z := EvC.of (by kernel_rfl) h
def vz46_1 (sx : ByteArray) (v3l c : Nat) (v6 : Int) (h1 : List Int) (x1 : Nat) (h2 : List Int) : Prop := ((0 <= v6)) /\ (((v6 < ((v3l : Nat) : Int))) /\ ((((0 + (Int.toNat v6)) < v3l)) /\ (((0 <= v6)) /\ (((v6 < 16)) /\ ((((0 + ((Int.toNat v6) * 1)) < 16)) /\ ((((0 + ((Int.toNat v6) * 1)) < List.length h2)) /\ (∀ h2'1 : List Int, h2'1 = (List.set h2 (0 + ((Int.toNat v6) * 1)) (List.getD h1 (0 + (Int.toNat v6)) 0)) -> vz46_0 sx v3l c v6 h1 x1 h2'1 h2)))))))
theorem pz46_1 (sx : ByteArray) (hK : (Yc14 Kf sx)) (v3l c : Nat) (v6 : Int) (h1 : List Int) (x1 : Nat) (h2 : List Int) (h : vz46_1 sx v3l c v6 h1 x1 h2) : SemL Try.prog w0 fp ρi 0 30 [cz46_n6] (Yc13 v3l c v6) (Yc12 v3l h1 x1 h2) (kkz46_2 w0 fp ρi Kf sx v3l c h1 x1 v6 h2) :=
  L_regE hGl2Block (rz46_1 sx v3l c v6 h1 x1 h2 _ ⟨h.1, ⟨h.2.1, ⟨h.2.2.1, ⟨h.2.2.2.1, ⟨h.2.2.2.2.1, ⟨h.2.2.2.2.2.1, ⟨h.2.2.2.2.2.2.1, (L_nil (pz46_0 sx hK v3l c v6 h1 x1 (List.set h2 (0 + ((Int.toNat v6) * 1)) (List.getD h1 (0 + (Int.toNat v6)) 0)) h2 (h.2.2.2.2.2.2.2 (List.set h2 (0 + ((Int.toNat v6) * 1)) (List.getD h1 (0 + (Int.toNat v6)) 0)) rfl)))⟩⟩⟩⟩⟩⟩⟩)
def vz46_2 (sx : ByteArray) (v3l c : Nat) (v6 : Int) (h1 : List Int) (x1 : Nat) (h2 : List Int) : Prop := vz46_1 sx v3l c v6 h1 x1 h2
theorem pz46_2 (sx : ByteArray) (hK : (Yc14 Kf sx)) (v3l c : Nat) (v6 : Int) (h1 : List Int) (x1 : Nat) (h2 : List Int) (h : vz46_2 sx v3l c v6 h1 x1 h2) : SemL Try.prog w0 fp ρi 0 30 [cz46_n7, cz46_n8] (Yc13 v3l c v6) (Yc12 v3l h1 x1 h2) (kkz46_1 w0 fp ρi Kf sx v3l c h1 x1 v6 h2) :=
  L_block (pz46_1 sx hK v3l c v6 h1 x1 h2 h)
abbrev Yc15 : Env := [(2, some (.ptr ⟨0, 0, 0, 1⟩ 16)), (5, some (.ptr ⟨2, 0, 0, 1⟩ 16))]
abbrev Yc16 (x0 : List Int) : Heap := ⟨3, [(0, some ⟨true, [.ints .u8 16 (List.replicate 16 0)], 0⟩), (2, some ⟨true, [.ints .u8 16 x0], 0⟩)]⟩
theorem rz46_3 (sx : ByteArray) (h2 : List Int) (Z : Env -> Heap -> Prop) (h : Z [(2, some (.ptr ⟨0, 0, 0, 1⟩ 16))] ⟨3, [(0, some ⟨true, [.ints .u8 16 h2], 0⟩)]⟩) : EvC Gl2Block cz46_n11 Yc15 (Yc16 h2) [2] [0] Z := EvC.of (by kernel_rfl) h
theorem rtz46_0 (sx : ByteArray) (h2 : List Int) : RetC Rl2Block [(2, some (.ptr ⟨0, 0, 0, 1⟩ 16))] ⟨3, [(0, some ⟨true, [.ints .u8 16 h2], 0⟩)]⟩ (.agg [.ints .u8 16 h2]) := RetC.of (fun Z => by kernel_rfl)
def vz46_3 (sx : ByteArray) (h2 : List Int) : Prop := h2 = (blkL sx)
theorem pz46_3 (sx : ByteArray) (hK : (Yc14 Kf sx)) (h2 : List Int) (h : vz46_3 sx h2) : SemL Try.prog w0 fp ρi 0 30 [cz46_n11, .ret] Yc15 (Yc16 h2) (fnK Rl2Block 0 Kf) :=
  L_regE hGl2Block (rz46_3 sx h2 _ (L_retE (R := Rl2Block) (m := 0) (Kf := Kf) (fun _ _ h => h) (rtz46_0 sx h2) (ret_plain rfl (by kernel_rfl) (cg1 (fun (z1 : List Int) => (.agg [.ints .u8 16 z1] : SVal)) h) hK)))
def vz46_4 (sx : ByteArray) (v3l c : Nat) (v6 : Int) (h1 : List Int) (x1 : Nat) (h2 : List Int) : Prop := (((decide (v6 < ((v3l : Nat) : Int))) && (decide (v6 < 16))) = true -> (vz46_2 sx v3l c v6 h1 x1 h2)) /\ (((decide (v6 < ((v3l : Nat) : Int))) && (decide (v6 < 16))) = false -> (vz46_3 sx h2))
theorem pz46_4 (sx : ByteArray) (hK : (Yc14 Kf sx)) (v3l c : Nat) (v6 : Int) (h1 : List Int) (x1 : Nat) (h2 : List Int) (h : vz46_4 sx v3l c v6 h1 x1 h2) : SemL Try.prog w0 fp ρi 0 30 [cz46_n5, (.seq cz46_n7 cz46_n8)] [(2, some (.ptr ⟨0, 0, 0, 1⟩ 16)), (3, some (.slice ⟨1, 0, 0, 1⟩ v3l c)), (5, some (.ptr ⟨2, 0, 0, 1⟩ 16)), (6, some (.int .i64 v6)), (20, some (.bool ((decide (v6 < ((v3l : Nat) : Int))) && (decide (v6 < 16)))))] (Yc12 v3l h1 x1 h2) (kkz46_1 w0 fp ρi Kf sx v3l c h1 x1 v6 h2) :=
  L_cond (q := ((decide (v6 < ((v3l : Nat) : Int))) && (decide (v6 < 16)))) (by kernel_rfl) (fun hq => (L_skip (lpk [2, 3, 5, 6] [0, 1, 2] (L_seq (pz46_2 sx hK v3l c v6 h1 x1 h2 (h.1 hq)))))) (fun hq => (L_exit (lpk [2, 5] [0, 2] (L_seq (pz46_3 sx hK h2 (h.2 hq))))))
theorem rz46_5 (sx : ByteArray) (v3l c : Nat) (v6 : Int) (h1 : List Int) (x1 : Nat) (h2 : List Int) (Z : Env -> Heap -> Prop) (h : ∃ qq : Bool, ((decide (v6 < ((v3l : Nat) : Int))) = true -> (keeps (Yc12 v3l h1 x1 h2) (Yc12 v3l h1 x1 h2) [(0, some ⟨true, [.ints .u8 16 (List.replicate 16 0)], 0⟩), (1, some ⟨true, [.ints .u8 v3l h1], x1⟩), (2, some ⟨true, [.ints .u8 16 h2], 0⟩)]) /\ (decide (v6 < 16)) = qq) /\ ((decide (v6 < ((v3l : Nat) : Int))) = false -> false = qq) /\ Z [(2, some (.ptr ⟨0, 0, 0, 1⟩ 16)), (3, some (.slice ⟨1, 0, 0, 1⟩ v3l c)), (5, some (.ptr ⟨2, 0, 0, 1⟩ 16)), (6, some (.int .i64 v6)), (20, some (.bool qq))] (Yc12 v3l h1 x1 h2)) : EvC Gl2Block cz46_n4 (Yc13 v3l c v6) (Yc12 v3l h1 x1 h2) [2, 3, 5, 6, 20] [0, 1, 2] Z := EvC.of (by kernel_rfl) h
def vz46_5 (sx : ByteArray) (v3l c : Nat) (v6 : Int) (h1 : List Int) (x1 : Nat) (h2 : List Int) : Prop := vz46_4 sx v3l c v6 h1 x1 h2
theorem pz46_5 (sx : ByteArray) (hK : (Yc14 Kf sx)) (v3l c : Nat) (v6 : Int) (h1 : List Int) (x1 : Nat) (h2 : List Int) (h : vz46_5 sx v3l c v6 h1 x1 h2) : SemL Try.prog w0 fp ρi 0 30 [cz46_n4, cz46_n5, (.seq cz46_n7 cz46_n8)] (Yc13 v3l c v6) (Yc12 v3l h1 x1 h2) (kkz46_1 w0 fp ρi Kf sx v3l c h1 x1 v6 h2) :=
  L_regE hGl2Block (rz46_5 sx v3l c v6 h1 x1 h2 _ ⟨((decide (v6 < ((v3l : Nat) : Int))) && (decide (v6 < 16))), fun hc_qq => ⟨(keeps_refl _), (qa1 hc_qq)⟩, fun hc_qq => qa2 hc_qq, (pz46_4 sx hK v3l c v6 h1 x1 h2 h)⟩)
def vz46_6 (sx : ByteArray) (v3l c : Nat) (h1 : List Int) (x1 : Nat) : Prop := (0 <= (0 : Int) /\ (0 : Int) <= 16 /\ (List.replicate 16 0).length = 16 /\ ∀ j : Nat, j < 16 -> (List.replicate 16 0).getD j 0 = if (j : Int) < (0 : Int) then (unL sx).getD j 0 else 0) /\ (∀ (v6 : Int) (h2 : List Int), (0 <= v6 /\ v6 <= 16 /\ h2.length = 16 /\ ∀ j : Nat, j < 16 -> h2.getD j 0 = if (j : Int) < v6 then (unL sx).getD j 0 else 0) -> (vz46_5 sx v3l c v6 h1 x1 h2))
abbrev Yc17 (x0 x1 : Nat) : Env := [(2, some (.ptr ⟨0, 0, 0, 1⟩ 16)), (3, some (.slice ⟨1, 0, 0, 1⟩ x0 x1)), (5, some (.ptr ⟨2, 0, 0, 1⟩ 16)), (6, some (.int .i64 0))]
abbrev Yc18 (x0 : Nat) (x1 : List Int) (x2 : Nat) : Heap := ⟨3, [(0, some ⟨true, [.ints .u8 16 (List.replicate 16 0)], 0⟩), (1, some ⟨true, [.ints .u8 x0 x1], x2⟩), (2, some ⟨true, [.ints .u8 16 (List.replicate 16 0)], 0⟩)]⟩
theorem pz46_6 (sx : ByteArray) (hK : (Yc14 Kf sx)) (v3l c : Nat) (h1 : List Int) (x1 : Nat) (h : vz46_6 sx v3l c h1 x1) : SemL Try.prog w0 fp ρi 0 30 [cz46_n9] (Yc17 v3l c) (Yc18 v3l h1 x1) (kkz46_0 w0 fp ρi Kf sx) :=
  L_loop (ivz46_1 sx v3l c h1 x1) (muz46_1 sx v3l c h1 x1) (liz46_1 sx v3l c h1 x1) (ljz46_1 sx v3l c h1 x1) ⟨(0, (List.replicate 16 0)), tau [], h.1, (sub_tau' [] [0, 1, 2] rfl rfl (esc bpt (esc bsl (esc bpt (esc pbd envSub_nil)))) (hsc pcs (hsc pcs (hsc pcs heapSub_nil))) (by kernel_rfl) rfl)⟩ (fun s => match s with | (v6, h2) => fun hi => (L_seq (L_seq (pz46_5 sx hK v3l c v6 h1 x1 h2 (h.2 v6 h2 hi)))))
def vz46_7 (sx : ByteArray) (v3l c : Nat) (h1 : List Int) (x1 : Nat) : Prop := vz46_6 sx v3l c h1 x1
theorem pz46_7 (sx : ByteArray) (hK : (Yc14 Kf sx)) (v3l c : Nat) (h1 : List Int) (x1 : Nat) (h : vz46_7 sx v3l c h1 x1) : SemL Try.prog w0 fp ρi 0 30 [cz46_n10, (.seq cz46_n11 .ret)] (Yc17 v3l c) (Yc18 v3l h1 x1) (fnK Rl2Block 0 Kf) :=
  L_block (pz46_6 sx hK v3l c h1 x1 h)
abbrev Yc19 (x0 x1 : Nat) : Env := [(2, some (.ptr ⟨0, 0, 0, 1⟩ 16)), (3, some (.slice ⟨1, 0, 0, 1⟩ x0 x1)), (5, some (.ptr ⟨2, 0, 0, 1⟩ 16))]
theorem rz46_8 (sx : ByteArray) (v3l c : Nat) (h1 : List Int) (x1 : Nat) (Z : Env -> Heap -> Prop) (h : Z (Yc17 v3l c) (Yc18 v3l h1 x1)) : EvC Gl2Block cz46_n3 (Yc19 v3l c) (Yc18 v3l h1 x1) [2, 3, 5, 6] [0, 1, 2] Z := EvC.of (by kernel_rfl) h
def vz46_8 (sx : ByteArray) (v3l c : Nat) (h1 : List Int) (x1 : Nat) : Prop := vz46_7 sx v3l c h1 x1
theorem pz46_8 (sx : ByteArray) (hK : (Yc14 Kf sx)) (v3l c : Nat) (h1 : List Int) (x1 : Nat) (h : vz46_8 sx v3l c h1 x1) : SemL Try.prog w0 fp ρi 0 30 [cz46_n3, cz46_n10, (.seq cz46_n11 .ret)] (Yc19 v3l c) (Yc18 v3l h1 x1) (fnK Rl2Block 0 Kf) :=
  L_regE hGl2Block (rz46_8 sx v3l c h1 x1 _ (pz46_7 sx hK v3l c h1 x1 h))
abbrev Yc20 (x0 x1 : Nat) : Env := [(2, some (.ptr ⟨0, 0, 0, 1⟩ 16)), (3, some (.slice ⟨1, 0, 0, 1⟩ x0 x1))]
abbrev Yc21 (x0 : Nat) (x1 : List Int) (x2 : Nat) : Heap := ⟨2, [(0, some ⟨true, [.ints .u8 16 (List.replicate 16 0)], 0⟩), (1, some ⟨true, [.ints .u8 x0 x1], x2⟩)]⟩
theorem rz46_9 (sx : ByteArray) (v3l c : Nat) (h1 : List Int) (x1 : Nat) (Z : Env -> Heap -> Prop) (h : Z (Yc19 v3l c) (Yc18 v3l h1 x1)) : EvC Gl2Block cz46_n2 (Yc20 v3l c) (Yc21 v3l h1 x1) [2, 3, 5] [0, 1, 2] Z := EvC.of (by kernel_rfl) h
def vz46_9 (sx : ByteArray) (v3l c : Nat) (h1 : List Int) (x1 : Nat) : Prop := vz46_8 sx v3l c h1 x1
theorem pz46_9 (sx : ByteArray) (hK : (Yc14 Kf sx)) (v3l c : Nat) (h1 : List Int) (x1 : Nat) (h : vz46_9 sx v3l c h1 x1) : SemL Try.prog w0 fp ρi 0 30 [cz46_n2, (.seq (.seq cz46_n3 cz46_n10) (.seq cz46_n11 .ret))] (Yc20 v3l c) (Yc21 v3l h1 x1) (fnK Rl2Block 0 Kf) :=
  L_regE hGl2Block (rz46_9 sx v3l c h1 x1 _ (L_seq (L_seq (pz46_8 sx hK v3l c h1 x1 h))))
abbrev Yc22 (x0 : ByteArray) : Env := [(0, some (.str x0)), (2, some (.ptr ⟨0, 0, 0, 1⟩ 16))]
abbrev Yc23 : Heap := ⟨1, [(0, some ⟨true, [.ints .u8 16 (List.replicate 16 0)], 0⟩)]⟩
theorem rz46_10 (sx : ByteArray) (Z : Env -> Heap -> Prop) (h : (((ByteArray.size sx <= 1000000) /\ unOk sx = true)) /\ ∀ (c : Nat), (ByteArray.size sx / 2) <= c -> Z [(2, some (.ptr ⟨0, 0, 0, 1⟩ 16)), (3, some (.slice ⟨1, 0, 0, 1⟩ (ByteArray.size sx / 2) c))] ⟨2, [(0, some ⟨true, [.ints .u8 16 (List.replicate 16 0)], 0⟩), (1, some ⟨true, [.ints .u8 (ByteArray.size sx / 2) (unL sx)], (c - (ByteArray.size sx / 2))⟩)]⟩) : EvC Gl2Block cz46_n1 (Yc22 sx) Yc23 [2, 3] [0, 1] Z := EvC.of (by kernel_rfl) h
def vz46_10 (sx : ByteArray) : Prop := (((ByteArray.size sx <= 1000000) /\ unOk sx = true)) /\ (∀ (c : Nat), ((ByteArray.size sx / 2) <= c) -> (∀ v3l : Nat, v3l = (ByteArray.size sx / 2) -> ∀ h1 : List Int, h1 = (unL sx) -> ∀ x1 : Nat, x1 = (c - (ByteArray.size sx / 2)) -> vz46_9 sx v3l c h1 x1))
theorem pz46_10 (sx : ByteArray) (hK : (Yc14 Kf sx)) (h : vz46_10 sx) : SemL Try.prog w0 fp ρi 0 30 [cz46_n1, (.seq cz46_n2 (.seq (.seq cz46_n3 cz46_n10) (.seq cz46_n11 .ret)))] (Yc22 sx) Yc23 (fnK Rl2Block 0 Kf) :=
  L_regE hGl2Block (rz46_10 sx _ ⟨h.1, (fun c h_c_0 => (L_seq (pz46_9 sx hK (ByteArray.size sx / 2) c (unL sx) (c - (ByteArray.size sx / 2)) ((((h.2 c h_c_0) (ByteArray.size sx / 2) rfl) (unL sx) rfl) (c - (ByteArray.size sx / 2)) rfl))))⟩)
theorem rz46_11 (sx : ByteArray) (Z : Env -> Heap -> Prop) (h : Z (Yc22 sx) Yc23) : EvC Gl2Block cz46_n0 (Yc10 sx) Yc11 [0, 2] [0] Z := EvC.of (by kernel_rfl) h
def vz46_11 (sx : ByteArray) : Prop := vz46_10 sx
theorem pz46_11 (sx : ByteArray) (hK : (Yc14 Kf sx)) (h : vz46_11 sx) : SemL Try.prog w0 fp ρi 0 30 [cz46_n0, (.seq cz46_n1 (.seq cz46_n2 (.seq (.seq cz46_n3 cz46_n10) (.seq cz46_n11 .ret))))] (Yc10 sx) Yc11 (fnK Rl2Block 0 Kf) :=
  L_regE hGl2Block (rz46_11 sx _ (L_seq (pz46_10 sx hK h)))
def vcl2Block (sx : ByteArray) : Prop := vz46_11 sx
theorem wl2Block (sx : ByteArray) (hK : (Yc14 Kf sx)) (h : vcl2Block sx) : SemL Try.prog w0 fp ρi 0 30 [cl2Block] (Yc10 sx) Yc11 (fnK Rl2Block 0 Kf) :=
  (L_seq (pz46_11 sx hK h))
end
theorem okl2Block (sx : ByteArray) (hpre : ((ByteArray.size sx <= 1000000) /\ unOk sx = true)) : vcl2Block sx := by
  unfold vcl2Block vz46_11 vz46_10 vz46_9 vz46_8 vz46_7 vz46_6 vz46_5 vz46_4 vz46_3 vz46_2 vz46_1 vz46_0
  refine ⟨hpre, fun c hc => ?_⟩
  rintro n rfl h1 rfl x1 -
  have ul : (unL sx).length = sx.size / 2 := by unfold unL; simp
  refine ⟨⟨by omega, by omega, by rw [List.length_replicate], fun j hj => by rw [if_neg (by omega), List.getD_eq_getElem?_getD, List.getElem?_replicate, if_pos hj]; rfl⟩, ?_⟩
  rintro v6 h2 ⟨i0, i1, i2, i3⟩
  refine ⟨fun hlt => ?_, fun hge => ?_⟩
  · have hlt : v6 < (sx.size / 2 : Nat) /\ v6 < 16 := by simpa using hlt
    have w1 : IntKind.i64.wrap (v6 + 1) = v6 + 1 := by rw [wi64]; omega
    rw [w1, Nat.zero_add, Nat.mul_one, Nat.zero_add]
    refine ⟨i0, hlt.1, by omega, i0, hlt.2, by omega, by omega, ?_⟩
    rintro h21 rfl
    refine ⟨⟨by omega, by omega, by rw [List.length_set, i2], fun j hj => ?_⟩, by omega⟩
    rw [getD_setI (by omega)]
    by_cases hjv : j = v6.toNat
    · rw [if_pos hjv, if_pos (by omega), hjv]
    · rw [if_neg hjv, i3 j hj]
      by_cases hjl : (j : Int) < v6
      · rw [if_pos hjl, if_pos (by omega)]
      · rw [if_neg hjl, if_neg (by omega)]
  · have hge : ¬ (v6 < (sx.size / 2 : Nat) /\ v6 < 16) := fun h => by simp [h.1, h.2] at hge; omega
    refine range_ext i2 fun j hj => ?_
    rw [i3 j hj]
    by_cases hjl : (j : Int) < v6
    · rw [if_pos hjl]
    · rw [if_neg hjl, getD_out (by omega)]
theorem sl2Block : Sound Try.prog 46 (pureS Pl2Block) := by
  refine fn_soundA cl2Block_fits ?_
  intro args H K h
  obtain ⟨pre, v, hP, hpre, rfl, hK⟩ := pureS_inv h
  unfold Pl2Block at hP
  split at hP
  · cases hP
    exact ⟨rfl, fun w0 fp ρi => wl2Block _ hK (okl2Block _ hpre)⟩
  · cases hP
end Go.Proofs.Ytefmjmghkedciaa
