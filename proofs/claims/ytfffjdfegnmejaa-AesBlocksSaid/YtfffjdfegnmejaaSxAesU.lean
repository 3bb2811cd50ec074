/- Part of the proof: SxAesU. -/
import Derived.Test.YtfffjdfegnmejaaSxAesX
import Derived.Test.YtfffjdfegnmejaaSxAes3
import Derived.KernelRfl
set_option linter.unusedVariables false
set_option linter.unusedSimpArgs false
set_option maxRecDepth 20000
namespace Go.Proofs.Ytfffjdfegnmejaa
open Go.Sx
def Znw : ZfW := fun args H => match args, H with
  | [.str sx], ⟨0, []⟩ => some (((ByteArray.size sx <= 1000000) /\ ZoA sx = true), fun K => ∀ cap0 : Nat, (ByteArray.size sx / 2) <= cap0 -> K (.tuple [.slice ⟨0, 0, 0, 1⟩ (ByteArray.size sx / 2) cap0, .bool (decide (ByteArray.size sx % 2 = 0))]) ⟨1, [(0, some ⟨true, [.ints .u8 (ByteArray.size sx / 2) (unL sx)], (cap0 - (ByteArray.size sx / 2))⟩)]⟩)
  | _, _ => none
def Zth : Con := ⟨40, gS Znw, [], [], []⟩
def ZaZ (sx : ByteArray) (Kf : SVal -> Heap -> Prop) : Prop := ∀ cap0 : Nat, (ByteArray.size sx / 2) <= cap0 -> Kf (.tuple [.slice ⟨0, 0, 0, 1⟩ (ByteArray.size sx / 2) cap0, .bool (decide (ByteArray.size sx % 2 = 0))]) ⟨1, [(0, some ⟨true, [.ints .u8 (ByteArray.size sx / 2) (unL sx)], (cap0 - (ByteArray.size sx / 2))⟩)]⟩
def ZpK : ACode := .reg (.op (some 2) (.mov (.cn (.nilslice))) (.op (some 3) (.mov (.cn (.bool false))) .nil))
def Zmg : ACode := .reg (.op (some 8) (.bslice .u8 0 []) (.op (some 4) (.mov (.tm 8)) .nil))
def ZjX : ACode := .reg (.op (some 5) (.mov (.cn (.int .i64 0))) .nil)
def ZpJ : ACode := .reg (.op (some 9) (.mov (.tm 5)) (.op (some 10) (.bin .add (.tm 9) (.cn (.int .i64 1))) (.op (some 11) (.mov (.tm 0)) (.op (some 12) (.slen (.tm 11)) (.op (some 13) (.bin .lss (.tm 10) (.tm 12)) .nil)))))
def ZpI : ACode := .cond (.tm 13) .skip (.exit 0)
def Zmf : Items := .op (some 16) (.mov (.tm 0)) (.op (some 17) (.mov (.tm 5)) (.op (some 18) (.strIdx (.tm 16) (.tm 17)) (.op (some 19) (.call 50 [(.tm 18)]) (.op (some 20) (.mov (.tm 0)) (.op (some 21) (.mov (.tm 5)) (.op (some 22) (.bin .add (.tm 21) (.cn (.int .i64 1))) (.op (some 23) (.strIdx (.tm 20) (.tm 22)) (.op (some 24) (.call 50 [(.tm 23)]) (.op (some 6) (.mov (.tm 19)) (.op (some 7) (.mov (.tm 24)) .nil))))))))))
def ZxQ : ACode := .regQ Zmf
def Zme : ACode := .reg (.op (some 25) (.mov (.tm 6)) (.op (some 26) (.bin .lss (.tm 25) (.cn (.int .i64 0))) (.op (some 27) (.mov (.tm 26)) (.grpJ 27 false (.op (some 28) (.mov (.tm 7)) (.op (some 29) (.bin .lss (.tm 28) (.cn (.int .i64 0))) .nil)) 30 (.tm 29) (.cn (.bool true)) .nil))))
def ZpH : ACode := .reg (.op (some 2) (.mov (.cn (.nilslice))) (.op (some 3) (.mov (.cn (.bool false))) .nil))
def Zmd : ACode := .cond (.tm 30) (.seq ZpH .ret) .skip
def Zgi : ACode := .reg (.op (some 31) (.mov (.tm 4)) (.op (some 32) (.mov (.tm 6)) (.op (some 33) (.bin .mul (.cn (.int .i64 16)) (.tm 32)) (.op (some 34) (.mov (.tm 7)) (.op (some 35) (.bin .add (.tm 33) (.tm 34)) (.op (some 36) (.conv .u8 (.tm 35)) (.op (some 37) (.bslice .u8 1 [(0, (.tm 36))]) (.op (some 38) (.append .u8 (.tm 31) (.tm 37)) (.op (some 4) (.mov (.tm 38)) .nil)))))))))
def ZiN : ACode := .block 1 (.seq ZxQ (.seq (.seq Zme Zmd) Zgi))
def Zei : ACode := .reg (.op (some 14) (.mov (.tm 5)) (.op (some 15) (.bin .add (.tm 14) (.cn (.int .i64 2))) (.op (some 5) (.mov (.tm 15)) .nil)))
def Zso : ACode := .loop (.seq (.seq ZpJ ZpI) (.seq ZiN Zei))
def Zg1 : ACode := .block 0 Zso
def ZdA : ACode := .reg (.op (some 39) (.mov (.tm 4)) (.op (some 40) (.mov (.tm 0)) (.op (some 41) (.slen (.tm 40)) (.op (some 42) (.bin .rem (.tm 41) (.cn (.int .i64 2))) (.op (some 43) (.bin .eql (.tm 42) (.cn (.int .i64 0))) (.op (some 2) (.mov (.tm 39)) (.op (some 3) (.mov (.tm 43)) .nil)))))))
def ZsH : ACode := (.seq ZpK (.seq Zmg (.seq (.seq ZjX Zg1) (.seq ZdA .ret))))
def ZbE : Res := .many [.tm 2, .tm 3]
theorem Znb : Zbj Try.prog 40 1 44 ZsH ZbE = true := by kernel_rfl
def Zch : Zav := Zcl [ZuX] []
theorem ZbL : ZaK Try.prog Zch := ZaL ⟨ZyS, trivial⟩ trivial
section
variable {w0 : World} {fp : Nat -> Nat -> Prop} {ρi : Rho} {Kf : SVal -> Heap -> Prop}
def Zwz (w0 : World) (fp : Nat -> Nat -> Prop) (ρi : Rho) (Kf : SVal -> Heap -> Prop) (sx : ByteArray) : ZaY := Zax 0 (fun e H => SemL Try.prog w0 fp ρi 0 44 [(.seq ZdA .ret)] e H (fnK ZbE 0 Kf)) (fnK ZbE 0 Kf)
def Zw8 (sx : ByteArray) : Nat × Nat × Int × Nat × List Int × Nat -> Prop := fun s => match s with | (aa, ad, v5, ac, h0, x0) => ∃ k : Nat, k <= sx.size / 2 /\ v5 = 2 * k /\ aa = k /\ ac = k /\ h0 = (List.range k).map (ZEW sx) /\ aa + x0 = ad
def Zvg (sx : ByteArray) : Nat × Nat × Int × Nat × List Int × Nat -> Nat := fun s => match s with | (aa, ad, v5, ac, h0, x0) => (((sx.size : Int) - v5).toNat)
def Zv6 (sx : ByteArray) : Nat × Nat × Int × Nat × List Int × Nat -> Env := fun s => match s with | (aa, ad, v5, ac, h0, x0) => [(0, some (.str sx)), (4, some (.slice ⟨0, 0, 0, 1⟩ aa ad)), (5, some (.int .i64 v5))]
def ZvH (sx : ByteArray) : Nat × Nat × Int × Nat × List Int × Nat -> Heap := fun s => match s with | (aa, ad, v5, ac, h0, x0) => ⟨1, [(0, some ⟨true, [.ints .u8 ac h0], x0⟩)]⟩
def Zhz (w0 : World) (fp : Nat -> Nat -> Prop) (ρi : Rho) (Kf : SVal -> Heap -> Prop) (sx : ByteArray) (aa ad : Nat) (v5 : Int) (ac : Nat) (h0 : List Int) (x0 : Nat) : ZaY := Zb2 0 (Zw8 sx) (Zvg sx) (Zv6 sx) (ZvH sx) (aa, ad, v5, ac, h0, x0) (Zwz w0 fp ρi Kf sx)
def ZjD (w0 : World) (fp : Nat -> Nat -> Prop) (ρi : Rho) (Kf : SVal -> Heap -> Prop) (sx : ByteArray) (aa ad : Nat) (v5 : Int) (ac : Nat) (h0 : List Int) (x0 : Nat) : ZaY := Zax 1 (fun e H => SemL Try.prog w0 fp ρi 0 44 [Zei] e H (Zhz w0 fp ρi Kf sx aa ad v5 ac h0 x0)) (Zhz w0 fp ρi Kf sx aa ad v5 ac h0 x0)
abbrev Yh0 : Env := [(2, some (.nilslice)), (3, some (.bool false))]
theorem ZGi (sx : ByteArray) (aa ad : Nat) (v5 : Int) (ac : Nat) (h0 : List Int) (x0 : Nat) (Z : Env -> Heap -> Prop) (h : Z Yh0 ⟨1, []⟩) : EvC Zch ZpH [] ⟨1, []⟩ [2, 3] [] Z := EvC.of (by kernel_rfl) h
theorem ZBZ (sx : ByteArray) : RetC ZbE Yh0 ⟨1, []⟩ (.tuple [.nilslice, .bool false]) := RetC.of (fun Z => by kernel_rfl)
def Zt5 (sx : ByteArray) (aa ad : Nat) (v5 : Int) (ac : Nat) (h0 : List Int) (x0 : Nat) : Prop := (0 = (ByteArray.size sx / 2)) /\ (false = (decide (ByteArray.size sx % 2 = 0))) /\ (([] : List Int) = (unL sx)) /\ (0 = (ByteArray.size sx / 2)) /\ (0 = (0 - (ByteArray.size sx / 2))) /\ (((ByteArray.size sx / 2) : Nat) <= 0)
theorem ZIZ (sx : ByteArray) (hK : ZaZ sx Kf) (aa ad : Nat) (v5 : Int) (ac : Nat) (h0 : List Int) (x0 : Nat) (h : Zt5 sx aa ad v5 ac h0 x0) : SemL Try.prog w0 fp ρi 0 44 [ZpH, .ret, Zgi] [] ⟨1, []⟩ (ZjD w0 fp ρi Kf sx aa ad v5 ac h0 x0) :=
  Zad ZbL (ZGi sx aa ad v5 ac h0 x0 _ (Zbv (R := ZbE) (m := 0) (Kf := Kf) (fun _ _ h => h) (ZBZ sx) (ZHV (r2 := .tuple [.slice ⟨1, 0, 0, 1⟩ 0 0, .bool false]) (H2 := ⟨2, [(1, some ⟨true, [.ints .u8 0 ([] : List Int)], 0⟩)]⟩) [(some [.ints .u8 0 ([] : List Int)])] rfl (by kernel_rfl) (Eq.mpr (cg5 (fun (z1 : Nat) (z2 : Bool) (z3 : List Int) (z4 z5 : Nat) => Zkj 0 Kf (.tuple [.slice ⟨1, 0, 0, 1⟩ z1 0, .bool z2]) ⟨2, [(1, some ⟨true, [.ints .u8 z4 z3], z5⟩)]⟩) h.1 h.2.1 h.2.2.1 h.2.2.2.1 h.2.2.2.2.1) (Zbm [(0, 1)] [0] rfl (by kernel_rfl) rfl (Zhb (Zi0 bsl (Zi0 pbd Zkf))) (hsc pcs Zae) rfl (by kernel_rfl) (hK 0 h.2.2.2.2.2))))))
theorem ZGh (sx : ByteArray) (ae c : Nat) (v5 : Int) (h2 : List Int) (x2 aa ad ac : Nat) (h0 : List Int) (x0 : Nat) (Z : Env -> Heap -> Prop) (h : Z [(0, some (.str sx)), (4, some (.slice ⟨2, 0, 0, 1⟩ ae c)), (5, some (.int .i64 (IntKind.i64.wrap (v5 + 2))))] ⟨3, [(2, some ⟨true, [.ints .u8 ae h2], x2⟩)]⟩) : EvC Zch Zei [(0, some (.str sx)), (4, some (.slice ⟨2, 0, 0, 1⟩ ae c)), (5, some (.int .i64 v5))] ⟨3, [(2, some ⟨true, [.ints .u8 ae h2], x2⟩)]⟩ [0, 4, 5] [2] Z := EvC.of (by kernel_rfl) h
def Zt4 (sx : ByteArray) (ae c : Nat) (v5 : Int) (h2 : List Int) (x2 aa ad ac : Nat) (h0 : List Int) (x0 : Nat) : Prop := (∃ k : Nat, k <= sx.size / 2 /\ (IntKind.i64.wrap (v5 + 2)) = 2 * k /\ ae = k /\ ae = k /\ h2 = (List.range k).map (ZEW sx) /\ ae + x2 = c) /\ ((((sx.size : Int) - (IntKind.i64.wrap (v5 + 2))).toNat) < (((sx.size : Int) - v5).toNat))
theorem ZIY (sx : ByteArray) (hK : ZaZ sx Kf) (ae c : Nat) (v5 : Int) (h2 : List Int) (x2 aa ad ac : Nat) (h0 : List Int) (x0 : Nat) (h : Zt4 sx ae c v5 h2 x2 aa ad ac h0 x0) : SemL Try.prog w0 fp ρi 0 44 [Zei] [(0, some (.str sx)), (4, some (.slice ⟨2, 0, 0, 1⟩ ae c)), (5, some (.int .i64 v5))] ⟨3, [(2, some ⟨true, [.ints .u8 ae h2], x2⟩)]⟩ (Zhz w0 fp ρi Kf sx aa ad v5 ac h0 x0) :=
  Zad ZbL (ZGh sx ae c v5 h2 x2 aa ad ac h0 x0 _ (ZaO (Zay (x' := (ae, c, (IntKind.i64.wrap (v5 + 2)), ae, h2, x2)) (τ := tau [(0, 2)]) h.1 h.2 (Zao [(0, 2)] [0] rfl rfl (esc pbd (esc bsl (esc pbd Zak))) (hsc pcs Zae) (by kernel_rfl) rfl))))
abbrev Yh1 (x0 : ByteArray) (x1 x2 : Nat) (x3 x4 x5 : Int) : Env := [(0, some (.str x0)), (4, some (.slice ⟨0, 0, 0, 1⟩ x1 x2)), (5, some (.int .i64 x3)), (6, some (.int .i64 x4)), (7, some (.int .i64 x5))]
abbrev Yh2 (x0 : Nat) (x1 : List Int) (x2 : Nat) : Heap := ⟨1, [(0, some ⟨true, [.ints .u8 x0 x1], x2⟩)]⟩
theorem ZGg (sx : ByteArray) (aa ad : Nat) (v5 v6 v7 : Int) (ac : Nat) (h0 : List Int) (x0 : Nat) (Z : Env -> Heap -> Prop) (h : (((1 : Nat) <= 1)) /\ ((ac = aa)) /\ ((List.length h0 = aa)) /\ (((aa + x0) = ad)) /\ (((aa + 1) <= 17592186044416)) /\ ∀ (c : Nat), (aa + 1) <= c -> Z [(0, some (.str sx)), (4, some (.slice ⟨2, 0, 0, 1⟩ (aa + 1) c)), (5, some (.int .i64 v5))] ⟨3, [(2, some ⟨true, [.ints .u8 (aa + 1) (h0 ++ (List.take 1 [(IntKind.u8.wrap (IntKind.i64.wrap ((IntKind.i64.wrap (16 * v6)) + v7)))]))], (c - (aa + 1))⟩)]⟩) : EvC Zch Zgi (Yh1 sx aa ad v5 v6 v7) (Yh2 ac h0 x0) [0, 4, 5] [2] Z := EvC.of (by kernel_rfl) h
def Zt3 (sx : ByteArray) (aa ad : Nat) (v5 v6 v7 : Int) (ac : Nat) (h0 : List Int) (x0 : Nat) : Prop := ((ac = aa)) /\ (((List.length h0 = aa)) /\ ((((aa + x0) = ad)) /\ ((((aa + 1) <= 17592186044416)) /\ (∀ (c : Nat), ((aa + 1) <= c) -> (∀ ae : Nat, ae = (aa + 1) -> ∀ h2 : List Int, h2 = (h0 ++ (List.take 1 [(IntKind.u8.wrap (IntKind.i64.wrap ((IntKind.i64.wrap (16 * v6)) + v7)))])) -> ∀ x2 : Nat, x2 = (c - (aa + 1)) -> Zt4 sx ae c v5 h2 x2 aa ad ac h0 x0)))))
theorem ZIX (sx : ByteArray) (hK : ZaZ sx Kf) (aa ad : Nat) (v5 v6 v7 : Int) (ac : Nat) (h0 : List Int) (x0 : Nat) (h : Zt3 sx aa ad v5 v6 v7 ac h0 x0) : SemL Try.prog w0 fp ρi 0 44 [Zgi] (Yh1 sx aa ad v5 v6 v7) (Yh2 ac h0 x0) (ZjD w0 fp ρi Kf sx aa ad v5 ac h0 x0) :=
  Zad ZbL (ZGg sx aa ad v5 v6 v7 ac h0 x0 _ ⟨(by decide), ⟨h.1, ⟨h.2.1, ⟨h.2.2.1, ⟨h.2.2.2.1, (fun c h_c_0 => (ZaO (ZIY sx hK (aa + 1) c v5 (h0 ++ (List.take 1 [(IntKind.u8.wrap (IntKind.i64.wrap ((IntKind.i64.wrap (16 * v6)) + v7)))])) (c - (aa + 1)) aa ad ac h0 x0 ((((h.2.2.2.2 c h_c_0) (aa + 1) rfl) (h0 ++ (List.take 1 [(IntKind.u8.wrap (IntKind.i64.wrap ((IntKind.i64.wrap (16 * v6)) + v7)))])) rfl) (c - (aa + 1)) rfl))))⟩⟩⟩⟩⟩)
def Zro (sx : ByteArray) (aa ad : Nat) (v5 v6 v7 : Int) (ac : Nat) (h0 : List Int) (x0 : Nat) : Prop := (((decide (v6 < 0)) || (decide (v7 < 0))) = true -> (Zt5 sx aa ad v5 ac h0 x0)) /\ (((decide (v6 < 0)) || (decide (v7 < 0))) = false -> (Zt3 sx aa ad v5 v6 v7 ac h0 x0))
theorem ZIW (sx : ByteArray) (hK : ZaZ sx Kf) (aa ad : Nat) (v5 v6 v7 : Int) (ac : Nat) (h0 : List Int) (x0 : Nat) (h : Zro sx aa ad v5 v6 v7 ac h0 x0) : SemL Try.prog w0 fp ρi 0 44 [Zmd, Zgi] [(0, some (.str sx)), (4, some (.slice ⟨0, 0, 0, 1⟩ aa ad)), (5, some (.int .i64 v5)), (6, some (.int .i64 v6)), (7, some (.int .i64 v7)), (30, some (.bool ((decide (v6 < 0)) || (decide (v7 < 0)))))] (Yh2 ac h0 x0) (ZjD w0 fp ρi Kf sx aa ad v5 ac h0 x0) :=
  ZaJ (q := ((decide (v6 < 0)) || (decide (v7 < 0)))) (by kernel_rfl) (fun hq => (Zah (lpk [] [] (ZIZ sx hK aa ad v5 ac h0 x0 (h.1 hq))))) (fun hq => (ZaI (lpk [0, 4, 5, 6, 7] [0] (ZIX sx hK aa ad v5 v6 v7 ac h0 x0 (h.2 hq)))))
theorem ZGf (sx : ByteArray) (aa ad : Nat) (v5 v6 v7 : Int) (ac : Nat) (h0 : List Int) (x0 : Nat) (Z : Env -> Heap -> Prop) (h : ∃ qq : Bool, ((decide (v6 < 0)) = false -> (Zby (Yh2 ac h0 x0) (Yh2 ac h0 x0) [(0, some ⟨true, [.ints .u8 ac h0], x0⟩)]) /\ (decide (v7 < 0)) = qq) /\ ((decide (v6 < 0)) = true -> true = qq) /\ Z [(0, some (.str sx)), (4, some (.slice ⟨0, 0, 0, 1⟩ aa ad)), (5, some (.int .i64 v5)), (6, some (.int .i64 v6)), (7, some (.int .i64 v7)), (30, some (.bool qq))] (Yh2 ac h0 x0)) : EvC Zch Zme (Yh1 sx aa ad v5 v6 v7) (Yh2 ac h0 x0) [0, 4, 5, 6, 7, 30] [0] Z := EvC.of (by kernel_rfl) h
theorem ZIV (sx : ByteArray) (hK : ZaZ sx Kf) (aa ad : Nat) (v5 v6 v7 : Int) (ac : Nat) (h0 : List Int) (x0 : Nat) (h : Zro sx aa ad v5 v6 v7 ac h0 x0) : SemL Try.prog w0 fp ρi 0 44 [Zme, Zmd, Zgi] (Yh1 sx aa ad v5 v6 v7) (Yh2 ac h0 x0) (ZjD w0 fp ρi Kf sx aa ad v5 ac h0 x0) :=
  Zad ZbL (ZGf sx aa ad v5 v6 v7 ac h0 x0 _ ⟨((decide (v6 < 0)) || (decide (v7 < 0))), fun hc_qq => ⟨(ZbZ _), (qo1 hc_qq)⟩, fun hc_qq => qo2 hc_qq, (ZIW sx hK aa ad v5 v6 v7 ac h0 x0 h)⟩)
abbrev Yh3 (x0 : ByteArray) (x1 x2 : Nat) (x3 : Int) : Env := [(0, some (.str x0)), (4, some (.slice ⟨0, 0, 0, 1⟩ x1 x2)), (5, some (.int .i64 x3))]
theorem ZGe (sx : ByteArray) (aa ad : Nat) (v5 : Int) (ac : Nat) (h0 : List Int) (x0 : Nat) (Z : Env -> Heap -> Prop) (h : ((0 <= v5)) /\ ((v5 < ((ByteArray.size sx : Nat) : Int))) /\ ((SVal.bd 1 (.int .i64 (ZfF ((((ByteArray.data sx).toList.getD (Int.toNat v5) 0).toNat : Nat) : Int))))) /\ ((0 <= ((((ByteArray.data sx).toList.getD (Int.toNat v5) 0).toNat : Nat) : Int) /\ ((((ByteArray.data sx).toList.getD (Int.toNat v5) 0).toNat : Nat) : Int) < 256) /\ ((.int .i64 (ZfF ((((ByteArray.data sx).toList.getD (Int.toNat v5) 0).toNat : Nat) : Int)) : SVal) = .int .i64 (ZfF ((((ByteArray.data sx).toList.getD (Int.toNat v5) 0).toNat : Nat) : Int))) /\ (Zby (Yh2 ac h0 x0) (Yh2 ac h0 x0) [(0, some ⟨true, [.ints .u8 ac h0], x0⟩)])) /\ ((0 <= (IntKind.i64.wrap (v5 + 1)))) /\ (((IntKind.i64.wrap (v5 + 1)) < ((ByteArray.size sx : Nat) : Int))) /\ ((SVal.bd 1 (.int .i64 (ZfF ((((ByteArray.data sx).toList.getD (Int.toNat (IntKind.i64.wrap (v5 + 1))) 0).toNat : Nat) : Int))))) /\ ((0 <= ((((ByteArray.data sx).toList.getD (Int.toNat (IntKind.i64.wrap (v5 + 1))) 0).toNat : Nat) : Int) /\ ((((ByteArray.data sx).toList.getD (Int.toNat (IntKind.i64.wrap (v5 + 1))) 0).toNat : Nat) : Int) < 256) /\ ((.int .i64 (ZfF ((((ByteArray.data sx).toList.getD (Int.toNat (IntKind.i64.wrap (v5 + 1))) 0).toNat : Nat) : Int)) : SVal) = .int .i64 (ZfF ((((ByteArray.data sx).toList.getD (Int.toNat (IntKind.i64.wrap (v5 + 1))) 0).toNat : Nat) : Int))) /\ (Zby (Yh2 ac h0 x0) (Yh2 ac h0 x0) [(0, some ⟨true, [.ints .u8 ac h0], x0⟩)])) /\ Z [(0, some (.str sx)), (4, some (.slice ⟨0, 0, 0, 1⟩ aa ad)), (5, some (.int .i64 v5)), (6, some (.int .i64 (ZfF ((((ByteArray.data sx).toList.getD (Int.toNat v5) 0).toNat : Nat) : Int)))), (7, some (.int .i64 (ZfF ((((ByteArray.data sx).toList.getD (Int.toNat (IntKind.i64.wrap (v5 + 1))) 0).toNat : Nat) : Int))))] (Yh2 ac h0 x0)) : EvQC Zch Zmf [.int .i64 (ZfF ((((ByteArray.data sx).toList.getD (Int.toNat v5) 0).toNat : Nat) : Int)), .int .i64 (ZfF ((((ByteArray.data sx).toList.getD (Int.toNat (IntKind.i64.wrap (v5 + 1))) 0).toNat : Nat) : Int))] (Yh3 sx aa ad v5) (Yh2 ac h0 x0) [0, 4, 5, 6, 7] [0] Z := EvQC.of (by kernel_rfl) h
def Zrn (sx : ByteArray) (aa ad : Nat) (v5 : Int) (ac : Nat) (h0 : List Int) (x0 : Nat) : Prop := ((0 <= v5)) /\ (((v5 < ((ByteArray.size sx : Nat) : Int))) /\ (((0 <= ((((ByteArray.data sx).toList.getD (Int.toNat v5) 0).toNat : Nat) : Int) /\ ((((ByteArray.data sx).toList.getD (Int.toNat v5) 0).toNat : Nat) : Int) < 256)) /\ (((0 <= (IntKind.i64.wrap (v5 + 1)))) /\ ((((IntKind.i64.wrap (v5 + 1)) < ((ByteArray.size sx : Nat) : Int))) /\ (((0 <= ((((ByteArray.data sx).toList.getD (Int.toNat (IntKind.i64.wrap (v5 + 1))) 0).toNat : Nat) : Int) /\ ((((ByteArray.data sx).toList.getD (Int.toNat (IntKind.i64.wrap (v5 + 1))) 0).toNat : Nat) : Int) < 256)) /\ (∀ v6 : Int, v6 = (ZfF ((((ByteArray.data sx).toList.getD (Int.toNat v5) 0).toNat : Nat) : Int)) -> ∀ v7 : Int, v7 = (ZfF ((((ByteArray.data sx).toList.getD (Int.toNat (IntKind.i64.wrap (v5 + 1))) 0).toNat : Nat) : Int)) -> Zro sx aa ad v5 v6 v7 ac h0 x0))))))
theorem ZIU (sx : ByteArray) (hK : ZaZ sx Kf) (aa ad : Nat) (v5 : Int) (ac : Nat) (h0 : List Int) (x0 : Nat) (h : Zrn sx aa ad v5 ac h0 x0) : SemL Try.prog w0 fp ρi 0 44 [ZxQ, (.seq (.seq Zme Zmd) Zgi)] (Yh3 sx aa ad v5) (Yh2 ac h0 x0) (ZjD w0 fp ρi Kf sx aa ad v5 ac h0 x0) :=
  Zkl ZbL (its := Zmf) (ZGe sx aa ad v5 ac h0 x0 _ ⟨h.1, ⟨h.2.1, ⟨(ZcV (τ := ZcY) (by kernel_rfl)).2, ⟨⟨h.2.2.1, rfl, (ZbZ _)⟩, ⟨h.2.2.2.1, ⟨h.2.2.2.2.1, ⟨(ZcV (τ := ZcY) (by kernel_rfl)).2, ⟨⟨h.2.2.2.2.2.1, rfl, (ZbZ _)⟩, (Zah (Zah (ZIV sx hK aa ad v5 (ZfF ((((ByteArray.data sx).toList.getD (Int.toNat v5) 0).toNat : Nat) : Int)) (ZfF ((((ByteArray.data sx).toList.getD (Int.toNat (IntKind.i64.wrap (v5 + 1))) 0).toNat : Nat) : Int)) ac h0 x0 ((h.2.2.2.2.2.2 (ZfF ((((ByteArray.data sx).toList.getD (Int.toNat v5) 0).toNat : Nat) : Int)) rfl) (ZfF ((((ByteArray.data sx).toList.getD (Int.toNat (IntKind.i64.wrap (v5 + 1))) 0).toNat : Nat) : Int)) rfl))))⟩⟩⟩⟩⟩⟩⟩⟩)
theorem ZIT (sx : ByteArray) (hK : ZaZ sx Kf) (aa ad : Nat) (v5 : Int) (ac : Nat) (h0 : List Int) (x0 : Nat) (h : Zrn sx aa ad v5 ac h0 x0) : SemL Try.prog w0 fp ρi 0 44 [ZiN, Zei] (Yh3 sx aa ad v5) (Yh2 ac h0 x0) (Zhz w0 fp ρi Kf sx aa ad v5 ac h0 x0) :=
  Zat (Zah (ZIU sx hK aa ad v5 ac h0 x0 h))
abbrev Yh4 (x0 x1 : Nat) (x2 : ByteArray) : Env := [(2, some (.slice ⟨0, 0, 0, 1⟩ x0 x1)), (3, some (.bool ((Int.tmod ((ByteArray.size x2 : Nat) : Int) 2) == 0)))]
theorem ZGd (sx : ByteArray) (aa ad ac : Nat) (h0 : List Int) (x0 : Nat) (Z : Env -> Heap -> Prop) (h : (((2 : Int) ≠ 0)) /\ Z (Yh4 aa ad sx) (Yh2 ac h0 x0)) : EvC Zch ZdA [(0, some (.str sx)), (4, some (.slice ⟨0, 0, 0, 1⟩ aa ad))] (Yh2 ac h0 x0) [2, 3] [0] Z := EvC.of (by kernel_rfl) h
theorem ZBY (sx : ByteArray) (aa ad ac : Nat) (h0 : List Int) (x0 : Nat) : RetC ZbE (Yh4 aa ad sx) (Yh2 ac h0 x0) (.tuple [.slice ⟨0, 0, 0, 1⟩ aa ad, .bool ((Int.tmod ((ByteArray.size sx : Nat) : Int) 2) == 0)]) := RetC.of (fun Z => by kernel_rfl)
def Zt2 (sx : ByteArray) (aa ad ac : Nat) (h0 : List Int) (x0 : Nat) : Prop := (aa = (ByteArray.size sx / 2)) /\ (((Int.tmod ((ByteArray.size sx : Nat) : Int) 2) == 0) = (decide (ByteArray.size sx % 2 = 0))) /\ (h0 = (unL sx)) /\ (ac = (ByteArray.size sx / 2)) /\ (x0 = (ad - (ByteArray.size sx / 2))) /\ (((ByteArray.size sx / 2) : Nat) <= ad)
theorem ZIS (sx : ByteArray) (hK : ZaZ sx Kf) (aa ad ac : Nat) (h0 : List Int) (x0 : Nat) (h : Zt2 sx aa ad ac h0 x0) : SemL Try.prog w0 fp ρi 0 44 [ZdA, .ret] [(0, some (.str sx)), (4, some (.slice ⟨0, 0, 0, 1⟩ aa ad))] (Yh2 ac h0 x0) (fnK ZbE 0 Kf) :=
  Zad ZbL (ZGd sx aa ad ac h0 x0 _ ⟨(by decide), (Zbv (R := ZbE) (m := 0) (Kf := Kf) (fun _ _ h => h) (ZBY sx aa ad ac h0 x0) (Zb4 (Eq.mpr (cg5 (fun (z1 : Nat) (z2 : Bool) (z3 : List Int) (z4 z5 : Nat) => Zkj 0 Kf (.tuple [.slice ⟨0, 0, 0, 1⟩ z1 ad, .bool z2]) (Yh2 z4 z3 z5)) h.1 h.2.1 h.2.2.1 h.2.2.2.1 h.2.2.2.2.1) (Zbm [] [0] rfl (by kernel_rfl) rfl (Zhb (Zi0 bsl (Zi0 pbd Zkf))) (hsc pcs Zae) rfl (by kernel_rfl) (hK ad h.2.2.2.2.2)))))⟩)
def Zrm (sx : ByteArray) (aa ad : Nat) (v5 : Int) (ac : Nat) (h0 : List Int) (x0 : Nat) : Prop := ((decide ((IntKind.i64.wrap (v5 + 1)) < ((ByteArray.size sx : Nat) : Int))) = true -> (Zrn sx aa ad v5 ac h0 x0)) /\ ((decide ((IntKind.i64.wrap (v5 + 1)) < ((ByteArray.size sx : Nat) : Int))) = false -> (Zt2 sx aa ad ac h0 x0))
abbrev Yh5 (x0 : ByteArray) (x1 x2 : Nat) (x3 : Int) : Env := [(0, some (.str x0)), (4, some (.slice ⟨0, 0, 0, 1⟩ x1 x2)), (5, some (.int .i64 x3)), (13, some (.bool (decide ((IntKind.i64.wrap (x3 + 1)) < ((ByteArray.size x0 : Nat) : Int)))))]
theorem ZIR (sx : ByteArray) (hK : ZaZ sx Kf) (aa ad : Nat) (v5 : Int) (ac : Nat) (h0 : List Int) (x0 : Nat) (h : Zrm sx aa ad v5 ac h0 x0) : SemL Try.prog w0 fp ρi 0 44 [ZpI, (.seq ZiN Zei)] (Yh5 sx aa ad v5) (Yh2 ac h0 x0) (Zhz w0 fp ρi Kf sx aa ad v5 ac h0 x0) :=
  ZaJ (q := (decide ((IntKind.i64.wrap (v5 + 1)) < ((ByteArray.size sx : Nat) : Int)))) (by kernel_rfl) (fun hq => (ZaI (lpk [0, 4, 5] [0] (Zah (ZIT sx hK aa ad v5 ac h0 x0 (h.1 hq)))))) (fun hq => (Zbb (lpk [0, 4] [0] (Zah (ZIS sx hK aa ad ac h0 x0 (h.2 hq))))))
theorem ZGc (sx : ByteArray) (aa ad : Nat) (v5 : Int) (ac : Nat) (h0 : List Int) (x0 : Nat) (Z : Env -> Heap -> Prop) (h : Z (Yh5 sx aa ad v5) (Yh2 ac h0 x0)) : EvC Zch ZpJ (Yh3 sx aa ad v5) (Yh2 ac h0 x0) [0, 4, 5, 13] [0] Z := EvC.of (by kernel_rfl) h
theorem ZIQ (sx : ByteArray) (hK : ZaZ sx Kf) (aa ad : Nat) (v5 : Int) (ac : Nat) (h0 : List Int) (x0 : Nat) (h : Zrm sx aa ad v5 ac h0 x0) : SemL Try.prog w0 fp ρi 0 44 [ZpJ, ZpI, (.seq ZiN Zei)] (Yh3 sx aa ad v5) (Yh2 ac h0 x0) (Zhz w0 fp ρi Kf sx aa ad v5 ac h0 x0) :=
  Zad ZbL (ZGc sx aa ad v5 ac h0 x0 _ (ZIR sx hK aa ad v5 ac h0 x0 h))
def ZeS (sx : ByteArray) : Prop := (∃ k : Nat, k <= sx.size / 2 /\ (0 : Int) = 2 * k /\ (0 : Nat) = k /\ (0 : Nat) = k /\ ([] : List Int) = (List.range k).map (ZEW sx) /\ (0 : Nat) + (0 : Nat) = (0 : Nat)) /\ (∀ (aa ad : Nat) (v5 : Int) (ac : Nat) (h0 : List Int) (x0 : Nat), (∃ k : Nat, k <= sx.size / 2 /\ v5 = 2 * k /\ aa = k /\ ac = k /\ h0 = (List.range k).map (ZEW sx) /\ aa + x0 = ad) -> (Zrm sx aa ad v5 ac h0 x0))
abbrev Yh6 (x0 : ByteArray) : Env := [(0, some (.str x0)), (4, some (.slice ⟨0, 0, 0, 1⟩ 0 0)), (5, some (.int .i64 0))]
abbrev Yh7 : Heap := ⟨1, [(0, some ⟨true, [.ints .u8 0 ([] : List Int)], 0⟩)]⟩
theorem ZCU (sx : ByteArray) (hK : ZaZ sx Kf) (h : ZeS sx) : SemL Try.prog w0 fp ρi 0 44 [Zso] (Yh6 sx) Yh7 (Zwz w0 fp ρi Kf sx) :=
  Zbd (Zw8 sx) (Zvg sx) (Zv6 sx) (ZvH sx) ⟨(0, 0, 0, 0, ([] : List Int), 0), tau [], h.1, (Zao [] [0] rfl rfl (esc pbd (esc bsl (esc pbd Zak))) (hsc pcs Zae) (by kernel_rfl) rfl)⟩ (fun s => match s with | (aa, ad, v5, ac, h0, x0) => fun hi => (Zah (Zah (ZIQ sx hK aa ad v5 ac h0 x0 (h.2 aa ad v5 ac h0 x0 hi)))))
theorem ZCT (sx : ByteArray) (hK : ZaZ sx Kf) (h : ZeS sx) : SemL Try.prog w0 fp ρi 0 44 [Zg1, (.seq ZdA .ret)] (Yh6 sx) Yh7 (fnK ZbE 0 Kf) :=
  Zat (ZCU sx hK h)
abbrev Yh8 (x0 : ByteArray) : Env := [(0, some (.str x0)), (4, some (.slice ⟨0, 0, 0, 1⟩ 0 0))]
theorem ZA3 (sx : ByteArray) (Z : Env -> Heap -> Prop) (h : Z (Yh6 sx) Yh7) : EvC Zch ZjX (Yh8 sx) Yh7 [0, 4, 5] [0] Z := EvC.of (by kernel_rfl) h
theorem ZCS (sx : ByteArray) (hK : ZaZ sx Kf) (h : ZeS sx) : SemL Try.prog w0 fp ρi 0 44 [ZjX, Zg1, (.seq ZdA .ret)] (Yh8 sx) Yh7 (fnK ZbE 0 Kf) :=
  Zad ZbL (ZA3 sx _ (ZCT sx hK h))
abbrev Yh9 (x0 : ByteArray) : Env := [(0, some (.str x0))]
abbrev ZzE : Heap := ⟨0, []⟩
theorem ZA2 (sx : ByteArray) (Z : Env -> Heap -> Prop) (h : Z (Yh8 sx) Yh7) : EvC Zch Zmg (Yh9 sx) ZzE [0, 4] [0] Z := EvC.of (by kernel_rfl) h
theorem ZCR (sx : ByteArray) (hK : ZaZ sx Kf) (h : ZeS sx) : SemL Try.prog w0 fp ρi 0 44 [Zmg, (.seq (.seq ZjX Zg1) (.seq ZdA .ret))] (Yh9 sx) ZzE (fnK ZbE 0 Kf) :=
  Zad ZbL (ZA2 sx _ (Zah (Zah (ZCS sx hK h))))
theorem ZA1 (sx : ByteArray) (Z : Env -> Heap -> Prop) (h : Z (Yh9 sx) ZzE) : EvC Zch ZpK (Yh9 sx) ZzE [0] [] Z := EvC.of (by kernel_rfl) h
theorem ZCQ (sx : ByteArray) (hK : ZaZ sx Kf) (h : ZeS sx) : SemL Try.prog w0 fp ρi 0 44 [ZpK, (.seq Zmg (.seq (.seq ZjX Zg1) (.seq ZdA .ret)))] (Yh9 sx) ZzE (fnK ZbE 0 Kf) :=
  Zad ZbL (ZA1 sx _ (Zah (ZCR sx hK h)))
theorem ZyB (sx : ByteArray) (hK : ZaZ sx Kf) (h : ZeS sx) : SemL Try.prog w0 fp ρi 0 44 [ZsH] (Yh9 sx) ZzE (fnK ZbE 0 Kf) :=
  (Zah (ZCQ sx hK h))
end
theorem Zu4 (sx : ByteArray) (hpre : ((ByteArray.size sx <= 1000000) /\ ZoA sx = true)) : ZeS sx := by
  unfold ZeS Zrm Zt2 Zrn Zro Zt3 Zt4 Zt5
  obtain ⟨h1, h2⟩ := hpre
  refine ⟨⟨0, by omega, rfl, rfl, rfl, rfl, rfl⟩, ?_⟩
  rintro l c v5 n h0 x0 ⟨k, hk, rfl, rfl, rfl, rfl, i5⟩
  have w1 : IntKind.i64.wrap (2 * (n : Int) + 1) = 2 * n + 1 := by rw [ZdQ]; omega
  have w2 : IntKind.i64.wrap (2 * (n : Int) + 2) = 2 * n + 2 := by rw [ZdQ]; omega
  rw [w1, w2]
  refine ⟨fun hlt => ?_, fun hge => ?_⟩
  · have hlt := of_decide_eq_true hlt
    have e1 : (2 * (n : Int)).toNat = 2 * n := by omega
    have e2 : (2 * (n : Int) + 1).toNat = 2 * n + 1 := by omega
    have ok := Zll (k := n + 1) (n := sx.size / 2 - (n + 1)) (by rw [show n + 1 + (sx.size / 2 - (n + 1)) = sx.size / 2 by omega]; exact h2)
    rw [Zhn, Bool.and_eq_true, Bool.and_eq_true, decide_eq_true_eq, decide_eq_true_eq] at ok
    obtain ⟨_, d1, d2⟩ := ok
    have r1 := ZiH (sB sx (2 * n))
    have r2 := ZiH (sB sx (2 * n + 1))
    have s1 := ZuL sx (2 * n)
    have s2 := ZuL sx (2 * n + 1)
    rw [e1, e2]
    refine ⟨by omega, by omega, s1, by omega, hlt, s2, ?_⟩
    rintro v6 e6 v7 e7
    have e6 : v6 = ZfF (sB sx (2 * n)) := e6
    have e7 : v7 = ZfF (sB sx (2 * n + 1)) := e7
    refine ⟨fun h => ?_, fun h => ?_⟩
    · simp only [Bool.or_eq_true, decide_eq_true_eq] at h
      omega
    · refine ⟨rfl, by simp, i5, by omega, fun c2 hc2 => ?_⟩
      rintro l2 rfl h3 rfl x2 rfl
      have w3 : IntKind.i64.wrap (16 * v6) = 16 * v6 := by rw [ZdQ]; omega
      have w4 : IntKind.i64.wrap (16 * v6 + v7) = 16 * v6 + v7 := by rw [ZdQ]; omega
      have w5 : IntKind.u8.wrap (16 * v6 + v7) = 16 * v6 + v7 := by rw [wrap_u8]; omega
      rw [w3, w4, w5]
      refine ⟨⟨n + 1, by omega, by omega, rfl, rfl, ?_, by omega⟩, by omega⟩
      rw [List.range_succ, List.map_append, e6, e7]
      rfl
  · have hge := of_decide_eq_false hge
    have e : n = sx.size / 2 := by omega
    subst e
    refine ⟨rfl, ?_, rfl, rfl, by omega, by omega⟩
    rw [Int.tmod_eq_emod_of_nonneg (by omega), Bool.eq_iff_iff, beq_iff_eq, decide_eq_true_eq]
    omega
theorem ZyR : Sound Try.prog 40 (gS Znw) := by
  refine ZaC Znb ?_
  intro args H K h
  obtain ⟨pre, out, hD, hpre, hK⟩ := Zdv h
  unfold Znw at hD
  split at hD
  · cases hD
    exact ⟨rfl, fun w0 fp ρi => ZyB _ hK (Zu4 _ hpre)⟩
  · cases hD
def Znr : Zgt := fun args => match args with
  | [.str sx] => some (((ByteArray.size sx <= 1000000) /\ ZoA sx = true), .agg [.ints .u8 16 (ZfL sx)])
  | _ => none
def ZuY : PCon := ⟨22, Znr⟩
def ZqH : ACode := .reg (.op (some 2) (.alloc [.ints .u8 16 (List.replicate 16 0)]) .nil)
def ZmX : ACode := .reg (.op (some 8) (.mov (.tm 0)) (.op (some 9) (.call 40 [(.tm 8)]) (.op (some 7) (.mov (.tm 9)) (.op (some 10) (.extract (.tm 7) 0) (.op (some 11) (.extract (.tm 7) 1) (.op (some 3) (.mov (.tm 10)) (.op (some 4) (.mov (.tm 11)) .nil)))))))
def Zkb : ACode := .reg (.op (some 12) (.build [.ints .u8 16 (List.replicate 16 0)] []) (.op (some 5) (.alloc [.ints .u8 16 (List.replicate 16 0)]) (.op none (.storeA 16 (.tm 5) (.tm 12)) .nil)))
def Zh2 : ACode := .reg (.op (some 6) (.mov (.cn (.int .i64 0))) .nil)
def ZqG : ACode := .reg (.op (some 13) (.mov (.tm 6)) (.op (some 14) (.mov (.tm 3)) (.op (some 15) (.len (.tm 14)) (.op (some 16) (.bin .lss (.tm 13) (.tm 15)) (.op (some 17) (.mov (.tm 16)) (.grpJ 17 true (.op (some 18) (.mov (.tm 6)) (.op (some 19) (.bin .lss (.tm 18) (.cn (.int .i64 16))) .nil)) 20 (.tm 19) (.cn (.bool false)) .nil))))))
def ZqF : ACode := .cond (.tm 20) .skip (.exit 0)
def ZqE : ACode := .reg (.op (some 23) (.mov (.tm 6)) (.op (some 24) (.mov (.tm 3)) (.op (some 25) (.mov (.tm 6)) (.op (some 26) (.idxS (.tm 24) (.tm 25) 1) (.op (some 27) (.load1 (.tm 26)) (.op (some 28) (.idxA (.tm 5) (.tm 23) 16 1) (.op none (.store1 (.tm 28) (.tm 27)) .nil)))))))
def ZmW : ACode := .block 1 ZqE
def Zgq : ACode := .reg (.op (some 21) (.mov (.tm 6)) (.op (some 22) (.bin .add (.tm 21) (.cn (.int .i64 1))) (.op (some 6) (.mov (.tm 22)) .nil)))
def Zx4 : ACode := .loop (.seq (.seq ZqG ZqF) (.seq ZmW Zgq))
def ZfI : ACode := .block 0 Zx4
def ZcK : ACode := .reg (.op (some 29) (.loadA 16 (.tm 5)) (.op none (.storeA 16 (.tm 2) (.tm 29)) .nil))
def ZsJ : ACode := (.seq ZqH (.seq ZmX (.seq Zkb (.seq (.seq Zh2 ZfI) (.seq ZcK .ret)))))
def ZbT : Res := .one (.cA 2 16)
theorem Znd : Zbj Try.prog 22 1 30 ZsJ ZbT = true := by kernel_rfl
def ZcP : Zav := Zcl [] [Zth]
theorem Zcu : ZaK Try.prog ZcP := ZaL trivial ⟨ZyR, trivial⟩
section
variable {w0 : World} {fp : Nat -> Nat -> Prop} {ρi : Rho} {Kf : SVal -> Heap -> Prop}
def ZwT (w0 : World) (fp : Nat -> Nat -> Prop) (ρi : Rho) (Kf : SVal -> Heap -> Prop) (sx : ByteArray) : ZaY := Zax 0 (fun e H => SemL Try.prog w0 fp ρi 0 30 [(.seq ZcK .ret)] e H (fnK ZbT 0 Kf)) (fnK ZbT 0 Kf)
def Zxn (sx : ByteArray) (ab c : Nat) (h1 : List Int) (x1 : Nat) : Int × List Int -> Prop := fun s => match s with | (v6, h2) => 0 <= v6 /\ v6 <= 16 /\ h2.length = 16 /\ ∀ j : Nat, j < 16 -> h2.getD j 0 = if (j : Int) < v6 then (unL sx).getD j 0 else 0
def Zvv (sx : ByteArray) (ab c : Nat) (h1 : List Int) (x1 : Nat) : Int × List Int -> Nat := fun s => match s with | (v6, h2) => ((16 - v6).toNat)
def Zwl (sx : ByteArray) (ab c : Nat) (h1 : List Int) (x1 : Nat) : Int × List Int -> Env := fun s => match s with | (v6, h2) => [(2, some (.ptr ⟨0, 0, 0, 1⟩ 16)), (3, some (.slice ⟨1, 0, 0, 1⟩ ab c)), (5, some (.ptr ⟨2, 0, 0, 1⟩ 16)), (6, some (.int .i64 v6))]
def ZvW (sx : ByteArray) (ab c : Nat) (h1 : List Int) (x1 : Nat) : Int × List Int -> Heap := fun s => match s with | (v6, h2) => ⟨3, [(0, some ⟨true, [.ints .u8 16 (List.replicate 16 0)], 0⟩), (1, some ⟨true, [.ints .u8 ab h1], x1⟩), (2, some ⟨true, [.ints .u8 16 h2], 0⟩)]⟩
def ZhP (w0 : World) (fp : Nat -> Nat -> Prop) (ρi : Rho) (Kf : SVal -> Heap -> Prop) (sx : ByteArray) (ab c : Nat) (h1 : List Int) (x1 : Nat) (v6 : Int) (h2 : List Int) : ZaY := Zb2 0 (Zxn sx ab c h1 x1) (Zvv sx ab c h1 x1) (Zwl sx ab c h1 x1) (ZvW sx ab c h1 x1) (v6, h2) (ZwT w0 fp ρi Kf sx)
abbrev Ztx (x0 : Nat) (x1 : List Int) (x2 : Nat) (x3 : List Int) : Heap := ⟨3, [(0, some ⟨true, [.ints .u8 16 (List.replicate 16 0)], 0⟩), (1, some ⟨true, [.ints .u8 x0 x1], x2⟩), (2, some ⟨true, [.ints .u8 16 x3], 0⟩)]⟩
abbrev ZAk (x0 x1 : Nat) (x2 : Int) : Env := [(2, some (.ptr ⟨0, 0, 0, 1⟩ 16)), (3, some (.slice ⟨1, 0, 0, 1⟩ x0 x1)), (5, some (.ptr ⟨2, 0, 0, 1⟩ 16)), (6, some (.int .i64 x2))]
theorem ZHz (sx : ByteArray) (ab c : Nat) (v6 : Int) (h1 : List Int) (x1 : Nat) (af h2 : List Int) (Z : Env -> Heap -> Prop) (h : Z [(2, some (.ptr ⟨0, 0, 0, 1⟩ 16)), (3, some (.slice ⟨1, 0, 0, 1⟩ ab c)), (5, some (.ptr ⟨2, 0, 0, 1⟩ 16)), (6, some (.int .i64 (IntKind.i64.wrap (v6 + 1))))] (Ztx ab h1 x1 af)) : EvC ZcP Zgq (ZAk ab c v6) (Ztx ab h1 x1 af) [2, 3, 5, 6] [0, 1, 2] Z := EvC.of (by kernel_rfl) h
def Zux (sx : ByteArray) (ab c : Nat) (v6 : Int) (h1 : List Int) (x1 : Nat) (af h2 : List Int) : Prop := (0 <= (IntKind.i64.wrap (v6 + 1)) /\ (IntKind.i64.wrap (v6 + 1)) <= 16 /\ af.length = 16 /\ ∀ j : Nat, j < 16 -> af.getD j 0 = if (j : Int) < (IntKind.i64.wrap (v6 + 1)) then (unL sx).getD j 0 else 0) /\ (((16 - (IntKind.i64.wrap (v6 + 1))).toNat) < ((16 - v6).toNat))
abbrev Ztt (x0 : SVal -> Heap -> Prop) (x1 : ByteArray) : Prop := x0 (.agg [.ints .u8 16 (ZfL x1)]) ⟨0, []⟩
theorem ZKU (sx : ByteArray) (hK : (Ztt Kf sx)) (ab c : Nat) (v6 : Int) (h1 : List Int) (x1 : Nat) (af h2 : List Int) (h : Zux sx ab c v6 h1 x1 af h2) : SemL Try.prog w0 fp ρi 0 30 [Zgq] (ZAk ab c v6) (Ztx ab h1 x1 af) (ZhP w0 fp ρi Kf sx ab c h1 x1 v6 h2) :=
  Zad Zcu (ZHz sx ab c v6 h1 x1 af h2 _ (ZaO (Zay (x' := ((IntKind.i64.wrap (v6 + 1)), af)) (τ := tau []) h.1 h.2 (Zao [] [0, 1, 2] rfl rfl (esc bpt (esc bsl (esc bpt (esc pbd Zak)))) (hsc pcs (hsc pcs (hsc pcs Zae))) (by kernel_rfl) rfl))))
def ZEw (w0 : World) (fp : Nat -> Nat -> Prop) (ρi : Rho) (Kf : SVal -> Heap -> Prop) (sx : ByteArray) (ab c : Nat) (h1 : List Int) (x1 : Nat) (v6 : Int) (h2 : List Int) : ZaY := Zax 1 (fun e H => SemL Try.prog w0 fp ρi 0 30 [Zgq] e H (ZhP w0 fp ρi Kf sx ab c h1 x1 v6 h2)) (ZhP w0 fp ρi Kf sx ab c h1 x1 v6 h2)
theorem ZHy (sx : ByteArray) (ab c : Nat) (v6 : Int) (h1 : List Int) (x1 : Nat) (h2 : List Int) (Z : Env -> Heap -> Prop) (h : ((0 <= v6)) /\ ((v6 < ((ab : Nat) : Int))) /\ (((0 + (Int.toNat v6)) < ab)) /\ ((0 <= v6)) /\ ((v6 < 16)) /\ (((0 + ((Int.toNat v6) * 1)) < 16)) /\ (((0 + ((Int.toNat v6) * 1)) < List.length h2)) /\ Z (ZAk ab c v6) ⟨3, [(0, some ⟨true, [.ints .u8 16 (List.replicate 16 0)], 0⟩), (1, some ⟨true, [.ints .u8 ab h1], x1⟩), (2, some ⟨true, [.ints .u8 16 (List.set h2 (0 + ((Int.toNat v6) * 1)) (List.getD h1 (0 + (Int.toNat v6)) 0))], 0⟩)]⟩) : EvC ZcP ZqE (ZAk ab c v6) (Ztx ab h1 x1 h2) [2, 3, 5, 6] [0, 1, 2] Z := EvC.of (by kernel_rfl) h
def ZrI (sx : ByteArray) (ab c : Nat) (v6 : Int) (h1 : List Int) (x1 : Nat) (h2 : List Int) : Prop := ((0 <= v6)) /\ (((v6 < ((ab : Nat) : Int))) /\ ((((0 + (Int.toNat v6)) < ab)) /\ (((0 <= v6)) /\ (((v6 < 16)) /\ ((((0 + ((Int.toNat v6) * 1)) < 16)) /\ ((((0 + ((Int.toNat v6) * 1)) < List.length h2)) /\ (∀ af : List Int, af = (List.set h2 (0 + ((Int.toNat v6) * 1)) (List.getD h1 (0 + (Int.toNat v6)) 0)) -> Zux sx ab c v6 h1 x1 af h2)))))))
theorem ZKT (sx : ByteArray) (hK : (Ztt Kf sx)) (ab c : Nat) (v6 : Int) (h1 : List Int) (x1 : Nat) (h2 : List Int) (h : ZrI sx ab c v6 h1 x1 h2) : SemL Try.prog w0 fp ρi 0 30 [ZqE] (ZAk ab c v6) (Ztx ab h1 x1 h2) (ZEw w0 fp ρi Kf sx ab c h1 x1 v6 h2) :=
  Zad Zcu (ZHy sx ab c v6 h1 x1 h2 _ ⟨h.1, ⟨h.2.1, ⟨h.2.2.1, ⟨h.2.2.2.1, ⟨h.2.2.2.2.1, ⟨h.2.2.2.2.2.1, ⟨h.2.2.2.2.2.2.1, (ZaO (ZKU sx hK ab c v6 h1 x1 (List.set h2 (0 + ((Int.toNat v6) * 1)) (List.getD h1 (0 + (Int.toNat v6)) 0)) h2 (h.2.2.2.2.2.2.2 (List.set h2 (0 + ((Int.toNat v6) * 1)) (List.getD h1 (0 + (Int.toNat v6)) 0)) rfl)))⟩⟩⟩⟩⟩⟩⟩)
theorem ZKS (sx : ByteArray) (hK : (Ztt Kf sx)) (ab c : Nat) (v6 : Int) (h1 : List Int) (x1 : Nat) (h2 : List Int) (h : ZrI sx ab c v6 h1 x1 h2) : SemL Try.prog w0 fp ρi 0 30 [ZmW, Zgq] (ZAk ab c v6) (Ztx ab h1 x1 h2) (ZhP w0 fp ρi Kf sx ab c h1 x1 v6 h2) :=
  Zat (ZKT sx hK ab c v6 h1 x1 h2 h)
abbrev ZOs : Env := [(2, some (.ptr ⟨0, 0, 0, 1⟩ 16)), (5, some (.ptr ⟨2, 0, 0, 1⟩ 16))]
abbrev ZOr (x0 : List Int) : Heap := ⟨3, [(0, some ⟨true, [.ints .u8 16 (List.replicate 16 0)], 0⟩), (2, some ⟨true, [.ints .u8 16 x0], 0⟩)]⟩
theorem ZHx (sx : ByteArray) (h2 : List Int) (Z : Env -> Heap -> Prop) (h : Z [(2, some (.ptr ⟨0, 0, 0, 1⟩ 16))] ⟨3, [(0, some ⟨true, [.ints .u8 16 h2], 0⟩)]⟩) : EvC ZcP ZcK ZOs (ZOr h2) [2] [0] Z := EvC.of (by kernel_rfl) h
theorem ZCb (sx : ByteArray) (h2 : List Int) : RetC ZbT [(2, some (.ptr ⟨0, 0, 0, 1⟩ 16))] ⟨3, [(0, some ⟨true, [.ints .u8 16 h2], 0⟩)]⟩ (.agg [.ints .u8 16 h2]) := RetC.of (fun Z => by kernel_rfl)
def Zuw (sx : ByteArray) (h2 : List Int) : Prop := h2 = (ZfL sx)
theorem ZKR (sx : ByteArray) (hK : (Ztt Kf sx)) (h2 : List Int) (h : Zuw sx h2) : SemL Try.prog w0 fp ρi 0 30 [ZcK, .ret] ZOs (ZOr h2) (fnK ZbT 0 Kf) :=
  Zad Zcu (ZHx sx h2 _ (Zbv (R := ZbT) (m := 0) (Kf := Kf) (fun _ _ h => h) (ZCb sx h2) (Zbg rfl (by kernel_rfl) (cg1 (fun (z1 : List Int) => (.agg [.ints .u8 16 z1] : SVal)) h) hK)))
def ZrH (sx : ByteArray) (ab c : Nat) (v6 : Int) (h1 : List Int) (x1 : Nat) (h2 : List Int) : Prop := (((decide (v6 < ((ab : Nat) : Int))) && (decide (v6 < 16))) = true -> (ZrI sx ab c v6 h1 x1 h2)) /\ (((decide (v6 < ((ab : Nat) : Int))) && (decide (v6 < 16))) = false -> (Zuw sx h2))
theorem ZKQ (sx : ByteArray) (hK : (Ztt Kf sx)) (ab c : Nat) (v6 : Int) (h1 : List Int) (x1 : Nat) (h2 : List Int) (h : ZrH sx ab c v6 h1 x1 h2) : SemL Try.prog w0 fp ρi 0 30 [ZqF, (.seq ZmW Zgq)] [(2, some (.ptr ⟨0, 0, 0, 1⟩ 16)), (3, some (.slice ⟨1, 0, 0, 1⟩ ab c)), (5, some (.ptr ⟨2, 0, 0, 1⟩ 16)), (6, some (.int .i64 v6)), (20, some (.bool ((decide (v6 < ((ab : Nat) : Int))) && (decide (v6 < 16)))))] (Ztx ab h1 x1 h2) (ZhP w0 fp ρi Kf sx ab c h1 x1 v6 h2) :=
  ZaJ (q := ((decide (v6 < ((ab : Nat) : Int))) && (decide (v6 < 16)))) (by kernel_rfl) (fun hq => (ZaI (lpk [2, 3, 5, 6] [0, 1, 2] (Zah (ZKS sx hK ab c v6 h1 x1 h2 (h.1 hq)))))) (fun hq => (Zbb (lpk [2, 5] [0, 2] (Zah (ZKR sx hK h2 (h.2 hq))))))
theorem ZHw (sx : ByteArray) (ab c : Nat) (v6 : Int) (h1 : List Int) (x1 : Nat) (h2 : List Int) (Z : Env -> Heap -> Prop) (h : ∃ qq : Bool, ((decide (v6 < ((ab : Nat) : Int))) = true -> (Zby (Ztx ab h1 x1 h2) (Ztx ab h1 x1 h2) [(0, some ⟨true, [.ints .u8 16 (List.replicate 16 0)], 0⟩), (1, some ⟨true, [.ints .u8 ab h1], x1⟩), (2, some ⟨true, [.ints .u8 16 h2], 0⟩)]) /\ (decide (v6 < 16)) = qq) /\ ((decide (v6 < ((ab : Nat) : Int))) = false -> false = qq) /\ Z [(2, some (.ptr ⟨0, 0, 0, 1⟩ 16)), (3, some (.slice ⟨1, 0, 0, 1⟩ ab c)), (5, some (.ptr ⟨2, 0, 0, 1⟩ 16)), (6, some (.int .i64 v6)), (20, some (.bool qq))] (Ztx ab h1 x1 h2)) : EvC ZcP ZqG (ZAk ab c v6) (Ztx ab h1 x1 h2) [2, 3, 5, 6, 20] [0, 1, 2] Z := EvC.of (by kernel_rfl) h
theorem ZKP (sx : ByteArray) (hK : (Ztt Kf sx)) (ab c : Nat) (v6 : Int) (h1 : List Int) (x1 : Nat) (h2 : List Int) (h : ZrH sx ab c v6 h1 x1 h2) : SemL Try.prog w0 fp ρi 0 30 [ZqG, ZqF, (.seq ZmW Zgq)] (ZAk ab c v6) (Ztx ab h1 x1 h2) (ZhP w0 fp ρi Kf sx ab c h1 x1 v6 h2) :=
  Zad Zcu (ZHw sx ab c v6 h1 x1 h2 _ ⟨((decide (v6 < ((ab : Nat) : Int))) && (decide (v6 < 16))), fun hc_qq => ⟨(ZbZ _), (qa1 hc_qq)⟩, fun hc_qq => qa2 hc_qq, (ZKQ sx hK ab c v6 h1 x1 h2 h)⟩)
def Zkx (sx : ByteArray) (ab c : Nat) (h1 : List Int) (x1 : Nat) : Prop := (0 <= (0 : Int) /\ (0 : Int) <= 16 /\ (List.replicate 16 0).length = 16 /\ ∀ j : Nat, j < 16 -> (List.replicate 16 0).getD j 0 = if (j : Int) < (0 : Int) then (unL sx).getD j 0 else 0) /\ (∀ (v6 : Int) (h2 : List Int), (0 <= v6 /\ v6 <= 16 /\ h2.length = 16 /\ ∀ j : Nat, j < 16 -> h2.getD j 0 = if (j : Int) < v6 then (unL sx).getD j 0 else 0) -> (ZrH sx ab c v6 h1 x1 h2))
abbrev ZNh (x0 x1 : Nat) : Env := [(2, some (.ptr ⟨0, 0, 0, 1⟩ 16)), (3, some (.slice ⟨1, 0, 0, 1⟩ x0 x1)), (5, some (.ptr ⟨2, 0, 0, 1⟩ 16)), (6, some (.int .i64 0))]
abbrev ZE1 (x0 : Nat) (x1 : List Int) (x2 : Nat) : Heap := ⟨3, [(0, some ⟨true, [.ints .u8 16 (List.replicate 16 0)], 0⟩), (1, some ⟨true, [.ints .u8 x0 x1], x2⟩), (2, some ⟨true, [.ints .u8 16 (List.replicate 16 0)], 0⟩)]⟩
theorem ZKO (sx : ByteArray) (hK : (Ztt Kf sx)) (ab c : Nat) (h1 : List Int) (x1 : Nat) (h : Zkx sx ab c h1 x1) : SemL Try.prog w0 fp ρi 0 30 [Zx4] (ZNh ab c) (ZE1 ab h1 x1) (ZwT w0 fp ρi Kf sx) :=
  Zbd (Zxn sx ab c h1 x1) (Zvv sx ab c h1 x1) (Zwl sx ab c h1 x1) (ZvW sx ab c h1 x1) ⟨(0, (List.replicate 16 0)), tau [], h.1, (Zao [] [0, 1, 2] rfl rfl (esc bpt (esc bsl (esc bpt (esc pbd Zak)))) (hsc pcs (hsc pcs (hsc pcs Zae))) (by kernel_rfl) rfl)⟩ (fun s => match s with | (v6, h2) => fun hi => (Zah (Zah (ZKP sx hK ab c v6 h1 x1 h2 (h.2 v6 h2 hi)))))
theorem ZKN (sx : ByteArray) (hK : (Ztt Kf sx)) (ab c : Nat) (h1 : List Int) (x1 : Nat) (h : Zkx sx ab c h1 x1) : SemL Try.prog w0 fp ρi 0 30 [ZfI, (.seq ZcK .ret)] (ZNh ab c) (ZE1 ab h1 x1) (fnK ZbT 0 Kf) :=
  Zat (ZKO sx hK ab c h1 x1 h)
abbrev ZNg (x0 x1 : Nat) : Env := [(2, some (.ptr ⟨0, 0, 0, 1⟩ 16)), (3, some (.slice ⟨1, 0, 0, 1⟩ x0 x1)), (5, some (.ptr ⟨2, 0, 0, 1⟩ 16))]
theorem ZHv (sx : ByteArray) (ab c : Nat) (h1 : List Int) (x1 : Nat) (Z : Env -> Heap -> Prop) (h : Z (ZNh ab c) (ZE1 ab h1 x1)) : EvC ZcP Zh2 (ZNg ab c) (ZE1 ab h1 x1) [2, 3, 5, 6] [0, 1, 2] Z := EvC.of (by kernel_rfl) h
theorem ZKM (sx : ByteArray) (hK : (Ztt Kf sx)) (ab c : Nat) (h1 : List Int) (x1 : Nat) (h : Zkx sx ab c h1 x1) : SemL Try.prog w0 fp ρi 0 30 [Zh2, ZfI, (.seq ZcK .ret)] (ZNg ab c) (ZE1 ab h1 x1) (fnK ZbT 0 Kf) :=
  Zad Zcu (ZHv sx ab c h1 x1 _ (ZKN sx hK ab c h1 x1 h))
abbrev ZOq (x0 x1 : Nat) : Env := [(2, some (.ptr ⟨0, 0, 0, 1⟩ 16)), (3, some (.slice ⟨1, 0, 0, 1⟩ x0 x1))]
abbrev ZOp (x0 : Nat) (x1 : List Int) (x2 : Nat) : Heap := ⟨2, [(0, some ⟨true, [.ints .u8 16 (List.replicate 16 0)], 0⟩), (1, some ⟨true, [.ints .u8 x0 x1], x2⟩)]⟩
theorem ZHu (sx : ByteArray) (ab c : Nat) (h1 : List Int) (x1 : Nat) (Z : Env -> Heap -> Prop) (h : Z (ZNg ab c) (ZE1 ab h1 x1)) : EvC ZcP Zkb (ZOq ab c) (ZOp ab h1 x1) [2, 3, 5] [0, 1, 2] Z := EvC.of (by kernel_rfl) h
theorem ZKL (sx : ByteArray) (hK : (Ztt Kf sx)) (ab c : Nat) (h1 : List Int) (x1 : Nat) (h : Zkx sx ab c h1 x1) : SemL Try.prog w0 fp ρi 0 30 [Zkb, (.seq (.seq Zh2 ZfI) (.seq ZcK .ret))] (ZOq ab c) (ZOp ab h1 x1) (fnK ZbT 0 Kf) :=
  Zad Zcu (ZHu sx ab c h1 x1 _ (Zah (Zah (ZKM sx hK ab c h1 x1 h))))
abbrev ZNf (x0 : ByteArray) : Env := [(0, some (.str x0)), (2, some (.ptr ⟨0, 0, 0, 1⟩ 16))]
abbrev ZNe : Heap := ⟨1, [(0, some ⟨true, [.ints .u8 16 (List.replicate 16 0)], 0⟩)]⟩
theorem ZBF (sx : ByteArray) (Z : Env -> Heap -> Prop) (h : (((ByteArray.size sx <= 1000000) /\ ZoA sx = true)) /\ ∀ (c : Nat), (ByteArray.size sx / 2) <= c -> Z [(2, some (.ptr ⟨0, 0, 0, 1⟩ 16)), (3, some (.slice ⟨1, 0, 0, 1⟩ (ByteArray.size sx / 2) c))] ⟨2, [(0, some ⟨true, [.ints .u8 16 (List.replicate 16 0)], 0⟩), (1, some ⟨true, [.ints .u8 (ByteArray.size sx / 2) (unL sx)], (c - (ByteArray.size sx / 2))⟩)]⟩) : EvC ZcP ZmX (ZNf sx) ZNe [2, 3] [0, 1] Z := EvC.of (by kernel_rfl) h
def Zje (sx : ByteArray) : Prop := (((ByteArray.size sx <= 1000000) /\ ZoA sx = true)) /\ (∀ (c : Nat), ((ByteArray.size sx / 2) <= c) -> (∀ ab : Nat, ab = (ByteArray.size sx / 2) -> ∀ h1 : List Int, h1 = (unL sx) -> ∀ x1 : Nat, x1 = (c - (ByteArray.size sx / 2)) -> Zkx sx ab c h1 x1))
theorem ZDS (sx : ByteArray) (hK : (Ztt Kf sx)) (h : Zje sx) : SemL Try.prog w0 fp ρi 0 30 [ZmX, (.seq Zkb (.seq (.seq Zh2 ZfI) (.seq ZcK .ret)))] (ZNf sx) ZNe (fnK ZbT 0 Kf) :=
  Zad Zcu (ZBF sx _ ⟨h.1, (fun c h_c_0 => (Zah (ZKL sx hK (ByteArray.size sx / 2) c (unL sx) (c - (ByteArray.size sx / 2)) ((((h.2 c h_c_0) (ByteArray.size sx / 2) rfl) (unL sx) rfl) (c - (ByteArray.size sx / 2)) rfl))))⟩)
theorem ZBE (sx : ByteArray) (Z : Env -> Heap -> Prop) (h : Z (ZNf sx) ZNe) : EvC ZcP ZqH (Yh9 sx) ZzE [0, 2] [0] Z := EvC.of (by kernel_rfl) h
theorem ZDR (sx : ByteArray) (hK : (Ztt Kf sx)) (h : Zje sx) : SemL Try.prog w0 fp ρi 0 30 [ZqH, (.seq ZmX (.seq Zkb (.seq (.seq Zh2 ZfI) (.seq ZcK .ret))))] (Yh9 sx) ZzE (fnK ZbT 0 Kf) :=
  Zad Zcu (ZBE sx _ (Zah (ZDS sx hK h)))
theorem ZyD (sx : ByteArray) (hK : (Ztt Kf sx)) (h : Zje sx) : SemL Try.prog w0 fp ρi 0 30 [ZsJ] (Yh9 sx) ZzE (fnK ZbT 0 Kf) :=
  (Zah (ZDR sx hK h))
end
theorem Zu6 (sx : ByteArray) (hpre : ((ByteArray.size sx <= 1000000) /\ ZoA sx = true)) : Zje sx := by
  unfold Zje Zkx ZrH Zuw ZrI Zux
  refine ⟨hpre, fun c hc => ?_⟩
  rintro n rfl h1 rfl x1 -
  have ul : (unL sx).length = sx.size / 2 := by unfold unL; simp
  refine ⟨⟨by omega, by omega, by rw [List.length_replicate], fun j hj => by rw [if_neg (by omega), List.getD_eq_getElem?_getD, List.getElem?_replicate, if_pos hj]; rfl⟩, ?_⟩
  rintro v6 h2 ⟨i0, i1, i2, i3⟩
  refine ⟨fun hlt => ?_, fun hge => ?_⟩
  · have hlt : v6 < (sx.size / 2 : Nat) /\ v6 < 16 := by simpa using hlt
    have w1 : IntKind.i64.wrap (v6 + 1) = v6 + 1 := by rw [ZdQ]; omega
    rw [w1, Nat.zero_add, Nat.mul_one, Nat.zero_add]
    refine ⟨i0, hlt.1, by omega, i0, hlt.2, by omega, by omega, ?_⟩
    rintro ag rfl
    refine ⟨⟨by omega, by omega, by rw [List.length_set, i2], fun j hj => ?_⟩, by omega⟩
    rw [Zca (by omega)]
    by_cases hjv : j = v6.toNat
    · rw [if_pos hjv, if_pos (by omega), hjv]
    · rw [if_neg hjv, i3 j hj]
      by_cases hjl : (j : Int) < v6
      · rw [if_pos hjl, if_pos (by omega)]
      · rw [if_neg hjl, if_neg (by omega)]
  · have hge : ¬ (v6 < (sx.size / 2 : Nat) /\ v6 < 16) := fun h => by simp [h.1, h.2] at hge; omega
    refine Zbs i2 fun j hj => ?_
    rw [i3 j hj]
    by_cases hjl : (j : Int) < v6
    · rw [if_pos hjl]
    · rw [if_neg hjl, ZlL (by omega)]
theorem ZyT : Sound Try.prog 22 (ZeL Znr) := by
  refine ZaC Znd ?_
  intro args H K h
  obtain ⟨pre, v, hP, hpre, rfl, hK⟩ := ZbD h
  unfold Znr at hP
  split at hP
  · cases hP
    exact ⟨rfl, fun w0 fp ρi => ZyD _ hK (Zu6 _ hpre)⟩
  · cases hP
end Go.Proofs.Ytfffjdfegnmejaa
