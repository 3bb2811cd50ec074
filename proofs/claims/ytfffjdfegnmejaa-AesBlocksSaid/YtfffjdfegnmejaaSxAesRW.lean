/- Part of the proof: SxAesRW. -/
import Derived.Test.YtfffjdfegnmejaaSxAesQ
import Derived.Test.YtfffjdfegnmejaaSxAesR
import Derived.KernelRfl
set_option linter.unusedVariables false
set_option linter.unusedSimpArgs false
set_option maxRecDepth 20000
namespace Go.Proofs.Ytfffjdfegnmejaa
open Go.Sx
def Zyr : ZfW := fun args H => match args, H with
  | [], ⟨0, []⟩ => some (True, fun K => ∀ cap0 : Nat, 256 <= cap0 -> K (.slice ⟨0, 0, 0, 1⟩ 256 cap0) ⟨1, [(0, some ⟨true, [.ints .u8 256 sboxT], (cap0 - 256)⟩)]⟩)
  | _, _ => none
def Zzx : Con := ⟨24, gS Zyr, [], [], []⟩
def Zcw (Kf : SVal -> Heap -> Prop) : Prop := ∀ cap0 : Nat, 256 <= cap0 -> Kf (.slice ⟨0, 0, 0, 1⟩ 256 cap0) ⟨1, [(0, some ⟨true, [.ints .u8 256 sboxT], (cap0 - 256)⟩)]⟩
def Zqx : ACode := .reg (.op (some 0) (.mov (.cn (.nilslice))) .nil)
def ZmQ : ACode := .reg (.op (some 3) (.bslice .u8 0 []) (.op (some 1) (.mov (.tm 3)) .nil))
def Zj9 : ACode := .reg (.op (some 2) (.mov (.cn (.int .i64 0))) .nil)
def Zqw : ACode := .reg (.op (some 4) (.mov (.tm 2)) (.op (some 5) (.bin .lss (.tm 4) (.cn (.int .i64 256))) .nil))
def Zqv : ACode := .cond (.tm 5) .skip (.exit 0)
def Zqu : ACode := .reg (.op (some 8) (.mov (.tm 1)) (.op (some 9) (.mov (.tm 2)) (.op (some 10) (.conv .u8 (.tm 9)) (.op (some 11) (.call 43 [(.tm 10)]) (.op (some 12) (.bslice .u8 1 [(0, (.tm 11))]) (.op (some 13) (.append .u8 (.tm 8) (.tm 12)) (.op (some 1) (.mov (.tm 13)) .nil)))))))
def ZmP : ACode := .block 1 Zqu
def Zgp : ACode := .reg (.op (some 6) (.mov (.tm 2)) (.op (some 7) (.bin .add (.tm 6) (.cn (.int .i64 1))) (.op (some 2) (.mov (.tm 7)) .nil)))
def Zx3 : ACode := .loop (.seq (.seq Zqw Zqv) (.seq ZmP Zgp))
def Zj8 : ACode := .block 0 Zx3
def ZdE : ACode := .reg (.op (some 14) (.mov (.tm 1)) (.op (some 0) (.mov (.tm 14)) .nil))
def ZAi : ACode := (.seq Zqx (.seq ZmQ (.seq (.seq Zj9 Zj8) (.seq ZdE .ret))))
def Zfm : Res := .one (.tm 0)
theorem ZqY : Zbj Try.prog 24 0 15 ZAi Zfm = true := by kernel_rfl
def Ziv : Zav := Zcl [ZEf] []
theorem Zf8 : ZaK Try.prog Ziv := ZaL ⟨ZFs, trivial⟩ trivial
section
variable {w0 : World} {fp : Nat -> Nat -> Prop} {ρi : Rho} {Kf : SVal -> Heap -> Prop}
def ZwP (w0 : World) (fp : Nat -> Nat -> Prop) (ρi : Rho) (Kf : SVal -> Heap -> Prop) : ZaY := Zax 0 (fun e H => SemL Try.prog w0 fp ρi 0 15 [(.seq ZdE .ret)] e H (fnK Zfm 0 Kf)) (fnK Zfm 0 Kf)
def Zxk : Nat × Nat × Int × Nat × List Int × Nat -> Prop := fun s => match s with | (ab, ad, v2, af, h0, x0) => 0 <= v2 /\ v2 <= 256 /\ ab = v2.toNat /\ af = ab /\ h0 = sboxT.take v2.toNat /\ ab + x0 = ad
def Zvs : Nat × Nat × Int × Nat × List Int × Nat -> Nat := fun s => match s with | (ab, ad, v2, af, h0, x0) => ((256 - v2).toNat)
def Zwi : Nat × Nat × Int × Nat × List Int × Nat -> Env := fun s => match s with | (ab, ad, v2, af, h0, x0) => [(1, some (.slice ⟨0, 0, 0, 1⟩ ab ad)), (2, some (.int .i64 v2))]
def ZvT : Nat × Nat × Int × Nat × List Int × Nat -> Heap := fun s => match s with | (ab, ad, v2, af, h0, x0) => ⟨1, [(0, some ⟨true, [.ints .u8 af h0], x0⟩)]⟩
def ZhM (w0 : World) (fp : Nat -> Nat -> Prop) (ρi : Rho) (Kf : SVal -> Heap -> Prop) (ab ad : Nat) (v2 : Int) (af : Nat) (h0 : List Int) (x0 : Nat) : ZaY := Zb2 0 (Zxk) (Zvs) (Zwi) (ZvT) (ab, ad, v2, af, h0, x0) (ZwP w0 fp ρi Kf)
theorem ZHm (ah c : Nat) (v2 : Int) (h2 : List Int) (x2 ab ad af : Nat) (h0 : List Int) (x0 : Nat) (Z : Env -> Heap -> Prop) (h : Z [(1, some (.slice ⟨2, 0, 0, 1⟩ ah c)), (2, some (.int .i64 (IntKind.i64.wrap (v2 + 1))))] ⟨3, [(2, some ⟨true, [.ints .u8 ah h2], x2⟩)]⟩) : EvC Ziv Zgp [(1, some (.slice ⟨2, 0, 0, 1⟩ ah c)), (2, some (.int .i64 v2))] ⟨3, [(2, some ⟨true, [.ints .u8 ah h2], x2⟩)]⟩ [1, 2] [2] Z := EvC.of (by kernel_rfl) h
def Zus (ah c : Nat) (v2 : Int) (h2 : List Int) (x2 ab ad af : Nat) (h0 : List Int) (x0 : Nat) : Prop := (0 <= (IntKind.i64.wrap (v2 + 1)) /\ (IntKind.i64.wrap (v2 + 1)) <= 256 /\ ah = (IntKind.i64.wrap (v2 + 1)).toNat /\ ah = ah /\ h2 = sboxT.take (IntKind.i64.wrap (v2 + 1)).toNat /\ ah + x2 = c) /\ (((256 - (IntKind.i64.wrap (v2 + 1))).toNat) < ((256 - v2).toNat))
theorem ZKB (hK : Zcw Kf) (ah c : Nat) (v2 : Int) (h2 : List Int) (x2 ab ad af : Nat) (h0 : List Int) (x0 : Nat) (h : Zus ah c v2 h2 x2 ab ad af h0 x0) : SemL Try.prog w0 fp ρi 0 15 [Zgp] [(1, some (.slice ⟨2, 0, 0, 1⟩ ah c)), (2, some (.int .i64 v2))] ⟨3, [(2, some ⟨true, [.ints .u8 ah h2], x2⟩)]⟩ (ZhM w0 fp ρi Kf ab ad v2 af h0 x0) :=
  Zad Zf8 (ZHm ah c v2 h2 x2 ab ad af h0 x0 _ (ZaO (Zay (x' := (ah, c, (IntKind.i64.wrap (v2 + 1)), ah, h2, x2)) (τ := tau [(0, 2)]) h.1 h.2 (Zao [(0, 2)] [0] rfl rfl (esc bsl (esc pbd Zak)) (hsc pcs Zae) (by kernel_rfl) rfl))))
def ZEv (w0 : World) (fp : Nat -> Nat -> Prop) (ρi : Rho) (Kf : SVal -> Heap -> Prop) (ab ad : Nat) (v2 : Int) (af : Nat) (h0 : List Int) (x0 : Nat) : ZaY := Zax 1 (fun e H => SemL Try.prog w0 fp ρi 0 15 [Zgp] e H (ZhM w0 fp ρi Kf ab ad v2 af h0 x0)) (ZhM w0 fp ρi Kf ab ad v2 af h0 x0)
abbrev Yc0 (x0 x1 : Nat) (x2 : Int) : Env := [(1, some (.slice ⟨0, 0, 0, 1⟩ x0 x1)), (2, some (.int .i64 x2))]
abbrev Yc1 (x0 : Nat) (x1 : List Int) (x2 : Nat) : Heap := ⟨1, [(0, some ⟨true, [.ints .u8 x0 x1], x2⟩)]⟩
theorem ZHl (ab ad : Nat) (v2 : Int) (af : Nat) (h0 : List Int) (x0 : Nat) (Z : Env -> Heap -> Prop) (h : ((0 <= (IntKind.u8.wrap v2) /\ (IntKind.u8.wrap v2) < 256)) /\ (((1 : Nat) <= 1)) /\ ((af = ab)) /\ ((List.length h0 = ab)) /\ (((ab + x0) = ad)) /\ (((ab + 1) <= 17592186044416)) /\ ∀ (c : Nat), (ab + 1) <= c -> Z [(1, some (.slice ⟨2, 0, 0, 1⟩ (ab + 1) c)), (2, some (.int .i64 v2))] ⟨3, [(2, some ⟨true, [.ints .u8 (ab + 1) (h0 ++ (List.take 1 [(ZcR (IntKind.u8.wrap v2))]))], (c - (ab + 1))⟩)]⟩) : EvC Ziv Zqu (Yc0 ab ad v2) (Yc1 af h0 x0) [1, 2] [2] Z := EvC.of (by kernel_rfl) h
def ZrF (ab ad : Nat) (v2 : Int) (af : Nat) (h0 : List Int) (x0 : Nat) : Prop := ((0 <= (IntKind.u8.wrap v2) /\ (IntKind.u8.wrap v2) < 256)) /\ (((af = ab)) /\ (((List.length h0 = ab)) /\ ((((ab + x0) = ad)) /\ ((((ab + 1) <= 17592186044416)) /\ (∀ (c : Nat), ((ab + 1) <= c) -> (∀ ah : Nat, ah = (ab + 1) -> ∀ h2 : List Int, h2 = (h0 ++ (List.take 1 [(ZcR (IntKind.u8.wrap v2))])) -> ∀ x2 : Nat, x2 = (c - (ab + 1)) -> Zus ah c v2 h2 x2 ab ad af h0 x0))))))
theorem ZKA (hK : Zcw Kf) (ab ad : Nat) (v2 : Int) (af : Nat) (h0 : List Int) (x0 : Nat) (h : ZrF ab ad v2 af h0 x0) : SemL Try.prog w0 fp ρi 0 15 [Zqu] (Yc0 ab ad v2) (Yc1 af h0 x0) (ZEv w0 fp ρi Kf ab ad v2 af h0 x0) :=
  Zad Zf8 (ZHl ab ad v2 af h0 x0 _ ⟨h.1, ⟨(by decide), ⟨h.2.1, ⟨h.2.2.1, ⟨h.2.2.2.1, ⟨h.2.2.2.2.1, (fun c h_c_0 => (ZaO (ZKB hK (ab + 1) c v2 (h0 ++ (List.take 1 [(ZcR (IntKind.u8.wrap v2))])) (c - (ab + 1)) ab ad af h0 x0 ((((h.2.2.2.2.2 c h_c_0) (ab + 1) rfl) (h0 ++ (List.take 1 [(ZcR (IntKind.u8.wrap v2))])) rfl) (c - (ab + 1)) rfl))))⟩⟩⟩⟩⟩⟩)
theorem ZKz (hK : Zcw Kf) (ab ad : Nat) (v2 : Int) (af : Nat) (h0 : List Int) (x0 : Nat) (h : ZrF ab ad v2 af h0 x0) : SemL Try.prog w0 fp ρi 0 15 [ZmP, Zgp] (Yc0 ab ad v2) (Yc1 af h0 x0) (ZhM w0 fp ρi Kf ab ad v2 af h0 x0) :=
  Zat (ZKA hK ab ad v2 af h0 x0 h)
theorem ZHk (ab ad af : Nat) (h0 : List Int) (x0 : Nat) (Z : Env -> Heap -> Prop) (h : Z [(0, some (.slice ⟨0, 0, 0, 1⟩ ab ad))] (Yc1 af h0 x0)) : EvC Ziv ZdE [(1, some (.slice ⟨0, 0, 0, 1⟩ ab ad))] (Yc1 af h0 x0) [0] [0] Z := EvC.of (by kernel_rfl) h
theorem ZB9 (ab ad af : Nat) (h0 : List Int) (x0 : Nat) : RetC Zfm [(0, some (.slice ⟨0, 0, 0, 1⟩ ab ad))] (Yc1 af h0 x0) (.slice ⟨0, 0, 0, 1⟩ ab ad) := RetC.of (fun Z => by kernel_rfl)
def Zur (ab ad af : Nat) (h0 : List Int) (x0 : Nat) : Prop := (ab = 256) /\ (h0 = sboxT) /\ (af = 256) /\ (x0 = (ad - 256)) /\ ((256 : Nat) <= ad)
theorem ZKy (hK : Zcw Kf) (ab ad af : Nat) (h0 : List Int) (x0 : Nat) (h : Zur ab ad af h0 x0) : SemL Try.prog w0 fp ρi 0 15 [ZdE, .ret] [(1, some (.slice ⟨0, 0, 0, 1⟩ ab ad))] (Yc1 af h0 x0) (fnK Zfm 0 Kf) :=
  Zad Zf8 (ZHk ab ad af h0 x0 _ (Zbv (R := Zfm) (m := 0) (Kf := Kf) (fun _ _ h => h) (ZB9 ab ad af h0 x0) (Zb4 (Eq.mpr (cg4 (fun (z1 : Nat) (z2 : List Int) (z3 z4 : Nat) => Zkj 0 Kf (.slice ⟨0, 0, 0, 1⟩ z1 ad) (Yc1 z3 z2 z4)) h.1 h.2.1 h.2.2.1 h.2.2.2.1) (Zbm [] [0] rfl (by kernel_rfl) rfl bsl (hsc pcs Zae) rfl (by kernel_rfl) (hK ad h.2.2.2.2))))))
def ZrE (ab ad : Nat) (v2 : Int) (af : Nat) (h0 : List Int) (x0 : Nat) : Prop := ((decide (v2 < 256)) = true -> (ZrF ab ad v2 af h0 x0)) /\ ((decide (v2 < 256)) = false -> (Zur ab ad af h0 x0))
abbrev Yc2 (x0 x1 : Nat) (x2 : Int) : Env := [(1, some (.slice ⟨0, 0, 0, 1⟩ x0 x1)), (2, some (.int .i64 x2)), (5, some (.bool (decide (x2 < 256))))]
theorem ZKx (hK : Zcw Kf) (ab ad : Nat) (v2 : Int) (af : Nat) (h0 : List Int) (x0 : Nat) (h : ZrE ab ad v2 af h0 x0) : SemL Try.prog w0 fp ρi 0 15 [Zqv, (.seq ZmP Zgp)] (Yc2 ab ad v2) (Yc1 af h0 x0) (ZhM w0 fp ρi Kf ab ad v2 af h0 x0) :=
  ZaJ (q := (decide (v2 < 256))) (by kernel_rfl) (fun hq => (ZaI (lpk [1, 2] [0] (Zah (ZKz hK ab ad v2 af h0 x0 (h.1 hq)))))) (fun hq => (Zbb (lpk [1] [0] (Zah (ZKy hK ab ad af h0 x0 (h.2 hq))))))
theorem ZHj (ab ad : Nat) (v2 : Int) (af : Nat) (h0 : List Int) (x0 : Nat) (Z : Env -> Heap -> Prop) (h : Z (Yc2 ab ad v2) (Yc1 af h0 x0)) : EvC Ziv Zqw (Yc0 ab ad v2) (Yc1 af h0 x0) [1, 2, 5] [0] Z := EvC.of (by kernel_rfl) h
theorem ZKw (hK : Zcw Kf) (ab ad : Nat) (v2 : Int) (af : Nat) (h0 : List Int) (x0 : Nat) (h : ZrE ab ad v2 af h0 x0) : SemL Try.prog w0 fp ρi 0 15 [Zqw, Zqv, (.seq ZmP Zgp)] (Yc0 ab ad v2) (Yc1 af h0 x0) (ZhM w0 fp ρi Kf ab ad v2 af h0 x0) :=
  Zad Zf8 (ZHj ab ad v2 af h0 x0 _ (ZKx hK ab ad v2 af h0 x0 h))
def Zh9 : Prop := (0 <= (0 : Int) /\ (0 : Int) <= 256 /\ (0 : Nat) = (0 : Int).toNat /\ (0 : Nat) = (0 : Nat) /\ ([] : List Int) = sboxT.take (0 : Int).toNat /\ (0 : Nat) + (0 : Nat) = (0 : Nat)) /\ (∀ (ab ad : Nat) (v2 : Int) (af : Nat) (h0 : List Int) (x0 : Nat), (0 <= v2 /\ v2 <= 256 /\ ab = v2.toNat /\ af = ab /\ h0 = sboxT.take v2.toNat /\ ab + x0 = ad) -> (ZrE ab ad v2 af h0 x0))
abbrev Yc3 : Env := [(1, some (.slice ⟨0, 0, 0, 1⟩ 0 0)), (2, some (.int .i64 0))]
abbrev Yc4 : Heap := ⟨1, [(0, some ⟨true, [.ints .u8 0 ([] : List Int)], 0⟩)]⟩
theorem ZKv (hK : Zcw Kf) (h : Zh9) : SemL Try.prog w0 fp ρi 0 15 [Zx3] Yc3 Yc4 (ZwP w0 fp ρi Kf) :=
  Zbd (Zxk) (Zvs) (Zwi) (ZvT) ⟨(0, 0, 0, 0, ([] : List Int), 0), tau [], h.1, (Zao [] [0] rfl rfl (esc bsl (esc pbd Zak)) (hsc pcs Zae) (by kernel_rfl) rfl)⟩ (fun s => match s with | (ab, ad, v2, af, h0, x0) => fun hi => (Zah (Zah (ZKw hK ab ad v2 af h0 x0 (h.2 ab ad v2 af h0 x0 hi)))))
theorem ZKu (hK : Zcw Kf) (h : Zh9) : SemL Try.prog w0 fp ρi 0 15 [Zj8, (.seq ZdE .ret)] Yc3 Yc4 (fnK Zfm 0 Kf) :=
  Zat (ZKv hK h)
abbrev Yc5 : Env := [(1, some (.slice ⟨0, 0, 0, 1⟩ 0 0))]
theorem ZHi (Z : Env -> Heap -> Prop) (h : Z Yc3 Yc4) : EvC Ziv Zj9 Yc5 Yc4 [1, 2] [0] Z := EvC.of (by kernel_rfl) h
theorem ZKt (hK : Zcw Kf) (h : Zh9) : SemL Try.prog w0 fp ρi 0 15 [Zj9, Zj8, (.seq ZdE .ret)] Yc5 Yc4 (fnK Zfm 0 Kf) :=
  Zad Zf8 (ZHi _ (ZKu hK h))
theorem ZHh (Z : Env -> Heap -> Prop) (h : Z Yc5 Yc4) : EvC Ziv ZmQ [] ⟨0, []⟩ [1] [0] Z := EvC.of (by kernel_rfl) h
theorem ZKs (hK : Zcw Kf) (h : Zh9) : SemL Try.prog w0 fp ρi 0 15 [ZmQ, (.seq (.seq Zj9 Zj8) (.seq ZdE .ret))] [] ⟨0, []⟩ (fnK Zfm 0 Kf) :=
  Zad Zf8 (ZHh _ (Zah (Zah (ZKt hK h))))
theorem ZBv (Z : Env -> Heap -> Prop) (h : Z [] ⟨0, []⟩) : EvC Ziv Zqx [] ⟨0, []⟩ [] [] Z := EvC.of (by kernel_rfl) h
theorem ZDC (hK : Zcw Kf) (h : Zh9) : SemL Try.prog w0 fp ρi 0 15 [Zqx, (.seq ZmQ (.seq (.seq Zj9 Zj8) (.seq ZdE .ret)))] [] ⟨0, []⟩ (fnK Zfm 0 Kf) :=
  Zad Zf8 (ZBv _ (Zah (ZKs hK h)))
theorem ZFn (hK : Zcw Kf) (h : Zh9) : SemL Try.prog w0 fp ρi 0 15 [ZAi] [] ⟨0, []⟩ (fnK Zfm 0 Kf) :=
  (Zah (ZDC hK h))
end
theorem ZEl (hpre : True) : Zh9 := by
  unfold Zh9 ZrE Zur ZrF Zus
  refine ⟨⟨by omega, by omega, rfl, rfl, rfl, rfl⟩, ?_⟩
  rintro l c v2 n h0 x0 ⟨i0, i1, rfl, rfl, rfl, i5⟩
  refine ⟨fun hlt => ?_, fun hge => ?_⟩
  · have hlt := of_decide_eq_true hlt
    have w1 : IntKind.i64.wrap (v2 + 1) = v2 + 1 := by rw [ZdQ]; omega
    have w2 : IntKind.u8.wrap v2 = v2 := by rw [wrap_u8]; omega
    have hl := sbox_byt.2
    refine ⟨by rw [w2]; omega, rfl, by rw [List.length_take, hl]; omega, i5, by omega, ?_⟩
    rintro c hc l' rfl h2 rfl x2 rfl
    rw [w1, w2, show (v2 + 1).toNat = v2.toNat + 1 by omega]
    refine ⟨⟨by omega, by omega, rfl, rfl, ?_, by omega⟩, by omega⟩
    have hv : v2.toNat < sboxT.length := by rw [hl]; omega
    have e1 : sboxT.take (v2.toNat + 1) = sboxT.take v2.toNat ++ [ZcR v2] := by
      rw [List.take_add_one, List.getElem?_eq_getElem hv]
      unfold ZcR
      rw [List.getD_eq_getElem?_getD, List.getElem?_eq_getElem hv]
      rfl
    rw [e1]
    rfl
  · have hge := of_decide_eq_false hge
    have e : v2 = 256 := by omega
    subst e
    refine ⟨rfl, ?_, rfl, by omega, by omega⟩
    exact List.take_of_length_le (by rw [sbox_byt.2]; decide)
theorem ZFv : Sound Try.prog 24 (gS Zyr) := by
  refine ZaC ZqY ?_
  intro args H K h
  obtain ⟨pre, out, hD, hpre, hK⟩ := Zdv h
  unfold Zyr at hD
  split at hD
  · cases hD
    exact ⟨rfl, fun w0 fp ρi => ZFn hK (ZEl hpre)⟩
  · cases hD
def Zys : ZfW := fun args H => match args, H with
  | [.slice ⟨0, 0, 0, 1⟩ ss_n ss_c, .slice ⟨1, 0, 0, 1⟩ w_n w_c, .int .i64 round], ⟨2, [(0, some ⟨false, [.ints .u8 ss_m ss], 0⟩), (1, some ⟨false, [.rows [.hd] w_m w_h, .rows [.ints .u8 0] 0 w], 0⟩)]⟩ => some (ss_m = ss_n /\ w_m = w_n /\ ((Zaz ss /\ ss_n = 16 /\ 16 <= ss_c) /\ (ZeK w /\ w_n = 44 /\ 44 <= w_c) /\ 0 <= round /\ round <= 10), fun K => ∀ cap0 : Nat, 16 <= cap0 -> K (.slice ⟨2, 0, 0, 1⟩ 16 cap0) ⟨3, [(2, some ⟨true, [.ints .u8 16 (ZdX ss (Zcj w (Int.toNat round)))], (cap0 - 16)⟩), (0, some ⟨false, [.ints .u8 ss_n ss], 0⟩), (1, some ⟨false, [.rows Zaf w_n w_h, .rows Zaa 0 w], 0⟩)]⟩)
  | _, _ => none
def Zzy : Con := ⟨31, gS Zys, [], [], []⟩
def Zcx (ss : List Int) (ss_n ss_c : Nat) (w : List (Tup Zaa)) (w_h : List (Tup Zaf)) (w_n w_c : Nat) (round : Int) (Kf : SVal -> Heap -> Prop) : Prop := ∀ cap0 : Nat, 16 <= cap0 -> Kf (.slice ⟨2, 0, 0, 1⟩ 16 cap0) ⟨3, [(2, some ⟨true, [.ints .u8 16 (ZdX ss (Zcj w (Int.toNat round)))], (cap0 - 16)⟩), (0, some ⟨false, [.ints .u8 ss_n ss], 0⟩), (1, some ⟨false, [.rows Zaf w_n w_h, .rows Zaa 0 w], 0⟩)]⟩
def Zp2 : ACode := .reg (.op (some 6) (.mov (.cn (.nilslice))) .nil)
def Zmt : ACode := .reg (.op (some 9) (.bslice .u8 0 []) (.op (some 7) (.mov (.tm 9)) .nil))
def Zj2 : ACode := .reg (.op (some 8) (.mov (.cn (.int .i64 0))) .nil)
def Zp1 : ACode := .reg (.op (some 10) (.mov (.tm 8)) (.op (some 11) (.bin .lss (.tm 10) (.cn (.int .i64 16))) .nil))
def Zp0 : ACode := .cond (.tm 11) .skip (.exit 0)
def Zms : List MStep := [.mk 0 0 (some 14) (.mov (.tm 7)), .mk 1 0 (some 15) (.mov (.tm 0)), .mk 2 0 (some 16) (.mov (.tm 8)), .mk 3 0 (some 17) (.idxS (.tm 15) (.tm 16) 1), .mk 4 0 (some 18) (.load1 (.tm 17)), .mk 5 0 (some 19) (.mov (.tm 1)), .mk 6 0 (some 20) (.mov (.tm 2)), .mk 7 0 (some 21) (.bin .mul (.cn (.int .i64 4)) (.tm 20)), .mk 8 0 (some 22) (.mov (.tm 8)), .mk 9 0 (some 23) (.bin .quo (.tm 22) (.cn (.int .i64 4))), .mk 10 0 (some 24) (.bin .add (.tm 21) (.tm 23)), .mk 11 0 (some 25) (.idxS (.tm 19) (.tm 24) 1), .mk 12 0 (some 26) (.loadHq (.tm 25)), .mk 13 0 (some 27) (.mov (.tm 8)), .mk 14 0 (some 28) (.bin .rem (.tm 27) (.cn (.int .i64 4))), .mk 15 0 (some 29) (.idxHq (.tm 26) (.tm 28) (.tm 25)), .mk 16 0 (some 30) (.loadRq (.tm 29) (.tm 25) (.tm 28)), .mk 17 0 (some 31) (.bin .xor (.tm 18) (.tm 30)), .mk 18 1 (some 32) (.bslice .u8 1 [(0, (.tm 31))]), .mk 19 2 (some 33) (.append .u8 (.tm 14) (.tm 32)), .mk 20 0 (some 7) (.mov (.tm 33))]
def ZxY : ACode := .regM Zms
def Zmr : ACode := .block 1 ZxY
def Zgk : ACode := .reg (.op (some 12) (.mov (.tm 8)) (.op (some 13) (.bin .add (.tm 12) (.cn (.int .i64 1))) (.op (some 8) (.mov (.tm 13)) .nil)))
def ZxX : ACode := .loop (.seq (.seq Zp1 Zp0) (.seq Zmr Zgk))
def Zj1 : ACode := .block 0 ZxX
def ZdD : ACode := .reg (.op (some 34) (.mov (.tm 7)) (.op (some 6) (.mov (.tm 34)) .nil))
def ZAj : ACode := (.seq Zp2 (.seq Zmt (.seq (.seq Zj2 Zj1) (.seq ZdD .ret))))
def Zfn : Res := .one (.tm 6)
theorem ZqZ : Zbj Try.prog 31 3 35 ZAj Zfn = true := by kernel_rfl
def Ziw : Zav := Zcl [] []
theorem Zf9 : ZaK Try.prog Ziw := ZaL trivial trivial
section
variable {w0 : World} {fp : Nat -> Nat -> Prop} {ρi : Rho} {Kf : SVal -> Heap -> Prop}
def ZwF (w0 : World) (fp : Nat -> Nat -> Prop) (ρi : Rho) (Kf : SVal -> Heap -> Prop) (ss : List Int) (ss_n ss_c : Nat) (w : List (Tup Zaa)) (w_h : List (Tup Zaf)) (w_n w_c : Nat) (round : Int) : ZaY := Zax 0 (fun e H => SemL Try.prog w0 fp ρi 2 35 [(.seq ZdD .ret)] e H (fnK Zfn 2 Kf)) (fnK Zfn 2 Kf)
def Zxd (ss : List Int) (ss_n ss_c : Nat) (w : List (Tup Zaa)) (w_h : List (Tup Zaf)) (w_n w_c : Nat) (round : Int) : Nat × Nat × Int × Nat × List Int × Nat -> Prop := fun s => match s with | (aa, ac, v8, ae, h2, x2) => 0 <= v8 /\ v8 <= 16 /\ aa = v8.toNat /\ ae = aa /\ h2 = (ZdX ss (Zcj w round.toNat)).take v8.toNat /\ aa + x2 = ac
def Zvl (ss : List Int) (ss_n ss_c : Nat) (w : List (Tup Zaa)) (w_h : List (Tup Zaf)) (w_n w_c : Nat) (round : Int) : Nat × Nat × Int × Nat × List Int × Nat -> Nat := fun s => match s with | (aa, ac, v8, ae, h2, x2) => ((16 - v8).toNat)
def Zwb (ss : List Int) (ss_n ss_c : Nat) (w : List (Tup Zaa)) (w_h : List (Tup Zaf)) (w_n w_c : Nat) (round : Int) : Nat × Nat × Int × Nat × List Int × Nat -> Env := fun s => match s with | (aa, ac, v8, ae, h2, x2) => [(0, some (.slice ⟨0, 0, 0, 1⟩ ss_n ss_c)), (1, some (.slice ⟨1, 0, 0, 1⟩ w_n w_c)), (2, some (.int .i64 round)), (7, some (.slice ⟨2, 0, 0, 1⟩ aa ac)), (8, some (.int .i64 v8))]
def ZvM (ss : List Int) (ss_n ss_c : Nat) (w : List (Tup Zaa)) (w_h : List (Tup Zaf)) (w_n w_c : Nat) (round : Int) : Nat × Nat × Int × Nat × List Int × Nat -> Heap := fun s => match s with | (aa, ac, v8, ae, h2, x2) => ⟨3, [(0, some ⟨false, [.ints .u8 ss_n ss], 0⟩), (1, some ⟨false, [.rows Zaf w_n w_h, .rows Zaa 0 w], 0⟩), (2, some ⟨true, [.ints .u8 ae h2], x2⟩)]⟩
def ZhE (w0 : World) (fp : Nat -> Nat -> Prop) (ρi : Rho) (Kf : SVal -> Heap -> Prop) (ss : List Int) (ss_n ss_c : Nat) (w : List (Tup Zaa)) (w_h : List (Tup Zaf)) (w_n w_c : Nat) (round : Int) (aa ac : Nat) (v8 : Int) (ae : Nat) (h2 : List Int) (x2 : Nat) : ZaY := Zb2 2 (Zxd ss ss_n ss_c w w_h w_n w_c round) (Zvl ss ss_n ss_c w w_h w_n w_c round) (Zwb ss ss_n ss_c w w_h w_n w_c round) (ZvM ss ss_n ss_c w w_h w_n w_c round) (aa, ac, v8, ae, h2, x2) (ZwF w0 fp ρi Kf ss ss_n ss_c w w_h w_n w_c round)
abbrev Yc6 (x0 : Nat) (x1 : List Int) (x2 : Nat) (x3 : List (Tup Zaf)) (x4 : List (Tup Zaa)) (x5 : Nat) (x6 : List Int) (x7 : Nat) : Heap := ⟨5, [(0, some ⟨false, [.ints .u8 x0 x1], 0⟩), (1, some ⟨false, [.rows Zaf x2 x3, .rows Zaa 0 x4], 0⟩), (4, some ⟨true, [.ints .u8 x5 x6], x7⟩)]⟩
theorem ZGE (ss : List Int) (ss_n ss_c : Nat) (w : List (Tup Zaa)) (w_h : List (Tup Zaf)) (w_n w_c : Nat) (round : Int) (ag c : Nat) (v8 : Int) (h4 : List Int) (x4 aa ac ae : Nat) (h2 : List Int) (x2 : Nat) (Z : Env -> Heap -> Prop) (h : Z [(0, some (.slice ⟨0, 0, 0, 1⟩ ss_n ss_c)), (1, some (.slice ⟨1, 0, 0, 1⟩ w_n w_c)), (2, some (.int .i64 round)), (7, some (.slice ⟨4, 0, 0, 1⟩ ag c)), (8, some (.int .i64 (IntKind.i64.wrap (v8 + 1))))] (Yc6 ss_n ss w_n w_h w ag h4 x4)) : EvC Ziw Zgk [(0, some (.slice ⟨0, 0, 0, 1⟩ ss_n ss_c)), (1, some (.slice ⟨1, 0, 0, 1⟩ w_n w_c)), (2, some (.int .i64 round)), (7, some (.slice ⟨4, 0, 0, 1⟩ ag c)), (8, some (.int .i64 v8))] (Yc6 ss_n ss w_n w_h w ag h4 x4) [0, 1, 2, 7, 8] [0, 1, 4] Z := EvC.of (by kernel_rfl) h
def Zuc (ss : List Int) (ss_n ss_c : Nat) (w : List (Tup Zaa)) (w_h : List (Tup Zaf)) (w_n w_c : Nat) (round : Int) (ag c : Nat) (v8 : Int) (h4 : List Int) (x4 aa ac ae : Nat) (h2 : List Int) (x2 : Nat) : Prop := (0 <= (IntKind.i64.wrap (v8 + 1)) /\ (IntKind.i64.wrap (v8 + 1)) <= 16 /\ ag = (IntKind.i64.wrap (v8 + 1)).toNat /\ ag = ag /\ h4 = (ZdX ss (Zcj w round.toNat)).take (IntKind.i64.wrap (v8 + 1)).toNat /\ ag + x4 = c) /\ (((16 - (IntKind.i64.wrap (v8 + 1))).toNat) < ((16 - v8).toNat))
theorem ZJA (ss : List Int) (ss_n ss_c : Nat) (w : List (Tup Zaa)) (w_h : List (Tup Zaf)) (w_n w_c : Nat) (round : Int) (hK : Zcx ss ss_n ss_c w w_h w_n w_c round Kf) (ag c : Nat) (v8 : Int) (h4 : List Int) (x4 aa ac ae : Nat) (h2 : List Int) (x2 : Nat) (h : Zuc ss ss_n ss_c w w_h w_n w_c round ag c v8 h4 x4 aa ac ae h2 x2) : SemL Try.prog w0 fp ρi 2 35 [Zgk] [(0, some (.slice ⟨0, 0, 0, 1⟩ ss_n ss_c)), (1, some (.slice ⟨1, 0, 0, 1⟩ w_n w_c)), (2, some (.int .i64 round)), (7, some (.slice ⟨4, 0, 0, 1⟩ ag c)), (8, some (.int .i64 v8))] (Yc6 ss_n ss w_n w_h w ag h4 x4) (ZhE w0 fp ρi Kf ss ss_n ss_c w w_h w_n w_c round aa ac v8 ae h2 x2) :=
  Zad Zf9 (ZGE ss ss_n ss_c w w_h w_n w_c round ag c v8 h4 x4 aa ac ae h2 x2 _ (ZaO (Zay (x' := (ag, c, (IntKind.i64.wrap (v8 + 1)), ag, h4, x4)) (τ := tau [(2, 4)]) h.1 h.2 (Zao [(2, 4)] [0, 1, 2] rfl rfl (esc bsl (esc bsl (esc pbd (esc bsl (esc pbd Zak))))) (hsc pcs (hsc pcs (hsc pcs Zae))) (by kernel_rfl) rfl))))
def ZEu (w0 : World) (fp : Nat -> Nat -> Prop) (ρi : Rho) (Kf : SVal -> Heap -> Prop) (ss : List Int) (ss_n ss_c : Nat) (w : List (Tup Zaa)) (w_h : List (Tup Zaf)) (w_n w_c : Nat) (round : Int) (aa ac : Nat) (v8 : Int) (ae : Nat) (h2 : List Int) (x2 : Nat) : ZaY := Zax 1 (fun e H => SemL Try.prog w0 fp ρi 2 35 [Zgk] e H (ZhE w0 fp ρi Kf ss ss_n ss_c w w_h w_n w_c round aa ac v8 ae h2 x2)) (ZhE w0 fp ρi Kf ss ss_n ss_c w w_h w_n w_c round aa ac v8 ae h2 x2)
abbrev Yc7 (x0 : Nat) (x1 : List Int) (x2 : Nat) (x3 : List (Tup Zaf)) (x4 : List (Tup Zaa)) (x5 : Nat) (x6 : List Int) (x7 : Nat) : Heap := ⟨3, [(0, some ⟨false, [.ints .u8 x0 x1], 0⟩), (1, some ⟨false, [.rows Zaf x2 x3, .rows Zaa 0 x4], 0⟩), (2, some ⟨true, [.ints .u8 x5 x6], x7⟩)]⟩
abbrev Yc8 (x0 x1 x2 x3 : Nat) (x4 : Int) (x5 x6 : Nat) (x7 : Int) : Env := [(0, some (.slice ⟨0, 0, 0, 1⟩ x0 x1)), (1, some (.slice ⟨1, 0, 0, 1⟩ x2 x3)), (2, some (.int .i64 x4)), (7, some (.slice ⟨2, 0, 0, 1⟩ x5 x6)), (8, some (.int .i64 x7))]
theorem ZGD (ss : List Int) (ss_n ss_c : Nat) (w : List (Tup Zaa)) (w_h : List (Tup Zaf)) (w_n w_c : Nat) (round : Int) (aa ac : Nat) (v8 : Int) (ae : Nat) (h2 : List Int) (x2 : Nat) (Z : Env -> Heap -> Prop) (h : ((0 <= v8)) /\ ((v8 < ((ss_n : Nat) : Int))) /\ (((0 + (Int.toNat v8)) < ss_n)) /\ (((4 : Int) ≠ 0)) /\ ((0 <= (IntKind.i64.wrap ((IntKind.i64.wrap (4 * round)) + (IntKind.i64.wrap (Int.tdiv v8 4)))))) /\ (((IntKind.i64.wrap ((IntKind.i64.wrap (4 * round)) + (IntKind.i64.wrap (Int.tdiv v8 4)))) < ((w_n : Nat) : Int))) /\ (((0 + (Int.toNat (IntKind.i64.wrap ((IntKind.i64.wrap (4 * round)) + (IntKind.i64.wrap (Int.tdiv v8 4)))))) < w_n)) /\ (((4 : Int) ≠ 0)) /\ (((List.getD w_h (0 + (Int.toNat (IntKind.i64.wrap ((IntKind.i64.wrap (4 * round)) + (IntKind.i64.wrap (Int.tdiv v8 4)))))) (none, 0, 0)) = (List.getD w_h (0 + (Int.toNat (IntKind.i64.wrap ((IntKind.i64.wrap (4 * round)) + (IntKind.i64.wrap (Int.tdiv v8 4)))))) (none, 0, 0)))) /\ (((0 + (Int.toNat (IntKind.i64.wrap ((IntKind.i64.wrap (4 * round)) + (IntKind.i64.wrap (Int.tdiv v8 4)))))) < w_n)) /\ ((0 <= (Int.tmod v8 4))) /\ (((Int.tmod v8 4) < ((List.length (List.getD w (0 + (Int.toNat (IntKind.i64.wrap ((IntKind.i64.wrap (4 * round)) + (IntKind.i64.wrap (Int.tdiv v8 4)))))) ([] : List Int)) : Nat) : Int))) /\ (((ZiG (List.getD w_h (0 + (Int.toNat (IntKind.i64.wrap ((IntKind.i64.wrap (4 * round)) + (IntKind.i64.wrap (Int.tdiv v8 4)))))) (none, 0, 0)) (Int.toNat (Int.tmod v8 4))) = (ZiG (List.getD w_h (0 + (Int.toNat (IntKind.i64.wrap ((IntKind.i64.wrap (4 * round)) + (IntKind.i64.wrap (Int.tdiv v8 4)))))) (none, 0, 0)) (Int.toNat (Int.tmod v8 4))))) /\ (((0 + (Int.toNat (IntKind.i64.wrap ((IntKind.i64.wrap (4 * round)) + (IntKind.i64.wrap (Int.tdiv v8 4)))))) < w_n)) /\ ((0 <= (Int.tmod v8 4))) /\ (((Int.tmod v8 4) < ((List.length (List.getD w (0 + (Int.toNat (IntKind.i64.wrap ((IntKind.i64.wrap (4 * round)) + (IntKind.i64.wrap (Int.tdiv v8 4)))))) ([] : List Int)) : Nat) : Int))) /\ ((Zby ⟨4, [(0, some ⟨false, [.ints .u8 ss_n ss], 0⟩), (1, some ⟨false, [.rows Zaf w_n w_h, .rows Zaa 0 w], 0⟩), (2, some ⟨true, [.ints .u8 ae h2], x2⟩), (3, some ⟨true, [.ints .u8 1 [(Zar .u8 (List.getD ss (0 + (Int.toNat v8)) 0) (List.getD (List.getD w (0 + (Int.toNat (IntKind.i64.wrap ((IntKind.i64.wrap (4 * round)) + (IntKind.i64.wrap (Int.tdiv v8 4)))))) ([] : List Int)) (Int.toNat (Int.tmod v8 4)) 0))]], 0⟩)]⟩ (Heap.keep (Yc7 ss_n ss w_n w_h w ae h2 x2) [1, 0]) (ZbG [1, 0] (Yc7 ss_n ss w_n w_h w ae h2 x2)))) /\ (((1 : Nat) <= 1)) /\ ((ae = aa)) /\ ((List.length h2 = aa)) /\ (((aa + x2) = ac)) /\ (((aa + 1) <= 17592186044416)) /\ ∀ (c : Nat), (aa + 1) <= c -> Z [(0, some (.slice ⟨0, 0, 0, 1⟩ ss_n ss_c)), (1, some (.slice ⟨1, 0, 0, 1⟩ w_n w_c)), (2, some (.int .i64 round)), (7, some (.slice ⟨4, 0, 0, 1⟩ (aa + 1) c)), (8, some (.int .i64 v8))] ⟨5, [(0, some ⟨false, [.ints .u8 ss_n ss], 0⟩), (1, some ⟨false, [.rows Zaf w_n w_h, .rows Zaa 0 w], 0⟩), (4, some ⟨true, [.ints .u8 (aa + 1) (h2 ++ (List.take 1 [(Zar .u8 (List.getD ss (0 + (Int.toNat v8)) 0) (List.getD (List.getD w (0 + (Int.toNat (IntKind.i64.wrap ((IntKind.i64.wrap (4 * round)) + (IntKind.i64.wrap (Int.tdiv v8 4)))))) ([] : List Int)) (Int.toNat (Int.tmod v8 4)) 0))]))], (c - (aa + 1))⟩)]⟩) : EvNC Ziw Zms [[], [], [], [], [0], [], [], [], [], [], [], [], [1], [], [], [], [], [], [], [], []] (Yc8 ss_n ss_c w_n w_c round aa ac v8) (Yc7 ss_n ss w_n w_h w ae h2 x2) [0, 1, 2, 7, 8] [0, 1, 4] Z := EvNC.of (by kernel_rfl) h
def Zru (ss : List Int) (ss_n ss_c : Nat) (w : List (Tup Zaa)) (w_h : List (Tup Zaf)) (w_n w_c : Nat) (round : Int) (aa ac : Nat) (v8 : Int) (ae : Nat) (h2 : List Int) (x2 : Nat) : Prop := ((0 <= v8)) /\ (((v8 < ((ss_n : Nat) : Int))) /\ ((((0 + (Int.toNat v8)) < ss_n)) /\ (((0 <= (IntKind.i64.wrap ((IntKind.i64.wrap (4 * round)) + (IntKind.i64.wrap (Int.tdiv v8 4)))))) /\ ((((IntKind.i64.wrap ((IntKind.i64.wrap (4 * round)) + (IntKind.i64.wrap (Int.tdiv v8 4)))) < ((w_n : Nat) : Int))) /\ ((((0 + (Int.toNat (IntKind.i64.wrap ((IntKind.i64.wrap (4 * round)) + (IntKind.i64.wrap (Int.tdiv v8 4)))))) < w_n)) /\ ((((0 + (Int.toNat (IntKind.i64.wrap ((IntKind.i64.wrap (4 * round)) + (IntKind.i64.wrap (Int.tdiv v8 4)))))) < w_n)) /\ (((0 <= (Int.tmod v8 4))) /\ ((((Int.tmod v8 4) < ((List.length (List.getD w (0 + (Int.toNat (IntKind.i64.wrap ((IntKind.i64.wrap (4 * round)) + (IntKind.i64.wrap (Int.tdiv v8 4)))))) ([] : List Int)) : Nat) : Int))) /\ ((((0 + (Int.toNat (IntKind.i64.wrap ((IntKind.i64.wrap (4 * round)) + (IntKind.i64.wrap (Int.tdiv v8 4)))))) < w_n)) /\ (((0 <= (Int.tmod v8 4))) /\ ((((Int.tmod v8 4) < ((List.length (List.getD w (0 + (Int.toNat (IntKind.i64.wrap ((IntKind.i64.wrap (4 * round)) + (IntKind.i64.wrap (Int.tdiv v8 4)))))) ([] : List Int)) : Nat) : Int))) /\ (((ae = aa)) /\ (((List.length h2 = aa)) /\ ((((aa + x2) = ac)) /\ ((((aa + 1) <= 17592186044416)) /\ (∀ (c : Nat), ((aa + 1) <= c) -> (∀ ag : Nat, ag = (aa + 1) -> ∀ h4 : List Int, h4 = (h2 ++ (List.take 1 [(Zar .u8 (List.getD ss (0 + (Int.toNat v8)) 0) (List.getD (List.getD w (0 + (Int.toNat (IntKind.i64.wrap ((IntKind.i64.wrap (4 * round)) + (IntKind.i64.wrap (Int.tdiv v8 4)))))) ([] : List Int)) (Int.toNat (Int.tmod v8 4)) 0))])) -> ∀ x4 : Nat, x4 = (c - (aa + 1)) -> Zuc ss ss_n ss_c w w_h w_n w_c round ag c v8 h4 x4 aa ac ae h2 x2)))))))))))))))))
theorem ZJz (ss : List Int) (ss_n ss_c : Nat) (w : List (Tup Zaa)) (w_h : List (Tup Zaf)) (w_n w_c : Nat) (round : Int) (hK : Zcx ss ss_n ss_c w w_h w_n w_c round Kf) (aa ac : Nat) (v8 : Int) (ae : Nat) (h2 : List Int) (x2 : Nat) (h : Zru ss ss_n ss_c w w_h w_n w_c round aa ac v8 ae h2 x2) : SemL Try.prog w0 fp ρi 2 35 [ZxY] (Yc8 ss_n ss_c w_n w_c round aa ac v8) (Yc7 ss_n ss w_n w_h w ae h2 x2) (ZEu w0 fp ρi Kf ss ss_n ss_c w w_h w_n w_c round aa ac v8 ae h2 x2) :=
  Zcf Zf9 (steps := Zms) (ZGD ss ss_n ss_c w w_h w_n w_c round aa ac v8 ae h2 x2 _ ⟨h.1, ⟨h.2.1, ⟨h.2.2.1, ⟨(by decide), ⟨h.2.2.2.1, ⟨h.2.2.2.2.1, ⟨h.2.2.2.2.2.1, ⟨(by decide), ⟨rfl, ⟨h.2.2.2.2.2.2.1, ⟨h.2.2.2.2.2.2.2.1, ⟨h.2.2.2.2.2.2.2.2.1, ⟨rfl, ⟨h.2.2.2.2.2.2.2.2.2.1, ⟨h.2.2.2.2.2.2.2.2.2.2.1, ⟨h.2.2.2.2.2.2.2.2.2.2.2.1, ⟨(Zb0 (by kernel_rfl)), ⟨(by decide), ⟨h.2.2.2.2.2.2.2.2.2.2.2.2.1, ⟨h.2.2.2.2.2.2.2.2.2.2.2.2.2.1, ⟨h.2.2.2.2.2.2.2.2.2.2.2.2.2.2.1, ⟨h.2.2.2.2.2.2.2.2.2.2.2.2.2.2.2.1, (fun c h_c_0 => (ZaO (ZJA ss ss_n ss_c w w_h w_n w_c round hK (aa + 1) c v8 (h2 ++ (List.take 1 [(Zar .u8 (List.getD ss (0 + (Int.toNat v8)) 0) (List.getD (List.getD w (0 + (Int.toNat (IntKind.i64.wrap ((IntKind.i64.wrap (4 * round)) + (IntKind.i64.wrap (Int.tdiv v8 4)))))) ([] : List Int)) (Int.toNat (Int.tmod v8 4)) 0))])) (c - (aa + 1)) aa ac ae h2 x2 ((((h.2.2.2.2.2.2.2.2.2.2.2.2.2.2.2.2 c h_c_0) (aa + 1) rfl) (h2 ++ (List.take 1 [(Zar .u8 (List.getD ss (0 + (Int.toNat v8)) 0) (List.getD (List.getD w (0 + (Int.toNat (IntKind.i64.wrap ((IntKind.i64.wrap (4 * round)) + (IntKind.i64.wrap (Int.tdiv v8 4)))))) ([] : List Int)) (Int.toNat (Int.tmod v8 4)) 0))])) rfl) (c - (aa + 1)) rfl))))⟩⟩⟩⟩⟩⟩⟩⟩⟩⟩⟩⟩⟩⟩⟩⟩⟩⟩⟩⟩⟩⟩)
theorem ZJy (ss : List Int) (ss_n ss_c : Nat) (w : List (Tup Zaa)) (w_h : List (Tup Zaf)) (w_n w_c : Nat) (round : Int) (hK : Zcx ss ss_n ss_c w w_h w_n w_c round Kf) (aa ac : Nat) (v8 : Int) (ae : Nat) (h2 : List Int) (x2 : Nat) (h : Zru ss ss_n ss_c w w_h w_n w_c round aa ac v8 ae h2 x2) : SemL Try.prog w0 fp ρi 2 35 [Zmr, Zgk] (Yc8 ss_n ss_c w_n w_c round aa ac v8) (Yc7 ss_n ss w_n w_h w ae h2 x2) (ZhE w0 fp ρi Kf ss ss_n ss_c w w_h w_n w_c round aa ac v8 ae h2 x2) :=
  Zat (ZJz ss ss_n ss_c w w_h w_n w_c round hK aa ac v8 ae h2 x2 h)
theorem ZGC (ss : List Int) (ss_n ss_c : Nat) (w : List (Tup Zaa)) (w_h : List (Tup Zaf)) (w_n w_c : Nat) (round : Int) (aa ac ae : Nat) (h2 : List Int) (x2 : Nat) (Z : Env -> Heap -> Prop) (h : Z [(6, some (.slice ⟨2, 0, 0, 1⟩ aa ac))] (Yc7 ss_n ss w_n w_h w ae h2 x2)) : EvC Ziw ZdD [(7, some (.slice ⟨2, 0, 0, 1⟩ aa ac))] (Yc7 ss_n ss w_n w_h w ae h2 x2) [6] [0, 1, 2] Z := EvC.of (by kernel_rfl) h
theorem ZB2 (ss : List Int) (ss_n ss_c : Nat) (w : List (Tup Zaa)) (w_h : List (Tup Zaf)) (w_n w_c : Nat) (round : Int) (aa ac ae : Nat) (h2 : List Int) (x2 : Nat) : RetC Zfn [(6, some (.slice ⟨2, 0, 0, 1⟩ aa ac))] (Yc7 ss_n ss w_n w_h w ae h2 x2) (.slice ⟨2, 0, 0, 1⟩ aa ac) := RetC.of (fun Z => by kernel_rfl)
def Zub (ss : List Int) (ss_n ss_c : Nat) (w : List (Tup Zaa)) (w_h : List (Tup Zaf)) (w_n w_c : Nat) (round : Int) (aa ac ae : Nat) (h2 : List Int) (x2 : Nat) : Prop := (aa = 16) /\ (h2 = (ZdX ss (Zcj w (Int.toNat round)))) /\ (ae = 16) /\ (x2 = (ac - 16)) /\ ((16 : Nat) <= ac)
theorem ZJx (ss : List Int) (ss_n ss_c : Nat) (w : List (Tup Zaa)) (w_h : List (Tup Zaf)) (w_n w_c : Nat) (round : Int) (hK : Zcx ss ss_n ss_c w w_h w_n w_c round Kf) (aa ac ae : Nat) (h2 : List Int) (x2 : Nat) (h : Zub ss ss_n ss_c w w_h w_n w_c round aa ac ae h2 x2) : SemL Try.prog w0 fp ρi 2 35 [ZdD, .ret] [(7, some (.slice ⟨2, 0, 0, 1⟩ aa ac))] (Yc7 ss_n ss w_n w_h w ae h2 x2) (fnK Zfn 2 Kf) :=
  Zad Zf9 (ZGC ss ss_n ss_c w w_h w_n w_c round aa ac ae h2 x2 _ (Zbv (R := Zfn) (m := 2) (Kf := Kf) (fun _ _ h => h) (ZB2 ss ss_n ss_c w w_h w_n w_c round aa ac ae h2 x2) (Zb4 (Eq.mpr (cg4 (fun (z1 : Nat) (z2 : List Int) (z3 z4 : Nat) => Zkj 2 Kf (.slice ⟨2, 0, 0, 1⟩ z1 ac) (Yc7 ss_n ss w_n w_h w z3 z2 z4)) h.1 h.2.1 h.2.2.1 h.2.2.2.1) (Zbm [] [2, 0, 1] rfl (by kernel_rfl) rfl bsl (hsc pcs (hsc pcs (hsc pcs Zae))) rfl (by kernel_rfl) (hK ac h.2.2.2.2))))))
def Zrt (ss : List Int) (ss_n ss_c : Nat) (w : List (Tup Zaa)) (w_h : List (Tup Zaf)) (w_n w_c : Nat) (round : Int) (aa ac : Nat) (v8 : Int) (ae : Nat) (h2 : List Int) (x2 : Nat) : Prop := ((decide (v8 < 16)) = true -> (Zru ss ss_n ss_c w w_h w_n w_c round aa ac v8 ae h2 x2)) /\ ((decide (v8 < 16)) = false -> (Zub ss ss_n ss_c w w_h w_n w_c round aa ac ae h2 x2))
abbrev Yc9 (x0 x1 x2 x3 : Nat) (x4 : Int) (x5 x6 : Nat) (x7 : Int) : Env := [(0, some (.slice ⟨0, 0, 0, 1⟩ x0 x1)), (1, some (.slice ⟨1, 0, 0, 1⟩ x2 x3)), (2, some (.int .i64 x4)), (7, some (.slice ⟨2, 0, 0, 1⟩ x5 x6)), (8, some (.int .i64 x7)), (11, some (.bool (decide (x7 < 16))))]
theorem ZJw (ss : List Int) (ss_n ss_c : Nat) (w : List (Tup Zaa)) (w_h : List (Tup Zaf)) (w_n w_c : Nat) (round : Int) (hK : Zcx ss ss_n ss_c w w_h w_n w_c round Kf) (aa ac : Nat) (v8 : Int) (ae : Nat) (h2 : List Int) (x2 : Nat) (h : Zrt ss ss_n ss_c w w_h w_n w_c round aa ac v8 ae h2 x2) : SemL Try.prog w0 fp ρi 2 35 [Zp0, (.seq Zmr Zgk)] (Yc9 ss_n ss_c w_n w_c round aa ac v8) (Yc7 ss_n ss w_n w_h w ae h2 x2) (ZhE w0 fp ρi Kf ss ss_n ss_c w w_h w_n w_c round aa ac v8 ae h2 x2) :=
  ZaJ (q := (decide (v8 < 16))) (by kernel_rfl) (fun hq => (ZaI (lpk [0, 1, 2, 7, 8] [0, 1, 2] (Zah (ZJy ss ss_n ss_c w w_h w_n w_c round hK aa ac v8 ae h2 x2 (h.1 hq)))))) (fun hq => (Zbb (lpk [7] [0, 1, 2] (Zah (ZJx ss ss_n ss_c w w_h w_n w_c round hK aa ac ae h2 x2 (h.2 hq))))))
theorem ZGB (ss : List Int) (ss_n ss_c : Nat) (w : List (Tup Zaa)) (w_h : List (Tup Zaf)) (w_n w_c : Nat) (round : Int) (aa ac : Nat) (v8 : Int) (ae : Nat) (h2 : List Int) (x2 : Nat) (Z : Env -> Heap -> Prop) (h : Z (Yc9 ss_n ss_c w_n w_c round aa ac v8) (Yc7 ss_n ss w_n w_h w ae h2 x2)) : EvC Ziw Zp1 (Yc8 ss_n ss_c w_n w_c round aa ac v8) (Yc7 ss_n ss w_n w_h w ae h2 x2) [0, 1, 2, 7, 8, 11] [0, 1, 2] Z := EvC.of (by kernel_rfl) h
theorem ZJv (ss : List Int) (ss_n ss_c : Nat) (w : List (Tup Zaa)) (w_h : List (Tup Zaf)) (w_n w_c : Nat) (round : Int) (hK : Zcx ss ss_n ss_c w w_h w_n w_c round Kf) (aa ac : Nat) (v8 : Int) (ae : Nat) (h2 : List Int) (x2 : Nat) (h : Zrt ss ss_n ss_c w w_h w_n w_c round aa ac v8 ae h2 x2) : SemL Try.prog w0 fp ρi 2 35 [Zp1, Zp0, (.seq Zmr Zgk)] (Yc8 ss_n ss_c w_n w_c round aa ac v8) (Yc7 ss_n ss w_n w_h w ae h2 x2) (ZhE w0 fp ρi Kf ss ss_n ss_c w w_h w_n w_c round aa ac v8 ae h2 x2) :=
  Zad Zf9 (ZGB ss ss_n ss_c w w_h w_n w_c round aa ac v8 ae h2 x2 _ (ZJw ss ss_n ss_c w w_h w_n w_c round hK aa ac v8 ae h2 x2 h))
def Zh8 (ss : List Int) (ss_n ss_c : Nat) (w : List (Tup Zaa)) (w_h : List (Tup Zaf)) (w_n w_c : Nat) (round : Int) : Prop := (0 <= (0 : Int) /\ (0 : Int) <= 16 /\ (0 : Nat) = (0 : Int).toNat /\ (0 : Nat) = (0 : Nat) /\ ([] : List Int) = (ZdX ss (Zcj w round.toNat)).take (0 : Int).toNat /\ (0 : Nat) + (0 : Nat) = (0 : Nat)) /\ (∀ (aa ac : Nat) (v8 : Int) (ae : Nat) (h2 : List Int) (x2 : Nat), (0 <= v8 /\ v8 <= 16 /\ aa = v8.toNat /\ ae = aa /\ h2 = (ZdX ss (Zcj w round.toNat)).take v8.toNat /\ aa + x2 = ac) -> (Zrt ss ss_n ss_c w w_h w_n w_c round aa ac v8 ae h2 x2))
abbrev ZNR (x0 x1 x2 x3 : Nat) (x4 : Int) : Env := [(0, some (.slice ⟨0, 0, 0, 1⟩ x0 x1)), (1, some (.slice ⟨1, 0, 0, 1⟩ x2 x3)), (2, some (.int .i64 x4)), (7, some (.slice ⟨2, 0, 0, 1⟩ 0 0)), (8, some (.int .i64 0))]
abbrev ZFd (x0 : Nat) (x1 : List Int) (x2 : Nat) (x3 : List (Tup Zaf)) (x4 : List (Tup Zaa)) : Heap := ⟨3, [(0, some ⟨false, [.ints .u8 x0 x1], 0⟩), (1, some ⟨false, [.rows Zaf x2 x3, .rows Zaa 0 x4], 0⟩), (2, some ⟨true, [.ints .u8 0 ([] : List Int)], 0⟩)]⟩
theorem ZJu (ss : List Int) (ss_n ss_c : Nat) (w : List (Tup Zaa)) (w_h : List (Tup Zaf)) (w_n w_c : Nat) (round : Int) (hK : Zcx ss ss_n ss_c w w_h w_n w_c round Kf) (h : Zh8 ss ss_n ss_c w w_h w_n w_c round) : SemL Try.prog w0 fp ρi 2 35 [ZxX] (ZNR ss_n ss_c w_n w_c round) (ZFd ss_n ss w_n w_h w) (ZwF w0 fp ρi Kf ss ss_n ss_c w w_h w_n w_c round) :=
  Zbd (Zxd ss ss_n ss_c w w_h w_n w_c round) (Zvl ss ss_n ss_c w w_h w_n w_c round) (Zwb ss ss_n ss_c w w_h w_n w_c round) (ZvM ss ss_n ss_c w w_h w_n w_c round) ⟨(0, 0, 0, 0, ([] : List Int), 0), tau [], h.1, (Zao [] [0, 1, 2] rfl rfl (esc bsl (esc bsl (esc pbd (esc bsl (esc pbd Zak))))) (hsc pcs (hsc pcs (hsc pcs Zae))) (by kernel_rfl) rfl)⟩ (fun s => match s with | (aa, ac, v8, ae, h2, x2) => fun hi => (Zah (Zah (ZJv ss ss_n ss_c w w_h w_n w_c round hK aa ac v8 ae h2 x2 (h.2 aa ac v8 ae h2 x2 hi)))))
theorem ZJt (ss : List Int) (ss_n ss_c : Nat) (w : List (Tup Zaa)) (w_h : List (Tup Zaf)) (w_n w_c : Nat) (round : Int) (hK : Zcx ss ss_n ss_c w w_h w_n w_c round Kf) (h : Zh8 ss ss_n ss_c w w_h w_n w_c round) : SemL Try.prog w0 fp ρi 2 35 [Zj1, (.seq ZdD .ret)] (ZNR ss_n ss_c w_n w_c round) (ZFd ss_n ss w_n w_h w) (fnK Zfn 2 Kf) :=
  Zat (ZJu ss ss_n ss_c w w_h w_n w_c round hK h)
abbrev ZNQ (x0 x1 x2 x3 : Nat) (x4 : Int) : Env := [(0, some (.slice ⟨0, 0, 0, 1⟩ x0 x1)), (1, some (.slice ⟨1, 0, 0, 1⟩ x2 x3)), (2, some (.int .i64 x4)), (7, some (.slice ⟨2, 0, 0, 1⟩ 0 0))]
theorem ZGA (ss : List Int) (ss_n ss_c : Nat) (w : List (Tup Zaa)) (w_h : List (Tup Zaf)) (w_n w_c : Nat) (round : Int) (Z : Env -> Heap -> Prop) (h : Z (ZNR ss_n ss_c w_n w_c round) (ZFd ss_n ss w_n w_h w)) : EvC Ziw Zj2 (ZNQ ss_n ss_c w_n w_c round) (ZFd ss_n ss w_n w_h w) [0, 1, 2, 7, 8] [0, 1, 2] Z := EvC.of (by kernel_rfl) h
theorem ZJs (ss : List Int) (ss_n ss_c : Nat) (w : List (Tup Zaa)) (w_h : List (Tup Zaf)) (w_n w_c : Nat) (round : Int) (hK : Zcx ss ss_n ss_c w w_h w_n w_c round Kf) (h : Zh8 ss ss_n ss_c w w_h w_n w_c round) : SemL Try.prog w0 fp ρi 2 35 [Zj2, Zj1, (.seq ZdD .ret)] (ZNQ ss_n ss_c w_n w_c round) (ZFd ss_n ss w_n w_h w) (fnK Zfn 2 Kf) :=
  Zad Zf9 (ZGA ss ss_n ss_c w w_h w_n w_c round _ (ZJt ss ss_n ss_c w w_h w_n w_c round hK h))
abbrev ZFc (x0 x1 x2 x3 : Nat) (x4 : Int) : Env := [(0, some (.slice ⟨0, 0, 0, 1⟩ x0 x1)), (1, some (.slice ⟨1, 0, 0, 1⟩ x2 x3)), (2, some (.int .i64 x4))]
abbrev ZFb (x0 : Nat) (x1 : List Int) (x2 : Nat) (x3 : List (Tup Zaf)) (x4 : List (Tup Zaa)) : Heap := ⟨2, [(0, some ⟨false, [.ints .u8 x0 x1], 0⟩), (1, some ⟨false, [.rows Zaf x2 x3, .rows Zaa 0 x4], 0⟩)]⟩
theorem ZGz (ss : List Int) (ss_n ss_c : Nat) (w : List (Tup Zaa)) (w_h : List (Tup Zaf)) (w_n w_c : Nat) (round : Int) (Z : Env -> Heap -> Prop) (h : Z (ZNQ ss_n ss_c w_n w_c round) (ZFd ss_n ss w_n w_h w)) : EvC Ziw Zmt (ZFc ss_n ss_c w_n w_c round) (ZFb ss_n ss w_n w_h w) [0, 1, 2, 7] [0, 1, 2] Z := EvC.of (by kernel_rfl) h
theorem ZJr (ss : List Int) (ss_n ss_c : Nat) (w : List (Tup Zaa)) (w_h : List (Tup Zaf)) (w_n w_c : Nat) (round : Int) (hK : Zcx ss ss_n ss_c w w_h w_n w_c round Kf) (h : Zh8 ss ss_n ss_c w w_h w_n w_c round) : SemL Try.prog w0 fp ρi 2 35 [Zmt, (.seq (.seq Zj2 Zj1) (.seq ZdD .ret))] (ZFc ss_n ss_c w_n w_c round) (ZFb ss_n ss w_n w_h w) (fnK Zfn 2 Kf) :=
  Zad Zf9 (ZGz ss ss_n ss_c w w_h w_n w_c round _ (Zah (Zah (ZJs ss ss_n ss_c w w_h w_n w_c round hK h))))
theorem ZBe (ss : List Int) (ss_n ss_c : Nat) (w : List (Tup Zaa)) (w_h : List (Tup Zaf)) (w_n w_c : Nat) (round : Int) (Z : Env -> Heap -> Prop) (h : Z (ZFc ss_n ss_c w_n w_c round) (ZFb ss_n ss w_n w_h w)) : EvC Ziw Zp2 (ZFc ss_n ss_c w_n w_c round) (ZFb ss_n ss w_n w_h w) [0, 1, 2] [0, 1] Z := EvC.of (by kernel_rfl) h
theorem ZDb (ss : List Int) (ss_n ss_c : Nat) (w : List (Tup Zaa)) (w_h : List (Tup Zaf)) (w_n w_c : Nat) (round : Int) (hK : Zcx ss ss_n ss_c w w_h w_n w_c round Kf) (h : Zh8 ss ss_n ss_c w w_h w_n w_c round) : SemL Try.prog w0 fp ρi 2 35 [Zp2, (.seq Zmt (.seq (.seq Zj2 Zj1) (.seq ZdD .ret)))] (ZFc ss_n ss_c w_n w_c round) (ZFb ss_n ss w_n w_h w) (fnK Zfn 2 Kf) :=
  Zad Zf9 (ZBe ss ss_n ss_c w w_h w_n w_c round _ (Zah (ZJr ss ss_n ss_c w w_h w_n w_c round hK h)))
theorem ZFo (ss : List Int) (ss_n ss_c : Nat) (w : List (Tup Zaa)) (w_h : List (Tup Zaf)) (w_n w_c : Nat) (round : Int) (hK : Zcx ss ss_n ss_c w w_h w_n w_c round Kf) (h : Zh8 ss ss_n ss_c w w_h w_n w_c round) : SemL Try.prog w0 fp ρi 2 35 [ZAj] (ZFc ss_n ss_c w_n w_c round) (ZFb ss_n ss w_n w_h w) (fnK Zfn 2 Kf) :=
  (Zah (ZDb ss ss_n ss_c w w_h w_n w_c round hK h))
end
theorem ZEm (ss : List Int) (ss_n ss_c : Nat) (w : List (Tup Zaa)) (w_h : List (Tup Zaf)) (w_n w_c : Nat) (round : Int) (hpre : ((Zaz ss /\ ss_n = 16 /\ 16 <= ss_c) /\ (ZeK w /\ w_n = 44 /\ 44 <= w_c) /\ 0 <= round /\ round <= 10)) : Zh8 ss ss_n ss_c w w_h w_n w_c round := by
  unfold Zh8 Zrt Zub Zru Zuc
  obtain ⟨⟨hs, rfl, hsc⟩, ⟨hw, rfl, hwc⟩, hr0, hr1⟩ := hpre
  refine ⟨⟨by omega, by omega, rfl, rfl, rfl, rfl⟩, ?_⟩
  rintro l c v8 n h2 x2 ⟨i0, i1, rfl, rfl, rfl, i5⟩
  obtain ⟨i, rfl⟩ := Int.eq_ofNat_of_zero_le i0
  obtain ⟨r, rfl⟩ := Int.eq_ofNat_of_zero_le hr0
  refine ⟨fun hlt => ?_, fun hge => ?_⟩
  · have hlt := of_decide_eq_true hlt
    have w1 : IntKind.i64.wrap (((i : Nat) : Int) + 1) = ((i + 1 : Nat) : Int) := by rw [ZdQ]; omega
    obtain ⟨e1, e2⟩ := ixa r (by omega) i (by omega)
    rw [e1, e2, w1]
    simp only [Int.toNat_natCast, Nat.zero_add]
    have h4 := hw.2 (4 * r + i / 4) (by omega)
    have hxl : (ZdX ss (Zcj w r)).length = 16 := by simp [ZdX]
    refine ⟨by omega, by omega, by omega, by omega, by omega, by omega, by omega, by omega, by omega, by omega, by omega, by omega, trivial, by rw [List.length_take, hxl]; omega, by omega, by omega, ?_⟩
    rintro c2 hc2 l2 rfl h5 rfl x5 rfl
    refine ⟨⟨by omega, by omega, (by first | trivial | rfl), (by first | trivial | rfl), ?_, by omega⟩, by omega⟩
    rw [Ztz _ _ (by omega), Zs1 _ _ (by omega)]
    rfl
  · have hge := of_decide_eq_false hge
    have e : i = 16 := by omega
    subst e
    refine ⟨rfl, ?_, rfl, by simp at i5 ⊢; omega, by simp at i5 ⊢; omega⟩
    exact List.take_of_length_le (by simp [ZdX])
theorem ZFw : Sound Try.prog 31 (gS Zys) := by
  refine ZaC ZqZ ?_
  intro args H K h
  obtain ⟨pre, out, hD, hpre, hK⟩ := Zdv h
  unfold Zys at hD
  split at hD
  · cases hD
    obtain ⟨rfl, rfl, hpre⟩ := hpre
    exact ⟨rfl, fun w0 fp ρi => ZFo _ _ _ _ _ _ _ _ hK (ZEm _ _ _ _ _ _ _ _ hpre)⟩
  · cases hD
end Go.Proofs.Ytfffjdfegnmejaa
