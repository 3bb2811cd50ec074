/- Part of the proof: SxAesE. -/
import Derived.Test.YtfffjdfegnmejaaSxAesX
import Derived.Test.YtfffjdfegnmejaaSxAesM
import Derived.KernelRfl
set_option linter.unusedVariables false
set_option linter.unusedSimpArgs false
set_option maxRecDepth 20000
namespace Go.Proofs.Ytfffjdfegnmejaa
open Go.Sx
def ZEU : ZfW := fun args H => match args, H with
  | [.ptr ⟨0, 0, 0, 1⟩ 432, .agg [.ints .u8 ae b]], ⟨1, [(0, some ⟨false, [.ints .u8 t_n t, .ints .u8 k_n k], 0⟩)]⟩ => bif Nat.beq t_n 256 && Nat.beq k_n 176 && Nat.beq ae 16 then some ((t = sboxT /\ Zhd k /\ Zaz b), fun K => K (.agg [.ints .u8 16 (ZdO k b)]) ⟨1, [(0, some ⟨false, [.ints .u8 256 t, .ints .u8 176 k], 0⟩)]⟩) else none
  | _, _ => none
def Zx7 : Con := ⟨11, gS ZEU, [], [], []⟩
def Zct (t k b : List Int) (Kf : SVal -> Heap -> Prop) : Prop := Kf (.agg [.ints .u8 16 (ZdO k b)]) ⟨1, [(0, some ⟨false, [.ints .u8 256 t, .ints .u8 176 k], 0⟩)]⟩
def ZqS : ACode := .reg (.op (some 3) (.box (.tm 1)) (.op (some 4) (.alloc [.ints .u8 16 (List.replicate 16 0)]) .nil))
def Zm6 : ACode := .reg (.op (some 7) (.loadA 16 (.tm 3)) (.op (some 5) (.alloc [.ints .u8 16 (List.replicate 16 0)]) (.op none (.storeA 16 (.tm 5) (.tm 7)) .nil)))
def Zkd : ACode := .reg (.op (some 8) (.mov (.tm 0)) (.op (some 9) (.nilCheck (.tm 8)) (.op (some 10) (.fieldAddr (.tm 9) 256 176) (.op (some 11) (.idxA (.tm 10) (.cn (.int .i64 0)) 11 16) (.op (some 12) (.loadA 16 (.tm 11)) (.op (some 13) (.call 28 [(.tm 5), (.tm 12)]) .nil))))))
def Zh3 : ACode := .reg (.op (some 6) (.mov (.cn (.int .i64 1))) .nil)
def ZqR : ACode := .reg (.op (some 14) (.mov (.tm 6)) (.op (some 15) (.bin .leq (.tm 14) (.cn (.int .i64 10))) .nil))
def ZqQ : ACode := .cond (.tm 15) .skip (.exit 0)
def ZqP : ACode := .reg (.op (some 18) (.mov (.tm 0)) (.op (some 19) (.nilCheck (.tm 18)) (.op (some 20) (.fieldAddr (.tm 19) 0 256) (.op (some 21) (.call 29 [(.tm 5), (.tm 20)]) .nil))))
def Zm5 : ACode := .reg (.op (some 22) (.mov (.tm 6)) (.op (some 23) (.bin .lss (.tm 22) (.cn (.int .i64 10))) .nil))
def ZqO : ACode := .reg (.op (some 24) (.call 30 [(.tm 5)]) .nil)
def Zm4 : ACode := .cond (.tm 23) ZqO .skip
def ZeB : ACode := .reg (.op (some 25) (.mov (.tm 0)) (.op (some 26) (.mov (.tm 6)) (.op (some 27) (.nilCheck (.tm 25)) (.op (some 28) (.fieldAddr (.tm 27) 256 176) (.op (some 29) (.idxA (.tm 28) (.tm 26) 11 16) (.op (some 30) (.loadA 16 (.tm 29)) (.op (some 31) (.call 28 [(.tm 5), (.tm 30)]) .nil)))))))
def ZiZ : ACode := .block 1 (.seq ZqP (.seq (.seq Zm5 Zm4) ZeB))
def ZeA : ACode := .reg (.op (some 16) (.mov (.tm 6)) (.op (some 17) (.bin .add (.tm 16) (.cn (.int .i64 1))) (.op (some 6) (.mov (.tm 17)) .nil)))
def ZsD : ACode := .loop (.seq (.seq ZqR ZqQ) (.seq ZiZ ZeA))
def ZfJ : ACode := .block 0 ZsD
def ZcN : ACode := .reg (.op (some 32) (.loadA 16 (.tm 5)) (.op none (.storeA 16 (.tm 4) (.tm 32)) .nil))
def ZLD : ACode := (.seq ZqS (.seq Zm6 (.seq Zkd (.seq (.seq Zh3 ZfJ) (.seq ZcN .ret)))))
def ZiA : Res := .one (.cA 4 16)
theorem Zto : Zbj Try.prog 11 2 33 ZLD ZiA = true := by kernel_rfl
def ZiB : Zav := Zcl [] [ZEH, Zx5, ZEG]
theorem Zfb : ZaK Try.prog ZiB := ZaL trivial ⟨ZL7, ZAI, ZL6, trivial⟩
section
variable {w0 : World} {fp : Nat -> Nat -> Prop} {ρi : Rho} {Kf : SVal -> Heap -> Prop}
def ZwW (w0 : World) (fp : Nat -> Nat -> Prop) (ρi : Rho) (Kf : SVal -> Heap -> Prop) (t k b : List Int) : ZaY := Zax 0 (fun e H => SemL Try.prog w0 fp ρi 1 33 [(.seq ZcN .ret)] e H (fnK ZiA 1 Kf)) (fnK ZiA 1 Kf)
def Zxq (t k b : List Int) : Int × List Int -> Prop := fun s => match s with | (v6, aa) => 1 <= v6 /\ v6 <= 11 /\ aa = stR k b (v6 - 1).toNat
def Zvy (t k b : List Int) : Int × List Int -> Nat := fun s => match s with | (v6, aa) => ((11 - v6).toNat)
def Zwo (t k b : List Int) : Int × List Int -> Env := fun s => match s with | (v6, aa) => [(0, some (.ptr ⟨0, 0, 0, 1⟩ 432)), (4, some (.ptr ⟨2, 0, 0, 1⟩ 16)), (5, some (.ptr ⟨3, 0, 0, 1⟩ 16)), (6, some (.int .i64 v6))]
def ZvZ (t k b : List Int) : Int × List Int -> Heap := fun s => match s with | (v6, aa) => ⟨4, [(0, some ⟨false, [.ints .u8 256 t, .ints .u8 176 k], 0⟩), (2, some ⟨true, [.ints .u8 16 (List.replicate 16 0)], 0⟩), (3, some ⟨true, [.ints .u8 16 aa], 0⟩)]⟩
def ZhS (w0 : World) (fp : Nat -> Nat -> Prop) (ρi : Rho) (Kf : SVal -> Heap -> Prop) (t k b : List Int) (v6 : Int) (aa : List Int) : ZaY := Zb2 1 (Zxq t k b) (Zvy t k b) (Zwo t k b) (ZvZ t k b) (v6, aa) (ZwW w0 fp ρi Kf t k b)
abbrev Yj0 (x0 x1 x2 : List Int) : Heap := ⟨4, [(0, some ⟨false, [.ints .u8 256 x0, .ints .u8 176 x1], 0⟩), (2, some ⟨true, [.ints .u8 16 (List.replicate 16 0)], 0⟩), (3, some ⟨true, [.ints .u8 16 x2], 0⟩)]⟩
abbrev Yj1 (x0 : Int) : Env := [(0, some (.ptr ⟨0, 0, 0, 1⟩ 432)), (4, some (.ptr ⟨2, 0, 0, 1⟩ 16)), (5, some (.ptr ⟨3, 0, 0, 1⟩ 16)), (6, some (.int .i64 x0))]
theorem ZHN (t k b : List Int) (v6 : Int) (ad aa : List Int) (Z : Env -> Heap -> Prop) (h : Z [(0, some (.ptr ⟨0, 0, 0, 1⟩ 432)), (4, some (.ptr ⟨2, 0, 0, 1⟩ 16)), (5, some (.ptr ⟨3, 0, 0, 1⟩ 16)), (6, some (.int .i64 (IntKind.i64.wrap (v6 + 1))))] (Yj0 t k ad)) : EvC ZiB ZeA (Yj1 v6) (Yj0 t k ad) [0, 4, 5, 6] [0, 2, 3] Z := EvC.of (by kernel_rfl) h
def ZuD (t k b : List Int) (v6 : Int) (ad aa : List Int) : Prop := (1 <= (IntKind.i64.wrap (v6 + 1)) /\ (IntKind.i64.wrap (v6 + 1)) <= 11 /\ ad = stR k b ((IntKind.i64.wrap (v6 + 1)) - 1).toNat) /\ (((11 - (IntKind.i64.wrap (v6 + 1))).toNat) < ((11 - v6).toNat))
theorem ZLc (t k b : List Int) (hK : Zct t k b Kf) (v6 : Int) (ad aa : List Int) (h : ZuD t k b v6 ad aa) : SemL Try.prog w0 fp ρi 1 33 [ZeA] (Yj1 v6) (Yj0 t k ad) (ZhS w0 fp ρi Kf t k b v6 aa) :=
  Zad Zfb (ZHN t k b v6 ad aa _ (ZaO (Zay (x' := ((IntKind.i64.wrap (v6 + 1)), ad)) (τ := tau []) h.1 h.2 (Zao [] [0, 2, 3] rfl rfl (esc bpt (esc bpt (esc bpt (esc pbd Zak)))) (hsc pcs (hsc pcs (hsc pcs Zae))) (by kernel_rfl) rfl))))
def ZjF (w0 : World) (fp : Nat -> Nat -> Prop) (ρi : Rho) (Kf : SVal -> Heap -> Prop) (t k b : List Int) (v6 : Int) (aa : List Int) : ZaY := Zax 1 (fun e H => SemL Try.prog w0 fp ρi 1 33 [ZeA] e H (ZhS w0 fp ρi Kf t k b v6 aa)) (ZhS w0 fp ρi Kf t k b v6 aa)
theorem ZHM (t k b : List Int) (v6 : Int) (ac aa : List Int) (Z : Env -> Heap -> Prop) (h : ((0 <= v6)) /\ ((v6 < 11)) /\ ((((0 + ((Int.toNat v6) * 16)) + 16) <= 176)) /\ ((Zaz ac /\ Zaz (List.take 16 (List.drop (0 + ((Int.toNat v6) * 16)) k)))) /\ (((0 : Nat) = 0)) /\ Z (Yj1 v6) ⟨4, [(0, some ⟨false, [.ints .u8 256 t, .ints .u8 176 k], 0⟩), (2, some ⟨true, [.ints .u8 16 (List.replicate 16 0)], 0⟩), (3, some ⟨true, [.ints .u8 16 (ZdX ac (List.take 16 (List.drop (0 + ((Int.toNat v6) * 16)) k)))], 0⟩)]⟩) : EvC ZiB ZeB (Yj1 v6) (Yj0 t k ac) [0, 4, 5, 6] [0, 2, 3] Z := EvC.of (by kernel_rfl) h
def ZrQ (t k b : List Int) (v6 : Int) (ac aa : List Int) : Prop := ((0 <= v6)) /\ (((v6 < 11)) /\ (((((0 + ((Int.toNat v6) * 16)) + 16) <= 176)) /\ (((Zaz ac /\ Zaz (List.take 16 (List.drop (0 + ((Int.toNat v6) * 16)) k)))) /\ (∀ ad : List Int, ad = (ZdX ac (List.take 16 (List.drop (0 + ((Int.toNat v6) * 16)) k))) -> ZuD t k b v6 ad aa))))
theorem ZzT (t k b : List Int) (hK : Zct t k b Kf) (v6 : Int) (ac aa : List Int) (h : ZrQ t k b v6 ac aa) : SemL Try.prog w0 fp ρi 1 33 [ZeB] (Yj1 v6) (Yj0 t k ac) (ZjF w0 fp ρi Kf t k b v6 aa) :=
  Zad Zfb (ZHM t k b v6 ac aa _ ⟨h.1, ⟨h.2.1, ⟨h.2.2.1, ⟨h.2.2.2.1, ⟨rfl, (ZaO (ZLc t k b hK v6 (ZdX ac (List.take 16 (List.drop (0 + ((Int.toNat v6) * 16)) k))) aa (h.2.2.2.2 (ZdX ac (List.take 16 (List.drop (0 + ((Int.toNat v6) * 16)) k))) rfl)))⟩⟩⟩⟩⟩)
theorem ZHL (t k b : List Int) (v6 : Int) (ab aa : List Int) (Z : Env -> Heap -> Prop) (h : ((Zaz ab)) /\ (((0 : Nat) = 0)) /\ Z (Yj1 v6) ⟨4, [(0, some ⟨false, [.ints .u8 256 t, .ints .u8 176 k], 0⟩), (2, some ⟨true, [.ints .u8 16 (List.replicate 16 0)], 0⟩), (3, some ⟨true, [.ints .u8 16 (Zf5 ab)], 0⟩)]⟩) : EvC ZiB ZqO (Yj1 v6) (Yj0 t k ab) [0, 4, 5, 6] [0, 2, 3] Z := EvC.of (by kernel_rfl) h
def ZuC (t k b : List Int) (v6 : Int) (ab aa : List Int) : Prop := ((Zaz ab)) /\ (∀ ac : List Int, ac = (Zf5 ab) -> ZrQ t k b v6 ac aa)
theorem ZLb (t k b : List Int) (hK : Zct t k b Kf) (v6 : Int) (ab aa : List Int) (h : ZuC t k b v6 ab aa) : SemL Try.prog w0 fp ρi 1 33 [ZqO, ZeB] (Yj1 v6) (Yj0 t k ab) (ZjF w0 fp ρi Kf t k b v6 aa) :=
  Zad Zfb (ZHL t k b v6 ab aa _ ⟨h.1, ⟨rfl, (ZzT t k b hK v6 (Zf5 ab) aa (h.2 (Zf5 ab) rfl))⟩⟩)
def ZrP (t k b : List Int) (v6 : Int) (ab aa : List Int) : Prop := ((decide (v6 < 10)) = true -> (ZuC t k b v6 ab aa)) /\ ((decide (v6 < 10)) = false -> (ZrQ t k b v6 ab aa))
abbrev Yj2 (x0 : Int) : Env := [(0, some (.ptr ⟨0, 0, 0, 1⟩ 432)), (4, some (.ptr ⟨2, 0, 0, 1⟩ 16)), (5, some (.ptr ⟨3, 0, 0, 1⟩ 16)), (6, some (.int .i64 x0)), (23, some (.bool (decide (x0 < 10))))]
theorem ZLa (t k b : List Int) (hK : Zct t k b Kf) (v6 : Int) (ab aa : List Int) (h : ZrP t k b v6 ab aa) : SemL Try.prog w0 fp ρi 1 33 [Zm4, ZeB] (Yj2 v6) (Yj0 t k ab) (ZjF w0 fp ρi Kf t k b v6 aa) :=
  ZaJ (q := (decide (v6 < 10))) (by kernel_rfl) (fun hq => (lpk [0, 4, 5, 6] [0, 2, 3] (ZLb t k b hK v6 ab aa (h.1 hq)))) (fun hq => (ZaI (lpk [0, 4, 5, 6] [0, 2, 3] (ZzT t k b hK v6 ab aa (h.2 hq)))))
theorem ZHK (t k b : List Int) (v6 : Int) (ab aa : List Int) (Z : Env -> Heap -> Prop) (h : Z (Yj2 v6) (Yj0 t k ab)) : EvC ZiB Zm5 (Yj1 v6) (Yj0 t k ab) [0, 4, 5, 6, 23] [0, 2, 3] Z := EvC.of (by kernel_rfl) h
theorem ZK9 (t k b : List Int) (hK : Zct t k b Kf) (v6 : Int) (ab aa : List Int) (h : ZrP t k b v6 ab aa) : SemL Try.prog w0 fp ρi 1 33 [Zm5, Zm4, ZeB] (Yj1 v6) (Yj0 t k ab) (ZjF w0 fp ρi Kf t k b v6 aa) :=
  Zad Zfb (ZHK t k b v6 ab aa _ (ZLa t k b hK v6 ab aa h))
theorem ZHJ (t k b : List Int) (v6 : Int) (aa : List Int) (Z : Env -> Heap -> Prop) (h : ((Zaz aa /\ t = sboxT)) /\ (((0 : Nat) = 0)) /\ Z (Yj1 v6) ⟨4, [(0, some ⟨false, [.ints .u8 256 t, .ints .u8 176 k], 0⟩), (2, some ⟨true, [.ints .u8 16 (List.replicate 16 0)], 0⟩), (3, some ⟨true, [.ints .u8 16 (Za7 aa)], 0⟩)]⟩) : EvC ZiB ZqP (Yj1 v6) (Yj0 t k aa) [0, 4, 5, 6] [0, 2, 3] Z := EvC.of (by kernel_rfl) h
def ZrO (t k b : List Int) (v6 : Int) (aa : List Int) : Prop := ((Zaz aa /\ t = sboxT)) /\ (∀ ab : List Int, ab = (Za7 aa) -> ZrP t k b v6 ab aa)
theorem ZK8 (t k b : List Int) (hK : Zct t k b Kf) (v6 : Int) (aa : List Int) (h : ZrO t k b v6 aa) : SemL Try.prog w0 fp ρi 1 33 [ZqP, (.seq (.seq Zm5 Zm4) ZeB)] (Yj1 v6) (Yj0 t k aa) (ZjF w0 fp ρi Kf t k b v6 aa) :=
  Zad Zfb (ZHJ t k b v6 aa _ ⟨h.1, ⟨rfl, (Zah (Zah (ZK9 t k b hK v6 (Za7 aa) aa (h.2 (Za7 aa) rfl))))⟩⟩)
theorem ZK7 (t k b : List Int) (hK : Zct t k b Kf) (v6 : Int) (aa : List Int) (h : ZrO t k b v6 aa) : SemL Try.prog w0 fp ρi 1 33 [ZiZ, ZeA] (Yj1 v6) (Yj0 t k aa) (ZhS w0 fp ρi Kf t k b v6 aa) :=
  Zat (Zah (ZK8 t k b hK v6 aa h))
abbrev Yj3 (x0 x1 x2 : List Int) : Heap := ⟨4, [(0, some ⟨false, [.ints .u8 256 x0, .ints .u8 176 x1], 0⟩), (2, some ⟨true, [.ints .u8 16 x2], 0⟩)]⟩
abbrev Yj4 : Env := [(4, some (.ptr ⟨2, 0, 0, 1⟩ 16)), (5, some (.ptr ⟨3, 0, 0, 1⟩ 16))]
theorem ZHI (t k b aa : List Int) (Z : Env -> Heap -> Prop) (h : Z [(4, some (.ptr ⟨2, 0, 0, 1⟩ 16))] (Yj3 t k aa)) : EvC ZiB ZcN Yj4 (Yj0 t k aa) [4] [0, 2] Z := EvC.of (by kernel_rfl) h
theorem ZCd (t k b aa : List Int) : RetC ZiA [(4, some (.ptr ⟨2, 0, 0, 1⟩ 16))] (Yj3 t k aa) (.agg [.ints .u8 16 aa]) := RetC.of (fun Z => by kernel_rfl)
def ZuB (t k b aa : List Int) : Prop := aa = (ZdO k b)
theorem ZK6 (t k b : List Int) (hK : Zct t k b Kf) (aa : List Int) (h : ZuB t k b aa) : SemL Try.prog w0 fp ρi 1 33 [ZcN, .ret] Yj4 (Yj0 t k aa) (fnK ZiA 1 Kf) :=
  Zad Zfb (ZHI t k b aa _ (Zbv (R := ZiA) (m := 1) (Kf := Kf) (fun _ _ h => h) (ZCd t k b aa) (Zb4 (Eq.mpr (cg1 (fun (z1 : List Int) => Zkj 1 Kf (.agg [.ints .u8 16 z1]) (Yj3 t k aa)) h) (Zbm [] [0] rfl (by kernel_rfl) rfl pbd (hsc pcs Zae) rfl (by kernel_rfl) (hK))))))
def ZrN (t k b : List Int) (v6 : Int) (aa : List Int) : Prop := ((decide (v6 <= 10)) = true -> (ZrO t k b v6 aa)) /\ ((decide (v6 <= 10)) = false -> (ZuB t k b aa))
abbrev Yj5 (x0 : Int) : Env := [(0, some (.ptr ⟨0, 0, 0, 1⟩ 432)), (4, some (.ptr ⟨2, 0, 0, 1⟩ 16)), (5, some (.ptr ⟨3, 0, 0, 1⟩ 16)), (6, some (.int .i64 x0)), (15, some (.bool (decide (x0 <= 10))))]
theorem ZK5 (t k b : List Int) (hK : Zct t k b Kf) (v6 : Int) (aa : List Int) (h : ZrN t k b v6 aa) : SemL Try.prog w0 fp ρi 1 33 [ZqQ, (.seq ZiZ ZeA)] (Yj5 v6) (Yj0 t k aa) (ZhS w0 fp ρi Kf t k b v6 aa) :=
  ZaJ (q := (decide (v6 <= 10))) (by kernel_rfl) (fun hq => (ZaI (lpk [0, 4, 5, 6] [0, 2, 3] (Zah (ZK7 t k b hK v6 aa (h.1 hq)))))) (fun hq => (Zbb (lpk [4, 5] [0, 2, 3] (Zah (ZK6 t k b hK aa (h.2 hq))))))
theorem ZHH (t k b : List Int) (v6 : Int) (aa : List Int) (Z : Env -> Heap -> Prop) (h : Z (Yj5 v6) (Yj0 t k aa)) : EvC ZiB ZqR (Yj1 v6) (Yj0 t k aa) [0, 4, 5, 6, 15] [0, 2, 3] Z := EvC.of (by kernel_rfl) h
theorem ZK4 (t k b : List Int) (hK : Zct t k b Kf) (v6 : Int) (aa : List Int) (h : ZrN t k b v6 aa) : SemL Try.prog w0 fp ρi 1 33 [ZqR, ZqQ, (.seq ZiZ ZeA)] (Yj1 v6) (Yj0 t k aa) (ZhS w0 fp ρi Kf t k b v6 aa) :=
  Zad Zfb (ZHH t k b v6 aa _ (ZK5 t k b hK v6 aa h))
def Zjh (t k b h3 : List Int) : Prop := (1 <= (1 : Int) /\ (1 : Int) <= 11 /\ h3 = stR k b ((1 : Int) - 1).toNat) /\ (∀ (v6 : Int) (aa : List Int), (1 <= v6 /\ v6 <= 11 /\ aa = stR k b (v6 - 1).toNat) -> (ZrN t k b v6 aa))
abbrev Yj6 : Env := [(0, some (.ptr ⟨0, 0, 0, 1⟩ 432)), (4, some (.ptr ⟨2, 0, 0, 1⟩ 16)), (5, some (.ptr ⟨3, 0, 0, 1⟩ 16)), (6, some (.int .i64 1))]
theorem ZEc (t k b : List Int) (hK : Zct t k b Kf) (h3 : List Int) (h : Zjh t k b h3) : SemL Try.prog w0 fp ρi 1 33 [ZsD] Yj6 (Yj0 t k h3) (ZwW w0 fp ρi Kf t k b) :=
  Zbd (Zxq t k b) (Zvy t k b) (Zwo t k b) (ZvZ t k b) ⟨(1, h3), tau [], h.1, (Zao [] [0, 2, 3] rfl rfl (esc bpt (esc bpt (esc bpt (esc pbd Zak)))) (hsc pcs (hsc pcs (hsc pcs Zae))) (by kernel_rfl) rfl)⟩ (fun s => match s with | (v6, aa) => fun hi => (Zah (Zah (ZK4 t k b hK v6 aa (h.2 v6 aa hi)))))
theorem ZEb (t k b : List Int) (hK : Zct t k b Kf) (h3 : List Int) (h : Zjh t k b h3) : SemL Try.prog w0 fp ρi 1 33 [ZfJ, (.seq ZcN .ret)] Yj6 (Yj0 t k h3) (fnK ZiA 1 Kf) :=
  Zat (ZEc t k b hK h3 h)
abbrev Yj7 : Env := [(0, some (.ptr ⟨0, 0, 0, 1⟩ 432)), (4, some (.ptr ⟨2, 0, 0, 1⟩ 16)), (5, some (.ptr ⟨3, 0, 0, 1⟩ 16))]
theorem ZBR (t k b h3 : List Int) (Z : Env -> Heap -> Prop) (h : Z Yj6 (Yj0 t k h3)) : EvC ZiB Zh3 Yj7 (Yj0 t k h3) [0, 4, 5, 6] [0, 2, 3] Z := EvC.of (by kernel_rfl) h
theorem ZEa (t k b : List Int) (hK : Zct t k b Kf) (h3 : List Int) (h : Zjh t k b h3) : SemL Try.prog w0 fp ρi 1 33 [Zh3, ZfJ, (.seq ZcN .ret)] Yj7 (Yj0 t k h3) (fnK ZiA 1 Kf) :=
  Zad Zfb (ZBR t k b h3 _ (ZEb t k b hK h3 h))
theorem ZBQ (t k b : List Int) (Z : Env -> Heap -> Prop) (h : (((0 : Int) <= 0)) /\ (((0 : Int) < 11)) /\ (((16 : Nat) <= 176)) /\ ((Zaz b /\ Zaz (List.take 16 k))) /\ (((0 : Nat) = 0)) /\ Z Yj7 ⟨4, [(0, some ⟨false, [.ints .u8 256 t, .ints .u8 176 k], 0⟩), (2, some ⟨true, [.ints .u8 16 (List.replicate 16 0)], 0⟩), (3, some ⟨true, [.ints .u8 16 (ZdX b (List.take 16 k))], 0⟩)]⟩) : EvC ZiB Zkd Yj7 (Yj0 t k b) [0, 4, 5] [0, 2, 3] Z := EvC.of (by kernel_rfl) h
def Zhm (t k b : List Int) : Prop := ((Zaz b /\ Zaz (List.take 16 k))) /\ (∀ h3 : List Int, h3 = (ZdX b (List.take 16 k)) -> Zjh t k b h3)
theorem ZD9 (t k b : List Int) (hK : Zct t k b Kf) (h : Zhm t k b) : SemL Try.prog w0 fp ρi 1 33 [Zkd, (.seq (.seq Zh3 ZfJ) (.seq ZcN .ret))] Yj7 (Yj0 t k b) (fnK ZiA 1 Kf) :=
  Zad Zfb (ZBQ t k b _ ⟨(by decide), ⟨(by decide), ⟨(by decide), ⟨h.1, ⟨rfl, (Zah (Zah (ZEa t k b hK (ZdX b (List.take 16 k)) (h.2 (ZdX b (List.take 16 k)) rfl))))⟩⟩⟩⟩⟩)
abbrev Yj8 : Env := [(0, some (.ptr ⟨0, 0, 0, 1⟩ 432)), (3, some (.ptr ⟨1, 0, 0, 1⟩ 16)), (4, some (.ptr ⟨2, 0, 0, 1⟩ 16))]
abbrev Yj9 (x0 x1 x2 : List Int) : Heap := ⟨3, [(0, some ⟨false, [.ints .u8 256 x0, .ints .u8 176 x1], 0⟩), (1, some ⟨true, [.ints .u8 16 x2], 0⟩), (2, some ⟨true, [.ints .u8 16 (List.replicate 16 0)], 0⟩)]⟩
theorem ZBP (t k b : List Int) (Z : Env -> Heap -> Prop) (h : Z Yj7 (Yj0 t k b)) : EvC ZiB Zm6 Yj8 (Yj9 t k b) [0, 4, 5] [0, 2, 3] Z := EvC.of (by kernel_rfl) h
theorem ZD8 (t k b : List Int) (hK : Zct t k b Kf) (h : Zhm t k b) : SemL Try.prog w0 fp ρi 1 33 [Zm6, (.seq Zkd (.seq (.seq Zh3 ZfJ) (.seq ZcN .ret)))] Yj8 (Yj9 t k b) (fnK ZiA 1 Kf) :=
  Zad Zfb (ZBP t k b _ (Zah (ZD9 t k b hK h)))
abbrev ZNa (x0 : List Int) : Env := [(0, some (.ptr ⟨0, 0, 0, 1⟩ 432)), (1, some (.agg [.ints .u8 16 x0]))]
abbrev ZM9 (x0 x1 : List Int) : Heap := ⟨1, [(0, some ⟨false, [.ints .u8 256 x0, .ints .u8 176 x1], 0⟩)]⟩
theorem ZBO (t k b : List Int) (Z : Env -> Heap -> Prop) (h : Z Yj8 (Yj9 t k b)) : EvC ZiB ZqS (ZNa b) (ZM9 t k) [0, 3, 4] [0, 1, 2] Z := EvC.of (by kernel_rfl) h
theorem ZD7 (t k b : List Int) (hK : Zct t k b Kf) (h : Zhm t k b) : SemL Try.prog w0 fp ρi 1 33 [ZqS, (.seq Zm6 (.seq Zkd (.seq (.seq Zh3 ZfJ) (.seq ZcN .ret))))] (ZNa b) (ZM9 t k) (fnK ZiA 1 Kf) :=
  Zad Zfb (ZBO t k b _ (Zah (ZD8 t k b hK h)))
theorem ZL0 (t k b : List Int) (hK : Zct t k b Kf) (h : Zhm t k b) : SemL Try.prog w0 fp ρi 1 33 [ZLD] (ZNa b) (ZM9 t k) (fnK ZiA 1 Kf) :=
  (Zah (ZD7 t k b hK h))
end
theorem ZLl (t k b : List Int) (hpre : (t = sboxT /\ Zhd k /\ Zaz b)) : Zhm t k b := by
  unfold Zhm Zjh ZrN ZuB ZrO ZrP ZuC ZrQ ZuD
  obtain ⟨h1, h2, h3⟩ := hpre
  refine ⟨⟨h3, ZwY (r := 0) h2 (by omega)⟩, ?_⟩
  rintro h3' rfl
  refine ⟨⟨by omega, by omega, rfl⟩, ?_⟩
  rintro v6 hh ⟨i0, i1, rfl⟩
  obtain ⟨r, hr⟩ : ∃ r : Nat, (v6 - 1).toNat = r := ⟨_, rfl⟩
  rw [hr]
  refine ⟨fun hlt => ?_, fun hge => ?_⟩
  · have hlt := of_decide_eq_true hlt
    have w1 : IntKind.i64.wrap (v6 + 1) = v6 + 1 := by rw [ZdQ]; omega
    have e1 : (v6 + 1 - 1).toNat = r + 1 := by omega
    rw [w1, e1, Nat.zero_add, show v6.toNat * 16 = 16 * (r + 1) by omega]
    refine ⟨⟨ZkA _ _ _, h1⟩, ?_⟩
    rintro s1 rfl
    refine ⟨fun h => ?_, fun h => ?_⟩
    · have h := of_decide_eq_true h
      refine ⟨ZeX _, ?_⟩
      rintro s2 rfl
      refine ⟨by omega, by omega, by omega, ⟨ZoU _, ZwY h2 (by omega)⟩, ?_⟩
      rintro s3 rfl
      refine ⟨⟨by omega, by omega, ?_⟩, by omega⟩
      rw [stR, if_pos (by omega)]
    · have h := of_decide_eq_false h
      refine ⟨by omega, by omega, by omega, ⟨ZeX _, ZwY h2 (by omega)⟩, ?_⟩
      rintro s3 rfl
      refine ⟨⟨by omega, by omega, ?_⟩, by omega⟩
      rw [stR, if_neg (by omega)]
  · have hge := of_decide_eq_false hge
    have : r = 10 := by omega
    subst this
    rfl
theorem ZFz : Sound Try.prog 11 (gS ZEU) := by
  refine ZaC Zto ?_
  intro args H K h
  obtain ⟨pre, out, hD, hpre, hK⟩ := Zdv h
  unfold ZEU at hD
  split at hD
  · obtain ⟨hb, hD⟩ := Zas hD
    simp only [Bool.and_eq_true] at hb
    obtain ⟨⟨h0, h1⟩, h2⟩ := hb
    obtain rfl := Nat.eq_of_beq_eq_true h0
    obtain rfl := Nat.eq_of_beq_eq_true h1
    obtain rfl := Nat.eq_of_beq_eq_true h2
    cases hD
    exact ⟨rfl, fun w0 fp ρi => ZL0 _ _ _ hK (ZLl _ _ _ hpre)⟩
  · cases hD
end Go.Proofs.Ytfffjdfegnmejaa
