/- Part of the proof: SxAesQ. -/
import Derived.Test.YtfffjdfegnmejaaSxAesW
import Derived.Test.YtfffjdfegnmejaaSxAes9
import Derived.KernelRfl
set_option linter.unusedVariables false
set_option linter.unusedSimpArgs false
set_option maxRecDepth 20000
namespace Go.Proofs.Ytfffjdfegnmejaa
open Go.Sx
def Znp : Zgt := fun args => match args with
  | [.int .u8 a, .int .u8 b] => some (((0 <= a /\ a < 256) /\ (0 <= b /\ b < 256)), .int .u8 (Zb1 a b))
  | _ => none
def Zjr : PCon := ⟨44, Znp⟩
def Zpt : ACode := .reg (.op (some 4) (.mov (.cn (.int .u8 0))) .nil)
def Zl5 : ACode := .reg (.op (some 5) (.mov (.cn (.int .i64 0))) .nil)
def ZjT : ACode := .reg (.op (some 6) (.mov (.cn (.int .i64 0))) .nil)
def Zps : ACode := .reg (.op (some 8) (.mov (.tm 6)) (.op (some 9) (.bin .lss (.tm 8) (.cn (.int .i64 8))) .nil))
def Zpr : ACode := .cond (.tm 9) .skip (.exit 0)
def Zpq : ACode := .reg (.op (some 12) (.mov (.tm 1)) (.op (some 13) (.mov (.tm 6)) (.op (some 14) (.bin .shr (.tm 12) (.tm 13)) (.op (some 15) (.bin .and (.tm 14) (.cn (.int .u8 1))) (.op (some 16) (.bin .eql (.tm 15) (.cn (.int .u8 1))) .nil)))))
def Zpp : ACode := .reg (.op (some 17) (.mov (.tm 5)) (.op (some 18) (.mov (.tm 0)) (.op (some 19) (.conv .i64 (.tm 18)) (.op (some 20) (.mov (.tm 6)) (.op (some 21) (.bin .shl (.tm 19) (.tm 20)) (.op (some 22) (.bin .xor (.tm 17) (.tm 21)) (.op (some 5) (.mov (.tm 22)) .nil)))))))
def Zpo : ACode := .cond (.tm 16) Zpp .skip
def ZlZ : ACode := .block 1 (.seq Zpq Zpo)
def Zgf : ACode := .reg (.op (some 10) (.mov (.tm 6)) (.op (some 11) (.bin .add (.tm 10) (.cn (.int .i64 1))) (.op (some 6) (.mov (.tm 11)) .nil)))
def Zsk : ACode := .loop (.seq (.seq Zps Zpr) (.seq ZlZ Zgf))
def ZgZ : ACode := .block 0 Zsk
def Zdy : ACode := .reg (.op (some 7) (.mov (.cn (.int .i64 14))) .nil)
def Zl4 : ACode := .reg (.op (some 23) (.mov (.tm 7)) (.op (some 24) (.bin .geq (.tm 23) (.cn (.int .i64 8))) .nil))
def Zl3 : ACode := .cond (.tm 24) .skip (.exit 2)
def Zl2 : ACode := .reg (.op (some 27) (.mov (.tm 5)) (.op (some 28) (.mov (.tm 7)) (.op (some 29) (.bin .shr (.tm 27) (.tm 28)) (.op (some 30) (.bin .and (.tm 29) (.cn (.int .i64 1))) (.op (some 31) (.bin .eql (.tm 30) (.cn (.int .i64 1))) .nil)))))
def Zl1 : ACode := .reg (.op (some 32) (.mov (.tm 5)) (.op (some 33) (.mov (.tm 7)) (.op (some 34) (.bin .sub (.tm 33) (.cn (.int .i64 8))) (.op (some 35) (.bin .shl (.cn (.int .i64 283)) (.tm 34)) (.op (some 36) (.bin .xor (.tm 32) (.tm 35)) (.op (some 5) (.mov (.tm 36)) .nil))))))
def Zl0 : ACode := .cond (.tm 31) Zl1 .skip
def ZiK : ACode := .block 3 (.seq Zl2 Zl0)
def Zeg : ACode := .reg (.op (some 25) (.mov (.tm 7)) (.op (some 26) (.bin .sub (.tm 25) (.cn (.int .i64 1))) (.op (some 7) (.mov (.tm 26)) .nil)))
def Zsj : ACode := .loop (.seq (.seq Zl4 Zl3) (.seq ZiK Zeg))
def Zdx : ACode := .block 2 Zsj
def Zcc : ACode := .reg (.op (some 37) (.mov (.tm 5)) (.op (some 38) (.conv .u8 (.tm 37)) (.op (some 4) (.mov (.tm 38)) .nil)))
def ZsF : ACode := (.seq Zpt (.seq Zl5 (.seq (.seq ZjT ZgZ) (.seq (.seq Zdy Zdx) (.seq Zcc .ret)))))
def Zbr : Res := .one (.tm 4)
theorem Zm9 : Zbj Try.prog 44 2 39 ZsF Zbr = true := by kernel_rfl
def ZbB : Zav := Zcl [] []
theorem Zbi : ZaK Try.prog ZbB := ZaL trivial trivial
section
variable {w0 : World} {fp : Nat -> Nat -> Prop} {ρi : Rho} {Kf : SVal -> Heap -> Prop}
def Zwu (w0 : World) (fp : Nat -> Nat -> Prop) (ρi : Rho) (Kf : SVal -> Heap -> Prop) (a b : Int) : ZaY := Zax 0 (fun e H => SemL Try.prog w0 fp ρi 0 39 [(.seq (.seq Zdy Zdx) (.seq Zcc .ret))] e H (fnK Zbr 0 Kf)) (fnK Zbr 0 Kf)
def Zw4 (a b : Int) : Int × Int -> Prop := fun s => match s with | (v5, v6) => 0 <= v6 /\ v6 <= 8 /\ v5 = ((qV v6.toNat (bv a) (bv b)).toNat : Nat)
def Zvc (a b : Int) : Int × Int -> Nat := fun s => match s with | (v5, v6) => ((8 - v6).toNat)
def Zv2 (a b : Int) : Int × Int -> Env := fun s => match s with | (v5, v6) => [(0, some (.int .u8 a)), (1, some (.int .u8 b)), (5, some (.int .i64 v5)), (6, some (.int .i64 v6))]
def ZvD (a b : Int) : Int × Int -> Heap := fun s => match s with | (v5, v6) => ⟨0, []⟩
def Zhv (w0 : World) (fp : Nat -> Nat -> Prop) (ρi : Rho) (Kf : SVal -> Heap -> Prop) (a b v5 v6 : Int) : ZaY := Zb2 0 (Zw4 a b) (Zvc a b) (Zv2 a b) (ZvD a b) (v5, v6) (Zwu w0 fp ρi Kf a b)
abbrev Yb0 : Heap := ⟨0, []⟩
abbrev Yb1 (x0 x1 x2 x3 : Int) : Env := [(0, some (.int .u8 x0)), (1, some (.int .u8 x1)), (5, some (.int .i64 x2)), (6, some (.int .i64 x3))]
theorem ZFV (a b ab v6 v5 : Int) (Z : Env -> Heap -> Prop) (h : Z [(0, some (.int .u8 a)), (1, some (.int .u8 b)), (5, some (.int .i64 ab)), (6, some (.int .i64 (IntKind.i64.wrap (v6 + 1))))] Yb0) : EvC ZbB Zgf (Yb1 a b ab v6) Yb0 [0, 1, 5, 6] [] Z := EvC.of (by kernel_rfl) h
def Zrg (a b ab v6 v5 : Int) : Prop := (0 <= (IntKind.i64.wrap (v6 + 1)) /\ (IntKind.i64.wrap (v6 + 1)) <= 8 /\ ab = ((qV (IntKind.i64.wrap (v6 + 1)).toNat (bv a) (bv b)).toNat : Nat)) /\ (((8 - (IntKind.i64.wrap (v6 + 1))).toNat) < ((8 - v6).toNat))
abbrev Yb2 (x0 : SVal -> Heap -> Prop) (x1 x2 : Int) : Prop := x0 (.int .u8 (Zb1 x1 x2)) ⟨0, []⟩
theorem ZzM (a b : Int) (hK : (Yb2 Kf a b)) (ab v6 v5 : Int) (h : Zrg a b ab v6 v5) : SemL Try.prog w0 fp ρi 0 39 [Zgf] (Yb1 a b ab v6) Yb0 (Zhv w0 fp ρi Kf a b v5 v6) :=
  Zad Zbi (ZFV a b ab v6 v5 _ (ZaO (Zay (x' := (ab, (IntKind.i64.wrap (v6 + 1)))) (τ := tau []) h.1 h.2 (Zao [] [] rfl rfl (esc pbd (esc pbd (esc pbd (esc pbd Zak)))) Zae (by kernel_rfl) rfl))))
def ZoX (w0 : World) (fp : Nat -> Nat -> Prop) (ρi : Rho) (Kf : SVal -> Heap -> Prop) (a b v5 v6 : Int) : ZaY := Zax 1 (fun e H => SemL Try.prog w0 fp ρi 0 39 [Zgf] e H (Zhv w0 fp ρi Kf a b v5 v6)) (Zhv w0 fp ρi Kf a b v5 v6)
theorem ZFU (a b v5 v6 : Int) (Z : Env -> Heap -> Prop) (h : ((0 <= v6)) /\ Z [(0, some (.int .u8 a)), (1, some (.int .u8 b)), (5, some (.int .i64 (Zar .i64 v5 (Zgv .i64 (IntKind.i64.wrap a) v6)))), (6, some (.int .i64 v6))] Yb0) : EvC ZbB Zpp (Yb1 a b v5 v6) Yb0 [0, 1, 5, 6] [] Z := EvC.of (by kernel_rfl) h
def ZtS (a b v5 v6 : Int) : Prop := ((0 <= v6)) /\ (∀ ab : Int, ab = (Zar .i64 v5 (Zgv .i64 (IntKind.i64.wrap a) v6)) -> Zrg a b ab v6 v5)
theorem ZIu (a b : Int) (hK : (Yb2 Kf a b)) (v5 v6 : Int) (h : ZtS a b v5 v6) : SemL Try.prog w0 fp ρi 0 39 [Zpp] (Yb1 a b v5 v6) Yb0 (ZoX w0 fp ρi Kf a b v5 v6) :=
  Zad Zbi (ZFU a b v5 v6 _ ⟨h.1, (ZaO (ZzM a b hK (Zar .i64 v5 (Zgv .i64 (IntKind.i64.wrap a) v6)) v6 v5 (h.2 (Zar .i64 v5 (Zgv .i64 (IntKind.i64.wrap a) v6)) rfl)))⟩)
def ZtR (a b v5 v6 : Int) : Prop := (((ZaR .u8 (ZbF .u8 b v6) 1) == 1) = true -> (ZtS a b v5 v6)) /\ (((ZaR .u8 (ZbF .u8 b v6) 1) == 1) = false -> (Zrg a b v5 v6 v5))
abbrev Yb3 (x0 x1 x2 x3 : Int) : Env := [(0, some (.int .u8 x0)), (1, some (.int .u8 x1)), (5, some (.int .i64 x2)), (6, some (.int .i64 x3)), (16, some (.bool ((ZaR .u8 (ZbF .u8 x1 x3) 1) == 1)))]
theorem ZIt (a b : Int) (hK : (Yb2 Kf a b)) (v5 v6 : Int) (h : ZtR a b v5 v6) : SemL Try.prog w0 fp ρi 0 39 [Zpo] (Yb3 a b v5 v6) Yb0 (ZoX w0 fp ρi Kf a b v5 v6) :=
  ZaJ (q := ((ZaR .u8 (ZbF .u8 b v6) 1) == 1)) (by kernel_rfl) (fun hq => (lpk [0, 1, 5, 6] [] (ZIu a b hK v5 v6 (h.1 hq)))) (fun hq => (ZaI (ZaO (P := Try.prog) (w0 := w0) (fp := fp) (ρi := ρi) (n0 := 0) (nt := 39) (lpk [0, 1, 5, 6] [] (ZzM a b hK v5 v6 v5 (h.2 hq))))))
theorem ZFT (a b v5 v6 : Int) (Z : Env -> Heap -> Prop) (h : ((0 <= v6)) /\ Z (Yb3 a b v5 v6) Yb0) : EvC ZbB Zpq (Yb1 a b v5 v6) Yb0 [0, 1, 5, 6, 16] [] Z := EvC.of (by kernel_rfl) h
def Zrf (a b v5 v6 : Int) : Prop := ((0 <= v6)) /\ (ZtR a b v5 v6)
theorem ZIs (a b : Int) (hK : (Yb2 Kf a b)) (v5 v6 : Int) (h : Zrf a b v5 v6) : SemL Try.prog w0 fp ρi 0 39 [Zpq, Zpo] (Yb1 a b v5 v6) Yb0 (ZoX w0 fp ρi Kf a b v5 v6) :=
  Zad Zbi (ZFT a b v5 v6 _ ⟨h.1, (ZIt a b hK v5 v6 h.2)⟩)
theorem ZIr (a b : Int) (hK : (Yb2 Kf a b)) (v5 v6 : Int) (h : Zrf a b v5 v6) : SemL Try.prog w0 fp ρi 0 39 [ZlZ, Zgf] (Yb1 a b v5 v6) Yb0 (Zhv w0 fp ρi Kf a b v5 v6) :=
  Zat (Zah (ZIs a b hK v5 v6 h))
def Zwt (w0 : World) (fp : Nat -> Nat -> Prop) (ρi : Rho) (Kf : SVal -> Heap -> Prop) (a b : Int) : ZaY := Zax 2 (fun e H => SemL Try.prog w0 fp ρi 0 39 [(.seq Zcc .ret)] e H (fnK Zbr 0 Kf)) (fnK Zbr 0 Kf)
def Zw3 (a b : Int) : Int × Int -> Prop := fun s => match s with | (aa, v7) => 7 <= v7 /\ v7 <= 14 /\ aa = ((rV (14 - v7).toNat (qV 8 (bv a) (bv b))).toNat : Nat)
def Zvb (a b : Int) : Int × Int -> Nat := fun s => match s with | (aa, v7) => ((v7 - 7).toNat)
def Zv1 (a b : Int) : Int × Int -> Env := fun s => match s with | (aa, v7) => [(5, some (.int .i64 aa)), (7, some (.int .i64 v7))]
def ZvC (a b : Int) : Int × Int -> Heap := fun s => match s with | (aa, v7) => ⟨0, []⟩
def Zhu (w0 : World) (fp : Nat -> Nat -> Prop) (ρi : Rho) (Kf : SVal -> Heap -> Prop) (a b aa v7 : Int) : ZaY := Zb2 0 (Zw3 a b) (Zvb a b) (Zv1 a b) (ZvC a b) (aa, v7) (Zwt w0 fp ρi Kf a b)
abbrev Yb4 (x0 x1 : Int) : Env := [(5, some (.int .i64 x0)), (7, some (.int .i64 x1))]
theorem ZFS (a b ac v7 aa : Int) (Z : Env -> Heap -> Prop) (h : Z [(5, some (.int .i64 ac)), (7, some (.int .i64 (IntKind.i64.wrap (v7 - 1))))] Yb0) : EvC ZbB Zeg (Yb4 ac v7) Yb0 [5, 7] [] Z := EvC.of (by kernel_rfl) h
def Zre (a b ac v7 aa : Int) : Prop := (7 <= (IntKind.i64.wrap (v7 - 1)) /\ (IntKind.i64.wrap (v7 - 1)) <= 14 /\ ac = ((rV (14 - (IntKind.i64.wrap (v7 - 1))).toNat (qV 8 (bv a) (bv b))).toNat : Nat)) /\ ((((IntKind.i64.wrap (v7 - 1)) - 7).toNat) < ((v7 - 7).toNat))
theorem ZzL (a b : Int) (hK : (Yb2 Kf a b)) (ac v7 aa : Int) (h : Zre a b ac v7 aa) : SemL Try.prog w0 fp ρi 0 39 [Zeg] (Yb4 ac v7) Yb0 (Zhu w0 fp ρi Kf a b aa v7) :=
  Zad Zbi (ZFS a b ac v7 aa _ (ZaO (Zay (x' := (ac, (IntKind.i64.wrap (v7 - 1)))) (τ := tau []) h.1 h.2 (Zao [] [] rfl rfl (esc pbd (esc pbd Zak)) Zae (by kernel_rfl) rfl))))
def ZoW (w0 : World) (fp : Nat -> Nat -> Prop) (ρi : Rho) (Kf : SVal -> Heap -> Prop) (a b aa v7 : Int) : ZaY := Zax 3 (fun e H => SemL Try.prog w0 fp ρi 0 39 [Zeg] e H (Zhu w0 fp ρi Kf a b aa v7)) (Zhu w0 fp ρi Kf a b aa v7)
theorem ZFR (a b aa v7 : Int) (Z : Env -> Heap -> Prop) (h : ((0 <= (IntKind.i64.wrap (v7 - 8)))) /\ Z [(5, some (.int .i64 (Zar .i64 aa (Zgv .i64 283 (IntKind.i64.wrap (v7 - 8)))))), (7, some (.int .i64 v7))] Yb0) : EvC ZbB Zl1 (Yb4 aa v7) Yb0 [5, 7] [] Z := EvC.of (by kernel_rfl) h
def ZtQ (a b aa v7 : Int) : Prop := ((0 <= (IntKind.i64.wrap (v7 - 8)))) /\ (∀ ac : Int, ac = (Zar .i64 aa (Zgv .i64 283 (IntKind.i64.wrap (v7 - 8)))) -> Zre a b ac v7 aa)
theorem ZIq (a b : Int) (hK : (Yb2 Kf a b)) (aa v7 : Int) (h : ZtQ a b aa v7) : SemL Try.prog w0 fp ρi 0 39 [Zl1] (Yb4 aa v7) Yb0 (ZoW w0 fp ρi Kf a b aa v7) :=
  Zad Zbi (ZFR a b aa v7 _ ⟨h.1, (ZaO (ZzL a b hK (Zar .i64 aa (Zgv .i64 283 (IntKind.i64.wrap (v7 - 8)))) v7 aa (h.2 (Zar .i64 aa (Zgv .i64 283 (IntKind.i64.wrap (v7 - 8)))) rfl)))⟩)
def ZtP (a b aa v7 : Int) : Prop := (((ZaR .i64 (ZbF .i64 aa v7) 1) == 1) = true -> (ZtQ a b aa v7)) /\ (((ZaR .i64 (ZbF .i64 aa v7) 1) == 1) = false -> (Zre a b aa v7 aa))
abbrev Yb5 (x0 x1 : Int) : Env := [(5, some (.int .i64 x0)), (7, some (.int .i64 x1)), (31, some (.bool ((ZaR .i64 (ZbF .i64 x0 x1) 1) == 1)))]
theorem ZIp (a b : Int) (hK : (Yb2 Kf a b)) (aa v7 : Int) (h : ZtP a b aa v7) : SemL Try.prog w0 fp ρi 0 39 [Zl0] (Yb5 aa v7) Yb0 (ZoW w0 fp ρi Kf a b aa v7) :=
  ZaJ (q := ((ZaR .i64 (ZbF .i64 aa v7) 1) == 1)) (by kernel_rfl) (fun hq => (lpk [5, 7] [] (ZIq a b hK aa v7 (h.1 hq)))) (fun hq => (ZaI (ZaO (P := Try.prog) (w0 := w0) (fp := fp) (ρi := ρi) (n0 := 0) (nt := 39) (lpk [5, 7] [] (ZzL a b hK aa v7 aa (h.2 hq))))))
theorem ZFQ (a b aa v7 : Int) (Z : Env -> Heap -> Prop) (h : ((0 <= v7)) /\ Z (Yb5 aa v7) Yb0) : EvC ZbB Zl2 (Yb4 aa v7) Yb0 [5, 7, 31] [] Z := EvC.of (by kernel_rfl) h
def Zrd (a b aa v7 : Int) : Prop := ((0 <= v7)) /\ (ZtP a b aa v7)
theorem ZIo (a b : Int) (hK : (Yb2 Kf a b)) (aa v7 : Int) (h : Zrd a b aa v7) : SemL Try.prog w0 fp ρi 0 39 [Zl2, Zl0] (Yb4 aa v7) Yb0 (ZoW w0 fp ρi Kf a b aa v7) :=
  Zad Zbi (ZFQ a b aa v7 _ ⟨h.1, (ZIp a b hK aa v7 h.2)⟩)
theorem ZIn (a b : Int) (hK : (Yb2 Kf a b)) (aa v7 : Int) (h : Zrd a b aa v7) : SemL Try.prog w0 fp ρi 0 39 [ZiK, Zeg] (Yb4 aa v7) Yb0 (Zhu w0 fp ρi Kf a b aa v7) :=
  Zat (Zah (ZIo a b hK aa v7 h))
abbrev Yb6 (x0 : Int) : Env := [(5, some (.int .i64 x0))]
theorem ZAS (a b aa : Int) (Z : Env -> Heap -> Prop) (h : Z [(4, some (.int .u8 (IntKind.u8.wrap aa)))] Yb0) : EvC ZbB Zcc (Yb6 aa) Yb0 [4] [] Z := EvC.of (by kernel_rfl) h
theorem ZBU (a b aa : Int) : RetC Zbr [(4, some (.int .u8 (IntKind.u8.wrap aa)))] Yb0 (.int .u8 (IntKind.u8.wrap aa)) := RetC.of (fun Z => by kernel_rfl)
def ZoD (a b aa : Int) : Prop := (IntKind.u8.wrap aa) = (Zb1 a b)
theorem ZCA (a b : Int) (hK : (Yb2 Kf a b)) (aa : Int) (h : ZoD a b aa) : SemL Try.prog w0 fp ρi 0 39 [Zcc, .ret] (Yb6 aa) Yb0 (fnK Zbr 0 Kf) :=
  Zad Zbi (ZAS a b aa _ (Zbv (R := Zbr) (m := 0) (Kf := Kf) (fun _ _ h => h) (ZBU a b aa) (Zbg rfl (by kernel_rfl) (cg1 (fun (z1 : Int) => (.int .u8 z1 : SVal)) h) hK)))
def Zk8 (a b aa v7 : Int) : Prop := ((decide (8 <= v7)) = true -> (Zrd a b aa v7)) /\ ((decide (8 <= v7)) = false -> (ZoD a b aa))
abbrev Yb7 (x0 x1 : Int) : Env := [(5, some (.int .i64 x0)), (7, some (.int .i64 x1)), (24, some (.bool (decide (8 <= x1))))]
theorem ZCz (a b : Int) (hK : (Yb2 Kf a b)) (aa v7 : Int) (h : Zk8 a b aa v7) : SemL Try.prog w0 fp ρi 0 39 [Zl3, (.seq ZiK Zeg)] (Yb7 aa v7) Yb0 (Zhu w0 fp ρi Kf a b aa v7) :=
  ZaJ (q := (decide (8 <= v7))) (by kernel_rfl) (fun hq => (ZaI (lpk [5, 7] [] (Zah (ZIn a b hK aa v7 (h.1 hq)))))) (fun hq => (Zbb (lpk [5] [] (Zah (ZCA a b hK aa (h.2 hq))))))
theorem ZAR (a b aa v7 : Int) (Z : Env -> Heap -> Prop) (h : Z (Yb7 aa v7) Yb0) : EvC ZbB Zl4 (Yb4 aa v7) Yb0 [5, 7, 24] [] Z := EvC.of (by kernel_rfl) h
theorem ZCy (a b : Int) (hK : (Yb2 Kf a b)) (aa v7 : Int) (h : Zk8 a b aa v7) : SemL Try.prog w0 fp ρi 0 39 [Zl4, Zl3, (.seq ZiK Zeg)] (Yb4 aa v7) Yb0 (Zhu w0 fp ρi Kf a b aa v7) :=
  Zad Zbi (ZAR a b aa v7 _ (ZCz a b hK aa v7 h))
def Zi7 (a b v5 : Int) : Prop := (7 <= (14 : Int) /\ (14 : Int) <= 14 /\ v5 = ((rV (14 - (14 : Int)).toNat (qV 8 (bv a) (bv b))).toNat : Nat)) /\ (∀ (aa v7 : Int), (7 <= v7 /\ v7 <= 14 /\ aa = ((rV (14 - v7).toNat (qV 8 (bv a) (bv b))).toNat : Nat)) -> (Zk8 a b aa v7))
abbrev Yb8 (x0 : Int) : Env := [(5, some (.int .i64 x0)), (7, some (.int .i64 14))]
theorem ZCx (a b : Int) (hK : (Yb2 Kf a b)) (v5 : Int) (h : Zi7 a b v5) : SemL Try.prog w0 fp ρi 0 39 [Zsj] (Yb8 v5) Yb0 (Zwt w0 fp ρi Kf a b) :=
  Zbd (Zw3 a b) (Zvb a b) (Zv1 a b) (ZvC a b) ⟨(v5, 14), tau [], h.1, (Zao [] [] rfl rfl (esc pbd (esc pbd Zak)) Zae (by kernel_rfl) rfl)⟩ (fun s => match s with | (aa, v7) => fun hi => (Zah (Zah (ZCy a b hK aa v7 (h.2 aa v7 hi)))))
theorem ZCw (a b : Int) (hK : (Yb2 Kf a b)) (v5 : Int) (h : Zi7 a b v5) : SemL Try.prog w0 fp ρi 0 39 [Zdx, (.seq Zcc .ret)] (Yb8 v5) Yb0 (fnK Zbr 0 Kf) :=
  Zat (ZCx a b hK v5 h)
theorem ZAQ (a b v5 : Int) (Z : Env -> Heap -> Prop) (h : Z (Yb8 v5) Yb0) : EvC ZbB Zdy (Yb6 v5) Yb0 [5, 7] [] Z := EvC.of (by kernel_rfl) h
theorem ZCv (a b : Int) (hK : (Yb2 Kf a b)) (v5 : Int) (h : Zi7 a b v5) : SemL Try.prog w0 fp ρi 0 39 [Zdy, Zdx, (.seq Zcc .ret)] (Yb6 v5) Yb0 (fnK Zbr 0 Kf) :=
  Zad Zbi (ZAQ a b v5 _ (ZCw a b hK v5 h))
def Zk7 (a b v5 v6 : Int) : Prop := ((decide (v6 < 8)) = true -> (Zrf a b v5 v6)) /\ ((decide (v6 < 8)) = false -> (Zi7 a b v5))
abbrev Yb9 (x0 x1 x2 x3 : Int) : Env := [(0, some (.int .u8 x0)), (1, some (.int .u8 x1)), (5, some (.int .i64 x2)), (6, some (.int .i64 x3)), (9, some (.bool (decide (x3 < 8))))]
theorem ZCu (a b : Int) (hK : (Yb2 Kf a b)) (v5 v6 : Int) (h : Zk7 a b v5 v6) : SemL Try.prog w0 fp ρi 0 39 [Zpr, (.seq ZlZ Zgf)] (Yb9 a b v5 v6) Yb0 (Zhv w0 fp ρi Kf a b v5 v6) :=
  ZaJ (q := (decide (v6 < 8))) (by kernel_rfl) (fun hq => (ZaI (lpk [0, 1, 5, 6] [] (Zah (ZIr a b hK v5 v6 (h.1 hq)))))) (fun hq => (Zbb (lpk [5] [] (Zah (Zah (ZCv a b hK v5 (h.2 hq)))))))
theorem ZAP (a b v5 v6 : Int) (Z : Env -> Heap -> Prop) (h : Z (Yb9 a b v5 v6) Yb0) : EvC ZbB Zps (Yb1 a b v5 v6) Yb0 [0, 1, 5, 6, 9] [] Z := EvC.of (by kernel_rfl) h
theorem ZCt (a b : Int) (hK : (Yb2 Kf a b)) (v5 v6 : Int) (h : Zk7 a b v5 v6) : SemL Try.prog w0 fp ρi 0 39 [Zps, Zpr, (.seq ZlZ Zgf)] (Yb1 a b v5 v6) Yb0 (Zhv w0 fp ρi Kf a b v5 v6) :=
  Zad Zbi (ZAP a b v5 v6 _ (ZCu a b hK v5 v6 h))
def ZeQ (a b : Int) : Prop := (0 <= (0 : Int) /\ (0 : Int) <= 8 /\ (0 : Int) = ((qV (0 : Int).toNat (bv a) (bv b)).toNat : Nat)) /\ (∀ (v5 v6 : Int), (0 <= v6 /\ v6 <= 8 /\ v5 = ((qV v6.toNat (bv a) (bv b)).toNat : Nat)) -> (Zk7 a b v5 v6))
abbrev ZNX (x0 x1 : Int) : Env := [(0, some (.int .u8 x0)), (1, some (.int .u8 x1)), (5, some (.int .i64 0)), (6, some (.int .i64 0))]
theorem ZCs (a b : Int) (hK : (Yb2 Kf a b)) (h : ZeQ a b) : SemL Try.prog w0 fp ρi 0 39 [Zsk] (ZNX a b) Yb0 (Zwu w0 fp ρi Kf a b) :=
  Zbd (Zw4 a b) (Zvc a b) (Zv2 a b) (ZvD a b) ⟨(0, 0), tau [], h.1, (Zao [] [] rfl rfl (esc pbd (esc pbd (esc pbd (esc pbd Zak)))) Zae (by kernel_rfl) rfl)⟩ (fun s => match s with | (v5, v6) => fun hi => (Zah (Zah (ZCt a b hK v5 v6 (h.2 v5 v6 hi)))))
theorem ZCr (a b : Int) (hK : (Yb2 Kf a b)) (h : ZeQ a b) : SemL Try.prog w0 fp ρi 0 39 [ZgZ, (.seq (.seq Zdy Zdx) (.seq Zcc .ret))] (ZNX a b) Yb0 (fnK Zbr 0 Kf) :=
  Zat (ZCs a b hK h)
abbrev ZNW (x0 x1 : Int) : Env := [(0, some (.int .u8 x0)), (1, some (.int .u8 x1)), (5, some (.int .i64 0))]
theorem ZAO (a b : Int) (Z : Env -> Heap -> Prop) (h : Z (ZNX a b) Yb0) : EvC ZbB ZjT (ZNW a b) Yb0 [0, 1, 5, 6] [] Z := EvC.of (by kernel_rfl) h
theorem ZCq (a b : Int) (hK : (Yb2 Kf a b)) (h : ZeQ a b) : SemL Try.prog w0 fp ρi 0 39 [ZjT, ZgZ, (.seq (.seq Zdy Zdx) (.seq Zcc .ret))] (ZNW a b) Yb0 (fnK Zbr 0 Kf) :=
  Zad Zbi (ZAO a b _ (ZCr a b hK h))
abbrev ZFf (x0 x1 : Int) : Env := [(0, some (.int .u8 x0)), (1, some (.int .u8 x1))]
theorem ZAN (a b : Int) (Z : Env -> Heap -> Prop) (h : Z (ZNW a b) Yb0) : EvC ZbB Zl5 (ZFf a b) Yb0 [0, 1, 5] [] Z := EvC.of (by kernel_rfl) h
theorem ZCp (a b : Int) (hK : (Yb2 Kf a b)) (h : ZeQ a b) : SemL Try.prog w0 fp ρi 0 39 [Zl5, (.seq (.seq ZjT ZgZ) (.seq (.seq Zdy Zdx) (.seq Zcc .ret)))] (ZFf a b) Yb0 (fnK Zbr 0 Kf) :=
  Zad Zbi (ZAN a b _ (Zah (Zah (ZCq a b hK h))))
theorem ZAM (a b : Int) (Z : Env -> Heap -> Prop) (h : Z (ZFf a b) Yb0) : EvC ZbB Zpt (ZFf a b) Yb0 [0, 1] [] Z := EvC.of (by kernel_rfl) h
theorem ZCo (a b : Int) (hK : (Yb2 Kf a b)) (h : ZeQ a b) : SemL Try.prog w0 fp ρi 0 39 [Zpt, (.seq Zl5 (.seq (.seq ZjT ZgZ) (.seq (.seq Zdy Zdx) (.seq Zcc .ret))))] (ZFf a b) Yb0 (fnK Zbr 0 Kf) :=
  Zad Zbi (ZAM a b _ (Zah (ZCp a b hK h)))
theorem Zyz (a b : Int) (hK : (Yb2 Kf a b)) (h : ZeQ a b) : SemL Try.prog w0 fp ρi 0 39 [ZsF] (ZFf a b) Yb0 (fnK Zbr 0 Kf) :=
  (Zah (ZCo a b hK h))
end
theorem Zu2 (a b : Int) (hpre : ((0 <= a /\ a < 256) /\ (0 <= b /\ b < 256))) : ZeQ a b := by
  unfold ZeQ Zk7 Zi7 Zk8 ZoD Zrd ZtP ZtQ Zre Zrf ZtR ZtS Zrg
  obtain ⟨ha, hb⟩ := hpre
  refine ⟨⟨by omega, by omega, by simp [qV]⟩, fun v5 v6 hI => ⟨fun hlt => ?_, fun hge => ?_⟩⟩
  · have hlt := of_decide_eq_true hlt
    have w1 : IntKind.i64.wrap (v6 + 1) = v6 + 1 := by rw [ZdQ]; omega
    have s := Zy1 ha hb ⟨hI.1, hlt⟩ hI.2.2
    rw [w1]
    refine ⟨hI.1, fun hc => ⟨hI.1, fun x hx => ⟨⟨by omega, by omega, by rw [hx]; exact s.1 hc⟩, by omega⟩⟩, fun hc => ⟨⟨by omega, by omega, s.2 hc⟩, by omega⟩⟩
  · have hge := of_decide_eq_false hge
    have e : v6 = 8 := by omega
    subst e
    refine ⟨⟨by omega, by omega, hI.2.2⟩, fun x v7 hJ => ⟨fun hlt => ?_, fun hge => ?_⟩⟩
    · have hlt := of_decide_eq_true hlt
      have w1 : IntKind.i64.wrap (v7 - 1) = v7 - 1 := by rw [ZdQ]; omega
      have w2 : IntKind.i64.wrap (v7 - 8) = v7 - 8 := by rw [ZdQ]; omega
      have s := Zy0 ⟨hlt, hJ.2.1⟩ hJ.2.2
      rw [w2] at s
      rw [w1, w2]
      refine ⟨by omega, fun hc => ⟨by omega, fun y hy => ⟨⟨by omega, by omega, by rw [hy]; exact s.1 hc⟩, by omega⟩⟩, fun hc => ⟨⟨by omega, by omega, s.2 hc⟩, by omega⟩⟩
    · have hge := of_decide_eq_false hge
      have e : v7 = 7 := by omega
      subst e
      exact ZHX ha hb hJ.2.2
theorem Zlo : Sound Try.prog 44 (ZeL Znp) := by
  refine ZaC Zm9 ?_
  intro args H K h
  obtain ⟨pre, v, hP, hpre, rfl, hK⟩ := ZbD h
  unfold Znp at hP
  split at hP
  · cases hP
    exact ⟨rfl, fun w0 fp ρi => Zyz _ _ hK (Zu2 _ _ hpre)⟩
  · cases hP
def Zyl : Zgt := fun args => match args with
  | [.int .u8 x] => some ((0 <= x /\ x < 256), .int .u8 (ZcR x))
  | _ => none
def ZEf : PCon := ⟨43, Zyl⟩
def Zpz : ACode := .reg (.op (some 2) (.mov (.cn (.int .u8 0))) .nil)
def Zl9 : ACode := .reg (.op (some 3) (.mov (.cn (.int .i64 0))) .nil)
def ZjU : ACode := .reg (.op (some 4) (.mov (.cn (.int .i64 1))) .nil)
def Zpy : ACode := .reg (.op (some 8) (.mov (.tm 4)) (.op (some 9) (.bin .lss (.tm 8) (.cn (.int .i64 256))) .nil))
def Zpx : ACode := .cond (.tm 9) .skip (.exit 0)
def Zpw : ACode := .reg (.op (some 12) (.mov (.tm 0)) (.op (some 13) (.mov (.tm 4)) (.op (some 14) (.conv .u8 (.tm 13)) (.op (some 15) (.call 44 [(.tm 12), (.tm 14)]) (.op (some 16) (.bin .eql (.tm 15) (.cn (.int .u8 1))) .nil)))))
def Zpv : ACode := .reg (.op (some 17) (.mov (.tm 4)) (.op (some 3) (.mov (.tm 17)) .nil))
def Zpu : ACode := .cond (.tm 16) Zpv .skip
def Zl6 : ACode := .block 1 (.seq Zpw Zpu)
def Zgg : ACode := .reg (.op (some 10) (.mov (.tm 4)) (.op (some 11) (.bin .add (.tm 10) (.cn (.int .i64 1))) (.op (some 4) (.mov (.tm 11)) .nil)))
def Zsn : ACode := .loop (.seq (.seq Zpy Zpx) (.seq Zl6 Zgg))
def Zg0 : ACode := .block 0 Zsn
def Zdz : ACode := .reg (.op (some 5) (.mov (.cn (.int .i64 0))) .nil)
def ZcG : ACode := .reg (.op (some 6) (.mov (.cn (.int .i64 0))) .nil)
def Zl8 : ACode := .reg (.op (some 18) (.mov (.tm 6)) (.op (some 19) (.bin .lss (.tm 18) (.cn (.int .i64 8))) .nil))
def Zl7 : ACode := .cond (.tm 19) .skip (.exit 2)
def ZjV : Items := .op (some 22) (.mov (.tm 3)) (.op (some 23) (.mov (.tm 6)) (.op (some 24) (.bin .shr (.tm 22) (.tm 23)) (.op (some 25) (.mov (.tm 3)) (.op (some 26) (.mov (.tm 6)) (.op (some 27) (.bin .add (.tm 26) (.cn (.int .i64 4))) (.op (some 28) (.bin .rem (.tm 27) (.cn (.int .i64 8))) (.op (some 29) (.bin .shr (.tm 25) (.tm 28)) (.op (some 30) (.bin .xor (.tm 24) (.tm 29)) (.op (some 31) (.mov (.tm 3)) (.op (some 32) (.mov (.tm 6)) (.op (some 33) (.bin .add (.tm 32) (.cn (.int .i64 5))) (.op (some 34) (.bin .rem (.tm 33) (.cn (.int .i64 8))) (.op (some 35) (.bin .shr (.tm 31) (.tm 34)) (.op (some 36) (.bin .xor (.tm 30) (.tm 35)) (.op (some 37) (.mov (.tm 3)) (.op (some 38) (.mov (.tm 6)) (.op (some 39) (.bin .add (.tm 38) (.cn (.int .i64 6))) (.op (some 40) (.bin .rem (.tm 39) (.cn (.int .i64 8))) (.op (some 41) (.bin .shr (.tm 37) (.tm 40)) (.op (some 42) (.bin .xor (.tm 36) (.tm 41)) (.op (some 43) (.mov (.tm 3)) (.op (some 44) (.mov (.tm 6)) (.op (some 45) (.bin .add (.tm 44) (.cn (.int .i64 7))) (.op (some 46) (.bin .rem (.tm 45) (.cn (.int .i64 8))) (.op (some 47) (.bin .shr (.tm 43) (.tm 46)) (.op (some 48) (.bin .xor (.tm 42) (.tm 47)) (.op (some 49) (.mov (.tm 6)) (.op (some 50) (.bin .shr (.cn (.int .i64 99)) (.tm 49)) (.op (some 51) (.bin .xor (.tm 48) (.tm 50)) (.op (some 7) (.mov (.tm 51)) .nil))))))))))))))))))))))))))))))
def Zsm : ACode := .regQ ZjV
def ZiM : ACode := .reg (.op (some 52) (.mov (.tm 5)) (.op (some 53) (.mov (.tm 7)) (.op (some 54) (.bin .and (.tm 53) (.cn (.int .i64 1))) (.op (some 55) (.mov (.tm 6)) (.op (some 56) (.bin .shl (.tm 54) (.tm 55)) (.op (some 57) (.bin .add (.tm 52) (.tm 56)) (.op (some 5) (.mov (.tm 57)) .nil)))))))
def ZiL : ACode := .block 3 (.seq Zsm ZiM)
def Zeh : ACode := .reg (.op (some 20) (.mov (.tm 6)) (.op (some 21) (.bin .add (.tm 20) (.cn (.int .i64 1))) (.op (some 6) (.mov (.tm 21)) .nil)))
def Zsl : ACode := .loop (.seq (.seq Zl8 Zl7) (.seq ZiL Zeh))
def ZcF : ACode := .block 2 Zsl
def ZbN : ACode := .reg (.op (some 58) (.mov (.tm 5)) (.op (some 59) (.conv .u8 (.tm 58)) (.op (some 2) (.mov (.tm 59)) .nil)))
def ZAf : ACode := (.seq Zpz (.seq Zl9 (.seq (.seq ZjU Zg0) (.seq Zdz (.seq (.seq ZcG ZcF) (.seq ZbN .ret))))))
def Zcy : Res := .one (.tm 2)
theorem ZqV : Zbj Try.prog 43 1 60 ZAf Zcy = true := by kernel_rfl
def Zdg : Zav := Zcl [Zjr] []
theorem Zb8 : ZaK Try.prog Zdg := ZaL ⟨Zlo, trivial⟩ trivial
section
variable {w0 : World} {fp : Nat -> Nat -> Prop} {ρi : Rho} {Kf : SVal -> Heap -> Prop}
def Zwx (w0 : World) (fp : Nat -> Nat -> Prop) (ρi : Rho) (Kf : SVal -> Heap -> Prop) (x : Int) : ZaY := Zax 0 (fun e H => SemL Try.prog w0 fp ρi 0 60 [(.seq Zdz (.seq (.seq ZcG ZcF) (.seq ZbN .ret)))] e H (fnK Zcy 0 Kf)) (fnK Zcy 0 Kf)
def Zw6 (x : Int) : Int × Int -> Prop := fun s => match s with | (v3, v4) => 1 <= v4 /\ v4 <= 256 /\ v3 = ZjB x v4
def Zve (x : Int) : Int × Int -> Nat := fun s => match s with | (v3, v4) => ((256 - v4).toNat)
def Zv4 (x : Int) : Int × Int -> Env := fun s => match s with | (v3, v4) => [(0, some (.int .u8 x)), (3, some (.int .i64 v3)), (4, some (.int .i64 v4))]
def ZvF (x : Int) : Int × Int -> Heap := fun s => match s with | (v3, v4) => ⟨0, []⟩
def Zhx (w0 : World) (fp : Nat -> Nat -> Prop) (ρi : Rho) (Kf : SVal -> Heap -> Prop) (x v3 v4 : Int) : ZaY := Zb2 0 (Zw6 x) (Zve x) (Zv4 x) (ZvF x) (v3, v4) (Zwx w0 fp ρi Kf x)
abbrev ZEM (x0 x1 x2 : Int) : Env := [(0, some (.int .u8 x0)), (3, some (.int .i64 x1)), (4, some (.int .i64 x2))]
theorem ZF2 (x ad v4 v3 : Int) (Z : Env -> Heap -> Prop) (h : Z [(0, some (.int .u8 x)), (3, some (.int .i64 ad)), (4, some (.int .i64 (IntKind.i64.wrap (v4 + 1))))] Yb0) : EvC Zdg Zgg (ZEM x ad v4) Yb0 [0, 3, 4] [] Z := EvC.of (by kernel_rfl) h
def Zrj (x ad v4 v3 : Int) : Prop := (1 <= (IntKind.i64.wrap (v4 + 1)) /\ (IntKind.i64.wrap (v4 + 1)) <= 256 /\ ad = ZjB x (IntKind.i64.wrap (v4 + 1))) /\ (((256 - (IntKind.i64.wrap (v4 + 1))).toNat) < ((256 - v4).toNat))
abbrev Zi1 (x0 : SVal -> Heap -> Prop) (x1 : Int) : Prop := x0 (.int .u8 (ZcR x1)) ⟨0, []⟩
theorem ZzN (x : Int) (hK : (Zi1 Kf x)) (ad v4 v3 : Int) (h : Zrj x ad v4 v3) : SemL Try.prog w0 fp ρi 0 60 [Zgg] (ZEM x ad v4) Yb0 (Zhx w0 fp ρi Kf x v3 v4) :=
  Zad Zb8 (ZF2 x ad v4 v3 _ (ZaO (Zay (x' := (ad, (IntKind.i64.wrap (v4 + 1)))) (τ := tau []) h.1 h.2 (Zao [] [] rfl rfl (esc pbd (esc pbd (esc pbd Zak))) Zae (by kernel_rfl) rfl))))
def ZoY (w0 : World) (fp : Nat -> Nat -> Prop) (ρi : Rho) (Kf : SVal -> Heap -> Prop) (x v3 v4 : Int) : ZaY := Zax 1 (fun e H => SemL Try.prog w0 fp ρi 0 60 [Zgg] e H (Zhx w0 fp ρi Kf x v3 v4)) (Zhx w0 fp ρi Kf x v3 v4)
theorem ZF1 (x v4 v3 : Int) (Z : Env -> Heap -> Prop) (h : Z [(0, some (.int .u8 x)), (3, some (.int .i64 v4)), (4, some (.int .i64 v4))] Yb0) : EvC Zdg Zpv [(0, some (.int .u8 x)), (4, some (.int .i64 v4))] Yb0 [0, 3, 4] [] Z := EvC.of (by kernel_rfl) h
def ZtX (x v4 v3 : Int) : Prop := Zrj x v4 v4 v3
theorem ZID (x : Int) (hK : (Zi1 Kf x)) (v4 v3 : Int) (h : ZtX x v4 v3) : SemL Try.prog w0 fp ρi 0 60 [Zpv] [(0, some (.int .u8 x)), (4, some (.int .i64 v4))] Yb0 (ZoY w0 fp ρi Kf x v3 v4) :=
  Zad Zb8 (ZF1 x v4 v3 _ (ZaO (ZzN x hK v4 v4 v3 h)))
def ZtW (x v3 v4 : Int) : Prop := (((Zb1 x (IntKind.u8.wrap v4)) == 1) = true -> (ZtX x v4 v3)) /\ (((Zb1 x (IntKind.u8.wrap v4)) == 1) = false -> (Zrj x v3 v4 v3))
abbrev ZOP (x0 x1 x2 : Int) : Env := [(0, some (.int .u8 x0)), (3, some (.int .i64 x1)), (4, some (.int .i64 x2)), (16, some (.bool ((Zb1 x0 (IntKind.u8.wrap x2)) == 1)))]
theorem ZIC (x : Int) (hK : (Zi1 Kf x)) (v3 v4 : Int) (h : ZtW x v3 v4) : SemL Try.prog w0 fp ρi 0 60 [Zpu] (ZOP x v3 v4) Yb0 (ZoY w0 fp ρi Kf x v3 v4) :=
  ZaJ (q := ((Zb1 x (IntKind.u8.wrap v4)) == 1)) (by kernel_rfl) (fun hq => (lpk [0, 4] [] (ZID x hK v4 v3 (h.1 hq)))) (fun hq => (ZaI (ZaO (P := Try.prog) (w0 := w0) (fp := fp) (ρi := ρi) (n0 := 0) (nt := 60) (lpk [0, 3, 4] [] (ZzN x hK v3 v4 v3 (h.2 hq))))))
theorem ZF0 (x v3 v4 : Int) (Z : Env -> Heap -> Prop) (h : (((0 <= x /\ x < 256) /\ (0 <= (IntKind.u8.wrap v4) /\ (IntKind.u8.wrap v4) < 256))) /\ Z (ZOP x v3 v4) Yb0) : EvC Zdg Zpw (ZEM x v3 v4) Yb0 [0, 3, 4, 16] [] Z := EvC.of (by kernel_rfl) h
def Zri (x v3 v4 : Int) : Prop := (((0 <= x /\ x < 256) /\ (0 <= (IntKind.u8.wrap v4) /\ (IntKind.u8.wrap v4) < 256))) /\ (ZtW x v3 v4)
theorem ZIB (x : Int) (hK : (Zi1 Kf x)) (v3 v4 : Int) (h : Zri x v3 v4) : SemL Try.prog w0 fp ρi 0 60 [Zpw, Zpu] (ZEM x v3 v4) Yb0 (ZoY w0 fp ρi Kf x v3 v4) :=
  Zad Zb8 (ZF0 x v3 v4 _ ⟨h.1, (ZIC x hK v3 v4 h.2)⟩)
theorem ZIA (x : Int) (hK : (Zi1 Kf x)) (v3 v4 : Int) (h : Zri x v3 v4) : SemL Try.prog w0 fp ρi 0 60 [Zl6, Zgg] (ZEM x v3 v4) Yb0 (Zhx w0 fp ρi Kf x v3 v4) :=
  Zat (Zah (ZIB x hK v3 v4 h))
def Zww (w0 : World) (fp : Nat -> Nat -> Prop) (ρi : Rho) (Kf : SVal -> Heap -> Prop) (x : Int) : ZaY := Zax 2 (fun e H => SemL Try.prog w0 fp ρi 0 60 [(.seq ZbN .ret)] e H (fnK Zcy 0 Kf)) (fnK Zcy 0 Kf)
def Zw5 (x v3 : Int) : Int × Int -> Prop := fun s => match s with | (v5, v6) => 0 <= v6 /\ v6 <= 8 /\ v5 = ZzJ (ZkP x) v6.toNat
def Zvd (x v3 : Int) : Int × Int -> Nat := fun s => match s with | (v5, v6) => ((8 - v6).toNat)
def Zv3 (x v3 : Int) : Int × Int -> Env := fun s => match s with | (v5, v6) => [(3, some (.int .i64 v3)), (5, some (.int .i64 v5)), (6, some (.int .i64 v6))]
def ZvE (x v3 : Int) : Int × Int -> Heap := fun s => match s with | (v5, v6) => ⟨0, []⟩
def Zhw (w0 : World) (fp : Nat -> Nat -> Prop) (ρi : Rho) (Kf : SVal -> Heap -> Prop) (x v3 v5 v6 : Int) : ZaY := Zb2 0 (Zw5 x v3) (Zvd x v3) (Zv3 x v3) (ZvE x v3) (v5, v6) (Zww w0 fp ρi Kf x)
abbrev ZEL (x0 x1 x2 : Int) : Env := [(3, some (.int .i64 x0)), (5, some (.int .i64 x1)), (6, some (.int .i64 x2))]
theorem ZFZ (x v3 ab v6 v5 : Int) (Z : Env -> Heap -> Prop) (h : Z [(3, some (.int .i64 v3)), (5, some (.int .i64 ab)), (6, some (.int .i64 (IntKind.i64.wrap (v6 + 1))))] Yb0) : EvC Zdg Zeh (ZEL v3 ab v6) Yb0 [3, 5, 6] [] Z := EvC.of (by kernel_rfl) h
def ZtV (x v3 ab v6 v5 : Int) : Prop := (0 <= (IntKind.i64.wrap (v6 + 1)) /\ (IntKind.i64.wrap (v6 + 1)) <= 8 /\ ab = ZzJ (ZkP x) (IntKind.i64.wrap (v6 + 1)).toNat) /\ (((8 - (IntKind.i64.wrap (v6 + 1))).toNat) < ((8 - v6).toNat))
theorem ZIz (x : Int) (hK : (Zi1 Kf x)) (v3 ab v6 v5 : Int) (h : ZtV x v3 ab v6 v5) : SemL Try.prog w0 fp ρi 0 60 [Zeh] (ZEL v3 ab v6) Yb0 (Zhw w0 fp ρi Kf x v3 v5 v6) :=
  Zad Zb8 (ZFZ x v3 ab v6 v5 _ (ZaO (Zay (x' := (ab, (IntKind.i64.wrap (v6 + 1)))) (τ := tau []) h.1 h.2 (Zao [] [] rfl rfl (esc pbd (esc pbd (esc pbd Zak))) Zae (by kernel_rfl) rfl))))
def Zwv (w0 : World) (fp : Nat -> Nat -> Prop) (ρi : Rho) (Kf : SVal -> Heap -> Prop) (x v3 v5 v6 : Int) : ZaY := Zax 3 (fun e H => SemL Try.prog w0 fp ρi 0 60 [Zeh] e H (Zhw w0 fp ρi Kf x v3 v5 v6)) (Zhw w0 fp ρi Kf x v3 v5 v6)
theorem ZFY (x v3 v5 v6 v7 : Int) (Z : Env -> Heap -> Prop) (h : ((0 <= v6)) /\ Z [(3, some (.int .i64 v3)), (5, some (.int .i64 (IntKind.i64.wrap (v5 + (Zgv .i64 (ZaR .i64 v7 1) v6))))), (6, some (.int .i64 v6))] Yb0) : EvC Zdg ZiM [(3, some (.int .i64 v3)), (5, some (.int .i64 v5)), (6, some (.int .i64 v6)), (7, some (.int .i64 v7))] Yb0 [3, 5, 6] [] Z := EvC.of (by kernel_rfl) h
def ZtU (x v3 v5 v6 v7 : Int) : Prop := ((0 <= v6)) /\ (∀ ab : Int, ab = ((v5 + (Zgv .i64 (ZaR .i64 v7 1) v6)) + 9223372036854775808) % 18446744073709551616 - 9223372036854775808 -> ZtV x v3 ab v6 v5)
theorem ZIy (x : Int) (hK : (Zi1 Kf x)) (v3 v5 v6 v7 : Int) (h : ZtU x v3 v5 v6 v7) : SemL Try.prog w0 fp ρi 0 60 [ZiM] [(3, some (.int .i64 v3)), (5, some (.int .i64 v5)), (6, some (.int .i64 v6)), (7, some (.int .i64 v7))] Yb0 (Zwv w0 fp ρi Kf x v3 v5 v6) :=
  Zad Zb8 (ZFY x v3 v5 v6 v7 _ ⟨h.1, (ZaO (ZIz x hK v3 (IntKind.i64.wrap (v5 + (Zgv .i64 (ZaR .i64 v7 1) v6))) v6 v5 (h.2 (IntKind.i64.wrap (v5 + (Zgv .i64 (ZaR .i64 v7 1) v6))) (ZdQ _))))⟩)
theorem ZFX (x v3 v5 v6 : Int) (Z : Env -> Heap -> Prop) (h : ((0 <= v6)) /\ (((8 : Int) ≠ 0)) /\ ((0 <= (Int.tmod (IntKind.i64.wrap (v6 + 4)) 8))) /\ (((8 : Int) ≠ 0)) /\ ((0 <= (Int.tmod (IntKind.i64.wrap (v6 + 5)) 8))) /\ (((8 : Int) ≠ 0)) /\ ((0 <= (Int.tmod (IntKind.i64.wrap (v6 + 6)) 8))) /\ (((8 : Int) ≠ 0)) /\ ((0 <= (Int.tmod (IntKind.i64.wrap (v6 + 7)) 8))) /\ ((0 <= v6)) /\ Z [(3, some (.int .i64 v3)), (5, some (.int .i64 v5)), (6, some (.int .i64 v6)), (7, some (.int .i64 (Zar .i64 (Zar .i64 (Zar .i64 (Zar .i64 (Zar .i64 (ZbF .i64 v3 v6) (ZbF .i64 v3 (Int.tmod (IntKind.i64.wrap (v6 + 4)) 8))) (ZbF .i64 v3 (Int.tmod (IntKind.i64.wrap (v6 + 5)) 8))) (ZbF .i64 v3 (Int.tmod (IntKind.i64.wrap (v6 + 6)) 8))) (ZbF .i64 v3 (Int.tmod (IntKind.i64.wrap (v6 + 7)) 8))) (ZbF .i64 99 v6))))] Yb0) : EvQC Zdg ZjV [] (ZEL v3 v5 v6) Yb0 [3, 5, 6, 7] [] Z := EvQC.of (by kernel_rfl) h
def Zrh (x v3 v5 v6 : Int) : Prop := ((0 <= v6)) /\ (((0 <= (Int.tmod (IntKind.i64.wrap (v6 + 4)) 8))) /\ (((0 <= (Int.tmod (IntKind.i64.wrap (v6 + 5)) 8))) /\ (((0 <= (Int.tmod (IntKind.i64.wrap (v6 + 6)) 8))) /\ (((0 <= (Int.tmod (IntKind.i64.wrap (v6 + 7)) 8))) /\ (((0 <= v6)) /\ (∀ v7 : Int, v7 = (Zar .i64 (Zar .i64 (Zar .i64 (Zar .i64 (Zar .i64 (ZbF .i64 v3 v6) (ZbF .i64 v3 (Int.tmod (IntKind.i64.wrap (v6 + 4)) 8))) (ZbF .i64 v3 (Int.tmod (IntKind.i64.wrap (v6 + 5)) 8))) (ZbF .i64 v3 (Int.tmod (IntKind.i64.wrap (v6 + 6)) 8))) (ZbF .i64 v3 (Int.tmod (IntKind.i64.wrap (v6 + 7)) 8))) (ZbF .i64 99 v6)) -> ZtU x v3 v5 v6 v7))))))
theorem ZIx (x : Int) (hK : (Zi1 Kf x)) (v3 v5 v6 : Int) (h : Zrh x v3 v5 v6) : SemL Try.prog w0 fp ρi 0 60 [Zsm, ZiM] (ZEL v3 v5 v6) Yb0 (Zwv w0 fp ρi Kf x v3 v5 v6) :=
  Zkl Zb8 (its := ZjV) (ZFX x v3 v5 v6 _ ⟨h.1, ⟨(by decide), ⟨h.2.1, ⟨(by decide), ⟨h.2.2.1, ⟨(by decide), ⟨h.2.2.2.1, ⟨(by decide), ⟨h.2.2.2.2.1, ⟨h.2.2.2.2.2.1, (ZIy x hK v3 v5 v6 (Zar .i64 (Zar .i64 (Zar .i64 (Zar .i64 (Zar .i64 (ZbF .i64 v3 v6) (ZbF .i64 v3 (Int.tmod (IntKind.i64.wrap (v6 + 4)) 8))) (ZbF .i64 v3 (Int.tmod (IntKind.i64.wrap (v6 + 5)) 8))) (ZbF .i64 v3 (Int.tmod (IntKind.i64.wrap (v6 + 6)) 8))) (ZbF .i64 v3 (Int.tmod (IntKind.i64.wrap (v6 + 7)) 8))) (ZbF .i64 99 v6)) (h.2.2.2.2.2.2 (Zar .i64 (Zar .i64 (Zar .i64 (Zar .i64 (Zar .i64 (ZbF .i64 v3 v6) (ZbF .i64 v3 (Int.tmod (IntKind.i64.wrap (v6 + 4)) 8))) (ZbF .i64 v3 (Int.tmod (IntKind.i64.wrap (v6 + 5)) 8))) (ZbF .i64 v3 (Int.tmod (IntKind.i64.wrap (v6 + 6)) 8))) (ZbF .i64 v3 (Int.tmod (IntKind.i64.wrap (v6 + 7)) 8))) (ZbF .i64 99 v6)) rfl))⟩⟩⟩⟩⟩⟩⟩⟩⟩⟩)
theorem ZIw (x : Int) (hK : (Zi1 Kf x)) (v3 v5 v6 : Int) (h : Zrh x v3 v5 v6) : SemL Try.prog w0 fp ρi 0 60 [ZiL, Zeh] (ZEL v3 v5 v6) Yb0 (Zhw w0 fp ρi Kf x v3 v5 v6) :=
  Zat (Zah (ZIx x hK v3 v5 v6 h))
theorem ZFW (x v5 : Int) (Z : Env -> Heap -> Prop) (h : Z [(2, some (.int .u8 (IntKind.u8.wrap v5)))] Yb0) : EvC Zdg ZbN (Yb6 v5) Yb0 [2] [] Z := EvC.of (by kernel_rfl) h
theorem ZBV (x v5 : Int) : RetC Zcy [(2, some (.int .u8 (IntKind.u8.wrap v5)))] Yb0 (.int .u8 (IntKind.u8.wrap v5)) := RetC.of (fun Z => by kernel_rfl)
def ZtT (x v5 : Int) : Prop := (IntKind.u8.wrap v5) = (ZcR x)
theorem ZIv (x : Int) (hK : (Zi1 Kf x)) (v5 : Int) (h : ZtT x v5) : SemL Try.prog w0 fp ρi 0 60 [ZbN, .ret] (Yb6 v5) Yb0 (fnK Zcy 0 Kf) :=
  Zad Zb8 (ZFW x v5 _ (Zbv (R := Zcy) (m := 0) (Kf := Kf) (fun _ _ h => h) (ZBV x v5) (Zbg rfl (by kernel_rfl) (cg1 (fun (z1 : Int) => (.int .u8 z1 : SVal)) h) hK)))
def Zla (x v3 v5 v6 : Int) : Prop := ((decide (v6 < 8)) = true -> (Zrh x v3 v5 v6)) /\ ((decide (v6 < 8)) = false -> (ZtT x v5))
abbrev ZOO (x0 x1 x2 : Int) : Env := [(3, some (.int .i64 x0)), (5, some (.int .i64 x1)), (6, some (.int .i64 x2)), (19, some (.bool (decide (x2 < 8))))]
theorem ZCN (x : Int) (hK : (Zi1 Kf x)) (v3 v5 v6 : Int) (h : Zla x v3 v5 v6) : SemL Try.prog w0 fp ρi 0 60 [Zl7, (.seq ZiL Zeh)] (ZOO v3 v5 v6) Yb0 (Zhw w0 fp ρi Kf x v3 v5 v6) :=
  ZaJ (q := (decide (v6 < 8))) (by kernel_rfl) (fun hq => (ZaI (lpk [3, 5, 6] [] (Zah (ZIw x hK v3 v5 v6 (h.1 hq)))))) (fun hq => (Zbb (lpk [5] [] (Zah (ZIv x hK v5 (h.2 hq))))))
theorem ZAZ (x v3 v5 v6 : Int) (Z : Env -> Heap -> Prop) (h : Z (ZOO v3 v5 v6) Yb0) : EvC Zdg Zl8 (ZEL v3 v5 v6) Yb0 [3, 5, 6, 19] [] Z := EvC.of (by kernel_rfl) h
theorem ZCM (x : Int) (hK : (Zi1 Kf x)) (v3 v5 v6 : Int) (h : Zla x v3 v5 v6) : SemL Try.prog w0 fp ρi 0 60 [Zl8, Zl7, (.seq ZiL Zeh)] (ZEL v3 v5 v6) Yb0 (Zhw w0 fp ρi Kf x v3 v5 v6) :=
  Zad Zb8 (ZAZ x v3 v5 v6 _ (ZCN x hK v3 v5 v6 h))
def Zhh (x v3 : Int) : Prop := (0 <= (0 : Int) /\ (0 : Int) <= 8 /\ (0 : Int) = ZzJ (ZkP x) (0 : Int).toNat) /\ (∀ (v5 v6 : Int), (0 <= v6 /\ v6 <= 8 /\ v5 = ZzJ (ZkP x) v6.toNat) -> (Zla x v3 v5 v6))
abbrev ZNV (x0 : Int) : Env := [(3, some (.int .i64 x0)), (5, some (.int .i64 0)), (6, some (.int .i64 0))]
theorem ZCL (x : Int) (hK : (Zi1 Kf x)) (v3 : Int) (h : Zhh x v3) : SemL Try.prog w0 fp ρi 0 60 [Zsl] (ZNV v3) Yb0 (Zww w0 fp ρi Kf x) :=
  Zbd (Zw5 x v3) (Zvd x v3) (Zv3 x v3) (ZvE x v3) ⟨(0, 0), tau [], h.1, (Zao [] [] rfl rfl (esc pbd (esc pbd (esc pbd Zak))) Zae (by kernel_rfl) rfl)⟩ (fun s => match s with | (v5, v6) => fun hi => (Zah (Zah (ZCM x hK v3 v5 v6 (h.2 v5 v6 hi)))))
theorem ZCK (x : Int) (hK : (Zi1 Kf x)) (v3 : Int) (h : Zhh x v3) : SemL Try.prog w0 fp ρi 0 60 [ZcF, (.seq ZbN .ret)] (ZNV v3) Yb0 (fnK Zcy 0 Kf) :=
  Zat (ZCL x hK v3 h)
abbrev ZNU (x0 : Int) : Env := [(3, some (.int .i64 x0)), (5, some (.int .i64 0))]
theorem ZAY (x v3 : Int) (Z : Env -> Heap -> Prop) (h : Z (ZNV v3) Yb0) : EvC Zdg ZcG (ZNU v3) Yb0 [3, 5, 6] [] Z := EvC.of (by kernel_rfl) h
theorem ZCJ (x : Int) (hK : (Zi1 Kf x)) (v3 : Int) (h : Zhh x v3) : SemL Try.prog w0 fp ρi 0 60 [ZcG, ZcF, (.seq ZbN .ret)] (ZNU v3) Yb0 (fnK Zcy 0 Kf) :=
  Zad Zb8 (ZAY x v3 _ (ZCK x hK v3 h))
theorem ZAX (x v3 : Int) (Z : Env -> Heap -> Prop) (h : Z (ZNU v3) Yb0) : EvC Zdg Zdz [(3, some (.int .i64 v3))] Yb0 [3, 5] [] Z := EvC.of (by kernel_rfl) h
theorem ZCI (x : Int) (hK : (Zi1 Kf x)) (v3 : Int) (h : Zhh x v3) : SemL Try.prog w0 fp ρi 0 60 [Zdz, (.seq (.seq ZcG ZcF) (.seq ZbN .ret))] [(3, some (.int .i64 v3))] Yb0 (fnK Zcy 0 Kf) :=
  Zad Zb8 (ZAX x v3 _ (Zah (Zah (ZCJ x hK v3 h))))
def Zk9 (x v3 v4 : Int) : Prop := ((decide (v4 < 256)) = true -> (Zri x v3 v4)) /\ ((decide (v4 < 256)) = false -> (Zhh x v3))
abbrev ZON (x0 x1 x2 : Int) : Env := [(0, some (.int .u8 x0)), (3, some (.int .i64 x1)), (4, some (.int .i64 x2)), (9, some (.bool (decide (x2 < 256))))]
theorem ZCH (x : Int) (hK : (Zi1 Kf x)) (v3 v4 : Int) (h : Zk9 x v3 v4) : SemL Try.prog w0 fp ρi 0 60 [Zpx, (.seq Zl6 Zgg)] (ZON x v3 v4) Yb0 (Zhx w0 fp ρi Kf x v3 v4) :=
  ZaJ (q := (decide (v4 < 256))) (by kernel_rfl) (fun hq => (ZaI (lpk [0, 3, 4] [] (Zah (ZIA x hK v3 v4 (h.1 hq)))))) (fun hq => (Zbb (lpk [3] [] (Zah (ZCI x hK v3 (h.2 hq))))))
theorem ZAW (x v3 v4 : Int) (Z : Env -> Heap -> Prop) (h : Z (ZON x v3 v4) Yb0) : EvC Zdg Zpy (ZEM x v3 v4) Yb0 [0, 3, 4, 9] [] Z := EvC.of (by kernel_rfl) h
theorem ZCG (x : Int) (hK : (Zi1 Kf x)) (v3 v4 : Int) (h : Zk9 x v3 v4) : SemL Try.prog w0 fp ρi 0 60 [Zpy, Zpx, (.seq Zl6 Zgg)] (ZEM x v3 v4) Yb0 (Zhx w0 fp ρi Kf x v3 v4) :=
  Zad Zb8 (ZAW x v3 v4 _ (ZCH x hK v3 v4 h))
def ZeR (x : Int) : Prop := (1 <= (1 : Int) /\ (1 : Int) <= 256 /\ (0 : Int) = ZjB x (1 : Int)) /\ (∀ (v3 v4 : Int), (1 <= v4 /\ v4 <= 256 /\ v3 = ZjB x v4) -> (Zk9 x v3 v4))
abbrev ZNT (x0 : Int) : Env := [(0, some (.int .u8 x0)), (3, some (.int .i64 0)), (4, some (.int .i64 1))]
theorem ZCF (x : Int) (hK : (Zi1 Kf x)) (h : ZeR x) : SemL Try.prog w0 fp ρi 0 60 [Zsn] (ZNT x) Yb0 (Zwx w0 fp ρi Kf x) :=
  Zbd (Zw6 x) (Zve x) (Zv4 x) (ZvF x) ⟨(0, 1), tau [], h.1, (Zao [] [] rfl rfl (esc pbd (esc pbd (esc pbd Zak))) Zae (by kernel_rfl) rfl)⟩ (fun s => match s with | (v3, v4) => fun hi => (Zah (Zah (ZCG x hK v3 v4 (h.2 v3 v4 hi)))))
theorem ZCE (x : Int) (hK : (Zi1 Kf x)) (h : ZeR x) : SemL Try.prog w0 fp ρi 0 60 [Zg0, (.seq Zdz (.seq (.seq ZcG ZcF) (.seq ZbN .ret)))] (ZNT x) Yb0 (fnK Zcy 0 Kf) :=
  Zat (ZCF x hK h)
abbrev ZNS (x0 : Int) : Env := [(0, some (.int .u8 x0)), (3, some (.int .i64 0))]
theorem ZAV (x : Int) (Z : Env -> Heap -> Prop) (h : Z (ZNT x) Yb0) : EvC Zdg ZjU (ZNS x) Yb0 [0, 3, 4] [] Z := EvC.of (by kernel_rfl) h
theorem ZCD (x : Int) (hK : (Zi1 Kf x)) (h : ZeR x) : SemL Try.prog w0 fp ρi 0 60 [ZjU, Zg0, (.seq Zdz (.seq (.seq ZcG ZcF) (.seq ZbN .ret)))] (ZNS x) Yb0 (fnK Zcy 0 Kf) :=
  Zad Zb8 (ZAV x _ (ZCE x hK h))
abbrev ZFe (x0 : Int) : Env := [(0, some (.int .u8 x0))]
theorem ZAU (x : Int) (Z : Env -> Heap -> Prop) (h : Z (ZNS x) Yb0) : EvC Zdg Zl9 (ZFe x) Yb0 [0, 3] [] Z := EvC.of (by kernel_rfl) h
theorem ZCC (x : Int) (hK : (Zi1 Kf x)) (h : ZeR x) : SemL Try.prog w0 fp ρi 0 60 [Zl9, (.seq (.seq ZjU Zg0) (.seq Zdz (.seq (.seq ZcG ZcF) (.seq ZbN .ret))))] (ZFe x) Yb0 (fnK Zcy 0 Kf) :=
  Zad Zb8 (ZAU x _ (Zah (Zah (ZCD x hK h))))
theorem ZAT (x : Int) (Z : Env -> Heap -> Prop) (h : Z (ZFe x) Yb0) : EvC Zdg Zpz (ZFe x) Yb0 [0] [] Z := EvC.of (by kernel_rfl) h
theorem ZCB (x : Int) (hK : (Zi1 Kf x)) (h : ZeR x) : SemL Try.prog w0 fp ρi 0 60 [Zpz, (.seq Zl9 (.seq (.seq ZjU Zg0) (.seq Zdz (.seq (.seq ZcG ZcF) (.seq ZbN .ret)))))] (ZFe x) Yb0 (fnK Zcy 0 Kf) :=
  Zad Zb8 (ZAT x _ (Zah (ZCC x hK h)))
theorem ZFk (x : Int) (hK : (Zi1 Kf x)) (h : ZeR x) : SemL Try.prog w0 fp ρi 0 60 [ZAf] (ZFe x) Yb0 (fnK Zcy 0 Kf) :=
  (Zah (ZCB x hK h))
end
theorem ZEi (x : Int) (hpre : (0 <= x /\ x < 256)) : ZeR x := by
  unfold ZeR Zk9 Zhh Zla ZtT Zrh ZtU ZtV Zri ZtW ZtX Zrj
  have iv := Zo2 hpre
  refine ⟨⟨by omega, by omega, by unfold ZjB; rw [if_neg (by omega)]⟩, fun v3 v4 hI => ⟨fun hlt => ?_, fun hge => ?_⟩⟩
  · have hlt := of_decide_eq_true hlt
    have w1 : IntKind.i64.wrap (v4 + 1) = v4 + 1 := by rw [ZdQ]; omega
    have w2 : IntKind.u8.wrap v4 = v4 := by rw [wrap_u8]; omega
    have s := Zs9 hpre ⟨hI.1, hlt⟩
    rw [w1, w2]
    refine ⟨⟨hpre, by omega⟩, fun hc => ⟨⟨by omega, by omega, (s.1 hc).symm⟩, by omega⟩, fun hc => ⟨⟨by omega, by omega, by rw [s.2 hc]; exact hI.2.2⟩, by omega⟩⟩
  · have hge := of_decide_eq_false hge
    have e : v4 = 256 := by omega
    subst e
    obtain ⟨_, _, e⟩ := hI
    rw [Zwq hpre] at e
    subst e
    refine ⟨⟨by omega, by omega, rfl⟩, fun v5 v6 hJ => ⟨fun hlt => ?_, fun hge => ?_⟩⟩
    · have hlt := of_decide_eq_true hlt
      have w1 : IntKind.i64.wrap (v6 + 1) = v6 + 1 := by rw [ZdQ]; omega
      have t : ∀ c : Int, 0 <= c -> c <= 8 -> 0 <= (IntKind.i64.wrap (v6 + c)).tmod 8 := fun c h0 h1 => by
        have w : IntKind.i64.wrap (v6 + c) = v6 + c := by rw [ZdQ]; omega
        rw [w]; exact Int.tmod_nonneg 8 (by omega)
      refine ⟨hJ.1, t 4 (by omega) (by omega), t 5 (by omega) (by omega), t 6 (by omega) (by omega), t 7 (by omega) (by omega), hJ.1, fun v7 h7 => ⟨hJ.1, fun y hy => ?_⟩⟩
      rw [w1]
      refine ⟨⟨by omega, by omega, ?_⟩, by omega⟩
      rw [hy, h7, hJ.2.2, show (v6 + 1).toNat = v6.toNat + 1 by omega, ZzJ, show ((v6.toNat : Nat) : Int) = v6 by omega]
      rfl
    · have hge := of_decide_eq_false hge
      have e : v6 = 8 := by omega
      subst e
      rw [hJ.2.2]
      exact ZyO hpre
theorem ZFs : Sound Try.prog 43 (ZeL Zyl) := by
  refine ZaC ZqV ?_
  intro args H K h
  obtain ⟨pre, v, hP, hpre, rfl, hK⟩ := ZbD h
  unfold Zyl at hP
  split at hP
  · cases hP
    exact ⟨rfl, fun w0 fp ρi => ZFk _ hK (ZEi _ hpre)⟩
  · cases hP
end Go.Proofs.Ytfffjdfegnmejaa
