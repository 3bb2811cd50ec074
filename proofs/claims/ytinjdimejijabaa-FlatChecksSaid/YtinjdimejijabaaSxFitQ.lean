/- Part of the proof: SxFitQ. -/
import Derived.Test.YtinjdimejijabaaSxPlanP
import Derived.Test.YtinjdimejijabaaSxFitV
import Derived.KernelRfl
set_option linter.unusedVariables false
set_option linter.unusedSimpArgs false
set_option maxRecDepth 20000
namespace Go.Proofs.Ytinjdimejijabaa
open Go.Sx
def ZG2 : ZeX := fun args => match args with
  | [.int .i64 n, .int .i64 lo, .int .i64 hi] => some ((0 <= lo /\ lo <= hi /\ hi <= 100 /\ I64 n), .int .i64 (ZdC lo hi n))
  | _ => none
def ZNR : PCon := ⟨54, ZG2⟩
def ZrU : ACode := .reg (.op (some 6) (.mov (.cn (.int .i64 0))) .nil)
def Zn2 : ACode := .reg (.op (some 8) (.mov (.tm 0)) (.op (some 9) (.mov (.tm 1)) (.op (some 10) (.bin .geq (.tm 8) (.tm 9)) (.op (some 11) (.mov (.tm 10)) (.grpJ 11 true (.op (some 12) (.mov (.tm 0)) (.op (some 13) (.mov (.tm 2)) (.op (some 14) (.bin .leq (.tm 12) (.tm 13)) .nil))) 15 (.tm 14) (.cn (.bool false)) .nil)))))
def ZrT : ACode := .reg (.op (some 16) (.mov (.tm 0)) (.op (some 6) (.mov (.tm 16)) .nil))
def Zn1 : ACode := .cond (.tm 15) (.seq ZrT .ret) .skip
def Zh1 : ACode := .reg (.op (some 17) (.mov (.tm 2)) (.op (some 18) (.mov (.tm 1)) (.op (some 19) (.bin .sub (.tm 17) (.tm 18)) (.op (some 20) (.bin .add (.tm 19) (.cn (.int .i64 1))) (.op (some 7) (.mov (.tm 20)) .nil)))))
def Zg6 : ACode := .reg (.op (some 21) (.mov (.tm 1)) (.op (some 22) (.mov (.tm 0)) (.op (some 23) (.mov (.tm 7)) (.op (some 24) (.bin .rem (.tm 22) (.tm 23)) (.op (some 25) (.mov (.tm 7)) (.op (some 26) (.bin .add (.tm 24) (.tm 25)) (.op (some 27) (.mov (.tm 7)) (.op (some 28) (.bin .rem (.tm 26) (.tm 27)) (.op (some 29) (.bin .add (.tm 21) (.tm 28)) (.op (some 6) (.mov (.tm 29)) .nil))))))))))
def ZN3 : ACode := (.seq ZrU (.seq (.seq Zn2 Zn1) (.seq Zh1 (.seq Zg6 .ret))))
def Zj2 : Res := .one (.tm 6)
theorem ZuO : ZbE Try.prog 54 3 30 ZN3 Zj2 = true := by kernel_rfl
def Zu2 : Zbe := ZdX [] []
theorem ZpA : Zbg Try.prog Zu2 := ZbH trivial trivial
section
variable {w0 : World} {fp : Nat -> Nat -> Prop} {ρi : Rho} {Kf : SVal -> Heap -> Prop}
abbrev Yi0 : Heap := ⟨0, []⟩
theorem ZJi (n lo hi : Int) (Z : Env -> Heap -> Prop) (h : Z [(6, some (.int .i64 n))] Yi0) : EvC Zu2 ZrT [(0, some (.int .i64 n))] Yi0 [6] [] Z := EvC.of (by kernel_rfl) h
theorem ZDY (n lo hi : Int) : RetC Zj2 [(6, some (.int .i64 n))] Yi0 (.int .i64 n) := RetC.of (fun Z => by kernel_rfl)
def Zwh (n lo hi : Int) : Prop := n = (ZdC lo hi n)
abbrev Yi1 (x0 : SVal -> Heap -> Prop) (x1 x2 x3 : Int) : Prop := x0 (.int .i64 (ZdC x1 x2 x3)) ⟨0, []⟩
theorem ZMD (n lo hi : Int) (hK : (Yi1 Kf lo hi n)) (h : Zwh n lo hi) : SemL Try.prog w0 fp ρi 0 30 [ZrT, .ret, (.seq Zh1 (.seq Zg6 .ret))] [(0, some (.int .i64 n))] Yi0 (fnK Zj2 0 Kf) :=
  Zae ZpA (ZJi n lo hi _ (Za7 (R := Zj2) (m := 0) (Kf := Kf) (fun _ _ h => h) (ZDY n lo hi) (Za6 rfl (by kernel_rfl) (cg1 (fun (z1 : Int) => (.int .i64 z1 : SVal)) h) hK)))
abbrev Yi2 (x0 x1 x2 : Int) : Env := [(6, some (.int .i64 (IntKind.i64.wrap (x0 + (Int.tmod (IntKind.i64.wrap ((Int.tmod x1 x2) + x2)) x2)))))]
theorem ZJh (n lo hi v7 : Int) (Z : Env -> Heap -> Prop) (h : ((v7 ≠ 0)) /\ ((v7 ≠ 0)) /\ Z (Yi2 lo n v7) Yi0) : EvC Zu2 Zg6 [(0, some (.int .i64 n)), (1, some (.int .i64 lo)), (7, some (.int .i64 v7))] Yi0 [6] [] Z := EvC.of (by kernel_rfl) h
theorem ZDX (n lo hi v7 : Int) : RetC Zj2 (Yi2 lo n v7) Yi0 (.int .i64 (IntKind.i64.wrap (lo + (Int.tmod (IntKind.i64.wrap ((Int.tmod n v7) + v7)) v7)))) := RetC.of (fun Z => by kernel_rfl)
def Zwg (n lo hi v7 : Int) : Prop := ((v7 ≠ 0)) /\ (((v7 ≠ 0)) /\ ((IntKind.i64.wrap (lo + (Int.tmod (IntKind.i64.wrap ((Int.tmod n v7) + v7)) v7))) = (ZdC lo hi n)))
theorem ZMC (n lo hi : Int) (hK : (Yi1 Kf lo hi n)) (v7 : Int) (h : Zwg n lo hi v7) : SemL Try.prog w0 fp ρi 0 30 [Zg6, .ret] [(0, some (.int .i64 n)), (1, some (.int .i64 lo)), (7, some (.int .i64 v7))] Yi0 (fnK Zj2 0 Kf) :=
  Zae ZpA (ZJh n lo hi v7 _ ⟨h.1, ⟨h.2.1, (Za7 (R := Zj2) (m := 0) (Kf := Kf) (fun _ _ h => h) (ZDX n lo hi v7) (Za6 rfl (by kernel_rfl) (cg1 (fun (z1 : Int) => (.int .i64 z1 : SVal)) h.2.2) hK))⟩⟩)
abbrev Yi3 (x0 x1 x2 : Int) : Env := [(0, some (.int .i64 x0)), (1, some (.int .i64 x1)), (2, some (.int .i64 x2))]
theorem ZJg (n lo hi : Int) (Z : Env -> Heap -> Prop) (h : Z [(0, some (.int .i64 n)), (1, some (.int .i64 lo)), (7, some (.int .i64 (IntKind.i64.wrap ((IntKind.i64.wrap (hi - lo)) + 1))))] Yi0) : EvC Zu2 Zh1 (Yi3 n lo hi) Yi0 [0, 1, 7] [] Z := EvC.of (by kernel_rfl) h
def Zwf (n lo hi : Int) : Prop := ∀ v7 : Int, v7 = (((IntKind.i64.wrap (hi - lo)) + 1) + 9223372036854775808) % 18446744073709551616 - 9223372036854775808 -> Zwg n lo hi v7
theorem ZMB (n lo hi : Int) (hK : (Yi1 Kf lo hi n)) (h : Zwf n lo hi) : SemL Try.prog w0 fp ρi 0 30 [Zh1, (.seq Zg6 .ret)] (Yi3 n lo hi) Yi0 (fnK Zj2 0 Kf) :=
  Zae ZpA (ZJg n lo hi _ (Zag (ZMC n lo hi hK (IntKind.i64.wrap ((IntKind.i64.wrap (hi - lo)) + 1)) (h (IntKind.i64.wrap ((IntKind.i64.wrap (hi - lo)) + 1)) (ZgO _)))))
def ZlY (n lo hi : Int) : Prop := (((decide (lo <= n)) && (decide (n <= hi))) = true -> (Zwh n lo hi)) /\ (((decide (lo <= n)) && (decide (n <= hi))) = false -> (Zwf n lo hi))
theorem ZMA (n lo hi : Int) (hK : (Yi1 Kf lo hi n)) (h : ZlY n lo hi) : SemL Try.prog w0 fp ρi 0 30 [Zn1, (.seq Zh1 (.seq Zg6 .ret))] [(0, some (.int .i64 n)), (1, some (.int .i64 lo)), (2, some (.int .i64 hi)), (15, some (.bool ((decide (lo <= n)) && (decide (n <= hi)))))] Yi0 (fnK Zj2 0 Kf) :=
  Za9 (q := ((decide (lo <= n)) && (decide (n <= hi)))) (by kernel_rfl) (fun hq => (Zag (lpk [0] [] (ZMD n lo hi hK (h.1 hq))))) (fun hq => (Zbh (lpk [0, 1, 2] [] (Zag (ZMB n lo hi hK (h.2 hq))))))
theorem ZJf (n lo hi : Int) (Z : Env -> Heap -> Prop) (h : ∃ qq : Bool, ((decide (lo <= n)) = true -> (ZaL Yi0 Yi0 []) /\ (decide (n <= hi)) = qq) /\ ((decide (lo <= n)) = false -> false = qq) /\ Z [(0, some (.int .i64 n)), (1, some (.int .i64 lo)), (2, some (.int .i64 hi)), (15, some (.bool qq))] Yi0) : EvC Zu2 Zn2 (Yi3 n lo hi) Yi0 [0, 1, 2, 15] [] Z := EvC.of (by kernel_rfl) h
theorem ZMz (n lo hi : Int) (hK : (Yi1 Kf lo hi n)) (h : ZlY n lo hi) : SemL Try.prog w0 fp ρi 0 30 [Zn2, Zn1, (.seq Zh1 (.seq Zg6 .ret))] (Yi3 n lo hi) Yi0 (fnK Zj2 0 Kf) :=
  Zae ZpA (ZJf n lo hi _ ⟨((decide (lo <= n)) && (decide (n <= hi))), fun hc_qq => ⟨(ZaZ _), (qa1 hc_qq)⟩, fun hc_qq => qa2 hc_qq, (ZMA n lo hi hK h)⟩)
theorem ZJe (n lo hi : Int) (Z : Env -> Heap -> Prop) (h : Z (Yi3 n lo hi) Yi0) : EvC Zu2 ZrU (Yi3 n lo hi) Yi0 [0, 1, 2] [] Z := EvC.of (by kernel_rfl) h
theorem ZMy (n lo hi : Int) (hK : (Yi1 Kf lo hi n)) (h : ZlY n lo hi) : SemL Try.prog w0 fp ρi 0 30 [ZrU, (.seq (.seq Zn2 Zn1) (.seq Zh1 (.seq Zg6 .ret)))] (Yi3 n lo hi) Yi0 (fnK Zj2 0 Kf) :=
  Zae ZpA (ZJe n lo hi _ (Zag (Zag (ZMz n lo hi hK h))))
theorem ZOJ (n lo hi : Int) (hK : (Yi1 Kf lo hi n)) (h : ZlY n lo hi) : SemL Try.prog w0 fp ρi 0 30 [ZN3] (Yi3 n lo hi) Yi0 (fnK Zj2 0 Kf) :=
  (Zag (ZMy n lo hi hK h))
end
theorem ZNU (n lo hi : Int) (hpre : (0 <= lo /\ lo <= hi /\ hi <= 100 /\ I64 n)) : ZlY n lo hi := by
  unfold ZlY Zwf Zwg Zwh
  obtain ⟨h1, h2, h3, h4, h5⟩ := hpre
  simp only [Bool.and_eq_true, Bool.and_eq_false_iff, decide_eq_true_eq, decide_eq_false_iff_not, ZgO]
  refine ⟨fun h => (ZxW h.1 h.2).symm, fun h => ?_⟩
  intro v hv
  have hv : v = hi - lo + 1 := by omega
  subst hv
  have hb : 0 < hi - lo + 1 := by omega
  obtain ⟨_, a1, a2⟩ := Zhk (n := n) hb
  refine ⟨by omega, by omega, ?_⟩
  have h6 := Ztu (n := n) hb
  rw [show ((n.tmod (hi - lo + 1) + (hi - lo + 1) + 9223372036854775808) % 18446744073709551616 - 9223372036854775808) = n.tmod (hi - lo + 1) + (hi - lo + 1) by omega, h6]
  unfold ZdC
  rw [if_neg (by omega)]
  omega
theorem ZOO : Sound Try.prog 54 (ZeA ZG2) := by
  refine Zbq ZuO ?_
  intro args H K h
  obtain ⟨pre, v, hP, hpre, rfl, hK⟩ := ZbM h
  unfold ZG2 at hP
  split at hP
  · cases hP
    exact ⟨rfl, fun w0 fp ρi => ZOJ _ _ _ hK (ZNU _ _ _ hpre)⟩
  · cases hP
def ZG3 : ZeX := fun args => match args with
  | [.agg [.one (.int .i64 aM), .one (.int .i64 aL), .one (.int .i64 aK), .one (.int .i64 aJ), .one (.int .i64 aI), .one (.int .i64 aH), .one (.int .u64 aG), .one (.int .i64 aF), .one (.int .i64 aE), .one (.int .i64 aD), .one (.int .i64 aC), .one (.int .i64 aB), .one (.int .i64 aA), .one (.int .i64 az), .ints .u8 au ay, .ints .u8 ar ax]] => bif Nat.beq au 16 && Nat.beq ar 16 then some ((PlanV.Wf (PlanV.mk aM aL aK aJ aI aH aG aF aE aD aC aB aA az ay ax)), .agg (PlanV.cs (PlanV.fit (PlanV.mk aM aL aK aJ aI aH aG aF aE aD aC aB aA az ay ax)))) else none
  | _ => none
def ZNS : PCon := ⟨25, ZG3⟩
def Zsq : ACode := .reg (.op (some 1) (.box (.tm 0)) (.op (some 2) (.alloc [.i 0, .i 0, .i 0, .i 0, .i 0, .i 0, .one (.int .u64 0), .i 0, .i 0, .i 0, .i 0, .i 0, .i 0, .i 0, .ints .u8 16 (List.replicate 16 0), .ints .u8 16 (List.replicate 16 0)]) .nil))
def Zot : ACode := .reg (.op (some 4) (.loadA 46 (.tm 1)) (.op (some 3) (.alloc [.i 0, .i 0, .i 0, .i 0, .i 0, .i 0, .one (.int .u64 0), .i 0, .i 0, .i 0, .i 0, .i 0, .i 0, .i 0, .ints .u8 16 (List.replicate 16 0), .ints .u8 16 (List.replicate 16 0)]) (.op none (.storeA 46 (.tm 3) (.tm 4)) .nil)))
def Zlr : ACode := .reg (.op (some 5) (.fieldAddr (.tm 1) 0 1) (.op (some 6) (.load1 (.tm 5)) (.op (some 7) (.call 54 [(.tm 6), (.cn (.int .i64 1)), (.cn (.int .i64 4))]) (.op (some 8) (.fieldAddr (.tm 3) 0 1) (.op none (.store1 (.tm 8) (.tm 7)) .nil)))))
def Zjv : ACode := .reg (.op (some 9) (.fieldAddr (.tm 1) 1 1) (.op (some 10) (.load1 (.tm 9)) (.op (some 11) (.call 54 [(.tm 10), (.cn (.int .i64 1)), (.cn (.int .i64 4))]) (.op (some 12) (.fieldAddr (.tm 3) 1 1) (.op none (.store1 (.tm 12) (.tm 11)) .nil)))))
def Zib : ACode := .reg (.op (some 13) (.fieldAddr (.tm 1) 2 1) (.op (some 14) (.load1 (.tm 13)) (.op (some 15) (.call 54 [(.tm 14), (.cn (.int .i64 1)), (.cn (.int .i64 16))]) (.op (some 16) (.fieldAddr (.tm 3) 2 1) (.op none (.store1 (.tm 16) (.tm 15)) .nil)))))
def Zg8 : ACode := .reg (.op (some 17) (.fieldAddr (.tm 1) 3 1) (.op (some 18) (.load1 (.tm 17)) (.op (some 19) (.call 54 [(.tm 18), (.cn (.int .i64 1)), (.cn (.int .i64 8))]) (.op (some 20) (.fieldAddr (.tm 3) 3 1) (.op none (.store1 (.tm 20) (.tm 19)) .nil)))))
def ZgB : ACode := .reg (.op (some 21) (.fieldAddr (.tm 1) 4 1) (.op (some 22) (.load1 (.tm 21)) (.op (some 23) (.call 54 [(.tm 22), (.cn (.int .i64 2)), (.cn (.int .i64 4))]) (.op (some 24) (.fieldAddr (.tm 3) 4 1) (.op none (.store1 (.tm 24) (.tm 23)) .nil)))))
def ZfM : ACode := .reg (.op (some 25) (.fieldAddr (.tm 1) 5 1) (.op (some 26) (.load1 (.tm 25)) (.op (some 27) (.call 54 [(.tm 26), (.cn (.int .i64 1)), (.cn (.int .i64 8))]) (.op (some 28) (.fieldAddr (.tm 3) 5 1) (.op none (.store1 (.tm 28) (.tm 27)) .nil)))))
def Zfa : ACode := .reg (.op (some 29) (.fieldAddr (.tm 1) 6 1) (.op (some 30) (.load1 (.tm 29)) (.op (some 31) (.bin .gtr (.tm 30) (.cn (.int .u64 4294967296))) .nil)))
def Zsp : ACode := .reg (.op (some 32) (.fieldAddr (.tm 3) 6 1) (.op none (.store1 (.tm 32) (.cn (.int .u64 4294967296))) .nil))
def Zea : ACode := .cond (.tm 31) Zsp .skip
def Zlu : List MStep := [.mk 0 0 (some 33) (.fieldAddr (.tm 1) 7 2), .mk 1 0 (some 34) (.fieldAddr (.tm 33) 0 1), .mk 2 0 (some 35) (.load1 (.tm 34)), .mk 4 0 (some 37) (.fieldAddr (.tm 1) 7 2), .mk 5 0 (some 38) (.fieldAddr (.tm 37) 1 1), .mk 6 0 (some 39) (.load1 (.tm 38)), .mk 3 1 (some 36) (.call 54 [(.tm 35), (.cn (.int .i64 1)), (.cn (.int .i64 4))]), .mk 7 2 (some 40) (.call 54 [(.tm 39), (.cn (.int .i64 1)), (.cn (.int .i64 4))]), .mk 8 0 (some 41) (.build [.i 0, .i 0] [(0, 1, (.tm 36)), (1, 1, (.tm 40))]), .mk 9 0 (some 42) (.fieldAddr (.tm 3) 7 2), .mk 10 2 none (.storeA 2 (.tm 42) (.tm 41))]
def Zdy : ACode := .regM Zlu
def Zlt : List MStep := [.mk 0 0 (some 43) (.fieldAddr (.tm 1) 9 2), .mk 1 0 (some 44) (.fieldAddr (.tm 43) 0 1), .mk 2 0 (some 45) (.load1 (.tm 44)), .mk 4 0 (some 47) (.fieldAddr (.tm 1) 9 2), .mk 5 0 (some 48) (.fieldAddr (.tm 47) 1 1), .mk 6 0 (some 49) (.load1 (.tm 48)), .mk 3 1 (some 46) (.call 54 [(.tm 45), (.cn (.int .i64 1)), (.cn (.int .i64 4))]), .mk 7 2 (some 50) (.call 54 [(.tm 49), (.cn (.int .i64 1)), (.cn (.int .i64 4))]), .mk 8 0 (some 51) (.build [.i 0, .i 0] [(0, 1, (.tm 46)), (1, 1, (.tm 50))]), .mk 9 0 (some 52) (.fieldAddr (.tm 3) 9 2), .mk 10 2 none (.storeA 2 (.tm 52) (.tm 51))]
def Zdj : ACode := .regM Zlt
def ZcW : ACode := .reg (.op (some 53) (.fieldAddr (.tm 1) 12 1) (.op (some 54) (.load1 (.tm 53)) (.op (some 55) (.call 54 [(.tm 54), (.cn (.int .i64 1)), (.cn (.int .i64 4))]) (.op (some 56) (.fieldAddr (.tm 3) 12 1) (.op none (.store1 (.tm 56) (.tm 55)) .nil)))))
def ZcG : ACode := .reg (.op (some 57) (.fieldAddr (.tm 3) 13 1) (.op none (.store1 (.tm 57) (.cn (.int .i64 0))) .nil))
def Zcy : ACode := .reg (.op (some 58) (.fieldAddr (.tm 1) 13 1) (.op (some 59) (.load1 (.tm 58)) (.op (some 60) (.bin .rem (.tm 59) (.cn (.int .i64 2))) (.op (some 61) (.bin .neq (.tm 60) (.cn (.int .i64 0))) .nil))))
def Zos : ACode := .reg (.op (some 62) (.fieldAddr (.tm 3) 13 1) (.op none (.store1 (.tm 62) (.cn (.int .i64 1))) .nil))
def Zcx : ACode := .cond (.tm 61) Zos .skip
def Zls : List MStep := [.mk 0 0 (some 63) (.loadA 46 (.tm 3)), .mk 2 0 (some 65) (.fieldAddr (.tm 1) 11 1), .mk 3 0 (some 66) (.load1 (.tm 65)), .mk 4 0 (some 67) (.bin .rem (.tm 66) (.cn (.int .i64 4))), .mk 5 0 (some 68) (.bin .add (.tm 67) (.cn (.int .i64 4))), .mk 6 0 (some 69) (.bin .rem (.tm 68) (.cn (.int .i64 4))), .mk 1 1 (some 64) (.call 55 [(.tm 63)]), .mk 7 0 (some 70) (.bin .add (.tm 64) (.tm 69)), .mk 8 0 (some 71) (.fieldAddr (.tm 3) 11 1), .mk 9 2 none (.store1 (.tm 71) (.tm 70))]
def Zcg : ACode := .regM Zls
def Zb2 : ACode := .reg (.op (some 72) (.loadA 46 (.tm 3)) (.op none (.storeA 46 (.tm 2) (.tm 72)) .nil))
def ZN4 : ACode := (.seq Zsq (.seq Zot (.seq Zlr (.seq Zjv (.seq Zib (.seq Zg8 (.seq ZgB (.seq ZfM (.seq (.seq Zfa Zea) (.seq Zdy (.seq Zdj (.seq ZcW (.seq ZcG (.seq (.seq Zcy Zcx) (.seq Zcg (.seq Zb2 .ret))))))))))))))))
def ZeW : Res := .one (.cA 2 46)
theorem ZuP : ZbE Try.prog 25 1 73 ZN4 ZeW = true := by kernel_rfl
def ZgG : Zbe := ZdX [ZNR, ZAa] []
theorem Zei : Zbg Try.prog ZgG := ZbH ⟨ZOO, ZBW, trivial⟩ trivial
section
variable {w0 : World} {fp : Nat -> Nat -> Prop} {ρi : Rho} {Kf : SVal -> Heap -> Prop}
abbrev Yi4 (x0 x1 x2 x3 x4 x5 x6 x7 x8 x9 ap ao aq aw : Int) (av : PlanV) : Heap := ⟨3, [(1, some ⟨true, [.i x0, .i x1, .i x2, .i x3, .i x4, .i x5, .one (.int .u64 x6), .i x7, .i x8, .i x9, .i ap, .i ao, .i aq, .i aw, .ints .u8 16 av.key, .ints .u8 16 av.tag], 0⟩)]⟩
abbrev Yi5 : Env := [(2, some (.ptr ⟨1, 0, 0, 1⟩ 46)), (3, some (.ptr ⟨2, 0, 0, 1⟩ 46))]
abbrev Yi6 (x0 x1 x2 x3 x4 x5 x6 x7 x8 x9 ap ao aq aw : Int) (av : PlanV) : Heap := ⟨3, [(1, some ⟨true, [.i 0, .i 0, .i 0, .i 0, .i 0, .i 0, .one (.int .u64 0), .i 0, .i 0, .i 0, .i 0, .i 0, .i 0, .i 0, .ints .u8 16 (List.replicate 16 0), .ints .u8 16 (List.replicate 16 0)], 0⟩), (2, some ⟨true, [.i x0, .i x1, .i x2, .i x3, .i x4, .i x5, .one (.int .u64 x6), .i x7, .i x8, .i x9, .i ap, .i ao, .i aq, .i aw, .ints .u8 16 av.key, .ints .u8 16 av.tag], 0⟩)]⟩
theorem ZKf (p : PlanV) (aa ab ac ad ae af ai ak aj al ag an ah am : Int) (Z : Env -> Heap -> Prop) (h : Z [(2, some (.ptr ⟨1, 0, 0, 1⟩ 46))] (Yi4 aa ab ac ad ae af ai ak aj al ag an ah am p)) : EvC ZgG Zb2 Yi5 (Yi6 aa ab ac ad ae af ai ak aj al ag an ah am p) [2] [1] Z := EvC.of (by kernel_rfl) h
theorem ZEm (p : PlanV) (aa ab ac ad ae af ai ak aj al ag an ah am : Int) : RetC ZeW [(2, some (.ptr ⟨1, 0, 0, 1⟩ 46))] (Yi4 aa ab ac ad ae af ai ak aj al ag an ah am p) (.agg [.i aa, .i ab, .i ac, .i ad, .i ae, .i af, .one (.int .u64 ai), .i ak, .i aj, .i al, .i ag, .i an, .i ah, .i am, .ints .u8 16 p.key, .ints .u8 16 p.tag]) := RetC.of (fun Z => by kernel_rfl)
def ZwO (p : PlanV) (aa ab ac ad ae af ai ak aj al ag an ah am : Int) : Prop := (aa = (PlanV.fit p).cores) /\ (ab = (PlanV.fit p).banks) /\ (ac = (PlanV.fit p).pages) /\ (ad = (PlanV.fit p).lines) /\ (ae = (PlanV.fit p).arity) /\ (af = (PlanV.fit p).minor) /\ (ai = (PlanV.fit p).major) /\ (ak = (PlanV.fit p).ns) /\ (aj = (PlanV.fit p).nw) /\ (al = (PlanV.fit p).fs) /\ (ag = (PlanV.fit p).fw) /\ (an = (PlanV.fit p).met) /\ (ah = (PlanV.fit p).queue) /\ (am = (PlanV.fit p).kind) /\ (p.key = (PlanV.fit p).key) /\ (p.tag = (PlanV.fit p).tag)
abbrev Yi7 (x0 : SVal -> Heap -> Prop) (x1 : PlanV) : Prop := x0 (.agg (PlanV.cs (PlanV.fit x1))) ⟨0, []⟩
theorem ZNN (p : PlanV) (hK : (Yi7 Kf p)) (aa ab ac ad ae af ai ak aj al ag an ah am : Int) (h : ZwO p aa ab ac ad ae af ai ak aj al ag an ah am) : SemL Try.prog w0 fp ρi 0 73 [Zb2, .ret] Yi5 (Yi6 aa ab ac ad ae af ai ak aj al ag an ah am p) (fnK ZeW 0 Kf) :=
  Zae Zei (ZKf p aa ab ac ad ae af ai ak aj al ag an ah am _ (Za7 (R := ZeW) (m := 0) (Kf := Kf) (fun _ _ h => h) (ZEm p aa ab ac ad ae af ai ak aj al ag an ah am) (Za6 rfl (by kernel_rfl) (ZSc (fun (z1 z2 z3 z4 z5 z6 z7 z8 z9 z10 z11 z12 z13 z14 : Int) (z15 z16 : List Int) => (.agg [.i z1, .i z2, .i z3, .i z4, .i z5, .i z6, .one (.int .u64 z7), .i z8, .i z9, .i z10, .i z11, .i z12, .i z13, .i z14, .ints .u8 16 z15, .ints .u8 16 z16] : SVal)) h.1 h.2.1 h.2.2.1 h.2.2.2.1 h.2.2.2.2.1 h.2.2.2.2.2.1 h.2.2.2.2.2.2.1 h.2.2.2.2.2.2.2.1 h.2.2.2.2.2.2.2.2.1 h.2.2.2.2.2.2.2.2.2.1 h.2.2.2.2.2.2.2.2.2.2.1 h.2.2.2.2.2.2.2.2.2.2.2.1 h.2.2.2.2.2.2.2.2.2.2.2.2.1 h.2.2.2.2.2.2.2.2.2.2.2.2.2.1 h.2.2.2.2.2.2.2.2.2.2.2.2.2.2.1 h.2.2.2.2.2.2.2.2.2.2.2.2.2.2.2) hK)))
abbrev Yi8 (x0 : PlanV) (x1 x2 x3 x4 x5 x6 x7 x8 x9 ap ao aq aw : Int) : Heap := ⟨3, [(0, some ⟨true, (PlanV.cs x0), 0⟩), (1, some ⟨true, [.i 0, .i 0, .i 0, .i 0, .i 0, .i 0, .one (.int .u64 0), .i 0, .i 0, .i 0, .i 0, .i 0, .i 0, .i 0, .ints .u8 16 (List.replicate 16 0), .ints .u8 16 (List.replicate 16 0)], 0⟩), (2, some ⟨true, [.i x1, .i x2, .i x3, .i x4, .i x5, .i x6, .one (.int .u64 x7), .i x8, .i x9, .i ap, .i ao, .i x0.met, .i aq, .i aw, .ints .u8 16 x0.key, .ints .u8 16 x0.tag], 0⟩)]⟩
abbrev Yi9 : Env := [(1, some (.ptr ⟨0, 0, 0, 1⟩ 46)), (2, some (.ptr ⟨1, 0, 0, 1⟩ 46)), (3, some (.ptr ⟨2, 0, 0, 1⟩ 46))]
theorem ZKe (p : PlanV) (aa ab ac ad ae af ai ak aj al ag ah am : Int) (Z : Env -> Heap -> Prop) (h : (((4 : Int) ≠ 0)) /\ (((4 : Int) ≠ 0)) /\ (True) /\ ((ZaL (Yi8 p aa ab ac ad ae af ai ak aj al ag ah am) (Heap.keep (Yi8 p aa ab ac ad ae af ai ak aj al ag ah am) [0, 2]) (Zdz [0, 2] (Yi8 p aa ab ac ad ae af ai ak aj al ag ah am)))) /\ Z Yi5 ⟨3, [(1, some ⟨true, [.i 0, .i 0, .i 0, .i 0, .i 0, .i 0, .one (.int .u64 0), .i 0, .i 0, .i 0, .i 0, .i 0, .i 0, .i 0, .ints .u8 16 (List.replicate 16 0), .ints .u8 16 (List.replicate 16 0)], 0⟩), (2, some ⟨true, [.i aa, .i ab, .i ac, .i ad, .i ae, .i af, .one (.int .u64 ai), .i ak, .i aj, .i al, .i ag, .i (IntKind.i64.wrap ((PlanV.least (PlanV.mk aa ab ac ad ae af ai ak aj al ag p.met ah am p.key p.tag)) + (Int.tmod (IntKind.i64.wrap ((Int.tmod p.met 4) + 4)) 4))), .i ah, .i am, .ints .u8 16 p.key, .ints .u8 16 p.tag], 0⟩)]⟩) : EvNC ZgG Zls [[2], [], [0], [], [], [], [], [], [], []] Yi9 (Yi8 p aa ab ac ad ae af ai ak aj al ag ah am) [2, 3] [1, 2] Z := EvNC.of (by kernel_rfl) h
def Ztr (p : PlanV) (aa ab ac ad ae af ai ak aj al ag ah am : Int) : Prop := ∀ an : Int, an = (((PlanV.least (PlanV.mk aa ab ac ad ae af ai ak aj al ag p.met ah am p.key p.tag)) + (Int.tmod (IntKind.i64.wrap ((Int.tmod p.met 4) + 4)) 4)) + 9223372036854775808) % 18446744073709551616 - 9223372036854775808 -> ZwO p aa ab ac ad ae af ai ak aj al ag an ah am
theorem ZA2 (p : PlanV) (hK : (Yi7 Kf p)) (aa ab ac ad ae af ai ak aj al ag ah am : Int) (h : Ztr p aa ab ac ad ae af ai ak aj al ag ah am) : SemL Try.prog w0 fp ρi 0 73 [Zcg, (.seq Zb2 .ret)] Yi9 (Yi8 p aa ab ac ad ae af ai ak aj al ag ah am) (fnK ZeW 0 Kf) :=
  Zhf Zei (steps := Zls) (ZKe p aa ab ac ad ae af ai ak aj al ag ah am _ ⟨(by decide), ⟨(by decide), ⟨True.intro, ⟨Zem, (Zag (ZNN p hK aa ab ac ad ae af ai ak aj al ag (IntKind.i64.wrap ((PlanV.least (PlanV.mk aa ab ac ad ae af ai ak aj al ag p.met ah am p.key p.tag)) + (Int.tmod (IntKind.i64.wrap ((Int.tmod p.met 4) + 4)) 4))) ah am (h (IntKind.i64.wrap ((PlanV.least (PlanV.mk aa ab ac ad ae af ai ak aj al ag p.met ah am p.key p.tag)) + (Int.tmod (IntKind.i64.wrap ((Int.tmod p.met 4) + 4)) 4))) (ZgO _))))⟩⟩⟩⟩)
abbrev ZGX (x0 : PlanV) (x1 x2 x3 x4 x5 x6 x7 x8 x9 ap ao aq : Int) : Heap := ⟨3, [(0, some ⟨true, (PlanV.cs x0), 0⟩), (1, some ⟨true, [.i 0, .i 0, .i 0, .i 0, .i 0, .i 0, .one (.int .u64 0), .i 0, .i 0, .i 0, .i 0, .i 0, .i 0, .i 0, .ints .u8 16 (List.replicate 16 0), .ints .u8 16 (List.replicate 16 0)], 0⟩), (2, some ⟨true, [.i x1, .i x2, .i x3, .i x4, .i x5, .i x6, .one (.int .u64 x7), .i x8, .i x9, .i ap, .i ao, .i x0.met, .i aq, .i 0, .ints .u8 16 x0.key, .ints .u8 16 x0.tag], 0⟩)]⟩
theorem ZKd (p : PlanV) (aa ab ac ad ae af ai ak aj al ag ah : Int) (Z : Env -> Heap -> Prop) (h : Z Yi9 ⟨3, [(0, some ⟨true, (PlanV.cs p), 0⟩), (1, some ⟨true, [.i 0, .i 0, .i 0, .i 0, .i 0, .i 0, .one (.int .u64 0), .i 0, .i 0, .i 0, .i 0, .i 0, .i 0, .i 0, .ints .u8 16 (List.replicate 16 0), .ints .u8 16 (List.replicate 16 0)], 0⟩), (2, some ⟨true, [.i aa, .i ab, .i ac, .i ad, .i ae, .i af, .one (.int .u64 ai), .i ak, .i aj, .i al, .i ag, .i p.met, .i ah, .i 1, .ints .u8 16 p.key, .ints .u8 16 p.tag], 0⟩)]⟩) : EvC ZgG Zos Yi9 (ZGX p aa ab ac ad ae af ai ak aj al ag ah) [1, 2, 3] [0, 1, 2] Z := EvC.of (by kernel_rfl) h
def ZwN (p : PlanV) (aa ab ac ad ae af ai ak aj al ag ah : Int) : Prop := Ztr p aa ab ac ad ae af ai ak aj al ag ah 1
theorem ZNM (p : PlanV) (hK : (Yi7 Kf p)) (aa ab ac ad ae af ai ak aj al ag ah : Int) (h : ZwN p aa ab ac ad ae af ai ak aj al ag ah) : SemL Try.prog w0 fp ρi 0 73 [Zos, (.seq Zcg (.seq Zb2 .ret))] Yi9 (ZGX p aa ab ac ad ae af ai ak aj al ag ah) (fnK ZeW 0 Kf) :=
  Zae Zei (ZKd p aa ab ac ad ae af ai ak aj al ag ah _ (Zag (ZA2 p hK aa ab ac ad ae af ai ak aj al ag ah 1 h)))
def Zpb (p : PlanV) (aa ab ac ad ae af ai ak aj al ag ah : Int) : Prop := (((Int.tmod p.kind 2) != 0) = true -> (ZwN p aa ab ac ad ae af ai ak aj al ag ah)) /\ (((Int.tmod p.kind 2) != 0) = false -> (Ztr p aa ab ac ad ae af ai ak aj al ag ah 0))
abbrev ZRe (x0 : PlanV) : Env := [(1, some (.ptr ⟨0, 0, 0, 1⟩ 46)), (2, some (.ptr ⟨1, 0, 0, 1⟩ 46)), (3, some (.ptr ⟨2, 0, 0, 1⟩ 46)), (61, some (.bool ((Int.tmod x0.kind 2) != 0)))]
theorem ZNL (p : PlanV) (hK : (Yi7 Kf p)) (aa ab ac ad ae af ai ak aj al ag ah : Int) (h : Zpb p aa ab ac ad ae af ai ak aj al ag ah) : SemL Try.prog w0 fp ρi 0 73 [Zcx, (.seq Zcg (.seq Zb2 .ret))] (ZRe p) (ZGX p aa ab ac ad ae af ai ak aj al ag ah) (fnK ZeW 0 Kf) :=
  Za9 (q := ((Int.tmod p.kind 2) != 0)) (by kernel_rfl) (fun hq => (lpk [1, 2, 3] [0, 1, 2] (ZNM p hK aa ab ac ad ae af ai ak aj al ag ah (h.1 hq)))) (fun hq => (Zbh (lpk [1, 2, 3] [0, 1, 2] (Zag (ZA2 p hK aa ab ac ad ae af ai ak aj al ag ah 0 (h.2 hq))))))
theorem ZKc (p : PlanV) (aa ab ac ad ae af ai ak aj al ag ah : Int) (Z : Env -> Heap -> Prop) (h : (((2 : Int) ≠ 0)) /\ Z (ZRe p) (ZGX p aa ab ac ad ae af ai ak aj al ag ah)) : EvC ZgG Zcy Yi9 (ZGX p aa ab ac ad ae af ai ak aj al ag ah) [1, 2, 3, 61] [0, 1, 2] Z := EvC.of (by kernel_rfl) h
theorem ZNK (p : PlanV) (hK : (Yi7 Kf p)) (aa ab ac ad ae af ai ak aj al ag ah : Int) (h : Zpb p aa ab ac ad ae af ai ak aj al ag ah) : SemL Try.prog w0 fp ρi 0 73 [Zcy, Zcx, (.seq Zcg (.seq Zb2 .ret))] Yi9 (ZGX p aa ab ac ad ae af ai ak aj al ag ah) (fnK ZeW 0 Kf) :=
  Zae Zei (ZKc p aa ab ac ad ae af ai ak aj al ag ah _ ⟨(by decide), (ZNL p hK aa ab ac ad ae af ai ak aj al ag ah h)⟩)
abbrev ZRd (x0 : PlanV) (x1 x2 x3 x4 x5 x6 x7 x8 x9 ap ao aq : Int) : Heap := ⟨3, [(0, some ⟨true, (PlanV.cs x0), 0⟩), (1, some ⟨true, [.i 0, .i 0, .i 0, .i 0, .i 0, .i 0, .one (.int .u64 0), .i 0, .i 0, .i 0, .i 0, .i 0, .i 0, .i 0, .ints .u8 16 (List.replicate 16 0), .ints .u8 16 (List.replicate 16 0)], 0⟩), (2, some ⟨true, [.i x1, .i x2, .i x3, .i x4, .i x5, .i x6, .one (.int .u64 x7), .i x8, .i x9, .i ap, .i ao, .i x0.met, .i aq, .i x0.kind, .ints .u8 16 x0.key, .ints .u8 16 x0.tag], 0⟩)]⟩
theorem ZKb (p : PlanV) (aa ab ac ad ae af ai ak aj al ag ah : Int) (Z : Env -> Heap -> Prop) (h : Z Yi9 (ZGX p aa ab ac ad ae af ai ak aj al ag ah)) : EvC ZgG ZcG Yi9 (ZRd p aa ab ac ad ae af ai ak aj al ag ah) [1, 2, 3] [0, 1, 2] Z := EvC.of (by kernel_rfl) h
theorem ZNJ (p : PlanV) (hK : (Yi7 Kf p)) (aa ab ac ad ae af ai ak aj al ag ah : Int) (h : Zpb p aa ab ac ad ae af ai ak aj al ag ah) : SemL Try.prog w0 fp ρi 0 73 [ZcG, (.seq (.seq Zcy Zcx) (.seq Zcg (.seq Zb2 .ret)))] Yi9 (ZRd p aa ab ac ad ae af ai ak aj al ag ah) (fnK ZeW 0 Kf) :=
  Zae Zei (ZKb p aa ab ac ad ae af ai ak aj al ag ah _ (Zag (Zag (ZNK p hK aa ab ac ad ae af ai ak aj al ag ah h))))
abbrev ZRc (x0 : PlanV) (x1 x2 x3 x4 x5 x6 x7 x8 x9 ap ao : Int) : Heap := ⟨3, [(0, some ⟨true, (PlanV.cs x0), 0⟩), (1, some ⟨true, [.i 0, .i 0, .i 0, .i 0, .i 0, .i 0, .one (.int .u64 0), .i 0, .i 0, .i 0, .i 0, .i 0, .i 0, .i 0, .ints .u8 16 (List.replicate 16 0), .ints .u8 16 (List.replicate 16 0)], 0⟩), (2, some ⟨true, [.i x1, .i x2, .i x3, .i x4, .i x5, .i x6, .one (.int .u64 x7), .i x8, .i x9, .i ap, .i ao, .i x0.met, .i x0.queue, .i x0.kind, .ints .u8 16 x0.key, .ints .u8 16 x0.tag], 0⟩)]⟩
theorem ZKa (p : PlanV) (aa ab ac ad ae af ai ak aj al ag : Int) (Z : Env -> Heap -> Prop) (h : ((0 <= (1 : Int) /\ (1 : Int) <= (4 : Int) /\ (4 : Int) <= 100 /\ I64 p.queue)) /\ Z Yi9 ⟨3, [(0, some ⟨true, (PlanV.cs p), 0⟩), (1, some ⟨true, [.i 0, .i 0, .i 0, .i 0, .i 0, .i 0, .one (.int .u64 0), .i 0, .i 0, .i 0, .i 0, .i 0, .i 0, .i 0, .ints .u8 16 (List.replicate 16 0), .ints .u8 16 (List.replicate 16 0)], 0⟩), (2, some ⟨true, [.i aa, .i ab, .i ac, .i ad, .i ae, .i af, .one (.int .u64 ai), .i ak, .i aj, .i al, .i ag, .i p.met, .i (ZdC (1 : Int) (4 : Int) p.queue), .i p.kind, .ints .u8 16 p.key, .ints .u8 16 p.tag], 0⟩)]⟩) : EvC ZgG ZcW Yi9 (ZRc p aa ab ac ad ae af ai ak aj al ag) [1, 2, 3] [0, 1, 2] Z := EvC.of (by kernel_rfl) h
def ZwM (p : PlanV) (aa ab ac ad ae af ai ak aj al ag : Int) : Prop := ((0 <= (1 : Int) /\ (1 : Int) <= (4 : Int) /\ (4 : Int) <= 100 /\ I64 p.queue)) /\ (∀ ah : Int, ah = (ZdC (1 : Int) (4 : Int) p.queue) -> Zpb p aa ab ac ad ae af ai ak aj al ag ah)
theorem ZNI (p : PlanV) (hK : (Yi7 Kf p)) (aa ab ac ad ae af ai ak aj al ag : Int) (h : ZwM p aa ab ac ad ae af ai ak aj al ag) : SemL Try.prog w0 fp ρi 0 73 [ZcW, (.seq ZcG (.seq (.seq Zcy Zcx) (.seq Zcg (.seq Zb2 .ret))))] Yi9 (ZRc p aa ab ac ad ae af ai ak aj al ag) (fnK ZeW 0 Kf) :=
  Zae Zei (ZKa p aa ab ac ad ae af ai ak aj al ag _ ⟨h.1, (Zag (ZNJ p hK aa ab ac ad ae af ai ak aj al ag (ZdC (1 : Int) (4 : Int) p.queue) (h.2 (ZdC (1 : Int) (4 : Int) p.queue) rfl)))⟩)
abbrev ZOf (x0 : PlanV) (x1 x2 x3 x4 x5 x6 x7 x8 x9 : Int) : Heap := ⟨3, [(0, some ⟨true, (PlanV.cs x0), 0⟩), (1, some ⟨true, [.i 0, .i 0, .i 0, .i 0, .i 0, .i 0, .one (.int .u64 0), .i 0, .i 0, .i 0, .i 0, .i 0, .i 0, .i 0, .ints .u8 16 (List.replicate 16 0), .ints .u8 16 (List.replicate 16 0)], 0⟩), (2, some ⟨true, [.i x1, .i x2, .i x3, .i x4, .i x5, .i x6, .one (.int .u64 x7), .i x8, .i x9, .i x0.fs, .i x0.fw, .i x0.met, .i x0.queue, .i x0.kind, .ints .u8 16 x0.key, .ints .u8 16 x0.tag], 0⟩)]⟩
theorem ZJ9 (p : PlanV) (aa ab ac ad ae af ai ak aj : Int) (Z : Env -> Heap -> Prop) (h : ((0 <= (1 : Int) /\ (1 : Int) <= (4 : Int) /\ (4 : Int) <= 100 /\ I64 p.fs)) /\ ((ZaL (ZOf p aa ab ac ad ae af ai ak aj) (Heap.keep (ZOf p aa ab ac ad ae af ai ak aj) [0]) (Zdz [0] (ZOf p aa ab ac ad ae af ai ak aj)))) /\ ((0 <= (1 : Int) /\ (1 : Int) <= (4 : Int) /\ (4 : Int) <= 100 /\ I64 p.fw)) /\ Z Yi9 ⟨3, [(0, some ⟨true, (PlanV.cs p), 0⟩), (1, some ⟨true, [.i 0, .i 0, .i 0, .i 0, .i 0, .i 0, .one (.int .u64 0), .i 0, .i 0, .i 0, .i 0, .i 0, .i 0, .i 0, .ints .u8 16 (List.replicate 16 0), .ints .u8 16 (List.replicate 16 0)], 0⟩), (2, some ⟨true, [.i aa, .i ab, .i ac, .i ad, .i ae, .i af, .one (.int .u64 ai), .i ak, .i aj, .i (ZdC (1 : Int) (4 : Int) p.fs), .i (ZdC (1 : Int) (4 : Int) p.fw), .i p.met, .i p.queue, .i p.kind, .ints .u8 16 p.key, .ints .u8 16 p.tag], 0⟩)]⟩) : EvNC ZgG Zlt [[], [], [0], [], [], [], [], [], [], [], []] Yi9 (ZOf p aa ab ac ad ae af ai ak aj) [1, 2, 3] [0, 1, 2] Z := EvNC.of (by kernel_rfl) h
def ZwL (p : PlanV) (aa ab ac ad ae af ai ak aj : Int) : Prop := ((0 <= (1 : Int) /\ (1 : Int) <= (4 : Int) /\ (4 : Int) <= 100 /\ I64 p.fs)) /\ (((0 <= (1 : Int) /\ (1 : Int) <= (4 : Int) /\ (4 : Int) <= 100 /\ I64 p.fw)) /\ (∀ al : Int, al = (ZdC (1 : Int) (4 : Int) p.fs) -> ∀ ag : Int, ag = (ZdC (1 : Int) (4 : Int) p.fw) -> ZwM p aa ab ac ad ae af ai ak aj al ag))
theorem ZNH (p : PlanV) (hK : (Yi7 Kf p)) (aa ab ac ad ae af ai ak aj : Int) (h : ZwL p aa ab ac ad ae af ai ak aj) : SemL Try.prog w0 fp ρi 0 73 [Zdj, (.seq ZcW (.seq ZcG (.seq (.seq Zcy Zcx) (.seq Zcg (.seq Zb2 .ret)))))] Yi9 (ZOf p aa ab ac ad ae af ai ak aj) (fnK ZeW 0 Kf) :=
  Zhf Zei (steps := Zlt) (ZJ9 p aa ab ac ad ae af ai ak aj _ ⟨h.1, ⟨Zem, ⟨h.2.1, (Zag (ZNI p hK aa ab ac ad ae af ai ak aj (ZdC (1 : Int) (4 : Int) p.fs) (ZdC (1 : Int) (4 : Int) p.fw) ((h.2.2 (ZdC (1 : Int) (4 : Int) p.fs) rfl) (ZdC (1 : Int) (4 : Int) p.fw) rfl)))⟩⟩⟩)
abbrev ZOe (x0 : PlanV) (x1 x2 x3 x4 x5 x6 x7 : Int) : Heap := ⟨3, [(0, some ⟨true, (PlanV.cs x0), 0⟩), (1, some ⟨true, [.i 0, .i 0, .i 0, .i 0, .i 0, .i 0, .one (.int .u64 0), .i 0, .i 0, .i 0, .i 0, .i 0, .i 0, .i 0, .ints .u8 16 (List.replicate 16 0), .ints .u8 16 (List.replicate 16 0)], 0⟩), (2, some ⟨true, [.i x1, .i x2, .i x3, .i x4, .i x5, .i x6, .one (.int .u64 x7), .i x0.ns, .i x0.nw, .i x0.fs, .i x0.fw, .i x0.met, .i x0.queue, .i x0.kind, .ints .u8 16 x0.key, .ints .u8 16 x0.tag], 0⟩)]⟩
theorem ZJ8 (p : PlanV) (aa ab ac ad ae af ai : Int) (Z : Env -> Heap -> Prop) (h : ((0 <= (1 : Int) /\ (1 : Int) <= (4 : Int) /\ (4 : Int) <= 100 /\ I64 p.ns)) /\ ((ZaL (ZOe p aa ab ac ad ae af ai) (Heap.keep (ZOe p aa ab ac ad ae af ai) [0]) (Zdz [0] (ZOe p aa ab ac ad ae af ai)))) /\ ((0 <= (1 : Int) /\ (1 : Int) <= (4 : Int) /\ (4 : Int) <= 100 /\ I64 p.nw)) /\ Z Yi9 ⟨3, [(0, some ⟨true, (PlanV.cs p), 0⟩), (1, some ⟨true, [.i 0, .i 0, .i 0, .i 0, .i 0, .i 0, .one (.int .u64 0), .i 0, .i 0, .i 0, .i 0, .i 0, .i 0, .i 0, .ints .u8 16 (List.replicate 16 0), .ints .u8 16 (List.replicate 16 0)], 0⟩), (2, some ⟨true, [.i aa, .i ab, .i ac, .i ad, .i ae, .i af, .one (.int .u64 ai), .i (ZdC (1 : Int) (4 : Int) p.ns), .i (ZdC (1 : Int) (4 : Int) p.nw), .i p.fs, .i p.fw, .i p.met, .i p.queue, .i p.kind, .ints .u8 16 p.key, .ints .u8 16 p.tag], 0⟩)]⟩) : EvNC ZgG Zlu [[], [], [0], [], [], [], [], [], [], [], []] Yi9 (ZOe p aa ab ac ad ae af ai) [1, 2, 3] [0, 1, 2] Z := EvNC.of (by kernel_rfl) h
def Ztq (p : PlanV) (aa ab ac ad ae af ai : Int) : Prop := ((0 <= (1 : Int) /\ (1 : Int) <= (4 : Int) /\ (4 : Int) <= 100 /\ I64 p.ns)) /\ (((0 <= (1 : Int) /\ (1 : Int) <= (4 : Int) /\ (4 : Int) <= 100 /\ I64 p.nw)) /\ (∀ ak : Int, ak = (ZdC (1 : Int) (4 : Int) p.ns) -> ∀ aj : Int, aj = (ZdC (1 : Int) (4 : Int) p.nw) -> ZwL p aa ab ac ad ae af ai ak aj))
theorem ZA1 (p : PlanV) (hK : (Yi7 Kf p)) (aa ab ac ad ae af ai : Int) (h : Ztq p aa ab ac ad ae af ai) : SemL Try.prog w0 fp ρi 0 73 [Zdy, (.seq Zdj (.seq ZcW (.seq ZcG (.seq (.seq Zcy Zcx) (.seq Zcg (.seq Zb2 .ret))))))] Yi9 (ZOe p aa ab ac ad ae af ai) (fnK ZeW 0 Kf) :=
  Zhf Zei (steps := Zlu) (ZJ8 p aa ab ac ad ae af ai _ ⟨h.1, ⟨Zem, ⟨h.2.1, (Zag (ZNH p hK aa ab ac ad ae af ai (ZdC (1 : Int) (4 : Int) p.ns) (ZdC (1 : Int) (4 : Int) p.nw) ((h.2.2 (ZdC (1 : Int) (4 : Int) p.ns) rfl) (ZdC (1 : Int) (4 : Int) p.nw) rfl)))⟩⟩⟩)
abbrev ZHg (x0 : PlanV) (x1 x2 x3 x4 x5 x6 : Int) : Heap := ⟨3, [(0, some ⟨true, (PlanV.cs x0), 0⟩), (1, some ⟨true, [.i 0, .i 0, .i 0, .i 0, .i 0, .i 0, .one (.int .u64 0), .i 0, .i 0, .i 0, .i 0, .i 0, .i 0, .i 0, .ints .u8 16 (List.replicate 16 0), .ints .u8 16 (List.replicate 16 0)], 0⟩), (2, some ⟨true, [.i x1, .i x2, .i x3, .i x4, .i x5, .i x6, .one (.int .u64 x0.major), .i x0.ns, .i x0.nw, .i x0.fs, .i x0.fw, .i x0.met, .i x0.queue, .i x0.kind, .ints .u8 16 x0.key, .ints .u8 16 x0.tag], 0⟩)]⟩
theorem ZJ7 (p : PlanV) (aa ab ac ad ae af : Int) (Z : Env -> Heap -> Prop) (h : Z Yi9 ⟨3, [(0, some ⟨true, (PlanV.cs p), 0⟩), (1, some ⟨true, [.i 0, .i 0, .i 0, .i 0, .i 0, .i 0, .one (.int .u64 0), .i 0, .i 0, .i 0, .i 0, .i 0, .i 0, .i 0, .ints .u8 16 (List.replicate 16 0), .ints .u8 16 (List.replicate 16 0)], 0⟩), (2, some ⟨true, [.i aa, .i ab, .i ac, .i ad, .i ae, .i af, .one (.int .u64 4294967296), .i p.ns, .i p.nw, .i p.fs, .i p.fw, .i p.met, .i p.queue, .i p.kind, .ints .u8 16 p.key, .ints .u8 16 p.tag], 0⟩)]⟩) : EvC ZgG Zsp Yi9 (ZHg p aa ab ac ad ae af) [1, 2, 3] [0, 1, 2] Z := EvC.of (by kernel_rfl) h
def ZwK (p : PlanV) (aa ab ac ad ae af : Int) : Prop := Ztq p aa ab ac ad ae af 4294967296
theorem ZNG (p : PlanV) (hK : (Yi7 Kf p)) (aa ab ac ad ae af : Int) (h : ZwK p aa ab ac ad ae af) : SemL Try.prog w0 fp ρi 0 73 [Zsp, (.seq Zdy (.seq Zdj (.seq ZcW (.seq ZcG (.seq (.seq Zcy Zcx) (.seq Zcg (.seq Zb2 .ret)))))))] Yi9 (ZHg p aa ab ac ad ae af) (fnK ZeW 0 Kf) :=
  Zae Zei (ZJ7 p aa ab ac ad ae af _ (Zag (ZA1 p hK aa ab ac ad ae af 4294967296 h)))
def ZmI (p : PlanV) (aa ab ac ad ae af : Int) : Prop := ((decide (4294967296 < p.major)) = true -> (ZwK p aa ab ac ad ae af)) /\ ((decide (4294967296 < p.major)) = false -> (Ztq p aa ab ac ad ae af p.major))
abbrev ZRb (x0 : PlanV) : Env := [(1, some (.ptr ⟨0, 0, 0, 1⟩ 46)), (2, some (.ptr ⟨1, 0, 0, 1⟩ 46)), (3, some (.ptr ⟨2, 0, 0, 1⟩ 46)), (31, some (.bool (decide (4294967296 < x0.major))))]
theorem ZGl (p : PlanV) (hK : (Yi7 Kf p)) (aa ab ac ad ae af : Int) (h : ZmI p aa ab ac ad ae af) : SemL Try.prog w0 fp ρi 0 73 [Zea, (.seq Zdy (.seq Zdj (.seq ZcW (.seq ZcG (.seq (.seq Zcy Zcx) (.seq Zcg (.seq Zb2 .ret)))))))] (ZRb p) (ZHg p aa ab ac ad ae af) (fnK ZeW 0 Kf) :=
  Za9 (q := (decide (4294967296 < p.major))) (by kernel_rfl) (fun hq => (lpk [1, 2, 3] [0, 1, 2] (ZNG p hK aa ab ac ad ae af (h.1 hq)))) (fun hq => (Zbh (lpk [1, 2, 3] [0, 1, 2] (Zag (ZA1 p hK aa ab ac ad ae af p.major (h.2 hq))))))
theorem ZDd (p : PlanV) (aa ab ac ad ae af : Int) (Z : Env -> Heap -> Prop) (h : Z (ZRb p) (ZHg p aa ab ac ad ae af)) : EvC ZgG Zfa Yi9 (ZHg p aa ab ac ad ae af) [1, 2, 3, 31] [0, 1, 2] Z := EvC.of (by kernel_rfl) h
theorem ZGk (p : PlanV) (hK : (Yi7 Kf p)) (aa ab ac ad ae af : Int) (h : ZmI p aa ab ac ad ae af) : SemL Try.prog w0 fp ρi 0 73 [Zfa, Zea, (.seq Zdy (.seq Zdj (.seq ZcW (.seq ZcG (.seq (.seq Zcy Zcx) (.seq Zcg (.seq Zb2 .ret)))))))] Yi9 (ZHg p aa ab ac ad ae af) (fnK ZeW 0 Kf) :=
  Zae Zei (ZDd p aa ab ac ad ae af _ (ZGl p hK aa ab ac ad ae af h))
abbrev ZRa (x0 : PlanV) (x1 x2 x3 x4 x5 : Int) : Heap := ⟨3, [(0, some ⟨true, (PlanV.cs x0), 0⟩), (1, some ⟨true, [.i 0, .i 0, .i 0, .i 0, .i 0, .i 0, .one (.int .u64 0), .i 0, .i 0, .i 0, .i 0, .i 0, .i 0, .i 0, .ints .u8 16 (List.replicate 16 0), .ints .u8 16 (List.replicate 16 0)], 0⟩), (2, some ⟨true, [.i x1, .i x2, .i x3, .i x4, .i x5, .i x0.minor, .one (.int .u64 x0.major), .i x0.ns, .i x0.nw, .i x0.fs, .i x0.fw, .i x0.met, .i x0.queue, .i x0.kind, .ints .u8 16 x0.key, .ints .u8 16 x0.tag], 0⟩)]⟩
theorem ZDc (p : PlanV) (aa ab ac ad ae : Int) (Z : Env -> Heap -> Prop) (h : ((0 <= (1 : Int) /\ (1 : Int) <= (8 : Int) /\ (8 : Int) <= 100 /\ I64 p.minor)) /\ Z Yi9 ⟨3, [(0, some ⟨true, (PlanV.cs p), 0⟩), (1, some ⟨true, [.i 0, .i 0, .i 0, .i 0, .i 0, .i 0, .one (.int .u64 0), .i 0, .i 0, .i 0, .i 0, .i 0, .i 0, .i 0, .ints .u8 16 (List.replicate 16 0), .ints .u8 16 (List.replicate 16 0)], 0⟩), (2, some ⟨true, [.i aa, .i ab, .i ac, .i ad, .i ae, .i (ZdC (1 : Int) (8 : Int) p.minor), .one (.int .u64 p.major), .i p.ns, .i p.nw, .i p.fs, .i p.fw, .i p.met, .i p.queue, .i p.kind, .ints .u8 16 p.key, .ints .u8 16 p.tag], 0⟩)]⟩) : EvC ZgG ZfM Yi9 (ZRa p aa ab ac ad ae) [1, 2, 3] [0, 1, 2] Z := EvC.of (by kernel_rfl) h
def ZqA (p : PlanV) (aa ab ac ad ae : Int) : Prop := ((0 <= (1 : Int) /\ (1 : Int) <= (8 : Int) /\ (8 : Int) <= 100 /\ I64 p.minor)) /\ (∀ af : Int, af = (ZdC (1 : Int) (8 : Int) p.minor) -> ZmI p aa ab ac ad ae af)
theorem ZGj (p : PlanV) (hK : (Yi7 Kf p)) (aa ab ac ad ae : Int) (h : ZqA p aa ab ac ad ae) : SemL Try.prog w0 fp ρi 0 73 [ZfM, (.seq (.seq Zfa Zea) (.seq Zdy (.seq Zdj (.seq ZcW (.seq ZcG (.seq (.seq Zcy Zcx) (.seq Zcg (.seq Zb2 .ret))))))))] Yi9 (ZRa p aa ab ac ad ae) (fnK ZeW 0 Kf) :=
  Zae Zei (ZDc p aa ab ac ad ae _ ⟨h.1, (Zag (Zag (ZGk p hK aa ab ac ad ae (ZdC (1 : Int) (8 : Int) p.minor) (h.2 (ZdC (1 : Int) (8 : Int) p.minor) rfl))))⟩)
abbrev ZQ9 (x0 : PlanV) (x1 x2 x3 x4 : Int) : Heap := ⟨3, [(0, some ⟨true, (PlanV.cs x0), 0⟩), (1, some ⟨true, [.i 0, .i 0, .i 0, .i 0, .i 0, .i 0, .one (.int .u64 0), .i 0, .i 0, .i 0, .i 0, .i 0, .i 0, .i 0, .ints .u8 16 (List.replicate 16 0), .ints .u8 16 (List.replicate 16 0)], 0⟩), (2, some ⟨true, [.i x1, .i x2, .i x3, .i x4, .i x0.arity, .i x0.minor, .one (.int .u64 x0.major), .i x0.ns, .i x0.nw, .i x0.fs, .i x0.fw, .i x0.met, .i x0.queue, .i x0.kind, .ints .u8 16 x0.key, .ints .u8 16 x0.tag], 0⟩)]⟩
theorem ZDb (p : PlanV) (aa ab ac ad : Int) (Z : Env -> Heap -> Prop) (h : ((0 <= (2 : Int) /\ (2 : Int) <= (4 : Int) /\ (4 : Int) <= 100 /\ I64 p.arity)) /\ Z Yi9 ⟨3, [(0, some ⟨true, (PlanV.cs p), 0⟩), (1, some ⟨true, [.i 0, .i 0, .i 0, .i 0, .i 0, .i 0, .one (.int .u64 0), .i 0, .i 0, .i 0, .i 0, .i 0, .i 0, .i 0, .ints .u8 16 (List.replicate 16 0), .ints .u8 16 (List.replicate 16 0)], 0⟩), (2, some ⟨true, [.i aa, .i ab, .i ac, .i ad, .i (ZdC (2 : Int) (4 : Int) p.arity), .i p.minor, .one (.int .u64 p.major), .i p.ns, .i p.nw, .i p.fs, .i p.fw, .i p.met, .i p.queue, .i p.kind, .ints .u8 16 p.key, .ints .u8 16 p.tag], 0⟩)]⟩) : EvC ZgG ZgB Yi9 (ZQ9 p aa ab ac ad) [1, 2, 3] [0, 1, 2] Z := EvC.of (by kernel_rfl) h
def Zqz (p : PlanV) (aa ab ac ad : Int) : Prop := ((0 <= (2 : Int) /\ (2 : Int) <= (4 : Int) /\ (4 : Int) <= 100 /\ I64 p.arity)) /\ (∀ ae : Int, ae = (ZdC (2 : Int) (4 : Int) p.arity) -> ZqA p aa ab ac ad ae)
theorem ZGi (p : PlanV) (hK : (Yi7 Kf p)) (aa ab ac ad : Int) (h : Zqz p aa ab ac ad) : SemL Try.prog w0 fp ρi 0 73 [ZgB, (.seq ZfM (.seq (.seq Zfa Zea) (.seq Zdy (.seq Zdj (.seq ZcW (.seq ZcG (.seq (.seq Zcy Zcx) (.seq Zcg (.seq Zb2 .ret)))))))))] Yi9 (ZQ9 p aa ab ac ad) (fnK ZeW 0 Kf) :=
  Zae Zei (ZDb p aa ab ac ad _ ⟨h.1, (Zag (ZGj p hK aa ab ac ad (ZdC (2 : Int) (4 : Int) p.arity) (h.2 (ZdC (2 : Int) (4 : Int) p.arity) rfl)))⟩)
abbrev ZQ8 (x0 : PlanV) (x1 x2 x3 : Int) : Heap := ⟨3, [(0, some ⟨true, (PlanV.cs x0), 0⟩), (1, some ⟨true, [.i 0, .i 0, .i 0, .i 0, .i 0, .i 0, .one (.int .u64 0), .i 0, .i 0, .i 0, .i 0, .i 0, .i 0, .i 0, .ints .u8 16 (List.replicate 16 0), .ints .u8 16 (List.replicate 16 0)], 0⟩), (2, some ⟨true, [.i x1, .i x2, .i x3, .i x0.lines, .i x0.arity, .i x0.minor, .one (.int .u64 x0.major), .i x0.ns, .i x0.nw, .i x0.fs, .i x0.fw, .i x0.met, .i x0.queue, .i x0.kind, .ints .u8 16 x0.key, .ints .u8 16 x0.tag], 0⟩)]⟩
theorem ZDa (p : PlanV) (aa ab ac : Int) (Z : Env -> Heap -> Prop) (h : ((0 <= (1 : Int) /\ (1 : Int) <= (8 : Int) /\ (8 : Int) <= 100 /\ I64 p.lines)) /\ Z Yi9 ⟨3, [(0, some ⟨true, (PlanV.cs p), 0⟩), (1, some ⟨true, [.i 0, .i 0, .i 0, .i 0, .i 0, .i 0, .one (.int .u64 0), .i 0, .i 0, .i 0, .i 0, .i 0, .i 0, .i 0, .ints .u8 16 (List.replicate 16 0), .ints .u8 16 (List.replicate 16 0)], 0⟩), (2, some ⟨true, [.i aa, .i ab, .i ac, .i (ZdC (1 : Int) (8 : Int) p.lines), .i p.arity, .i p.minor, .one (.int .u64 p.major), .i p.ns, .i p.nw, .i p.fs, .i p.fw, .i p.met, .i p.queue, .i p.kind, .ints .u8 16 p.key, .ints .u8 16 p.tag], 0⟩)]⟩) : EvC ZgG Zg8 Yi9 (ZQ8 p aa ab ac) [1, 2, 3] [0, 1, 2] Z := EvC.of (by kernel_rfl) h
def Zqy (p : PlanV) (aa ab ac : Int) : Prop := ((0 <= (1 : Int) /\ (1 : Int) <= (8 : Int) /\ (8 : Int) <= 100 /\ I64 p.lines)) /\ (∀ ad : Int, ad = (ZdC (1 : Int) (8 : Int) p.lines) -> Zqz p aa ab ac ad)
theorem ZGh (p : PlanV) (hK : (Yi7 Kf p)) (aa ab ac : Int) (h : Zqy p aa ab ac) : SemL Try.prog w0 fp ρi 0 73 [Zg8, (.seq ZgB (.seq ZfM (.seq (.seq Zfa Zea) (.seq Zdy (.seq Zdj (.seq ZcW (.seq ZcG (.seq (.seq Zcy Zcx) (.seq Zcg (.seq Zb2 .ret))))))))))] Yi9 (ZQ8 p aa ab ac) (fnK ZeW 0 Kf) :=
  Zae Zei (ZDa p aa ab ac _ ⟨h.1, (Zag (ZGi p hK aa ab ac (ZdC (1 : Int) (8 : Int) p.lines) (h.2 (ZdC (1 : Int) (8 : Int) p.lines) rfl)))⟩)
abbrev ZQ7 (x0 : PlanV) (x1 x2 : Int) : Heap := ⟨3, [(0, some ⟨true, (PlanV.cs x0), 0⟩), (1, some ⟨true, [.i 0, .i 0, .i 0, .i 0, .i 0, .i 0, .one (.int .u64 0), .i 0, .i 0, .i 0, .i 0, .i 0, .i 0, .i 0, .ints .u8 16 (List.replicate 16 0), .ints .u8 16 (List.replicate 16 0)], 0⟩), (2, some ⟨true, [.i x1, .i x2, .i x0.pages, .i x0.lines, .i x0.arity, .i x0.minor, .one (.int .u64 x0.major), .i x0.ns, .i x0.nw, .i x0.fs, .i x0.fw, .i x0.met, .i x0.queue, .i x0.kind, .ints .u8 16 x0.key, .ints .u8 16 x0.tag], 0⟩)]⟩
theorem ZC9 (p : PlanV) (aa ab : Int) (Z : Env -> Heap -> Prop) (h : ((0 <= (1 : Int) /\ (1 : Int) <= (16 : Int) /\ (16 : Int) <= 100 /\ I64 p.pages)) /\ Z Yi9 ⟨3, [(0, some ⟨true, (PlanV.cs p), 0⟩), (1, some ⟨true, [.i 0, .i 0, .i 0, .i 0, .i 0, .i 0, .one (.int .u64 0), .i 0, .i 0, .i 0, .i 0, .i 0, .i 0, .i 0, .ints .u8 16 (List.replicate 16 0), .ints .u8 16 (List.replicate 16 0)], 0⟩), (2, some ⟨true, [.i aa, .i ab, .i (ZdC (1 : Int) (16 : Int) p.pages), .i p.lines, .i p.arity, .i p.minor, .one (.int .u64 p.major), .i p.ns, .i p.nw, .i p.fs, .i p.fw, .i p.met, .i p.queue, .i p.kind, .ints .u8 16 p.key, .ints .u8 16 p.tag], 0⟩)]⟩) : EvC ZgG Zib Yi9 (ZQ7 p aa ab) [1, 2, 3] [0, 1, 2] Z := EvC.of (by kernel_rfl) h
def Zqx (p : PlanV) (aa ab : Int) : Prop := ((0 <= (1 : Int) /\ (1 : Int) <= (16 : Int) /\ (16 : Int) <= 100 /\ I64 p.pages)) /\ (∀ ac : Int, ac = (ZdC (1 : Int) (16 : Int) p.pages) -> Zqy p aa ab ac)
theorem ZGg (p : PlanV) (hK : (Yi7 Kf p)) (aa ab : Int) (h : Zqx p aa ab) : SemL Try.prog w0 fp ρi 0 73 [Zib, (.seq Zg8 (.seq ZgB (.seq ZfM (.seq (.seq Zfa Zea) (.seq Zdy (.seq Zdj (.seq ZcW (.seq ZcG (.seq (.seq Zcy Zcx) (.seq Zcg (.seq Zb2 .ret)))))))))))] Yi9 (ZQ7 p aa ab) (fnK ZeW 0 Kf) :=
  Zae Zei (ZC9 p aa ab _ ⟨h.1, (Zag (ZGh p hK aa ab (ZdC (1 : Int) (16 : Int) p.pages) (h.2 (ZdC (1 : Int) (16 : Int) p.pages) rfl)))⟩)
abbrev ZQ6 (x0 : PlanV) (x1 : Int) : Heap := ⟨3, [(0, some ⟨true, (PlanV.cs x0), 0⟩), (1, some ⟨true, [.i 0, .i 0, .i 0, .i 0, .i 0, .i 0, .one (.int .u64 0), .i 0, .i 0, .i 0, .i 0, .i 0, .i 0, .i 0, .ints .u8 16 (List.replicate 16 0), .ints .u8 16 (List.replicate 16 0)], 0⟩), (2, some ⟨true, [.i x1, .i x0.banks, .i x0.pages, .i x0.lines, .i x0.arity, .i x0.minor, .one (.int .u64 x0.major), .i x0.ns, .i x0.nw, .i x0.fs, .i x0.fw, .i x0.met, .i x0.queue, .i x0.kind, .ints .u8 16 x0.key, .ints .u8 16 x0.tag], 0⟩)]⟩
theorem ZC8 (p : PlanV) (aa : Int) (Z : Env -> Heap -> Prop) (h : ((0 <= (1 : Int) /\ (1 : Int) <= (4 : Int) /\ (4 : Int) <= 100 /\ I64 p.banks)) /\ Z Yi9 ⟨3, [(0, some ⟨true, (PlanV.cs p), 0⟩), (1, some ⟨true, [.i 0, .i 0, .i 0, .i 0, .i 0, .i 0, .one (.int .u64 0), .i 0, .i 0, .i 0, .i 0, .i 0, .i 0, .i 0, .ints .u8 16 (List.replicate 16 0), .ints .u8 16 (List.replicate 16 0)], 0⟩), (2, some ⟨true, [.i aa, .i (ZdC (1 : Int) (4 : Int) p.banks), .i p.pages, .i p.lines, .i p.arity, .i p.minor, .one (.int .u64 p.major), .i p.ns, .i p.nw, .i p.fs, .i p.fw, .i p.met, .i p.queue, .i p.kind, .ints .u8 16 p.key, .ints .u8 16 p.tag], 0⟩)]⟩) : EvC ZgG Zjv Yi9 (ZQ6 p aa) [1, 2, 3] [0, 1, 2] Z := EvC.of (by kernel_rfl) h
def Zqw (p : PlanV) (aa : Int) : Prop := ((0 <= (1 : Int) /\ (1 : Int) <= (4 : Int) /\ (4 : Int) <= 100 /\ I64 p.banks)) /\ (∀ ab : Int, ab = (ZdC (1 : Int) (4 : Int) p.banks) -> Zqx p aa ab)
theorem ZGf (p : PlanV) (hK : (Yi7 Kf p)) (aa : Int) (h : Zqw p aa) : SemL Try.prog w0 fp ρi 0 73 [Zjv, (.seq Zib (.seq Zg8 (.seq ZgB (.seq ZfM (.seq (.seq Zfa Zea) (.seq Zdy (.seq Zdj (.seq ZcW (.seq ZcG (.seq (.seq Zcy Zcx) (.seq Zcg (.seq Zb2 .ret))))))))))))] Yi9 (ZQ6 p aa) (fnK ZeW 0 Kf) :=
  Zae Zei (ZC8 p aa _ ⟨h.1, (Zag (ZGg p hK aa (ZdC (1 : Int) (4 : Int) p.banks) (h.2 (ZdC (1 : Int) (4 : Int) p.banks) rfl)))⟩)
abbrev ZPK (x0 : PlanV) : Heap := ⟨3, [(0, some ⟨true, (PlanV.cs x0), 0⟩), (1, some ⟨true, [.i 0, .i 0, .i 0, .i 0, .i 0, .i 0, .one (.int .u64 0), .i 0, .i 0, .i 0, .i 0, .i 0, .i 0, .i 0, .ints .u8 16 (List.replicate 16 0), .ints .u8 16 (List.replicate 16 0)], 0⟩), (2, some ⟨true, (PlanV.cs x0), 0⟩)]⟩
theorem ZC7 (p : PlanV) (Z : Env -> Heap -> Prop) (h : ((0 <= (1 : Int) /\ (1 : Int) <= (4 : Int) /\ (4 : Int) <= 100 /\ I64 p.cores)) /\ Z Yi9 ⟨3, [(0, some ⟨true, (PlanV.cs p), 0⟩), (1, some ⟨true, [.i 0, .i 0, .i 0, .i 0, .i 0, .i 0, .one (.int .u64 0), .i 0, .i 0, .i 0, .i 0, .i 0, .i 0, .i 0, .ints .u8 16 (List.replicate 16 0), .ints .u8 16 (List.replicate 16 0)], 0⟩), (2, some ⟨true, [.i (ZdC (1 : Int) (4 : Int) p.cores), .i p.banks, .i p.pages, .i p.lines, .i p.arity, .i p.minor, .one (.int .u64 p.major), .i p.ns, .i p.nw, .i p.fs, .i p.fw, .i p.met, .i p.queue, .i p.kind, .ints .u8 16 p.key, .ints .u8 16 p.tag], 0⟩)]⟩) : EvC ZgG Zlr Yi9 (ZPK p) [1, 2, 3] [0, 1, 2] Z := EvC.of (by kernel_rfl) h
def Zjb (p : PlanV) : Prop := ((0 <= (1 : Int) /\ (1 : Int) <= (4 : Int) /\ (4 : Int) <= 100 /\ I64 p.cores)) /\ (∀ aa : Int, aa = (ZdC (1 : Int) (4 : Int) p.cores) -> Zqw p aa)
theorem ZGe (p : PlanV) (hK : (Yi7 Kf p)) (h : Zjb p) : SemL Try.prog w0 fp ρi 0 73 [Zlr, (.seq Zjv (.seq Zib (.seq Zg8 (.seq ZgB (.seq ZfM (.seq (.seq Zfa Zea) (.seq Zdy (.seq Zdj (.seq ZcW (.seq ZcG (.seq (.seq Zcy Zcx) (.seq Zcg (.seq Zb2 .ret)))))))))))))] Yi9 (ZPK p) (fnK ZeW 0 Kf) :=
  Zae Zei (ZC7 p _ ⟨h.1, (Zag (ZGf p hK (ZdC (1 : Int) (4 : Int) p.cores) (h.2 (ZdC (1 : Int) (4 : Int) p.cores) rfl)))⟩)
abbrev ZPJ : Env := [(1, some (.ptr ⟨0, 0, 0, 1⟩ 46)), (2, some (.ptr ⟨1, 0, 0, 1⟩ 46))]
abbrev ZPI (x0 : PlanV) : Heap := ⟨2, [(0, some ⟨true, (PlanV.cs x0), 0⟩), (1, some ⟨true, [.i 0, .i 0, .i 0, .i 0, .i 0, .i 0, .one (.int .u64 0), .i 0, .i 0, .i 0, .i 0, .i 0, .i 0, .i 0, .ints .u8 16 (List.replicate 16 0), .ints .u8 16 (List.replicate 16 0)], 0⟩)]⟩
theorem ZC6 (p : PlanV) (Z : Env -> Heap -> Prop) (h : Z Yi9 (ZPK p)) : EvC ZgG Zot ZPJ (ZPI p) [1, 2, 3] [0, 1, 2] Z := EvC.of (by kernel_rfl) h
theorem ZGd (p : PlanV) (hK : (Yi7 Kf p)) (h : Zjb p) : SemL Try.prog w0 fp ρi 0 73 [Zot, (.seq Zlr (.seq Zjv (.seq Zib (.seq Zg8 (.seq ZgB (.seq ZfM (.seq (.seq Zfa Zea) (.seq Zdy (.seq Zdj (.seq ZcW (.seq ZcG (.seq (.seq Zcy Zcx) (.seq Zcg (.seq Zb2 .ret))))))))))))))] ZPJ (ZPI p) (fnK ZeW 0 Kf) :=
  Zae Zei (ZC6 p _ (Zag (ZGe p hK h)))
theorem ZC5 (p : PlanV) (Z : Env -> Heap -> Prop) (h : Z ZPJ (ZPI p)) : EvC ZgG Zsq [(0, some (.agg (PlanV.cs p)))] Yi0 [1, 2] [0, 1] Z := EvC.of (by kernel_rfl) h
theorem ZGc (p : PlanV) (hK : (Yi7 Kf p)) (h : Zjb p) : SemL Try.prog w0 fp ρi 0 73 [Zsq, (.seq Zot (.seq Zlr (.seq Zjv (.seq Zib (.seq Zg8 (.seq ZgB (.seq ZfM (.seq (.seq Zfa Zea) (.seq Zdy (.seq Zdj (.seq ZcW (.seq ZcG (.seq (.seq Zcy Zcx) (.seq Zcg (.seq Zb2 .ret)))))))))))))))] [(0, some (.agg (PlanV.cs p)))] Yi0 (fnK ZeW 0 Kf) :=
  Zae Zei (ZC5 p _ (Zag (ZGd p hK h)))
theorem ZOK (p : PlanV) (hK : (Yi7 Kf p)) (h : Zjb p) : SemL Try.prog w0 fp ρi 0 73 [ZN4] [(0, some (.agg (PlanV.cs p)))] Yi0 (fnK ZeW 0 Kf) :=
  (Zag (ZGc p hK h))
end
theorem ZNV (p : PlanV) (hpre : (PlanV.Wf p)) : Zjb p := by
  unfold Zjb Zqw Zqx Zqy Zqz ZqA ZmI ZwK Ztq ZwL ZwM Zpb ZwN Ztr ZwO
  obtain ⟨w1, w2, w3, w4, w5, w6, w7, w8, w9, w10, w11, w12, w13, w14, hk, ht⟩ := hpre
  have hmet := PlanV.fit_met p
  have h4 := Ztu (n := p.met) (b := 4) (by decide)
  obtain ⟨c4, a4, b4⟩ := Zhk (n := p.met) (b := 4) (by decide)
  obtain ⟨c2, a2, b2⟩ := Zhk (n := p.kind) (b := 2) (by decide)
  have hw : IntKind.i64.wrap (p.met.tmod 4 + 4) = p.met.tmod 4 + 4 := by rw [ZgO]; omega
  refine ⟨⟨by decide, by decide, by decide, w1⟩, ?_⟩; rintro _ rfl
  refine ⟨⟨by decide, by decide, by decide, w2⟩, ?_⟩; rintro _ rfl
  refine ⟨⟨by decide, by decide, by decide, w3⟩, ?_⟩; rintro _ rfl
  refine ⟨⟨by decide, by decide, by decide, w4⟩, ?_⟩; rintro _ rfl
  refine ⟨⟨by decide, by decide, by decide, w5⟩, ?_⟩; rintro _ rfl
  refine ⟨⟨by decide, by decide, by decide, w6⟩, ?_⟩; rintro _ rfl
  rw [hw, h4]
  refine ⟨fun hm => ?_, fun hm => ?_⟩
  all_goals
    simp only [decide_eq_true_eq, decide_eq_false_iff_not] at hm
    refine ⟨⟨by decide, by decide, by decide, w8⟩, ⟨by decide, by decide, by decide, w9⟩, ?_⟩; rintro _ rfl _ rfl
    refine ⟨⟨by decide, by decide, by decide, w10⟩, ⟨by decide, by decide, by decide, w11⟩, ?_⟩; rintro _ rfl _ rfl
    refine ⟨⟨by decide, by decide, by decide, w13⟩, ?_⟩; rintro _ rfl
    refine ⟨fun hk2 => ?_, fun hk2 => ?_⟩
    all_goals
      simp only [bne_iff_ne, bne_eq_false_iff_eq, ne_eq] at hk2
      intro v hv
      have hmaj : p.fit.major = if 4294967296 < p.major then 4294967296 else p.major := rfl
      have hkd : p.fit.kind = p.kind % 2 := rfl
      refine ⟨rfl, rfl, rfl, rfl, rfl, rfl, ?_, rfl, rfl, rfl, rfl, ?_, rfl, ?_, rfl, rfl⟩
      · rw [hmaj]; split <;> omega
      · rw [hv]; exact hmet
      · rw [hkd]; omega
theorem ZOP : Sound Try.prog 25 (ZeA ZG3) := by
  refine Zbq ZuP ?_
  intro args H K h
  obtain ⟨pre, v, hP, hpre, rfl, hK⟩ := ZbM h
  unfold ZG3 at hP
  split at hP
  · obtain ⟨hb, hP⟩ := ZaM hP
    simp only [Bool.and_eq_true] at hb
    obtain ⟨h0, h1⟩ := hb
    obtain rfl := Nat.eq_of_beq_eq_true h0
    obtain rfl := Nat.eq_of_beq_eq_true h1
    cases hP
    exact ⟨rfl, fun w0 fp ρi => ZOK (PlanV.mk _ _ _ _ _ _ _ _ _ _ _ _ _ _ _ _) hK (ZNV (PlanV.mk _ _ _ _ _ _ _ _ _ _ _ _ _ _ _ _) hpre)⟩
  · cases hP
end Go.Proofs.Ytinjdimejijabaa
