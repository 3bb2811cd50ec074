/- Two parts of the proof. -/
import Derived.Test.YtinjdimejijabaaSxT4
import Derived.Test.YtinjdimejijabaaSxBit
import Derived.Test.YtinjdimejijabaaSxV1
import Derived.Test.YtinjdimejijabaaSxG
import Derived.Test.YtinjdimejijabaaSxPut
import Derived.Test.YtinjdimejijabaaSxOpX
import Derived.KernelRfl
set_option linter.unusedVariables false
set_option linter.unusedSimpArgs false
namespace Go.Proofs.Ytinjdimejijabaa
open Go.Sx
def ZOm (m : Nat) (at_ n : Int) : Prop := 0 <= at_ /\ 0 <= n /\ n <= 64 /\ n <= 8 * m /\ at_ <= 8 * m - n
instance (m at_ n) : Decidable (ZOm m at_ n) := by unfold ZOm; exact inferInstance
end Go.Proofs.Ytinjdimejijabaa

namespace Go.Proofs.Ytinjdimejijabaa
open Go.Sx
end Go.Proofs.Ytinjdimejijabaa

namespace Go.Proofs.Ytinjdimejijabaa
open Go.Sx
def ZoR : ZlV := fun ds => match ds with
  | [.sl false .u8 b_n b_c b, .pl (.int .u64 v), .pl (.int .i64 n)] => some ((List.length b = b_n /\ b_n <= 1000000 /\ 0 <= v /\ v < 2 ^ 64), [.sl .u8 (b_n + Int.toNat (min n 64)) (b ++ (ZdN v (Int.toNat (min n 64))))], [])
  | _ => none
def ZuT : Con := ⟨78, dC ZoR, [], [.ints .u8 0 []], []⟩
theorem sbNumber : Sound Try.prog 78 (dS ZoR) := s41.mono fun args H K h => by
  obtain ⟨ds, rfl, rfl, h⟩ := h
  split at h
  · rename_i pre rs ws hD
    obtain ⟨hpre, hK⟩ := h
    unfold ZoR at hD
    split at hD
    · cases hD
      exact ⟨false, _, _, _, _, _, rfl, rfl, hpre.1, hpre.2.1, hpre.2.2.1, hpre.2.2.2, fun c h => hK c h⟩
    · cases hD
  · exact h.elim
def ZoQ : ZlV := fun ds => match ds with
  | [.sl false .u8 b_n b_c b, .pl (.int .u64 v), .pl (.int .i64 n)] => some ((List.length b = b_n /\ b_n <= 1000000 /\ 0 <= v /\ v < 2 ^ 64), [.sl .u8 (b_n + Int.toNat (min n 64)) (b ++ (ZdN v (Int.toNat (min n 64))))], [])
  | _ => none
def ZuR : Con := ⟨81, dC ZoQ, [], [.ints .u8 0 []], []⟩
theorem sqNumber : Sound Try.prog 81 (dS ZoQ) := s43.mono fun args H K h => by
  obtain ⟨ds, rfl, rfl, h⟩ := h
  split at h
  · rename_i pre rs ws hD
    obtain ⟨hpre, hK⟩ := h
    unfold ZoQ at hD
    split at hD
    · cases hD
      exact ⟨false, _, _, _, _, _, rfl, rfl, hpre.1, hpre.2.1, hpre.2.2.1, hpre.2.2.2, fun c h => hK c h⟩
    · cases hD
  · exact h.elim
def ZyW : ZlV := fun ds => match ds with
  | [.sl false .u8 b_n b_c b] => some ((List.length b = b_n /\ b_n <= b_c /\ b_n <= 1000000000 /\ Byt b), [.pl (.int .u64 (Zcz (List.take 8 b)))], [])
  | _ => none
def ZAC : Con := ⟨76, dC ZyW, [], [.ints .u8 0 []], []⟩
theorem sbRead : Sound Try.prog 76 (dS ZyW) := s44.mono fun args H K h => by
  obtain ⟨ds, rfl, rfl, h⟩ := h
  split at h
  · rename_i pre rs ws hD
    obtain ⟨hpre, hK⟩ := h
    unfold ZyW at hD
    split at hD
    · cases hD
      exact ⟨false, _, _, _, rfl, rfl, hpre.1, hpre.2.1, hpre.2.2.1, hpre.2.2.2, hK⟩
    · cases hD
  · exact h.elim
def ZyT : ZlV := fun ds => match ds with
  | [.sl false .u8 b_n b_c b] => some ((List.length b = b_n /\ b_n <= b_c /\ b_n <= 1000000000 /\ Byt b), [.pl (.int .u64 (Zcz (List.take 8 b)))], [])
  | _ => none
def ZAz : Con := ⟨80, dC ZyT, [], [.ints .u8 0 []], []⟩
theorem sqRead : Sound Try.prog 80 (dS ZyT) := s45.mono fun args H K h => by
  obtain ⟨ds, rfl, rfl, h⟩ := h
  split at h
  · rename_i pre rs ws hD
    obtain ⟨hpre, hK⟩ := h
    unfold ZyT at hD
    split at hD
    · cases hD
      exact ⟨false, _, _, _, rfl, rfl, hpre.1, hpre.2.1, hpre.2.2.1, hpre.2.2.2, hK⟩
    · cases hD
  · exact h.elim
end Go.Proofs.Ytinjdimejijabaa

set_option linter.unusedVariables false
set_option linter.unusedSimpArgs false
set_option maxRecDepth 20000
namespace Go.Proofs.Ytinjdimejijabaa
open Go.Sx
def ZyK : ZeX := fun args => match args with
  | [.int .i64 n] => some (True, .bool (sizeB n))
  | _ => none
def ZGw : PCon := ⟨74, ZyK⟩
def Zrq : ACode := .reg (.op (some 2) (.mov (.cn (.bool false))) .nil)
def Znu : ACode := .reg (.op (some 3) (.mov (.tm 0)) (.op (some 4) (.bin .eql (.tm 3) (.cn (.int .i64 1))) (.op (some 5) (.mov (.tm 4)) (.grpJ 5 false (.op (some 6) (.mov (.tm 0)) (.op (some 7) (.bin .eql (.tm 6) (.cn (.int .i64 2))) .nil)) 8 (.tm 7) (.cn (.bool true)) (.op (some 9) (.mov (.tm 8)) (.grpJ 9 false (.op (some 10) (.mov (.tm 0)) (.op (some 11) (.bin .eql (.tm 10) (.cn (.int .i64 4))) .nil)) 12 (.tm 11) (.cn (.bool true)) (.op (some 13) (.mov (.tm 12)) (.grpJ 13 false (.op (some 14) (.mov (.tm 0)) (.op (some 15) (.bin .eql (.tm 14) (.cn (.int .i64 8))) .nil)) 16 (.tm 15) (.cn (.bool true)) (.op (some 2) (.mov (.tm 16)) .nil)))))))))
def ZBg : ACode := (.seq Zrq (.seq Znu .ret))
def Zmo : Res := .one (.tm 2)
theorem Zss : ZbE Try.prog 74 1 17 ZBg Zmo = true := by kernel_rfl
def ZyP : Zbe := ZdX [] []
theorem ZxS : Zbg Try.prog ZyP := ZbH trivial trivial
section
variable {w0 : World} {fp : Nat -> Nat -> Prop} {ρi : Rho} {Kf : SVal -> Heap -> Prop}
abbrev Ye0 : Heap := ⟨0, []⟩
abbrev Ye1 (x0 : Int) : Env := [(0, some (.int .i64 x0))]
theorem ZIu (n : Int) (Z : Env -> Heap -> Prop) (h : ∃ qq : Bool, ((n == 1) = false -> (ZaL Ye0 Ye0 []) /\ (n == 2) = qq) /\ ((n == 1) = true -> true = qq) /\ ∃ qq'1 : Bool, (qq = false -> (ZaL Ye0 Ye0 []) /\ (n == 4) = qq'1) /\ (qq = true -> true = qq'1) /\ ∃ qq'2 : Bool, (qq'1 = false -> (ZaL Ye0 Ye0 []) /\ (n == 8) = qq'2) /\ (qq'1 = true -> true = qq'2) /\ Z [(2, some (.bool qq'2))] Ye0) : EvC ZyP Znu (Ye1 n) Ye0 [2] [] Z := EvC.of (by kernel_rfl) h
theorem ZDz (n : Int) : RetC Zmo [(2, some (.bool ((((n == 1) || (n == 2)) || (n == 4)) || (n == 8))))] Ye0 (.bool ((((n == 1) || (n == 2)) || (n == 4)) || (n == 8))) := RetC.of (fun Z => by kernel_rfl)
def ZoZ (n : Int) : Prop := ((((n == 1) || (n == 2)) || (n == 4)) || (n == 8)) = (sizeB n)
theorem ZLD (n : Int) (hK : Kf (.bool (sizeB n)) ⟨0, []⟩) (h : ZoZ n) : SemL Try.prog w0 fp ρi 0 17 [Znu, .ret] (Ye1 n) Ye0 (fnK Zmo 0 Kf) :=
  Zae ZxS (ZIu n _ ⟨((n == 1) || (n == 2)), fun hc_qq => ⟨(ZaZ _), (qo1 hc_qq)⟩, fun hc_qq => qo2 hc_qq, ⟨(((n == 1) || (n == 2)) || (n == 4)), fun hc_qq_1 => ⟨(ZaZ _), (qo1 hc_qq_1)⟩, fun hc_qq_1 => qo2 hc_qq_1, ⟨((((n == 1) || (n == 2)) || (n == 4)) || (n == 8)), fun hc_qq_2 => ⟨(ZaZ _), (qo1 hc_qq_2)⟩, fun hc_qq_2 => qo2 hc_qq_2, (Za7 (R := Zmo) (m := 0) (Kf := Kf) (fun _ _ h => h) (ZDz n) (Za6 rfl (by kernel_rfl) (cg1 (fun (z1 : Bool) => (.bool z1 : SVal)) h) hK))⟩⟩⟩)
theorem ZIt (n : Int) (Z : Env -> Heap -> Prop) (h : Z (Ye1 n) Ye0) : EvC ZyP Zrq (Ye1 n) Ye0 [0] [] Z := EvC.of (by kernel_rfl) h
theorem ZLC (n : Int) (hK : Kf (.bool (sizeB n)) ⟨0, []⟩) (h : ZoZ n) : SemL Try.prog w0 fp ρi 0 17 [Zrq, (.seq Znu .ret)] (Ye1 n) Ye0 (fnK Zmo 0 Kf) :=
  Zae ZxS (ZIt n _ (Zag (ZLD n hK h)))
theorem ZHm (n : Int) (hK : Kf (.bool (sizeB n)) ⟨0, []⟩) (h : ZoZ n) : SemL Try.prog w0 fp ρi 0 17 [ZBg] (Ye1 n) Ye0 (fnK Zmo 0 Kf) :=
  (Zag (ZLC n hK h))
end
theorem ZGB (n : Int) (hpre : True) : ZoZ n := by
  unfold ZoZ
  rfl
theorem ZHv : Sound Try.prog 74 (ZeA ZyK) := by
  refine Zbq Zss ?_
  intro args H K h
  obtain ⟨pre, v, hP, hpre, rfl, hK⟩ := ZbM h
  unfold ZyK at hP
  split at hP
  · cases hP
    exact ⟨rfl, fun w0 fp ρi => ZHm _ hK (ZGB _ hpre)⟩
  · cases hP
def ZlI : ZeX := fun args => match args with
  | [.agg [.one (.int .i64 o_0), .one (.int .i64 o_1), .one (.int .i64 o_2), .one (.int .u64 o_3), .one (.int .u64 o_4)]] => some (True, .bool (chgB o_0))
  | _ => none
def ZuD : PCon := ⟨75, ZlI⟩
def Zrp : ACode := .reg (.op (some 1) (.box (.tm 0)) (.op (some 2) (.mov (.cn (.bool false))) .nil))
def Znt : ACode := .reg (.op (some 3) (.fieldAddr (.tm 1) 0 1) (.op (some 4) (.load1 (.tm 3)) (.op (some 5) (.bin .eql (.tm 4) (.cn (.int .i64 2))) (.op (some 6) (.mov (.tm 5)) (.grpJ 6 false (.op (some 7) (.fieldAddr (.tm 1) 0 1) (.op (some 8) (.load1 (.tm 7)) (.op (some 9) (.bin .eql (.tm 8) (.cn (.int .i64 3))) .nil))) 10 (.tm 9) (.cn (.bool true)) (.op (some 11) (.mov (.tm 10)) (.grpJ 11 false (.op (some 12) (.fieldAddr (.tm 1) 0 1) (.op (some 13) (.load1 (.tm 12)) (.op (some 14) (.bin .eql (.tm 13) (.cn (.int .i64 4))) .nil))) 15 (.tm 14) (.cn (.bool true)) (.op (some 2) (.mov (.tm 15)) .nil))))))))
def ZpN : ACode := (.seq Zrp (.seq Znt .ret))
def Zf4 : Res := .one (.tm 2)
theorem ZlS : ZbE Try.prog 75 1 16 ZpN Zf4 = true := by kernel_rfl
def ZlL : Zbe := ZdX [] []
theorem Zmc : Zbg Try.prog ZlL := ZbH trivial trivial
section
variable {w0 : World} {fp : Nat -> Nat -> Prop} {ρi : Rho} {Kf : SVal -> Heap -> Prop}
abbrev Ye2 (x0 : OpV) : Heap := ⟨1, [(0, some ⟨true, (OpV.cs x0), 0⟩)]⟩
abbrev Ye3 : Env := [(1, some (.ptr ⟨0, 0, 0, 1⟩ 5))]
theorem ZIs (o : OpV) (Z : Env -> Heap -> Prop) (h : ∃ qq : Bool, ((o.okind == 2) = false -> (ZaL (Ye2 o) (Ye2 o) [(0, some ⟨true, (OpV.cs o), 0⟩)]) /\ (o.okind == 3) = qq) /\ ((o.okind == 2) = true -> true = qq) /\ ∃ qq'1 : Bool, (qq = false -> (ZaL (Ye2 o) (Ye2 o) [(0, some ⟨true, (OpV.cs o), 0⟩)]) /\ (o.okind == 4) = qq'1) /\ (qq = true -> true = qq'1) /\ Z [(2, some (.bool qq'1))] ⟨1, []⟩) : EvC ZlL Znt Ye3 (Ye2 o) [2] [] Z := EvC.of (by kernel_rfl) h
theorem ZDy (o : OpV) : RetC Zf4 [(2, some (.bool (((o.okind == 2) || (o.okind == 3)) || (o.okind == 4))))] ⟨1, []⟩ (.bool (((o.okind == 2) || (o.okind == 3)) || (o.okind == 4))) := RetC.of (fun Z => by kernel_rfl)
def ZoY (o : OpV) : Prop := (((o.okind == 2) || (o.okind == 3)) || (o.okind == 4)) = (chgB o.okind)
theorem ZLB (o : OpV) (hK : Kf (.bool (chgB o.okind)) ⟨0, []⟩) (h : ZoY o) : SemL Try.prog w0 fp ρi 0 16 [Znt, .ret] Ye3 (Ye2 o) (fnK Zf4 0 Kf) :=
  Zae Zmc (ZIs o _ ⟨((o.okind == 2) || (o.okind == 3)), fun hc_qq => ⟨(ZaZ _), (qo1 hc_qq)⟩, fun hc_qq => qo2 hc_qq, ⟨(((o.okind == 2) || (o.okind == 3)) || (o.okind == 4)), fun hc_qq_1 => ⟨(ZaZ _), (qo1 hc_qq_1)⟩, fun hc_qq_1 => qo2 hc_qq_1, (Za7 (R := Zf4) (m := 0) (Kf := Kf) (fun _ _ h => h) (ZDy o) (Za6 rfl (by kernel_rfl) (cg1 (fun (z1 : Bool) => (.bool z1 : SVal)) h) hK))⟩⟩)
theorem ZIr (o : OpV) (Z : Env -> Heap -> Prop) (h : Z Ye3 (Ye2 o)) : EvC ZlL Zrp [(0, some (.agg (OpV.cs o)))] Ye0 [1] [0] Z := EvC.of (by kernel_rfl) h
theorem ZLA (o : OpV) (hK : Kf (.bool (chgB o.okind)) ⟨0, []⟩) (h : ZoY o) : SemL Try.prog w0 fp ρi 0 16 [Zrp, (.seq Znt .ret)] [(0, some (.agg (OpV.cs o)))] Ye0 (fnK Zf4 0 Kf) :=
  Zae Zmc (ZIr o _ (Zag (ZLB o hK h)))
theorem Zvb (o : OpV) (hK : Kf (.bool (chgB o.okind)) ⟨0, []⟩) (h : ZoY o) : SemL Try.prog w0 fp ρi 0 16 [ZpN] [(0, some (.agg (OpV.cs o)))] Ye0 (fnK Zf4 0 Kf) :=
  (Zag (ZLA o hK h))
end
theorem ZuG (o : OpV) (hpre : True) : ZoY o := by
  unfold ZoY
  unfold chgB
  rw [Bool.eq_iff_iff]
  simp only [decide_eq_true_eq, Bool.or_eq_true, beq_iff_eq]
  omega
theorem ZwS : Sound Try.prog 75 (ZeA ZlI) := by
  refine Zbq ZlS ?_
  intro args H K h
  obtain ⟨pre, v, hP, hpre, rfl, hK⟩ := ZbM h
  unfold ZlI at hP
  split at hP
  · cases hP
    exact ⟨rfl, fun w0 fp ρi => Zvb (OpV.mk _ _ _ _ _) hK (ZuG (OpV.mk _ _ _ _ _) hpre)⟩
  · cases hP
def ZyL : ZeX := fun args => match args with
  | [.int .i64 n] => some (True, .int .u64 (Zgf n))
  | _ => none
def ZGx : PCon := ⟨77, ZyL⟩
def Zro : ACode := .reg (.op (some 2) (.mov (.cn (.int .u64 0))) .nil)
def Zrn : ACode := .reg (.op (some 4) (.mov (.tm 0)) (.op (some 5) (.bin .lss (.tm 4) (.cn (.int .i64 1))) (.op (some 3) (.mov (.tm 5)) .nil)))
def Zrm : ACode := .reg (.op (some 2) (.mov (.cn (.int .u64 0))) .nil)
def Zrl : ACode := .reg (.op (some 7) (.mov (.tm 0)) (.op (some 8) (.bin .geq (.tm 7) (.cn (.int .i64 8))) (.op (some 6) (.mov (.tm 8)) .nil)))
def Zrk : ACode := .reg (.op (some 2) (.mov (.cn (.int .u64 18446744073709551615))) .nil)
def Zrj : ACode := .cond (.tm 6) (.seq Zrk .ret) .skip
def Zri : ACode := .cond (.tm 3) (.seq Zrm .ret) (.seq Zrl Zrj)
def Zrh : ACode := .block 0 (.seq Zrn Zri)
def Zjt : ACode := .reg (.op (some 9) (.mov (.tm 0)) (.op (some 10) (.bin .mul (.cn (.int .i64 8)) (.tm 9)) (.op (some 11) (.bin .shl (.cn (.int .u64 1)) (.tm 10)) (.op (some 12) (.bin .sub (.tm 11) (.cn (.int .u64 1))) (.op (some 2) (.mov (.tm 12)) .nil)))))
def ZBh : ACode := (.seq Zro (.seq Zrh (.seq Zjt .ret)))
def Zf3 : Res := .one (.tm 2)
theorem Zst : ZbE Try.prog 77 1 13 ZBh Zf3 = true := by kernel_rfl
def ZlK : Zbe := ZdX [] []
theorem Zjr : Zbg Try.prog ZlK := ZbH trivial trivial
section
variable {w0 : World} {fp : Nat -> Nat -> Prop} {ρi : Rho} {Kf : SVal -> Heap -> Prop}
def Zjj (w0 : World) (fp : Nat -> Nat -> Prop) (ρi : Rho) (Kf : SVal -> Heap -> Prop) (n : Int) : ZdV := Zch 0 (fun e H => SemL Try.prog w0 fp ρi 0 13 [(.seq Zjt .ret)] e H (fnK Zf3 0 Kf)) (fnK Zf3 0 Kf)
theorem ZIq (n : Int) (Z : Env -> Heap -> Prop) (h : Z [(2, some (.int .u64 0))] Ye0) : EvC ZlK Zrm [] Ye0 [2] [] Z := EvC.of (by kernel_rfl) h
theorem ZDx (n : Int) : RetC Zf3 [(2, some (.int .u64 0))] Ye0 (.int .u64 0) := RetC.of (fun Z => by kernel_rfl)
def ZvI (n : Int) : Prop := 0 = (Zgf n)
abbrev Ye4 (x0 : SVal -> Heap -> Prop) (x1 : Int) : Prop := x0 (.int .u64 (Zgf x1)) ⟨0, []⟩
theorem ZLz (n : Int) (hK : (Ye4 Kf n)) (h : ZvI n) : SemL Try.prog w0 fp ρi 0 13 [Zrm, .ret] [] Ye0 (Zjj w0 fp ρi Kf n) :=
  Zae Zjr (ZIq n _ (Za7 (R := Zf3) (m := 0) (Kf := Kf) (fun _ _ h => h) (ZDx n) (Za6 rfl (by kernel_rfl) (cg1 (fun (z1 : Int) => (.int .u64 z1 : SVal)) h) hK)))
abbrev Ye5 : Env := [(2, some (.int .u64 18446744073709551615))]
theorem ZIp (n : Int) (Z : Env -> Heap -> Prop) (h : Z Ye5 Ye0) : EvC ZlK Zrk [] Ye0 [2] [] Z := EvC.of (by kernel_rfl) h
theorem ZDw (n : Int) : RetC Zf3 Ye5 Ye0 (.int .u64 18446744073709551615) := RetC.of (fun Z => by kernel_rfl)
def ZvH (n : Int) : Prop := 18446744073709551615 = (Zgf n)
theorem ZLy (n : Int) (hK : (Ye4 Kf n)) (h : ZvH n) : SemL Try.prog w0 fp ρi 0 13 [Zrk, .ret] [] Ye0 (Zjj w0 fp ρi Kf n) :=
  Zae Zjr (ZIp n _ (Za7 (R := Zf3) (m := 0) (Kf := Kf) (fun _ _ h => h) (ZDw n) (Za6 rfl (by kernel_rfl) (cg1 (fun (z1 : Int) => (.int .u64 z1 : SVal)) h) hK)))
abbrev Ye6 (x0 : Int) : Env := [(2, some (.int .u64 (IntKind.u64.wrap ((ZAn .u64 1 (IntKind.i64.wrap (8 * x0))) - 1))))]
theorem ZIo (n : Int) (Z : Env -> Heap -> Prop) (h : ((0 <= (IntKind.i64.wrap (8 * n)))) /\ Z (Ye6 n) Ye0) : EvC ZlK Zjt (Ye1 n) Ye0 [2] [] Z := EvC.of (by kernel_rfl) h
theorem ZDv (n : Int) : RetC Zf3 (Ye6 n) Ye0 (.int .u64 (IntKind.u64.wrap ((ZAn .u64 1 (IntKind.i64.wrap (8 * n))) - 1))) := RetC.of (fun Z => by kernel_rfl)
def ZvG (n : Int) : Prop := ((0 <= (IntKind.i64.wrap (8 * n)))) /\ ((IntKind.u64.wrap ((ZAn .u64 1 (IntKind.i64.wrap (8 * n))) - 1)) = (Zgf n))
theorem ZLx (n : Int) (hK : (Ye4 Kf n)) (h : ZvG n) : SemL Try.prog w0 fp ρi 0 13 [Zjt, .ret] (Ye1 n) Ye0 (fnK Zf3 0 Kf) :=
  Zae Zjr (ZIo n _ ⟨h.1, (Za7 (R := Zf3) (m := 0) (Kf := Kf) (fun _ _ h => h) (ZDv n) (Za6 rfl (by kernel_rfl) (cg1 (fun (z1 : Int) => (.int .u64 z1 : SVal)) h.2) hK))⟩)
def Zs5 (n : Int) : Prop := ((decide (8 <= n)) = true -> (ZvH n)) /\ ((decide (8 <= n)) = false -> (ZvG n))
abbrev Ye7 (x0 : Int) : Env := [(0, some (.int .i64 x0)), (6, some (.bool (decide (8 <= x0))))]
theorem ZLw (n : Int) (hK : (Ye4 Kf n)) (h : Zs5 n) : SemL Try.prog w0 fp ρi 0 13 [Zrj] (Ye7 n) Ye0 (Zjj w0 fp ρi Kf n) :=
  Za9 (q := (decide (8 <= n))) (by kernel_rfl) (fun hq => (Zag (lpk [] [] (ZLy n hK (h.1 hq))))) (fun hq => (Zbh (ZdB (lpk [0] [] (Zag (ZLx n hK (h.2 hq)))))))
theorem ZIn (n : Int) (Z : Env -> Heap -> Prop) (h : Z (Ye7 n) Ye0) : EvC ZlK Zrl (Ye1 n) Ye0 [0, 6] [] Z := EvC.of (by kernel_rfl) h
theorem ZLv (n : Int) (hK : (Ye4 Kf n)) (h : Zs5 n) : SemL Try.prog w0 fp ρi 0 13 [Zrl, Zrj] (Ye1 n) Ye0 (Zjj w0 fp ρi Kf n) :=
  Zae Zjr (ZIn n _ (ZLw n hK h))
def ZkB (n : Int) : Prop := ((decide (n < 1)) = true -> (ZvI n)) /\ ((decide (n < 1)) = false -> (Zs5 n))
abbrev Ye8 (x0 : Int) : Env := [(0, some (.int .i64 x0)), (3, some (.bool (decide (x0 < 1))))]
theorem ZLu (n : Int) (hK : (Ye4 Kf n)) (h : ZkB n) : SemL Try.prog w0 fp ρi 0 13 [Zri] (Ye8 n) Ye0 (Zjj w0 fp ρi Kf n) :=
  Za9 (q := (decide (n < 1))) (by kernel_rfl) (fun hq => (Zag (lpk [] [] (ZLz n hK (h.1 hq))))) (fun hq => (Zag (lpk [0] [] (ZLv n hK (h.2 hq)))))
theorem ZIm (n : Int) (Z : Env -> Heap -> Prop) (h : Z (Ye8 n) Ye0) : EvC ZlK Zrn (Ye1 n) Ye0 [0, 3] [] Z := EvC.of (by kernel_rfl) h
theorem ZLt (n : Int) (hK : (Ye4 Kf n)) (h : ZkB n) : SemL Try.prog w0 fp ρi 0 13 [Zrn, Zri] (Ye1 n) Ye0 (Zjj w0 fp ρi Kf n) :=
  Zae Zjr (ZIm n _ (ZLu n hK h))
theorem ZLs (n : Int) (hK : (Ye4 Kf n)) (h : ZkB n) : SemL Try.prog w0 fp ρi 0 13 [Zrh, (.seq Zjt .ret)] (Ye1 n) Ye0 (fnK Zf3 0 Kf) :=
  ZbN (Zag (ZLt n hK h))
theorem ZIl (n : Int) (Z : Env -> Heap -> Prop) (h : Z (Ye1 n) Ye0) : EvC ZlK Zro (Ye1 n) Ye0 [0] [] Z := EvC.of (by kernel_rfl) h
theorem ZLr (n : Int) (hK : (Ye4 Kf n)) (h : ZkB n) : SemL Try.prog w0 fp ρi 0 13 [Zro, (.seq Zrh (.seq Zjt .ret))] (Ye1 n) Ye0 (fnK Zf3 0 Kf) :=
  Zae Zjr (ZIl n _ (Zag (ZLs n hK h)))
theorem ZHn (n : Int) (hK : (Ye4 Kf n)) (h : ZkB n) : SemL Try.prog w0 fp ρi 0 13 [ZBh] (Ye1 n) Ye0 (fnK Zf3 0 Kf) :=
  (Zag (ZLr n hK h))
end
theorem ZGC (n : Int) (hpre : True) : ZkB n := by
  unfold ZkB Zs5 ZvG ZvH ZvI
  simp only [decide_eq_true_eq, decide_eq_false_iff_not]
  refine ⟨fun h => (by unfold Zgf; rw [if_pos h]), fun h => ⟨fun h2 => (by unfold Zgf; rw [if_neg h, if_pos h2]), fun h2 => ?_⟩⟩
  obtain ⟨k, rfl⟩ := Int.eq_ofNat_of_zero_le (show 0 <= n by omega)
  have e1 : IntKind.i64.wrap (8 * (k : Int)) = ((8 * k : Nat) : Int) := wrap_i64 (by omega) (by omega)
  have hp : (2 : Int) ^ (8 * k) <= 2 ^ 56 := ZkY 2 rfl (by omega) (by omega)
  have hp0 : (0 : Int) < 2 ^ (8 * k) := Int.pow_pos (by omega)
  have e2 : ZAn .u64 1 ((8 * k : Nat) : Int) = 2 ^ (8 * k) := by
    rw [Zt0 (by simp only [Int.toNat_natCast]; omega), Int.toNat_natCast, Int.one_mul]; omega
  have hpe : (2 : Int) ^ (8 * k) = 256 ^ k := by rw [Int.pow_mul]; rfl
  rw [e1, e2, ZdH]
  unfold Zgf
  rw [if_neg h, if_neg h2, Int.toNat_natCast, <- hpe]
  omega
theorem ZHw : Sound Try.prog 77 (ZeA ZyL) := by
  refine Zbq Zst ?_
  intro args H K h
  obtain ⟨pre, v, hP, hpre, rfl, hK⟩ := ZbM h
  unfold ZyL at hP
  split at hP
  · cases hP
    exact ⟨rfl, fun w0 fp ρi => ZHn _ hK (ZGC _ hpre)⟩
  · cases hP
def ZQc : ZeX := fun args => match args with
  | [.agg [.one (.int .i64 o_0), .one (.int .i64 o_1), .one (.int .i64 o_2), .one (.int .u64 o_3), .one (.int .u64 o_4)], .agg [.ints .u8 x_n x]] => bif Nat.beq x_n 32 then some ((OpV.Wf (OpV.mk o_0 o_1 o_2 o_3 o_4) /\ Zi4 x), .tuple [.agg [.ints .u8 32 (OpV.next (OpV.mk o_0 o_1 o_2 o_3 o_4) x)], .int .u64 (OpV.result (OpV.mk o_0 o_1 o_2 o_3 o_4) x)]) else none
  | _ => none
def ZPc : PCon := ⟨60, ZQc⟩
def ZeT (o : OpV) (x : List Int) (Kf : SVal -> Heap -> Prop) : Prop := Kf (.tuple [.agg [.ints .u8 32 (OpV.next o x)], .int .u64 (OpV.result o x)]) ⟨0, []⟩
def ZrM : ACode := .reg (.op (some 2) (.box (.tm 0)) (.op (some 3) (.box (.tm 1)) (.op (some 4) (.alloc [.ints .u8 32 (List.replicate 32 0)]) (.op (some 5) (.mov (.cn (.int .u64 0))) .nil))))
def ZnS : ACode := .reg (.op (some 10) (.fieldAddr (.tm 2) 2 1) (.op (some 11) (.load1 (.tm 10)) (.op (some 12) (.call 74 [(.tm 11)]) (.op (some 13) (.not (.tm 12)) (.op (some 14) (.mov (.tm 13)) (.grpJ 14 false (.op (some 15) (.loadA 5 (.tm 2)) (.op (some 16) (.call 75 [(.tm 15)]) (.op (some 17) (.not (.tm 16)) (.op (some 18) (.mov (.tm 17)) (.grpJ 18 true (.op (some 19) (.fieldAddr (.tm 2) 0 1) (.op (some 20) (.load1 (.tm 19)) (.op (some 21) (.bin .neq (.tm 20) (.cn (.int .i64 1))) .nil))) 22 (.tm 21) (.cn (.bool false)) .nil))))) 23 (.tm 22) (.cn (.bool true)) .nil))))))
def ZrL : ACode := .reg (.op (some 24) (.loadA 32 (.tm 3)) (.op none (.storeA 32 (.tm 4) (.tm 24)) (.op (some 5) (.mov (.cn (.int .u64 0))) .nil)))
def ZnI : ACode := .cond (.tm 23) (.seq ZrL .ret) .skip
def ZhZ : ACode := .reg (.op (some 25) (.fieldAddr (.tm 2) 1 1) (.op (some 26) (.load1 (.tm 25)) (.op (some 27) (.bin .and (.tm 26) (.cn (.int .i64 31))) (.op (some 28) (.fieldAddr (.tm 2) 2 1) (.op (some 29) (.load1 (.tm 28)) (.op (some 30) (.bin .sub (.cn (.int .i64 32)) (.tm 29)) (.op (some 31) (.min2 (.tm 27) (.tm 30)) (.op (some 6) (.mov (.tm 31)) .nil))))))))
def Zg4 : ACode := .reg (.op (some 32) (.mov (.tm 6)) (.op (some 33) (.mov (.tm 6)) (.op (some 34) (.fieldAddr (.tm 2) 2 1) (.op (some 35) (.load1 (.tm 34)) (.op (some 36) (.bin .add (.tm 33) (.tm 35)) (.op (some 37) (.sliceP 32 (.tm 3) (some (.tm 32)) (some (.tm 36)) none) (.op (some 7) (.mov (.tm 37)) .nil)))))))
def Zgq : ACode := .reg (.op (some 38) (.mov (.tm 7)) (.op (some 39) (.call 76 [(.tm 38)]) (.op (some 8) (.mov (.tm 39)) .nil)))
def ZfI : ACode := .reg (.op (some 40) (.fieldAddr (.tm 2) 3 1) (.op (some 41) (.load1 (.tm 40)) (.op (some 9) (.mov (.tm 41)) .nil)))
def Ze8 : ACode := .reg (.op (some 42) (.fieldAddr (.tm 2) 0 1) (.op (some 43) (.load1 (.tm 42)) .nil))
def ZrK : ACode := .reg (.op (some 45) (.bin .eql (.tm 43) (.cn (.int .i64 1))) (.op (some 44) (.mov (.tm 45)) .nil))
def ZnR : ACode := .reg (.op (some 46) (.loadA 32 (.tm 3)) (.op (some 47) (.mov (.tm 8)) (.op none (.storeA 32 (.tm 4) (.tm 46)) (.op (some 5) (.mov (.tm 47)) .nil))))
def ZnQ : ACode := .reg (.op (some 49) (.bin .eql (.tm 43) (.cn (.int .i64 3))) (.op (some 48) (.mov (.tm 49)) .nil))
def Zle : Items := .op (some 50) (.mov (.tm 8)) (.op (some 51) (.fieldAddr (.tm 2) 4 1) (.op (some 52) (.load1 (.tm 51)) (.op (some 53) (.fieldAddr (.tm 2) 2 1) (.op (some 54) (.load1 (.tm 53)) (.op (some 55) (.call 77 [(.tm 54)]) (.op (some 56) (.bin .and (.tm 52) (.tm 55)) (.op (some 57) (.bin .neq (.tm 50) (.tm 56)) .nil)))))))
def Zua : ACode := .regQ Zle
def ZnP : ACode := .reg (.op (some 58) (.loadA 32 (.tm 3)) (.op (some 59) (.mov (.tm 8)) (.op none (.storeA 32 (.tm 4) (.tm 58)) (.op (some 5) (.mov (.tm 59)) .nil))))
def ZnO : ACode := .cond (.tm 57) (.seq ZnP .ret) .skip
def ZnN : ACode := .reg (.op (some 61) (.bin .eql (.tm 43) (.cn (.int .i64 4))) (.op (some 60) (.mov (.tm 61)) .nil))
def ZnM : ACode := .reg (.op (some 62) (.mov (.tm 9)) (.op (some 63) (.mov (.tm 8)) (.op (some 64) (.bin .add (.tm 62) (.tm 63)) (.op (some 9) (.mov (.tm 64)) .nil))))
def ZnL : ACode := .cond (.tm 60) ZnM .skip
def ZnK : ACode := .cond (.tm 48) (.seq Zua ZnO) (.seq ZnN ZnL)
def ZnJ : ACode := .cond (.tm 44) (.seq ZnR .ret) (.seq ZnQ ZnK)
def Zd6 : ACode := .block 0 (.seq ZrK ZnJ)
def Zdh : ACode := .reg (.op (some 65) (.mov (.tm 7)) (.op (some 66) (.mov (.tm 9)) (.op (some 67) (.fieldAddr (.tm 2) 2 1) (.op (some 68) (.load1 (.tm 67)) (.op (some 69) (.call 78 [(.cn (.nilslice)), (.tm 66), (.tm 68)]) (.op (some 70) (.copy .u8 (.tm 65) (.tm 69)) .nil))))))
def Zc7 : ACode := .reg (.op (some 71) (.loadA 32 (.tm 3)) (.op (some 72) (.mov (.tm 8)) (.op none (.storeA 32 (.tm 4) (.tm 71)) (.op (some 5) (.mov (.tm 72)) .nil))))
def ZQp : ACode := (.seq ZrM (.seq (.seq ZnS ZnI) (.seq ZhZ (.seq Zg4 (.seq Zgq (.seq ZfI (.seq (.seq Ze8 Zd6) (.seq Zdh (.seq Zc7 .ret)))))))))
def Zkw : Res := .many [.cA 4 32, .tm 5]
theorem Zyd : ZbE Try.prog 60 2 73 ZQp Zkw = true := by kernel_rfl
def ZoU : Zbe := ZdX [ZGw, ZuD, ZGx] [ZAC, ZuT]
theorem Zg0 : Zbg Try.prog ZoU := ZbH ⟨ZHv, ZwS, ZHw, trivial⟩ ⟨sbRead.dC, sbNumber.dC, trivial⟩
section
variable {w0 : World} {fp : Nat -> Nat -> Prop} {ρi : Rho} {Kf : SVal -> Heap -> Prop}
abbrev Ye9 : Env := [(4, some (.ptr ⟨2, 0, 0, 1⟩ 32)), (5, some (.int .u64 0))]
abbrev ZHk (x0 : List Int) : Heap := ⟨3, [(2, some ⟨true, [.ints .u8 32 x0], 0⟩)]⟩
abbrev ZRC : Env := [(3, some (.ptr ⟨1, 0, 0, 1⟩ 32)), (4, some (.ptr ⟨2, 0, 0, 1⟩ 32))]
abbrev ZHj (x0 : List Int) : Heap := ⟨3, [(1, some ⟨true, [.ints .u8 32 x0], 0⟩), (2, some ⟨true, [.ints .u8 32 (List.replicate 32 0)], 0⟩)]⟩
theorem ZI1 (o : OpV) (x : List Int) (Z : Env -> Heap -> Prop) (h : Z Ye9 (ZHk x)) : EvC ZoU ZrL ZRC (ZHj x) [4, 5] [2] Z := EvC.of (by kernel_rfl) h
theorem ZDQ (o : OpV) (x : List Int) : RetC Zkw Ye9 (ZHk x) (.tuple [.agg [.ints .u8 32 x], .int .u64 0]) := RetC.of (fun Z => by kernel_rfl)
def Zv5 (o : OpV) (x : List Int) : Prop := (x = (OpV.next o x)) /\ (0 = (OpV.result o x))
theorem ZMk (o : OpV) (x : List Int) (hK : ZeT o x Kf) (h : Zv5 o x) : SemL Try.prog w0 fp ρi 0 73 [ZrL, .ret, (.seq ZhZ (.seq Zg4 (.seq Zgq (.seq ZfI (.seq (.seq Ze8 Zd6) (.seq Zdh (.seq Zc7 .ret)))))))] ZRC (ZHj x) (fnK Zkw 0 Kf) :=
  Zae Zg0 (ZI1 o x _ (Za7 (R := Zkw) (m := 0) (Kf := Kf) (fun _ _ h => h) (ZDQ o x) (Za6 rfl (by kernel_rfl) (cg2 (fun (z1 : List Int) (z2 : Int) => (.tuple [.agg [.ints .u8 32 z1], .int .u64 z2] : SVal)) h.1 h.2) hK)))
def Ze3 (w0 : World) (fp : Nat -> Nat -> Prop) (ρi : Rho) (Kf : SVal -> Heap -> Prop) (o : OpV) (x : List Int) : ZdV := Zch 0 (fun e H => SemL Try.prog w0 fp ρi 0 73 [(.seq Zdh (.seq Zc7 .ret))] e H (fnK Zkw 0 Kf)) (fnK Zkw 0 Kf)
abbrev ZHi (x0 : Int) : Env := [(4, some (.ptr ⟨2, 0, 0, 1⟩ 32)), (5, some (.int .u64 x0))]
abbrev ZGZ (x0 : Int) : Env := [(3, some (.ptr ⟨1, 0, 0, 1⟩ 32)), (4, some (.ptr ⟨2, 0, 0, 1⟩ 32)), (8, some (.int .u64 x0))]
theorem ZI0 (o : OpV) (x : List Int) (v8 : Int) (Z : Env -> Heap -> Prop) (h : Z (ZHi v8) (ZHk x)) : EvC ZoU ZnR (ZGZ v8) (ZHj x) [4, 5] [2] Z := EvC.of (by kernel_rfl) h
theorem ZDP (o : OpV) (x : List Int) (v8 : Int) : RetC Zkw (ZHi v8) (ZHk x) (.tuple [.agg [.ints .u8 32 x], .int .u64 v8]) := RetC.of (fun Z => by kernel_rfl)
def Zv4 (o : OpV) (x : List Int) (v8 : Int) : Prop := (x = (OpV.next o x)) /\ (v8 = (OpV.result o x))
theorem ZMj (o : OpV) (x : List Int) (hK : ZeT o x Kf) (v8 : Int) (h : Zv4 o x v8) : SemL Try.prog w0 fp ρi 0 73 [ZnR, .ret] (ZGZ v8) (ZHj x) (Ze3 w0 fp ρi Kf o x) :=
  Zae Zg0 (ZI0 o x v8 _ (Za7 (R := Zkw) (m := 0) (Kf := Kf) (fun _ _ h => h) (ZDP o x v8) (Za6 rfl (by kernel_rfl) (cg2 (fun (z1 : List Int) (z2 : Int) => (.tuple [.agg [.ints .u8 32 z1], .int .u64 z2] : SVal)) h.1 h.2) hK)))
theorem ZIZ (o : OpV) (x : List Int) (v8 : Int) (Z : Env -> Heap -> Prop) (h : Z (ZHi v8) (ZHk x)) : EvC ZoU ZnP (ZGZ v8) (ZHj x) [4, 5] [2] Z := EvC.of (by kernel_rfl) h
theorem ZDO (o : OpV) (x : List Int) (v8 : Int) : RetC Zkw (ZHi v8) (ZHk x) (.tuple [.agg [.ints .u8 32 x], .int .u64 v8]) := RetC.of (fun Z => by kernel_rfl)
def Zv3 (o : OpV) (x : List Int) (v8 : Int) : Prop := (x = (OpV.next o x)) /\ (v8 = (OpV.result o x))
theorem ZMi (o : OpV) (x : List Int) (hK : ZeT o x Kf) (v8 : Int) (h : Zv3 o x v8) : SemL Try.prog w0 fp ρi 0 73 [ZnP, .ret] (ZGZ v8) (ZHj x) (Ze3 w0 fp ρi Kf o x) :=
  Zae Zg0 (ZIZ o x v8 _ (Za7 (R := Zkw) (m := 0) (Kf := Kf) (fun _ _ h => h) (ZDO o x v8) (Za6 rfl (by kernel_rfl) (cg2 (fun (z1 : List Int) (z2 : Int) => (.tuple [.agg [.ints .u8 32 z1], .int .u64 z2] : SVal)) h.1 h.2) hK)))
abbrev ZRB (x0 : List Int) : Heap := ⟨5, [(1, some ⟨true, [.ints .u8 32 x0], 0⟩), (2, some ⟨true, [.ints .u8 32 (List.replicate 32 0)], 0⟩)]⟩
theorem ZIY (o : OpV) (x : List Int) (v8 : Int) (h1 : List Int) (Z : Env -> Heap -> Prop) (h : Z (ZHi v8) ⟨5, [(2, some ⟨true, [.ints .u8 32 h1], 0⟩)]⟩) : EvC ZoU Zc7 (ZGZ v8) (ZRB h1) [4, 5] [2] Z := EvC.of (by kernel_rfl) h
theorem ZDN (o : OpV) (x : List Int) (v8 : Int) (h1 : List Int) : RetC Zkw (ZHi v8) ⟨5, [(2, some ⟨true, [.ints .u8 32 h1], 0⟩)]⟩ (.tuple [.agg [.ints .u8 32 h1], .int .u64 v8]) := RetC.of (fun Z => by kernel_rfl)
def Zv2 (o : OpV) (x : List Int) (v8 : Int) (h1 : List Int) : Prop := (h1 = (OpV.next o x)) /\ (v8 = (OpV.result o x))
theorem ZMh (o : OpV) (x : List Int) (hK : ZeT o x Kf) (v8 : Int) (h1 : List Int) (h : Zv2 o x v8 h1) : SemL Try.prog w0 fp ρi 0 73 [Zc7, .ret] (ZGZ v8) (ZRB h1) (fnK Zkw 0 Kf) :=
  Zae Zg0 (ZIY o x v8 h1 _ (Za7 (R := Zkw) (m := 0) (Kf := Kf) (fun _ _ h => h) (ZDN o x v8 h1) (Za6 rfl (by kernel_rfl) (cg2 (fun (z1 : List Int) (z2 : Int) => (.tuple [.agg [.ints .u8 32 z1], .int .u64 z2] : SVal)) h.1 h.2) hK)))
abbrev ZRA (x0 x1 x2 : Nat) (x3 x4 : Int) : Env := [(2, some (.ptr ⟨0, 0, 0, 1⟩ 5)), (3, some (.ptr ⟨1, 0, 0, 1⟩ 32)), (4, some (.ptr ⟨2, 0, 0, 1⟩ 32)), (7, some (.slice ⟨1, 0, x0, 1⟩ x1 x2)), (8, some (.int .u64 x3)), (9, some (.int .u64 x4))]
abbrev Ze0 (x0 : OpV) (x1 : List Int) : Heap := ⟨3, [(0, some ⟨true, (OpV.cs x0), 0⟩), (1, some ⟨true, [.ints .u8 32 x1], 0⟩), (2, some ⟨true, [.ints .u8 32 (List.replicate 32 0)], 0⟩)]⟩
theorem ZIX (o : OpV) (x : List Int) (ab aa ac : Nat) (v8 v9 : Int) (Z : Env -> Heap -> Prop) (h : (((0 : Nat) <= 0)) /\ (((0 : Nat) = 0)) /\ ((List.length ([] : List Int) = 0 /\ 0 <= 1000000 /\ 0 <= v9 /\ v9 < 2 ^ 64)) /\ ∀ (c : Nat), (0 + Int.toNat (min o.on 64)) <= c -> (((0 + (0 + Int.toNat (min o.on 64))) <= (0 + Int.toNat (min o.on 64)))) /\ (((min (0 + Int.toNat (min o.on 64)) aa) = (min (0 + Int.toNat (min o.on 64)) aa))) /\ (((ab + (min (0 + Int.toNat (min o.on 64)) aa)) <= 32)) /\ ((List.length x = 32)) /\ ((List.length (List.take (min (0 + Int.toNat (min o.on 64)) aa) (List.take (0 + Int.toNat (min o.on 64)) (ZdN v9 (Int.toNat (min o.on 64))))) = (min (0 + Int.toNat (min o.on 64)) aa))) /\ Z (ZGZ v8) ⟨5, [(1, some ⟨true, [.ints .u8 32 (List.take ab x ++ (List.take (min (0 + Int.toNat (min o.on 64)) aa) (List.take (0 + Int.toNat (min o.on 64)) (ZdN v9 (Int.toNat (min o.on 64))))) ++ List.drop (ab + (min (0 + Int.toNat (min o.on 64)) aa)) x)], 0⟩), (2, some ⟨true, [.ints .u8 32 (List.replicate 32 0)], 0⟩)]⟩) : EvC ZoU Zdh (ZRA ab aa ac v8 v9) (Ze0 o x) [3, 4, 8] [1, 2] Z := EvC.of (by kernel_rfl) h
def Zo2 (o : OpV) (x : List Int) (ab aa ac : Nat) (v8 v9 : Int) : Prop := ((List.length ([] : List Int) = 0 /\ 0 <= 1000000 /\ 0 <= v9 /\ v9 < 2 ^ 64)) /\ (∀ (c : Nat), ((0 + Int.toNat (min o.on 64)) <= c) -> ((((0 + (0 + Int.toNat (min o.on 64))) <= (0 + Int.toNat (min o.on 64)))) /\ ((((ab + (min (0 + Int.toNat (min o.on 64)) aa)) <= 32)) /\ (((List.length x = 32)) /\ (((List.length (List.take (min (0 + Int.toNat (min o.on 64)) aa) (List.take (0 + Int.toNat (min o.on 64)) (ZdN v9 (Int.toNat (min o.on 64))))) = (min (0 + Int.toNat (min o.on 64)) aa))) /\ (∀ h1 : List Int, h1 = (List.take ab x ++ (List.take (min (0 + Int.toNat (min o.on 64)) aa) (List.take (0 + Int.toNat (min o.on 64)) (ZdN v9 (Int.toNat (min o.on 64))))) ++ List.drop (ab + (min (0 + Int.toNat (min o.on 64)) aa)) x) -> Zv2 o x v8 h1))))))
theorem Zw5 (o : OpV) (x : List Int) (hK : ZeT o x Kf) (ab aa ac : Nat) (v8 v9 : Int) (h : Zo2 o x ab aa ac v8 v9) : SemL Try.prog w0 fp ρi 0 73 [Zdh, (.seq Zc7 .ret)] (ZRA ab aa ac v8 v9) (Ze0 o x) (fnK Zkw 0 Kf) :=
  Zae Zg0 (ZIX o x ab aa ac v8 v9 _ ⟨(by decide), ⟨rfl, ⟨h.1, (fun c h_c_0 => ⟨(h.2 c h_c_0).1, ⟨rfl, ⟨(h.2 c h_c_0).2.1, ⟨(h.2 c h_c_0).2.2.1, ⟨(h.2 c h_c_0).2.2.2.1, (Zag (ZMh o x hK v8 (List.take ab x ++ (List.take (min (0 + Int.toNat (min o.on 64)) aa) (List.take (0 + Int.toNat (min o.on 64)) (ZdN v9 (Int.toNat (min o.on 64))))) ++ List.drop (ab + (min (0 + Int.toNat (min o.on 64)) aa)) x) ((h.2 c h_c_0).2.2.2.2 (List.take ab x ++ (List.take (min (0 + Int.toNat (min o.on 64)) aa) (List.take (0 + Int.toNat (min o.on 64)) (ZdN v9 (Int.toNat (min o.on 64))))) ++ List.drop (ab + (min (0 + Int.toNat (min o.on 64)) aa)) x) rfl)))⟩⟩⟩⟩⟩)⟩⟩⟩)
def Ztd (o : OpV) (x : List Int) (ab aa ac : Nat) (v8 : Int) : Prop := ((v8 != (Zma .u64 o.owant (Zgf o.on))) = true -> (Zv3 o x v8)) /\ ((v8 != (Zma .u64 o.owant (Zgf o.on))) = false -> (Zo2 o x ab aa ac v8 o.oval))
abbrev ZRz (x0 x1 x2 : Nat) (x3 : Int) (x4 : OpV) : Env := [(2, some (.ptr ⟨0, 0, 0, 1⟩ 5)), (3, some (.ptr ⟨1, 0, 0, 1⟩ 32)), (4, some (.ptr ⟨2, 0, 0, 1⟩ 32)), (7, some (.slice ⟨1, 0, x0, 1⟩ x1 x2)), (8, some (.int .u64 x3)), (9, some (.int .u64 x4.oval)), (57, some (.bool (x3 != (Zma .u64 x4.owant (Zgf x4.on)))))]
theorem ZMg (o : OpV) (x : List Int) (hK : ZeT o x Kf) (ab aa ac : Nat) (v8 : Int) (h : Ztd o x ab aa ac v8) : SemL Try.prog w0 fp ρi 0 73 [ZnO] (ZRz ab aa ac v8 o) (Ze0 o x) (Ze3 w0 fp ρi Kf o x) :=
  Za9 (q := (v8 != (Zma .u64 o.owant (Zgf o.on)))) (by kernel_rfl) (fun hq => (Zag (lpk [3, 4, 8] [1, 2] (ZMi o x hK v8 (h.1 hq))))) (fun hq => (Zbh (ZdB (lpk [2, 3, 4, 7, 8, 9] [0, 1, 2] (Zag (Zw5 o x hK ab aa ac v8 o.oval (h.2 hq)))))))
abbrev ZGY (x0 x1 x2 : Nat) (x3 : Int) (x4 : OpV) : Env := [(2, some (.ptr ⟨0, 0, 0, 1⟩ 5)), (3, some (.ptr ⟨1, 0, 0, 1⟩ 32)), (4, some (.ptr ⟨2, 0, 0, 1⟩ 32)), (7, some (.slice ⟨1, 0, x0, 1⟩ x1 x2)), (8, some (.int .u64 x3)), (9, some (.int .u64 x4.oval))]
theorem ZIW (o : OpV) (x : List Int) (ab aa ac : Nat) (v8 : Int) (Z : Env -> Heap -> Prop) (h : ((SVal.bd 3 (.int .u64 (Zgf o.on)))) /\ (True /\ ((.int .u64 (Zgf o.on) : SVal) = .int .u64 (Zgf o.on)) /\ (ZaL (Ze0 o x) (Ze0 o x) [(0, some ⟨true, (OpV.cs o), 0⟩), (1, some ⟨true, [.ints .u8 32 x], 0⟩), (2, some ⟨true, [.ints .u8 32 (List.replicate 32 0)], 0⟩)])) /\ Z (ZRz ab aa ac v8 o) (Ze0 o x)) : EvQC ZoU Zle [.int .u64 (Zgf o.on)] (ZGY ab aa ac v8 o) (Ze0 o x) [2, 3, 4, 7, 8, 9, 57] [0, 1, 2] Z := EvQC.of (by kernel_rfl) h
theorem ZMf (o : OpV) (x : List Int) (hK : ZeT o x Kf) (ab aa ac : Nat) (v8 : Int) (h : Ztd o x ab aa ac v8) : SemL Try.prog w0 fp ρi 0 73 [Zua, ZnO] (ZGY ab aa ac v8 o) (Ze0 o x) (Ze3 w0 fp ρi Kf o x) :=
  Zid Zg0 (its := Zle) (ZIW o x ab aa ac v8 _ ⟨(ZeY (τ := ZbF) (by kernel_rfl)).2, ⟨⟨True.intro, rfl, (ZaZ _)⟩, (ZMg o x hK ab aa ac v8 h)⟩⟩)
theorem ZIV (o : OpV) (x : List Int) (ab aa ac : Nat) (v8 : Int) (Z : Env -> Heap -> Prop) (h : Z [(2, some (.ptr ⟨0, 0, 0, 1⟩ 5)), (3, some (.ptr ⟨1, 0, 0, 1⟩ 32)), (4, some (.ptr ⟨2, 0, 0, 1⟩ 32)), (7, some (.slice ⟨1, 0, ab, 1⟩ aa ac)), (8, some (.int .u64 v8)), (9, some (.int .u64 (IntKind.u64.wrap (o.oval + v8))))] (Ze0 o x)) : EvC ZoU ZnM (ZGY ab aa ac v8 o) (Ze0 o x) [2, 3, 4, 7, 8, 9] [0, 1, 2] Z := EvC.of (by kernel_rfl) h
def Zv1 (o : OpV) (x : List Int) (ab aa ac : Nat) (v8 : Int) : Prop := ∀ v9 : Int, v9 = (o.oval + v8) % 18446744073709551616 -> Zo2 o x ab aa ac v8 v9
theorem ZMe (o : OpV) (x : List Int) (hK : ZeT o x Kf) (ab aa ac : Nat) (v8 : Int) (h : Zv1 o x ab aa ac v8) : SemL Try.prog w0 fp ρi 0 73 [ZnM] (ZGY ab aa ac v8 o) (Ze0 o x) (Ze3 w0 fp ρi Kf o x) :=
  Zae Zg0 (ZIV o x ab aa ac v8 _ (ZdB (Zag (Zw5 o x hK ab aa ac v8 (IntKind.u64.wrap (o.oval + v8)) (h (IntKind.u64.wrap (o.oval + v8)) (ZdH _))))))
def Ztc (o : OpV) (x : List Int) (ab aa ac : Nat) (v8 : Int) : Prop := ((o.okind == 4) = true -> (Zv1 o x ab aa ac v8)) /\ ((o.okind == 4) = false -> (Zo2 o x ab aa ac v8 o.oval))
abbrev ZRy (x0 x1 x2 : Nat) (x3 : Int) (x4 : OpV) : Env := [(2, some (.ptr ⟨0, 0, 0, 1⟩ 5)), (3, some (.ptr ⟨1, 0, 0, 1⟩ 32)), (4, some (.ptr ⟨2, 0, 0, 1⟩ 32)), (7, some (.slice ⟨1, 0, x0, 1⟩ x1 x2)), (8, some (.int .u64 x3)), (9, some (.int .u64 x4.oval)), (60, some (.bool (x4.okind == 4)))]
theorem ZMd (o : OpV) (x : List Int) (hK : ZeT o x Kf) (ab aa ac : Nat) (v8 : Int) (h : Ztc o x ab aa ac v8) : SemL Try.prog w0 fp ρi 0 73 [ZnL] (ZRy ab aa ac v8 o) (Ze0 o x) (Ze3 w0 fp ρi Kf o x) :=
  Za9 (q := (o.okind == 4)) (by kernel_rfl) (fun hq => (lpk [2, 3, 4, 7, 8, 9] [0, 1, 2] (ZMe o x hK ab aa ac v8 (h.1 hq)))) (fun hq => (Zbh (ZdB (lpk [2, 3, 4, 7, 8, 9] [0, 1, 2] (Zag (Zw5 o x hK ab aa ac v8 o.oval (h.2 hq)))))))
abbrev ZBC (x0 x1 x2 : Nat) (x3 : Int) (x4 : OpV) : Env := [(2, some (.ptr ⟨0, 0, 0, 1⟩ 5)), (3, some (.ptr ⟨1, 0, 0, 1⟩ 32)), (4, some (.ptr ⟨2, 0, 0, 1⟩ 32)), (7, some (.slice ⟨1, 0, x0, 1⟩ x1 x2)), (8, some (.int .u64 x3)), (9, some (.int .u64 x4.oval)), (43, some (.int .i64 x4.okind))]
theorem ZIU (o : OpV) (x : List Int) (ab aa ac : Nat) (v8 : Int) (Z : Env -> Heap -> Prop) (h : Z (ZRy ab aa ac v8 o) (Ze0 o x)) : EvC ZoU ZnN (ZBC ab aa ac v8 o) (Ze0 o x) [2, 3, 4, 7, 8, 9, 60] [0, 1, 2] Z := EvC.of (by kernel_rfl) h
theorem ZMc (o : OpV) (x : List Int) (hK : ZeT o x Kf) (ab aa ac : Nat) (v8 : Int) (h : Ztc o x ab aa ac v8) : SemL Try.prog w0 fp ρi 0 73 [ZnN, ZnL] (ZBC ab aa ac v8 o) (Ze0 o x) (Ze3 w0 fp ρi Kf o x) :=
  Zae Zg0 (ZIU o x ab aa ac v8 _ (ZMd o x hK ab aa ac v8 h))
def Zmu (o : OpV) (x : List Int) (ab aa ac : Nat) (v8 : Int) : Prop := ((o.okind == 3) = true -> (Ztd o x ab aa ac v8)) /\ ((o.okind == 3) = false -> (Ztc o x ab aa ac v8))
abbrev ZRx (x0 x1 x2 : Nat) (x3 : Int) (x4 : OpV) : Env := [(2, some (.ptr ⟨0, 0, 0, 1⟩ 5)), (3, some (.ptr ⟨1, 0, 0, 1⟩ 32)), (4, some (.ptr ⟨2, 0, 0, 1⟩ 32)), (7, some (.slice ⟨1, 0, x0, 1⟩ x1 x2)), (8, some (.int .u64 x3)), (9, some (.int .u64 x4.oval)), (43, some (.int .i64 x4.okind)), (48, some (.bool (x4.okind == 3)))]
theorem ZE6 (o : OpV) (x : List Int) (hK : ZeT o x Kf) (ab aa ac : Nat) (v8 : Int) (h : Zmu o x ab aa ac v8) : SemL Try.prog w0 fp ρi 0 73 [ZnK] (ZRx ab aa ac v8 o) (Ze0 o x) (Ze3 w0 fp ρi Kf o x) :=
  Za9 (q := (o.okind == 3)) (by kernel_rfl) (fun hq => (Zag (lpk [2, 3, 4, 7, 8, 9] [0, 1, 2] (ZMf o x hK ab aa ac v8 (h.1 hq))))) (fun hq => (Zag (lpk [2, 3, 4, 7, 8, 9, 43] [0, 1, 2] (ZMc o x hK ab aa ac v8 (h.2 hq)))))
theorem ZCr (o : OpV) (x : List Int) (ab aa ac : Nat) (v8 : Int) (Z : Env -> Heap -> Prop) (h : Z (ZRx ab aa ac v8 o) (Ze0 o x)) : EvC ZoU ZnQ (ZBC ab aa ac v8 o) (Ze0 o x) [2, 3, 4, 7, 8, 9, 43, 48] [0, 1, 2] Z := EvC.of (by kernel_rfl) h
theorem ZE5 (o : OpV) (x : List Int) (hK : ZeT o x Kf) (ab aa ac : Nat) (v8 : Int) (h : Zmu o x ab aa ac v8) : SemL Try.prog w0 fp ρi 0 73 [ZnQ, ZnK] (ZBC ab aa ac v8 o) (Ze0 o x) (Ze3 w0 fp ρi Kf o x) :=
  Zae Zg0 (ZCr o x ab aa ac v8 _ (ZE6 o x hK ab aa ac v8 h))
def ZhH (o : OpV) (x : List Int) (ab aa ac : Nat) (v8 : Int) : Prop := ((o.okind == 1) = true -> (Zv4 o x v8)) /\ ((o.okind == 1) = false -> (Zmu o x ab aa ac v8))
abbrev ZRw (x0 x1 x2 : Nat) (x3 : Int) (x4 : OpV) : Env := [(2, some (.ptr ⟨0, 0, 0, 1⟩ 5)), (3, some (.ptr ⟨1, 0, 0, 1⟩ 32)), (4, some (.ptr ⟨2, 0, 0, 1⟩ 32)), (7, some (.slice ⟨1, 0, x0, 1⟩ x1 x2)), (8, some (.int .u64 x3)), (9, some (.int .u64 x4.oval)), (43, some (.int .i64 x4.okind)), (44, some (.bool (x4.okind == 1)))]
theorem ZE4 (o : OpV) (x : List Int) (hK : ZeT o x Kf) (ab aa ac : Nat) (v8 : Int) (h : ZhH o x ab aa ac v8) : SemL Try.prog w0 fp ρi 0 73 [ZnJ] (ZRw ab aa ac v8 o) (Ze0 o x) (Ze3 w0 fp ρi Kf o x) :=
  Za9 (q := (o.okind == 1)) (by kernel_rfl) (fun hq => (Zag (lpk [3, 4, 8] [1, 2] (ZMj o x hK v8 (h.1 hq))))) (fun hq => (Zag (lpk [2, 3, 4, 7, 8, 9, 43] [0, 1, 2] (ZE5 o x hK ab aa ac v8 (h.2 hq)))))
theorem ZCq (o : OpV) (x : List Int) (ab aa ac : Nat) (v8 : Int) (Z : Env -> Heap -> Prop) (h : Z (ZRw ab aa ac v8 o) (Ze0 o x)) : EvC ZoU ZrK (ZBC ab aa ac v8 o) (Ze0 o x) [2, 3, 4, 7, 8, 9, 43, 44] [0, 1, 2] Z := EvC.of (by kernel_rfl) h
theorem ZE3 (o : OpV) (x : List Int) (hK : ZeT o x Kf) (ab aa ac : Nat) (v8 : Int) (h : ZhH o x ab aa ac v8) : SemL Try.prog w0 fp ρi 0 73 [ZrK, ZnJ] (ZBC ab aa ac v8 o) (Ze0 o x) (Ze3 w0 fp ρi Kf o x) :=
  Zae Zg0 (ZCq o x ab aa ac v8 _ (ZE4 o x hK ab aa ac v8 h))
theorem ZE2 (o : OpV) (x : List Int) (hK : ZeT o x Kf) (ab aa ac : Nat) (v8 : Int) (h : ZhH o x ab aa ac v8) : SemL Try.prog w0 fp ρi 0 73 [Zd6, (.seq Zdh (.seq Zc7 .ret))] (ZBC ab aa ac v8 o) (Ze0 o x) (fnK Zkw 0 Kf) :=
  ZbN (Zag (ZE3 o x hK ab aa ac v8 h))
theorem ZCp (o : OpV) (x : List Int) (ab aa ac : Nat) (v8 : Int) (Z : Env -> Heap -> Prop) (h : Z (ZBC ab aa ac v8 o) (Ze0 o x)) : EvC ZoU Ze8 (ZGY ab aa ac v8 o) (Ze0 o x) [2, 3, 4, 7, 8, 9, 43] [0, 1, 2] Z := EvC.of (by kernel_rfl) h
theorem ZE1 (o : OpV) (x : List Int) (hK : ZeT o x Kf) (ab aa ac : Nat) (v8 : Int) (h : ZhH o x ab aa ac v8) : SemL Try.prog w0 fp ρi 0 73 [Ze8, Zd6, (.seq Zdh (.seq Zc7 .ret))] (ZGY ab aa ac v8 o) (Ze0 o x) (fnK Zkw 0 Kf) :=
  Zae Zg0 (ZCp o x ab aa ac v8 _ (ZE2 o x hK ab aa ac v8 h))
abbrev ZRv (x0 x1 x2 : Nat) (x3 : Int) : Env := [(2, some (.ptr ⟨0, 0, 0, 1⟩ 5)), (3, some (.ptr ⟨1, 0, 0, 1⟩ 32)), (4, some (.ptr ⟨2, 0, 0, 1⟩ 32)), (7, some (.slice ⟨1, 0, x0, 1⟩ x1 x2)), (8, some (.int .u64 x3))]
theorem ZCo (o : OpV) (x : List Int) (ab aa ac : Nat) (v8 : Int) (Z : Env -> Heap -> Prop) (h : Z (ZGY ab aa ac v8 o) (Ze0 o x)) : EvC ZoU ZfI (ZRv ab aa ac v8) (Ze0 o x) [2, 3, 4, 7, 8, 9] [0, 1, 2] Z := EvC.of (by kernel_rfl) h
theorem ZE0 (o : OpV) (x : List Int) (hK : ZeT o x Kf) (ab aa ac : Nat) (v8 : Int) (h : ZhH o x ab aa ac v8) : SemL Try.prog w0 fp ρi 0 73 [ZfI, (.seq (.seq Ze8 Zd6) (.seq Zdh (.seq Zc7 .ret)))] (ZRv ab aa ac v8) (Ze0 o x) (fnK Zkw 0 Kf) :=
  Zae Zg0 (ZCo o x ab aa ac v8 _ (Zag (Zag (ZE1 o x hK ab aa ac v8 h))))
abbrev ZRu (x0 x1 x2 : Nat) : Env := [(2, some (.ptr ⟨0, 0, 0, 1⟩ 5)), (3, some (.ptr ⟨1, 0, 0, 1⟩ 32)), (4, some (.ptr ⟨2, 0, 0, 1⟩ 32)), (7, some (.slice ⟨1, 0, x0, 1⟩ x1 x2))]
theorem ZCn (o : OpV) (x : List Int) (ab aa ac : Nat) (Z : Env -> Heap -> Prop) (h : (((ab + aa) <= 32)) /\ ((aa = aa)) /\ ((List.length (List.take aa (List.drop ab x)) = aa /\ aa <= ac /\ aa <= 1000000000 /\ Byt (List.take aa (List.drop ab x)))) /\ Z [(2, some (.ptr ⟨0, 0, 0, 1⟩ 5)), (3, some (.ptr ⟨1, 0, 0, 1⟩ 32)), (4, some (.ptr ⟨2, 0, 0, 1⟩ 32)), (7, some (.slice ⟨1, 0, ab, 1⟩ aa ac)), (8, some (.int .u64 (Zcz (List.take 8 (List.take aa (List.drop ab x))))))] (Ze0 o x)) : EvC ZoU Zgq (ZRu ab aa ac) (Ze0 o x) [2, 3, 4, 7, 8] [0, 1, 2] Z := EvC.of (by kernel_rfl) h
def Zqh (o : OpV) (x : List Int) (ab aa ac : Nat) : Prop := (((ab + aa) <= 32)) /\ (((List.length (List.take aa (List.drop ab x)) = aa /\ aa <= ac /\ aa <= 1000000000 /\ Byt (List.take aa (List.drop ab x)))) /\ (∀ v8 : Int, v8 = (Zcz (List.take 8 (List.take aa (List.drop ab x)))) -> ZhH o x ab aa ac v8))
theorem ZEZ (o : OpV) (x : List Int) (hK : ZeT o x Kf) (ab aa ac : Nat) (h : Zqh o x ab aa ac) : SemL Try.prog w0 fp ρi 0 73 [Zgq, (.seq ZfI (.seq (.seq Ze8 Zd6) (.seq Zdh (.seq Zc7 .ret))))] (ZRu ab aa ac) (Ze0 o x) (fnK Zkw 0 Kf) :=
  Zae Zg0 (ZCn o x ab aa ac _ ⟨h.1, ⟨rfl, ⟨h.2.1, (Zag (ZE0 o x hK ab aa ac (Zcz (List.take 8 (List.take aa (List.drop ab x)))) (h.2.2 (Zcz (List.take 8 (List.take aa (List.drop ab x)))) rfl)))⟩⟩⟩)
abbrev ZRt (x0 : Int) : Env := [(2, some (.ptr ⟨0, 0, 0, 1⟩ 5)), (3, some (.ptr ⟨1, 0, 0, 1⟩ 32)), (4, some (.ptr ⟨2, 0, 0, 1⟩ 32)), (6, some (.int .i64 x0))]
theorem ZCm (o : OpV) (x : List Int) (v6 : Int) (Z : Env -> Heap -> Prop) (h : ((0 <= (IntKind.i64.wrap (v6 + o.on)))) /\ (((IntKind.i64.wrap (v6 + o.on)) <= 32)) /\ ((0 <= v6)) /\ ((v6 <= (((Int.toNat (IntKind.i64.wrap (v6 + o.on))) : Nat) : Int))) /\ Z [(2, some (.ptr ⟨0, 0, 0, 1⟩ 5)), (3, some (.ptr ⟨1, 0, 0, 1⟩ 32)), (4, some (.ptr ⟨2, 0, 0, 1⟩ 32)), (7, some (.slice ⟨1, 0, (0 + (if 32 = (Int.toNat v6) then 0 else (Int.toNat v6))), 1⟩ ((Int.toNat (IntKind.i64.wrap (v6 + o.on))) - (Int.toNat v6)) (32 - (Int.toNat v6))))] (Ze0 o x)) : EvC ZoU Zg4 (ZRt v6) (Ze0 o x) [2, 3, 4, 7] [0, 1, 2] Z := EvC.of (by kernel_rfl) h
def Zqg (o : OpV) (x : List Int) (v6 : Int) : Prop := ((0 <= (IntKind.i64.wrap (v6 + o.on)))) /\ ((((IntKind.i64.wrap (v6 + o.on)) <= 32)) /\ (((0 <= v6)) /\ (((v6 <= (((Int.toNat (IntKind.i64.wrap (v6 + o.on))) : Nat) : Int))) /\ (∀ ab : Nat, ab = (0 + (if 32 = (Int.toNat v6) then 0 else (Int.toNat v6))) -> ∀ aa : Nat, aa = ((Int.toNat (IntKind.i64.wrap (v6 + o.on))) - (Int.toNat v6)) -> ∀ ac : Nat, ac = (32 - (Int.toNat v6)) -> Zqh o x ab aa ac))))
theorem ZEY (o : OpV) (x : List Int) (hK : ZeT o x Kf) (v6 : Int) (h : Zqg o x v6) : SemL Try.prog w0 fp ρi 0 73 [Zg4, (.seq Zgq (.seq ZfI (.seq (.seq Ze8 Zd6) (.seq Zdh (.seq Zc7 .ret)))))] (ZRt v6) (Ze0 o x) (fnK Zkw 0 Kf) :=
  Zae Zg0 (ZCm o x v6 _ ⟨h.1, ⟨h.2.1, ⟨h.2.2.1, ⟨h.2.2.2.1, (Zag (ZEZ o x hK (0 + (if 32 = (Int.toNat v6) then 0 else (Int.toNat v6))) ((Int.toNat (IntKind.i64.wrap (v6 + o.on))) - (Int.toNat v6)) (32 - (Int.toNat v6)) (((h.2.2.2.2 (0 + (if 32 = (Int.toNat v6) then 0 else (Int.toNat v6))) rfl) ((Int.toNat (IntKind.i64.wrap (v6 + o.on))) - (Int.toNat v6)) rfl) (32 - (Int.toNat v6)) rfl)))⟩⟩⟩⟩)
abbrev ZOk : Env := [(2, some (.ptr ⟨0, 0, 0, 1⟩ 5)), (3, some (.ptr ⟨1, 0, 0, 1⟩ 32)), (4, some (.ptr ⟨2, 0, 0, 1⟩ 32))]
theorem ZCl (o : OpV) (x : List Int) (Z : Env -> Heap -> Prop) (h : Z [(2, some (.ptr ⟨0, 0, 0, 1⟩ 5)), (3, some (.ptr ⟨1, 0, 0, 1⟩ 32)), (4, some (.ptr ⟨2, 0, 0, 1⟩ 32)), (6, some (.int .i64 (if (IntKind.i64.wrap (32 - o.on)) < (Zma .i64 o.oat 31) then (IntKind.i64.wrap (32 - o.on)) else (Zma .i64 o.oat 31))))] (Ze0 o x)) : EvC ZoU ZhZ ZOk (Ze0 o x) [2, 3, 4, 6] [0, 1, 2] Z := EvC.of (by kernel_rfl) h
def Zqf (o : OpV) (x : List Int) : Prop := ∀ v6 : Int, v6 = (if (IntKind.i64.wrap (32 - o.on)) < (Zma .i64 o.oat 31) then (IntKind.i64.wrap (32 - o.on)) else (Zma .i64 o.oat 31)) -> Zqg o x v6
theorem ZEX (o : OpV) (x : List Int) (hK : ZeT o x Kf) (h : Zqf o x) : SemL Try.prog w0 fp ρi 0 73 [ZhZ, (.seq Zg4 (.seq Zgq (.seq ZfI (.seq (.seq Ze8 Zd6) (.seq Zdh (.seq Zc7 .ret))))))] ZOk (Ze0 o x) (fnK Zkw 0 Kf) :=
  Zae Zg0 (ZCl o x _ (Zag (ZEY o x hK (if (IntKind.i64.wrap (32 - o.on)) < (Zma .i64 o.oat 31) then (IntKind.i64.wrap (32 - o.on)) else (Zma .i64 o.oat 31)) (h (if (IntKind.i64.wrap (32 - o.on)) < (Zma .i64 o.oat 31) then (IntKind.i64.wrap (32 - o.on)) else (Zma .i64 o.oat 31)) rfl))))
def Zi8 (o : OpV) (x : List Int) : Prop := (((!(sizeB o.on)) || ((!(chgB o.okind)) && (o.okind != 1))) = true -> (Zv5 o x)) /\ (((!(sizeB o.on)) || ((!(chgB o.okind)) && (o.okind != 1))) = false -> (Zqf o x))
theorem ZEW (o : OpV) (x : List Int) (hK : ZeT o x Kf) (h : Zi8 o x) : SemL Try.prog w0 fp ρi 0 73 [ZnI, (.seq ZhZ (.seq Zg4 (.seq Zgq (.seq ZfI (.seq (.seq Ze8 Zd6) (.seq Zdh (.seq Zc7 .ret)))))))] [(2, some (.ptr ⟨0, 0, 0, 1⟩ 5)), (3, some (.ptr ⟨1, 0, 0, 1⟩ 32)), (4, some (.ptr ⟨2, 0, 0, 1⟩ 32)), (23, some (.bool ((!(sizeB o.on)) || ((!(chgB o.okind)) && (o.okind != 1)))))] (Ze0 o x) (fnK Zkw 0 Kf) :=
  Za9 (q := ((!(sizeB o.on)) || ((!(chgB o.okind)) && (o.okind != 1)))) (by kernel_rfl) (fun hq => (Zag (lpk [3, 4] [1, 2] (ZMk o x hK (h.1 hq))))) (fun hq => (Zbh (lpk [2, 3, 4] [0, 1, 2] (Zag (ZEX o x hK (h.2 hq))))))
theorem ZCk (o : OpV) (x : List Int) (Z : Env -> Heap -> Prop) (h : (True) /\ ∃ qq : Bool, ((!(sizeB o.on)) = false -> (True) /\ ∃ qq'1 : Bool, ((!(chgB o.okind)) = true -> (ZaL (Ze0 o x) (Ze0 o x) [(0, some ⟨true, (OpV.cs o), 0⟩), (1, some ⟨true, [.ints .u8 32 x], 0⟩), (2, some ⟨true, [.ints .u8 32 (List.replicate 32 0)], 0⟩)]) /\ (o.okind != 1) = qq'1) /\ ((!(chgB o.okind)) = false -> false = qq'1) /\ (ZaL (Ze0 o x) (Ze0 o x) [(0, some ⟨true, (OpV.cs o), 0⟩), (1, some ⟨true, [.ints .u8 32 x], 0⟩), (2, some ⟨true, [.ints .u8 32 (List.replicate 32 0)], 0⟩)]) /\ qq'1 = qq) /\ ((!(sizeB o.on)) = true -> true = qq) /\ Z [(2, some (.ptr ⟨0, 0, 0, 1⟩ 5)), (3, some (.ptr ⟨1, 0, 0, 1⟩ 32)), (4, some (.ptr ⟨2, 0, 0, 1⟩ 32)), (23, some (.bool qq))] (Ze0 o x)) : EvC ZoU ZnS ZOk (Ze0 o x) [2, 3, 4, 23] [0, 1, 2] Z := EvC.of (by kernel_rfl) h
theorem ZEV (o : OpV) (x : List Int) (hK : ZeT o x Kf) (h : Zi8 o x) : SemL Try.prog w0 fp ρi 0 73 [ZnS, ZnI, (.seq ZhZ (.seq Zg4 (.seq Zgq (.seq ZfI (.seq (.seq Ze8 Zd6) (.seq Zdh (.seq Zc7 .ret)))))))] ZOk (Ze0 o x) (fnK Zkw 0 Kf) :=
  Zae Zg0 (ZCk o x _ ⟨True.intro, ⟨((!(sizeB o.on)) || ((!(chgB o.okind)) && (o.okind != 1))), fun hc_qq => ⟨True.intro, ⟨((!(chgB o.okind)) && (o.okind != 1)), fun hc_qq_1 => ⟨(ZaZ _), (qa1 hc_qq_1)⟩, fun hc_qq_1 => qa2 hc_qq_1, ⟨(ZaZ _), (qo1 hc_qq)⟩⟩⟩, fun hc_qq => qo2 hc_qq, (ZEW o x hK h)⟩⟩)
abbrev ZPZ (x0 : OpV) (x1 : List Int) : Env := [(0, some (.agg (OpV.cs x0))), (1, some (.agg [.ints .u8 32 x1]))]
theorem ZCj (o : OpV) (x : List Int) (Z : Env -> Heap -> Prop) (h : Z ZOk (Ze0 o x)) : EvC ZoU ZrM (ZPZ o x) Ye0 [2, 3, 4] [0, 1, 2] Z := EvC.of (by kernel_rfl) h
theorem ZEU (o : OpV) (x : List Int) (hK : ZeT o x Kf) (h : Zi8 o x) : SemL Try.prog w0 fp ρi 0 73 [ZrM, (.seq (.seq ZnS ZnI) (.seq ZhZ (.seq Zg4 (.seq Zgq (.seq ZfI (.seq (.seq Ze8 Zd6) (.seq Zdh (.seq Zc7 .ret))))))))] (ZPZ o x) Ye0 (fnK Zkw 0 Kf) :=
  Zae Zg0 (ZCj o x _ (Zag (Zag (ZEV o x hK h))))
theorem ZR4 (o : OpV) (x : List Int) (hK : ZeT o x Kf) (h : Zi8 o x) : SemL Try.prog w0 fp ρi 0 73 [ZQp] (ZPZ o x) Ye0 (fnK Zkw 0 Kf) :=
  (Zag (ZEU o x hK h))
end
theorem ZPd (o : OpV) (x : List Int) (hpre : (OpV.Wf o /\ Zi4 x)) : Zi8 o x := by
  unfold Zi8 Zqf Zqg Zqh ZhH Zmu Ztc Zv1 Ztd Zo2 Zv2 Zv3 Zv4 Zv5
  obtain ⟨⟨w1, w2, w3, w4, w5⟩, hx, hb⟩ := hpre
  have hg : (!sizeB o.on || !chgB o.okind && o.okind != 1) = !o.good := by
    unfold OpV.good
    rw [show (o.okind != 1) = !(o.okind == 1) from rfl]
    cases sizeB o.on <;> cases chgB o.okind <;> cases (o.okind == 1) <;> rfl
  rw [hg]
  refine ⟨fun h => OpV.next_bad (Zge h), fun h => ?_⟩
  have h := ZfQ h
  obtain ⟨hs, hk⟩ := OpV.good_true h
  obtain ⟨n1, n2⟩ := OpV.next_good (xs := x) h
  have hd := ZqS (at_ := o.oat) hs
  have hp : o.place = ZHb o.oat o.on := rfl
  rw [<- hp] at hd
  rw [n1, n2]
  have m64 := OpV.min64 hs
  intro v6 hv6
  rw [ZqL, ZgO] at hv6
  have e6 : v6 = (o.place : Int) := by split at hv6 <;> omega
  subst e6
  have e7 : IntKind.i64.wrap ((o.place : Int) + o.on) = o.place + o.on := by rw [ZgO]; omega
  rw [e7]
  refine ⟨by omega, by omega, by omega, by omega, ?_⟩
  intro i hi l hl c hc
  have ei : i = o.place := by split at hi <;> omega
  have el : l = o.on.toNat := by omega
  subst ei
  subst el
  have hlen : (List.take o.on.toNat (List.drop o.place x)).length = o.on.toNat := by rw [List.length_take, List.length_drop]; omega
  have hbx : Byt x := hb
  refine ⟨by omega, ⟨hlen, by omega, by omega, (hbx.drop _).take _⟩, ?_⟩
  intro v8 hv8
  have e8 : v8 = o.numAt o.place x := by rw [hv8, List.take_take, show min 8 o.on.toNat = o.on.toNat by omega]; rfl
  have hr := OpV.numAt_range (k := o.place) hs hbx
  rw [<- e8] at hr
  have hl0 : ∀ v, (List.take (min (0 + (min o.on 64).toNat) o.on.toNat) (List.take (0 + (min o.on 64).toNat) (ZdN v (min o.on 64).toNat))).length = min (0 + (min o.on 64).toNat) o.on.toNat := fun v => by
    rw [List.length_take, List.length_take, ZbU]; omega
  simp only [beq_iff_eq, beq_eq_false_iff_ne, bne_iff_ne, bne_eq_false_iff_eq, ne_eq]
  refine ⟨fun k1 => ⟨(OpV.nextAt_none (OpV.put_load k1)).symm, e8⟩, fun k1 => ⟨fun k3 => ?_, fun k3 => ⟨fun k4 => ?_, fun k4 => ?_⟩⟩⟩
  · rw [ZxP hs w5.1 w5.2, e8]
    have hps := OpV.put_swap (k := o.place) (xs := x) k3
    refine ⟨fun hne => ⟨?_, rfl⟩, fun heq => ⟨⟨rfl, by omega, w4.1, w4.2⟩, fun c hc => ⟨by omega, by omega, hx, hl0 _, fun h1 hh1 => ⟨?_, rfl⟩⟩⟩⟩
    · rw [if_neg hne] at hps
      exact (OpV.nextAt_none hps).symm
    · rw [if_pos heq] at hps
      rw [hh1, OpV.laid_eq hs, OpV.nextAt_some hps]
  · intro v9 hv9
    refine ⟨⟨rfl, by omega, by omega, by omega⟩, fun c hc => ⟨by omega, by omega, hx, hl0 _, fun h1 hh1 => ⟨?_, e8⟩⟩⟩
    rw [hh1, OpV.laid_eq hs, OpV.nextAt_some (OpV.put_add k4), hv9, e8]
  · refine ⟨⟨rfl, by omega, w4.1, w4.2⟩, fun c hc => ⟨by omega, by omega, hx, hl0 _, fun h1 hh1 => ⟨?_, e8⟩⟩⟩
    rw [hh1, OpV.laid_eq hs, OpV.nextAt_some (OpV.put_else k1 k3 k4)]
theorem ZR7 : Sound Try.prog 60 (ZeA ZQc) := by
  refine Zbq Zyd ?_
  intro args H K h
  obtain ⟨pre, v, hP, hpre, rfl, hK⟩ := ZbM h
  unfold ZQc at hP
  split at hP
  · obtain ⟨hb, hP⟩ := ZaM hP
    have h0 := hb
    obtain rfl := Nat.eq_of_beq_eq_true h0
    cases hP
    exact ⟨rfl, fun w0 fp ρi => ZR4 (OpV.mk _ _ _ _ _) _ hK (ZPd (OpV.mk _ _ _ _ _) _ hpre)⟩
  · cases hP
end Go.Proofs.Ytinjdimejijabaa
