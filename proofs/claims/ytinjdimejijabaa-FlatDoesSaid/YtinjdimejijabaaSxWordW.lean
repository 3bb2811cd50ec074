/- Two parts of the proof. -/
import Derived.Test.YtinjdimejijabaaSxT4
import Derived.Test.YtinjdimejijabaaSxBit
import Derived.Test.YtinjdimejijabaaSxV1
import Derived.Test.YtinjdimejijabaaSxG
import Derived.Test.YtinjdimejijabaaSxPut
import Derived.Test.YtinjdimejijabaaSxOpX
import Derived.KernelRfl
set_option linter.unusedVariables false
set_option linter.unusedSimpArgs false
namespace Go.Proofs.Ytinjdimejijabaa
open Go.Sx
def ZM0 (m : Nat) (at_ n : Int) : Prop := 0 <= at_ /\ 0 <= n /\ n <= 64 /\ n <= 8 * m /\ at_ <= 8 * m - n
instance (m at_ n) : Decidable (ZM0 m at_ n) := by unfold ZM0; exact inferInstance
end Go.Proofs.Ytinjdimejijabaa

namespace Go.Proofs.Ytinjdimejijabaa
open Go.Sx
end Go.Proofs.Ytinjdimejijabaa

namespace Go.Proofs.Ytinjdimejijabaa
open Go.Sx
def ZnY : Zk0 := fun ds => match ds with
  | [.sl false .u8 b_n b_c b, .pl (.int .u64 v), .pl (.int .i64 n)] => some ((List.length b = b_n /\ b_n <= 1000000 /\ 0 <= v /\ v < 2 ^ 64), [.sl .u8 (b_n + Int.toNat (min n 64)) (b ++ (Zdv v (Int.toNat (min n 64))))], [])
  | _ => none
def Zt3 : Con := ⟨78, dC ZnY, [], [.ints .u8 0 []], []⟩
theorem sbNumber : Sound Try.prog 78 (dS ZnY) := s41.mono fun args H K h => by
  obtain ⟨ds, rfl, rfl, h⟩ := h
  split at h
  · rename_i pre rs ws hD
    obtain ⟨hpre, hK⟩ := h
    unfold ZnY at hD
    split at hD
    · cases hD
      exact ⟨false, _, _, _, _, _, rfl, rfl, hpre.1, hpre.2.1, hpre.2.2.1, hpre.2.2.2, fun c h => hK c h⟩
    · cases hD
  · exact h.elim
def ZnX : Zk0 := fun ds => match ds with
  | [.sl false .u8 b_n b_c b, .pl (.int .u64 v), .pl (.int .i64 n)] => some ((List.length b = b_n /\ b_n <= 1000000 /\ 0 <= v /\ v < 2 ^ 64), [.sl .u8 (b_n + Int.toNat (min n 64)) (b ++ (Zdv v (Int.toNat (min n 64))))], [])
  | _ => none
def Zt1 : Con := ⟨81, dC ZnX, [], [.ints .u8 0 []], []⟩
theorem sqNumber : Sound Try.prog 81 (dS ZnX) := s43.mono fun args H K h => by
  obtain ⟨ds, rfl, rfl, h⟩ := h
  split at h
  · rename_i pre rs ws hD
    obtain ⟨hpre, hK⟩ := h
    unfold ZnX at hD
    split at hD
    · cases hD
      exact ⟨false, _, _, _, _, _, rfl, rfl, hpre.1, hpre.2.1, hpre.2.2.1, hpre.2.2.2, fun c h => hK c h⟩
    · cases hD
  · exact h.elim
def Zzf : Zk0 := fun ds => match ds with
  | [.sl false .u8 b_n b_c b] => some ((List.length b = b_n /\ b_n <= b_c /\ b_n <= 1000000000 /\ Byt b), [.pl (.int .u64 (Zco (List.take 8 b)))], [])
  | _ => none
def ZAR : Con := ⟨76, dC Zzf, [], [.ints .u8 0 []], []⟩
theorem sbRead : Sound Try.prog 76 (dS Zzf) := s44.mono fun args H K h => by
  obtain ⟨ds, rfl, rfl, h⟩ := h
  split at h
  · rename_i pre rs ws hD
    obtain ⟨hpre, hK⟩ := h
    unfold Zzf at hD
    split at hD
    · cases hD
      exact ⟨false, _, _, _, rfl, rfl, hpre.1, hpre.2.1, hpre.2.2.1, hpre.2.2.2, hK⟩
    · cases hD
  · exact h.elim
def Zzc : Zk0 := fun ds => match ds with
  | [.sl false .u8 b_n b_c b] => some ((List.length b = b_n /\ b_n <= b_c /\ b_n <= 1000000000 /\ Byt b), [.pl (.int .u64 (Zco (List.take 8 b)))], [])
  | _ => none
def ZAO : Con := ⟨80, dC Zzc, [], [.ints .u8 0 []], []⟩
theorem sqRead : Sound Try.prog 80 (dS Zzc) := s45.mono fun args H K h => by
  obtain ⟨ds, rfl, rfl, h⟩ := h
  split at h
  · rename_i pre rs ws hD
    obtain ⟨hpre, hK⟩ := h
    unfold Zzc at hD
    split at hD
    · cases hD
      exact ⟨false, _, _, _, rfl, rfl, hpre.1, hpre.2.1, hpre.2.2.1, hpre.2.2.2, hK⟩
    · cases hD
  · exact h.elim
end Go.Proofs.Ytinjdimejijabaa

set_option linter.unusedVariables false
set_option linter.unusedSimpArgs false
set_option maxRecDepth 20000
namespace Go.Proofs.Ytinjdimejijabaa
open Go.Sx
def Zy2 : Zez := fun args => match args with
  | [.int .i64 n] => some (True, .bool (sizeB n))
  | _ => none
def ZFR : PCon := ⟨74, Zy2⟩
def Zrk : ACode := .reg (.op (some 2) (.mov (.cn (.bool false))) .nil)
def ZmI : ACode := .reg (.op (some 3) (.mov (.tm 0)) (.op (some 4) (.bin .eql (.tm 3) (.cn (.int .i64 1))) (.op (some 5) (.mov (.tm 4)) (.grpJ 5 false (.op (some 6) (.mov (.tm 0)) (.op (some 7) (.bin .eql (.tm 6) (.cn (.int .i64 2))) .nil)) 8 (.tm 7) (.cn (.bool true)) (.op (some 9) (.mov (.tm 8)) (.grpJ 9 false (.op (some 10) (.mov (.tm 0)) (.op (some 11) (.bin .eql (.tm 10) (.cn (.int .i64 4))) .nil)) 12 (.tm 11) (.cn (.bool true)) (.op (some 13) (.mov (.tm 12)) (.grpJ 13 false (.op (some 14) (.mov (.tm 0)) (.op (some 15) (.bin .eql (.tm 14) (.cn (.int .i64 8))) .nil)) 16 (.tm 15) (.cn (.bool true)) (.op (some 2) (.mov (.tm 16)) .nil)))))))))
def ZBu : ACode := (.seq Zrk (.seq ZmI .ret))
def Zlp : Res := .one (.tm 2)
theorem Zsb : ZbD Try.prog 74 1 17 ZBu Zlp = true := by kernel_rfl
def Zy8 : Za8 := ZdW [] []
theorem Zye : Za9 Try.prog Zy8 := ZbI trivial trivial
section
variable {w0 : World} {fp : Nat -> Nat -> Prop} {ρi : Rho} {Kf : SVal -> Heap -> Prop}
abbrev Ye0 : Heap := ⟨0, []⟩
abbrev Ye1 (x0 : Int) : Env := [(0, some (.int .i64 x0))]
theorem ZHK (n : Int) (Z : Env -> Heap -> Prop) (h : ∃ qq : Bool, ((n == 1) = false -> (ZaK Ye0 Ye0 []) /\ (n == 2) = qq) /\ ((n == 1) = true -> true = qq) /\ ∃ qq'1 : Bool, (qq = false -> (ZaK Ye0 Ye0 []) /\ (n == 4) = qq'1) /\ (qq = true -> true = qq'1) /\ ∃ qq'2 : Bool, (qq'1 = false -> (ZaK Ye0 Ye0 []) /\ (n == 8) = qq'2) /\ (qq'1 = true -> true = qq'2) /\ Z [(2, some (.bool qq'2))] Ye0) : EvC Zy8 ZmI (Ye1 n) Ye0 [2] [] Z := EvC.of (by kernel_rfl) h
theorem ZDy (n : Int) : RetC Zlp [(2, some (.bool ((((n == 1) || (n == 2)) || (n == 4)) || (n == 8))))] Ye0 (.bool ((((n == 1) || (n == 2)) || (n == 4)) || (n == 8))) := RetC.of (fun Z => by kernel_rfl)
def Zvq (n : Int) : Prop := ((((n == 1) || (n == 2)) || (n == 4)) || (n == 8)) = (sizeB n)
theorem ZKz (n : Int) (hK : Kf (.bool (sizeB n)) ⟨0, []⟩) (h : Zvq n) : SemL Try.prog w0 fp ρi 0 17 [ZmI, .ret] (Ye1 n) Ye0 (fnK Zlp 0 Kf) :=
  Zae Zye (ZHK n _ ⟨((n == 1) || (n == 2)), fun hc_qq => ⟨(ZaT _), (qo1 hc_qq)⟩, fun hc_qq => qo2 hc_qq, ⟨(((n == 1) || (n == 2)) || (n == 4)), fun hc_qq_1 => ⟨(ZaT _), (qo1 hc_qq_1)⟩, fun hc_qq_1 => qo2 hc_qq_1, ⟨((((n == 1) || (n == 2)) || (n == 4)) || (n == 8)), fun hc_qq_2 => ⟨(ZaT _), (qo1 hc_qq_2)⟩, fun hc_qq_2 => qo2 hc_qq_2, (Zba (R := Zlp) (m := 0) (Kf := Kf) (fun _ _ h => h) (ZDy n) (Za3 rfl (by kernel_rfl) (cg1 (fun (z1 : Bool) => (.bool z1 : SVal)) h) hK))⟩⟩⟩)
theorem ZHJ (n : Int) (Z : Env -> Heap -> Prop) (h : Z (Ye1 n) Ye0) : EvC Zy8 Zrk (Ye1 n) Ye0 [0] [] Z := EvC.of (by kernel_rfl) h
def Zvp (n : Int) : Prop := Zvq n
theorem ZKy (n : Int) (hK : Kf (.bool (sizeB n)) ⟨0, []⟩) (h : Zvp n) : SemL Try.prog w0 fp ρi 0 17 [Zrk, (.seq ZmI .ret)] (Ye1 n) Ye0 (fnK Zlp 0 Kf) :=
  Zae Zye (ZHJ n _ (Zag (ZKz n hK h)))
def ZqC (n : Int) : Prop := Zvp n
theorem ZGG (n : Int) (hK : Kf (.bool (sizeB n)) ⟨0, []⟩) (h : ZqC n) : SemL Try.prog w0 fp ρi 0 17 [ZBu] (Ye1 n) Ye0 (fnK Zlp 0 Kf) :=
  (Zag (ZKy n hK h))
end
theorem ZFW (n : Int) (hpre : True) : ZqC n := by
  unfold ZqC Zvp Zvq
  rfl
theorem ZGP : Sound Try.prog 74 (Zed Zy2) := by
  refine Zbx Zsb ?_
  intro args H K h
  obtain ⟨pre, v, hP, hpre, rfl, hK⟩ := ZbH h
  unfold Zy2 at hP
  split at hP
  · cases hP
    exact ⟨rfl, fun w0 fp ρi => ZGG _ hK (ZFW _ hpre)⟩
  · cases hP
def ZkK : Zez := fun args => match args with
  | [.agg [.one (.int .i64 o_0), .one (.int .i64 o_1), .one (.int .i64 o_2), .one (.int .u64 o_3), .one (.int .u64 o_4)]] => some (True, .bool (chgB o_0))
  | _ => none
def ZtN : PCon := ⟨75, ZkK⟩
def Zrj : ACode := .reg (.op (some 1) (.box (.tm 0)) (.op (some 2) (.mov (.cn (.bool false))) .nil))
def ZmH : ACode := .reg (.op (some 3) (.fieldAddr (.tm 1) 0 1) (.op (some 4) (.load1 (.tm 3)) (.op (some 5) (.bin .eql (.tm 4) (.cn (.int .i64 2))) (.op (some 6) (.mov (.tm 5)) (.grpJ 6 false (.op (some 7) (.fieldAddr (.tm 1) 0 1) (.op (some 8) (.load1 (.tm 7)) (.op (some 9) (.bin .eql (.tm 8) (.cn (.int .i64 3))) .nil))) 10 (.tm 9) (.cn (.bool true)) (.op (some 11) (.mov (.tm 10)) (.grpJ 11 false (.op (some 12) (.fieldAddr (.tm 1) 0 1) (.op (some 13) (.load1 (.tm 12)) (.op (some 14) (.bin .eql (.tm 13) (.cn (.int .i64 4))) .nil))) 15 (.tm 14) (.cn (.bool true)) (.op (some 2) (.mov (.tm 15)) .nil))))))))
def ZoE : ACode := (.seq Zrj (.seq ZmH .ret))
def ZfH : Res := .one (.tm 2)
theorem ZkU : ZbD Try.prog 75 1 16 ZoE ZfH = true := by kernel_rfl
def ZkN : Za8 := ZdW [] []
theorem Zld : Za9 Try.prog ZkN := ZbI trivial trivial
section
variable {w0 : World} {fp : Nat -> Nat -> Prop} {ρi : Rho} {Kf : SVal -> Heap -> Prop}
abbrev Ye2 (x0 : OpV) : Heap := ⟨1, [(0, some ⟨true, (OpV.cs x0), 0⟩)]⟩
abbrev Ye3 : Env := [(1, some (.ptr ⟨0, 0, 0, 1⟩ 5))]
theorem ZHI (o : OpV) (Z : Env -> Heap -> Prop) (h : ∃ qq : Bool, ((o.okind == 2) = false -> (ZaK (Ye2 o) (Ye2 o) [(0, some ⟨true, (OpV.cs o), 0⟩)]) /\ (o.okind == 3) = qq) /\ ((o.okind == 2) = true -> true = qq) /\ ∃ qq'1 : Bool, (qq = false -> (ZaK (Ye2 o) (Ye2 o) [(0, some ⟨true, (OpV.cs o), 0⟩)]) /\ (o.okind == 4) = qq'1) /\ (qq = true -> true = qq'1) /\ Z [(2, some (.bool qq'1))] ⟨1, []⟩) : EvC ZkN ZmH Ye3 (Ye2 o) [2] [] Z := EvC.of (by kernel_rfl) h
theorem ZDx (o : OpV) : RetC ZfH [(2, some (.bool (((o.okind == 2) || (o.okind == 3)) || (o.okind == 4))))] ⟨1, []⟩ (.bool (((o.okind == 2) || (o.okind == 3)) || (o.okind == 4))) := RetC.of (fun Z => by kernel_rfl)
def Zvo (o : OpV) : Prop := (((o.okind == 2) || (o.okind == 3)) || (o.okind == 4)) = (chgB o.okind)
theorem ZKx (o : OpV) (hK : Kf (.bool (chgB o.okind)) ⟨0, []⟩) (h : Zvo o) : SemL Try.prog w0 fp ρi 0 16 [ZmH, .ret] Ye3 (Ye2 o) (fnK ZfH 0 Kf) :=
  Zae Zld (ZHI o _ ⟨((o.okind == 2) || (o.okind == 3)), fun hc_qq => ⟨(ZaT _), (qo1 hc_qq)⟩, fun hc_qq => qo2 hc_qq, ⟨(((o.okind == 2) || (o.okind == 3)) || (o.okind == 4)), fun hc_qq_1 => ⟨(ZaT _), (qo1 hc_qq_1)⟩, fun hc_qq_1 => qo2 hc_qq_1, (Zba (R := ZfH) (m := 0) (Kf := Kf) (fun _ _ h => h) (ZDx o) (Za3 rfl (by kernel_rfl) (cg1 (fun (z1 : Bool) => (.bool z1 : SVal)) h) hK))⟩⟩)
theorem ZHH (o : OpV) (Z : Env -> Heap -> Prop) (h : Z Ye3 (Ye2 o)) : EvC ZkN Zrj [(0, some (.agg (OpV.cs o)))] Ye0 [1] [0] Z := EvC.of (by kernel_rfl) h
def Zvn (o : OpV) : Prop := Zvo o
theorem ZKw (o : OpV) (hK : Kf (.bool (chgB o.okind)) ⟨0, []⟩) (h : Zvn o) : SemL Try.prog w0 fp ρi 0 16 [Zrj, (.seq ZmH .ret)] [(0, some (.agg (OpV.cs o)))] Ye0 (fnK ZfH 0 Kf) :=
  Zae Zld (ZHH o _ (Zag (ZKx o hK h)))
def Ziy (o : OpV) : Prop := Zvn o
theorem Zui (o : OpV) (hK : Kf (.bool (chgB o.okind)) ⟨0, []⟩) (h : Ziy o) : SemL Try.prog w0 fp ρi 0 16 [ZoE] [(0, some (.agg (OpV.cs o)))] Ye0 (fnK ZfH 0 Kf) :=
  (Zag (ZKw o hK h))
end
theorem ZtR (o : OpV) (hpre : True) : Ziy o := by
  unfold Ziy Zvn Zvo
  unfold chgB
  rw [Bool.eq_iff_iff]
  simp only [decide_eq_true_eq, Bool.or_eq_true, beq_iff_eq]
  omega
theorem Zxp : Sound Try.prog 75 (Zed ZkK) := by
  refine Zbx ZkU ?_
  intro args H K h
  obtain ⟨pre, v, hP, hpre, rfl, hK⟩ := ZbH h
  unfold ZkK at hP
  split at hP
  · cases hP
    exact ⟨rfl, fun w0 fp ρi => Zui (OpV.mk _ _ _ _ _) hK (ZtR (OpV.mk _ _ _ _ _) hpre)⟩
  · cases hP
def Zy3 : Zez := fun args => match args with
  | [.int .i64 n] => some (True, .int .u64 (ZfS n))
  | _ => none
def ZFS : PCon := ⟨77, Zy3⟩
def Zri : ACode := .reg (.op (some 2) (.mov (.cn (.int .u64 0))) .nil)
def Zrh : ACode := .reg (.op (some 4) (.mov (.tm 0)) (.op (some 5) (.bin .lss (.tm 4) (.cn (.int .i64 1))) (.op (some 3) (.mov (.tm 5)) .nil)))
def Zrg : ACode := .reg (.op (some 2) (.mov (.cn (.int .u64 0))) .nil)
def Zrf : ACode := .reg (.op (some 7) (.mov (.tm 0)) (.op (some 8) (.bin .geq (.tm 7) (.cn (.int .i64 8))) (.op (some 6) (.mov (.tm 8)) .nil)))
def Zre : ACode := .reg (.op (some 2) (.mov (.cn (.int .u64 18446744073709551615))) .nil)
def Zrd : ACode := .cond (.tm 6) (.seq Zre .ret) .skip
def Zrc : ACode := .cond (.tm 3) (.seq Zrg .ret) (.seq Zrf Zrd)
def Zrb : ACode := .block 0 (.seq Zrh Zrc)
def ZiR : ACode := .reg (.op (some 9) (.mov (.tm 0)) (.op (some 10) (.bin .mul (.cn (.int .i64 8)) (.tm 9)) (.op (some 11) (.bin .shl (.cn (.int .u64 1)) (.tm 10)) (.op (some 12) (.bin .sub (.tm 11) (.cn (.int .u64 1))) (.op (some 2) (.mov (.tm 12)) .nil)))))
def ZBv : ACode := (.seq Zri (.seq Zrb (.seq ZiR .ret)))
def ZfG : Res := .one (.tm 2)
theorem Zsc : ZbD Try.prog 77 1 13 ZBv ZfG = true := by kernel_rfl
def ZkM : Za8 := ZdW [] []
theorem ZiP : Za9 Try.prog ZkM := ZbI trivial trivial
section
variable {w0 : World} {fp : Nat -> Nat -> Prop} {ρi : Rho} {Kf : SVal -> Heap -> Prop}
def ZiJ (w0 : World) (fp : Nat -> Nat -> Prop) (ρi : Rho) (Kf : SVal -> Heap -> Prop) (n : Int) : Zek := ZcF 0 (fun e H => SemL Try.prog w0 fp ρi 0 13 [(.seq ZiR .ret)] e H (fnK ZfG 0 Kf)) (fnK ZfG 0 Kf)
theorem ZHG (n : Int) (Z : Env -> Heap -> Prop) (h : Z [(2, some (.int .u64 0))] Ye0) : EvC ZkM Zrg [] Ye0 [2] [] Z := EvC.of (by kernel_rfl) h
theorem ZDw (n : Int) : RetC ZfG [(2, some (.int .u64 0))] Ye0 (.int .u64 0) := RetC.of (fun Z => by kernel_rfl)
def Zvm (n : Int) : Prop := 0 = (ZfS n)
abbrev Ye4 (x0 : SVal -> Heap -> Prop) (x1 : Int) : Prop := x0 (.int .u64 (ZfS x1)) ⟨0, []⟩
theorem ZKv (n : Int) (hK : (Ye4 Kf n)) (h : Zvm n) : SemL Try.prog w0 fp ρi 0 13 [Zrg, .ret] [] Ye0 (ZiJ w0 fp ρi Kf n) :=
  Zae ZiP (ZHG n _ (Zba (R := ZfG) (m := 0) (Kf := Kf) (fun _ _ h => h) (ZDw n) (Za3 rfl (by kernel_rfl) (cg1 (fun (z1 : Int) => (.int .u64 z1 : SVal)) h) hK)))
abbrev Ye5 : Env := [(2, some (.int .u64 18446744073709551615))]
theorem ZHF (n : Int) (Z : Env -> Heap -> Prop) (h : Z Ye5 Ye0) : EvC ZkM Zre [] Ye0 [2] [] Z := EvC.of (by kernel_rfl) h
theorem ZDv (n : Int) : RetC ZfG Ye5 Ye0 (.int .u64 18446744073709551615) := RetC.of (fun Z => by kernel_rfl)
def Zvl (n : Int) : Prop := 18446744073709551615 = (ZfS n)
theorem ZKu (n : Int) (hK : (Ye4 Kf n)) (h : Zvl n) : SemL Try.prog w0 fp ρi 0 13 [Zre, .ret] [] Ye0 (ZiJ w0 fp ρi Kf n) :=
  Zae ZiP (ZHF n _ (Zba (R := ZfG) (m := 0) (Kf := Kf) (fun _ _ h => h) (ZDv n) (Za3 rfl (by kernel_rfl) (cg1 (fun (z1 : Int) => (.int .u64 z1 : SVal)) h) hK)))
abbrev Ye6 (x0 : Int) : Env := [(2, some (.int .u64 (IntKind.u64.wrap ((ZAC .u64 1 (IntKind.i64.wrap (8 * x0))) - 1))))]
theorem ZHE (n : Int) (Z : Env -> Heap -> Prop) (h : ((0 <= (IntKind.i64.wrap (8 * n)))) /\ Z (Ye6 n) Ye0) : EvC ZkM ZiR (Ye1 n) Ye0 [2] [] Z := EvC.of (by kernel_rfl) h
theorem ZDu (n : Int) : RetC ZfG (Ye6 n) Ye0 (.int .u64 (IntKind.u64.wrap ((ZAC .u64 1 (IntKind.i64.wrap (8 * n))) - 1))) := RetC.of (fun Z => by kernel_rfl)
def Zvk (n : Int) : Prop := ((0 <= (IntKind.i64.wrap (8 * n)))) /\ ((IntKind.u64.wrap ((ZAC .u64 1 (IntKind.i64.wrap (8 * n))) - 1)) = (ZfS n))
theorem ZKt (n : Int) (hK : (Ye4 Kf n)) (h : Zvk n) : SemL Try.prog w0 fp ρi 0 13 [ZiR, .ret] (Ye1 n) Ye0 (fnK ZfG 0 Kf) :=
  Zae ZiP (ZHE n _ ⟨h.1, (Zba (R := ZfG) (m := 0) (Kf := Kf) (fun _ _ h => h) (ZDu n) (Za3 rfl (by kernel_rfl) (cg1 (fun (z1 : Int) => (.int .u64 z1 : SVal)) h.2) hK))⟩)
def Zvj (n : Int) : Prop := ((decide (8 <= n)) = true -> (Zvl n)) /\ ((decide (8 <= n)) = false -> (Zvk n))
abbrev Ye7 (x0 : Int) : Env := [(0, some (.int .i64 x0)), (6, some (.bool (decide (8 <= x0))))]
theorem ZKs (n : Int) (hK : (Ye4 Kf n)) (h : Zvj n) : SemL Try.prog w0 fp ρi 0 13 [Zrd] (Ye7 n) Ye0 (ZiJ w0 fp ρi Kf n) :=
  Zbf (q := (decide (8 <= n))) (by kernel_rfl) (fun hq => (Zag (lpk [] [] (ZKu n hK (h.1 hq))))) (fun hq => (Zbu (Zej (lpk [0] [] (Zag (ZKt n hK (h.2 hq)))))))
theorem ZHD (n : Int) (Z : Env -> Heap -> Prop) (h : Z (Ye7 n) Ye0) : EvC ZkM Zrf (Ye1 n) Ye0 [0, 6] [] Z := EvC.of (by kernel_rfl) h
def Zvi (n : Int) : Prop := Zvj n
theorem ZKr (n : Int) (hK : (Ye4 Kf n)) (h : Zvi n) : SemL Try.prog w0 fp ρi 0 13 [Zrf, Zrd] (Ye1 n) Ye0 (ZiJ w0 fp ρi Kf n) :=
  Zae ZiP (ZHD n _ (ZKs n hK h))
def Zvh (n : Int) : Prop := ((decide (n < 1)) = true -> (Zvm n)) /\ ((decide (n < 1)) = false -> (Zvi n))
abbrev Ye8 (x0 : Int) : Env := [(0, some (.int .i64 x0)), (3, some (.bool (decide (x0 < 1))))]
theorem ZKq (n : Int) (hK : (Ye4 Kf n)) (h : Zvh n) : SemL Try.prog w0 fp ρi 0 13 [Zrc] (Ye8 n) Ye0 (ZiJ w0 fp ρi Kf n) :=
  Zbf (q := (decide (n < 1))) (by kernel_rfl) (fun hq => (Zag (lpk [] [] (ZKv n hK (h.1 hq))))) (fun hq => (Zag (lpk [0] [] (ZKr n hK (h.2 hq)))))
theorem ZHC (n : Int) (Z : Env -> Heap -> Prop) (h : Z (Ye8 n) Ye0) : EvC ZkM Zrh (Ye1 n) Ye0 [0, 3] [] Z := EvC.of (by kernel_rfl) h
def Zvg (n : Int) : Prop := Zvh n
theorem ZKp (n : Int) (hK : (Ye4 Kf n)) (h : Zvg n) : SemL Try.prog w0 fp ρi 0 13 [Zrh, Zrc] (Ye1 n) Ye0 (ZiJ w0 fp ρi Kf n) :=
  Zae ZiP (ZHC n _ (ZKq n hK h))
def Zvf (n : Int) : Prop := Zvg n
theorem ZKo (n : Int) (hK : (Ye4 Kf n)) (h : Zvf n) : SemL Try.prog w0 fp ρi 0 13 [Zrb, (.seq ZiR .ret)] (Ye1 n) Ye0 (fnK ZfG 0 Kf) :=
  Zb4 (Zag (ZKp n hK h))
theorem ZHB (n : Int) (Z : Env -> Heap -> Prop) (h : Z (Ye1 n) Ye0) : EvC ZkM Zri (Ye1 n) Ye0 [0] [] Z := EvC.of (by kernel_rfl) h
def Zve (n : Int) : Prop := Zvf n
theorem ZKn (n : Int) (hK : (Ye4 Kf n)) (h : Zve n) : SemL Try.prog w0 fp ρi 0 13 [Zri, (.seq Zrb (.seq ZiR .ret))] (Ye1 n) Ye0 (fnK ZfG 0 Kf) :=
  Zae ZiP (ZHB n _ (Zag (ZKo n hK h)))
def ZqD (n : Int) : Prop := Zve n
theorem ZGH (n : Int) (hK : (Ye4 Kf n)) (h : ZqD n) : SemL Try.prog w0 fp ρi 0 13 [ZBv] (Ye1 n) Ye0 (fnK ZfG 0 Kf) :=
  (Zag (ZKn n hK h))
end
theorem ZFX (n : Int) (hpre : True) : ZqD n := by
  unfold ZqD Zve Zvf Zvg Zvh Zvi Zvj Zvk Zvl Zvm
  simp only [decide_eq_true_eq, decide_eq_false_iff_not]
  refine ⟨fun h => (by unfold ZfS; rw [if_pos h]), fun h => ⟨fun h2 => (by unfold ZfS; rw [if_neg h, if_pos h2]), fun h2 => ?_⟩⟩
  obtain ⟨k, rfl⟩ := Int.eq_ofNat_of_zero_le (show 0 <= n by omega)
  have e1 : IntKind.i64.wrap (8 * (k : Int)) = ((8 * k : Nat) : Int) := wrap_i64 (by omega) (by omega)
  have hp : (2 : Int) ^ (8 * k) <= 2 ^ 56 := Zj2 2 rfl (by omega) (by omega)
  have hp0 : (0 : Int) < 2 ^ (8 * k) := Int.pow_pos (by omega)
  have e2 : ZAC .u64 1 ((8 * k : Nat) : Int) = 2 ^ (8 * k) := by
    rw [Zte (by simp only [Int.toNat_natCast]; omega), Int.toNat_natCast, Int.one_mul]; omega
  have hpe : (2 : Int) ^ (8 * k) = 256 ^ k := by rw [Int.pow_mul]; rfl
  rw [e1, e2, Zdo]
  unfold ZfS
  rw [if_neg h, if_neg h2, Int.toNat_natCast, <- hpe]
  omega
theorem ZGQ : Sound Try.prog 77 (Zed Zy3) := by
  refine Zbx Zsc ?_
  intro args H K h
  obtain ⟨pre, v, hP, hpre, rfl, hK⟩ := ZbH h
  unfold Zy3 at hP
  split at hP
  · cases hP
    exact ⟨rfl, fun w0 fp ρi => ZGH _ hK (ZFX _ hpre)⟩
  · cases hP
def ZOF : Zez := fun args => match args with
  | [.agg [.one (.int .i64 o_0), .one (.int .i64 o_1), .one (.int .i64 o_2), .one (.int .u64 o_3), .one (.int .u64 o_4)], .agg [.ints .u8 x_n x]] => bif Nat.beq x_n 32 then some ((OpV.Wf (OpV.mk o_0 o_1 o_2 o_3 o_4) /\ Ziv x), .tuple [.agg [.ints .u8 32 (OpV.next (OpV.mk o_0 o_1 o_2 o_3 o_4) x)], .int .u64 (OpV.result (OpV.mk o_0 o_1 o_2 o_3 o_4) x)]) else none
  | _ => none
def ZNT : PCon := ⟨60, ZOF⟩
def ZrE : ACode := .reg (.op (some 2) (.box (.tm 0)) (.op (some 3) (.box (.tm 1)) (.op (some 4) (.alloc [.ints .u8 32 (List.replicate 32 0)]) (.op (some 5) (.mov (.cn (.int .u64 0))) .nil))))
def Zm4 : ACode := .reg (.op (some 10) (.fieldAddr (.tm 2) 2 1) (.op (some 11) (.load1 (.tm 10)) (.op (some 12) (.call 74 [(.tm 11)]) (.op (some 13) (.not (.tm 12)) (.op (some 14) (.mov (.tm 13)) (.grpJ 14 false (.op (some 15) (.loadA 5 (.tm 2)) (.op (some 16) (.call 75 [(.tm 15)]) (.op (some 17) (.not (.tm 16)) (.op (some 18) (.mov (.tm 17)) (.grpJ 18 true (.op (some 19) (.fieldAddr (.tm 2) 0 1) (.op (some 20) (.load1 (.tm 19)) (.op (some 21) (.bin .neq (.tm 20) (.cn (.int .i64 1))) .nil))) 22 (.tm 21) (.cn (.bool false)) .nil))))) 23 (.tm 22) (.cn (.bool true)) .nil))))))
def ZrD : ACode := .reg (.op (some 24) (.loadA 32 (.tm 3)) (.op none (.storeA 32 (.tm 4) (.tm 24)) (.op (some 5) (.mov (.cn (.int .u64 0))) .nil)))
def ZmU : ACode := .cond (.tm 23) (.seq ZrD .ret) .skip
def Zhz : ACode := .reg (.op (some 25) (.fieldAddr (.tm 2) 1 1) (.op (some 26) (.load1 (.tm 25)) (.op (some 27) (.bin .and (.tm 26) (.cn (.int .i64 31))) (.op (some 28) (.fieldAddr (.tm 2) 2 1) (.op (some 29) (.load1 (.tm 28)) (.op (some 30) (.bin .sub (.cn (.int .i64 32)) (.tm 29)) (.op (some 31) (.min2 (.tm 27) (.tm 30)) (.op (some 6) (.mov (.tm 31)) .nil))))))))
def ZgG : ACode := .reg (.op (some 32) (.mov (.tm 6)) (.op (some 33) (.mov (.tm 6)) (.op (some 34) (.fieldAddr (.tm 2) 2 1) (.op (some 35) (.load1 (.tm 34)) (.op (some 36) (.bin .add (.tm 33) (.tm 35)) (.op (some 37) (.sliceP 32 (.tm 3) (some (.tm 32)) (some (.tm 36)) none) (.op (some 7) (.mov (.tm 37)) .nil)))))))
def Zf3 : ACode := .reg (.op (some 38) (.mov (.tm 7)) (.op (some 39) (.call 76 [(.tm 38)]) (.op (some 8) (.mov (.tm 39)) .nil)))
def Zfn : ACode := .reg (.op (some 40) (.fieldAddr (.tm 2) 3 1) (.op (some 41) (.load1 (.tm 40)) (.op (some 9) (.mov (.tm 41)) .nil)))
def ZeL : ACode := .reg (.op (some 42) (.fieldAddr (.tm 2) 0 1) (.op (some 43) (.load1 (.tm 42)) .nil))
def ZrC : ACode := .reg (.op (some 45) (.bin .eql (.tm 43) (.cn (.int .i64 1))) (.op (some 44) (.mov (.tm 45)) .nil))
def Zm3 : ACode := .reg (.op (some 46) (.loadA 32 (.tm 3)) (.op (some 47) (.mov (.tm 8)) (.op none (.storeA 32 (.tm 4) (.tm 46)) (.op (some 5) (.mov (.tm 47)) .nil))))
def Zm2 : ACode := .reg (.op (some 49) (.bin .eql (.tm 43) (.cn (.int .i64 3))) (.op (some 48) (.mov (.tm 49)) .nil))
def Zki : Items := .op (some 50) (.mov (.tm 8)) (.op (some 51) (.fieldAddr (.tm 2) 4 1) (.op (some 52) (.load1 (.tm 51)) (.op (some 53) (.fieldAddr (.tm 2) 2 1) (.op (some 54) (.load1 (.tm 53)) (.op (some 55) (.call 77 [(.tm 54)]) (.op (some 56) (.bin .and (.tm 52) (.tm 55)) (.op (some 57) (.bin .neq (.tm 50) (.tm 56)) .nil)))))))
def Zto : ACode := .regQ Zki
def Zm1 : ACode := .reg (.op (some 58) (.loadA 32 (.tm 3)) (.op (some 59) (.mov (.tm 8)) (.op none (.storeA 32 (.tm 4) (.tm 58)) (.op (some 5) (.mov (.tm 59)) .nil))))
def Zm0 : ACode := .cond (.tm 57) (.seq Zm1 .ret) .skip
def ZmZ : ACode := .reg (.op (some 61) (.bin .eql (.tm 43) (.cn (.int .i64 4))) (.op (some 60) (.mov (.tm 61)) .nil))
def ZmY : ACode := .reg (.op (some 62) (.mov (.tm 9)) (.op (some 63) (.mov (.tm 8)) (.op (some 64) (.bin .add (.tm 62) (.tm 63)) (.op (some 9) (.mov (.tm 64)) .nil))))
def ZmX : ACode := .cond (.tm 60) ZmY .skip
def ZmW : ACode := .cond (.tm 48) (.seq Zto Zm0) (.seq ZmZ ZmX)
def ZmV : ACode := .cond (.tm 44) (.seq Zm3 .ret) (.seq Zm2 ZmW)
def ZdK : ACode := .block 0 (.seq ZrC ZmV)
def Zc2 : ACode := .reg (.op (some 65) (.mov (.tm 7)) (.op (some 66) (.mov (.tm 9)) (.op (some 67) (.fieldAddr (.tm 2) 2 1) (.op (some 68) (.load1 (.tm 67)) (.op (some 69) (.call 78 [(.cn (.nilslice)), (.tm 66), (.tm 68)]) (.op (some 70) (.copy .u8 (.tm 65) (.tm 69)) .nil))))))
def ZcS : ACode := .reg (.op (some 71) (.loadA 32 (.tm 3)) (.op (some 72) (.mov (.tm 8)) (.op none (.storeA 32 (.tm 4) (.tm 71)) (.op (some 5) (.mov (.tm 72)) .nil))))
def ZOS : ACode := (.seq ZrE (.seq (.seq Zm4 ZmU) (.seq Zhz (.seq ZgG (.seq Zf3 (.seq Zfn (.seq (.seq ZeL ZdK) (.seq Zc2 (.seq ZcS .ret)))))))))
def ZjH : Res := .many [.cA 4 32, .tm 5]
theorem Zyy : ZbD Try.prog 60 2 73 ZOS ZjH = true := by kernel_rfl
def Zn0 : Za8 := ZdW [ZFR, ZtN, ZFS] [ZAR, Zt3]
theorem ZgB : Za9 Try.prog Zn0 := ZbI ⟨ZGP, Zxp, ZGQ, trivial⟩ ⟨sbRead.dC, sbNumber.dC, trivial⟩
section
variable {w0 : World} {fp : Nat -> Nat -> Prop} {ρi : Rho} {Kf : SVal -> Heap -> Prop}
abbrev Ye9 : Env := [(4, some (.ptr ⟨2, 0, 0, 1⟩ 32)), (5, some (.int .u64 0))]
abbrev ZGD (x0 : List Int) : Heap := ⟨3, [(2, some ⟨true, [.ints .u8 32 x0], 0⟩)]⟩
abbrev ZPS : Env := [(3, some (.ptr ⟨1, 0, 0, 1⟩ 32)), (4, some (.ptr ⟨2, 0, 0, 1⟩ 32))]
abbrev ZGC (x0 : List Int) : Heap := ⟨3, [(1, some ⟨true, [.ints .u8 32 x0], 0⟩), (2, some ⟨true, [.ints .u8 32 (List.replicate 32 0)], 0⟩)]⟩
theorem ZId (o : OpV) (x : List Int) (Z : Env -> Heap -> Prop) (h : Z Ye9 (ZGD x)) : EvC Zn0 ZrD ZPS (ZGC x) [4, 5] [2] Z := EvC.of (by kernel_rfl) h
theorem ZDN (o : OpV) (x : List Int) : RetC ZjH Ye9 (ZGD x) (.tuple [.agg [.ints .u8 32 x], .int .u64 0]) := RetC.of (fun Z => by kernel_rfl)
def Zv1 (o : OpV) (x : List Int) : Prop := (x = (OpV.next o x)) /\ (0 = (OpV.result o x))
abbrev ZjF (x0 : SVal -> Heap -> Prop) (x1 : OpV) (x2 : List Int) : Prop := x0 (.tuple [.agg [.ints .u8 32 (OpV.next x1 x2)], .int .u64 (OpV.result x1 x2)]) ⟨0, []⟩
theorem ZLb (o : OpV) (x : List Int) (hK : (ZjF Kf o x)) (h : Zv1 o x) : SemL Try.prog w0 fp ρi 0 73 [ZrD, .ret, (.seq Zhz (.seq ZgG (.seq Zf3 (.seq Zfn (.seq (.seq ZeL ZdK) (.seq Zc2 (.seq ZcS .ret)))))))] ZPS (ZGC x) (fnK ZjH 0 Kf) :=
  Zae ZgB (ZId o x _ (Zba (R := ZjH) (m := 0) (Kf := Kf) (fun _ _ h => h) (ZDN o x) (Za3 rfl (by kernel_rfl) (cg2 (fun (z1 : List Int) (z2 : Int) => (.tuple [.agg [.ints .u8 32 z1], .int .u64 z2] : SVal)) h.1 h.2) hK)))
def ZeG (w0 : World) (fp : Nat -> Nat -> Prop) (ρi : Rho) (Kf : SVal -> Heap -> Prop) (o : OpV) (x : List Int) : Zek := ZcF 0 (fun e H => SemL Try.prog w0 fp ρi 0 73 [(.seq Zc2 (.seq ZcS .ret))] e H (fnK ZjH 0 Kf)) (fnK ZjH 0 Kf)
abbrev ZGB (x0 : Int) : Env := [(4, some (.ptr ⟨2, 0, 0, 1⟩ 32)), (5, some (.int .u64 x0))]
abbrev ZGl (x0 : Int) : Env := [(3, some (.ptr ⟨1, 0, 0, 1⟩ 32)), (4, some (.ptr ⟨2, 0, 0, 1⟩ 32)), (8, some (.int .u64 x0))]
theorem ZIc (o : OpV) (x : List Int) (v8 : Int) (Z : Env -> Heap -> Prop) (h : Z (ZGB v8) (ZGD x)) : EvC Zn0 Zm3 (ZGl v8) (ZGC x) [4, 5] [2] Z := EvC.of (by kernel_rfl) h
theorem ZDM (o : OpV) (x : List Int) (v8 : Int) : RetC ZjH (ZGB v8) (ZGD x) (.tuple [.agg [.ints .u8 32 x], .int .u64 v8]) := RetC.of (fun Z => by kernel_rfl)
def Zv0 (o : OpV) (x : List Int) (v8 : Int) : Prop := (x = (OpV.next o x)) /\ (v8 = (OpV.result o x))
theorem ZLa (o : OpV) (x : List Int) (hK : (ZjF Kf o x)) (v8 : Int) (h : Zv0 o x v8) : SemL Try.prog w0 fp ρi 0 73 [Zm3, .ret] (ZGl v8) (ZGC x) (ZeG w0 fp ρi Kf o x) :=
  Zae ZgB (ZIc o x v8 _ (Zba (R := ZjH) (m := 0) (Kf := Kf) (fun _ _ h => h) (ZDM o x v8) (Za3 rfl (by kernel_rfl) (cg2 (fun (z1 : List Int) (z2 : Int) => (.tuple [.agg [.ints .u8 32 z1], .int .u64 z2] : SVal)) h.1 h.2) hK)))
theorem ZIb (o : OpV) (x : List Int) (v8 : Int) (Z : Env -> Heap -> Prop) (h : Z (ZGB v8) (ZGD x)) : EvC Zn0 Zm1 (ZGl v8) (ZGC x) [4, 5] [2] Z := EvC.of (by kernel_rfl) h
theorem ZDL (o : OpV) (x : List Int) (v8 : Int) : RetC ZjH (ZGB v8) (ZGD x) (.tuple [.agg [.ints .u8 32 x], .int .u64 v8]) := RetC.of (fun Z => by kernel_rfl)
def ZvZ (o : OpV) (x : List Int) (v8 : Int) : Prop := (x = (OpV.next o x)) /\ (v8 = (OpV.result o x))
theorem ZK9 (o : OpV) (x : List Int) (hK : (ZjF Kf o x)) (v8 : Int) (h : ZvZ o x v8) : SemL Try.prog w0 fp ρi 0 73 [Zm1, .ret] (ZGl v8) (ZGC x) (ZeG w0 fp ρi Kf o x) :=
  Zae ZgB (ZIb o x v8 _ (Zba (R := ZjH) (m := 0) (Kf := Kf) (fun _ _ h => h) (ZDL o x v8) (Za3 rfl (by kernel_rfl) (cg2 (fun (z1 : List Int) (z2 : Int) => (.tuple [.agg [.ints .u8 32 z1], .int .u64 z2] : SVal)) h.1 h.2) hK)))
abbrev ZPR (x0 : List Int) : Heap := ⟨5, [(1, some ⟨true, [.ints .u8 32 x0], 0⟩), (2, some ⟨true, [.ints .u8 32 (List.replicate 32 0)], 0⟩)]⟩
theorem ZIa (o : OpV) (x : List Int) (v8 : Int) (h1 : List Int) (Z : Env -> Heap -> Prop) (h : Z (ZGB v8) ⟨5, [(2, some ⟨true, [.ints .u8 32 h1], 0⟩)]⟩) : EvC Zn0 ZcS (ZGl v8) (ZPR h1) [4, 5] [2] Z := EvC.of (by kernel_rfl) h
theorem ZDK (o : OpV) (x : List Int) (v8 : Int) (h1 : List Int) : RetC ZjH (ZGB v8) ⟨5, [(2, some ⟨true, [.ints .u8 32 h1], 0⟩)]⟩ (.tuple [.agg [.ints .u8 32 h1], .int .u64 v8]) := RetC.of (fun Z => by kernel_rfl)
def ZvY (o : OpV) (x : List Int) (v8 : Int) (h1 : List Int) : Prop := (h1 = (OpV.next o x)) /\ (v8 = (OpV.result o x))
theorem ZK8 (o : OpV) (x : List Int) (hK : (ZjF Kf o x)) (v8 : Int) (h1 : List Int) (h : ZvY o x v8 h1) : SemL Try.prog w0 fp ρi 0 73 [ZcS, .ret] (ZGl v8) (ZPR h1) (fnK ZjH 0 Kf) :=
  Zae ZgB (ZIa o x v8 h1 _ (Zba (R := ZjH) (m := 0) (Kf := Kf) (fun _ _ h => h) (ZDK o x v8 h1) (Za3 rfl (by kernel_rfl) (cg2 (fun (z1 : List Int) (z2 : Int) => (.tuple [.agg [.ints .u8 32 z1], .int .u64 z2] : SVal)) h.1 h.2) hK)))
abbrev ZPQ (x0 x1 x2 : Nat) (x3 x4 : Int) : Env := [(2, some (.ptr ⟨0, 0, 0, 1⟩ 5)), (3, some (.ptr ⟨1, 0, 0, 1⟩ 32)), (4, some (.ptr ⟨2, 0, 0, 1⟩ 32)), (7, some (.slice ⟨1, 0, x0, 1⟩ x1 x2)), (8, some (.int .u64 x3)), (9, some (.int .u64 x4))]
abbrev ZeC (x0 : OpV) (x1 : List Int) : Heap := ⟨3, [(0, some ⟨true, (OpV.cs x0), 0⟩), (1, some ⟨true, [.ints .u8 32 x1], 0⟩), (2, some ⟨true, [.ints .u8 32 (List.replicate 32 0)], 0⟩)]⟩
theorem ZH9 (o : OpV) (x : List Int) (v7i v7l v7c : Nat) (v8 v9 : Int) (Z : Env -> Heap -> Prop) (h : (((0 : Nat) <= 0)) /\ (((0 : Nat) = 0)) /\ ((List.length ([] : List Int) = 0 /\ 0 <= 1000000 /\ 0 <= v9 /\ v9 < 2 ^ 64)) /\ ∀ (c : Nat), (0 + Int.toNat (min o.on 64)) <= c -> (((0 + (0 + Int.toNat (min o.on 64))) <= (0 + Int.toNat (min o.on 64)))) /\ (((min (0 + Int.toNat (min o.on 64)) v7l) = (min (0 + Int.toNat (min o.on 64)) v7l))) /\ (((v7i + (min (0 + Int.toNat (min o.on 64)) v7l)) <= 32)) /\ ((List.length x = 32)) /\ ((List.length (List.take (min (0 + Int.toNat (min o.on 64)) v7l) (List.take (0 + Int.toNat (min o.on 64)) (Zdv v9 (Int.toNat (min o.on 64))))) = (min (0 + Int.toNat (min o.on 64)) v7l))) /\ Z (ZGl v8) ⟨5, [(1, some ⟨true, [.ints .u8 32 (List.take v7i x ++ (List.take (min (0 + Int.toNat (min o.on 64)) v7l) (List.take (0 + Int.toNat (min o.on 64)) (Zdv v9 (Int.toNat (min o.on 64))))) ++ List.drop (v7i + (min (0 + Int.toNat (min o.on 64)) v7l)) x)], 0⟩), (2, some ⟨true, [.ints .u8 32 (List.replicate 32 0)], 0⟩)]⟩) : EvC Zn0 Zc2 (ZPQ v7i v7l v7c v8 v9) (ZeC o x) [3, 4, 8] [1, 2] Z := EvC.of (by kernel_rfl) h
def Zn1 (o : OpV) (x : List Int) (v7i v7l v7c : Nat) (v8 v9 : Int) : Prop := ((List.length ([] : List Int) = 0 /\ 0 <= 1000000 /\ 0 <= v9 /\ v9 < 2 ^ 64)) /\ (∀ (c : Nat), ((0 + Int.toNat (min o.on 64)) <= c) -> ((((0 + (0 + Int.toNat (min o.on 64))) <= (0 + Int.toNat (min o.on 64)))) /\ ((((v7i + (min (0 + Int.toNat (min o.on 64)) v7l)) <= 32)) /\ (((List.length x = 32)) /\ (((List.length (List.take (min (0 + Int.toNat (min o.on 64)) v7l) (List.take (0 + Int.toNat (min o.on 64)) (Zdv v9 (Int.toNat (min o.on 64))))) = (min (0 + Int.toNat (min o.on 64)) v7l))) /\ (∀ h1 : List Int, h1 = (List.take v7i x ++ (List.take (min (0 + Int.toNat (min o.on 64)) v7l) (List.take (0 + Int.toNat (min o.on 64)) (Zdv v9 (Int.toNat (min o.on 64))))) ++ List.drop (v7i + (min (0 + Int.toNat (min o.on 64)) v7l)) x) -> ZvY o x v8 h1))))))
theorem ZxB (o : OpV) (x : List Int) (hK : (ZjF Kf o x)) (v7i v7l v7c : Nat) (v8 v9 : Int) (h : Zn1 o x v7i v7l v7c v8 v9) : SemL Try.prog w0 fp ρi 0 73 [Zc2, (.seq ZcS .ret)] (ZPQ v7i v7l v7c v8 v9) (ZeC o x) (fnK ZjH 0 Kf) :=
  Zae ZgB (ZH9 o x v7i v7l v7c v8 v9 _ ⟨(by decide), ⟨rfl, ⟨h.1, (fun c h_c_0 => ⟨(h.2 c h_c_0).1, ⟨rfl, ⟨(h.2 c h_c_0).2.1, ⟨(h.2 c h_c_0).2.2.1, ⟨(h.2 c h_c_0).2.2.2.1, (Zag (ZK8 o x hK v8 (List.take v7i x ++ (List.take (min (0 + Int.toNat (min o.on 64)) v7l) (List.take (0 + Int.toNat (min o.on 64)) (Zdv v9 (Int.toNat (min o.on 64))))) ++ List.drop (v7i + (min (0 + Int.toNat (min o.on 64)) v7l)) x) ((h.2 c h_c_0).2.2.2.2 (List.take v7i x ++ (List.take (min (0 + Int.toNat (min o.on 64)) v7l) (List.take (0 + Int.toNat (min o.on 64)) (Zdv v9 (Int.toNat (min o.on 64))))) ++ List.drop (v7i + (min (0 + Int.toNat (min o.on 64)) v7l)) x) rfl)))⟩⟩⟩⟩⟩)⟩⟩⟩)
def ZvX (o : OpV) (x : List Int) (v7i v7l v7c : Nat) (v8 : Int) : Prop := ((v8 != (Zlb .u64 o.owant (ZfS o.on))) = true -> (ZvZ o x v8)) /\ ((v8 != (Zlb .u64 o.owant (ZfS o.on))) = false -> (Zn1 o x v7i v7l v7c v8 o.oval))
abbrev ZPP (x0 x1 x2 : Nat) (x3 : Int) (x4 : OpV) : Env := [(2, some (.ptr ⟨0, 0, 0, 1⟩ 5)), (3, some (.ptr ⟨1, 0, 0, 1⟩ 32)), (4, some (.ptr ⟨2, 0, 0, 1⟩ 32)), (7, some (.slice ⟨1, 0, x0, 1⟩ x1 x2)), (8, some (.int .u64 x3)), (9, some (.int .u64 x4.oval)), (57, some (.bool (x3 != (Zlb .u64 x4.owant (ZfS x4.on)))))]
theorem ZK7 (o : OpV) (x : List Int) (hK : (ZjF Kf o x)) (v7i v7l v7c : Nat) (v8 : Int) (h : ZvX o x v7i v7l v7c v8) : SemL Try.prog w0 fp ρi 0 73 [Zm0] (ZPP v7i v7l v7c v8 o) (ZeC o x) (ZeG w0 fp ρi Kf o x) :=
  Zbf (q := (v8 != (Zlb .u64 o.owant (ZfS o.on)))) (by kernel_rfl) (fun hq => (Zag (lpk [3, 4, 8] [1, 2] (ZK9 o x hK v8 (h.1 hq))))) (fun hq => (Zbu (Zej (lpk [2, 3, 4, 7, 8, 9] [0, 1, 2] (Zag (ZxB o x hK v7i v7l v7c v8 o.oval (h.2 hq)))))))
abbrev ZGk (x0 x1 x2 : Nat) (x3 : Int) (x4 : OpV) : Env := [(2, some (.ptr ⟨0, 0, 0, 1⟩ 5)), (3, some (.ptr ⟨1, 0, 0, 1⟩ 32)), (4, some (.ptr ⟨2, 0, 0, 1⟩ 32)), (7, some (.slice ⟨1, 0, x0, 1⟩ x1 x2)), (8, some (.int .u64 x3)), (9, some (.int .u64 x4.oval))]
theorem ZH8 (o : OpV) (x : List Int) (v7i v7l v7c : Nat) (v8 : Int) (Z : Env -> Heap -> Prop) (h : ((SVal.bd 3 (.int .u64 (ZfS o.on)))) /\ (True /\ ((.int .u64 (ZfS o.on) : SVal) = .int .u64 (ZfS o.on)) /\ (ZaK (ZeC o x) (ZeC o x) [(0, some ⟨true, (OpV.cs o), 0⟩), (1, some ⟨true, [.ints .u8 32 x], 0⟩), (2, some ⟨true, [.ints .u8 32 (List.replicate 32 0)], 0⟩)])) /\ Z (ZPP v7i v7l v7c v8 o) (ZeC o x)) : EvQC Zn0 Zki [.int .u64 (ZfS o.on)] (ZGk v7i v7l v7c v8 o) (ZeC o x) [2, 3, 4, 7, 8, 9, 57] [0, 1, 2] Z := EvQC.of (by kernel_rfl) h
def ZvW (o : OpV) (x : List Int) (v7i v7l v7c : Nat) (v8 : Int) : Prop := ZvX o x v7i v7l v7c v8
theorem ZK6 (o : OpV) (x : List Int) (hK : (ZjF Kf o x)) (v7i v7l v7c : Nat) (v8 : Int) (h : ZvW o x v7i v7l v7c v8) : SemL Try.prog w0 fp ρi 0 73 [Zto, Zm0] (ZGk v7i v7l v7c v8 o) (ZeC o x) (ZeG w0 fp ρi Kf o x) :=
  Zi0 ZgB (its := Zki) (ZH8 o x v7i v7l v7c v8 _ ⟨(ZeA (τ := ZbB) (by kernel_rfl)).2, ⟨⟨True.intro, rfl, (ZaT _)⟩, (ZK7 o x hK v7i v7l v7c v8 h)⟩⟩)
theorem ZH7 (o : OpV) (x : List Int) (v7i v7l v7c : Nat) (v8 : Int) (Z : Env -> Heap -> Prop) (h : Z [(2, some (.ptr ⟨0, 0, 0, 1⟩ 5)), (3, some (.ptr ⟨1, 0, 0, 1⟩ 32)), (4, some (.ptr ⟨2, 0, 0, 1⟩ 32)), (7, some (.slice ⟨1, 0, v7i, 1⟩ v7l v7c)), (8, some (.int .u64 v8)), (9, some (.int .u64 (IntKind.u64.wrap (o.oval + v8))))] (ZeC o x)) : EvC Zn0 ZmY (ZGk v7i v7l v7c v8 o) (ZeC o x) [2, 3, 4, 7, 8, 9] [0, 1, 2] Z := EvC.of (by kernel_rfl) h
def ZvV (o : OpV) (x : List Int) (v7i v7l v7c : Nat) (v8 : Int) : Prop := ∀ v9 : Int, v9 = (o.oval + v8) % 18446744073709551616 -> Zn1 o x v7i v7l v7c v8 v9
theorem ZK5 (o : OpV) (x : List Int) (hK : (ZjF Kf o x)) (v7i v7l v7c : Nat) (v8 : Int) (h : ZvV o x v7i v7l v7c v8) : SemL Try.prog w0 fp ρi 0 73 [ZmY] (ZGk v7i v7l v7c v8 o) (ZeC o x) (ZeG w0 fp ρi Kf o x) :=
  Zae ZgB (ZH7 o x v7i v7l v7c v8 _ (Zej (Zag (ZxB o x hK v7i v7l v7c v8 (IntKind.u64.wrap (o.oval + v8)) (h (IntKind.u64.wrap (o.oval + v8)) (Zdo _))))))
def ZvU (o : OpV) (x : List Int) (v7i v7l v7c : Nat) (v8 : Int) : Prop := ((o.okind == 4) = true -> (ZvV o x v7i v7l v7c v8)) /\ ((o.okind == 4) = false -> (Zn1 o x v7i v7l v7c v8 o.oval))
abbrev ZPO (x0 x1 x2 : Nat) (x3 : Int) (x4 : OpV) : Env := [(2, some (.ptr ⟨0, 0, 0, 1⟩ 5)), (3, some (.ptr ⟨1, 0, 0, 1⟩ 32)), (4, some (.ptr ⟨2, 0, 0, 1⟩ 32)), (7, some (.slice ⟨1, 0, x0, 1⟩ x1 x2)), (8, some (.int .u64 x3)), (9, some (.int .u64 x4.oval)), (60, some (.bool (x4.okind == 4)))]
theorem ZK4 (o : OpV) (x : List Int) (hK : (ZjF Kf o x)) (v7i v7l v7c : Nat) (v8 : Int) (h : ZvU o x v7i v7l v7c v8) : SemL Try.prog w0 fp ρi 0 73 [ZmX] (ZPO v7i v7l v7c v8 o) (ZeC o x) (ZeG w0 fp ρi Kf o x) :=
  Zbf (q := (o.okind == 4)) (by kernel_rfl) (fun hq => (lpk [2, 3, 4, 7, 8, 9] [0, 1, 2] (ZK5 o x hK v7i v7l v7c v8 (h.1 hq)))) (fun hq => (Zbu (Zej (lpk [2, 3, 4, 7, 8, 9] [0, 1, 2] (Zag (ZxB o x hK v7i v7l v7c v8 o.oval (h.2 hq)))))))
abbrev ZBP (x0 x1 x2 : Nat) (x3 : Int) (x4 : OpV) : Env := [(2, some (.ptr ⟨0, 0, 0, 1⟩ 5)), (3, some (.ptr ⟨1, 0, 0, 1⟩ 32)), (4, some (.ptr ⟨2, 0, 0, 1⟩ 32)), (7, some (.slice ⟨1, 0, x0, 1⟩ x1 x2)), (8, some (.int .u64 x3)), (9, some (.int .u64 x4.oval)), (43, some (.int .i64 x4.okind))]
theorem ZH6 (o : OpV) (x : List Int) (v7i v7l v7c : Nat) (v8 : Int) (Z : Env -> Heap -> Prop) (h : Z (ZPO v7i v7l v7c v8 o) (ZeC o x)) : EvC Zn0 ZmZ (ZBP v7i v7l v7c v8 o) (ZeC o x) [2, 3, 4, 7, 8, 9, 60] [0, 1, 2] Z := EvC.of (by kernel_rfl) h
def ZvT (o : OpV) (x : List Int) (v7i v7l v7c : Nat) (v8 : Int) : Prop := ZvU o x v7i v7l v7c v8
theorem ZK3 (o : OpV) (x : List Int) (hK : (ZjF Kf o x)) (v7i v7l v7c : Nat) (v8 : Int) (h : ZvT o x v7i v7l v7c v8) : SemL Try.prog w0 fp ρi 0 73 [ZmZ, ZmX] (ZBP v7i v7l v7c v8 o) (ZeC o x) (ZeG w0 fp ρi Kf o x) :=
  Zae ZgB (ZH6 o x v7i v7l v7c v8 _ (ZK4 o x hK v7i v7l v7c v8 h))
def ZpG (o : OpV) (x : List Int) (v7i v7l v7c : Nat) (v8 : Int) : Prop := ((o.okind == 3) = true -> (ZvW o x v7i v7l v7c v8)) /\ ((o.okind == 3) = false -> (ZvT o x v7i v7l v7c v8))
abbrev ZPN (x0 x1 x2 : Nat) (x3 : Int) (x4 : OpV) : Env := [(2, some (.ptr ⟨0, 0, 0, 1⟩ 5)), (3, some (.ptr ⟨1, 0, 0, 1⟩ 32)), (4, some (.ptr ⟨2, 0, 0, 1⟩ 32)), (7, some (.slice ⟨1, 0, x0, 1⟩ x1 x2)), (8, some (.int .u64 x3)), (9, some (.int .u64 x4.oval)), (43, some (.int .i64 x4.okind)), (48, some (.bool (x4.okind == 3)))]
theorem ZEV (o : OpV) (x : List Int) (hK : (ZjF Kf o x)) (v7i v7l v7c : Nat) (v8 : Int) (h : ZpG o x v7i v7l v7c v8) : SemL Try.prog w0 fp ρi 0 73 [ZmW] (ZPN v7i v7l v7c v8 o) (ZeC o x) (ZeG w0 fp ρi Kf o x) :=
  Zbf (q := (o.okind == 3)) (by kernel_rfl) (fun hq => (Zag (lpk [2, 3, 4, 7, 8, 9] [0, 1, 2] (ZK6 o x hK v7i v7l v7c v8 (h.1 hq))))) (fun hq => (Zag (lpk [2, 3, 4, 7, 8, 9, 43] [0, 1, 2] (ZK3 o x hK v7i v7l v7c v8 (h.2 hq)))))
theorem ZCI (o : OpV) (x : List Int) (v7i v7l v7c : Nat) (v8 : Int) (Z : Env -> Heap -> Prop) (h : Z (ZPN v7i v7l v7c v8 o) (ZeC o x)) : EvC Zn0 Zm2 (ZBP v7i v7l v7c v8 o) (ZeC o x) [2, 3, 4, 7, 8, 9, 43, 48] [0, 1, 2] Z := EvC.of (by kernel_rfl) h
def ZpF (o : OpV) (x : List Int) (v7i v7l v7c : Nat) (v8 : Int) : Prop := ZpG o x v7i v7l v7c v8
theorem ZEU (o : OpV) (x : List Int) (hK : (ZjF Kf o x)) (v7i v7l v7c : Nat) (v8 : Int) (h : ZpF o x v7i v7l v7c v8) : SemL Try.prog w0 fp ρi 0 73 [Zm2, ZmW] (ZBP v7i v7l v7c v8 o) (ZeC o x) (ZeG w0 fp ρi Kf o x) :=
  Zae ZgB (ZCI o x v7i v7l v7c v8 _ (ZEV o x hK v7i v7l v7c v8 h))
def ZpE (o : OpV) (x : List Int) (v7i v7l v7c : Nat) (v8 : Int) : Prop := ((o.okind == 1) = true -> (Zv0 o x v8)) /\ ((o.okind == 1) = false -> (ZpF o x v7i v7l v7c v8))
abbrev ZPM (x0 x1 x2 : Nat) (x3 : Int) (x4 : OpV) : Env := [(2, some (.ptr ⟨0, 0, 0, 1⟩ 5)), (3, some (.ptr ⟨1, 0, 0, 1⟩ 32)), (4, some (.ptr ⟨2, 0, 0, 1⟩ 32)), (7, some (.slice ⟨1, 0, x0, 1⟩ x1 x2)), (8, some (.int .u64 x3)), (9, some (.int .u64 x4.oval)), (43, some (.int .i64 x4.okind)), (44, some (.bool (x4.okind == 1)))]
theorem ZET (o : OpV) (x : List Int) (hK : (ZjF Kf o x)) (v7i v7l v7c : Nat) (v8 : Int) (h : ZpE o x v7i v7l v7c v8) : SemL Try.prog w0 fp ρi 0 73 [ZmV] (ZPM v7i v7l v7c v8 o) (ZeC o x) (ZeG w0 fp ρi Kf o x) :=
  Zbf (q := (o.okind == 1)) (by kernel_rfl) (fun hq => (Zag (lpk [3, 4, 8] [1, 2] (ZLa o x hK v8 (h.1 hq))))) (fun hq => (Zag (lpk [2, 3, 4, 7, 8, 9, 43] [0, 1, 2] (ZEU o x hK v7i v7l v7c v8 (h.2 hq)))))
theorem ZCH (o : OpV) (x : List Int) (v7i v7l v7c : Nat) (v8 : Int) (Z : Env -> Heap -> Prop) (h : Z (ZPM v7i v7l v7c v8 o) (ZeC o x)) : EvC Zn0 ZrC (ZBP v7i v7l v7c v8 o) (ZeC o x) [2, 3, 4, 7, 8, 9, 43, 44] [0, 1, 2] Z := EvC.of (by kernel_rfl) h
def ZpD (o : OpV) (x : List Int) (v7i v7l v7c : Nat) (v8 : Int) : Prop := ZpE o x v7i v7l v7c v8
theorem ZES (o : OpV) (x : List Int) (hK : (ZjF Kf o x)) (v7i v7l v7c : Nat) (v8 : Int) (h : ZpD o x v7i v7l v7c v8) : SemL Try.prog w0 fp ρi 0 73 [ZrC, ZmV] (ZBP v7i v7l v7c v8 o) (ZeC o x) (ZeG w0 fp ρi Kf o x) :=
  Zae ZgB (ZCH o x v7i v7l v7c v8 _ (ZET o x hK v7i v7l v7c v8 h))
def ZpC (o : OpV) (x : List Int) (v7i v7l v7c : Nat) (v8 : Int) : Prop := ZpD o x v7i v7l v7c v8
theorem ZER (o : OpV) (x : List Int) (hK : (ZjF Kf o x)) (v7i v7l v7c : Nat) (v8 : Int) (h : ZpC o x v7i v7l v7c v8) : SemL Try.prog w0 fp ρi 0 73 [ZdK, (.seq Zc2 (.seq ZcS .ret))] (ZBP v7i v7l v7c v8 o) (ZeC o x) (fnK ZjH 0 Kf) :=
  Zb4 (Zag (ZES o x hK v7i v7l v7c v8 h))
theorem ZCG (o : OpV) (x : List Int) (v7i v7l v7c : Nat) (v8 : Int) (Z : Env -> Heap -> Prop) (h : Z (ZBP v7i v7l v7c v8 o) (ZeC o x)) : EvC Zn0 ZeL (ZGk v7i v7l v7c v8 o) (ZeC o x) [2, 3, 4, 7, 8, 9, 43] [0, 1, 2] Z := EvC.of (by kernel_rfl) h
def ZpB (o : OpV) (x : List Int) (v7i v7l v7c : Nat) (v8 : Int) : Prop := ZpC o x v7i v7l v7c v8
theorem ZEQ (o : OpV) (x : List Int) (hK : (ZjF Kf o x)) (v7i v7l v7c : Nat) (v8 : Int) (h : ZpB o x v7i v7l v7c v8) : SemL Try.prog w0 fp ρi 0 73 [ZeL, ZdK, (.seq Zc2 (.seq ZcS .ret))] (ZGk v7i v7l v7c v8 o) (ZeC o x) (fnK ZjH 0 Kf) :=
  Zae ZgB (ZCG o x v7i v7l v7c v8 _ (ZER o x hK v7i v7l v7c v8 h))
abbrev ZPL (x0 x1 x2 : Nat) (x3 : Int) : Env := [(2, some (.ptr ⟨0, 0, 0, 1⟩ 5)), (3, some (.ptr ⟨1, 0, 0, 1⟩ 32)), (4, some (.ptr ⟨2, 0, 0, 1⟩ 32)), (7, some (.slice ⟨1, 0, x0, 1⟩ x1 x2)), (8, some (.int .u64 x3))]
theorem ZCF (o : OpV) (x : List Int) (v7i v7l v7c : Nat) (v8 : Int) (Z : Env -> Heap -> Prop) (h : Z (ZGk v7i v7l v7c v8 o) (ZeC o x)) : EvC Zn0 Zfn (ZPL v7i v7l v7c v8) (ZeC o x) [2, 3, 4, 7, 8, 9] [0, 1, 2] Z := EvC.of (by kernel_rfl) h
def ZpA (o : OpV) (x : List Int) (v7i v7l v7c : Nat) (v8 : Int) : Prop := ZpB o x v7i v7l v7c v8
theorem ZEP (o : OpV) (x : List Int) (hK : (ZjF Kf o x)) (v7i v7l v7c : Nat) (v8 : Int) (h : ZpA o x v7i v7l v7c v8) : SemL Try.prog w0 fp ρi 0 73 [Zfn, (.seq (.seq ZeL ZdK) (.seq Zc2 (.seq ZcS .ret)))] (ZPL v7i v7l v7c v8) (ZeC o x) (fnK ZjH 0 Kf) :=
  Zae ZgB (ZCF o x v7i v7l v7c v8 _ (Zag (Zag (ZEQ o x hK v7i v7l v7c v8 h))))
abbrev ZPK (x0 x1 x2 : Nat) : Env := [(2, some (.ptr ⟨0, 0, 0, 1⟩ 5)), (3, some (.ptr ⟨1, 0, 0, 1⟩ 32)), (4, some (.ptr ⟨2, 0, 0, 1⟩ 32)), (7, some (.slice ⟨1, 0, x0, 1⟩ x1 x2))]
theorem ZCE (o : OpV) (x : List Int) (v7i v7l v7c : Nat) (Z : Env -> Heap -> Prop) (h : (((v7i + v7l) <= 32)) /\ ((v7l = v7l)) /\ ((List.length (List.take v7l (List.drop v7i x)) = v7l /\ v7l <= v7c /\ v7l <= 1000000000 /\ Byt (List.take v7l (List.drop v7i x)))) /\ Z [(2, some (.ptr ⟨0, 0, 0, 1⟩ 5)), (3, some (.ptr ⟨1, 0, 0, 1⟩ 32)), (4, some (.ptr ⟨2, 0, 0, 1⟩ 32)), (7, some (.slice ⟨1, 0, v7i, 1⟩ v7l v7c)), (8, some (.int .u64 (Zco (List.take 8 (List.take v7l (List.drop v7i x))))))] (ZeC o x)) : EvC Zn0 Zf3 (ZPK v7i v7l v7c) (ZeC o x) [2, 3, 4, 7, 8] [0, 1, 2] Z := EvC.of (by kernel_rfl) h
def Zpz (o : OpV) (x : List Int) (v7i v7l v7c : Nat) : Prop := (((v7i + v7l) <= 32)) /\ (((List.length (List.take v7l (List.drop v7i x)) = v7l /\ v7l <= v7c /\ v7l <= 1000000000 /\ Byt (List.take v7l (List.drop v7i x)))) /\ (∀ v8 : Int, v8 = (Zco (List.take 8 (List.take v7l (List.drop v7i x)))) -> ZpA o x v7i v7l v7c v8))
theorem ZEO (o : OpV) (x : List Int) (hK : (ZjF Kf o x)) (v7i v7l v7c : Nat) (h : Zpz o x v7i v7l v7c) : SemL Try.prog w0 fp ρi 0 73 [Zf3, (.seq Zfn (.seq (.seq ZeL ZdK) (.seq Zc2 (.seq ZcS .ret))))] (ZPK v7i v7l v7c) (ZeC o x) (fnK ZjH 0 Kf) :=
  Zae ZgB (ZCE o x v7i v7l v7c _ ⟨h.1, ⟨rfl, ⟨h.2.1, (Zag (ZEP o x hK v7i v7l v7c (Zco (List.take 8 (List.take v7l (List.drop v7i x)))) (h.2.2 (Zco (List.take 8 (List.take v7l (List.drop v7i x)))) rfl)))⟩⟩⟩)
abbrev ZPJ (x0 : Int) : Env := [(2, some (.ptr ⟨0, 0, 0, 1⟩ 5)), (3, some (.ptr ⟨1, 0, 0, 1⟩ 32)), (4, some (.ptr ⟨2, 0, 0, 1⟩ 32)), (6, some (.int .i64 x0))]
theorem ZCD (o : OpV) (x : List Int) (v6 : Int) (Z : Env -> Heap -> Prop) (h : ((0 <= (IntKind.i64.wrap (v6 + o.on)))) /\ (((IntKind.i64.wrap (v6 + o.on)) <= 32)) /\ ((0 <= v6)) /\ ((v6 <= (((Int.toNat (IntKind.i64.wrap (v6 + o.on))) : Nat) : Int))) /\ Z [(2, some (.ptr ⟨0, 0, 0, 1⟩ 5)), (3, some (.ptr ⟨1, 0, 0, 1⟩ 32)), (4, some (.ptr ⟨2, 0, 0, 1⟩ 32)), (7, some (.slice ⟨1, 0, (0 + (if 32 = (Int.toNat v6) then 0 else (Int.toNat v6))), 1⟩ ((Int.toNat (IntKind.i64.wrap (v6 + o.on))) - (Int.toNat v6)) (32 - (Int.toNat v6))))] (ZeC o x)) : EvC Zn0 ZgG (ZPJ v6) (ZeC o x) [2, 3, 4, 7] [0, 1, 2] Z := EvC.of (by kernel_rfl) h
def Zpy (o : OpV) (x : List Int) (v6 : Int) : Prop := ((0 <= (IntKind.i64.wrap (v6 + o.on)))) /\ ((((IntKind.i64.wrap (v6 + o.on)) <= 32)) /\ (((0 <= v6)) /\ (((v6 <= (((Int.toNat (IntKind.i64.wrap (v6 + o.on))) : Nat) : Int))) /\ (∀ v7i : Nat, v7i = (0 + (if 32 = (Int.toNat v6) then 0 else (Int.toNat v6))) -> ∀ v7l : Nat, v7l = ((Int.toNat (IntKind.i64.wrap (v6 + o.on))) - (Int.toNat v6)) -> ∀ v7c : Nat, v7c = (32 - (Int.toNat v6)) -> Zpz o x v7i v7l v7c))))
theorem ZEN (o : OpV) (x : List Int) (hK : (ZjF Kf o x)) (v6 : Int) (h : Zpy o x v6) : SemL Try.prog w0 fp ρi 0 73 [ZgG, (.seq Zf3 (.seq Zfn (.seq (.seq ZeL ZdK) (.seq Zc2 (.seq ZcS .ret)))))] (ZPJ v6) (ZeC o x) (fnK ZjH 0 Kf) :=
  Zae ZgB (ZCD o x v6 _ ⟨h.1, ⟨h.2.1, ⟨h.2.2.1, ⟨h.2.2.2.1, (Zag (ZEO o x hK (0 + (if 32 = (Int.toNat v6) then 0 else (Int.toNat v6))) ((Int.toNat (IntKind.i64.wrap (v6 + o.on))) - (Int.toNat v6)) (32 - (Int.toNat v6)) (((h.2.2.2.2 (0 + (if 32 = (Int.toNat v6) then 0 else (Int.toNat v6))) rfl) ((Int.toNat (IntKind.i64.wrap (v6 + o.on))) - (Int.toNat v6)) rfl) (32 - (Int.toNat v6)) rfl)))⟩⟩⟩⟩)
abbrev ZMX : Env := [(2, some (.ptr ⟨0, 0, 0, 1⟩ 5)), (3, some (.ptr ⟨1, 0, 0, 1⟩ 32)), (4, some (.ptr ⟨2, 0, 0, 1⟩ 32))]
theorem ZCC (o : OpV) (x : List Int) (Z : Env -> Heap -> Prop) (h : Z [(2, some (.ptr ⟨0, 0, 0, 1⟩ 5)), (3, some (.ptr ⟨1, 0, 0, 1⟩ 32)), (4, some (.ptr ⟨2, 0, 0, 1⟩ 32)), (6, some (.int .i64 (if (IntKind.i64.wrap (32 - o.on)) < (Zlb .i64 o.oat 31) then (IntKind.i64.wrap (32 - o.on)) else (Zlb .i64 o.oat 31))))] (ZeC o x)) : EvC Zn0 Zhz ZMX (ZeC o x) [2, 3, 4, 6] [0, 1, 2] Z := EvC.of (by kernel_rfl) h
def Zpx (o : OpV) (x : List Int) : Prop := ∀ v6 : Int, v6 = (if (IntKind.i64.wrap (32 - o.on)) < (Zlb .i64 o.oat 31) then (IntKind.i64.wrap (32 - o.on)) else (Zlb .i64 o.oat 31)) -> Zpy o x v6
theorem ZEM (o : OpV) (x : List Int) (hK : (ZjF Kf o x)) (h : Zpx o x) : SemL Try.prog w0 fp ρi 0 73 [Zhz, (.seq ZgG (.seq Zf3 (.seq Zfn (.seq (.seq ZeL ZdK) (.seq Zc2 (.seq ZcS .ret))))))] ZMX (ZeC o x) (fnK ZjH 0 Kf) :=
  Zae ZgB (ZCC o x _ (Zag (ZEN o x hK (if (IntKind.i64.wrap (32 - o.on)) < (Zlb .i64 o.oat 31) then (IntKind.i64.wrap (32 - o.on)) else (Zlb .i64 o.oat 31)) (h (if (IntKind.i64.wrap (32 - o.on)) < (Zlb .i64 o.oat 31) then (IntKind.i64.wrap (32 - o.on)) else (Zlb .i64 o.oat 31)) rfl))))
def Zpw (o : OpV) (x : List Int) : Prop := (((!(sizeB o.on)) || ((!(chgB o.okind)) && (o.okind != 1))) = true -> (Zv1 o x)) /\ (((!(sizeB o.on)) || ((!(chgB o.okind)) && (o.okind != 1))) = false -> (Zpx o x))
theorem ZEL (o : OpV) (x : List Int) (hK : (ZjF Kf o x)) (h : Zpw o x) : SemL Try.prog w0 fp ρi 0 73 [ZmU, (.seq Zhz (.seq ZgG (.seq Zf3 (.seq Zfn (.seq (.seq ZeL ZdK) (.seq Zc2 (.seq ZcS .ret)))))))] [(2, some (.ptr ⟨0, 0, 0, 1⟩ 5)), (3, some (.ptr ⟨1, 0, 0, 1⟩ 32)), (4, some (.ptr ⟨2, 0, 0, 1⟩ 32)), (23, some (.bool ((!(sizeB o.on)) || ((!(chgB o.okind)) && (o.okind != 1)))))] (ZeC o x) (fnK ZjH 0 Kf) :=
  Zbf (q := ((!(sizeB o.on)) || ((!(chgB o.okind)) && (o.okind != 1)))) (by kernel_rfl) (fun hq => (Zag (lpk [3, 4] [1, 2] (ZLb o x hK (h.1 hq))))) (fun hq => (Zbu (lpk [2, 3, 4] [0, 1, 2] (Zag (ZEM o x hK (h.2 hq))))))
theorem ZCB (o : OpV) (x : List Int) (Z : Env -> Heap -> Prop) (h : (True) /\ ∃ qq : Bool, ((!(sizeB o.on)) = false -> (True) /\ ∃ qq'1 : Bool, ((!(chgB o.okind)) = true -> (ZaK (ZeC o x) (ZeC o x) [(0, some ⟨true, (OpV.cs o), 0⟩), (1, some ⟨true, [.ints .u8 32 x], 0⟩), (2, some ⟨true, [.ints .u8 32 (List.replicate 32 0)], 0⟩)]) /\ (o.okind != 1) = qq'1) /\ ((!(chgB o.okind)) = false -> false = qq'1) /\ (ZaK (ZeC o x) (ZeC o x) [(0, some ⟨true, (OpV.cs o), 0⟩), (1, some ⟨true, [.ints .u8 32 x], 0⟩), (2, some ⟨true, [.ints .u8 32 (List.replicate 32 0)], 0⟩)]) /\ qq'1 = qq) /\ ((!(sizeB o.on)) = true -> true = qq) /\ Z [(2, some (.ptr ⟨0, 0, 0, 1⟩ 5)), (3, some (.ptr ⟨1, 0, 0, 1⟩ 32)), (4, some (.ptr ⟨2, 0, 0, 1⟩ 32)), (23, some (.bool qq))] (ZeC o x)) : EvC Zn0 Zm4 ZMX (ZeC o x) [2, 3, 4, 23] [0, 1, 2] Z := EvC.of (by kernel_rfl) h
def Zpv (o : OpV) (x : List Int) : Prop := Zpw o x
theorem ZEK (o : OpV) (x : List Int) (hK : (ZjF Kf o x)) (h : Zpv o x) : SemL Try.prog w0 fp ρi 0 73 [Zm4, ZmU, (.seq Zhz (.seq ZgG (.seq Zf3 (.seq Zfn (.seq (.seq ZeL ZdK) (.seq Zc2 (.seq ZcS .ret)))))))] ZMX (ZeC o x) (fnK ZjH 0 Kf) :=
  Zae ZgB (ZCB o x _ ⟨True.intro, ⟨((!(sizeB o.on)) || ((!(chgB o.okind)) && (o.okind != 1))), fun hc_qq => ⟨True.intro, ⟨((!(chgB o.okind)) && (o.okind != 1)), fun hc_qq_1 => ⟨(ZaT _), (qa1 hc_qq_1)⟩, fun hc_qq_1 => qa2 hc_qq_1, ⟨(ZaT _), (qo1 hc_qq)⟩⟩⟩, fun hc_qq => qo2 hc_qq, (ZEL o x hK h)⟩⟩)
abbrev ZOs (x0 : OpV) (x1 : List Int) : Env := [(0, some (.agg (OpV.cs x0))), (1, some (.agg [.ints .u8 32 x1]))]
theorem ZCA (o : OpV) (x : List Int) (Z : Env -> Heap -> Prop) (h : Z ZMX (ZeC o x)) : EvC Zn0 ZrE (ZOs o x) Ye0 [2, 3, 4] [0, 1, 2] Z := EvC.of (by kernel_rfl) h
def Zpu (o : OpV) (x : List Int) : Prop := Zpv o x
theorem ZEJ (o : OpV) (x : List Int) (hK : (ZjF Kf o x)) (h : Zpu o x) : SemL Try.prog w0 fp ρi 0 73 [ZrE, (.seq (.seq Zm4 ZmU) (.seq Zhz (.seq ZgG (.seq Zf3 (.seq Zfn (.seq (.seq ZeL ZdK) (.seq Zc2 (.seq ZcS .ret))))))))] (ZOs o x) Ye0 (fnK ZjH 0 Kf) :=
  Zae ZgB (ZCA o x _ (Zag (Zag (ZEK o x hK h))))
def ZB7 (o : OpV) (x : List Int) : Prop := Zpu o x
theorem ZQl (o : OpV) (x : List Int) (hK : (ZjF Kf o x)) (h : ZB7 o x) : SemL Try.prog w0 fp ρi 0 73 [ZOS] (ZOs o x) Ye0 (fnK ZjH 0 Kf) :=
  (Zag (ZEJ o x hK h))
end
theorem ZNU (o : OpV) (x : List Int) (hpre : (OpV.Wf o /\ Ziv x)) : ZB7 o x := by
  unfold ZB7 Zpu Zpv Zpw Zpx Zpy Zpz ZpA ZpB ZpC ZpD ZpE ZpF ZpG ZvT ZvU ZvV ZvW ZvX Zn1 ZvY ZvZ Zv0 Zv1
  obtain ⟨⟨w1, w2, w3, w4, w5⟩, hx, hb⟩ := hpre
  have hg : (!sizeB o.on || !chgB o.okind && o.okind != 1) = !o.good := by
    unfold OpV.good
    rw [show (o.okind != 1) = !(o.okind == 1) from rfl]
    cases sizeB o.on <;> cases chgB o.okind <;> cases (o.okind == 1) <;> rfl
  rw [hg]
  refine ⟨fun h => OpV.next_bad (ZfR h), fun h => ?_⟩
  have h := Zfw h
  obtain ⟨hs, hk⟩ := OpV.good_true h
  obtain ⟨n1, n2⟩ := OpV.next_good (xs := x) h
  have hd := ZqT (at_ := o.oat) hs
  have hp : o.place = ZGx o.oat o.on := rfl
  rw [<- hp] at hd
  rw [n1, n2]
  have m64 := OpV.min64 hs
  intro v6 hv6
  rw [ZqM, Zhl] at hv6
  have e6 : v6 = (o.place : Int) := by split at hv6 <;> omega
  subst e6
  have e7 : IntKind.i64.wrap ((o.place : Int) + o.on) = o.place + o.on := by rw [Zhl]; omega
  rw [e7]
  refine ⟨by omega, by omega, by omega, by omega, ?_⟩
  intro i hi l hl c hc
  have ei : i = o.place := by split at hi <;> omega
  have el : l = o.on.toNat := by omega
  subst ei
  subst el
  have hlen : (List.take o.on.toNat (List.drop o.place x)).length = o.on.toNat := by rw [List.length_take, List.length_drop]; omega
  have hbx : Byt x := hb
  refine ⟨by omega, ⟨hlen, by omega, by omega, (hbx.drop _).take _⟩, ?_⟩
  intro v8 hv8
  have e8 : v8 = o.numAt o.place x := by rw [hv8, List.take_take, show min 8 o.on.toNat = o.on.toNat by omega]; rfl
  have hr := OpV.numAt_range (k := o.place) hs hbx
  rw [<- e8] at hr
  have hl0 : ∀ v, (List.take (min (0 + (min o.on 64).toNat) o.on.toNat) (List.take (0 + (min o.on 64).toNat) (Zdv v (min o.on 64).toNat))).length = min (0 + (min o.on 64).toNat) o.on.toNat := fun v => by
    rw [List.length_take, List.length_take, ZbN]; omega
  simp only [beq_iff_eq, beq_eq_false_iff_ne, bne_iff_ne, bne_eq_false_iff_eq, ne_eq]
  refine ⟨fun k1 => ⟨(OpV.nextAt_none (OpV.put_load k1)).symm, e8⟩, fun k1 => ⟨fun k3 => ?_, fun k3 => ⟨fun k4 => ?_, fun k4 => ?_⟩⟩⟩
  · rw [Zyc hs w5.1 w5.2, e8]
    have hps := OpV.put_swap (k := o.place) (xs := x) k3
    refine ⟨fun hne => ⟨?_, rfl⟩, fun heq => ⟨⟨rfl, by omega, w4.1, w4.2⟩, fun c hc => ⟨by omega, by omega, hx, hl0 _, fun h1 hh1 => ⟨?_, rfl⟩⟩⟩⟩
    · rw [if_neg hne] at hps
      exact (OpV.nextAt_none hps).symm
    · rw [if_pos heq] at hps
      rw [hh1, OpV.laid_eq hs, OpV.nextAt_some hps]
  · intro v9 hv9
    refine ⟨⟨rfl, by omega, by omega, by omega⟩, fun c hc => ⟨by omega, by omega, hx, hl0 _, fun h1 hh1 => ⟨?_, e8⟩⟩⟩
    rw [hh1, OpV.laid_eq hs, OpV.nextAt_some (OpV.put_add k4), hv9, e8]
  · refine ⟨⟨rfl, by omega, w4.1, w4.2⟩, fun c hc => ⟨by omega, by omega, hx, hl0 _, fun h1 hh1 => ⟨?_, e8⟩⟩⟩
    rw [hh1, OpV.laid_eq hs, OpV.nextAt_some (OpV.put_else k1 k3 k4)]
theorem ZQo : Sound Try.prog 60 (Zed ZOF) := by
  refine Zbx Zyy ?_
  intro args H K h
  obtain ⟨pre, v, hP, hpre, rfl, hK⟩ := ZbH h
  unfold ZOF at hP
  split at hP
  · obtain ⟨hb, hP⟩ := ZaP hP
    have h0 := hb
    obtain rfl := Nat.eq_of_beq_eq_true h0
    cases hP
    exact ⟨rfl, fun w0 fp ρi => ZQl (OpV.mk _ _ _ _ _) _ hK (ZNU (OpV.mk _ _ _ _ _) _ hpre)⟩
  · cases hP
end Go.Proofs.Ytinjdimejijabaa
