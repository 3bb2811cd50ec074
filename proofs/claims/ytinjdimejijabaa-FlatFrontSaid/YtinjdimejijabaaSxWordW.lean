/- Two parts of the proof. -/
import Derived.Test.YtinjdimejijabaaSxT4
import Derived.Test.YtinjdimejijabaaSxBit
import Derived.Test.YtinjdimejijabaaSxV1
import Derived.Test.YtinjdimejijabaaSxG
import Derived.Test.YtinjdimejijabaaSxPut
import Derived.Test.YtinjdimejijabaaSxOpX
import Derived.KernelRfl
set_option linter.unusedVariables false
set_option linter.unusedSimpArgs false
namespace Go.Proofs.Ytinjdimejijabaa
open Go.Sx
def ZBe (m : Nat) (at_ n : Int) : Prop := 0 <= at_ /\ 0 <= n /\ n <= 64 /\ n <= 8 * m /\ at_ <= 8 * m - n
instance (m at_ n) : Decidable (ZBe m at_ n) := by unfold ZBe; exact inferInstance
end Go.Proofs.Ytinjdimejijabaa

namespace Go.Proofs.Ytinjdimejijabaa
open Go.Sx
end Go.Proofs.Ytinjdimejijabaa

namespace Go.Proofs.Ytinjdimejijabaa
open Go.Sx
def ZkS : Zpg := fun ds => match ds with
  | [.sl false .u8 b_n b_c b, .pl (.int .u64 v), .pl (.int .i64 n)] => some ((List.length b = b_n /\ b_n <= 1000000 /\ 0 <= v /\ v < 2 ^ 64), [.sl .u8 (b_n + Int.toNat (min n 64)) (b ++ (ZhL v (Int.toNat (min n 64))))], [])
  | _ => none
def Zo9 : Con := ⟨78, dC ZkS, [], [.ints .u8 0 []], []⟩
theorem sbNumber : Sound Try.prog 78 (dS ZkS) := s41.mono fun args H K h => by
  obtain ⟨ds, rfl, rfl, h⟩ := h
  split at h
  · rename_i pre rs ws hD
    obtain ⟨hpre, hK⟩ := h
    unfold ZkS at hD
    split at hD
    · cases hD
      exact ⟨false, _, _, _, _, _, rfl, rfl, hpre.1, hpre.2.1, hpre.2.2.1, hpre.2.2.2, fun c h => hK c h⟩
    · cases hD
  · exact h.elim
def Zsv : Zpg := fun ds => match ds with
  | [.sl false .u8 b_n b_c b] => some ((List.length b = b_n /\ b_n <= b_c /\ b_n <= 1000000000 /\ Byt b), [.pl (.int .u64 (ZeT (List.take 8 b)))], [])
  | _ => none
def Zta : Con := ⟨76, dC Zsv, [], [.ints .u8 0 []], []⟩
theorem sbRead : Sound Try.prog 76 (dS Zsv) := s44.mono fun args H K h => by
  obtain ⟨ds, rfl, rfl, h⟩ := h
  split at h
  · rename_i pre rs ws hD
    obtain ⟨hpre, hK⟩ := h
    unfold Zsv at hD
    split at hD
    · cases hD
      exact ⟨false, _, _, _, rfl, rfl, hpre.1, hpre.2.1, hpre.2.2.1, hpre.2.2.2, hK⟩
    · cases hD
  · exact h.elim
end Go.Proofs.Ytinjdimejijabaa

set_option linter.unusedVariables false
set_option linter.unusedSimpArgs false
set_option maxRecDepth 20000
namespace Go.Proofs.Ytinjdimejijabaa
open Go.Sx
def Zso : Zfm := fun args => match args with
  | [.int .i64 n] => some (True, .bool (sizeB n))
  | _ => none
def Zww : PCon := ⟨74, Zso⟩
def Znc : ACode := .reg (.op (some 2) (.mov (.cn (.bool false))) .nil)
def ZjQ : ACode := .reg (.op (some 3) (.mov (.tm 0)) (.op (some 4) (.bin .eql (.tm 3) (.cn (.int .i64 1))) (.op (some 5) (.mov (.tm 4)) (.grpJ 5 false (.op (some 6) (.mov (.tm 0)) (.op (some 7) (.bin .eql (.tm 6) (.cn (.int .i64 2))) .nil)) 8 (.tm 7) (.cn (.bool true)) (.op (some 9) (.mov (.tm 8)) (.grpJ 9 false (.op (some 10) (.mov (.tm 0)) (.op (some 11) (.bin .eql (.tm 10) (.cn (.int .i64 4))) .nil)) 12 (.tm 11) (.cn (.bool true)) (.op (some 13) (.mov (.tm 12)) (.grpJ 13 false (.op (some 14) (.mov (.tm 0)) (.op (some 15) (.bin .eql (.tm 14) (.cn (.int .i64 8))) .nil)) 16 (.tm 15) (.cn (.bool true)) (.op (some 2) (.mov (.tm 16)) .nil)))))))))
def ZtE : ACode := (.seq Znc (.seq ZjQ .ret))
def Zjg : Res := .one (.tm 2)
theorem ZnR : ZbJ Try.prog 74 1 17 ZtE Zjg = true := by kernel_rfl
def Zss : Za7 := Zfk [] []
theorem ZrL : Zbb Try.prog Zss := Zch trivial trivial
section
variable {w0 : World} {fp : Nat -> Nat -> Prop} {ρi : Rho} {Kf : SVal -> Heap -> Prop}
abbrev Yd0 : Heap := ⟨0, []⟩
abbrev Yd1 (x0 : Int) : Env := [(0, some (.int .i64 x0))]
theorem Zxz (n : Int) (Z : Env -> Heap -> Prop) (h : ∃ qq : Bool, ((n == 1) = false -> (ZaN Yd0 Yd0 []) /\ (n == 2) = qq) /\ ((n == 1) = true -> true = qq) /\ ∃ qq'1 : Bool, (qq = false -> (ZaN Yd0 Yd0 []) /\ (n == 4) = qq'1) /\ (qq = true -> true = qq'1) /\ ∃ qq'2 : Bool, (qq'1 = false -> (ZaN Yd0 Yd0 []) /\ (n == 8) = qq'2) /\ (qq'1 = true -> true = qq'2) /\ Z [(2, some (.bool qq'2))] Yd0) : EvC Zss ZjQ (Yd1 n) Yd0 [2] [] Z := EvC.of (by kernel_rfl) h
theorem ZuY (n : Int) : RetC Zjg [(2, some (.bool ((((n == 1) || (n == 2)) || (n == 4)) || (n == 8))))] Yd0 (.bool ((((n == 1) || (n == 2)) || (n == 4)) || (n == 8))) := RetC.of (fun Z => by kernel_rfl)
def ZpB (n : Int) : Prop := ((((n == 1) || (n == 2)) || (n == 4)) || (n == 8)) = (sizeB n)
theorem Zzd (n : Int) (hK : Kf (.bool (sizeB n)) ⟨0, []⟩) (h : ZpB n) : SemL Try.prog w0 fp ρi 0 17 [ZjQ, .ret] (Yd1 n) Yd0 (fnK Zjg 0 Kf) :=
  Zas ZrL (Zxz n _ ⟨((n == 1) || (n == 2)), fun hc_qq => ⟨(Za3 _), (qo1 hc_qq)⟩, fun hc_qq => qo2 hc_qq, ⟨(((n == 1) || (n == 2)) || (n == 4)), fun hc_qq_1 => ⟨(Za3 _), (qo1 hc_qq_1)⟩, fun hc_qq_1 => qo2 hc_qq_1, ⟨((((n == 1) || (n == 2)) || (n == 4)) || (n == 8)), fun hc_qq_2 => ⟨(Za3 _), (qo1 hc_qq_2)⟩, fun hc_qq_2 => qo2 hc_qq_2, (Zbz (R := Zjg) (m := 0) (Kf := Kf) (fun _ _ h => h) (ZuY n) (Zbd rfl (by kernel_rfl) (cg1 (fun (z1 : Bool) => (.bool z1 : SVal)) h) hK))⟩⟩⟩)
theorem Zxy (n : Int) (Z : Env -> Heap -> Prop) (h : Z (Yd1 n) Yd0) : EvC Zss Znc (Yd1 n) Yd0 [0] [] Z := EvC.of (by kernel_rfl) h
def ZpA (n : Int) : Prop := ZpB n
theorem Zzc (n : Int) (hK : Kf (.bool (sizeB n)) ⟨0, []⟩) (h : ZpA n) : SemL Try.prog w0 fp ρi 0 17 [Znc, (.seq ZjQ .ret)] (Yd1 n) Yd0 (fnK Zjg 0 Kf) :=
  Zas ZrL (Zxy n _ (Zau (Zzd n hK h)))
def ZmJ (n : Int) : Prop := ZpA n
theorem Zw8 (n : Int) (hK : Kf (.bool (sizeB n)) ⟨0, []⟩) (h : ZmJ n) : SemL Try.prog w0 fp ρi 0 17 [ZtE] (Yd1 n) Yd0 (fnK Zjg 0 Kf) :=
  (Zau (Zzc n hK h))
end
theorem ZwA (n : Int) (hpre : True) : ZmJ n := by
  unfold ZmJ ZpA ZpB
  rfl
theorem Zxe : Sound Try.prog 74 (ZeB Zso) := by
  refine ZbP ZnR ?_
  intro args H K h
  obtain ⟨pre, v, hP, hpre, rfl, hK⟩ := ZbW h
  unfold Zso at hP
  split at hP
  · cases hP
    exact ⟨rfl, fun w0 fp ρi => Zw8 _ hK (ZwA _ hpre)⟩
  · cases hP
def ZiL : Zfm := fun args => match args with
  | [.agg [.one (.int .i64 o_0), .one (.int .i64 o_1), .one (.int .i64 o_2), .one (.int .u64 o_3), .one (.int .u64 o_4)]] => some (True, .bool (chgB o_0))
  | _ => none
def ZoX : PCon := ⟨75, ZiL⟩
def Znb : ACode := .reg (.op (some 1) (.box (.tm 0)) (.op (some 2) (.mov (.cn (.bool false))) .nil))
def ZjP : ACode := .reg (.op (some 3) (.fieldAddr (.tm 1) 0 1) (.op (some 4) (.load1 (.tm 3)) (.op (some 5) (.bin .eql (.tm 4) (.cn (.int .i64 2))) (.op (some 6) (.mov (.tm 5)) (.grpJ 6 false (.op (some 7) (.fieldAddr (.tm 1) 0 1) (.op (some 8) (.load1 (.tm 7)) (.op (some 9) (.bin .eql (.tm 8) (.cn (.int .i64 3))) .nil))) 10 (.tm 9) (.cn (.bool true)) (.op (some 11) (.mov (.tm 10)) (.grpJ 11 false (.op (some 12) (.fieldAddr (.tm 1) 0 1) (.op (some 13) (.load1 (.tm 12)) (.op (some 14) (.bin .eql (.tm 13) (.cn (.int .i64 4))) .nil))) 15 (.tm 14) (.cn (.bool true)) (.op (some 2) (.mov (.tm 15)) .nil))))))))
def Zlo : ACode := (.seq Znb (.seq ZjP .ret))
def ZeM : Res := .one (.tm 2)
theorem ZiS : ZbJ Try.prog 75 1 16 Zlo ZeM = true := by kernel_rfl
def ZiN : Za7 := Zfk [] []
theorem Zi4 : Zbb Try.prog ZiN := Zch trivial trivial
section
variable {w0 : World} {fp : Nat -> Nat -> Prop} {ρi : Rho} {Kf : SVal -> Heap -> Prop}
abbrev Yd2 (x0 : OpV) : Heap := ⟨1, [(0, some ⟨true, (OpV.cs x0), 0⟩)]⟩
abbrev Yd3 : Env := [(1, some (.ptr ⟨0, 0, 0, 1⟩ 5))]
theorem Zxx (o : OpV) (Z : Env -> Heap -> Prop) (h : ∃ qq : Bool, ((o.okind == 2) = false -> (ZaN (Yd2 o) (Yd2 o) [(0, some ⟨true, (OpV.cs o), 0⟩)]) /\ (o.okind == 3) = qq) /\ ((o.okind == 2) = true -> true = qq) /\ ∃ qq'1 : Bool, (qq = false -> (ZaN (Yd2 o) (Yd2 o) [(0, some ⟨true, (OpV.cs o), 0⟩)]) /\ (o.okind == 4) = qq'1) /\ (qq = true -> true = qq'1) /\ Z [(2, some (.bool qq'1))] ⟨1, []⟩) : EvC ZiN ZjP Yd3 (Yd2 o) [2] [] Z := EvC.of (by kernel_rfl) h
theorem ZuX (o : OpV) : RetC ZeM [(2, some (.bool (((o.okind == 2) || (o.okind == 3)) || (o.okind == 4))))] ⟨1, []⟩ (.bool (((o.okind == 2) || (o.okind == 3)) || (o.okind == 4))) := RetC.of (fun Z => by kernel_rfl)
def Zpz (o : OpV) : Prop := (((o.okind == 2) || (o.okind == 3)) || (o.okind == 4)) = (chgB o.okind)
theorem Zzb (o : OpV) (hK : Kf (.bool (chgB o.okind)) ⟨0, []⟩) (h : Zpz o) : SemL Try.prog w0 fp ρi 0 16 [ZjP, .ret] Yd3 (Yd2 o) (fnK ZeM 0 Kf) :=
  Zas Zi4 (Zxx o _ ⟨((o.okind == 2) || (o.okind == 3)), fun hc_qq => ⟨(Za3 _), (qo1 hc_qq)⟩, fun hc_qq => qo2 hc_qq, ⟨(((o.okind == 2) || (o.okind == 3)) || (o.okind == 4)), fun hc_qq_1 => ⟨(Za3 _), (qo1 hc_qq_1)⟩, fun hc_qq_1 => qo2 hc_qq_1, (Zbz (R := ZeM) (m := 0) (Kf := Kf) (fun _ _ h => h) (ZuX o) (Zbd rfl (by kernel_rfl) (cg1 (fun (z1 : Bool) => (.bool z1 : SVal)) h) hK))⟩⟩)
theorem Zxw (o : OpV) (Z : Env -> Heap -> Prop) (h : Z Yd3 (Yd2 o)) : EvC ZiN Znb [(0, some (.agg (OpV.cs o)))] Yd0 [1] [0] Z := EvC.of (by kernel_rfl) h
def Zpy (o : OpV) : Prop := Zpz o
theorem Zza (o : OpV) (hK : Kf (.bool (chgB o.okind)) ⟨0, []⟩) (h : Zpy o) : SemL Try.prog w0 fp ρi 0 16 [Znb, (.seq ZjP .ret)] [(0, some (.agg (OpV.cs o)))] Yd0 (fnK ZeM 0 Kf) :=
  Zas Zi4 (Zxw o _ (Zau (Zzb o hK h)))
def Zg9 (o : OpV) : Prop := Zpy o
theorem Zpj (o : OpV) (hK : Kf (.bool (chgB o.okind)) ⟨0, []⟩) (h : Zg9 o) : SemL Try.prog w0 fp ρi 0 16 [Zlo] [(0, some (.agg (OpV.cs o)))] Yd0 (fnK ZeM 0 Kf) :=
  (Zau (Zza o hK h))
end
theorem ZoZ (o : OpV) (hpre : True) : Zg9 o := by
  unfold Zg9 Zpy Zpz
  unfold chgB
  rw [Bool.eq_iff_iff]
  simp only [decide_eq_true_eq, Bool.or_eq_true, beq_iff_eq]
  omega
theorem Zrg : Sound Try.prog 75 (ZeB ZiL) := by
  refine ZbP ZiS ?_
  intro args H K h
  obtain ⟨pre, v, hP, hpre, rfl, hK⟩ := ZbW h
  unfold ZiL at hP
  split at hP
  · cases hP
    exact ⟨rfl, fun w0 fp ρi => Zpj (OpV.mk _ _ _ _ _) hK (ZoZ (OpV.mk _ _ _ _ _) hpre)⟩
  · cases hP
def Zsp : Zfm := fun args => match args with
  | [.int .i64 n] => some (True, .int .u64 (ZeW n))
  | _ => none
def Zwx : PCon := ⟨77, Zsp⟩
def Zna : ACode := .reg (.op (some 2) (.mov (.cn (.int .u64 0))) .nil)
def Zm9 : ACode := .reg (.op (some 4) (.mov (.tm 0)) (.op (some 5) (.bin .lss (.tm 4) (.cn (.int .i64 1))) (.op (some 3) (.mov (.tm 5)) .nil)))
def Zm8 : ACode := .reg (.op (some 2) (.mov (.cn (.int .u64 0))) .nil)
def Zm7 : ACode := .reg (.op (some 7) (.mov (.tm 0)) (.op (some 8) (.bin .geq (.tm 7) (.cn (.int .i64 8))) (.op (some 6) (.mov (.tm 8)) .nil)))
def Zm6 : ACode := .reg (.op (some 2) (.mov (.cn (.int .u64 18446744073709551615))) .nil)
def Zm5 : ACode := .cond (.tm 6) (.seq Zm6 .ret) .skip
def Zm4 : ACode := .cond (.tm 3) (.seq Zm8 .ret) (.seq Zm7 Zm5)
def Zm3 : ACode := .block 0 (.seq Zm9 Zm4)
def Zhn : ACode := .reg (.op (some 9) (.mov (.tm 0)) (.op (some 10) (.bin .mul (.cn (.int .i64 8)) (.tm 9)) (.op (some 11) (.bin .shl (.cn (.int .u64 1)) (.tm 10)) (.op (some 12) (.bin .sub (.tm 11) (.cn (.int .u64 1))) (.op (some 2) (.mov (.tm 12)) .nil)))))
def ZtF : ACode := (.seq Zna (.seq Zm3 (.seq Zhn .ret)))
def ZeL : Res := .one (.tm 2)
theorem ZnS : ZbJ Try.prog 77 1 13 ZtF ZeL = true := by kernel_rfl
def ZiM : Za7 := Zfk [] []
theorem Zhk : Zbb Try.prog ZiM := Zch trivial trivial
section
variable {w0 : World} {fp : Nat -> Nat -> Prop} {ρi : Rho} {Kf : SVal -> Heap -> Prop}
def Zhg (w0 : World) (fp : Nat -> Nat -> Prop) (ρi : Rho) (Kf : SVal -> Heap -> Prop) (n : Int) : Zgh := Zep 0 (fun e H => SemL Try.prog w0 fp ρi 0 13 [(.seq Zhn .ret)] e H (fnK ZeL 0 Kf)) (fnK ZeL 0 Kf)
theorem Zxv (n : Int) (Z : Env -> Heap -> Prop) (h : Z [(2, some (.int .u64 0))] Yd0) : EvC ZiM Zm8 [] Yd0 [2] [] Z := EvC.of (by kernel_rfl) h
theorem ZuW (n : Int) : RetC ZeL [(2, some (.int .u64 0))] Yd0 (.int .u64 0) := RetC.of (fun Z => by kernel_rfl)
def Zpx (n : Int) : Prop := 0 = (ZeW n)
abbrev Yd4 (x0 : SVal -> Heap -> Prop) (x1 : Int) : Prop := x0 (.int .u64 (ZeW x1)) ⟨0, []⟩
theorem Zy9 (n : Int) (hK : (Yd4 Kf n)) (h : Zpx n) : SemL Try.prog w0 fp ρi 0 13 [Zm8, .ret] [] Yd0 (Zhg w0 fp ρi Kf n) :=
  Zas Zhk (Zxv n _ (Zbz (R := ZeL) (m := 0) (Kf := Kf) (fun _ _ h => h) (ZuW n) (Zbd rfl (by kernel_rfl) (cg1 (fun (z1 : Int) => (.int .u64 z1 : SVal)) h) hK)))
abbrev Yd5 : Env := [(2, some (.int .u64 18446744073709551615))]
theorem Zxu (n : Int) (Z : Env -> Heap -> Prop) (h : Z Yd5 Yd0) : EvC ZiM Zm6 [] Yd0 [2] [] Z := EvC.of (by kernel_rfl) h
theorem ZuV (n : Int) : RetC ZeL Yd5 Yd0 (.int .u64 18446744073709551615) := RetC.of (fun Z => by kernel_rfl)
def Zpw (n : Int) : Prop := 18446744073709551615 = (ZeW n)
theorem Zy8 (n : Int) (hK : (Yd4 Kf n)) (h : Zpw n) : SemL Try.prog w0 fp ρi 0 13 [Zm6, .ret] [] Yd0 (Zhg w0 fp ρi Kf n) :=
  Zas Zhk (Zxu n _ (Zbz (R := ZeL) (m := 0) (Kf := Kf) (fun _ _ h => h) (ZuV n) (Zbd rfl (by kernel_rfl) (cg1 (fun (z1 : Int) => (.int .u64 z1 : SVal)) h) hK)))
abbrev Yd6 (x0 : Int) : Env := [(2, some (.int .u64 (IntKind.u64.wrap ((ZsY .u64 1 (IntKind.i64.wrap (8 * x0))) - 1))))]
theorem Zxt (n : Int) (Z : Env -> Heap -> Prop) (h : ((0 <= (IntKind.i64.wrap (8 * n)))) /\ Z (Yd6 n) Yd0) : EvC ZiM Zhn (Yd1 n) Yd0 [2] [] Z := EvC.of (by kernel_rfl) h
theorem ZuU (n : Int) : RetC ZeL (Yd6 n) Yd0 (.int .u64 (IntKind.u64.wrap ((ZsY .u64 1 (IntKind.i64.wrap (8 * n))) - 1))) := RetC.of (fun Z => by kernel_rfl)
def Zpv (n : Int) : Prop := ((0 <= (IntKind.i64.wrap (8 * n)))) /\ ((IntKind.u64.wrap ((ZsY .u64 1 (IntKind.i64.wrap (8 * n))) - 1)) = (ZeW n))
theorem Zy7 (n : Int) (hK : (Yd4 Kf n)) (h : Zpv n) : SemL Try.prog w0 fp ρi 0 13 [Zhn, .ret] (Yd1 n) Yd0 (fnK ZeL 0 Kf) :=
  Zas Zhk (Zxt n _ ⟨h.1, (Zbz (R := ZeL) (m := 0) (Kf := Kf) (fun _ _ h => h) (ZuU n) (Zbd rfl (by kernel_rfl) (cg1 (fun (z1 : Int) => (.int .u64 z1 : SVal)) h.2) hK))⟩)
def Zpu (n : Int) : Prop := ((decide (8 <= n)) = true -> (Zpw n)) /\ ((decide (8 <= n)) = false -> (Zpv n))
abbrev Yd7 (x0 : Int) : Env := [(0, some (.int .i64 x0)), (6, some (.bool (decide (8 <= x0))))]
theorem Zy6 (n : Int) (hK : (Yd4 Kf n)) (h : Zpu n) : SemL Try.prog w0 fp ρi 0 13 [Zm5] (Yd7 n) Yd0 (Zhg w0 fp ρi Kf n) :=
  ZbD (q := (decide (8 <= n))) (by kernel_rfl) (fun hq => (Zau (lpk [] [] (Zy8 n hK (h.1 hq))))) (fun hq => (Zcd (ZhP (lpk [0] [] (Zau (Zy7 n hK (h.2 hq)))))))
theorem Zxs (n : Int) (Z : Env -> Heap -> Prop) (h : Z (Yd7 n) Yd0) : EvC ZiM Zm7 (Yd1 n) Yd0 [0, 6] [] Z := EvC.of (by kernel_rfl) h
def Zpt (n : Int) : Prop := Zpu n
theorem Zy5 (n : Int) (hK : (Yd4 Kf n)) (h : Zpt n) : SemL Try.prog w0 fp ρi 0 13 [Zm7, Zm5] (Yd1 n) Yd0 (Zhg w0 fp ρi Kf n) :=
  Zas Zhk (Zxs n _ (Zy6 n hK h))
def Zps (n : Int) : Prop := ((decide (n < 1)) = true -> (Zpx n)) /\ ((decide (n < 1)) = false -> (Zpt n))
abbrev Yd8 (x0 : Int) : Env := [(0, some (.int .i64 x0)), (3, some (.bool (decide (x0 < 1))))]
theorem Zy4 (n : Int) (hK : (Yd4 Kf n)) (h : Zps n) : SemL Try.prog w0 fp ρi 0 13 [Zm4] (Yd8 n) Yd0 (Zhg w0 fp ρi Kf n) :=
  ZbD (q := (decide (n < 1))) (by kernel_rfl) (fun hq => (Zau (lpk [] [] (Zy9 n hK (h.1 hq))))) (fun hq => (Zau (lpk [0] [] (Zy5 n hK (h.2 hq)))))
theorem Zxr (n : Int) (Z : Env -> Heap -> Prop) (h : Z (Yd8 n) Yd0) : EvC ZiM Zm9 (Yd1 n) Yd0 [0, 3] [] Z := EvC.of (by kernel_rfl) h
def Zpr (n : Int) : Prop := Zps n
theorem Zy3 (n : Int) (hK : (Yd4 Kf n)) (h : Zpr n) : SemL Try.prog w0 fp ρi 0 13 [Zm9, Zm4] (Yd1 n) Yd0 (Zhg w0 fp ρi Kf n) :=
  Zas Zhk (Zxr n _ (Zy4 n hK h))
def Zpq (n : Int) : Prop := Zpr n
theorem Zy2 (n : Int) (hK : (Yd4 Kf n)) (h : Zpq n) : SemL Try.prog w0 fp ρi 0 13 [Zm3, (.seq Zhn .ret)] (Yd1 n) Yd0 (fnK ZeL 0 Kf) :=
  Zdy (Zau (Zy3 n hK h))
theorem Zxq (n : Int) (Z : Env -> Heap -> Prop) (h : Z (Yd1 n) Yd0) : EvC ZiM Zna (Yd1 n) Yd0 [0] [] Z := EvC.of (by kernel_rfl) h
def Zpp (n : Int) : Prop := Zpq n
theorem Zy1 (n : Int) (hK : (Yd4 Kf n)) (h : Zpp n) : SemL Try.prog w0 fp ρi 0 13 [Zna, (.seq Zm3 (.seq Zhn .ret))] (Yd1 n) Yd0 (fnK ZeL 0 Kf) :=
  Zas Zhk (Zxq n _ (Zau (Zy2 n hK h)))
def ZmK (n : Int) : Prop := Zpp n
theorem Zw9 (n : Int) (hK : (Yd4 Kf n)) (h : ZmK n) : SemL Try.prog w0 fp ρi 0 13 [ZtF] (Yd1 n) Yd0 (fnK ZeL 0 Kf) :=
  (Zau (Zy1 n hK h))
end
theorem ZwB (n : Int) (hpre : True) : ZmK n := by
  unfold ZmK Zpp Zpq Zpr Zps Zpt Zpu Zpv Zpw Zpx
  simp only [decide_eq_true_eq, decide_eq_false_iff_not]
  refine ⟨fun h => (by unfold ZeW; rw [if_pos h]), fun h => ⟨fun h2 => (by unfold ZeW; rw [if_neg h, if_pos h2]), fun h2 => ?_⟩⟩
  obtain ⟨k, rfl⟩ := Int.eq_ofNat_of_zero_le (show 0 <= n by omega)
  have e1 : IntKind.i64.wrap (8 * (k : Int)) = ((8 * k : Nat) : Int) := wrap_i64 (by omega) (by omega)
  have hp : (2 : Int) ^ (8 * k) <= 2 ^ 56 := ZrH 2 rfl (by omega) (by omega)
  have hp0 : (0 : Int) < 2 ^ (8 * k) := Int.pow_pos (by omega)
  have e2 : ZsY .u64 1 ((8 * k : Nat) : Int) = 2 ^ (8 * k) := by
    rw [Zos (by simp only [Int.toNat_natCast]; omega), Int.toNat_natCast, Int.one_mul]; omega
  have hpe : (2 : Int) ^ (8 * k) = 256 ^ k := by rw [Int.pow_mul]; rfl
  rw [e1, e2, ZfN]
  unfold ZeW
  rw [if_neg h, if_neg h2, Int.toNat_natCast, <- hpe]
  omega
theorem Zxf : Sound Try.prog 77 (ZeB Zsp) := by
  refine ZbP ZnS ?_
  intro args H K h
  obtain ⟨pre, v, hP, hpre, rfl, hK⟩ := ZbW h
  unfold Zsp at hP
  split at hP
  · cases hP
    exact ⟨rfl, fun w0 fp ρi => Zw9 _ hK (ZwB _ hpre)⟩
  · cases hP
def ZCj : Zfm := fun args => match args with
  | [.agg [.one (.int .i64 o_0), .one (.int .i64 o_1), .one (.int .i64 o_2), .one (.int .u64 o_3), .one (.int .u64 o_4)], .agg [.ints .u8 x_n x]] => bif Nat.beq x_n 32 then some ((OpV.Wf (OpV.mk o_0 o_1 o_2 o_3 o_4) /\ Zg7 x), .tuple [.agg [.ints .u8 32 (OpV.next (OpV.mk o_0 o_1 o_2 o_3 o_4) x)], .int .u64 (OpV.result (OpV.mk o_0 o_1 o_2 o_3 o_4) x)]) else none
  | _ => none
def ZBR : PCon := ⟨60, ZCj⟩
def ZdD (o : OpV) (x : List Int) (Kf : SVal -> Heap -> Prop) : Prop := Kf (.tuple [.agg [.ints .u8 32 (OpV.next o x)], .int .u64 (OpV.result o x)]) ⟨0, []⟩
def Znv : ACode := .reg (.op (some 2) (.box (.tm 0)) (.op (some 3) (.box (.tm 1)) (.op (some 4) (.alloc [.ints .u8 32 (List.replicate 32 0)]) (.op (some 5) (.mov (.cn (.int .u64 0))) .nil))))
def Zj8 : ACode := .reg (.op (some 10) (.fieldAddr (.tm 2) 2 1) (.op (some 11) (.load1 (.tm 10)) (.op (some 12) (.call 74 [(.tm 11)]) (.op (some 13) (.not (.tm 12)) (.op (some 14) (.mov (.tm 13)) (.grpJ 14 false (.op (some 15) (.loadA 5 (.tm 2)) (.op (some 16) (.call 75 [(.tm 15)]) (.op (some 17) (.not (.tm 16)) (.op (some 18) (.mov (.tm 17)) (.grpJ 18 true (.op (some 19) (.fieldAddr (.tm 2) 0 1) (.op (some 20) (.load1 (.tm 19)) (.op (some 21) (.bin .neq (.tm 20) (.cn (.int .i64 1))) .nil))) 22 (.tm 21) (.cn (.bool false)) .nil))))) 23 (.tm 22) (.cn (.bool true)) .nil))))))
def Znu : ACode := .reg (.op (some 24) (.loadA 32 (.tm 3)) (.op none (.storeA 32 (.tm 4) (.tm 24)) (.op (some 5) (.mov (.cn (.int .u64 0))) .nil)))
def ZjY : ACode := .cond (.tm 23) (.seq Znu .ret) .skip
def Zgp : ACode := .reg (.op (some 25) (.fieldAddr (.tm 2) 1 1) (.op (some 26) (.load1 (.tm 25)) (.op (some 27) (.bin .and (.tm 26) (.cn (.int .i64 31))) (.op (some 28) (.fieldAddr (.tm 2) 2 1) (.op (some 29) (.load1 (.tm 28)) (.op (some 30) (.bin .sub (.cn (.int .i64 32)) (.tm 29)) (.op (some 31) (.min2 (.tm 27) (.tm 30)) (.op (some 6) (.mov (.tm 31)) .nil))))))))
def ZfF : ACode := .reg (.op (some 32) (.mov (.tm 6)) (.op (some 33) (.mov (.tm 6)) (.op (some 34) (.fieldAddr (.tm 2) 2 1) (.op (some 35) (.load1 (.tm 34)) (.op (some 36) (.bin .add (.tm 33) (.tm 35)) (.op (some 37) (.sliceP 32 (.tm 3) (some (.tm 32)) (some (.tm 36)) none) (.op (some 7) (.mov (.tm 37)) .nil)))))))
def Ze5 : ACode := .reg (.op (some 38) (.mov (.tm 7)) (.op (some 39) (.call 76 [(.tm 38)]) (.op (some 8) (.mov (.tm 39)) .nil)))
def Zeu : ACode := .reg (.op (some 40) (.fieldAddr (.tm 2) 3 1) (.op (some 41) (.load1 (.tm 40)) (.op (some 9) (.mov (.tm 41)) .nil)))
def ZdV : ACode := .reg (.op (some 42) (.fieldAddr (.tm 2) 0 1) (.op (some 43) (.load1 (.tm 42)) .nil))
def Znt : ACode := .reg (.op (some 45) (.bin .eql (.tm 43) (.cn (.int .i64 1))) (.op (some 44) (.mov (.tm 45)) .nil))
def Zj7 : ACode := .reg (.op (some 46) (.loadA 32 (.tm 3)) (.op (some 47) (.mov (.tm 8)) (.op none (.storeA 32 (.tm 4) (.tm 46)) (.op (some 5) (.mov (.tm 47)) .nil))))
def Zj6 : ACode := .reg (.op (some 49) (.bin .eql (.tm 43) (.cn (.int .i64 3))) (.op (some 48) (.mov (.tm 49)) .nil))
def Ziu : Items := .op (some 50) (.mov (.tm 8)) (.op (some 51) (.fieldAddr (.tm 2) 4 1) (.op (some 52) (.load1 (.tm 51)) (.op (some 53) (.fieldAddr (.tm 2) 2 1) (.op (some 54) (.load1 (.tm 53)) (.op (some 55) (.call 77 [(.tm 54)]) (.op (some 56) (.bin .and (.tm 52) (.tm 55)) (.op (some 57) (.bin .neq (.tm 50) (.tm 56)) .nil)))))))
def ZoC : ACode := .regQ Ziu
def Zj5 : ACode := .reg (.op (some 58) (.loadA 32 (.tm 3)) (.op (some 59) (.mov (.tm 8)) (.op none (.storeA 32 (.tm 4) (.tm 58)) (.op (some 5) (.mov (.tm 59)) .nil))))
def Zj4 : ACode := .cond (.tm 57) (.seq Zj5 .ret) .skip
def Zj3 : ACode := .reg (.op (some 61) (.bin .eql (.tm 43) (.cn (.int .i64 4))) (.op (some 60) (.mov (.tm 61)) .nil))
def Zj2 : ACode := .reg (.op (some 62) (.mov (.tm 9)) (.op (some 63) (.mov (.tm 8)) (.op (some 64) (.bin .add (.tm 62) (.tm 63)) (.op (some 9) (.mov (.tm 64)) .nil))))
def Zj1 : ACode := .cond (.tm 60) Zj2 .skip
def Zj0 : ACode := .cond (.tm 48) (.seq ZoC Zj4) (.seq Zj3 Zj1)
def ZjZ : ACode := .cond (.tm 44) (.seq Zj7 .ret) (.seq Zj6 Zj0)
def Zc5 : ACode := .block 0 (.seq Znt ZjZ)
def Zcz : ACode := .reg (.op (some 65) (.mov (.tm 7)) (.op (some 66) (.mov (.tm 9)) (.op (some 67) (.fieldAddr (.tm 2) 2 1) (.op (some 68) (.load1 (.tm 67)) (.op (some 69) (.call 78 [(.cn (.nilslice)), (.tm 66), (.tm 68)]) (.op (some 70) (.copy .u8 (.tm 65) (.tm 69)) .nil))))))
def Zcv : ACode := .reg (.op (some 71) (.loadA 32 (.tm 3)) (.op (some 72) (.mov (.tm 8)) (.op none (.storeA 32 (.tm 4) (.tm 71)) (.op (some 5) (.mov (.tm 72)) .nil))))
def ZCw : ACode := (.seq Znv (.seq (.seq Zj8 ZjY) (.seq Zgp (.seq ZfF (.seq Ze5 (.seq Zeu (.seq (.seq ZdV Zc5) (.seq Zcz (.seq Zcv .ret)))))))))
def Zh0 : Res := .many [.cA 4 32, .tm 5]
theorem Zr0 : ZbJ Try.prog 60 2 73 ZCw Zh0 = true := by kernel_rfl
def ZkV : Za7 := Zfk [Zww, ZoX, Zwx] [Zta, Zo9]
theorem ZfC : Zbb Try.prog ZkV := Zch ⟨Zxe, Zrg, Zxf, trivial⟩ ⟨sbRead.dC, sbNumber.dC, trivial⟩
section
variable {w0 : World} {fp : Nat -> Nat -> Prop} {ρi : Rho} {Kf : SVal -> Heap -> Prop}
abbrev Yd9 : Env := [(4, some (.ptr ⟨2, 0, 0, 1⟩ 32)), (5, some (.int .u64 0))]
abbrev Zw6 (x0 : List Int) : Heap := ⟨3, [(2, some ⟨true, [.ints .u8 32 x0], 0⟩)]⟩
abbrev ZDk : Env := [(3, some (.ptr ⟨1, 0, 0, 1⟩ 32)), (4, some (.ptr ⟨2, 0, 0, 1⟩ 32))]
abbrev Zw5 (x0 : List Int) : Heap := ⟨3, [(1, some ⟨true, [.ints .u8 32 x0], 0⟩), (2, some ⟨true, [.ints .u8 32 (List.replicate 32 0)], 0⟩)]⟩
theorem Zx4 (o : OpV) (x : List Int) (Z : Env -> Heap -> Prop) (h : Z Yd9 (Zw6 x)) : EvC ZkV Znu ZDk (Zw5 x) [4, 5] [2] Z := EvC.of (by kernel_rfl) h
theorem Zu7 (o : OpV) (x : List Int) : RetC Zh0 Yd9 (Zw6 x) (.tuple [.agg [.ints .u8 32 x], .int .u64 0]) := RetC.of (fun Z => by kernel_rfl)
def Zqi (o : OpV) (x : List Int) : Prop := (x = (OpV.next o x)) /\ (0 = (OpV.result o x))
theorem ZzV (o : OpV) (x : List Int) (hK : ZdD o x Kf) (h : Zqi o x) : SemL Try.prog w0 fp ρi 0 73 [Znu, .ret, (.seq Zgp (.seq ZfF (.seq Ze5 (.seq Zeu (.seq (.seq ZdV Zc5) (.seq Zcz (.seq Zcv .ret)))))))] ZDk (Zw5 x) (fnK Zh0 0 Kf) :=
  Zas ZfC (Zx4 o x _ (Zbz (R := Zh0) (m := 0) (Kf := Kf) (fun _ _ h => h) (Zu7 o x) (Zbd rfl (by kernel_rfl) (cg2 (fun (z1 : List Int) (z2 : Int) => (.tuple [.agg [.ints .u8 32 z1], .int .u64 z2] : SVal)) h.1 h.2) hK)))
def ZdR (w0 : World) (fp : Nat -> Nat -> Prop) (ρi : Rho) (Kf : SVal -> Heap -> Prop) (o : OpV) (x : List Int) : Zgh := Zep 0 (fun e H => SemL Try.prog w0 fp ρi 0 73 [(.seq Zcz (.seq Zcv .ret))] e H (fnK Zh0 0 Kf)) (fnK Zh0 0 Kf)
abbrev Zw4 (x0 : Int) : Env := [(4, some (.ptr ⟨2, 0, 0, 1⟩ 32)), (5, some (.int .u64 x0))]
abbrev ZwR (x0 : Int) : Env := [(3, some (.ptr ⟨1, 0, 0, 1⟩ 32)), (4, some (.ptr ⟨2, 0, 0, 1⟩ 32)), (8, some (.int .u64 x0))]
theorem Zx3 (o : OpV) (x : List Int) (v8 : Int) (Z : Env -> Heap -> Prop) (h : Z (Zw4 v8) (Zw6 x)) : EvC ZkV Zj7 (ZwR v8) (Zw5 x) [4, 5] [2] Z := EvC.of (by kernel_rfl) h
theorem Zu6 (o : OpV) (x : List Int) (v8 : Int) : RetC Zh0 (Zw4 v8) (Zw6 x) (.tuple [.agg [.ints .u8 32 x], .int .u64 v8]) := RetC.of (fun Z => by kernel_rfl)
def Zqh (o : OpV) (x : List Int) (v8 : Int) : Prop := (x = (OpV.next o x)) /\ (v8 = (OpV.result o x))
theorem ZzU (o : OpV) (x : List Int) (hK : ZdD o x Kf) (v8 : Int) (h : Zqh o x v8) : SemL Try.prog w0 fp ρi 0 73 [Zj7, .ret] (ZwR v8) (Zw5 x) (ZdR w0 fp ρi Kf o x) :=
  Zas ZfC (Zx3 o x v8 _ (Zbz (R := Zh0) (m := 0) (Kf := Kf) (fun _ _ h => h) (Zu6 o x v8) (Zbd rfl (by kernel_rfl) (cg2 (fun (z1 : List Int) (z2 : Int) => (.tuple [.agg [.ints .u8 32 z1], .int .u64 z2] : SVal)) h.1 h.2) hK)))
theorem Zx2 (o : OpV) (x : List Int) (v8 : Int) (Z : Env -> Heap -> Prop) (h : Z (Zw4 v8) (Zw6 x)) : EvC ZkV Zj5 (ZwR v8) (Zw5 x) [4, 5] [2] Z := EvC.of (by kernel_rfl) h
theorem Zu5 (o : OpV) (x : List Int) (v8 : Int) : RetC Zh0 (Zw4 v8) (Zw6 x) (.tuple [.agg [.ints .u8 32 x], .int .u64 v8]) := RetC.of (fun Z => by kernel_rfl)
def Zqg (o : OpV) (x : List Int) (v8 : Int) : Prop := (x = (OpV.next o x)) /\ (v8 = (OpV.result o x))
theorem ZzT (o : OpV) (x : List Int) (hK : ZdD o x Kf) (v8 : Int) (h : Zqg o x v8) : SemL Try.prog w0 fp ρi 0 73 [Zj5, .ret] (ZwR v8) (Zw5 x) (ZdR w0 fp ρi Kf o x) :=
  Zas ZfC (Zx2 o x v8 _ (Zbz (R := Zh0) (m := 0) (Kf := Kf) (fun _ _ h => h) (Zu5 o x v8) (Zbd rfl (by kernel_rfl) (cg2 (fun (z1 : List Int) (z2 : Int) => (.tuple [.agg [.ints .u8 32 z1], .int .u64 z2] : SVal)) h.1 h.2) hK)))
abbrev ZDj (x0 : List Int) : Heap := ⟨5, [(1, some ⟨true, [.ints .u8 32 x0], 0⟩), (2, some ⟨true, [.ints .u8 32 (List.replicate 32 0)], 0⟩)]⟩
theorem Zx1 (o : OpV) (x : List Int) (v8 : Int) (h1 : List Int) (Z : Env -> Heap -> Prop) (h : Z (Zw4 v8) ⟨5, [(2, some ⟨true, [.ints .u8 32 h1], 0⟩)]⟩) : EvC ZkV Zcv (ZwR v8) (ZDj h1) [4, 5] [2] Z := EvC.of (by kernel_rfl) h
theorem Zu4 (o : OpV) (x : List Int) (v8 : Int) (h1 : List Int) : RetC Zh0 (Zw4 v8) ⟨5, [(2, some ⟨true, [.ints .u8 32 h1], 0⟩)]⟩ (.tuple [.agg [.ints .u8 32 h1], .int .u64 v8]) := RetC.of (fun Z => by kernel_rfl)
def Zqf (o : OpV) (x : List Int) (v8 : Int) (h1 : List Int) : Prop := (h1 = (OpV.next o x)) /\ (v8 = (OpV.result o x))
theorem ZzS (o : OpV) (x : List Int) (hK : ZdD o x Kf) (v8 : Int) (h1 : List Int) (h : Zqf o x v8 h1) : SemL Try.prog w0 fp ρi 0 73 [Zcv, .ret] (ZwR v8) (ZDj h1) (fnK Zh0 0 Kf) :=
  Zas ZfC (Zx1 o x v8 h1 _ (Zbz (R := Zh0) (m := 0) (Kf := Kf) (fun _ _ h => h) (Zu4 o x v8 h1) (Zbd rfl (by kernel_rfl) (cg2 (fun (z1 : List Int) (z2 : Int) => (.tuple [.agg [.ints .u8 32 z1], .int .u64 z2] : SVal)) h.1 h.2) hK)))
abbrev ZDi (x0 x1 x2 : Nat) (x3 x4 : Int) : Env := [(2, some (.ptr ⟨0, 0, 0, 1⟩ 5)), (3, some (.ptr ⟨1, 0, 0, 1⟩ 32)), (4, some (.ptr ⟨2, 0, 0, 1⟩ 32)), (7, some (.slice ⟨1, 0, x0, 1⟩ x1 x2)), (8, some (.int .u64 x3)), (9, some (.int .u64 x4))]
abbrev ZdM (x0 : OpV) (x1 : List Int) : Heap := ⟨3, [(0, some ⟨true, (OpV.cs x0), 0⟩), (1, some ⟨true, [.ints .u8 32 x1], 0⟩), (2, some ⟨true, [.ints .u8 32 (List.replicate 32 0)], 0⟩)]⟩
theorem Zx0 (o : OpV) (x : List Int) (ab aa ac : Nat) (v8 v9 : Int) (Z : Env -> Heap -> Prop) (h : (((0 : Nat) <= 0)) /\ (((0 : Nat) = 0)) /\ ((List.length ([] : List Int) = 0 /\ 0 <= 1000000 /\ 0 <= v9 /\ v9 < 2 ^ 64)) /\ ∀ (c : Nat), (0 + Int.toNat (min o.on 64)) <= c -> (((0 + (0 + Int.toNat (min o.on 64))) <= (0 + Int.toNat (min o.on 64)))) /\ (((min (0 + Int.toNat (min o.on 64)) aa) = (min (0 + Int.toNat (min o.on 64)) aa))) /\ (((ab + (min (0 + Int.toNat (min o.on 64)) aa)) <= 32)) /\ ((List.length x = 32)) /\ ((List.length (List.take (min (0 + Int.toNat (min o.on 64)) aa) (List.take (0 + Int.toNat (min o.on 64)) (ZhL v9 (Int.toNat (min o.on 64))))) = (min (0 + Int.toNat (min o.on 64)) aa))) /\ Z (ZwR v8) ⟨5, [(1, some ⟨true, [.ints .u8 32 (List.take ab x ++ (List.take (min (0 + Int.toNat (min o.on 64)) aa) (List.take (0 + Int.toNat (min o.on 64)) (ZhL v9 (Int.toNat (min o.on 64))))) ++ List.drop (ab + (min (0 + Int.toNat (min o.on 64)) aa)) x)], 0⟩), (2, some ⟨true, [.ints .u8 32 (List.replicate 32 0)], 0⟩)]⟩) : EvC ZkV Zcz (ZDi ab aa ac v8 v9) (ZdM o x) [3, 4, 8] [1, 2] Z := EvC.of (by kernel_rfl) h
def ZkW (o : OpV) (x : List Int) (ab aa ac : Nat) (v8 v9 : Int) : Prop := ((List.length ([] : List Int) = 0 /\ 0 <= 1000000 /\ 0 <= v9 /\ v9 < 2 ^ 64)) /\ (∀ (c : Nat), ((0 + Int.toNat (min o.on 64)) <= c) -> ((((0 + (0 + Int.toNat (min o.on 64))) <= (0 + Int.toNat (min o.on 64)))) /\ ((((ab + (min (0 + Int.toNat (min o.on 64)) aa)) <= 32)) /\ (((List.length x = 32)) /\ (((List.length (List.take (min (0 + Int.toNat (min o.on 64)) aa) (List.take (0 + Int.toNat (min o.on 64)) (ZhL v9 (Int.toNat (min o.on 64))))) = (min (0 + Int.toNat (min o.on 64)) aa))) /\ (∀ h1 : List Int, h1 = (List.take ab x ++ (List.take (min (0 + Int.toNat (min o.on 64)) aa) (List.take (0 + Int.toNat (min o.on 64)) (ZhL v9 (Int.toNat (min o.on 64))))) ++ List.drop (ab + (min (0 + Int.toNat (min o.on 64)) aa)) x) -> Zqf o x v8 h1))))))
theorem Zrp (o : OpV) (x : List Int) (hK : ZdD o x Kf) (ab aa ac : Nat) (v8 v9 : Int) (h : ZkW o x ab aa ac v8 v9) : SemL Try.prog w0 fp ρi 0 73 [Zcz, (.seq Zcv .ret)] (ZDi ab aa ac v8 v9) (ZdM o x) (fnK Zh0 0 Kf) :=
  Zas ZfC (Zx0 o x ab aa ac v8 v9 _ ⟨(by decide), ⟨rfl, ⟨h.1, (fun c h_c_0 => ⟨(h.2 c h_c_0).1, ⟨rfl, ⟨(h.2 c h_c_0).2.1, ⟨(h.2 c h_c_0).2.2.1, ⟨(h.2 c h_c_0).2.2.2.1, (Zau (ZzS o x hK v8 (List.take ab x ++ (List.take (min (0 + Int.toNat (min o.on 64)) aa) (List.take (0 + Int.toNat (min o.on 64)) (ZhL v9 (Int.toNat (min o.on 64))))) ++ List.drop (ab + (min (0 + Int.toNat (min o.on 64)) aa)) x) ((h.2 c h_c_0).2.2.2.2 (List.take ab x ++ (List.take (min (0 + Int.toNat (min o.on 64)) aa) (List.take (0 + Int.toNat (min o.on 64)) (ZhL v9 (Int.toNat (min o.on 64))))) ++ List.drop (ab + (min (0 + Int.toNat (min o.on 64)) aa)) x) rfl)))⟩⟩⟩⟩⟩)⟩⟩⟩)
def Zqe (o : OpV) (x : List Int) (ab aa ac : Nat) (v8 : Int) : Prop := ((v8 != (Zgz .u64 o.owant (ZeW o.on))) = true -> (Zqg o x v8)) /\ ((v8 != (Zgz .u64 o.owant (ZeW o.on))) = false -> (ZkW o x ab aa ac v8 o.oval))
abbrev ZDh (x0 x1 x2 : Nat) (x3 : Int) (x4 : OpV) : Env := [(2, some (.ptr ⟨0, 0, 0, 1⟩ 5)), (3, some (.ptr ⟨1, 0, 0, 1⟩ 32)), (4, some (.ptr ⟨2, 0, 0, 1⟩ 32)), (7, some (.slice ⟨1, 0, x0, 1⟩ x1 x2)), (8, some (.int .u64 x3)), (9, some (.int .u64 x4.oval)), (57, some (.bool (x3 != (Zgz .u64 x4.owant (ZeW x4.on)))))]
theorem ZzR (o : OpV) (x : List Int) (hK : ZdD o x Kf) (ab aa ac : Nat) (v8 : Int) (h : Zqe o x ab aa ac v8) : SemL Try.prog w0 fp ρi 0 73 [Zj4] (ZDh ab aa ac v8 o) (ZdM o x) (ZdR w0 fp ρi Kf o x) :=
  ZbD (q := (v8 != (Zgz .u64 o.owant (ZeW o.on)))) (by kernel_rfl) (fun hq => (Zau (lpk [3, 4, 8] [1, 2] (ZzT o x hK v8 (h.1 hq))))) (fun hq => (Zcd (ZhP (lpk [2, 3, 4, 7, 8, 9] [0, 1, 2] (Zau (Zrp o x hK ab aa ac v8 o.oval (h.2 hq)))))))
abbrev ZwQ (x0 x1 x2 : Nat) (x3 : Int) (x4 : OpV) : Env := [(2, some (.ptr ⟨0, 0, 0, 1⟩ 5)), (3, some (.ptr ⟨1, 0, 0, 1⟩ 32)), (4, some (.ptr ⟨2, 0, 0, 1⟩ 32)), (7, some (.slice ⟨1, 0, x0, 1⟩ x1 x2)), (8, some (.int .u64 x3)), (9, some (.int .u64 x4.oval))]
theorem ZxZ (o : OpV) (x : List Int) (ab aa ac : Nat) (v8 : Int) (Z : Env -> Heap -> Prop) (h : ((SVal.bd 3 (.int .u64 (ZeW o.on)))) /\ (True /\ ((.int .u64 (ZeW o.on) : SVal) = .int .u64 (ZeW o.on)) /\ (ZaN (ZdM o x) (ZdM o x) [(0, some ⟨true, (OpV.cs o), 0⟩), (1, some ⟨true, [.ints .u8 32 x], 0⟩), (2, some ⟨true, [.ints .u8 32 (List.replicate 32 0)], 0⟩)])) /\ Z (ZDh ab aa ac v8 o) (ZdM o x)) : EvQC ZkV Ziu [.int .u64 (ZeW o.on)] (ZwQ ab aa ac v8 o) (ZdM o x) [2, 3, 4, 7, 8, 9, 57] [0, 1, 2] Z := EvQC.of (by kernel_rfl) h
def Zqd (o : OpV) (x : List Int) (ab aa ac : Nat) (v8 : Int) : Prop := Zqe o x ab aa ac v8
theorem ZzQ (o : OpV) (x : List Int) (hK : ZdD o x Kf) (ab aa ac : Nat) (v8 : Int) (h : Zqd o x ab aa ac v8) : SemL Try.prog w0 fp ρi 0 73 [ZoC, Zj4] (ZwQ ab aa ac v8 o) (ZdM o x) (ZdR w0 fp ρi Kf o x) :=
  ZkQ ZfC (its := Ziu) (ZxZ o x ab aa ac v8 _ ⟨(ZdJ (τ := Zby) (by kernel_rfl)).2, ⟨⟨True.intro, rfl, (Za3 _)⟩, (ZzR o x hK ab aa ac v8 h)⟩⟩)
theorem ZxY (o : OpV) (x : List Int) (ab aa ac : Nat) (v8 : Int) (Z : Env -> Heap -> Prop) (h : Z [(2, some (.ptr ⟨0, 0, 0, 1⟩ 5)), (3, some (.ptr ⟨1, 0, 0, 1⟩ 32)), (4, some (.ptr ⟨2, 0, 0, 1⟩ 32)), (7, some (.slice ⟨1, 0, ab, 1⟩ aa ac)), (8, some (.int .u64 v8)), (9, some (.int .u64 (IntKind.u64.wrap (o.oval + v8))))] (ZdM o x)) : EvC ZkV Zj2 (ZwQ ab aa ac v8 o) (ZdM o x) [2, 3, 4, 7, 8, 9] [0, 1, 2] Z := EvC.of (by kernel_rfl) h
def Zqc (o : OpV) (x : List Int) (ab aa ac : Nat) (v8 : Int) : Prop := ∀ v9 : Int, v9 = (o.oval + v8) % 18446744073709551616 -> ZkW o x ab aa ac v8 v9
theorem ZzP (o : OpV) (x : List Int) (hK : ZdD o x Kf) (ab aa ac : Nat) (v8 : Int) (h : Zqc o x ab aa ac v8) : SemL Try.prog w0 fp ρi 0 73 [Zj2] (ZwQ ab aa ac v8 o) (ZdM o x) (ZdR w0 fp ρi Kf o x) :=
  Zas ZfC (ZxY o x ab aa ac v8 _ (ZhP (Zau (Zrp o x hK ab aa ac v8 (IntKind.u64.wrap (o.oval + v8)) (h (IntKind.u64.wrap (o.oval + v8)) (ZfN _))))))
def Zqb (o : OpV) (x : List Int) (ab aa ac : Nat) (v8 : Int) : Prop := ((o.okind == 4) = true -> (Zqc o x ab aa ac v8)) /\ ((o.okind == 4) = false -> (ZkW o x ab aa ac v8 o.oval))
abbrev ZDg (x0 x1 x2 : Nat) (x3 : Int) (x4 : OpV) : Env := [(2, some (.ptr ⟨0, 0, 0, 1⟩ 5)), (3, some (.ptr ⟨1, 0, 0, 1⟩ 32)), (4, some (.ptr ⟨2, 0, 0, 1⟩ 32)), (7, some (.slice ⟨1, 0, x0, 1⟩ x1 x2)), (8, some (.int .u64 x3)), (9, some (.int .u64 x4.oval)), (60, some (.bool (x4.okind == 4)))]
theorem ZzO (o : OpV) (x : List Int) (hK : ZdD o x Kf) (ab aa ac : Nat) (v8 : Int) (h : Zqb o x ab aa ac v8) : SemL Try.prog w0 fp ρi 0 73 [Zj1] (ZDg ab aa ac v8 o) (ZdM o x) (ZdR w0 fp ρi Kf o x) :=
  ZbD (q := (o.okind == 4)) (by kernel_rfl) (fun hq => (lpk [2, 3, 4, 7, 8, 9] [0, 1, 2] (ZzP o x hK ab aa ac v8 (h.1 hq)))) (fun hq => (Zcd (ZhP (lpk [2, 3, 4, 7, 8, 9] [0, 1, 2] (Zau (Zrp o x hK ab aa ac v8 o.oval (h.2 hq)))))))
abbrev ZtS (x0 x1 x2 : Nat) (x3 : Int) (x4 : OpV) : Env := [(2, some (.ptr ⟨0, 0, 0, 1⟩ 5)), (3, some (.ptr ⟨1, 0, 0, 1⟩ 32)), (4, some (.ptr ⟨2, 0, 0, 1⟩ 32)), (7, some (.slice ⟨1, 0, x0, 1⟩ x1 x2)), (8, some (.int .u64 x3)), (9, some (.int .u64 x4.oval)), (43, some (.int .i64 x4.okind))]
theorem ZxX (o : OpV) (x : List Int) (ab aa ac : Nat) (v8 : Int) (Z : Env -> Heap -> Prop) (h : Z (ZDg ab aa ac v8 o) (ZdM o x)) : EvC ZkV Zj3 (ZtS ab aa ac v8 o) (ZdM o x) [2, 3, 4, 7, 8, 9, 60] [0, 1, 2] Z := EvC.of (by kernel_rfl) h
def Zqa (o : OpV) (x : List Int) (ab aa ac : Nat) (v8 : Int) : Prop := Zqb o x ab aa ac v8
theorem ZzN (o : OpV) (x : List Int) (hK : ZdD o x Kf) (ab aa ac : Nat) (v8 : Int) (h : Zqa o x ab aa ac v8) : SemL Try.prog w0 fp ρi 0 73 [Zj3, Zj1] (ZtS ab aa ac v8 o) (ZdM o x) (ZdR w0 fp ρi Kf o x) :=
  Zas ZfC (ZxX o x ab aa ac v8 _ (ZzO o x hK ab aa ac v8 h))
def ZlY (o : OpV) (x : List Int) (ab aa ac : Nat) (v8 : Int) : Prop := ((o.okind == 3) = true -> (Zqd o x ab aa ac v8)) /\ ((o.okind == 3) = false -> (Zqa o x ab aa ac v8))
abbrev ZDf (x0 x1 x2 : Nat) (x3 : Int) (x4 : OpV) : Env := [(2, some (.ptr ⟨0, 0, 0, 1⟩ 5)), (3, some (.ptr ⟨1, 0, 0, 1⟩ 32)), (4, some (.ptr ⟨2, 0, 0, 1⟩ 32)), (7, some (.slice ⟨1, 0, x0, 1⟩ x1 x2)), (8, some (.int .u64 x3)), (9, some (.int .u64 x4.oval)), (43, some (.int .i64 x4.okind)), (48, some (.bool (x4.okind == 3)))]
theorem ZvL (o : OpV) (x : List Int) (hK : ZdD o x Kf) (ab aa ac : Nat) (v8 : Int) (h : ZlY o x ab aa ac v8) : SemL Try.prog w0 fp ρi 0 73 [Zj0] (ZDf ab aa ac v8 o) (ZdM o x) (ZdR w0 fp ρi Kf o x) :=
  ZbD (q := (o.okind == 3)) (by kernel_rfl) (fun hq => (Zau (lpk [2, 3, 4, 7, 8, 9] [0, 1, 2] (ZzQ o x hK ab aa ac v8 (h.1 hq))))) (fun hq => (Zau (lpk [2, 3, 4, 7, 8, 9, 43] [0, 1, 2] (ZzN o x hK ab aa ac v8 (h.2 hq)))))
theorem Zuo (o : OpV) (x : List Int) (ab aa ac : Nat) (v8 : Int) (Z : Env -> Heap -> Prop) (h : Z (ZDf ab aa ac v8 o) (ZdM o x)) : EvC ZkV Zj6 (ZtS ab aa ac v8 o) (ZdM o x) [2, 3, 4, 7, 8, 9, 43, 48] [0, 1, 2] Z := EvC.of (by kernel_rfl) h
def ZlX (o : OpV) (x : List Int) (ab aa ac : Nat) (v8 : Int) : Prop := ZlY o x ab aa ac v8
theorem ZvK (o : OpV) (x : List Int) (hK : ZdD o x Kf) (ab aa ac : Nat) (v8 : Int) (h : ZlX o x ab aa ac v8) : SemL Try.prog w0 fp ρi 0 73 [Zj6, Zj0] (ZtS ab aa ac v8 o) (ZdM o x) (ZdR w0 fp ρi Kf o x) :=
  Zas ZfC (Zuo o x ab aa ac v8 _ (ZvL o x hK ab aa ac v8 h))
def ZlW (o : OpV) (x : List Int) (ab aa ac : Nat) (v8 : Int) : Prop := ((o.okind == 1) = true -> (Zqh o x v8)) /\ ((o.okind == 1) = false -> (ZlX o x ab aa ac v8))
abbrev ZDe (x0 x1 x2 : Nat) (x3 : Int) (x4 : OpV) : Env := [(2, some (.ptr ⟨0, 0, 0, 1⟩ 5)), (3, some (.ptr ⟨1, 0, 0, 1⟩ 32)), (4, some (.ptr ⟨2, 0, 0, 1⟩ 32)), (7, some (.slice ⟨1, 0, x0, 1⟩ x1 x2)), (8, some (.int .u64 x3)), (9, some (.int .u64 x4.oval)), (43, some (.int .i64 x4.okind)), (44, some (.bool (x4.okind == 1)))]
theorem ZvJ (o : OpV) (x : List Int) (hK : ZdD o x Kf) (ab aa ac : Nat) (v8 : Int) (h : ZlW o x ab aa ac v8) : SemL Try.prog w0 fp ρi 0 73 [ZjZ] (ZDe ab aa ac v8 o) (ZdM o x) (ZdR w0 fp ρi Kf o x) :=
  ZbD (q := (o.okind == 1)) (by kernel_rfl) (fun hq => (Zau (lpk [3, 4, 8] [1, 2] (ZzU o x hK v8 (h.1 hq))))) (fun hq => (Zau (lpk [2, 3, 4, 7, 8, 9, 43] [0, 1, 2] (ZvK o x hK ab aa ac v8 (h.2 hq)))))
theorem Zun (o : OpV) (x : List Int) (ab aa ac : Nat) (v8 : Int) (Z : Env -> Heap -> Prop) (h : Z (ZDe ab aa ac v8 o) (ZdM o x)) : EvC ZkV Znt (ZtS ab aa ac v8 o) (ZdM o x) [2, 3, 4, 7, 8, 9, 43, 44] [0, 1, 2] Z := EvC.of (by kernel_rfl) h
def ZlV (o : OpV) (x : List Int) (ab aa ac : Nat) (v8 : Int) : Prop := ZlW o x ab aa ac v8
theorem ZvI (o : OpV) (x : List Int) (hK : ZdD o x Kf) (ab aa ac : Nat) (v8 : Int) (h : ZlV o x ab aa ac v8) : SemL Try.prog w0 fp ρi 0 73 [Znt, ZjZ] (ZtS ab aa ac v8 o) (ZdM o x) (ZdR w0 fp ρi Kf o x) :=
  Zas ZfC (Zun o x ab aa ac v8 _ (ZvJ o x hK ab aa ac v8 h))
def ZlU (o : OpV) (x : List Int) (ab aa ac : Nat) (v8 : Int) : Prop := ZlV o x ab aa ac v8
theorem ZvH (o : OpV) (x : List Int) (hK : ZdD o x Kf) (ab aa ac : Nat) (v8 : Int) (h : ZlU o x ab aa ac v8) : SemL Try.prog w0 fp ρi 0 73 [Zc5, (.seq Zcz (.seq Zcv .ret))] (ZtS ab aa ac v8 o) (ZdM o x) (fnK Zh0 0 Kf) :=
  Zdy (Zau (ZvI o x hK ab aa ac v8 h))
theorem Zum (o : OpV) (x : List Int) (ab aa ac : Nat) (v8 : Int) (Z : Env -> Heap -> Prop) (h : Z (ZtS ab aa ac v8 o) (ZdM o x)) : EvC ZkV ZdV (ZwQ ab aa ac v8 o) (ZdM o x) [2, 3, 4, 7, 8, 9, 43] [0, 1, 2] Z := EvC.of (by kernel_rfl) h
def ZlT (o : OpV) (x : List Int) (ab aa ac : Nat) (v8 : Int) : Prop := ZlU o x ab aa ac v8
theorem ZvG (o : OpV) (x : List Int) (hK : ZdD o x Kf) (ab aa ac : Nat) (v8 : Int) (h : ZlT o x ab aa ac v8) : SemL Try.prog w0 fp ρi 0 73 [ZdV, Zc5, (.seq Zcz (.seq Zcv .ret))] (ZwQ ab aa ac v8 o) (ZdM o x) (fnK Zh0 0 Kf) :=
  Zas ZfC (Zum o x ab aa ac v8 _ (ZvH o x hK ab aa ac v8 h))
abbrev ZDd (x0 x1 x2 : Nat) (x3 : Int) : Env := [(2, some (.ptr ⟨0, 0, 0, 1⟩ 5)), (3, some (.ptr ⟨1, 0, 0, 1⟩ 32)), (4, some (.ptr ⟨2, 0, 0, 1⟩ 32)), (7, some (.slice ⟨1, 0, x0, 1⟩ x1 x2)), (8, some (.int .u64 x3))]
theorem Zul (o : OpV) (x : List Int) (ab aa ac : Nat) (v8 : Int) (Z : Env -> Heap -> Prop) (h : Z (ZwQ ab aa ac v8 o) (ZdM o x)) : EvC ZkV Zeu (ZDd ab aa ac v8) (ZdM o x) [2, 3, 4, 7, 8, 9] [0, 1, 2] Z := EvC.of (by kernel_rfl) h
def ZlS (o : OpV) (x : List Int) (ab aa ac : Nat) (v8 : Int) : Prop := ZlT o x ab aa ac v8
theorem ZvF (o : OpV) (x : List Int) (hK : ZdD o x Kf) (ab aa ac : Nat) (v8 : Int) (h : ZlS o x ab aa ac v8) : SemL Try.prog w0 fp ρi 0 73 [Zeu, (.seq (.seq ZdV Zc5) (.seq Zcz (.seq Zcv .ret)))] (ZDd ab aa ac v8) (ZdM o x) (fnK Zh0 0 Kf) :=
  Zas ZfC (Zul o x ab aa ac v8 _ (Zau (Zau (ZvG o x hK ab aa ac v8 h))))
abbrev ZDc (x0 x1 x2 : Nat) : Env := [(2, some (.ptr ⟨0, 0, 0, 1⟩ 5)), (3, some (.ptr ⟨1, 0, 0, 1⟩ 32)), (4, some (.ptr ⟨2, 0, 0, 1⟩ 32)), (7, some (.slice ⟨1, 0, x0, 1⟩ x1 x2))]
theorem Zuk (o : OpV) (x : List Int) (ab aa ac : Nat) (Z : Env -> Heap -> Prop) (h : (((ab + aa) <= 32)) /\ ((aa = aa)) /\ ((List.length (List.take aa (List.drop ab x)) = aa /\ aa <= ac /\ aa <= 1000000000 /\ Byt (List.take aa (List.drop ab x)))) /\ Z [(2, some (.ptr ⟨0, 0, 0, 1⟩ 5)), (3, some (.ptr ⟨1, 0, 0, 1⟩ 32)), (4, some (.ptr ⟨2, 0, 0, 1⟩ 32)), (7, some (.slice ⟨1, 0, ab, 1⟩ aa ac)), (8, some (.int .u64 (ZeT (List.take 8 (List.take aa (List.drop ab x))))))] (ZdM o x)) : EvC ZkV Ze5 (ZDc ab aa ac) (ZdM o x) [2, 3, 4, 7, 8] [0, 1, 2] Z := EvC.of (by kernel_rfl) h
def ZlR (o : OpV) (x : List Int) (ab aa ac : Nat) : Prop := (((ab + aa) <= 32)) /\ (((List.length (List.take aa (List.drop ab x)) = aa /\ aa <= ac /\ aa <= 1000000000 /\ Byt (List.take aa (List.drop ab x)))) /\ (∀ v8 : Int, v8 = (ZeT (List.take 8 (List.take aa (List.drop ab x)))) -> ZlS o x ab aa ac v8))
theorem ZvE (o : OpV) (x : List Int) (hK : ZdD o x Kf) (ab aa ac : Nat) (h : ZlR o x ab aa ac) : SemL Try.prog w0 fp ρi 0 73 [Ze5, (.seq Zeu (.seq (.seq ZdV Zc5) (.seq Zcz (.seq Zcv .ret))))] (ZDc ab aa ac) (ZdM o x) (fnK Zh0 0 Kf) :=
  Zas ZfC (Zuk o x ab aa ac _ ⟨h.1, ⟨rfl, ⟨h.2.1, (Zau (ZvF o x hK ab aa ac (ZeT (List.take 8 (List.take aa (List.drop ab x)))) (h.2.2 (ZeT (List.take 8 (List.take aa (List.drop ab x)))) rfl)))⟩⟩⟩)
abbrev ZDb (x0 : Int) : Env := [(2, some (.ptr ⟨0, 0, 0, 1⟩ 5)), (3, some (.ptr ⟨1, 0, 0, 1⟩ 32)), (4, some (.ptr ⟨2, 0, 0, 1⟩ 32)), (6, some (.int .i64 x0))]
theorem Zuj (o : OpV) (x : List Int) (v6 : Int) (Z : Env -> Heap -> Prop) (h : ((0 <= (IntKind.i64.wrap (v6 + o.on)))) /\ (((IntKind.i64.wrap (v6 + o.on)) <= 32)) /\ ((0 <= v6)) /\ ((v6 <= (((Int.toNat (IntKind.i64.wrap (v6 + o.on))) : Nat) : Int))) /\ Z [(2, some (.ptr ⟨0, 0, 0, 1⟩ 5)), (3, some (.ptr ⟨1, 0, 0, 1⟩ 32)), (4, some (.ptr ⟨2, 0, 0, 1⟩ 32)), (7, some (.slice ⟨1, 0, (0 + (if 32 = (Int.toNat v6) then 0 else (Int.toNat v6))), 1⟩ ((Int.toNat (IntKind.i64.wrap (v6 + o.on))) - (Int.toNat v6)) (32 - (Int.toNat v6))))] (ZdM o x)) : EvC ZkV ZfF (ZDb v6) (ZdM o x) [2, 3, 4, 7] [0, 1, 2] Z := EvC.of (by kernel_rfl) h
def ZlQ (o : OpV) (x : List Int) (v6 : Int) : Prop := ((0 <= (IntKind.i64.wrap (v6 + o.on)))) /\ ((((IntKind.i64.wrap (v6 + o.on)) <= 32)) /\ (((0 <= v6)) /\ (((v6 <= (((Int.toNat (IntKind.i64.wrap (v6 + o.on))) : Nat) : Int))) /\ (∀ ab : Nat, ab = (0 + (if 32 = (Int.toNat v6) then 0 else (Int.toNat v6))) -> ∀ aa : Nat, aa = ((Int.toNat (IntKind.i64.wrap (v6 + o.on))) - (Int.toNat v6)) -> ∀ ac : Nat, ac = (32 - (Int.toNat v6)) -> ZlR o x ab aa ac))))
theorem ZvD (o : OpV) (x : List Int) (hK : ZdD o x Kf) (v6 : Int) (h : ZlQ o x v6) : SemL Try.prog w0 fp ρi 0 73 [ZfF, (.seq Ze5 (.seq Zeu (.seq (.seq ZdV Zc5) (.seq Zcz (.seq Zcv .ret)))))] (ZDb v6) (ZdM o x) (fnK Zh0 0 Kf) :=
  Zas ZfC (Zuj o x v6 _ ⟨h.1, ⟨h.2.1, ⟨h.2.2.1, ⟨h.2.2.2.1, (Zau (ZvE o x hK (0 + (if 32 = (Int.toNat v6) then 0 else (Int.toNat v6))) ((Int.toNat (IntKind.i64.wrap (v6 + o.on))) - (Int.toNat v6)) (32 - (Int.toNat v6)) (((h.2.2.2.2 (0 + (if 32 = (Int.toNat v6) then 0 else (Int.toNat v6))) rfl) ((Int.toNat (IntKind.i64.wrap (v6 + o.on))) - (Int.toNat v6)) rfl) (32 - (Int.toNat v6)) rfl)))⟩⟩⟩⟩)
abbrev ZBd : Env := [(2, some (.ptr ⟨0, 0, 0, 1⟩ 5)), (3, some (.ptr ⟨1, 0, 0, 1⟩ 32)), (4, some (.ptr ⟨2, 0, 0, 1⟩ 32))]
theorem Zui (o : OpV) (x : List Int) (Z : Env -> Heap -> Prop) (h : Z [(2, some (.ptr ⟨0, 0, 0, 1⟩ 5)), (3, some (.ptr ⟨1, 0, 0, 1⟩ 32)), (4, some (.ptr ⟨2, 0, 0, 1⟩ 32)), (6, some (.int .i64 (if (IntKind.i64.wrap (32 - o.on)) < (Zgz .i64 o.oat 31) then (IntKind.i64.wrap (32 - o.on)) else (Zgz .i64 o.oat 31))))] (ZdM o x)) : EvC ZkV Zgp ZBd (ZdM o x) [2, 3, 4, 6] [0, 1, 2] Z := EvC.of (by kernel_rfl) h
def ZlP (o : OpV) (x : List Int) : Prop := ∀ v6 : Int, v6 = (if (IntKind.i64.wrap (32 - o.on)) < (Zgz .i64 o.oat 31) then (IntKind.i64.wrap (32 - o.on)) else (Zgz .i64 o.oat 31)) -> ZlQ o x v6
theorem ZvC (o : OpV) (x : List Int) (hK : ZdD o x Kf) (h : ZlP o x) : SemL Try.prog w0 fp ρi 0 73 [Zgp, (.seq ZfF (.seq Ze5 (.seq Zeu (.seq (.seq ZdV Zc5) (.seq Zcz (.seq Zcv .ret))))))] ZBd (ZdM o x) (fnK Zh0 0 Kf) :=
  Zas ZfC (Zui o x _ (Zau (ZvD o x hK (if (IntKind.i64.wrap (32 - o.on)) < (Zgz .i64 o.oat 31) then (IntKind.i64.wrap (32 - o.on)) else (Zgz .i64 o.oat 31)) (h (if (IntKind.i64.wrap (32 - o.on)) < (Zgz .i64 o.oat 31) then (IntKind.i64.wrap (32 - o.on)) else (Zgz .i64 o.oat 31)) rfl))))
def ZlO (o : OpV) (x : List Int) : Prop := (((!(sizeB o.on)) || ((!(chgB o.okind)) && (o.okind != 1))) = true -> (Zqi o x)) /\ (((!(sizeB o.on)) || ((!(chgB o.okind)) && (o.okind != 1))) = false -> (ZlP o x))
theorem ZvB (o : OpV) (x : List Int) (hK : ZdD o x Kf) (h : ZlO o x) : SemL Try.prog w0 fp ρi 0 73 [ZjY, (.seq Zgp (.seq ZfF (.seq Ze5 (.seq Zeu (.seq (.seq ZdV Zc5) (.seq Zcz (.seq Zcv .ret)))))))] [(2, some (.ptr ⟨0, 0, 0, 1⟩ 5)), (3, some (.ptr ⟨1, 0, 0, 1⟩ 32)), (4, some (.ptr ⟨2, 0, 0, 1⟩ 32)), (23, some (.bool ((!(sizeB o.on)) || ((!(chgB o.okind)) && (o.okind != 1)))))] (ZdM o x) (fnK Zh0 0 Kf) :=
  ZbD (q := ((!(sizeB o.on)) || ((!(chgB o.okind)) && (o.okind != 1)))) (by kernel_rfl) (fun hq => (Zau (lpk [3, 4] [1, 2] (ZzV o x hK (h.1 hq))))) (fun hq => (Zcd (lpk [2, 3, 4] [0, 1, 2] (Zau (ZvC o x hK (h.2 hq))))))
theorem Zuh (o : OpV) (x : List Int) (Z : Env -> Heap -> Prop) (h : (True) /\ ∃ qq : Bool, ((!(sizeB o.on)) = false -> (True) /\ ∃ qq'1 : Bool, ((!(chgB o.okind)) = true -> (ZaN (ZdM o x) (ZdM o x) [(0, some ⟨true, (OpV.cs o), 0⟩), (1, some ⟨true, [.ints .u8 32 x], 0⟩), (2, some ⟨true, [.ints .u8 32 (List.replicate 32 0)], 0⟩)]) /\ (o.okind != 1) = qq'1) /\ ((!(chgB o.okind)) = false -> false = qq'1) /\ (ZaN (ZdM o x) (ZdM o x) [(0, some ⟨true, (OpV.cs o), 0⟩), (1, some ⟨true, [.ints .u8 32 x], 0⟩), (2, some ⟨true, [.ints .u8 32 (List.replicate 32 0)], 0⟩)]) /\ qq'1 = qq) /\ ((!(sizeB o.on)) = true -> true = qq) /\ Z [(2, some (.ptr ⟨0, 0, 0, 1⟩ 5)), (3, some (.ptr ⟨1, 0, 0, 1⟩ 32)), (4, some (.ptr ⟨2, 0, 0, 1⟩ 32)), (23, some (.bool qq))] (ZdM o x)) : EvC ZkV Zj8 ZBd (ZdM o x) [2, 3, 4, 23] [0, 1, 2] Z := EvC.of (by kernel_rfl) h
def ZlN (o : OpV) (x : List Int) : Prop := ZlO o x
theorem ZvA (o : OpV) (x : List Int) (hK : ZdD o x Kf) (h : ZlN o x) : SemL Try.prog w0 fp ρi 0 73 [Zj8, ZjY, (.seq Zgp (.seq ZfF (.seq Ze5 (.seq Zeu (.seq (.seq ZdV Zc5) (.seq Zcz (.seq Zcv .ret)))))))] ZBd (ZdM o x) (fnK Zh0 0 Kf) :=
  Zas ZfC (Zuh o x _ ⟨True.intro, ⟨((!(sizeB o.on)) || ((!(chgB o.okind)) && (o.okind != 1))), fun hc_qq => ⟨True.intro, ⟨((!(chgB o.okind)) && (o.okind != 1)), fun hc_qq_1 => ⟨(Za3 _), (qa1 hc_qq_1)⟩, fun hc_qq_1 => qa2 hc_qq_1, ⟨(Za3 _), (qo1 hc_qq)⟩⟩⟩, fun hc_qq => qo2 hc_qq, (ZvB o x hK h)⟩⟩)
abbrev ZCi (x0 : OpV) (x1 : List Int) : Env := [(0, some (.agg (OpV.cs x0))), (1, some (.agg [.ints .u8 32 x1]))]
theorem Zug (o : OpV) (x : List Int) (Z : Env -> Heap -> Prop) (h : Z ZBd (ZdM o x)) : EvC ZkV Znv (ZCi o x) Yd0 [2, 3, 4] [0, 1, 2] Z := EvC.of (by kernel_rfl) h
def ZlM (o : OpV) (x : List Int) : Prop := ZlN o x
theorem Zvz (o : OpV) (x : List Int) (hK : ZdD o x Kf) (h : ZlM o x) : SemL Try.prog w0 fp ρi 0 73 [Znv, (.seq (.seq Zj8 ZjY) (.seq Zgp (.seq ZfF (.seq Ze5 (.seq Zeu (.seq (.seq ZdV Zc5) (.seq Zcz (.seq Zcv .ret))))))))] (ZCi o x) Yd0 (fnK Zh0 0 Kf) :=
  Zas ZfC (Zug o x _ (Zau (Zau (ZvA o x hK h))))
def Zt7 (o : OpV) (x : List Int) : Prop := ZlM o x
theorem ZDv (o : OpV) (x : List Int) (hK : ZdD o x Kf) (h : Zt7 o x) : SemL Try.prog w0 fp ρi 0 73 [ZCw] (ZCi o x) Yd0 (fnK Zh0 0 Kf) :=
  (Zau (Zvz o x hK h))
end
theorem ZBV (o : OpV) (x : List Int) (hpre : (OpV.Wf o /\ Zg7 x)) : Zt7 o x := by
  unfold Zt7 ZlM ZlN ZlO ZlP ZlQ ZlR ZlS ZlT ZlU ZlV ZlW ZlX ZlY Zqa Zqb Zqc Zqd Zqe ZkW Zqf Zqg Zqh Zqi
  obtain ⟨⟨w1, w2, w3, w4, w5⟩, hx, hb⟩ := hpre
  have hg : (!sizeB o.on || !chgB o.okind && o.okind != 1) = !o.good := by
    unfold OpV.good
    rw [show (o.okind != 1) = !(o.okind == 1) from rfl]
    cases sizeB o.on <;> cases chgB o.okind <;> cases (o.okind == 1) <;> rfl
  rw [hg]
  refine ⟨fun h => OpV.next_bad (ZgK h), fun h => ?_⟩
  have h := Zgm h
  obtain ⟨hs, hk⟩ := OpV.good_true h
  obtain ⟨n1, n2⟩ := OpV.next_good (xs := x) h
  have hd := ZmZ (at_ := o.oat) hs
  have hp : o.place = Zw1 o.oat o.on := rfl
  rw [<- hp] at hd
  rw [n1, n2]
  have m64 := OpV.min64 hs
  intro v6 hv6
  rw [ZmT, ZlC] at hv6
  have e6 : v6 = (o.place : Int) := by split at hv6 <;> omega
  subst e6
  have e7 : IntKind.i64.wrap ((o.place : Int) + o.on) = o.place + o.on := by rw [ZlC]; omega
  rw [e7]
  refine ⟨by omega, by omega, by omega, by omega, ?_⟩
  intro i hi l hl c hc
  have ei : i = o.place := by split at hi <;> omega
  have el : l = o.on.toNat := by omega
  subst ei
  subst el
  have hlen : (List.take o.on.toNat (List.drop o.place x)).length = o.on.toNat := by rw [List.length_take, List.length_drop]; omega
  have hbx : Byt x := hb
  refine ⟨by omega, ⟨hlen, by omega, by omega, (hbx.drop _).take _⟩, ?_⟩
  intro v8 hv8
  have e8 : v8 = o.numAt o.place x := by rw [hv8, List.take_take, show min 8 o.on.toNat = o.on.toNat by omega]; rfl
  have hr := OpV.numAt_range (k := o.place) hs hbx
  rw [<- e8] at hr
  have hl0 : ∀ v, (List.take (min (0 + (min o.on 64).toNat) o.on.toNat) (List.take (0 + (min o.on 64).toNat) (ZhL v (min o.on 64).toNat))).length = min (0 + (min o.on 64).toNat) o.on.toNat := fun v => by
    rw [List.length_take, List.length_take, Zdg]; omega
  simp only [beq_iff_eq, beq_eq_false_iff_ne, bne_iff_ne, bne_eq_false_iff_eq, ne_eq]
  refine ⟨fun k1 => ⟨(OpV.nextAt_none (OpV.put_load k1)).symm, e8⟩, fun k1 => ⟨fun k3 => ?_, fun k3 => ⟨fun k4 => ?_, fun k4 => ?_⟩⟩⟩
  · rw [ZrI hs w5.1 w5.2, e8]
    have hps := OpV.put_swap (k := o.place) (xs := x) k3
    refine ⟨fun hne => ⟨?_, rfl⟩, fun heq => ⟨⟨rfl, by omega, w4.1, w4.2⟩, fun c hc => ⟨by omega, by omega, hx, hl0 _, fun h1 hh1 => ⟨?_, rfl⟩⟩⟩⟩
    · rw [if_neg hne] at hps
      exact (OpV.nextAt_none hps).symm
    · rw [if_pos heq] at hps
      rw [hh1, OpV.laid_eq hs, OpV.nextAt_some hps]
  · intro v9 hv9
    refine ⟨⟨rfl, by omega, by omega, by omega⟩, fun c hc => ⟨by omega, by omega, hx, hl0 _, fun h1 hh1 => ⟨?_, e8⟩⟩⟩
    rw [hh1, OpV.laid_eq hs, OpV.nextAt_some (OpV.put_add k4), hv9, e8]
  · refine ⟨⟨rfl, by omega, w4.1, w4.2⟩, fun c hc => ⟨by omega, by omega, hx, hl0 _, fun h1 hh1 => ⟨?_, e8⟩⟩⟩
    rw [hh1, OpV.laid_eq hs, OpV.nextAt_some (OpV.put_else k1 k3 k4)]
theorem ZDx : Sound Try.prog 60 (ZeB ZCj) := by
  refine ZbP Zr0 ?_
  intro args H K h
  obtain ⟨pre, v, hP, hpre, rfl, hK⟩ := ZbW h
  unfold ZCj at hP
  split at hP
  · obtain ⟨hb, hP⟩ := ZaT hP
    have h0 := hb
    obtain rfl := Nat.eq_of_beq_eq_true h0
    cases hP
    exact ⟨rfl, fun w0 fp ρi => ZDv (OpV.mk _ _ _ _ _) _ hK (ZBV (OpV.mk _ _ _ _ _) _ hpre)⟩
  · cases hP
end Go.Proofs.Ytinjdimejijabaa
