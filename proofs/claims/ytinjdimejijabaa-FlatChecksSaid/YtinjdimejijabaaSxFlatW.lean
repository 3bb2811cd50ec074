/- Part of the proof: SxFlatW. -/
import Derived.Test.YtinjdimejijabaaSxWordK2
import Derived.Test.YtinjdimejijabaaSxWordW2
import Derived.Test.YtinjdimejijabaaSxFlat2
import Derived.Test.YtinjdimejijabaaSxMixT
import Derived.KernelRfl
set_option linter.unusedVariables false
set_option linter.unusedSimpArgs false
set_option maxRecDepth 20000
namespace Go.Proofs.Ytinjdimejijabaa
open Go.Sx
def ZG8 : ZjB := fun args H => match args, H with
  | [.agg [.one (.int .i64 au), .one (.int .i64 ar), .one (.int .i64 aq), .one (.int .i64 ap), .one (.int .i64 ao), .one (.int .i64 an), .one (.int .u64 am), .one (.int .i64 al), .one (.int .i64 ak), .one (.int .i64 aj), .one (.int .i64 ag), .one (.int .i64 af), .one (.int .i64 ae), .one (.int .i64 ad), .ints .u8 ai ac, .ints .u8 ah ab]], ⟨0, []⟩ => bif Nat.beq ai 16 && Nat.beq ah 16 then some (True, fun K => ((!PlanV.right (PlanV.mk au ar aq ap ao an am al ak aj ag af ae ad ac ab)) = true -> K (.tuple [.nilptr, .int .i64 4]) ⟨0, []⟩) /\ ((!PlanV.right (PlanV.mk au ar aq ap ao an am al ak aj ag af ae ad ac ab)) = false -> K (.tuple [.ptr ⟨1, 0, 0, 1⟩ 47, .int .i64 0]) ⟨2, [(1, some ⟨true, [.i au, .i ar, .i aq, .i ap, .i ao, .i an, .one (.int .u64 am), .i al, .i ak, .i aj, .i ag, .i af, .i ae, .i ad, .ints .u8 16 ac, .ints .u8 16 ab, .one (.slice ⟨0, 0, 0, 32⟩ (Int.toNat (PlanV.all (PlanV.mk au ar aq ap ao an am al ak aj ag af ae ad ac ab))) (Int.toNat (PlanV.all (PlanV.mk au ar aq ap ao an am al ak aj ag af ae ad ac ab))))], 0⟩), (0, some ⟨true, [.rows Zad (Int.toNat (PlanV.all (PlanV.mk au ar aq ap ao an am al ak aj ag af ae ad ac ab))) (ZbP (Int.toNat (PlanV.all (PlanV.mk au ar aq ap ao an am al ak aj ag af ae ad ac ab))))], 0⟩)]⟩)) else none
  | _, _ => none
def Zyr : Con := ⟨26, gS ZG8, [], [], []⟩
def Zk0 (p : PlanV) (Kf : SVal -> Heap -> Prop) : Prop := ((!PlanV.right p) = true -> Kf (.tuple [.nilptr, .int .i64 4]) ⟨0, []⟩) /\ ((!PlanV.right p) = false -> Kf (.tuple [.ptr ⟨1, 0, 0, 1⟩ 47, .int .i64 0]) ⟨2, [(1, some ⟨true, [.i p.cores, .i p.banks, .i p.pages, .i p.lines, .i p.arity, .i p.minor, .one (.int .u64 p.major), .i p.ns, .i p.nw, .i p.fs, .i p.fw, .i p.met, .i p.queue, .i p.kind, .ints .u8 16 p.key, .ints .u8 16 p.tag, .one (.slice ⟨0, 0, 0, 32⟩ (Int.toNat (PlanV.all p)) (Int.toNat (PlanV.all p)))], 0⟩), (0, some ⟨true, [.rows Zad (Int.toNat (PlanV.all p)) (ZbP (Int.toNat (PlanV.all p)))], 0⟩)]⟩)
def Zso : ACode := .reg (.op (some 1) (.box (.tm 0)) (.op (some 2) (.mov (.cn (.nilptr))) (.op (some 3) (.mov (.cn (.int .i64 0))) .nil)))
def Zor : ACode := .reg (.op (some 5) (.loadA 46 (.tm 1)) (.op (some 6) (.call 56 [(.tm 5)]) (.op (some 4) (.mov (.tm 6)) .nil)))
def Zlq : ACode := .reg (.op (some 7) (.mov (.tm 4)) (.op (some 8) (.bin .neq (.tm 7) (.cn (.int .i64 0))) .nil))
def Zsn : ACode := .reg (.op (some 9) (.mov (.tm 4)) (.op (some 2) (.mov (.cn (.nilptr))) (.op (some 3) (.mov (.tm 9)) .nil)))
def Zlp : ACode := .cond (.tm 8) (.seq Zsn .ret) .skip
def Zoq : List MStep := [.mk 0 0 (some 10) (.loadA 46 (.tm 1)), .mk 1 0 (some 11) (.loadA 46 (.tm 1)), .mk 2 1 (some 12) (.call 57 [(.tm 11)]), .mk 3 1 (some 13) (.mksliceR Zad (.tm 12) (.tm 12)), .mk 4 0 (some 14) (.build [.i 0, .i 0, .i 0, .i 0, .i 0, .i 0, .one (.int .u64 0), .i 0, .i 0, .i 0, .i 0, .i 0, .i 0, .i 0, .ints .u8 16 (List.replicate 16 0), .ints .u8 16 (List.replicate 16 0), .one (.nilslice)] [(0, 46, (.tm 10)), (46, 1, (.tm 13))]), .mk 5 2 (some 15) (.box (.tm 14)), .mk 6 0 (some 2) (.mov (.tm 15)), .mk 7 0 (some 3) (.mov (.cn (.int .i64 0)))]
def Zia : ACode := .regM Zoq
def ZN6 : ACode := (.seq Zso (.seq (.seq Zor (.seq Zlq Zlp)) (.seq Zia .ret)))
def Zj3 : Res := .many [.tm 2, .tm 3]
theorem ZuW : ZbE Try.prog 26 1 16 ZN6 Zj3 = true := by kernel_rfl
def Zu3 : Zbe := ZdX [ZmX, ZA3] []
theorem ZpB : Zbg Try.prog Zu3 := ZbH ⟨ZqH, ZHB, trivial⟩ trivial
section
variable {w0 : World} {fp : Nat -> Nat -> Prop} {ρi : Rho} {Kf : SVal -> Heap -> Prop}
theorem ZJ6 (p : PlanV) (v4 : Int) (Z : Env -> Heap -> Prop) (h : Z [(2, some (.nilptr)), (3, some (.int .i64 v4))] ⟨1, []⟩) : EvC Zu3 Zsn [(4, some (.int .i64 v4))] ⟨1, []⟩ [2, 3] [] Z := EvC.of (by kernel_rfl) h
theorem ZEl (p : PlanV) (v4 : Int) : RetC Zj3 [(2, some (.nilptr)), (3, some (.int .i64 v4))] ⟨1, []⟩ (.tuple [.nilptr, .int .i64 v4]) := RetC.of (fun Z => by kernel_rfl)
def ZwJ (p : PlanV) (v4 : Int) : Prop := ((!PlanV.right p) = true) /\ (v4 = 4)
theorem ZNF (p : PlanV) (hK : Zk0 p Kf) (v4 : Int) (h : ZwJ p v4) : SemL Try.prog w0 fp ρi 0 16 [Zsn, .ret, (.seq Zia .ret)] [(4, some (.int .i64 v4))] ⟨1, []⟩ (fnK Zj3 0 Kf) :=
  Zae ZpB (ZJ6 p v4 _ (Za7 (R := Zj3) (m := 0) (Kf := Kf) (fun _ _ h => h) (ZEl p v4) (ZbS (Eq.mpr (cg1 (fun (z1 : Int) => Zf5 0 Kf (.tuple [.nilptr, .int .i64 z1]) ⟨1, []⟩) h.2) (Zbo [] [] rfl (by kernel_rfl) rfl (ZbW (Za4 pbd (Za4 pbd Zcu))) Zah rfl (by kernel_rfl) ((hK.1 h.1)))))))
abbrev Yg0 (x0 : PlanV) : Heap := ⟨1, [(0, some ⟨true, (PlanV.cs x0), 0⟩)]⟩
abbrev Yg1 : Env := [(2, some (.ptr ⟨2, 0, 0, 1⟩ 47)), (3, some (.int .i64 0))]
abbrev Yg2 (x0 : PlanV) : Heap := ⟨3, [(1, some ⟨true, [.rows Zad (Int.toNat (PlanV.all x0)) (List.replicate (Int.toNat (PlanV.all x0)) (Tup.dflt Zad))], (((Int.toNat (PlanV.all x0)) - (Int.toNat (PlanV.all x0))) * 32)⟩), (2, some ⟨true, [.i x0.cores, .i x0.banks, .i x0.pages, .i x0.lines, .i x0.arity, .i x0.minor, .one (.int .u64 x0.major), .i x0.ns, .i x0.nw, .i x0.fs, .i x0.fw, .i x0.met, .i x0.queue, .i x0.kind, .ints .u8 16 x0.key, .ints .u8 16 x0.tag, .one (.slice ⟨1, 0, 0, 32⟩ (Int.toNat (PlanV.all x0)) (Int.toNat (PlanV.all x0)))], 0⟩)]⟩
abbrev Yg3 : Env := [(1, some (.ptr ⟨0, 0, 0, 1⟩ 46))]
theorem ZJ5 (p : PlanV) (Z : Env -> Heap -> Prop) (h : (True) /\ ((ZaL (Yg0 p) (Heap.keep (Yg0 p) [0]) (Zdz [0] (Yg0 p)))) /\ ((0 <= (PlanV.all p))) /\ (((PlanV.all p) <= (PlanV.all p))) /\ (((32 : Int) * (PlanV.all p) <= 1048576)) /\ ((ZaL ⟨2, [(0, some ⟨true, (PlanV.cs p), 0⟩), (1, some ⟨true, [.rows Zad (Int.toNat (PlanV.all p)) (List.replicate (Int.toNat (PlanV.all p)) (Tup.dflt Zad))], (((Int.toNat (PlanV.all p)) - (Int.toNat (PlanV.all p))) * 32)⟩)]⟩ (Heap.keep (Yg0 p) [0]) (Zdz [0] (Yg0 p)))) /\ Z Yg1 (Yg2 p)) : EvNC Zu3 Zoq [[0], [], [], [], [], [], [], []] Yg3 (Yg0 p) [2, 3] [1, 2] Z := EvNC.of (by kernel_rfl) h
theorem ZEk (p : PlanV) : RetC Zj3 Yg1 (Yg2 p) (.tuple [.ptr ⟨2, 0, 0, 1⟩ 47, .int .i64 0]) := RetC.of (fun Z => by kernel_rfl)
def ZwI (p : PlanV) : Prop := ((0 <= (PlanV.all p))) /\ ((((32 : Int) * (PlanV.all p) <= 1048576)) /\ (((!PlanV.right p) = false) /\ ((List.replicate (Int.toNat (PlanV.all p)) (Tup.dflt Zad)) = (ZbP (Int.toNat (PlanV.all p)))) /\ ((((Int.toNat (PlanV.all p)) - (Int.toNat (PlanV.all p))) * 32) = 0)))
theorem ZNE (p : PlanV) (hK : Zk0 p Kf) (h : ZwI p) : SemL Try.prog w0 fp ρi 0 16 [Zia, .ret] Yg3 (Yg0 p) (fnK Zj3 0 Kf) :=
  Zhf ZpB (steps := Zoq) (ZJ5 p _ ⟨True.intro, ⟨Zem, ⟨h.1, ⟨(Int.le_refl _), ⟨h.2.1, ⟨(ZfV (by kernel_rfl)), (Za7 (R := Zj3) (m := 0) (Kf := Kf) (fun _ _ h => h) (ZEk p) (ZbS (Eq.mpr (cg2 (fun (z1 : List (Tup Zad)) (z2 : Nat) => Zf5 0 Kf (.tuple [.ptr ⟨2, 0, 0, 1⟩ 47, .int .i64 0]) ⟨3, [(1, some ⟨true, [.rows Zad (Int.toNat (PlanV.all p)) z1], z2⟩), (2, some ⟨true, [.i p.cores, .i p.banks, .i p.pages, .i p.lines, .i p.arity, .i p.minor, .one (.int .u64 p.major), .i p.ns, .i p.nw, .i p.fs, .i p.fw, .i p.met, .i p.queue, .i p.kind, .ints .u8 16 p.key, .ints .u8 16 p.tag, .one (.slice ⟨1, 0, 0, 32⟩ (Int.toNat (PlanV.all p)) (Int.toNat (PlanV.all p)))], 0⟩)]⟩) h.2.2.2.1 h.2.2.2.2) (Zbo [(0, 1), (1, 2)] [1, 0] rfl (by kernel_rfl) rfl (ZbW (Za4 bpt (Za4 pbd Zcu))) (hsc (Zab pbd (Zab pbd (Zab pbd (Zab pbd (Zab pbd (Zab pbd (Zab pbd (Zab pbd (Zab pbd (Zab pbd (Zab pbd (Zab pbd (Zab pbd (Zab pbd (ZaT (ZaT (Zab bsl ZbX))))))))))))))))) (hsc pcs Zah)) rfl (by kernel_rfl) ((hK.2 h.2.2.1))))))⟩⟩⟩⟩⟩⟩)
def Ztp (p : PlanV) (v4 : Int) : Prop := ((v4 != 0) = true -> (ZwJ p v4)) /\ ((v4 != 0) = false -> (ZwI p))
abbrev Yg4 (x0 : Int) : Env := [(1, some (.ptr ⟨0, 0, 0, 1⟩ 46)), (4, some (.int .i64 x0)), (8, some (.bool (x0 != 0)))]
theorem ZND (p : PlanV) (hK : Zk0 p Kf) (v4 : Int) (h : Ztp p v4) : SemL Try.prog w0 fp ρi 0 16 [Zlp, (.seq Zia .ret)] (Yg4 v4) (Yg0 p) (fnK Zj3 0 Kf) :=
  Za9 (q := (v4 != 0)) (by kernel_rfl) (fun hq => (Zag (lpk [4] [] (ZNF p hK v4 (h.1 hq))))) (fun hq => (Zbh (lpk [1] [0] (Zag (ZNE p hK (h.2 hq))))))
abbrev Yg5 (x0 : Int) : Env := [(1, some (.ptr ⟨0, 0, 0, 1⟩ 46)), (4, some (.int .i64 x0))]
theorem ZJ4 (p : PlanV) (v4 : Int) (Z : Env -> Heap -> Prop) (h : Z (Yg4 v4) (Yg0 p)) : EvC Zu3 Zlq (Yg5 v4) (Yg0 p) [1, 4, 8] [0] Z := EvC.of (by kernel_rfl) h
theorem ZNC (p : PlanV) (hK : Zk0 p Kf) (v4 : Int) (h : Ztp p v4) : SemL Try.prog w0 fp ρi 0 16 [Zlq, Zlp, (.seq Zia .ret)] (Yg5 v4) (Yg0 p) (fnK Zj3 0 Kf) :=
  Zae ZpB (ZJ4 p v4 _ (ZND p hK v4 h))
theorem ZJ3 (p : PlanV) (Z : Env -> Heap -> Prop) (h : (True) /\ Z [(1, some (.ptr ⟨0, 0, 0, 1⟩ 46)), (4, some (.int .i64 (bif PlanV.right p then 0 else 4 : Int)))] (Yg0 p)) : EvC Zu3 Zor Yg3 (Yg0 p) [1, 4] [0] Z := EvC.of (by kernel_rfl) h
def Zpa (p : PlanV) : Prop := ∀ v4 : Int, v4 = (bif PlanV.right p then 0 else 4 : Int) -> Ztp p v4
theorem ZNB (p : PlanV) (hK : Zk0 p Kf) (h : Zpa p) : SemL Try.prog w0 fp ρi 0 16 [Zor, (.seq Zlq Zlp), (.seq Zia .ret)] Yg3 (Yg0 p) (fnK Zj3 0 Kf) :=
  Zae ZpB (ZJ3 p _ ⟨True.intro, (Zag (ZNC p hK (bif PlanV.right p then 0 else 4 : Int) (h (bif PlanV.right p then 0 else 4 : Int) rfl)))⟩)
theorem ZJ2 (p : PlanV) (Z : Env -> Heap -> Prop) (h : Z Yg3 (Yg0 p)) : EvC Zu3 Zso [(0, some (.agg (PlanV.cs p)))] ⟨0, []⟩ [1] [0] Z := EvC.of (by kernel_rfl) h
theorem ZNA (p : PlanV) (hK : Zk0 p Kf) (h : Zpa p) : SemL Try.prog w0 fp ρi 0 16 [Zso, (.seq (.seq Zor (.seq Zlq Zlp)) (.seq Zia .ret))] [(0, some (.agg (PlanV.cs p)))] ⟨0, []⟩ (fnK Zj3 0 Kf) :=
  Zae ZpB (ZJ2 p _ (Zag (Zag (ZNB p hK h))))
theorem ZOM (p : PlanV) (hK : Zk0 p Kf) (h : Zpa p) : SemL Try.prog w0 fp ρi 0 16 [ZN6] [(0, some (.agg (PlanV.cs p)))] ⟨0, []⟩ (fnK Zj3 0 Kf) :=
  (Zag (ZNA p hK h))
end
theorem ZNX (p : PlanV) (hpre : True) : Zpa p := by
  unfold Zpa Ztp ZwI ZwJ
  intro v4 h4
  have hl := PlanV.all_bd p
  refine ⟨fun h => ?_, fun h => ?_⟩
  · cases hr : p.right with
    | true => rw [hr] at h4; subst h4; exact absurd h (by decide)
    | false => rw [hr] at h4; subst h4; exact ⟨rfl, rfl⟩
  · cases hr : p.right with
    | false => rw [hr] at h4; subst h4; exact absurd h (by decide)
    | true => exact ⟨by omega, by omega, rfl, rfl, by omega⟩
theorem ZHE : Sound Try.prog 26 (gS ZG8) := by
  refine Zbq ZuW ?_
  intro args H K h
  obtain ⟨pre, out, hD, hpre, hK⟩ := ZhE h
  unfold ZG8 at hD
  split at hD
  · obtain ⟨hb, hD⟩ := ZaM hD
    simp only [Bool.and_eq_true] at hb
    obtain ⟨h0, h1⟩ := hb
    obtain rfl := Nat.eq_of_beq_eq_true h0
    obtain rfl := Nat.eq_of_beq_eq_true h1
    cases hD
    exact ⟨rfl, fun w0 fp ρi => ZOM (PlanV.mk _ _ _ _ _ _ _ _ _ _ _ _ _ _ _ _) hK (ZNX (PlanV.mk _ _ _ _ _ _ _ _ _ _ _ _ _ _ _ _) hpre)⟩
  · cases hD
def ZQf : ZjB := fun args H => match args, H with
  | [.ptr ⟨1, 0, 0, 1⟩ 47, .agg [.one (.int .i64 o_0), .one (.int .i64 o_1), .one (.int .i64 o_2), .one (.int .u64 o_3), .one (.int .u64 o_4)]], ⟨2, [(0, some ⟨true, [.rows [.ints .u8 32] ls_m ls], 0⟩), (1, some ⟨true, [.one (.int .i64 au), .one (.int .i64 ar), .one (.int .i64 aq), .one (.int .i64 ap), .one (.int .i64 ao), .one (.int .i64 an), .one (.int .u64 am), .one (.int .i64 al), .one (.int .i64 ak), .one (.int .i64 aj), .one (.int .i64 ag), .one (.int .i64 af), .one (.int .i64 ae), .one (.int .i64 ad), .ints .u8 ai ac, .ints .u8 ah ab, .one (.slice ⟨0, 0, 0, 32⟩ ls_n ls_c)], 0⟩)]⟩ => bif Nat.beq ai 16 && Nat.beq ah 16 then some (ls_m = ls_n /\ (PlanV.right (PlanV.mk au ar aq ap ao an am al ak aj ag af ae ad ac ab) = true /\ LinesOk (PlanV.mk au ar aq ap ao an am al ak aj ag af ae ad ac ab) ls /\ List.length ls = ls_n /\ ls_n <= ls_c /\ OpV.Wf (OpV.mk o_0 o_1 o_2 o_3 o_4)), fun K => K (.tuple [.int .u64 (PlanV.flatR (PlanV.mk au ar aq ap ao an am al ak aj ag af ae ad ac ab) (OpV.mk o_0 o_1 o_2 o_3 o_4) ls), .int .i64 (PlanV.opCode (PlanV.mk au ar aq ap ao an am al ak aj ag af ae ad ac ab) (OpV.mk o_0 o_1 o_2 o_3 o_4))]) ⟨2, [(0, some ⟨true, [.rows Zad ls_n (PlanV.flatL (PlanV.mk au ar aq ap ao an am al ak aj ag af ae ad ac ab) (OpV.mk o_0 o_1 o_2 o_3 o_4) ls)], 0⟩), (1, some ⟨true, [.i au, .i ar, .i aq, .i ap, .i ao, .i an, .one (.int .u64 am), .i al, .i ak, .i aj, .i ag, .i af, .i ae, .i ad, .ints .u8 16 ac, .ints .u8 16 ab, .one (.slice ⟨0, 0, 0, 32⟩ ls_n ls_c)], 0⟩)]⟩) else none
  | _, _ => none
def ZBq : Con := ⟨27, gS ZQf, [0, 1], [], []⟩
def Zk1 (p : PlanV) (ls : List (Tup Zad)) (ls_n ls_c : Nat) (o : OpV) (Kf : SVal -> Heap -> Prop) : Prop := Kf (.tuple [.int .u64 (PlanV.flatR p o ls), .int .i64 (PlanV.opCode p o)]) ⟨2, [(0, some ⟨true, [.rows Zad ls_n (PlanV.flatL p o ls)], 0⟩), (1, some ⟨true, [.i p.cores, .i p.banks, .i p.pages, .i p.lines, .i p.arity, .i p.minor, .one (.int .u64 p.major), .i p.ns, .i p.nw, .i p.fs, .i p.fw, .i p.met, .i p.queue, .i p.kind, .ints .u8 16 p.key, .ints .u8 16 p.tag, .one (.slice ⟨0, 0, 0, 32⟩ ls_n ls_c)], 0⟩)]⟩
def Zsm : ACode := .reg (.op (some 3) (.box (.tm 1)) (.op (some 4) (.mov (.cn (.int .u64 0))) (.op (some 5) (.mov (.cn (.int .i64 0))) .nil)))
def Zop : Items := .op (some 9) (.mov (.tm 0)) (.op (some 10) (.nilCheck (.tm 9)) (.op (some 11) (.fieldAddr (.tm 10) 0 46) (.op (some 12) (.loadA 46 (.tm 11)) (.op (some 13) (.loadA 5 (.tm 3)) (.op (some 14) (.call 58 [(.tm 12), (.tm 13)]) (.op (some 6) (.mov (.tm 14)) .nil))))))
def Zsl : ACode := .regQ Zop
def Zlo : ACode := .reg (.op (some 15) (.mov (.tm 6)) (.op (some 16) (.bin .neq (.tm 15) (.cn (.int .i64 0))) .nil))
def Zsk : ACode := .reg (.op (some 17) (.mov (.tm 6)) (.op (some 4) (.mov (.cn (.int .u64 0))) (.op (some 5) (.mov (.tm 17)) .nil)))
def Zln : ACode := .cond (.tm 16) (.seq Zsk .ret) .skip
def Zoo : Items := .op (some 19) (.mov (.tm 0)) (.op (some 20) (.nilCheck (.tm 19)) (.op (some 21) (.fieldAddr (.tm 20) 0 46) (.op (some 22) (.loadA 46 (.tm 21)) (.op (some 23) (.loadA 5 (.tm 3)) (.op (some 24) (.call 59 [(.tm 22), (.tm 23)]) (.op (some 18) (.mov (.tm 24)) (.op (some 25) (.extract (.tm 18) 0) (.op (some 26) (.extract (.tm 18) 1) (.op (some 7) (.mov (.tm 25)) (.op (some 8) (.mov (.tm 26)) .nil))))))))))
def Zh9 : ACode := .regQ Zoo
def ZgA : ACode := .reg (.op (some 27) (.mov (.tm 8)) .nil)
def Zon : MTree := (.st 0 0 none (some 29) (.mov (.tm 0)) (.st 1 0 none (some 30) (.nilCheck (.tm 29)) (.st 2 0 none (some 31) (.fieldAddr (.tm 30) 46 1) (.st 3 0 none (some 32) (.load1 (.tm 31)) (.st 4 0 none (some 33) (.mov (.tm 7)) (.st 5 0 none (some 34) (.loadA 5 (.tm 3)) (.st 6 0 none (some 35) (.mov (.tm 0)) (.st 7 0 none (some 36) (.nilCheck (.tm 35)) (.st 8 0 none (some 37) (.fieldAddr (.tm 36) 46 1) (.st 9 0 none (some 38) (.load1 (.tm 37)) (.st 10 0 none (some 39) (.mov (.tm 7)) (.st 11 0 none (some 40) (.idxS (.tm 38) (.tm 39) 32) (.st 12 0 none (some 41) (.loadA 32 (.tm 40)) (.st 13 1 none (some 42) (.call 60 [(.tm 34), (.tm 41)]) (.st 14 0 none (some 28) (.mov (.tm 42)) (.st 15 0 none (some 43) (.extract (.tm 28) 0) (.st 17 0 none (some 45) (.idxS (.tm 32) (.tm 33) 32) (.alt (.st 16 1 none (some 44) (.extract (.tm 28) 1) (.st 18 2 none none (.storeA 32 (.tm 45) (.tm 43)) (.st 19 0 none (some 4) (.mov (.tm 44)) .nil))) (.st 18 2 none none (.storeA 32 (.tm 45) (.tm 43)) (.st 16 0 none (some 44) (.extract (.tm 28) 1) (.st 19 0 none (some 4) (.mov (.tm 44)) .nil)))))))))))))))))))))
def Zyc : ACode := .regT Zon
def Zgz : ACode := .cond (.tm 27) Zyc .skip
def ZeO : ACode := .reg (.op (some 46) (.mov (.tm 4)) (.op (some 4) (.mov (.tm 46)) (.op (some 5) (.mov (.cn (.int .i64 0))) .nil)))
def ZQr : ACode := (.seq Zsm (.seq (.seq Zsl (.seq Zlo Zln)) (.seq (.seq Zh9 (.seq ZgA Zgz)) (.seq ZeO .ret))))
def Zp8 : Res := .many [.tm 4, .tm 5]
theorem Zyw : ZbE Try.prog 27 2 47 ZQr Zp8 = true := by kernel_rfl
def ZAW : Zbe := ZdX [ZtD, ZGy, ZPc] []
theorem ZpC : Zbg Try.prog ZAW := ZbH ⟨ZwR, ZHx, ZR7, trivial⟩ trivial
section
variable {w0 : World} {fp : Nat -> Nat -> Prop} {ρi : Rho} {Kf : SVal -> Heap -> Prop}
abbrev Yg6 (x0 : Nat) (x1 : List (Tup Zad)) (x2 : PlanV) (x3 : Nat) : Heap := ⟨3, [(0, some ⟨true, [.rows Zad x0 x1], 0⟩), (1, some ⟨true, [.i x2.cores, .i x2.banks, .i x2.pages, .i x2.lines, .i x2.arity, .i x2.minor, .one (.int .u64 x2.major), .i x2.ns, .i x2.nw, .i x2.fs, .i x2.fw, .i x2.met, .i x2.queue, .i x2.kind, .ints .u8 16 x2.key, .ints .u8 16 x2.tag, .one (.slice ⟨0, 0, 0, 32⟩ x0 x3)], 0⟩)]⟩
theorem ZJ1 (p : PlanV) (ls : List (Tup Zad)) (ls_n ls_c : Nat) (o : OpV) (v6 : Int) (Z : Env -> Heap -> Prop) (h : Z [(4, some (.int .u64 0)), (5, some (.int .i64 v6))] (Yg6 ls_n ls p ls_c)) : EvC ZAW Zsk [(6, some (.int .i64 v6))] (Yg6 ls_n ls p ls_c) [4, 5] [0, 1] Z := EvC.of (by kernel_rfl) h
theorem ZEj (p : PlanV) (ls : List (Tup Zad)) (ls_n ls_c : Nat) (o : OpV) (v6 : Int) : RetC Zp8 [(4, some (.int .u64 0)), (5, some (.int .i64 v6))] (Yg6 ls_n ls p ls_c) (.tuple [.int .u64 0, .int .i64 v6]) := RetC.of (fun Z => by kernel_rfl)
def ZwH (p : PlanV) (ls : List (Tup Zad)) (ls_n ls_c : Nat) (o : OpV) (v6 : Int) : Prop := (0 = (PlanV.flatR p o ls)) /\ (v6 = (PlanV.opCode p o)) /\ (ls = (PlanV.flatL p o ls))
theorem ZNz (p : PlanV) (ls : List (Tup Zad)) (ls_n ls_c : Nat) (o : OpV) (hK : Zk1 p ls ls_n ls_c o Kf) (v6 : Int) (h : ZwH p ls ls_n ls_c o v6) : SemL Try.prog w0 fp ρi 2 47 [Zsk, .ret, (.seq (.seq Zh9 (.seq ZgA Zgz)) (.seq ZeO .ret))] [(6, some (.int .i64 v6))] (Yg6 ls_n ls p ls_c) (fnK Zp8 2 Kf) :=
  Zae ZpC (ZJ1 p ls ls_n ls_c o v6 _ (Za7 (R := Zp8) (m := 2) (Kf := Kf) (fun _ _ h => h) (ZEj p ls ls_n ls_c o v6) (ZbS (Eq.mpr (cg3 (fun (z1 z2 : Int) (z3 : List (Tup Zad)) => Zf5 2 Kf (.tuple [.int .u64 z1, .int .i64 z2]) (Yg6 ls_n z3 p ls_c)) h.1 h.2.1 h.2.2) (Zbo [] [0, 1] rfl (by kernel_rfl) rfl (ZbW (Za4 pbd (Za4 pbd Zcu))) (hsc pcs (hsc (Zab pbd (Zab pbd (Zab pbd (Zab pbd (Zab pbd (Zab pbd (Zab pbd (Zab pbd (Zab pbd (Zab pbd (Zab pbd (Zab pbd (Zab pbd (Zab pbd (ZaT (ZaT (Zab bsl ZbX))))))))))))))))) Zah)) rfl (by kernel_rfl) (hK))))))
theorem ZJ0 (p : PlanV) (ls : List (Tup Zad)) (ls_n ls_c : Nat) (o : OpV) (v4 : Int) (h0 : List (Tup Zad)) (Z : Env -> Heap -> Prop) (h : Z [(4, some (.int .u64 v4)), (5, some (.int .i64 0))] (Yg6 ls_n h0 p ls_c)) : EvC ZAW ZeO [(4, some (.int .u64 v4))] (Yg6 ls_n h0 p ls_c) [4, 5] [0, 1] Z := EvC.of (by kernel_rfl) h
theorem ZEi (p : PlanV) (ls : List (Tup Zad)) (ls_n ls_c : Nat) (o : OpV) (v4 : Int) (h0 : List (Tup Zad)) : RetC Zp8 [(4, some (.int .u64 v4)), (5, some (.int .i64 0))] (Yg6 ls_n h0 p ls_c) (.tuple [.int .u64 v4, .int .i64 0]) := RetC.of (fun Z => by kernel_rfl)
def Zo9 (p : PlanV) (ls : List (Tup Zad)) (ls_n ls_c : Nat) (o : OpV) (v4 : Int) (h0 : List (Tup Zad)) : Prop := (v4 = (PlanV.flatR p o ls)) /\ (0 = (PlanV.opCode p o)) /\ (h0 = (PlanV.flatL p o ls))
theorem Zw6 (p : PlanV) (ls : List (Tup Zad)) (ls_n ls_c : Nat) (o : OpV) (hK : Zk1 p ls ls_n ls_c o Kf) (v4 : Int) (h0 : List (Tup Zad)) (h : Zo9 p ls ls_n ls_c o v4 h0) : SemL Try.prog w0 fp ρi 2 47 [ZeO, .ret] [(4, some (.int .u64 v4))] (Yg6 ls_n h0 p ls_c) (fnK Zp8 2 Kf) :=
  Zae ZpC (ZJ0 p ls ls_n ls_c o v4 h0 _ (Za7 (R := Zp8) (m := 2) (Kf := Kf) (fun _ _ h => h) (ZEi p ls ls_n ls_c o v4 h0) (ZbS (Eq.mpr (cg3 (fun (z1 z2 : Int) (z3 : List (Tup Zad)) => Zf5 2 Kf (.tuple [.int .u64 z1, .int .i64 z2]) (Yg6 ls_n z3 p ls_c)) h.1 h.2.1 h.2.2) (Zbo [] [0, 1] rfl (by kernel_rfl) rfl (ZbW (Za4 pbd (Za4 pbd Zcu))) (hsc pcs (hsc (Zab pbd (Zab pbd (Zab pbd (Zab pbd (Zab pbd (Zab pbd (Zab pbd (Zab pbd (Zab pbd (Zab pbd (Zab pbd (Zab pbd (Zab pbd (Zab pbd (ZaT (ZaT (Zab bsl ZbX))))))))))))))))) Zah)) rfl (by kernel_rfl) (hK))))))
abbrev Yg7 (x0 : Nat) (x1 : List (Tup Zad)) (x2 : PlanV) (x3 : Nat) (x4 : OpV) : Heap := ⟨3, [(0, some ⟨true, [.rows Zad x0 x1], 0⟩), (1, some ⟨true, [.i x2.cores, .i x2.banks, .i x2.pages, .i x2.lines, .i x2.arity, .i x2.minor, .one (.int .u64 x2.major), .i x2.ns, .i x2.nw, .i x2.fs, .i x2.fw, .i x2.met, .i x2.queue, .i x2.kind, .ints .u8 16 x2.key, .ints .u8 16 x2.tag, .one (.slice ⟨0, 0, 0, 32⟩ x0 x3)], 0⟩), (2, some ⟨true, (OpV.cs x4), 0⟩)]⟩
abbrev Yg8 (x0 : Nat) (x1 : List (Tup Zad)) (x2 : Int) (x3 : OpV) (x4 : PlanV) (x5 : Nat) : Heap := ⟨3, [(0, some ⟨true, [.rows Zad x0 (List.set x1 (0 + (Int.toNat x2)) (((OpV.next x3 (List.getD x1 (0 + (Int.toNat x2)) (Tup.dflt Zad)))) : Tup Zad))], 0⟩), (1, some ⟨true, [.i x4.cores, .i x4.banks, .i x4.pages, .i x4.lines, .i x4.arity, .i x4.minor, .one (.int .u64 x4.major), .i x4.ns, .i x4.nw, .i x4.fs, .i x4.fw, .i x4.met, .i x4.queue, .i x4.kind, .ints .u8 16 x4.key, .ints .u8 16 x4.tag, .one (.slice ⟨0, 0, 0, 32⟩ x0 x5)], 0⟩)]⟩
abbrev Yg9 (x0 : Int) : Env := [(0, some (.ptr ⟨1, 0, 0, 1⟩ 47)), (3, some (.ptr ⟨2, 0, 0, 1⟩ 5)), (7, some (.int .i64 x0))]
theorem ZJZ (p : PlanV) (ls : List (Tup Zad)) (ls_n ls_c : Nat) (o : OpV) (v7 : Int) (Z : Env -> Heap -> Prop) (h : ((0 <= v7)) /\ ((v7 < ((ls_n : Nat) : Int))) /\ (((0 + (Int.toNat v7)) < ls_n)) /\ ((OpV.Wf o /\ Zi4 (List.getD ls (0 + (Int.toNat v7)) (Tup.dflt Zad)))) /\ ((ZaL (Yg7 ls_n ls p ls_c o) (Heap.keep (Yg7 ls_n ls p ls_c o) [0, 1, 2, 1]) (Zdz [0, 1, 2, 1] (Yg7 ls_n ls p ls_c o)))) /\ ((0 <= v7)) /\ ((v7 < ((ls_n : Nat) : Int))) /\ (((ZaL (Yg7 ls_n ls p ls_c o) (Heap.keep (Yg7 ls_n ls p ls_c o) [0, 1, 2, 1]) (Zdz [0, 1, 2, 1] (Yg7 ls_n ls p ls_c o)))) /\ (((0 + (Int.toNat v7)) < ls_n)) /\ ((List.length ls = ls_n)) /\ Z [(4, some (.int .u64 (OpV.result o (List.getD ls (0 + (Int.toNat v7)) (Tup.dflt Zad)))))] (Yg8 ls_n ls v7 o p ls_c)) /\ (((0 + (Int.toNat v7)) < ls_n)) /\ ((List.length ls = ls_n)) /\ Z [(4, some (.int .u64 (OpV.result o (List.getD ls (0 + (Int.toNat v7)) (Tup.dflt Zad)))))] (Yg8 ls_n ls v7 o p ls_c)) : EvTC ZAW Zon [[], [], [], [1], [], [2], [], [], [], [1], [], [], [0], [], [], [], [], [], [], []] (Yg9 v7) (Yg7 ls_n ls p ls_c o) [4] [0, 1] Z := EvTC.of (by kernel_rfl) h
def ZwG (p : PlanV) (ls : List (Tup Zad)) (ls_n ls_c : Nat) (o : OpV) (v7 : Int) : Prop := ((0 <= v7)) /\ (((v7 < ((ls_n : Nat) : Int))) /\ ((((0 + (Int.toNat v7)) < ls_n)) /\ (((OpV.Wf o /\ Zi4 (List.getD ls (0 + (Int.toNat v7)) (Tup.dflt Zad)))) /\ (((0 <= v7)) /\ (((v7 < ((ls_n : Nat) : Int))) /\ (((((0 + (Int.toNat v7)) < ls_n)) /\ (((List.length ls = ls_n)) /\ (∀ v4 : Int, v4 = (OpV.result o (List.getD ls (0 + (Int.toNat v7)) (Tup.dflt Zad))) -> ∀ h0 : List (Tup Zad), h0 = (List.set ls (0 + (Int.toNat v7)) (((OpV.next o (List.getD ls (0 + (Int.toNat v7)) (Tup.dflt Zad)))) : Tup Zad)) -> Zo9 p ls ls_n ls_c o v4 h0))) /\ ((((0 + (Int.toNat v7)) < ls_n)) /\ (((List.length ls = ls_n)) /\ (∀ v4 : Int, v4 = (OpV.result o (List.getD ls (0 + (Int.toNat v7)) (Tup.dflt Zad))) -> ∀ h0 : List (Tup Zad), h0 = (List.set ls (0 + (Int.toNat v7)) (((OpV.next o (List.getD ls (0 + (Int.toNat v7)) (Tup.dflt Zad)))) : Tup Zad)) -> Zo9 p ls ls_n ls_c o v4 h0)))))))))
theorem ZNy (p : PlanV) (ls : List (Tup Zad)) (ls_n ls_c : Nat) (o : OpV) (hK : Zk1 p ls ls_n ls_c o Kf) (v7 : Int) (h : ZwG p ls ls_n ls_c o v7) : SemL Try.prog w0 fp ρi 2 47 [Zyc, (.seq ZeO .ret)] (Yg9 v7) (Yg7 ls_n ls p ls_c o) (fnK Zp8 2 Kf) :=
  ZG5 ZpC (t := Zon) (ZJZ p ls ls_n ls_c o v7 _ ⟨h.1, ⟨h.2.1, ⟨h.2.2.1, ⟨h.2.2.2.1, ⟨Zem, ⟨h.2.2.2.2.1, ⟨h.2.2.2.2.2.1, ⟨⟨Zem, ⟨h.2.2.2.2.2.2.1.1, ⟨h.2.2.2.2.2.2.1.2.1, (Zag (Zw6 p ls ls_n ls_c o hK (OpV.result o (List.getD ls (0 + (Int.toNat v7)) (Tup.dflt Zad))) (List.set ls (0 + (Int.toNat v7)) (((OpV.next o (List.getD ls (0 + (Int.toNat v7)) (Tup.dflt Zad)))) : Tup Zad)) ((h.2.2.2.2.2.2.1.2.2 (OpV.result o (List.getD ls (0 + (Int.toNat v7)) (Tup.dflt Zad))) rfl) (List.set ls (0 + (Int.toNat v7)) (((OpV.next o (List.getD ls (0 + (Int.toNat v7)) (Tup.dflt Zad)))) : Tup Zad)) rfl)))⟩⟩⟩, ⟨h.2.2.2.2.2.2.2.1, ⟨h.2.2.2.2.2.2.2.2.1, (Zag (Zw6 p ls ls_n ls_c o hK (OpV.result o (List.getD ls (0 + (Int.toNat v7)) (Tup.dflt Zad))) (List.set ls (0 + (Int.toNat v7)) (((OpV.next o (List.getD ls (0 + (Int.toNat v7)) (Tup.dflt Zad)))) : Tup Zad)) ((h.2.2.2.2.2.2.2.2.2 (OpV.result o (List.getD ls (0 + (Int.toNat v7)) (Tup.dflt Zad))) rfl) (List.set ls (0 + (Int.toNat v7)) (((OpV.next o (List.getD ls (0 + (Int.toNat v7)) (Tup.dflt Zad)))) : Tup Zad)) rfl)))⟩⟩⟩⟩⟩⟩⟩⟩⟩⟩)
def Zto (p : PlanV) (ls : List (Tup Zad)) (ls_n ls_c : Nat) (o : OpV) (v7 : Int) : Prop := ((PlanV.opB p o) = true -> (ZwG p ls ls_n ls_c o v7)) /\ ((PlanV.opB p o) = false -> (Zo9 p ls ls_n ls_c o 0 ls))
abbrev ZRr (x0 : Int) (x1 : PlanV) (x2 : OpV) : Env := [(0, some (.ptr ⟨1, 0, 0, 1⟩ 47)), (3, some (.ptr ⟨2, 0, 0, 1⟩ 5)), (4, some (.int .u64 0)), (7, some (.int .i64 x0)), (27, some (.bool (PlanV.opB x1 x2)))]
theorem ZNx (p : PlanV) (ls : List (Tup Zad)) (ls_n ls_c : Nat) (o : OpV) (hK : Zk1 p ls ls_n ls_c o Kf) (v7 : Int) (h : Zto p ls ls_n ls_c o v7) : SemL Try.prog w0 fp ρi 2 47 [Zgz, (.seq ZeO .ret)] (ZRr v7 p o) (Yg7 ls_n ls p ls_c o) (fnK Zp8 2 Kf) :=
  Za9 (q := (PlanV.opB p o)) (by kernel_rfl) (fun hq => (lpk [0, 3, 7] [0, 1, 2] (ZNy p ls ls_n ls_c o hK v7 (h.1 hq)))) (fun hq => (Zbh (lpk [4] [0, 1] (Zag (Zw6 p ls ls_n ls_c o hK 0 ls (h.2 hq))))))
abbrev ZRq (x0 : Int) (x1 : PlanV) (x2 : OpV) : Env := [(0, some (.ptr ⟨1, 0, 0, 1⟩ 47)), (3, some (.ptr ⟨2, 0, 0, 1⟩ 5)), (4, some (.int .u64 0)), (7, some (.int .i64 x0)), (8, some (.bool (PlanV.opB x1 x2)))]
theorem ZJY (p : PlanV) (ls : List (Tup Zad)) (ls_n ls_c : Nat) (o : OpV) (v7 : Int) (Z : Env -> Heap -> Prop) (h : Z (ZRr v7 p o) (Yg7 ls_n ls p ls_c o)) : EvC ZAW ZgA (ZRq v7 p o) (Yg7 ls_n ls p ls_c o) [0, 3, 4, 7, 27] [0, 1, 2] Z := EvC.of (by kernel_rfl) h
theorem ZNw (p : PlanV) (ls : List (Tup Zad)) (ls_n ls_c : Nat) (o : OpV) (hK : Zk1 p ls ls_n ls_c o Kf) (v7 : Int) (h : Zto p ls ls_n ls_c o v7) : SemL Try.prog w0 fp ρi 2 47 [ZgA, Zgz, (.seq ZeO .ret)] (ZRq v7 p o) (Yg7 ls_n ls p ls_c o) (fnK Zp8 2 Kf) :=
  Zae ZpC (ZJY p ls ls_n ls_c o v7 _ (ZNx p ls ls_n ls_c o hK v7 h))
abbrev ZOh : Env := [(0, some (.ptr ⟨1, 0, 0, 1⟩ 47)), (3, some (.ptr ⟨2, 0, 0, 1⟩ 5)), (4, some (.int .u64 0))]
theorem ZJX (p : PlanV) (ls : List (Tup Zad)) (ls_n ls_c : Nat) (o : OpV) (Z : Env -> Heap -> Prop) (h : ((SVal.bd 3 (.tuple [.int .i64 (PlanV.opLine p o), .bool (PlanV.opB p o)]))) /\ ((OpV.Wf o) /\ ((.tuple [.int .i64 (PlanV.opLine p o), .bool (PlanV.opB p o)] : SVal) = .tuple [.int .i64 (PlanV.opLine p o), .bool (PlanV.opB p o)]) /\ (ZaL (Yg7 ls_n ls p ls_c o) (Yg7 ls_n ls p ls_c o) [(0, some ⟨true, [.rows Zad ls_n ls], 0⟩), (1, some ⟨true, [.i p.cores, .i p.banks, .i p.pages, .i p.lines, .i p.arity, .i p.minor, .one (.int .u64 p.major), .i p.ns, .i p.nw, .i p.fs, .i p.fw, .i p.met, .i p.queue, .i p.kind, .ints .u8 16 p.key, .ints .u8 16 p.tag, .one (.slice ⟨0, 0, 0, 32⟩ ls_n ls_c)], 0⟩), (2, some ⟨true, (OpV.cs o), 0⟩)])) /\ Z [(0, some (.ptr ⟨1, 0, 0, 1⟩ 47)), (3, some (.ptr ⟨2, 0, 0, 1⟩ 5)), (4, some (.int .u64 0)), (7, some (.int .i64 (PlanV.opLine p o))), (8, some (.bool (PlanV.opB p o)))] (Yg7 ls_n ls p ls_c o)) : EvQC ZAW Zoo [.tuple [.int .i64 (PlanV.opLine p o), .bool (PlanV.opB p o)]] ZOh (Yg7 ls_n ls p ls_c o) [0, 3, 4, 7, 8] [0, 1, 2] Z := EvQC.of (by kernel_rfl) h
def ZwF (p : PlanV) (ls : List (Tup Zad)) (ls_n ls_c : Nat) (o : OpV) : Prop := ((OpV.Wf o)) /\ (∀ v7 : Int, v7 = (PlanV.opLine p o) -> Zto p ls ls_n ls_c o v7)
theorem ZNv (p : PlanV) (ls : List (Tup Zad)) (ls_n ls_c : Nat) (o : OpV) (hK : Zk1 p ls ls_n ls_c o Kf) (h : ZwF p ls ls_n ls_c o) : SemL Try.prog w0 fp ρi 2 47 [Zh9, (.seq ZgA Zgz), (.seq ZeO .ret)] ZOh (Yg7 ls_n ls p ls_c o) (fnK Zp8 2 Kf) :=
  Zid ZpC (its := Zoo) (ZJX p ls ls_n ls_c o _ ⟨(ZeY (τ := ZbF) (by kernel_rfl)).2, ⟨⟨h.1, rfl, (ZaZ _)⟩, (Zag (ZNw p ls ls_n ls_c o hK (PlanV.opLine p o) (h.2 (PlanV.opLine p o) rfl)))⟩⟩)
def Ztn (p : PlanV) (ls : List (Tup Zad)) (ls_n ls_c : Nat) (o : OpV) (v6 : Int) : Prop := ((v6 != 0) = true -> (ZwH p ls ls_n ls_c o v6)) /\ ((v6 != 0) = false -> (ZwF p ls ls_n ls_c o))
abbrev ZRp (x0 : Int) : Env := [(0, some (.ptr ⟨1, 0, 0, 1⟩ 47)), (3, some (.ptr ⟨2, 0, 0, 1⟩ 5)), (4, some (.int .u64 0)), (6, some (.int .i64 x0)), (16, some (.bool (x0 != 0)))]
theorem ZNu (p : PlanV) (ls : List (Tup Zad)) (ls_n ls_c : Nat) (o : OpV) (hK : Zk1 p ls ls_n ls_c o Kf) (v6 : Int) (h : Ztn p ls ls_n ls_c o v6) : SemL Try.prog w0 fp ρi 2 47 [Zln, (.seq (.seq Zh9 (.seq ZgA Zgz)) (.seq ZeO .ret))] (ZRp v6) (Yg7 ls_n ls p ls_c o) (fnK Zp8 2 Kf) :=
  Za9 (q := (v6 != 0)) (by kernel_rfl) (fun hq => (Zag (lpk [6] [0, 1] (ZNz p ls ls_n ls_c o hK v6 (h.1 hq))))) (fun hq => (Zbh (lpk [0, 3, 4] [0, 1, 2] (Zag (Zag (ZNv p ls ls_n ls_c o hK (h.2 hq)))))))
abbrev ZRo (x0 : Int) : Env := [(0, some (.ptr ⟨1, 0, 0, 1⟩ 47)), (3, some (.ptr ⟨2, 0, 0, 1⟩ 5)), (4, some (.int .u64 0)), (6, some (.int .i64 x0))]
theorem ZJW (p : PlanV) (ls : List (Tup Zad)) (ls_n ls_c : Nat) (o : OpV) (v6 : Int) (Z : Env -> Heap -> Prop) (h : Z (ZRp v6) (Yg7 ls_n ls p ls_c o)) : EvC ZAW Zlo (ZRo v6) (Yg7 ls_n ls p ls_c o) [0, 3, 4, 6, 16] [0, 1, 2] Z := EvC.of (by kernel_rfl) h
theorem ZNt (p : PlanV) (ls : List (Tup Zad)) (ls_n ls_c : Nat) (o : OpV) (hK : Zk1 p ls ls_n ls_c o Kf) (v6 : Int) (h : Ztn p ls ls_n ls_c o v6) : SemL Try.prog w0 fp ρi 2 47 [Zlo, Zln, (.seq (.seq Zh9 (.seq ZgA Zgz)) (.seq ZeO .ret))] (ZRo v6) (Yg7 ls_n ls p ls_c o) (fnK Zp8 2 Kf) :=
  Zae ZpC (ZJW p ls ls_n ls_c o v6 _ (ZNu p ls ls_n ls_c o hK v6 h))
theorem ZJV (p : PlanV) (ls : List (Tup Zad)) (ls_n ls_c : Nat) (o : OpV) (Z : Env -> Heap -> Prop) (h : ((SVal.bd 3 (.int .i64 (PlanV.opCode p o)))) /\ ((OpV.Wf o) /\ ((.int .i64 (PlanV.opCode p o) : SVal) = .int .i64 (PlanV.opCode p o)) /\ (ZaL (Yg7 ls_n ls p ls_c o) (Yg7 ls_n ls p ls_c o) [(0, some ⟨true, [.rows Zad ls_n ls], 0⟩), (1, some ⟨true, [.i p.cores, .i p.banks, .i p.pages, .i p.lines, .i p.arity, .i p.minor, .one (.int .u64 p.major), .i p.ns, .i p.nw, .i p.fs, .i p.fw, .i p.met, .i p.queue, .i p.kind, .ints .u8 16 p.key, .ints .u8 16 p.tag, .one (.slice ⟨0, 0, 0, 32⟩ ls_n ls_c)], 0⟩), (2, some ⟨true, (OpV.cs o), 0⟩)])) /\ Z [(0, some (.ptr ⟨1, 0, 0, 1⟩ 47)), (3, some (.ptr ⟨2, 0, 0, 1⟩ 5)), (4, some (.int .u64 0)), (6, some (.int .i64 (PlanV.opCode p o)))] (Yg7 ls_n ls p ls_c o)) : EvQC ZAW Zop [.int .i64 (PlanV.opCode p o)] ZOh (Yg7 ls_n ls p ls_c o) [0, 3, 4, 6] [0, 1, 2] Z := EvQC.of (by kernel_rfl) h
def Zo8 (p : PlanV) (ls : List (Tup Zad)) (ls_n ls_c : Nat) (o : OpV) : Prop := ((OpV.Wf o)) /\ (∀ v6 : Int, v6 = (PlanV.opCode p o) -> Ztn p ls ls_n ls_c o v6)
theorem ZNs (p : PlanV) (ls : List (Tup Zad)) (ls_n ls_c : Nat) (o : OpV) (hK : Zk1 p ls ls_n ls_c o Kf) (h : Zo8 p ls ls_n ls_c o) : SemL Try.prog w0 fp ρi 2 47 [Zsl, (.seq Zlo Zln), (.seq (.seq Zh9 (.seq ZgA Zgz)) (.seq ZeO .ret))] ZOh (Yg7 ls_n ls p ls_c o) (fnK Zp8 2 Kf) :=
  Zid ZpC (its := Zop) (ZJV p ls ls_n ls_c o _ ⟨(ZeY (τ := ZbF) (by kernel_rfl)).2, ⟨⟨h.1, rfl, (ZaZ _)⟩, (Zag (ZNt p ls ls_n ls_c o hK (PlanV.opCode p o) (h.2 (PlanV.opCode p o) rfl)))⟩⟩)
abbrev ZPT (x0 : OpV) : Env := [(0, some (.ptr ⟨1, 0, 0, 1⟩ 47)), (1, some (.agg (OpV.cs x0)))]
abbrev ZPS (x0 : Nat) (x1 : List (Tup Zad)) (x2 : PlanV) (x3 : Nat) : Heap := ⟨2, [(0, some ⟨true, [.rows Zad x0 x1], 0⟩), (1, some ⟨true, [.i x2.cores, .i x2.banks, .i x2.pages, .i x2.lines, .i x2.arity, .i x2.minor, .one (.int .u64 x2.major), .i x2.ns, .i x2.nw, .i x2.fs, .i x2.fw, .i x2.met, .i x2.queue, .i x2.kind, .ints .u8 16 x2.key, .ints .u8 16 x2.tag, .one (.slice ⟨0, 0, 0, 32⟩ x0 x3)], 0⟩)]⟩
theorem ZJU (p : PlanV) (ls : List (Tup Zad)) (ls_n ls_c : Nat) (o : OpV) (Z : Env -> Heap -> Prop) (h : Z ZOh (Yg7 ls_n ls p ls_c o)) : EvC ZAW Zsm (ZPT o) (ZPS ls_n ls p ls_c) [0, 3, 4] [0, 1, 2] Z := EvC.of (by kernel_rfl) h
theorem ZNr (p : PlanV) (ls : List (Tup Zad)) (ls_n ls_c : Nat) (o : OpV) (hK : Zk1 p ls ls_n ls_c o Kf) (h : Zo8 p ls ls_n ls_c o) : SemL Try.prog w0 fp ρi 2 47 [Zsm, (.seq (.seq Zsl (.seq Zlo Zln)) (.seq (.seq Zh9 (.seq ZgA Zgz)) (.seq ZeO .ret)))] (ZPT o) (ZPS ls_n ls p ls_c) (fnK Zp8 2 Kf) :=
  Zae ZpC (ZJU p ls ls_n ls_c o _ (Zag (Zag (ZNs p ls ls_n ls_c o hK h))))
theorem ZR6 (p : PlanV) (ls : List (Tup Zad)) (ls_n ls_c : Nat) (o : OpV) (hK : Zk1 p ls ls_n ls_c o Kf) (h : Zo8 p ls ls_n ls_c o) : SemL Try.prog w0 fp ρi 2 47 [ZQr] (ZPT o) (ZPS ls_n ls p ls_c) (fnK Zp8 2 Kf) :=
  (Zag (ZNr p ls ls_n ls_c o hK h))
end
theorem ZPf (p : PlanV) (ls : List (Tup Zad)) (ls_n ls_c : Nat) (o : OpV) (hpre : (PlanV.right p = true /\ LinesOk p ls /\ List.length ls = ls_n /\ ls_n <= ls_c /\ OpV.Wf o)) : Zo8 p ls ls_n ls_c o := by
  unfold Zo8 Ztn ZwF Zto ZwG Zo9 ZwH
  obtain ⟨hr, hl, h1, h2, hw⟩ := hpre
  refine ⟨hw, fun v6 h6 => ⟨fun h => ?_, fun h => ⟨hw, fun v7 h7 => ⟨fun hB => ?_, fun hB => ?_⟩⟩⟩⟩
  · have hB : ¬ p.opB o = true := fun hB => by
      rw [h6, (PlanV.opB_line hB).2.2.2.1] at h; exact absurd h (by decide)
    unfold PlanV.flatR PlanV.flatL
    rw [if_neg hB, if_neg hB]
    exact ⟨rfl, h6, rfl⟩
  · obtain ⟨e, k0, k1, hc, _⟩ := PlanV.opB_line hB
    rw [e] at h7
    subst h7
    have hl1 := hl.1
    have lok := hl.at_ (k := (o.oat / 32).toNat) (by omega)
    have T : ∀ (v4 : Int), v4 = o.result (ls.getD (0 + (o.oat / 32).toNat) (Tup.dflt Zad)) -> ∀ (h0 : List (Tup Zad)), h0 = ls.set (0 + (o.oat / 32).toNat) (o.next (ls.getD (0 + (o.oat / 32).toNat) (Tup.dflt Zad))) -> v4 = p.flatR o ls /\ 0 = p.opCode o /\ h0 = p.flatL o ls := by
      intro v4 e4 h0 e0
      rw [Nat.zero_add] at e4 e0
      unfold PlanV.flatR PlanV.flatL
      rw [if_pos hB, if_pos hB]
      exact ⟨e4, hc.symm, e0⟩
    have lok2 : Zi4 (ls.getD (0 + (o.oat / 32).toNat) (Tup.dflt Zad)) := by rw [Nat.zero_add]; exact lok
    exact ⟨k0, by omega, by omega, ⟨hw, lok2⟩, k0, by omega, ⟨by omega, h1, T⟩, by omega, h1, T⟩
  · have hB : ¬ p.opB o = true := fun e => by rw [e] at hB; cases hB
    unfold PlanV.flatR PlanV.flatL
    rw [if_neg hB, if_neg hB]
    have : p.opCode o = 0 := by rw [<- h6]; simpa using h
    exact ⟨rfl, this.symm, rfl⟩
theorem ZQh : Sound Try.prog 27 (gS ZQf) := by
  refine Zbq Zyw ?_
  intro args H K h
  obtain ⟨pre, out, hD, hpre, hK⟩ := ZhE h
  unfold ZQf at hD
  split at hD
  · obtain ⟨hb, hD⟩ := ZaM hD
    simp only [Bool.and_eq_true] at hb
    obtain ⟨h0, h1⟩ := hb
    obtain rfl := Nat.eq_of_beq_eq_true h0
    obtain rfl := Nat.eq_of_beq_eq_true h1
    cases hD
    obtain ⟨rfl, hpre⟩ := hpre
    exact ⟨rfl, fun w0 fp ρi => ZR6 (PlanV.mk _ _ _ _ _ _ _ _ _ _ _ _ _ _ _ _) _ _ _ (OpV.mk _ _ _ _ _) hK (ZPf (PlanV.mk _ _ _ _ _ _ _ _ _ _ _ _ _ _ _ _) _ _ _ (OpV.mk _ _ _ _ _) hpre)⟩
  · cases hD
section
variable {w0 : World} {fp : Nat -> Nat -> Prop} {ρi : Rho} {Kf : SVal -> Heap -> Prop}
end
def ZsR : ZjB := fun args H => match args, H with
  | [.slice ⟨0, 0, 0, 32⟩ aa b_c], ⟨1, [(0, some ⟨false, [.rows [.ints .u8 32] b_m b], 0⟩)]⟩ => some (b_m = aa /\ (List.length b = aa /\ aa <= b_c /\ aa <= 1000000), fun K => ∀ cap0 : Nat, aa <= cap0 -> K (.slice ⟨1, 0, 0, 32⟩ aa cap0) ⟨2, [(1, some ⟨true, [.rows Zad aa b], ((cap0 - aa) * 32)⟩), (0, some ⟨false, [.rows Zad aa b], 0⟩)]⟩)
  | _, _ => none
def Zys : Con := ⟨64, gS ZsR, [], [], []⟩
def Zhw (b : List (Tup Zad)) (aa b_c : Nat) (Kf : SVal -> Heap -> Prop) : Prop := ∀ cap0 : Nat, aa <= cap0 -> Kf (.slice ⟨1, 0, 0, 32⟩ aa cap0) ⟨2, [(1, some ⟨true, [.rows Zad aa b], ((cap0 - aa) * 32)⟩), (0, some ⟨false, [.rows Zad aa b], 0⟩)]⟩
def ZrC : ACode := .reg (.op (some 2) (.mov (.cn (.nilslice))) .nil)
def ZnA : ACode := .reg (.op (some 3) (.mov (.tm 0)) (.op (some 4) (.isNil false (.tm 3)) .nil))
def ZrB : ACode := .reg (.op (some 2) (.mov (.cn (.nilslice))) .nil)
def Znz : ACode := .cond (.tm 4) (.seq ZrB .ret) .skip
def ZhU : ACode := .reg (.op (some 5) (.bsliceR Zad 0 []) (.op (some 6) (.mov (.tm 0)) (.op (some 7) (.appendR Zad (.tm 5) (.tm 6)) (.op (some 2) (.mov (.tm 7)) .nil))))
def Zyz : ACode := (.seq ZrC (.seq (.seq ZnA Znz) (.seq ZhU .ret)))
def Zfg : Res := .one (.tm 2)
theorem Zp0 : ZbE Try.prog 64 1 8 Zyz Zfg = true := by kernel_rfl
def ZlM : Zbe := ZdX [] []
theorem Zkh : Zbg Try.prog ZlM := ZbH trivial trivial
section
variable {w0 : World} {fp : Nat -> Nat -> Prop} {ρi : Rho} {Kf : SVal -> Heap -> Prop}
abbrev Zup (x0 : Nat) (x1 : List (Tup Zad)) : Heap := ⟨1, [(0, some ⟨false, [.rows Zad x0 x1], 0⟩)]⟩
theorem ZIF (b : List (Tup Zad)) (aa b_c : Nat) (Z : Env -> Heap -> Prop) (h : Z [(2, some (.nilslice))] (Zup aa b)) : EvC ZlM ZrB [] (Zup aa b) [2] [0] Z := EvC.of (by kernel_rfl) h
theorem ZDG (b : List (Tup Zad)) (aa b_c : Nat) : RetC Zfg [(2, some (.nilslice))] (Zup aa b) (.nilslice) := RetC.of (fun Z => by kernel_rfl)
def ZvS (b : List (Tup Zad)) (aa b_c : Nat) : Prop := (0 = aa) /\ (0 = aa) /\ (([] : List (Tup Zad)) = b) /\ (0 = ((0 - aa) * 32)) /\ ((aa : Nat) <= 0)
theorem ZLS (b : List (Tup Zad)) (aa b_c : Nat) (hK : Zhw b aa b_c Kf) (h : ZvS b aa b_c) : SemL Try.prog w0 fp ρi 1 8 [ZrB, .ret, (.seq ZhU .ret)] [] (Zup aa b) (fnK Zfg 1 Kf) :=
  Zae Zkh (ZIF b aa b_c _ (Za7 (R := Zfg) (m := 1) (Kf := Kf) (fun _ _ h => h) (ZDG b aa b_c) (Zw0 (r2 := .slice ⟨1, 0, 0, 32⟩ 0 0) (H2 := ⟨2, [(1, some ⟨true, [.rows Zad 0 ([] : List (Tup Zad))], 0⟩), (0, some ⟨false, [.rows Zad aa b], 0⟩)]⟩) [(some [.rows Zad 0 ([] : List (Tup Zad))])] rfl (by kernel_rfl) (Eq.mpr (cg4 (fun (z1 z2 : Nat) (z3 : List (Tup Zad)) (z4 : Nat) => Zf5 1 Kf (.slice ⟨1, 0, 0, 32⟩ z1 0) ⟨2, [(1, some ⟨true, [.rows Zad z2 z3], z4⟩), (0, some ⟨false, [.rows Zad aa b], 0⟩)]⟩) h.1 h.2.1 h.2.2.1 h.2.2.2.1) (Zbo [] [1, 0] rfl (by kernel_rfl) rfl bsl (hsc pcs (hsc pcs Zah)) rfl (by kernel_rfl) (hK 0 h.2.2.2.2))))))
abbrev ZRn (x0 : Nat) (x1 : List (Tup Zad)) (x2 : Nat) : Heap := ⟨3, [(0, some ⟨false, [.rows Zad x0 x1], 0⟩), (2, some ⟨true, [.rows Zad (0 + x0) (([] : List (Tup Zad)) ++ x1)], ((x2 - (0 + x0)) * 32)⟩)]⟩
abbrev ZBB (x0 x1 : Nat) : Env := [(0, some (.slice ⟨0, 0, 0, 32⟩ x0 x1))]
theorem ZIE (b : List (Tup Zad)) (aa b_c : Nat) (Z : Env -> Heap -> Prop) (h : (((aa : Nat) = aa)) /\ ((List.length b = aa)) /\ (((0 : Nat) = 0)) /\ ((List.length ([] : List (Tup Zad)) = 0)) /\ (((0 : Nat) = 0)) /\ (((0 + aa) <= 1000000000)) /\ ∀ (c : Nat), (0 + aa) <= c -> Z [(2, some (.slice ⟨2, 0, 0, 32⟩ (0 + aa) c))] (ZRn aa b c)) : EvC ZlM ZhU (ZBB aa b_c) (Zup aa b) [2] [0, 2] Z := EvC.of (by kernel_rfl) h
theorem ZDF (b : List (Tup Zad)) (aa b_c c : Nat) : RetC Zfg [(2, some (.slice ⟨2, 0, 0, 32⟩ (0 + aa) c))] (ZRn aa b c) (.slice ⟨2, 0, 0, 32⟩ (0 + aa) c) := RetC.of (fun Z => by kernel_rfl)
def ZvR (b : List (Tup Zad)) (aa b_c : Nat) : Prop := ((List.length b = aa)) /\ ((((0 + aa) <= 1000000000)) /\ (∀ (c : Nat), ((0 + aa) <= c) -> (((0 + aa) = aa) /\ ((0 + aa) = aa) /\ ((([] : List (Tup Zad)) ++ b) = b) /\ (((c - (0 + aa)) * 32) = ((c - aa) * 32)) /\ ((aa : Nat) <= c))))
theorem ZLR (b : List (Tup Zad)) (aa b_c : Nat) (hK : Zhw b aa b_c Kf) (h : ZvR b aa b_c) : SemL Try.prog w0 fp ρi 1 8 [ZhU, .ret] (ZBB aa b_c) (Zup aa b) (fnK Zfg 1 Kf) :=
  Zae Zkh (ZIE b aa b_c _ ⟨rfl, ⟨h.1, ⟨rfl, ⟨rfl, ⟨rfl, ⟨h.2.1, (fun c h_c_0 => (Za7 (R := Zfg) (m := 1) (Kf := Kf) (fun _ _ h => h) (ZDF b aa b_c c) (ZbS (Eq.mpr (cg4 (fun (z1 z2 : Nat) (z3 : List (Tup Zad)) (z4 : Nat) => Zf5 1 Kf (.slice ⟨2, 0, 0, 32⟩ z1 c) ⟨3, [(0, some ⟨false, [.rows Zad aa b], 0⟩), (2, some ⟨true, [.rows Zad z2 z3], z4⟩)]⟩) (h.2.2 c h_c_0).1 (h.2.2 c h_c_0).2.1 (h.2.2 c h_c_0).2.2.1 (h.2.2 c h_c_0).2.2.2.1) (Zbo [(1, 2)] [1, 0] rfl (by kernel_rfl) rfl bsl (hsc pcs (hsc pcs Zah)) rfl (by kernel_rfl) (hK c (h.2.2 c h_c_0).2.2.2.2))))))⟩⟩⟩⟩⟩⟩)
def ZvQ (b : List (Tup Zad)) (aa b_c : Nat) (q : Bool) : Prop := (q = true -> (ZvS b aa b_c)) /\ (q = false -> (ZvR b aa b_c))
theorem ZLQ (b : List (Tup Zad)) (aa b_c : Nat) (hK : Zhw b aa b_c Kf) (q : Bool) (h : ZvQ b aa b_c q) : SemL Try.prog w0 fp ρi 1 8 [Znz, (.seq ZhU .ret)] [(0, some (.slice ⟨0, 0, 0, 32⟩ aa b_c)), (4, some (.bool q))] (Zup aa b) (fnK Zfg 1 Kf) :=
  Za9 (q := q) (by kernel_rfl) (fun hq => (Zag (lpk [] [0] (ZLS b aa b_c hK (h.1 hq))))) (fun hq => (Zbh (lpk [0] [0] (Zag (ZLR b aa b_c hK (h.2 hq))))))
theorem ZID (b : List (Tup Zad)) (aa b_c : Nat) (Z : Env -> Heap -> Prop) (h : ∀ (q : Bool), (q = true -> aa = 0 /\ b_c = 0) -> Z [(0, some (.slice ⟨0, 0, 0, 32⟩ aa b_c)), (4, some (.bool q))] (Zup aa b)) : EvC ZlM ZnA (ZBB aa b_c) (Zup aa b) [0, 4] [0] Z := EvC.of (by kernel_rfl) h
def Zo0 (b : List (Tup Zad)) (aa b_c : Nat) : Prop := ∀ (q : Bool), ((q = true -> aa = 0 /\ b_c = 0)) -> (ZvQ b aa b_c q)
theorem ZLP (b : List (Tup Zad)) (aa b_c : Nat) (hK : Zhw b aa b_c Kf) (h : Zo0 b aa b_c) : SemL Try.prog w0 fp ρi 1 8 [ZnA, Znz, (.seq ZhU .ret)] (ZBB aa b_c) (Zup aa b) (fnK Zfg 1 Kf) :=
  Zae Zkh (ZID b aa b_c _ (fun q h_q_0 => (ZLQ b aa b_c hK q (h q h_q_0))))
theorem ZIC (b : List (Tup Zad)) (aa b_c : Nat) (Z : Env -> Heap -> Prop) (h : Z (ZBB aa b_c) (Zup aa b)) : EvC ZlM ZrC (ZBB aa b_c) (Zup aa b) [0] [0] Z := EvC.of (by kernel_rfl) h
theorem ZLO (b : List (Tup Zad)) (aa b_c : Nat) (hK : Zhw b aa b_c Kf) (h : Zo0 b aa b_c) : SemL Try.prog w0 fp ρi 1 8 [ZrC, (.seq (.seq ZnA Znz) (.seq ZhU .ret))] (ZBB aa b_c) (Zup aa b) (fnK Zfg 1 Kf) :=
  Zae Zkh (ZIC b aa b_c _ (Zag (Zag (ZLP b aa b_c hK h))))
theorem ZBM (b : List (Tup Zad)) (aa b_c : Nat) (hK : Zhw b aa b_c Kf) (h : Zo0 b aa b_c) : SemL Try.prog w0 fp ρi 1 8 [Zyz] (ZBB aa b_c) (Zup aa b) (fnK Zfg 1 Kf) :=
  (Zag (ZLO b aa b_c hK h))
end
theorem ZAj (b : List (Tup Zad)) (aa b_c : Nat) (hpre : (List.length b = aa /\ aa <= b_c /\ aa <= 1000000)) : Zo0 b aa b_c := by
  unfold Zo0 ZvQ ZvR ZvS
  obtain ⟨h1, h2, h3⟩ := hpre
  refine fun q hq => ⟨fun h => ?_, fun h => ⟨h1, by omega, fun c hc => ⟨by omega, by omega, rfl, by rw [Nat.zero_add], by omega⟩⟩⟩
  have hb := (hq h).1
  have : b = [] := List.length_eq_zero_iff.1 (by omega)
  subst this
  exact ⟨by omega, by omega, rfl, by rw [hb], by omega⟩
theorem ZBY : Sound Try.prog 64 (gS ZsR) := by
  refine Zbq Zp0 ?_
  intro args H K h
  obtain ⟨pre, out, hD, hpre, hK⟩ := ZhE h
  unfold ZsR at hD
  split at hD
  · cases hD
    obtain ⟨rfl, hpre⟩ := hpre
    exact ⟨rfl, fun w0 fp ρi => ZBM _ _ _ hK (ZAj _ _ _ hpre)⟩
  · cases hD
end Go.Proofs.Ytinjdimejijabaa
