/- Part of the proof: SxFlatX. -/
import Derived.Test.YtinjdimejijabaaSxWordK2
import Derived.Test.YtinjdimejijabaaSxWordW2
import Derived.Test.YtinjdimejijabaaSxFlat2
import Derived.Test.YtinjdimejijabaaSxMixT
import Derived.KernelRfl
set_option linter.unusedVariables false
set_option linter.unusedSimpArgs false
set_option maxRecDepth 20000
namespace Go.Proofs.Ytinjdimejijabaa
open Go.Sx
def ZG7 : ZjB := fun args H => match args, H with
  | [.agg [.one (.int .i64 aw), .one (.int .i64 av), .one (.int .i64 au), .one (.int .i64 ar), .one (.int .i64 aq), .one (.int .i64 ap), .one (.int .u64 ao), .one (.int .i64 an), .one (.int .i64 am), .one (.int .i64 al), .one (.int .i64 ah), .one (.int .i64 ag), .one (.int .i64 af), .one (.int .i64 ae), .ints .u8 ak ad, .ints .u8 aj ac]], ⟨0, []⟩ => bif Nat.beq ak 16 && Nat.beq aj 16 then some ((PlanV.right (PlanV.mk aw av au ar aq ap ao an am al ah ag af ae ad ac) = true), fun K => ∀ cap0 : Nat, (32 * (Int.toNat (PlanV.all (PlanV.mk aw av au ar aq ap ao an am al ah ag af ae ad ac)))) <= cap0 -> K (.ptr ⟨1, 0, 0, 1⟩ 47) ⟨2, [(1, some ⟨true, [.i aw, .i av, .i au, .i ar, .i aq, .i ap, .one (.int .u64 ao), .i an, .i am, .i al, .i ah, .i ag, .i af, .i ae, .ints .u8 16 ad, .ints .u8 16 ac, .one (.slice ⟨0, 0, 0, 1⟩ (32 * (Int.toNat (PlanV.all (PlanV.mk aw av au ar aq ap ao an am al ah ag af ae ad ac)))) cap0)], 0⟩), (0, some ⟨true, [.ints .u8 (32 * (Int.toNat (PlanV.all (PlanV.mk aw av au ar aq ap ao an am al ah ag af ae ad ac)))) (List.replicate (32 * (Int.toNat (PlanV.all (PlanV.mk aw av au ar aq ap ao an am al ah ag af ae ad ac)))) 0)], (cap0 - (32 * (Int.toNat (PlanV.all (PlanV.mk aw av au ar aq ap ao an am al ah ag af ae ad ac)))))⟩)]⟩) else none
  | _, _ => none
def Zyp : Con := ⟨30, gS ZG7, [], [], []⟩
def ZxR (p : PlanV) (Kf : SVal -> Heap -> Prop) : Prop := ∀ cap0 : Nat, (32 * (Int.toNat (PlanV.all p))) <= cap0 -> Kf (.ptr ⟨1, 0, 0, 1⟩ 47) ⟨2, [(1, some ⟨true, [.i p.cores, .i p.banks, .i p.pages, .i p.lines, .i p.arity, .i p.minor, .one (.int .u64 p.major), .i p.ns, .i p.nw, .i p.fs, .i p.fw, .i p.met, .i p.queue, .i p.kind, .ints .u8 16 p.key, .ints .u8 16 p.tag, .one (.slice ⟨0, 0, 0, 1⟩ (32 * (Int.toNat (PlanV.all p))) cap0)], 0⟩), (0, some ⟨true, [.ints .u8 (32 * (Int.toNat (PlanV.all p))) (List.replicate (32 * (Int.toNat (PlanV.all p))) 0)], (cap0 - (32 * (Int.toNat (PlanV.all p))))⟩)]⟩
def Zse : ACode := .reg (.op (some 1) (.box (.tm 0)) (.op (some 2) (.mov (.cn (.nilptr))) .nil))
def Zoe : List MStep := [.mk 0 0 (some 3) (.loadA 46 (.tm 1)), .mk 1 0 (some 4) (.fieldAddr (.tm 1) 2 1), .mk 2 0 (some 5) (.load1 (.tm 4)), .mk 3 0 (some 6) (.bin .mul (.cn (.int .i64 32)) (.tm 5)), .mk 4 0 (some 7) (.fieldAddr (.tm 1) 3 1), .mk 5 0 (some 8) (.load1 (.tm 7)), .mk 6 0 (some 9) (.bin .mul (.tm 6) (.tm 8)), .mk 7 1 (some 10) (.mkslice .u8 (.tm 9) (.tm 9)), .mk 8 0 (some 11) (.build [.i 0, .i 0, .i 0, .i 0, .i 0, .i 0, .one (.int .u64 0), .i 0, .i 0, .i 0, .i 0, .i 0, .i 0, .i 0, .ints .u8 16 (List.replicate 16 0), .ints .u8 16 (List.replicate 16 0), .one (.nilslice)] [(0, 46, (.tm 3)), (46, 1, (.tm 10))]), .mk 9 2 (some 12) (.box (.tm 11)), .mk 10 0 (some 2) (.mov (.tm 12))]
def Zsd : ACode := .regM Zoe
def ZN5 : ACode := (.seq Zse (.seq Zsd .ret))
def Zu1 : Res := .one (.tm 2)
theorem ZuV : ZbE Try.prog 30 1 13 ZN5 Zu1 = true := by kernel_rfl
def ZG6 : Zbe := ZdX [] []
theorem ZBe : Zbg Try.prog ZG6 := ZbH trivial trivial
section
variable {w0 : World} {fp : Nat -> Nat -> Prop} {ρi : Rho} {Kf : SVal -> Heap -> Prop}
abbrev Yl0 (x0 : PlanV) : Heap := ⟨1, [(0, some ⟨true, (PlanV.cs x0), 0⟩)]⟩
abbrev Yl1 (x0 : PlanV) : Heap := ⟨3, [(1, some ⟨true, [.ints .u8 (Int.toNat (IntKind.i64.wrap ((IntKind.i64.wrap (32 * x0.pages)) * x0.lines))) (List.replicate (Int.toNat (IntKind.i64.wrap ((IntKind.i64.wrap (32 * x0.pages)) * x0.lines))) (0 : Int))], ((Int.toNat (IntKind.i64.wrap ((IntKind.i64.wrap (32 * x0.pages)) * x0.lines))) - (Int.toNat (IntKind.i64.wrap ((IntKind.i64.wrap (32 * x0.pages)) * x0.lines))))⟩), (2, some ⟨true, [.i x0.cores, .i x0.banks, .i x0.pages, .i x0.lines, .i x0.arity, .i x0.minor, .one (.int .u64 x0.major), .i x0.ns, .i x0.nw, .i x0.fs, .i x0.fw, .i x0.met, .i x0.queue, .i x0.kind, .ints .u8 16 x0.key, .ints .u8 16 x0.tag, .one (.slice ⟨1, 0, 0, 1⟩ (Int.toNat (IntKind.i64.wrap ((IntKind.i64.wrap (32 * x0.pages)) * x0.lines))) (Int.toNat (IntKind.i64.wrap ((IntKind.i64.wrap (32 * x0.pages)) * x0.lines))))], 0⟩)]⟩
abbrev Yl2 : Env := [(1, some (.ptr ⟨0, 0, 0, 1⟩ 46))]
theorem ZJM (p : PlanV) (Z : Env -> Heap -> Prop) (h : ((0 <= (IntKind.i64.wrap ((IntKind.i64.wrap (32 * p.pages)) * p.lines)))) /\ (((IntKind.i64.wrap ((IntKind.i64.wrap (32 * p.pages)) * p.lines)) <= (IntKind.i64.wrap ((IntKind.i64.wrap (32 * p.pages)) * p.lines)))) /\ (((IntKind.i64.wrap ((IntKind.i64.wrap (32 * p.pages)) * p.lines)) <= 1048576)) /\ ((ZaL ⟨2, [(0, some ⟨true, (PlanV.cs p), 0⟩), (1, some ⟨true, [.ints .u8 (Int.toNat (IntKind.i64.wrap ((IntKind.i64.wrap (32 * p.pages)) * p.lines))) (List.replicate (Int.toNat (IntKind.i64.wrap ((IntKind.i64.wrap (32 * p.pages)) * p.lines))) (0 : Int))], ((Int.toNat (IntKind.i64.wrap ((IntKind.i64.wrap (32 * p.pages)) * p.lines))) - (Int.toNat (IntKind.i64.wrap ((IntKind.i64.wrap (32 * p.pages)) * p.lines))))⟩)]⟩ (Heap.keep (Yl0 p) [0]) (Zdz [0] (Yl0 p)))) /\ Z [(2, some (.ptr ⟨2, 0, 0, 1⟩ 47))] (Yl1 p)) : EvNC ZG6 Zoe [[0], [], [], [], [], [], [], [], [], [], []] Yl2 (Yl0 p) [2] [1, 2] Z := EvNC.of (by kernel_rfl) h
theorem ZEc (p : PlanV) : RetC Zu1 [(2, some (.ptr ⟨2, 0, 0, 1⟩ 47))] (Yl1 p) (.ptr ⟨2, 0, 0, 1⟩ 47) := RetC.of (fun Z => by kernel_rfl)
def Zo6 (p : PlanV) : Prop := ((0 <= (IntKind.i64.wrap ((IntKind.i64.wrap (32 * p.pages)) * p.lines)))) /\ ((((IntKind.i64.wrap ((IntKind.i64.wrap (32 * p.pages)) * p.lines)) <= 1048576)) /\ (((Int.toNat (IntKind.i64.wrap ((IntKind.i64.wrap (32 * p.pages)) * p.lines))) = (32 * (Int.toNat (PlanV.all p)))) /\ ((Int.toNat (IntKind.i64.wrap ((IntKind.i64.wrap (32 * p.pages)) * p.lines))) = (32 * (Int.toNat (PlanV.all p)))) /\ ((List.replicate (Int.toNat (IntKind.i64.wrap ((IntKind.i64.wrap (32 * p.pages)) * p.lines))) (0 : Int)) = (List.replicate (32 * (Int.toNat (PlanV.all p))) 0)) /\ (((Int.toNat (IntKind.i64.wrap ((IntKind.i64.wrap (32 * p.pages)) * p.lines))) - (Int.toNat (IntKind.i64.wrap ((IntKind.i64.wrap (32 * p.pages)) * p.lines)))) = ((Int.toNat (IntKind.i64.wrap ((IntKind.i64.wrap (32 * p.pages)) * p.lines))) - (32 * (Int.toNat (PlanV.all p))))) /\ (((32 * (Int.toNat (PlanV.all p))) : Nat) <= (Int.toNat (IntKind.i64.wrap ((IntKind.i64.wrap (32 * p.pages)) * p.lines))))))
theorem ZNg (p : PlanV) (hK : ZxR p Kf) (h : Zo6 p) : SemL Try.prog w0 fp ρi 0 13 [Zsd, .ret] Yl2 (Yl0 p) (fnK Zu1 0 Kf) :=
  Zhf ZBe (steps := Zoe) (ZJM p _ ⟨h.1, ⟨(Int.le_refl _), ⟨h.2.1, ⟨(ZfV (by kernel_rfl)), (Za7 (R := Zu1) (m := 0) (Kf := Kf) (fun _ _ h => h) (ZEc p) (ZbS (Eq.mpr (cg4 (fun (z1 z2 : Nat) (z3 : List Int) (z4 : Nat) => Zf5 0 Kf (.ptr ⟨2, 0, 0, 1⟩ 47) ⟨3, [(1, some ⟨true, [.ints .u8 z2 z3], z4⟩), (2, some ⟨true, [.i p.cores, .i p.banks, .i p.pages, .i p.lines, .i p.arity, .i p.minor, .one (.int .u64 p.major), .i p.ns, .i p.nw, .i p.fs, .i p.fw, .i p.met, .i p.queue, .i p.kind, .ints .u8 16 p.key, .ints .u8 16 p.tag, .one (.slice ⟨1, 0, 0, 1⟩ z1 (Int.toNat (IntKind.i64.wrap ((IntKind.i64.wrap (32 * p.pages)) * p.lines))))], 0⟩)]⟩) h.2.2.1 h.2.2.2.1 h.2.2.2.2.1 h.2.2.2.2.2.1) (Zbo [(0, 1), (1, 2)] [1, 0] rfl (by kernel_rfl) rfl bpt (hsc (Zab pbd (Zab pbd (Zab pbd (Zab pbd (Zab pbd (Zab pbd (Zab pbd (Zab pbd (Zab pbd (Zab pbd (Zab pbd (Zab pbd (Zab pbd (Zab pbd (ZaT (ZaT (Zab bsl ZbX))))))))))))))))) (hsc pcs Zah)) rfl (by kernel_rfl) (hK (Int.toNat (IntKind.i64.wrap ((IntKind.i64.wrap (32 * p.pages)) * p.lines))) h.2.2.2.2.2.2)))))⟩⟩⟩⟩)
theorem ZJL (p : PlanV) (Z : Env -> Heap -> Prop) (h : Z Yl2 (Yl0 p)) : EvC ZG6 Zse [(0, some (.agg (PlanV.cs p)))] ⟨0, []⟩ [1] [0] Z := EvC.of (by kernel_rfl) h
theorem ZNf (p : PlanV) (hK : ZxR p Kf) (h : Zo6 p) : SemL Try.prog w0 fp ρi 0 13 [Zse, (.seq Zsd .ret)] [(0, some (.agg (PlanV.cs p)))] ⟨0, []⟩ (fnK Zu1 0 Kf) :=
  Zae ZBe (ZJL p _ (Zag (ZNg p hK h)))
theorem ZOL (p : PlanV) (hK : ZxR p Kf) (h : Zo6 p) : SemL Try.prog w0 fp ρi 0 13 [ZN5] [(0, some (.agg (PlanV.cs p)))] ⟨0, []⟩ (fnK Zu1 0 Kf) :=
  (Zag (ZNf p hK h))
end
theorem ZNW (p : PlanV) (hpre : (PlanV.right p = true)) : Zo6 p := by
  unfold Zo6
  have hs := PlanV.right_shaped hpre
  have ha := PlanV.all_sh hs
  have hb := of_decide_eq_true hs
  have w1 : IntKind.i64.wrap (32 * p.pages) = 32 * p.pages := by rw [ZgO]; omega
  have e : 32 * p.pages * p.lines = 32 * p.all := by rw [ha.2.2, Int.mul_assoc]
  have w2 : IntKind.i64.wrap (IntKind.i64.wrap (32 * p.pages) * p.lines) = 32 * p.all := by rw [w1, e, ZgO]; omega
  rw [w2]
  have : (32 * p.all).toNat = 32 * p.all.toNat := by omega
  rw [this]
  exact ⟨by omega, by omega, rfl, rfl, rfl, rfl, Nat.le_refl _⟩
theorem ZHC : Sound Try.prog 30 (gS ZG7) := by
  refine Zbq ZuV ?_
  intro args H K h
  obtain ⟨pre, out, hD, hpre, hK⟩ := ZhE h
  unfold ZG7 at hD
  split at hD
  · obtain ⟨hb, hD⟩ := ZaM hD
    simp only [Bool.and_eq_true] at hb
    obtain ⟨h0, h1⟩ := hb
    obtain rfl := Nat.eq_of_beq_eq_true h0
    obtain rfl := Nat.eq_of_beq_eq_true h1
    cases hD
    exact ⟨rfl, fun w0 fp ρi => ZOL (PlanV.mk _ _ _ _ _ _ _ _ _ _ _ _ _ _ _ _) hK (ZNW (PlanV.mk _ _ _ _ _ _ _ _ _ _ _ _ _ _ _ _) hpre)⟩
  · cases hD
def ZQe : ZjB := fun args H => match args, H with
  | [.ptr ⟨1, 0, 0, 1⟩ 47, .agg [.one (.int .i64 o_0), .one (.int .i64 o_1), .one (.int .i64 o_2), .one (.int .u64 o_3), .one (.int .u64 o_4)]], ⟨2, [(0, some ⟨true, [.ints .u8 bs_m bs], 0⟩), (1, some ⟨true, [.one (.int .i64 aw), .one (.int .i64 av), .one (.int .i64 au), .one (.int .i64 ar), .one (.int .i64 aq), .one (.int .i64 ap), .one (.int .u64 ao), .one (.int .i64 an), .one (.int .i64 am), .one (.int .i64 al), .one (.int .i64 ah), .one (.int .i64 ag), .one (.int .i64 af), .one (.int .i64 ae), .ints .u8 ak ad, .ints .u8 aj ac, .one (.slice ⟨0, 0, 0, 1⟩ aa ab)], 0⟩)]⟩ => bif Nat.beq ak 16 && Nat.beq aj 16 then some (bs_m = aa /\ (PlanV.right (PlanV.mk aw av au ar aq ap ao an am al ah ag af ae ad ac) = true /\ Zfj (PlanV.mk aw av au ar aq ap ao an am al ah ag af ae ad ac) bs /\ List.length bs = aa /\ aa <= ab /\ OpV.Wf (OpV.mk o_0 o_1 o_2 o_3 o_4)), fun K => ((!PlanV.byteB (PlanV.mk aw av au ar aq ap ao an am al ah ag af ae ad ac) (OpV.mk o_0 o_1 o_2 o_3 o_4)) = true -> K (.tuple [.int .u64 0, .int .i64 (PlanV.opCode (PlanV.mk aw av au ar aq ap ao an am al ah ag af ae ad ac) (OpV.mk o_0 o_1 o_2 o_3 o_4))]) ⟨2, [(0, some ⟨true, [.ints .u8 aa bs], 0⟩), (1, some ⟨true, [.i aw, .i av, .i au, .i ar, .i aq, .i ap, .one (.int .u64 ao), .i an, .i am, .i al, .i ah, .i ag, .i af, .i ae, .ints .u8 16 ad, .ints .u8 16 ac, .one (.slice ⟨0, 0, 0, 1⟩ aa ab)], 0⟩)]⟩) /\ ((!PlanV.byteB (PlanV.mk aw av au ar aq ap ao an am al ah ag af ae ad ac) (OpV.mk o_0 o_1 o_2 o_3 o_4)) = false -> ∀ cap0 : Nat, aa <= cap0 -> K (.tuple [.int .u64 (PlanV.byteR (PlanV.mk aw av au ar aq ap ao an am al ah ag af ae ad ac) (OpV.mk o_0 o_1 o_2 o_3 o_4) bs), .int .i64 (PlanV.opCode (PlanV.mk aw av au ar aq ap ao an am al ah ag af ae ad ac) (OpV.mk o_0 o_1 o_2 o_3 o_4))]) ⟨3, [(2, some ⟨true, [.ints .u8 aa (PlanV.byteL (PlanV.mk aw av au ar aq ap ao an am al ah ag af ae ad ac) (OpV.mk o_0 o_1 o_2 o_3 o_4) bs)], (cap0 - aa)⟩), (0, some ⟨true, [.ints .u8 aa bs], 0⟩), (1, some ⟨true, [.i aw, .i av, .i au, .i ar, .i aq, .i ap, .one (.int .u64 ao), .i an, .i am, .i al, .i ah, .i ag, .i af, .i ae, .ints .u8 16 ad, .ints .u8 16 ac, .one (.slice ⟨2, 0, 0, 1⟩ aa cap0)], 0⟩)]⟩)) else none
  | _, _ => none
def ZBp : Con := ⟨31, gS ZQe, [0, 1], [], []⟩
def Zm9 (p : PlanV) (bs : List Int) (aa ab : Nat) (o : OpV) (Kf : SVal -> Heap -> Prop) : Prop := ((!PlanV.byteB p o) = true -> Kf (.tuple [.int .u64 0, .int .i64 (PlanV.opCode p o)]) ⟨2, [(0, some ⟨true, [.ints .u8 aa bs], 0⟩), (1, some ⟨true, [.i p.cores, .i p.banks, .i p.pages, .i p.lines, .i p.arity, .i p.minor, .one (.int .u64 p.major), .i p.ns, .i p.nw, .i p.fs, .i p.fw, .i p.met, .i p.queue, .i p.kind, .ints .u8 16 p.key, .ints .u8 16 p.tag, .one (.slice ⟨0, 0, 0, 1⟩ aa ab)], 0⟩)]⟩) /\ ((!PlanV.byteB p o) = false -> ∀ cap0 : Nat, aa <= cap0 -> Kf (.tuple [.int .u64 (PlanV.byteR p o bs), .int .i64 (PlanV.opCode p o)]) ⟨3, [(2, some ⟨true, [.ints .u8 aa (PlanV.byteL p o bs)], (cap0 - aa)⟩), (0, some ⟨true, [.ints .u8 aa bs], 0⟩), (1, some ⟨true, [.i p.cores, .i p.banks, .i p.pages, .i p.lines, .i p.arity, .i p.minor, .one (.int .u64 p.major), .i p.ns, .i p.nw, .i p.fs, .i p.fw, .i p.met, .i p.queue, .i p.kind, .ints .u8 16 p.key, .ints .u8 16 p.tag, .one (.slice ⟨2, 0, 0, 1⟩ aa cap0)], 0⟩)]⟩)
def Zsc : ACode := .reg (.op (some 3) (.box (.tm 1)) (.op (some 4) (.mov (.cn (.int .u64 0))) (.op (some 5) (.mov (.cn (.int .i64 0))) .nil)))
def Zod : Items := .op (some 9) (.mov (.tm 0)) (.op (some 10) (.nilCheck (.tm 9)) (.op (some 11) (.fieldAddr (.tm 10) 0 46) (.op (some 12) (.loadA 46 (.tm 11)) (.op (some 13) (.loadA 5 (.tm 3)) (.op (some 14) (.call 62 [(.tm 12), (.tm 13)]) (.op (some 6) (.mov (.tm 14)) .nil))))))
def Zsb : ACode := .regQ Zod
def Zlm : ACode := .reg (.op (some 15) (.mov (.tm 6)) (.op (some 16) (.bin .neq (.tm 15) (.cn (.int .i64 0))) (.op (some 17) (.mov (.tm 16)) (.grpJ 17 false (.op (some 18) (.fieldAddr (.tm 3) 0 1) (.op (some 19) (.load1 (.tm 18)) (.op (some 20) (.bin .eql (.tm 19) (.cn (.int .i64 6))) .nil))) 21 (.tm 20) (.cn (.bool true)) (.op (some 22) (.mov (.tm 21)) (.grpJ 22 false (.op (some 23) (.fieldAddr (.tm 3) 0 1) (.op (some 24) (.load1 (.tm 23)) (.op (some 25) (.bin .eql (.tm 24) (.cn (.int .i64 5))) .nil))) 26 (.tm 25) (.cn (.bool true)) .nil))))))
def Zsa : ACode := .reg (.op (some 27) (.mov (.tm 6)) (.op (some 4) (.mov (.cn (.int .u64 0))) (.op (some 5) (.mov (.tm 27)) .nil)))
def Zll : ACode := .cond (.tm 26) (.seq Zsa .ret) .skip
def Zoc : List MStep := [.mk 0 0 (some 29) (.loadA 5 (.tm 3)), .mk 1 0 (some 30) (.mov (.tm 0)), .mk 2 0 (some 31) (.nilCheck (.tm 30)), .mk 3 0 (some 32) (.fieldAddr (.tm 31) 46 1), .mk 4 0 (some 33) (.load1 (.tm 32)), .mk 5 0 (some 34) (.fieldAddr (.tm 3) 1 1), .mk 6 0 (some 35) (.load1 (.tm 34)), .mk 7 2 (some 36) (.call 63 [(.tm 29), (.tm 33), (.tm 35)]), .mk 8 0 (some 28) (.mov (.tm 36)), .mk 9 0 (some 37) (.extract (.tm 28) 0), .mk 10 0 (some 38) (.extract (.tm 28) 1), .mk 11 0 (some 7) (.mov (.tm 37)), .mk 12 0 (some 8) (.mov (.tm 38))]
def Zh6 : ACode := .regM Zoc
def Zgw : ACode := .reg (.op (some 39) (.mov (.tm 0)) (.op (some 40) (.mov (.tm 7)) (.op (some 41) (.nilCheck (.tm 39)) (.op (some 42) (.fieldAddr (.tm 41) 46 1) (.op none (.store1 (.tm 42) (.tm 40)) .nil)))))
def ZfK : ACode := .reg (.op (some 43) (.mov (.tm 8)) (.op (some 4) (.mov (.tm 43)) (.op (some 5) (.mov (.cn (.int .i64 0))) .nil)))
def ZQq : ACode := (.seq Zsc (.seq Zsb (.seq (.seq Zlm Zll) (.seq Zh6 (.seq Zgw (.seq ZfK .ret))))))
def Zuq : Res := .many [.tm 4, .tm 5]
theorem Zyu : ZbE Try.prog 31 2 44 ZQq Zuq = true := by kernel_rfl
def ZBD : Zbe := ZdX [ZuE] [Zyo]
theorem ZqM : Zbg Try.prog ZBD := ZbH ⟨ZwU, trivial⟩ ⟨sqBytes.dC, trivial⟩
section
variable {w0 : World} {fp : Nat -> Nat -> Prop} {ρi : Rho} {Kf : SVal -> Heap -> Prop}
abbrev Yl3 (x0 : Nat) (x1 : List Int) (x2 : PlanV) (x3 : Nat) : Heap := ⟨3, [(0, some ⟨true, [.ints .u8 x0 x1], 0⟩), (1, some ⟨true, [.i x2.cores, .i x2.banks, .i x2.pages, .i x2.lines, .i x2.arity, .i x2.minor, .one (.int .u64 x2.major), .i x2.ns, .i x2.nw, .i x2.fs, .i x2.fw, .i x2.met, .i x2.queue, .i x2.kind, .ints .u8 16 x2.key, .ints .u8 16 x2.tag, .one (.slice ⟨0, 0, 0, 1⟩ x0 x3)], 0⟩)]⟩
theorem ZJK (p : PlanV) (bs : List Int) (aa ab : Nat) (o : OpV) (v6 : Int) (Z : Env -> Heap -> Prop) (h : Z [(4, some (.int .u64 0)), (5, some (.int .i64 v6))] (Yl3 aa bs p ab)) : EvC ZBD Zsa [(6, some (.int .i64 v6))] (Yl3 aa bs p ab) [4, 5] [0, 1] Z := EvC.of (by kernel_rfl) h
theorem ZEb (p : PlanV) (bs : List Int) (aa ab : Nat) (o : OpV) (v6 : Int) : RetC Zuq [(4, some (.int .u64 0)), (5, some (.int .i64 v6))] (Yl3 aa bs p ab) (.tuple [.int .u64 0, .int .i64 v6]) := RetC.of (fun Z => by kernel_rfl)
def Zwx (p : PlanV) (bs : List Int) (aa ab : Nat) (o : OpV) (v6 : Int) : Prop := ((!PlanV.byteB p o) = true) /\ (v6 = (PlanV.opCode p o))
theorem ZNe (p : PlanV) (bs : List Int) (aa ab : Nat) (o : OpV) (hK : Zm9 p bs aa ab o Kf) (v6 : Int) (h : Zwx p bs aa ab o v6) : SemL Try.prog w0 fp ρi 2 44 [Zsa, .ret, (.seq Zh6 (.seq Zgw (.seq ZfK .ret)))] [(6, some (.int .i64 v6))] (Yl3 aa bs p ab) (fnK Zuq 2 Kf) :=
  Zae ZqM (ZJK p bs aa ab o v6 _ (Za7 (R := Zuq) (m := 2) (Kf := Kf) (fun _ _ h => h) (ZEb p bs aa ab o v6) (ZbS (Eq.mpr (cg1 (fun (z1 : Int) => Zf5 2 Kf (.tuple [.int .u64 0, .int .i64 z1]) (Yl3 aa bs p ab)) h.2) (Zbo [] [0, 1] rfl (by kernel_rfl) rfl (ZbW (Za4 pbd (Za4 pbd Zcu))) (hsc pcs (hsc (Zab pbd (Zab pbd (Zab pbd (Zab pbd (Zab pbd (Zab pbd (Zab pbd (Zab pbd (Zab pbd (Zab pbd (Zab pbd (Zab pbd (Zab pbd (Zab pbd (ZaT (ZaT (Zab bsl ZbX))))))))))))))))) Zah)) rfl (by kernel_rfl) ((hK.1 h.1)))))))
abbrev Yl4 (x0 : Nat) (x1 : List Int) (x2 : PlanV) (x3 : Nat) (x4 : List Int) (x5 : Nat) : Heap := ⟨4, [(0, some ⟨true, [.ints .u8 x0 x1], 0⟩), (1, some ⟨true, [.i x2.cores, .i x2.banks, .i x2.pages, .i x2.lines, .i x2.arity, .i x2.minor, .one (.int .u64 x2.major), .i x2.ns, .i x2.nw, .i x2.fs, .i x2.fw, .i x2.met, .i x2.queue, .i x2.kind, .ints .u8 16 x2.key, .ints .u8 16 x2.tag, .one (.slice ⟨3, 0, 0, 1⟩ x0 x3)], 0⟩), (3, some ⟨true, [.ints .u8 x0 x4], x5⟩)]⟩
theorem ZJJ (p : PlanV) (bs : List Int) (aa ab : Nat) (o : OpV) (v8 : Int) (c : Nat) (h3 : List Int) (x3 : Nat) (Z : Env -> Heap -> Prop) (h : Z [(4, some (.int .u64 v8)), (5, some (.int .i64 0))] (Yl4 aa bs p c h3 x3)) : EvC ZBD ZfK [(8, some (.int .u64 v8))] (Yl4 aa bs p c h3 x3) [4, 5] [0, 1, 3] Z := EvC.of (by kernel_rfl) h
theorem ZEa (p : PlanV) (bs : List Int) (aa ab : Nat) (o : OpV) (v8 : Int) (c : Nat) (h3 : List Int) (x3 : Nat) : RetC Zuq [(4, some (.int .u64 v8)), (5, some (.int .i64 0))] (Yl4 aa bs p c h3 x3) (.tuple [.int .u64 v8, .int .i64 0]) := RetC.of (fun Z => by kernel_rfl)
def Zww (p : PlanV) (bs : List Int) (aa ab : Nat) (o : OpV) (v8 : Int) (c : Nat) (h3 : List Int) (x3 : Nat) : Prop := ((!PlanV.byteB p o) = false) /\ (v8 = (PlanV.byteR p o bs)) /\ (0 = (PlanV.opCode p o)) /\ (h3 = (PlanV.byteL p o bs)) /\ (x3 = (c - aa)) /\ ((aa : Nat) <= c)
theorem ZNd (p : PlanV) (bs : List Int) (aa ab : Nat) (o : OpV) (hK : Zm9 p bs aa ab o Kf) (v8 : Int) (c : Nat) (h3 : List Int) (x3 : Nat) (h : Zww p bs aa ab o v8 c h3 x3) : SemL Try.prog w0 fp ρi 2 44 [ZfK, .ret] [(8, some (.int .u64 v8))] (Yl4 aa bs p c h3 x3) (fnK Zuq 2 Kf) :=
  Zae ZqM (ZJJ p bs aa ab o v8 c h3 x3 _ (Za7 (R := Zuq) (m := 2) (Kf := Kf) (fun _ _ h => h) (ZEa p bs aa ab o v8 c h3 x3) (ZbS (Eq.mpr (cg4 (fun (z1 z2 : Int) (z3 : List Int) (z4 : Nat) => Zf5 2 Kf (.tuple [.int .u64 z1, .int .i64 z2]) (Yl4 aa bs p c z3 z4)) h.2.1 h.2.2.1 h.2.2.2.1 h.2.2.2.2.1) (Zbo [(2, 3)] [2, 0, 1] rfl (by kernel_rfl) rfl (ZbW (Za4 pbd (Za4 pbd Zcu))) (hsc pcs (hsc pcs (hsc (Zab pbd (Zab pbd (Zab pbd (Zab pbd (Zab pbd (Zab pbd (Zab pbd (Zab pbd (Zab pbd (Zab pbd (Zab pbd (Zab pbd (Zab pbd (Zab pbd (ZaT (ZaT (Zab bsl ZbX))))))))))))))))) Zah))) rfl (by kernel_rfl) ((hK.2 h.1) c h.2.2.2.2.2))))))
abbrev Yl5 (x0 x1 : Nat) (x2 : Int) : Env := [(0, some (.ptr ⟨1, 0, 0, 1⟩ 47)), (7, some (.slice ⟨3, 0, 0, 1⟩ x0 x1)), (8, some (.int .u64 x2))]
abbrev Yl6 (x0 : Nat) (x1 : List Int) (x2 : PlanV) (x3 : Nat) (x4 : List Int) (x5 : Nat) : Heap := ⟨4, [(0, some ⟨true, [.ints .u8 x0 x1], 0⟩), (1, some ⟨true, [.i x2.cores, .i x2.banks, .i x2.pages, .i x2.lines, .i x2.arity, .i x2.minor, .one (.int .u64 x2.major), .i x2.ns, .i x2.nw, .i x2.fs, .i x2.fw, .i x2.met, .i x2.queue, .i x2.kind, .ints .u8 16 x2.key, .ints .u8 16 x2.tag, .one (.slice ⟨0, 0, 0, 1⟩ x0 x3)], 0⟩), (3, some ⟨true, [.ints .u8 x0 x4], x5⟩)]⟩
theorem ZJI (p : PlanV) (bs : List Int) (aa ab : Nat) (o : OpV) (c : Nat) (v8 : Int) (h3 : List Int) (x3 : Nat) (Z : Env -> Heap -> Prop) (h : Z [(8, some (.int .u64 v8))] (Yl4 aa bs p c h3 x3)) : EvC ZBD Zgw (Yl5 aa c v8) (Yl6 aa bs p ab h3 x3) [8] [0, 1, 3] Z := EvC.of (by kernel_rfl) h
def Zwv (p : PlanV) (bs : List Int) (aa ab : Nat) (o : OpV) (c : Nat) (v8 : Int) (h3 : List Int) (x3 : Nat) : Prop := Zww p bs aa ab o v8 c h3 x3
theorem ZNc (p : PlanV) (bs : List Int) (aa ab : Nat) (o : OpV) (hK : Zm9 p bs aa ab o Kf) (c : Nat) (v8 : Int) (h3 : List Int) (x3 : Nat) (h : Zwv p bs aa ab o c v8 h3 x3) : SemL Try.prog w0 fp ρi 2 44 [Zgw, (.seq ZfK .ret)] (Yl5 aa c v8) (Yl6 aa bs p ab h3 x3) (fnK Zuq 2 Kf) :=
  Zae ZqM (ZJI p bs aa ab o c v8 h3 x3 _ (Zag (ZNd p bs aa ab o hK v8 c h3 x3 h)))
abbrev Yl7 : Env := [(0, some (.ptr ⟨1, 0, 0, 1⟩ 47)), (3, some (.ptr ⟨2, 0, 0, 1⟩ 5))]
theorem ZJH (p : PlanV) (bs : List Int) (aa ab : Nat) (o : OpV) (Z : Env -> Heap -> Prop) (h : (((0 + aa) <= aa)) /\ ((aa = aa)) /\ ((OpV.Wf o /\ sizeB o.on = true /\ List.length (List.take aa bs) = aa /\ aa <= ab /\ aa <= 1000000 /\ Byt (List.take aa bs) /\ 0 <= o.oat /\ o.oat + o.on <= (aa : Int))) /\ ∀ (c : Nat), aa <= c -> Z [(0, some (.ptr ⟨1, 0, 0, 1⟩ 47)), (7, some (.slice ⟨3, 0, 0, 1⟩ aa c)), (8, some (.int .u64 (OpV.numAt o (Int.toNat o.oat) (List.take aa bs))))] ⟨4, [(0, some ⟨true, [.ints .u8 aa bs], 0⟩), (1, some ⟨true, [.i p.cores, .i p.banks, .i p.pages, .i p.lines, .i p.arity, .i p.minor, .one (.int .u64 p.major), .i p.ns, .i p.nw, .i p.fs, .i p.fw, .i p.met, .i p.queue, .i p.kind, .ints .u8 16 p.key, .ints .u8 16 p.tag, .one (.slice ⟨0, 0, 0, 1⟩ aa ab)], 0⟩), (3, some ⟨true, [.ints .u8 aa (OpV.nextAt o (Int.toNat o.oat) (List.take aa bs))], (c - aa)⟩)]⟩) : EvNC ZBD Zoc [[2], [], [], [], [1], [], [], [], [], [], [], [], []] Yl7 ⟨3, [(0, some ⟨true, [.ints .u8 aa bs], 0⟩), (1, some ⟨true, [.i p.cores, .i p.banks, .i p.pages, .i p.lines, .i p.arity, .i p.minor, .one (.int .u64 p.major), .i p.ns, .i p.nw, .i p.fs, .i p.fw, .i p.met, .i p.queue, .i p.kind, .ints .u8 16 p.key, .ints .u8 16 p.tag, .one (.slice ⟨0, 0, 0, 1⟩ aa ab)], 0⟩), (2, some ⟨true, (OpV.cs o), 0⟩)]⟩ [0, 7, 8] [0, 1, 3] Z := EvNC.of (by kernel_rfl) h
def Zwu (p : PlanV) (bs : List Int) (aa ab : Nat) (o : OpV) : Prop := (((0 + aa) <= aa)) /\ (((OpV.Wf o /\ sizeB o.on = true /\ List.length (List.take aa bs) = aa /\ aa <= ab /\ aa <= 1000000 /\ Byt (List.take aa bs) /\ 0 <= o.oat /\ o.oat + o.on <= (aa : Int))) /\ (∀ (c : Nat), (aa <= c) -> (∀ v8 : Int, v8 = (OpV.numAt o (Int.toNat o.oat) (List.take aa bs)) -> ∀ h3 : List Int, h3 = (OpV.nextAt o (Int.toNat o.oat) (List.take aa bs)) -> ∀ x3 : Nat, x3 = (c - aa) -> Zwv p bs aa ab o c v8 h3 x3)))
abbrev Yl8 (x0 : Nat) (x1 : List Int) (x2 : PlanV) (x3 : Nat) (x4 : OpV) : Heap := ⟨3, [(0, some ⟨true, [.ints .u8 x0 x1], 0⟩), (1, some ⟨true, [.i x2.cores, .i x2.banks, .i x2.pages, .i x2.lines, .i x2.arity, .i x2.minor, .one (.int .u64 x2.major), .i x2.ns, .i x2.nw, .i x2.fs, .i x2.fw, .i x2.met, .i x2.queue, .i x2.kind, .ints .u8 16 x2.key, .ints .u8 16 x2.tag, .one (.slice ⟨0, 0, 0, 1⟩ x0 x3)], 0⟩), (2, some ⟨true, (OpV.cs x4), 0⟩)]⟩
theorem ZNb (p : PlanV) (bs : List Int) (aa ab : Nat) (o : OpV) (hK : Zm9 p bs aa ab o Kf) (h : Zwu p bs aa ab o) : SemL Try.prog w0 fp ρi 2 44 [Zh6, (.seq Zgw (.seq ZfK .ret))] Yl7 (Yl8 aa bs p ab o) (fnK Zuq 2 Kf) :=
  Zhf ZqM (steps := Zoc) (ZJH p bs aa ab o _ ⟨h.1, ⟨rfl, ⟨h.2.1, (fun c h_c_0 => (Zag (ZNc p bs aa ab o hK c (OpV.numAt o (Int.toNat o.oat) (List.take aa bs)) (OpV.nextAt o (Int.toNat o.oat) (List.take aa bs)) (c - aa) ((((h.2.2 c h_c_0) (OpV.numAt o (Int.toNat o.oat) (List.take aa bs)) rfl) (OpV.nextAt o (Int.toNat o.oat) (List.take aa bs)) rfl) (c - aa) rfl))))⟩⟩⟩)
def Ztm (p : PlanV) (bs : List Int) (aa ab : Nat) (o : OpV) (v6 : Int) : Prop := ((((v6 != 0) || (o.okind == 6)) || (o.okind == 5)) = true -> (Zwx p bs aa ab o v6)) /\ ((((v6 != 0) || (o.okind == 6)) || (o.okind == 5)) = false -> (Zwu p bs aa ab o))
theorem ZNa (p : PlanV) (bs : List Int) (aa ab : Nat) (o : OpV) (hK : Zm9 p bs aa ab o Kf) (v6 : Int) (h : Ztm p bs aa ab o v6) : SemL Try.prog w0 fp ρi 2 44 [Zll, (.seq Zh6 (.seq Zgw (.seq ZfK .ret)))] [(0, some (.ptr ⟨1, 0, 0, 1⟩ 47)), (3, some (.ptr ⟨2, 0, 0, 1⟩ 5)), (6, some (.int .i64 v6)), (26, some (.bool (((v6 != 0) || (o.okind == 6)) || (o.okind == 5))))] (Yl8 aa bs p ab o) (fnK Zuq 2 Kf) :=
  Za9 (q := (((v6 != 0) || (o.okind == 6)) || (o.okind == 5))) (by kernel_rfl) (fun hq => (Zag (lpk [6] [0, 1] (ZNe p bs aa ab o hK v6 (h.1 hq))))) (fun hq => (Zbh (lpk [0, 3] [0, 1, 2] (Zag (ZNb p bs aa ab o hK (h.2 hq))))))
abbrev Yl9 (x0 : Int) : Env := [(0, some (.ptr ⟨1, 0, 0, 1⟩ 47)), (3, some (.ptr ⟨2, 0, 0, 1⟩ 5)), (6, some (.int .i64 x0))]
theorem ZJG (p : PlanV) (bs : List Int) (aa ab : Nat) (o : OpV) (v6 : Int) (Z : Env -> Heap -> Prop) (h : ∃ qq : Bool, ((v6 != 0) = false -> (ZaL (Yl8 aa bs p ab o) (Yl8 aa bs p ab o) [(0, some ⟨true, [.ints .u8 aa bs], 0⟩), (1, some ⟨true, [.i p.cores, .i p.banks, .i p.pages, .i p.lines, .i p.arity, .i p.minor, .one (.int .u64 p.major), .i p.ns, .i p.nw, .i p.fs, .i p.fw, .i p.met, .i p.queue, .i p.kind, .ints .u8 16 p.key, .ints .u8 16 p.tag, .one (.slice ⟨0, 0, 0, 1⟩ aa ab)], 0⟩), (2, some ⟨true, (OpV.cs o), 0⟩)]) /\ (o.okind == 6) = qq) /\ ((v6 != 0) = true -> true = qq) /\ ∃ qq'1 : Bool, (qq = false -> (ZaL (Yl8 aa bs p ab o) (Yl8 aa bs p ab o) [(0, some ⟨true, [.ints .u8 aa bs], 0⟩), (1, some ⟨true, [.i p.cores, .i p.banks, .i p.pages, .i p.lines, .i p.arity, .i p.minor, .one (.int .u64 p.major), .i p.ns, .i p.nw, .i p.fs, .i p.fw, .i p.met, .i p.queue, .i p.kind, .ints .u8 16 p.key, .ints .u8 16 p.tag, .one (.slice ⟨0, 0, 0, 1⟩ aa ab)], 0⟩), (2, some ⟨true, (OpV.cs o), 0⟩)]) /\ (o.okind == 5) = qq'1) /\ (qq = true -> true = qq'1) /\ Z [(0, some (.ptr ⟨1, 0, 0, 1⟩ 47)), (3, some (.ptr ⟨2, 0, 0, 1⟩ 5)), (6, some (.int .i64 v6)), (26, some (.bool qq'1))] (Yl8 aa bs p ab o)) : EvC ZBD Zlm (Yl9 v6) (Yl8 aa bs p ab o) [0, 3, 6, 26] [0, 1, 2] Z := EvC.of (by kernel_rfl) h
theorem ZM9 (p : PlanV) (bs : List Int) (aa ab : Nat) (o : OpV) (hK : Zm9 p bs aa ab o Kf) (v6 : Int) (h : Ztm p bs aa ab o v6) : SemL Try.prog w0 fp ρi 2 44 [Zlm, Zll, (.seq Zh6 (.seq Zgw (.seq ZfK .ret)))] (Yl9 v6) (Yl8 aa bs p ab o) (fnK Zuq 2 Kf) :=
  Zae ZqM (ZJG p bs aa ab o v6 _ ⟨((v6 != 0) || (o.okind == 6)), fun hc_qq => ⟨(ZaZ _), (qo1 hc_qq)⟩, fun hc_qq => qo2 hc_qq, ⟨(((v6 != 0) || (o.okind == 6)) || (o.okind == 5)), fun hc_qq_1 => ⟨(ZaZ _), (qo1 hc_qq_1)⟩, fun hc_qq_1 => qo2 hc_qq_1, (ZNa p bs aa ab o hK v6 h)⟩⟩)
theorem ZJF (p : PlanV) (bs : List Int) (aa ab : Nat) (o : OpV) (Z : Env -> Heap -> Prop) (h : ((SVal.bd 3 (.int .i64 (PlanV.opCode p o)))) /\ ((OpV.Wf o) /\ ((.int .i64 (PlanV.opCode p o) : SVal) = .int .i64 (PlanV.opCode p o)) /\ (ZaL (Yl8 aa bs p ab o) (Yl8 aa bs p ab o) [(0, some ⟨true, [.ints .u8 aa bs], 0⟩), (1, some ⟨true, [.i p.cores, .i p.banks, .i p.pages, .i p.lines, .i p.arity, .i p.minor, .one (.int .u64 p.major), .i p.ns, .i p.nw, .i p.fs, .i p.fw, .i p.met, .i p.queue, .i p.kind, .ints .u8 16 p.key, .ints .u8 16 p.tag, .one (.slice ⟨0, 0, 0, 1⟩ aa ab)], 0⟩), (2, some ⟨true, (OpV.cs o), 0⟩)])) /\ Z [(0, some (.ptr ⟨1, 0, 0, 1⟩ 47)), (3, some (.ptr ⟨2, 0, 0, 1⟩ 5)), (6, some (.int .i64 (PlanV.opCode p o)))] (Yl8 aa bs p ab o)) : EvQC ZBD Zod [.int .i64 (PlanV.opCode p o)] Yl7 (Yl8 aa bs p ab o) [0, 3, 6] [0, 1, 2] Z := EvQC.of (by kernel_rfl) h
def Zo5 (p : PlanV) (bs : List Int) (aa ab : Nat) (o : OpV) : Prop := ((OpV.Wf o)) /\ (∀ v6 : Int, v6 = (PlanV.opCode p o) -> Ztm p bs aa ab o v6)
theorem ZM8 (p : PlanV) (bs : List Int) (aa ab : Nat) (o : OpV) (hK : Zm9 p bs aa ab o Kf) (h : Zo5 p bs aa ab o) : SemL Try.prog w0 fp ρi 2 44 [Zsb, (.seq (.seq Zlm Zll) (.seq Zh6 (.seq Zgw (.seq ZfK .ret))))] Yl7 (Yl8 aa bs p ab o) (fnK Zuq 2 Kf) :=
  Zid ZqM (its := Zod) (ZJF p bs aa ab o _ ⟨(ZeY (τ := ZbF) (by kernel_rfl)).2, ⟨⟨h.1, rfl, (ZaZ _)⟩, (Zag (Zag (ZM9 p bs aa ab o hK (PlanV.opCode p o) (h.2 (PlanV.opCode p o) rfl))))⟩⟩)
abbrev ZPC (x0 : OpV) : Env := [(0, some (.ptr ⟨1, 0, 0, 1⟩ 47)), (1, some (.agg (OpV.cs x0)))]
abbrev ZHf (x0 : Nat) (x1 : List Int) (x2 : PlanV) (x3 : Nat) : Heap := ⟨2, [(0, some ⟨true, [.ints .u8 x0 x1], 0⟩), (1, some ⟨true, [.i x2.cores, .i x2.banks, .i x2.pages, .i x2.lines, .i x2.arity, .i x2.minor, .one (.int .u64 x2.major), .i x2.ns, .i x2.nw, .i x2.fs, .i x2.fw, .i x2.met, .i x2.queue, .i x2.kind, .ints .u8 16 x2.key, .ints .u8 16 x2.tag, .one (.slice ⟨0, 0, 0, 1⟩ x0 x3)], 0⟩)]⟩
theorem ZJE (p : PlanV) (bs : List Int) (aa ab : Nat) (o : OpV) (Z : Env -> Heap -> Prop) (h : Z Yl7 (Yl8 aa bs p ab o)) : EvC ZBD Zsc (ZPC o) (ZHf aa bs p ab) [0, 3] [0, 1, 2] Z := EvC.of (by kernel_rfl) h
theorem ZM7 (p : PlanV) (bs : List Int) (aa ab : Nat) (o : OpV) (hK : Zm9 p bs aa ab o Kf) (h : Zo5 p bs aa ab o) : SemL Try.prog w0 fp ρi 2 44 [Zsc, (.seq Zsb (.seq (.seq Zlm Zll) (.seq Zh6 (.seq Zgw (.seq ZfK .ret)))))] (ZPC o) (ZHf aa bs p ab) (fnK Zuq 2 Kf) :=
  Zae ZqM (ZJE p bs aa ab o _ (Zag (ZM8 p bs aa ab o hK h)))
theorem ZR5 (p : PlanV) (bs : List Int) (aa ab : Nat) (o : OpV) (hK : Zm9 p bs aa ab o Kf) (h : Zo5 p bs aa ab o) : SemL Try.prog w0 fp ρi 2 44 [ZQq] (ZPC o) (ZHf aa bs p ab) (fnK Zuq 2 Kf) :=
  (Zag (ZM7 p bs aa ab o hK h))
end
theorem ZPe (p : PlanV) (bs : List Int) (aa ab : Nat) (o : OpV) (hpre : (PlanV.right p = true /\ Zfj p bs /\ List.length bs = aa /\ aa <= ab /\ OpV.Wf o)) : Zo5 p bs aa ab o := by
  unfold Zo5 Ztm Zwu Zwv Zww Zwx
  obtain ⟨hr, hl, h1, h2, hw⟩ := hpre
  have ta : List.take aa bs = bs := List.take_of_length_le (by omega)
  have hal := PlanV.all_bd p
  have hl1 := hl.1
  refine ⟨hw, fun v6 h6 => ⟨fun h => ?_, fun h => ?_⟩⟩
  · refine ⟨?_, h6⟩
    unfold PlanV.byteB
    rw [<- h6]
    cases hc : (v6 == 0) with
    | false => rfl
    | true =>
      have e0 : v6 = 0 := by simpa using hc
      subst e0
      have hk : o.okind = 6 ∨ o.okind = 5 := by simpa [Bool.or_eq_true] using h
      rw [decide_eq_false (by omega)]
      rfl
  · have hc : p.opCode o = 0 /\ o.okind ≠ 6 /\ o.okind ≠ 5 := by
      rw [Bool.or_eq_false_iff, Bool.or_eq_false_iff, bne_eq_false_iff_eq, beq_eq_false_iff_ne, beq_eq_false_iff_ne] at h
      exact ⟨by rw [<- h6]; exact h.1.1, h.1.2, h.2⟩
    have hk := PlanV.code_kind hc.1
    have hb : p.byteB o = true := by unfold PlanV.byteB; rw [hc.1, decide_eq_true (by omega)]; rfl
    obtain ⟨_, hg, hs, a0, a1, _⟩ := PlanV.byte_at hb
    rw [ta, hb]
    refine ⟨by omega, ⟨hw, hs, h1, h2, by omega, hl.2, a0, by omega⟩, fun c hcc v8 h8 h3 hh3 x3 hx3 => ⟨rfl, ?_, hc.1.symm, ?_, hx3, hcc⟩⟩
    · rw [h8]; unfold PlanV.byteR; rw [if_pos hb]
    · rw [hh3]; unfold PlanV.byteL; rw [if_pos hb]
theorem ZQg : Sound Try.prog 31 (gS ZQe) := by
  refine Zbq Zyu ?_
  intro args H K h
  obtain ⟨pre, out, hD, hpre, hK⟩ := ZhE h
  unfold ZQe at hD
  split at hD
  · obtain ⟨hb, hD⟩ := ZaM hD
    simp only [Bool.and_eq_true] at hb
    obtain ⟨h0, h1⟩ := hb
    obtain rfl := Nat.eq_of_beq_eq_true h0
    obtain rfl := Nat.eq_of_beq_eq_true h1
    cases hD
    obtain ⟨rfl, hpre⟩ := hpre
    exact ⟨rfl, fun w0 fp ρi => ZR5 (PlanV.mk _ _ _ _ _ _ _ _ _ _ _ _ _ _ _ _) _ _ _ (OpV.mk _ _ _ _ _) hK (ZPe (PlanV.mk _ _ _ _ _ _ _ _ _ _ _ _ _ _ _ _) _ _ _ (OpV.mk _ _ _ _ _) hpre)⟩
  · cases hD
def ZyU : ZjB := fun args H => match args, H with
  | [.ptr ⟨1, 0, 0, 1⟩ 47, .int .i64 n], ⟨2, [(0, some ⟨true, [.ints .u8 bs_m bs], 0⟩), (1, some ⟨true, [.one (.int .i64 aw), .one (.int .i64 av), .one (.int .i64 au), .one (.int .i64 ar), .one (.int .i64 aq), .one (.int .i64 ap), .one (.int .u64 ao), .one (.int .i64 an), .one (.int .i64 am), .one (.int .i64 al), .one (.int .i64 ah), .one (.int .i64 ag), .one (.int .i64 af), .one (.int .i64 ae), .ints .u8 ak ad, .ints .u8 aj ac, .one (.slice ⟨0, 0, 0, 1⟩ aa ab)], 0⟩)]⟩ => bif Nat.beq ak 16 && Nat.beq aj 16 then some (bs_m = aa /\ (PlanV.right (PlanV.mk aw av au ar aq ap ao an am al ah ag af ae ad ac) = true /\ Zfj (PlanV.mk aw av au ar aq ap ao an am al ah ag af ae ad ac) bs /\ List.length bs = aa /\ aa <= ab /\ 0 <= n /\ 32 * n + 32 <= (aa : Int)), fun K => K (.agg [.ints .u8 32 (List.take 32 (List.drop (32 * Int.toNat n) bs))]) ⟨2, [(0, some ⟨true, [.ints .u8 aa bs], 0⟩), (1, some ⟨true, [.i aw, .i av, .i au, .i ar, .i aq, .i ap, .one (.int .u64 ao), .i an, .i am, .i al, .i ah, .i ag, .i af, .i ae, .ints .u8 16 ad, .ints .u8 16 ac, .one (.slice ⟨0, 0, 0, 1⟩ aa ab)], 0⟩)]⟩) else none
  | _, _ => none
def ZAA : Con := ⟨33, gS ZyU, [0, 1], [], []⟩
def ZeM (p : PlanV) (bs : List Int) (aa ab : Nat) (n : Int) (Kf : SVal -> Heap -> Prop) : Prop := Kf (.agg [.ints .u8 32 (List.take 32 (List.drop (32 * Int.toNat n) bs))]) ⟨2, [(0, some ⟨true, [.ints .u8 aa bs], 0⟩), (1, some ⟨true, [.i p.cores, .i p.banks, .i p.pages, .i p.lines, .i p.arity, .i p.minor, .one (.int .u64 p.major), .i p.ns, .i p.nw, .i p.fs, .i p.fw, .i p.met, .i p.queue, .i p.kind, .ints .u8 16 p.key, .ints .u8 16 p.tag, .one (.slice ⟨0, 0, 0, 1⟩ aa ab)], 0⟩)]⟩
def Zr9 : ACode := .reg (.op (some 4) (.alloc [.ints .u8 32 (List.replicate 32 0)]) .nil)
def Zob : ACode := .reg (.op (some 7) (.build [.ints .u8 32 (List.replicate 32 0)] []) (.op (some 5) (.alloc [.ints .u8 32 (List.replicate 32 0)]) (.op none (.storeA 32 (.tm 5) (.tm 7)) .nil)))
def Zlk : ACode := .reg (.op (some 6) (.mov (.cn (.int .i64 0))) .nil)
def Zr8 : ACode := .reg (.op (some 8) (.mov (.tm 6)) (.op (some 9) (.bin .lss (.tm 8) (.cn (.int .i64 32))) .nil))
def Zr7 : ACode := .cond (.tm 9) .skip (.exit 0)
def Zr6 : ACode := .reg (.op (some 12) (.mov (.tm 6)) (.op (some 13) (.mov (.tm 0)) (.op (some 14) (.nilCheck (.tm 13)) (.op (some 15) (.fieldAddr (.tm 14) 46 1) (.op (some 16) (.load1 (.tm 15)) (.op (some 17) (.mov (.tm 1)) (.op (some 18) (.bin .mul (.cn (.int .i64 32)) (.tm 17)) (.op (some 19) (.mov (.tm 6)) (.op (some 20) (.bin .add (.tm 18) (.tm 19)) (.op (some 21) (.idxS (.tm 16) (.tm 20) 1) (.op (some 22) (.load1 (.tm 21)) (.op (some 23) (.idxA (.tm 5) (.tm 12) 32 1) (.op none (.store1 (.tm 23) (.tm 22)) .nil)))))))))))))
def Zoa : ACode := .block 1 Zr6
def Zh5 : ACode := .reg (.op (some 10) (.mov (.tm 6)) (.op (some 11) (.bin .add (.tm 10) (.cn (.int .i64 1))) (.op (some 6) (.mov (.tm 11)) .nil)))
def Zyb : ACode := .loop (.seq (.seq Zr8 Zr7) (.seq Zoa Zh5))
def Zlj : ACode := .block 0 Zyb
def Zfu : ACode := .reg (.op (some 24) (.loadA 32 (.tm 5)) (.op none (.storeA 32 (.tm 4) (.tm 24)) .nil))
def ZBr : ACode := (.seq Zr9 (.seq Zob (.seq (.seq Zlk Zlj) (.seq Zfu .ret))))
def Zhe : Res := .one (.cA 4 32)
theorem Zsx : ZbE Try.prog 33 2 25 ZBr Zhe = true := by kernel_rfl
def ZjW : Zbe := ZdX [] []
theorem ZhN : Zbg Try.prog ZjW := ZbH trivial trivial
section
variable {w0 : World} {fp : Nat -> Nat -> Prop} {ρi : Rho} {Kf : SVal -> Heap -> Prop}
def ZxD (w0 : World) (fp : Nat -> Nat -> Prop) (ρi : Rho) (Kf : SVal -> Heap -> Prop) (p : PlanV) (bs : List Int) (aa ab : Nat) (n : Int) : ZdV := Zch 0 (fun e H => SemL Try.prog w0 fp ρi 2 25 [(.seq Zfu .ret)] e H (fnK Zhe 2 Kf)) (fnK Zhe 2 Kf)
def ZxK (p : PlanV) (bs : List Int) (aa ab : Nat) (n : Int) : Int × List Int -> Prop := fun s => match s with | (v6, h3) => 0 <= v6 /\ v6 <= 32 /\ h3.length = 32 /\ ∀ j : Nat, j < 32 -> h3.getD j 0 = if (j : Int) < v6 then bs.getD (32 * n.toNat + j) 0 else 0
def Zxl (p : PlanV) (bs : List Int) (aa ab : Nat) (n : Int) : Int × List Int -> Nat := fun s => match s with | (v6, h3) => ((32 - v6).toNat)
def Zxx (p : PlanV) (bs : List Int) (aa ab : Nat) (n : Int) : Int × List Int -> Env := fun s => match s with | (v6, h3) => [(0, some (.ptr ⟨1, 0, 0, 1⟩ 47)), (1, some (.int .i64 n)), (4, some (.ptr ⟨2, 0, 0, 1⟩ 32)), (5, some (.ptr ⟨3, 0, 0, 1⟩ 32)), (6, some (.int .i64 v6))]
def Zxr (p : PlanV) (bs : List Int) (aa ab : Nat) (n : Int) : Int × List Int -> Heap := fun s => match s with | (v6, h3) => ⟨4, [(0, some ⟨true, [.ints .u8 aa bs], 0⟩), (1, some ⟨true, [.i p.cores, .i p.banks, .i p.pages, .i p.lines, .i p.arity, .i p.minor, .one (.int .u64 p.major), .i p.ns, .i p.nw, .i p.fs, .i p.fw, .i p.met, .i p.queue, .i p.kind, .ints .u8 16 p.key, .ints .u8 16 p.tag, .one (.slice ⟨0, 0, 0, 1⟩ aa ab)], 0⟩), (2, some ⟨true, [.ints .u8 32 (List.replicate 32 0)], 0⟩), (3, some ⟨true, [.ints .u8 32 h3], 0⟩)]⟩
def Zjn (w0 : World) (fp : Nat -> Nat -> Prop) (ρi : Rho) (Kf : SVal -> Heap -> Prop) (p : PlanV) (bs : List Int) (aa ab : Nat) (n v6 : Int) (h3 : List Int) : ZdV := ZiC 2 (ZxK p bs aa ab n) (Zxl p bs aa ab n) (Zxx p bs aa ab n) (Zxr p bs aa ab n) (v6, h3) (ZxD w0 fp ρi Kf p bs aa ab n)
abbrev Zu8 (x0 : Nat) (x1 : List Int) (x2 : PlanV) (x3 : Nat) (x4 : List Int) : Heap := ⟨4, [(0, some ⟨true, [.ints .u8 x0 x1], 0⟩), (1, some ⟨true, [.i x2.cores, .i x2.banks, .i x2.pages, .i x2.lines, .i x2.arity, .i x2.minor, .one (.int .u64 x2.major), .i x2.ns, .i x2.nw, .i x2.fs, .i x2.fw, .i x2.met, .i x2.queue, .i x2.kind, .ints .u8 16 x2.key, .ints .u8 16 x2.tag, .one (.slice ⟨0, 0, 0, 1⟩ x0 x3)], 0⟩), (2, some ⟨true, [.ints .u8 32 (List.replicate 32 0)], 0⟩), (3, some ⟨true, [.ints .u8 32 x4], 0⟩)]⟩
abbrev ZBA (x0 x1 : Int) : Env := [(0, some (.ptr ⟨1, 0, 0, 1⟩ 47)), (1, some (.int .i64 x0)), (4, some (.ptr ⟨2, 0, 0, 1⟩ 32)), (5, some (.ptr ⟨3, 0, 0, 1⟩ 32)), (6, some (.int .i64 x1))]
theorem ZJD (p : PlanV) (bs : List Int) (aa ab : Nat) (n v6 : Int) (ai h3 : List Int) (Z : Env -> Heap -> Prop) (h : Z [(0, some (.ptr ⟨1, 0, 0, 1⟩ 47)), (1, some (.int .i64 n)), (4, some (.ptr ⟨2, 0, 0, 1⟩ 32)), (5, some (.ptr ⟨3, 0, 0, 1⟩ 32)), (6, some (.int .i64 (IntKind.i64.wrap (v6 + 1))))] (Zu8 aa bs p ab ai)) : EvC ZjW Zh5 (ZBA n v6) (Zu8 aa bs p ab ai) [0, 1, 4, 5, 6] [0, 1, 2, 3] Z := EvC.of (by kernel_rfl) h
def Zwt (p : PlanV) (bs : List Int) (aa ab : Nat) (n v6 : Int) (ai h3 : List Int) : Prop := (0 <= (IntKind.i64.wrap (v6 + 1)) /\ (IntKind.i64.wrap (v6 + 1)) <= 32 /\ ai.length = 32 /\ ∀ j : Nat, j < 32 -> ai.getD j 0 = if (j : Int) < (IntKind.i64.wrap (v6 + 1)) then bs.getD (32 * n.toNat + j) 0 else 0) /\ (((32 - (IntKind.i64.wrap (v6 + 1))).toNat) < ((32 - v6).toNat))
theorem ZM6 (p : PlanV) (bs : List Int) (aa ab : Nat) (n : Int) (hK : ZeM p bs aa ab n Kf) (v6 : Int) (ai h3 : List Int) (h : Zwt p bs aa ab n v6 ai h3) : SemL Try.prog w0 fp ρi 2 25 [Zh5] (ZBA n v6) (Zu8 aa bs p ab ai) (Zjn w0 fp ρi Kf p bs aa ab n v6 h3) :=
  Zae ZhN (ZJD p bs aa ab n v6 ai h3 _ (ZdB (Zdb (x' := ((IntKind.i64.wrap (v6 + 1)), ai)) (τ := tau []) h.1 h.2 (ZbC [] [0, 1, 2, 3] rfl rfl (esc bpt (esc pbd (esc bpt (esc bpt (esc pbd Zba))))) (hsc pcs (hsc (Zab pbd (Zab pbd (Zab pbd (Zab pbd (Zab pbd (Zab pbd (Zab pbd (Zab pbd (Zab pbd (Zab pbd (Zab pbd (Zab pbd (Zab pbd (Zab pbd (ZaT (ZaT (Zab bsl ZbX))))))))))))))))) (hsc pcs (hsc pcs Zah)))) (by kernel_rfl) rfl))))
def ZGK (w0 : World) (fp : Nat -> Nat -> Prop) (ρi : Rho) (Kf : SVal -> Heap -> Prop) (p : PlanV) (bs : List Int) (aa ab : Nat) (n v6 : Int) (h3 : List Int) : ZdV := Zch 1 (fun e H => SemL Try.prog w0 fp ρi 2 25 [Zh5] e H (Zjn w0 fp ρi Kf p bs aa ab n v6 h3)) (Zjn w0 fp ρi Kf p bs aa ab n v6 h3)
theorem ZJC (p : PlanV) (bs : List Int) (aa ab : Nat) (n v6 : Int) (h3 : List Int) (Z : Env -> Heap -> Prop) (h : ((0 <= (IntKind.i64.wrap ((IntKind.i64.wrap (32 * n)) + v6)))) /\ (((IntKind.i64.wrap ((IntKind.i64.wrap (32 * n)) + v6)) < ((aa : Nat) : Int))) /\ (((0 + (Int.toNat (IntKind.i64.wrap ((IntKind.i64.wrap (32 * n)) + v6)))) < aa)) /\ ((0 <= v6)) /\ ((v6 < 32)) /\ (((0 + ((Int.toNat v6) * 1)) < 32)) /\ (((0 + ((Int.toNat v6) * 1)) < List.length h3)) /\ Z (ZBA n v6) ⟨4, [(0, some ⟨true, [.ints .u8 aa bs], 0⟩), (1, some ⟨true, [.i p.cores, .i p.banks, .i p.pages, .i p.lines, .i p.arity, .i p.minor, .one (.int .u64 p.major), .i p.ns, .i p.nw, .i p.fs, .i p.fw, .i p.met, .i p.queue, .i p.kind, .ints .u8 16 p.key, .ints .u8 16 p.tag, .one (.slice ⟨0, 0, 0, 1⟩ aa ab)], 0⟩), (2, some ⟨true, [.ints .u8 32 (List.replicate 32 0)], 0⟩), (3, some ⟨true, [.ints .u8 32 (List.set h3 (0 + ((Int.toNat v6) * 1)) (List.getD bs (0 + (Int.toNat (IntKind.i64.wrap ((IntKind.i64.wrap (32 * n)) + v6)))) 0))], 0⟩)]⟩) : EvC ZjW Zr6 (ZBA n v6) (Zu8 aa bs p ab h3) [0, 1, 4, 5, 6] [0, 1, 2, 3] Z := EvC.of (by kernel_rfl) h
def Ztl (p : PlanV) (bs : List Int) (aa ab : Nat) (n v6 : Int) (h3 : List Int) : Prop := ((0 <= (IntKind.i64.wrap ((IntKind.i64.wrap (32 * n)) + v6)))) /\ ((((IntKind.i64.wrap ((IntKind.i64.wrap (32 * n)) + v6)) < ((aa : Nat) : Int))) /\ ((((0 + (Int.toNat (IntKind.i64.wrap ((IntKind.i64.wrap (32 * n)) + v6)))) < aa)) /\ (((0 <= v6)) /\ (((v6 < 32)) /\ ((((0 + ((Int.toNat v6) * 1)) < 32)) /\ ((((0 + ((Int.toNat v6) * 1)) < List.length h3)) /\ (∀ ai : List Int, ai = (List.set h3 (0 + ((Int.toNat v6) * 1)) (List.getD bs (0 + (Int.toNat (IntKind.i64.wrap ((IntKind.i64.wrap (32 * n)) + v6)))) 0)) -> Zwt p bs aa ab n v6 ai h3)))))))
theorem ZM5 (p : PlanV) (bs : List Int) (aa ab : Nat) (n : Int) (hK : ZeM p bs aa ab n Kf) (v6 : Int) (h3 : List Int) (h : Ztl p bs aa ab n v6 h3) : SemL Try.prog w0 fp ρi 2 25 [Zr6] (ZBA n v6) (Zu8 aa bs p ab h3) (ZGK w0 fp ρi Kf p bs aa ab n v6 h3) :=
  Zae ZhN (ZJC p bs aa ab n v6 h3 _ ⟨h.1, ⟨h.2.1, ⟨h.2.2.1, ⟨h.2.2.2.1, ⟨h.2.2.2.2.1, ⟨h.2.2.2.2.2.1, ⟨h.2.2.2.2.2.2.1, (ZdB (ZM6 p bs aa ab n hK v6 (List.set h3 (0 + ((Int.toNat v6) * 1)) (List.getD bs (0 + (Int.toNat (IntKind.i64.wrap ((IntKind.i64.wrap (32 * n)) + v6)))) 0)) h3 (h.2.2.2.2.2.2.2 (List.set h3 (0 + ((Int.toNat v6) * 1)) (List.getD bs (0 + (Int.toNat (IntKind.i64.wrap ((IntKind.i64.wrap (32 * n)) + v6)))) 0)) rfl)))⟩⟩⟩⟩⟩⟩⟩)
theorem ZM4 (p : PlanV) (bs : List Int) (aa ab : Nat) (n : Int) (hK : ZeM p bs aa ab n Kf) (v6 : Int) (h3 : List Int) (h : Ztl p bs aa ab n v6 h3) : SemL Try.prog w0 fp ρi 2 25 [Zoa, Zh5] (ZBA n v6) (Zu8 aa bs p ab h3) (Zjn w0 fp ρi Kf p bs aa ab n v6 h3) :=
  ZbN (ZM5 p bs aa ab n hK v6 h3 h)
abbrev ZPB (x0 : Nat) (x1 : List Int) (x2 : PlanV) (x3 : Nat) (x4 : List Int) : Heap := ⟨4, [(0, some ⟨true, [.ints .u8 x0 x1], 0⟩), (1, some ⟨true, [.i x2.cores, .i x2.banks, .i x2.pages, .i x2.lines, .i x2.arity, .i x2.minor, .one (.int .u64 x2.major), .i x2.ns, .i x2.nw, .i x2.fs, .i x2.fw, .i x2.met, .i x2.queue, .i x2.kind, .ints .u8 16 x2.key, .ints .u8 16 x2.tag, .one (.slice ⟨0, 0, 0, 1⟩ x0 x3)], 0⟩), (2, some ⟨true, [.ints .u8 32 x4], 0⟩)]⟩
abbrev ZQ0 : Env := [(4, some (.ptr ⟨2, 0, 0, 1⟩ 32)), (5, some (.ptr ⟨3, 0, 0, 1⟩ 32))]
theorem ZJB (p : PlanV) (bs : List Int) (aa ab : Nat) (n : Int) (h3 : List Int) (Z : Env -> Heap -> Prop) (h : Z [(4, some (.ptr ⟨2, 0, 0, 1⟩ 32))] (ZPB aa bs p ab h3)) : EvC ZjW Zfu ZQ0 (Zu8 aa bs p ab h3) [4] [0, 1, 2] Z := EvC.of (by kernel_rfl) h
theorem ZD9 (p : PlanV) (bs : List Int) (aa ab : Nat) (n : Int) (h3 : List Int) : RetC Zhe [(4, some (.ptr ⟨2, 0, 0, 1⟩ 32))] (ZPB aa bs p ab h3) (.agg [.ints .u8 32 h3]) := RetC.of (fun Z => by kernel_rfl)
def Zws (p : PlanV) (bs : List Int) (aa ab : Nat) (n : Int) (h3 : List Int) : Prop := h3 = (List.take 32 (List.drop (32 * Int.toNat n) bs))
theorem ZM3 (p : PlanV) (bs : List Int) (aa ab : Nat) (n : Int) (hK : ZeM p bs aa ab n Kf) (h3 : List Int) (h : Zws p bs aa ab n h3) : SemL Try.prog w0 fp ρi 2 25 [Zfu, .ret] ZQ0 (Zu8 aa bs p ab h3) (fnK Zhe 2 Kf) :=
  Zae ZhN (ZJB p bs aa ab n h3 _ (Za7 (R := Zhe) (m := 2) (Kf := Kf) (fun _ _ h => h) (ZD9 p bs aa ab n h3) (ZbS (Eq.mpr (cg1 (fun (z1 : List Int) => Zf5 2 Kf (.agg [.ints .u8 32 z1]) (ZPB aa bs p ab h3)) h) (Zbo [] [0, 1] rfl (by kernel_rfl) rfl pbd (hsc pcs (hsc (Zab pbd (Zab pbd (Zab pbd (Zab pbd (Zab pbd (Zab pbd (Zab pbd (Zab pbd (Zab pbd (Zab pbd (Zab pbd (Zab pbd (Zab pbd (Zab pbd (ZaT (ZaT (Zab bsl ZbX))))))))))))))))) Zah)) rfl (by kernel_rfl) (hK))))))
def Ztk (p : PlanV) (bs : List Int) (aa ab : Nat) (n v6 : Int) (h3 : List Int) : Prop := ((decide (v6 < 32)) = true -> (Ztl p bs aa ab n v6 h3)) /\ ((decide (v6 < 32)) = false -> (Zws p bs aa ab n h3))
abbrev ZQZ (x0 x1 : Int) : Env := [(0, some (.ptr ⟨1, 0, 0, 1⟩ 47)), (1, some (.int .i64 x0)), (4, some (.ptr ⟨2, 0, 0, 1⟩ 32)), (5, some (.ptr ⟨3, 0, 0, 1⟩ 32)), (6, some (.int .i64 x1)), (9, some (.bool (decide (x1 < 32))))]
theorem ZM2 (p : PlanV) (bs : List Int) (aa ab : Nat) (n : Int) (hK : ZeM p bs aa ab n Kf) (v6 : Int) (h3 : List Int) (h : Ztk p bs aa ab n v6 h3) : SemL Try.prog w0 fp ρi 2 25 [Zr7, (.seq Zoa Zh5)] (ZQZ n v6) (Zu8 aa bs p ab h3) (Zjn w0 fp ρi Kf p bs aa ab n v6 h3) :=
  Za9 (q := (decide (v6 < 32))) (by kernel_rfl) (fun hq => (Zbh (lpk [0, 1, 4, 5, 6] [0, 1, 2, 3] (Zag (ZM4 p bs aa ab n hK v6 h3 (h.1 hq)))))) (fun hq => (ZeQ (lpk [4, 5] [0, 1, 2, 3] (Zag (ZM3 p bs aa ab n hK h3 (h.2 hq))))))
theorem ZJA (p : PlanV) (bs : List Int) (aa ab : Nat) (n v6 : Int) (h3 : List Int) (Z : Env -> Heap -> Prop) (h : Z (ZQZ n v6) (Zu8 aa bs p ab h3)) : EvC ZjW Zr8 (ZBA n v6) (Zu8 aa bs p ab h3) [0, 1, 4, 5, 6, 9] [0, 1, 2, 3] Z := EvC.of (by kernel_rfl) h
theorem ZM1 (p : PlanV) (bs : List Int) (aa ab : Nat) (n : Int) (hK : ZeM p bs aa ab n Kf) (v6 : Int) (h3 : List Int) (h : Ztk p bs aa ab n v6 h3) : SemL Try.prog w0 fp ρi 2 25 [Zr8, Zr7, (.seq Zoa Zh5)] (ZBA n v6) (Zu8 aa bs p ab h3) (Zjn w0 fp ρi Kf p bs aa ab n v6 h3) :=
  Zae ZhN (ZJA p bs aa ab n v6 h3 _ (ZM2 p bs aa ab n hK v6 h3 h))
def ZjD (p : PlanV) (bs : List Int) (aa ab : Nat) (n : Int) : Prop := (0 <= (0 : Int) /\ (0 : Int) <= 32 /\ (List.replicate 32 0).length = 32 /\ ∀ j : Nat, j < 32 -> (List.replicate 32 0).getD j 0 = if (j : Int) < (0 : Int) then bs.getD (32 * n.toNat + j) 0 else 0) /\ (∀ (v6 : Int) (h3 : List Int), (0 <= v6 /\ v6 <= 32 /\ h3.length = 32 /\ ∀ j : Nat, j < 32 -> h3.getD j 0 = if (j : Int) < v6 then bs.getD (32 * n.toNat + j) 0 else 0) -> (Ztk p bs aa ab n v6 h3))
abbrev ZPA (x0 : Int) : Env := [(0, some (.ptr ⟨1, 0, 0, 1⟩ 47)), (1, some (.int .i64 x0)), (4, some (.ptr ⟨2, 0, 0, 1⟩ 32)), (5, some (.ptr ⟨3, 0, 0, 1⟩ 32)), (6, some (.int .i64 0))]
abbrev ZHe (x0 : Nat) (x1 : List Int) (x2 : PlanV) (x3 : Nat) : Heap := ⟨4, [(0, some ⟨true, [.ints .u8 x0 x1], 0⟩), (1, some ⟨true, [.i x2.cores, .i x2.banks, .i x2.pages, .i x2.lines, .i x2.arity, .i x2.minor, .one (.int .u64 x2.major), .i x2.ns, .i x2.nw, .i x2.fs, .i x2.fw, .i x2.met, .i x2.queue, .i x2.kind, .ints .u8 16 x2.key, .ints .u8 16 x2.tag, .one (.slice ⟨0, 0, 0, 1⟩ x0 x3)], 0⟩), (2, some ⟨true, [.ints .u8 32 (List.replicate 32 0)], 0⟩), (3, some ⟨true, [.ints .u8 32 (List.replicate 32 0)], 0⟩)]⟩
theorem ZM0 (p : PlanV) (bs : List Int) (aa ab : Nat) (n : Int) (hK : ZeM p bs aa ab n Kf) (h : ZjD p bs aa ab n) : SemL Try.prog w0 fp ρi 2 25 [Zyb] (ZPA n) (ZHe aa bs p ab) (ZxD w0 fp ρi Kf p bs aa ab n) :=
  ZgJ (ZxK p bs aa ab n) (Zxl p bs aa ab n) (Zxx p bs aa ab n) (Zxr p bs aa ab n) ⟨(0, (List.replicate 32 0)), tau [], h.1, (ZbC [] [0, 1, 2, 3] rfl rfl (esc bpt (esc pbd (esc bpt (esc bpt (esc pbd Zba))))) (hsc pcs (hsc (Zab pbd (Zab pbd (Zab pbd (Zab pbd (Zab pbd (Zab pbd (Zab pbd (Zab pbd (Zab pbd (Zab pbd (Zab pbd (Zab pbd (Zab pbd (Zab pbd (ZaT (ZaT (Zab bsl ZbX))))))))))))))))) (hsc pcs (hsc pcs Zah)))) (by kernel_rfl) rfl)⟩ (fun s => match s with | (v6, h3) => fun hi => (Zag (Zag (ZM1 p bs aa ab n hK v6 h3 (h.2 v6 h3 hi)))))
theorem ZMZ (p : PlanV) (bs : List Int) (aa ab : Nat) (n : Int) (hK : ZeM p bs aa ab n Kf) (h : ZjD p bs aa ab n) : SemL Try.prog w0 fp ρi 2 25 [Zlj, (.seq Zfu .ret)] (ZPA n) (ZHe aa bs p ab) (fnK Zhe 2 Kf) :=
  ZbN (ZM0 p bs aa ab n hK h)
abbrev ZPz (x0 : Int) : Env := [(0, some (.ptr ⟨1, 0, 0, 1⟩ 47)), (1, some (.int .i64 x0)), (4, some (.ptr ⟨2, 0, 0, 1⟩ 32)), (5, some (.ptr ⟨3, 0, 0, 1⟩ 32))]
theorem ZJz (p : PlanV) (bs : List Int) (aa ab : Nat) (n : Int) (Z : Env -> Heap -> Prop) (h : Z (ZPA n) (ZHe aa bs p ab)) : EvC ZjW Zlk (ZPz n) (ZHe aa bs p ab) [0, 1, 4, 5, 6] [0, 1, 2, 3] Z := EvC.of (by kernel_rfl) h
theorem ZMY (p : PlanV) (bs : List Int) (aa ab : Nat) (n : Int) (hK : ZeM p bs aa ab n Kf) (h : ZjD p bs aa ab n) : SemL Try.prog w0 fp ρi 2 25 [Zlk, Zlj, (.seq Zfu .ret)] (ZPz n) (ZHe aa bs p ab) (fnK Zhe 2 Kf) :=
  Zae ZhN (ZJz p bs aa ab n _ (ZMZ p bs aa ab n hK h))
abbrev ZPy (x0 : Int) : Env := [(0, some (.ptr ⟨1, 0, 0, 1⟩ 47)), (1, some (.int .i64 x0)), (4, some (.ptr ⟨2, 0, 0, 1⟩ 32))]
abbrev ZPx (x0 : Nat) (x1 : List Int) (x2 : PlanV) (x3 : Nat) : Heap := ⟨3, [(0, some ⟨true, [.ints .u8 x0 x1], 0⟩), (1, some ⟨true, [.i x2.cores, .i x2.banks, .i x2.pages, .i x2.lines, .i x2.arity, .i x2.minor, .one (.int .u64 x2.major), .i x2.ns, .i x2.nw, .i x2.fs, .i x2.fw, .i x2.met, .i x2.queue, .i x2.kind, .ints .u8 16 x2.key, .ints .u8 16 x2.tag, .one (.slice ⟨0, 0, 0, 1⟩ x0 x3)], 0⟩), (2, some ⟨true, [.ints .u8 32 (List.replicate 32 0)], 0⟩)]⟩
theorem ZJy (p : PlanV) (bs : List Int) (aa ab : Nat) (n : Int) (Z : Env -> Heap -> Prop) (h : Z (ZPz n) (ZHe aa bs p ab)) : EvC ZjW Zob (ZPy n) (ZPx aa bs p ab) [0, 1, 4, 5] [0, 1, 2, 3] Z := EvC.of (by kernel_rfl) h
theorem ZMX (p : PlanV) (bs : List Int) (aa ab : Nat) (n : Int) (hK : ZeM p bs aa ab n Kf) (h : ZjD p bs aa ab n) : SemL Try.prog w0 fp ρi 2 25 [Zob, (.seq (.seq Zlk Zlj) (.seq Zfu .ret))] (ZPy n) (ZPx aa bs p ab) (fnK Zhe 2 Kf) :=
  Zae ZhN (ZJy p bs aa ab n _ (Zag (Zag (ZMY p bs aa ab n hK h))))
abbrev ZPw (x0 : Int) : Env := [(0, some (.ptr ⟨1, 0, 0, 1⟩ 47)), (1, some (.int .i64 x0))]
theorem ZCS (p : PlanV) (bs : List Int) (aa ab : Nat) (n : Int) (Z : Env -> Heap -> Prop) (h : Z (ZPy n) (ZPx aa bs p ab)) : EvC ZjW Zr9 (ZPw n) (ZHf aa bs p ab) [0, 1, 4] [0, 1, 2] Z := EvC.of (by kernel_rfl) h
theorem ZFS (p : PlanV) (bs : List Int) (aa ab : Nat) (n : Int) (hK : ZeM p bs aa ab n Kf) (h : ZjD p bs aa ab n) : SemL Try.prog w0 fp ρi 2 25 [Zr9, (.seq Zob (.seq (.seq Zlk Zlj) (.seq Zfu .ret)))] (ZPw n) (ZHf aa bs p ab) (fnK Zhe 2 Kf) :=
  Zae ZhN (ZCS p bs aa ab n _ (Zag (ZMX p bs aa ab n hK h)))
theorem ZHs (p : PlanV) (bs : List Int) (aa ab : Nat) (n : Int) (hK : ZeM p bs aa ab n Kf) (h : ZjD p bs aa ab n) : SemL Try.prog w0 fp ρi 2 25 [ZBr] (ZPw n) (ZHf aa bs p ab) (fnK Zhe 2 Kf) :=
  (Zag (ZFS p bs aa ab n hK h))
end
theorem ZGG (p : PlanV) (bs : List Int) (aa ab : Nat) (n : Int) (hpre : (PlanV.right p = true /\ Zfj p bs /\ List.length bs = aa /\ aa <= ab /\ 0 <= n /\ 32 * n + 32 <= (aa : Int))) : ZjD p bs aa ab n := by
  unfold ZjD Ztk Zws Ztl Zwt
  obtain ⟨hr, hl, h1, h2, n0, n1⟩ := hpre
  have hal := PlanV.all_bd p
  have hl1 := hl.1
  refine ⟨⟨by omega, by omega, by simp, fun j hj => by rw [if_neg (by omega), List.getD_eq_getElem?_getD, List.getElem?_replicate, if_pos hj]; rfl⟩, fun v6 h3 hI => ⟨fun hlt => ?_, fun hge => ?_⟩⟩
  · have hlt := of_decide_eq_true hlt
    obtain ⟨i0, i1, i2, i3⟩ := hI
    have w1 : IntKind.i64.wrap (IntKind.i64.wrap (32 * n) + v6) = 32 * n + v6 := by rw [ZgO, ZgO]; omega
    have w2 : IntKind.i64.wrap (v6 + 1) = v6 + 1 := by rw [ZgO]; omega
    rw [w1, w2]
    refine ⟨by omega, by omega, by omega, i0, hlt, by omega, by omega, fun h4 hh4 => ⟨⟨by omega, by omega, by rw [hh4, List.length_set, i2], fun j hj => ?_⟩, by omega⟩⟩
    rw [hh4, ZxU (by omega)]
    by_cases e : j = v6.toNat
    · rw [if_pos (by omega), if_pos (by omega)]
      congr 1
      omega
    · rw [if_neg (by omega), i3 j hj]
      by_cases e2 : (j : Int) < v6
      · rw [if_pos e2, if_pos (by omega)]
      · rw [if_neg e2, if_neg (by omega)]
  · have hge := of_decide_eq_false hge
    obtain ⟨i0, i1, i2, i3⟩ := hI
    have l32 : (List.take 32 (List.drop (32 * n.toNat) bs)).length = 32 := by rw [List.length_take, List.length_drop]; omega
    have e1 := Zpl (f := fun j => bs.getD (32 * n.toNat + j) 0) i2 fun j hj => by rw [i3 j hj, if_pos (by omega)]
    have e2 := Zpl (l := List.take 32 (List.drop (32 * n.toNat) bs)) (f := fun j => bs.getD (32 * n.toNat + j) 0) l32 fun j hj => by
      rw [List.getD_eq_getElem?_getD, List.getElem?_take_of_lt hj, List.getElem?_drop, <- List.getD_eq_getElem?_getD]
    rw [e1, e2]
theorem ZHD : Sound Try.prog 33 (gS ZyU) := by
  refine Zbq Zsx ?_
  intro args H K h
  obtain ⟨pre, out, hD, hpre, hK⟩ := ZhE h
  unfold ZyU at hD
  split at hD
  · obtain ⟨hb, hD⟩ := ZaM hD
    simp only [Bool.and_eq_true] at hb
    obtain ⟨h0, h1⟩ := hb
    obtain rfl := Nat.eq_of_beq_eq_true h0
    obtain rfl := Nat.eq_of_beq_eq_true h1
    cases hD
    obtain ⟨rfl, hpre⟩ := hpre
    exact ⟨rfl, fun w0 fp ρi => ZHs (PlanV.mk _ _ _ _ _ _ _ _ _ _ _ _ _ _ _ _) _ _ _ _ hK (ZGG (PlanV.mk _ _ _ _ _ _ _ _ _ _ _ _ _ _ _ _) _ _ _ _ hpre)⟩
  · cases hD
end Go.Proofs.Ytinjdimejijabaa
