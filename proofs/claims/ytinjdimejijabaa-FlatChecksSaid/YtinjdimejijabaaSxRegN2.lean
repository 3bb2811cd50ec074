/- Two parts of the proof. -/
import Derived.Test.YtinjdimejijabaaSxPlanP
import Derived.Test.YtinjdimejijabaaSxRegion
import Derived.KernelRfl
import Derived.Test.YtinjdimejijabaaSxRegR
import Derived.Test.YtinjdimejijabaaSxRegion4
set_option linter.unusedVariables false
set_option linter.unusedSimpArgs false
set_option maxRecDepth 20000
namespace Go.Proofs.Ytinjdimejijabaa
open Go.Sx
def ZsF : ZeX := fun args => match args with
  | [.agg [.one (.int .i64 ar), .one (.int .i64 aq), .one (.int .i64 ap), .one (.int .i64 ao), .one (.int .i64 an), .one (.int .i64 am), .one (.int .u64 al), .one (.int .i64 ak), .one (.int .i64 aj), .one (.int .i64 ai), .one (.int .i64 ah), .one (.int .i64 ag), .one (.int .i64 af), .one (.int .i64 ae), .ints .u8 ab ad, .ints .u8 aa ac]] => bif Nat.beq ab 16 && Nat.beq aa 16 then some (True, .bool (PlanV.right (PlanV.mk ar aq ap ao an am al ak aj ai ah ag af ae ad ac))) else none
  | _ => none
def Zz7 : PCon := ⟨85, ZsF⟩
def Zrc : ACode := .reg (.op (some 1) (.box (.tm 0)) (.op (some 2) (.mov (.cn (.bool false))) .nil))
def Znp : ACode := .reg (.op (some 3) (.loadA 46 (.tm 1)) (.op (some 4) (.call 56 [(.tm 3)]) (.op (some 5) (.bin .eql (.tm 4) (.cn (.int .i64 0))) (.op (some 2) (.mov (.tm 5)) .nil))))
def Zyf : ACode := (.seq Zrc (.seq Znp .ret))
def ZjA : Res := .one (.tm 2)
theorem ZpO : ZbE Try.prog 85 1 6 Zyf ZjA = true := by kernel_rfl
def ZsM : Zbe := ZdX [ZmX] []
theorem Zt1 : Zbg Try.prog ZsM := ZbH ⟨ZqH, trivial⟩ trivial
section
variable {w0 : World} {fp : Nat -> Nat -> Prop} {ρi : Rho} {Kf : SVal -> Heap -> Prop}
abbrev Yb0 (x0 : PlanV) : Env := [(2, some (.bool ((bif PlanV.right x0 then 0 else 4 : Int) == 0)))]
abbrev Yb1 : Env := [(1, some (.ptr ⟨0, 0, 0, 1⟩ 46))]
abbrev Yb2 (x0 : PlanV) : Heap := ⟨1, [(0, some ⟨true, (PlanV.cs x0), 0⟩)]⟩
theorem ZIc (p : PlanV) (Z : Env -> Heap -> Prop) (h : (True) /\ Z (Yb0 p) ⟨1, []⟩) : EvC ZsM Znp Yb1 (Yb2 p) [2] [] Z := EvC.of (by kernel_rfl) h
theorem ZDp (p : PlanV) : RetC ZjA (Yb0 p) ⟨1, []⟩ (.bool ((bif PlanV.right p then 0 else 4 : Int) == 0)) := RetC.of (fun Z => by kernel_rfl)
def ZoX (p : PlanV) : Prop := ((bif PlanV.right p then 0 else 4 : Int) == 0) = (PlanV.right p)
theorem ZLg (p : PlanV) (hK : Kf (.bool (PlanV.right p)) ⟨0, []⟩) (h : ZoX p) : SemL Try.prog w0 fp ρi 0 6 [Znp, .ret] Yb1 (Yb2 p) (fnK ZjA 0 Kf) :=
  Zae Zt1 (ZIc p _ ⟨True.intro, (Za7 (R := ZjA) (m := 0) (Kf := Kf) (fun _ _ h => h) (ZDp p) (Za6 rfl (by kernel_rfl) (cg1 (fun (z1 : Bool) => (.bool z1 : SVal)) h) hK))⟩)
abbrev Yb3 (x0 : PlanV) : Env := [(0, some (.agg (PlanV.cs x0)))]
theorem ZIb (p : PlanV) (Z : Env -> Heap -> Prop) (h : Z Yb1 (Yb2 p)) : EvC ZsM Zrc (Yb3 p) ⟨0, []⟩ [1] [0] Z := EvC.of (by kernel_rfl) h
theorem ZLf (p : PlanV) (hK : Kf (.bool (PlanV.right p)) ⟨0, []⟩) (h : ZoX p) : SemL Try.prog w0 fp ρi 0 6 [Zrc, (.seq Znp .ret)] (Yb3 p) ⟨0, []⟩ (fnK ZjA 0 Kf) :=
  Zae Zt1 (ZIb p _ (Zag (ZLg p hK h)))
theorem ZBF (p : PlanV) (hK : Kf (.bool (PlanV.right p)) ⟨0, []⟩) (h : ZoX p) : SemL Try.prog w0 fp ρi 0 6 [Zyf] (Yb3 p) ⟨0, []⟩ (fnK ZjA 0 Kf) :=
  (Zag (ZLf p hK h))
end
theorem ZAd (p : PlanV) (hpre : True) : ZoX p := by
  unfold ZoX
  cases PlanV.right p <;> rfl
theorem ZBT : Sound Try.prog 85 (ZeA ZsF) := by
  refine Zbq ZpO ?_
  intro args H K h
  obtain ⟨pre, v, hP, hpre, rfl, hK⟩ := ZbM h
  unfold ZsF at hP
  split at hP
  · obtain ⟨hb, hP⟩ := ZaM hP
    simp only [Bool.and_eq_true] at hb
    obtain ⟨h0, h1⟩ := hb
    obtain rfl := Nat.eq_of_beq_eq_true h0
    obtain rfl := Nat.eq_of_beq_eq_true h1
    cases hP
    exact ⟨rfl, fun w0 fp ρi => ZBF (PlanV.mk _ _ _ _ _ _ _ _ _ _ _ _ _ _ _ _) hK (ZAd (PlanV.mk _ _ _ _ _ _ _ _ _ _ _ _ _ _ _ _) hpre)⟩
  · cases hP
def ZyN : ZeX := fun args => match args with
  | [.agg [.one (.int .i64 ar), .one (.int .i64 aq), .one (.int .i64 ap), .one (.int .i64 ao), .one (.int .i64 an), .one (.int .i64 am), .one (.int .u64 al), .one (.int .i64 ak), .one (.int .i64 aj), .one (.int .i64 ai), .one (.int .i64 ah), .one (.int .i64 ag), .one (.int .i64 af), .one (.int .i64 ae), .ints .u8 ab ad, .ints .u8 aa ac]] => bif Nat.beq ab 16 && Nat.beq aa 16 then some (True, .int .i64 (PlanV.tags (PlanV.mk ar aq ap ao an am al ak aj ai ah ag af ae ad ac))) else none
  | _ => none
def ZGz : PCon := ⟨86, ZyN⟩
def Zrb : ACode := .reg (.op (some 1) (.box (.tm 0)) (.op (some 2) (.mov (.cn (.int .i64 0))) .nil))
def Zno : ACode := .reg (.op (some 3) (.loadA 46 (.tm 1)) (.op (some 4) (.call 57 [(.tm 3)]) (.op (some 5) (.bin .mul (.tm 4) (.cn (.int .i64 32))) (.op (some 2) (.mov (.tm 5)) .nil))))
def ZBj : ACode := (.seq Zrb (.seq Zno .ret))
def Zmp : Res := .one (.tm 2)
theorem Zsv : ZbE Try.prog 86 1 6 ZBj Zmp = true := by kernel_rfl
def ZyQ : Zbe := ZdX [ZA3] []
theorem ZxT : Zbg Try.prog ZyQ := ZbH ⟨ZHB, trivial⟩ trivial
section
variable {w0 : World} {fp : Nat -> Nat -> Prop} {ρi : Rho} {Kf : SVal -> Heap -> Prop}
abbrev Yb4 (x0 : PlanV) : Env := [(2, some (.int .i64 (IntKind.i64.wrap ((PlanV.all x0) * 32))))]
theorem ZIa (p : PlanV) (Z : Env -> Heap -> Prop) (h : (True) /\ Z (Yb4 p) ⟨1, []⟩) : EvC ZyQ Zno Yb1 (Yb2 p) [2] [] Z := EvC.of (by kernel_rfl) h
theorem ZDo (p : PlanV) : RetC Zmp (Yb4 p) ⟨1, []⟩ (.int .i64 (IntKind.i64.wrap ((PlanV.all p) * 32))) := RetC.of (fun Z => by kernel_rfl)
def ZoW (p : PlanV) : Prop := (IntKind.i64.wrap ((PlanV.all p) * 32)) = (PlanV.tags p)
theorem ZLe (p : PlanV) (hK : Kf (.int .i64 (PlanV.tags p)) ⟨0, []⟩) (h : ZoW p) : SemL Try.prog w0 fp ρi 0 6 [Zno, .ret] Yb1 (Yb2 p) (fnK Zmp 0 Kf) :=
  Zae ZxT (ZIa p _ ⟨True.intro, (Za7 (R := Zmp) (m := 0) (Kf := Kf) (fun _ _ h => h) (ZDo p) (Za6 rfl (by kernel_rfl) (cg1 (fun (z1 : Int) => (.int .i64 z1 : SVal)) h) hK))⟩)
theorem ZH9 (p : PlanV) (Z : Env -> Heap -> Prop) (h : Z Yb1 (Yb2 p)) : EvC ZyQ Zrb (Yb3 p) ⟨0, []⟩ [1] [0] Z := EvC.of (by kernel_rfl) h
theorem ZLd (p : PlanV) (hK : Kf (.int .i64 (PlanV.tags p)) ⟨0, []⟩) (h : ZoW p) : SemL Try.prog w0 fp ρi 0 6 [Zrb, (.seq Zno .ret)] (Yb3 p) ⟨0, []⟩ (fnK Zmp 0 Kf) :=
  Zae ZxT (ZH9 p _ (Zag (ZLe p hK h)))
theorem ZHp (p : PlanV) (hK : Kf (.int .i64 (PlanV.tags p)) ⟨0, []⟩) (h : ZoW p) : SemL Try.prog w0 fp ρi 0 6 [ZBj] (Yb3 p) ⟨0, []⟩ (fnK Zmp 0 Kf) :=
  (Zag (ZLd p hK h))
end
theorem ZGE (p : PlanV) (hpre : True) : ZoW p := by
  unfold ZoW
  have := p.all_le
  unfold PlanV.tags
  rw [ZgO]; omega
theorem ZHz : Sound Try.prog 86 (ZeA ZyN) := by
  refine Zbq Zsv ?_
  intro args H K h
  obtain ⟨pre, v, hP, hpre, rfl, hK⟩ := ZbM h
  unfold ZyN at hP
  split at hP
  · obtain ⟨hb, hP⟩ := ZaM hP
    simp only [Bool.and_eq_true] at hb
    obtain ⟨h0, h1⟩ := hb
    obtain rfl := Nat.eq_of_beq_eq_true h0
    obtain rfl := Nat.eq_of_beq_eq_true h1
    cases hP
    exact ⟨rfl, fun w0 fp ρi => ZHp (PlanV.mk _ _ _ _ _ _ _ _ _ _ _ _ _ _ _ _) hK (ZGE (PlanV.mk _ _ _ _ _ _ _ _ _ _ _ _ _ _ _ _) hpre)⟩
  · cases hP
end Go.Proofs.Ytinjdimejijabaa

set_option linter.unusedVariables false
set_option linter.unusedSimpArgs false
set_option maxRecDepth 20000
namespace Go.Proofs.Ytinjdimejijabaa
open Go.Sx
def ZsI : ZeX := fun args => match args with
  | [.agg [.one (.int .i64 aB), .one (.int .i64 aA), .one (.int .i64 az), .one (.int .i64 ay), .one (.int .i64 ax), .one (.int .i64 aw), .one (.int .u64 av), .one (.int .i64 au), .one (.int .i64 ar), .one (.int .i64 aq), .one (.int .i64 ao), .one (.int .i64 an), .one (.int .i64 am), .one (.int .i64 al), .ints .u8 ai ak, .ints .u8 ah aj], .int .i64 aa] => bif Nat.beq ai 16 && Nat.beq ah 16 then some ((I64 aa), .tuple [.agg (PlaceV.cs (PlanV.placeOf (PlanV.mk aB aA az ay ax aw av au ar aq ao an am al ak aj) aa)), .bool (PlanV.placeB (PlanV.mk aB aA az ay ax aw av au ar aq ao an am al ak aj) aa)]) else none
  | _ => none
def Zz9 : PCon := ⟨88, ZsI⟩
def ZcQ (p : PlanV) (aa : Int) (Kf : SVal -> Heap -> Prop) : Prop := Kf (.tuple [.agg (PlaceV.cs (PlanV.placeOf p aa)), .bool (PlanV.placeB p aa)]) ⟨0, []⟩
def Zra : ACode := .reg (.op (some 2) (.box (.tm 0)) (.op (some 4) (.alloc [.i 0, .i 0, .i 0, .i 0, .i 0]) (.op (some 5) (.mov (.cn (.bool false))) .nil)))
def Znn : ACode := .reg (.op (some 9) (.loadA 46 (.tm 2)) (.op (some 10) (.call 100 [(.tm 9)]) (.op (some 6) (.mov (.tm 10)) .nil)))
def Zlb : ACode := .reg (.op (some 7) (.mov (.cn (.int .i64 0))) .nil)
def Zq9 : ACode := .reg (.op (some 11) (.mov (.tm 7)) (.op (some 12) (.mov (.tm 6)) (.op (some 13) (.len (.tm 12)) (.op (some 14) (.bin .lss (.tm 11) (.tm 13)) .nil))))
def Zq8 : ACode := .cond (.tm 14) .skip (.exit 0)
def Znm : Items := .op (some 17) (.mov (.tm 1)) (.op (some 18) (.mov (.tm 6)) (.op (some 19) (.mov (.tm 7)) (.op (some 20) (.idxS (.tm 18) (.tm 19) 7) (.op (some 21) (.fieldAddr (.tm 20) 5 1) (.op (some 22) (.load1 (.tm 21)) (.op (some 23) (.bin .geq (.tm 17) (.tm 22)) (.op (some 24) (.mov (.tm 23)) (.grpJ 24 true (.op (some 25) (.mov (.tm 1)) (.op (some 26) (.mov (.tm 6)) (.op (some 27) (.mov (.tm 7)) (.op (some 28) (.idxS (.tm 26) (.tm 27) 7) (.op (some 29) (.fieldAddr (.tm 28) 5 1) (.op (some 30) (.load1 (.tm 29)) (.op (some 31) (.mov (.tm 6)) (.op (some 32) (.mov (.tm 7)) (.op (some 33) (.idxS (.tm 31) (.tm 32) 7) (.op (some 34) (.fieldAddr (.tm 33) 6 1) (.op (some 35) (.load1 (.tm 34)) (.op (some 36) (.bin .add (.tm 30) (.tm 35)) (.op (some 37) (.bin .lss (.tm 25) (.tm 36)) .nil))))))))))))) 38 (.tm 37) (.cn (.bool false)) .nil))))))))
def Zya : ACode := .regQ Znm
def Zq7 : ACode := .reg (.op (some 39) (.mov (.tm 6)) (.op (some 40) (.mov (.tm 7)) (.op (some 41) (.idxS (.tm 39) (.tm 40) 7) (.op (some 42) (.fieldAddr (.tm 41) 0 5) (.op (some 43) (.loadA 5 (.tm 42)) (.op (some 8) (.alloc [.i 0, .i 0, .i 0, .i 0, .i 0]) (.op none (.storeA 5 (.tm 8) (.tm 43)) .nil)))))))
def Znl : ACode := .reg (.op (some 44) (.mov (.tm 1)) (.op (some 45) (.mov (.tm 6)) (.op (some 46) (.mov (.tm 7)) (.op (some 47) (.idxS (.tm 45) (.tm 46) 7) (.op (some 48) (.fieldAddr (.tm 47) 5 1) (.op (some 49) (.load1 (.tm 48)) (.op (some 50) (.bin .sub (.tm 44) (.tm 49)) (.op (some 51) (.fieldAddr (.tm 8) 4 1) (.op none (.store1 (.tm 51) (.tm 50)) .nil)))))))))
def Zla : ACode := .reg (.op (some 52) (.loadA 5 (.tm 8)) (.op none (.storeA 5 (.tm 4) (.tm 52)) (.op (some 5) (.mov (.cn (.bool true))) .nil)))
def Zq6 : ACode := .cond (.tm 38) (.seq Zq7 (.seq Znl (.seq Zla .ret))) .skip
def Zkk : ACode := .block 1 (.seq Zya Zq6)
def Zgo : ACode := .reg (.op (some 15) (.mov (.tm 7)) (.op (some 16) (.bin .add (.tm 15) (.cn (.int .i64 1))) (.op (some 7) (.mov (.tm 16)) .nil)))
def Zt8 : ACode := .loop (.seq (.seq Zq9 Zq8) (.seq Zkk Zgo))
def ZiL : ACode := .block 0 Zt8
def Zfr : ACode := .reg (.op (some 53) (.build [.i 0, .i 0, .i 0, .i 0, .i 0] []) (.op none (.storeA 5 (.tm 4) (.tm 53)) (.op (some 5) (.mov (.cn (.bool false))) .nil)))
def Zyg : ACode := (.seq Zra (.seq Znn (.seq (.seq Zlb ZiL) (.seq Zfr .ret))))
def Zeq : Res := .many [.cA 4 5, .tm 5]
theorem ZpP : ZbE Try.prog 88 2 54 Zyg Zeq = true := by kernel_rfl
def Zfi : Zbe := ZdX [] [Zyn]
theorem Zes : Zbg Try.prog Zfi := ZbH trivial ⟨sqParts.dC, trivial⟩
section
variable {w0 : World} {fp : Nat -> Nat -> Prop} {ρi : Rho} {Kf : SVal -> Heap -> Prop}
def Zxz (w0 : World) (fp : Nat -> Nat -> Prop) (ρi : Rho) (Kf : SVal -> Heap -> Prop) (p : PlanV) (aa : Int) : ZdV := Zch 0 (fun e H => SemL Try.prog w0 fp ρi 0 54 [(.seq Zfr .ret)] e H (fnK Zeq 0 Kf)) (fnK Zeq 0 Kf)
def ZxG (p : PlanV) (aa : Int) (ab c : Nat) (h2 : List (Tup Zac)) (x2 : Nat) : Int -> Prop := fun s => match s with | v7 => 0 <= v7 /\ v7 <= (ab : Int) /\ PlanV.placeIn (List.take (Int.toNat v7) h2) aa = none
def Zxh (p : PlanV) (aa : Int) (ab c : Nat) (h2 : List (Tup Zac)) (x2 : Nat) : Int -> Nat := fun s => match s with | v7 => (((ab : Int) - v7).toNat)
def Zxt (p : PlanV) (aa : Int) (ab c : Nat) (h2 : List (Tup Zac)) (x2 : Nat) : Int -> Env := fun s => match s with | v7 => [(1, some (.int .i64 aa)), (4, some (.ptr ⟨1, 0, 0, 1⟩ 5)), (6, some (.slice ⟨2, 0, 0, 7⟩ ab c)), (7, some (.int .i64 v7))]
def Zxn (p : PlanV) (aa : Int) (ab c : Nat) (h2 : List (Tup Zac)) (x2 : Nat) : Int -> Heap := fun s => match s with | v7 => ⟨3, [(1, some ⟨true, [.i 0, .i 0, .i 0, .i 0, .i 0], 0⟩), (2, some ⟨true, [.rows Zac ab h2], x2⟩)]⟩
def Zji (w0 : World) (fp : Nat -> Nat -> Prop) (ρi : Rho) (Kf : SVal -> Heap -> Prop) (p : PlanV) (aa : Int) (ab c : Nat) (h2 : List (Tup Zac)) (x2 : Nat) (v7 : Int) : ZdV := ZiC 0 (ZxG p aa ab c h2 x2) (Zxh p aa ab c h2 x2) (Zxt p aa ab c h2 x2) (Zxn p aa ab c h2 x2) v7 (Zxz w0 fp ρi Kf p aa)
def ZkV (w0 : World) (fp : Nat -> Nat -> Prop) (ρi : Rho) (Kf : SVal -> Heap -> Prop) (p : PlanV) (aa : Int) (ab c : Nat) (h2 : List (Tup Zac)) (x2 : Nat) (v7 : Int) : ZdV := Zch 1 (fun e H => SemL Try.prog w0 fp ρi 0 54 [Zgo] e H (Zji w0 fp ρi Kf p aa ab c h2 x2 v7)) (Zji w0 fp ρi Kf p aa ab c h2 x2 v7)
abbrev Yc0 : Env := [(4, some (.ptr ⟨1, 0, 0, 1⟩ 5)), (5, some (.bool true))]
abbrev Yc1 (x0 x1 x2 x3 x4 : Int) : Heap := ⟨4, [(1, some ⟨true, [.i x0, .i x1, .i x2, .i x3, .i x4], 0⟩)]⟩
abbrev Yc2 : Env := [(4, some (.ptr ⟨1, 0, 0, 1⟩ 5)), (8, some (.ptr ⟨3, 0, 0, 1⟩ 5))]
abbrev Yc3 (x0 x1 x2 x3 x4 : Int) : Heap := ⟨4, [(1, some ⟨true, [.i 0, .i 0, .i 0, .i 0, .i 0], 0⟩), (3, some ⟨true, [.i x0, .i x1, .i x2, .i x3, .i x4], 0⟩)]⟩
theorem ZH8 (p : PlanV) (aa ag af ae ad ac : Int) (ab c : Nat) (h2 : List (Tup Zac)) (x2 : Nat) (v7 : Int) (Z : Env -> Heap -> Prop) (h : Z Yc0 (Yc1 ag af ae ad ac)) : EvC Zfi Zla Yc2 (Yc3 ag af ae ad ac) [4, 5] [1] Z := EvC.of (by kernel_rfl) h
theorem ZDn (p : PlanV) (aa ag af ae ad ac : Int) : RetC Zeq Yc0 (Yc1 ag af ae ad ac) (.tuple [.agg [.i ag, .i af, .i ae, .i ad, .i ac], .bool true]) := RetC.of (fun Z => by kernel_rfl)
def Zvx (p : PlanV) (aa ag af ae ad ac : Int) (ab c : Nat) (h2 : List (Tup Zac)) (x2 : Nat) (v7 : Int) : Prop := (ag = (PlanV.placeOf p aa).pkind) /\ (af = (PlanV.placeOf p aa).pline) /\ (ae = (PlanV.placeOf p aa).plevel) /\ (ad = (PlanV.placeOf p aa).pindex) /\ (ac = (PlanV.placeOf p aa).poff) /\ (true = (PlanV.placeB p aa))
theorem ZLc (p : PlanV) (aa : Int) (hK : ZcQ p aa Kf) (ag af ae ad ac : Int) (ab c : Nat) (h2 : List (Tup Zac)) (x2 : Nat) (v7 : Int) (h : Zvx p aa ag af ae ad ac ab c h2 x2 v7) : SemL Try.prog w0 fp ρi 0 54 [Zla, .ret] Yc2 (Yc3 ag af ae ad ac) (ZkV w0 fp ρi Kf p aa ab c h2 x2 v7) :=
  Zae Zes (ZH8 p aa ag af ae ad ac ab c h2 x2 v7 _ (Za7 (R := Zeq) (m := 0) (Kf := Kf) (fun _ _ h => h) (ZDn p aa ag af ae ad ac) (Za6 rfl (by kernel_rfl) (cg6 (fun (z1 z2 z3 z4 z5 : Int) (z6 : Bool) => (.tuple [.agg [.i z1, .i z2, .i z3, .i z4, .i z5], .bool z6] : SVal)) h.1 h.2.1 h.2.2.1 h.2.2.2.1 h.2.2.2.2.1 h.2.2.2.2.2) hK)))
abbrev Yc4 (x0 : Int) (x1 x2 : Nat) (x3 : Int) : Env := [(1, some (.int .i64 x0)), (4, some (.ptr ⟨1, 0, 0, 1⟩ 5)), (6, some (.slice ⟨2, 0, 0, 7⟩ x1 x2)), (7, some (.int .i64 x3)), (8, some (.ptr ⟨3, 0, 0, 1⟩ 5))]
abbrev Yc5 (x0 : Nat) (x1 : List (Tup Zac)) (x2 : Nat) (x3 x4 x5 x6 x7 : Int) : Heap := ⟨4, [(1, some ⟨true, [.i 0, .i 0, .i 0, .i 0, .i 0], 0⟩), (2, some ⟨true, [.rows Zac x0 x1], x2⟩), (3, some ⟨true, [.i x3, .i x4, .i x5, .i x6, .i x7], 0⟩)]⟩
theorem ZH7 (p : PlanV) (aa : Int) (ab c : Nat) (v7 : Int) (h2 : List (Tup Zac)) (x2 : Nat) (ag af ae ad ap : Int) (Z : Env -> Heap -> Prop) (h : ((0 <= v7)) /\ ((v7 < ((ab : Nat) : Int))) /\ (((0 + (Int.toNat v7)) < ab)) /\ Z Yc2 ⟨4, [(1, some ⟨true, [.i 0, .i 0, .i 0, .i 0, .i 0], 0⟩), (3, some ⟨true, [.i ag, .i af, .i ae, .i ad, .i (IntKind.i64.wrap (aa - (List.getD h2 (0 + (Int.toNat v7)) (Tup.dflt Zac)).2.2.2.2.2.1))], 0⟩)]⟩) : EvC Zfi Znl (Yc4 aa ab c v7) (Yc5 ab h2 x2 ag af ae ad ap) [4, 8] [1, 3] Z := EvC.of (by kernel_rfl) h
def Zvw (p : PlanV) (aa : Int) (ab c : Nat) (v7 : Int) (h2 : List (Tup Zac)) (x2 : Nat) (ag af ae ad ap : Int) : Prop := ((0 <= v7)) /\ (((v7 < ((ab : Nat) : Int))) /\ ((((0 + (Int.toNat v7)) < ab)) /\ (∀ ac : Int, ac = ((aa - (List.getD h2 (0 + (Int.toNat v7)) (Tup.dflt Zac)).2.2.2.2.2.1) + 9223372036854775808) % 18446744073709551616 - 9223372036854775808 -> Zvx p aa ag af ae ad ac ab c h2 x2 v7)))
theorem ZLb (p : PlanV) (aa : Int) (hK : ZcQ p aa Kf) (ab c : Nat) (v7 : Int) (h2 : List (Tup Zac)) (x2 : Nat) (ag af ae ad ap : Int) (h : Zvw p aa ab c v7 h2 x2 ag af ae ad ap) : SemL Try.prog w0 fp ρi 0 54 [Znl, (.seq Zla .ret)] (Yc4 aa ab c v7) (Yc5 ab h2 x2 ag af ae ad ap) (ZkV w0 fp ρi Kf p aa ab c h2 x2 v7) :=
  Zae Zes (ZH7 p aa ab c v7 h2 x2 ag af ae ad ap _ ⟨h.1, ⟨h.2.1, ⟨h.2.2.1, (Zag (ZLc p aa hK ag af ae ad (IntKind.i64.wrap (aa - (List.getD h2 (0 + (Int.toNat v7)) (Tup.dflt Zac)).2.2.2.2.2.1)) ab c h2 x2 v7 (h.2.2.2 (IntKind.i64.wrap (aa - (List.getD h2 (0 + (Int.toNat v7)) (Tup.dflt Zac)).2.2.2.2.2.1)) (ZgO _))))⟩⟩⟩)
abbrev Yc6 (x0 : Int) (x1 x2 : Nat) (x3 : Int) : Env := [(1, some (.int .i64 x0)), (4, some (.ptr ⟨1, 0, 0, 1⟩ 5)), (6, some (.slice ⟨2, 0, 0, 7⟩ x1 x2)), (7, some (.int .i64 x3))]
abbrev Yc7 (x0 : Nat) (x1 : List (Tup Zac)) (x2 : Nat) : Heap := ⟨3, [(1, some ⟨true, [.i 0, .i 0, .i 0, .i 0, .i 0], 0⟩), (2, some ⟨true, [.rows Zac x0 x1], x2⟩)]⟩
theorem ZH6 (p : PlanV) (aa : Int) (ab c : Nat) (v7 : Int) (h2 : List (Tup Zac)) (x2 : Nat) (Z : Env -> Heap -> Prop) (h : ((0 <= v7)) /\ ((v7 < ((ab : Nat) : Int))) /\ (((0 + (Int.toNat v7)) < ab)) /\ Z (Yc4 aa ab c v7) ⟨4, [(1, some ⟨true, [.i 0, .i 0, .i 0, .i 0, .i 0], 0⟩), (2, some ⟨true, [.rows Zac ab h2], x2⟩), (3, some ⟨true, [.i (List.getD h2 (0 + (Int.toNat v7)) (Tup.dflt Zac)).1, .i (List.getD h2 (0 + (Int.toNat v7)) (Tup.dflt Zac)).2.1, .i (List.getD h2 (0 + (Int.toNat v7)) (Tup.dflt Zac)).2.2.1, .i (List.getD h2 (0 + (Int.toNat v7)) (Tup.dflt Zac)).2.2.2.1, .i (List.getD h2 (0 + (Int.toNat v7)) (Tup.dflt Zac)).2.2.2.2.1], 0⟩)]⟩) : EvC Zfi Zq7 (Yc6 aa ab c v7) (Yc7 ab h2 x2) [1, 4, 6, 7, 8] [1, 2, 3] Z := EvC.of (by kernel_rfl) h
def Zvv (p : PlanV) (aa : Int) (ab c : Nat) (v7 : Int) (h2 : List (Tup Zac)) (x2 : Nat) : Prop := ((0 <= v7)) /\ (((v7 < ((ab : Nat) : Int))) /\ ((((0 + (Int.toNat v7)) < ab)) /\ (∀ ag : Int, ag = (List.getD h2 (0 + (Int.toNat v7)) (Tup.dflt Zac)).1 -> ∀ af : Int, af = (List.getD h2 (0 + (Int.toNat v7)) (Tup.dflt Zac)).2.1 -> ∀ ae : Int, ae = (List.getD h2 (0 + (Int.toNat v7)) (Tup.dflt Zac)).2.2.1 -> ∀ ad : Int, ad = (List.getD h2 (0 + (Int.toNat v7)) (Tup.dflt Zac)).2.2.2.1 -> ∀ ap : Int, ap = (List.getD h2 (0 + (Int.toNat v7)) (Tup.dflt Zac)).2.2.2.2.1 -> Zvw p aa ab c v7 h2 x2 ag af ae ad ap)))
theorem ZLa (p : PlanV) (aa : Int) (hK : ZcQ p aa Kf) (ab c : Nat) (v7 : Int) (h2 : List (Tup Zac)) (x2 : Nat) (h : Zvv p aa ab c v7 h2 x2) : SemL Try.prog w0 fp ρi 0 54 [Zq7, (.seq Znl (.seq Zla .ret))] (Yc6 aa ab c v7) (Yc7 ab h2 x2) (ZkV w0 fp ρi Kf p aa ab c h2 x2 v7) :=
  Zae Zes (ZH6 p aa ab c v7 h2 x2 _ ⟨h.1, ⟨h.2.1, ⟨h.2.2.1, (Zag (ZLb p aa hK ab c v7 h2 x2 (List.getD h2 (0 + (Int.toNat v7)) (Tup.dflt Zac)).1 (List.getD h2 (0 + (Int.toNat v7)) (Tup.dflt Zac)).2.1 (List.getD h2 (0 + (Int.toNat v7)) (Tup.dflt Zac)).2.2.1 (List.getD h2 (0 + (Int.toNat v7)) (Tup.dflt Zac)).2.2.2.1 (List.getD h2 (0 + (Int.toNat v7)) (Tup.dflt Zac)).2.2.2.2.1 (((((h.2.2.2 (List.getD h2 (0 + (Int.toNat v7)) (Tup.dflt Zac)).1 rfl) (List.getD h2 (0 + (Int.toNat v7)) (Tup.dflt Zac)).2.1 rfl) (List.getD h2 (0 + (Int.toNat v7)) (Tup.dflt Zac)).2.2.1 rfl) (List.getD h2 (0 + (Int.toNat v7)) (Tup.dflt Zac)).2.2.2.1 rfl) (List.getD h2 (0 + (Int.toNat v7)) (Tup.dflt Zac)).2.2.2.2.1 rfl)))⟩⟩⟩)
theorem ZH5 (p : PlanV) (aa : Int) (ab c : Nat) (v7 : Int) (h2 : List (Tup Zac)) (x2 : Nat) (Z : Env -> Heap -> Prop) (h : Z [(1, some (.int .i64 aa)), (4, some (.ptr ⟨1, 0, 0, 1⟩ 5)), (6, some (.slice ⟨2, 0, 0, 7⟩ ab c)), (7, some (.int .i64 (IntKind.i64.wrap (v7 + 1))))] (Yc7 ab h2 x2)) : EvC Zfi Zgo (Yc6 aa ab c v7) (Yc7 ab h2 x2) [1, 4, 6, 7] [1, 2] Z := EvC.of (by kernel_rfl) h
def Zvu (p : PlanV) (aa : Int) (ab c : Nat) (v7 : Int) (h2 : List (Tup Zac)) (x2 : Nat) : Prop := (0 <= (IntKind.i64.wrap (v7 + 1)) /\ (IntKind.i64.wrap (v7 + 1)) <= (ab : Int) /\ PlanV.placeIn (List.take (Int.toNat (IntKind.i64.wrap (v7 + 1))) h2) aa = none) /\ ((((ab : Int) - (IntKind.i64.wrap (v7 + 1))).toNat) < (((ab : Int) - v7).toNat))
theorem ZK9 (p : PlanV) (aa : Int) (hK : ZcQ p aa Kf) (ab c : Nat) (v7 : Int) (h2 : List (Tup Zac)) (x2 : Nat) (h : Zvu p aa ab c v7 h2 x2) : SemL Try.prog w0 fp ρi 0 54 [Zgo] (Yc6 aa ab c v7) (Yc7 ab h2 x2) (Zji w0 fp ρi Kf p aa ab c h2 x2 v7) :=
  Zae Zes (ZH5 p aa ab c v7 h2 x2 _ (ZdB (Zdb (x' := (IntKind.i64.wrap (v7 + 1))) (τ := tau []) h.1 h.2 (ZbC [] [1, 2] rfl rfl (esc pbd (esc bpt (esc bsl (esc pbd Zba)))) (hsc pcs (hsc pcs Zah)) (by kernel_rfl) rfl))))
def Zvt (p : PlanV) (aa : Int) (ab c : Nat) (v7 : Int) (h2 : List (Tup Zac)) (x2 : Nat) : Prop := (((decide ((List.getD h2 (0 + (Int.toNat v7)) (Tup.dflt Zac)).2.2.2.2.2.1 <= aa)) && (decide (aa < (IntKind.i64.wrap ((List.getD h2 (0 + (Int.toNat v7)) (Tup.dflt Zac)).2.2.2.2.2.1 + (List.getD h2 (0 + (Int.toNat v7)) (Tup.dflt Zac)).2.2.2.2.2.2))))) = true -> (Zvv p aa ab c v7 h2 x2)) /\ (((decide ((List.getD h2 (0 + (Int.toNat v7)) (Tup.dflt Zac)).2.2.2.2.2.1 <= aa)) && (decide (aa < (IntKind.i64.wrap ((List.getD h2 (0 + (Int.toNat v7)) (Tup.dflt Zac)).2.2.2.2.2.1 + (List.getD h2 (0 + (Int.toNat v7)) (Tup.dflt Zac)).2.2.2.2.2.2))))) = false -> (Zvu p aa ab c v7 h2 x2))
theorem ZK8 (p : PlanV) (aa : Int) (hK : ZcQ p aa Kf) (ab c : Nat) (v7 : Int) (h2 : List (Tup Zac)) (x2 : Nat) (h : Zvt p aa ab c v7 h2 x2) : SemL Try.prog w0 fp ρi 0 54 [Zq6] [(1, some (.int .i64 aa)), (4, some (.ptr ⟨1, 0, 0, 1⟩ 5)), (6, some (.slice ⟨2, 0, 0, 7⟩ ab c)), (7, some (.int .i64 v7)), (38, some (.bool ((decide ((List.getD h2 (0 + (Int.toNat v7)) (Tup.dflt Zac)).2.2.2.2.2.1 <= aa)) && (decide (aa < (IntKind.i64.wrap ((List.getD h2 (0 + (Int.toNat v7)) (Tup.dflt Zac)).2.2.2.2.2.1 + (List.getD h2 (0 + (Int.toNat v7)) (Tup.dflt Zac)).2.2.2.2.2.2)))))))] (Yc7 ab h2 x2) (ZkV w0 fp ρi Kf p aa ab c h2 x2 v7) :=
  Za9 (q := ((decide ((List.getD h2 (0 + (Int.toNat v7)) (Tup.dflt Zac)).2.2.2.2.2.1 <= aa)) && (decide (aa < (IntKind.i64.wrap ((List.getD h2 (0 + (Int.toNat v7)) (Tup.dflt Zac)).2.2.2.2.2.1 + (List.getD h2 (0 + (Int.toNat v7)) (Tup.dflt Zac)).2.2.2.2.2.2)))))) (by kernel_rfl) (fun hq => (Zag (lpk [1, 4, 6, 7] [1, 2] (ZLa p aa hK ab c v7 h2 x2 (h.1 hq))))) (fun hq => (Zbh (ZdB (lpk [1, 4, 6, 7] [1, 2] (ZK9 p aa hK ab c v7 h2 x2 (h.2 hq))))))
theorem ZH4 (p : PlanV) (aa : Int) (ab c : Nat) (v7 : Int) (h2 : List (Tup Zac)) (x2 : Nat) (Z : Env -> Heap -> Prop) (h : ((0 <= v7)) /\ ((v7 < ((ab : Nat) : Int))) /\ (((0 + (Int.toNat v7)) < ab)) /\ ∃ qq : Bool, ((decide ((List.getD h2 (0 + (Int.toNat v7)) (Tup.dflt Zac)).2.2.2.2.2.1 <= aa)) = true -> ((0 <= v7)) /\ ((v7 < ((ab : Nat) : Int))) /\ (((0 + (Int.toNat v7)) < ab)) /\ ((0 <= v7)) /\ ((v7 < ((ab : Nat) : Int))) /\ (((0 + (Int.toNat v7)) < ab)) /\ (decide (aa < (IntKind.i64.wrap ((List.getD h2 (0 + (Int.toNat v7)) (Tup.dflt Zac)).2.2.2.2.2.1 + (List.getD h2 (0 + (Int.toNat v7)) (Tup.dflt Zac)).2.2.2.2.2.2)))) = qq) /\ ((decide ((List.getD h2 (0 + (Int.toNat v7)) (Tup.dflt Zac)).2.2.2.2.2.1 <= aa)) = false -> false = qq) /\ Z [(1, some (.int .i64 aa)), (4, some (.ptr ⟨1, 0, 0, 1⟩ 5)), (6, some (.slice ⟨2, 0, 0, 7⟩ ab c)), (7, some (.int .i64 v7)), (38, some (.bool qq))] (Yc7 ab h2 x2)) : EvQC Zfi Znm [] (Yc6 aa ab c v7) (Yc7 ab h2 x2) [1, 4, 6, 7, 38] [1, 2] Z := EvQC.of (by kernel_rfl) h
def Zs3 (p : PlanV) (aa : Int) (ab c : Nat) (v7 : Int) (h2 : List (Tup Zac)) (x2 : Nat) : Prop := ((0 <= v7)) /\ (((v7 < ((ab : Nat) : Int))) /\ ((((0 + (Int.toNat v7)) < ab)) /\ (((decide ((List.getD h2 (0 + (Int.toNat v7)) (Tup.dflt Zac)).2.2.2.2.2.1 <= aa)) = true -> (((0 <= v7)) /\ (((v7 < ((ab : Nat) : Int))) /\ ((((0 + (Int.toNat v7)) < ab)) /\ (((0 <= v7)) /\ (((v7 < ((ab : Nat) : Int))) /\ (((0 + (Int.toNat v7)) < ab)))))))) /\ (Zvt p aa ab c v7 h2 x2))))
theorem ZK7 (p : PlanV) (aa : Int) (hK : ZcQ p aa Kf) (ab c : Nat) (v7 : Int) (h2 : List (Tup Zac)) (x2 : Nat) (h : Zs3 p aa ab c v7 h2 x2) : SemL Try.prog w0 fp ρi 0 54 [Zya, Zq6] (Yc6 aa ab c v7) (Yc7 ab h2 x2) (ZkV w0 fp ρi Kf p aa ab c h2 x2 v7) :=
  Zid Zes (its := Znm) (ZH4 p aa ab c v7 h2 x2 _ ⟨h.1, ⟨h.2.1, ⟨h.2.2.1, ⟨((decide ((List.getD h2 (0 + (Int.toNat v7)) (Tup.dflt Zac)).2.2.2.2.2.1 <= aa)) && (decide (aa < (IntKind.i64.wrap ((List.getD h2 (0 + (Int.toNat v7)) (Tup.dflt Zac)).2.2.2.2.2.1 + (List.getD h2 (0 + (Int.toNat v7)) (Tup.dflt Zac)).2.2.2.2.2.2))))), fun hc_qq => ⟨(h.2.2.2.1 hc_qq).1, ⟨(h.2.2.2.1 hc_qq).2.1, ⟨(h.2.2.2.1 hc_qq).2.2.1, ⟨(h.2.2.2.1 hc_qq).2.2.2.1, ⟨(h.2.2.2.1 hc_qq).2.2.2.2.1, ⟨(h.2.2.2.1 hc_qq).2.2.2.2.2, (qa1 hc_qq)⟩⟩⟩⟩⟩⟩, fun hc_qq => qa2 hc_qq, (ZK8 p aa hK ab c v7 h2 x2 h.2.2.2.2)⟩⟩⟩⟩)
theorem ZK6 (p : PlanV) (aa : Int) (hK : ZcQ p aa Kf) (ab c : Nat) (v7 : Int) (h2 : List (Tup Zac)) (x2 : Nat) (h : Zs3 p aa ab c v7 h2 x2) : SemL Try.prog w0 fp ρi 0 54 [Zkk, Zgo] (Yc6 aa ab c v7) (Yc7 ab h2 x2) (Zji w0 fp ρi Kf p aa ab c h2 x2 v7) :=
  ZbN (Zag (ZK7 p aa hK ab c v7 h2 x2 h))
abbrev Yc8 : Env := [(4, some (.ptr ⟨1, 0, 0, 1⟩ 5)), (5, some (.bool false))]
abbrev Yc9 : Heap := ⟨3, [(1, some ⟨true, [.i 0, .i 0, .i 0, .i 0, .i 0], 0⟩)]⟩
theorem ZH3 (p : PlanV) (aa : Int) (Z : Env -> Heap -> Prop) (h : Z Yc8 Yc9) : EvC Zfi Zfr [(4, some (.ptr ⟨1, 0, 0, 1⟩ 5))] Yc9 [4, 5] [1] Z := EvC.of (by kernel_rfl) h
theorem ZDm (p : PlanV) (aa : Int) : RetC Zeq Yc8 Yc9 (.tuple [.agg [.i 0, .i 0, .i 0, .i 0, .i 0], .bool false]) := RetC.of (fun Z => by kernel_rfl)
def Zvs (p : PlanV) (aa : Int) : Prop := (0 = (PlanV.placeOf p aa).pkind) /\ (0 = (PlanV.placeOf p aa).pline) /\ (0 = (PlanV.placeOf p aa).plevel) /\ (0 = (PlanV.placeOf p aa).pindex) /\ (0 = (PlanV.placeOf p aa).poff) /\ (false = (PlanV.placeB p aa))
theorem ZK5 (p : PlanV) (aa : Int) (hK : ZcQ p aa Kf) (h : Zvs p aa) : SemL Try.prog w0 fp ρi 0 54 [Zfr, .ret] [(4, some (.ptr ⟨1, 0, 0, 1⟩ 5))] Yc9 (fnK Zeq 0 Kf) :=
  Zae Zes (ZH3 p aa _ (Za7 (R := Zeq) (m := 0) (Kf := Kf) (fun _ _ h => h) (ZDm p aa) (Za6 rfl (by kernel_rfl) (cg6 (fun (z1 z2 z3 z4 z5 : Int) (z6 : Bool) => (.tuple [.agg [.i z1, .i z2, .i z3, .i z4, .i z5], .bool z6] : SVal)) h.1 h.2.1 h.2.2.1 h.2.2.2.1 h.2.2.2.2.1 h.2.2.2.2.2) hK)))
def Zs2 (p : PlanV) (aa : Int) (ab c : Nat) (v7 : Int) (h2 : List (Tup Zac)) (x2 : Nat) : Prop := ((decide (v7 < ((ab : Nat) : Int))) = true -> (Zs3 p aa ab c v7 h2 x2)) /\ ((decide (v7 < ((ab : Nat) : Int))) = false -> (Zvs p aa))
abbrev ZRV (x0 : Int) (x1 x2 : Nat) (x3 : Int) : Env := [(1, some (.int .i64 x0)), (4, some (.ptr ⟨1, 0, 0, 1⟩ 5)), (6, some (.slice ⟨2, 0, 0, 7⟩ x1 x2)), (7, some (.int .i64 x3)), (14, some (.bool (decide (x3 < ((x1 : Nat) : Int)))))]
theorem ZK4 (p : PlanV) (aa : Int) (hK : ZcQ p aa Kf) (ab c : Nat) (v7 : Int) (h2 : List (Tup Zac)) (x2 : Nat) (h : Zs2 p aa ab c v7 h2 x2) : SemL Try.prog w0 fp ρi 0 54 [Zq8, (.seq Zkk Zgo)] (ZRV aa ab c v7) (Yc7 ab h2 x2) (Zji w0 fp ρi Kf p aa ab c h2 x2 v7) :=
  Za9 (q := (decide (v7 < ((ab : Nat) : Int)))) (by kernel_rfl) (fun hq => (Zbh (lpk [1, 4, 6, 7] [1, 2] (Zag (ZK6 p aa hK ab c v7 h2 x2 (h.1 hq)))))) (fun hq => (ZeQ (lpk [4] [1] (Zag (ZK5 p aa hK (h.2 hq))))))
theorem ZH2 (p : PlanV) (aa : Int) (ab c : Nat) (v7 : Int) (h2 : List (Tup Zac)) (x2 : Nat) (Z : Env -> Heap -> Prop) (h : Z (ZRV aa ab c v7) (Yc7 ab h2 x2)) : EvC Zfi Zq9 (Yc6 aa ab c v7) (Yc7 ab h2 x2) [1, 4, 6, 7, 14] [1, 2] Z := EvC.of (by kernel_rfl) h
theorem ZK3 (p : PlanV) (aa : Int) (hK : ZcQ p aa Kf) (ab c : Nat) (v7 : Int) (h2 : List (Tup Zac)) (x2 : Nat) (h : Zs2 p aa ab c v7 h2 x2) : SemL Try.prog w0 fp ρi 0 54 [Zq9, Zq8, (.seq Zkk Zgo)] (Yc6 aa ab c v7) (Yc7 ab h2 x2) (Zji w0 fp ρi Kf p aa ab c h2 x2 v7) :=
  Zae Zes (ZH2 p aa ab c v7 h2 x2 _ (ZK4 p aa hK ab c v7 h2 x2 h))
def ZkA (p : PlanV) (aa : Int) (ab c : Nat) (h2 : List (Tup Zac)) (x2 : Nat) : Prop := (0 <= (0 : Int) /\ (0 : Int) <= (ab : Int) /\ PlanV.placeIn (List.take (Int.toNat (0 : Int)) h2) aa = none) /\ (∀ (v7 : Int), (0 <= v7 /\ v7 <= (ab : Int) /\ PlanV.placeIn (List.take (Int.toNat v7) h2) aa = none) -> (Zs2 p aa ab c v7 h2 x2))
abbrev ZP5 (x0 : Int) (x1 x2 : Nat) : Env := [(1, some (.int .i64 x0)), (4, some (.ptr ⟨1, 0, 0, 1⟩ 5)), (6, some (.slice ⟨2, 0, 0, 7⟩ x1 x2)), (7, some (.int .i64 0))]
theorem ZEv (p : PlanV) (aa : Int) (hK : ZcQ p aa Kf) (ab c : Nat) (h2 : List (Tup Zac)) (x2 : Nat) (h : ZkA p aa ab c h2 x2) : SemL Try.prog w0 fp ρi 0 54 [Zt8] (ZP5 aa ab c) (Yc7 ab h2 x2) (Zxz w0 fp ρi Kf p aa) :=
  ZgJ (ZxG p aa ab c h2 x2) (Zxh p aa ab c h2 x2) (Zxt p aa ab c h2 x2) (Zxn p aa ab c h2 x2) ⟨0, tau [], h.1, (ZbC [] [1, 2] rfl rfl (esc pbd (esc bpt (esc bsl (esc pbd Zba)))) (hsc pcs (hsc pcs Zah)) (by kernel_rfl) rfl)⟩ (fun s => match s with | v7 => fun hi => (Zag (Zag (ZK3 p aa hK ab c v7 h2 x2 (h.2 v7 hi)))))
theorem ZEu (p : PlanV) (aa : Int) (hK : ZcQ p aa Kf) (ab c : Nat) (h2 : List (Tup Zac)) (x2 : Nat) (h : ZkA p aa ab c h2 x2) : SemL Try.prog w0 fp ρi 0 54 [ZiL, (.seq Zfr .ret)] (ZP5 aa ab c) (Yc7 ab h2 x2) (fnK Zeq 0 Kf) :=
  ZbN (ZEv p aa hK ab c h2 x2 h)
abbrev ZRU (x0 : Int) (x1 x2 : Nat) : Env := [(1, some (.int .i64 x0)), (4, some (.ptr ⟨1, 0, 0, 1⟩ 5)), (6, some (.slice ⟨2, 0, 0, 7⟩ x1 x2))]
theorem ZB1 (p : PlanV) (aa : Int) (ab c : Nat) (h2 : List (Tup Zac)) (x2 : Nat) (Z : Env -> Heap -> Prop) (h : Z (ZP5 aa ab c) (Yc7 ab h2 x2)) : EvC Zfi Zlb (ZRU aa ab c) (Yc7 ab h2 x2) [1, 4, 6, 7] [1, 2] Z := EvC.of (by kernel_rfl) h
theorem ZEt (p : PlanV) (aa : Int) (hK : ZcQ p aa Kf) (ab c : Nat) (h2 : List (Tup Zac)) (x2 : Nat) (h : ZkA p aa ab c h2 x2) : SemL Try.prog w0 fp ρi 0 54 [Zlb, ZiL, (.seq Zfr .ret)] (ZRU aa ab c) (Yc7 ab h2 x2) (fnK Zeq 0 Kf) :=
  Zae Zes (ZB1 p aa ab c h2 x2 _ (ZEu p aa hK ab c h2 x2 h))
abbrev ZP4 (x0 : Int) : Env := [(1, some (.int .i64 x0)), (2, some (.ptr ⟨0, 0, 0, 1⟩ 46)), (4, some (.ptr ⟨1, 0, 0, 1⟩ 5))]
abbrev ZP3 (x0 : PlanV) : Heap := ⟨2, [(0, some ⟨true, (PlanV.cs x0), 0⟩), (1, some ⟨true, [.i 0, .i 0, .i 0, .i 0, .i 0], 0⟩)]⟩
theorem ZB0 (p : PlanV) (aa : Int) (Z : Env -> Heap -> Prop) (h : (True) /\ ∀ (c : Nat), (List.length (PlanV.parts p)) <= c -> Z [(1, some (.int .i64 aa)), (4, some (.ptr ⟨1, 0, 0, 1⟩ 5)), (6, some (.slice ⟨2, 0, 0, 7⟩ (List.length (PlanV.parts p)) c))] ⟨3, [(1, some ⟨true, [.i 0, .i 0, .i 0, .i 0, .i 0], 0⟩), (2, some ⟨true, [.rows Zac (List.length (PlanV.parts p)) (PlanV.parts p)], ((c - (List.length (PlanV.parts p))) * 7)⟩)]⟩) : EvC Zfi Znn (ZP4 aa) (ZP3 p) [1, 4, 6] [1, 2] Z := EvC.of (by kernel_rfl) h
def Zkz (p : PlanV) (aa : Int) : Prop := ∀ (c : Nat), ((List.length (PlanV.parts p)) <= c) -> (∀ ab : Nat, ab = (List.length (PlanV.parts p)) -> ∀ h2 : List (Tup Zac), h2 = (PlanV.parts p) -> ∀ x2 : Nat, x2 = ((c - (List.length (PlanV.parts p))) * 7) -> ZkA p aa ab c h2 x2)
theorem ZEs (p : PlanV) (aa : Int) (hK : ZcQ p aa Kf) (h : Zkz p aa) : SemL Try.prog w0 fp ρi 0 54 [Znn, (.seq (.seq Zlb ZiL) (.seq Zfr .ret))] (ZP4 aa) (ZP3 p) (fnK Zeq 0 Kf) :=
  Zae Zes (ZB0 p aa _ ⟨True.intro, (fun c h_c_0 => (Zag (Zag (ZEt p aa hK (List.length (PlanV.parts p)) c (PlanV.parts p) ((c - (List.length (PlanV.parts p))) * 7) ((((h c h_c_0) (List.length (PlanV.parts p)) rfl) (PlanV.parts p) rfl) ((c - (List.length (PlanV.parts p))) * 7) rfl)))))⟩)
abbrev ZP2 (x0 : PlanV) (x1 : Int) : Env := [(0, some (.agg (PlanV.cs x0))), (1, some (.int .i64 x1))]
theorem ZBZ (p : PlanV) (aa : Int) (Z : Env -> Heap -> Prop) (h : Z (ZP4 aa) (ZP3 p)) : EvC Zfi Zra (ZP2 p aa) ⟨0, []⟩ [1, 2, 4] [0, 1] Z := EvC.of (by kernel_rfl) h
theorem ZEr (p : PlanV) (aa : Int) (hK : ZcQ p aa Kf) (h : Zkz p aa) : SemL Try.prog w0 fp ρi 0 54 [Zra, (.seq Znn (.seq (.seq Zlb ZiL) (.seq Zfr .ret)))] (ZP2 p aa) ⟨0, []⟩ (fnK Zeq 0 Kf) :=
  Zae Zes (ZBZ p aa _ (Zag (ZEs p aa hK h)))
theorem ZBG (p : PlanV) (aa : Int) (hK : ZcQ p aa Kf) (h : Zkz p aa) : SemL Try.prog w0 fp ρi 0 54 [Zyg] (ZP2 p aa) ⟨0, []⟩ (fnK Zeq 0 Kf) :=
  (Zag (ZEr p aa hK h))
end
theorem ZAe (p : PlanV) (aa : Int) (hpre : (I64 aa)) : Zkz p aa := by
  unfold Zkz ZkA Zs2 Zvs Zs3 Zvt Zvu Zvv Zvw Zvx
  rintro c hc _ rfl _ rfl x2 hx
  have hb := PlanV.parts_len p
  unfold I64 at hpre
  refine ⟨⟨by omega, by omega, rfl⟩, ?_⟩
  rintro i ⟨h0, h1, hf⟩
  refine ⟨fun hlt => ?_, fun hge => ?_⟩
  · have hlt := of_decide_eq_true hlt
    have hi : i.toNat < p.parts.length := by omega
    have e1 : IntKind.i64.wrap (i + 1) = i + 1 := by rw [ZgO]; omega
    have e2 : (i + 1).toNat = i.toNat + 1 := by omega
    rw [Nat.zero_add, e1, e2]
    have hm := PlanV.getD_mem (d := Tup.dflt Zac) hi
    have hstep := fun hn => ZxY (P := fun q => decide (PlanV.pAt q <= aa) && decide (aa < PlanV.pAt q + PlanV.pN q)) (d := Tup.dflt Zac) hf hi hn
    have htake := fun ht => ZxX (P := fun q => decide (PlanV.pAt q <= aa) && decide (aa < PlanV.pAt q + PlanV.pN q)) (d := Tup.dflt Zac) hf hi ht
    generalize p.parts.getD i.toNat (Tup.dflt Zac) = q at hm hstep htake ⊢
    have hN := PlanV.parts_N hm
    unfold PlanV.pN at hN
    have hA := PlanV.parts_at hm
    unfold PlanV.pAt at hA
    have e3 : IntKind.i64.wrap (q.2.2.2.2.2.1 + q.2.2.2.2.2.2) = q.2.2.2.2.2.1 + q.2.2.2.2.2.2 := by rw [ZgO]; omega
    rw [e3]
    refine ⟨h0, hlt, hi, fun _ => ⟨h0, hlt, hi, h0, hlt, hi⟩, fun ht => ?_, fun hn => ⟨⟨by omega, by omega, hstep hn⟩, by omega⟩⟩
    have hfind : PlanV.placeIn p.parts aa = some q := htake ht
    have ht2 := List.find?_some (show p.parts.find? (fun q => decide (PlanV.pAt q <= aa) && decide (aa < PlanV.pAt q + PlanV.pN q)) = some q from hfind)
    simp only [Bool.and_eq_true, decide_eq_true_eq] at ht2
    unfold PlanV.pAt PlanV.pN at ht2
    refine ⟨h0, hlt, hi, ?_⟩
    rintro _ rfl _ rfl _ rfl _ rfl _ rfl
    refine ⟨h0, hlt, hi, ?_⟩
    intro z hz
    have hz : z = aa - q.2.2.2.2.2.1 := by omega
    unfold PlanV.placeOf PlanV.placeB
    rw [hfind, hz]
    exact ⟨rfl, rfl, rfl, rfl, rfl, rfl⟩
  · have hge := of_decide_eq_false hge
    rw [List.take_of_length_le (by omega)] at hf
    unfold PlanV.placeOf PlanV.placeB
    rw [hf]
    exact ⟨rfl, rfl, rfl, rfl, rfl, rfl⟩
theorem ZBV : Sound Try.prog 88 (ZeA ZsI) := by
  refine Zbq ZpP ?_
  intro args H K h
  obtain ⟨pre, v, hP, hpre, rfl, hK⟩ := ZbM h
  unfold ZsI at hP
  split at hP
  · obtain ⟨hb, hP⟩ := ZaM hP
    simp only [Bool.and_eq_true] at hb
    obtain ⟨h0, h1⟩ := hb
    obtain rfl := Nat.eq_of_beq_eq_true h0
    obtain rfl := Nat.eq_of_beq_eq_true h1
    cases hP
    exact ⟨rfl, fun w0 fp ρi => ZBG (PlanV.mk _ _ _ _ _ _ _ _ _ _ _ _ _ _ _ _) _ hK (ZAe (PlanV.mk _ _ _ _ _ _ _ _ _ _ _ _ _ _ _ _) _ hpre)⟩
  · cases hP
def ZoM : ZeX := fun args => match args with
  | [.agg [.one (.int .i64 aB), .one (.int .i64 aA), .one (.int .i64 az), .one (.int .i64 ay), .one (.int .i64 ax), .one (.int .i64 aw), .one (.int .u64 av), .one (.int .i64 au), .one (.int .i64 ar), .one (.int .i64 aq), .one (.int .i64 ao), .one (.int .i64 an), .one (.int .i64 am), .one (.int .i64 al), .ints .u8 ai ak, .ints .u8 ah aj], .int .i64 aa, .int .i64 n] => bif Nat.beq ai 16 && Nat.beq ah 16 then some ((I64 aa /\ I64 n), .tuple [.int .i64 (PlanV.lnOf (PlanV.mk aB aA az ay ax aw av au ar aq ao an am al ak aj) aa n), .int .i64 (PlanV.offOf (PlanV.mk aB aA az ay ax aw av au ar aq ao an am al ak aj) aa n), .int .i64 (PlanV.codeOf (PlanV.mk aB aA az ay ax aw av au ar aq ao an am al ak aj) aa n)]) else none
  | _ => none
def Zw8 : PCon := ⟨73, ZoM⟩
def Zcm (p : PlanV) (aa n : Int) (Kf : SVal -> Heap -> Prop) : Prop := Kf (.tuple [.int .i64 (PlanV.lnOf p aa n), .int .i64 (PlanV.offOf p aa n), .int .i64 (PlanV.codeOf p aa n)]) ⟨0, []⟩
def ZrA : ACode := .reg (.op (some 3) (.box (.tm 0)) (.op (some 6) (.mov (.cn (.int .i64 0))) (.op (some 7) (.mov (.cn (.int .i64 0))) (.op (some 8) (.mov (.cn (.int .i64 0))) .nil))))
def Zrz : ACode := .reg (.op (some 10) (.loadA 46 (.tm 3)) (.op (some 11) (.call 85 [(.tm 10)]) (.op (some 12) (.not (.tm 11)) (.op (some 9) (.mov (.tm 12)) .nil))))
def Zry : ACode := .reg (.op (some 6) (.mov (.cn (.int .i64 0))) (.op (some 7) (.mov (.cn (.int .i64 0))) (.op (some 8) (.mov (.cn (.int .i64 4))) .nil)))
def Zrx : ACode := .reg (.op (some 14) (.mov (.tm 2)) (.op (some 15) (.bin .neq (.tm 14) (.cn (.int .i64 1))) (.op (some 16) (.mov (.tm 15)) (.grpJ 16 true (.op (some 17) (.mov (.tm 2)) (.op (some 18) (.bin .neq (.tm 17) (.cn (.int .i64 2))) .nil)) 19 (.tm 18) (.cn (.bool false)) (.op (some 20) (.mov (.tm 19)) (.grpJ 20 true (.op (some 21) (.mov (.tm 2)) (.op (some 22) (.bin .neq (.tm 21) (.cn (.int .i64 4))) .nil)) 23 (.tm 22) (.cn (.bool false)) (.op (some 24) (.mov (.tm 23)) (.grpJ 24 true (.op (some 25) (.mov (.tm 2)) (.op (some 26) (.bin .neq (.tm 25) (.cn (.int .i64 8))) .nil)) 27 (.tm 26) (.cn (.bool false)) (.op (some 13) (.mov (.tm 27)) .nil)))))))))
def Zrw : ACode := .reg (.op (some 6) (.mov (.cn (.int .i64 0))) (.op (some 7) (.mov (.cn (.int .i64 0))) (.op (some 8) (.mov (.cn (.int .i64 1))) .nil)))
def Zrv : ACode := .reg (.op (some 29) (.mov (.tm 1)) (.op (some 30) (.bin .lss (.tm 29) (.cn (.int .i64 0))) (.op (some 31) (.mov (.tm 30)) (.grpJ 31 false (.op (some 32) (.mov (.tm 1)) (.op (some 33) (.loadA 46 (.tm 3)) (.op (some 34) (.call 86 [(.tm 33)]) (.op (some 35) (.bin .geq (.tm 32) (.tm 34)) .nil)))) 36 (.tm 35) (.cn (.bool true)) (.op (some 28) (.mov (.tm 36)) .nil)))))
def Zru : ACode := .reg (.op (some 6) (.mov (.cn (.int .i64 0))) (.op (some 7) (.mov (.cn (.int .i64 0))) (.op (some 8) (.mov (.cn (.int .i64 2))) .nil)))
def Zrt : ACode := .reg (.op (some 38) (.mov (.tm 1)) (.op (some 39) (.mov (.tm 2)) (.op (some 40) (.bin .rem (.tm 38) (.tm 39)) (.op (some 41) (.bin .neq (.tm 40) (.cn (.int .i64 0))) (.op (some 37) (.mov (.tm 41)) .nil)))))
def Zrs : ACode := .reg (.op (some 6) (.mov (.cn (.int .i64 0))) (.op (some 7) (.mov (.cn (.int .i64 0))) (.op (some 8) (.mov (.cn (.int .i64 9))) .nil)))
def Zrr : ACode := .cond (.tm 37) (.seq Zrs .ret) .skip
def Zny : ACode := .cond (.tm 28) (.seq Zru .ret) (.seq Zrt Zrr)
def Znx : ACode := .cond (.tm 13) (.seq Zrw .ret) (.seq Zrv Zny)
def Znw : ACode := .cond (.tm 9) (.seq Zry .ret) (.seq Zrx Znx)
def Znv : ACode := .block 0 (.seq Zrz Znw)
def Zhz : ACode := .reg (.op (some 42) (.mov (.tm 1)) (.op (some 43) (.bin .quo (.tm 42) (.cn (.int .i64 32))) (.op (some 44) (.mov (.tm 1)) (.op (some 45) (.bin .rem (.tm 44) (.cn (.int .i64 32))) (.op (some 6) (.mov (.tm 43)) (.op (some 7) (.mov (.tm 45)) (.op (some 8) (.mov (.cn (.int .i64 0))) .nil)))))))
def Zuh : ACode := (.seq ZrA (.seq Znv (.seq Zhz .ret)))
def ZcK : Res := .many [.tm 6, .tm 7, .tm 8]
theorem ZoA : ZbE Try.prog 73 3 46 Zuh ZcK = true := by kernel_rfl
def Zeb : Zbe := ZdX [Zz7, ZGz] []
theorem ZdG : Zbg Try.prog Zeb := ZbH ⟨ZBT, ZHz, trivial⟩ trivial
section
variable {w0 : World} {fp : Nat -> Nat -> Prop} {ρi : Rho} {Kf : SVal -> Heap -> Prop}
def ZeK (w0 : World) (fp : Nat -> Nat -> Prop) (ρi : Rho) (Kf : SVal -> Heap -> Prop) (p : PlanV) (aa n : Int) : ZdV := Zch 0 (fun e H => SemL Try.prog w0 fp ρi 0 46 [(.seq Zhz .ret)] e H (fnK ZcK 0 Kf)) (fnK ZcK 0 Kf)
abbrev ZOF : Env := [(6, some (.int .i64 0)), (7, some (.int .i64 0)), (8, some (.int .i64 4))]
abbrev ZhC : Heap := ⟨1, []⟩
theorem ZIB (p : PlanV) (aa n : Int) (Z : Env -> Heap -> Prop) (h : Z ZOF ZhC) : EvC Zeb Zry [] ZhC [6, 7, 8] [] Z := EvC.of (by kernel_rfl) h
theorem ZDE (p : PlanV) (aa n : Int) : RetC ZcK ZOF ZhC (.tuple [.int .i64 0, .int .i64 0, .int .i64 4]) := RetC.of (fun Z => by kernel_rfl)
def ZvP (p : PlanV) (aa n : Int) : Prop := (0 = (PlanV.lnOf p aa n)) /\ (0 = (PlanV.offOf p aa n)) /\ (4 = (PlanV.codeOf p aa n))
theorem ZLN (p : PlanV) (aa n : Int) (hK : Zcm p aa n Kf) (h : ZvP p aa n) : SemL Try.prog w0 fp ρi 0 46 [Zry, .ret] [] ZhC (ZeK w0 fp ρi Kf p aa n) :=
  Zae ZdG (ZIB p aa n _ (Za7 (R := ZcK) (m := 0) (Kf := Kf) (fun _ _ h => h) (ZDE p aa n) (Za6 rfl (by kernel_rfl) (cg3 (fun (z1 z2 z3 : Int) => (.tuple [.int .i64 z1, .int .i64 z2, .int .i64 z3] : SVal)) h.1 h.2.1 h.2.2) hK)))
abbrev ZOE : Env := [(6, some (.int .i64 0)), (7, some (.int .i64 0)), (8, some (.int .i64 1))]
theorem ZIA (p : PlanV) (aa n : Int) (Z : Env -> Heap -> Prop) (h : Z ZOE ZhC) : EvC Zeb Zrw [] ZhC [6, 7, 8] [] Z := EvC.of (by kernel_rfl) h
theorem ZDD (p : PlanV) (aa n : Int) : RetC ZcK ZOE ZhC (.tuple [.int .i64 0, .int .i64 0, .int .i64 1]) := RetC.of (fun Z => by kernel_rfl)
def ZvO (p : PlanV) (aa n : Int) : Prop := (0 = (PlanV.lnOf p aa n)) /\ (0 = (PlanV.offOf p aa n)) /\ (1 = (PlanV.codeOf p aa n))
theorem ZLM (p : PlanV) (aa n : Int) (hK : Zcm p aa n Kf) (h : ZvO p aa n) : SemL Try.prog w0 fp ρi 0 46 [Zrw, .ret] [] ZhC (ZeK w0 fp ρi Kf p aa n) :=
  Zae ZdG (ZIA p aa n _ (Za7 (R := ZcK) (m := 0) (Kf := Kf) (fun _ _ h => h) (ZDD p aa n) (Za6 rfl (by kernel_rfl) (cg3 (fun (z1 z2 z3 : Int) => (.tuple [.int .i64 z1, .int .i64 z2, .int .i64 z3] : SVal)) h.1 h.2.1 h.2.2) hK)))
abbrev ZOD : Env := [(6, some (.int .i64 0)), (7, some (.int .i64 0)), (8, some (.int .i64 2))]
theorem ZIz (p : PlanV) (aa n : Int) (Z : Env -> Heap -> Prop) (h : Z ZOD ZhC) : EvC Zeb Zru [] ZhC [6, 7, 8] [] Z := EvC.of (by kernel_rfl) h
theorem ZDC (p : PlanV) (aa n : Int) : RetC ZcK ZOD ZhC (.tuple [.int .i64 0, .int .i64 0, .int .i64 2]) := RetC.of (fun Z => by kernel_rfl)
def ZvN (p : PlanV) (aa n : Int) : Prop := (0 = (PlanV.lnOf p aa n)) /\ (0 = (PlanV.offOf p aa n)) /\ (2 = (PlanV.codeOf p aa n))
theorem ZLL (p : PlanV) (aa n : Int) (hK : Zcm p aa n Kf) (h : ZvN p aa n) : SemL Try.prog w0 fp ρi 0 46 [Zru, .ret] [] ZhC (ZeK w0 fp ρi Kf p aa n) :=
  Zae ZdG (ZIz p aa n _ (Za7 (R := ZcK) (m := 0) (Kf := Kf) (fun _ _ h => h) (ZDC p aa n) (Za6 rfl (by kernel_rfl) (cg3 (fun (z1 z2 z3 : Int) => (.tuple [.int .i64 z1, .int .i64 z2, .int .i64 z3] : SVal)) h.1 h.2.1 h.2.2) hK)))
abbrev ZOC : Env := [(6, some (.int .i64 0)), (7, some (.int .i64 0)), (8, some (.int .i64 9))]
theorem ZIy (p : PlanV) (aa n : Int) (Z : Env -> Heap -> Prop) (h : Z ZOC ZhC) : EvC Zeb Zrs [] ZhC [6, 7, 8] [] Z := EvC.of (by kernel_rfl) h
theorem ZDB (p : PlanV) (aa n : Int) : RetC ZcK ZOC ZhC (.tuple [.int .i64 0, .int .i64 0, .int .i64 9]) := RetC.of (fun Z => by kernel_rfl)
def ZvM (p : PlanV) (aa n : Int) : Prop := (0 = (PlanV.lnOf p aa n)) /\ (0 = (PlanV.offOf p aa n)) /\ (9 = (PlanV.codeOf p aa n))
theorem ZLK (p : PlanV) (aa n : Int) (hK : Zcm p aa n Kf) (h : ZvM p aa n) : SemL Try.prog w0 fp ρi 0 46 [Zrs, .ret] [] ZhC (ZeK w0 fp ρi Kf p aa n) :=
  Zae ZdG (ZIy p aa n _ (Za7 (R := ZcK) (m := 0) (Kf := Kf) (fun _ _ h => h) (ZDB p aa n) (Za6 rfl (by kernel_rfl) (cg3 (fun (z1 z2 z3 : Int) => (.tuple [.int .i64 z1, .int .i64 z2, .int .i64 z3] : SVal)) h.1 h.2.1 h.2.2) hK)))
abbrev ZRT (x0 : Int) : Env := [(6, some (.int .i64 (IntKind.i64.wrap (Int.tdiv x0 32)))), (7, some (.int .i64 (Int.tmod x0 32))), (8, some (.int .i64 0))]
theorem ZIx (p : PlanV) (aa n : Int) (Z : Env -> Heap -> Prop) (h : (((32 : Int) ≠ 0)) /\ (((32 : Int) ≠ 0)) /\ Z (ZRT aa) ZhC) : EvC Zeb Zhz [(1, some (.int .i64 aa))] ZhC [6, 7, 8] [] Z := EvC.of (by kernel_rfl) h
theorem ZDA (p : PlanV) (aa n : Int) : RetC ZcK (ZRT aa) ZhC (.tuple [.int .i64 (IntKind.i64.wrap (Int.tdiv aa 32)), .int .i64 (Int.tmod aa 32), .int .i64 0]) := RetC.of (fun Z => by kernel_rfl)
def ZvL (p : PlanV) (aa n : Int) : Prop := ((IntKind.i64.wrap (Int.tdiv aa 32)) = (PlanV.lnOf p aa n)) /\ ((Int.tmod aa 32) = (PlanV.offOf p aa n)) /\ (0 = (PlanV.codeOf p aa n))
theorem ZLJ (p : PlanV) (aa n : Int) (hK : Zcm p aa n Kf) (h : ZvL p aa n) : SemL Try.prog w0 fp ρi 0 46 [Zhz, .ret] [(1, some (.int .i64 aa))] ZhC (fnK ZcK 0 Kf) :=
  Zae ZdG (ZIx p aa n _ ⟨(by decide), ⟨(by decide), (Za7 (R := ZcK) (m := 0) (Kf := Kf) (fun _ _ h => h) (ZDA p aa n) (Za6 rfl (by kernel_rfl) (cg3 (fun (z1 z2 z3 : Int) => (.tuple [.int .i64 z1, .int .i64 z2, .int .i64 z3] : SVal)) h.1 h.2.1 h.2.2) hK))⟩⟩)
def ZvK (p : PlanV) (aa n : Int) : Prop := (((Int.tmod aa n) != 0) = true -> (ZvM p aa n)) /\ (((Int.tmod aa n) != 0) = false -> (ZvL p aa n))
theorem ZLI (p : PlanV) (aa n : Int) (hK : Zcm p aa n Kf) (h : ZvK p aa n) : SemL Try.prog w0 fp ρi 0 46 [Zrr] [(1, some (.int .i64 aa)), (37, some (.bool ((Int.tmod aa n) != 0)))] ZhC (ZeK w0 fp ρi Kf p aa n) :=
  Za9 (q := ((Int.tmod aa n) != 0)) (by kernel_rfl) (fun hq => (Zag (lpk [] [] (ZLK p aa n hK (h.1 hq))))) (fun hq => (Zbh (ZdB (lpk [1] [] (Zag (ZLJ p aa n hK (h.2 hq)))))))
theorem ZIw (p : PlanV) (aa n : Int) (Z : Env -> Heap -> Prop) (h : ((n ≠ 0)) /\ Z [(1, some (.int .i64 aa)), (37, some (.bool ((Int.tmod aa n) != 0)))] ZhC) : EvC Zeb Zrt [(1, some (.int .i64 aa)), (2, some (.int .i64 n))] ZhC [1, 37] [] Z := EvC.of (by kernel_rfl) h
def ZvJ (p : PlanV) (aa n : Int) : Prop := ((n ≠ 0)) /\ (ZvK p aa n)
theorem ZLH (p : PlanV) (aa n : Int) (hK : Zcm p aa n Kf) (h : ZvJ p aa n) : SemL Try.prog w0 fp ρi 0 46 [Zrt, Zrr] [(1, some (.int .i64 aa)), (2, some (.int .i64 n))] ZhC (ZeK w0 fp ρi Kf p aa n) :=
  Zae ZdG (ZIw p aa n _ ⟨h.1, (ZLI p aa n hK h.2)⟩)
def Zs7 (p : PlanV) (aa n : Int) : Prop := (((decide (aa < 0)) || (decide ((PlanV.tags p) <= aa))) = true -> (ZvN p aa n)) /\ (((decide (aa < 0)) || (decide ((PlanV.tags p) <= aa))) = false -> (ZvJ p aa n))
theorem ZLG (p : PlanV) (aa n : Int) (hK : Zcm p aa n Kf) (h : Zs7 p aa n) : SemL Try.prog w0 fp ρi 0 46 [Zny] [(1, some (.int .i64 aa)), (2, some (.int .i64 n)), (28, some (.bool ((decide (aa < 0)) || (decide ((PlanV.tags p) <= aa)))))] ZhC (ZeK w0 fp ρi Kf p aa n) :=
  Za9 (q := ((decide (aa < 0)) || (decide ((PlanV.tags p) <= aa)))) (by kernel_rfl) (fun hq => (Zag (lpk [] [] (ZLL p aa n hK (h.1 hq))))) (fun hq => (Zag (lpk [1, 2] [] (ZLH p aa n hK (h.2 hq)))))
abbrev ZgM (x0 : PlanV) : Heap := ⟨1, [(0, some ⟨true, (PlanV.cs x0), 0⟩)]⟩
abbrev ZsD (x0 x1 : Int) : Env := [(1, some (.int .i64 x0)), (2, some (.int .i64 x1)), (3, some (.ptr ⟨0, 0, 0, 1⟩ 46))]
theorem ZIv (p : PlanV) (aa n : Int) (Z : Env -> Heap -> Prop) (h : ∃ qq'3 : Bool, ((decide (aa < 0)) = false -> (True) /\ (ZaL (ZgM p) (ZgM p) [(0, some ⟨true, (PlanV.cs p), 0⟩)]) /\ (decide ((PlanV.tags p) <= aa)) = qq'3) /\ ((decide (aa < 0)) = true -> true = qq'3) /\ Z [(1, some (.int .i64 aa)), (2, some (.int .i64 n)), (28, some (.bool qq'3))] ZhC) : EvC Zeb Zrv (ZsD aa n) (ZgM p) [1, 2, 28] [] Z := EvC.of (by kernel_rfl) h
theorem ZLF (p : PlanV) (aa n : Int) (hK : Zcm p aa n Kf) (h : Zs7 p aa n) : SemL Try.prog w0 fp ρi 0 46 [Zrv, Zny] (ZsD aa n) (ZgM p) (ZeK w0 fp ρi Kf p aa n) :=
  Zae ZdG (ZIv p aa n _ ⟨((decide (aa < 0)) || (decide ((PlanV.tags p) <= aa))), fun hc_qq_3 => ⟨True.intro, ⟨(ZaZ _), (qo1 hc_qq_3)⟩⟩, fun hc_qq_3 => qo2 hc_qq_3, (ZLG p aa n hK h)⟩)
def Zs6 (p : PlanV) (aa n : Int) : Prop := (((((n != 1) && (n != 2)) && (n != 4)) && (n != 8)) = true -> (ZvO p aa n)) /\ (((((n != 1) && (n != 2)) && (n != 4)) && (n != 8)) = false -> (Zs7 p aa n))
theorem ZLE (p : PlanV) (aa n : Int) (hK : Zcm p aa n Kf) (h : Zs6 p aa n) : SemL Try.prog w0 fp ρi 0 46 [Znx] [(1, some (.int .i64 aa)), (2, some (.int .i64 n)), (3, some (.ptr ⟨0, 0, 0, 1⟩ 46)), (13, some (.bool ((((n != 1) && (n != 2)) && (n != 4)) && (n != 8))))] (ZgM p) (ZeK w0 fp ρi Kf p aa n) :=
  Za9 (q := ((((n != 1) && (n != 2)) && (n != 4)) && (n != 8))) (by kernel_rfl) (fun hq => (Zag (lpk [] [] (ZLM p aa n hK (h.1 hq))))) (fun hq => (Zag (lpk [1, 2, 3] [0] (ZLF p aa n hK (h.2 hq)))))
theorem ZB7 (p : PlanV) (aa n : Int) (Z : Env -> Heap -> Prop) (h : ∃ qq : Bool, ((n != 1) = true -> (ZaL (ZgM p) (ZgM p) [(0, some ⟨true, (PlanV.cs p), 0⟩)]) /\ (n != 2) = qq) /\ ((n != 1) = false -> false = qq) /\ ∃ qq'1 : Bool, (qq = true -> (ZaL (ZgM p) (ZgM p) [(0, some ⟨true, (PlanV.cs p), 0⟩)]) /\ (n != 4) = qq'1) /\ (qq = false -> false = qq'1) /\ ∃ qq'2 : Bool, (qq'1 = true -> (ZaL (ZgM p) (ZgM p) [(0, some ⟨true, (PlanV.cs p), 0⟩)]) /\ (n != 8) = qq'2) /\ (qq'1 = false -> false = qq'2) /\ Z [(1, some (.int .i64 aa)), (2, some (.int .i64 n)), (3, some (.ptr ⟨0, 0, 0, 1⟩ 46)), (13, some (.bool qq'2))] (ZgM p)) : EvC Zeb Zrx (ZsD aa n) (ZgM p) [1, 2, 3, 13] [0] Z := EvC.of (by kernel_rfl) h
theorem ZEF (p : PlanV) (aa n : Int) (hK : Zcm p aa n Kf) (h : Zs6 p aa n) : SemL Try.prog w0 fp ρi 0 46 [Zrx, Znx] (ZsD aa n) (ZgM p) (ZeK w0 fp ρi Kf p aa n) :=
  Zae ZdG (ZB7 p aa n _ ⟨((n != 1) && (n != 2)), fun hc_qq => ⟨(ZaZ _), (qa1 hc_qq)⟩, fun hc_qq => qa2 hc_qq, ⟨(((n != 1) && (n != 2)) && (n != 4)), fun hc_qq_1 => ⟨(ZaZ _), (qa1 hc_qq_1)⟩, fun hc_qq_1 => qa2 hc_qq_1, ⟨((((n != 1) && (n != 2)) && (n != 4)) && (n != 8)), fun hc_qq_2 => ⟨(ZaZ _), (qa1 hc_qq_2)⟩, fun hc_qq_2 => qa2 hc_qq_2, (ZLE p aa n hK h)⟩⟩⟩)
def ZhG (p : PlanV) (aa n : Int) : Prop := ((!(PlanV.right p)) = true -> (ZvP p aa n)) /\ ((!(PlanV.right p)) = false -> (Zs6 p aa n))
abbrev ZRS (x0 x1 : Int) (x2 : PlanV) : Env := [(1, some (.int .i64 x0)), (2, some (.int .i64 x1)), (3, some (.ptr ⟨0, 0, 0, 1⟩ 46)), (9, some (.bool (!(PlanV.right x2))))]
theorem ZEE (p : PlanV) (aa n : Int) (hK : Zcm p aa n Kf) (h : ZhG p aa n) : SemL Try.prog w0 fp ρi 0 46 [Znw] (ZRS aa n p) (ZgM p) (ZeK w0 fp ρi Kf p aa n) :=
  Za9 (q := (!(PlanV.right p))) (by kernel_rfl) (fun hq => (Zag (lpk [] [] (ZLN p aa n hK (h.1 hq))))) (fun hq => (Zag (lpk [1, 2, 3] [0] (ZEF p aa n hK (h.2 hq)))))
theorem ZB6 (p : PlanV) (aa n : Int) (Z : Env -> Heap -> Prop) (h : (True) /\ Z (ZRS aa n p) (ZgM p)) : EvC Zeb Zrz (ZsD aa n) (ZgM p) [1, 2, 3, 9] [0] Z := EvC.of (by kernel_rfl) h
theorem ZED (p : PlanV) (aa n : Int) (hK : Zcm p aa n Kf) (h : ZhG p aa n) : SemL Try.prog w0 fp ρi 0 46 [Zrz, Znw] (ZsD aa n) (ZgM p) (ZeK w0 fp ρi Kf p aa n) :=
  Zae ZdG (ZB6 p aa n _ ⟨True.intro, (ZEE p aa n hK h)⟩)
theorem ZEC (p : PlanV) (aa n : Int) (hK : Zcm p aa n Kf) (h : ZhG p aa n) : SemL Try.prog w0 fp ρi 0 46 [Znv, (.seq Zhz .ret)] (ZsD aa n) (ZgM p) (fnK ZcK 0 Kf) :=
  ZbN (Zag (ZED p aa n hK h))
abbrev ZHl (x0 : PlanV) (x1 x2 : Int) : Env := [(0, some (.agg (PlanV.cs x0))), (1, some (.int .i64 x1)), (2, some (.int .i64 x2))]
theorem ZB5 (p : PlanV) (aa n : Int) (Z : Env -> Heap -> Prop) (h : Z (ZsD aa n) (ZgM p)) : EvC Zeb ZrA (ZHl p aa n) ⟨0, []⟩ [1, 2, 3] [0] Z := EvC.of (by kernel_rfl) h
theorem ZEB (p : PlanV) (aa n : Int) (hK : Zcm p aa n Kf) (h : ZhG p aa n) : SemL Try.prog w0 fp ρi 0 46 [ZrA, (.seq Znv (.seq Zhz .ret))] (ZHl p aa n) ⟨0, []⟩ (fnK ZcK 0 Kf) :=
  Zae ZdG (ZB5 p aa n _ (Zag (ZEC p aa n hK h)))
theorem Zy1 (p : PlanV) (aa n : Int) (hK : Zcm p aa n Kf) (h : ZhG p aa n) : SemL Try.prog w0 fp ρi 0 46 [Zuh] (ZHl p aa n) ⟨0, []⟩ (fnK ZcK 0 Kf) :=
  (Zag (ZEB p aa n hK h))
end
theorem Zxe (p : PlanV) (aa n : Int) (hpre : (I64 aa /\ I64 n)) : ZhG p aa n := by
  unfold ZhG Zs6 Zs7 ZvJ ZvK ZvL ZvM ZvN ZvO ZvP
  have hn4 : (n != 1 && n != 2 && n != 4 && n != 8) = !(decide (n = 1 ∨ n = 2 ∨ n = 4 ∨ n = 8)) := by
    rw [Bool.eq_iff_iff]
    simp only [Bool.and_eq_true, bne_iff_ne, ne_eq, Bool.not_eq_true', decide_eq_false_iff_not]
    omega
  rw [hn4]
  have ha := _root_.Go.Sx.PlanV.all_le p
  have ht : p.tags = p.all * 32 := rfl
  have hw := hpre.1
  unfold I64 at hw
  refine ⟨fun h => PlanV.line_bad (PlanV.code4 (Zge h)) (by decide), fun h => ?_⟩
  have hr := ZfQ h
  refine ⟨fun h => PlanV.line_bad (PlanV.code1 hr (of_decide_eq_false (Zge h))) (by decide), fun h => ?_⟩
  have hn := of_decide_eq_true (ZfQ h)
  refine ⟨fun h => ?_, fun h => ?_⟩
  · simp only [Bool.or_eq_true, decide_eq_true_eq] at h
    exact PlanV.line_bad (PlanV.code2 hr hn (by omega)) (by decide)
  simp only [Bool.or_eq_false_iff, decide_eq_false_iff_not] at h
  refine ⟨by omega, fun h1 => ?_, fun h1 => ?_⟩
  · rw [Int.tmod_eq_emod_of_nonneg (by omega), bne_iff_ne] at h1
    exact PlanV.line_bad (PlanV.code9 hr hn (by omega) h1) (by decide)
  · rw [Int.tmod_eq_emod_of_nonneg (by omega), bne_eq_false_iff_eq] at h1
    have := PlanV.line_ok (PlanV.code0 hr hn (by omega) h1)
    rw [Int.tmod_eq_emod_of_nonneg (by omega), Int.tdiv_eq_ediv_of_nonneg (by omega), ZgO]
    exact ⟨by rw [<- this.1]; omega, this.2⟩
theorem Zza : Sound Try.prog 73 (ZeA ZoM) := by
  refine Zbq ZoA ?_
  intro args H K h
  obtain ⟨pre, v, hP, hpre, rfl, hK⟩ := ZbM h
  unfold ZoM at hP
  split at hP
  · obtain ⟨hb, hP⟩ := ZaM hP
    simp only [Bool.and_eq_true] at hb
    obtain ⟨h0, h1⟩ := hb
    obtain rfl := Nat.eq_of_beq_eq_true h0
    obtain rfl := Nat.eq_of_beq_eq_true h1
    cases hP
    exact ⟨rfl, fun w0 fp ρi => Zy1 (PlanV.mk _ _ _ _ _ _ _ _ _ _ _ _ _ _ _ _) _ _ hK (Zxe (PlanV.mk _ _ _ _ _ _ _ _ _ _ _ _ _ _ _ _) _ _ hpre)⟩
  · cases hP
def ZyO : ZeX := fun args => match args with
  | [.agg [.one (.int .i64 aB), .one (.int .i64 aA), .one (.int .i64 az), .one (.int .i64 ay), .one (.int .i64 ax), .one (.int .i64 aw), .one (.int .u64 av), .one (.int .i64 au), .one (.int .i64 ar), .one (.int .i64 aq), .one (.int .i64 ao), .one (.int .i64 an), .one (.int .i64 am), .one (.int .i64 al), .ints .u8 ai ak, .ints .u8 ah aj], .int .i64 aa, .int .i64 n] => bif Nat.beq ai 16 && Nat.beq ah 16 then some ((I64 aa /\ I64 n), .tuple [.int .i64 (PlanV.lnOf (PlanV.mk aB aA az ay ax aw av au ar aq ao an am al ak aj) aa n), .int .i64 (PlanV.offOf (PlanV.mk aB aA az ay ax aw av au ar aq ao an am al ak aj) aa n), .int .i64 (PlanV.codeOf (PlanV.mk aB aA az ay ax aw av au ar aq ao an am al ak aj) aa n)]) else none
  | _ => none
def ZGA : PCon := ⟨79, ZyO⟩
def ZdA (p : PlanV) (aa n : Int) (Kf : SVal -> Heap -> Prop) : Prop := Kf (.tuple [.int .i64 (PlanV.lnOf p aa n), .int .i64 (PlanV.offOf p aa n), .int .i64 (PlanV.codeOf p aa n)]) ⟨0, []⟩
def Zrg : ACode := .reg (.op (some 3) (.box (.tm 0)) (.op (some 6) (.mov (.cn (.int .i64 0))) (.op (some 7) (.mov (.cn (.int .i64 0))) (.op (some 8) (.mov (.cn (.int .i64 0))) .nil))))
def Zns : ACode := .reg (.op (some 11) (.loadA 46 (.tm 3)) (.op (some 12) (.call 29 [(.tm 11)]) (.op (some 13) (.not (.tm 12)) .nil)))
def Zrf : ACode := .reg (.op (some 6) (.mov (.cn (.int .i64 0))) (.op (some 7) (.mov (.cn (.int .i64 0))) (.op (some 8) (.mov (.cn (.int .i64 4))) .nil)))
def Znq : ACode := .cond (.tm 13) (.seq Zrf .ret) .skip
def ZhT : ACode := .reg (.op (some 14) (.mov (.tm 2)) (.op (some 15) (.bin .neq (.tm 14) (.cn (.int .i64 1))) (.op (some 16) (.mov (.tm 15)) (.grpJ 16 true (.op (some 17) (.mov (.tm 2)) (.op (some 18) (.bin .neq (.tm 17) (.cn (.int .i64 2))) .nil)) 19 (.tm 18) (.cn (.bool false)) (.op (some 20) (.mov (.tm 19)) (.grpJ 20 true (.op (some 21) (.mov (.tm 2)) (.op (some 22) (.bin .neq (.tm 21) (.cn (.int .i64 4))) .nil)) 23 (.tm 22) (.cn (.bool false)) (.op (some 24) (.mov (.tm 23)) (.grpJ 24 true (.op (some 25) (.mov (.tm 2)) (.op (some 26) (.bin .neq (.tm 25) (.cn (.int .i64 8))) .nil)) 27 (.tm 26) (.cn (.bool false)) .nil))))))))
def Zre : ACode := .reg (.op (some 6) (.mov (.cn (.int .i64 0))) (.op (some 7) (.mov (.cn (.int .i64 0))) (.op (some 8) (.mov (.cn (.int .i64 1))) .nil)))
def ZhS : ACode := .cond (.tm 27) (.seq Zre .ret) .skip
def ZfD : ACode := .reg (.op (some 29) (.loadA 46 (.tm 3)) (.op (some 30) (.mov (.tm 1)) (.op (some 31) (.call 88 [(.tm 29), (.tm 30)]) (.op (some 28) (.mov (.tm 31)) (.op (some 32) (.extract (.tm 28) 0) (.op (some 33) (.extract (.tm 28) 1) (.op (some 9) (.alloc [.i 0, .i 0, .i 0, .i 0, .i 0]) (.op none (.storeA 5 (.tm 9) (.tm 32)) (.op (some 10) (.mov (.tm 33)) .nil)))))))))
def Ze7 : ACode := .reg (.op (some 34) (.mov (.tm 10)) (.op (some 35) (.not (.tm 34)) (.op (some 36) (.mov (.tm 35)) (.grpJ 36 false (.op (some 37) (.fieldAddr (.tm 9) 0 1) (.op (some 38) (.load1 (.tm 37)) (.op (some 39) (.bin .neq (.tm 38) (.cn (.int .i64 1))) .nil))) 40 (.tm 39) (.cn (.bool true)) .nil))))
def Zrd : ACode := .reg (.op (some 6) (.mov (.cn (.int .i64 0))) (.op (some 7) (.mov (.cn (.int .i64 0))) (.op (some 8) (.mov (.cn (.int .i64 2))) .nil)))
def Zd5 : ACode := .cond (.tm 40) (.seq Zrd .ret) .skip
def Zde : ACode := .reg (.op (some 41) (.mov (.tm 1)) (.op (some 42) (.mov (.tm 2)) (.op (some 43) (.bin .rem (.tm 41) (.tm 42)) (.op (some 44) (.bin .neq (.tm 43) (.cn (.int .i64 0))) .nil))))
def Znr : ACode := .reg (.op (some 6) (.mov (.cn (.int .i64 0))) (.op (some 7) (.mov (.cn (.int .i64 0))) (.op (some 8) (.mov (.cn (.int .i64 9))) .nil)))
def Zdd : ACode := .cond (.tm 44) (.seq Znr .ret) .skip
def Zlc : Items := .op (some 45) (.fieldAddr (.tm 9) 1 1) (.op (some 46) (.load1 (.tm 45)) (.op (some 47) (.fieldAddr (.tm 9) 4 1) (.op (some 48) (.load1 (.tm 47)) (.op (some 6) (.mov (.tm 46)) (.op (some 7) (.mov (.tm 48)) (.op (some 8) (.mov (.cn (.int .i64 0))) .nil))))))
def ZcS : ACode := .regQ Zlc
def ZBk : ACode := (.seq Zrg (.seq (.seq Zns Znq) (.seq (.seq ZhT ZhS) (.seq ZfD (.seq (.seq Ze7 Zd5) (.seq (.seq Zde Zdd) (.seq ZcS .ret)))))))
def Zc0 : Res := .many [.tm 6, .tm 7, .tm 8]
theorem Zsw : ZbE Try.prog 79 3 49 ZBk Zc0 = true := by kernel_rfl
def ZgK : Zbe := ZdX [Zkd, Zz9] []
theorem Ze4 : Zbg Try.prog ZgK := ZbH ⟨ZmQ, ZBV, trivial⟩ trivial
section
variable {w0 : World} {fp : Nat -> Nat -> Prop} {ρi : Rho} {Kf : SVal -> Heap -> Prop}
theorem ZIk (p : PlanV) (aa n : Int) (Z : Env -> Heap -> Prop) (h : Z ZOF ZhC) : EvC ZgK Zrf [] ZhC [6, 7, 8] [] Z := EvC.of (by kernel_rfl) h
theorem ZDu (p : PlanV) (aa n : Int) : RetC Zc0 ZOF ZhC (.tuple [.int .i64 0, .int .i64 0, .int .i64 4]) := RetC.of (fun Z => by kernel_rfl)
def ZvF (p : PlanV) (aa n : Int) : Prop := (0 = (PlanV.lnOf p aa n)) /\ (0 = (PlanV.offOf p aa n)) /\ (4 = (PlanV.codeOf p aa n))
theorem ZLq (p : PlanV) (aa n : Int) (hK : ZdA p aa n Kf) (h : ZvF p aa n) : SemL Try.prog w0 fp ρi 0 49 [Zrf, .ret, (.seq (.seq ZhT ZhS) (.seq ZfD (.seq (.seq Ze7 Zd5) (.seq (.seq Zde Zdd) (.seq ZcS .ret)))))] [] ZhC (fnK Zc0 0 Kf) :=
  Zae Ze4 (ZIk p aa n _ (Za7 (R := Zc0) (m := 0) (Kf := Kf) (fun _ _ h => h) (ZDu p aa n) (Za6 rfl (by kernel_rfl) (cg3 (fun (z1 z2 z3 : Int) => (.tuple [.int .i64 z1, .int .i64 z2, .int .i64 z3] : SVal)) h.1 h.2.1 h.2.2) hK)))
theorem ZIj (p : PlanV) (aa n : Int) (Z : Env -> Heap -> Prop) (h : Z ZOE ZhC) : EvC ZgK Zre [] ZhC [6, 7, 8] [] Z := EvC.of (by kernel_rfl) h
theorem ZDt (p : PlanV) (aa n : Int) : RetC Zc0 ZOE ZhC (.tuple [.int .i64 0, .int .i64 0, .int .i64 1]) := RetC.of (fun Z => by kernel_rfl)
def ZvE (p : PlanV) (aa n : Int) : Prop := (0 = (PlanV.lnOf p aa n)) /\ (0 = (PlanV.offOf p aa n)) /\ (1 = (PlanV.codeOf p aa n))
theorem ZLp (p : PlanV) (aa n : Int) (hK : ZdA p aa n Kf) (h : ZvE p aa n) : SemL Try.prog w0 fp ρi 0 49 [Zre, .ret, (.seq ZfD (.seq (.seq Ze7 Zd5) (.seq (.seq Zde Zdd) (.seq ZcS .ret))))] [] ZhC (fnK Zc0 0 Kf) :=
  Zae Ze4 (ZIj p aa n _ (Za7 (R := Zc0) (m := 0) (Kf := Kf) (fun _ _ h => h) (ZDt p aa n) (Za6 rfl (by kernel_rfl) (cg3 (fun (z1 z2 z3 : Int) => (.tuple [.int .i64 z1, .int .i64 z2, .int .i64 z3] : SVal)) h.1 h.2.1 h.2.2) hK)))
theorem ZIi (p : PlanV) (aa n : Int) (Z : Env -> Heap -> Prop) (h : Z ZOD ⟨2, []⟩) : EvC ZgK Zrd [] ⟨2, []⟩ [6, 7, 8] [] Z := EvC.of (by kernel_rfl) h
theorem ZDs (p : PlanV) (aa n : Int) : RetC Zc0 ZOD ⟨2, []⟩ (.tuple [.int .i64 0, .int .i64 0, .int .i64 2]) := RetC.of (fun Z => by kernel_rfl)
def ZvD (p : PlanV) (aa n : Int) : Prop := (0 = (PlanV.lnOf p aa n)) /\ (0 = (PlanV.offOf p aa n)) /\ (2 = (PlanV.codeOf p aa n))
theorem ZLo (p : PlanV) (aa n : Int) (hK : ZdA p aa n Kf) (h : ZvD p aa n) : SemL Try.prog w0 fp ρi 0 49 [Zrd, .ret, (.seq (.seq Zde Zdd) (.seq ZcS .ret))] [] ⟨2, []⟩ (fnK Zc0 0 Kf) :=
  Zae Ze4 (ZIi p aa n _ (Za7 (R := Zc0) (m := 0) (Kf := Kf) (fun _ _ h => h) (ZDs p aa n) (Za6 rfl (by kernel_rfl) (cg3 (fun (z1 z2 z3 : Int) => (.tuple [.int .i64 z1, .int .i64 z2, .int .i64 z3] : SVal)) h.1 h.2.1 h.2.2) hK)))
theorem ZIh (p : PlanV) (aa n : Int) (Z : Env -> Heap -> Prop) (h : Z ZOC ⟨2, []⟩) : EvC ZgK Znr [] ⟨2, []⟩ [6, 7, 8] [] Z := EvC.of (by kernel_rfl) h
theorem ZDr (p : PlanV) (aa n : Int) : RetC Zc0 ZOC ⟨2, []⟩ (.tuple [.int .i64 0, .int .i64 0, .int .i64 9]) := RetC.of (fun Z => by kernel_rfl)
def ZvC (p : PlanV) (aa n : Int) : Prop := (0 = (PlanV.lnOf p aa n)) /\ (0 = (PlanV.offOf p aa n)) /\ (9 = (PlanV.codeOf p aa n))
theorem ZLn (p : PlanV) (aa n : Int) (hK : ZdA p aa n Kf) (h : ZvC p aa n) : SemL Try.prog w0 fp ρi 0 49 [Znr, .ret, (.seq ZcS .ret)] [] ⟨2, []⟩ (fnK Zc0 0 Kf) :=
  Zae Ze4 (ZIh p aa n _ (Za7 (R := Zc0) (m := 0) (Kf := Kf) (fun _ _ h => h) (ZDr p aa n) (Za6 rfl (by kernel_rfl) (cg3 (fun (z1 z2 z3 : Int) => (.tuple [.int .i64 z1, .int .i64 z2, .int .i64 z3] : SVal)) h.1 h.2.1 h.2.2) hK)))
abbrev ZRR (x0 : PlaceV) : Env := [(6, some (.int .i64 x0.pline)), (7, some (.int .i64 x0.poff)), (8, some (.int .i64 0))]
abbrev Zu9 (x0 : PlaceV) : Heap := ⟨2, [(1, some ⟨true, (PlaceV.cs x0), 0⟩)]⟩
theorem ZIg (p : PlanV) (aa n : Int) (h1 : PlaceV) (Z : Env -> Heap -> Prop) (h : Z (ZRR h1) ⟨2, []⟩) : EvQC ZgK Zlc [] [(9, some (.ptr ⟨1, 0, 0, 1⟩ 5))] (Zu9 h1) [6, 7, 8] [] Z := EvQC.of (by kernel_rfl) h
theorem ZDq (p : PlanV) (aa n : Int) (h1 : PlaceV) : RetC Zc0 (ZRR h1) ⟨2, []⟩ (.tuple [.int .i64 h1.pline, .int .i64 h1.poff, .int .i64 0]) := RetC.of (fun Z => by kernel_rfl)
def ZvB (p : PlanV) (aa n : Int) (h1 : PlaceV) : Prop := (h1.pline = (PlanV.lnOf p aa n)) /\ (h1.poff = (PlanV.offOf p aa n)) /\ (0 = (PlanV.codeOf p aa n))
theorem ZLm (p : PlanV) (aa n : Int) (hK : ZdA p aa n Kf) (h1 : PlaceV) (h : ZvB p aa n h1) : SemL Try.prog w0 fp ρi 0 49 [ZcS, .ret] [(9, some (.ptr ⟨1, 0, 0, 1⟩ 5))] (Zu9 h1) (fnK Zc0 0 Kf) :=
  Zid Ze4 (its := Zlc) (ZIg p aa n h1 _ (Za7 (R := Zc0) (m := 0) (Kf := Kf) (fun _ _ h => h) (ZDq p aa n h1) (Za6 rfl (by kernel_rfl) (cg3 (fun (z1 z2 z3 : Int) => (.tuple [.int .i64 z1, .int .i64 z2, .int .i64 z3] : SVal)) h.1 h.2.1 h.2.2) hK)))
def ZvA (p : PlanV) (aa n : Int) (h1 : PlaceV) : Prop := (((Int.tmod aa n) != 0) = true -> (ZvC p aa n)) /\ (((Int.tmod aa n) != 0) = false -> (ZvB p aa n h1))
abbrev ZRQ (x0 x1 : Int) : Env := [(9, some (.ptr ⟨1, 0, 0, 1⟩ 5)), (44, some (.bool ((Int.tmod x0 x1) != 0)))]
theorem ZLl (p : PlanV) (aa n : Int) (hK : ZdA p aa n Kf) (h1 : PlaceV) (h : ZvA p aa n h1) : SemL Try.prog w0 fp ρi 0 49 [Zdd, (.seq ZcS .ret)] (ZRQ aa n) (Zu9 h1) (fnK Zc0 0 Kf) :=
  Za9 (q := ((Int.tmod aa n) != 0)) (by kernel_rfl) (fun hq => (Zag (lpk [] [] (ZLn p aa n hK (h.1 hq))))) (fun hq => (Zbh (lpk [9] [1] (Zag (ZLm p aa n hK h1 (h.2 hq))))))
abbrev ZRP (x0 x1 : Int) : Env := [(1, some (.int .i64 x0)), (2, some (.int .i64 x1)), (9, some (.ptr ⟨1, 0, 0, 1⟩ 5))]
theorem ZIf (p : PlanV) (aa n : Int) (h1 : PlaceV) (Z : Env -> Heap -> Prop) (h : ((n ≠ 0)) /\ Z (ZRQ aa n) (Zu9 h1)) : EvC ZgK Zde (ZRP aa n) (Zu9 h1) [9, 44] [1] Z := EvC.of (by kernel_rfl) h
def Zvz (p : PlanV) (aa n : Int) (h1 : PlaceV) : Prop := ((n ≠ 0)) /\ (ZvA p aa n h1)
theorem ZLk (p : PlanV) (aa n : Int) (hK : ZdA p aa n Kf) (h1 : PlaceV) (h : Zvz p aa n h1) : SemL Try.prog w0 fp ρi 0 49 [Zde, Zdd, (.seq ZcS .ret)] (ZRP aa n) (Zu9 h1) (fnK Zc0 0 Kf) :=
  Zae Ze4 (ZIf p aa n h1 _ ⟨h.1, (ZLl p aa n hK h1 h.2)⟩)
def Zs4 (p : PlanV) (aa n : Int) (h1 : PlaceV) : Prop := (((!(PlanV.placeB p aa)) || (h1.pkind != 1)) = true -> (ZvD p aa n)) /\ (((!(PlanV.placeB p aa)) || (h1.pkind != 1)) = false -> (Zvz p aa n h1))
theorem ZLj (p : PlanV) (aa n : Int) (hK : ZdA p aa n Kf) (h1 : PlaceV) (h : Zs4 p aa n h1) : SemL Try.prog w0 fp ρi 0 49 [Zd5, (.seq (.seq Zde Zdd) (.seq ZcS .ret))] [(1, some (.int .i64 aa)), (2, some (.int .i64 n)), (9, some (.ptr ⟨1, 0, 0, 1⟩ 5)), (40, some (.bool ((!(PlanV.placeB p aa)) || (h1.pkind != 1))))] (Zu9 h1) (fnK Zc0 0 Kf) :=
  Za9 (q := ((!(PlanV.placeB p aa)) || (h1.pkind != 1))) (by kernel_rfl) (fun hq => (Zag (lpk [] [] (ZLo p aa n hK (h.1 hq))))) (fun hq => (Zbh (lpk [1, 2, 9] [1] (Zag (Zag (ZLk p aa n hK h1 (h.2 hq)))))))
abbrev ZP1 (x0 x1 : Int) (x2 : PlanV) : Env := [(1, some (.int .i64 x0)), (2, some (.int .i64 x1)), (9, some (.ptr ⟨1, 0, 0, 1⟩ 5)), (10, some (.bool (PlanV.placeB x2 x0)))]
theorem ZIe (p : PlanV) (aa n : Int) (h1 : PlaceV) (Z : Env -> Heap -> Prop) (h : ∃ qq'3 : Bool, ((!(PlanV.placeB p aa)) = false -> (ZaL (Zu9 h1) (Zu9 h1) [(1, some ⟨true, (PlaceV.cs h1), 0⟩)]) /\ (h1.pkind != 1) = qq'3) /\ ((!(PlanV.placeB p aa)) = true -> true = qq'3) /\ Z [(1, some (.int .i64 aa)), (2, some (.int .i64 n)), (9, some (.ptr ⟨1, 0, 0, 1⟩ 5)), (40, some (.bool qq'3))] (Zu9 h1)) : EvC ZgK Ze7 (ZP1 aa n p) (Zu9 h1) [1, 2, 9, 40] [1] Z := EvC.of (by kernel_rfl) h
theorem ZLi (p : PlanV) (aa n : Int) (hK : ZdA p aa n Kf) (h1 : PlaceV) (h : Zs4 p aa n h1) : SemL Try.prog w0 fp ρi 0 49 [Ze7, Zd5, (.seq (.seq Zde Zdd) (.seq ZcS .ret))] (ZP1 aa n p) (Zu9 h1) (fnK Zc0 0 Kf) :=
  Zae Ze4 (ZIe p aa n h1 _ ⟨((!(PlanV.placeB p aa)) || (h1.pkind != 1)), fun hc_qq_3 => ⟨(ZaZ _), (qo1 hc_qq_3)⟩, fun hc_qq_3 => qo2 hc_qq_3, (ZLj p aa n hK h1 h)⟩)
theorem ZId (p : PlanV) (aa n : Int) (Z : Env -> Heap -> Prop) (h : ((I64 aa)) /\ Z (ZP1 aa n p) ⟨2, [(1, some ⟨true, (PlaceV.cs (PlanV.placeOf p aa)), 0⟩)]⟩) : EvC ZgK ZfD (ZsD aa n) (ZgM p) [1, 2, 9, 10] [1] Z := EvC.of (by kernel_rfl) h
def Zvy (p : PlanV) (aa n : Int) : Prop := ((I64 aa)) /\ (∀ h1 : PlaceV, h1 = (PlanV.placeOf p aa) -> Zs4 p aa n h1)
theorem ZLh (p : PlanV) (aa n : Int) (hK : ZdA p aa n Kf) (h : Zvy p aa n) : SemL Try.prog w0 fp ρi 0 49 [ZfD, (.seq (.seq Ze7 Zd5) (.seq (.seq Zde Zdd) (.seq ZcS .ret)))] (ZsD aa n) (ZgM p) (fnK Zc0 0 Kf) :=
  Zae Ze4 (ZId p aa n _ ⟨h.1, (Zag (Zag (ZLi p aa n hK (PlanV.placeOf p aa) (h.2 (PlanV.placeOf p aa) rfl))))⟩)
def Zmr (p : PlanV) (aa n : Int) : Prop := (((((n != 1) && (n != 2)) && (n != 4)) && (n != 8)) = true -> (ZvE p aa n)) /\ (((((n != 1) && (n != 2)) && (n != 4)) && (n != 8)) = false -> (Zvy p aa n))
theorem ZEA (p : PlanV) (aa n : Int) (hK : ZdA p aa n Kf) (h : Zmr p aa n) : SemL Try.prog w0 fp ρi 0 49 [ZhS, (.seq ZfD (.seq (.seq Ze7 Zd5) (.seq (.seq Zde Zdd) (.seq ZcS .ret))))] [(1, some (.int .i64 aa)), (2, some (.int .i64 n)), (3, some (.ptr ⟨0, 0, 0, 1⟩ 46)), (27, some (.bool ((((n != 1) && (n != 2)) && (n != 4)) && (n != 8))))] (ZgM p) (fnK Zc0 0 Kf) :=
  Za9 (q := ((((n != 1) && (n != 2)) && (n != 4)) && (n != 8))) (by kernel_rfl) (fun hq => (Zag (lpk [] [] (ZLp p aa n hK (h.1 hq))))) (fun hq => (Zbh (lpk [1, 2, 3] [0] (Zag (ZLh p aa n hK (h.2 hq))))))
theorem ZB4 (p : PlanV) (aa n : Int) (Z : Env -> Heap -> Prop) (h : ∃ qq : Bool, ((n != 1) = true -> (ZaL (ZgM p) (ZgM p) [(0, some ⟨true, (PlanV.cs p), 0⟩)]) /\ (n != 2) = qq) /\ ((n != 1) = false -> false = qq) /\ ∃ qq'1 : Bool, (qq = true -> (ZaL (ZgM p) (ZgM p) [(0, some ⟨true, (PlanV.cs p), 0⟩)]) /\ (n != 4) = qq'1) /\ (qq = false -> false = qq'1) /\ ∃ qq'2 : Bool, (qq'1 = true -> (ZaL (ZgM p) (ZgM p) [(0, some ⟨true, (PlanV.cs p), 0⟩)]) /\ (n != 8) = qq'2) /\ (qq'1 = false -> false = qq'2) /\ Z [(1, some (.int .i64 aa)), (2, some (.int .i64 n)), (3, some (.ptr ⟨0, 0, 0, 1⟩ 46)), (27, some (.bool qq'2))] (ZgM p)) : EvC ZgK ZhT (ZsD aa n) (ZgM p) [1, 2, 3, 27] [0] Z := EvC.of (by kernel_rfl) h
theorem ZEz (p : PlanV) (aa n : Int) (hK : ZdA p aa n Kf) (h : Zmr p aa n) : SemL Try.prog w0 fp ρi 0 49 [ZhT, ZhS, (.seq ZfD (.seq (.seq Ze7 Zd5) (.seq (.seq Zde Zdd) (.seq ZcS .ret))))] (ZsD aa n) (ZgM p) (fnK Zc0 0 Kf) :=
  Zae Ze4 (ZB4 p aa n _ ⟨((n != 1) && (n != 2)), fun hc_qq => ⟨(ZaZ _), (qa1 hc_qq)⟩, fun hc_qq => qa2 hc_qq, ⟨(((n != 1) && (n != 2)) && (n != 4)), fun hc_qq_1 => ⟨(ZaZ _), (qa1 hc_qq_1)⟩, fun hc_qq_1 => qa2 hc_qq_1, ⟨((((n != 1) && (n != 2)) && (n != 4)) && (n != 8)), fun hc_qq_2 => ⟨(ZaZ _), (qa1 hc_qq_2)⟩, fun hc_qq_2 => qa2 hc_qq_2, (ZEA p aa n hK h)⟩⟩⟩)
def Zi6 (p : PlanV) (aa n : Int) : Prop := ((!(PlanV.right p)) = true -> (ZvF p aa n)) /\ ((!(PlanV.right p)) = false -> (Zmr p aa n))
abbrev ZRO (x0 x1 : Int) (x2 : PlanV) : Env := [(1, some (.int .i64 x0)), (2, some (.int .i64 x1)), (3, some (.ptr ⟨0, 0, 0, 1⟩ 46)), (13, some (.bool (!(PlanV.right x2))))]
theorem ZEy (p : PlanV) (aa n : Int) (hK : ZdA p aa n Kf) (h : Zi6 p aa n) : SemL Try.prog w0 fp ρi 0 49 [Znq, (.seq (.seq ZhT ZhS) (.seq ZfD (.seq (.seq Ze7 Zd5) (.seq (.seq Zde Zdd) (.seq ZcS .ret)))))] (ZRO aa n p) (ZgM p) (fnK Zc0 0 Kf) :=
  Za9 (q := (!(PlanV.right p))) (by kernel_rfl) (fun hq => (Zag (lpk [] [] (ZLq p aa n hK (h.1 hq))))) (fun hq => (Zbh (lpk [1, 2, 3] [0] (Zag (Zag (ZEz p aa n hK (h.2 hq)))))))
theorem ZB3 (p : PlanV) (aa n : Int) (Z : Env -> Heap -> Prop) (h : (True) /\ Z (ZRO aa n p) (ZgM p)) : EvC ZgK Zns (ZsD aa n) (ZgM p) [1, 2, 3, 13] [0] Z := EvC.of (by kernel_rfl) h
theorem ZEx (p : PlanV) (aa n : Int) (hK : ZdA p aa n Kf) (h : Zi6 p aa n) : SemL Try.prog w0 fp ρi 0 49 [Zns, Znq, (.seq (.seq ZhT ZhS) (.seq ZfD (.seq (.seq Ze7 Zd5) (.seq (.seq Zde Zdd) (.seq ZcS .ret)))))] (ZsD aa n) (ZgM p) (fnK Zc0 0 Kf) :=
  Zae Ze4 (ZB3 p aa n _ ⟨True.intro, (ZEy p aa n hK h)⟩)
theorem ZB2 (p : PlanV) (aa n : Int) (Z : Env -> Heap -> Prop) (h : Z (ZsD aa n) (ZgM p)) : EvC ZgK Zrg (ZHl p aa n) ⟨0, []⟩ [1, 2, 3] [0] Z := EvC.of (by kernel_rfl) h
theorem ZEw (p : PlanV) (aa n : Int) (hK : ZdA p aa n Kf) (h : Zi6 p aa n) : SemL Try.prog w0 fp ρi 0 49 [Zrg, (.seq (.seq Zns Znq) (.seq (.seq ZhT ZhS) (.seq ZfD (.seq (.seq Ze7 Zd5) (.seq (.seq Zde Zdd) (.seq ZcS .ret))))))] (ZHl p aa n) ⟨0, []⟩ (fnK Zc0 0 Kf) :=
  Zae Ze4 (ZB2 p aa n _ (Zag (Zag (ZEx p aa n hK h))))
theorem ZHq (p : PlanV) (aa n : Int) (hK : ZdA p aa n Kf) (h : Zi6 p aa n) : SemL Try.prog w0 fp ρi 0 49 [ZBk] (ZHl p aa n) ⟨0, []⟩ (fnK Zc0 0 Kf) :=
  (Zag (ZEw p aa n hK h))
end
theorem ZGF (p : PlanV) (aa n : Int) (hpre : (I64 aa /\ I64 n)) : Zi6 p aa n := by
  unfold Zi6 Zmr Zvy Zs4 Zvz ZvA ZvB ZvC ZvD ZvE ZvF
  have hn4 : (n != 1 && n != 2 && n != 4 && n != 8) = !(decide (n = 1 ∨ n = 2 ∨ n = 4 ∨ n = 8)) := by
    rw [Bool.eq_iff_iff]
    simp only [Bool.and_eq_true, bne_iff_ne, ne_eq, Bool.not_eq_true', decide_eq_false_iff_not]
    omega
  rw [hn4]
  have ha := _root_.Go.Sx.PlanV.all_le p
  have ht : p.tags = p.all * 32 := rfl
  have hw := hpre.1
  unfold I64 at hw
  refine ⟨fun h => PlanV.line_bad (PlanV.code4 (Zge h)) (by decide), fun h => ?_⟩
  have hr := ZfQ h
  refine ⟨fun h => PlanV.line_bad (PlanV.code1 hr (of_decide_eq_false (Zge h))) (by decide), fun h => ?_⟩
  have hn := of_decide_eq_true (ZfQ h)
  refine ⟨hpre.1, ?_⟩
  rintro _ rfl
  rw [PlanV.place_kind hr]
  refine ⟨fun h => PlanV.line_bad (PlanV.code2 hr hn (of_decide_eq_false (Zge h))) (by decide), fun h => ?_⟩
  have h := of_decide_eq_true (ZfQ h)
  refine ⟨by omega, fun h1 => ?_, fun h1 => ?_⟩
  · rw [Int.tmod_eq_emod_of_nonneg (by omega), bne_iff_ne] at h1
    exact PlanV.line_bad (PlanV.code9 hr hn h h1) (by decide)
  · rw [Int.tmod_eq_emod_of_nonneg (by omega), bne_eq_false_iff_eq] at h1
    have := PlanV.line_ok (PlanV.code0 hr hn h h1)
    obtain ⟨g1, g2⟩ := PlanV.place_data hr h.1 h.2
    rw [g2]
    exact this
theorem ZHA : Sound Try.prog 79 (ZeA ZyO) := by
  refine Zbq Zsw ?_
  intro args H K h
  obtain ⟨pre, v, hP, hpre, rfl, hK⟩ := ZbM h
  unfold ZyO at hP
  split at hP
  · obtain ⟨hb, hP⟩ := ZaM hP
    simp only [Bool.and_eq_true] at hb
    obtain ⟨h0, h1⟩ := hb
    obtain rfl := Nat.eq_of_beq_eq_true h0
    obtain rfl := Nat.eq_of_beq_eq_true h1
    cases hP
    exact ⟨rfl, fun w0 fp ρi => ZHq (PlanV.mk _ _ _ _ _ _ _ _ _ _ _ _ _ _ _ _) _ _ hK (ZGF (PlanV.mk _ _ _ _ _ _ _ _ _ _ _ _ _ _ _ _) _ _ hpre)⟩
  · cases hP
end Go.Proofs.Ytinjdimejijabaa
