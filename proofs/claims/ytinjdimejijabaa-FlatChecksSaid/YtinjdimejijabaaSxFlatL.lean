/- Two parts of the proof. -/
import Derived.Test.YtinjdimejijabaaSxFlat2
import Derived.Test.YtinjdimejijabaaSxFlatW
import Derived.Test.YtinjdimejijabaaSxMixT
import Derived.KernelRfl
set_option linter.unusedVariables false
namespace Go.Sx
namespace PlanV
def lastGo (p : PlanV) : List (Tup Zaa) -> Lns -> Lns × Int
  | [], ls => (ls, 0)
  | e :: r, ls => if p.opCode (Zci e) ≠ 0 then (ls, p.opCode (Zci e)) else lastGo p r (p.flatL (Zci e) ls)
def lastP (p : PlanV) (es : List (Tup Zaa)) : Lns × Int := if p.right = true then p.lastGo es (ZbP p.all.toNat) else ([], 4)
def lastL (p : PlanV) (es : List (Tup Zaa)) : Lns := (p.lastP es).1
def lastE (p : PlanV) (es : List (Tup Zaa)) : Int := (p.lastP es).2
def lastN (p : PlanV) (es : List (Tup Zaa)) : Nat := if p.lastE es = 0 then p.all.toNat else 0
def lastM (p : PlanV) (es : List (Tup Zaa)) : Lns := if p.lastE es = 0 then p.lastL es else []
theorem lastN_bad {p : PlanV} {es : List (Tup Zaa)} (h : p.lastE es ≠ 0) : p.lastN es = 0 /\ p.lastM es = [] := by unfold lastN lastM; rw [if_neg h, if_neg h]; exact ⟨rfl, rfl⟩
theorem lastN_good {p : PlanV} {es : List (Tup Zaa)} (h : p.lastE es = 0) : p.lastN es = p.all.toNat /\ p.lastM es = p.lastL es := by unfold lastN lastM; rw [if_pos h, if_pos h]; exact ⟨rfl, rfl⟩
theorem Zui (p : PlanV) : ∀ (es : List (Tup Zaa)) (ls : Lns) (i : Nat) (l : Int), (p.chkGo es ls i l).2 ≠ 4
  | [], _, _, _ => by unfold chkGo; show (0 : Int) ≠ 4; decide
  | e :: r, ls, i, l => by
    unfold chkGo
    split
    · show (1 : Int) ≠ 4; decide
    · split
      · show (1 : Int) ≠ 4; decide
      · split
        · show (20 : Int) ≠ 4; decide
        · exact Zui p r _ _ _
theorem chk_4 {p : PlanV} {es : List (Tup Zaa)} : p.chkE es = 4 ↔ p.right = false := by
  cases hr : p.right with
  | true => rw [(chk_right hr es).2]; exact ⟨fun h => absurd h (Zui p _ _ _ _), fun h => by cases h⟩
  | false => exact ⟨fun _ => rfl, fun _ => (chk_wrong (by rw [hr]; rfl) es).2.symm⟩
theorem last_wrong {p : PlanV} (hr : p.right = false) (es : List (Tup Zaa)) : p.lastE es = 4 := by
  unfold lastE lastP; rw [if_neg (by rw [hr]; decide)]
theorem last_right {p : PlanV} (hr : p.right = true) (es : List (Tup Zaa)) : p.lastE es = (p.lastGo es (ZbP p.all.toNat)).2 /\ p.lastL es = (p.lastGo es (ZbP p.all.toNat)).1 := by
  unfold lastE lastL lastP; rw [if_pos hr]; exact ⟨rfl, rfl⟩
theorem last_bad {p : PlanV} {x : Tup Zaa} {r : List (Tup Zaa)} {ls : Lns} (h : p.opCode (Zci x) ≠ 0) : p.lastGo (x :: r) ls = (ls, p.opCode (Zci x)) := by rw [lastGo, if_pos h]
theorem last_next {p : PlanV} {x : Tup Zaa} {r : List (Tup Zaa)} {ls : Lns} (h : p.opCode (Zci x) = 0) : p.lastGo (x :: r) ls = p.lastGo r (p.flatL (Zci x) ls) := by rw [lastGo, if_neg (fun e => e h)]
end PlanV
end Go.Sx

set_option linter.unusedVariables false
set_option linter.unusedSimpArgs false
set_option maxRecDepth 20000
namespace Go.Proofs.Ytinjdimejijabaa
open Go.Sx
def ZyV : ZjB := fun args H => match args, H with
  | [.agg [.one (.int .i64 aL), .one (.int .i64 aK), .one (.int .i64 aJ), .one (.int .i64 aI), .one (.int .i64 aH), .one (.int .i64 aG), .one (.int .u64 aF), .one (.int .i64 aE), .one (.int .i64 aD), .one (.int .i64 aC), .one (.int .i64 az), .one (.int .i64 ay), .one (.int .i64 ax), .one (.int .i64 aw), .ints .u8 aB av, .ints .u8 aA au], .slice ⟨0, 0, 0, 10⟩ aa ab], ⟨1, [(0, some ⟨false, [.rows [.int .i64, .int .i64, .int .i64, .int .i64, .int .u64, .int .u64, .int .i64, .int .i64, .bool, .int .u64] done_m ac], 0⟩)]⟩ => bif Nat.beq aB 16 && Nat.beq aA 16 then some (done_m = aa /\ (Zej ac /\ List.length ac = aa /\ aa <= ab /\ aa <= 1000), fun K => ∀ cap0 : Nat, (PlanV.lastN (PlanV.mk aL aK aJ aI aH aG aF aE aD aC az ay ax aw av au) ac) <= cap0 -> K (.tuple [.slice ⟨1, 0, 0, 32⟩ (PlanV.lastN (PlanV.mk aL aK aJ aI aH aG aF aE aD aC az ay ax aw av au) ac) cap0, .int .i64 (PlanV.lastE (PlanV.mk aL aK aJ aI aH aG aF aE aD aC az ay ax aw av au) ac)]) ⟨2, [(1, some ⟨true, [.rows Zad (PlanV.lastN (PlanV.mk aL aK aJ aI aH aG aF aE aD aC az ay ax aw av au) ac) (PlanV.lastM (PlanV.mk aL aK aJ aI aH aG aF aE aD aC az ay ax aw av au) ac)], ((cap0 - (PlanV.lastN (PlanV.mk aL aK aJ aI aH aG aF aE aD aC az ay ax aw av au) ac)) * 32)⟩), (0, some ⟨false, [.rows Zaa aa ac], 0⟩)]⟩) else none
  | _, _ => none
def ZAB : Con := ⟨35, gS ZyV, [], [], []⟩
def ZcM (p : PlanV) (ac : List (Tup Zaa)) (aa ab : Nat) (Kf : SVal -> Heap -> Prop) : Prop := ∀ cap0 : Nat, (PlanV.lastN p ac) <= cap0 -> Kf (.tuple [.slice ⟨1, 0, 0, 32⟩ (PlanV.lastN p ac) cap0, .int .i64 (PlanV.lastE p ac)]) ⟨2, [(1, some ⟨true, [.rows Zad (PlanV.lastN p ac) (PlanV.lastM p ac)], ((cap0 - (PlanV.lastN p ac)) * 32)⟩), (0, some ⟨false, [.rows Zaa aa ac], 0⟩)]⟩
def ZrZ : ACode := .reg (.op (some 2) (.box (.tm 0)) (.op (some 4) (.mov (.cn (.nilslice))) (.op (some 5) (.mov (.cn (.int .i64 0))) .nil)))
def Zn5 : ACode := .reg (.op (some 13) (.loadA 46 (.tm 2)) (.op (some 14) (.call 26 [(.tm 13)]) (.op (some 12) (.mov (.tm 14)) (.op (some 15) (.extract (.tm 12) 0) (.op (some 16) (.extract (.tm 12) 1) (.op (some 6) (.mov (.tm 15)) (.op (some 7) (.mov (.tm 16)) .nil)))))))
def Zh3 : ACode := .reg (.op (some 17) (.mov (.tm 7)) (.op (some 18) (.bin .neq (.tm 17) (.cn (.int .i64 0))) .nil))
def ZrY : ACode := .reg (.op (some 19) (.mov (.tm 7)) (.op (some 4) (.mov (.cn (.nilslice))) (.op (some 5) (.mov (.tm 19)) .nil)))
def Zh2 : ACode := .cond (.tm 18) (.seq ZrY .ret) .skip
def ZfJ : ACode := .reg (.op (some 20) (.mov (.tm 1)) (.op (some 21) (.len (.tm 20)) (.op (some 22) (.mov (.cn (.int .i64 0))) .nil)))
def ZrX : ACode := .reg (.op (some 23) (.bin .lss (.tm 22) (.tm 21)) .nil)
def ZrW : ACode := .cond (.tm 23) .skip (.exit 0)
def ZrV : ACode := .reg (.op (some 24) (.idxS (.tm 20) (.tm 22) 10) (.op (some 25) (.loadA 10 (.tm 24)) (.op (some 9) (.alloc [.i 0, .i 0, .i 0, .i 0, .one (.int .u64 0), .one (.int .u64 0), .i 0, .i 0, .one (.bool false), .one (.int .u64 0)]) (.op none (.storeA 10 (.tm 9) (.tm 25)) .nil))))
def Zn3 : ACode := .reg (.op (some 27) (.mov (.tm 6)) (.op (some 28) (.fieldAddr (.tm 9) 1 5) (.op (some 29) (.loadA 5 (.tm 28)) (.op (some 30) (.call 27 [(.tm 27), (.tm 29)]) (.op (some 26) (.mov (.tm 30)) (.op (some 31) (.extract (.tm 26) 0) (.op (some 32) (.extract (.tm 26) 1) (.op (some 10) (.mov (.tm 31)) (.op (some 11) (.mov (.tm 32)) .nil)))))))))
def ZiQ : ACode := .reg (.op (some 33) (.mov (.tm 11)) (.op (some 34) (.bin .neq (.tm 33) (.cn (.int .i64 0))) .nil))
def Zn4 : ACode := .reg (.op (some 35) (.mov (.tm 11)) (.op (some 4) (.mov (.cn (.nilslice))) (.op (some 5) (.mov (.tm 35)) .nil)))
def ZiP : ACode := .cond (.tm 34) (.seq Zn4 .ret) .skip
def Zkm : ACode := .block 1 (.seq ZrV (.seq Zn3 (.seq ZiQ ZiP)))
def Zgt : ACode := .reg (.op (some 36) (.bin .add (.tm 22) (.cn (.int .i64 1))) (.op (some 22) (.mov (.tm 36)) .nil))
def Zue : ACode := .loop (.seq ZrX (.seq ZrW (.seq Zkm Zgt)))
def Zew : ACode := .block 0 Zue
def Zdx : ACode := .reg (.op (some 37) (.mov (.tm 6)) (.op (some 38) (.nilCheck (.tm 37)) (.op (some 39) (.fieldAddr (.tm 38) 46 1) (.op (some 40) (.load1 (.tm 39)) (.op (some 41) (.call 64 [(.tm 40)]) (.op (some 4) (.mov (.tm 41)) (.op (some 5) (.mov (.cn (.int .i64 0))) .nil)))))))
def ZBs : ACode := (.seq ZrZ (.seq Zn5 (.seq (.seq Zh3 Zh2) (.seq (.seq ZfJ Zew) (.seq Zdx .ret)))))
def ZdU : Res := .many [.tm 4, .tm 5]
theorem Zsy : ZbE Try.prog 35 2 42 ZBs ZdU = true := by kernel_rfl
def ZfA : Zbe := ZdX [] [Zyr, ZBq, Zys]
theorem Zen : Zbg Try.prog ZfA := ZbH trivial ⟨ZHE, ZQh, ZBY, trivial⟩
section
variable {w0 : World} {fp : Nat -> Nat -> Prop} {ρi : Rho} {Kf : SVal -> Heap -> Prop}
abbrev Yk0 : Env := [(4, some (.nilslice)), (5, some (.int .i64 4))]
abbrev Yk1 (x0 : Nat) (x1 : List (Tup Zaa)) : Heap := ⟨2, [(0, some ⟨false, [.rows Zaa x0 x1], 0⟩)]⟩
theorem ZJp (p : PlanV) (ac : List (Tup Zaa)) (aa ab : Nat) (Z : Env -> Heap -> Prop) (h : Z Yk0 (Yk1 aa ac)) : EvC ZfA ZrY [(7, some (.int .i64 4))] (Yk1 aa ac) [4, 5] [0] Z := EvC.of (by kernel_rfl) h
theorem ZD1 (p : PlanV) (ac : List (Tup Zaa)) (aa ab : Nat) : RetC ZdU Yk0 (Yk1 aa ac) (.tuple [.nilslice, .int .i64 4]) := RetC.of (fun Z => by kernel_rfl)
def Zo4 (p : PlanV) (ac : List (Tup Zaa)) (aa ab : Nat) : Prop := (0 = (PlanV.lastN p ac)) /\ (4 = (PlanV.lastE p ac)) /\ (0 = (PlanV.lastN p ac)) /\ (([] : List (Tup Zad)) = (PlanV.lastM p ac)) /\ (0 = ((0 - (PlanV.lastN p ac)) * 32)) /\ (((PlanV.lastN p ac) : Nat) <= 0)
theorem ZMN (p : PlanV) (ac : List (Tup Zaa)) (aa ab : Nat) (hK : ZcM p ac aa ab Kf) (h : Zo4 p ac aa ab) : SemL Try.prog w0 fp ρi 1 42 [ZrY, .ret, (.seq (.seq ZfJ Zew) (.seq Zdx .ret))] [(7, some (.int .i64 4))] (Yk1 aa ac) (fnK ZdU 1 Kf) :=
  Zae Zen (ZJp p ac aa ab _ (Za7 (R := ZdU) (m := 1) (Kf := Kf) (fun _ _ h => h) (ZD1 p ac aa ab) (Zw0 (r2 := .tuple [.slice ⟨2, 0, 0, 32⟩ 0 0, .int .i64 4]) (H2 := ⟨3, [(2, some ⟨true, [.rows Zad 0 ([] : List (Tup Zad))], 0⟩), (0, some ⟨false, [.rows Zaa aa ac], 0⟩)]⟩) [(some [.rows Zad 0 ([] : List (Tup Zad))])] rfl (by kernel_rfl) (Eq.mpr (cg5 (fun (z1 : Nat) (z2 : Int) (z3 : Nat) (z4 : List (Tup Zad)) (z5 : Nat) => Zf5 1 Kf (.tuple [.slice ⟨2, 0, 0, 32⟩ z1 0, .int .i64 z2]) ⟨3, [(2, some ⟨true, [.rows Zad z3 z4], z5⟩), (0, some ⟨false, [.rows Zaa aa ac], 0⟩)]⟩) h.1 h.2.1 h.2.2.1 h.2.2.2.1 h.2.2.2.2.1) (Zbo [(1, 2)] [1, 0] rfl (by kernel_rfl) rfl (ZbW (Za4 bsl (Za4 pbd Zcu))) (hsc pcs (hsc pcs Zah)) rfl (by kernel_rfl) (hK 0 h.2.2.2.2.2))))))
abbrev Yk2 (x0 x1 : Nat) : Env := [(1, some (.slice ⟨0, 0, 0, 10⟩ x0 x1)), (6, some (.nilptr)), (7, some (.int .i64 4)), (18, some (.bool true))]
theorem ZMM (p : PlanV) (ac : List (Tup Zaa)) (aa ab : Nat) (hK : ZcM p ac aa ab Kf) (h : Zo4 p ac aa ab) : SemL Try.prog w0 fp ρi 1 42 [Zh2, (.seq (.seq ZfJ Zew) (.seq Zdx .ret))] (Yk2 aa ab) (Yk1 aa ac) (fnK ZdU 1 Kf) :=
  Za9 (q := true) (by kernel_rfl) (fun _ => (Zag (lpk [7] [0] (ZMN p ac aa ab hK h)))) (fun hq => Bool.noConfusion hq)
abbrev Yk3 (x0 x1 : Nat) : Env := [(1, some (.slice ⟨0, 0, 0, 10⟩ x0 x1)), (6, some (.nilptr)), (7, some (.int .i64 4))]
theorem ZJo (p : PlanV) (ac : List (Tup Zaa)) (aa ab : Nat) (Z : Env -> Heap -> Prop) (h : Z (Yk2 aa ab) (Yk1 aa ac)) : EvC ZfA Zh3 (Yk3 aa ab) (Yk1 aa ac) [1, 6, 7, 18] [0] Z := EvC.of (by kernel_rfl) h
theorem ZML (p : PlanV) (ac : List (Tup Zaa)) (aa ab : Nat) (hK : ZcM p ac aa ab Kf) (h : Zo4 p ac aa ab) : SemL Try.prog w0 fp ρi 1 42 [Zh3, Zh2, (.seq (.seq ZfJ Zew) (.seq Zdx .ret))] (Yk3 aa ab) (Yk1 aa ac) (fnK ZdU 1 Kf) :=
  Zae Zen (ZJo p ac aa ab _ (ZMM p ac aa ab hK h))
def ZxB (w0 : World) (fp : Nat -> Nat -> Prop) (ρi : Rho) (Kf : SVal -> Heap -> Prop) (p : PlanV) (ac : List (Tup Zaa)) (aa ab : Nat) : ZdV := Zch 0 (fun e H => SemL Try.prog w0 fp ρi 1 42 [(.seq Zdx .ret)] e H (fnK ZdU 1 Kf)) (fnK ZdU 1 Kf)
def ZxI (p : PlanV) (ac : List (Tup Zaa)) (aa ab : Nat) (ag : Int) (ae : Nat) : Int × List (Tup Zad) -> Prop := fun s => match s with | (af, ad) => ∃ i : Nat, af = i /\ i <= aa /\ LinesOk p ad /\ PlanV.lastGo p (List.drop i ac) ad = PlanV.lastGo p ac (ZbP (Int.toNat (PlanV.all p)))
def Zxj (p : PlanV) (ac : List (Tup Zaa)) (aa ab : Nat) (ag : Int) (ae : Nat) : Int × List (Tup Zad) -> Nat := fun s => match s with | (af, ad) => (((aa : Int) - af).toNat)
def Zxv (p : PlanV) (ac : List (Tup Zaa)) (aa ab : Nat) (ag : Int) (ae : Nat) : Int × List (Tup Zad) -> Env := fun s => match s with | (af, ad) => [(6, some (.ptr ⟨3, 0, 0, 1⟩ 47)), (20, some (.slice ⟨0, 0, 0, 10⟩ aa ab)), (21, some (.int .i64 ag)), (22, some (.int .i64 af))]
def Zxp (p : PlanV) (ac : List (Tup Zaa)) (aa ab : Nat) (ag : Int) (ae : Nat) : Int × List (Tup Zad) -> Heap := fun s => match s with | (af, ad) => ⟨4, [(0, some ⟨false, [.rows Zaa aa ac], 0⟩), (2, some ⟨true, [.rows Zad ae ad], 0⟩), (3, some ⟨true, [.i p.cores, .i p.banks, .i p.pages, .i p.lines, .i p.arity, .i p.minor, .one (.int .u64 p.major), .i p.ns, .i p.nw, .i p.fs, .i p.fw, .i p.met, .i p.queue, .i p.kind, .ints .u8 16 p.key, .ints .u8 16 p.tag, .one (.slice ⟨2, 0, 0, 32⟩ ae ae)], 0⟩)]⟩
def Zjl (w0 : World) (fp : Nat -> Nat -> Prop) (ρi : Rho) (Kf : SVal -> Heap -> Prop) (p : PlanV) (ac : List (Tup Zaa)) (aa ab : Nat) (ag : Int) (ae : Nat) (af : Int) (ad : List (Tup Zad)) : ZdV := ZiC 1 (ZxI p ac aa ab ag ae) (Zxj p ac aa ab ag ae) (Zxv p ac aa ab ag ae) (Zxp p ac aa ab ag ae) (af, ad) (ZxB w0 fp ρi Kf p ac aa ab)
def ZkX (w0 : World) (fp : Nat -> Nat -> Prop) (ρi : Rho) (Kf : SVal -> Heap -> Prop) (p : PlanV) (ac : List (Tup Zaa)) (aa ab : Nat) (ag : Int) (ae : Nat) (af : Int) (ad : List (Tup Zad)) : ZdV := Zch 1 (fun e H => SemL Try.prog w0 fp ρi 1 42 [Zgt] e H (Zjl w0 fp ρi Kf p ac aa ab ag ae af ad)) (Zjl w0 fp ρi Kf p ac aa ab ag ae af ad)
abbrev Yk4 (x0 : Nat) (x1 : List (Tup Zaa)) : Heap := ⟨5, [(0, some ⟨false, [.rows Zaa x0 x1], 0⟩)]⟩
theorem ZJn (p : PlanV) (ac : List (Tup Zaa)) (aa ab : Nat) (an ag : Int) (ae : Nat) (af : Int) (ad : List (Tup Zad)) (Z : Env -> Heap -> Prop) (h : Z [(4, some (.nilslice)), (5, some (.int .i64 an))] (Yk4 aa ac)) : EvC ZfA Zn4 [(11, some (.int .i64 an))] (Yk4 aa ac) [4, 5] [0] Z := EvC.of (by kernel_rfl) h
theorem ZD0 (p : PlanV) (ac : List (Tup Zaa)) (aa ab : Nat) (an : Int) : RetC ZdU [(4, some (.nilslice)), (5, some (.int .i64 an))] (Yk4 aa ac) (.tuple [.nilslice, .int .i64 an]) := RetC.of (fun Z => by kernel_rfl)
def Zwk (p : PlanV) (ac : List (Tup Zaa)) (aa ab : Nat) (an ag : Int) (ae : Nat) (af : Int) (ad : List (Tup Zad)) : Prop := (0 = (PlanV.lastN p ac)) /\ (an = (PlanV.lastE p ac)) /\ (0 = (PlanV.lastN p ac)) /\ (([] : List (Tup Zad)) = (PlanV.lastM p ac)) /\ (0 = ((0 - (PlanV.lastN p ac)) * 32)) /\ (((PlanV.lastN p ac) : Nat) <= 0)
theorem ZMK (p : PlanV) (ac : List (Tup Zaa)) (aa ab : Nat) (hK : ZcM p ac aa ab Kf) (an ag : Int) (ae : Nat) (af : Int) (ad : List (Tup Zad)) (h : Zwk p ac aa ab an ag ae af ad) : SemL Try.prog w0 fp ρi 1 42 [Zn4, .ret] [(11, some (.int .i64 an))] (Yk4 aa ac) (ZkX w0 fp ρi Kf p ac aa ab ag ae af ad) :=
  Zae Zen (ZJn p ac aa ab an ag ae af ad _ (Za7 (R := ZdU) (m := 1) (Kf := Kf) (fun _ _ h => h) (ZD0 p ac aa ab an) (Zw0 (r2 := .tuple [.slice ⟨5, 0, 0, 32⟩ 0 0, .int .i64 an]) (H2 := ⟨6, [(5, some ⟨true, [.rows Zad 0 ([] : List (Tup Zad))], 0⟩), (0, some ⟨false, [.rows Zaa aa ac], 0⟩)]⟩) [(some [.rows Zad 0 ([] : List (Tup Zad))])] rfl (by kernel_rfl) (Eq.mpr (cg5 (fun (z1 : Nat) (z2 : Int) (z3 : Nat) (z4 : List (Tup Zad)) (z5 : Nat) => Zf5 1 Kf (.tuple [.slice ⟨5, 0, 0, 32⟩ z1 0, .int .i64 z2]) ⟨6, [(5, some ⟨true, [.rows Zad z3 z4], z5⟩), (0, some ⟨false, [.rows Zaa aa ac], 0⟩)]⟩) h.1 h.2.1 h.2.2.1 h.2.2.2.1 h.2.2.2.2.1) (Zbo [(1, 5)] [1, 0] rfl (by kernel_rfl) rfl (ZbW (Za4 bsl (Za4 pbd Zcu))) (hsc pcs (hsc pcs Zah)) rfl (by kernel_rfl) (hK 0 h.2.2.2.2.2))))))
abbrev Yk5 (x0 : Nat) (x1 : List (Tup Zaa)) (x2 : Nat) (x3 : List (Tup Zad)) (x4 : PlanV) : Heap := ⟨5, [(0, some ⟨false, [.rows Zaa x0 x1], 0⟩), (2, some ⟨true, [.rows Zad x2 x3], 0⟩), (3, some ⟨true, [.i x4.cores, .i x4.banks, .i x4.pages, .i x4.lines, .i x4.arity, .i x4.minor, .one (.int .u64 x4.major), .i x4.ns, .i x4.nw, .i x4.fs, .i x4.fw, .i x4.met, .i x4.queue, .i x4.kind, .ints .u8 16 x4.key, .ints .u8 16 x4.tag, .one (.slice ⟨2, 0, 0, 32⟩ x2 x2)], 0⟩)]⟩
abbrev Yk6 (x0 x1 : Nat) (x2 x3 : Int) : Env := [(6, some (.ptr ⟨3, 0, 0, 1⟩ 47)), (20, some (.slice ⟨0, 0, 0, 10⟩ x0 x1)), (21, some (.int .i64 x2)), (22, some (.int .i64 x3))]
theorem ZJm (p : PlanV) (ac : List (Tup Zaa)) (aa ab : Nat) (ag af : Int) (ae : Nat) (ah : List (Tup Zad)) (ad : List (Tup Zad)) (Z : Env -> Heap -> Prop) (h : Z [(6, some (.ptr ⟨3, 0, 0, 1⟩ 47)), (20, some (.slice ⟨0, 0, 0, 10⟩ aa ab)), (21, some (.int .i64 ag)), (22, some (.int .i64 (IntKind.i64.wrap (af + 1))))] (Yk5 aa ac ae ah p)) : EvC ZfA Zgt (Yk6 aa ab ag af) (Yk5 aa ac ae ah p) [6, 20, 21, 22] [0, 2, 3] Z := EvC.of (by kernel_rfl) h
def Zwj (p : PlanV) (ac : List (Tup Zaa)) (aa ab : Nat) (ag af : Int) (ae : Nat) (ah : List (Tup Zad)) (ad : List (Tup Zad)) : Prop := (∃ i : Nat, (IntKind.i64.wrap (af + 1)) = i /\ i <= aa /\ LinesOk p ah /\ PlanV.lastGo p (List.drop i ac) ah = PlanV.lastGo p ac (ZbP (Int.toNat (PlanV.all p)))) /\ ((((aa : Int) - (IntKind.i64.wrap (af + 1))).toNat) < (((aa : Int) - af).toNat))
theorem ZMJ (p : PlanV) (ac : List (Tup Zaa)) (aa ab : Nat) (hK : ZcM p ac aa ab Kf) (ag af : Int) (ae : Nat) (ah : List (Tup Zad)) (ad : List (Tup Zad)) (h : Zwj p ac aa ab ag af ae ah ad) : SemL Try.prog w0 fp ρi 1 42 [Zgt] (Yk6 aa ab ag af) (Yk5 aa ac ae ah p) (Zjl w0 fp ρi Kf p ac aa ab ag ae af ad) :=
  Zae Zen (ZJm p ac aa ab ag af ae ah ad _ (ZdB (Zdb (x' := ((IntKind.i64.wrap (af + 1)), ah)) (τ := tau []) h.1 h.2 (ZbC [] [0, 2, 3] rfl rfl (esc bpt (esc bsl (esc pbd (esc pbd Zba)))) (hsc pcs (hsc pcs (hsc (Zab pbd (Zab pbd (Zab pbd (Zab pbd (Zab pbd (Zab pbd (Zab pbd (Zab pbd (Zab pbd (Zab pbd (Zab pbd (Zab pbd (Zab pbd (Zab pbd (ZaT (ZaT (Zab bsl ZbX))))))))))))))))) Zah))) (by kernel_rfl) rfl))))
def Zth (p : PlanV) (ac : List (Tup Zaa)) (aa ab : Nat) (an ag af : Int) (ae : Nat) (ah : List (Tup Zad)) (ad : List (Tup Zad)) : Prop := ((an != 0) = true -> (Zwk p ac aa ab an ag ae af ad)) /\ ((an != 0) = false -> (Zwj p ac aa ab ag af ae ah ad))
abbrev Yk7 (x0 : Int) (x1 x2 : Nat) (x3 x4 : Int) : Env := [(6, some (.ptr ⟨3, 0, 0, 1⟩ 47)), (11, some (.int .i64 x0)), (20, some (.slice ⟨0, 0, 0, 10⟩ x1 x2)), (21, some (.int .i64 x3)), (22, some (.int .i64 x4)), (34, some (.bool (x0 != 0)))]
theorem ZMI (p : PlanV) (ac : List (Tup Zaa)) (aa ab : Nat) (hK : ZcM p ac aa ab Kf) (an ag af : Int) (ae : Nat) (ah : List (Tup Zad)) (ad : List (Tup Zad)) (h : Zth p ac aa ab an ag af ae ah ad) : SemL Try.prog w0 fp ρi 1 42 [ZiP] (Yk7 an aa ab ag af) (Yk5 aa ac ae ah p) (ZkX w0 fp ρi Kf p ac aa ab ag ae af ad) :=
  Za9 (q := (an != 0)) (by kernel_rfl) (fun hq => (Zag (lpk [11] [0] (ZMK p ac aa ab hK an ag ae af ad (h.1 hq))))) (fun hq => (Zbh (ZdB (lpk [6, 20, 21, 22] [0, 2, 3] (ZMJ p ac aa ab hK ag af ae ah ad (h.2 hq))))))
abbrev Yk8 (x0 : Int) (x1 x2 : Nat) (x3 x4 : Int) : Env := [(6, some (.ptr ⟨3, 0, 0, 1⟩ 47)), (11, some (.int .i64 x0)), (20, some (.slice ⟨0, 0, 0, 10⟩ x1 x2)), (21, some (.int .i64 x3)), (22, some (.int .i64 x4))]
theorem ZJl (p : PlanV) (ac : List (Tup Zaa)) (aa ab : Nat) (an ag af : Int) (ae : Nat) (ah : List (Tup Zad)) (ad : List (Tup Zad)) (Z : Env -> Heap -> Prop) (h : Z (Yk7 an aa ab ag af) (Yk5 aa ac ae ah p)) : EvC ZfA ZiQ (Yk8 an aa ab ag af) (Yk5 aa ac ae ah p) [6, 11, 20, 21, 22, 34] [0, 2, 3] Z := EvC.of (by kernel_rfl) h
theorem ZMH (p : PlanV) (ac : List (Tup Zaa)) (aa ab : Nat) (hK : ZcM p ac aa ab Kf) (an ag af : Int) (ae : Nat) (ah : List (Tup Zad)) (ad : List (Tup Zad)) (h : Zth p ac aa ab an ag af ae ah ad) : SemL Try.prog w0 fp ρi 1 42 [ZiQ, ZiP] (Yk8 an aa ab ag af) (Yk5 aa ac ae ah p) (ZkX w0 fp ρi Kf p ac aa ab ag ae af ad) :=
  Zae Zen (ZJl p ac aa ab an ag af ae ah ad _ (ZMI p ac aa ab hK an ag af ae ah ad h))
abbrev Yk9 (x0 x1 : Nat) (x2 x3 : Int) : Env := [(6, some (.ptr ⟨3, 0, 0, 1⟩ 47)), (9, some (.ptr ⟨4, 0, 0, 1⟩ 10)), (20, some (.slice ⟨0, 0, 0, 10⟩ x0 x1)), (21, some (.int .i64 x2)), (22, some (.int .i64 x3))]
abbrev ZQ5 (x0 : Nat) (x1 : List (Tup Zaa)) (x2 : Nat) (x3 : List (Tup Zad)) (x4 : PlanV) (x5 x6 x7 x8 x9 aQ aP aO aN aM : Int) : Heap := ⟨5, [(0, some ⟨false, [.rows Zaa x0 x1], 0⟩), (2, some ⟨true, [.rows Zad x2 x3], 0⟩), (3, some ⟨true, [.i x4.cores, .i x4.banks, .i x4.pages, .i x4.lines, .i x4.arity, .i x4.minor, .one (.int .u64 x4.major), .i x4.ns, .i x4.nw, .i x4.fs, .i x4.fw, .i x4.met, .i x4.queue, .i x4.kind, .ints .u8 16 x4.key, .ints .u8 16 x4.tag, .one (.slice ⟨2, 0, 0, 32⟩ x2 x2)], 0⟩), (4, some ⟨true, [.i x5, .i x6, .i x7, .i x8, .one (.int .u64 x9), .one (.int .u64 aQ), .i aP, .i aO, .one (.bool (List.getD x1 (0 + (Int.toNat aN)) (Tup.dflt Zaa)).2.2.2.2.2.2.2.2.1), .one (.int .u64 aM)], 0⟩)]⟩
theorem ZJk (p : PlanV) (ac : List (Tup Zaa)) (aa ab : Nat) (ag af : Int) (ae : Nat) (ad : List (Tup Zad)) (ar am al ak aj ai aq ap ao : Int) (Z : Env -> Heap -> Prop) (h : (((ae : Nat) = ae)) /\ (((ae : Nat) = ae) /\ (PlanV.right p = true /\ LinesOk p ad /\ List.length ad = ae /\ ae <= ae /\ OpV.Wf (OpV.mk am al ak aj ai))) /\ (((ae : Nat) = ae)) /\ (((ae : Nat) = ae)) /\ Z [(6, some (.ptr ⟨3, 0, 0, 1⟩ 47)), (11, some (.int .i64 (PlanV.opCode p (OpV.mk am al ak aj ai)))), (20, some (.slice ⟨0, 0, 0, 10⟩ aa ab)), (21, some (.int .i64 ag)), (22, some (.int .i64 af))] ⟨5, [(0, some ⟨false, [.rows Zaa aa ac], 0⟩), (2, some ⟨true, [.rows Zad ae (PlanV.flatL p (OpV.mk am al ak aj ai) ad)], 0⟩), (3, some ⟨true, [.i p.cores, .i p.banks, .i p.pages, .i p.lines, .i p.arity, .i p.minor, .one (.int .u64 p.major), .i p.ns, .i p.nw, .i p.fs, .i p.fw, .i p.met, .i p.queue, .i p.kind, .ints .u8 16 p.key, .ints .u8 16 p.tag, .one (.slice ⟨2, 0, 0, 32⟩ ae ae)], 0⟩)]⟩) : EvC ZfA Zn3 (Yk9 aa ab ag af) (ZQ5 aa ac ae ad p ar am al ak aj ai aq ap af ao) [6, 11, 20, 21, 22] [0, 2, 3] Z := EvC.of (by kernel_rfl) h
def Zwi (p : PlanV) (ac : List (Tup Zaa)) (aa ab : Nat) (ag af : Int) (ae : Nat) (ad : List (Tup Zad)) (ar am al ak aj ai aq ap ao : Int) : Prop := ((PlanV.right p = true /\ LinesOk p ad /\ List.length ad = ae /\ ae <= ae /\ OpV.Wf (OpV.mk am al ak aj ai))) /\ (∀ an : Int, an = (PlanV.opCode p (OpV.mk am al ak aj ai)) -> ∀ ah : List (Tup Zad), ah = (PlanV.flatL p (OpV.mk am al ak aj ai) ad) -> Zth p ac aa ab an ag af ae ah ad)
theorem ZMG (p : PlanV) (ac : List (Tup Zaa)) (aa ab : Nat) (hK : ZcM p ac aa ab Kf) (ag af : Int) (ae : Nat) (ad : List (Tup Zad)) (ar am al ak aj ai aq ap ao : Int) (h : Zwi p ac aa ab ag af ae ad ar am al ak aj ai aq ap ao) : SemL Try.prog w0 fp ρi 1 42 [Zn3, (.seq ZiQ ZiP)] (Yk9 aa ab ag af) (ZQ5 aa ac ae ad p ar am al ak aj ai aq ap af ao) (ZkX w0 fp ρi Kf p ac aa ab ag ae af ad) :=
  Zae Zen (ZJk p ac aa ab ag af ae ad ar am al ak aj ai aq ap ao _ ⟨rfl, ⟨⟨rfl, h.1⟩, ⟨rfl, ⟨rfl, (Zag (ZMH p ac aa ab hK (PlanV.opCode p (OpV.mk am al ak aj ai)) ag af ae (PlanV.flatL p (OpV.mk am al ak aj ai) ad) ad ((h.2 (PlanV.opCode p (OpV.mk am al ak aj ai)) rfl) (PlanV.flatL p (OpV.mk am al ak aj ai) ad) rfl)))⟩⟩⟩⟩)
abbrev ZoT (x0 : Nat) (x1 : List (Tup Zaa)) (x2 : Nat) (x3 : List (Tup Zad)) (x4 : PlanV) : Heap := ⟨4, [(0, some ⟨false, [.rows Zaa x0 x1], 0⟩), (2, some ⟨true, [.rows Zad x2 x3], 0⟩), (3, some ⟨true, [.i x4.cores, .i x4.banks, .i x4.pages, .i x4.lines, .i x4.arity, .i x4.minor, .one (.int .u64 x4.major), .i x4.ns, .i x4.nw, .i x4.fs, .i x4.fw, .i x4.met, .i x4.queue, .i x4.kind, .ints .u8 16 x4.key, .ints .u8 16 x4.tag, .one (.slice ⟨2, 0, 0, 32⟩ x2 x2)], 0⟩)]⟩
theorem ZJj (p : PlanV) (ac : List (Tup Zaa)) (aa ab : Nat) (ag af : Int) (ae : Nat) (ad : List (Tup Zad)) (Z : Env -> Heap -> Prop) (h : ((0 <= af)) /\ ((af < ((aa : Nat) : Int))) /\ (((0 + (Int.toNat af)) < aa)) /\ Z (Yk9 aa ab ag af) ⟨5, [(0, some ⟨false, [.rows Zaa aa ac], 0⟩), (2, some ⟨true, [.rows Zad ae ad], 0⟩), (3, some ⟨true, [.i p.cores, .i p.banks, .i p.pages, .i p.lines, .i p.arity, .i p.minor, .one (.int .u64 p.major), .i p.ns, .i p.nw, .i p.fs, .i p.fw, .i p.met, .i p.queue, .i p.kind, .ints .u8 16 p.key, .ints .u8 16 p.tag, .one (.slice ⟨2, 0, 0, 32⟩ ae ae)], 0⟩), (4, some ⟨true, [.i (List.getD ac (0 + (Int.toNat af)) (Tup.dflt Zaa)).1, .i (List.getD ac (0 + (Int.toNat af)) (Tup.dflt Zaa)).2.1, .i (List.getD ac (0 + (Int.toNat af)) (Tup.dflt Zaa)).2.2.1, .i (List.getD ac (0 + (Int.toNat af)) (Tup.dflt Zaa)).2.2.2.1, .one (.int .u64 (List.getD ac (0 + (Int.toNat af)) (Tup.dflt Zaa)).2.2.2.2.1), .one (.int .u64 (List.getD ac (0 + (Int.toNat af)) (Tup.dflt Zaa)).2.2.2.2.2.1), .i (List.getD ac (0 + (Int.toNat af)) (Tup.dflt Zaa)).2.2.2.2.2.2.1, .i (List.getD ac (0 + (Int.toNat af)) (Tup.dflt Zaa)).2.2.2.2.2.2.2.1, .one (.bool (List.getD ac (0 + (Int.toNat af)) (Tup.dflt Zaa)).2.2.2.2.2.2.2.2.1), .one (.int .u64 (List.getD ac (0 + (Int.toNat af)) (Tup.dflt Zaa)).2.2.2.2.2.2.2.2.2)], 0⟩)]⟩) : EvC ZfA ZrV (Yk6 aa ab ag af) (ZoT aa ac ae ad p) [6, 9, 20, 21, 22] [0, 2, 3, 4] Z := EvC.of (by kernel_rfl) h
def Ztg (p : PlanV) (ac : List (Tup Zaa)) (aa ab : Nat) (ag af : Int) (ae : Nat) (ad : List (Tup Zad)) : Prop := ((0 <= af)) /\ (((af < ((aa : Nat) : Int))) /\ ((((0 + (Int.toNat af)) < aa)) /\ (∀ ar : Int, ar = (List.getD ac (0 + (Int.toNat af)) (Tup.dflt Zaa)).1 -> ∀ am : Int, am = (List.getD ac (0 + (Int.toNat af)) (Tup.dflt Zaa)).2.1 -> ∀ al : Int, al = (List.getD ac (0 + (Int.toNat af)) (Tup.dflt Zaa)).2.2.1 -> ∀ ak : Int, ak = (List.getD ac (0 + (Int.toNat af)) (Tup.dflt Zaa)).2.2.2.1 -> ∀ aj : Int, aj = (List.getD ac (0 + (Int.toNat af)) (Tup.dflt Zaa)).2.2.2.2.1 -> ∀ ai : Int, ai = (List.getD ac (0 + (Int.toNat af)) (Tup.dflt Zaa)).2.2.2.2.2.1 -> ∀ aq : Int, aq = (List.getD ac (0 + (Int.toNat af)) (Tup.dflt Zaa)).2.2.2.2.2.2.1 -> ∀ ap : Int, ap = (List.getD ac (0 + (Int.toNat af)) (Tup.dflt Zaa)).2.2.2.2.2.2.2.1 -> ∀ ao : Int, ao = (List.getD ac (0 + (Int.toNat af)) (Tup.dflt Zaa)).2.2.2.2.2.2.2.2.2 -> Zwi p ac aa ab ag af ae ad ar am al ak aj ai aq ap ao)))
theorem ZMF (p : PlanV) (ac : List (Tup Zaa)) (aa ab : Nat) (hK : ZcM p ac aa ab Kf) (ag af : Int) (ae : Nat) (ad : List (Tup Zad)) (h : Ztg p ac aa ab ag af ae ad) : SemL Try.prog w0 fp ρi 1 42 [ZrV, (.seq Zn3 (.seq ZiQ ZiP))] (Yk6 aa ab ag af) (ZoT aa ac ae ad p) (ZkX w0 fp ρi Kf p ac aa ab ag ae af ad) :=
  Zae Zen (ZJj p ac aa ab ag af ae ad _ ⟨h.1, ⟨h.2.1, ⟨h.2.2.1, (Zag (ZMG p ac aa ab hK ag af ae ad (List.getD ac (0 + (Int.toNat af)) (Tup.dflt Zaa)).1 (List.getD ac (0 + (Int.toNat af)) (Tup.dflt Zaa)).2.1 (List.getD ac (0 + (Int.toNat af)) (Tup.dflt Zaa)).2.2.1 (List.getD ac (0 + (Int.toNat af)) (Tup.dflt Zaa)).2.2.2.1 (List.getD ac (0 + (Int.toNat af)) (Tup.dflt Zaa)).2.2.2.2.1 (List.getD ac (0 + (Int.toNat af)) (Tup.dflt Zaa)).2.2.2.2.2.1 (List.getD ac (0 + (Int.toNat af)) (Tup.dflt Zaa)).2.2.2.2.2.2.1 (List.getD ac (0 + (Int.toNat af)) (Tup.dflt Zaa)).2.2.2.2.2.2.2.1 (List.getD ac (0 + (Int.toNat af)) (Tup.dflt Zaa)).2.2.2.2.2.2.2.2.2 (((((((((h.2.2.2 (List.getD ac (0 + (Int.toNat af)) (Tup.dflt Zaa)).1 rfl) (List.getD ac (0 + (Int.toNat af)) (Tup.dflt Zaa)).2.1 rfl) (List.getD ac (0 + (Int.toNat af)) (Tup.dflt Zaa)).2.2.1 rfl) (List.getD ac (0 + (Int.toNat af)) (Tup.dflt Zaa)).2.2.2.1 rfl) (List.getD ac (0 + (Int.toNat af)) (Tup.dflt Zaa)).2.2.2.2.1 rfl) (List.getD ac (0 + (Int.toNat af)) (Tup.dflt Zaa)).2.2.2.2.2.1 rfl) (List.getD ac (0 + (Int.toNat af)) (Tup.dflt Zaa)).2.2.2.2.2.2.1 rfl) (List.getD ac (0 + (Int.toNat af)) (Tup.dflt Zaa)).2.2.2.2.2.2.2.1 rfl) (List.getD ac (0 + (Int.toNat af)) (Tup.dflt Zaa)).2.2.2.2.2.2.2.2.2 rfl)))⟩⟩⟩)
theorem ZME (p : PlanV) (ac : List (Tup Zaa)) (aa ab : Nat) (hK : ZcM p ac aa ab Kf) (ag af : Int) (ae : Nat) (ad : List (Tup Zad)) (h : Ztg p ac aa ab ag af ae ad) : SemL Try.prog w0 fp ρi 1 42 [Zkm, Zgt] (Yk6 aa ab ag af) (ZoT aa ac ae ad p) (Zjl w0 fp ρi Kf p ac aa ab ag ae af ad) :=
  ZbN (Zag (ZMF p ac aa ab hK ag af ae ad h))
theorem ZCF (p : PlanV) (ac : List (Tup Zaa)) (aa ab ae : Nat) (ad : List (Tup Zad)) (Z : Env -> Heap -> Prop) (h : (((ae : Nat) <= ae)) /\ (((ae : Nat) = ae) /\ (List.length (List.take ae ad) = ae /\ ae <= ae /\ ae <= 1000000)) /\ ∀ (c : Nat), ae <= c -> Z [(4, some (.slice ⟨4, 0, 0, 32⟩ ae c)), (5, some (.int .i64 0))] ⟨5, [(0, some ⟨false, [.rows Zaa aa ac], 0⟩), (4, some ⟨true, [.rows Zad ae (List.take ae ad)], ((c - ae) * 32)⟩)]⟩) : EvC ZfA Zdx [(6, some (.ptr ⟨3, 0, 0, 1⟩ 47))] (ZoT aa ac ae ad p) [4, 5] [0, 4] Z := EvC.of (by kernel_rfl) h
theorem ZDZ (p : PlanV) (ac : List (Tup Zaa)) (aa ab ae c : Nat) (ad : List (Tup Zad)) : RetC ZdU [(4, some (.slice ⟨4, 0, 0, 32⟩ ae c)), (5, some (.int .i64 0))] ⟨5, [(0, some ⟨false, [.rows Zaa aa ac], 0⟩), (4, some ⟨true, [.rows Zad ae (List.take ae ad)], ((c - ae) * 32)⟩)]⟩ (.tuple [.slice ⟨4, 0, 0, 32⟩ ae c, .int .i64 0]) := RetC.of (fun Z => by kernel_rfl)
def Zqi (p : PlanV) (ac : List (Tup Zaa)) (aa ab ae : Nat) (ad : List (Tup Zad)) : Prop := ((List.length (List.take ae ad) = ae /\ ae <= ae /\ ae <= 1000000)) /\ (∀ (c : Nat), (ae <= c) -> ((ae = (PlanV.lastN p ac)) /\ (0 = (PlanV.lastE p ac)) /\ (ae = (PlanV.lastN p ac)) /\ ((List.take ae ad) = (PlanV.lastM p ac)) /\ (((c - ae) * 32) = ((c - (PlanV.lastN p ac)) * 32)) /\ (((PlanV.lastN p ac) : Nat) <= c)))
theorem ZFx (p : PlanV) (ac : List (Tup Zaa)) (aa ab : Nat) (hK : ZcM p ac aa ab Kf) (ae : Nat) (ad : List (Tup Zad)) (h : Zqi p ac aa ab ae ad) : SemL Try.prog w0 fp ρi 1 42 [Zdx, .ret] [(6, some (.ptr ⟨3, 0, 0, 1⟩ 47))] (ZoT aa ac ae ad p) (fnK ZdU 1 Kf) :=
  Zae Zen (ZCF p ac aa ab ae ad _ ⟨(Nat.le_refl _), ⟨⟨rfl, h.1⟩, (fun c h_c_0 => (Za7 (R := ZdU) (m := 1) (Kf := Kf) (fun _ _ h => h) (ZDZ p ac aa ab ae c ad) (ZbS (Eq.mpr (cg5 (fun (z1 : Nat) (z2 : Int) (z3 : Nat) (z4 : List (Tup Zad)) (z5 : Nat) => Zf5 1 Kf (.tuple [.slice ⟨4, 0, 0, 32⟩ z1 c, .int .i64 z2]) ⟨5, [(0, some ⟨false, [.rows Zaa aa ac], 0⟩), (4, some ⟨true, [.rows Zad z3 z4], z5⟩)]⟩) (h.2 c h_c_0).1 (h.2 c h_c_0).2.1 (h.2 c h_c_0).2.2.1 (h.2 c h_c_0).2.2.2.1 (h.2 c h_c_0).2.2.2.2.1) (Zbo [(1, 4)] [1, 0] rfl (by kernel_rfl) rfl (ZbW (Za4 bsl (Za4 pbd Zcu))) (hsc pcs (hsc pcs Zah)) rfl (by kernel_rfl) (hK c (h.2 c h_c_0).2.2.2.2.2))))))⟩⟩)
def ZmA (p : PlanV) (ac : List (Tup Zaa)) (aa ab : Nat) (ag af : Int) (ae : Nat) (ad : List (Tup Zad)) : Prop := ((decide (af < ag)) = true -> (Ztg p ac aa ab ag af ae ad)) /\ ((decide (af < ag)) = false -> (Zqi p ac aa ab ae ad))
abbrev ZQ4 (x0 x1 : Nat) (x2 x3 : Int) : Env := [(6, some (.ptr ⟨3, 0, 0, 1⟩ 47)), (20, some (.slice ⟨0, 0, 0, 10⟩ x0 x1)), (21, some (.int .i64 x2)), (22, some (.int .i64 x3)), (23, some (.bool (decide (x3 < x2))))]
theorem ZFw (p : PlanV) (ac : List (Tup Zaa)) (aa ab : Nat) (hK : ZcM p ac aa ab Kf) (ag af : Int) (ae : Nat) (ad : List (Tup Zad)) (h : ZmA p ac aa ab ag af ae ad) : SemL Try.prog w0 fp ρi 1 42 [ZrW, (.seq Zkm Zgt)] (ZQ4 aa ab ag af) (ZoT aa ac ae ad p) (Zjl w0 fp ρi Kf p ac aa ab ag ae af ad) :=
  Za9 (q := (decide (af < ag))) (by kernel_rfl) (fun hq => (Zbh (lpk [6, 20, 21, 22] [0, 2, 3] (Zag (ZME p ac aa ab hK ag af ae ad (h.1 hq)))))) (fun hq => (ZeQ (lpk [6] [0, 2, 3] (Zag (ZFx p ac aa ab hK ae ad (h.2 hq))))))
theorem ZCE (p : PlanV) (ac : List (Tup Zaa)) (aa ab : Nat) (ag af : Int) (ae : Nat) (ad : List (Tup Zad)) (Z : Env -> Heap -> Prop) (h : Z (ZQ4 aa ab ag af) (ZoT aa ac ae ad p)) : EvC ZfA ZrX (Yk6 aa ab ag af) (ZoT aa ac ae ad p) [6, 20, 21, 22, 23] [0, 2, 3] Z := EvC.of (by kernel_rfl) h
theorem ZFv (p : PlanV) (ac : List (Tup Zaa)) (aa ab : Nat) (hK : ZcM p ac aa ab Kf) (ag af : Int) (ae : Nat) (ad : List (Tup Zad)) (h : ZmA p ac aa ab ag af ae ad) : SemL Try.prog w0 fp ρi 1 42 [ZrX, (.seq ZrW (.seq Zkm Zgt))] (Yk6 aa ab ag af) (ZoT aa ac ae ad p) (Zjl w0 fp ρi Kf p ac aa ab ag ae af ad) :=
  Zae Zen (ZCE p ac aa ab ag af ae ad _ (Zag (ZFw p ac aa ab hK ag af ae ad h)))
def Zmz (p : PlanV) (ac : List (Tup Zaa)) (aa ab : Nat) (ag : Int) (ae : Nat) (h2 : List (Tup Zad)) : Prop := (∃ i : Nat, (0 : Int) = i /\ i <= aa /\ LinesOk p h2 /\ PlanV.lastGo p (List.drop i ac) h2 = PlanV.lastGo p ac (ZbP (Int.toNat (PlanV.all p)))) /\ (∀ (af : Int) (ad : List (Tup Zad)), (∃ i : Nat, af = i /\ i <= aa /\ LinesOk p ad /\ PlanV.lastGo p (List.drop i ac) ad = PlanV.lastGo p ac (ZbP (Int.toNat (PlanV.all p)))) -> (ZmA p ac aa ab ag af ae ad))
abbrev ZQ3 (x0 x1 : Nat) (x2 : Int) : Env := [(6, some (.ptr ⟨3, 0, 0, 1⟩ 47)), (20, some (.slice ⟨0, 0, 0, 10⟩ x0 x1)), (21, some (.int .i64 x2)), (22, some (.int .i64 0))]
theorem ZFu (p : PlanV) (ac : List (Tup Zaa)) (aa ab : Nat) (hK : ZcM p ac aa ab Kf) (ag : Int) (ae : Nat) (h2 : List (Tup Zad)) (h : Zmz p ac aa ab ag ae h2) : SemL Try.prog w0 fp ρi 1 42 [Zue] (ZQ3 aa ab ag) (ZoT aa ac ae h2 p) (ZxB w0 fp ρi Kf p ac aa ab) :=
  ZgJ (ZxI p ac aa ab ag ae) (Zxj p ac aa ab ag ae) (Zxv p ac aa ab ag ae) (Zxp p ac aa ab ag ae) ⟨(0, h2), tau [], h.1, (ZbC [] [0, 2, 3] rfl rfl (esc bpt (esc bsl (esc pbd (esc pbd Zba)))) (hsc pcs (hsc pcs (hsc (Zab pbd (Zab pbd (Zab pbd (Zab pbd (Zab pbd (Zab pbd (Zab pbd (Zab pbd (Zab pbd (Zab pbd (Zab pbd (Zab pbd (Zab pbd (Zab pbd (ZaT (ZaT (Zab bsl ZbX))))))))))))))))) Zah))) (by kernel_rfl) rfl)⟩ (fun s => match s with | (af, ad) => fun hi => (Zag (ZFv p ac aa ab hK ag af ae ad (h.2 af ad hi))))
theorem ZFt (p : PlanV) (ac : List (Tup Zaa)) (aa ab : Nat) (hK : ZcM p ac aa ab Kf) (ag : Int) (ae : Nat) (h2 : List (Tup Zad)) (h : Zmz p ac aa ab ag ae h2) : SemL Try.prog w0 fp ρi 1 42 [Zew, (.seq Zdx .ret)] (ZQ3 aa ab ag) (ZoT aa ac ae h2 p) (fnK ZdU 1 Kf) :=
  ZbN (ZFu p ac aa ab hK ag ae h2 h)
abbrev ZQ2 (x0 x1 : Nat) : Env := [(1, some (.slice ⟨0, 0, 0, 10⟩ x0 x1)), (6, some (.ptr ⟨3, 0, 0, 1⟩ 47))]
theorem ZCD (p : PlanV) (ac : List (Tup Zaa)) (aa ab ae : Nat) (h2 : List (Tup Zad)) (Z : Env -> Heap -> Prop) (h : Z [(6, some (.ptr ⟨3, 0, 0, 1⟩ 47)), (20, some (.slice ⟨0, 0, 0, 10⟩ aa ab)), (21, some (.int .i64 ((aa : Nat) : Int))), (22, some (.int .i64 0))] (ZoT aa ac ae h2 p)) : EvC ZfA ZfJ (ZQ2 aa ab) (ZoT aa ac ae h2 p) [6, 20, 21, 22] [0, 2, 3] Z := EvC.of (by kernel_rfl) h
def ZkG (p : PlanV) (ac : List (Tup Zaa)) (aa ab ae : Nat) (h2 : List (Tup Zad)) : Prop := ∀ ag : Int, ag = ((aa : Nat) : Int) -> Zmz p ac aa ab ag ae h2
theorem ZFs (p : PlanV) (ac : List (Tup Zaa)) (aa ab : Nat) (hK : ZcM p ac aa ab Kf) (ae : Nat) (h2 : List (Tup Zad)) (h : ZkG p ac aa ab ae h2) : SemL Try.prog w0 fp ρi 1 42 [ZfJ, Zew, (.seq Zdx .ret)] (ZQ2 aa ab) (ZoT aa ac ae h2 p) (fnK ZdU 1 Kf) :=
  Zae Zen (ZCD p ac aa ab ae h2 _ (ZFt p ac aa ab hK ((aa : Nat) : Int) ae h2 (h ((aa : Nat) : Int) rfl)))
abbrev ZQ1 (x0 x1 : Nat) : Env := [(1, some (.slice ⟨0, 0, 0, 10⟩ x0 x1)), (6, some (.ptr ⟨3, 0, 0, 1⟩ 47)), (7, some (.int .i64 0)), (18, some (.bool false))]
theorem ZFr (p : PlanV) (ac : List (Tup Zaa)) (aa ab : Nat) (hK : ZcM p ac aa ab Kf) (ae : Nat) (h2 : List (Tup Zad)) (h : ZkG p ac aa ab ae h2) : SemL Try.prog w0 fp ρi 1 42 [Zh2, (.seq (.seq ZfJ Zew) (.seq Zdx .ret))] (ZQ1 aa ab) (ZoT aa ac ae h2 p) (fnK ZdU 1 Kf) :=
  Za9 (q := false) (by kernel_rfl) (fun hq => Bool.noConfusion hq) (fun _ => (Zbh (lpk [1, 6] [0, 2, 3] (Zag (Zag (ZFs p ac aa ab hK ae h2 h))))))
abbrev ZPH (x0 x1 : Nat) : Env := [(1, some (.slice ⟨0, 0, 0, 10⟩ x0 x1)), (6, some (.ptr ⟨3, 0, 0, 1⟩ 47)), (7, some (.int .i64 0))]
theorem ZCC (p : PlanV) (ac : List (Tup Zaa)) (aa ab ae : Nat) (h2 : List (Tup Zad)) (Z : Env -> Heap -> Prop) (h : Z (ZQ1 aa ab) (ZoT aa ac ae h2 p)) : EvC ZfA Zh3 (ZPH aa ab) (ZoT aa ac ae h2 p) [1, 6, 7, 18] [0, 2, 3] Z := EvC.of (by kernel_rfl) h
theorem ZFq (p : PlanV) (ac : List (Tup Zaa)) (aa ab : Nat) (hK : ZcM p ac aa ab Kf) (ae : Nat) (h2 : List (Tup Zad)) (h : ZkG p ac aa ab ae h2) : SemL Try.prog w0 fp ρi 1 42 [Zh3, Zh2, (.seq (.seq ZfJ Zew) (.seq Zdx .ret))] (ZPH aa ab) (ZoT aa ac ae h2 p) (fnK ZdU 1 Kf) :=
  Zae Zen (ZCC p ac aa ab ae h2 _ (ZFr p ac aa ab hK ae h2 h))
abbrev ZPG (x0 x1 : Nat) : Env := [(1, some (.slice ⟨0, 0, 0, 10⟩ x0 x1)), (2, some (.ptr ⟨1, 0, 0, 1⟩ 46))]
abbrev ZPF (x0 : Nat) (x1 : List (Tup Zaa)) (x2 : PlanV) : Heap := ⟨2, [(0, some ⟨false, [.rows Zaa x0 x1], 0⟩), (1, some ⟨true, (PlanV.cs x2), 0⟩)]⟩
theorem ZCB (p : PlanV) (ac : List (Tup Zaa)) (aa ab : Nat) (Z : Env -> Heap -> Prop) (h : (True) /\ ((!PlanV.right p) = true -> Z (Yk3 aa ab) (Yk1 aa ac)) /\ ((!PlanV.right p) = false -> Z (ZPH aa ab) ⟨4, [(0, some ⟨false, [.rows Zaa aa ac], 0⟩), (2, some ⟨true, [.rows Zad (Int.toNat (PlanV.all p)) (ZbP (Int.toNat (PlanV.all p)))], 0⟩), (3, some ⟨true, [.i p.cores, .i p.banks, .i p.pages, .i p.lines, .i p.arity, .i p.minor, .one (.int .u64 p.major), .i p.ns, .i p.nw, .i p.fs, .i p.fw, .i p.met, .i p.queue, .i p.kind, .ints .u8 16 p.key, .ints .u8 16 p.tag, .one (.slice ⟨2, 0, 0, 32⟩ (Int.toNat (PlanV.all p)) (Int.toNat (PlanV.all p)))], 0⟩)]⟩)) : EvC ZfA Zn5 (ZPG aa ab) (ZPF aa ac p) [1, 6, 7] [0, 2, 3] Z := EvC.of (by kernel_rfl) h
def ZkF (p : PlanV) (ac : List (Tup Zaa)) (aa ab : Nat) : Prop := ((!PlanV.right p) = true -> (Zo4 p ac aa ab)) /\ ((!PlanV.right p) = false -> (∀ ae : Nat, ae = (Int.toNat (PlanV.all p)) -> ∀ h2 : List (Tup Zad), h2 = (ZbP (Int.toNat (PlanV.all p))) -> ZkG p ac aa ab ae h2))
theorem ZFp (p : PlanV) (ac : List (Tup Zaa)) (aa ab : Nat) (hK : ZcM p ac aa ab Kf) (h : ZkF p ac aa ab) : SemL Try.prog w0 fp ρi 1 42 [Zn5, (.seq (.seq Zh3 Zh2) (.seq (.seq ZfJ Zew) (.seq Zdx .ret)))] (ZPG aa ab) (ZPF aa ac p) (fnK ZdU 1 Kf) :=
  Zae Zen (ZCB p ac aa ab _ ⟨True.intro, ⟨fun hc1 => (Zag (Zag (ZML p ac aa ab hK (h.1 hc1)))), fun hc1 => (Zag (Zag (ZFq p ac aa ab hK (Int.toNat (PlanV.all p)) (ZbP (Int.toNat (PlanV.all p))) (((h.2 hc1) (Int.toNat (PlanV.all p)) rfl) (ZbP (Int.toNat (PlanV.all p))) rfl))))⟩⟩)
abbrev ZPE (x0 : PlanV) (x1 x2 : Nat) : Env := [(0, some (.agg (PlanV.cs x0))), (1, some (.slice ⟨0, 0, 0, 10⟩ x1 x2))]
abbrev ZPD (x0 : Nat) (x1 : List (Tup Zaa)) : Heap := ⟨1, [(0, some ⟨false, [.rows Zaa x0 x1], 0⟩)]⟩
theorem ZCA (p : PlanV) (ac : List (Tup Zaa)) (aa ab : Nat) (Z : Env -> Heap -> Prop) (h : Z (ZPG aa ab) (ZPF aa ac p)) : EvC ZfA ZrZ (ZPE p aa ab) (ZPD aa ac) [1, 2] [0, 1] Z := EvC.of (by kernel_rfl) h
theorem ZFo (p : PlanV) (ac : List (Tup Zaa)) (aa ab : Nat) (hK : ZcM p ac aa ab Kf) (h : ZkF p ac aa ab) : SemL Try.prog w0 fp ρi 1 42 [ZrZ, (.seq Zn5 (.seq (.seq Zh3 Zh2) (.seq (.seq ZfJ Zew) (.seq Zdx .ret))))] (ZPE p aa ab) (ZPD aa ac) (fnK ZdU 1 Kf) :=
  Zae Zen (ZCA p ac aa ab _ (Zag (ZFp p ac aa ab hK h)))
theorem ZHt (p : PlanV) (ac : List (Tup Zaa)) (aa ab : Nat) (hK : ZcM p ac aa ab Kf) (h : ZkF p ac aa ab) : SemL Try.prog w0 fp ρi 1 42 [ZBs] (ZPE p aa ab) (ZPD aa ac) (fnK ZdU 1 Kf) :=
  (Zag (ZFo p ac aa ab hK h))
end
theorem ZGH (p : PlanV) (ac : List (Tup Zaa)) (aa ab : Nat) (hpre : (Zej ac /\ List.length ac = aa /\ aa <= ab /\ aa <= 1000)) : ZkF p ac aa ab := by
  unfold ZkF ZkG Zmz ZmA Zqi Ztg Zwi Zth Zwj Zwk Zo4
  obtain ⟨he, h1, h2, h3⟩ := hpre
  have hz := PlanV.zero_ok p
  have hb := PlanV.all_bd p
  refine ⟨fun hr => ?_, fun hr => ?_⟩
  · have hr : p.right = false := by simpa using hr
    have e4 : p.lastE ac = 4 := by unfold PlanV.lastE PlanV.lastP; rw [if_neg (by rw [hr]; decide)]
    obtain ⟨n1, n2⟩ := PlanV.lastN_bad (p := p) (es := ac) (by rw [e4]; decide)
    rw [n1, n2, e4]
    exact ⟨rfl, rfl, rfl, rfl, rfl, Nat.le_refl _⟩
  have hr : p.right = true := by simpa using hr
  have hE : p.lastE ac = (p.lastGo ac (ZbP p.all.toNat)).2 := by unfold PlanV.lastE PlanV.lastP; rw [if_pos hr]
  have hL : p.lastL ac = (p.lastGo ac (ZbP p.all.toNat)).1 := by unfold PlanV.lastL PlanV.lastP; rw [if_pos hr]
  rintro ae rfl h2 rfl ag rfl
  refine ⟨⟨0, rfl, by omega, hz, by rw [List.drop_zero]⟩, fun af ls hI => ⟨fun hlt => ?_, fun hge => ?_⟩⟩
  · have hlt := of_decide_eq_true hlt
    obtain ⟨i, e0, i1, i2, i3⟩ := hI
    subst e0
    obtain ⟨hd, hm⟩ := Znd (d := Tup.dflt Zaa) (show i < ac.length by omega)
    have w1 : IntKind.i64.wrap ((i : Int) + 1) = ((i + 1 : Nat) : Int) := by rw [ZgO]; omega
    rw [show 0 + ((i : Nat) : Int).toNat = i by omega, w1]
    rw [hd] at i3
    have eok := he _ hm
    generalize ac.getD i (Tup.dflt Zaa) = x at *
    refine ⟨by omega, by omega, by omega, ?_⟩
    rintro _ rfl _ rfl _ rfl _ rfl _ rfl _ rfl _ rfl _ rfl _ rfl
    refine ⟨⟨hr, i2, i2.1, Nat.le_refl _, eok.1⟩, ?_⟩
    rintro an rfl ls2 rfl
    refine ⟨fun h => ?_, fun h => ?_⟩
    · have h : p.opCode (Zci x) ≠ 0 := bne_iff_ne.1 h
      rw [PlanV.lastGo, if_pos h] at i3
      obtain ⟨n1, n2⟩ := PlanV.lastN_bad (p := p) (es := ac) (by rw [hE, <- i3]; exact h)
      rw [n1, n2, hE, <- i3]
      exact ⟨rfl, rfl, rfl, rfl, rfl, Nat.le_refl _⟩
    · have h : p.opCode (Zci x) = 0 := bne_eq_false_iff_eq.1 h
      rw [PlanV.lastGo, if_neg (fun e => e h)] at i3
      exact ⟨⟨i + 1, rfl, by omega, (PlanV.flat_step i2).2.2, i3⟩, by omega⟩
  · have hge := of_decide_eq_false hge
    obtain ⟨i, e0, i1, i2, i3⟩ := hI
    have hi : i = ac.length := by omega
    rw [hi, List.drop_length, PlanV.lastGo] at i3
    have tl : List.take p.all.toNat ls = ls := List.take_of_length_le (by rw [i2.1]; exact Nat.le_refl _)
    obtain ⟨n1, n2⟩ := PlanV.lastN_good (p := p) (es := ac) (by rw [hE, <- i3])
    rw [tl, n1, n2, hE, hL, <- i3]
    exact ⟨⟨i2.1, Nat.le_refl _, by omega⟩, fun c hc => ⟨rfl, rfl, rfl, rfl, rfl, hc⟩⟩
theorem ZHF : Sound Try.prog 35 (gS ZyV) := by
  refine Zbq Zsy ?_
  intro args H K h
  obtain ⟨pre, out, hD, hpre, hK⟩ := ZhE h
  unfold ZyV at hD
  split at hD
  · obtain ⟨hb, hD⟩ := ZaM hD
    simp only [Bool.and_eq_true] at hb
    obtain ⟨h0, h1⟩ := hb
    obtain rfl := Nat.eq_of_beq_eq_true h0
    obtain rfl := Nat.eq_of_beq_eq_true h1
    cases hD
    obtain ⟨rfl, hpre⟩ := hpre
    exact ⟨rfl, fun w0 fp ρi => ZHt (PlanV.mk _ _ _ _ _ _ _ _ _ _ _ _ _ _ _ _) _ _ _ hK (ZGH (PlanV.mk _ _ _ _ _ _ _ _ _ _ _ _ _ _ _ _) _ _ _ hpre)⟩
  · cases hD
end Go.Proofs.Ytinjdimejijabaa
