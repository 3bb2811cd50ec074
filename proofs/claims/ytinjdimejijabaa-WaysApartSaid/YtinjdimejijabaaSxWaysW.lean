/- Part of the proof: SxWaysW. -/
import Derived.Test.YtinjdimejijabaaSxProgC
import Derived.Test.YtinjdimejijabaaSxWays
import Derived.Test.YtinjdimejijabaaSxMixT
import Derived.KernelRfl
set_option linter.unusedVariables false
set_option linter.unusedSimpArgs false
set_option maxRecDepth 20000
namespace Go.Proofs.Ytinjdimejijabaa
open Go.Sx
def ZlQ : Zeb := fun args H => match args, H with
  | [.agg [.one (.int .i64 sk), .one (.int .i64 sv)], .ptr ⟨0, 0, 0, 1⟩ 1], ⟨1, [(0, some ⟨false, [.one (.int .i64 k)], 0⟩)]⟩ => some (True, fun K => K (.bool (sk == k)) ⟨1, [(0, some ⟨false, [.i k], 0⟩)]⟩)
  | _, _ => none
def Zpl : Con := ⟨70, gS ZlQ, [], [], []⟩
def Zix (sk sv k : Int) (Kf : SVal -> Heap -> Prop) : Prop := Kf (.bool (sk == k)) ⟨1, [(0, some ⟨false, [.i k], 0⟩)]⟩
def ZkV : ACode := .reg (.op (some 2) (.box (.tm 0)) (.op (some 3) (.mov (.cn (.bool false))) .nil))
def ZiI : ACode := .reg (.op (some 4) (.fieldAddr (.tm 2) 0 1) (.op (some 5) (.load1 (.tm 4)) (.op (some 6) (.load1 (.tm 1)) (.op (some 7) (.bin .eql (.tm 5) (.tm 6)) (.op (some 3) (.mov (.tm 7)) .nil)))))
def Zpj : ACode := (.seq ZkV (.seq ZiI .ret))
def ZfP : Res := .one (.tm 3)
theorem Zka : ZbR Try.prog 70 2 8 Zpj ZfP = true := by kernel_rfl
def ZlO : ZaC := ZdE [] []
theorem Zmy : ZaR Try.prog ZlO := Zba trivial trivial
section
variable {w0 : World} {fp : Nat -> Nat -> Prop} {ρi : Rho} {Kf : SVal -> Heap -> Prop}
abbrev Ya0 : Env := [(1, some (.ptr ⟨0, 0, 0, 1⟩ 1)), (2, some (.ptr ⟨1, 0, 0, 1⟩ 2))]
abbrev Ya1 (x0 x1 x2 : Int) : Heap := ⟨2, [(0, some ⟨false, [.i x0], 0⟩), (1, some ⟨true, [.i x1, .i x2], 0⟩)]⟩
theorem Zs4 (sk sv k : Int) (Z : Env -> Heap -> Prop) (h : Z [(3, some (.bool (sk == k)))] ⟨2, [(0, some ⟨false, [.i k], 0⟩)]⟩) : EvC ZlO ZiI Ya0 (Ya1 k sk sv) [3] [0] Z := EvC.of (by kernel_rfl) h
theorem Zrc (sk sv k : Int) : RetC ZfP [(3, some (.bool (sk == k)))] ⟨2, [(0, some ⟨false, [.i k], 0⟩)]⟩ (.bool (sk == k)) := RetC.of (fun Z => by kernel_rfl)
def Zjy (sk sv k : Int) : Prop := True
theorem ZuP (sk sv k : Int) (hK : Zix sk sv k Kf) (h : Zjy sk sv k) : SemL Try.prog w0 fp ρi 1 8 [ZiI, .ret] Ya0 (Ya1 k sk sv) (fnK ZfP 1 Kf) :=
  Zap Zmy (Zs4 sk sv k _ (ZaV (R := ZfP) (m := 1) (Kf := Kf) (fun _ _ h => h) (Zrc sk sv k) (ZaO (ZaF [] [0] rfl (by kernel_rfl) rfl pbd (hsc pcs Zan) rfl (by kernel_rfl) (hK)))))
abbrev Ya2 (x0 x1 : Int) : Env := [(0, some (.agg [.i x0, .i x1])), (1, some (.ptr ⟨0, 0, 0, 1⟩ 1))]
abbrev Ya3 (x0 : Int) : Heap := ⟨1, [(0, some ⟨false, [.i x0], 0⟩)]⟩
theorem Zs3 (sk sv k : Int) (Z : Env -> Heap -> Prop) (h : Z Ya0 (Ya1 k sk sv)) : EvC ZlO ZkV (Ya2 sk sv) (Ya3 k) [1, 2] [0, 1] Z := EvC.of (by kernel_rfl) h
theorem ZuO (sk sv k : Int) (hK : Zix sk sv k Kf) (h : Zjy sk sv k) : SemL Try.prog w0 fp ρi 1 8 [ZkV, (.seq ZiI .ret)] (Ya2 sk sv) (Ya3 k) (fnK ZfP 1 Kf) :=
  Zap Zmy (Zs3 sk sv k _ (Zav (ZuP sk sv k hK h)))
theorem ZqK (sk sv k : Int) (hK : Zix sk sv k Kf) (h : Zjy sk sv k) : SemL Try.prog w0 fp ρi 1 8 [Zpj] (Ya2 sk sv) (Ya3 k) (fnK ZfP 1 Kf) :=
  (Zav (ZuO sk sv k hK h))
end
theorem ZpU (sk sv k : Int) (hpre : True) : Zjy sk sv k := by
  unfold Zjy
  trivial
theorem ZqV : Sound Try.prog 70 (gS ZlQ) := by
  refine ZaZ Zka ?_
  intro args H K h
  obtain ⟨pre, out, hD, hpre, hK⟩ := ZcN h
  unfold ZlQ at hD
  split at hD
  · cases hD
    exact ⟨rfl, fun w0 fp ρi => ZqK _ _ _ hK (ZpU _ _ _ hpre)⟩
  · cases hD
def ZsI : Zeb := fun args H => match args, H with
  | [.slice ⟨0, 0, 0, 2⟩ xs_n xs_c, .fn (.func 70) [] [.ptr ⟨1, 0, 0, 1⟩ 1]], ⟨2, [(0, some ⟨false, [.rows [.int .i64, .int .i64] xs_m xs], 0⟩), (1, some ⟨false, [.one (.int .i64 k)], 0⟩)]⟩ => some (xs_m = xs_n /\ (List.length xs = xs_n /\ xs_n <= xs_c /\ xs_n <= 1000), fun K => K (.int .i64 (idxK k xs)) ⟨2, [(0, some ⟨false, [.rows Zaa xs_n xs], 0⟩), (1, some ⟨false, [.i k], 0⟩)]⟩)
  | _, _ => none
def Zsu : Con := ⟨69, gS ZsI, [], [], []⟩
def ZcK (xs : List (Tup Zaa)) (xs_n xs_c : Nat) (k : Int) (Kf : SVal -> Heap -> Prop) : Prop := Kf (.int .i64 (idxK k xs)) ⟨2, [(0, some ⟨false, [.rows Zaa xs_n xs], 0⟩), (1, some ⟨false, [.i k], 0⟩)]⟩
def Zk0 : ACode := .reg (.op (some 4) (.mov (.cn (.int .i64 0))) .nil)
def ZiM : ACode := .reg (.op (some 6) (.mov (.tm 0)) (.op (some 7) (.len (.tm 6)) (.op (some 8) (.mov (.cn (.int .i64 0))) .nil)))
def ZkZ : ACode := .reg (.op (some 9) (.bin .lss (.tm 8) (.tm 7)) .nil)
def ZkY : ACode := .cond (.tm 9) .skip (.exit 0)
def ZkX : ACode := .reg (.op (some 10) (.mov (.tm 8)) (.op (some 5) (.mov (.tm 10)) .nil))
def ZiL : ACode := .reg (.op (some 11) (.mov (.tm 1)) (.op (some 12) (.mov (.tm 0)) (.op (some 13) (.mov (.tm 5)) (.op (some 14) (.idxS (.tm 12) (.tm 13) 2) (.op (some 15) (.loadA 2 (.tm 14)) (.op (some 16) (.callV 70 (.tm 11) [(.tm 15)]) .nil))))))
def ZkW : ACode := .reg (.op (some 17) (.mov (.tm 5)) (.op (some 4) (.mov (.tm 17)) .nil))
def ZiK : ACode := .cond (.tm 16) (.seq ZkW .ret) .skip
def ZiJ : ACode := .block 1 (.seq ZkX (.seq ZiL ZiK))
def ZeH : ACode := .reg (.op (some 18) (.bin .add (.tm 8) (.cn (.int .i64 1))) (.op (some 8) (.mov (.tm 18)) .nil))
def ZmI : ACode := .loop (.seq ZkZ (.seq ZkY (.seq ZiJ ZeH)))
def Zgr : ACode := .block 0 ZmI
def Zdp : ACode := .reg (.op (some 4) (.mov (.cn (.int .i64 (-1)))) .nil)
def Zxp : ACode := (.seq Zk0 (.seq (.seq ZiM Zgr) (.seq Zdp .ret)))
def Zgj : Res := .one (.tm 4)
theorem Zni : ZbR Try.prog 69 2 19 Zxp Zgj = true := by kernel_rfl
def Zjo : ZaC := ZdE [] [Zpl]
theorem Zgb : ZaR Try.prog Zjo := Zba trivial ⟨ZqV, trivial⟩
section
variable {w0 : World} {fp : Nat -> Nat -> Prop} {ρi : Rho} {Kf : SVal -> Heap -> Prop}
def ZoU (w0 : World) (fp : Nat -> Nat -> Prop) (ρi : Rho) (Kf : SVal -> Heap -> Prop) (xs : List (Tup Zaa)) (xs_n xs_c : Nat) (k : Int) : ZdD := Zcb 0 (fun e H => SemL Try.prog w0 fp ρi 2 19 [(.seq Zdp .ret)] e H (fnK Zgj 2 Kf)) (fnK Zgj 2 Kf)
def ZoY (xs : List (Tup Zaa)) (xs_n xs_c : Nat) (k v7 : Int) : Int -> Prop := fun s => match s with | v8 => 0 <= v8 /\ v8 <= (xs_n : Int) /\ (List.take (Int.toNat v8) xs).any (Zhu k) = false
def ZoK (xs : List (Tup Zaa)) (xs_n xs_c : Nat) (k v7 : Int) : Int -> Nat := fun s => match s with | v8 => (((xs_n : Int) - v8).toNat)
def ZoQ (xs : List (Tup Zaa)) (xs_n xs_c : Nat) (k v7 : Int) : Int -> Env := fun s => match s with | v8 => [(0, some (.slice ⟨0, 0, 0, 2⟩ xs_n xs_c)), (1, some (.fn (.func 70) [] [.ptr ⟨1, 0, 0, 1⟩ 1])), (7, some (.int .i64 v7)), (8, some (.int .i64 v8))]
def ZoN (xs : List (Tup Zaa)) (xs_n xs_c : Nat) (k v7 : Int) : Int -> Heap := fun s => match s with | v8 => ⟨2, [(0, some ⟨false, [.rows Zaa xs_n xs], 0⟩), (1, some ⟨false, [.i k], 0⟩)]⟩
def ZfE (w0 : World) (fp : Nat -> Nat -> Prop) (ρi : Rho) (Kf : SVal -> Heap -> Prop) (xs : List (Tup Zaa)) (xs_n xs_c : Nat) (k v7 v8 : Int) : ZdD := ZkG 2 (ZoY xs xs_n xs_c k v7) (ZoK xs xs_n xs_c k v7) (ZoQ xs xs_n xs_c k v7) (ZoN xs xs_n xs_c k v7) v8 (ZoU w0 fp ρi Kf xs xs_n xs_c k)
def Zit (w0 : World) (fp : Nat -> Nat -> Prop) (ρi : Rho) (Kf : SVal -> Heap -> Prop) (xs : List (Tup Zaa)) (xs_n xs_c : Nat) (k v7 v8 : Int) : ZdD := Zcb 1 (fun e H => SemL Try.prog w0 fp ρi 2 19 [ZeH] e H (ZfE w0 fp ρi Kf xs xs_n xs_c k v7 v8)) (ZfE w0 fp ρi Kf xs xs_n xs_c k v7 v8)
abbrev Ya4 (x0 : Nat) (x1 : List (Tup Zaa)) (x2 : Int) : Heap := ⟨2, [(0, some ⟨false, [.rows Zaa x0 x1], 0⟩), (1, some ⟨false, [.i x2], 0⟩)]⟩
theorem Zta (xs : List (Tup Zaa)) (xs_n xs_c : Nat) (k v8 v7 : Int) (Z : Env -> Heap -> Prop) (h : Z [(4, some (.int .i64 v8))] (Ya4 xs_n xs k)) : EvC Zjo ZkW [(5, some (.int .i64 v8))] (Ya4 xs_n xs k) [4] [0, 1] Z := EvC.of (by kernel_rfl) h
theorem Zre (xs : List (Tup Zaa)) (xs_n xs_c : Nat) (k v8 : Int) : RetC Zgj [(4, some (.int .i64 v8))] (Ya4 xs_n xs k) (.int .i64 v8) := RetC.of (fun Z => by kernel_rfl)
def Zny (xs : List (Tup Zaa)) (xs_n xs_c : Nat) (k v8 v7 : Int) : Prop := v8 = (idxK k xs)
theorem ZuZ (xs : List (Tup Zaa)) (xs_n xs_c : Nat) (k : Int) (hK : ZcK xs xs_n xs_c k Kf) (v8 v7 : Int) (h : Zny xs xs_n xs_c k v8 v7) : SemL Try.prog w0 fp ρi 2 19 [ZkW, .ret] [(5, some (.int .i64 v8))] (Ya4 xs_n xs k) (Zit w0 fp ρi Kf xs xs_n xs_c k v7 v8) :=
  Zap Zgb (Zta xs xs_n xs_c k v8 v7 _ (ZaV (R := Zgj) (m := 2) (Kf := Kf) (fun _ _ h => h) (Zre xs xs_n xs_c k v8) (ZaO (Eq.mpr (cg1 (fun (z1 : Int) => ZdI 2 Kf (.int .i64 z1) (Ya4 xs_n xs k)) h) (ZaF [] [0, 1] rfl (by kernel_rfl) rfl pbd (hsc pcs (hsc pcs Zan)) rfl (by kernel_rfl) (hK))))))
abbrev Ya5 (x0 x1 : Nat) (x2 x3 : Int) : Env := [(0, some (.slice ⟨0, 0, 0, 2⟩ x0 x1)), (1, some (.fn (.func 70) [] [.ptr ⟨1, 0, 0, 1⟩ 1])), (7, some (.int .i64 x2)), (8, some (.int .i64 x3))]
theorem Zs9 (xs : List (Tup Zaa)) (xs_n xs_c : Nat) (k v7 v8 : Int) (Z : Env -> Heap -> Prop) (h : Z [(0, some (.slice ⟨0, 0, 0, 2⟩ xs_n xs_c)), (1, some (.fn (.func 70) [] [.ptr ⟨1, 0, 0, 1⟩ 1])), (7, some (.int .i64 v7)), (8, some (.int .i64 (IntKind.i64.wrap (v8 + 1))))] (Ya4 xs_n xs k)) : EvC Zjo ZeH (Ya5 xs_n xs_c v7 v8) (Ya4 xs_n xs k) [0, 1, 7, 8] [0, 1] Z := EvC.of (by kernel_rfl) h
def Znx (xs : List (Tup Zaa)) (xs_n xs_c : Nat) (k v7 v8 : Int) : Prop := (0 <= (IntKind.i64.wrap (v8 + 1)) /\ (IntKind.i64.wrap (v8 + 1)) <= (xs_n : Int) /\ (List.take (Int.toNat (IntKind.i64.wrap (v8 + 1))) xs).any (Zhu k) = false) /\ ((((xs_n : Int) - (IntKind.i64.wrap (v8 + 1))).toNat) < (((xs_n : Int) - v8).toNat))
theorem ZuY (xs : List (Tup Zaa)) (xs_n xs_c : Nat) (k : Int) (hK : ZcK xs xs_n xs_c k Kf) (v7 v8 : Int) (h : Znx xs xs_n xs_c k v7 v8) : SemL Try.prog w0 fp ρi 2 19 [ZeH] (Ya5 xs_n xs_c v7 v8) (Ya4 xs_n xs k) (ZfE w0 fp ρi Kf xs xs_n xs_c k v7 v8) :=
  Zap Zgb (Zs9 xs xs_n xs_c k v7 v8 _ (Zci (ZdR (x' := (IntKind.i64.wrap (v8 + 1))) (τ := tau []) h.1 h.2 (ZbE [] [0, 1] rfl rfl (esc bsl (esc (Zxv (Zbu bpt Zdx)) (esc pbd (esc pbd Zbc)))) (hsc pcs (hsc pcs Zan)) (by kernel_rfl) rfl))))
def Znw (xs : List (Tup Zaa)) (xs_n xs_c : Nat) (k v8 v7 : Int) : Prop := (((List.getD xs (0 + (Int.toNat v8)) (Tup.dflt Zaa)).1 == k) = true -> (Zny xs xs_n xs_c k v8 v7)) /\ (((List.getD xs (0 + (Int.toNat v8)) (Tup.dflt Zaa)).1 == k) = false -> (Znx xs xs_n xs_c k v7 v8))
abbrev Ya6 (x0 x1 : Nat) (x2 x3 : Int) (x4 : List (Tup Zaa)) (x5 : Int) : Env := [(0, some (.slice ⟨0, 0, 0, 2⟩ x0 x1)), (1, some (.fn (.func 70) [] [.ptr ⟨1, 0, 0, 1⟩ 1])), (5, some (.int .i64 x2)), (7, some (.int .i64 x3)), (8, some (.int .i64 x2)), (16, some (.bool ((List.getD x4 (0 + (Int.toNat x2)) (Tup.dflt Zaa)).1 == x5)))]
theorem ZuX (xs : List (Tup Zaa)) (xs_n xs_c : Nat) (k : Int) (hK : ZcK xs xs_n xs_c k Kf) (v8 v7 : Int) (h : Znw xs xs_n xs_c k v8 v7) : SemL Try.prog w0 fp ρi 2 19 [ZiK] (Ya6 xs_n xs_c v8 v7 xs k) (Ya4 xs_n xs k) (Zit w0 fp ρi Kf xs xs_n xs_c k v7 v8) :=
  Za4 (q := ((List.getD xs (0 + (Int.toNat v8)) (Tup.dflt Zaa)).1 == k)) (by kernel_rfl) (fun hq => (Zav (lpk [5] [0, 1] (ZuZ xs xs_n xs_c k hK v8 v7 (h.1 hq))))) (fun hq => (ZbT (Zci (lpk [0, 1, 7, 8] [0, 1] (ZuY xs xs_n xs_c k hK v7 v8 (h.2 hq))))))
abbrev Ya7 (x0 x1 : Nat) (x2 x3 : Int) : Env := [(0, some (.slice ⟨0, 0, 0, 2⟩ x0 x1)), (1, some (.fn (.func 70) [] [.ptr ⟨1, 0, 0, 1⟩ 1])), (5, some (.int .i64 x2)), (7, some (.int .i64 x3)), (8, some (.int .i64 x2))]
theorem Zs8 (xs : List (Tup Zaa)) (xs_n xs_c : Nat) (k v8 v7 : Int) (Z : Env -> Heap -> Prop) (h : ((0 <= v8)) /\ ((v8 < ((xs_n : Nat) : Int))) /\ (((0 + (Int.toNat v8)) < xs_n)) /\ (True) /\ Z (Ya6 xs_n xs_c v8 v7 xs k) (Ya4 xs_n xs k)) : EvC Zjo ZiL (Ya7 xs_n xs_c v8 v7) (Ya4 xs_n xs k) [0, 1, 5, 7, 8, 16] [0, 1] Z := EvC.of (by kernel_rfl) h
def Znv (xs : List (Tup Zaa)) (xs_n xs_c : Nat) (k v8 v7 : Int) : Prop := ((0 <= v8)) /\ (((v8 < ((xs_n : Nat) : Int))) /\ ((((0 + (Int.toNat v8)) < xs_n)) /\ (Znw xs xs_n xs_c k v8 v7)))
theorem ZuW (xs : List (Tup Zaa)) (xs_n xs_c : Nat) (k : Int) (hK : ZcK xs xs_n xs_c k Kf) (v8 v7 : Int) (h : Znv xs xs_n xs_c k v8 v7) : SemL Try.prog w0 fp ρi 2 19 [ZiL, ZiK] (Ya7 xs_n xs_c v8 v7) (Ya4 xs_n xs k) (Zit w0 fp ρi Kf xs xs_n xs_c k v7 v8) :=
  Zap Zgb (Zs8 xs xs_n xs_c k v8 v7 _ ⟨h.1, ⟨h.2.1, ⟨h.2.2.1, ⟨True.intro, (ZuX xs xs_n xs_c k hK v8 v7 h.2.2.2)⟩⟩⟩⟩)
theorem Zs7 (xs : List (Tup Zaa)) (xs_n xs_c : Nat) (k v7 v8 : Int) (Z : Env -> Heap -> Prop) (h : Z (Ya7 xs_n xs_c v8 v7) (Ya4 xs_n xs k)) : EvC Zjo ZkX (Ya5 xs_n xs_c v7 v8) (Ya4 xs_n xs k) [0, 1, 5, 7, 8] [0, 1] Z := EvC.of (by kernel_rfl) h
def ZlY (xs : List (Tup Zaa)) (xs_n xs_c : Nat) (k v7 v8 : Int) : Prop := Znv xs xs_n xs_c k v8 v7
theorem ZuV (xs : List (Tup Zaa)) (xs_n xs_c : Nat) (k : Int) (hK : ZcK xs xs_n xs_c k Kf) (v7 v8 : Int) (h : ZlY xs xs_n xs_c k v7 v8) : SemL Try.prog w0 fp ρi 2 19 [ZkX, (.seq ZiL ZiK)] (Ya5 xs_n xs_c v7 v8) (Ya4 xs_n xs k) (Zit w0 fp ρi Kf xs xs_n xs_c k v7 v8) :=
  Zap Zgb (Zs7 xs xs_n xs_c k v7 v8 _ (Zav (ZuW xs xs_n xs_c k hK v8 v7 h)))
theorem ZuU (xs : List (Tup Zaa)) (xs_n xs_c : Nat) (k : Int) (hK : ZcK xs xs_n xs_c k Kf) (v7 v8 : Int) (h : ZlY xs xs_n xs_c k v7 v8) : SemL Try.prog w0 fp ρi 2 19 [ZiJ, ZeH] (Ya5 xs_n xs_c v7 v8) (Ya4 xs_n xs k) (ZfE w0 fp ρi Kf xs xs_n xs_c k v7 v8) :=
  ZbO (Zav (ZuV xs xs_n xs_c k hK v7 v8 h))
theorem Zs6 (xs : List (Tup Zaa)) (xs_n xs_c : Nat) (k : Int) (Z : Env -> Heap -> Prop) (h : Z [(4, some (.int .i64 (-1)))] (Ya4 xs_n xs k)) : EvC Zjo Zdp [] (Ya4 xs_n xs k) [4] [0, 1] Z := EvC.of (by kernel_rfl) h
theorem Zrd (xs : List (Tup Zaa)) (xs_n xs_c : Nat) (k : Int) : RetC Zgj [(4, some (.int .i64 (-1)))] (Ya4 xs_n xs k) (.int .i64 (-1)) := RetC.of (fun Z => by kernel_rfl)
def Znu (xs : List (Tup Zaa)) (xs_n xs_c : Nat) (k : Int) : Prop := (-1) = (idxK k xs)
theorem ZuT (xs : List (Tup Zaa)) (xs_n xs_c : Nat) (k : Int) (hK : ZcK xs xs_n xs_c k Kf) (h : Znu xs xs_n xs_c k) : SemL Try.prog w0 fp ρi 2 19 [Zdp, .ret] [] (Ya4 xs_n xs k) (fnK Zgj 2 Kf) :=
  Zap Zgb (Zs6 xs xs_n xs_c k _ (ZaV (R := Zgj) (m := 2) (Kf := Kf) (fun _ _ h => h) (Zrd xs xs_n xs_c k) (ZaO (Eq.mpr (cg1 (fun (z1 : Int) => ZdI 2 Kf (.int .i64 z1) (Ya4 xs_n xs k)) h) (ZaF [] [0, 1] rfl (by kernel_rfl) rfl pbd (hsc pcs (hsc pcs Zan)) rfl (by kernel_rfl) (hK))))))
def ZlX (xs : List (Tup Zaa)) (xs_n xs_c : Nat) (k v7 v8 : Int) : Prop := ((decide (v8 < v7)) = true -> (ZlY xs xs_n xs_c k v7 v8)) /\ ((decide (v8 < v7)) = false -> (Znu xs xs_n xs_c k))
abbrev Ya8 (x0 x1 : Nat) (x2 x3 : Int) : Env := [(0, some (.slice ⟨0, 0, 0, 2⟩ x0 x1)), (1, some (.fn (.func 70) [] [.ptr ⟨1, 0, 0, 1⟩ 1])), (7, some (.int .i64 x2)), (8, some (.int .i64 x3)), (9, some (.bool (decide (x3 < x2))))]
theorem ZuS (xs : List (Tup Zaa)) (xs_n xs_c : Nat) (k : Int) (hK : ZcK xs xs_n xs_c k Kf) (v7 v8 : Int) (h : ZlX xs xs_n xs_c k v7 v8) : SemL Try.prog w0 fp ρi 2 19 [ZkY, (.seq ZiJ ZeH)] (Ya8 xs_n xs_c v7 v8) (Ya4 xs_n xs k) (ZfE w0 fp ρi Kf xs xs_n xs_c k v7 v8) :=
  Za4 (q := (decide (v8 < v7))) (by kernel_rfl) (fun hq => (ZbT (lpk [0, 1, 7, 8] [0, 1] (Zav (ZuU xs xs_n xs_c k hK v7 v8 (h.1 hq)))))) (fun hq => (Zh7 (lpk [] [0, 1] (Zav (ZuT xs xs_n xs_c k hK (h.2 hq))))))
theorem Zs5 (xs : List (Tup Zaa)) (xs_n xs_c : Nat) (k v7 v8 : Int) (Z : Env -> Heap -> Prop) (h : Z (Ya8 xs_n xs_c v7 v8) (Ya4 xs_n xs k)) : EvC Zjo ZkZ (Ya5 xs_n xs_c v7 v8) (Ya4 xs_n xs k) [0, 1, 7, 8, 9] [0, 1] Z := EvC.of (by kernel_rfl) h
theorem ZuR (xs : List (Tup Zaa)) (xs_n xs_c : Nat) (k : Int) (hK : ZcK xs xs_n xs_c k Kf) (v7 v8 : Int) (h : ZlX xs xs_n xs_c k v7 v8) : SemL Try.prog w0 fp ρi 2 19 [ZkZ, (.seq ZkY (.seq ZiJ ZeH))] (Ya5 xs_n xs_c v7 v8) (Ya4 xs_n xs k) (ZfE w0 fp ρi Kf xs xs_n xs_c k v7 v8) :=
  Zap Zgb (Zs5 xs xs_n xs_c k v7 v8 _ (Zav (ZuS xs xs_n xs_c k hK v7 v8 h)))
def ZlW (xs : List (Tup Zaa)) (xs_n xs_c : Nat) (k v7 : Int) : Prop := (0 <= (0 : Int) /\ (0 : Int) <= (xs_n : Int) /\ (List.take (Int.toNat (0 : Int)) xs).any (Zhu k) = false) /\ (∀ (v8 : Int), (0 <= v8 /\ v8 <= (xs_n : Int) /\ (List.take (Int.toNat v8) xs).any (Zhu k) = false) -> (ZlX xs xs_n xs_c k v7 v8))
abbrev Ya9 (x0 x1 : Nat) (x2 : Int) : Env := [(0, some (.slice ⟨0, 0, 0, 2⟩ x0 x1)), (1, some (.fn (.func 70) [] [.ptr ⟨1, 0, 0, 1⟩ 1])), (7, some (.int .i64 x2)), (8, some (.int .i64 0))]
theorem ZuQ (xs : List (Tup Zaa)) (xs_n xs_c : Nat) (k : Int) (hK : ZcK xs xs_n xs_c k Kf) (v7 : Int) (h : ZlW xs xs_n xs_c k v7) : SemL Try.prog w0 fp ρi 2 19 [ZmI] (Ya9 xs_n xs_c v7) (Ya4 xs_n xs k) (ZoU w0 fp ρi Kf xs xs_n xs_c k) :=
  Zkq (ZoY xs xs_n xs_c k v7) (ZoK xs xs_n xs_c k v7) (ZoQ xs xs_n xs_c k v7) (ZoN xs xs_n xs_c k v7) ⟨0, tau [], h.1, (ZbE [] [0, 1] rfl rfl (esc bsl (esc (Zxv (Zbu bpt Zdx)) (esc pbd (esc pbd Zbc)))) (hsc pcs (hsc pcs Zan)) (by kernel_rfl) rfl)⟩ (fun s => match s with | v8 => fun hi => (Zav (ZuR xs xs_n xs_c k hK v7 v8 (h.2 v8 hi))))
theorem ZrR (xs : List (Tup Zaa)) (xs_n xs_c : Nat) (k : Int) (hK : ZcK xs xs_n xs_c k Kf) (v7 : Int) (h : ZlW xs xs_n xs_c k v7) : SemL Try.prog w0 fp ρi 2 19 [Zgr, (.seq Zdp .ret)] (Ya9 xs_n xs_c v7) (Ya4 xs_n xs k) (fnK Zgj 2 Kf) :=
  ZbO (ZuQ xs xs_n xs_c k hK v7 h)
abbrev ZsU (x0 x1 : Nat) : Env := [(0, some (.slice ⟨0, 0, 0, 2⟩ x0 x1)), (1, some (.fn (.func 70) [] [.ptr ⟨1, 0, 0, 1⟩ 1]))]
theorem ZqZ (xs : List (Tup Zaa)) (xs_n xs_c : Nat) (k : Int) (Z : Env -> Heap -> Prop) (h : Z [(0, some (.slice ⟨0, 0, 0, 2⟩ xs_n xs_c)), (1, some (.fn (.func 70) [] [.ptr ⟨1, 0, 0, 1⟩ 1])), (7, some (.int .i64 ((xs_n : Nat) : Int))), (8, some (.int .i64 0))] (Ya4 xs_n xs k)) : EvC Zjo ZiM (ZsU xs_n xs_c) (Ya4 xs_n xs k) [0, 1, 7, 8] [0, 1] Z := EvC.of (by kernel_rfl) h
def Zgz (xs : List (Tup Zaa)) (xs_n xs_c : Nat) (k : Int) : Prop := ∀ v7 : Int, v7 = ((xs_n : Nat) : Int) -> ZlW xs xs_n xs_c k v7
theorem ZrQ (xs : List (Tup Zaa)) (xs_n xs_c : Nat) (k : Int) (hK : ZcK xs xs_n xs_c k Kf) (h : Zgz xs xs_n xs_c k) : SemL Try.prog w0 fp ρi 2 19 [ZiM, Zgr, (.seq Zdp .ret)] (ZsU xs_n xs_c) (Ya4 xs_n xs k) (fnK Zgj 2 Kf) :=
  Zap Zgb (ZqZ xs xs_n xs_c k _ (ZrR xs xs_n xs_c k hK ((xs_n : Nat) : Int) (h ((xs_n : Nat) : Int) rfl)))
theorem ZqY (xs : List (Tup Zaa)) (xs_n xs_c : Nat) (k : Int) (Z : Env -> Heap -> Prop) (h : Z (ZsU xs_n xs_c) (Ya4 xs_n xs k)) : EvC Zjo Zk0 (ZsU xs_n xs_c) (Ya4 xs_n xs k) [0, 1] [0, 1] Z := EvC.of (by kernel_rfl) h
theorem ZrP (xs : List (Tup Zaa)) (xs_n xs_c : Nat) (k : Int) (hK : ZcK xs xs_n xs_c k Kf) (h : Zgz xs xs_n xs_c k) : SemL Try.prog w0 fp ρi 2 19 [Zk0, (.seq (.seq ZiM Zgr) (.seq Zdp .ret))] (ZsU xs_n xs_c) (Ya4 xs_n xs k) (fnK Zgj 2 Kf) :=
  Zap Zgb (ZqY xs xs_n xs_c k _ (Zav (Zav (ZrQ xs xs_n xs_c k hK h))))
theorem Zx9 (xs : List (Tup Zaa)) (xs_n xs_c : Nat) (k : Int) (hK : ZcK xs xs_n xs_c k Kf) (h : Zgz xs xs_n xs_c k) : SemL Try.prog w0 fp ρi 2 19 [Zxp] (ZsU xs_n xs_c) (Ya4 xs_n xs k) (fnK Zgj 2 Kf) :=
  (Zav (ZrP xs xs_n xs_c k hK h))
end
theorem Zxa (xs : List (Tup Zaa)) (xs_n xs_c : Nat) (k : Int) (hpre : (List.length xs = xs_n /\ xs_n <= xs_c /\ xs_n <= 1000)) : Zgz xs xs_n xs_c k := by
  unfold Zgz ZlW ZlX Znu ZlY Znv Znw Znx Zny
  obtain ⟨hl, -, hl2⟩ := hpre
  rintro v7 rfl
  refine ⟨⟨by omega, by omega, rfl⟩, ?_⟩
  rintro i ⟨h0, h1, ha⟩
  refine ⟨fun hlt => ?_, fun hge => ?_⟩
  · have hlt := of_decide_eq_true hlt
    have e1 : IntKind.i64.wrap (i + 1) = i + 1 := by rw [ZqN]; omega
    have e2 : (i + 1).toNat = i.toNat + 1 := by omega
    rw [Nat.zero_add]
    refine ⟨h0, hlt, by omega, fun hb => ?_, fun hb => ?_⟩
    · rw [show idxK k xs = ((i.toNat : Nat) : Int) from Zso (by omega) ha hb]; omega
    · rw [e1, e2, Zet (by omega), List.any_append, ha]
      exact ⟨⟨by omega, by omega, by simp only [List.any_cons, List.any_nil, Bool.or_false, Bool.false_or]; exact hb⟩, by omega⟩
  · have hge := of_decide_eq_false hge
    rw [List.take_of_length_le (by omega)] at ha
    exact (Zo1 ha).symm
theorem Zyf : Sound Try.prog 69 (gS ZsI) := by
  refine ZaZ Zni ?_
  intro args H K h
  obtain ⟨pre, out, hD, hpre, hK⟩ := ZcN h
  unfold ZsI at hD
  split at hD
  · cases hD
    obtain ⟨rfl, hpre⟩ := hpre
    exact ⟨rfl, fun w0 fp ρi => Zx9 _ _ _ _ hK (Zxa _ _ _ _ hpre)⟩
  · cases hD
def Zpz : Zeb := fun args H => match args, H with
  | [.ptr ⟨2, 0, 0, 1⟩ 2, .int .i64 key], ⟨3, [(0, some ⟨false, [.rows [.int .i64, .int .i64] xs_m xs], 0⟩), (1, some ⟨false, [.rows [.hd] c_1_s c_1_a, .one (.slice ⟨0, 0, 0, 2⟩ xs_n xs_c), .rows [.hd] c_1_t c_1_b], 0⟩), (2, some ⟨false, [.one (.int .i64 ways), .one (.slice ⟨1, 0, 0, 1⟩ c_1_l c_1_c)], 0⟩)]⟩ => some (xs_m = xs_n /\ ((List.length xs = xs_n /\ xs_n <= xs_c /\ xs_n <= 1000) /\ c_1_l = c_1_s + 1 + c_1_t /\ c_1_l <= 64 /\ c_1_l <= c_1_c /\ I64 key /\ (0 <= key -> Int.toNat (Int.tmod key (c_1_l : Int)) = c_1_s)), fun K => ((decide (key < 0)) = true -> K (.tuple [.nilptr, .int .i64 (-1)]) ⟨3, [(0, some ⟨false, [.rows Zaa xs_n xs], 0⟩), (1, some ⟨false, [.rows Zab c_1_s c_1_a, .one (.slice ⟨0, 0, 0, 2⟩ xs_n xs_c), .rows Zab c_1_t c_1_b], 0⟩), (2, some ⟨false, [.i ways, .one (.slice ⟨1, 0, 0, 1⟩ c_1_l c_1_c)], 0⟩)]⟩) /\ ((decide (key < 0)) = false -> K (.tuple [.ptr ⟨1, 0, c_1_s, 1⟩ 1, .int .i64 (idxK key xs)]) ⟨3, [(0, some ⟨false, [.rows Zaa xs_n xs], 0⟩), (1, some ⟨false, [.rows Zab c_1_s c_1_a, .one (.slice ⟨0, 0, 0, 2⟩ xs_n xs_c), .rows Zab c_1_t c_1_b], 0⟩), (2, some ⟨false, [.i ways, .one (.slice ⟨1, 0, 0, 1⟩ c_1_l c_1_c)], 0⟩)]⟩))
  | _, _ => none
def Zeq : Con := ⟨51, gS Zpz, [], [], []⟩
def ZeF (ways : Int) (xs : List (Tup Zaa)) (xs_n xs_c c_1_s : Nat) (c_1_a : List (Tup Zab)) (c_1_t : Nat) (c_1_b : List (Tup Zab)) (c_1_l c_1_c : Nat) (key : Int) (Kf : SVal -> Heap -> Prop) : Prop := ((decide (key < 0)) = true -> Kf (.tuple [.nilptr, .int .i64 (-1)]) ⟨3, [(0, some ⟨false, [.rows Zaa xs_n xs], 0⟩), (1, some ⟨false, [.rows Zab c_1_s c_1_a, .one (.slice ⟨0, 0, 0, 2⟩ xs_n xs_c), .rows Zab c_1_t c_1_b], 0⟩), (2, some ⟨false, [.i ways, .one (.slice ⟨1, 0, 0, 1⟩ c_1_l c_1_c)], 0⟩)]⟩) /\ ((decide (key < 0)) = false -> Kf (.tuple [.ptr ⟨1, 0, c_1_s, 1⟩ 1, .int .i64 (idxK key xs)]) ⟨3, [(0, some ⟨false, [.rows Zaa xs_n xs], 0⟩), (1, some ⟨false, [.rows Zab c_1_s c_1_a, .one (.slice ⟨0, 0, 0, 2⟩ xs_n xs_c), .rows Zab c_1_t c_1_b], 0⟩), (2, some ⟨false, [.i ways, .one (.slice ⟨1, 0, 0, 1⟩ c_1_l c_1_c)], 0⟩)]⟩)
def Zld : ACode := .reg (.op (some 3) (.box (.tm 1)) (.op (some 4) (.mov (.cn (.nilptr))) (.op (some 5) (.mov (.cn (.int .i64 0))) .nil)))
def ZiX : ACode := .reg (.op (some 6) (.load1 (.tm 3)) (.op (some 7) (.bin .lss (.tm 6) (.cn (.int .i64 0))) .nil))
def Zlc : ACode := .reg (.op (some 4) (.mov (.cn (.nilptr))) (.op (some 5) (.mov (.cn (.int .i64 (-1)))) .nil))
def ZiW : ACode := .cond (.tm 7) (.seq Zlc .ret) .skip
def ZiV : Items := .op (some 8) (.mov (.tm 0)) (.op (some 9) (.nilCheck (.tm 8)) (.op (some 10) (.fieldAddr (.tm 9) 1 1) (.op (some 11) (.load1 (.tm 10)) (.op (some 12) (.load1 (.tm 3)) (.op (some 13) (.mov (.tm 0)) (.op (some 14) (.nilCheck (.tm 13)) (.op (some 15) (.fieldAddr (.tm 14) 1 1) (.op (some 16) (.load1 (.tm 15)) (.op (some 17) (.len (.tm 16)) (.op (some 18) (.bin .rem (.tm 12) (.tm 17)) (.op (some 19) (.idxS (.tm 11) (.tm 18) 1) (.op (some 4) (.mov (.tm 19)) .nil))))))))))))
def ZfK : ACode := .regQ ZiV
def Zd6 : ACode := .reg (.op (some 20) (.mov (.tm 4)) (.op (some 21) (.mov (.tm 4)) (.op (some 22) (.nilCheck (.tm 21)) (.op (some 23) (.load1 (.tm 22)) (.op (some 24) (.mkFn 70 [(.tm 3)]) (.op (some 25) (.call 69 [(.tm 23), (.tm 24)]) (.op (some 4) (.mov (.tm 20)) (.op (some 5) (.mov (.tm 25)) .nil))))))))
def ZqB : ACode := (.seq Zld (.seq (.seq ZiX ZiW) (.seq ZfK (.seq Zd6 .ret))))
def ZdC : Res := .many [.tm 4, .tm 5]
theorem ZlE : ZbR Try.prog 51 2 26 ZqB ZdC = true := by kernel_rfl
def Zh8 : ZaC := ZdE [] [Zsu]
theorem ZgZ : ZaR Try.prog Zh8 := Zba trivial ⟨Zyf, trivial⟩
section
variable {w0 : World} {fp : Nat -> Nat -> Prop} {ρi : Rho} {Kf : SVal -> Heap -> Prop}
abbrev ZzJ : Env := [(4, some (.nilptr)), (5, some (.int .i64 (-1)))]
abbrev ZsC (x0 : Nat) (x1 : List (Tup Zaa)) (x2 : Nat) (x3 : List (Tup Zab)) (x4 x5 : Nat) (x6 : List (Tup Zab)) (x7 : Int) (x8 x9 : Nat) : Heap := ⟨4, [(0, some ⟨false, [.rows Zaa x0 x1], 0⟩), (1, some ⟨false, [.rows Zab x2 x3, .one (.slice ⟨0, 0, 0, 2⟩ x0 x4), .rows Zab x5 x6], 0⟩), (2, some ⟨false, [.i x7, .one (.slice ⟨1, 0, 0, 1⟩ x8 x9)], 0⟩)]⟩
theorem ZtN (ways : Int) (xs : List (Tup Zaa)) (xs_n xs_c c_1_s : Nat) (c_1_a : List (Tup Zab)) (c_1_t : Nat) (c_1_b : List (Tup Zab)) (c_1_l c_1_c : Nat) (key : Int) (Z : Env -> Heap -> Prop) (h : Z ZzJ (ZsC xs_n xs c_1_s c_1_a xs_c c_1_t c_1_b ways c_1_l c_1_c)) : EvC Zh8 Zlc [] (ZsC xs_n xs c_1_s c_1_a xs_c c_1_t c_1_b ways c_1_l c_1_c) [4, 5] [0, 1, 2] Z := EvC.of (by kernel_rfl) h
theorem Zrk (ways : Int) (xs : List (Tup Zaa)) (xs_n xs_c c_1_s : Nat) (c_1_a : List (Tup Zab)) (c_1_t : Nat) (c_1_b : List (Tup Zab)) (c_1_l c_1_c : Nat) (key : Int) : RetC ZdC ZzJ (ZsC xs_n xs c_1_s c_1_a xs_c c_1_t c_1_b ways c_1_l c_1_c) (.tuple [.nilptr, .int .i64 (-1)]) := RetC.of (fun Z => by kernel_rfl)
def ZnW (ways : Int) (xs : List (Tup Zaa)) (xs_n xs_c c_1_s : Nat) (c_1_a : List (Tup Zab)) (c_1_t : Nat) (c_1_b : List (Tup Zab)) (c_1_l c_1_c : Nat) (key : Int) : Prop := (decide (key < 0)) = true
theorem ZvT (ways : Int) (xs : List (Tup Zaa)) (xs_n xs_c c_1_s : Nat) (c_1_a : List (Tup Zab)) (c_1_t : Nat) (c_1_b : List (Tup Zab)) (c_1_l c_1_c : Nat) (key : Int) (hK : ZeF ways xs xs_n xs_c c_1_s c_1_a c_1_t c_1_b c_1_l c_1_c key Kf) (h : ZnW ways xs xs_n xs_c c_1_s c_1_a c_1_t c_1_b c_1_l c_1_c key) : SemL Try.prog w0 fp ρi 3 26 [Zlc, .ret, (.seq ZfK (.seq Zd6 .ret))] [] (ZsC xs_n xs c_1_s c_1_a xs_c c_1_t c_1_b ways c_1_l c_1_c) (fnK ZdC 3 Kf) :=
  Zap ZgZ (ZtN ways xs xs_n xs_c c_1_s c_1_a c_1_t c_1_b c_1_l c_1_c key _ (ZaV (R := ZdC) (m := 3) (Kf := Kf) (fun _ _ h => h) (Zrk ways xs xs_n xs_c c_1_s c_1_a c_1_t c_1_b c_1_l c_1_c key) (ZaO (ZaF [] [0, 1, 2] rfl (by kernel_rfl) rfl (Zdw (Zbu pbd (Zbu pbd Zdx))) (hsc pcs (hsc (Zat (Zao bsl (Zat Zax))) (hsc (Zao pbd (Zao bsl Zax)) Zan))) rfl (by kernel_rfl) ((hK.1 h))))))
abbrev ZzI (x0 : Nat) : Env := [(3, some (.ptr ⟨3, 0, 0, 1⟩ 1)), (4, some (.ptr ⟨1, 0, x0, 1⟩ 1))]
abbrev ZpD (x0 : Nat) (x1 : List (Tup Zaa)) (x2 : Nat) (x3 : List (Tup Zab)) (x4 x5 : Nat) (x6 : List (Tup Zab)) (x7 : Int) (x8 x9 : Nat) (ah : Int) : Heap := ⟨4, [(0, some ⟨false, [.rows Zaa x0 x1], 0⟩), (1, some ⟨false, [.rows Zab x2 x3, .one (.slice ⟨0, 0, 0, 2⟩ x0 x4), .rows Zab x5 x6], 0⟩), (2, some ⟨false, [.i x7, .one (.slice ⟨1, 0, 0, 1⟩ x8 x9)], 0⟩), (3, some ⟨true, [.i ah], 0⟩)]⟩
theorem ZtM (ways : Int) (xs : List (Tup Zaa)) (xs_n xs_c c_1_s : Nat) (c_1_a : List (Tup Zab)) (c_1_t : Nat) (c_1_b : List (Tup Zab)) (c_1_l c_1_c : Nat) (key : Int) (ag : Nat) (Z : Env -> Heap -> Prop) (h : ((ag = c_1_s)) /\ (((xs_n : Nat) <= xs_n)) /\ (((xs_n : Nat) = xs_n) /\ (List.length (List.take xs_n xs) = xs_n /\ xs_n <= xs_c /\ xs_n <= 1000)) /\ Z [(4, some (.ptr ⟨1, 0, ag, 1⟩ 1)), (5, some (.int .i64 (idxK key (List.take xs_n xs))))] (ZsC xs_n xs c_1_s c_1_a xs_c c_1_t c_1_b ways c_1_l c_1_c)) : EvC Zh8 Zd6 (ZzI ag) (ZpD xs_n xs c_1_s c_1_a xs_c c_1_t c_1_b ways c_1_l c_1_c key) [4, 5] [0, 1, 2] Z := EvC.of (by kernel_rfl) h
theorem Zrj (ways : Int) (xs : List (Tup Zaa)) (xs_n xs_c c_1_s : Nat) (c_1_a : List (Tup Zab)) (c_1_t : Nat) (c_1_b : List (Tup Zab)) (c_1_l c_1_c : Nat) (key : Int) (ag : Nat) : RetC ZdC [(4, some (.ptr ⟨1, 0, ag, 1⟩ 1)), (5, some (.int .i64 (idxK key (List.take xs_n xs))))] (ZsC xs_n xs c_1_s c_1_a xs_c c_1_t c_1_b ways c_1_l c_1_c) (.tuple [.ptr ⟨1, 0, ag, 1⟩ 1, .int .i64 (idxK key (List.take xs_n xs))]) := RetC.of (fun Z => by kernel_rfl)
def ZnV (ways : Int) (xs : List (Tup Zaa)) (xs_n xs_c c_1_s : Nat) (c_1_a : List (Tup Zab)) (c_1_t : Nat) (c_1_b : List (Tup Zab)) (c_1_l c_1_c : Nat) (key : Int) (ag : Nat) : Prop := ((ag = c_1_s)) /\ (((List.length (List.take xs_n xs) = xs_n /\ xs_n <= xs_c /\ xs_n <= 1000)) /\ (((decide (key < 0)) = false) /\ (ag = c_1_s) /\ ((idxK key (List.take xs_n xs)) = (idxK key xs))))
theorem ZvS (ways : Int) (xs : List (Tup Zaa)) (xs_n xs_c c_1_s : Nat) (c_1_a : List (Tup Zab)) (c_1_t : Nat) (c_1_b : List (Tup Zab)) (c_1_l c_1_c : Nat) (key : Int) (hK : ZeF ways xs xs_n xs_c c_1_s c_1_a c_1_t c_1_b c_1_l c_1_c key Kf) (ag : Nat) (h : ZnV ways xs xs_n xs_c c_1_s c_1_a c_1_t c_1_b c_1_l c_1_c key ag) : SemL Try.prog w0 fp ρi 3 26 [Zd6, .ret] (ZzI ag) (ZpD xs_n xs c_1_s c_1_a xs_c c_1_t c_1_b ways c_1_l c_1_c key) (fnK ZdC 3 Kf) :=
  Zap ZgZ (ZtM ways xs xs_n xs_c c_1_s c_1_a c_1_t c_1_b c_1_l c_1_c key ag _ ⟨h.1, ⟨(Nat.le_refl _), ⟨⟨rfl, h.2.1⟩, (ZaV (R := ZdC) (m := 3) (Kf := Kf) (fun _ _ h => h) (Zrj ways xs xs_n xs_c c_1_s c_1_a c_1_t c_1_b c_1_l c_1_c key ag) (ZaO (Eq.mpr (cg2 (fun (z1 : Nat) (z2 : Int) => ZdI 3 Kf (.tuple [.ptr ⟨1, 0, z1, 1⟩ 1, .int .i64 z2]) (ZsC xs_n xs c_1_s c_1_a xs_c c_1_t c_1_b ways c_1_l c_1_c)) h.2.2.2.1 h.2.2.2.2) (ZaF [] [0, 1, 2] rfl (by kernel_rfl) rfl (Zdw (Zbu bpt (Zbu pbd Zdx))) (hsc pcs (hsc (Zat (Zao bsl (Zat Zax))) (hsc (Zao pbd (Zao bsl Zax)) Zan))) rfl (by kernel_rfl) ((hK.2 h.2.2.1))))))⟩⟩⟩)
abbrev ZxF : Env := [(0, some (.ptr ⟨2, 0, 0, 1⟩ 2)), (3, some (.ptr ⟨3, 0, 0, 1⟩ 1))]
theorem ZtL (ways : Int) (xs : List (Tup Zaa)) (xs_n xs_c c_1_s : Nat) (c_1_a : List (Tup Zab)) (c_1_t : Nat) (c_1_b : List (Tup Zab)) (c_1_l c_1_c : Nat) (key : Int) (Z : Env -> Heap -> Prop) (h : ((((c_1_l : Nat) : Int) ≠ 0)) /\ ((0 <= (Int.tmod key ((c_1_l : Nat) : Int)))) /\ (((Int.tmod key ((c_1_l : Nat) : Int)) < ((c_1_l : Nat) : Int))) /\ Z [(3, some (.ptr ⟨3, 0, 0, 1⟩ 1)), (4, some (.ptr ⟨1, 0, (0 + (Int.toNat (Int.tmod key ((c_1_l : Nat) : Int)))), 1⟩ 1))] (ZpD xs_n xs c_1_s c_1_a xs_c c_1_t c_1_b ways c_1_l c_1_c key)) : EvQC Zh8 ZiV [] ZxF (ZpD xs_n xs c_1_s c_1_a xs_c c_1_t c_1_b ways c_1_l c_1_c key) [3, 4] [0, 1, 2, 3] Z := EvQC.of (by kernel_rfl) h
def ZnU (ways : Int) (xs : List (Tup Zaa)) (xs_n xs_c c_1_s : Nat) (c_1_a : List (Tup Zab)) (c_1_t : Nat) (c_1_b : List (Tup Zab)) (c_1_l c_1_c : Nat) (key : Int) : Prop := ((((c_1_l : Nat) : Int) ≠ 0)) /\ (((0 <= (Int.tmod key ((c_1_l : Nat) : Int)))) /\ ((((Int.tmod key ((c_1_l : Nat) : Int)) < ((c_1_l : Nat) : Int))) /\ (∀ ag : Nat, ag = (0 + (Int.toNat (Int.tmod key ((c_1_l : Nat) : Int)))) -> ZnV ways xs xs_n xs_c c_1_s c_1_a c_1_t c_1_b c_1_l c_1_c key ag)))
theorem ZvR (ways : Int) (xs : List (Tup Zaa)) (xs_n xs_c c_1_s : Nat) (c_1_a : List (Tup Zab)) (c_1_t : Nat) (c_1_b : List (Tup Zab)) (c_1_l c_1_c : Nat) (key : Int) (hK : ZeF ways xs xs_n xs_c c_1_s c_1_a c_1_t c_1_b c_1_l c_1_c key Kf) (h : ZnU ways xs xs_n xs_c c_1_s c_1_a c_1_t c_1_b c_1_l c_1_c key) : SemL Try.prog w0 fp ρi 3 26 [ZfK, (.seq Zd6 .ret)] ZxF (ZpD xs_n xs c_1_s c_1_a xs_c c_1_t c_1_b ways c_1_l c_1_c key) (fnK ZdC 3 Kf) :=
  ZeV ZgZ (its := ZiV) (ZtL ways xs xs_n xs_c c_1_s c_1_a c_1_t c_1_b c_1_l c_1_c key _ ⟨h.1, ⟨h.2.1, ⟨h.2.2.1, (Zav (ZvS ways xs xs_n xs_c c_1_s c_1_a c_1_t c_1_b c_1_l c_1_c key hK (0 + (Int.toNat (Int.tmod key ((c_1_l : Nat) : Int)))) (h.2.2.2 (0 + (Int.toNat (Int.tmod key ((c_1_l : Nat) : Int)))) rfl)))⟩⟩⟩)
def ZhA (ways : Int) (xs : List (Tup Zaa)) (xs_n xs_c c_1_s : Nat) (c_1_a : List (Tup Zab)) (c_1_t : Nat) (c_1_b : List (Tup Zab)) (c_1_l c_1_c : Nat) (key : Int) : Prop := ((decide (key < 0)) = true -> (ZnW ways xs xs_n xs_c c_1_s c_1_a c_1_t c_1_b c_1_l c_1_c key)) /\ ((decide (key < 0)) = false -> (ZnU ways xs xs_n xs_c c_1_s c_1_a c_1_t c_1_b c_1_l c_1_c key))
abbrev ZzH (x0 : Int) : Env := [(0, some (.ptr ⟨2, 0, 0, 1⟩ 2)), (3, some (.ptr ⟨3, 0, 0, 1⟩ 1)), (7, some (.bool (decide (x0 < 0))))]
theorem ZvQ (ways : Int) (xs : List (Tup Zaa)) (xs_n xs_c c_1_s : Nat) (c_1_a : List (Tup Zab)) (c_1_t : Nat) (c_1_b : List (Tup Zab)) (c_1_l c_1_c : Nat) (key : Int) (hK : ZeF ways xs xs_n xs_c c_1_s c_1_a c_1_t c_1_b c_1_l c_1_c key Kf) (h : ZhA ways xs xs_n xs_c c_1_s c_1_a c_1_t c_1_b c_1_l c_1_c key) : SemL Try.prog w0 fp ρi 3 26 [ZiW, (.seq ZfK (.seq Zd6 .ret))] (ZzH key) (ZpD xs_n xs c_1_s c_1_a xs_c c_1_t c_1_b ways c_1_l c_1_c key) (fnK ZdC 3 Kf) :=
  Za4 (q := (decide (key < 0))) (by kernel_rfl) (fun hq => (Zav (lpk [] [0, 1, 2] (ZvT ways xs xs_n xs_c c_1_s c_1_a c_1_t c_1_b c_1_l c_1_c key hK (h.1 hq))))) (fun hq => (ZbT (lpk [0, 3] [0, 1, 2, 3] (Zav (ZvR ways xs xs_n xs_c c_1_s c_1_a c_1_t c_1_b c_1_l c_1_c key hK (h.2 hq))))))
theorem ZtK (ways : Int) (xs : List (Tup Zaa)) (xs_n xs_c c_1_s : Nat) (c_1_a : List (Tup Zab)) (c_1_t : Nat) (c_1_b : List (Tup Zab)) (c_1_l c_1_c : Nat) (key : Int) (Z : Env -> Heap -> Prop) (h : Z (ZzH key) (ZpD xs_n xs c_1_s c_1_a xs_c c_1_t c_1_b ways c_1_l c_1_c key)) : EvC Zh8 ZiX ZxF (ZpD xs_n xs c_1_s c_1_a xs_c c_1_t c_1_b ways c_1_l c_1_c key) [0, 3, 7] [0, 1, 2, 3] Z := EvC.of (by kernel_rfl) h
theorem ZvP (ways : Int) (xs : List (Tup Zaa)) (xs_n xs_c c_1_s : Nat) (c_1_a : List (Tup Zab)) (c_1_t : Nat) (c_1_b : List (Tup Zab)) (c_1_l c_1_c : Nat) (key : Int) (hK : ZeF ways xs xs_n xs_c c_1_s c_1_a c_1_t c_1_b c_1_l c_1_c key Kf) (h : ZhA ways xs xs_n xs_c c_1_s c_1_a c_1_t c_1_b c_1_l c_1_c key) : SemL Try.prog w0 fp ρi 3 26 [ZiX, ZiW, (.seq ZfK (.seq Zd6 .ret))] ZxF (ZpD xs_n xs c_1_s c_1_a xs_c c_1_t c_1_b ways c_1_l c_1_c key) (fnK ZdC 3 Kf) :=
  Zap ZgZ (ZtK ways xs xs_n xs_c c_1_s c_1_a c_1_t c_1_b c_1_l c_1_c key _ (ZvQ ways xs xs_n xs_c c_1_s c_1_a c_1_t c_1_b c_1_l c_1_c key hK h))
abbrev Zy3 (x0 : Int) : Env := [(0, some (.ptr ⟨2, 0, 0, 1⟩ 2)), (1, some (.int .i64 x0))]
abbrev Zy2 (x0 : Nat) (x1 : List (Tup Zaa)) (x2 : Nat) (x3 : List (Tup Zab)) (x4 x5 : Nat) (x6 : List (Tup Zab)) (x7 : Int) (x8 x9 : Nat) : Heap := ⟨3, [(0, some ⟨false, [.rows Zaa x0 x1], 0⟩), (1, some ⟨false, [.rows Zab x2 x3, .one (.slice ⟨0, 0, 0, 2⟩ x0 x4), .rows Zab x5 x6], 0⟩), (2, some ⟨false, [.i x7, .one (.slice ⟨1, 0, 0, 1⟩ x8 x9)], 0⟩)]⟩
theorem ZtJ (ways : Int) (xs : List (Tup Zaa)) (xs_n xs_c c_1_s : Nat) (c_1_a : List (Tup Zab)) (c_1_t : Nat) (c_1_b : List (Tup Zab)) (c_1_l c_1_c : Nat) (key : Int) (Z : Env -> Heap -> Prop) (h : Z ZxF (ZpD xs_n xs c_1_s c_1_a xs_c c_1_t c_1_b ways c_1_l c_1_c key)) : EvC Zh8 Zld (Zy3 key) (Zy2 xs_n xs c_1_s c_1_a xs_c c_1_t c_1_b ways c_1_l c_1_c) [0, 3] [0, 1, 2, 3] Z := EvC.of (by kernel_rfl) h
theorem ZvO (ways : Int) (xs : List (Tup Zaa)) (xs_n xs_c c_1_s : Nat) (c_1_a : List (Tup Zab)) (c_1_t : Nat) (c_1_b : List (Tup Zab)) (c_1_l c_1_c : Nat) (key : Int) (hK : ZeF ways xs xs_n xs_c c_1_s c_1_a c_1_t c_1_b c_1_l c_1_c key Kf) (h : ZhA ways xs xs_n xs_c c_1_s c_1_a c_1_t c_1_b c_1_l c_1_c key) : SemL Try.prog w0 fp ρi 3 26 [Zld, (.seq (.seq ZiX ZiW) (.seq ZfK (.seq Zd6 .ret)))] (Zy3 key) (Zy2 xs_n xs c_1_s c_1_a xs_c c_1_t c_1_b ways c_1_l c_1_c) (fnK ZdC 3 Kf) :=
  Zap ZgZ (ZtJ ways xs xs_n xs_c c_1_s c_1_a c_1_t c_1_b c_1_l c_1_c key _ (Zav (Zav (ZvP ways xs xs_n xs_c c_1_s c_1_a c_1_t c_1_b c_1_l c_1_c key hK h))))
theorem ZsX (ways : Int) (xs : List (Tup Zaa)) (xs_n xs_c c_1_s : Nat) (c_1_a : List (Tup Zab)) (c_1_t : Nat) (c_1_b : List (Tup Zab)) (c_1_l c_1_c : Nat) (key : Int) (hK : ZeF ways xs xs_n xs_c c_1_s c_1_a c_1_t c_1_b c_1_l c_1_c key Kf) (h : ZhA ways xs xs_n xs_c c_1_s c_1_a c_1_t c_1_b c_1_l c_1_c key) : SemL Try.prog w0 fp ρi 3 26 [ZqB] (Zy3 key) (Zy2 xs_n xs c_1_s c_1_a xs_c c_1_t c_1_b ways c_1_l c_1_c) (fnK ZdC 3 Kf) :=
  (Zav (ZvO ways xs xs_n xs_c c_1_s c_1_a c_1_t c_1_b c_1_l c_1_c key hK h))
end
theorem Zsh (ways : Int) (xs : List (Tup Zaa)) (xs_n xs_c c_1_s : Nat) (c_1_a : List (Tup Zab)) (c_1_t : Nat) (c_1_b : List (Tup Zab)) (c_1_l c_1_c : Nat) (key : Int) (hpre : ((List.length xs = xs_n /\ xs_n <= xs_c /\ xs_n <= 1000) /\ c_1_l = c_1_s + 1 + c_1_t /\ c_1_l <= 64 /\ c_1_l <= c_1_c /\ I64 key /\ (0 <= key -> Int.toNat (Int.tmod key (c_1_l : Int)) = c_1_s))) : ZhA ways xs xs_n xs_c c_1_s c_1_a c_1_t c_1_b c_1_l c_1_c key := by
  unfold ZhA ZnU ZnV ZnW
  obtain ⟨⟨hl, hc, hm⟩, h1, h2, h3, h4, h5⟩ := hpre
  refine ⟨fun h => h, fun h => ?_⟩
  have hk := of_decide_eq_false h
  have e1 := Int.tmod_nonneg (c_1_l : Int) (show 0 <= key by omega)
  have e2 := Int.tmod_lt_of_pos key (show (0 : Int) < c_1_l by omega)
  have e3 := h5 (by omega)
  refine ⟨by omega, e1, e2, ?_⟩
  rintro _ rfl
  rw [List.take_of_length_le (by omega)]
  exact ⟨by omega, ⟨hl, hc, hm⟩, h, by omega, rfl⟩
theorem ZhF : Sound Try.prog 51 (gS Zpz) := by
  refine ZaZ ZlE ?_
  intro args H K h
  obtain ⟨pre, out, hD, hpre, hK⟩ := ZcN h
  unfold Zpz at hD
  split at hD
  · cases hD
    obtain ⟨rfl, hpre⟩ := hpre
    exact ⟨rfl, fun w0 fp ρi => ZsX _ _ _ _ _ _ _ _ _ _ _ hK (Zsh _ _ _ _ _ _ _ _ _ _ _ hpre)⟩
  · cases hD
def ZsJ : Zeb := fun args H => match args, H with
  | [.slice ⟨0, 0, 0, 2⟩ s_n s_c, .int .i64 i, .int .i64 j], ⟨1, [(0, some ⟨true, [.rows [.int .i64, .int .i64] s_m s], 0⟩)]⟩ => some (s_m = s_n /\ ((List.length s = s_n /\ s_n <= s_c /\ s_n <= 1000) /\ 0 <= i /\ i <= j /\ j <= (s_n : Int)), fun K => K (.slice ⟨0, 0, 0, 2⟩ (s_n - (Int.toNat j - Int.toNat i)) s_c) ⟨1, [(0, some ⟨true, [.rows Zaa s_n (ZaI i j s)], 0⟩)]⟩)
  | _, _ => none
def Zpm : Con := ⟨53, gS ZsJ, [0], [], []⟩
def Zey (s : List (Tup Zaa)) (s_n s_c : Nat) (i j : Int) (Kf : SVal -> Heap -> Prop) : Prop := Kf (.slice ⟨0, 0, 0, 2⟩ (s_n - (Int.toNat j - Int.toNat i)) s_c) ⟨1, [(0, some ⟨true, [.rows Zaa s_n (ZaI i j s)], 0⟩)]⟩
def Zk9 : ACode := .reg (.op (some 6) (.mov (.cn (.nilslice))) .nil)
def ZiT : ACode := .reg (.op (some 8) (.mov (.tm 0)) (.op (some 9) (.mov (.tm 1)) (.op (some 10) (.mov (.tm 2)) (.op (some 11) (.mov (.tm 0)) (.op (some 12) (.len (.tm 11)) (.op (some 13) (.sliceS 2 (.tm 8) (some (.tm 9)) (some (.tm 10)) (some (.tm 12))) .nil))))))
def Zhf : ACode := .reg (.op (some 14) (.mov (.tm 1)) (.op (some 15) (.mov (.tm 2)) (.op (some 16) (.bin .eql (.tm 14) (.tm 15)) .nil)))
def Zk8 : ACode := .reg (.op (some 17) (.mov (.tm 0)) (.op (some 6) (.mov (.tm 17)) .nil))
def Zhe : ACode := .cond (.tm 16) (.seq Zk8 .ret) .skip
def Zd5 : ACode := .reg (.op (some 18) (.mov (.tm 0)) (.op (some 19) (.len (.tm 18)) (.op (some 7) (.mov (.tm 19)) .nil)))
def ZiS : List MStep := [.mk 0 0 (some 20) (.mov (.tm 0)), .mk 1 0 (some 21) (.mov (.tm 1)), .mk 2 0 (some 22) (.sliceS 2 (.tm 20) none (some (.tm 21)) none), .mk 3 0 (some 23) (.mov (.tm 0)), .mk 4 0 (some 24) (.mov (.tm 2)), .mk 5 0 (some 25) (.sliceS 2 (.tm 23) (some (.tm 24)) none none), .mk 6 2 (some 26) (.appendIn Zaa (.tm 22) (.tm 25)), .mk 7 0 (some 0) (.mov (.tm 26))]
def Zd4 : ACode := .regM ZiS
def ZcU : ACode := .reg (.op (some 27) (.mov (.tm 0)) (.op (some 28) (.mov (.tm 0)) (.op (some 29) (.len (.tm 28)) (.op (some 30) (.mov (.tm 7)) (.op (some 31) (.sliceS 2 (.tm 27) (some (.tm 29)) (some (.tm 30)) none) (.op none (.clearR Zaa (.tm 31)) .nil))))))
def Zcw : ACode := .reg (.op (some 32) (.mov (.tm 0)) (.op (some 6) (.mov (.tm 32)) .nil))
def Zxr : ACode := (.seq Zk9 (.seq ZiT (.seq (.seq Zhf Zhe) (.seq Zd5 (.seq Zd4 (.seq ZcU (.seq Zcw .ret)))))))
def ZeU : Res := .one (.tm 6)
theorem Znk : ZbR Try.prog 53 3 33 Zxr ZeU = true := by kernel_rfl
def Zjp : ZaC := ZdE [] []
theorem Zgc : ZaR Try.prog Zjp := Zba trivial trivial
section
variable {w0 : World} {fp : Nat -> Nat -> Prop} {ρi : Rho} {Kf : SVal -> Heap -> Prop}
abbrev Zx3 (x0 x1 : Nat) : Env := [(6, some (.slice ⟨0, 0, 0, 2⟩ x0 x1))]
abbrev Zfx (x0 : Nat) (x1 : List (Tup Zaa)) : Heap := ⟨1, [(0, some ⟨true, [.rows Zaa x0 x1], 0⟩)]⟩
abbrev ZxE (x0 x1 : Nat) : Env := [(0, some (.slice ⟨0, 0, 0, 2⟩ x0 x1))]
theorem ZtG (s : List (Tup Zaa)) (s_n s_c : Nat) (i j : Int) (Z : Env -> Heap -> Prop) (h : Z (Zx3 s_n s_c) (Zfx s_n s)) : EvC Zjp Zk8 (ZxE s_n s_c) (Zfx s_n s) [6] [0] Z := EvC.of (by kernel_rfl) h
theorem Zrg (s : List (Tup Zaa)) (s_n s_c : Nat) (i j : Int) : RetC ZeU (Zx3 s_n s_c) (Zfx s_n s) (.slice ⟨0, 0, 0, 2⟩ s_n s_c) := RetC.of (fun Z => by kernel_rfl)
def ZnS (s : List (Tup Zaa)) (s_n s_c : Nat) (i j : Int) : Prop := (s_n = (s_n - (Int.toNat j - Int.toNat i))) /\ (s = (ZaI i j s))
theorem ZvL (s : List (Tup Zaa)) (s_n s_c : Nat) (i j : Int) (hK : Zey s s_n s_c i j Kf) (h : ZnS s s_n s_c i j) : SemL Try.prog w0 fp ρi 1 33 [Zk8, .ret, (.seq Zd5 (.seq Zd4 (.seq ZcU (.seq Zcw .ret))))] (ZxE s_n s_c) (Zfx s_n s) (fnK ZeU 1 Kf) :=
  Zap Zgc (ZtG s s_n s_c i j _ (ZaV (R := ZeU) (m := 1) (Kf := Kf) (fun _ _ h => h) (Zrg s s_n s_c i j) (ZaO (Eq.mpr (cg2 (fun (z1 : Nat) (z2 : List (Tup Zaa)) => ZdI 1 Kf (.slice ⟨0, 0, 0, 2⟩ z1 s_c) (Zfx s_n z2)) h.1 h.2) (ZaF [] [0] rfl (by kernel_rfl) rfl bsl (hsc pcs Zan) rfl (by kernel_rfl) (hK))))))
theorem ZtF (s : List (Tup Zaa)) (s_n s_c : Nat) (i j : Int) (ad ae : Nat) (af : List (Tup Zaa)) (Z : Env -> Heap -> Prop) (h : Z (Zx3 ad ae) (Zfx s_n af)) : EvC Zjp Zcw (ZxE ad ae) (Zfx s_n af) [6] [0] Z := EvC.of (by kernel_rfl) h
theorem Zrf (s : List (Tup Zaa)) (s_n s_c : Nat) (i j : Int) (ad ae : Nat) (af : List (Tup Zaa)) : RetC ZeU (Zx3 ad ae) (Zfx s_n af) (.slice ⟨0, 0, 0, 2⟩ ad ae) := RetC.of (fun Z => by kernel_rfl)
def ZnR (s : List (Tup Zaa)) (s_n s_c : Nat) (i j : Int) (ad ae : Nat) (af : List (Tup Zaa)) : Prop := (ae = s_c) /\ (ad = (s_n - (Int.toNat j - Int.toNat i))) /\ (af = (ZaI i j s))
theorem ZvK (s : List (Tup Zaa)) (s_n s_c : Nat) (i j : Int) (hK : Zey s s_n s_c i j Kf) (ad ae : Nat) (af : List (Tup Zaa)) (h : ZnR s s_n s_c i j ad ae af) : SemL Try.prog w0 fp ρi 1 33 [Zcw, .ret] (ZxE ad ae) (Zfx s_n af) (fnK ZeU 1 Kf) :=
  Zap Zgc (ZtF s s_n s_c i j ad ae af _ (ZaV (R := ZeU) (m := 1) (Kf := Kf) (fun _ _ h => h) (Zrf s s_n s_c i j ad ae af) (ZaO (Eq.mpr (cg3 (fun (z1 z2 : Nat) (z3 : List (Tup Zaa)) => ZdI 1 Kf (.slice ⟨0, 0, 0, 2⟩ z2 z1) (Zfx s_n z3)) h.1 h.2.1 h.2.2) (ZaF [] [0] rfl (by kernel_rfl) rfl bsl (hsc pcs Zan) rfl (by kernel_rfl) (hK))))))
theorem ZtE (s : List (Tup Zaa)) (s_n s_c : Nat) (i j : Int) (ad ae : Nat) (v7 : Int) (h0 : List (Tup Zaa)) (Z : Env -> Heap -> Prop) (h : ((0 <= v7)) /\ ((v7 <= ((ae : Nat) : Int))) /\ ((0 <= ((ad : Nat) : Int))) /\ ((((ad : Nat) : Int) <= (((Int.toNat v7) : Nat) : Int))) /\ ((((0 + (if ae = (Int.toNat ((ad : Nat) : Int)) then 0 else (Int.toNat ((ad : Nat) : Int)))) + ((Int.toNat v7) - (Int.toNat ((ad : Nat) : Int)))) <= s_n)) /\ ((List.length h0 = s_n)) /\ Z (ZxE ad ae) ⟨1, [(0, some ⟨true, [.rows Zaa s_n (List.take (0 + (if ae = (Int.toNat ((ad : Nat) : Int)) then 0 else (Int.toNat ((ad : Nat) : Int)))) h0 ++ List.replicate ((Int.toNat v7) - (Int.toNat ((ad : Nat) : Int))) (Tup.dflt Zaa) ++ List.drop ((0 + (if ae = (Int.toNat ((ad : Nat) : Int)) then 0 else (Int.toNat ((ad : Nat) : Int)))) + ((Int.toNat v7) - (Int.toNat ((ad : Nat) : Int)))) h0)], 0⟩)]⟩) : EvC Zjp ZcU [(0, some (.slice ⟨0, 0, 0, 2⟩ ad ae)), (7, some (.int .i64 v7))] (Zfx s_n h0) [0] [0] Z := EvC.of (by kernel_rfl) h
def ZnQ (s : List (Tup Zaa)) (s_n s_c : Nat) (i j : Int) (ad ae : Nat) (v7 : Int) (h0 : List (Tup Zaa)) : Prop := ((0 <= v7)) /\ (((v7 <= ((ae : Nat) : Int))) /\ (((0 <= ((ad : Nat) : Int))) /\ (((((ad : Nat) : Int) <= (((Int.toNat v7) : Nat) : Int))) /\ (((((0 + (if ae = (Int.toNat ((ad : Nat) : Int)) then 0 else (Int.toNat ((ad : Nat) : Int)))) + ((Int.toNat v7) - (Int.toNat ((ad : Nat) : Int)))) <= s_n)) /\ (((List.length h0 = s_n)) /\ (∀ af : List (Tup Zaa), af = (List.take (0 + (if ae = (Int.toNat ((ad : Nat) : Int)) then 0 else (Int.toNat ((ad : Nat) : Int)))) h0 ++ List.replicate ((Int.toNat v7) - (Int.toNat ((ad : Nat) : Int))) (Tup.dflt Zaa) ++ List.drop ((0 + (if ae = (Int.toNat ((ad : Nat) : Int)) then 0 else (Int.toNat ((ad : Nat) : Int)))) + ((Int.toNat v7) - (Int.toNat ((ad : Nat) : Int)))) h0) -> ZnR s s_n s_c i j ad ae af))))))
theorem ZvJ (s : List (Tup Zaa)) (s_n s_c : Nat) (i j : Int) (hK : Zey s s_n s_c i j Kf) (ad ae : Nat) (v7 : Int) (h0 : List (Tup Zaa)) (h : ZnQ s s_n s_c i j ad ae v7 h0) : SemL Try.prog w0 fp ρi 1 33 [ZcU, (.seq Zcw .ret)] [(0, some (.slice ⟨0, 0, 0, 2⟩ ad ae)), (7, some (.int .i64 v7))] (Zfx s_n h0) (fnK ZeU 1 Kf) :=
  Zap Zgc (ZtE s s_n s_c i j ad ae v7 h0 _ ⟨h.1, ⟨h.2.1, ⟨h.2.2.1, ⟨h.2.2.2.1, ⟨h.2.2.2.2.1, ⟨h.2.2.2.2.2.1, (Zav (ZvK s s_n s_c i j hK ad ae (List.take (0 + (if ae = (Int.toNat ((ad : Nat) : Int)) then 0 else (Int.toNat ((ad : Nat) : Int)))) h0 ++ List.replicate ((Int.toNat v7) - (Int.toNat ((ad : Nat) : Int))) (Tup.dflt Zaa) ++ List.drop ((0 + (if ae = (Int.toNat ((ad : Nat) : Int)) then 0 else (Int.toNat ((ad : Nat) : Int)))) + ((Int.toNat v7) - (Int.toNat ((ad : Nat) : Int)))) h0) (h.2.2.2.2.2.2 (List.take (0 + (if ae = (Int.toNat ((ad : Nat) : Int)) then 0 else (Int.toNat ((ad : Nat) : Int)))) h0 ++ List.replicate ((Int.toNat v7) - (Int.toNat ((ad : Nat) : Int))) (Tup.dflt Zaa) ++ List.drop ((0 + (if ae = (Int.toNat ((ad : Nat) : Int)) then 0 else (Int.toNat ((ad : Nat) : Int)))) + ((Int.toNat v7) - (Int.toNat ((ad : Nat) : Int)))) h0) rfl)))⟩⟩⟩⟩⟩⟩)
theorem ZtD (s : List (Tup Zaa)) (s_n s_c : Nat) (i j v7 : Int) (Z : Env -> Heap -> Prop) (h : ((0 <= i)) /\ ((i <= ((s_c : Nat) : Int))) /\ ((0 <= j)) /\ ((j <= ((s_n : Nat) : Int))) /\ ((((0 + (if s_c = (Int.toNat j) then 0 else (Int.toNat j))) + (s_n - (Int.toNat j))) <= s_n)) /\ ((List.length s = s_n)) /\ (((((Int.toNat i) - 0) + (s_n - (Int.toNat j))) <= s_n)) /\ (((((Int.toNat i) - 0) + (s_n - (Int.toNat j))) <= (s_c - 0))) /\ ((List.length s = s_n)) /\ Z [(0, some (.slice ⟨0, 0, 0, 2⟩ (((Int.toNat i) - 0) + (s_n - (Int.toNat j))) (s_c - 0))), (7, some (.int .i64 v7))] ⟨1, [(0, some ⟨true, [.rows Zaa s_n (List.take ((Int.toNat i) - 0) s ++ (List.take (s_n - (Int.toNat j)) (List.drop (0 + (if s_c = (Int.toNat j) then 0 else (Int.toNat j))) s)) ++ List.drop (((Int.toNat i) - 0) + (s_n - (Int.toNat j))) s)], 0⟩)]⟩) : EvNC Zjp ZiS [[], [], [], [], [], [], [], []] [(0, some (.slice ⟨0, 0, 0, 2⟩ s_n s_c)), (1, some (.int .i64 i)), (2, some (.int .i64 j)), (7, some (.int .i64 v7))] (Zfx s_n s) [0, 7] [0] Z := EvNC.of (by kernel_rfl) h
def ZnP (s : List (Tup Zaa)) (s_n s_c : Nat) (i j v7 : Int) : Prop := ((0 <= i)) /\ (((i <= ((s_c : Nat) : Int))) /\ (((0 <= j)) /\ (((j <= ((s_n : Nat) : Int))) /\ (((((0 + (if s_c = (Int.toNat j) then 0 else (Int.toNat j))) + (s_n - (Int.toNat j))) <= s_n)) /\ (((List.length s = s_n)) /\ ((((((Int.toNat i) - 0) + (s_n - (Int.toNat j))) <= s_n)) /\ ((((((Int.toNat i) - 0) + (s_n - (Int.toNat j))) <= (s_c - 0))) /\ (((List.length s = s_n)) /\ (∀ ad : Nat, ad = (((Int.toNat i) - 0) + (s_n - (Int.toNat j))) -> ∀ ae : Nat, ae = (s_c - 0) -> ∀ h0 : List (Tup Zaa), h0 = (List.take ((Int.toNat i) - 0) s ++ (List.take (s_n - (Int.toNat j)) (List.drop (0 + (if s_c = (Int.toNat j) then 0 else (Int.toNat j))) s)) ++ List.drop (((Int.toNat i) - 0) + (s_n - (Int.toNat j))) s) -> ZnQ s s_n s_c i j ad ae v7 h0)))))))))
theorem ZvI (s : List (Tup Zaa)) (s_n s_c : Nat) (i j : Int) (hK : Zey s s_n s_c i j Kf) (v7 : Int) (h : ZnP s s_n s_c i j v7) : SemL Try.prog w0 fp ρi 1 33 [Zd4, (.seq ZcU (.seq Zcw .ret))] [(0, some (.slice ⟨0, 0, 0, 2⟩ s_n s_c)), (1, some (.int .i64 i)), (2, some (.int .i64 j)), (7, some (.int .i64 v7))] (Zfx s_n s) (fnK ZeU 1 Kf) :=
  ZlN Zgc (steps := ZiS) (ZtD s s_n s_c i j v7 _ ⟨h.1, ⟨h.2.1, ⟨h.2.2.1, ⟨h.2.2.2.1, ⟨h.2.2.2.2.1, ⟨h.2.2.2.2.2.1, ⟨h.2.2.2.2.2.2.1, ⟨h.2.2.2.2.2.2.2.1, ⟨h.2.2.2.2.2.2.2.2.1, (Zav (ZvJ s s_n s_c i j hK (((Int.toNat i) - 0) + (s_n - (Int.toNat j))) (s_c - 0) v7 (List.take ((Int.toNat i) - 0) s ++ (List.take (s_n - (Int.toNat j)) (List.drop (0 + (if s_c = (Int.toNat j) then 0 else (Int.toNat j))) s)) ++ List.drop (((Int.toNat i) - 0) + (s_n - (Int.toNat j))) s) (((h.2.2.2.2.2.2.2.2.2 (((Int.toNat i) - 0) + (s_n - (Int.toNat j))) rfl) (s_c - 0) rfl) (List.take ((Int.toNat i) - 0) s ++ (List.take (s_n - (Int.toNat j)) (List.drop (0 + (if s_c = (Int.toNat j) then 0 else (Int.toNat j))) s)) ++ List.drop (((Int.toNat i) - 0) + (s_n - (Int.toNat j))) s) rfl)))⟩⟩⟩⟩⟩⟩⟩⟩⟩)
abbrev Zpu (x0 x1 : Nat) (x2 x3 : Int) : Env := [(0, some (.slice ⟨0, 0, 0, 2⟩ x0 x1)), (1, some (.int .i64 x2)), (2, some (.int .i64 x3))]
theorem ZtC (s : List (Tup Zaa)) (s_n s_c : Nat) (i j : Int) (Z : Env -> Heap -> Prop) (h : Z [(0, some (.slice ⟨0, 0, 0, 2⟩ s_n s_c)), (1, some (.int .i64 i)), (2, some (.int .i64 j)), (7, some (.int .i64 ((s_n : Nat) : Int)))] (Zfx s_n s)) : EvC Zjp Zd5 (Zpu s_n s_c i j) (Zfx s_n s) [0, 1, 2, 7] [0] Z := EvC.of (by kernel_rfl) h
def ZnO (s : List (Tup Zaa)) (s_n s_c : Nat) (i j : Int) : Prop := ∀ v7 : Int, v7 = ((s_n : Nat) : Int) -> ZnP s s_n s_c i j v7
theorem ZvH (s : List (Tup Zaa)) (s_n s_c : Nat) (i j : Int) (hK : Zey s s_n s_c i j Kf) (h : ZnO s s_n s_c i j) : SemL Try.prog w0 fp ρi 1 33 [Zd5, (.seq Zd4 (.seq ZcU (.seq Zcw .ret)))] (Zpu s_n s_c i j) (Zfx s_n s) (fnK ZeU 1 Kf) :=
  Zap Zgc (ZtC s s_n s_c i j _ (Zav (ZvI s s_n s_c i j hK ((s_n : Nat) : Int) (h ((s_n : Nat) : Int) rfl))))
def Zl6 (s : List (Tup Zaa)) (s_n s_c : Nat) (i j : Int) : Prop := ((i == j) = true -> (ZnS s s_n s_c i j)) /\ ((i == j) = false -> (ZnO s s_n s_c i j))
abbrev ZzG (x0 x1 : Nat) (x2 x3 : Int) : Env := [(0, some (.slice ⟨0, 0, 0, 2⟩ x0 x1)), (1, some (.int .i64 x2)), (2, some (.int .i64 x3)), (16, some (.bool (x2 == x3)))]
theorem ZvG (s : List (Tup Zaa)) (s_n s_c : Nat) (i j : Int) (hK : Zey s s_n s_c i j Kf) (h : Zl6 s s_n s_c i j) : SemL Try.prog w0 fp ρi 1 33 [Zhe, (.seq Zd5 (.seq Zd4 (.seq ZcU (.seq Zcw .ret))))] (ZzG s_n s_c i j) (Zfx s_n s) (fnK ZeU 1 Kf) :=
  Za4 (q := (i == j)) (by kernel_rfl) (fun hq => (Zav (lpk [0] [0] (ZvL s s_n s_c i j hK (h.1 hq))))) (fun hq => (ZbT (lpk [0, 1, 2] [0] (Zav (ZvH s s_n s_c i j hK (h.2 hq))))))
theorem ZtB (s : List (Tup Zaa)) (s_n s_c : Nat) (i j : Int) (Z : Env -> Heap -> Prop) (h : Z (ZzG s_n s_c i j) (Zfx s_n s)) : EvC Zjp Zhf (Zpu s_n s_c i j) (Zfx s_n s) [0, 1, 2, 16] [0] Z := EvC.of (by kernel_rfl) h
theorem ZvF (s : List (Tup Zaa)) (s_n s_c : Nat) (i j : Int) (hK : Zey s s_n s_c i j Kf) (h : Zl6 s s_n s_c i j) : SemL Try.prog w0 fp ρi 1 33 [Zhf, Zhe, (.seq Zd5 (.seq Zd4 (.seq ZcU (.seq Zcw .ret))))] (Zpu s_n s_c i j) (Zfx s_n s) (fnK ZeU 1 Kf) :=
  Zap Zgc (ZtB s s_n s_c i j _ (ZvG s s_n s_c i j hK h))
theorem ZtA (s : List (Tup Zaa)) (s_n s_c : Nat) (i j : Int) (Z : Env -> Heap -> Prop) (h : ((0 <= ((s_n : Nat) : Int))) /\ ((((s_n : Nat) : Int) <= ((s_c : Nat) : Int))) /\ ((0 <= j)) /\ ((j <= (((Int.toNat ((s_n : Nat) : Int)) : Nat) : Int))) /\ ((0 <= i)) /\ ((i <= (((Int.toNat j) : Nat) : Int))) /\ Z (Zpu s_n s_c i j) (Zfx s_n s)) : EvC Zjp ZiT (Zpu s_n s_c i j) (Zfx s_n s) [0, 1, 2] [0] Z := EvC.of (by kernel_rfl) h
def ZjB (s : List (Tup Zaa)) (s_n s_c : Nat) (i j : Int) : Prop := ((0 <= ((s_n : Nat) : Int))) /\ (((((s_n : Nat) : Int) <= ((s_c : Nat) : Int))) /\ (((0 <= j)) /\ (((j <= (((Int.toNat ((s_n : Nat) : Int)) : Nat) : Int))) /\ (((0 <= i)) /\ (((i <= (((Int.toNat j) : Nat) : Int))) /\ (Zl6 s s_n s_c i j))))))
theorem ZvE (s : List (Tup Zaa)) (s_n s_c : Nat) (i j : Int) (hK : Zey s s_n s_c i j Kf) (h : ZjB s s_n s_c i j) : SemL Try.prog w0 fp ρi 1 33 [ZiT, (.seq (.seq Zhf Zhe) (.seq Zd5 (.seq Zd4 (.seq ZcU (.seq Zcw .ret)))))] (Zpu s_n s_c i j) (Zfx s_n s) (fnK ZeU 1 Kf) :=
  Zap Zgc (ZtA s s_n s_c i j _ ⟨h.1, ⟨h.2.1, ⟨h.2.2.1, ⟨h.2.2.2.1, ⟨h.2.2.2.2.1, ⟨h.2.2.2.2.2.1, (Zav (Zav (ZvF s s_n s_c i j hK h.2.2.2.2.2.2)))⟩⟩⟩⟩⟩⟩)
theorem Ztz (s : List (Tup Zaa)) (s_n s_c : Nat) (i j : Int) (Z : Env -> Heap -> Prop) (h : Z (Zpu s_n s_c i j) (Zfx s_n s)) : EvC Zjp Zk9 (Zpu s_n s_c i j) (Zfx s_n s) [0, 1, 2] [0] Z := EvC.of (by kernel_rfl) h
theorem ZvD (s : List (Tup Zaa)) (s_n s_c : Nat) (i j : Int) (hK : Zey s s_n s_c i j Kf) (h : ZjB s s_n s_c i j) : SemL Try.prog w0 fp ρi 1 33 [Zk9, (.seq ZiT (.seq (.seq Zhf Zhe) (.seq Zd5 (.seq Zd4 (.seq ZcU (.seq Zcw .ret))))))] (Zpu s_n s_c i j) (Zfx s_n s) (fnK ZeU 1 Kf) :=
  Zap Zgc (Ztz s s_n s_c i j _ (Zav (ZvE s s_n s_c i j hK h)))
theorem Zyb (s : List (Tup Zaa)) (s_n s_c : Nat) (i j : Int) (hK : Zey s s_n s_c i j Kf) (h : ZjB s s_n s_c i j) : SemL Try.prog w0 fp ρi 1 33 [Zxr] (Zpu s_n s_c i j) (Zfx s_n s) (fnK ZeU 1 Kf) :=
  (Zav (ZvD s s_n s_c i j hK h))
end
theorem Zxc (s : List (Tup Zaa)) (s_n s_c : Nat) (i j : Int) (hpre : ((List.length s = s_n /\ s_n <= s_c /\ s_n <= 1000) /\ 0 <= i /\ i <= j /\ j <= (s_n : Int))) : ZjB s s_n s_c i j := by
  unfold ZjB Zl6 ZnO ZnP ZnQ ZnR ZnS
  obtain ⟨⟨hl, hc, hm⟩, h1, h2, h3⟩ := hpre
  refine ⟨by omega, by omega, by omega, by omega, h1, by omega, fun h => ?_, fun h => ?_⟩
  · obtain rfl : i = j := by simpa using h
    exact ⟨by omega, delRow_same.symm⟩
  have hne : i ≠ j := by simpa using h
  rintro v7 rfl
  have hq : (0 + if s_c = j.toNat then 0 else j.toNat) = j.toNat ∨ s_n - j.toNat = 0 := by split <;> omega
  have hq2 : (0 + if s_c = j.toNat then 0 else j.toNat) + (s_n - j.toNat) <= s_n := by split <;> omega
  generalize (0 + if s_c = j.toNat then 0 else j.toNat) = q at hq hq2 ⊢
  refine ⟨h1, by omega, by omega, by omega, hq2, hl, by omega, by omega, hl, ?_⟩
  rintro ad rfl ae hv0c g rfl
  obtain hv0c : ae = s_c := by omega
  rw [hv0c]
  have hx : ¬ (s_c = ((i.toNat - 0 + (s_n - j.toNat) : Nat) : Int).toNat) := by omega
  rw [if_neg hx]
  refine ⟨by omega, by omega, by omega, by omega, by omega, by simp only [List.length_append, List.length_take, List.length_drop, hl]; omega, ?_⟩
  rintro _ rfl
  refine ⟨by omega, by omega, ?_⟩
  have := Zpb hl hc h1 (by omega) h3 q hq
  rw [<- this]
  simp only [Nat.sub_zero, Nat.zero_add, Int.toNat_natCast]
  rw [show i.toNat + (s_n - j.toNat) + (s_n - (i.toNat + (s_n - j.toNat))) = s_n by omega]
theorem Zs1 : Sound Try.prog 53 (gS ZsJ) := by
  refine ZaZ Znk ?_
  intro args H K h
  obtain ⟨pre, out, hD, hpre, hK⟩ := ZcN h
  unfold ZsJ at hD
  split at hD
  · cases hD
    obtain ⟨rfl, hpre⟩ := hpre
    exact ⟨rfl, fun w0 fp ρi => Zyb _ _ _ _ _ hK (Zxc _ _ _ _ _ hpre)⟩
  · cases hD
def Zpy : Zeb := fun args H => match args, H with
  | [.ptr ⟨1, 0, set_i, 1⟩ 1, .int .i64 aa], ⟨2, [(0, some ⟨true, [.rows [.int .i64, .int .i64] xs_m xs], 0⟩), (1, some ⟨true, [.rows [.hd] set_s set_a, .one (.slice ⟨0, 0, 0, 2⟩ xs_n xs_c), .rows [.hd] set_t set_b], 0⟩)]⟩ => some (xs_m = xs_n /\ set_i = set_s /\ ((List.length xs = xs_n /\ xs_n <= xs_c /\ xs_n <= 1000) /\ 0 <= aa /\ aa < (xs_n : Int)), fun K => K (.tuple []) ⟨2, [(0, some ⟨true, [.rows Zaa xs_n (ZaW aa xs)], 0⟩), (1, some ⟨true, [.rows Zab set_s set_a, .one (.slice ⟨0, 0, 0, 2⟩ xs_n xs_c), .rows Zab set_t set_b], 0⟩)]⟩)
  | _, _ => none
def ZmO : Con := ⟨52, gS Zpy, [0, 1], [], []⟩
def ZkN (xs : List (Tup Zaa)) (xs_n xs_c set_s : Nat) (set_a : List (Tup Zab)) (set_t : Nat) (set_b : List (Tup Zab)) (aa : Int) (Kf : SVal -> Heap -> Prop) : Prop := Kf (.tuple []) ⟨2, [(0, some ⟨true, [.rows Zaa xs_n (ZaW aa xs)], 0⟩), (1, some ⟨true, [.rows Zab set_s set_a, .one (.slice ⟨0, 0, 0, 2⟩ xs_n xs_c), .rows Zab set_t set_b], 0⟩)]⟩
def Zlb : ACode := .reg (.op (some 5) (.mov (.tm 0)) (.op (some 6) (.nilCheck (.tm 5)) (.op (some 7) (.load1 (.tm 6)) (.op (some 8) (.mov (.tm 1)) (.op (some 9) (.idxS (.tm 7) (.tm 8) 2) (.op (some 10) (.loadA 2 (.tm 9)) (.op (some 4) (.alloc [.i 0, .i 0]) (.op none (.storeA 2 (.tm 4) (.tm 10)) .nil))))))))
def ZiU : MTree := (.st 0 0 none (some 11) (.mov (.tm 0)) (.st 1 0 none (some 12) (.mov (.tm 0)) (.st 2 0 none (some 13) (.nilCheck (.tm 12)) (.st 3 0 none (some 14) (.load1 (.tm 13)) (.st 4 0 none (some 15) (.mov (.tm 1)) (.st 5 0 none (some 16) (.mov (.tm 1)) (.st 6 0 none (some 17) (.bin .add (.tm 16) (.cn (.int .i64 1))) (.st 8 0 none (some 19) (.loadA 2 (.tm 4)) (.alt (.st 7 1 none (some 18) (.call 53 [(.tm 14), (.tm 15), (.tm 17)]) (.st 9 1 none (some 20) (.bsliceR Zaa 1 [(.tm 19)]) (.st 10 1 none (some 21) (.appendIn Zaa (.tm 18) (.tm 20)) (.st 11 0 none (some 22) (.nilCheck (.tm 11)) (.st 12 2 none none (.store1 (.tm 22) (.tm 21)) .nil))))) (.st 9 1 none (some 20) (.bsliceR Zaa 1 [(.tm 19)]) (.st 7 1 none (some 18) (.call 53 [(.tm 14), (.tm 15), (.tm 17)]) (.st 10 1 none (some 21) (.appendIn Zaa (.tm 18) (.tm 20)) (.st 11 0 none (some 22) (.nilCheck (.tm 11)) (.st 12 2 none none (.store1 (.tm 22) (.tm 21)) .nil))))))))))))))
def Zla : ACode := .regT ZiU
def ZqA : ACode := (.seq Zlb Zla)
def Zgg : Res := .many []
theorem ZlD : ZbR Try.prog 52 2 23 ZqA Zgg = true := by kernel_rfl
def Zpv : ZaC := ZdE [] [Zpm]
theorem Zo5 : ZaR Try.prog Zpv := Zba trivial ⟨Zs1, trivial⟩
section
variable {w0 : World} {fp : Nat -> Nat -> Prop} {ρi : Rho} {Kf : SVal -> Heap -> Prop}
abbrev Zy1 (x0 : Nat) (x1 : Int) : Env := [(0, some (.ptr ⟨1, 0, x0, 1⟩ 1)), (1, some (.int .i64 x1)), (4, some (.ptr ⟨2, 0, 0, 1⟩ 2))]
theorem ZtI (xs : List (Tup Zaa)) (xs_n xs_c set_s : Nat) (set_a : List (Tup Zab)) (set_t : Nat) (set_b : List (Tup Zab)) (aa ac ab : Int) (Z : Env -> Heap -> Prop) (h : (((set_s : Nat) = set_s)) /\ ((((xs_n : Nat) = xs_n)) /\ (((xs_n : Nat) = xs_n) /\ ((List.length xs = xs_n /\ xs_n <= xs_c /\ xs_n <= 1000) /\ 0 <= aa /\ aa <= (IntKind.i64.wrap (aa + 1)) /\ (IntKind.i64.wrap (aa + 1)) <= (xs_n : Int))) /\ (((xs_n : Nat) = xs_n)) /\ (((xs_n : Nat) = xs_n)) /\ ((Zbp ⟨3, [(0, some ⟨true, [.rows Zaa xs_n (ZaI aa (IntKind.i64.wrap (aa + 1)) xs)], 0⟩), (1, some ⟨true, [.rows Zab set_s set_a, .one (.slice ⟨0, 0, 0, 2⟩ xs_n xs_c), .rows Zab set_t set_b], 0⟩), (2, some ⟨true, [.i ac, .i ab], 0⟩)]⟩ (Heap.keep ⟨3, [(0, some ⟨true, [.rows Zaa xs_n xs], 0⟩), (1, some ⟨true, [.rows Zab set_s set_a, .one (.slice ⟨0, 0, 0, 2⟩ xs_n xs_c), .rows Zab set_t set_b], 0⟩), (2, some ⟨true, [.i ac, .i ab], 0⟩)]⟩ [2, 1]) (ZbD [2, 1] ⟨3, [(0, some ⟨true, [.rows Zaa xs_n xs], 0⟩), (1, some ⟨true, [.rows Zab set_s set_a, .one (.slice ⟨0, 0, 0, 2⟩ xs_n xs_c), .rows Zab set_t set_b], 0⟩), (2, some ⟨true, [.i ac, .i ab], 0⟩)]⟩))) /\ ((Zbp ⟨4, [(0, some ⟨true, [.rows Zaa xs_n (ZaI aa (IntKind.i64.wrap (aa + 1)) xs)], 0⟩), (1, some ⟨true, [.rows Zab set_s set_a, .one (.slice ⟨0, 0, 0, 2⟩ xs_n xs_c), .rows Zab set_t set_b], 0⟩), (2, some ⟨true, [.i ac, .i ab], 0⟩), (3, some ⟨true, [.rows Zaa 1 [((ac, ab) : Tup Zaa)]], 0⟩)]⟩ (Heap.keep ⟨3, [(0, some ⟨true, [.rows Zaa xs_n (ZaI aa (IntKind.i64.wrap (aa + 1)) xs)], 0⟩), (1, some ⟨true, [.rows Zab set_s set_a, .one (.slice ⟨0, 0, 0, 2⟩ xs_n xs_c), .rows Zab set_t set_b], 0⟩), (2, some ⟨true, [.i ac, .i ab], 0⟩)]⟩ [2, 1]) (ZbD [2, 1] ⟨3, [(0, some ⟨true, [.rows Zaa xs_n (ZaI aa (IntKind.i64.wrap (aa + 1)) xs)], 0⟩), (1, some ⟨true, [.rows Zab set_s set_a, .one (.slice ⟨0, 0, 0, 2⟩ xs_n xs_c), .rows Zab set_t set_b], 0⟩), (2, some ⟨true, [.i ac, .i ab], 0⟩)]⟩))) /\ (((1 : Nat) <= 1)) /\ ((List.length [((ac, ab) : Tup Zaa)] = 1)) /\ ((((xs_n - (Int.toNat (IntKind.i64.wrap (aa + 1)) - Int.toNat aa)) + 1) <= xs_n)) /\ ((((xs_n - (Int.toNat (IntKind.i64.wrap (aa + 1)) - Int.toNat aa)) + 1) <= xs_c)) /\ ((List.length (ZaI aa (IntKind.i64.wrap (aa + 1)) xs) = xs_n)) /\ ((Zbp ⟨4, [(0, some ⟨true, [.rows Zaa xs_n (List.take (xs_n - (Int.toNat (IntKind.i64.wrap (aa + 1)) - Int.toNat aa)) (ZaI aa (IntKind.i64.wrap (aa + 1)) xs) ++ (List.take 1 (List.drop 0 [((ac, ab) : Tup Zaa)])) ++ List.drop ((xs_n - (Int.toNat (IntKind.i64.wrap (aa + 1)) - Int.toNat aa)) + 1) (ZaI aa (IntKind.i64.wrap (aa + 1)) xs))], 0⟩), (1, some ⟨true, [.rows Zab set_s set_a, .one (.slice ⟨0, 0, 0, 2⟩ xs_n xs_c), .rows Zab set_t set_b], 0⟩), (2, some ⟨true, [.i ac, .i ab], 0⟩), (3, some ⟨true, [.rows Zaa 1 [((ac, ab) : Tup Zaa)]], 0⟩)]⟩ (Heap.keep ⟨4, [(0, some ⟨true, [.rows Zaa xs_n (ZaI aa (IntKind.i64.wrap (aa + 1)) xs)], 0⟩), (1, some ⟨true, [.rows Zab set_s set_a, .one (.slice ⟨0, 0, 0, 2⟩ xs_n xs_c), .rows Zab set_t set_b], 0⟩), (2, some ⟨true, [.i ac, .i ab], 0⟩), (3, some ⟨true, [.rows Zaa 1 [((ac, ab) : Tup Zaa)]], 0⟩)]⟩ [2, 1]) (ZbD [2, 1] ⟨4, [(0, some ⟨true, [.rows Zaa xs_n (ZaI aa (IntKind.i64.wrap (aa + 1)) xs)], 0⟩), (1, some ⟨true, [.rows Zab set_s set_a, .one (.slice ⟨0, 0, 0, 2⟩ xs_n xs_c), .rows Zab set_t set_b], 0⟩), (2, some ⟨true, [.i ac, .i ab], 0⟩), (3, some ⟨true, [.rows Zaa 1 [((ac, ab) : Tup Zaa)]], 0⟩)]⟩))) /\ (((set_s : Nat) = set_s)) /\ Z [] ⟨4, [(0, some ⟨true, [.rows Zaa xs_n (List.take (xs_n - (Int.toNat (IntKind.i64.wrap (aa + 1)) - Int.toNat aa)) (ZaI aa (IntKind.i64.wrap (aa + 1)) xs) ++ (List.take 1 (List.drop 0 [((ac, ab) : Tup Zaa)])) ++ List.drop ((xs_n - (Int.toNat (IntKind.i64.wrap (aa + 1)) - Int.toNat aa)) + 1) (ZaI aa (IntKind.i64.wrap (aa + 1)) xs))], 0⟩), (1, some ⟨true, [.rows Zab set_s set_a, .one (.slice ⟨0, 0, 0, 2⟩ ((xs_n - (Int.toNat (IntKind.i64.wrap (aa + 1)) - Int.toNat aa)) + 1) xs_c), .rows Zab set_t set_b], 0⟩)]⟩) /\ ((Zbp ⟨4, [(0, some ⟨true, [.rows Zaa xs_n xs], 0⟩), (1, some ⟨true, [.rows Zab set_s set_a, .one (.slice ⟨0, 0, 0, 2⟩ xs_n xs_c), .rows Zab set_t set_b], 0⟩), (2, some ⟨true, [.i ac, .i ab], 0⟩), (3, some ⟨true, [.rows Zaa 1 [((ac, ab) : Tup Zaa)]], 0⟩)]⟩ (Heap.keep ⟨3, [(0, some ⟨true, [.rows Zaa xs_n xs], 0⟩), (1, some ⟨true, [.rows Zab set_s set_a, .one (.slice ⟨0, 0, 0, 2⟩ xs_n xs_c), .rows Zab set_t set_b], 0⟩), (2, some ⟨true, [.i ac, .i ab], 0⟩)]⟩ [2, 1]) (ZbD [2, 1] ⟨3, [(0, some ⟨true, [.rows Zaa xs_n xs], 0⟩), (1, some ⟨true, [.rows Zab set_s set_a, .one (.slice ⟨0, 0, 0, 2⟩ xs_n xs_c), .rows Zab set_t set_b], 0⟩), (2, some ⟨true, [.i ac, .i ab], 0⟩)]⟩))) /\ (((xs_n : Nat) = xs_n)) /\ (((xs_n : Nat) = xs_n) /\ ((List.length xs = xs_n /\ xs_n <= xs_c /\ xs_n <= 1000) /\ 0 <= aa /\ aa <= (IntKind.i64.wrap (aa + 1)) /\ (IntKind.i64.wrap (aa + 1)) <= (xs_n : Int))) /\ (((xs_n : Nat) = xs_n)) /\ (((xs_n : Nat) = xs_n)) /\ ((Zbp ⟨4, [(0, some ⟨true, [.rows Zaa xs_n (ZaI aa (IntKind.i64.wrap (aa + 1)) xs)], 0⟩), (1, some ⟨true, [.rows Zab set_s set_a, .one (.slice ⟨0, 0, 0, 2⟩ xs_n xs_c), .rows Zab set_t set_b], 0⟩), (2, some ⟨true, [.i ac, .i ab], 0⟩), (3, some ⟨true, [.rows Zaa 1 [((ac, ab) : Tup Zaa)]], 0⟩)]⟩ (Heap.keep ⟨4, [(0, some ⟨true, [.rows Zaa xs_n xs], 0⟩), (1, some ⟨true, [.rows Zab set_s set_a, .one (.slice ⟨0, 0, 0, 2⟩ xs_n xs_c), .rows Zab set_t set_b], 0⟩), (2, some ⟨true, [.i ac, .i ab], 0⟩), (3, some ⟨true, [.rows Zaa 1 [((ac, ab) : Tup Zaa)]], 0⟩)]⟩ [2, 1]) (ZbD [2, 1] ⟨4, [(0, some ⟨true, [.rows Zaa xs_n xs], 0⟩), (1, some ⟨true, [.rows Zab set_s set_a, .one (.slice ⟨0, 0, 0, 2⟩ xs_n xs_c), .rows Zab set_t set_b], 0⟩), (2, some ⟨true, [.i ac, .i ab], 0⟩), (3, some ⟨true, [.rows Zaa 1 [((ac, ab) : Tup Zaa)]], 0⟩)]⟩))) /\ (((1 : Nat) <= 1)) /\ ((List.length [((ac, ab) : Tup Zaa)] = 1)) /\ ((((xs_n - (Int.toNat (IntKind.i64.wrap (aa + 1)) - Int.toNat aa)) + 1) <= xs_n)) /\ ((((xs_n - (Int.toNat (IntKind.i64.wrap (aa + 1)) - Int.toNat aa)) + 1) <= xs_c)) /\ ((List.length (ZaI aa (IntKind.i64.wrap (aa + 1)) xs) = xs_n)) /\ ((Zbp ⟨4, [(0, some ⟨true, [.rows Zaa xs_n (List.take (xs_n - (Int.toNat (IntKind.i64.wrap (aa + 1)) - Int.toNat aa)) (ZaI aa (IntKind.i64.wrap (aa + 1)) xs) ++ (List.take 1 (List.drop 0 [((ac, ab) : Tup Zaa)])) ++ List.drop ((xs_n - (Int.toNat (IntKind.i64.wrap (aa + 1)) - Int.toNat aa)) + 1) (ZaI aa (IntKind.i64.wrap (aa + 1)) xs))], 0⟩), (1, some ⟨true, [.rows Zab set_s set_a, .one (.slice ⟨0, 0, 0, 2⟩ xs_n xs_c), .rows Zab set_t set_b], 0⟩), (2, some ⟨true, [.i ac, .i ab], 0⟩), (3, some ⟨true, [.rows Zaa 1 [((ac, ab) : Tup Zaa)]], 0⟩)]⟩ (Heap.keep ⟨4, [(0, some ⟨true, [.rows Zaa xs_n (ZaI aa (IntKind.i64.wrap (aa + 1)) xs)], 0⟩), (1, some ⟨true, [.rows Zab set_s set_a, .one (.slice ⟨0, 0, 0, 2⟩ xs_n xs_c), .rows Zab set_t set_b], 0⟩), (2, some ⟨true, [.i ac, .i ab], 0⟩), (3, some ⟨true, [.rows Zaa 1 [((ac, ab) : Tup Zaa)]], 0⟩)]⟩ [2, 1]) (ZbD [2, 1] ⟨4, [(0, some ⟨true, [.rows Zaa xs_n (ZaI aa (IntKind.i64.wrap (aa + 1)) xs)], 0⟩), (1, some ⟨true, [.rows Zab set_s set_a, .one (.slice ⟨0, 0, 0, 2⟩ xs_n xs_c), .rows Zab set_t set_b], 0⟩), (2, some ⟨true, [.i ac, .i ab], 0⟩), (3, some ⟨true, [.rows Zaa 1 [((ac, ab) : Tup Zaa)]], 0⟩)]⟩))) /\ (((set_s : Nat) = set_s)) /\ Z [] ⟨4, [(0, some ⟨true, [.rows Zaa xs_n (List.take (xs_n - (Int.toNat (IntKind.i64.wrap (aa + 1)) - Int.toNat aa)) (ZaI aa (IntKind.i64.wrap (aa + 1)) xs) ++ (List.take 1 (List.drop 0 [((ac, ab) : Tup Zaa)])) ++ List.drop ((xs_n - (Int.toNat (IntKind.i64.wrap (aa + 1)) - Int.toNat aa)) + 1) (ZaI aa (IntKind.i64.wrap (aa + 1)) xs))], 0⟩), (1, some ⟨true, [.rows Zab set_s set_a, .one (.slice ⟨0, 0, 0, 2⟩ ((xs_n - (Int.toNat (IntKind.i64.wrap (aa + 1)) - Int.toNat aa)) + 1) xs_c), .rows Zab set_t set_b], 0⟩)]⟩) : EvTC Zpv ZiU [[], [], [], [1], [], [], [], [2], [], [], [], [], []] (Zy1 set_s aa) ⟨3, [(0, some ⟨true, [.rows Zaa xs_n xs], 0⟩), (1, some ⟨true, [.rows Zab set_s set_a, .one (.slice ⟨0, 0, 0, 2⟩ xs_n xs_c), .rows Zab set_t set_b], 0⟩), (2, some ⟨true, [.i ac, .i ab], 0⟩)]⟩ [] [0, 1] Z := EvTC.of (by kernel_rfl) h
abbrev ZzF (x0 : Nat) (x1 : Int) (x2 : List (Tup Zaa)) (x3 x4 : Int) (x5 : Nat) (x6 : List (Tup Zab)) (x7 x8 : Nat) (x9 : List (Tup Zab)) : Heap := ⟨4, [(0, some ⟨true, [.rows Zaa x0 (List.take (x0 - (Int.toNat (IntKind.i64.wrap (x1 + 1)) - Int.toNat x1)) (ZaI x1 (IntKind.i64.wrap (x1 + 1)) x2) ++ (List.take 1 (List.drop 0 [((x3, x4) : Tup Zaa)])) ++ List.drop ((x0 - (Int.toNat (IntKind.i64.wrap (x1 + 1)) - Int.toNat x1)) + 1) (ZaI x1 (IntKind.i64.wrap (x1 + 1)) x2))], 0⟩), (1, some ⟨true, [.rows Zab x5 x6, .one (.slice ⟨0, 0, 0, 2⟩ ((x0 - (Int.toNat (IntKind.i64.wrap (x1 + 1)) - Int.toNat x1)) + 1) x7), .rows Zab x8 x9], 0⟩)]⟩
theorem Zri (xs : List (Tup Zaa)) (xs_n xs_c set_s : Nat) (set_a : List (Tup Zab)) (set_t : Nat) (set_b : List (Tup Zab)) (aa ac ab : Int) : RetC Zgg [] (ZzF xs_n aa xs ac ab set_s set_a xs_c set_t set_b) (.tuple []) := RetC.of (fun Z => by kernel_rfl)
theorem Zrh (xs : List (Tup Zaa)) (xs_n xs_c set_s : Nat) (set_a : List (Tup Zab)) (set_t : Nat) (set_b : List (Tup Zab)) (aa ac ab : Int) : RetC Zgg [] (ZzF xs_n aa xs ac ab set_s set_a xs_c set_t set_b) (.tuple []) := RetC.of (fun Z => by kernel_rfl)
def ZnT (xs : List (Tup Zaa)) (xs_n xs_c set_s : Nat) (set_a : List (Tup Zab)) (set_t : Nat) (set_b : List (Tup Zab)) (aa ac ab : Int) : Prop := ((((List.length xs = xs_n /\ xs_n <= xs_c /\ xs_n <= 1000) /\ 0 <= aa /\ aa <= (IntKind.i64.wrap (aa + 1)) /\ (IntKind.i64.wrap (aa + 1)) <= (xs_n : Int))) /\ (((((xs_n - (Int.toNat (IntKind.i64.wrap (aa + 1)) - Int.toNat aa)) + 1) <= xs_n)) /\ (((((xs_n - (Int.toNat (IntKind.i64.wrap (aa + 1)) - Int.toNat aa)) + 1) <= xs_c)) /\ (((List.length (ZaI aa (IntKind.i64.wrap (aa + 1)) xs) = xs_n)) /\ (((List.take (xs_n - (Int.toNat (IntKind.i64.wrap (aa + 1)) - Int.toNat aa)) (ZaI aa (IntKind.i64.wrap (aa + 1)) xs) ++ (List.take 1 (List.drop 0 [((ac, ab) : Tup Zaa)])) ++ List.drop ((xs_n - (Int.toNat (IntKind.i64.wrap (aa + 1)) - Int.toNat aa)) + 1) (ZaI aa (IntKind.i64.wrap (aa + 1)) xs)) = (ZaW aa xs)) /\ (((xs_n - (Int.toNat (IntKind.i64.wrap (aa + 1)) - Int.toNat aa)) + 1) = xs_n)))))) /\ ((((List.length xs = xs_n /\ xs_n <= xs_c /\ xs_n <= 1000) /\ 0 <= aa /\ aa <= (IntKind.i64.wrap (aa + 1)) /\ (IntKind.i64.wrap (aa + 1)) <= (xs_n : Int))) /\ (((((xs_n - (Int.toNat (IntKind.i64.wrap (aa + 1)) - Int.toNat aa)) + 1) <= xs_n)) /\ (((((xs_n - (Int.toNat (IntKind.i64.wrap (aa + 1)) - Int.toNat aa)) + 1) <= xs_c)) /\ (((List.length (ZaI aa (IntKind.i64.wrap (aa + 1)) xs) = xs_n)) /\ (((List.take (xs_n - (Int.toNat (IntKind.i64.wrap (aa + 1)) - Int.toNat aa)) (ZaI aa (IntKind.i64.wrap (aa + 1)) xs) ++ (List.take 1 (List.drop 0 [((ac, ab) : Tup Zaa)])) ++ List.drop ((xs_n - (Int.toNat (IntKind.i64.wrap (aa + 1)) - Int.toNat aa)) + 1) (ZaI aa (IntKind.i64.wrap (aa + 1)) xs)) = (ZaW aa xs)) /\ (((xs_n - (Int.toNat (IntKind.i64.wrap (aa + 1)) - Int.toNat aa)) + 1) = xs_n))))))
theorem ZvN (xs : List (Tup Zaa)) (xs_n xs_c set_s : Nat) (set_a : List (Tup Zab)) (set_t : Nat) (set_b : List (Tup Zab)) (aa : Int) (hK : ZkN xs xs_n xs_c set_s set_a set_t set_b aa Kf) (ac ab : Int) (h : ZnT xs xs_n xs_c set_s set_a set_t set_b aa ac ab) : SemL Try.prog w0 fp ρi 2 23 [Zla] (Zy1 set_s aa) ⟨3, [(0, some ⟨true, [.rows Zaa xs_n xs], 0⟩), (1, some ⟨true, [.rows Zab set_s set_a, .one (.slice ⟨0, 0, 0, 2⟩ xs_n xs_c), .rows Zab set_t set_b], 0⟩), (2, some ⟨true, [.i ac, .i ab], 0⟩)]⟩ (fnK Zgg 2 Kf) :=
  ZsG Zo5 (t := ZiU) (ZtI xs xs_n xs_c set_s set_a set_t set_b aa ac ab _ ⟨rfl, ⟨⟨rfl, ⟨⟨rfl, h.1.1⟩, ⟨rfl, ⟨rfl, ⟨(ZbW (by kernel_rfl)), ⟨(ZbW (by kernel_rfl)), ⟨(by decide), ⟨rfl, ⟨h.1.2.1, ⟨h.1.2.2.1, ⟨h.1.2.2.2.1, ⟨(ZbW (by kernel_rfl)), ⟨rfl, (ZqG (R := Zgg) (m := 2) (Kf := Kf) (fun _ _ h => h) (Zri xs xs_n xs_c set_s set_a set_t set_b aa ac ab) (ZaO (Eq.mpr (cg2 (fun (z1 : List (Tup Zaa)) (z2 : Nat) => ZdI 2 Kf (.tuple []) ⟨4, [(0, some ⟨true, [.rows Zaa xs_n z1], 0⟩), (1, some ⟨true, [.rows Zab set_s set_a, .one (.slice ⟨0, 0, 0, 2⟩ z2 xs_c), .rows Zab set_t set_b], 0⟩)]⟩) h.1.2.2.2.2.1 h.1.2.2.2.2.2) (ZaF [] [0, 1] rfl (by kernel_rfl) rfl (Zdw Zdx) (hsc pcs (hsc (Zat (Zao bsl (Zat Zax))) Zan)) rfl (by kernel_rfl) (hK)))))⟩⟩⟩⟩⟩⟩⟩⟩⟩⟩⟩⟩⟩, ⟨(ZbW (by kernel_rfl)), ⟨rfl, ⟨⟨rfl, h.2.1⟩, ⟨rfl, ⟨rfl, ⟨(ZbW (by kernel_rfl)), ⟨(by decide), ⟨rfl, ⟨h.2.2.1, ⟨h.2.2.2.1, ⟨h.2.2.2.2.1, ⟨(ZbW (by kernel_rfl)), ⟨rfl, (ZqG (R := Zgg) (m := 2) (Kf := Kf) (fun _ _ h => h) (Zrh xs xs_n xs_c set_s set_a set_t set_b aa ac ab) (ZaO (Eq.mpr (cg2 (fun (z1 : List (Tup Zaa)) (z2 : Nat) => ZdI 2 Kf (.tuple []) ⟨4, [(0, some ⟨true, [.rows Zaa xs_n z1], 0⟩), (1, some ⟨true, [.rows Zab set_s set_a, .one (.slice ⟨0, 0, 0, 2⟩ z2 xs_c), .rows Zab set_t set_b], 0⟩)]⟩) h.2.2.2.2.2.1 h.2.2.2.2.2.2) (ZaF [] [0, 1] rfl (by kernel_rfl) rfl (Zdw Zdx) (hsc pcs (hsc (Zat (Zao bsl (Zat Zax))) Zan)) rfl (by kernel_rfl) (hK)))))⟩⟩⟩⟩⟩⟩⟩⟩⟩⟩⟩⟩⟩⟩⟩)
abbrev Zy0 (x0 : Nat) (x1 : Int) : Env := [(0, some (.ptr ⟨1, 0, x0, 1⟩ 1)), (1, some (.int .i64 x1))]
abbrev ZyZ (x0 : Nat) (x1 : List (Tup Zaa)) (x2 : Nat) (x3 : List (Tup Zab)) (x4 x5 : Nat) (x6 : List (Tup Zab)) : Heap := ⟨2, [(0, some ⟨true, [.rows Zaa x0 x1], 0⟩), (1, some ⟨true, [.rows Zab x2 x3, .one (.slice ⟨0, 0, 0, 2⟩ x0 x4), .rows Zab x5 x6], 0⟩)]⟩
theorem ZtH (xs : List (Tup Zaa)) (xs_n xs_c set_s : Nat) (set_a : List (Tup Zab)) (set_t : Nat) (set_b : List (Tup Zab)) (aa : Int) (Z : Env -> Heap -> Prop) (h : (((set_s : Nat) = set_s)) /\ ((0 <= aa)) /\ ((aa < ((xs_n : Nat) : Int))) /\ (((0 + (Int.toNat aa)) < xs_n)) /\ Z (Zy1 set_s aa) ⟨3, [(0, some ⟨true, [.rows Zaa xs_n xs], 0⟩), (1, some ⟨true, [.rows Zab set_s set_a, .one (.slice ⟨0, 0, 0, 2⟩ xs_n xs_c), .rows Zab set_t set_b], 0⟩), (2, some ⟨true, [.i (List.getD xs (0 + (Int.toNat aa)) (Tup.dflt Zaa)).1, .i (List.getD xs (0 + (Int.toNat aa)) (Tup.dflt Zaa)).2], 0⟩)]⟩) : EvC Zpv Zlb (Zy0 set_s aa) (ZyZ xs_n xs set_s set_a xs_c set_t set_b) [0, 1, 4] [0, 1, 2] Z := EvC.of (by kernel_rfl) h
def Zl7 (xs : List (Tup Zaa)) (xs_n xs_c set_s : Nat) (set_a : List (Tup Zab)) (set_t : Nat) (set_b : List (Tup Zab)) (aa : Int) : Prop := ((0 <= aa)) /\ (((aa < ((xs_n : Nat) : Int))) /\ ((((0 + (Int.toNat aa)) < xs_n)) /\ (∀ ac : Int, ac = (List.getD xs (0 + (Int.toNat aa)) (Tup.dflt Zaa)).1 -> ∀ ab : Int, ab = (List.getD xs (0 + (Int.toNat aa)) (Tup.dflt Zaa)).2 -> ZnT xs xs_n xs_c set_s set_a set_t set_b aa ac ab)))
theorem ZvM (xs : List (Tup Zaa)) (xs_n xs_c set_s : Nat) (set_a : List (Tup Zab)) (set_t : Nat) (set_b : List (Tup Zab)) (aa : Int) (hK : ZkN xs xs_n xs_c set_s set_a set_t set_b aa Kf) (h : Zl7 xs xs_n xs_c set_s set_a set_t set_b aa) : SemL Try.prog w0 fp ρi 2 23 [Zlb, Zla] (Zy0 set_s aa) (ZyZ xs_n xs set_s set_a xs_c set_t set_b) (fnK Zgg 2 Kf) :=
  Zap Zo5 (ZtH xs xs_n xs_c set_s set_a set_t set_b aa _ ⟨rfl, ⟨h.1, ⟨h.2.1, ⟨h.2.2.1, (ZvN xs xs_n xs_c set_s set_a set_t set_b aa hK (List.getD xs (0 + (Int.toNat aa)) (Tup.dflt Zaa)).1 (List.getD xs (0 + (Int.toNat aa)) (Tup.dflt Zaa)).2 ((h.2.2.2 (List.getD xs (0 + (Int.toNat aa)) (Tup.dflt Zaa)).1 rfl) (List.getD xs (0 + (Int.toNat aa)) (Tup.dflt Zaa)).2 rfl))⟩⟩⟩⟩)
theorem ZsW (xs : List (Tup Zaa)) (xs_n xs_c set_s : Nat) (set_a : List (Tup Zab)) (set_t : Nat) (set_b : List (Tup Zab)) (aa : Int) (hK : ZkN xs xs_n xs_c set_s set_a set_t set_b aa Kf) (h : Zl7 xs xs_n xs_c set_s set_a set_t set_b aa) : SemL Try.prog w0 fp ρi 2 23 [ZqA] (Zy0 set_s aa) (ZyZ xs_n xs set_s set_a xs_c set_t set_b) (fnK Zgg 2 Kf) :=
  (Zav (ZvM xs xs_n xs_c set_s set_a set_t set_b aa hK h))
end
theorem Zsg (xs : List (Tup Zaa)) (xs_n xs_c set_s : Nat) (set_a : List (Tup Zab)) (set_t : Nat) (set_b : List (Tup Zab)) (aa : Int) (hpre : ((List.length xs = xs_n /\ xs_n <= xs_c /\ xs_n <= 1000) /\ 0 <= aa /\ aa < (xs_n : Int))) : Zl7 xs xs_n xs_c set_s set_a set_t set_b aa := by
  unfold Zl7 ZnT
  obtain ⟨⟨hl, hc, hm⟩, h1, h2⟩ := hpre
  refine ⟨h1, h2, by omega, ?_⟩
  rintro _ rfl _ rfl
  have e1 : IntKind.i64.wrap (aa + 1) = aa + 1 := by rw [ZqN]; omega
  rw [e1, Nat.zero_add, show xs_n - ((aa + 1).toNat - aa.toNat) = xs_n - 1 by omega, show xs_n - 1 + 1 = xs_n by omega]
  have key := ZoJ hl h1 h2
  have hd : (ZaI aa (aa + 1) xs).length = xs_n := by rw [Zdo h1 (by omega) (by omega), hl]
  exact ⟨⟨⟨⟨hl, hc, hm⟩, h1, by omega, by omega⟩, by omega, hc, hd, key, rfl⟩, ⟨⟨hl, hc, hm⟩, h1, by omega, by omega⟩, by omega, hc, hd, key, rfl⟩
theorem Zqk : Sound Try.prog 52 (gS Zpy) := by
  refine ZaZ ZlD ?_
  intro args H K h
  obtain ⟨pre, out, hD, hpre, hK⟩ := ZcN h
  unfold Zpy at hD
  split at hD
  · cases hD
    obtain ⟨rfl, rfl, hpre⟩ := hpre
    exact ⟨rfl, fun w0 fp ρi => ZsW _ _ _ _ _ _ _ _ hK (Zsg _ _ _ _ _ _ _ _ hpre)⟩
  · cases hD
end Go.Proofs.Ytinjdimejijabaa
