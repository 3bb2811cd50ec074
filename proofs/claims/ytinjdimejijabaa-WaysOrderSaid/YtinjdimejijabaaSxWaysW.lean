/- Part of the proof: SxWaysW. -/
import Derived.Test.YtinjdimejijabaaSxProgC
import Derived.Test.YtinjdimejijabaaSxWays
import Derived.Test.YtinjdimejijabaaSxMixT
import Derived.KernelRfl
set_option linter.unusedVariables false
set_option linter.unusedSimpArgs false
set_option maxRecDepth 20000
namespace Go.Proofs.Ytinjdimejijabaa
open Go.Sx
def Zm1 : Zd4 := fun args H => match args, H with
  | [.agg [.one (.int .i64 sk), .one (.int .i64 sv)], .ptr ⟨0, 0, 0, 1⟩ 1], ⟨1, [(0, some ⟨false, [.one (.int .i64 k)], 0⟩)]⟩ => some (True, fun K => K (.bool (sk == k)) ⟨1, [(0, some ⟨false, [.i k], 0⟩)]⟩)
  | _, _ => none
def Zq1 : Con := ⟨70, gS Zm1, [], [], []⟩
def Zjl (sk sv k : Int) (Kf : SVal -> Heap -> Prop) : Prop := Kf (.bool (sk == k)) ⟨1, [(0, some ⟨false, [.i k], 0⟩)]⟩
def Zl8 : ACode := .reg (.op (some 2) (.box (.tm 0)) (.op (some 3) (.mov (.cn (.bool false))) .nil))
def ZjB : ACode := .reg (.op (some 4) (.fieldAddr (.tm 2) 0 1) (.op (some 5) (.load1 (.tm 4)) (.op (some 6) (.load1 (.tm 1)) (.op (some 7) (.bin .eql (.tm 5) (.tm 6)) (.op (some 3) (.mov (.tm 7)) .nil)))))
def ZqZ : ACode := (.seq Zl8 (.seq ZjB .ret))
def Zgi : Res := .one (.tm 3)
theorem Zk1 : ZbX Try.prog 70 2 8 ZqZ Zgi = true := by kernel_rfl
def ZmZ : ZaC := Zdz [] []
theorem ZnN : ZaT Try.prog ZmZ := Zba trivial trivial
section
variable {w0 : World} {fp : Nat -> Nat -> Prop} {ρi : Rho} {Kf : SVal -> Heap -> Prop}
abbrev Ya0 : Env := [(1, some (.ptr ⟨0, 0, 0, 1⟩ 1)), (2, some (.ptr ⟨1, 0, 0, 1⟩ 2))]
abbrev Ya1 (x0 x1 x2 : Int) : Heap := ⟨2, [(0, some ⟨false, [.i x0], 0⟩), (1, some ⟨true, [.i x1, .i x2], 0⟩)]⟩
theorem ZvG (sk sv k : Int) (Z : Env -> Heap -> Prop) (h : Z [(3, some (.bool (sk == k)))] ⟨2, [(0, some ⟨false, [.i k], 0⟩)]⟩) : EvC ZmZ ZjB Ya0 (Ya1 k sk sv) [3] [0] Z := EvC.of (by kernel_rfl) h
theorem Zte (sk sv k : Int) : RetC Zgi [(3, some (.bool (sk == k)))] ⟨2, [(0, some ⟨false, [.i k], 0⟩)]⟩ (.bool (sk == k)) := RetC.of (fun Z => by kernel_rfl)
def Zkn (sk sv k : Int) : Prop := True
theorem ZxK (sk sv k : Int) (hK : Zjl sk sv k Kf) (h : Zkn sk sv k) : SemL Try.prog w0 fp ρi 1 8 [ZjB, .ret] Ya0 (Ya1 k sk sv) (fnK Zgi 1 Kf) :=
  Zan ZnN (ZvG sk sv k _ (ZaX (R := Zgi) (m := 1) (Kf := Kf) (fun _ _ h => h) (Zte sk sv k) (ZaM (ZaE [] [0] rfl (by kernel_rfl) rfl pbd (hsc pcs Zak) rfl (by kernel_rfl) (hK)))))
abbrev Ya2 (x0 x1 : Int) : Env := [(0, some (.agg [.i x0, .i x1])), (1, some (.ptr ⟨0, 0, 0, 1⟩ 1))]
abbrev Ya3 (x0 : Int) : Heap := ⟨1, [(0, some ⟨false, [.i x0], 0⟩)]⟩
theorem ZvF (sk sv k : Int) (Z : Env -> Heap -> Prop) (h : Z Ya0 (Ya1 k sk sv)) : EvC ZmZ Zl8 (Ya2 sk sv) (Ya3 k) [1, 2] [0, 1] Z := EvC.of (by kernel_rfl) h
theorem ZxJ (sk sv k : Int) (hK : Zjl sk sv k Kf) (h : Zkn sk sv k) : SemL Try.prog w0 fp ρi 1 8 [Zl8, (.seq ZjB .ret)] (Ya2 sk sv) (Ya3 k) (fnK Zgi 1 Kf) :=
  Zan ZnN (ZvF sk sv k _ (Zar (ZxK sk sv k hK h)))
theorem ZsD (sk sv k : Int) (hK : Zjl sk sv k Kf) (h : Zkn sk sv k) : SemL Try.prog w0 fp ρi 1 8 [ZqZ] (Ya2 sk sv) (Ya3 k) (fnK Zgi 1 Kf) :=
  (Zar (ZxJ sk sv k hK h))
end
theorem ZrH (sk sv k : Int) (hpre : True) : Zkn sk sv k := by
  unfold Zkn
  trivial
theorem ZsQ : Sound Try.prog 70 (gS Zm1) := by
  refine Za2 Zk1 ?_
  intro args H K h
  obtain ⟨pre, out, hD, hpre, hK⟩ := Zct h
  unfold Zm1 at hD
  split at hD
  · cases hD
    exact ⟨rfl, fun w0 fp ρi => ZsD _ _ _ hK (ZrH _ _ _ hpre)⟩
  · cases hD
def ZuU : Zd4 := fun args H => match args, H with
  | [.slice ⟨0, 0, 0, 2⟩ xs_n xs_c, .fn (.func 70) [] [.ptr ⟨1, 0, 0, 1⟩ 1]], ⟨2, [(0, some ⟨false, [.rows [.int .i64, .int .i64] xs_m xs], 0⟩), (1, some ⟨false, [.one (.int .i64 k)], 0⟩)]⟩ => some (xs_m = xs_n /\ (List.length xs = xs_n /\ xs_n <= xs_c /\ xs_n <= 1000), fun K => K (.int .i64 (idxK k xs)) ⟨2, [(0, some ⟨false, [.rows Zaa xs_n xs], 0⟩), (1, some ⟨false, [.i k], 0⟩)]⟩)
  | _, _ => none
def ZuK : Con := ⟨69, gS ZuU, [], [], []⟩
def Zc5 (xs : List (Tup Zaa)) (xs_n xs_c : Nat) (k : Int) (Kf : SVal -> Heap -> Prop) : Prop := Kf (.int .i64 (idxK k xs)) ⟨2, [(0, some ⟨false, [.rows Zaa xs_n xs], 0⟩), (1, some ⟨false, [.i k], 0⟩)]⟩
def Zmd : ACode := .reg (.op (some 4) (.mov (.cn (.int .i64 0))) .nil)
def ZjF : ACode := .reg (.op (some 6) (.mov (.tm 0)) (.op (some 7) (.len (.tm 6)) (.op (some 8) (.mov (.cn (.int .i64 0))) .nil)))
def Zmc : ACode := .reg (.op (some 9) (.bin .lss (.tm 8) (.tm 7)) .nil)
def Zmb : ACode := .cond (.tm 9) .skip (.exit 0)
def Zma : ACode := .reg (.op (some 10) (.mov (.tm 8)) (.op (some 5) (.mov (.tm 10)) .nil))
def ZjE : ACode := .reg (.op (some 11) (.mov (.tm 1)) (.op (some 12) (.mov (.tm 0)) (.op (some 13) (.mov (.tm 5)) (.op (some 14) (.idxS (.tm 12) (.tm 13) 2) (.op (some 15) (.loadA 2 (.tm 14)) (.op (some 16) (.callV 70 (.tm 11) [(.tm 15)]) .nil))))))
def Zl9 : ACode := .reg (.op (some 17) (.mov (.tm 5)) (.op (some 4) (.mov (.tm 17)) .nil))
def ZjD : ACode := .cond (.tm 16) (.seq Zl9 .ret) .skip
def ZjC : ACode := .block 1 (.seq Zma (.seq ZjE ZjD))
def Zfc : ACode := .reg (.op (some 18) (.bin .add (.tm 8) (.cn (.int .i64 1))) (.op (some 8) (.mov (.tm 18)) .nil))
def Zn0 : ACode := .loop (.seq Zmc (.seq Zmb (.seq ZjC Zfc)))
def Zg1 : ACode := .block 0 Zn0
def ZdQ : ACode := .reg (.op (some 4) (.mov (.cn (.int .i64 (-1)))) .nil)
def ZzO : ACode := (.seq Zmd (.seq (.seq ZjF Zg1) (.seq ZdQ .ret)))
def ZgQ : Res := .one (.tm 4)
theorem ZoJ : ZbX Try.prog 69 2 19 ZzO ZgQ = true := by kernel_rfl
def Zkf : ZaC := Zdz [] [Zq1]
theorem ZgG : ZaT Try.prog Zkf := Zba trivial ⟨ZsQ, trivial⟩
section
variable {w0 : World} {fp : Nat -> Nat -> Prop} {ρi : Rho} {Kf : SVal -> Heap -> Prop}
def Zqr (w0 : World) (fp : Nat -> Nat -> Prop) (ρi : Rho) (Kf : SVal -> Heap -> Prop) (xs : List (Tup Zaa)) (xs_n xs_c : Nat) (k : Int) : Zdh := Zb1 0 (fun e H => SemL Try.prog w0 fp ρi 2 19 [(.seq ZdQ .ret)] e H (fnK ZgQ 2 Kf)) (fnK ZgQ 2 Kf)
def Zqy (xs : List (Tup Zaa)) (xs_n xs_c : Nat) (k v7 : Int) : Int -> Prop := fun s => match s with | v8 => 0 <= v8 /\ v8 <= (xs_n : Int) /\ (List.take (Int.toNat v8) xs).any (ZgZ k) = false
def Zqa (xs : List (Tup Zaa)) (xs_n xs_c : Nat) (k v7 : Int) : Int -> Nat := fun s => match s with | v8 => (((xs_n : Int) - v8).toNat)
def Zql (xs : List (Tup Zaa)) (xs_n xs_c : Nat) (k v7 : Int) : Int -> Env := fun s => match s with | v8 => [(0, some (.slice ⟨0, 0, 0, 2⟩ xs_n xs_c)), (1, some (.fn (.func 70) [] [.ptr ⟨1, 0, 0, 1⟩ 1])), (7, some (.int .i64 v7)), (8, some (.int .i64 v8))]
def Zqg (xs : List (Tup Zaa)) (xs_n xs_c : Nat) (k v7 : Int) : Int -> Heap := fun s => match s with | v8 => ⟨2, [(0, some ⟨false, [.rows Zaa xs_n xs], 0⟩), (1, some ⟨false, [.i k], 0⟩)]⟩
def Zf7 (w0 : World) (fp : Nat -> Nat -> Prop) (ρi : Rho) (Kf : SVal -> Heap -> Prop) (xs : List (Tup Zaa)) (xs_n xs_c : Nat) (k v7 v8 : Int) : Zdh := Zje 2 (Zqy xs xs_n xs_c k v7) (Zqa xs xs_n xs_c k v7) (Zql xs xs_n xs_c k v7) (Zqg xs xs_n xs_c k v7) v8 (Zqr w0 fp ρi Kf xs xs_n xs_c k)
def Zjg (w0 : World) (fp : Nat -> Nat -> Prop) (ρi : Rho) (Kf : SVal -> Heap -> Prop) (xs : List (Tup Zaa)) (xs_n xs_c : Nat) (k v7 v8 : Int) : Zdh := Zb1 1 (fun e H => SemL Try.prog w0 fp ρi 2 19 [Zfc] e H (Zf7 w0 fp ρi Kf xs xs_n xs_c k v7 v8)) (Zf7 w0 fp ρi Kf xs xs_n xs_c k v7 v8)
abbrev Ya4 (x0 : Nat) (x1 : List (Tup Zaa)) (x2 : Int) : Heap := ⟨2, [(0, some ⟨false, [.rows Zaa x0 x1], 0⟩), (1, some ⟨false, [.i x2], 0⟩)]⟩
theorem ZvM (xs : List (Tup Zaa)) (xs_n xs_c : Nat) (k v8 v7 : Int) (Z : Env -> Heap -> Prop) (h : Z [(4, some (.int .i64 v8))] (Ya4 xs_n xs k)) : EvC Zkf Zl9 [(5, some (.int .i64 v8))] (Ya4 xs_n xs k) [4] [0, 1] Z := EvC.of (by kernel_rfl) h
theorem Ztg (xs : List (Tup Zaa)) (xs_n xs_c : Nat) (k v8 : Int) : RetC ZgQ [(4, some (.int .i64 v8))] (Ya4 xs_n xs k) (.int .i64 v8) := RetC.of (fun Z => by kernel_rfl)
def Zo8 (xs : List (Tup Zaa)) (xs_n xs_c : Nat) (k v8 v7 : Int) : Prop := v8 = (idxK k xs)
theorem ZxU (xs : List (Tup Zaa)) (xs_n xs_c : Nat) (k : Int) (hK : Zc5 xs xs_n xs_c k Kf) (v8 v7 : Int) (h : Zo8 xs xs_n xs_c k v8 v7) : SemL Try.prog w0 fp ρi 2 19 [Zl9, .ret] [(5, some (.int .i64 v8))] (Ya4 xs_n xs k) (Zjg w0 fp ρi Kf xs xs_n xs_c k v7 v8) :=
  Zan ZgG (ZvM xs xs_n xs_c k v8 v7 _ (ZaX (R := ZgQ) (m := 2) (Kf := Kf) (fun _ _ h => h) (Ztg xs xs_n xs_c k v8) (ZaM (Eq.mpr (cg1 (fun (z1 : Int) => Zd2 2 Kf (.int .i64 z1) (Ya4 xs_n xs k)) h) (ZaE [] [0, 1] rfl (by kernel_rfl) rfl pbd (hsc pcs (hsc pcs Zak)) rfl (by kernel_rfl) (hK))))))
abbrev Ya5 (x0 x1 : Nat) (x2 x3 : Int) : Env := [(0, some (.slice ⟨0, 0, 0, 2⟩ x0 x1)), (1, some (.fn (.func 70) [] [.ptr ⟨1, 0, 0, 1⟩ 1])), (7, some (.int .i64 x2)), (8, some (.int .i64 x3))]
theorem ZvL (xs : List (Tup Zaa)) (xs_n xs_c : Nat) (k v7 v8 : Int) (Z : Env -> Heap -> Prop) (h : Z [(0, some (.slice ⟨0, 0, 0, 2⟩ xs_n xs_c)), (1, some (.fn (.func 70) [] [.ptr ⟨1, 0, 0, 1⟩ 1])), (7, some (.int .i64 v7)), (8, some (.int .i64 (IntKind.i64.wrap (v8 + 1))))] (Ya4 xs_n xs k)) : EvC Zkf Zfc (Ya5 xs_n xs_c v7 v8) (Ya4 xs_n xs k) [0, 1, 7, 8] [0, 1] Z := EvC.of (by kernel_rfl) h
def Zo7 (xs : List (Tup Zaa)) (xs_n xs_c : Nat) (k v7 v8 : Int) : Prop := (0 <= (IntKind.i64.wrap (v8 + 1)) /\ (IntKind.i64.wrap (v8 + 1)) <= (xs_n : Int) /\ (List.take (Int.toNat (IntKind.i64.wrap (v8 + 1))) xs).any (ZgZ k) = false) /\ ((((xs_n : Int) - (IntKind.i64.wrap (v8 + 1))).toNat) < (((xs_n : Int) - v8).toNat))
theorem ZxT (xs : List (Tup Zaa)) (xs_n xs_c : Nat) (k : Int) (hK : Zc5 xs xs_n xs_c k Kf) (v7 v8 : Int) (h : Zo7 xs xs_n xs_c k v7 v8) : SemL Try.prog w0 fp ρi 2 19 [Zfc] (Ya5 xs_n xs_c v7 v8) (Ya4 xs_n xs k) (Zf7 w0 fp ρi Kf xs xs_n xs_c k v7 v8) :=
  Zan ZgG (ZvL xs xs_n xs_c k v7 v8 _ (ZcV (ZcI (x' := (IntKind.i64.wrap (v8 + 1))) (τ := tau []) h.1 h.2 (Zbk [] [0, 1] rfl rfl (esc bsl (esc (ZzT (ZbG bpt Zd1)) (esc pbd (esc pbd ZaZ)))) (hsc pcs (hsc pcs Zak)) (by kernel_rfl) rfl))))
def Zo6 (xs : List (Tup Zaa)) (xs_n xs_c : Nat) (k v8 v7 : Int) : Prop := (((List.getD xs (0 + (Int.toNat v8)) (Tup.dflt Zaa)).1 == k) = true -> (Zo8 xs xs_n xs_c k v8 v7)) /\ (((List.getD xs (0 + (Int.toNat v8)) (Tup.dflt Zaa)).1 == k) = false -> (Zo7 xs xs_n xs_c k v7 v8))
abbrev Ya6 (x0 x1 : Nat) (x2 x3 : Int) (x4 : List (Tup Zaa)) (x5 : Int) : Env := [(0, some (.slice ⟨0, 0, 0, 2⟩ x0 x1)), (1, some (.fn (.func 70) [] [.ptr ⟨1, 0, 0, 1⟩ 1])), (5, some (.int .i64 x2)), (7, some (.int .i64 x3)), (8, some (.int .i64 x2)), (16, some (.bool ((List.getD x4 (0 + (Int.toNat x2)) (Tup.dflt Zaa)).1 == x5)))]
theorem ZxS (xs : List (Tup Zaa)) (xs_n xs_c : Nat) (k : Int) (hK : Zc5 xs xs_n xs_c k Kf) (v8 v7 : Int) (h : Zo6 xs xs_n xs_c k v8 v7) : SemL Try.prog w0 fp ρi 2 19 [ZjD] (Ya6 xs_n xs_c v8 v7 xs k) (Ya4 xs_n xs k) (Zjg w0 fp ρi Kf xs xs_n xs_c k v7 v8) :=
  Za8 (q := ((List.getD xs (0 + (Int.toNat v8)) (Tup.dflt Zaa)).1 == k)) (by kernel_rfl) (fun hq => (Zar (lpk [5] [0, 1] (ZxU xs xs_n xs_c k hK v8 v7 (h.1 hq))))) (fun hq => (ZbD (ZcV (lpk [0, 1, 7, 8] [0, 1] (ZxT xs xs_n xs_c k hK v7 v8 (h.2 hq))))))
abbrev Ya7 (x0 x1 : Nat) (x2 x3 : Int) : Env := [(0, some (.slice ⟨0, 0, 0, 2⟩ x0 x1)), (1, some (.fn (.func 70) [] [.ptr ⟨1, 0, 0, 1⟩ 1])), (5, some (.int .i64 x2)), (7, some (.int .i64 x3)), (8, some (.int .i64 x2))]
theorem ZvK (xs : List (Tup Zaa)) (xs_n xs_c : Nat) (k v8 v7 : Int) (Z : Env -> Heap -> Prop) (h : ((0 <= v8)) /\ ((v8 < ((xs_n : Nat) : Int))) /\ (((0 + (Int.toNat v8)) < xs_n)) /\ (True) /\ Z (Ya6 xs_n xs_c v8 v7 xs k) (Ya4 xs_n xs k)) : EvC Zkf ZjE (Ya7 xs_n xs_c v8 v7) (Ya4 xs_n xs k) [0, 1, 5, 7, 8, 16] [0, 1] Z := EvC.of (by kernel_rfl) h
def Zo5 (xs : List (Tup Zaa)) (xs_n xs_c : Nat) (k v8 v7 : Int) : Prop := ((0 <= v8)) /\ (((v8 < ((xs_n : Nat) : Int))) /\ ((((0 + (Int.toNat v8)) < xs_n)) /\ (Zo6 xs xs_n xs_c k v8 v7)))
theorem ZxR (xs : List (Tup Zaa)) (xs_n xs_c : Nat) (k : Int) (hK : Zc5 xs xs_n xs_c k Kf) (v8 v7 : Int) (h : Zo5 xs xs_n xs_c k v8 v7) : SemL Try.prog w0 fp ρi 2 19 [ZjE, ZjD] (Ya7 xs_n xs_c v8 v7) (Ya4 xs_n xs k) (Zjg w0 fp ρi Kf xs xs_n xs_c k v7 v8) :=
  Zan ZgG (ZvK xs xs_n xs_c k v8 v7 _ ⟨h.1, ⟨h.2.1, ⟨h.2.2.1, ⟨True.intro, (ZxS xs xs_n xs_c k hK v8 v7 h.2.2.2)⟩⟩⟩⟩)
theorem ZvJ (xs : List (Tup Zaa)) (xs_n xs_c : Nat) (k v7 v8 : Int) (Z : Env -> Heap -> Prop) (h : Z (Ya7 xs_n xs_c v8 v7) (Ya4 xs_n xs k)) : EvC Zkf Zma (Ya5 xs_n xs_c v7 v8) (Ya4 xs_n xs k) [0, 1, 5, 7, 8] [0, 1] Z := EvC.of (by kernel_rfl) h
def Zni (xs : List (Tup Zaa)) (xs_n xs_c : Nat) (k v7 v8 : Int) : Prop := Zo5 xs xs_n xs_c k v8 v7
theorem ZxQ (xs : List (Tup Zaa)) (xs_n xs_c : Nat) (k : Int) (hK : Zc5 xs xs_n xs_c k Kf) (v7 v8 : Int) (h : Zni xs xs_n xs_c k v7 v8) : SemL Try.prog w0 fp ρi 2 19 [Zma, (.seq ZjE ZjD)] (Ya5 xs_n xs_c v7 v8) (Ya4 xs_n xs k) (Zjg w0 fp ρi Kf xs xs_n xs_c k v7 v8) :=
  Zan ZgG (ZvJ xs xs_n xs_c k v7 v8 _ (Zar (ZxR xs xs_n xs_c k hK v8 v7 h)))
theorem ZxP (xs : List (Tup Zaa)) (xs_n xs_c : Nat) (k : Int) (hK : Zc5 xs xs_n xs_c k Kf) (v7 v8 : Int) (h : Zni xs xs_n xs_c k v7 v8) : SemL Try.prog w0 fp ρi 2 19 [ZjC, Zfc] (Ya5 xs_n xs_c v7 v8) (Ya4 xs_n xs k) (Zf7 w0 fp ρi Kf xs xs_n xs_c k v7 v8) :=
  Zbx (Zar (ZxQ xs xs_n xs_c k hK v7 v8 h))
theorem ZvI (xs : List (Tup Zaa)) (xs_n xs_c : Nat) (k : Int) (Z : Env -> Heap -> Prop) (h : Z [(4, some (.int .i64 (-1)))] (Ya4 xs_n xs k)) : EvC Zkf ZdQ [] (Ya4 xs_n xs k) [4] [0, 1] Z := EvC.of (by kernel_rfl) h
theorem Ztf (xs : List (Tup Zaa)) (xs_n xs_c : Nat) (k : Int) : RetC ZgQ [(4, some (.int .i64 (-1)))] (Ya4 xs_n xs k) (.int .i64 (-1)) := RetC.of (fun Z => by kernel_rfl)
def Zo4 (xs : List (Tup Zaa)) (xs_n xs_c : Nat) (k : Int) : Prop := (-1) = (idxK k xs)
theorem ZxO (xs : List (Tup Zaa)) (xs_n xs_c : Nat) (k : Int) (hK : Zc5 xs xs_n xs_c k Kf) (h : Zo4 xs xs_n xs_c k) : SemL Try.prog w0 fp ρi 2 19 [ZdQ, .ret] [] (Ya4 xs_n xs k) (fnK ZgQ 2 Kf) :=
  Zan ZgG (ZvI xs xs_n xs_c k _ (ZaX (R := ZgQ) (m := 2) (Kf := Kf) (fun _ _ h => h) (Ztf xs xs_n xs_c k) (ZaM (Eq.mpr (cg1 (fun (z1 : Int) => Zd2 2 Kf (.int .i64 z1) (Ya4 xs_n xs k)) h) (ZaE [] [0, 1] rfl (by kernel_rfl) rfl pbd (hsc pcs (hsc pcs Zak)) rfl (by kernel_rfl) (hK))))))
def Znh (xs : List (Tup Zaa)) (xs_n xs_c : Nat) (k v7 v8 : Int) : Prop := ((decide (v8 < v7)) = true -> (Zni xs xs_n xs_c k v7 v8)) /\ ((decide (v8 < v7)) = false -> (Zo4 xs xs_n xs_c k))
abbrev Ya8 (x0 x1 : Nat) (x2 x3 : Int) : Env := [(0, some (.slice ⟨0, 0, 0, 2⟩ x0 x1)), (1, some (.fn (.func 70) [] [.ptr ⟨1, 0, 0, 1⟩ 1])), (7, some (.int .i64 x2)), (8, some (.int .i64 x3)), (9, some (.bool (decide (x3 < x2))))]
theorem ZxN (xs : List (Tup Zaa)) (xs_n xs_c : Nat) (k : Int) (hK : Zc5 xs xs_n xs_c k Kf) (v7 v8 : Int) (h : Znh xs xs_n xs_c k v7 v8) : SemL Try.prog w0 fp ρi 2 19 [Zmb, (.seq ZjC Zfc)] (Ya8 xs_n xs_c v7 v8) (Ya4 xs_n xs k) (Zf7 w0 fp ρi Kf xs xs_n xs_c k v7 v8) :=
  Za8 (q := (decide (v8 < v7))) (by kernel_rfl) (fun hq => (ZbD (lpk [0, 1, 7, 8] [0, 1] (Zar (ZxP xs xs_n xs_c k hK v7 v8 (h.1 hq)))))) (fun hq => (Zia (lpk [] [0, 1] (Zar (ZxO xs xs_n xs_c k hK (h.2 hq))))))
theorem ZvH (xs : List (Tup Zaa)) (xs_n xs_c : Nat) (k v7 v8 : Int) (Z : Env -> Heap -> Prop) (h : Z (Ya8 xs_n xs_c v7 v8) (Ya4 xs_n xs k)) : EvC Zkf Zmc (Ya5 xs_n xs_c v7 v8) (Ya4 xs_n xs k) [0, 1, 7, 8, 9] [0, 1] Z := EvC.of (by kernel_rfl) h
theorem ZxM (xs : List (Tup Zaa)) (xs_n xs_c : Nat) (k : Int) (hK : Zc5 xs xs_n xs_c k Kf) (v7 v8 : Int) (h : Znh xs xs_n xs_c k v7 v8) : SemL Try.prog w0 fp ρi 2 19 [Zmc, (.seq Zmb (.seq ZjC Zfc))] (Ya5 xs_n xs_c v7 v8) (Ya4 xs_n xs k) (Zf7 w0 fp ρi Kf xs xs_n xs_c k v7 v8) :=
  Zan ZgG (ZvH xs xs_n xs_c k v7 v8 _ (Zar (ZxN xs xs_n xs_c k hK v7 v8 h)))
def Zng (xs : List (Tup Zaa)) (xs_n xs_c : Nat) (k v7 : Int) : Prop := (0 <= (0 : Int) /\ (0 : Int) <= (xs_n : Int) /\ (List.take (Int.toNat (0 : Int)) xs).any (ZgZ k) = false) /\ (∀ (v8 : Int), (0 <= v8 /\ v8 <= (xs_n : Int) /\ (List.take (Int.toNat v8) xs).any (ZgZ k) = false) -> (Znh xs xs_n xs_c k v7 v8))
abbrev Ya9 (x0 x1 : Nat) (x2 : Int) : Env := [(0, some (.slice ⟨0, 0, 0, 2⟩ x0 x1)), (1, some (.fn (.func 70) [] [.ptr ⟨1, 0, 0, 1⟩ 1])), (7, some (.int .i64 x2)), (8, some (.int .i64 0))]
theorem ZxL (xs : List (Tup Zaa)) (xs_n xs_c : Nat) (k : Int) (hK : Zc5 xs xs_n xs_c k Kf) (v7 : Int) (h : Zng xs xs_n xs_c k v7) : SemL Try.prog w0 fp ρi 2 19 [Zn0] (Ya9 xs_n xs_c v7) (Ya4 xs_n xs k) (Zqr w0 fp ρi Kf xs xs_n xs_c k) :=
  Zh9 (Zqy xs xs_n xs_c k v7) (Zqa xs xs_n xs_c k v7) (Zql xs xs_n xs_c k v7) (Zqg xs xs_n xs_c k v7) ⟨0, tau [], h.1, (Zbk [] [0, 1] rfl rfl (esc bsl (esc (ZzT (ZbG bpt Zd1)) (esc pbd (esc pbd ZaZ)))) (hsc pcs (hsc pcs Zak)) (by kernel_rfl) rfl)⟩ (fun s => match s with | v8 => fun hi => (Zar (ZxM xs xs_n xs_c k hK v7 v8 (h.2 v8 hi))))
theorem ZtT (xs : List (Tup Zaa)) (xs_n xs_c : Nat) (k : Int) (hK : Zc5 xs xs_n xs_c k Kf) (v7 : Int) (h : Zng xs xs_n xs_c k v7) : SemL Try.prog w0 fp ρi 2 19 [Zg1, (.seq ZdQ .ret)] (Ya9 xs_n xs_c v7) (Ya4 xs_n xs k) (fnK ZgQ 2 Kf) :=
  Zbx (ZxL xs xs_n xs_c k hK v7 h)
abbrev Zu6 (x0 x1 : Nat) : Env := [(0, some (.slice ⟨0, 0, 0, 2⟩ x0 x1)), (1, some (.fn (.func 70) [] [.ptr ⟨1, 0, 0, 1⟩ 1]))]
theorem ZsV (xs : List (Tup Zaa)) (xs_n xs_c : Nat) (k : Int) (Z : Env -> Heap -> Prop) (h : Z [(0, some (.slice ⟨0, 0, 0, 2⟩ xs_n xs_c)), (1, some (.fn (.func 70) [] [.ptr ⟨1, 0, 0, 1⟩ 1])), (7, some (.int .i64 ((xs_n : Nat) : Int))), (8, some (.int .i64 0))] (Ya4 xs_n xs k)) : EvC Zkf ZjF (Zu6 xs_n xs_c) (Ya4 xs_n xs k) [0, 1, 7, 8] [0, 1] Z := EvC.of (by kernel_rfl) h
def Zhe (xs : List (Tup Zaa)) (xs_n xs_c : Nat) (k : Int) : Prop := ∀ v7 : Int, v7 = ((xs_n : Nat) : Int) -> Zng xs xs_n xs_c k v7
theorem ZtS (xs : List (Tup Zaa)) (xs_n xs_c : Nat) (k : Int) (hK : Zc5 xs xs_n xs_c k Kf) (h : Zhe xs xs_n xs_c k) : SemL Try.prog w0 fp ρi 2 19 [ZjF, Zg1, (.seq ZdQ .ret)] (Zu6 xs_n xs_c) (Ya4 xs_n xs k) (fnK ZgQ 2 Kf) :=
  Zan ZgG (ZsV xs xs_n xs_c k _ (ZtT xs xs_n xs_c k hK ((xs_n : Nat) : Int) (h ((xs_n : Nat) : Int) rfl)))
theorem ZsU (xs : List (Tup Zaa)) (xs_n xs_c : Nat) (k : Int) (Z : Env -> Heap -> Prop) (h : Z (Zu6 xs_n xs_c) (Ya4 xs_n xs k)) : EvC Zkf Zmd (Zu6 xs_n xs_c) (Ya4 xs_n xs k) [0, 1] [0, 1] Z := EvC.of (by kernel_rfl) h
theorem ZtR (xs : List (Tup Zaa)) (xs_n xs_c : Nat) (k : Int) (hK : Zc5 xs xs_n xs_c k Kf) (h : Zhe xs xs_n xs_c k) : SemL Try.prog w0 fp ρi 2 19 [Zmd, (.seq (.seq ZjF Zg1) (.seq ZdQ .ret))] (Zu6 xs_n xs_c) (Ya4 xs_n xs k) (fnK ZgQ 2 Kf) :=
  Zan ZgG (ZsU xs xs_n xs_c k _ (Zar (Zar (ZtS xs xs_n xs_c k hK h))))
theorem ZAx (xs : List (Tup Zaa)) (xs_n xs_c : Nat) (k : Int) (hK : Zc5 xs xs_n xs_c k Kf) (h : Zhe xs xs_n xs_c k) : SemL Try.prog w0 fp ρi 2 19 [ZzO] (Zu6 xs_n xs_c) (Ya4 xs_n xs k) (fnK ZgQ 2 Kf) :=
  (Zar (ZtR xs xs_n xs_c k hK h))
end
theorem ZzA (xs : List (Tup Zaa)) (xs_n xs_c : Nat) (k : Int) (hpre : (List.length xs = xs_n /\ xs_n <= xs_c /\ xs_n <= 1000)) : Zhe xs xs_n xs_c k := by
  unfold Zhe Zng Znh Zo4 Zni Zo5 Zo6 Zo7 Zo8
  obtain ⟨hl, -, hl2⟩ := hpre
  rintro v7 rfl
  refine ⟨⟨by omega, by omega, rfl⟩, ?_⟩
  rintro i ⟨h0, h1, ha⟩
  refine ⟨fun hlt => ?_, fun hge => ?_⟩
  · have hlt := of_decide_eq_true hlt
    have e1 : IntKind.i64.wrap (i + 1) = i + 1 := by rw [Zrq]; omega
    have e2 : (i + 1).toNat = i.toNat + 1 := by omega
    rw [Nat.zero_add]
    refine ⟨h0, hlt, by omega, fun hb => ?_, fun hb => ?_⟩
    · rw [show idxK k xs = ((i.toNat : Nat) : Int) from ZuE (by omega) ha hb]; omega
    · rw [e1, e2, ZeT (by omega), List.any_append, ha]
      exact ⟨⟨by omega, by omega, by simp only [List.any_cons, List.any_nil, Bool.or_false, Bool.false_or]; exact hb⟩, by omega⟩
  · have hge := of_decide_eq_false hge
    rw [List.take_of_length_le (by omega)] at ha
    exact (ZqD ha).symm
theorem ZAD : Sound Try.prog 69 (gS ZuU) := by
  refine Za2 ZoJ ?_
  intro args H K h
  obtain ⟨pre, out, hD, hpre, hK⟩ := Zct h
  unfold ZuU at hD
  split at hD
  · cases hD
    obtain ⟨rfl, hpre⟩ := hpre
    exact ⟨rfl, fun w0 fp ρi => ZAx _ _ _ _ hK (ZzA _ _ _ _ hpre)⟩
  · cases hD
def Zrh : Zd4 := fun args H => match args, H with
  | [.ptr ⟨2, 0, 0, 1⟩ 2, .int .i64 key], ⟨3, [(0, some ⟨false, [.rows [.int .i64, .int .i64] xs_m xs], 0⟩), (1, some ⟨false, [.rows [.hd] c_1_s c_1_a, .one (.slice ⟨0, 0, 0, 2⟩ xs_n xs_c), .rows [.hd] c_1_t c_1_b], 0⟩), (2, some ⟨false, [.one (.int .i64 ways), .one (.slice ⟨1, 0, 0, 1⟩ c_1_l c_1_c)], 0⟩)]⟩ => some (xs_m = xs_n /\ ((List.length xs = xs_n /\ xs_n <= xs_c /\ xs_n <= 1000) /\ c_1_l = c_1_s + 1 + c_1_t /\ c_1_l <= 64 /\ c_1_l <= c_1_c /\ I64 key /\ (0 <= key -> Int.toNat (Int.tmod key (c_1_l : Int)) = c_1_s)), fun K => ((decide (key < 0)) = true -> K (.tuple [.nilptr, .int .i64 (-1)]) ⟨3, [(0, some ⟨false, [.rows Zaa xs_n xs], 0⟩), (1, some ⟨false, [.rows Zab c_1_s c_1_a, .one (.slice ⟨0, 0, 0, 2⟩ xs_n xs_c), .rows Zab c_1_t c_1_b], 0⟩), (2, some ⟨false, [.i ways, .one (.slice ⟨1, 0, 0, 1⟩ c_1_l c_1_c)], 0⟩)]⟩) /\ ((decide (key < 0)) = false -> K (.tuple [.ptr ⟨1, 0, c_1_s, 1⟩ 1, .int .i64 (idxK key xs)]) ⟨3, [(0, some ⟨false, [.rows Zaa xs_n xs], 0⟩), (1, some ⟨false, [.rows Zab c_1_s c_1_a, .one (.slice ⟨0, 0, 0, 2⟩ xs_n xs_c), .rows Zab c_1_t c_1_b], 0⟩), (2, some ⟨false, [.i ways, .one (.slice ⟨1, 0, 0, 1⟩ c_1_l c_1_c)], 0⟩)]⟩))
  | _, _ => none
def ZeR : Con := ⟨51, gS Zrh, [], [], []⟩
def Ze6 (ways : Int) (xs : List (Tup Zaa)) (xs_n xs_c c_1_s : Nat) (c_1_a : List (Tup Zab)) (c_1_t : Nat) (c_1_b : List (Tup Zab)) (c_1_l c_1_c : Nat) (key : Int) (Kf : SVal -> Heap -> Prop) : Prop := ((decide (key < 0)) = true -> Kf (.tuple [.nilptr, .int .i64 (-1)]) ⟨3, [(0, some ⟨false, [.rows Zaa xs_n xs], 0⟩), (1, some ⟨false, [.rows Zab c_1_s c_1_a, .one (.slice ⟨0, 0, 0, 2⟩ xs_n xs_c), .rows Zab c_1_t c_1_b], 0⟩), (2, some ⟨false, [.i ways, .one (.slice ⟨1, 0, 0, 1⟩ c_1_l c_1_c)], 0⟩)]⟩) /\ ((decide (key < 0)) = false -> Kf (.tuple [.ptr ⟨1, 0, c_1_s, 1⟩ 1, .int .i64 (idxK key xs)]) ⟨3, [(0, some ⟨false, [.rows Zaa xs_n xs], 0⟩), (1, some ⟨false, [.rows Zab c_1_s c_1_a, .one (.slice ⟨0, 0, 0, 2⟩ xs_n xs_c), .rows Zab c_1_t c_1_b], 0⟩), (2, some ⟨false, [.i ways, .one (.slice ⟨1, 0, 0, 1⟩ c_1_l c_1_c)], 0⟩)]⟩)
def Zmj : ACode := .reg (.op (some 3) (.box (.tm 1)) (.op (some 4) (.mov (.cn (.nilptr))) (.op (some 5) (.mov (.cn (.int .i64 0))) .nil)))
def ZjL : ACode := .reg (.op (some 6) (.load1 (.tm 3)) (.op (some 7) (.bin .lss (.tm 6) (.cn (.int .i64 0))) .nil))
def Zmi : ACode := .reg (.op (some 4) (.mov (.cn (.nilptr))) (.op (some 5) (.mov (.cn (.int .i64 (-1)))) .nil))
def ZjK : ACode := .cond (.tm 7) (.seq Zmi .ret) .skip
def ZjJ : Items := .op (some 8) (.mov (.tm 0)) (.op (some 9) (.nilCheck (.tm 8)) (.op (some 10) (.fieldAddr (.tm 9) 1 1) (.op (some 11) (.load1 (.tm 10)) (.op (some 12) (.load1 (.tm 3)) (.op (some 13) (.mov (.tm 0)) (.op (some 14) (.nilCheck (.tm 13)) (.op (some 15) (.fieldAddr (.tm 14) 1 1) (.op (some 16) (.load1 (.tm 15)) (.op (some 17) (.len (.tm 16)) (.op (some 18) (.bin .rem (.tm 12) (.tm 17)) (.op (some 19) (.idxS (.tm 11) (.tm 18) 1) (.op (some 4) (.mov (.tm 19)) .nil))))))))))))
def Zgd : ACode := .regQ ZjJ
def Zey : ACode := .reg (.op (some 20) (.mov (.tm 4)) (.op (some 21) (.mov (.tm 4)) (.op (some 22) (.nilCheck (.tm 21)) (.op (some 23) (.load1 (.tm 22)) (.op (some 24) (.mkFn 70 [(.tm 3)]) (.op (some 25) (.call 69 [(.tm 23), (.tm 24)]) (.op (some 4) (.mov (.tm 20)) (.op (some 5) (.mov (.tm 25)) .nil))))))))
def Zst : ACode := (.seq Zmj (.seq (.seq ZjL ZjK) (.seq Zgd (.seq Zey .ret))))
def Zd8 : Res := .many [.tm 4, .tm 5]
theorem ZmS : ZbX Try.prog 51 2 26 Zst Zd8 = true := by kernel_rfl
def ZiS : ZaC := Zdz [] [ZuK]
theorem ZhF : ZaT Try.prog ZiS := Zba trivial ⟨ZAD, trivial⟩
section
variable {w0 : World} {fp : Nat -> Nat -> Prop} {ρi : Rho} {Kf : SVal -> Heap -> Prop}
abbrev ZCe : Env := [(4, some (.nilptr)), (5, some (.int .i64 (-1)))]
abbrev ZuQ (x0 : Nat) (x1 : List (Tup Zaa)) (x2 : Nat) (x3 : List (Tup Zab)) (x4 x5 : Nat) (x6 : List (Tup Zab)) (x7 : Int) (x8 x9 : Nat) : Heap := ⟨4, [(0, some ⟨false, [.rows Zaa x0 x1], 0⟩), (1, some ⟨false, [.rows Zab x2 x3, .one (.slice ⟨0, 0, 0, 2⟩ x0 x4), .rows Zab x5 x6], 0⟩), (2, some ⟨false, [.i x7, .one (.slice ⟨1, 0, 0, 1⟩ x8 x9)], 0⟩)]⟩
theorem Zv1 (ways : Int) (xs : List (Tup Zaa)) (xs_n xs_c c_1_s : Nat) (c_1_a : List (Tup Zab)) (c_1_t : Nat) (c_1_b : List (Tup Zab)) (c_1_l c_1_c : Nat) (key : Int) (Z : Env -> Heap -> Prop) (h : Z ZCe (ZuQ xs_n xs c_1_s c_1_a xs_c c_1_t c_1_b ways c_1_l c_1_c)) : EvC ZiS Zmi [] (ZuQ xs_n xs c_1_s c_1_a xs_c c_1_t c_1_b ways c_1_l c_1_c) [4, 5] [0, 1, 2] Z := EvC.of (by kernel_rfl) h
theorem Ztm (ways : Int) (xs : List (Tup Zaa)) (xs_n xs_c c_1_s : Nat) (c_1_a : List (Tup Zab)) (c_1_t : Nat) (c_1_b : List (Tup Zab)) (c_1_l c_1_c : Nat) (key : Int) : RetC Zd8 ZCe (ZuQ xs_n xs c_1_s c_1_a xs_c c_1_t c_1_b ways c_1_l c_1_c) (.tuple [.nilptr, .int .i64 (-1)]) := RetC.of (fun Z => by kernel_rfl)
def Zph (ways : Int) (xs : List (Tup Zaa)) (xs_n xs_c c_1_s : Nat) (c_1_a : List (Tup Zab)) (c_1_t : Nat) (c_1_b : List (Tup Zab)) (c_1_l c_1_c : Nat) (key : Int) : Prop := (decide (key < 0)) = true
theorem Zyb (ways : Int) (xs : List (Tup Zaa)) (xs_n xs_c c_1_s : Nat) (c_1_a : List (Tup Zab)) (c_1_t : Nat) (c_1_b : List (Tup Zab)) (c_1_l c_1_c : Nat) (key : Int) (hK : Ze6 ways xs xs_n xs_c c_1_s c_1_a c_1_t c_1_b c_1_l c_1_c key Kf) (h : Zph ways xs xs_n xs_c c_1_s c_1_a c_1_t c_1_b c_1_l c_1_c key) : SemL Try.prog w0 fp ρi 3 26 [Zmi, .ret, (.seq Zgd (.seq Zey .ret))] [] (ZuQ xs_n xs c_1_s c_1_a xs_c c_1_t c_1_b ways c_1_l c_1_c) (fnK Zd8 3 Kf) :=
  Zan ZhF (Zv1 ways xs xs_n xs_c c_1_s c_1_a c_1_t c_1_b c_1_l c_1_c key _ (ZaX (R := Zd8) (m := 3) (Kf := Kf) (fun _ _ h => h) (Ztm ways xs xs_n xs_c c_1_s c_1_a c_1_t c_1_b c_1_l c_1_c key) (ZaM (ZaE [] [0, 1, 2] rfl (by kernel_rfl) rfl (Zd0 (ZbG pbd (ZbG pbd Zd1))) (hsc pcs (hsc (Zau (Zam bsl (Zau Zav))) (hsc (Zam pbd (Zam bsl Zav)) Zak))) rfl (by kernel_rfl) ((hK.1 h))))))
abbrev ZCd (x0 : Nat) : Env := [(3, some (.ptr ⟨3, 0, 0, 1⟩ 1)), (4, some (.ptr ⟨1, 0, x0, 1⟩ 1))]
abbrev Zrl (x0 : Nat) (x1 : List (Tup Zaa)) (x2 : Nat) (x3 : List (Tup Zab)) (x4 x5 : Nat) (x6 : List (Tup Zab)) (x7 : Int) (x8 x9 : Nat) (ah : Int) : Heap := ⟨4, [(0, some ⟨false, [.rows Zaa x0 x1], 0⟩), (1, some ⟨false, [.rows Zab x2 x3, .one (.slice ⟨0, 0, 0, 2⟩ x0 x4), .rows Zab x5 x6], 0⟩), (2, some ⟨false, [.i x7, .one (.slice ⟨1, 0, 0, 1⟩ x8 x9)], 0⟩), (3, some ⟨true, [.i ah], 0⟩)]⟩
theorem Zv0 (ways : Int) (xs : List (Tup Zaa)) (xs_n xs_c c_1_s : Nat) (c_1_a : List (Tup Zab)) (c_1_t : Nat) (c_1_b : List (Tup Zab)) (c_1_l c_1_c : Nat) (key : Int) (ag : Nat) (Z : Env -> Heap -> Prop) (h : ((ag = c_1_s)) /\ (((xs_n : Nat) <= xs_n)) /\ (((xs_n : Nat) = xs_n) /\ (List.length (List.take xs_n xs) = xs_n /\ xs_n <= xs_c /\ xs_n <= 1000)) /\ Z [(4, some (.ptr ⟨1, 0, ag, 1⟩ 1)), (5, some (.int .i64 (idxK key (List.take xs_n xs))))] (ZuQ xs_n xs c_1_s c_1_a xs_c c_1_t c_1_b ways c_1_l c_1_c)) : EvC ZiS Zey (ZCd ag) (Zrl xs_n xs c_1_s c_1_a xs_c c_1_t c_1_b ways c_1_l c_1_c key) [4, 5] [0, 1, 2] Z := EvC.of (by kernel_rfl) h
theorem Ztl (ways : Int) (xs : List (Tup Zaa)) (xs_n xs_c c_1_s : Nat) (c_1_a : List (Tup Zab)) (c_1_t : Nat) (c_1_b : List (Tup Zab)) (c_1_l c_1_c : Nat) (key : Int) (ag : Nat) : RetC Zd8 [(4, some (.ptr ⟨1, 0, ag, 1⟩ 1)), (5, some (.int .i64 (idxK key (List.take xs_n xs))))] (ZuQ xs_n xs c_1_s c_1_a xs_c c_1_t c_1_b ways c_1_l c_1_c) (.tuple [.ptr ⟨1, 0, ag, 1⟩ 1, .int .i64 (idxK key (List.take xs_n xs))]) := RetC.of (fun Z => by kernel_rfl)
def Zpg (ways : Int) (xs : List (Tup Zaa)) (xs_n xs_c c_1_s : Nat) (c_1_a : List (Tup Zab)) (c_1_t : Nat) (c_1_b : List (Tup Zab)) (c_1_l c_1_c : Nat) (key : Int) (ag : Nat) : Prop := ((ag = c_1_s)) /\ (((List.length (List.take xs_n xs) = xs_n /\ xs_n <= xs_c /\ xs_n <= 1000)) /\ (((decide (key < 0)) = false) /\ (ag = c_1_s) /\ ((idxK key (List.take xs_n xs)) = (idxK key xs))))
theorem Zya (ways : Int) (xs : List (Tup Zaa)) (xs_n xs_c c_1_s : Nat) (c_1_a : List (Tup Zab)) (c_1_t : Nat) (c_1_b : List (Tup Zab)) (c_1_l c_1_c : Nat) (key : Int) (hK : Ze6 ways xs xs_n xs_c c_1_s c_1_a c_1_t c_1_b c_1_l c_1_c key Kf) (ag : Nat) (h : Zpg ways xs xs_n xs_c c_1_s c_1_a c_1_t c_1_b c_1_l c_1_c key ag) : SemL Try.prog w0 fp ρi 3 26 [Zey, .ret] (ZCd ag) (Zrl xs_n xs c_1_s c_1_a xs_c c_1_t c_1_b ways c_1_l c_1_c key) (fnK Zd8 3 Kf) :=
  Zan ZhF (Zv0 ways xs xs_n xs_c c_1_s c_1_a c_1_t c_1_b c_1_l c_1_c key ag _ ⟨h.1, ⟨(Nat.le_refl _), ⟨⟨rfl, h.2.1⟩, (ZaX (R := Zd8) (m := 3) (Kf := Kf) (fun _ _ h => h) (Ztl ways xs xs_n xs_c c_1_s c_1_a c_1_t c_1_b c_1_l c_1_c key ag) (ZaM (Eq.mpr (cg2 (fun (z1 : Nat) (z2 : Int) => Zd2 3 Kf (.tuple [.ptr ⟨1, 0, z1, 1⟩ 1, .int .i64 z2]) (ZuQ xs_n xs c_1_s c_1_a xs_c c_1_t c_1_b ways c_1_l c_1_c)) h.2.2.2.1 h.2.2.2.2) (ZaE [] [0, 1, 2] rfl (by kernel_rfl) rfl (Zd0 (ZbG bpt (ZbG pbd Zd1))) (hsc pcs (hsc (Zau (Zam bsl (Zau Zav))) (hsc (Zam pbd (Zam bsl Zav)) Zak))) rfl (by kernel_rfl) ((hK.2 h.2.2.1))))))⟩⟩⟩)
abbrev Zz3 : Env := [(0, some (.ptr ⟨2, 0, 0, 1⟩ 2)), (3, some (.ptr ⟨3, 0, 0, 1⟩ 1))]
theorem ZvZ (ways : Int) (xs : List (Tup Zaa)) (xs_n xs_c c_1_s : Nat) (c_1_a : List (Tup Zab)) (c_1_t : Nat) (c_1_b : List (Tup Zab)) (c_1_l c_1_c : Nat) (key : Int) (Z : Env -> Heap -> Prop) (h : ((((c_1_l : Nat) : Int) ≠ 0)) /\ ((0 <= (Int.tmod key ((c_1_l : Nat) : Int)))) /\ (((Int.tmod key ((c_1_l : Nat) : Int)) < ((c_1_l : Nat) : Int))) /\ Z [(3, some (.ptr ⟨3, 0, 0, 1⟩ 1)), (4, some (.ptr ⟨1, 0, (0 + (Int.toNat (Int.tmod key ((c_1_l : Nat) : Int)))), 1⟩ 1))] (Zrl xs_n xs c_1_s c_1_a xs_c c_1_t c_1_b ways c_1_l c_1_c key)) : EvQC ZiS ZjJ [] Zz3 (Zrl xs_n xs c_1_s c_1_a xs_c c_1_t c_1_b ways c_1_l c_1_c key) [3, 4] [0, 1, 2, 3] Z := EvQC.of (by kernel_rfl) h
def Zpf (ways : Int) (xs : List (Tup Zaa)) (xs_n xs_c c_1_s : Nat) (c_1_a : List (Tup Zab)) (c_1_t : Nat) (c_1_b : List (Tup Zab)) (c_1_l c_1_c : Nat) (key : Int) : Prop := ((((c_1_l : Nat) : Int) ≠ 0)) /\ (((0 <= (Int.tmod key ((c_1_l : Nat) : Int)))) /\ ((((Int.tmod key ((c_1_l : Nat) : Int)) < ((c_1_l : Nat) : Int))) /\ (∀ ag : Nat, ag = (0 + (Int.toNat (Int.tmod key ((c_1_l : Nat) : Int)))) -> Zpg ways xs xs_n xs_c c_1_s c_1_a c_1_t c_1_b c_1_l c_1_c key ag)))
theorem Zx9 (ways : Int) (xs : List (Tup Zaa)) (xs_n xs_c c_1_s : Nat) (c_1_a : List (Tup Zab)) (c_1_t : Nat) (c_1_b : List (Tup Zab)) (c_1_l c_1_c : Nat) (key : Int) (hK : Ze6 ways xs xs_n xs_c c_1_s c_1_a c_1_t c_1_b c_1_l c_1_c key Kf) (h : Zpf ways xs xs_n xs_c c_1_s c_1_a c_1_t c_1_b c_1_l c_1_c key) : SemL Try.prog w0 fp ρi 3 26 [Zgd, (.seq Zey .ret)] Zz3 (Zrl xs_n xs c_1_s c_1_a xs_c c_1_t c_1_b ways c_1_l c_1_c key) (fnK Zd8 3 Kf) :=
  Zh8 ZhF (its := ZjJ) (ZvZ ways xs xs_n xs_c c_1_s c_1_a c_1_t c_1_b c_1_l c_1_c key _ ⟨h.1, ⟨h.2.1, ⟨h.2.2.1, (Zar (Zya ways xs xs_n xs_c c_1_s c_1_a c_1_t c_1_b c_1_l c_1_c key hK (0 + (Int.toNat (Int.tmod key ((c_1_l : Nat) : Int)))) (h.2.2.2 (0 + (Int.toNat (Int.tmod key ((c_1_l : Nat) : Int)))) rfl)))⟩⟩⟩)
def Zif (ways : Int) (xs : List (Tup Zaa)) (xs_n xs_c c_1_s : Nat) (c_1_a : List (Tup Zab)) (c_1_t : Nat) (c_1_b : List (Tup Zab)) (c_1_l c_1_c : Nat) (key : Int) : Prop := ((decide (key < 0)) = true -> (Zph ways xs xs_n xs_c c_1_s c_1_a c_1_t c_1_b c_1_l c_1_c key)) /\ ((decide (key < 0)) = false -> (Zpf ways xs xs_n xs_c c_1_s c_1_a c_1_t c_1_b c_1_l c_1_c key))
abbrev ZCc (x0 : Int) : Env := [(0, some (.ptr ⟨2, 0, 0, 1⟩ 2)), (3, some (.ptr ⟨3, 0, 0, 1⟩ 1)), (7, some (.bool (decide (x0 < 0))))]
theorem Zx8 (ways : Int) (xs : List (Tup Zaa)) (xs_n xs_c c_1_s : Nat) (c_1_a : List (Tup Zab)) (c_1_t : Nat) (c_1_b : List (Tup Zab)) (c_1_l c_1_c : Nat) (key : Int) (hK : Ze6 ways xs xs_n xs_c c_1_s c_1_a c_1_t c_1_b c_1_l c_1_c key Kf) (h : Zif ways xs xs_n xs_c c_1_s c_1_a c_1_t c_1_b c_1_l c_1_c key) : SemL Try.prog w0 fp ρi 3 26 [ZjK, (.seq Zgd (.seq Zey .ret))] (ZCc key) (Zrl xs_n xs c_1_s c_1_a xs_c c_1_t c_1_b ways c_1_l c_1_c key) (fnK Zd8 3 Kf) :=
  Za8 (q := (decide (key < 0))) (by kernel_rfl) (fun hq => (Zar (lpk [] [0, 1, 2] (Zyb ways xs xs_n xs_c c_1_s c_1_a c_1_t c_1_b c_1_l c_1_c key hK (h.1 hq))))) (fun hq => (ZbD (lpk [0, 3] [0, 1, 2, 3] (Zar (Zx9 ways xs xs_n xs_c c_1_s c_1_a c_1_t c_1_b c_1_l c_1_c key hK (h.2 hq))))))
theorem ZvY (ways : Int) (xs : List (Tup Zaa)) (xs_n xs_c c_1_s : Nat) (c_1_a : List (Tup Zab)) (c_1_t : Nat) (c_1_b : List (Tup Zab)) (c_1_l c_1_c : Nat) (key : Int) (Z : Env -> Heap -> Prop) (h : Z (ZCc key) (Zrl xs_n xs c_1_s c_1_a xs_c c_1_t c_1_b ways c_1_l c_1_c key)) : EvC ZiS ZjL Zz3 (Zrl xs_n xs c_1_s c_1_a xs_c c_1_t c_1_b ways c_1_l c_1_c key) [0, 3, 7] [0, 1, 2, 3] Z := EvC.of (by kernel_rfl) h
theorem Zx7 (ways : Int) (xs : List (Tup Zaa)) (xs_n xs_c c_1_s : Nat) (c_1_a : List (Tup Zab)) (c_1_t : Nat) (c_1_b : List (Tup Zab)) (c_1_l c_1_c : Nat) (key : Int) (hK : Ze6 ways xs xs_n xs_c c_1_s c_1_a c_1_t c_1_b c_1_l c_1_c key Kf) (h : Zif ways xs xs_n xs_c c_1_s c_1_a c_1_t c_1_b c_1_l c_1_c key) : SemL Try.prog w0 fp ρi 3 26 [ZjL, ZjK, (.seq Zgd (.seq Zey .ret))] Zz3 (Zrl xs_n xs c_1_s c_1_a xs_c c_1_t c_1_b ways c_1_l c_1_c key) (fnK Zd8 3 Kf) :=
  Zan ZhF (ZvY ways xs xs_n xs_c c_1_s c_1_a c_1_t c_1_b c_1_l c_1_c key _ (Zx8 ways xs xs_n xs_c c_1_s c_1_a c_1_t c_1_b c_1_l c_1_c key hK h))
abbrev ZBt (x0 : Int) : Env := [(0, some (.ptr ⟨2, 0, 0, 1⟩ 2)), (1, some (.int .i64 x0))]
abbrev ZBs (x0 : Nat) (x1 : List (Tup Zaa)) (x2 : Nat) (x3 : List (Tup Zab)) (x4 x5 : Nat) (x6 : List (Tup Zab)) (x7 : Int) (x8 x9 : Nat) : Heap := ⟨3, [(0, some ⟨false, [.rows Zaa x0 x1], 0⟩), (1, some ⟨false, [.rows Zab x2 x3, .one (.slice ⟨0, 0, 0, 2⟩ x0 x4), .rows Zab x5 x6], 0⟩), (2, some ⟨false, [.i x7, .one (.slice ⟨1, 0, 0, 1⟩ x8 x9)], 0⟩)]⟩
theorem ZvX (ways : Int) (xs : List (Tup Zaa)) (xs_n xs_c c_1_s : Nat) (c_1_a : List (Tup Zab)) (c_1_t : Nat) (c_1_b : List (Tup Zab)) (c_1_l c_1_c : Nat) (key : Int) (Z : Env -> Heap -> Prop) (h : Z Zz3 (Zrl xs_n xs c_1_s c_1_a xs_c c_1_t c_1_b ways c_1_l c_1_c key)) : EvC ZiS Zmj (ZBt key) (ZBs xs_n xs c_1_s c_1_a xs_c c_1_t c_1_b ways c_1_l c_1_c) [0, 3] [0, 1, 2, 3] Z := EvC.of (by kernel_rfl) h
theorem Zx6 (ways : Int) (xs : List (Tup Zaa)) (xs_n xs_c c_1_s : Nat) (c_1_a : List (Tup Zab)) (c_1_t : Nat) (c_1_b : List (Tup Zab)) (c_1_l c_1_c : Nat) (key : Int) (hK : Ze6 ways xs xs_n xs_c c_1_s c_1_a c_1_t c_1_b c_1_l c_1_c key Kf) (h : Zif ways xs xs_n xs_c c_1_s c_1_a c_1_t c_1_b c_1_l c_1_c key) : SemL Try.prog w0 fp ρi 3 26 [Zmj, (.seq (.seq ZjL ZjK) (.seq Zgd (.seq Zey .ret)))] (ZBt key) (ZBs xs_n xs c_1_s c_1_a xs_c c_1_t c_1_b ways c_1_l c_1_c) (fnK Zd8 3 Kf) :=
  Zan ZhF (ZvX ways xs xs_n xs_c c_1_s c_1_a c_1_t c_1_b c_1_l c_1_c key _ (Zar (Zar (Zx7 ways xs xs_n xs_c c_1_s c_1_a c_1_t c_1_b c_1_l c_1_c key hK h))))
theorem Zva (ways : Int) (xs : List (Tup Zaa)) (xs_n xs_c c_1_s : Nat) (c_1_a : List (Tup Zab)) (c_1_t : Nat) (c_1_b : List (Tup Zab)) (c_1_l c_1_c : Nat) (key : Int) (hK : Ze6 ways xs xs_n xs_c c_1_s c_1_a c_1_t c_1_b c_1_l c_1_c key Kf) (h : Zif ways xs xs_n xs_c c_1_s c_1_a c_1_t c_1_b c_1_l c_1_c key) : SemL Try.prog w0 fp ρi 3 26 [Zst] (ZBt key) (ZBs xs_n xs c_1_s c_1_a xs_c c_1_t c_1_b ways c_1_l c_1_c) (fnK Zd8 3 Kf) :=
  (Zar (Zx6 ways xs xs_n xs_c c_1_s c_1_a c_1_t c_1_b c_1_l c_1_c key hK h))
end
theorem Zuu (ways : Int) (xs : List (Tup Zaa)) (xs_n xs_c c_1_s : Nat) (c_1_a : List (Tup Zab)) (c_1_t : Nat) (c_1_b : List (Tup Zab)) (c_1_l c_1_c : Nat) (key : Int) (hpre : ((List.length xs = xs_n /\ xs_n <= xs_c /\ xs_n <= 1000) /\ c_1_l = c_1_s + 1 + c_1_t /\ c_1_l <= 64 /\ c_1_l <= c_1_c /\ I64 key /\ (0 <= key -> Int.toNat (Int.tmod key (c_1_l : Int)) = c_1_s))) : Zif ways xs xs_n xs_c c_1_s c_1_a c_1_t c_1_b c_1_l c_1_c key := by
  unfold Zif Zpf Zpg Zph
  obtain ⟨⟨hl, hc, hm⟩, h1, h2, h3, h4, h5⟩ := hpre
  refine ⟨fun h => h, fun h => ?_⟩
  have hk := of_decide_eq_false h
  have e1 := Int.tmod_nonneg (c_1_l : Int) (show 0 <= key by omega)
  have e2 := Int.tmod_lt_of_pos key (show (0 : Int) < c_1_l by omega)
  have e3 := h5 (by omega)
  refine ⟨by omega, e1, e2, ?_⟩
  rintro _ rfl
  rw [List.take_of_length_le (by omega)]
  exact ⟨by omega, ⟨hl, hc, hm⟩, h, by omega, rfl⟩
theorem Zil : Sound Try.prog 51 (gS Zrh) := by
  refine Za2 ZmS ?_
  intro args H K h
  obtain ⟨pre, out, hD, hpre, hK⟩ := Zct h
  unfold Zrh at hD
  split at hD
  · cases hD
    obtain ⟨rfl, hpre⟩ := hpre
    exact ⟨rfl, fun w0 fp ρi => Zva _ _ _ _ _ _ _ _ _ _ _ hK (Zuu _ _ _ _ _ _ _ _ _ _ _ hpre)⟩
  · cases hD
def ZuV : Zd4 := fun args H => match args, H with
  | [.slice ⟨0, 0, 0, 2⟩ s_n s_c, .int .i64 i, .int .i64 j], ⟨1, [(0, some ⟨true, [.rows [.int .i64, .int .i64] s_m s], 0⟩)]⟩ => some (s_m = s_n /\ ((List.length s = s_n /\ s_n <= s_c /\ s_n <= 1000) /\ 0 <= i /\ i <= j /\ j <= (s_n : Int)), fun K => K (.slice ⟨0, 0, 0, 2⟩ (s_n - (Int.toNat j - Int.toNat i)) s_c) ⟨1, [(0, some ⟨true, [.rows Zaa s_n (ZaI i j s)], 0⟩)]⟩)
  | _, _ => none
def Zq2 : Con := ⟨53, gS ZuV, [0], [], []⟩
def ZeX (s : List (Tup Zaa)) (s_n s_c : Nat) (i j : Int) (Kf : SVal -> Heap -> Prop) : Prop := Kf (.slice ⟨0, 0, 0, 2⟩ (s_n - (Int.toNat j - Int.toNat i)) s_c) ⟨1, [(0, some ⟨true, [.rows Zaa s_n (ZaI i j s)], 0⟩)]⟩
def Zmf : ACode := .reg (.op (some 6) (.mov (.cn (.nilslice))) .nil)
def ZjH : ACode := .reg (.op (some 8) (.mov (.tm 0)) (.op (some 9) (.mov (.tm 1)) (.op (some 10) (.mov (.tm 2)) (.op (some 11) (.mov (.tm 0)) (.op (some 12) (.len (.tm 11)) (.op (some 13) (.sliceS 2 (.tm 8) (some (.tm 9)) (some (.tm 10)) (some (.tm 12))) .nil))))))
def ZhR : ACode := .reg (.op (some 14) (.mov (.tm 1)) (.op (some 15) (.mov (.tm 2)) (.op (some 16) (.bin .eql (.tm 14) (.tm 15)) .nil)))
def Zme : ACode := .reg (.op (some 17) (.mov (.tm 0)) (.op (some 6) (.mov (.tm 17)) .nil))
def ZhQ : ACode := .cond (.tm 16) (.seq Zme .ret) .skip
def Zex : ACode := .reg (.op (some 18) (.mov (.tm 0)) (.op (some 19) (.len (.tm 18)) (.op (some 7) (.mov (.tm 19)) .nil)))
def ZjG : List MStep := [.mk 0 0 (some 20) (.mov (.tm 0)), .mk 1 0 (some 21) (.mov (.tm 1)), .mk 2 0 (some 22) (.sliceS 2 (.tm 20) none (some (.tm 21)) none), .mk 3 0 (some 23) (.mov (.tm 0)), .mk 4 0 (some 24) (.mov (.tm 2)), .mk 5 0 (some 25) (.sliceS 2 (.tm 23) (some (.tm 24)) none none), .mk 6 2 (some 26) (.appendIn Zaa (.tm 22) (.tm 25)), .mk 7 0 (some 0) (.mov (.tm 26))]
def Zew : ACode := .regM ZjG
def Zde : ACode := .reg (.op (some 27) (.mov (.tm 0)) (.op (some 28) (.mov (.tm 0)) (.op (some 29) (.len (.tm 28)) (.op (some 30) (.mov (.tm 7)) (.op (some 31) (.sliceS 2 (.tm 27) (some (.tm 29)) (some (.tm 30)) none) (.op none (.clearR Zaa (.tm 31)) .nil))))))
def ZcR : ACode := .reg (.op (some 32) (.mov (.tm 0)) (.op (some 6) (.mov (.tm 32)) .nil))
def ZzQ : ACode := (.seq Zmf (.seq ZjH (.seq (.seq ZhR ZhQ) (.seq Zex (.seq Zew (.seq Zde (.seq ZcR .ret)))))))
def Zfn : Res := .one (.tm 6)
theorem ZoL : ZbX Try.prog 53 3 33 ZzQ Zfn = true := by kernel_rfl
def Zkg : ZaC := Zdz [] []
theorem ZgH : ZaT Try.prog Zkg := Zba trivial trivial
section
variable {w0 : World} {fp : Nat -> Nat -> Prop} {ρi : Rho} {Kf : SVal -> Heap -> Prop}
abbrev ZAs (x0 x1 : Nat) : Env := [(6, some (.slice ⟨0, 0, 0, 2⟩ x0 x1))]
abbrev ZfX (x0 : Nat) (x1 : List (Tup Zaa)) : Heap := ⟨1, [(0, some ⟨true, [.rows Zaa x0 x1], 0⟩)]⟩
abbrev Zz2 (x0 x1 : Nat) : Env := [(0, some (.slice ⟨0, 0, 0, 2⟩ x0 x1))]
theorem ZvU (s : List (Tup Zaa)) (s_n s_c : Nat) (i j : Int) (Z : Env -> Heap -> Prop) (h : Z (ZAs s_n s_c) (ZfX s_n s)) : EvC Zkg Zme (Zz2 s_n s_c) (ZfX s_n s) [6] [0] Z := EvC.of (by kernel_rfl) h
theorem Zti (s : List (Tup Zaa)) (s_n s_c : Nat) (i j : Int) : RetC Zfn (ZAs s_n s_c) (ZfX s_n s) (.slice ⟨0, 0, 0, 2⟩ s_n s_c) := RetC.of (fun Z => by kernel_rfl)
def Zpd (s : List (Tup Zaa)) (s_n s_c : Nat) (i j : Int) : Prop := (s_n = (s_n - (Int.toNat j - Int.toNat i))) /\ (s = (ZaI i j s))
theorem Zx3 (s : List (Tup Zaa)) (s_n s_c : Nat) (i j : Int) (hK : ZeX s s_n s_c i j Kf) (h : Zpd s s_n s_c i j) : SemL Try.prog w0 fp ρi 1 33 [Zme, .ret, (.seq Zex (.seq Zew (.seq Zde (.seq ZcR .ret))))] (Zz2 s_n s_c) (ZfX s_n s) (fnK Zfn 1 Kf) :=
  Zan ZgH (ZvU s s_n s_c i j _ (ZaX (R := Zfn) (m := 1) (Kf := Kf) (fun _ _ h => h) (Zti s s_n s_c i j) (ZaM (Eq.mpr (cg2 (fun (z1 : Nat) (z2 : List (Tup Zaa)) => Zd2 1 Kf (.slice ⟨0, 0, 0, 2⟩ z1 s_c) (ZfX s_n z2)) h.1 h.2) (ZaE [] [0] rfl (by kernel_rfl) rfl bsl (hsc pcs Zak) rfl (by kernel_rfl) (hK))))))
theorem ZvT (s : List (Tup Zaa)) (s_n s_c : Nat) (i j : Int) (ad ae : Nat) (af : List (Tup Zaa)) (Z : Env -> Heap -> Prop) (h : Z (ZAs ad ae) (ZfX s_n af)) : EvC Zkg ZcR (Zz2 ad ae) (ZfX s_n af) [6] [0] Z := EvC.of (by kernel_rfl) h
theorem Zth (s : List (Tup Zaa)) (s_n s_c : Nat) (i j : Int) (ad ae : Nat) (af : List (Tup Zaa)) : RetC Zfn (ZAs ad ae) (ZfX s_n af) (.slice ⟨0, 0, 0, 2⟩ ad ae) := RetC.of (fun Z => by kernel_rfl)
def Zpc (s : List (Tup Zaa)) (s_n s_c : Nat) (i j : Int) (ad ae : Nat) (af : List (Tup Zaa)) : Prop := (ae = s_c) /\ (ad = (s_n - (Int.toNat j - Int.toNat i))) /\ (af = (ZaI i j s))
theorem Zx2 (s : List (Tup Zaa)) (s_n s_c : Nat) (i j : Int) (hK : ZeX s s_n s_c i j Kf) (ad ae : Nat) (af : List (Tup Zaa)) (h : Zpc s s_n s_c i j ad ae af) : SemL Try.prog w0 fp ρi 1 33 [ZcR, .ret] (Zz2 ad ae) (ZfX s_n af) (fnK Zfn 1 Kf) :=
  Zan ZgH (ZvT s s_n s_c i j ad ae af _ (ZaX (R := Zfn) (m := 1) (Kf := Kf) (fun _ _ h => h) (Zth s s_n s_c i j ad ae af) (ZaM (Eq.mpr (cg3 (fun (z1 z2 : Nat) (z3 : List (Tup Zaa)) => Zd2 1 Kf (.slice ⟨0, 0, 0, 2⟩ z2 z1) (ZfX s_n z3)) h.1 h.2.1 h.2.2) (ZaE [] [0] rfl (by kernel_rfl) rfl bsl (hsc pcs Zak) rfl (by kernel_rfl) (hK))))))
theorem ZvS (s : List (Tup Zaa)) (s_n s_c : Nat) (i j : Int) (ad ae : Nat) (v7 : Int) (h0 : List (Tup Zaa)) (Z : Env -> Heap -> Prop) (h : ((0 <= v7)) /\ ((v7 <= ((ae : Nat) : Int))) /\ ((0 <= ((ad : Nat) : Int))) /\ ((((ad : Nat) : Int) <= (((Int.toNat v7) : Nat) : Int))) /\ ((((0 + (if ae = (Int.toNat ((ad : Nat) : Int)) then 0 else (Int.toNat ((ad : Nat) : Int)))) + ((Int.toNat v7) - (Int.toNat ((ad : Nat) : Int)))) <= s_n)) /\ ((List.length h0 = s_n)) /\ Z (Zz2 ad ae) ⟨1, [(0, some ⟨true, [.rows Zaa s_n (List.take (0 + (if ae = (Int.toNat ((ad : Nat) : Int)) then 0 else (Int.toNat ((ad : Nat) : Int)))) h0 ++ List.replicate ((Int.toNat v7) - (Int.toNat ((ad : Nat) : Int))) (Tup.dflt Zaa) ++ List.drop ((0 + (if ae = (Int.toNat ((ad : Nat) : Int)) then 0 else (Int.toNat ((ad : Nat) : Int)))) + ((Int.toNat v7) - (Int.toNat ((ad : Nat) : Int)))) h0)], 0⟩)]⟩) : EvC Zkg Zde [(0, some (.slice ⟨0, 0, 0, 2⟩ ad ae)), (7, some (.int .i64 v7))] (ZfX s_n h0) [0] [0] Z := EvC.of (by kernel_rfl) h
def Zpb (s : List (Tup Zaa)) (s_n s_c : Nat) (i j : Int) (ad ae : Nat) (v7 : Int) (h0 : List (Tup Zaa)) : Prop := ((0 <= v7)) /\ (((v7 <= ((ae : Nat) : Int))) /\ (((0 <= ((ad : Nat) : Int))) /\ (((((ad : Nat) : Int) <= (((Int.toNat v7) : Nat) : Int))) /\ (((((0 + (if ae = (Int.toNat ((ad : Nat) : Int)) then 0 else (Int.toNat ((ad : Nat) : Int)))) + ((Int.toNat v7) - (Int.toNat ((ad : Nat) : Int)))) <= s_n)) /\ (((List.length h0 = s_n)) /\ (∀ af : List (Tup Zaa), af = (List.take (0 + (if ae = (Int.toNat ((ad : Nat) : Int)) then 0 else (Int.toNat ((ad : Nat) : Int)))) h0 ++ List.replicate ((Int.toNat v7) - (Int.toNat ((ad : Nat) : Int))) (Tup.dflt Zaa) ++ List.drop ((0 + (if ae = (Int.toNat ((ad : Nat) : Int)) then 0 else (Int.toNat ((ad : Nat) : Int)))) + ((Int.toNat v7) - (Int.toNat ((ad : Nat) : Int)))) h0) -> Zpc s s_n s_c i j ad ae af))))))
theorem Zx1 (s : List (Tup Zaa)) (s_n s_c : Nat) (i j : Int) (hK : ZeX s s_n s_c i j Kf) (ad ae : Nat) (v7 : Int) (h0 : List (Tup Zaa)) (h : Zpb s s_n s_c i j ad ae v7 h0) : SemL Try.prog w0 fp ρi 1 33 [Zde, (.seq ZcR .ret)] [(0, some (.slice ⟨0, 0, 0, 2⟩ ad ae)), (7, some (.int .i64 v7))] (ZfX s_n h0) (fnK Zfn 1 Kf) :=
  Zan ZgH (ZvS s s_n s_c i j ad ae v7 h0 _ ⟨h.1, ⟨h.2.1, ⟨h.2.2.1, ⟨h.2.2.2.1, ⟨h.2.2.2.2.1, ⟨h.2.2.2.2.2.1, (Zar (Zx2 s s_n s_c i j hK ad ae (List.take (0 + (if ae = (Int.toNat ((ad : Nat) : Int)) then 0 else (Int.toNat ((ad : Nat) : Int)))) h0 ++ List.replicate ((Int.toNat v7) - (Int.toNat ((ad : Nat) : Int))) (Tup.dflt Zaa) ++ List.drop ((0 + (if ae = (Int.toNat ((ad : Nat) : Int)) then 0 else (Int.toNat ((ad : Nat) : Int)))) + ((Int.toNat v7) - (Int.toNat ((ad : Nat) : Int)))) h0) (h.2.2.2.2.2.2 (List.take (0 + (if ae = (Int.toNat ((ad : Nat) : Int)) then 0 else (Int.toNat ((ad : Nat) : Int)))) h0 ++ List.replicate ((Int.toNat v7) - (Int.toNat ((ad : Nat) : Int))) (Tup.dflt Zaa) ++ List.drop ((0 + (if ae = (Int.toNat ((ad : Nat) : Int)) then 0 else (Int.toNat ((ad : Nat) : Int)))) + ((Int.toNat v7) - (Int.toNat ((ad : Nat) : Int)))) h0) rfl)))⟩⟩⟩⟩⟩⟩)
theorem ZvR (s : List (Tup Zaa)) (s_n s_c : Nat) (i j v7 : Int) (Z : Env -> Heap -> Prop) (h : ((0 <= i)) /\ ((i <= ((s_c : Nat) : Int))) /\ ((0 <= j)) /\ ((j <= ((s_n : Nat) : Int))) /\ ((((0 + (if s_c = (Int.toNat j) then 0 else (Int.toNat j))) + (s_n - (Int.toNat j))) <= s_n)) /\ ((List.length s = s_n)) /\ (((((Int.toNat i) - 0) + (s_n - (Int.toNat j))) <= s_n)) /\ (((((Int.toNat i) - 0) + (s_n - (Int.toNat j))) <= (s_c - 0))) /\ ((List.length s = s_n)) /\ Z [(0, some (.slice ⟨0, 0, 0, 2⟩ (((Int.toNat i) - 0) + (s_n - (Int.toNat j))) (s_c - 0))), (7, some (.int .i64 v7))] ⟨1, [(0, some ⟨true, [.rows Zaa s_n (List.take ((Int.toNat i) - 0) s ++ (List.take (s_n - (Int.toNat j)) (List.drop (0 + (if s_c = (Int.toNat j) then 0 else (Int.toNat j))) s)) ++ List.drop (((Int.toNat i) - 0) + (s_n - (Int.toNat j))) s)], 0⟩)]⟩) : EvNC Zkg ZjG [[], [], [], [], [], [], [], []] [(0, some (.slice ⟨0, 0, 0, 2⟩ s_n s_c)), (1, some (.int .i64 i)), (2, some (.int .i64 j)), (7, some (.int .i64 v7))] (ZfX s_n s) [0, 7] [0] Z := EvNC.of (by kernel_rfl) h
def Zpa (s : List (Tup Zaa)) (s_n s_c : Nat) (i j v7 : Int) : Prop := ((0 <= i)) /\ (((i <= ((s_c : Nat) : Int))) /\ (((0 <= j)) /\ (((j <= ((s_n : Nat) : Int))) /\ (((((0 + (if s_c = (Int.toNat j) then 0 else (Int.toNat j))) + (s_n - (Int.toNat j))) <= s_n)) /\ (((List.length s = s_n)) /\ ((((((Int.toNat i) - 0) + (s_n - (Int.toNat j))) <= s_n)) /\ ((((((Int.toNat i) - 0) + (s_n - (Int.toNat j))) <= (s_c - 0))) /\ (((List.length s = s_n)) /\ (∀ ad : Nat, ad = (((Int.toNat i) - 0) + (s_n - (Int.toNat j))) -> ∀ ae : Nat, ae = (s_c - 0) -> ∀ h0 : List (Tup Zaa), h0 = (List.take ((Int.toNat i) - 0) s ++ (List.take (s_n - (Int.toNat j)) (List.drop (0 + (if s_c = (Int.toNat j) then 0 else (Int.toNat j))) s)) ++ List.drop (((Int.toNat i) - 0) + (s_n - (Int.toNat j))) s) -> Zpb s s_n s_c i j ad ae v7 h0)))))))))
theorem Zx0 (s : List (Tup Zaa)) (s_n s_c : Nat) (i j : Int) (hK : ZeX s s_n s_c i j Kf) (v7 : Int) (h : Zpa s s_n s_c i j v7) : SemL Try.prog w0 fp ρi 1 33 [Zew, (.seq Zde (.seq ZcR .ret))] [(0, some (.slice ⟨0, 0, 0, 2⟩ s_n s_c)), (1, some (.int .i64 i)), (2, some (.int .i64 j)), (7, some (.int .i64 v7))] (ZfX s_n s) (fnK Zfn 1 Kf) :=
  Zrb ZgH (steps := ZjG) (ZvR s s_n s_c i j v7 _ ⟨h.1, ⟨h.2.1, ⟨h.2.2.1, ⟨h.2.2.2.1, ⟨h.2.2.2.2.1, ⟨h.2.2.2.2.2.1, ⟨h.2.2.2.2.2.2.1, ⟨h.2.2.2.2.2.2.2.1, ⟨h.2.2.2.2.2.2.2.2.1, (Zar (Zx1 s s_n s_c i j hK (((Int.toNat i) - 0) + (s_n - (Int.toNat j))) (s_c - 0) v7 (List.take ((Int.toNat i) - 0) s ++ (List.take (s_n - (Int.toNat j)) (List.drop (0 + (if s_c = (Int.toNat j) then 0 else (Int.toNat j))) s)) ++ List.drop (((Int.toNat i) - 0) + (s_n - (Int.toNat j))) s) (((h.2.2.2.2.2.2.2.2.2 (((Int.toNat i) - 0) + (s_n - (Int.toNat j))) rfl) (s_c - 0) rfl) (List.take ((Int.toNat i) - 0) s ++ (List.take (s_n - (Int.toNat j)) (List.drop (0 + (if s_c = (Int.toNat j) then 0 else (Int.toNat j))) s)) ++ List.drop (((Int.toNat i) - 0) + (s_n - (Int.toNat j))) s) rfl)))⟩⟩⟩⟩⟩⟩⟩⟩⟩)
abbrev Zra (x0 x1 : Nat) (x2 x3 : Int) : Env := [(0, some (.slice ⟨0, 0, 0, 2⟩ x0 x1)), (1, some (.int .i64 x2)), (2, some (.int .i64 x3))]
theorem ZvQ (s : List (Tup Zaa)) (s_n s_c : Nat) (i j : Int) (Z : Env -> Heap -> Prop) (h : Z [(0, some (.slice ⟨0, 0, 0, 2⟩ s_n s_c)), (1, some (.int .i64 i)), (2, some (.int .i64 j)), (7, some (.int .i64 ((s_n : Nat) : Int)))] (ZfX s_n s)) : EvC Zkg Zex (Zra s_n s_c i j) (ZfX s_n s) [0, 1, 2, 7] [0] Z := EvC.of (by kernel_rfl) h
def Zo9 (s : List (Tup Zaa)) (s_n s_c : Nat) (i j : Int) : Prop := ∀ v7 : Int, v7 = ((s_n : Nat) : Int) -> Zpa s s_n s_c i j v7
theorem ZxZ (s : List (Tup Zaa)) (s_n s_c : Nat) (i j : Int) (hK : ZeX s s_n s_c i j Kf) (h : Zo9 s s_n s_c i j) : SemL Try.prog w0 fp ρi 1 33 [Zex, (.seq Zew (.seq Zde (.seq ZcR .ret)))] (Zra s_n s_c i j) (ZfX s_n s) (fnK Zfn 1 Kf) :=
  Zan ZgH (ZvQ s s_n s_c i j _ (Zar (Zx0 s s_n s_c i j hK ((s_n : Nat) : Int) (h ((s_n : Nat) : Int) rfl))))
def Znj (s : List (Tup Zaa)) (s_n s_c : Nat) (i j : Int) : Prop := ((i == j) = true -> (Zpd s s_n s_c i j)) /\ ((i == j) = false -> (Zo9 s s_n s_c i j))
abbrev ZCb (x0 x1 : Nat) (x2 x3 : Int) : Env := [(0, some (.slice ⟨0, 0, 0, 2⟩ x0 x1)), (1, some (.int .i64 x2)), (2, some (.int .i64 x3)), (16, some (.bool (x2 == x3)))]
theorem ZxY (s : List (Tup Zaa)) (s_n s_c : Nat) (i j : Int) (hK : ZeX s s_n s_c i j Kf) (h : Znj s s_n s_c i j) : SemL Try.prog w0 fp ρi 1 33 [ZhQ, (.seq Zex (.seq Zew (.seq Zde (.seq ZcR .ret))))] (ZCb s_n s_c i j) (ZfX s_n s) (fnK Zfn 1 Kf) :=
  Za8 (q := (i == j)) (by kernel_rfl) (fun hq => (Zar (lpk [0] [0] (Zx3 s s_n s_c i j hK (h.1 hq))))) (fun hq => (ZbD (lpk [0, 1, 2] [0] (Zar (ZxZ s s_n s_c i j hK (h.2 hq))))))
theorem ZvP (s : List (Tup Zaa)) (s_n s_c : Nat) (i j : Int) (Z : Env -> Heap -> Prop) (h : Z (ZCb s_n s_c i j) (ZfX s_n s)) : EvC Zkg ZhR (Zra s_n s_c i j) (ZfX s_n s) [0, 1, 2, 16] [0] Z := EvC.of (by kernel_rfl) h
theorem ZxX (s : List (Tup Zaa)) (s_n s_c : Nat) (i j : Int) (hK : ZeX s s_n s_c i j Kf) (h : Znj s s_n s_c i j) : SemL Try.prog w0 fp ρi 1 33 [ZhR, ZhQ, (.seq Zex (.seq Zew (.seq Zde (.seq ZcR .ret))))] (Zra s_n s_c i j) (ZfX s_n s) (fnK Zfn 1 Kf) :=
  Zan ZgH (ZvP s s_n s_c i j _ (ZxY s s_n s_c i j hK h))
theorem ZvO (s : List (Tup Zaa)) (s_n s_c : Nat) (i j : Int) (Z : Env -> Heap -> Prop) (h : ((0 <= ((s_n : Nat) : Int))) /\ ((((s_n : Nat) : Int) <= ((s_c : Nat) : Int))) /\ ((0 <= j)) /\ ((j <= (((Int.toNat ((s_n : Nat) : Int)) : Nat) : Int))) /\ ((0 <= i)) /\ ((i <= (((Int.toNat j) : Nat) : Int))) /\ Z (Zra s_n s_c i j) (ZfX s_n s)) : EvC Zkg ZjH (Zra s_n s_c i j) (ZfX s_n s) [0, 1, 2] [0] Z := EvC.of (by kernel_rfl) h
def Zko (s : List (Tup Zaa)) (s_n s_c : Nat) (i j : Int) : Prop := ((0 <= ((s_n : Nat) : Int))) /\ (((((s_n : Nat) : Int) <= ((s_c : Nat) : Int))) /\ (((0 <= j)) /\ (((j <= (((Int.toNat ((s_n : Nat) : Int)) : Nat) : Int))) /\ (((0 <= i)) /\ (((i <= (((Int.toNat j) : Nat) : Int))) /\ (Znj s s_n s_c i j))))))
theorem ZxW (s : List (Tup Zaa)) (s_n s_c : Nat) (i j : Int) (hK : ZeX s s_n s_c i j Kf) (h : Zko s s_n s_c i j) : SemL Try.prog w0 fp ρi 1 33 [ZjH, (.seq (.seq ZhR ZhQ) (.seq Zex (.seq Zew (.seq Zde (.seq ZcR .ret)))))] (Zra s_n s_c i j) (ZfX s_n s) (fnK Zfn 1 Kf) :=
  Zan ZgH (ZvO s s_n s_c i j _ ⟨h.1, ⟨h.2.1, ⟨h.2.2.1, ⟨h.2.2.2.1, ⟨h.2.2.2.2.1, ⟨h.2.2.2.2.2.1, (Zar (Zar (ZxX s s_n s_c i j hK h.2.2.2.2.2.2)))⟩⟩⟩⟩⟩⟩)
theorem ZvN (s : List (Tup Zaa)) (s_n s_c : Nat) (i j : Int) (Z : Env -> Heap -> Prop) (h : Z (Zra s_n s_c i j) (ZfX s_n s)) : EvC Zkg Zmf (Zra s_n s_c i j) (ZfX s_n s) [0, 1, 2] [0] Z := EvC.of (by kernel_rfl) h
theorem ZxV (s : List (Tup Zaa)) (s_n s_c : Nat) (i j : Int) (hK : ZeX s s_n s_c i j Kf) (h : Zko s s_n s_c i j) : SemL Try.prog w0 fp ρi 1 33 [Zmf, (.seq ZjH (.seq (.seq ZhR ZhQ) (.seq Zex (.seq Zew (.seq Zde (.seq ZcR .ret))))))] (Zra s_n s_c i j) (ZfX s_n s) (fnK Zfn 1 Kf) :=
  Zan ZgH (ZvN s s_n s_c i j _ (Zar (ZxW s s_n s_c i j hK h)))
theorem ZAz (s : List (Tup Zaa)) (s_n s_c : Nat) (i j : Int) (hK : ZeX s s_n s_c i j Kf) (h : Zko s s_n s_c i j) : SemL Try.prog w0 fp ρi 1 33 [ZzQ] (Zra s_n s_c i j) (ZfX s_n s) (fnK Zfn 1 Kf) :=
  (Zar (ZxV s s_n s_c i j hK h))
end
theorem ZzC (s : List (Tup Zaa)) (s_n s_c : Nat) (i j : Int) (hpre : ((List.length s = s_n /\ s_n <= s_c /\ s_n <= 1000) /\ 0 <= i /\ i <= j /\ j <= (s_n : Int))) : Zko s s_n s_c i j := by
  unfold Zko Znj Zo9 Zpa Zpb Zpc Zpd
  obtain ⟨⟨hl, hc, hm⟩, h1, h2, h3⟩ := hpre
  refine ⟨by omega, by omega, by omega, by omega, h1, by omega, fun h => ?_, fun h => ?_⟩
  · obtain rfl : i = j := by simpa using h
    exact ⟨by omega, delRow_same.symm⟩
  have hne : i ≠ j := by simpa using h
  rintro v7 rfl
  have hq : (0 + if s_c = j.toNat then 0 else j.toNat) = j.toNat ∨ s_n - j.toNat = 0 := by split <;> omega
  have hq2 : (0 + if s_c = j.toNat then 0 else j.toNat) + (s_n - j.toNat) <= s_n := by split <;> omega
  generalize (0 + if s_c = j.toNat then 0 else j.toNat) = q at hq hq2 ⊢
  refine ⟨h1, by omega, by omega, by omega, hq2, hl, by omega, by omega, hl, ?_⟩
  rintro ad rfl ae hv0c g rfl
  obtain hv0c : ae = s_c := by omega
  rw [hv0c]
  have hx : ¬ (s_c = ((i.toNat - 0 + (s_n - j.toNat) : Nat) : Int).toNat) := by omega
  rw [if_neg hx]
  refine ⟨by omega, by omega, by omega, by omega, by omega, by simp only [List.length_append, List.length_take, List.length_drop, hl]; omega, ?_⟩
  rintro _ rfl
  refine ⟨by omega, by omega, ?_⟩
  have := ZqR hl hc h1 (by omega) h3 q hq
  rw [<- this]
  simp only [Nat.sub_zero, Nat.zero_add, Int.toNat_natCast]
  rw [show i.toNat + (s_n - j.toNat) + (s_n - (i.toNat + (s_n - j.toNat))) = s_n by omega]
theorem Zvh : Sound Try.prog 53 (gS ZuV) := by
  refine Za2 ZoL ?_
  intro args H K h
  obtain ⟨pre, out, hD, hpre, hK⟩ := Zct h
  unfold ZuV at hD
  split at hD
  · cases hD
    obtain ⟨rfl, hpre⟩ := hpre
    exact ⟨rfl, fun w0 fp ρi => ZAz _ _ _ _ _ hK (ZzC _ _ _ _ _ hpre)⟩
  · cases hD
def Zrg : Zd4 := fun args H => match args, H with
  | [.ptr ⟨1, 0, set_i, 1⟩ 1, .int .i64 aa], ⟨2, [(0, some ⟨true, [.rows [.int .i64, .int .i64] xs_m xs], 0⟩), (1, some ⟨true, [.rows [.hd] set_s set_a, .one (.slice ⟨0, 0, 0, 2⟩ xs_n xs_c), .rows [.hd] set_t set_b], 0⟩)]⟩ => some (xs_m = xs_n /\ set_i = set_s /\ ((List.length xs = xs_n /\ xs_n <= xs_c /\ xs_n <= 1000) /\ 0 <= aa /\ aa < (xs_n : Int)), fun K => K (.tuple []) ⟨2, [(0, some ⟨true, [.rows Zaa xs_n (ZaW aa xs)], 0⟩), (1, some ⟨true, [.rows Zab set_s set_a, .one (.slice ⟨0, 0, 0, 2⟩ xs_n xs_c), .rows Zab set_t set_b], 0⟩)]⟩)
  | _, _ => none
def Zn6 : Con := ⟨52, gS Zrg, [0, 1], [], []⟩
def ZlH (xs : List (Tup Zaa)) (xs_n xs_c set_s : Nat) (set_a : List (Tup Zab)) (set_t : Nat) (set_b : List (Tup Zab)) (aa : Int) (Kf : SVal -> Heap -> Prop) : Prop := Kf (.tuple []) ⟨2, [(0, some ⟨true, [.rows Zaa xs_n (ZaW aa xs)], 0⟩), (1, some ⟨true, [.rows Zab set_s set_a, .one (.slice ⟨0, 0, 0, 2⟩ xs_n xs_c), .rows Zab set_t set_b], 0⟩)]⟩
def Zmh : ACode := .reg (.op (some 5) (.mov (.tm 0)) (.op (some 6) (.nilCheck (.tm 5)) (.op (some 7) (.load1 (.tm 6)) (.op (some 8) (.mov (.tm 1)) (.op (some 9) (.idxS (.tm 7) (.tm 8) 2) (.op (some 10) (.loadA 2 (.tm 9)) (.op (some 4) (.alloc [.i 0, .i 0]) (.op none (.storeA 2 (.tm 4) (.tm 10)) .nil))))))))
def ZjI : MTree := (.st 0 0 none (some 11) (.mov (.tm 0)) (.st 1 0 none (some 12) (.mov (.tm 0)) (.st 2 0 none (some 13) (.nilCheck (.tm 12)) (.st 3 0 none (some 14) (.load1 (.tm 13)) (.st 4 0 none (some 15) (.mov (.tm 1)) (.st 5 0 none (some 16) (.mov (.tm 1)) (.st 6 0 none (some 17) (.bin .add (.tm 16) (.cn (.int .i64 1))) (.st 8 0 none (some 19) (.loadA 2 (.tm 4)) (.alt (.st 7 1 none (some 18) (.call 53 [(.tm 14), (.tm 15), (.tm 17)]) (.st 9 1 none (some 20) (.bsliceR Zaa 1 [(.tm 19)]) (.st 10 1 none (some 21) (.appendIn Zaa (.tm 18) (.tm 20)) (.st 11 0 none (some 22) (.nilCheck (.tm 11)) (.st 12 2 none none (.store1 (.tm 22) (.tm 21)) .nil))))) (.st 9 1 none (some 20) (.bsliceR Zaa 1 [(.tm 19)]) (.st 7 1 none (some 18) (.call 53 [(.tm 14), (.tm 15), (.tm 17)]) (.st 10 1 none (some 21) (.appendIn Zaa (.tm 18) (.tm 20)) (.st 11 0 none (some 22) (.nilCheck (.tm 11)) (.st 12 2 none none (.store1 (.tm 22) (.tm 21)) .nil))))))))))))))
def Zmg : ACode := .regT ZjI
def Zsr : ACode := (.seq Zmh Zmg)
def ZgN : Res := .many []
theorem ZmQ : ZbX Try.prog 52 2 23 Zsr ZgN = true := by kernel_rfl
def Zrd : ZaC := Zdz [] [Zq2]
theorem ZqL : ZaT Try.prog Zrd := Zba trivial ⟨Zvh, trivial⟩
section
variable {w0 : World} {fp : Nat -> Nat -> Prop} {ρi : Rho} {Kf : SVal -> Heap -> Prop}
abbrev ZBr (x0 : Nat) (x1 : Int) : Env := [(0, some (.ptr ⟨1, 0, x0, 1⟩ 1)), (1, some (.int .i64 x1)), (4, some (.ptr ⟨2, 0, 0, 1⟩ 2))]
theorem ZvW (xs : List (Tup Zaa)) (xs_n xs_c set_s : Nat) (set_a : List (Tup Zab)) (set_t : Nat) (set_b : List (Tup Zab)) (aa ac ab : Int) (Z : Env -> Heap -> Prop) (h : (((set_s : Nat) = set_s)) /\ ((((xs_n : Nat) = xs_n)) /\ (((xs_n : Nat) = xs_n) /\ ((List.length xs = xs_n /\ xs_n <= xs_c /\ xs_n <= 1000) /\ 0 <= aa /\ aa <= (IntKind.i64.wrap (aa + 1)) /\ (IntKind.i64.wrap (aa + 1)) <= (xs_n : Int))) /\ (((xs_n : Nat) = xs_n)) /\ (((xs_n : Nat) = xs_n)) /\ ((Zb3 ⟨3, [(0, some ⟨true, [.rows Zaa xs_n (ZaI aa (IntKind.i64.wrap (aa + 1)) xs)], 0⟩), (1, some ⟨true, [.rows Zab set_s set_a, .one (.slice ⟨0, 0, 0, 2⟩ xs_n xs_c), .rows Zab set_t set_b], 0⟩), (2, some ⟨true, [.i ac, .i ab], 0⟩)]⟩ (Heap.keep ⟨3, [(0, some ⟨true, [.rows Zaa xs_n xs], 0⟩), (1, some ⟨true, [.rows Zab set_s set_a, .one (.slice ⟨0, 0, 0, 2⟩ xs_n xs_c), .rows Zab set_t set_b], 0⟩), (2, some ⟨true, [.i ac, .i ab], 0⟩)]⟩ [2, 1]) (ZbS [2, 1] ⟨3, [(0, some ⟨true, [.rows Zaa xs_n xs], 0⟩), (1, some ⟨true, [.rows Zab set_s set_a, .one (.slice ⟨0, 0, 0, 2⟩ xs_n xs_c), .rows Zab set_t set_b], 0⟩), (2, some ⟨true, [.i ac, .i ab], 0⟩)]⟩))) /\ ((Zb3 ⟨4, [(0, some ⟨true, [.rows Zaa xs_n (ZaI aa (IntKind.i64.wrap (aa + 1)) xs)], 0⟩), (1, some ⟨true, [.rows Zab set_s set_a, .one (.slice ⟨0, 0, 0, 2⟩ xs_n xs_c), .rows Zab set_t set_b], 0⟩), (2, some ⟨true, [.i ac, .i ab], 0⟩), (3, some ⟨true, [.rows Zaa 1 [((ac, ab) : Tup Zaa)]], 0⟩)]⟩ (Heap.keep ⟨3, [(0, some ⟨true, [.rows Zaa xs_n (ZaI aa (IntKind.i64.wrap (aa + 1)) xs)], 0⟩), (1, some ⟨true, [.rows Zab set_s set_a, .one (.slice ⟨0, 0, 0, 2⟩ xs_n xs_c), .rows Zab set_t set_b], 0⟩), (2, some ⟨true, [.i ac, .i ab], 0⟩)]⟩ [2, 1]) (ZbS [2, 1] ⟨3, [(0, some ⟨true, [.rows Zaa xs_n (ZaI aa (IntKind.i64.wrap (aa + 1)) xs)], 0⟩), (1, some ⟨true, [.rows Zab set_s set_a, .one (.slice ⟨0, 0, 0, 2⟩ xs_n xs_c), .rows Zab set_t set_b], 0⟩), (2, some ⟨true, [.i ac, .i ab], 0⟩)]⟩))) /\ (((1 : Nat) <= 1)) /\ ((List.length [((ac, ab) : Tup Zaa)] = 1)) /\ ((((xs_n - (Int.toNat (IntKind.i64.wrap (aa + 1)) - Int.toNat aa)) + 1) <= xs_n)) /\ ((((xs_n - (Int.toNat (IntKind.i64.wrap (aa + 1)) - Int.toNat aa)) + 1) <= xs_c)) /\ ((List.length (ZaI aa (IntKind.i64.wrap (aa + 1)) xs) = xs_n)) /\ ((Zb3 ⟨4, [(0, some ⟨true, [.rows Zaa xs_n (List.take (xs_n - (Int.toNat (IntKind.i64.wrap (aa + 1)) - Int.toNat aa)) (ZaI aa (IntKind.i64.wrap (aa + 1)) xs) ++ (List.take 1 (List.drop 0 [((ac, ab) : Tup Zaa)])) ++ List.drop ((xs_n - (Int.toNat (IntKind.i64.wrap (aa + 1)) - Int.toNat aa)) + 1) (ZaI aa (IntKind.i64.wrap (aa + 1)) xs))], 0⟩), (1, some ⟨true, [.rows Zab set_s set_a, .one (.slice ⟨0, 0, 0, 2⟩ xs_n xs_c), .rows Zab set_t set_b], 0⟩), (2, some ⟨true, [.i ac, .i ab], 0⟩), (3, some ⟨true, [.rows Zaa 1 [((ac, ab) : Tup Zaa)]], 0⟩)]⟩ (Heap.keep ⟨4, [(0, some ⟨true, [.rows Zaa xs_n (ZaI aa (IntKind.i64.wrap (aa + 1)) xs)], 0⟩), (1, some ⟨true, [.rows Zab set_s set_a, .one (.slice ⟨0, 0, 0, 2⟩ xs_n xs_c), .rows Zab set_t set_b], 0⟩), (2, some ⟨true, [.i ac, .i ab], 0⟩), (3, some ⟨true, [.rows Zaa 1 [((ac, ab) : Tup Zaa)]], 0⟩)]⟩ [2, 1]) (ZbS [2, 1] ⟨4, [(0, some ⟨true, [.rows Zaa xs_n (ZaI aa (IntKind.i64.wrap (aa + 1)) xs)], 0⟩), (1, some ⟨true, [.rows Zab set_s set_a, .one (.slice ⟨0, 0, 0, 2⟩ xs_n xs_c), .rows Zab set_t set_b], 0⟩), (2, some ⟨true, [.i ac, .i ab], 0⟩), (3, some ⟨true, [.rows Zaa 1 [((ac, ab) : Tup Zaa)]], 0⟩)]⟩))) /\ (((set_s : Nat) = set_s)) /\ Z [] ⟨4, [(0, some ⟨true, [.rows Zaa xs_n (List.take (xs_n - (Int.toNat (IntKind.i64.wrap (aa + 1)) - Int.toNat aa)) (ZaI aa (IntKind.i64.wrap (aa + 1)) xs) ++ (List.take 1 (List.drop 0 [((ac, ab) : Tup Zaa)])) ++ List.drop ((xs_n - (Int.toNat (IntKind.i64.wrap (aa + 1)) - Int.toNat aa)) + 1) (ZaI aa (IntKind.i64.wrap (aa + 1)) xs))], 0⟩), (1, some ⟨true, [.rows Zab set_s set_a, .one (.slice ⟨0, 0, 0, 2⟩ ((xs_n - (Int.toNat (IntKind.i64.wrap (aa + 1)) - Int.toNat aa)) + 1) xs_c), .rows Zab set_t set_b], 0⟩)]⟩) /\ ((Zb3 ⟨4, [(0, some ⟨true, [.rows Zaa xs_n xs], 0⟩), (1, some ⟨true, [.rows Zab set_s set_a, .one (.slice ⟨0, 0, 0, 2⟩ xs_n xs_c), .rows Zab set_t set_b], 0⟩), (2, some ⟨true, [.i ac, .i ab], 0⟩), (3, some ⟨true, [.rows Zaa 1 [((ac, ab) : Tup Zaa)]], 0⟩)]⟩ (Heap.keep ⟨3, [(0, some ⟨true, [.rows Zaa xs_n xs], 0⟩), (1, some ⟨true, [.rows Zab set_s set_a, .one (.slice ⟨0, 0, 0, 2⟩ xs_n xs_c), .rows Zab set_t set_b], 0⟩), (2, some ⟨true, [.i ac, .i ab], 0⟩)]⟩ [2, 1]) (ZbS [2, 1] ⟨3, [(0, some ⟨true, [.rows Zaa xs_n xs], 0⟩), (1, some ⟨true, [.rows Zab set_s set_a, .one (.slice ⟨0, 0, 0, 2⟩ xs_n xs_c), .rows Zab set_t set_b], 0⟩), (2, some ⟨true, [.i ac, .i ab], 0⟩)]⟩))) /\ (((xs_n : Nat) = xs_n)) /\ (((xs_n : Nat) = xs_n) /\ ((List.length xs = xs_n /\ xs_n <= xs_c /\ xs_n <= 1000) /\ 0 <= aa /\ aa <= (IntKind.i64.wrap (aa + 1)) /\ (IntKind.i64.wrap (aa + 1)) <= (xs_n : Int))) /\ (((xs_n : Nat) = xs_n)) /\ (((xs_n : Nat) = xs_n)) /\ ((Zb3 ⟨4, [(0, some ⟨true, [.rows Zaa xs_n (ZaI aa (IntKind.i64.wrap (aa + 1)) xs)], 0⟩), (1, some ⟨true, [.rows Zab set_s set_a, .one (.slice ⟨0, 0, 0, 2⟩ xs_n xs_c), .rows Zab set_t set_b], 0⟩), (2, some ⟨true, [.i ac, .i ab], 0⟩), (3, some ⟨true, [.rows Zaa 1 [((ac, ab) : Tup Zaa)]], 0⟩)]⟩ (Heap.keep ⟨4, [(0, some ⟨true, [.rows Zaa xs_n xs], 0⟩), (1, some ⟨true, [.rows Zab set_s set_a, .one (.slice ⟨0, 0, 0, 2⟩ xs_n xs_c), .rows Zab set_t set_b], 0⟩), (2, some ⟨true, [.i ac, .i ab], 0⟩), (3, some ⟨true, [.rows Zaa 1 [((ac, ab) : Tup Zaa)]], 0⟩)]⟩ [2, 1]) (ZbS [2, 1] ⟨4, [(0, some ⟨true, [.rows Zaa xs_n xs], 0⟩), (1, some ⟨true, [.rows Zab set_s set_a, .one (.slice ⟨0, 0, 0, 2⟩ xs_n xs_c), .rows Zab set_t set_b], 0⟩), (2, some ⟨true, [.i ac, .i ab], 0⟩), (3, some ⟨true, [.rows Zaa 1 [((ac, ab) : Tup Zaa)]], 0⟩)]⟩))) /\ (((1 : Nat) <= 1)) /\ ((List.length [((ac, ab) : Tup Zaa)] = 1)) /\ ((((xs_n - (Int.toNat (IntKind.i64.wrap (aa + 1)) - Int.toNat aa)) + 1) <= xs_n)) /\ ((((xs_n - (Int.toNat (IntKind.i64.wrap (aa + 1)) - Int.toNat aa)) + 1) <= xs_c)) /\ ((List.length (ZaI aa (IntKind.i64.wrap (aa + 1)) xs) = xs_n)) /\ ((Zb3 ⟨4, [(0, some ⟨true, [.rows Zaa xs_n (List.take (xs_n - (Int.toNat (IntKind.i64.wrap (aa + 1)) - Int.toNat aa)) (ZaI aa (IntKind.i64.wrap (aa + 1)) xs) ++ (List.take 1 (List.drop 0 [((ac, ab) : Tup Zaa)])) ++ List.drop ((xs_n - (Int.toNat (IntKind.i64.wrap (aa + 1)) - Int.toNat aa)) + 1) (ZaI aa (IntKind.i64.wrap (aa + 1)) xs))], 0⟩), (1, some ⟨true, [.rows Zab set_s set_a, .one (.slice ⟨0, 0, 0, 2⟩ xs_n xs_c), .rows Zab set_t set_b], 0⟩), (2, some ⟨true, [.i ac, .i ab], 0⟩), (3, some ⟨true, [.rows Zaa 1 [((ac, ab) : Tup Zaa)]], 0⟩)]⟩ (Heap.keep ⟨4, [(0, some ⟨true, [.rows Zaa xs_n (ZaI aa (IntKind.i64.wrap (aa + 1)) xs)], 0⟩), (1, some ⟨true, [.rows Zab set_s set_a, .one (.slice ⟨0, 0, 0, 2⟩ xs_n xs_c), .rows Zab set_t set_b], 0⟩), (2, some ⟨true, [.i ac, .i ab], 0⟩), (3, some ⟨true, [.rows Zaa 1 [((ac, ab) : Tup Zaa)]], 0⟩)]⟩ [2, 1]) (ZbS [2, 1] ⟨4, [(0, some ⟨true, [.rows Zaa xs_n (ZaI aa (IntKind.i64.wrap (aa + 1)) xs)], 0⟩), (1, some ⟨true, [.rows Zab set_s set_a, .one (.slice ⟨0, 0, 0, 2⟩ xs_n xs_c), .rows Zab set_t set_b], 0⟩), (2, some ⟨true, [.i ac, .i ab], 0⟩), (3, some ⟨true, [.rows Zaa 1 [((ac, ab) : Tup Zaa)]], 0⟩)]⟩))) /\ (((set_s : Nat) = set_s)) /\ Z [] ⟨4, [(0, some ⟨true, [.rows Zaa xs_n (List.take (xs_n - (Int.toNat (IntKind.i64.wrap (aa + 1)) - Int.toNat aa)) (ZaI aa (IntKind.i64.wrap (aa + 1)) xs) ++ (List.take 1 (List.drop 0 [((ac, ab) : Tup Zaa)])) ++ List.drop ((xs_n - (Int.toNat (IntKind.i64.wrap (aa + 1)) - Int.toNat aa)) + 1) (ZaI aa (IntKind.i64.wrap (aa + 1)) xs))], 0⟩), (1, some ⟨true, [.rows Zab set_s set_a, .one (.slice ⟨0, 0, 0, 2⟩ ((xs_n - (Int.toNat (IntKind.i64.wrap (aa + 1)) - Int.toNat aa)) + 1) xs_c), .rows Zab set_t set_b], 0⟩)]⟩) : EvTC Zrd ZjI [[], [], [], [1], [], [], [], [2], [], [], [], [], []] (ZBr set_s aa) ⟨3, [(0, some ⟨true, [.rows Zaa xs_n xs], 0⟩), (1, some ⟨true, [.rows Zab set_s set_a, .one (.slice ⟨0, 0, 0, 2⟩ xs_n xs_c), .rows Zab set_t set_b], 0⟩), (2, some ⟨true, [.i ac, .i ab], 0⟩)]⟩ [] [0, 1] Z := EvTC.of (by kernel_rfl) h
abbrev ZCa (x0 : Nat) (x1 : Int) (x2 : List (Tup Zaa)) (x3 x4 : Int) (x5 : Nat) (x6 : List (Tup Zab)) (x7 x8 : Nat) (x9 : List (Tup Zab)) : Heap := ⟨4, [(0, some ⟨true, [.rows Zaa x0 (List.take (x0 - (Int.toNat (IntKind.i64.wrap (x1 + 1)) - Int.toNat x1)) (ZaI x1 (IntKind.i64.wrap (x1 + 1)) x2) ++ (List.take 1 (List.drop 0 [((x3, x4) : Tup Zaa)])) ++ List.drop ((x0 - (Int.toNat (IntKind.i64.wrap (x1 + 1)) - Int.toNat x1)) + 1) (ZaI x1 (IntKind.i64.wrap (x1 + 1)) x2))], 0⟩), (1, some ⟨true, [.rows Zab x5 x6, .one (.slice ⟨0, 0, 0, 2⟩ ((x0 - (Int.toNat (IntKind.i64.wrap (x1 + 1)) - Int.toNat x1)) + 1) x7), .rows Zab x8 x9], 0⟩)]⟩
theorem Ztk (xs : List (Tup Zaa)) (xs_n xs_c set_s : Nat) (set_a : List (Tup Zab)) (set_t : Nat) (set_b : List (Tup Zab)) (aa ac ab : Int) : RetC ZgN [] (ZCa xs_n aa xs ac ab set_s set_a xs_c set_t set_b) (.tuple []) := RetC.of (fun Z => by kernel_rfl)
theorem Ztj (xs : List (Tup Zaa)) (xs_n xs_c set_s : Nat) (set_a : List (Tup Zab)) (set_t : Nat) (set_b : List (Tup Zab)) (aa ac ab : Int) : RetC ZgN [] (ZCa xs_n aa xs ac ab set_s set_a xs_c set_t set_b) (.tuple []) := RetC.of (fun Z => by kernel_rfl)
def Zpe (xs : List (Tup Zaa)) (xs_n xs_c set_s : Nat) (set_a : List (Tup Zab)) (set_t : Nat) (set_b : List (Tup Zab)) (aa ac ab : Int) : Prop := ((((List.length xs = xs_n /\ xs_n <= xs_c /\ xs_n <= 1000) /\ 0 <= aa /\ aa <= (IntKind.i64.wrap (aa + 1)) /\ (IntKind.i64.wrap (aa + 1)) <= (xs_n : Int))) /\ (((((xs_n - (Int.toNat (IntKind.i64.wrap (aa + 1)) - Int.toNat aa)) + 1) <= xs_n)) /\ (((((xs_n - (Int.toNat (IntKind.i64.wrap (aa + 1)) - Int.toNat aa)) + 1) <= xs_c)) /\ (((List.length (ZaI aa (IntKind.i64.wrap (aa + 1)) xs) = xs_n)) /\ (((List.take (xs_n - (Int.toNat (IntKind.i64.wrap (aa + 1)) - Int.toNat aa)) (ZaI aa (IntKind.i64.wrap (aa + 1)) xs) ++ (List.take 1 (List.drop 0 [((ac, ab) : Tup Zaa)])) ++ List.drop ((xs_n - (Int.toNat (IntKind.i64.wrap (aa + 1)) - Int.toNat aa)) + 1) (ZaI aa (IntKind.i64.wrap (aa + 1)) xs)) = (ZaW aa xs)) /\ (((xs_n - (Int.toNat (IntKind.i64.wrap (aa + 1)) - Int.toNat aa)) + 1) = xs_n)))))) /\ ((((List.length xs = xs_n /\ xs_n <= xs_c /\ xs_n <= 1000) /\ 0 <= aa /\ aa <= (IntKind.i64.wrap (aa + 1)) /\ (IntKind.i64.wrap (aa + 1)) <= (xs_n : Int))) /\ (((((xs_n - (Int.toNat (IntKind.i64.wrap (aa + 1)) - Int.toNat aa)) + 1) <= xs_n)) /\ (((((xs_n - (Int.toNat (IntKind.i64.wrap (aa + 1)) - Int.toNat aa)) + 1) <= xs_c)) /\ (((List.length (ZaI aa (IntKind.i64.wrap (aa + 1)) xs) = xs_n)) /\ (((List.take (xs_n - (Int.toNat (IntKind.i64.wrap (aa + 1)) - Int.toNat aa)) (ZaI aa (IntKind.i64.wrap (aa + 1)) xs) ++ (List.take 1 (List.drop 0 [((ac, ab) : Tup Zaa)])) ++ List.drop ((xs_n - (Int.toNat (IntKind.i64.wrap (aa + 1)) - Int.toNat aa)) + 1) (ZaI aa (IntKind.i64.wrap (aa + 1)) xs)) = (ZaW aa xs)) /\ (((xs_n - (Int.toNat (IntKind.i64.wrap (aa + 1)) - Int.toNat aa)) + 1) = xs_n))))))
theorem Zx5 (xs : List (Tup Zaa)) (xs_n xs_c set_s : Nat) (set_a : List (Tup Zab)) (set_t : Nat) (set_b : List (Tup Zab)) (aa : Int) (hK : ZlH xs xs_n xs_c set_s set_a set_t set_b aa Kf) (ac ab : Int) (h : Zpe xs xs_n xs_c set_s set_a set_t set_b aa ac ab) : SemL Try.prog w0 fp ρi 2 23 [Zmg] (ZBr set_s aa) ⟨3, [(0, some ⟨true, [.rows Zaa xs_n xs], 0⟩), (1, some ⟨true, [.rows Zab set_s set_a, .one (.slice ⟨0, 0, 0, 2⟩ xs_n xs_c), .rows Zab set_t set_b], 0⟩), (2, some ⟨true, [.i ac, .i ab], 0⟩)]⟩ (fnK ZgN 2 Kf) :=
  ZuT ZqL (t := ZjI) (ZvW xs xs_n xs_c set_s set_a set_t set_b aa ac ab _ ⟨rfl, ⟨⟨rfl, ⟨⟨rfl, h.1.1⟩, ⟨rfl, ⟨rfl, ⟨(ZcC (by kernel_rfl)), ⟨(ZcC (by kernel_rfl)), ⟨(by decide), ⟨rfl, ⟨h.1.2.1, ⟨h.1.2.2.1, ⟨h.1.2.2.2.1, ⟨(ZcC (by kernel_rfl)), ⟨rfl, (Zsy (R := ZgN) (m := 2) (Kf := Kf) (fun _ _ h => h) (Ztk xs xs_n xs_c set_s set_a set_t set_b aa ac ab) (ZaM (Eq.mpr (cg2 (fun (z1 : List (Tup Zaa)) (z2 : Nat) => Zd2 2 Kf (.tuple []) ⟨4, [(0, some ⟨true, [.rows Zaa xs_n z1], 0⟩), (1, some ⟨true, [.rows Zab set_s set_a, .one (.slice ⟨0, 0, 0, 2⟩ z2 xs_c), .rows Zab set_t set_b], 0⟩)]⟩) h.1.2.2.2.2.1 h.1.2.2.2.2.2) (ZaE [] [0, 1] rfl (by kernel_rfl) rfl (Zd0 Zd1) (hsc pcs (hsc (Zau (Zam bsl (Zau Zav))) Zak)) rfl (by kernel_rfl) (hK)))))⟩⟩⟩⟩⟩⟩⟩⟩⟩⟩⟩⟩⟩, ⟨(ZcC (by kernel_rfl)), ⟨rfl, ⟨⟨rfl, h.2.1⟩, ⟨rfl, ⟨rfl, ⟨(ZcC (by kernel_rfl)), ⟨(by decide), ⟨rfl, ⟨h.2.2.1, ⟨h.2.2.2.1, ⟨h.2.2.2.2.1, ⟨(ZcC (by kernel_rfl)), ⟨rfl, (Zsy (R := ZgN) (m := 2) (Kf := Kf) (fun _ _ h => h) (Ztj xs xs_n xs_c set_s set_a set_t set_b aa ac ab) (ZaM (Eq.mpr (cg2 (fun (z1 : List (Tup Zaa)) (z2 : Nat) => Zd2 2 Kf (.tuple []) ⟨4, [(0, some ⟨true, [.rows Zaa xs_n z1], 0⟩), (1, some ⟨true, [.rows Zab set_s set_a, .one (.slice ⟨0, 0, 0, 2⟩ z2 xs_c), .rows Zab set_t set_b], 0⟩)]⟩) h.2.2.2.2.2.1 h.2.2.2.2.2.2) (ZaE [] [0, 1] rfl (by kernel_rfl) rfl (Zd0 Zd1) (hsc pcs (hsc (Zau (Zam bsl (Zau Zav))) Zak)) rfl (by kernel_rfl) (hK)))))⟩⟩⟩⟩⟩⟩⟩⟩⟩⟩⟩⟩⟩⟩⟩)
abbrev ZBq (x0 : Nat) (x1 : Int) : Env := [(0, some (.ptr ⟨1, 0, x0, 1⟩ 1)), (1, some (.int .i64 x1))]
abbrev ZBp (x0 : Nat) (x1 : List (Tup Zaa)) (x2 : Nat) (x3 : List (Tup Zab)) (x4 x5 : Nat) (x6 : List (Tup Zab)) : Heap := ⟨2, [(0, some ⟨true, [.rows Zaa x0 x1], 0⟩), (1, some ⟨true, [.rows Zab x2 x3, .one (.slice ⟨0, 0, 0, 2⟩ x0 x4), .rows Zab x5 x6], 0⟩)]⟩
theorem ZvV (xs : List (Tup Zaa)) (xs_n xs_c set_s : Nat) (set_a : List (Tup Zab)) (set_t : Nat) (set_b : List (Tup Zab)) (aa : Int) (Z : Env -> Heap -> Prop) (h : (((set_s : Nat) = set_s)) /\ ((0 <= aa)) /\ ((aa < ((xs_n : Nat) : Int))) /\ (((0 + (Int.toNat aa)) < xs_n)) /\ Z (ZBr set_s aa) ⟨3, [(0, some ⟨true, [.rows Zaa xs_n xs], 0⟩), (1, some ⟨true, [.rows Zab set_s set_a, .one (.slice ⟨0, 0, 0, 2⟩ xs_n xs_c), .rows Zab set_t set_b], 0⟩), (2, some ⟨true, [.i (List.getD xs (0 + (Int.toNat aa)) (Tup.dflt Zaa)).1, .i (List.getD xs (0 + (Int.toNat aa)) (Tup.dflt Zaa)).2], 0⟩)]⟩) : EvC Zrd Zmh (ZBq set_s aa) (ZBp xs_n xs set_s set_a xs_c set_t set_b) [0, 1, 4] [0, 1, 2] Z := EvC.of (by kernel_rfl) h
def Znk (xs : List (Tup Zaa)) (xs_n xs_c set_s : Nat) (set_a : List (Tup Zab)) (set_t : Nat) (set_b : List (Tup Zab)) (aa : Int) : Prop := ((0 <= aa)) /\ (((aa < ((xs_n : Nat) : Int))) /\ ((((0 + (Int.toNat aa)) < xs_n)) /\ (∀ ac : Int, ac = (List.getD xs (0 + (Int.toNat aa)) (Tup.dflt Zaa)).1 -> ∀ ab : Int, ab = (List.getD xs (0 + (Int.toNat aa)) (Tup.dflt Zaa)).2 -> Zpe xs xs_n xs_c set_s set_a set_t set_b aa ac ab)))
theorem Zx4 (xs : List (Tup Zaa)) (xs_n xs_c set_s : Nat) (set_a : List (Tup Zab)) (set_t : Nat) (set_b : List (Tup Zab)) (aa : Int) (hK : ZlH xs xs_n xs_c set_s set_a set_t set_b aa Kf) (h : Znk xs xs_n xs_c set_s set_a set_t set_b aa) : SemL Try.prog w0 fp ρi 2 23 [Zmh, Zmg] (ZBq set_s aa) (ZBp xs_n xs set_s set_a xs_c set_t set_b) (fnK ZgN 2 Kf) :=
  Zan ZqL (ZvV xs xs_n xs_c set_s set_a set_t set_b aa _ ⟨rfl, ⟨h.1, ⟨h.2.1, ⟨h.2.2.1, (Zx5 xs xs_n xs_c set_s set_a set_t set_b aa hK (List.getD xs (0 + (Int.toNat aa)) (Tup.dflt Zaa)).1 (List.getD xs (0 + (Int.toNat aa)) (Tup.dflt Zaa)).2 ((h.2.2.2 (List.getD xs (0 + (Int.toNat aa)) (Tup.dflt Zaa)).1 rfl) (List.getD xs (0 + (Int.toNat aa)) (Tup.dflt Zaa)).2 rfl))⟩⟩⟩⟩)
theorem Zu8 (xs : List (Tup Zaa)) (xs_n xs_c set_s : Nat) (set_a : List (Tup Zab)) (set_t : Nat) (set_b : List (Tup Zab)) (aa : Int) (hK : ZlH xs xs_n xs_c set_s set_a set_t set_b aa Kf) (h : Znk xs xs_n xs_c set_s set_a set_t set_b aa) : SemL Try.prog w0 fp ρi 2 23 [Zsr] (ZBq set_s aa) (ZBp xs_n xs set_s set_a xs_c set_t set_b) (fnK ZgN 2 Kf) :=
  (Zar (Zx4 xs xs_n xs_c set_s set_a set_t set_b aa hK h))
end
theorem Zus (xs : List (Tup Zaa)) (xs_n xs_c set_s : Nat) (set_a : List (Tup Zab)) (set_t : Nat) (set_b : List (Tup Zab)) (aa : Int) (hpre : ((List.length xs = xs_n /\ xs_n <= xs_c /\ xs_n <= 1000) /\ 0 <= aa /\ aa < (xs_n : Int))) : Znk xs xs_n xs_c set_s set_a set_t set_b aa := by
  unfold Znk Zpe
  obtain ⟨⟨hl, hc, hm⟩, h1, h2⟩ := hpre
  refine ⟨h1, h2, by omega, ?_⟩
  rintro _ rfl _ rfl
  have e1 : IntKind.i64.wrap (aa + 1) = aa + 1 := by rw [Zrq]; omega
  rw [e1, Nat.zero_add, show xs_n - ((aa + 1).toNat - aa.toNat) = xs_n - 1 by omega, show xs_n - 1 + 1 = xs_n by omega]
  have key := Zp9 hl h1 h2
  have hd : (ZaI aa (aa + 1) xs).length = xs_n := by rw [ZdP h1 (by omega) (by omega), hl]
  exact ⟨⟨⟨⟨hl, hc, hm⟩, h1, by omega, by omega⟩, by omega, hc, hd, key, rfl⟩, ⟨⟨hl, hc, hm⟩, h1, by omega, by omega⟩, by omega, hc, hd, key, rfl⟩
theorem Zsc : Sound Try.prog 52 (gS Zrg) := by
  refine Za2 ZmQ ?_
  intro args H K h
  obtain ⟨pre, out, hD, hpre, hK⟩ := Zct h
  unfold Zrg at hD
  split at hD
  · cases hD
    obtain ⟨rfl, rfl, hpre⟩ := hpre
    exact ⟨rfl, fun w0 fp ρi => Zu8 _ _ _ _ _ _ _ _ hK (Zus _ _ _ _ _ _ _ _ hpre)⟩
  · cases hD
end Go.Proofs.Ytinjdimejijabaa
