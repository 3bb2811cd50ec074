/- Part of the proof: SxWaysW. -/
import Derived.Test.YtinjdimejijabaaSxProgC
import Derived.Test.YtinjdimejijabaaSxWays
import Derived.Test.YtinjdimejijabaaSxMixT
import Derived.KernelRfl
set_option linter.unusedVariables false
set_option linter.unusedSimpArgs false
set_option maxRecDepth 20000
namespace Go.Proofs.Ytinjdimejijabaa
open Go.Sx
def ZpG : Zcw := fun args H => match args, H with
  | [.agg [.one (.int .i64 sk), .one (.int .i64 sv)], .ptr ⟨0, 0, 0, 1⟩ 1], ⟨1, [(0, some ⟨false, [.one (.int .i64 k)], 0⟩)]⟩ => some (True, fun K => K (.bool (sk == k)) ⟨1, [(0, some ⟨false, [.i k], 0⟩)]⟩)
  | _, _ => none
def Zu2 : Con := ⟨70, gS ZpG, [], [], []⟩
def ZkU (sk sv k : Int) (Kf : SVal -> Heap -> Prop) : Prop := Kf (.bool (sk == k)) ⟨1, [(0, some ⟨false, [.i k], 0⟩)]⟩
def Zoa : ACode := .reg (.op (some 2) (.box (.tm 0)) (.op (some 3) (.mov (.cn (.bool false))) .nil))
def Zk4 : ACode := .reg (.op (some 4) (.fieldAddr (.tm 2) 0 1) (.op (some 5) (.load1 (.tm 4)) (.op (some 6) (.load1 (.tm 1)) (.op (some 7) (.bin .eql (.tm 5) (.tm 6)) (.op (some 3) (.mov (.tm 7)) .nil)))))
def ZuZ : ACode := (.seq Zoa (.seq Zk4 .ret))
def Zhj : Res := .one (.tm 3)
theorem Zm2 : Zbr Try.prog 70 2 8 ZuZ Zhj = true := by kernel_rfl
def ZpD : ZaE := Zci [] []
theorem ZqE : ZaT Try.prog ZpD := ZaZ trivial trivial
section
variable {w0 : World} {fp : Nat -> Nat -> Prop} {ρi : Rho} {Kf : SVal -> Heap -> Prop}
abbrev Ya0 : Env := [(1, some (.ptr ⟨0, 0, 0, 1⟩ 1)), (2, some (.ptr ⟨1, 0, 0, 1⟩ 2))]
abbrev Ya1 (x0 x1 x2 : Int) : Heap := ⟨2, [(0, some ⟨false, [.i x0], 0⟩), (1, some ⟨true, [.i x1, .i x2], 0⟩)]⟩
theorem ZBn (sk sv k : Int) (Z : Env -> Heap -> Prop) (h : Z [(3, some (.bool (sk == k)))] ⟨2, [(0, some ⟨false, [.i k], 0⟩)]⟩) : EvC ZpD Zk4 Ya0 (Ya1 k sk sv) [3] [0] Z := EvC.of (by kernel_rfl) h
theorem ZxR (sk sv k : Int) : RetC Zhj [(3, some (.bool (sk == k)))] ⟨2, [(0, some ⟨false, [.i k], 0⟩)]⟩ (.bool (sk == k)) := RetC.of (fun Z => by kernel_rfl)
def Zmp (sk sv k : Int) : Prop := True
theorem ZDO (sk sv k : Int) (hK : ZkU sk sv k Kf) (h : Zmp sk sv k) : SemL Try.prog w0 fp ρi 1 8 [Zk4, .ret] Ya0 (Ya1 k sk sv) (fnK Zhj 1 Kf) :=
  Zak ZqE (ZBn sk sv k _ (ZaL (R := Zhj) (m := 1) (Kf := Kf) (fun _ _ h => h) (ZxR sk sv k) (ZaD (Zay [] [0] rfl (by kernel_rfl) rfl pbd (hsc pcs Zag) rfl (by kernel_rfl) (hK)))))
abbrev Ya2 (x0 x1 : Int) : Env := [(0, some (.agg [.i x0, .i x1])), (1, some (.ptr ⟨0, 0, 0, 1⟩ 1))]
abbrev Ya3 (x0 : Int) : Heap := ⟨1, [(0, some ⟨false, [.i x0], 0⟩)]⟩
theorem ZBm (sk sv k : Int) (Z : Env -> Heap -> Prop) (h : Z Ya0 (Ya1 k sk sv)) : EvC ZpD Zoa (Ya2 sk sv) (Ya3 k) [1, 2] [0, 1] Z := EvC.of (by kernel_rfl) h
theorem ZDN (sk sv k : Int) (hK : ZkU sk sv k Kf) (h : Zmp sk sv k) : SemL Try.prog w0 fp ρi 1 8 [Zoa, (.seq Zk4 .ret)] (Ya2 sk sv) (Ya3 k) (fnK Zhj 1 Kf) :=
  Zak ZqE (ZBm sk sv k _ (Zan (ZDO sk sv k hK h)))
theorem ZwT (sk sv k : Int) (hK : ZkU sk sv k Kf) (h : Zmp sk sv k) : SemL Try.prog w0 fp ρi 1 8 [ZuZ] (Ya2 sk sv) (Ya3 k) (fnK Zhj 1 Kf) :=
  (Zan (ZDN sk sv k hK h))
end
theorem ZvO (sk sv k : Int) (hpre : True) : Zmp sk sv k := by
  unfold Zmp
  trivial
theorem Zw0 : Sound Try.prog 70 (gS ZpG) := by
  refine ZaQ Zm2 ?_
  intro args H K h
  obtain ⟨pre, out, hD, hpre, hK⟩ := ZbK h
  unfold ZpG at hD
  split at hD
  · cases hD
    exact ⟨rfl, fun w0 fp ρi => ZwT _ _ _ hK (ZvO _ _ _ hpre)⟩
  · cases hD
def ZAI : Zcw := fun args H => match args, H with
  | [.slice ⟨0, 0, 0, 2⟩ xs_n xs_c, .fn (.func 70) [] [.ptr ⟨1, 0, 0, 1⟩ 1]], ⟨2, [(0, some ⟨false, [.rows [.int .i64, .int .i64] xs_m xs], 0⟩), (1, some ⟨false, [.one (.int .i64 k)], 0⟩)]⟩ => some (xs_m = xs_n /\ (List.length xs = xs_n /\ xs_n <= xs_c /\ xs_n <= 1000), fun K => K (.int .i64 (idxK k xs)) ⟨2, [(0, some ⟨false, [.rows Zaa xs_n xs], 0⟩), (1, some ⟨false, [.i k], 0⟩)]⟩)
  | _, _ => none
def ZAt : Con := ⟨69, gS ZAI, [], [], []⟩
def Zdp (xs : List (Tup Zaa)) (xs_n xs_c : Nat) (k : Int) (Kf : SVal -> Heap -> Prop) : Prop := Kf (.int .i64 (idxK k xs)) ⟨2, [(0, some ⟨false, [.rows Zaa xs_n xs], 0⟩), (1, some ⟨false, [.i k], 0⟩)]⟩
def Zof : ACode := .reg (.op (some 4) (.mov (.cn (.int .i64 0))) .nil)
def Zk8 : ACode := .reg (.op (some 6) (.mov (.tm 0)) (.op (some 7) (.len (.tm 6)) (.op (some 8) (.mov (.cn (.int .i64 0))) .nil)))
def Zoe : ACode := .reg (.op (some 9) (.bin .lss (.tm 8) (.tm 7)) .nil)
def Zod : ACode := .cond (.tm 9) .skip (.exit 0)
def Zoc : ACode := .reg (.op (some 10) (.mov (.tm 8)) (.op (some 5) (.mov (.tm 10)) .nil))
def Zk7 : ACode := .reg (.op (some 11) (.mov (.tm 1)) (.op (some 12) (.mov (.tm 0)) (.op (some 13) (.mov (.tm 5)) (.op (some 14) (.idxS (.tm 12) (.tm 13) 2) (.op (some 15) (.loadA 2 (.tm 14)) (.op (some 16) (.callV 70 (.tm 11) [(.tm 15)]) .nil))))))
def Zob : ACode := .reg (.op (some 17) (.mov (.tm 5)) (.op (some 4) (.mov (.tm 17)) .nil))
def Zk6 : ACode := .cond (.tm 16) (.seq Zob .ret) .skip
def Zk5 : ACode := .block 1 (.seq Zoc (.seq Zk7 Zk6))
def ZfV : ACode := .reg (.op (some 18) (.bin .add (.tm 8) (.cn (.int .i64 1))) (.op (some 8) (.mov (.tm 18)) .nil))
def ZqQ : ACode := .loop (.seq Zoe (.seq Zod (.seq Zk5 ZfV)))
def Zh3 : ACode := .block 0 ZqQ
def Zej : ACode := .reg (.op (some 4) (.mov (.cn (.int .i64 (-1)))) .nil)
def ZHe : ACode := (.seq Zof (.seq (.seq Zk8 Zh3) (.seq Zej .ret)))
def ZhV : Res := .one (.tm 4)
theorem ZrG : Zbr Try.prog 69 2 19 ZHe ZhV = true := by kernel_rfl
def Zmh : ZaE := Zci [] [Zu2]
theorem ZhH : ZaT Try.prog Zmh := ZaZ trivial ⟨Zw0, trivial⟩
section
variable {w0 : World} {fp : Nat -> Nat -> Prop} {ρi : Rho} {Kf : SVal -> Heap -> Prop}
def Zui (w0 : World) (fp : Nat -> Nat -> Prop) (ρi : Rho) (Kf : SVal -> Heap -> Prop) (xs : List (Tup Zaa)) (xs_n xs_c : Nat) (k : Int) : ZcJ := ZbH 0 (fun e H => SemL Try.prog w0 fp ρi 2 19 [(.seq Zej .ret)] e H (fnK ZhV 2 Kf)) (fnK ZhV 2 Kf)
def Zuu (xs : List (Tup Zaa)) (xs_n xs_c : Nat) (k v7 : Int) : Int -> Prop := fun s => match s with | v8 => 0 <= v8 /\ v8 <= (xs_n : Int) /\ (List.take (Int.toNat v8) xs).any (Zgy k) = false
def ZtM (xs : List (Tup Zaa)) (xs_n xs_c : Nat) (k v7 : Int) : Int -> Nat := fun s => match s with | v8 => (((xs_n : Int) - v8).toNat)
def Zt7 (xs : List (Tup Zaa)) (xs_n xs_c : Nat) (k v7 : Int) : Int -> Env := fun s => match s with | v8 => [(0, some (.slice ⟨0, 0, 0, 2⟩ xs_n xs_c)), (1, some (.fn (.func 70) [] [.ptr ⟨1, 0, 0, 1⟩ 1])), (7, some (.int .i64 v7)), (8, some (.int .i64 v8))]
def ZtX (xs : List (Tup Zaa)) (xs_n xs_c : Nat) (k v7 : Int) : Int -> Heap := fun s => match s with | v8 => ⟨2, [(0, some ⟨false, [.rows Zaa xs_n xs], 0⟩), (1, some ⟨false, [.i k], 0⟩)]⟩
def ZgY (w0 : World) (fp : Nat -> Nat -> Prop) (ρi : Rho) (Kf : SVal -> Heap -> Prop) (xs : List (Tup Zaa)) (xs_n xs_c : Nat) (k v7 v8 : Int) : ZcJ := ZhT 2 (Zuu xs xs_n xs_c k v7) (ZtM xs xs_n xs_c k v7) (Zt7 xs xs_n xs_c k v7) (ZtX xs xs_n xs_c k v7) v8 (Zui w0 fp ρi Kf xs xs_n xs_c k)
def ZkP (w0 : World) (fp : Nat -> Nat -> Prop) (ρi : Rho) (Kf : SVal -> Heap -> Prop) (xs : List (Tup Zaa)) (xs_n xs_c : Nat) (k v7 v8 : Int) : ZcJ := ZbH 1 (fun e H => SemL Try.prog w0 fp ρi 2 19 [ZfV] e H (ZgY w0 fp ρi Kf xs xs_n xs_c k v7 v8)) (ZgY w0 fp ρi Kf xs xs_n xs_c k v7 v8)
abbrev Ya4 (x0 : Nat) (x1 : List (Tup Zaa)) (x2 : Int) : Heap := ⟨2, [(0, some ⟨false, [.rows Zaa x0 x1], 0⟩), (1, some ⟨false, [.i x2], 0⟩)]⟩
theorem ZBt (xs : List (Tup Zaa)) (xs_n xs_c : Nat) (k v8 v7 : Int) (Z : Env -> Heap -> Prop) (h : Z [(4, some (.int .i64 v8))] (Ya4 xs_n xs k)) : EvC Zmh Zob [(5, some (.int .i64 v8))] (Ya4 xs_n xs k) [4] [0, 1] Z := EvC.of (by kernel_rfl) h
theorem ZxT (xs : List (Tup Zaa)) (xs_n xs_c : Nat) (k v8 : Int) : RetC ZhV [(4, some (.int .i64 v8))] (Ya4 xs_n xs k) (.int .i64 v8) := RetC.of (fun Z => by kernel_rfl)
def Zr1 (xs : List (Tup Zaa)) (xs_n xs_c : Nat) (k v8 v7 : Int) : Prop := v8 = (idxK k xs)
theorem ZDY (xs : List (Tup Zaa)) (xs_n xs_c : Nat) (k : Int) (hK : Zdp xs xs_n xs_c k Kf) (v8 v7 : Int) (h : Zr1 xs xs_n xs_c k v8 v7) : SemL Try.prog w0 fp ρi 2 19 [Zob, .ret] [(5, some (.int .i64 v8))] (Ya4 xs_n xs k) (ZkP w0 fp ρi Kf xs xs_n xs_c k v7 v8) :=
  Zak ZhH (ZBt xs xs_n xs_c k v8 v7 _ (ZaL (R := ZhV) (m := 2) (Kf := Kf) (fun _ _ h => h) (ZxT xs xs_n xs_c k v8) (ZaD (Eq.mpr (cg1 (fun (z1 : Int) => Zcn 2 Kf (.int .i64 z1) (Ya4 xs_n xs k)) h) (Zay [] [0, 1] rfl (by kernel_rfl) rfl pbd (hsc pcs (hsc pcs Zag)) rfl (by kernel_rfl) (hK))))))
abbrev Ya5 (x0 x1 : Nat) (x2 x3 : Int) : Env := [(0, some (.slice ⟨0, 0, 0, 2⟩ x0 x1)), (1, some (.fn (.func 70) [] [.ptr ⟨1, 0, 0, 1⟩ 1])), (7, some (.int .i64 x2)), (8, some (.int .i64 x3))]
theorem ZBs (xs : List (Tup Zaa)) (xs_n xs_c : Nat) (k v7 v8 : Int) (Z : Env -> Heap -> Prop) (h : Z [(0, some (.slice ⟨0, 0, 0, 2⟩ xs_n xs_c)), (1, some (.fn (.func 70) [] [.ptr ⟨1, 0, 0, 1⟩ 1])), (7, some (.int .i64 v7)), (8, some (.int .i64 (IntKind.i64.wrap (v8 + 1))))] (Ya4 xs_n xs k)) : EvC Zmh ZfV (Ya5 xs_n xs_c v7 v8) (Ya4 xs_n xs k) [0, 1, 7, 8] [0, 1] Z := EvC.of (by kernel_rfl) h
def Zr0 (xs : List (Tup Zaa)) (xs_n xs_c : Nat) (k v7 v8 : Int) : Prop := (0 <= (IntKind.i64.wrap (v8 + 1)) /\ (IntKind.i64.wrap (v8 + 1)) <= (xs_n : Int) /\ (List.take (Int.toNat (IntKind.i64.wrap (v8 + 1))) xs).any (Zgy k) = false) /\ ((((xs_n : Int) - (IntKind.i64.wrap (v8 + 1))).toNat) < (((xs_n : Int) - v8).toNat))
theorem ZDX (xs : List (Tup Zaa)) (xs_n xs_c : Nat) (k : Int) (hK : Zdp xs xs_n xs_c k Kf) (v7 v8 : Int) (h : Zr0 xs xs_n xs_c k v7 v8) : SemL Try.prog w0 fp ρi 2 19 [ZfV] (Ya5 xs_n xs_c v7 v8) (Ya4 xs_n xs k) (ZgY w0 fp ρi Kf xs xs_n xs_c k v7 v8) :=
  Zak ZhH (ZBs xs xs_n xs_c k v7 v8 _ (Zch (ZbV (x' := (IntKind.i64.wrap (v8 + 1))) (τ := tau []) h.1 h.2 (ZaR [] [0, 1] rfl rfl (esc bsl (esc (ZHp (ZbY bpt ZeA)) (esc pbd (esc pbd ZaB)))) (hsc pcs (hsc pcs Zag)) (by kernel_rfl) rfl))))
def ZrZ (xs : List (Tup Zaa)) (xs_n xs_c : Nat) (k v8 v7 : Int) : Prop := (((List.getD xs (0 + (Int.toNat v8)) (Tup.dflt Zaa)).1 == k) = true -> (Zr1 xs xs_n xs_c k v8 v7)) /\ (((List.getD xs (0 + (Int.toNat v8)) (Tup.dflt Zaa)).1 == k) = false -> (Zr0 xs xs_n xs_c k v7 v8))
abbrev Ya6 (x0 x1 : Nat) (x2 x3 : Int) (x4 : List (Tup Zaa)) (x5 : Int) : Env := [(0, some (.slice ⟨0, 0, 0, 2⟩ x0 x1)), (1, some (.fn (.func 70) [] [.ptr ⟨1, 0, 0, 1⟩ 1])), (5, some (.int .i64 x2)), (7, some (.int .i64 x3)), (8, some (.int .i64 x2)), (16, some (.bool ((List.getD x4 (0 + (Int.toNat x2)) (Tup.dflt Zaa)).1 == x5)))]
theorem ZDW (xs : List (Tup Zaa)) (xs_n xs_c : Nat) (k : Int) (hK : Zdp xs xs_n xs_c k Kf) (v8 v7 : Int) (h : ZrZ xs xs_n xs_c k v8 v7) : SemL Try.prog w0 fp ρi 2 19 [Zk6] (Ya6 xs_n xs_c v8 v7 xs k) (Ya4 xs_n xs k) (ZkP w0 fp ρi Kf xs xs_n xs_c k v7 v8) :=
  Za0 (q := ((List.getD xs (0 + (Int.toNat v8)) (Tup.dflt Zaa)).1 == k)) (by kernel_rfl) (fun hq => (Zan (lpk [5] [0, 1] (ZDY xs xs_n xs_c k hK v8 v7 (h.1 hq))))) (fun hq => (Zbb (Zch (P := Try.prog) (w0 := w0) (fp := fp) (ρi := ρi) (n0 := 2) (nt := 19) (lpk [0, 1, 7, 8] [0, 1] (ZDX xs xs_n xs_c k hK v7 v8 (h.2 hq))))))
abbrev Ya7 (x0 x1 : Nat) (x2 x3 : Int) : Env := [(0, some (.slice ⟨0, 0, 0, 2⟩ x0 x1)), (1, some (.fn (.func 70) [] [.ptr ⟨1, 0, 0, 1⟩ 1])), (5, some (.int .i64 x2)), (7, some (.int .i64 x3)), (8, some (.int .i64 x2))]
theorem ZBr (xs : List (Tup Zaa)) (xs_n xs_c : Nat) (k v8 v7 : Int) (Z : Env -> Heap -> Prop) (h : ((0 <= v8)) /\ ((v8 < ((xs_n : Nat) : Int))) /\ (((0 + (Int.toNat v8)) < xs_n)) /\ (True) /\ Z (Ya6 xs_n xs_c v8 v7 xs k) (Ya4 xs_n xs k)) : EvC Zmh Zk7 (Ya7 xs_n xs_c v8 v7) (Ya4 xs_n xs k) [0, 1, 5, 7, 8, 16] [0, 1] Z := EvC.of (by kernel_rfl) h
def ZrY (xs : List (Tup Zaa)) (xs_n xs_c : Nat) (k v8 v7 : Int) : Prop := ((0 <= v8)) /\ (((v8 < ((xs_n : Nat) : Int))) /\ ((((0 + (Int.toNat v8)) < xs_n)) /\ (ZrZ xs xs_n xs_c k v8 v7)))
theorem ZDV (xs : List (Tup Zaa)) (xs_n xs_c : Nat) (k : Int) (hK : Zdp xs xs_n xs_c k Kf) (v8 v7 : Int) (h : ZrY xs xs_n xs_c k v8 v7) : SemL Try.prog w0 fp ρi 2 19 [Zk7, Zk6] (Ya7 xs_n xs_c v8 v7) (Ya4 xs_n xs k) (ZkP w0 fp ρi Kf xs xs_n xs_c k v7 v8) :=
  Zak ZhH (ZBr xs xs_n xs_c k v8 v7 _ ⟨h.1, ⟨h.2.1, ⟨h.2.2.1, ⟨True.intro, (ZDW xs xs_n xs_c k hK v8 v7 h.2.2.2)⟩⟩⟩⟩)
theorem ZBq (xs : List (Tup Zaa)) (xs_n xs_c : Nat) (k v7 v8 : Int) (Z : Env -> Heap -> Prop) (h : Z (Ya7 xs_n xs_c v8 v7) (Ya4 xs_n xs k)) : EvC Zmh Zoc (Ya5 xs_n xs_c v7 v8) (Ya4 xs_n xs k) [0, 1, 5, 7, 8] [0, 1] Z := EvC.of (by kernel_rfl) h
def ZpP (xs : List (Tup Zaa)) (xs_n xs_c : Nat) (k v7 v8 : Int) : Prop := ZrY xs xs_n xs_c k v8 v7
theorem ZDU (xs : List (Tup Zaa)) (xs_n xs_c : Nat) (k : Int) (hK : Zdp xs xs_n xs_c k Kf) (v7 v8 : Int) (h : ZpP xs xs_n xs_c k v7 v8) : SemL Try.prog w0 fp ρi 2 19 [Zoc, (.seq Zk7 Zk6)] (Ya5 xs_n xs_c v7 v8) (Ya4 xs_n xs k) (ZkP w0 fp ρi Kf xs xs_n xs_c k v7 v8) :=
  Zak ZhH (ZBq xs xs_n xs_c k v7 v8 _ (Zan (ZDV xs xs_n xs_c k hK v8 v7 h)))
theorem ZDT (xs : List (Tup Zaa)) (xs_n xs_c : Nat) (k : Int) (hK : Zdp xs xs_n xs_c k Kf) (v7 v8 : Int) (h : ZpP xs xs_n xs_c k v7 v8) : SemL Try.prog w0 fp ρi 2 19 [Zk5, ZfV] (Ya5 xs_n xs_c v7 v8) (Ya4 xs_n xs k) (ZgY w0 fp ρi Kf xs xs_n xs_c k v7 v8) :=
  Zbi (Zan (ZDU xs xs_n xs_c k hK v7 v8 h))
theorem ZBp (xs : List (Tup Zaa)) (xs_n xs_c : Nat) (k : Int) (Z : Env -> Heap -> Prop) (h : Z [(4, some (.int .i64 (-1)))] (Ya4 xs_n xs k)) : EvC Zmh Zej [] (Ya4 xs_n xs k) [4] [0, 1] Z := EvC.of (by kernel_rfl) h
theorem ZxS (xs : List (Tup Zaa)) (xs_n xs_c : Nat) (k : Int) : RetC ZhV [(4, some (.int .i64 (-1)))] (Ya4 xs_n xs k) (.int .i64 (-1)) := RetC.of (fun Z => by kernel_rfl)
def ZrX (xs : List (Tup Zaa)) (xs_n xs_c : Nat) (k : Int) : Prop := (-1) = (idxK k xs)
theorem ZDS (xs : List (Tup Zaa)) (xs_n xs_c : Nat) (k : Int) (hK : Zdp xs xs_n xs_c k Kf) (h : ZrX xs xs_n xs_c k) : SemL Try.prog w0 fp ρi 2 19 [Zej, .ret] [] (Ya4 xs_n xs k) (fnK ZhV 2 Kf) :=
  Zak ZhH (ZBp xs xs_n xs_c k _ (ZaL (R := ZhV) (m := 2) (Kf := Kf) (fun _ _ h => h) (ZxS xs xs_n xs_c k) (ZaD (Eq.mpr (cg1 (fun (z1 : Int) => Zcn 2 Kf (.int .i64 z1) (Ya4 xs_n xs k)) h) (Zay [] [0, 1] rfl (by kernel_rfl) rfl pbd (hsc pcs (hsc pcs Zag)) rfl (by kernel_rfl) (hK))))))
def ZpO (xs : List (Tup Zaa)) (xs_n xs_c : Nat) (k v7 v8 : Int) : Prop := ((decide (v8 < v7)) = true -> (ZpP xs xs_n xs_c k v7 v8)) /\ ((decide (v8 < v7)) = false -> (ZrX xs xs_n xs_c k))
abbrev Ya8 (x0 x1 : Nat) (x2 x3 : Int) : Env := [(0, some (.slice ⟨0, 0, 0, 2⟩ x0 x1)), (1, some (.fn (.func 70) [] [.ptr ⟨1, 0, 0, 1⟩ 1])), (7, some (.int .i64 x2)), (8, some (.int .i64 x3)), (9, some (.bool (decide (x3 < x2))))]
theorem ZDR (xs : List (Tup Zaa)) (xs_n xs_c : Nat) (k : Int) (hK : Zdp xs xs_n xs_c k Kf) (v7 v8 : Int) (h : ZpO xs xs_n xs_c k v7 v8) : SemL Try.prog w0 fp ρi 2 19 [Zod, (.seq Zk5 ZfV)] (Ya8 xs_n xs_c v7 v8) (Ya4 xs_n xs k) (ZgY w0 fp ρi Kf xs xs_n xs_c k v7 v8) :=
  Za0 (q := (decide (v8 < v7))) (by kernel_rfl) (fun hq => (Zbb (lpk [0, 1, 7, 8] [0, 1] (Zan (ZDT xs xs_n xs_c k hK v7 v8 (h.1 hq)))))) (fun hq => (ZfK (lpk [] [0, 1] (Zan (ZDS xs xs_n xs_c k hK (h.2 hq))))))
theorem ZBo (xs : List (Tup Zaa)) (xs_n xs_c : Nat) (k v7 v8 : Int) (Z : Env -> Heap -> Prop) (h : Z (Ya8 xs_n xs_c v7 v8) (Ya4 xs_n xs k)) : EvC Zmh Zoe (Ya5 xs_n xs_c v7 v8) (Ya4 xs_n xs k) [0, 1, 7, 8, 9] [0, 1] Z := EvC.of (by kernel_rfl) h
theorem ZDQ (xs : List (Tup Zaa)) (xs_n xs_c : Nat) (k : Int) (hK : Zdp xs xs_n xs_c k Kf) (v7 v8 : Int) (h : ZpO xs xs_n xs_c k v7 v8) : SemL Try.prog w0 fp ρi 2 19 [Zoe, (.seq Zod (.seq Zk5 ZfV))] (Ya5 xs_n xs_c v7 v8) (Ya4 xs_n xs k) (ZgY w0 fp ρi Kf xs xs_n xs_c k v7 v8) :=
  Zak ZhH (ZBo xs xs_n xs_c k v7 v8 _ (Zan (ZDR xs xs_n xs_c k hK v7 v8 h)))
def ZpN (xs : List (Tup Zaa)) (xs_n xs_c : Nat) (k v7 : Int) : Prop := (0 <= (0 : Int) /\ (0 : Int) <= (xs_n : Int) /\ (List.take (Int.toNat (0 : Int)) xs).any (Zgy k) = false) /\ (∀ (v8 : Int), (0 <= v8 /\ v8 <= (xs_n : Int) /\ (List.take (Int.toNat v8) xs).any (Zgy k) = false) -> (ZpO xs xs_n xs_c k v7 v8))
abbrev Ya9 (x0 x1 : Nat) (x2 : Int) : Env := [(0, some (.slice ⟨0, 0, 0, 2⟩ x0 x1)), (1, some (.fn (.func 70) [] [.ptr ⟨1, 0, 0, 1⟩ 1])), (7, some (.int .i64 x2)), (8, some (.int .i64 0))]
theorem ZDP (xs : List (Tup Zaa)) (xs_n xs_c : Nat) (k : Int) (hK : Zdp xs xs_n xs_c k Kf) (v7 : Int) (h : ZpN xs xs_n xs_c k v7) : SemL Try.prog w0 fp ρi 2 19 [ZqQ] (Ya9 xs_n xs_c v7) (Ya4 xs_n xs k) (Zui w0 fp ρi Kf xs xs_n xs_c k) :=
  ZfJ (Zuu xs xs_n xs_c k v7) (ZtM xs xs_n xs_c k v7) (Zt7 xs xs_n xs_c k v7) (ZtX xs xs_n xs_c k v7) ⟨0, tau [], h.1, (ZaR [] [0, 1] rfl rfl (esc bsl (esc (ZHp (ZbY bpt ZeA)) (esc pbd (esc pbd ZaB)))) (hsc pcs (hsc pcs Zag)) (by kernel_rfl) rfl)⟩ (fun s => match s with | v8 => fun hi => (Zan (ZDQ xs xs_n xs_c k hK v7 v8 (h.2 v8 hi))))
theorem ZyV (xs : List (Tup Zaa)) (xs_n xs_c : Nat) (k : Int) (hK : Zdp xs xs_n xs_c k Kf) (v7 : Int) (h : ZpN xs xs_n xs_c k v7) : SemL Try.prog w0 fp ρi 2 19 [Zh3, (.seq Zej .ret)] (Ya9 xs_n xs_c v7) (Ya4 xs_n xs k) (fnK ZhV 2 Kf) :=
  Zbi (ZDP xs xs_n xs_c k hK v7 h)
abbrev ZA2 (x0 x1 : Nat) : Env := [(0, some (.slice ⟨0, 0, 0, 2⟩ x0 x1)), (1, some (.fn (.func 70) [] [.ptr ⟨1, 0, 0, 1⟩ 1]))]
theorem Zw6 (xs : List (Tup Zaa)) (xs_n xs_c : Nat) (k : Int) (Z : Env -> Heap -> Prop) (h : Z [(0, some (.slice ⟨0, 0, 0, 2⟩ xs_n xs_c)), (1, some (.fn (.func 70) [] [.ptr ⟨1, 0, 0, 1⟩ 1])), (7, some (.int .i64 ((xs_n : Nat) : Int))), (8, some (.int .i64 0))] (Ya4 xs_n xs k)) : EvC Zmh Zk8 (ZA2 xs_n xs_c) (Ya4 xs_n xs k) [0, 1, 7, 8] [0, 1] Z := EvC.of (by kernel_rfl) h
def Zil (xs : List (Tup Zaa)) (xs_n xs_c : Nat) (k : Int) : Prop := ∀ v7 : Int, v7 = ((xs_n : Nat) : Int) -> ZpN xs xs_n xs_c k v7
theorem ZyU (xs : List (Tup Zaa)) (xs_n xs_c : Nat) (k : Int) (hK : Zdp xs xs_n xs_c k Kf) (h : Zil xs xs_n xs_c k) : SemL Try.prog w0 fp ρi 2 19 [Zk8, Zh3, (.seq Zej .ret)] (ZA2 xs_n xs_c) (Ya4 xs_n xs k) (fnK ZhV 2 Kf) :=
  Zak ZhH (Zw6 xs xs_n xs_c k _ (ZyV xs xs_n xs_c k hK ((xs_n : Nat) : Int) (h ((xs_n : Nat) : Int) rfl)))
theorem Zw5 (xs : List (Tup Zaa)) (xs_n xs_c : Nat) (k : Int) (Z : Env -> Heap -> Prop) (h : Z (ZA2 xs_n xs_c) (Ya4 xs_n xs k)) : EvC Zmh Zof (ZA2 xs_n xs_c) (Ya4 xs_n xs k) [0, 1] [0, 1] Z := EvC.of (by kernel_rfl) h
theorem ZyT (xs : List (Tup Zaa)) (xs_n xs_c : Nat) (k : Int) (hK : Zdp xs xs_n xs_c k Kf) (h : Zil xs xs_n xs_c k) : SemL Try.prog w0 fp ρi 2 19 [Zof, (.seq (.seq Zk8 Zh3) (.seq Zej .ret))] (ZA2 xs_n xs_c) (Ya4 xs_n xs k) (fnK ZhV 2 Kf) :=
  Zak ZhH (Zw5 xs xs_n xs_c k _ (Zan (Zan (ZyU xs xs_n xs_c k hK h))))
theorem ZId (xs : List (Tup Zaa)) (xs_n xs_c : Nat) (k : Int) (hK : Zdp xs xs_n xs_c k Kf) (h : Zil xs xs_n xs_c k) : SemL Try.prog w0 fp ρi 2 19 [ZHe] (ZA2 xs_n xs_c) (Ya4 xs_n xs k) (fnK ZhV 2 Kf) :=
  (Zan (ZyT xs xs_n xs_c k hK h))
end
theorem ZGY (xs : List (Tup Zaa)) (xs_n xs_c : Nat) (k : Int) (hpre : (List.length xs = xs_n /\ xs_n <= xs_c /\ xs_n <= 1000)) : Zil xs xs_n xs_c k := by
  unfold Zil ZpN ZpO ZrX ZpP ZrY ZrZ Zr0 Zr1
  obtain ⟨hl, -, hl2⟩ := hpre
  rintro v7 rfl
  refine ⟨⟨by omega, by omega, rfl⟩, ?_⟩
  rintro i ⟨h0, h1, ha⟩
  refine ⟨fun hlt => ?_, fun hge => ?_⟩
  · have hlt := of_decide_eq_true hlt
    have e1 : IntKind.i64.wrap (i + 1) = i + 1 := by rw [Zrj]; omega
    have e2 : (i + 1).toNat = i.toNat + 1 := by omega
    rw [Nat.zero_add]
    refine ⟨h0, hlt, by omega, fun hb => ?_, fun hb => ?_⟩
    · rw [show idxK k xs = ((i.toNat : Nat) : Int) from ZnY (by omega) ha hb]; omega
    · rw [e1, e2, Zcx (by omega), List.any_append, ha]
      exact ⟨⟨by omega, by omega, by simp only [List.any_cons, List.any_nil, Bool.or_false, Bool.false_or]; exact hb⟩, by omega⟩
  · have hge := of_decide_eq_false hge
    rw [List.take_of_length_le (by omega)] at ha
    exact (ZiQ ha).symm
theorem ZIn : Sound Try.prog 69 (gS ZAI) := by
  refine ZaQ ZrG ?_
  intro args H K h
  obtain ⟨pre, out, hD, hpre, hK⟩ := ZbK h
  unfold ZAI at hD
  split at hD
  · cases hD
    obtain ⟨rfl, hpre⟩ := hpre
    exact ⟨rfl, fun w0 fp ρi => ZId _ _ _ _ hK (ZGY _ _ _ _ hpre)⟩
  · cases hD
def Zvk : Zcw := fun args H => match args, H with
  | [.ptr ⟨2, 0, 0, 1⟩ 2, .int .i64 key], ⟨3, [(0, some ⟨false, [.rows [.int .i64, .int .i64] xs_m xs], 0⟩), (1, some ⟨false, [.rows [.hd] c_1_s c_1_a, .one (.slice ⟨0, 0, 0, 2⟩ xs_n xs_c), .rows [.hd] c_1_t c_1_b], 0⟩), (2, some ⟨false, [.one (.int .i64 ways), .one (.slice ⟨1, 0, 0, 1⟩ c_1_l c_1_c)], 0⟩)]⟩ => some (xs_m = xs_n /\ ((List.length xs = xs_n /\ xs_n <= xs_c /\ xs_n <= 1000) /\ c_1_l = c_1_s + 1 + c_1_t /\ c_1_l <= 64 /\ c_1_l <= c_1_c /\ I64 key /\ (0 <= key -> Int.toNat (Int.tmod key (c_1_l : Int)) = c_1_s)), fun K => ((decide (key < 0)) = true -> K (.tuple [.nilptr, .int .i64 (-1)]) ⟨3, [(0, some ⟨false, [.rows Zaa xs_n xs], 0⟩), (1, some ⟨false, [.rows Zab c_1_s c_1_a, .one (.slice ⟨0, 0, 0, 2⟩ xs_n xs_c), .rows Zab c_1_t c_1_b], 0⟩), (2, some ⟨false, [.i ways, .one (.slice ⟨1, 0, 0, 1⟩ c_1_l c_1_c)], 0⟩)]⟩) /\ ((decide (key < 0)) = false -> K (.tuple [.ptr ⟨1, 0, c_1_s, 1⟩ 1, .int .i64 (idxK key xs)]) ⟨3, [(0, some ⟨false, [.rows Zaa xs_n xs], 0⟩), (1, some ⟨false, [.rows Zab c_1_s c_1_a, .one (.slice ⟨0, 0, 0, 2⟩ xs_n xs_c), .rows Zab c_1_t c_1_b], 0⟩), (2, some ⟨false, [.i ways, .one (.slice ⟨1, 0, 0, 1⟩ c_1_l c_1_c)], 0⟩)]⟩))
  | _, _ => none
def Zfx : Con := ⟨51, gS Zvk, [], [], []⟩
def ZfR (ways : Int) (xs : List (Tup Zaa)) (xs_n xs_c c_1_s : Nat) (c_1_a : List (Tup Zab)) (c_1_t : Nat) (c_1_b : List (Tup Zab)) (c_1_l c_1_c : Nat) (key : Int) (Kf : SVal -> Heap -> Prop) : Prop := ((decide (key < 0)) = true -> Kf (.tuple [.nilptr, .int .i64 (-1)]) ⟨3, [(0, some ⟨false, [.rows Zaa xs_n xs], 0⟩), (1, some ⟨false, [.rows Zab c_1_s c_1_a, .one (.slice ⟨0, 0, 0, 2⟩ xs_n xs_c), .rows Zab c_1_t c_1_b], 0⟩), (2, some ⟨false, [.i ways, .one (.slice ⟨1, 0, 0, 1⟩ c_1_l c_1_c)], 0⟩)]⟩) /\ ((decide (key < 0)) = false -> Kf (.tuple [.ptr ⟨1, 0, c_1_s, 1⟩ 1, .int .i64 (idxK key xs)]) ⟨3, [(0, some ⟨false, [.rows Zaa xs_n xs], 0⟩), (1, some ⟨false, [.rows Zab c_1_s c_1_a, .one (.slice ⟨0, 0, 0, 2⟩ xs_n xs_c), .rows Zab c_1_t c_1_b], 0⟩), (2, some ⟨false, [.i ways, .one (.slice ⟨1, 0, 0, 1⟩ c_1_l c_1_c)], 0⟩)]⟩)
def Zoo : ACode := .reg (.op (some 3) (.box (.tm 1)) (.op (some 4) (.mov (.cn (.nilptr))) (.op (some 5) (.mov (.cn (.int .i64 0))) .nil)))
def Zlg : ACode := .reg (.op (some 6) (.load1 (.tm 3)) (.op (some 7) (.bin .lss (.tm 6) (.cn (.int .i64 0))) .nil))
def Zon : ACode := .reg (.op (some 4) (.mov (.cn (.nilptr))) (.op (some 5) (.mov (.cn (.int .i64 (-1)))) .nil))
def Zlf : ACode := .cond (.tm 7) (.seq Zon .ret) .skip
def Zle : Items := .op (some 8) (.mov (.tm 0)) (.op (some 9) (.nilCheck (.tm 8)) (.op (some 10) (.fieldAddr (.tm 9) 1 1) (.op (some 11) (.load1 (.tm 10)) (.op (some 12) (.load1 (.tm 3)) (.op (some 13) (.mov (.tm 0)) (.op (some 14) (.nilCheck (.tm 13)) (.op (some 15) (.fieldAddr (.tm 14) 1 1) (.op (some 16) (.load1 (.tm 15)) (.op (some 17) (.len (.tm 16)) (.op (some 18) (.bin .rem (.tm 12) (.tm 17)) (.op (some 19) (.idxS (.tm 11) (.tm 18) 1) (.op (some 4) (.mov (.tm 19)) .nil))))))))))))
def Zg9 : ACode := .regQ Zle
def Ze7 : ACode := .reg (.op (some 20) (.mov (.tm 4)) (.op (some 21) (.mov (.tm 4)) (.op (some 22) (.nilCheck (.tm 21)) (.op (some 23) (.load1 (.tm 22)) (.op (some 24) (.mkFn 70 [(.tm 3)]) (.op (some 25) (.call 69 [(.tm 23), (.tm 24)]) (.op (some 4) (.mov (.tm 20)) (.op (some 5) (.mov (.tm 25)) .nil))))))))
def ZwF : ACode := (.seq Zoo (.seq (.seq Zlg Zlf) (.seq Zg9 (.seq Ze7 .ret))))
def ZeG : Res := .many [.tm 4, .tm 5]
theorem Zps : Zbr Try.prog 51 2 26 ZwF ZeG = true := by kernel_rfl
def Zkj : ZaE := Zci [] [ZAt]
theorem ZiU : ZaT Try.prog Zkj := ZaZ trivial ⟨ZIn, trivial⟩
section
variable {w0 : World} {fp : Nat -> Nat -> Prop} {ρi : Rho} {Kf : SVal -> Heap -> Prop}
abbrev ZJR : Env := [(4, some (.nilptr)), (5, some (.int .i64 (-1)))]
abbrev ZAD (x0 : Nat) (x1 : List (Tup Zaa)) (x2 : Nat) (x3 : List (Tup Zab)) (x4 x5 : Nat) (x6 : List (Tup Zab)) (x7 : Int) (x8 x9 : Nat) : Heap := ⟨4, [(0, some ⟨false, [.rows Zaa x0 x1], 0⟩), (1, some ⟨false, [.rows Zab x2 x3, .one (.slice ⟨0, 0, 0, 2⟩ x0 x4), .rows Zab x5 x6], 0⟩), (2, some ⟨false, [.i x7, .one (.slice ⟨1, 0, 0, 1⟩ x8 x9)], 0⟩)]⟩
theorem ZBO (ways : Int) (xs : List (Tup Zaa)) (xs_n xs_c c_1_s : Nat) (c_1_a : List (Tup Zab)) (c_1_t : Nat) (c_1_b : List (Tup Zab)) (c_1_l c_1_c : Nat) (key : Int) (Z : Env -> Heap -> Prop) (h : Z ZJR (ZAD xs_n xs c_1_s c_1_a xs_c c_1_t c_1_b ways c_1_l c_1_c)) : EvC Zkj Zon [] (ZAD xs_n xs c_1_s c_1_a xs_c c_1_t c_1_b ways c_1_l c_1_c) [4, 5] [0, 1, 2] Z := EvC.of (by kernel_rfl) h
theorem Zx2 (ways : Int) (xs : List (Tup Zaa)) (xs_n xs_c c_1_s : Nat) (c_1_a : List (Tup Zab)) (c_1_t : Nat) (c_1_b : List (Tup Zab)) (c_1_l c_1_c : Nat) (key : Int) : RetC ZeG ZJR (ZAD xs_n xs c_1_s c_1_a xs_c c_1_t c_1_b ways c_1_l c_1_c) (.tuple [.nilptr, .int .i64 (-1)]) := RetC.of (fun Z => by kernel_rfl)
def Zsd (ways : Int) (xs : List (Tup Zaa)) (xs_n xs_c c_1_s : Nat) (c_1_a : List (Tup Zab)) (c_1_t : Nat) (c_1_b : List (Tup Zab)) (c_1_l c_1_c : Nat) (key : Int) : Prop := (decide (key < 0)) = true
theorem ZEn (ways : Int) (xs : List (Tup Zaa)) (xs_n xs_c c_1_s : Nat) (c_1_a : List (Tup Zab)) (c_1_t : Nat) (c_1_b : List (Tup Zab)) (c_1_l c_1_c : Nat) (key : Int) (hK : ZfR ways xs xs_n xs_c c_1_s c_1_a c_1_t c_1_b c_1_l c_1_c key Kf) (h : Zsd ways xs xs_n xs_c c_1_s c_1_a c_1_t c_1_b c_1_l c_1_c key) : SemL Try.prog w0 fp ρi 3 26 [Zon, .ret, (.seq Zg9 (.seq Ze7 .ret))] [] (ZAD xs_n xs c_1_s c_1_a xs_c c_1_t c_1_b ways c_1_l c_1_c) (fnK ZeG 3 Kf) :=
  Zak ZiU (ZBO ways xs xs_n xs_c c_1_s c_1_a c_1_t c_1_b c_1_l c_1_c key _ (ZaL (R := ZeG) (m := 3) (Kf := Kf) (fun _ _ h => h) (Zx2 ways xs xs_n xs_c c_1_s c_1_a c_1_t c_1_b c_1_l c_1_c key) (ZaD (Zay [] [0, 1, 2] rfl (by kernel_rfl) rfl (Zez (ZbY pbd (ZbY pbd ZeA))) (hsc pcs (hsc (Zaw (Zac bsl (Zaw Zap))) (hsc (Zac pbd (Zac bsl Zap)) Zag))) rfl (by kernel_rfl) ((hK.1 h))))))
abbrev ZJQ (x0 : Nat) : Env := [(3, some (.ptr ⟨3, 0, 0, 1⟩ 1)), (4, some (.ptr ⟨1, 0, x0, 1⟩ 1))]
abbrev Zvu (x0 : Nat) (x1 : List (Tup Zaa)) (x2 : Nat) (x3 : List (Tup Zab)) (x4 x5 : Nat) (x6 : List (Tup Zab)) (x7 : Int) (x8 x9 : Nat) (ah : Int) : Heap := ⟨4, [(0, some ⟨false, [.rows Zaa x0 x1], 0⟩), (1, some ⟨false, [.rows Zab x2 x3, .one (.slice ⟨0, 0, 0, 2⟩ x0 x4), .rows Zab x5 x6], 0⟩), (2, some ⟨false, [.i x7, .one (.slice ⟨1, 0, 0, 1⟩ x8 x9)], 0⟩), (3, some ⟨true, [.i ah], 0⟩)]⟩
theorem ZBN (ways : Int) (xs : List (Tup Zaa)) (xs_n xs_c c_1_s : Nat) (c_1_a : List (Tup Zab)) (c_1_t : Nat) (c_1_b : List (Tup Zab)) (c_1_l c_1_c : Nat) (key : Int) (ag : Nat) (Z : Env -> Heap -> Prop) (h : ((ag = c_1_s)) /\ (((xs_n : Nat) <= xs_n)) /\ (((xs_n : Nat) = xs_n) /\ (List.length (List.take xs_n xs) = xs_n /\ xs_n <= xs_c /\ xs_n <= 1000)) /\ Z [(4, some (.ptr ⟨1, 0, ag, 1⟩ 1)), (5, some (.int .i64 (idxK key (List.take xs_n xs))))] (ZAD xs_n xs c_1_s c_1_a xs_c c_1_t c_1_b ways c_1_l c_1_c)) : EvC Zkj Ze7 (ZJQ ag) (Zvu xs_n xs c_1_s c_1_a xs_c c_1_t c_1_b ways c_1_l c_1_c key) [4, 5] [0, 1, 2] Z := EvC.of (by kernel_rfl) h
theorem Zx1 (ways : Int) (xs : List (Tup Zaa)) (xs_n xs_c c_1_s : Nat) (c_1_a : List (Tup Zab)) (c_1_t : Nat) (c_1_b : List (Tup Zab)) (c_1_l c_1_c : Nat) (key : Int) (ag : Nat) : RetC ZeG [(4, some (.ptr ⟨1, 0, ag, 1⟩ 1)), (5, some (.int .i64 (idxK key (List.take xs_n xs))))] (ZAD xs_n xs c_1_s c_1_a xs_c c_1_t c_1_b ways c_1_l c_1_c) (.tuple [.ptr ⟨1, 0, ag, 1⟩ 1, .int .i64 (idxK key (List.take xs_n xs))]) := RetC.of (fun Z => by kernel_rfl)
def Zsc (ways : Int) (xs : List (Tup Zaa)) (xs_n xs_c c_1_s : Nat) (c_1_a : List (Tup Zab)) (c_1_t : Nat) (c_1_b : List (Tup Zab)) (c_1_l c_1_c : Nat) (key : Int) (ag : Nat) : Prop := ((ag = c_1_s)) /\ (((List.length (List.take xs_n xs) = xs_n /\ xs_n <= xs_c /\ xs_n <= 1000)) /\ (((decide (key < 0)) = false) /\ (ag = c_1_s) /\ ((idxK key (List.take xs_n xs)) = (idxK key xs))))
theorem ZEm (ways : Int) (xs : List (Tup Zaa)) (xs_n xs_c c_1_s : Nat) (c_1_a : List (Tup Zab)) (c_1_t : Nat) (c_1_b : List (Tup Zab)) (c_1_l c_1_c : Nat) (key : Int) (hK : ZfR ways xs xs_n xs_c c_1_s c_1_a c_1_t c_1_b c_1_l c_1_c key Kf) (ag : Nat) (h : Zsc ways xs xs_n xs_c c_1_s c_1_a c_1_t c_1_b c_1_l c_1_c key ag) : SemL Try.prog w0 fp ρi 3 26 [Ze7, .ret] (ZJQ ag) (Zvu xs_n xs c_1_s c_1_a xs_c c_1_t c_1_b ways c_1_l c_1_c key) (fnK ZeG 3 Kf) :=
  Zak ZiU (ZBN ways xs xs_n xs_c c_1_s c_1_a c_1_t c_1_b c_1_l c_1_c key ag _ ⟨h.1, ⟨(Nat.le_refl _), ⟨⟨rfl, h.2.1⟩, (ZaL (R := ZeG) (m := 3) (Kf := Kf) (fun _ _ h => h) (Zx1 ways xs xs_n xs_c c_1_s c_1_a c_1_t c_1_b c_1_l c_1_c key ag) (ZaD (Eq.mpr (cg2 (fun (z1 : Nat) (z2 : Int) => Zcn 3 Kf (.tuple [.ptr ⟨1, 0, z1, 1⟩ 1, .int .i64 z2]) (ZAD xs_n xs c_1_s c_1_a xs_c c_1_t c_1_b ways c_1_l c_1_c)) h.2.2.2.1 h.2.2.2.2) (Zay [] [0, 1, 2] rfl (by kernel_rfl) rfl (Zez (ZbY bpt (ZbY pbd ZeA))) (hsc pcs (hsc (Zaw (Zac bsl (Zaw Zap))) (hsc (Zac pbd (Zac bsl Zap)) Zag))) rfl (by kernel_rfl) ((hK.2 h.2.2.1))))))⟩⟩⟩)
abbrev ZHB : Env := [(0, some (.ptr ⟨2, 0, 0, 1⟩ 2)), (3, some (.ptr ⟨3, 0, 0, 1⟩ 1))]
theorem ZBM (ways : Int) (xs : List (Tup Zaa)) (xs_n xs_c c_1_s : Nat) (c_1_a : List (Tup Zab)) (c_1_t : Nat) (c_1_b : List (Tup Zab)) (c_1_l c_1_c : Nat) (key : Int) (Z : Env -> Heap -> Prop) (h : ((((c_1_l : Nat) : Int) ≠ 0)) /\ ((0 <= (Int.tmod key ((c_1_l : Nat) : Int)))) /\ (((Int.tmod key ((c_1_l : Nat) : Int)) < ((c_1_l : Nat) : Int))) /\ Z [(3, some (.ptr ⟨3, 0, 0, 1⟩ 1)), (4, some (.ptr ⟨1, 0, (0 + (Int.toNat (Int.tmod key ((c_1_l : Nat) : Int)))), 1⟩ 1))] (Zvu xs_n xs c_1_s c_1_a xs_c c_1_t c_1_b ways c_1_l c_1_c key)) : EvQC Zkj Zle [] ZHB (Zvu xs_n xs c_1_s c_1_a xs_c c_1_t c_1_b ways c_1_l c_1_c key) [3, 4] [0, 1, 2, 3] Z := EvQC.of (by kernel_rfl) h
def Zsb (ways : Int) (xs : List (Tup Zaa)) (xs_n xs_c c_1_s : Nat) (c_1_a : List (Tup Zab)) (c_1_t : Nat) (c_1_b : List (Tup Zab)) (c_1_l c_1_c : Nat) (key : Int) : Prop := ((((c_1_l : Nat) : Int) ≠ 0)) /\ (((0 <= (Int.tmod key ((c_1_l : Nat) : Int)))) /\ ((((Int.tmod key ((c_1_l : Nat) : Int)) < ((c_1_l : Nat) : Int))) /\ (∀ ag : Nat, ag = (0 + (Int.toNat (Int.tmod key ((c_1_l : Nat) : Int)))) -> Zsc ways xs xs_n xs_c c_1_s c_1_a c_1_t c_1_b c_1_l c_1_c key ag)))
theorem ZEl (ways : Int) (xs : List (Tup Zaa)) (xs_n xs_c c_1_s : Nat) (c_1_a : List (Tup Zab)) (c_1_t : Nat) (c_1_b : List (Tup Zab)) (c_1_l c_1_c : Nat) (key : Int) (hK : ZfR ways xs xs_n xs_c c_1_s c_1_a c_1_t c_1_b c_1_l c_1_c key Kf) (h : Zsb ways xs xs_n xs_c c_1_s c_1_a c_1_t c_1_b c_1_l c_1_c key) : SemL Try.prog w0 fp ρi 3 26 [Zg9, (.seq Ze7 .ret)] ZHB (Zvu xs_n xs c_1_s c_1_a xs_c c_1_t c_1_b ways c_1_l c_1_c key) (fnK ZeG 3 Kf) :=
  Zgc ZiU (its := Zle) (ZBM ways xs xs_n xs_c c_1_s c_1_a c_1_t c_1_b c_1_l c_1_c key _ ⟨h.1, ⟨h.2.1, ⟨h.2.2.1, (Zan (ZEm ways xs xs_n xs_c c_1_s c_1_a c_1_t c_1_b c_1_l c_1_c key hK (0 + (Int.toNat (Int.tmod key ((c_1_l : Nat) : Int)))) (h.2.2.2 (0 + (Int.toNat (Int.tmod key ((c_1_l : Nat) : Int)))) rfl)))⟩⟩⟩)
def ZjF (ways : Int) (xs : List (Tup Zaa)) (xs_n xs_c c_1_s : Nat) (c_1_a : List (Tup Zab)) (c_1_t : Nat) (c_1_b : List (Tup Zab)) (c_1_l c_1_c : Nat) (key : Int) : Prop := ((decide (key < 0)) = true -> (Zsd ways xs xs_n xs_c c_1_s c_1_a c_1_t c_1_b c_1_l c_1_c key)) /\ ((decide (key < 0)) = false -> (Zsb ways xs xs_n xs_c c_1_s c_1_a c_1_t c_1_b c_1_l c_1_c key))
abbrev ZJP (x0 : Int) : Env := [(0, some (.ptr ⟨2, 0, 0, 1⟩ 2)), (3, some (.ptr ⟨3, 0, 0, 1⟩ 1)), (7, some (.bool (decide (x0 < 0))))]
theorem ZEk (ways : Int) (xs : List (Tup Zaa)) (xs_n xs_c c_1_s : Nat) (c_1_a : List (Tup Zab)) (c_1_t : Nat) (c_1_b : List (Tup Zab)) (c_1_l c_1_c : Nat) (key : Int) (hK : ZfR ways xs xs_n xs_c c_1_s c_1_a c_1_t c_1_b c_1_l c_1_c key Kf) (h : ZjF ways xs xs_n xs_c c_1_s c_1_a c_1_t c_1_b c_1_l c_1_c key) : SemL Try.prog w0 fp ρi 3 26 [Zlf, (.seq Zg9 (.seq Ze7 .ret))] (ZJP key) (Zvu xs_n xs c_1_s c_1_a xs_c c_1_t c_1_b ways c_1_l c_1_c key) (fnK ZeG 3 Kf) :=
  Za0 (q := (decide (key < 0))) (by kernel_rfl) (fun hq => (Zan (lpk [] [0, 1, 2] (ZEn ways xs xs_n xs_c c_1_s c_1_a c_1_t c_1_b c_1_l c_1_c key hK (h.1 hq))))) (fun hq => (Zbb (lpk [0, 3] [0, 1, 2, 3] (Zan (ZEl ways xs xs_n xs_c c_1_s c_1_a c_1_t c_1_b c_1_l c_1_c key hK (h.2 hq))))))
theorem ZBL (ways : Int) (xs : List (Tup Zaa)) (xs_n xs_c c_1_s : Nat) (c_1_a : List (Tup Zab)) (c_1_t : Nat) (c_1_b : List (Tup Zab)) (c_1_l c_1_c : Nat) (key : Int) (Z : Env -> Heap -> Prop) (h : Z (ZJP key) (Zvu xs_n xs c_1_s c_1_a xs_c c_1_t c_1_b ways c_1_l c_1_c key)) : EvC Zkj Zlg ZHB (Zvu xs_n xs c_1_s c_1_a xs_c c_1_t c_1_b ways c_1_l c_1_c key) [0, 3, 7] [0, 1, 2, 3] Z := EvC.of (by kernel_rfl) h
theorem ZEj (ways : Int) (xs : List (Tup Zaa)) (xs_n xs_c c_1_s : Nat) (c_1_a : List (Tup Zab)) (c_1_t : Nat) (c_1_b : List (Tup Zab)) (c_1_l c_1_c : Nat) (key : Int) (hK : ZfR ways xs xs_n xs_c c_1_s c_1_a c_1_t c_1_b c_1_l c_1_c key Kf) (h : ZjF ways xs xs_n xs_c c_1_s c_1_a c_1_t c_1_b c_1_l c_1_c key) : SemL Try.prog w0 fp ρi 3 26 [Zlg, Zlf, (.seq Zg9 (.seq Ze7 .ret))] ZHB (Zvu xs_n xs c_1_s c_1_a xs_c c_1_t c_1_b ways c_1_l c_1_c key) (fnK ZeG 3 Kf) :=
  Zak ZiU (ZBL ways xs xs_n xs_c c_1_s c_1_a c_1_t c_1_b c_1_l c_1_c key _ (ZEk ways xs xs_n xs_c c_1_s c_1_a c_1_t c_1_b c_1_l c_1_c key hK h))
abbrev ZI4 (x0 : Int) : Env := [(0, some (.ptr ⟨2, 0, 0, 1⟩ 2)), (1, some (.int .i64 x0))]
abbrev ZI3 (x0 : Nat) (x1 : List (Tup Zaa)) (x2 : Nat) (x3 : List (Tup Zab)) (x4 x5 : Nat) (x6 : List (Tup Zab)) (x7 : Int) (x8 x9 : Nat) : Heap := ⟨3, [(0, some ⟨false, [.rows Zaa x0 x1], 0⟩), (1, some ⟨false, [.rows Zab x2 x3, .one (.slice ⟨0, 0, 0, 2⟩ x0 x4), .rows Zab x5 x6], 0⟩), (2, some ⟨false, [.i x7, .one (.slice ⟨1, 0, 0, 1⟩ x8 x9)], 0⟩)]⟩
theorem ZBK (ways : Int) (xs : List (Tup Zaa)) (xs_n xs_c c_1_s : Nat) (c_1_a : List (Tup Zab)) (c_1_t : Nat) (c_1_b : List (Tup Zab)) (c_1_l c_1_c : Nat) (key : Int) (Z : Env -> Heap -> Prop) (h : Z ZHB (Zvu xs_n xs c_1_s c_1_a xs_c c_1_t c_1_b ways c_1_l c_1_c key)) : EvC Zkj Zoo (ZI4 key) (ZI3 xs_n xs c_1_s c_1_a xs_c c_1_t c_1_b ways c_1_l c_1_c) [0, 3] [0, 1, 2, 3] Z := EvC.of (by kernel_rfl) h
theorem ZEi (ways : Int) (xs : List (Tup Zaa)) (xs_n xs_c c_1_s : Nat) (c_1_a : List (Tup Zab)) (c_1_t : Nat) (c_1_b : List (Tup Zab)) (c_1_l c_1_c : Nat) (key : Int) (hK : ZfR ways xs xs_n xs_c c_1_s c_1_a c_1_t c_1_b c_1_l c_1_c key Kf) (h : ZjF ways xs xs_n xs_c c_1_s c_1_a c_1_t c_1_b c_1_l c_1_c key) : SemL Try.prog w0 fp ρi 3 26 [Zoo, (.seq (.seq Zlg Zlf) (.seq Zg9 (.seq Ze7 .ret)))] (ZI4 key) (ZI3 xs_n xs c_1_s c_1_a xs_c c_1_t c_1_b ways c_1_l c_1_c) (fnK ZeG 3 Kf) :=
  Zak ZiU (ZBK ways xs xs_n xs_c c_1_s c_1_a c_1_t c_1_b c_1_l c_1_c key _ (Zan (Zan (ZEj ways xs xs_n xs_c c_1_s c_1_a c_1_t c_1_b c_1_l c_1_c key hK h))))
theorem ZA6 (ways : Int) (xs : List (Tup Zaa)) (xs_n xs_c c_1_s : Nat) (c_1_a : List (Tup Zab)) (c_1_t : Nat) (c_1_b : List (Tup Zab)) (c_1_l c_1_c : Nat) (key : Int) (hK : ZfR ways xs xs_n xs_c c_1_s c_1_a c_1_t c_1_b c_1_l c_1_c key Kf) (h : ZjF ways xs xs_n xs_c c_1_s c_1_a c_1_t c_1_b c_1_l c_1_c key) : SemL Try.prog w0 fp ρi 3 26 [ZwF] (ZI4 key) (ZI3 xs_n xs c_1_s c_1_a xs_c c_1_t c_1_b ways c_1_l c_1_c) (fnK ZeG 3 Kf) :=
  (Zan (ZEi ways xs xs_n xs_c c_1_s c_1_a c_1_t c_1_b c_1_l c_1_c key hK h))
end
theorem ZAc (ways : Int) (xs : List (Tup Zaa)) (xs_n xs_c c_1_s : Nat) (c_1_a : List (Tup Zab)) (c_1_t : Nat) (c_1_b : List (Tup Zab)) (c_1_l c_1_c : Nat) (key : Int) (hpre : ((List.length xs = xs_n /\ xs_n <= xs_c /\ xs_n <= 1000) /\ c_1_l = c_1_s + 1 + c_1_t /\ c_1_l <= 64 /\ c_1_l <= c_1_c /\ I64 key /\ (0 <= key -> Int.toNat (Int.tmod key (c_1_l : Int)) = c_1_s))) : ZjF ways xs xs_n xs_c c_1_s c_1_a c_1_t c_1_b c_1_l c_1_c key := by
  unfold ZjF Zsb Zsc Zsd
  obtain ⟨⟨hl, hc, hm⟩, h1, h2, h3, h4, h5⟩ := hpre
  refine ⟨fun h => h, fun h => ?_⟩
  have hk := of_decide_eq_false h
  have e1 := Int.tmod_nonneg (c_1_l : Int) (show 0 <= key by omega)
  have e2 := Int.tmod_lt_of_pos key (show (0 : Int) < c_1_l by omega)
  have e3 := h5 (by omega)
  refine ⟨by omega, e1, e2, ?_⟩
  rintro _ rfl
  rw [List.take_of_length_le (by omega)]
  exact ⟨by omega, ⟨hl, hc, hm⟩, h, by omega, rfl⟩
theorem ZjM : Sound Try.prog 51 (gS Zvk) := by
  refine ZaQ Zps ?_
  intro args H K h
  obtain ⟨pre, out, hD, hpre, hK⟩ := ZbK h
  unfold Zvk at hD
  split at hD
  · cases hD
    obtain ⟨rfl, hpre⟩ := hpre
    exact ⟨rfl, fun w0 fp ρi => ZA6 _ _ _ _ _ _ _ _ _ _ _ hK (ZAc _ _ _ _ _ _ _ _ _ _ _ hpre)⟩
  · cases hD
def ZAJ : Zcw := fun args H => match args, H with
  | [.slice ⟨0, 0, 0, 2⟩ s_n s_c, .int .i64 i, .int .i64 j], ⟨1, [(0, some ⟨true, [.rows [.int .i64, .int .i64] s_m s], 0⟩)]⟩ => some (s_m = s_n /\ ((List.length s = s_n /\ s_n <= s_c /\ s_n <= 1000) /\ 0 <= i /\ i <= j /\ j <= (s_n : Int)), fun K => K (.slice ⟨0, 0, 0, 2⟩ (s_n - (Int.toNat j - Int.toNat i)) s_c) ⟨1, [(0, some ⟨true, [.rows Zaa s_n (ZaO i j s)], 0⟩)]⟩)
  | _, _ => none
def Zu3 : Con := ⟨53, gS ZAJ, [0], [], []⟩
def ZfG (s : List (Tup Zaa)) (s_n s_c : Nat) (i j : Int) (Kf : SVal -> Heap -> Prop) : Prop := Kf (.slice ⟨0, 0, 0, 2⟩ (s_n - (Int.toNat j - Int.toNat i)) s_c) ⟨1, [(0, some ⟨true, [.rows Zaa s_n (ZaO i j s)], 0⟩)]⟩
def Zok : ACode := .reg (.op (some 6) (.mov (.cn (.nilslice))) .nil)
def Zlc : ACode := .reg (.op (some 8) (.mov (.tm 0)) (.op (some 9) (.mov (.tm 1)) (.op (some 10) (.mov (.tm 2)) (.op (some 11) (.mov (.tm 0)) (.op (some 12) (.len (.tm 11)) (.op (some 13) (.sliceS 2 (.tm 8) (some (.tm 9)) (some (.tm 10)) (some (.tm 12))) .nil))))))
def Zi4 : ACode := .reg (.op (some 14) (.mov (.tm 1)) (.op (some 15) (.mov (.tm 2)) (.op (some 16) (.bin .eql (.tm 14) (.tm 15)) .nil)))
def Zoj : ACode := .reg (.op (some 17) (.mov (.tm 0)) (.op (some 6) (.mov (.tm 17)) .nil))
def Zi3 : ACode := .cond (.tm 16) (.seq Zoj .ret) .skip
def Ze6 : ACode := .reg (.op (some 18) (.mov (.tm 0)) (.op (some 19) (.len (.tm 18)) (.op (some 7) (.mov (.tm 19)) .nil)))
def Zlb : List MStep := [.mk 0 0 (some 20) (.mov (.tm 0)), .mk 1 0 (some 21) (.mov (.tm 1)), .mk 2 0 (some 22) (.sliceS 2 (.tm 20) none (some (.tm 21)) none), .mk 3 0 (some 23) (.mov (.tm 0)), .mk 4 0 (some 24) (.mov (.tm 2)), .mk 5 0 (some 25) (.sliceS 2 (.tm 23) (some (.tm 24)) none none), .mk 6 2 (some 26) (.appendIn Zaa (.tm 22) (.tm 25)), .mk 7 0 (some 0) (.mov (.tm 26))]
def Ze5 : ACode := .regM Zlb
def ZdE : ACode := .reg (.op (some 27) (.mov (.tm 0)) (.op (some 28) (.mov (.tm 0)) (.op (some 29) (.len (.tm 28)) (.op (some 30) (.mov (.tm 7)) (.op (some 31) (.sliceS 2 (.tm 27) (some (.tm 29)) (some (.tm 30)) none) (.op none (.clearR Zaa (.tm 31)) .nil))))))
def Zda : ACode := .reg (.op (some 32) (.mov (.tm 0)) (.op (some 6) (.mov (.tm 32)) .nil))
def ZHg : ACode := (.seq Zok (.seq Zlc (.seq (.seq Zi4 Zi3) (.seq Ze6 (.seq Ze5 (.seq ZdE (.seq Zda .ret)))))))
def Zgb : Res := .one (.tm 6)
theorem ZrI : Zbr Try.prog 53 3 33 ZHg Zgb = true := by kernel_rfl
def Zmi : ZaE := Zci [] []
theorem ZhI : ZaT Try.prog Zmi := ZaZ trivial trivial
section
variable {w0 : World} {fp : Nat -> Nat -> Prop} {ρi : Rho} {Kf : SVal -> Heap -> Prop}
abbrev ZH8 (x0 x1 : Nat) : Env := [(6, some (.slice ⟨0, 0, 0, 2⟩ x0 x1))]
abbrev ZgR (x0 : Nat) (x1 : List (Tup Zaa)) : Heap := ⟨1, [(0, some ⟨true, [.rows Zaa x0 x1], 0⟩)]⟩
abbrev ZHA (x0 x1 : Nat) : Env := [(0, some (.slice ⟨0, 0, 0, 2⟩ x0 x1))]
theorem ZBH (s : List (Tup Zaa)) (s_n s_c : Nat) (i j : Int) (Z : Env -> Heap -> Prop) (h : Z (ZH8 s_n s_c) (ZgR s_n s)) : EvC Zmi Zoj (ZHA s_n s_c) (ZgR s_n s) [6] [0] Z := EvC.of (by kernel_rfl) h
theorem ZxY (s : List (Tup Zaa)) (s_n s_c : Nat) (i j : Int) : RetC Zgb (ZH8 s_n s_c) (ZgR s_n s) (.slice ⟨0, 0, 0, 2⟩ s_n s_c) := RetC.of (fun Z => by kernel_rfl)
def Zr9 (s : List (Tup Zaa)) (s_n s_c : Nat) (i j : Int) : Prop := (s_n = (s_n - (Int.toNat j - Int.toNat i))) /\ (s = (ZaO i j s))
theorem ZEf (s : List (Tup Zaa)) (s_n s_c : Nat) (i j : Int) (hK : ZfG s s_n s_c i j Kf) (h : Zr9 s s_n s_c i j) : SemL Try.prog w0 fp ρi 1 33 [Zoj, .ret, (.seq Ze6 (.seq Ze5 (.seq ZdE (.seq Zda .ret))))] (ZHA s_n s_c) (ZgR s_n s) (fnK Zgb 1 Kf) :=
  Zak ZhI (ZBH s s_n s_c i j _ (ZaL (R := Zgb) (m := 1) (Kf := Kf) (fun _ _ h => h) (ZxY s s_n s_c i j) (ZaD (Eq.mpr (cg2 (fun (z1 : Nat) (z2 : List (Tup Zaa)) => Zcn 1 Kf (.slice ⟨0, 0, 0, 2⟩ z1 s_c) (ZgR s_n z2)) h.1 h.2) (Zay [] [0] rfl (by kernel_rfl) rfl bsl (hsc pcs Zag) rfl (by kernel_rfl) (hK))))))
theorem ZBG (s : List (Tup Zaa)) (s_n s_c : Nat) (i j : Int) (ad ae : Nat) (af : List (Tup Zaa)) (Z : Env -> Heap -> Prop) (h : Z (ZH8 ad ae) (ZgR s_n af)) : EvC Zmi Zda (ZHA ad ae) (ZgR s_n af) [6] [0] Z := EvC.of (by kernel_rfl) h
theorem ZxX (s : List (Tup Zaa)) (s_n s_c : Nat) (i j : Int) (ad ae : Nat) (af : List (Tup Zaa)) : RetC Zgb (ZH8 ad ae) (ZgR s_n af) (.slice ⟨0, 0, 0, 2⟩ ad ae) := RetC.of (fun Z => by kernel_rfl)
def Zr8 (s : List (Tup Zaa)) (s_n s_c : Nat) (i j : Int) (ad ae : Nat) (af : List (Tup Zaa)) : Prop := (ae = s_c) /\ (ad = (s_n - (Int.toNat j - Int.toNat i))) /\ (af = (ZaO i j s))
theorem ZEe (s : List (Tup Zaa)) (s_n s_c : Nat) (i j : Int) (hK : ZfG s s_n s_c i j Kf) (ad ae : Nat) (af : List (Tup Zaa)) (h : Zr8 s s_n s_c i j ad ae af) : SemL Try.prog w0 fp ρi 1 33 [Zda, .ret] (ZHA ad ae) (ZgR s_n af) (fnK Zgb 1 Kf) :=
  Zak ZhI (ZBG s s_n s_c i j ad ae af _ (ZaL (R := Zgb) (m := 1) (Kf := Kf) (fun _ _ h => h) (ZxX s s_n s_c i j ad ae af) (ZaD (Eq.mpr (cg3 (fun (z1 z2 : Nat) (z3 : List (Tup Zaa)) => Zcn 1 Kf (.slice ⟨0, 0, 0, 2⟩ z2 z1) (ZgR s_n z3)) h.1 h.2.1 h.2.2) (Zay [] [0] rfl (by kernel_rfl) rfl bsl (hsc pcs Zag) rfl (by kernel_rfl) (hK))))))
theorem ZBF (s : List (Tup Zaa)) (s_n s_c : Nat) (i j : Int) (ad ae : Nat) (v7 : Int) (h0 : List (Tup Zaa)) (Z : Env -> Heap -> Prop) (h : ((0 <= v7)) /\ ((v7 <= ((ae : Nat) : Int))) /\ ((0 <= ((ad : Nat) : Int))) /\ ((((ad : Nat) : Int) <= (((Int.toNat v7) : Nat) : Int))) /\ ((((0 + (if ae = (Int.toNat ((ad : Nat) : Int)) then 0 else (Int.toNat ((ad : Nat) : Int)))) + ((Int.toNat v7) - (Int.toNat ((ad : Nat) : Int)))) <= s_n)) /\ ((List.length h0 = s_n)) /\ Z (ZHA ad ae) ⟨1, [(0, some ⟨true, [.rows Zaa s_n (List.take (0 + (if ae = (Int.toNat ((ad : Nat) : Int)) then 0 else (Int.toNat ((ad : Nat) : Int)))) h0 ++ List.replicate ((Int.toNat v7) - (Int.toNat ((ad : Nat) : Int))) (Tup.dflt Zaa) ++ List.drop ((0 + (if ae = (Int.toNat ((ad : Nat) : Int)) then 0 else (Int.toNat ((ad : Nat) : Int)))) + ((Int.toNat v7) - (Int.toNat ((ad : Nat) : Int)))) h0)], 0⟩)]⟩) : EvC Zmi ZdE [(0, some (.slice ⟨0, 0, 0, 2⟩ ad ae)), (7, some (.int .i64 v7))] (ZgR s_n h0) [0] [0] Z := EvC.of (by kernel_rfl) h
def Zr7 (s : List (Tup Zaa)) (s_n s_c : Nat) (i j : Int) (ad ae : Nat) (v7 : Int) (h0 : List (Tup Zaa)) : Prop := ((0 <= v7)) /\ (((v7 <= ((ae : Nat) : Int))) /\ (((0 <= ((ad : Nat) : Int))) /\ (((((ad : Nat) : Int) <= (((Int.toNat v7) : Nat) : Int))) /\ (((((0 + (if ae = (Int.toNat ((ad : Nat) : Int)) then 0 else (Int.toNat ((ad : Nat) : Int)))) + ((Int.toNat v7) - (Int.toNat ((ad : Nat) : Int)))) <= s_n)) /\ (((List.length h0 = s_n)) /\ (∀ af : List (Tup Zaa), af = (List.take (0 + (if ae = (Int.toNat ((ad : Nat) : Int)) then 0 else (Int.toNat ((ad : Nat) : Int)))) h0 ++ List.replicate ((Int.toNat v7) - (Int.toNat ((ad : Nat) : Int))) (Tup.dflt Zaa) ++ List.drop ((0 + (if ae = (Int.toNat ((ad : Nat) : Int)) then 0 else (Int.toNat ((ad : Nat) : Int)))) + ((Int.toNat v7) - (Int.toNat ((ad : Nat) : Int)))) h0) -> Zr8 s s_n s_c i j ad ae af))))))
theorem ZEd (s : List (Tup Zaa)) (s_n s_c : Nat) (i j : Int) (hK : ZfG s s_n s_c i j Kf) (ad ae : Nat) (v7 : Int) (h0 : List (Tup Zaa)) (h : Zr7 s s_n s_c i j ad ae v7 h0) : SemL Try.prog w0 fp ρi 1 33 [ZdE, (.seq Zda .ret)] [(0, some (.slice ⟨0, 0, 0, 2⟩ ad ae)), (7, some (.int .i64 v7))] (ZgR s_n h0) (fnK Zgb 1 Kf) :=
  Zak ZhI (ZBF s s_n s_c i j ad ae v7 h0 _ ⟨h.1, ⟨h.2.1, ⟨h.2.2.1, ⟨h.2.2.2.1, ⟨h.2.2.2.2.1, ⟨h.2.2.2.2.2.1, (Zan (ZEe s s_n s_c i j hK ad ae (List.take (0 + (if ae = (Int.toNat ((ad : Nat) : Int)) then 0 else (Int.toNat ((ad : Nat) : Int)))) h0 ++ List.replicate ((Int.toNat v7) - (Int.toNat ((ad : Nat) : Int))) (Tup.dflt Zaa) ++ List.drop ((0 + (if ae = (Int.toNat ((ad : Nat) : Int)) then 0 else (Int.toNat ((ad : Nat) : Int)))) + ((Int.toNat v7) - (Int.toNat ((ad : Nat) : Int)))) h0) (h.2.2.2.2.2.2 (List.take (0 + (if ae = (Int.toNat ((ad : Nat) : Int)) then 0 else (Int.toNat ((ad : Nat) : Int)))) h0 ++ List.replicate ((Int.toNat v7) - (Int.toNat ((ad : Nat) : Int))) (Tup.dflt Zaa) ++ List.drop ((0 + (if ae = (Int.toNat ((ad : Nat) : Int)) then 0 else (Int.toNat ((ad : Nat) : Int)))) + ((Int.toNat v7) - (Int.toNat ((ad : Nat) : Int)))) h0) rfl)))⟩⟩⟩⟩⟩⟩)
theorem ZBE (s : List (Tup Zaa)) (s_n s_c : Nat) (i j v7 : Int) (Z : Env -> Heap -> Prop) (h : ((0 <= i)) /\ ((i <= ((s_c : Nat) : Int))) /\ ((0 <= j)) /\ ((j <= ((s_n : Nat) : Int))) /\ ((((0 + (if s_c = (Int.toNat j) then 0 else (Int.toNat j))) + (s_n - (Int.toNat j))) <= s_n)) /\ ((List.length s = s_n)) /\ (((((Int.toNat i) - 0) + (s_n - (Int.toNat j))) <= s_n)) /\ (((((Int.toNat i) - 0) + (s_n - (Int.toNat j))) <= (s_c - 0))) /\ ((List.length s = s_n)) /\ Z [(0, some (.slice ⟨0, 0, 0, 2⟩ (((Int.toNat i) - 0) + (s_n - (Int.toNat j))) (s_c - 0))), (7, some (.int .i64 v7))] ⟨1, [(0, some ⟨true, [.rows Zaa s_n (List.take ((Int.toNat i) - 0) s ++ (List.take (s_n - (Int.toNat j)) (List.drop (0 + (if s_c = (Int.toNat j) then 0 else (Int.toNat j))) s)) ++ List.drop (((Int.toNat i) - 0) + (s_n - (Int.toNat j))) s)], 0⟩)]⟩) : EvNC Zmi Zlb [[], [], [], [], [], [], [], []] [(0, some (.slice ⟨0, 0, 0, 2⟩ s_n s_c)), (1, some (.int .i64 i)), (2, some (.int .i64 j)), (7, some (.int .i64 v7))] (ZgR s_n s) [0, 7] [0] Z := EvNC.of (by kernel_rfl) h
def Zr6 (s : List (Tup Zaa)) (s_n s_c : Nat) (i j v7 : Int) : Prop := ((0 <= i)) /\ (((i <= ((s_c : Nat) : Int))) /\ (((0 <= j)) /\ (((j <= ((s_n : Nat) : Int))) /\ (((((0 + (if s_c = (Int.toNat j) then 0 else (Int.toNat j))) + (s_n - (Int.toNat j))) <= s_n)) /\ (((List.length s = s_n)) /\ ((((((Int.toNat i) - 0) + (s_n - (Int.toNat j))) <= s_n)) /\ ((((((Int.toNat i) - 0) + (s_n - (Int.toNat j))) <= (s_c - 0))) /\ (((List.length s = s_n)) /\ (∀ ad : Nat, ad = (((Int.toNat i) - 0) + (s_n - (Int.toNat j))) -> ∀ ae : Nat, ae = (s_c - 0) -> ∀ h0 : List (Tup Zaa), h0 = (List.take ((Int.toNat i) - 0) s ++ (List.take (s_n - (Int.toNat j)) (List.drop (0 + (if s_c = (Int.toNat j) then 0 else (Int.toNat j))) s)) ++ List.drop (((Int.toNat i) - 0) + (s_n - (Int.toNat j))) s) -> Zr7 s s_n s_c i j ad ae v7 h0)))))))))
theorem ZEc (s : List (Tup Zaa)) (s_n s_c : Nat) (i j : Int) (hK : ZfG s s_n s_c i j Kf) (v7 : Int) (h : Zr6 s s_n s_c i j v7) : SemL Try.prog w0 fp ρi 1 33 [Ze5, (.seq ZdE (.seq Zda .ret))] [(0, some (.slice ⟨0, 0, 0, 2⟩ s_n s_c)), (1, some (.int .i64 i)), (2, some (.int .i64 j)), (7, some (.int .i64 v7))] (ZgR s_n s) (fnK Zgb 1 Kf) :=
  ZeB ZhI (steps := Zlb) (ZBE s s_n s_c i j v7 _ ⟨h.1, ⟨h.2.1, ⟨h.2.2.1, ⟨h.2.2.2.1, ⟨h.2.2.2.2.1, ⟨h.2.2.2.2.2.1, ⟨h.2.2.2.2.2.2.1, ⟨h.2.2.2.2.2.2.2.1, ⟨h.2.2.2.2.2.2.2.2.1, (Zan (ZEd s s_n s_c i j hK (((Int.toNat i) - 0) + (s_n - (Int.toNat j))) (s_c - 0) v7 (List.take ((Int.toNat i) - 0) s ++ (List.take (s_n - (Int.toNat j)) (List.drop (0 + (if s_c = (Int.toNat j) then 0 else (Int.toNat j))) s)) ++ List.drop (((Int.toNat i) - 0) + (s_n - (Int.toNat j))) s) (((h.2.2.2.2.2.2.2.2.2 (((Int.toNat i) - 0) + (s_n - (Int.toNat j))) rfl) (s_c - 0) rfl) (List.take ((Int.toNat i) - 0) s ++ (List.take (s_n - (Int.toNat j)) (List.drop (0 + (if s_c = (Int.toNat j) then 0 else (Int.toNat j))) s)) ++ List.drop (((Int.toNat i) - 0) + (s_n - (Int.toNat j))) s) rfl)))⟩⟩⟩⟩⟩⟩⟩⟩⟩)
abbrev Zvc (x0 x1 : Nat) (x2 x3 : Int) : Env := [(0, some (.slice ⟨0, 0, 0, 2⟩ x0 x1)), (1, some (.int .i64 x2)), (2, some (.int .i64 x3))]
theorem ZBD (s : List (Tup Zaa)) (s_n s_c : Nat) (i j : Int) (Z : Env -> Heap -> Prop) (h : Z [(0, some (.slice ⟨0, 0, 0, 2⟩ s_n s_c)), (1, some (.int .i64 i)), (2, some (.int .i64 j)), (7, some (.int .i64 ((s_n : Nat) : Int)))] (ZgR s_n s)) : EvC Zmi Ze6 (Zvc s_n s_c i j) (ZgR s_n s) [0, 1, 2, 7] [0] Z := EvC.of (by kernel_rfl) h
def Zr5 (s : List (Tup Zaa)) (s_n s_c : Nat) (i j : Int) : Prop := ∀ v7 : Int, v7 = ((s_n : Nat) : Int) -> Zr6 s s_n s_c i j v7
theorem ZEb (s : List (Tup Zaa)) (s_n s_c : Nat) (i j : Int) (hK : ZfG s s_n s_c i j Kf) (h : Zr5 s s_n s_c i j) : SemL Try.prog w0 fp ρi 1 33 [Ze6, (.seq Ze5 (.seq ZdE (.seq Zda .ret)))] (Zvc s_n s_c i j) (ZgR s_n s) (fnK Zgb 1 Kf) :=
  Zak ZhI (ZBD s s_n s_c i j _ (Zan (ZEc s s_n s_c i j hK ((s_n : Nat) : Int) (h ((s_n : Nat) : Int) rfl))))
def ZpR (s : List (Tup Zaa)) (s_n s_c : Nat) (i j : Int) : Prop := ((i == j) = true -> (Zr9 s s_n s_c i j)) /\ ((i == j) = false -> (Zr5 s s_n s_c i j))
abbrev ZJO (x0 x1 : Nat) (x2 x3 : Int) : Env := [(0, some (.slice ⟨0, 0, 0, 2⟩ x0 x1)), (1, some (.int .i64 x2)), (2, some (.int .i64 x3)), (16, some (.bool (x2 == x3)))]
theorem ZEa (s : List (Tup Zaa)) (s_n s_c : Nat) (i j : Int) (hK : ZfG s s_n s_c i j Kf) (h : ZpR s s_n s_c i j) : SemL Try.prog w0 fp ρi 1 33 [Zi3, (.seq Ze6 (.seq Ze5 (.seq ZdE (.seq Zda .ret))))] (ZJO s_n s_c i j) (ZgR s_n s) (fnK Zgb 1 Kf) :=
  Za0 (q := (i == j)) (by kernel_rfl) (fun hq => (Zan (lpk [0] [0] (ZEf s s_n s_c i j hK (h.1 hq))))) (fun hq => (Zbb (lpk [0, 1, 2] [0] (Zan (ZEb s s_n s_c i j hK (h.2 hq))))))
theorem ZBC (s : List (Tup Zaa)) (s_n s_c : Nat) (i j : Int) (Z : Env -> Heap -> Prop) (h : Z (ZJO s_n s_c i j) (ZgR s_n s)) : EvC Zmi Zi4 (Zvc s_n s_c i j) (ZgR s_n s) [0, 1, 2, 16] [0] Z := EvC.of (by kernel_rfl) h
theorem ZD9 (s : List (Tup Zaa)) (s_n s_c : Nat) (i j : Int) (hK : ZfG s s_n s_c i j Kf) (h : ZpR s s_n s_c i j) : SemL Try.prog w0 fp ρi 1 33 [Zi4, Zi3, (.seq Ze6 (.seq Ze5 (.seq ZdE (.seq Zda .ret))))] (Zvc s_n s_c i j) (ZgR s_n s) (fnK Zgb 1 Kf) :=
  Zak ZhI (ZBC s s_n s_c i j _ (ZEa s s_n s_c i j hK h))
theorem ZBB (s : List (Tup Zaa)) (s_n s_c : Nat) (i j : Int) (Z : Env -> Heap -> Prop) (h : ((0 <= ((s_n : Nat) : Int))) /\ ((((s_n : Nat) : Int) <= ((s_c : Nat) : Int))) /\ ((0 <= j)) /\ ((j <= (((Int.toNat ((s_n : Nat) : Int)) : Nat) : Int))) /\ ((0 <= i)) /\ ((i <= (((Int.toNat j) : Nat) : Int))) /\ Z (Zvc s_n s_c i j) (ZgR s_n s)) : EvC Zmi Zlc (Zvc s_n s_c i j) (ZgR s_n s) [0, 1, 2] [0] Z := EvC.of (by kernel_rfl) h
def Zmq (s : List (Tup Zaa)) (s_n s_c : Nat) (i j : Int) : Prop := ((0 <= ((s_n : Nat) : Int))) /\ (((((s_n : Nat) : Int) <= ((s_c : Nat) : Int))) /\ (((0 <= j)) /\ (((j <= (((Int.toNat ((s_n : Nat) : Int)) : Nat) : Int))) /\ (((0 <= i)) /\ (((i <= (((Int.toNat j) : Nat) : Int))) /\ (ZpR s s_n s_c i j))))))
theorem ZD8 (s : List (Tup Zaa)) (s_n s_c : Nat) (i j : Int) (hK : ZfG s s_n s_c i j Kf) (h : Zmq s s_n s_c i j) : SemL Try.prog w0 fp ρi 1 33 [Zlc, (.seq (.seq Zi4 Zi3) (.seq Ze6 (.seq Ze5 (.seq ZdE (.seq Zda .ret)))))] (Zvc s_n s_c i j) (ZgR s_n s) (fnK Zgb 1 Kf) :=
  Zak ZhI (ZBB s s_n s_c i j _ ⟨h.1, ⟨h.2.1, ⟨h.2.2.1, ⟨h.2.2.2.1, ⟨h.2.2.2.2.1, ⟨h.2.2.2.2.2.1, (Zan (Zan (ZD9 s s_n s_c i j hK h.2.2.2.2.2.2)))⟩⟩⟩⟩⟩⟩)
theorem ZBA (s : List (Tup Zaa)) (s_n s_c : Nat) (i j : Int) (Z : Env -> Heap -> Prop) (h : Z (Zvc s_n s_c i j) (ZgR s_n s)) : EvC Zmi Zok (Zvc s_n s_c i j) (ZgR s_n s) [0, 1, 2] [0] Z := EvC.of (by kernel_rfl) h
theorem ZD7 (s : List (Tup Zaa)) (s_n s_c : Nat) (i j : Int) (hK : ZfG s s_n s_c i j Kf) (h : Zmq s s_n s_c i j) : SemL Try.prog w0 fp ρi 1 33 [Zok, (.seq Zlc (.seq (.seq Zi4 Zi3) (.seq Ze6 (.seq Ze5 (.seq ZdE (.seq Zda .ret))))))] (Zvc s_n s_c i j) (ZgR s_n s) (fnK Zgb 1 Kf) :=
  Zak ZhI (ZBA s s_n s_c i j _ (Zan (ZD8 s s_n s_c i j hK h)))
theorem ZIf (s : List (Tup Zaa)) (s_n s_c : Nat) (i j : Int) (hK : ZfG s s_n s_c i j Kf) (h : Zmq s s_n s_c i j) : SemL Try.prog w0 fp ρi 1 33 [ZHg] (Zvc s_n s_c i j) (ZgR s_n s) (fnK Zgb 1 Kf) :=
  (Zan (ZD7 s s_n s_c i j hK h))
end
theorem ZG0 (s : List (Tup Zaa)) (s_n s_c : Nat) (i j : Int) (hpre : ((List.length s = s_n /\ s_n <= s_c /\ s_n <= 1000) /\ 0 <= i /\ i <= j /\ j <= (s_n : Int))) : Zmq s s_n s_c i j := by
  unfold Zmq ZpR Zr5 Zr6 Zr7 Zr8 Zr9
  obtain ⟨⟨hl, hc, hm⟩, h1, h2, h3⟩ := hpre
  refine ⟨by omega, by omega, by omega, by omega, h1, by omega, fun h => ?_, fun h => ?_⟩
  · obtain rfl : i = j := by simpa using h
    exact ⟨by omega, delRow_same.symm⟩
  have hne : i ≠ j := by simpa using h
  rintro v7 rfl
  have hq : (0 + if s_c = j.toNat then 0 else j.toNat) = j.toNat ∨ s_n - j.toNat = 0 := by split <;> omega
  have hq2 : (0 + if s_c = j.toNat then 0 else j.toNat) + (s_n - j.toNat) <= s_n := by split <;> omega
  generalize (0 + if s_c = j.toNat then 0 else j.toNat) = q at hq hq2 ⊢
  refine ⟨h1, by omega, by omega, by omega, hq2, hl, by omega, by omega, hl, ?_⟩
  rintro ad rfl ae hv0c g rfl
  obtain hv0c : ae = s_c := by omega
  rw [hv0c]
  have hx : ¬ (s_c = ((i.toNat - 0 + (s_n - j.toNat) : Nat) : Int).toNat) := by omega
  rw [if_neg hx]
  refine ⟨by omega, by omega, by omega, by omega, by omega, by simp only [List.length_append, List.length_take, List.length_drop, hl]; omega, ?_⟩
  rintro _ rfl
  refine ⟨by omega, by omega, ?_⟩
  have := ZuS hl hc h1 (by omega) h3 q hq
  rw [<- this]
  simp only [Nat.sub_zero, Nat.zero_add, Int.toNat_natCast]
  rw [show i.toNat + (s_n - j.toNat) + (s_n - (i.toNat + (s_n - j.toNat))) = s_n by omega]
theorem ZBh : Sound Try.prog 53 (gS ZAJ) := by
  refine ZaQ ZrI ?_
  intro args H K h
  obtain ⟨pre, out, hD, hpre, hK⟩ := ZbK h
  unfold ZAJ at hD
  split at hD
  · cases hD
    obtain ⟨rfl, hpre⟩ := hpre
    exact ⟨rfl, fun w0 fp ρi => ZIf _ _ _ _ _ hK (ZG0 _ _ _ _ _ hpre)⟩
  · cases hD
def Zvj : Zcw := fun args H => match args, H with
  | [.ptr ⟨1, 0, set_i, 1⟩ 1, .int .i64 aa], ⟨2, [(0, some ⟨true, [.rows [.int .i64, .int .i64] xs_m xs], 0⟩), (1, some ⟨true, [.rows [.hd] set_s set_a, .one (.slice ⟨0, 0, 0, 2⟩ xs_n xs_c), .rows [.hd] set_t set_b], 0⟩)]⟩ => some (xs_m = xs_n /\ set_i = set_s /\ ((List.length xs = xs_n /\ xs_n <= xs_c /\ xs_n <= 1000) /\ 0 <= aa /\ aa < (xs_n : Int)), fun K => K (.tuple []) ⟨2, [(0, some ⟨true, [.rows Zaa xs_n (ZaY aa xs)], 0⟩), (1, some ⟨true, [.rows Zab set_s set_a, .one (.slice ⟨0, 0, 0, 2⟩ xs_n xs_c), .rows Zab set_t set_b], 0⟩)]⟩)
  | _, _ => none
def Zq3 : Con := ⟨52, gS Zvj, [0, 1], [], []⟩
def ZnZ (xs : List (Tup Zaa)) (xs_n xs_c set_s : Nat) (set_a : List (Tup Zab)) (set_t : Nat) (set_b : List (Tup Zab)) (aa : Int) (Kf : SVal -> Heap -> Prop) : Prop := Kf (.tuple []) ⟨2, [(0, some ⟨true, [.rows Zaa xs_n (ZaY aa xs)], 0⟩), (1, some ⟨true, [.rows Zab set_s set_a, .one (.slice ⟨0, 0, 0, 2⟩ xs_n xs_c), .rows Zab set_t set_b], 0⟩)]⟩
def Zom : ACode := .reg (.op (some 5) (.mov (.tm 0)) (.op (some 6) (.nilCheck (.tm 5)) (.op (some 7) (.load1 (.tm 6)) (.op (some 8) (.mov (.tm 1)) (.op (some 9) (.idxS (.tm 7) (.tm 8) 2) (.op (some 10) (.loadA 2 (.tm 9)) (.op (some 4) (.alloc [.i 0, .i 0]) (.op none (.storeA 2 (.tm 4) (.tm 10)) .nil))))))))
def Zld : MTree := (.st 0 0 none (some 11) (.mov (.tm 0)) (.st 1 0 none (some 12) (.mov (.tm 0)) (.st 2 0 none (some 13) (.nilCheck (.tm 12)) (.st 3 0 none (some 14) (.load1 (.tm 13)) (.st 4 0 none (some 15) (.mov (.tm 1)) (.st 5 0 none (some 16) (.mov (.tm 1)) (.st 6 0 none (some 17) (.bin .add (.tm 16) (.cn (.int .i64 1))) (.st 8 0 none (some 19) (.loadA 2 (.tm 4)) (.alt (.st 7 1 none (some 18) (.call 53 [(.tm 14), (.tm 15), (.tm 17)]) (.st 9 1 none (some 20) (.bsliceR Zaa 1 [(.tm 19)]) (.st 10 1 none (some 21) (.appendIn Zaa (.tm 18) (.tm 20)) (.st 11 0 none (some 22) (.nilCheck (.tm 11)) (.st 12 2 none none (.store1 (.tm 22) (.tm 21)) .nil))))) (.st 9 1 none (some 20) (.bsliceR Zaa 1 [(.tm 19)]) (.st 7 1 none (some 18) (.call 53 [(.tm 14), (.tm 15), (.tm 17)]) (.st 10 1 none (some 21) (.appendIn Zaa (.tm 18) (.tm 20)) (.st 11 0 none (some 22) (.nilCheck (.tm 11)) (.st 12 2 none none (.store1 (.tm 22) (.tm 21)) .nil))))))))))))))
def Zol : ACode := .regT Zld
def ZwD : ACode := (.seq Zom Zol)
def ZhP : Res := .many []
theorem Zpq : Zbr Try.prog 52 2 23 ZwD ZhP = true := by kernel_rfl
def Zvg : ZaE := Zci [] [Zu3]
theorem ZuM : ZaT Try.prog Zvg := ZaZ trivial ⟨ZBh, trivial⟩
section
variable {w0 : World} {fp : Nat -> Nat -> Prop} {ρi : Rho} {Kf : SVal -> Heap -> Prop}
abbrev ZI2 (x0 : Nat) (x1 : Int) : Env := [(0, some (.ptr ⟨1, 0, x0, 1⟩ 1)), (1, some (.int .i64 x1)), (4, some (.ptr ⟨2, 0, 0, 1⟩ 2))]
theorem ZBJ (xs : List (Tup Zaa)) (xs_n xs_c set_s : Nat) (set_a : List (Tup Zab)) (set_t : Nat) (set_b : List (Tup Zab)) (aa ac ab : Int) (Z : Env -> Heap -> Prop) (h : (((set_s : Nat) = set_s)) /\ ((((xs_n : Nat) = xs_n)) /\ (((xs_n : Nat) = xs_n) /\ ((List.length xs = xs_n /\ xs_n <= xs_c /\ xs_n <= 1000) /\ 0 <= aa /\ aa <= (IntKind.i64.wrap (aa + 1)) /\ (IntKind.i64.wrap (aa + 1)) <= (xs_n : Int))) /\ (((0 : Nat) = 0)) /\ (((xs_n : Nat) = xs_n)) /\ (((xs_n : Nat) = xs_n)) /\ ((Zbk ⟨3, [(0, some ⟨true, [.rows Zaa xs_n (ZaO aa (IntKind.i64.wrap (aa + 1)) xs)], 0⟩), (1, some ⟨true, [.rows Zab set_s set_a, .one (.slice ⟨0, 0, 0, 2⟩ xs_n xs_c), .rows Zab set_t set_b], 0⟩), (2, some ⟨true, [.i ac, .i ab], 0⟩)]⟩ (Heap.keep ⟨3, [(0, some ⟨true, [.rows Zaa xs_n xs], 0⟩), (1, some ⟨true, [.rows Zab set_s set_a, .one (.slice ⟨0, 0, 0, 2⟩ xs_n xs_c), .rows Zab set_t set_b], 0⟩), (2, some ⟨true, [.i ac, .i ab], 0⟩)]⟩ [2, 1]) (Zbv [2, 1] ⟨3, [(0, some ⟨true, [.rows Zaa xs_n xs], 0⟩), (1, some ⟨true, [.rows Zab set_s set_a, .one (.slice ⟨0, 0, 0, 2⟩ xs_n xs_c), .rows Zab set_t set_b], 0⟩), (2, some ⟨true, [.i ac, .i ab], 0⟩)]⟩))) /\ ((Zbk ⟨4, [(0, some ⟨true, [.rows Zaa xs_n (ZaO aa (IntKind.i64.wrap (aa + 1)) xs)], 0⟩), (1, some ⟨true, [.rows Zab set_s set_a, .one (.slice ⟨0, 0, 0, 2⟩ xs_n xs_c), .rows Zab set_t set_b], 0⟩), (2, some ⟨true, [.i ac, .i ab], 0⟩), (3, some ⟨true, [.rows Zaa 1 [((ac, ab) : Tup Zaa)]], 0⟩)]⟩ (Heap.keep ⟨3, [(0, some ⟨true, [.rows Zaa xs_n (ZaO aa (IntKind.i64.wrap (aa + 1)) xs)], 0⟩), (1, some ⟨true, [.rows Zab set_s set_a, .one (.slice ⟨0, 0, 0, 2⟩ xs_n xs_c), .rows Zab set_t set_b], 0⟩), (2, some ⟨true, [.i ac, .i ab], 0⟩)]⟩ [2, 1]) (Zbv [2, 1] ⟨3, [(0, some ⟨true, [.rows Zaa xs_n (ZaO aa (IntKind.i64.wrap (aa + 1)) xs)], 0⟩), (1, some ⟨true, [.rows Zab set_s set_a, .one (.slice ⟨0, 0, 0, 2⟩ xs_n xs_c), .rows Zab set_t set_b], 0⟩), (2, some ⟨true, [.i ac, .i ab], 0⟩)]⟩))) /\ (((1 : Nat) <= 1)) /\ ((List.length [((ac, ab) : Tup Zaa)] = 1)) /\ ((((xs_n - (Int.toNat (IntKind.i64.wrap (aa + 1)) - Int.toNat aa)) + 1) <= xs_n)) /\ ((((xs_n - (Int.toNat (IntKind.i64.wrap (aa + 1)) - Int.toNat aa)) + 1) <= xs_c)) /\ ((List.length (ZaO aa (IntKind.i64.wrap (aa + 1)) xs) = xs_n)) /\ ((Zbk ⟨4, [(0, some ⟨true, [.rows Zaa xs_n (List.take (xs_n - (Int.toNat (IntKind.i64.wrap (aa + 1)) - Int.toNat aa)) (ZaO aa (IntKind.i64.wrap (aa + 1)) xs) ++ (List.take 1 (List.drop 0 [((ac, ab) : Tup Zaa)])) ++ List.drop ((xs_n - (Int.toNat (IntKind.i64.wrap (aa + 1)) - Int.toNat aa)) + 1) (ZaO aa (IntKind.i64.wrap (aa + 1)) xs))], 0⟩), (1, some ⟨true, [.rows Zab set_s set_a, .one (.slice ⟨0, 0, 0, 2⟩ xs_n xs_c), .rows Zab set_t set_b], 0⟩), (2, some ⟨true, [.i ac, .i ab], 0⟩), (3, some ⟨true, [.rows Zaa 1 [((ac, ab) : Tup Zaa)]], 0⟩)]⟩ (Heap.keep ⟨4, [(0, some ⟨true, [.rows Zaa xs_n (ZaO aa (IntKind.i64.wrap (aa + 1)) xs)], 0⟩), (1, some ⟨true, [.rows Zab set_s set_a, .one (.slice ⟨0, 0, 0, 2⟩ xs_n xs_c), .rows Zab set_t set_b], 0⟩), (2, some ⟨true, [.i ac, .i ab], 0⟩), (3, some ⟨true, [.rows Zaa 1 [((ac, ab) : Tup Zaa)]], 0⟩)]⟩ [2, 1]) (Zbv [2, 1] ⟨4, [(0, some ⟨true, [.rows Zaa xs_n (ZaO aa (IntKind.i64.wrap (aa + 1)) xs)], 0⟩), (1, some ⟨true, [.rows Zab set_s set_a, .one (.slice ⟨0, 0, 0, 2⟩ xs_n xs_c), .rows Zab set_t set_b], 0⟩), (2, some ⟨true, [.i ac, .i ab], 0⟩), (3, some ⟨true, [.rows Zaa 1 [((ac, ab) : Tup Zaa)]], 0⟩)]⟩))) /\ (((set_s : Nat) = set_s)) /\ Z [] ⟨4, [(0, some ⟨true, [.rows Zaa xs_n (List.take (xs_n - (Int.toNat (IntKind.i64.wrap (aa + 1)) - Int.toNat aa)) (ZaO aa (IntKind.i64.wrap (aa + 1)) xs) ++ (List.take 1 (List.drop 0 [((ac, ab) : Tup Zaa)])) ++ List.drop ((xs_n - (Int.toNat (IntKind.i64.wrap (aa + 1)) - Int.toNat aa)) + 1) (ZaO aa (IntKind.i64.wrap (aa + 1)) xs))], 0⟩), (1, some ⟨true, [.rows Zab set_s set_a, .one (.slice ⟨0, 0, 0, 2⟩ ((xs_n - (Int.toNat (IntKind.i64.wrap (aa + 1)) - Int.toNat aa)) + 1) xs_c), .rows Zab set_t set_b], 0⟩)]⟩) /\ ((Zbk ⟨4, [(0, some ⟨true, [.rows Zaa xs_n xs], 0⟩), (1, some ⟨true, [.rows Zab set_s set_a, .one (.slice ⟨0, 0, 0, 2⟩ xs_n xs_c), .rows Zab set_t set_b], 0⟩), (2, some ⟨true, [.i ac, .i ab], 0⟩), (3, some ⟨true, [.rows Zaa 1 [((ac, ab) : Tup Zaa)]], 0⟩)]⟩ (Heap.keep ⟨3, [(0, some ⟨true, [.rows Zaa xs_n xs], 0⟩), (1, some ⟨true, [.rows Zab set_s set_a, .one (.slice ⟨0, 0, 0, 2⟩ xs_n xs_c), .rows Zab set_t set_b], 0⟩), (2, some ⟨true, [.i ac, .i ab], 0⟩)]⟩ [2, 1]) (Zbv [2, 1] ⟨3, [(0, some ⟨true, [.rows Zaa xs_n xs], 0⟩), (1, some ⟨true, [.rows Zab set_s set_a, .one (.slice ⟨0, 0, 0, 2⟩ xs_n xs_c), .rows Zab set_t set_b], 0⟩), (2, some ⟨true, [.i ac, .i ab], 0⟩)]⟩))) /\ (((xs_n : Nat) = xs_n)) /\ (((xs_n : Nat) = xs_n) /\ ((List.length xs = xs_n /\ xs_n <= xs_c /\ xs_n <= 1000) /\ 0 <= aa /\ aa <= (IntKind.i64.wrap (aa + 1)) /\ (IntKind.i64.wrap (aa + 1)) <= (xs_n : Int))) /\ (((0 : Nat) = 0)) /\ (((xs_n : Nat) = xs_n)) /\ (((xs_n : Nat) = xs_n)) /\ ((Zbk ⟨4, [(0, some ⟨true, [.rows Zaa xs_n (ZaO aa (IntKind.i64.wrap (aa + 1)) xs)], 0⟩), (1, some ⟨true, [.rows Zab set_s set_a, .one (.slice ⟨0, 0, 0, 2⟩ xs_n xs_c), .rows Zab set_t set_b], 0⟩), (2, some ⟨true, [.i ac, .i ab], 0⟩), (3, some ⟨true, [.rows Zaa 1 [((ac, ab) : Tup Zaa)]], 0⟩)]⟩ (Heap.keep ⟨4, [(0, some ⟨true, [.rows Zaa xs_n xs], 0⟩), (1, some ⟨true, [.rows Zab set_s set_a, .one (.slice ⟨0, 0, 0, 2⟩ xs_n xs_c), .rows Zab set_t set_b], 0⟩), (2, some ⟨true, [.i ac, .i ab], 0⟩), (3, some ⟨true, [.rows Zaa 1 [((ac, ab) : Tup Zaa)]], 0⟩)]⟩ [2, 1]) (Zbv [2, 1] ⟨4, [(0, some ⟨true, [.rows Zaa xs_n xs], 0⟩), (1, some ⟨true, [.rows Zab set_s set_a, .one (.slice ⟨0, 0, 0, 2⟩ xs_n xs_c), .rows Zab set_t set_b], 0⟩), (2, some ⟨true, [.i ac, .i ab], 0⟩), (3, some ⟨true, [.rows Zaa 1 [((ac, ab) : Tup Zaa)]], 0⟩)]⟩))) /\ (((1 : Nat) <= 1)) /\ ((List.length [((ac, ab) : Tup Zaa)] = 1)) /\ ((((xs_n - (Int.toNat (IntKind.i64.wrap (aa + 1)) - Int.toNat aa)) + 1) <= xs_n)) /\ ((((xs_n - (Int.toNat (IntKind.i64.wrap (aa + 1)) - Int.toNat aa)) + 1) <= xs_c)) /\ ((List.length (ZaO aa (IntKind.i64.wrap (aa + 1)) xs) = xs_n)) /\ ((Zbk ⟨4, [(0, some ⟨true, [.rows Zaa xs_n (List.take (xs_n - (Int.toNat (IntKind.i64.wrap (aa + 1)) - Int.toNat aa)) (ZaO aa (IntKind.i64.wrap (aa + 1)) xs) ++ (List.take 1 (List.drop 0 [((ac, ab) : Tup Zaa)])) ++ List.drop ((xs_n - (Int.toNat (IntKind.i64.wrap (aa + 1)) - Int.toNat aa)) + 1) (ZaO aa (IntKind.i64.wrap (aa + 1)) xs))], 0⟩), (1, some ⟨true, [.rows Zab set_s set_a, .one (.slice ⟨0, 0, 0, 2⟩ xs_n xs_c), .rows Zab set_t set_b], 0⟩), (2, some ⟨true, [.i ac, .i ab], 0⟩), (3, some ⟨true, [.rows Zaa 1 [((ac, ab) : Tup Zaa)]], 0⟩)]⟩ (Heap.keep ⟨4, [(0, some ⟨true, [.rows Zaa xs_n (ZaO aa (IntKind.i64.wrap (aa + 1)) xs)], 0⟩), (1, some ⟨true, [.rows Zab set_s set_a, .one (.slice ⟨0, 0, 0, 2⟩ xs_n xs_c), .rows Zab set_t set_b], 0⟩), (2, some ⟨true, [.i ac, .i ab], 0⟩), (3, some ⟨true, [.rows Zaa 1 [((ac, ab) : Tup Zaa)]], 0⟩)]⟩ [2, 1]) (Zbv [2, 1] ⟨4, [(0, some ⟨true, [.rows Zaa xs_n (ZaO aa (IntKind.i64.wrap (aa + 1)) xs)], 0⟩), (1, some ⟨true, [.rows Zab set_s set_a, .one (.slice ⟨0, 0, 0, 2⟩ xs_n xs_c), .rows Zab set_t set_b], 0⟩), (2, some ⟨true, [.i ac, .i ab], 0⟩), (3, some ⟨true, [.rows Zaa 1 [((ac, ab) : Tup Zaa)]], 0⟩)]⟩))) /\ (((set_s : Nat) = set_s)) /\ Z [] ⟨4, [(0, some ⟨true, [.rows Zaa xs_n (List.take (xs_n - (Int.toNat (IntKind.i64.wrap (aa + 1)) - Int.toNat aa)) (ZaO aa (IntKind.i64.wrap (aa + 1)) xs) ++ (List.take 1 (List.drop 0 [((ac, ab) : Tup Zaa)])) ++ List.drop ((xs_n - (Int.toNat (IntKind.i64.wrap (aa + 1)) - Int.toNat aa)) + 1) (ZaO aa (IntKind.i64.wrap (aa + 1)) xs))], 0⟩), (1, some ⟨true, [.rows Zab set_s set_a, .one (.slice ⟨0, 0, 0, 2⟩ ((xs_n - (Int.toNat (IntKind.i64.wrap (aa + 1)) - Int.toNat aa)) + 1) xs_c), .rows Zab set_t set_b], 0⟩)]⟩) : EvTC Zvg Zld [[], [], [], [1], [], [], [], [2], [], [], [], [], []] (ZI2 set_s aa) ⟨3, [(0, some ⟨true, [.rows Zaa xs_n xs], 0⟩), (1, some ⟨true, [.rows Zab set_s set_a, .one (.slice ⟨0, 0, 0, 2⟩ xs_n xs_c), .rows Zab set_t set_b], 0⟩), (2, some ⟨true, [.i ac, .i ab], 0⟩)]⟩ [] [0, 1] Z := EvTC.of (by kernel_rfl) h
abbrev ZJN (x0 : Nat) (x1 : Int) (x2 : List (Tup Zaa)) (x3 x4 : Int) (x5 : Nat) (x6 : List (Tup Zab)) (x7 x8 : Nat) (x9 : List (Tup Zab)) : Heap := ⟨4, [(0, some ⟨true, [.rows Zaa x0 (List.take (x0 - (Int.toNat (IntKind.i64.wrap (x1 + 1)) - Int.toNat x1)) (ZaO x1 (IntKind.i64.wrap (x1 + 1)) x2) ++ (List.take 1 (List.drop 0 [((x3, x4) : Tup Zaa)])) ++ List.drop ((x0 - (Int.toNat (IntKind.i64.wrap (x1 + 1)) - Int.toNat x1)) + 1) (ZaO x1 (IntKind.i64.wrap (x1 + 1)) x2))], 0⟩), (1, some ⟨true, [.rows Zab x5 x6, .one (.slice ⟨0, 0, 0, 2⟩ ((x0 - (Int.toNat (IntKind.i64.wrap (x1 + 1)) - Int.toNat x1)) + 1) x7), .rows Zab x8 x9], 0⟩)]⟩
theorem Zx0 (xs : List (Tup Zaa)) (xs_n xs_c set_s : Nat) (set_a : List (Tup Zab)) (set_t : Nat) (set_b : List (Tup Zab)) (aa ac ab : Int) : RetC ZhP [] (ZJN xs_n aa xs ac ab set_s set_a xs_c set_t set_b) (.tuple []) := RetC.of (fun Z => by kernel_rfl)
theorem ZxZ (xs : List (Tup Zaa)) (xs_n xs_c set_s : Nat) (set_a : List (Tup Zab)) (set_t : Nat) (set_b : List (Tup Zab)) (aa ac ab : Int) : RetC ZhP [] (ZJN xs_n aa xs ac ab set_s set_a xs_c set_t set_b) (.tuple []) := RetC.of (fun Z => by kernel_rfl)
def Zsa (xs : List (Tup Zaa)) (xs_n xs_c set_s : Nat) (set_a : List (Tup Zab)) (set_t : Nat) (set_b : List (Tup Zab)) (aa ac ab : Int) : Prop := ((((List.length xs = xs_n /\ xs_n <= xs_c /\ xs_n <= 1000) /\ 0 <= aa /\ aa <= (IntKind.i64.wrap (aa + 1)) /\ (IntKind.i64.wrap (aa + 1)) <= (xs_n : Int))) /\ (((((xs_n - (Int.toNat (IntKind.i64.wrap (aa + 1)) - Int.toNat aa)) + 1) <= xs_n)) /\ (((((xs_n - (Int.toNat (IntKind.i64.wrap (aa + 1)) - Int.toNat aa)) + 1) <= xs_c)) /\ (((List.length (ZaO aa (IntKind.i64.wrap (aa + 1)) xs) = xs_n)) /\ (((List.take (xs_n - (Int.toNat (IntKind.i64.wrap (aa + 1)) - Int.toNat aa)) (ZaO aa (IntKind.i64.wrap (aa + 1)) xs) ++ (List.take 1 (List.drop 0 [((ac, ab) : Tup Zaa)])) ++ List.drop ((xs_n - (Int.toNat (IntKind.i64.wrap (aa + 1)) - Int.toNat aa)) + 1) (ZaO aa (IntKind.i64.wrap (aa + 1)) xs)) = (ZaY aa xs)) /\ (((xs_n - (Int.toNat (IntKind.i64.wrap (aa + 1)) - Int.toNat aa)) + 1) = xs_n)))))) /\ ((((List.length xs = xs_n /\ xs_n <= xs_c /\ xs_n <= 1000) /\ 0 <= aa /\ aa <= (IntKind.i64.wrap (aa + 1)) /\ (IntKind.i64.wrap (aa + 1)) <= (xs_n : Int))) /\ (((((xs_n - (Int.toNat (IntKind.i64.wrap (aa + 1)) - Int.toNat aa)) + 1) <= xs_n)) /\ (((((xs_n - (Int.toNat (IntKind.i64.wrap (aa + 1)) - Int.toNat aa)) + 1) <= xs_c)) /\ (((List.length (ZaO aa (IntKind.i64.wrap (aa + 1)) xs) = xs_n)) /\ (((List.take (xs_n - (Int.toNat (IntKind.i64.wrap (aa + 1)) - Int.toNat aa)) (ZaO aa (IntKind.i64.wrap (aa + 1)) xs) ++ (List.take 1 (List.drop 0 [((ac, ab) : Tup Zaa)])) ++ List.drop ((xs_n - (Int.toNat (IntKind.i64.wrap (aa + 1)) - Int.toNat aa)) + 1) (ZaO aa (IntKind.i64.wrap (aa + 1)) xs)) = (ZaY aa xs)) /\ (((xs_n - (Int.toNat (IntKind.i64.wrap (aa + 1)) - Int.toNat aa)) + 1) = xs_n))))))
theorem ZEh (xs : List (Tup Zaa)) (xs_n xs_c set_s : Nat) (set_a : List (Tup Zab)) (set_t : Nat) (set_b : List (Tup Zab)) (aa : Int) (hK : ZnZ xs xs_n xs_c set_s set_a set_t set_b aa Kf) (ac ab : Int) (h : Zsa xs xs_n xs_c set_s set_a set_t set_b aa ac ab) : SemL Try.prog w0 fp ρi 2 23 [Zol] (ZI2 set_s aa) ⟨3, [(0, some ⟨true, [.rows Zaa xs_n xs], 0⟩), (1, some ⟨true, [.rows Zab set_s set_a, .one (.slice ⟨0, 0, 0, 2⟩ xs_n xs_c), .rows Zab set_t set_b], 0⟩), (2, some ⟨true, [.i ac, .i ab], 0⟩)]⟩ (fnK ZhP 2 Kf) :=
  Zve ZuM (t := Zld) (ZBJ xs xs_n xs_c set_s set_a set_t set_b aa ac ab _ ⟨rfl, ⟨⟨rfl, ⟨⟨rfl, h.1.1⟩, ⟨rfl, ⟨rfl, ⟨rfl, ⟨(Za5 (by kernel_rfl)), ⟨(Za5 (by kernel_rfl)), ⟨(by decide), ⟨rfl, ⟨h.1.2.1, ⟨h.1.2.2.1, ⟨h.1.2.2.2.1, ⟨(Za5 (by kernel_rfl)), ⟨rfl, (ZwO (R := ZhP) (m := 2) (Kf := Kf) (fun _ _ h => h) (Zx0 xs xs_n xs_c set_s set_a set_t set_b aa ac ab) (ZaD (Eq.mpr (cg2 (fun (z1 : List (Tup Zaa)) (z2 : Nat) => Zcn 2 Kf (.tuple []) ⟨4, [(0, some ⟨true, [.rows Zaa xs_n z1], 0⟩), (1, some ⟨true, [.rows Zab set_s set_a, .one (.slice ⟨0, 0, 0, 2⟩ z2 xs_c), .rows Zab set_t set_b], 0⟩)]⟩) h.1.2.2.2.2.1 h.1.2.2.2.2.2) (Zay [] [0, 1] rfl (by kernel_rfl) rfl (Zez ZeA) (hsc pcs (hsc (Zaw (Zac bsl (Zaw Zap))) Zag)) rfl (by kernel_rfl) (hK)))))⟩⟩⟩⟩⟩⟩⟩⟩⟩⟩⟩⟩⟩⟩, ⟨(Za5 (by kernel_rfl)), ⟨rfl, ⟨⟨rfl, h.2.1⟩, ⟨rfl, ⟨rfl, ⟨rfl, ⟨(Za5 (by kernel_rfl)), ⟨(by decide), ⟨rfl, ⟨h.2.2.1, ⟨h.2.2.2.1, ⟨h.2.2.2.2.1, ⟨(Za5 (by kernel_rfl)), ⟨rfl, (ZwO (R := ZhP) (m := 2) (Kf := Kf) (fun _ _ h => h) (ZxZ xs xs_n xs_c set_s set_a set_t set_b aa ac ab) (ZaD (Eq.mpr (cg2 (fun (z1 : List (Tup Zaa)) (z2 : Nat) => Zcn 2 Kf (.tuple []) ⟨4, [(0, some ⟨true, [.rows Zaa xs_n z1], 0⟩), (1, some ⟨true, [.rows Zab set_s set_a, .one (.slice ⟨0, 0, 0, 2⟩ z2 xs_c), .rows Zab set_t set_b], 0⟩)]⟩) h.2.2.2.2.2.1 h.2.2.2.2.2.2) (Zay [] [0, 1] rfl (by kernel_rfl) rfl (Zez ZeA) (hsc pcs (hsc (Zaw (Zac bsl (Zaw Zap))) Zag)) rfl (by kernel_rfl) (hK)))))⟩⟩⟩⟩⟩⟩⟩⟩⟩⟩⟩⟩⟩⟩⟩⟩)
abbrev ZI1 (x0 : Nat) (x1 : Int) : Env := [(0, some (.ptr ⟨1, 0, x0, 1⟩ 1)), (1, some (.int .i64 x1))]
abbrev ZI0 (x0 : Nat) (x1 : List (Tup Zaa)) (x2 : Nat) (x3 : List (Tup Zab)) (x4 x5 : Nat) (x6 : List (Tup Zab)) : Heap := ⟨2, [(0, some ⟨true, [.rows Zaa x0 x1], 0⟩), (1, some ⟨true, [.rows Zab x2 x3, .one (.slice ⟨0, 0, 0, 2⟩ x0 x4), .rows Zab x5 x6], 0⟩)]⟩
theorem ZBI (xs : List (Tup Zaa)) (xs_n xs_c set_s : Nat) (set_a : List (Tup Zab)) (set_t : Nat) (set_b : List (Tup Zab)) (aa : Int) (Z : Env -> Heap -> Prop) (h : (((set_s : Nat) = set_s)) /\ ((0 <= aa)) /\ ((aa < ((xs_n : Nat) : Int))) /\ (((0 + (Int.toNat aa)) < xs_n)) /\ Z (ZI2 set_s aa) ⟨3, [(0, some ⟨true, [.rows Zaa xs_n xs], 0⟩), (1, some ⟨true, [.rows Zab set_s set_a, .one (.slice ⟨0, 0, 0, 2⟩ xs_n xs_c), .rows Zab set_t set_b], 0⟩), (2, some ⟨true, [.i (List.getD xs (0 + (Int.toNat aa)) (Tup.dflt Zaa)).1, .i (List.getD xs (0 + (Int.toNat aa)) (Tup.dflt Zaa)).2], 0⟩)]⟩) : EvC Zvg Zom (ZI1 set_s aa) (ZI0 xs_n xs set_s set_a xs_c set_t set_b) [0, 1, 4] [0, 1, 2] Z := EvC.of (by kernel_rfl) h
def ZpS (xs : List (Tup Zaa)) (xs_n xs_c set_s : Nat) (set_a : List (Tup Zab)) (set_t : Nat) (set_b : List (Tup Zab)) (aa : Int) : Prop := ((0 <= aa)) /\ (((aa < ((xs_n : Nat) : Int))) /\ ((((0 + (Int.toNat aa)) < xs_n)) /\ (∀ ac : Int, ac = (List.getD xs (0 + (Int.toNat aa)) (Tup.dflt Zaa)).1 -> ∀ ab : Int, ab = (List.getD xs (0 + (Int.toNat aa)) (Tup.dflt Zaa)).2 -> Zsa xs xs_n xs_c set_s set_a set_t set_b aa ac ab)))
theorem ZEg (xs : List (Tup Zaa)) (xs_n xs_c set_s : Nat) (set_a : List (Tup Zab)) (set_t : Nat) (set_b : List (Tup Zab)) (aa : Int) (hK : ZnZ xs xs_n xs_c set_s set_a set_t set_b aa Kf) (h : ZpS xs xs_n xs_c set_s set_a set_t set_b aa) : SemL Try.prog w0 fp ρi 2 23 [Zom, Zol] (ZI1 set_s aa) (ZI0 xs_n xs set_s set_a xs_c set_t set_b) (fnK ZhP 2 Kf) :=
  Zak ZuM (ZBI xs xs_n xs_c set_s set_a set_t set_b aa _ ⟨rfl, ⟨h.1, ⟨h.2.1, ⟨h.2.2.1, (ZEh xs xs_n xs_c set_s set_a set_t set_b aa hK (List.getD xs (0 + (Int.toNat aa)) (Tup.dflt Zaa)).1 (List.getD xs (0 + (Int.toNat aa)) (Tup.dflt Zaa)).2 ((h.2.2.2 (List.getD xs (0 + (Int.toNat aa)) (Tup.dflt Zaa)).1 rfl) (List.getD xs (0 + (Int.toNat aa)) (Tup.dflt Zaa)).2 rfl))⟩⟩⟩⟩)
theorem ZA4 (xs : List (Tup Zaa)) (xs_n xs_c set_s : Nat) (set_a : List (Tup Zab)) (set_t : Nat) (set_b : List (Tup Zab)) (aa : Int) (hK : ZnZ xs xs_n xs_c set_s set_a set_t set_b aa Kf) (h : ZpS xs xs_n xs_c set_s set_a set_t set_b aa) : SemL Try.prog w0 fp ρi 2 23 [ZwD] (ZI1 set_s aa) (ZI0 xs_n xs set_s set_a xs_c set_t set_b) (fnK ZhP 2 Kf) :=
  (Zan (ZEg xs xs_n xs_c set_s set_a set_t set_b aa hK h))
end
theorem ZAa (xs : List (Tup Zaa)) (xs_n xs_c set_s : Nat) (set_a : List (Tup Zab)) (set_t : Nat) (set_b : List (Tup Zab)) (aa : Int) (hpre : ((List.length xs = xs_n /\ xs_n <= xs_c /\ xs_n <= 1000) /\ 0 <= aa /\ aa < (xs_n : Int))) : ZpS xs xs_n xs_c set_s set_a set_t set_b aa := by
  unfold ZpS Zsa
  obtain ⟨⟨hl, hc, hm⟩, h1, h2⟩ := hpre
  refine ⟨h1, h2, by omega, ?_⟩
  rintro _ rfl _ rfl
  have e1 : IntKind.i64.wrap (aa + 1) = aa + 1 := by rw [Zrj]; omega
  rw [e1, Nat.zero_add, show xs_n - ((aa + 1).toNat - aa.toNat) = xs_n - 1 by omega, show xs_n - 1 + 1 = xs_n by omega]
  have key := ZtL hl h1 h2
  have hd : (ZaO aa (aa + 1) xs).length = xs_n := by rw [Zei h1 (by omega) (by omega), hl]
  exact ⟨⟨⟨⟨hl, hc, hm⟩, h1, by omega, by omega⟩, by omega, hc, hd, key, rfl⟩, ⟨⟨hl, hc, hm⟩, h1, by omega, by omega⟩, by omega, hc, hd, key, rfl⟩
theorem Zwt : Sound Try.prog 52 (gS Zvj) := by
  refine ZaQ Zpq ?_
  intro args H K h
  obtain ⟨pre, out, hD, hpre, hK⟩ := ZbK h
  unfold Zvj at hD
  split at hD
  · cases hD
    obtain ⟨rfl, rfl, hpre⟩ := hpre
    exact ⟨rfl, fun w0 fp ρi => ZA4 _ _ _ _ _ _ _ _ hK (ZAa _ _ _ _ _ _ _ _ hpre)⟩
  · cases hD
end Go.Proofs.Ytinjdimejijabaa
