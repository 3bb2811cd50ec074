/- Part of the proof: SxWaysW. -/
import Derived.Test.YtinjdimejijabaaSxProgC
import Derived.Test.YtinjdimejijabaaSxWays
import Derived.Test.YtinjdimejijabaaSxMixT
import Derived.KernelRfl
set_option linter.unusedVariables false
set_option linter.unusedSimpArgs false
set_option maxRecDepth 20000
namespace Go.Proofs.Ytinjdimejijabaa
open Go.Sx
def Zlq : Zd2 := fun args H => match args, H with
  | [.agg [.one (.int .i64 sk), .one (.int .i64 sv)], .ptr ⟨0, 0, 0, 1⟩ 1], ⟨1, [(0, some ⟨false, [.one (.int .i64 k)], 0⟩)]⟩ => some (True, fun K => K (.bool (sk == k)) ⟨1, [(0, some ⟨false, [.i k], 0⟩)]⟩)
  | _, _ => none
def ZoN : Con := ⟨70, gS Zlq, [], [], []⟩
def Zia (sk sv k : Int) (Kf : SVal -> Heap -> Prop) : Prop := Kf (.bool (sk == k)) ⟨1, [(0, some ⟨false, [.i k], 0⟩)]⟩
def Zkp : ACode := .reg (.op (some 2) (.box (.tm 0)) (.op (some 3) (.mov (.cn (.bool false))) .nil))
def Zik : ACode := .reg (.op (some 4) (.fieldAddr (.tm 2) 0 1) (.op (some 5) (.load1 (.tm 4)) (.op (some 6) (.load1 (.tm 1)) (.op (some 7) (.bin .eql (.tm 5) (.tm 6)) (.op (some 3) (.mov (.tm 7)) .nil)))))
def ZoL : ACode := (.seq Zkp (.seq Zik .ret))
def ZfD : Res := .one (.tm 3)
theorem ZjI : ZbP Try.prog 70 2 8 ZoL ZfD = true := by kernel_rfl
def Zlo : ZaB := Zdy [] []
theorem Zl4 : ZaR Try.prog Zlo := Za9 trivial trivial
section
variable {w0 : World} {fp : Nat -> Nat -> Prop} {ρi : Rho} {Kf : SVal -> Heap -> Prop}
abbrev Ya0 : Env := [(1, some (.ptr ⟨0, 0, 0, 1⟩ 1)), (2, some (.ptr ⟨1, 0, 0, 1⟩ 2))]
abbrev Ya1 (x0 x1 x2 : Int) : Heap := ⟨2, [(0, some ⟨false, [.i x0], 0⟩), (1, some ⟨true, [.i x1, .i x2], 0⟩)]⟩
theorem Zsy (sk sv k : Int) (Z : Env -> Heap -> Prop) (h : Z [(3, some (.bool (sk == k)))] ⟨2, [(0, some ⟨false, [.i k], 0⟩)]⟩) : EvC Zlo Zik Ya0 (Ya1 k sk sv) [3] [0] Z := EvC.of (by kernel_rfl) h
theorem ZqF (sk sv k : Int) : RetC ZfD [(3, some (.bool (sk == k)))] ⟨2, [(0, some ⟨false, [.i k], 0⟩)]⟩ (.bool (sk == k)) := RetC.of (fun Z => by kernel_rfl)
def Zi7 (sk sv k : Int) : Prop := True
theorem Zt9 (sk sv k : Int) (hK : Zia sk sv k Kf) (h : Zi7 sk sv k) : SemL Try.prog w0 fp ρi 1 8 [Zik, .ret] Ya0 (Ya1 k sk sv) (fnK ZfD 1 Kf) :=
  Zap Zl4 (Zsy sk sv k _ (ZaT (R := ZfD) (m := 1) (Kf := Kf) (fun _ _ h => h) (ZqF sk sv k) (ZaK (Zaz [] [0] rfl (by kernel_rfl) rfl pbd (hsc pcs Zak) rfl (by kernel_rfl) (hK)))))
abbrev Ya2 (x0 x1 : Int) : Env := [(0, some (.agg [.i x0, .i x1])), (1, some (.ptr ⟨0, 0, 0, 1⟩ 1))]
abbrev Ya3 (x0 : Int) : Heap := ⟨1, [(0, some ⟨false, [.i x0], 0⟩)]⟩
theorem Zsx (sk sv k : Int) (Z : Env -> Heap -> Prop) (h : Z Ya0 (Ya1 k sk sv)) : EvC Zlo Zkp (Ya2 sk sv) (Ya3 k) [1, 2] [0, 1] Z := EvC.of (by kernel_rfl) h
theorem Zt8 (sk sv k : Int) (hK : Zia sk sv k Kf) (h : Zi7 sk sv k) : SemL Try.prog w0 fp ρi 1 8 [Zkp, (.seq Zik .ret)] (Ya2 sk sv) (Ya3 k) (fnK ZfD 1 Kf) :=
  Zap Zl4 (Zsx sk sv k _ (Zau (Zt9 sk sv k hK h)))
theorem Zqa (sk sv k : Int) (hK : Zia sk sv k Kf) (h : Zi7 sk sv k) : SemL Try.prog w0 fp ρi 1 8 [ZoL] (Ya2 sk sv) (Ya3 k) (fnK ZfD 1 Kf) :=
  (Zau (Zt8 sk sv k hK h))
end
theorem Zpn (sk sv k : Int) (hpre : True) : Zi7 sk sv k := by
  unfold Zi7
  trivial
theorem Zqo : Sound Try.prog 70 (gS Zlq) := by
  refine ZaY ZjI ?_
  intro args H K h
  obtain ⟨pre, out, hD, hpre, hK⟩ := ZcG h
  unfold Zlq at hD
  split at hD
  · cases hD
    exact ⟨rfl, fun w0 fp ρi => Zqa _ _ _ hK (Zpn _ _ _ hpre)⟩
  · cases hD
def Zsb : Zd2 := fun args H => match args, H with
  | [.slice ⟨0, 0, 0, 2⟩ xs_n xs_c, .fn (.func 70) [] [.ptr ⟨1, 0, 0, 1⟩ 1]], ⟨2, [(0, some ⟨false, [.rows [.int .i64, .int .i64] xs_m xs], 0⟩), (1, some ⟨false, [.one (.int .i64 k)], 0⟩)]⟩ => some (xs_m = xs_n /\ (List.length xs = xs_n /\ xs_n <= xs_c /\ xs_n <= 1000), fun K => K (.int .i64 (idxK k xs)) ⟨2, [(0, some ⟨false, [.rows Zaa xs_n xs], 0⟩), (1, some ⟨false, [.i k], 0⟩)]⟩)
  | _, _ => none
def ZrY : Con := ⟨69, gS Zsb, [], [], []⟩
def ZcC (xs : List (Tup Zaa)) (xs_n xs_c : Nat) (k : Int) (Kf : SVal -> Heap -> Prop) : Prop := Kf (.int .i64 (idxK k xs)) ⟨2, [(0, some ⟨false, [.rows Zaa xs_n xs], 0⟩), (1, some ⟨false, [.i k], 0⟩)]⟩
def Zku : ACode := .reg (.op (some 4) (.mov (.cn (.int .i64 0))) .nil)
def Zio : ACode := .reg (.op (some 6) (.mov (.tm 0)) (.op (some 7) (.len (.tm 6)) (.op (some 8) (.mov (.cn (.int .i64 0))) .nil)))
def Zkt : ACode := .reg (.op (some 9) (.bin .lss (.tm 8) (.tm 7)) .nil)
def Zks : ACode := .cond (.tm 9) .skip (.exit 0)
def Zkr : ACode := .reg (.op (some 10) (.mov (.tm 8)) (.op (some 5) (.mov (.tm 10)) .nil))
def Zin : ACode := .reg (.op (some 11) (.mov (.tm 1)) (.op (some 12) (.mov (.tm 0)) (.op (some 13) (.mov (.tm 5)) (.op (some 14) (.idxS (.tm 12) (.tm 13) 2) (.op (some 15) (.loadA 2 (.tm 14)) (.op (some 16) (.callV 70 (.tm 11) [(.tm 15)]) .nil))))))
def Zkq : ACode := .reg (.op (some 17) (.mov (.tm 5)) (.op (some 4) (.mov (.tm 17)) .nil))
def Zim : ACode := .cond (.tm 16) (.seq Zkq .ret) .skip
def Zil : ACode := .block 1 (.seq Zkr (.seq Zin Zim))
def ZeA : ACode := .reg (.op (some 18) (.bin .add (.tm 8) (.cn (.int .i64 1))) (.op (some 8) (.mov (.tm 18)) .nil))
def Zmd : ACode := .loop (.seq Zkt (.seq Zks (.seq Zil ZeA)))
def Zgf : ACode := .block 0 Zmd
def Zdi : ACode := .reg (.op (some 4) (.mov (.cn (.int .i64 (-1)))) .nil)
def Zwt : ACode := (.seq Zku (.seq (.seq Zio Zgf) (.seq Zdi .ret)))
def Zf7 : Res := .one (.tm 4)
theorem ZmN : ZbP Try.prog 69 2 19 Zwt Zf7 = true := by kernel_rfl
def ZiY : ZaB := Zdy [] [ZoN]
theorem ZfZ : ZaR Try.prog ZiY := Za9 trivial ⟨Zqo, trivial⟩
section
variable {w0 : World} {fp : Nat -> Nat -> Prop} {ρi : Rho} {Kf : SVal -> Heap -> Prop}
def Zom (w0 : World) (fp : Nat -> Nat -> Prop) (ρi : Rho) (Kf : SVal -> Heap -> Prop) (xs : List (Tup Zaa)) (xs_n xs_c : Nat) (k : Int) : Zej := ZcX 0 (fun e H => SemL Try.prog w0 fp ρi 2 19 [(.seq Zdi .ret)] e H (fnK Zf7 2 Kf)) (fnK Zf7 2 Kf)
def Zoq (xs : List (Tup Zaa)) (xs_n xs_c : Nat) (k v7 : Int) : Int -> Prop := fun s => match s with | v8 => 0 <= v8 /\ v8 <= (xs_n : Int) /\ (List.take (Int.toNat v8) xs).any (Zfv k) = false
def Zoc (xs : List (Tup Zaa)) (xs_n xs_c : Nat) (k v7 : Int) : Int -> Nat := fun s => match s with | v8 => (((xs_n : Int) - v8).toNat)
def Zoi (xs : List (Tup Zaa)) (xs_n xs_c : Nat) (k v7 : Int) : Int -> Env := fun s => match s with | v8 => [(0, some (.slice ⟨0, 0, 0, 2⟩ xs_n xs_c)), (1, some (.fn (.func 70) [] [.ptr ⟨1, 0, 0, 1⟩ 1])), (7, some (.int .i64 v7)), (8, some (.int .i64 v8))]
def Zof (xs : List (Tup Zaa)) (xs_n xs_c : Nat) (k v7 : Int) : Int -> Heap := fun s => match s with | v8 => ⟨2, [(0, some ⟨false, [.rows Zaa xs_n xs], 0⟩), (1, some ⟨false, [.i k], 0⟩)]⟩
def Zfs (w0 : World) (fp : Nat -> Nat -> Prop) (ρi : Rho) (Kf : SVal -> Heap -> Prop) (xs : List (Tup Zaa)) (xs_n xs_c : Nat) (k v7 v8 : Int) : Zej := ZmH 2 (Zoq xs xs_n xs_c k v7) (Zoc xs xs_n xs_c k v7) (Zoi xs xs_n xs_c k v7) (Zof xs xs_n xs_c k v7) v8 (Zom w0 fp ρi Kf xs xs_n xs_c k)
def Zh6 (w0 : World) (fp : Nat -> Nat -> Prop) (ρi : Rho) (Kf : SVal -> Heap -> Prop) (xs : List (Tup Zaa)) (xs_n xs_c : Nat) (k v7 v8 : Int) : Zej := ZcX 1 (fun e H => SemL Try.prog w0 fp ρi 2 19 [ZeA] e H (Zfs w0 fp ρi Kf xs xs_n xs_c k v7 v8)) (Zfs w0 fp ρi Kf xs xs_n xs_c k v7 v8)
abbrev Ya4 (x0 : Nat) (x1 : List (Tup Zaa)) (x2 : Int) : Heap := ⟨2, [(0, some ⟨false, [.rows Zaa x0 x1], 0⟩), (1, some ⟨false, [.i x2], 0⟩)]⟩
theorem ZsE (xs : List (Tup Zaa)) (xs_n xs_c : Nat) (k v8 v7 : Int) (Z : Env -> Heap -> Prop) (h : Z [(4, some (.int .i64 v8))] (Ya4 xs_n xs k)) : EvC ZiY Zkq [(5, some (.int .i64 v8))] (Ya4 xs_n xs k) [4] [0, 1] Z := EvC.of (by kernel_rfl) h
theorem ZqH (xs : List (Tup Zaa)) (xs_n xs_c : Nat) (k v8 : Int) : RetC Zf7 [(4, some (.int .i64 v8))] (Ya4 xs_n xs k) (.int .i64 v8) := RetC.of (fun Z => by kernel_rfl)
def Zm6 (xs : List (Tup Zaa)) (xs_n xs_c : Nat) (k v8 v7 : Int) : Prop := v8 = (idxK k xs)
theorem Zuj (xs : List (Tup Zaa)) (xs_n xs_c : Nat) (k : Int) (hK : ZcC xs xs_n xs_c k Kf) (v8 v7 : Int) (h : Zm6 xs xs_n xs_c k v8 v7) : SemL Try.prog w0 fp ρi 2 19 [Zkq, .ret] [(5, some (.int .i64 v8))] (Ya4 xs_n xs k) (Zh6 w0 fp ρi Kf xs xs_n xs_c k v7 v8) :=
  Zap ZfZ (ZsE xs xs_n xs_c k v8 v7 _ (ZaT (R := Zf7) (m := 2) (Kf := Kf) (fun _ _ h => h) (ZqH xs xs_n xs_c k v8) (ZaK (Eq.mpr (cg1 (fun (z1 : Int) => Zdr 2 Kf (.int .i64 z1) (Ya4 xs_n xs k)) h) (Zaz [] [0, 1] rfl (by kernel_rfl) rfl pbd (hsc pcs (hsc pcs Zak)) rfl (by kernel_rfl) (hK))))))
abbrev Ya5 (x0 x1 : Nat) (x2 x3 : Int) : Env := [(0, some (.slice ⟨0, 0, 0, 2⟩ x0 x1)), (1, some (.fn (.func 70) [] [.ptr ⟨1, 0, 0, 1⟩ 1])), (7, some (.int .i64 x2)), (8, some (.int .i64 x3))]
theorem ZsD (xs : List (Tup Zaa)) (xs_n xs_c : Nat) (k v7 v8 : Int) (Z : Env -> Heap -> Prop) (h : Z [(0, some (.slice ⟨0, 0, 0, 2⟩ xs_n xs_c)), (1, some (.fn (.func 70) [] [.ptr ⟨1, 0, 0, 1⟩ 1])), (7, some (.int .i64 v7)), (8, some (.int .i64 (IntKind.i64.wrap (v8 + 1))))] (Ya4 xs_n xs k)) : EvC ZiY ZeA (Ya5 xs_n xs_c v7 v8) (Ya4 xs_n xs k) [0, 1, 7, 8] [0, 1] Z := EvC.of (by kernel_rfl) h
def Zm5 (xs : List (Tup Zaa)) (xs_n xs_c : Nat) (k v7 v8 : Int) : Prop := (0 <= (IntKind.i64.wrap (v8 + 1)) /\ (IntKind.i64.wrap (v8 + 1)) <= (xs_n : Int) /\ (List.take (Int.toNat (IntKind.i64.wrap (v8 + 1))) xs).any (Zfv k) = false) /\ ((((xs_n : Int) - (IntKind.i64.wrap (v8 + 1))).toNat) < (((xs_n : Int) - v8).toNat))
theorem Zui (xs : List (Tup Zaa)) (xs_n xs_c : Nat) (k : Int) (hK : ZcC xs xs_n xs_c k Kf) (v7 v8 : Int) (h : Zm5 xs xs_n xs_c k v7 v8) : SemL Try.prog w0 fp ρi 2 19 [ZeA] (Ya5 xs_n xs_c v7 v8) (Ya4 xs_n xs k) (Zfs w0 fp ρi Kf xs xs_n xs_c k v7 v8) :=
  Zap ZfZ (ZsD xs xs_n xs_c k v7 v8 _ (Zfi (Ze3 (x' := (IntKind.i64.wrap (v8 + 1))) (τ := tau []) h.1 h.2 (ZbE [] [0, 1] rfl rfl (esc bsl (esc (Zwz (Zbu bpt Zdq)) (esc pbd (esc pbd Zbb)))) (hsc pcs (hsc pcs Zak)) (by kernel_rfl) rfl))))
def Zm4 (xs : List (Tup Zaa)) (xs_n xs_c : Nat) (k v8 v7 : Int) : Prop := (((List.getD xs (0 + (Int.toNat v8)) (Tup.dflt Zaa)).1 == k) = true -> (Zm6 xs xs_n xs_c k v8 v7)) /\ (((List.getD xs (0 + (Int.toNat v8)) (Tup.dflt Zaa)).1 == k) = false -> (Zm5 xs xs_n xs_c k v7 v8))
abbrev Ya6 (x0 x1 : Nat) (x2 x3 : Int) (x4 : List (Tup Zaa)) (x5 : Int) : Env := [(0, some (.slice ⟨0, 0, 0, 2⟩ x0 x1)), (1, some (.fn (.func 70) [] [.ptr ⟨1, 0, 0, 1⟩ 1])), (5, some (.int .i64 x2)), (7, some (.int .i64 x3)), (8, some (.int .i64 x2)), (16, some (.bool ((List.getD x4 (0 + (Int.toNat x2)) (Tup.dflt Zaa)).1 == x5)))]
theorem Zuh (xs : List (Tup Zaa)) (xs_n xs_c : Nat) (k : Int) (hK : ZcC xs xs_n xs_c k Kf) (v8 v7 : Int) (h : Zm4 xs xs_n xs_c k v8 v7) : SemL Try.prog w0 fp ρi 2 19 [Zim] (Ya6 xs_n xs_c v8 v7 xs k) (Ya4 xs_n xs k) (Zh6 w0 fp ρi Kf xs xs_n xs_c k v7 v8) :=
  Za8 (q := ((List.getD xs (0 + (Int.toNat v8)) (Tup.dflt Zaa)).1 == k)) (by kernel_rfl) (fun hq => (Zau (lpk [5] [0, 1] (Zuj xs xs_n xs_c k hK v8 v7 (h.1 hq))))) (fun hq => (Zb3 (Zfi (lpk [0, 1, 7, 8] [0, 1] (Zui xs xs_n xs_c k hK v7 v8 (h.2 hq))))))
abbrev Ya7 (x0 x1 : Nat) (x2 x3 : Int) : Env := [(0, some (.slice ⟨0, 0, 0, 2⟩ x0 x1)), (1, some (.fn (.func 70) [] [.ptr ⟨1, 0, 0, 1⟩ 1])), (5, some (.int .i64 x2)), (7, some (.int .i64 x3)), (8, some (.int .i64 x2))]
theorem ZsC (xs : List (Tup Zaa)) (xs_n xs_c : Nat) (k v8 v7 : Int) (Z : Env -> Heap -> Prop) (h : ((0 <= v8)) /\ ((v8 < ((xs_n : Nat) : Int))) /\ (((0 + (Int.toNat v8)) < xs_n)) /\ (True) /\ Z (Ya6 xs_n xs_c v8 v7 xs k) (Ya4 xs_n xs k)) : EvC ZiY Zin (Ya7 xs_n xs_c v8 v7) (Ya4 xs_n xs k) [0, 1, 5, 7, 8, 16] [0, 1] Z := EvC.of (by kernel_rfl) h
def Zm3 (xs : List (Tup Zaa)) (xs_n xs_c : Nat) (k v8 v7 : Int) : Prop := ((0 <= v8)) /\ (((v8 < ((xs_n : Nat) : Int))) /\ ((((0 + (Int.toNat v8)) < xs_n)) /\ (Zm4 xs xs_n xs_c k v8 v7)))
theorem Zug (xs : List (Tup Zaa)) (xs_n xs_c : Nat) (k : Int) (hK : ZcC xs xs_n xs_c k Kf) (v8 v7 : Int) (h : Zm3 xs xs_n xs_c k v8 v7) : SemL Try.prog w0 fp ρi 2 19 [Zin, Zim] (Ya7 xs_n xs_c v8 v7) (Ya4 xs_n xs k) (Zh6 w0 fp ρi Kf xs xs_n xs_c k v7 v8) :=
  Zap ZfZ (ZsC xs xs_n xs_c k v8 v7 _ ⟨h.1, ⟨h.2.1, ⟨h.2.2.1, ⟨True.intro, (Zuh xs xs_n xs_c k hK v8 v7 h.2.2.2)⟩⟩⟩⟩)
theorem ZsB (xs : List (Tup Zaa)) (xs_n xs_c : Nat) (k v7 v8 : Int) (Z : Env -> Heap -> Prop) (h : Z (Ya7 xs_n xs_c v8 v7) (Ya4 xs_n xs k)) : EvC ZiY Zkr (Ya5 xs_n xs_c v7 v8) (Ya4 xs_n xs k) [0, 1, 5, 7, 8] [0, 1] Z := EvC.of (by kernel_rfl) h
def Zly (xs : List (Tup Zaa)) (xs_n xs_c : Nat) (k v7 v8 : Int) : Prop := Zm3 xs xs_n xs_c k v8 v7
theorem Zuf (xs : List (Tup Zaa)) (xs_n xs_c : Nat) (k : Int) (hK : ZcC xs xs_n xs_c k Kf) (v7 v8 : Int) (h : Zly xs xs_n xs_c k v7 v8) : SemL Try.prog w0 fp ρi 2 19 [Zkr, (.seq Zin Zim)] (Ya5 xs_n xs_c v7 v8) (Ya4 xs_n xs k) (Zh6 w0 fp ρi Kf xs xs_n xs_c k v7 v8) :=
  Zap ZfZ (ZsB xs xs_n xs_c k v7 v8 _ (Zau (Zug xs xs_n xs_c k hK v8 v7 h)))
theorem Zue (xs : List (Tup Zaa)) (xs_n xs_c : Nat) (k : Int) (hK : ZcC xs xs_n xs_c k Kf) (v7 v8 : Int) (h : Zly xs xs_n xs_c k v7 v8) : SemL Try.prog w0 fp ρi 2 19 [Zil, ZeA] (Ya5 xs_n xs_c v7 v8) (Ya4 xs_n xs k) (Zfs w0 fp ρi Kf xs xs_n xs_c k v7 v8) :=
  Zcu (Zau (Zuf xs xs_n xs_c k hK v7 v8 h))
theorem ZsA (xs : List (Tup Zaa)) (xs_n xs_c : Nat) (k : Int) (Z : Env -> Heap -> Prop) (h : Z [(4, some (.int .i64 (-1)))] (Ya4 xs_n xs k)) : EvC ZiY Zdi [] (Ya4 xs_n xs k) [4] [0, 1] Z := EvC.of (by kernel_rfl) h
theorem ZqG (xs : List (Tup Zaa)) (xs_n xs_c : Nat) (k : Int) : RetC Zf7 [(4, some (.int .i64 (-1)))] (Ya4 xs_n xs k) (.int .i64 (-1)) := RetC.of (fun Z => by kernel_rfl)
def Zm2 (xs : List (Tup Zaa)) (xs_n xs_c : Nat) (k : Int) : Prop := (-1) = (idxK k xs)
theorem Zud (xs : List (Tup Zaa)) (xs_n xs_c : Nat) (k : Int) (hK : ZcC xs xs_n xs_c k Kf) (h : Zm2 xs xs_n xs_c k) : SemL Try.prog w0 fp ρi 2 19 [Zdi, .ret] [] (Ya4 xs_n xs k) (fnK Zf7 2 Kf) :=
  Zap ZfZ (ZsA xs xs_n xs_c k _ (ZaT (R := Zf7) (m := 2) (Kf := Kf) (fun _ _ h => h) (ZqG xs xs_n xs_c k) (ZaK (Eq.mpr (cg1 (fun (z1 : Int) => Zdr 2 Kf (.int .i64 z1) (Ya4 xs_n xs k)) h) (Zaz [] [0, 1] rfl (by kernel_rfl) rfl pbd (hsc pcs (hsc pcs Zak)) rfl (by kernel_rfl) (hK))))))
def Zlx (xs : List (Tup Zaa)) (xs_n xs_c : Nat) (k v7 v8 : Int) : Prop := ((decide (v8 < v7)) = true -> (Zly xs xs_n xs_c k v7 v8)) /\ ((decide (v8 < v7)) = false -> (Zm2 xs xs_n xs_c k))
abbrev Ya8 (x0 x1 : Nat) (x2 x3 : Int) : Env := [(0, some (.slice ⟨0, 0, 0, 2⟩ x0 x1)), (1, some (.fn (.func 70) [] [.ptr ⟨1, 0, 0, 1⟩ 1])), (7, some (.int .i64 x2)), (8, some (.int .i64 x3)), (9, some (.bool (decide (x3 < x2))))]
theorem Zuc (xs : List (Tup Zaa)) (xs_n xs_c : Nat) (k : Int) (hK : ZcC xs xs_n xs_c k Kf) (v7 v8 : Int) (h : Zlx xs xs_n xs_c k v7 v8) : SemL Try.prog w0 fp ρi 2 19 [Zks, (.seq Zil ZeA)] (Ya8 xs_n xs_c v7 v8) (Ya4 xs_n xs k) (Zfs w0 fp ρi Kf xs xs_n xs_c k v7 v8) :=
  Za8 (q := (decide (v8 < v7))) (by kernel_rfl) (fun hq => (Zb3 (lpk [0, 1, 7, 8] [0, 1] (Zau (Zue xs xs_n xs_c k hK v7 v8 (h.1 hq)))))) (fun hq => (ZjZ (lpk [] [0, 1] (Zau (Zud xs xs_n xs_c k hK (h.2 hq))))))
theorem Zsz (xs : List (Tup Zaa)) (xs_n xs_c : Nat) (k v7 v8 : Int) (Z : Env -> Heap -> Prop) (h : Z (Ya8 xs_n xs_c v7 v8) (Ya4 xs_n xs k)) : EvC ZiY Zkt (Ya5 xs_n xs_c v7 v8) (Ya4 xs_n xs k) [0, 1, 7, 8, 9] [0, 1] Z := EvC.of (by kernel_rfl) h
theorem Zub (xs : List (Tup Zaa)) (xs_n xs_c : Nat) (k : Int) (hK : ZcC xs xs_n xs_c k Kf) (v7 v8 : Int) (h : Zlx xs xs_n xs_c k v7 v8) : SemL Try.prog w0 fp ρi 2 19 [Zkt, (.seq Zks (.seq Zil ZeA))] (Ya5 xs_n xs_c v7 v8) (Ya4 xs_n xs k) (Zfs w0 fp ρi Kf xs xs_n xs_c k v7 v8) :=
  Zap ZfZ (Zsz xs xs_n xs_c k v7 v8 _ (Zau (Zuc xs xs_n xs_c k hK v7 v8 h)))
def Zlw (xs : List (Tup Zaa)) (xs_n xs_c : Nat) (k v7 : Int) : Prop := (0 <= (0 : Int) /\ (0 : Int) <= (xs_n : Int) /\ (List.take (Int.toNat (0 : Int)) xs).any (Zfv k) = false) /\ (∀ (v8 : Int), (0 <= v8 /\ v8 <= (xs_n : Int) /\ (List.take (Int.toNat v8) xs).any (Zfv k) = false) -> (Zlx xs xs_n xs_c k v7 v8))
abbrev Ya9 (x0 x1 : Nat) (x2 : Int) : Env := [(0, some (.slice ⟨0, 0, 0, 2⟩ x0 x1)), (1, some (.fn (.func 70) [] [.ptr ⟨1, 0, 0, 1⟩ 1])), (7, some (.int .i64 x2)), (8, some (.int .i64 0))]
theorem Zua (xs : List (Tup Zaa)) (xs_n xs_c : Nat) (k : Int) (hK : ZcC xs xs_n xs_c k Kf) (v7 : Int) (h : Zlw xs xs_n xs_c k v7) : SemL Try.prog w0 fp ρi 2 19 [Zmd] (Ya9 xs_n xs_c v7) (Ya4 xs_n xs k) (Zom w0 fp ρi Kf xs xs_n xs_c k) :=
  Zmp (Zoq xs xs_n xs_c k v7) (Zoc xs xs_n xs_c k v7) (Zoi xs xs_n xs_c k v7) (Zof xs xs_n xs_c k v7) ⟨0, tau [], h.1, (ZbE [] [0, 1] rfl rfl (esc bsl (esc (Zwz (Zbu bpt Zdq)) (esc pbd (esc pbd Zbb)))) (hsc pcs (hsc pcs Zak)) (by kernel_rfl) rfl)⟩ (fun s => match s with | v8 => fun hi => (Zau (Zub xs xs_n xs_c k hK v7 v8 (h.2 v8 hi))))
theorem Zrk (xs : List (Tup Zaa)) (xs_n xs_c : Nat) (k : Int) (hK : ZcC xs xs_n xs_c k Kf) (v7 : Int) (h : Zlw xs xs_n xs_c k v7) : SemL Try.prog w0 fp ρi 2 19 [Zgf, (.seq Zdi .ret)] (Ya9 xs_n xs_c v7) (Ya4 xs_n xs k) (fnK Zf7 2 Kf) :=
  Zcu (Zua xs xs_n xs_c k hK v7 h)
abbrev Zso (x0 x1 : Nat) : Env := [(0, some (.slice ⟨0, 0, 0, 2⟩ x0 x1)), (1, some (.fn (.func 70) [] [.ptr ⟨1, 0, 0, 1⟩ 1]))]
theorem Zqs (xs : List (Tup Zaa)) (xs_n xs_c : Nat) (k : Int) (Z : Env -> Heap -> Prop) (h : Z [(0, some (.slice ⟨0, 0, 0, 2⟩ xs_n xs_c)), (1, some (.fn (.func 70) [] [.ptr ⟨1, 0, 0, 1⟩ 1])), (7, some (.int .i64 ((xs_n : Nat) : Int))), (8, some (.int .i64 0))] (Ya4 xs_n xs k)) : EvC ZiY Zio (Zso xs_n xs_c) (Ya4 xs_n xs k) [0, 1, 7, 8] [0, 1] Z := EvC.of (by kernel_rfl) h
def Zgn (xs : List (Tup Zaa)) (xs_n xs_c : Nat) (k : Int) : Prop := ∀ v7 : Int, v7 = ((xs_n : Nat) : Int) -> Zlw xs xs_n xs_c k v7
theorem Zrj (xs : List (Tup Zaa)) (xs_n xs_c : Nat) (k : Int) (hK : ZcC xs xs_n xs_c k Kf) (h : Zgn xs xs_n xs_c k) : SemL Try.prog w0 fp ρi 2 19 [Zio, Zgf, (.seq Zdi .ret)] (Zso xs_n xs_c) (Ya4 xs_n xs k) (fnK Zf7 2 Kf) :=
  Zap ZfZ (Zqs xs xs_n xs_c k _ (Zrk xs xs_n xs_c k hK ((xs_n : Nat) : Int) (h ((xs_n : Nat) : Int) rfl)))
theorem Zqr (xs : List (Tup Zaa)) (xs_n xs_c : Nat) (k : Int) (Z : Env -> Heap -> Prop) (h : Z (Zso xs_n xs_c) (Ya4 xs_n xs k)) : EvC ZiY Zku (Zso xs_n xs_c) (Ya4 xs_n xs k) [0, 1] [0, 1] Z := EvC.of (by kernel_rfl) h
theorem Zri (xs : List (Tup Zaa)) (xs_n xs_c : Nat) (k : Int) (hK : ZcC xs xs_n xs_c k Kf) (h : Zgn xs xs_n xs_c k) : SemL Try.prog w0 fp ρi 2 19 [Zku, (.seq (.seq Zio Zgf) (.seq Zdi .ret))] (Zso xs_n xs_c) (Ya4 xs_n xs k) (fnK Zf7 2 Kf) :=
  Zap ZfZ (Zqr xs xs_n xs_c k _ (Zau (Zau (Zrj xs xs_n xs_c k hK h))))
theorem Zxc (xs : List (Tup Zaa)) (xs_n xs_c : Nat) (k : Int) (hK : ZcC xs xs_n xs_c k Kf) (h : Zgn xs xs_n xs_c k) : SemL Try.prog w0 fp ρi 2 19 [Zwt] (Zso xs_n xs_c) (Ya4 xs_n xs k) (fnK Zf7 2 Kf) :=
  (Zau (Zri xs xs_n xs_c k hK h))
end
theorem Zwe (xs : List (Tup Zaa)) (xs_n xs_c : Nat) (k : Int) (hpre : (List.length xs = xs_n /\ xs_n <= xs_c /\ xs_n <= 1000)) : Zgn xs xs_n xs_c k := by
  unfold Zgn Zlw Zlx Zm2 Zly Zm3 Zm4 Zm5 Zm6
  obtain ⟨hl, -, hl2⟩ := hpre
  rintro v7 rfl
  refine ⟨⟨by omega, by omega, rfl⟩, ?_⟩
  rintro i ⟨h0, h1, ha⟩
  refine ⟨fun hlt => ?_, fun hge => ?_⟩
  · have hlt := of_decide_eq_true hlt
    have e1 : IntKind.i64.wrap (i + 1) = i + 1 := by rw [Zse]; omega
    have e2 : (i + 1).toNat = i.toNat + 1 := by omega
    rw [Nat.zero_add]
    refine ⟨h0, hlt, by omega, fun hb => ?_, fun hb => ?_⟩
    · rw [show idxK k xs = ((i.toNat : Nat) : Int) from ZrS (by omega) ha hb]; omega
    · rw [e1, e2, Zel (by omega), List.any_append, ha]
      exact ⟨⟨by omega, by omega, by simp only [List.any_cons, List.any_nil, Bool.or_false, Bool.false_or]; exact hb⟩, by omega⟩
  · have hge := of_decide_eq_false hge
    rw [List.take_of_length_le (by omega)] at ha
    exact (Zot ha).symm
theorem Zxi : Sound Try.prog 69 (gS Zsb) := by
  refine ZaY ZmN ?_
  intro args H K h
  obtain ⟨pre, out, hD, hpre, hK⟩ := ZcG h
  unfold Zsb at hD
  split at hD
  · cases hD
    obtain ⟨rfl, hpre⟩ := hpre
    exact ⟨rfl, fun w0 fp ρi => Zxc _ _ _ _ hK (Zwe _ _ _ _ hpre)⟩
  · cases hD
def Zo2 : Zd2 := fun args H => match args, H with
  | [.ptr ⟨2, 0, 0, 1⟩ 2, .int .i64 key], ⟨3, [(0, some ⟨false, [.rows [.int .i64, .int .i64] xs_m xs], 0⟩), (1, some ⟨false, [.rows [.hd] c_1_s c_1_a, .one (.slice ⟨0, 0, 0, 2⟩ xs_n xs_c), .rows [.hd] c_1_t c_1_b], 0⟩), (2, some ⟨false, [.one (.int .i64 ways), .one (.slice ⟨1, 0, 0, 1⟩ c_1_l c_1_c)], 0⟩)]⟩ => some (xs_m = xs_n /\ ((List.length xs = xs_n /\ xs_n <= xs_c /\ xs_n <= 1000) /\ c_1_l = c_1_s + 1 + c_1_t /\ c_1_l <= 64 /\ c_1_l <= c_1_c /\ I64 key /\ (0 <= key -> Int.toNat (Int.tmod key (c_1_l : Int)) = c_1_s)), fun K => ((decide (key < 0)) = true -> K (.tuple [.nilptr, .int .i64 (-1)]) ⟨3, [(0, some ⟨false, [.rows Zaa xs_n xs], 0⟩), (1, some ⟨false, [.rows Zab c_1_s c_1_a, .one (.slice ⟨0, 0, 0, 2⟩ xs_n xs_c), .rows Zab c_1_t c_1_b], 0⟩), (2, some ⟨false, [.i ways, .one (.slice ⟨1, 0, 0, 1⟩ c_1_l c_1_c)], 0⟩)]⟩) /\ ((decide (key < 0)) = false -> K (.tuple [.ptr ⟨1, 0, c_1_s, 1⟩ 1, .int .i64 (idxK key xs)]) ⟨3, [(0, some ⟨false, [.rows Zaa xs_n xs], 0⟩), (1, some ⟨false, [.rows Zab c_1_s c_1_a, .one (.slice ⟨0, 0, 0, 2⟩ xs_n xs_c), .rows Zab c_1_t c_1_b], 0⟩), (2, some ⟨false, [.i ways, .one (.slice ⟨1, 0, 0, 1⟩ c_1_l c_1_c)], 0⟩)]⟩))
  | _, _ => none
def Zeh : Con := ⟨51, gS Zo2, [], [], []⟩
def Zey (ways : Int) (xs : List (Tup Zaa)) (xs_n xs_c c_1_s : Nat) (c_1_a : List (Tup Zab)) (c_1_t : Nat) (c_1_b : List (Tup Zab)) (c_1_l c_1_c : Nat) (key : Int) (Kf : SVal -> Heap -> Prop) : Prop := ((decide (key < 0)) = true -> Kf (.tuple [.nilptr, .int .i64 (-1)]) ⟨3, [(0, some ⟨false, [.rows Zaa xs_n xs], 0⟩), (1, some ⟨false, [.rows Zab c_1_s c_1_a, .one (.slice ⟨0, 0, 0, 2⟩ xs_n xs_c), .rows Zab c_1_t c_1_b], 0⟩), (2, some ⟨false, [.i ways, .one (.slice ⟨1, 0, 0, 1⟩ c_1_l c_1_c)], 0⟩)]⟩) /\ ((decide (key < 0)) = false -> Kf (.tuple [.ptr ⟨1, 0, c_1_s, 1⟩ 1, .int .i64 (idxK key xs)]) ⟨3, [(0, some ⟨false, [.rows Zaa xs_n xs], 0⟩), (1, some ⟨false, [.rows Zab c_1_s c_1_a, .one (.slice ⟨0, 0, 0, 2⟩ xs_n xs_c), .rows Zab c_1_t c_1_b], 0⟩), (2, some ⟨false, [.i ways, .one (.slice ⟨1, 0, 0, 1⟩ c_1_l c_1_c)], 0⟩)]⟩)
def ZkA : ACode := .reg (.op (some 3) (.box (.tm 1)) (.op (some 4) (.mov (.cn (.nilptr))) (.op (some 5) (.mov (.cn (.int .i64 0))) .nil)))
def Ziu : ACode := .reg (.op (some 6) (.load1 (.tm 3)) (.op (some 7) (.bin .lss (.tm 6) (.cn (.int .i64 0))) .nil))
def Zkz : ACode := .reg (.op (some 4) (.mov (.cn (.nilptr))) (.op (some 5) (.mov (.cn (.int .i64 (-1)))) .nil))
def Zit : ACode := .cond (.tm 7) (.seq Zkz .ret) .skip
def Zis : Items := .op (some 8) (.mov (.tm 0)) (.op (some 9) (.nilCheck (.tm 8)) (.op (some 10) (.fieldAddr (.tm 9) 1 1) (.op (some 11) (.load1 (.tm 10)) (.op (some 12) (.load1 (.tm 3)) (.op (some 13) (.mov (.tm 0)) (.op (some 14) (.nilCheck (.tm 13)) (.op (some 15) (.fieldAddr (.tm 14) 1 1) (.op (some 16) (.load1 (.tm 15)) (.op (some 17) (.len (.tm 16)) (.op (some 18) (.bin .rem (.tm 12) (.tm 17)) (.op (some 19) (.idxS (.tm 11) (.tm 18) 1) (.op (some 4) (.mov (.tm 19)) .nil))))))))))))
def Zfx : ACode := .regQ Zis
def ZdW : ACode := .reg (.op (some 20) (.mov (.tm 4)) (.op (some 21) (.mov (.tm 4)) (.op (some 22) (.nilCheck (.tm 21)) (.op (some 23) (.load1 (.tm 22)) (.op (some 24) (.mkFn 70 [(.tm 3)]) (.op (some 25) (.call 69 [(.tm 23), (.tm 24)]) (.op (some 4) (.mov (.tm 20)) (.op (some 5) (.mov (.tm 25)) .nil))))))))
def Zp1 : ACode := (.seq ZkA (.seq (.seq Ziu Zit) (.seq Zfx (.seq ZdW .ret))))
def Zdx : Res := .many [.tm 4, .tm 5]
theorem Zlg : ZbP Try.prog 51 2 26 Zp1 Zdx = true := by kernel_rfl
def ZhM : ZaB := Zdy [] [ZrY]
theorem ZgL : ZaR Try.prog ZhM := Za9 trivial ⟨Zxi, trivial⟩
section
variable {w0 : World} {fp : Nat -> Nat -> Prop} {ρi : Rho} {Kf : SVal -> Heap -> Prop}
abbrev ZyJ : Env := [(4, some (.nilptr)), (5, some (.int .i64 (-1)))]
abbrev Zr5 (x0 : Nat) (x1 : List (Tup Zaa)) (x2 : Nat) (x3 : List (Tup Zab)) (x4 x5 : Nat) (x6 : List (Tup Zab)) (x7 : Int) (x8 x9 : Nat) : Heap := ⟨4, [(0, some ⟨false, [.rows Zaa x0 x1], 0⟩), (1, some ⟨false, [.rows Zab x2 x3, .one (.slice ⟨0, 0, 0, 2⟩ x0 x4), .rows Zab x5 x6], 0⟩), (2, some ⟨false, [.i x7, .one (.slice ⟨1, 0, 0, 1⟩ x8 x9)], 0⟩)]⟩
theorem ZsT (ways : Int) (xs : List (Tup Zaa)) (xs_n xs_c c_1_s : Nat) (c_1_a : List (Tup Zab)) (c_1_t : Nat) (c_1_b : List (Tup Zab)) (c_1_l c_1_c : Nat) (key : Int) (Z : Env -> Heap -> Prop) (h : Z ZyJ (Zr5 xs_n xs c_1_s c_1_a xs_c c_1_t c_1_b ways c_1_l c_1_c)) : EvC ZhM Zkz [] (Zr5 xs_n xs c_1_s c_1_a xs_c c_1_t c_1_b ways c_1_l c_1_c) [4, 5] [0, 1, 2] Z := EvC.of (by kernel_rfl) h
theorem ZqN (ways : Int) (xs : List (Tup Zaa)) (xs_n xs_c c_1_s : Nat) (c_1_a : List (Tup Zab)) (c_1_t : Nat) (c_1_b : List (Tup Zab)) (c_1_l c_1_c : Nat) (key : Int) : RetC Zdx ZyJ (Zr5 xs_n xs c_1_s c_1_a xs_c c_1_t c_1_b ways c_1_l c_1_c) (.tuple [.nilptr, .int .i64 (-1)]) := RetC.of (fun Z => by kernel_rfl)
def Znf (ways : Int) (xs : List (Tup Zaa)) (xs_n xs_c c_1_s : Nat) (c_1_a : List (Tup Zab)) (c_1_t : Nat) (c_1_b : List (Tup Zab)) (c_1_l c_1_c : Nat) (key : Int) : Prop := (decide (key < 0)) = true
theorem ZuA (ways : Int) (xs : List (Tup Zaa)) (xs_n xs_c c_1_s : Nat) (c_1_a : List (Tup Zab)) (c_1_t : Nat) (c_1_b : List (Tup Zab)) (c_1_l c_1_c : Nat) (key : Int) (hK : Zey ways xs xs_n xs_c c_1_s c_1_a c_1_t c_1_b c_1_l c_1_c key Kf) (h : Znf ways xs xs_n xs_c c_1_s c_1_a c_1_t c_1_b c_1_l c_1_c key) : SemL Try.prog w0 fp ρi 3 26 [Zkz, .ret, (.seq Zfx (.seq ZdW .ret))] [] (Zr5 xs_n xs c_1_s c_1_a xs_c c_1_t c_1_b ways c_1_l c_1_c) (fnK Zdx 3 Kf) :=
  Zap ZgL (ZsT ways xs xs_n xs_c c_1_s c_1_a c_1_t c_1_b c_1_l c_1_c key _ (ZaT (R := Zdx) (m := 3) (Kf := Kf) (fun _ _ h => h) (ZqN ways xs xs_n xs_c c_1_s c_1_a c_1_t c_1_b c_1_l c_1_c key) (ZaK (Zaz [] [0, 1, 2] rfl (by kernel_rfl) rfl (Zdp (Zbu pbd (Zbu pbd Zdq))) (hsc pcs (hsc (Zaq (Zam bsl (Zaq Zax))) (hsc (Zam pbd (Zam bsl Zax)) Zak))) rfl (by kernel_rfl) ((hK.1 h))))))
abbrev ZyI (x0 : Nat) : Env := [(3, some (.ptr ⟨3, 0, 0, 1⟩ 1)), (4, some (.ptr ⟨1, 0, x0, 1⟩ 1))]
abbrev Zo6 (x0 : Nat) (x1 : List (Tup Zaa)) (x2 : Nat) (x3 : List (Tup Zab)) (x4 x5 : Nat) (x6 : List (Tup Zab)) (x7 : Int) (x8 x9 : Nat) (ah : Int) : Heap := ⟨4, [(0, some ⟨false, [.rows Zaa x0 x1], 0⟩), (1, some ⟨false, [.rows Zab x2 x3, .one (.slice ⟨0, 0, 0, 2⟩ x0 x4), .rows Zab x5 x6], 0⟩), (2, some ⟨false, [.i x7, .one (.slice ⟨1, 0, 0, 1⟩ x8 x9)], 0⟩), (3, some ⟨true, [.i ah], 0⟩)]⟩
theorem ZsS (ways : Int) (xs : List (Tup Zaa)) (xs_n xs_c c_1_s : Nat) (c_1_a : List (Tup Zab)) (c_1_t : Nat) (c_1_b : List (Tup Zab)) (c_1_l c_1_c : Nat) (key : Int) (ag : Nat) (Z : Env -> Heap -> Prop) (h : ((ag = c_1_s)) /\ (((xs_n : Nat) <= xs_n)) /\ (((xs_n : Nat) = xs_n) /\ (List.length (List.take xs_n xs) = xs_n /\ xs_n <= xs_c /\ xs_n <= 1000)) /\ Z [(4, some (.ptr ⟨1, 0, ag, 1⟩ 1)), (5, some (.int .i64 (idxK key (List.take xs_n xs))))] (Zr5 xs_n xs c_1_s c_1_a xs_c c_1_t c_1_b ways c_1_l c_1_c)) : EvC ZhM ZdW (ZyI ag) (Zo6 xs_n xs c_1_s c_1_a xs_c c_1_t c_1_b ways c_1_l c_1_c key) [4, 5] [0, 1, 2] Z := EvC.of (by kernel_rfl) h
theorem ZqM (ways : Int) (xs : List (Tup Zaa)) (xs_n xs_c c_1_s : Nat) (c_1_a : List (Tup Zab)) (c_1_t : Nat) (c_1_b : List (Tup Zab)) (c_1_l c_1_c : Nat) (key : Int) (ag : Nat) : RetC Zdx [(4, some (.ptr ⟨1, 0, ag, 1⟩ 1)), (5, some (.int .i64 (idxK key (List.take xs_n xs))))] (Zr5 xs_n xs c_1_s c_1_a xs_c c_1_t c_1_b ways c_1_l c_1_c) (.tuple [.ptr ⟨1, 0, ag, 1⟩ 1, .int .i64 (idxK key (List.take xs_n xs))]) := RetC.of (fun Z => by kernel_rfl)
def Zne (ways : Int) (xs : List (Tup Zaa)) (xs_n xs_c c_1_s : Nat) (c_1_a : List (Tup Zab)) (c_1_t : Nat) (c_1_b : List (Tup Zab)) (c_1_l c_1_c : Nat) (key : Int) (ag : Nat) : Prop := ((ag = c_1_s)) /\ (((List.length (List.take xs_n xs) = xs_n /\ xs_n <= xs_c /\ xs_n <= 1000)) /\ (((decide (key < 0)) = false) /\ (ag = c_1_s) /\ ((idxK key (List.take xs_n xs)) = (idxK key xs))))
theorem Zuz (ways : Int) (xs : List (Tup Zaa)) (xs_n xs_c c_1_s : Nat) (c_1_a : List (Tup Zab)) (c_1_t : Nat) (c_1_b : List (Tup Zab)) (c_1_l c_1_c : Nat) (key : Int) (hK : Zey ways xs xs_n xs_c c_1_s c_1_a c_1_t c_1_b c_1_l c_1_c key Kf) (ag : Nat) (h : Zne ways xs xs_n xs_c c_1_s c_1_a c_1_t c_1_b c_1_l c_1_c key ag) : SemL Try.prog w0 fp ρi 3 26 [ZdW, .ret] (ZyI ag) (Zo6 xs_n xs c_1_s c_1_a xs_c c_1_t c_1_b ways c_1_l c_1_c key) (fnK Zdx 3 Kf) :=
  Zap ZgL (ZsS ways xs xs_n xs_c c_1_s c_1_a c_1_t c_1_b c_1_l c_1_c key ag _ ⟨h.1, ⟨(Nat.le_refl _), ⟨⟨rfl, h.2.1⟩, (ZaT (R := Zdx) (m := 3) (Kf := Kf) (fun _ _ h => h) (ZqM ways xs xs_n xs_c c_1_s c_1_a c_1_t c_1_b c_1_l c_1_c key ag) (ZaK (Eq.mpr (cg2 (fun (z1 : Nat) (z2 : Int) => Zdr 3 Kf (.tuple [.ptr ⟨1, 0, z1, 1⟩ 1, .int .i64 z2]) (Zr5 xs_n xs c_1_s c_1_a xs_c c_1_t c_1_b ways c_1_l c_1_c)) h.2.2.2.1 h.2.2.2.2) (Zaz [] [0, 1, 2] rfl (by kernel_rfl) rfl (Zdp (Zbu bpt (Zbu pbd Zdq))) (hsc pcs (hsc (Zaq (Zam bsl (Zaq Zax))) (hsc (Zam pbd (Zam bsl Zax)) Zak))) rfl (by kernel_rfl) ((hK.2 h.2.2.1))))))⟩⟩⟩)
abbrev ZwI : Env := [(0, some (.ptr ⟨2, 0, 0, 1⟩ 2)), (3, some (.ptr ⟨3, 0, 0, 1⟩ 1))]
theorem ZsR (ways : Int) (xs : List (Tup Zaa)) (xs_n xs_c c_1_s : Nat) (c_1_a : List (Tup Zab)) (c_1_t : Nat) (c_1_b : List (Tup Zab)) (c_1_l c_1_c : Nat) (key : Int) (Z : Env -> Heap -> Prop) (h : ((((c_1_l : Nat) : Int) ≠ 0)) /\ ((0 <= (Int.tmod key ((c_1_l : Nat) : Int)))) /\ (((Int.tmod key ((c_1_l : Nat) : Int)) < ((c_1_l : Nat) : Int))) /\ Z [(3, some (.ptr ⟨3, 0, 0, 1⟩ 1)), (4, some (.ptr ⟨1, 0, (0 + (Int.toNat (Int.tmod key ((c_1_l : Nat) : Int)))), 1⟩ 1))] (Zo6 xs_n xs c_1_s c_1_a xs_c c_1_t c_1_b ways c_1_l c_1_c key)) : EvQC ZhM Zis [] ZwI (Zo6 xs_n xs c_1_s c_1_a xs_c c_1_t c_1_b ways c_1_l c_1_c key) [3, 4] [0, 1, 2, 3] Z := EvQC.of (by kernel_rfl) h
def Znd (ways : Int) (xs : List (Tup Zaa)) (xs_n xs_c c_1_s : Nat) (c_1_a : List (Tup Zab)) (c_1_t : Nat) (c_1_b : List (Tup Zab)) (c_1_l c_1_c : Nat) (key : Int) : Prop := ((((c_1_l : Nat) : Int) ≠ 0)) /\ (((0 <= (Int.tmod key ((c_1_l : Nat) : Int)))) /\ ((((Int.tmod key ((c_1_l : Nat) : Int)) < ((c_1_l : Nat) : Int))) /\ (∀ ag : Nat, ag = (0 + (Int.toNat (Int.tmod key ((c_1_l : Nat) : Int)))) -> Zne ways xs xs_n xs_c c_1_s c_1_a c_1_t c_1_b c_1_l c_1_c key ag)))
theorem Zuy (ways : Int) (xs : List (Tup Zaa)) (xs_n xs_c c_1_s : Nat) (c_1_a : List (Tup Zab)) (c_1_t : Nat) (c_1_b : List (Tup Zab)) (c_1_l c_1_c : Nat) (key : Int) (hK : Zey ways xs xs_n xs_c c_1_s c_1_a c_1_t c_1_b c_1_l c_1_c key Kf) (h : Znd ways xs xs_n xs_c c_1_s c_1_a c_1_t c_1_b c_1_l c_1_c key) : SemL Try.prog w0 fp ρi 3 26 [Zfx, (.seq ZdW .ret)] ZwI (Zo6 xs_n xs c_1_s c_1_a xs_c c_1_t c_1_b ways c_1_l c_1_c key) (fnK Zdx 3 Kf) :=
  Zhb ZgL (its := Zis) (ZsR ways xs xs_n xs_c c_1_s c_1_a c_1_t c_1_b c_1_l c_1_c key _ ⟨h.1, ⟨h.2.1, ⟨h.2.2.1, (Zau (Zuz ways xs xs_n xs_c c_1_s c_1_a c_1_t c_1_b c_1_l c_1_c key hK (0 + (Int.toNat (Int.tmod key ((c_1_l : Nat) : Int)))) (h.2.2.2 (0 + (Int.toNat (Int.tmod key ((c_1_l : Nat) : Int)))) rfl)))⟩⟩⟩)
def Zhg (ways : Int) (xs : List (Tup Zaa)) (xs_n xs_c c_1_s : Nat) (c_1_a : List (Tup Zab)) (c_1_t : Nat) (c_1_b : List (Tup Zab)) (c_1_l c_1_c : Nat) (key : Int) : Prop := ((decide (key < 0)) = true -> (Znf ways xs xs_n xs_c c_1_s c_1_a c_1_t c_1_b c_1_l c_1_c key)) /\ ((decide (key < 0)) = false -> (Znd ways xs xs_n xs_c c_1_s c_1_a c_1_t c_1_b c_1_l c_1_c key))
abbrev ZyH (x0 : Int) : Env := [(0, some (.ptr ⟨2, 0, 0, 1⟩ 2)), (3, some (.ptr ⟨3, 0, 0, 1⟩ 1)), (7, some (.bool (decide (x0 < 0))))]
theorem Zux (ways : Int) (xs : List (Tup Zaa)) (xs_n xs_c c_1_s : Nat) (c_1_a : List (Tup Zab)) (c_1_t : Nat) (c_1_b : List (Tup Zab)) (c_1_l c_1_c : Nat) (key : Int) (hK : Zey ways xs xs_n xs_c c_1_s c_1_a c_1_t c_1_b c_1_l c_1_c key Kf) (h : Zhg ways xs xs_n xs_c c_1_s c_1_a c_1_t c_1_b c_1_l c_1_c key) : SemL Try.prog w0 fp ρi 3 26 [Zit, (.seq Zfx (.seq ZdW .ret))] (ZyH key) (Zo6 xs_n xs c_1_s c_1_a xs_c c_1_t c_1_b ways c_1_l c_1_c key) (fnK Zdx 3 Kf) :=
  Za8 (q := (decide (key < 0))) (by kernel_rfl) (fun hq => (Zau (lpk [] [0, 1, 2] (ZuA ways xs xs_n xs_c c_1_s c_1_a c_1_t c_1_b c_1_l c_1_c key hK (h.1 hq))))) (fun hq => (Zb3 (lpk [0, 3] [0, 1, 2, 3] (Zau (Zuy ways xs xs_n xs_c c_1_s c_1_a c_1_t c_1_b c_1_l c_1_c key hK (h.2 hq))))))
theorem ZsQ (ways : Int) (xs : List (Tup Zaa)) (xs_n xs_c c_1_s : Nat) (c_1_a : List (Tup Zab)) (c_1_t : Nat) (c_1_b : List (Tup Zab)) (c_1_l c_1_c : Nat) (key : Int) (Z : Env -> Heap -> Prop) (h : Z (ZyH key) (Zo6 xs_n xs c_1_s c_1_a xs_c c_1_t c_1_b ways c_1_l c_1_c key)) : EvC ZhM Ziu ZwI (Zo6 xs_n xs c_1_s c_1_a xs_c c_1_t c_1_b ways c_1_l c_1_c key) [0, 3, 7] [0, 1, 2, 3] Z := EvC.of (by kernel_rfl) h
theorem Zuw (ways : Int) (xs : List (Tup Zaa)) (xs_n xs_c c_1_s : Nat) (c_1_a : List (Tup Zab)) (c_1_t : Nat) (c_1_b : List (Tup Zab)) (c_1_l c_1_c : Nat) (key : Int) (hK : Zey ways xs xs_n xs_c c_1_s c_1_a c_1_t c_1_b c_1_l c_1_c key Kf) (h : Zhg ways xs xs_n xs_c c_1_s c_1_a c_1_t c_1_b c_1_l c_1_c key) : SemL Try.prog w0 fp ρi 3 26 [Ziu, Zit, (.seq Zfx (.seq ZdW .ret))] ZwI (Zo6 xs_n xs c_1_s c_1_a xs_c c_1_t c_1_b ways c_1_l c_1_c key) (fnK Zdx 3 Kf) :=
  Zap ZgL (ZsQ ways xs xs_n xs_c c_1_s c_1_a c_1_t c_1_b c_1_l c_1_c key _ (Zux ways xs xs_n xs_c c_1_s c_1_a c_1_t c_1_b c_1_l c_1_c key hK h))
abbrev Zx2 (x0 : Int) : Env := [(0, some (.ptr ⟨2, 0, 0, 1⟩ 2)), (1, some (.int .i64 x0))]
abbrev Zx1 (x0 : Nat) (x1 : List (Tup Zaa)) (x2 : Nat) (x3 : List (Tup Zab)) (x4 x5 : Nat) (x6 : List (Tup Zab)) (x7 : Int) (x8 x9 : Nat) : Heap := ⟨3, [(0, some ⟨false, [.rows Zaa x0 x1], 0⟩), (1, some ⟨false, [.rows Zab x2 x3, .one (.slice ⟨0, 0, 0, 2⟩ x0 x4), .rows Zab x5 x6], 0⟩), (2, some ⟨false, [.i x7, .one (.slice ⟨1, 0, 0, 1⟩ x8 x9)], 0⟩)]⟩
theorem ZsP (ways : Int) (xs : List (Tup Zaa)) (xs_n xs_c c_1_s : Nat) (c_1_a : List (Tup Zab)) (c_1_t : Nat) (c_1_b : List (Tup Zab)) (c_1_l c_1_c : Nat) (key : Int) (Z : Env -> Heap -> Prop) (h : Z ZwI (Zo6 xs_n xs c_1_s c_1_a xs_c c_1_t c_1_b ways c_1_l c_1_c key)) : EvC ZhM ZkA (Zx2 key) (Zx1 xs_n xs c_1_s c_1_a xs_c c_1_t c_1_b ways c_1_l c_1_c) [0, 3] [0, 1, 2, 3] Z := EvC.of (by kernel_rfl) h
theorem Zuv (ways : Int) (xs : List (Tup Zaa)) (xs_n xs_c c_1_s : Nat) (c_1_a : List (Tup Zab)) (c_1_t : Nat) (c_1_b : List (Tup Zab)) (c_1_l c_1_c : Nat) (key : Int) (hK : Zey ways xs xs_n xs_c c_1_s c_1_a c_1_t c_1_b c_1_l c_1_c key Kf) (h : Zhg ways xs xs_n xs_c c_1_s c_1_a c_1_t c_1_b c_1_l c_1_c key) : SemL Try.prog w0 fp ρi 3 26 [ZkA, (.seq (.seq Ziu Zit) (.seq Zfx (.seq ZdW .ret)))] (Zx2 key) (Zx1 xs_n xs c_1_s c_1_a xs_c c_1_t c_1_b ways c_1_l c_1_c) (fnK Zdx 3 Kf) :=
  Zap ZgL (ZsP ways xs xs_n xs_c c_1_s c_1_a c_1_t c_1_b c_1_l c_1_c key _ (Zau (Zau (Zuw ways xs xs_n xs_c c_1_s c_1_a c_1_t c_1_b c_1_l c_1_c key hK h))))
theorem Zsr (ways : Int) (xs : List (Tup Zaa)) (xs_n xs_c c_1_s : Nat) (c_1_a : List (Tup Zab)) (c_1_t : Nat) (c_1_b : List (Tup Zab)) (c_1_l c_1_c : Nat) (key : Int) (hK : Zey ways xs xs_n xs_c c_1_s c_1_a c_1_t c_1_b c_1_l c_1_c key Kf) (h : Zhg ways xs xs_n xs_c c_1_s c_1_a c_1_t c_1_b c_1_l c_1_c key) : SemL Try.prog w0 fp ρi 3 26 [Zp1] (Zx2 key) (Zx1 xs_n xs c_1_s c_1_a xs_c c_1_t c_1_b ways c_1_l c_1_c) (fnK Zdx 3 Kf) :=
  (Zau (Zuv ways xs xs_n xs_c c_1_s c_1_a c_1_t c_1_b c_1_l c_1_c key hK h))
end
theorem ZrK (ways : Int) (xs : List (Tup Zaa)) (xs_n xs_c c_1_s : Nat) (c_1_a : List (Tup Zab)) (c_1_t : Nat) (c_1_b : List (Tup Zab)) (c_1_l c_1_c : Nat) (key : Int) (hpre : ((List.length xs = xs_n /\ xs_n <= xs_c /\ xs_n <= 1000) /\ c_1_l = c_1_s + 1 + c_1_t /\ c_1_l <= 64 /\ c_1_l <= c_1_c /\ I64 key /\ (0 <= key -> Int.toNat (Int.tmod key (c_1_l : Int)) = c_1_s))) : Zhg ways xs xs_n xs_c c_1_s c_1_a c_1_t c_1_b c_1_l c_1_c key := by
  unfold Zhg Znd Zne Znf
  obtain ⟨⟨hl, hc, hm⟩, h1, h2, h3, h4, h5⟩ := hpre
  refine ⟨fun h => h, fun h => ?_⟩
  have hk := of_decide_eq_false h
  have e1 := Int.tmod_nonneg (c_1_l : Int) (show 0 <= key by omega)
  have e2 := Int.tmod_lt_of_pos key (show (0 : Int) < c_1_l by omega)
  have e3 := h5 (by omega)
  refine ⟨by omega, e1, e2, ?_⟩
  rintro _ rfl
  rw [List.take_of_length_le (by omega)]
  exact ⟨by omega, ⟨hl, hc, hm⟩, h, by omega, rfl⟩
theorem Zhl : Sound Try.prog 51 (gS Zo2) := by
  refine ZaY Zlg ?_
  intro args H K h
  obtain ⟨pre, out, hD, hpre, hK⟩ := ZcG h
  unfold Zo2 at hD
  split at hD
  · cases hD
    obtain ⟨rfl, hpre⟩ := hpre
    exact ⟨rfl, fun w0 fp ρi => Zsr _ _ _ _ _ _ _ _ _ _ _ hK (ZrK _ _ _ _ _ _ _ _ _ _ _ hpre)⟩
  · cases hD
def Zsc : Zd2 := fun args H => match args, H with
  | [.slice ⟨0, 0, 0, 2⟩ s_n s_c, .int .i64 i, .int .i64 j], ⟨1, [(0, some ⟨true, [.rows [.int .i64, .int .i64] s_m s], 0⟩)]⟩ => some (s_m = s_n /\ ((List.length s = s_n /\ s_n <= s_c /\ s_n <= 1000) /\ 0 <= i /\ i <= j /\ j <= (s_n : Int)), fun K => K (.slice ⟨0, 0, 0, 2⟩ (s_n - (Int.toNat j - Int.toNat i)) s_c) ⟨1, [(0, some ⟨true, [.rows Zaa s_n (ZaH i j s)], 0⟩)]⟩)
  | _, _ => none
def ZoO : Con := ⟨53, gS Zsc, [0], [], []⟩
def Zeq (s : List (Tup Zaa)) (s_n s_c : Nat) (i j : Int) (Kf : SVal -> Heap -> Prop) : Prop := Kf (.slice ⟨0, 0, 0, 2⟩ (s_n - (Int.toNat j - Int.toNat i)) s_c) ⟨1, [(0, some ⟨true, [.rows Zaa s_n (ZaH i j s)], 0⟩)]⟩
def Zkw : ACode := .reg (.op (some 6) (.mov (.cn (.nilslice))) .nil)
def Ziq : ACode := .reg (.op (some 8) (.mov (.tm 0)) (.op (some 9) (.mov (.tm 1)) (.op (some 10) (.mov (.tm 2)) (.op (some 11) (.mov (.tm 0)) (.op (some 12) (.len (.tm 11)) (.op (some 13) (.sliceS 2 (.tm 8) (some (.tm 9)) (some (.tm 10)) (some (.tm 12))) .nil))))))
def ZgU : ACode := .reg (.op (some 14) (.mov (.tm 1)) (.op (some 15) (.mov (.tm 2)) (.op (some 16) (.bin .eql (.tm 14) (.tm 15)) .nil)))
def Zkv : ACode := .reg (.op (some 17) (.mov (.tm 0)) (.op (some 6) (.mov (.tm 17)) .nil))
def ZgT : ACode := .cond (.tm 16) (.seq Zkv .ret) .skip
def ZdV : ACode := .reg (.op (some 18) (.mov (.tm 0)) (.op (some 19) (.len (.tm 18)) (.op (some 7) (.mov (.tm 19)) .nil)))
def Zip : List MStep := [.mk 0 0 (some 20) (.mov (.tm 0)), .mk 1 0 (some 21) (.mov (.tm 1)), .mk 2 0 (some 22) (.sliceS 2 (.tm 20) none (some (.tm 21)) none), .mk 3 0 (some 23) (.mov (.tm 0)), .mk 4 0 (some 24) (.mov (.tm 2)), .mk 5 0 (some 25) (.sliceS 2 (.tm 23) (some (.tm 24)) none none), .mk 6 2 (some 26) (.appendIn Zaa (.tm 22) (.tm 25)), .mk 7 0 (some 0) (.mov (.tm 26))]
def ZdU : ACode := .regM Zip
def ZcL : ACode := .reg (.op (some 27) (.mov (.tm 0)) (.op (some 28) (.mov (.tm 0)) (.op (some 29) (.len (.tm 28)) (.op (some 30) (.mov (.tm 7)) (.op (some 31) (.sliceS 2 (.tm 27) (some (.tm 29)) (some (.tm 30)) none) (.op none (.clearR Zaa (.tm 31)) .nil))))))
def Zco : ACode := .reg (.op (some 32) (.mov (.tm 0)) (.op (some 6) (.mov (.tm 32)) .nil))
def Zwv : ACode := (.seq Zkw (.seq Ziq (.seq (.seq ZgU ZgT) (.seq ZdV (.seq ZdU (.seq ZcL (.seq Zco .ret)))))))
def ZeM : Res := .one (.tm 6)
theorem ZmP : ZbP Try.prog 53 3 33 Zwv ZeM = true := by kernel_rfl
def ZiZ : ZaB := Zdy [] []
theorem Zf0 : ZaR Try.prog ZiZ := Za9 trivial trivial
section
variable {w0 : World} {fp : Nat -> Nat -> Prop} {ρi : Rho} {Kf : SVal -> Heap -> Prop}
abbrev Zw6 (x0 x1 : Nat) : Env := [(6, some (.slice ⟨0, 0, 0, 2⟩ x0 x1))]
abbrev Zfm (x0 : Nat) (x1 : List (Tup Zaa)) : Heap := ⟨1, [(0, some ⟨true, [.rows Zaa x0 x1], 0⟩)]⟩
abbrev ZwH (x0 x1 : Nat) : Env := [(0, some (.slice ⟨0, 0, 0, 2⟩ x0 x1))]
theorem ZsM (s : List (Tup Zaa)) (s_n s_c : Nat) (i j : Int) (Z : Env -> Heap -> Prop) (h : Z (Zw6 s_n s_c) (Zfm s_n s)) : EvC ZiZ Zkv (ZwH s_n s_c) (Zfm s_n s) [6] [0] Z := EvC.of (by kernel_rfl) h
theorem ZqJ (s : List (Tup Zaa)) (s_n s_c : Nat) (i j : Int) : RetC ZeM (Zw6 s_n s_c) (Zfm s_n s) (.slice ⟨0, 0, 0, 2⟩ s_n s_c) := RetC.of (fun Z => by kernel_rfl)
def Znb (s : List (Tup Zaa)) (s_n s_c : Nat) (i j : Int) : Prop := (s_n = (s_n - (Int.toNat j - Int.toNat i))) /\ (s = (ZaH i j s))
theorem Zus (s : List (Tup Zaa)) (s_n s_c : Nat) (i j : Int) (hK : Zeq s s_n s_c i j Kf) (h : Znb s s_n s_c i j) : SemL Try.prog w0 fp ρi 1 33 [Zkv, .ret, (.seq ZdV (.seq ZdU (.seq ZcL (.seq Zco .ret))))] (ZwH s_n s_c) (Zfm s_n s) (fnK ZeM 1 Kf) :=
  Zap Zf0 (ZsM s s_n s_c i j _ (ZaT (R := ZeM) (m := 1) (Kf := Kf) (fun _ _ h => h) (ZqJ s s_n s_c i j) (ZaK (Eq.mpr (cg2 (fun (z1 : Nat) (z2 : List (Tup Zaa)) => Zdr 1 Kf (.slice ⟨0, 0, 0, 2⟩ z1 s_c) (Zfm s_n z2)) h.1 h.2) (Zaz [] [0] rfl (by kernel_rfl) rfl bsl (hsc pcs Zak) rfl (by kernel_rfl) (hK))))))
theorem ZsL (s : List (Tup Zaa)) (s_n s_c : Nat) (i j : Int) (ad ae : Nat) (af : List (Tup Zaa)) (Z : Env -> Heap -> Prop) (h : Z (Zw6 ad ae) (Zfm s_n af)) : EvC ZiZ Zco (ZwH ad ae) (Zfm s_n af) [6] [0] Z := EvC.of (by kernel_rfl) h
theorem ZqI (s : List (Tup Zaa)) (s_n s_c : Nat) (i j : Int) (ad ae : Nat) (af : List (Tup Zaa)) : RetC ZeM (Zw6 ad ae) (Zfm s_n af) (.slice ⟨0, 0, 0, 2⟩ ad ae) := RetC.of (fun Z => by kernel_rfl)
def Zna (s : List (Tup Zaa)) (s_n s_c : Nat) (i j : Int) (ad ae : Nat) (af : List (Tup Zaa)) : Prop := (ae = s_c) /\ (ad = (s_n - (Int.toNat j - Int.toNat i))) /\ (af = (ZaH i j s))
theorem Zur (s : List (Tup Zaa)) (s_n s_c : Nat) (i j : Int) (hK : Zeq s s_n s_c i j Kf) (ad ae : Nat) (af : List (Tup Zaa)) (h : Zna s s_n s_c i j ad ae af) : SemL Try.prog w0 fp ρi 1 33 [Zco, .ret] (ZwH ad ae) (Zfm s_n af) (fnK ZeM 1 Kf) :=
  Zap Zf0 (ZsL s s_n s_c i j ad ae af _ (ZaT (R := ZeM) (m := 1) (Kf := Kf) (fun _ _ h => h) (ZqI s s_n s_c i j ad ae af) (ZaK (Eq.mpr (cg3 (fun (z1 z2 : Nat) (z3 : List (Tup Zaa)) => Zdr 1 Kf (.slice ⟨0, 0, 0, 2⟩ z2 z1) (Zfm s_n z3)) h.1 h.2.1 h.2.2) (Zaz [] [0] rfl (by kernel_rfl) rfl bsl (hsc pcs Zak) rfl (by kernel_rfl) (hK))))))
theorem ZsK (s : List (Tup Zaa)) (s_n s_c : Nat) (i j : Int) (ad ae : Nat) (v7 : Int) (h0 : List (Tup Zaa)) (Z : Env -> Heap -> Prop) (h : ((0 <= v7)) /\ ((v7 <= ((ae : Nat) : Int))) /\ ((0 <= ((ad : Nat) : Int))) /\ ((((ad : Nat) : Int) <= (((Int.toNat v7) : Nat) : Int))) /\ ((((0 + (if ae = (Int.toNat ((ad : Nat) : Int)) then 0 else (Int.toNat ((ad : Nat) : Int)))) + ((Int.toNat v7) - (Int.toNat ((ad : Nat) : Int)))) <= s_n)) /\ ((List.length h0 = s_n)) /\ Z (ZwH ad ae) ⟨1, [(0, some ⟨true, [.rows Zaa s_n (List.take (0 + (if ae = (Int.toNat ((ad : Nat) : Int)) then 0 else (Int.toNat ((ad : Nat) : Int)))) h0 ++ List.replicate ((Int.toNat v7) - (Int.toNat ((ad : Nat) : Int))) (Tup.dflt Zaa) ++ List.drop ((0 + (if ae = (Int.toNat ((ad : Nat) : Int)) then 0 else (Int.toNat ((ad : Nat) : Int)))) + ((Int.toNat v7) - (Int.toNat ((ad : Nat) : Int)))) h0)], 0⟩)]⟩) : EvC ZiZ ZcL [(0, some (.slice ⟨0, 0, 0, 2⟩ ad ae)), (7, some (.int .i64 v7))] (Zfm s_n h0) [0] [0] Z := EvC.of (by kernel_rfl) h
def Zm9 (s : List (Tup Zaa)) (s_n s_c : Nat) (i j : Int) (ad ae : Nat) (v7 : Int) (h0 : List (Tup Zaa)) : Prop := ((0 <= v7)) /\ (((v7 <= ((ae : Nat) : Int))) /\ (((0 <= ((ad : Nat) : Int))) /\ (((((ad : Nat) : Int) <= (((Int.toNat v7) : Nat) : Int))) /\ (((((0 + (if ae = (Int.toNat ((ad : Nat) : Int)) then 0 else (Int.toNat ((ad : Nat) : Int)))) + ((Int.toNat v7) - (Int.toNat ((ad : Nat) : Int)))) <= s_n)) /\ (((List.length h0 = s_n)) /\ (∀ af : List (Tup Zaa), af = (List.take (0 + (if ae = (Int.toNat ((ad : Nat) : Int)) then 0 else (Int.toNat ((ad : Nat) : Int)))) h0 ++ List.replicate ((Int.toNat v7) - (Int.toNat ((ad : Nat) : Int))) (Tup.dflt Zaa) ++ List.drop ((0 + (if ae = (Int.toNat ((ad : Nat) : Int)) then 0 else (Int.toNat ((ad : Nat) : Int)))) + ((Int.toNat v7) - (Int.toNat ((ad : Nat) : Int)))) h0) -> Zna s s_n s_c i j ad ae af))))))
theorem Zuq (s : List (Tup Zaa)) (s_n s_c : Nat) (i j : Int) (hK : Zeq s s_n s_c i j Kf) (ad ae : Nat) (v7 : Int) (h0 : List (Tup Zaa)) (h : Zm9 s s_n s_c i j ad ae v7 h0) : SemL Try.prog w0 fp ρi 1 33 [ZcL, (.seq Zco .ret)] [(0, some (.slice ⟨0, 0, 0, 2⟩ ad ae)), (7, some (.int .i64 v7))] (Zfm s_n h0) (fnK ZeM 1 Kf) :=
  Zap Zf0 (ZsK s s_n s_c i j ad ae v7 h0 _ ⟨h.1, ⟨h.2.1, ⟨h.2.2.1, ⟨h.2.2.2.1, ⟨h.2.2.2.2.1, ⟨h.2.2.2.2.2.1, (Zau (Zur s s_n s_c i j hK ad ae (List.take (0 + (if ae = (Int.toNat ((ad : Nat) : Int)) then 0 else (Int.toNat ((ad : Nat) : Int)))) h0 ++ List.replicate ((Int.toNat v7) - (Int.toNat ((ad : Nat) : Int))) (Tup.dflt Zaa) ++ List.drop ((0 + (if ae = (Int.toNat ((ad : Nat) : Int)) then 0 else (Int.toNat ((ad : Nat) : Int)))) + ((Int.toNat v7) - (Int.toNat ((ad : Nat) : Int)))) h0) (h.2.2.2.2.2.2 (List.take (0 + (if ae = (Int.toNat ((ad : Nat) : Int)) then 0 else (Int.toNat ((ad : Nat) : Int)))) h0 ++ List.replicate ((Int.toNat v7) - (Int.toNat ((ad : Nat) : Int))) (Tup.dflt Zaa) ++ List.drop ((0 + (if ae = (Int.toNat ((ad : Nat) : Int)) then 0 else (Int.toNat ((ad : Nat) : Int)))) + ((Int.toNat v7) - (Int.toNat ((ad : Nat) : Int)))) h0) rfl)))⟩⟩⟩⟩⟩⟩)
theorem ZsJ (s : List (Tup Zaa)) (s_n s_c : Nat) (i j v7 : Int) (Z : Env -> Heap -> Prop) (h : ((0 <= i)) /\ ((i <= ((s_c : Nat) : Int))) /\ ((0 <= j)) /\ ((j <= ((s_n : Nat) : Int))) /\ ((((0 + (if s_c = (Int.toNat j) then 0 else (Int.toNat j))) + (s_n - (Int.toNat j))) <= s_n)) /\ ((List.length s = s_n)) /\ (((((Int.toNat i) - 0) + (s_n - (Int.toNat j))) <= s_n)) /\ (((((Int.toNat i) - 0) + (s_n - (Int.toNat j))) <= (s_c - 0))) /\ ((List.length s = s_n)) /\ Z [(0, some (.slice ⟨0, 0, 0, 2⟩ (((Int.toNat i) - 0) + (s_n - (Int.toNat j))) (s_c - 0))), (7, some (.int .i64 v7))] ⟨1, [(0, some ⟨true, [.rows Zaa s_n (List.take ((Int.toNat i) - 0) s ++ (List.take (s_n - (Int.toNat j)) (List.drop (0 + (if s_c = (Int.toNat j) then 0 else (Int.toNat j))) s)) ++ List.drop (((Int.toNat i) - 0) + (s_n - (Int.toNat j))) s)], 0⟩)]⟩) : EvNC ZiZ Zip [[], [], [], [], [], [], [], []] [(0, some (.slice ⟨0, 0, 0, 2⟩ s_n s_c)), (1, some (.int .i64 i)), (2, some (.int .i64 j)), (7, some (.int .i64 v7))] (Zfm s_n s) [0, 7] [0] Z := EvNC.of (by kernel_rfl) h
def Zm8 (s : List (Tup Zaa)) (s_n s_c : Nat) (i j v7 : Int) : Prop := ((0 <= i)) /\ (((i <= ((s_c : Nat) : Int))) /\ (((0 <= j)) /\ (((j <= ((s_n : Nat) : Int))) /\ (((((0 + (if s_c = (Int.toNat j) then 0 else (Int.toNat j))) + (s_n - (Int.toNat j))) <= s_n)) /\ (((List.length s = s_n)) /\ ((((((Int.toNat i) - 0) + (s_n - (Int.toNat j))) <= s_n)) /\ ((((((Int.toNat i) - 0) + (s_n - (Int.toNat j))) <= (s_c - 0))) /\ (((List.length s = s_n)) /\ (∀ ad : Nat, ad = (((Int.toNat i) - 0) + (s_n - (Int.toNat j))) -> ∀ ae : Nat, ae = (s_c - 0) -> ∀ h0 : List (Tup Zaa), h0 = (List.take ((Int.toNat i) - 0) s ++ (List.take (s_n - (Int.toNat j)) (List.drop (0 + (if s_c = (Int.toNat j) then 0 else (Int.toNat j))) s)) ++ List.drop (((Int.toNat i) - 0) + (s_n - (Int.toNat j))) s) -> Zm9 s s_n s_c i j ad ae v7 h0)))))))))
theorem Zup (s : List (Tup Zaa)) (s_n s_c : Nat) (i j : Int) (hK : Zeq s s_n s_c i j Kf) (v7 : Int) (h : Zm8 s s_n s_c i j v7) : SemL Try.prog w0 fp ρi 1 33 [ZdU, (.seq ZcL (.seq Zco .ret))] [(0, some (.slice ⟨0, 0, 0, 2⟩ s_n s_c)), (1, some (.int .i64 i)), (2, some (.int .i64 j)), (7, some (.int .i64 v7))] (Zfm s_n s) (fnK ZeM 1 Kf) :=
  ZiX Zf0 (steps := Zip) (ZsJ s s_n s_c i j v7 _ ⟨h.1, ⟨h.2.1, ⟨h.2.2.1, ⟨h.2.2.2.1, ⟨h.2.2.2.2.1, ⟨h.2.2.2.2.2.1, ⟨h.2.2.2.2.2.2.1, ⟨h.2.2.2.2.2.2.2.1, ⟨h.2.2.2.2.2.2.2.2.1, (Zau (Zuq s s_n s_c i j hK (((Int.toNat i) - 0) + (s_n - (Int.toNat j))) (s_c - 0) v7 (List.take ((Int.toNat i) - 0) s ++ (List.take (s_n - (Int.toNat j)) (List.drop (0 + (if s_c = (Int.toNat j) then 0 else (Int.toNat j))) s)) ++ List.drop (((Int.toNat i) - 0) + (s_n - (Int.toNat j))) s) (((h.2.2.2.2.2.2.2.2.2 (((Int.toNat i) - 0) + (s_n - (Int.toNat j))) rfl) (s_c - 0) rfl) (List.take ((Int.toNat i) - 0) s ++ (List.take (s_n - (Int.toNat j)) (List.drop (0 + (if s_c = (Int.toNat j) then 0 else (Int.toNat j))) s)) ++ List.drop (((Int.toNat i) - 0) + (s_n - (Int.toNat j))) s) rfl)))⟩⟩⟩⟩⟩⟩⟩⟩⟩)
abbrev ZoX (x0 x1 : Nat) (x2 x3 : Int) : Env := [(0, some (.slice ⟨0, 0, 0, 2⟩ x0 x1)), (1, some (.int .i64 x2)), (2, some (.int .i64 x3))]
theorem ZsI (s : List (Tup Zaa)) (s_n s_c : Nat) (i j : Int) (Z : Env -> Heap -> Prop) (h : Z [(0, some (.slice ⟨0, 0, 0, 2⟩ s_n s_c)), (1, some (.int .i64 i)), (2, some (.int .i64 j)), (7, some (.int .i64 ((s_n : Nat) : Int)))] (Zfm s_n s)) : EvC ZiZ ZdV (ZoX s_n s_c i j) (Zfm s_n s) [0, 1, 2, 7] [0] Z := EvC.of (by kernel_rfl) h
def Zm7 (s : List (Tup Zaa)) (s_n s_c : Nat) (i j : Int) : Prop := ∀ v7 : Int, v7 = ((s_n : Nat) : Int) -> Zm8 s s_n s_c i j v7
theorem Zuo (s : List (Tup Zaa)) (s_n s_c : Nat) (i j : Int) (hK : Zeq s s_n s_c i j Kf) (h : Zm7 s s_n s_c i j) : SemL Try.prog w0 fp ρi 1 33 [ZdV, (.seq ZdU (.seq ZcL (.seq Zco .ret)))] (ZoX s_n s_c i j) (Zfm s_n s) (fnK ZeM 1 Kf) :=
  Zap Zf0 (ZsI s s_n s_c i j _ (Zau (Zup s s_n s_c i j hK ((s_n : Nat) : Int) (h ((s_n : Nat) : Int) rfl))))
def Zlz (s : List (Tup Zaa)) (s_n s_c : Nat) (i j : Int) : Prop := ((i == j) = true -> (Znb s s_n s_c i j)) /\ ((i == j) = false -> (Zm7 s s_n s_c i j))
abbrev ZyG (x0 x1 : Nat) (x2 x3 : Int) : Env := [(0, some (.slice ⟨0, 0, 0, 2⟩ x0 x1)), (1, some (.int .i64 x2)), (2, some (.int .i64 x3)), (16, some (.bool (x2 == x3)))]
theorem Zun (s : List (Tup Zaa)) (s_n s_c : Nat) (i j : Int) (hK : Zeq s s_n s_c i j Kf) (h : Zlz s s_n s_c i j) : SemL Try.prog w0 fp ρi 1 33 [ZgT, (.seq ZdV (.seq ZdU (.seq ZcL (.seq Zco .ret))))] (ZyG s_n s_c i j) (Zfm s_n s) (fnK ZeM 1 Kf) :=
  Za8 (q := (i == j)) (by kernel_rfl) (fun hq => (Zau (lpk [0] [0] (Zus s s_n s_c i j hK (h.1 hq))))) (fun hq => (Zb3 (lpk [0, 1, 2] [0] (Zau (Zuo s s_n s_c i j hK (h.2 hq))))))
theorem ZsH (s : List (Tup Zaa)) (s_n s_c : Nat) (i j : Int) (Z : Env -> Heap -> Prop) (h : Z (ZyG s_n s_c i j) (Zfm s_n s)) : EvC ZiZ ZgU (ZoX s_n s_c i j) (Zfm s_n s) [0, 1, 2, 16] [0] Z := EvC.of (by kernel_rfl) h
theorem Zum (s : List (Tup Zaa)) (s_n s_c : Nat) (i j : Int) (hK : Zeq s s_n s_c i j Kf) (h : Zlz s s_n s_c i j) : SemL Try.prog w0 fp ρi 1 33 [ZgU, ZgT, (.seq ZdV (.seq ZdU (.seq ZcL (.seq Zco .ret))))] (ZoX s_n s_c i j) (Zfm s_n s) (fnK ZeM 1 Kf) :=
  Zap Zf0 (ZsH s s_n s_c i j _ (Zun s s_n s_c i j hK h))
theorem ZsG (s : List (Tup Zaa)) (s_n s_c : Nat) (i j : Int) (Z : Env -> Heap -> Prop) (h : ((0 <= ((s_n : Nat) : Int))) /\ ((((s_n : Nat) : Int) <= ((s_c : Nat) : Int))) /\ ((0 <= j)) /\ ((j <= (((Int.toNat ((s_n : Nat) : Int)) : Nat) : Int))) /\ ((0 <= i)) /\ ((i <= (((Int.toNat j) : Nat) : Int))) /\ Z (ZoX s_n s_c i j) (Zfm s_n s)) : EvC ZiZ Ziq (ZoX s_n s_c i j) (Zfm s_n s) [0, 1, 2] [0] Z := EvC.of (by kernel_rfl) h
def Zi8 (s : List (Tup Zaa)) (s_n s_c : Nat) (i j : Int) : Prop := ((0 <= ((s_n : Nat) : Int))) /\ (((((s_n : Nat) : Int) <= ((s_c : Nat) : Int))) /\ (((0 <= j)) /\ (((j <= (((Int.toNat ((s_n : Nat) : Int)) : Nat) : Int))) /\ (((0 <= i)) /\ (((i <= (((Int.toNat j) : Nat) : Int))) /\ (Zlz s s_n s_c i j))))))
theorem Zul (s : List (Tup Zaa)) (s_n s_c : Nat) (i j : Int) (hK : Zeq s s_n s_c i j Kf) (h : Zi8 s s_n s_c i j) : SemL Try.prog w0 fp ρi 1 33 [Ziq, (.seq (.seq ZgU ZgT) (.seq ZdV (.seq ZdU (.seq ZcL (.seq Zco .ret)))))] (ZoX s_n s_c i j) (Zfm s_n s) (fnK ZeM 1 Kf) :=
  Zap Zf0 (ZsG s s_n s_c i j _ ⟨h.1, ⟨h.2.1, ⟨h.2.2.1, ⟨h.2.2.2.1, ⟨h.2.2.2.2.1, ⟨h.2.2.2.2.2.1, (Zau (Zau (Zum s s_n s_c i j hK h.2.2.2.2.2.2)))⟩⟩⟩⟩⟩⟩)
theorem ZsF (s : List (Tup Zaa)) (s_n s_c : Nat) (i j : Int) (Z : Env -> Heap -> Prop) (h : Z (ZoX s_n s_c i j) (Zfm s_n s)) : EvC ZiZ Zkw (ZoX s_n s_c i j) (Zfm s_n s) [0, 1, 2] [0] Z := EvC.of (by kernel_rfl) h
theorem Zuk (s : List (Tup Zaa)) (s_n s_c : Nat) (i j : Int) (hK : Zeq s s_n s_c i j Kf) (h : Zi8 s s_n s_c i j) : SemL Try.prog w0 fp ρi 1 33 [Zkw, (.seq Ziq (.seq (.seq ZgU ZgT) (.seq ZdV (.seq ZdU (.seq ZcL (.seq Zco .ret))))))] (ZoX s_n s_c i j) (Zfm s_n s) (fnK ZeM 1 Kf) :=
  Zap Zf0 (ZsF s s_n s_c i j _ (Zau (Zul s s_n s_c i j hK h)))
theorem Zxe (s : List (Tup Zaa)) (s_n s_c : Nat) (i j : Int) (hK : Zeq s s_n s_c i j Kf) (h : Zi8 s s_n s_c i j) : SemL Try.prog w0 fp ρi 1 33 [Zwv] (ZoX s_n s_c i j) (Zfm s_n s) (fnK ZeM 1 Kf) :=
  (Zau (Zuk s s_n s_c i j hK h))
end
theorem Zwg (s : List (Tup Zaa)) (s_n s_c : Nat) (i j : Int) (hpre : ((List.length s = s_n /\ s_n <= s_c /\ s_n <= 1000) /\ 0 <= i /\ i <= j /\ j <= (s_n : Int))) : Zi8 s s_n s_c i j := by
  unfold Zi8 Zlz Zm7 Zm8 Zm9 Zna Znb
  obtain ⟨⟨hl, hc, hm⟩, h1, h2, h3⟩ := hpre
  refine ⟨by omega, by omega, by omega, by omega, h1, by omega, fun h => ?_, fun h => ?_⟩
  · obtain rfl : i = j := by simpa using h
    exact ⟨by omega, delRow_same.symm⟩
  have hne : i ≠ j := by simpa using h
  rintro v7 rfl
  have hq : (0 + if s_c = j.toNat then 0 else j.toNat) = j.toNat ∨ s_n - j.toNat = 0 := by split <;> omega
  have hq2 : (0 + if s_c = j.toNat then 0 else j.toNat) + (s_n - j.toNat) <= s_n := by split <;> omega
  generalize (0 + if s_c = j.toNat then 0 else j.toNat) = q at hq hq2 ⊢
  refine ⟨h1, by omega, by omega, by omega, hq2, hl, by omega, by omega, hl, ?_⟩
  rintro ad rfl ae hv0c g rfl
  obtain hv0c : ae = s_c := by omega
  rw [hv0c]
  have hx : ¬ (s_c = ((i.toNat - 0 + (s_n - j.toNat) : Nat) : Int).toNat) := by omega
  rw [if_neg hx]
  refine ⟨by omega, by omega, by omega, by omega, by omega, by simp only [List.length_append, List.length_take, List.length_drop, hl]; omega, ?_⟩
  rintro _ rfl
  refine ⟨by omega, by omega, ?_⟩
  have := ZoD hl hc h1 (by omega) h3 q hq
  rw [<- this]
  simp only [Nat.sub_zero, Nat.zero_add, Int.toNat_natCast]
  rw [show i.toNat + (s_n - j.toNat) + (s_n - (i.toNat + (s_n - j.toNat))) = s_n by omega]
theorem Zsv : Sound Try.prog 53 (gS Zsc) := by
  refine ZaY ZmP ?_
  intro args H K h
  obtain ⟨pre, out, hD, hpre, hK⟩ := ZcG h
  unfold Zsc at hD
  split at hD
  · cases hD
    obtain ⟨rfl, hpre⟩ := hpre
    exact ⟨rfl, fun w0 fp ρi => Zxe _ _ _ _ _ hK (Zwg _ _ _ _ _ hpre)⟩
  · cases hD
def Zo1 : Zd2 := fun args H => match args, H with
  | [.ptr ⟨1, 0, set_i, 1⟩ 1, .int .i64 aa], ⟨2, [(0, some ⟨true, [.rows [.int .i64, .int .i64] xs_m xs], 0⟩), (1, some ⟨true, [.rows [.hd] set_s set_a, .one (.slice ⟨0, 0, 0, 2⟩ xs_n xs_c), .rows [.hd] set_t set_b], 0⟩)]⟩ => some (xs_m = xs_n /\ set_i = set_s /\ ((List.length xs = xs_n /\ xs_n <= xs_c /\ xs_n <= 1000) /\ 0 <= aa /\ aa < (xs_n : Int)), fun K => K (.tuple []) ⟨2, [(0, some ⟨true, [.rows Zaa xs_n (Za0 aa xs)], 0⟩), (1, some ⟨true, [.rows Zab set_s set_a, .one (.slice ⟨0, 0, 0, 2⟩ xs_n xs_c), .rows Zab set_t set_b], 0⟩)]⟩)
  | _, _ => none
def Zmj : Con := ⟨52, gS Zo1, [0, 1], [], []⟩
def Zki (xs : List (Tup Zaa)) (xs_n xs_c set_s : Nat) (set_a : List (Tup Zab)) (set_t : Nat) (set_b : List (Tup Zab)) (aa : Int) (Kf : SVal -> Heap -> Prop) : Prop := Kf (.tuple []) ⟨2, [(0, some ⟨true, [.rows Zaa xs_n (Za0 aa xs)], 0⟩), (1, some ⟨true, [.rows Zab set_s set_a, .one (.slice ⟨0, 0, 0, 2⟩ xs_n xs_c), .rows Zab set_t set_b], 0⟩)]⟩
def Zky : ACode := .reg (.op (some 5) (.mov (.tm 0)) (.op (some 6) (.nilCheck (.tm 5)) (.op (some 7) (.load1 (.tm 6)) (.op (some 8) (.mov (.tm 1)) (.op (some 9) (.idxS (.tm 7) (.tm 8) 2) (.op (some 10) (.loadA 2 (.tm 9)) (.op (some 4) (.alloc [.i 0, .i 0]) (.op none (.storeA 2 (.tm 4) (.tm 10)) .nil))))))))
def Zir : MTree := (.st 0 0 none (some 11) (.mov (.tm 0)) (.st 1 0 none (some 12) (.mov (.tm 0)) (.st 2 0 none (some 13) (.nilCheck (.tm 12)) (.st 3 0 none (some 14) (.load1 (.tm 13)) (.st 4 0 none (some 15) (.mov (.tm 1)) (.st 5 0 none (some 16) (.mov (.tm 1)) (.st 6 0 none (some 17) (.bin .add (.tm 16) (.cn (.int .i64 1))) (.st 8 0 none (some 19) (.loadA 2 (.tm 4)) (.alt (.st 7 1 none (some 18) (.call 53 [(.tm 14), (.tm 15), (.tm 17)]) (.st 9 1 none (some 20) (.bsliceR Zaa 1 [(.tm 19)]) (.st 10 1 none (some 21) (.appendIn Zaa (.tm 18) (.tm 20)) (.st 11 0 none (some 22) (.nilCheck (.tm 11)) (.st 12 2 none none (.store1 (.tm 22) (.tm 21)) .nil))))) (.st 9 1 none (some 20) (.bsliceR Zaa 1 [(.tm 19)]) (.st 7 1 none (some 18) (.call 53 [(.tm 14), (.tm 15), (.tm 17)]) (.st 10 1 none (some 21) (.appendIn Zaa (.tm 18) (.tm 20)) (.st 11 0 none (some 22) (.nilCheck (.tm 11)) (.st 12 2 none none (.store1 (.tm 22) (.tm 21)) .nil))))))))))))))
def Zkx : ACode := .regT Zir
def Zp0 : ACode := (.seq Zky Zkx)
def Zf4 : Res := .many []
theorem Zlf : ZbP Try.prog 52 2 23 Zp0 Zf4 = true := by kernel_rfl
def ZoY : ZaB := Zdy [] [ZoO]
theorem Zox : ZaR Try.prog ZoY := Za9 trivial ⟨Zsv, trivial⟩
section
variable {w0 : World} {fp : Nat -> Nat -> Prop} {ρi : Rho} {Kf : SVal -> Heap -> Prop}
abbrev Zx0 (x0 : Nat) (x1 : Int) : Env := [(0, some (.ptr ⟨1, 0, x0, 1⟩ 1)), (1, some (.int .i64 x1)), (4, some (.ptr ⟨2, 0, 0, 1⟩ 2))]
theorem ZsO (xs : List (Tup Zaa)) (xs_n xs_c set_s : Nat) (set_a : List (Tup Zab)) (set_t : Nat) (set_b : List (Tup Zab)) (aa ac ab : Int) (Z : Env -> Heap -> Prop) (h : (((set_s : Nat) = set_s)) /\ ((((xs_n : Nat) = xs_n)) /\ (((xs_n : Nat) = xs_n) /\ ((List.length xs = xs_n /\ xs_n <= xs_c /\ xs_n <= 1000) /\ 0 <= aa /\ aa <= (IntKind.i64.wrap (aa + 1)) /\ (IntKind.i64.wrap (aa + 1)) <= (xs_n : Int))) /\ (((xs_n : Nat) = xs_n)) /\ (((xs_n : Nat) = xs_n)) /\ ((Zbp ⟨3, [(0, some ⟨true, [.rows Zaa xs_n (ZaH aa (IntKind.i64.wrap (aa + 1)) xs)], 0⟩), (1, some ⟨true, [.rows Zab set_s set_a, .one (.slice ⟨0, 0, 0, 2⟩ xs_n xs_c), .rows Zab set_t set_b], 0⟩), (2, some ⟨true, [.i ac, .i ab], 0⟩)]⟩ (Heap.keep ⟨3, [(0, some ⟨true, [.rows Zaa xs_n xs], 0⟩), (1, some ⟨true, [.rows Zab set_s set_a, .one (.slice ⟨0, 0, 0, 2⟩ xs_n xs_c), .rows Zab set_t set_b], 0⟩), (2, some ⟨true, [.i ac, .i ab], 0⟩)]⟩ [2, 1]) (Zbz [2, 1] ⟨3, [(0, some ⟨true, [.rows Zaa xs_n xs], 0⟩), (1, some ⟨true, [.rows Zab set_s set_a, .one (.slice ⟨0, 0, 0, 2⟩ xs_n xs_c), .rows Zab set_t set_b], 0⟩), (2, some ⟨true, [.i ac, .i ab], 0⟩)]⟩))) /\ ((Zbp ⟨4, [(0, some ⟨true, [.rows Zaa xs_n (ZaH aa (IntKind.i64.wrap (aa + 1)) xs)], 0⟩), (1, some ⟨true, [.rows Zab set_s set_a, .one (.slice ⟨0, 0, 0, 2⟩ xs_n xs_c), .rows Zab set_t set_b], 0⟩), (2, some ⟨true, [.i ac, .i ab], 0⟩), (3, some ⟨true, [.rows Zaa 1 [((ac, ab) : Tup Zaa)]], 0⟩)]⟩ (Heap.keep ⟨3, [(0, some ⟨true, [.rows Zaa xs_n (ZaH aa (IntKind.i64.wrap (aa + 1)) xs)], 0⟩), (1, some ⟨true, [.rows Zab set_s set_a, .one (.slice ⟨0, 0, 0, 2⟩ xs_n xs_c), .rows Zab set_t set_b], 0⟩), (2, some ⟨true, [.i ac, .i ab], 0⟩)]⟩ [2, 1]) (Zbz [2, 1] ⟨3, [(0, some ⟨true, [.rows Zaa xs_n (ZaH aa (IntKind.i64.wrap (aa + 1)) xs)], 0⟩), (1, some ⟨true, [.rows Zab set_s set_a, .one (.slice ⟨0, 0, 0, 2⟩ xs_n xs_c), .rows Zab set_t set_b], 0⟩), (2, some ⟨true, [.i ac, .i ab], 0⟩)]⟩))) /\ (((1 : Nat) <= 1)) /\ ((List.length [((ac, ab) : Tup Zaa)] = 1)) /\ ((((xs_n - (Int.toNat (IntKind.i64.wrap (aa + 1)) - Int.toNat aa)) + 1) <= xs_n)) /\ ((((xs_n - (Int.toNat (IntKind.i64.wrap (aa + 1)) - Int.toNat aa)) + 1) <= xs_c)) /\ ((List.length (ZaH aa (IntKind.i64.wrap (aa + 1)) xs) = xs_n)) /\ ((Zbp ⟨4, [(0, some ⟨true, [.rows Zaa xs_n (List.take (xs_n - (Int.toNat (IntKind.i64.wrap (aa + 1)) - Int.toNat aa)) (ZaH aa (IntKind.i64.wrap (aa + 1)) xs) ++ (List.take 1 (List.drop 0 [((ac, ab) : Tup Zaa)])) ++ List.drop ((xs_n - (Int.toNat (IntKind.i64.wrap (aa + 1)) - Int.toNat aa)) + 1) (ZaH aa (IntKind.i64.wrap (aa + 1)) xs))], 0⟩), (1, some ⟨true, [.rows Zab set_s set_a, .one (.slice ⟨0, 0, 0, 2⟩ xs_n xs_c), .rows Zab set_t set_b], 0⟩), (2, some ⟨true, [.i ac, .i ab], 0⟩), (3, some ⟨true, [.rows Zaa 1 [((ac, ab) : Tup Zaa)]], 0⟩)]⟩ (Heap.keep ⟨4, [(0, some ⟨true, [.rows Zaa xs_n (ZaH aa (IntKind.i64.wrap (aa + 1)) xs)], 0⟩), (1, some ⟨true, [.rows Zab set_s set_a, .one (.slice ⟨0, 0, 0, 2⟩ xs_n xs_c), .rows Zab set_t set_b], 0⟩), (2, some ⟨true, [.i ac, .i ab], 0⟩), (3, some ⟨true, [.rows Zaa 1 [((ac, ab) : Tup Zaa)]], 0⟩)]⟩ [2, 1]) (Zbz [2, 1] ⟨4, [(0, some ⟨true, [.rows Zaa xs_n (ZaH aa (IntKind.i64.wrap (aa + 1)) xs)], 0⟩), (1, some ⟨true, [.rows Zab set_s set_a, .one (.slice ⟨0, 0, 0, 2⟩ xs_n xs_c), .rows Zab set_t set_b], 0⟩), (2, some ⟨true, [.i ac, .i ab], 0⟩), (3, some ⟨true, [.rows Zaa 1 [((ac, ab) : Tup Zaa)]], 0⟩)]⟩))) /\ (((set_s : Nat) = set_s)) /\ Z [] ⟨4, [(0, some ⟨true, [.rows Zaa xs_n (List.take (xs_n - (Int.toNat (IntKind.i64.wrap (aa + 1)) - Int.toNat aa)) (ZaH aa (IntKind.i64.wrap (aa + 1)) xs) ++ (List.take 1 (List.drop 0 [((ac, ab) : Tup Zaa)])) ++ List.drop ((xs_n - (Int.toNat (IntKind.i64.wrap (aa + 1)) - Int.toNat aa)) + 1) (ZaH aa (IntKind.i64.wrap (aa + 1)) xs))], 0⟩), (1, some ⟨true, [.rows Zab set_s set_a, .one (.slice ⟨0, 0, 0, 2⟩ ((xs_n - (Int.toNat (IntKind.i64.wrap (aa + 1)) - Int.toNat aa)) + 1) xs_c), .rows Zab set_t set_b], 0⟩)]⟩) /\ ((Zbp ⟨4, [(0, some ⟨true, [.rows Zaa xs_n xs], 0⟩), (1, some ⟨true, [.rows Zab set_s set_a, .one (.slice ⟨0, 0, 0, 2⟩ xs_n xs_c), .rows Zab set_t set_b], 0⟩), (2, some ⟨true, [.i ac, .i ab], 0⟩), (3, some ⟨true, [.rows Zaa 1 [((ac, ab) : Tup Zaa)]], 0⟩)]⟩ (Heap.keep ⟨3, [(0, some ⟨true, [.rows Zaa xs_n xs], 0⟩), (1, some ⟨true, [.rows Zab set_s set_a, .one (.slice ⟨0, 0, 0, 2⟩ xs_n xs_c), .rows Zab set_t set_b], 0⟩), (2, some ⟨true, [.i ac, .i ab], 0⟩)]⟩ [2, 1]) (Zbz [2, 1] ⟨3, [(0, some ⟨true, [.rows Zaa xs_n xs], 0⟩), (1, some ⟨true, [.rows Zab set_s set_a, .one (.slice ⟨0, 0, 0, 2⟩ xs_n xs_c), .rows Zab set_t set_b], 0⟩), (2, some ⟨true, [.i ac, .i ab], 0⟩)]⟩))) /\ (((xs_n : Nat) = xs_n)) /\ (((xs_n : Nat) = xs_n) /\ ((List.length xs = xs_n /\ xs_n <= xs_c /\ xs_n <= 1000) /\ 0 <= aa /\ aa <= (IntKind.i64.wrap (aa + 1)) /\ (IntKind.i64.wrap (aa + 1)) <= (xs_n : Int))) /\ (((xs_n : Nat) = xs_n)) /\ (((xs_n : Nat) = xs_n)) /\ ((Zbp ⟨4, [(0, some ⟨true, [.rows Zaa xs_n (ZaH aa (IntKind.i64.wrap (aa + 1)) xs)], 0⟩), (1, some ⟨true, [.rows Zab set_s set_a, .one (.slice ⟨0, 0, 0, 2⟩ xs_n xs_c), .rows Zab set_t set_b], 0⟩), (2, some ⟨true, [.i ac, .i ab], 0⟩), (3, some ⟨true, [.rows Zaa 1 [((ac, ab) : Tup Zaa)]], 0⟩)]⟩ (Heap.keep ⟨4, [(0, some ⟨true, [.rows Zaa xs_n xs], 0⟩), (1, some ⟨true, [.rows Zab set_s set_a, .one (.slice ⟨0, 0, 0, 2⟩ xs_n xs_c), .rows Zab set_t set_b], 0⟩), (2, some ⟨true, [.i ac, .i ab], 0⟩), (3, some ⟨true, [.rows Zaa 1 [((ac, ab) : Tup Zaa)]], 0⟩)]⟩ [2, 1]) (Zbz [2, 1] ⟨4, [(0, some ⟨true, [.rows Zaa xs_n xs], 0⟩), (1, some ⟨true, [.rows Zab set_s set_a, .one (.slice ⟨0, 0, 0, 2⟩ xs_n xs_c), .rows Zab set_t set_b], 0⟩), (2, some ⟨true, [.i ac, .i ab], 0⟩), (3, some ⟨true, [.rows Zaa 1 [((ac, ab) : Tup Zaa)]], 0⟩)]⟩))) /\ (((1 : Nat) <= 1)) /\ ((List.length [((ac, ab) : Tup Zaa)] = 1)) /\ ((((xs_n - (Int.toNat (IntKind.i64.wrap (aa + 1)) - Int.toNat aa)) + 1) <= xs_n)) /\ ((((xs_n - (Int.toNat (IntKind.i64.wrap (aa + 1)) - Int.toNat aa)) + 1) <= xs_c)) /\ ((List.length (ZaH aa (IntKind.i64.wrap (aa + 1)) xs) = xs_n)) /\ ((Zbp ⟨4, [(0, some ⟨true, [.rows Zaa xs_n (List.take (xs_n - (Int.toNat (IntKind.i64.wrap (aa + 1)) - Int.toNat aa)) (ZaH aa (IntKind.i64.wrap (aa + 1)) xs) ++ (List.take 1 (List.drop 0 [((ac, ab) : Tup Zaa)])) ++ List.drop ((xs_n - (Int.toNat (IntKind.i64.wrap (aa + 1)) - Int.toNat aa)) + 1) (ZaH aa (IntKind.i64.wrap (aa + 1)) xs))], 0⟩), (1, some ⟨true, [.rows Zab set_s set_a, .one (.slice ⟨0, 0, 0, 2⟩ xs_n xs_c), .rows Zab set_t set_b], 0⟩), (2, some ⟨true, [.i ac, .i ab], 0⟩), (3, some ⟨true, [.rows Zaa 1 [((ac, ab) : Tup Zaa)]], 0⟩)]⟩ (Heap.keep ⟨4, [(0, some ⟨true, [.rows Zaa xs_n (ZaH aa (IntKind.i64.wrap (aa + 1)) xs)], 0⟩), (1, some ⟨true, [.rows Zab set_s set_a, .one (.slice ⟨0, 0, 0, 2⟩ xs_n xs_c), .rows Zab set_t set_b], 0⟩), (2, some ⟨true, [.i ac, .i ab], 0⟩), (3, some ⟨true, [.rows Zaa 1 [((ac, ab) : Tup Zaa)]], 0⟩)]⟩ [2, 1]) (Zbz [2, 1] ⟨4, [(0, some ⟨true, [.rows Zaa xs_n (ZaH aa (IntKind.i64.wrap (aa + 1)) xs)], 0⟩), (1, some ⟨true, [.rows Zab set_s set_a, .one (.slice ⟨0, 0, 0, 2⟩ xs_n xs_c), .rows Zab set_t set_b], 0⟩), (2, some ⟨true, [.i ac, .i ab], 0⟩), (3, some ⟨true, [.rows Zaa 1 [((ac, ab) : Tup Zaa)]], 0⟩)]⟩))) /\ (((set_s : Nat) = set_s)) /\ Z [] ⟨4, [(0, some ⟨true, [.rows Zaa xs_n (List.take (xs_n - (Int.toNat (IntKind.i64.wrap (aa + 1)) - Int.toNat aa)) (ZaH aa (IntKind.i64.wrap (aa + 1)) xs) ++ (List.take 1 (List.drop 0 [((ac, ab) : Tup Zaa)])) ++ List.drop ((xs_n - (Int.toNat (IntKind.i64.wrap (aa + 1)) - Int.toNat aa)) + 1) (ZaH aa (IntKind.i64.wrap (aa + 1)) xs))], 0⟩), (1, some ⟨true, [.rows Zab set_s set_a, .one (.slice ⟨0, 0, 0, 2⟩ ((xs_n - (Int.toNat (IntKind.i64.wrap (aa + 1)) - Int.toNat aa)) + 1) xs_c), .rows Zab set_t set_b], 0⟩)]⟩) : EvTC ZoY Zir [[], [], [], [1], [], [], [], [2], [], [], [], [], []] (Zx0 set_s aa) ⟨3, [(0, some ⟨true, [.rows Zaa xs_n xs], 0⟩), (1, some ⟨true, [.rows Zab set_s set_a, .one (.slice ⟨0, 0, 0, 2⟩ xs_n xs_c), .rows Zab set_t set_b], 0⟩), (2, some ⟨true, [.i ac, .i ab], 0⟩)]⟩ [] [0, 1] Z := EvTC.of (by kernel_rfl) h
abbrev ZyF (x0 : Nat) (x1 : Int) (x2 : List (Tup Zaa)) (x3 x4 : Int) (x5 : Nat) (x6 : List (Tup Zab)) (x7 x8 : Nat) (x9 : List (Tup Zab)) : Heap := ⟨4, [(0, some ⟨true, [.rows Zaa x0 (List.take (x0 - (Int.toNat (IntKind.i64.wrap (x1 + 1)) - Int.toNat x1)) (ZaH x1 (IntKind.i64.wrap (x1 + 1)) x2) ++ (List.take 1 (List.drop 0 [((x3, x4) : Tup Zaa)])) ++ List.drop ((x0 - (Int.toNat (IntKind.i64.wrap (x1 + 1)) - Int.toNat x1)) + 1) (ZaH x1 (IntKind.i64.wrap (x1 + 1)) x2))], 0⟩), (1, some ⟨true, [.rows Zab x5 x6, .one (.slice ⟨0, 0, 0, 2⟩ ((x0 - (Int.toNat (IntKind.i64.wrap (x1 + 1)) - Int.toNat x1)) + 1) x7), .rows Zab x8 x9], 0⟩)]⟩
theorem ZqL (xs : List (Tup Zaa)) (xs_n xs_c set_s : Nat) (set_a : List (Tup Zab)) (set_t : Nat) (set_b : List (Tup Zab)) (aa ac ab : Int) : RetC Zf4 [] (ZyF xs_n aa xs ac ab set_s set_a xs_c set_t set_b) (.tuple []) := RetC.of (fun Z => by kernel_rfl)
theorem ZqK (xs : List (Tup Zaa)) (xs_n xs_c set_s : Nat) (set_a : List (Tup Zab)) (set_t : Nat) (set_b : List (Tup Zab)) (aa ac ab : Int) : RetC Zf4 [] (ZyF xs_n aa xs ac ab set_s set_a xs_c set_t set_b) (.tuple []) := RetC.of (fun Z => by kernel_rfl)
def Znc (xs : List (Tup Zaa)) (xs_n xs_c set_s : Nat) (set_a : List (Tup Zab)) (set_t : Nat) (set_b : List (Tup Zab)) (aa ac ab : Int) : Prop := ((((List.length xs = xs_n /\ xs_n <= xs_c /\ xs_n <= 1000) /\ 0 <= aa /\ aa <= (IntKind.i64.wrap (aa + 1)) /\ (IntKind.i64.wrap (aa + 1)) <= (xs_n : Int))) /\ (((((xs_n - (Int.toNat (IntKind.i64.wrap (aa + 1)) - Int.toNat aa)) + 1) <= xs_n)) /\ (((((xs_n - (Int.toNat (IntKind.i64.wrap (aa + 1)) - Int.toNat aa)) + 1) <= xs_c)) /\ (((List.length (ZaH aa (IntKind.i64.wrap (aa + 1)) xs) = xs_n)) /\ (((List.take (xs_n - (Int.toNat (IntKind.i64.wrap (aa + 1)) - Int.toNat aa)) (ZaH aa (IntKind.i64.wrap (aa + 1)) xs) ++ (List.take 1 (List.drop 0 [((ac, ab) : Tup Zaa)])) ++ List.drop ((xs_n - (Int.toNat (IntKind.i64.wrap (aa + 1)) - Int.toNat aa)) + 1) (ZaH aa (IntKind.i64.wrap (aa + 1)) xs)) = (Za0 aa xs)) /\ (((xs_n - (Int.toNat (IntKind.i64.wrap (aa + 1)) - Int.toNat aa)) + 1) = xs_n)))))) /\ ((((List.length xs = xs_n /\ xs_n <= xs_c /\ xs_n <= 1000) /\ 0 <= aa /\ aa <= (IntKind.i64.wrap (aa + 1)) /\ (IntKind.i64.wrap (aa + 1)) <= (xs_n : Int))) /\ (((((xs_n - (Int.toNat (IntKind.i64.wrap (aa + 1)) - Int.toNat aa)) + 1) <= xs_n)) /\ (((((xs_n - (Int.toNat (IntKind.i64.wrap (aa + 1)) - Int.toNat aa)) + 1) <= xs_c)) /\ (((List.length (ZaH aa (IntKind.i64.wrap (aa + 1)) xs) = xs_n)) /\ (((List.take (xs_n - (Int.toNat (IntKind.i64.wrap (aa + 1)) - Int.toNat aa)) (ZaH aa (IntKind.i64.wrap (aa + 1)) xs) ++ (List.take 1 (List.drop 0 [((ac, ab) : Tup Zaa)])) ++ List.drop ((xs_n - (Int.toNat (IntKind.i64.wrap (aa + 1)) - Int.toNat aa)) + 1) (ZaH aa (IntKind.i64.wrap (aa + 1)) xs)) = (Za0 aa xs)) /\ (((xs_n - (Int.toNat (IntKind.i64.wrap (aa + 1)) - Int.toNat aa)) + 1) = xs_n))))))
theorem Zuu (xs : List (Tup Zaa)) (xs_n xs_c set_s : Nat) (set_a : List (Tup Zab)) (set_t : Nat) (set_b : List (Tup Zab)) (aa : Int) (hK : Zki xs xs_n xs_c set_s set_a set_t set_b aa Kf) (ac ab : Int) (h : Znc xs xs_n xs_c set_s set_a set_t set_b aa ac ab) : SemL Try.prog w0 fp ρi 2 23 [Zkx] (Zx0 set_s aa) ⟨3, [(0, some ⟨true, [.rows Zaa xs_n xs], 0⟩), (1, some ⟨true, [.rows Zab set_s set_a, .one (.slice ⟨0, 0, 0, 2⟩ xs_n xs_c), .rows Zab set_t set_b], 0⟩), (2, some ⟨true, [.i ac, .i ab], 0⟩)]⟩ (fnK Zf4 2 Kf) :=
  Zr9 Zox (t := Zir) (ZsO xs xs_n xs_c set_s set_a set_t set_b aa ac ab _ ⟨rfl, ⟨⟨rfl, ⟨⟨rfl, h.1.1⟩, ⟨rfl, ⟨rfl, ⟨(ZbT (by kernel_rfl)), ⟨(ZbT (by kernel_rfl)), ⟨(by decide), ⟨rfl, ⟨h.1.2.1, ⟨h.1.2.2.1, ⟨h.1.2.2.2.1, ⟨(ZbT (by kernel_rfl)), ⟨rfl, (Zp6 (R := Zf4) (m := 2) (Kf := Kf) (fun _ _ h => h) (ZqL xs xs_n xs_c set_s set_a set_t set_b aa ac ab) (ZaK (Eq.mpr (cg2 (fun (z1 : List (Tup Zaa)) (z2 : Nat) => Zdr 2 Kf (.tuple []) ⟨4, [(0, some ⟨true, [.rows Zaa xs_n z1], 0⟩), (1, some ⟨true, [.rows Zab set_s set_a, .one (.slice ⟨0, 0, 0, 2⟩ z2 xs_c), .rows Zab set_t set_b], 0⟩)]⟩) h.1.2.2.2.2.1 h.1.2.2.2.2.2) (Zaz [] [0, 1] rfl (by kernel_rfl) rfl (Zdp Zdq) (hsc pcs (hsc (Zaq (Zam bsl (Zaq Zax))) Zak)) rfl (by kernel_rfl) (hK)))))⟩⟩⟩⟩⟩⟩⟩⟩⟩⟩⟩⟩⟩, ⟨(ZbT (by kernel_rfl)), ⟨rfl, ⟨⟨rfl, h.2.1⟩, ⟨rfl, ⟨rfl, ⟨(ZbT (by kernel_rfl)), ⟨(by decide), ⟨rfl, ⟨h.2.2.1, ⟨h.2.2.2.1, ⟨h.2.2.2.2.1, ⟨(ZbT (by kernel_rfl)), ⟨rfl, (Zp6 (R := Zf4) (m := 2) (Kf := Kf) (fun _ _ h => h) (ZqK xs xs_n xs_c set_s set_a set_t set_b aa ac ab) (ZaK (Eq.mpr (cg2 (fun (z1 : List (Tup Zaa)) (z2 : Nat) => Zdr 2 Kf (.tuple []) ⟨4, [(0, some ⟨true, [.rows Zaa xs_n z1], 0⟩), (1, some ⟨true, [.rows Zab set_s set_a, .one (.slice ⟨0, 0, 0, 2⟩ z2 xs_c), .rows Zab set_t set_b], 0⟩)]⟩) h.2.2.2.2.2.1 h.2.2.2.2.2.2) (Zaz [] [0, 1] rfl (by kernel_rfl) rfl (Zdp Zdq) (hsc pcs (hsc (Zaq (Zam bsl (Zaq Zax))) Zak)) rfl (by kernel_rfl) (hK)))))⟩⟩⟩⟩⟩⟩⟩⟩⟩⟩⟩⟩⟩⟩⟩)
abbrev ZxZ (x0 : Nat) (x1 : Int) : Env := [(0, some (.ptr ⟨1, 0, x0, 1⟩ 1)), (1, some (.int .i64 x1))]
abbrev ZxY (x0 : Nat) (x1 : List (Tup Zaa)) (x2 : Nat) (x3 : List (Tup Zab)) (x4 x5 : Nat) (x6 : List (Tup Zab)) : Heap := ⟨2, [(0, some ⟨true, [.rows Zaa x0 x1], 0⟩), (1, some ⟨true, [.rows Zab x2 x3, .one (.slice ⟨0, 0, 0, 2⟩ x0 x4), .rows Zab x5 x6], 0⟩)]⟩
theorem ZsN (xs : List (Tup Zaa)) (xs_n xs_c set_s : Nat) (set_a : List (Tup Zab)) (set_t : Nat) (set_b : List (Tup Zab)) (aa : Int) (Z : Env -> Heap -> Prop) (h : (((set_s : Nat) = set_s)) /\ ((0 <= aa)) /\ ((aa < ((xs_n : Nat) : Int))) /\ (((0 + (Int.toNat aa)) < xs_n)) /\ Z (Zx0 set_s aa) ⟨3, [(0, some ⟨true, [.rows Zaa xs_n xs], 0⟩), (1, some ⟨true, [.rows Zab set_s set_a, .one (.slice ⟨0, 0, 0, 2⟩ xs_n xs_c), .rows Zab set_t set_b], 0⟩), (2, some ⟨true, [.i (List.getD xs (0 + (Int.toNat aa)) (Tup.dflt Zaa)).1, .i (List.getD xs (0 + (Int.toNat aa)) (Tup.dflt Zaa)).2], 0⟩)]⟩) : EvC ZoY Zky (ZxZ set_s aa) (ZxY xs_n xs set_s set_a xs_c set_t set_b) [0, 1, 4] [0, 1, 2] Z := EvC.of (by kernel_rfl) h
def ZlA (xs : List (Tup Zaa)) (xs_n xs_c set_s : Nat) (set_a : List (Tup Zab)) (set_t : Nat) (set_b : List (Tup Zab)) (aa : Int) : Prop := ((0 <= aa)) /\ (((aa < ((xs_n : Nat) : Int))) /\ ((((0 + (Int.toNat aa)) < xs_n)) /\ (∀ ac : Int, ac = (List.getD xs (0 + (Int.toNat aa)) (Tup.dflt Zaa)).1 -> ∀ ab : Int, ab = (List.getD xs (0 + (Int.toNat aa)) (Tup.dflt Zaa)).2 -> Znc xs xs_n xs_c set_s set_a set_t set_b aa ac ab)))
theorem Zut (xs : List (Tup Zaa)) (xs_n xs_c set_s : Nat) (set_a : List (Tup Zab)) (set_t : Nat) (set_b : List (Tup Zab)) (aa : Int) (hK : Zki xs xs_n xs_c set_s set_a set_t set_b aa Kf) (h : ZlA xs xs_n xs_c set_s set_a set_t set_b aa) : SemL Try.prog w0 fp ρi 2 23 [Zky, Zkx] (ZxZ set_s aa) (ZxY xs_n xs set_s set_a xs_c set_t set_b) (fnK Zf4 2 Kf) :=
  Zap Zox (ZsN xs xs_n xs_c set_s set_a set_t set_b aa _ ⟨rfl, ⟨h.1, ⟨h.2.1, ⟨h.2.2.1, (Zuu xs xs_n xs_c set_s set_a set_t set_b aa hK (List.getD xs (0 + (Int.toNat aa)) (Tup.dflt Zaa)).1 (List.getD xs (0 + (Int.toNat aa)) (Tup.dflt Zaa)).2 ((h.2.2.2 (List.getD xs (0 + (Int.toNat aa)) (Tup.dflt Zaa)).1 rfl) (List.getD xs (0 + (Int.toNat aa)) (Tup.dflt Zaa)).2 rfl))⟩⟩⟩⟩)
theorem Zsq (xs : List (Tup Zaa)) (xs_n xs_c set_s : Nat) (set_a : List (Tup Zab)) (set_t : Nat) (set_b : List (Tup Zab)) (aa : Int) (hK : Zki xs xs_n xs_c set_s set_a set_t set_b aa Kf) (h : ZlA xs xs_n xs_c set_s set_a set_t set_b aa) : SemL Try.prog w0 fp ρi 2 23 [Zp0] (ZxZ set_s aa) (ZxY xs_n xs set_s set_a xs_c set_t set_b) (fnK Zf4 2 Kf) :=
  (Zau (Zut xs xs_n xs_c set_s set_a set_t set_b aa hK h))
end
theorem ZrJ (xs : List (Tup Zaa)) (xs_n xs_c set_s : Nat) (set_a : List (Tup Zab)) (set_t : Nat) (set_b : List (Tup Zab)) (aa : Int) (hpre : ((List.length xs = xs_n /\ xs_n <= xs_c /\ xs_n <= 1000) /\ 0 <= aa /\ aa < (xs_n : Int))) : ZlA xs xs_n xs_c set_s set_a set_t set_b aa := by
  unfold ZlA Znc
  obtain ⟨⟨hl, hc, hm⟩, h1, h2⟩ := hpre
  refine ⟨h1, h2, by omega, ?_⟩
  rintro _ rfl _ rfl
  have e1 : IntKind.i64.wrap (aa + 1) = aa + 1 := by rw [Zse]; omega
  rw [e1, Nat.zero_add, show xs_n - ((aa + 1).toNat - aa.toNat) = xs_n - 1 by omega, show xs_n - 1 + 1 = xs_n by omega]
  have key := Zob hl h1 h2
  have hd : (ZaH aa (aa + 1) xs).length = xs_n := by rw [Zdh h1 (by omega) (by omega), hl]
  exact ⟨⟨⟨⟨hl, hc, hm⟩, h1, by omega, by omega⟩, by omega, hc, hd, key, rfl⟩, ⟨⟨hl, hc, hm⟩, h1, by omega, by omega⟩, by omega, hc, hd, key, rfl⟩
theorem ZpP : Sound Try.prog 52 (gS Zo1) := by
  refine ZaY Zlf ?_
  intro args H K h
  obtain ⟨pre, out, hD, hpre, hK⟩ := ZcG h
  unfold Zo1 at hD
  split at hD
  · cases hD
    obtain ⟨rfl, rfl, hpre⟩ := hpre
    exact ⟨rfl, fun w0 fp ρi => Zsq _ _ _ _ _ _ _ _ hK (ZrJ _ _ _ _ _ _ _ _ hpre)⟩
  · cases hD
end Go.Proofs.Ytinjdimejijabaa
