/- Part of the proof: SxAesRX. -/
import Derived.Test.YtfffjdfegnmejaaSxAesQ
import Derived.Test.YtfffjdfegnmejaaSxAesR
import Derived.KernelRfl
set_option linter.unusedVariables false
set_option linter.unusedSimpArgs false
set_option maxRecDepth 20000
namespace Go.Proofs.Ytfffjdfegnmejaa
open Go.Sx
def Znv : ZfW := fun args H => match args, H with
  | [.slice ⟨0, 0, 0, 1⟩ ss_n ss_c, .slice ⟨1, 0, 0, 1⟩ box_n box_c], ⟨2, [(0, some ⟨false, [.ints .u8 ss_m ss], 0⟩), (1, some ⟨false, [.ints .u8 box_m box], 0⟩)]⟩ => some (ss_m = ss_n /\ box_m = box_n /\ ((Zaz ss /\ ss_n = 16 /\ 16 <= ss_c) /\ (box = sboxT /\ box_n = 256 /\ 256 <= box_c)), fun K => ∀ cap0 : Nat, 16 <= cap0 -> K (.slice ⟨2, 0, 0, 1⟩ 16 cap0) ⟨3, [(2, some ⟨true, [.ints .u8 16 (Za7 ss)], (cap0 - 16)⟩), (0, some ⟨false, [.ints .u8 ss_n ss], 0⟩), (1, some ⟨false, [.ints .u8 box_n box], 0⟩)]⟩)
  | _, _ => none
def Ztg : Con := ⟨32, gS Znv, [], [], []⟩
def ZaP (ss : List Int) (ss_n ss_c : Nat) (box : List Int) (box_n box_c : Nat) (Kf : SVal -> Heap -> Prop) : Prop := ∀ cap0 : Nat, 16 <= cap0 -> Kf (.slice ⟨2, 0, 0, 1⟩ 16 cap0) ⟨3, [(2, some ⟨true, [.ints .u8 16 (Za7 ss)], (cap0 - 16)⟩), (0, some ⟨false, [.ints .u8 ss_n ss], 0⟩), (1, some ⟨false, [.ints .u8 box_n box], 0⟩)]⟩
def ZpZ : ACode := .reg (.op (some 4) (.mov (.cn (.nilslice))) .nil)
def Zmq : ACode := .reg (.op (some 8) (.mkslice .u8 (.cn (.int .i64 16)) (.cn (.int .i64 16))) (.op (some 5) (.mov (.tm 8)) .nil))
def Zj0 : ACode := .reg (.op (some 6) (.mov (.cn (.int .i64 0))) .nil)
def ZpY : ACode := .reg (.op (some 9) (.mov (.tm 6)) (.op (some 10) (.bin .lss (.tm 9) (.cn (.int .i64 4))) .nil))
def ZpX : ACode := .cond (.tm 10) .skip (.exit 0)
def ZpW : ACode := .reg (.op (some 7) (.mov (.cn (.int .i64 0))) .nil)
def ZpV : ACode := .reg (.op (some 13) (.mov (.tm 7)) (.op (some 14) (.bin .lss (.tm 13) (.cn (.int .i64 4))) .nil))
def ZpU : ACode := .cond (.tm 14) .skip (.exit 2)
def ZpT : ACode := .reg (.op (some 17) (.mov (.tm 5)) (.op (some 18) (.mov (.tm 6)) (.op (some 19) (.mov (.tm 7)) (.op (some 20) (.bin .mul (.cn (.int .i64 4)) (.tm 19)) (.op (some 21) (.bin .add (.tm 18) (.tm 20)) (.op (some 22) (.mov (.tm 1)) (.op (some 23) (.mov (.tm 0)) (.op (some 24) (.mov (.tm 6)) (.op (some 25) (.mov (.tm 7)) (.op (some 26) (.mov (.tm 6)) (.op (some 27) (.bin .add (.tm 25) (.tm 26)) (.op (some 28) (.bin .rem (.tm 27) (.cn (.int .i64 4))) (.op (some 29) (.bin .mul (.cn (.int .i64 4)) (.tm 28)) (.op (some 30) (.bin .add (.tm 24) (.tm 29)) (.op (some 31) (.idxS (.tm 23) (.tm 30) 1) (.op (some 32) (.load1 (.tm 31)) (.op (some 33) (.idxS (.tm 22) (.tm 32) 1) (.op (some 34) (.load1 (.tm 33)) (.op (some 35) (.idxS (.tm 17) (.tm 21) 1) (.op none (.store1 (.tm 35) (.tm 34)) .nil))))))))))))))))))))
def Zmo : ACode := .block 3 ZpT
def Zen : ACode := .reg (.op (some 15) (.mov (.tm 7)) (.op (some 16) (.bin .add (.tm 15) (.cn (.int .i64 1))) (.op (some 7) (.mov (.tm 16)) .nil)))
def Zsu : ACode := .loop (.seq (.seq ZpV ZpU) (.seq Zmo Zen))
def Zmp : ACode := .block 2 Zsu
def ZiP : ACode := .block 1 (.seq ZpW Zmp)
def Zem : ACode := .reg (.op (some 11) (.mov (.tm 6)) (.op (some 12) (.bin .add (.tm 11) (.cn (.int .i64 1))) (.op (some 6) (.mov (.tm 12)) .nil)))
def Zst : ACode := .loop (.seq (.seq ZpY ZpX) (.seq ZiP Zem))
def Zg4 : ACode := .block 0 Zst
def ZdC : ACode := .reg (.op (some 36) (.mov (.tm 5)) (.op (some 4) (.mov (.tm 36)) .nil))
def ZsG : ACode := (.seq ZpZ (.seq Zmq (.seq (.seq Zj0 Zg4) (.seq ZdC .ret))))
def Zce : Res := .one (.tm 4)
theorem Zna : Zbj Try.prog 32 2 37 ZsG Zce = true := by kernel_rfl
def Zcg : Zav := Zcl [] []
theorem ZbK : ZaK Try.prog Zcg := ZaL trivial trivial
section
variable {w0 : World} {fp : Nat -> Nat -> Prop} {ρi : Rho} {Kf : SVal -> Heap -> Prop}
def ZwE (w0 : World) (fp : Nat -> Nat -> Prop) (ρi : Rho) (Kf : SVal -> Heap -> Prop) (ss : List Int) (ss_n ss_c : Nat) (box : List Int) (box_n box_c : Nat) : ZaY := Zax 0 (fun e H => SemL Try.prog w0 fp ρi 2 37 [(.seq ZdC .ret)] e H (fnK Zce 2 Kf)) (fnK Zce 2 Kf)
def Zxc (ss : List Int) (ss_n ss_c : Nat) (box : List Int) (box_n box_c : Nat) : Int × List Int -> Prop := fun s => match s with | (v6, h2) => 0 <= v6 /\ v6 <= 4 /\ h2.length = 16 /\ ∀ j : Nat, j < 16 -> ((j % 4 : Nat) : Int) < v6 -> h2.getD j 0 = (Za7 ss).getD j 0
def Zvk (ss : List Int) (ss_n ss_c : Nat) (box : List Int) (box_n box_c : Nat) : Int × List Int -> Nat := fun s => match s with | (v6, h2) => ((4 - v6).toNat)
def Zwa (ss : List Int) (ss_n ss_c : Nat) (box : List Int) (box_n box_c : Nat) : Int × List Int -> Env := fun s => match s with | (v6, h2) => [(0, some (.slice ⟨0, 0, 0, 1⟩ ss_n ss_c)), (1, some (.slice ⟨1, 0, 0, 1⟩ box_n box_c)), (5, some (.slice ⟨2, 0, 0, 1⟩ 16 16)), (6, some (.int .i64 v6))]
def ZvL (ss : List Int) (ss_n ss_c : Nat) (box : List Int) (box_n box_c : Nat) : Int × List Int -> Heap := fun s => match s with | (v6, h2) => ⟨3, [(0, some ⟨false, [.ints .u8 ss_n ss], 0⟩), (1, some ⟨false, [.ints .u8 box_n box], 0⟩), (2, some ⟨true, [.ints .u8 16 h2], 0⟩)]⟩
def ZhD (w0 : World) (fp : Nat -> Nat -> Prop) (ρi : Rho) (Kf : SVal -> Heap -> Prop) (ss : List Int) (ss_n ss_c : Nat) (box : List Int) (box_n box_c : Nat) (v6 : Int) (h2 : List Int) : ZaY := Zb2 2 (Zxc ss ss_n ss_c box box_n box_c) (Zvk ss ss_n ss_c box box_n box_c) (Zwa ss ss_n ss_c box box_n box_c) (ZvL ss ss_n ss_c box box_n box_c) (v6, h2) (ZwE w0 fp ρi Kf ss ss_n ss_c box box_n box_c)
def ZlD (w0 : World) (fp : Nat -> Nat -> Prop) (ρi : Rho) (Kf : SVal -> Heap -> Prop) (ss : List Int) (ss_n ss_c : Nat) (box : List Int) (box_n box_c : Nat) (v6 : Int) (h2 : List Int) : ZaY := Zax 1 (fun e H => SemL Try.prog w0 fp ρi 2 37 [Zem] e H (ZhD w0 fp ρi Kf ss ss_n ss_c box box_n box_c v6 h2)) (ZhD w0 fp ρi Kf ss ss_n ss_c box box_n box_c v6 h2)
def ZwD (w0 : World) (fp : Nat -> Nat -> Prop) (ρi : Rho) (Kf : SVal -> Heap -> Prop) (ss : List Int) (ss_n ss_c : Nat) (box : List Int) (box_n box_c : Nat) (v6 : Int) (h2 : List Int) : ZaY := Zax 2 (fun e H => SemL Try.prog w0 fp ρi 2 37 [] e H (ZlD w0 fp ρi Kf ss ss_n ss_c box box_n box_c v6 h2)) (ZlD w0 fp ρi Kf ss ss_n ss_c box box_n box_c v6 h2)
def Zxb (ss : List Int) (ss_n ss_c : Nat) (box : List Int) (box_n box_c : Nat) (v6 : Int) (h2 : List Int) : Int × List Int -> Prop := fun s => match s with | (v7, ab) => 0 <= v7 /\ v7 <= 4 /\ ab.length = 16 /\ ∀ j : Nat, j < 16 -> (((j % 4 : Nat) : Int) < v6 ∨ ((j % 4 : Nat) : Int) = v6 /\ ((j / 4 : Nat) : Int) < v7) -> ab.getD j 0 = (Za7 ss).getD j 0
def Zvj (ss : List Int) (ss_n ss_c : Nat) (box : List Int) (box_n box_c : Nat) (v6 : Int) (h2 : List Int) : Int × List Int -> Nat := fun s => match s with | (v7, ab) => ((4 - v7).toNat)
def Zv9 (ss : List Int) (ss_n ss_c : Nat) (box : List Int) (box_n box_c : Nat) (v6 : Int) (h2 : List Int) : Int × List Int -> Env := fun s => match s with | (v7, ab) => [(0, some (.slice ⟨0, 0, 0, 1⟩ ss_n ss_c)), (1, some (.slice ⟨1, 0, 0, 1⟩ box_n box_c)), (5, some (.slice ⟨2, 0, 0, 1⟩ 16 16)), (6, some (.int .i64 v6)), (7, some (.int .i64 v7))]
def ZvK (ss : List Int) (ss_n ss_c : Nat) (box : List Int) (box_n box_c : Nat) (v6 : Int) (h2 : List Int) : Int × List Int -> Heap := fun s => match s with | (v7, ab) => ⟨3, [(0, some ⟨false, [.ints .u8 ss_n ss], 0⟩), (1, some ⟨false, [.ints .u8 box_n box], 0⟩), (2, some ⟨true, [.ints .u8 16 ab], 0⟩)]⟩
def ZhC (w0 : World) (fp : Nat -> Nat -> Prop) (ρi : Rho) (Kf : SVal -> Heap -> Prop) (ss : List Int) (ss_n ss_c : Nat) (box : List Int) (box_n box_c : Nat) (v6 : Int) (h2 : List Int) (v7 : Int) (ab : List Int) : ZaY := Zb2 2 (Zxb ss ss_n ss_c box box_n box_c v6 h2) (Zvj ss ss_n ss_c box box_n box_c v6 h2) (Zv9 ss ss_n ss_c box box_n box_c v6 h2) (ZvK ss ss_n ss_c box box_n box_c v6 h2) (v7, ab) (ZwD w0 fp ρi Kf ss ss_n ss_c box box_n box_c v6 h2)
abbrev Ye0 (x0 : Nat) (x1 : List Int) (x2 : Nat) (x3 x4 : List Int) : Heap := ⟨3, [(0, some ⟨false, [.ints .u8 x0 x1], 0⟩), (1, some ⟨false, [.ints .u8 x2 x3], 0⟩), (2, some ⟨true, [.ints .u8 16 x4], 0⟩)]⟩
abbrev Ye1 (x0 x1 x2 x3 : Nat) (x4 x5 : Int) : Env := [(0, some (.slice ⟨0, 0, 0, 1⟩ x0 x1)), (1, some (.slice ⟨1, 0, 0, 1⟩ x2 x3)), (5, some (.slice ⟨2, 0, 0, 1⟩ 16 16)), (6, some (.int .i64 x4)), (7, some (.int .i64 x5))]
theorem ZGy (ss : List Int) (ss_n ss_c : Nat) (box : List Int) (box_n box_c : Nat) (v6 v7 : Int) (ac h2 ab : List Int) (Z : Env -> Heap -> Prop) (h : Z [(0, some (.slice ⟨0, 0, 0, 1⟩ ss_n ss_c)), (1, some (.slice ⟨1, 0, 0, 1⟩ box_n box_c)), (5, some (.slice ⟨2, 0, 0, 1⟩ 16 16)), (6, some (.int .i64 v6)), (7, some (.int .i64 (IntKind.i64.wrap (v7 + 1))))] (Ye0 ss_n ss box_n box ac)) : EvC Zcg Zen (Ye1 ss_n ss_c box_n box_c v6 v7) (Ye0 ss_n ss box_n box ac) [0, 1, 5, 6, 7] [0, 1, 2] Z := EvC.of (by kernel_rfl) h
def Zua (ss : List Int) (ss_n ss_c : Nat) (box : List Int) (box_n box_c : Nat) (v6 v7 : Int) (ac h2 ab : List Int) : Prop := (0 <= (IntKind.i64.wrap (v7 + 1)) /\ (IntKind.i64.wrap (v7 + 1)) <= 4 /\ ac.length = 16 /\ ∀ j : Nat, j < 16 -> (((j % 4 : Nat) : Int) < v6 ∨ ((j % 4 : Nat) : Int) = v6 /\ ((j / 4 : Nat) : Int) < (IntKind.i64.wrap (v7 + 1))) -> ac.getD j 0 = (Za7 ss).getD j 0) /\ (((4 - (IntKind.i64.wrap (v7 + 1))).toNat) < ((4 - v7).toNat))
theorem ZJq (ss : List Int) (ss_n ss_c : Nat) (box : List Int) (box_n box_c : Nat) (hK : ZaP ss ss_n ss_c box box_n box_c Kf) (v6 v7 : Int) (ac h2 ab : List Int) (h : Zua ss ss_n ss_c box box_n box_c v6 v7 ac h2 ab) : SemL Try.prog w0 fp ρi 2 37 [Zen] (Ye1 ss_n ss_c box_n box_c v6 v7) (Ye0 ss_n ss box_n box ac) (ZhC w0 fp ρi Kf ss ss_n ss_c box box_n box_c v6 h2 v7 ab) :=
  Zad ZbK (ZGy ss ss_n ss_c box box_n box_c v6 v7 ac h2 ab _ (ZaO (Zay (x' := ((IntKind.i64.wrap (v7 + 1)), ac)) (τ := tau []) h.1 h.2 (Zao [] [0, 1, 2] rfl rfl (esc bsl (esc bsl (esc bsl (esc pbd (esc pbd Zak))))) (hsc pcs (hsc pcs (hsc pcs Zae))) (by kernel_rfl) rfl))))
def ZEt (w0 : World) (fp : Nat -> Nat -> Prop) (ρi : Rho) (Kf : SVal -> Heap -> Prop) (ss : List Int) (ss_n ss_c : Nat) (box : List Int) (box_n box_c : Nat) (v6 : Int) (h2 : List Int) (v7 : Int) (ab : List Int) : ZaY := Zax 3 (fun e H => SemL Try.prog w0 fp ρi 2 37 [Zen] e H (ZhC w0 fp ρi Kf ss ss_n ss_c box box_n box_c v6 h2 v7 ab)) (ZhC w0 fp ρi Kf ss ss_n ss_c box box_n box_c v6 h2 v7 ab)
theorem ZGx (ss : List Int) (ss_n ss_c : Nat) (box : List Int) (box_n box_c : Nat) (v6 v7 : Int) (ab h2 : List Int) (Z : Env -> Heap -> Prop) (h : (((4 : Int) ≠ 0)) /\ ((0 <= (IntKind.i64.wrap (v6 + (IntKind.i64.wrap (4 * (Int.tmod (IntKind.i64.wrap (v7 + v6)) 4))))))) /\ (((IntKind.i64.wrap (v6 + (IntKind.i64.wrap (4 * (Int.tmod (IntKind.i64.wrap (v7 + v6)) 4))))) < ((ss_n : Nat) : Int))) /\ (((0 + (Int.toNat (IntKind.i64.wrap (v6 + (IntKind.i64.wrap (4 * (Int.tmod (IntKind.i64.wrap (v7 + v6)) 4))))))) < ss_n)) /\ ((0 <= (List.getD ss (0 + (Int.toNat (IntKind.i64.wrap (v6 + (IntKind.i64.wrap (4 * (Int.tmod (IntKind.i64.wrap (v7 + v6)) 4))))))) 0))) /\ (((List.getD ss (0 + (Int.toNat (IntKind.i64.wrap (v6 + (IntKind.i64.wrap (4 * (Int.tmod (IntKind.i64.wrap (v7 + v6)) 4))))))) 0) < ((box_n : Nat) : Int))) /\ (((0 + (Int.toNat (List.getD ss (0 + (Int.toNat (IntKind.i64.wrap (v6 + (IntKind.i64.wrap (4 * (Int.tmod (IntKind.i64.wrap (v7 + v6)) 4))))))) 0))) < box_n)) /\ ((0 <= (IntKind.i64.wrap (v6 + (IntKind.i64.wrap (4 * v7)))))) /\ (((IntKind.i64.wrap (v6 + (IntKind.i64.wrap (4 * v7)))) < 16)) /\ (((0 + (Int.toNat (IntKind.i64.wrap (v6 + (IntKind.i64.wrap (4 * v7)))))) < 16)) /\ (((0 + (Int.toNat (IntKind.i64.wrap (v6 + (IntKind.i64.wrap (4 * v7)))))) < List.length ab)) /\ Z (Ye1 ss_n ss_c box_n box_c v6 v7) ⟨3, [(0, some ⟨false, [.ints .u8 ss_n ss], 0⟩), (1, some ⟨false, [.ints .u8 box_n box], 0⟩), (2, some ⟨true, [.ints .u8 16 (List.set ab (0 + (Int.toNat (IntKind.i64.wrap (v6 + (IntKind.i64.wrap (4 * v7)))))) (List.getD box (0 + (Int.toNat (List.getD ss (0 + (Int.toNat (IntKind.i64.wrap (v6 + (IntKind.i64.wrap (4 * (Int.tmod (IntKind.i64.wrap (v7 + v6)) 4))))))) 0))) 0))], 0⟩)]⟩) : EvC Zcg ZpT (Ye1 ss_n ss_c box_n box_c v6 v7) (Ye0 ss_n ss box_n box ab) [0, 1, 5, 6, 7] [0, 1, 2] Z := EvC.of (by kernel_rfl) h
def Zrs (ss : List Int) (ss_n ss_c : Nat) (box : List Int) (box_n box_c : Nat) (v6 v7 : Int) (ab h2 : List Int) : Prop := ((0 <= (IntKind.i64.wrap (v6 + (IntKind.i64.wrap (4 * (Int.tmod (IntKind.i64.wrap (v7 + v6)) 4))))))) /\ ((((IntKind.i64.wrap (v6 + (IntKind.i64.wrap (4 * (Int.tmod (IntKind.i64.wrap (v7 + v6)) 4))))) < ((ss_n : Nat) : Int))) /\ ((((0 + (Int.toNat (IntKind.i64.wrap (v6 + (IntKind.i64.wrap (4 * (Int.tmod (IntKind.i64.wrap (v7 + v6)) 4))))))) < ss_n)) /\ (((0 <= (List.getD ss (0 + (Int.toNat (IntKind.i64.wrap (v6 + (IntKind.i64.wrap (4 * (Int.tmod (IntKind.i64.wrap (v7 + v6)) 4))))))) 0))) /\ ((((List.getD ss (0 + (Int.toNat (IntKind.i64.wrap (v6 + (IntKind.i64.wrap (4 * (Int.tmod (IntKind.i64.wrap (v7 + v6)) 4))))))) 0) < ((box_n : Nat) : Int))) /\ ((((0 + (Int.toNat (List.getD ss (0 + (Int.toNat (IntKind.i64.wrap (v6 + (IntKind.i64.wrap (4 * (Int.tmod (IntKind.i64.wrap (v7 + v6)) 4))))))) 0))) < box_n)) /\ (((0 <= (IntKind.i64.wrap (v6 + (IntKind.i64.wrap (4 * v7)))))) /\ ((((IntKind.i64.wrap (v6 + (IntKind.i64.wrap (4 * v7)))) < 16)) /\ ((((0 + (Int.toNat (IntKind.i64.wrap (v6 + (IntKind.i64.wrap (4 * v7)))))) < 16)) /\ ((((0 + (Int.toNat (IntKind.i64.wrap (v6 + (IntKind.i64.wrap (4 * v7)))))) < List.length ab)) /\ (∀ ac : List Int, ac = (List.set ab (0 + (Int.toNat (IntKind.i64.wrap (v6 + (IntKind.i64.wrap (4 * v7)))))) (List.getD box (0 + (Int.toNat (List.getD ss (0 + (Int.toNat (IntKind.i64.wrap (v6 + (IntKind.i64.wrap (4 * (Int.tmod (IntKind.i64.wrap (v7 + v6)) 4))))))) 0))) 0)) -> Zua ss ss_n ss_c box box_n box_c v6 v7 ac h2 ab))))))))))
theorem ZJp (ss : List Int) (ss_n ss_c : Nat) (box : List Int) (box_n box_c : Nat) (hK : ZaP ss ss_n ss_c box box_n box_c Kf) (v6 v7 : Int) (ab h2 : List Int) (h : Zrs ss ss_n ss_c box box_n box_c v6 v7 ab h2) : SemL Try.prog w0 fp ρi 2 37 [ZpT] (Ye1 ss_n ss_c box_n box_c v6 v7) (Ye0 ss_n ss box_n box ab) (ZEt w0 fp ρi Kf ss ss_n ss_c box box_n box_c v6 h2 v7 ab) :=
  Zad ZbK (ZGx ss ss_n ss_c box box_n box_c v6 v7 ab h2 _ ⟨(by decide), ⟨h.1, ⟨h.2.1, ⟨h.2.2.1, ⟨h.2.2.2.1, ⟨h.2.2.2.2.1, ⟨h.2.2.2.2.2.1, ⟨h.2.2.2.2.2.2.1, ⟨h.2.2.2.2.2.2.2.1, ⟨h.2.2.2.2.2.2.2.2.1, ⟨h.2.2.2.2.2.2.2.2.2.1, (ZaO (ZJq ss ss_n ss_c box box_n box_c hK v6 v7 (List.set ab (0 + (Int.toNat (IntKind.i64.wrap (v6 + (IntKind.i64.wrap (4 * v7)))))) (List.getD box (0 + (Int.toNat (List.getD ss (0 + (Int.toNat (IntKind.i64.wrap (v6 + (IntKind.i64.wrap (4 * (Int.tmod (IntKind.i64.wrap (v7 + v6)) 4))))))) 0))) 0)) h2 ab (h.2.2.2.2.2.2.2.2.2.2 (List.set ab (0 + (Int.toNat (IntKind.i64.wrap (v6 + (IntKind.i64.wrap (4 * v7)))))) (List.getD box (0 + (Int.toNat (List.getD ss (0 + (Int.toNat (IntKind.i64.wrap (v6 + (IntKind.i64.wrap (4 * (Int.tmod (IntKind.i64.wrap (v7 + v6)) 4))))))) 0))) 0)) rfl)))⟩⟩⟩⟩⟩⟩⟩⟩⟩⟩⟩)
theorem ZJo (ss : List Int) (ss_n ss_c : Nat) (box : List Int) (box_n box_c : Nat) (hK : ZaP ss ss_n ss_c box box_n box_c Kf) (v6 v7 : Int) (ab h2 : List Int) (h : Zrs ss ss_n ss_c box box_n box_c v6 v7 ab h2) : SemL Try.prog w0 fp ρi 2 37 [Zmo, Zen] (Ye1 ss_n ss_c box_n box_c v6 v7) (Ye0 ss_n ss box_n box ab) (ZhC w0 fp ρi Kf ss ss_n ss_c box box_n box_c v6 h2 v7 ab) :=
  Zat (ZJp ss ss_n ss_c box box_n box_c hK v6 v7 ab h2 h)
abbrev Ye2 (x0 x1 x2 x3 : Nat) (x4 : Int) : Env := [(0, some (.slice ⟨0, 0, 0, 1⟩ x0 x1)), (1, some (.slice ⟨1, 0, 0, 1⟩ x2 x3)), (5, some (.slice ⟨2, 0, 0, 1⟩ 16 16)), (6, some (.int .i64 x4))]
theorem ZGw (ss : List Int) (ss_n ss_c : Nat) (box : List Int) (box_n box_c : Nat) (v6 : Int) (ab h2 : List Int) (Z : Env -> Heap -> Prop) (h : Z [(0, some (.slice ⟨0, 0, 0, 1⟩ ss_n ss_c)), (1, some (.slice ⟨1, 0, 0, 1⟩ box_n box_c)), (5, some (.slice ⟨2, 0, 0, 1⟩ 16 16)), (6, some (.int .i64 (IntKind.i64.wrap (v6 + 1))))] (Ye0 ss_n ss box_n box ab)) : EvC Zcg Zem (Ye2 ss_n ss_c box_n box_c v6) (Ye0 ss_n ss box_n box ab) [0, 1, 5, 6] [0, 1, 2] Z := EvC.of (by kernel_rfl) h
def Zt9 (ss : List Int) (ss_n ss_c : Nat) (box : List Int) (box_n box_c : Nat) (v6 : Int) (ab h2 : List Int) : Prop := (0 <= (IntKind.i64.wrap (v6 + 1)) /\ (IntKind.i64.wrap (v6 + 1)) <= 4 /\ ab.length = 16 /\ ∀ j : Nat, j < 16 -> ((j % 4 : Nat) : Int) < (IntKind.i64.wrap (v6 + 1)) -> ab.getD j 0 = (Za7 ss).getD j 0) /\ (((4 - (IntKind.i64.wrap (v6 + 1))).toNat) < ((4 - v6).toNat))
theorem ZJn (ss : List Int) (ss_n ss_c : Nat) (box : List Int) (box_n box_c : Nat) (hK : ZaP ss ss_n ss_c box box_n box_c Kf) (v6 : Int) (ab h2 : List Int) (h : Zt9 ss ss_n ss_c box box_n box_c v6 ab h2) : SemL Try.prog w0 fp ρi 2 37 [Zem] (Ye2 ss_n ss_c box_n box_c v6) (Ye0 ss_n ss box_n box ab) (ZhD w0 fp ρi Kf ss ss_n ss_c box box_n box_c v6 h2) :=
  Zad ZbK (ZGw ss ss_n ss_c box box_n box_c v6 ab h2 _ (ZaO (Zay (x' := ((IntKind.i64.wrap (v6 + 1)), ab)) (τ := tau []) h.1 h.2 (Zao [] [0, 1, 2] rfl rfl (esc bsl (esc bsl (esc bsl (esc pbd Zak)))) (hsc pcs (hsc pcs (hsc pcs Zae))) (by kernel_rfl) rfl))))
def Zrr (ss : List Int) (ss_n ss_c : Nat) (box : List Int) (box_n box_c : Nat) (v6 v7 : Int) (ab h2 : List Int) : Prop := ((decide (v7 < 4)) = true -> (Zrs ss ss_n ss_c box box_n box_c v6 v7 ab h2)) /\ ((decide (v7 < 4)) = false -> (Zt9 ss ss_n ss_c box box_n box_c v6 ab h2))
abbrev Ye3 (x0 x1 x2 x3 : Nat) (x4 x5 : Int) : Env := [(0, some (.slice ⟨0, 0, 0, 1⟩ x0 x1)), (1, some (.slice ⟨1, 0, 0, 1⟩ x2 x3)), (5, some (.slice ⟨2, 0, 0, 1⟩ 16 16)), (6, some (.int .i64 x4)), (7, some (.int .i64 x5)), (14, some (.bool (decide (x5 < 4))))]
theorem ZJm (ss : List Int) (ss_n ss_c : Nat) (box : List Int) (box_n box_c : Nat) (hK : ZaP ss ss_n ss_c box box_n box_c Kf) (v6 v7 : Int) (ab h2 : List Int) (h : Zrr ss ss_n ss_c box box_n box_c v6 v7 ab h2) : SemL Try.prog w0 fp ρi 2 37 [ZpU, (.seq Zmo Zen)] (Ye3 ss_n ss_c box_n box_c v6 v7) (Ye0 ss_n ss box_n box ab) (ZhC w0 fp ρi Kf ss ss_n ss_c box box_n box_c v6 h2 v7 ab) :=
  ZaJ (q := (decide (v7 < 4))) (by kernel_rfl) (fun hq => (ZaI (lpk [0, 1, 5, 6, 7] [0, 1, 2] (Zah (ZJo ss ss_n ss_c box box_n box_c hK v6 v7 ab h2 (h.1 hq)))))) (fun hq => (Zbb (lpk [0, 1, 5, 6] [0, 1, 2] (ZaO (P := Try.prog) (w0 := w0) (fp := fp) (ρi := ρi) (n0 := 2) (nt := 37) (ZJn ss ss_n ss_c box box_n box_c hK v6 ab h2 (h.2 hq))))))
theorem ZGv (ss : List Int) (ss_n ss_c : Nat) (box : List Int) (box_n box_c : Nat) (v6 v7 : Int) (ab h2 : List Int) (Z : Env -> Heap -> Prop) (h : Z (Ye3 ss_n ss_c box_n box_c v6 v7) (Ye0 ss_n ss box_n box ab)) : EvC Zcg ZpV (Ye1 ss_n ss_c box_n box_c v6 v7) (Ye0 ss_n ss box_n box ab) [0, 1, 5, 6, 7, 14] [0, 1, 2] Z := EvC.of (by kernel_rfl) h
theorem ZJl (ss : List Int) (ss_n ss_c : Nat) (box : List Int) (box_n box_c : Nat) (hK : ZaP ss ss_n ss_c box box_n box_c Kf) (v6 v7 : Int) (ab h2 : List Int) (h : Zrr ss ss_n ss_c box box_n box_c v6 v7 ab h2) : SemL Try.prog w0 fp ρi 2 37 [ZpV, ZpU, (.seq Zmo Zen)] (Ye1 ss_n ss_c box_n box_c v6 v7) (Ye0 ss_n ss box_n box ab) (ZhC w0 fp ρi Kf ss ss_n ss_c box box_n box_c v6 h2 v7 ab) :=
  Zad ZbK (ZGv ss ss_n ss_c box box_n box_c v6 v7 ab h2 _ (ZJm ss ss_n ss_c box box_n box_c hK v6 v7 ab h2 h))
def Zkw (ss : List Int) (ss_n ss_c : Nat) (box : List Int) (box_n box_c : Nat) (v6 : Int) (h2 : List Int) : Prop := (0 <= (0 : Int) /\ (0 : Int) <= 4 /\ h2.length = 16 /\ ∀ j : Nat, j < 16 -> (((j % 4 : Nat) : Int) < v6 ∨ ((j % 4 : Nat) : Int) = v6 /\ ((j / 4 : Nat) : Int) < (0 : Int)) -> h2.getD j 0 = (Za7 ss).getD j 0) /\ (∀ (v7 : Int) (ab : List Int), (0 <= v7 /\ v7 <= 4 /\ ab.length = 16 /\ ∀ j : Nat, j < 16 -> (((j % 4 : Nat) : Int) < v6 ∨ ((j % 4 : Nat) : Int) = v6 /\ ((j / 4 : Nat) : Int) < v7) -> ab.getD j 0 = (Za7 ss).getD j 0) -> (Zrr ss ss_n ss_c box box_n box_c v6 v7 ab h2))
abbrev Ye4 (x0 x1 x2 x3 : Nat) (x4 : Int) : Env := [(0, some (.slice ⟨0, 0, 0, 1⟩ x0 x1)), (1, some (.slice ⟨1, 0, 0, 1⟩ x2 x3)), (5, some (.slice ⟨2, 0, 0, 1⟩ 16 16)), (6, some (.int .i64 x4)), (7, some (.int .i64 0))]
theorem ZJk (ss : List Int) (ss_n ss_c : Nat) (box : List Int) (box_n box_c : Nat) (hK : ZaP ss ss_n ss_c box box_n box_c Kf) (v6 : Int) (h2 : List Int) (h : Zkw ss ss_n ss_c box box_n box_c v6 h2) : SemL Try.prog w0 fp ρi 2 37 [Zsu] (Ye4 ss_n ss_c box_n box_c v6) (Ye0 ss_n ss box_n box h2) (ZwD w0 fp ρi Kf ss ss_n ss_c box box_n box_c v6 h2) :=
  Zbd (Zxb ss ss_n ss_c box box_n box_c v6 h2) (Zvj ss ss_n ss_c box box_n box_c v6 h2) (Zv9 ss ss_n ss_c box box_n box_c v6 h2) (ZvK ss ss_n ss_c box box_n box_c v6 h2) ⟨(0, h2), tau [], h.1, (Zao [] [0, 1, 2] rfl rfl (esc bsl (esc bsl (esc bsl (esc pbd (esc pbd Zak))))) (hsc pcs (hsc pcs (hsc pcs Zae))) (by kernel_rfl) rfl)⟩ (fun s => match s with | (v7, ab) => fun hi => (Zah (Zah (ZJl ss ss_n ss_c box box_n box_c hK v6 v7 ab h2 (h.2 v7 ab hi)))))
theorem ZJj (ss : List Int) (ss_n ss_c : Nat) (box : List Int) (box_n box_c : Nat) (hK : ZaP ss ss_n ss_c box box_n box_c Kf) (v6 : Int) (h2 : List Int) (h : Zkw ss ss_n ss_c box box_n box_c v6 h2) : SemL Try.prog w0 fp ρi 2 37 [Zmp] (Ye4 ss_n ss_c box_n box_c v6) (Ye0 ss_n ss box_n box h2) (ZlD w0 fp ρi Kf ss ss_n ss_c box box_n box_c v6 h2) :=
  Zat (ZJk ss ss_n ss_c box box_n box_c hK v6 h2 h)
theorem ZGu (ss : List Int) (ss_n ss_c : Nat) (box : List Int) (box_n box_c : Nat) (v6 : Int) (h2 : List Int) (Z : Env -> Heap -> Prop) (h : Z (Ye4 ss_n ss_c box_n box_c v6) (Ye0 ss_n ss box_n box h2)) : EvC Zcg ZpW (Ye2 ss_n ss_c box_n box_c v6) (Ye0 ss_n ss box_n box h2) [0, 1, 5, 6, 7] [0, 1, 2] Z := EvC.of (by kernel_rfl) h
theorem ZJi (ss : List Int) (ss_n ss_c : Nat) (box : List Int) (box_n box_c : Nat) (hK : ZaP ss ss_n ss_c box box_n box_c Kf) (v6 : Int) (h2 : List Int) (h : Zkw ss ss_n ss_c box box_n box_c v6 h2) : SemL Try.prog w0 fp ρi 2 37 [ZpW, Zmp] (Ye2 ss_n ss_c box_n box_c v6) (Ye0 ss_n ss box_n box h2) (ZlD w0 fp ρi Kf ss ss_n ss_c box box_n box_c v6 h2) :=
  Zad ZbK (ZGu ss ss_n ss_c box box_n box_c v6 h2 _ (ZJj ss ss_n ss_c box box_n box_c hK v6 h2 h))
theorem ZJh (ss : List Int) (ss_n ss_c : Nat) (box : List Int) (box_n box_c : Nat) (hK : ZaP ss ss_n ss_c box box_n box_c Kf) (v6 : Int) (h2 : List Int) (h : Zkw ss ss_n ss_c box box_n box_c v6 h2) : SemL Try.prog w0 fp ρi 2 37 [ZiP, Zem] (Ye2 ss_n ss_c box_n box_c v6) (Ye0 ss_n ss box_n box h2) (ZhD w0 fp ρi Kf ss ss_n ss_c box box_n box_c v6 h2) :=
  Zat (Zah (ZJi ss ss_n ss_c box box_n box_c hK v6 h2 h))
abbrev Ye5 : Env := [(4, some (.slice ⟨2, 0, 0, 1⟩ 16 16))]
abbrev Ye6 : Env := [(5, some (.slice ⟨2, 0, 0, 1⟩ 16 16))]
theorem ZBd (ss : List Int) (ss_n ss_c : Nat) (box : List Int) (box_n box_c : Nat) (h2 : List Int) (Z : Env -> Heap -> Prop) (h : Z Ye5 (Ye0 ss_n ss box_n box h2)) : EvC Zcg ZdC Ye6 (Ye0 ss_n ss box_n box h2) [4] [0, 1, 2] Z := EvC.of (by kernel_rfl) h
theorem ZB1 (ss : List Int) (ss_n ss_c : Nat) (box : List Int) (box_n box_c : Nat) (h2 : List Int) : RetC Zce Ye5 (Ye0 ss_n ss box_n box h2) (.slice ⟨2, 0, 0, 1⟩ 16 16) := RetC.of (fun Z => by kernel_rfl)
def ZoF (ss : List Int) (ss_n ss_c : Nat) (box : List Int) (box_n box_c : Nat) (h2 : List Int) : Prop := ((16 : Nat) = 16) /\ (h2 = (Za7 ss)) /\ ((16 : Nat) = 16) /\ (0 = (16 - 16)) /\ ((16 : Nat) <= 16)
theorem ZDa (ss : List Int) (ss_n ss_c : Nat) (box : List Int) (box_n box_c : Nat) (hK : ZaP ss ss_n ss_c box box_n box_c Kf) (h2 : List Int) (h : ZoF ss ss_n ss_c box box_n box_c h2) : SemL Try.prog w0 fp ρi 2 37 [ZdC, .ret] Ye6 (Ye0 ss_n ss box_n box h2) (fnK Zce 2 Kf) :=
  Zad ZbK (ZBd ss ss_n ss_c box box_n box_c h2 _ (Zbv (R := Zce) (m := 2) (Kf := Kf) (fun _ _ h => h) (ZB1 ss ss_n ss_c box box_n box_c h2) (Zb4 (Eq.mpr (cg4 (fun (z1 : Nat) (z2 : List Int) (z3 z4 : Nat) => Zkj 2 Kf (.slice ⟨2, 0, 0, 1⟩ z1 16) ⟨3, [(0, some ⟨false, [.ints .u8 ss_n ss], 0⟩), (1, some ⟨false, [.ints .u8 box_n box], 0⟩), (2, some ⟨true, [.ints .u8 z3 z2], z4⟩)]⟩) h.1 h.2.1 h.2.2.1 h.2.2.2.1) (Zbm [] [2, 0, 1] rfl (by kernel_rfl) rfl bsl (hsc pcs (hsc pcs (hsc pcs Zae))) rfl (by kernel_rfl) (hK 16 h.2.2.2.2))))))
def Zlc (ss : List Int) (ss_n ss_c : Nat) (box : List Int) (box_n box_c : Nat) (v6 : Int) (h2 : List Int) : Prop := ((decide (v6 < 4)) = true -> (Zkw ss ss_n ss_c box box_n box_c v6 h2)) /\ ((decide (v6 < 4)) = false -> (ZoF ss ss_n ss_c box box_n box_c h2))
abbrev Ye7 (x0 x1 x2 x3 : Nat) (x4 : Int) : Env := [(0, some (.slice ⟨0, 0, 0, 1⟩ x0 x1)), (1, some (.slice ⟨1, 0, 0, 1⟩ x2 x3)), (5, some (.slice ⟨2, 0, 0, 1⟩ 16 16)), (6, some (.int .i64 x4)), (10, some (.bool (decide (x4 < 4))))]
theorem ZC9 (ss : List Int) (ss_n ss_c : Nat) (box : List Int) (box_n box_c : Nat) (hK : ZaP ss ss_n ss_c box box_n box_c Kf) (v6 : Int) (h2 : List Int) (h : Zlc ss ss_n ss_c box box_n box_c v6 h2) : SemL Try.prog w0 fp ρi 2 37 [ZpX, (.seq ZiP Zem)] (Ye7 ss_n ss_c box_n box_c v6) (Ye0 ss_n ss box_n box h2) (ZhD w0 fp ρi Kf ss ss_n ss_c box box_n box_c v6 h2) :=
  ZaJ (q := (decide (v6 < 4))) (by kernel_rfl) (fun hq => (ZaI (lpk [0, 1, 5, 6] [0, 1, 2] (Zah (ZJh ss ss_n ss_c box box_n box_c hK v6 h2 (h.1 hq)))))) (fun hq => (Zbb (lpk [5] [0, 1, 2] (Zah (ZDa ss ss_n ss_c box box_n box_c hK h2 (h.2 hq))))))
theorem ZBc (ss : List Int) (ss_n ss_c : Nat) (box : List Int) (box_n box_c : Nat) (v6 : Int) (h2 : List Int) (Z : Env -> Heap -> Prop) (h : Z (Ye7 ss_n ss_c box_n box_c v6) (Ye0 ss_n ss box_n box h2)) : EvC Zcg ZpY (Ye2 ss_n ss_c box_n box_c v6) (Ye0 ss_n ss box_n box h2) [0, 1, 5, 6, 10] [0, 1, 2] Z := EvC.of (by kernel_rfl) h
theorem ZC8 (ss : List Int) (ss_n ss_c : Nat) (box : List Int) (box_n box_c : Nat) (hK : ZaP ss ss_n ss_c box box_n box_c Kf) (v6 : Int) (h2 : List Int) (h : Zlc ss ss_n ss_c box box_n box_c v6 h2) : SemL Try.prog w0 fp ρi 2 37 [ZpY, ZpX, (.seq ZiP Zem)] (Ye2 ss_n ss_c box_n box_c v6) (Ye0 ss_n ss box_n box h2) (ZhD w0 fp ρi Kf ss ss_n ss_c box box_n box_c v6 h2) :=
  Zad ZbK (ZBc ss ss_n ss_c box box_n box_c v6 h2 _ (ZC9 ss ss_n ss_c box box_n box_c hK v6 h2 h))
def ZeU (ss : List Int) (ss_n ss_c : Nat) (box : List Int) (box_n box_c : Nat) : Prop := (0 <= (0 : Int) /\ (0 : Int) <= 4 /\ (List.replicate 16 0).length = 16 /\ ∀ j : Nat, j < 16 -> ((j % 4 : Nat) : Int) < (0 : Int) -> (List.replicate 16 0).getD j 0 = (Za7 ss).getD j 0) /\ (∀ (v6 : Int) (h2 : List Int), (0 <= v6 /\ v6 <= 4 /\ h2.length = 16 /\ ∀ j : Nat, j < 16 -> ((j % 4 : Nat) : Int) < v6 -> h2.getD j 0 = (Za7 ss).getD j 0) -> (Zlc ss ss_n ss_c box box_n box_c v6 h2))
abbrev Ye8 (x0 x1 x2 x3 : Nat) : Env := [(0, some (.slice ⟨0, 0, 0, 1⟩ x0 x1)), (1, some (.slice ⟨1, 0, 0, 1⟩ x2 x3)), (5, some (.slice ⟨2, 0, 0, 1⟩ 16 16)), (6, some (.int .i64 0))]
abbrev Ye9 (x0 : Nat) (x1 : List Int) (x2 : Nat) (x3 : List Int) : Heap := ⟨3, [(0, some ⟨false, [.ints .u8 x0 x1], 0⟩), (1, some ⟨false, [.ints .u8 x2 x3], 0⟩), (2, some ⟨true, [.ints .u8 16 (List.replicate 16 0)], 0⟩)]⟩
theorem ZC7 (ss : List Int) (ss_n ss_c : Nat) (box : List Int) (box_n box_c : Nat) (hK : ZaP ss ss_n ss_c box box_n box_c Kf) (h : ZeU ss ss_n ss_c box box_n box_c) : SemL Try.prog w0 fp ρi 2 37 [Zst] (Ye8 ss_n ss_c box_n box_c) (Ye9 ss_n ss box_n box) (ZwE w0 fp ρi Kf ss ss_n ss_c box box_n box_c) :=
  Zbd (Zxc ss ss_n ss_c box box_n box_c) (Zvk ss ss_n ss_c box box_n box_c) (Zwa ss ss_n ss_c box box_n box_c) (ZvL ss ss_n ss_c box box_n box_c) ⟨(0, (List.replicate 16 0)), tau [], h.1, (Zao [] [0, 1, 2] rfl rfl (esc bsl (esc bsl (esc bsl (esc pbd Zak)))) (hsc pcs (hsc pcs (hsc pcs Zae))) (by kernel_rfl) rfl)⟩ (fun s => match s with | (v6, h2) => fun hi => (Zah (Zah (ZC8 ss ss_n ss_c box box_n box_c hK v6 h2 (h.2 v6 h2 hi)))))
theorem ZC6 (ss : List Int) (ss_n ss_c : Nat) (box : List Int) (box_n box_c : Nat) (hK : ZaP ss ss_n ss_c box box_n box_c Kf) (h : ZeU ss ss_n ss_c box box_n box_c) : SemL Try.prog w0 fp ρi 2 37 [Zg4, (.seq ZdC .ret)] (Ye8 ss_n ss_c box_n box_c) (Ye9 ss_n ss box_n box) (fnK Zce 2 Kf) :=
  Zat (ZC7 ss ss_n ss_c box box_n box_c hK h)
abbrev ZNH (x0 x1 x2 x3 : Nat) : Env := [(0, some (.slice ⟨0, 0, 0, 1⟩ x0 x1)), (1, some (.slice ⟨1, 0, 0, 1⟩ x2 x3)), (5, some (.slice ⟨2, 0, 0, 1⟩ 16 16))]
theorem ZBb (ss : List Int) (ss_n ss_c : Nat) (box : List Int) (box_n box_c : Nat) (Z : Env -> Heap -> Prop) (h : Z (Ye8 ss_n ss_c box_n box_c) (Ye9 ss_n ss box_n box)) : EvC Zcg Zj0 (ZNH ss_n ss_c box_n box_c) (Ye9 ss_n ss box_n box) [0, 1, 5, 6] [0, 1, 2] Z := EvC.of (by kernel_rfl) h
theorem ZC5 (ss : List Int) (ss_n ss_c : Nat) (box : List Int) (box_n box_c : Nat) (hK : ZaP ss ss_n ss_c box box_n box_c Kf) (h : ZeU ss ss_n ss_c box box_n box_c) : SemL Try.prog w0 fp ρi 2 37 [Zj0, Zg4, (.seq ZdC .ret)] (ZNH ss_n ss_c box_n box_c) (Ye9 ss_n ss box_n box) (fnK Zce 2 Kf) :=
  Zad ZbK (ZBb ss ss_n ss_c box box_n box_c _ (ZC6 ss ss_n ss_c box box_n box_c hK h))
abbrev ZE9 (x0 x1 x2 x3 : Nat) : Env := [(0, some (.slice ⟨0, 0, 0, 1⟩ x0 x1)), (1, some (.slice ⟨1, 0, 0, 1⟩ x2 x3))]
abbrev ZE8 (x0 : Nat) (x1 : List Int) (x2 : Nat) (x3 : List Int) : Heap := ⟨2, [(0, some ⟨false, [.ints .u8 x0 x1], 0⟩), (1, some ⟨false, [.ints .u8 x2 x3], 0⟩)]⟩
theorem ZBa (ss : List Int) (ss_n ss_c : Nat) (box : List Int) (box_n box_c : Nat) (Z : Env -> Heap -> Prop) (h : (((0 : Int) <= 16)) /\ (((16 : Int) <= 16)) /\ (((16 : Int) <= 1048576)) /\ Z (ZNH ss_n ss_c box_n box_c) (Ye9 ss_n ss box_n box)) : EvC Zcg Zmq (ZE9 ss_n ss_c box_n box_c) (ZE8 ss_n ss box_n box) [0, 1, 5] [0, 1, 2] Z := EvC.of (by kernel_rfl) h
theorem ZC4 (ss : List Int) (ss_n ss_c : Nat) (box : List Int) (box_n box_c : Nat) (hK : ZaP ss ss_n ss_c box box_n box_c Kf) (h : ZeU ss ss_n ss_c box box_n box_c) : SemL Try.prog w0 fp ρi 2 37 [Zmq, (.seq (.seq Zj0 Zg4) (.seq ZdC .ret))] (ZE9 ss_n ss_c box_n box_c) (ZE8 ss_n ss box_n box) (fnK Zce 2 Kf) :=
  Zad ZbK (ZBa ss ss_n ss_c box box_n box_c _ ⟨(by decide), ⟨(by decide), ⟨(by decide), (Zah (Zah (ZC5 ss ss_n ss_c box box_n box_c hK h)))⟩⟩⟩)
theorem ZA9 (ss : List Int) (ss_n ss_c : Nat) (box : List Int) (box_n box_c : Nat) (Z : Env -> Heap -> Prop) (h : Z (ZE9 ss_n ss_c box_n box_c) (ZE8 ss_n ss box_n box)) : EvC Zcg ZpZ (ZE9 ss_n ss_c box_n box_c) (ZE8 ss_n ss box_n box) [0, 1] [0, 1] Z := EvC.of (by kernel_rfl) h
theorem ZC3 (ss : List Int) (ss_n ss_c : Nat) (box : List Int) (box_n box_c : Nat) (hK : ZaP ss ss_n ss_c box box_n box_c Kf) (h : ZeU ss ss_n ss_c box box_n box_c) : SemL Try.prog w0 fp ρi 2 37 [ZpZ, (.seq Zmq (.seq (.seq Zj0 Zg4) (.seq ZdC .ret)))] (ZE9 ss_n ss_c box_n box_c) (ZE8 ss_n ss box_n box) (fnK Zce 2 Kf) :=
  Zad ZbK (ZA9 ss ss_n ss_c box box_n box_c _ (Zah (ZC4 ss ss_n ss_c box box_n box_c hK h)))
theorem ZyA (ss : List Int) (ss_n ss_c : Nat) (box : List Int) (box_n box_c : Nat) (hK : ZaP ss ss_n ss_c box box_n box_c Kf) (h : ZeU ss ss_n ss_c box box_n box_c) : SemL Try.prog w0 fp ρi 2 37 [ZsG] (ZE9 ss_n ss_c box_n box_c) (ZE8 ss_n ss box_n box) (fnK Zce 2 Kf) :=
  (Zah (ZC3 ss ss_n ss_c box box_n box_c hK h))
end
theorem Zu3 (ss : List Int) (ss_n ss_c : Nat) (box : List Int) (box_n box_c : Nat) (hpre : ((Zaz ss /\ ss_n = 16 /\ 16 <= ss_c) /\ (box = sboxT /\ box_n = 256 /\ 256 <= box_c))) : ZeU ss ss_n ss_c box box_n box_c := by
  unfold ZeU Zlc ZoF Zkw Zrr Zt9 Zrs Zua
  obtain ⟨⟨hs, rfl, hsc⟩, rfl, rfl, hbc⟩ := hpre
  refine ⟨⟨by omega, by omega, by simp, fun j hj h => by omega⟩, ?_⟩
  rintro v6 h2 ⟨i0, i1, i2, i3⟩
  refine ⟨fun hlt => ?_, fun hge => ?_⟩
  · have hlt := of_decide_eq_true hlt
    refine ⟨⟨by omega, by omega, i2, fun j hj h => i3 j hj (by omega)⟩, ?_⟩
    rintro v7 h3 ⟨k0, k1, k2, k3⟩
    refine ⟨fun hlt2 => ?_, fun hge2 => ?_⟩
    · have hlt2 := of_decide_eq_true hlt2
      obtain ⟨r, rfl⟩ := Int.eq_ofNat_of_zero_le i0
      obtain ⟨c, rfl⟩ := Int.eq_ofNat_of_zero_le k0
      have w1 : IntKind.i64.wrap (((c : Nat) : Int) + 1) = ((c + 1 : Nat) : Int) := by rw [ZdQ]; omega
      rw [ixw r (by omega) c (by omega), ixs r (by omega) c (by omega), w1]
      simp only [Int.toNat_natCast, Nat.zero_add]
      have hb := Zob hs.2 (i := r + 4 * ((c + r) % 4))
      refine ⟨by omega, by omega, by omega, hb.1, by have := hb.2; omega, by omega, by omega, by omega, by omega, by omega, ?_⟩
      rintro h4 rfl
      refine ⟨⟨by omega, by omega, by rw [List.length_set]; exact k2, fun j hj h => ?_⟩, by omega⟩
      rw [Zca (by omega)]
      split
      · rename_i hji
        subst hji
        unfold Za7
        rw [ZcU (by omega), show (r + 4 * c + 4 * ((r + 4 * c) % 4)) % 16 = r + 4 * ((c + r) % 4) by omega]
        rfl
      · exact k3 j hj (by omega)
    · have hge2 := of_decide_eq_false hge2
      have w1 : IntKind.i64.wrap (v6 + 1) = v6 + 1 := by rw [ZdQ]; omega
      rw [w1]
      exact ⟨⟨by omega, by omega, k2, fun j hj h => k3 j hj (by omega)⟩, by omega⟩
  · have hge := of_decide_eq_false hge
    refine ⟨rfl, ?_, rfl, rfl, Nat.le_refl _⟩
    have := Zbs i2 fun j hj => i3 j hj (by omega)
    rw [this]
    exact (Zbs (by simp [Za7]) fun j hj => rfl).symm
theorem ZyQ : Sound Try.prog 32 (gS Znv) := by
  refine ZaC Zna ?_
  intro args H K h
  obtain ⟨pre, out, hD, hpre, hK⟩ := Zdv h
  unfold Znv at hD
  split at hD
  · cases hD
    obtain ⟨rfl, rfl, hpre⟩ := hpre
    exact ⟨rfl, fun w0 fp ρi => ZyA _ _ _ _ _ _ hK (Zu3 _ _ _ _ _ _ hpre)⟩
  · cases hD
def Zyp : ZfW := fun args H => match args, H with
  | [.slice ⟨0, 0, 0, 1⟩ ss_n ss_c], ⟨1, [(0, some ⟨false, [.ints .u8 ss_m ss], 0⟩)]⟩ => some (ss_m = ss_n /\ (Zaz ss /\ ss_n = 16 /\ 16 <= ss_c), fun K => ∀ cap0 : Nat, 16 <= cap0 -> K (.slice ⟨1, 0, 0, 1⟩ 16 cap0) ⟨2, [(1, some ⟨true, [.ints .u8 16 (Zf5 ss)], (cap0 - 16)⟩), (0, some ⟨false, [.ints .u8 ss_n ss], 0⟩)]⟩)
  | _, _ => none
def Zzv : Con := ⟨33, gS Zyp, [], [], []⟩
def Zbn (ss : List Int) (ss_n ss_c : Nat) (Kf : SVal -> Heap -> Prop) : Prop := ∀ cap0 : Nat, 16 <= cap0 -> Kf (.slice ⟨1, 0, 0, 1⟩ 16 cap0) ⟨2, [(1, some ⟨true, [.ints .u8 16 (Zf5 ss)], (cap0 - 16)⟩), (0, some ⟨false, [.ints .u8 ss_n ss], 0⟩)]⟩
def ZpS : ACode := .reg (.op (some 2) (.mov (.cn (.nilslice))) .nil)
def Zmn : ACode := .reg (.op (some 6) (.mkslice .u8 (.cn (.int .i64 16)) (.cn (.int .i64 16))) (.op (some 3) (.mov (.tm 6)) .nil))
def ZjZ : ACode := .reg (.op (some 4) (.mov (.cn (.int .i64 0))) .nil)
def ZpR : ACode := .reg (.op (some 7) (.mov (.tm 4)) (.op (some 8) (.bin .lss (.tm 7) (.cn (.int .i64 4))) .nil))
def ZpQ : ACode := .cond (.tm 8) .skip (.exit 0)
def ZpP : ACode := .reg (.op (some 5) (.mov (.cn (.int .i64 0))) .nil)
def ZpO : ACode := .reg (.op (some 11) (.mov (.tm 5)) (.op (some 12) (.bin .lss (.tm 11) (.cn (.int .i64 4))) .nil))
def ZpN : ACode := .cond (.tm 12) .skip (.exit 2)
def Zml : List MStep := [.mk 0 0 (some 15) (.mov (.tm 3)), .mk 1 0 (some 16) (.mov (.tm 5)), .mk 2 0 (some 17) (.mov (.tm 4)), .mk 3 0 (some 18) (.bin .mul (.cn (.int .i64 4)) (.tm 17)), .mk 4 0 (some 19) (.bin .add (.tm 16) (.tm 18)), .mk 5 0 (some 20) (.mov (.tm 0)), .mk 6 0 (some 21) (.mov (.tm 5)), .mk 7 0 (some 22) (.mov (.tm 4)), .mk 8 0 (some 23) (.bin .mul (.cn (.int .i64 4)) (.tm 22)), .mk 9 0 (some 24) (.bin .add (.tm 21) (.tm 23)), .mk 10 0 (some 25) (.idxS (.tm 20) (.tm 24) 1), .mk 11 0 (some 26) (.load1 (.tm 25)), .mk 13 0 (some 28) (.mov (.tm 0)), .mk 14 0 (some 29) (.mov (.tm 5)), .mk 15 0 (some 30) (.bin .add (.tm 29) (.cn (.int .i64 1))), .mk 16 0 (some 31) (.bin .rem (.tm 30) (.cn (.int .i64 4))), .mk 17 0 (some 32) (.mov (.tm 4)), .mk 18 0 (some 33) (.bin .mul (.cn (.int .i64 4)) (.tm 32)), .mk 19 0 (some 34) (.bin .add (.tm 31) (.tm 33)), .mk 20 0 (some 35) (.idxS (.tm 28) (.tm 34) 1), .mk 21 0 (some 36) (.load1 (.tm 35)), .mk 24 0 (some 39) (.mov (.tm 0)), .mk 25 0 (some 40) (.mov (.tm 5)), .mk 26 0 (some 41) (.bin .add (.tm 40) (.cn (.int .i64 2))), .mk 27 0 (some 42) (.bin .rem (.tm 41) (.cn (.int .i64 4))), .mk 28 0 (some 43) (.mov (.tm 4)), .mk 29 0 (some 44) (.bin .mul (.cn (.int .i64 4)) (.tm 43)), .mk 30 0 (some 45) (.bin .add (.tm 42) (.tm 44)), .mk 31 0 (some 46) (.idxS (.tm 39) (.tm 45) 1), .mk 32 0 (some 47) (.load1 (.tm 46)), .mk 34 0 (some 49) (.mov (.tm 0)), .mk 35 0 (some 50) (.mov (.tm 5)), .mk 36 0 (some 51) (.bin .add (.tm 50) (.cn (.int .i64 3))), .mk 37 0 (some 52) (.bin .rem (.tm 51) (.cn (.int .i64 4))), .mk 38 0 (some 53) (.mov (.tm 4)), .mk 39 0 (some 54) (.bin .mul (.cn (.int .i64 4)) (.tm 53)), .mk 40 0 (some 55) (.bin .add (.tm 52) (.tm 54)), .mk 41 0 (some 56) (.idxS (.tm 49) (.tm 55) 1), .mk 42 0 (some 57) (.load1 (.tm 56)), .mk 12 1 (some 27) (.call 44 [(.cn (.int .u8 2)), (.tm 26)]), .mk 22 1 (some 37) (.call 44 [(.cn (.int .u8 3)), (.tm 36)]), .mk 23 0 (some 38) (.bin .xor (.tm 27) (.tm 37)), .mk 33 0 (some 48) (.bin .xor (.tm 38) (.tm 47)), .mk 43 0 (some 58) (.bin .xor (.tm 48) (.tm 57)), .mk 44 0 (some 59) (.idxS (.tm 15) (.tm 19) 1), .mk 45 2 none (.store1 (.tm 59) (.tm 58))]
def ZxW : ACode := .regM Zml
def Zmk : ACode := .block 3 ZxW
def Zel : ACode := .reg (.op (some 13) (.mov (.tm 5)) (.op (some 14) (.bin .add (.tm 13) (.cn (.int .i64 1))) (.op (some 5) (.mov (.tm 14)) .nil)))
def Zss : ACode := .loop (.seq (.seq ZpO ZpN) (.seq Zmk Zel))
def Zmm : ACode := .block 2 Zss
def ZiO : ACode := .block 1 (.seq ZpP Zmm)
def Zek : ACode := .reg (.op (some 9) (.mov (.tm 4)) (.op (some 10) (.bin .add (.tm 9) (.cn (.int .i64 1))) (.op (some 4) (.mov (.tm 10)) .nil)))
def Zsr : ACode := .loop (.seq (.seq ZpR ZpQ) (.seq ZiO Zek))
def Zg3 : ACode := .block 0 Zsr
def ZdB : ACode := .reg (.op (some 60) (.mov (.tm 3)) (.op (some 2) (.mov (.tm 60)) .nil))
def ZAg : ACode := (.seq ZpS (.seq Zmn (.seq (.seq ZjZ Zg3) (.seq ZdB .ret))))
def Zfl : Res := .one (.tm 2)
theorem ZqW : Zbj Try.prog 33 1 61 ZAg Zfl = true := by kernel_rfl
def Zfo : Zav := Zcl [Zjr] []
theorem ZdL : ZaK Try.prog Zfo := ZaL ⟨Zlo, trivial⟩ trivial
section
variable {w0 : World} {fp : Nat -> Nat -> Prop} {ρi : Rho} {Kf : SVal -> Heap -> Prop}
def ZwC (w0 : World) (fp : Nat -> Nat -> Prop) (ρi : Rho) (Kf : SVal -> Heap -> Prop) (ss : List Int) (ss_n ss_c : Nat) : ZaY := Zax 0 (fun e H => SemL Try.prog w0 fp ρi 1 61 [(.seq ZdB .ret)] e H (fnK Zfl 1 Kf)) (fnK Zfl 1 Kf)
def Zxa (ss : List Int) (ss_n ss_c : Nat) : Int × List Int -> Prop := fun s => match s with | (v4, h1) => 0 <= v4 /\ v4 <= 4 /\ h1.length = 16 /\ ∀ j : Nat, j < 16 -> (j : Int) < 4 * v4 -> h1.getD j 0 = (Zf5 ss).getD j 0
def Zvi (ss : List Int) (ss_n ss_c : Nat) : Int × List Int -> Nat := fun s => match s with | (v4, h1) => ((4 - v4).toNat)
def Zv8 (ss : List Int) (ss_n ss_c : Nat) : Int × List Int -> Env := fun s => match s with | (v4, h1) => [(0, some (.slice ⟨0, 0, 0, 1⟩ ss_n ss_c)), (3, some (.slice ⟨1, 0, 0, 1⟩ 16 16)), (4, some (.int .i64 v4))]
def ZvJ (ss : List Int) (ss_n ss_c : Nat) : Int × List Int -> Heap := fun s => match s with | (v4, h1) => ⟨2, [(0, some ⟨false, [.ints .u8 ss_n ss], 0⟩), (1, some ⟨true, [.ints .u8 16 h1], 0⟩)]⟩
def ZhB (w0 : World) (fp : Nat -> Nat -> Prop) (ρi : Rho) (Kf : SVal -> Heap -> Prop) (ss : List Int) (ss_n ss_c : Nat) (v4 : Int) (h1 : List Int) : ZaY := Zb2 1 (Zxa ss ss_n ss_c) (Zvi ss ss_n ss_c) (Zv8 ss ss_n ss_c) (ZvJ ss ss_n ss_c) (v4, h1) (ZwC w0 fp ρi Kf ss ss_n ss_c)
def ZlC (w0 : World) (fp : Nat -> Nat -> Prop) (ρi : Rho) (Kf : SVal -> Heap -> Prop) (ss : List Int) (ss_n ss_c : Nat) (v4 : Int) (h1 : List Int) : ZaY := Zax 1 (fun e H => SemL Try.prog w0 fp ρi 1 61 [Zek] e H (ZhB w0 fp ρi Kf ss ss_n ss_c v4 h1)) (ZhB w0 fp ρi Kf ss ss_n ss_c v4 h1)
def ZwB (w0 : World) (fp : Nat -> Nat -> Prop) (ρi : Rho) (Kf : SVal -> Heap -> Prop) (ss : List Int) (ss_n ss_c : Nat) (v4 : Int) (h1 : List Int) : ZaY := Zax 2 (fun e H => SemL Try.prog w0 fp ρi 1 61 [] e H (ZlC w0 fp ρi Kf ss ss_n ss_c v4 h1)) (ZlC w0 fp ρi Kf ss ss_n ss_c v4 h1)
def Zw9 (ss : List Int) (ss_n ss_c : Nat) (v4 : Int) (h1 : List Int) : Int × List Int -> Prop := fun s => match s with | (v5, aa) => 0 <= v5 /\ v5 <= 4 /\ aa.length = 16 /\ ∀ j : Nat, j < 16 -> (j : Int) < 4 * v4 + v5 -> aa.getD j 0 = (Zf5 ss).getD j 0
def Zvh (ss : List Int) (ss_n ss_c : Nat) (v4 : Int) (h1 : List Int) : Int × List Int -> Nat := fun s => match s with | (v5, aa) => ((4 - v5).toNat)
def Zv7 (ss : List Int) (ss_n ss_c : Nat) (v4 : Int) (h1 : List Int) : Int × List Int -> Env := fun s => match s with | (v5, aa) => [(0, some (.slice ⟨0, 0, 0, 1⟩ ss_n ss_c)), (3, some (.slice ⟨1, 0, 0, 1⟩ 16 16)), (4, some (.int .i64 v4)), (5, some (.int .i64 v5))]
def ZvI (ss : List Int) (ss_n ss_c : Nat) (v4 : Int) (h1 : List Int) : Int × List Int -> Heap := fun s => match s with | (v5, aa) => ⟨2, [(0, some ⟨false, [.ints .u8 ss_n ss], 0⟩), (1, some ⟨true, [.ints .u8 16 aa], 0⟩)]⟩
def ZhA (w0 : World) (fp : Nat -> Nat -> Prop) (ρi : Rho) (Kf : SVal -> Heap -> Prop) (ss : List Int) (ss_n ss_c : Nat) (v4 : Int) (h1 : List Int) (v5 : Int) (aa : List Int) : ZaY := Zb2 1 (Zw9 ss ss_n ss_c v4 h1) (Zvh ss ss_n ss_c v4 h1) (Zv7 ss ss_n ss_c v4 h1) (ZvI ss ss_n ss_c v4 h1) (v5, aa) (ZwB w0 fp ρi Kf ss ss_n ss_c v4 h1)
abbrev ZfS (x0 : Nat) (x1 x2 : List Int) : Heap := ⟨2, [(0, some ⟨false, [.ints .u8 x0 x1], 0⟩), (1, some ⟨true, [.ints .u8 16 x2], 0⟩)]⟩
abbrev ZAm (x0 x1 : Nat) (x2 x3 : Int) : Env := [(0, some (.slice ⟨0, 0, 0, 1⟩ x0 x1)), (3, some (.slice ⟨1, 0, 0, 1⟩ 16 16)), (4, some (.int .i64 x2)), (5, some (.int .i64 x3))]
theorem ZGt (ss : List Int) (ss_n ss_c : Nat) (v4 v5 : Int) (ad h1 aa : List Int) (Z : Env -> Heap -> Prop) (h : Z [(0, some (.slice ⟨0, 0, 0, 1⟩ ss_n ss_c)), (3, some (.slice ⟨1, 0, 0, 1⟩ 16 16)), (4, some (.int .i64 v4)), (5, some (.int .i64 (IntKind.i64.wrap (v5 + 1))))] (ZfS ss_n ss ad)) : EvC Zfo Zel (ZAm ss_n ss_c v4 v5) (ZfS ss_n ss ad) [0, 3, 4, 5] [0, 1] Z := EvC.of (by kernel_rfl) h
def Zt8 (ss : List Int) (ss_n ss_c : Nat) (v4 v5 : Int) (ad h1 aa : List Int) : Prop := (0 <= (IntKind.i64.wrap (v5 + 1)) /\ (IntKind.i64.wrap (v5 + 1)) <= 4 /\ ad.length = 16 /\ ∀ j : Nat, j < 16 -> (j : Int) < 4 * v4 + (IntKind.i64.wrap (v5 + 1)) -> ad.getD j 0 = (Zf5 ss).getD j 0) /\ (((4 - (IntKind.i64.wrap (v5 + 1))).toNat) < ((4 - v5).toNat))
theorem ZJg (ss : List Int) (ss_n ss_c : Nat) (hK : Zbn ss ss_n ss_c Kf) (v4 v5 : Int) (ad h1 aa : List Int) (h : Zt8 ss ss_n ss_c v4 v5 ad h1 aa) : SemL Try.prog w0 fp ρi 1 61 [Zel] (ZAm ss_n ss_c v4 v5) (ZfS ss_n ss ad) (ZhA w0 fp ρi Kf ss ss_n ss_c v4 h1 v5 aa) :=
  Zad ZdL (ZGt ss ss_n ss_c v4 v5 ad h1 aa _ (ZaO (Zay (x' := ((IntKind.i64.wrap (v5 + 1)), ad)) (τ := tau []) h.1 h.2 (Zao [] [0, 1] rfl rfl (esc bsl (esc bsl (esc pbd (esc pbd Zak)))) (hsc pcs (hsc pcs Zae)) (by kernel_rfl) rfl))))
def ZEs (w0 : World) (fp : Nat -> Nat -> Prop) (ρi : Rho) (Kf : SVal -> Heap -> Prop) (ss : List Int) (ss_n ss_c : Nat) (v4 : Int) (h1 : List Int) (v5 : Int) (aa : List Int) : ZaY := Zax 3 (fun e H => SemL Try.prog w0 fp ρi 1 61 [Zel] e H (ZhA w0 fp ρi Kf ss ss_n ss_c v4 h1 v5 aa)) (ZhA w0 fp ρi Kf ss ss_n ss_c v4 h1 v5 aa)
theorem ZGs (ss : List Int) (ss_n ss_c : Nat) (v4 v5 : Int) (aa h1 : List Int) (Z : Env -> Heap -> Prop) (h : ((0 <= (IntKind.i64.wrap (v5 + (IntKind.i64.wrap (4 * v4)))))) /\ (((IntKind.i64.wrap (v5 + (IntKind.i64.wrap (4 * v4)))) < ((ss_n : Nat) : Int))) /\ (((0 + (Int.toNat (IntKind.i64.wrap (v5 + (IntKind.i64.wrap (4 * v4)))))) < ss_n)) /\ (((4 : Int) ≠ 0)) /\ ((0 <= (IntKind.i64.wrap ((Int.tmod (IntKind.i64.wrap (v5 + 1)) 4) + (IntKind.i64.wrap (4 * v4)))))) /\ (((IntKind.i64.wrap ((Int.tmod (IntKind.i64.wrap (v5 + 1)) 4) + (IntKind.i64.wrap (4 * v4)))) < ((ss_n : Nat) : Int))) /\ (((0 + (Int.toNat (IntKind.i64.wrap ((Int.tmod (IntKind.i64.wrap (v5 + 1)) 4) + (IntKind.i64.wrap (4 * v4)))))) < ss_n)) /\ (((4 : Int) ≠ 0)) /\ ((0 <= (IntKind.i64.wrap ((Int.tmod (IntKind.i64.wrap (v5 + 2)) 4) + (IntKind.i64.wrap (4 * v4)))))) /\ (((IntKind.i64.wrap ((Int.tmod (IntKind.i64.wrap (v5 + 2)) 4) + (IntKind.i64.wrap (4 * v4)))) < ((ss_n : Nat) : Int))) /\ (((0 + (Int.toNat (IntKind.i64.wrap ((Int.tmod (IntKind.i64.wrap (v5 + 2)) 4) + (IntKind.i64.wrap (4 * v4)))))) < ss_n)) /\ (((4 : Int) ≠ 0)) /\ ((0 <= (IntKind.i64.wrap ((Int.tmod (IntKind.i64.wrap (v5 + 3)) 4) + (IntKind.i64.wrap (4 * v4)))))) /\ (((IntKind.i64.wrap ((Int.tmod (IntKind.i64.wrap (v5 + 3)) 4) + (IntKind.i64.wrap (4 * v4)))) < ((ss_n : Nat) : Int))) /\ (((0 + (Int.toNat (IntKind.i64.wrap ((Int.tmod (IntKind.i64.wrap (v5 + 3)) 4) + (IntKind.i64.wrap (4 * v4)))))) < ss_n)) /\ (((0 <= (2 : Int) /\ (2 : Int) < 256) /\ (0 <= (List.getD ss (0 + (Int.toNat (IntKind.i64.wrap (v5 + (IntKind.i64.wrap (4 * v4)))))) 0) /\ (List.getD ss (0 + (Int.toNat (IntKind.i64.wrap (v5 + (IntKind.i64.wrap (4 * v4)))))) 0) < 256))) /\ ((Zby (ZfS ss_n ss aa) (Heap.keep (ZfS ss_n ss aa) [0]) (ZbG [0] (ZfS ss_n ss aa)))) /\ (((0 <= (3 : Int) /\ (3 : Int) < 256) /\ (0 <= (List.getD ss (0 + (Int.toNat (IntKind.i64.wrap ((Int.tmod (IntKind.i64.wrap (v5 + 1)) 4) + (IntKind.i64.wrap (4 * v4)))))) 0) /\ (List.getD ss (0 + (Int.toNat (IntKind.i64.wrap ((Int.tmod (IntKind.i64.wrap (v5 + 1)) 4) + (IntKind.i64.wrap (4 * v4)))))) 0) < 256))) /\ ((Zby (ZfS ss_n ss aa) (Heap.keep (ZfS ss_n ss aa) [0]) (ZbG [0] (ZfS ss_n ss aa)))) /\ ((0 <= (IntKind.i64.wrap (v5 + (IntKind.i64.wrap (4 * v4)))))) /\ (((IntKind.i64.wrap (v5 + (IntKind.i64.wrap (4 * v4)))) < 16)) /\ (((0 + (Int.toNat (IntKind.i64.wrap (v5 + (IntKind.i64.wrap (4 * v4)))))) < 16)) /\ (((0 + (Int.toNat (IntKind.i64.wrap (v5 + (IntKind.i64.wrap (4 * v4)))))) < List.length aa)) /\ Z (ZAm ss_n ss_c v4 v5) ⟨2, [(0, some ⟨false, [.ints .u8 ss_n ss], 0⟩), (1, some ⟨true, [.ints .u8 16 (List.set aa (0 + (Int.toNat (IntKind.i64.wrap (v5 + (IntKind.i64.wrap (4 * v4)))))) (Zar .u8 (Zar .u8 (Zar .u8 (Zb1 (2 : Int) (List.getD ss (0 + (Int.toNat (IntKind.i64.wrap (v5 + (IntKind.i64.wrap (4 * v4)))))) 0)) (Zb1 (3 : Int) (List.getD ss (0 + (Int.toNat (IntKind.i64.wrap ((Int.tmod (IntKind.i64.wrap (v5 + 1)) 4) + (IntKind.i64.wrap (4 * v4)))))) 0))) (List.getD ss (0 + (Int.toNat (IntKind.i64.wrap ((Int.tmod (IntKind.i64.wrap (v5 + 2)) 4) + (IntKind.i64.wrap (4 * v4)))))) 0)) (List.getD ss (0 + (Int.toNat (IntKind.i64.wrap ((Int.tmod (IntKind.i64.wrap (v5 + 3)) 4) + (IntKind.i64.wrap (4 * v4)))))) 0)))], 0⟩)]⟩) : EvNC Zfo Zml [[], [], [], [], [], [], [], [], [], [], [], [0], [], [], [], [], [], [], [], [], [], [], [], [], [], [], [], [], [], [], [], [], [], [], [], [], [], [], [], [], [], [], [], [], [], []] (ZAm ss_n ss_c v4 v5) (ZfS ss_n ss aa) [0, 3, 4, 5] [0, 1] Z := EvNC.of (by kernel_rfl) h
def Zrq (ss : List Int) (ss_n ss_c : Nat) (v4 v5 : Int) (aa h1 : List Int) : Prop := ((0 <= (IntKind.i64.wrap (v5 + (IntKind.i64.wrap (4 * v4)))))) /\ ((((IntKind.i64.wrap (v5 + (IntKind.i64.wrap (4 * v4)))) < ((ss_n : Nat) : Int))) /\ ((((0 + (Int.toNat (IntKind.i64.wrap (v5 + (IntKind.i64.wrap (4 * v4)))))) < ss_n)) /\ (((0 <= (IntKind.i64.wrap ((Int.tmod (IntKind.i64.wrap (v5 + 1)) 4) + (IntKind.i64.wrap (4 * v4)))))) /\ ((((IntKind.i64.wrap ((Int.tmod (IntKind.i64.wrap (v5 + 1)) 4) + (IntKind.i64.wrap (4 * v4)))) < ((ss_n : Nat) : Int))) /\ ((((0 + (Int.toNat (IntKind.i64.wrap ((Int.tmod (IntKind.i64.wrap (v5 + 1)) 4) + (IntKind.i64.wrap (4 * v4)))))) < ss_n)) /\ (((0 <= (IntKind.i64.wrap ((Int.tmod (IntKind.i64.wrap (v5 + 2)) 4) + (IntKind.i64.wrap (4 * v4)))))) /\ ((((IntKind.i64.wrap ((Int.tmod (IntKind.i64.wrap (v5 + 2)) 4) + (IntKind.i64.wrap (4 * v4)))) < ((ss_n : Nat) : Int))) /\ ((((0 + (Int.toNat (IntKind.i64.wrap ((Int.tmod (IntKind.i64.wrap (v5 + 2)) 4) + (IntKind.i64.wrap (4 * v4)))))) < ss_n)) /\ (((0 <= (IntKind.i64.wrap ((Int.tmod (IntKind.i64.wrap (v5 + 3)) 4) + (IntKind.i64.wrap (4 * v4)))))) /\ ((((IntKind.i64.wrap ((Int.tmod (IntKind.i64.wrap (v5 + 3)) 4) + (IntKind.i64.wrap (4 * v4)))) < ((ss_n : Nat) : Int))) /\ ((((0 + (Int.toNat (IntKind.i64.wrap ((Int.tmod (IntKind.i64.wrap (v5 + 3)) 4) + (IntKind.i64.wrap (4 * v4)))))) < ss_n)) /\ ((((0 <= (2 : Int) /\ (2 : Int) < 256) /\ (0 <= (List.getD ss (0 + (Int.toNat (IntKind.i64.wrap (v5 + (IntKind.i64.wrap (4 * v4)))))) 0) /\ (List.getD ss (0 + (Int.toNat (IntKind.i64.wrap (v5 + (IntKind.i64.wrap (4 * v4)))))) 0) < 256))) /\ ((((0 <= (3 : Int) /\ (3 : Int) < 256) /\ (0 <= (List.getD ss (0 + (Int.toNat (IntKind.i64.wrap ((Int.tmod (IntKind.i64.wrap (v5 + 1)) 4) + (IntKind.i64.wrap (4 * v4)))))) 0) /\ (List.getD ss (0 + (Int.toNat (IntKind.i64.wrap ((Int.tmod (IntKind.i64.wrap (v5 + 1)) 4) + (IntKind.i64.wrap (4 * v4)))))) 0) < 256))) /\ (((0 <= (IntKind.i64.wrap (v5 + (IntKind.i64.wrap (4 * v4)))))) /\ ((((IntKind.i64.wrap (v5 + (IntKind.i64.wrap (4 * v4)))) < 16)) /\ ((((0 + (Int.toNat (IntKind.i64.wrap (v5 + (IntKind.i64.wrap (4 * v4)))))) < 16)) /\ ((((0 + (Int.toNat (IntKind.i64.wrap (v5 + (IntKind.i64.wrap (4 * v4)))))) < List.length aa)) /\ (∀ ad : List Int, ad = (List.set aa (0 + (Int.toNat (IntKind.i64.wrap (v5 + (IntKind.i64.wrap (4 * v4)))))) (Zar .u8 (Zar .u8 (Zar .u8 (Zb1 (2 : Int) (List.getD ss (0 + (Int.toNat (IntKind.i64.wrap (v5 + (IntKind.i64.wrap (4 * v4)))))) 0)) (Zb1 (3 : Int) (List.getD ss (0 + (Int.toNat (IntKind.i64.wrap ((Int.tmod (IntKind.i64.wrap (v5 + 1)) 4) + (IntKind.i64.wrap (4 * v4)))))) 0))) (List.getD ss (0 + (Int.toNat (IntKind.i64.wrap ((Int.tmod (IntKind.i64.wrap (v5 + 2)) 4) + (IntKind.i64.wrap (4 * v4)))))) 0)) (List.getD ss (0 + (Int.toNat (IntKind.i64.wrap ((Int.tmod (IntKind.i64.wrap (v5 + 3)) 4) + (IntKind.i64.wrap (4 * v4)))))) 0))) -> Zt8 ss ss_n ss_c v4 v5 ad h1 aa))))))))))))))))))
theorem ZJf (ss : List Int) (ss_n ss_c : Nat) (hK : Zbn ss ss_n ss_c Kf) (v4 v5 : Int) (aa h1 : List Int) (h : Zrq ss ss_n ss_c v4 v5 aa h1) : SemL Try.prog w0 fp ρi 1 61 [ZxW] (ZAm ss_n ss_c v4 v5) (ZfS ss_n ss aa) (ZEs w0 fp ρi Kf ss ss_n ss_c v4 h1 v5 aa) :=
  Zcf ZdL (steps := Zml) (ZGs ss ss_n ss_c v4 v5 aa h1 _ ⟨h.1, ⟨h.2.1, ⟨h.2.2.1, ⟨(by decide), ⟨h.2.2.2.1, ⟨h.2.2.2.2.1, ⟨h.2.2.2.2.2.1, ⟨(by decide), ⟨h.2.2.2.2.2.2.1, ⟨h.2.2.2.2.2.2.2.1, ⟨h.2.2.2.2.2.2.2.2.1, ⟨(by decide), ⟨h.2.2.2.2.2.2.2.2.2.1, ⟨h.2.2.2.2.2.2.2.2.2.2.1, ⟨h.2.2.2.2.2.2.2.2.2.2.2.1, ⟨h.2.2.2.2.2.2.2.2.2.2.2.2.1, ⟨Zf6, ⟨h.2.2.2.2.2.2.2.2.2.2.2.2.2.1, ⟨Zf6, ⟨h.2.2.2.2.2.2.2.2.2.2.2.2.2.2.1, ⟨h.2.2.2.2.2.2.2.2.2.2.2.2.2.2.2.1, ⟨h.2.2.2.2.2.2.2.2.2.2.2.2.2.2.2.2.1, ⟨h.2.2.2.2.2.2.2.2.2.2.2.2.2.2.2.2.2.1, (ZaO (ZJg ss ss_n ss_c hK v4 v5 (List.set aa (0 + (Int.toNat (IntKind.i64.wrap (v5 + (IntKind.i64.wrap (4 * v4)))))) (Zar .u8 (Zar .u8 (Zar .u8 (Zb1 (2 : Int) (List.getD ss (0 + (Int.toNat (IntKind.i64.wrap (v5 + (IntKind.i64.wrap (4 * v4)))))) 0)) (Zb1 (3 : Int) (List.getD ss (0 + (Int.toNat (IntKind.i64.wrap ((Int.tmod (IntKind.i64.wrap (v5 + 1)) 4) + (IntKind.i64.wrap (4 * v4)))))) 0))) (List.getD ss (0 + (Int.toNat (IntKind.i64.wrap ((Int.tmod (IntKind.i64.wrap (v5 + 2)) 4) + (IntKind.i64.wrap (4 * v4)))))) 0)) (List.getD ss (0 + (Int.toNat (IntKind.i64.wrap ((Int.tmod (IntKind.i64.wrap (v5 + 3)) 4) + (IntKind.i64.wrap (4 * v4)))))) 0))) h1 aa (h.2.2.2.2.2.2.2.2.2.2.2.2.2.2.2.2.2.2 (List.set aa (0 + (Int.toNat (IntKind.i64.wrap (v5 + (IntKind.i64.wrap (4 * v4)))))) (Zar .u8 (Zar .u8 (Zar .u8 (Zb1 (2 : Int) (List.getD ss (0 + (Int.toNat (IntKind.i64.wrap (v5 + (IntKind.i64.wrap (4 * v4)))))) 0)) (Zb1 (3 : Int) (List.getD ss (0 + (Int.toNat (IntKind.i64.wrap ((Int.tmod (IntKind.i64.wrap (v5 + 1)) 4) + (IntKind.i64.wrap (4 * v4)))))) 0))) (List.getD ss (0 + (Int.toNat (IntKind.i64.wrap ((Int.tmod (IntKind.i64.wrap (v5 + 2)) 4) + (IntKind.i64.wrap (4 * v4)))))) 0)) (List.getD ss (0 + (Int.toNat (IntKind.i64.wrap ((Int.tmod (IntKind.i64.wrap (v5 + 3)) 4) + (IntKind.i64.wrap (4 * v4)))))) 0))) rfl)))⟩⟩⟩⟩⟩⟩⟩⟩⟩⟩⟩⟩⟩⟩⟩⟩⟩⟩⟩⟩⟩⟩⟩)
theorem ZJe (ss : List Int) (ss_n ss_c : Nat) (hK : Zbn ss ss_n ss_c Kf) (v4 v5 : Int) (aa h1 : List Int) (h : Zrq ss ss_n ss_c v4 v5 aa h1) : SemL Try.prog w0 fp ρi 1 61 [Zmk, Zel] (ZAm ss_n ss_c v4 v5) (ZfS ss_n ss aa) (ZhA w0 fp ρi Kf ss ss_n ss_c v4 h1 v5 aa) :=
  Zat (ZJf ss ss_n ss_c hK v4 v5 aa h1 h)
abbrev ZEK (x0 x1 : Nat) (x2 : Int) : Env := [(0, some (.slice ⟨0, 0, 0, 1⟩ x0 x1)), (3, some (.slice ⟨1, 0, 0, 1⟩ 16 16)), (4, some (.int .i64 x2))]
theorem ZGr (ss : List Int) (ss_n ss_c : Nat) (v4 : Int) (aa h1 : List Int) (Z : Env -> Heap -> Prop) (h : Z [(0, some (.slice ⟨0, 0, 0, 1⟩ ss_n ss_c)), (3, some (.slice ⟨1, 0, 0, 1⟩ 16 16)), (4, some (.int .i64 (IntKind.i64.wrap (v4 + 1))))] (ZfS ss_n ss aa)) : EvC Zfo Zek (ZEK ss_n ss_c v4) (ZfS ss_n ss aa) [0, 3, 4] [0, 1] Z := EvC.of (by kernel_rfl) h
def Zt7 (ss : List Int) (ss_n ss_c : Nat) (v4 : Int) (aa h1 : List Int) : Prop := (0 <= (IntKind.i64.wrap (v4 + 1)) /\ (IntKind.i64.wrap (v4 + 1)) <= 4 /\ aa.length = 16 /\ ∀ j : Nat, j < 16 -> (j : Int) < 4 * (IntKind.i64.wrap (v4 + 1)) -> aa.getD j 0 = (Zf5 ss).getD j 0) /\ (((4 - (IntKind.i64.wrap (v4 + 1))).toNat) < ((4 - v4).toNat))
theorem ZJd (ss : List Int) (ss_n ss_c : Nat) (hK : Zbn ss ss_n ss_c Kf) (v4 : Int) (aa h1 : List Int) (h : Zt7 ss ss_n ss_c v4 aa h1) : SemL Try.prog w0 fp ρi 1 61 [Zek] (ZEK ss_n ss_c v4) (ZfS ss_n ss aa) (ZhB w0 fp ρi Kf ss ss_n ss_c v4 h1) :=
  Zad ZdL (ZGr ss ss_n ss_c v4 aa h1 _ (ZaO (Zay (x' := ((IntKind.i64.wrap (v4 + 1)), aa)) (τ := tau []) h.1 h.2 (Zao [] [0, 1] rfl rfl (esc bsl (esc bsl (esc pbd Zak))) (hsc pcs (hsc pcs Zae)) (by kernel_rfl) rfl))))
def Zrp (ss : List Int) (ss_n ss_c : Nat) (v4 v5 : Int) (aa h1 : List Int) : Prop := ((decide (v5 < 4)) = true -> (Zrq ss ss_n ss_c v4 v5 aa h1)) /\ ((decide (v5 < 4)) = false -> (Zt7 ss ss_n ss_c v4 aa h1))
abbrev ZOJ (x0 x1 : Nat) (x2 x3 : Int) : Env := [(0, some (.slice ⟨0, 0, 0, 1⟩ x0 x1)), (3, some (.slice ⟨1, 0, 0, 1⟩ 16 16)), (4, some (.int .i64 x2)), (5, some (.int .i64 x3)), (12, some (.bool (decide (x3 < 4))))]
theorem ZJc (ss : List Int) (ss_n ss_c : Nat) (hK : Zbn ss ss_n ss_c Kf) (v4 v5 : Int) (aa h1 : List Int) (h : Zrp ss ss_n ss_c v4 v5 aa h1) : SemL Try.prog w0 fp ρi 1 61 [ZpN, (.seq Zmk Zel)] (ZOJ ss_n ss_c v4 v5) (ZfS ss_n ss aa) (ZhA w0 fp ρi Kf ss ss_n ss_c v4 h1 v5 aa) :=
  ZaJ (q := (decide (v5 < 4))) (by kernel_rfl) (fun hq => (ZaI (lpk [0, 3, 4, 5] [0, 1] (Zah (ZJe ss ss_n ss_c hK v4 v5 aa h1 (h.1 hq)))))) (fun hq => (Zbb (lpk [0, 3, 4] [0, 1] (ZaO (P := Try.prog) (w0 := w0) (fp := fp) (ρi := ρi) (n0 := 1) (nt := 61) (ZJd ss ss_n ss_c hK v4 aa h1 (h.2 hq))))))
theorem ZGq (ss : List Int) (ss_n ss_c : Nat) (v4 v5 : Int) (aa h1 : List Int) (Z : Env -> Heap -> Prop) (h : Z (ZOJ ss_n ss_c v4 v5) (ZfS ss_n ss aa)) : EvC Zfo ZpO (ZAm ss_n ss_c v4 v5) (ZfS ss_n ss aa) [0, 3, 4, 5, 12] [0, 1] Z := EvC.of (by kernel_rfl) h
theorem ZJb (ss : List Int) (ss_n ss_c : Nat) (hK : Zbn ss ss_n ss_c Kf) (v4 v5 : Int) (aa h1 : List Int) (h : Zrp ss ss_n ss_c v4 v5 aa h1) : SemL Try.prog w0 fp ρi 1 61 [ZpO, ZpN, (.seq Zmk Zel)] (ZAm ss_n ss_c v4 v5) (ZfS ss_n ss aa) (ZhA w0 fp ρi Kf ss ss_n ss_c v4 h1 v5 aa) :=
  Zad ZdL (ZGq ss ss_n ss_c v4 v5 aa h1 _ (ZJc ss ss_n ss_c hK v4 v5 aa h1 h))
def Zkv (ss : List Int) (ss_n ss_c : Nat) (v4 : Int) (h1 : List Int) : Prop := (0 <= (0 : Int) /\ (0 : Int) <= 4 /\ h1.length = 16 /\ ∀ j : Nat, j < 16 -> (j : Int) < 4 * v4 + (0 : Int) -> h1.getD j 0 = (Zf5 ss).getD j 0) /\ (∀ (v5 : Int) (aa : List Int), (0 <= v5 /\ v5 <= 4 /\ aa.length = 16 /\ ∀ j : Nat, j < 16 -> (j : Int) < 4 * v4 + v5 -> aa.getD j 0 = (Zf5 ss).getD j 0) -> (Zrp ss ss_n ss_c v4 v5 aa h1))
abbrev ZNG (x0 x1 : Nat) (x2 : Int) : Env := [(0, some (.slice ⟨0, 0, 0, 1⟩ x0 x1)), (3, some (.slice ⟨1, 0, 0, 1⟩ 16 16)), (4, some (.int .i64 x2)), (5, some (.int .i64 0))]
theorem ZJa (ss : List Int) (ss_n ss_c : Nat) (hK : Zbn ss ss_n ss_c Kf) (v4 : Int) (h1 : List Int) (h : Zkv ss ss_n ss_c v4 h1) : SemL Try.prog w0 fp ρi 1 61 [Zss] (ZNG ss_n ss_c v4) (ZfS ss_n ss h1) (ZwB w0 fp ρi Kf ss ss_n ss_c v4 h1) :=
  Zbd (Zw9 ss ss_n ss_c v4 h1) (Zvh ss ss_n ss_c v4 h1) (Zv7 ss ss_n ss_c v4 h1) (ZvI ss ss_n ss_c v4 h1) ⟨(0, h1), tau [], h.1, (Zao [] [0, 1] rfl rfl (esc bsl (esc bsl (esc pbd (esc pbd Zak)))) (hsc pcs (hsc pcs Zae)) (by kernel_rfl) rfl)⟩ (fun s => match s with | (v5, aa) => fun hi => (Zah (Zah (ZJb ss ss_n ss_c hK v4 v5 aa h1 (h.2 v5 aa hi)))))
theorem ZI9 (ss : List Int) (ss_n ss_c : Nat) (hK : Zbn ss ss_n ss_c Kf) (v4 : Int) (h1 : List Int) (h : Zkv ss ss_n ss_c v4 h1) : SemL Try.prog w0 fp ρi 1 61 [Zmm] (ZNG ss_n ss_c v4) (ZfS ss_n ss h1) (ZlC w0 fp ρi Kf ss ss_n ss_c v4 h1) :=
  Zat (ZJa ss ss_n ss_c hK v4 h1 h)
theorem ZGp (ss : List Int) (ss_n ss_c : Nat) (v4 : Int) (h1 : List Int) (Z : Env -> Heap -> Prop) (h : Z (ZNG ss_n ss_c v4) (ZfS ss_n ss h1)) : EvC Zfo ZpP (ZEK ss_n ss_c v4) (ZfS ss_n ss h1) [0, 3, 4, 5] [0, 1] Z := EvC.of (by kernel_rfl) h
theorem ZI8 (ss : List Int) (ss_n ss_c : Nat) (hK : Zbn ss ss_n ss_c Kf) (v4 : Int) (h1 : List Int) (h : Zkv ss ss_n ss_c v4 h1) : SemL Try.prog w0 fp ρi 1 61 [ZpP, Zmm] (ZEK ss_n ss_c v4) (ZfS ss_n ss h1) (ZlC w0 fp ρi Kf ss ss_n ss_c v4 h1) :=
  Zad ZdL (ZGp ss ss_n ss_c v4 h1 _ (ZI9 ss ss_n ss_c hK v4 h1 h))
theorem ZI7 (ss : List Int) (ss_n ss_c : Nat) (hK : Zbn ss ss_n ss_c Kf) (v4 : Int) (h1 : List Int) (h : Zkv ss ss_n ss_c v4 h1) : SemL Try.prog w0 fp ρi 1 61 [ZiO, Zek] (ZEK ss_n ss_c v4) (ZfS ss_n ss h1) (ZhB w0 fp ρi Kf ss ss_n ss_c v4 h1) :=
  Zat (Zah (ZI8 ss ss_n ss_c hK v4 h1 h))
abbrev ZOI : Env := [(2, some (.slice ⟨1, 0, 0, 1⟩ 16 16))]
abbrev ZOH : Env := [(3, some (.slice ⟨1, 0, 0, 1⟩ 16 16))]
theorem ZA8 (ss : List Int) (ss_n ss_c : Nat) (h1 : List Int) (Z : Env -> Heap -> Prop) (h : Z ZOI (ZfS ss_n ss h1)) : EvC Zfo ZdB ZOH (ZfS ss_n ss h1) [2] [0, 1] Z := EvC.of (by kernel_rfl) h
theorem ZB0 (ss : List Int) (ss_n ss_c : Nat) (h1 : List Int) : RetC Zfl ZOI (ZfS ss_n ss h1) (.slice ⟨1, 0, 0, 1⟩ 16 16) := RetC.of (fun Z => by kernel_rfl)
def ZoE (ss : List Int) (ss_n ss_c : Nat) (h1 : List Int) : Prop := ((16 : Nat) = 16) /\ (h1 = (Zf5 ss)) /\ ((16 : Nat) = 16) /\ (0 = (16 - 16)) /\ ((16 : Nat) <= 16)
theorem ZC2 (ss : List Int) (ss_n ss_c : Nat) (hK : Zbn ss ss_n ss_c Kf) (h1 : List Int) (h : ZoE ss ss_n ss_c h1) : SemL Try.prog w0 fp ρi 1 61 [ZdB, .ret] ZOH (ZfS ss_n ss h1) (fnK Zfl 1 Kf) :=
  Zad ZdL (ZA8 ss ss_n ss_c h1 _ (Zbv (R := Zfl) (m := 1) (Kf := Kf) (fun _ _ h => h) (ZB0 ss ss_n ss_c h1) (Zb4 (Eq.mpr (cg4 (fun (z1 : Nat) (z2 : List Int) (z3 z4 : Nat) => Zkj 1 Kf (.slice ⟨1, 0, 0, 1⟩ z1 16) ⟨2, [(0, some ⟨false, [.ints .u8 ss_n ss], 0⟩), (1, some ⟨true, [.ints .u8 z3 z2], z4⟩)]⟩) h.1 h.2.1 h.2.2.1 h.2.2.2.1) (Zbm [] [1, 0] rfl (by kernel_rfl) rfl bsl (hsc pcs (hsc pcs Zae)) rfl (by kernel_rfl) (hK 16 h.2.2.2.2))))))
def Zlb (ss : List Int) (ss_n ss_c : Nat) (v4 : Int) (h1 : List Int) : Prop := ((decide (v4 < 4)) = true -> (Zkv ss ss_n ss_c v4 h1)) /\ ((decide (v4 < 4)) = false -> (ZoE ss ss_n ss_c h1))
abbrev ZOG (x0 x1 : Nat) (x2 : Int) : Env := [(0, some (.slice ⟨0, 0, 0, 1⟩ x0 x1)), (3, some (.slice ⟨1, 0, 0, 1⟩ 16 16)), (4, some (.int .i64 x2)), (8, some (.bool (decide (x2 < 4))))]
theorem ZC1 (ss : List Int) (ss_n ss_c : Nat) (hK : Zbn ss ss_n ss_c Kf) (v4 : Int) (h1 : List Int) (h : Zlb ss ss_n ss_c v4 h1) : SemL Try.prog w0 fp ρi 1 61 [ZpQ, (.seq ZiO Zek)] (ZOG ss_n ss_c v4) (ZfS ss_n ss h1) (ZhB w0 fp ρi Kf ss ss_n ss_c v4 h1) :=
  ZaJ (q := (decide (v4 < 4))) (by kernel_rfl) (fun hq => (ZaI (lpk [0, 3, 4] [0, 1] (Zah (ZI7 ss ss_n ss_c hK v4 h1 (h.1 hq)))))) (fun hq => (Zbb (lpk [3] [0, 1] (Zah (ZC2 ss ss_n ss_c hK h1 (h.2 hq))))))
theorem ZA7 (ss : List Int) (ss_n ss_c : Nat) (v4 : Int) (h1 : List Int) (Z : Env -> Heap -> Prop) (h : Z (ZOG ss_n ss_c v4) (ZfS ss_n ss h1)) : EvC Zfo ZpR (ZEK ss_n ss_c v4) (ZfS ss_n ss h1) [0, 3, 4, 8] [0, 1] Z := EvC.of (by kernel_rfl) h
theorem ZC0 (ss : List Int) (ss_n ss_c : Nat) (hK : Zbn ss ss_n ss_c Kf) (v4 : Int) (h1 : List Int) (h : Zlb ss ss_n ss_c v4 h1) : SemL Try.prog w0 fp ρi 1 61 [ZpR, ZpQ, (.seq ZiO Zek)] (ZEK ss_n ss_c v4) (ZfS ss_n ss h1) (ZhB w0 fp ρi Kf ss ss_n ss_c v4 h1) :=
  Zad ZdL (ZA7 ss ss_n ss_c v4 h1 _ (ZC1 ss ss_n ss_c hK v4 h1 h))
def ZeT (ss : List Int) (ss_n ss_c : Nat) : Prop := (0 <= (0 : Int) /\ (0 : Int) <= 4 /\ (List.replicate 16 0).length = 16 /\ ∀ j : Nat, j < 16 -> (j : Int) < 4 * (0 : Int) -> (List.replicate 16 0).getD j 0 = (Zf5 ss).getD j 0) /\ (∀ (v4 : Int) (h1 : List Int), (0 <= v4 /\ v4 <= 4 /\ h1.length = 16 /\ ∀ j : Nat, j < 16 -> (j : Int) < 4 * v4 -> h1.getD j 0 = (Zf5 ss).getD j 0) -> (Zlb ss ss_n ss_c v4 h1))
abbrev ZNF (x0 x1 : Nat) : Env := [(0, some (.slice ⟨0, 0, 0, 1⟩ x0 x1)), (3, some (.slice ⟨1, 0, 0, 1⟩ 16 16)), (4, some (.int .i64 0))]
abbrev ZE7 (x0 : Nat) (x1 : List Int) : Heap := ⟨2, [(0, some ⟨false, [.ints .u8 x0 x1], 0⟩), (1, some ⟨true, [.ints .u8 16 (List.replicate 16 0)], 0⟩)]⟩
theorem ZCZ (ss : List Int) (ss_n ss_c : Nat) (hK : Zbn ss ss_n ss_c Kf) (h : ZeT ss ss_n ss_c) : SemL Try.prog w0 fp ρi 1 61 [Zsr] (ZNF ss_n ss_c) (ZE7 ss_n ss) (ZwC w0 fp ρi Kf ss ss_n ss_c) :=
  Zbd (Zxa ss ss_n ss_c) (Zvi ss ss_n ss_c) (Zv8 ss ss_n ss_c) (ZvJ ss ss_n ss_c) ⟨(0, (List.replicate 16 0)), tau [], h.1, (Zao [] [0, 1] rfl rfl (esc bsl (esc bsl (esc pbd Zak))) (hsc pcs (hsc pcs Zae)) (by kernel_rfl) rfl)⟩ (fun s => match s with | (v4, h1) => fun hi => (Zah (Zah (ZC0 ss ss_n ss_c hK v4 h1 (h.2 v4 h1 hi)))))
theorem ZCY (ss : List Int) (ss_n ss_c : Nat) (hK : Zbn ss ss_n ss_c Kf) (h : ZeT ss ss_n ss_c) : SemL Try.prog w0 fp ρi 1 61 [Zg3, (.seq ZdB .ret)] (ZNF ss_n ss_c) (ZE7 ss_n ss) (fnK Zfl 1 Kf) :=
  Zat (ZCZ ss ss_n ss_c hK h)
abbrev ZNE (x0 x1 : Nat) : Env := [(0, some (.slice ⟨0, 0, 0, 1⟩ x0 x1)), (3, some (.slice ⟨1, 0, 0, 1⟩ 16 16))]
theorem ZA6 (ss : List Int) (ss_n ss_c : Nat) (Z : Env -> Heap -> Prop) (h : Z (ZNF ss_n ss_c) (ZE7 ss_n ss)) : EvC Zfo ZjZ (ZNE ss_n ss_c) (ZE7 ss_n ss) [0, 3, 4] [0, 1] Z := EvC.of (by kernel_rfl) h
theorem ZCX (ss : List Int) (ss_n ss_c : Nat) (hK : Zbn ss ss_n ss_c Kf) (h : ZeT ss ss_n ss_c) : SemL Try.prog w0 fp ρi 1 61 [ZjZ, Zg3, (.seq ZdB .ret)] (ZNE ss_n ss_c) (ZE7 ss_n ss) (fnK Zfl 1 Kf) :=
  Zad ZdL (ZA6 ss ss_n ss_c _ (ZCY ss ss_n ss_c hK h))
abbrev ZE6 (x0 x1 : Nat) : Env := [(0, some (.slice ⟨0, 0, 0, 1⟩ x0 x1))]
abbrev ZE5 (x0 : Nat) (x1 : List Int) : Heap := ⟨1, [(0, some ⟨false, [.ints .u8 x0 x1], 0⟩)]⟩
theorem ZA5 (ss : List Int) (ss_n ss_c : Nat) (Z : Env -> Heap -> Prop) (h : (((0 : Int) <= 16)) /\ (((16 : Int) <= 16)) /\ (((16 : Int) <= 1048576)) /\ Z (ZNE ss_n ss_c) (ZE7 ss_n ss)) : EvC Zfo Zmn (ZE6 ss_n ss_c) (ZE5 ss_n ss) [0, 3] [0, 1] Z := EvC.of (by kernel_rfl) h
theorem ZCW (ss : List Int) (ss_n ss_c : Nat) (hK : Zbn ss ss_n ss_c Kf) (h : ZeT ss ss_n ss_c) : SemL Try.prog w0 fp ρi 1 61 [Zmn, (.seq (.seq ZjZ Zg3) (.seq ZdB .ret))] (ZE6 ss_n ss_c) (ZE5 ss_n ss) (fnK Zfl 1 Kf) :=
  Zad ZdL (ZA5 ss ss_n ss_c _ ⟨(by decide), ⟨(by decide), ⟨(by decide), (Zah (Zah (ZCX ss ss_n ss_c hK h)))⟩⟩⟩)
theorem ZA4 (ss : List Int) (ss_n ss_c : Nat) (Z : Env -> Heap -> Prop) (h : Z (ZE6 ss_n ss_c) (ZE5 ss_n ss)) : EvC Zfo ZpS (ZE6 ss_n ss_c) (ZE5 ss_n ss) [0] [0] Z := EvC.of (by kernel_rfl) h
theorem ZCV (ss : List Int) (ss_n ss_c : Nat) (hK : Zbn ss ss_n ss_c Kf) (h : ZeT ss ss_n ss_c) : SemL Try.prog w0 fp ρi 1 61 [ZpS, (.seq Zmn (.seq (.seq ZjZ Zg3) (.seq ZdB .ret)))] (ZE6 ss_n ss_c) (ZE5 ss_n ss) (fnK Zfl 1 Kf) :=
  Zad ZdL (ZA4 ss ss_n ss_c _ (Zah (ZCW ss ss_n ss_c hK h)))
theorem ZFl (ss : List Int) (ss_n ss_c : Nat) (hK : Zbn ss ss_n ss_c Kf) (h : ZeT ss ss_n ss_c) : SemL Try.prog w0 fp ρi 1 61 [ZAg] (ZE6 ss_n ss_c) (ZE5 ss_n ss) (fnK Zfl 1 Kf) :=
  (Zah (ZCV ss ss_n ss_c hK h))
end
theorem ZEj (ss : List Int) (ss_n ss_c : Nat) (hpre : (Zaz ss /\ ss_n = 16 /\ 16 <= ss_c)) : ZeT ss ss_n ss_c := by
  unfold ZeT Zlb ZoE Zkv Zrp Zt7 Zrq Zt8
  obtain ⟨hs, rfl, hsc⟩ := hpre
  refine ⟨⟨by omega, by omega, by simp, fun j hj h => by omega⟩, ?_⟩
  rintro v4 h2 ⟨i0, i1, i2, i3⟩
  refine ⟨fun hlt => ?_, fun hge => ?_⟩
  · have hlt := of_decide_eq_true hlt
    refine ⟨⟨by omega, by omega, i2, fun j hj h => i3 j hj (by omega)⟩, ?_⟩
    rintro v5 h3 ⟨k0, k1, k2, k3⟩
    refine ⟨fun hlt2 => ?_, fun hge2 => ?_⟩
    · have hlt2 := of_decide_eq_true hlt2
      obtain ⟨c, rfl⟩ := Int.eq_ofNat_of_zero_le i0
      obtain ⟨r, rfl⟩ := Int.eq_ofNat_of_zero_le k0
      have w1 : IntKind.i64.wrap (((r : Nat) : Int) + 1) = ((r + 1 : Nat) : Int) := by rw [ZdQ]; omega
      obtain ⟨e1, e2, e3⟩ := ixm r (by omega) c (by omega)
      have e0 := ixw r (by omega) c (by omega)
      simp only [e0, e1, e2, e3, Int.toNat_natCast, Nat.zero_add]
      rw [w1]
      refine ⟨by omega, by omega, by omega, by omega, by omega, by omega, by omega, by omega, by omega, by omega, by omega, by omega, ⟨by omega, Zob hs.2 _⟩, ⟨by omega, Zob hs.2 _⟩, by omega, by omega, by omega, by omega, ?_⟩
      rintro h4 rfl
      refine ⟨⟨by omega, by omega, by rw [List.length_set]; exact k2, fun j hj h => ?_⟩, by omega⟩
      rw [Zca (by omega)]
      split
      · rename_i hji
        subst hji
        exact ZEo hs (by omega) (by omega)
      · exact k3 j hj (by omega)
    · have hge2 := of_decide_eq_false hge2
      have w1 : IntKind.i64.wrap (v4 + 1) = v4 + 1 := by rw [ZdQ]; omega
      rw [w1]
      exact ⟨⟨by omega, by omega, k2, fun j hj h => k3 j hj (by omega)⟩, by omega⟩
  · have hge := of_decide_eq_false hge
    refine ⟨rfl, ?_, rfl, rfl, Nat.le_refl _⟩
    have := Zbs i2 fun j hj => i3 j hj (by omega)
    rw [this]
    exact (Zbs (by simp [Zf5]) fun j hj => rfl).symm
theorem ZFt : Sound Try.prog 33 (gS Zyp) := by
  refine ZaC ZqW ?_
  intro args H K h
  obtain ⟨pre, out, hD, hpre, hK⟩ := Zdv h
  unfold Zyp at hD
  split at hD
  · cases hD
    obtain ⟨rfl, hpre⟩ := hpre
    exact ⟨rfl, fun w0 fp ρi => ZFl _ _ _ hK (ZEj _ _ _ hpre)⟩
  · cases hD
end Go.Proofs.Ytfffjdfegnmejaa
