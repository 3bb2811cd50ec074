/- Part of the proof: SxWaysS. -/
import Derived.Test.YtinjdimejijabaaSxOpnN
import Derived.Test.YtinjdimejijabaaSxMixT
import Derived.KernelRfl
set_option linter.unusedVariables false
set_option linter.unusedSimpArgs false
set_option maxRecDepth 20000
namespace Go.Proofs.Ytinjdimejijabaa
open Go.Sx
def Zi0 : Zo3 := fun ds => match ds with
  | [.sl false .i64 a_n a_c a, .sl false .i64 aa b_c b] => some (((List.length a = a_n /\ a_n <= a_c /\ a_n <= 1000000) /\ (List.length b = aa /\ aa <= b_c /\ aa <= 1000000)), [.pl (.bool (a == b))], [])
  | _ => none
def ZmQ : Con := ⟨23, dC Zi0, [], [.ints .i64 0 []], []⟩
def ZaX (a : List Int) (a_n a_c : Nat) (b : List Int) (aa b_c : Nat) (Kf : SVal -> Heap -> Prop) : Prop := Kf (.bool (a == b)) ⟨2, [(0, some ⟨false, [.ints .i64 a_n a], 0⟩), (1, some ⟨false, [.ints .i64 aa b], 0⟩)]⟩
def ZkW : ACode := .reg (.op (some 4) (.mov (.cn (.bool false))) .nil)
def ZiB : ACode := .reg (.op (some 6) (.mov (.tm 0)) (.op (some 7) (.len (.tm 6)) (.op (some 8) (.mov (.tm 1)) (.op (some 9) (.len (.tm 8)) (.op (some 10) (.bin .neq (.tm 7) (.tm 9)) .nil)))))
def ZkV : ACode := .reg (.op (some 4) (.mov (.cn (.bool false))) .nil)
def ZiA : ACode := .cond (.tm 10) (.seq ZkV .ret) .skip
def ZeC : ACode := .reg (.op (some 5) (.mov (.cn (.int .i64 0))) .nil)
def ZkU : ACode := .reg (.op (some 11) (.mov (.tm 5)) (.op (some 12) (.mov (.tm 0)) (.op (some 13) (.len (.tm 12)) (.op (some 14) (.bin .lss (.tm 11) (.tm 13)) .nil))))
def ZkT : ACode := .cond (.tm 14) .skip (.exit 0)
def Ziz : Items := .op (some 17) (.mov (.tm 0)) (.op (some 18) (.mov (.tm 5)) (.op (some 19) (.idxS (.tm 17) (.tm 18) 1) (.op (some 20) (.load1 (.tm 19)) (.op (some 21) (.mov (.tm 1)) (.op (some 22) (.mov (.tm 5)) (.op (some 23) (.idxS (.tm 21) (.tm 22) 1) (.op (some 24) (.load1 (.tm 23)) (.op (some 25) (.bin .neq (.tm 20) (.tm 24)) .nil))))))))
def ZoI : ACode := .regQ Ziz
def ZkS : ACode := .reg (.op (some 4) (.mov (.cn (.bool false))) .nil)
def ZkR : ACode := .cond (.tm 25) (.seq ZkS .ret) .skip
def Zgg : ACode := .block 1 (.seq ZoI ZkR)
def Zdk : ACode := .reg (.op (some 15) (.mov (.tm 5)) (.op (some 16) (.bin .add (.tm 15) (.cn (.int .i64 1))) (.op (some 5) (.mov (.tm 16)) .nil)))
def Zmg : ACode := .loop (.seq (.seq ZkU ZkT) (.seq Zgg Zdk))
def Zdj : ACode := .block 0 Zmg
def ZbX : ACode := .reg (.op (some 4) (.mov (.cn (.bool true))) .nil)
def Zmi : ACode := (.seq ZkW (.seq (.seq ZiB ZiA) (.seq (.seq ZeC Zdj) (.seq ZbX .ret))))
def Za5 : Res := .one (.tm 4)
theorem ZiR : ZbP Try.prog 23 2 26 Zmi Za5 = true := by kernel_rfl
def ZbZ : ZaB := Zdy [] []
theorem ZbH : ZaR Try.prog ZbZ := Za9 trivial trivial
section
variable {w0 : World} {fp : Nat -> Nat -> Prop} {ρi : Rho} {Kf : SVal -> Heap -> Prop}
abbrev Yd0 : Env := [(4, some (.bool false))]
abbrev Yd1 (x0 : Nat) (x1 : List Int) (x2 : Nat) (x3 : List Int) : Heap := ⟨2, [(0, some ⟨false, [.ints .i64 x0 x1], 0⟩), (1, some ⟨false, [.ints .i64 x2 x3], 0⟩)]⟩
theorem Zte (a : List Int) (a_n a_c : Nat) (b : List Int) (aa b_c : Nat) (Z : Env -> Heap -> Prop) (h : Z Yd0 (Yd1 a_n a aa b)) : EvC ZbZ ZkV [] (Yd1 a_n a aa b) [4] [0, 1] Z := EvC.of (by kernel_rfl) h
theorem ZqR (a : List Int) (a_n a_c : Nat) (b : List Int) (aa b_c : Nat) : RetC Za5 Yd0 (Yd1 a_n a aa b) (.bool false) := RetC.of (fun Z => by kernel_rfl)
def Znv (a : List Int) (a_n a_c : Nat) (b : List Int) (aa b_c : Nat) : Prop := false = (a == b)
theorem Zva (a : List Int) (a_n a_c : Nat) (b : List Int) (aa b_c : Nat) (hK : ZaX a a_n a_c b aa b_c Kf) (h : Znv a a_n a_c b aa b_c) : SemL Try.prog w0 fp ρi 2 26 [ZkV, .ret, (.seq (.seq ZeC Zdj) (.seq ZbX .ret))] [] (Yd1 a_n a aa b) (fnK Za5 2 Kf) :=
  Zap ZbH (Zte a a_n a_c b aa b_c _ (ZaT (R := Za5) (m := 2) (Kf := Kf) (fun _ _ h => h) (ZqR a a_n a_c b aa b_c) (Eq.mpr (cg1 (fun (z1 : Bool) => Ret 2 Kf (.bool z1) (Yd1 a_n a aa b)) h) (Zgt [] [0, 1] rfl rfl (by kernel_rfl) pbd (hsc pcs (hsc pcs Zak)) (by kernel_rfl) rfl (hK)))))
def Zon (w0 : World) (fp : Nat -> Nat -> Prop) (ρi : Rho) (Kf : SVal -> Heap -> Prop) (a : List Int) (a_n a_c : Nat) (b : List Int) (aa b_c : Nat) : Zej := ZcX 0 (fun e H => SemL Try.prog w0 fp ρi 2 26 [(.seq ZbX .ret)] e H (fnK Za5 2 Kf)) (fnK Za5 2 Kf)
def Zor (a : List Int) (a_n a_c : Nat) (b : List Int) (aa b_c : Nat) : Int -> Prop := fun s => match s with | v5 => 0 <= v5 /\ v5 <= (a_n : Int) /\ a_n = aa /\ List.take (Int.toNat v5) a = List.take (Int.toNat v5) b
def Zod (a : List Int) (a_n a_c : Nat) (b : List Int) (aa b_c : Nat) : Int -> Nat := fun s => match s with | v5 => (((a_n : Int) - v5).toNat)
def Zoj (a : List Int) (a_n a_c : Nat) (b : List Int) (aa b_c : Nat) : Int -> Env := fun s => match s with | v5 => [(0, some (.slice ⟨0, 0, 0, 1⟩ a_n a_c)), (1, some (.slice ⟨1, 0, 0, 1⟩ aa b_c)), (5, some (.int .i64 v5))]
def Zog (a : List Int) (a_n a_c : Nat) (b : List Int) (aa b_c : Nat) : Int -> Heap := fun s => match s with | v5 => ⟨2, [(0, some ⟨false, [.ints .i64 a_n a], 0⟩), (1, some ⟨false, [.ints .i64 aa b], 0⟩)]⟩
def Zft (w0 : World) (fp : Nat -> Nat -> Prop) (ρi : Rho) (Kf : SVal -> Heap -> Prop) (a : List Int) (a_n a_c : Nat) (b : List Int) (aa b_c : Nat) (v5 : Int) : Zej := ZmH 2 (Zor a a_n a_c b aa b_c) (Zod a a_n a_c b aa b_c) (Zoj a a_n a_c b aa b_c) (Zog a a_n a_c b aa b_c) v5 (Zon w0 fp ρi Kf a a_n a_c b aa b_c)
def Zkd (w0 : World) (fp : Nat -> Nat -> Prop) (ρi : Rho) (Kf : SVal -> Heap -> Prop) (a : List Int) (a_n a_c : Nat) (b : List Int) (aa b_c : Nat) (v5 : Int) : Zej := ZcX 1 (fun e H => SemL Try.prog w0 fp ρi 2 26 [Zdk] e H (Zft w0 fp ρi Kf a a_n a_c b aa b_c v5)) (Zft w0 fp ρi Kf a a_n a_c b aa b_c v5)
theorem Ztd (a : List Int) (a_n a_c : Nat) (b : List Int) (aa b_c : Nat) (v5 : Int) (Z : Env -> Heap -> Prop) (h : Z Yd0 (Yd1 a_n a aa b)) : EvC ZbZ ZkS [] (Yd1 a_n a aa b) [4] [0, 1] Z := EvC.of (by kernel_rfl) h
theorem ZqQ (a : List Int) (a_n a_c : Nat) (b : List Int) (aa b_c : Nat) : RetC Za5 Yd0 (Yd1 a_n a aa b) (.bool false) := RetC.of (fun Z => by kernel_rfl)
def Znu (a : List Int) (a_n a_c : Nat) (b : List Int) (aa b_c : Nat) (v5 : Int) : Prop := false = (a == b)
theorem Zu9 (a : List Int) (a_n a_c : Nat) (b : List Int) (aa b_c : Nat) (hK : ZaX a a_n a_c b aa b_c Kf) (v5 : Int) (h : Znu a a_n a_c b aa b_c v5) : SemL Try.prog w0 fp ρi 2 26 [ZkS, .ret] [] (Yd1 a_n a aa b) (Zkd w0 fp ρi Kf a a_n a_c b aa b_c v5) :=
  Zap ZbH (Ztd a a_n a_c b aa b_c v5 _ (ZaT (R := Za5) (m := 2) (Kf := Kf) (fun _ _ h => h) (ZqQ a a_n a_c b aa b_c) (Eq.mpr (cg1 (fun (z1 : Bool) => Ret 2 Kf (.bool z1) (Yd1 a_n a aa b)) h) (Zgt [] [0, 1] rfl rfl (by kernel_rfl) pbd (hsc pcs (hsc pcs Zak)) (by kernel_rfl) rfl (hK)))))
abbrev Yd2 (x0 x1 x2 x3 : Nat) (x4 : Int) : Env := [(0, some (.slice ⟨0, 0, 0, 1⟩ x0 x1)), (1, some (.slice ⟨1, 0, 0, 1⟩ x2 x3)), (5, some (.int .i64 x4))]
theorem Ztc (a : List Int) (a_n a_c : Nat) (b : List Int) (aa b_c : Nat) (v5 : Int) (Z : Env -> Heap -> Prop) (h : Z [(0, some (.slice ⟨0, 0, 0, 1⟩ a_n a_c)), (1, some (.slice ⟨1, 0, 0, 1⟩ aa b_c)), (5, some (.int .i64 (IntKind.i64.wrap (v5 + 1))))] (Yd1 a_n a aa b)) : EvC ZbZ Zdk (Yd2 a_n a_c aa b_c v5) (Yd1 a_n a aa b) [0, 1, 5] [0, 1] Z := EvC.of (by kernel_rfl) h
def Znt (a : List Int) (a_n a_c : Nat) (b : List Int) (aa b_c : Nat) (v5 : Int) : Prop := (0 <= (IntKind.i64.wrap (v5 + 1)) /\ (IntKind.i64.wrap (v5 + 1)) <= (a_n : Int) /\ a_n = aa /\ List.take (Int.toNat (IntKind.i64.wrap (v5 + 1))) a = List.take (Int.toNat (IntKind.i64.wrap (v5 + 1))) b) /\ ((((a_n : Int) - (IntKind.i64.wrap (v5 + 1))).toNat) < (((a_n : Int) - v5).toNat))
theorem Zu8 (a : List Int) (a_n a_c : Nat) (b : List Int) (aa b_c : Nat) (hK : ZaX a a_n a_c b aa b_c Kf) (v5 : Int) (h : Znt a a_n a_c b aa b_c v5) : SemL Try.prog w0 fp ρi 2 26 [Zdk] (Yd2 a_n a_c aa b_c v5) (Yd1 a_n a aa b) (Zft w0 fp ρi Kf a a_n a_c b aa b_c v5) :=
  Zap ZbH (Ztc a a_n a_c b aa b_c v5 _ (Zfi (Ze3 (x' := (IntKind.i64.wrap (v5 + 1))) (τ := tau []) h.1 h.2 (ZbE [] [0, 1] rfl rfl (esc bsl (esc bsl (esc pbd Zbb))) (hsc pcs (hsc pcs Zak)) (by kernel_rfl) rfl))))
def Zns (a : List Int) (a_n a_c : Nat) (b : List Int) (aa b_c : Nat) (v5 : Int) : Prop := (((List.getD a (0 + (Int.toNat v5)) 0) != (List.getD b (0 + (Int.toNat v5)) 0)) = true -> (Znu a a_n a_c b aa b_c v5)) /\ (((List.getD a (0 + (Int.toNat v5)) 0) != (List.getD b (0 + (Int.toNat v5)) 0)) = false -> (Znt a a_n a_c b aa b_c v5))
abbrev Yd3 (x0 x1 x2 x3 : Nat) (x4 : Int) (x5 x6 : List Int) : Env := [(0, some (.slice ⟨0, 0, 0, 1⟩ x0 x1)), (1, some (.slice ⟨1, 0, 0, 1⟩ x2 x3)), (5, some (.int .i64 x4)), (25, some (.bool ((List.getD x5 (0 + (Int.toNat x4)) 0) != (List.getD x6 (0 + (Int.toNat x4)) 0))))]
theorem Zu7 (a : List Int) (a_n a_c : Nat) (b : List Int) (aa b_c : Nat) (hK : ZaX a a_n a_c b aa b_c Kf) (v5 : Int) (h : Zns a a_n a_c b aa b_c v5) : SemL Try.prog w0 fp ρi 2 26 [ZkR] (Yd3 a_n a_c aa b_c v5 a b) (Yd1 a_n a aa b) (Zkd w0 fp ρi Kf a a_n a_c b aa b_c v5) :=
  Za8 (q := ((List.getD a (0 + (Int.toNat v5)) 0) != (List.getD b (0 + (Int.toNat v5)) 0))) (by kernel_rfl) (fun hq => (Zau (lpk [] [0, 1] (Zu9 a a_n a_c b aa b_c hK v5 (h.1 hq))))) (fun hq => (Zb3 (Zfi (lpk [0, 1, 5] [0, 1] (Zu8 a a_n a_c b aa b_c hK v5 (h.2 hq))))))
theorem Ztb (a : List Int) (a_n a_c : Nat) (b : List Int) (aa b_c : Nat) (v5 : Int) (Z : Env -> Heap -> Prop) (h : ((0 <= v5)) /\ ((v5 < ((a_n : Nat) : Int))) /\ (((0 + (Int.toNat v5)) < a_n)) /\ ((0 <= v5)) /\ ((v5 < ((aa : Nat) : Int))) /\ (((0 + (Int.toNat v5)) < aa)) /\ Z (Yd3 a_n a_c aa b_c v5 a b) (Yd1 a_n a aa b)) : EvQC ZbZ Ziz [] (Yd2 a_n a_c aa b_c v5) (Yd1 a_n a aa b) [0, 1, 5, 25] [0, 1] Z := EvQC.of (by kernel_rfl) h
def ZlG (a : List Int) (a_n a_c : Nat) (b : List Int) (aa b_c : Nat) (v5 : Int) : Prop := ((0 <= v5)) /\ (((v5 < ((a_n : Nat) : Int))) /\ ((((0 + (Int.toNat v5)) < a_n)) /\ (((0 <= v5)) /\ (((v5 < ((aa : Nat) : Int))) /\ ((((0 + (Int.toNat v5)) < aa)) /\ (Zns a a_n a_c b aa b_c v5))))))
theorem Zu6 (a : List Int) (a_n a_c : Nat) (b : List Int) (aa b_c : Nat) (hK : ZaX a a_n a_c b aa b_c Kf) (v5 : Int) (h : ZlG a a_n a_c b aa b_c v5) : SemL Try.prog w0 fp ρi 2 26 [ZoI, ZkR] (Yd2 a_n a_c aa b_c v5) (Yd1 a_n a aa b) (Zkd w0 fp ρi Kf a a_n a_c b aa b_c v5) :=
  Zhb ZbH (its := Ziz) (Ztb a a_n a_c b aa b_c v5 _ ⟨h.1, ⟨h.2.1, ⟨h.2.2.1, ⟨h.2.2.2.1, ⟨h.2.2.2.2.1, ⟨h.2.2.2.2.2.1, (Zu7 a a_n a_c b aa b_c hK v5 h.2.2.2.2.2.2)⟩⟩⟩⟩⟩⟩)
theorem Zu5 (a : List Int) (a_n a_c : Nat) (b : List Int) (aa b_c : Nat) (hK : ZaX a a_n a_c b aa b_c Kf) (v5 : Int) (h : ZlG a a_n a_c b aa b_c v5) : SemL Try.prog w0 fp ρi 2 26 [Zgg, Zdk] (Yd2 a_n a_c aa b_c v5) (Yd1 a_n a aa b) (Zft w0 fp ρi Kf a a_n a_c b aa b_c v5) :=
  Zcu (Zau (Zu6 a a_n a_c b aa b_c hK v5 h))
theorem Zta (a : List Int) (a_n a_c : Nat) (b : List Int) (aa b_c : Nat) (Z : Env -> Heap -> Prop) (h : Z [(4, some (.bool true))] (Yd1 a_n a aa b)) : EvC ZbZ ZbX [] (Yd1 a_n a aa b) [4] [0, 1] Z := EvC.of (by kernel_rfl) h
theorem ZqP (a : List Int) (a_n a_c : Nat) (b : List Int) (aa b_c : Nat) : RetC Za5 [(4, some (.bool true))] (Yd1 a_n a aa b) (.bool true) := RetC.of (fun Z => by kernel_rfl)
def Znr (a : List Int) (a_n a_c : Nat) (b : List Int) (aa b_c : Nat) : Prop := true = (a == b)
theorem Zu4 (a : List Int) (a_n a_c : Nat) (b : List Int) (aa b_c : Nat) (hK : ZaX a a_n a_c b aa b_c Kf) (h : Znr a a_n a_c b aa b_c) : SemL Try.prog w0 fp ρi 2 26 [ZbX, .ret] [] (Yd1 a_n a aa b) (fnK Za5 2 Kf) :=
  Zap ZbH (Zta a a_n a_c b aa b_c _ (ZaT (R := Za5) (m := 2) (Kf := Kf) (fun _ _ h => h) (ZqP a a_n a_c b aa b_c) (Eq.mpr (cg1 (fun (z1 : Bool) => Ret 2 Kf (.bool z1) (Yd1 a_n a aa b)) h) (Zgt [] [0, 1] rfl rfl (by kernel_rfl) pbd (hsc pcs (hsc pcs Zak)) (by kernel_rfl) rfl (hK)))))
def ZlF (a : List Int) (a_n a_c : Nat) (b : List Int) (aa b_c : Nat) (v5 : Int) : Prop := ((decide (v5 < ((a_n : Nat) : Int))) = true -> (ZlG a a_n a_c b aa b_c v5)) /\ ((decide (v5 < ((a_n : Nat) : Int))) = false -> (Znr a a_n a_c b aa b_c))
abbrev Yd4 (x0 x1 x2 x3 : Nat) (x4 : Int) : Env := [(0, some (.slice ⟨0, 0, 0, 1⟩ x0 x1)), (1, some (.slice ⟨1, 0, 0, 1⟩ x2 x3)), (5, some (.int .i64 x4)), (14, some (.bool (decide (x4 < ((x0 : Nat) : Int)))))]
theorem Zu3 (a : List Int) (a_n a_c : Nat) (b : List Int) (aa b_c : Nat) (hK : ZaX a a_n a_c b aa b_c Kf) (v5 : Int) (h : ZlF a a_n a_c b aa b_c v5) : SemL Try.prog w0 fp ρi 2 26 [ZkT, (.seq Zgg Zdk)] (Yd4 a_n a_c aa b_c v5) (Yd1 a_n a aa b) (Zft w0 fp ρi Kf a a_n a_c b aa b_c v5) :=
  Za8 (q := (decide (v5 < ((a_n : Nat) : Int)))) (by kernel_rfl) (fun hq => (Zb3 (lpk [0, 1, 5] [0, 1] (Zau (Zu5 a a_n a_c b aa b_c hK v5 (h.1 hq)))))) (fun hq => (ZjZ (lpk [] [0, 1] (Zau (Zu4 a a_n a_c b aa b_c hK (h.2 hq))))))
theorem Zs9 (a : List Int) (a_n a_c : Nat) (b : List Int) (aa b_c : Nat) (v5 : Int) (Z : Env -> Heap -> Prop) (h : Z (Yd4 a_n a_c aa b_c v5) (Yd1 a_n a aa b)) : EvC ZbZ ZkU (Yd2 a_n a_c aa b_c v5) (Yd1 a_n a aa b) [0, 1, 5, 14] [0, 1] Z := EvC.of (by kernel_rfl) h
theorem Zu2 (a : List Int) (a_n a_c : Nat) (b : List Int) (aa b_c : Nat) (hK : ZaX a a_n a_c b aa b_c Kf) (v5 : Int) (h : ZlF a a_n a_c b aa b_c v5) : SemL Try.prog w0 fp ρi 2 26 [ZkU, ZkT, (.seq Zgg Zdk)] (Yd2 a_n a_c aa b_c v5) (Yd1 a_n a aa b) (Zft w0 fp ρi Kf a a_n a_c b aa b_c v5) :=
  Zap ZbH (Zs9 a a_n a_c b aa b_c v5 _ (Zu3 a a_n a_c b aa b_c hK v5 h))
def Zja (a : List Int) (a_n a_c : Nat) (b : List Int) (aa b_c : Nat) : Prop := (0 <= (0 : Int) /\ (0 : Int) <= (a_n : Int) /\ a_n = aa /\ List.take (Int.toNat (0 : Int)) a = List.take (Int.toNat (0 : Int)) b) /\ (∀ (v5 : Int), (0 <= v5 /\ v5 <= (a_n : Int) /\ a_n = aa /\ List.take (Int.toNat v5) a = List.take (Int.toNat v5) b) -> (ZlF a a_n a_c b aa b_c v5))
abbrev Yd5 (x0 x1 x2 x3 : Nat) : Env := [(0, some (.slice ⟨0, 0, 0, 1⟩ x0 x1)), (1, some (.slice ⟨1, 0, 0, 1⟩ x2 x3)), (5, some (.int .i64 0))]
theorem Zu1 (a : List Int) (a_n a_c : Nat) (b : List Int) (aa b_c : Nat) (hK : ZaX a a_n a_c b aa b_c Kf) (h : Zja a a_n a_c b aa b_c) : SemL Try.prog w0 fp ρi 2 26 [Zmg] (Yd5 a_n a_c aa b_c) (Yd1 a_n a aa b) (Zon w0 fp ρi Kf a a_n a_c b aa b_c) :=
  Zmp (Zor a a_n a_c b aa b_c) (Zod a a_n a_c b aa b_c) (Zoj a a_n a_c b aa b_c) (Zog a a_n a_c b aa b_c) ⟨0, tau [], h.1, (ZbE [] [0, 1] rfl rfl (esc bsl (esc bsl (esc pbd Zbb))) (hsc pcs (hsc pcs Zak)) (by kernel_rfl) rfl)⟩ (fun s => match s with | v5 => fun hi => (Zau (Zau (Zu2 a a_n a_c b aa b_c hK v5 (h.2 v5 hi)))))
theorem Zrq (a : List Int) (a_n a_c : Nat) (b : List Int) (aa b_c : Nat) (hK : ZaX a a_n a_c b aa b_c Kf) (h : Zja a a_n a_c b aa b_c) : SemL Try.prog w0 fp ρi 2 26 [Zdj, (.seq ZbX .ret)] (Yd5 a_n a_c aa b_c) (Yd1 a_n a aa b) (fnK Za5 2 Kf) :=
  Zcu (Zu1 a a_n a_c b aa b_c hK h)
abbrev Yd6 (x0 x1 x2 x3 : Nat) : Env := [(0, some (.slice ⟨0, 0, 0, 1⟩ x0 x1)), (1, some (.slice ⟨1, 0, 0, 1⟩ x2 x3))]
theorem Zqv (a : List Int) (a_n a_c : Nat) (b : List Int) (aa b_c : Nat) (Z : Env -> Heap -> Prop) (h : Z (Yd5 a_n a_c aa b_c) (Yd1 a_n a aa b)) : EvC ZbZ ZeC (Yd6 a_n a_c aa b_c) (Yd1 a_n a aa b) [0, 1, 5] [0, 1] Z := EvC.of (by kernel_rfl) h
theorem Zrp (a : List Int) (a_n a_c : Nat) (b : List Int) (aa b_c : Nat) (hK : ZaX a a_n a_c b aa b_c Kf) (h : Zja a a_n a_c b aa b_c) : SemL Try.prog w0 fp ρi 2 26 [ZeC, Zdj, (.seq ZbX .ret)] (Yd6 a_n a_c aa b_c) (Yd1 a_n a aa b) (fnK Za5 2 Kf) :=
  Zap ZbH (Zqv a a_n a_c b aa b_c _ (Zrq a a_n a_c b aa b_c hK h))
def Zfn (a : List Int) (a_n a_c : Nat) (b : List Int) (aa b_c : Nat) : Prop := ((((a_n : Nat) : Int) != ((aa : Nat) : Int)) = true -> (Znv a a_n a_c b aa b_c)) /\ ((((a_n : Nat) : Int) != ((aa : Nat) : Int)) = false -> (Zja a a_n a_c b aa b_c))
abbrev Yd7 (x0 x1 x2 x3 : Nat) : Env := [(0, some (.slice ⟨0, 0, 0, 1⟩ x0 x1)), (1, some (.slice ⟨1, 0, 0, 1⟩ x2 x3)), (10, some (.bool (((x0 : Nat) : Int) != ((x2 : Nat) : Int))))]
theorem Zro (a : List Int) (a_n a_c : Nat) (b : List Int) (aa b_c : Nat) (hK : ZaX a a_n a_c b aa b_c Kf) (h : Zfn a a_n a_c b aa b_c) : SemL Try.prog w0 fp ρi 2 26 [ZiA, (.seq (.seq ZeC Zdj) (.seq ZbX .ret))] (Yd7 a_n a_c aa b_c) (Yd1 a_n a aa b) (fnK Za5 2 Kf) :=
  Za8 (q := (((a_n : Nat) : Int) != ((aa : Nat) : Int))) (by kernel_rfl) (fun hq => (Zau (lpk [] [0, 1] (Zva a a_n a_c b aa b_c hK (h.1 hq))))) (fun hq => (Zb3 (lpk [0, 1] [0, 1] (Zau (Zau (Zrp a a_n a_c b aa b_c hK (h.2 hq)))))))
theorem Zqu (a : List Int) (a_n a_c : Nat) (b : List Int) (aa b_c : Nat) (Z : Env -> Heap -> Prop) (h : Z (Yd7 a_n a_c aa b_c) (Yd1 a_n a aa b)) : EvC ZbZ ZiB (Yd6 a_n a_c aa b_c) (Yd1 a_n a aa b) [0, 1, 10] [0, 1] Z := EvC.of (by kernel_rfl) h
theorem Zrn (a : List Int) (a_n a_c : Nat) (b : List Int) (aa b_c : Nat) (hK : ZaX a a_n a_c b aa b_c Kf) (h : Zfn a a_n a_c b aa b_c) : SemL Try.prog w0 fp ρi 2 26 [ZiB, ZiA, (.seq (.seq ZeC Zdj) (.seq ZbX .ret))] (Yd6 a_n a_c aa b_c) (Yd1 a_n a aa b) (fnK Za5 2 Kf) :=
  Zap ZbH (Zqu a a_n a_c b aa b_c _ (Zro a a_n a_c b aa b_c hK h))
theorem Zqt (a : List Int) (a_n a_c : Nat) (b : List Int) (aa b_c : Nat) (Z : Env -> Heap -> Prop) (h : Z (Yd6 a_n a_c aa b_c) (Yd1 a_n a aa b)) : EvC ZbZ ZkW (Yd6 a_n a_c aa b_c) (Yd1 a_n a aa b) [0, 1] [0, 1] Z := EvC.of (by kernel_rfl) h
theorem Zrm (a : List Int) (a_n a_c : Nat) (b : List Int) (aa b_c : Nat) (hK : ZaX a a_n a_c b aa b_c Kf) (h : Zfn a a_n a_c b aa b_c) : SemL Try.prog w0 fp ρi 2 26 [ZkW, (.seq (.seq ZiB ZiA) (.seq (.seq ZeC Zdj) (.seq ZbX .ret)))] (Yd6 a_n a_c aa b_c) (Yd1 a_n a aa b) (fnK Za5 2 Kf) :=
  Zap ZbH (Zqt a a_n a_c b aa b_c _ (Zau (Zau (Zrn a a_n a_c b aa b_c hK h))))
theorem Zo8 (a : List Int) (a_n a_c : Nat) (b : List Int) (aa b_c : Nat) (hK : ZaX a a_n a_c b aa b_c Kf) (h : Zfn a a_n a_c b aa b_c) : SemL Try.prog w0 fp ρi 2 26 [Zmi] (Yd6 a_n a_c aa b_c) (Yd1 a_n a aa b) (fnK Za5 2 Kf) :=
  (Zau (Zrm a a_n a_c b aa b_c hK h))
end
theorem Zn7 (a : List Int) (a_n a_c : Nat) (b : List Int) (aa b_c : Nat) (hpre : ((List.length a = a_n /\ a_n <= a_c /\ a_n <= 1000000) /\ (List.length b = aa /\ aa <= b_c /\ aa <= 1000000))) : Zfn a a_n a_c b aa b_c := by
  unfold Zfn Zja ZlF Znr ZlG Zns Znt Znu Znv
  obtain ⟨⟨ha, -, ha2⟩, hb, -, hb2⟩ := hpre
  refine ⟨fun h => ?_, fun h => ⟨?_, ?_⟩⟩
  · simp only [bne_iff_ne, ne_eq] at h
    exact (beq_eq_false_iff_ne.2 fun he => h (by rw [<- ha, <- hb, he])).symm
  · simp only [bne_eq_false_iff_eq] at h
    exact ⟨by omega, by omega, by omega, rfl⟩
  · rintro i ⟨h0, h1, rfl, ht⟩
    refine ⟨fun hlt => ?_, fun hge => ?_⟩
    · have hlt := of_decide_eq_true hlt
      refine ⟨h0, hlt, by omega, h0, hlt, by omega, fun hd => ?_, fun hd => ?_⟩
      · simp only [bne_iff_ne, ne_eq] at hd
        exact (beq_eq_false_iff_ne.2 fun he => hd (by rw [he])).symm
      · simp only [bne_eq_false_iff_eq, Nat.zero_add] at hd
        have e1 : IntKind.i64.wrap (i + 1) = i + 1 := by rw [Zse]; omega
        have e2 : (i + 1).toNat = i.toNat + 1 := by omega
        rw [e1, e2, Zem (by omega), Zem (by omega), ht, hd]
        exact ⟨⟨by omega, by omega, rfl, rfl⟩, by omega⟩
    · have hge := of_decide_eq_false hge
      rw [List.take_of_length_le (by omega), List.take_of_length_le (by omega)] at ht
      rw [ht]; simp
theorem sq11Same : Sound Try.prog 23 (dS Zi0) := by
  refine ZaY ZiR ?_
  rintro args H K ⟨ds, rfl, rfl, h⟩
  split at h
  · rename_i pre rs ws hD
    obtain ⟨hpre, hK⟩ := h
    unfold Zi0 at hD
    split at hD
    · cases hD
      exact ⟨rfl, fun w0 fp ρi => Zo8 _ _ _ _ _ _ hK (Zn7 _ _ _ _ _ _ hpre)⟩
    · cases hD
  · exact h.elim
def ZfG : Zd2 := fun args H => match args, H with
  | [], ⟨0, []⟩ => some (True, fun K => K (.bool true) ⟨0, []⟩)
  | _, _ => none
def ZjK : Con := ⟨15, gS ZfG, [], [], []⟩
def Zld : ACode := .reg (.op (some 0) (.mov (.cn (.bool false))) .nil)
def ZiQ : ACode := .reg (.op (some 4) (.build [.i 0, .i 0] [(0, 1, (.cn (.int .i64 1))), (1, 1, (.cn (.int .i64 2)))]) (.op (some 5) (.call 16 [(.tm 4)]) (.op (some 1) (.mov (.tm 5)) .nil)))
def Zg1 : ACode := .reg (.op (some 6) (.mov (.tm 1)) (.op (some 7) (.call 17 [(.tm 6), (.cn (.int .i64 5)), (.cn (.int .i64 1))]) (.op (some 8) (.mov (.tm 1)) (.op (some 9) (.call 17 [(.tm 8), (.cn (.int .i64 7)), (.cn (.int .i64 2))]) (.op (some 2) (.mov (.tm 7)) (.op (some 3) (.mov (.tm 9)) .nil))))))
def Zfz : ACode := .reg (.op (some 10) (.mov (.tm 2)) (.op (some 11) (.bin .eql (.tm 10) (.cn (.int .i64 0))) (.op (some 12) (.mov (.tm 11)) (.grpJ 12 true (.op (some 13) (.mov (.tm 3)) (.op (some 14) (.bin .eql (.tm 13) (.cn (.int .i64 0))) .nil)) 15 (.tm 14) (.cn (.bool false)) (.op (some 16) (.mov (.tm 15)) (.grp 16 true (.op (some 17) (.mov (.tm 1)) (.op (some 18) (.call 20 [(.tm 17), (.cn (.int .i64 5))]) .nil)) (.op (some 19) (.pick (.tm 16) (.tm 18) (.cn (.bool false))) (.op (some 20) (.mov (.tm 19)) (.grpJ 20 true (.op (some 21) (.mov (.tm 1)) (.op (some 22) (.call 21 [(.tm 21), (.cn (.int .i64 0))]) (.op (some 23) (.bslice .i64 2 [(0, (.cn (.int .i64 7))), (1, (.cn (.int .i64 5)))]) (.op (some 24) (.call 23 [(.tm 22), (.tm 23)]) .nil)))) 25 (.tm 24) (.cn (.bool false)) (.op (some 26) (.mov (.tm 25)) (.grp 26 true (.op (some 27) (.mov (.tm 1)) (.op (some 28) (.call 17 [(.tm 27), (.cn (.int .i64 9)), (.cn (.int .i64 3))]) (.op (some 29) (.bin .eql (.tm 28) (.cn (.int .i64 5))) .nil))) (.op (some 30) (.pick (.tm 26) (.tm 29) (.cn (.bool false))) (.op (some 0) (.mov (.tm 30)) .nil)))))))))))))
def ZhI : ACode := (.seq Zld (.seq ZiQ (.seq Zg1 (.seq Zfz .ret))))
def ZaW : Res := .one (.tm 0)
theorem Zg3 : ZbP Try.prog 15 0 31 ZhI ZaW = true := by kernel_rfl
def Zc1 : ZaB := Zpa Zqe Zqd (Zdy [] [ZmQ])
theorem Zdd : ZaR Try.prog Zc1 := Zlt Zlv Zlu (Za9 trivial ⟨sq11Same.dC, trivial⟩)
section
variable {w0 : World} {fp : Nat -> Nat -> Prop} {ρi : Rho} {Kf : SVal -> Heap -> Prop}
abbrev Yd8 (x0 : List (Tup Zah)) : Heap := ⟨1, [(0, some ⟨false, [.rows Zah 0 x0], 2⟩)]⟩
abbrev Yd9 (x0 : List (Tup Zah)) : Env := [(0, some (.bool ((CacheV.setR (Zaw (CacheV.code (CacheV.touchC (Zaw x0) (5 : Int)))) (9 : Int) (3 : Int)) == 5)))]
abbrev ZwZ : Env := [(0, some (.bool false))]
abbrev Zyu (x0 x1 : Int) : Env := [(1, some (.ptr ⟨0, 0, 0, 1⟩ 2)), (2, some (.int .i64 x0)), (3, some (.int .i64 x1))]
theorem Zt1 (v2 v3 : Int) (ab : List (Tup Zah)) (Z : Env -> Heap -> Prop) (h : ∃ qq : Bool, ((v2 == 0) = true -> (Zbp (Yd8 ab) (Yd8 ab) [(0, some ⟨false, [.rows Zah 0 ab], 2⟩)]) /\ (v3 == 0) = qq) /\ ((v2 == 0) = false -> false = qq) /\ (qq = true -> ((CacheV.Good (Zaw ab) /\ I64 (5 : Int))) /\ ∃ qq'1 : Bool, ((CacheV.hasB (Zaw ab) (5 : Int)) = true -> ((CacheV.Good (Zaw (CacheV.code (CacheV.touchC (Zaw ab) (5 : Int)))) /\ I64 (0 : Int))) /\ ∀ (c : Nat), (List.length (CacheV.oldL (Zaw (CacheV.code (CacheV.touchC (Zaw ab) (5 : Int)))) (0 : Int))) <= c -> (((0 + (List.length (CacheV.oldL (Zaw (CacheV.code (CacheV.touchC (Zaw ab) (5 : Int)))) (0 : Int)))) <= (List.length (CacheV.oldL (Zaw (CacheV.code (CacheV.touchC (Zaw ab) (5 : Int)))) (0 : Int))))) /\ (((2 : Nat) <= 2)) /\ (((List.length (CacheV.oldL (Zaw (CacheV.code (CacheV.touchC (Zaw ab) (5 : Int)))) (0 : Int))) = (List.length (CacheV.oldL (Zaw (CacheV.code (CacheV.touchC (Zaw ab) (5 : Int)))) (0 : Int))))) /\ (((2 : Nat) = 2)) /\ (((List.length (List.take (List.length (CacheV.oldL (Zaw (CacheV.code (CacheV.touchC (Zaw ab) (5 : Int)))) (0 : Int))) (CacheV.oldL (Zaw (CacheV.code (CacheV.touchC (Zaw ab) (5 : Int)))) (0 : Int))) = (List.length (CacheV.oldL (Zaw (CacheV.code (CacheV.touchC (Zaw ab) (5 : Int)))) (0 : Int))) /\ (List.length (CacheV.oldL (Zaw (CacheV.code (CacheV.touchC (Zaw ab) (5 : Int)))) (0 : Int))) <= c /\ (List.length (CacheV.oldL (Zaw (CacheV.code (CacheV.touchC (Zaw ab) (5 : Int)))) (0 : Int))) <= 1000000) /\ (List.length ([7, 5] : List Int) = 2 /\ 2 <= 2 /\ 2 <= 1000000))) /\ (Zbp ⟨3, [(0, some ⟨false, [.rows Zah 0 (CacheV.code (CacheV.touchC (Zaw ab) (5 : Int)))], 2⟩), (1, some ⟨true, [.ints .i64 (List.length (CacheV.oldL (Zaw (CacheV.code (CacheV.touchC (Zaw ab) (5 : Int)))) (0 : Int))) (CacheV.oldL (Zaw (CacheV.code (CacheV.touchC (Zaw ab) (5 : Int)))) (0 : Int))], (c - (List.length (CacheV.oldL (Zaw (CacheV.code (CacheV.touchC (Zaw ab) (5 : Int)))) (0 : Int))))⟩), (2, some ⟨true, [.ints .i64 2 [7, 5]], 0⟩)]⟩ ⟨1, [(0, some ⟨false, [.rows Zah 0 (CacheV.code (CacheV.touchC (Zaw ab) (5 : Int)))], 2⟩), (0, some ⟨false, [.rows Zah 0 (CacheV.code (CacheV.touchC (Zaw ab) (5 : Int)))], 2⟩)]⟩ [(0, some ⟨false, [.rows Zah 0 (CacheV.code (CacheV.touchC (Zaw ab) (5 : Int)))], 2⟩), (0, some ⟨false, [.rows Zah 0 (CacheV.code (CacheV.touchC (Zaw ab) (5 : Int)))], 2⟩)]) /\ ((List.take (List.length (CacheV.oldL (Zaw (CacheV.code (CacheV.touchC (Zaw ab) (5 : Int)))) (0 : Int))) (CacheV.oldL (Zaw (CacheV.code (CacheV.touchC (Zaw ab) (5 : Int)))) (0 : Int))) == ([7, 5] : List Int)) = qq'1) /\ ((CacheV.hasB (Zaw ab) (5 : Int)) = false -> false = qq'1) /\ (qq'1 = true -> ((CacheV.Good (Zaw (CacheV.code (CacheV.touchC (Zaw ab) (5 : Int)))) /\ I64 (9 : Int))) /\ Z (Yd9 ab) ⟨1, []⟩) /\ (qq'1 = false -> Z ZwZ ⟨1, []⟩)) /\ (qq = false -> ∃ qq'2 : Bool, (false = true -> ((CacheV.Good (Zaw ab) /\ I64 (0 : Int))) /\ ∀ (ac : Nat), (List.length (CacheV.oldL (Zaw ab) (0 : Int))) <= ac -> (((0 + (List.length (CacheV.oldL (Zaw ab) (0 : Int)))) <= (List.length (CacheV.oldL (Zaw ab) (0 : Int))))) /\ (((2 : Nat) <= 2)) /\ (((List.length (CacheV.oldL (Zaw ab) (0 : Int))) = (List.length (CacheV.oldL (Zaw ab) (0 : Int))))) /\ (((2 : Nat) = 2)) /\ (((List.length (List.take (List.length (CacheV.oldL (Zaw ab) (0 : Int))) (CacheV.oldL (Zaw ab) (0 : Int))) = (List.length (CacheV.oldL (Zaw ab) (0 : Int))) /\ (List.length (CacheV.oldL (Zaw ab) (0 : Int))) <= ac /\ (List.length (CacheV.oldL (Zaw ab) (0 : Int))) <= 1000000) /\ (List.length ([7, 5] : List Int) = 2 /\ 2 <= 2 /\ 2 <= 1000000))) /\ (Zbp ⟨3, [(0, some ⟨false, [.rows Zah 0 ab], 2⟩), (1, some ⟨true, [.ints .i64 (List.length (CacheV.oldL (Zaw ab) (0 : Int))) (CacheV.oldL (Zaw ab) (0 : Int))], (ac - (List.length (CacheV.oldL (Zaw ab) (0 : Int))))⟩), (2, some ⟨true, [.ints .i64 2 [7, 5]], 0⟩)]⟩ (Yd8 ab) [(0, some ⟨false, [.rows Zah 0 ab], 2⟩)]) /\ ((List.take (List.length (CacheV.oldL (Zaw ab) (0 : Int))) (CacheV.oldL (Zaw ab) (0 : Int))) == ([7, 5] : List Int)) = qq'2) /\ (false = false -> false = qq'2) /\ (qq'2 = true -> ((CacheV.Good (Zaw ab) /\ I64 (9 : Int))) /\ Z [(0, some (.bool ((CacheV.setR (Zaw ab) (9 : Int) (3 : Int)) == 5)))] ⟨1, []⟩) /\ (qq'2 = false -> Z ZwZ ⟨1, []⟩))) : EvC Zc1 Zfz (Zyu v2 v3) (Yd8 ab) [0] [] Z := EvC.of (by kernel_rfl) h
theorem Zrd (ab : List (Tup Zah)) : RetC ZaW (Yd9 ab) ⟨1, []⟩ (.bool ((CacheV.setR (Zaw (CacheV.code (CacheV.touchC (Zaw ab) (5 : Int)))) (9 : Int) (3 : Int)) == 5)) := RetC.of (fun Z => by kernel_rfl)
theorem Zrc : RetC ZaW ZwZ ⟨1, []⟩ (.bool false) := RetC.of (fun Z => by kernel_rfl)
theorem Zrb (ab : List (Tup Zah)) : RetC ZaW [(0, some (.bool ((CacheV.setR (Zaw ab) (9 : Int) (3 : Int)) == 5)))] ⟨1, []⟩ (.bool ((CacheV.setR (Zaw ab) (9 : Int) (3 : Int)) == 5)) := RetC.of (fun Z => by kernel_rfl)
theorem Zra : RetC ZaW ZwZ ⟨1, []⟩ (.bool false) := RetC.of (fun Z => by kernel_rfl)
def ZnQ (v2 v3 : Int) (ab : List (Tup Zah)) : Prop := (((v2 == 0) && (v3 == 0)) = true -> (((CacheV.Good (Zaw ab) /\ I64 (5 : Int))) /\ (((CacheV.hasB (Zaw ab) (5 : Int)) = true -> (((CacheV.Good (Zaw (CacheV.code (CacheV.touchC (Zaw ab) (5 : Int)))) /\ I64 (0 : Int))) /\ (∀ (c : Nat), ((List.length (CacheV.oldL (Zaw (CacheV.code (CacheV.touchC (Zaw ab) (5 : Int)))) (0 : Int))) <= c) -> ((((0 + (List.length (CacheV.oldL (Zaw (CacheV.code (CacheV.touchC (Zaw ab) (5 : Int)))) (0 : Int)))) <= (List.length (CacheV.oldL (Zaw (CacheV.code (CacheV.touchC (Zaw ab) (5 : Int)))) (0 : Int))))) /\ (((List.length (List.take (List.length (CacheV.oldL (Zaw (CacheV.code (CacheV.touchC (Zaw ab) (5 : Int)))) (0 : Int))) (CacheV.oldL (Zaw (CacheV.code (CacheV.touchC (Zaw ab) (5 : Int)))) (0 : Int))) = (List.length (CacheV.oldL (Zaw (CacheV.code (CacheV.touchC (Zaw ab) (5 : Int)))) (0 : Int))) /\ (List.length (CacheV.oldL (Zaw (CacheV.code (CacheV.touchC (Zaw ab) (5 : Int)))) (0 : Int))) <= c /\ (List.length (CacheV.oldL (Zaw (CacheV.code (CacheV.touchC (Zaw ab) (5 : Int)))) (0 : Int))) <= 1000000) /\ (List.length ([7, 5] : List Int) = 2 /\ 2 <= 2 /\ 2 <= 1000000))))))) /\ ((((CacheV.hasB (Zaw ab) (5 : Int)) && ((List.take (List.length (CacheV.oldL (Zaw (CacheV.code (CacheV.touchC (Zaw ab) (5 : Int)))) (0 : Int))) (CacheV.oldL (Zaw (CacheV.code (CacheV.touchC (Zaw ab) (5 : Int)))) (0 : Int))) == ([7, 5] : List Int))) = true -> (((CacheV.Good (Zaw (CacheV.code (CacheV.touchC (Zaw ab) (5 : Int)))) /\ I64 (9 : Int))) /\ (((CacheV.setR (Zaw (CacheV.code (CacheV.touchC (Zaw ab) (5 : Int)))) (9 : Int) (3 : Int)) == 5) = true))) /\ (((CacheV.hasB (Zaw ab) (5 : Int)) && ((List.take (List.length (CacheV.oldL (Zaw (CacheV.code (CacheV.touchC (Zaw ab) (5 : Int)))) (0 : Int))) (CacheV.oldL (Zaw (CacheV.code (CacheV.touchC (Zaw ab) (5 : Int)))) (0 : Int))) == ([7, 5] : List Int))) = false -> (false = true)))))) /\ (((v2 == 0) && (v3 == 0)) = false -> ((false = true -> (((CacheV.Good (Zaw ab) /\ I64 (0 : Int))) /\ (∀ (ac : Nat), ((List.length (CacheV.oldL (Zaw ab) (0 : Int))) <= ac) -> ((((0 + (List.length (CacheV.oldL (Zaw ab) (0 : Int)))) <= (List.length (CacheV.oldL (Zaw ab) (0 : Int))))) /\ (((List.length (List.take (List.length (CacheV.oldL (Zaw ab) (0 : Int))) (CacheV.oldL (Zaw ab) (0 : Int))) = (List.length (CacheV.oldL (Zaw ab) (0 : Int))) /\ (List.length (CacheV.oldL (Zaw ab) (0 : Int))) <= ac /\ (List.length (CacheV.oldL (Zaw ab) (0 : Int))) <= 1000000) /\ (List.length ([7, 5] : List Int) = 2 /\ 2 <= 2 /\ 2 <= 1000000))))))) /\ (((false && ((List.take (List.length (CacheV.oldL (Zaw ab) (0 : Int))) (CacheV.oldL (Zaw ab) (0 : Int))) == ([7, 5] : List Int))) = true -> (((CacheV.Good (Zaw ab) /\ I64 (9 : Int))) /\ (((CacheV.setR (Zaw ab) (9 : Int) (3 : Int)) == 5) = true))) /\ ((false && ((List.take (List.length (CacheV.oldL (Zaw ab) (0 : Int))) (CacheV.oldL (Zaw ab) (0 : Int))) == ([7, 5] : List Int))) = false -> (false = true)))))
abbrev ZwD (x0 : SVal -> Heap -> Prop) : Prop := x0 (.bool true) ⟨0, []⟩
theorem Zv8 (hK : (ZwD Kf)) (v2 v3 : Int) (ab : List (Tup Zah)) (h : ZnQ v2 v3 ab) : SemL Try.prog w0 fp ρi 0 31 [Zfz, .ret] (Zyu v2 v3) (Yd8 ab) (fnK ZaW 0 Kf) :=
  Zap Zdd (Zt1 v2 v3 ab _ ⟨((v2 == 0) && (v3 == 0)), fun hc_qq => ⟨(ZcP _), (qa1 hc_qq)⟩, fun hc_qq => qa2 hc_qq, ⟨fun hc1 => ⟨(h.1 hc1).1, ⟨((CacheV.hasB (Zaw ab) (5 : Int)) && ((List.take (List.length (CacheV.oldL (Zaw (CacheV.code (CacheV.touchC (Zaw ab) (5 : Int)))) (0 : Int))) (CacheV.oldL (Zaw (CacheV.code (CacheV.touchC (Zaw ab) (5 : Int)))) (0 : Int))) == ([7, 5] : List Int))), fun hc_qq_1 => ⟨((h.1 hc1).2.1 hc_qq_1).1, (fun c h_c_0 => ⟨(((h.1 hc1).2.1 hc_qq_1).2 c h_c_0).1, ⟨(by decide), ⟨rfl, ⟨rfl, ⟨(((h.1 hc1).2.1 hc_qq_1).2 c h_c_0).2, ⟨(Zjv [0, 0] (by kernel_rfl) (by kernel_rfl)), (qa1 hc_qq_1)⟩⟩⟩⟩⟩⟩)⟩, fun hc_qq_1 => qa2 hc_qq_1, ⟨fun hc2 => ⟨((h.1 hc1).2.2.1 hc2).1, (ZaT (R := ZaW) (m := 0) (Kf := Kf) (fun _ _ h => h) (Zrd ab) (ZaK (Eq.mpr (cg1 (fun (z1 : Bool) => Zdr 0 Kf (.bool z1) ⟨1, []⟩) ((h.1 hc1).2.2.1 hc2).2) (Zaz [] [] rfl (by kernel_rfl) rfl pbd Zak rfl (by kernel_rfl) (hK)))))⟩, fun hc2 => (ZaT (R := ZaW) (m := 0) (Kf := Kf) (fun _ _ h => h) (Zrc) (ZaK (Eq.mpr (cg1 (fun (z1 : Bool) => Zdr 0 Kf (.bool z1) ⟨1, []⟩) ((h.1 hc1).2.2.2 hc2)) (Zaz [] [] rfl (by kernel_rfl) rfl pbd Zak rfl (by kernel_rfl) (hK)))))⟩⟩⟩, fun hc1 => ⟨(false && ((List.take (List.length (CacheV.oldL (Zaw ab) (0 : Int))) (CacheV.oldL (Zaw ab) (0 : Int))) == ([7, 5] : List Int))), fun hc_qq_2 => ⟨((h.2 hc1).1 hc_qq_2).1, (fun ac h_c_1_0 => ⟨(((h.2 hc1).1 hc_qq_2).2 ac h_c_1_0).1, ⟨(by decide), ⟨rfl, ⟨rfl, ⟨(((h.2 hc1).1 hc_qq_2).2 ac h_c_1_0).2, ⟨(Zjv [0] (by kernel_rfl) (by kernel_rfl)), (qa1 hc_qq_2)⟩⟩⟩⟩⟩⟩)⟩, fun hc_qq_2 => qa2 hc_qq_2, ⟨fun hc3 => ⟨((h.2 hc1).2.1 hc3).1, (ZaT (R := ZaW) (m := 0) (Kf := Kf) (fun _ _ h => h) (Zrb ab) (ZaK (Eq.mpr (cg1 (fun (z1 : Bool) => Zdr 0 Kf (.bool z1) ⟨1, []⟩) ((h.2 hc1).2.1 hc3).2) (Zaz [] [] rfl (by kernel_rfl) rfl pbd Zak rfl (by kernel_rfl) (hK)))))⟩, fun hc3 => (ZaT (R := ZaW) (m := 0) (Kf := Kf) (fun _ _ h => h) (Zra) (ZaK (Eq.mpr (cg1 (fun (z1 : Bool) => Zdr 0 Kf (.bool z1) ⟨1, []⟩) ((h.2 hc1).2.2 hc3)) (Zaz [] [] rfl (by kernel_rfl) rfl pbd Zak rfl (by kernel_rfl) (hK)))))⟩⟩⟩⟩)
abbrev ZxQ : Env := [(1, some (.ptr ⟨0, 0, 0, 1⟩ 2))]
theorem Zt0 (h0 : List (Tup Zah)) (Z : Env -> Heap -> Prop) (h : ((CacheV.Good (Zaw h0) /\ I64 (5 : Int))) /\ ((CacheV.Good (Zaw (CacheV.code (CacheV.setC (Zaw h0) (5 : Int) (1 : Int)))) /\ I64 (7 : Int))) /\ Z [(1, some (.ptr ⟨0, 0, 0, 1⟩ 2)), (2, some (.int .i64 (CacheV.setR (Zaw h0) (5 : Int) (1 : Int)))), (3, some (.int .i64 (CacheV.setR (Zaw (CacheV.code (CacheV.setC (Zaw h0) (5 : Int) (1 : Int)))) (7 : Int) (2 : Int))))] ⟨1, [(0, some ⟨false, [.rows Zah 0 (CacheV.code (CacheV.setC (Zaw (CacheV.code (CacheV.setC (Zaw h0) (5 : Int) (1 : Int)))) (7 : Int) (2 : Int)))], 2⟩)]⟩) : EvC Zc1 Zg1 ZxQ (Yd8 h0) [1, 2, 3] [0] Z := EvC.of (by kernel_rfl) h
def ZnP (h0 : List (Tup Zah)) : Prop := ((CacheV.Good (Zaw h0) /\ I64 (5 : Int))) /\ (((CacheV.Good (Zaw (CacheV.code (CacheV.setC (Zaw h0) (5 : Int) (1 : Int)))) /\ I64 (7 : Int))) /\ (∀ v2 : Int, v2 = (CacheV.setR (Zaw h0) (5 : Int) (1 : Int)) -> ∀ v3 : Int, v3 = (CacheV.setR (Zaw (CacheV.code (CacheV.setC (Zaw h0) (5 : Int) (1 : Int)))) (7 : Int) (2 : Int)) -> ∀ ab : List (Tup Zah), ab = (CacheV.code (CacheV.setC (Zaw (CacheV.code (CacheV.setC (Zaw h0) (5 : Int) (1 : Int)))) (7 : Int) (2 : Int))) -> ZnQ v2 v3 ab))
theorem Zv7 (hK : (ZwD Kf)) (h0 : List (Tup Zah)) (h : ZnP h0) : SemL Try.prog w0 fp ρi 0 31 [Zg1, (.seq Zfz .ret)] ZxQ (Yd8 h0) (fnK ZaW 0 Kf) :=
  Zap Zdd (Zt0 h0 _ ⟨h.1, ⟨h.2.1, (Zau (Zv8 hK (CacheV.setR (Zaw h0) (5 : Int) (1 : Int)) (CacheV.setR (Zaw (CacheV.code (CacheV.setC (Zaw h0) (5 : Int) (1 : Int)))) (7 : Int) (2 : Int)) (CacheV.code (CacheV.setC (Zaw (CacheV.code (CacheV.setC (Zaw h0) (5 : Int) (1 : Int)))) (7 : Int) (2 : Int))) (((h.2.2 (CacheV.setR (Zaw h0) (5 : Int) (1 : Int)) rfl) (CacheV.setR (Zaw (CacheV.code (CacheV.setC (Zaw h0) (5 : Int) (1 : Int)))) (7 : Int) (2 : Int)) rfl) (CacheV.code (CacheV.setC (Zaw (CacheV.code (CacheV.setC (Zaw h0) (5 : Int) (1 : Int)))) (7 : Int) (2 : Int))) rfl)))⟩⟩)
theorem ZtZ (Z : Env -> Heap -> Prop) (h : (True) /\ Z ZxQ ⟨1, [(0, some ⟨false, [.rows Zah 0 (CacheV.code (Zht (1 : Int) (2 : Int)))], 2⟩)]⟩) : EvC Zc1 ZiQ [] ⟨0, []⟩ [1] [0] Z := EvC.of (by kernel_rfl) h
def Zjf : Prop := ∀ h0 : List (Tup Zah), h0 = (CacheV.code (Zht (1 : Int) (2 : Int))) -> ZnP h0
theorem Zv6 (hK : (ZwD Kf)) (h : Zjf) : SemL Try.prog w0 fp ρi 0 31 [ZiQ, (.seq Zg1 (.seq Zfz .ret))] [] ⟨0, []⟩ (fnK ZaW 0 Kf) :=
  Zap Zdd (ZtZ _ ⟨True.intro, (Zau (Zv7 hK (CacheV.code (Zht (1 : Int) (2 : Int))) (h (CacheV.code (Zht (1 : Int) (2 : Int))) rfl)))⟩)
theorem ZtY (Z : Env -> Heap -> Prop) (h : Z [] ⟨0, []⟩) : EvC Zc1 Zld [] ⟨0, []⟩ [] [] Z := EvC.of (by kernel_rfl) h
theorem Zv5 (hK : (ZwD Kf)) (h : Zjf) : SemL Try.prog w0 fp ρi 0 31 [Zld, (.seq ZiQ (.seq Zg1 (.seq Zfz .ret)))] [] ⟨0, []⟩ (fnK ZaW 0 Kf) :=
  Zap Zdd (ZtY _ (Zau (Zv6 hK h)))
theorem Zmr (hK : (ZwD Kf)) (h : Zjf) : SemL Try.prog w0 fp ρi 0 31 [ZhI] [] ⟨0, []⟩ (fnK ZaW 0 Kf) :=
  (Zau (Zv5 hK h))
end
theorem Zkb (hpre : True) : Zjf := by
  unfold Zjf ZnP ZnQ
  simp only [Zbr]
  have e0 : Zht 1 2 = ⟨2, [[]]⟩ := rfl
  have e1 : (⟨2, [[]]⟩ : CacheV).setC 5 1 = ⟨2, [[(5, 1)]]⟩ := by rfl
  have r1 : (⟨2, [[]]⟩ : CacheV).setR 5 1 = 0 := by rfl
  have e2 : (⟨2, [[(5, 1)]]⟩ : CacheV).setC 7 2 = ⟨2, [[(5, 1), (7, 2)]]⟩ := by rfl
  have r2 : (⟨2, [[(5, 1)]]⟩ : CacheV).setR 7 2 = 0 := by rfl
  have e3 : (⟨2, [[(5, 1), (7, 2)]]⟩ : CacheV).touchC 5 = ⟨2, [[(7, 2), (5, 1)]]⟩ := by rfl
  have r3 : (⟨2, [[(5, 1), (7, 2)]]⟩ : CacheV).hasB 5 = true := by rfl
  have e4 : (⟨2, [[(7, 2), (5, 1)]]⟩ : CacheV).oldL 0 = [7, 5] := by rfl
  have r5 : (⟨2, [[(7, 2), (5, 1)]]⟩ : CacheV).setR 9 3 = 5 := by rfl
  have g : ∀ r : List (Int × Int), r.length <= 2 -> (⟨2, [r]⟩ : CacheV).Good := fun r hr => ⟨by show (1 : Int) <= 2; decide, by show (2 : Int) <= 64; decide, by show 0 < 1; decide, by show 1 <= 64; decide, fun x hx => by
    obtain rfl := List.mem_singleton.1 hx
    simp only; omega⟩
  rintro _ rfl
  simp only [Zbr]
  rw [e0]
  refine ⟨⟨g _ (by decide), by decide, by decide⟩, ⟨by rw [e1]; exact g _ (by decide), by decide, by decide⟩, ?_⟩
  rw [r1, e1, r2, e2]
  rintro _ rfl _ rfl _ rfl
  simp only [Zbr]
  rw [r3, e3, e4, r5]
  exact ⟨fun _ => ⟨⟨g _ (by decide), by decide, by decide⟩, fun _ => ⟨⟨g _ (by decide), by decide, by decide⟩, fun c hc => ⟨by decide, ⟨rfl, hc, by decide⟩, rfl, by decide, by decide⟩⟩, fun _ => ⟨⟨g _ (by decide), by decide, by decide⟩, rfl⟩, fun h => by cases h⟩, fun h => by cases h⟩
theorem Zmv : Sound Try.prog 15 (gS ZfG) := by
  refine ZaY Zg3 ?_
  intro args H K h
  obtain ⟨pre, out, hD, hpre, hK⟩ := ZcG h
  unfold ZfG at hD
  split at hD
  · cases hD
    exact ⟨rfl, fun w0 fp ρi => Zmr hK (Zkb hpre)⟩
  · cases hD
end Go.Proofs.Ytinjdimejijabaa
