/- Part of the proof: SxWaysS. -/
import Derived.Test.YtinjdimejijabaaSxOpnN
import Derived.Test.YtinjdimejijabaaSxMixT
import Derived.KernelRfl
set_option linter.unusedVariables false
set_option linter.unusedSimpArgs false
set_option maxRecDepth 20000
namespace Go.Proofs.Ytinjdimejijabaa
open Go.Sx
def Zjq : ZpA := fun ds => match ds with
  | [.sl false .i64 a_n a_c a, .sl false .i64 aa b_c b] => some (((List.length a = a_n /\ a_n <= a_c /\ a_n <= 1000000) /\ (List.length b = aa /\ aa <= b_c /\ aa <= 1000000)), [.pl (.bool (a == b))], [])
  | _ => none
def Zh2 : Con := ⟨23, dC Zjq, [], [.ints .i64 0 []], []⟩
def ZaY (a : List Int) (a_n a_c : Nat) (b : List Int) (aa b_c : Nat) (Kf : SVal -> Heap -> Prop) : Prop := Kf (.bool (a == b)) ⟨2, [(0, some ⟨false, [.ints .i64 a_n a], 0⟩), (1, some ⟨false, [.ints .i64 aa b], 0⟩)]⟩
def Zlk : ACode := .reg (.op (some 4) (.mov (.cn (.bool false))) .nil)
def Zi1 : ACode := .reg (.op (some 6) (.mov (.tm 0)) (.op (some 7) (.len (.tm 6)) (.op (some 8) (.mov (.tm 1)) (.op (some 9) (.len (.tm 8)) (.op (some 10) (.bin .neq (.tm 7) (.tm 9)) .nil)))))
def Zlj : ACode := .reg (.op (some 4) (.mov (.cn (.bool false))) .nil)
def Zi0 : ACode := .cond (.tm 10) (.seq Zlj .ret) .skip
def ZeK : ACode := .reg (.op (some 5) (.mov (.cn (.int .i64 0))) .nil)
def Zli : ACode := .reg (.op (some 11) (.mov (.tm 5)) (.op (some 12) (.mov (.tm 0)) (.op (some 13) (.len (.tm 12)) (.op (some 14) (.bin .lss (.tm 11) (.tm 13)) .nil))))
def Zlh : ACode := .cond (.tm 14) .skip (.exit 0)
def ZiZ : Items := .op (some 17) (.mov (.tm 0)) (.op (some 18) (.mov (.tm 5)) (.op (some 19) (.idxS (.tm 17) (.tm 18) 1) (.op (some 20) (.load1 (.tm 19)) (.op (some 21) (.mov (.tm 1)) (.op (some 22) (.mov (.tm 5)) (.op (some 23) (.idxS (.tm 21) (.tm 22) 1) (.op (some 24) (.load1 (.tm 23)) (.op (some 25) (.bin .neq (.tm 20) (.tm 24)) .nil))))))))
def Zpg : ACode := .regQ ZiZ
def Zlg : ACode := .reg (.op (some 4) (.mov (.cn (.bool false))) .nil)
def Zlf : ACode := .cond (.tm 25) (.seq Zlg .ret) .skip
def Zgs : ACode := .block 1 (.seq Zpg Zlf)
def Zdr : ACode := .reg (.op (some 15) (.mov (.tm 5)) (.op (some 16) (.bin .add (.tm 15) (.cn (.int .i64 1))) (.op (some 5) (.mov (.tm 16)) .nil)))
def ZmL : ACode := .loop (.seq (.seq Zli Zlh) (.seq Zgs Zdr))
def Zdq : ACode := .block 0 ZmL
def Zb0 : ACode := .reg (.op (some 4) (.mov (.cn (.bool true))) .nil)
def ZmN : ACode := (.seq Zlk (.seq (.seq Zi1 Zi0) (.seq (.seq ZeK Zdq) (.seq Zb0 .ret))))
def Za8 : Res := .one (.tm 4)
theorem Zjh : ZbR Try.prog 23 2 26 ZmN Za8 = true := by kernel_rfl
def Zb2 : ZaC := ZdE [] []
theorem ZbI : ZaR Try.prog Zb2 := Zba trivial trivial
section
variable {w0 : World} {fp : Nat -> Nat -> Prop} {ρi : Rho} {Kf : SVal -> Heap -> Prop}
abbrev Yd0 : Env := [(4, some (.bool false))]
abbrev Yd1 (x0 : Nat) (x1 : List Int) (x2 : Nat) (x3 : List Int) : Heap := ⟨2, [(0, some ⟨false, [.ints .i64 x0 x1], 0⟩), (1, some ⟨false, [.ints .i64 x2 x3], 0⟩)]⟩
theorem ZtV (a : List Int) (a_n a_c : Nat) (b : List Int) (aa b_c : Nat) (Z : Env -> Heap -> Prop) (h : Z Yd0 (Yd1 a_n a aa b)) : EvC Zb2 Zlj [] (Yd1 a_n a aa b) [4] [0, 1] Z := EvC.of (by kernel_rfl) h
theorem Zro (a : List Int) (a_n a_c : Nat) (b : List Int) (aa b_c : Nat) : RetC Za8 Yd0 (Yd1 a_n a aa b) (.bool false) := RetC.of (fun Z => by kernel_rfl)
def Zn1 (a : List Int) (a_n a_c : Nat) (b : List Int) (aa b_c : Nat) : Prop := false = (a == b)
theorem Zv5 (a : List Int) (a_n a_c : Nat) (b : List Int) (aa b_c : Nat) (hK : ZaY a a_n a_c b aa b_c Kf) (h : Zn1 a a_n a_c b aa b_c) : SemL Try.prog w0 fp ρi 2 26 [Zlj, .ret, (.seq (.seq ZeK Zdq) (.seq Zb0 .ret))] [] (Yd1 a_n a aa b) (fnK Za8 2 Kf) :=
  Zap ZbI (ZtV a a_n a_c b aa b_c _ (ZaV (R := Za8) (m := 2) (Kf := Kf) (fun _ _ h => h) (Zro a a_n a_c b aa b_c) (Eq.mpr (cg1 (fun (z1 : Bool) => Ret 2 Kf (.bool z1) (Yd1 a_n a aa b)) h) (ZgF [] [0, 1] rfl rfl (by kernel_rfl) pbd (hsc pcs (hsc pcs Zan)) (by kernel_rfl) rfl (hK)))))
def ZoV (w0 : World) (fp : Nat -> Nat -> Prop) (ρi : Rho) (Kf : SVal -> Heap -> Prop) (a : List Int) (a_n a_c : Nat) (b : List Int) (aa b_c : Nat) : ZdD := Zcb 0 (fun e H => SemL Try.prog w0 fp ρi 2 26 [(.seq Zb0 .ret)] e H (fnK Za8 2 Kf)) (fnK Za8 2 Kf)
def ZoZ (a : List Int) (a_n a_c : Nat) (b : List Int) (aa b_c : Nat) : Int -> Prop := fun s => match s with | v5 => 0 <= v5 /\ v5 <= (a_n : Int) /\ a_n = aa /\ List.take (Int.toNat v5) a = List.take (Int.toNat v5) b
def ZoL (a : List Int) (a_n a_c : Nat) (b : List Int) (aa b_c : Nat) : Int -> Nat := fun s => match s with | v5 => (((a_n : Int) - v5).toNat)
def ZoR (a : List Int) (a_n a_c : Nat) (b : List Int) (aa b_c : Nat) : Int -> Env := fun s => match s with | v5 => [(0, some (.slice ⟨0, 0, 0, 1⟩ a_n a_c)), (1, some (.slice ⟨1, 0, 0, 1⟩ aa b_c)), (5, some (.int .i64 v5))]
def ZoO (a : List Int) (a_n a_c : Nat) (b : List Int) (aa b_c : Nat) : Int -> Heap := fun s => match s with | v5 => ⟨2, [(0, some ⟨false, [.ints .i64 a_n a], 0⟩), (1, some ⟨false, [.ints .i64 aa b], 0⟩)]⟩
def ZfF (w0 : World) (fp : Nat -> Nat -> Prop) (ρi : Rho) (Kf : SVal -> Heap -> Prop) (a : List Int) (a_n a_c : Nat) (b : List Int) (aa b_c : Nat) (v5 : Int) : ZdD := ZkG 2 (ZoZ a a_n a_c b aa b_c) (ZoL a a_n a_c b aa b_c) (ZoR a a_n a_c b aa b_c) (ZoO a a_n a_c b aa b_c) v5 (ZoV w0 fp ρi Kf a a_n a_c b aa b_c)
def ZkH (w0 : World) (fp : Nat -> Nat -> Prop) (ρi : Rho) (Kf : SVal -> Heap -> Prop) (a : List Int) (a_n a_c : Nat) (b : List Int) (aa b_c : Nat) (v5 : Int) : ZdD := Zcb 1 (fun e H => SemL Try.prog w0 fp ρi 2 26 [Zdr] e H (ZfF w0 fp ρi Kf a a_n a_c b aa b_c v5)) (ZfF w0 fp ρi Kf a a_n a_c b aa b_c v5)
theorem ZtU (a : List Int) (a_n a_c : Nat) (b : List Int) (aa b_c : Nat) (v5 : Int) (Z : Env -> Heap -> Prop) (h : Z Yd0 (Yd1 a_n a aa b)) : EvC Zb2 Zlg [] (Yd1 a_n a aa b) [4] [0, 1] Z := EvC.of (by kernel_rfl) h
theorem Zrn (a : List Int) (a_n a_c : Nat) (b : List Int) (aa b_c : Nat) : RetC Za8 Yd0 (Yd1 a_n a aa b) (.bool false) := RetC.of (fun Z => by kernel_rfl)
def Zn0 (a : List Int) (a_n a_c : Nat) (b : List Int) (aa b_c : Nat) (v5 : Int) : Prop := false = (a == b)
theorem Zv4 (a : List Int) (a_n a_c : Nat) (b : List Int) (aa b_c : Nat) (hK : ZaY a a_n a_c b aa b_c Kf) (v5 : Int) (h : Zn0 a a_n a_c b aa b_c v5) : SemL Try.prog w0 fp ρi 2 26 [Zlg, .ret] [] (Yd1 a_n a aa b) (ZkH w0 fp ρi Kf a a_n a_c b aa b_c v5) :=
  Zap ZbI (ZtU a a_n a_c b aa b_c v5 _ (ZaV (R := Za8) (m := 2) (Kf := Kf) (fun _ _ h => h) (Zrn a a_n a_c b aa b_c) (Eq.mpr (cg1 (fun (z1 : Bool) => Ret 2 Kf (.bool z1) (Yd1 a_n a aa b)) h) (ZgF [] [0, 1] rfl rfl (by kernel_rfl) pbd (hsc pcs (hsc pcs Zan)) (by kernel_rfl) rfl (hK)))))
abbrev Yd2 (x0 x1 x2 x3 : Nat) (x4 : Int) : Env := [(0, some (.slice ⟨0, 0, 0, 1⟩ x0 x1)), (1, some (.slice ⟨1, 0, 0, 1⟩ x2 x3)), (5, some (.int .i64 x4))]
theorem ZtT (a : List Int) (a_n a_c : Nat) (b : List Int) (aa b_c : Nat) (v5 : Int) (Z : Env -> Heap -> Prop) (h : Z [(0, some (.slice ⟨0, 0, 0, 1⟩ a_n a_c)), (1, some (.slice ⟨1, 0, 0, 1⟩ aa b_c)), (5, some (.int .i64 (IntKind.i64.wrap (v5 + 1))))] (Yd1 a_n a aa b)) : EvC Zb2 Zdr (Yd2 a_n a_c aa b_c v5) (Yd1 a_n a aa b) [0, 1, 5] [0, 1] Z := EvC.of (by kernel_rfl) h
def ZnZ (a : List Int) (a_n a_c : Nat) (b : List Int) (aa b_c : Nat) (v5 : Int) : Prop := (0 <= (IntKind.i64.wrap (v5 + 1)) /\ (IntKind.i64.wrap (v5 + 1)) <= (a_n : Int) /\ a_n = aa /\ List.take (Int.toNat (IntKind.i64.wrap (v5 + 1))) a = List.take (Int.toNat (IntKind.i64.wrap (v5 + 1))) b) /\ ((((a_n : Int) - (IntKind.i64.wrap (v5 + 1))).toNat) < (((a_n : Int) - v5).toNat))
theorem Zv3 (a : List Int) (a_n a_c : Nat) (b : List Int) (aa b_c : Nat) (hK : ZaY a a_n a_c b aa b_c Kf) (v5 : Int) (h : ZnZ a a_n a_c b aa b_c v5) : SemL Try.prog w0 fp ρi 2 26 [Zdr] (Yd2 a_n a_c aa b_c v5) (Yd1 a_n a aa b) (ZfF w0 fp ρi Kf a a_n a_c b aa b_c v5) :=
  Zap ZbI (ZtT a a_n a_c b aa b_c v5 _ (Zci (ZdR (x' := (IntKind.i64.wrap (v5 + 1))) (τ := tau []) h.1 h.2 (ZbE [] [0, 1] rfl rfl (esc bsl (esc bsl (esc pbd Zbc))) (hsc pcs (hsc pcs Zan)) (by kernel_rfl) rfl))))
def ZnY (a : List Int) (a_n a_c : Nat) (b : List Int) (aa b_c : Nat) (v5 : Int) : Prop := (((List.getD a (0 + (Int.toNat v5)) 0) != (List.getD b (0 + (Int.toNat v5)) 0)) = true -> (Zn0 a a_n a_c b aa b_c v5)) /\ (((List.getD a (0 + (Int.toNat v5)) 0) != (List.getD b (0 + (Int.toNat v5)) 0)) = false -> (ZnZ a a_n a_c b aa b_c v5))
abbrev Yd3 (x0 x1 x2 x3 : Nat) (x4 : Int) (x5 x6 : List Int) : Env := [(0, some (.slice ⟨0, 0, 0, 1⟩ x0 x1)), (1, some (.slice ⟨1, 0, 0, 1⟩ x2 x3)), (5, some (.int .i64 x4)), (25, some (.bool ((List.getD x5 (0 + (Int.toNat x4)) 0) != (List.getD x6 (0 + (Int.toNat x4)) 0))))]
theorem Zv2 (a : List Int) (a_n a_c : Nat) (b : List Int) (aa b_c : Nat) (hK : ZaY a a_n a_c b aa b_c Kf) (v5 : Int) (h : ZnY a a_n a_c b aa b_c v5) : SemL Try.prog w0 fp ρi 2 26 [Zlf] (Yd3 a_n a_c aa b_c v5 a b) (Yd1 a_n a aa b) (ZkH w0 fp ρi Kf a a_n a_c b aa b_c v5) :=
  Za4 (q := ((List.getD a (0 + (Int.toNat v5)) 0) != (List.getD b (0 + (Int.toNat v5)) 0))) (by kernel_rfl) (fun hq => (Zav (lpk [] [0, 1] (Zv4 a a_n a_c b aa b_c hK v5 (h.1 hq))))) (fun hq => (ZbT (Zci (lpk [0, 1, 5] [0, 1] (Zv3 a a_n a_c b aa b_c hK v5 (h.2 hq))))))
theorem ZtS (a : List Int) (a_n a_c : Nat) (b : List Int) (aa b_c : Nat) (v5 : Int) (Z : Env -> Heap -> Prop) (h : ((0 <= v5)) /\ ((v5 < ((a_n : Nat) : Int))) /\ (((0 + (Int.toNat v5)) < a_n)) /\ ((0 <= v5)) /\ ((v5 < ((aa : Nat) : Int))) /\ (((0 + (Int.toNat v5)) < aa)) /\ Z (Yd3 a_n a_c aa b_c v5 a b) (Yd1 a_n a aa b)) : EvQC Zb2 ZiZ [] (Yd2 a_n a_c aa b_c v5) (Yd1 a_n a aa b) [0, 1, 5, 25] [0, 1] Z := EvQC.of (by kernel_rfl) h
def Zl9 (a : List Int) (a_n a_c : Nat) (b : List Int) (aa b_c : Nat) (v5 : Int) : Prop := ((0 <= v5)) /\ (((v5 < ((a_n : Nat) : Int))) /\ ((((0 + (Int.toNat v5)) < a_n)) /\ (((0 <= v5)) /\ (((v5 < ((aa : Nat) : Int))) /\ ((((0 + (Int.toNat v5)) < aa)) /\ (ZnY a a_n a_c b aa b_c v5))))))
theorem Zv1 (a : List Int) (a_n a_c : Nat) (b : List Int) (aa b_c : Nat) (hK : ZaY a a_n a_c b aa b_c Kf) (v5 : Int) (h : Zl9 a a_n a_c b aa b_c v5) : SemL Try.prog w0 fp ρi 2 26 [Zpg, Zlf] (Yd2 a_n a_c aa b_c v5) (Yd1 a_n a aa b) (ZkH w0 fp ρi Kf a a_n a_c b aa b_c v5) :=
  ZeV ZbI (its := ZiZ) (ZtS a a_n a_c b aa b_c v5 _ ⟨h.1, ⟨h.2.1, ⟨h.2.2.1, ⟨h.2.2.2.1, ⟨h.2.2.2.2.1, ⟨h.2.2.2.2.2.1, (Zv2 a a_n a_c b aa b_c hK v5 h.2.2.2.2.2.2)⟩⟩⟩⟩⟩⟩)
theorem Zv0 (a : List Int) (a_n a_c : Nat) (b : List Int) (aa b_c : Nat) (hK : ZaY a a_n a_c b aa b_c Kf) (v5 : Int) (h : Zl9 a a_n a_c b aa b_c v5) : SemL Try.prog w0 fp ρi 2 26 [Zgs, Zdr] (Yd2 a_n a_c aa b_c v5) (Yd1 a_n a aa b) (ZfF w0 fp ρi Kf a a_n a_c b aa b_c v5) :=
  ZbO (Zav (Zv1 a a_n a_c b aa b_c hK v5 h))
theorem ZtR (a : List Int) (a_n a_c : Nat) (b : List Int) (aa b_c : Nat) (Z : Env -> Heap -> Prop) (h : Z [(4, some (.bool true))] (Yd1 a_n a aa b)) : EvC Zb2 Zb0 [] (Yd1 a_n a aa b) [4] [0, 1] Z := EvC.of (by kernel_rfl) h
theorem Zrm (a : List Int) (a_n a_c : Nat) (b : List Int) (aa b_c : Nat) : RetC Za8 [(4, some (.bool true))] (Yd1 a_n a aa b) (.bool true) := RetC.of (fun Z => by kernel_rfl)
def ZnX (a : List Int) (a_n a_c : Nat) (b : List Int) (aa b_c : Nat) : Prop := true = (a == b)
theorem ZvZ (a : List Int) (a_n a_c : Nat) (b : List Int) (aa b_c : Nat) (hK : ZaY a a_n a_c b aa b_c Kf) (h : ZnX a a_n a_c b aa b_c) : SemL Try.prog w0 fp ρi 2 26 [Zb0, .ret] [] (Yd1 a_n a aa b) (fnK Za8 2 Kf) :=
  Zap ZbI (ZtR a a_n a_c b aa b_c _ (ZaV (R := Za8) (m := 2) (Kf := Kf) (fun _ _ h => h) (Zrm a a_n a_c b aa b_c) (Eq.mpr (cg1 (fun (z1 : Bool) => Ret 2 Kf (.bool z1) (Yd1 a_n a aa b)) h) (ZgF [] [0, 1] rfl rfl (by kernel_rfl) pbd (hsc pcs (hsc pcs Zan)) (by kernel_rfl) rfl (hK)))))
def Zl8 (a : List Int) (a_n a_c : Nat) (b : List Int) (aa b_c : Nat) (v5 : Int) : Prop := ((decide (v5 < ((a_n : Nat) : Int))) = true -> (Zl9 a a_n a_c b aa b_c v5)) /\ ((decide (v5 < ((a_n : Nat) : Int))) = false -> (ZnX a a_n a_c b aa b_c))
abbrev Yd4 (x0 x1 x2 x3 : Nat) (x4 : Int) : Env := [(0, some (.slice ⟨0, 0, 0, 1⟩ x0 x1)), (1, some (.slice ⟨1, 0, 0, 1⟩ x2 x3)), (5, some (.int .i64 x4)), (14, some (.bool (decide (x4 < ((x0 : Nat) : Int)))))]
theorem ZvY (a : List Int) (a_n a_c : Nat) (b : List Int) (aa b_c : Nat) (hK : ZaY a a_n a_c b aa b_c Kf) (v5 : Int) (h : Zl8 a a_n a_c b aa b_c v5) : SemL Try.prog w0 fp ρi 2 26 [Zlh, (.seq Zgs Zdr)] (Yd4 a_n a_c aa b_c v5) (Yd1 a_n a aa b) (ZfF w0 fp ρi Kf a a_n a_c b aa b_c v5) :=
  Za4 (q := (decide (v5 < ((a_n : Nat) : Int)))) (by kernel_rfl) (fun hq => (ZbT (lpk [0, 1, 5] [0, 1] (Zav (Zv0 a a_n a_c b aa b_c hK v5 (h.1 hq)))))) (fun hq => (Zh7 (lpk [] [0, 1] (Zav (ZvZ a a_n a_c b aa b_c hK (h.2 hq))))))
theorem ZtQ (a : List Int) (a_n a_c : Nat) (b : List Int) (aa b_c : Nat) (v5 : Int) (Z : Env -> Heap -> Prop) (h : Z (Yd4 a_n a_c aa b_c v5) (Yd1 a_n a aa b)) : EvC Zb2 Zli (Yd2 a_n a_c aa b_c v5) (Yd1 a_n a aa b) [0, 1, 5, 14] [0, 1] Z := EvC.of (by kernel_rfl) h
theorem ZvX (a : List Int) (a_n a_c : Nat) (b : List Int) (aa b_c : Nat) (hK : ZaY a a_n a_c b aa b_c Kf) (v5 : Int) (h : Zl8 a a_n a_c b aa b_c v5) : SemL Try.prog w0 fp ρi 2 26 [Zli, Zlh, (.seq Zgs Zdr)] (Yd2 a_n a_c aa b_c v5) (Yd1 a_n a aa b) (ZfF w0 fp ρi Kf a a_n a_c b aa b_c v5) :=
  Zap ZbI (ZtQ a a_n a_c b aa b_c v5 _ (ZvY a a_n a_c b aa b_c hK v5 h))
def ZjD (a : List Int) (a_n a_c : Nat) (b : List Int) (aa b_c : Nat) : Prop := (0 <= (0 : Int) /\ (0 : Int) <= (a_n : Int) /\ a_n = aa /\ List.take (Int.toNat (0 : Int)) a = List.take (Int.toNat (0 : Int)) b) /\ (∀ (v5 : Int), (0 <= v5 /\ v5 <= (a_n : Int) /\ a_n = aa /\ List.take (Int.toNat v5) a = List.take (Int.toNat v5) b) -> (Zl8 a a_n a_c b aa b_c v5))
abbrev Yd5 (x0 x1 x2 x3 : Nat) : Env := [(0, some (.slice ⟨0, 0, 0, 1⟩ x0 x1)), (1, some (.slice ⟨1, 0, 0, 1⟩ x2 x3)), (5, some (.int .i64 0))]
theorem ZvW (a : List Int) (a_n a_c : Nat) (b : List Int) (aa b_c : Nat) (hK : ZaY a a_n a_c b aa b_c Kf) (h : ZjD a a_n a_c b aa b_c) : SemL Try.prog w0 fp ρi 2 26 [ZmL] (Yd5 a_n a_c aa b_c) (Yd1 a_n a aa b) (ZoV w0 fp ρi Kf a a_n a_c b aa b_c) :=
  Zkq (ZoZ a a_n a_c b aa b_c) (ZoL a a_n a_c b aa b_c) (ZoR a a_n a_c b aa b_c) (ZoO a a_n a_c b aa b_c) ⟨0, tau [], h.1, (ZbE [] [0, 1] rfl rfl (esc bsl (esc bsl (esc pbd Zbc))) (hsc pcs (hsc pcs Zan)) (by kernel_rfl) rfl)⟩ (fun s => match s with | v5 => fun hi => (Zav (Zav (ZvX a a_n a_c b aa b_c hK v5 (h.2 v5 hi)))))
theorem ZrW (a : List Int) (a_n a_c : Nat) (b : List Int) (aa b_c : Nat) (hK : ZaY a a_n a_c b aa b_c Kf) (h : ZjD a a_n a_c b aa b_c) : SemL Try.prog w0 fp ρi 2 26 [Zdq, (.seq Zb0 .ret)] (Yd5 a_n a_c aa b_c) (Yd1 a_n a aa b) (fnK Za8 2 Kf) :=
  ZbO (ZvW a a_n a_c b aa b_c hK h)
abbrev Yd6 (x0 x1 x2 x3 : Nat) : Env := [(0, some (.slice ⟨0, 0, 0, 1⟩ x0 x1)), (1, some (.slice ⟨1, 0, 0, 1⟩ x2 x3))]
theorem Zq2 (a : List Int) (a_n a_c : Nat) (b : List Int) (aa b_c : Nat) (Z : Env -> Heap -> Prop) (h : Z (Yd5 a_n a_c aa b_c) (Yd1 a_n a aa b)) : EvC Zb2 ZeK (Yd6 a_n a_c aa b_c) (Yd1 a_n a aa b) [0, 1, 5] [0, 1] Z := EvC.of (by kernel_rfl) h
theorem ZrV (a : List Int) (a_n a_c : Nat) (b : List Int) (aa b_c : Nat) (hK : ZaY a a_n a_c b aa b_c Kf) (h : ZjD a a_n a_c b aa b_c) : SemL Try.prog w0 fp ρi 2 26 [ZeK, Zdq, (.seq Zb0 .ret)] (Yd6 a_n a_c aa b_c) (Yd1 a_n a aa b) (fnK Za8 2 Kf) :=
  Zap ZbI (Zq2 a a_n a_c b aa b_c _ (ZrW a a_n a_c b aa b_c hK h))
def Zfy (a : List Int) (a_n a_c : Nat) (b : List Int) (aa b_c : Nat) : Prop := ((((a_n : Nat) : Int) != ((aa : Nat) : Int)) = true -> (Zn1 a a_n a_c b aa b_c)) /\ ((((a_n : Nat) : Int) != ((aa : Nat) : Int)) = false -> (ZjD a a_n a_c b aa b_c))
abbrev Yd7 (x0 x1 x2 x3 : Nat) : Env := [(0, some (.slice ⟨0, 0, 0, 1⟩ x0 x1)), (1, some (.slice ⟨1, 0, 0, 1⟩ x2 x3)), (10, some (.bool (((x0 : Nat) : Int) != ((x2 : Nat) : Int))))]
theorem ZrU (a : List Int) (a_n a_c : Nat) (b : List Int) (aa b_c : Nat) (hK : ZaY a a_n a_c b aa b_c Kf) (h : Zfy a a_n a_c b aa b_c) : SemL Try.prog w0 fp ρi 2 26 [Zi0, (.seq (.seq ZeK Zdq) (.seq Zb0 .ret))] (Yd7 a_n a_c aa b_c) (Yd1 a_n a aa b) (fnK Za8 2 Kf) :=
  Za4 (q := (((a_n : Nat) : Int) != ((aa : Nat) : Int))) (by kernel_rfl) (fun hq => (Zav (lpk [] [0, 1] (Zv5 a a_n a_c b aa b_c hK (h.1 hq))))) (fun hq => (ZbT (lpk [0, 1] [0, 1] (Zav (Zav (ZrV a a_n a_c b aa b_c hK (h.2 hq)))))))
theorem Zq1 (a : List Int) (a_n a_c : Nat) (b : List Int) (aa b_c : Nat) (Z : Env -> Heap -> Prop) (h : Z (Yd7 a_n a_c aa b_c) (Yd1 a_n a aa b)) : EvC Zb2 Zi1 (Yd6 a_n a_c aa b_c) (Yd1 a_n a aa b) [0, 1, 10] [0, 1] Z := EvC.of (by kernel_rfl) h
theorem ZrT (a : List Int) (a_n a_c : Nat) (b : List Int) (aa b_c : Nat) (hK : ZaY a a_n a_c b aa b_c Kf) (h : Zfy a a_n a_c b aa b_c) : SemL Try.prog w0 fp ρi 2 26 [Zi1, Zi0, (.seq (.seq ZeK Zdq) (.seq Zb0 .ret))] (Yd6 a_n a_c aa b_c) (Yd1 a_n a aa b) (fnK Za8 2 Kf) :=
  Zap ZbI (Zq1 a a_n a_c b aa b_c _ (ZrU a a_n a_c b aa b_c hK h))
theorem Zq0 (a : List Int) (a_n a_c : Nat) (b : List Int) (aa b_c : Nat) (Z : Env -> Heap -> Prop) (h : Z (Yd6 a_n a_c aa b_c) (Yd1 a_n a aa b)) : EvC Zb2 Zlk (Yd6 a_n a_c aa b_c) (Yd1 a_n a aa b) [0, 1] [0, 1] Z := EvC.of (by kernel_rfl) h
theorem ZrS (a : List Int) (a_n a_c : Nat) (b : List Int) (aa b_c : Nat) (hK : ZaY a a_n a_c b aa b_c Kf) (h : Zfy a a_n a_c b aa b_c) : SemL Try.prog w0 fp ρi 2 26 [Zlk, (.seq (.seq Zi1 Zi0) (.seq (.seq ZeK Zdq) (.seq Zb0 .ret)))] (Yd6 a_n a_c aa b_c) (Yd1 a_n a aa b) (fnK Za8 2 Kf) :=
  Zap ZbI (Zq0 a a_n a_c b aa b_c _ (Zav (Zav (ZrT a a_n a_c b aa b_c hK h))))
theorem ZpF (a : List Int) (a_n a_c : Nat) (b : List Int) (aa b_c : Nat) (hK : ZaY a a_n a_c b aa b_c Kf) (h : Zfy a a_n a_c b aa b_c) : SemL Try.prog w0 fp ρi 2 26 [ZmN] (Yd6 a_n a_c aa b_c) (Yd1 a_n a aa b) (fnK Za8 2 Kf) :=
  (Zav (ZrS a a_n a_c b aa b_c hK h))
end
theorem ZoF (a : List Int) (a_n a_c : Nat) (b : List Int) (aa b_c : Nat) (hpre : ((List.length a = a_n /\ a_n <= a_c /\ a_n <= 1000000) /\ (List.length b = aa /\ aa <= b_c /\ aa <= 1000000))) : Zfy a a_n a_c b aa b_c := by
  unfold Zfy ZjD Zl8 ZnX Zl9 ZnY ZnZ Zn0 Zn1
  obtain ⟨⟨ha, -, ha2⟩, hb, -, hb2⟩ := hpre
  refine ⟨fun h => ?_, fun h => ⟨?_, ?_⟩⟩
  · simp only [bne_iff_ne, ne_eq] at h
    exact (beq_eq_false_iff_ne.2 fun he => h (by rw [<- ha, <- hb, he])).symm
  · simp only [bne_eq_false_iff_eq] at h
    exact ⟨by omega, by omega, by omega, rfl⟩
  · rintro i ⟨h0, h1, rfl, ht⟩
    refine ⟨fun hlt => ?_, fun hge => ?_⟩
    · have hlt := of_decide_eq_true hlt
      refine ⟨h0, hlt, by omega, h0, hlt, by omega, fun hd => ?_, fun hd => ?_⟩
      · simp only [bne_iff_ne, ne_eq] at hd
        exact (beq_eq_false_iff_ne.2 fun he => hd (by rw [he])).symm
      · simp only [bne_eq_false_iff_eq, Nat.zero_add] at hd
        have e1 : IntKind.i64.wrap (i + 1) = i + 1 := by rw [ZqN]; omega
        have e2 : (i + 1).toNat = i.toNat + 1 := by omega
        rw [e1, e2, Zeu (by omega), Zeu (by omega), ht, hd]
        exact ⟨⟨by omega, by omega, rfl, rfl⟩, by omega⟩
    · have hge := of_decide_eq_false hge
      rw [List.take_of_length_le (by omega), List.take_of_length_le (by omega)] at ht
      rw [ht]; simp
theorem sq11Same : Sound Try.prog 23 (dS Zjq) := by
  refine ZaZ Zjh ?_
  rintro args H K ⟨ds, rfl, rfl, h⟩
  split at h
  · rename_i pre rs ws hD
    obtain ⟨hpre, hK⟩ := h
    unfold Zjq at hD
    split at hD
    · cases hD
      exact ⟨rfl, fun w0 fp ρi => ZpF _ _ _ _ _ _ hK (ZoF _ _ _ _ _ _ hpre)⟩
    · cases hD
  · exact h.elim
def ZfS : Zeb := fun args H => match args, H with
  | [], ⟨0, []⟩ => some (True, fun K => K (.bool true) ⟨0, []⟩)
  | _, _ => none
def Zkc : Con := ⟨15, gS ZfS, [], [], []⟩
def ZlB : ACode := .reg (.op (some 0) (.mov (.cn (.bool false))) .nil)
def Zjg : ACode := .reg (.op (some 4) (.build [.i 0, .i 0] [(0, 1, (.cn (.int .i64 1))), (1, 1, (.cn (.int .i64 2)))]) (.op (some 5) (.call 16 [(.tm 4)]) (.op (some 1) (.mov (.tm 5)) .nil)))
def Zhl : ACode := .reg (.op (some 6) (.mov (.tm 1)) (.op (some 7) (.call 17 [(.tm 6), (.cn (.int .i64 5)), (.cn (.int .i64 1))]) (.op (some 8) (.mov (.tm 1)) (.op (some 9) (.call 17 [(.tm 8), (.cn (.int .i64 7)), (.cn (.int .i64 2))]) (.op (some 2) (.mov (.tm 7)) (.op (some 3) (.mov (.tm 9)) .nil))))))
def ZfL : ACode := .reg (.op (some 10) (.mov (.tm 2)) (.op (some 11) (.bin .eql (.tm 10) (.cn (.int .i64 0))) (.op (some 12) (.mov (.tm 11)) (.grpJ 12 true (.op (some 13) (.mov (.tm 3)) (.op (some 14) (.bin .eql (.tm 13) (.cn (.int .i64 0))) .nil)) 15 (.tm 14) (.cn (.bool false)) (.op (some 16) (.mov (.tm 15)) (.grp 16 true (.op (some 17) (.mov (.tm 1)) (.op (some 18) (.call 20 [(.tm 17), (.cn (.int .i64 5))]) .nil)) (.op (some 19) (.pick (.tm 16) (.tm 18) (.cn (.bool false))) (.op (some 20) (.mov (.tm 19)) (.grpJ 20 true (.op (some 21) (.mov (.tm 1)) (.op (some 22) (.call 21 [(.tm 21), (.cn (.int .i64 0))]) (.op (some 23) (.bslice .i64 2 [(0, (.cn (.int .i64 7))), (1, (.cn (.int .i64 5)))]) (.op (some 24) (.call 23 [(.tm 22), (.tm 23)]) .nil)))) 25 (.tm 24) (.cn (.bool false)) (.op (some 26) (.mov (.tm 25)) (.grp 26 true (.op (some 27) (.mov (.tm 1)) (.op (some 28) (.call 17 [(.tm 27), (.cn (.int .i64 9)), (.cn (.int .i64 3))]) (.op (some 29) (.bin .eql (.tm 28) (.cn (.int .i64 5))) .nil))) (.op (some 30) (.pick (.tm 26) (.tm 29) (.cn (.bool false))) (.op (some 0) (.mov (.tm 30)) .nil)))))))))))))
def Zh1 : ACode := (.seq ZlB (.seq Zjg (.seq Zhl (.seq ZfL .ret))))
def ZaX : Res := .one (.tm 0)
theorem Zhn : ZbR Try.prog 15 0 31 Zh1 ZaX = true := by kernel_rfl
def Zda : ZaC := ZpH ZqP ZqO (ZdE [] [Zh2])
theorem Zdk : ZaR Try.prog Zda := ZlT ZlV ZlU (Zba trivial ⟨sq11Same.dC, trivial⟩)
section
variable {w0 : World} {fp : Nat -> Nat -> Prop} {ρi : Rho} {Kf : SVal -> Heap -> Prop}
abbrev Yd8 (x0 : List (Tup Zac)) : Heap := ⟨1, [(0, some ⟨false, [.rows Zac 0 x0], 2⟩)]⟩
abbrev Yd9 (x0 : List (Tup Zac)) : Env := [(0, some (.bool ((CacheV.setR (Zam (CacheV.code (CacheV.touchC (Zam x0) (5 : Int)))) (9 : Int) (3 : Int)) == 5)))]
abbrev ZxW : Env := [(0, some (.bool false))]
abbrev Zzu (x0 x1 : Int) : Env := [(1, some (.ptr ⟨0, 0, 0, 1⟩ 2)), (2, some (.int .i64 x0)), (3, some (.int .i64 x1))]
theorem ZuI (v2 v3 : Int) (ab : List (Tup Zac)) (Z : Env -> Heap -> Prop) (h : ∃ qq : Bool, ((v2 == 0) = true -> (Zbp (Yd8 ab) (Yd8 ab) [(0, some ⟨false, [.rows Zac 0 ab], 2⟩)]) /\ (v3 == 0) = qq) /\ ((v2 == 0) = false -> false = qq) /\ (qq = true -> ((CacheV.Good (Zam ab) /\ I64 (5 : Int))) /\ ∃ qq'1 : Bool, ((CacheV.hasB (Zam ab) (5 : Int)) = true -> ((CacheV.Good (Zam (CacheV.code (CacheV.touchC (Zam ab) (5 : Int)))) /\ I64 (0 : Int))) /\ ∀ (c : Nat), (List.length (CacheV.oldL (Zam (CacheV.code (CacheV.touchC (Zam ab) (5 : Int)))) (0 : Int))) <= c -> (((0 + (List.length (CacheV.oldL (Zam (CacheV.code (CacheV.touchC (Zam ab) (5 : Int)))) (0 : Int)))) <= (List.length (CacheV.oldL (Zam (CacheV.code (CacheV.touchC (Zam ab) (5 : Int)))) (0 : Int))))) /\ (((2 : Nat) <= 2)) /\ (((List.length (CacheV.oldL (Zam (CacheV.code (CacheV.touchC (Zam ab) (5 : Int)))) (0 : Int))) = (List.length (CacheV.oldL (Zam (CacheV.code (CacheV.touchC (Zam ab) (5 : Int)))) (0 : Int))))) /\ (((2 : Nat) = 2)) /\ (((List.length (List.take (List.length (CacheV.oldL (Zam (CacheV.code (CacheV.touchC (Zam ab) (5 : Int)))) (0 : Int))) (CacheV.oldL (Zam (CacheV.code (CacheV.touchC (Zam ab) (5 : Int)))) (0 : Int))) = (List.length (CacheV.oldL (Zam (CacheV.code (CacheV.touchC (Zam ab) (5 : Int)))) (0 : Int))) /\ (List.length (CacheV.oldL (Zam (CacheV.code (CacheV.touchC (Zam ab) (5 : Int)))) (0 : Int))) <= c /\ (List.length (CacheV.oldL (Zam (CacheV.code (CacheV.touchC (Zam ab) (5 : Int)))) (0 : Int))) <= 1000000) /\ (List.length ([7, 5] : List Int) = 2 /\ 2 <= 2 /\ 2 <= 1000000))) /\ (Zbp ⟨3, [(0, some ⟨false, [.rows Zac 0 (CacheV.code (CacheV.touchC (Zam ab) (5 : Int)))], 2⟩), (1, some ⟨true, [.ints .i64 (List.length (CacheV.oldL (Zam (CacheV.code (CacheV.touchC (Zam ab) (5 : Int)))) (0 : Int))) (CacheV.oldL (Zam (CacheV.code (CacheV.touchC (Zam ab) (5 : Int)))) (0 : Int))], (c - (List.length (CacheV.oldL (Zam (CacheV.code (CacheV.touchC (Zam ab) (5 : Int)))) (0 : Int))))⟩), (2, some ⟨true, [.ints .i64 2 [7, 5]], 0⟩)]⟩ ⟨1, [(0, some ⟨false, [.rows Zac 0 (CacheV.code (CacheV.touchC (Zam ab) (5 : Int)))], 2⟩), (0, some ⟨false, [.rows Zac 0 (CacheV.code (CacheV.touchC (Zam ab) (5 : Int)))], 2⟩)]⟩ [(0, some ⟨false, [.rows Zac 0 (CacheV.code (CacheV.touchC (Zam ab) (5 : Int)))], 2⟩), (0, some ⟨false, [.rows Zac 0 (CacheV.code (CacheV.touchC (Zam ab) (5 : Int)))], 2⟩)]) /\ ((List.take (List.length (CacheV.oldL (Zam (CacheV.code (CacheV.touchC (Zam ab) (5 : Int)))) (0 : Int))) (CacheV.oldL (Zam (CacheV.code (CacheV.touchC (Zam ab) (5 : Int)))) (0 : Int))) == ([7, 5] : List Int)) = qq'1) /\ ((CacheV.hasB (Zam ab) (5 : Int)) = false -> false = qq'1) /\ (qq'1 = true -> ((CacheV.Good (Zam (CacheV.code (CacheV.touchC (Zam ab) (5 : Int)))) /\ I64 (9 : Int))) /\ Z (Yd9 ab) ⟨1, []⟩) /\ (qq'1 = false -> Z ZxW ⟨1, []⟩)) /\ (qq = false -> ∃ qq'2 : Bool, (false = true -> ((CacheV.Good (Zam ab) /\ I64 (0 : Int))) /\ ∀ (ac : Nat), (List.length (CacheV.oldL (Zam ab) (0 : Int))) <= ac -> (((0 + (List.length (CacheV.oldL (Zam ab) (0 : Int)))) <= (List.length (CacheV.oldL (Zam ab) (0 : Int))))) /\ (((2 : Nat) <= 2)) /\ (((List.length (CacheV.oldL (Zam ab) (0 : Int))) = (List.length (CacheV.oldL (Zam ab) (0 : Int))))) /\ (((2 : Nat) = 2)) /\ (((List.length (List.take (List.length (CacheV.oldL (Zam ab) (0 : Int))) (CacheV.oldL (Zam ab) (0 : Int))) = (List.length (CacheV.oldL (Zam ab) (0 : Int))) /\ (List.length (CacheV.oldL (Zam ab) (0 : Int))) <= ac /\ (List.length (CacheV.oldL (Zam ab) (0 : Int))) <= 1000000) /\ (List.length ([7, 5] : List Int) = 2 /\ 2 <= 2 /\ 2 <= 1000000))) /\ (Zbp ⟨3, [(0, some ⟨false, [.rows Zac 0 ab], 2⟩), (1, some ⟨true, [.ints .i64 (List.length (CacheV.oldL (Zam ab) (0 : Int))) (CacheV.oldL (Zam ab) (0 : Int))], (ac - (List.length (CacheV.oldL (Zam ab) (0 : Int))))⟩), (2, some ⟨true, [.ints .i64 2 [7, 5]], 0⟩)]⟩ (Yd8 ab) [(0, some ⟨false, [.rows Zac 0 ab], 2⟩)]) /\ ((List.take (List.length (CacheV.oldL (Zam ab) (0 : Int))) (CacheV.oldL (Zam ab) (0 : Int))) == ([7, 5] : List Int)) = qq'2) /\ (false = false -> false = qq'2) /\ (qq'2 = true -> ((CacheV.Good (Zam ab) /\ I64 (9 : Int))) /\ Z [(0, some (.bool ((CacheV.setR (Zam ab) (9 : Int) (3 : Int)) == 5)))] ⟨1, []⟩) /\ (qq'2 = false -> Z ZxW ⟨1, []⟩))) : EvC Zda ZfL (Zzu v2 v3) (Yd8 ab) [0] [] Z := EvC.of (by kernel_rfl) h
theorem ZrK (ab : List (Tup Zac)) : RetC ZaX (Yd9 ab) ⟨1, []⟩ (.bool ((CacheV.setR (Zam (CacheV.code (CacheV.touchC (Zam ab) (5 : Int)))) (9 : Int) (3 : Int)) == 5)) := RetC.of (fun Z => by kernel_rfl)
theorem ZrJ : RetC ZaX ZxW ⟨1, []⟩ (.bool false) := RetC.of (fun Z => by kernel_rfl)
theorem ZrI (ab : List (Tup Zac)) : RetC ZaX [(0, some (.bool ((CacheV.setR (Zam ab) (9 : Int) (3 : Int)) == 5)))] ⟨1, []⟩ (.bool ((CacheV.setR (Zam ab) (9 : Int) (3 : Int)) == 5)) := RetC.of (fun Z => by kernel_rfl)
theorem ZrH : RetC ZaX ZxW ⟨1, []⟩ (.bool false) := RetC.of (fun Z => by kernel_rfl)
def Zom (v2 v3 : Int) (ab : List (Tup Zac)) : Prop := (((v2 == 0) && (v3 == 0)) = true -> (((CacheV.Good (Zam ab) /\ I64 (5 : Int))) /\ (((CacheV.hasB (Zam ab) (5 : Int)) = true -> (((CacheV.Good (Zam (CacheV.code (CacheV.touchC (Zam ab) (5 : Int)))) /\ I64 (0 : Int))) /\ (∀ (c : Nat), ((List.length (CacheV.oldL (Zam (CacheV.code (CacheV.touchC (Zam ab) (5 : Int)))) (0 : Int))) <= c) -> ((((0 + (List.length (CacheV.oldL (Zam (CacheV.code (CacheV.touchC (Zam ab) (5 : Int)))) (0 : Int)))) <= (List.length (CacheV.oldL (Zam (CacheV.code (CacheV.touchC (Zam ab) (5 : Int)))) (0 : Int))))) /\ (((List.length (List.take (List.length (CacheV.oldL (Zam (CacheV.code (CacheV.touchC (Zam ab) (5 : Int)))) (0 : Int))) (CacheV.oldL (Zam (CacheV.code (CacheV.touchC (Zam ab) (5 : Int)))) (0 : Int))) = (List.length (CacheV.oldL (Zam (CacheV.code (CacheV.touchC (Zam ab) (5 : Int)))) (0 : Int))) /\ (List.length (CacheV.oldL (Zam (CacheV.code (CacheV.touchC (Zam ab) (5 : Int)))) (0 : Int))) <= c /\ (List.length (CacheV.oldL (Zam (CacheV.code (CacheV.touchC (Zam ab) (5 : Int)))) (0 : Int))) <= 1000000) /\ (List.length ([7, 5] : List Int) = 2 /\ 2 <= 2 /\ 2 <= 1000000))))))) /\ ((((CacheV.hasB (Zam ab) (5 : Int)) && ((List.take (List.length (CacheV.oldL (Zam (CacheV.code (CacheV.touchC (Zam ab) (5 : Int)))) (0 : Int))) (CacheV.oldL (Zam (CacheV.code (CacheV.touchC (Zam ab) (5 : Int)))) (0 : Int))) == ([7, 5] : List Int))) = true -> (((CacheV.Good (Zam (CacheV.code (CacheV.touchC (Zam ab) (5 : Int)))) /\ I64 (9 : Int))) /\ (((CacheV.setR (Zam (CacheV.code (CacheV.touchC (Zam ab) (5 : Int)))) (9 : Int) (3 : Int)) == 5) = true))) /\ (((CacheV.hasB (Zam ab) (5 : Int)) && ((List.take (List.length (CacheV.oldL (Zam (CacheV.code (CacheV.touchC (Zam ab) (5 : Int)))) (0 : Int))) (CacheV.oldL (Zam (CacheV.code (CacheV.touchC (Zam ab) (5 : Int)))) (0 : Int))) == ([7, 5] : List Int))) = false -> (false = true)))))) /\ (((v2 == 0) && (v3 == 0)) = false -> ((false = true -> (((CacheV.Good (Zam ab) /\ I64 (0 : Int))) /\ (∀ (ac : Nat), ((List.length (CacheV.oldL (Zam ab) (0 : Int))) <= ac) -> ((((0 + (List.length (CacheV.oldL (Zam ab) (0 : Int)))) <= (List.length (CacheV.oldL (Zam ab) (0 : Int))))) /\ (((List.length (List.take (List.length (CacheV.oldL (Zam ab) (0 : Int))) (CacheV.oldL (Zam ab) (0 : Int))) = (List.length (CacheV.oldL (Zam ab) (0 : Int))) /\ (List.length (CacheV.oldL (Zam ab) (0 : Int))) <= ac /\ (List.length (CacheV.oldL (Zam ab) (0 : Int))) <= 1000000) /\ (List.length ([7, 5] : List Int) = 2 /\ 2 <= 2 /\ 2 <= 1000000))))))) /\ (((false && ((List.take (List.length (CacheV.oldL (Zam ab) (0 : Int))) (CacheV.oldL (Zam ab) (0 : Int))) == ([7, 5] : List Int))) = true -> (((CacheV.Good (Zam ab) /\ I64 (9 : Int))) /\ (((CacheV.setR (Zam ab) (9 : Int) (3 : Int)) == 5) = true))) /\ ((false && ((List.take (List.length (CacheV.oldL (Zam ab) (0 : Int))) (CacheV.oldL (Zam ab) (0 : Int))) == ([7, 5] : List Int))) = false -> (false = true)))))
abbrev ZxA (x0 : SVal -> Heap -> Prop) : Prop := x0 (.bool true) ⟨0, []⟩
theorem Zw3 (hK : (ZxA Kf)) (v2 v3 : Int) (ab : List (Tup Zac)) (h : Zom v2 v3 ab) : SemL Try.prog w0 fp ρi 0 31 [ZfL, .ret] (Zzu v2 v3) (Yd8 ab) (fnK ZaX 0 Kf) :=
  Zap Zdk (ZuI v2 v3 ab _ ⟨((v2 == 0) && (v3 == 0)), fun hc_qq => ⟨(ZcZ _), (qa1 hc_qq)⟩, fun hc_qq => qa2 hc_qq, ⟨fun hc1 => ⟨(h.1 hc1).1, ⟨((CacheV.hasB (Zam ab) (5 : Int)) && ((List.take (List.length (CacheV.oldL (Zam (CacheV.code (CacheV.touchC (Zam ab) (5 : Int)))) (0 : Int))) (CacheV.oldL (Zam (CacheV.code (CacheV.touchC (Zam ab) (5 : Int)))) (0 : Int))) == ([7, 5] : List Int))), fun hc_qq_1 => ⟨((h.1 hc1).2.1 hc_qq_1).1, (fun c h_c_0 => ⟨(((h.1 hc1).2.1 hc_qq_1).2 c h_c_0).1, ⟨(by decide), ⟨rfl, ⟨rfl, ⟨(((h.1 hc1).2.1 hc_qq_1).2 c h_c_0).2, ⟨(ZgU [0, 0] (by kernel_rfl) (by kernel_rfl)), (qa1 hc_qq_1)⟩⟩⟩⟩⟩⟩)⟩, fun hc_qq_1 => qa2 hc_qq_1, ⟨fun hc2 => ⟨((h.1 hc1).2.2.1 hc2).1, (ZaV (R := ZaX) (m := 0) (Kf := Kf) (fun _ _ h => h) (ZrK ab) (ZaO (Eq.mpr (cg1 (fun (z1 : Bool) => ZdI 0 Kf (.bool z1) ⟨1, []⟩) ((h.1 hc1).2.2.1 hc2).2) (ZaF [] [] rfl (by kernel_rfl) rfl pbd Zan rfl (by kernel_rfl) (hK)))))⟩, fun hc2 => (ZaV (R := ZaX) (m := 0) (Kf := Kf) (fun _ _ h => h) (ZrJ) (ZaO (Eq.mpr (cg1 (fun (z1 : Bool) => ZdI 0 Kf (.bool z1) ⟨1, []⟩) ((h.1 hc1).2.2.2 hc2)) (ZaF [] [] rfl (by kernel_rfl) rfl pbd Zan rfl (by kernel_rfl) (hK)))))⟩⟩⟩, fun hc1 => ⟨(false && ((List.take (List.length (CacheV.oldL (Zam ab) (0 : Int))) (CacheV.oldL (Zam ab) (0 : Int))) == ([7, 5] : List Int))), fun hc_qq_2 => ⟨((h.2 hc1).1 hc_qq_2).1, (fun ac h_c_1_0 => ⟨(((h.2 hc1).1 hc_qq_2).2 ac h_c_1_0).1, ⟨(by decide), ⟨rfl, ⟨rfl, ⟨(((h.2 hc1).1 hc_qq_2).2 ac h_c_1_0).2, ⟨(ZgU [0] (by kernel_rfl) (by kernel_rfl)), (qa1 hc_qq_2)⟩⟩⟩⟩⟩⟩)⟩, fun hc_qq_2 => qa2 hc_qq_2, ⟨fun hc3 => ⟨((h.2 hc1).2.1 hc3).1, (ZaV (R := ZaX) (m := 0) (Kf := Kf) (fun _ _ h => h) (ZrI ab) (ZaO (Eq.mpr (cg1 (fun (z1 : Bool) => ZdI 0 Kf (.bool z1) ⟨1, []⟩) ((h.2 hc1).2.1 hc3).2) (ZaF [] [] rfl (by kernel_rfl) rfl pbd Zan rfl (by kernel_rfl) (hK)))))⟩, fun hc3 => (ZaV (R := ZaX) (m := 0) (Kf := Kf) (fun _ _ h => h) (ZrH) (ZaO (Eq.mpr (cg1 (fun (z1 : Bool) => ZdI 0 Kf (.bool z1) ⟨1, []⟩) ((h.2 hc1).2.2 hc3)) (ZaF [] [] rfl (by kernel_rfl) rfl pbd Zan rfl (by kernel_rfl) (hK)))))⟩⟩⟩⟩)
abbrev ZyR : Env := [(1, some (.ptr ⟨0, 0, 0, 1⟩ 2))]
theorem ZuH (h0 : List (Tup Zac)) (Z : Env -> Heap -> Prop) (h : ((CacheV.Good (Zam h0) /\ I64 (5 : Int))) /\ ((CacheV.Good (Zam (CacheV.code (CacheV.setC (Zam h0) (5 : Int) (1 : Int)))) /\ I64 (7 : Int))) /\ Z [(1, some (.ptr ⟨0, 0, 0, 1⟩ 2)), (2, some (.int .i64 (CacheV.setR (Zam h0) (5 : Int) (1 : Int)))), (3, some (.int .i64 (CacheV.setR (Zam (CacheV.code (CacheV.setC (Zam h0) (5 : Int) (1 : Int)))) (7 : Int) (2 : Int))))] ⟨1, [(0, some ⟨false, [.rows Zac 0 (CacheV.code (CacheV.setC (Zam (CacheV.code (CacheV.setC (Zam h0) (5 : Int) (1 : Int)))) (7 : Int) (2 : Int)))], 2⟩)]⟩) : EvC Zda Zhl ZyR (Yd8 h0) [1, 2, 3] [0] Z := EvC.of (by kernel_rfl) h
def Zol (h0 : List (Tup Zac)) : Prop := ((CacheV.Good (Zam h0) /\ I64 (5 : Int))) /\ (((CacheV.Good (Zam (CacheV.code (CacheV.setC (Zam h0) (5 : Int) (1 : Int)))) /\ I64 (7 : Int))) /\ (∀ v2 : Int, v2 = (CacheV.setR (Zam h0) (5 : Int) (1 : Int)) -> ∀ v3 : Int, v3 = (CacheV.setR (Zam (CacheV.code (CacheV.setC (Zam h0) (5 : Int) (1 : Int)))) (7 : Int) (2 : Int)) -> ∀ ab : List (Tup Zac), ab = (CacheV.code (CacheV.setC (Zam (CacheV.code (CacheV.setC (Zam h0) (5 : Int) (1 : Int)))) (7 : Int) (2 : Int))) -> Zom v2 v3 ab))
theorem Zw2 (hK : (ZxA Kf)) (h0 : List (Tup Zac)) (h : Zol h0) : SemL Try.prog w0 fp ρi 0 31 [Zhl, (.seq ZfL .ret)] ZyR (Yd8 h0) (fnK ZaX 0 Kf) :=
  Zap Zdk (ZuH h0 _ ⟨h.1, ⟨h.2.1, (Zav (Zw3 hK (CacheV.setR (Zam h0) (5 : Int) (1 : Int)) (CacheV.setR (Zam (CacheV.code (CacheV.setC (Zam h0) (5 : Int) (1 : Int)))) (7 : Int) (2 : Int)) (CacheV.code (CacheV.setC (Zam (CacheV.code (CacheV.setC (Zam h0) (5 : Int) (1 : Int)))) (7 : Int) (2 : Int))) (((h.2.2 (CacheV.setR (Zam h0) (5 : Int) (1 : Int)) rfl) (CacheV.setR (Zam (CacheV.code (CacheV.setC (Zam h0) (5 : Int) (1 : Int)))) (7 : Int) (2 : Int)) rfl) (CacheV.code (CacheV.setC (Zam (CacheV.code (CacheV.setC (Zam h0) (5 : Int) (1 : Int)))) (7 : Int) (2 : Int))) rfl)))⟩⟩)
theorem ZuG (Z : Env -> Heap -> Prop) (h : (True) /\ Z ZyR ⟨1, [(0, some ⟨false, [.rows Zac 0 (CacheV.code (Zhw (1 : Int) (2 : Int)))], 2⟩)]⟩) : EvC Zda Zjg [] ⟨0, []⟩ [1] [0] Z := EvC.of (by kernel_rfl) h
def ZjI : Prop := ∀ h0 : List (Tup Zac), h0 = (CacheV.code (Zhw (1 : Int) (2 : Int))) -> Zol h0
theorem Zw1 (hK : (ZxA Kf)) (h : ZjI) : SemL Try.prog w0 fp ρi 0 31 [Zjg, (.seq Zhl (.seq ZfL .ret))] [] ⟨0, []⟩ (fnK ZaX 0 Kf) :=
  Zap Zdk (ZuG _ ⟨True.intro, (Zav (Zw2 hK (CacheV.code (Zhw (1 : Int) (2 : Int))) (h (CacheV.code (Zhw (1 : Int) (2 : Int))) rfl)))⟩)
theorem ZuF (Z : Env -> Heap -> Prop) (h : Z [] ⟨0, []⟩) : EvC Zda ZlB [] ⟨0, []⟩ [] [] Z := EvC.of (by kernel_rfl) h
theorem Zw0 (hK : (ZxA Kf)) (h : ZjI) : SemL Try.prog w0 fp ρi 0 31 [ZlB, (.seq Zjg (.seq Zhl (.seq ZfL .ret)))] [] ⟨0, []⟩ (fnK ZaX 0 Kf) :=
  Zap Zdk (ZuF _ (Zav (Zw1 hK h)))
theorem ZmV (hK : (ZxA Kf)) (h : ZjI) : SemL Try.prog w0 fp ρi 0 31 [Zh1] [] ⟨0, []⟩ (fnK ZaX 0 Kf) :=
  (Zav (Zw0 hK h))
end
theorem ZkF (hpre : True) : ZjI := by
  unfold ZjI Zol Zom
  simp only [Zb6]
  have e0 : Zhw 1 2 = ⟨2, [[]]⟩ := rfl
  have e1 : (⟨2, [[]]⟩ : CacheV).setC 5 1 = ⟨2, [[(5, 1)]]⟩ := by rfl
  have r1 : (⟨2, [[]]⟩ : CacheV).setR 5 1 = 0 := by rfl
  have e2 : (⟨2, [[(5, 1)]]⟩ : CacheV).setC 7 2 = ⟨2, [[(5, 1), (7, 2)]]⟩ := by rfl
  have r2 : (⟨2, [[(5, 1)]]⟩ : CacheV).setR 7 2 = 0 := by rfl
  have e3 : (⟨2, [[(5, 1), (7, 2)]]⟩ : CacheV).touchC 5 = ⟨2, [[(7, 2), (5, 1)]]⟩ := by rfl
  have r3 : (⟨2, [[(5, 1), (7, 2)]]⟩ : CacheV).hasB 5 = true := by rfl
  have e4 : (⟨2, [[(7, 2), (5, 1)]]⟩ : CacheV).oldL 0 = [7, 5] := by rfl
  have r5 : (⟨2, [[(7, 2), (5, 1)]]⟩ : CacheV).setR 9 3 = 5 := by rfl
  have g : ∀ r : List (Int × Int), r.length <= 2 -> (⟨2, [r]⟩ : CacheV).Good := fun r hr => ⟨by show (1 : Int) <= 2; decide, by show (2 : Int) <= 64; decide, by show 0 < 1; decide, by show 1 <= 64; decide, fun x hx => by
    obtain rfl := List.mem_singleton.1 hx
    simp only; omega⟩
  rintro _ rfl
  simp only [Zb6]
  rw [e0]
  refine ⟨⟨g _ (by decide), by decide, by decide⟩, ⟨by rw [e1]; exact g _ (by decide), by decide, by decide⟩, ?_⟩
  rw [r1, e1, r2, e2]
  rintro _ rfl _ rfl _ rfl
  simp only [Zb6]
  rw [r3, e3, e4, r5]
  exact ⟨fun _ => ⟨⟨g _ (by decide), by decide, by decide⟩, fun _ => ⟨⟨g _ (by decide), by decide, by decide⟩, fun c hc => ⟨by decide, ⟨rfl, hc, by decide⟩, rfl, by decide, by decide⟩⟩, fun _ => ⟨⟨g _ (by decide), by decide, by decide⟩, rfl⟩, fun h => by cases h⟩, fun h => by cases h⟩
theorem ZmZ : Sound Try.prog 15 (gS ZfS) := by
  refine ZaZ Zhn ?_
  intro args H K h
  obtain ⟨pre, out, hD, hpre, hK⟩ := ZcN h
  unfold ZfS at hD
  split at hD
  · cases hD
    exact ⟨rfl, fun w0 fp ρi => ZmV hK (ZkF hpre)⟩
  · cases hD
end Go.Proofs.Ytinjdimejijabaa
