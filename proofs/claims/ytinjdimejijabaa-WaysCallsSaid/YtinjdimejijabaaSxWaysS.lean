/- Part of the proof: SxWaysS. -/
import Derived.Test.YtinjdimejijabaaSxOpnN
import Derived.Test.YtinjdimejijabaaSxMixT
import Derived.KernelRfl
set_option linter.unusedVariables false
set_option linter.unusedSimpArgs false
set_option maxRecDepth 20000
namespace Go.Proofs.Ytinjdimejijabaa
open Go.Sx
def Zmk : Zvp := fun ds => match ds with
  | [.sl false .i64 a_n a_c a, .sl false .i64 aa b_c b] => some (((List.length a = a_n /\ a_n <= a_c /\ a_n <= 1000000) /\ (List.length b = aa /\ aa <= b_c /\ aa <= 1000000)), [.pl (.bool (a == b))], [])
  | _ => none
def Zke : Con := ⟨23, dC Zmk, [], [.ints .i64 0 []], []⟩
def Zbd (a : List Int) (a_n a_c : Nat) (b : List Int) (aa b_c : Nat) (Kf : SVal -> Heap -> Prop) : Prop := Kf (.bool (a == b)) ⟨2, [(0, some ⟨false, [.ints .i64 a_n a], 0⟩), (1, some ⟨false, [.ints .i64 aa b], 0⟩)]⟩
def Zo4 : ACode := .reg (.op (some 4) (.mov (.cn (.bool false))) .nil)
def ZlD : ACode := .reg (.op (some 6) (.mov (.tm 0)) (.op (some 7) (.len (.tm 6)) (.op (some 8) (.mov (.tm 1)) (.op (some 9) (.len (.tm 8)) (.op (some 10) (.bin .neq (.tm 7) (.tm 9)) .nil)))))
def Zo3 : ACode := .reg (.op (some 4) (.mov (.cn (.bool false))) .nil)
def ZlC : ACode := .cond (.tm 10) (.seq Zo3 .ret) .skip
def Zf1 : ACode := .reg (.op (some 5) (.mov (.cn (.int .i64 0))) .nil)
def Zo2 : ACode := .reg (.op (some 11) (.mov (.tm 5)) (.op (some 12) (.mov (.tm 0)) (.op (some 13) (.len (.tm 12)) (.op (some 14) (.bin .lss (.tm 11) (.tm 13)) .nil))))
def Zo1 : ACode := .cond (.tm 14) .skip (.exit 0)
def ZlB : Items := .op (some 17) (.mov (.tm 0)) (.op (some 18) (.mov (.tm 5)) (.op (some 19) (.idxS (.tm 17) (.tm 18) 1) (.op (some 20) (.load1 (.tm 19)) (.op (some 21) (.mov (.tm 1)) (.op (some 22) (.mov (.tm 5)) (.op (some 23) (.idxS (.tm 21) (.tm 22) 1) (.op (some 24) (.load1 (.tm 23)) (.op (some 25) (.bin .neq (.tm 20) (.tm 24)) .nil))))))))
def ZuW : ACode := .regQ ZlB
def Zo0 : ACode := .reg (.op (some 4) (.mov (.cn (.bool false))) .nil)
def ZoZ : ACode := .cond (.tm 25) (.seq Zo0 .ret) .skip
def Zia : ACode := .block 1 (.seq ZuW ZoZ)
def Zet : ACode := .reg (.op (some 15) (.mov (.tm 5)) (.op (some 16) (.bin .add (.tm 15) (.cn (.int .i64 1))) (.op (some 5) (.mov (.tm 16)) .nil)))
def ZqW : ACode := .loop (.seq (.seq Zo2 Zo1) (.seq Zia Zet))
def Zes : ACode := .block 0 ZqW
def ZcB : ACode := .reg (.op (some 4) (.mov (.cn (.bool true))) .nil)
def Zq2 : ACode := (.seq Zo4 (.seq (.seq ZlD ZlC) (.seq (.seq Zf1 Zes) (.seq ZcB .ret))))
def Zbn : Res := .one (.tm 4)
theorem Zl9 : Zbr Try.prog 23 2 26 Zq2 Zbn = true := by kernel_rfl
def ZcE : ZaE := Zci [] []
theorem Zcb : ZaT Try.prog ZcE := ZaZ trivial trivial
section
variable {w0 : World} {fp : Nat -> Nat -> Prop} {ρi : Rho} {Kf : SVal -> Heap -> Prop}
abbrev Yd0 : Env := [(4, some (.bool false))]
abbrev Yd1 (x0 : Nat) (x1 : List Int) (x2 : Nat) (x3 : List Int) : Heap := ⟨2, [(0, some ⟨false, [.ints .i64 x0 x1], 0⟩), (1, some ⟨false, [.ints .i64 x2 x3], 0⟩)]⟩
theorem ZCP (a : List Int) (a_n a_c : Nat) (b : List Int) (aa b_c : Nat) (Z : Env -> Heap -> Prop) (h : Z Yd0 (Yd1 a_n a aa b)) : EvC ZcE Zo3 [] (Yd1 a_n a aa b) [4] [0, 1] Z := EvC.of (by kernel_rfl) h
theorem Zyn (a : List Int) (a_n a_c : Nat) (b : List Int) (aa b_c : Nat) : RetC Zbn Yd0 (Yd1 a_n a aa b) (.bool false) := RetC.of (fun Z => by kernel_rfl)
def ZsU (a : List Int) (a_n a_c : Nat) (b : List Int) (aa b_c : Nat) : Prop := false = (a == b)
theorem ZFN (a : List Int) (a_n a_c : Nat) (b : List Int) (aa b_c : Nat) (hK : Zbd a a_n a_c b aa b_c Kf) (h : ZsU a a_n a_c b aa b_c) : SemL Try.prog w0 fp ρi 2 26 [Zo3, .ret, (.seq (.seq Zf1 Zes) (.seq ZcB .ret))] [] (Yd1 a_n a aa b) (fnK Zbn 2 Kf) :=
  Zak Zcb (ZCP a a_n a_c b aa b_c _ (ZaL (R := Zbn) (m := 2) (Kf := Kf) (fun _ _ h => h) (Zyn a a_n a_c b aa b_c) (Eq.mpr (cg1 (fun (z1 : Bool) => Ret 2 Kf (.bool z1) (Yd1 a_n a aa b)) h) (Ziv [] [0, 1] rfl rfl (by kernel_rfl) pbd (hsc pcs (hsc pcs Zag)) (by kernel_rfl) rfl (hK)))))
def Zuq (w0 : World) (fp : Nat -> Nat -> Prop) (ρi : Rho) (Kf : SVal -> Heap -> Prop) (a : List Int) (a_n a_c : Nat) (b : List Int) (aa b_c : Nat) : ZcJ := ZbH 0 (fun e H => SemL Try.prog w0 fp ρi 2 26 [(.seq ZcB .ret)] e H (fnK Zbn 2 Kf)) (fnK Zbn 2 Kf)
def ZuB (a : List Int) (a_n a_c : Nat) (b : List Int) (aa b_c : Nat) : Int -> Prop := fun s => match s with | v5 => 0 <= v5 /\ v5 <= (a_n : Int) /\ a_n = aa /\ List.take (Int.toNat v5) a = List.take (Int.toNat v5) b
def ZtT (a : List Int) (a_n a_c : Nat) (b : List Int) (aa b_c : Nat) : Int -> Nat := fun s => match s with | v5 => (((a_n : Int) - v5).toNat)
def Zue (a : List Int) (a_n a_c : Nat) (b : List Int) (aa b_c : Nat) : Int -> Env := fun s => match s with | v5 => [(0, some (.slice ⟨0, 0, 0, 1⟩ a_n a_c)), (1, some (.slice ⟨1, 0, 0, 1⟩ aa b_c)), (5, some (.int .i64 v5))]
def Zt4 (a : List Int) (a_n a_c : Nat) (b : List Int) (aa b_c : Nat) : Int -> Heap := fun s => match s with | v5 => ⟨2, [(0, some ⟨false, [.ints .i64 a_n a], 0⟩), (1, some ⟨false, [.ints .i64 aa b], 0⟩)]⟩
def Zg4 (w0 : World) (fp : Nat -> Nat -> Prop) (ρi : Rho) (Kf : SVal -> Heap -> Prop) (a : List Int) (a_n a_c : Nat) (b : List Int) (aa b_c : Nat) (v5 : Int) : ZcJ := ZhT 2 (ZuB a a_n a_c b aa b_c) (ZtT a a_n a_c b aa b_c) (Zue a a_n a_c b aa b_c) (Zt4 a a_n a_c b aa b_c) v5 (Zuq w0 fp ρi Kf a a_n a_c b aa b_c)
def ZnU (w0 : World) (fp : Nat -> Nat -> Prop) (ρi : Rho) (Kf : SVal -> Heap -> Prop) (a : List Int) (a_n a_c : Nat) (b : List Int) (aa b_c : Nat) (v5 : Int) : ZcJ := ZbH 1 (fun e H => SemL Try.prog w0 fp ρi 2 26 [Zet] e H (Zg4 w0 fp ρi Kf a a_n a_c b aa b_c v5)) (Zg4 w0 fp ρi Kf a a_n a_c b aa b_c v5)
theorem ZCO (a : List Int) (a_n a_c : Nat) (b : List Int) (aa b_c : Nat) (v5 : Int) (Z : Env -> Heap -> Prop) (h : Z Yd0 (Yd1 a_n a aa b)) : EvC ZcE Zo0 [] (Yd1 a_n a aa b) [4] [0, 1] Z := EvC.of (by kernel_rfl) h
theorem Zym (a : List Int) (a_n a_c : Nat) (b : List Int) (aa b_c : Nat) : RetC Zbn Yd0 (Yd1 a_n a aa b) (.bool false) := RetC.of (fun Z => by kernel_rfl)
def ZsT (a : List Int) (a_n a_c : Nat) (b : List Int) (aa b_c : Nat) (v5 : Int) : Prop := false = (a == b)
theorem ZFM (a : List Int) (a_n a_c : Nat) (b : List Int) (aa b_c : Nat) (hK : Zbd a a_n a_c b aa b_c Kf) (v5 : Int) (h : ZsT a a_n a_c b aa b_c v5) : SemL Try.prog w0 fp ρi 2 26 [Zo0, .ret] [] (Yd1 a_n a aa b) (ZnU w0 fp ρi Kf a a_n a_c b aa b_c v5) :=
  Zak Zcb (ZCO a a_n a_c b aa b_c v5 _ (ZaL (R := Zbn) (m := 2) (Kf := Kf) (fun _ _ h => h) (Zym a a_n a_c b aa b_c) (Eq.mpr (cg1 (fun (z1 : Bool) => Ret 2 Kf (.bool z1) (Yd1 a_n a aa b)) h) (Ziv [] [0, 1] rfl rfl (by kernel_rfl) pbd (hsc pcs (hsc pcs Zag)) (by kernel_rfl) rfl (hK)))))
abbrev Yd2 (x0 x1 x2 x3 : Nat) (x4 : Int) : Env := [(0, some (.slice ⟨0, 0, 0, 1⟩ x0 x1)), (1, some (.slice ⟨1, 0, 0, 1⟩ x2 x3)), (5, some (.int .i64 x4))]
theorem ZCN (a : List Int) (a_n a_c : Nat) (b : List Int) (aa b_c : Nat) (v5 : Int) (Z : Env -> Heap -> Prop) (h : Z [(0, some (.slice ⟨0, 0, 0, 1⟩ a_n a_c)), (1, some (.slice ⟨1, 0, 0, 1⟩ aa b_c)), (5, some (.int .i64 (IntKind.i64.wrap (v5 + 1))))] (Yd1 a_n a aa b)) : EvC ZcE Zet (Yd2 a_n a_c aa b_c v5) (Yd1 a_n a aa b) [0, 1, 5] [0, 1] Z := EvC.of (by kernel_rfl) h
def ZsS (a : List Int) (a_n a_c : Nat) (b : List Int) (aa b_c : Nat) (v5 : Int) : Prop := (0 <= (IntKind.i64.wrap (v5 + 1)) /\ (IntKind.i64.wrap (v5 + 1)) <= (a_n : Int) /\ a_n = aa /\ List.take (Int.toNat (IntKind.i64.wrap (v5 + 1))) a = List.take (Int.toNat (IntKind.i64.wrap (v5 + 1))) b) /\ ((((a_n : Int) - (IntKind.i64.wrap (v5 + 1))).toNat) < (((a_n : Int) - v5).toNat))
theorem ZFL (a : List Int) (a_n a_c : Nat) (b : List Int) (aa b_c : Nat) (hK : Zbd a a_n a_c b aa b_c Kf) (v5 : Int) (h : ZsS a a_n a_c b aa b_c v5) : SemL Try.prog w0 fp ρi 2 26 [Zet] (Yd2 a_n a_c aa b_c v5) (Yd1 a_n a aa b) (Zg4 w0 fp ρi Kf a a_n a_c b aa b_c v5) :=
  Zak Zcb (ZCN a a_n a_c b aa b_c v5 _ (Zch (ZbV (x' := (IntKind.i64.wrap (v5 + 1))) (τ := tau []) h.1 h.2 (ZaR [] [0, 1] rfl rfl (esc bsl (esc bsl (esc pbd ZaB))) (hsc pcs (hsc pcs Zag)) (by kernel_rfl) rfl))))
def ZsR (a : List Int) (a_n a_c : Nat) (b : List Int) (aa b_c : Nat) (v5 : Int) : Prop := (((List.getD a (0 + (Int.toNat v5)) 0) != (List.getD b (0 + (Int.toNat v5)) 0)) = true -> (ZsT a a_n a_c b aa b_c v5)) /\ (((List.getD a (0 + (Int.toNat v5)) 0) != (List.getD b (0 + (Int.toNat v5)) 0)) = false -> (ZsS a a_n a_c b aa b_c v5))
abbrev Yd3 (x0 x1 x2 x3 : Nat) (x4 : Int) (x5 x6 : List Int) : Env := [(0, some (.slice ⟨0, 0, 0, 1⟩ x0 x1)), (1, some (.slice ⟨1, 0, 0, 1⟩ x2 x3)), (5, some (.int .i64 x4)), (25, some (.bool ((List.getD x5 (0 + (Int.toNat x4)) 0) != (List.getD x6 (0 + (Int.toNat x4)) 0))))]
theorem ZFK (a : List Int) (a_n a_c : Nat) (b : List Int) (aa b_c : Nat) (hK : Zbd a a_n a_c b aa b_c Kf) (v5 : Int) (h : ZsR a a_n a_c b aa b_c v5) : SemL Try.prog w0 fp ρi 2 26 [ZoZ] (Yd3 a_n a_c aa b_c v5 a b) (Yd1 a_n a aa b) (ZnU w0 fp ρi Kf a a_n a_c b aa b_c v5) :=
  Za0 (q := ((List.getD a (0 + (Int.toNat v5)) 0) != (List.getD b (0 + (Int.toNat v5)) 0))) (by kernel_rfl) (fun hq => (Zan (lpk [] [0, 1] (ZFM a a_n a_c b aa b_c hK v5 (h.1 hq))))) (fun hq => (Zbb (Zch (lpk [0, 1, 5] [0, 1] (ZFL a a_n a_c b aa b_c hK v5 (h.2 hq))))))
theorem ZCM (a : List Int) (a_n a_c : Nat) (b : List Int) (aa b_c : Nat) (v5 : Int) (Z : Env -> Heap -> Prop) (h : ((0 <= v5)) /\ ((v5 < ((a_n : Nat) : Int))) /\ (((0 + (Int.toNat v5)) < a_n)) /\ ((0 <= v5)) /\ ((v5 < ((aa : Nat) : Int))) /\ (((0 + (Int.toNat v5)) < aa)) /\ Z (Yd3 a_n a_c aa b_c v5 a b) (Yd1 a_n a aa b)) : EvQC ZcE ZlB [] (Yd2 a_n a_c aa b_c v5) (Yd1 a_n a aa b) [0, 1, 5, 25] [0, 1] Z := EvQC.of (by kernel_rfl) h
def Zqa (a : List Int) (a_n a_c : Nat) (b : List Int) (aa b_c : Nat) (v5 : Int) : Prop := ((0 <= v5)) /\ (((v5 < ((a_n : Nat) : Int))) /\ ((((0 + (Int.toNat v5)) < a_n)) /\ (((0 <= v5)) /\ (((v5 < ((aa : Nat) : Int))) /\ ((((0 + (Int.toNat v5)) < aa)) /\ (ZsR a a_n a_c b aa b_c v5))))))
theorem ZFJ (a : List Int) (a_n a_c : Nat) (b : List Int) (aa b_c : Nat) (hK : Zbd a a_n a_c b aa b_c Kf) (v5 : Int) (h : Zqa a a_n a_c b aa b_c v5) : SemL Try.prog w0 fp ρi 2 26 [ZuW, ZoZ] (Yd2 a_n a_c aa b_c v5) (Yd1 a_n a aa b) (ZnU w0 fp ρi Kf a a_n a_c b aa b_c v5) :=
  Zgc Zcb (its := ZlB) (ZCM a a_n a_c b aa b_c v5 _ ⟨h.1, ⟨h.2.1, ⟨h.2.2.1, ⟨h.2.2.2.1, ⟨h.2.2.2.2.1, ⟨h.2.2.2.2.2.1, (ZFK a a_n a_c b aa b_c hK v5 h.2.2.2.2.2.2)⟩⟩⟩⟩⟩⟩)
theorem ZFI (a : List Int) (a_n a_c : Nat) (b : List Int) (aa b_c : Nat) (hK : Zbd a a_n a_c b aa b_c Kf) (v5 : Int) (h : Zqa a a_n a_c b aa b_c v5) : SemL Try.prog w0 fp ρi 2 26 [Zia, Zet] (Yd2 a_n a_c aa b_c v5) (Yd1 a_n a aa b) (Zg4 w0 fp ρi Kf a a_n a_c b aa b_c v5) :=
  Zbi (Zan (ZFJ a a_n a_c b aa b_c hK v5 h))
theorem ZCL (a : List Int) (a_n a_c : Nat) (b : List Int) (aa b_c : Nat) (Z : Env -> Heap -> Prop) (h : Z [(4, some (.bool true))] (Yd1 a_n a aa b)) : EvC ZcE ZcB [] (Yd1 a_n a aa b) [4] [0, 1] Z := EvC.of (by kernel_rfl) h
theorem Zyl (a : List Int) (a_n a_c : Nat) (b : List Int) (aa b_c : Nat) : RetC Zbn [(4, some (.bool true))] (Yd1 a_n a aa b) (.bool true) := RetC.of (fun Z => by kernel_rfl)
def ZsQ (a : List Int) (a_n a_c : Nat) (b : List Int) (aa b_c : Nat) : Prop := true = (a == b)
theorem ZFH (a : List Int) (a_n a_c : Nat) (b : List Int) (aa b_c : Nat) (hK : Zbd a a_n a_c b aa b_c Kf) (h : ZsQ a a_n a_c b aa b_c) : SemL Try.prog w0 fp ρi 2 26 [ZcB, .ret] [] (Yd1 a_n a aa b) (fnK Zbn 2 Kf) :=
  Zak Zcb (ZCL a a_n a_c b aa b_c _ (ZaL (R := Zbn) (m := 2) (Kf := Kf) (fun _ _ h => h) (Zyl a a_n a_c b aa b_c) (Eq.mpr (cg1 (fun (z1 : Bool) => Ret 2 Kf (.bool z1) (Yd1 a_n a aa b)) h) (Ziv [] [0, 1] rfl rfl (by kernel_rfl) pbd (hsc pcs (hsc pcs Zag)) (by kernel_rfl) rfl (hK)))))
def Zp9 (a : List Int) (a_n a_c : Nat) (b : List Int) (aa b_c : Nat) (v5 : Int) : Prop := ((decide (v5 < ((a_n : Nat) : Int))) = true -> (Zqa a a_n a_c b aa b_c v5)) /\ ((decide (v5 < ((a_n : Nat) : Int))) = false -> (ZsQ a a_n a_c b aa b_c))
abbrev Yd4 (x0 x1 x2 x3 : Nat) (x4 : Int) : Env := [(0, some (.slice ⟨0, 0, 0, 1⟩ x0 x1)), (1, some (.slice ⟨1, 0, 0, 1⟩ x2 x3)), (5, some (.int .i64 x4)), (14, some (.bool (decide (x4 < ((x0 : Nat) : Int)))))]
theorem ZFG (a : List Int) (a_n a_c : Nat) (b : List Int) (aa b_c : Nat) (hK : Zbd a a_n a_c b aa b_c Kf) (v5 : Int) (h : Zp9 a a_n a_c b aa b_c v5) : SemL Try.prog w0 fp ρi 2 26 [Zo1, (.seq Zia Zet)] (Yd4 a_n a_c aa b_c v5) (Yd1 a_n a aa b) (Zg4 w0 fp ρi Kf a a_n a_c b aa b_c v5) :=
  Za0 (q := (decide (v5 < ((a_n : Nat) : Int)))) (by kernel_rfl) (fun hq => (Zbb (lpk [0, 1, 5] [0, 1] (Zan (ZFI a a_n a_c b aa b_c hK v5 (h.1 hq)))))) (fun hq => (ZfK (lpk [] [0, 1] (Zan (ZFH a a_n a_c b aa b_c hK (h.2 hq))))))
theorem ZCK (a : List Int) (a_n a_c : Nat) (b : List Int) (aa b_c : Nat) (v5 : Int) (Z : Env -> Heap -> Prop) (h : Z (Yd4 a_n a_c aa b_c v5) (Yd1 a_n a aa b)) : EvC ZcE Zo2 (Yd2 a_n a_c aa b_c v5) (Yd1 a_n a aa b) [0, 1, 5, 14] [0, 1] Z := EvC.of (by kernel_rfl) h
theorem ZFF (a : List Int) (a_n a_c : Nat) (b : List Int) (aa b_c : Nat) (hK : Zbd a a_n a_c b aa b_c Kf) (v5 : Int) (h : Zp9 a a_n a_c b aa b_c v5) : SemL Try.prog w0 fp ρi 2 26 [Zo2, Zo1, (.seq Zia Zet)] (Yd2 a_n a_c aa b_c v5) (Yd1 a_n a aa b) (Zg4 w0 fp ρi Kf a a_n a_c b aa b_c v5) :=
  Zak Zcb (ZCK a a_n a_c b aa b_c v5 _ (ZFG a a_n a_c b aa b_c hK v5 h))
def Zmu (a : List Int) (a_n a_c : Nat) (b : List Int) (aa b_c : Nat) : Prop := (0 <= (0 : Int) /\ (0 : Int) <= (a_n : Int) /\ a_n = aa /\ List.take (Int.toNat (0 : Int)) a = List.take (Int.toNat (0 : Int)) b) /\ (∀ (v5 : Int), (0 <= v5 /\ v5 <= (a_n : Int) /\ a_n = aa /\ List.take (Int.toNat v5) a = List.take (Int.toNat v5) b) -> (Zp9 a a_n a_c b aa b_c v5))
abbrev Yd5 (x0 x1 x2 x3 : Nat) : Env := [(0, some (.slice ⟨0, 0, 0, 1⟩ x0 x1)), (1, some (.slice ⟨1, 0, 0, 1⟩ x2 x3)), (5, some (.int .i64 0))]
theorem ZFE (a : List Int) (a_n a_c : Nat) (b : List Int) (aa b_c : Nat) (hK : Zbd a a_n a_c b aa b_c Kf) (h : Zmu a a_n a_c b aa b_c) : SemL Try.prog w0 fp ρi 2 26 [ZqW] (Yd5 a_n a_c aa b_c) (Yd1 a_n a aa b) (Zuq w0 fp ρi Kf a a_n a_c b aa b_c) :=
  ZfJ (ZuB a a_n a_c b aa b_c) (ZtT a a_n a_c b aa b_c) (Zue a a_n a_c b aa b_c) (Zt4 a a_n a_c b aa b_c) ⟨0, tau [], h.1, (ZaR [] [0, 1] rfl rfl (esc bsl (esc bsl (esc pbd ZaB))) (hsc pcs (hsc pcs Zag)) (by kernel_rfl) rfl)⟩ (fun s => match s with | v5 => fun hi => (Zan (Zan (ZFF a a_n a_c b aa b_c hK v5 (h.2 v5 hi)))))
theorem Zzq (a : List Int) (a_n a_c : Nat) (b : List Int) (aa b_c : Nat) (hK : Zbd a a_n a_c b aa b_c Kf) (h : Zmu a a_n a_c b aa b_c) : SemL Try.prog w0 fp ρi 2 26 [Zes, (.seq ZcB .ret)] (Yd5 a_n a_c aa b_c) (Yd1 a_n a aa b) (fnK Zbn 2 Kf) :=
  Zbi (ZFE a a_n a_c b aa b_c hK h)
abbrev Yd6 (x0 x1 x2 x3 : Nat) : Env := [(0, some (.slice ⟨0, 0, 0, 1⟩ x0 x1)), (1, some (.slice ⟨1, 0, 0, 1⟩ x2 x3))]
theorem Zxr (a : List Int) (a_n a_c : Nat) (b : List Int) (aa b_c : Nat) (Z : Env -> Heap -> Prop) (h : Z (Yd5 a_n a_c aa b_c) (Yd1 a_n a aa b)) : EvC ZcE Zf1 (Yd6 a_n a_c aa b_c) (Yd1 a_n a aa b) [0, 1, 5] [0, 1] Z := EvC.of (by kernel_rfl) h
theorem Zzp (a : List Int) (a_n a_c : Nat) (b : List Int) (aa b_c : Nat) (hK : Zbd a a_n a_c b aa b_c Kf) (h : Zmu a a_n a_c b aa b_c) : SemL Try.prog w0 fp ρi 2 26 [Zf1, Zes, (.seq ZcB .ret)] (Yd6 a_n a_c aa b_c) (Yd1 a_n a aa b) (fnK Zbn 2 Kf) :=
  Zak Zcb (Zxr a a_n a_c b aa b_c _ (Zzq a a_n a_c b aa b_c hK h))
def ZgS (a : List Int) (a_n a_c : Nat) (b : List Int) (aa b_c : Nat) : Prop := ((((a_n : Nat) : Int) != ((aa : Nat) : Int)) = true -> (ZsU a a_n a_c b aa b_c)) /\ ((((a_n : Nat) : Int) != ((aa : Nat) : Int)) = false -> (Zmu a a_n a_c b aa b_c))
abbrev Yd7 (x0 x1 x2 x3 : Nat) : Env := [(0, some (.slice ⟨0, 0, 0, 1⟩ x0 x1)), (1, some (.slice ⟨1, 0, 0, 1⟩ x2 x3)), (10, some (.bool (((x0 : Nat) : Int) != ((x2 : Nat) : Int))))]
theorem Zzo (a : List Int) (a_n a_c : Nat) (b : List Int) (aa b_c : Nat) (hK : Zbd a a_n a_c b aa b_c Kf) (h : ZgS a a_n a_c b aa b_c) : SemL Try.prog w0 fp ρi 2 26 [ZlC, (.seq (.seq Zf1 Zes) (.seq ZcB .ret))] (Yd7 a_n a_c aa b_c) (Yd1 a_n a aa b) (fnK Zbn 2 Kf) :=
  Za0 (q := (((a_n : Nat) : Int) != ((aa : Nat) : Int))) (by kernel_rfl) (fun hq => (Zan (lpk [] [0, 1] (ZFN a a_n a_c b aa b_c hK (h.1 hq))))) (fun hq => (Zbb (lpk [0, 1] [0, 1] (Zan (Zan (Zzp a a_n a_c b aa b_c hK (h.2 hq)))))))
theorem Zxq (a : List Int) (a_n a_c : Nat) (b : List Int) (aa b_c : Nat) (Z : Env -> Heap -> Prop) (h : Z (Yd7 a_n a_c aa b_c) (Yd1 a_n a aa b)) : EvC ZcE ZlD (Yd6 a_n a_c aa b_c) (Yd1 a_n a aa b) [0, 1, 10] [0, 1] Z := EvC.of (by kernel_rfl) h
theorem Zzn (a : List Int) (a_n a_c : Nat) (b : List Int) (aa b_c : Nat) (hK : Zbd a a_n a_c b aa b_c Kf) (h : ZgS a a_n a_c b aa b_c) : SemL Try.prog w0 fp ρi 2 26 [ZlD, ZlC, (.seq (.seq Zf1 Zes) (.seq ZcB .ret))] (Yd6 a_n a_c aa b_c) (Yd1 a_n a aa b) (fnK Zbn 2 Kf) :=
  Zak Zcb (Zxq a a_n a_c b aa b_c _ (Zzo a a_n a_c b aa b_c hK h))
theorem Zxp (a : List Int) (a_n a_c : Nat) (b : List Int) (aa b_c : Nat) (Z : Env -> Heap -> Prop) (h : Z (Yd6 a_n a_c aa b_c) (Yd1 a_n a aa b)) : EvC ZcE Zo4 (Yd6 a_n a_c aa b_c) (Yd1 a_n a aa b) [0, 1] [0, 1] Z := EvC.of (by kernel_rfl) h
theorem Zzm (a : List Int) (a_n a_c : Nat) (b : List Int) (aa b_c : Nat) (hK : Zbd a a_n a_c b aa b_c Kf) (h : ZgS a a_n a_c b aa b_c) : SemL Try.prog w0 fp ρi 2 26 [Zo4, (.seq (.seq ZlD ZlC) (.seq (.seq Zf1 Zes) (.seq ZcB .ret)))] (Yd6 a_n a_c aa b_c) (Yd1 a_n a aa b) (fnK Zbn 2 Kf) :=
  Zak Zcb (Zxp a a_n a_c b aa b_c _ (Zan (Zan (Zzn a a_n a_c b aa b_c hK h))))
theorem Zvw (a : List Int) (a_n a_c : Nat) (b : List Int) (aa b_c : Nat) (hK : Zbd a a_n a_c b aa b_c Kf) (h : ZgS a a_n a_c b aa b_c) : SemL Try.prog w0 fp ρi 2 26 [Zq2] (Yd6 a_n a_c aa b_c) (Yd1 a_n a aa b) (fnK Zbn 2 Kf) :=
  (Zan (Zzm a a_n a_c b aa b_c hK h))
end
theorem ZtH (a : List Int) (a_n a_c : Nat) (b : List Int) (aa b_c : Nat) (hpre : ((List.length a = a_n /\ a_n <= a_c /\ a_n <= 1000000) /\ (List.length b = aa /\ aa <= b_c /\ aa <= 1000000))) : ZgS a a_n a_c b aa b_c := by
  unfold ZgS Zmu Zp9 ZsQ Zqa ZsR ZsS ZsT ZsU
  obtain ⟨⟨ha, -, ha2⟩, hb, -, hb2⟩ := hpre
  refine ⟨fun h => ?_, fun h => ⟨?_, ?_⟩⟩
  · simp only [bne_iff_ne, ne_eq] at h
    exact (beq_eq_false_iff_ne.2 fun he => h (by rw [<- ha, <- hb, he])).symm
  · simp only [bne_eq_false_iff_eq] at h
    exact ⟨by omega, by omega, by omega, rfl⟩
  · rintro i ⟨h0, h1, rfl, ht⟩
    refine ⟨fun hlt => ?_, fun hge => ?_⟩
    · have hlt := of_decide_eq_true hlt
      refine ⟨h0, hlt, by omega, h0, hlt, by omega, fun hd => ?_, fun hd => ?_⟩
      · simp only [bne_iff_ne, ne_eq] at hd
        exact (beq_eq_false_iff_ne.2 fun he => hd (by rw [he])).symm
      · simp only [bne_eq_false_iff_eq, Nat.zero_add] at hd
        have e1 : IntKind.i64.wrap (i + 1) = i + 1 := by rw [Zrj]; omega
        have e2 : (i + 1).toNat = i.toNat + 1 := by omega
        rw [e1, e2, ZfC (by omega), ZfC (by omega), ht, hd]
        exact ⟨⟨by omega, by omega, rfl, rfl⟩, by omega⟩
    · have hge := of_decide_eq_false hge
      rw [List.take_of_length_le (by omega), List.take_of_length_le (by omega)] at ht
      rw [ht]; simp
theorem sq11Same : Sound Try.prog 23 (dS Zmk) := by
  refine ZaQ Zl9 ?_
  rintro args H K ⟨ds, rfl, rfl, h⟩
  split at h
  · rename_i pre rs ws hD
    obtain ⟨hpre, hK⟩ := h
    unfold Zmk at hD
    split at hD
    · cases hD
      exact ⟨rfl, fun w0 fp ρi => Zvw _ _ _ _ _ _ hK (ZtH _ _ _ _ _ _ hpre)⟩
    · cases hD
  · exact h.elim
def Zhm : Zcw := fun args H => match args, H with
  | [], ⟨0, []⟩ => some (True, fun K => K (.bool true) ⟨0, []⟩)
  | _, _ => none
def Zm6 : Con := ⟨15, gS Zhm, [], [], []⟩
def Zpl : ACode := .reg (.op (some 0) (.mov (.cn (.bool false))) .nil)
def ZlS : ACode := .reg (.op (some 4) (.build [.i 0, .i 0] [(0, 1, (.cn (.int .i64 1))), (1, 1, (.cn (.int .i64 2)))]) (.op (some 5) (.call 16 [(.tm 4)]) (.op (some 1) (.mov (.tm 5)) .nil)))
def Zji : ACode := .reg (.op (some 6) (.mov (.tm 1)) (.op (some 7) (.call 17 [(.tm 6), (.cn (.int .i64 5)), (.cn (.int .i64 1))]) (.op (some 8) (.mov (.tm 1)) (.op (some 9) (.call 17 [(.tm 8), (.cn (.int .i64 7)), (.cn (.int .i64 2))]) (.op (some 2) (.mov (.tm 7)) (.op (some 3) (.mov (.tm 9)) .nil))))))
def Zhc : ACode := .reg (.op (some 10) (.mov (.tm 2)) (.op (some 11) (.bin .eql (.tm 10) (.cn (.int .i64 0))) (.op (some 12) (.mov (.tm 11)) (.grpJ 12 true (.op (some 13) (.mov (.tm 3)) (.op (some 14) (.bin .eql (.tm 13) (.cn (.int .i64 0))) .nil)) 15 (.tm 14) (.cn (.bool false)) (.op (some 16) (.mov (.tm 15)) (.grp 16 true (.op (some 17) (.mov (.tm 1)) (.op (some 18) (.call 20 [(.tm 17), (.cn (.int .i64 5))]) .nil)) (.op (some 19) (.pick (.tm 16) (.tm 18) (.cn (.bool false))) (.op (some 20) (.mov (.tm 19)) (.grpJ 20 true (.op (some 21) (.mov (.tm 1)) (.op (some 22) (.call 21 [(.tm 21), (.cn (.int .i64 0))]) (.op (some 23) (.bslice .i64 2 [(0, (.cn (.int .i64 7))), (1, (.cn (.int .i64 5)))]) (.op (some 24) (.call 23 [(.tm 22), (.tm 23)]) .nil)))) 25 (.tm 24) (.cn (.bool false)) (.op (some 26) (.mov (.tm 25)) (.grp 26 true (.op (some 27) (.mov (.tm 1)) (.op (some 28) (.call 17 [(.tm 27), (.cn (.int .i64 9)), (.cn (.int .i64 3))]) (.op (some 29) (.bin .eql (.tm 28) (.cn (.int .i64 5))) .nil))) (.op (some 30) (.pick (.tm 26) (.tm 29) (.cn (.bool false))) (.op (some 0) (.mov (.tm 30)) .nil)))))))))))))
def Zkd : ACode := (.seq Zpl (.seq ZlS (.seq Zji (.seq Zhc .ret))))
def Zba : Res := .one (.tm 0)
theorem Zjn : Zbr Try.prog 15 0 31 Zkd Zba = true := by kernel_rfl
def ZdZ : ZaE := Zvy ZBd ZwX (Zci [] [Zke])
theorem Zed : ZaT Try.prog ZdZ := ZpK ZvA ZpM (ZaZ trivial ⟨sq11Same.dC, trivial⟩)
section
variable {w0 : World} {fp : Nat -> Nat -> Prop} {ρi : Rho} {Kf : SVal -> Heap -> Prop}
abbrev Yd8 (x0 : List (Tup Zad)) : Heap := ⟨1, [(0, some ⟨false, [.rows Zad 0 x0], 2⟩)]⟩
abbrev Yd9 (x0 : List (Tup Zad)) : Env := [(0, some (.bool ((CacheV.setR (Zaq (CacheV.code (CacheV.touchC (Zaq x0) (5 : Int)))) (9 : Int) (3 : Int)) == 5)))]
abbrev ZH1 : Env := [(0, some (.bool false))]
abbrev ZJC (x0 x1 : Int) : Env := [(1, some (.ptr ⟨0, 0, 0, 1⟩ 2)), (2, some (.int .i64 x0)), (3, some (.int .i64 x1))]
theorem ZDC (v2 v3 : Int) (ab : List (Tup Zad)) (Z : Env -> Heap -> Prop) (h : ∃ qq : Bool, ((v2 == 0) = true -> (Zbk (Yd8 ab) (Yd8 ab) [(0, some ⟨false, [.rows Zad 0 ab], 2⟩)]) /\ (v3 == 0) = qq) /\ ((v2 == 0) = false -> false = qq) /\ (qq = true -> ((CacheV.Good (Zaq ab) /\ I64 (5 : Int))) /\ ∃ qq'1 : Bool, ((CacheV.hasB (Zaq ab) (5 : Int)) = true -> ((CacheV.Good (Zaq (CacheV.code (CacheV.touchC (Zaq ab) (5 : Int)))) /\ I64 (0 : Int))) /\ ∀ (c : Nat), (List.length (CacheV.oldL (Zaq (CacheV.code (CacheV.touchC (Zaq ab) (5 : Int)))) (0 : Int))) <= c -> (((0 + (List.length (CacheV.oldL (Zaq (CacheV.code (CacheV.touchC (Zaq ab) (5 : Int)))) (0 : Int)))) <= (List.length (CacheV.oldL (Zaq (CacheV.code (CacheV.touchC (Zaq ab) (5 : Int)))) (0 : Int))))) /\ (((2 : Nat) <= 2)) /\ (((List.length (CacheV.oldL (Zaq (CacheV.code (CacheV.touchC (Zaq ab) (5 : Int)))) (0 : Int))) = (List.length (CacheV.oldL (Zaq (CacheV.code (CacheV.touchC (Zaq ab) (5 : Int)))) (0 : Int))))) /\ (((2 : Nat) = 2)) /\ (((List.length (List.take (List.length (CacheV.oldL (Zaq (CacheV.code (CacheV.touchC (Zaq ab) (5 : Int)))) (0 : Int))) (CacheV.oldL (Zaq (CacheV.code (CacheV.touchC (Zaq ab) (5 : Int)))) (0 : Int))) = (List.length (CacheV.oldL (Zaq (CacheV.code (CacheV.touchC (Zaq ab) (5 : Int)))) (0 : Int))) /\ (List.length (CacheV.oldL (Zaq (CacheV.code (CacheV.touchC (Zaq ab) (5 : Int)))) (0 : Int))) <= c /\ (List.length (CacheV.oldL (Zaq (CacheV.code (CacheV.touchC (Zaq ab) (5 : Int)))) (0 : Int))) <= 1000000) /\ (List.length ([7, 5] : List Int) = 2 /\ 2 <= 2 /\ 2 <= 1000000))) /\ (Zbk ⟨3, [(0, some ⟨false, [.rows Zad 0 (CacheV.code (CacheV.touchC (Zaq ab) (5 : Int)))], 2⟩), (1, some ⟨true, [.ints .i64 (List.length (CacheV.oldL (Zaq (CacheV.code (CacheV.touchC (Zaq ab) (5 : Int)))) (0 : Int))) (CacheV.oldL (Zaq (CacheV.code (CacheV.touchC (Zaq ab) (5 : Int)))) (0 : Int))], (c - (List.length (CacheV.oldL (Zaq (CacheV.code (CacheV.touchC (Zaq ab) (5 : Int)))) (0 : Int))))⟩), (2, some ⟨true, [.ints .i64 2 [7, 5]], 0⟩)]⟩ ⟨1, [(0, some ⟨false, [.rows Zad 0 (CacheV.code (CacheV.touchC (Zaq ab) (5 : Int)))], 2⟩), (0, some ⟨false, [.rows Zad 0 (CacheV.code (CacheV.touchC (Zaq ab) (5 : Int)))], 2⟩)]⟩ [(0, some ⟨false, [.rows Zad 0 (CacheV.code (CacheV.touchC (Zaq ab) (5 : Int)))], 2⟩), (0, some ⟨false, [.rows Zad 0 (CacheV.code (CacheV.touchC (Zaq ab) (5 : Int)))], 2⟩)]) /\ ((List.take (List.length (CacheV.oldL (Zaq (CacheV.code (CacheV.touchC (Zaq ab) (5 : Int)))) (0 : Int))) (CacheV.oldL (Zaq (CacheV.code (CacheV.touchC (Zaq ab) (5 : Int)))) (0 : Int))) == ([7, 5] : List Int)) = qq'1) /\ ((CacheV.hasB (Zaq ab) (5 : Int)) = false -> false = qq'1) /\ (qq'1 = true -> ((CacheV.Good (Zaq (CacheV.code (CacheV.touchC (Zaq ab) (5 : Int)))) /\ I64 (9 : Int))) /\ Z (Yd9 ab) ⟨1, []⟩) /\ (qq'1 = false -> Z ZH1 ⟨1, []⟩)) /\ (qq = false -> ∃ qq'2 : Bool, (false = true -> ((CacheV.Good (Zaq ab) /\ I64 (0 : Int))) /\ ∀ (ac : Nat), (List.length (CacheV.oldL (Zaq ab) (0 : Int))) <= ac -> (((0 + (List.length (CacheV.oldL (Zaq ab) (0 : Int)))) <= (List.length (CacheV.oldL (Zaq ab) (0 : Int))))) /\ (((2 : Nat) <= 2)) /\ (((List.length (CacheV.oldL (Zaq ab) (0 : Int))) = (List.length (CacheV.oldL (Zaq ab) (0 : Int))))) /\ (((2 : Nat) = 2)) /\ (((List.length (List.take (List.length (CacheV.oldL (Zaq ab) (0 : Int))) (CacheV.oldL (Zaq ab) (0 : Int))) = (List.length (CacheV.oldL (Zaq ab) (0 : Int))) /\ (List.length (CacheV.oldL (Zaq ab) (0 : Int))) <= ac /\ (List.length (CacheV.oldL (Zaq ab) (0 : Int))) <= 1000000) /\ (List.length ([7, 5] : List Int) = 2 /\ 2 <= 2 /\ 2 <= 1000000))) /\ (Zbk ⟨3, [(0, some ⟨false, [.rows Zad 0 ab], 2⟩), (1, some ⟨true, [.ints .i64 (List.length (CacheV.oldL (Zaq ab) (0 : Int))) (CacheV.oldL (Zaq ab) (0 : Int))], (ac - (List.length (CacheV.oldL (Zaq ab) (0 : Int))))⟩), (2, some ⟨true, [.ints .i64 2 [7, 5]], 0⟩)]⟩ (Yd8 ab) [(0, some ⟨false, [.rows Zad 0 ab], 2⟩)]) /\ ((List.take (List.length (CacheV.oldL (Zaq ab) (0 : Int))) (CacheV.oldL (Zaq ab) (0 : Int))) == ([7, 5] : List Int)) = qq'2) /\ (false = false -> false = qq'2) /\ (qq'2 = true -> ((CacheV.Good (Zaq ab) /\ I64 (9 : Int))) /\ Z [(0, some (.bool ((CacheV.setR (Zaq ab) (9 : Int) (3 : Int)) == 5)))] ⟨1, []⟩) /\ (qq'2 = false -> Z ZH1 ⟨1, []⟩))) : EvC ZdZ Zhc (ZJC v2 v3) (Yd8 ab) [0] [] Z := EvC.of (by kernel_rfl) h
theorem ZyJ (ab : List (Tup Zad)) : RetC Zba (Yd9 ab) ⟨1, []⟩ (.bool ((CacheV.setR (Zaq (CacheV.code (CacheV.touchC (Zaq ab) (5 : Int)))) (9 : Int) (3 : Int)) == 5)) := RetC.of (fun Z => by kernel_rfl)
theorem ZyI : RetC Zba ZH1 ⟨1, []⟩ (.bool false) := RetC.of (fun Z => by kernel_rfl)
theorem ZyH (ab : List (Tup Zad)) : RetC Zba [(0, some (.bool ((CacheV.setR (Zaq ab) (9 : Int) (3 : Int)) == 5)))] ⟨1, []⟩ (.bool ((CacheV.setR (Zaq ab) (9 : Int) (3 : Int)) == 5)) := RetC.of (fun Z => by kernel_rfl)
theorem ZyG : RetC Zba ZH1 ⟨1, []⟩ (.bool false) := RetC.of (fun Z => by kernel_rfl)
def Ztf (v2 v3 : Int) (ab : List (Tup Zad)) : Prop := (((v2 == 0) && (v3 == 0)) = true -> (((CacheV.Good (Zaq ab) /\ I64 (5 : Int))) /\ (((CacheV.hasB (Zaq ab) (5 : Int)) = true -> (((CacheV.Good (Zaq (CacheV.code (CacheV.touchC (Zaq ab) (5 : Int)))) /\ I64 (0 : Int))) /\ (∀ (c : Nat), ((List.length (CacheV.oldL (Zaq (CacheV.code (CacheV.touchC (Zaq ab) (5 : Int)))) (0 : Int))) <= c) -> ((((0 + (List.length (CacheV.oldL (Zaq (CacheV.code (CacheV.touchC (Zaq ab) (5 : Int)))) (0 : Int)))) <= (List.length (CacheV.oldL (Zaq (CacheV.code (CacheV.touchC (Zaq ab) (5 : Int)))) (0 : Int))))) /\ (((List.length (List.take (List.length (CacheV.oldL (Zaq (CacheV.code (CacheV.touchC (Zaq ab) (5 : Int)))) (0 : Int))) (CacheV.oldL (Zaq (CacheV.code (CacheV.touchC (Zaq ab) (5 : Int)))) (0 : Int))) = (List.length (CacheV.oldL (Zaq (CacheV.code (CacheV.touchC (Zaq ab) (5 : Int)))) (0 : Int))) /\ (List.length (CacheV.oldL (Zaq (CacheV.code (CacheV.touchC (Zaq ab) (5 : Int)))) (0 : Int))) <= c /\ (List.length (CacheV.oldL (Zaq (CacheV.code (CacheV.touchC (Zaq ab) (5 : Int)))) (0 : Int))) <= 1000000) /\ (List.length ([7, 5] : List Int) = 2 /\ 2 <= 2 /\ 2 <= 1000000))))))) /\ ((((CacheV.hasB (Zaq ab) (5 : Int)) && ((List.take (List.length (CacheV.oldL (Zaq (CacheV.code (CacheV.touchC (Zaq ab) (5 : Int)))) (0 : Int))) (CacheV.oldL (Zaq (CacheV.code (CacheV.touchC (Zaq ab) (5 : Int)))) (0 : Int))) == ([7, 5] : List Int))) = true -> (((CacheV.Good (Zaq (CacheV.code (CacheV.touchC (Zaq ab) (5 : Int)))) /\ I64 (9 : Int))) /\ (((CacheV.setR (Zaq (CacheV.code (CacheV.touchC (Zaq ab) (5 : Int)))) (9 : Int) (3 : Int)) == 5) = true))) /\ (((CacheV.hasB (Zaq ab) (5 : Int)) && ((List.take (List.length (CacheV.oldL (Zaq (CacheV.code (CacheV.touchC (Zaq ab) (5 : Int)))) (0 : Int))) (CacheV.oldL (Zaq (CacheV.code (CacheV.touchC (Zaq ab) (5 : Int)))) (0 : Int))) == ([7, 5] : List Int))) = false -> (false = true)))))) /\ (((v2 == 0) && (v3 == 0)) = false -> ((false = true -> (((CacheV.Good (Zaq ab) /\ I64 (0 : Int))) /\ (∀ (ac : Nat), ((List.length (CacheV.oldL (Zaq ab) (0 : Int))) <= ac) -> ((((0 + (List.length (CacheV.oldL (Zaq ab) (0 : Int)))) <= (List.length (CacheV.oldL (Zaq ab) (0 : Int))))) /\ (((List.length (List.take (List.length (CacheV.oldL (Zaq ab) (0 : Int))) (CacheV.oldL (Zaq ab) (0 : Int))) = (List.length (CacheV.oldL (Zaq ab) (0 : Int))) /\ (List.length (CacheV.oldL (Zaq ab) (0 : Int))) <= ac /\ (List.length (CacheV.oldL (Zaq ab) (0 : Int))) <= 1000000) /\ (List.length ([7, 5] : List Int) = 2 /\ 2 <= 2 /\ 2 <= 1000000))))))) /\ (((false && ((List.take (List.length (CacheV.oldL (Zaq ab) (0 : Int))) (CacheV.oldL (Zaq ab) (0 : Int))) == ([7, 5] : List Int))) = true -> (((CacheV.Good (Zaq ab) /\ I64 (9 : Int))) /\ (((CacheV.setR (Zaq ab) (9 : Int) (3 : Int)) == 5) = true))) /\ ((false && ((List.take (List.length (CacheV.oldL (Zaq ab) (0 : Int))) (CacheV.oldL (Zaq ab) (0 : Int))) == ([7, 5] : List Int))) = false -> (false = true)))))
abbrev ZHw (x0 : SVal -> Heap -> Prop) : Prop := x0 (.bool true) ⟨0, []⟩
theorem ZGL (hK : (ZHw Kf)) (v2 v3 : Int) (ab : List (Tup Zad)) (h : Ztf v2 v3 ab) : SemL Try.prog w0 fp ρi 0 31 [Zhc, .ret] (ZJC v2 v3) (Yd8 ab) (fnK Zba 0 Kf) :=
  Zak Zed (ZDC v2 v3 ab _ ⟨((v2 == 0) && (v3 == 0)), fun hc_qq => ⟨(Zct _), (qa1 hc_qq)⟩, fun hc_qq => qa2 hc_qq, ⟨fun hc1 => ⟨(h.1 hc1).1, ⟨((CacheV.hasB (Zaq ab) (5 : Int)) && ((List.take (List.length (CacheV.oldL (Zaq (CacheV.code (CacheV.touchC (Zaq ab) (5 : Int)))) (0 : Int))) (CacheV.oldL (Zaq (CacheV.code (CacheV.touchC (Zaq ab) (5 : Int)))) (0 : Int))) == ([7, 5] : List Int))), fun hc_qq_1 => ⟨((h.1 hc1).2.1 hc_qq_1).1, (fun c h_c_0 => ⟨(((h.1 hc1).2.1 hc_qq_1).2 c h_c_0).1, ⟨(by decide), ⟨rfl, ⟨rfl, ⟨(((h.1 hc1).2.1 hc_qq_1).2 c h_c_0).2, ⟨(Zgz [0, 0] (by kernel_rfl) (by kernel_rfl)), (qa1 hc_qq_1)⟩⟩⟩⟩⟩⟩)⟩, fun hc_qq_1 => qa2 hc_qq_1, ⟨fun hc2 => ⟨((h.1 hc1).2.2.1 hc2).1, (ZaL (R := Zba) (m := 0) (Kf := Kf) (fun _ _ h => h) (ZyJ ab) (ZaD (Eq.mpr (cg1 (fun (z1 : Bool) => Zcn 0 Kf (.bool z1) ⟨1, []⟩) ((h.1 hc1).2.2.1 hc2).2) (Zay [] [] rfl (by kernel_rfl) rfl pbd Zag rfl (by kernel_rfl) (hK)))))⟩, fun hc2 => (ZaL (R := Zba) (m := 0) (Kf := Kf) (fun _ _ h => h) (ZyI) (ZaD (Eq.mpr (cg1 (fun (z1 : Bool) => Zcn 0 Kf (.bool z1) ⟨1, []⟩) ((h.1 hc1).2.2.2 hc2)) (Zay [] [] rfl (by kernel_rfl) rfl pbd Zag rfl (by kernel_rfl) (hK)))))⟩⟩⟩, fun hc1 => ⟨(false && ((List.take (List.length (CacheV.oldL (Zaq ab) (0 : Int))) (CacheV.oldL (Zaq ab) (0 : Int))) == ([7, 5] : List Int))), fun hc_qq_2 => ⟨((h.2 hc1).1 hc_qq_2).1, (fun ac h_c_1_0 => ⟨(((h.2 hc1).1 hc_qq_2).2 ac h_c_1_0).1, ⟨(by decide), ⟨rfl, ⟨rfl, ⟨(((h.2 hc1).1 hc_qq_2).2 ac h_c_1_0).2, ⟨(Zgz [0] (by kernel_rfl) (by kernel_rfl)), (qa1 hc_qq_2)⟩⟩⟩⟩⟩⟩)⟩, fun hc_qq_2 => qa2 hc_qq_2, ⟨fun hc3 => ⟨((h.2 hc1).2.1 hc3).1, (ZaL (R := Zba) (m := 0) (Kf := Kf) (fun _ _ h => h) (ZyH ab) (ZaD (Eq.mpr (cg1 (fun (z1 : Bool) => Zcn 0 Kf (.bool z1) ⟨1, []⟩) ((h.2 hc1).2.1 hc3).2) (Zay [] [] rfl (by kernel_rfl) rfl pbd Zag rfl (by kernel_rfl) (hK)))))⟩, fun hc3 => (ZaL (R := Zba) (m := 0) (Kf := Kf) (fun _ _ h => h) (ZyG) (ZaD (Eq.mpr (cg1 (fun (z1 : Bool) => Zcn 0 Kf (.bool z1) ⟨1, []⟩) ((h.2 hc1).2.2 hc3)) (Zay [] [] rfl (by kernel_rfl) rfl pbd Zag rfl (by kernel_rfl) (hK)))))⟩⟩⟩⟩)
abbrev ZIS : Env := [(1, some (.ptr ⟨0, 0, 0, 1⟩ 2))]
theorem ZDB (h0 : List (Tup Zad)) (Z : Env -> Heap -> Prop) (h : ((CacheV.Good (Zaq h0) /\ I64 (5 : Int))) /\ ((CacheV.Good (Zaq (CacheV.code (CacheV.setC (Zaq h0) (5 : Int) (1 : Int)))) /\ I64 (7 : Int))) /\ Z [(1, some (.ptr ⟨0, 0, 0, 1⟩ 2)), (2, some (.int .i64 (CacheV.setR (Zaq h0) (5 : Int) (1 : Int)))), (3, some (.int .i64 (CacheV.setR (Zaq (CacheV.code (CacheV.setC (Zaq h0) (5 : Int) (1 : Int)))) (7 : Int) (2 : Int))))] ⟨1, [(0, some ⟨false, [.rows Zad 0 (CacheV.code (CacheV.setC (Zaq (CacheV.code (CacheV.setC (Zaq h0) (5 : Int) (1 : Int)))) (7 : Int) (2 : Int)))], 2⟩)]⟩) : EvC ZdZ Zji ZIS (Yd8 h0) [1, 2, 3] [0] Z := EvC.of (by kernel_rfl) h
def Zte (h0 : List (Tup Zad)) : Prop := ((CacheV.Good (Zaq h0) /\ I64 (5 : Int))) /\ (((CacheV.Good (Zaq (CacheV.code (CacheV.setC (Zaq h0) (5 : Int) (1 : Int)))) /\ I64 (7 : Int))) /\ (∀ v2 : Int, v2 = (CacheV.setR (Zaq h0) (5 : Int) (1 : Int)) -> ∀ v3 : Int, v3 = (CacheV.setR (Zaq (CacheV.code (CacheV.setC (Zaq h0) (5 : Int) (1 : Int)))) (7 : Int) (2 : Int)) -> ∀ ab : List (Tup Zad), ab = (CacheV.code (CacheV.setC (Zaq (CacheV.code (CacheV.setC (Zaq h0) (5 : Int) (1 : Int)))) (7 : Int) (2 : Int))) -> Ztf v2 v3 ab))
theorem ZGK (hK : (ZHw Kf)) (h0 : List (Tup Zad)) (h : Zte h0) : SemL Try.prog w0 fp ρi 0 31 [Zji, (.seq Zhc .ret)] ZIS (Yd8 h0) (fnK Zba 0 Kf) :=
  Zak Zed (ZDB h0 _ ⟨h.1, ⟨h.2.1, (Zan (ZGL hK (CacheV.setR (Zaq h0) (5 : Int) (1 : Int)) (CacheV.setR (Zaq (CacheV.code (CacheV.setC (Zaq h0) (5 : Int) (1 : Int)))) (7 : Int) (2 : Int)) (CacheV.code (CacheV.setC (Zaq (CacheV.code (CacheV.setC (Zaq h0) (5 : Int) (1 : Int)))) (7 : Int) (2 : Int))) (((h.2.2 (CacheV.setR (Zaq h0) (5 : Int) (1 : Int)) rfl) (CacheV.setR (Zaq (CacheV.code (CacheV.setC (Zaq h0) (5 : Int) (1 : Int)))) (7 : Int) (2 : Int)) rfl) (CacheV.code (CacheV.setC (Zaq (CacheV.code (CacheV.setC (Zaq h0) (5 : Int) (1 : Int)))) (7 : Int) (2 : Int))) rfl)))⟩⟩)
theorem ZDA (Z : Env -> Heap -> Prop) (h : (True) /\ Z ZIS ⟨1, [(0, some ⟨false, [.rows Zad 0 (CacheV.code (ZiG (1 : Int) (2 : Int)))], 2⟩)]⟩) : EvC ZdZ ZlS [] ⟨0, []⟩ [1] [0] Z := EvC.of (by kernel_rfl) h
def Zmz : Prop := ∀ h0 : List (Tup Zad), h0 = (CacheV.code (ZiG (1 : Int) (2 : Int))) -> Zte h0
theorem ZGJ (hK : (ZHw Kf)) (h : Zmz) : SemL Try.prog w0 fp ρi 0 31 [ZlS, (.seq Zji (.seq Zhc .ret))] [] ⟨0, []⟩ (fnK Zba 0 Kf) :=
  Zak Zed (ZDA _ ⟨True.intro, (Zan (ZGK hK (CacheV.code (ZiG (1 : Int) (2 : Int))) (h (CacheV.code (ZiG (1 : Int) (2 : Int))) rfl)))⟩)
theorem ZDz (Z : Env -> Heap -> Prop) (h : Z [] ⟨0, []⟩) : EvC ZdZ Zpl [] ⟨0, []⟩ [] [] Z := EvC.of (by kernel_rfl) h
theorem ZGI (hK : (ZHw Kf)) (h : Zmz) : SemL Try.prog w0 fp ρi 0 31 [Zpl, (.seq ZlS (.seq Zji (.seq Zhc .ret)))] [] ⟨0, []⟩ (fnK Zba 0 Kf) :=
  Zak Zed (ZDz _ (Zan (ZGJ hK h)))
theorem Zri (hK : (ZHw Kf)) (h : Zmz) : SemL Try.prog w0 fp ρi 0 31 [Zkd] [] ⟨0, []⟩ (fnK Zba 0 Kf) :=
  (Zan (ZGI hK h))
end
theorem ZnR (hpre : True) : Zmz := by
  unfold Zmz Zte Ztf
  simp only [ZbG]
  have e0 : ZiG 1 2 = ⟨2, [[]]⟩ := rfl
  have e1 : (⟨2, [[]]⟩ : CacheV).setC 5 1 = ⟨2, [[(5, 1)]]⟩ := by rfl
  have r1 : (⟨2, [[]]⟩ : CacheV).setR 5 1 = 0 := by rfl
  have e2 : (⟨2, [[(5, 1)]]⟩ : CacheV).setC 7 2 = ⟨2, [[(5, 1), (7, 2)]]⟩ := by rfl
  have r2 : (⟨2, [[(5, 1)]]⟩ : CacheV).setR 7 2 = 0 := by rfl
  have e3 : (⟨2, [[(5, 1), (7, 2)]]⟩ : CacheV).touchC 5 = ⟨2, [[(7, 2), (5, 1)]]⟩ := by rfl
  have r3 : (⟨2, [[(5, 1), (7, 2)]]⟩ : CacheV).hasB 5 = true := by rfl
  have e4 : (⟨2, [[(7, 2), (5, 1)]]⟩ : CacheV).oldL 0 = [7, 5] := by rfl
  have r5 : (⟨2, [[(7, 2), (5, 1)]]⟩ : CacheV).setR 9 3 = 5 := by rfl
  have g : ∀ r : List (Int × Int), r.length <= 2 -> (⟨2, [r]⟩ : CacheV).Good := fun r hr => ⟨by show (1 : Int) <= 2; decide, by show (2 : Int) <= 64; decide, by show 0 < 1; decide, by show 1 <= 64; decide, fun x hx => by
    obtain rfl := List.mem_singleton.1 hx
    simp only; omega⟩
  rintro _ rfl
  simp only [ZbG]
  rw [e0]
  refine ⟨⟨g _ (by decide), by decide, by decide⟩, ⟨by rw [e1]; exact g _ (by decide), by decide, by decide⟩, ?_⟩
  rw [r1, e1, r2, e2]
  rintro _ rfl _ rfl _ rfl
  simp only [ZbG]
  rw [r3, e3, e4, r5]
  exact ⟨fun _ => ⟨⟨g _ (by decide), by decide, by decide⟩, fun _ => ⟨⟨g _ (by decide), by decide, by decide⟩, fun c hc => ⟨by decide, ⟨rfl, hc, by decide⟩, rfl, by decide, by decide⟩⟩, fun _ => ⟨⟨g _ (by decide), by decide, by decide⟩, rfl⟩, fun h => by cases h⟩, fun h => by cases h⟩
theorem Zrn : Sound Try.prog 15 (gS Zhm) := by
  refine ZaQ Zjn ?_
  intro args H K h
  obtain ⟨pre, out, hD, hpre, hK⟩ := ZbK h
  unfold Zhm at hD
  split at hD
  · cases hD
    exact ⟨rfl, fun w0 fp ρi => Zri hK (ZnR hpre)⟩
  · cases hD
end Go.Proofs.Ytinjdimejijabaa
