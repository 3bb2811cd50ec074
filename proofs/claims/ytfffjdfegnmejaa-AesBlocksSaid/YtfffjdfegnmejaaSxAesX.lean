/- Part of the proof: SxAesX. -/
import Derived.Test.YtfffjdfegnmejaaSxAesW
import Derived.KernelRfl
set_option linter.unusedVariables false
set_option linter.unusedSimpArgs false
set_option maxRecDepth 20000
namespace Go.Proofs.Ytfffjdfegnmejaa
open Go.Sx
def ZEV : ZfW := fun args H => match args, H with
  | [.ptr ⟨0, 0, 0, 1⟩ 16, .agg [.ints .u8 key_n key]], ⟨1, [(0, some ⟨true, [.ints .u8 st_n st], 0⟩)]⟩ => bif Nat.beq st_n 16 && Nat.beq key_n 16 then some ((Zaz st /\ Zaz key), fun K => K (.tuple []) ⟨1, [(0, some ⟨true, [.ints .u8 16 (ZdX st key)], 0⟩)]⟩) else none
  | _, _ => none
def ZEH : Con := ⟨28, gS ZEV, [0], [], []⟩
def Zfa (st key : List Int) (Kf : SVal -> Heap -> Prop) : Prop := Kf (.tuple []) ⟨1, [(0, some ⟨true, [.ints .u8 16 (ZdX st key)], 0⟩)]⟩
def Zqi : ACode := .reg (.op (some 3) (.box (.tm 1)) .nil)
def ZmH : ACode := .reg (.op (some 5) (.mov (.cn (.int .i64 0))) .nil)
def Zqh : ACode := .reg (.op (some 6) (.bin .lss (.tm 5) (.cn (.int .i64 16))) .nil)
def Zqg : ACode := .cond (.tm 6) .skip (.exit 0)
def Zqf : ACode := .reg (.op (some 7) (.mov (.tm 5)) (.op (some 4) (.mov (.tm 7)) .nil))
def ZmG : List MStep := [.mk 0 0 (some 8) (.mov (.tm 0)), .mk 1 0 (some 9) (.mov (.tm 4)), .mk 2 0 (some 10) (.nilCheck (.tm 8)), .mk 3 0 (some 11) (.idxA (.tm 10) (.tm 9) 16 1), .mk 4 0 (some 12) (.load1 (.tm 11)), .mk 5 0 (some 13) (.mov (.tm 4)), .mk 6 0 (some 14) (.idxA (.tm 3) (.tm 13) 16 1), .mk 7 0 (some 15) (.load1 (.tm 14)), .mk 8 0 (some 16) (.bin .xor (.tm 12) (.tm 15)), .mk 9 0 (some 17) (.nilCheck (.tm 8)), .mk 10 0 (some 18) (.idxA (.tm 17) (.tm 9) 16 1), .mk 11 2 none (.store1 (.tm 18) (.tm 16))]
def Zqe : ACode := .regM ZmG
def ZmF : ACode := .block 1 (.seq Zqf Zqe)
def Zgn : ACode := .reg (.op (some 19) (.bin .add (.tm 5) (.cn (.int .i64 1))) (.op (some 5) (.mov (.tm 19)) .nil))
def Zx0 : ACode := .loop (.seq Zqh (.seq Zqg (.seq ZmF Zgn)))
def ZmE : ACode := .block 0 Zx0
def ZLE : ACode := (.seq Zqi (.seq ZmH ZmE))
def Zno : Res := .many []
theorem Ztp : Zbj Try.prog 28 2 20 ZLE Zno = true := by kernel_rfl
def Zq5 : Zav := Zcl [] []
theorem ZkS : ZaK Try.prog Zq5 := ZaL trivial trivial
section
variable {w0 : World} {fp : Nat -> Nat -> Prop} {ρi : Rho} {Kf : SVal -> Heap -> Prop}
def ZwL (w0 : World) (fp : Nat -> Nat -> Prop) (ρi : Rho) (Kf : SVal -> Heap -> Prop) (st key : List Int) : ZaY := Zax 0 (fun e H => SemL Try.prog w0 fp ρi 1 20 [] e H (fnK Zno 1 Kf)) (fnK Zno 1 Kf)
def Zxh (st key : List Int) : Int × List Int -> Prop := fun s => match s with | (v5, h0) => 0 <= v5 /\ v5 <= 16 /\ h0.length = 16 /\ ∀ j : Nat, j < 16 -> h0.getD j 0 = if (j : Int) < v5 then Zar .u8 (st.getD j 0) (key.getD j 0) else st.getD j 0
def Zvp (st key : List Int) : Int × List Int -> Nat := fun s => match s with | (v5, h0) => ((16 - v5).toNat)
def Zwf (st key : List Int) : Int × List Int -> Env := fun s => match s with | (v5, h0) => [(0, some (.ptr ⟨0, 0, 0, 1⟩ 16)), (3, some (.ptr ⟨1, 0, 0, 1⟩ 16)), (5, some (.int .i64 v5))]
def ZvQ (st key : List Int) : Int × List Int -> Heap := fun s => match s with | (v5, h0) => ⟨2, [(0, some ⟨true, [.ints .u8 16 h0], 0⟩), (1, some ⟨true, [.ints .u8 16 key], 0⟩)]⟩
def ZhJ (w0 : World) (fp : Nat -> Nat -> Prop) (ρi : Rho) (Kf : SVal -> Heap -> Prop) (st key : List Int) (v5 : Int) (h0 : List Int) : ZaY := Zb2 1 (Zxh st key) (Zvp st key) (Zwf st key) (ZvQ st key) (v5, h0) (ZwL w0 fp ρi Kf st key)
abbrev Yg0 (x0 x1 : List Int) : Heap := ⟨2, [(0, some ⟨true, [.ints .u8 16 x0], 0⟩), (1, some ⟨true, [.ints .u8 16 x1], 0⟩)]⟩
abbrev Yg1 (x0 : Int) : Env := [(0, some (.ptr ⟨0, 0, 0, 1⟩ 16)), (3, some (.ptr ⟨1, 0, 0, 1⟩ 16)), (5, some (.int .i64 x0))]
theorem ZGX (st key : List Int) (v5 : Int) (aa h0 : List Int) (Z : Env -> Heap -> Prop) (h : Z [(0, some (.ptr ⟨0, 0, 0, 1⟩ 16)), (3, some (.ptr ⟨1, 0, 0, 1⟩ 16)), (5, some (.int .i64 (IntKind.i64.wrap (v5 + 1))))] (Yg0 aa key)) : EvC Zq5 Zgn (Yg1 v5) (Yg0 aa key) [0, 3, 5] [0, 1] Z := EvC.of (by kernel_rfl) h
def Zuh (st key : List Int) (v5 : Int) (aa h0 : List Int) : Prop := (0 <= (IntKind.i64.wrap (v5 + 1)) /\ (IntKind.i64.wrap (v5 + 1)) <= 16 /\ aa.length = 16 /\ ∀ j : Nat, j < 16 -> aa.getD j 0 = if (j : Int) < (IntKind.i64.wrap (v5 + 1)) then Zar .u8 (st.getD j 0) (key.getD j 0) else st.getD j 0) /\ (((16 - (IntKind.i64.wrap (v5 + 1))).toNat) < ((16 - v5).toNat))
theorem ZJ3 (st key : List Int) (hK : Zfa st key Kf) (v5 : Int) (aa h0 : List Int) (h : Zuh st key v5 aa h0) : SemL Try.prog w0 fp ρi 1 20 [Zgn] (Yg1 v5) (Yg0 aa key) (ZhJ w0 fp ρi Kf st key v5 h0) :=
  Zad ZkS (ZGX st key v5 aa h0 _ (ZaO (Zay (x' := ((IntKind.i64.wrap (v5 + 1)), aa)) (τ := tau []) h.1 h.2 (Zao [] [0, 1] rfl rfl (esc bpt (esc bpt (esc pbd Zak))) (hsc pcs (hsc pcs Zae)) (by kernel_rfl) rfl))))
def ZwK (w0 : World) (fp : Nat -> Nat -> Prop) (ρi : Rho) (Kf : SVal -> Heap -> Prop) (st key : List Int) (v5 : Int) (h0 : List Int) : ZaY := Zax 1 (fun e H => SemL Try.prog w0 fp ρi 1 20 [Zgn] e H (ZhJ w0 fp ρi Kf st key v5 h0)) (ZhJ w0 fp ρi Kf st key v5 h0)
abbrev Yg2 (x0 : Int) : Env := [(0, some (.ptr ⟨0, 0, 0, 1⟩ 16)), (3, some (.ptr ⟨1, 0, 0, 1⟩ 16)), (4, some (.int .i64 x0)), (5, some (.int .i64 x0))]
theorem ZGW (st key : List Int) (v5 : Int) (h0 : List Int) (Z : Env -> Heap -> Prop) (h : ((0 <= v5)) /\ ((v5 < 16)) /\ (((0 + ((Int.toNat v5) * 1)) < 16)) /\ ((0 <= v5)) /\ ((v5 < 16)) /\ (((0 + ((Int.toNat v5) * 1)) < 16)) /\ ((0 <= v5)) /\ ((v5 < 16)) /\ (((0 + ((Int.toNat v5) * 1)) < 16)) /\ (((0 + ((Int.toNat v5) * 1)) < List.length h0)) /\ Z (Yg1 v5) ⟨2, [(0, some ⟨true, [.ints .u8 16 (List.set h0 (0 + ((Int.toNat v5) * 1)) (Zar .u8 (List.getD h0 (0 + ((Int.toNat v5) * 1)) 0) (List.getD key (0 + ((Int.toNat v5) * 1)) 0)))], 0⟩), (1, some ⟨true, [.ints .u8 16 key], 0⟩)]⟩) : EvNC Zq5 ZmG [[], [], [], [], [0], [], [], [1], [], [], [], []] (Yg2 v5) (Yg0 h0 key) [0, 3, 5] [0, 1] Z := EvNC.of (by kernel_rfl) h
def ZnD (st key : List Int) (v5 : Int) (h0 : List Int) : Prop := ((0 <= v5)) /\ (((v5 < 16)) /\ ((((0 + ((Int.toNat v5) * 1)) < 16)) /\ (((0 <= v5)) /\ (((v5 < 16)) /\ ((((0 + ((Int.toNat v5) * 1)) < 16)) /\ (((0 <= v5)) /\ (((v5 < 16)) /\ ((((0 + ((Int.toNat v5) * 1)) < 16)) /\ ((((0 + ((Int.toNat v5) * 1)) < List.length h0)) /\ (∀ aa : List Int, aa = (List.set h0 (0 + ((Int.toNat v5) * 1)) (Zar .u8 (List.getD h0 (0 + ((Int.toNat v5) * 1)) 0) (List.getD key (0 + ((Int.toNat v5) * 1)) 0))) -> Zuh st key v5 aa h0))))))))))
theorem ZJ2 (st key : List Int) (hK : Zfa st key Kf) (v5 : Int) (h0 : List Int) (h : ZnD st key v5 h0) : SemL Try.prog w0 fp ρi 1 20 [Zqe] (Yg2 v5) (Yg0 h0 key) (ZwK w0 fp ρi Kf st key v5 h0) :=
  Zcf ZkS (steps := ZmG) (ZGW st key v5 h0 _ ⟨h.1, ⟨h.2.1, ⟨h.2.2.1, ⟨h.2.2.2.1, ⟨h.2.2.2.2.1, ⟨h.2.2.2.2.2.1, ⟨h.2.2.2.2.2.2.1, ⟨h.2.2.2.2.2.2.2.1, ⟨h.2.2.2.2.2.2.2.2.1, ⟨h.2.2.2.2.2.2.2.2.2.1, (ZaO (ZJ3 st key hK v5 (List.set h0 (0 + ((Int.toNat v5) * 1)) (Zar .u8 (List.getD h0 (0 + ((Int.toNat v5) * 1)) 0) (List.getD key (0 + ((Int.toNat v5) * 1)) 0))) h0 (h.2.2.2.2.2.2.2.2.2.2 (List.set h0 (0 + ((Int.toNat v5) * 1)) (Zar .u8 (List.getD h0 (0 + ((Int.toNat v5) * 1)) 0) (List.getD key (0 + ((Int.toNat v5) * 1)) 0))) rfl)))⟩⟩⟩⟩⟩⟩⟩⟩⟩⟩)
theorem ZGV (st key : List Int) (v5 : Int) (h0 : List Int) (Z : Env -> Heap -> Prop) (h : Z (Yg2 v5) (Yg0 h0 key)) : EvC Zq5 Zqf (Yg1 v5) (Yg0 h0 key) [0, 3, 4, 5] [0, 1] Z := EvC.of (by kernel_rfl) h
theorem ZJ1 (st key : List Int) (hK : Zfa st key Kf) (v5 : Int) (h0 : List Int) (h : ZnD st key v5 h0) : SemL Try.prog w0 fp ρi 1 20 [Zqf, Zqe] (Yg1 v5) (Yg0 h0 key) (ZwK w0 fp ρi Kf st key v5 h0) :=
  Zad ZkS (ZGV st key v5 h0 _ (ZJ2 st key hK v5 h0 h))
theorem ZJ0 (st key : List Int) (hK : Zfa st key Kf) (v5 : Int) (h0 : List Int) (h : ZnD st key v5 h0) : SemL Try.prog w0 fp ρi 1 20 [ZmF, Zgn] (Yg1 v5) (Yg0 h0 key) (ZhJ w0 fp ρi Kf st key v5 h0) :=
  Zat (Zah (ZJ1 st key hK v5 h0 h))
theorem ZB5 (st key h0 : List Int) : RetC Zno [] ⟨2, [(0, some ⟨true, [.ints .u8 16 h0], 0⟩)]⟩ (.tuple []) := RetC.of (fun Z => by kernel_rfl)
def Zrz (st key : List Int) (v5 : Int) (h0 : List Int) : Prop := ((decide (v5 < 16)) = true -> (ZnD st key v5 h0)) /\ ((decide (v5 < 16)) = false -> (h0 = (ZdX st key)))
abbrev Yg3 (x0 : Int) : Env := [(0, some (.ptr ⟨0, 0, 0, 1⟩ 16)), (3, some (.ptr ⟨1, 0, 0, 1⟩ 16)), (5, some (.int .i64 x0)), (6, some (.bool (decide (x0 < 16))))]
theorem ZJZ (st key : List Int) (hK : Zfa st key Kf) (v5 : Int) (h0 : List Int) (h : Zrz st key v5 h0) : SemL Try.prog w0 fp ρi 1 20 [Zqg, (.seq ZmF Zgn)] (Yg3 v5) (Yg0 h0 key) (ZhJ w0 fp ρi Kf st key v5 h0) :=
  ZaJ (q := (decide (v5 < 16))) (by kernel_rfl) (fun hq => (ZaI (lpk [0, 3, 5] [0, 1] (Zah (ZJ0 st key hK v5 h0 (h.1 hq)))))) (fun hq => (Zbb (lpk [] [0] (Zyn (R := Zno) (m := 1) (Kf := Kf) (fun _ _ h => h) (ZB5 st key h0) (Zb4 (Eq.mpr (cg1 (fun (z1 : List Int) => Zkj 1 Kf (.tuple []) ⟨2, [(0, some ⟨true, [.ints .u8 16 z1], 0⟩)]⟩) (h.2 hq)) (Zbm [] [0] rfl (by kernel_rfl) rfl (Zhb Zkf) (hsc pcs Zae) rfl (by kernel_rfl) (hK))))))))
theorem ZGU (st key : List Int) (v5 : Int) (h0 : List Int) (Z : Env -> Heap -> Prop) (h : Z (Yg3 v5) (Yg0 h0 key)) : EvC Zq5 Zqh (Yg1 v5) (Yg0 h0 key) [0, 3, 5, 6] [0, 1] Z := EvC.of (by kernel_rfl) h
theorem ZJY (st key : List Int) (hK : Zfa st key Kf) (v5 : Int) (h0 : List Int) (h : Zrz st key v5 h0) : SemL Try.prog w0 fp ρi 1 20 [Zqh, (.seq Zqg (.seq ZmF Zgn))] (Yg1 v5) (Yg0 h0 key) (ZhJ w0 fp ρi Kf st key v5 h0) :=
  Zad ZkS (ZGU st key v5 h0 _ (Zah (ZJZ st key hK v5 h0 h)))
def Zjb (st key : List Int) : Prop := (0 <= (0 : Int) /\ (0 : Int) <= 16 /\ st.length = 16 /\ ∀ j : Nat, j < 16 -> st.getD j 0 = if (j : Int) < (0 : Int) then Zar .u8 (st.getD j 0) (key.getD j 0) else st.getD j 0) /\ (∀ (v5 : Int) (h0 : List Int), (0 <= v5 /\ v5 <= 16 /\ h0.length = 16 /\ ∀ j : Nat, j < 16 -> h0.getD j 0 = if (j : Int) < v5 then Zar .u8 (st.getD j 0) (key.getD j 0) else st.getD j 0) -> (Zrz st key v5 h0))
abbrev Yg4 : Env := [(0, some (.ptr ⟨0, 0, 0, 1⟩ 16)), (3, some (.ptr ⟨1, 0, 0, 1⟩ 16)), (5, some (.int .i64 0))]
theorem ZJX (st key : List Int) (hK : Zfa st key Kf) (h : Zjb st key) : SemL Try.prog w0 fp ρi 1 20 [Zx0] Yg4 (Yg0 st key) (ZwL w0 fp ρi Kf st key) :=
  Zbd (Zxh st key) (Zvp st key) (Zwf st key) (ZvQ st key) ⟨(0, st), tau [], h.1, (Zao [] [0, 1] rfl rfl (esc bpt (esc bpt (esc pbd Zak))) (hsc pcs (hsc pcs Zae)) (by kernel_rfl) rfl)⟩ (fun s => match s with | (v5, h0) => fun hi => (Zah (ZJY st key hK v5 h0 (h.2 v5 h0 hi))))
theorem ZJW (st key : List Int) (hK : Zfa st key Kf) (h : Zjb st key) : SemL Try.prog w0 fp ρi 1 20 [ZmE] Yg4 (Yg0 st key) (fnK Zno 1 Kf) :=
  Zat (ZJX st key hK h)
abbrev Yg5 : Env := [(0, some (.ptr ⟨0, 0, 0, 1⟩ 16)), (3, some (.ptr ⟨1, 0, 0, 1⟩ 16))]
theorem ZGT (st key : List Int) (Z : Env -> Heap -> Prop) (h : Z Yg4 (Yg0 st key)) : EvC Zq5 ZmH Yg5 (Yg0 st key) [0, 3, 5] [0, 1] Z := EvC.of (by kernel_rfl) h
theorem ZJV (st key : List Int) (hK : Zfa st key Kf) (h : Zjb st key) : SemL Try.prog w0 fp ρi 1 20 [ZmH, ZmE] Yg5 (Yg0 st key) (fnK Zno 1 Kf) :=
  Zad ZkS (ZGT st key _ (ZJW st key hK h))
abbrev Yg6 (x0 : List Int) : Env := [(0, some (.ptr ⟨0, 0, 0, 1⟩ 16)), (1, some (.agg [.ints .u8 16 x0]))]
abbrev Yg7 (x0 : List Int) : Heap := ⟨1, [(0, some ⟨true, [.ints .u8 16 x0], 0⟩)]⟩
theorem ZGS (st key : List Int) (Z : Env -> Heap -> Prop) (h : Z Yg5 (Yg0 st key)) : EvC Zq5 Zqi (Yg6 key) (Yg7 st) [0, 3] [0, 1] Z := EvC.of (by kernel_rfl) h
theorem ZJU (st key : List Int) (hK : Zfa st key Kf) (h : Zjb st key) : SemL Try.prog w0 fp ρi 1 20 [Zqi, (.seq ZmH ZmE)] (Yg6 key) (Yg7 st) (fnK Zno 1 Kf) :=
  Zad ZkS (ZGS st key _ (Zah (ZJV st key hK h)))
theorem ZL1 (st key : List Int) (hK : Zfa st key Kf) (h : Zjb st key) : SemL Try.prog w0 fp ρi 1 20 [ZLE] (Yg6 key) (Yg7 st) (fnK Zno 1 Kf) :=
  (Zah (ZJU st key hK h))
end
theorem ZLm (st key : List Int) (hpre : (Zaz st /\ Zaz key)) : Zjb st key := by
  unfold Zjb Zrz ZnD Zuh
  obtain ⟨h1, h2⟩ := hpre
  refine ⟨⟨by omega, by omega, h1.1, fun j hj => by rw [if_neg (by omega)]⟩, ?_⟩
  rintro v5 h0 ⟨i0, i1, i2, i3⟩
  refine ⟨fun hlt => ?_, fun hge => ?_⟩
  · have hlt := of_decide_eq_true hlt
    have w1 : IntKind.i64.wrap (v5 + 1) = v5 + 1 := by rw [ZdQ]; omega
    rw [w1, Nat.zero_add, Nat.mul_one]
    refine ⟨i0, by omega, by omega, i0, by omega, by omega, i0, by omega, by omega, by omega, ?_⟩
    rintro ab rfl
    refine ⟨⟨by omega, by omega, by rw [List.length_set, i2], fun j hj => ?_⟩, by omega⟩
    rw [Zca (by omega)]
    by_cases hjv : j = v5.toNat
    · rw [if_pos hjv, if_pos (by omega), <- hjv, i3 j hj, if_neg (by omega)]
    · rw [if_neg hjv, i3 j hj]
      by_cases hjl : (j : Int) < v5
      · rw [if_pos hjl, if_pos (by omega)]
      · rw [if_neg hjl, if_neg (by omega)]
  · have hge := of_decide_eq_false hge
    exact Zbs i2 fun j hj => by rw [i3 j hj, if_pos (by omega)]
theorem ZL7 : Sound Try.prog 28 (gS ZEV) := by
  refine ZaC Ztp ?_
  intro args H K h
  obtain ⟨pre, out, hD, hpre, hK⟩ := Zdv h
  unfold ZEV at hD
  split at hD
  · obtain ⟨hb, hD⟩ := Zas hD
    simp only [Bool.and_eq_true] at hb
    obtain ⟨h0, h1⟩ := hb
    obtain rfl := Nat.eq_of_beq_eq_true h0
    obtain rfl := Nat.eq_of_beq_eq_true h1
    cases hD
    exact ⟨rfl, fun w0 fp ρi => ZL1 _ _ hK (ZLm _ _ hpre)⟩
  · cases hD
def Zq6 : ZfW := fun args H => match args, H with
  | [.ptr ⟨0, 0, 0, 1⟩ 16, .ptr ⟨1, 0, 0, 1⟩ 256], ⟨2, [(0, some ⟨true, [.ints .u8 st_n st], 0⟩), (1, some ⟨false, [.ints .u8 t_n t], 0⟩)]⟩ => bif Nat.beq st_n 16 && Nat.beq t_n 256 then some ((Zaz st /\ t = sboxT), fun K => K (.tuple []) ⟨2, [(0, some ⟨true, [.ints .u8 16 (Za7 st)], 0⟩), (1, some ⟨false, [.ints .u8 256 t], 0⟩)]⟩) else none
  | _, _ => none
def Zx5 : Con := ⟨29, gS Zq6, [0], [], []⟩
def Zb7 (st t : List Int) (Kf : SVal -> Heap -> Prop) : Prop := Kf (.tuple []) ⟨2, [(0, some ⟨true, [.ints .u8 16 (Za7 st)], 0⟩), (1, some ⟨false, [.ints .u8 256 t], 0⟩)]⟩
def Zqd : ACode := .reg (.op (some 6) (.mov (.tm 0)) (.op (some 7) (.nilCheck (.tm 6)) (.op (some 8) (.loadA 16 (.tm 7)) (.op (some 4) (.alloc [.ints .u8 16 (List.replicate 16 0)]) (.op none (.storeA 16 (.tm 4) (.tm 8)) .nil)))))
def ZmD : ACode := .reg (.op (some 9) (.mov (.cn (.int .i64 0))) .nil)
def Zqc : ACode := .reg (.op (some 10) (.bin .lss (.tm 9) (.cn (.int .i64 16))) .nil)
def Zqb : ACode := .cond (.tm 10) .skip (.exit 0)
def Zqa : ACode := .reg (.op (some 11) (.mov (.tm 9)) (.op (some 5) (.mov (.tm 11)) .nil))
def ZmC : List MStep := [.mk 0 0 (some 12) (.mov (.tm 0)), .mk 1 0 (some 13) (.mov (.tm 5)), .mk 2 0 (some 14) (.mov (.tm 1)), .mk 3 0 (some 15) (.mov (.tm 5)), .mk 4 0 (some 16) (.mov (.tm 5)), .mk 5 0 (some 17) (.bin .and (.tm 16) (.cn (.int .i64 3))), .mk 6 0 (some 18) (.bin .mul (.cn (.int .i64 4)) (.tm 17)), .mk 7 0 (some 19) (.bin .add (.tm 15) (.tm 18)), .mk 8 0 (some 20) (.bin .and (.tm 19) (.cn (.int .i64 15))), .mk 9 0 (some 21) (.idxA (.tm 4) (.tm 20) 16 1), .mk 10 0 (some 22) (.load1 (.tm 21)), .mk 11 0 (some 23) (.nilCheck (.tm 14)), .mk 12 0 (some 24) (.idxA (.tm 23) (.tm 22) 256 1), .mk 13 0 (some 25) (.load1 (.tm 24)), .mk 14 0 (some 26) (.nilCheck (.tm 12)), .mk 15 0 (some 27) (.idxA (.tm 26) (.tm 13) 16 1), .mk 16 2 none (.store1 (.tm 27) (.tm 25))]
def Zp9 : ACode := .regM ZmC
def ZmB : ACode := .block 1 (.seq Zqa Zp9)
def Zgm : ACode := .reg (.op (some 28) (.bin .add (.tm 9) (.cn (.int .i64 1))) (.op (some 9) (.mov (.tm 28)) .nil))
def ZxZ : ACode := .loop (.seq Zqc (.seq Zqb (.seq ZmB Zgm)))
def ZmA : ACode := .block 0 ZxZ
def Zya : ACode := (.seq Zqd (.seq ZmD ZmA))
def ZeH : Res := .many []
theorem Zor : Zbj Try.prog 29 2 29 Zya ZeH = true := by kernel_rfl
def Zgu : Zav := Zcl [] []
theorem ZfC : ZaK Try.prog Zgu := ZaL trivial trivial
section
variable {w0 : World} {fp : Nat -> Nat -> Prop} {ρi : Rho} {Kf : SVal -> Heap -> Prop}
def ZwJ (w0 : World) (fp : Nat -> Nat -> Prop) (ρi : Rho) (Kf : SVal -> Heap -> Prop) (st t : List Int) : ZaY := Zax 0 (fun e H => SemL Try.prog w0 fp ρi 2 29 [] e H (fnK ZeH 2 Kf)) (fnK ZeH 2 Kf)
def Zxg (st t : List Int) : Int × List Int -> Prop := fun s => match s with | (v9, h0) => 0 <= v9 /\ v9 <= 16 /\ h0.length = 16 /\ ∀ j : Nat, j < 16 -> (j : Int) < v9 -> h0.getD j 0 = ZcR (st.getD ((j + 4 * (j % 4)) % 16) 0)
def Zvo (st t : List Int) : Int × List Int -> Nat := fun s => match s with | (v9, h0) => ((16 - v9).toNat)
def Zwe (st t : List Int) : Int × List Int -> Env := fun s => match s with | (v9, h0) => [(0, some (.ptr ⟨0, 0, 0, 1⟩ 16)), (1, some (.ptr ⟨1, 0, 0, 1⟩ 256)), (4, some (.ptr ⟨2, 0, 0, 1⟩ 16)), (9, some (.int .i64 v9))]
def ZvP (st t : List Int) : Int × List Int -> Heap := fun s => match s with | (v9, h0) => ⟨3, [(0, some ⟨true, [.ints .u8 16 h0], 0⟩), (1, some ⟨false, [.ints .u8 256 t], 0⟩), (2, some ⟨true, [.ints .u8 16 st], 0⟩)]⟩
def ZhI (w0 : World) (fp : Nat -> Nat -> Prop) (ρi : Rho) (Kf : SVal -> Heap -> Prop) (st t : List Int) (v9 : Int) (h0 : List Int) : ZaY := Zb2 2 (Zxg st t) (Zvo st t) (Zwe st t) (ZvP st t) (v9, h0) (ZwJ w0 fp ρi Kf st t)
abbrev Yg8 (x0 x1 x2 : List Int) : Heap := ⟨3, [(0, some ⟨true, [.ints .u8 16 x0], 0⟩), (1, some ⟨false, [.ints .u8 256 x1], 0⟩), (2, some ⟨true, [.ints .u8 16 x2], 0⟩)]⟩
abbrev Yg9 (x0 : Int) : Env := [(0, some (.ptr ⟨0, 0, 0, 1⟩ 16)), (1, some (.ptr ⟨1, 0, 0, 1⟩ 256)), (4, some (.ptr ⟨2, 0, 0, 1⟩ 16)), (9, some (.int .i64 x0))]
theorem ZGR (st t : List Int) (v9 : Int) (aa h0 : List Int) (Z : Env -> Heap -> Prop) (h : Z [(0, some (.ptr ⟨0, 0, 0, 1⟩ 16)), (1, some (.ptr ⟨1, 0, 0, 1⟩ 256)), (4, some (.ptr ⟨2, 0, 0, 1⟩ 16)), (9, some (.int .i64 (IntKind.i64.wrap (v9 + 1))))] (Yg8 aa t st)) : EvC Zgu Zgm (Yg9 v9) (Yg8 aa t st) [0, 1, 4, 9] [0, 1, 2] Z := EvC.of (by kernel_rfl) h
def Zug (st t : List Int) (v9 : Int) (aa h0 : List Int) : Prop := (0 <= (IntKind.i64.wrap (v9 + 1)) /\ (IntKind.i64.wrap (v9 + 1)) <= 16 /\ aa.length = 16 /\ ∀ j : Nat, j < 16 -> (j : Int) < (IntKind.i64.wrap (v9 + 1)) -> aa.getD j 0 = ZcR (st.getD ((j + 4 * (j % 4)) % 16) 0)) /\ (((16 - (IntKind.i64.wrap (v9 + 1))).toNat) < ((16 - v9).toNat))
theorem ZJT (st t : List Int) (hK : Zb7 st t Kf) (v9 : Int) (aa h0 : List Int) (h : Zug st t v9 aa h0) : SemL Try.prog w0 fp ρi 2 29 [Zgm] (Yg9 v9) (Yg8 aa t st) (ZhI w0 fp ρi Kf st t v9 h0) :=
  Zad ZfC (ZGR st t v9 aa h0 _ (ZaO (Zay (x' := ((IntKind.i64.wrap (v9 + 1)), aa)) (τ := tau []) h.1 h.2 (Zao [] [0, 1, 2] rfl rfl (esc bpt (esc bpt (esc bpt (esc pbd Zak)))) (hsc pcs (hsc pcs (hsc pcs Zae))) (by kernel_rfl) rfl))))
def ZwI (w0 : World) (fp : Nat -> Nat -> Prop) (ρi : Rho) (Kf : SVal -> Heap -> Prop) (st t : List Int) (v9 : Int) (h0 : List Int) : ZaY := Zax 1 (fun e H => SemL Try.prog w0 fp ρi 2 29 [Zgm] e H (ZhI w0 fp ρi Kf st t v9 h0)) (ZhI w0 fp ρi Kf st t v9 h0)
abbrev ZNr (x0 : Int) : Env := [(0, some (.ptr ⟨0, 0, 0, 1⟩ 16)), (1, some (.ptr ⟨1, 0, 0, 1⟩ 256)), (4, some (.ptr ⟨2, 0, 0, 1⟩ 16)), (5, some (.int .i64 x0)), (9, some (.int .i64 x0))]
theorem ZGQ (st t : List Int) (v9 : Int) (h0 : List Int) (Z : Env -> Heap -> Prop) (h : ((0 <= (ZaR .i64 (IntKind.i64.wrap (v9 + (IntKind.i64.wrap (4 * (ZaR .i64 v9 3))))) 15))) /\ (((ZaR .i64 (IntKind.i64.wrap (v9 + (IntKind.i64.wrap (4 * (ZaR .i64 v9 3))))) 15) < 16)) /\ (((0 + ((Int.toNat (ZaR .i64 (IntKind.i64.wrap (v9 + (IntKind.i64.wrap (4 * (ZaR .i64 v9 3))))) 15)) * 1)) < 16)) /\ ((0 <= (List.getD st (0 + ((Int.toNat (ZaR .i64 (IntKind.i64.wrap (v9 + (IntKind.i64.wrap (4 * (ZaR .i64 v9 3))))) 15)) * 1)) 0))) /\ (((List.getD st (0 + ((Int.toNat (ZaR .i64 (IntKind.i64.wrap (v9 + (IntKind.i64.wrap (4 * (ZaR .i64 v9 3))))) 15)) * 1)) 0) < 256)) /\ (((0 + ((Int.toNat (List.getD st (0 + ((Int.toNat (ZaR .i64 (IntKind.i64.wrap (v9 + (IntKind.i64.wrap (4 * (ZaR .i64 v9 3))))) 15)) * 1)) 0)) * 1)) < 256)) /\ ((0 <= v9)) /\ ((v9 < 16)) /\ (((0 + ((Int.toNat v9) * 1)) < 16)) /\ (((0 + ((Int.toNat v9) * 1)) < List.length h0)) /\ Z (Yg9 v9) ⟨3, [(0, some ⟨true, [.ints .u8 16 (List.set h0 (0 + ((Int.toNat v9) * 1)) (List.getD t (0 + ((Int.toNat (List.getD st (0 + ((Int.toNat (ZaR .i64 (IntKind.i64.wrap (v9 + (IntKind.i64.wrap (4 * (ZaR .i64 v9 3))))) 15)) * 1)) 0)) * 1)) 0))], 0⟩), (1, some ⟨false, [.ints .u8 256 t], 0⟩), (2, some ⟨true, [.ints .u8 16 st], 0⟩)]⟩) : EvNC Zgu ZmC [[], [], [], [], [], [], [], [], [], [], [2], [], [], [1], [], [], []] (ZNr v9) (Yg8 h0 t st) [0, 1, 4, 9] [0, 1, 2] Z := EvNC.of (by kernel_rfl) h
def ZnC (st t : List Int) (v9 : Int) (h0 : List Int) : Prop := ((0 <= (ZaR .i64 (IntKind.i64.wrap (v9 + (IntKind.i64.wrap (4 * (ZaR .i64 v9 3))))) 15))) /\ ((((ZaR .i64 (IntKind.i64.wrap (v9 + (IntKind.i64.wrap (4 * (ZaR .i64 v9 3))))) 15) < 16)) /\ ((((0 + ((Int.toNat (ZaR .i64 (IntKind.i64.wrap (v9 + (IntKind.i64.wrap (4 * (ZaR .i64 v9 3))))) 15)) * 1)) < 16)) /\ (((0 <= (List.getD st (0 + ((Int.toNat (ZaR .i64 (IntKind.i64.wrap (v9 + (IntKind.i64.wrap (4 * (ZaR .i64 v9 3))))) 15)) * 1)) 0))) /\ ((((List.getD st (0 + ((Int.toNat (ZaR .i64 (IntKind.i64.wrap (v9 + (IntKind.i64.wrap (4 * (ZaR .i64 v9 3))))) 15)) * 1)) 0) < 256)) /\ ((((0 + ((Int.toNat (List.getD st (0 + ((Int.toNat (ZaR .i64 (IntKind.i64.wrap (v9 + (IntKind.i64.wrap (4 * (ZaR .i64 v9 3))))) 15)) * 1)) 0)) * 1)) < 256)) /\ (((0 <= v9)) /\ (((v9 < 16)) /\ ((((0 + ((Int.toNat v9) * 1)) < 16)) /\ ((((0 + ((Int.toNat v9) * 1)) < List.length h0)) /\ (∀ aa : List Int, aa = (List.set h0 (0 + ((Int.toNat v9) * 1)) (List.getD t (0 + ((Int.toNat (List.getD st (0 + ((Int.toNat (ZaR .i64 (IntKind.i64.wrap (v9 + (IntKind.i64.wrap (4 * (ZaR .i64 v9 3))))) 15)) * 1)) 0)) * 1)) 0)) -> Zug st t v9 aa h0))))))))))
theorem ZJS (st t : List Int) (hK : Zb7 st t Kf) (v9 : Int) (h0 : List Int) (h : ZnC st t v9 h0) : SemL Try.prog w0 fp ρi 2 29 [Zp9] (ZNr v9) (Yg8 h0 t st) (ZwI w0 fp ρi Kf st t v9 h0) :=
  Zcf ZfC (steps := ZmC) (ZGQ st t v9 h0 _ ⟨h.1, ⟨h.2.1, ⟨h.2.2.1, ⟨h.2.2.2.1, ⟨h.2.2.2.2.1, ⟨h.2.2.2.2.2.1, ⟨h.2.2.2.2.2.2.1, ⟨h.2.2.2.2.2.2.2.1, ⟨h.2.2.2.2.2.2.2.2.1, ⟨h.2.2.2.2.2.2.2.2.2.1, (ZaO (ZJT st t hK v9 (List.set h0 (0 + ((Int.toNat v9) * 1)) (List.getD t (0 + ((Int.toNat (List.getD st (0 + ((Int.toNat (ZaR .i64 (IntKind.i64.wrap (v9 + (IntKind.i64.wrap (4 * (ZaR .i64 v9 3))))) 15)) * 1)) 0)) * 1)) 0)) h0 (h.2.2.2.2.2.2.2.2.2.2 (List.set h0 (0 + ((Int.toNat v9) * 1)) (List.getD t (0 + ((Int.toNat (List.getD st (0 + ((Int.toNat (ZaR .i64 (IntKind.i64.wrap (v9 + (IntKind.i64.wrap (4 * (ZaR .i64 v9 3))))) 15)) * 1)) 0)) * 1)) 0)) rfl)))⟩⟩⟩⟩⟩⟩⟩⟩⟩⟩)
theorem ZGP (st t : List Int) (v9 : Int) (h0 : List Int) (Z : Env -> Heap -> Prop) (h : Z (ZNr v9) (Yg8 h0 t st)) : EvC Zgu Zqa (Yg9 v9) (Yg8 h0 t st) [0, 1, 4, 5, 9] [0, 1, 2] Z := EvC.of (by kernel_rfl) h
theorem ZJR (st t : List Int) (hK : Zb7 st t Kf) (v9 : Int) (h0 : List Int) (h : ZnC st t v9 h0) : SemL Try.prog w0 fp ρi 2 29 [Zqa, Zp9] (Yg9 v9) (Yg8 h0 t st) (ZwI w0 fp ρi Kf st t v9 h0) :=
  Zad ZfC (ZGP st t v9 h0 _ (ZJS st t hK v9 h0 h))
theorem ZJQ (st t : List Int) (hK : Zb7 st t Kf) (v9 : Int) (h0 : List Int) (h : ZnC st t v9 h0) : SemL Try.prog w0 fp ρi 2 29 [ZmB, Zgm] (Yg9 v9) (Yg8 h0 t st) (ZhI w0 fp ρi Kf st t v9 h0) :=
  Zat (Zah (ZJR st t hK v9 h0 h))
abbrev ZOx (x0 x1 : List Int) : Heap := ⟨3, [(0, some ⟨true, [.ints .u8 16 x0], 0⟩), (1, some ⟨false, [.ints .u8 256 x1], 0⟩)]⟩
theorem ZB4 (st t h0 : List Int) : RetC ZeH [] (ZOx h0 t) (.tuple []) := RetC.of (fun Z => by kernel_rfl)
def Zry (st t : List Int) (v9 : Int) (h0 : List Int) : Prop := ((decide (v9 < 16)) = true -> (ZnC st t v9 h0)) /\ ((decide (v9 < 16)) = false -> (h0 = (Za7 st)))
abbrev ZOw (x0 : Int) : Env := [(0, some (.ptr ⟨0, 0, 0, 1⟩ 16)), (1, some (.ptr ⟨1, 0, 0, 1⟩ 256)), (4, some (.ptr ⟨2, 0, 0, 1⟩ 16)), (9, some (.int .i64 x0)), (10, some (.bool (decide (x0 < 16))))]
theorem ZJP (st t : List Int) (hK : Zb7 st t Kf) (v9 : Int) (h0 : List Int) (h : Zry st t v9 h0) : SemL Try.prog w0 fp ρi 2 29 [Zqb, (.seq ZmB Zgm)] (ZOw v9) (Yg8 h0 t st) (ZhI w0 fp ρi Kf st t v9 h0) :=
  ZaJ (q := (decide (v9 < 16))) (by kernel_rfl) (fun hq => (ZaI (lpk [0, 1, 4, 9] [0, 1, 2] (Zah (ZJQ st t hK v9 h0 (h.1 hq)))))) (fun hq => (Zbb (lpk [] [0, 1] (Zyn (R := ZeH) (m := 2) (Kf := Kf) (fun _ _ h => h) (ZB4 st t h0) (Zb4 (Eq.mpr (cg1 (fun (z1 : List Int) => Zkj 2 Kf (.tuple []) (ZOx z1 t)) (h.2 hq)) (Zbm [] [0, 1] rfl (by kernel_rfl) rfl (Zhb Zkf) (hsc pcs (hsc pcs Zae)) rfl (by kernel_rfl) (hK))))))))
theorem ZGO (st t : List Int) (v9 : Int) (h0 : List Int) (Z : Env -> Heap -> Prop) (h : Z (ZOw v9) (Yg8 h0 t st)) : EvC Zgu Zqc (Yg9 v9) (Yg8 h0 t st) [0, 1, 4, 9, 10] [0, 1, 2] Z := EvC.of (by kernel_rfl) h
theorem ZJO (st t : List Int) (hK : Zb7 st t Kf) (v9 : Int) (h0 : List Int) (h : Zry st t v9 h0) : SemL Try.prog w0 fp ρi 2 29 [Zqc, (.seq Zqb (.seq ZmB Zgm))] (Yg9 v9) (Yg8 h0 t st) (ZhI w0 fp ρi Kf st t v9 h0) :=
  Zad ZfC (ZGO st t v9 h0 _ (Zah (ZJP st t hK v9 h0 h)))
def Zja (st t : List Int) : Prop := (0 <= (0 : Int) /\ (0 : Int) <= 16 /\ st.length = 16 /\ ∀ j : Nat, j < 16 -> (j : Int) < (0 : Int) -> st.getD j 0 = ZcR (st.getD ((j + 4 * (j % 4)) % 16) 0)) /\ (∀ (v9 : Int) (h0 : List Int), (0 <= v9 /\ v9 <= 16 /\ h0.length = 16 /\ ∀ j : Nat, j < 16 -> (j : Int) < v9 -> h0.getD j 0 = ZcR (st.getD ((j + 4 * (j % 4)) % 16) 0)) -> (Zry st t v9 h0))
abbrev ZNq : Env := [(0, some (.ptr ⟨0, 0, 0, 1⟩ 16)), (1, some (.ptr ⟨1, 0, 0, 1⟩ 256)), (4, some (.ptr ⟨2, 0, 0, 1⟩ 16)), (9, some (.int .i64 0))]
abbrev ZE3 (x0 x1 : List Int) : Heap := ⟨3, [(0, some ⟨true, [.ints .u8 16 x0], 0⟩), (1, some ⟨false, [.ints .u8 256 x1], 0⟩), (2, some ⟨true, [.ints .u8 16 x0], 0⟩)]⟩
theorem ZJN (st t : List Int) (hK : Zb7 st t Kf) (h : Zja st t) : SemL Try.prog w0 fp ρi 2 29 [ZxZ] ZNq (ZE3 st t) (ZwJ w0 fp ρi Kf st t) :=
  Zbd (Zxg st t) (Zvo st t) (Zwe st t) (ZvP st t) ⟨(0, st), tau [], h.1, (Zao [] [0, 1, 2] rfl rfl (esc bpt (esc bpt (esc bpt (esc pbd Zak)))) (hsc pcs (hsc pcs (hsc pcs Zae))) (by kernel_rfl) rfl)⟩ (fun s => match s with | (v9, h0) => fun hi => (Zah (ZJO st t hK v9 h0 (h.2 v9 h0 hi))))
theorem ZJM (st t : List Int) (hK : Zb7 st t Kf) (h : Zja st t) : SemL Try.prog w0 fp ρi 2 29 [ZmA] ZNq (ZE3 st t) (fnK ZeH 2 Kf) :=
  Zat (ZJN st t hK h)
abbrev ZNp : Env := [(0, some (.ptr ⟨0, 0, 0, 1⟩ 16)), (1, some (.ptr ⟨1, 0, 0, 1⟩ 256)), (4, some (.ptr ⟨2, 0, 0, 1⟩ 16))]
theorem ZGN (st t : List Int) (Z : Env -> Heap -> Prop) (h : Z ZNq (ZE3 st t)) : EvC Zgu ZmD ZNp (ZE3 st t) [0, 1, 4, 9] [0, 1, 2] Z := EvC.of (by kernel_rfl) h
theorem ZJL (st t : List Int) (hK : Zb7 st t Kf) (h : Zja st t) : SemL Try.prog w0 fp ρi 2 29 [ZmD, ZmA] ZNp (ZE3 st t) (fnK ZeH 2 Kf) :=
  Zad ZfC (ZGN st t _ (ZJM st t hK h))
abbrev ZNo : Env := [(0, some (.ptr ⟨0, 0, 0, 1⟩ 16)), (1, some (.ptr ⟨1, 0, 0, 1⟩ 256))]
abbrev ZNn (x0 x1 : List Int) : Heap := ⟨2, [(0, some ⟨true, [.ints .u8 16 x0], 0⟩), (1, some ⟨false, [.ints .u8 256 x1], 0⟩)]⟩
theorem ZGM (st t : List Int) (Z : Env -> Heap -> Prop) (h : Z ZNp (ZE3 st t)) : EvC Zgu Zqd ZNo (ZNn st t) [0, 1, 4] [0, 1, 2] Z := EvC.of (by kernel_rfl) h
theorem ZJK (st t : List Int) (hK : Zb7 st t Kf) (h : Zja st t) : SemL Try.prog w0 fp ρi 2 29 [Zqd, (.seq ZmD ZmA)] ZNo (ZNn st t) (fnK ZeH 2 Kf) :=
  Zad ZfC (ZGM st t _ (Zah (ZJL st t hK h)))
theorem ZAr (st t : List Int) (hK : Zb7 st t Kf) (h : Zja st t) : SemL Try.prog w0 fp ρi 2 29 [Zya] ZNo (ZNn st t) (fnK ZeH 2 Kf) :=
  (Zah (ZJK st t hK h))
end
theorem Zy7 (st t : List Int) (hpre : (Zaz st /\ t = sboxT)) : Zja st t := by
  unfold Zja Zry ZnC Zug
  obtain ⟨h1, rfl⟩ := hpre
  refine ⟨⟨by omega, by omega, h1.1, fun j hj hl => absurd hl (by omega)⟩, ?_⟩
  rintro v9 h0 ⟨i0, i1, i2, i3⟩
  refine ⟨fun hlt => ?_, fun hge => ?_⟩
  · have hlt := of_decide_eq_true hlt
    have w1 : IntKind.i64.wrap (v9 + 1) = v9 + 1 := by rw [ZdQ]; omega
    have hx := ZyV v9.toNat (by omega)
    rw [show ((v9.toNat : Nat) : Int) = v9 by omega] at hx
    rw [w1, hx, Nat.zero_add, Nat.mul_one, Nat.zero_add, Nat.mul_one, Nat.zero_add, Nat.mul_one, Int.toNat_natCast]
    have hm : (v9.toNat + 4 * (v9.toNat % 4)) % 16 < 16 := Nat.mod_lt _ (by omega)
    have hb := Zob h1.2 ((v9.toNat + 4 * (v9.toNat % 4)) % 16)
    refine ⟨by omega, by omega, hm, hb.1, hb.2, by omega, i0, by omega, by omega, by omega, ?_⟩
    rintro ab rfl
    refine ⟨⟨by omega, by omega, by rw [List.length_set, i2], fun j hj hl => ?_⟩, by omega⟩
    rw [Zca (by omega)]
    by_cases hjv : j = v9.toNat
    · rw [if_pos hjv, hjv]; rfl
    · rw [if_neg hjv]; exact i3 j hj (by omega)
  · have hge := of_decide_eq_false hge
    exact Zbs i2 fun j hj => i3 j hj (by omega)
theorem ZAI : Sound Try.prog 29 (gS Zq6) := by
  refine ZaC Zor ?_
  intro args H K h
  obtain ⟨pre, out, hD, hpre, hK⟩ := Zdv h
  unfold Zq6 at hD
  split at hD
  · obtain ⟨hb, hD⟩ := Zas hD
    simp only [Bool.and_eq_true] at hb
    obtain ⟨h0, h1⟩ := hb
    obtain rfl := Nat.eq_of_beq_eq_true h0
    obtain rfl := Nat.eq_of_beq_eq_true h1
    cases hD
    exact ⟨rfl, fun w0 fp ρi => ZAr _ _ hK (Zy7 _ _ hpre)⟩
  · cases hD
def Znq : Zgt := fun args => match args with
  | [.int .u8 c] => some ((0 <= c /\ c < 256), .int .i64 (ZfF c))
  | _ => none
def ZuX : PCon := ⟨50, Znq⟩
def Zpn : ACode := .reg (.op (some 2) (.mov (.cn (.int .i64 0))) .nil)
def ZlY : ACode := .reg (.op (some 3) (.mov (.cn (.int .i64 0))) .nil)
def Zpm : ACode := .reg (.op (some 4) (.mov (.tm 3)) (.op (some 5) (.bin .lss (.tm 4) (.cn (.int .i64 16))) .nil))
def Zpl : ACode := .cond (.tm 5) .skip (.exit 0)
def Zpk : ACode := .reg (.op (some 8) (.mov (.tm 3)) (.op (some 9) (.strIdx (.cn (.str ⟨#[48, 49, 50, 51, 52, 53, 54, 55, 56, 57, 97, 98, 99, 100, 101, 102]⟩)) (.tm 8)) (.op (some 10) (.mov (.tm 0)) (.op (some 11) (.bin .eql (.tm 9) (.tm 10)) .nil))))
def Zpj : ACode := .reg (.op (some 12) (.mov (.tm 3)) (.op (some 2) (.mov (.tm 12)) .nil))
def Zpi : ACode := .cond (.tm 11) (.seq Zpj .ret) .skip
def ZlX : ACode := .block 1 (.seq Zpk Zpi)
def Zge : ACode := .reg (.op (some 6) (.mov (.tm 3)) (.op (some 7) (.bin .add (.tm 6) (.cn (.int .i64 1))) (.op (some 3) (.mov (.tm 7)) .nil)))
def ZxO : ACode := .loop (.seq (.seq Zpm Zpl) (.seq ZlX Zge))
def ZiJ : ACode := .block 0 ZxO
def Zef : ACode := .reg (.op (some 2) (.mov (.cn (.int .i64 (-1)))) .nil)
def ZsI : ACode := (.seq Zpn (.seq (.seq ZlY ZiJ) (.seq Zef .ret)))
def ZbS : Res := .one (.tm 2)
theorem Znc : Zbj Try.prog 50 1 13 ZsI ZbS = true := by kernel_rfl
def ZdJ : Zav := Zcl [] []
theorem Zc6 : ZaK Try.prog ZdJ := ZaL trivial trivial
section
variable {w0 : World} {fp : Nat -> Nat -> Prop} {ρi : Rho} {Kf : SVal -> Heap -> Prop}
def Zws (w0 : World) (fp : Nat -> Nat -> Prop) (ρi : Rho) (Kf : SVal -> Heap -> Prop) (c : Int) : ZaY := Zax 0 (fun e H => SemL Try.prog w0 fp ρi 0 13 [(.seq Zef .ret)] e H (fnK ZbS 0 Kf)) (fnK ZbS 0 Kf)
def Zw2 (c : Int) : Int -> Prop := fun s => match s with | v3 => 0 <= v3 /\ v3 <= 16 /\ ZjR (16 - v3).toNat v3.toNat c = ZfF c
def Zva (c : Int) : Int -> Nat := fun s => match s with | v3 => ((16 - v3).toNat)
def Zv0 (c : Int) : Int -> Env := fun s => match s with | v3 => [(0, some (.int .u8 c)), (3, some (.int .i64 v3))]
def ZvB (c : Int) : Int -> Heap := fun s => match s with | v3 => ⟨0, []⟩
def Zht (w0 : World) (fp : Nat -> Nat -> Prop) (ρi : Rho) (Kf : SVal -> Heap -> Prop) (c v3 : Int) : ZaY := Zb2 0 (Zw2 c) (Zva c) (Zv0 c) (ZvB c) v3 (Zws w0 fp ρi Kf c)
def ZoV (w0 : World) (fp : Nat -> Nat -> Prop) (ρi : Rho) (Kf : SVal -> Heap -> Prop) (c v3 : Int) : ZaY := Zax 1 (fun e H => SemL Try.prog w0 fp ρi 0 13 [Zge] e H (Zht w0 fp ρi Kf c v3)) (Zht w0 fp ρi Kf c v3)
abbrev Zhc : Heap := ⟨0, []⟩
theorem ZFP (c v3 : Int) (Z : Env -> Heap -> Prop) (h : Z [(2, some (.int .i64 v3))] Zhc) : EvC ZdJ Zpj [(3, some (.int .i64 v3))] Zhc [2] [] Z := EvC.of (by kernel_rfl) h
theorem ZBT (c v3 : Int) : RetC ZbS [(2, some (.int .i64 v3))] Zhc (.int .i64 v3) := RetC.of (fun Z => by kernel_rfl)
def ZtO (c v3 : Int) : Prop := v3 = (ZfF c)
abbrev Ztu (x0 : SVal -> Heap -> Prop) (x1 : Int) : Prop := x0 (.int .i64 (ZfF x1)) ⟨0, []⟩
theorem ZIm (c : Int) (hK : (Ztu Kf c)) (v3 : Int) (h : ZtO c v3) : SemL Try.prog w0 fp ρi 0 13 [Zpj, .ret] [(3, some (.int .i64 v3))] Zhc (ZoV w0 fp ρi Kf c v3) :=
  Zad Zc6 (ZFP c v3 _ (Zbv (R := ZbS) (m := 0) (Kf := Kf) (fun _ _ h => h) (ZBT c v3) (Zbg rfl (by kernel_rfl) (cg1 (fun (z1 : Int) => (.int .i64 z1 : SVal)) h) hK)))
abbrev ZEJ (x0 x1 : Int) : Env := [(0, some (.int .u8 x0)), (3, some (.int .i64 x1))]
theorem ZFO (c v3 : Int) (Z : Env -> Heap -> Prop) (h : Z [(0, some (.int .u8 c)), (3, some (.int .i64 (IntKind.i64.wrap (v3 + 1))))] Zhc) : EvC ZdJ Zge (ZEJ c v3) Zhc [0, 3] [] Z := EvC.of (by kernel_rfl) h
def ZtN (c v3 : Int) : Prop := (0 <= (IntKind.i64.wrap (v3 + 1)) /\ (IntKind.i64.wrap (v3 + 1)) <= 16 /\ ZjR (16 - (IntKind.i64.wrap (v3 + 1))).toNat (IntKind.i64.wrap (v3 + 1)).toNat c = ZfF c) /\ (((16 - (IntKind.i64.wrap (v3 + 1))).toNat) < ((16 - v3).toNat))
theorem ZIl (c : Int) (hK : (Ztu Kf c)) (v3 : Int) (h : ZtN c v3) : SemL Try.prog w0 fp ρi 0 13 [Zge] (ZEJ c v3) Zhc (Zht w0 fp ρi Kf c v3) :=
  Zad Zc6 (ZFO c v3 _ (ZaO (Zay (x' := (IntKind.i64.wrap (v3 + 1))) (τ := tau []) h.1 h.2 (Zao [] [] rfl rfl (esc pbd (esc pbd Zak)) Zae (by kernel_rfl) rfl))))
def ZtM (c v3 : Int) : Prop := ((((((ByteArray.data ⟨#[48, 49, 50, 51, 52, 53, 54, 55, 56, 57, 97, 98, 99, 100, 101, 102]⟩).toList.getD (Int.toNat v3) 0).toNat : Nat) : Int) == c) = true -> (ZtO c v3)) /\ ((((((ByteArray.data ⟨#[48, 49, 50, 51, 52, 53, 54, 55, 56, 57, 97, 98, 99, 100, 101, 102]⟩).toList.getD (Int.toNat v3) 0).toNat : Nat) : Int) == c) = false -> (ZtN c v3))
abbrev ZOv (x0 x1 : Int) : Env := [(0, some (.int .u8 x0)), (3, some (.int .i64 x1)), (11, some (.bool (((((ByteArray.data ⟨#[48, 49, 50, 51, 52, 53, 54, 55, 56, 57, 97, 98, 99, 100, 101, 102]⟩).toList.getD (Int.toNat x1) 0).toNat : Nat) : Int) == x0)))]
theorem ZIk (c : Int) (hK : (Ztu Kf c)) (v3 : Int) (h : ZtM c v3) : SemL Try.prog w0 fp ρi 0 13 [Zpi] (ZOv c v3) Zhc (ZoV w0 fp ρi Kf c v3) :=
  ZaJ (q := (((((ByteArray.data ⟨#[48, 49, 50, 51, 52, 53, 54, 55, 56, 57, 97, 98, 99, 100, 101, 102]⟩).toList.getD (Int.toNat v3) 0).toNat : Nat) : Int) == c)) (by kernel_rfl) (fun hq => (Zah (lpk [3] [] (ZIm c hK v3 (h.1 hq))))) (fun hq => (ZaI (ZaO (P := Try.prog) (w0 := w0) (fp := fp) (ρi := ρi) (n0 := 0) (nt := 13) (lpk [0, 3] [] (ZIl c hK v3 (h.2 hq))))))
theorem ZFN (c v3 : Int) (Z : Env -> Heap -> Prop) (h : ((0 <= v3)) /\ ((v3 < ((ByteArray.size ⟨#[48, 49, 50, 51, 52, 53, 54, 55, 56, 57, 97, 98, 99, 100, 101, 102]⟩ : Nat) : Int))) /\ Z (ZOv c v3) Zhc) : EvC ZdJ Zpk (ZEJ c v3) Zhc [0, 3, 11] [] Z := EvC.of (by kernel_rfl) h
def Zrc (c v3 : Int) : Prop := ((0 <= v3)) /\ (((v3 < ((ByteArray.size ⟨#[48, 49, 50, 51, 52, 53, 54, 55, 56, 57, 97, 98, 99, 100, 101, 102]⟩ : Nat) : Int))) /\ (ZtM c v3))
theorem ZIj (c : Int) (hK : (Ztu Kf c)) (v3 : Int) (h : Zrc c v3) : SemL Try.prog w0 fp ρi 0 13 [Zpk, Zpi] (ZEJ c v3) Zhc (ZoV w0 fp ρi Kf c v3) :=
  Zad Zc6 (ZFN c v3 _ ⟨h.1, ⟨h.2.1, (ZIk c hK v3 h.2.2)⟩⟩)
theorem ZIi (c : Int) (hK : (Ztu Kf c)) (v3 : Int) (h : Zrc c v3) : SemL Try.prog w0 fp ρi 0 13 [ZlX, Zge] (ZEJ c v3) Zhc (Zht w0 fp ρi Kf c v3) :=
  Zat (Zah (ZIj c hK v3 h))
theorem ZFM (c : Int) (Z : Env -> Heap -> Prop) (h : Z [(2, some (.int .i64 (-1)))] Zhc) : EvC ZdJ Zef [] Zhc [2] [] Z := EvC.of (by kernel_rfl) h
theorem ZBS (c : Int) : RetC ZbS [(2, some (.int .i64 (-1)))] Zhc (.int .i64 (-1)) := RetC.of (fun Z => by kernel_rfl)
def ZtL (c : Int) : Prop := (-1) = (ZfF c)
theorem ZIh (c : Int) (hK : (Ztu Kf c)) (h : ZtL c) : SemL Try.prog w0 fp ρi 0 13 [Zef, .ret] [] Zhc (fnK ZbS 0 Kf) :=
  Zad Zc6 (ZFM c _ (Zbv (R := ZbS) (m := 0) (Kf := Kf) (fun _ _ h => h) (ZBS c) (Zbg rfl (by kernel_rfl) (cg1 (fun (z1 : Int) => (.int .i64 z1 : SVal)) h) hK)))
def Zrb (c v3 : Int) : Prop := ((decide (v3 < 16)) = true -> (Zrc c v3)) /\ ((decide (v3 < 16)) = false -> (ZtL c))
abbrev ZOu (x0 x1 : Int) : Env := [(0, some (.int .u8 x0)), (3, some (.int .i64 x1)), (5, some (.bool (decide (x1 < 16))))]
theorem ZIg (c : Int) (hK : (Ztu Kf c)) (v3 : Int) (h : Zrb c v3) : SemL Try.prog w0 fp ρi 0 13 [Zpl, (.seq ZlX Zge)] (ZOu c v3) Zhc (Zht w0 fp ρi Kf c v3) :=
  ZaJ (q := (decide (v3 < 16))) (by kernel_rfl) (fun hq => (ZaI (lpk [0, 3] [] (Zah (ZIi c hK v3 (h.1 hq)))))) (fun hq => (Zbb (lpk [] [] (Zah (ZIh c hK (h.2 hq))))))
theorem ZFL (c v3 : Int) (Z : Env -> Heap -> Prop) (h : Z (ZOu c v3) Zhc) : EvC ZdJ Zpm (ZEJ c v3) Zhc [0, 3, 5] [] Z := EvC.of (by kernel_rfl) h
theorem ZIf (c : Int) (hK : (Ztu Kf c)) (v3 : Int) (h : Zrb c v3) : SemL Try.prog w0 fp ρi 0 13 [Zpm, Zpl, (.seq ZlX Zge)] (ZEJ c v3) Zhc (Zht w0 fp ρi Kf c v3) :=
  Zad Zc6 (ZFL c v3 _ (ZIg c hK v3 h))
def Zi6 (c : Int) : Prop := (0 <= (0 : Int) /\ (0 : Int) <= 16 /\ ZjR (16 - (0 : Int)).toNat (0 : Int).toNat c = ZfF c) /\ (∀ (v3 : Int), (0 <= v3 /\ v3 <= 16 /\ ZjR (16 - v3).toNat v3.toNat c = ZfF c) -> (Zrb c v3))
abbrev ZNm (x0 : Int) : Env := [(0, some (.int .u8 x0)), (3, some (.int .i64 0))]
theorem ZIe (c : Int) (hK : (Ztu Kf c)) (h : Zi6 c) : SemL Try.prog w0 fp ρi 0 13 [ZxO] (ZNm c) Zhc (Zws w0 fp ρi Kf c) :=
  Zbd (Zw2 c) (Zva c) (Zv0 c) (ZvB c) ⟨0, tau [], h.1, (Zao [] [] rfl rfl (esc pbd (esc pbd Zak)) Zae (by kernel_rfl) rfl)⟩ (fun s => match s with | v3 => fun hi => (Zah (Zah (ZIf c hK v3 (h.2 v3 hi)))))
theorem ZId (c : Int) (hK : (Ztu Kf c)) (h : Zi6 c) : SemL Try.prog w0 fp ρi 0 13 [ZiJ, (.seq Zef .ret)] (ZNm c) Zhc (fnK ZbS 0 Kf) :=
  Zat (ZIe c hK h)
abbrev ZE2 (x0 : Int) : Env := [(0, some (.int .u8 x0))]
theorem ZAL (c : Int) (Z : Env -> Heap -> Prop) (h : Z (ZNm c) Zhc) : EvC ZdJ ZlY (ZE2 c) Zhc [0, 3] [] Z := EvC.of (by kernel_rfl) h
theorem ZCn (c : Int) (hK : (Ztu Kf c)) (h : Zi6 c) : SemL Try.prog w0 fp ρi 0 13 [ZlY, ZiJ, (.seq Zef .ret)] (ZE2 c) Zhc (fnK ZbS 0 Kf) :=
  Zad Zc6 (ZAL c _ (ZId c hK h))
theorem ZAK (c : Int) (Z : Env -> Heap -> Prop) (h : Z (ZE2 c) Zhc) : EvC ZdJ Zpn (ZE2 c) Zhc [0] [] Z := EvC.of (by kernel_rfl) h
theorem ZCm (c : Int) (hK : (Ztu Kf c)) (h : Zi6 c) : SemL Try.prog w0 fp ρi 0 13 [Zpn, (.seq (.seq ZlY ZiJ) (.seq Zef .ret))] (ZE2 c) Zhc (fnK ZbS 0 Kf) :=
  Zad Zc6 (ZAK c _ (Zah (Zah (ZCn c hK h))))
theorem ZyC (c : Int) (hK : (Ztu Kf c)) (h : Zi6 c) : SemL Try.prog w0 fp ρi 0 13 [ZsI] (ZE2 c) Zhc (fnK ZbS 0 Kf) :=
  (Zah (ZCm c hK h))
end
theorem Zu5 (c : Int) (hpre : (0 <= c /\ c < 256)) : Zi6 c := by
  unfold Zi6 Zrb ZtL Zrc ZtM ZtN ZtO
  refine ⟨⟨by omega, by omega, rfl⟩, ?_⟩
  rintro v3 ⟨i0, i1, i2⟩
  refine ⟨fun hlt => ?_, fun hge => ?_⟩
  · have hlt := of_decide_eq_true hlt
    have w1 : IntKind.i64.wrap (v3 + 1) = v3 + 1 := by rw [ZdQ]; omega
    rw [show (16 - v3).toNat = (16 - (v3 + 1)).toNat + 1 by omega, ZjR] at i2
    rw [w1]
    refine ⟨i0, hlt, fun h => ?_, fun h => ?_⟩
    · have h : (ZMV v3.toNat == c) = true := h
      rw [if_pos h] at i2
      omega
    · have h : (ZMV v3.toNat == c) = false := h
      rw [if_neg (by rw [h]; decide)] at i2
      exact ⟨⟨by omega, by omega, by rw [show (v3 + 1).toNat = v3.toNat + 1 by omega]; exact i2⟩, by omega⟩
  · have hge := of_decide_eq_false hge
    rw [show (16 - v3).toNat = 0 by omega] at i2
    exact i2
theorem ZyS : Sound Try.prog 50 (ZeL Znq) := by
  refine ZaC Znc ?_
  intro args H K h
  obtain ⟨pre, v, hP, hpre, rfl, hK⟩ := ZbD h
  unfold Znq at hP
  split at hP
  · cases hP
    exact ⟨rfl, fun w0 fp ρi => ZyC _ hK (Zu5 _ hpre)⟩
  · cases hP
def Znx : ZfW := fun args H => match args, H with
  | [.ptr ⟨0, 0, 0, 1⟩ 432], ⟨1, [(0, some ⟨false, [.ints .u8 t_n t, .ints .u8 k_n k], 0⟩)]⟩ => bif Nat.beq t_n 256 && Nat.beq k_n 176 then some (True, fun K => K (.agg [.ints .u8 176 k]) ⟨1, [(0, some ⟨false, [.ints .u8 256 t, .ints .u8 176 k], 0⟩)]⟩) else none
  | _, _ => none
def Ztj : Con := ⟨10, gS Znx, [], [], []⟩
def ZjI (t k : List Int) (Kf : SVal -> Heap -> Prop) : Prop := Kf (.agg [.ints .u8 176 k]) ⟨1, [(0, some ⟨false, [.ints .u8 256 t, .ints .u8 176 k], 0⟩)]⟩
def ZqT : ACode := .reg (.op (some 2) (.alloc [.ints .u8 176 (List.replicate 176 0)]) .nil)
def Zm7 : ACode := .reg (.op (some 3) (.mov (.tm 0)) (.op (some 4) (.nilCheck (.tm 3)) (.op (some 5) (.fieldAddr (.tm 4) 256 176) (.op (some 6) (.loadA 176 (.tm 5)) (.op none (.storeA 176 (.tm 2) (.tm 6)) .nil)))))
def ZsK : ACode := (.seq ZqT (.seq Zm7 .ret))
def ZfN : Res := .one (.cA 2 176)
theorem Zng : Zbj Try.prog 10 1 7 ZsK ZfN = true := by kernel_rfl
def Znt : Zav := Zcl [] []
theorem Zoa : ZaK Try.prog Znt := ZaL trivial trivial
section
variable {w0 : World} {fp : Nat -> Nat -> Prop} {ρi : Rho} {Kf : SVal -> Heap -> Prop}
abbrev ZOt (x0 x1 : List Int) : Heap := ⟨2, [(0, some ⟨false, [.ints .u8 256 x0, .ints .u8 176 x1], 0⟩), (1, some ⟨true, [.ints .u8 176 x1], 0⟩)]⟩
abbrev ZNl : Env := [(0, some (.ptr ⟨0, 0, 0, 1⟩ 432)), (2, some (.ptr ⟨1, 0, 0, 1⟩ 176))]
abbrev ZNk (x0 x1 : List Int) : Heap := ⟨2, [(0, some ⟨false, [.ints .u8 256 x0, .ints .u8 176 x1], 0⟩), (1, some ⟨true, [.ints .u8 176 (List.replicate 176 0)], 0⟩)]⟩
theorem ZHP (t k : List Int) (Z : Env -> Heap -> Prop) (h : Z [(2, some (.ptr ⟨1, 0, 0, 1⟩ 176))] (ZOt t k)) : EvC Znt Zm7 ZNl (ZNk t k) [2] [0, 1] Z := EvC.of (by kernel_rfl) h
theorem ZCe (t k : List Int) : RetC ZfN [(2, some (.ptr ⟨1, 0, 0, 1⟩ 176))] (ZOt t k) (.agg [.ints .u8 176 k]) := RetC.of (fun Z => by kernel_rfl)
def ZnK (t k : List Int) : Prop := True
theorem ZLe (t k : List Int) (hK : ZjI t k Kf) (h : ZnK t k) : SemL Try.prog w0 fp ρi 1 7 [Zm7, .ret] ZNl (ZNk t k) (fnK ZfN 1 Kf) :=
  Zad Zoa (ZHP t k _ (Zbv (R := ZfN) (m := 1) (Kf := Kf) (fun _ _ h => h) (ZCe t k) (Zb4 (Zbm [] [0] rfl (by kernel_rfl) rfl pbd (hsc pcs Zae) rfl (by kernel_rfl) (hK)))))
abbrev ZNj : Env := [(0, some (.ptr ⟨0, 0, 0, 1⟩ 432))]
abbrev ZNi (x0 x1 : List Int) : Heap := ⟨1, [(0, some ⟨false, [.ints .u8 256 x0, .ints .u8 176 x1], 0⟩)]⟩
theorem ZHO (t k : List Int) (Z : Env -> Heap -> Prop) (h : Z ZNl (ZNk t k)) : EvC Znt ZqT ZNj (ZNi t k) [0, 2] [0, 1] Z := EvC.of (by kernel_rfl) h
theorem ZLd (t k : List Int) (hK : ZjI t k Kf) (h : ZnK t k) : SemL Try.prog w0 fp ρi 1 7 [ZqT, (.seq Zm7 .ret)] ZNj (ZNi t k) (fnK ZfN 1 Kf) :=
  Zad Zoa (ZHO t k _ (Zah (ZLe t k hK h)))
theorem ZyF (t k : List Int) (hK : ZjI t k Kf) (h : ZnK t k) : SemL Try.prog w0 fp ρi 1 7 [ZsK] ZNj (ZNi t k) (fnK ZfN 1 Kf) :=
  (Zah (ZLd t k hK h))
end
theorem Zu7 (t k : List Int) (hpre : True) : ZnK t k := by
  unfold ZnK
  trivial
theorem ZyX : Sound Try.prog 10 (gS Znx) := by
  refine ZaC Zng ?_
  intro args H K h
  obtain ⟨pre, out, hD, hpre, hK⟩ := Zdv h
  unfold Znx at hD
  split at hD
  · obtain ⟨hb, hD⟩ := Zas hD
    simp only [Bool.and_eq_true] at hb
    obtain ⟨h0, h1⟩ := hb
    obtain rfl := Nat.eq_of_beq_eq_true h0
    obtain rfl := Nat.eq_of_beq_eq_true h1
    cases hD
    exact ⟨rfl, fun w0 fp ρi => ZyF _ _ hK (Zu7 _ _ hpre)⟩
  · cases hD
end Go.Proofs.Ytfffjdfegnmejaa
