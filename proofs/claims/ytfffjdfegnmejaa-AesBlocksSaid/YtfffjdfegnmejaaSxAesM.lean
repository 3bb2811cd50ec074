/- Part of the proof: SxAesM. -/
import Derived.Test.YtfffjdfegnmejaaSxAesW
import Derived.KernelRfl
set_option linter.unusedVariables false
set_option linter.unusedSimpArgs false
set_option maxRecDepth 20000
namespace Go.Proofs.Ytfffjdfegnmejaa
open Go.Sx
def ZET : ZfW := fun args H => match args, H with
  | [.ptr ⟨0, 0, 0, 1⟩ 16], ⟨1, [(0, some ⟨true, [.ints .u8 st_n st], 0⟩)]⟩ => bif Nat.beq st_n 16 then some ((Zaz st), fun K => K (.tuple []) ⟨1, [(0, some ⟨true, [.ints .u8 16 (Zf5 st)], 0⟩)]⟩) else none
  | _, _ => none
def ZEG : Con := ⟨30, gS ZET, [0], [], []⟩
def Zp8 : ACode := .reg (.op (some 8) (.mov (.cn (.int .i64 0))) .nil)
def Zp7 : ACode := .reg (.op (some 9) (.bin .lss (.tm 8) (.cn (.int .i64 4))) .nil)
def Zp6 : ACode := .cond (.tm 9) .skip (.exit 0)
def Zp5 : ACode := .reg (.op (some 10) (.mov (.tm 8)) (.op (some 2) (.mov (.tm 10)) .nil))
def Zmw : ACode := .reg (.op (some 11) (.mov (.tm 0)) (.op (some 12) (.nilCheck (.tm 11)) (.op (some 13) (.mov (.tm 2)) (.op (some 14) (.bin .mul (.cn (.int .i64 4)) (.tm 13)) (.op (some 15) (.mov (.tm 2)) (.op (some 16) (.bin .mul (.cn (.int .i64 4)) (.tm 15)) (.op (some 17) (.bin .add (.tm 16) (.cn (.int .i64 4))) (.op (some 18) (.sliceP 16 (.tm 12) (some (.tm 14)) (some (.tm 17)) none) (.op (some 3) (.mov (.tm 18)) .nil)))))))))
def Zmu : Items := .op (some 19) (.mov (.tm 3)) (.op (some 20) (.idxS (.tm 19) (.cn (.int .i64 0)) 1) (.op (some 21) (.load1 (.tm 20)) (.op (some 22) (.mov (.tm 3)) (.op (some 23) (.idxS (.tm 22) (.cn (.int .i64 1)) 1) (.op (some 24) (.load1 (.tm 23)) (.op (some 25) (.bin .xor (.tm 21) (.tm 24)) (.op (some 26) (.mov (.tm 3)) (.op (some 27) (.idxS (.tm 26) (.cn (.int .i64 2)) 1) (.op (some 28) (.load1 (.tm 27)) (.op (some 29) (.bin .xor (.tm 25) (.tm 28)) (.op (some 30) (.mov (.tm 3)) (.op (some 31) (.idxS (.tm 30) (.cn (.int .i64 3)) 1) (.op (some 32) (.load1 (.tm 31)) (.op (some 33) (.bin .xor (.tm 29) (.tm 32)) (.op (some 4) (.mov (.tm 33)) .nil)))))))))))))))
def Zmv : ACode := .regQ Zmu
def ZhY : ACode := .reg (.op (some 34) (.mov (.tm 3)) (.op (some 35) (.idxS (.tm 34) (.cn (.int .i64 0)) 1) (.op (some 36) (.load1 (.tm 35)) (.op (some 5) (.mov (.tm 36)) .nil))))
def Zgl : ACode := .reg (.op (some 37) (.mov (.tm 3)) (.op (some 38) (.len (.tm 37)) (.op (some 39) (.mov (.cn (.int .i64 0))) .nil)))
def Zp4 : ACode := .reg (.op (some 40) (.bin .lss (.tm 39) (.tm 38)) .nil)
def Zp3 : ACode := .cond (.tm 40) .skip (.exit 2)
def Zmz : ACode := .reg (.op (some 41) (.mov (.tm 39)) (.op (some 6) (.mov (.tm 41)) .nil))
def ZiS : ACode := .reg (.op (some 42) (.mov (.tm 5)) (.op (some 7) (.mov (.tm 42)) .nil))
def Zg6 : ACode := .reg (.op (some 43) (.mov (.tm 6)) (.op (some 44) (.bin .lss (.tm 43) (.cn (.int .i64 3))) .nil))
def Zmy : ACode := .reg (.op (some 45) (.mov (.tm 3)) (.op (some 46) (.mov (.tm 6)) (.op (some 47) (.bin .add (.tm 46) (.cn (.int .i64 1))) (.op (some 48) (.idxS (.tm 45) (.tm 47) 1) (.op (some 49) (.load1 (.tm 48)) (.op (some 7) (.mov (.tm 49)) .nil))))))
def Zg5 : ACode := .cond (.tm 44) Zmy .skip
def Zj3 : List MStep := [.mk 0 0 (some 50) (.mov (.tm 3)), .mk 1 0 (some 51) (.mov (.tm 6)), .mk 2 0 (some 52) (.idxS (.tm 50) (.tm 51) 1), .mk 3 0 (some 53) (.load1 (.tm 52)), .mk 4 0 (some 54) (.mov (.tm 4)), .mk 5 0 (some 55) (.mov (.tm 3)), .mk 6 0 (some 56) (.mov (.tm 6)), .mk 7 0 (some 57) (.idxS (.tm 55) (.tm 56) 1), .mk 8 0 (some 58) (.load1 (.tm 57)), .mk 9 0 (some 59) (.mov (.tm 7)), .mk 10 0 (some 60) (.bin .xor (.tm 58) (.tm 59)), .mk 11 1 (some 61) (.call 27 [(.tm 60)]), .mk 12 0 (some 62) (.bin .xor (.tm 54) (.tm 61)), .mk 13 0 (some 63) (.bin .xor (.tm 53) (.tm 62)), .mk 14 0 (some 64) (.idxS (.tm 50) (.tm 51) 1), .mk 15 2 none (.store1 (.tm 64) (.tm 63))]
def Zer : ACode := .regM Zj3
def ZiR : ACode := .block 3 (.seq Zmz (.seq ZiS (.seq (.seq Zg6 Zg5) Zer)))
def Zeq : ACode := .reg (.op (some 65) (.bin .add (.tm 39) (.cn (.int .i64 1))) (.op (some 39) (.mov (.tm 65)) .nil))
def Zsw : ACode := .loop (.seq Zp4 (.seq Zp3 (.seq ZiR Zeq)))
def Zep : ACode := .block 2 Zsw
def ZiQ : ACode := .block 1 (.seq Zp5 (.seq Zmw (.seq Zmv (.seq ZhY (.seq Zgl Zep)))))
def Zeo : ACode := .reg (.op (some 66) (.bin .add (.tm 8) (.cn (.int .i64 1))) (.op (some 8) (.mov (.tm 66)) .nil))
def Zsv : ACode := .loop (.seq Zp7 (.seq Zp6 (.seq ZiQ Zeo)))
def Zmx : ACode := .block 0 Zsv
def ZLC : ACode := (.seq Zp8 Zmx)
def Zoz : Res := .many []
theorem Ztn : Zbj Try.prog 30 1 67 ZLC Zoz = true := by kernel_rfl
def ZfV : Zav := Zcl [Zjs] []
theorem Zc8 : ZaK Try.prog ZfV := ZaL ⟨Zlq, trivial⟩ trivial
section
variable {w0 : World} {fp : Nat -> Nat -> Prop} {ρi : Rho} {Kf : SVal -> Heap -> Prop}
def ZwH (w0 : World) (fp : Nat -> Nat -> Prop) (ρi : Rho) (Kf : SVal -> Heap -> Prop) (st : List Int) : ZaY := Zax 0 (fun e H => SemL Try.prog w0 fp ρi 1 67 [] e H (fnK Zoz 1 Kf)) (fnK Zoz 1 Kf)
def Zxf (st : List Int) : Int × List Int -> Prop := fun s => match s with | (v8, h0) => 0 <= v8 /\ v8 <= 4 /\ h0.length = 16 /\ ∀ j : Nat, j < 16 -> h0.getD j 0 = if (j : Int) < 4 * v8 then Ztv st j else st.getD j 0
def Zvn (st : List Int) : Int × List Int -> Nat := fun s => match s with | (v8, h0) => ((4 - v8).toNat)
def Zwd (st : List Int) : Int × List Int -> Env := fun s => match s with | (v8, h0) => [(0, some (.ptr ⟨0, 0, 0, 1⟩ 16)), (8, some (.int .i64 v8))]
def ZvO (st : List Int) : Int × List Int -> Heap := fun s => match s with | (v8, h0) => ⟨1, [(0, some ⟨true, [.ints .u8 16 h0], 0⟩)]⟩
def ZhH (w0 : World) (fp : Nat -> Nat -> Prop) (ρi : Rho) (Kf : SVal -> Heap -> Prop) (st : List Int) (v8 : Int) (h0 : List Int) : ZaY := Zb2 1 (Zxf st) (Zvn st) (Zwd st) (ZvO st) (v8, h0) (ZwH w0 fp ρi Kf st)
def Ze5 (w0 : World) (fp : Nat -> Nat -> Prop) (ρi : Rho) (Kf : SVal -> Heap -> Prop) (st : List Int) (v8 : Int) (h0 : List Int) : ZaY := Zax 1 (fun e H => SemL Try.prog w0 fp ρi 1 67 [Zeo] e H (ZhH w0 fp ρi Kf st v8 h0)) (ZhH w0 fp ρi Kf st v8 h0)
def ZwG (w0 : World) (fp : Nat -> Nat -> Prop) (ρi : Rho) (Kf : SVal -> Heap -> Prop) (st : List Int) (v8 : Int) (h0 : List Int) : ZaY := Zax 2 (fun e H => SemL Try.prog w0 fp ρi 1 67 [] e H (Ze5 w0 fp ρi Kf st v8 h0)) (Ze5 w0 fp ρi Kf st v8 h0)
def Zxe (st : List Int) (ab ad ae : Nat) (v4 v5 v8 af : Int) (h0 : List Int) : Int × List Int -> Prop := fun s => match s with | (ac, aa) => 0 <= ac /\ ac <= 4 /\ aa.length = 16 /\ ∀ j : Nat, j < 16 -> aa.getD j 0 = if (j : Int) < 4 * v8 + ac then Ztv st j else st.getD j 0
def Zvm (st : List Int) (ab ad ae : Nat) (v4 v5 v8 af : Int) (h0 : List Int) : Int × List Int -> Nat := fun s => match s with | (ac, aa) => ((4 - ac).toNat)
def Zwc (st : List Int) (ab ad ae : Nat) (v4 v5 v8 af : Int) (h0 : List Int) : Int × List Int -> Env := fun s => match s with | (ac, aa) => [(0, some (.ptr ⟨0, 0, 0, 1⟩ 16)), (3, some (.slice ⟨0, 0, ab, 1⟩ ad ae)), (4, some (.int .u8 v4)), (5, some (.int .u8 v5)), (8, some (.int .i64 v8)), (38, some (.int .i64 af)), (39, some (.int .i64 ac))]
def ZvN (st : List Int) (ab ad ae : Nat) (v4 v5 v8 af : Int) (h0 : List Int) : Int × List Int -> Heap := fun s => match s with | (ac, aa) => ⟨1, [(0, some ⟨true, [.ints .u8 16 aa], 0⟩)]⟩
def ZhG (w0 : World) (fp : Nat -> Nat -> Prop) (ρi : Rho) (Kf : SVal -> Heap -> Prop) (st : List Int) (ab ad ae : Nat) (v4 v5 v8 af : Int) (h0 : List Int) (ac : Int) (aa : List Int) : ZaY := Zb2 1 (Zxe st ab ad ae v4 v5 v8 af h0) (Zvm st ab ad ae v4 v5 v8 af h0) (Zwc st ab ad ae v4 v5 v8 af h0) (ZvN st ab ad ae v4 v5 v8 af h0) (ac, aa) (ZwG w0 fp ρi Kf st v8 h0)
abbrev Yi0 (x0 : List Int) : Heap := ⟨1, [(0, some ⟨true, [.ints .u8 16 x0], 0⟩)]⟩
abbrev Yi1 (x0 x1 x2 : Nat) (x3 x4 x5 x6 x7 : Int) : Env := [(0, some (.ptr ⟨0, 0, 0, 1⟩ 16)), (3, some (.slice ⟨0, 0, x0, 1⟩ x1 x2)), (4, some (.int .u8 x3)), (5, some (.int .u8 x4)), (8, some (.int .i64 x5)), (38, some (.int .i64 x6)), (39, some (.int .i64 x7))]
theorem ZGL (st : List Int) (ab ad ae : Nat) (v4 v5 v8 af ac : Int) (ag h0 aa : List Int) (Z : Env -> Heap -> Prop) (h : Z [(0, some (.ptr ⟨0, 0, 0, 1⟩ 16)), (3, some (.slice ⟨0, 0, ab, 1⟩ ad ae)), (4, some (.int .u8 v4)), (5, some (.int .u8 v5)), (8, some (.int .i64 v8)), (38, some (.int .i64 af)), (39, some (.int .i64 (IntKind.i64.wrap (ac + 1))))] (Yi0 ag)) : EvC ZfV Zeq (Yi1 ab ad ae v4 v5 v8 af ac) (Yi0 ag) [0, 3, 4, 5, 8, 38, 39] [0] Z := EvC.of (by kernel_rfl) h
def Zuf (st : List Int) (ab ad ae : Nat) (v4 v5 v8 af ac : Int) (ag h0 aa : List Int) : Prop := (0 <= (IntKind.i64.wrap (ac + 1)) /\ (IntKind.i64.wrap (ac + 1)) <= 4 /\ ag.length = 16 /\ ∀ j : Nat, j < 16 -> ag.getD j 0 = if (j : Int) < 4 * v8 + (IntKind.i64.wrap (ac + 1)) then Ztv st j else st.getD j 0) /\ (((4 - (IntKind.i64.wrap (ac + 1))).toNat) < ((4 - ac).toNat))
abbrev Yi2 (x0 : List Int) : Heap := ⟨1, [(0, some ⟨true, [.ints .u8 16 (Zf5 x0)], 0⟩)]⟩
abbrev Yi3 (x0 : SVal -> Heap -> Prop) (x1 : List Int) : Prop := x0 (.tuple []) ⟨1, [(0, some ⟨true, [.ints .u8 16 (Zf5 x1)], 0⟩)]⟩
theorem ZJJ (st : List Int) (hK : (Yi3 Kf st)) (ab ad ae : Nat) (v4 v5 v8 af ac : Int) (ag h0 aa : List Int) (h : Zuf st ab ad ae v4 v5 v8 af ac ag h0 aa) : SemL Try.prog w0 fp ρi 1 67 [Zeq] (Yi1 ab ad ae v4 v5 v8 af ac) (Yi0 ag) (ZhG w0 fp ρi Kf st ab ad ae v4 v5 v8 af h0 ac aa) :=
  Zad Zc8 (ZGL st ab ad ae v4 v5 v8 af ac ag h0 aa _ (ZaO (Zay (x' := ((IntKind.i64.wrap (ac + 1)), ag)) (τ := tau []) h.1 h.2 (Zao [] [0] rfl rfl (esc bpt (esc bsl (esc pbd (esc pbd (esc pbd (esc pbd (esc pbd Zak))))))) (hsc pcs Zae) (by kernel_rfl) rfl))))
def ZhF (w0 : World) (fp : Nat -> Nat -> Prop) (ρi : Rho) (Kf : SVal -> Heap -> Prop) (st : List Int) (v8 : Int) (h0 : List Int) (ab ad ae : Nat) (v4 v5 af ac : Int) (aa : List Int) : ZaY := Zax 3 (fun e H => SemL Try.prog w0 fp ρi 1 67 [Zeq] e H (ZhG w0 fp ρi Kf st ab ad ae v4 v5 v8 af h0 ac aa)) (ZhG w0 fp ρi Kf st ab ad ae v4 v5 v8 af h0 ac aa)
abbrev Yi4 (x0 x1 x2 : Nat) (x3 x4 x5 x6 x7 x8 : Int) : Env := [(0, some (.ptr ⟨0, 0, 0, 1⟩ 16)), (3, some (.slice ⟨0, 0, x0, 1⟩ x1 x2)), (4, some (.int .u8 x3)), (5, some (.int .u8 x4)), (6, some (.int .i64 x5)), (7, some (.int .u8 x6)), (8, some (.int .i64 x7)), (38, some (.int .i64 x8)), (39, some (.int .i64 x5))]
theorem ZGK (st : List Int) (ab ad ae : Nat) (v4 v5 ac v7 v8 af : Int) (aa h0 : List Int) (Z : Env -> Heap -> Prop) (h : ((0 <= ac)) /\ ((ac < ((ad : Nat) : Int))) /\ (((ab + (Int.toNat ac)) < 16)) /\ ((0 <= ac)) /\ ((ac < ((ad : Nat) : Int))) /\ (((ab + (Int.toNat ac)) < 16)) /\ ((0 <= (Zar .u8 (List.getD aa (ab + (Int.toNat ac)) 0) v7) /\ (Zar .u8 (List.getD aa (ab + (Int.toNat ac)) 0) v7) < 256)) /\ ((Zby (Yi0 aa) (Heap.keep (Yi0 aa) [0]) (ZbG [0] (Yi0 aa)))) /\ ((0 <= ac)) /\ ((ac < ((ad : Nat) : Int))) /\ (((ab + (Int.toNat ac)) < 16)) /\ (((ab + (Int.toNat ac)) < List.length aa)) /\ Z (Yi1 ab ad ae v4 v5 v8 af ac) ⟨1, [(0, some ⟨true, [.ints .u8 16 (List.set aa (ab + (Int.toNat ac)) (Zar .u8 (List.getD aa (ab + (Int.toNat ac)) 0) (Zar .u8 v4 (dbl (Zar .u8 (List.getD aa (ab + (Int.toNat ac)) 0) v7)))))], 0⟩)]⟩) : EvNC ZfV Zj3 [[], [], [], [0], [], [], [], [], [], [], [], [], [], [], [], []] (Yi4 ab ad ae v4 v5 ac v7 v8 af) (Yi0 aa) [0, 3, 4, 5, 8, 38, 39] [0] Z := EvNC.of (by kernel_rfl) h
def Zrx (st : List Int) (ab ad ae : Nat) (v4 v5 ac v7 v8 af : Int) (aa h0 : List Int) : Prop := ((0 <= ac)) /\ (((ac < ((ad : Nat) : Int))) /\ ((((ab + (Int.toNat ac)) < 16)) /\ (((0 <= ac)) /\ (((ac < ((ad : Nat) : Int))) /\ ((((ab + (Int.toNat ac)) < 16)) /\ (((0 <= (Zar .u8 (List.getD aa (ab + (Int.toNat ac)) 0) v7) /\ (Zar .u8 (List.getD aa (ab + (Int.toNat ac)) 0) v7) < 256)) /\ (((0 <= ac)) /\ (((ac < ((ad : Nat) : Int))) /\ ((((ab + (Int.toNat ac)) < 16)) /\ ((((ab + (Int.toNat ac)) < List.length aa)) /\ (∀ ag : List Int, ag = (List.set aa (ab + (Int.toNat ac)) (Zar .u8 (List.getD aa (ab + (Int.toNat ac)) 0) (Zar .u8 v4 (dbl (Zar .u8 (List.getD aa (ab + (Int.toNat ac)) 0) v7))))) -> Zuf st ab ad ae v4 v5 v8 af ac ag h0 aa)))))))))))
theorem ZzP (st : List Int) (hK : (Yi3 Kf st)) (ab ad ae : Nat) (v4 v5 ac v7 v8 af : Int) (aa h0 : List Int) (h : Zrx st ab ad ae v4 v5 ac v7 v8 af aa h0) : SemL Try.prog w0 fp ρi 1 67 [Zer] (Yi4 ab ad ae v4 v5 ac v7 v8 af) (Yi0 aa) (ZhF w0 fp ρi Kf st v8 h0 ab ad ae v4 v5 af ac aa) :=
  Zcf Zc8 (steps := Zj3) (ZGK st ab ad ae v4 v5 ac v7 v8 af aa h0 _ ⟨h.1, ⟨h.2.1, ⟨h.2.2.1, ⟨h.2.2.2.1, ⟨h.2.2.2.2.1, ⟨h.2.2.2.2.2.1, ⟨h.2.2.2.2.2.2.1, ⟨Zf6, ⟨h.2.2.2.2.2.2.2.1, ⟨h.2.2.2.2.2.2.2.2.1, ⟨h.2.2.2.2.2.2.2.2.2.1, ⟨h.2.2.2.2.2.2.2.2.2.2.1, (ZaO (ZJJ st hK ab ad ae v4 v5 v8 af ac (List.set aa (ab + (Int.toNat ac)) (Zar .u8 (List.getD aa (ab + (Int.toNat ac)) 0) (Zar .u8 v4 (dbl (Zar .u8 (List.getD aa (ab + (Int.toNat ac)) 0) v7))))) h0 aa (h.2.2.2.2.2.2.2.2.2.2.2 (List.set aa (ab + (Int.toNat ac)) (Zar .u8 (List.getD aa (ab + (Int.toNat ac)) 0) (Zar .u8 v4 (dbl (Zar .u8 (List.getD aa (ab + (Int.toNat ac)) 0) v7))))) rfl)))⟩⟩⟩⟩⟩⟩⟩⟩⟩⟩⟩⟩)
abbrev Yi5 (x0 x1 x2 : Nat) (x3 x4 x5 x6 x7 : Int) : Env := [(0, some (.ptr ⟨0, 0, 0, 1⟩ 16)), (3, some (.slice ⟨0, 0, x0, 1⟩ x1 x2)), (4, some (.int .u8 x3)), (5, some (.int .u8 x4)), (6, some (.int .i64 x5)), (8, some (.int .i64 x6)), (38, some (.int .i64 x7)), (39, some (.int .i64 x5))]
theorem ZGJ (st : List Int) (ab ad ae : Nat) (v4 v5 ac v8 af : Int) (aa h0 : List Int) (Z : Env -> Heap -> Prop) (h : ((0 <= (IntKind.i64.wrap (ac + 1)))) /\ (((IntKind.i64.wrap (ac + 1)) < ((ad : Nat) : Int))) /\ (((ab + (Int.toNat (IntKind.i64.wrap (ac + 1)))) < 16)) /\ Z [(0, some (.ptr ⟨0, 0, 0, 1⟩ 16)), (3, some (.slice ⟨0, 0, ab, 1⟩ ad ae)), (4, some (.int .u8 v4)), (5, some (.int .u8 v5)), (6, some (.int .i64 ac)), (7, some (.int .u8 (List.getD aa (ab + (Int.toNat (IntKind.i64.wrap (ac + 1)))) 0))), (8, some (.int .i64 v8)), (38, some (.int .i64 af)), (39, some (.int .i64 ac))] (Yi0 aa)) : EvC ZfV Zmy (Yi5 ab ad ae v4 v5 ac v8 af) (Yi0 aa) [0, 3, 4, 5, 6, 7, 8, 38, 39] [0] Z := EvC.of (by kernel_rfl) h
def Zue (st : List Int) (ab ad ae : Nat) (v4 v5 ac v8 af : Int) (aa h0 : List Int) : Prop := ((0 <= (IntKind.i64.wrap (ac + 1)))) /\ ((((IntKind.i64.wrap (ac + 1)) < ((ad : Nat) : Int))) /\ ((((ab + (Int.toNat (IntKind.i64.wrap (ac + 1)))) < 16)) /\ (∀ v7 : Int, v7 = (List.getD aa (ab + (Int.toNat (IntKind.i64.wrap (ac + 1)))) 0) -> Zrx st ab ad ae v4 v5 ac v7 v8 af aa h0)))
theorem ZJI (st : List Int) (hK : (Yi3 Kf st)) (ab ad ae : Nat) (v4 v5 ac v8 af : Int) (aa h0 : List Int) (h : Zue st ab ad ae v4 v5 ac v8 af aa h0) : SemL Try.prog w0 fp ρi 1 67 [Zmy, Zer] (Yi5 ab ad ae v4 v5 ac v8 af) (Yi0 aa) (ZhF w0 fp ρi Kf st v8 h0 ab ad ae v4 v5 af ac aa) :=
  Zad Zc8 (ZGJ st ab ad ae v4 v5 ac v8 af aa h0 _ ⟨h.1, ⟨h.2.1, ⟨h.2.2.1, (ZzP st hK ab ad ae v4 v5 ac (List.getD aa (ab + (Int.toNat (IntKind.i64.wrap (ac + 1)))) 0) v8 af aa h0 (h.2.2.2 (List.getD aa (ab + (Int.toNat (IntKind.i64.wrap (ac + 1)))) 0) rfl))⟩⟩⟩)
def ZnB (st : List Int) (ab ad ae : Nat) (v4 v5 ac v8 af : Int) (aa h0 : List Int) : Prop := ((decide (ac < 3)) = true -> (Zue st ab ad ae v4 v5 ac v8 af aa h0)) /\ ((decide (ac < 3)) = false -> (Zrx st ab ad ae v4 v5 ac v5 v8 af aa h0))
abbrev Yi6 (x0 x1 x2 : Nat) (x3 x4 x5 x6 x7 : Int) : Env := [(0, some (.ptr ⟨0, 0, 0, 1⟩ 16)), (3, some (.slice ⟨0, 0, x0, 1⟩ x1 x2)), (4, some (.int .u8 x3)), (5, some (.int .u8 x4)), (6, some (.int .i64 x5)), (7, some (.int .u8 x4)), (8, some (.int .i64 x6)), (38, some (.int .i64 x7)), (39, some (.int .i64 x5)), (44, some (.bool (decide (x5 < 3))))]
theorem ZJH (st : List Int) (hK : (Yi3 Kf st)) (ab ad ae : Nat) (v4 v5 ac v8 af : Int) (aa h0 : List Int) (h : ZnB st ab ad ae v4 v5 ac v8 af aa h0) : SemL Try.prog w0 fp ρi 1 67 [Zg5, Zer] (Yi6 ab ad ae v4 v5 ac v8 af) (Yi0 aa) (ZhF w0 fp ρi Kf st v8 h0 ab ad ae v4 v5 af ac aa) :=
  ZaJ (q := (decide (ac < 3))) (by kernel_rfl) (fun hq => (lpk [0, 3, 4, 5, 6, 8, 38, 39] [0] (ZJI st hK ab ad ae v4 v5 ac v8 af aa h0 (h.1 hq)))) (fun hq => (ZaI (lpk [0, 3, 4, 5, 6, 7, 8, 38, 39] [0] (ZzP st hK ab ad ae v4 v5 ac v5 v8 af aa h0 (h.2 hq)))))
abbrev Yi7 (x0 x1 x2 : Nat) (x3 x4 x5 x6 x7 : Int) : Env := [(0, some (.ptr ⟨0, 0, 0, 1⟩ 16)), (3, some (.slice ⟨0, 0, x0, 1⟩ x1 x2)), (4, some (.int .u8 x3)), (5, some (.int .u8 x4)), (6, some (.int .i64 x5)), (7, some (.int .u8 x4)), (8, some (.int .i64 x6)), (38, some (.int .i64 x7)), (39, some (.int .i64 x5))]
theorem ZGI (st : List Int) (ab ad ae : Nat) (v4 v5 ac v8 af : Int) (aa h0 : List Int) (Z : Env -> Heap -> Prop) (h : Z (Yi6 ab ad ae v4 v5 ac v8 af) (Yi0 aa)) : EvC ZfV Zg6 (Yi7 ab ad ae v4 v5 ac v8 af) (Yi0 aa) [0, 3, 4, 5, 6, 7, 8, 38, 39, 44] [0] Z := EvC.of (by kernel_rfl) h
theorem ZJG (st : List Int) (hK : (Yi3 Kf st)) (ab ad ae : Nat) (v4 v5 ac v8 af : Int) (aa h0 : List Int) (h : ZnB st ab ad ae v4 v5 ac v8 af aa h0) : SemL Try.prog w0 fp ρi 1 67 [Zg6, Zg5, Zer] (Yi7 ab ad ae v4 v5 ac v8 af) (Yi0 aa) (ZhF w0 fp ρi Kf st v8 h0 ab ad ae v4 v5 af ac aa) :=
  Zad Zc8 (ZGI st ab ad ae v4 v5 ac v8 af aa h0 _ (ZJH st hK ab ad ae v4 v5 ac v8 af aa h0 h))
theorem ZGH (st : List Int) (ab ad ae : Nat) (v4 v5 ac v8 af : Int) (aa h0 : List Int) (Z : Env -> Heap -> Prop) (h : Z (Yi7 ab ad ae v4 v5 ac v8 af) (Yi0 aa)) : EvC ZfV ZiS (Yi5 ab ad ae v4 v5 ac v8 af) (Yi0 aa) [0, 3, 4, 5, 6, 7, 8, 38, 39] [0] Z := EvC.of (by kernel_rfl) h
theorem ZJF (st : List Int) (hK : (Yi3 Kf st)) (ab ad ae : Nat) (v4 v5 ac v8 af : Int) (aa h0 : List Int) (h : ZnB st ab ad ae v4 v5 ac v8 af aa h0) : SemL Try.prog w0 fp ρi 1 67 [ZiS, (.seq (.seq Zg6 Zg5) Zer)] (Yi5 ab ad ae v4 v5 ac v8 af) (Yi0 aa) (ZhF w0 fp ρi Kf st v8 h0 ab ad ae v4 v5 af ac aa) :=
  Zad Zc8 (ZGH st ab ad ae v4 v5 ac v8 af aa h0 _ (Zah (Zah (ZJG st hK ab ad ae v4 v5 ac v8 af aa h0 h))))
theorem ZGG (st : List Int) (ab ad ae : Nat) (v4 v5 v8 af ac : Int) (aa h0 : List Int) (Z : Env -> Heap -> Prop) (h : Z (Yi5 ab ad ae v4 v5 ac v8 af) (Yi0 aa)) : EvC ZfV Zmz (Yi1 ab ad ae v4 v5 v8 af ac) (Yi0 aa) [0, 3, 4, 5, 6, 8, 38, 39] [0] Z := EvC.of (by kernel_rfl) h
def Zrw (st : List Int) (ab ad ae : Nat) (v4 v5 v8 af ac : Int) (aa h0 : List Int) : Prop := ZnB st ab ad ae v4 v5 ac v8 af aa h0
theorem ZJE (st : List Int) (hK : (Yi3 Kf st)) (ab ad ae : Nat) (v4 v5 v8 af ac : Int) (aa h0 : List Int) (h : Zrw st ab ad ae v4 v5 v8 af ac aa h0) : SemL Try.prog w0 fp ρi 1 67 [Zmz, (.seq ZiS (.seq (.seq Zg6 Zg5) Zer))] (Yi1 ab ad ae v4 v5 v8 af ac) (Yi0 aa) (ZhF w0 fp ρi Kf st v8 h0 ab ad ae v4 v5 af ac aa) :=
  Zad Zc8 (ZGG st ab ad ae v4 v5 v8 af ac aa h0 _ (Zah (ZJF st hK ab ad ae v4 v5 ac v8 af aa h0 h)))
theorem ZJD (st : List Int) (hK : (Yi3 Kf st)) (ab ad ae : Nat) (v4 v5 v8 af ac : Int) (aa h0 : List Int) (h : Zrw st ab ad ae v4 v5 v8 af ac aa h0) : SemL Try.prog w0 fp ρi 1 67 [ZiR, Zeq] (Yi1 ab ad ae v4 v5 v8 af ac) (Yi0 aa) (ZhG w0 fp ρi Kf st ab ad ae v4 v5 v8 af h0 ac aa) :=
  Zat (Zah (ZJE st hK ab ad ae v4 v5 v8 af ac aa h0 h))
abbrev Yi8 (x0 : Int) : Env := [(0, some (.ptr ⟨0, 0, 0, 1⟩ 16)), (8, some (.int .i64 x0))]
theorem ZGF (st : List Int) (v8 : Int) (aa h0 : List Int) (Z : Env -> Heap -> Prop) (h : Z [(0, some (.ptr ⟨0, 0, 0, 1⟩ 16)), (8, some (.int .i64 (IntKind.i64.wrap (v8 + 1))))] (Yi0 aa)) : EvC ZfV Zeo (Yi8 v8) (Yi0 aa) [0, 8] [0] Z := EvC.of (by kernel_rfl) h
def Zud (st : List Int) (v8 : Int) (aa h0 : List Int) : Prop := (0 <= (IntKind.i64.wrap (v8 + 1)) /\ (IntKind.i64.wrap (v8 + 1)) <= 4 /\ aa.length = 16 /\ ∀ j : Nat, j < 16 -> aa.getD j 0 = if (j : Int) < 4 * (IntKind.i64.wrap (v8 + 1)) then Ztv st j else st.getD j 0) /\ (((4 - (IntKind.i64.wrap (v8 + 1))).toNat) < ((4 - v8).toNat))
theorem ZJC (st : List Int) (hK : (Yi3 Kf st)) (v8 : Int) (aa h0 : List Int) (h : Zud st v8 aa h0) : SemL Try.prog w0 fp ρi 1 67 [Zeo] (Yi8 v8) (Yi0 aa) (ZhH w0 fp ρi Kf st v8 h0) :=
  Zad Zc8 (ZGF st v8 aa h0 _ (ZaO (Zay (x' := ((IntKind.i64.wrap (v8 + 1)), aa)) (τ := tau []) h.1 h.2 (Zao [] [0] rfl rfl (esc bpt (esc pbd Zak)) (hsc pcs Zae) (by kernel_rfl) rfl))))
def Zrv (st : List Int) (ab ad ae : Nat) (v4 v5 v8 af ac : Int) (aa h0 : List Int) : Prop := ((decide (ac < af)) = true -> (Zrw st ab ad ae v4 v5 v8 af ac aa h0)) /\ ((decide (ac < af)) = false -> (Zud st v8 aa h0))
abbrev Yi9 (x0 x1 x2 : Nat) (x3 x4 x5 x6 x7 : Int) : Env := [(0, some (.ptr ⟨0, 0, 0, 1⟩ 16)), (3, some (.slice ⟨0, 0, x0, 1⟩ x1 x2)), (4, some (.int .u8 x3)), (5, some (.int .u8 x4)), (8, some (.int .i64 x5)), (38, some (.int .i64 x6)), (39, some (.int .i64 x7)), (40, some (.bool (decide (x7 < x6))))]
theorem ZJB (st : List Int) (hK : (Yi3 Kf st)) (ab ad ae : Nat) (v4 v5 v8 af ac : Int) (aa h0 : List Int) (h : Zrv st ab ad ae v4 v5 v8 af ac aa h0) : SemL Try.prog w0 fp ρi 1 67 [Zp3, (.seq ZiR Zeq)] (Yi9 ab ad ae v4 v5 v8 af ac) (Yi0 aa) (ZhG w0 fp ρi Kf st ab ad ae v4 v5 v8 af h0 ac aa) :=
  ZaJ (q := (decide (ac < af))) (by kernel_rfl) (fun hq => (ZaI (lpk [0, 3, 4, 5, 8, 38, 39] [0] (Zah (ZJD st hK ab ad ae v4 v5 v8 af ac aa h0 (h.1 hq)))))) (fun hq => (Zbb (lpk [0, 8] [0] (ZaO (P := Try.prog) (w0 := w0) (fp := fp) (ρi := ρi) (n0 := 1) (nt := 67) (ZJC st hK v8 aa h0 (h.2 hq))))))
theorem ZBm (st : List Int) (ab ad ae : Nat) (v4 v5 v8 af ac : Int) (aa h0 : List Int) (Z : Env -> Heap -> Prop) (h : Z (Yi9 ab ad ae v4 v5 v8 af ac) (Yi0 aa)) : EvC ZfV Zp4 (Yi1 ab ad ae v4 v5 v8 af ac) (Yi0 aa) [0, 3, 4, 5, 8, 38, 39, 40] [0] Z := EvC.of (by kernel_rfl) h
theorem ZDp (st : List Int) (hK : (Yi3 Kf st)) (ab ad ae : Nat) (v4 v5 v8 af ac : Int) (aa h0 : List Int) (h : Zrv st ab ad ae v4 v5 v8 af ac aa h0) : SemL Try.prog w0 fp ρi 1 67 [Zp4, (.seq Zp3 (.seq ZiR Zeq))] (Yi1 ab ad ae v4 v5 v8 af ac) (Yi0 aa) (ZhG w0 fp ρi Kf st ab ad ae v4 v5 v8 af h0 ac aa) :=
  Zad Zc8 (ZBm st ab ad ae v4 v5 v8 af ac aa h0 _ (Zah (ZJB st hK ab ad ae v4 v5 v8 af ac aa h0 h)))
def Zle (st : List Int) (ab ad ae : Nat) (v4 v5 v8 af : Int) (h0 : List Int) : Prop := (0 <= (0 : Int) /\ (0 : Int) <= 4 /\ h0.length = 16 /\ ∀ j : Nat, j < 16 -> h0.getD j 0 = if (j : Int) < 4 * v8 + (0 : Int) then Ztv st j else st.getD j 0) /\ (∀ (ac : Int) (aa : List Int), (0 <= ac /\ ac <= 4 /\ aa.length = 16 /\ ∀ j : Nat, j < 16 -> aa.getD j 0 = if (j : Int) < 4 * v8 + ac then Ztv st j else st.getD j 0) -> (Zrv st ab ad ae v4 v5 v8 af ac aa h0))
abbrev ZOo (x0 x1 x2 : Nat) (x3 x4 x5 x6 : Int) : Env := [(0, some (.ptr ⟨0, 0, 0, 1⟩ 16)), (3, some (.slice ⟨0, 0, x0, 1⟩ x1 x2)), (4, some (.int .u8 x3)), (5, some (.int .u8 x4)), (8, some (.int .i64 x5)), (38, some (.int .i64 x6)), (39, some (.int .i64 0))]
theorem ZDo (st : List Int) (hK : (Yi3 Kf st)) (ab ad ae : Nat) (v4 v5 v8 af : Int) (h0 : List Int) (h : Zle st ab ad ae v4 v5 v8 af h0) : SemL Try.prog w0 fp ρi 1 67 [Zsw] (ZOo ab ad ae v4 v5 v8 af) (Yi0 h0) (ZwG w0 fp ρi Kf st v8 h0) :=
  Zbd (Zxe st ab ad ae v4 v5 v8 af h0) (Zvm st ab ad ae v4 v5 v8 af h0) (Zwc st ab ad ae v4 v5 v8 af h0) (ZvN st ab ad ae v4 v5 v8 af h0) ⟨(0, h0), tau [], h.1, (Zao [] [0] rfl rfl (esc bpt (esc bsl (esc pbd (esc pbd (esc pbd (esc pbd (esc pbd Zak))))))) (hsc pcs Zae) (by kernel_rfl) rfl)⟩ (fun s => match s with | (ac, aa) => fun hi => (Zah (ZDp st hK ab ad ae v4 v5 v8 af ac aa h0 (h.2 ac aa hi))))
theorem ZDn (st : List Int) (hK : (Yi3 Kf st)) (ab ad ae : Nat) (v4 v5 v8 af : Int) (h0 : List Int) (h : Zle st ab ad ae v4 v5 v8 af h0) : SemL Try.prog w0 fp ρi 1 67 [Zep] (ZOo ab ad ae v4 v5 v8 af) (Yi0 h0) (Ze5 w0 fp ρi Kf st v8 h0) :=
  Zat (ZDo st hK ab ad ae v4 v5 v8 af h0 h)
abbrev ZOn (x0 x1 x2 : Nat) (x3 x4 x5 : Int) : Env := [(0, some (.ptr ⟨0, 0, 0, 1⟩ 16)), (3, some (.slice ⟨0, 0, x0, 1⟩ x1 x2)), (4, some (.int .u8 x3)), (5, some (.int .u8 x4)), (8, some (.int .i64 x5))]
theorem ZBl (st : List Int) (ab ad ae : Nat) (v4 v5 v8 : Int) (h0 : List Int) (Z : Env -> Heap -> Prop) (h : Z [(0, some (.ptr ⟨0, 0, 0, 1⟩ 16)), (3, some (.slice ⟨0, 0, ab, 1⟩ ad ae)), (4, some (.int .u8 v4)), (5, some (.int .u8 v5)), (8, some (.int .i64 v8)), (38, some (.int .i64 ((ad : Nat) : Int))), (39, some (.int .i64 0))] (Yi0 h0)) : EvC ZfV Zgl (ZOn ab ad ae v4 v5 v8) (Yi0 h0) [0, 3, 4, 5, 8, 38, 39] [0] Z := EvC.of (by kernel_rfl) h
def ZoI (st : List Int) (ab ad ae : Nat) (v4 v5 v8 : Int) (h0 : List Int) : Prop := ∀ af : Int, af = ((ad : Nat) : Int) -> Zle st ab ad ae v4 v5 v8 af h0
theorem ZDm (st : List Int) (hK : (Yi3 Kf st)) (ab ad ae : Nat) (v4 v5 v8 : Int) (h0 : List Int) (h : ZoI st ab ad ae v4 v5 v8 h0) : SemL Try.prog w0 fp ρi 1 67 [Zgl, Zep] (ZOn ab ad ae v4 v5 v8) (Yi0 h0) (Ze5 w0 fp ρi Kf st v8 h0) :=
  Zad Zc8 (ZBl st ab ad ae v4 v5 v8 h0 _ (ZDn st hK ab ad ae v4 v5 v8 ((ad : Nat) : Int) h0 (h ((ad : Nat) : Int) rfl)))
abbrev ZOm (x0 x1 x2 : Nat) (x3 x4 : Int) : Env := [(0, some (.ptr ⟨0, 0, 0, 1⟩ 16)), (3, some (.slice ⟨0, 0, x0, 1⟩ x1 x2)), (4, some (.int .u8 x3)), (8, some (.int .i64 x4))]
theorem ZBk (st : List Int) (ab ad ae : Nat) (v4 v8 : Int) (h0 : List Int) (Z : Env -> Heap -> Prop) (h : (((0 : Int) <= 0)) /\ ((0 < ((ad : Nat) : Int))) /\ (((ab + 0) < 16)) /\ Z [(0, some (.ptr ⟨0, 0, 0, 1⟩ 16)), (3, some (.slice ⟨0, 0, ab, 1⟩ ad ae)), (4, some (.int .u8 v4)), (5, some (.int .u8 (List.getD h0 (ab + 0) 0))), (8, some (.int .i64 v8))] (Yi0 h0)) : EvC ZfV ZhY (ZOm ab ad ae v4 v8) (Yi0 h0) [0, 3, 4, 5, 8] [0] Z := EvC.of (by kernel_rfl) h
def ZoH (st : List Int) (ab ad ae : Nat) (v4 v8 : Int) (h0 : List Int) : Prop := ((0 < ((ad : Nat) : Int))) /\ ((((ab + 0) < 16)) /\ (∀ v5 : Int, v5 = (List.getD h0 (ab + 0) 0) -> ZoI st ab ad ae v4 v5 v8 h0))
theorem ZDl (st : List Int) (hK : (Yi3 Kf st)) (ab ad ae : Nat) (v4 v8 : Int) (h0 : List Int) (h : ZoH st ab ad ae v4 v8 h0) : SemL Try.prog w0 fp ρi 1 67 [ZhY, (.seq Zgl Zep)] (ZOm ab ad ae v4 v8) (Yi0 h0) (Ze5 w0 fp ρi Kf st v8 h0) :=
  Zad Zc8 (ZBk st ab ad ae v4 v8 h0 _ ⟨(by decide), ⟨h.1, ⟨h.2.1, (Zah (ZDm st hK ab ad ae v4 (List.getD h0 (ab + 0) 0) v8 h0 (h.2.2 (List.getD h0 (ab + 0) 0) rfl)))⟩⟩⟩)
theorem ZBj (st : List Int) (ab ad ae : Nat) (v8 : Int) (h0 : List Int) (Z : Env -> Heap -> Prop) (h : (((0 : Int) <= 0)) /\ ((0 < ((ad : Nat) : Int))) /\ (((ab + 0) < 16)) /\ (((0 : Int) <= 1)) /\ ((1 < ((ad : Nat) : Int))) /\ (((ab + 1) < 16)) /\ (((0 : Int) <= 2)) /\ ((2 < ((ad : Nat) : Int))) /\ (((ab + 2) < 16)) /\ (((0 : Int) <= 3)) /\ ((3 < ((ad : Nat) : Int))) /\ (((ab + 3) < 16)) /\ Z [(0, some (.ptr ⟨0, 0, 0, 1⟩ 16)), (3, some (.slice ⟨0, 0, ab, 1⟩ ad ae)), (4, some (.int .u8 (Zar .u8 (Zar .u8 (Zar .u8 (List.getD h0 (ab + 0) 0) (List.getD h0 (ab + 1) 0)) (List.getD h0 (ab + 2) 0)) (List.getD h0 (ab + 3) 0)))), (8, some (.int .i64 v8))] (Yi0 h0)) : EvQC ZfV Zmu [] [(0, some (.ptr ⟨0, 0, 0, 1⟩ 16)), (3, some (.slice ⟨0, 0, ab, 1⟩ ad ae)), (8, some (.int .i64 v8))] (Yi0 h0) [0, 3, 4, 8] [0] Z := EvQC.of (by kernel_rfl) h
def ZoG (st : List Int) (ab ad ae : Nat) (v8 : Int) (h0 : List Int) : Prop := ((0 < ((ad : Nat) : Int))) /\ ((((ab + 0) < 16)) /\ (((1 < ((ad : Nat) : Int))) /\ ((((ab + 1) < 16)) /\ (((2 < ((ad : Nat) : Int))) /\ ((((ab + 2) < 16)) /\ (((3 < ((ad : Nat) : Int))) /\ ((((ab + 3) < 16)) /\ (∀ v4 : Int, v4 = (Zar .u8 (Zar .u8 (Zar .u8 (List.getD h0 (ab + 0) 0) (List.getD h0 (ab + 1) 0)) (List.getD h0 (ab + 2) 0)) (List.getD h0 (ab + 3) 0)) -> ZoH st ab ad ae v4 v8 h0))))))))
theorem ZDk (st : List Int) (hK : (Yi3 Kf st)) (ab ad ae : Nat) (v8 : Int) (h0 : List Int) (h : ZoG st ab ad ae v8 h0) : SemL Try.prog w0 fp ρi 1 67 [Zmv, (.seq ZhY (.seq Zgl Zep))] [(0, some (.ptr ⟨0, 0, 0, 1⟩ 16)), (3, some (.slice ⟨0, 0, ab, 1⟩ ad ae)), (8, some (.int .i64 v8))] (Yi0 h0) (Ze5 w0 fp ρi Kf st v8 h0) :=
  Zkl Zc8 (its := Zmu) (ZBj st ab ad ae v8 h0 _ ⟨(by decide), ⟨h.1, ⟨h.2.1, ⟨(by decide), ⟨h.2.2.1, ⟨h.2.2.2.1, ⟨(by decide), ⟨h.2.2.2.2.1, ⟨h.2.2.2.2.2.1, ⟨(by decide), ⟨h.2.2.2.2.2.2.1, ⟨h.2.2.2.2.2.2.2.1, (Zah (ZDl st hK ab ad ae (Zar .u8 (Zar .u8 (Zar .u8 (List.getD h0 (ab + 0) 0) (List.getD h0 (ab + 1) 0)) (List.getD h0 (ab + 2) 0)) (List.getD h0 (ab + 3) 0)) v8 h0 (h.2.2.2.2.2.2.2.2 (Zar .u8 (Zar .u8 (Zar .u8 (List.getD h0 (ab + 0) 0) (List.getD h0 (ab + 1) 0)) (List.getD h0 (ab + 2) 0)) (List.getD h0 (ab + 3) 0)) rfl)))⟩⟩⟩⟩⟩⟩⟩⟩⟩⟩⟩⟩)
abbrev ZNd (x0 : Int) : Env := [(0, some (.ptr ⟨0, 0, 0, 1⟩ 16)), (2, some (.int .i64 x0)), (8, some (.int .i64 x0))]
theorem ZBi (st : List Int) (v8 : Int) (h0 : List Int) (Z : Env -> Heap -> Prop) (h : ((0 <= (IntKind.i64.wrap ((IntKind.i64.wrap (4 * v8)) + 4)))) /\ (((IntKind.i64.wrap ((IntKind.i64.wrap (4 * v8)) + 4)) <= 16)) /\ ((0 <= (IntKind.i64.wrap (4 * v8)))) /\ (((IntKind.i64.wrap (4 * v8)) <= (((Int.toNat (IntKind.i64.wrap ((IntKind.i64.wrap (4 * v8)) + 4))) : Nat) : Int))) /\ Z [(0, some (.ptr ⟨0, 0, 0, 1⟩ 16)), (3, some (.slice ⟨0, 0, (0 + (if 16 = (Int.toNat (IntKind.i64.wrap (4 * v8))) then 0 else (Int.toNat (IntKind.i64.wrap (4 * v8))))), 1⟩ ((Int.toNat (IntKind.i64.wrap ((IntKind.i64.wrap (4 * v8)) + 4))) - (Int.toNat (IntKind.i64.wrap (4 * v8)))) (16 - (Int.toNat (IntKind.i64.wrap (4 * v8)))))), (8, some (.int .i64 v8))] (Yi0 h0)) : EvC ZfV Zmw (ZNd v8) (Yi0 h0) [0, 3, 8] [0] Z := EvC.of (by kernel_rfl) h
def Zi9 (st : List Int) (v8 : Int) (h0 : List Int) : Prop := ((0 <= (IntKind.i64.wrap ((IntKind.i64.wrap (4 * v8)) + 4)))) /\ ((((IntKind.i64.wrap ((IntKind.i64.wrap (4 * v8)) + 4)) <= 16)) /\ (((0 <= (IntKind.i64.wrap (4 * v8)))) /\ ((((IntKind.i64.wrap (4 * v8)) <= (((Int.toNat (IntKind.i64.wrap ((IntKind.i64.wrap (4 * v8)) + 4))) : Nat) : Int))) /\ (∀ ab : Nat, ab = (0 + (if 16 = (Int.toNat (IntKind.i64.wrap (4 * v8))) then 0 else (Int.toNat (IntKind.i64.wrap (4 * v8))))) -> ∀ ad : Nat, ad = ((Int.toNat (IntKind.i64.wrap ((IntKind.i64.wrap (4 * v8)) + 4))) - (Int.toNat (IntKind.i64.wrap (4 * v8)))) -> ∀ ae : Nat, ae = (16 - (Int.toNat (IntKind.i64.wrap (4 * v8)))) -> ZoG st ab ad ae v8 h0))))
theorem ZDj (st : List Int) (hK : (Yi3 Kf st)) (v8 : Int) (h0 : List Int) (h : Zi9 st v8 h0) : SemL Try.prog w0 fp ρi 1 67 [Zmw, (.seq Zmv (.seq ZhY (.seq Zgl Zep)))] (ZNd v8) (Yi0 h0) (Ze5 w0 fp ρi Kf st v8 h0) :=
  Zad Zc8 (ZBi st v8 h0 _ ⟨h.1, ⟨h.2.1, ⟨h.2.2.1, ⟨h.2.2.2.1, (Zah (ZDk st hK (0 + (if 16 = (Int.toNat (IntKind.i64.wrap (4 * v8))) then 0 else (Int.toNat (IntKind.i64.wrap (4 * v8))))) ((Int.toNat (IntKind.i64.wrap ((IntKind.i64.wrap (4 * v8)) + 4))) - (Int.toNat (IntKind.i64.wrap (4 * v8)))) (16 - (Int.toNat (IntKind.i64.wrap (4 * v8)))) v8 h0 (((h.2.2.2.2 (0 + (if 16 = (Int.toNat (IntKind.i64.wrap (4 * v8))) then 0 else (Int.toNat (IntKind.i64.wrap (4 * v8))))) rfl) ((Int.toNat (IntKind.i64.wrap ((IntKind.i64.wrap (4 * v8)) + 4))) - (Int.toNat (IntKind.i64.wrap (4 * v8)))) rfl) (16 - (Int.toNat (IntKind.i64.wrap (4 * v8)))) rfl)))⟩⟩⟩⟩)
theorem ZBh (st : List Int) (v8 : Int) (h0 : List Int) (Z : Env -> Heap -> Prop) (h : Z (ZNd v8) (Yi0 h0)) : EvC ZfV Zp5 (Yi8 v8) (Yi0 h0) [0, 2, 8] [0] Z := EvC.of (by kernel_rfl) h
theorem ZDi (st : List Int) (hK : (Yi3 Kf st)) (v8 : Int) (h0 : List Int) (h : Zi9 st v8 h0) : SemL Try.prog w0 fp ρi 1 67 [Zp5, (.seq Zmw (.seq Zmv (.seq ZhY (.seq Zgl Zep))))] (Yi8 v8) (Yi0 h0) (Ze5 w0 fp ρi Kf st v8 h0) :=
  Zad Zc8 (ZBh st v8 h0 _ (Zah (ZDj st hK v8 h0 h)))
theorem ZDh (st : List Int) (hK : (Yi3 Kf st)) (v8 : Int) (h0 : List Int) (h : Zi9 st v8 h0) : SemL Try.prog w0 fp ρi 1 67 [ZiQ, Zeo] (Yi8 v8) (Yi0 h0) (ZhH w0 fp ρi Kf st v8 h0) :=
  Zat (Zah (ZDi st hK v8 h0 h))
theorem ZB3 (st h0 : List Int) : RetC Zoz [] (Yi0 h0) (.tuple []) := RetC.of (fun Z => by kernel_rfl)
def Zld (st : List Int) (v8 : Int) (h0 : List Int) : Prop := ((decide (v8 < 4)) = true -> (Zi9 st v8 h0)) /\ ((decide (v8 < 4)) = false -> (h0 = (Zf5 st)))
abbrev ZOl (x0 : Int) : Env := [(0, some (.ptr ⟨0, 0, 0, 1⟩ 16)), (8, some (.int .i64 x0)), (9, some (.bool (decide (x0 < 4))))]
theorem ZDg (st : List Int) (hK : (Yi3 Kf st)) (v8 : Int) (h0 : List Int) (h : Zld st v8 h0) : SemL Try.prog w0 fp ρi 1 67 [Zp6, (.seq ZiQ Zeo)] (ZOl v8) (Yi0 h0) (ZhH w0 fp ρi Kf st v8 h0) :=
  ZaJ (q := (decide (v8 < 4))) (by kernel_rfl) (fun hq => (ZaI (lpk [0, 8] [0] (Zah (ZDh st hK v8 h0 (h.1 hq)))))) (fun hq => (Zbb (lpk [] [0] (Zyn (R := Zoz) (m := 1) (Kf := Kf) (fun _ _ h => h) (ZB3 st h0) (Zb4 (Eq.mpr (cg1 (fun (z1 : List Int) => Zkj 1 Kf (.tuple []) (Yi0 z1)) (h.2 hq)) (Zbm [] [0] rfl (by kernel_rfl) rfl (Zhb Zkf) (hsc pcs Zae) rfl (by kernel_rfl) (hK))))))))
theorem ZBg (st : List Int) (v8 : Int) (h0 : List Int) (Z : Env -> Heap -> Prop) (h : Z (ZOl v8) (Yi0 h0)) : EvC ZfV Zp7 (Yi8 v8) (Yi0 h0) [0, 8, 9] [0] Z := EvC.of (by kernel_rfl) h
theorem ZDf (st : List Int) (hK : (Yi3 Kf st)) (v8 : Int) (h0 : List Int) (h : Zld st v8 h0) : SemL Try.prog w0 fp ρi 1 67 [Zp7, (.seq Zp6 (.seq ZiQ Zeo))] (Yi8 v8) (Yi0 h0) (ZhH w0 fp ρi Kf st v8 h0) :=
  Zad Zc8 (ZBg st v8 h0 _ (Zah (ZDg st hK v8 h0 h)))
def Zhi (st : List Int) : Prop := (0 <= (0 : Int) /\ (0 : Int) <= 4 /\ st.length = 16 /\ ∀ j : Nat, j < 16 -> st.getD j 0 = if (j : Int) < 4 * (0 : Int) then Ztv st j else st.getD j 0) /\ (∀ (v8 : Int) (h0 : List Int), (0 <= v8 /\ v8 <= 4 /\ h0.length = 16 /\ ∀ j : Nat, j < 16 -> h0.getD j 0 = if (j : Int) < 4 * v8 then Ztv st j else st.getD j 0) -> (Zld st v8 h0))
abbrev ZNc : Env := [(0, some (.ptr ⟨0, 0, 0, 1⟩ 16)), (8, some (.int .i64 0))]
theorem ZDe (st : List Int) (hK : (Yi3 Kf st)) (h : Zhi st) : SemL Try.prog w0 fp ρi 1 67 [Zsv] ZNc (Yi0 st) (ZwH w0 fp ρi Kf st) :=
  Zbd (Zxf st) (Zvn st) (Zwd st) (ZvO st) ⟨(0, st), tau [], h.1, (Zao [] [0] rfl rfl (esc bpt (esc pbd Zak)) (hsc pcs Zae) (by kernel_rfl) rfl)⟩ (fun s => match s with | (v8, h0) => fun hi => (Zah (ZDf st hK v8 h0 (h.2 v8 h0 hi))))
theorem ZDd (st : List Int) (hK : (Yi3 Kf st)) (h : Zhi st) : SemL Try.prog w0 fp ρi 1 67 [Zmx] ZNc (Yi0 st) (fnK Zoz 1 Kf) :=
  Zat (ZDe st hK h)
abbrev ZNb : Env := [(0, some (.ptr ⟨0, 0, 0, 1⟩ 16))]
theorem ZBf (st : List Int) (Z : Env -> Heap -> Prop) (h : Z ZNc (Yi0 st)) : EvC ZfV Zp8 ZNb (Yi0 st) [0, 8] [0] Z := EvC.of (by kernel_rfl) h
theorem ZDc (st : List Int) (hK : (Yi3 Kf st)) (h : Zhi st) : SemL Try.prog w0 fp ρi 1 67 [Zp8, Zmx] ZNb (Yi0 st) (fnK Zoz 1 Kf) :=
  Zad Zc8 (ZBf st _ (ZDd st hK h))
theorem ZLZ (st : List Int) (hK : (Yi3 Kf st)) (h : Zhi st) : SemL Try.prog w0 fp ρi 1 67 [ZLC] ZNb (Yi0 st) (fnK Zoz 1 Kf) :=
  (Zah (ZDc st hK h))
end
theorem ZLk (st : List Int) (hpre : (Zaz st)) : Zhi st := by
  unfold Zhi Zld Zi9 ZoG ZoH ZoI Zle Zrv Zud Zrw ZnB Zue Zrx Zuf
  have h1 := hpre
  refine ⟨⟨by omega, by omega, h1.1, fun j hj => by rw [if_neg (by omega)]⟩, ?_⟩
  rintro v8 h0 ⟨i0, i1, i2, i3⟩
  refine ⟨fun hlt => ?_, fun hge => ?_⟩
  · have hlt := of_decide_eq_true hlt
    have w1 : IntKind.i64.wrap (v8 + 1) = v8 + 1 := by rw [ZdQ]; omega
    have w4 : IntKind.i64.wrap (4 * v8) = 4 * v8 := by rw [ZdQ]; omega
    have w5 : IntKind.i64.wrap (4 * v8 + 4) = 4 * v8 + 4 := by rw [ZdQ]; omega
    rw [w4, w5, w1]
    refine ⟨by omega, by omega, by omega, by omega, ?_⟩
    rintro ab e3 ad el ae ec
    rw [if_neg (by omega), Nat.zero_add] at e3
    have el : ad = 4 := by omega
    clear ec
    subst el
    have g : ∀ k, k < 4 -> h0.getD (ab + k) 0 = st.getD (4 * v8.toNat + k) 0 := fun k hk => by
      rw [i3 _ (by omega), if_neg (by omega), e3, show (4 * v8).toNat = 4 * v8.toNat by omega]
    refine ⟨by omega, by omega, by omega, by omega, by omega, by omega, by omega, by omega, ?_⟩
    rintro v4 e4
    have e4 : v4 = ZMW st v8.toNat := by rw [e4, g 0 (by omega), g 1 (by omega), g 2 (by omega), g 3 (by omega)]; rfl
    refine ⟨by omega, by omega, ?_⟩
    rintro v5 e5
    have e5 : v5 = st.getD (4 * v8.toNat) 0 := by rw [e5, g 0 (by omega)]; rfl
    rintro af rfl
    refine ⟨⟨by omega, by omega, i2, fun j hj => by rw [i3 j hj, Int.add_zero]⟩, ?_⟩
    rintro ac ah ⟨j0, j1, j2, j3⟩
    have key : ∀ nx : Int, ac < 4 -> nx = st.getD (4 * v8.toNat + (ac.toNat + 1) % 4) 0 ->
        (0 <= ac + 1 /\ ac + 1 <= 4 /\ (ah.set (ab + ac.toNat) (Zar .u8 (ah.getD (ab + ac.toNat) 0) (Zar .u8 v4 (dbl (Zar .u8 (ah.getD (ab + ac.toNat) 0) nx))))).length = 16 /\
        ∀ j : Nat, j < 16 -> (ah.set (ab + ac.toNat) (Zar .u8 (ah.getD (ab + ac.toNat) 0) (Zar .u8 v4 (dbl (Zar .u8 (ah.getD (ab + ac.toNat) 0) nx))))).getD j 0 = if (j : Int) < 4 * v8 + (ac + 1) then Ztv st j else st.getD j 0) /\ (4 - (ac + 1)).toNat < (4 - ac).toNat := by
      intro nx hv hnx
      refine ⟨⟨by omega, by omega, by rw [List.length_set, j2], fun j hj => ?_⟩, by omega⟩
      have hc : ah.getD (ab + ac.toNat) 0 = st.getD (ab + ac.toNat) 0 := by rw [j3 _ (by omega), if_neg (by omega)]
      rw [Zca (by omega), hc]
      by_cases hjv : j = ab + ac.toNat
      · rw [if_pos hjv, if_pos (by omega)]
        unfold Ztv
        rw [<- hjv, e4, hnx, show j / 4 = v8.toNat by omega, show j % 4 = ac.toNat by omega]
      · rw [if_neg hjv, j3 j hj]
        by_cases hjl : (j : Int) < 4 * v8 + ac
        · rw [if_pos hjl, if_pos (by omega)]
        · rw [if_neg hjl, if_neg (by omega)]
    refine ⟨fun hlt2 => ?_, fun hge2 => ?_⟩
    · have hlt2 := of_decide_eq_true hlt2
      have w6 : IntKind.i64.wrap (ac + 1) = ac + 1 := by rw [ZdQ]; omega
      rw [w6]
      refine ⟨fun h3 => ?_, fun h3 => ?_⟩
      · have h3 := of_decide_eq_true h3
        refine ⟨by omega, by omega, by omega, ?_⟩
        rintro v7 e7
        refine ⟨j0, by omega, by omega, j0, by omega, by omega, Zc4 _ _, j0, by omega, by omega, by omega, ?_⟩
        rintro ai rfl
        refine key v7 (by omega) ?_
        rw [e7, j3 _ (by omega), if_neg (by omega)]
        congr 1
        omega
      · have h3 := of_decide_eq_false h3
        refine ⟨j0, by omega, by omega, j0, by omega, by omega, Zc4 _ _, j0, by omega, by omega, by omega, ?_⟩
        rintro ai rfl
        refine key v5 (by omega) ?_
        rw [e5]
        congr 1
        omega
    · have hge2 := of_decide_eq_false hge2
      exact ⟨⟨by omega, by omega, j2, fun j hj => by rw [j3 j hj, show 4 * v8 + ac = 4 * (v8 + 1) by omega]⟩, by omega⟩
  · have hge := of_decide_eq_false hge
    exact Zbs i2 fun j hj => by rw [i3 j hj, if_pos (by omega)]
theorem ZL6 : Sound Try.prog 30 (gS ZET) := by
  refine ZaC Ztn ?_
  intro args H K h
  obtain ⟨pre, out, hD, hpre, hK⟩ := Zdv h
  unfold ZET at hD
  split at hD
  · obtain ⟨hb, hD⟩ := Zas hD
    have h0 := hb
    obtain rfl := Nat.eq_of_beq_eq_true h0
    cases hD
    exact ⟨rfl, fun w0 fp ρi => ZLZ _ hK (ZLk _ hpre)⟩
  · cases hD
end Go.Proofs.Ytfffjdfegnmejaa
