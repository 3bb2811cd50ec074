/- Part of the proof: SxLBlocks. -/
import Derived.Test.YtfffjdfegnmejaaSxAesRY
import Derived.Test.YtfffjdfegnmejaaSxAesS
import Derived.KernelRfl
set_option linter.unusedVariables false
set_option linter.unusedSimpArgs false
set_option maxRecDepth 20000
namespace Go.Proofs.Ytfffjdfegnmejaa
open Go.Sx
def Zh6 : Zgt := fun args => match args with
  | [.agg [.ints .u8 key_n key], .agg [.ints .u8 ad b]] => bif Nat.beq key_n 16 && Nat.beq ad 16 then some ((Zaz key /\ Zaz b), .bool true) else none
  | _ => none
def ZxV : ACode := .reg (.op (some 2) (.box (.tm 0)) (.op (some 3) (.box (.tm 1)) (.op (some 4) (.mov (.cn (.bool false))) .nil)))
def Zsq : ACode := .reg (.op (some 9) (.call 7 []) (.op (some 10) (.not (.tm 9)) .nil))
def ZLx : ACode := .reg (.op (some 4) (.mov (.cn (.bool false))) .nil)
def Zsp : ACode := .cond (.tm 10) (.seq ZLx .ret) .skip
def Zk0 : ACode := .reg (.op (some 11) (.loadA 16 (.tm 2)) (.op (some 12) (.call 8 [(.tm 11)]) (.op (some 5) (.alloc [.one (.nilslice), .one (.nilslice)]) (.op none (.storeA 2 (.tm 5) (.tm 12)) .nil))))
def ZjY : ACode := .reg (.op (some 13) (.loadA 16 (.tm 2)) (.op (some 14) (.call 9 [(.tm 13)]) (.op (some 6) (.mov (.tm 14)) .nil)))
def Zir : ACode := .reg (.op (some 15) (.mov (.tm 6)) (.op (some 16) (.call 10 [(.tm 15)]) (.op (some 7) (.alloc [.ints .u8 176 (List.replicate 176 0)]) (.op none (.storeA 176 (.tm 7) (.tm 16)) .nil))))
def Zg2 : ACode := .reg (.op (some 8) (.mov (.cn (.int .i64 0))) .nil)
def ZxS : ACode := .reg (.op (some 17) (.mov (.tm 8)) (.op (some 18) (.bin .lss (.tm 17) (.cn (.int .i64 176))) .nil))
def ZxR : ACode := .cond (.tm 18) .skip (.exit 0)
def Zmj : Items := .op (some 21) (.mov (.tm 8)) (.op (some 22) (.bin .quo (.tm 21) (.cn (.int .i64 16))) (.op (some 23) (.mov (.tm 8)) (.op (some 24) (.bin .rem (.tm 23) (.cn (.int .i64 16))) (.op (some 25) (.idxA (.tm 7) (.tm 22) 11 16) (.op (some 26) (.idxA (.tm 25) (.tm 24) 16 1) (.op (some 27) (.load1 (.tm 26)) (.op (some 28) (.fieldAddr (.tm 5) 0 1) (.op (some 29) (.load1 (.tm 28)) (.op (some 30) (.mov (.tm 8)) (.op (some 31) (.bin .quo (.tm 30) (.cn (.int .i64 4))) (.op (some 32) (.idxS (.tm 29) (.tm 31) 1) (.op (some 33) (.loadHq (.tm 32)) (.op (some 34) (.mov (.tm 8)) (.op (some 35) (.bin .rem (.tm 34) (.cn (.int .i64 4))) (.op (some 36) (.idxHq (.tm 33) (.tm 35) (.tm 32)) (.op (some 37) (.loadRq (.tm 36) (.tm 32) (.tm 35)) (.op (some 38) (.bin .neq (.tm 27) (.tm 37)) .nil)))))))))))))))))
def ZxU : ACode := .regQ Zmj
def ZpM : ACode := .reg (.op (some 4) (.mov (.cn (.bool false))) .nil)
def ZpL : ACode := .cond (.tm 38) (.seq ZpM .ret) .skip
def Zmi : ACode := .block 1 (.seq ZxU ZpL)
def Zgj : ACode := .reg (.op (some 19) (.mov (.tm 8)) (.op (some 20) (.bin .add (.tm 19) (.cn (.int .i64 1))) (.op (some 8) (.mov (.tm 20)) .nil)))
def ZxT : ACode := .loop (.seq (.seq ZxS ZxR) (.seq Zmi Zgj))
def Zej : ACode := .block 0 ZxT
def Zmh : Items := .op (some 39) (.mov (.tm 6)) (.op (some 40) (.loadA 16 (.tm 3)) (.op (some 41) (.call 11 [(.tm 39), (.tm 40)]) (.op (some 42) (.loadA 2 (.tm 5)) (.op (some 43) (.loadA 16 (.tm 3)) (.op (some 44) (.call 12 [(.tm 42), (.tm 43)]) (.op (some 45) (.eqA false [.ints .u8 16 (List.replicate 16 0)] (.tm 41) (.tm 44)) (.op (some 46) (.mov (.tm 45)) (.grpJ 46 true (.op (some 47) (.idxA (.tm 7) (.cn (.int .i64 0)) 11 16) (.op (some 48) (.loadA 16 (.tm 47)) (.op (some 49) (.loadA 16 (.tm 2)) (.op (some 50) (.eqA false [.ints .u8 16 (List.replicate 16 0)] (.tm 48) (.tm 49)) .nil)))) 51 (.tm 50) (.cn (.bool false)) (.op (some 4) (.mov (.tm 51)) .nil)))))))))
def Zdc : ACode := .regQ Zmh
def Zk2 : ACode := (.seq ZxV (.seq (.seq Zsq Zsp) (.seq Zk0 (.seq ZjY (.seq Zir (.seq (.seq Zg2 Zej) (.seq Zdc .ret)))))))
def ZaN : Res := .one (.tm 4)
theorem Zke : Zbj Try.prog 3 2 52 Zk2 ZaN = true := by kernel_rfl
def Za6 : Zav := Zcl [Zs6] [ZEF, Zx6, Ztj, Zx7, Zzw]
theorem Za4 : ZaK Try.prog Za6 := ZaL ⟨ZuK, trivial⟩ ⟨ZL4, ZFy, ZyX, ZFz, ZFu, trivial⟩
section
variable {w0 : World} {fp : Nat -> Nat -> Prop} {ρi : Rho} {Kf : SVal -> Heap -> Prop}
def Zz8 (w0 : World) (fp : Nat -> Nat -> Prop) (ρi : Rho) (Kf : SVal -> Heap -> Prop) (key b : List Int) : ZaY := Zax 0 (fun e H => SemL Try.prog w0 fp ρi 0 52 [(.seq Zdc .ret)] e H (fnK ZaN 0 Kf)) (fnK ZaN 0 Kf)
def ZAb (key b : List Int) (hv : List (Tup Zaf)) (aa : List (Tup Zaa)) (x2 x3 c ac : Nat) (ab : List Int) : Int -> Prop := fun s => match s with | v8 => 0 <= v8 /\ v8 <= 176
def ZzZ (key b : List Int) (hv : List (Tup Zaf)) (aa : List (Tup Zaa)) (x2 x3 c ac : Nat) (ab : List Int) : Int -> Nat := fun s => match s with | v8 => ((176 - v8).toNat)
def Zz5 (key b : List Int) (hv : List (Tup Zaf)) (aa : List (Tup Zaa)) (x2 x3 c ac : Nat) (ab : List Int) : Int -> Env := fun s => match s with | v8 => [(2, some (.ptr ⟨0, 0, 0, 1⟩ 16)), (3, some (.ptr ⟨1, 0, 0, 1⟩ 16)), (5, some (.ptr ⟨4, 0, 0, 1⟩ 2)), (6, some (.ptr ⟨5, 0, 0, 1⟩ 432)), (7, some (.ptr ⟨6, 0, 0, 1⟩ 176)), (8, some (.int .i64 v8))]
def Zz2 (key b : List Int) (hv : List (Tup Zaf)) (aa : List (Tup Zaa)) (x2 x3 c ac : Nat) (ab : List Int) : Int -> Heap := fun s => match s with | v8 => ⟨7, [(0, some ⟨true, [.ints .u8 16 key], 0⟩), (1, some ⟨true, [.ints .u8 16 b], 0⟩), (2, some ⟨true, [.rows Zaf 44 hv, .rows Zaa 0 aa], x2⟩), (3, some ⟨true, [.ints .u8 256 sboxT], x3⟩), (4, some ⟨true, [.one (.slice ⟨2, 0, 0, 1⟩ 44 c), .one (.slice ⟨3, 0, 0, 1⟩ 256 ac)], 0⟩), (5, some ⟨true, [.ints .u8 256 sboxT, .ints .u8 176 ab], 0⟩), (6, some ⟨true, [.ints .u8 176 ab], 0⟩)]⟩
def ZkL (w0 : World) (fp : Nat -> Nat -> Prop) (ρi : Rho) (Kf : SVal -> Heap -> Prop) (key b : List Int) (hv : List (Tup Zaf)) (aa : List (Tup Zaa)) (x2 x3 c ac : Nat) (ab : List Int) (v8 : Int) : ZaY := Zb2 0 (ZAb key b hv aa x2 x3 c ac ab) (ZzZ key b hv aa x2 x3 c ac ab) (Zz5 key b hv aa x2 x3 c ac ab) (Zz2 key b hv aa x2 x3 c ac ab) v8 (Zz8 w0 fp ρi Kf key b)
def ZwA (w0 : World) (fp : Nat -> Nat -> Prop) (ρi : Rho) (Kf : SVal -> Heap -> Prop) (key b : List Int) (hv : List (Tup Zaf)) (aa : List (Tup Zaa)) (x2 x3 c ac : Nat) (ab : List Int) (v8 : Int) : ZaY := Zax 1 (fun e H => SemL Try.prog w0 fp ρi 0 52 [Zgj] e H (ZkL w0 fp ρi Kf key b hv aa x2 x3 c ac ab v8)) (ZkL w0 fp ρi Kf key b hv aa x2 x3 c ac ab v8)
theorem ZMo (key b : List Int) (hv : List (Tup Zaf)) (aa : List (Tup Zaa)) (x2 x3 c ac : Nat) (ab : List Int) (v8 : Int) (Z : Env -> Heap -> Prop) (h : Z [(4, some (.bool false))] ⟨7, []⟩) : EvC Za6 ZpM [] ⟨7, []⟩ [4] [] Z := EvC.of (by kernel_rfl) h
theorem ZHU (key b : List Int) : RetC ZaN [(4, some (.bool false))] ⟨7, []⟩ (.bool false) := RetC.of (fun Z => by kernel_rfl)
def ZAB (key b : List Int) (hv : List (Tup Zaf)) (aa : List (Tup Zaa)) (x2 x3 c ac : Nat) (ab : List Int) (v8 : Int) : Prop := false = true
abbrev Ym0 : Heap := ⟨0, []⟩
abbrev Ym1 (x0 : SVal -> Heap -> Prop) : Prop := x0 (.bool true) ⟨0, []⟩
theorem ZMP (key b : List Int) (hK : (Ym1 Kf)) (hv : List (Tup Zaf)) (aa : List (Tup Zaa)) (x2 x3 c ac : Nat) (ab : List Int) (v8 : Int) (h : ZAB key b hv aa x2 x3 c ac ab v8) : SemL Try.prog w0 fp ρi 0 52 [ZpM, .ret] [] ⟨7, []⟩ (ZwA w0 fp ρi Kf key b hv aa x2 x3 c ac ab v8) :=
  Zad Za4 (ZMo key b hv aa x2 x3 c ac ab v8 _ (Zbv (R := ZaN) (m := 0) (Kf := Kf) (fun _ _ h => h) (ZHU key b) (Zbg rfl (by kernel_rfl) (cg1 (fun (z1 : Bool) => (.bool z1 : SVal)) h) hK)))
abbrev Ym2 (x0 x1 : List Int) (x2 : List (Tup Zaf)) (x3 : List (Tup Zaa)) (x4 x5 x6 x7 : Nat) (x8 : List Int) : Heap := ⟨7, [(0, some ⟨true, [.ints .u8 16 x0], 0⟩), (1, some ⟨true, [.ints .u8 16 x1], 0⟩), (2, some ⟨true, [.rows Zaf 44 x2, .rows Zaa 0 x3], x4⟩), (3, some ⟨true, [.ints .u8 256 sboxT], x5⟩), (4, some ⟨true, [.one (.slice ⟨2, 0, 0, 1⟩ 44 x6), .one (.slice ⟨3, 0, 0, 1⟩ 256 x7)], 0⟩), (5, some ⟨true, [.ints .u8 256 sboxT, .ints .u8 176 x8], 0⟩), (6, some ⟨true, [.ints .u8 176 x8], 0⟩)]⟩
abbrev Ym3 (x0 : Int) : Env := [(2, some (.ptr ⟨0, 0, 0, 1⟩ 16)), (3, some (.ptr ⟨1, 0, 0, 1⟩ 16)), (5, some (.ptr ⟨4, 0, 0, 1⟩ 2)), (6, some (.ptr ⟨5, 0, 0, 1⟩ 432)), (7, some (.ptr ⟨6, 0, 0, 1⟩ 176)), (8, some (.int .i64 x0))]
theorem ZMn (key b : List Int) (v8 : Int) (hv : List (Tup Zaf)) (aa : List (Tup Zaa)) (x2 x3 c ac : Nat) (ab : List Int) (Z : Env -> Heap -> Prop) (h : Z [(2, some (.ptr ⟨0, 0, 0, 1⟩ 16)), (3, some (.ptr ⟨1, 0, 0, 1⟩ 16)), (5, some (.ptr ⟨4, 0, 0, 1⟩ 2)), (6, some (.ptr ⟨5, 0, 0, 1⟩ 432)), (7, some (.ptr ⟨6, 0, 0, 1⟩ 176)), (8, some (.int .i64 (IntKind.i64.wrap (v8 + 1))))] (Ym2 key b hv aa x2 x3 c ac ab)) : EvC Za6 Zgj (Ym3 v8) (Ym2 key b hv aa x2 x3 c ac ab) [2, 3, 5, 6, 7, 8] [0, 1, 2, 3, 4, 5, 6] Z := EvC.of (by kernel_rfl) h
def ZAA (key b : List Int) (v8 : Int) (hv : List (Tup Zaf)) (aa : List (Tup Zaa)) (x2 x3 c ac : Nat) (ab : List Int) : Prop := (0 <= (IntKind.i64.wrap (v8 + 1)) /\ (IntKind.i64.wrap (v8 + 1)) <= 176) /\ (((176 - (IntKind.i64.wrap (v8 + 1))).toNat) < ((176 - v8).toNat))
theorem ZMO (key b : List Int) (hK : (Ym1 Kf)) (v8 : Int) (hv : List (Tup Zaf)) (aa : List (Tup Zaa)) (x2 x3 c ac : Nat) (ab : List Int) (h : ZAA key b v8 hv aa x2 x3 c ac ab) : SemL Try.prog w0 fp ρi 0 52 [Zgj] (Ym3 v8) (Ym2 key b hv aa x2 x3 c ac ab) (ZkL w0 fp ρi Kf key b hv aa x2 x3 c ac ab v8) :=
  Zad Za4 (ZMn key b v8 hv aa x2 x3 c ac ab _ (ZaO (Zay (x' := (IntKind.i64.wrap (v8 + 1))) (τ := tau []) h.1 h.2 (Zao [] [0, 1, 2, 3, 4, 5, 6] rfl rfl (esc bpt (esc bpt (esc bpt (esc bpt (esc bpt (esc pbd Zak)))))) (hsc pcs (hsc pcs (hsc pcs (hsc pcs (hsc (Zbz bsl (Zbz bsl ZeF)) (hsc pcs (hsc pcs Zae))))))) (by kernel_rfl) rfl))))
def ZAz (key b : List Int) (v8 : Int) (ab : List Int) (aa : List (Tup Zaa)) (hv : List (Tup Zaf)) (x2 x3 c ac : Nat) : Prop := (((List.getD ab (((0 + ((Int.toNat (IntKind.i64.wrap (Int.tdiv v8 16))) * 16)) * 1) + ((Int.toNat (Int.tmod v8 16)) * 1)) 0) != (List.getD (List.getD aa (0 + (Int.toNat (IntKind.i64.wrap (Int.tdiv v8 4)))) ([] : List Int)) (Int.toNat (Int.tmod v8 4)) 0)) = true -> (ZAB key b hv aa x2 x3 c ac ab v8)) /\ (((List.getD ab (((0 + ((Int.toNat (IntKind.i64.wrap (Int.tdiv v8 16))) * 16)) * 1) + ((Int.toNat (Int.tmod v8 16)) * 1)) 0) != (List.getD (List.getD aa (0 + (Int.toNat (IntKind.i64.wrap (Int.tdiv v8 4)))) ([] : List Int)) (Int.toNat (Int.tmod v8 4)) 0)) = false -> (ZAA key b v8 hv aa x2 x3 c ac ab))
abbrev Ym4 (x0 : Int) (x1 : List Int) (x2 : List (Tup Zaa)) : Env := [(2, some (.ptr ⟨0, 0, 0, 1⟩ 16)), (3, some (.ptr ⟨1, 0, 0, 1⟩ 16)), (5, some (.ptr ⟨4, 0, 0, 1⟩ 2)), (6, some (.ptr ⟨5, 0, 0, 1⟩ 432)), (7, some (.ptr ⟨6, 0, 0, 1⟩ 176)), (8, some (.int .i64 x0)), (38, some (.bool ((List.getD x1 (((0 + ((Int.toNat (IntKind.i64.wrap (Int.tdiv x0 16))) * 16)) * 1) + ((Int.toNat (Int.tmod x0 16)) * 1)) 0) != (List.getD (List.getD x2 (0 + (Int.toNat (IntKind.i64.wrap (Int.tdiv x0 4)))) ([] : List Int)) (Int.toNat (Int.tmod x0 4)) 0))))]
theorem ZMN (key b : List Int) (hK : (Ym1 Kf)) (v8 : Int) (ab : List Int) (aa : List (Tup Zaa)) (hv : List (Tup Zaf)) (x2 x3 c ac : Nat) (h : ZAz key b v8 ab aa hv x2 x3 c ac) : SemL Try.prog w0 fp ρi 0 52 [ZpL] (Ym4 v8 ab aa) (Ym2 key b hv aa x2 x3 c ac ab) (ZwA w0 fp ρi Kf key b hv aa x2 x3 c ac ab v8) :=
  ZaJ (q := ((List.getD ab (((0 + ((Int.toNat (IntKind.i64.wrap (Int.tdiv v8 16))) * 16)) * 1) + ((Int.toNat (Int.tmod v8 16)) * 1)) 0) != (List.getD (List.getD aa (0 + (Int.toNat (IntKind.i64.wrap (Int.tdiv v8 4)))) ([] : List Int)) (Int.toNat (Int.tmod v8 4)) 0))) (by kernel_rfl) (fun hq => (Zah (lpk [] [] (ZMP key b hK hv aa x2 x3 c ac ab v8 (h.1 hq))))) (fun hq => (ZaI (ZaO (P := Try.prog) (w0 := w0) (fp := fp) (ρi := ρi) (n0 := 0) (nt := 52) (lpk [2, 3, 5, 6, 7, 8] [0, 1, 2, 3, 4, 5, 6] (ZMO key b hK v8 hv aa x2 x3 c ac ab (h.2 hq))))))
theorem ZMm (key b : List Int) (v8 : Int) (hv : List (Tup Zaf)) (aa : List (Tup Zaa)) (x2 x3 c ac : Nat) (ab : List Int) (Z : Env -> Heap -> Prop) (h : (((16 : Int) ≠ 0)) /\ (((16 : Int) ≠ 0)) /\ ((0 <= (IntKind.i64.wrap (Int.tdiv v8 16)))) /\ (((IntKind.i64.wrap (Int.tdiv v8 16)) < 11)) /\ ((0 <= (Int.tmod v8 16))) /\ (((Int.tmod v8 16) < 16)) /\ (((((0 + ((Int.toNat (IntKind.i64.wrap (Int.tdiv v8 16))) * 16)) * 1) + ((Int.toNat (Int.tmod v8 16)) * 1)) < 176)) /\ (((4 : Int) ≠ 0)) /\ ((0 <= (IntKind.i64.wrap (Int.tdiv v8 4)))) /\ (((IntKind.i64.wrap (Int.tdiv v8 4)) < ((44 : Nat) : Int))) /\ (((0 + (Int.toNat (IntKind.i64.wrap (Int.tdiv v8 4)))) < 44)) /\ (((4 : Int) ≠ 0)) /\ (((List.getD hv (0 + (Int.toNat (IntKind.i64.wrap (Int.tdiv v8 4)))) (none, 0, 0)) = (List.getD hv (0 + (Int.toNat (IntKind.i64.wrap (Int.tdiv v8 4)))) (none, 0, 0)))) /\ (((0 + (Int.toNat (IntKind.i64.wrap (Int.tdiv v8 4)))) < 44)) /\ ((0 <= (Int.tmod v8 4))) /\ (((Int.tmod v8 4) < ((List.length (List.getD aa (0 + (Int.toNat (IntKind.i64.wrap (Int.tdiv v8 4)))) ([] : List Int)) : Nat) : Int))) /\ (((ZiG (List.getD hv (0 + (Int.toNat (IntKind.i64.wrap (Int.tdiv v8 4)))) (none, 0, 0)) (Int.toNat (Int.tmod v8 4))) = (ZiG (List.getD hv (0 + (Int.toNat (IntKind.i64.wrap (Int.tdiv v8 4)))) (none, 0, 0)) (Int.toNat (Int.tmod v8 4))))) /\ (((0 + (Int.toNat (IntKind.i64.wrap (Int.tdiv v8 4)))) < 44)) /\ ((0 <= (Int.tmod v8 4))) /\ (((Int.tmod v8 4) < ((List.length (List.getD aa (0 + (Int.toNat (IntKind.i64.wrap (Int.tdiv v8 4)))) ([] : List Int)) : Nat) : Int))) /\ Z (Ym4 v8 ab aa) (Ym2 key b hv aa x2 x3 c ac ab)) : EvQC Za6 Zmj [] (Ym3 v8) (Ym2 key b hv aa x2 x3 c ac ab) [2, 3, 5, 6, 7, 8, 38] [0, 1, 2, 3, 4, 5, 6] Z := EvQC.of (by kernel_rfl) h
def ZyK (key b : List Int) (v8 : Int) (hv : List (Tup Zaf)) (aa : List (Tup Zaa)) (x2 x3 c ac : Nat) (ab : List Int) : Prop := ((0 <= (IntKind.i64.wrap (Int.tdiv v8 16)))) /\ ((((IntKind.i64.wrap (Int.tdiv v8 16)) < 11)) /\ (((0 <= (Int.tmod v8 16))) /\ ((((Int.tmod v8 16) < 16)) /\ ((((((0 + ((Int.toNat (IntKind.i64.wrap (Int.tdiv v8 16))) * 16)) * 1) + ((Int.toNat (Int.tmod v8 16)) * 1)) < 176)) /\ (((0 <= (IntKind.i64.wrap (Int.tdiv v8 4)))) /\ ((((IntKind.i64.wrap (Int.tdiv v8 4)) < ((44 : Nat) : Int))) /\ ((((0 + (Int.toNat (IntKind.i64.wrap (Int.tdiv v8 4)))) < 44)) /\ ((((0 + (Int.toNat (IntKind.i64.wrap (Int.tdiv v8 4)))) < 44)) /\ (((0 <= (Int.tmod v8 4))) /\ ((((Int.tmod v8 4) < ((List.length (List.getD aa (0 + (Int.toNat (IntKind.i64.wrap (Int.tdiv v8 4)))) ([] : List Int)) : Nat) : Int))) /\ ((((0 + (Int.toNat (IntKind.i64.wrap (Int.tdiv v8 4)))) < 44)) /\ (((0 <= (Int.tmod v8 4))) /\ ((((Int.tmod v8 4) < ((List.length (List.getD aa (0 + (Int.toNat (IntKind.i64.wrap (Int.tdiv v8 4)))) ([] : List Int)) : Nat) : Int))) /\ (ZAz key b v8 ab aa hv x2 x3 c ac))))))))))))))
theorem ZMM (key b : List Int) (hK : (Ym1 Kf)) (v8 : Int) (hv : List (Tup Zaf)) (aa : List (Tup Zaa)) (x2 x3 c ac : Nat) (ab : List Int) (h : ZyK key b v8 hv aa x2 x3 c ac ab) : SemL Try.prog w0 fp ρi 0 52 [ZxU, ZpL] (Ym3 v8) (Ym2 key b hv aa x2 x3 c ac ab) (ZwA w0 fp ρi Kf key b hv aa x2 x3 c ac ab v8) :=
  Zkl Za4 (its := Zmj) (ZMm key b v8 hv aa x2 x3 c ac ab _ ⟨(by decide), ⟨(by decide), ⟨h.1, ⟨h.2.1, ⟨h.2.2.1, ⟨h.2.2.2.1, ⟨h.2.2.2.2.1, ⟨(by decide), ⟨h.2.2.2.2.2.1, ⟨h.2.2.2.2.2.2.1, ⟨h.2.2.2.2.2.2.2.1, ⟨(by decide), ⟨rfl, ⟨h.2.2.2.2.2.2.2.2.1, ⟨h.2.2.2.2.2.2.2.2.2.1, ⟨h.2.2.2.2.2.2.2.2.2.2.1, ⟨rfl, ⟨h.2.2.2.2.2.2.2.2.2.2.2.1, ⟨h.2.2.2.2.2.2.2.2.2.2.2.2.1, ⟨h.2.2.2.2.2.2.2.2.2.2.2.2.2.1, (ZMN key b hK v8 ab aa hv x2 x3 c ac h.2.2.2.2.2.2.2.2.2.2.2.2.2.2)⟩⟩⟩⟩⟩⟩⟩⟩⟩⟩⟩⟩⟩⟩⟩⟩⟩⟩⟩⟩)
theorem ZML (key b : List Int) (hK : (Ym1 Kf)) (v8 : Int) (hv : List (Tup Zaf)) (aa : List (Tup Zaa)) (x2 x3 c ac : Nat) (ab : List Int) (h : ZyK key b v8 hv aa x2 x3 c ac ab) : SemL Try.prog w0 fp ρi 0 52 [Zmi, Zgj] (Ym3 v8) (Ym2 key b hv aa x2 x3 c ac ab) (ZkL w0 fp ρi Kf key b hv aa x2 x3 c ac ab v8) :=
  Zat (Zah (ZMM key b hK v8 hv aa x2 x3 c ac ab h))
abbrev Ym5 : Env := [(2, some (.ptr ⟨0, 0, 0, 1⟩ 16)), (3, some (.ptr ⟨1, 0, 0, 1⟩ 16)), (5, some (.ptr ⟨4, 0, 0, 1⟩ 2)), (6, some (.ptr ⟨5, 0, 0, 1⟩ 432)), (7, some (.ptr ⟨6, 0, 0, 1⟩ 176))]
theorem ZMl (key b : List Int) (hv : List (Tup Zaf)) (aa : List (Tup Zaa)) (x2 x3 c ac : Nat) (ab : List Int) (Z : Env -> Heap -> Prop) (h : ((SVal.bd 7 (.agg [.ints .u8 16 (ZdO ab b)]))) /\ (((sboxT = sboxT /\ Zhd ab /\ Zaz b)) /\ ((.agg [.ints .u8 16 (ZdO ab b)] : SVal) = .agg [.ints .u8 16 (ZdO ab b)]) /\ (Zby (Ym2 key b hv aa x2 x3 c ac ab) (Ym2 key b hv aa x2 x3 c ac ab) [(0, some ⟨true, [.ints .u8 16 key], 0⟩), (1, some ⟨true, [.ints .u8 16 b], 0⟩), (2, some ⟨true, [.rows Zaf 44 hv, .rows Zaa 0 aa], x2⟩), (3, some ⟨true, [.ints .u8 256 sboxT], x3⟩), (4, some ⟨true, [.one (.slice ⟨2, 0, 0, 1⟩ 44 c), .one (.slice ⟨3, 0, 0, 1⟩ 256 ac)], 0⟩), (5, some ⟨true, [.ints .u8 256 sboxT, .ints .u8 176 ab], 0⟩), (6, some ⟨true, [.ints .u8 176 ab], 0⟩)])) /\ ((SVal.bd 7 (.agg [.ints .u8 16 (ZdO (Zci aa) b)]))) /\ ((((0 + 256) <= 256)) /\ (((44 : Nat) = 44) /\ ((256 : Nat) = 256) /\ ((ZeK aa /\ 44 = 44 /\ 44 <= c) /\ ((List.take 256 sboxT) = sboxT /\ 256 = 256 /\ 256 <= ac) /\ Zaz b)) /\ ((.agg [.ints .u8 16 (ZdO (Zci aa) b)] : SVal) = .agg [.ints .u8 16 (ZdO (Zci aa) b)]) /\ (Zby (Ym2 key b hv aa x2 x3 c ac ab) (Ym2 key b hv aa x2 x3 c ac ab) [(0, some ⟨true, [.ints .u8 16 key], 0⟩), (1, some ⟨true, [.ints .u8 16 b], 0⟩), (2, some ⟨true, [.rows Zaf 44 hv, .rows Zaa 0 aa], x2⟩), (3, some ⟨true, [.ints .u8 256 sboxT], x3⟩), (4, some ⟨true, [.one (.slice ⟨2, 0, 0, 1⟩ 44 c), .one (.slice ⟨3, 0, 0, 1⟩ 256 ac)], 0⟩), (5, some ⟨true, [.ints .u8 256 sboxT, .ints .u8 176 ab], 0⟩), (6, some ⟨true, [.ints .u8 176 ab], 0⟩)])) /\ ((List.length (ZdO ab b) = 16)) /\ ((List.length (ZdO (Zci aa) b) = 16)) /\ ∃ qq : Bool, ((((ZdO ab b) == (ZdO (Zci aa) b)) && true) = true -> (((0 : Int) <= 0)) /\ (((0 : Int) < 11)) /\ (((16 : Nat) <= 176)) /\ ((List.length (List.take 16 ab) = 16)) /\ ((List.length key = 16)) /\ (((List.take 16 ab) == key) && true) = qq) /\ ((((ZdO ab b) == (ZdO (Zci aa) b)) && true) = false -> false = qq) /\ Z [(4, some (.bool qq))] ⟨7, []⟩) : EvQC Za6 Zmh [.agg [.ints .u8 16 (ZdO ab b)], .agg [.ints .u8 16 (ZdO (Zci aa) b)]] Ym5 (Ym2 key b hv aa x2 x3 c ac ab) [4] [] Z := EvQC.of (by kernel_rfl) h
theorem ZHT (key b ab : List Int) (aa : List (Tup Zaa)) : RetC ZaN [(4, some (.bool ((((ZdO ab b) == (ZdO (Zci aa) b)) && true) && (((List.take 16 ab) == key) && true))))] ⟨7, []⟩ (.bool ((((ZdO ab b) == (ZdO (Zci aa) b)) && true) && (((List.take 16 ab) == key) && true))) := RetC.of (fun Z => by kernel_rfl)
def ZAy (key b : List Int) (hv : List (Tup Zaf)) (aa : List (Tup Zaa)) (x2 x3 c ac : Nat) (ab : List Int) : Prop := ((sboxT = sboxT /\ Zhd ab /\ Zaz b)) /\ (((((0 + 256) <= 256)) /\ (((ZeK aa /\ 44 = 44 /\ 44 <= c) /\ ((List.take 256 sboxT) = sboxT /\ 256 = 256 /\ 256 <= ac) /\ Zaz b))) /\ (((List.length (ZdO ab b) = 16)) /\ (((List.length (ZdO (Zci aa) b) = 16)) /\ (((((ZdO ab b) == (ZdO (Zci aa) b)) && true) = true -> (((List.length (List.take 16 ab) = 16)) /\ ((List.length key = 16)))) /\ (((((ZdO ab b) == (ZdO (Zci aa) b)) && true) && (((List.take 16 ab) == key) && true)) = true)))))
theorem ZMK (key b : List Int) (hK : (Ym1 Kf)) (hv : List (Tup Zaf)) (aa : List (Tup Zaa)) (x2 x3 c ac : Nat) (ab : List Int) (h : ZAy key b hv aa x2 x3 c ac ab) : SemL Try.prog w0 fp ρi 0 52 [Zdc, .ret] Ym5 (Ym2 key b hv aa x2 x3 c ac ab) (fnK ZaN 0 Kf) :=
  Zkl Za4 (its := Zmh) (ZMl key b hv aa x2 x3 c ac ab _ ⟨(ZcV (τ := ZcY) (by kernel_rfl)).2, ⟨⟨h.1, ⟨rfl, (ZbZ _)⟩⟩, ⟨(ZcV (τ := ZcY) (by kernel_rfl)).2, ⟨⟨h.2.1.1, ⟨⟨rfl, rfl, h.2.1.2⟩, ⟨rfl, (ZbZ _)⟩⟩⟩, ⟨h.2.2.1, ⟨h.2.2.2.1, ⟨((((ZdO ab b) == (ZdO (Zci aa) b)) && true) && (((List.take 16 ab) == key) && true)), fun hc_qq => ⟨(by decide), ⟨(by decide), ⟨(by decide), ⟨(h.2.2.2.2.1 hc_qq).1, ⟨(h.2.2.2.2.1 hc_qq).2, (qa1 hc_qq)⟩⟩⟩⟩⟩, fun hc_qq => qa2 hc_qq, (Zbv (R := ZaN) (m := 0) (Kf := Kf) (fun _ _ h => h) (ZHT key b ab aa) (Zbg rfl (by kernel_rfl) (cg1 (fun (z1 : Bool) => (.bool z1 : SVal)) h.2.2.2.2.2) hK))⟩⟩⟩⟩⟩⟩⟩)
def ZyJ (key b : List Int) (v8 : Int) (hv : List (Tup Zaf)) (aa : List (Tup Zaa)) (x2 x3 c ac : Nat) (ab : List Int) : Prop := ((decide (v8 < 176)) = true -> (ZyK key b v8 hv aa x2 x3 c ac ab)) /\ ((decide (v8 < 176)) = false -> (ZAy key b hv aa x2 x3 c ac ab))
abbrev Ym6 (x0 : Int) : Env := [(2, some (.ptr ⟨0, 0, 0, 1⟩ 16)), (3, some (.ptr ⟨1, 0, 0, 1⟩ 16)), (5, some (.ptr ⟨4, 0, 0, 1⟩ 2)), (6, some (.ptr ⟨5, 0, 0, 1⟩ 432)), (7, some (.ptr ⟨6, 0, 0, 1⟩ 176)), (8, some (.int .i64 x0)), (18, some (.bool (decide (x0 < 176))))]
theorem ZMJ (key b : List Int) (hK : (Ym1 Kf)) (v8 : Int) (hv : List (Tup Zaf)) (aa : List (Tup Zaa)) (x2 x3 c ac : Nat) (ab : List Int) (h : ZyJ key b v8 hv aa x2 x3 c ac ab) : SemL Try.prog w0 fp ρi 0 52 [ZxR, (.seq Zmi Zgj)] (Ym6 v8) (Ym2 key b hv aa x2 x3 c ac ab) (ZkL w0 fp ρi Kf key b hv aa x2 x3 c ac ab v8) :=
  ZaJ (q := (decide (v8 < 176))) (by kernel_rfl) (fun hq => (ZaI (lpk [2, 3, 5, 6, 7, 8] [0, 1, 2, 3, 4, 5, 6] (Zah (ZML key b hK v8 hv aa x2 x3 c ac ab (h.1 hq)))))) (fun hq => (Zbb (lpk [2, 3, 5, 6, 7] [0, 1, 2, 3, 4, 5, 6] (Zah (ZMK key b hK hv aa x2 x3 c ac ab (h.2 hq))))))
theorem ZMk (key b : List Int) (v8 : Int) (hv : List (Tup Zaf)) (aa : List (Tup Zaa)) (x2 x3 c ac : Nat) (ab : List Int) (Z : Env -> Heap -> Prop) (h : Z (Ym6 v8) (Ym2 key b hv aa x2 x3 c ac ab)) : EvC Za6 ZxS (Ym3 v8) (Ym2 key b hv aa x2 x3 c ac ab) [2, 3, 5, 6, 7, 8, 18] [0, 1, 2, 3, 4, 5, 6] Z := EvC.of (by kernel_rfl) h
theorem ZMI (key b : List Int) (hK : (Ym1 Kf)) (v8 : Int) (hv : List (Tup Zaf)) (aa : List (Tup Zaa)) (x2 x3 c ac : Nat) (ab : List Int) (h : ZyJ key b v8 hv aa x2 x3 c ac ab) : SemL Try.prog w0 fp ρi 0 52 [ZxS, ZxR, (.seq Zmi Zgj)] (Ym3 v8) (Ym2 key b hv aa x2 x3 c ac ab) (ZkL w0 fp ρi Kf key b hv aa x2 x3 c ac ab v8) :=
  Zad Za4 (ZMk key b v8 hv aa x2 x3 c ac ab _ (ZMJ key b hK v8 hv aa x2 x3 c ac ab h))
def ZsU (key b : List Int) (hv : List (Tup Zaf)) (aa : List (Tup Zaa)) (x2 x3 c ac : Nat) (ab : List Int) : Prop := (0 <= (0 : Int) /\ (0 : Int) <= 176) /\ (∀ (v8 : Int), (0 <= v8 /\ v8 <= 176) -> (ZyJ key b v8 hv aa x2 x3 c ac ab))
abbrev Ym7 : Env := [(2, some (.ptr ⟨0, 0, 0, 1⟩ 16)), (3, some (.ptr ⟨1, 0, 0, 1⟩ 16)), (5, some (.ptr ⟨4, 0, 0, 1⟩ 2)), (6, some (.ptr ⟨5, 0, 0, 1⟩ 432)), (7, some (.ptr ⟨6, 0, 0, 1⟩ 176)), (8, some (.int .i64 0))]
theorem ZMH (key b : List Int) (hK : (Ym1 Kf)) (hv : List (Tup Zaf)) (aa : List (Tup Zaa)) (x2 x3 c ac : Nat) (ab : List Int) (h : ZsU key b hv aa x2 x3 c ac ab) : SemL Try.prog w0 fp ρi 0 52 [ZxT] Ym7 (Ym2 key b hv aa x2 x3 c ac ab) (Zz8 w0 fp ρi Kf key b) :=
  Zbd (ZAb key b hv aa x2 x3 c ac ab) (ZzZ key b hv aa x2 x3 c ac ab) (Zz5 key b hv aa x2 x3 c ac ab) (Zz2 key b hv aa x2 x3 c ac ab) ⟨0, tau [], h.1, (Zao [] [0, 1, 2, 3, 4, 5, 6] rfl rfl (esc bpt (esc bpt (esc bpt (esc bpt (esc bpt (esc pbd Zak)))))) (hsc pcs (hsc pcs (hsc pcs (hsc pcs (hsc (Zbz bsl (Zbz bsl ZeF)) (hsc pcs (hsc pcs Zae))))))) (by kernel_rfl) rfl)⟩ (fun s => match s with | v8 => fun hi => (Zah (Zah (ZMI key b hK v8 hv aa x2 x3 c ac ab (h.2 v8 hi)))))
theorem ZMG (key b : List Int) (hK : (Ym1 Kf)) (hv : List (Tup Zaf)) (aa : List (Tup Zaa)) (x2 x3 c ac : Nat) (ab : List Int) (h : ZsU key b hv aa x2 x3 c ac ab) : SemL Try.prog w0 fp ρi 0 52 [Zej, (.seq Zdc .ret)] Ym7 (Ym2 key b hv aa x2 x3 c ac ab) (fnK ZaN 0 Kf) :=
  Zat (ZMH key b hK hv aa x2 x3 c ac ab h)
theorem ZGo (key b : List Int) (hv : List (Tup Zaf)) (aa : List (Tup Zaa)) (x2 x3 c ac : Nat) (ab : List Int) (Z : Env -> Heap -> Prop) (h : Z Ym7 (Ym2 key b hv aa x2 x3 c ac ab)) : EvC Za6 Zg2 Ym5 (Ym2 key b hv aa x2 x3 c ac ab) [2, 3, 5, 6, 7, 8] [0, 1, 2, 3, 4, 5, 6] Z := EvC.of (by kernel_rfl) h
theorem ZI6 (key b : List Int) (hK : (Ym1 Kf)) (hv : List (Tup Zaf)) (aa : List (Tup Zaa)) (x2 x3 c ac : Nat) (ab : List Int) (h : ZsU key b hv aa x2 x3 c ac ab) : SemL Try.prog w0 fp ρi 0 52 [Zg2, Zej, (.seq Zdc .ret)] Ym5 (Ym2 key b hv aa x2 x3 c ac ab) (fnK ZaN 0 Kf) :=
  Zad Za4 (ZGo key b hv aa x2 x3 c ac ab _ (ZMG key b hK hv aa x2 x3 c ac ab h))
abbrev Ym8 : Env := [(2, some (.ptr ⟨0, 0, 0, 1⟩ 16)), (3, some (.ptr ⟨1, 0, 0, 1⟩ 16)), (5, some (.ptr ⟨4, 0, 0, 1⟩ 2)), (6, some (.ptr ⟨5, 0, 0, 1⟩ 432))]
abbrev Ym9 (x0 x1 : List Int) (x2 : List (Tup Zaf)) (x3 : List (Tup Zaa)) (x4 x5 x6 x7 : Nat) (x8 : List Int) : Heap := ⟨6, [(0, some ⟨true, [.ints .u8 16 x0], 0⟩), (1, some ⟨true, [.ints .u8 16 x1], 0⟩), (2, some ⟨true, [.rows Zaf 44 x2, .rows Zaa 0 x3], x4⟩), (3, some ⟨true, [.ints .u8 256 sboxT], x5⟩), (4, some ⟨true, [.one (.slice ⟨2, 0, 0, 1⟩ 44 x6), .one (.slice ⟨3, 0, 0, 1⟩ 256 x7)], 0⟩), (5, some ⟨true, [.ints .u8 256 sboxT, .ints .u8 176 x8], 0⟩)]⟩
theorem ZGn (key b : List Int) (hv : List (Tup Zaf)) (aa : List (Tup Zaa)) (x2 x3 c ac : Nat) (ab : List Int) (Z : Env -> Heap -> Prop) (h : (True) /\ Z Ym5 (Ym2 key b hv aa x2 x3 c ac ab)) : EvC Za6 Zir Ym8 (Ym9 key b hv aa x2 x3 c ac ab) [2, 3, 5, 6, 7] [0, 1, 2, 3, 4, 5, 6] Z := EvC.of (by kernel_rfl) h
theorem ZI5 (key b : List Int) (hK : (Ym1 Kf)) (hv : List (Tup Zaf)) (aa : List (Tup Zaa)) (x2 x3 c ac : Nat) (ab : List Int) (h : ZsU key b hv aa x2 x3 c ac ab) : SemL Try.prog w0 fp ρi 0 52 [Zir, (.seq (.seq Zg2 Zej) (.seq Zdc .ret))] Ym8 (Ym9 key b hv aa x2 x3 c ac ab) (fnK ZaN 0 Kf) :=
  Zad Za4 (ZGn key b hv aa x2 x3 c ac ab _ ⟨True.intro, (Zah (Zah (ZI6 key b hK hv aa x2 x3 c ac ab h)))⟩)
abbrev ZM2 : Env := [(2, some (.ptr ⟨0, 0, 0, 1⟩ 16)), (3, some (.ptr ⟨1, 0, 0, 1⟩ 16)), (5, some (.ptr ⟨4, 0, 0, 1⟩ 2))]
abbrev ZOj (x0 x1 : List Int) (x2 : List (Tup Zaf)) (x3 : List (Tup Zaa)) (x4 x5 x6 x7 : Nat) : Heap := ⟨5, [(0, some ⟨true, [.ints .u8 16 x0], 0⟩), (1, some ⟨true, [.ints .u8 16 x1], 0⟩), (2, some ⟨true, [.rows Zaf 44 x2, .rows Zaa 0 x3], x4⟩), (3, some ⟨true, [.ints .u8 256 sboxT], x5⟩), (4, some ⟨true, [.one (.slice ⟨2, 0, 0, 1⟩ 44 x6), .one (.slice ⟨3, 0, 0, 1⟩ 256 x7)], 0⟩)]⟩
theorem ZGm (key b : List Int) (hv : List (Tup Zaf)) (aa : List (Tup Zaa)) (x2 x3 c ac : Nat) (Z : Env -> Heap -> Prop) (h : ((Zaz key)) /\ Z Ym8 ⟨6, [(0, some ⟨true, [.ints .u8 16 key], 0⟩), (1, some ⟨true, [.ints .u8 16 b], 0⟩), (2, some ⟨true, [.rows Zaf 44 hv, .rows Zaa 0 aa], x2⟩), (3, some ⟨true, [.ints .u8 256 sboxT], x3⟩), (4, some ⟨true, [.one (.slice ⟨2, 0, 0, 1⟩ 44 c), .one (.slice ⟨3, 0, 0, 1⟩ 256 ac)], 0⟩), (5, some ⟨true, [.ints .u8 256 sboxT, .ints .u8 176 (ZfP key)], 0⟩)]⟩) : EvC Za6 ZjY ZM2 (ZOj key b hv aa x2 x3 c ac) [2, 3, 5, 6] [0, 1, 2, 3, 4, 5] Z := EvC.of (by kernel_rfl) h
def Zt6 (key b : List Int) (hv : List (Tup Zaf)) (aa : List (Tup Zaa)) (x2 x3 c ac : Nat) : Prop := ((Zaz key)) /\ (∀ ab : List Int, ab = (ZfP key) -> ZsU key b hv aa x2 x3 c ac ab)
theorem ZI4 (key b : List Int) (hK : (Ym1 Kf)) (hv : List (Tup Zaf)) (aa : List (Tup Zaa)) (x2 x3 c ac : Nat) (h : Zt6 key b hv aa x2 x3 c ac) : SemL Try.prog w0 fp ρi 0 52 [ZjY, (.seq Zir (.seq (.seq Zg2 Zej) (.seq Zdc .ret)))] ZM2 (ZOj key b hv aa x2 x3 c ac) (fnK ZaN 0 Kf) :=
  Zad Za4 (ZGm key b hv aa x2 x3 c ac _ ⟨h.1, (Zah (ZI5 key b hK hv aa x2 x3 c ac (ZfP key) (h.2 (ZfP key) rfl)))⟩)
abbrev ZLI : Env := [(2, some (.ptr ⟨0, 0, 0, 1⟩ 16)), (3, some (.ptr ⟨1, 0, 0, 1⟩ 16))]
abbrev ZEI (x0 x1 : List Int) : Heap := ⟨2, [(0, some ⟨true, [.ints .u8 16 x0], 0⟩), (1, some ⟨true, [.ints .u8 16 x1], 0⟩)]⟩
theorem ZGl (key b : List Int) (Z : Env -> Heap -> Prop) (h : ((Zaz key)) /\ ∀ (c : Nat), 44 <= c -> ∀ (ac : Nat), 256 <= ac -> ∀ (hv : List (Tup Zaf)), List.length hv = 44 -> Z ZM2 ⟨5, [(0, some ⟨true, [.ints .u8 16 key], 0⟩), (1, some ⟨true, [.ints .u8 16 b], 0⟩), (2, some ⟨true, [.rows Zaf 44 hv, .rows Zaa 0 (ZdP key)], (c - 44)⟩), (3, some ⟨true, [.ints .u8 256 sboxT], (ac - 256)⟩), (4, some ⟨true, [.one (.slice ⟨2, 0, 0, 1⟩ 44 c), .one (.slice ⟨3, 0, 0, 1⟩ 256 ac)], 0⟩)]⟩) : EvC Za6 Zk0 ZLI (ZEI key b) [2, 3, 5] [0, 1, 2, 3, 4] Z := EvC.of (by kernel_rfl) h
def Zi8 (key b : List Int) : Prop := ((Zaz key)) /\ (∀ (c : Nat), (44 <= c) -> (∀ (ac : Nat), (256 <= ac) -> (∀ (hv : List (Tup Zaf)), (List.length hv = 44) -> (∀ aa : List (Tup Zaa), aa = (ZdP key) -> ∀ x2 : Nat, x2 = (c - 44) -> ∀ x3 : Nat, x3 = (ac - 256) -> Zt6 key b hv aa x2 x3 c ac))))
theorem ZI3 (key b : List Int) (hK : (Ym1 Kf)) (h : Zi8 key b) : SemL Try.prog w0 fp ρi 0 52 [Zk0, (.seq ZjY (.seq Zir (.seq (.seq Zg2 Zej) (.seq Zdc .ret))))] ZLI (ZEI key b) (fnK ZaN 0 Kf) :=
  Zad Za4 (ZGl key b _ ⟨h.1, (fun c h_c_0 => (fun ac h_c_2_0 => (fun hv h_hv_0 => (Zah (ZI4 key b hK hv (ZdP key) (c - 44) (ac - 256) c ac ((((((h.2 c h_c_0) ac h_c_2_0) hv h_hv_0) (ZdP key) rfl) (c - 44) rfl) (ac - 256) rfl))))))⟩)
abbrev ZOi : Env := [(2, some (.ptr ⟨0, 0, 0, 1⟩ 16)), (3, some (.ptr ⟨1, 0, 0, 1⟩ 16)), (10, some (.bool false))]
theorem ZI2 (key b : List Int) (hK : (Ym1 Kf)) (h : Zi8 key b) : SemL Try.prog w0 fp ρi 0 52 [Zsp, (.seq Zk0 (.seq ZjY (.seq Zir (.seq (.seq Zg2 Zej) (.seq Zdc .ret)))))] ZOi (ZEI key b) (fnK ZaN 0 Kf) :=
  ZaJ (q := false) (by kernel_rfl) (fun hq => Bool.noConfusion hq) (fun _ => (ZaI (lpk [2, 3] [0, 1] (Zah (ZI3 key b hK h)))))
theorem ZGk (key b : List Int) (Z : Env -> Heap -> Prop) (h : (True) /\ Z ZOi (ZEI key b)) : EvC Za6 Zsq ZLI (ZEI key b) [2, 3, 10] [0, 1] Z := EvC.of (by kernel_rfl) h
theorem ZI1 (key b : List Int) (hK : (Ym1 Kf)) (h : Zi8 key b) : SemL Try.prog w0 fp ρi 0 52 [Zsq, Zsp, (.seq Zk0 (.seq ZjY (.seq Zir (.seq (.seq Zg2 Zej) (.seq Zdc .ret)))))] ZLI (ZEI key b) (fnK ZaN 0 Kf) :=
  Zad Za4 (ZGk key b _ ⟨True.intro, (ZI2 key b hK h)⟩)
abbrev ZM1 (x0 x1 : List Int) : Env := [(0, some (.agg [.ints .u8 16 x0])), (1, some (.agg [.ints .u8 16 x1]))]
theorem ZGj (key b : List Int) (Z : Env -> Heap -> Prop) (h : Z ZLI (ZEI key b)) : EvC Za6 ZxV (ZM1 key b) Ym0 [2, 3] [0, 1] Z := EvC.of (by kernel_rfl) h
theorem ZI0 (key b : List Int) (hK : (Ym1 Kf)) (h : Zi8 key b) : SemL Try.prog w0 fp ρi 0 52 [ZxV, (.seq (.seq Zsq Zsp) (.seq Zk0 (.seq ZjY (.seq Zir (.seq (.seq Zg2 Zej) (.seq Zdc .ret))))))] (ZM1 key b) Ym0 (fnK ZaN 0 Kf) :=
  Zad Za4 (ZGj key b _ (Zah (Zah (ZI1 key b hK h))))
theorem ZsT (key b : List Int) (hK : (Ym1 Kf)) (h : Zi8 key b) : SemL Try.prog w0 fp ρi 0 52 [Zk2] (ZM1 key b) Ym0 (fnK ZaN 0 Kf) :=
  (Zah (ZI0 key b hK h))
end
theorem ZoR (key b : List Int) (hpre : (Zaz key /\ Zaz b)) : Zi8 key b := by
  unfold Zi8 Zt6 ZsU ZyJ ZAy ZyK ZAz ZAA ZAB
  obtain ⟨hk, hb⟩ := hpre
  refine ⟨hk, ?_⟩
  intro c hc c2 hc2 hv hl W eW x2 ex2 x3 ex3
  refine ⟨hk, ?_⟩
  intro Q eQ
  have ok : Zhd Q := by rw [eQ]; exact ZlF hk
  have wok : ZeK W := by rw [eW]; exact ZtB key
  have hfl : Zci W = Q := by rw [eW, eQ]; exact ZsR hk
  have t16 : List.take 16 Q = key := by
    rw [eQ]
    have := ZwX hk (r := 0) (by omega)
    simp only [Nat.mul_zero, List.drop_zero] at this
    rw [this]
    have := ZlH hk (r := 0) 0
    simp only [Nat.mul_zero, List.drop_zero, ZdY] at this
    rw [<- this, List.take_of_length_le (by rw [hk.1]; exact Nat.le_refl _)]
  clear eW eQ
  refine ⟨⟨by omega, by omega⟩, ?_⟩
  rintro v8 ⟨i0, i1⟩
  obtain ⟨i, rfl⟩ := Int.eq_ofNat_of_zero_le i0
  refine ⟨fun hlt => ?_, fun hge => ?_⟩
  · have hlt := of_decide_eq_true hlt
    have w1 : IntKind.i64.wrap (((i : Nat) : Int) + 1) = ((i + 1 : Nat) : Int) := by rw [ZdQ]; omega
    have d16 : ((i : Nat) : Int).tdiv 16 = ((i / 16 : Nat) : Int) := by rw [Int.tdiv_eq_ediv_of_nonneg (by omega)]; omega
    have d4 : ((i : Nat) : Int).tdiv 4 = ((i / 4 : Nat) : Int) := by rw [Int.tdiv_eq_ediv_of_nonneg (by omega)]; omega
    have m16 : ((i : Nat) : Int).tmod 16 = ((i % 16 : Nat) : Int) := by rw [Int.tmod_eq_emod_of_nonneg (by omega)]; omega
    have m4 : ((i : Nat) : Int).tmod 4 = ((i % 4 : Nat) : Int) := by rw [Int.tmod_eq_emod_of_nonneg (by omega)]; omega
    have e16 : IntKind.i64.wrap ((i / 16 : Nat) : Int) = ((i / 16 : Nat) : Int) := by rw [ZdQ]; omega
    have e4 : IntKind.i64.wrap ((i / 4 : Nat) : Int) = ((i / 4 : Nat) : Int) := by rw [ZdQ]; omega
    simp only [d16, d4, m16, m4, e16, e4, Int.toNat_natCast, Nat.zero_add, Nat.mul_one]
    have h4 := wok.2 (i / 4) (by omega)
    have e : Q.getD (i / 16 * 16 + i % 16) 0 = (List.getD W (i / 4) ([] : List Int)).getD (i % 4) 0 := by
      rw [show i / 16 * 16 + i % 16 = i by omega, <- hfl]
      unfold Zci
      rw [ZcU (by omega)]
      rfl
    rw [e, w1]
    refine ⟨by omega, by omega, by omega, by omega, by omega, by omega, by omega, by omega, by omega, by omega, by omega, by omega, by omega, by omega, fun h => by simp at h, fun _ => ⟨⟨by omega, by omega⟩, by omega⟩⟩
  · rw [hfl]
    have tb : List.take 256 sboxT = sboxT := List.take_of_length_le (by rw [sbox_byt.2]; exact Nat.le_refl _)
    have eo : Zaz (ZdO Q b) := ZkA _ _ 10
    refine ⟨⟨rfl, ok, hb⟩, ⟨by omega, ⟨wok, rfl, hc⟩, ⟨tb, rfl, hc2⟩, hb⟩, eo.1, eo.1, fun _ => ⟨by rw [t16]; exact hk.1, hk.1⟩, ?_⟩
    rw [t16, beq_self_eq_true, beq_self_eq_true]
    rfl
theorem ZsY : Sound Try.prog 3 (ZeL Zh6) := by
  refine ZaC Zke ?_
  intro args H K h
  obtain ⟨pre, v, hP, hpre, rfl, hK⟩ := ZbD h
  unfold Zh6 at hP
  split at hP
  · obtain ⟨hb, hP⟩ := Zas hP
    simp only [Bool.and_eq_true] at hb
    obtain ⟨h0, h1⟩ := hb
    obtain rfl := Nat.eq_of_beq_eq_true h0
    obtain rfl := Nat.eq_of_beq_eq_true h1
    cases hP
    exact ⟨rfl, fun w0 fp ρi => ZsT _ _ hK (ZoR _ _ hpre)⟩
  · cases hP
end Go.Proofs.Ytfffjdfegnmejaa
