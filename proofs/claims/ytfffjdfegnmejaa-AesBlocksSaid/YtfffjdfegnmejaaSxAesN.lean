/- Part of the proof: SxAesN. -/
import Derived.Test.YtfffjdfegnmejaaSxAesW
import Derived.KernelRfl
set_option linter.unusedVariables false
set_option linter.unusedSimpArgs false
set_option maxRecDepth 20000
namespace Go.Proofs.Ytfffjdfegnmejaa
open Go.Sx
def ZES : ZfW := fun args H => match args, H with
  | [.agg [.ints .u8 key_n key]], ⟨0, []⟩ => bif Nat.beq key_n 16 then some ((Zaz key), fun K => K (.ptr ⟨0, 0, 0, 1⟩ 432) ⟨1, [(0, some ⟨true, [.ints .u8 256 sboxT, .ints .u8 176 (ZfP key)], 0⟩)]⟩) else none
  | _, _ => none
def Zx6 : Con := ⟨9, gS ZES, [], [], []⟩
def Zbl (key : List Int) (Kf : SVal -> Heap -> Prop) : Prop := Kf (.ptr ⟨0, 0, 0, 1⟩ 432) ⟨1, [(0, some ⟨true, [.ints .u8 256 sboxT, .ints .u8 176 (ZfP key)], 0⟩)]⟩
def ZxL : ACode := .reg (.op (some 1) (.box (.tm 0)) (.op (some 2) (.mov (.cn (.nilptr))) .nil))
def Zsg : ACode := .reg (.op (some 9) (.call 26 []) (.op (some 10) (.build [.ints .u8 256 (List.replicate 256 0), .ints .u8 176 (List.replicate 176 0)] [(0, 256, (.tm 9))]) (.op (some 11) (.box (.tm 10)) (.op (some 3) (.mov (.tm 11)) .nil))))
def Zpd : List MStep := [.mk 0 0 (some 12) (.mov (.tm 3)), .mk 1 0 (some 13) (.loadA 16 (.tm 1)), .mk 2 0 (some 14) (.nilCheck (.tm 12)), .mk 3 0 (some 15) (.fieldAddr (.tm 14) 256 176), .mk 4 0 (some 16) (.idxA (.tm 15) (.cn (.int .i64 0)) 11 16), .mk 5 2 none (.storeA 16 (.tm 16) (.tm 13))]
def Zsf : ACode := .regM Zpd
def ZkZ : ACode := .reg (.op (some 4) (.mov (.cn (.int .u8 1))) .nil)
def ZjS : ACode := .reg (.op (some 5) (.mov (.cn (.int .i64 1))) .nil)
def ZxI : ACode := .reg (.op (some 17) (.mov (.tm 5)) (.op (some 18) (.bin .leq (.tm 17) (.cn (.int .i64 10))) .nil))
def ZxH : ACode := .cond (.tm 18) .skip (.exit 0)
def ZxG : ACode := .reg (.op (some 21) (.mov (.tm 3)) (.op (some 22) (.mov (.tm 5)) (.op (some 23) (.bin .sub (.tm 22) (.cn (.int .i64 1))) (.op (some 24) (.nilCheck (.tm 21)) (.op (some 25) (.fieldAddr (.tm 24) 256 176) (.op (some 26) (.idxA (.tm 25) (.tm 23) 11 16) (.op (some 27) (.loadA 16 (.tm 26)) (.op (some 6) (.alloc [.ints .u8 16 (List.replicate 16 0)]) (.op none (.storeA 16 (.tm 6) (.tm 27)) .nil)))))))))
def Zpc : List MStep := [.mk 0 0 (some 28) (.mov (.tm 3)), .mk 1 0 (some 29) (.idxA (.tm 6) (.cn (.int .i64 13)) 16 1), .mk 2 0 (some 30) (.load1 (.tm 29)), .mk 3 0 (some 31) (.nilCheck (.tm 28)), .mk 4 0 (some 32) (.fieldAddr (.tm 31) 0 256), .mk 5 0 (some 33) (.idxA (.tm 32) (.tm 30) 256 1), .mk 6 0 (some 34) (.load1 (.tm 33)), .mk 7 0 (some 35) (.mov (.tm 4)), .mk 8 0 (some 36) (.bin .xor (.tm 34) (.tm 35)), .mk 9 0 (some 37) (.mov (.tm 3)), .mk 10 0 (some 38) (.idxA (.tm 6) (.cn (.int .i64 14)) 16 1), .mk 11 0 (some 39) (.load1 (.tm 38)), .mk 12 0 (some 40) (.nilCheck (.tm 37)), .mk 13 0 (some 41) (.fieldAddr (.tm 40) 0 256), .mk 14 0 (some 42) (.idxA (.tm 41) (.tm 39) 256 1), .mk 15 0 (some 43) (.load1 (.tm 42)), .mk 16 0 (some 44) (.mov (.tm 3)), .mk 17 0 (some 45) (.idxA (.tm 6) (.cn (.int .i64 15)) 16 1), .mk 18 0 (some 46) (.load1 (.tm 45)), .mk 19 0 (some 47) (.nilCheck (.tm 44)), .mk 20 0 (some 48) (.fieldAddr (.tm 47) 0 256), .mk 21 0 (some 49) (.idxA (.tm 48) (.tm 46) 256 1), .mk 22 0 (some 50) (.load1 (.tm 49)), .mk 23 0 (some 51) (.mov (.tm 3)), .mk 24 0 (some 52) (.idxA (.tm 6) (.cn (.int .i64 12)) 16 1), .mk 25 0 (some 53) (.load1 (.tm 52)), .mk 26 0 (some 54) (.nilCheck (.tm 51)), .mk 27 0 (some 55) (.fieldAddr (.tm 54) 0 256), .mk 28 0 (some 56) (.idxA (.tm 55) (.tm 53) 256 1), .mk 29 0 (some 57) (.load1 (.tm 56)), .mk 30 0 (some 58) (.buildI .u8 4 [(0, (.tm 36)), (1, (.tm 43)), (2, (.tm 50)), (3, (.tm 57))]), .mk 31 1 (some 7) (.alloc [.ints .u8 4 (List.replicate 4 0)]), .mk 32 2 none (.storeA 4 (.tm 7) (.tm 58))]
def ZxF : ACode := .regM Zpc
def Zoi : ACode := .reg (.op (some 59) (.mov (.tm 4)) (.op (some 60) (.call 27 [(.tm 59)]) (.op (some 4) (.mov (.tm 60)) .nil)))
def ZhW : ACode := .reg (.op (some 61) (.mov (.cn (.int .i64 0))) .nil)
def Zph : ACode := .reg (.op (some 62) (.bin .lss (.tm 61) (.cn (.int .i64 16))) .nil)
def Zpg : ACode := .cond (.tm 62) .skip (.exit 2)
def Zpf : ACode := .reg (.op (some 63) (.mov (.tm 61)) (.op (some 8) (.mov (.tm 63)) .nil))
def ZlW : List MStep := [.mk 0 0 (some 64) (.mov (.tm 8)), .mk 1 0 (some 65) (.bin .and (.tm 64) (.cn (.int .i64 3))), .mk 2 0 (some 66) (.idxA (.tm 7) (.tm 65) 4 1), .mk 3 0 (some 67) (.load1 (.tm 66)), .mk 4 0 (some 68) (.mov (.tm 8)), .mk 5 0 (some 69) (.idxA (.tm 6) (.tm 68) 16 1), .mk 6 0 (some 70) (.load1 (.tm 69)), .mk 7 0 (some 71) (.bin .xor (.tm 67) (.tm 70)), .mk 8 0 (some 72) (.idxA (.tm 7) (.tm 65) 4 1), .mk 9 2 none (.store1 (.tm 72) (.tm 71))]
def Zpe : ACode := .regM ZlW
def ZlU : List MStep := [.mk 0 0 (some 73) (.mov (.tm 3)), .mk 1 0 (some 74) (.mov (.tm 5)), .mk 2 0 (some 75) (.mov (.tm 8)), .mk 3 0 (some 76) (.mov (.tm 8)), .mk 4 0 (some 77) (.bin .and (.tm 76) (.cn (.int .i64 3))), .mk 5 0 (some 78) (.idxA (.tm 7) (.tm 77) 4 1), .mk 6 0 (some 79) (.load1 (.tm 78)), .mk 7 0 (some 80) (.nilCheck (.tm 73)), .mk 8 0 (some 81) (.fieldAddr (.tm 80) 256 176), .mk 9 0 (some 82) (.idxA (.tm 81) (.tm 74) 11 16), .mk 10 0 (some 83) (.idxA (.tm 82) (.tm 75) 16 1), .mk 11 2 none (.store1 (.tm 83) (.tm 79))]
def ZlV : ACode := .regM ZlU
def ZlT : ACode := .block 3 (.seq Zpf (.seq Zpe ZlV))
def Zgd : ACode := .reg (.op (some 84) (.bin .add (.tm 61) (.cn (.int .i64 1))) (.op (some 61) (.mov (.tm 84)) .nil))
def ZxK : ACode := .loop (.seq Zph (.seq Zpg (.seq ZlT Zgd)))
def ZhV : ACode := .block 2 ZxK
def ZlS : ACode := .block 1 (.seq ZxG (.seq ZxF (.seq Zoi (.seq ZhW ZhV))))
def Zgc : ACode := .reg (.op (some 19) (.mov (.tm 5)) (.op (some 20) (.bin .add (.tm 19) (.cn (.int .i64 1))) (.op (some 5) (.mov (.tm 20)) .nil)))
def ZxJ : ACode := .loop (.seq (.seq ZxI ZxH) (.seq ZlS Zgc))
def Zgb : ACode := .block 0 ZxJ
def ZdM : ACode := .reg (.op (some 85) (.mov (.tm 3)) (.op (some 2) (.mov (.tm 85)) .nil))
def ZLB : ACode := (.seq ZxL (.seq Zsg (.seq Zsf (.seq ZkZ (.seq (.seq ZjS Zgb) (.seq ZdM .ret))))))
def Zh5 : Res := .one (.tm 2)
theorem Ztm : Zbj Try.prog 9 1 86 ZLB Zh5 = true := by kernel_rfl
def ZeO : Zav := Zcl [Zy4, Zjs] []
theorem Zcv : ZaK Try.prog ZeO := ZaL ⟨ZAJ, Zlq, trivial⟩ trivial
section
variable {w0 : World} {fp : Nat -> Nat -> Prop} {ρi : Rho} {Kf : SVal -> Heap -> Prop}
def Zz7 (w0 : World) (fp : Nat -> Nat -> Prop) (ρi : Rho) (Kf : SVal -> Heap -> Prop) (key : List Int) : ZaY := Zax 0 (fun e H => SemL Try.prog w0 fp ρi 0 86 [(.seq ZdM .ret)] e H (fnK Zh5 0 Kf)) (fnK Zh5 0 Kf)
def ZAa (key : List Int) : Int × Int × List Int -> Prop := fun s => match s with | (v4, v5, aa) => 1 <= v5 /\ v5 <= 11 /\ v4 = (ZdY key (v5 - 1).toNat).2 /\ aa.length = 176 /\ List.take (16 * v5.toNat) aa = (ZdY key (v5 - 1).toNat).1
def ZzY (key : List Int) : Int × Int × List Int -> Nat := fun s => match s with | (v4, v5, aa) => ((11 - v5).toNat)
def Zz4 (key : List Int) : Int × Int × List Int -> Env := fun s => match s with | (v4, v5, aa) => [(3, some (.ptr ⟨1, 0, 0, 1⟩ 432)), (4, some (.int .u8 v4)), (5, some (.int .i64 v5))]
def Zz1 (key : List Int) : Int × Int × List Int -> Heap := fun s => match s with | (v4, v5, aa) => ⟨2, [(1, some ⟨true, [.ints .u8 256 sboxT, .ints .u8 176 aa], 0⟩)]⟩
def ZkK (w0 : World) (fp : Nat -> Nat -> Prop) (ρi : Rho) (Kf : SVal -> Heap -> Prop) (key : List Int) (v4 v5 : Int) (aa : List Int) : ZaY := Zb2 0 (ZAa key) (ZzY key) (Zz4 key) (Zz1 key) (v4, v5, aa) (Zz7 w0 fp ρi Kf key)
def ZjC (w0 : World) (fp : Nat -> Nat -> Prop) (ρi : Rho) (Kf : SVal -> Heap -> Prop) (key : List Int) (v4 v5 : Int) (aa : List Int) : ZaY := Zax 1 (fun e H => SemL Try.prog w0 fp ρi 0 86 [Zgc] e H (ZkK w0 fp ρi Kf key v4 v5 aa)) (ZkK w0 fp ρi Kf key v4 v5 aa)
def Zz6 (w0 : World) (fp : Nat -> Nat -> Prop) (ρi : Rho) (Kf : SVal -> Heap -> Prop) (key : List Int) (v4 v5 : Int) (aa : List Int) : ZaY := Zax 2 (fun e H => SemL Try.prog w0 fp ρi 0 86 [] e H (ZjC w0 fp ρi Kf key v4 v5 aa)) (ZjC w0 fp ρi Kf key v4 v5 aa)
def Zz9 (key : List Int) (ac v5 : Int) (h2 : List Int) (v4 : Int) (aa : List Int) : Int × List Int × List Int -> Prop := fun s => match s with | (ad, ab, ae) => 0 <= ad /\ ad <= 16 /\ ab.length = 176 /\ ae = (kGo h2 v4 ad.toNat).1 /\ List.take (16 * v5.toNat + ad.toNat) ab = (ZdY key (v5 - 1).toNat).1 ++ (kGo h2 v4 ad.toNat).2
def ZzX (key : List Int) (ac v5 : Int) (h2 : List Int) (v4 : Int) (aa : List Int) : Int × List Int × List Int -> Nat := fun s => match s with | (ad, ab, ae) => ((16 - ad).toNat)
def Zz3 (key : List Int) (ac v5 : Int) (h2 : List Int) (v4 : Int) (aa : List Int) : Int × List Int × List Int -> Env := fun s => match s with | (ad, ab, ae) => [(3, some (.ptr ⟨1, 0, 0, 1⟩ 432)), (4, some (.int .u8 ac)), (5, some (.int .i64 v5)), (6, some (.ptr ⟨2, 0, 0, 1⟩ 16)), (7, some (.ptr ⟨3, 0, 0, 1⟩ 4)), (61, some (.int .i64 ad))]
def Zz0 (key : List Int) (ac v5 : Int) (h2 : List Int) (v4 : Int) (aa : List Int) : Int × List Int × List Int -> Heap := fun s => match s with | (ad, ab, ae) => ⟨4, [(1, some ⟨true, [.ints .u8 256 sboxT, .ints .u8 176 ab], 0⟩), (2, some ⟨true, [.ints .u8 16 h2], 0⟩), (3, some ⟨true, [.ints .u8 4 ae], 0⟩)]⟩
def ZkJ (w0 : World) (fp : Nat -> Nat -> Prop) (ρi : Rho) (Kf : SVal -> Heap -> Prop) (key : List Int) (ac v5 : Int) (h2 : List Int) (v4 : Int) (aa : List Int) (ad : Int) (ab ae : List Int) : ZaY := Zb2 0 (Zz9 key ac v5 h2 v4 aa) (ZzX key ac v5 h2 v4 aa) (Zz3 key ac v5 h2 v4 aa) (Zz0 key ac v5 h2 v4 aa) (ad, ab, ae) (Zz6 w0 fp ρi Kf key v4 v5 aa)
abbrev Yk0 (x0 x1 x2 : List Int) : Heap := ⟨4, [(1, some ⟨true, [.ints .u8 256 sboxT, .ints .u8 176 x0], 0⟩), (2, some ⟨true, [.ints .u8 16 x1], 0⟩), (3, some ⟨true, [.ints .u8 4 x2], 0⟩)]⟩
abbrev Yk1 (x0 x1 x2 : Int) : Env := [(3, some (.ptr ⟨1, 0, 0, 1⟩ 432)), (4, some (.int .u8 x0)), (5, some (.int .i64 x1)), (6, some (.ptr ⟨2, 0, 0, 1⟩ 16)), (7, some (.ptr ⟨3, 0, 0, 1⟩ 4)), (61, some (.int .i64 x2))]
theorem ZMd (key : List Int) (ac v5 ad : Int) (ag h2 ah : List Int) (v4 : Int) (aa ab ae : List Int) (Z : Env -> Heap -> Prop) (h : Z [(3, some (.ptr ⟨1, 0, 0, 1⟩ 432)), (4, some (.int .u8 ac)), (5, some (.int .i64 v5)), (6, some (.ptr ⟨2, 0, 0, 1⟩ 16)), (7, some (.ptr ⟨3, 0, 0, 1⟩ 4)), (61, some (.int .i64 (IntKind.i64.wrap (ad + 1))))] (Yk0 ag h2 ah)) : EvC ZeO Zgd (Yk1 ac v5 ad) (Yk0 ag h2 ah) [3, 4, 5, 6, 7, 61] [1, 2, 3] Z := EvC.of (by kernel_rfl) h
def ZAv (key : List Int) (ac v5 ad : Int) (ag h2 ah : List Int) (v4 : Int) (aa ab ae : List Int) : Prop := (0 <= (IntKind.i64.wrap (ad + 1)) /\ (IntKind.i64.wrap (ad + 1)) <= 16 /\ ag.length = 176 /\ ah = (kGo h2 v4 (IntKind.i64.wrap (ad + 1)).toNat).1 /\ List.take (16 * v5.toNat + (IntKind.i64.wrap (ad + 1)).toNat) ag = (ZdY key (v5 - 1).toNat).1 ++ (kGo h2 v4 (IntKind.i64.wrap (ad + 1)).toNat).2) /\ (((16 - (IntKind.i64.wrap (ad + 1))).toNat) < ((16 - ad).toNat))
theorem ZMz (key : List Int) (hK : Zbl key Kf) (ac v5 ad : Int) (ag h2 ah : List Int) (v4 : Int) (aa ab ae : List Int) (h : ZAv key ac v5 ad ag h2 ah v4 aa ab ae) : SemL Try.prog w0 fp ρi 0 86 [Zgd] (Yk1 ac v5 ad) (Yk0 ag h2 ah) (ZkJ w0 fp ρi Kf key ac v5 h2 v4 aa ad ab ae) :=
  Zad Zcv (ZMd key ac v5 ad ag h2 ah v4 aa ab ae _ (ZaO (Zay (x' := ((IntKind.i64.wrap (ad + 1)), ag, ah)) (τ := tau []) h.1 h.2 (Zao [] [1, 2, 3] rfl rfl (esc bpt (esc pbd (esc pbd (esc bpt (esc bpt (esc pbd Zak)))))) (hsc pcs (hsc pcs (hsc pcs Zae))) (by kernel_rfl) rfl))))
def Zwr (w0 : World) (fp : Nat -> Nat -> Prop) (ρi : Rho) (Kf : SVal -> Heap -> Prop) (key : List Int) (v4 v5 : Int) (aa : List Int) (ac : Int) (h2 : List Int) (ad : Int) (ab ae : List Int) : ZaY := Zax 3 (fun e H => SemL Try.prog w0 fp ρi 0 86 [Zgd] e H (ZkJ w0 fp ρi Kf key ac v5 h2 v4 aa ad ab ae)) (ZkJ w0 fp ρi Kf key ac v5 h2 v4 aa ad ab ae)
abbrev Yk2 (x0 x1 x2 : Int) : Env := [(3, some (.ptr ⟨1, 0, 0, 1⟩ 432)), (4, some (.int .u8 x0)), (5, some (.int .i64 x1)), (6, some (.ptr ⟨2, 0, 0, 1⟩ 16)), (7, some (.ptr ⟨3, 0, 0, 1⟩ 4)), (8, some (.int .i64 x2)), (61, some (.int .i64 x2))]
theorem ZMc (key : List Int) (ac v5 ad : Int) (ab h2 ah : List Int) (v4 : Int) (aa ae : List Int) (Z : Env -> Heap -> Prop) (h : ((0 <= (ZaR .i64 ad 3))) /\ (((ZaR .i64 ad 3) < 4)) /\ (((0 + ((Int.toNat (ZaR .i64 ad 3)) * 1)) < 4)) /\ ((0 <= v5)) /\ ((v5 < 11)) /\ ((0 <= ad)) /\ ((ad < 16)) /\ (((((0 + ((Int.toNat v5) * 16)) * 1) + ((Int.toNat ad) * 1)) < 176)) /\ (((((0 + ((Int.toNat v5) * 16)) * 1) + ((Int.toNat ad) * 1)) < List.length ab)) /\ Z (Yk1 ac v5 ad) ⟨4, [(1, some ⟨true, [.ints .u8 256 sboxT, .ints .u8 176 (List.set ab (((0 + ((Int.toNat v5) * 16)) * 1) + ((Int.toNat ad) * 1)) (List.getD ah (0 + ((Int.toNat (ZaR .i64 ad 3)) * 1)) 0))], 0⟩), (2, some ⟨true, [.ints .u8 16 h2], 0⟩), (3, some ⟨true, [.ints .u8 4 ah], 0⟩)]⟩) : EvNC ZeO ZlU [[], [], [], [], [], [], [3], [], [], [], [], []] (Yk2 ac v5 ad) (Yk0 ab h2 ah) [3, 4, 5, 6, 7, 61] [1, 2, 3] Z := EvNC.of (by kernel_rfl) h
def ZAu (key : List Int) (ac v5 ad : Int) (ab h2 ah : List Int) (v4 : Int) (aa ae : List Int) : Prop := ((0 <= (ZaR .i64 ad 3))) /\ ((((ZaR .i64 ad 3) < 4)) /\ ((((0 + ((Int.toNat (ZaR .i64 ad 3)) * 1)) < 4)) /\ (((0 <= v5)) /\ (((v5 < 11)) /\ (((0 <= ad)) /\ (((ad < 16)) /\ ((((((0 + ((Int.toNat v5) * 16)) * 1) + ((Int.toNat ad) * 1)) < 176)) /\ ((((((0 + ((Int.toNat v5) * 16)) * 1) + ((Int.toNat ad) * 1)) < List.length ab)) /\ (∀ ag : List Int, ag = (List.set ab (((0 + ((Int.toNat v5) * 16)) * 1) + ((Int.toNat ad) * 1)) (List.getD ah (0 + ((Int.toNat (ZaR .i64 ad 3)) * 1)) 0)) -> ZAv key ac v5 ad ag h2 ah v4 aa ab ae)))))))))
theorem ZMy (key : List Int) (hK : Zbl key Kf) (ac v5 ad : Int) (ab h2 ah : List Int) (v4 : Int) (aa ae : List Int) (h : ZAu key ac v5 ad ab h2 ah v4 aa ae) : SemL Try.prog w0 fp ρi 0 86 [ZlV] (Yk2 ac v5 ad) (Yk0 ab h2 ah) (Zwr w0 fp ρi Kf key v4 v5 aa ac h2 ad ab ae) :=
  Zcf Zcv (steps := ZlU) (ZMc key ac v5 ad ab h2 ah v4 aa ae _ ⟨h.1, ⟨h.2.1, ⟨h.2.2.1, ⟨h.2.2.2.1, ⟨h.2.2.2.2.1, ⟨h.2.2.2.2.2.1, ⟨h.2.2.2.2.2.2.1, ⟨h.2.2.2.2.2.2.2.1, ⟨h.2.2.2.2.2.2.2.2.1, (ZaO (ZMz key hK ac v5 ad (List.set ab (((0 + ((Int.toNat v5) * 16)) * 1) + ((Int.toNat ad) * 1)) (List.getD ah (0 + ((Int.toNat (ZaR .i64 ad 3)) * 1)) 0)) h2 ah v4 aa ab ae (h.2.2.2.2.2.2.2.2.2 (List.set ab (((0 + ((Int.toNat v5) * 16)) * 1) + ((Int.toNat ad) * 1)) (List.getD ah (0 + ((Int.toNat (ZaR .i64 ad 3)) * 1)) 0)) rfl)))⟩⟩⟩⟩⟩⟩⟩⟩⟩)
theorem ZMb (key : List Int) (ac v5 ad : Int) (ab h2 ae : List Int) (v4 : Int) (aa : List Int) (Z : Env -> Heap -> Prop) (h : ((0 <= (ZaR .i64 ad 3))) /\ (((ZaR .i64 ad 3) < 4)) /\ (((0 + ((Int.toNat (ZaR .i64 ad 3)) * 1)) < 4)) /\ ((0 <= ad)) /\ ((ad < 16)) /\ (((0 + ((Int.toNat ad) * 1)) < 16)) /\ ((0 <= (ZaR .i64 ad 3))) /\ (((ZaR .i64 ad 3) < 4)) /\ (((0 + ((Int.toNat (ZaR .i64 ad 3)) * 1)) < 4)) /\ (((0 + ((Int.toNat (ZaR .i64 ad 3)) * 1)) < List.length ae)) /\ Z (Yk2 ac v5 ad) ⟨4, [(1, some ⟨true, [.ints .u8 256 sboxT, .ints .u8 176 ab], 0⟩), (2, some ⟨true, [.ints .u8 16 h2], 0⟩), (3, some ⟨true, [.ints .u8 4 (List.set ae (0 + ((Int.toNat (ZaR .i64 ad 3)) * 1)) (Zar .u8 (List.getD ae (0 + ((Int.toNat (ZaR .i64 ad 3)) * 1)) 0) (List.getD h2 (0 + ((Int.toNat ad) * 1)) 0)))], 0⟩)]⟩) : EvNC ZeO ZlW [[], [], [], [3], [], [], [2], [], [], []] (Yk2 ac v5 ad) (Yk0 ab h2 ae) [3, 4, 5, 6, 7, 8, 61] [1, 2, 3] Z := EvNC.of (by kernel_rfl) h
def ZtF (key : List Int) (ac v5 ad : Int) (ab h2 ae : List Int) (v4 : Int) (aa : List Int) : Prop := ((0 <= (ZaR .i64 ad 3))) /\ ((((ZaR .i64 ad 3) < 4)) /\ ((((0 + ((Int.toNat (ZaR .i64 ad 3)) * 1)) < 4)) /\ (((0 <= ad)) /\ (((ad < 16)) /\ ((((0 + ((Int.toNat ad) * 1)) < 16)) /\ (((0 <= (ZaR .i64 ad 3))) /\ ((((ZaR .i64 ad 3) < 4)) /\ ((((0 + ((Int.toNat (ZaR .i64 ad 3)) * 1)) < 4)) /\ ((((0 + ((Int.toNat (ZaR .i64 ad 3)) * 1)) < List.length ae)) /\ (∀ ah : List Int, ah = (List.set ae (0 + ((Int.toNat (ZaR .i64 ad 3)) * 1)) (Zar .u8 (List.getD ae (0 + ((Int.toNat (ZaR .i64 ad 3)) * 1)) 0) (List.getD h2 (0 + ((Int.toNat ad) * 1)) 0))) -> ZAu key ac v5 ad ab h2 ah v4 aa ae))))))))))
theorem ZMx (key : List Int) (hK : Zbl key Kf) (ac v5 ad : Int) (ab h2 ae : List Int) (v4 : Int) (aa : List Int) (h : ZtF key ac v5 ad ab h2 ae v4 aa) : SemL Try.prog w0 fp ρi 0 86 [Zpe, ZlV] (Yk2 ac v5 ad) (Yk0 ab h2 ae) (Zwr w0 fp ρi Kf key v4 v5 aa ac h2 ad ab ae) :=
  Zcf Zcv (steps := ZlW) (ZMb key ac v5 ad ab h2 ae v4 aa _ ⟨h.1, ⟨h.2.1, ⟨h.2.2.1, ⟨h.2.2.2.1, ⟨h.2.2.2.2.1, ⟨h.2.2.2.2.2.1, ⟨h.2.2.2.2.2.2.1, ⟨h.2.2.2.2.2.2.2.1, ⟨h.2.2.2.2.2.2.2.2.1, ⟨h.2.2.2.2.2.2.2.2.2.1, (ZMy key hK ac v5 ad ab h2 (List.set ae (0 + ((Int.toNat (ZaR .i64 ad 3)) * 1)) (Zar .u8 (List.getD ae (0 + ((Int.toNat (ZaR .i64 ad 3)) * 1)) 0) (List.getD h2 (0 + ((Int.toNat ad) * 1)) 0))) v4 aa ae (h.2.2.2.2.2.2.2.2.2.2 (List.set ae (0 + ((Int.toNat (ZaR .i64 ad 3)) * 1)) (Zar .u8 (List.getD ae (0 + ((Int.toNat (ZaR .i64 ad 3)) * 1)) 0) (List.getD h2 (0 + ((Int.toNat ad) * 1)) 0))) rfl))⟩⟩⟩⟩⟩⟩⟩⟩⟩⟩)
theorem ZMa (key : List Int) (ac v5 ad : Int) (ab h2 ae : List Int) (v4 : Int) (aa : List Int) (Z : Env -> Heap -> Prop) (h : Z (Yk2 ac v5 ad) (Yk0 ab h2 ae)) : EvC ZeO Zpf (Yk1 ac v5 ad) (Yk0 ab h2 ae) [3, 4, 5, 6, 7, 8, 61] [1, 2, 3] Z := EvC.of (by kernel_rfl) h
theorem ZMw (key : List Int) (hK : Zbl key Kf) (ac v5 ad : Int) (ab h2 ae : List Int) (v4 : Int) (aa : List Int) (h : ZtF key ac v5 ad ab h2 ae v4 aa) : SemL Try.prog w0 fp ρi 0 86 [Zpf, (.seq Zpe ZlV)] (Yk1 ac v5 ad) (Yk0 ab h2 ae) (Zwr w0 fp ρi Kf key v4 v5 aa ac h2 ad ab ae) :=
  Zad Zcv (ZMa key ac v5 ad ab h2 ae v4 aa _ (Zah (ZMx key hK ac v5 ad ab h2 ae v4 aa h)))
theorem ZMv (key : List Int) (hK : Zbl key Kf) (ac v5 ad : Int) (ab h2 ae : List Int) (v4 : Int) (aa : List Int) (h : ZtF key ac v5 ad ab h2 ae v4 aa) : SemL Try.prog w0 fp ρi 0 86 [ZlT, Zgd] (Yk1 ac v5 ad) (Yk0 ab h2 ae) (ZkJ w0 fp ρi Kf key ac v5 h2 v4 aa ad ab ae) :=
  Zat (Zah (ZMw key hK ac v5 ad ab h2 ae v4 aa h))
abbrev Yk3 (x0 : List Int) : Heap := ⟨4, [(1, some ⟨true, [.ints .u8 256 sboxT, .ints .u8 176 x0], 0⟩)]⟩
abbrev Yk4 (x0 x1 : Int) : Env := [(3, some (.ptr ⟨1, 0, 0, 1⟩ 432)), (4, some (.int .u8 x0)), (5, some (.int .i64 x1))]
theorem ZL9 (key : List Int) (ac v5 : Int) (ab : List Int) (v4 : Int) (aa : List Int) (Z : Env -> Heap -> Prop) (h : Z [(3, some (.ptr ⟨1, 0, 0, 1⟩ 432)), (4, some (.int .u8 ac)), (5, some (.int .i64 (IntKind.i64.wrap (v5 + 1))))] (Yk3 ab)) : EvC ZeO Zgc (Yk4 ac v5) (Yk3 ab) [3, 4, 5] [1] Z := EvC.of (by kernel_rfl) h
def ZAt (key : List Int) (ac v5 : Int) (ab : List Int) (v4 : Int) (aa : List Int) : Prop := (1 <= (IntKind.i64.wrap (v5 + 1)) /\ (IntKind.i64.wrap (v5 + 1)) <= 11 /\ ac = (ZdY key ((IntKind.i64.wrap (v5 + 1)) - 1).toNat).2 /\ ab.length = 176 /\ List.take (16 * (IntKind.i64.wrap (v5 + 1)).toNat) ab = (ZdY key ((IntKind.i64.wrap (v5 + 1)) - 1).toNat).1) /\ (((11 - (IntKind.i64.wrap (v5 + 1))).toNat) < ((11 - v5).toNat))
theorem ZMu (key : List Int) (hK : Zbl key Kf) (ac v5 : Int) (ab : List Int) (v4 : Int) (aa : List Int) (h : ZAt key ac v5 ab v4 aa) : SemL Try.prog w0 fp ρi 0 86 [Zgc] (Yk4 ac v5) (Yk3 ab) (ZkK w0 fp ρi Kf key v4 v5 aa) :=
  Zad Zcv (ZL9 key ac v5 ab v4 aa _ (ZaO (Zay (x' := (ac, (IntKind.i64.wrap (v5 + 1)), ab)) (τ := tau []) h.1 h.2 (Zao [] [1] rfl rfl (esc bpt (esc pbd (esc pbd Zak))) (hsc pcs Zae) (by kernel_rfl) rfl))))
def ZyI (key : List Int) (ac v5 ad : Int) (ab h2 ae : List Int) (v4 : Int) (aa : List Int) : Prop := ((decide (ad < 16)) = true -> (ZtF key ac v5 ad ab h2 ae v4 aa)) /\ ((decide (ad < 16)) = false -> (ZAt key ac v5 ab v4 aa))
abbrev Yk5 (x0 x1 x2 : Int) : Env := [(3, some (.ptr ⟨1, 0, 0, 1⟩ 432)), (4, some (.int .u8 x0)), (5, some (.int .i64 x1)), (6, some (.ptr ⟨2, 0, 0, 1⟩ 16)), (7, some (.ptr ⟨3, 0, 0, 1⟩ 4)), (61, some (.int .i64 x2)), (62, some (.bool (decide (x2 < 16))))]
theorem ZMt (key : List Int) (hK : Zbl key Kf) (ac v5 ad : Int) (ab h2 ae : List Int) (v4 : Int) (aa : List Int) (h : ZyI key ac v5 ad ab h2 ae v4 aa) : SemL Try.prog w0 fp ρi 0 86 [Zpg, (.seq ZlT Zgd)] (Yk5 ac v5 ad) (Yk0 ab h2 ae) (ZkJ w0 fp ρi Kf key ac v5 h2 v4 aa ad ab ae) :=
  ZaJ (q := (decide (ad < 16))) (by kernel_rfl) (fun hq => (ZaI (lpk [3, 4, 5, 6, 7, 61] [1, 2, 3] (Zah (ZMv key hK ac v5 ad ab h2 ae v4 aa (h.1 hq)))))) (fun hq => (Zbb (lpk [3, 4, 5] [1] (ZaO (P := Try.prog) (w0 := w0) (fp := fp) (ρi := ρi) (n0 := 0) (nt := 86) (ZMu key hK ac v5 ab v4 aa (h.2 hq))))))
theorem ZL8 (key : List Int) (ac v5 ad : Int) (ab h2 ae : List Int) (v4 : Int) (aa : List Int) (Z : Env -> Heap -> Prop) (h : Z (Yk5 ac v5 ad) (Yk0 ab h2 ae)) : EvC ZeO Zph (Yk1 ac v5 ad) (Yk0 ab h2 ae) [3, 4, 5, 6, 7, 61, 62] [1, 2, 3] Z := EvC.of (by kernel_rfl) h
theorem ZMs (key : List Int) (hK : Zbl key Kf) (ac v5 ad : Int) (ab h2 ae : List Int) (v4 : Int) (aa : List Int) (h : ZyI key ac v5 ad ab h2 ae v4 aa) : SemL Try.prog w0 fp ρi 0 86 [Zph, (.seq Zpg (.seq ZlT Zgd))] (Yk1 ac v5 ad) (Yk0 ab h2 ae) (ZkJ w0 fp ρi Kf key ac v5 h2 v4 aa ad ab ae) :=
  Zad Zcv (ZL8 key ac v5 ad ab h2 ae v4 aa _ (Zah (ZMt key hK ac v5 ad ab h2 ae v4 aa h)))
def ZtE (key : List Int) (ac v5 : Int) (aa h2 h3 : List Int) (v4 : Int) : Prop := (0 <= (0 : Int) /\ (0 : Int) <= 16 /\ aa.length = 176 /\ h3 = (kGo h2 v4 (0 : Int).toNat).1 /\ List.take (16 * v5.toNat + (0 : Int).toNat) aa = (ZdY key (v5 - 1).toNat).1 ++ (kGo h2 v4 (0 : Int).toNat).2) /\ (∀ (ad : Int) (ab ae : List Int), (0 <= ad /\ ad <= 16 /\ ab.length = 176 /\ ae = (kGo h2 v4 ad.toNat).1 /\ List.take (16 * v5.toNat + ad.toNat) ab = (ZdY key (v5 - 1).toNat).1 ++ (kGo h2 v4 ad.toNat).2) -> (ZyI key ac v5 ad ab h2 ae v4 aa))
abbrev Yk6 (x0 x1 : Int) : Env := [(3, some (.ptr ⟨1, 0, 0, 1⟩ 432)), (4, some (.int .u8 x0)), (5, some (.int .i64 x1)), (6, some (.ptr ⟨2, 0, 0, 1⟩ 16)), (7, some (.ptr ⟨3, 0, 0, 1⟩ 4)), (61, some (.int .i64 0))]
theorem ZMr (key : List Int) (hK : Zbl key Kf) (ac v5 : Int) (aa h2 h3 : List Int) (v4 : Int) (h : ZtE key ac v5 aa h2 h3 v4) : SemL Try.prog w0 fp ρi 0 86 [ZxK] (Yk6 ac v5) (Yk0 aa h2 h3) (Zz6 w0 fp ρi Kf key v4 v5 aa) :=
  Zbd (Zz9 key ac v5 h2 v4 aa) (ZzX key ac v5 h2 v4 aa) (Zz3 key ac v5 h2 v4 aa) (Zz0 key ac v5 h2 v4 aa) ⟨(0, aa, h3), tau [], h.1, (Zao [] [1, 2, 3] rfl rfl (esc bpt (esc pbd (esc pbd (esc bpt (esc bpt (esc pbd Zak)))))) (hsc pcs (hsc pcs (hsc pcs Zae))) (by kernel_rfl) rfl)⟩ (fun s => match s with | (ad, ab, ae) => fun hi => (Zah (ZMs key hK ac v5 ad ab h2 ae v4 aa (h.2 ad ab ae hi))))
theorem ZMq (key : List Int) (hK : Zbl key Kf) (ac v5 : Int) (aa h2 h3 : List Int) (v4 : Int) (h : ZtE key ac v5 aa h2 h3 v4) : SemL Try.prog w0 fp ρi 0 86 [ZhV] (Yk6 ac v5) (Yk0 aa h2 h3) (ZjC w0 fp ρi Kf key v4 v5 aa) :=
  Zat (ZMr key hK ac v5 aa h2 h3 v4 h)
abbrev Yk7 (x0 x1 : Int) : Env := [(3, some (.ptr ⟨1, 0, 0, 1⟩ 432)), (4, some (.int .u8 x0)), (5, some (.int .i64 x1)), (6, some (.ptr ⟨2, 0, 0, 1⟩ 16)), (7, some (.ptr ⟨3, 0, 0, 1⟩ 4))]
theorem ZFK (key : List Int) (ac v5 : Int) (aa h2 h3 : List Int) (v4 : Int) (Z : Env -> Heap -> Prop) (h : Z (Yk6 ac v5) (Yk0 aa h2 h3)) : EvC ZeO ZhW (Yk7 ac v5) (Yk0 aa h2 h3) [3, 4, 5, 6, 7, 61] [1, 2, 3] Z := EvC.of (by kernel_rfl) h
theorem ZIc (key : List Int) (hK : Zbl key Kf) (ac v5 : Int) (aa h2 h3 : List Int) (v4 : Int) (h : ZtE key ac v5 aa h2 h3 v4) : SemL Try.prog w0 fp ρi 0 86 [ZhW, ZhV] (Yk7 ac v5) (Yk0 aa h2 h3) (ZjC w0 fp ρi Kf key v4 v5 aa) :=
  Zad Zcv (ZFK key ac v5 aa h2 h3 v4 _ (ZMq key hK ac v5 aa h2 h3 v4 h))
theorem ZFJ (key : List Int) (v4 v5 : Int) (aa h2 h3 : List Int) (Z : Env -> Heap -> Prop) (h : ((0 <= v4 /\ v4 < 256)) /\ Z [(3, some (.ptr ⟨1, 0, 0, 1⟩ 432)), (4, some (.int .u8 (dbl v4))), (5, some (.int .i64 v5)), (6, some (.ptr ⟨2, 0, 0, 1⟩ 16)), (7, some (.ptr ⟨3, 0, 0, 1⟩ 4))] (Yk0 aa h2 h3)) : EvC ZeO Zoi (Yk7 v4 v5) (Yk0 aa h2 h3) [3, 4, 5, 6, 7] [1, 2, 3] Z := EvC.of (by kernel_rfl) h
def ZtI (key : List Int) (v4 v5 : Int) (aa h2 h3 : List Int) : Prop := ((0 <= v4 /\ v4 < 256)) /\ (∀ ac : Int, ac = (dbl v4) -> ZtE key ac v5 aa h2 h3 v4)
theorem ZIb (key : List Int) (hK : Zbl key Kf) (v4 v5 : Int) (aa h2 h3 : List Int) (h : ZtI key v4 v5 aa h2 h3) : SemL Try.prog w0 fp ρi 0 86 [Zoi, (.seq ZhW ZhV)] (Yk7 v4 v5) (Yk0 aa h2 h3) (ZjC w0 fp ρi Kf key v4 v5 aa) :=
  Zad Zcv (ZFJ key v4 v5 aa h2 h3 _ ⟨h.1, (Zah (ZIc key hK (dbl v4) v5 aa h2 h3 v4 (h.2 (dbl v4) rfl)))⟩)
abbrev Yk8 (x0 x1 : List Int) : Heap := ⟨3, [(1, some ⟨true, [.ints .u8 256 sboxT, .ints .u8 176 x0], 0⟩), (2, some ⟨true, [.ints .u8 16 x1], 0⟩)]⟩
abbrev Yk9 (x0 x1 : Int) : Env := [(3, some (.ptr ⟨1, 0, 0, 1⟩ 432)), (4, some (.int .u8 x0)), (5, some (.int .i64 x1)), (6, some (.ptr ⟨2, 0, 0, 1⟩ 16))]
theorem ZFI (key : List Int) (v4 v5 : Int) (aa h2 : List Int) (Z : Env -> Heap -> Prop) (h : (((0 : Int) <= 13)) /\ (((13 : Int) < 16)) /\ (((13 : Nat) < 16)) /\ ((0 <= (List.getD h2 13 0))) /\ (((List.getD h2 13 0) < 256)) /\ (((0 + ((Int.toNat (List.getD h2 13 0)) * 1)) < 256)) /\ (((0 : Int) <= 14)) /\ (((14 : Int) < 16)) /\ (((14 : Nat) < 16)) /\ ((0 <= (List.getD h2 14 0))) /\ (((List.getD h2 14 0) < 256)) /\ (((0 + ((Int.toNat (List.getD h2 14 0)) * 1)) < 256)) /\ (((0 : Int) <= 15)) /\ (((15 : Int) < 16)) /\ (((15 : Nat) < 16)) /\ ((0 <= (List.getD h2 15 0))) /\ (((List.getD h2 15 0) < 256)) /\ (((0 + ((Int.toNat (List.getD h2 15 0)) * 1)) < 256)) /\ (((0 : Int) <= 12)) /\ (((12 : Int) < 16)) /\ (((12 : Nat) < 16)) /\ ((0 <= (List.getD h2 12 0))) /\ (((List.getD h2 12 0) < 256)) /\ (((0 + ((Int.toNat (List.getD h2 12 0)) * 1)) < 256)) /\ ((Zby ⟨4, [(1, some ⟨true, [.ints .u8 256 sboxT, .ints .u8 176 aa], 0⟩), (2, some ⟨true, [.ints .u8 16 h2], 0⟩), (3, some ⟨true, [.ints .u8 4 (List.replicate 4 0)], 0⟩)]⟩ (Heap.keep (Yk8 aa h2) [1, 2]) (ZbG [1, 2] (Yk8 aa h2)))) /\ Z (Yk7 v4 v5) ⟨4, [(1, some ⟨true, [.ints .u8 256 sboxT, .ints .u8 176 aa], 0⟩), (2, some ⟨true, [.ints .u8 16 h2], 0⟩), (3, some ⟨true, [.ints .u8 4 [(Zar .u8 (List.getD sboxT (0 + ((Int.toNat (List.getD h2 13 0)) * 1)) 0) v4), (List.getD sboxT (0 + ((Int.toNat (List.getD h2 14 0)) * 1)) 0), (List.getD sboxT (0 + ((Int.toNat (List.getD h2 15 0)) * 1)) 0), (List.getD sboxT (0 + ((Int.toNat (List.getD h2 12 0)) * 1)) 0)]], 0⟩)]⟩) : EvNC ZeO Zpc [[], [], [2], [], [], [], [1], [], [], [], [], [], [], [], [], [], [], [], [], [], [], [], [], [], [], [], [], [], [], [], [], [], []] (Yk9 v4 v5) (Yk8 aa h2) [3, 4, 5, 6, 7] [1, 2, 3] Z := EvNC.of (by kernel_rfl) h
def ZtH (key : List Int) (v4 v5 : Int) (aa h2 : List Int) : Prop := ((0 <= (List.getD h2 13 0))) /\ ((((List.getD h2 13 0) < 256)) /\ ((((0 + ((Int.toNat (List.getD h2 13 0)) * 1)) < 256)) /\ (((0 <= (List.getD h2 14 0))) /\ ((((List.getD h2 14 0) < 256)) /\ ((((0 + ((Int.toNat (List.getD h2 14 0)) * 1)) < 256)) /\ (((0 <= (List.getD h2 15 0))) /\ ((((List.getD h2 15 0) < 256)) /\ ((((0 + ((Int.toNat (List.getD h2 15 0)) * 1)) < 256)) /\ (((0 <= (List.getD h2 12 0))) /\ ((((List.getD h2 12 0) < 256)) /\ ((((0 + ((Int.toNat (List.getD h2 12 0)) * 1)) < 256)) /\ (∀ h3 : List Int, h3 = [(Zar .u8 (List.getD sboxT (0 + ((Int.toNat (List.getD h2 13 0)) * 1)) 0) v4), (List.getD sboxT (0 + ((Int.toNat (List.getD h2 14 0)) * 1)) 0), (List.getD sboxT (0 + ((Int.toNat (List.getD h2 15 0)) * 1)) 0), (List.getD sboxT (0 + ((Int.toNat (List.getD h2 12 0)) * 1)) 0)] -> ZtI key v4 v5 aa h2 h3))))))))))))
theorem ZIa (key : List Int) (hK : Zbl key Kf) (v4 v5 : Int) (aa h2 : List Int) (h : ZtH key v4 v5 aa h2) : SemL Try.prog w0 fp ρi 0 86 [ZxF, (.seq Zoi (.seq ZhW ZhV))] (Yk9 v4 v5) (Yk8 aa h2) (ZjC w0 fp ρi Kf key v4 v5 aa) :=
  Zcf Zcv (steps := Zpc) (ZFI key v4 v5 aa h2 _ ⟨(by decide), ⟨(by decide), ⟨(by decide), ⟨h.1, ⟨h.2.1, ⟨h.2.2.1, ⟨(by decide), ⟨(by decide), ⟨(by decide), ⟨h.2.2.2.1, ⟨h.2.2.2.2.1, ⟨h.2.2.2.2.2.1, ⟨(by decide), ⟨(by decide), ⟨(by decide), ⟨h.2.2.2.2.2.2.1, ⟨h.2.2.2.2.2.2.2.1, ⟨h.2.2.2.2.2.2.2.2.1, ⟨(by decide), ⟨(by decide), ⟨(by decide), ⟨h.2.2.2.2.2.2.2.2.2.1, ⟨h.2.2.2.2.2.2.2.2.2.2.1, ⟨h.2.2.2.2.2.2.2.2.2.2.2.1, ⟨(Zb0 (by kernel_rfl)), (Zah (ZIb key hK v4 v5 aa h2 [(Zar .u8 (List.getD sboxT (0 + ((Int.toNat (List.getD h2 13 0)) * 1)) 0) v4), (List.getD sboxT (0 + ((Int.toNat (List.getD h2 14 0)) * 1)) 0), (List.getD sboxT (0 + ((Int.toNat (List.getD h2 15 0)) * 1)) 0), (List.getD sboxT (0 + ((Int.toNat (List.getD h2 12 0)) * 1)) 0)] (h.2.2.2.2.2.2.2.2.2.2.2.2 [(Zar .u8 (List.getD sboxT (0 + ((Int.toNat (List.getD h2 13 0)) * 1)) 0) v4), (List.getD sboxT (0 + ((Int.toNat (List.getD h2 14 0)) * 1)) 0), (List.getD sboxT (0 + ((Int.toNat (List.getD h2 15 0)) * 1)) 0), (List.getD sboxT (0 + ((Int.toNat (List.getD h2 12 0)) * 1)) 0)] rfl)))⟩⟩⟩⟩⟩⟩⟩⟩⟩⟩⟩⟩⟩⟩⟩⟩⟩⟩⟩⟩⟩⟩⟩⟩⟩)
abbrev Zk6 (x0 : List Int) : Heap := ⟨2, [(1, some ⟨true, [.ints .u8 256 sboxT, .ints .u8 176 x0], 0⟩)]⟩
theorem ZFH (key : List Int) (v4 v5 : Int) (aa : List Int) (Z : Env -> Heap -> Prop) (h : ((0 <= (IntKind.i64.wrap (v5 - 1)))) /\ (((IntKind.i64.wrap (v5 - 1)) < 11)) /\ ((((0 + ((Int.toNat (IntKind.i64.wrap (v5 - 1))) * 16)) + 16) <= 176)) /\ Z (Yk9 v4 v5) ⟨3, [(1, some ⟨true, [.ints .u8 256 sboxT, .ints .u8 176 aa], 0⟩), (2, some ⟨true, [.ints .u8 16 (List.take 16 (List.drop (0 + ((Int.toNat (IntKind.i64.wrap (v5 - 1))) * 16)) aa))], 0⟩)]⟩) : EvC ZeO ZxG (Yk4 v4 v5) (Zk6 aa) [3, 4, 5, 6] [1, 2] Z := EvC.of (by kernel_rfl) h
def Zra (key : List Int) (v4 v5 : Int) (aa : List Int) : Prop := ((0 <= (IntKind.i64.wrap (v5 - 1)))) /\ ((((IntKind.i64.wrap (v5 - 1)) < 11)) /\ (((((0 + ((Int.toNat (IntKind.i64.wrap (v5 - 1))) * 16)) + 16) <= 176)) /\ (∀ h2 : List Int, h2 = (List.take 16 (List.drop (0 + ((Int.toNat (IntKind.i64.wrap (v5 - 1))) * 16)) aa)) -> ZtH key v4 v5 aa h2)))
theorem ZH9 (key : List Int) (hK : Zbl key Kf) (v4 v5 : Int) (aa : List Int) (h : Zra key v4 v5 aa) : SemL Try.prog w0 fp ρi 0 86 [ZxG, (.seq ZxF (.seq Zoi (.seq ZhW ZhV)))] (Yk4 v4 v5) (Zk6 aa) (ZjC w0 fp ρi Kf key v4 v5 aa) :=
  Zad Zcv (ZFH key v4 v5 aa _ ⟨h.1, ⟨h.2.1, ⟨h.2.2.1, (Zah (ZIa key hK v4 v5 aa (List.take 16 (List.drop (0 + ((Int.toNat (IntKind.i64.wrap (v5 - 1))) * 16)) aa)) (h.2.2.2 (List.take 16 (List.drop (0 + ((Int.toNat (IntKind.i64.wrap (v5 - 1))) * 16)) aa)) rfl)))⟩⟩⟩)
theorem ZH8 (key : List Int) (hK : Zbl key Kf) (v4 v5 : Int) (aa : List Int) (h : Zra key v4 v5 aa) : SemL Try.prog w0 fp ρi 0 86 [ZlS, Zgc] (Yk4 v4 v5) (Zk6 aa) (ZkK w0 fp ρi Kf key v4 v5 aa) :=
  Zat (Zah (ZH9 key hK v4 v5 aa h))
abbrev ZLJ : Env := [(3, some (.ptr ⟨1, 0, 0, 1⟩ 432))]
theorem ZFG (key aa : List Int) (Z : Env -> Heap -> Prop) (h : Z [(2, some (.ptr ⟨1, 0, 0, 1⟩ 432))] (Zk6 aa)) : EvC ZeO ZdM ZLJ (Zk6 aa) [2] [1] Z := EvC.of (by kernel_rfl) h
theorem ZHQ (key aa : List Int) : RetC Zh5 [(2, some (.ptr ⟨1, 0, 0, 1⟩ 432))] (Zk6 aa) (.ptr ⟨1, 0, 0, 1⟩ 432) := RetC.of (fun Z => by kernel_rfl)
def ZtG (key aa : List Int) : Prop := aa = (ZfP key)
theorem ZH7 (key : List Int) (hK : Zbl key Kf) (aa : List Int) (h : ZtG key aa) : SemL Try.prog w0 fp ρi 0 86 [ZdM, .ret] ZLJ (Zk6 aa) (fnK Zh5 0 Kf) :=
  Zad Zcv (ZFG key aa _ (Zbv (R := Zh5) (m := 0) (Kf := Kf) (fun _ _ h => h) (ZHQ key aa) (Zb4 (Eq.mpr (cg1 (fun (z1 : List Int) => Zkj 0 Kf (.ptr ⟨1, 0, 0, 1⟩ 432) (Zk6 z1)) h) (Zbm [(0, 1)] [0] rfl (by kernel_rfl) rfl bpt (hsc pcs Zae) rfl (by kernel_rfl) (hK))))))
def Zq9 (key : List Int) (v4 v5 : Int) (aa : List Int) : Prop := ((decide (v5 <= 10)) = true -> (Zra key v4 v5 aa)) /\ ((decide (v5 <= 10)) = false -> (ZtG key aa))
abbrev ZOk (x0 x1 : Int) : Env := [(3, some (.ptr ⟨1, 0, 0, 1⟩ 432)), (4, some (.int .u8 x0)), (5, some (.int .i64 x1)), (18, some (.bool (decide (x1 <= 10))))]
theorem ZH6 (key : List Int) (hK : Zbl key Kf) (v4 v5 : Int) (aa : List Int) (h : Zq9 key v4 v5 aa) : SemL Try.prog w0 fp ρi 0 86 [ZxH, (.seq ZlS Zgc)] (ZOk v4 v5) (Zk6 aa) (ZkK w0 fp ρi Kf key v4 v5 aa) :=
  ZaJ (q := (decide (v5 <= 10))) (by kernel_rfl) (fun hq => (ZaI (lpk [3, 4, 5] [1] (Zah (ZH8 key hK v4 v5 aa (h.1 hq)))))) (fun hq => (Zbb (lpk [3] [1] (Zah (ZH7 key hK aa (h.2 hq))))))
theorem ZFF (key : List Int) (v4 v5 : Int) (aa : List Int) (Z : Env -> Heap -> Prop) (h : Z (ZOk v4 v5) (Zk6 aa)) : EvC ZeO ZxI (Yk4 v4 v5) (Zk6 aa) [3, 4, 5, 18] [1] Z := EvC.of (by kernel_rfl) h
theorem ZH5 (key : List Int) (hK : Zbl key Kf) (v4 v5 : Int) (aa : List Int) (h : Zq9 key v4 v5 aa) : SemL Try.prog w0 fp ρi 0 86 [ZxI, ZxH, (.seq ZlS Zgc)] (Yk4 v4 v5) (Zk6 aa) (ZkK w0 fp ρi Kf key v4 v5 aa) :=
  Zad Zcv (ZFF key v4 v5 aa _ (ZH6 key hK v4 v5 aa h))
def Zkt (key af : List Int) : Prop := (1 <= (1 : Int) /\ (1 : Int) <= 11 /\ (1 : Int) = (ZdY key ((1 : Int) - 1).toNat).2 /\ af.length = 176 /\ List.take (16 * (1 : Int).toNat) af = (ZdY key ((1 : Int) - 1).toNat).1) /\ (∀ (v4 v5 : Int) (aa : List Int), (1 <= v5 /\ v5 <= 11 /\ v4 = (ZdY key (v5 - 1).toNat).2 /\ aa.length = 176 /\ List.take (16 * v5.toNat) aa = (ZdY key (v5 - 1).toNat).1) -> (Zq9 key v4 v5 aa))
abbrev ZM8 : Env := [(3, some (.ptr ⟨1, 0, 0, 1⟩ 432)), (4, some (.int .u8 1)), (5, some (.int .i64 1))]
theorem ZH4 (key : List Int) (hK : Zbl key Kf) (af : List Int) (h : Zkt key af) : SemL Try.prog w0 fp ρi 0 86 [ZxJ] ZM8 (Zk6 af) (Zz7 w0 fp ρi Kf key) :=
  Zbd (ZAa key) (ZzY key) (Zz4 key) (Zz1 key) ⟨(1, 1, af), tau [], h.1, (Zao [] [1] rfl rfl (esc bpt (esc pbd (esc pbd Zak))) (hsc pcs Zae) (by kernel_rfl) rfl)⟩ (fun s => match s with | (v4, v5, aa) => fun hi => (Zah (Zah (ZH5 key hK v4 v5 aa (h.2 v4 v5 aa hi)))))
theorem ZH3 (key : List Int) (hK : Zbl key Kf) (af : List Int) (h : Zkt key af) : SemL Try.prog w0 fp ρi 0 86 [Zgb, (.seq ZdM .ret)] ZM8 (Zk6 af) (fnK Zh5 0 Kf) :=
  Zat (ZH4 key hK af h)
abbrev ZM7 : Env := [(3, some (.ptr ⟨1, 0, 0, 1⟩ 432)), (4, some (.int .u8 1))]
theorem ZFE (key af : List Int) (Z : Env -> Heap -> Prop) (h : Z ZM8 (Zk6 af)) : EvC ZeO ZjS ZM7 (Zk6 af) [3, 4, 5] [1] Z := EvC.of (by kernel_rfl) h
theorem ZH2 (key : List Int) (hK : Zbl key Kf) (af : List Int) (h : Zkt key af) : SemL Try.prog w0 fp ρi 0 86 [ZjS, Zgb, (.seq ZdM .ret)] ZM7 (Zk6 af) (fnK Zh5 0 Kf) :=
  Zad Zcv (ZFE key af _ (ZH3 key hK af h))
theorem ZFD (key af : List Int) (Z : Env -> Heap -> Prop) (h : Z ZM7 (Zk6 af)) : EvC ZeO ZkZ ZLJ (Zk6 af) [3, 4] [1] Z := EvC.of (by kernel_rfl) h
theorem ZH1 (key : List Int) (hK : Zbl key Kf) (af : List Int) (h : Zkt key af) : SemL Try.prog w0 fp ρi 0 86 [ZkZ, (.seq (.seq ZjS Zgb) (.seq ZdM .ret))] ZLJ (Zk6 af) (fnK Zh5 0 Kf) :=
  Zad Zcv (ZFD key af _ (Zah (Zah (ZH2 key hK af h))))
abbrev ZM6 : Env := [(1, some (.ptr ⟨0, 0, 0, 1⟩ 16)), (3, some (.ptr ⟨1, 0, 0, 1⟩ 432))]
abbrev ZM5 (x0 : List Int) : Heap := ⟨2, [(0, some ⟨true, [.ints .u8 16 x0], 0⟩), (1, some ⟨true, [.ints .u8 256 sboxT, .ints .u8 176 (List.replicate 176 0)], 0⟩)]⟩
theorem ZFC (key : List Int) (Z : Env -> Heap -> Prop) (h : (((0 : Int) <= 0)) /\ (((0 : Int) < 11)) /\ (((16 : Nat) <= 176)) /\ ((List.length ((List.replicate 176 0) : List Int) = 176)) /\ ((List.length key = 16)) /\ Z ZLJ ⟨2, [(1, some ⟨true, [.ints .u8 256 sboxT, .ints .u8 176 (List.take 0 (List.replicate 176 0) ++ key ++ List.drop (0 + 16) (List.replicate 176 0))], 0⟩)]⟩) : EvNC ZeO Zpd [[], [0], [], [], [], []] ZM6 (ZM5 key) [3] [1] Z := EvNC.of (by kernel_rfl) h
def Zks (key : List Int) : Prop := ((List.length key = 16)) /\ (∀ af : List Int, af = (List.take 0 (List.replicate 176 0) ++ key ++ List.drop (0 + 16) (List.replicate 176 0)) -> Zkt key af)
theorem ZH0 (key : List Int) (hK : Zbl key Kf) (h : Zks key) : SemL Try.prog w0 fp ρi 0 86 [Zsf, (.seq ZkZ (.seq (.seq ZjS Zgb) (.seq ZdM .ret)))] ZM6 (ZM5 key) (fnK Zh5 0 Kf) :=
  Zcf Zcv (steps := Zpd) (ZFC key _ ⟨(by decide), ⟨(by decide), ⟨(by decide), ⟨(by simp), ⟨h.1, (Zah (ZH1 key hK (List.take 0 (List.replicate 176 0) ++ key ++ List.drop (0 + 16) (List.replicate 176 0)) (h.2 (List.take 0 (List.replicate 176 0) ++ key ++ List.drop (0 + 16) (List.replicate 176 0)) rfl)))⟩⟩⟩⟩⟩)
abbrev ZM4 : Env := [(1, some (.ptr ⟨0, 0, 0, 1⟩ 16))]
abbrev ZM3 (x0 : List Int) : Heap := ⟨1, [(0, some ⟨true, [.ints .u8 16 x0], 0⟩)]⟩
theorem ZFB (key : List Int) (Z : Env -> Heap -> Prop) (h : (True) /\ Z ZM6 (ZM5 key)) : EvC ZeO Zsg ZM4 (ZM3 key) [1, 3] [0, 1] Z := EvC.of (by kernel_rfl) h
theorem ZHZ (key : List Int) (hK : Zbl key Kf) (h : Zks key) : SemL Try.prog w0 fp ρi 0 86 [Zsg, (.seq Zsf (.seq ZkZ (.seq (.seq ZjS Zgb) (.seq ZdM .ret))))] ZM4 (ZM3 key) (fnK Zh5 0 Kf) :=
  Zad Zcv (ZFB key _ ⟨True.intro, (Zah (ZH0 key hK h))⟩)
theorem ZFA (key : List Int) (Z : Env -> Heap -> Prop) (h : Z ZM4 (ZM3 key)) : EvC ZeO ZxL [(0, some (.agg [.ints .u8 16 key]))] ⟨0, []⟩ [1] [0] Z := EvC.of (by kernel_rfl) h
theorem ZHY (key : List Int) (hK : Zbl key Kf) (h : Zks key) : SemL Try.prog w0 fp ρi 0 86 [ZxL, (.seq Zsg (.seq Zsf (.seq ZkZ (.seq (.seq ZjS Zgb) (.seq ZdM .ret)))))] [(0, some (.agg [.ints .u8 16 key]))] ⟨0, []⟩ (fnK Zh5 0 Kf) :=
  Zad Zcv (ZFA key _ (Zah (ZHZ key hK h)))
theorem ZLY (key : List Int) (hK : Zbl key Kf) (h : Zks key) : SemL Try.prog w0 fp ρi 0 86 [ZLB] [(0, some (.agg [.ints .u8 16 key]))] ⟨0, []⟩ (fnK Zh5 0 Kf) :=
  (Zah (ZHY key hK h))
end
theorem ZLj (key : List Int) (hpre : (Zaz key)) : Zks key := by
  unfold Zks Zkt Zq9 ZtG Zra ZtH ZtI ZtE ZyI ZAt ZtF ZAu ZAv
  have hk := hpre
  refine ⟨hk.1, ?_⟩
  rintro h1 e1
  have l1 : h1.length = 176 := by rw [e1]; simp [hk.1]
  have t1 : List.take 16 h1 = key := by rw [e1, List.take_zero, List.nil_append, List.take_left' hk.1]
  refine ⟨⟨by omega, by omega, rfl, l1, t1⟩, ?_⟩
  rintro v4 v5 hh ⟨i0, i1, i2, i3, i4⟩
  obtain ⟨r, hr⟩ : ∃ r : Nat, (v5 - 1).toNat = r := ⟨_, rfl⟩
  have hv5 : v5.toNat = r + 1 := by omega
  rw [hr] at i2 i4
  obtain ⟨o1, o2, o3⟩ := Zd6 hk r
  refine ⟨fun hlt => ?_, fun hge => ?_⟩
  · have hlt := of_decide_eq_true hlt
    have w1 : IntKind.i64.wrap (v5 - 1) = v5 - 1 := by rw [ZdQ]; omega
    have w2 : IntKind.i64.wrap (v5 + 1) = v5 + 1 := by rw [ZdQ]; omega
    rw [w1, w2, hr]
    refine ⟨by omega, by omega, by omega, ?_⟩
    rintro h2 e2
    have e2 : h2 = (ZdY key r).1.drop (16 * r) := by
      rw [e2, <- i4, List.drop_take, Nat.zero_add, Nat.mul_comm r 16]
      congr 1
      omega
    have b2 : ∀ j, 0 <= h2.getD j 0 /\ h2.getD j 0 < 256 := fun j => Zob (by rw [e2]; exact fun x hx => o2 x (List.mem_of_mem_drop hx)) j
    refine ⟨(b2 _).1, (b2 _).2, by have := b2 13; omega, (b2 _).1, (b2 _).2, by have := b2 14; omega, (b2 _).1, (b2 _).2, by have := b2 15; omega, (b2 _).1, (b2 _).2, by have := b2 12; omega, ?_⟩
    rintro h3 e3
    have e3 : h3 = (kGo h2 v4 0).1 := by rw [e3]; simp only [Nat.zero_add, Nat.mul_one]; rfl
    refine ⟨by rw [i2]; exact o3, ?_⟩
    rintro ai rfl
    refine ⟨⟨by omega, by omega, i3, e3, by rw [show (0 : Int).toNat = 0 from rfl, Nat.add_zero, i4]; simp [kGo]⟩, ?_⟩
    rintro ad hh2 ak ⟨j0, j1, j2, rfl, j4⟩
    have gl := ZlI h2 v4 ad.toNat
    refine ⟨fun hlt2 => ?_, fun hge2 => ?_⟩
    · have hlt2 := of_decide_eq_true hlt2
      have w3 : IntKind.i64.wrap (ad + 1) = ad + 1 := by rw [ZdQ]; omega
      have a3 := ZO1 ad.toNat (by omega)
      rw [show ((ad.toNat : Nat) : Int) = ad by omega] at a3
      rw [a3, w3, Int.toNat_natCast]
      simp only [Nat.zero_add, Nat.mul_one]
      have hm : ad.toNat % 4 < 4 := Nat.mod_lt _ (by omega)
      refine ⟨by omega, by omega, hm, j0, by omega, by omega, by omega, by omega, hm, by omega, ?_⟩
      rintro aj rfl
      refine ⟨by omega, by omega, hm, by omega, by omega, j0, by omega, by omega, by omega, ?_⟩
      rintro hh3 rfl
      have eq : ((kGo h2 v4 ad.toNat).1.set (ad.toNat % 4) (Zar .u8 ((kGo h2 v4 ad.toNat).1.getD (ad.toNat % 4) 0) (h2.getD ad.toNat 0))).getD (ad.toNat % 4) 0 = Zar .u8 ((kGo h2 v4 ad.toNat).1.getD (ad.toNat % 4) 0) (h2.getD ad.toNat 0) := by
        rw [Zca (by omega), if_pos rfl]
      rw [eq]
      have e1 : (ad + 1).toNat = ad.toNat + 1 := by omega
      refine ⟨⟨by omega, by omega, by rw [List.length_set, j2], by rw [e1]; rfl, ?_⟩, by omega⟩
      rw [e1, <- Nat.add_assoc, Nat.mul_comm v5.toNat 16, ZuF (by omega), j4, kGo, List.append_assoc]
    · have hge2 : ad = 16 := by have := of_decide_eq_false hge2; omega
      subst hge2
      refine ⟨⟨by omega, by omega, ?_, j2, ?_⟩, by omega⟩
      · rw [show (v5 + 1 - 1).toNat = r + 1 by omega, ZdY, i2]
      · rw [show (v5 + 1 - 1).toNat = r + 1 by omega, show 16 * (v5 + 1).toNat = 16 * v5.toNat + (16 : Int).toNat by omega, j4, ZdY, e2, i2]
        rfl
  · have hge : v5 = 11 := by have := of_decide_eq_false hge; omega
    subst hge
    have : r = 10 := by omega
    subst this
    rw [List.take_of_length_le (by omega)] at i4
    exact i4
theorem ZFy : Sound Try.prog 9 (gS ZES) := by
  refine ZaC Ztm ?_
  intro args H K h
  obtain ⟨pre, out, hD, hpre, hK⟩ := Zdv h
  unfold ZES at hD
  split at hD
  · obtain ⟨hb, hD⟩ := Zas hD
    have h0 := hb
    obtain rfl := Nat.eq_of_beq_eq_true h0
    cases hD
    exact ⟨rfl, fun w0 fp ρi => ZLY _ hK (ZLj _ hpre)⟩
  · cases hD
end Go.Proofs.Ytfffjdfegnmejaa
