/- Walks, printed by vcg. -/
import Derived.Test.YtefmjmghkedciaaSxAesS
import Derived.Test.YtefmjmghkedciaaSxAes9
import Derived.KernelRfl
set_option linter.unusedVariables false
set_option linter.unusedSimpArgs false
set_option maxRecDepth 20000
namespace Go.Proofs.Ytefmjmghkedciaa
open Go.Sx
def PaesField : PSpec := fun args => match args with
  | [.int .u8 a, .int .u8 b, .int .u8 c] => some (((0 ≤ a ∧ a < 256) ∧ (0 ≤ b ∧ b < 256) ∧ (0 ≤ c ∧ c < 256)), .bool true)
  | _ => none
def pcaesField : PCon := ⟨6, PaesField⟩
def cz6_n0 : ACode := .reg (.op (some 6) (.mov (.cn (.bool false))) .nil)
def cz6_n1 : ACode := .reg (.op (some 9) (.call 21 []) (.op (some 10) (.not (.tm 9)) .nil))
def cz6_n2 : ACode := .reg (.op (some 6) (.mov (.cn (.bool false))) .nil)
def cz6_n3 : ACode := .cond (.tm 10) (.seq cz6_n2 .ret) .skip
def cz6_n4 : ACode := .reg (.op (some 7) (.mov (.cn (.int .i64 0))) .nil)
def cz6_n5 : ACode := .reg (.op (some 8) (.mov (.cn (.int .i64 0))) .nil)
def cz6_n6 : ACode := .reg (.op (some 11) (.mov (.tm 8)) (.op (some 12) (.bin .lss (.tm 11) (.cn (.int .i64 256))) .nil))
def cz6_n7 : ACode := .cond (.tm 12) .skip (.exit 0)
def cz6_n8 : ACode := .reg (.op (some 15) (.mov (.tm 0)) (.op (some 16) (.mov (.tm 8)) (.op (some 17) (.conv .u8 (.tm 16)) (.op (some 18) (.call 22 [(.tm 15), (.tm 17)]) (.op (some 19) (.bin .eql (.tm 18) (.cn (.int .u8 1))) .nil)))))
def cz6_n9 : ACode := .reg (.op (some 20) (.mov (.tm 7)) (.op (some 21) (.bin .add (.tm 20) (.cn (.int .i64 1))) (.op (some 7) (.mov (.tm 21)) .nil)))
def cz6_n10 : ACode := .cond (.tm 19) cz6_n9 .skip
def cz6_n11 : ACode := .block 1 (.seq cz6_n8 cz6_n10)
def cz6_n12 : ACode := .reg (.op (some 13) (.mov (.tm 8)) (.op (some 14) (.bin .add (.tm 13) (.cn (.int .i64 1))) (.op (some 8) (.mov (.tm 14)) .nil)))
def cz6_n13 : ACode := .loop (.seq (.seq cz6_n6 cz6_n7) (.seq cz6_n11 cz6_n12))
def cz6_n14 : ACode := .block 0 cz6_n13
def cz6_n15 : ACode := .reg (.op (some 22) (.mov (.tm 0)) (.op (some 23) (.mov (.tm 1)) (.op (some 24) (.mov (.tm 2)) (.op (some 25) (.call 22 [(.tm 23), (.tm 24)]) (.op (some 26) (.call 22 [(.tm 22), (.tm 25)]) (.op (some 27) (.mov (.tm 0)) (.op (some 28) (.mov (.tm 1)) (.op (some 29) (.call 22 [(.tm 27), (.tm 28)]) (.op (some 30) (.mov (.tm 2)) (.op (some 31) (.call 22 [(.tm 29), (.tm 30)]) (.op (some 32) (.bin .eql (.tm 26) (.tm 31)) (.op (some 33) (.mov (.tm 32)) (.grpJ 33 true (.op (some 34) (.mov (.tm 0)) (.op (some 35) (.mov (.tm 1)) (.op (some 36) (.mov (.tm 2)) (.op (some 37) (.bin .xor (.tm 35) (.tm 36)) (.op (some 38) (.call 22 [(.tm 34), (.tm 37)]) (.op (some 39) (.mov (.tm 0)) (.op (some 40) (.mov (.tm 1)) (.op (some 41) (.call 22 [(.tm 39), (.tm 40)]) (.op (some 42) (.mov (.tm 0)) (.op (some 43) (.mov (.tm 2)) (.op (some 44) (.call 22 [(.tm 42), (.tm 43)]) (.op (some 45) (.bin .xor (.tm 41) (.tm 44)) (.op (some 46) (.bin .eql (.tm 38) (.tm 45)) .nil))))))))))))) 47 (.tm 46) (.cn (.bool false)) (.op (some 48) (.mov (.tm 47)) (.grpJ 48 true (.op (some 49) (.mov (.tm 0)) (.op (some 50) (.bin .eql (.tm 49) (.cn (.int .u8 0))) (.op (some 51) (.mov (.tm 50)) (.grpJ 51 true (.op (some 52) (.mov (.tm 7)) (.op (some 53) (.bin .eql (.tm 52) (.cn (.int .i64 0))) .nil)) 54 (.tm 53) (.cn (.bool false)) (.op (some 55) (.mov (.tm 54)) (.grpJ 55 false (.op (some 56) (.mov (.tm 0)) (.op (some 57) (.bin .neq (.tm 56) (.cn (.int .u8 0))) (.op (some 58) (.mov (.tm 57)) (.grpJ 58 true (.op (some 59) (.mov (.tm 7)) (.op (some 60) (.bin .eql (.tm 59) (.cn (.int .i64 1))) .nil)) 61 (.tm 60) (.cn (.bool false)) .nil)))) 62 (.tm 61) (.cn (.bool true)) .nil)))))) 63 (.tm 62) (.cn (.bool false)) (.op (some 6) (.mov (.tm 63)) .nil))))))))))))))))
def caesField : ACode := (.seq cz6_n0 (.seq (.seq cz6_n1 cz6_n3) (.seq cz6_n4 (.seq (.seq cz6_n5 cz6_n14) (.seq cz6_n15 .ret)))))
def RaesField : Res := .one (.tm 6)
theorem caesField_fits : fnFits Try.prog 6 3 64 caesField RaesField = true := by kernel_rfl
def GaesField : Calls' := withP [pcl2Speaks, pcaTimes] []
theorem hGaesField : CallOk Try.prog GaesField := withP_ok ⟨sl2Speaks, saTimes, trivial⟩ trivial
section
variable {w0 : World} {fp : Nat → Nat → Prop} {ρi : Rho} {Kf : SVal → Heap → Prop}
def kkz6_0 (w0 : World) (fp : Nat → Nat → Prop) (ρi : Rho) (Kf : SVal → Heap → Prop) (a : Int) (b : Int) (c : Int) : Cont := blockK 0 (fun e H => SemL Try.prog w0 fp ρi 0 64 [(.seq cz6_n15 .ret)] e H (fnK RaesField 0 Kf)) (fnK RaesField 0 Kf)
def ivz6_1 (a : Int) (b : Int) (c : Int) : Int × Int → Prop := fun s => match s with | (v7, v8) => 0 ≤ v8 ∧ v8 ≤ 256 ∧ v7 = onesI a v8
def muz6_1 (a : Int) (b : Int) (c : Int) : Int × Int → Nat := fun s => match s with | (v7, v8) => ((256 - v8).toNat)
def liz6_1 (a : Int) (b : Int) (c : Int) : Int × Int → Env := fun s => match s with | (v7, v8) => [(0, some (.int .u8 a)), (1, some (.int .u8 b)), (2, some (.int .u8 c)), (7, some (.int .i64 v7)), (8, some (.int .i64 v8))]
def ljz6_1 (a : Int) (b : Int) (c : Int) : Int × Int → Heap := fun s => match s with | (v7, v8) => ⟨0, []⟩
def kkz6_1 (w0 : World) (fp : Nat → Nat → Prop) (ρi : Rho) (Kf : SVal → Heap → Prop) (a : Int) (b : Int) (c : Int) (v7 : Int) (v8 : Int) : Cont := loopK 0 (ivz6_1 a b c) (muz6_1 a b c) (liz6_1 a b c) (ljz6_1 a b c) (v7, v8) (kkz6_0 w0 fp ρi Kf a b c)
theorem rz6_0 (a : Int) (b : Int) (c : Int) (v7'1 : Int) (v8 : Int) (v7 : Int) (Z : Env → Heap → Prop) (h : Z [(0, some (.int .u8 a)), (1, some (.int .u8 b)), (2, some (.int .u8 c)), (7, some (.int .i64 v7'1)), (8, some (.int .i64 (IntKind.i64.wrap (v8 + 1))))] ⟨0, []⟩) : EvC GaesField cz6_n12 [(0, some (.int .u8 a)), (1, some (.int .u8 b)), (2, some (.int .u8 c)), (7, some (.int .i64 v7'1)), (8, some (.int .i64 v8))] ⟨0, []⟩ [0, 1, 2, 7, 8] [] Z := EvC.of (by kernel_rfl) h
def vz6_0 (a : Int) (b : Int) (c : Int) (v7'1 : Int) (v8 : Int) (v7 : Int) : Prop := (0 ≤ (IntKind.i64.wrap (v8 + 1)) ∧ (IntKind.i64.wrap (v8 + 1)) ≤ 256 ∧ v7'1 = onesI a (IntKind.i64.wrap (v8 + 1))) ∧ (((256 - (IntKind.i64.wrap (v8 + 1))).toNat) < ((256 - v8).toNat))
theorem pz6_0 (a : Int) (b : Int) (c : Int) (hK : Kf (.bool true) ⟨0, []⟩) (v7'1 : Int) (v8 : Int) (v7 : Int) (h : vz6_0 a b c v7'1 v8 v7) : SemL Try.prog w0 fp ρi 0 64 [cz6_n12] [(0, some (.int .u8 a)), (1, some (.int .u8 b)), (2, some (.int .u8 c)), (7, some (.int .i64 v7'1)), (8, some (.int .i64 v8))] ⟨0, []⟩ (kkz6_1 w0 fp ρi Kf a b c v7 v8) :=
  L_regE hGaesField (rz6_0 a b c v7'1 v8 v7 (fun e H => SemL Try.prog w0 fp ρi 0 64 [] e H (kkz6_1 w0 fp ρi Kf a b c v7 v8)) (L_nil (loop_back (x' := (v7'1, (IntKind.i64.wrap (v8 + 1)))) (τ := tau []) h.1 h.2 (sub_tau' [] [] rfl rfl (esc pbd (esc pbd (esc pbd (esc pbd (esc pbd envSub_nil))))) heapSub_nil (by kernel_rfl) rfl))))
def kkz6_2 (w0 : World) (fp : Nat → Nat → Prop) (ρi : Rho) (Kf : SVal → Heap → Prop) (a : Int) (b : Int) (c : Int) (v7 : Int) (v8 : Int) : Cont := blockK 1 (fun e H => SemL Try.prog w0 fp ρi 0 64 [cz6_n12] e H (kkz6_1 w0 fp ρi Kf a b c v7 v8)) (kkz6_1 w0 fp ρi Kf a b c v7 v8)
theorem rz6_1 (a : Int) (b : Int) (c : Int) (v7 : Int) (v8 : Int) (Z : Env → Heap → Prop) (h : Z [(0, some (.int .u8 a)), (1, some (.int .u8 b)), (2, some (.int .u8 c)), (7, some (.int .i64 (IntKind.i64.wrap (v7 + 1)))), (8, some (.int .i64 v8))] ⟨0, []⟩) : EvC GaesField cz6_n9 [(0, some (.int .u8 a)), (1, some (.int .u8 b)), (2, some (.int .u8 c)), (7, some (.int .i64 v7)), (8, some (.int .i64 v8))] ⟨0, []⟩ [0, 1, 2, 7, 8] [] Z := EvC.of (by kernel_rfl) h
def vz6_1 (a : Int) (b : Int) (c : Int) (v7 : Int) (v8 : Int) : Prop := ∀ v7'1 : Int, v7'1 = ((v7 + 1) + 9223372036854775808) % 18446744073709551616 - 9223372036854775808 → vz6_0 a b c v7'1 v8 v7
theorem pz6_1 (a : Int) (b : Int) (c : Int) (hK : Kf (.bool true) ⟨0, []⟩) (v7 : Int) (v8 : Int) (h : vz6_1 a b c v7 v8) : SemL Try.prog w0 fp ρi 0 64 [cz6_n9] [(0, some (.int .u8 a)), (1, some (.int .u8 b)), (2, some (.int .u8 c)), (7, some (.int .i64 v7)), (8, some (.int .i64 v8))] ⟨0, []⟩ (kkz6_2 w0 fp ρi Kf a b c v7 v8) :=
  L_regE hGaesField (rz6_1 a b c v7 v8 (fun e H => SemL Try.prog w0 fp ρi 0 64 [] e H (kkz6_2 w0 fp ρi Kf a b c v7 v8)) (L_nil (pz6_0 a b c hK (IntKind.i64.wrap (v7 + 1)) v8 v7 (h (IntKind.i64.wrap (v7 + 1)) (wi64 _)))))
def vz6_2 (a : Int) (b : Int) (c : Int) (v7 : Int) (v8 : Int) : Prop := (((mulB a (IntKind.u8.wrap v8)) == 1) = true → (vz6_1 a b c v7 v8)) ∧ (((mulB a (IntKind.u8.wrap v8)) == 1) = false → (vz6_0 a b c v7 v8 v7))
theorem pz6_2 (a : Int) (b : Int) (c : Int) (hK : Kf (.bool true) ⟨0, []⟩) (v7 : Int) (v8 : Int) (h : vz6_2 a b c v7 v8) : SemL Try.prog w0 fp ρi 0 64 [cz6_n10] [(0, some (.int .u8 a)), (1, some (.int .u8 b)), (2, some (.int .u8 c)), (7, some (.int .i64 v7)), (8, some (.int .i64 v8)), (19, some (.bool ((mulB a (IntKind.u8.wrap v8)) == 1)))] ⟨0, []⟩ (kkz6_2 w0 fp ρi Kf a b c v7 v8) :=
  L_cond (q := ((mulB a (IntKind.u8.wrap v8)) == 1)) (by kernel_rfl) (fun hq => (lpk [0, 1, 2, 7, 8] [] (pz6_1 a b c hK v7 v8 (h.1 hq)))) (fun hq => (L_skip (L_nil (lpk [0, 1, 2, 7, 8] [] (pz6_0 a b c hK v7 v8 v7 (h.2 hq))))))
theorem rz6_3 (a : Int) (b : Int) (c : Int) (v7 : Int) (v8 : Int) (Z : Env → Heap → Prop) (h : (((0 ≤ a ∧ a < 256) ∧ (0 ≤ (IntKind.u8.wrap v8) ∧ (IntKind.u8.wrap v8) < 256))) ∧ Z [(0, some (.int .u8 a)), (1, some (.int .u8 b)), (2, some (.int .u8 c)), (7, some (.int .i64 v7)), (8, some (.int .i64 v8)), (19, some (.bool ((mulB a (IntKind.u8.wrap v8)) == 1)))] ⟨0, []⟩) : EvC GaesField cz6_n8 [(0, some (.int .u8 a)), (1, some (.int .u8 b)), (2, some (.int .u8 c)), (7, some (.int .i64 v7)), (8, some (.int .i64 v8))] ⟨0, []⟩ [0, 1, 2, 7, 8, 19] [] Z := EvC.of (by kernel_rfl) h
def vz6_3 (a : Int) (b : Int) (c : Int) (v7 : Int) (v8 : Int) : Prop := (((0 ≤ a ∧ a < 256) ∧ (0 ≤ (IntKind.u8.wrap v8) ∧ (IntKind.u8.wrap v8) < 256))) ∧ (vz6_2 a b c v7 v8)
theorem pz6_3 (a : Int) (b : Int) (c : Int) (hK : Kf (.bool true) ⟨0, []⟩) (v7 : Int) (v8 : Int) (h : vz6_3 a b c v7 v8) : SemL Try.prog w0 fp ρi 0 64 [cz6_n8, cz6_n10] [(0, some (.int .u8 a)), (1, some (.int .u8 b)), (2, some (.int .u8 c)), (7, some (.int .i64 v7)), (8, some (.int .i64 v8))] ⟨0, []⟩ (kkz6_2 w0 fp ρi Kf a b c v7 v8) :=
  L_regE hGaesField (rz6_3 a b c v7 v8 (fun e H => SemL Try.prog w0 fp ρi 0 64 [cz6_n10] e H (kkz6_2 w0 fp ρi Kf a b c v7 v8)) ⟨h.1, (pz6_2 a b c hK v7 v8 h.2)⟩)
def vz6_4 (a : Int) (b : Int) (c : Int) (v7 : Int) (v8 : Int) : Prop := vz6_3 a b c v7 v8
theorem pz6_4 (a : Int) (b : Int) (c : Int) (hK : Kf (.bool true) ⟨0, []⟩) (v7 : Int) (v8 : Int) (h : vz6_4 a b c v7 v8) : SemL Try.prog w0 fp ρi 0 64 [cz6_n11, cz6_n12] [(0, some (.int .u8 a)), (1, some (.int .u8 b)), (2, some (.int .u8 c)), (7, some (.int .i64 v7)), (8, some (.int .i64 v8))] ⟨0, []⟩ (kkz6_1 w0 fp ρi Kf a b c v7 v8) :=
  L_block (L_seq (pz6_3 a b c hK v7 v8 h))
theorem rz6_5 (a : Int) (b : Int) (c : Int) (v7 : Int) (Z : Env → Heap → Prop) (h : (((0 ≤ b ∧ b < 256) ∧ (0 ≤ c ∧ c < 256))) ∧ (((0 ≤ a ∧ a < 256) ∧ (0 ≤ (mulB b c) ∧ (mulB b c) < 256))) ∧ (((0 ≤ a ∧ a < 256) ∧ (0 ≤ b ∧ b < 256))) ∧ (((0 ≤ (mulB a b) ∧ (mulB a b) < 256) ∧ (0 ≤ c ∧ c < 256))) ∧ ∃ qq : Bool, (((mulB a (mulB b c)) == (mulB (mulB a b) c)) = true → (((0 ≤ a ∧ a < 256) ∧ (0 ≤ (ixor .u8 b c) ∧ (ixor .u8 b c) < 256))) ∧ (((0 ≤ a ∧ a < 256) ∧ (0 ≤ b ∧ b < 256))) ∧ (((0 ≤ a ∧ a < 256) ∧ (0 ≤ c ∧ c < 256))) ∧ (keeps ⟨0, []⟩ ⟨0, []⟩ []) ∧ ((mulB a (ixor .u8 b c)) == (ixor .u8 (mulB a b) (mulB a c))) = qq) ∧ (((mulB a (mulB b c)) == (mulB (mulB a b) c)) = false → false = qq) ∧ ∃ qq'1 : Bool, (qq = true → ∃ qq'2 : Bool, ((a == 0) = true → (keeps ⟨0, []⟩ ⟨0, []⟩ []) ∧ (v7 == 0) = qq'2) ∧ ((a == 0) = false → false = qq'2) ∧ ∃ qq'3 : Bool, (qq'2 = false → ∃ qq'4 : Bool, ((a != 0) = true → (keeps ⟨0, []⟩ ⟨0, []⟩ []) ∧ (v7 == 1) = qq'4) ∧ ((a != 0) = false → false = qq'4) ∧ (keeps ⟨0, []⟩ ⟨0, []⟩ []) ∧ qq'4 = qq'3) ∧ (qq'2 = true → true = qq'3) ∧ (keeps ⟨0, []⟩ ⟨0, []⟩ []) ∧ qq'3 = qq'1) ∧ (qq = false → false = qq'1) ∧ Z [(6, some (.bool qq'1))] ⟨0, []⟩) : EvC GaesField cz6_n15 [(0, some (.int .u8 a)), (1, some (.int .u8 b)), (2, some (.int .u8 c)), (7, some (.int .i64 v7))] ⟨0, []⟩ [6] [] Z := EvC.of (by kernel_rfl) h
theorem rtz6_0 (a : Int) (b : Int) (c : Int) (v7 : Int) : RetC RaesField [(6, some (.bool ((((mulB a (mulB b c)) == (mulB (mulB a b) c)) && ((mulB a (ixor .u8 b c)) == (ixor .u8 (mulB a b) (mulB a c)))) && (((a == 0) && (v7 == 0)) || ((a != 0) && (v7 == 1))))))] ⟨0, []⟩ (.bool ((((mulB a (mulB b c)) == (mulB (mulB a b) c)) && ((mulB a (ixor .u8 b c)) == (ixor .u8 (mulB a b) (mulB a c)))) && (((a == 0) && (v7 == 0)) || ((a != 0) && (v7 == 1))))) := RetC.of (fun Z => by kernel_rfl)
def vz6_5 (a : Int) (b : Int) (c : Int) (v7 : Int) : Prop := (((0 ≤ b ∧ b < 256) ∧ (0 ≤ c ∧ c < 256))) ∧ ((((0 ≤ a ∧ a < 256) ∧ (0 ≤ (mulB b c) ∧ (mulB b c) < 256))) ∧ ((((0 ≤ a ∧ a < 256) ∧ (0 ≤ b ∧ b < 256))) ∧ ((((0 ≤ (mulB a b) ∧ (mulB a b) < 256) ∧ (0 ≤ c ∧ c < 256))) ∧ ((((mulB a (mulB b c)) == (mulB (mulB a b) c)) = true → ((((0 ≤ a ∧ a < 256) ∧ (0 ≤ (ixor .u8 b c) ∧ (ixor .u8 b c) < 256))) ∧ ((((0 ≤ a ∧ a < 256) ∧ (0 ≤ b ∧ b < 256))) ∧ (((0 ≤ a ∧ a < 256) ∧ (0 ≤ c ∧ c < 256)))))) ∧ (((((mulB a (mulB b c)) == (mulB (mulB a b) c)) && ((mulB a (ixor .u8 b c)) == (ixor .u8 (mulB a b) (mulB a c)))) && (((a == 0) && (v7 == 0)) || ((a != 0) && (v7 == 1)))) = true)))))
theorem pz6_5 (a : Int) (b : Int) (c : Int) (hK : Kf (.bool true) ⟨0, []⟩) (v7 : Int) (h : vz6_5 a b c v7) : SemL Try.prog w0 fp ρi 0 64 [cz6_n15, .ret] [(0, some (.int .u8 a)), (1, some (.int .u8 b)), (2, some (.int .u8 c)), (7, some (.int .i64 v7))] ⟨0, []⟩ (fnK RaesField 0 Kf) :=
  L_regE hGaesField (rz6_5 a b c v7 (fun e H => SemL Try.prog w0 fp ρi 0 64 [.ret] e H (fnK RaesField 0 Kf)) ⟨h.1, ⟨h.2.1, ⟨h.2.2.1, ⟨h.2.2.2.1, ⟨(((mulB a (mulB b c)) == (mulB (mulB a b) c)) && ((mulB a (ixor .u8 b c)) == (ixor .u8 (mulB a b) (mulB a c)))), fun hc_qq => ⟨(h.2.2.2.2.1 hc_qq).1, ⟨(h.2.2.2.2.1 hc_qq).2.1, ⟨(h.2.2.2.2.1 hc_qq).2.2, ⟨(keeps_refl _), (qa1 hc_qq)⟩⟩⟩⟩, fun hc_qq => qa2 hc_qq, ⟨((((mulB a (mulB b c)) == (mulB (mulB a b) c)) && ((mulB a (ixor .u8 b c)) == (ixor .u8 (mulB a b) (mulB a c)))) && (((a == 0) && (v7 == 0)) || ((a != 0) && (v7 == 1)))), fun hc_qq_1 => ⟨((a == 0) && (v7 == 0)), fun hc_qq_2 => ⟨(keeps_refl _), (qa1 hc_qq_2)⟩, fun hc_qq_2 => qa2 hc_qq_2, ⟨(((a == 0) && (v7 == 0)) || ((a != 0) && (v7 == 1))), fun hc_qq_3 => ⟨((a != 0) && (v7 == 1)), fun hc_qq_4 => ⟨(keeps_refl _), (qa1 hc_qq_4)⟩, fun hc_qq_4 => qa2 hc_qq_4, ⟨(keeps_refl _), (qo1 hc_qq_3)⟩⟩, fun hc_qq_3 => qo2 hc_qq_3, ⟨(keeps_refl _), (qa1 hc_qq_1)⟩⟩⟩, fun hc_qq_1 => qa2 hc_qq_1, (L_retE (R := RaesField) (m := 0) (Kf := Kf) (fun _ _ h => h) (rtz6_0 a b c v7) (ret_plain rfl (by kernel_rfl) (cg1 (fun (z1 : Bool) => (.bool z1 : SVal)) h.2.2.2.2.2) hK))⟩⟩⟩⟩⟩⟩)
def vz6_6 (a : Int) (b : Int) (c : Int) (v7 : Int) (v8 : Int) : Prop := ((decide (v8 < 256)) = true → (vz6_4 a b c v7 v8)) ∧ ((decide (v8 < 256)) = false → (vz6_5 a b c v7))
theorem pz6_6 (a : Int) (b : Int) (c : Int) (hK : Kf (.bool true) ⟨0, []⟩) (v7 : Int) (v8 : Int) (h : vz6_6 a b c v7 v8) : SemL Try.prog w0 fp ρi 0 64 [cz6_n7, (.seq cz6_n11 cz6_n12)] [(0, some (.int .u8 a)), (1, some (.int .u8 b)), (2, some (.int .u8 c)), (7, some (.int .i64 v7)), (8, some (.int .i64 v8)), (12, some (.bool (decide (v8 < 256))))] ⟨0, []⟩ (kkz6_1 w0 fp ρi Kf a b c v7 v8) :=
  L_cond (q := (decide (v8 < 256))) (by kernel_rfl) (fun hq => (L_skip (lpk [0, 1, 2, 7, 8] [] (L_seq (pz6_4 a b c hK v7 v8 (h.1 hq)))))) (fun hq => (L_exit (lpk [0, 1, 2, 7] [] (L_seq (pz6_5 a b c hK v7 (h.2 hq))))))
theorem rz6_7 (a : Int) (b : Int) (c : Int) (v7 : Int) (v8 : Int) (Z : Env → Heap → Prop) (h : Z [(0, some (.int .u8 a)), (1, some (.int .u8 b)), (2, some (.int .u8 c)), (7, some (.int .i64 v7)), (8, some (.int .i64 v8)), (12, some (.bool (decide (v8 < 256))))] ⟨0, []⟩) : EvC GaesField cz6_n6 [(0, some (.int .u8 a)), (1, some (.int .u8 b)), (2, some (.int .u8 c)), (7, some (.int .i64 v7)), (8, some (.int .i64 v8))] ⟨0, []⟩ [0, 1, 2, 7, 8, 12] [] Z := EvC.of (by kernel_rfl) h
def vz6_7 (a : Int) (b : Int) (c : Int) (v7 : Int) (v8 : Int) : Prop := vz6_6 a b c v7 v8
theorem pz6_7 (a : Int) (b : Int) (c : Int) (hK : Kf (.bool true) ⟨0, []⟩) (v7 : Int) (v8 : Int) (h : vz6_7 a b c v7 v8) : SemL Try.prog w0 fp ρi 0 64 [cz6_n6, cz6_n7, (.seq cz6_n11 cz6_n12)] [(0, some (.int .u8 a)), (1, some (.int .u8 b)), (2, some (.int .u8 c)), (7, some (.int .i64 v7)), (8, some (.int .i64 v8))] ⟨0, []⟩ (kkz6_1 w0 fp ρi Kf a b c v7 v8) :=
  L_regE hGaesField (rz6_7 a b c v7 v8 (fun e H => SemL Try.prog w0 fp ρi 0 64 [cz6_n7, (.seq cz6_n11 cz6_n12)] e H (kkz6_1 w0 fp ρi Kf a b c v7 v8)) (pz6_6 a b c hK v7 v8 h))
def vz6_8 (a : Int) (b : Int) (c : Int) : Prop := (0 ≤ (0 : Int) ∧ (0 : Int) ≤ 256 ∧ (0 : Int) = onesI a (0 : Int)) ∧ (∀ (v7 : Int) (v8 : Int), (0 ≤ v8 ∧ v8 ≤ 256 ∧ v7 = onesI a v8) → (vz6_7 a b c v7 v8))
theorem pz6_8 (a : Int) (b : Int) (c : Int) (hK : Kf (.bool true) ⟨0, []⟩) (h : vz6_8 a b c) : SemL Try.prog w0 fp ρi 0 64 [cz6_n13] [(0, some (.int .u8 a)), (1, some (.int .u8 b)), (2, some (.int .u8 c)), (7, some (.int .i64 0)), (8, some (.int .i64 0))] ⟨0, []⟩ (kkz6_0 w0 fp ρi Kf a b c) :=
  L_loop (ivz6_1 a b c) (muz6_1 a b c) (liz6_1 a b c) (ljz6_1 a b c) ⟨(0, 0), tau [], h.1, (sub_tau' [] [] rfl rfl (esc pbd (esc pbd (esc pbd (esc pbd (esc pbd envSub_nil))))) heapSub_nil (by kernel_rfl) rfl)⟩ (fun s => match s with | (v7, v8) => fun hi => (L_seq (L_seq (pz6_7 a b c hK v7 v8 (h.2 v7 v8 hi)))))
def vz6_9 (a : Int) (b : Int) (c : Int) : Prop := vz6_8 a b c
theorem pz6_9 (a : Int) (b : Int) (c : Int) (hK : Kf (.bool true) ⟨0, []⟩) (h : vz6_9 a b c) : SemL Try.prog w0 fp ρi 0 64 [cz6_n14, (.seq cz6_n15 .ret)] [(0, some (.int .u8 a)), (1, some (.int .u8 b)), (2, some (.int .u8 c)), (7, some (.int .i64 0)), (8, some (.int .i64 0))] ⟨0, []⟩ (fnK RaesField 0 Kf) :=
  L_block (pz6_8 a b c hK h)
theorem rz6_10 (a : Int) (b : Int) (c : Int) (Z : Env → Heap → Prop) (h : Z [(0, some (.int .u8 a)), (1, some (.int .u8 b)), (2, some (.int .u8 c)), (7, some (.int .i64 0)), (8, some (.int .i64 0))] ⟨0, []⟩) : EvC GaesField cz6_n5 [(0, some (.int .u8 a)), (1, some (.int .u8 b)), (2, some (.int .u8 c)), (7, some (.int .i64 0))] ⟨0, []⟩ [0, 1, 2, 7, 8] [] Z := EvC.of (by kernel_rfl) h
def vz6_10 (a : Int) (b : Int) (c : Int) : Prop := vz6_9 a b c
theorem pz6_10 (a : Int) (b : Int) (c : Int) (hK : Kf (.bool true) ⟨0, []⟩) (h : vz6_10 a b c) : SemL Try.prog w0 fp ρi 0 64 [cz6_n5, cz6_n14, (.seq cz6_n15 .ret)] [(0, some (.int .u8 a)), (1, some (.int .u8 b)), (2, some (.int .u8 c)), (7, some (.int .i64 0))] ⟨0, []⟩ (fnK RaesField 0 Kf) :=
  L_regE hGaesField (rz6_10 a b c (fun e H => SemL Try.prog w0 fp ρi 0 64 [cz6_n14, (.seq cz6_n15 .ret)] e H (fnK RaesField 0 Kf)) (pz6_9 a b c hK h))
theorem rz6_11 (a : Int) (b : Int) (c : Int) (Z : Env → Heap → Prop) (h : Z [(0, some (.int .u8 a)), (1, some (.int .u8 b)), (2, some (.int .u8 c)), (7, some (.int .i64 0))] ⟨0, []⟩) : EvC GaesField cz6_n4 [(0, some (.int .u8 a)), (1, some (.int .u8 b)), (2, some (.int .u8 c))] ⟨0, []⟩ [0, 1, 2, 7] [] Z := EvC.of (by kernel_rfl) h
def vz6_11 (a : Int) (b : Int) (c : Int) : Prop := vz6_10 a b c
theorem pz6_11 (a : Int) (b : Int) (c : Int) (hK : Kf (.bool true) ⟨0, []⟩) (h : vz6_11 a b c) : SemL Try.prog w0 fp ρi 0 64 [cz6_n4, (.seq (.seq cz6_n5 cz6_n14) (.seq cz6_n15 .ret))] [(0, some (.int .u8 a)), (1, some (.int .u8 b)), (2, some (.int .u8 c))] ⟨0, []⟩ (fnK RaesField 0 Kf) :=
  L_regE hGaesField (rz6_11 a b c (fun e H => SemL Try.prog w0 fp ρi 0 64 [(.seq (.seq cz6_n5 cz6_n14) (.seq cz6_n15 .ret))] e H (fnK RaesField 0 Kf)) (L_seq (L_seq (pz6_10 a b c hK h))))
def vz6_12 (a : Int) (b : Int) (c : Int) : Prop := vz6_11 a b c
theorem pz6_12 (a : Int) (b : Int) (c : Int) (hK : Kf (.bool true) ⟨0, []⟩) (h : vz6_12 a b c) : SemL Try.prog w0 fp ρi 0 64 [cz6_n3, (.seq cz6_n4 (.seq (.seq cz6_n5 cz6_n14) (.seq cz6_n15 .ret)))] [(0, some (.int .u8 a)), (1, some (.int .u8 b)), (2, some (.int .u8 c)), (10, some (.bool false))] ⟨0, []⟩ (fnK RaesField 0 Kf) :=
  L_cond (q := false) (by kernel_rfl) (fun hq => Bool.noConfusion hq) (fun _ => (L_skip (lpk [0, 1, 2] [] (L_seq (pz6_11 a b c hK h)))))
theorem rz6_13 (a : Int) (b : Int) (c : Int) (Z : Env → Heap → Prop) (h : (True) ∧ Z [(0, some (.int .u8 a)), (1, some (.int .u8 b)), (2, some (.int .u8 c)), (10, some (.bool false))] ⟨0, []⟩) : EvC GaesField cz6_n1 [(0, some (.int .u8 a)), (1, some (.int .u8 b)), (2, some (.int .u8 c))] ⟨0, []⟩ [0, 1, 2, 10] [] Z := EvC.of (by kernel_rfl) h
def vz6_13 (a : Int) (b : Int) (c : Int) : Prop := vz6_12 a b c
theorem pz6_13 (a : Int) (b : Int) (c : Int) (hK : Kf (.bool true) ⟨0, []⟩) (h : vz6_13 a b c) : SemL Try.prog w0 fp ρi 0 64 [cz6_n1, cz6_n3, (.seq cz6_n4 (.seq (.seq cz6_n5 cz6_n14) (.seq cz6_n15 .ret)))] [(0, some (.int .u8 a)), (1, some (.int .u8 b)), (2, some (.int .u8 c))] ⟨0, []⟩ (fnK RaesField 0 Kf) :=
  L_regE hGaesField (rz6_13 a b c (fun e H => SemL Try.prog w0 fp ρi 0 64 [cz6_n3, (.seq cz6_n4 (.seq (.seq cz6_n5 cz6_n14) (.seq cz6_n15 .ret)))] e H (fnK RaesField 0 Kf)) ⟨True.intro, (pz6_12 a b c hK h)⟩)
theorem rz6_14 (a : Int) (b : Int) (c : Int) (Z : Env → Heap → Prop) (h : Z [(0, some (.int .u8 a)), (1, some (.int .u8 b)), (2, some (.int .u8 c))] ⟨0, []⟩) : EvC GaesField cz6_n0 [(0, some (.int .u8 a)), (1, some (.int .u8 b)), (2, some (.int .u8 c))] ⟨0, []⟩ [0, 1, 2] [] Z := EvC.of (by kernel_rfl) h
def vz6_14 (a : Int) (b : Int) (c : Int) : Prop := vz6_13 a b c
theorem pz6_14 (a : Int) (b : Int) (c : Int) (hK : Kf (.bool true) ⟨0, []⟩) (h : vz6_14 a b c) : SemL Try.prog w0 fp ρi 0 64 [cz6_n0, (.seq (.seq cz6_n1 cz6_n3) (.seq cz6_n4 (.seq (.seq cz6_n5 cz6_n14) (.seq cz6_n15 .ret))))] [(0, some (.int .u8 a)), (1, some (.int .u8 b)), (2, some (.int .u8 c))] ⟨0, []⟩ (fnK RaesField 0 Kf) :=
  L_regE hGaesField (rz6_14 a b c (fun e H => SemL Try.prog w0 fp ρi 0 64 [(.seq (.seq cz6_n1 cz6_n3) (.seq cz6_n4 (.seq (.seq cz6_n5 cz6_n14) (.seq cz6_n15 .ret))))] e H (fnK RaesField 0 Kf)) (L_seq (L_seq (pz6_13 a b c hK h))))
def vcaesField (a : Int) (b : Int) (c : Int) : Prop := vz6_14 a b c
theorem waesField (a : Int) (b : Int) (c : Int) (hK : Kf (.bool true) ⟨0, []⟩) (h : vcaesField a b c) : SemL Try.prog w0 fp ρi 0 64 [caesField] [(0, some (.int .u8 a)), (1, some (.int .u8 b)), (2, some (.int .u8 c))] ⟨0, []⟩ (fnK RaesField 0 Kf) :=
  (L_seq (pz6_14 a b c hK h))
end
theorem okaesField (a : Int) (b : Int) (c : Int) (hpre : ((0 ≤ a ∧ a < 256) ∧ (0 ≤ b ∧ b < 256) ∧ (0 ≤ c ∧ c < 256))) : vcaesField a b c := by
  unfold vcaesField vz6_14 vz6_13 vz6_12 vz6_11 vz6_10 vz6_9 vz6_8 vz6_7 vz6_6 vz6_5 vz6_4 vz6_3 vz6_2 vz6_1 vz6_0
  obtain ⟨ha, hb, hc⟩ := hpre
  refine ⟨⟨by omega, by omega, by have := invI_ok ha; unfold onesI; rw [if_neg (by omega)]⟩, fun v7 v8 hI => ⟨fun hlt => ?_, fun hge => ?_⟩⟩
  · have hlt := of_decide_eq_true hlt
    have w1 : IntKind.i64.wrap (v8 + 1) = v8 + 1 := by rw [wi64]; omega
    have w2 : IntKind.u8.wrap v8 = v8 := by rw [wrap_u8]; omega
    have s := onesI_step ha ⟨hI.1, hlt⟩
    have b1 : 0 ≤ v7 ∧ v7 ≤ 1 := by rw [hI.2.2]; unfold onesI; split <;> omega
    rw [w1, w2]
    refine ⟨⟨ha, by omega⟩, fun hc y hy => ⟨⟨by omega, by omega, by rw [s.1 hc]; omega⟩, by omega⟩, fun hc => ⟨⟨by omega, by omega, by rw [s.2 hc]; exact hI.2.2⟩, by omega⟩⟩
  · have hge := of_decide_eq_false hge
    have e : v8 = 256 := by omega
    subst e
    obtain ⟨_, _, e⟩ := hI
    rw [onesI_end ha] at e
    refine ⟨⟨hb, hc⟩, ⟨ha, mulB_byte _ _⟩, ⟨ha, hb⟩, ⟨mulB_byte _ _, hc⟩, fun _ => ⟨⟨ha, ixor_u8 _ _⟩, ⟨ha, hb⟩, ha, hc⟩, ?_⟩
    rw [mulB_assoc ha hb hc, mulB_add ha hb hc, beq_self_eq_true, beq_self_eq_true, Bool.true_and, Bool.true_and]
    by_cases h : a = 0
    · rw [if_pos h] at e; subst e; subst h; rfl
    · rw [if_neg h] at e; subst e
      rw [show (a == 0) = false from beq_eq_false_iff_ne.2 h, show (a != 0) = true from bne_iff_ne.2 h]; rfl
theorem saesField : Sound Try.prog 6 (pureS PaesField) := by
  refine fn_soundA caesField_fits ?_
  intro args H K h
  obtain ⟨pre, v, hP, hpre, rfl, hK⟩ := pureS_inv h
  unfold PaesField at hP
  split at hP
  · cases hP
    exact ⟨rfl, fun w0 fp ρi => waesField _ _ _ hK (okaesField _ _ _ hpre)⟩
  · cases hP
end Go.Proofs.Ytefmjmghkedciaa
