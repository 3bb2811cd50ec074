/- Part of the proof: SxWordK2. -/
import Derived.Test.YtinjdimejijabaaSxRegN2
import Derived.Test.YtinjdimejijabaaSxWordK
import Derived.KernelRfl
set_option linter.unusedVariables false
set_option linter.unusedSimpArgs false
set_option maxRecDepth 20000
namespace Go.Proofs.Ytinjdimejijabaa
open Go.Sx
def ZsE : ZeX := fun args => match args with
  | [.agg [.one (.int .i64 av), .one (.int .i64 au), .one (.int .i64 ar), .one (.int .i64 aq), .one (.int .i64 ap), .one (.int .i64 ao), .one (.int .u64 an), .one (.int .i64 am), .one (.int .i64 al), .one (.int .i64 ak), .one (.int .i64 aj), .one (.int .i64 ai), .one (.int .i64 ah), .one (.int .i64 ag), .ints .u8 ac af, .ints .u8 ab ae], .agg [.one (.int .i64 o_0), .one (.int .i64 o_1), .one (.int .i64 o_2), .one (.int .u64 o_3), .one (.int .u64 o_4)]] => bif Nat.beq ac 16 && Nat.beq ab 16 then some ((OpV.Wf (OpV.mk o_0 o_1 o_2 o_3 o_4)), .int .i64 (PlanV.opCode (PlanV.mk av au ar aq ap ao an am al ak aj ai ah ag af ae) (OpV.mk o_0 o_1 o_2 o_3 o_4))) else none
  | _ => none
def ZtD : PCon := ⟨58, ZsE⟩
def ZrS : ACode := .reg (.op (some 2) (.box (.tm 0)) (.op (some 3) (.box (.tm 1)) (.op (some 4) (.mov (.cn (.int .i64 0))) .nil)))
def Zn0 : ACode := .reg (.op (some 6) (.loadA 46 (.tm 2)) (.op (some 7) (.call 56 [(.tm 6)]) (.op (some 5) (.mov (.tm 7)) .nil)))
def Zli : ACode := .reg (.op (some 8) (.mov (.tm 5)) (.op (some 9) (.bin .neq (.tm 8) (.cn (.int .i64 0))) .nil))
def ZrR : ACode := .reg (.op (some 10) (.mov (.tm 5)) (.op (some 4) (.mov (.tm 10)) .nil))
def Zlh : ACode := .cond (.tm 9) (.seq ZrR .ret) .skip
def Zg5 : ACode := .reg (.op (some 11) (.fieldAddr (.tm 3) 0 1) (.op (some 12) (.load1 (.tm 11)) .nil))
def ZrQ : ACode := .reg (.op (some 14) (.bin .eql (.tm 12) (.cn (.int .i64 6))) (.op (some 13) (.mov (.tm 14)) .nil))
def ZrP : ACode := .cond (.tm 13) (.exit 1) .skip
def Zlg : ACode := .reg (.op (some 16) (.bin .eql (.tm 12) (.cn (.int .i64 5))) (.op (some 15) (.mov (.tm 16)) .nil))
def Zlf : ACode := .cond (.tm 15) (.exit 2) .skip
def Zgs : ACode := .reg (.op (some 18) (.bin .eql (.tm 12) (.cn (.int .i64 1))) (.op (some 17) (.mov (.tm 18)) .nil))
def ZnZ : ACode := .reg (.op (some 19) (.bin .eql (.tm 12) (.cn (.int .i64 2))) (.op (some 17) (.mov (.tm 19)) .nil))
def ZnY : ACode := .reg (.op (some 20) (.bin .eql (.tm 12) (.cn (.int .i64 3))) (.op (some 17) (.mov (.tm 20)) .nil))
def ZnX : ACode := .reg (.op (some 21) (.bin .eql (.tm 12) (.cn (.int .i64 4))) (.op (some 17) (.mov (.tm 21)) .nil))
def ZnW : ACode := .cond (.tm 17) .skip ZnX
def ZnV : ACode := .cond (.tm 17) .skip (.seq ZnY ZnW)
def Zgr : ACode := .cond (.tm 17) .skip (.seq ZnZ ZnV)
def Zdw : ACode := .cond (.tm 17) (.exit 3) .skip
def Zud : ACode := .block 1 (.seq (.seq (.seq ZrQ ZrP) (.seq (.seq Zlg Zlf) (.seq (.seq Zgs Zgr) Zdw))) (.exit 0))
def ZiO : ACode := .reg (.op (some 4) (.mov (.cn (.int .i64 0))) .nil)
def Zuc : ACode := .block 2 (.seq Zud (.seq (.seq ZiO .ret) (.exit 0)))
def ZiN : ACode := .reg (.op (some 22) (.fieldAddr (.tm 3) 2 1) (.op none (.store1 (.tm 22) (.cn (.int .i64 1))) .nil))
def Zub : ACode := .block 3 (.seq Zuc ZiN)
def ZiM : ACode := .reg (.op (some 24) (.loadA 46 (.tm 2)) (.op (some 25) (.fieldAddr (.tm 3) 1 1) (.op (some 26) (.load1 (.tm 25)) (.op (some 27) (.fieldAddr (.tm 3) 2 1) (.op (some 28) (.load1 (.tm 27)) (.op (some 29) (.call 73 [(.tm 24), (.tm 26), (.tm 28)]) (.op (some 23) (.mov (.tm 29)) (.op (some 30) (.extract (.tm 23) 0) (.op (some 31) (.extract (.tm 23) 1) (.op (some 32) (.extract (.tm 23) 2) (.op (some 4) (.mov (.tm 32)) .nil)))))))))))
def ZhA : ACode := .reg (.op (some 33) (.mov (.tm 4)) (.op (some 4) (.mov (.tm 33)) .nil))
def Zfs : ACode := .block 0 (.seq Zub (.seq (.seq ZiM (.seq ZhA .ret)) (.exit 0)))
def Zd7 : ACode := .reg (.op (some 4) (.mov (.cn (.int .i64 1))) .nil)
def Zye : ACode := (.seq ZrS (.seq (.seq Zn0 (.seq Zli Zlh)) (.seq (.seq Zg5 Zfs) (.seq Zd7 .ret))))
def ZcZ : Res := .one (.tm 4)
theorem ZpM : ZbE Try.prog 58 2 34 Zye ZcZ = true := by kernel_rfl
def Zdp : Zbe := ZdX [ZmX, Zw8] []
theorem ZcR : Zbg Try.prog Zdp := ZbH ⟨ZqH, Zza, trivial⟩ trivial
section
variable {w0 : World} {fp : Nat -> Nat -> Prop} {ρi : Rho} {Kf : SVal -> Heap -> Prop}
abbrev Yd0 (x0 : Int) : Env := [(4, some (.int .i64 x0))]
abbrev Yd1 : Heap := ⟨2, []⟩
theorem ZJd (p : PlanV) (o : OpV) (v5 : Int) (Z : Env -> Heap -> Prop) (h : Z (Yd0 v5) Yd1) : EvC Zdp ZrR [(5, some (.int .i64 v5))] Yd1 [4] [] Z := EvC.of (by kernel_rfl) h
theorem ZDW (p : PlanV) (o : OpV) (v5 : Int) : RetC ZcZ (Yd0 v5) Yd1 (.int .i64 v5) := RetC.of (fun Z => by kernel_rfl)
def Zwe (p : PlanV) (o : OpV) (v5 : Int) : Prop := v5 = (PlanV.opCode p o)
abbrev Yd2 : Heap := ⟨0, []⟩
abbrev Yd3 (x0 : SVal -> Heap -> Prop) (x1 : PlanV) (x2 : OpV) : Prop := x0 (.int .i64 (PlanV.opCode x1 x2)) ⟨0, []⟩
theorem ZMx (p : PlanV) (o : OpV) (hK : (Yd3 Kf p o)) (v5 : Int) (h : Zwe p o v5) : SemL Try.prog w0 fp ρi 0 34 [ZrR, .ret, (.seq (.seq Zg5 Zfs) (.seq Zd7 .ret))] [(5, some (.int .i64 v5))] Yd1 (fnK ZcZ 0 Kf) :=
  Zae ZcR (ZJd p o v5 _ (Za7 (R := ZcZ) (m := 0) (Kf := Kf) (fun _ _ h => h) (ZDW p o v5) (Za6 rfl (by kernel_rfl) (cg1 (fun (z1 : Int) => (.int .i64 z1 : SVal)) h) hK)))
def ZkW (w0 : World) (fp : Nat -> Nat -> Prop) (ρi : Rho) (Kf : SVal -> Heap -> Prop) (p : PlanV) (o : OpV) : ZdV := Zch 0 (fun e H => SemL Try.prog w0 fp ρi 0 34 [(.seq Zd7 .ret)] e H (fnK ZcZ 0 Kf)) (fnK ZcZ 0 Kf)
def Zm4 (w0 : World) (fp : Nat -> Nat -> Prop) (ρi : Rho) (Kf : SVal -> Heap -> Prop) (p : PlanV) (o : OpV) : ZdV := Zch 3 (fun e H => SemL Try.prog w0 fp ρi 0 34 [(.seq (.seq ZiM (.seq ZhA .ret)) (.exit 0))] e H (ZkW w0 fp ρi Kf p o)) (ZkW w0 fp ρi Kf p o)
def Zm3 (w0 : World) (fp : Nat -> Nat -> Prop) (ρi : Rho) (Kf : SVal -> Heap -> Prop) (p : PlanV) (o : OpV) : ZdV := Zch 2 (fun e H => SemL Try.prog w0 fp ρi 0 34 [ZiN] e H (Zm4 w0 fp ρi Kf p o)) (Zm4 w0 fp ρi Kf p o)
abbrev Yd4 : Env := [(4, some (.int .i64 0))]
theorem ZJc (p : PlanV) (o : OpV) (Z : Env -> Heap -> Prop) (h : Z Yd4 Yd1) : EvC Zdp ZiO [] Yd1 [4] [] Z := EvC.of (by kernel_rfl) h
theorem ZDV (p : PlanV) (o : OpV) : RetC ZcZ Yd4 Yd1 (.int .i64 0) := RetC.of (fun Z => by kernel_rfl)
def Zwd (p : PlanV) (o : OpV) : Prop := 0 = (PlanV.opCode p o)
theorem ZMw (p : PlanV) (o : OpV) (hK : (Yd3 Kf p o)) (h : Zwd p o) : SemL Try.prog w0 fp ρi 0 34 [ZiO, .ret, (.exit 0)] [] Yd1 (Zm3 w0 fp ρi Kf p o) :=
  Zae ZcR (ZJc p o _ (Za7 (R := ZcZ) (m := 0) (Kf := Kf) (fun _ _ h => h) (ZDV p o) (Za6 rfl (by kernel_rfl) (cg1 (fun (z1 : Int) => (.int .i64 z1 : SVal)) h) hK)))
theorem ZJb (p : PlanV) (o : OpV) (v4 : Int) (Z : Env -> Heap -> Prop) (h : Z (Yd0 v4) Yd1) : EvC Zdp ZhA (Yd0 v4) Yd1 [4] [] Z := EvC.of (by kernel_rfl) h
theorem ZDU (p : PlanV) (o : OpV) (v4 : Int) : RetC ZcZ (Yd0 v4) Yd1 (.int .i64 v4) := RetC.of (fun Z => by kernel_rfl)
def Zwc (p : PlanV) (o : OpV) (v4 : Int) : Prop := v4 = (PlanV.opCode p o)
theorem ZMv (p : PlanV) (o : OpV) (hK : (Yd3 Kf p o)) (v4 : Int) (h : Zwc p o v4) : SemL Try.prog w0 fp ρi 0 34 [ZhA, .ret, (.exit 0)] (Yd0 v4) Yd1 (ZkW w0 fp ρi Kf p o) :=
  Zae ZcR (ZJb p o v4 _ (Za7 (R := ZcZ) (m := 0) (Kf := Kf) (fun _ _ h => h) (ZDU p o v4) (Za6 rfl (by kernel_rfl) (cg1 (fun (z1 : Int) => (.int .i64 z1 : SVal)) h) hK)))
abbrev Yd5 : Env := [(2, some (.ptr ⟨0, 0, 0, 1⟩ 46)), (3, some (.ptr ⟨1, 0, 0, 1⟩ 5))]
abbrev Yd6 (x0 : PlanV) (x1 : OpV) (x2 : Int) : Heap := ⟨2, [(0, some ⟨true, (PlanV.cs x0), 0⟩), (1, some ⟨true, [.i x1.okind, .i x1.oat, .i x2, .one (.int .u64 x1.oval), .one (.int .u64 x1.owant)], 0⟩)]⟩
theorem ZJa (p : PlanV) (o : OpV) (aa : Int) (Z : Env -> Heap -> Prop) (h : ((I64 o.oat /\ I64 aa)) /\ Z [(4, some (.int .i64 (PlanV.codeOf p o.oat aa)))] Yd1) : EvC Zdp ZiM Yd5 (Yd6 p o aa) [4] [] Z := EvC.of (by kernel_rfl) h
def Ztf (p : PlanV) (o : OpV) (aa : Int) : Prop := ((I64 o.oat /\ I64 aa)) /\ (∀ v4 : Int, v4 = (PlanV.codeOf p o.oat aa) -> Zwc p o v4)
theorem ZAZ (p : PlanV) (o : OpV) (hK : (Yd3 Kf p o)) (aa : Int) (h : Ztf p o aa) : SemL Try.prog w0 fp ρi 0 34 [ZiM, (.seq ZhA .ret), (.exit 0)] Yd5 (Yd6 p o aa) (ZkW w0 fp ρi Kf p o) :=
  Zae ZcR (ZJa p o aa _ ⟨h.1, (Zag (ZMv p o hK (PlanV.codeOf p o.oat aa) (h.2 (PlanV.codeOf p o.oat aa) rfl)))⟩)
abbrev Yd7 (x0 : PlanV) (x1 : OpV) : Heap := ⟨2, [(0, some ⟨true, (PlanV.cs x0), 0⟩), (1, some ⟨true, (OpV.cs x1), 0⟩)]⟩
theorem ZI9 (p : PlanV) (o : OpV) (Z : Env -> Heap -> Prop) (h : Z Yd5 ⟨2, [(0, some ⟨true, (PlanV.cs p), 0⟩), (1, some ⟨true, [.i o.okind, .i o.oat, .i 1, .one (.int .u64 o.oval), .one (.int .u64 o.owant)], 0⟩)]⟩) : EvC Zdp ZiN Yd5 (Yd7 p o) [2, 3] [0, 1] Z := EvC.of (by kernel_rfl) h
def Zwb (p : PlanV) (o : OpV) : Prop := Ztf p o 1
theorem ZMu (p : PlanV) (o : OpV) (hK : (Yd3 Kf p o)) (h : Zwb p o) : SemL Try.prog w0 fp ρi 0 34 [ZiN] Yd5 (Yd7 p o) (Zm4 w0 fp ρi Kf p o) :=
  Zae ZcR (ZI9 p o _ (ZdB (Zag (Zag (ZAZ p o hK 1 h)))))
abbrev Yd8 : Env := [(4, some (.int .i64 1))]
theorem ZI8 (p : PlanV) (o : OpV) (Z : Env -> Heap -> Prop) (h : Z Yd8 Yd1) : EvC Zdp Zd7 [] Yd1 [4] [] Z := EvC.of (by kernel_rfl) h
theorem ZDT (p : PlanV) (o : OpV) : RetC ZcZ Yd8 Yd1 (.int .i64 1) := RetC.of (fun Z => by kernel_rfl)
def Zwa (p : PlanV) (o : OpV) : Prop := 1 = (PlanV.opCode p o)
theorem ZMt (p : PlanV) (o : OpV) (hK : (Yd3 Kf p o)) (h : Zwa p o) : SemL Try.prog w0 fp ρi 0 34 [Zd7, .ret] [] Yd1 (fnK ZcZ 0 Kf) :=
  Zae ZcR (ZI8 p o _ (Za7 (R := ZcZ) (m := 0) (Kf := Kf) (fun _ _ h => h) (ZDT p o) (Za6 rfl (by kernel_rfl) (cg1 (fun (z1 : Int) => (.int .i64 z1 : SVal)) h) hK)))
def ZeL (w0 : World) (fp : Nat -> Nat -> Prop) (ρi : Rho) (Kf : SVal -> Heap -> Prop) (p : PlanV) (o : OpV) : ZdV := Zch 1 (fun e H => SemL Try.prog w0 fp ρi 0 34 [(.seq (.seq ZiO .ret) (.exit 0))] e H (Zm3 w0 fp ρi Kf p o)) (Zm3 w0 fp ρi Kf p o)
def ZlX (p : PlanV) (o : OpV) (ad : Bool) : Prop := (ad = true -> (Ztf p o o.on)) /\ (ad = false -> (Zwa p o))
theorem Ztz (p : PlanV) (o : OpV) (hK : (Yd3 Kf p o)) (ad : Bool) (h : ZlX p o ad) : SemL Try.prog w0 fp ρi 0 34 [Zdw, (.exit 0)] [(2, some (.ptr ⟨0, 0, 0, 1⟩ 46)), (3, some (.ptr ⟨1, 0, 0, 1⟩ 5)), (17, some (.bool ad))] (Yd7 p o) (ZeL w0 fp ρi Kf p o) :=
  Za9 (q := ad) (by kernel_rfl) (fun hq => (ZeQ (lpk [2, 3] [0, 1] (Zag (Zag (ZAZ p o hK o.on (h.1 hq))))))) (fun hq => (Zbh (lpk [] [] (ZeQ (Zag (ZMt p o hK (h.2 hq)))))))
abbrev Yd9 (x0 : OpV) : Env := [(2, some (.ptr ⟨0, 0, 0, 1⟩ 46)), (3, some (.ptr ⟨1, 0, 0, 1⟩ 5)), (12, some (.int .i64 x0.okind))]
theorem ZI7 (p : PlanV) (o : OpV) (Z : Env -> Heap -> Prop) (h : Z [(2, some (.ptr ⟨0, 0, 0, 1⟩ 46)), (3, some (.ptr ⟨1, 0, 0, 1⟩ 5)), (17, some (.bool (o.okind == 4)))] (Yd7 p o)) : EvC Zdp ZnX (Yd9 o) (Yd7 p o) [2, 3, 17] [0, 1] Z := EvC.of (by kernel_rfl) h
def Zv9 (p : PlanV) (o : OpV) : Prop := ∀ ad : Bool, ad = (o.okind == 4) -> ZlX p o ad
theorem ZMs (p : PlanV) (o : OpV) (hK : (Yd3 Kf p o)) (h : Zv9 p o) : SemL Try.prog w0 fp ρi 0 34 [ZnX, Zdw, (.exit 0)] (Yd9 o) (Yd7 p o) (ZeL w0 fp ρi Kf p o) :=
  Zae ZcR (ZI7 p o _ (Ztz p o hK (o.okind == 4) (h (o.okind == 4) rfl)))
def Zte (p : PlanV) (o : OpV) : Prop := ((o.okind == 3) = true -> (∀ ad : Bool, ad = (o.okind == 3) -> ZlX p o ad)) /\ ((o.okind == 3) = false -> (Zv9 p o))
abbrev ZRN (x0 : OpV) : Env := [(2, some (.ptr ⟨0, 0, 0, 1⟩ 46)), (3, some (.ptr ⟨1, 0, 0, 1⟩ 5)), (12, some (.int .i64 x0.okind)), (17, some (.bool (x0.okind == 3)))]
theorem ZMr (p : PlanV) (o : OpV) (hK : (Yd3 Kf p o)) (h : Zte p o) : SemL Try.prog w0 fp ρi 0 34 [ZnW, Zdw, (.exit 0)] (ZRN o) (Yd7 p o) (ZeL w0 fp ρi Kf p o) :=
  Za9 (q := (o.okind == 3)) (by kernel_rfl) (fun hq => (Zbh (lpk [2, 3, 17] [0, 1] (Ztz p o hK (o.okind == 3) ((h.1 hq) (o.okind == 3) rfl))))) (fun hq => (lpk [2, 3, 12] [0, 1] (ZMs p o hK (h.2 hq))))
theorem ZI6 (p : PlanV) (o : OpV) (Z : Env -> Heap -> Prop) (h : Z (ZRN o) (Yd7 p o)) : EvC Zdp ZnY (Yd9 o) (Yd7 p o) [2, 3, 12, 17] [0, 1] Z := EvC.of (by kernel_rfl) h
theorem ZMq (p : PlanV) (o : OpV) (hK : (Yd3 Kf p o)) (h : Zte p o) : SemL Try.prog w0 fp ρi 0 34 [ZnY, ZnW, Zdw, (.exit 0)] (Yd9 o) (Yd7 p o) (ZeL w0 fp ρi Kf p o) :=
  Zae ZcR (ZI6 p o _ (ZMr p o hK h))
def Zmy (p : PlanV) (o : OpV) : Prop := ((o.okind == 2) = true -> (∀ ad : Bool, ad = (o.okind == 2) -> ZlX p o ad)) /\ ((o.okind == 2) = false -> (Zte p o))
abbrev ZRM (x0 : OpV) : Env := [(2, some (.ptr ⟨0, 0, 0, 1⟩ 46)), (3, some (.ptr ⟨1, 0, 0, 1⟩ 5)), (12, some (.int .i64 x0.okind)), (17, some (.bool (x0.okind == 2)))]
theorem ZFn (p : PlanV) (o : OpV) (hK : (Yd3 Kf p o)) (h : Zmy p o) : SemL Try.prog w0 fp ρi 0 34 [ZnV, Zdw, (.exit 0)] (ZRM o) (Yd7 p o) (ZeL w0 fp ρi Kf p o) :=
  Za9 (q := (o.okind == 2)) (by kernel_rfl) (fun hq => (Zbh (lpk [2, 3, 17] [0, 1] (Ztz p o hK (o.okind == 2) ((h.1 hq) (o.okind == 2) rfl))))) (fun hq => (Zag (lpk [2, 3, 12] [0, 1] (ZMq p o hK (h.2 hq)))))
theorem ZCz (p : PlanV) (o : OpV) (Z : Env -> Heap -> Prop) (h : Z (ZRM o) (Yd7 p o)) : EvC Zdp ZnZ (Yd9 o) (Yd7 p o) [2, 3, 12, 17] [0, 1] Z := EvC.of (by kernel_rfl) h
theorem ZFm (p : PlanV) (o : OpV) (hK : (Yd3 Kf p o)) (h : Zmy p o) : SemL Try.prog w0 fp ρi 0 34 [ZnZ, ZnV, Zdw, (.exit 0)] (Yd9 o) (Yd7 p o) (ZeL w0 fp ρi Kf p o) :=
  Zae ZcR (ZCz p o _ (ZFn p o hK h))
def Zmx (p : PlanV) (o : OpV) : Prop := ((o.okind == 1) = true -> (∀ ad : Bool, ad = (o.okind == 1) -> ZlX p o ad)) /\ ((o.okind == 1) = false -> (Zmy p o))
abbrev ZRL (x0 : OpV) : Env := [(2, some (.ptr ⟨0, 0, 0, 1⟩ 46)), (3, some (.ptr ⟨1, 0, 0, 1⟩ 5)), (12, some (.int .i64 x0.okind)), (17, some (.bool (x0.okind == 1)))]
theorem ZFl (p : PlanV) (o : OpV) (hK : (Yd3 Kf p o)) (h : Zmx p o) : SemL Try.prog w0 fp ρi 0 34 [Zgr, Zdw, (.exit 0)] (ZRL o) (Yd7 p o) (ZeL w0 fp ρi Kf p o) :=
  Za9 (q := (o.okind == 1)) (by kernel_rfl) (fun hq => (Zbh (lpk [2, 3, 17] [0, 1] (Ztz p o hK (o.okind == 1) ((h.1 hq) (o.okind == 1) rfl))))) (fun hq => (Zag (lpk [2, 3, 12] [0, 1] (ZFm p o hK (h.2 hq)))))
theorem ZCy (p : PlanV) (o : OpV) (Z : Env -> Heap -> Prop) (h : Z (ZRL o) (Yd7 p o)) : EvC Zdp Zgs (Yd9 o) (Yd7 p o) [2, 3, 12, 17] [0, 1] Z := EvC.of (by kernel_rfl) h
theorem ZFk (p : PlanV) (o : OpV) (hK : (Yd3 Kf p o)) (h : Zmx p o) : SemL Try.prog w0 fp ρi 0 34 [Zgs, Zgr, Zdw, (.exit 0)] (Yd9 o) (Yd7 p o) (ZeL w0 fp ρi Kf p o) :=
  Zae ZcR (ZCy p o _ (ZFl p o hK h))
def Zmw (p : PlanV) (o : OpV) : Prop := ((o.okind == 5) = true -> (Zwb p o)) /\ ((o.okind == 5) = false -> (Zmx p o))
abbrev ZRK (x0 : OpV) : Env := [(2, some (.ptr ⟨0, 0, 0, 1⟩ 46)), (3, some (.ptr ⟨1, 0, 0, 1⟩ 5)), (12, some (.int .i64 x0.okind)), (15, some (.bool (x0.okind == 5)))]
theorem ZFj (p : PlanV) (o : OpV) (hK : (Yd3 Kf p o)) (h : Zmw p o) : SemL Try.prog w0 fp ρi 0 34 [Zlf, (.seq (.seq Zgs Zgr) Zdw), (.exit 0)] (ZRK o) (Yd7 p o) (ZeL w0 fp ρi Kf p o) :=
  Za9 (q := (o.okind == 5)) (by kernel_rfl) (fun hq => (ZeQ (lpk [2, 3] [0, 1] (ZMu p o hK (h.1 hq))))) (fun hq => (Zbh (lpk [2, 3, 12] [0, 1] (Zag (Zag (ZFk p o hK (h.2 hq)))))))
theorem ZCx (p : PlanV) (o : OpV) (Z : Env -> Heap -> Prop) (h : Z (ZRK o) (Yd7 p o)) : EvC Zdp Zlg (Yd9 o) (Yd7 p o) [2, 3, 12, 15] [0, 1] Z := EvC.of (by kernel_rfl) h
theorem ZFi (p : PlanV) (o : OpV) (hK : (Yd3 Kf p o)) (h : Zmw p o) : SemL Try.prog w0 fp ρi 0 34 [Zlg, Zlf, (.seq (.seq Zgs Zgr) Zdw), (.exit 0)] (Yd9 o) (Yd7 p o) (ZeL w0 fp ρi Kf p o) :=
  Zae ZcR (ZCx p o _ (ZFj p o hK h))
def Zf8 (p : PlanV) (o : OpV) : Prop := ((o.okind == 6) = true -> (Zwd p o)) /\ ((o.okind == 6) = false -> (Zmw p o))
abbrev ZRJ (x0 : OpV) : Env := [(2, some (.ptr ⟨0, 0, 0, 1⟩ 46)), (3, some (.ptr ⟨1, 0, 0, 1⟩ 5)), (12, some (.int .i64 x0.okind)), (13, some (.bool (x0.okind == 6)))]
theorem ZFh (p : PlanV) (o : OpV) (hK : (Yd3 Kf p o)) (h : Zf8 p o) : SemL Try.prog w0 fp ρi 0 34 [ZrP, (.seq (.seq Zlg Zlf) (.seq (.seq Zgs Zgr) Zdw)), (.exit 0)] (ZRJ o) (Yd7 p o) (ZeL w0 fp ρi Kf p o) :=
  Za9 (q := (o.okind == 6)) (by kernel_rfl) (fun hq => (ZeQ (lpk [] [] (Zag (Zag (ZMw p o hK (h.1 hq))))))) (fun hq => (Zbh (lpk [2, 3, 12] [0, 1] (Zag (Zag (ZFi p o hK (h.2 hq)))))))
theorem ZCw (p : PlanV) (o : OpV) (Z : Env -> Heap -> Prop) (h : Z (ZRJ o) (Yd7 p o)) : EvC Zdp ZrQ (Yd9 o) (Yd7 p o) [2, 3, 12, 13] [0, 1] Z := EvC.of (by kernel_rfl) h
theorem ZFg (p : PlanV) (o : OpV) (hK : (Yd3 Kf p o)) (h : Zf8 p o) : SemL Try.prog w0 fp ρi 0 34 [ZrQ, ZrP, (.seq (.seq Zlg Zlf) (.seq (.seq Zgs Zgr) Zdw)), (.exit 0)] (Yd9 o) (Yd7 p o) (ZeL w0 fp ρi Kf p o) :=
  Zae ZcR (ZCw p o _ (ZFh p o hK h))
theorem ZFf (p : PlanV) (o : OpV) (hK : (Yd3 Kf p o)) (h : Zf8 p o) : SemL Try.prog w0 fp ρi 0 34 [Zud, (.seq (.seq ZiO .ret) (.exit 0))] (Yd9 o) (Yd7 p o) (Zm3 w0 fp ρi Kf p o) :=
  ZbN (Zag (Zag (Zag (ZFg p o hK h))))
theorem ZFe (p : PlanV) (o : OpV) (hK : (Yd3 Kf p o)) (h : Zf8 p o) : SemL Try.prog w0 fp ρi 0 34 [Zuc, ZiN] (Yd9 o) (Yd7 p o) (Zm4 w0 fp ρi Kf p o) :=
  ZbN (Zag (ZFf p o hK h))
theorem ZFd (p : PlanV) (o : OpV) (hK : (Yd3 Kf p o)) (h : Zf8 p o) : SemL Try.prog w0 fp ρi 0 34 [Zub, (.seq (.seq ZiM (.seq ZhA .ret)) (.exit 0))] (Yd9 o) (Yd7 p o) (ZkW w0 fp ρi Kf p o) :=
  ZbN (Zag (ZFe p o hK h))
theorem ZFc (p : PlanV) (o : OpV) (hK : (Yd3 Kf p o)) (h : Zf8 p o) : SemL Try.prog w0 fp ρi 0 34 [Zfs, (.seq Zd7 .ret)] (Yd9 o) (Yd7 p o) (fnK ZcZ 0 Kf) :=
  ZbN (Zag (ZFd p o hK h))
theorem ZCv (p : PlanV) (o : OpV) (Z : Env -> Heap -> Prop) (h : Z (Yd9 o) (Yd7 p o)) : EvC Zdp Zg5 Yd5 (Yd7 p o) [2, 3, 12] [0, 1] Z := EvC.of (by kernel_rfl) h
theorem ZFb (p : PlanV) (o : OpV) (hK : (Yd3 Kf p o)) (h : Zf8 p o) : SemL Try.prog w0 fp ρi 0 34 [Zg5, Zfs, (.seq Zd7 .ret)] Yd5 (Yd7 p o) (fnK ZcZ 0 Kf) :=
  Zae ZcR (ZCv p o _ (ZFc p o hK h))
def Zmv (p : PlanV) (o : OpV) (v5 : Int) : Prop := ((v5 != 0) = true -> (Zwe p o v5)) /\ ((v5 != 0) = false -> (Zf8 p o))
abbrev ZRI (x0 : Int) : Env := [(2, some (.ptr ⟨0, 0, 0, 1⟩ 46)), (3, some (.ptr ⟨1, 0, 0, 1⟩ 5)), (5, some (.int .i64 x0)), (9, some (.bool (x0 != 0)))]
theorem ZFa (p : PlanV) (o : OpV) (hK : (Yd3 Kf p o)) (v5 : Int) (h : Zmv p o v5) : SemL Try.prog w0 fp ρi 0 34 [Zlh, (.seq (.seq Zg5 Zfs) (.seq Zd7 .ret))] (ZRI v5) (Yd7 p o) (fnK ZcZ 0 Kf) :=
  Za9 (q := (v5 != 0)) (by kernel_rfl) (fun hq => (Zag (lpk [5] [] (ZMx p o hK v5 (h.1 hq))))) (fun hq => (Zbh (lpk [2, 3] [0, 1] (Zag (Zag (ZFb p o hK (h.2 hq)))))))
abbrev ZOB (x0 : Int) : Env := [(2, some (.ptr ⟨0, 0, 0, 1⟩ 46)), (3, some (.ptr ⟨1, 0, 0, 1⟩ 5)), (5, some (.int .i64 x0))]
theorem ZCu (p : PlanV) (o : OpV) (v5 : Int) (Z : Env -> Heap -> Prop) (h : Z (ZRI v5) (Yd7 p o)) : EvC Zdp Zli (ZOB v5) (Yd7 p o) [2, 3, 5, 9] [0, 1] Z := EvC.of (by kernel_rfl) h
theorem ZE9 (p : PlanV) (o : OpV) (hK : (Yd3 Kf p o)) (v5 : Int) (h : Zmv p o v5) : SemL Try.prog w0 fp ρi 0 34 [Zli, Zlh, (.seq (.seq Zg5 Zfs) (.seq Zd7 .ret))] (ZOB v5) (Yd7 p o) (fnK ZcZ 0 Kf) :=
  Zae ZcR (ZCu p o v5 _ (ZFa p o hK v5 h))
theorem ZCt (p : PlanV) (o : OpV) (Z : Env -> Heap -> Prop) (h : (True) /\ Z [(2, some (.ptr ⟨0, 0, 0, 1⟩ 46)), (3, some (.ptr ⟨1, 0, 0, 1⟩ 5)), (5, some (.int .i64 (bif PlanV.right p then 0 else 4 : Int)))] (Yd7 p o)) : EvC Zdp Zn0 Yd5 (Yd7 p o) [2, 3, 5] [0, 1] Z := EvC.of (by kernel_rfl) h
def ZkE (p : PlanV) (o : OpV) : Prop := ∀ v5 : Int, v5 = (bif PlanV.right p then 0 else 4 : Int) -> Zmv p o v5
theorem ZE8 (p : PlanV) (o : OpV) (hK : (Yd3 Kf p o)) (h : ZkE p o) : SemL Try.prog w0 fp ρi 0 34 [Zn0, (.seq Zli Zlh), (.seq (.seq Zg5 Zfs) (.seq Zd7 .ret))] Yd5 (Yd7 p o) (fnK ZcZ 0 Kf) :=
  Zae ZcR (ZCt p o _ ⟨True.intro, (Zag (ZE9 p o hK (bif PlanV.right p then 0 else 4 : Int) (h (bif PlanV.right p then 0 else 4 : Int) rfl)))⟩)
abbrev ZAU (x0 : PlanV) (x1 : OpV) : Env := [(0, some (.agg (PlanV.cs x0))), (1, some (.agg (OpV.cs x1)))]
theorem ZCs (p : PlanV) (o : OpV) (Z : Env -> Heap -> Prop) (h : Z Yd5 (Yd7 p o)) : EvC Zdp ZrS (ZAU p o) Yd2 [2, 3] [0, 1] Z := EvC.of (by kernel_rfl) h
theorem ZE7 (p : PlanV) (o : OpV) (hK : (Yd3 Kf p o)) (h : ZkE p o) : SemL Try.prog w0 fp ρi 0 34 [ZrS, (.seq (.seq Zn0 (.seq Zli Zlh)) (.seq (.seq Zg5 Zfs) (.seq Zd7 .ret)))] (ZAU p o) Yd2 (fnK ZcZ 0 Kf) :=
  Zae ZcR (ZCs p o _ (Zag (Zag (ZE8 p o hK h))))
theorem ZBE (p : PlanV) (o : OpV) (hK : (Yd3 Kf p o)) (h : ZkE p o) : SemL Try.prog w0 fp ρi 0 34 [Zye] (ZAU p o) Yd2 (fnK ZcZ 0 Kf) :=
  (Zag (ZE7 p o hK h))
end
theorem ZAc (p : PlanV) (o : OpV) (hpre : (OpV.Wf o)) : ZkE p o := by
  unfold ZkE Zmv Zf8 Zmw Zmx Zmy Zte Zv9 ZlX Zwa Zwb Ztf Zwc Zwd Zwe
  obtain ⟨w1, w2, w3, w4, w5⟩ := hpre
  have i1 : I64 1 := by unfold I64; decide
  cases hr : p.right with
  | false =>
    rintro _ rfl
    exact ⟨fun _ => (PlanV.opc4 hr).symm, fun h => by cases h⟩
  | true =>
    rintro _ rfl
    simp only [beq_iff_eq, beq_eq_false_iff_ne, ne_eq]
    refine ⟨fun h => (by cases h), fun _ => ⟨fun h => (PlanV.opc0 hr h).symm, fun h6 => ⟨fun h => ⟨⟨w2, i1⟩, ?_⟩, fun h5 => ?_⟩⟩⟩
    · rintro _ rfl
      exact (PlanV.opcF hr h).symm
    have both : ∀ q : Bool, (q = true -> 1 <= o.okind /\ o.okind <= 4) -> (q = false -> ¬ (1 <= o.okind /\ o.okind <= 6)) -> (q = true -> (I64 o.oat /\ I64 o.on) /\ ∀ v4 : Int, v4 = p.codeOf o.oat o.on -> v4 = p.opCode o) /\ (q = false -> 1 = p.opCode o) := fun q h1 h2 => by
      refine ⟨fun h => ⟨⟨w2, w3⟩, ?_⟩, fun h => (PlanV.opc1 hr (h2 h)).symm⟩
      rintro _ rfl
      exact (PlanV.opcE hr (h1 h).1 (h1 h).2).symm
    refine ⟨fun h => ?_, fun h1 => ⟨fun h => ?_, fun h2 => ⟨fun h => ?_, fun h3 => ?_⟩⟩⟩
    all_goals
      rintro _ rfl
      refine both _ (fun hq => ?_) (fun hq => ?_)
      · have := beq_iff_eq.1 hq; omega
      · have := beq_eq_false_iff_ne.1 hq; omega
theorem ZwR : Sound Try.prog 58 (ZeA ZsE) := by
  refine Zbq ZpM ?_
  intro args H K h
  obtain ⟨pre, v, hP, hpre, rfl, hK⟩ := ZbM h
  unfold ZsE at hP
  split at hP
  · obtain ⟨hb, hP⟩ := ZaM hP
    simp only [Bool.and_eq_true] at hb
    obtain ⟨h0, h1⟩ := hb
    obtain rfl := Nat.eq_of_beq_eq_true h0
    obtain rfl := Nat.eq_of_beq_eq_true h1
    cases hP
    exact ⟨rfl, fun w0 fp ρi => ZBE (PlanV.mk _ _ _ _ _ _ _ _ _ _ _ _ _ _ _ _) (OpV.mk _ _ _ _ _) hK (ZAc (PlanV.mk _ _ _ _ _ _ _ _ _ _ _ _ _ _ _ _) (OpV.mk _ _ _ _ _) hpre)⟩
  · cases hP
def ZlJ : ZeX := fun args => match args with
  | [.agg [.one (.int .i64 av), .one (.int .i64 au), .one (.int .i64 ar), .one (.int .i64 aq), .one (.int .i64 ap), .one (.int .i64 ao), .one (.int .u64 an), .one (.int .i64 am), .one (.int .i64 al), .one (.int .i64 ak), .one (.int .i64 aj), .one (.int .i64 ai), .one (.int .i64 ah), .one (.int .i64 ag), .ints .u8 ac af, .ints .u8 ab ae], .agg [.one (.int .i64 o_0), .one (.int .i64 o_1), .one (.int .i64 o_2), .one (.int .u64 o_3), .one (.int .u64 o_4)]] => bif Nat.beq ac 16 && Nat.beq ab 16 then some ((OpV.Wf (OpV.mk o_0 o_1 o_2 o_3 o_4)), .int .i64 (PlanV.opCode (PlanV.mk av au ar aq ap ao an am al ak aj ai ah ag af ae) (OpV.mk o_0 o_1 o_2 o_3 o_4))) else none
  | _ => none
def ZuE : PCon := ⟨62, ZlJ⟩
def ZrJ : ACode := .reg (.op (some 2) (.box (.tm 0)) (.op (some 3) (.box (.tm 1)) (.op (some 4) (.mov (.cn (.int .i64 0))) .nil)))
def ZnH : ACode := .reg (.op (some 9) (.loadA 46 (.tm 2)) (.op (some 10) (.call 29 [(.tm 9)]) (.op (some 11) (.not (.tm 10)) .nil)))
def ZrI : ACode := .reg (.op (some 4) (.mov (.cn (.int .i64 4))) .nil)
def ZnF : ACode := .cond (.tm 11) (.seq ZrI .ret) .skip
def ZhY : ACode := .reg (.op (some 12) (.fieldAddr (.tm 3) 0 1) (.op (some 13) (.load1 (.tm 12)) (.op (some 14) (.bin .lss (.tm 13) (.cn (.int .i64 1))) (.op (some 15) (.mov (.tm 14)) (.grpJ 15 false (.op (some 16) (.fieldAddr (.tm 3) 0 1) (.op (some 17) (.load1 (.tm 16)) (.op (some 18) (.bin .gtr (.tm 17) (.cn (.int .i64 6))) .nil))) 19 (.tm 18) (.cn (.bool true)) .nil)))))
def ZrH : ACode := .reg (.op (some 4) (.mov (.cn (.int .i64 1))) .nil)
def ZhX : ACode := .cond (.tm 19) (.seq ZrH .ret) .skip
def ZfH : ACode := .reg (.op (some 20) (.fieldAddr (.tm 3) 0 1) (.op (some 21) (.load1 (.tm 20)) (.op (some 22) (.bin .eql (.tm 21) (.cn (.int .i64 6))) .nil)))
def ZrG : ACode := .reg (.op (some 4) (.mov (.cn (.int .i64 0))) .nil)
def ZfG : ACode := .cond (.tm 22) (.seq ZrG .ret) .skip
def Zdv : ACode := .reg (.op (some 23) (.fieldAddr (.tm 3) 2 1) (.op (some 24) (.load1 (.tm 23)) (.op (some 5) (.mov (.tm 24)) .nil)))
def Zdg : ACode := .reg (.op (some 25) (.fieldAddr (.tm 3) 0 1) (.op (some 26) (.load1 (.tm 25)) (.op (some 27) (.bin .eql (.tm 26) (.cn (.int .i64 5))) .nil)))
def ZnG : ACode := .reg (.op (some 5) (.mov (.cn (.int .i64 1))) .nil)
def Zdf : ACode := .cond (.tm 27) ZnG .skip
def ZcF : ACode := .reg (.op (some 29) (.loadA 46 (.tm 2)) (.op (some 30) (.fieldAddr (.tm 3) 1 1) (.op (some 31) (.load1 (.tm 30)) (.op (some 32) (.mov (.tm 5)) (.op (some 33) (.call 79 [(.tm 29), (.tm 31), (.tm 32)]) (.op (some 28) (.mov (.tm 33)) (.op (some 34) (.extract (.tm 28) 0) (.op (some 35) (.extract (.tm 28) 1) (.op (some 36) (.extract (.tm 28) 2) (.op (some 6) (.mov (.tm 34)) (.op (some 7) (.mov (.tm 35)) (.op (some 8) (.mov (.tm 36)) .nil))))))))))))
def Zcw : ACode := .reg (.op (some 37) (.mov (.tm 8)) (.op (some 4) (.mov (.tm 37)) .nil))
def ZpS : ACode := (.seq ZrJ (.seq (.seq ZnH ZnF) (.seq (.seq ZhY ZhX) (.seq (.seq ZfH ZfG) (.seq Zdv (.seq (.seq Zdg Zdf) (.seq ZcF (.seq Zcw .ret))))))))
def Zbx : Res := .one (.tm 4)
theorem ZlT : ZbE Try.prog 62 2 38 ZpS Zbx = true := by kernel_rfl
def Zc1 : Zbe := ZdX [Zkd, ZGA] []
theorem ZcD : Zbg Try.prog Zc1 := ZbH ⟨ZmQ, ZHA, trivial⟩ trivial
section
variable {w0 : World} {fp : Nat -> Nat -> Prop} {ρi : Rho} {Kf : SVal -> Heap -> Prop}
theorem ZIT (p : PlanV) (o : OpV) (Z : Env -> Heap -> Prop) (h : Z [(4, some (.int .i64 4))] Yd1) : EvC Zc1 ZrI [] Yd1 [4] [] Z := EvC.of (by kernel_rfl) h
theorem ZDM (p : PlanV) (o : OpV) : RetC Zbx [(4, some (.int .i64 4))] Yd1 (.int .i64 4) := RetC.of (fun Z => by kernel_rfl)
def Zv0 (p : PlanV) (o : OpV) : Prop := 4 = (PlanV.opCode p o)
theorem ZMb (p : PlanV) (o : OpV) (hK : (Yd3 Kf p o)) (h : Zv0 p o) : SemL Try.prog w0 fp ρi 0 38 [ZrI, .ret, (.seq (.seq ZhY ZhX) (.seq (.seq ZfH ZfG) (.seq Zdv (.seq (.seq Zdg Zdf) (.seq ZcF (.seq Zcw .ret))))))] [] Yd1 (fnK Zbx 0 Kf) :=
  Zae ZcD (ZIT p o _ (Za7 (R := Zbx) (m := 0) (Kf := Kf) (fun _ _ h => h) (ZDM p o) (Za6 rfl (by kernel_rfl) (cg1 (fun (z1 : Int) => (.int .i64 z1 : SVal)) h) hK)))
theorem ZIS (p : PlanV) (o : OpV) (Z : Env -> Heap -> Prop) (h : Z Yd8 Yd1) : EvC Zc1 ZrH [] Yd1 [4] [] Z := EvC.of (by kernel_rfl) h
theorem ZDL (p : PlanV) (o : OpV) : RetC Zbx Yd8 Yd1 (.int .i64 1) := RetC.of (fun Z => by kernel_rfl)
def ZvZ (p : PlanV) (o : OpV) : Prop := 1 = (PlanV.opCode p o)
theorem ZMa (p : PlanV) (o : OpV) (hK : (Yd3 Kf p o)) (h : ZvZ p o) : SemL Try.prog w0 fp ρi 0 38 [ZrH, .ret, (.seq (.seq ZfH ZfG) (.seq Zdv (.seq (.seq Zdg Zdf) (.seq ZcF (.seq Zcw .ret)))))] [] Yd1 (fnK Zbx 0 Kf) :=
  Zae ZcD (ZIS p o _ (Za7 (R := Zbx) (m := 0) (Kf := Kf) (fun _ _ h => h) (ZDL p o) (Za6 rfl (by kernel_rfl) (cg1 (fun (z1 : Int) => (.int .i64 z1 : SVal)) h) hK)))
theorem ZIR (p : PlanV) (o : OpV) (Z : Env -> Heap -> Prop) (h : Z Yd4 Yd1) : EvC Zc1 ZrG [] Yd1 [4] [] Z := EvC.of (by kernel_rfl) h
theorem ZDK (p : PlanV) (o : OpV) : RetC Zbx Yd4 Yd1 (.int .i64 0) := RetC.of (fun Z => by kernel_rfl)
def ZvY (p : PlanV) (o : OpV) : Prop := 0 = (PlanV.opCode p o)
theorem ZL9 (p : PlanV) (o : OpV) (hK : (Yd3 Kf p o)) (h : ZvY p o) : SemL Try.prog w0 fp ρi 0 38 [ZrG, .ret, (.seq Zdv (.seq (.seq Zdg Zdf) (.seq ZcF (.seq Zcw .ret))))] [] Yd1 (fnK Zbx 0 Kf) :=
  Zae ZcD (ZIR p o _ (Za7 (R := Zbx) (m := 0) (Kf := Kf) (fun _ _ h => h) (ZDK p o) (Za6 rfl (by kernel_rfl) (cg1 (fun (z1 : Int) => (.int .i64 z1 : SVal)) h) hK)))
theorem ZIQ (p : PlanV) (o : OpV) (v8 : Int) (Z : Env -> Heap -> Prop) (h : Z (Yd0 v8) Yd1) : EvC Zc1 Zcw [(8, some (.int .i64 v8))] Yd1 [4] [] Z := EvC.of (by kernel_rfl) h
theorem ZDJ (p : PlanV) (o : OpV) (v8 : Int) : RetC Zbx (Yd0 v8) Yd1 (.int .i64 v8) := RetC.of (fun Z => by kernel_rfl)
def ZvX (p : PlanV) (o : OpV) (v8 : Int) : Prop := v8 = (PlanV.opCode p o)
theorem ZL8 (p : PlanV) (o : OpV) (hK : (Yd3 Kf p o)) (v8 : Int) (h : ZvX p o v8) : SemL Try.prog w0 fp ρi 0 38 [Zcw, .ret] [(8, some (.int .i64 v8))] Yd1 (fnK Zbx 0 Kf) :=
  Zae ZcD (ZIQ p o v8 _ (Za7 (R := Zbx) (m := 0) (Kf := Kf) (fun _ _ h => h) (ZDJ p o v8) (Za6 rfl (by kernel_rfl) (cg1 (fun (z1 : Int) => (.int .i64 z1 : SVal)) h) hK)))
theorem ZIP (p : PlanV) (o : OpV) (v5 : Int) (Z : Env -> Heap -> Prop) (h : ((I64 o.oat /\ I64 v5)) /\ Z [(8, some (.int .i64 (PlanV.codeOf p o.oat v5)))] Yd1) : EvC Zc1 ZcF (ZOB v5) (Yd7 p o) [8] [] Z := EvC.of (by kernel_rfl) h
def Ztb (p : PlanV) (o : OpV) (v5 : Int) : Prop := ((I64 o.oat /\ I64 v5)) /\ (∀ v8 : Int, v8 = (PlanV.codeOf p o.oat v5) -> ZvX p o v8)
theorem ZAY (p : PlanV) (o : OpV) (hK : (Yd3 Kf p o)) (v5 : Int) (h : Ztb p o v5) : SemL Try.prog w0 fp ρi 0 38 [ZcF, (.seq Zcw .ret)] (ZOB v5) (Yd7 p o) (fnK Zbx 0 Kf) :=
  Zae ZcD (ZIP p o v5 _ ⟨h.1, (Zag (ZL8 p o hK (PlanV.codeOf p o.oat v5) (h.2 (PlanV.codeOf p o.oat v5) rfl)))⟩)
theorem ZIO (p : PlanV) (o : OpV) (Z : Env -> Heap -> Prop) (h : Z [(2, some (.ptr ⟨0, 0, 0, 1⟩ 46)), (3, some (.ptr ⟨1, 0, 0, 1⟩ 5)), (5, some (.int .i64 1))] (Yd7 p o)) : EvC Zc1 ZnG Yd5 (Yd7 p o) [2, 3, 5] [0, 1] Z := EvC.of (by kernel_rfl) h
def ZvW (p : PlanV) (o : OpV) : Prop := Ztb p o 1
theorem ZL7 (p : PlanV) (o : OpV) (hK : (Yd3 Kf p o)) (h : ZvW p o) : SemL Try.prog w0 fp ρi 0 38 [ZnG, (.seq ZcF (.seq Zcw .ret))] Yd5 (Yd7 p o) (fnK Zbx 0 Kf) :=
  Zae ZcD (ZIO p o _ (Zag (ZAY p o hK 1 h)))
def Zo1 (p : PlanV) (o : OpV) : Prop := ((o.okind == 5) = true -> (ZvW p o)) /\ ((o.okind == 5) = false -> (Ztb p o o.on))
abbrev ZRH (x0 : OpV) : Env := [(2, some (.ptr ⟨0, 0, 0, 1⟩ 46)), (3, some (.ptr ⟨1, 0, 0, 1⟩ 5)), (5, some (.int .i64 x0.on)), (27, some (.bool (x0.okind == 5)))]
theorem ZL6 (p : PlanV) (o : OpV) (hK : (Yd3 Kf p o)) (h : Zo1 p o) : SemL Try.prog w0 fp ρi 0 38 [Zdf, (.seq ZcF (.seq Zcw .ret))] (ZRH o) (Yd7 p o) (fnK Zbx 0 Kf) :=
  Za9 (q := (o.okind == 5)) (by kernel_rfl) (fun hq => (lpk [2, 3] [0, 1] (ZL7 p o hK (h.1 hq)))) (fun hq => (Zbh (lpk [2, 3, 5] [0, 1] (Zag (ZAY p o hK o.on (h.2 hq))))))
abbrev ZP0 (x0 : OpV) : Env := [(2, some (.ptr ⟨0, 0, 0, 1⟩ 46)), (3, some (.ptr ⟨1, 0, 0, 1⟩ 5)), (5, some (.int .i64 x0.on))]
theorem ZIN (p : PlanV) (o : OpV) (Z : Env -> Heap -> Prop) (h : Z (ZRH o) (Yd7 p o)) : EvC Zc1 Zdg (ZP0 o) (Yd7 p o) [2, 3, 5, 27] [0, 1] Z := EvC.of (by kernel_rfl) h
theorem ZL5 (p : PlanV) (o : OpV) (hK : (Yd3 Kf p o)) (h : Zo1 p o) : SemL Try.prog w0 fp ρi 0 38 [Zdg, Zdf, (.seq ZcF (.seq Zcw .ret))] (ZP0 o) (Yd7 p o) (fnK Zbx 0 Kf) :=
  Zae ZcD (ZIN p o _ (ZL6 p o hK h))
theorem ZIM (p : PlanV) (o : OpV) (Z : Env -> Heap -> Prop) (h : Z (ZP0 o) (Yd7 p o)) : EvC Zc1 Zdv Yd5 (Yd7 p o) [2, 3, 5] [0, 1] Z := EvC.of (by kernel_rfl) h
theorem ZL4 (p : PlanV) (o : OpV) (hK : (Yd3 Kf p o)) (h : Zo1 p o) : SemL Try.prog w0 fp ρi 0 38 [Zdv, (.seq (.seq Zdg Zdf) (.seq ZcF (.seq Zcw .ret)))] Yd5 (Yd7 p o) (fnK Zbx 0 Kf) :=
  Zae ZcD (ZIM p o _ (Zag (Zag (ZL5 p o hK h))))
def Zta (p : PlanV) (o : OpV) : Prop := ((o.okind == 6) = true -> (ZvY p o)) /\ ((o.okind == 6) = false -> (Zo1 p o))
abbrev ZRG (x0 : OpV) : Env := [(2, some (.ptr ⟨0, 0, 0, 1⟩ 46)), (3, some (.ptr ⟨1, 0, 0, 1⟩ 5)), (22, some (.bool (x0.okind == 6)))]
theorem ZL3 (p : PlanV) (o : OpV) (hK : (Yd3 Kf p o)) (h : Zta p o) : SemL Try.prog w0 fp ρi 0 38 [ZfG, (.seq Zdv (.seq (.seq Zdg Zdf) (.seq ZcF (.seq Zcw .ret))))] (ZRG o) (Yd7 p o) (fnK Zbx 0 Kf) :=
  Za9 (q := (o.okind == 6)) (by kernel_rfl) (fun hq => (Zag (lpk [] [] (ZL9 p o hK (h.1 hq))))) (fun hq => (Zbh (lpk [2, 3] [0, 1] (Zag (ZL4 p o hK (h.2 hq))))))
theorem ZCi (p : PlanV) (o : OpV) (Z : Env -> Heap -> Prop) (h : Z (ZRG o) (Yd7 p o)) : EvC Zc1 ZfH Yd5 (Yd7 p o) [2, 3, 22] [0, 1] Z := EvC.of (by kernel_rfl) h
theorem ZET (p : PlanV) (o : OpV) (hK : (Yd3 Kf p o)) (h : Zta p o) : SemL Try.prog w0 fp ρi 0 38 [ZfH, ZfG, (.seq Zdv (.seq (.seq Zdg Zdf) (.seq ZcF (.seq Zcw .ret))))] Yd5 (Yd7 p o) (fnK Zbx 0 Kf) :=
  Zae ZcD (ZCi p o _ (ZL3 p o hK h))
def Zmt (p : PlanV) (o : OpV) : Prop := (((decide (o.okind < 1)) || (decide (6 < o.okind))) = true -> (ZvZ p o)) /\ (((decide (o.okind < 1)) || (decide (6 < o.okind))) = false -> (Zta p o))
theorem ZES (p : PlanV) (o : OpV) (hK : (Yd3 Kf p o)) (h : Zmt p o) : SemL Try.prog w0 fp ρi 0 38 [ZhX, (.seq (.seq ZfH ZfG) (.seq Zdv (.seq (.seq Zdg Zdf) (.seq ZcF (.seq Zcw .ret)))))] [(2, some (.ptr ⟨0, 0, 0, 1⟩ 46)), (3, some (.ptr ⟨1, 0, 0, 1⟩ 5)), (19, some (.bool ((decide (o.okind < 1)) || (decide (6 < o.okind)))))] (Yd7 p o) (fnK Zbx 0 Kf) :=
  Za9 (q := ((decide (o.okind < 1)) || (decide (6 < o.okind)))) (by kernel_rfl) (fun hq => (Zag (lpk [] [] (ZMa p o hK (h.1 hq))))) (fun hq => (Zbh (lpk [2, 3] [0, 1] (Zag (Zag (ZET p o hK (h.2 hq)))))))
theorem ZCh (p : PlanV) (o : OpV) (Z : Env -> Heap -> Prop) (h : ∃ qq : Bool, ((decide (o.okind < 1)) = false -> (ZaL (Yd7 p o) (Yd7 p o) [(0, some ⟨true, (PlanV.cs p), 0⟩), (1, some ⟨true, (OpV.cs o), 0⟩)]) /\ (decide (6 < o.okind)) = qq) /\ ((decide (o.okind < 1)) = true -> true = qq) /\ Z [(2, some (.ptr ⟨0, 0, 0, 1⟩ 46)), (3, some (.ptr ⟨1, 0, 0, 1⟩ 5)), (19, some (.bool qq))] (Yd7 p o)) : EvC Zc1 ZhY Yd5 (Yd7 p o) [2, 3, 19] [0, 1] Z := EvC.of (by kernel_rfl) h
theorem ZER (p : PlanV) (o : OpV) (hK : (Yd3 Kf p o)) (h : Zmt p o) : SemL Try.prog w0 fp ρi 0 38 [ZhY, ZhX, (.seq (.seq ZfH ZfG) (.seq Zdv (.seq (.seq Zdg Zdf) (.seq ZcF (.seq Zcw .ret)))))] Yd5 (Yd7 p o) (fnK Zbx 0 Kf) :=
  Zae ZcD (ZCh p o _ ⟨((decide (o.okind < 1)) || (decide (6 < o.okind))), fun hc_qq => ⟨(ZaZ _), (qo1 hc_qq)⟩, fun hc_qq => qo2 hc_qq, (ZES p o hK h)⟩)
def Zi7 (p : PlanV) (o : OpV) : Prop := ((!(PlanV.right p)) = true -> (Zv0 p o)) /\ ((!(PlanV.right p)) = false -> (Zmt p o))
abbrev ZRF (x0 : PlanV) : Env := [(2, some (.ptr ⟨0, 0, 0, 1⟩ 46)), (3, some (.ptr ⟨1, 0, 0, 1⟩ 5)), (11, some (.bool (!(PlanV.right x0))))]
theorem ZEQ (p : PlanV) (o : OpV) (hK : (Yd3 Kf p o)) (h : Zi7 p o) : SemL Try.prog w0 fp ρi 0 38 [ZnF, (.seq (.seq ZhY ZhX) (.seq (.seq ZfH ZfG) (.seq Zdv (.seq (.seq Zdg Zdf) (.seq ZcF (.seq Zcw .ret))))))] (ZRF p) (Yd7 p o) (fnK Zbx 0 Kf) :=
  Za9 (q := (!(PlanV.right p))) (by kernel_rfl) (fun hq => (Zag (lpk [] [] (ZMb p o hK (h.1 hq))))) (fun hq => (Zbh (lpk [2, 3] [0, 1] (Zag (Zag (ZER p o hK (h.2 hq)))))))
theorem ZCg (p : PlanV) (o : OpV) (Z : Env -> Heap -> Prop) (h : (True) /\ Z (ZRF p) (Yd7 p o)) : EvC Zc1 ZnH Yd5 (Yd7 p o) [2, 3, 11] [0, 1] Z := EvC.of (by kernel_rfl) h
theorem ZEP (p : PlanV) (o : OpV) (hK : (Yd3 Kf p o)) (h : Zi7 p o) : SemL Try.prog w0 fp ρi 0 38 [ZnH, ZnF, (.seq (.seq ZhY ZhX) (.seq (.seq ZfH ZfG) (.seq Zdv (.seq (.seq Zdg Zdf) (.seq ZcF (.seq Zcw .ret))))))] Yd5 (Yd7 p o) (fnK Zbx 0 Kf) :=
  Zae ZcD (ZCg p o _ ⟨True.intro, (ZEQ p o hK h)⟩)
theorem ZCf (p : PlanV) (o : OpV) (Z : Env -> Heap -> Prop) (h : Z Yd5 (Yd7 p o)) : EvC Zc1 ZrJ (ZAU p o) Yd2 [2, 3] [0, 1] Z := EvC.of (by kernel_rfl) h
theorem ZEO (p : PlanV) (o : OpV) (hK : (Yd3 Kf p o)) (h : Zi7 p o) : SemL Try.prog w0 fp ρi 0 38 [ZrJ, (.seq (.seq ZnH ZnF) (.seq (.seq ZhY ZhX) (.seq (.seq ZfH ZfG) (.seq Zdv (.seq (.seq Zdg Zdf) (.seq ZcF (.seq Zcw .ret)))))))] (ZAU p o) Yd2 (fnK Zbx 0 Kf) :=
  Zae ZcD (ZCf p o _ (Zag (Zag (ZEP p o hK h))))
theorem Zvc (p : PlanV) (o : OpV) (hK : (Yd3 Kf p o)) (h : Zi7 p o) : SemL Try.prog w0 fp ρi 0 38 [ZpS] (ZAU p o) Yd2 (fnK Zbx 0 Kf) :=
  (Zag (ZEO p o hK h))
end
theorem ZuH (p : PlanV) (o : OpV) (hpre : (OpV.Wf o)) : Zi7 p o := by
  unfold Zi7 Zmt Zta Zo1 ZvW Ztb ZvX ZvY ZvZ Zv0
  obtain ⟨w1, w2, w3, w4, w5⟩ := hpre
  have i1 : I64 1 := by unfold I64; decide
  refine ⟨fun h => (PlanV.opc4 (Zge h)).symm, fun h => ?_⟩
  have hr := ZfQ h
  refine ⟨fun h => ?_, fun h => ?_⟩
  · simp only [Bool.or_eq_true, decide_eq_true_eq] at h
    exact (PlanV.opc1 hr (by omega)).symm
  simp only [Bool.or_eq_false_iff, decide_eq_false_iff_not] at h
  simp only [beq_iff_eq, beq_eq_false_iff_ne, ne_eq]
  refine ⟨fun h6 => (PlanV.opc0 hr h6).symm, fun h6 => ⟨fun h5 => ⟨⟨w2, i1⟩, ?_⟩, fun h5 => ⟨⟨w2, w3⟩, ?_⟩⟩⟩
  · rintro _ rfl
    exact (PlanV.opcF hr h5).symm
  · rintro _ rfl
    exact (PlanV.opcE hr (by omega) (by omega)).symm
theorem ZwU : Sound Try.prog 62 (ZeA ZlJ) := by
  refine Zbq ZlT ?_
  intro args H K h
  obtain ⟨pre, v, hP, hpre, rfl, hK⟩ := ZbM h
  unfold ZlJ at hP
  split at hP
  · obtain ⟨hb, hP⟩ := ZaM hP
    simp only [Bool.and_eq_true] at hb
    obtain ⟨h0, h1⟩ := hb
    obtain rfl := Nat.eq_of_beq_eq_true h0
    obtain rfl := Nat.eq_of_beq_eq_true h1
    cases hP
    exact ⟨rfl, fun w0 fp ρi => Zvc (PlanV.mk _ _ _ _ _ _ _ _ _ _ _ _ _ _ _ _) (OpV.mk _ _ _ _ _) hK (ZuH (PlanV.mk _ _ _ _ _ _ _ _ _ _ _ _ _ _ _ _) (OpV.mk _ _ _ _ _) hpre)⟩
  · cases hP
def ZyM : ZeX := fun args => match args with
  | [.agg [.one (.int .i64 av), .one (.int .i64 au), .one (.int .i64 ar), .one (.int .i64 aq), .one (.int .i64 ap), .one (.int .i64 ao), .one (.int .u64 an), .one (.int .i64 am), .one (.int .i64 al), .one (.int .i64 ak), .one (.int .i64 aj), .one (.int .i64 ai), .one (.int .i64 ah), .one (.int .i64 ag), .ints .u8 ac af, .ints .u8 ab ae], .agg [.one (.int .i64 o_0), .one (.int .i64 o_1), .one (.int .i64 o_2), .one (.int .u64 o_3), .one (.int .u64 o_4)]] => bif Nat.beq ac 16 && Nat.beq ab 16 then some ((OpV.Wf (OpV.mk o_0 o_1 o_2 o_3 o_4)), .tuple [.int .i64 (PlanV.opLine (PlanV.mk av au ar aq ap ao an am al ak aj ai ah ag af ae) (OpV.mk o_0 o_1 o_2 o_3 o_4)), .bool (PlanV.opB (PlanV.mk av au ar aq ap ao an am al ak aj ai ah ag af ae) (OpV.mk o_0 o_1 o_2 o_3 o_4))]) else none
  | _ => none
def ZGy : PCon := ⟨59, ZyM⟩
def Zjq (p : PlanV) (o : OpV) (Kf : SVal -> Heap -> Prop) : Prop := Kf (.tuple [.int .i64 (PlanV.opLine p o), .bool (PlanV.opB p o)]) ⟨0, []⟩
def ZrO : ACode := .reg (.op (some 2) (.box (.tm 0)) (.op (some 3) (.box (.tm 1)) (.op (some 4) (.mov (.cn (.int .i64 0))) (.op (some 5) (.mov (.cn (.bool false))) .nil))))
def ZnU : ACode := .reg (.op (some 6) (.loadA 46 (.tm 2)) (.op (some 7) (.loadA 5 (.tm 3)) (.op (some 8) (.call 58 [(.tm 6), (.tm 7)]) (.op (some 9) (.bin .neq (.tm 8) (.cn (.int .i64 0))) (.op (some 10) (.mov (.tm 9)) (.grpJ 10 false (.op (some 11) (.fieldAddr (.tm 3) 0 1) (.op (some 12) (.load1 (.tm 11)) (.op (some 13) (.bin .eql (.tm 12) (.cn (.int .i64 6))) .nil))) 14 (.tm 13) (.cn (.bool true)) .nil))))))
def ZrN : ACode := .reg (.op (some 4) (.mov (.cn (.int .i64 0))) (.op (some 5) (.mov (.cn (.bool false))) .nil))
def ZnT : ACode := .cond (.tm 14) (.seq ZrN .ret) .skip
def Zh0 : ACode := .reg (.op (some 15) (.fieldAddr (.tm 3) 1 1) (.op (some 16) (.load1 (.tm 15)) (.op (some 17) (.bin .quo (.tm 16) (.cn (.int .i64 32))) (.op (some 4) (.mov (.tm 17)) (.op (some 5) (.mov (.cn (.bool true))) .nil)))))
def ZBi : ACode := (.seq ZrO (.seq (.seq ZnU ZnT) (.seq Zh0 .ret)))
def Zhd : Res := .many [.tm 4, .tm 5]
theorem Zsu : ZbE Try.prog 59 2 18 ZBi Zhd = true := by kernel_rfl
def Zp5 : Zbe := ZdX [ZtD] []
theorem Zna : Zbg Try.prog Zp5 := ZbH ⟨ZwR, trivial⟩ trivial
section
variable {w0 : World} {fp : Nat -> Nat -> Prop} {ρi : Rho} {Kf : SVal -> Heap -> Prop}
abbrev ZRE : Env := [(4, some (.int .i64 0)), (5, some (.bool false))]
theorem ZI5 (p : PlanV) (o : OpV) (Z : Env -> Heap -> Prop) (h : Z ZRE Yd1) : EvC Zp5 ZrN [] Yd1 [4, 5] [] Z := EvC.of (by kernel_rfl) h
theorem ZDS (p : PlanV) (o : OpV) : RetC Zhd ZRE Yd1 (.tuple [.int .i64 0, .bool false]) := RetC.of (fun Z => by kernel_rfl)
def Zv8 (p : PlanV) (o : OpV) : Prop := (0 = (PlanV.opLine p o)) /\ (false = (PlanV.opB p o))
theorem ZMp (p : PlanV) (o : OpV) (hK : Zjq p o Kf) (h : Zv8 p o) : SemL Try.prog w0 fp ρi 0 18 [ZrN, .ret, (.seq Zh0 .ret)] [] Yd1 (fnK Zhd 0 Kf) :=
  Zae Zna (ZI5 p o _ (Za7 (R := Zhd) (m := 0) (Kf := Kf) (fun _ _ h => h) (ZDS p o) (Za6 rfl (by kernel_rfl) (cg2 (fun (z1 : Int) (z2 : Bool) => (.tuple [.int .i64 z1, .bool z2] : SVal)) h.1 h.2) hK)))
abbrev ZRD (x0 : OpV) : Env := [(4, some (.int .i64 (IntKind.i64.wrap (Int.tdiv x0.oat 32)))), (5, some (.bool true))]
abbrev ZOA (x0 : OpV) : Heap := ⟨2, [(1, some ⟨true, (OpV.cs x0), 0⟩)]⟩
theorem ZI4 (p : PlanV) (o : OpV) (Z : Env -> Heap -> Prop) (h : (((32 : Int) ≠ 0)) /\ Z (ZRD o) Yd1) : EvC Zp5 Zh0 [(3, some (.ptr ⟨1, 0, 0, 1⟩ 5))] (ZOA o) [4, 5] [] Z := EvC.of (by kernel_rfl) h
theorem ZDR (p : PlanV) (o : OpV) : RetC Zhd (ZRD o) Yd1 (.tuple [.int .i64 (IntKind.i64.wrap (Int.tdiv o.oat 32)), .bool true]) := RetC.of (fun Z => by kernel_rfl)
def Zv7 (p : PlanV) (o : OpV) : Prop := ((IntKind.i64.wrap (Int.tdiv o.oat 32)) = (PlanV.opLine p o)) /\ (true = (PlanV.opB p o))
theorem ZMo (p : PlanV) (o : OpV) (hK : Zjq p o Kf) (h : Zv7 p o) : SemL Try.prog w0 fp ρi 0 18 [Zh0, .ret] [(3, some (.ptr ⟨1, 0, 0, 1⟩ 5))] (ZOA o) (fnK Zhd 0 Kf) :=
  Zae Zna (ZI4 p o _ ⟨(by decide), (Za7 (R := Zhd) (m := 0) (Kf := Kf) (fun _ _ h => h) (ZDR p o) (Za6 rfl (by kernel_rfl) (cg2 (fun (z1 : Int) (z2 : Bool) => (.tuple [.int .i64 z1, .bool z2] : SVal)) h.1 h.2) hK))⟩)
def Zv6 (p : PlanV) (o : OpV) : Prop := ((((PlanV.opCode p o) != 0) || (o.okind == 6)) = true -> (Zv8 p o)) /\ ((((PlanV.opCode p o) != 0) || (o.okind == 6)) = false -> (Zv7 p o))
theorem ZMn (p : PlanV) (o : OpV) (hK : Zjq p o Kf) (h : Zv6 p o) : SemL Try.prog w0 fp ρi 0 18 [ZnT, (.seq Zh0 .ret)] [(3, some (.ptr ⟨1, 0, 0, 1⟩ 5)), (14, some (.bool (((PlanV.opCode p o) != 0) || (o.okind == 6))))] (ZOA o) (fnK Zhd 0 Kf) :=
  Za9 (q := (((PlanV.opCode p o) != 0) || (o.okind == 6))) (by kernel_rfl) (fun hq => (Zag (lpk [] [] (ZMp p o hK (h.1 hq))))) (fun hq => (Zbh (lpk [3] [1] (Zag (ZMo p o hK (h.2 hq))))))
theorem ZI3 (p : PlanV) (o : OpV) (Z : Env -> Heap -> Prop) (h : ((OpV.Wf o)) /\ ∃ qq : Bool, (((PlanV.opCode p o) != 0) = false -> (ZaL (Yd7 p o) (Yd7 p o) [(0, some ⟨true, (PlanV.cs p), 0⟩), (1, some ⟨true, (OpV.cs o), 0⟩)]) /\ (o.okind == 6) = qq) /\ (((PlanV.opCode p o) != 0) = true -> true = qq) /\ Z [(3, some (.ptr ⟨1, 0, 0, 1⟩ 5)), (14, some (.bool qq))] (ZOA o)) : EvC Zp5 ZnU Yd5 (Yd7 p o) [3, 14] [1] Z := EvC.of (by kernel_rfl) h
def Zo3 (p : PlanV) (o : OpV) : Prop := ((OpV.Wf o)) /\ (Zv6 p o)
theorem ZMm (p : PlanV) (o : OpV) (hK : Zjq p o Kf) (h : Zo3 p o) : SemL Try.prog w0 fp ρi 0 18 [ZnU, ZnT, (.seq Zh0 .ret)] Yd5 (Yd7 p o) (fnK Zhd 0 Kf) :=
  Zae Zna (ZI3 p o _ ⟨h.1, ⟨(((PlanV.opCode p o) != 0) || (o.okind == 6)), fun hc_qq => ⟨(ZaZ _), (qo1 hc_qq)⟩, fun hc_qq => qo2 hc_qq, (ZMn p o hK h.2)⟩⟩)
theorem ZI2 (p : PlanV) (o : OpV) (Z : Env -> Heap -> Prop) (h : Z Yd5 (Yd7 p o)) : EvC Zp5 ZrO (ZAU p o) Yd2 [2, 3] [0, 1] Z := EvC.of (by kernel_rfl) h
theorem ZMl (p : PlanV) (o : OpV) (hK : Zjq p o Kf) (h : Zo3 p o) : SemL Try.prog w0 fp ρi 0 18 [ZrO, (.seq (.seq ZnU ZnT) (.seq Zh0 .ret))] (ZAU p o) Yd2 (fnK Zhd 0 Kf) :=
  Zae Zna (ZI2 p o _ (Zag (Zag (ZMm p o hK h))))
theorem ZHo (p : PlanV) (o : OpV) (hK : Zjq p o Kf) (h : Zo3 p o) : SemL Try.prog w0 fp ρi 0 18 [ZBi] (ZAU p o) Yd2 (fnK Zhd 0 Kf) :=
  (Zag (ZMl p o hK h))
end
theorem ZGD (p : PlanV) (o : OpV) (hpre : (OpV.Wf o)) : Zo3 p o := by
  unfold Zo3 Zv6 Zv7 Zv8
  refine ⟨hpre, ?_⟩
  have hc : (p.opCode o != 0 || o.okind == 6) = !(p.opB o) := by
    unfold PlanV.opB
    rw [show (p.opCode o != 0) = !(p.opCode o == 0) from rfl, Bool.not_and, Bool.not_not]
  rw [hc]
  refine ⟨fun h => ?_, fun h => ?_⟩
  · have h := Zge h
    unfold PlanV.opLine
    rw [h]; exact ⟨rfl, rfl⟩
  · have h := ZfQ h
    have hb := h
    unfold PlanV.opB at hb
    simp only [Bool.and_eq_true, beq_iff_eq, Bool.not_eq_true', beq_eq_false_iff_ne] at hb
    have hat := PlanV.opB_at hb.1 hb.2
    have ht : p.tags = p.all * 32 := rfl
    have ha := _root_.Go.Sx.PlanV.all_le p
    unfold PlanV.opLine
    rw [h, if_pos rfl, Int.tdiv_eq_ediv_of_nonneg hat.1, ZgO]
    exact ⟨by omega, rfl⟩
theorem ZHx : Sound Try.prog 59 (ZeA ZyM) := by
  refine Zbq Zsu ?_
  intro args H K h
  obtain ⟨pre, v, hP, hpre, rfl, hK⟩ := ZbM h
  unfold ZyM at hP
  split at hP
  · obtain ⟨hb, hP⟩ := ZaM hP
    simp only [Bool.and_eq_true] at hb
    obtain ⟨h0, h1⟩ := hb
    obtain rfl := Nat.eq_of_beq_eq_true h0
    obtain rfl := Nat.eq_of_beq_eq_true h1
    cases hP
    exact ⟨rfl, fun w0 fp ρi => ZHo (PlanV.mk _ _ _ _ _ _ _ _ _ _ _ _ _ _ _ _) (OpV.mk _ _ _ _ _) hK (ZGD (PlanV.mk _ _ _ _ _ _ _ _ _ _ _ _ _ _ _ _) (OpV.mk _ _ _ _ _) hpre)⟩
  · cases hP
end Go.Proofs.Ytinjdimejijabaa
