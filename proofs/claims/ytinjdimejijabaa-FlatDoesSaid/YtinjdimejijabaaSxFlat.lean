/- Part of the proof: SxFlat. -/
import Derived.Test.YtinjdimejijabaaSxWordK
import Derived.Test.YtinjdimejijabaaSxV1
import Derived.Test.YtinjdimejijabaaSxOpX
import Derived.Test.YtinjdimejijabaaSxPutL
set_option linter.unusedVariables false
set_option linter.unusedSimpArgs false
namespace Go.Sx
abbrev Lns := List (Tup Zad)
def Zdi (n : Nat) : Lns := List.replicate n (Tup.dflt Zad)
def LinesOk (p : PlanV) (ls : Lns) : Prop := ls.length = p.all.toNat /\ ∀ l ∈ ls, Ziv l
def Zgh (p : PlanV) (bs : List Int) : Prop := bs.length = 32 * p.all.toNat /\ Byt bs
def lineAt (ls : Lns) (k : Nat) : List Int := ls.getD k (Tup.dflt Zad)
def ZdF (ls : Lns) (n : Int) : List Int := if 0 <= n /\ n < (ls.length : Int) then lineAt ls n.toNat else List.replicate 32 0
def ZtQ (x : Tup Zau) : OpV := ⟨x.1, x.2.1, x.2.2.1, x.2.2.2.1, x.2.2.2.2⟩
def ZBc (l : List (Tup Zau)) : Prop := ∀ x ∈ l, (ZtQ x).Wf
def Zhg (e : Tup Zaf) : OpV := ⟨e.2.1, e.2.2.1, e.2.2.2.1, e.2.2.2.2.1, e.2.2.2.2.2.1⟩
def Zzg (e : Tup Zaf) : Int := e.2.2.2.2.2.2.1
def Zmt (e : Tup Zaf) : Int := e.2.2.2.2.2.2.2.1
def ZBs (e : Tup Zaf) : Bool := e.2.2.2.2.2.2.2.2.1
def ZBr (e : Tup Zaf) : Int := e.2.2.2.2.2.2.2.2.2
def Zzb (e : Tup Zaf) : Prop := (Zhg e).Wf /\ I64 e.1 /\ I64 (Zzg e) /\ I64 (Zmt e) /\ 0 <= ZBr e /\ ZBr e < 2 ^ 64
def ZtA (l : List (Tup Zaf)) : Prop := ∀ x ∈ l, Zzb x
namespace PlanV
def flatL (p : PlanV) (o : OpV) (ls : Lns) : Lns := if p.opB o = true then ls.set (o.oat / 32).toNat (o.next (lineAt ls (o.oat / 32).toNat)) else ls
def flatR (p : PlanV) (o : OpV) (ls : Lns) : Int := if p.opB o = true then o.result (lineAt ls (o.oat / 32).toNat) else 0
def byteB (p : PlanV) (o : OpV) : Bool := p.opCode o == 0 && decide (o.okind <= 4)
def byteL (p : PlanV) (o : OpV) (bs : List Int) : List Int := if p.byteB o = true then o.nextAt o.oat.toNat bs else bs
def byteR (p : PlanV) (o : OpV) (bs : List Int) : Int := if p.byteB o = true then o.numAt o.oat.toNat bs else 0
def chkGo (p : PlanV) : List (Tup Zaf) -> Lns -> Nat -> Int -> Int × Int
  | [], _, i, _ => (i, 0)
  | e :: r, ls, i, last => if ZBs e = false ∨ Zmt e <= Zzg e ∨ 0 < i /\ Zmt e <= last then (i, 1) else if p.opCode (Zhg e) ≠ 0 then (i, 1) else if p.flatR (Zhg e) ls ≠ ZBr e then (i, 20) else chkGo p r (p.flatL (Zhg e) ls) (i + 1) (Zmt e)
def chk (p : PlanV) (es : List (Tup Zaf)) : Int × Int := if p.right = true then p.chkGo es (Zdi p.all.toNat) 0 0 else (0, 4)
def chkN (p : PlanV) (es : List (Tup Zaf)) : Int := (p.chk es).1
def chkE (p : PlanV) (es : List (Tup Zaf)) : Int := (p.chk es).2
end PlanV
end Go.Sx
