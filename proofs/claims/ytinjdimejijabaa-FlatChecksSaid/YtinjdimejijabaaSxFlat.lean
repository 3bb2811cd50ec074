/- Part of the proof: SxFlat. -/
import Derived.Test.YtinjdimejijabaaSxWordK
import Derived.Test.YtinjdimejijabaaSxV1
import Derived.Test.YtinjdimejijabaaSxOpX
import Derived.Test.YtinjdimejijabaaSxPutL
set_option linter.unusedVariables false
set_option linter.unusedSimpArgs false
namespace Go.Sx
abbrev Lns := List (Tup Zad)
def ZbP (n : Nat) : Lns := List.replicate n (Tup.dflt Zad)
def LinesOk (p : PlanV) (ls : Lns) : Prop := ls.length = p.all.toNat /\ ∀ l ∈ ls, Zi4 l
def Zfj (p : PlanV) (bs : List Int) : Prop := bs.length = 32 * p.all.toNat /\ Byt bs
def lineAt (ls : Lns) (k : Nat) : List Int := ls.getD k (Tup.dflt Zad)
def Zci (e : Tup Zaa) : OpV := ⟨e.2.1, e.2.2.1, e.2.2.2.1, e.2.2.2.2.1, e.2.2.2.2.2.1⟩
def ZuN (e : Tup Zaa) : Int := e.2.2.2.2.2.2.1
def Zhy (e : Tup Zaa) : Int := e.2.2.2.2.2.2.2.1
def Zx3 (e : Tup Zaa) : Bool := e.2.2.2.2.2.2.2.2.1
def Zu4 (e : Tup Zaa) : Int := e.2.2.2.2.2.2.2.2.2
def ZyS (e : Tup Zaa) : Prop := (Zci e).Wf /\ I64 e.1 /\ I64 (ZuN e) /\ I64 (Zhy e) /\ 0 <= Zu4 e /\ Zu4 e < 2 ^ 64
def Zej (l : List (Tup Zaa)) : Prop := ∀ x ∈ l, ZyS x
namespace PlanV
def flatL (p : PlanV) (o : OpV) (ls : Lns) : Lns := if p.opB o = true then ls.set (o.oat / 32).toNat (o.next (lineAt ls (o.oat / 32).toNat)) else ls
def flatR (p : PlanV) (o : OpV) (ls : Lns) : Int := if p.opB o = true then o.result (lineAt ls (o.oat / 32).toNat) else 0
def byteB (p : PlanV) (o : OpV) : Bool := p.opCode o == 0 && decide (o.okind <= 4)
def byteL (p : PlanV) (o : OpV) (bs : List Int) : List Int := if p.byteB o = true then o.nextAt o.oat.toNat bs else bs
def byteR (p : PlanV) (o : OpV) (bs : List Int) : Int := if p.byteB o = true then o.numAt o.oat.toNat bs else 0
def chkGo (p : PlanV) : List (Tup Zaa) -> Lns -> Nat -> Int -> Int × Int
  | [], _, i, _ => (i, 0)
  | e :: r, ls, i, last => if Zx3 e = false ∨ Zhy e <= ZuN e ∨ 0 < i /\ Zhy e <= last then (i, 1) else if p.opCode (Zci e) ≠ 0 then (i, 1) else if p.flatR (Zci e) ls ≠ Zu4 e then (i, 20) else chkGo p r (p.flatL (Zci e) ls) (i + 1) (Zhy e)
def chk (p : PlanV) (es : List (Tup Zaa)) : Int × Int := if p.right = true then p.chkGo es (ZbP p.all.toNat) 0 0 else (0, 4)
def chkN (p : PlanV) (es : List (Tup Zaa)) : Int := (p.chk es).1
def chkE (p : PlanV) (es : List (Tup Zaa)) : Int := (p.chk es).2
end PlanV
end Go.Sx
