/- Part of the proof: SxCacheV. -/
import Derived.Test.YtinjdimejijabaaSxWays
set_option linter.unusedVariables false
set_option linter.unusedSimpArgs false
namespace Go.Sx
abbrev Zaf : List Leaf := [.int .i64, .int .i64, .int .i64]
def Zml (l : List (Tup Zaf)) : Prop := ∀ x ∈ l, I64 x.1 /\ I64 x.2.1 /\ I64 x.2.2
namespace CacheV
def at_ (C : CacheV) (k : Int) : Nat := (Int.tmod k (C.rows.length : Int)).toNat
def row (C : CacheV) (k : Int) : List (Int × Int) := C.rows.getD (C.at_ k) []
def put (C : CacheV) (k : Int) (r : List (Int × Int)) : CacheV := ⟨C.ways, C.rows.set (C.at_ k) r⟩
def idx (C : CacheV) (k : Int) : Int := idxK k (C.row k)
structure Good (C : CacheV) : Prop where
  w1 : 1 <= C.ways
  w2 : C.ways <= 64
  s1 : 0 < C.rows.length
  s2 : C.rows.length <= 64
  len : ∀ r ∈ C.rows, (r.length : Int) <= C.ways
def setR (C : CacheV) (k _v : Int) : Int := if k < 0 then 1 else if 0 <= C.idx k then 0 else if C.ways <= ((C.row k).length : Int) then 5 else 0
def setC (C : CacheV) (k v : Int) : CacheV := if k < 0 then C else if 0 <= C.idx k then C.put k (ZaY (C.idx k) (ZnL (C.idx k) v (C.row k))) else if C.ways <= ((C.row k).length : Int) then C else C.put k (C.row k ++ [(k, v)])
def hasB (C : CacheV) (k : Int) : Bool := decide (0 <= k) && decide (0 <= C.idx k)
def dropC (C : CacheV) (k : Int) : CacheV := if C.hasB k then C.put k ((ZaO (C.idx k) (C.idx k + 1) (C.row k)).take ((C.row k).length - 1)) else C
def touchC (C : CacheV) (k : Int) : CacheV := if C.hasB k then C.put k (ZaY (C.idx k) (C.row k)) else C
def getA (C : CacheV) (k : Int) : Int := if C.hasB k then ZG8 (C.idx k) (C.row k) else 0
def roomB (C : CacheV) (k : Int) : Bool := decide (0 <= k) && (decide (0 <= C.idx k) || decide (((C.row k).length : Int) < C.ways))
def oldL (C : CacheV) (k : Int) : List Int := if k < 0 then [] else Za1 (C.row k)
end CacheV
end Go.Sx
