/- Two parts of the proof. -/
import Derived.Test.YtfffjdfegnmejaaSxEv
import Derived.Test.YtfffjdfegnmejaaSxCode
import Derived.Test.YtfffjdfegnmejaaSxHelp
set_option linter.unusedVariables false
set_option linter.unusedSimpArgs false
namespace Go.Sx
end Go.Sx

namespace Go.Sx
end Go.Sx

namespace Go.Sx
structure PlanV where
  cores : Int
  banks : Int
  pages : Int
  lines : Int
  arity : Int
  minor : Int
  major : Int
  ns : Int
  nw : Int
  fs : Int
  fw : Int
  met : Int
  queue : Int
  kind : Int
  key : List Int
  tag : List Int
def PlanV.cs (p : PlanV) : List Chunk := [.one (.int .i64 p.cores), .one (.int .i64 p.banks), .one (.int .i64 p.pages), .one (.int .i64 p.lines), .one (.int .i64 p.arity), .one (.int .i64 p.minor), .one (.int .u64 p.major),
  .one (.int .i64 p.ns), .one (.int .i64 p.nw), .one (.int .i64 p.fs), .one (.int .i64 p.fw), .one (.int .i64 p.met), .one (.int .i64 p.queue), .one (.int .i64 p.kind), .ints .u8 16 p.key, .ints .u8 16 p.tag]
def PlanV.shaped (p : PlanV) : Bool := decide (1 <= p.banks /\ p.banks <= 4 /\ 1 <= p.pages /\ p.pages <= 16 /\ 1 <= p.lines /\ p.lines <= 8 /\ 2 <= p.arity /\ p.arity <= 4)
def ZN7 : Nat -> Int -> Int -> List Int
  | 0, _, _ => []
  | f + 1, a, n => n :: (if n = 1 then [] else ZN7 f a ((n + a - 1) / a))
def PlanV.widths (p : PlanV) : List Int := if p.shaped = true then ZN7 6 p.arity p.pages else []
def PlanV.levels (p : PlanV) : Nat := p.widths.length
def PlanV.all (p : PlanV) : Int := if p.shaped = true then p.pages * p.lines else 0
def PlanV.least (p : PlanV) : Int := if p.shaped = true then p.banks * p.levels + 1 else 0
def PlanV.right (p : PlanV) : Bool := p.shaped && decide (1 <= p.cores /\ p.cores <= 4 /\ 1 <= p.minor /\ p.minor <= 8 /\ p.major <= 4294967296 /\ 1 <= p.ns /\ p.ns <= 4 /\ 1 <= p.nw /\ p.nw <= 4 /\ 1 <= p.fs /\ p.fs <= 4 /\ 1 <= p.fw /\ p.fw <= 4 /\
  1 <= p.queue /\ p.queue <= 4 /\ (p.kind = 0 ∨ p.kind = 1) /\ p.least <= p.met /\ p.met <= 64)
structure Wid (a n : Int) (ws : List Int) : Prop where
  len1 : 1 <= ws.length
  len5 : ws.length <= 5
  first : ws.getD 0 0 = n
  last : ws.getD (ws.length - 1) 0 = 1
  least : ∀ i, i < ws.length -> 1 <= ws.getD i 0
  most : ∀ i, i < ws.length -> ws.getD i 0 <= 16
  big : ∀ i, i + 1 < ws.length -> 1 < ws.getD i 0
  next : ∀ i, i + 1 < ws.length -> ws.getD (i + 1) 0 = (ws.getD i 0 + a - 1) / a
def noH (H : Heap) (k : Prop) : Prop := match H.ents with
  | [] => bif Nat.beq H.next 0 then k else False
  | _ => False
theorem ZEn {H : Heap} {k : Prop} (h : noH H k) : H = ⟨0, []⟩ /\ k := by
  obtain ⟨n, es⟩ := H
  unfold noH at h
  simp only at h
  split at h
  · obtain ⟨hb, h⟩ := Zai h
    obtain rfl := Zaq hb
    exact ⟨rfl, h⟩
  · exact h.elim
end Go.Sx
