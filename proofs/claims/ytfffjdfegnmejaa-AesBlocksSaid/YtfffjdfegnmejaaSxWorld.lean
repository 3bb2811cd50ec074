/- Two parts of the proof. -/
import Derived.Calls
import Derived.Tactics
import Derived.Below
import Derived.Deep.Quiet
import Derived.WalkKit
import Derived.MapKept
set_option linter.unusedVariables false
set_option linter.unusedSimpArgs false
namespace Go.Sx
structure SAddr where
  id : Nat
  off : Nat
  idx : Nat
  st : Nat
inductive Leaf | int (k : IntKind) | bool | ints (k : IntKind) (n : Nat) | hd
deriving DecidableEq
abbrev Leaf.T : Leaf -> Type | .int _ => Int | .bool => Bool | .ints _ _ => List Int | .hd => Option (Nat × Nat) × Nat × Nat
def Leaf.len : Leaf -> Nat | .int _ => 1 | .bool => 1 | .ints _ n => n | .hd => 1
def Leaf.dflt : (l : Leaf) -> l.T | .int _ => (0 : Int) | .bool => false | .ints _ n => (List.replicate n 0 : List Int) | .hd => (none, 0, 0)
abbrev Tup : List Leaf -> Type
  | [] => Unit
  | [l] => l.T
  | l :: m :: r => l.T × Tup (m :: r)
def Tup.dflt : (sh : List Leaf) -> Tup sh
  | [] => ()
  | [l] => l.dflt
  | l :: m :: r => (l.dflt, Tup.dflt (m :: r))
def Zaj : List Leaf -> Nat
  | [] => 0
  | l :: r => l.len + Zaj r
def Zap (k : IntKind) (n : Nat) (xs : List Int) : List Value := (List.range n).map fun i => .int k (xs.getD i 0)
def Leaf.conc : (l : Leaf) -> l.T -> List Value
  | .int k, n => [.int k n]
  | .bool, b => [.bool b]
  | .ints k n, xs => Zap k n xs
  | .hd, x => [.slice (x.1.map fun p => ⟨p.1, p.2, none⟩) x.2.1 x.2.2]
def ZaB : (sh : List Leaf) -> Tup sh -> List Value
  | [], _ => []
  | [l], x => l.conc x
  | l :: m :: r, x => l.conc x.1 ++ ZaB (m :: r) x.2
def Zal (sh : List Leaf) (n : Nat) (xs : List (Tup sh)) : List Value := (List.range n).flatMap fun i => ZaB sh (xs.getD i (Tup.dflt sh))
def Zho (s : Bool) (h : Option (Nat × Nat) × Nat × Nat) : Value := match s with
  | true => .slice (h.1.map fun p => ⟨p.1, p.2, none⟩) h.2.1 h.2.2
  | false => .pointer (h.1.map fun p => ⟨p.1, p.2, none⟩)
mutual
inductive SVal
  | bool (b : Bool)
  | int (k : IntKind) (n : Int)
  | str (s : ByteArray)
  | ptr (a : SAddr) (n : Nat)
  | nilptr
  | slice (a : SAddr) (len cap : Nat)
  | nilslice
  | agg (cs : List Chunk)
  | tuple (vs : List SVal)
  | fn (f : Fn) (first captured : List SVal)
  | nilfn
  | iface (t : TypeId) (v : SVal)
  | niliface
  | map (id : Nat)
  | nilmap
  | raw (s : Bool) (h : Option (Nat × Nat) × Nat × Nat)
inductive Chunk
  | one (v : SVal)
  | ints (k : IntKind) (n : Nat) (xs : List Int)
  | rows (sh : List Leaf) (n : Nat) (xs : List (Tup sh))
end
abbrev Chunk.i (x : Int) : Chunk := .one (.int .i64 x)
abbrev Rho := Nat -> Option (Nat × Nat)
def SAddr.conc (ρ : Rho) (a : SAddr) : Option Addr := (ρ a.id).map fun p => ⟨p.1, p.2 + (a.off + a.idx * a.st), none⟩
mutual
def SVal.conc (ρ : Rho) : SVal -> Value
  | .bool b => .bool b
  | .int k n => .int k n
  | .str s => .string s
  | .ptr a _ => .pointer (a.conc ρ)
  | .nilptr => .pointer none
  | .slice a l c => .slice (a.conc ρ) l c
  | .nilslice => .slice none 0 0
  | .agg cs => .agg (Zab ρ cs).toArray
  | .tuple vs => .tuple (ZaH ρ vs).toArray
  | .fn f a b => .func f (ZaH ρ a).toArray (ZaH ρ b).toArray
  | .nilfn => .nilFunc
  | .iface t v => .iface t (v.conc ρ)
  | .niliface => .nilIface
  | .map id => .map ((ρ id).map (·.1))
  | .nilmap => .map none
  | .raw s h => Zho s h
def ZaH (ρ : Rho) : List SVal -> List Value
  | [] => []
  | v :: r => v.conc ρ :: ZaH ρ r
def Chunk.conc (ρ : Rho) : Chunk -> List Value
  | .one v => [v.conc ρ]
  | .ints k n xs => Zap k n xs
  | .rows sh n xs => Zal sh n xs
def Zab (ρ : Rho) : List Chunk -> List Value
  | [] => []
  | c :: r => c.conc ρ ++ Zab ρ r
end
def Chunk.len : Chunk -> Nat
  | .one _ => 1
  | .ints _ n _ => n
  | .rows sh n _ => n * Zaj sh
def Zam : List Chunk -> Nat
  | [] => 0
  | c :: r => c.len + Zam r
theorem Zac (k n xs) : (Zap k n xs).length = n := by simp [Zap]
theorem ZaU : ∀ (l : Leaf) (x : l.T), (l.conc x).length = l.len
  | .int _, _ => rfl
  | .bool, _ => rfl
  | .ints _ _, _ => by simp [Leaf.conc, Leaf.len, Zap]
  | .hd, _ => rfl
theorem Zau : ∀ (sh : List Leaf) (x : Tup sh), (ZaB sh x).length = Zaj sh
  | [], _ => rfl
  | [l], x => by simp [ZaB, Zaj, ZaU]
  | l :: m :: r, x => by
    have := Zau (m :: r) x.2
    simp [ZaB, Zaj, ZaU] at *
    omega
theorem Za0 {α : Type} (f : Nat -> List α) (s : Nat) (h : ∀ i, (f i).length = s) : ∀ n, ((List.range n).flatMap f).length = n * s
  | 0 => by simp
  | n + 1 => by simp [List.range_succ, List.flatMap_append, Za0 f s h n, h, Nat.succ_mul]
theorem Zag (sh n xs) : (Zal sh n xs).length = n * Zaj sh := by
  unfold Zal; exact Za0 _ _ (fun i => Zau _ _) n
theorem ZaM (ρ : Rho) : ∀ c : Chunk, (c.conc ρ).length = c.len
  | .one _ => by simp [Chunk.conc, Chunk.len]
  | .ints k n xs => by simp [Chunk.conc, Chunk.len, Zap]
  | .rows sh n xs => by simp [Chunk.conc, Chunk.len, Zag]
theorem Zan (ρ : Rho) : ∀ cs : List Chunk, (Zab ρ cs).length = Zam cs
  | [] => by simp [Zab, Zam]
  | c :: r => by simp [Zab, Zam, ZaM, Zan ρ r]
theorem Zaw (k : IntKind) (n : Nat) (xs : List Int) (i : Nat) (h : i < n) : (Zap k n xs)[i]? = some (.int k (xs.getD i 0)) := by
  simp [Zap, h]
theorem Zfk (ρ : Rho) : ∀ vs : List SVal, (ZaH ρ vs).length = vs.length
  | [] => by simp [ZaH]
  | v :: r => by simp [ZaH, Zfk ρ r]
mutual
def SVal.ok (ρ : Rho) (n : Nat) : SVal -> Prop
  | .ptr a _ => a.id < n /\ ρ a.id ≠ none
  | .slice a l c => a.id < n /\ (ρ a.id = none -> l = 0 /\ c = 0)
  | .agg cs => ZaE ρ n cs
  | .tuple vs => okL ρ n vs
  | .fn _ a b => okL ρ n a /\ okL ρ n b
  | .iface _ v => v.ok ρ n
  | .map id => id < n /\ ρ id ≠ none
  | _ => True
def okL (ρ : Rho) (n : Nat) : List SVal -> Prop
  | [] => True
  | v :: r => v.ok ρ n /\ okL ρ n r
def Chunk.ok (ρ : Rho) (n : Nat) : Chunk -> Prop
  | .one v => v.ok ρ n
  | _ => True
def ZaE (ρ : Rho) (n : Nat) : List Chunk -> Prop
  | [] => True
  | c :: r => c.ok ρ n /\ ZaE ρ n r
end
theorem SAddr.conc_congr {ρ ρ' : Rho} {n : Nat} (h : ∀ id, id < n -> ρ' id = ρ id) {a : SAddr} (ha : a.id < n) : a.conc ρ' = a.conc ρ := by simp only [SAddr.conc, h _ ha]
mutual
theorem SVal.conc_congr {ρ ρ' : Rho} {n : Nat} (h : ∀ id, id < n -> ρ' id = ρ id) : ∀ v : SVal, v.ok ρ n -> v.conc ρ' = v.conc ρ
  | .bool _, _ | .int _ _, _ | .str _, _ | .nilptr, _ | .nilslice, _ | .nilfn, _ | .niliface, _ | .nilmap, _ | .raw _ _, _ => by simp only [SVal.conc]
  | .ptr a _, hv => by simp only [SVal.ok] at hv; simp only [SVal.conc, SAddr.conc_congr h hv.1]
  | .slice a _ _, hv => by simp only [SVal.ok] at hv; simp only [SVal.conc, SAddr.conc_congr h hv.1]
  | .agg cs, hv => by simp only [SVal.ok] at hv; simp only [SVal.conc, Zba h cs hv]
  | .tuple vs, hv => by simp only [SVal.ok] at hv; simp only [SVal.conc, Zbq h vs hv]
  | .fn _ a b, hv => by simp only [SVal.ok] at hv; simp only [SVal.conc, Zbq h a hv.1, Zbq h b hv.2]
  | .iface _ v, hv => by simp only [SVal.ok] at hv; simp only [SVal.conc, SVal.conc_congr h v hv]
  | .map id, hv => by simp only [SVal.ok] at hv; simp only [SVal.conc, h _ hv.1]
theorem Zbq {ρ ρ' : Rho} {n : Nat} (h : ∀ id, id < n -> ρ' id = ρ id) : ∀ vs : List SVal, okL ρ n vs -> ZaH ρ' vs = ZaH ρ vs
  | [], _ => by simp only [ZaH]
  | v :: r, hv => by simp only [okL] at hv; simp only [ZaH, SVal.conc_congr h v hv.1, Zbq h r hv.2]
theorem Chunk.conc_congr {ρ ρ' : Rho} {n : Nat} (h : ∀ id, id < n -> ρ' id = ρ id) : ∀ c : Chunk, c.ok ρ n -> c.conc ρ' = c.conc ρ
  | .one v, hv => by simp only [Chunk.ok] at hv; simp only [Chunk.conc, SVal.conc_congr h v hv]
  | .ints _ _ _, _ | .rows _ _ _, _ => by simp only [Chunk.conc]
theorem Zba {ρ ρ' : Rho} {n : Nat} (h : ∀ id, id < n -> ρ' id = ρ id) : ∀ cs : List Chunk, ZaE ρ n cs -> Zab ρ' cs = Zab ρ cs
  | [], _ => by simp only [Zab]
  | c :: r, hv => by simp only [ZaE] at hv; simp only [Zab, Chunk.conc_congr h c hv.1, Zba h r hv.2]
end
mutual
theorem SVal.ok_mono {ρ ρ' : Rho} {m n : Nat} (h : ∀ id, id < m -> ρ' id = ρ id) (hn : m <= n) : ∀ v : SVal, v.ok ρ m -> v.ok ρ' n
  | .bool _, _ | .int _ _, _ | .str _, _ | .nilptr, _ | .nilslice, _ | .nilfn, _ | .niliface, _ | .nilmap, _ | .raw _ _, _ => by simp only [SVal.ok]
  | .ptr a _, hv => by simp only [SVal.ok] at *; rw [h _ hv.1]; exact ⟨by omega, hv.2⟩
  | .slice a _ _, hv => by simp only [SVal.ok] at *; rw [h _ hv.1]; exact ⟨by omega, hv.2⟩
  | .agg cs, hv => by simp only [SVal.ok] at *; exact Za8 h hn cs hv
  | .tuple vs, hv => by simp only [SVal.ok] at *; exact ZcD h hn vs hv
  | .fn _ a b, hv => by simp only [SVal.ok] at *; exact ⟨ZcD h hn a hv.1, ZcD h hn b hv.2⟩
  | .iface _ v, hv => by simp only [SVal.ok] at *; exact SVal.ok_mono h hn v hv
  | .map id, hv => by simp only [SVal.ok] at *; rw [h _ hv.1]; exact ⟨by omega, hv.2⟩
theorem ZcD {ρ ρ' : Rho} {m n : Nat} (h : ∀ id, id < m -> ρ' id = ρ id) (hn : m <= n) : ∀ vs : List SVal, okL ρ m vs -> okL ρ' n vs
  | [], _ => by simp only [okL]
  | v :: r, hv => by simp only [okL] at *; exact ⟨SVal.ok_mono h hn v hv.1, ZcD h hn r hv.2⟩
theorem Chunk.ok_mono {ρ ρ' : Rho} {m n : Nat} (h : ∀ id, id < m -> ρ' id = ρ id) (hn : m <= n) : ∀ c : Chunk, c.ok ρ m -> c.ok ρ' n
  | .one v, hv => by simp only [Chunk.ok] at *; exact SVal.ok_mono h hn v hv
  | .ints _ _ _, _ | .rows _ _ _, _ => by simp only [Chunk.ok]
theorem Za8 {ρ ρ' : Rho} {m n : Nat} (h : ∀ id, id < m -> ρ' id = ρ id) (hn : m <= n) : ∀ cs : List Chunk, ZaE ρ m cs -> ZaE ρ' n cs
  | [], _ => by simp only [ZaE]
  | c :: r, hv => by simp only [ZaE] at *; exact ⟨Chunk.ok_mono h hn c hv.1, Za8 h hn r hv.2⟩
end
structure Ent where
  wr : Bool
  cs : List Chunk
  ex : Nat
structure Heap where
  next : Nat
  ents : List (Nat × Option Ent)
def Zc9 : List (Nat × Option Ent) -> Nat -> Option Ent
  | [], _ => none
  | (k, e) :: r, n => bif Nat.beq k n then e else Zc9 r n
def Heap.find (H : Heap) (id : Nat) : Option Ent := Zc9 H.ents id
def Heap.set (H : Heap) (id : Nat) (e : Ent) : Heap := ⟨H.next, (id, some e) :: H.ents⟩
def Heap.drop (H : Heap) (id : Nat) : Heap := ⟨H.next, (id, none) :: H.ents⟩
def Heap.push (H : Heap) (e : Ent) : Heap := ⟨H.next + 1, (H.next, some e) :: H.ents⟩
theorem ZaF (k : Nat) (e : Option Ent) (r : List (Nat × Option Ent)) (n : Nat) : Zc9 ((k, e) :: r) n = if k = n then e else Zc9 r n := by
  simp only [Zc9]
  by_cases h : k = n
  · subst h; simp
  · have hb : Nat.beq k n = false := by
      cases hb : Nat.beq k n
      · rfl
      · exact absurd (Nat.eq_of_beq_eq_true hb) h
    simp [hb, h]
theorem Heap.find_set (H : Heap) (id : Nat) (e : Ent) (n : Nat) : (H.set id e).find n = if id = n then some e else H.find n := ZaF _ _ _ _
theorem Heap.find_drop (H : Heap) (id : Nat) (n : Nat) : (H.drop id).find n = if id = n then none else H.find n := ZaF _ _ _ _
theorem Heap.find_push (H : Heap) (e : Ent) (n : Nat) : (H.push e).find n = if H.next = n then some e else H.find n := ZaF _ _ _ _
def Ent.size (e : Ent) : Nat := Zam e.cs + e.ex
def Ze0 (id : Nat) : List (Nat × Option Ent) -> Bool
  | [] => true
  | (k, some e) :: r => (Nat.beq k id || e.wr || !(Nat.beq e.ex 1)) && Ze0 id r
  | (_, none) :: r => Ze0 id r
def Win (ρ : Rho) (id : Nat) (e : Ent) (b o : Nat) : Prop := ∃ base, ρ id = some (b, base) /\ base <= o /\ o < base + e.size
def Zb5 : List Chunk -> List Value
  | [.ints k _ xs] => xs.map (fun x => .int k x)
  | [.rows sh _ xs] => xs.map (fun x => .agg (ZaB sh x).toArray)
  | [.rows [.int k, .int _] _ xs, .ints _ _ _] => xs.map (fun x => .int k x.1)
  | _ => []
def Zcn : List Chunk -> Option (List Value)
  | [.rows [.int _, .int k] _ xs, .ints _ _ _] => some (xs.map (fun x => .int k x.2))
  | _ => none
def MapAt (w : World) (b : Nat) (cs : List Chunk) : Prop := ∃ es cl, w.heap[b]? = some (.map es cl) /\ es.toList.map (·.key) = Zb5 cs /\ ∀ vs, Zcn cs = some vs -> es.toList.map (·.val) = vs
structure EntOk (ρ : Rho) (w : World) (id : Nat) (e : Ent) : Prop where
  nil : ρ id = none -> e.size = 0
  cells : ∀ b base, ρ id = some (b, base) -> ∀ (i : Nat) v, (Zab ρ e.cs)[i]? = some v -> w.cell? ⟨b, base + i, none⟩ = some v
  own : e.wr = true -> ∀ b base, ρ id = some (b, base) -> ∀ i, i < e.size -> (∃ v, w.cell? ⟨b, base + i, none⟩ = some v) /\ w.frozen? ⟨b, base + i, none⟩ = false
  mp : e.wr = false -> e.ex = 1 -> ∀ b base, ρ id = some (b, base) -> MapAt w b e.cs
structure Frame (w0 : World) (fp : Nat -> Nat -> Prop) (w : World) : Prop where
  os : w.os = w0.os
  tape : w.tape = w0.tape
  output : w.output = w0.output
  size : w0.heap.size <= w.heap.size
  other : ∀ b, b < w0.heap.size -> (∀ o, ¬ fp b o) -> w.heap[b]? = w0.heap[b]?
  cells : ∀ b, b < w0.heap.size -> ∀ c t fz, w0.heap[b]? = some (.cells c t fz) ->
    ∃ c', w.heap[b]? = some (.cells c' t fz) /\ c'.size = c.size /\ ∀ o : Nat, ¬ fp b o -> c'[o]? = c[o]?
structure CacheV where
  ways : Int
  rows : List (List (Int × Int))
abbrev ZgA : List Leaf := [.ints .i64 0, .ints .i64 0]
def CacheV.code (C : CacheV) : List (Tup ZgA) := (([C.ways], []) : List Int × List Int) :: C.rows.map fun r => (r.map (·.1), r.map (·.2))
def ZOX : List (Tup ZgA) -> CacheV
  | [] => ⟨0, []⟩
  | x :: r => ⟨x.1.headD 0, r.map fun p => p.1.zip p.2⟩
def Own (w : World) (b o n : Nat) (vs : List Value) : Prop :=
  vs.length <= n /\ b < w.heap.size /\ ∀ i, i < n -> (∃ v, w.cell? ⟨b, o + i, none⟩ = some v /\ ∀ u, vs[i]? = some u -> u = v) /\ w.frozen? ⟨b, o + i, none⟩ = false
abbrev Hdr := Option (Nat × Nat) × Nat × Nat
def ZaQ (h : Hdr) : Value := .slice (h.1.map fun p => ⟨p.1, p.2, none⟩) h.2.1 h.2.2
def Zxv (h : Hdr) : Option Nat := h.1.map (·.1)
def ZN5 (w : World) (h : Hdr) (r : List (Int × Int)) : Prop :=
  (h = (none, 0, 0) /\ r = []) ∨ ∃ x o c, h = (some (x, o), r.length, c) /\ r.length <= c /\ Own w x o (c * 2) (Zal [.int .i64, .int .i64] r.length r)
structure CacheAtH (w : World) (b : Nat × Nat) (C : CacheV) (B : Nat -> Prop) (bs : Nat × Nat) (hs : List Hdr) : Prop where
  pos : 0 < hs.length
  len : hs.length = C.rows.length
  top : Own w b.1 b.2 2 [.int .i64 C.ways, .slice (some ⟨bs.1, bs.2, none⟩) hs.length hs.length]
  hdr : Own w bs.1 bs.2 hs.length (hs.map ZaQ)
  row : ∀ (i : Nat) h r, hs[i]? = some h -> C.rows[i]? = some r -> ZN5 w h r
  apart : (∀ i j, i < 2 -> j < hs.length -> b.1 = bs.1 -> b.2 + i ≠ bs.2 + j) /\ ∀ (i : Nat) h x, hs[i]? = some h -> Zxv h = some x -> x ≠ b.1 /\ x ≠ bs.1 /\ ∀ (j : Nat) h', j ≠ i -> hs[j]? = some h' -> Zxv h' ≠ some x
  blk : ∀ x, B x ↔ x = b.1 ∨ x = bs.1 ∨ ∃ (i : Nat) (h : Hdr), hs[i]? = some h /\ Zxv h = some x
def CacheAt (w : World) (b : Nat × Nat) (C : CacheV) (B : Nat -> Prop) : Prop := ∃ bs hs, CacheAtH w b C B bs hs
def AbsR (w0 : World) (ρ : Rho) (H : Heap) (w : World) : Prop := ∃ B : Nat -> Nat -> Prop, ∀ id e, H.find id = some e -> e.wr = false -> e.ex = 2 ->
  ∃ b xs, ρ id = some b /\ e.cs = [.rows ZgA 0 xs] /\ CacheAt w b (ZOX xs) (B id) /\ (∀ x, B id x -> w0.heap.size <= x) /\
    (∀ id' e', id' ≠ id -> H.find id' = some e' -> ∀ x o, Win ρ id' e' x o -> ¬ B id x) /\
    (∀ id' e', id' ≠ id -> H.find id' = some e' -> e'.wr = false -> e'.ex = 2 -> ∀ x, B id x -> ¬ B id' x)
def ZdV (cs : List (Tup ZgA)) (i : Nat) : List (Int × Int) := (cs.getD i (([], []) : List Int × List Int)).1.zip (cs.getD i (([], []) : List Int × List Int)).2
def Za2 : List Chunk -> Option (Nat × List Hdr × (Nat -> Nat × List Value))
  | [.rows [.hd] n hs, .rows [.ints .i64 0, .ints .i64 0] 0 cs] => some (n, hs, fun i => ((ZdV cs i).length, Zal [.int .i64, .int .i64] (ZdV cs i).length (ZdV cs i)))
  | [.rows [.hd] n hs, .rows [.ints k 0] 0 cs] => some (n, hs, fun i => ((cs.getD i []).length, Zap k (cs.getD i []).length (cs.getD i [])))
  | _ => none
def Wr (ρ : Rho) (H : Heap) (x o : Nat) : Prop := ∃ id e, H.find id = some e /\ e.wr = true /\ Win ρ id e x o
def HidRow (w : World) (W : Nat -> Nat -> Prop) (h : Hdr) (f : Nat × List Value) : Prop :=
  (h = (none, 0, 0) /\ f.1 = 0 /\ f.2 = []) ∨ ∃ b o c, h = (some (b, o), f.1, c) /\ f.1 <= c /\ ∀ (j : Nat) v, f.2[j]? = some v -> w.cell? ⟨b, o + j, none⟩ = some v /\ ¬ W b (o + j)
def HidR (w0 : World) (fp : Nat -> Nat -> Prop) (ρ : Rho) (H : Heap) (w : World) : Prop := ∀ id e n hs f, H.find id = some e -> Za2 e.cs = some (n, hs, f) -> ∀ i, i < n -> HidRow w (fun x o => Wr ρ H x o ∨ e.wr = true /\ x < w0.heap.size /\ ¬ fp x o) (hs.getD i (none, 0, 0)) (f i)
structure Rel (w0 : World) (fp : Nat -> Nat -> Prop) (ρ : Rho) (H : Heap) (w : World) : Prop where
  frame : Frame w0 fp w
  ents : ∀ id e, H.find id = some e -> EntOk ρ w id e
  oks : ∀ id e, H.find id = some e -> ZaE ρ H.next e.cs
  own : ∀ id e, H.find id = some e -> e.wr = true -> ∀ b o, Win ρ id e b o -> fp b o ∨ w0.heap.size <= b
  apart : ∀ id id' e e', id ≠ id' -> H.find id = some e -> H.find id' = some e' -> e.wr = true -> ∀ b o, Win ρ id e b o -> ¬ Win ρ id' e' b o
  next : ∀ id e, H.find id = some e -> id < H.next
  ro : ∀ id e, H.find id = some e -> e.wr = true ∨ e.ex = 0 ∨ (e.ex = 1 ∨ e.ex = 2) /\ Zam e.cs = 0
  mnew : ∀ id e, H.find id = some e -> e.wr = false -> e.ex = 1 -> ∀ b base, ρ id = some (b, base) -> w0.heap.size <= b
  ab : AbsR w0 ρ H w
  hid : HidR w0 fp ρ H w
theorem Frame.refl (w : World) (fp) : Frame w fp w :=
  ⟨rfl, rfl, rfl, Nat.le_refl _, fun _ _ _ => rfl, fun _ _ c _ _ h => ⟨c, h, rfl, fun _ _ => rfl⟩⟩
end Go.Sx

namespace Go.Sx
theorem Zbo (b : Nat) : ∀ (vs : List Value) (o : Nat) (w : World) (k : Nat), k ≠ b -> (w.setCells b o vs).heap[k]? = w.heap[k]?
  | [], _, _, _, _ => rfl
  | v :: r, o, w, k, h => by
    rw [World.setCells, Zbo b r (o + 1) _ k h, heap_setCell_other _ _ _ _ (by simpa using h)]
theorem Zdu (b : Nat) : ∀ (vs : List Value) (o : Nat) (w : World) (c : Array Value) (t : TypeId) (fz : Nat × Nat), w.heap[b]? = some (.cells c t fz) ->
    ∃ c', (w.setCells b o vs).heap[b]? = some (.cells c' t fz) /\ c'.size = c.size /\ ∀ i : Nat, (i < o ∨ o + vs.length <= i) -> c'[i]? = c[i]?
  | [], _, _, c, _, _, h => ⟨c, h, rfl, fun _ _ => rfl⟩
  | v :: r, o, w, c, t, fz, h => by
    have h1 : (w.setCell ⟨b, o, none⟩ v).heap[b]? = some (.cells (c.setIfInBounds o v) t fz) := by
      simp only [World.setCell, Array.getElem?_modify, h, if_true, Option.map_some]
      rfl
    obtain ⟨c', h2, h3, h4⟩ := Zdu b r (o + 1) _ _ t fz h1
    refine ⟨c', h2, by simpa using h3, fun i hi => ?_⟩
    rw [h4 i (by simp at hi; omega)]
    rw [Array.getElem?_setIfInBounds_ne (by simp at hi; omega)]
theorem Zd0 (b : Nat) : ∀ (vs : List Value) (o : Nat) (w : World), (w.setCells b o vs).heap.size = w.heap.size
  | [], _, _ => rfl
  | v :: r, o, w => by rw [World.setCells, Zd0 b r]; simp
theorem Zjl (b : Nat) : ∀ (vs : List Value) (o : Nat) (w : World), (w.setCells b o vs).os = w.os /\ (w.setCells b o vs).tape = w.tape /\ (w.setCells b o vs).output = w.output
  | [], _, _ => ⟨rfl, rfl, rfl⟩
  | v :: r, o, w => by rw [World.setCells]; exact Zjl b r (o + 1) _
theorem Ziy {b : Nat} (a : Addr) (v : Value) (w : World) {es cl} (h : w.heap[b]? = some (Obj.map es cl)) : (w.setCell a v).heap[b]? = some (Obj.map es cl) := by
  by_cases hb : b = a.block
  · subst hb
    simp only [World.setCell, Array.getElem?_modify, h, if_true, Option.map_some]
  · rw [heap_setCell_other _ _ _ _ hb]; exact h
theorem ZdS (b' : Nat) : ∀ (vs : List Value) (o : Nat) (w : World) {b : Nat} {es cl}, w.heap[b]? = some (Obj.map es cl) -> (w.setCells b' o vs).heap[b]? = some (Obj.map es cl)
  | [], _, _, _, _, _, h => h
  | v :: r, o, w, _, _, _, h => ZdS b' r (o + 1) _ (Ziy _ v w h)
theorem Zf0 {w : World} {b : Nat} {es cl} (o : Obj) (h : w.heap[b]? = some (Obj.map es cl)) : (w.alloc o).heap[b]? = some (Obj.map es cl) := by
  rw [RowKit.Below.heap_alloc _ _ _ (Array.getElem?_eq_some_iff.1 h).1]; exact h
theorem MapAt.keep {w w' : World} {b : Nat} {cs : List Chunk} (hm : ∀ (b : Nat) es cl, w.heap[b]? = some (Obj.map es cl) -> w'.heap[b]? = some (Obj.map es cl)) (h : MapAt w b cs) : MapAt w' b cs :=
  let ⟨es, cl, h1, h2⟩ := h
  ⟨es, cl, hm _ _ _ h1, h2⟩
theorem MapAt.lt {w : World} {b : Nat} {cs : List Chunk} (h : MapAt w b cs) : b < w.heap.size :=
  let ⟨_, _, h1, _⟩ := h
  (Array.getElem?_eq_some_iff.1 h1).1
theorem Frame.heap {w0 w w' : World} {fp : Nat -> Nat -> Prop} (h : Frame w0 fp w) (hh : w'.heap = w.heap) (ho : w'.os = w.os) (ht : w'.tape = w.tape) (hu : w'.output = w.output) : Frame w0 fp w' :=
  ⟨ho.trans h.os, ht.trans h.tape, hu.trans h.output, hh ▸ h.size, fun b hb hn => by rw [hh]; exact h.other b hb hn, fun b hb c t fz hc => by rw [hh]; exact h.cells b hb c t fz hc⟩
theorem Frame.alloc {w0 w : World} {fp : Nat -> Nat -> Prop} (h : Frame w0 fp w) (o : Obj) : Frame w0 fp (w.alloc o) := by
  have hs := h.size
  refine ⟨h.os, h.tape, h.output, by simp; omega, fun b hb hn => ?_, fun b hb c t fz hc => ?_⟩
  · rw [RowKit.Below.heap_alloc _ _ _ (by omega)]; exact h.other b hb hn
  · rw [RowKit.Below.heap_alloc _ _ _ (by omega)]; exact h.cells b hb c t fz hc
theorem Frame.setCells {w0 w : World} {fp : Nat -> Nat -> Prop} (h : Frame w0 fp w) {b o : Nat} {vs : List Value}
    (hfp : ∀ i, o <= i -> i < o + vs.length -> fp b i ∨ w0.heap.size <= b) : Frame w0 fp (w.setCells b o vs) := by
  obtain ⟨h1, h2, h3⟩ := Zjl b vs o w
  refine ⟨h1.trans h.os, h2.trans h.tape, h3.trans h.output, by rw [Zd0]; exact h.size, fun b' hb hn => ?_, fun b' hb c t fz hc => ?_⟩
  · by_cases hbb : b' = b
    · subst hbb
      cases vs with
      | nil => exact h.other _ hb hn
      | cons v r =>
        rcases hfp o (Nat.le_refl _) (by simp) with h' | h'
        · exact absurd h' (hn o)
        · omega
    · rw [Zbo _ _ _ _ _ hbb]; exact h.other _ hb hn
  · obtain ⟨c', hc', hs', hg'⟩ := h.cells b' hb c t fz hc
    by_cases hbb : b' = b
    · subst hbb
      obtain ⟨c'', hc'', hs'', hg''⟩ := Zdu b' vs o w c' t fz hc'
      refine ⟨c'', hc'', by omega, fun i hi => ?_⟩
      rw [hg'' i ?_]
      · exact hg' i hi
      · rcases Nat.lt_or_ge i o with hio | hio
        · exact .inl hio
        · rcases Nat.lt_or_ge i (o + vs.length) with hio' | hio'
          · rcases hfp i hio hio' with h' | h'
            · exact absurd h' hi
            · omega
          · exact .inr hio'
    · exact ⟨c', by rw [Zbo _ _ _ _ _ hbb]; exact hc', hs', hg'⟩
theorem Own.congr {w w' : World} {b o n : Nat} {vs : List Value} (h : Own w b o n vs) (hs : w.heap.size <= w'.heap.size) (hh : w'.heap[b]? = w.heap[b]?) : Own w' b o n vs := by
  have hc : ∀ o, w'.cell? ⟨b, o, none⟩ = w.cell? ⟨b, o, none⟩ := fun o => by simp only [World.cell?, hh]
  have hf : ∀ o, w'.frozen? ⟨b, o, none⟩ = w.frozen? ⟨b, o, none⟩ := fun o => by simp only [World.frozen?, hh]
  exact ⟨h.1, Nat.lt_of_lt_of_le h.2.1 hs, fun i hi => by rw [hc, hf]; exact h.2.2 i hi⟩
theorem CacheAt.congr {w w' : World} {b : Nat × Nat} {C : CacheV} {B : Nat -> Prop} (h : CacheAt w b C B) (hs : w.heap.size <= w'.heap.size) (hh : ∀ x, B x -> w'.heap[x]? = w.heap[x]?) : CacheAt w' b C B := by
  obtain ⟨bs, hd, h⟩ := h
  refine ⟨bs, hd, h.pos, h.len, h.top.congr hs (hh _ ((h.blk _).2 (.inl rfl))), h.hdr.congr hs (hh _ ((h.blk _).2 (.inr (.inl rfl)))), fun i x r hi hr => ?_, h.apart, h.blk⟩
  rcases h.row i x r hi hr with h8 | ⟨y, o, c, h8, h9, h10⟩
  · exact .inl h8
  · exact .inr ⟨y, o, c, h8, h9, h10.congr hs (hh _ ((h.blk _).2 (.inr (.inr ⟨i, x, hi, by rw [h8]; rfl⟩))))⟩
theorem CacheAt.lt {w : World} {b : Nat × Nat} {C : CacheV} {B : Nat -> Prop} (h : CacheAt w b C B) : ∀ x, B x -> x < w.heap.size := by
  obtain ⟨bs, hd, h⟩ := h
  intro x hx
  rcases (h.blk x).1 hx with rfl | rfl | ⟨i, y, hi, hyx⟩
  · exact h.top.2.1
  · exact h.hdr.2.1
  · have hil := (List.getElem?_eq_some_iff.1 hi).1
    rcases h.row i y _ hi (List.getElem?_eq_getElem (by have := h.len; omega)) with ⟨h8, _⟩ | ⟨z, o, c, h8, _, h9⟩
    · rw [h8] at hyx; cases hyx
    · rw [h8] at hyx
      cases hyx
      exact h9.2.1
theorem CacheAt.mem {w : World} {b : Nat × Nat} {C : CacheV} {B : Nat -> Prop} (h : CacheAt w b C B) : B b.1 := by
  obtain ⟨bs, hd, h⟩ := h
  exact (h.blk b.1).2 (.inl rfl)
theorem AbsR.none {w0 w : World} {ρ : Rho} {H : Heap} (h : ∀ id e, H.find id = some e -> e.wr = false -> e.ex = 2 -> False) : AbsR w0 ρ H w :=
  ⟨fun _ _ => False, fun id e he h1 h2 => (h id e he h1 h2).elim⟩
theorem AbsR.to {w0 w w' : World} {ρ ρ' : Rho} {H H' : Heap} (h : AbsR w0 ρ H w) (hs : w.heap.size <= w'.heap.size) (hρ : ∀ id e, H.find id = some e -> ρ' id = ρ id)
    (hH : ∀ id e, H'.find id = some e -> e.wr = false -> e.ex = 2 -> H.find id = some e)
    (hW : ∀ id e x o, H'.find id = some e -> Win ρ' id e x o -> (∃ j e0, H.find j = some e0 /\ Win ρ j e0 x o /\ (j = id ∨ e0.wr = true)) ∨ w.heap.size <= x)
    (hw : ∀ x, x < w.heap.size -> (∀ id e o, H.find id = some e -> (e.wr = true ∨ e.ex = 1) -> ¬ Win ρ id e x o) -> w'.heap[x]? = w.heap[x]?) : AbsR w0 ρ' H' w' := by
  obtain ⟨B, hB⟩ := h
  refine ⟨B, fun id e he h1 h2 => ?_⟩
  have he0 := hH id e he h1 h2
  obtain ⟨b, C, g1, g2, g3, g4, g5, g6⟩ := hB id e he0 h1 h2
  refine ⟨b, C, by rw [hρ id e he0]; exact g1, g2, g3.congr hs fun x hx => hw x (g3.lt x hx) fun id' e' o he' hwr hwin => ?_, g4, fun id' e' hne he' x o hwin hx => ?_, fun id' e' hne he' q1 q2 => g6 id' e' hne (hH id' e' he' q1 q2) q1 q2⟩
  · by_cases hid : id' = id
    · subst hid
      rw [he0] at he'
      cases he'
      rcases hwr with h' | h'
      · rw [h1] at h'; cases h'
      · rw [h2] at h'; cases h'
    · exact g5 id' e' hid he' x o hwin hx
  · rcases hW id' e' x o he' hwin with ⟨j, e0, k1, k2, k3⟩ | k
    · by_cases hj : j = id
      · subst hj
        rcases k3 with k3 | k3
        · exact hne k3.symm
        · rw [he0] at k1; cases k1; rw [h1] at k3; cases k3
      · exact g5 j e0 hj k1 x o k2 hx
    · have := g3.lt x hx; omega
theorem AbsR.ren {w0 w : World} {ρ ρ' : Rho} {H H' : Heap} (h : AbsR w0 ρ H w) (σ : Nat -> Nat) (hi : ∀ i j e e', H'.find i = some e -> H'.find j = some e' -> i ≠ j -> σ i ≠ σ j)
    (hf : ∀ i e', H'.find i = some e' -> ∃ e, H.find (σ i) = some e /\ (e'.wr = false -> e'.ex = 2 -> e.wr = false /\ e.ex = 2 /\ ρ' i = ρ (σ i) /\ ∀ xs, e.cs = [.rows ZgA 0 xs] -> e'.cs = [.rows ZgA 0 xs]) /\ ∀ x o, Win ρ' i e' x o -> Win ρ (σ i) e x o) : AbsR w0 ρ' H' w := by
  obtain ⟨B, hB⟩ := h
  refine ⟨fun i => B (σ i), fun i e' he h1 h2 => ?_⟩
  obtain ⟨e, k1, k2, k3⟩ := hf i e' he
  obtain ⟨q1, q2, q3, q4⟩ := k2 h1 h2
  obtain ⟨b, C, g1, g2, g3, g4, g5, g6⟩ := hB (σ i) e k1 q1 q2
  refine ⟨b, C, by rw [q3]; exact g1, q4 C g2, g3, g4, fun j e1 hne he1 x o hw => ?_, fun j e1 hne he1 r1 r2 => ?_⟩
  · obtain ⟨e2, m1, _, m3⟩ := hf j e1 he1
    exact g5 (σ j) e2 (hi j i e1 e' he1 he hne) m1 x o (m3 x o hw)
  · obtain ⟨e2, m1, m2, _⟩ := hf j e1 he1
    obtain ⟨r3, r4, _⟩ := m2 r1 r2
    exact g6 (σ j) e2 (hi j i e1 e' he1 he hne) m1 r3 r4
theorem AbsR.less {w0 w : World} {ρ : Rho} {H H' : Heap} (h : AbsR w0 ρ H w) (hf : ∀ i e, H'.find i = some e -> H.find i = some e) : AbsR w0 ρ H' w :=
  h.ren id (fun _ _ _ _ _ _ hne => hne) fun i e he => ⟨e, hf i e he, fun h1 h2 => ⟨h1, h2, rfl, fun _ h => h⟩, fun _ _ h => h⟩
theorem AbsR.win {w0 w : World} {ρ : Rho} {H : Heap} (h : AbsR w0 ρ H w) {id : Nat} {e : Ent} (he : H.find id = some e) (h1 : e.wr = false) (h2 : e.ex = 2) {b base : Nat} (hb : ρ id = some (b, base)) : b < w.heap.size := by
  obtain ⟨B, hB⟩ := h
  obtain ⟨b', C, g1, _, g3, _⟩ := hB id e he h1 h2
  rw [hb] at g1
  cases g1
  exact g3.lt _ g3.mem
theorem Zn7 {cs : List Chunk} {n hs f} (h : Za2 cs = some (n, hs, f)) : Zam cs = n := by
  unfold Za2 at h
  split at h
  · cases h; simp [Zam, Chunk.len, Zaj, Leaf.len]
  · cases h; simp [Zam, Chunk.len, Zaj, Leaf.len]
  · cases h
theorem ZgT (c : Chunk) : Za2 [c] = none := by cases c <;> simp [Za2]
theorem HidRow.to {w w' : World} {W W' : Nat -> Nat -> Prop} {h : Hdr} {f : Nat × List Value} (hr : HidRow w W h f) (hW : ∀ x o v, w.cell? ⟨x, o, none⟩ = some v -> W' x o -> W x o)
    (hw : ∀ x o v, w.cell? ⟨x, o, none⟩ = some v -> ¬ W x o -> w'.cell? ⟨x, o, none⟩ = some v) : HidRow w' W' h f := by
  rcases hr with hr | ⟨b, o, c, h1, h2, h3⟩
  · exact .inl hr
  · refine .inr ⟨b, o, c, h1, h2, fun j v hv => ?_⟩
    obtain ⟨h4, h5⟩ := h3 j v hv
    exact ⟨hw _ _ _ h4 h5, fun h6 => h5 (hW _ _ _ h4 h6)⟩
theorem HidR.to3 {w0 w w' : World} {fp : Nat -> Nat -> Prop} {ρ ρ' : Rho} {H H' : Heap} (h : HidR w0 fp ρ H w) (hH : ∀ id e, H'.find id = some e -> Zam e.cs = 0 ∨ (∃ j e0, H.find j = some e0 /\ (e.wr = true -> e0.wr = true) /\ (Za2 e.cs ≠ none -> Za2 e0.cs = Za2 e.cs)) ∨ Za2 e.cs = none)
    (hW : ∀ x o v, w.cell? ⟨x, o, none⟩ = some v -> Wr ρ' H' x o -> Wr ρ H x o) (hw : ∀ x o v, w.cell? ⟨x, o, none⟩ = some v -> ¬ Wr ρ H x o -> w'.cell? ⟨x, o, none⟩ = some v) : HidR w0 fp ρ' H' w' := by
  intro id e n hs f he hf i hi
  rcases hH id e he with h0 | ⟨j, e0, h1, h2, h3⟩ | h0
  · rw [Zn7 hf] at h0; omega
  · have h4 := h3 (by rw [hf]; simp)
    refine (h j e0 n hs f h1 (h4.trans hf) i hi).to (fun x o v hv hx => ?_) fun x o v hv hx => hw x o v hv fun h' => hx (.inl h')
    rcases hx with hx | ⟨hx, hlt⟩
    · exact .inl (hW x o v hv hx)
    · exact .inr ⟨h2 hx, hlt⟩
  · rw [h0] at hf; cases hf
theorem HidR.to {w0 w w' : World} {fp : Nat -> Nat -> Prop} {ρ ρ' : Rho} {H H' : Heap} (h : HidR w0 fp ρ H w) (hH : ∀ id e, H'.find id = some e -> Zam e.cs = 0 ∨ ∃ j e0, H.find j = some e0 /\ (e.wr = true -> e0.wr = true) /\ (Za2 e.cs ≠ none -> Za2 e0.cs = Za2 e.cs))
    (hW : ∀ x o v, w.cell? ⟨x, o, none⟩ = some v -> Wr ρ' H' x o -> Wr ρ H x o) (hw : ∀ x o v, w.cell? ⟨x, o, none⟩ = some v -> ¬ Wr ρ H x o -> w'.cell? ⟨x, o, none⟩ = some v) : HidR w0 fp ρ' H' w' :=
  h.to3 (fun id e he => (hH id e he).imp_right .inl) hW hw
theorem HidR.none {w0 : World} {fp : Nat -> Nat -> Prop} {ρ : Rho} {H : Heap} {w : World} (h : ∀ id e, H.find id = some e -> Za2 e.cs = none) : HidR w0 fp ρ H w := fun id e n hs f he hf => by rw [h id e he] at hf; cases hf
theorem HidR.less {w0 : World} {fp : Nat -> Nat -> Prop} {ρ : Rho} {H H' : Heap} {w : World} (h : HidR w0 fp ρ H w) (hf : ∀ i e, H'.find i = some e -> H.find i = some e) : HidR w0 fp ρ H' w :=
  h.to (fun id e he => .inr ⟨id, e, hf id e he, fun h => h, fun _ => rfl⟩) (fun x o v _ ⟨id, e, he, hwr, hw⟩ => ⟨id, e, hf id e he, hwr, hw⟩) fun _ _ _ hc _ => hc
theorem Rel.heap {w0 w w' : World} {fp ρ H} (h : Rel w0 fp ρ H w) (hh : w'.heap = w.heap) (ho : w'.os = w.os) (ht : w'.tape = w.tape) (hu : w'.output = w.output) : Rel w0 fp ρ H w' := by
  have hc : ∀ a, w'.cell? a = w.cell? a := fun a => by simp [World.cell?, hh]
  have hf : ∀ a, w'.frozen? a = w.frozen? a := fun a => by simp [World.frozen?, hh]
  exact ⟨h.frame.heap hh ho ht hu, fun id e he => ⟨(h.ents id e he).nil, fun b base hb i v hv => by rw [hc]; exact (h.ents id e he).cells b base hb i v hv,
    fun hw b base hb i hi => by rw [hc, hf]; exact (h.ents id e he).own hw b base hb i hi, fun h1 h2 b base hb => ((h.ents id e he).mp h1 h2 b base hb).keep fun b es cl hm => by rw [hh]; exact hm⟩, h.oks, h.own, h.apart, h.next, h.ro, h.mnew,
    h.ab.to (by rw [hh]; exact Nat.le_refl _) (fun _ _ _ => rfl) (fun _ _ he _ _ => he) (fun _ e _ _ he hw => .inl ⟨_, e, he, hw, .inl rfl⟩) (fun x _ _ => by rw [hh]),
    h.hid.to (fun id e he => .inr ⟨id, e, he, fun h => h, fun _ => rfl⟩) (fun _ _ _ _ hw => hw) fun x o v hv _ => by rw [hc]; exact hv⟩
theorem Rel.drew {w0 w : World} {fp ρ H} (h : Rel w0 fp ρ H w) (n : Nat) : Rel w0 fp ρ H { w with drawn := n } := h.heap rfl rfl rfl rfl
def Rho.up (ρ : Rho) (id : Nat) (p : Option (Nat × Nat)) : Rho := fun i => if i = id then p else ρ i
theorem Rho.up_lt {ρ : Rho} {id : Nat} {p} : ∀ i, i < id -> ρ.up id p i = ρ i := fun i h => by simp [Rho.up, Nat.ne_of_lt h]
theorem Rho.up_same {ρ : Rho} {id : Nat} {p} : ρ.up id p id = p := by simp [Rho.up]
theorem Zdd {w : World} {a : Addr} {v : Value} (h : w.cell? a = some v) : a.block < w.heap.size := by
  unfold World.cell? at h
  split at h
  · rename_i hb
    exact (Array.getElem?_eq_some_iff.1 hb).1
  · cases h
theorem EntOk.lt {ρ w id e} (h : EntOk ρ w id e) {b base : Nat} (hb : ρ id = some (b, base)) (hs : 0 < Zam e.cs) : b < w.heap.size := by
  have hl := Zan ρ e.cs
  have : 0 < (Zab ρ e.cs).length := by omega
  have := h.cells b base hb 0 _ (List.getElem?_eq_getElem this)
  exact Zdd this
theorem EntOk.congr {ρ ρ' : Rho} {w w' : World} {id n : Nat} {e : Ent} (h : EntOk ρ w id e) (hρ : ∀ i, i < n -> ρ' i = ρ i) (hid : id < n) (hok : ZaE ρ n e.cs)
    (hc : ∀ b o, Win ρ id e b o -> w'.cell? ⟨b, o, none⟩ = w.cell? ⟨b, o, none⟩)
    (hf : e.wr = true -> ∀ b o, Win ρ id e b o -> w'.frozen? ⟨b, o, none⟩ = w.frozen? ⟨b, o, none⟩)
    (hm : ∀ (b : Nat) es cl, w.heap[b]? = some (Obj.map es cl) -> w'.heap[b]? = some (Obj.map es cl)) : EntOk ρ' w' id e := by
  have hid' := hρ id hid
  have hcc := Zba hρ e.cs hok
  refine ⟨fun hn => h.nil (hid' ▸ hn), fun b base hb i v hv => ?_, fun hw b base hb i hi => ?_, fun h1 h2 b base hb => (h.mp h1 h2 b base (hid' ▸ hb)).keep hm⟩
  · rw [hid'] at hb; rw [hcc] at hv
    have hi : i < (Zab ρ e.cs).length := (List.getElem?_eq_some_iff.1 hv).1
    rw [Zan] at hi
    rw [hc b (base + i) ⟨base, hb, by omega, by simp only [Ent.size]; omega⟩]
    exact h.cells b base hb i v hv
  · rw [hid'] at hb
    have hwin : Win ρ id e b (base + i) := ⟨base, hb, by omega, by omega⟩
    rw [hc b _ hwin, hf hw b _ hwin]
    exact h.own hw b base hb i hi
theorem Win.congr {ρ ρ' : Rho} {id : Nat} {e : Ent} {b o : Nat} (hρ : ρ' id = ρ id) : Win ρ' id e b o ↔ Win ρ id e b o := by simp [Win, hρ]
theorem Rel.win_lt {w0 w : World} {fp ρ H} (h : Rel w0 fp ρ H w) {id e b o} (he : H.find id = some e) (hw : Win ρ id e b o) : b < w.heap.size := by
  obtain ⟨base, hb, h1, h2⟩ := hw
  rcases h.ro id e he with hs | hs | hs
  · obtain ⟨⟨v, hv⟩, _⟩ := (h.ents id e he).own hs b base hb (o - base) (by omega)
    exact Zdd hv
  · exact (h.ents id e he).lt hb (by simp only [Ent.size, hs] at h2; omega)
  · by_cases hwr : e.wr = true
    · obtain ⟨⟨v, hv⟩, _⟩ := (h.ents id e he).own hwr b base hb (o - base) (by omega)
      exact Zdd hv
    · rcases hs.1 with hx | hx
      · exact ((h.ents id e he).mp (by simpa using hwr) hx b base hb).lt
      · exact h.ab.win he (by simpa using hwr) hx hb
theorem Rel.alloc {w0 w : World} {fp ρ H} (h : Rel w0 fp ρ H w) {cs : List Chunk} {ex : Nat} {cells : Array Value} {t : TypeId}
    (hok : ZaE ρ H.next cs) (hc : ∃ more : List Value, cells.toList = Zab ρ cs ++ more /\ more.length = ex) (hh : Za2 cs = none := by first | exact ZgT _ | rfl) :
    Rel w0 fp (ρ.up H.next (some (w.heap.size, 0))) (H.push ⟨true, cs, ex⟩) (w.alloc (.cells cells t)) := by
  obtain ⟨more, hcells, hmore⟩ := hc
  have hup := Rho.up_lt (ρ := ρ) (id := H.next) (p := some (w.heap.size, 0))
  have hsz : cells.size = Zam cs + ex := by
    rw [<- Array.length_toList, hcells, List.length_append, Zan, hmore]
  have hold : ∀ id e, H.find id = some e -> id < H.next /\ ∀ b o, Win ρ id e b o -> b < w.heap.size := fun id e he => ⟨h.next id e he, fun b o hw => h.win_lt he hw⟩
  refine ⟨h.frame.alloc _, fun id e he => ?_, fun id e he => ?_, fun id e he hwr b o hw => ?_, fun id id' e e' hne he he' hwr b o hw hw' => ?_, fun id e he => ?_, fun id e he => ?_, fun id e he h1 h2 b base hb => ?_, ?_, ?_⟩
  · rw [Heap.find_push] at he
    split at he
    · rename_i hid
      subst hid
      cases he
      refine ⟨fun hn => by simp [Rho.up_same] at hn, fun b base hb i v hv => ?_, fun _ b base hb i hi => ?_, fun h => by cases h⟩
      · rw [Rho.up_same] at hb
        cases hb
        rw [Zba hup cs hok] at hv
        rw [Nat.zero_add, World.cell?_alloc_new, <- Array.getElem?_toList, hcells]
        have hlt := (List.getElem?_eq_some_iff.1 hv).1
        rw [List.getElem?_append_left hlt]; exact hv
      · rw [Rho.up_same] at hb
        cases hb
        rw [Nat.zero_add, World.cell?_alloc_new, World.frozen?_alloc_new]
        simp only [Ent.size] at hi
        exact ⟨⟨cells[i]'(by omega), by simp [show i < cells.size by omega]⟩, rfl⟩
    · have := hold id e he
      exact (h.ents id e he).congr hup this.1 (h.oks id e he)
        (fun b o hw => World.cell?_alloc_lt _ _ _ (this.2 b o hw)) (fun _ b o hw => World.frozen?_alloc_old _ _ _ (Nat.ne_of_lt (this.2 b o hw))) (fun _ _ _ => Zf0 _)
  · rw [Heap.find_push] at he
    split at he
    · cases he
      exact Za8 hup (by simp [Heap.push]) cs hok
    · exact Za8 hup (by simp [Heap.push]) _ (h.oks id e he)
  · rw [Heap.find_push] at he
    split at he
    · rename_i hid
      subst hid
      cases he
      obtain ⟨base, hb, _, _⟩ := hw
      rw [Rho.up_same] at hb
      cases hb
      exact .inr h.frame.size
    · exact h.own id e he hwr b o ((Win.congr (hup id (hold id e he).1)).1 hw)
  · rw [Heap.find_push] at he he'
    split at he
    · rename_i hid
      subst hid
      cases he
      obtain ⟨base, hb, _, _⟩ := hw
      rw [Rho.up_same] at hb
      cases hb
      split at he'
      · rename_i hid'; exact hne hid'
      · have h1 := hold id' e' he'
        have := h1.2 _ _ ((Win.congr (hup id' h1.1)).1 hw')
        omega
    · have h1 := hold id e he
      have hw1 := (Win.congr (hup id h1.1)).1 hw
      split at he'
      · rename_i hid'
        subst hid'
        cases he'
        obtain ⟨base, hb, _, _⟩ := hw'
        rw [Rho.up_same] at hb
        cases hb
        have := h1.2 _ _ hw1
        omega
      · have h2 := hold id' e' he'
        exact h.apart id id' e e' hne he he' hwr b o hw1 ((Win.congr (hup id' h2.1)).1 hw')
  · rw [Heap.find_push] at he
    split at he
    · rename_i hid; subst hid; simp [Heap.push]
    · have := h.next id e he; simp [Heap.push]; omega
  · rw [Heap.find_push] at he
    split at he
    · cases he; exact .inl rfl
    · exact h.ro id e he
  · rw [Heap.find_push] at he
    split at he
    · cases he; cases h1
    · rw [hup id (h.next id e he)] at hb
      exact h.mnew id e he h1 h2 b base hb
  · refine h.ab.to (by simp) (fun id e he => hup id (h.next id e he)) (fun id e he h1 _ => ?_) (fun id e x o he hw => ?_) fun x hx _ => RowKit.Below.heap_alloc _ _ _ hx
    · rw [Heap.find_push] at he
      split at he
      · cases he; cases h1
      · exact he
    · rw [Heap.find_push] at he
      split at he
      · rename_i hid
        subst hid
        obtain ⟨base, hb, _, _⟩ := hw
        rw [Rho.up_same] at hb
        cases hb
        exact .inr (Nat.le_refl _)
      · exact .inl ⟨id, e, he, (Win.congr (hup id (h.next id e he))).1 hw, .inl rfl⟩
  · refine h.hid.to3 (fun id e he => ?_) (fun x o v hv ⟨id, e, he, hwr, hw⟩ => ?_) fun x o v hv _ => ?_
    · rw [Heap.find_push] at he
      split at he
      · cases he; exact .inr (.inr hh)
      · exact .inr (.inl ⟨id, e, he, fun h => h, fun _ => rfl⟩)
    · rw [Heap.find_push] at he
      split at he
      · rename_i hid
        subst hid
        obtain ⟨base, hb, _, _⟩ := hw
        rw [Rho.up_same] at hb
        cases hb
        have := Zdd hv
        simp only at this; omega
      · exact ⟨id, e, he, hwr, (Win.congr (hup id (h.next id e he))).1 hw⟩
    · rw [World.cell?_alloc_lt _ _ _ (Zdd hv)]; exact hv
theorem Rel.store {w0 w : World} {fp ρ H} (h : Rel w0 fp ρ H w) {id : Nat} {e : Ent} {b base off : Nat} {vs : List Value} {cs' : List Chunk} {ex' : Nat}
    (he : H.find id = some e) (hwr : e.wr = true) (hb : ρ id = some (b, base)) (hoff : off + vs.length <= e.size) (hok : ZaE ρ H.next cs') (hsz : Zam cs' + ex' = e.size)
    (hold : ∀ (i : Nat) v, (Zab ρ cs')[i]? = some v -> (off <= i /\ i < off + vs.length /\ vs[i - off]? = some v) ∨ ((i < off ∨ off + vs.length <= i) /\ (Zab ρ e.cs)[i]? = some v)) (hh : Za2 cs' = none := by first | exact ZgT _ | rfl) :
    Rel w0 fp ρ (H.set id ⟨true, cs', ex'⟩) (w.setCells b (base + off) vs) := by
  have hent := h.ents id e he
  have hsame : ∀ i, i < e.size -> ∃ v, w.cell? ⟨b, base + i, none⟩ = some v := fun i hi => (hent.own hwr b base hb i hi).1
  have hin : ∀ j, j < vs.length -> (w.cell? ⟨b, base + off + j, none⟩).isSome = true := fun j hj => by
    obtain ⟨v, hv⟩ := hsame (off + j) (by omega)
    rw [show base + off + j = base + (off + j) by omega, hv]; rfl
  have hfrz : ∀ x, (w.setCells b (base + off) vs).frozen? x = w.frozen? x := World.frozen?_setCells b vs _ w
  have hWin : ∀ b' o, Win ρ id ⟨true, cs', ex'⟩ b' o ↔ Win ρ id e b' o := fun b' o => by simp only [Win, Ent.size] at *; simp only [hsz]
  have hother : ∀ id' e', id' ≠ id -> H.find id' = some e' -> ∀ b' o, Win ρ id' e' b' o -> (w.setCells b (base + off) vs).cell? ⟨b', o, none⟩ = w.cell? ⟨b', o, none⟩ := fun id' e' hne he' b' o hw => by
    refine World.cell?_setCells_out b vs _ w _ (fun hbb _ => ?_)
    simp only at hbb ⊢
    subst hbb
    rcases Nat.lt_or_ge o (base + off) with h1 | h1
    · exact .inl h1
    · rcases Nat.lt_or_ge o (base + off + vs.length) with h2 | h2
      · exact absurd hw (h.apart id id' e e' (Ne.symm hne) he he' hwr b' o ⟨base, hb, by omega, by omega⟩)
      · exact .inr h2
  refine ⟨h.frame.setCells fun i h1 h2 => h.own id e he hwr b i ⟨base, hb, by omega, by omega⟩, fun id' e' he' => ?_, fun id' e' he' => ?_, fun id' e' he' hwr' b' o hw => ?_, fun i1 i2 e1 e2 hne he1 he2 hwr' b' o hw1 hw2 => ?_, fun id' e' he' => ?_, fun id' e' he' => ?_, fun id' e' he' h1 h2 b' base' hb' => ?_, ?_, ?_⟩
  · rw [Heap.find_set] at he'
    split at he'
    · rename_i hid
      subst hid
      cases he'
      refine ⟨fun hn => (by rw [hb] at hn; cases hn), fun b' base' hb' i v hv => ?_, fun _ b' base' hb' i hi => ?_, fun h => by cases h⟩
      · rw [hb] at hb'
        cases hb'
        rcases hold i v hv with ⟨h1, h2, h3⟩ | ⟨h1, h3⟩
        · have := World.cell?_setCells_in b vs (base + off) w hin (i - off) (by omega)
          rw [show base + off + (i - off) = base + i by omega] at this
          rw [this]
          have hlt : i - off < vs.length := by omega
          rw [List.getElem?_eq_getElem hlt] at h3
          exact h3
        · rw [World.cell?_setCells_out b vs _ w _ (fun _ _ => by simp only; omega)]
          exact hent.cells b base hb i v h3
      · rw [hb] at hb'
        cases hb'
        simp only [Ent.size] at hi
        rw [hsz] at hi
        rw [hfrz]
        refine ⟨?_, (hent.own hwr b base hb i hi).2⟩
        rcases Nat.lt_or_ge i off with h1 | h1
        · rw [World.cell?_setCells_out b vs _ w _ (fun _ _ => by simp only; omega)]
          exact hsame i hi
        · rcases Nat.lt_or_ge i (off + vs.length) with h2 | h2
          · have := World.cell?_setCells_in b vs (base + off) w hin (i - off) (by omega)
            rw [show base + off + (i - off) = base + i by omega] at this
            exact ⟨_, this⟩
          · rw [World.cell?_setCells_out b vs _ w _ (fun _ _ => by simp only; omega)]
            exact hsame i hi
    · rename_i hid
      exact (h.ents id' e' he').congr (fun _ _ => rfl) (h.next id' e' he') (h.oks id' e' he') (hother id' e' (fun h => hid h.symm) he') (fun _ b' o _ => hfrz _) (fun _ _ _ => ZdS b vs _ w)
  · rw [Heap.find_set] at he'
    split at he'
    · cases he'; exact hok
    · exact h.oks id' e' he'
  · rw [Heap.find_set] at he'
    split at he'
    · rename_i hid
      subst hid
      cases he'
      exact h.own id e he hwr b' o ((hWin b' o).1 hw)
    · exact h.own id' e' he' hwr' b' o hw
  · rw [Heap.find_set] at he1 he2
    split at he1
    · rename_i hid
      subst hid
      cases he1
      split at he2
      · rename_i hid2; exact hne hid2
      · exact h.apart id i2 e e2 hne he he2 hwr b' o ((hWin b' o).1 hw1) hw2
    · split at he2
      · rename_i hid2
        subst hid2
        cases he2
        exact h.apart i1 id e1 e hne he1 he hwr' b' o hw1 ((hWin b' o).1 hw2)
      · exact h.apart i1 i2 e1 e2 hne he1 he2 hwr' b' o hw1 hw2
  · rw [Heap.find_set] at he'
    split at he'
    · rename_i hid; subst hid; exact h.next id e he
    · exact h.next id' e' he'
  · rw [Heap.find_set] at he'
    split at he'
    · cases he'; exact .inl rfl
    · exact h.ro id' e' he'
  · rw [Heap.find_set] at he'
    split at he'
    · cases he'; cases h1
    · exact h.mnew id' e' he' h1 h2 b' base' hb'
  · refine h.ab.to (by rw [Zd0]; exact Nat.le_refl _) (fun _ _ _ => rfl) (fun id' e' he' h1 _ => ?_) (fun id' e' x o he' hw => ?_) fun x _ hx => ?_
    · rw [Heap.find_set] at he'
      split at he'
      · cases he'; cases h1
      · exact he'
    · rw [Heap.find_set] at he'
      split at he'
      · rename_i hid
        subst hid
        cases he'
        exact .inl ⟨id, e, he, (hWin x o).1 hw, .inl rfl⟩
      · exact .inl ⟨id', e', he', hw, .inl rfl⟩
    · cases vs with
      | nil => rfl
      | cons v r =>
        refine Zbo _ _ _ _ _ fun hxb => ?_
        subst hxb
        exact hx id e (base + off) he (.inl hwr) ⟨base, hb, by omega, by simp only [List.length_cons] at hoff; omega⟩
  · refine h.hid.to3 (fun id' e' he' => ?_) (fun x o v _ ⟨id', e', he', hwr', hw⟩ => ?_) fun x o v hv hn => ?_
    · rw [Heap.find_set] at he'
      split at he'
      · cases he'; exact .inr (.inr hh)
      · exact .inr (.inl ⟨id', e', he', fun h => h, fun _ => rfl⟩)
    · rw [Heap.find_set] at he'
      split at he'
      · rename_i hid
        subst hid
        cases he'
        exact ⟨id, e, he, hwr, (hWin x o).1 hw⟩
      · exact ⟨id', e', he', hwr', hw⟩
    · rw [World.cell?_setCells_out b vs _ w _ (fun hxb _ => ?_)]
      · exact hv
      · simp only at hxb ⊢
        subst hxb
        rcases Nat.lt_or_ge o (base + off) with h1 | h1
        · exact .inl h1
        · rcases Nat.lt_or_ge o (base + off + vs.length) with h2 | h2
          · exact absurd ⟨id, e, he, hwr, base, hb, by omega, by omega⟩ hn
          · exact .inr h2
theorem Rel.drop {w0 w : World} {fp ρ H} (h : Rel w0 fp ρ H w) (id : Nat) : Rel w0 fp ρ (H.drop id) w := by
  have hf : ∀ i e, (H.drop id).find i = some e -> H.find i = some e := fun i e he => by
    rw [Heap.find_drop] at he
    split at he
    · cases he
    · exact he
  exact ⟨h.frame, fun i e he => h.ents i e (hf i e he), fun i e he => h.oks i e (hf i e he), fun i e he => h.own i e (hf i e he),
    fun i j e e' hne he he' => h.apart i j e e' hne (hf i e he) (hf j e' he'), fun i e he => h.next i e (hf i e he), fun i e he => h.ro i e (hf i e he), fun i e he => h.mnew i e (hf i e he),
    h.ab.to (Nat.le_refl _) (fun _ _ _ => rfl) (fun i e he _ _ => hf i e he) (fun i e x o he hw => .inl ⟨i, e, hf i e he, hw, .inl rfl⟩) (fun _ _ _ => rfl), h.hid.less hf⟩
theorem Rel.setSame {w0 w : World} {fp ρ H} (h : Rel w0 fp ρ H w) {id : Nat} {e : Ent} (he : H.find id = some e) : Rel w0 fp ρ (H.set id e) w := by
  have hf : ∀ i e', (H.set id e).find i = some e' -> H.find i = some e' := fun i e' hi => by
    rw [Heap.find_set] at hi
    split at hi
    · rename_i hid; subst hid; cases hi; exact he
    · exact hi
  exact ⟨h.frame, fun i e he => h.ents i e (hf i e he), fun i e he => h.oks i e (hf i e he), fun i e he => h.own i e (hf i e he),
    fun i j e e' hne he he' => h.apart i j e e' hne (hf i e he) (hf j e' he'), fun i e he => h.next i e (hf i e he), fun i e he => h.ro i e (hf i e he), fun i e he => h.mnew i e (hf i e he),
    h.ab.to (Nat.le_refl _) (fun _ _ _ => rfl) (fun i e he _ _ => hf i e he) (fun i e x o he hw => .inl ⟨i, e, hf i e he, hw, .inl rfl⟩) (fun _ _ _ => rfl), h.hid.less hf⟩
theorem Rel.newMap {w0 w : World} {fp ρ H} (h : Rel w0 fp ρ H w) {cs : List Chunk} (hlen : Zam cs = 0) (hok : ZaE (ρ.up H.next (some (w.heap.size, 0))) (H.next + 1) cs) (hk : Zb5 cs = []) (hv : ∀ vs, Zcn cs = some vs -> vs = []) :
    Rel w0 fp (ρ.up H.next (some (w.heap.size, 0))) (H.push ⟨false, cs, 1⟩) (w.alloc (Obj.map #[] 0)) := by
  have hup := Rho.up_lt (ρ := ρ) (id := H.next) (p := some (w.heap.size, 0))
  have hold : ∀ id e, H.find id = some e -> id < H.next /\ ∀ b o, Win ρ id e b o -> b < w.heap.size := fun id e he => ⟨h.next id e he, fun b o hw => h.win_lt he hw⟩
  have hnil : Zab (ρ.up H.next (some (w.heap.size, 0))) cs = [] := List.eq_nil_of_length_eq_zero (by rw [Zan]; exact hlen)
  refine ⟨h.frame.alloc _, fun id e he => ?_, fun id e he => ?_, fun id e he hwr b o hw => ?_, fun id id' e e' hne he he' hwr b o hw hw' => ?_, fun id e he => ?_, fun id e he => ?_, fun id e he h1 h2 b base hb => ?_, ?_, ?_⟩
  · rw [Heap.find_push] at he
    split at he
    · rename_i hid
      subst hid
      cases he
      refine ⟨fun hn => by simp [Rho.up_same] at hn, fun b base hb i v hv => ?_, fun h => (by cases h), fun _ _ b base hb => ?_⟩
      · rw [hnil] at hv; simp at hv
      · rw [Rho.up_same] at hb
        cases hb
        exact ⟨#[], 0, by unfold World.alloc; simp, by rw [hk]; rfl, fun vs h => (hv vs h).symm⟩
    · have := hold id e he
      exact (h.ents id e he).congr hup this.1 (h.oks id e he)
        (fun b o hw => World.cell?_alloc_lt _ _ _ (this.2 b o hw)) (fun _ b o hw => World.frozen?_alloc_old _ _ _ (Nat.ne_of_lt (this.2 b o hw))) (fun _ _ _ => Zf0 _)
  · rw [Heap.find_push] at he
    split at he
    · cases he
      exact hok
    · exact Za8 hup (by simp [Heap.push]) _ (h.oks id e he)
  · rw [Heap.find_push] at he
    split at he
    · cases he; cases hwr
    · exact h.own id e he hwr b o ((Win.congr (hup id (hold id e he).1)).1 hw)
  · rw [Heap.find_push] at he he'
    split at he
    · cases he; cases hwr
    · have h1 := hold id e he
      have hw1 := (Win.congr (hup id h1.1)).1 hw
      split at he'
      · rename_i hid'
        subst hid'
        cases he'
        obtain ⟨base, hb, _, _⟩ := hw'
        rw [Rho.up_same] at hb
        cases hb
        have := h1.2 _ _ hw1
        omega
      · have h2 := hold id' e' he'
        exact h.apart id id' e e' hne he he' hwr b o hw1 ((Win.congr (hup id' h2.1)).1 hw')
  · rw [Heap.find_push] at he
    split at he
    · rename_i hid; subst hid; simp [Heap.push]
    · have := h.next id e he; simp [Heap.push]; omega
  · rw [Heap.find_push] at he
    split at he
    · cases he; exact .inr (.inr ⟨.inl rfl, hlen⟩)
    · exact h.ro id e he
  · rw [Heap.find_push] at he
    split at he
    · rename_i hid
      subst hid
      rw [Rho.up_same] at hb
      cases hb
      exact h.frame.size
    · rw [hup id (h.next id e he)] at hb
      exact h.mnew id e he h1 h2 b base hb
  · refine h.ab.to (by simp) (fun id e he => hup id (h.next id e he)) (fun id e he _ h2 => ?_) (fun id e x o he hw => ?_) fun x hx _ => RowKit.Below.heap_alloc _ _ _ hx
    · rw [Heap.find_push] at he
      split at he
      · cases he; cases h2
      · exact he
    · rw [Heap.find_push] at he
      split at he
      · rename_i hid
        subst hid
        obtain ⟨base, hb, _, _⟩ := hw
        rw [Rho.up_same] at hb
        cases hb
        exact .inr (Nat.le_refl _)
      · exact .inl ⟨id, e, he, (Win.congr (hup id (h.next id e he))).1 hw, .inl rfl⟩
  · refine h.hid.to (fun id e he => ?_) (fun x o v hv ⟨id, e, he, hwr, hw⟩ => ?_) fun x o v hv _ => ?_
    · rw [Heap.find_push] at he
      split at he
      · cases he; exact .inl hlen
      · exact .inr ⟨id, e, he, fun h => h, fun _ => rfl⟩
    · rw [Heap.find_push] at he
      split at he
      · cases he; cases hwr
      · exact ⟨id, e, he, hwr, (Win.congr (hup id (h.next id e he))).1 hw⟩
    · rw [World.cell?_alloc_lt _ _ _ (Zdd hv)]; exact hv
theorem ZeZ {id : Nat} : ∀ (l : List (Nat × Option Ent)) (i : Nat) (e : Ent), Ze0 id l = true -> Zc9 l i = some e -> i ≠ id -> e.wr = false -> e.ex = 1 -> False
  | [], _, _, _, hf, _, _, _ => by simp [Zc9] at hf
  | (k, none) :: r, i, e, h, hf, hne, h1, h2 => by
    rw [ZaF] at hf
    split at hf
    · cases hf
    · exact ZeZ r i e h hf hne h1 h2
  | (k, some e0) :: r, i, e, h, hf, hne, h1, h2 => by
    simp only [Ze0, Bool.and_eq_true, Bool.or_eq_true] at h
    rw [ZaF] at hf
    split at hf
    · rename_i hk
      cases hf
      subst hk
      rcases h.1 with (h3 | h3) | h3
      · exact hne (Nat.eq_of_beq_eq_true h3)
      · rw [h1] at h3; cases h3
      · rw [h2] at h3; simp at h3
    · exact ZeZ r i e h.2 hf hne h1 h2
theorem Rel.setMap {w0 w : World} {fp ρ H} (h : Rel w0 fp ρ H w) {id : Nat} {e : Ent} {b base : Nat} {cs' : List Chunk} {es cl} (he : H.find id = some e) (hwr : e.wr = false) (hex : e.ex = 1)
    (hb : ρ id = some (b, base)) (hone : Ze0 id H.ents = true) (hlen : Zam cs' = 0) (hok : ZaE ρ H.next cs') (hk : es.toList.map (·.key) = Zb5 cs') (hv : ∀ vs, Zcn cs' = some vs -> es.toList.map (·.val) = vs) :
    Rel w0 fp ρ (H.set id ⟨false, cs', 1⟩) { w with heap := w.heap.setIfInBounds b (Obj.map es cl) } := by
  obtain ⟨es0, cl0, hm0, _⟩ := (h.ents id e he).mp hwr hex b base hb
  have hnew := h.mnew id e he hwr hex b base hb
  have hoth : ∀ b', b' ≠ b -> ({ w with heap := w.heap.setIfInBounds b (Obj.map es cl) } : World).heap[b']? = w.heap[b']? := fun b' hne => by
    exact (MapKept.heap_set hm0).2 b' hne
  have hsame : ({ w with heap := w.heap.setIfInBounds b (Obj.map es cl) } : World).heap[b]? = some (Obj.map es cl) := by
    exact (MapKept.heap_set hm0).1
  have hcell : ∀ b' o, b' ≠ b -> ({ w with heap := w.heap.setIfInBounds b (Obj.map es cl) } : World).cell? ⟨b', o, none⟩ = w.cell? ⟨b', o, none⟩ := fun b' o hne => by
    simp only [World.cell?, hoth b' hne]
  have hfrz : ∀ b' o, b' ≠ b -> ({ w with heap := w.heap.setIfInBounds b (Obj.map es cl) } : World).frozen? ⟨b', o, none⟩ = w.frozen? ⟨b', o, none⟩ := fun b' o hne => by
    simp only [World.frozen?, hoth b' hne]
  have hnc : ∀ o, w.cell? ⟨b, o, none⟩ = none := fun o => by simp [World.cell?, hm0]
  have hnil : Zab ρ cs' = [] := List.eq_nil_of_length_eq_zero (by rw [Zan]; exact hlen)
  refine ⟨⟨h.frame.os, h.frame.tape, h.frame.output, by simp only [Array.size_setIfInBounds]; exact h.frame.size, fun b' hb' hn => ?_, fun b' hb' c t fz hc => ?_⟩, fun id' e' he' => ?_, fun id' e' he' => ?_, fun id' e' he' hwr' b' o hw => ?_, fun i1 i2 e1 e2 hne he1 he2 hwr' b' o hw1 hw2 => ?_, fun id' e' he' => ?_, fun id' e' he' => ?_, fun id' e' he' h1 h2 b' base' hb' => ?_, ?_, ?_⟩
  · rw [hoth b' (by omega)]; exact h.frame.other b' hb' hn
  · rw [hoth b' (by omega)]; exact h.frame.cells b' hb' c t fz hc
  · rw [Heap.find_set] at he'
    split at he'
    · rename_i hid
      subst hid
      cases he'
      refine ⟨fun hn => (by rw [hb] at hn; cases hn), fun b' base' hb' i v hv => ?_, fun h => (by cases h), fun _ _ b' base' hb' => ?_⟩
      · rw [hnil] at hv; simp at hv
      · rw [hb] at hb'
        cases hb'
        exact ⟨es, cl, hsame, hk, hv⟩
    · rename_i hid
      have hE := h.ents id' e' he'
      refine ⟨hE.nil, fun b' base' hb' i v hv => ?_, fun hw b' base' hb' i hi => ?_, fun h1 h2 b' base' hb' => (ZeZ _ _ _ hone he' (fun h => hid h.symm) h1 h2).elim⟩
      · have := hE.cells b' base' hb' i v hv
        rw [hcell b' _ (fun hbb => by subst hbb; rw [hnc] at this; cases this)]; exact this
      · have := hE.own hw b' base' hb' i hi
        have hne : b' ≠ b := fun hbb => by subst hbb; obtain ⟨⟨v, hv⟩, _⟩ := this; rw [hnc] at hv; cases hv
        rw [hcell b' _ hne, hfrz b' _ hne]; exact this
  · rw [Heap.find_set] at he'
    split at he'
    · cases he'; exact hok
    · exact h.oks id' e' he'
  · rw [Heap.find_set] at he'
    split at he'
    · cases he'; cases hwr'
    · exact h.own id' e' he' hwr' b' o hw
  · rw [Heap.find_set] at he1 he2
    split at he1
    · cases he1; cases hwr'
    · split at he2
      · rename_i hid2
        subst hid2
        cases he2
        obtain ⟨base2, hb2, h3, h4⟩ := hw2
        rw [hb] at hb2
        cases hb2
        obtain ⟨base1, hb1, h5, h6⟩ := hw1
        obtain ⟨⟨v, hv⟩, _⟩ := (h.ents i1 e1 he1).own hwr' b base1 hb1 (o - base1) (by omega)
        rw [hnc] at hv; cases hv
      · exact h.apart i1 i2 e1 e2 hne he1 he2 hwr' b' o hw1 hw2
  · rw [Heap.find_set] at he'
    split at he'
    · rename_i hid; subst hid; exact h.next id e he
    · exact h.next id' e' he'
  · rw [Heap.find_set] at he'
    split at he'
    · cases he'; exact .inr (.inr ⟨.inl rfl, hlen⟩)
    · exact h.ro id' e' he'
  · rw [Heap.find_set] at he'
    split at he'
    · rename_i hid
      subst hid
      exact h.mnew id e he hwr hex b' base' hb'
    · exact h.mnew id' e' he' h1 h2 b' base' hb'
  · refine h.ab.to (by simp only [Array.size_setIfInBounds]; exact Nat.le_refl _) (fun _ _ _ => rfl) (fun id' e' he' _ h2 => ?_) (fun id' e' x o he' hw => ?_) fun x _ hx => ?_
    · rw [Heap.find_set] at he'
      split at he'
      · cases he'; cases h2
      · exact he'
    · rw [Heap.find_set] at he'
      split at he'
      · rename_i hid
        subst hid
        cases he'
        refine .inl ⟨id, e, he, ?_, .inl rfl⟩
        obtain ⟨base', hb', k1, k2⟩ := hw
        refine ⟨base', hb', k1, ?_⟩
        simp only [Ent.size, hlen] at k2
        simp only [Ent.size, hex]
        omega
      · exact .inl ⟨id', e', he', hw, .inl rfl⟩
    · refine hoth x fun hxb => ?_
      subst hxb
      exact hx id e base he (.inr hex) ⟨base, hb, Nat.le_refl _, by simp only [Ent.size, hex]; omega⟩
  · refine h.hid.to (fun id' e' he' => ?_) (fun x o v _ ⟨id', e', he', hwr', hw⟩ => ?_) fun x o v hv _ => ?_
    · rw [Heap.find_set] at he'
      split at he'
      · cases he'; exact .inl hlen
      · exact .inr ⟨id', e', he', fun h => h, fun _ => rfl⟩
    · rw [Heap.find_set] at he'
      split at he'
      · cases he'; cases hwr'
      · exact ⟨id', e', he', hwr', hw⟩
    · rw [hcell x o fun hxb => by subst hxb; rw [hnc] at hv; cases hv]; exact hv
end Go.Sx
