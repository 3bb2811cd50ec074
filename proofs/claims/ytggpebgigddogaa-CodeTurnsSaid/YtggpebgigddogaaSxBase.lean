/- The base of a symbolic evaluator over the model's code: symbolic values, small heaps, and what it means that a world holds a small heap. Nothing of any program stands here. -/
import Derived.Calls
import Derived.Tactics
import Derived.Below
import Derived.Deep.Quiet
namespace Go.Sx

/-- A place in a small heap: the entry 'id', the chunk that begins at cell 'off', in it the place 'idx' times 'st' cells on. -/
structure SAddr where
  id : Nat
  off : Nat
  idx : Nat
  st : Nat

/-- The leaves of a row's element: a whole number, a bool, an array of whole numbers. -/
inductive Leaf | int (k : IntKind) | bool | ints (k : IntKind) (n : Nat)
deriving DecidableEq
abbrev Leaf.T : Leaf → Type | .int _ => Int | .bool => Bool | .ints _ _ => List Int
def Leaf.len : Leaf → Nat | .int _ => 1 | .bool => 1 | .ints _ n => n
def Leaf.dflt : (l : Leaf) → l.T | .int _ => (0 : Int) | .bool => false | .ints _ n => (List.replicate n 0 : List Int)
abbrev Tup : List Leaf → Type
  | [] => Unit
  | [l] => l.T
  | l :: m :: r => l.T × Tup (m :: r)
def Tup.dflt : (sh : List Leaf) → Tup sh
  | [] => ()
  | [l] => l.dflt
  | l :: m :: r => (l.dflt, Tup.dflt (m :: r))
def stride : List Leaf → Nat
  | [] => 0
  | l :: r => l.len + stride r
def intsConc (k : IntKind) (n : Nat) (xs : List Int) : List Value := (List.range n).map fun i => .int k (xs.getD i 0)
def Leaf.conc : (l : Leaf) → l.T → List Value
  | .int k, n => [.int k n]
  | .bool, b => [.bool b]
  | .ints k n, xs => intsConc k n xs
def tupConc : (sh : List Leaf) → Tup sh → List Value
  | [], _ => []
  | [l], x => l.conc x
  | l :: m :: r, x => l.conc x.1 ++ tupConc (m :: r) x.2
def rowsConc (sh : List Leaf) (n : Nat) (xs : List (Tup sh)) : List Value := (List.range n).flatMap fun i => tupConc sh (xs.getD i (Tup.dflt sh))

mutual
inductive SVal
  | bool (b : Bool)
  | int (k : IntKind) (n : Int)
  | str (s : ByteArray)
  | ptr (a : SAddr) (n : Nat)
  | nilptr
  | slice (a : SAddr) (len cap : Nat)
  | nilslice
  | agg (cs : List Chunk)
  | tuple (vs : List SVal)
  | fn (f : Fn) (first captured : List SVal)
  | nilfn
  | iface (t : TypeId) (v : SVal)
  | niliface
  | map (id : Nat)
  | nilmap
inductive Chunk
  | one (v : SVal)
  | ints (k : IntKind) (n : Nat) (xs : List Int)
  | rows (sh : List Leaf) (n : Nat) (xs : List (Tup sh))
end

abbrev Rho := Nat → Option (Nat × Nat)
def SAddr.conc (ρ : Rho) (a : SAddr) : Option Addr := (ρ a.id).map fun p => ⟨p.1, p.2 + (a.off + a.idx * a.st), none⟩

mutual
def SVal.conc (ρ : Rho) : SVal → Value
  | .bool b => .bool b
  | .int k n => .int k n
  | .str s => .string s
  | .ptr a _ => .pointer (a.conc ρ)
  | .nilptr => .pointer none
  | .slice a l c => .slice (a.conc ρ) l c
  | .nilslice => .slice none 0 0
  | .agg cs => .agg (concCs ρ cs).toArray
  | .tuple vs => .tuple (concL ρ vs).toArray
  | .fn f a b => .func f (concL ρ a).toArray (concL ρ b).toArray
  | .nilfn => .nilFunc
  | .iface t v => .iface t (v.conc ρ)
  | .niliface => .nilIface
  | .map id => .map ((ρ id).map (·.1))
  | .nilmap => .map none
def concL (ρ : Rho) : List SVal → List Value
  | [] => []
  | v :: r => v.conc ρ :: concL ρ r
def Chunk.conc (ρ : Rho) : Chunk → List Value
  | .one v => [v.conc ρ]
  | .ints k n xs => intsConc k n xs
  | .rows sh n xs => rowsConc sh n xs
def concCs (ρ : Rho) : List Chunk → List Value
  | [] => []
  | c :: r => c.conc ρ ++ concCs ρ r
end

def Chunk.len : Chunk → Nat
  | .one _ => 1
  | .ints _ n _ => n
  | .rows sh n _ => n * stride sh
def lenCs : List Chunk → Nat
  | [] => 0
  | c :: r => c.len + lenCs r

theorem intsConc_length (k n xs) : (intsConc k n xs).length = n := by simp [intsConc]
theorem leafConc_length : ∀ (l : Leaf) (x : l.T), (l.conc x).length = l.len
  | .int _, _ => rfl
  | .bool, _ => rfl
  | .ints _ _, _ => by simp [Leaf.conc, Leaf.len, intsConc]
theorem tupConc_length : ∀ (sh : List Leaf) (x : Tup sh), (tupConc sh x).length = stride sh
  | [], _ => rfl
  | [l], x => by simp [tupConc, stride, leafConc_length]
  | l :: m :: r, x => by
    have := tupConc_length (m :: r) x.2
    simp [tupConc, stride, leafConc_length] at *
    omega
theorem flatMap_range_length {α : Type} (f : Nat → List α) (s : Nat) (h : ∀ i, (f i).length = s) : ∀ n, ((List.range n).flatMap f).length = n * s
  | 0 => by simp
  | n + 1 => by simp [List.range_succ, List.flatMap_append, flatMap_range_length f s h n, h, Nat.succ_mul]
theorem rowsConc_length (sh n xs) : (rowsConc sh n xs).length = n * stride sh := by
  unfold rowsConc; exact flatMap_range_length _ _ (fun i => tupConc_length _ _) n
theorem chunkConc_length (ρ : Rho) : ∀ c : Chunk, (c.conc ρ).length = c.len
  | .one _ => by simp [Chunk.conc, Chunk.len]
  | .ints k n xs => by simp [Chunk.conc, Chunk.len, intsConc]
  | .rows sh n xs => by simp [Chunk.conc, Chunk.len, rowsConc_length]
theorem concCs_length (ρ : Rho) : ∀ cs : List Chunk, (concCs ρ cs).length = lenCs cs
  | [] => by simp [concCs, lenCs]
  | c :: r => by simp [concCs, lenCs, chunkConc_length, concCs_length ρ r]
theorem intsConc_get (k : IntKind) (n : Nat) (xs : List Int) (i : Nat) (h : i < n) : (intsConc k n xs)[i]? = some (.int k (xs.getD i 0)) := by
  simp [intsConc, h]
theorem concL_length (ρ : Rho) : ∀ vs : List SVal, (concL ρ vs).length = vs.length
  | [] => by simp [concL]
  | v :: r => by simp [concL, concL_length ρ r]

/-! ### What values hang on -/
mutual
/-- All entries that a value speaks of are below 'n'; its pointers are not nil; a slice that is nil has no elements. -/
def SVal.ok (ρ : Rho) (n : Nat) : SVal → Prop
  | .ptr a _ => a.id < n ∧ ρ a.id ≠ none
  | .slice a l c => a.id < n ∧ (ρ a.id = none → l = 0 ∧ c = 0)
  | .agg cs => okCs ρ n cs
  | .tuple vs => okL ρ n vs
  | .fn _ a b => okL ρ n a ∧ okL ρ n b
  | .iface _ v => v.ok ρ n
  | .map id => id < n ∧ ρ id ≠ none
  | _ => True
def okL (ρ : Rho) (n : Nat) : List SVal → Prop
  | [] => True
  | v :: r => v.ok ρ n ∧ okL ρ n r
def Chunk.ok (ρ : Rho) (n : Nat) : Chunk → Prop
  | .one v => v.ok ρ n
  | _ => True
def okCs (ρ : Rho) (n : Nat) : List Chunk → Prop
  | [] => True
  | c :: r => c.ok ρ n ∧ okCs ρ n r
end

theorem SAddr.conc_congr {ρ ρ' : Rho} {n : Nat} (h : ∀ id, id < n → ρ' id = ρ id) {a : SAddr} (ha : a.id < n) : a.conc ρ' = a.conc ρ := by simp only [SAddr.conc, h _ ha]
mutual
theorem SVal.conc_congr {ρ ρ' : Rho} {n : Nat} (h : ∀ id, id < n → ρ' id = ρ id) : ∀ v : SVal, v.ok ρ n → v.conc ρ' = v.conc ρ
  | .bool _, _ | .int _ _, _ | .str _, _ | .nilptr, _ | .nilslice, _ | .nilfn, _ | .niliface, _ | .nilmap, _ => by simp only [SVal.conc]
  | .ptr a _, hv => by simp only [SVal.ok] at hv; simp only [SVal.conc, SAddr.conc_congr h hv.1]
  | .slice a _ _, hv => by simp only [SVal.ok] at hv; simp only [SVal.conc, SAddr.conc_congr h hv.1]
  | .agg cs, hv => by simp only [SVal.ok] at hv; simp only [SVal.conc, concCs_congr h cs hv]
  | .tuple vs, hv => by simp only [SVal.ok] at hv; simp only [SVal.conc, concL_congr h vs hv]
  | .fn _ a b, hv => by simp only [SVal.ok] at hv; simp only [SVal.conc, concL_congr h a hv.1, concL_congr h b hv.2]
  | .iface _ v, hv => by simp only [SVal.ok] at hv; simp only [SVal.conc, SVal.conc_congr h v hv]
  | .map id, hv => by simp only [SVal.ok] at hv; simp only [SVal.conc, h _ hv.1]
theorem concL_congr {ρ ρ' : Rho} {n : Nat} (h : ∀ id, id < n → ρ' id = ρ id) : ∀ vs : List SVal, okL ρ n vs → concL ρ' vs = concL ρ vs
  | [], _ => by simp only [concL]
  | v :: r, hv => by simp only [okL] at hv; simp only [concL, SVal.conc_congr h v hv.1, concL_congr h r hv.2]
theorem Chunk.conc_congr {ρ ρ' : Rho} {n : Nat} (h : ∀ id, id < n → ρ' id = ρ id) : ∀ c : Chunk, c.ok ρ n → c.conc ρ' = c.conc ρ
  | .one v, hv => by simp only [Chunk.ok] at hv; simp only [Chunk.conc, SVal.conc_congr h v hv]
  | .ints _ _ _, _ | .rows _ _ _, _ => by simp only [Chunk.conc]
theorem concCs_congr {ρ ρ' : Rho} {n : Nat} (h : ∀ id, id < n → ρ' id = ρ id) : ∀ cs : List Chunk, okCs ρ n cs → concCs ρ' cs = concCs ρ cs
  | [], _ => by simp only [concCs]
  | c :: r, hv => by simp only [okCs] at hv; simp only [concCs, Chunk.conc_congr h c hv.1, concCs_congr h r hv.2]
end
mutual
theorem SVal.ok_mono {ρ ρ' : Rho} {m n : Nat} (h : ∀ id, id < m → ρ' id = ρ id) (hn : m ≤ n) : ∀ v : SVal, v.ok ρ m → v.ok ρ' n
  | .bool _, _ | .int _ _, _ | .str _, _ | .nilptr, _ | .nilslice, _ | .nilfn, _ | .niliface, _ | .nilmap, _ => by simp only [SVal.ok]
  | .ptr a _, hv => by simp only [SVal.ok] at *; rw [h _ hv.1]; exact ⟨by omega, hv.2⟩
  | .slice a _ _, hv => by simp only [SVal.ok] at *; rw [h _ hv.1]; exact ⟨by omega, hv.2⟩
  | .agg cs, hv => by simp only [SVal.ok] at *; exact okCs_mono h hn cs hv
  | .tuple vs, hv => by simp only [SVal.ok] at *; exact okL_mono h hn vs hv
  | .fn _ a b, hv => by simp only [SVal.ok] at *; exact ⟨okL_mono h hn a hv.1, okL_mono h hn b hv.2⟩
  | .iface _ v, hv => by simp only [SVal.ok] at *; exact SVal.ok_mono h hn v hv
  | .map id, hv => by simp only [SVal.ok] at *; rw [h _ hv.1]; exact ⟨by omega, hv.2⟩
theorem okL_mono {ρ ρ' : Rho} {m n : Nat} (h : ∀ id, id < m → ρ' id = ρ id) (hn : m ≤ n) : ∀ vs : List SVal, okL ρ m vs → okL ρ' n vs
  | [], _ => by simp only [okL]
  | v :: r, hv => by simp only [okL] at *; exact ⟨SVal.ok_mono h hn v hv.1, okL_mono h hn r hv.2⟩
theorem Chunk.ok_mono {ρ ρ' : Rho} {m n : Nat} (h : ∀ id, id < m → ρ' id = ρ id) (hn : m ≤ n) : ∀ c : Chunk, c.ok ρ m → c.ok ρ' n
  | .one v, hv => by simp only [Chunk.ok] at *; exact SVal.ok_mono h hn v hv
  | .ints _ _ _, _ | .rows _ _ _, _ => by simp only [Chunk.ok]
theorem okCs_mono {ρ ρ' : Rho} {m n : Nat} (h : ∀ id, id < m → ρ' id = ρ id) (hn : m ≤ n) : ∀ cs : List Chunk, okCs ρ m cs → okCs ρ' n cs
  | [], _ => by simp only [okCs]
  | c :: r, hv => by simp only [okCs] at *; exact ⟨Chunk.ok_mono h hn c hv.1, okCs_mono h hn r hv.2⟩
end

/-! ### Small heaps -/
structure Ent where
  wr : Bool
  cs : List Chunk
  ex : Nat
structure Heap where
  next : Nat
  ents : List (Nat × Option Ent)
def findE : List (Nat × Option Ent) → Nat → Option Ent
  | [], _ => none
  | (k, e) :: r, n => bif Nat.beq k n then e else findE r n
def Heap.find (H : Heap) (id : Nat) : Option Ent := findE H.ents id
def Heap.set (H : Heap) (id : Nat) (e : Ent) : Heap := ⟨H.next, (id, some e) :: H.ents⟩
def Heap.drop (H : Heap) (id : Nat) : Heap := ⟨H.next, (id, none) :: H.ents⟩
def Heap.push (H : Heap) (e : Ent) : Heap := ⟨H.next + 1, (H.next, some e) :: H.ents⟩
theorem findE_cons (k : Nat) (e : Option Ent) (r : List (Nat × Option Ent)) (n : Nat) : findE ((k, e) :: r) n = if k = n then e else findE r n := by
  simp only [findE]
  by_cases h : k = n
  · subst h; simp
  · have hb : Nat.beq k n = false := by
      cases hb : Nat.beq k n
      · rfl
      · exact absurd (Nat.eq_of_beq_eq_true hb) h
    simp [hb, h]
theorem Heap.find_set (H : Heap) (id : Nat) (e : Ent) (n : Nat) : (H.set id e).find n = if id = n then some e else H.find n := findE_cons _ _ _ _
theorem Heap.find_drop (H : Heap) (id : Nat) (n : Nat) : (H.drop id).find n = if id = n then none else H.find n := findE_cons _ _ _ _
theorem Heap.find_push (H : Heap) (e : Ent) (n : Nat) : (H.push e).find n = if H.next = n then some e else H.find n := findE_cons _ _ _ _

def Ent.size (e : Ent) : Nat := lenCs e.cs + e.ex

/-- The cells of an entry, in the world. -/
def Win (ρ : Rho) (id : Nat) (e : Ent) (b o : Nat) : Prop := ∃ base, ρ id = some (b, base) ∧ base ≤ o ∧ o < base + e.size

structure EntOk (ρ : Rho) (w : World) (id : Nat) (e : Ent) : Prop where
  nil : ρ id = none → e.size = 0
  cells : ∀ b base, ρ id = some (b, base) → ∀ (i : Nat) v, (concCs ρ e.cs)[i]? = some v → w.cell? ⟨b, base + i, none⟩ = some v
  own : e.wr = true → ∀ b base, ρ id = some (b, base) → ∀ i, i < e.size → (∃ v, w.cell? ⟨b, base + i, none⟩ = some v) ∧ w.frozen? ⟨b, base + i, none⟩ = false

/-- Of the world 'w0' nothing has turned but the cells of 'fp'. -/
structure Frame (w0 : World) (fp : Nat → Nat → Prop) (w : World) : Prop where
  os : w.os = w0.os
  tape : w.tape = w0.tape
  output : w.output = w0.output
  size : w0.heap.size ≤ w.heap.size
  other : ∀ b, b < w0.heap.size → (∀ o, ¬ fp b o) → w.heap[b]? = w0.heap[b]?
  cells : ∀ b, b < w0.heap.size → ∀ c t fz, w0.heap[b]? = some (.cells c t fz) →
    ∃ c', w.heap[b]? = some (.cells c' t fz) ∧ c'.size = c.size ∧ ∀ o : Nat, ¬ fp b o → c'[o]? = c[o]?

structure Rel (w0 : World) (fp : Nat → Nat → Prop) (ρ : Rho) (H : Heap) (w : World) : Prop where
  frame : Frame w0 fp w
  ents : ∀ id e, H.find id = some e → EntOk ρ w id e
  oks : ∀ id e, H.find id = some e → okCs ρ H.next e.cs
  own : ∀ id e, H.find id = some e → e.wr = true → ∀ b o, Win ρ id e b o → fp b o ∨ w0.heap.size ≤ b
  apart : ∀ id id' e e', id ≠ id' → H.find id = some e → H.find id' = some e' → e.wr = true → ∀ b o, Win ρ id e b o → ¬ Win ρ id' e' b o
  next : ∀ id e, H.find id = some e → id < H.next
  ro : ∀ id e, H.find id = some e → e.wr = true ∨ e.ex = 0

theorem Frame.refl (w : World) (fp) : Frame w fp w :=
  ⟨rfl, rfl, rfl, Nat.le_refl _, fun _ _ _ => rfl, fun _ _ c _ _ h => ⟨c, h, rfl, fun _ _ => rfl⟩⟩

end Go.Sx
