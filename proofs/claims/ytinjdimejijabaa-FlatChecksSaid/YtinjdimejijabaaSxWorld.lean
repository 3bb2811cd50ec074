/- Two parts of the proof. -/
import Derived.Calls
import Derived.Tactics
import Derived.Below
import Derived.Deep.Quiet
import Derived.WalkKit
set_option linter.unusedVariables false
set_option linter.unusedSimpArgs false
namespace Go.Sx
structure SAddr where
  id : Nat
  off : Nat
  idx : Nat
  st : Nat
inductive Leaf | int (k : IntKind) | bool | ints (k : IntKind) (n : Nat)
deriving DecidableEq
abbrev Leaf.T : Leaf -> Type | .int _ => Int | .bool => Bool | .ints _ _ => List Int
def Leaf.len : Leaf -> Nat | .int _ => 1 | .bool => 1 | .ints _ n => n
def Leaf.dflt : (l : Leaf) -> l.T | .int _ => (0 : Int) | .bool => false | .ints _ n => (List.replicate n 0 : List Int)
abbrev Tup : List Leaf -> Type
  | [] => Unit
  | [l] => l.T
  | l :: m :: r => l.T × Tup (m :: r)
def Tup.dflt : (sh : List Leaf) -> Tup sh
  | [] => ()
  | [l] => l.dflt
  | l :: m :: r => (l.dflt, Tup.dflt (m :: r))
def ZaI : List Leaf -> Nat
  | [] => 0
  | l :: r => l.len + ZaI r
def ZaJ (k : IntKind) (n : Nat) (xs : List Int) : List Value := (List.range n).map fun i => .int k (xs.getD i 0)
def Leaf.conc : (l : Leaf) -> l.T -> List Value
  | .int k, n => [.int k n]
  | .bool, b => [.bool b]
  | .ints k n, xs => ZaJ k n xs
def Zbv : (sh : List Leaf) -> Tup sh -> List Value
  | [], _ => []
  | [l], x => l.conc x
  | l :: m :: r, x => l.conc x.1 ++ Zbv (m :: r) x.2
def Za1 (sh : List Leaf) (n : Nat) (xs : List (Tup sh)) : List Value := (List.range n).flatMap fun i => Zbv sh (xs.getD i (Tup.dflt sh))
mutual
inductive SVal
  | bool (b : Bool)
  | int (k : IntKind) (n : Int)
  | str (s : ByteArray)
  | ptr (a : SAddr) (n : Nat)
  | nilptr
  | slice (a : SAddr) (len cap : Nat)
  | nilslice
  | agg (cs : List Chunk)
  | tuple (vs : List SVal)
  | fn (f : Fn) (first captured : List SVal)
  | nilfn
  | iface (t : TypeId) (v : SVal)
  | niliface
  | map (id : Nat)
  | nilmap
inductive Chunk
  | one (v : SVal)
  | ints (k : IntKind) (n : Nat) (xs : List Int)
  | rows (sh : List Leaf) (n : Nat) (xs : List (Tup sh))
end
abbrev Chunk.i (x : Int) : Chunk := .one (.int .i64 x)
abbrev Rho := Nat -> Option (Nat × Nat)
def SAddr.conc (ρ : Rho) (a : SAddr) : Option Addr := (ρ a.id).map fun p => ⟨p.1, p.2 + (a.off + a.idx * a.st), none⟩
mutual
def SVal.conc (ρ : Rho) : SVal -> Value
  | .bool b => .bool b
  | .int k n => .int k n
  | .str s => .string s
  | .ptr a _ => .pointer (a.conc ρ)
  | .nilptr => .pointer none
  | .slice a l c => .slice (a.conc ρ) l c
  | .nilslice => .slice none 0 0
  | .agg cs => .agg (Zam ρ cs).toArray
  | .tuple vs => .tuple (ZbJ ρ vs).toArray
  | .fn f a b => .func f (ZbJ ρ a).toArray (ZbJ ρ b).toArray
  | .nilfn => .nilFunc
  | .iface t v => .iface t (v.conc ρ)
  | .niliface => .nilIface
  | .map id => .map ((ρ id).map (·.1))
  | .nilmap => .map none
def ZbJ (ρ : Rho) : List SVal -> List Value
  | [] => []
  | v :: r => v.conc ρ :: ZbJ ρ r
def Chunk.conc (ρ : Rho) : Chunk -> List Value
  | .one v => [v.conc ρ]
  | .ints k n xs => ZaJ k n xs
  | .rows sh n xs => Za1 sh n xs
def Zam (ρ : Rho) : List Chunk -> List Value
  | [] => []
  | c :: r => c.conc ρ ++ Zam ρ r
end
def Chunk.len : Chunk -> Nat
  | .one _ => 1
  | .ints _ n _ => n
  | .rows sh n _ => n * ZaI sh
def Zaw : List Chunk -> Nat
  | [] => 0
  | c :: r => c.len + Zaw r
theorem Zaf (k n xs) : (ZaJ k n xs).length = n := by simp [ZaJ]
theorem Zdl : ∀ (l : Leaf) (x : l.T), (l.conc x).length = l.len
  | .int _, _ => rfl
  | .bool, _ => rfl
  | .ints _ _, _ => by simp [Leaf.conc, Leaf.len, ZaJ]
theorem Za5 : ∀ (sh : List Leaf) (x : Tup sh), (Zbv sh x).length = ZaI sh
  | [], _ => rfl
  | [l], x => by simp [Zbv, ZaI, Zdl]
  | l :: m :: r, x => by
    have := Za5 (m :: r) x.2
    simp [Zbv, ZaI, Zdl] at *
    omega
theorem ZbY {α : Type} (f : Nat -> List α) (s : Nat) (h : ∀ i, (f i).length = s) : ∀ n, ((List.range n).flatMap f).length = n * s
  | 0 => by simp
  | n + 1 => by simp [List.range_succ, List.flatMap_append, ZbY f s h n, h, Nat.succ_mul]
theorem ZaY (sh n xs) : (Za1 sh n xs).length = n * ZaI sh := by
  unfold Za1; exact ZbY _ _ (fun i => Za5 _ _) n
theorem ZbO (ρ : Rho) : ∀ c : Chunk, (c.conc ρ).length = c.len
  | .one _ => by simp [Chunk.conc, Chunk.len]
  | .ints k n xs => by simp [Chunk.conc, Chunk.len, ZaJ]
  | .rows sh n xs => by simp [Chunk.conc, Chunk.len, ZaY]
theorem ZaW (ρ : Rho) : ∀ cs : List Chunk, (Zam ρ cs).length = Zaw cs
  | [] => by simp [Zam, Zaw]
  | c :: r => by simp [Zam, Zaw, ZbO, ZaW ρ r]
theorem Zbf (k : IntKind) (n : Nat) (xs : List Int) (i : Nat) (h : i < n) : (ZaJ k n xs)[i]? = some (.int k (xs.getD i 0)) := by
  simp [ZaJ, h]
theorem Zfy (ρ : Rho) : ∀ vs : List SVal, (ZbJ ρ vs).length = vs.length
  | [] => by simp [ZbJ]
  | v :: r => by simp [ZbJ, Zfy ρ r]
mutual
def SVal.ok (ρ : Rho) (n : Nat) : SVal -> Prop
  | .ptr a _ => a.id < n /\ ρ a.id ≠ none
  | .slice a l c => a.id < n /\ (ρ a.id = none -> l = 0 /\ c = 0)
  | .agg cs => ZbQ ρ n cs
  | .tuple vs => okL ρ n vs
  | .fn _ a b => okL ρ n a /\ okL ρ n b
  | .iface _ v => v.ok ρ n
  | .map id => id < n /\ ρ id ≠ none
  | _ => True
def okL (ρ : Rho) (n : Nat) : List SVal -> Prop
  | [] => True
  | v :: r => v.ok ρ n /\ okL ρ n r
def Chunk.ok (ρ : Rho) (n : Nat) : Chunk -> Prop
  | .one v => v.ok ρ n
  | _ => True
def ZbQ (ρ : Rho) (n : Nat) : List Chunk -> Prop
  | [] => True
  | c :: r => c.ok ρ n /\ ZbQ ρ n r
end
theorem SAddr.conc_congr {ρ ρ' : Rho} {n : Nat} (h : ∀ id, id < n -> ρ' id = ρ id) {a : SAddr} (ha : a.id < n) : a.conc ρ' = a.conc ρ := by simp only [SAddr.conc, h _ ha]
mutual
theorem SVal.conc_congr {ρ ρ' : Rho} {n : Nat} (h : ∀ id, id < n -> ρ' id = ρ id) : ∀ v : SVal, v.ok ρ n -> v.conc ρ' = v.conc ρ
  | .bool _, _ | .int _ _, _ | .str _, _ | .nilptr, _ | .nilslice, _ | .nilfn, _ | .niliface, _ | .nilmap, _ => by simp only [SVal.conc]
  | .ptr a _, hv => by simp only [SVal.ok] at hv; simp only [SVal.conc, SAddr.conc_congr h hv.1]
  | .slice a _ _, hv => by simp only [SVal.ok] at hv; simp only [SVal.conc, SAddr.conc_congr h hv.1]
  | .agg cs, hv => by simp only [SVal.ok] at hv; simp only [SVal.conc, ZcJ h cs hv]
  | .tuple vs, hv => by simp only [SVal.ok] at hv; simp only [SVal.conc, Zc8 h vs hv]
  | .fn _ a b, hv => by simp only [SVal.ok] at hv; simp only [SVal.conc, Zc8 h a hv.1, Zc8 h b hv.2]
  | .iface _ v, hv => by simp only [SVal.ok] at hv; simp only [SVal.conc, SVal.conc_congr h v hv]
  | .map id, hv => by simp only [SVal.ok] at hv; simp only [SVal.conc, h _ hv.1]
theorem Zc8 {ρ ρ' : Rho} {n : Nat} (h : ∀ id, id < n -> ρ' id = ρ id) : ∀ vs : List SVal, okL ρ n vs -> ZbJ ρ' vs = ZbJ ρ vs
  | [], _ => by simp only [ZbJ]
  | v :: r, hv => by simp only [okL] at hv; simp only [ZbJ, SVal.conc_congr h v hv.1, Zc8 h r hv.2]
theorem Chunk.conc_congr {ρ ρ' : Rho} {n : Nat} (h : ∀ id, id < n -> ρ' id = ρ id) : ∀ c : Chunk, c.ok ρ n -> c.conc ρ' = c.conc ρ
  | .one v, hv => by simp only [Chunk.ok] at hv; simp only [Chunk.conc, SVal.conc_congr h v hv]
  | .ints _ _ _, _ | .rows _ _ _, _ => by simp only [Chunk.conc]
theorem ZcJ {ρ ρ' : Rho} {n : Nat} (h : ∀ id, id < n -> ρ' id = ρ id) : ∀ cs : List Chunk, ZbQ ρ n cs -> Zam ρ' cs = Zam ρ cs
  | [], _ => by simp only [Zam]
  | c :: r, hv => by simp only [ZbQ] at hv; simp only [Zam, Chunk.conc_congr h c hv.1, ZcJ h r hv.2]
end
mutual
theorem SVal.ok_mono {ρ ρ' : Rho} {m n : Nat} (h : ∀ id, id < m -> ρ' id = ρ id) (hn : m <= n) : ∀ v : SVal, v.ok ρ m -> v.ok ρ' n
  | .bool _, _ | .int _ _, _ | .str _, _ | .nilptr, _ | .nilslice, _ | .nilfn, _ | .niliface, _ | .nilmap, _ => by simp only [SVal.ok]
  | .ptr a _, hv => by simp only [SVal.ok] at *; rw [h _ hv.1]; exact ⟨by omega, hv.2⟩
  | .slice a _ _, hv => by simp only [SVal.ok] at *; rw [h _ hv.1]; exact ⟨by omega, hv.2⟩
  | .agg cs, hv => by simp only [SVal.ok] at *; exact Zda h hn cs hv
  | .tuple vs, hv => by simp only [SVal.ok] at *; exact ZeS h hn vs hv
  | .fn _ a b, hv => by simp only [SVal.ok] at *; exact ⟨ZeS h hn a hv.1, ZeS h hn b hv.2⟩
  | .iface _ v, hv => by simp only [SVal.ok] at *; exact SVal.ok_mono h hn v hv
  | .map id, hv => by simp only [SVal.ok] at *; rw [h _ hv.1]; exact ⟨by omega, hv.2⟩
theorem ZeS {ρ ρ' : Rho} {m n : Nat} (h : ∀ id, id < m -> ρ' id = ρ id) (hn : m <= n) : ∀ vs : List SVal, okL ρ m vs -> okL ρ' n vs
  | [], _ => by simp only [okL]
  | v :: r, hv => by simp only [okL] at *; exact ⟨SVal.ok_mono h hn v hv.1, ZeS h hn r hv.2⟩
theorem Chunk.ok_mono {ρ ρ' : Rho} {m n : Nat} (h : ∀ id, id < m -> ρ' id = ρ id) (hn : m <= n) : ∀ c : Chunk, c.ok ρ m -> c.ok ρ' n
  | .one v, hv => by simp only [Chunk.ok] at *; exact SVal.ok_mono h hn v hv
  | .ints _ _ _, _ | .rows _ _ _, _ => by simp only [Chunk.ok]
theorem Zda {ρ ρ' : Rho} {m n : Nat} (h : ∀ id, id < m -> ρ' id = ρ id) (hn : m <= n) : ∀ cs : List Chunk, ZbQ ρ m cs -> ZbQ ρ' n cs
  | [], _ => by simp only [ZbQ]
  | c :: r, hv => by simp only [ZbQ] at *; exact ⟨Chunk.ok_mono h hn c hv.1, Zda h hn r hv.2⟩
end
structure Ent where
  wr : Bool
  cs : List Chunk
  ex : Nat
structure Heap where
  next : Nat
  ents : List (Nat × Option Ent)
def Za8 : List (Nat × Option Ent) -> Nat -> Option Ent
  | [], _ => none
  | (k, e) :: r, n => bif Nat.beq k n then e else Za8 r n
def Heap.find (H : Heap) (id : Nat) : Option Ent := Za8 H.ents id
def Heap.set (H : Heap) (id : Nat) (e : Ent) : Heap := ⟨H.next, (id, some e) :: H.ents⟩
def Heap.drop (H : Heap) (id : Nat) : Heap := ⟨H.next, (id, none) :: H.ents⟩
def Heap.push (H : Heap) (e : Ent) : Heap := ⟨H.next + 1, (H.next, some e) :: H.ents⟩
theorem ZbZ (k : Nat) (e : Option Ent) (r : List (Nat × Option Ent)) (n : Nat) : Za8 ((k, e) :: r) n = if k = n then e else Za8 r n := by
  simp only [Za8]
  by_cases h : k = n
  · subst h; simp
  · have hb : Nat.beq k n = false := by
      cases hb : Nat.beq k n
      · rfl
      · exact absurd (Nat.eq_of_beq_eq_true hb) h
    simp [hb, h]
theorem Heap.find_set (H : Heap) (id : Nat) (e : Ent) (n : Nat) : (H.set id e).find n = if id = n then some e else H.find n := ZbZ _ _ _ _
theorem Heap.find_drop (H : Heap) (id : Nat) (n : Nat) : (H.drop id).find n = if id = n then none else H.find n := ZbZ _ _ _ _
theorem Heap.find_push (H : Heap) (e : Ent) (n : Nat) : (H.push e).find n = if H.next = n then some e else H.find n := ZbZ _ _ _ _
def Ent.size (e : Ent) : Nat := Zaw e.cs + e.ex
def Win (ρ : Rho) (id : Nat) (e : Ent) (b o : Nat) : Prop := ∃ base, ρ id = some (b, base) /\ base <= o /\ o < base + e.size
structure EntOk (ρ : Rho) (w : World) (id : Nat) (e : Ent) : Prop where
  nil : ρ id = none -> e.size = 0
  cells : ∀ b base, ρ id = some (b, base) -> ∀ (i : Nat) v, (Zam ρ e.cs)[i]? = some v -> w.cell? ⟨b, base + i, none⟩ = some v
  own : e.wr = true -> ∀ b base, ρ id = some (b, base) -> ∀ i, i < e.size -> (∃ v, w.cell? ⟨b, base + i, none⟩ = some v) /\ w.frozen? ⟨b, base + i, none⟩ = false
structure Frame (w0 : World) (fp : Nat -> Nat -> Prop) (w : World) : Prop where
  os : w.os = w0.os
  tape : w.tape = w0.tape
  output : w.output = w0.output
  size : w0.heap.size <= w.heap.size
  other : ∀ b, b < w0.heap.size -> (∀ o, ¬ fp b o) -> w.heap[b]? = w0.heap[b]?
  cells : ∀ b, b < w0.heap.size -> ∀ c t fz, w0.heap[b]? = some (.cells c t fz) ->
    ∃ c', w.heap[b]? = some (.cells c' t fz) /\ c'.size = c.size /\ ∀ o : Nat, ¬ fp b o -> c'[o]? = c[o]?
structure Rel (w0 : World) (fp : Nat -> Nat -> Prop) (ρ : Rho) (H : Heap) (w : World) : Prop where
  frame : Frame w0 fp w
  ents : ∀ id e, H.find id = some e -> EntOk ρ w id e
  oks : ∀ id e, H.find id = some e -> ZbQ ρ H.next e.cs
  own : ∀ id e, H.find id = some e -> e.wr = true -> ∀ b o, Win ρ id e b o -> fp b o ∨ w0.heap.size <= b
  apart : ∀ id id' e e', id ≠ id' -> H.find id = some e -> H.find id' = some e' -> e.wr = true -> ∀ b o, Win ρ id e b o -> ¬ Win ρ id' e' b o
  next : ∀ id e, H.find id = some e -> id < H.next
  ro : ∀ id e, H.find id = some e -> e.wr = true ∨ e.ex = 0
theorem Frame.refl (w : World) (fp) : Frame w fp w :=
  ⟨rfl, rfl, rfl, Nat.le_refl _, fun _ _ _ => rfl, fun _ _ c _ _ h => ⟨c, h, rfl, fun _ _ => rfl⟩⟩
end Go.Sx

namespace Go.Sx
theorem ZdQ (b : Nat) : ∀ (vs : List Value) (o : Nat) (w : World) (k : Nat), k ≠ b -> (w.setCells b o vs).heap[k]? = w.heap[k]?
  | [], _, _, _, _ => rfl
  | v :: r, o, w, k, h => by
    rw [World.setCells, ZdQ b r (o + 1) _ k h, heap_setCell_other _ _ _ _ (by simpa using h)]
theorem Zfq (b : Nat) : ∀ (vs : List Value) (o : Nat) (w : World) (c : Array Value) (t : TypeId) (fz : Nat × Nat), w.heap[b]? = some (.cells c t fz) ->
    ∃ c', (w.setCells b o vs).heap[b]? = some (.cells c' t fz) /\ c'.size = c.size /\ ∀ i : Nat, (i < o ∨ o + vs.length <= i) -> c'[i]? = c[i]?
  | [], _, _, c, _, _, h => ⟨c, h, rfl, fun _ _ => rfl⟩
  | v :: r, o, w, c, t, fz, h => by
    have h1 : (w.setCell ⟨b, o, none⟩ v).heap[b]? = some (.cells (c.setIfInBounds o v) t fz) := by
      simp only [World.setCell, Array.getElem?_modify, h, if_true, Option.map_some]
      rfl
    obtain ⟨c', h2, h3, h4⟩ := Zfq b r (o + 1) _ _ t fz h1
    refine ⟨c', h2, by simpa using h3, fun i hi => ?_⟩
    rw [h4 i (by simp at hi; omega)]
    rw [Array.getElem?_setIfInBounds_ne (by simp at hi; omega)]
theorem Zin (b : Nat) : ∀ (vs : List Value) (o : Nat) (w : World), (w.setCells b o vs).heap.size = w.heap.size
  | [], _, _ => rfl
  | v :: r, o, w => by rw [World.setCells, Zin b r]; simp
theorem ZkM (b : Nat) : ∀ (vs : List Value) (o : Nat) (w : World), (w.setCells b o vs).os = w.os /\ (w.setCells b o vs).tape = w.tape /\ (w.setCells b o vs).output = w.output
  | [], _, _ => ⟨rfl, rfl, rfl⟩
  | v :: r, o, w => by rw [World.setCells]; exact ZkM b r (o + 1) _
theorem Frame.heap {w0 w w' : World} {fp : Nat -> Nat -> Prop} (h : Frame w0 fp w) (hh : w'.heap = w.heap) (ho : w'.os = w.os) (ht : w'.tape = w.tape) (hu : w'.output = w.output) : Frame w0 fp w' :=
  ⟨ho.trans h.os, ht.trans h.tape, hu.trans h.output, hh ▸ h.size, fun b hb hn => by rw [hh]; exact h.other b hb hn, fun b hb c t fz hc => by rw [hh]; exact h.cells b hb c t fz hc⟩
theorem Frame.alloc {w0 w : World} {fp : Nat -> Nat -> Prop} (h : Frame w0 fp w) (o : Obj) : Frame w0 fp (w.alloc o) := by
  have hs := h.size
  refine ⟨h.os, h.tape, h.output, by simp; omega, fun b hb hn => ?_, fun b hb c t fz hc => ?_⟩
  · rw [RowKit.Below.heap_alloc _ _ _ (by omega)]; exact h.other b hb hn
  · rw [RowKit.Below.heap_alloc _ _ _ (by omega)]; exact h.cells b hb c t fz hc
theorem Frame.setCells {w0 w : World} {fp : Nat -> Nat -> Prop} (h : Frame w0 fp w) {b o : Nat} {vs : List Value}
    (hfp : ∀ i, o <= i -> i < o + vs.length -> fp b i ∨ w0.heap.size <= b) : Frame w0 fp (w.setCells b o vs) := by
  obtain ⟨h1, h2, h3⟩ := ZkM b vs o w
  refine ⟨h1.trans h.os, h2.trans h.tape, h3.trans h.output, by rw [Zin]; exact h.size, fun b' hb hn => ?_, fun b' hb c t fz hc => ?_⟩
  · by_cases hbb : b' = b
    · subst hbb
      cases vs with
      | nil => exact h.other _ hb hn
      | cons v r =>
        rcases hfp o (Nat.le_refl _) (by simp) with h' | h'
        · exact absurd h' (hn o)
        · omega
    · rw [ZdQ _ _ _ _ _ hbb]; exact h.other _ hb hn
  · obtain ⟨c', hc', hs', hg'⟩ := h.cells b' hb c t fz hc
    by_cases hbb : b' = b
    · subst hbb
      obtain ⟨c'', hc'', hs'', hg''⟩ := Zfq b' vs o w c' t fz hc'
      refine ⟨c'', hc'', by omega, fun i hi => ?_⟩
      rw [hg'' i ?_]
      · exact hg' i hi
      · rcases Nat.lt_or_ge i o with hio | hio
        · exact .inl hio
        · rcases Nat.lt_or_ge i (o + vs.length) with hio' | hio'
          · rcases hfp i hio hio' with h' | h'
            · exact absurd h' hi
            · omega
          · exact .inr hio'
    · exact ⟨c', by rw [ZdQ _ _ _ _ _ hbb]; exact hc', hs', hg'⟩
theorem Rel.heap {w0 w w' : World} {fp ρ H} (h : Rel w0 fp ρ H w) (hh : w'.heap = w.heap) (ho : w'.os = w.os) (ht : w'.tape = w.tape) (hu : w'.output = w.output) : Rel w0 fp ρ H w' := by
  have hc : ∀ a, w'.cell? a = w.cell? a := fun a => by simp [World.cell?, hh]
  have hf : ∀ a, w'.frozen? a = w.frozen? a := fun a => by simp [World.frozen?, hh]
  exact ⟨h.frame.heap hh ho ht hu, fun id e he => ⟨(h.ents id e he).nil, fun b base hb i v hv => by rw [hc]; exact (h.ents id e he).cells b base hb i v hv,
    fun hw b base hb i hi => by rw [hc, hf]; exact (h.ents id e he).own hw b base hb i hi⟩, h.oks, h.own, h.apart, h.next, h.ro⟩
theorem Rel.drew {w0 w : World} {fp ρ H} (h : Rel w0 fp ρ H w) (n : Nat) : Rel w0 fp ρ H { w with drawn := n } := h.heap rfl rfl rfl rfl
def Rho.up (ρ : Rho) (id : Nat) (p : Option (Nat × Nat)) : Rho := fun i => if i = id then p else ρ i
theorem Rho.up_lt {ρ : Rho} {id : Nat} {p} : ∀ i, i < id -> ρ.up id p i = ρ i := fun i h => by simp [Rho.up, Nat.ne_of_lt h]
theorem Rho.up_same {ρ : Rho} {id : Nat} {p} : ρ.up id p id = p := by simp [Rho.up]
theorem Zsz {w : World} {a : Addr} {v : Value} (h : w.cell? a = some v) : a.block < w.heap.size := by
  unfold World.cell? at h
  split at h
  · rename_i hb
    exact (Array.getElem?_eq_some_iff.1 hb).1
  · cases h
theorem EntOk.lt {ρ w id e} (h : EntOk ρ w id e) {b base : Nat} (hb : ρ id = some (b, base)) (hs : 0 < Zaw e.cs) : b < w.heap.size := by
  have hl := ZaW ρ e.cs
  have : 0 < (Zam ρ e.cs).length := by omega
  have := h.cells b base hb 0 _ (List.getElem?_eq_getElem this)
  exact Zsz this
theorem EntOk.congr {ρ ρ' : Rho} {w w' : World} {id n : Nat} {e : Ent} (h : EntOk ρ w id e) (hρ : ∀ i, i < n -> ρ' i = ρ i) (hid : id < n) (hok : ZbQ ρ n e.cs)
    (hc : ∀ b o, Win ρ id e b o -> w'.cell? ⟨b, o, none⟩ = w.cell? ⟨b, o, none⟩)
    (hf : e.wr = true -> ∀ b o, Win ρ id e b o -> w'.frozen? ⟨b, o, none⟩ = w.frozen? ⟨b, o, none⟩) : EntOk ρ' w' id e := by
  have hid' := hρ id hid
  have hcc := ZcJ hρ e.cs hok
  refine ⟨fun hn => h.nil (hid' ▸ hn), fun b base hb i v hv => ?_, fun hw b base hb i hi => ?_⟩
  · rw [hid'] at hb; rw [hcc] at hv
    have hi : i < (Zam ρ e.cs).length := (List.getElem?_eq_some_iff.1 hv).1
    rw [ZaW] at hi
    rw [hc b (base + i) ⟨base, hb, by omega, by simp only [Ent.size]; omega⟩]
    exact h.cells b base hb i v hv
  · rw [hid'] at hb
    have hwin : Win ρ id e b (base + i) := ⟨base, hb, by omega, by omega⟩
    rw [hc b _ hwin, hf hw b _ hwin]
    exact h.own hw b base hb i hi
theorem Win.congr {ρ ρ' : Rho} {id : Nat} {e : Ent} {b o : Nat} (hρ : ρ' id = ρ id) : Win ρ' id e b o ↔ Win ρ id e b o := by simp [Win, hρ]
theorem Rel.win_lt {w0 w : World} {fp ρ H} (h : Rel w0 fp ρ H w) {id e b o} (he : H.find id = some e) (hw : Win ρ id e b o) : b < w.heap.size := by
  obtain ⟨base, hb, h1, h2⟩ := hw
  rcases h.ro id e he with hs | hs
  · obtain ⟨⟨v, hv⟩, _⟩ := (h.ents id e he).own hs b base hb (o - base) (by omega)
    exact Zsz hv
  · exact (h.ents id e he).lt hb (by simp only [Ent.size, hs] at h2; omega)
theorem Rel.alloc {w0 w : World} {fp ρ H} (h : Rel w0 fp ρ H w) {cs : List Chunk} {ex : Nat} {cells : Array Value} {t : TypeId}
    (hok : ZbQ ρ H.next cs) (hc : ∃ more : List Value, cells.toList = Zam ρ cs ++ more /\ more.length = ex) :
    Rel w0 fp (ρ.up H.next (some (w.heap.size, 0))) (H.push ⟨true, cs, ex⟩) (w.alloc (.cells cells t)) := by
  obtain ⟨more, hcells, hmore⟩ := hc
  have hup := Rho.up_lt (ρ := ρ) (id := H.next) (p := some (w.heap.size, 0))
  have hsz : cells.size = Zaw cs + ex := by
    rw [<- Array.length_toList, hcells, List.length_append, ZaW, hmore]
  have hold : ∀ id e, H.find id = some e -> id < H.next /\ ∀ b o, Win ρ id e b o -> b < w.heap.size := fun id e he => ⟨h.next id e he, fun b o hw => h.win_lt he hw⟩
  refine ⟨h.frame.alloc _, fun id e he => ?_, fun id e he => ?_, fun id e he hwr b o hw => ?_, fun id id' e e' hne he he' hwr b o hw hw' => ?_, fun id e he => ?_, fun id e he => ?_⟩
  · rw [Heap.find_push] at he
    split at he
    · rename_i hid
      subst hid
      cases he
      refine ⟨fun hn => by simp [Rho.up_same] at hn, fun b base hb i v hv => ?_, fun _ b base hb i hi => ?_⟩
      · rw [Rho.up_same] at hb
        cases hb
        rw [ZcJ hup cs hok] at hv
        rw [Nat.zero_add, World.cell?_alloc_new, <- Array.getElem?_toList, hcells]
        have hlt := (List.getElem?_eq_some_iff.1 hv).1
        rw [List.getElem?_append_left hlt]; exact hv
      · rw [Rho.up_same] at hb
        cases hb
        rw [Nat.zero_add, World.cell?_alloc_new, World.frozen?_alloc_new]
        simp only [Ent.size] at hi
        exact ⟨⟨cells[i]'(by omega), by simp [show i < cells.size by omega]⟩, rfl⟩
    · have := hold id e he
      exact (h.ents id e he).congr hup this.1 (h.oks id e he)
        (fun b o hw => World.cell?_alloc_lt _ _ _ (this.2 b o hw)) (fun _ b o hw => World.frozen?_alloc_old _ _ _ (Nat.ne_of_lt (this.2 b o hw)))
  · rw [Heap.find_push] at he
    split at he
    · cases he
      exact Zda hup (by simp [Heap.push]) cs hok
    · exact Zda hup (by simp [Heap.push]) _ (h.oks id e he)
  · rw [Heap.find_push] at he
    split at he
    · rename_i hid
      subst hid
      cases he
      obtain ⟨base, hb, _, _⟩ := hw
      rw [Rho.up_same] at hb
      cases hb
      exact .inr h.frame.size
    · exact h.own id e he hwr b o ((Win.congr (hup id (hold id e he).1)).1 hw)
  · rw [Heap.find_push] at he he'
    split at he
    · rename_i hid
      subst hid
      cases he
      obtain ⟨base, hb, _, _⟩ := hw
      rw [Rho.up_same] at hb
      cases hb
      split at he'
      · rename_i hid'; exact hne hid'
      · have h1 := hold id' e' he'
        have := h1.2 _ _ ((Win.congr (hup id' h1.1)).1 hw')
        omega
    · have h1 := hold id e he
      have hw1 := (Win.congr (hup id h1.1)).1 hw
      split at he'
      · rename_i hid'
        subst hid'
        cases he'
        obtain ⟨base, hb, _, _⟩ := hw'
        rw [Rho.up_same] at hb
        cases hb
        have := h1.2 _ _ hw1
        omega
      · have h2 := hold id' e' he'
        exact h.apart id id' e e' hne he he' hwr b o hw1 ((Win.congr (hup id' h2.1)).1 hw')
  · rw [Heap.find_push] at he
    split at he
    · rename_i hid; subst hid; simp [Heap.push]
    · have := h.next id e he; simp [Heap.push]; omega
  · rw [Heap.find_push] at he
    split at he
    · cases he; exact .inl rfl
    · exact h.ro id e he
theorem Rel.store {w0 w : World} {fp ρ H} (h : Rel w0 fp ρ H w) {id : Nat} {e : Ent} {b base off : Nat} {vs : List Value} {cs' : List Chunk} {ex' : Nat}
    (he : H.find id = some e) (hwr : e.wr = true) (hb : ρ id = some (b, base)) (hoff : off + vs.length <= e.size) (hok : ZbQ ρ H.next cs') (hsz : Zaw cs' + ex' = e.size)
    (hold : ∀ (i : Nat) v, (Zam ρ cs')[i]? = some v -> (off <= i /\ i < off + vs.length /\ vs[i - off]? = some v) ∨ ((i < off ∨ off + vs.length <= i) /\ (Zam ρ e.cs)[i]? = some v)) :
    Rel w0 fp ρ (H.set id ⟨true, cs', ex'⟩) (w.setCells b (base + off) vs) := by
  have hent := h.ents id e he
  have hsame : ∀ i, i < e.size -> ∃ v, w.cell? ⟨b, base + i, none⟩ = some v := fun i hi => (hent.own hwr b base hb i hi).1
  have hin : ∀ j, j < vs.length -> (w.cell? ⟨b, base + off + j, none⟩).isSome = true := fun j hj => by
    obtain ⟨v, hv⟩ := hsame (off + j) (by omega)
    rw [show base + off + j = base + (off + j) by omega, hv]; rfl
  have hfrz : ∀ x, (w.setCells b (base + off) vs).frozen? x = w.frozen? x := World.frozen?_setCells b vs _ w
  have hWin : ∀ b' o, Win ρ id ⟨true, cs', ex'⟩ b' o ↔ Win ρ id e b' o := fun b' o => by simp only [Win, Ent.size] at *; simp only [hsz]
  have hother : ∀ id' e', id' ≠ id -> H.find id' = some e' -> ∀ b' o, Win ρ id' e' b' o -> (w.setCells b (base + off) vs).cell? ⟨b', o, none⟩ = w.cell? ⟨b', o, none⟩ := fun id' e' hne he' b' o hw => by
    refine World.cell?_setCells_out b vs _ w _ (fun hbb _ => ?_)
    simp only at hbb ⊢
    subst hbb
    rcases Nat.lt_or_ge o (base + off) with h1 | h1
    · exact .inl h1
    · rcases Nat.lt_or_ge o (base + off + vs.length) with h2 | h2
      · exact absurd hw (h.apart id id' e e' (Ne.symm hne) he he' hwr b' o ⟨base, hb, by omega, by omega⟩)
      · exact .inr h2
  refine ⟨h.frame.setCells fun i h1 h2 => h.own id e he hwr b i ⟨base, hb, by omega, by omega⟩, fun id' e' he' => ?_, fun id' e' he' => ?_, fun id' e' he' hwr' b' o hw => ?_, fun i1 i2 e1 e2 hne he1 he2 hwr' b' o hw1 hw2 => ?_, fun id' e' he' => ?_, fun id' e' he' => ?_⟩
  · rw [Heap.find_set] at he'
    split at he'
    · rename_i hid
      subst hid
      cases he'
      refine ⟨fun hn => (by rw [hb] at hn; cases hn), fun b' base' hb' i v hv => ?_, fun _ b' base' hb' i hi => ?_⟩
      · rw [hb] at hb'
        cases hb'
        rcases hold i v hv with ⟨h1, h2, h3⟩ | ⟨h1, h3⟩
        · have := World.cell?_setCells_in b vs (base + off) w hin (i - off) (by omega)
          rw [show base + off + (i - off) = base + i by omega] at this
          rw [this]
          have hlt : i - off < vs.length := by omega
          rw [List.getElem?_eq_getElem hlt] at h3
          exact h3
        · rw [World.cell?_setCells_out b vs _ w _ (fun _ _ => by simp only; omega)]
          exact hent.cells b base hb i v h3
      · rw [hb] at hb'
        cases hb'
        simp only [Ent.size] at hi
        rw [hsz] at hi
        rw [hfrz]
        refine ⟨?_, (hent.own hwr b base hb i hi).2⟩
        rcases Nat.lt_or_ge i off with h1 | h1
        · rw [World.cell?_setCells_out b vs _ w _ (fun _ _ => by simp only; omega)]
          exact hsame i hi
        · rcases Nat.lt_or_ge i (off + vs.length) with h2 | h2
          · have := World.cell?_setCells_in b vs (base + off) w hin (i - off) (by omega)
            rw [show base + off + (i - off) = base + i by omega] at this
            exact ⟨_, this⟩
          · rw [World.cell?_setCells_out b vs _ w _ (fun _ _ => by simp only; omega)]
            exact hsame i hi
    · rename_i hid
      exact (h.ents id' e' he').congr (fun _ _ => rfl) (h.next id' e' he') (h.oks id' e' he') (hother id' e' (fun h => hid h.symm) he') (fun _ b' o _ => hfrz _)
  · rw [Heap.find_set] at he'
    split at he'
    · cases he'; exact hok
    · exact h.oks id' e' he'
  · rw [Heap.find_set] at he'
    split at he'
    · rename_i hid
      subst hid
      cases he'
      exact h.own id e he hwr b' o ((hWin b' o).1 hw)
    · exact h.own id' e' he' hwr' b' o hw
  · rw [Heap.find_set] at he1 he2
    split at he1
    · rename_i hid
      subst hid
      cases he1
      split at he2
      · rename_i hid2; exact hne hid2
      · exact h.apart id i2 e e2 hne he he2 hwr b' o ((hWin b' o).1 hw1) hw2
    · split at he2
      · rename_i hid2
        subst hid2
        cases he2
        exact h.apart i1 id e1 e hne he1 he hwr' b' o hw1 ((hWin b' o).1 hw2)
      · exact h.apart i1 i2 e1 e2 hne he1 he2 hwr' b' o hw1 hw2
  · rw [Heap.find_set] at he'
    split at he'
    · rename_i hid; subst hid; exact h.next id e he
    · exact h.next id' e' he'
  · rw [Heap.find_set] at he'
    split at he'
    · cases he'; exact .inl rfl
    · exact h.ro id' e' he'
theorem Rel.drop {w0 w : World} {fp ρ H} (h : Rel w0 fp ρ H w) (id : Nat) : Rel w0 fp ρ (H.drop id) w := by
  have hf : ∀ i e, (H.drop id).find i = some e -> H.find i = some e := fun i e he => by
    rw [Heap.find_drop] at he
    split at he
    · cases he
    · exact he
  exact ⟨h.frame, fun i e he => h.ents i e (hf i e he), fun i e he => h.oks i e (hf i e he), fun i e he => h.own i e (hf i e he),
    fun i j e e' hne he he' => h.apart i j e e' hne (hf i e he) (hf j e' he'), fun i e he => h.next i e (hf i e he), fun i e he => h.ro i e (hf i e he)⟩
end Go.Sx
