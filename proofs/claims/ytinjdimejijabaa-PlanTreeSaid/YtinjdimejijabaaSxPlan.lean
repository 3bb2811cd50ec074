/- Part of the proof: SxPlan. -/
import Derived.Test.YtinjdimejijabaaSxHelp
import Derived.Test.YtinjdimejijabaaSxLem2
set_option linter.unusedVariables false
set_option linter.unusedSimpArgs false
namespace Go.Sx
structure PlanV where
  cores : Int
  banks : Int
  pages : Int
  lines : Int
  arity : Int
  minor : Int
  major : Int
  ns : Int
  nw : Int
  fs : Int
  fw : Int
  met : Int
  queue : Int
  kind : Int
  key : List Int
  tag : List Int
def PlanV.cs (p : PlanV) : List Chunk := [.one (.int .i64 p.cores), .one (.int .i64 p.banks), .one (.int .i64 p.pages), .one (.int .i64 p.lines), .one (.int .i64 p.arity), .one (.int .i64 p.minor), .one (.int .u64 p.major),
  .one (.int .i64 p.ns), .one (.int .i64 p.nw), .one (.int .i64 p.fs), .one (.int .i64 p.fw), .one (.int .i64 p.met), .one (.int .i64 p.queue), .one (.int .i64 p.kind), .ints .u8 16 p.key, .ints .u8 16 p.tag]
def PlanV.Wf (p : PlanV) : Prop := I64 p.cores /\ I64 p.banks /\ I64 p.pages /\ I64 p.lines /\ I64 p.arity /\ I64 p.minor /\ (0 <= p.major /\ p.major < 2 ^ 64) /\ I64 p.ns /\ I64 p.nw /\ I64 p.fs /\ I64 p.fw /\ I64 p.met /\ I64 p.queue /\ I64 p.kind /\ p.key.length = 16 /\ p.tag.length = 16
def PlanV.shaped (p : PlanV) : Bool := decide (1 <= p.banks /\ p.banks <= 4 /\ 1 <= p.pages /\ p.pages <= 16 /\ 1 <= p.lines /\ p.lines <= 8 /\ 2 <= p.arity /\ p.arity <= 4)
def ZmP : Nat -> Int -> Int -> List Int
  | 0, _, _ => []
  | f + 1, a, n => n :: (if n = 1 then [] else ZmP f a ((n + a - 1) / a))
def PlanV.widths (p : PlanV) : List Int := if p.shaped = true then ZmP 6 p.arity p.pages else []
def PlanV.levels (p : PlanV) : Nat := p.widths.length
def PlanV.width (p : PlanV) (l : Int) : Int := if 0 <= l then p.widths.getD l.toNat 0 else 0
def PlanV.all (p : PlanV) : Int := if p.shaped = true then p.pages * p.lines else 0
def PlanV.least (p : PlanV) : Int := if p.shaped = true then p.banks * p.levels + 1 else 0
def PlanV.right (p : PlanV) : Bool := p.shaped && decide (1 <= p.cores /\ p.cores <= 4 /\ 1 <= p.minor /\ p.minor <= 8 /\ p.major <= 4294967296 /\ 1 <= p.ns /\ p.ns <= 4 /\ 1 <= p.nw /\ p.nw <= 4 /\ 1 <= p.fs /\ p.fs <= 4 /\ 1 <= p.fw /\ p.fw <= 4 /\
  1 <= p.queue /\ p.queue <= 4 /\ (p.kind = 0 ∨ p.kind = 1) /\ p.least <= p.met /\ p.met <= 64)
def ZjB (a n : Int) (ws : List Int) : Bool := decide (1 <= ws.length) && decide (ws.length <= 5) && decide (ws.getD 0 0 = n) && decide (ws.getD (ws.length - 1) 0 = 1) &&
  (List.range ws.length).all (fun i => decide (1 <= ws.getD i 0 /\ ws.getD i 0 <= 16) && (decide (i + 1 = ws.length) || decide (1 < ws.getD i 0 /\ ws.getD (i + 1) 0 = (ws.getD i 0 + a - 1) / a)))
theorem Zkw : [2, 3, 4].all (fun a => (List.range 17).all fun n => decide (n = 0) || ZjB a n (ZmP 6 a n)) = true := by decide +kernel
theorem Zlb {a n : Int} (ha : 2 <= a) (ha' : a <= 4) (hn : 1 <= n) (hn' : n <= 16) : ZjB a n (ZmP 6 a n) = true := by
  have h1 := List.all_eq_true.1 Zkw a (by simp; omega)
  obtain ⟨k, rfl⟩ := Int.eq_ofNat_of_zero_le (show 0 <= n by omega)
  have h2 := List.all_eq_true.1 h1 k (by simp; omega)
  rw [Bool.or_eq_true, decide_eq_true_eq] at h2
  rcases h2 with h2 | h2
  · omega
  · exact h2
structure Wid (a n : Int) (ws : List Int) : Prop where
  len1 : 1 <= ws.length
  len5 : ws.length <= 5
  first : ws.getD 0 0 = n
  last : ws.getD (ws.length - 1) 0 = 1
  least : ∀ i, i < ws.length -> 1 <= ws.getD i 0
  most : ∀ i, i < ws.length -> ws.getD i 0 <= 16
  big : ∀ i, i + 1 < ws.length -> 1 < ws.getD i 0
  next : ∀ i, i + 1 < ws.length -> ws.getD (i + 1) 0 = (ws.getD i 0 + a - 1) / a
theorem ZjA {a n : Int} {ws : List Int} (h : ZjB a n ws = true) : Wid a n ws := by
  simp only [ZjB, Bool.and_eq_true, decide_eq_true_eq, List.all_eq_true, Bool.or_eq_true, List.mem_range] at h
  obtain ⟨⟨⟨⟨h1, h2⟩, h3⟩, h4⟩, h5⟩ := h
  refine ⟨h1, h2, h3, h4, fun i hi => (h5 i hi).1.1, fun i hi => (h5 i hi).1.2, fun i hi => ?_, fun i hi => ?_⟩
  · rcases (h5 i (by omega)).2 with h | h
    · omega
    · exact h.1
  · rcases (h5 i (by omega)).2 with h | h
    · omega
    · exact h.2
theorem PlanV.wid {p : PlanV} (h : p.shaped = true) : Wid p.arity p.pages p.widths := by
  unfold PlanV.widths
  rw [if_pos h]
  unfold PlanV.shaped at h
  have := of_decide_eq_true h
  exact ZjA (Zlb (by omega) (by omega) (by omega) (by omega))
def ZbL (lo hi n : Int) : Int := if lo <= n /\ n <= hi then n else lo + n % (hi - lo + 1)
theorem ZbH {lo hi : Int} (n : Int) (h : lo <= hi) : lo <= ZbL lo hi n /\ ZbL lo hi n <= hi := by
  unfold ZbL
  split
  · assumption
  · have := Int.emod_nonneg n (show hi - lo + 1 ≠ 0 by omega)
    have := Int.emod_lt_of_pos n (show 0 < hi - lo + 1 by omega)
    omega
theorem Zi8 {lo hi n : Int} (h : lo <= n) (h' : n <= hi) : ZbL lo hi n = n := if_pos ⟨h, h'⟩
def PlanV.fit0 (p : PlanV) : PlanV := { p with cores := ZbL 1 4 p.cores, banks := ZbL 1 4 p.banks, pages := ZbL 1 16 p.pages, lines := ZbL 1 8 p.lines, arity := ZbL 2 4 p.arity, minor := ZbL 1 8 p.minor, major := if 4294967296 < p.major then 4294967296 else p.major, ns := ZbL 1 4 p.ns, nw := ZbL 1 4 p.nw, fs := ZbL 1 4 p.fs, fw := ZbL 1 4 p.fw, queue := ZbL 1 4 p.queue, kind := p.kind % 2 }
def PlanV.fit (p : PlanV) : PlanV := { p.fit0 with met := p.fit0.least + p.met % 4 }
theorem PlanV.fit_shaped (p : PlanV) : p.fit.shaped = true := by
  have h1 := ZbH (lo := 1) (hi := 4) p.banks (by omega)
  have h2 := ZbH (lo := 1) (hi := 16) p.pages (by omega)
  have h3 := ZbH (lo := 1) (hi := 8) p.lines (by omega)
  have h4 := ZbH (lo := 2) (hi := 4) p.arity (by omega)
  exact decide_eq_true (by simp only [PlanV.fit, PlanV.fit0]; omega)
theorem PlanV.least_le {p : PlanV} (h : p.shaped = true) : p.least <= 21 /\ p.banks * p.levels < p.least := by
  have hw := PlanV.wid h
  have h5 : (p.levels : Int) <= 5 := by have := hw.len5; unfold PlanV.levels; omega
  unfold PlanV.shaped at h
  have hs := of_decide_eq_true h
  unfold PlanV.least
  rw [if_pos (by unfold PlanV.shaped; exact h)]
  have h1 : p.banks * (p.levels : Int) <= 4 * (p.levels : Int) := Int.mul_le_mul_of_nonneg_right (by omega) (by omega)
  omega
theorem PlanV.fit_right (p : PlanV) : p.fit.right = true := by
  have hs := p.fit_shaped
  have hl := PlanV.least_le hs
  have hm := Int.emod_nonneg p.met (show (4 : Int) ≠ 0 by omega)
  have hm' := Int.emod_lt_of_pos p.met (show (0 : Int) < 4 by omega)
  have hk := Int.emod_nonneg p.kind (show (2 : Int) ≠ 0 by omega)
  have hk' := Int.emod_lt_of_pos p.kind (show (0 : Int) < 2 by omega)
  have h1 := ZbH (lo := 1) (hi := 4) p.cores (by omega)
  have h2 := ZbH (lo := 1) (hi := 8) p.minor (by omega)
  have h3 := ZbH (lo := 1) (hi := 4) p.ns (by omega)
  have h4 := ZbH (lo := 1) (hi := 4) p.nw (by omega)
  have h5 := ZbH (lo := 1) (hi := 4) p.fs (by omega)
  have h6 := ZbH (lo := 1) (hi := 4) p.fw (by omega)
  have h7 := ZbH (lo := 1) (hi := 4) p.queue (by omega)
  have hmet : p.fit.met = p.fit.least + p.met % 4 := rfl
  have hmaj : p.fit.major <= 4294967296 := by simp only [PlanV.fit, PlanV.fit0]; split <;> omega
  unfold PlanV.right
  rw [hs, Bool.true_and]
  refine decide_eq_true ⟨h1.1, h1.2, h2.1, h2.2, hmaj, h3.1, h3.2, h4.1, h4.2, h5.1, h5.2, h6.1, h6.2, h7.1, h7.2, ?_, by omega, by omega⟩
  show p.kind % 2 = 0 ∨ p.kind % 2 = 1
  omega
def ZbV (a : SVal) (k : PlanV -> Prop) : Prop := match a with
  | .agg [.one (.int .i64 c0), .one (.int .i64 c1), .one (.int .i64 c2), .one (.int .i64 c3), .one (.int .i64 c4), .one (.int .i64 c5), .one (.int .u64 c6), .one (.int .i64 c7), .one (.int .i64 c8), .one (.int .i64 c9), .one (.int .i64 c10),
      .one (.int .i64 c11), .one (.int .i64 c12), .one (.int .i64 c13), .ints .u8 n x, .ints .u8 m y] => bif Nat.beq n 16 && Nat.beq m 16 then k ⟨c0, c1, c2, c3, c4, c5, c6, c7, c8, c9, c10, c11, c12, c13, x, y⟩ else False
  | _ => False
theorem Zb5 {a : SVal} {k : PlanV -> Prop} (h : ZbV a k) : ∃ c0 c1 c2 c3 c4 c5 c6 c7 c8 c9 c10 c11 c12 c13 x y, a = .agg [.one (.int .i64 c0), .one (.int .i64 c1), .one (.int .i64 c2), .one (.int .i64 c3), .one (.int .i64 c4), .one (.int .i64 c5), .one (.int .u64 c6), .one (.int .i64 c7), .one (.int .i64 c8),
    .one (.int .i64 c9), .one (.int .i64 c10), .one (.int .i64 c11), .one (.int .i64 c12), .one (.int .i64 c13), .ints .u8 16 x, .ints .u8 16 y] /\ k ⟨c0, c1, c2, c3, c4, c5, c6, c7, c8, c9, c10, c11, c12, c13, x, y⟩ := by
  unfold ZbV at h
  split at h
  · obtain ⟨hb, h⟩ := Zad h
    rw [Bool.and_eq_true] at hb
    obtain rfl := Zao hb.1
    obtain rfl := Zao hb.2
    exact ⟨_, _, _, _, _, _, _, _, _, _, _, _, _, _, _, _, rfl, h⟩
  · exact h.elim
def noH (H : Heap) (k : Prop) : Prop := match H.ents with
  | [] => bif Nat.beq H.next 0 then k else False
  | _ => False
theorem Zc2 {H : Heap} {k : Prop} (h : noH H k) : H = ⟨0, []⟩ /\ k := by
  obtain ⟨n, es⟩ := H
  unfold noH at h
  simp only at h
  split at h
  · obtain ⟨hb, h⟩ := Zad h
    obtain rfl := Zao hb
    exact ⟨rfl, h⟩
  · exact h.elim
theorem Zmv {b : Bool} (h : (!b) = true) : b = false := by cases b <;> simp at h ⊢
theorem Zmw {b : Bool} (h : (!b) = false) : b = true := by cases b <;> simp at h ⊢
theorem ZlN {n0 : Nat} {K : SVal -> Heap -> Prop} {b b' : Bool} {H H' : Heap} (l : List (Nat × Nat)) (h1 : ZgW n0 l = true) (h7 : K (.bool b) H') (e : b = b') (h2 : n0 <= H'.next)
    (h5 : Zar (tau l) H'.next H H'.ents) (h6 : Zbj (tau l) H'.ents) : Ret n0 K (.bool b') H := ZcC l h1 (e ▸ h7) h2 (by simp only [SVal.ren]) (by simp only [SVal.bd]) h5 h6
theorem ZnR {c d : Bool} {k : Prop} {R : Bool -> Prop} (hk : k) (h : R (c || d)) : ∃ q, (c = false -> k /\ d = q) /\ (c = true -> true = q) /\ R q :=
  ⟨c || d, fun h => ⟨hk, by rw [h]; rfl⟩, fun h => by rw [h]; rfl, h⟩
theorem ZjL {c d : Bool} {k : Prop} {R : Bool -> Prop} (hk : k) (h : R (c && d)) : ∃ q, (c = true -> k /\ d = q) /\ (c = false -> false = q) /\ R q :=
  ⟨c && d, fun h => ⟨hk, by rw [h]; rfl⟩, fun h => by rw [h]; rfl, h⟩
end Go.Sx
