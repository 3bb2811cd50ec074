/- Contracts of functions that are handed rows of numbers, and hand back plain values or new rows. -/
import Derived.Test.YtefmjmghkedciaaSxV0
set_option linter.unusedVariables false
set_option linter.unusedSimpArgs false
namespace Go.Sx
/-- An argument, laid open: a plain value; a row of numbers (may it be written?, its kind, its length, the room behind it, its numbers); a struct that has one row; a pointer; a function value that holds one pointer. -/
inductive DA | pl (v : SVal) | sl (w : Bool) (k : IntKind) (n cap : Nat) (xs : List Int)
  | ag (pre : List Chunk) (w : Bool) (k : IntKind) (n cap : Nat) (xs : List Int) (post : List Chunk) | pt (w : Bool) (cs : List Chunk) | fp (f : Nat) (w : Bool) (cs : List Chunk)
/-- A result: a plain value, or a new row. -/
inductive DR | pl (v : SVal) | sl (k : IntKind) (n : Nat) (xs : List Int) | rw (sh : List Leaf) (n : Nat) (xs : List (Tup sh)) | ag (pre : List Chunk) (k : IntKind) (n : Nat) (xs : List Int) (post : List Chunk)
/-- What must be, the results, what stands in the rows behind (one for each row, in turn). -/
abbrev DSpec := List DA → Option (Prop × List DR × List (Option (List Int)))
def argsOf : Nat → List DA → List SVal
  | _, [] => []
  | i, .pl v :: r => v :: argsOf i r
  | i, .sl _ _ n cap _ :: r => .slice ⟨i, 0, 0, 1⟩ n cap :: argsOf (i + 1) r
  | i, .ag pre _ _ n cap _ post :: r => .agg (pre ++ .one (.slice ⟨i, 0, 0, 1⟩ n cap) :: post) :: argsOf (i + 1) r
  | i, .pt _ cs :: r => .ptr ⟨i, 0, 0, 1⟩ (lenCs cs) :: argsOf (i + 1) r
  | i, .fp f _ cs :: r => .fn (.func f) [] [.ptr ⟨i, 0, 0, 1⟩ (lenCs cs)] :: argsOf (i + 1) r
def entsOf : Nat → List DA → List (Nat × Option Ent)
  | _, [] => []
  | i, .pl _ :: r => entsOf i r
  | i, .sl w k n _ xs :: r => (i, some ⟨w, [.ints k n xs], 0⟩) :: entsOf (i + 1) r
  | i, .ag _ w k n _ xs _ :: r => (i, some ⟨w, [.ints k n xs], 0⟩) :: entsOf (i + 1) r
  | i, .pt w cs :: r => (i, some ⟨w, cs, 0⟩) :: entsOf (i + 1) r
  | i, .fp _ w cs :: r => (i, some ⟨w, cs, 0⟩) :: entsOf (i + 1) r
def cntD : List DA → Nat
  | [] => 0
  | .pl _ :: r => cntD r
  | .sl _ _ _ _ _ :: r => cntD r + 1
  | .ag _ _ _ _ _ _ _ :: r => cntD r + 1
  | .pt _ _ :: r => cntD r + 1
  | .fp _ _ _ :: r => cntD r + 1
def allPl : List DA → Bool
  | [] => true
  | .pl v :: r => plainQ v && allPl r
  | .sl _ _ _ _ _ :: r => allPl r
  | .ag _ _ _ _ _ _ _ :: r => allPl r
  | .pt _ _ :: r => allPl r
  | .fp _ _ _ :: r => allPl r
def replE (i : Nat) (en : Ent) : List (Nat × Option Ent) → List (Nat × Option Ent)
  | [] => []
  | (j, e) :: r => bif Nat.beq j i then (j, some en) :: replE i en r else (j, e) :: replE i en r
def wrD : Nat → List (Option (List Int)) → Heap → (Heap → Prop) → Prop
  | _, [], H, K => K H
  | i, none :: r, H, K => wrD (i + 1) r H K
  | i, some ys :: r, H, K => match H.find i with
    | some en => (match en.cs with
      | [.ints k n _] => bif en.wr then ys.length = n ∧ wrD (i + 1) r ⟨H.next, replE i ⟨true, [.ints k n ys], 0⟩ H.ents⟩ K else False
      | _ => False)
    | none => False
def resD : DR → Heap → (SVal → Heap → Prop) → Prop
  | .pl v, H, K => K v H
  | .sl k n xs, H, K => ∀ c, n ≤ c → K (.slice ⟨H.next, 0, 0, 1⟩ n c) (H.push ⟨true, [.ints k n xs], c - n⟩)
  | .ag pre k n xs post, H, K => ∀ c, n ≤ c → K (.agg (pre ++ .one (.slice ⟨H.next, 0, 0, 1⟩ n c) :: post)) (H.push ⟨true, [.ints k n xs], c - n⟩)
  | .rw sh n xs, H, K => ∀ c, n ≤ c → K (.slice ⟨H.next, 0, 0, stride sh⟩ n c) (H.push ⟨true, [.rows sh n xs], (c - n) * stride sh⟩)
def resDs : List DR → Heap → (List SVal → Heap → Prop) → Prop
  | [], H, K => K [] H
  | d :: r, H, K => resD d H fun v H' => resDs r H' fun vs H'' => K (v :: vs) H''
def outD (rs : List DR) (ws : List (Option (List Int))) (H : Heap) (K : SVal → Heap → Prop) : Prop := wrD 0 ws H fun H' => match rs with
  | [r] => resD r H' K
  | rs => resDs rs H' fun vs H'' => K (.tuple vs) H''
def dS (D : DSpec) : Spec := fun args H K => ∃ ds, args = argsOf 0 ds ∧ H = ⟨cntD ds, entsOf 0 ds⟩ ∧ match D ds with
  | some (pre, rs, ws) => pre ∧ outD rs ws H K
  | none => False
/-- The one row of a struct. -/
def splitS (K : List Chunk → SAddr → Nat → Nat → List Chunk → Prop) : List Chunk → List Chunk → Prop
  | _, [] => False
  | acc, c :: r => match c with
    | .one (.slice a len cap) => K acc a len cap r
    | c => splitS K (acc ++ [c]) r
theorem splitS_sound {K : List Chunk → SAddr → Nat → Nat → List Chunk → Prop} : ∀ (cs acc : List Chunk), splitS K acc cs → ∃ pre a len cap post, acc ++ cs = pre ++ .one (.slice a len cap) :: post ∧ K pre a len cap post
  | [], _, h => h.elim
  | c :: r, acc, h => by
    unfold splitS at h
    split at h
    · exact ⟨acc, _, _, _, r, rfl, h⟩
    · obtain ⟨pre, a, len, cap, post, h1, h2⟩ := splitS_sound r (acc ++ [c]) h
      exact ⟨pre, a, len, cap, post, by rw [← h1, List.append_assoc]; rfl, h2⟩
/-- The entry that a pointer is to name. -/
def ptrE (i : Nat) (a : SAddr) (sz : Nat) (es : List (Nat × Option Ent)) (K : Bool → List Chunk → List (Nat × Option Ent) → Prop) : Prop := match es with
  | (j, some ⟨w, cs, 0⟩) :: es' => bif Nat.beq j i && Nat.beq a.id i && Nat.beq a.off 0 && Nat.beq a.idx 0 && Nat.beq a.st 1 && Nat.beq sz (lenCs cs) then K w cs es' else False
  | _ => False
theorem ptrE_sound {i : Nat} {a : SAddr} {sz : Nat} {es : List (Nat × Option Ent)} {K : Bool → List Chunk → List (Nat × Option Ent) → Prop} (h : ptrE i a sz es K) : ∃ w cs es', a = ⟨i, 0, 0, 1⟩ ∧ sz = lenCs cs ∧ es = (i, some ⟨w, cs, 0⟩) :: es' ∧ K w cs es' := by
  unfold ptrE at h
  split at h
  · obtain ⟨hb, h2⟩ := bif_prop h
    simp only [Bool.and_eq_true] at hb
    obtain ⟨⟨⟨⟨⟨b1, b2⟩, b3⟩, b4⟩, b5⟩, b6⟩ := hb
    obtain ⟨aid, aoff, aidx, ast⟩ := a
    obtain rfl := beq_eq b1
    obtain rfl := beq_eq b2
    obtain rfl := beq_eq b3
    obtain rfl := beq_eq b4
    obtain rfl := beq_eq b5
    exact ⟨_, _, _, rfl, beq_eq b6, rfl, h2⟩
  · exact h.elim
def decE : List SVal → Nat → List (Nat × Option Ent) → (List DA → Nat → Prop) → Prop
  | [], i, es, K => (match es with
    | [] => K [] i
    | _ :: _ => False)
  | v :: r, i, es, K => match v with
    | .slice a len cap => (match es with
      | (j, some ⟨w, [.ints k n xs], 0⟩) :: es' => bif Nat.beq j i && Nat.beq a.id i && Nat.beq a.off 0 && Nat.beq a.idx 0 && Nat.beq a.st 1 then n = len ∧ decE r (i + 1) es' (fun ds m => K (.sl w k n cap xs :: ds) m) else False
      | _ => False)
    | .ptr a sz => ptrE i a sz es fun w cs es' => decE r (i + 1) es' (fun ds m => K (.pt w cs :: ds) m)
    | .fn (.func f) [] [.ptr a sz] => ptrE i a sz es fun w cs es' => decE r (i + 1) es' (fun ds m => K (.fp f w cs :: ds) m)
    | .agg cs => bif plainQ (.agg cs) then decE r i es (fun ds m => K (.pl (.agg cs) :: ds) m) else splitS (fun pre a len cap post => match es with
      | (j, some ⟨w, [.ints k n xs], 0⟩) :: es' => bif Nat.beq j i && Nat.beq a.id i && Nat.beq a.off 0 && Nat.beq a.idx 0 && Nat.beq a.st 1 then n = len ∧ decE r (i + 1) es' (fun ds m => K (.ag pre w k n cap xs post :: ds) m) else False
      | _ => False) [] cs
    | v => bif plainQ v then decE r i es (fun ds m => K (.pl v :: ds) m) else False
/-- The same, as it is asked of arguments that stand there. -/
def dC (D : DSpec) : Spec := fun args H K => decE args 0 H.ents fun ds m => bif Nat.beq H.next m then (match D ds with
  | some (pre, rs, ws) => pre ∧ outD rs ws H K
  | none => False) else False
theorem decE_sound : ∀ (args : List SVal) (i : Nat) (es : List (Nat × Option Ent)) (K : List DA → Nat → Prop), decE args i es K → ∃ ds, args = argsOf i ds ∧ es = entsOf i ds ∧ K ds (i + cntD ds)
  | [], i, es, K, h => by
    simp only [decE] at h
    split at h
    · exact ⟨[], rfl, rfl, h⟩
    · exact h.elim
  | v :: r, i, es, K, h => by
    simp only [decE] at h
    split at h
    · rename_i a len cap
      split at h
      · rename_i j w k n xs es'
        obtain ⟨hb, h1, h2⟩ := bif_prop h
        simp only [Bool.and_eq_true] at hb
        obtain ⟨⟨⟨⟨b1, b2⟩, b3⟩, b4⟩, b5⟩ := hb
        obtain ⟨aid, aoff, aidx, ast⟩ := a
        obtain rfl := beq_eq b1
        obtain rfl := beq_eq b2
        obtain rfl := beq_eq b3
        obtain rfl := beq_eq b4
        obtain rfl := beq_eq b5
        subst h1
        obtain ⟨ds, g1, g2, g3⟩ := decE_sound r _ _ _ h2
        exact ⟨.sl w k n cap xs :: ds, by simp only [argsOf, g1], by simp only [entsOf, g2], by simpa only [cntD, Nat.add_assoc, Nat.add_comm, Nat.add_left_comm] using g3⟩
      · exact h.elim
    · obtain ⟨w, cs, es', rfl, rfl, rfl, h2⟩ := ptrE_sound h
      obtain ⟨ds, g1, g2, g3⟩ := decE_sound r _ _ _ h2
      exact ⟨.pt w cs :: ds, by simp only [argsOf, g1], by simp only [entsOf, g2], by simpa only [cntD, Nat.add_assoc, Nat.add_comm, Nat.add_left_comm] using g3⟩
    · rename_i f a sz
      obtain ⟨w, cs, es', rfl, rfl, rfl, h2⟩ := ptrE_sound h
      obtain ⟨ds, g1, g2, g3⟩ := decE_sound r _ _ _ h2
      exact ⟨.fp f w cs :: ds, by simp only [argsOf, g1], by simp only [entsOf, g2], by simpa only [cntD, Nat.add_assoc, Nat.add_comm, Nat.add_left_comm] using g3⟩
    · rename_i cs
      cases hb : plainQ (.agg cs) with
      | true =>
        rw [hb] at h
        obtain ⟨ds, g1, g2, g3⟩ := decE_sound r _ _ _ h
        exact ⟨.pl (.agg cs) :: ds, by simp only [argsOf, g1], by simp only [entsOf, g2], by simpa only [cntD] using g3⟩
      | false =>
        rw [hb] at h
        obtain ⟨pre, a, len, cap, post, h0, hk⟩ := splitS_sound _ _ h
        clear h hb
        simp only [List.nil_append] at h0
        subst h0
        split at hk
        · rename_i j w k n xs es'
          obtain ⟨hb, h1, h2⟩ := bif_prop hk
          simp only [Bool.and_eq_true] at hb
          obtain ⟨⟨⟨⟨b1, b2⟩, b3⟩, b4⟩, b5⟩ := hb
          obtain ⟨aid, aoff, aidx, ast⟩ := a
          obtain rfl := beq_eq b1
          obtain rfl := beq_eq b2
          obtain rfl := beq_eq b3
          obtain rfl := beq_eq b4
          obtain rfl := beq_eq b5
          subst h1
          obtain ⟨ds, g1, g2, g3⟩ := decE_sound r _ _ _ h2
          exact ⟨.ag pre w k n cap xs post :: ds, by simp only [argsOf, g1], by simp only [entsOf, g2], by simpa only [cntD, Nat.add_assoc, Nat.add_comm, Nat.add_left_comm] using g3⟩
        · exact hk.elim
    · obtain ⟨_, h2⟩ := bif_prop h
      obtain ⟨ds, g1, g2, g3⟩ := decE_sound r _ _ _ h2
      exact ⟨.pl v :: ds, by simp only [argsOf, g1], by simp only [entsOf, g2], by simpa only [cntD] using g3⟩
theorem dC_dS {D : DSpec} {args : List SVal} {H : Heap} {K : SVal → Heap → Prop} (h : dC D args H K) : dS D args H K := by
  obtain ⟨ds, h1, h2, h3⟩ := decE_sound args 0 H.ents _ h
  obtain ⟨hb, h3⟩ := bif_prop h3
  obtain ⟨next, es⟩ := H
  simp only [Nat.zero_add] at hb h2
  have := beq_eq hb
  subst this
  subst h2
  exact ⟨ds, h1, rfl, h3⟩
theorem Sound.mono {P : Program} {f : FuncId} {S S' : Spec} (h : Sound P f S) (hs : ∀ args H K, S' args H K → S args H K) : Sound P f S' := fun args H K h' => h args H K (hs args H K h')
theorem Sound.dC {P : Program} {f : FuncId} {D : DSpec} (h : Sound P f (dS D)) : Sound P f (dC D) := h.mono fun _ _ _ => dC_dS
/-- What a function hands back, told by the small heap behind that its contract speaks of. -/
theorem ret_canon {n0 : Nat} {K : SVal → Heap → Prop} {r r' : SVal} {H H' : Heap} (l : List (Nat × Nat)) (ids : List Nat) (h1 : allGe n0 l = true) (h2 : Nat.ble n0 H'.next = true) (h3 : r = r'.ren (tau l)) (h4 : r'.bd H'.next)
    (h5 : heapSub (tau l) H'.next H H'.ents) (h6 : H'.ents.map (·.1) = ids) (h7 : injB l ids = true) (hK : K r' H') : Ret n0 K r H :=
  ret_tau l h1 hK (Nat.le_of_ble_eq_true h2) h3 h4 h5 (injB_ok (h6 ▸ h7))
theorem ret_canonN {n0 : Nat} {K : SVal → Heap → Prop} {r' : SVal} {H H' : Heap} (z : List Chunk) (hz : plainCs z = true) (h0 : lenCs z = 0) (l : List (Nat × Nat)) (ids : List Nat) (h1 : allGe n0 l = true) (h2 : Nat.ble n0 H'.next = true) (h3 : nilV z H = r'.ren (tau l)) (h4 : r'.bd H'.next)
    (h5 : heapSub (tau l) H'.next (nilE z H) H'.ents) (h6 : H'.ents.map (·.1) = ids) (h7 : injB l ids = true) (hK : K r' H') : Ret n0 K .nilslice H :=
  ret_nil l z hz h0 h1 hK (Nat.le_of_ble_eq_true h2) h3 h4 h5 (injB_ok (h6 ▸ h7))
theorem ret_canonT {n0 : Nat} {K : SVal → Heap → Prop} {r' : SVal} {H H' : Heap} (a b : List SVal) (z : List Chunk) (hz : plainCs z = true) (h0 : lenCs z = 0) (l : List (Nat × Nat)) (ids : List Nat) (h1 : allGe n0 l = true) (h2 : Nat.ble n0 H'.next = true) (h3 : .tuple (a ++ nilV z H :: b) = r'.ren (tau l)) (h4 : r'.bd H'.next)
    (h5 : heapSub (tau l) H'.next (nilE z H) H'.ents) (h6 : H'.ents.map (·.1) = ids) (h7 : injB l ids = true) (hK : K r' H') : Ret n0 K (.tuple (a ++ .nilslice :: b)) H :=
  .inr (.inl ⟨z, hz, h0, .inr ⟨a, b, rfl, tau l, r', H', tau_fix h1, Nat.le_of_ble_eq_true h2, h3, h4, h5, injB_ok (h6 ▸ h7), hK⟩⟩)
theorem bd_tuple {n : Nat} {vs : List SVal} (h : bdL n vs) : SVal.bd n (.tuple vs) := by simp only [SVal.bd]; exact h
theorem bd_fn {n : Nat} {f : Fn} {vs : List SVal} (h : bdL n vs) : SVal.bd n (.fn f [] vs) := by simp only [SVal.bd, bdL]; exact ⟨trivial, h⟩
theorem bdL_nil {n : Nat} : bdL n [] := trivial
theorem bdL_cons {n : Nat} {v : SVal} {r : List SVal} (h : v.bd n) (hr : bdL n r) : bdL n (v :: r) := ⟨h, hr⟩
theorem qo1t {b : Bool} (h : true = false) : b = true := Bool.noConfusion h
theorem qo2t (_ : true = true) : true = true := rfl
theorem qo1f {b : Bool} (_ : false = false) : b = b := rfl
theorem qo2f {b : Bool} (h : false = true) : true = b := Bool.noConfusion h
theorem qa1t {b : Bool} (_ : true = true) : b = b := rfl
theorem qa2t {b : Bool} (h : true = false) : false = b := Bool.noConfusion h
theorem qa1f {b : Bool} (h : false = true) : b = false := Bool.noConfusion h
theorem qa2f (_ : false = false) : false = false := rfl
/-- The shapes of rows. -/
abbrev sh_ln : List Leaf := [.ints .u8 32]
abbrev sh_seed : List Leaf := [.int .i64, .int .u64, .int .i64, .int .i64]
abbrev sh_op : List Leaf := [.int .i64, .int .i64, .int .i64, .int .u64, .int .u64]
abbrev sh_ent : List Leaf := [.int .i64, .int .i64, .int .i64, .int .i64, .int .u64, .int .u64, .int .i64, .int .i64, .bool, .int .u64]
abbrev sh_pair : List Leaf := [.int .i64, .int .i64]
abbrev sh_7i64 : List Leaf := [.int .i64, .int .i64, .int .i64, .int .i64, .int .i64, .int .i64, .int .i64]
end Go.Sx
