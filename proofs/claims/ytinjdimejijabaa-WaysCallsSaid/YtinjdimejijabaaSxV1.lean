/- Part of the proof: SxV1. -/
import Derived.Test.YtinjdimejijabaaSxV0
set_option linter.unusedVariables false
set_option linter.unusedSimpArgs false
namespace Go.Sx
inductive DA | pl (v : SVal) | sl (w : Bool) (k : IntKind) (n cap : Nat) (xs : List Int)
  | ag (pre : List Chunk) (w : Bool) (k : IntKind) (n cap : Nat) (xs : List Int) (post : List Chunk) | pt (w : Bool) (cs : List Chunk) | fp (f : Nat) (w : Bool) (cs : List Chunk)
inductive DR | pl (v : SVal) | sl (k : IntKind) (n : Nat) (xs : List Int) | rw (sh : List Leaf) (n : Nat) (xs : List (Tup sh)) | ag (pre : List Chunk) (k : IntKind) (n : Nat) (xs : List Int) (post : List Chunk)
abbrev Zvp := List DA -> Option (Prop × List DR × List (Option (List Int)))
def ZdV : Nat -> List DA -> List SVal
  | _, [] => []
  | i, .pl v :: r => v :: ZdV i r
  | i, .sl _ _ n cap _ :: r => .slice ⟨i, 0, 0, 1⟩ n cap :: ZdV (i + 1) r
  | i, .ag pre _ _ n cap _ post :: r => .agg (pre ++ .one (.slice ⟨i, 0, 0, 1⟩ n cap) :: post) :: ZdV (i + 1) r
  | i, .pt _ cs :: r => .ptr ⟨i, 0, 0, 1⟩ (Zam cs) :: ZdV (i + 1) r
  | i, .fp f _ cs :: r => .fn (.func f) [] [.ptr ⟨i, 0, 0, 1⟩ (Zam cs)] :: ZdV (i + 1) r
def ZdT : Nat -> List DA -> List (Nat × Option Ent)
  | _, [] => []
  | i, .pl _ :: r => ZdT i r
  | i, .sl w k n _ xs :: r => (i, some ⟨w, [.ints k n xs], 0⟩) :: ZdT (i + 1) r
  | i, .ag _ w k n _ xs _ :: r => (i, some ⟨w, [.ints k n xs], 0⟩) :: ZdT (i + 1) r
  | i, .pt w cs :: r => (i, some ⟨w, cs, 0⟩) :: ZdT (i + 1) r
  | i, .fp _ w cs :: r => (i, some ⟨w, cs, 0⟩) :: ZdT (i + 1) r
def ZrO : List DA -> Nat
  | [] => 0
  | .pl _ :: r => ZrO r
  | .sl _ _ _ _ _ :: r => ZrO r + 1
  | .ag _ _ _ _ _ _ _ :: r => ZrO r + 1
  | .pt _ _ :: r => ZrO r + 1
  | .fp _ _ _ :: r => ZrO r + 1
def ZyS (i : Nat) (en : Ent) : List (Nat × Option Ent) -> List (Nat × Option Ent)
  | [] => []
  | (j, e) :: r => bif Nat.beq j i then (j, some en) :: ZyS i en r else (j, e) :: ZyS i en r
def wrD : Nat -> List (Option (List Int)) -> Heap -> (Heap -> Prop) -> Prop
  | _, [], H, K => K H
  | i, none :: r, H, K => wrD (i + 1) r H K
  | i, some ys :: r, H, K => match H.find i with
    | some en => (match en.cs with
      | [.ints k n _] => bif en.wr then ys.length = n /\ wrD (i + 1) r ⟨H.next, ZyS i ⟨true, [.ints k n ys], 0⟩ H.ents⟩ K else False
      | _ => False)
    | none => False
def ZI7 : DR -> Heap -> (SVal -> Heap -> Prop) -> Prop
  | .pl v, H, K => K v H
  | .sl k n xs, H, K => ∀ c, n <= c -> K (.slice ⟨H.next, 0, 0, 1⟩ n c) (H.push ⟨true, [.ints k n xs], c - n⟩)
  | .ag pre k n xs post, H, K => ∀ c, n <= c -> K (.agg (pre ++ .one (.slice ⟨H.next, 0, 0, 1⟩ n c) :: post)) (H.push ⟨true, [.ints k n xs], c - n⟩)
  | .rw sh n xs, H, K => ∀ c, n <= c -> K (.slice ⟨H.next, 0, 0, Zah sh⟩ n c) (H.push ⟨true, [.rows sh n xs], (c - n) * Zah sh⟩)
def ZDL : List DR -> Heap -> (List SVal -> Heap -> Prop) -> Prop
  | [], H, K => K [] H
  | d :: r, H, K => ZI7 d H fun v H' => ZDL r H' fun vs H'' => K (v :: vs) H''
def ZI8 (rs : List DR) (ws : List (Option (List Int))) (H : Heap) (K : SVal -> Heap -> Prop) : Prop := wrD 0 ws H fun H' => match rs with
  | [r] => ZI7 r H' K
  | rs => ZDL rs H' fun vs H'' => K (.tuple vs) H''
def dS (D : Zvp) : ZrR := fun args H K => ∃ ds, args = ZdV 0 ds /\ H = ⟨ZrO ds, ZdT 0 ds⟩ /\ match D ds with
  | some (pre, rs, ws) => pre /\ ZI8 rs ws H K
  | none => False
def Zqs (K : List Chunk -> SAddr -> Nat -> Nat -> List Chunk -> Prop) : List Chunk -> List Chunk -> Prop
  | _, [] => False
  | acc, c :: r => match c with
    | .one (.slice a len cap) => K acc a len cap r
    | c => Zqs K (acc ++ [c]) r
theorem Zhr {K : List Chunk -> SAddr -> Nat -> Nat -> List Chunk -> Prop} : ∀ (cs acc : List Chunk), Zqs K acc cs -> ∃ pre a len cap post, acc ++ cs = pre ++ .one (.slice a len cap) :: post /\ K pre a len cap post
  | [], _, h => h.elim
  | c :: r, acc, h => by
    unfold Zqs at h
    split at h
    · exact ⟨acc, _, _, _, r, rfl, h⟩
    · obtain ⟨pre, a, len, cap, post, h1, h2⟩ := Zhr r (acc ++ [c]) h
      exact ⟨pre, a, len, cap, post, by rw [<- h1, List.append_assoc]; rfl, h2⟩
def ZHP (i : Nat) (a : SAddr) (sz : Nat) (es : List (Nat × Option Ent)) (K : Bool -> List Chunk -> List (Nat × Option Ent) -> Prop) : Prop := match es with
  | (j, some ⟨w, cs, 0⟩) :: es' => bif Nat.beq j i && Nat.beq a.id i && Nat.beq a.off 0 && Nat.beq a.idx 0 && Nat.beq a.st 1 && Nat.beq sz (Zam cs) then K w cs es' else False
  | _ => False
theorem ZjT {i : Nat} {a : SAddr} {sz : Nat} {es : List (Nat × Option Ent)} {K : Bool -> List Chunk -> List (Nat × Option Ent) -> Prop} (h : ZHP i a sz es K) : ∃ w cs es', a = ⟨i, 0, 0, 1⟩ /\ sz = Zam cs /\ es = (i, some ⟨w, cs, 0⟩) :: es' /\ K w cs es' := by
  unfold ZHP at h
  split at h
  · obtain ⟨hb, h2⟩ := Zao h
    simp only [Bool.and_eq_true] at hb
    obtain ⟨⟨⟨⟨⟨b1, b2⟩, b3⟩, b4⟩, b5⟩, b6⟩ := hb
    obtain ⟨aid, aoff, aidx, ast⟩ := a
    obtain rfl := Zat b1
    obtain rfl := Zat b2
    obtain rfl := Zat b3
    obtain rfl := Zat b4
    obtain rfl := Zat b5
    exact ⟨_, _, _, rfl, Zat b6, rfl, h2⟩
  · exact h.elim
def Zvr : List SVal -> Nat -> List (Nat × Option Ent) -> (List DA -> Nat -> Prop) -> Prop
  | [], i, es, K => (match es with
    | [] => K [] i
    | _ :: _ => False)
  | v :: r, i, es, K => match v with
    | .slice a len cap => (match es with
      | (j, some ⟨w, [.ints k n xs], 0⟩) :: es' => bif Nat.beq j i && Nat.beq a.id i && Nat.beq a.off 0 && Nat.beq a.idx 0 && Nat.beq a.st 1 then n = len /\ Zvr r (i + 1) es' (fun ds m => K (.sl w k n cap xs :: ds) m) else False
      | _ => False)
    | .ptr a sz => ZHP i a sz es fun w cs es' => Zvr r (i + 1) es' (fun ds m => K (.pt w cs :: ds) m)
    | .fn (.func f) [] [.ptr a sz] => ZHP i a sz es fun w cs es' => Zvr r (i + 1) es' (fun ds m => K (.fp f w cs :: ds) m)
    | .agg cs => bif Zhz (.agg cs) then Zvr r i es (fun ds m => K (.pl (.agg cs) :: ds) m) else Zqs (fun pre a len cap post => match es with
      | (j, some ⟨w, [.ints k n xs], 0⟩) :: es' => bif Nat.beq j i && Nat.beq a.id i && Nat.beq a.off 0 && Nat.beq a.idx 0 && Nat.beq a.st 1 then n = len /\ Zvr r (i + 1) es' (fun ds m => K (.ag pre w k n cap xs post :: ds) m) else False
      | _ => False) [] cs
    | v => bif Zhz v then Zvr r i es (fun ds m => K (.pl v :: ds) m) else False
def dC (D : Zvp) : ZrR := fun args H K => Zvr args 0 H.ents fun ds m => bif Nat.beq H.next m then (match D ds with
  | some (pre, rs, ws) => pre /\ ZI8 rs ws H K
  | none => False) else False
theorem Zcv : ∀ (args : List SVal) (i : Nat) (es : List (Nat × Option Ent)) (K : List DA -> Nat -> Prop), Zvr args i es K -> ∃ ds, args = ZdV i ds /\ es = ZdT i ds /\ K ds (i + ZrO ds)
  | [], i, es, K, h => by
    simp only [Zvr] at h
    split at h
    · exact ⟨[], rfl, rfl, h⟩
    · exact h.elim
  | v :: r, i, es, K, h => by
    simp only [Zvr] at h
    split at h
    · rename_i a len cap
      split at h
      · rename_i j w k n xs es'
        obtain ⟨hb, h1, h2⟩ := Zao h
        simp only [Bool.and_eq_true] at hb
        obtain ⟨⟨⟨⟨b1, b2⟩, b3⟩, b4⟩, b5⟩ := hb
        obtain ⟨aid, aoff, aidx, ast⟩ := a
        obtain rfl := Zat b1
        obtain rfl := Zat b2
        obtain rfl := Zat b3
        obtain rfl := Zat b4
        obtain rfl := Zat b5
        subst h1
        obtain ⟨ds, g1, g2, g3⟩ := Zcv r _ _ _ h2
        exact ⟨.sl w k n cap xs :: ds, by simp only [ZdV, g1], by simp only [ZdT, g2], by simpa only [ZrO, Nat.add_assoc, Nat.add_comm, Nat.add_left_comm] using g3⟩
      · exact h.elim
    · obtain ⟨w, cs, es', rfl, rfl, rfl, h2⟩ := ZjT h
      obtain ⟨ds, g1, g2, g3⟩ := Zcv r _ _ _ h2
      exact ⟨.pt w cs :: ds, by simp only [ZdV, g1], by simp only [ZdT, g2], by simpa only [ZrO, Nat.add_assoc, Nat.add_comm, Nat.add_left_comm] using g3⟩
    · rename_i f a sz
      obtain ⟨w, cs, es', rfl, rfl, rfl, h2⟩ := ZjT h
      obtain ⟨ds, g1, g2, g3⟩ := Zcv r _ _ _ h2
      exact ⟨.fp f w cs :: ds, by simp only [ZdV, g1], by simp only [ZdT, g2], by simpa only [ZrO, Nat.add_assoc, Nat.add_comm, Nat.add_left_comm] using g3⟩
    · rename_i cs
      cases hb : Zhz (.agg cs) with
      | true =>
        rw [hb] at h
        obtain ⟨ds, g1, g2, g3⟩ := Zcv r _ _ _ h
        exact ⟨.pl (.agg cs) :: ds, by simp only [ZdV, g1], by simp only [ZdT, g2], by simpa only [ZrO] using g3⟩
      | false =>
        rw [hb] at h
        obtain ⟨pre, a, len, cap, post, h0, hk⟩ := Zhr _ _ h
        clear h hb
        simp only [List.nil_append] at h0
        subst h0
        split at hk
        · rename_i j w k n xs es'
          obtain ⟨hb, h1, h2⟩ := Zao hk
          simp only [Bool.and_eq_true] at hb
          obtain ⟨⟨⟨⟨b1, b2⟩, b3⟩, b4⟩, b5⟩ := hb
          obtain ⟨aid, aoff, aidx, ast⟩ := a
          obtain rfl := Zat b1
          obtain rfl := Zat b2
          obtain rfl := Zat b3
          obtain rfl := Zat b4
          obtain rfl := Zat b5
          subst h1
          obtain ⟨ds, g1, g2, g3⟩ := Zcv r _ _ _ h2
          exact ⟨.ag pre w k n cap xs post :: ds, by simp only [ZdV, g1], by simp only [ZdT, g2], by simpa only [ZrO, Nat.add_assoc, Nat.add_comm, Nat.add_left_comm] using g3⟩
        · exact hk.elim
    · obtain ⟨_, h2⟩ := Zao h
      obtain ⟨ds, g1, g2, g3⟩ := Zcv r _ _ _ h2
      exact ⟨.pl v :: ds, by simp only [ZdV, g1], by simp only [ZdT, g2], by simpa only [ZrO] using g3⟩
theorem ZIA {D : Zvp} {args : List SVal} {H : Heap} {K : SVal -> Heap -> Prop} (h : dC D args H K) : dS D args H K := by
  obtain ⟨ds, h1, h2, h3⟩ := Zcv args 0 H.ents _ h
  obtain ⟨hb, h3⟩ := Zao h3
  obtain ⟨next, es⟩ := H
  simp only [Nat.zero_add] at hb h2
  have := Zat hb
  subst this
  subst h2
  exact ⟨ds, h1, rfl, h3⟩
theorem Sound.mono {P : Program} {f : FuncId} {S S' : ZrR} (h : Sound P f S) (hs : ∀ args H K, S' args H K -> S args H K) : Sound P f S' := fun args H K h' => h args H K (hs args H K h')
theorem Sound.dC {P : Program} {f : FuncId} {D : Zvp} (h : Sound P f (dS D)) : Sound P f (dC D) := h.mono fun _ _ _ => ZIA
theorem Ziv {n0 : Nat} {K : SVal -> Heap -> Prop} {r r' : SVal} {H H' : Heap} (l : List (Nat × Nat)) (ids : List Nat) (h1 : Znl n0 l = true) (h2 : Nat.ble n0 H'.next = true) (h3 : r = r'.ren (tau l)) (h4 : r'.bd H'.next)
    (h5 : ZbI (tau l) H'.next H H'.ents) (h6 : H'.ents.map (·.1) = ids) (h7 : ZAO l ids = true) (hK : K r' H') : Ret n0 K r H :=
  ZyR l h1 hK (Nat.le_of_ble_eq_true h2) h3 h4 h5 (ZkT (h6 ▸ h7))
theorem Zez {n : Nat} {vs : List SVal} (h : bdL n vs) : SVal.bd n (.tuple vs) := by simp only [SVal.bd]; exact h
theorem ZHp {n : Nat} {f : Fn} {vs : List SVal} (h : bdL n vs) : SVal.bd n (.fn f [] vs) := by simp only [SVal.bd, bdL]; exact ⟨trivial, h⟩
theorem ZeA {n : Nat} : bdL n [] := trivial
theorem ZbY {n : Nat} {v : SVal} {r : List SVal} (h : v.bd n) (hr : bdL n r) : bdL n (v :: r) := ⟨h, hr⟩
abbrev Zaa : List Leaf := [.int .i64, .int .i64]
abbrev Zab : List Leaf := [.hd]
end Go.Sx
