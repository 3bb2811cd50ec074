/- Part of the proof: SxAbs. -/
import Derived.Test.YtinjdimejijabaaSxCall
import Derived.Test.YtinjdimejijabaaSxG
set_option linter.unusedVariables false
set_option linter.unusedSimpArgs false
namespace Go.Sx
def ZAN (B : Nat -> Nat -> Prop) (w0 : World) (ρ : Rho) (H : Heap) (w : World) : Prop := ∀ id e, H.find id = some e -> e.wr = false -> e.ex = 2 ->
  ∃ b xs, ρ id = some b /\ e.cs = [.rows Zad 0 xs] /\ CacheAt w b (Zaq xs) (B id) /\ (∀ x, B id x -> w0.heap.size <= x) /\
    (∀ id' e', id' ≠ id -> H.find id' = some e' -> ∀ x o, Win ρ id' e' x o -> ¬ B id x) /\
    (∀ id' e', id' ≠ id -> H.find id' = some e' -> e'.wr = false -> e'.ex = 2 -> ∀ x, B id x -> ¬ B id' x)
abbrev ZrV (C : CacheV) : Ent := ⟨false, [.rows Zad 0 C.code], 2⟩
def Zwp (H : Heap) : Prop := ∀ i e, H.find i = some e -> e.wr = false -> ZbR e.cs = none
def ZHa (B : Nat -> Prop) (w : World) (x o : Nat) : Prop := B x /\ ∃ v, w.cell? ⟨x, o, none⟩ = some v
section
variable {w0 w w' : World} {fp : Nat -> Nat -> Prop} {ρ : Rho} {H : Heap}
theorem Ziu {xs : List (Tup Zad)} : Zai ρ [.rows Zad 0 xs] = [] := List.eq_nil_of_length_eq_zero (by rw [Zar]; rfl)
theorem Rel.setAbs {B : Nat -> Nat -> Prop} {id : Nat} {b : Nat × Nat} {xs : List (Tup Zad)} {C' : CacheV} {B' : Nat -> Prop} (h : Rel w0 fp ρ H w) (hB : ZAN B w0 ρ H w) (he : H.find id = some ⟨false, [.rows Zad 0 xs], 2⟩) (hb : ρ id = some b)
    (hf : Frame w (ZHa (B id) w) w') (hc : CacheAt w' b C' B') (hB' : ∀ x, B' x -> B id x ∨ w.heap.size <= x) (hnh : Zwp H) :
    Rel w0 fp ρ (H.set id (ZrV C')) w' /\ ZAN (fun i x => if i = id then B' x else B i x) w0 ρ (H.set id (ZrV C')) w' := by
  obtain ⟨b0, xs0, g1, g2, g3, g4, g5, g6⟩ := hB id _ he rfl rfl
  rw [hb] at g1
  cases g1
  have hold : ∀ i e, i ≠ id -> (H.set id (ZrV C')).find i = some e -> H.find i = some e := fun i e hne hi => by
    rw [Heap.find_set, if_neg (Ne.symm hne)] at hi; exact hi
  have hself : ∀ e, (H.set id (ZrV C')).find id = some e -> e = ZrV C' := fun e hi => by
    rw [Heap.find_set, if_pos rfl] at hi; cases hi; rfl
  have hwin : ∀ e x o, (H.set id (ZrV C')).find id = some e -> (Win ρ id e x o ↔ Win ρ id ⟨false, [.rows Zad 0 xs], 2⟩ x o) := fun e x o hi => by
    have := hself e hi
    subst this
    simp [Win, Ent.size, Zam, Chunk.len]
  have hfr : ∀ x, x < w.heap.size -> ¬ B id x -> w'.heap[x]? = w.heap[x]? := fun x hx hn => hf.other x hx fun o ho => hn ho.1
  have hob : ∀ i e, i ≠ id -> H.find i = some e -> ∀ x o, Win ρ i e x o -> w'.heap[x]? = w.heap[x]? := fun i e hne hi x o hw => hfr x (h.win_lt hi hw) (g5 i e hne hi x o hw)
  have hmap : ∀ (b : Nat) es cl, w.heap[b]? = some (Obj.map es cl) -> w'.heap[b]? = some (Obj.map es cl) := fun b es cl hm => by
    rw [hf.other b (Array.getElem?_eq_some_iff.1 hm).1 fun o ⟨_, v, hv⟩ => by simp [World.cell?, hm] at hv]; exact hm
  have hab : ZAN (fun i x => if i = id then B' x else B i x) w0 ρ (H.set id (ZrV C')) w' := by
    intro i e hi h1 h2
    by_cases hid : i = id
    · subst hid
      have := hself e hi
      subst this
      simp only [if_true]
      refine ⟨b, C'.code, hb, rfl, by rw [ZbG]; exact hc, fun x hx => ?_, fun j e' hne hj x o hw hx => ?_, fun j e' hne hj q1 q2 x hx hx' => ?_⟩
      · rcases hB' x hx with h' | h'
        · exact g4 x h'
        · exact Nat.le_trans h.frame.size h'
      · have hj' := hold j e' hne hj
        rcases hB' x hx with h' | h'
        · exact g5 j e' hne hj' x o hw h'
        · have := h.win_lt hj' hw; omega
      · rw [if_neg hne] at hx'
        have hj' := hold j e' hne hj
        rcases hB' x hx with h' | h'
        · exact g6 j e' hne hj' q1 q2 x h' hx'
        · obtain ⟨b2, ys, k1, k2, k3, _⟩ := hB j e' hj' q1 q2
          have := k3.lt x hx'; omega
    · have hi' := hold i e hid hi
      obtain ⟨b2, ys, k1, k2, k3, k4, k5, k6⟩ := hB i e hi' h1 h2
      simp only [if_neg hid]
      refine ⟨b2, ys, k1, k2, k3.congr hf.size fun x hx => hfr x (k3.lt x hx) fun hx' => g6 i e hid hi' h1 h2 x hx' hx, k4, fun j e' hne hj x o hw hx => ?_, fun j e' hne hj q1 q2 x hx hx' => ?_⟩
      · by_cases hj2 : j = id
        · subst hj2
          exact k5 j _ hne he x o ((hwin e' x o hj).1 hw) hx
        · exact k5 j e' hne (hold j e' hj2 hj) x o hw hx
      · by_cases hj2 : j = id
        · subst hj2
          rw [if_pos rfl] at hx'
          rcases hB' x hx' with h' | h'
          · exact g6 i e hid hi' h1 h2 x h' hx
          · have := k3.lt x hx; omega
        · rw [if_neg hj2] at hx'
          exact k6 j e' hne (hold j e' hj2 hj) q1 q2 x hx hx'
  refine ⟨⟨h.frame.trans hf fun x o hx => .inr (g4 x hx.1), fun i e hi => ?_, fun i e hi => ?_, fun i e hi hwr x o hw => ?_, fun i j e e' hne hi hj hwr x o hw hw' => ?_, fun i e hi => ?_, fun i e hi => ?_, fun i e hi h1 h2 b' base hb' => ?_, ⟨_, hab⟩, HidR.none fun i e hi hwr => ?_⟩, hab⟩
  · by_cases hid : i = id
    · subst hid
      have := hself e hi
      subst this
      exact ⟨fun hn => (by rw [hb] at hn; cases hn), fun _ _ _ k v hv => (by rw [Ziu] at hv; simp at hv), fun hw => (by cases hw), fun _ h2 => (by cases h2)⟩
    · have hi' := hold i e hid hi
      refine (h.ents i e hi').congr (fun _ _ => rfl) (h.next i e hi') (h.oks i e hi') (fun b o hw => ?_) (fun _ b o hw => ?_) hmap
      · simp only [World.cell?, hob i e hid hi' b o hw]
      · simp only [World.frozen?, hob i e hid hi' b o hw]
  · by_cases hid : i = id
    · subst hid
      have := hself e hi
      subst this
      exact ⟨trivial, trivial⟩
    · exact h.oks i e (hold i e hid hi)
  · by_cases hid : i = id
    · subst hid
      have := hself e hi
      subst this
      cases hwr
    · exact h.own i e (hold i e hid hi) hwr x o hw
  · by_cases hid : i = id
    · subst hid
      have := hself e hi
      subst this
      cases hwr
    · have hi' := hold i e hid hi
      by_cases hjd : j = id
      · subst hjd
        exact h.apart i j e _ hne hi' he hwr x o hw ((hwin e' x o hj).1 hw')
      · exact h.apart i j e e' hne hi' (hold j e' hjd hj) hwr x o hw hw'
  · by_cases hid : i = id
    · subst hid; exact h.next i _ he
    · exact h.next i e (hold i e hid hi)
  · by_cases hid : i = id
    · subst hid
      have := hself e hi
      subst this
      exact .inr (.inr ⟨.inr rfl, rfl⟩)
    · exact h.ro i e (hold i e hid hi)
  · by_cases hid : i = id
    · subst hid
      have := hself e hi
      subst this
      cases h2
    · exact h.mnew i e (hold i e hid hi) h1 h2 b' base hb'
  · by_cases hid : i = id
    · subst hid
      have := hself e hi
      subst this
      rfl
    · exact hnh i e (hold i e hid hi) hwr
theorem Rel.keepAbs {B : Nat -> Nat -> Prop} {id : Nat} {b : Nat × Nat} {xs : List (Tup Zad)} {B' : Nat -> Prop} (h : Rel w0 fp ρ H w) (hB : ZAN B w0 ρ H w) (he : H.find id = some ⟨false, [.rows Zad 0 xs], 2⟩) (hb : ρ id = some b)
    (hf : Frame w (ZHa (B id) w) w') (hc : CacheAt w' b (Zaq xs) B') (hB' : ∀ x, B' x -> B id x ∨ w.heap.size <= x) (hnh : Zwp H) :
    Rel w0 fp ρ H w' /\ ZAN (fun i x => if i = id then B' x else B i x) w0 ρ H w' := by
  obtain ⟨h1, h2⟩ := h.setAbs (C' := Zaq xs) hB he hb hf hc hB' hnh
  have hs : ∀ i e, H.find i = some e -> i ≠ id -> (H.set id (ZrV (Zaq xs))).find i = some e := fun i e hi hne => by rw [Heap.find_set, if_neg (Ne.symm hne)]; exact hi
  have hself : (H.set id (ZrV (Zaq xs))).find id = some (ZrV (Zaq xs)) := by rw [Heap.find_set, if_pos rfl]
  have hwin : ∀ x o, Win ρ id ⟨false, [.rows Zad 0 xs], 2⟩ x o -> Win ρ id (ZrV (Zaq xs)) x o := fun x o hw => by simpa [Win, Ent.size, Zam, Chunk.len] using hw
  have hw2 : ∀ i e x o, H.find i = some e -> Win ρ i e x o -> ∃ e', (H.set id (ZrV (Zaq xs))).find i = some e' /\ Win ρ i e' x o := fun i e x o hi hw => by
    by_cases hid : i = id
    · subst hid; rw [he] at hi; cases hi; exact ⟨_, hself, hwin x o hw⟩
    · exact ⟨e, hs i e hi hid, hw⟩
  have hab : ZAN (fun i x => if i = id then B' x else B i x) w0 ρ H w' := fun i e hi q1 q2 => by
    by_cases hid : i = id
    · subst hid
      rw [he] at hi
      cases hi
      obtain ⟨b2, ys, g1, g2, g3, g4, g5, g6⟩ := h2 i _ hself rfl rfl
      refine ⟨b, xs, hb, rfl, by simpa using hc, g4, fun j e' hne hj x o hw => ?_, fun j e' hne hj r1 r2 => g6 j e' hne (hs j e' hj hne) r1 r2⟩
      exact g5 j e' hne (hs j e' hj hne) x o hw
    · obtain ⟨b2, ys, g1, g2, g3, g4, g5, g6⟩ := h2 i e (hs i e hi hid) q1 q2
      refine ⟨b2, ys, g1, g2, g3, g4, fun j e' hne hj x o hw => ?_, fun j e' hne hj r1 r2 => ?_⟩
      · obtain ⟨e2, k1, k2⟩ := hw2 j e' x o hj hw
        exact g5 j e2 hne k1 x o k2
      · by_cases hjd : j = id
        · subst hjd; exact g6 j _ hne hself rfl rfl
        · exact g6 j e' hne (hs j e' hj hjd) r1 r2
  refine ⟨⟨h1.frame, fun i e hi => ?_, h.oks, h.own, h.apart, h.next, h.ro, h.mnew, ⟨_, hab⟩, HidR.none hnh⟩, hab⟩
  by_cases hid : i = id
  · subst hid
    rw [he] at hi
    cases hi
    exact ⟨fun hn => (by rw [hb] at hn; cases hn), fun _ _ _ k v hv => (by rw [Ziu] at hv; simp at hv), fun hw => (by cases hw), fun _ h2 => (by cases h2)⟩
  · exact h1.ents i e (hs i e hi hid)
theorem Rel.pushFree {B : Nat -> Nat -> Prop} {e : Ent} {p : Option (Nat × Nat)} (h : Rel w0 fp ρ H w) (hB : ZAN B w0 ρ H w) (hwr : e.wr = true) (hE : EntOk (ρ.up H.next p) w H.next e) (hok : ZaV (ρ.up H.next p) (H.next + 1) e.cs)
    (hfree : ∀ x o, Win (ρ.up H.next p) H.next e x o -> w0.heap.size <= x /\ (∀ i e', H.find i = some e' -> ¬ Win ρ i e' x o) /\ ∀ i e', H.find i = some e' -> e'.wr = false -> e'.ex = 2 -> ¬ B i x) (hnh : Zwp H) :
    Rel w0 fp (ρ.up H.next p) (H.push e) w := by
  have hup := Rho.up_lt (ρ := ρ) (id := H.next) (p := p)
  have hfind : ∀ i e', (H.push e).find i = some e' -> (i = H.next /\ e' = e) ∨ (i < H.next /\ i ≠ H.next /\ H.find i = some e') := fun i e' hi => by
    rw [Heap.find_push] at hi
    split at hi
    · rename_i hid; cases hi; exact .inl ⟨hid.symm, rfl⟩
    · rename_i hid; exact .inr ⟨h.next i e' hi, fun h => hid h.symm, hi⟩
  refine ⟨h.frame, fun i e' hi => ?_, fun i e' hi => ?_, fun i e' hi hw x o hx => ?_, fun i j e1 e2 hne hi hj hw x o hx hx' => ?_, fun i e' hi => ?_, fun i e' hi => ?_, fun i e' hi h1 h2 b base hb => ?_, ⟨B, fun i e' hi h1 h2 => ?_⟩, HidR.none fun i e' hi h1 => ?_⟩
  · rcases hfind i e' hi with ⟨rfl, rfl⟩ | ⟨hl, hne, hi⟩
    · exact hE
    · exact (h.ents i e' hi).congr hup hl (h.oks i e' hi) (fun _ _ _ => rfl) (fun _ _ _ _ => rfl) fun _ _ _ h => h
  · rcases hfind i e' hi with ⟨rfl, rfl⟩ | ⟨hl, hne, hi⟩
    · exact hok
    · exact Zbc hup (by simp [Heap.push]) _ (h.oks i e' hi)
  · rcases hfind i e' hi with ⟨rfl, rfl⟩ | ⟨hl, hne, hi⟩
    · exact .inr (hfree x o hx).1
    · exact h.own i e' hi hw x o ((Win.congr (hup i hl)).1 hx)
  · rcases hfind i e1 hi with ⟨rfl, rfl⟩ | ⟨hl, hn1, hi1⟩ <;> rcases hfind j e2 hj with ⟨hj2, rfl⟩ | ⟨hl2, hn2, hj1⟩
    · exact hne hj2.symm
    · exact (hfree x o hx).2.1 j e2 hj1 ((Win.congr (hup j hl2)).1 hx')
    · subst hj2
      exact (hfree x o hx').2.1 i e1 hi1 ((Win.congr (hup i hl)).1 hx)
    · exact h.apart i j e1 e2 hne hi1 hj1 hw x o ((Win.congr (hup i hl)).1 hx) ((Win.congr (hup j hl2)).1 hx')
  · rcases hfind i e' hi with ⟨rfl, rfl⟩ | ⟨hl, hne, hi⟩ <;> simp [Heap.push] <;> omega
  · rcases hfind i e' hi with ⟨rfl, rfl⟩ | ⟨hl, hne, hi⟩
    · exact .inl hwr
    · exact h.ro i e' hi
  · rcases hfind i e' hi with ⟨rfl, rfl⟩ | ⟨hl, hne, hi⟩
    · rw [hwr] at h1; cases h1
    · rw [hup i hl] at hb; exact h.mnew i e' hi h1 h2 b base hb
  · rcases hfind i e' hi with ⟨rfl, rfl⟩ | ⟨hl, hne, hi1⟩
    · rw [hwr] at h1; cases h1
    · obtain ⟨b, xs, g1, g2, g3, g4, g5, g6⟩ := hB i e' hi1 h1 h2
      refine ⟨b, xs, by rw [hup i hl]; exact g1, g2, g3, g4, fun j e2 hne2 hj x o hw hx => ?_, fun j e2 hne2 hj q1 q2 => ?_⟩
      · rcases hfind j e2 hj with ⟨rfl, rfl⟩ | ⟨hl2, hn2, hj1⟩
        · exact (hfree x o hw).2.2 i e' hi1 h1 h2 hx
        · exact g5 j e2 hne2 hj1 x o ((Win.congr (hup j hl2)).1 hw) hx
      · rcases hfind j e2 hj with ⟨rfl, rfl⟩ | ⟨hl2, hn2, hj1⟩
        · rw [hwr] at q1; cases q1
        · exact g6 j e2 hne2 hj1 q1 q2
  · rcases hfind i e' hi with ⟨rfl, rfl⟩ | ⟨hl, hne, hi1⟩
    · rw [hwr] at h1; cases h1
    · exact hnh i e' hi1 h1
end
end Go.Sx
