/- Part of the proof: SxAbsC. -/
import Derived.Test.YtinjdimejijabaaSxOpnM
set_option linter.unusedVariables false
set_option linter.unusedSimpArgs false
namespace Go.Sx
inductive ARes
  | plain (r : SVal) (C : CacheV)
  | look (r : SVal)
  | nums (ks : List Int)
structure ACon where
  f : Nat
  sem : CacheV -> List SVal -> Option (Prop × ARes)
structure NCon where
  f : Nat
  sem : List SVal -> Option (Prop × CacheV)
def AOk (P : Program) (c : ACon) : Prop := ∀ (w : World) (b : Nat × Nat) (C : CacheV) (B : Nat -> Prop) (args : List SVal) (pre : Prop) (res : ARes), CacheAt w b C B -> c.sem C args = some (pre, res) -> pre -> ∀ ρ : Rho,
  match res with
  | .plain r C' => (∀ (ρ : Rho) (n : Nat), r.ok ρ n) /\ Calls P c.f (.pointer (some ⟨b.1, b.2, none⟩) :: ZaJ ρ args).toArray w (ZeD B w b (r.conc ρ) C')
  | .look r => (∀ (ρ : Rho) (n : Nat), r.ok ρ n) /\ Calls P c.f (.pointer (some ⟨b.1, b.2, none⟩) :: ZaJ ρ args).toArray w (ZeD B w b (r.conc ρ) C)
  | .nums ks => Calls P c.f (.pointer (some ⟨b.1, b.2, none⟩) :: ZaJ ρ args).toArray w (Zii B w b ks C)
def NOk (P : Program) (c : NCon) : Prop := ∀ (w : World) (args : List SVal) (pre : Prop) (C : CacheV), c.sem args = some (pre, C) -> pre -> ∀ ρ : Rho,
  Calls P c.f (ZaJ ρ args).toArray w fun e w' => ∃ (b : Nat × Nat) (B' : Nat -> Prop), e = .returned (.pointer (some ⟨b.1, b.2, none⟩)) /\ CacheAt w' b C B' /\ (∀ y, B' y -> w.heap.size <= y) /\ Frame w (fun _ _ => False) w'
def ZmL : List (Nat × Option Ent) -> Bool
  | [] => true
  | (_, some e) :: r => (e.wr || (ZbR e.cs).isNone) && ZmL r
  | (_, none) :: r => ZmL r
theorem ZfP : ∀ {l : List (Nat × Option Ent)} {i : Nat} {e : Ent}, ZmL l = true -> Zc7 l i = some e -> e.wr = false -> ZbR e.cs = none
  | [], _, _, _, h, _ => by simp [Zc7] at h
  | (k, none) :: r, i, e, hn, h, h1 => by
    rw [ZaH] at h
    split at h
    · cases h
    · exact ZfP (l := r) hn h h1
  | (k, some e0) :: r, i, e, hn, h, h1 => by
    simp only [ZmL, Bool.and_eq_true, Bool.or_eq_true] at hn
    rw [ZaH] at h
    split at h
    · cases h
      rcases hn.1 with h3 | h3
      · rw [h1] at h3; cases h3
      · simpa using h3
    · exact ZfP hn.2 h h1
def ZJj (c : ACon) (vs : List SVal) (H : Heap) (K : SVal -> Heap -> Prop) : Prop := match vs with
  | .ptr a _ :: args => bif Nat.beq a.off 0 && Nat.beq a.idx 0 && ZmL H.ents then (match H.find a.id with
    | some ⟨false, [.rows [.ints .i64 0, .ints .i64 0] 0 xs], 2⟩ => (match c.sem (Zaq xs) args with
      | some (pre, .plain r C') => pre /\ K r (H.set a.id ⟨false, [.rows Zad 0 C'.code], 2⟩)
      | some (pre, .look r) => pre /\ K r H
      | some (pre, .nums ks) => pre /\ ∀ cap : Nat, ks.length <= cap -> K (.slice ⟨H.next, 0, 0, 1⟩ ks.length cap) (H.push ⟨true, [.ints .i64 ks.length ks], cap - ks.length⟩)
      | none => False)
    | _ => False) else False
  | _ => False
def ZJb (c : NCon) (vs : List SVal) (H : Heap) (K : SVal -> Heap -> Prop) : Prop := match c.sem vs with
  | some (pre, C) => pre /\ K (.ptr ⟨H.next, 0, 0, 1⟩ 2) (H.push ⟨false, [.rows Zad 0 C.code], 2⟩)
  | none => False
def Zv4 : List ACon -> Nat -> Option ACon
  | [], _ => none
  | c :: r, f => bif Nat.beq c.f f then some c else Zv4 r f
def Zv2 : List NCon -> Nat -> Option NCon
  | [], _ => none
  | c :: r, f => bif Nat.beq c.f f then some c else Zv2 r f
def Zvy (as : List ACon) (ns : List NCon) (Γ : ZaE) : ZaE := fun f vs H K => match Zv4 as f with
  | some c => ZJj c vs H K
  | none => match Zv2 ns f with
    | some c => ZJb c vs H K
    | none => Γ f vs H K
def ZHL (P : Program) : List ACon -> Prop
  | [] => True
  | c :: r => AOk P c /\ ZHL P r
def ZH9 (P : Program) : List NCon -> Prop
  | [] => True
  | c :: r => NOk P c /\ ZH9 P r
theorem ZqH {P : Program} : ∀ {cs : List ACon} {f : Nat} {c : ACon}, ZHL P cs -> Zv4 cs f = some c -> AOk P c /\ c.f = f
  | [], _, _, _, h => by cases h
  | d :: r, f, c, hs, h => by
    simp only [Zv4] at h
    cases hb : Nat.beq d.f f with
    | true =>
      rw [hb] at h
      have := Nat.eq_of_beq_eq_true hb
      cases h
      exact ⟨hs.1, this⟩
    | false => rw [hb] at h; exact ZqH hs.2 h
theorem ZqG {P : Program} : ∀ {cs : List NCon} {f : Nat} {c : NCon}, ZH9 P cs -> Zv2 cs f = some c -> NOk P c /\ c.f = f
  | [], _, _, _, h => by cases h
  | d :: r, f, c, hs, h => by
    simp only [Zv2] at h
    cases hb : Nat.beq d.f f with
    | true =>
      rw [hb] at h
      have := Nat.eq_of_beq_eq_true hb
      cases h
      exact ⟨hs.1, this⟩
    | false => rw [hb] at h; exact ZqG hs.2 h
theorem Rel.ext {w0 w : World} {fp : Nat -> Nat -> Prop} {ρ : Rho} {H H' : Heap} (h : Rel w0 fp ρ H w) (hf : ∀ i, H'.find i = H.find i) (hn : H'.next = H.next) : Rel w0 fp ρ H' w := by
  have hk : ∀ i e, H'.find i = some e -> H.find i = some e := fun i e he => by rw [<- hf i]; exact he
  exact ⟨h.frame, fun i e he => h.ents i e (hk i e he), fun i e he => by rw [hn]; exact h.oks i e (hk i e he), fun i e he => h.own i e (hk i e he),
    fun i j e e' hne he he' => h.apart i j e e' hne (hk i e he) (hk j e' he'), fun i e he => by rw [hn]; exact h.next i e (hk i e he), fun i e he => h.ro i e (hk i e he), fun i e he => h.mnew i e (hk i e he), h.ab.less hk, h.hid.less hk⟩
theorem Rel.pushAbs {w0 w w' : World} {fp : Nat -> Nat -> Prop} {ρ : Rho} {H : Heap} {b : Nat × Nat} {xs : List (Tup Zad)} {B' : Nat -> Prop} (h : Rel w0 fp ρ H w) (hf : Frame w (fun _ _ => False) w') (hc : CacheAt w' b (Zaq xs) B') (hB' : ∀ y, B' y -> w.heap.size <= y) :
    Rel w0 fp (ρ.up H.next (some b)) (H.push ⟨false, [.rows Zad 0 xs], 2⟩) w' := by
  have hup := Rho.up_lt (ρ := ρ) (id := H.next) (p := some b)
  have hq : ∀ x, x < w.heap.size -> w'.heap[x]? = w.heap[x]? := fun x hx => hf.other x hx fun _ h => h
  have hfind : ∀ i e', (H.push ⟨false, [.rows Zad 0 xs], 2⟩).find i = some e' -> (i = H.next /\ e' = ⟨false, [.rows Zad 0 xs], 2⟩) ∨ (i < H.next /\ i ≠ H.next /\ H.find i = some e') := fun i e' hi => by
    rw [Heap.find_push] at hi
    split at hi
    · rename_i hid; cases hi; exact .inl ⟨hid.symm, rfl⟩
    · rename_i hid; exact .inr ⟨h.next i e' hi, fun h => hid h.symm, hi⟩
  have hwn : ∀ e x o, e = (⟨false, [.rows Zad 0 xs], 2⟩ : Ent) -> Win (ρ.up H.next (some b)) H.next e x o -> x = b.1 := fun e x o _ ⟨base, hb, _⟩ => by
    rw [Rho.up_same] at hb; cases hb; rfl
  have hbn : w.heap.size <= b.1 := hB' b.1 hc.mem
  obtain ⟨B, hB⟩ := h.ab
  refine ⟨h.frame.trans hf fun _ _ hx => hx.elim, fun i e' hi => ?_, fun i e' hi => ?_, fun i e' hi hw x o hx => ?_, fun i j e1 e2 hne hi hj hw x o hx hx' => ?_, fun i e' hi => ?_, fun i e' hi => ?_, fun i e' hi h1 h2 b base hb => ?_, ⟨fun i x => if i = H.next then B' x else B i x, fun i e' hi h1 h2 => ?_⟩, ?_⟩
  · rcases hfind i e' hi with ⟨rfl, rfl⟩ | ⟨hl, hne, hi1⟩
    · exact ⟨fun hn => (by rw [Rho.up_same] at hn; cases hn), fun _ _ _ k v hv => (by rw [Ziu] at hv; simp at hv), fun hw => (by cases hw), fun _ h2 => (by cases h2)⟩
    · refine (h.ents i e' hi1).congr hup hl (h.oks i e' hi1) (fun b o hw => ?_) (fun _ b o hw => ?_) fun b es cl hm => ?_
      · simp only [World.cell?, hq b (h.win_lt hi1 hw)]
      · simp only [World.frozen?, hq b (h.win_lt hi1 hw)]
      · rw [hq b (Array.getElem?_eq_some_iff.1 hm).1]; exact hm
  · rcases hfind i e' hi with ⟨rfl, rfl⟩ | ⟨hl, hne, hi1⟩
    · exact ⟨trivial, trivial⟩
    · exact Zbc hup (by simp [Heap.push]) _ (h.oks i e' hi1)
  · rcases hfind i e' hi with ⟨rfl, rfl⟩ | ⟨hl, hne, hi1⟩
    · cases hw
    · exact h.own i e' hi1 hw x o ((Win.congr (hup i hl)).1 hx)
  · rcases hfind i e1 hi with ⟨rfl, rfl⟩ | ⟨hl, hn1, hi1⟩
    · cases hw
    · have hx1 := (Win.congr (hup i hl)).1 hx
      rcases hfind j e2 hj with ⟨rfl, h2⟩ | ⟨hl2, hn2, hj1⟩
      · have := hwn e2 x o h2 hx'
        have := h.win_lt hi1 hx1
        omega
      · exact h.apart i j e1 e2 hne hi1 hj1 hw x o hx1 ((Win.congr (hup j hl2)).1 hx')
  · rcases hfind i e' hi with ⟨rfl, rfl⟩ | ⟨hl, hne, hi⟩ <;> simp [Heap.push] <;> omega
  · rcases hfind i e' hi with ⟨rfl, rfl⟩ | ⟨hl, hne, hi1⟩
    · exact .inr (.inr ⟨.inr rfl, rfl⟩)
    · exact h.ro i e' hi1
  · rcases hfind i e' hi with ⟨rfl, rfl⟩ | ⟨hl, hne, hi1⟩
    · cases h2
    · rw [hup i hl] at hb; exact h.mnew i e' hi1 h1 h2 b base hb
  · rcases hfind i e' hi with ⟨rfl, rfl⟩ | ⟨hl, hne, hi1⟩
    · simp only [if_true]
      refine ⟨b, xs, Rho.up_same, rfl, hc, fun x hx => Nat.le_trans h.frame.size (hB' x hx), fun j e2 hne hj x o hw hx => ?_, fun j e2 hne hj q1 q2 x hx hx' => ?_⟩
      · rcases hfind j e2 hj with ⟨rfl, _⟩ | ⟨hl2, hn2, hj1⟩
        · exact hne rfl
        · have := h.win_lt hj1 ((Win.congr (hup j hl2)).1 hw)
          have := hB' x hx
          omega
      · rcases hfind j e2 hj with ⟨rfl, _⟩ | ⟨hl2, hn2, hj1⟩
        · exact hne rfl
        · rw [if_neg hn2] at hx'
          obtain ⟨_, _, _, _, k3, _⟩ := hB j e2 hj1 q1 q2
          have := k3.lt x hx'
          have := hB' x hx
          omega
    · simp only [if_neg hne]
      obtain ⟨b2, ys, g1, g2, g3, g4, g5, g6⟩ := hB i e' hi1 h1 h2
      refine ⟨b2, ys, by rw [hup i hl]; exact g1, g2, g3.congr hf.size fun x hx => hq x (g3.lt x hx), g4, fun j e2 hne2 hj x o hw hx => ?_, fun j e2 hne2 hj q1 q2 x hx hx' => ?_⟩
      · rcases hfind j e2 hj with ⟨rfl, h3⟩ | ⟨hl2, hn2, hj1⟩
        · have := hwn e2 x o h3 hw
          have := g3.lt x hx
          omega
        · exact g5 j e2 hne2 hj1 x o ((Win.congr (hup j hl2)).1 hw) hx
      · rcases hfind j e2 hj with ⟨rfl, _⟩ | ⟨hl2, hn2, hj1⟩
        · rw [if_pos rfl] at hx'
          have := hB' x hx'
          have := g3.lt x hx
          omega
        · rw [if_neg hn2] at hx'
          exact g6 j e2 hne2 hj1 q1 q2 x hx hx'
  · refine h.hid.to (fun i e' hi hwr => ?_) (fun x o v hv ⟨i, e', hi, hwr, hw⟩ => ?_) fun x o v hv _ => ?_
    · rcases hfind i e' hi with ⟨rfl, rfl⟩ | ⟨hl, hne, hi1⟩
      · exact .inl rfl
      · exact .inr ⟨i, e', hi1, hwr, fun _ => rfl⟩
    · rcases hfind i e' hi with ⟨rfl, rfl⟩ | ⟨hl, hne, hi1⟩
      · cases hwr
      · exact ⟨i, e', hi1, hwr, (Win.congr (hup i hl)).1 hw⟩
    · have := ZdK hv
      simp only [World.cell?, hq x this]
      exact hv
theorem ZpK {P : Program} {as : List ACon} {ns : List NCon} {Γ : ZaE} (hA : ZHL P as) (hN : ZH9 P ns) (hΓ : ZaT P Γ) : ZaT P (Zvy as ns Γ) := by
  intro f vs H K hev hb w0 fp ρ w hr hok
  unfold Zvy at hev
  split at hev
  · rename_i c hc
    obtain ⟨hcok, rfl⟩ := ZqH hA hc
    unfold ZJj at hev
    split at hev
    · rename_i a sz args
      obtain ⟨h0, hev⟩ := Zao hev
      rw [Bool.and_eq_true] at h0
      have hnh : Zwp H := fun i e hi hwr => ZfP h0.2 hi hwr
      replace h0 := h0.1
      rw [Bool.and_eq_true] at h0
      split at hev
      · rename_i xs he
        obtain ⟨B, hB⟩ := hr.ab
        obtain ⟨b, ys, g1, g2, g3, g4, g5, g6⟩ := hB a.id _ he rfl rfl
        have hxy : xs = ys := by
          simp only [List.cons.injEq, and_true] at g2
          injection g2
        subst hxy
        have hptr : SVal.conc ρ (.ptr a sz) = .pointer (some ⟨b.1, b.2, none⟩) := by
          have h1 := Zat h0.1
          have h2 := Zat h0.2
          simp [SVal.conc, SAddr.conc, g1, h1, h2]
        have hargs : (ZaJ ρ (.ptr a sz :: args)).toArray = (.pointer (some ⟨b.1, b.2, none⟩) :: ZaJ ρ args).toArray := by
          simp only [ZaJ, hptr]
        rw [hargs]
        split at hev
        · rename_i pre r C' hs
          obtain ⟨hro, hcall⟩ := hcok w b _ _ args _ _ g3 hs hev.1 ρ
          refine hcall.mono ?_
          rintro e w' ⟨B', rfl, k1, k2, k3⟩
          refine ⟨_, rfl, ρ, r, _, hev.2, rfl, hro _ _, fun _ _ => rfl, Nat.le_refl _, ?_⟩
          exact (hr.setAbs (C' := C') hB he g1 k3 k1 k2 hnh).1
        · rename_i pre r hs
          obtain ⟨hro, hcall⟩ := hcok w b _ _ args _ _ g3 hs hev.1 ρ
          refine hcall.mono ?_
          rintro e w' ⟨B', rfl, k1, k2, k3⟩
          refine ⟨_, rfl, ρ, r, _, hev.2, rfl, hro _ _, fun _ _ => rfl, Nat.le_refl _, ?_⟩
          exact (hr.keepAbs hB he g1 k3 k1 k2 hnh).1
        · rename_i pre ks hs
          have hcall := hcok w b _ _ args _ _ g3 hs hev.1 ρ
          refine hcall.mono ?_
          rintro e w' ⟨B', p, cap, rfl, k1, k2, k3, k4, k5, k6, k7⟩
          obtain ⟨hr2, hB2⟩ := hr.keepAbs hB he g1 k3 k1 (fun y hy => .inl (k2 y hy)) hnh
          refine ⟨_, rfl, ρ.up H.next p, _, _, hev.2 cap k4, ?_, ?_, Rho.up_lt, by simp [Heap.push], ?_⟩
          · simp [SVal.conc, SAddr.conc, Rho.up_same]
          · simp only [SVal.ok, Rho.up_same, Heap.push]
            exact ⟨by omega, fun hn => by obtain ⟨q1, q2⟩ := k5 hn; subst q1; exact ⟨rfl, q2⟩⟩
          · refine hr2.pushFree hB2 rfl (k6 _ _ Rho.up_same) ⟨trivial, trivial⟩ (fun x o hw => ?_) hnh
            obtain ⟨base, q1, q2, q3⟩ := hw
            rw [Rho.up_same] at q1
            have hsz : (⟨true, [.ints .i64 ks.length ks], cap - ks.length⟩ : Ent).size = cap := by simp [Ent.size, Zam, Chunk.len]; omega
            rw [hsz] at q3
            have hx := k7 x o base q1 q2 q3
            refine ⟨Nat.le_trans hr.frame.size hx, fun i e' hi hw' => ?_, fun i e' hi m1 m2 hB' => ?_⟩
            · have := hr.win_lt hi hw'; omega
            · by_cases hid : i = a.id
              · subst hid
                rw [if_pos rfl] at hB'
                have := g3.lt x (k2 x hB')
                omega
              · rw [if_neg hid] at hB'
                obtain ⟨_, _, _, _, q5, _⟩ := hB i e' hi m1 m2
                have := q5.lt x hB'
                omega
        · exact hev.elim
      · exact hev.elim
    · exact hev.elim
  · split at hev
    · rename_i c hc
      obtain ⟨hcok, rfl⟩ := ZqG hN hc
      unfold ZJb at hev
      split at hev
      · rename_i pre C hs
        refine (hcok w vs _ _ hs hev.1 ρ).mono ?_
        rintro e w' ⟨b, B', rfl, k1, k2, k3⟩
        refine ⟨_, rfl, ρ.up H.next (some b), _, _, hev.2, ?_, ?_, Rho.up_lt, by simp [Heap.push], hr.pushAbs k3 (by rw [ZbG]; exact k1) k2⟩
        · simp [SVal.conc, SAddr.conc, Rho.up_same]
        · simp [SVal.ok, Rho.up_same, Heap.push]
      · exact hev.elim
    · exact hΓ f vs H K hev hb w0 fp ρ w hr hok
end Go.Sx
