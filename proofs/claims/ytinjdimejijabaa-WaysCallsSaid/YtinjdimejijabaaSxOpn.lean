/- Part of the proof: SxOpn. -/
import Derived.Test.YtinjdimejijabaaSxAbs
import Derived.Test.YtinjdimejijabaaSxWays
set_option linter.unusedVariables false
set_option linter.unusedSimpArgs false
namespace Go.Sx
def opn (ways : Int) (hs : List Hdr) (s : Nat) (r : List (Tup Zaa)) (c : Nat) : Heap :=
  ⟨3, [(0, some ⟨true, [.rows Zaa r.length r], (c - r.length) * 2⟩), (1, some ⟨true, [.rows Zab s (hs.take s), .one (.slice ⟨0, 0, 0, 2⟩ r.length c), .rows Zab (hs.length - s - 1) (hs.drop (s + 1))], 0⟩),
    (2, some ⟨true, [.one (.int .i64 ways), .one (.slice ⟨1, 0, 0, 1⟩ hs.length hs.length)], 0⟩)]⟩
def Zfz (h : Hdr) (bs b : Nat × Nat) : Rho := fun i => if i = 0 then h.1 else if i = 1 then some bs else some b
theorem opn_find {ways : Int} {hs : List Hdr} {s : Nat} {r : List (Tup Zaa)} {c i : Nat} {e : Ent} (h : (opn ways hs s r c).find i = some e) :
    (i = 0 /\ e = ⟨true, [.rows Zaa r.length r], (c - r.length) * 2⟩) ∨ (i = 1 /\ e = ⟨true, [.rows Zab s (hs.take s), .one (.slice ⟨0, 0, 0, 2⟩ r.length c), .rows Zab (hs.length - s - 1) (hs.drop (s + 1))], 0⟩) ∨
    (i = 2 /\ e = ⟨true, [.one (.int .i64 ways), .one (.slice ⟨1, 0, 0, 1⟩ hs.length hs.length)], 0⟩) := by
  unfold opn Heap.find at h
  simp only [ZaH] at h
  split at h
  · rename_i hi; cases h; exact .inl ⟨hi.symm, rfl⟩
  · split at h
    · rename_i hi; cases h; exact .inr (.inl ⟨hi.symm, rfl⟩)
    · split at h
      · rename_i hi; cases h; exact .inr (.inr ⟨hi.symm, rfl⟩)
      · simp [Zc7] at h
theorem Zi1 {ρ : Rho} {w : World} {id : Nat} {e : Ent} {b o : Nat} (hw : e.wr = true) (hρ : ρ id = some (b, o)) (hO : Own w b o e.size (Zai ρ e.cs)) : EntOk ρ w id e := by
  refine ⟨fun hn => (by rw [hρ] at hn; cases hn), fun b' base hb i v hv => ?_, fun _ b' base hb i hi => ?_, fun h => (by rw [hw] at h; cases h)⟩
  · rw [hρ] at hb
    cases hb
    have hi := (List.getElem?_eq_some_iff.1 hv).1
    obtain ⟨⟨u, hu, hv'⟩, _⟩ := hO.2.2 i (Nat.lt_of_lt_of_le hi hO.1)
    rw [hu, hv' v hv]
  · rw [hρ] at hb
    cases hb
    obtain ⟨⟨u, hu, _⟩, hf⟩ := hO.2.2 i hi
    exact ⟨⟨u, hu⟩, hf⟩
theorem ZeQ {ρ : Rho} {w : World} {id : Nat} {e : Ent} {b o : Nat} (hw : e.wr = true) (hρ : ρ id = some (b, o)) (hE : EntOk ρ w id e) (hlt : b < w.heap.size) : Own w b o e.size (Zai ρ e.cs) := by
  refine ⟨by rw [Zar]; simp [Ent.size], hlt, fun i hi => ?_⟩
  obtain ⟨⟨v, hv⟩, hf⟩ := hE.own hw b o hρ i hi
  refine ⟨⟨v, hv, fun u hu => ?_⟩, hf⟩
  have := hE.cells b o hρ i u hu
  rw [hv] at this
  exact (Option.some.inj this).symm
theorem Zh2 {n : Nat} {xs : List (Tup Zab)} (h : xs.length = n) : Zal Zab n xs = xs.map ZbO := by
  rw [Za8 h]
  induction xs generalizing n with
  | nil => rfl
  | cons x r ih => rw [List.flatMap_cons, List.map_cons, ih rfl]; rfl
theorem ZmW {hs : List Hdr} {s : Nat} {hd : Hdr} {ρ : Rho} {j n c : Nat} {hd' : Hdr} (hhd : hs[s]? = some hd) (h' : ZbO hd' = (SVal.slice ⟨j, 0, 0, 2⟩ n c).conc ρ) :
    Zai ρ [.rows Zab s (hs.take s), .one (.slice ⟨j, 0, 0, 2⟩ n c), .rows Zab (hs.length - s - 1) (hs.drop (s + 1))] = (hs.set s hd').map ZbO := by
  have hl := (List.getElem?_eq_some_iff.1 hhd).1
  simp only [Zai, Chunk.conc]
  rw [Zh2 (by simp; omega), Zh2 (by simp; omega), <- h', List.append_nil, List.set_eq_take_append_cons_drop, if_pos hl, List.map_append, List.map_cons]
  rfl
variable {w w' : World} {b bs : Nat × Nat} {C : CacheV} {B : Nat -> Prop} {hs : List Hdr} {s : Nat} {hd : Hdr} {r : List (Int × Int)}
theorem ZuJ (hr : Zwo w hd r) : ZbO hd = (SVal.slice ⟨0, 0, 0, 2⟩ r.length hd.2.2).conc (Zfz hd bs b) := by
  rcases hr with ⟨rfl, rfl⟩ | ⟨x, o, c, rfl, _, _⟩
  · rfl
  · simp [ZbO, SVal.conc, SAddr.conc, Zfz]
theorem opn_win {ways : Int} {c i x o : Nat} {e : Ent} (he : (opn ways hs s r c).find i = some e) (hw : Win (Zfz hd bs b) i e x o) : (i = 0 /\ ZcH hd = some x) ∨ (i = 1 /\ x = bs.1) ∨ (i = 2 /\ x = b.1) := by
  obtain ⟨base, hb, _, _⟩ := hw
  rcases opn_find he with ⟨rfl, _⟩ | ⟨rfl, _⟩ | ⟨rfl, _⟩
  · left
    refine ⟨rfl, ?_⟩
    unfold Zfz at hb
    simp only [if_true] at hb
    unfold ZcH
    rw [hb]; rfl
  · right; left
    refine ⟨rfl, ?_⟩
    simp [Zfz] at hb
    rw [hb]
  · right; right
    refine ⟨rfl, ?_⟩
    simp [Zfz] at hb
    rw [hb]
theorem CacheAtH.rowAt (h : CacheAtH w b C B bs hs) (hhd : hs[s]? = some hd) (hr : C.rows[s]? = some r) : Zwo w hd r := h.row s hd r hhd hr
theorem CacheAtH.opened (h : CacheAtH w b C B bs hs) (hhd : hs[s]? = some hd) (hr : C.rows[s]? = some r) :
    Rel w (Zj7 (Zfz hd bs b) (opn C.ways hs s r hd.2.2)) (Zfz hd bs b) (opn C.ways hs s r hd.2.2) w := by
  have hrow := h.rowAt hhd hr
  have hle : r.length <= hd.2.2 := by
    rcases hrow with ⟨rfl, rfl⟩ | ⟨x, o, c, rfl, h1, _⟩
    · exact Nat.le_refl _
    · exact h1
  have hl := (List.getElem?_eq_some_iff.1 hhd).1
  have hap := h.apart
  refine ⟨Frame.refl _ _, fun i e he => ?_, fun i e he => ?_, fun i e he hwr x o hw => .inl ⟨i, e, he, hwr, hw⟩, fun i j e e' hne he he' hwr x o hw hw' => ?_, fun i e he => ?_, fun i e he => ?_, fun i e he h1 _ => ?_, AbsR.none fun i e he h1 _ => ?_, HidR.none fun i e he h1 => ?_⟩
  · rcases opn_find he with ⟨rfl, rfl⟩ | ⟨rfl, rfl⟩ | ⟨rfl, rfl⟩
    · rcases hrow with ⟨rfl, rfl⟩ | ⟨x, o, c, rfl, h1, h2⟩
      · refine ⟨fun _ => rfl, fun b base hb => by simp [Zfz] at hb, fun _ b base hb => by simp [Zfz] at hb, fun h => by cases h⟩
      · refine Zi1 (b := x) (o := o) rfl rfl ?_
        have : (⟨true, [.rows Zaa r.length r], (c - r.length) * 2⟩ : Ent).size = c * 2 := by
          simp [Ent.size, Zam, Chunk.len, Zah, Leaf.len]; omega
        simp only at h1 ⊢
        rw [this]
        simpa [Zai, Chunk.conc] using h2
    · refine Zi1 (b := bs.1) (o := bs.2) rfl rfl ?_
      have h3 := ZmW (ρ := Zfz hd bs b) (j := 0) (n := r.length) (c := hd.2.2) (hd' := hd) hhd (ZuJ hrow)
      have h4 : hs.set s hd = hs := by
        obtain ⟨_, rfl⟩ := List.getElem?_eq_some_iff.1 hhd
        exact List.set_getElem_self _
      rw [h4] at h3
      simp only [Ent.size]
      rw [h3, <- Zar (Zfz hd bs b), h3, List.length_map]
      exact h.hdr
    · refine Zi1 (b := b.1) (o := b.2) rfl rfl ?_
      exact h.top
  · rcases opn_find he with ⟨rfl, rfl⟩ | ⟨rfl, rfl⟩ | ⟨rfl, rfl⟩
    · exact ⟨trivial, trivial⟩
    · refine ⟨trivial, ⟨⟨by show 0 < 3; decide, fun hn => ?_⟩, trivial, trivial⟩⟩
      rcases hrow with ⟨rfl, rfl⟩ | ⟨x, o, c, rfl, h1, h2⟩
      · exact ⟨rfl, rfl⟩
      · simp [Zfz] at hn
    · exact ⟨trivial, ⟨by show 1 < 3; decide, fun hn => by simp [Zfz] at hn⟩, trivial⟩
  · have h12 : ∀ e1 e2 x o, (opn C.ways hs s r hd.2.2).find 1 = some e1 -> (opn C.ways hs s r hd.2.2).find 2 = some e2 -> Win (Zfz hd bs b) 1 e1 x o -> Win (Zfz hd bs b) 2 e2 x o -> False := fun e1 e2 x o q1 q2 ⟨o1, k1, k2, k3⟩ ⟨o2, m1, m2, m3⟩ => by
      have : Zfz hd bs b 1 = some bs := rfl
      rw [this] at k1
      have k4 := Option.some.inj k1
      have : Zfz hd bs b 2 = some b := rfl
      rw [this] at m1
      have m4 := Option.some.inj m1
      rcases opn_find q1 with ⟨h, _⟩ | ⟨_, rfl⟩ | ⟨h, _⟩ <;> try cases h
      rcases opn_find q2 with ⟨h, _⟩ | ⟨h, _⟩ | ⟨_, rfl⟩ <;> try cases h
      have e1 : (⟨true, [.rows Zab s (hs.take s), .one (.slice ⟨0, 0, 0, 2⟩ r.length hd.2.2), .rows Zab (hs.length - s - 1) (hs.drop (s + 1))], 0⟩ : Ent).size = hs.length := by
        simp [Ent.size, Zam, Chunk.len, Zah, Leaf.len]; omega
      have e2 : (⟨true, [.one (.int .i64 C.ways), .one (.slice ⟨1, 0, 0, 1⟩ hs.length hs.length)], 0⟩ : Ent).size = 2 := rfl
      rw [e1] at k3
      rw [e2] at m3
      have hb1 : b.1 = x := by rw [m4]
      have hb2 : b.2 = o2 := by rw [m4]
      have hb3 : bs.1 = x := by rw [k4]
      have hb4 : bs.2 = o1 := by rw [k4]
      exact hap.1 (o - b.2) (o - o1) (by omega) (by omega) (hb1.trans hb3.symm) (by omega)
    have hb2 : ∀ x, ZcH hd = some x -> x ≠ b.1 /\ x ≠ bs.1 := fun x hx => ⟨(hap.2 s hd x hhd hx).1, (hap.2 s hd x hhd hx).2.1⟩
    rcases opn_win he hw with ⟨rfl, h1⟩ | ⟨rfl, rfl⟩ | ⟨rfl, rfl⟩ <;> rcases opn_win he' hw' with ⟨rfl, h2⟩ | ⟨rfl, h2⟩ | ⟨rfl, h2⟩
    · exact hne rfl
    · exact (hb2 x h1).2 h2
    · exact (hb2 x h1).1 h2
    · exact (hb2 _ h2).2 rfl
    · exact hne rfl
    · exact h12 _ _ _ _ he he' hw hw'
    · exact (hb2 _ h2).1 rfl
    · exact h12 _ _ _ _ he' he hw' hw
    · exact hne rfl
  · rcases opn_find he with ⟨rfl, rfl⟩ | ⟨rfl, rfl⟩ | ⟨rfl, rfl⟩ <;> (show _ < 3) <;> decide
  · rcases opn_find he with ⟨rfl, rfl⟩ | ⟨rfl, rfl⟩ | ⟨rfl, rfl⟩ <;> exact .inl rfl
  · rcases opn_find he with ⟨rfl, rfl⟩ | ⟨rfl, rfl⟩ | ⟨rfl, rfl⟩ <;> cases h1
  · rcases opn_find he with ⟨rfl, rfl⟩ | ⟨rfl, rfl⟩ | ⟨rfl, rfl⟩ <;> cases h1
  · rcases opn_find he with ⟨rfl, rfl⟩ | ⟨rfl, rfl⟩ | ⟨rfl, rfl⟩ <;> cases h1
theorem CacheAtH.shut {ρ' : Rho} {H' : Heap} {j n' c' m x : Nat} {ys : List (Tup Zaa)} (h : CacheAtH w b C B bs hs) (hhd : hs[s]? = some hd) (hr : C.rows[s]? = some r)
    (hrel : Rel w (Zj7 (Zfz hd bs b) (opn C.ways hs s r hd.2.2)) ρ' H' w') (hag : ∀ i, i < 3 -> ρ' i = Zfz hd bs b i)
    (h1 : H'.find 1 = some ⟨true, [.rows Zab s (hs.take s), .one (.slice ⟨j, 0, 0, 2⟩ n' c'), .rows Zab (hs.length - s - 1) (hs.drop (s + 1))], 0⟩)
    (h2 : H'.find 2 = some ⟨true, [.one (.int .i64 C.ways), .one (.slice ⟨1, 0, 0, 1⟩ hs.length hs.length)], 0⟩) (hj : H'.find j = some ⟨true, [.rows Zaa m ys], x⟩) (hj0 : j = 0 ∨ 3 <= j /\ 0 < c')
    (hn : n' <= m) (hm : m * 2 + x = c' * 2) (hyl : n' <= ys.length) :
    ∃ B', CacheAt w' b ⟨C.ways, C.rows.set s (ys.take n')⟩ B' /\ (∀ y, B' y ↔ y = b.1 ∨ y = bs.1 ∨ ∃ (i : Nat) (h : Hdr), (hs.set s (ρ' j, n', c'))[i]? = some h /\ ZcH h = some y) /\ ∀ y, B' y -> B y ∨ w.heap.size <= y := by
  have hl := (List.getElem?_eq_some_iff.1 hhd).1
  have hap := h.apart
  have hr1 : ρ' 1 = some bs := by rw [hag 1 (by decide)]; rfl
  have hr2 : ρ' 2 = some b := by rw [hag 2 (by decide)]; rfl
  have hr0 : ρ' 0 = hd.1 := by rw [hag 0 (by decide)]; rfl
  have hsz := hrel.frame.size
  have e1 := hrel.ents 1 _ h1
  have e2 := hrel.ents 2 _ h2
  have ej := hrel.ents j _ hj
  have hlt : ∀ y, B y -> y < w.heap.size := (show CacheAt w b C B from ⟨bs, hs, h⟩).lt
  have hBb : B b.1 := (h.blk b.1).2 (.inl rfl)
  have hBs : B bs.1 := (h.blk bs.1).2 (.inr (.inl rfl))
  have hpos := h.pos
  -- the window of the told row
  have hnj : ρ' j = none -> n' = 0 /\ c' = 0 := fun hnn => by
    have := hrel.oks 1 _ h1
    simp only [ZaV, Chunk.ok, SVal.ok] at this
    exact this.2.1.2 hnn
  have hblk : ∀ y o, ρ' j = some (y, o) -> ZcH hd = some y ∨ w.heap.size <= y := fun y o hy => by
    rcases hj0 with rfl | ⟨hj3, hc⟩
    · rw [hr0] at hy
      exact .inl (by unfold ZcH; rw [hy]; rfl)
    · have hw0 : Win ρ' j ⟨true, [.rows Zaa m ys], x⟩ y o := ⟨o, hy, Nat.le_refl _, by simp [Ent.size, Zam, Chunk.len, Zah, Leaf.len]; omega⟩
      rcases hrel.own j _ hj rfl y o hw0 with hf | hge
      · left
        obtain ⟨i, e, he, _, hw⟩ := hf
        rcases opn_find he with ⟨rfl, he'⟩ | ⟨rfl, he'⟩ | ⟨rfl, he'⟩
        · rcases opn_win he hw with ⟨_, h3⟩ | ⟨h3, _⟩ | ⟨h3, _⟩
          · exact h3
          · cases h3
          · cases h3
        · exfalso
          refine hrel.apart j 1 _ _ (by omega) hj h1 rfl y o hw0 ?_
          obtain ⟨base, k1, k2, k3⟩ := hw
          refine ⟨base, by rw [hag 1 (by decide)]; exact k1, k2, ?_⟩
          subst he'
          simpa [Ent.size, Zam, Chunk.len] using k3
        · exfalso
          refine hrel.apart j 2 _ _ (by omega) hj h2 rfl y o hw0 ?_
          obtain ⟨base, k1, k2, k3⟩ := hw
          refine ⟨base, by rw [hag 2 (by decide)]; exact k1, k2, ?_⟩
          subst he'
          simpa [Ent.size, Zam, Chunk.len] using k3
      · exact .inr hge
  have hbl : ∀ y o, ρ' j = some (y, o) -> y < w'.heap.size := fun y o hy => by
    rcases hj0 with rfl | ⟨hj3, hc⟩
    · rcases hblk y o hy with h3 | h3
      · have := hlt y ((h.blk y).2 (.inr (.inr ⟨s, hd, hhd, h3⟩)))
        omega
      · rw [hr0] at hy
        have := hlt y ((h.blk y).2 (.inr (.inr ⟨s, hd, hhd, by unfold ZcH; rw [hy]; rfl⟩)))
        omega
    · exact hrel.win_lt hj ⟨o, hy, Nat.le_refl _, by simp [Ent.size, Zam, Chunk.len, Zah, Leaf.len]; omega⟩
  have hset : ∀ (i : Nat) (h' : Hdr), (hs.set s (ρ' j, n', c'))[i]? = some h' -> (i = s /\ h' = (ρ' j, n', c')) ∨ (i ≠ s /\ hs[i]? = some h') := fun i h' hi => by
    by_cases his : i = s
    · subst his
      rw [List.getElem?_set_self hl] at hi
      exact .inl ⟨rfl, (Option.some.inj hi).symm⟩
    · rw [List.getElem?_set_ne (Ne.symm his)] at hi
      exact .inr ⟨his, hi⟩
  -- other rows stay
  have hoth : ∀ (i : Nat) (h' : Hdr) y, i ≠ s -> hs[i]? = some h' -> ZcH h' = some y -> w'.heap[y]? = w.heap[y]? := fun i h' y his hi hy => by
    have hB : B y := (h.blk y).2 (.inr (.inr ⟨i, h', hi, hy⟩))
    refine hrel.frame.other y (hlt y hB) fun o ⟨k, e, he, _, hw⟩ => ?_
    have := hap.2 i h' y hi hy
    rcases opn_win he hw with ⟨_, h3⟩ | ⟨_, h3⟩ | ⟨_, h3⟩
    · exact this.2.2 s hd (Ne.symm his) hhd h3
    · exact this.2.1 h3
    · exact this.1 h3
  refine ⟨fun y => y = b.1 ∨ y = bs.1 ∨ ∃ (i : Nat) (h : Hdr), (hs.set s (ρ' j, n', c'))[i]? = some h /\ ZcH h = some y, ⟨bs, hs.set s (ρ' j, n', c'), ?_, ?_, ?_, ?_, ?_, ?_, fun _ => Iff.rfl⟩, fun _ => Iff.rfl, fun y hy => ?_⟩
  · rw [List.length_set]; exact hpos
  · rw [List.length_set, List.length_set]; exact h.len
  · have h3 := ZeQ rfl hr2 e2 (by have := hlt b.1 hBb; omega)
    rw [List.length_set]
    simpa [Ent.size, Zam, Chunk.len, Zai, Chunk.conc, SVal.conc, SAddr.conc, hr1] using h3
  · have h3 := ZeQ rfl hr1 e1 (by have := hlt bs.1 hBs; omega)
    rw [ZmW (hd' := (ρ' j, n', c')) hhd (by simp [ZbO, SVal.conc, SAddr.conc])] at h3
    rw [List.length_set]
    have h4 : (⟨true, [.rows Zab s (hs.take s), .one (.slice ⟨j, 0, 0, 2⟩ n' c'), .rows Zab (hs.length - s - 1) (hs.drop (s + 1))], 0⟩ : Ent).size = hs.length := by
      simp [Ent.size, Zam, Chunk.len, Zah, Leaf.len]; omega
    rwa [h4] at h3
  · intro i h' r' hi hri
    rcases hset i h' hi with ⟨rfl, rfl⟩ | ⟨his, hi'⟩
    · rw [List.getElem?_set_self (by have := h.len; omega)] at hri
      cases hri
      cases hp : ρ' j with
      | none =>
        obtain ⟨rfl, rfl⟩ := hnj hp
        exact .inl ⟨rfl, by simp⟩
      | some p =>
        obtain ⟨y, o⟩ := p
        refine .inr ⟨y, o, c', by rw [List.length_take, Nat.min_eq_left hyl], by rw [List.length_take]; omega, ?_⟩
        have h3 := ZeQ rfl hp ej (hbl y o hp)
        have h4 : (⟨true, [.rows Zaa m ys], x⟩ : Ent).size = c' * 2 := by
          simp [Ent.size, Zam, Chunk.len, Zah, Leaf.len]; omega
        rw [h4] at h3
        rw [List.length_take, Nat.min_eq_left hyl, Zgk Zaa ys hn]
        refine ⟨by rw [List.length_take, Zae]; simp [Zah, Leaf.len]; omega, h3.2.1, fun k hk => ?_⟩
        obtain ⟨⟨v, hv, hv'⟩, hf⟩ := h3.2.2 k hk
        refine ⟨⟨v, hv, fun u hu => hv' u ?_⟩, hf⟩
        simp only [Zai, Chunk.conc, List.append_nil]
        have hlt' := (List.getElem?_eq_some_iff.1 hu).1
        rw [List.length_take] at hlt'
        rwa [List.getElem?_take_of_lt (by omega)] at hu
    · rw [List.getElem?_set_ne (Ne.symm his)] at hri
      rcases h.row i h' r' hi' hri with h3 | ⟨y, o, c, h3, h4, h5⟩
      · exact .inl h3
      · exact .inr ⟨y, o, c, h3, h4, h5.congr hsz (hoth i h' y his hi' (by rw [h3]; rfl))⟩
  · refine ⟨by rw [List.length_set]; exact hap.1, fun i h' y hi hy => ?_⟩
    have key : ∀ y o, ρ' j = some (y, o) -> y ≠ b.1 /\ y ≠ bs.1 /\ ∀ (k : Nat) h', k ≠ s -> hs[k]? = some h' -> ZcH h' ≠ some y := fun y o hp => by
      rcases hblk y o hp with h3 | h3
      · exact hap.2 s hd y hhd h3
      · refine ⟨fun e => ?_, fun e => ?_, fun k h' _ hk hy => ?_⟩
        · subst e; have := hlt _ hBb; omega
        · subst e; have := hlt _ hBs; omega
        · have := hlt y ((h.blk y).2 (.inr (.inr ⟨k, h', hk, hy⟩))); omega
    rcases hset i h' hi with ⟨rfl, rfl⟩ | ⟨his, hi'⟩
    · simp only [ZcH, Option.map_eq_some_iff] at hy
      obtain ⟨⟨y2, o⟩, hp, rfl⟩ := hy
      obtain ⟨k1, k2, k3⟩ := key y2 o hp
      exact ⟨k1, k2, fun k h' hk hk' => by
        rcases hset k h' hk' with ⟨h3, _⟩ | ⟨h3, h4⟩
        · exact absurd h3 hk
        · exact k3 k h' h3 h4⟩
    · obtain ⟨k1, k2, k3⟩ := hap.2 i h' y hi' hy
      refine ⟨k1, k2, fun k h2' hk hk' => ?_⟩
      rcases hset k h2' hk' with ⟨rfl, rfl⟩ | ⟨h3, h4⟩
      · intro hy2
        simp only [ZcH, Option.map_eq_some_iff] at hy2
        obtain ⟨⟨y2, o⟩, hp, rfl⟩ := hy2
        exact (key y2 o hp).2.2 i h' his hi' hy
      · exact k3 k h2' hk h4
  · rcases hy with rfl | rfl | ⟨i, h', hi, hy⟩
    · exact .inl hBb
    · exact .inl hBs
    · rcases hset i h' hi with ⟨rfl, rfl⟩ | ⟨his, hi'⟩
      · simp only [ZcH, Option.map_eq_some_iff] at hy
        obtain ⟨⟨y2, o⟩, hp, rfl⟩ := hy
        rcases hblk y2 o hp with h3 | h3
        · exact .inl ((h.blk _).2 (.inr (.inr ⟨i, hd, hhd, h3⟩)))
        · exact .inr h3
      · exact .inl ((h.blk y).2 (.inr (.inr ⟨i, h', hi', hy⟩)))
end Go.Sx
