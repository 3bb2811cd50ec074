/- Part of the proof: SxOpnM. -/
import Derived.Test.YtinjdimejijabaaSxOpn
import Derived.Test.YtinjdimejijabaaSxCacheV
set_option linter.unusedVariables false
set_option linter.unusedSimpArgs false
namespace Go.Sx
section
variable {P : Program} {f : FuncId} {S : ZrR} {w : World} {b bs : Nat × Nat} {C : CacheV} {B : Nat -> Prop} {hs : List Hdr} {s : Nat} {hd : Hdr} {r : List (Int × Int)}
def ZeD (B : Nat -> Prop) (w : World) (b : Nat × Nat) (v : Value) (C' : CacheV) (e : Ending) (w' : World) : Prop :=
  ∃ B', e = .returned v /\ CacheAt w' b C' B' /\ (∀ y, B' y -> B y ∨ w.heap.size <= y) /\ Frame w (ZHa B w) w'
def Zii (B : Nat -> Prop) (w : World) (b : Nat × Nat) (ks : List Int) (C' : CacheV) (e : Ending) (w' : World) : Prop :=
  ∃ B' p cap, e = .returned (.slice (p.map fun p => ⟨p.1, p.2, none⟩) ks.length cap) /\ CacheAt w' b C' B' /\ (∀ y, B' y -> B y) /\ Frame w (ZHa B w) w' /\ ks.length <= cap /\ (p = none -> ks = [] /\ cap = 0) /\
    (∀ (ρ : Rho) id, ρ id = p -> EntOk ρ w' id ⟨true, [.ints .i64 ks.length ks], cap - ks.length⟩) /\ ∀ y o base, p = some (y, base) -> base <= o -> o < base + cap -> w.heap.size <= y
def OutC (C : CacheV) (hs : List Hdr) (s : Nat) (C' : CacheV) (H' : Heap) : Prop :=
  ∃ (j n' c' m x : Nat) (ys : List (Tup Zaa)), H'.find 1 = some ⟨true, [.rows Zab s (hs.take s), .one (.slice ⟨j, 0, 0, 2⟩ n' c'), .rows Zab (hs.length - s - 1) (hs.drop (s + 1))], 0⟩ /\
    H'.find 2 = some ⟨true, [.one (.int .i64 C.ways), .one (.slice ⟨1, 0, 0, 1⟩ hs.length hs.length)], 0⟩ /\ H'.find j = some ⟨true, [.rows Zaa m ys], x⟩ /\ (j = 0 ∨ 3 <= j /\ 0 < c') /\ n' <= m /\ m * 2 + x = c' * 2 /\ n' <= ys.length /\
    C' = ⟨C.ways, C.rows.set s (ys.take n')⟩
theorem ZG9 (h : CacheAtH w b C B bs hs) (hhd : hs[s]? = some hd) (hr : C.rows[s]? = some r) : ∀ x o, Zj7 (Zfz hd bs b) (opn C.ways hs s r hd.2.2) x o -> ZHa B w x o := by
  rintro x o ⟨i, e, he, hwr, hw⟩
  refine ⟨?_, ?_⟩
  · rcases opn_win he hw with ⟨_, h1⟩ | ⟨_, rfl⟩ | ⟨_, rfl⟩
    · exact (h.blk x).2 (.inr (.inr ⟨s, hd, hhd, h1⟩))
    · exact (h.blk _).2 (.inr (.inl rfl))
    · exact (h.blk _).2 (.inl rfl)
  · obtain ⟨base, hb, h1, h2⟩ := hw
    have := ((h.opened hhd hr).ents i e he).own hwr x base hb (o - base) (by omega)
    rw [show base + (o - base) = o by omega] at this
    exact this.1
theorem Frame.mono {w w' : World} {fp fc : Nat -> Nat -> Prop} (h : Frame w fp w') (hf : ∀ x o, fp x o -> fc x o) : Frame w fc w' :=
  ⟨h.os, h.tape, h.output, h.size, fun b hb hn => h.other b hb fun o ho => hn o (hf b o ho), fun b hb c t fz hc => by
    obtain ⟨c', h1, h2, h3⟩ := h.cells b hb c t fz hc
    exact ⟨c', h1, h2, fun o ho => h3 o fun h' => ho (hf b o h')⟩⟩
theorem OutC.shut {v0 : Value} {C' : CacheV} {ρ' : Rho} {H' : Heap} {w' : World} (h : CacheAtH w b C B bs hs) (hhd : hs[s]? = some hd) (hr : C.rows[s]? = some r) (hag : ∀ i, i < 3 -> ρ' i = Zfz hd bs b i)
    (hrel : Rel w (Zj7 (Zfz hd bs b) (opn C.ways hs s r hd.2.2)) ρ' H' w') (ho : OutC C hs s C' H') : ZeD B w b v0 C' (.returned v0) w' := by
  obtain ⟨j, n', c', m, x, ys, h1, h2, h3, h4, h5, h6, h7, rfl⟩ := ho
  obtain ⟨B', g1, _, g3⟩ := h.shut hhd hr hrel hag h1 h2 h3 h4 h5 h6 h7
  exact ⟨B', rfl, g1, g3, hrel.frame.mono (ZG9 h hhd hr)⟩
theorem ZwL (hS : Sound P f S) (h : CacheAtH w b C B bs hs) (hhd : hs[s]? = some hd) (hr : C.rows[s]? = some r) {args : List SVal} (hok : okL (Zfz hd bs b) 3 args) {Q : SVal -> Heap -> Prop}
    (hspec : S (.ptr ⟨2, 0, 0, 1⟩ 2 :: args) (opn C.ways hs s r hd.2.2) Q) : Calls P f (.pointer (some ⟨b.1, b.2, none⟩) :: ZaJ (Zfz hd bs b) args).toArray w fun e w' =>
      ∃ ρ' u H', Q u H' /\ e = .returned (u.conc ρ') /\ u.ok ρ' H'.next /\ (∀ i, i < 3 -> ρ' i = Zfz hd bs b i) /\ Rel w (Zj7 (Zfz hd bs b) (opn C.ways hs s r hd.2.2)) ρ' H' w' := by
  have := hS _ _ _ hspec (Zfz hd bs b) w (h.opened hhd hr) ⟨⟨by show 2 < 3; decide, by simp [Zfz]⟩, hok⟩
  refine this.mono ?_
  rintro e w' ⟨ρ', u, H', h1, h2, h3, h4, _, h5⟩
  exact ⟨ρ', u, H', h1, h2, h3, h4, h5⟩
theorem Zju (hS : Sound P f S) (h : CacheAtH w b C B bs hs) (hhd : hs[s]? = some hd) (hr : C.rows[s]? = some r) {args : List SVal} (hok : okL (Zfz hd bs b) 3 args) {r0 : SVal} {v0 : Value} {C' : CacheV} (hv : ∀ ρ, r0.conc ρ = v0)
    (hspec : S (.ptr ⟨2, 0, 0, 1⟩ 2 :: args) (opn C.ways hs s r hd.2.2) fun u H' => u = r0 /\ OutC C hs s C' H') :
    Calls P f (.pointer (some ⟨b.1, b.2, none⟩) :: ZaJ (Zfz hd bs b) args).toArray w (ZeD B w b v0 C') := by
  refine (ZwL hS h hhd hr hok hspec).mono ?_
  rintro e w' ⟨ρ', u, H', ⟨rfl, ho⟩, rfl, _, hag, hrel⟩
  rw [hv]
  exact ho.shut h hhd hr hag hrel
theorem Zwl (hS : Sound P f S) (h : CacheAtH w b C B bs hs) (hhd : hs[s]? = some hd) (hr : C.rows[s]? = some r) {args : List SVal} (hok : okL (Zfz hd bs b) 3 args) {ks : List Int}
    (hspec : S (.ptr ⟨2, 0, 0, 1⟩ 2 :: args) (opn C.ways hs s r hd.2.2) fun u H' => (∀ i, i < 3 -> H'.find i = (opn C.ways hs s r hd.2.2).find i) /\
      ((u = .nilslice /\ ks = []) ∨ ∃ cap, ks.length <= cap /\ u = .slice ⟨3, 0, 0, 1⟩ ks.length cap /\ H'.find 3 = some ⟨true, [.ints .i64 ks.length ks], cap - ks.length⟩)) :
    Calls P f (.pointer (some ⟨b.1, b.2, none⟩) :: ZaJ (Zfz hd bs b) args).toArray w (Zii B w b ks C) := by
  refine (ZwL hS h hhd hr hok hspec).mono ?_
  rintro e w' ⟨ρ', u, H', ⟨hsame, ho⟩, rfl, huok, hag, hrel⟩
  have hrow := h.rowAt hhd hr
  have hle : r.length <= hd.2.2 := by
    rcases hrow with ⟨rfl, rfl⟩ | ⟨x, o, c, rfl, h1, _⟩
    · exact Nat.le_refl _
    · exact h1
  have h0 : H'.find 0 = some ⟨true, [.rows Zaa r.length r], (hd.2.2 - r.length) * 2⟩ := hsame 0 (by decide)
  have h1 : H'.find 1 = some ⟨true, [.rows Zab s (hs.take s), .one (.slice ⟨0, 0, 0, 2⟩ r.length hd.2.2), .rows Zab (hs.length - s - 1) (hs.drop (s + 1))], 0⟩ := hsame 1 (by decide)
  have h2 : H'.find 2 = some ⟨true, [.one (.int .i64 C.ways), .one (.slice ⟨1, 0, 0, 1⟩ hs.length hs.length)], 0⟩ := hsame 2 (by decide)
  obtain ⟨B', g1, g2, g3⟩ := h.shut hhd hr hrel hag h1 h2 h0 (.inl rfl) (Nat.le_refl _) (by omega) (Nat.le_refl _)
  have hC : (⟨C.ways, C.rows.set s (List.take r.length r)⟩ : CacheV) = C := by
    obtain ⟨_, rfl⟩ := List.getElem?_eq_some_iff.1 hr
    rw [List.take_length, List.set_getElem_self]
  rw [hC] at g1
  have hB' : ∀ y, B' y -> B y := fun y hy => by
    rcases (g2 y).1 hy with rfl | rfl | ⟨i, h', hi, hy'⟩
    · exact (h.blk _).2 (.inl rfl)
    · exact (h.blk _).2 (.inr (.inl rfl))
    · by_cases his : i = s
      · subst his
        rw [List.getElem?_set_self (List.getElem?_eq_some_iff.1 hhd).1] at hi
        cases hi
        refine (h.blk y).2 (.inr (.inr ⟨i, hd, hhd, ?_⟩))
        rw [hag 0 (by decide)] at hy'
        exact hy'
      · rw [List.getElem?_set_ne (Ne.symm his)] at hi
        exact (h.blk y).2 (.inr (.inr ⟨i, h', hi, hy'⟩))
  have hfr := hrel.frame.mono (ZG9 h hhd hr)
  rcases ho with ⟨rfl, rfl⟩ | ⟨cap, hcap, rfl, h3⟩
  · refine ⟨B', none, 0, rfl, g1, hB', hfr, Nat.le_refl _, fun _ => ⟨rfl, rfl⟩, fun ρ id hρ => ⟨fun _ => rfl, fun b base hb => (by rw [hρ] at hb; cases hb), fun _ b base hb => (by rw [hρ] at hb; cases hb), fun h => (by cases h)⟩, fun y o base hp => by cases hp⟩
  · have h3e := hrel.ents 3 _ h3
    have hsz : (⟨true, [.ints .i64 ks.length ks], cap - ks.length⟩ : Ent).size = cap := by simp [Ent.size, Zam, Chunk.len]; omega
    refine ⟨B', ρ' 3, cap, ?_, g1, hB', hfr, hcap, fun hn => ?_, fun ρ id hρ => ⟨fun hn => h3e.nil (by rw [<- hρ]; exact hn), fun b base hb i v hv => h3e.cells b base (by rw [<- hρ]; exact hb) i v (by simpa [Zai, Chunk.conc] using hv), fun hw b base hb i hi => h3e.own hw b base (by rw [<- hρ]; exact hb) i hi, fun h => (by cases h)⟩, fun y o base hp k1 k2 => ?_⟩
    · simp [SVal.conc, SAddr.conc]
    · simp only [SVal.ok] at huok
      have := huok.2 hn
      exact ⟨List.eq_nil_of_length_eq_zero this.1, this.2⟩
    · have hw3 : Win ρ' 3 ⟨true, [.ints .i64 ks.length ks], cap - ks.length⟩ y o := ⟨base, hp, k1, by rw [hsz]; exact k2⟩
      rcases hrel.own 3 _ h3 rfl y o hw3 with ⟨i, e, he, hwr, hw⟩ | hge
      · exfalso
        have hi : i < 3 := by rcases opn_find he with ⟨rfl, _⟩ | ⟨rfl, _⟩ | ⟨rfl, _⟩ <;> decide
        refine hrel.apart 3 i _ e (by omega) h3 (by rw [hsame i hi]; exact he) rfl y o hw3 ?_
        obtain ⟨base, q1, q2, q3⟩ := hw
        exact ⟨base, by rw [hag i hi]; exact q1, q2, q3⟩
      · exact hge
end
end Go.Sx
