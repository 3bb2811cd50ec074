/- Part of the proof: SxKeysA. -/
import Derived.Test.YtinjdimejijabaaSxOpnN
import Derived.Test.YtinjdimejijabaaSxWaysK
set_option linter.unusedVariables false
set_option linter.unusedSimpArgs false
set_option maxRecDepth 20000
namespace Go.Sx
theorem Ze1 {α β : Type} (f : α -> List β) (d : α) : ∀ l : List α, (List.range l.length).flatMap (fun i => f (l.getD i d)) = l.flatMap f
  | [] => rfl
  | x :: r => by
    rw [List.length_cons, List.range_succ_eq_map, List.flatMap_cons, List.flatMap_cons, List.flatMap_map]
    congr 1
    rw [<- Ze1 f d r]
    rfl
def CacheV.codes (C : CacheV) : List (Tup Zad) := C.rows.map fun r => ((r.map (·.1), r.map (·.2)) : List Int × List Int)
def CacheV.keysL (C : CacheV) : List Int := Za7 (C.rows.flatMap Za1)
theorem Zmn : ∀ r : List (Int × Int), (r.map (·.1)).zip (r.map (·.2)) = r
  | [] => rfl
  | x :: r => by simp only [List.map_cons, List.zip_cons_cons, Zmn r]
theorem Ze4 (C : CacheV) (i : Nat) : Za4 C.codes i = C.rows.getD i [] := by
  unfold Za4 CacheV.codes
  rw [List.getD_eq_getElem?_getD, List.getElem?_map, List.getD_eq_getElem?_getD]
  cases h : C.rows[i]? with
  | none => rfl
  | some r => simp only [Option.map_some, Option.getD_some, Zmn]
theorem ZkQ (C : CacheV) : Za2 C.rows.length C.codes = C.rows.flatMap Za1 := by
  unfold Za2
  rw [<- Ze1 Za1 []]
  simp only [Ze4]
end Go.Sx
namespace Go.Proofs.Ytinjdimejijabaa
open Go.Sx
theorem ZHr {w : World} {b : Nat × Nat} {C : CacheV} {B : Nat -> Prop} (h : CacheAt w b C B) (hg : C.Good) : Calls Try.prog 36 #[.pointer (some ⟨b.1, b.2, none⟩)] w (Zii B w b C.keysL C) := by
  have hcc := h
  obtain ⟨bs, hs, h⟩ := h
  let ρ : Rho := fun i => if i = 0 then some bs else some b
  let H0 : Heap := ⟨2, [(0, some ⟨false, [.rows Zab hs.length hs, .rows Zad 0 C.codes], 0⟩), (1, some ⟨false, [.one (.int .i64 C.ways), .one (.slice ⟨0, 0, 0, 1⟩ hs.length hs.length)], 0⟩)]⟩
  have hfind : ∀ i e, H0.find i = some e -> (i = 0 /\ e = ⟨false, [.rows Zab hs.length hs, .rows Zad 0 C.codes], 0⟩) ∨ (i = 1 /\ e = ⟨false, [.one (.int .i64 C.ways), .one (.slice ⟨0, 0, 0, 1⟩ hs.length hs.length)], 0⟩) := fun i e hi => by
    simp only [H0, Heap.find, ZaH] at hi
    split at hi
    · rename_i h; cases hi; exact .inl ⟨h.symm, rfl⟩
    · split at hi
      · rename_i h; cases hi; exact .inr ⟨h.symm, rfl⟩
      · simp [Zc7] at hi
  have hwr : ∀ i e, H0.find i = some e -> e.wr = false /\ e.ex = 0 := fun i e hi => by rcases hfind i e hi with ⟨_, rfl⟩ | ⟨_, rfl⟩ <;> exact ⟨rfl, rfl⟩
  have hfp : ∀ x o, ¬ Zj7 ρ H0 x o := fun x o ⟨i, e, hi, hw, _⟩ => by rw [(hwr i e hi).1] at hw; cases hw
  have hrow : ∀ i, i < hs.length -> ∃ r, C.rows[i]? = some r /\ Za4 C.codes i = r /\ Zwo w (hs.getD i (none, 0, 0)) r := fun i hi => by
    have h1 : C.rows[i]? = some (C.rows[i]'(by have := h.len; omega)) := List.getElem?_eq_getElem _
    have h2 : hs[i]? = some hs[i] := List.getElem?_eq_getElem hi
    refine ⟨_, h1, by rw [Ze4, List.getD_eq_getElem?_getD, h1]; rfl, ?_⟩
    have := h.row i _ _ h2 h1
    rwa [List.getD_eq_getElem?_getD, h2]
  have hrel : Rel w (Zj7 ρ H0) ρ H0 w := by
    refine ⟨Frame.refl _ _, fun i e he => ?_, fun i e he => ?_, fun i e he hw => (by rw [(hwr i e he).1] at hw; cases hw), fun i j e e' _ he _ hw => (by rw [(hwr i e he).1] at hw; cases hw), fun i e he => ?_, fun i e he => .inr (.inl (hwr i e he).2), fun i e he _ h2 => (by rw [(hwr i e he).2] at h2; cases h2), AbsR.none fun i e he _ h2 => (by rw [(hwr i e he).2] at h2; cases h2), fun i e n hs' f he _ hf j hj => ?_⟩
    · have hown : ∀ (p : Nat × Nat) (n : Nat) (vs : List Value), Own w p.1 p.2 n vs -> ∀ (k : Nat) v, vs[k]? = some v -> w.cell? ⟨p.1, p.2 + k, none⟩ = some v := fun p n vs hO k v hv => by
        obtain ⟨⟨u, hu, hu'⟩, _⟩ := hO.2.2 k (Nat.lt_of_lt_of_le (List.getElem?_eq_some_iff.1 hv).1 hO.1)
        rw [hu, hu' v hv]
      rcases hfind i e he with ⟨rfl, rfl⟩ | ⟨rfl, rfl⟩
      · refine ⟨fun hn => (by cases hn), fun b' base hb k v hv => ?_, fun hw => (by cases hw), fun _ h2 => (by cases h2)⟩
        have e1 : Zai ρ [.rows Zab hs.length hs, .rows Zad 0 C.codes] = hs.map ZbO := by
          simp only [Zai, Chunk.conc, List.append_nil]
          rw [Zh2 rfl]
          have : Zal Zad 0 C.codes = [] := by unfold Zal; rfl
          rw [this, List.append_nil]
        rw [e1] at hv
        have hb' : bs = (b', base) := Option.some.inj hb
        have := hown bs _ _ h.hdr k v hv
        rwa [hb'] at this
      · refine ⟨fun hn => (by cases hn), fun b' base hb k v hv => ?_, fun hw => (by cases hw), fun _ h2 => (by cases h2)⟩
        have hb' : b = (b', base) := Option.some.inj hb
        have e1 : Zai ρ [.one (.int .i64 C.ways), .one (.slice ⟨0, 0, 0, 1⟩ hs.length hs.length)] = [.int .i64 C.ways, .slice (some ⟨bs.1, bs.2, none⟩) hs.length hs.length] := by
          simp [Zai, Chunk.conc, SVal.conc, SAddr.conc, ρ]
        rw [e1] at hv
        have := hown b _ _ h.top k v hv
        rwa [hb'] at this
    · rcases hfind i e he with ⟨rfl, rfl⟩ | ⟨rfl, rfl⟩
      · exact ⟨trivial, trivial, trivial⟩
      · exact ⟨trivial, ⟨by show 0 < 2; decide, fun hn => by cases hn⟩, trivial⟩
    · rcases hfind i e he with ⟨rfl, rfl⟩ | ⟨rfl, rfl⟩ <;> (show _ < 2) <;> decide
    · rcases hfind i e he with ⟨rfl, rfl⟩ | ⟨rfl, rfl⟩
      · have hf' : ZbR [.rows Zab hs.length hs, .rows Zad 0 C.codes] = some (n, hs', f) := hf
        have hf2 : ZbR [.rows Zab hs.length hs, .rows Zad 0 C.codes] = some (hs.length, hs, fun i => ((Za4 C.codes i).length, Zal [.int .i64, .int .i64] (Za4 C.codes i).length (Za4 C.codes i))) := rfl
        rw [hf2] at hf'
        cases hf'
        obtain ⟨r, q1, q2, q3⟩ := hrow j hj
        show HidRow w (Wr ρ H0) (hs.getD j (none, 0, 0)) ((Za4 C.codes j).length, Zal [.int .i64, .int .i64] (Za4 C.codes j).length (Za4 C.codes j))
        rw [q2]
        rcases q3 with ⟨q3, q4⟩ | ⟨x, o, c, q3, q4, q5⟩
        · left
          rw [q3, q4]
          exact ⟨rfl, rfl, rfl⟩
        · right
          refine ⟨x, o, c, by rw [q3], q4, fun k v hv => ⟨?_, fun ⟨i', e', hi', hw', _⟩ => by rw [(hwr i' e' hi').1] at hw'; cases hw'⟩⟩
          obtain ⟨⟨u, hu, hu'⟩, _⟩ := q5.2.2 k (Nat.lt_of_lt_of_le (List.getElem?_eq_some_iff.1 hv).1 q5.1)
          rw [hu, hu' v hv]
      · simp [ZbR] at hf
  have hlen : ∀ i, (Za4 C.codes i).length <= 64 := fun i => by
    rw [Ze4, List.getD_eq_getElem?_getD]
    cases hi : C.rows[i]? with
    | none => simp
    | some r =>
      have := hg.len r (List.mem_of_getElem? hi)
      have := hg.w2
      simp only [Option.getD_some]; omega
  have hs2 := hg.s2
  have hl := h.len
  have hka : Za7 (Za2 hs.length C.codes) = C.keysL := by rw [hl, ZkQ]; rfl
  have hkl : (Za2 hs.length C.codes).length = C.keysL.length := by rw [<- hka, Zbw]
  refine (ZBf [.ptr ⟨1, 0, 0, 1⟩ 2] H0 (fun u H' => ∃ cap, C.keysL.length <= cap /\ u = .slice ⟨2, 0, 0, 1⟩ C.keysL.length cap /\ H'.find 2 = some ⟨true, [.ints .i64 C.keysL.length C.keysL], cap - C.keysL.length⟩) (ZkX rfl ⟨rfl, Nat.le_refl _, by omega, hlen⟩ fun cap hcap => ⟨cap, by rw [<- hkl]; exact hcap, by rw [hkl], by rw [<- hka, Zbw]; rfl⟩) ρ w hrel ⟨⟨by show 1 < 2; decide, fun hn => by cases hn⟩, trivial⟩).mono ?_
  rintro e w' ⟨ρ', u, H', ⟨cap, hcap, rfl, h3⟩, rfl, huok, hag, _, hr⟩
  have h3e := hr.ents 2 _ h3
  have hsz : (⟨true, [.ints .i64 C.keysL.length C.keysL], cap - C.keysL.length⟩ : Ent).size = cap := by simp [Ent.size, Zam, Chunk.len]; omega
  refine ⟨B, ρ' 2, cap, by simp [SVal.conc, SAddr.conc], hcc.congr hr.frame.size (fun x hx => hr.frame.other x (hcc.lt x hx) fun o ho => hfp x o ho), fun _ h => h, hr.frame.mono fun x o hx => (hfp x o hx).elim, hcap, fun hn => ?_,
    fun ρ id hρ => ⟨fun hn => h3e.nil (by rw [<- hρ]; exact hn), fun b base hb i v hv => h3e.cells b base (by rw [<- hρ]; exact hb) i v (by simpa [Zai, Chunk.conc] using hv), fun hw b base hb i hi => h3e.own hw b base (by rw [<- hρ]; exact hb) i hi, fun h => (by cases h)⟩, fun y o base hp k1 k2 => ?_⟩
  · simp only [SVal.ok] at huok
    have := huok.2 hn
    exact ⟨List.eq_nil_of_length_eq_zero this.1, this.2⟩
  · rcases hr.own 2 _ h3 rfl y o ⟨base, hp, k1, by rw [hsz]; exact k2⟩ with hf | hge
    · exact (hfp y o hf).elim
    · exact hge
def Zu8 : ACon := ⟨36, fun C args => match args with | [] => some (C.Good, .nums C.keysL) | _ => none⟩
theorem Zu7 : AOk Try.prog Zu8 := by
  intro w b C B args pre res hc hs hp ρ
  unfold Zu8 at hs
  simp only at hs
  split at hs
  · cases hs; exact ZHr hc hp
  · cases hs
def ZBc : List ACon := [Zwf, Zq6, Zq9, Zmd, Zwg, Zwh, Zu8]
theorem Zvz : ZHL Try.prog ZBc := ⟨Zq5, Znc, Znd, Zkg, Zq7, Zq8, Zu7, trivial⟩
end Go.Proofs.Ytinjdimejijabaa
