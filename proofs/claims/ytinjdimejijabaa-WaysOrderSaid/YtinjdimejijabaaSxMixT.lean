/- Part of the proof: SxMixT. -/
import Derived.Test.YtinjdimejijabaaSxV0
set_option linter.unusedVariables false
set_option linter.unusedSimpArgs false
namespace Go.Sx
def evT (Γ : ZaC) : MTree -> List Nat -> List (List Nat) -> Env -> Heap -> (Env -> Heap -> Prop) -> Prop
  | .nil, _, _, e, H, K => K e H
  | .st _ k _ d x r, G, hss, e, H, K => match k with
    | 0 => bif x.looks then Za7 Γ x e (H.keep (hss.headD [] ++ G)) fun v _ => evT Γ r (hss.headD [] ++ G) hss.tail (put d v e) H K else False
    | 1 => Za7 Γ x e H fun v H' => Zb3 H' (H.keep G) (ZbS G H) /\ evT Γ r G hss.tail (put d v e) H' K
    | _ => Za7 Γ x e H fun v H' => evT Γ r [] hss.tail (put d v e) H' K
  | .sk _ _ d r, G, hss, e, H, K => evT Γ r G hss.tail (put d (.tuple []) e) H K
  | .alt a b, G, hss, e, H, K => evT Γ a G hss e H K /\ evT Γ b G hss e H K
  | .gd t a b, G, hss, e, H, K => match Zd7 e t with
    | some (.bool c) => (c = true -> evT Γ a G hss ((t, some (.bool true)) :: e) H K) /\ (c = false -> evT Γ b G hss ((t, some (.bool false)) :: e) H K)
    | _ => False
section
variable {P : Program} {w0 : World} {fp : Nat -> Nat -> Prop} {nt : Nat}
def KnownOk (kn : List (Nat × Bool)) (tmps : Array Value) : Prop := ∀ p ∈ kn, if p.1 < Zb4 then tmps[p.1]? = some (.bool p.2) else tmps[p.1 - Zb4]? = some undef
attribute [local irreducible] Zb4
theorem KnownOk.lets {kn : List (Nat × Bool)} {tmps : Array Value} {g : Option (Nat × Bool)} (h : KnownOk kn tmps) (hg : ZfH kn g = true) : Sx.lets g tmps := by
  cases g with
  | none => trivial
  | some g =>
    simp only [ZfH, Bool.and_eq_true, List.contains_iff_mem] at hg
    have := h g hg.2
    have hlt : g.1 < Zb4 := Nat.le_of_ble_eq_true hg.1
    rwa [if_pos hlt] at this
theorem KnownOk.put {kn : List (Nat × Bool)} {a : Act} {d d' : Option Nat} {v : Value} (h : KnownOk kn a.tmps) (hd : d = d') (hn : ZfG kn d = true) : KnownOk kn (a.put d' v).tmps := by
  subst hd
  intro p hp
  have hq := h p hp
  have hne : ∀ x, d = some x -> p.1 ≠ x /\ p.1 ≠ x + Zb4 := fun x he => by
    subst he
    simp only [ZfG, List.all_eq_true, Bool.and_eq_true, Bool.not_eq_true'] at hn
    exact ⟨Nat.ne_of_beq_eq_false (hn p hp).1, Nat.ne_of_beq_eq_false (hn p hp).2⟩
  split at hq
  · rw [if_pos (by assumption), ZbK fun he => (hne _ he).1 rfl]; exact hq
  · rw [if_neg (by assumption), ZbK fun he => (hne _ he).2 (by omega)]; exact hq
theorem KnownOk.sk {kn : List (Nat × Bool)} {a : Act} {d d' : Option Nat} (h : KnownOk kn a.tmps) (hd : d = d') (hn : ZfG kn d = true) (hlt : ∀ x, d = some x -> x < a.tmps.size) : KnownOk (ZAH kn d) (a.put d' undef).tmps := by
  have h1 := h.put (v := undef) hd hn
  subst hd
  cases d with
  | none => exact h1
  | some d =>
    intro p hp
    rcases List.mem_cons.1 hp with rfl | hp
    · rw [if_neg (Nat.not_lt.2 (Nat.le_add_left Zb4 d)), show d + Zb4 - Zb4 = d from Nat.add_sub_cancel _ _]
      exact ZnH (hlt d rfl)
    · exact h1 p hp
theorem KnownOk.blocked {kn : List (Nat × Bool)} {tmps : Array Value} {g : Nat × Bool} (h : KnownOk kn tmps) (hg : (ZfH kn (some g) || kn.contains (g.1 + Zb4, true)) = true) : Sx.blocked g.1 (!g.2) tmps := by
  rw [Bool.or_eq_true] at hg
  unfold Sx.blocked
  rcases hg with hg | hg
  · have : tmps[g.1]? = some (.bool g.2) := h.lets hg
    rw [this]
    cases g.2 <;> simp
  · have := h _ (List.contains_iff_mem.1 hg)
    rw [if_neg (Nat.not_lt.2 (Nat.le_add_left Zb4 g.1)), show g.1 + Zb4 - Zb4 = g.1 from Nat.add_sub_cancel _ _] at this
    rw [this]
    exact fun h => by cases h
theorem ZcB {ops : Array Oper} : ∀ (t : MTree) (kn : List (Nat × Bool)) (top : Bool) (listed : Array Bool), Zd9 P nt ops kn top listed t = true -> listed.size = ops.size -> listed.getD (Zaw ops.size t) false = false
  | .nil, kn, top, listed, _, hz => by simp [Zaw, hz]
  | .st i k g d x r, kn, top, listed, hf, hz => by
    simp only [Zd9] at hf
    split at hf
    · rename_i o ho
      simp only [Bool.and_eq_true] at hf
      obtain ⟨⟨_, hkind⟩, hrest⟩ := hf
      simp only [Zaw]
      cases hb : Nat.ble 2 k with
      | true =>
        have hk := Nat.le_of_ble_eq_true hb
        have hk0 : Nat.beq k 0 = false := by cases k with | zero => omega | succ k => rfl
        rw [hk0] at hkind
        simp only [cond_false] at hkind
        have hmem : i ∈ Region.ready .any ops listed := by
          cases top with
          | true => simp only [cond_true, decide_eq_true_eq] at hkind; rw [hkind]; simp
          | false => simpa using hkind
        have h0 := (mem_ready.1 hmem).1
        simp only [cond_true]
        simp only [Array.getD_eq_getD_getElem?] at h0 ⊢
        cases hx : listed[i]? with
        | none => rfl
        | some b => rw [hx] at h0; exact h0
      | false =>
        simp only [cond_false]
        have := ZcB r _ _ _ hrest (by simpa using hz)
        cases h : listed.getD (Zaw ops.size r) false with
        | false => rfl
        | true => rw [getD_set_true h] at this; cases this
    · cases hf
  | .sk i g d r, kn, top, listed, hf, hz => by
    simp only [Zd9] at hf
    split at hf
    · rename_i o ho
      simp only [Bool.and_eq_true] at hf
      simp only [Zaw]
      have := ZcB r _ _ _ hf.2 (by simpa using hz)
      cases h : listed.getD (Zaw ops.size r) false with
      | false => rfl
      | true => rw [getD_set_true h] at this; cases this
    · cases hf
  | .alt a b, kn, top, listed, hf, hz => by
    simp only [Zd9, Bool.and_eq_true] at hf
    exact ZcB a _ _ _ hf.1.2 hz
  | .gd t a b, kn, top, listed, hf, hz => by
    simp only [Zd9, Bool.and_eq_true] at hf
    exact ZcB a _ _ _ hf.1.2 hz
theorem Zbz {Γ : ZaC} (hΓ : ZaT P Γ) {ops : Array Oper} {Q : Exit -> Act -> World -> Prop} (hsel : Region.noSelect ops = true) (hQ : ∀ c a w, ¬ Q (.panic c) a w) : ∀ (t : MTree) (kn : List (Nat × Bool)) (top : Bool) (hss : List (List Nat)) (G : List Nat) (listed : Array Bool) (e : Env) (H : Heap) (ρ : Rho) (K : Env -> Heap -> Prop) (a : Act) (w : World),
    Zd9 P nt ops kn top listed t = true -> listed.size = ops.size -> Shut .any ops listed -> KnownOk kn a.tmps -> evT Γ t G hss e H K -> Rel w0 fp ρ H w -> EnvOk ρ H.next nt e a.tmps -> a.defers = [] ->
    (∀ ρ' e' H' a' w', K e' H' -> (∀ i, i < H.next -> ρ' i = ρ i) -> H.next <= H'.next -> EnvOk ρ' H'.next nt e' a'.tmps -> a'.defers = [] -> Rel w0 fp ρ' H' w' -> Q .normal a' w') ->
    (top = true -> Zcs P .any ops Q (Zha w0 fp ρ (H.keep G) (Zaw ops.size t)) (Zfo t) listed a w) /\
    (∀ i ∈ Zdo t, wpOp P ops Q i (fun a' w' => Zha w0 fp ρ (H.keep G) (Zaw ops.size t) (listed.setIfInBounds i true) w' /\ Zcs P .any ops Q (Zha w0 fp ρ (H.keep G) (Zaw ops.size t)) (Zfo t - 1) (listed.setIfInBounds i true) a' w') a w)
  | .nil, kn, top, hss, G, listed, e, H, ρ, K, a, w, hf, hz, hd, hkn, hev, hr, he, hdf, hk => by
    simp only [Zd9, Bool.and_eq_true, List.isEmpty_iff] at hf
    exact ⟨fun _ => ⟨hf.2, hk ρ e H a w (by simpa only [evT] using hev) (fun _ _ => rfl) (Nat.le_refl _) he hdf hr⟩, fun i hi => by simp [Zdo] at hi⟩
  | .st i k g d x r, kn, top, hss, G, listed, e, H, ρ, K, a, w, hf, hz, hd, hkn, hev, hr, he, hdf, hk => by
    simp only [Zd9] at hf
    split at hf
    · rename_i o ho
      simp only [Bool.and_eq_true] at hf
      obtain ⟨⟨⟨⟨⟨⟨hdst, hfit⟩, hgf⟩, hgk⟩, hnot⟩, hkind⟩, hrest⟩ := hf
      have hwant : Region.wanted o (yielded ops a.tmps) = true := ZbH hgf (hkn.lets hgk)
      obtain ⟨hde, _⟩ := Zer hdst
      have hil : i < ops.size := (Array.getElem?_eq_some_iff.1 ho).1
      have hnx : i ≠ Zaw ops.size r := fun h => by
        have h1 := ZcB r _ _ _ hrest (by simpa using hz)
        rw [<- h] at h1
        simp [hz, hil] at h1
      rcases (show k = 0 ∨ k = 1 ∨ 2 <= k by omega) with rfl | rfl | hk2
      · refine ⟨fun htop => ?_, fun i hi => by simp [Zdo] at hi⟩
        simp only [Nat.beq, cond_true, Bool.and_eq_true] at hkind
        obtain ⟨⟨⟨_, hrd⟩, hfree⟩, hw⟩ := hkind
        simp only [evT] at hev
        generalize hG' : hss.headD [] ++ G = G' at hev
        have hsub : ∀ i, i ∈ G -> i ∈ G' := fun i hi => by rw [<- hG']; exact List.mem_append_right _ hi
        cases hlk : x.looks with
        | false => rw [hlk] at hev; exact hev.elim
        | true =>
          rw [hlk] at hev
          simp only [cond_true] at hev
          have hq : Looks P a o w0 fp ρ (H.keep G') fun v _ => evT Γ r G' hss.tail (put d v e) H K := Zi9 hlk hfit he (hr.keep G') hev
          obtain ⟨sv, hK, hok, hrun⟩ := hq
          have hnl : Zaw ops.size (.st i 0 g d x r) = Zaw ops.size r := rfl
          have hln : Zfo (.st i 0 g d x r) = Zfo r + 1 := rfl
          have hne : i ≠ Zaw ops.size r := hnx
          rw [hnl, hln]
          refine Zbj (S' := Zha w0 fp ρ (H.keep G') (Zaw ops.size r)) (fun _ => True) (fun _ _ h => h) (fun l w _ h h0 => (h h0).keepSub hsub) _ _ _ _ trivial ?_
          refine ZcX (U := fun w => Rel w0 fp ρ (H.keep G') w) ho (Region.noSelect_spec hsel) hQ (fun l w => ?_) (fun l w hsh hlz hil' hs => ?_) (Zfo r) listed a w hd hz (Region.free_spec ho hfree) (by simpa using hrd) (.inl ⟨hwant, hrun⟩) (fun _ => hr.keep G') ?_
          · unfold Zha; rw [Zcd hne]
          · refine hs ?_
            rw [Bool.or_eq_true] at hw
            rcases hw with h1 | h1
            · rw [Nat.eq_of_beq_eq_true h1]
              simp [hlz]
            · exact ZdB hsh hil' _ _ h1
          · exact (Zbz hΓ hsel hQ r kn true _ G' _ _ H ρ K _ w hrest (by simpa using hz) (hd.add (by simpa using hrd)) (hkn.put hde hnot) hK hr (he.put (fun _ _ => rfl) (Nat.le_refl _) hdst hok) (by rw [ZaN]; exact hdf) hk).1 rfl
      · -- it does something, and leaves what is watched
        have hmem : i ∈ Region.ready .any ops listed := by
          simp only [Nat.beq, cond_false] at hkind
          cases top with
          | true => simp only [cond_true, decide_eq_true_eq] at hkind; rw [hkind]; simp
          | false => simpa using hkind
        have hshut : Shut .any ops (listed.setIfInBounds i true) := hd.add hmem
        simp only [evT] at hev
        have hnl : Zaw ops.size (.st i 1 g d x r) = Zaw ops.size r := rfl
        have hln : Zfo (.st i 1 g d x r) = Zfo r + 1 := rfl
        have hB : wpOp P ops Q i (fun a' w' => Zha w0 fp ρ (H.keep G) (Zaw ops.size r) (listed.setIfInBounds i true) w' /\ Zcs P .any ops Q (Zha w0 fp ρ (H.keep G) (Zaw ops.size r)) (Zfo r) (listed.setIfInBounds i true) a' w') a w := by
          unfold wpOp
          simp only [ho, hwant, if_true]
          refine .inl (ZdG hΓ hfit he hr hev fun v w' hp => ?_)
          obtain ⟨ρ', sv, H', ⟨hkp, hK⟩, rfl, hok, hρ, hnxt, hr'⟩ := hp
          have hforget : ∀ w, Rel w0 fp ρ' (H'.keep G) w -> Rel w0 fp ρ (H.keep G) w := fun w h => h.forget (fun i en he => Zcj (Zjj he) (Zej (H := H.keep G) hkp i en he)) (hr.keep G) hρ
          refine ⟨fun _ => hforget _ (hr'.keep G), Zbj (S' := Zha w0 fp ρ' (H'.keep G) (Zaw ops.size r)) (fun _ => True) (fun _ _ h => h) (fun l w _ h h0 => hforget _ (h h0)) _ _ _ _ trivial ?_⟩
          exact (Zbz hΓ hsel hQ r kn true _ G _ _ H' ρ' K _ w' hrest (by simpa using hz) hshut (hkn.put hde hnot) hK hr' (he.put hρ hnxt hdst hok) (by rw [ZaN]; exact hdf) (fun ρ2 e2 H2 a2 w2 h1 h2 h3 h4 h5 h6 => hk ρ2 e2 H2 a2 w2 h1 (fun j hj => by rw [h2 j (by omega), hρ j hj]) (by omega) h4 h5 h6)).1 rfl
        rw [hnl, hln]
        refine ⟨fun htop => ?_, fun j hj => ?_⟩
        · subst htop
          simp only [Nat.beq, cond_false, cond_true, decide_eq_true_eq] at hkind
          refine ⟨fun h0 => (by rw [hkind] at h0; cases h0), fun j hj => ?_⟩
          rw [hkind, List.mem_singleton] at hj
          subst hj
          exact hB
        · simp only [Zdo, Nat.beq, cond_false, List.mem_singleton] at hj
          subst hj
          exact hB
      · have hk0 : Nat.beq k 0 = false := by cases k with | zero => omega | succ k => rfl
        rw [hk0] at hkind
        simp only [cond_false] at hkind
        have hmem : i ∈ Region.ready .any ops listed := by
          cases top with
          | true => simp only [cond_true, decide_eq_true_eq] at hkind; rw [hkind]; simp
          | false => simpa using hkind
        have hshut : Shut .any ops (listed.setIfInBounds i true) := hd.add hmem
        have hev : Za7 Γ x e H fun v H' => evT Γ r [] hss.tail (put d v e) H' K := by
          match k, hk2 with
          | k + 2, _ => simpa only [evT] using hev
        have hnl : Zaw ops.size (.st i k g d x r) = i := by
          simp only [Zaw]
          rw [show Nat.ble 2 k = true from Nat.ble_eq_true_of_le hk2]; rfl
        have hln : Zfo (.st i k g d x r) = Zfo r + 1 := rfl
        have hB : wpOp P ops Q i (fun a' w' => Zha w0 fp ρ (H.keep G) i (listed.setIfInBounds i true) w' /\ Zcs P .any ops Q (Zha w0 fp ρ (H.keep G) i) (Zfo r) (listed.setIfInBounds i true) a' w') a w := by
          unfold wpOp
          simp only [ho, hwant, if_true]
          refine .inl (ZdG hΓ hfit he hr hev fun v w' hp => ?_)
          obtain ⟨ρ', sv, H', hK, rfl, hok, hρ, hnxt, hr'⟩ := hp
          have hset : (listed.setIfInBounds i true).getD i false = true := by simp [hz, hil]
          refine ⟨fun h => (by rw [hset] at h; cases h), Zbj (S' := Zha w0 fp ρ' (H'.keep []) (Zaw ops.size r)) (fun l => l.getD i false = true) (fun l j h => getD_set_true h) (fun l w hl _ h0 => (by rw [hl] at h0; cases h0)) _ _ _ _ hset ?_⟩
          exact (Zbz hΓ hsel hQ r kn true _ [] _ _ H' ρ' K _ w' hrest (by simpa using hz) hshut (hkn.put hde hnot) hK hr' (he.put hρ hnxt hdst hok) (by rw [ZaN]; exact hdf) (fun ρ2 e2 H2 a2 w2 h1 h2 h3 h4 h5 h6 => hk ρ2 e2 H2 a2 w2 h1 (fun j hj => by rw [h2 j (by omega), hρ j hj]) (by omega) h4 h5 h6)).1 rfl
        rw [hnl, hln]
        refine ⟨fun htop => ?_, fun j hj => ?_⟩
        · subst htop
          simp only [cond_true, decide_eq_true_eq] at hkind
          refine ⟨fun h0 => (by rw [hkind] at h0; cases h0), fun j hj => ?_⟩
          rw [hkind, List.mem_singleton] at hj
          subst hj
          exact hB
        · simp only [Zdo, hk0, cond_false, List.mem_singleton] at hj
          subst hj
          exact hB
    · cases hf
  | .sk i g d r, kn, top, hss, G, listed, e, H, ρ, K, a, w, hf, hz, hd, hkn, hev, hr, he, hdf, hk => by
    simp only [Zd9] at hf
    split at hf
    · rename_i o ho
      simp only [Bool.and_eq_true] at hf
      obtain ⟨⟨⟨⟨⟨hdst, hgf⟩, hgk⟩, hnot⟩, ⟨_, hrd⟩, hfree⟩, hrest⟩ := hf
      refine ⟨fun htop => ?_, fun i hi => by simp [Zdo] at hi⟩
      have hwant : Region.wanted o (yielded ops a.tmps) = false := Zdc hgf (hkn.blocked hgk)
      obtain ⟨hde, hdl⟩ := Zer hdst
      have hil : i < ops.size := (Array.getElem?_eq_some_iff.1 ho).1
      have hnx : i ≠ Zaw ops.size r := fun h => by
        have h1 := ZcB r _ _ _ hrest (by simpa using hz)
        rw [<- h] at h1
        simp [hz, hil] at h1
      simp only [evT] at hev
      have hnl : Zaw ops.size (.sk i g d r) = Zaw ops.size r := rfl
      have hln : Zfo (.sk i g d r) = Zfo r + 1 := rfl
      rw [hnl, hln]
      refine ZcX (U := fun _ => True) (v := undef) ho (Region.noSelect_spec hsel) hQ (fun l w => ?_) (fun _ _ _ _ _ _ => trivial) (Zfo r) listed a w hd hz (Region.free_spec ho hfree) (by simpa using hrd) (.inr ⟨hwant, rfl⟩) (fun _ => hr.keep G) ?_
      · unfold Zha; rw [Zcd hnx]
      · exact (Zbz hΓ hsel hQ r (ZAH kn d) true _ G _ _ H ρ K _ w hrest (by simpa using hz) (hd.add (by simpa using hrd)) (hkn.sk hde hnot fun x hx => by rw [he.1]; exact hdl x hx) hev hr (he.put (v := .tuple []) (fun _ _ => rfl) (Nat.le_refl _) hdst (by simp [SVal.ok, okL])) (by rw [ZaN]; exact hdf) hk).1 rfl
    · cases hf
  | .alt ta tb, kn, top, hss, G, listed, e, H, ρ, K, a, w, hf, hz, hd, hkn, hev, hr, he, hdf, hk => by
    simp only [Zd9, Bool.and_eq_true] at hf
    obtain ⟨⟨⟨⟨⟨hnl, hln⟩, hl1⟩, hcov⟩, hfa⟩, hfb⟩ := hf
    have hnl := Nat.eq_of_beq_eq_true hnl
    have hln := Nat.eq_of_beq_eq_true hln
    have hl1 := Nat.le_of_ble_eq_true hl1
    simp only [evT] at hev
    have hA := (Zbz hΓ hsel hQ ta kn false hss G listed e H ρ K a w hfa hz hd hkn hev.1 hr he hdf hk).2
    have hB := (Zbz hΓ hsel hQ tb kn false hss G listed e H ρ K a w hfb hz hd hkn hev.2 hr he hdf hk).2
    rw [<- hnl, <- hln] at hB
    have e1 : Zaw ops.size (.alt ta tb) = Zaw ops.size ta := rfl
    have e2 : Zfo (.alt ta tb) = Zfo ta := rfl
    rw [e1, e2]
    have both : ∀ i, i ∈ Zdo ta ++ Zdo tb -> _ := fun i hi => (List.mem_append.1 hi).elim (hA i) (hB i)
    refine ⟨fun htop => ?_, fun i hi => both i hi⟩
    subst htop
    simp only [cond_true, Bool.and_eq_true, Bool.not_eq_true', List.all_eq_true] at hcov
    obtain ⟨m, hm⟩ : ∃ m, Zfo ta = m + 1 := ⟨Zfo ta - 1, by omega⟩
    rw [hm] at both ⊢
    refine ⟨fun h0 => (by rw [h0] at hcov; simp at hcov), fun j hj => ?_⟩
    exact both j (by simpa using hcov.2 j hj)
  | .gd t ta tb, kn, top, hss, G, listed, e, H, ρ, K, a, w, hf, hz, hd, hkn, hev, hr, he, hdf, hk => by
    simp only [Zd9, Bool.and_eq_true] at hf
    obtain ⟨⟨⟨⟨⟨_, htn⟩, hnl⟩, hln⟩, hfa⟩, hfb⟩ := hf
    have hnl := Nat.eq_of_beq_eq_true hnl
    have hln := Nat.eq_of_beq_eq_true hln
    have htm : t < Zb4 := Nat.le_of_ble_eq_true htn.2
    have htn : t < nt := Nat.le_of_ble_eq_true htn.1
    refine ⟨fun htop => ?_, fun i hi => by simp [Zdo] at hi⟩
    simp only [evT] at hev
    have e1 : Zaw ops.size (.gd t ta tb) = Zaw ops.size ta := rfl
    have e2 : Zfo (.gd t ta tb) = Zfo ta := rfl
    rw [e1, e2]
    split at hev
    · rename_i c hget
      have hat := he.at htn hget
      simp only [SVal.conc] at hat
      have hkn' : KnownOk ((t, c) :: kn) a.tmps := fun p hp => by
        rcases List.mem_cons.1 hp with rfl | hp
        · rw [if_pos htm]; exact hat
        · exact hkn p hp
      cases c with
      | true => exact (Zbz hΓ hsel hQ ta _ true hss G listed _ H ρ K a w hfa hz hd hkn' (hev.1 rfl) hr (he.same hget) hdf hk).1 rfl
      | false =>
        rw [hnl, hln]
        exact (Zbz hΓ hsel hQ tb _ true hss G listed _ H ρ K a w hfb hz hd hkn' (hev.2 rfl) hr (he.same hget) hdf hk).1 rfl
    · exact hev.elim
end
structure EvTC (Γ : ZaC) (t : MTree) (hss : List (List Nat)) (e : Env) (H : Heap) (ks hs : List Nat) (Z : Env -> Heap -> Prop) : Prop where
  h : evT Γ t [] hss e H fun e' H' => Z (ZdF ks e') (H'.keep hs)
theorem EvTC.of {Γ : ZaC} {t : MTree} {hss : List (List Nat)} {e : Env} {H : Heap} {ks hs : List Nat} {Z : Env -> Heap -> Prop} {F : Prop} (heq : (evT Γ t [] hss e H fun e' H' => Z (ZdF ks e') (H'.keep hs)) = F) (h : F) : EvTC Γ t hss e H ks hs Z := ⟨Eq.mpr heq h⟩
section
variable {P : Program} {w0 : World} {fp : Nat -> Nat -> Prop} {ρi : Rho} {n0 nt : Nat} {e : Env} {H : Heap} {K : Zdh} {r : List ACode}
theorem Zz4 {Γ : ZaC} (hΓ : ZaT P Γ) {t : MTree} (hss : List (List Nat)) (ks hs : List Nat) (h : evT Γ t [] hss e H fun e' H' => SemL P w0 fp ρi n0 nt r (ZdF ks e') (H'.keep hs) K) : SemL P w0 fp ρi n0 nt (.regT t :: r) e H K := by
  intro c' hf
  cases c' <;> first | (simp only [ACode.fits] at hf; cases hf; done) | skip
  rename_i id ops draw
  simp only [ACode.fits, Bool.and_eq_true] at hf
  obtain ⟨⟨⟨⟨hd, hm⟩, hsel⟩, hlen⟩, hf⟩ := hf
  subst hd
  intro a w hst
  obtain ⟨ρ, h1, h2, h3, h4, h5⟩ := hst
  refine wp_region_any hm (ZeE (S := Zha w0 fp ρ (H.keep []) (Zaw ops.size t)) _ _ _ _ ?_)
  have hle := Nat.eq_of_beq_eq_true hlen
  have hQ : ∀ c a w, ¬ ZoR w0 fp ρi n0 nt (Zrv (fun e H => SemL P w0 fp ρi n0 nt r e H K) K) (.panic c) a w := by
    rintro c a w ⟨xx, _, _, h, _⟩
    cases xx <;> exact h.elim
  have hsh : Shut .any ops (Array.replicate ops.size false) := by
    intro j o ho hj
    have hlt : j < ops.size := (Array.getElem?_eq_some_iff.1 ho).1
    simp [hlt] at hj
  have hmix := (Zbz hΓ hsel hQ t [] true hss [] _ e H ρ _ a { w with drawn := w.drawn + 1 } hf (by simp) hsh (fun _ h => by cases h) h (h5.drew _) h3 h4 fun ρ' e' H' a' w' hK g1 g2 g3 g4 g5 =>
    ⟨.nrm, e', H', trivial, SemL.pick ks hs hK, ρ', fun i hi => by rw [g1 i (by omega), h1 i hi], by omega, g3, g4, g5⟩).1 rfl
  rw [hle] at hmix
  exact hmix
theorem ZuT {Γ : ZaC} (hΓ : ZaT P Γ) {t : MTree} {hss : List (List Nat)} {ks hs : List Nat} (h : EvTC Γ t hss e H ks hs fun e H => SemL P w0 fp ρi n0 nt r e H K) : SemL P w0 fp ρi n0 nt (.regT t :: r) e H K := Zz4 hΓ hss ks hs h.h
end
end Go.Sx
