/- Part of the proof: SxMixT. -/
import Derived.Test.YtinjdimejijabaaSxV0
set_option linter.unusedVariables false
set_option linter.unusedSimpArgs false
namespace Go.Sx
def evT (Γ : ZaE) : MTree -> List Nat -> List (List Nat) -> Env -> Heap -> (Env -> Heap -> Prop) -> Prop
  | .nil, _, _, e, H, K => K e H
  | .st _ k _ d x r, G, hss, e, H, K => match k with
    | 0 => bif x.looks then Zbe Γ x e (H.keep (hss.headD [] ++ G)) fun v _ => evT Γ r (hss.headD [] ++ G) hss.tail (put d v e) H K else False
    | 1 => Zbe Γ x e H fun v H' => Zbk H' (H.keep G) (Zbv G H) /\ evT Γ r G hss.tail (put d v e) H' K
    | _ => Zbe Γ x e H fun v H' => evT Γ r [] hss.tail (put d v e) H' K
  | .sk _ _ d r, G, hss, e, H, K => evT Γ r G hss.tail (put d (.tuple []) e) H K
  | .alt a b, G, hss, e, H, K => evT Γ a G hss e H K /\ evT Γ b G hss e H K
  | .gd t a b, G, hss, e, H, K => match ZeF e t with
    | some (.bool c) => (c = true -> evT Γ a G hss ((t, some (.bool true)) :: e) H K) /\ (c = false -> evT Γ b G hss ((t, some (.bool false)) :: e) H K)
    | _ => False
section
variable {P : Program} {w0 : World} {fp : Nat -> Nat -> Prop} {nt : Nat}
def KnownOk (kn : List (Nat × Bool)) (tmps : Array Value) : Prop := ∀ p ∈ kn, if p.1 < Zcj then tmps[p.1]? = some (.bool p.2) else tmps[p.1 - Zcj]? = some undef
attribute [local irreducible] Zcj
theorem KnownOk.lets {kn : List (Nat × Bool)} {tmps : Array Value} {g : Option (Nat × Bool)} (h : KnownOk kn tmps) (hg : Zgx kn g = true) : Sx.lets g tmps := by
  cases g with
  | none => trivial
  | some g =>
    simp only [Zgx, Bool.and_eq_true, List.contains_iff_mem] at hg
    have := h g hg.2
    have hlt : g.1 < Zcj := Nat.le_of_ble_eq_true hg.1
    rwa [if_pos hlt] at this
theorem KnownOk.put {kn : List (Nat × Bool)} {a : Act} {d d' : Option Nat} {v : Value} (h : KnownOk kn a.tmps) (hd : d = d') (hn : Zgw kn d = true) : KnownOk kn (a.put d' v).tmps := by
  subst hd
  intro p hp
  have hq := h p hp
  have hne : ∀ x, d = some x -> p.1 ≠ x /\ p.1 ≠ x + Zcj := fun x he => by
    subst he
    simp only [Zgw, List.all_eq_true, Bool.and_eq_true, Bool.not_eq_true'] at hn
    exact ⟨Nat.ne_of_beq_eq_false (hn p hp).1, Nat.ne_of_beq_eq_false (hn p hp).2⟩
  split at hq
  · rw [if_pos (by assumption), Zb3 fun he => (hne _ he).1 rfl]; exact hq
  · rw [if_neg (by assumption), Zb3 fun he => (hne _ he).2 (by omega)]; exact hq
theorem KnownOk.sk {kn : List (Nat × Bool)} {a : Act} {d d' : Option Nat} (h : KnownOk kn a.tmps) (hd : d = d') (hn : Zgw kn d = true) (hlt : ∀ x, d = some x -> x < a.tmps.size) : KnownOk (ZIt kn d) (a.put d' undef).tmps := by
  have h1 := h.put (v := undef) hd hn
  subst hd
  cases d with
  | none => exact h1
  | some d =>
    intro p hp
    rcases List.mem_cons.1 hp with rfl | hp
    · rw [if_neg (Nat.not_lt.2 (Nat.le_add_left Zcj d)), show d + Zcj - Zcj = d from Nat.add_sub_cancel _ _]
      exact Zqy (hlt d rfl)
    · exact h1 p hp
theorem KnownOk.blocked {kn : List (Nat × Bool)} {tmps : Array Value} {g : Nat × Bool} (h : KnownOk kn tmps) (hg : (Zgx kn (some g) || kn.contains (g.1 + Zcj, true)) = true) : Sx.blocked g.1 (!g.2) tmps := by
  rw [Bool.or_eq_true] at hg
  unfold Sx.blocked
  rcases hg with hg | hg
  · have : tmps[g.1]? = some (.bool g.2) := h.lets hg
    rw [this]
    cases g.2 <;> simp
  · have := h _ (List.contains_iff_mem.1 hg)
    rw [if_neg (Nat.not_lt.2 (Nat.le_add_left Zcj g.1)), show g.1 + Zcj - Zcj = g.1 from Nat.add_sub_cancel _ _] at this
    rw [this]
    exact fun h => by cases h
theorem ZcZ {ops : Array Oper} : ∀ (t : MTree) (kn : List (Nat × Bool)) (top : Bool) (listed : Array Bool), ZeI P nt ops kn top listed t = true -> listed.size = ops.size -> listed.getD (Zaz ops.size t) false = false
  | .nil, kn, top, listed, _, hz => by simp [Zaz, hz]
  | .st i k g d x r, kn, top, listed, hf, hz => by
    simp only [ZeI] at hf
    split at hf
    · rename_i o ho
      simp only [Bool.and_eq_true] at hf
      obtain ⟨⟨_, hkind⟩, hrest⟩ := hf
      simp only [Zaz]
      cases hb : Nat.ble 2 k with
      | true =>
        have hk := Nat.le_of_ble_eq_true hb
        have hk0 : Nat.beq k 0 = false := by cases k with | zero => omega | succ k => rfl
        rw [hk0] at hkind
        simp only [cond_false] at hkind
        have hmem : i ∈ Region.ready .any ops listed := by
          cases top with
          | true => simp only [cond_true, decide_eq_true_eq] at hkind; rw [hkind]; simp
          | false => simpa using hkind
        have h0 := (mem_ready.1 hmem).1
        simp only [cond_true]
        simp only [Array.getD_eq_getD_getElem?] at h0 ⊢
        cases hx : listed[i]? with
        | none => rfl
        | some b => rw [hx] at h0; exact h0
      | false =>
        simp only [cond_false]
        have := ZcZ r _ _ _ hrest (by simpa using hz)
        cases h : listed.getD (Zaz ops.size r) false with
        | false => rfl
        | true => rw [getD_set_true h] at this; cases this
    · cases hf
  | .sk i g d r, kn, top, listed, hf, hz => by
    simp only [ZeI] at hf
    split at hf
    · rename_i o ho
      simp only [Bool.and_eq_true] at hf
      simp only [Zaz]
      have := ZcZ r _ _ _ hf.2 (by simpa using hz)
      cases h : listed.getD (Zaz ops.size r) false with
      | false => rfl
      | true => rw [getD_set_true h] at this; cases this
    · cases hf
  | .alt a b, kn, top, listed, hf, hz => by
    simp only [ZeI, Bool.and_eq_true] at hf
    exact ZcZ a _ _ _ hf.1.2 hz
  | .gd t a b, kn, top, listed, hf, hz => by
    simp only [ZeI, Bool.and_eq_true] at hf
    exact ZcZ a _ _ _ hf.1.2 hz
theorem ZbQ {Γ : ZaE} (hΓ : ZaT P Γ) {ops : Array Oper} {Q : Exit -> Act -> World -> Prop} (hsel : Region.noSelect ops = true) (hQ : ∀ c a w, ¬ Q (.panic c) a w) : ∀ (t : MTree) (kn : List (Nat × Bool)) (top : Bool) (hss : List (List Nat)) (G : List Nat) (listed : Array Bool) (e : Env) (H : Heap) (ρ : Rho) (K : Env -> Heap -> Prop) (a : Act) (w : World),
    ZeI P nt ops kn top listed t = true -> listed.size = ops.size -> Shut .any ops listed -> KnownOk kn a.tmps -> evT Γ t G hss e H K -> Rel w0 fp ρ H w -> EnvOk ρ H.next nt e a.tmps -> a.defers = [] ->
    (∀ ρ' e' H' a' w', K e' H' -> (∀ i, i < H.next -> ρ' i = ρ i) -> H.next <= H'.next -> EnvOk ρ' H'.next nt e' a'.tmps -> a'.defers = [] -> Rel w0 fp ρ' H' w' -> Q .normal a' w') ->
    (top = true -> ZcP P .any ops Q (Zih w0 fp ρ (H.keep G) (Zaz ops.size t)) (Zgd t) listed a w) /\
    (∀ i ∈ ZdO t, wpOp P ops Q i (fun a' w' => Zih w0 fp ρ (H.keep G) (Zaz ops.size t) (listed.setIfInBounds i true) w' /\ ZcP P .any ops Q (Zih w0 fp ρ (H.keep G) (Zaz ops.size t)) (Zgd t - 1) (listed.setIfInBounds i true) a' w') a w)
  | .nil, kn, top, hss, G, listed, e, H, ρ, K, a, w, hf, hz, hd, hkn, hev, hr, he, hdf, hk => by
    simp only [ZeI, Bool.and_eq_true, List.isEmpty_iff] at hf
    exact ⟨fun _ => ⟨hf.2, hk ρ e H a w (by simpa only [evT] using hev) (fun _ _ => rfl) (Nat.le_refl _) he hdf hr⟩, fun i hi => by simp [ZdO] at hi⟩
  | .st i k g d x r, kn, top, hss, G, listed, e, H, ρ, K, a, w, hf, hz, hd, hkn, hev, hr, he, hdf, hk => by
    simp only [ZeI] at hf
    split at hf
    · rename_i o ho
      simp only [Bool.and_eq_true] at hf
      obtain ⟨⟨⟨⟨⟨⟨hdst, hfit⟩, hgf⟩, hgk⟩, hnot⟩, hkind⟩, hrest⟩ := hf
      have hwant : Region.wanted o (yielded ops a.tmps) = true := Zb0 hgf (hkn.lets hgk)
      obtain ⟨hde, _⟩ := Ze3 hdst
      have hil : i < ops.size := (Array.getElem?_eq_some_iff.1 ho).1
      have hnx : i ≠ Zaz ops.size r := fun h => by
        have h1 := ZcZ r _ _ _ hrest (by simpa using hz)
        rw [<- h] at h1
        simp [hz, hil] at h1
      rcases (show k = 0 ∨ k = 1 ∨ 2 <= k by omega) with rfl | rfl | hk2
      · refine ⟨fun htop => ?_, fun i hi => by simp [ZdO] at hi⟩
        simp only [Nat.beq, cond_true, Bool.and_eq_true] at hkind
        obtain ⟨⟨⟨_, hrd⟩, hfree⟩, hw⟩ := hkind
        simp only [evT] at hev
        generalize hG' : hss.headD [] ++ G = G' at hev
        have hsub : ∀ i, i ∈ G -> i ∈ G' := fun i hi => by rw [<- hG']; exact List.mem_append_right _ hi
        cases hlk : x.looks with
        | false => rw [hlk] at hev; exact hev.elim
        | true =>
          rw [hlk] at hev
          simp only [cond_true] at hev
          have hq : Looks P a o w0 fp ρ (H.keep G') fun v _ => evT Γ r G' hss.tail (put d v e) H K := ZkJ hlk hfit he (hr.keep G') hev
          obtain ⟨sv, hK, hok, hrun⟩ := hq
          have hnl : Zaz ops.size (.st i 0 g d x r) = Zaz ops.size r := rfl
          have hln : Zgd (.st i 0 g d x r) = Zgd r + 1 := rfl
          have hne : i ≠ Zaz ops.size r := hnx
          rw [hnl, hln]
          refine Zbx (S' := Zih w0 fp ρ (H.keep G') (Zaz ops.size r)) (fun _ => True) (fun _ _ h => h) (fun l w _ h h0 => (h h0).keepSub hsub) _ _ _ _ trivial ?_
          refine Zdg (U := fun w => Rel w0 fp ρ (H.keep G') w) ho (Region.noSelect_spec hsel) hQ (fun l w => ?_) (fun l w hsh hlz hil' hs => ?_) (Zgd r) listed a w hd hz (Region.free_spec ho hfree) (by simpa using hrd) (.inl ⟨hwant, hrun⟩) (fun _ => hr.keep G') ?_
          · unfold Zih; rw [ZcA hne]
          · refine hs ?_
            rw [Bool.or_eq_true] at hw
            rcases hw with h1 | h1
            · rw [Nat.eq_of_beq_eq_true h1]
              simp [hlz]
            · exact Zd2 hsh hil' _ _ h1
          · exact (ZbQ hΓ hsel hQ r kn true _ G' _ _ H ρ K _ w hrest (by simpa using hz) (hd.add (by simpa using hrd)) (hkn.put hde hnot) hK hr (he.put (fun _ _ => rfl) (Nat.le_refl _) hdst hok) (by rw [ZaX]; exact hdf) hk).1 rfl
      · -- it does something, and leaves what is watched
        have hmem : i ∈ Region.ready .any ops listed := by
          simp only [Nat.beq, cond_false] at hkind
          cases top with
          | true => simp only [cond_true, decide_eq_true_eq] at hkind; rw [hkind]; simp
          | false => simpa using hkind
        have hshut : Shut .any ops (listed.setIfInBounds i true) := hd.add hmem
        simp only [evT] at hev
        have hnl : Zaz ops.size (.st i 1 g d x r) = Zaz ops.size r := rfl
        have hln : Zgd (.st i 1 g d x r) = Zgd r + 1 := rfl
        have hB : wpOp P ops Q i (fun a' w' => Zih w0 fp ρ (H.keep G) (Zaz ops.size r) (listed.setIfInBounds i true) w' /\ ZcP P .any ops Q (Zih w0 fp ρ (H.keep G) (Zaz ops.size r)) (Zgd r) (listed.setIfInBounds i true) a' w') a w := by
          unfold wpOp
          simp only [ho, hwant, if_true]
          refine .inl (Zd7 hΓ hfit he hr hev fun v w' hp => ?_)
          obtain ⟨ρ', sv, H', ⟨hkp, hK⟩, rfl, hok, hρ, hnxt, hr'⟩ := hp
          have hforget : ∀ w, Rel w0 fp ρ' (H'.keep G) w -> Rel w0 fp ρ (H.keep G) w := fun w h => h.forget (fun i en he => ZcG (ZkS he) (ZeU (H := H.keep G) hkp i en he)) (hr.keep G) hρ
          refine ⟨fun _ => hforget _ (hr'.keep G), Zbx (S' := Zih w0 fp ρ' (H'.keep G) (Zaz ops.size r)) (fun _ => True) (fun _ _ h => h) (fun l w _ h h0 => hforget _ (h h0)) _ _ _ _ trivial ?_⟩
          exact (ZbQ hΓ hsel hQ r kn true _ G _ _ H' ρ' K _ w' hrest (by simpa using hz) hshut (hkn.put hde hnot) hK hr' (he.put hρ hnxt hdst hok) (by rw [ZaX]; exact hdf) (fun ρ2 e2 H2 a2 w2 h1 h2 h3 h4 h5 h6 => hk ρ2 e2 H2 a2 w2 h1 (fun j hj => by rw [h2 j (by omega), hρ j hj]) (by omega) h4 h5 h6)).1 rfl
        rw [hnl, hln]
        refine ⟨fun htop => ?_, fun j hj => ?_⟩
        · subst htop
          simp only [Nat.beq, cond_false, cond_true, decide_eq_true_eq] at hkind
          refine ⟨fun h0 => (by rw [hkind] at h0; cases h0), fun j hj => ?_⟩
          rw [hkind, List.mem_singleton] at hj
          subst hj
          exact hB
        · simp only [ZdO, Nat.beq, cond_false, List.mem_singleton] at hj
          subst hj
          exact hB
      · have hk0 : Nat.beq k 0 = false := by cases k with | zero => omega | succ k => rfl
        rw [hk0] at hkind
        simp only [cond_false] at hkind
        have hmem : i ∈ Region.ready .any ops listed := by
          cases top with
          | true => simp only [cond_true, decide_eq_true_eq] at hkind; rw [hkind]; simp
          | false => simpa using hkind
        have hshut : Shut .any ops (listed.setIfInBounds i true) := hd.add hmem
        have hev : Zbe Γ x e H fun v H' => evT Γ r [] hss.tail (put d v e) H' K := by
          match k, hk2 with
          | k + 2, _ => simpa only [evT] using hev
        have hnl : Zaz ops.size (.st i k g d x r) = i := by
          simp only [Zaz]
          rw [show Nat.ble 2 k = true from Nat.ble_eq_true_of_le hk2]; rfl
        have hln : Zgd (.st i k g d x r) = Zgd r + 1 := rfl
        have hB : wpOp P ops Q i (fun a' w' => Zih w0 fp ρ (H.keep G) i (listed.setIfInBounds i true) w' /\ ZcP P .any ops Q (Zih w0 fp ρ (H.keep G) i) (Zgd r) (listed.setIfInBounds i true) a' w') a w := by
          unfold wpOp
          simp only [ho, hwant, if_true]
          refine .inl (Zd7 hΓ hfit he hr hev fun v w' hp => ?_)
          obtain ⟨ρ', sv, H', hK, rfl, hok, hρ, hnxt, hr'⟩ := hp
          have hset : (listed.setIfInBounds i true).getD i false = true := by simp [hz, hil]
          refine ⟨fun h => (by rw [hset] at h; cases h), Zbx (S' := Zih w0 fp ρ' (H'.keep []) (Zaz ops.size r)) (fun l => l.getD i false = true) (fun l j h => getD_set_true h) (fun l w hl _ h0 => (by rw [hl] at h0; cases h0)) _ _ _ _ hset ?_⟩
          exact (ZbQ hΓ hsel hQ r kn true _ [] _ _ H' ρ' K _ w' hrest (by simpa using hz) hshut (hkn.put hde hnot) hK hr' (he.put hρ hnxt hdst hok) (by rw [ZaX]; exact hdf) (fun ρ2 e2 H2 a2 w2 h1 h2 h3 h4 h5 h6 => hk ρ2 e2 H2 a2 w2 h1 (fun j hj => by rw [h2 j (by omega), hρ j hj]) (by omega) h4 h5 h6)).1 rfl
        rw [hnl, hln]
        refine ⟨fun htop => ?_, fun j hj => ?_⟩
        · subst htop
          simp only [cond_true, decide_eq_true_eq] at hkind
          refine ⟨fun h0 => (by rw [hkind] at h0; cases h0), fun j hj => ?_⟩
          rw [hkind, List.mem_singleton] at hj
          subst hj
          exact hB
        · simp only [ZdO, hk0, cond_false, List.mem_singleton] at hj
          subst hj
          exact hB
    · cases hf
  | .sk i g d r, kn, top, hss, G, listed, e, H, ρ, K, a, w, hf, hz, hd, hkn, hev, hr, he, hdf, hk => by
    simp only [ZeI] at hf
    split at hf
    · rename_i o ho
      simp only [Bool.and_eq_true] at hf
      obtain ⟨⟨⟨⟨⟨hdst, hgf⟩, hgk⟩, hnot⟩, ⟨_, hrd⟩, hfree⟩, hrest⟩ := hf
      refine ⟨fun htop => ?_, fun i hi => by simp [ZdO] at hi⟩
      have hwant : Region.wanted o (yielded ops a.tmps) = false := ZdB hgf (hkn.blocked hgk)
      obtain ⟨hde, hdl⟩ := Ze3 hdst
      have hil : i < ops.size := (Array.getElem?_eq_some_iff.1 ho).1
      have hnx : i ≠ Zaz ops.size r := fun h => by
        have h1 := ZcZ r _ _ _ hrest (by simpa using hz)
        rw [<- h] at h1
        simp [hz, hil] at h1
      simp only [evT] at hev
      have hnl : Zaz ops.size (.sk i g d r) = Zaz ops.size r := rfl
      have hln : Zgd (.sk i g d r) = Zgd r + 1 := rfl
      rw [hnl, hln]
      refine Zdg (U := fun _ => True) (v := undef) ho (Region.noSelect_spec hsel) hQ (fun l w => ?_) (fun _ _ _ _ _ _ => trivial) (Zgd r) listed a w hd hz (Region.free_spec ho hfree) (by simpa using hrd) (.inr ⟨hwant, rfl⟩) (fun _ => hr.keep G) ?_
      · unfold Zih; rw [ZcA hnx]
      · exact (ZbQ hΓ hsel hQ r (ZIt kn d) true _ G _ _ H ρ K _ w hrest (by simpa using hz) (hd.add (by simpa using hrd)) (hkn.sk hde hnot fun x hx => by rw [he.1]; exact hdl x hx) hev hr (he.put (v := .tuple []) (fun _ _ => rfl) (Nat.le_refl _) hdst (by simp [SVal.ok, okL])) (by rw [ZaX]; exact hdf) hk).1 rfl
    · cases hf
  | .alt ta tb, kn, top, hss, G, listed, e, H, ρ, K, a, w, hf, hz, hd, hkn, hev, hr, he, hdf, hk => by
    simp only [ZeI, Bool.and_eq_true] at hf
    obtain ⟨⟨⟨⟨⟨hnl, hln⟩, hl1⟩, hcov⟩, hfa⟩, hfb⟩ := hf
    have hnl := Nat.eq_of_beq_eq_true hnl
    have hln := Nat.eq_of_beq_eq_true hln
    have hl1 := Nat.le_of_ble_eq_true hl1
    simp only [evT] at hev
    have hA := (ZbQ hΓ hsel hQ ta kn false hss G listed e H ρ K a w hfa hz hd hkn hev.1 hr he hdf hk).2
    have hB := (ZbQ hΓ hsel hQ tb kn false hss G listed e H ρ K a w hfb hz hd hkn hev.2 hr he hdf hk).2
    rw [<- hnl, <- hln] at hB
    have e1 : Zaz ops.size (.alt ta tb) = Zaz ops.size ta := rfl
    have e2 : Zgd (.alt ta tb) = Zgd ta := rfl
    rw [e1, e2]
    have both : ∀ i, i ∈ ZdO ta ++ ZdO tb -> _ := fun i hi => (List.mem_append.1 hi).elim (hA i) (hB i)
    refine ⟨fun htop => ?_, fun i hi => both i hi⟩
    subst htop
    simp only [cond_true, Bool.and_eq_true, Bool.not_eq_true', List.all_eq_true] at hcov
    obtain ⟨m, hm⟩ : ∃ m, Zgd ta = m + 1 := ⟨Zgd ta - 1, by omega⟩
    rw [hm] at both ⊢
    refine ⟨fun h0 => (by rw [h0] at hcov; simp at hcov), fun j hj => ?_⟩
    exact both j (by simpa using hcov.2 j hj)
  | .gd t ta tb, kn, top, hss, G, listed, e, H, ρ, K, a, w, hf, hz, hd, hkn, hev, hr, he, hdf, hk => by
    simp only [ZeI, Bool.and_eq_true] at hf
    obtain ⟨⟨⟨⟨⟨_, htn⟩, hnl⟩, hln⟩, hfa⟩, hfb⟩ := hf
    have hnl := Nat.eq_of_beq_eq_true hnl
    have hln := Nat.eq_of_beq_eq_true hln
    have htm : t < Zcj := Nat.le_of_ble_eq_true htn.2
    have htn : t < nt := Nat.le_of_ble_eq_true htn.1
    refine ⟨fun htop => ?_, fun i hi => by simp [ZdO] at hi⟩
    simp only [evT] at hev
    have e1 : Zaz ops.size (.gd t ta tb) = Zaz ops.size ta := rfl
    have e2 : Zgd (.gd t ta tb) = Zgd ta := rfl
    rw [e1, e2]
    split at hev
    · rename_i c hget
      have hat := he.at htn hget
      simp only [SVal.conc] at hat
      have hkn' : KnownOk ((t, c) :: kn) a.tmps := fun p hp => by
        rcases List.mem_cons.1 hp with rfl | hp
        · rw [if_pos htm]; exact hat
        · exact hkn p hp
      cases c with
      | true => exact (ZbQ hΓ hsel hQ ta _ true hss G listed _ H ρ K a w hfa hz hd hkn' (hev.1 rfl) hr (he.same hget) hdf hk).1 rfl
      | false =>
        rw [hnl, hln]
        exact (ZbQ hΓ hsel hQ tb _ true hss G listed _ H ρ K a w hfb hz hd hkn' (hev.2 rfl) hr (he.same hget) hdf hk).1 rfl
    · exact hev.elim
end
structure EvTC (Γ : ZaE) (t : MTree) (hss : List (List Nat)) (e : Env) (H : Heap) (ks hs : List Nat) (Z : Env -> Heap -> Prop) : Prop where
  h : evT Γ t [] hss e H fun e' H' => Z (Zd6 ks e') (H'.keep hs)
theorem EvTC.of {Γ : ZaE} {t : MTree} {hss : List (List Nat)} {e : Env} {H : Heap} {ks hs : List Nat} {Z : Env -> Heap -> Prop} {F : Prop} (heq : (evT Γ t [] hss e H fun e' H' => Z (Zd6 ks e') (H'.keep hs)) = F) (h : F) : EvTC Γ t hss e H ks hs Z := ⟨Eq.mpr heq h⟩
section
variable {P : Program} {w0 : World} {fp : Nat -> Nat -> Prop} {ρi : Rho} {n0 nt : Nat} {e : Env} {H : Heap} {K : ZcJ} {r : List ACode}
theorem ZHC {Γ : ZaE} (hΓ : ZaT P Γ) {t : MTree} (hss : List (List Nat)) (ks hs : List Nat) (h : evT Γ t [] hss e H fun e' H' => SemL P w0 fp ρi n0 nt r (Zd6 ks e') (H'.keep hs) K) : SemL P w0 fp ρi n0 nt (.regT t :: r) e H K := by
  intro c' hf
  cases c' <;> first | (simp only [ACode.fits] at hf; cases hf; done) | skip
  rename_i id ops draw
  simp only [ACode.fits, Bool.and_eq_true] at hf
  obtain ⟨⟨⟨⟨hd, hm⟩, hsel⟩, hlen⟩, hf⟩ := hf
  subst hd
  intro a w hst
  obtain ⟨ρ, h1, h2, h3, h4, h5⟩ := hst
  refine wp_region_any hm (Zfi (S := Zih w0 fp ρ (H.keep []) (Zaz ops.size t)) _ _ _ _ ?_)
  have hle := Nat.eq_of_beq_eq_true hlen
  have hQ : ∀ c a w, ¬ ZrT w0 fp ρi n0 nt (ZvD (fun e H => SemL P w0 fp ρi n0 nt r e H K) K) (.panic c) a w := by
    rintro c a w ⟨xx, _, _, h, _⟩
    cases xx <;> exact h.elim
  have hsh : Shut .any ops (Array.replicate ops.size false) := by
    intro j o ho hj
    have hlt : j < ops.size := (Array.getElem?_eq_some_iff.1 ho).1
    simp [hlt] at hj
  have hmix := (ZbQ hΓ hsel hQ t [] true hss [] _ e H ρ _ a { w with drawn := w.drawn + 1 } hf (by simp) hsh (fun _ h => by cases h) h (h5.drew _) h3 h4 fun ρ' e' H' a' w' hK g1 g2 g3 g4 g5 =>
    ⟨.nrm, e', H', trivial, SemL.pick ks hs hK, ρ', fun i hi => by rw [g1 i (by omega), h1 i hi], by omega, g3, g4, g5⟩).1 rfl
  rw [hle] at hmix
  exact hmix
theorem Zve {Γ : ZaE} (hΓ : ZaT P Γ) {t : MTree} {hss : List (List Nat)} {ks hs : List Nat} (h : EvTC Γ t hss e H ks hs fun e H => SemL P w0 fp ρi n0 nt r e H K) : SemL P w0 fp ρi n0 nt (.regT t :: r) e H K := ZHC hΓ hss ks hs h.h
end
end Go.Sx
