/- Part of the proof: SxV0. -/
import Derived.Test.YtinjdimejijabaaSxTop
import Derived.Test.YtinjdimejijabaaSxPlan
set_option linter.unusedVariables false
set_option linter.unusedSimpArgs false
namespace Go.Sx
theorem ZqL {e : Env} : ∀ {xs : List Opd} {K K' : List SVal -> Prop}, (∀ us, K us -> K' us) -> evL e xs K -> evL e xs K'
  | [], _, _, hk, h => hk _ h
  | _ :: _, _, _, hk, h => Opd.ev_mono (fun v hv => ZqL (fun us hu => hk _ hu) hv) h
def ZhC : Items -> Nat
  | .nil => 0
  | .op _ (.call _ _) r => ZhC r + 1
  | .op _ _ r => ZhC r
  | .grp _ _ b r => ZhC b + ZhC r
  | .grpJ _ _ b _ _ _ r => ZhC b + ZhC r
def ZAr : Nat -> List SVal -> List SVal
  | 0, l => l
  | _ + 1, [] => []
  | n + 1, _ :: r => ZAr n r
def evR (Γ : ZaE) (H : Heap) : Items -> List SVal -> Env -> (List SVal -> Env -> Prop) -> Prop
  | .nil, vs, e, K => K vs e
  | .op d (.call f args) r, vs, e, K => match vs with
    | v :: vs => evL e args fun us => v.bd H.next /\ Γ f us H (fun u H' => u = v /\ Zbk H' H H.ents) /\ evR Γ H r vs (put d v e) K
    | [] => False
  | .op d x r, vs, e, K => bif x.looks then Zbe Γ x e H fun v _ => evR Γ H r vs (put d v e) K else False
  | .grp t want b r, vs, e, K => match ZeF e t with
    | some (.bool c) => (c = want -> evR Γ H b vs ((t, some (.bool want)) :: e) fun vs' e' => evR Γ H r vs' e' K) /\ (c = !want -> evR Γ H r (ZAr (ZhC b) vs) (ZrU b ((t, some (.bool (!want))) :: e)) K)
    | _ => False
  | .grpJ t want b d x y r, vs, e, K => match ZeF e t with
    | some (.bool c) => ∃ q : Bool, (c = want -> evR Γ H b vs ((t, some (.bool want)) :: e) fun _ e' => x.ev e' fun v => isB v q) /\
        (c = (!want) -> y.ev e fun v => isB v q) /\ evR Γ H r (ZAr (ZhC b) vs) ((d, some (.bool q)) :: ZnW b e) K
    | _ => False
section
variable {P : Program} {w0 : World} {fp : Nat -> Nat -> Prop} {nt : Nat}
theorem Quiet.mono {ρ : Rho} {H : Heap} {a : Act} {o : Oper} {K K' : SVal -> Prop} (h : Quiet P w0 fp ρ H a o K) (hk : ∀ v, K v -> K' v) : Quiet P w0 fp ρ H a o K' := by
  obtain ⟨sv, h1, h2⟩ := h
  exact ⟨sv, hk _ h1, h2⟩
theorem ZtC {Γ : ZaE} (hΓ : ZaT P Γ) {x : AOp} {o : Oper} {a : Act} {e : Env} {ρ : Rho} {H : Heap} {d : Option Nat} {r : Items} {vs : List SVal} {K : List SVal -> Env -> Prop}
    (hf : x.fits P o.op = true) (he : EnvOk ρ H.next nt e a.tmps) (hw : ∃ w, Rel w0 fp ρ H w) (h : evR Γ H (.op d x r) vs e K) : Quiet P w0 fp ρ H a o fun v => ∃ vs', evR Γ H r vs' (put d v e) K := by
  obtain ⟨w, hr⟩ := hw
  cases x with
  | call f args =>
    cases vs with
    | nil => exact h.elim
    | cons v vs =>
      simp only [evR] at h
      exact Zkf hΓ hf he ⟨w, hr⟩ (ZqL (fun us h => ⟨v, h.1, h.2.1, vs, h.2.2⟩) h)
  | mov => simp only [evR, AOp.looks, cond_true] at h; exact (Zgr hf he hr h).quiet.mono fun v h => ⟨vs, h⟩
  | pick => simp only [evR, AOp.looks, cond_true] at h; exact (Zfn hf he hr h).quiet.mono fun v h => ⟨vs, h⟩
  | bin => simp only [evR, AOp.looks, cond_true] at h; exact (ZgM hf he hr h).quiet.mono fun v h => ⟨vs, h⟩
  | not => simp only [evR, AOp.looks, cond_true] at h; exact (Zgq hf he hr h).quiet.mono fun v h => ⟨vs, h⟩
  | build => simp only [evR, AOp.looks, cond_true] at h; exact (Zey hf he hr h).quiet.mono fun v h => ⟨vs, h⟩
  | load1 => simp only [evR, AOp.looks, cond_true] at h; exact (Zd9 hf he hr h).quiet.mono fun v h => ⟨vs, h⟩
  | load1P => simp only [evR, AOp.looks, cond_true] at h; exact (Zdl hf he hr h).quiet.mono fun v h => ⟨vs, h⟩
  | loadA => simp only [evR, AOp.looks, cond_true] at h; exact (Zd8 hf he hr h).quiet.mono fun v h => ⟨vs, h⟩
  | fieldAddr => simp only [evR, AOp.looks, cond_true] at h; exact (Zcd hf he hr h).quiet.mono fun v h => ⟨vs, h⟩
  | idxS => simp only [evR, AOp.looks, cond_true] at h; exact (Zft hf he hr h).quiet.mono fun v h => ⟨vs, h⟩
  | len => simp only [evR, AOp.looks, cond_true] at h; exact (Zb7 hf he hr h).quiet.mono fun v h => ⟨vs, h⟩
  | min2 => simp only [evR, AOp.looks, cond_true] at h; exact (Zfq hf he hr h).quiet.mono fun v h => ⟨vs, h⟩
  | max2 => simp only [evR, AOp.looks, cond_true] at h; exact (Zfr hf he hr h).quiet.mono fun v h => ⟨vs, h⟩
  | extract => simp only [evR, AOp.looks, cond_true] at h; exact (ZcV hf he hr h).quiet.mono fun v h => ⟨vs, h⟩
  | nilCheck => simp only [evR, AOp.looks, cond_true] at h; exact (Zcy hf he hr h).quiet.mono fun v h => ⟨vs, h⟩
  | sliceS => simp only [evR, AOp.looks, cond_true] at h; exact (Zdh hf he hr h).quiet.mono fun v h => ⟨vs, h⟩
  | beq2 => simp only [evR, AOp.looks, cond_true] at h; exact (Zfy hf he hr h).quiet.mono fun v h => ⟨vs, h⟩
  | isNilP => simp only [evR, AOp.looks, cond_true] at h; exact (Zdn hf he hr h).quiet.mono fun v h => ⟨vs, h⟩
  | mapLen => simp only [evR, AOp.looks, cond_true] at h; exact (Zdj hf he hr h).quiet.mono fun v h => ⟨vs, h⟩
  | mapGet => simp only [evR, AOp.looks, cond_true] at h; exact (Zdk hf he hr h).quiet.mono fun v h => ⟨vs, h⟩
  | mkFn => simp only [evR, AOp.looks, cond_true] at h; exact (Zfo hf he hr h).quiet.mono fun v h => ⟨vs, h⟩
  | _ => simp only [evR, AOp.looks, cond_false] at h
theorem ZbN {Γ : ZaE} (hΓ : ZaT P Γ) {ops : Array Oper} {Q : Act -> Prop} {ρ : Rho} {H : Heap} (hw : ∃ w, Rel w0 fp ρ H w) : ∀ (its : Items) (g : Option (Nat × Bool)) (top : Option Nat) (ds : List Nat) (os os' : List Oper) (ds' : List Nat) (vs : List SVal) (e : Env) (K : List SVal -> Env -> Prop) (a : Act),
    Items.fits P nt ops.toList g top ds its os = some (os', ds') -> lets g a.tmps -> (∀ t w, g = some (t, w) -> top = some t /\ t ∉ ds) -> evR Γ H its vs e K -> EnvOk ρ H.next nt e a.tmps -> a.defers = [] ->
    (∀ vs' e' a', K vs' e' -> EnvOk ρ H.next nt e' a'.tmps -> a'.defers = [] -> (∀ s, s ∉ ds' -> a'.tmps[s]? = a.tmps[s]?) -> wpQuiet P ops (fun w => Rel w0 fp ρ H w) Q os' a') -> wpQuiet P ops (fun w => Rel w0 fp ρ H w) Q os a
  | .nil, g, top, ds, os, os', ds', vs, e, K, a, hf, hl, ht, hev, h3, h4, hk => by
    simp only [Items.fits, Option.some.injEq, Prod.mk.injEq] at hf
    obtain ⟨rfl, rfl⟩ := hf
    exact hk vs e a hev h3 h4 (fun _ _ => rfl)
  | .op d x r, g, top, ds, os, os', ds', vs, e, K, a, hf, hl, ht, hev, h3, h4, hk => by
    cases os with
    | nil => simp [Items.fits] at hf
    | cons o os =>
      simp only [Items.fits] at hf
      obtain ⟨hc, hf⟩ := ZaK hf
      simp only [Bool.and_eq_true] at hc
      obtain ⟨⟨⟨hdst, hfit⟩, hgd⟩, htop⟩ := hc
      obtain ⟨hde, _⟩ := Ze3 hdst
      have hsub := ZbX r g top _ os os' ds' hf
      obtain ⟨sv, ⟨vs', hK⟩, hok, hq⟩ := ZtC hΓ hfit h3 hw hev
      refine ZhX (Zb0 hgd hl) ⟨_, hq, ?_⟩
      have hg' : ∀ t w, g = some (t, w) -> top = some t /\ t ∉ d.toList ++ ds := fun t w hgt => by
        refine ⟨(ht t w hgt).1, fun hm => ?_⟩
        rcases List.mem_append.1 hm with hm | hm
        · cases d with
          | none => simp at hm
          | some d => simp at hm; subst hm; rw [(ht _ w hgt).1] at htop; simp [ZhS] at htop
        · exact (ht t w hgt).2 hm
      have hl' : lets g (a.put o.dst (sv.conc ρ)).tmps := by
        cases g with
        | none => trivial
        | some p =>
          obtain ⟨t, wt⟩ := p
          simp only [lets] at hl ⊢
          rw [<- hde, Zb3 (fun h => (hg' t wt rfl).2 (by rw [h]; simp))]
          exact hl
      refine ZbN hΓ hw r g top _ os os' ds' vs' _ K _ hf hl' hg' hK (h3.put (fun _ _ => rfl) (Nat.le_refl _) hdst hok) (by rw [ZaX]; exact h4)
        fun vs'' e' a' hK' g3 g4 ho => hk vs'' e' a' hK' g3 g4 fun s hs => ?_
      rw [ho s hs, <- hde, Zb3 (fun h => hs (hsub s (by rw [h]; simp)))]
  | .grp t wt b r, g, top, ds, os, os', ds', vs, e, K, a, hf, hl, ht, hev, h3, h4, hk => by
    simp only [Items.fits] at hf
    obtain ⟨hc, hf⟩ := ZaK hf
    rw [Bool.and_eq_true] at hc
    have htn : t < nt := Nat.le_of_ble_eq_true hc.2
    split at hf
    · rename_i os1 ds1 hb1
      obtain ⟨hc1, hfr⟩ := ZaK hf
      have hsub := ZbX r g top _ os1 os' ds' hfr
      have hout : ∀ t' w', g = some (t', w') -> t' ∉ ds1 := fun t' w' hg => by
        rw [(ht t' w' hg).1] at hc1
        simpa [ZeE] using hc1
      have hg' : ∀ t' w', g = some (t', w') -> top = some t' /\ t' ∉ ds1 ++ ds := fun t' w' hg =>
        ⟨(ht t' w' hg).1, fun hm => (List.mem_append.1 hm).elim (hout t' w' hg) (ht t' w' hg).2⟩
      have hlet : ∀ a1 : Act, (∀ s, s ∉ ds1 -> a1.tmps[s]? = a.tmps[s]?) -> lets g a1.tmps := fun a1 h1 => by
        cases g with
        | none => trivial
        | some p => obtain ⟨t', w'⟩ := p; simp only [lets] at hl ⊢; rw [h1 t' (hout t' w' rfl)]; exact hl
      simp only [evR] at hev
      split at hev
      · rename_i c hget
        obtain ⟨hy, hn⟩ := hev
        have hat := h3.at htn hget
        by_cases hcw : c = wt
        · subst hcw
          refine ZbN hΓ hw b (some (t, c)) (some t) [] os os1 ds1 _ _ _ a hb1 (by simpa [lets, SVal.conc] using hat) (fun t' w' h => by cases h; simp) (hy rfl) (h3.same hget) h4 fun vs1 e1 a1 hK1 k3 k4 ho1 => ?_
          refine ZbN hΓ hw r g top _ os1 os' ds' vs1 e1 K a1 hfr (hlet a1 ho1) hg' hK1 k3 k4 fun vs'' e' a' hK' g3 g4 ho => hk vs'' e' a' hK' g3 g4 fun s hs => ?_
          rw [ho s hs, ho1 s (fun h => hs (hsub s (List.mem_append_left _ h)))]
        · have hcn : c = !wt := by cases c <;> cases wt <;> simp_all
          subst hcn
          refine Zbu (W := wpQuiet P ops (fun w => Rel w0 fp ρ H w) Q) (fun _ _ _ h1 h2 => Zfm h1 h2) b t wt [] os os1 ds1 a hb1 h3.1 (by unfold blocked; rw [hat]; simp [SVal.conc]) (by simp) (by simp) fun a1 hd1 he1 => ?_
          refine ZbN hΓ hw r g top _ os1 os' ds' _ _ K a1 hfr (hlet a1 hd1.other) hg' (hn rfl) (he1 _ _ _ (h3.same hget)) (hd1.defers.trans h4) fun vs'' e' a' hK' g3 g4 ho => hk vs'' e' a' hK' g3 g4 fun s hs => ?_
          rw [ho s hs, hd1.other s (fun h => hs (hsub s (List.mem_append_left _ h)))]
      · exact hev.elim
    · cases hf
  | .grpJ t wt b d x y r, g, top, ds, os, os', ds', vs, e, K, a, hf, hl, ht, hev, h3, h4, hk => by
    simp only [Items.fits] at hf
    obtain ⟨hc, hf⟩ := ZaK hf
    rw [Bool.and_eq_true] at hc
    have htn : t < nt := Nat.le_of_ble_eq_true hc.2
    split at hf
    · rename_i o os1 ds1 hb1
      obtain ⟨hc1, hfr⟩ := ZaK hf
      simp only [Bool.and_eq_true] at hc1
      obtain ⟨⟨⟨⟨⟨hto, htk⟩, hdst⟩, hgd⟩, hyo⟩, hpick⟩ := hc1
      obtain ⟨hde, hdl⟩ := Ze3 hdst
      have hsub := ZbX r g top _ os1 os' ds' hfr
      have htds : t ∉ ds1 := (Zbz b _ t [] os _ ds1 hb1 (by simp)).1
      have hout : ∀ t' w', g = some (t', w') -> t' ∉ ds1 /\ t' ≠ d := fun t' w' hg => by
        rw [(ht t' w' hg).1] at hto htk
        exact ⟨by simpa [ZeE] using hto, fun h => by subst h; simp [ZhS] at htk⟩
      have hg' : ∀ t' w', g = some (t', w') -> top = some t' /\ t' ∉ d :: (ds1 ++ ds) := fun t' w' hg => by
        refine ⟨(ht t' w' hg).1, fun hm => ?_⟩
        simp only [List.mem_cons, List.mem_append] at hm
        rcases hm with h | h | h
        · exact (hout t' w' hg).2 h
        · exact (hout t' w' hg).1 h
        · exact (ht t' w' hg).2 h
      have hlet : ∀ a1 : Act, (∀ s, s ∉ ds1 -> a1.tmps[s]? = a.tmps[s]?) -> lets g a1.tmps := fun a1 h1 => by
        cases g with
        | none => trivial
        | some p => obtain ⟨t', w'⟩ := p; simp only [lets] at hl ⊢; rw [h1 t' (hout t' w' rfl).1]; exact hl
      have hlet2 : ∀ (a1 : Act) v, lets g a1.tmps -> lets g (a1.put o.dst v).tmps := fun a1 v h1 => by
        cases g with
        | none => trivial
        | some p =>
          obtain ⟨t', w'⟩ := p
          simp only [lets] at h1 ⊢
          rw [<- hde, Zb3 (fun h => (hout t' w' rfl).2 (by simpa using h.symm))]
          exact h1
      unfold ZhY at hpick
      split at hpick
      · rename_i s u v hop
        rw [Bool.and_eq_true] at hpick
        have hs := Nat.eq_of_beq_eq_true hpick.1
        subst hs
        simp only [evR] at hev
        split at hev
        · rename_i c hget
          obtain ⟨q, hy, hn, hrest⟩ := hev
          have hat := h3.at htn hget
          -- the pick, once it is known which one
          have fin : ∀ (a1 : Act), (∀ z, z ∉ ds1 -> a1.tmps[z]? = a.tmps[z]?) -> a1.tmps.size = nt -> a1.defers = [] ->
              (a1.eval (if c then u else v) = .bool q) -> wpQuiet P ops (fun w => Rel w0 fp ρ H w) Q (o :: os1) a1 := fun a1 ho1 hsz1 hdf1 hval => by
            have hc1 : a1.eval (.tmp s) = .bool c := by
              have : a1.tmps[s]? = some (.bool c) := by rw [ho1 s htds, hat]; rfl
              exact Zn2 this
            have hrun : ∀ w1 : World, (execOp a1.eval o).run P w1 = .ok (.value (.bool q)) w1 := fun w1 => by
              simp only [execOp, hop, hc1, asBool]
              cases c <;> simp_all
            refine ZhX (Zb0 hgd (hlet a1 ho1)) ⟨.bool q, fun w _ => ?_, ?_⟩
            · unfold Oper.quietAt; rw [hrun w]; exact ⟨rfl, rfl⟩
            have hen : EnvOk ρ H.next nt (ZnW b e) a1.tmps := ⟨hsz1, fun z zv hz => by
              obtain ⟨k1, k2⟩ := Zdm b _ _ [] os _ ds1 e z zv hb1 hz
              have hzn : z ∉ ds1 := fun h => by simpa using k2 h
              have := h3.2 z zv k1
              refine ⟨this.1, ?_⟩
              rw [Array.getD_eq_getD_getElem?, ho1 z hzn, <- Array.getD_eq_getD_getElem?, this.2]⟩
            have hen2 := hen.put (ρ' := ρ) (n' := H.next) (v := .bool q) (fun _ _ => rfl) (Nat.le_refl _) hdst (by simp [SVal.ok])
            simp only [SVal.conc] at hen2
            refine ZbN hΓ hw r g top _ os1 os' ds' _ _ K _ hfr (hlet2 a1 _ (hlet a1 ho1)) hg' hrest hen2 (by rw [ZaX]; exact hdf1)
              fun vs'' e' a' hK' g3 g4 ho => hk vs'' e' a' hK' g3 g4 fun z hz => ?_
            rw [ho z hz, <- hde, Zb3 (fun h => hz (hsub z (by simp at h; simp [h]))), ho1 z (fun h => hz (hsub z (by simp [h])))]
          by_cases hcw : c = wt
          · subst hcw
            refine ZbN hΓ hw b (some (s, c)) (some s) [] os (o :: os1) ds1 _ _ _ a hb1 (by simpa [lets, SVal.conc] using hat) (fun t' w' h => by cases h; simp) (hy rfl) (h3.same hget) h4 fun vs1 e1 a1 hx g3 g4 ho1 => ?_
            refine fin a1 ho1 g3.1 g4 ?_
            have hxf : x.fits (if c then u else v) = true := by cases c <;> simp_all
            obtain ⟨xv, hxv, _, hxe⟩ := Opd.ev_sound hxf g3 hx
            obtain rfl := Zj1 hxv
            rw [hxe]; rfl
          · have hcn : c = !wt := by cases c <;> cases wt <;> simp_all
            subst hcn
            refine Zbu (W := wpQuiet P ops (fun w => Rel w0 fp ρ H w) Q) (fun _ _ _ h1 h2 => Zfm h1 h2) b s wt [] os (o :: os1) ds1 a hb1 h3.1 (by unfold blocked; rw [hat]; simp [SVal.conc]) (by simp) (by simp) fun a1 hd1 he1 => ?_
            refine fin a1 hd1.other (hd1.size.trans h3.1) (hd1.defers.trans h4) ?_
            have hyf : y.fits (if !wt then u else v) = true := by cases wt <;> simp_all
            obtain ⟨yv, hyv, _, hye⟩ := Opd.ev_sound hyf h3 (hn rfl)
            obtain rfl := Zj1 hyv
            rw [Zk1 hyf hyo hd1.other, hye]; rfl
        · exact hev.elim
      · cases hpick
    · cases hf
end
abbrev ZcJ := X -> Env -> Heap -> Prop
def SemA (P : Program) (w0 : World) (fp : Nat -> Nat -> Prop) (ρi : Rho) (n0 nt : Nat) (c : ACode) (e : Env) (H : Heap) (K : ZcJ) : Prop := ∀ c', c.fits P nt c' = true -> ZpI P w0 fp ρi n0 nt c' e H K
def AtEnd (w0 : World) (fp : Nat -> Nat -> Prop) (ρi : Rho) (n0 nt : Nat) (K : ZcJ) (x : X) (e : Env) (H : Heap) : Prop := ∀ ex a w, ZJi ex x -> St w0 fp ρi n0 nt e H a w -> ZrT w0 fp ρi n0 nt K ex a w
def ZvD (S : Env -> Heap -> Prop) (K : ZcJ) : ZcJ
  | .nrm, e, H => S e H
  | .ex i, e, H => K (.ex i) e H
  | .ret, e, H => K .ret e H
def SemL (P : Program) (w0 : World) (fp : Nat -> Nat -> Prop) (ρi : Rho) (n0 nt : Nat) : List ACode -> Env -> Heap -> ZcJ -> Prop
  | [], e, H, K => AtEnd w0 fp ρi n0 nt K .nrm e H
  | c :: r, e, H, K => SemA P w0 fp ρi n0 nt c e H (ZvD (fun e H => SemL P w0 fp ρi n0 nt r e H K) K)
def ZbH (i : Nat) (S : Env -> Heap -> Prop) (K : ZcJ) : ZcJ
  | .nrm, e, H => S e H
  | .ex j, e, H => bif Nat.beq j i then S e H else K (.ex j) e H
  | .ret, e, H => K .ret e H
def Zd6 : List Nat -> Env -> Env
  | [], _ => []
  | k :: ks, e => match ZeF e k with
    | some v => (k, some v) :: Zd6 ks e
    | none => Zd6 ks e
def Zbv : List Nat -> Heap -> List (Nat × Option Ent)
  | [], _ => []
  | k :: ks, H => match H.find k with
    | some en => (k, some en) :: Zbv ks H
    | none => Zbv ks H
def Heap.keep (H : Heap) (hs : List Nat) : Heap := ⟨H.next, Zbv hs H⟩
theorem Zj6 (k : Nat) (v : Option SVal) (r : Env) (n : Nat) : ZeF ((k, v) :: r) n = if k = n then v else ZeF r n := by
  simp only [ZeF]
  by_cases h : k = n
  · subst h; simp
  · have hb : Nat.beq k n = false := by
      cases hb : Nat.beq k n
      · rfl
      · exact absurd (Nat.eq_of_beq_eq_true hb) h
    simp [hb, h]
theorem ZiB {e : Env} {s : Nat} {v : SVal} : ∀ {ks : List Nat}, ZeF (Zd6 ks e) s = some v -> ZeF e s = some v
  | [], h => by cases h
  | k :: ks, h => by
    simp only [Zd6] at h
    split at h
    · rename_i u hu
      rw [Zj6] at h
      split at h
      · rename_i hk; subst hk; rw [hu]; exact h
      · exact ZiB h
    · exact ZiB h
theorem ZbF {H : Heap} {hs : List Nat} {i : Nat} {en : Ent} (h : (H.keep hs).find i = some en) : H.find i = some en := by
  unfold Heap.keep Heap.find at h
  simp only at h
  induction hs with
  | nil => cases h
  | cons k ks ih =>
    simp only [Zbv] at h
    split at h
    · rename_i u hu
      rw [ZaH] at h
      split at h
      · rename_i hk; subst hk; rw [hu]; exact h
      · exact ih h
    · exact ih h
theorem Rel.keep {w0 w : World} {fp : Nat -> Nat -> Prop} {ρ : Rho} {H : Heap} (h : Rel w0 fp ρ H w) (hs : List Nat) : Rel w0 fp ρ (H.keep hs) w :=
  ⟨h.frame, fun i en he => h.ents i en (ZbF he), fun i en he => h.oks i en (ZbF he), fun i en he => h.own i en (ZbF he),
    fun i j en en' hne he he' => h.apart i j en en' hne (ZbF he) (ZbF he'), fun i en he => h.next i en (ZbF he), fun i en he => h.ro i en (ZbF he), fun i en he => h.mnew i en (ZbF he), h.ab.less (fun i e he => ZbF he), h.hid.less fun i e he => ZbF he⟩
section
variable {w0 : World} {fp : Nat -> Nat -> Prop} {ρi : Rho} {n0 nt : Nat}
theorem St.pick {e : Env} {H : Heap} {a : Act} {w : World} (ks hs : List Nat) (h : St w0 fp ρi n0 nt e H a w) : St w0 fp ρi n0 nt (Zd6 ks e) (H.keep hs) a w := by
  obtain ⟨ρ, h1, h2, h3, h4, h5⟩ := h
  exact ⟨ρ, h1, h2, ⟨h3.1, fun s u hu => h3.2 s u (ZiB hu)⟩, h4, h5.keep hs⟩
end
def evN (Γ : ZaE) : List Nat -> List MStep -> List (List Nat) -> Env -> Heap -> (Env -> Heap -> Prop) -> Prop
  | _, [], _, e, H, K => K e H
  | G, .mk _ 0 d x :: r, hss, e, H, K => bif x.looks then Zbe Γ x e (H.keep (hss.headD [] ++ G)) fun v _ => evN Γ (hss.headD [] ++ G) r hss.tail (put d v e) H K else False
  | G, .mk _ 1 d x :: r, hss, e, H, K => Zbe Γ x e H fun v H' => Zbk H' (H.keep G) (Zbv G H) /\ evN Γ G r hss.tail (put d v e) H' K
  | _, .mk _ _ d x :: r, hss, e, H, K => Zbe Γ x e H fun v H' => evN Γ [] r hss.tail (put d v e) H' K
theorem ZcG {H : Heap} {G : List Nat} {i : Nat} {en : Ent} (hi : i ∈ G) (h : H.find i = some en) : (H.keep G).find i = some en := by
  unfold Heap.keep Heap.find
  simp only
  induction G with
  | nil => cases hi
  | cons k ks ih =>
    simp only [Zbv]
    by_cases hk : k = i
    · subst hk; simp only [h]; rw [ZaH, if_pos rfl]
    · have hi' : i ∈ ks := by
        rcases List.mem_cons.1 hi with h1 | h1
        · exact absurd h1.symm hk
        · exact h1
      split
      · rw [ZaH, if_neg hk]; exact ih hi'
      · exact ih hi'
theorem ZkS {H : Heap} {G : List Nat} {i : Nat} {en : Ent} (h : (H.keep G).find i = some en) : i ∈ G := by
  unfold Heap.keep Heap.find at h
  simp only at h
  induction G with
  | nil => cases h
  | cons k ks ih =>
    simp only [Zbv] at h
    split at h
    · rw [ZaH] at h
      split at h
      · rename_i hk; subst hk; simp
      · exact List.mem_cons_of_mem _ (ih h)
    · exact List.mem_cons_of_mem _ (ih h)
theorem Rel.keepSub {w0 w : World} {fp : Nat -> Nat -> Prop} {ρ : Rho} {H : Heap} {G G' : List Nat} (h : Rel w0 fp ρ (H.keep G') w) (hs : ∀ i, i ∈ G -> i ∈ G') : Rel w0 fp ρ (H.keep G) w := by
  have hf : ∀ i en, (H.keep G).find i = some en -> (H.keep G').find i = some en := fun i en he => ZcG (hs i (ZkS he)) (ZbF he)
  exact ⟨h.frame, fun i en he => h.ents i en (hf i en he), fun i en he => h.oks i en (hf i en he), fun i en he => h.own i en (hf i en he),
    fun i j en en' hne he he' => h.apart i j en en' hne (hf i en he) (hf j en' he'), fun i en he => h.next i en (hf i en he), fun i en he => h.ro i en (hf i en he), fun i en he => h.mnew i en (hf i en he), h.ab.less hf, h.hid.less hf⟩
theorem ZiN {H : Heap} {G : List Nat} : Zbk H (H.keep G) (Zbv G H) := by
  have key : ∀ l : List (Nat × Option Ent), (∀ p ∈ l, H.find p.1 = (H.keep G).find p.1) -> Zbk H (H.keep G) l := fun l => by
    induction l with
    | nil => intro _; trivial
    | cons p r ih => intro h; exact ⟨h p (by simp), ih fun q hq => h q (by simp [hq])⟩
  refine key _ fun p hp => ?_
  have hm : ∀ (ks : List Nat), p ∈ Zbv ks H -> p.1 ∈ ks /\ ∃ en, H.find p.1 = some en := fun ks => by
    induction ks with
    | nil => intro h; cases h
    | cons k ks ih =>
      intro h
      simp only [Zbv] at h
      split at h
      · rename_i en he
        rcases List.mem_cons.1 h with rfl | h
        · exact ⟨by simp, en, he⟩
        · exact ⟨List.mem_cons_of_mem _ (ih h).1, (ih h).2⟩
      · exact ⟨List.mem_cons_of_mem _ (ih h).1, (ih h).2⟩
  obtain ⟨h1, en, h2⟩ := hm G hp
  rw [h2, ZcG h1 h2]
section
variable {P : Program} {w0 : World} {fp : Nat -> Nat -> Prop} {nt : Nat}
theorem Zfp {Γ : ZaE} (hΓ : ZaT P Γ) {ops : Array Oper} {Q : Exit -> Act -> World -> Prop} (hsel : Region.noSelect ops = true) (hQ : ∀ c a w, ¬ Q (.panic c) a w) : ∀ (steps : List MStep) (hss : List (List Nat)) (G : List Nat) (listed : Array Bool) (e : Env) (H : Heap) (ρ : Rho) (K : Env -> Heap -> Prop) (a : Act) (w : World),
    Zjz P nt ops listed steps = true -> listed.size = ops.size -> Shut .any ops listed -> evN Γ G steps hss e H K -> Rel w0 fp ρ H w -> EnvOk ρ H.next nt e a.tmps -> a.defers = [] ->
    (∀ ρ' e' H' a' w', K e' H' -> (∀ i, i < H.next -> ρ' i = ρ i) -> H.next <= H'.next -> EnvOk ρ' H'.next nt e' a'.tmps -> a'.defers = [] -> Rel w0 fp ρ' H' w' -> Q .normal a' w') ->
    ZcP P .any ops Q (Zih w0 fp ρ (H.keep G) (ZaN ops.size steps)) steps.length listed a w
  | [], hss, G, listed, e, H, ρ, K, a, w, hf, hz, hd, hev, hr, he, hdf, hk => by
    simp only [Zjz, List.isEmpty_iff] at hf
    exact ⟨hf, hk ρ e H a w (by simpa only [evN] using hev) (fun _ _ => rfl) (Nat.le_refl _) he hdf hr⟩
  | .mk i k d x :: r, hss, G, listed, e, H, ρ, K, a, w, hf, hz, hd, hev, hr, he, hdf, hk => by
    simp only [Zjz] at hf
    split at hf
    · rename_i o ho
      simp only [Bool.and_eq_true, Option.isNone_iff_eq_none] at hf
      obtain ⟨⟨⟨⟨hg, hdst⟩, hfit⟩, hkind⟩, hrest⟩ := hf
      have hwant : ∀ t, Region.wanted o (yielded ops t) = true := fun t => by unfold Region.wanted; simp only [hg]
      obtain ⟨hde, _⟩ := Ze3 hdst
      have hil : i < ops.size := (Array.getElem?_eq_some_iff.1 ho).1
      have hnx : i ≠ ZaN ops.size r := fun h => by
        have h1 := ZiF r _ hrest (by simpa using hz)
        rw [<- h] at h1
        simp [hz, hil] at h1
      -- an operation that does something: none but it may come up
      have does : Region.ready .any ops listed = [i] -> ∀ (S : Array Bool -> World -> Prop), (o.wp P a w (fun a' w' => S (listed.setIfInBounds i true) w' /\ ZcP P .any ops Q S r.length (listed.setIfInBounds i true) a' w') Q) ->
          ZcP P .any ops Q S (r.length + 1) listed a w := fun hrd S h => by
        refine ⟨fun h0 => (by rw [hrd] at h0; cases h0), fun j hj => ?_⟩
        rw [hrd, List.mem_singleton] at hj
        subst hj
        unfold wpOp
        simp only [ho, hwant, if_true]
        exact .inl h
      have hshut : ∀ (_ : Region.ready .any ops listed = [i]), Shut .any ops (listed.setIfInBounds i true) := fun hrd => hd.add (by rw [hrd]; simp)
      rcases (show k = 0 ∨ k = 1 ∨ 2 <= k by omega) with rfl | rfl | hk2
      · simp only [Nat.beq, cond_true, Bool.and_eq_true] at hkind
        obtain ⟨⟨hrd, hfree⟩, hw⟩ := hkind
        simp only [evN] at hev
        generalize hG' : hss.headD [] ++ G = G' at hev
        have hsub : ∀ i, i ∈ G -> i ∈ G' := fun i hi => by rw [<- hG']; exact List.mem_append_right _ hi
        cases hlk : x.looks with
        | false => rw [hlk] at hev; exact hev.elim
        | true =>
          rw [hlk] at hev
          simp only [cond_true] at hev
          have hq : Looks P a o w0 fp ρ (H.keep G') fun v _ => evN Γ G' r hss.tail (put d v e) H K := ZkJ hlk hfit he (hr.keep G') hev
          obtain ⟨sv, hK, hok, hrun⟩ := hq
          have hnl : ZaN ops.size (.mk i 0 d x :: r) = ZaN ops.size r := rfl
          have hne : i ≠ ZaN ops.size r := hnx
          rw [hnl]
          refine Zbx (S' := Zih w0 fp ρ (H.keep G') (ZaN ops.size r)) (fun _ => True) (fun _ _ h => h) (fun l w _ h h0 => (h h0).keepSub hsub) _ _ _ _ trivial ?_
          refine Zdg (U := fun w => Rel w0 fp ρ (H.keep G') w) ho (Region.noSelect_spec hsel) hQ (fun l w => ?_) (fun l w hsh hlz hil' hs => ?_) r.length listed a w hd hz (Region.free_spec ho hfree) (by simpa using hrd) (.inl ⟨hwant _, hrun⟩) (fun _ => hr.keep G') ?_
          · unfold Zih; rw [ZcA hne]
          · refine hs ?_
            rw [Bool.or_eq_true] at hw
            rcases hw with h1 | h1
            · rw [Nat.eq_of_beq_eq_true h1]
              simp [hlz]
            · exact Zd2 hsh hil' _ _ h1
          · refine Zfp hΓ hsel hQ r _ G' _ _ H ρ K _ w hrest (by simpa using hz) (hd.add (by simpa using hrd)) hK hr (he.put (fun _ _ => rfl) (Nat.le_refl _) hdst hok) (by rw [ZaX]; exact hdf) hk
      · simp only [Nat.beq, cond_false, decide_eq_true_eq] at hkind
        simp only [evN] at hev
        have hnl : ZaN ops.size (.mk i 1 d x :: r) = ZaN ops.size r := rfl
        rw [hnl]
        refine does hkind _ (Zd7 hΓ hfit he hr hev fun v w' hp => ?_)
        obtain ⟨ρ', sv, H', ⟨hkp, hK⟩, rfl, hok, hρ, hnxt, hr'⟩ := hp
        have hforget : ∀ w, Rel w0 fp ρ' (H'.keep G) w -> Rel w0 fp ρ (H.keep G) w := fun w h => h.forget (fun i en he => ZcG (ZkS he) (ZeU (H := H.keep G) hkp i en he)) (hr.keep G) hρ
        refine ⟨fun _ => hforget _ (hr'.keep G), Zbx (S' := Zih w0 fp ρ' (H'.keep G) (ZaN ops.size r)) (fun _ => True) (fun _ _ h => h) (fun l w _ h h0 => hforget _ (h h0)) _ _ _ _ trivial ?_⟩
        refine Zfp hΓ hsel hQ r _ G _ _ H' ρ' K _ w' hrest (by simpa using hz) (hshut hkind) hK hr' (he.put hρ hnxt hdst hok) (by rw [ZaX]; exact hdf) (fun ρ2 e2 H2 a2 w2 h1 h2 h3 h4 h5 h6 => hk ρ2 e2 H2 a2 w2 h1 (fun j hj => by rw [h2 j (by omega), hρ j hj]) (by omega) h4 h5 h6)
      · have hk0 : Nat.beq k 0 = false := by cases k with | zero => omega | succ k => rfl
        rw [hk0] at hkind
        simp only [cond_false, decide_eq_true_eq] at hkind
        have hev : Zbe Γ x e H fun v H' => evN Γ [] r hss.tail (put d v e) H' K := by
          match k, hk2 with
          | k + 2, _ => simpa only [evN] using hev
        have hnl : ZaN ops.size (.mk i k d x :: r) = i := by
          simp only [ZaN]
          rw [show Nat.ble 2 k = true from Nat.ble_eq_true_of_le hk2]; rfl
        rw [hnl]
        refine does hkind _ (Zd7 hΓ hfit he hr hev fun v w' hp => ?_)
        obtain ⟨ρ', sv, H', hK, rfl, hok, hρ, hnxt, hr'⟩ := hp
        have hset : (listed.setIfInBounds i true).getD i false = true := by simp [hz, hil]
        refine ⟨fun h => (by rw [hset] at h; cases h), Zbx (S' := Zih w0 fp ρ' (H'.keep []) (ZaN ops.size r)) (fun l => l.getD i false = true) (fun l j h => getD_set_true h) (fun l w hl _ h0 => (by rw [hl] at h0; cases h0)) _ _ _ _ hset ?_⟩
        refine Zfp hΓ hsel hQ r _ [] _ _ H' ρ' K _ w' hrest (by simpa using hz) (hshut hkind) hK hr' (he.put hρ hnxt hdst hok) (by rw [ZaX]; exact hdf) (fun ρ2 e2 H2 a2 w2 h1 h2 h3 h4 h5 h6 => hk ρ2 e2 H2 a2 w2 h1 (fun j hj => by rw [h2 j (by omega), hρ j hj]) (by omega) h4 h5 h6)
    · cases hf
end
section
variable {P : Program} {w0 : World} {fp : Nat -> Nat -> Prop} {ρi : Rho} {n0 nt : Nat} {e : Env} {H : Heap} {K : ZcJ} {r : List ACode}
theorem Zwj {x : X} (h : K x e H) : AtEnd w0 fp ρi n0 nt K x e H := fun _ _ _ hx hs => ⟨x, e, H, hx, h, hs⟩
theorem AtEnd.sub {x : X} {τ : Nat -> Part} {e' : Env} {H' : Heap} (hs : Sub n0 τ e H e' H') (h : AtEnd w0 fp ρi n0 nt K x e' H') : AtEnd w0 fp ρi n0 nt K x e H := fun ex a w hx hst => h ex a w hx (hst.sub hs)
theorem SemA.sub {c : ACode} {τ : Nat -> Part} {e' : Env} {H' : Heap} (hs : Sub n0 τ e H e' H') (h : SemA P w0 fp ρi n0 nt c e' H' K) : SemA P w0 fp ρi n0 nt c e H K := fun c' hf a w hst => h c' hf a w (hst.sub hs)
theorem SemL.sub {τ : Nat -> Part} {e' : Env} {H' : Heap} (hs : Sub n0 τ e H e' H') (h : SemL P w0 fp ρi n0 nt r e' H' K) : SemL P w0 fp ρi n0 nt r e H K := by
  cases r with
  | nil => exact AtEnd.sub hs h
  | cons c r => exact SemA.sub hs h
theorem SemL.pick (ks hs : List Nat) (h : SemL P w0 fp ρi n0 nt r (Zd6 ks e) (H.keep hs) K) : SemL P w0 fp ρi n0 nt r e H K := by
  cases r with
  | nil => exact fun ex a w hx hst => h ex a w hx (hst.pick ks hs)
  | cons c r => exact fun c' hf a w hst => h c' hf a w (hst.pick ks hs)
def ZGU (Z : Env -> Heap -> Prop) : ZcJ
  | .nrm, e, H => Z e H
  | .ex _, _, _ => False
  | .ret, _, _ => False
def Λ0 : Zrf := fun _ _ _ _ => False
structure EvC (Γ : ZaE) (a : ACode) (e : Env) (H : Heap) (ks hs : List Nat) (Z : Env -> Heap -> Prop) : Prop where
  h : ZdS Γ Λ0 a e H (ZGU fun e' H' => Z (Zd6 ks e') (H'.keep hs))
theorem EvC.of {Γ : ZaE} {a : ACode} {e : Env} {H : Heap} {ks hs : List Nat} {Z : Env -> Heap -> Prop} {F : Prop} (heq : ZdS Γ Λ0 a e H (ZGU fun e' H' => Z (Zd6 ks e') (H'.keep hs)) = F) (h : F) : EvC Γ a e H ks hs Z := ⟨Eq.mpr heq h⟩
structure EvQC (Γ : ZaE) (its : Items) (vs : List SVal) (e : Env) (H : Heap) (ks hs : List Nat) (Z : Env -> Heap -> Prop) : Prop where
  h : evR Γ H its vs e fun _ e' => Z (Zd6 ks e') (H.keep hs)
theorem EvQC.of {Γ : ZaE} {its : Items} {vs : List SVal} {e : Env} {H : Heap} {ks hs : List Nat} {Z : Env -> Heap -> Prop} {F : Prop} (heq : (evR Γ H its vs e fun _ e' => Z (Zd6 ks e') (H.keep hs)) = F) (h : F) : EvQC Γ its vs e H ks hs Z := ⟨Eq.mpr heq h⟩
structure EvNC (Γ : ZaE) (steps : List MStep) (hss : List (List Nat)) (e : Env) (H : Heap) (ks hs : List Nat) (Z : Env -> Heap -> Prop) : Prop where
  h : evN Γ [] steps hss e H fun e' H' => Z (Zd6 ks e') (H'.keep hs)
theorem EvNC.of {Γ : ZaE} {steps : List MStep} {hss : List (List Nat)} {e : Env} {H : Heap} {ks hs : List Nat} {Z : Env -> Heap -> Prop} {F : Prop} (heq : (evN Γ [] steps hss e H fun e' H' => Z (Zd6 ks e') (H'.keep hs)) = F) (h : F) : EvNC Γ steps hss e H ks hs Z := ⟨Eq.mpr heq h⟩
structure RetC (R : Res) (e : Env) (H : Heap) (v : SVal) : Prop where
  h : ∀ Z : SVal -> Prop, Z v -> R.ev e H Z
theorem RetC.of {R : Res} {e : Env} {H : Heap} {v : SVal} (heq : ∀ Z : SVal -> Prop, R.ev e H Z = Z v) : RetC R e H v := ⟨fun Z h => Eq.mpr (heq Z) h⟩
theorem Zak {Γ : ZaE} (hΓ : ZaT P Γ) {a : ACode} {ks hs : List Nat} (h : EvC Γ a e H ks hs fun e H => SemL P w0 fp ρi n0 nt r e H K) : SemL P w0 fp ρi n0 nt (a :: r) e H K := by
  have h := h.h
  intro c' hf ac w hst
  refine Code.wp_mono ?_ (Zc0 hΓ (Λ := Λ0) (fun _ _ _ _ h => h.elim) a c' e H _ hf h ac w hst)
  rintro ex a' w' ⟨xx, e', H', h1, h2, h3⟩
  cases xx with
  | nrm => exact ⟨.nrm, e', H', h1, SemL.pick ks hs h2, h3⟩
  | ex i => exact h2.elim
  | ret => exact h2.elim
theorem ZHD {Γ : ZaE} (hΓ : ZaT P Γ) {its : Items} (vs : List SVal) (ks hs : List Nat) (h : evR Γ H its vs e fun _ e' => SemL P w0 fp ρi n0 nt r (Zd6 ks e') (H.keep hs) K) : SemL P w0 fp ρi n0 nt (.regQ its :: r) e H K := by
  intro c' hf
  cases c' <;> first | (simp only [ACode.fits] at hf; cases hf; done) | skip
  rename_i id ops draw
  simp only [ACode.fits, Bool.and_eq_true] at hf
  obtain ⟨⟨⟨hd, hm⟩, hB⟩, hf⟩ := hf
  subst hd
  split at hf
  · rename_i ds' hfit
    intro a w hst
    obtain ⟨ρ, h1, h2, h3, h4, h5⟩ := hst
    exact wp_region_quiet (C := fun w => Rel w0 fp ρ H w) hm hB (h5.drew _) (ZbN hΓ ⟨w, h5⟩ its none none [] ops.toList [] ds' vs e _ a hfit trivial (fun _ _ h => by cases h) h h3 h4
      fun vs' e' a' hK g3 g4 _ => wpQuiet_nil fun w' hw' => ⟨.nrm, e', H, trivial, SemL.pick ks hs hK, ρ, h1, h2, g3, g4, hw'⟩)
  · cases hf
theorem ZHE {Γ : ZaE} (hΓ : ZaT P Γ) {steps : List MStep} (hss : List (List Nat)) (ks hs : List Nat) (h : evN Γ [] steps hss e H fun e' H' => SemL P w0 fp ρi n0 nt r (Zd6 ks e') (H'.keep hs) K) : SemL P w0 fp ρi n0 nt (.regM steps :: r) e H K := by
  intro c' hf
  cases c' <;> first | (simp only [ACode.fits] at hf; cases hf; done) | skip
  rename_i id ops draw
  simp only [ACode.fits, Bool.and_eq_true] at hf
  obtain ⟨⟨⟨⟨hd, hm⟩, hsel⟩, hlen⟩, hf⟩ := hf
  subst hd
  intro a w hst
  obtain ⟨ρ, h1, h2, h3, h4, h5⟩ := hst
  refine wp_region_any hm (Zfi (S := Zih w0 fp ρ (H.keep []) (ZaN ops.size steps)) _ _ _ _ ?_)
  have hle := Nat.eq_of_beq_eq_true hlen
  have hQ : ∀ c a w, ¬ ZrT w0 fp ρi n0 nt (ZvD (fun e H => SemL P w0 fp ρi n0 nt r e H K) K) (.panic c) a w := by
    rintro c a w ⟨xx, _, _, h, _⟩
    cases xx <;> exact h.elim
  have hsh : Shut .any ops (Array.replicate ops.size false) := by
    intro j o ho hj
    have hlt : j < ops.size := (Array.getElem?_eq_some_iff.1 ho).1
    simp [hlt] at hj
  have hmix := Zfp hΓ hsel hQ steps hss [] _ e H ρ _ a { w with drawn := w.drawn + 1 } hf (by simp) hsh h (h5.drew _) h3 h4 fun ρ' e' H' a' w' hK g1 g2 g3 g4 g5 =>
    ⟨.nrm, e', H', trivial, SemL.pick ks hs hK, ρ', fun i hi => by rw [g1 i (by omega), h1 i hi], by omega, g3, g4, g5⟩
  rw [hle] at hmix
  exact hmix
theorem Zgc {Γ : ZaE} (hΓ : ZaT P Γ) {its : Items} {vs : List SVal} {ks hs : List Nat} (h : EvQC Γ its vs e H ks hs fun e H => SemL P w0 fp ρi n0 nt r e H K) : SemL P w0 fp ρi n0 nt (.regQ its :: r) e H K := ZHD hΓ vs ks hs h.h
theorem ZeB {Γ : ZaE} (hΓ : ZaT P Γ) {steps : List MStep} {hss : List (List Nat)} {ks hs : List Nat} (h : EvNC Γ steps hss e H ks hs fun e H => SemL P w0 fp ρi n0 nt r e H K) : SemL P w0 fp ρi n0 nt (.regM steps :: r) e H K := ZHE hΓ hss ks hs h.h
theorem Zan {x y : ACode} (h : SemL P w0 fp ρi n0 nt (x :: y :: r) e H K) : SemL P w0 fp ρi n0 nt (.seq x y :: r) e H K := by
  intro c' hf
  cases c' <;> first | (simp only [ACode.fits] at hf; cases hf; done) | skip
  rename_i x' y'
  simp only [ACode.fits, Bool.and_eq_true] at hf
  intro a w hst
  refine wp_seq (Code.wp_mono ?_ (h x' hf.1 a w hst))
  rintro ex a' w' ⟨xx, e', H', h1, h2, h3⟩
  cases ex <;> cases xx <;> first | exact h1.elim | skip
  · exact h2 y' hf.2 a' w' h3
  · exact ⟨_, e', H', h1, h2, h3⟩
  · exact ⟨_, e', H', h1, h2, h3⟩
theorem Zbb (h : SemL P w0 fp ρi n0 nt r e H K) : SemL P w0 fp ρi n0 nt (.skip :: r) e H K := by
  intro c' hf
  cases c' <;> first | (simp only [ACode.fits] at hf; cases hf; done) | skip
  exact fun a w hst => wp_skip ⟨.nrm, e, H, trivial, h, hst⟩
theorem Zch (h : K .nrm e H) : SemL P w0 fp ρi n0 nt [] e H K := Zwj h
theorem ZI5 (h : K .ret e H) : SemL P w0 fp ρi n0 nt (.ret :: r) e H K := by
  intro c' hf
  cases c' <;> first | (simp only [ACode.fits] at hf; cases hf; done) | skip
  exact fun a w hst => wp_ret ⟨.ret, e, H, trivial, h, hst⟩
theorem ZfK {i : Nat} (h : K (.ex i) e H) : SemL P w0 fp ρi n0 nt (.exit i :: r) e H K := by
  intro c' hf
  cases c' <;> first | (simp only [ACode.fits] at hf; cases hf; done) | skip
  rename_i j
  have : i = j := Nat.eq_of_beq_eq_true (by simpa only [ACode.fits] using hf)
  subst this
  exact fun a w hst => wp_exit ⟨.ex i, e, H, rfl, h, hst⟩
theorem SemA.of_L {c : ACode} (h : SemL P w0 fp ρi n0 nt [c] e H K) : SemA P w0 fp ρi n0 nt c e H K := by
  intro c' hf a w hst
  refine Code.wp_mono ?_ (h c' hf a w hst)
  rintro ex a' w' ⟨xx, e', H', h1, h2, h3⟩
  cases xx with
  | nrm => exact h2 ex a' w' h1 h3
  | ex i => exact ⟨_, e', H', h1, h2, h3⟩
  | ret => exact ⟨_, e', H', h1, h2, h3⟩
theorem Za0 {n : Nat} {t f : ACode} {q : Bool} (hq : ZeF e n = some (.bool q)) (ht : q = true -> SemL P w0 fp ρi n0 nt (t :: r) e H K) (hf' : q = false -> SemL P w0 fp ρi n0 nt (f :: r) e H K) : SemL P w0 fp ρi n0 nt (.cond (.tm n) t f :: r) e H K := by
  intro c' hf
  cases c' <;> first | (simp only [ACode.fits] at hf; cases hf; done) | skip
  rename_i x' t' f'
  simp only [ACode.fits, Bool.and_eq_true] at hf
  intro a w hst
  obtain ⟨ρ, h1, h2, h3, h4, h5⟩ := hst
  have hev : Opd.ev e (.tm n) (fun v => v = .bool q) := by simp only [Opd.ev, hq]
  obtain ⟨v, hv, _, hve⟩ := Opd.ev_sound hf.1.1 h3 hev
  subst hv
  refine wp_cond (t := q) (by rw [hve]; rfl) ?_
  cases q with
  | true => exact ht rfl t' hf.1.2 a w ⟨ρ, h1, h2, h3, h4, h5⟩
  | false => exact hf' rfl f' hf.2 a w ⟨ρ, h1, h2, h3, h4, h5⟩
theorem Zbi {i : Nat} {b : ACode} (h : SemL P w0 fp ρi n0 nt [b] e H (ZbH i (fun e H => SemL P w0 fp ρi n0 nt r e H K) K)) : SemL P w0 fp ρi n0 nt (.block i b :: r) e H K := by
  intro c' hf
  cases c' <;> first | (simp only [ACode.fits] at hf; cases hf; done) | skip
  rename_i id' b'
  simp only [ACode.fits, Bool.and_eq_true] at hf
  have hid := Nat.eq_of_beq_eq_true hf.1
  subst hid
  intro a w hst
  refine wp_block (Code.wp_mono ?_ (SemA.of_L h b' hf.2 a w hst))
  rintro ex a' w' ⟨xx, e', H', h1, h2, h3⟩
  cases ex <;> cases xx <;> first | exact h1.elim | skip
  · exact ⟨.nrm, e', H', trivial, h2, h3⟩
  · rename_i j j'
    have hij : j = j' := h1
    subst hij
    simp only [Exit.inBlock]
    simp only [ZbH] at h2
    split
    · rename_i hi
      subst hi
      simp only [Nat.beq_refl, cond_true] at h2
      exact ⟨.nrm, e', H', trivial, h2, h3⟩
    · rename_i hi
      have hb : Nat.beq j i = false := by
        cases hb : Nat.beq j i
        · rfl
        · exact absurd (Nat.eq_of_beq_eq_true hb) hi
      rw [hb] at h2
      exact ⟨.ex j, e', H', rfl, h2, h3⟩
  · exact ⟨_, e', H', h1, h2, h3⟩
def ZhT (n0 : Nat) {S : Type} (inv : S -> Prop) (μ : S -> Nat) (I : S -> Env) (J : S -> Heap) (x : S) (K : ZcJ) : ZcJ
  | .nrm, e, H => ∃ x' τ, inv x' /\ μ x' < μ x /\ Sub n0 τ e H (I x') (J x')
  | .ex i, e, H => K (.ex i) e H
  | .ret, e, H => K .ret e H
theorem ZfJ {b : ACode} {S : Type} (inv : S -> Prop) (μ : S -> Nat) (I : S -> Env) (J : S -> Heap) (start : ∃ x τ, inv x /\ Sub n0 τ e H (I x) (J x))
    (step : ∀ x, inv x -> SemL P w0 fp ρi n0 nt [b] (I x) (J x) (ZhT n0 inv μ I J x K)) : SemL P w0 fp ρi n0 nt (.loop b :: r) e H K := by
  intro c' hf
  cases c' <;> first | (simp only [ACode.fits] at hf; cases hf; done) | skip
  rename_i b'
  simp only [ACode.fits] at hf
  intro a w hst
  obtain ⟨x0, τ0, hi0, hs0⟩ := start
  have hst0 := hst.sub hs0
  intro bf k cs
  have key : ∀ n x a w, μ x = n -> inv x -> St w0 fp ρi n0 nt (I x) (J x) a w ->
      ∃ ex a' w', ZrT w0 fp ρi n0 nt (ZvD (fun e H => SemL P w0 fp ρi n0 nt r e H K) K) ex a' w' /\ Arrives P (lone (bf.at a (.code b' :: .inLoop b' :: k)) cs w) bf k cs ex a' w' := by
    intro n
    induction n using Nat.strongRecOn with
    | _ n ih =>
      intro x a w hn hix hI
      obtain ⟨ex, a₁, w₁, hq, harr⟩ := SemA.of_L (step x hix) b' hf a w hI bf (.inLoop b' :: k) cs
      obtain ⟨xx, e', H', h1, h2, h3⟩ := hq
      cases ex <;> cases xx <;> first | exact h1.elim | skip
      · obtain ⟨x', τ, hix', hlt, hs⟩ := h2
        obtain ⟨e₂, a₂, w₂, hq₂, harr₂⟩ := ih (μ x') (hn ▸ hlt) x' a₁ w₁ rfl hix' (h3.sub hs)
        exact ⟨e₂, a₂, w₂, hq₂, .of_steps (Steps.trans harr (.one step_inLoop)) harr₂⟩
      · exact ⟨_, a₁, w₁, ⟨_, e', H', h1, h2, h3⟩, .pass (x := .inLoop b') rfl (fun _ _ => .inl (by simp)) harr⟩
      · exact ⟨_, a₁, w₁, ⟨_, e', H', h1, h2, h3⟩, .pass (x := .inLoop b') rfl (fun _ _ => .inl (by simp)) harr⟩
  obtain ⟨ex, a', w', hq, harr⟩ := key _ x0 a w rfl hi0 hst0
  exact ⟨ex, a', w', hq, .of_steps (.one step_loop) harr⟩
theorem Zvf {s : Nat} {z : List Chunk} (hz : Zbl z = true) (h0 : Zam z = 0) (hs : ZeF e s = some .nilslice) (h : SemL P w0 fp ρi n0 nt r ((s, some (ZtK z H)) :: e) (ZkK z H) K) : SemL P w0 fp ρi n0 nt r e H K := by
  have key : ∀ a w, St w0 fp ρi n0 nt e H a w -> St w0 fp ρi n0 nt ((s, some (ZtK z H)) :: e) (ZkK z H) a w := by
    rintro a w ⟨ρ, h1, h2, h3, h4, h5⟩
    obtain ⟨g1, g2, g3⟩ := Zh1 h5 hz h0
    have hup : ∀ i, i < H.next -> ρ.up H.next none i = ρ i := Rho.up_lt
    refine ⟨ρ.up H.next none, fun i hi => by rw [hup i (by omega), h1 i hi], by simp [ZkK, Heap.push]; omega, ⟨h3.1, fun t u hu => ?_⟩, h4, g1⟩
    rw [Zj6] at hu
    split at hu
    · rename_i ht
      subst ht
      cases hu
      refine ⟨g2, ?_⟩
      rw [(h3.2 _ _ hs).2, g3]; rfl
    · have := h3.2 t u hu
      exact ⟨SVal.ok_mono hup (by simp [ZkK, Heap.push]) _ this.1, by rw [this.2, SVal.conc_congr hup _ this.1]⟩
  cases r with
  | nil => exact fun ex a w hx hst => h ex a w hx (key a w hst)
  | cons c r => exact fun c' hf a w hst => h c' hf a w (key a w hst)
end
theorem Rel.retold {w w0 : World} {fp : Nat -> Nat -> Prop} {ρ : Rho} {H : Heap} {id : Nat} {en : Ent} {cs' : List Chunk} (h : Rel w0 fp ρ H w) (he : H.find id = some en) (hok : ZaV ρ H.next cs') (hc : Zai ρ cs' = Zai ρ en.cs) (hnm : en.wr = true ∨ en.ex = 0 /\ ZbR cs' = none) :
    Rel w0 fp ρ (H.set id ⟨en.wr, cs', en.ex⟩) w := by
  have hl : Zam cs' = Zam en.cs := by rw [<- Zar ρ, hc, Zar]
  have hf : ∀ i e, (H.set id ⟨en.wr, cs', en.ex⟩).find i = some e -> ∃ e0, H.find i = some e0 /\ ZaV ρ H.next e.cs /\ e.wr = e0.wr /\ e.ex = e0.ex /\ Zai ρ e.cs = Zai ρ e0.cs /\ Zam e.cs = Zam e0.cs /\ (e.wr = false -> e.ex ≠ 0 -> e = e0) /\ (e.wr = false -> ZbR e.cs = none ∨ e = e0) := fun i e hi => by
    rw [Heap.find_set] at hi
    split at hi
    · rename_i hid
      subst hid
      cases hi
      exact ⟨en, he, hok, rfl, rfl, hc, hl, (fun q1 q2 => by rcases hnm with h | h <;> simp_all), fun q1 => (by rcases hnm with h | h <;> simp_all)⟩
    · exact ⟨e, hi, h.oks _ _ hi, rfl, rfl, rfl, rfl, fun _ _ => rfl, fun _ => .inr rfl⟩
  have hw : ∀ i e e0 b o, e.ex = e0.ex -> Zam e.cs = Zam e0.cs -> Win ρ i e b o -> Win ρ i e0 b o := fun i e e0 b o hx hn hw => by
    unfold Win Ent.size at *
    rw [hx, hn] at hw
    exact hw
  refine ⟨h.frame, fun i e hi => ?_, fun i e hi => ?_, fun i e hi hwr b o hwin => ?_, fun i j e e' hne hi hj hwr b o h1 h2 => ?_, fun i e hi => ?_, fun i e hi => ?_, fun i e hi q1 q2 b base hb => ?_, ?_, ?_⟩
  · obtain ⟨e0, g1, g2, g3, g4, g5, g6, g7, g8⟩ := hf i e hi
    have hE := h.ents i e0 g1
    refine ⟨fun hn => ?_, fun b base hb k v hv => hE.cells b base hb k v (by rw [<- g5]; exact hv), fun hwr b base hb k hk => hE.own (by rw [<- g3]; exact hwr) b base hb k (by simp only [Ent.size] at *; omega), fun q1 q2 b base hb => by have q := g7 q1 (by omega); subst q; exact hE.mp q1 q2 b base hb⟩
    have := hE.nil hn
    simp only [Ent.size] at *
    omega
  · obtain ⟨e0, g1, g2, _⟩ := hf i e hi
    exact g2
  · obtain ⟨e0, g1, g2, g3, g4, g5, g6, g7, g8⟩ := hf i e hi
    exact h.own i e0 g1 (by rw [<- g3]; exact hwr) b o (hw _ _ _ _ _ g4 g6 hwin)
  · obtain ⟨e0, g1, g2, g3, g4, g5, g6, g7, g8⟩ := hf i e hi
    obtain ⟨e1, k1, k2, k3, k4, k5, k6, k7, _⟩ := hf j e' hj
    exact h.apart i j e0 e1 hne g1 k1 (by rw [<- g3]; exact hwr) b o (hw _ _ _ _ _ g4 g6 h1) (hw _ _ _ _ _ k4 k6 h2)
  · obtain ⟨e0, g1, _⟩ := hf i e hi
    exact h.next i e0 g1
  · obtain ⟨e0, g1, g2, g3, g4, g5, g6, g7, g8⟩ := hf i e hi
    rw [g3, g4, g6]
    exact h.ro i e0 g1
  · obtain ⟨e0, g1, g2, g3, g4, g5, g6, g7, g8⟩ := hf i e hi
    have q := g7 q1 (by omega); subst q; exact h.mnew i e g1 q1 q2 b base hb
  · refine h.ab.ren _root_.id (fun _ _ _ _ _ _ hne => hne) fun i e hi => ?_
    obtain ⟨e0, g1, g2, g3, g4, g5, g6, g7, g8⟩ := hf i e hi
    exact ⟨e0, g1, fun q1 q2 => by have q := g7 q1 (by omega); subst q; exact ⟨q1, q2, rfl, fun _ h => h⟩, fun x o hwin => hw _ _ _ _ _ g4 g6 hwin⟩
  · refine h.hid.to (fun i e hi hwr => ?_) (fun x o v _ ⟨i, e, hi, hwr, hwin⟩ => ?_) fun _ _ _ hc _ => hc
    · obtain ⟨e0, g1, g2, g3, g4, g5, g6, g7, g8⟩ := hf i e hi
      rcases g8 hwr with g | g
      · exact .inr ⟨i, e0, g1, by rw [<- g3]; exact hwr, fun hn => absurd g hn⟩
      · subst g; exact .inr ⟨i, e, g1, hwr, fun _ => rfl⟩
    · obtain ⟨e0, g1, g2, g3, g4, g5, g6, g7, g8⟩ := hf i e hi
      exact ⟨i, e0, g1, by rw [<- g3]; exact hwr, hw _ _ _ _ _ g4 g6 hwin⟩
section
variable {P : Program} {w0 : World} {fp : Nat -> Nat -> Prop} {ρi : Rho} {n0 nt : Nat} {r : List ACode} {e : Env} {H : Heap} {K : ZcJ}
theorem Zwq {id : Nat} {en : Ent} (zs : Zs) (hz : zsB zs = true) (he : H.find id = some en) {cs' : List Chunk} {H' : Heap} (hd : (fun Z : List Chunk -> Heap -> Prop => Zvq (dnV 8) en.cs zs H fun cs _ H => Z cs H) = fun Z => Z cs' H')
    (h : SemL P w0 fp ρi n0 nt r e (H'.set id ⟨en.wr, cs', en.ex⟩) K) (hnm : en.wr = true ∨ en.ex = 0 /\ ZbR cs' = none := by first | exact .inl rfl | exact .inr ⟨rfl, rfl⟩) : SemL P w0 fp ρi n0 nt r e H K := by
  have key : ∀ a w, St w0 fp ρi n0 nt e H a w -> St w0 fp ρi n0 nt e (H'.set id ⟨en.wr, cs', en.ex⟩) a w := by
    rintro a w ⟨ρ, h1, h2, h3, h4, h5⟩
    have h6 : Zvq (dnV 8) en.cs zs H fun cs _ H => cs = cs' /\ H = H' := by
      have := congrFun hd (fun cs H => cs = cs' /\ H = H')
      exact cast this.symm ⟨rfl, rfl⟩
    obtain ⟨_, _, _, ρ', ⟨rfl, rfl⟩, _, g2, g3, g4, g5, g6, g7⟩ := Zi2 (ZqN 8) en.cs zs H _ ρ h6 hz h5 (h5.oks _ _ he)
    have hid := h5.next _ _ he
    refine ⟨ρ', fun i hi => by rw [g5 i (by omega), h1 i hi], Nat.le_trans h2 g6, ⟨h3.1, fun t u hu => ?_⟩, h4, g2.retold (by rw [g7 id hid, he]) g3 (by rw [g4, Zbh g5 _ (h5.oks _ _ he)]) hnm⟩
    have := h3.2 t u hu
    exact ⟨SVal.ok_mono g5 g6 _ this.1, by rw [this.2, SVal.conc_congr g5 _ this.1]⟩
  cases r with
  | nil => exact fun ex a w hx hst => h ex a w hx (key a w hst)
  | cons c r => exact fun c' hf a w hst => h c' hf a w (key a w hst)
end
def fnK (R : Res) (n0 : Nat) (K : SVal -> Heap -> Prop) : ZcJ
  | .nrm, e, H => R.ev e H fun r => Ret n0 K r H
  | .ret, e, H => R.ev e H fun r => Ret n0 K r H
  | .ex _, _, _ => False
theorem ZaQ {P : Program} {c : ACode} {R : Res} {f : FuncId} {np nt : Nat} {S : ZrR} (hf : Zbr P f np nt c R = true)
    (hev : ∀ args H K, S args H K -> args.length = np /\ ∀ w0 fp ρi, SemL P w0 fp ρi H.next nt [c] (Zni 0 args) H (fnK R H.next K)) : Sound P f S := by
  intro args H K hS ρ w hr hok
  obtain ⟨hnp, hev⟩ := hev args H K hS
  unfold Zbr at hf
  split at hf
  · rename_i fn hfn
    split at hf
    · rename_i b hb
      simp only [Bool.and_eq_true] at hf
      obtain ⟨⟨⟨hnt, hle⟩, hfit⟩, hres⟩ := hf
      have hnt := Nat.eq_of_beq_eq_true hnt
      have hle := Nat.le_of_ble_eq_true hle
      refine calls_of_wp hfn hb ?_
      have hlen : (ZaJ ρ args).toArray.size = np := by simp [Zfc, hnp]
      have hst : St w (Zj7 ρ H) ρ H.next nt (Zni 0 args) H { tmps := (ZaJ ρ args).toArray ++ Array.replicate (fn.ntmps - (ZaJ ρ args).toArray.size) undef, defers := [] } w := by
        refine ⟨ρ, fun _ _ => rfl, Nat.le_refl _, ⟨by simp only [Array.size_append, hlen, Array.size_replicate]; omega, fun s v hv => ?_⟩, rfl, hr⟩
        obtain ⟨_, h1, h2⟩ := Zki args 0 s v hok hv
        refine ⟨h1, ?_⟩
        simp only [Nat.sub_zero] at h2
        have hs : s < (ZaJ ρ args).length := (List.getElem?_eq_some_iff.1 h2).1
        rw [Array.getD_eq_getD_getElem?, Array.getElem?_append_left (by simpa using hs)]
        simp [h2]
      refine Code.wp_mono ?_ (SemA.of_L (hev w (Zj7 ρ H) ρ) b hfit _ _ hst)
      rintro ex a' w' ⟨x, e', H', h1, h2, ρ', g1, g2, g3, g4, g5⟩
      cases ex <;> cases x <;> first | exact h1.elim | exact h2.elim | skip
      · obtain ⟨r, hK, hrok, hrun⟩ := ZmH (P := P) hres g3 g5 h2
        obtain ⟨ρ'', r', H'', k1, k2, k3, k4, k5, k6⟩ := ZmG hK g2 g1 g5 hrok
        exact ⟨g4, _, hrun, ρ'', r', H'', k1, by rw [k2], k3, k4, k5, k6⟩
      · obtain ⟨r, hK, hrok, hrun⟩ := ZmH (P := P) hres g3 g5 h2
        obtain ⟨ρ'', r', H'', k1, k2, k3, k4, k5, k6⟩ := ZmG hK g2 g1 g5 hrok
        exact ⟨g4, _, hrun, ρ'', r', H'', k1, by rw [k2], k3, k4, k5, k6⟩
    · cases hf
  · cases hf
theorem ZaL {P : Program} {w0 : World} {fp : Nat -> Nat -> Prop} {ρi : Rho} {n0 nt m : Nat} {e : Env} {H : Heap} {K : ZcJ} {r : List ACode} {R : Res} {Kf : SVal -> Heap -> Prop} {v : SVal} (hk : ∀ e H, fnK R m Kf .ret e H -> K .ret e H) (hv : RetC R e H v) (h : Ret m Kf v H) :
    SemL P w0 fp ρi n0 nt (.ret :: r) e H K := ZI5 (hk _ _ (hv.h _ h))
theorem ZwO {P : Program} {w0 : World} {fp : Nat -> Nat -> Prop} {ρi : Rho} {n0 nt m : Nat} {e : Env} {H : Heap} {K : ZcJ} {R : Res} {Kf : SVal -> Heap -> Prop} {v : SVal} (hk : ∀ e H, fnK R m Kf .nrm e H -> K .nrm e H) (hv : RetC R e H v) (h : Ret m Kf v H) :
    SemL P w0 fp ρi n0 nt [] e H K := Zch (hk _ _ (hv.h _ h))
def Zhz : SVal -> Bool
  | .agg cs => Zbl cs
  | v => Ziy v
def ZiA : List SVal -> Bool
  | [] => true
  | v :: r => Zhz v && ZiA r
def Zqz : SVal -> Bool
  | .tuple vs => ZiA vs
  | v => Zhz v
theorem ZmK {ρ : Rho} {n : Nat} {v : SVal} (h : Zhz v = true) : v.ok ρ n /\ v.conc ρ = v.conc ρ0 := by
  cases v with
  | agg cs =>
    have := ZbP (ρ := ρ) (n := n) (cs := cs) h
    exact ⟨by simp only [SVal.ok]; exact this.1, by simp only [SVal.conc, this.2]⟩
  | _ => exact Zgp h
theorem Ziz {ρ : Rho} {n : Nat} : ∀ {vs : List SVal}, ZiA vs = true -> okL ρ n vs /\ ZaJ ρ vs = ZaJ ρ0 vs
  | [], _ => by simp [okL, ZaJ]
  | v :: r, h => by
    simp only [ZiA, Bool.and_eq_true] at h
    have h1 := ZmK (ρ := ρ) (n := n) h.1
    have h2 := Ziz (ρ := ρ) (n := n) h.2
    exact ⟨by simp only [okL]; exact ⟨h1.1, h2.1⟩, by simp only [ZaJ, h1.2, h2.2]⟩
theorem ZmJ {ρ : Rho} {n : Nat} {v : SVal} (h : Zqz v = true) : v.ok ρ n /\ v.conc ρ = v.conc ρ0 := by
  cases v with
  | tuple vs =>
    have := Ziz (ρ := ρ) (n := n) (vs := vs) h
    exact ⟨by simp only [SVal.ok]; exact this.1, by simp only [SVal.conc, this.2]⟩
  | agg cs => exact ZmK (v := .agg cs) h
  | _ => exact Zgp h
theorem ZgU {τ : Nat -> Part} {n : Nat} : ∀ {v : SVal}, Ziy v = true -> v.ren τ = v /\ v.bd n := by
  intro v h
  unfold Ziy at h
  split at h <;> first | (cases h; done) | (simp [SVal.ren, SVal.bd, Ziw, bdL]; done)
theorem Zc2 {τ : Nat -> Part} {n : Nat} : ∀ {cs : List Chunk}, Zbl cs = true -> ZaW τ cs = cs /\ ZfA n cs
  | [], _ => by simp [ZaW, ZfA]
  | .one v :: r, h => by
    simp only [Zbl, Bool.and_eq_true] at h
    have h1 := ZgU (τ := τ) (n := n) h.1
    have h2 := Zc2 (τ := τ) (n := n) h.2
    exact ⟨by simp only [ZaW, Chunk.ren, h1.1, h2.1], by simp only [ZfA, Chunk.bd]; exact ⟨h1.2, h2.2⟩⟩
  | .ints _ _ _ :: r, h => by
    have h2 := Zc2 (τ := τ) (n := n) (cs := r) h
    exact ⟨by simp only [ZaW, Chunk.ren, h2.1], by simp only [ZfA, Chunk.bd]; exact ⟨trivial, h2.2⟩⟩
  | .rows _ _ _ :: r, h => by
    have h2 := Zc2 (τ := τ) (n := n) (cs := r) h
    exact ⟨by simp only [ZaW, Chunk.ren, h2.1], by simp only [ZfA, Chunk.bd]; exact ⟨trivial, h2.2⟩⟩
theorem ZgV {τ : Nat -> Part} {n : Nat} {v : SVal} (h : Zhz v = true) : v.ren τ = v /\ v.bd n := by
  cases v with
  | agg cs =>
    have := Zc2 (τ := τ) (n := n) (cs := cs) h
    exact ⟨by simp only [SVal.ren, this.1], by simp only [SVal.bd]; exact this.2⟩
  | _ => exact ZgU h
theorem ZjV {τ : Nat -> Part} {n : Nat} : ∀ {vs : List SVal}, ZiA vs = true -> Ziw τ vs = vs /\ bdL n vs
  | [], _ => by simp [Ziw, bdL]
  | v :: r, h => by
    simp only [ZiA, Bool.and_eq_true] at h
    have h1 := ZgV (τ := τ) (n := n) h.1
    have h2 := ZjV (τ := τ) (n := n) h.2
    exact ⟨by simp only [Ziw, h1.1, h2.1], by simp only [bdL]; exact ⟨h1.2, h2.2⟩⟩
theorem ZjU {τ : Nat -> Part} {n : Nat} {v : SVal} (h : Zqz v = true) : v.ren τ = v /\ v.bd n := by
  cases v with
  | tuple vs =>
    have := ZjV (τ := τ) (n := n) (vs := vs) h
    exact ⟨by simp only [SVal.ren, this.1], by simp only [SVal.bd]; exact this.2⟩
  | agg cs => exact ZgV (v := .agg cs) h
  | _ => exact ZgU h
theorem Zgm {n0 : Nat} {K : SVal -> Heap -> Prop} {r r' : SVal} {H : Heap} (hn : n0 = 0) (hp : Zqz r' = true) (h : r = r') (hK : K r' ⟨0, []⟩) : Ret n0 K r H := by
  subst h
  subst hn
  exact .inl ⟨Zd1, r, ⟨0, []⟩, fun i hi => absurd hi (by omega), Nat.le_refl _, (ZjU (n := 0) hp).1.symm, (ZjU (τ := Zd1) hp).2, trivial, trivial, hK⟩
abbrev Zvd := List SVal -> Option (Prop × SVal)
structure PCon where
  f : Nat
  spec : Zvd
def ZnP (S : Zvd) : ZrR := fun args H K => match S args with
  | some (pre, v) => pre /\ noH H (K v ⟨0, []⟩)
  | none => False
def Zv1 : List PCon -> Nat -> Option PCon
  | [], _ => none
  | c :: r, f => bif Nat.beq c.f f then some c else Zv1 r f
def Zci (ps : List PCon) (cs : List Con) : ZaE := fun f vs H K => match Zv1 ps f with
  | some c => (match c.spec vs with
    | some (pre, v) => bif ZiA vs && Zqz v then pre /\ K v H else False
    | none => False)
  | none => ZwW cs f vs H K
def Zmm (P : Program) : List PCon -> Prop
  | [] => True
  | c :: r => Sound P c.f (ZnP c.spec) /\ Zmm P r
theorem ZiW {P : Program} : ∀ {cs : List PCon} {f : Nat} {c : PCon}, Zmm P cs -> Zv1 cs f = some c -> Sound P f (ZnP c.spec)
  | [], _, _, _, h => by cases h
  | d :: r, f, c, hs, h => by
    simp only [Zmm] at hs
    simp only [Zv1] at h
    cases hb : Nat.beq d.f f with
    | true =>
      rw [hb] at h
      have := Nat.eq_of_beq_eq_true hb
      subst this
      cases h
      exact hs.1
    | false => rw [hb] at h; exact ZiW hs.2 h
theorem Rel.quietF {w0 w w' : World} {fp fc : Nat -> Nat -> Prop} {ρ : Rho} {H : Heap} (h : Rel w0 fp ρ H w) (hf : Frame w fc w') (hc : ∀ b o, ¬ fc b o) : Rel w0 fp ρ H w' := by
  refine ⟨h.frame.trans hf fun b o hb => (hc b o hb).elim, fun i en he => ?_, h.oks, h.own, h.apart, h.next, h.ro, h.mnew,
    h.ab.to hf.size (fun _ _ _ => rfl) (fun _ _ he _ _ => he) (fun _ e _ _ he hw => .inl ⟨_, e, he, hw, .inl rfl⟩) (fun x hx _ => hf.other x hx (hc x)),
    h.hid.to (fun id e he hwr => .inr ⟨id, e, he, hwr, fun _ => rfl⟩) (fun _ _ _ _ hw => hw) fun x o v hv _ => (hf.cell hv).1 (hc _ _)⟩
  have hE := h.ents i en he
  refine ⟨hE.nil, fun b base hb k v hv => (hf.cell (hE.cells b base hb k v hv)).1 (hc _ _), fun hw b base hb k hk => ?_, fun q1 q2 b base hb => (hE.mp q1 q2 b base hb).keep fun b es cl hm => (hf.other b (Array.getElem?_eq_some_iff.1 hm).1 (hc b)).trans hm⟩
  obtain ⟨⟨v, hv⟩, hz⟩ := hE.own hw b base hb k hk
  have := hf.cell hv
  exact ⟨this.2.1, by rw [this.2.2, hz]⟩
theorem ZkY {ρ : Rho} {b o : Nat} : ¬ Zj7 ρ ⟨0, []⟩ b o := fun ⟨id, en, he, _⟩ => by simp [Heap.find, Zc7] at he
theorem ZtA {ρ : Rho} {w : World} : Rel w (Zj7 ρ ⟨0, []⟩) ρ ⟨0, []⟩ w := Zwv (fun id en he => by simp [Heap.find, Zc7] at he) fun id en he => by simp [Heap.find, Zc7] at he
theorem ZaZ {P : Program} {ps : List PCon} {cs : List Con} (hp : Zmm P ps) (hc : ZgQ P cs) : ZaT P (Zci ps cs) := by
  intro f vs H K hev hb w0 fp ρ w hr hok
  unfold Zci at hev
  split at hev
  · rename_i c hfind
    split at hev
    · rename_i pre v hv
      obtain ⟨hpl, hpre, hK⟩ := Zao hev
      rw [Bool.and_eq_true] at hpl
      have hS := ZiW hp hfind
      have hcall := hS vs ⟨0, []⟩ (fun r H' => r = v) (by unfold ZnP; rw [hv]; exact ⟨hpre, rfl⟩) ρ w ZtA (Ziz hpl.1).1
      refine hcall.mono fun e w' ⟨ρ', r, H', h1, h2, _, _, _, h6⟩ => ?_
      subst h1
      subst h2
      have hv1 := ZmJ (ρ := ρ) (n := H.next) hpl.2
      refine ⟨_, rfl, ρ, r, H, hK, ?_, hv1.1, fun _ _ => rfl, Nat.le_refl _, hr.quietF h6.frame fun b o => ZkY⟩
      rw [(ZmJ (ρ := ρ') (n := 0) hpl.2).2, hv1.2]
    · exact hev.elim
  · exact Zvx hc f vs H K hev hb w0 fp ρ w hr hok
theorem Zct {H : Heap} : ∀ l : List (Nat × Option Ent), Zbk H H l
  | [] => trivial
  | _ :: r => ⟨rfl, Zct r⟩
theorem qa1 {c b : Bool} (h : c = true) : b = (c && b) := by rw [h]; rfl
theorem qa2 {c b : Bool} (h : c = false) : false = (c && b) := by rw [h]; rfl
theorem qo1 {c b : Bool} (h : c = false) : b = (c || b) := by rw [h]; rfl
theorem qo2 {c b : Bool} (h : c = true) : true = (c || b) := by rw [h]; rfl
def ZAO (l : List (Nat × Nat)) : List Nat -> Bool
  | [] => true
  | i :: r => (r.all fun j => Nat.beq j i || !(Nat.beq (ZvE l j) (ZvE l i))) && ZAO l r
theorem ZkT {l : List (Nat × Nat)} : ∀ {ents : List (Nat × Option Ent)}, ZAO l (ents.map (·.1)) = true -> ZgB (tau l) ents
  | [], _ => trivial
  | (i, en) :: r, h => by
    simp only [List.map_cons, ZAO, Bool.and_eq_true, List.all_eq_true] at h
    refine ⟨fun j hj => ?_, ZkT h.2⟩
    have := h.1 j hj
    simp only [Bool.or_eq_true, Bool.not_eq_true'] at this
    rcases this with h1 | h1
    · exact .inl (Nat.eq_of_beq_eq_true h1)
    · right
      intro h2
      have h3 : ZvE l j = ZvE l i := h2
      rw [h3, Nat.beq_refl] at h1
      cases h1
theorem ZaR {n0 : Nat} {e e' : Env} {H H' : Heap} (l : List (Nat × Nat)) (ids : List Nat) (h1 : Znl n0 l = true) (h2 : Nat.ble n0 H'.next = true) (h3 : Zdu (tau l) H'.next e e') (h5 : ZbI (tau l) H'.next H H'.ents)
    (h6 : H'.ents.map (·.1) = ids) (h7 : ZAO l ids = true) : Sub n0 (tau l) e H e' H' := Zw2 l h1 (Nat.le_of_ble_eq_true h2) h3 h5 (ZkT (h6 ▸ h7))
theorem Zrj (x : Int) : IntKind.i64.wrap x = (x + 9223372036854775808) % 18446744073709551616 - 9223372036854775808 := IntKind.wrap_i64 x
theorem ZmI {S : Zvd} {args : List SVal} {H : Heap} {K : SVal -> Heap -> Prop} (h : ZnP S args H K) : ∃ pre v, S args = some (pre, v) /\ pre /\ H = ⟨0, []⟩ /\ K v ⟨0, []⟩ := by
  unfold ZnP at h
  split at h
  · rename_i pre v hv
    obtain ⟨h1, h2⟩ := ZAi h.2
    exact ⟨pre, v, hv, h.1, h1, h2⟩
  · exact h.elim
theorem ZbV {n0 : Nat} {S : Type} {inv : S -> Prop} {μ : S -> Nat} {I : S -> Env} {J : S -> Heap} {x x' : S} {K : ZcJ} {e : Env} {H : Heap} {τ : Nat -> Part} (h1 : inv x') (h2 : μ x' < μ x) (h3 : Sub n0 τ e H (I x') (J x')) : ZhT n0 inv μ I J x K .nrm e H :=
  ⟨x', τ, h1, h2, h3⟩
theorem ZaB {τ : Nat -> Part} {n : Nat} {e : Env} : Zdu τ n e [] := trivial
theorem Zn7 {τ : Nat -> Part} {n s : Nat} {e r : Env} {v : SVal} (h : ZeF e s = some (v.ren τ)) (hb : v.bd n) (hr : Zdu τ n e r) : Zdu τ n e ((s, some v) :: r) := ⟨h, hb, hr⟩
theorem Zag {τ : Nat -> Part} {n : Nat} {H : Heap} : ZbI τ n H [] := trivial
theorem ZmV {l : List (Nat × Nat)} {n i : Nat} {H : Heap} {en : Ent} {r : List (Nat × Option Ent)} (h : H.find (ZvE l i) = some ⟨en.wr, ZaW (tau l) en.cs, en.ex⟩) (hb : ZfA n en.cs) (hn : Nat.blt i n = true) (hr : ZbI (tau l) n H r) :
    ZbI (tau l) n H ((i, some en) :: r) := ⟨h, hb, Nat.le_of_ble_eq_true hn, rfl, rfl, hr⟩
theorem ZHo {n m : Nat} {a : SAddr} (h : Nat.blt a.id n = true) : SVal.bd n (.ptr a m) := by simp only [SVal.bd]; exact Nat.le_of_ble_eq_true h
theorem Zwi {n l c : Nat} {a : SAddr} (h : Nat.blt a.id n = true) : SVal.bd n (.slice a l c) := by simp only [SVal.bd]; exact Nat.le_of_ble_eq_true h
theorem Zap {n : Nat} : ZfA n [] := trivial
theorem Zac {n : Nat} {v : SVal} {r : List Chunk} (h : v.bd n) (hr : ZfA n r) : ZfA n (.one v :: r) := by simp only [ZfA, Chunk.bd]; exact ⟨h, hr⟩
theorem Zaw {n m : Nat} {sh : List Leaf} {xs : List (Tup sh)} {r : List Chunk} (hr : ZfA n r) : ZfA n (.rows sh m xs :: r) := by simp only [ZfA, Chunk.bd]; exact ⟨trivial, hr⟩
theorem cg1 {α1 β : Type} (f : α1 -> β) {a1 b1 : α1} (h1 : a1 = b1) : f a1 = f b1 := by subst h1; rfl
theorem cg2 {α1 α2 β : Type} (f : α1 -> α2 -> β) {a1 b1 : α1} {a2 b2 : α2} (h1 : a1 = b1) (h2 : a2 = b2) : f a1 a2 = f b1 b2 := by subst h1 h2; rfl
theorem cg3 {α1 α2 α3 β : Type} (f : α1 -> α2 -> α3 -> β) {a1 b1 : α1} {a2 b2 : α2} {a3 b3 : α3} (h1 : a1 = b1) (h2 : a2 = b2) (h3 : a3 = b3) : f a1 a2 a3 = f b1 b2 b3 := by subst h1 h2 h3; rfl
theorem cg4 {α1 α2 α3 α4 β : Type} (f : α1 -> α2 -> α3 -> α4 -> β) {a1 b1 : α1} {a2 b2 : α2} {a3 b3 : α3} {a4 b4 : α4} (h1 : a1 = b1) (h2 : a2 = b2) (h3 : a3 = b3) (h4 : a4 = b4) : f a1 a2 a3 a4 = f b1 b2 b3 b4 := by subst h1 h2 h3 h4; rfl
theorem cg5 {α1 α2 α3 α4 α5 β : Type} (f : α1 -> α2 -> α3 -> α4 -> α5 -> β) {a1 b1 : α1} {a2 b2 : α2} {a3 b3 : α3} {a4 b4 : α4} {a5 b5 : α5} (h1 : a1 = b1) (h2 : a2 = b2) (h3 : a3 = b3) (h4 : a4 = b4) (h5 : a5 = b5) : f a1 a2 a3 a4 a5 = f b1 b2 b3 b4 b5 := by subst h1 h2 h3 h4 h5; rfl
theorem Zc3 {H : Heap} {i : Nat} {en : Option Ent} : ∀ {ks : List Nat}, (i, en) ∈ Zbv ks H -> i ∈ ks /\ H.find i = en
  | [], h => by cases h
  | k :: ks, h => by
    simp only [Zbv] at h
    split at h
    · rename_i e he
      rcases List.mem_cons.1 h with h | h
      · cases h; exact ⟨by simp, he⟩
      · exact ⟨List.mem_cons_of_mem _ (Zc3 h).1, (Zc3 h).2⟩
    · exact ⟨List.mem_cons_of_mem _ (Zc3 h).1, (Zc3 h).2⟩
theorem Zgt {H : Heap} {i : Nat} {en : Ent} : ∀ {ks : List Nat}, i ∈ ks -> H.find i = some en -> (i, some en) ∈ Zbv ks H
  | [], hi, _ => by cases hi
  | k :: ks, hi, he => by
    simp only [Zbv]
    by_cases hk : k = i
    · subst hk; rw [he]; simp
    · have hi' : i ∈ ks := by
        rcases List.mem_cons.1 hi with h1 | h1
        · exact absurd h1.symm hk
        · exact h1
      split
      · exact List.mem_cons_of_mem _ (Zgt hi' he)
      · exact Zgt hi' he
theorem ZmX {H H' : Heap} {ks : List Nat} (h : Zbv ks H' = Zbv ks H) {i : Nat} (hi : i ∈ ks) : H'.find i = H.find i := by
  cases h1 : H.find i with
  | some en => exact (Zc3 (h ▸ Zgt hi h1)).2
  | none =>
    cases h2 : H'.find i with
    | none => rfl
    | some en =>
      have := (Zc3 (h ▸ Zgt hi h2)).2
      rw [h1] at this; cases this
theorem ZkR {H' H : Heap} : ∀ {l : List (Nat × Option Ent)}, (∀ p ∈ l, H'.find p.1 = H.find p.1) -> Zbk H' H l
  | [], _ => trivial
  | p :: r, h => ⟨h p (by simp), ZkR fun q hq => h q (by simp [hq])⟩
theorem Zgz {H' H : Heap} (ids : List Nat) (h : Zbv ids H' = Zbv ids H) (h2 : H.ents.map (·.1) = ids) : Zbk H' H H.ents :=
  ZkR fun _ hp => ZmX h (h2 ▸ List.mem_map.2 ⟨_, hp, rfl⟩)
theorem Za5 {H' H : Heap} {G : List Nat} (h : Zbv G H' = Zbv G H) : Zbk H' (H.keep G) (Zbv G H) :=
  ZkR fun p hp => by
    obtain ⟨h1, h2⟩ := Zc3 (en := p.2) hp
    rw [ZmX h h1]
    cases he : H.find p.1 with
    | some en => rw [ZcG h1 he]
    | none =>
      cases h3 : (H.keep G).find p.1 with
      | none => rfl
      | some en => rw [ZbF h3] at he; cases he
theorem ZHF {P : Program} {w0 : World} {fp : Nat -> Nat -> Prop} {ρi : Rho} {n0 nt : Nat} {e e' : Env} {H H' : Heap} {K : ZcJ} {r : List ACode} (ks hs : List Nat) (h1 : Zd6 ks e = e') (h2 : H.keep hs = H') (h : SemL P w0 fp ρi n0 nt r e' H' K) :
    SemL P w0 fp ρi n0 nt r e H K := SemL.pick ks hs (by rw [h1, h2]; exact h)
end Go.Sx
