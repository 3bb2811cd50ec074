/- Part of the proof: SxV0. -/
import Derived.Test.YtinjdimejijabaaSxTop
import Derived.Test.YtinjdimejijabaaSxPlan
set_option linter.unusedVariables false
set_option linter.unusedSimpArgs false
namespace Go.Sx
theorem ZmE {e : Env} : ∀ {xs : List Opd} {K K' : List SVal -> Prop}, (∀ us, K us -> K' us) -> evL e xs K -> evL e xs K'
  | [], _, _, hk, h => hk _ h
  | _ :: _, _, _, hk, h => Opd.ev_mono (fun v hv => ZmE (fun us hu => hk _ hu) hv) h
def Zf6 : Items -> Nat
  | .nil => 0
  | .op _ (.call _ _) r => Zf6 r + 1
  | .op _ _ r => Zf6 r
  | .grp _ _ b r => Zf6 b + Zf6 r
  | .grpJ _ _ b _ _ _ r => Zf6 b + Zf6 r
def Zst : Nat -> List SVal -> List SVal
  | 0, l => l
  | _ + 1, [] => []
  | n + 1, _ :: r => Zst n r
def evR (Γ : ZaC) (H : Heap) : Items -> List SVal -> Env -> (List SVal -> Env -> Prop) -> Prop
  | .nil, vs, e, K => K vs e
  | .op d (.call f args) r, vs, e, K => match vs with
    | v :: vs => evL e args fun us => v.bd H.next /\ Γ f us H (fun u H' => u = v /\ Zbp H' H H.ents) /\ evR Γ H r vs (put d v e) K
    | [] => False
  | .op d x r, vs, e, K => bif x.looks then Za3 Γ x e H fun v _ => evR Γ H r vs (put d v e) K else False
  | .grp t want b r, vs, e, K => match ZdB e t with
    | some (.bool c) => (c = want -> evR Γ H b vs ((t, some (.bool want)) :: e) fun vs' e' => evR Γ H r vs' e' K) /\ (c = !want -> evR Γ H r (Zst (Zf6 b) vs) (Znr b ((t, some (.bool (!want))) :: e)) K)
    | _ => False
  | .grpJ t want b d x y r, vs, e, K => match ZdB e t with
    | some (.bool c) => ∃ q : Bool, (c = want -> evR Γ H b vs ((t, some (.bool want)) :: e) fun _ e' => x.ev e' fun v => isB v q) /\
        (c = (!want) -> y.ev e fun v => isB v q) /\ evR Γ H r (Zst (Zf6 b) vs) ((d, some (.bool q)) :: ZkJ b e) K
    | _ => False
section
variable {P : Program} {w0 : World} {fp : Nat -> Nat -> Prop} {nt : Nat}
theorem Quiet.mono {ρ : Rho} {H : Heap} {a : Act} {o : Oper} {K K' : SVal -> Prop} (h : Quiet P w0 fp ρ H a o K) (hk : ∀ v, K v -> K' v) : Quiet P w0 fp ρ H a o K' := by
  obtain ⟨sv, h1, h2⟩ := h
  exact ⟨sv, hk _ h1, h2⟩
theorem ZoA {Γ : ZaC} (hΓ : ZaR P Γ) {x : AOp} {o : Oper} {a : Act} {e : Env} {ρ : Rho} {H : Heap} {d : Option Nat} {r : Items} {vs : List SVal} {K : List SVal -> Env -> Prop}
    (hf : x.fits P o.op = true) (he : EnvOk ρ H.next nt e a.tmps) (hw : ∃ w, Rel w0 fp ρ H w) (h : evR Γ H (.op d x r) vs e K) : Quiet P w0 fp ρ H a o fun v => ∃ vs', evR Γ H r vs' (put d v e) K := by
  obtain ⟨w, hr⟩ := hw
  cases x with
  | call f args =>
    cases vs with
    | nil => exact h.elim
    | cons v vs =>
      simp only [evR] at h
      exact Zh3 hΓ hf he ⟨w, hr⟩ (ZmE (fun us h => ⟨v, h.1, h.2.1, vs, h.2.2⟩) h)
  | mov => simp only [evR, AOp.looks, cond_true] at h; exact (Ze8 hf he hr h).quiet.mono fun v h => ⟨vs, h⟩
  | pick => simp only [evR, AOp.looks, cond_true] at h; exact (Zei hf he hr h).quiet.mono fun v h => ⟨vs, h⟩
  | bin => simp only [evR, AOp.looks, cond_true] at h; exact (Zfs hf he hr h).quiet.mono fun v h => ⟨vs, h⟩
  | not => simp only [evR, AOp.looks, cond_true] at h; exact (Ze7 hf he hr h).quiet.mono fun v h => ⟨vs, h⟩
  | build => simp only [evR, AOp.looks, cond_true] at h; exact (Zdv hf he hr h).quiet.mono fun v h => ⟨vs, h⟩
  | load1 => simp only [evR, AOp.looks, cond_true] at h; exact (Zdi hf he hr h).quiet.mono fun v h => ⟨vs, h⟩
  | load1P => simp only [evR, AOp.looks, cond_true] at h; exact (ZcF hf he hr h).quiet.mono fun v h => ⟨vs, h⟩
  | eqPA => simp only [evR, AOp.looks, cond_true] at h; exact (Zep hf he hr h).quiet.mono fun v h => ⟨vs, h⟩
  | loadA => simp only [evR, AOp.looks, cond_true] at h; exact (Zdh hf he hr h).quiet.mono fun v h => ⟨vs, h⟩
  | fieldAddr => simp only [evR, AOp.looks, cond_true] at h; exact (ZbK hf he hr h).quiet.mono fun v h => ⟨vs, h⟩
  | idxS => simp only [evR, AOp.looks, cond_true] at h; exact (Zeo hf he hr h).quiet.mono fun v h => ⟨vs, h⟩
  | len => simp only [evR, AOp.looks, cond_true] at h; exact (ZbF hf he hr h).quiet.mono fun v h => ⟨vs, h⟩
  | min2 => simp only [evR, AOp.looks, cond_true] at h; exact (Zel hf he hr h).quiet.mono fun v h => ⟨vs, h⟩
  | max2 => simp only [evR, AOp.looks, cond_true] at h; exact (Zem hf he hr h).quiet.mono fun v h => ⟨vs, h⟩
  | extract => simp only [evR, AOp.looks, cond_true] at h; exact (Zch hf he hr h).quiet.mono fun v h => ⟨vs, h⟩
  | nilCheck => simp only [evR, AOp.looks, cond_true] at h; exact (ZbY hf he hr h).quiet.mono fun v h => ⟨vs, h⟩
  | sliceS => simp only [evR, AOp.looks, cond_true] at h; exact (ZcD hf he hr h).quiet.mono fun v h => ⟨vs, h⟩
  | beq2 => simp only [evR, AOp.looks, cond_true] at h; exact (Zer hf he hr h).quiet.mono fun v h => ⟨vs, h⟩
  | isNilP => simp only [evR, AOp.looks, cond_true] at h; exact (ZcI hf he hr h).quiet.mono fun v h => ⟨vs, h⟩
  | mapLen => simp only [evR, AOp.looks, cond_true] at h; exact (ZcE hf he hr h).quiet.mono fun v h => ⟨vs, h⟩
  | mkFn => simp only [evR, AOp.looks, cond_true] at h; exact (Zej hf he hr h).quiet.mono fun v h => ⟨vs, h⟩
  | _ => simp only [evR, AOp.looks, cond_false] at h
theorem Zbk {Γ : ZaC} (hΓ : ZaR P Γ) {ops : Array Oper} {Q : Act -> Prop} {ρ : Rho} {H : Heap} (hw : ∃ w, Rel w0 fp ρ H w) : ∀ (its : Items) (g : Option (Nat × Bool)) (top : Option Nat) (ds : List Nat) (os os' : List Oper) (ds' : List Nat) (vs : List SVal) (e : Env) (K : List SVal -> Env -> Prop) (a : Act),
    Items.fits P nt ops.toList g top ds its os = some (os', ds') -> lets g a.tmps -> (∀ t w, g = some (t, w) -> top = some t /\ t ∉ ds) -> evR Γ H its vs e K -> EnvOk ρ H.next nt e a.tmps -> a.defers = [] ->
    (∀ vs' e' a', K vs' e' -> EnvOk ρ H.next nt e' a'.tmps -> a'.defers = [] -> (∀ s, s ∉ ds' -> a'.tmps[s]? = a.tmps[s]?) -> wpQuiet P ops (fun w => Rel w0 fp ρ H w) Q os' a') -> wpQuiet P ops (fun w => Rel w0 fp ρ H w) Q os a
  | .nil, g, top, ds, os, os', ds', vs, e, K, a, hf, hl, ht, hev, h3, h4, hk => by
    simp only [Items.fits, Option.some.injEq, Prod.mk.injEq] at hf
    obtain ⟨rfl, rfl⟩ := hf
    exact hk vs e a hev h3 h4 (fun _ _ => rfl)
  | .op d x r, g, top, ds, os, os', ds', vs, e, K, a, hf, hl, ht, hev, h3, h4, hk => by
    cases os with
    | nil => simp [Items.fits] at hf
    | cons o os =>
      simp only [Items.fits] at hf
      obtain ⟨hc, hf⟩ := ZaB hf
      simp only [Bool.and_eq_true] at hc
      obtain ⟨⟨⟨hdst, hfit⟩, hgd⟩, htop⟩ := hc
      obtain ⟨hde, _⟩ := Zd2 hdst
      have hsub := Zbs r g top _ os os' ds' hf
      obtain ⟨sv, ⟨vs', hK⟩, hok, hq⟩ := ZoA hΓ hfit h3 hw hev
      refine Zgm (Zbv hgd hl) ⟨_, hq, ?_⟩
      have hg' : ∀ t w, g = some (t, w) -> top = some t /\ t ∉ d.toList ++ ds := fun t w hgt => by
        refine ⟨(ht t w hgt).1, fun hm => ?_⟩
        rcases List.mem_append.1 hm with hm | hm
        · cases d with
          | none => simp at hm
          | some d => simp at hm; subst hm; rw [(ht _ w hgt).1] at htop; simp [Zgh] at htop
        · exact (ht t w hgt).2 hm
      have hl' : lets g (a.put o.dst (sv.conc ρ)).tmps := by
        cases g with
        | none => trivial
        | some p =>
          obtain ⟨t, wt⟩ := p
          simp only [lets] at hl ⊢
          rw [<- hde, Zby (fun h => (hg' t wt rfl).2 (by rw [h]; simp))]
          exact hl
      refine Zbk hΓ hw r g top _ os os' ds' vs' _ K _ hf hl' hg' hK (h3.put (fun _ _ => rfl) (Nat.le_refl _) hdst hok) (by rw [ZaL]; exact h4)
        fun vs'' e' a' hK' g3 g4 ho => hk vs'' e' a' hK' g3 g4 fun s hs => ?_
      rw [ho s hs, <- hde, Zby (fun h => hs (hsub s (by rw [h]; simp)))]
  | .grp t wt b r, g, top, ds, os, os', ds', vs, e, K, a, hf, hl, ht, hev, h3, h4, hk => by
    simp only [Items.fits] at hf
    obtain ⟨hc, hf⟩ := ZaB hf
    rw [Bool.and_eq_true] at hc
    have htn : t < nt := Nat.le_of_ble_eq_true hc.2
    split at hf
    · rename_i os1 ds1 hb1
      obtain ⟨hc1, hfr⟩ := ZaB hf
      have hsub := Zbs r g top _ os1 os' ds' hfr
      have hout : ∀ t' w', g = some (t', w') -> t' ∉ ds1 := fun t' w' hg => by
        rw [(ht t' w' hg).1] at hc1
        simpa [ZdA] using hc1
      have hg' : ∀ t' w', g = some (t', w') -> top = some t' /\ t' ∉ ds1 ++ ds := fun t' w' hg =>
        ⟨(ht t' w' hg).1, fun hm => (List.mem_append.1 hm).elim (hout t' w' hg) (ht t' w' hg).2⟩
      have hlet : ∀ a1 : Act, (∀ s, s ∉ ds1 -> a1.tmps[s]? = a.tmps[s]?) -> lets g a1.tmps := fun a1 h1 => by
        cases g with
        | none => trivial
        | some p => obtain ⟨t', w'⟩ := p; simp only [lets] at hl ⊢; rw [h1 t' (hout t' w' rfl)]; exact hl
      simp only [evR] at hev
      split at hev
      · rename_i c hget
        obtain ⟨hy, hn⟩ := hev
        have hat := h3.at htn hget
        by_cases hcw : c = wt
        · subst hcw
          refine Zbk hΓ hw b (some (t, c)) (some t) [] os os1 ds1 _ _ _ a hb1 (by simpa [lets, SVal.conc] using hat) (fun t' w' h => by cases h; simp) (hy rfl) (h3.same hget) h4 fun vs1 e1 a1 hK1 k3 k4 ho1 => ?_
          refine Zbk hΓ hw r g top _ os1 os' ds' vs1 e1 K a1 hfr (hlet a1 ho1) hg' hK1 k3 k4 fun vs'' e' a' hK' g3 g4 ho => hk vs'' e' a' hK' g3 g4 fun s hs => ?_
          rw [ho s hs, ho1 s (fun h => hs (hsub s (List.mem_append_left _ h)))]
        · have hcn : c = !wt := by cases c <;> cases wt <;> simp_all
          subst hcn
          refine Zbd (W := wpQuiet P ops (fun w => Rel w0 fp ρ H w) Q) (fun _ _ _ h1 h2 => Zeh h1 h2) b t wt [] os os1 ds1 a hb1 h3.1 (by unfold blocked; rw [hat]; simp [SVal.conc]) (by simp) (by simp) fun a1 hd1 he1 => ?_
          refine Zbk hΓ hw r g top _ os1 os' ds' _ _ K a1 hfr (hlet a1 hd1.other) hg' (hn rfl) (he1 _ _ _ (h3.same hget)) (hd1.defers.trans h4) fun vs'' e' a' hK' g3 g4 ho => hk vs'' e' a' hK' g3 g4 fun s hs => ?_
          rw [ho s hs, hd1.other s (fun h => hs (hsub s (List.mem_append_left _ h)))]
      · exact hev.elim
    · cases hf
  | .grpJ t wt b d x y r, g, top, ds, os, os', ds', vs, e, K, a, hf, hl, ht, hev, h3, h4, hk => by
    simp only [Items.fits] at hf
    obtain ⟨hc, hf⟩ := ZaB hf
    rw [Bool.and_eq_true] at hc
    have htn : t < nt := Nat.le_of_ble_eq_true hc.2
    split at hf
    · rename_i o os1 ds1 hb1
      obtain ⟨hc1, hfr⟩ := ZaB hf
      simp only [Bool.and_eq_true] at hc1
      obtain ⟨⟨⟨⟨⟨hto, htk⟩, hdst⟩, hgd⟩, hyo⟩, hpick⟩ := hc1
      obtain ⟨hde, hdl⟩ := Zd2 hdst
      have hsub := Zbs r g top _ os1 os' ds' hfr
      have htds : t ∉ ds1 := (Zbf b _ t [] os _ ds1 hb1 (by simp)).1
      have hout : ∀ t' w', g = some (t', w') -> t' ∉ ds1 /\ t' ≠ d := fun t' w' hg => by
        rw [(ht t' w' hg).1] at hto htk
        exact ⟨by simpa [ZdA] using hto, fun h => by subst h; simp [Zgh] at htk⟩
      have hg' : ∀ t' w', g = some (t', w') -> top = some t' /\ t' ∉ d :: (ds1 ++ ds) := fun t' w' hg => by
        refine ⟨(ht t' w' hg).1, fun hm => ?_⟩
        simp only [List.mem_cons, List.mem_append] at hm
        rcases hm with h | h | h
        · exact (hout t' w' hg).2 h
        · exact (hout t' w' hg).1 h
        · exact (ht t' w' hg).2 h
      have hlet : ∀ a1 : Act, (∀ s, s ∉ ds1 -> a1.tmps[s]? = a.tmps[s]?) -> lets g a1.tmps := fun a1 h1 => by
        cases g with
        | none => trivial
        | some p => obtain ⟨t', w'⟩ := p; simp only [lets] at hl ⊢; rw [h1 t' (hout t' w' rfl).1]; exact hl
      have hlet2 : ∀ (a1 : Act) v, lets g a1.tmps -> lets g (a1.put o.dst v).tmps := fun a1 v h1 => by
        cases g with
        | none => trivial
        | some p =>
          obtain ⟨t', w'⟩ := p
          simp only [lets] at h1 ⊢
          rw [<- hde, Zby (fun h => (hout t' w' rfl).2 (by simpa using h.symm))]
          exact h1
      unfold Zgn at hpick
      split at hpick
      · rename_i s u v hop
        rw [Bool.and_eq_true] at hpick
        have hs := Nat.eq_of_beq_eq_true hpick.1
        subst hs
        simp only [evR] at hev
        split at hev
        · rename_i c hget
          obtain ⟨q, hy, hn, hrest⟩ := hev
          have hat := h3.at htn hget
          -- the pick, once it is known which one
          have fin : ∀ (a1 : Act), (∀ z, z ∉ ds1 -> a1.tmps[z]? = a.tmps[z]?) -> a1.tmps.size = nt -> a1.defers = [] ->
              (a1.eval (if c then u else v) = .bool q) -> wpQuiet P ops (fun w => Rel w0 fp ρ H w) Q (o :: os1) a1 := fun a1 ho1 hsz1 hdf1 hval => by
            have hc1 : a1.eval (.tmp s) = .bool c := by
              have : a1.tmps[s]? = some (.bool c) := by rw [ho1 s htds, hat]; rfl
              exact ZkP this
            have hrun : ∀ w1 : World, (execOp a1.eval o).run P w1 = .ok (.value (.bool q)) w1 := fun w1 => by
              simp only [execOp, hop, hc1, asBool]
              cases c <;> simp_all
            refine Zgm (Zbv hgd (hlet a1 ho1)) ⟨.bool q, fun w _ => ?_, ?_⟩
            · unfold Oper.quietAt; rw [hrun w]; exact ⟨rfl, rfl⟩
            have hen : EnvOk ρ H.next nt (ZkJ b e) a1.tmps := ⟨hsz1, fun z zv hz => by
              obtain ⟨k1, k2⟩ := ZcG b _ _ [] os _ ds1 e z zv hb1 hz
              have hzn : z ∉ ds1 := fun h => by simpa using k2 h
              have := h3.2 z zv k1
              refine ⟨this.1, ?_⟩
              rw [Array.getD_eq_getD_getElem?, ho1 z hzn, <- Array.getD_eq_getD_getElem?, this.2]⟩
            have hen2 := hen.put (ρ' := ρ) (n' := H.next) (v := .bool q) (fun _ _ => rfl) (Nat.le_refl _) hdst (by simp [SVal.ok])
            simp only [SVal.conc] at hen2
            refine Zbk hΓ hw r g top _ os1 os' ds' _ _ K _ hfr (hlet2 a1 _ (hlet a1 ho1)) hg' hrest hen2 (by rw [ZaL]; exact hdf1)
              fun vs'' e' a' hK' g3 g4 ho => hk vs'' e' a' hK' g3 g4 fun z hz => ?_
            rw [ho z hz, <- hde, Zby (fun h => hz (hsub z (by simp at h; simp [h]))), ho1 z (fun h => hz (hsub z (by simp [h])))]
          by_cases hcw : c = wt
          · subst hcw
            refine Zbk hΓ hw b (some (s, c)) (some s) [] os (o :: os1) ds1 _ _ _ a hb1 (by simpa [lets, SVal.conc] using hat) (fun t' w' h => by cases h; simp) (hy rfl) (h3.same hget) h4 fun vs1 e1 a1 hx g3 g4 ho1 => ?_
            refine fin a1 ho1 g3.1 g4 ?_
            have hxf : x.fits (if c then u else v) = true := by cases c <;> simp_all
            obtain ⟨xv, hxv, _, hxe⟩ := Opd.ev_sound hxf g3 hx
            obtain rfl := ZhP hxv
            rw [hxe]; rfl
          · have hcn : c = !wt := by cases c <;> cases wt <;> simp_all
            subst hcn
            refine Zbd (W := wpQuiet P ops (fun w => Rel w0 fp ρ H w) Q) (fun _ _ _ h1 h2 => Zeh h1 h2) b s wt [] os (o :: os1) ds1 a hb1 h3.1 (by unfold blocked; rw [hat]; simp [SVal.conc]) (by simp) (by simp) fun a1 hd1 he1 => ?_
            refine fin a1 hd1.other (hd1.size.trans h3.1) (hd1.defers.trans h4) ?_
            have hyf : y.fits (if !wt then u else v) = true := by cases wt <;> simp_all
            obtain ⟨yv, hyv, _, hye⟩ := Opd.ev_sound hyf h3 (hn rfl)
            obtain rfl := ZhP hyv
            rw [ZiE hyf hyo hd1.other, hye]; rfl
        · exact hev.elim
      · cases hpick
    · cases hf
end
abbrev ZdD := X -> Env -> Heap -> Prop
def SemA (P : Program) (w0 : World) (fp : Nat -> Nat -> Prop) (ρi : Rho) (n0 nt : Nat) (c : ACode) (e : Env) (H : Heap) (K : ZdD) : Prop := ∀ c', c.fits P nt c' = true -> ZlR P w0 fp ρi n0 nt c' e H K
def AtEnd (w0 : World) (fp : Nat -> Nat -> Prop) (ρi : Rho) (n0 nt : Nat) (K : ZdD) (x : X) (e : Env) (H : Heap) : Prop := ∀ ex a w, Zzi ex x -> St w0 fp ρi n0 nt e H a w -> Znq w0 fp ρi n0 nt K ex a w
def ZpK (S : Env -> Heap -> Prop) (K : ZdD) : ZdD
  | .nrm, e, H => S e H
  | .ex i, e, H => K (.ex i) e H
  | .ret, e, H => K .ret e H
def SemL (P : Program) (w0 : World) (fp : Nat -> Nat -> Prop) (ρi : Rho) (n0 nt : Nat) : List ACode -> Env -> Heap -> ZdD -> Prop
  | [], e, H, K => AtEnd w0 fp ρi n0 nt K .nrm e H
  | c :: r, e, H, K => SemA P w0 fp ρi n0 nt c e H (ZpK (fun e H => SemL P w0 fp ρi n0 nt r e H K) K)
def Zcb (i : Nat) (S : Env -> Heap -> Prop) (K : ZdD) : ZdD
  | .nrm, e, H => S e H
  | .ex j, e, H => bif Nat.beq j i then S e H else K (.ex j) e H
  | .ret, e, H => K .ret e H
def Zdf : List Nat -> Env -> Env
  | [], _ => []
  | k :: ks, e => match ZdB e k with
    | some v => (k, some v) :: Zdf ks e
    | none => Zdf ks e
def ZbD : List Nat -> Heap -> List (Nat × Option Ent)
  | [], _ => []
  | k :: ks, H => match H.find k with
    | some en => (k, some en) :: ZbD ks H
    | none => ZbD ks H
def Heap.keep (H : Heap) (hs : List Nat) : Heap := ⟨H.next, ZbD hs H⟩
theorem ZhT (k : Nat) (v : Option SVal) (r : Env) (n : Nat) : ZdB ((k, v) :: r) n = if k = n then v else ZdB r n := by
  simp only [ZdB]
  by_cases h : k = n
  · subst h; simp
  · have hb : Nat.beq k n = false := by
      cases hb : Nat.beq k n
      · rfl
      · exact absurd (Nat.eq_of_beq_eq_true hb) h
    simp [hb, h]
theorem ZgL {e : Env} {s : Nat} {v : SVal} : ∀ {ks : List Nat}, ZdB (Zdf ks e) s = some v -> ZdB e s = some v
  | [], h => by cases h
  | k :: ks, h => by
    simp only [Zdf] at h
    split at h
    · rename_i u hu
      rw [ZhT] at h
      split at h
      · rename_i hk; subst hk; rw [hu]; exact h
      · exact ZgL h
    · exact ZgL h
theorem Zbl {H : Heap} {hs : List Nat} {i : Nat} {en : Ent} (h : (H.keep hs).find i = some en) : H.find i = some en := by
  unfold Heap.keep Heap.find at h
  simp only at h
  induction hs with
  | nil => cases h
  | cons k ks ih =>
    simp only [ZbD] at h
    split at h
    · rename_i u hu
      rw [ZaN] at h
      split at h
      · rename_i hk; subst hk; rw [hu]; exact h
      · exact ih h
    · exact ih h
theorem Rel.keep {w0 w : World} {fp : Nat -> Nat -> Prop} {ρ : Rho} {H : Heap} (h : Rel w0 fp ρ H w) (hs : List Nat) : Rel w0 fp ρ (H.keep hs) w :=
  ⟨h.frame, fun i en he => h.ents i en (Zbl he), fun i en he => h.oks i en (Zbl he), fun i en he => h.own i en (Zbl he),
    fun i j en en' hne he he' => h.apart i j en en' hne (Zbl he) (Zbl he'), fun i en he => h.next i en (Zbl he), fun i en he => h.ro i en (Zbl he), fun i en he => h.mnew i en (Zbl he), h.ab.less fun i e he => Zbl he⟩
section
variable {w0 : World} {fp : Nat -> Nat -> Prop} {ρi : Rho} {n0 nt : Nat}
theorem St.pick {e : Env} {H : Heap} {a : Act} {w : World} (ks hs : List Nat) (h : St w0 fp ρi n0 nt e H a w) : St w0 fp ρi n0 nt (Zdf ks e) (H.keep hs) a w := by
  obtain ⟨ρ, h1, h2, h3, h4, h5⟩ := h
  exact ⟨ρ, h1, h2, ⟨h3.1, fun s u hu => h3.2 s u (ZgL hu)⟩, h4, h5.keep hs⟩
end
def evN (Γ : ZaC) : List Nat -> List MStep -> List (List Nat) -> Env -> Heap -> (Env -> Heap -> Prop) -> Prop
  | _, [], _, e, H, K => K e H
  | G, .mk _ 0 d x :: r, hss, e, H, K => bif x.looks then Za3 Γ x e (H.keep (hss.headD [] ++ G)) fun v _ => evN Γ (hss.headD [] ++ G) r hss.tail (put d v e) H K else False
  | G, .mk _ 1 d x :: r, hss, e, H, K => Za3 Γ x e H fun v H' => Zbp H' (H.keep G) (ZbD G H) /\ evN Γ G r hss.tail (put d v e) H' K
  | _, .mk _ _ d x :: r, hss, e, H, K => Za3 Γ x e H fun v H' => evN Γ [] r hss.tail (put d v e) H' K
theorem Zb3 {H : Heap} {G : List Nat} {i : Nat} {en : Ent} (hi : i ∈ G) (h : H.find i = some en) : (H.keep G).find i = some en := by
  unfold Heap.keep Heap.find
  simp only
  induction G with
  | nil => cases hi
  | cons k ks ih =>
    simp only [ZbD]
    by_cases hk : k = i
    · subst hk; simp only [h]; rw [ZaN, if_pos rfl]
    · have hi' : i ∈ ks := by
        rcases List.mem_cons.1 hi with h1 | h1
        · exact absurd h1.symm hk
        · exact h1
      split
      · rw [ZaN, if_neg hk]; exact ih hi'
      · exact ih hi'
theorem Ziv {H : Heap} {G : List Nat} {i : Nat} {en : Ent} (h : (H.keep G).find i = some en) : i ∈ G := by
  unfold Heap.keep Heap.find at h
  simp only at h
  induction G with
  | nil => cases h
  | cons k ks ih =>
    simp only [ZbD] at h
    split at h
    · rw [ZaN] at h
      split at h
      · rename_i hk; subst hk; simp
      · exact List.mem_cons_of_mem _ (ih h)
    · exact List.mem_cons_of_mem _ (ih h)
theorem Rel.keepSub {w0 w : World} {fp : Nat -> Nat -> Prop} {ρ : Rho} {H : Heap} {G G' : List Nat} (h : Rel w0 fp ρ (H.keep G') w) (hs : ∀ i, i ∈ G -> i ∈ G') : Rel w0 fp ρ (H.keep G) w := by
  have hf : ∀ i en, (H.keep G).find i = some en -> (H.keep G').find i = some en := fun i en he => Zb3 (hs i (Ziv he)) (Zbl he)
  exact ⟨h.frame, fun i en he => h.ents i en (hf i en he), fun i en he => h.oks i en (hf i en he), fun i en he => h.own i en (hf i en he),
    fun i j en en' hne he he' => h.apart i j en en' hne (hf i en he) (hf j en' he'), fun i en he => h.next i en (hf i en he), fun i en he => h.ro i en (hf i en he), fun i en he => h.mnew i en (hf i en he), h.ab.less hf⟩
theorem ZkL {H : Heap} {G : List Nat} : Zbp H (H.keep G) (ZbD G H) := by
  have key : ∀ l : List (Nat × Option Ent), (∀ p ∈ l, H.find p.1 = (H.keep G).find p.1) -> Zbp H (H.keep G) l := fun l => by
    induction l with
    | nil => intro _; trivial
    | cons p r ih => intro h; exact ⟨h p (by simp), ih fun q hq => h q (by simp [hq])⟩
  refine key _ fun p hp => ?_
  have hm : ∀ (ks : List Nat), p ∈ ZbD ks H -> p.1 ∈ ks /\ ∃ en, H.find p.1 = some en := fun ks => by
    induction ks with
    | nil => intro h; cases h
    | cons k ks ih =>
      intro h
      simp only [ZbD] at h
      split at h
      · rename_i en he
        rcases List.mem_cons.1 h with rfl | h
        · exact ⟨by simp, en, he⟩
        · exact ⟨List.mem_cons_of_mem _ (ih h).1, (ih h).2⟩
      · exact ⟨List.mem_cons_of_mem _ (ih h).1, (ih h).2⟩
  obtain ⟨h1, en, h2⟩ := hm G hp
  rw [h2, Zb3 h1 h2]
section
variable {P : Program} {w0 : World} {fp : Nat -> Nat -> Prop} {nt : Nat}
theorem Zek {Γ : ZaC} (hΓ : ZaR P Γ) {ops : Array Oper} {Q : Exit -> Act -> World -> Prop} (hsel : Region.noSelect ops = true) (hQ : ∀ c a w, ¬ Q (.panic c) a w) : ∀ (steps : List MStep) (hss : List (List Nat)) (G : List Nat) (listed : Array Bool) (e : Env) (H : Heap) (ρ : Rho) (K : Env -> Heap -> Prop) (a : Act) (w : World),
    Zhy P nt ops listed steps = true -> listed.size = ops.size -> Shut .any ops listed -> evN Γ G steps hss e H K -> Rel w0 fp ρ H w -> EnvOk ρ H.next nt e a.tmps -> a.defers = [] ->
    (∀ ρ' e' H' a' w', K e' H' -> (∀ i, i < H.next -> ρ' i = ρ i) -> H.next <= H'.next -> EnvOk ρ' H'.next nt e' a'.tmps -> a'.defers = [] -> Rel w0 fp ρ' H' w' -> Q .normal a' w') ->
    Zca P .any ops Q (Zgw w0 fp ρ (H.keep G) (ZaH ops.size steps)) steps.length listed a w
  | [], hss, G, listed, e, H, ρ, K, a, w, hf, hz, hd, hev, hr, he, hdf, hk => by
    simp only [Zhy, List.isEmpty_iff] at hf
    exact ⟨hf, hk ρ e H a w (by simpa only [evN] using hev) (fun _ _ => rfl) (Nat.le_refl _) he hdf hr⟩
  | .mk i k d x :: r, hss, G, listed, e, H, ρ, K, a, w, hf, hz, hd, hev, hr, he, hdf, hk => by
    simp only [Zhy] at hf
    split at hf
    · rename_i o ho
      simp only [Bool.and_eq_true, Option.isNone_iff_eq_none] at hf
      obtain ⟨⟨⟨⟨hg, hdst⟩, hfit⟩, hkind⟩, hrest⟩ := hf
      have hwant : ∀ t, Region.wanted o (yielded ops t) = true := fun t => by unfold Region.wanted; simp only [hg]
      obtain ⟨hde, _⟩ := Zd2 hdst
      have hil : i < ops.size := (Array.getElem?_eq_some_iff.1 ho).1
      have hnx : i ≠ ZaH ops.size r := fun h => by
        have h1 := ZgP r _ hrest (by simpa using hz)
        rw [<- h] at h1
        simp [hz, hil] at h1
      -- an operation that does something: none but it may come up
      have does : Region.ready .any ops listed = [i] -> ∀ (S : Array Bool -> World -> Prop), (o.wp P a w (fun a' w' => S (listed.setIfInBounds i true) w' /\ Zca P .any ops Q S r.length (listed.setIfInBounds i true) a' w') Q) ->
          Zca P .any ops Q S (r.length + 1) listed a w := fun hrd S h => by
        refine ⟨fun h0 => (by rw [hrd] at h0; cases h0), fun j hj => ?_⟩
        rw [hrd, List.mem_singleton] at hj
        subst hj
        unfold wpOp
        simp only [ho, hwant, if_true]
        exact .inl h
      have hshut : ∀ (_ : Region.ready .any ops listed = [i]), Shut .any ops (listed.setIfInBounds i true) := fun hrd => hd.add (by rw [hrd]; simp)
      rcases (show k = 0 ∨ k = 1 ∨ 2 <= k by omega) with rfl | rfl | hk2
      · simp only [Nat.beq, cond_true, Bool.and_eq_true] at hkind
        obtain ⟨⟨hrd, hfree⟩, hw⟩ := hkind
        simp only [evN] at hev
        generalize hG' : hss.headD [] ++ G = G' at hev
        have hsub : ∀ i, i ∈ G -> i ∈ G' := fun i hi => by rw [<- hG']; exact List.mem_append_right _ hi
        cases hlk : x.looks with
        | false => rw [hlk] at hev; exact hev.elim
        | true =>
          rw [hlk] at hev
          simp only [cond_true] at hev
          have hq : Looks P a o w0 fp ρ (H.keep G') fun v _ => evN Γ G' r hss.tail (put d v e) H K := Zin hlk hfit he (hr.keep G') hev
          obtain ⟨sv, hK, hok, hrun⟩ := hq
          have hnl : ZaH ops.size (.mk i 0 d x :: r) = ZaH ops.size r := rfl
          have hne : i ≠ ZaH ops.size r := hnx
          rw [hnl]
          refine Zbe (S' := Zgw w0 fp ρ (H.keep G') (ZaH ops.size r)) (fun _ => True) (fun _ _ h => h) (fun l w _ h h0 => (h h0).keepSub hsub) _ _ _ _ trivial ?_
          refine ZcC (U := fun w => Rel w0 fp ρ (H.keep G') w) ho (Region.noSelect_spec hsel) hQ (fun l w => ?_) (fun l w hsh hlz hil' hs => ?_) r.length listed a w hd hz (Region.free_spec ho hfree) (by simpa using hrd) (.inl ⟨hwant _, hrun⟩) (fun _ => hr.keep G') ?_
          · unfold Zgw; rw [ZbZ hne]
          · refine hs ?_
            rw [Bool.or_eq_true] at hw
            rcases hw with h1 | h1
            · rw [Nat.eq_of_beq_eq_true h1]
              simp [hlz]
            · exact Zdc hsh hil' _ _ h1
          · refine Zek hΓ hsel hQ r _ G' _ _ H ρ K _ w hrest (by simpa using hz) (hd.add (by simpa using hrd)) hK hr (he.put (fun _ _ => rfl) (Nat.le_refl _) hdst hok) (by rw [ZaL]; exact hdf) hk
      · simp only [Nat.beq, cond_false, decide_eq_true_eq] at hkind
        simp only [evN] at hev
        have hnl : ZaH ops.size (.mk i 1 d x :: r) = ZaH ops.size r := rfl
        rw [hnl]
        refine does hkind _ (Zdg hΓ hfit he hr hev fun v w' hp => ?_)
        obtain ⟨ρ', sv, H', ⟨hkp, hK⟩, rfl, hok, hρ, hnxt, hr'⟩ := hp
        have hforget : ∀ w, Rel w0 fp ρ' (H'.keep G) w -> Rel w0 fp ρ (H.keep G) w := fun w h => h.forget (fun i en he => Zb3 (Ziv he) (ZdT (H := H.keep G) hkp i en he)) (hr.keep G) hρ
        refine ⟨fun _ => hforget _ (hr'.keep G), Zbe (S' := Zgw w0 fp ρ' (H'.keep G) (ZaH ops.size r)) (fun _ => True) (fun _ _ h => h) (fun l w _ h h0 => hforget _ (h h0)) _ _ _ _ trivial ?_⟩
        refine Zek hΓ hsel hQ r _ G _ _ H' ρ' K _ w' hrest (by simpa using hz) (hshut hkind) hK hr' (he.put hρ hnxt hdst hok) (by rw [ZaL]; exact hdf) (fun ρ2 e2 H2 a2 w2 h1 h2 h3 h4 h5 h6 => hk ρ2 e2 H2 a2 w2 h1 (fun j hj => by rw [h2 j (by omega), hρ j hj]) (by omega) h4 h5 h6)
      · have hk0 : Nat.beq k 0 = false := by cases k with | zero => omega | succ k => rfl
        rw [hk0] at hkind
        simp only [cond_false, decide_eq_true_eq] at hkind
        have hev : Za3 Γ x e H fun v H' => evN Γ [] r hss.tail (put d v e) H' K := by
          match k, hk2 with
          | k + 2, _ => simpa only [evN] using hev
        have hnl : ZaH ops.size (.mk i k d x :: r) = i := by
          simp only [ZaH]
          rw [show Nat.ble 2 k = true from Nat.ble_eq_true_of_le hk2]; rfl
        rw [hnl]
        refine does hkind _ (Zdg hΓ hfit he hr hev fun v w' hp => ?_)
        obtain ⟨ρ', sv, H', hK, rfl, hok, hρ, hnxt, hr'⟩ := hp
        have hset : (listed.setIfInBounds i true).getD i false = true := by simp [hz, hil]
        refine ⟨fun h => (by rw [hset] at h; cases h), Zbe (S' := Zgw w0 fp ρ' (H'.keep []) (ZaH ops.size r)) (fun l => l.getD i false = true) (fun l j h => getD_set_true h) (fun l w hl _ h0 => (by rw [hl] at h0; cases h0)) _ _ _ _ hset ?_⟩
        refine Zek hΓ hsel hQ r _ [] _ _ H' ρ' K _ w' hrest (by simpa using hz) (hshut hkind) hK hr' (he.put hρ hnxt hdst hok) (by rw [ZaL]; exact hdf) (fun ρ2 e2 H2 a2 w2 h1 h2 h3 h4 h5 h6 => hk ρ2 e2 H2 a2 w2 h1 (fun j hj => by rw [h2 j (by omega), hρ j hj]) (by omega) h4 h5 h6)
    · cases hf
end
section
variable {P : Program} {w0 : World} {fp : Nat -> Nat -> Prop} {ρi : Rho} {n0 nt : Nat} {e : Env} {H : Heap} {K : ZdD} {r : List ACode}
theorem Zqe {x : X} (h : K x e H) : AtEnd w0 fp ρi n0 nt K x e H := fun _ _ _ hx hs => ⟨x, e, H, hx, h, hs⟩
theorem AtEnd.sub {x : X} {τ : Nat -> Part} {e' : Env} {H' : Heap} (hs : Sub n0 τ e H e' H') (h : AtEnd w0 fp ρi n0 nt K x e' H') : AtEnd w0 fp ρi n0 nt K x e H := fun ex a w hx hst => h ex a w hx (hst.sub hs)
theorem SemA.sub {c : ACode} {τ : Nat -> Part} {e' : Env} {H' : Heap} (hs : Sub n0 τ e H e' H') (h : SemA P w0 fp ρi n0 nt c e' H' K) : SemA P w0 fp ρi n0 nt c e H K := fun c' hf a w hst => h c' hf a w (hst.sub hs)
theorem SemL.sub {τ : Nat -> Part} {e' : Env} {H' : Heap} (hs : Sub n0 τ e H e' H') (h : SemL P w0 fp ρi n0 nt r e' H' K) : SemL P w0 fp ρi n0 nt r e H K := by
  cases r with
  | nil => exact AtEnd.sub hs h
  | cons c r => exact SemA.sub hs h
theorem SemL.pick (ks hs : List Nat) (h : SemL P w0 fp ρi n0 nt r (Zdf ks e) (H.keep hs) K) : SemL P w0 fp ρi n0 nt r e H K := by
  cases r with
  | nil => exact fun ex a w hx hst => h ex a w hx (hst.pick ks hs)
  | cons c r => exact fun c' hf a w hst => h c' hf a w (hst.pick ks hs)
def Zw6 (Z : Env -> Heap -> Prop) : ZdD
  | .nrm, e, H => Z e H
  | .ex _, _, _ => False
  | .ret, _, _ => False
def Λ0 : ZmT := fun _ _ _ _ => False
structure EvC (Γ : ZaC) (a : ACode) (e : Env) (H : Heap) (ks hs : List Nat) (Z : Env -> Heap -> Prop) : Prop where
  h : Zc4 Γ Λ0 a e H (Zw6 fun e' H' => Z (Zdf ks e') (H'.keep hs))
theorem EvC.of {Γ : ZaC} {a : ACode} {e : Env} {H : Heap} {ks hs : List Nat} {Z : Env -> Heap -> Prop} {F : Prop} (heq : Zc4 Γ Λ0 a e H (Zw6 fun e' H' => Z (Zdf ks e') (H'.keep hs)) = F) (h : F) : EvC Γ a e H ks hs Z := ⟨Eq.mpr heq h⟩
structure EvQC (Γ : ZaC) (its : Items) (vs : List SVal) (e : Env) (H : Heap) (ks hs : List Nat) (Z : Env -> Heap -> Prop) : Prop where
  h : evR Γ H its vs e fun _ e' => Z (Zdf ks e') (H.keep hs)
theorem EvQC.of {Γ : ZaC} {its : Items} {vs : List SVal} {e : Env} {H : Heap} {ks hs : List Nat} {Z : Env -> Heap -> Prop} {F : Prop} (heq : (evR Γ H its vs e fun _ e' => Z (Zdf ks e') (H.keep hs)) = F) (h : F) : EvQC Γ its vs e H ks hs Z := ⟨Eq.mpr heq h⟩
structure EvNC (Γ : ZaC) (steps : List MStep) (hss : List (List Nat)) (e : Env) (H : Heap) (ks hs : List Nat) (Z : Env -> Heap -> Prop) : Prop where
  h : evN Γ [] steps hss e H fun e' H' => Z (Zdf ks e') (H'.keep hs)
theorem EvNC.of {Γ : ZaC} {steps : List MStep} {hss : List (List Nat)} {e : Env} {H : Heap} {ks hs : List Nat} {Z : Env -> Heap -> Prop} {F : Prop} (heq : (evN Γ [] steps hss e H fun e' H' => Z (Zdf ks e') (H'.keep hs)) = F) (h : F) : EvNC Γ steps hss e H ks hs Z := ⟨Eq.mpr heq h⟩
structure RetC (R : Res) (e : Env) (H : Heap) (v : SVal) : Prop where
  h : ∀ Z : SVal -> Prop, Z v -> R.ev e H Z
theorem RetC.of {R : Res} {e : Env} {H : Heap} {v : SVal} (heq : ∀ Z : SVal -> Prop, R.ev e H Z = Z v) : RetC R e H v := ⟨fun Z h => Eq.mpr (heq Z) h⟩
theorem Zap {Γ : ZaC} (hΓ : ZaR P Γ) {a : ACode} {ks hs : List Nat} (h : EvC Γ a e H ks hs fun e H => SemL P w0 fp ρi n0 nt r e H K) : SemL P w0 fp ρi n0 nt (a :: r) e H K := by
  have h := h.h
  intro c' hf ac w hst
  refine Code.wp_mono ?_ (Zcm hΓ (Λ := Λ0) (fun _ _ _ _ h => h.elim) a c' e H _ hf h ac w hst)
  rintro ex a' w' ⟨xx, e', H', h1, h2, h3⟩
  cases xx with
  | nrm => exact ⟨.nrm, e', H', h1, SemL.pick ks hs h2, h3⟩
  | ex i => exact h2.elim
  | ret => exact h2.elim
theorem ZxH {Γ : ZaC} (hΓ : ZaR P Γ) {its : Items} (vs : List SVal) (ks hs : List Nat) (h : evR Γ H its vs e fun _ e' => SemL P w0 fp ρi n0 nt r (Zdf ks e') (H.keep hs) K) : SemL P w0 fp ρi n0 nt (.regQ its :: r) e H K := by
  intro c' hf
  cases c' <;> first | (simp only [ACode.fits] at hf; cases hf; done) | skip
  rename_i id ops draw
  simp only [ACode.fits, Bool.and_eq_true] at hf
  obtain ⟨⟨⟨hd, hm⟩, hB⟩, hf⟩ := hf
  subst hd
  split at hf
  · rename_i ds' hfit
    intro a w hst
    obtain ⟨ρ, h1, h2, h3, h4, h5⟩ := hst
    exact wp_region_quiet (C := fun w => Rel w0 fp ρ H w) hm hB (h5.drew _) (Zbk hΓ ⟨w, h5⟩ its none none [] ops.toList [] ds' vs e _ a hfit trivial (fun _ _ h => by cases h) h h3 h4
      fun vs' e' a' hK g3 g4 _ => wpQuiet_nil fun w' hw' => ⟨.nrm, e', H, trivial, SemL.pick ks hs hK, ρ, h1, h2, g3, g4, hw'⟩)
  · cases hf
theorem ZxI {Γ : ZaC} (hΓ : ZaR P Γ) {steps : List MStep} (hss : List (List Nat)) (ks hs : List Nat) (h : evN Γ [] steps hss e H fun e' H' => SemL P w0 fp ρi n0 nt r (Zdf ks e') (H'.keep hs) K) : SemL P w0 fp ρi n0 nt (.regM steps :: r) e H K := by
  intro c' hf
  cases c' <;> first | (simp only [ACode.fits] at hf; cases hf; done) | skip
  rename_i id ops draw
  simp only [ACode.fits, Bool.and_eq_true] at hf
  obtain ⟨⟨⟨⟨hd, hm⟩, hsel⟩, hlen⟩, hf⟩ := hf
  subst hd
  intro a w hst
  obtain ⟨ρ, h1, h2, h3, h4, h5⟩ := hst
  refine wp_region_any hm (Zec (S := Zgw w0 fp ρ (H.keep []) (ZaH ops.size steps)) _ _ _ _ ?_)
  have hle := Nat.eq_of_beq_eq_true hlen
  have hQ : ∀ c a w, ¬ Znq w0 fp ρi n0 nt (ZpK (fun e H => SemL P w0 fp ρi n0 nt r e H K) K) (.panic c) a w := by
    rintro c a w ⟨xx, _, _, h, _⟩
    cases xx <;> exact h.elim
  have hsh : Shut .any ops (Array.replicate ops.size false) := by
    intro j o ho hj
    have hlt : j < ops.size := (Array.getElem?_eq_some_iff.1 ho).1
    simp [hlt] at hj
  have hmix := Zek hΓ hsel hQ steps hss [] _ e H ρ _ a { w with drawn := w.drawn + 1 } hf (by simp) hsh h (h5.drew _) h3 h4 fun ρ' e' H' a' w' hK g1 g2 g3 g4 g5 =>
    ⟨.nrm, e', H', trivial, SemL.pick ks hs hK, ρ', fun i hi => by rw [g1 i (by omega), h1 i hi], by omega, g3, g4, g5⟩
  rw [hle] at hmix
  exact hmix
theorem ZeV {Γ : ZaC} (hΓ : ZaR P Γ) {its : Items} {vs : List SVal} {ks hs : List Nat} (h : EvQC Γ its vs e H ks hs fun e H => SemL P w0 fp ρi n0 nt r e H K) : SemL P w0 fp ρi n0 nt (.regQ its :: r) e H K := ZxH hΓ vs ks hs h.h
theorem ZlN {Γ : ZaC} (hΓ : ZaR P Γ) {steps : List MStep} {hss : List (List Nat)} {ks hs : List Nat} (h : EvNC Γ steps hss e H ks hs fun e H => SemL P w0 fp ρi n0 nt r e H K) : SemL P w0 fp ρi n0 nt (.regM steps :: r) e H K := ZxI hΓ hss ks hs h.h
theorem Zav {x y : ACode} (h : SemL P w0 fp ρi n0 nt (x :: y :: r) e H K) : SemL P w0 fp ρi n0 nt (.seq x y :: r) e H K := by
  intro c' hf
  cases c' <;> first | (simp only [ACode.fits] at hf; cases hf; done) | skip
  rename_i x' y'
  simp only [ACode.fits, Bool.and_eq_true] at hf
  intro a w hst
  refine wp_seq (Code.wp_mono ?_ (h x' hf.1 a w hst))
  rintro ex a' w' ⟨xx, e', H', h1, h2, h3⟩
  cases ex <;> cases xx <;> first | exact h1.elim | skip
  · exact h2 y' hf.2 a' w' h3
  · exact ⟨_, e', H', h1, h2, h3⟩
  · exact ⟨_, e', H', h1, h2, h3⟩
theorem ZbT (h : SemL P w0 fp ρi n0 nt r e H K) : SemL P w0 fp ρi n0 nt (.skip :: r) e H K := by
  intro c' hf
  cases c' <;> first | (simp only [ACode.fits] at hf; cases hf; done) | skip
  exact fun a w hst => wp_skip ⟨.nrm, e, H, trivial, h, hst⟩
theorem Zci (h : K .nrm e H) : SemL P w0 fp ρi n0 nt [] e H K := Zqe h
theorem Zy4 (h : K .ret e H) : SemL P w0 fp ρi n0 nt (.ret :: r) e H K := by
  intro c' hf
  cases c' <;> first | (simp only [ACode.fits] at hf; cases hf; done) | skip
  exact fun a w hst => wp_ret ⟨.ret, e, H, trivial, h, hst⟩
theorem Zh7 {i : Nat} (h : K (.ex i) e H) : SemL P w0 fp ρi n0 nt (.exit i :: r) e H K := by
  intro c' hf
  cases c' <;> first | (simp only [ACode.fits] at hf; cases hf; done) | skip
  rename_i j
  have : i = j := Nat.eq_of_beq_eq_true (by simpa only [ACode.fits] using hf)
  subst this
  exact fun a w hst => wp_exit ⟨.ex i, e, H, rfl, h, hst⟩
theorem SemA.of_L {c : ACode} (h : SemL P w0 fp ρi n0 nt [c] e H K) : SemA P w0 fp ρi n0 nt c e H K := by
  intro c' hf a w hst
  refine Code.wp_mono ?_ (h c' hf a w hst)
  rintro ex a' w' ⟨xx, e', H', h1, h2, h3⟩
  cases xx with
  | nrm => exact h2 ex a' w' h1 h3
  | ex i => exact ⟨_, e', H', h1, h2, h3⟩
  | ret => exact ⟨_, e', H', h1, h2, h3⟩
theorem Za4 {n : Nat} {t f : ACode} {q : Bool} (hq : ZdB e n = some (.bool q)) (ht : q = true -> SemL P w0 fp ρi n0 nt (t :: r) e H K) (hf' : q = false -> SemL P w0 fp ρi n0 nt (f :: r) e H K) : SemL P w0 fp ρi n0 nt (.cond (.tm n) t f :: r) e H K := by
  intro c' hf
  cases c' <;> first | (simp only [ACode.fits] at hf; cases hf; done) | skip
  rename_i x' t' f'
  simp only [ACode.fits, Bool.and_eq_true] at hf
  intro a w hst
  obtain ⟨ρ, h1, h2, h3, h4, h5⟩ := hst
  have hev : Opd.ev e (.tm n) (fun v => v = .bool q) := by simp only [Opd.ev, hq]
  obtain ⟨v, hv, _, hve⟩ := Opd.ev_sound hf.1.1 h3 hev
  subst hv
  refine wp_cond (t := q) (by rw [hve]; rfl) ?_
  cases q with
  | true => exact ht rfl t' hf.1.2 a w ⟨ρ, h1, h2, h3, h4, h5⟩
  | false => exact hf' rfl f' hf.2 a w ⟨ρ, h1, h2, h3, h4, h5⟩
theorem ZbO {i : Nat} {b : ACode} (h : SemL P w0 fp ρi n0 nt [b] e H (Zcb i (fun e H => SemL P w0 fp ρi n0 nt r e H K) K)) : SemL P w0 fp ρi n0 nt (.block i b :: r) e H K := by
  intro c' hf
  cases c' <;> first | (simp only [ACode.fits] at hf; cases hf; done) | skip
  rename_i id' b'
  simp only [ACode.fits, Bool.and_eq_true] at hf
  have hid := Nat.eq_of_beq_eq_true hf.1
  subst hid
  intro a w hst
  refine wp_block (Code.wp_mono ?_ (SemA.of_L h b' hf.2 a w hst))
  rintro ex a' w' ⟨xx, e', H', h1, h2, h3⟩
  cases ex <;> cases xx <;> first | exact h1.elim | skip
  · exact ⟨.nrm, e', H', trivial, h2, h3⟩
  · rename_i j j'
    have hij : j = j' := h1
    subst hij
    simp only [Exit.inBlock]
    simp only [Zcb] at h2
    split
    · rename_i hi
      subst hi
      simp only [Nat.beq_refl, cond_true] at h2
      exact ⟨.nrm, e', H', trivial, h2, h3⟩
    · rename_i hi
      have hb : Nat.beq j i = false := by
        cases hb : Nat.beq j i
        · rfl
        · exact absurd (Nat.eq_of_beq_eq_true hb) hi
      rw [hb] at h2
      exact ⟨.ex j, e', H', rfl, h2, h3⟩
  · exact ⟨_, e', H', h1, h2, h3⟩
def ZkG (n0 : Nat) {S : Type} (inv : S -> Prop) (μ : S -> Nat) (I : S -> Env) (J : S -> Heap) (x : S) (K : ZdD) : ZdD
  | .nrm, e, H => ∃ x' τ, inv x' /\ μ x' < μ x /\ Sub n0 τ e H (I x') (J x')
  | .ex i, e, H => K (.ex i) e H
  | .ret, e, H => K .ret e H
theorem Zkq {b : ACode} {S : Type} (inv : S -> Prop) (μ : S -> Nat) (I : S -> Env) (J : S -> Heap) (start : ∃ x τ, inv x /\ Sub n0 τ e H (I x) (J x))
    (step : ∀ x, inv x -> SemL P w0 fp ρi n0 nt [b] (I x) (J x) (ZkG n0 inv μ I J x K)) : SemL P w0 fp ρi n0 nt (.loop b :: r) e H K := by
  intro c' hf
  cases c' <;> first | (simp only [ACode.fits] at hf; cases hf; done) | skip
  rename_i b'
  simp only [ACode.fits] at hf
  intro a w hst
  obtain ⟨x0, τ0, hi0, hs0⟩ := start
  have hst0 := hst.sub hs0
  intro bf k cs
  have key : ∀ n x a w, μ x = n -> inv x -> St w0 fp ρi n0 nt (I x) (J x) a w ->
      ∃ ex a' w', Znq w0 fp ρi n0 nt (ZpK (fun e H => SemL P w0 fp ρi n0 nt r e H K) K) ex a' w' /\ Arrives P (lone (bf.at a (.code b' :: .inLoop b' :: k)) cs w) bf k cs ex a' w' := by
    intro n
    induction n using Nat.strongRecOn with
    | _ n ih =>
      intro x a w hn hix hI
      obtain ⟨ex, a₁, w₁, hq, harr⟩ := SemA.of_L (step x hix) b' hf a w hI bf (.inLoop b' :: k) cs
      obtain ⟨xx, e', H', h1, h2, h3⟩ := hq
      cases ex <;> cases xx <;> first | exact h1.elim | skip
      · obtain ⟨x', τ, hix', hlt, hs⟩ := h2
        obtain ⟨e₂, a₂, w₂, hq₂, harr₂⟩ := ih (μ x') (hn ▸ hlt) x' a₁ w₁ rfl hix' (h3.sub hs)
        exact ⟨e₂, a₂, w₂, hq₂, .of_steps (Steps.trans harr (.one step_inLoop)) harr₂⟩
      · exact ⟨_, a₁, w₁, ⟨_, e', H', h1, h2, h3⟩, .pass (x := .inLoop b') rfl (fun _ _ => .inl (by simp)) harr⟩
      · exact ⟨_, a₁, w₁, ⟨_, e', H', h1, h2, h3⟩, .pass (x := .inLoop b') rfl (fun _ _ => .inl (by simp)) harr⟩
  obtain ⟨ex, a', w', hq, harr⟩ := key _ x0 a w rfl hi0 hst0
  exact ⟨ex, a', w', hq, .of_steps (.one step_loop) harr⟩
theorem ZsH {s : Nat} {z : List Chunk} (hz : Za5 z = true) (h0 : Zai z = 0) (hs : ZdB e s = some .nilslice) (h : SemL P w0 fp ρi n0 nt r ((s, some (ZoI z H)) :: e) (Zio z H) K) : SemL P w0 fp ρi n0 nt r e H K := by
  have key : ∀ a w, St w0 fp ρi n0 nt e H a w -> St w0 fp ρi n0 nt ((s, some (ZoI z H)) :: e) (Zio z H) a w := by
    rintro a w ⟨ρ, h1, h2, h3, h4, h5⟩
    obtain ⟨g1, g2, g3⟩ := Zgq h5 hz h0
    have hup : ∀ i, i < H.next -> ρ.up H.next none i = ρ i := Rho.up_lt
    refine ⟨ρ.up H.next none, fun i hi => by rw [hup i (by omega), h1 i hi], by simp [Zio, Heap.push]; omega, ⟨h3.1, fun t u hu => ?_⟩, h4, g1⟩
    rw [ZhT] at hu
    split at hu
    · rename_i ht
      subst ht
      cases hu
      refine ⟨g2, ?_⟩
      rw [(h3.2 _ _ hs).2, g3]; rfl
    · have := h3.2 t u hu
      exact ⟨SVal.ok_mono hup (by simp [Zio, Heap.push]) _ this.1, by rw [this.2, SVal.conc_congr hup _ this.1]⟩
  cases r with
  | nil => exact fun ex a w hx hst => h ex a w hx (key a w hst)
  | cons c r => exact fun c' hf a w hst => h c' hf a w (key a w hst)
end
section
variable {P : Program} {w0 : World} {fp : Nat -> Nat -> Prop} {ρi : Rho} {n0 nt : Nat} {r : List ACode} {e : Env} {H : Heap} {K : ZdD}
end
def fnK (R : Res) (n0 : Nat) (K : SVal -> Heap -> Prop) : ZdD
  | .nrm, e, H => R.ev e H fun r => Ret n0 K r H
  | .ret, e, H => R.ev e H fun r => Ret n0 K r H
  | .ex _, _, _ => False
theorem ZaZ {P : Program} {c : ACode} {R : Res} {f : FuncId} {np nt : Nat} {S : Znp} (hf : ZbR P f np nt c R = true)
    (hev : ∀ args H K, S args H K -> args.length = np /\ ∀ w0 fp ρi, SemL P w0 fp ρi H.next nt [c] (Zkm 0 args) H (fnK R H.next K)) : Sound P f S := by
  intro args H K hS ρ w hr hok
  obtain ⟨hnp, hev⟩ := hev args H K hS
  unfold ZbR at hf
  split at hf
  · rename_i fn hfn
    split at hf
    · rename_i b hb
      simp only [Bool.and_eq_true] at hf
      obtain ⟨⟨⟨hnt, hle⟩, hfit⟩, hres⟩ := hf
      have hnt := Nat.eq_of_beq_eq_true hnt
      have hle := Nat.le_of_ble_eq_true hle
      refine calls_of_wp hfn hb ?_
      have hlen : (ZaD ρ args).toArray.size = np := by simp [Zd8, hnp]
      have hst : St w (Zju ρ H) ρ H.next nt (Zkm 0 args) H { tmps := (ZaD ρ args).toArray ++ Array.replicate (fn.ntmps - (ZaD ρ args).toArray.size) undef, defers := [] } w := by
        refine ⟨ρ, fun _ _ => rfl, Nat.le_refl _, ⟨by simp only [Array.size_append, hlen, Array.size_replicate]; omega, fun s v hv => ?_⟩, rfl, hr⟩
        obtain ⟨_, h1, h2⟩ := Zh5 args 0 s v hok hv
        refine ⟨h1, ?_⟩
        simp only [Nat.sub_zero] at h2
        have hs : s < (ZaD ρ args).length := (List.getElem?_eq_some_iff.1 h2).1
        rw [Array.getD_eq_getD_getElem?, Array.getElem?_append_left (by simpa using hs)]
        simp [h2]
      refine Code.wp_mono ?_ (SemA.of_L (hev w (Zju ρ H) ρ) b hfit _ _ hst)
      rintro ex a' w' ⟨x, e', H', h1, h2, ρ', g1, g2, g3, g4, g5⟩
      cases ex <;> cases x <;> first | exact h1.elim | exact h2.elim | skip
      · obtain ⟨r, hK, hrok, hrun⟩ := ZjS (P := P) hres g3 g5 h2
        obtain ⟨ρ'', r', H'', k1, k2, k3, k4, k5, k6⟩ := ZjR hK g2 g1 g5 hrok
        exact ⟨g4, _, hrun, ρ'', r', H'', k1, by rw [k2], k3, k4, k5, k6⟩
      · obtain ⟨r, hK, hrok, hrun⟩ := ZjS (P := P) hres g3 g5 h2
        obtain ⟨ρ'', r', H'', k1, k2, k3, k4, k5, k6⟩ := ZjR hK g2 g1 g5 hrok
        exact ⟨g4, _, hrun, ρ'', r', H'', k1, by rw [k2], k3, k4, k5, k6⟩
    · cases hf
  · cases hf
theorem ZaV {P : Program} {w0 : World} {fp : Nat -> Nat -> Prop} {ρi : Rho} {n0 nt m : Nat} {e : Env} {H : Heap} {K : ZdD} {r : List ACode} {R : Res} {Kf : SVal -> Heap -> Prop} {v : SVal} (hk : ∀ e H, fnK R m Kf .ret e H -> K .ret e H) (hv : RetC R e H v) (h : Ret m Kf v H) :
    SemL P w0 fp ρi n0 nt (.ret :: r) e H K := Zy4 (hk _ _ (hv.h _ h))
theorem ZqG {P : Program} {w0 : World} {fp : Nat -> Nat -> Prop} {ρi : Rho} {n0 nt m : Nat} {e : Env} {H : Heap} {K : ZdD} {R : Res} {Kf : SVal -> Heap -> Prop} {v : SVal} (hk : ∀ e H, fnK R m Kf .nrm e H -> K .nrm e H) (hv : RetC R e H v) (h : Ret m Kf v H) :
    SemL P w0 fp ρi n0 nt [] e H K := Zci (hk _ _ (hv.h _ h))
def Zf3 : SVal -> Bool
  | .agg cs => Za5 cs
  | v => ZgI v
def ZgK : List SVal -> Bool
  | [] => true
  | v :: r => Zf3 v && ZgK r
def Zmt : SVal -> Bool
  | .tuple vs => ZgK vs
  | v => Zf3 v
theorem ZjV {ρ : Rho} {n : Nat} {v : SVal} (h : Zf3 v = true) : v.ok ρ n /\ v.conc ρ = v.conc ρ0 := by
  cases v with
  | agg cs =>
    have := Zbm (ρ := ρ) (n := n) (cs := cs) h
    exact ⟨by simp only [SVal.ok]; exact this.1, by simp only [SVal.conc, this.2]⟩
  | _ => exact Ze6 h
theorem ZgJ {ρ : Rho} {n : Nat} : ∀ {vs : List SVal}, ZgK vs = true -> okL ρ n vs /\ ZaD ρ vs = ZaD ρ0 vs
  | [], _ => by simp [okL, ZaD]
  | v :: r, h => by
    simp only [ZgK, Bool.and_eq_true] at h
    have h1 := ZjV (ρ := ρ) (n := n) h.1
    have h2 := ZgJ (ρ := ρ) (n := n) h.2
    exact ⟨by simp only [okL]; exact ⟨h1.1, h2.1⟩, by simp only [ZaD, h1.2, h2.2]⟩
theorem ZjU {ρ : Rho} {n : Nat} {v : SVal} (h : Zmt v = true) : v.ok ρ n /\ v.conc ρ = v.conc ρ0 := by
  cases v with
  | tuple vs =>
    have := ZgJ (ρ := ρ) (n := n) (vs := vs) h
    exact ⟨by simp only [SVal.ok]; exact this.1, by simp only [SVal.conc, this.2]⟩
  | agg cs => exact ZjV (v := .agg cs) h
  | _ => exact Ze6 h
theorem ZfA {τ : Nat -> Part} {n : Nat} : ∀ {v : SVal}, ZgI v = true -> v.ren τ = v /\ v.bd n := by
  intro v h
  unfold ZgI at h
  split at h <;> first | (cases h; done) | (simp [SVal.ren, SVal.bd, ZgG, bdL]; done)
theorem Zco {τ : Nat -> Part} {n : Nat} : ∀ {cs : List Chunk}, Za5 cs = true -> ZaQ τ cs = cs /\ ZeX n cs
  | [], _ => by simp [ZaQ, ZeX]
  | .one v :: r, h => by
    simp only [Za5, Bool.and_eq_true] at h
    have h1 := ZfA (τ := τ) (n := n) h.1
    have h2 := Zco (τ := τ) (n := n) h.2
    exact ⟨by simp only [ZaQ, Chunk.ren, h1.1, h2.1], by simp only [ZeX, Chunk.bd]; exact ⟨h1.2, h2.2⟩⟩
  | .ints _ _ _ :: r, h => by
    have h2 := Zco (τ := τ) (n := n) (cs := r) h
    exact ⟨by simp only [ZaQ, Chunk.ren, h2.1], by simp only [ZeX, Chunk.bd]; exact ⟨trivial, h2.2⟩⟩
  | .rows _ _ _ :: r, h => by
    have h2 := Zco (τ := τ) (n := n) (cs := r) h
    exact ⟨by simp only [ZaQ, Chunk.ren, h2.1], by simp only [ZeX, Chunk.bd]; exact ⟨trivial, h2.2⟩⟩
theorem ZfB {τ : Nat -> Part} {n : Nat} {v : SVal} (h : Zf3 v = true) : v.ren τ = v /\ v.bd n := by
  cases v with
  | agg cs =>
    have := Zco (τ := τ) (n := n) (cs := cs) h
    exact ⟨by simp only [SVal.ren, this.1], by simp only [SVal.bd]; exact this.2⟩
  | _ => exact ZfA h
theorem ZhL {τ : Nat -> Part} {n : Nat} : ∀ {vs : List SVal}, ZgK vs = true -> ZgG τ vs = vs /\ bdL n vs
  | [], _ => by simp [ZgG, bdL]
  | v :: r, h => by
    simp only [ZgK, Bool.and_eq_true] at h
    have h1 := ZfB (τ := τ) (n := n) h.1
    have h2 := ZhL (τ := τ) (n := n) h.2
    exact ⟨by simp only [ZgG, h1.1, h2.1], by simp only [bdL]; exact ⟨h1.2, h2.2⟩⟩
theorem ZhK {τ : Nat -> Part} {n : Nat} {v : SVal} (h : Zmt v = true) : v.ren τ = v /\ v.bd n := by
  cases v with
  | tuple vs =>
    have := ZhL (τ := τ) (n := n) (vs := vs) h
    exact ⟨by simp only [SVal.ren, this.1], by simp only [SVal.bd]; exact this.2⟩
  | agg cs => exact ZfB (v := .agg cs) h
  | _ => exact ZfA h
theorem Zow {n0 : Nat} {K : SVal -> Heap -> Prop} {r r' : SVal} {H : Heap} (hn : n0 = 0) (hp : Zmt r' = true) (h : r = r') (hK : K r' ⟨0, []⟩) : Ret n0 K r H := by
  subst h
  subst hn
  exact .inl ⟨Zdb, r, ⟨0, []⟩, fun i hi => absurd hi (by omega), Nat.le_refl _, (ZhK (n := 0) hp).1.symm, (ZhK (τ := Zdb) hp).2, trivial, trivial, hK⟩
abbrev Zqh := List SVal -> Option (Prop × SVal)
structure PCon where
  f : Nat
  spec : Zqh
def Zm8 (S : Zqh) : Znp := fun args H K => match S args with
  | some (pre, v) => pre /\ noH H (K v ⟨0, []⟩)
  | none => False
def Zp2 : List PCon -> Nat -> Option PCon
  | [], _ => none
  | c :: r, f => bif Nat.beq c.f f then some c else Zp2 r f
def ZdE (ps : List PCon) (cs : List Con) : ZaC := fun f vs H K => match Zp2 ps f with
  | some c => (match c.spec vs with
    | some (pre, v) => bif ZgK vs && Zmt v then pre /\ K v H else False
    | none => False)
  | none => ZqM cs f vs H K
def Zjs (P : Program) : List PCon -> Prop
  | [] => True
  | c :: r => Sound P c.f (Zm8 c.spec) /\ Zjs P r
theorem Zg2 {P : Program} : ∀ {cs : List PCon} {f : Nat} {c : PCon}, Zjs P cs -> Zp2 cs f = some c -> Sound P f (Zm8 c.spec)
  | [], _, _, _, h => by cases h
  | d :: r, f, c, hs, h => by
    simp only [Zjs] at hs
    simp only [Zp2] at h
    cases hb : Nat.beq d.f f with
    | true =>
      rw [hb] at h
      have := Nat.eq_of_beq_eq_true hb
      subst this
      cases h
      exact hs.1
    | false => rw [hb] at h; exact Zg2 hs.2 h
theorem Rel.quietF {w0 w w' : World} {fp fc : Nat -> Nat -> Prop} {ρ : Rho} {H : Heap} (h : Rel w0 fp ρ H w) (hf : Frame w fc w') (hc : ∀ b o, ¬ fc b o) : Rel w0 fp ρ H w' := by
  refine ⟨h.frame.trans hf fun b o hb => (hc b o hb).elim, fun i en he => ?_, h.oks, h.own, h.apart, h.next, h.ro, h.mnew,
    h.ab.to hf.size (fun _ _ _ => rfl) (fun _ _ he _ _ => he) (fun _ e _ _ he hw => .inl ⟨_, e, he, hw, .inl rfl⟩) fun x hx _ => hf.other x hx (hc x)⟩
  have hE := h.ents i en he
  refine ⟨hE.nil, fun b base hb k v hv => (hf.cell (hE.cells b base hb k v hv)).1 (hc _ _), fun hw b base hb k hk => ?_, fun q1 q2 b base hb => (hE.mp q1 q2 b base hb).keep fun b es cl hm => (hf.other b (Array.getElem?_eq_some_iff.1 hm).1 (hc b)).trans hm⟩
  obtain ⟨⟨v, hv⟩, hz⟩ := hE.own hw b base hb k hk
  have := hf.cell hv
  exact ⟨this.2.1, by rw [this.2.2, hz]⟩
theorem ZiB {ρ : Rho} {b o : Nat} : ¬ Zju ρ ⟨0, []⟩ b o := fun ⟨id, en, he, _⟩ => by simp [Heap.find, Zd1] at he
theorem Zoz {ρ : Rho} {w : World} : Rel w (Zju ρ ⟨0, []⟩) ρ ⟨0, []⟩ w := Zql fun id en he => by simp [Heap.find, Zd1] at he
theorem Zba {P : Program} {ps : List PCon} {cs : List Con} (hp : Zjs P ps) (hc : Zfw P cs) : ZaR P (ZdE ps cs) := by
  intro f vs H K hev hb w0 fp ρ w hr hok
  unfold ZdE at hev
  split at hev
  · rename_i c hfind
    split at hev
    · rename_i pre v hv
      obtain ⟨hpl, hpre, hK⟩ := Zaj hev
      rw [Bool.and_eq_true] at hpl
      have hS := Zg2 hp hfind
      have hcall := hS vs ⟨0, []⟩ (fun r H' => r = v) (by unfold Zm8; rw [hv]; exact ⟨hpre, rfl⟩) ρ w Zoz (ZgJ hpl.1).1
      refine hcall.mono fun e w' ⟨ρ', r, H', h1, h2, _, _, _, h6⟩ => ?_
      subst h1
      subst h2
      have hv1 := ZjU (ρ := ρ) (n := H.next) hpl.2
      refine ⟨_, rfl, ρ, r, H, hK, ?_, hv1.1, fun _ _ => rfl, Nat.le_refl _, hr.quietF h6.frame fun b o => ZiB⟩
      rw [(ZjU (ρ := ρ') (n := 0) hpl.2).2, hv1.2]
    · exact hev.elim
  · exact ZpG hc f vs H K hev hb w0 fp ρ w hr hok
theorem ZcZ {H : Heap} : ∀ l : List (Nat × Option Ent), Zbp H H l
  | [] => trivial
  | _ :: r => ⟨rfl, ZcZ r⟩
theorem qa1 {c b : Bool} (h : c = true) : b = (c && b) := by rw [h]; rfl
theorem qa2 {c b : Bool} (h : c = false) : false = (c && b) := by rw [h]; rfl
theorem qo1 {c b : Bool} (h : c = false) : b = (c || b) := by rw [h]; rfl
theorem qo2 {c b : Bool} (h : c = true) : true = (c || b) := by rw [h]; rfl
def ZsL (l : List (Nat × Nat)) : List Nat -> Bool
  | [] => true
  | i :: r => (r.all fun j => Nat.beq j i || !(Nat.beq (ZpL l j) (ZpL l i))) && ZsL l r
theorem Ziw {l : List (Nat × Nat)} : ∀ {ents : List (Nat × Option Ent)}, ZsL l (ents.map (·.1)) = true -> Zfh (tau l) ents
  | [], _ => trivial
  | (i, en) :: r, h => by
    simp only [List.map_cons, ZsL, Bool.and_eq_true, List.all_eq_true] at h
    refine ⟨fun j hj => ?_, Ziw h.2⟩
    have := h.1 j hj
    simp only [Bool.or_eq_true, Bool.not_eq_true'] at this
    rcases this with h1 | h1
    · exact .inl (Nat.eq_of_beq_eq_true h1)
    · right
      intro h2
      have h3 : ZpL l j = ZpL l i := h2
      rw [h3, Nat.beq_refl] at h1
      cases h1
theorem ZbE {n0 : Nat} {e e' : Env} {H H' : Heap} (l : List (Nat × Nat)) (ids : List Nat) (h1 : Zkp n0 l = true) (h2 : Nat.ble n0 H'.next = true) (h3 : ZcO (tau l) H'.next e e') (h5 : Zbi (tau l) H'.next H H'.ents)
    (h6 : H'.ents.map (·.1) = ids) (h7 : ZsL l ids = true) : Sub n0 (tau l) e H e' H' := ZqX l h1 (Nat.le_of_ble_eq_true h2) h3 h5 (Ziw (h6 ▸ h7))
theorem ZqN (x : Int) : IntKind.i64.wrap x = (x + 9223372036854775808) % 18446744073709551616 - 9223372036854775808 := IntKind.wrap_i64 x
theorem ZoB {S : Zqh} {args : List SVal} {H : Heap} {K : SVal -> Heap -> Prop} (h : Zm8 S args H K) : ∃ pre v, S args = some (pre, v) /\ pre /\ H = ⟨0, []⟩ /\ K v ⟨0, []⟩ := by
  unfold Zm8 at h
  split at h
  · rename_i pre v hv
    obtain ⟨h1, h2⟩ := Zsj h.2
    exact ⟨pre, v, hv, h.1, h1, h2⟩
  · exact h.elim
theorem ZdR {n0 : Nat} {S : Type} {inv : S -> Prop} {μ : S -> Nat} {I : S -> Env} {J : S -> Heap} {x x' : S} {K : ZdD} {e : Env} {H : Heap} {τ : Nat -> Part} (h1 : inv x') (h2 : μ x' < μ x) (h3 : Sub n0 τ e H (I x') (J x')) : ZkG n0 inv μ I J x K .nrm e H :=
  ⟨x', τ, h1, h2, h3⟩
theorem Zbc {τ : Nat -> Part} {n : Nat} {e : Env} : ZcO τ n e [] := trivial
theorem ZkS {τ : Nat -> Part} {n s : Nat} {e r : Env} {v : SVal} (h : ZdB e s = some (v.ren τ)) (hb : v.bd n) (hr : ZcO τ n e r) : ZcO τ n e ((s, some v) :: r) := ⟨h, hb, hr⟩
theorem Zan {τ : Nat -> Part} {n : Nat} {H : Heap} : Zbi τ n H [] := trivial
theorem Zj1 {l : List (Nat × Nat)} {n i : Nat} {H : Heap} {en : Ent} {r : List (Nat × Option Ent)} (h : H.find (ZpL l i) = some ⟨en.wr, ZaQ (tau l) en.cs, en.ex⟩) (hb : ZeX n en.cs) (hn : Nat.blt i n = true) (hr : Zbi (tau l) n H r) :
    Zbi (tau l) n H ((i, some en) :: r) := ⟨h, hb, Nat.le_of_ble_eq_true hn, rfl, rfl, hr⟩
theorem Zxu {n m : Nat} {a : SAddr} (h : Nat.blt a.id n = true) : SVal.bd n (.ptr a m) := by simp only [SVal.bd]; exact Nat.le_of_ble_eq_true h
theorem Zqd {n l c : Nat} {a : SAddr} (h : Nat.blt a.id n = true) : SVal.bd n (.slice a l c) := by simp only [SVal.bd]; exact Nat.le_of_ble_eq_true h
theorem Zax {n : Nat} : ZeX n [] := trivial
theorem Zao {n : Nat} {v : SVal} {r : List Chunk} (h : v.bd n) (hr : ZeX n r) : ZeX n (.one v :: r) := by simp only [ZeX, Chunk.bd]; exact ⟨h, hr⟩
theorem Zat {n m : Nat} {sh : List Leaf} {xs : List (Tup sh)} {r : List Chunk} (hr : ZeX n r) : ZeX n (.rows sh m xs :: r) := by simp only [ZeX, Chunk.bd]; exact ⟨trivial, hr⟩
theorem cg1 {α1 β : Type} (f : α1 -> β) {a1 b1 : α1} (h1 : a1 = b1) : f a1 = f b1 := by subst h1; rfl
theorem cg2 {α1 α2 β : Type} (f : α1 -> α2 -> β) {a1 b1 : α1} {a2 b2 : α2} (h1 : a1 = b1) (h2 : a2 = b2) : f a1 a2 = f b1 b2 := by subst h1 h2; rfl
theorem cg3 {α1 α2 α3 β : Type} (f : α1 -> α2 -> α3 -> β) {a1 b1 : α1} {a2 b2 : α2} {a3 b3 : α3} (h1 : a1 = b1) (h2 : a2 = b2) (h3 : a3 = b3) : f a1 a2 a3 = f b1 b2 b3 := by subst h1 h2 h3; rfl
theorem cg4 {α1 α2 α3 α4 β : Type} (f : α1 -> α2 -> α3 -> α4 -> β) {a1 b1 : α1} {a2 b2 : α2} {a3 b3 : α3} {a4 b4 : α4} (h1 : a1 = b1) (h2 : a2 = b2) (h3 : a3 = b3) (h4 : a4 = b4) : f a1 a2 a3 a4 = f b1 b2 b3 b4 := by subst h1 h2 h3 h4; rfl
theorem cg5 {α1 α2 α3 α4 α5 β : Type} (f : α1 -> α2 -> α3 -> α4 -> α5 -> β) {a1 b1 : α1} {a2 b2 : α2} {a3 b3 : α3} {a4 b4 : α4} {a5 b5 : α5} (h1 : a1 = b1) (h2 : a2 = b2) (h3 : a3 = b3) (h4 : a4 = b4) (h5 : a5 = b5) : f a1 a2 a3 a4 a5 = f b1 b2 b3 b4 b5 := by subst h1 h2 h3 h4 h5; rfl
theorem Zcp {H : Heap} {i : Nat} {en : Option Ent} : ∀ {ks : List Nat}, (i, en) ∈ ZbD ks H -> i ∈ ks /\ H.find i = en
  | [], h => by cases h
  | k :: ks, h => by
    simp only [ZbD] at h
    split at h
    · rename_i e he
      rcases List.mem_cons.1 h with h | h
      · cases h; exact ⟨by simp, he⟩
      · exact ⟨List.mem_cons_of_mem _ (Zcp h).1, (Zcp h).2⟩
    · exact ⟨List.mem_cons_of_mem _ (Zcp h).1, (Zcp h).2⟩
theorem Zfa {H : Heap} {i : Nat} {en : Ent} : ∀ {ks : List Nat}, i ∈ ks -> H.find i = some en -> (i, some en) ∈ ZbD ks H
  | [], hi, _ => by cases hi
  | k :: ks, hi, he => by
    simp only [ZbD]
    by_cases hk : k = i
    · subst hk; rw [he]; simp
    · have hi' : i ∈ ks := by
        rcases List.mem_cons.1 hi with h1 | h1
        · exact absurd h1.symm hk
        · exact h1
      split
      · exact List.mem_cons_of_mem _ (Zfa hi' he)
      · exact Zfa hi' he
theorem Zj4 {H H' : Heap} {ks : List Nat} (h : ZbD ks H' = ZbD ks H) {i : Nat} (hi : i ∈ ks) : H'.find i = H.find i := by
  cases h1 : H.find i with
  | some en => exact (Zcp (h ▸ Zfa hi h1)).2
  | none =>
    cases h2 : H'.find i with
    | none => rfl
    | some en =>
      have := (Zcp (h ▸ Zfa hi h2)).2
      rw [h1] at this; cases this
theorem Ziu {H' H : Heap} : ∀ {l : List (Nat × Option Ent)}, (∀ p ∈ l, H'.find p.1 = H.find p.1) -> Zbp H' H l
  | [], _ => trivial
  | p :: r, h => ⟨h p (by simp), Ziu fun q hq => h q (by simp [hq])⟩
theorem ZgU {H' H : Heap} (ids : List Nat) (h : ZbD ids H' = ZbD ids H) (h2 : H.ents.map (·.1) = ids) : Zbp H' H H.ents :=
  Ziu fun _ hp => Zj4 h (h2 ▸ List.mem_map.2 ⟨_, hp, rfl⟩)
theorem ZbW {H' H : Heap} {G : List Nat} (h : ZbD G H' = ZbD G H) : Zbp H' (H.keep G) (ZbD G H) :=
  Ziu fun p hp => by
    obtain ⟨h1, h2⟩ := Zcp (en := p.2) hp
    rw [Zj4 h h1]
    cases he : H.find p.1 with
    | some en => rw [Zb3 h1 he]
    | none =>
      cases h3 : (H.keep G).find p.1 with
      | none => rfl
      | some en => rw [Zbl h3] at he; cases he
theorem ZxJ {P : Program} {w0 : World} {fp : Nat -> Nat -> Prop} {ρi : Rho} {n0 nt : Nat} {e e' : Env} {H H' : Heap} {K : ZdD} {r : List ACode} (ks hs : List Nat) (h1 : Zdf ks e = e') (h2 : H.keep hs = H') (h : SemL P w0 fp ρi n0 nt r e' H' K) :
    SemL P w0 fp ρi n0 nt r e H K := SemL.pick ks hs (by rw [h1, h2]; exact h)
end Go.Sx
