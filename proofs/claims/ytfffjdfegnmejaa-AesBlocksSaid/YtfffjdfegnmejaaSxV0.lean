/- Part of the proof: SxV0. -/
import Derived.Test.YtfffjdfegnmejaaSxTop
import Derived.Test.YtfffjdfegnmejaaSxPlan
set_option linter.unusedVariables false
set_option linter.unusedSimpArgs false
namespace Go.Sx
theorem Zsb {e : Env} : ∀ {xs : List Opd} {K K' : List SVal -> Prop}, (∀ us, K us -> K' us) -> evL e xs K -> evL e xs K'
  | [], _, _, hk, h => hk _ h
  | _ :: _, _, _, hk, h => Opd.ev_mono (fun v hv => Zsb (fun us hu => hk _ hu) hv) h
def Zij : Items -> Nat
  | .nil => 0
  | .op _ (.call _ _) r => Zij r + 1
  | .op _ _ r => Zij r
  | .grp _ _ b r => Zij b + Zij r
  | .grpJ _ _ b _ _ _ r => Zij b + Zij r
def ZEE : Nat -> List SVal -> List SVal
  | 0, l => l
  | _ + 1, [] => []
  | n + 1, _ :: r => ZEE n r
def evR (Γ : Zav) (H : Heap) : Items -> List SVal -> Env -> (List SVal -> Env -> Prop) -> Prop
  | .nil, vs, e, K => K vs e
  | .op d (.call f args) r, vs, e, K => match vs with
    | v :: vs => evL e args fun us => v.bd H.next /\ Γ f us H (fun u H' => u = v /\ Zby H' H H.ents) /\ evR Γ H r vs (put d v e) K
    | [] => False
  | .op d x r, vs, e, K => bif x.looks then ZaV Γ x e H fun v _ => evR Γ H r vs (put d v e) K else False
  | .grp t want b r, vs, e, K => match ZeN e t with
    | some (.bool c) => (c = want -> evR Γ H b vs ((t, some (.bool want)) :: e) fun vs' e' => evR Γ H r vs' e' K) /\ (c = !want -> evR Γ H r (ZEE (Zij b) vs) (Ztw b ((t, some (.bool (!want))) :: e)) K)
    | _ => False
  | .grpJ t want b d x y r, vs, e, K => match ZeN e t with
    | some (.bool c) => ∃ q : Bool, (c = want -> evR Γ H b vs ((t, some (.bool want)) :: e) fun _ e' => x.ev e' fun v => isB v q) /\
        (c = (!want) -> y.ev e fun v => isB v q) /\ evR Γ H r (ZEE (Zij b) vs) ((d, some (.bool q)) :: Zo0 b e) K
    | _ => False
section
variable {P : Program} {w0 : World} {fp : Nat -> Nat -> Prop} {nt : Nat}
theorem Quiet.mono {ρ : Rho} {H : Heap} {a : Act} {o : Oper} {K K' : SVal -> Prop} (h : Quiet P w0 fp ρ H a o K) (hk : ∀ v, K v -> K' v) : Quiet P w0 fp ρ H a o K' := by
  obtain ⟨sv, h1, h2⟩ := h
  exact ⟨sv, hk _ h1, h2⟩
theorem ZuR {Γ : Zav} (hΓ : ZaK P Γ) {x : AOp} {o : Oper} {a : Act} {e : Env} {ρ : Rho} {H : Heap} {d : Option Nat} {r : Items} {vs : List SVal} {K : List SVal -> Env -> Prop}
    (hf : x.fits P o.op = true) (he : EnvOk ρ H.next nt e a.tmps) (hw : ∃ w, Rel w0 fp ρ H w) (h : evR Γ H (.op d x r) vs e K) : Quiet P w0 fp ρ H a o fun v => ∃ vs', evR Γ H r vs' (put d v e) K := by
  obtain ⟨w, hr⟩ := hw
  cases x with
  | call f args =>
    cases vs with
    | nil => exact h.elim
    | cons v vs =>
      simp only [evR] at h
      exact Zk1 hΓ hf he ⟨w, hr⟩ (Zsb (fun us h => ⟨v, h.1, h.2.1, vs, h.2.2⟩) h)
  | mov => simp only [evR, AOp.looks, cond_true] at h; exact (ZgL hf he hr h).quiet.mono fun v h => ⟨vs, h⟩
  | bin => simp only [evR, AOp.looks, cond_true] at h; exact (Zha hf he hr h).quiet.mono fun v h => ⟨vs, h⟩
  | not => simp only [evR, AOp.looks, cond_true] at h; exact (ZgJ hf he hr h).quiet.mono fun v h => ⟨vs, h⟩
  | conv => simp only [evR, AOp.looks, cond_true] at h; exact (ZfK hf he hr h).quiet.mono fun v h => ⟨vs, h⟩
  | build => simp only [evR, AOp.looks, cond_true] at h; exact (ZeE hf he hr h).quiet.mono fun v h => ⟨vs, h⟩
  | load1 => simp only [evR, AOp.looks, cond_true] at h; exact (Zd4 hf he hr h).quiet.mono fun v h => ⟨vs, h⟩
  | load1P => simp only [evR, AOp.looks, cond_true] at h; exact (Zdp hf he hr h).quiet.mono fun v h => ⟨vs, h⟩
  | loadHq => simp only [evR, AOp.looks, cond_true] at h; exact (Zdo hf he hr h).quiet.mono fun v h => ⟨vs, h⟩
  | idxHq => simp only [evR, AOp.looks, cond_true] at h; exact (Zd9 hf he hr h).quiet.mono fun v h => ⟨vs, h⟩
  | loadRq => simp only [evR, AOp.looks, cond_true] at h; exact (Zdn hf he hr h).quiet.mono fun v h => ⟨vs, h⟩
  | loadA => simp only [evR, AOp.looks, cond_true] at h; exact (Zd3 hf he hr h).quiet.mono fun v h => ⟨vs, h⟩
  | fieldAddr => simp only [evR, AOp.looks, cond_true] at h; exact (Zcb hf he hr h).quiet.mono fun v h => ⟨vs, h⟩
  | idxS => simp only [evR, AOp.looks, cond_true] at h; exact (Zfz hf he hr h).quiet.mono fun v h => ⟨vs, h⟩
  | idxA => simp only [evR, AOp.looks, cond_true] at h; exact (ZfA hf he hr h).quiet.mono fun v h => ⟨vs, h⟩
  | len => simp only [evR, AOp.looks, cond_true] at h; exact (Zb3 hf he hr h).quiet.mono fun v h => ⟨vs, h⟩
  | slen => simp only [evR, AOp.looks, cond_true] at h; exact (Zft hf he hr h).quiet.mono fun v h => ⟨vs, h⟩
  | extract => simp only [evR, AOp.looks, cond_true] at h; exact (ZcE hf he hr h).quiet.mono fun v h => ⟨vs, h⟩
  | nilCheck => simp only [evR, AOp.looks, cond_true] at h; exact (Zcp hf he hr h).quiet.mono fun v h => ⟨vs, h⟩
  | sliceP => simp only [evR, AOp.looks, cond_true] at h; exact (Zdj hf he hr h).quiet.mono fun v h => ⟨vs, h⟩
  | strIdx => simp only [evR, AOp.looks, cond_true] at h; exact (Zdi hf he hr h).quiet.mono fun v h => ⟨vs, h⟩
  | eqA => simp only [evR, AOp.looks, cond_true] at h; exact (ZgX hf he hr h).quiet.mono fun v h => ⟨vs, h⟩
  | buildI => simp only [evR, AOp.looks, cond_true] at h; exact (ZdI hf he hr h).quiet.mono fun v h => ⟨vs, h⟩
  | isNilP => simp only [evR, AOp.looks, cond_true] at h; exact (Zds hf he hr h).quiet.mono fun v h => ⟨vs, h⟩
  | mapLen => simp only [evR, AOp.looks, cond_true] at h; exact (Zdl hf he hr h).quiet.mono fun v h => ⟨vs, h⟩
  | mapGet => simp only [evR, AOp.looks, cond_true] at h; exact (Zdm hf he hr h).quiet.mono fun v h => ⟨vs, h⟩
  | _ => simp only [evR, AOp.looks, cond_false] at h
theorem ZbC {Γ : Zav} (hΓ : ZaK P Γ) {ops : Array Oper} {Q : Act -> Prop} {ρ : Rho} {H : Heap} (hw : ∃ w, Rel w0 fp ρ H w) : ∀ (its : Items) (g : Option (Nat × Bool)) (top : Option Nat) (ds : List Nat) (os os' : List Oper) (ds' : List Nat) (vs : List SVal) (e : Env) (K : List SVal -> Env -> Prop) (a : Act),
    Items.fits P nt ops.toList g top ds its os = some (os', ds') -> lets g a.tmps -> (∀ t w, g = some (t, w) -> top = some t /\ t ∉ ds) -> evR Γ H its vs e K -> EnvOk ρ H.next nt e a.tmps -> a.defers = [] ->
    (∀ vs' e' a', K vs' e' -> EnvOk ρ H.next nt e' a'.tmps -> a'.defers = [] -> (∀ s, s ∉ ds' -> a'.tmps[s]? = a.tmps[s]?) -> wpQuiet P ops (fun w => Rel w0 fp ρ H w) Q os' a') -> wpQuiet P ops (fun w => Rel w0 fp ρ H w) Q os a
  | .nil, g, top, ds, os, os', ds', vs, e, K, a, hf, hl, ht, hev, h3, h4, hk => by
    simp only [Items.fits, Option.some.injEq, Prod.mk.injEq] at hf
    obtain ⟨rfl, rfl⟩ := hf
    exact hk vs e a hev h3 h4 (fun _ _ => rfl)
  | .op d x r, g, top, ds, os, os', ds', vs, e, K, a, hf, hl, ht, hev, h3, h4, hk => by
    cases os with
    | nil => simp [Items.fits] at hf
    | cons o os =>
      simp only [Items.fits] at hf
      obtain ⟨hc, hf⟩ := Zas hf
      simp only [Bool.and_eq_true] at hc
      obtain ⟨⟨⟨hdst, hfit⟩, hgd⟩, htop⟩ := hc
      obtain ⟨hde, _⟩ := ZgY hdst
      have hsub := ZbM r g top _ os os' ds' hf
      obtain ⟨sv, ⟨vs', hK⟩, hok, hq⟩ := ZuR hΓ hfit h3 hw hev
      refine ZiC (Zcm hgd hl) ⟨_, hq, ?_⟩
      have hg' : ∀ t w, g = some (t, w) -> top = some t /\ t ∉ d.toList ++ ds := fun t w hgt => by
        refine ⟨(ht t w hgt).1, fun hm => ?_⟩
        rcases List.mem_append.1 hm with hm | hm
        · cases d with
          | none => simp at hm
          | some d => simp at hm; subst hm; rw [(ht _ w hgt).1] at htop; simp [Zix] at htop
        · exact (ht t w hgt).2 hm
      have hl' : lets g (a.put o.dst (sv.conc ρ)).tmps := by
        cases g with
        | none => trivial
        | some p =>
          obtain ⟨t, wt⟩ := p
          simp only [lets] at hl ⊢
          rw [<- hde, ZbV (fun h => (hg' t wt rfl).2 (by rw [h]; simp))]
          exact hl
      refine ZbC hΓ hw r g top _ os os' ds' vs' _ K _ hf hl' hg' hK (h3.put (fun _ _ => rfl) (Nat.le_refl _) hdst hok) (by rw [ZaS]; exact h4)
        fun vs'' e' a' hK' g3 g4 ho => hk vs'' e' a' hK' g3 g4 fun s hs => ?_
      rw [ho s hs, <- hde, ZbV (fun h => hs (hsub s (by rw [h]; simp)))]
  | .grp t wt b r, g, top, ds, os, os', ds', vs, e, K, a, hf, hl, ht, hev, h3, h4, hk => by
    simp only [Items.fits] at hf
    obtain ⟨hc, hf⟩ := Zas hf
    rw [Bool.and_eq_true] at hc
    have htn : t < nt := Nat.le_of_ble_eq_true hc.2
    split at hf
    · rename_i os1 ds1 hb1
      obtain ⟨hc1, hfr⟩ := Zas hf
      have hsub := ZbM r g top _ os1 os' ds' hfr
      have hout : ∀ t' w', g = some (t', w') -> t' ∉ ds1 := fun t' w' hg => by
        rw [(ht t' w' hg).1] at hc1
        simpa [ZeJ] using hc1
      have hg' : ∀ t' w', g = some (t', w') -> top = some t' /\ t' ∉ ds1 ++ ds := fun t' w' hg =>
        ⟨(ht t' w' hg).1, fun hm => (List.mem_append.1 hm).elim (hout t' w' hg) (ht t' w' hg).2⟩
      have hlet : ∀ a1 : Act, (∀ s, s ∉ ds1 -> a1.tmps[s]? = a.tmps[s]?) -> lets g a1.tmps := fun a1 h1 => by
        cases g with
        | none => trivial
        | some p => obtain ⟨t', w'⟩ := p; simp only [lets] at hl ⊢; rw [h1 t' (hout t' w' rfl)]; exact hl
      simp only [evR] at hev
      split at hev
      · rename_i c hget
        obtain ⟨hy, hn⟩ := hev
        have hat := h3.at htn hget
        by_cases hcw : c = wt
        · subst hcw
          refine ZbC hΓ hw b (some (t, c)) (some t) [] os os1 ds1 _ _ _ a hb1 (by simpa [lets, SVal.conc] using hat) (fun t' w' h => by cases h; simp) (hy rfl) (h3.same hget) h4 fun vs1 e1 a1 hK1 k3 k4 ho1 => ?_
          refine ZbC hΓ hw r g top _ os1 os' ds' vs1 e1 K a1 hfr (hlet a1 ho1) hg' hK1 k3 k4 fun vs'' e' a' hK' g3 g4 ho => hk vs'' e' a' hK' g3 g4 fun s hs => ?_
          rw [ho s hs, ho1 s (fun h => hs (hsub s (List.mem_append_left _ h)))]
        · have hcn : c = !wt := by cases c <;> cases wt <;> simp_all
          subst hcn
          refine Zbk (W := wpQuiet P ops (fun w => Rel w0 fp ρ H w) Q) (fun _ _ _ h1 h2 => Zfw h1 h2) b t wt [] os os1 ds1 a hb1 h3.1 (by unfold blocked; rw [hat]; simp [SVal.conc]) (by simp) (by simp) fun a1 hd1 he1 => ?_
          refine ZbC hΓ hw r g top _ os1 os' ds' _ _ K a1 hfr (hlet a1 hd1.other) hg' (hn rfl) (he1 _ _ _ (h3.same hget)) (hd1.defers.trans h4) fun vs'' e' a' hK' g3 g4 ho => hk vs'' e' a' hK' g3 g4 fun s hs => ?_
          rw [ho s hs, hd1.other s (fun h => hs (hsub s (List.mem_append_left _ h)))]
      · exact hev.elim
    · cases hf
  | .grpJ t wt b d x y r, g, top, ds, os, os', ds', vs, e, K, a, hf, hl, ht, hev, h3, h4, hk => by
    simp only [Items.fits] at hf
    obtain ⟨hc, hf⟩ := Zas hf
    rw [Bool.and_eq_true] at hc
    have htn : t < nt := Nat.le_of_ble_eq_true hc.2
    split at hf
    · rename_i o os1 ds1 hb1
      obtain ⟨hc1, hfr⟩ := Zas hf
      simp only [Bool.and_eq_true] at hc1
      obtain ⟨⟨⟨⟨⟨hto, htk⟩, hdst⟩, hgd⟩, hyo⟩, hpick⟩ := hc1
      obtain ⟨hde, hdl⟩ := ZgY hdst
      have hsub := ZbM r g top _ os1 os' ds' hfr
      have htds : t ∉ ds1 := (Zbp b _ t [] os _ ds1 hb1 (by simp)).1
      have hout : ∀ t' w', g = some (t', w') -> t' ∉ ds1 /\ t' ≠ d := fun t' w' hg => by
        rw [(ht t' w' hg).1] at hto htk
        exact ⟨by simpa [ZeJ] using hto, fun h => by subst h; simp [Zix] at htk⟩
      have hg' : ∀ t' w', g = some (t', w') -> top = some t' /\ t' ∉ d :: (ds1 ++ ds) := fun t' w' hg => by
        refine ⟨(ht t' w' hg).1, fun hm => ?_⟩
        simp only [List.mem_cons, List.mem_append] at hm
        rcases hm with h | h | h
        · exact (hout t' w' hg).2 h
        · exact (hout t' w' hg).1 h
        · exact (ht t' w' hg).2 h
      have hlet : ∀ a1 : Act, (∀ s, s ∉ ds1 -> a1.tmps[s]? = a.tmps[s]?) -> lets g a1.tmps := fun a1 h1 => by
        cases g with
        | none => trivial
        | some p => obtain ⟨t', w'⟩ := p; simp only [lets] at hl ⊢; rw [h1 t' (hout t' w' rfl).1]; exact hl
      have hlet2 : ∀ (a1 : Act) v, lets g a1.tmps -> lets g (a1.put o.dst v).tmps := fun a1 v h1 => by
        cases g with
        | none => trivial
        | some p =>
          obtain ⟨t', w'⟩ := p
          simp only [lets] at h1 ⊢
          rw [<- hde, ZbV (fun h => (hout t' w' rfl).2 (by simpa using h.symm))]
          exact h1
      unfold ZiD at hpick
      split at hpick
      · rename_i s u v hop
        rw [Bool.and_eq_true] at hpick
        have hs := Nat.eq_of_beq_eq_true hpick.1
        subst hs
        simp only [evR] at hev
        split at hev
        · rename_i c hget
          obtain ⟨q, hy, hn, hrest⟩ := hev
          have hat := h3.at htn hget
          -- the pick, once it is known which one
          have fin : ∀ (a1 : Act), (∀ z, z ∉ ds1 -> a1.tmps[z]? = a.tmps[z]?) -> a1.tmps.size = nt -> a1.defers = [] ->
              (a1.eval (if c then u else v) = .bool q) -> wpQuiet P ops (fun w => Rel w0 fp ρ H w) Q (o :: os1) a1 := fun a1 ho1 hsz1 hdf1 hval => by
            have hc1 : a1.eval (.tmp s) = .bool c := by
              have : a1.tmps[s]? = some (.bool c) := by rw [ho1 s htds, hat]; rfl
              exact Zo7 this
            have hrun : ∀ w1 : World, (execOp a1.eval o).run P w1 = .ok (.value (.bool q)) w1 := fun w1 => by
              simp only [execOp, hop, hc1, asBool]
              cases c <;> simp_all
            refine ZiC (Zcm hgd (hlet a1 ho1)) ⟨.bool q, fun w _ => ?_, ?_⟩
            · unfold Oper.quietAt; rw [hrun w]; exact ⟨rfl, rfl⟩
            have hen : EnvOk ρ H.next nt (Zo0 b e) a1.tmps := ⟨hsz1, fun z zv hz => by
              obtain ⟨k1, k2⟩ := Zdq b _ _ [] os _ ds1 e z zv hb1 hz
              have hzn : z ∉ ds1 := fun h => by simpa using k2 h
              have := h3.2 z zv k1
              refine ⟨this.1, ?_⟩
              rw [Array.getD_eq_getD_getElem?, ho1 z hzn, <- Array.getD_eq_getD_getElem?, this.2]⟩
            have hen2 := hen.put (ρ' := ρ) (n' := H.next) (v := .bool q) (fun _ _ => rfl) (Nat.le_refl _) hdst (by simp [SVal.ok])
            simp only [SVal.conc] at hen2
            refine ZbC hΓ hw r g top _ os1 os' ds' _ _ K _ hfr (hlet2 a1 _ (hlet a1 ho1)) hg' hrest hen2 (by rw [ZaS]; exact hdf1)
              fun vs'' e' a' hK' g3 g4 ho => hk vs'' e' a' hK' g3 g4 fun z hz => ?_
            rw [ho z hz, <- hde, ZbV (fun h => hz (hsub z (by simp at h; simp [h]))), ho1 z (fun h => hz (hsub z (by simp [h])))]
          by_cases hcw : c = wt
          · subst hcw
            refine ZbC hΓ hw b (some (s, c)) (some s) [] os (o :: os1) ds1 _ _ _ a hb1 (by simpa [lets, SVal.conc] using hat) (fun t' w' h => by cases h; simp) (hy rfl) (h3.same hget) h4 fun vs1 e1 a1 hx g3 g4 ho1 => ?_
            refine fin a1 ho1 g3.1 g4 ?_
            have hxf : x.fits (if c then u else v) = true := by cases c <;> simp_all
            obtain ⟨xv, hxv, _, hxe⟩ := Opd.ev_sound hxf g3 hx
            obtain rfl := ZkO hxv
            rw [hxe]; rfl
          · have hcn : c = !wt := by cases c <;> cases wt <;> simp_all
            subst hcn
            refine Zbk (W := wpQuiet P ops (fun w => Rel w0 fp ρ H w) Q) (fun _ _ _ h1 h2 => Zfw h1 h2) b s wt [] os (o :: os1) ds1 a hb1 h3.1 (by unfold blocked; rw [hat]; simp [SVal.conc]) (by simp) (by simp) fun a1 hd1 he1 => ?_
            refine fin a1 hd1.other (hd1.size.trans h3.1) (hd1.defers.trans h4) ?_
            have hyf : y.fits (if !wt then u else v) = true := by cases wt <;> simp_all
            obtain ⟨yv, hyv, _, hye⟩ := Opd.ev_sound hyf h3 (hn rfl)
            obtain rfl := ZkO hyv
            rw [ZlO hyf hyo hd1.other, hye]; rfl
        · exact hev.elim
      · cases hpick
    · cases hf
end
abbrev ZaY := X -> Env -> Heap -> Prop
def SemA (P : Program) (w0 : World) (fp : Nat -> Nat -> Prop) (ρi : Rho) (n0 nt : Nat) (c : ACode) (e : Env) (H : Heap) (K : ZaY) : Prop := ∀ c', c.fits P nt c' = true -> Zq7 P w0 fp ρi n0 nt c' e H K
def AtEnd (w0 : World) (fp : Nat -> Nat -> Prop) (ρi : Rho) (n0 nt : Nat) (K : ZaY) (x : X) (e : Env) (H : Heap) : Prop := ∀ ex a w, ZOh ex x -> St w0 fp ρi n0 nt e H a w -> Zym w0 fp ρi n0 nt K ex a w
def ZAC (S : Env -> Heap -> Prop) (K : ZaY) : ZaY
  | .nrm, e, H => S e H
  | .ex i, e, H => K (.ex i) e H
  | .ret, e, H => K .ret e H
def SemL (P : Program) (w0 : World) (fp : Nat -> Nat -> Prop) (ρi : Rho) (n0 nt : Nat) : List ACode -> Env -> Heap -> ZaY -> Prop
  | [], e, H, K => AtEnd w0 fp ρi n0 nt K .nrm e H
  | c :: r, e, H, K => SemA P w0 fp ρi n0 nt c e H (ZAC (fun e H => SemL P w0 fp ρi n0 nt r e H K) K)
def Zax (i : Nat) (S : Env -> Heap -> Prop) (K : ZaY) : ZaY
  | .nrm, e, H => S e H
  | .ex j, e, H => bif Nat.beq j i then S e H else K (.ex j) e H
  | .ret, e, H => K .ret e H
def ZeM : List Nat -> Env -> Env
  | [], _ => []
  | k :: ks, e => match ZeN e k with
    | some v => (k, some v) :: ZeM ks e
    | none => ZeM ks e
def ZbG : List Nat -> Heap -> List (Nat × Option Ent)
  | [], _ => []
  | k :: ks, H => match H.find k with
    | some en => (k, some en) :: ZbG ks H
    | none => ZbG ks H
def Heap.keep (H : Heap) (hs : List Nat) : Heap := ⟨H.next, ZbG hs H⟩
theorem Zta (k : Nat) (v : Option SVal) (r : Env) (n : Nat) : ZeN ((k, v) :: r) n = if k = n then v else ZeN r n := by
  simp only [ZeN]
  by_cases h : k = n
  · subst h; simp
  · have hb : Nat.beq k n = false := by
      cases hb : Nat.beq k n
      · rfl
      · exact absurd (Nat.eq_of_beq_eq_true hb) h
    simp [hb, h]
theorem Zjq {e : Env} {s : Nat} {v : SVal} : ∀ {ks : List Nat}, ZeN (ZeM ks e) s = some v -> ZeN e s = some v
  | [], h => by cases h
  | k :: ks, h => by
    simp only [ZeM] at h
    split at h
    · rename_i u hu
      rw [Zta] at h
      split at h
      · rename_i hk; subst hk; rw [hu]; exact h
      · exact Zjq h
    · exact Zjq h
theorem Zbu {H : Heap} {hs : List Nat} {i : Nat} {en : Ent} (h : (H.keep hs).find i = some en) : H.find i = some en := by
  unfold Heap.keep Heap.find at h
  simp only at h
  induction hs with
  | nil => cases h
  | cons k ks ih =>
    simp only [ZbG] at h
    split at h
    · rename_i u hu
      rw [ZaF] at h
      split at h
      · rename_i hk; subst hk; rw [hu]; exact h
      · exact ih h
    · exact ih h
theorem Rel.keep {w0 w : World} {fp : Nat -> Nat -> Prop} {ρ : Rho} {H : Heap} (h : Rel w0 fp ρ H w) (hs : List Nat) : Rel w0 fp ρ (H.keep hs) w :=
  ⟨h.frame, fun i en he => h.ents i en (Zbu he), fun i en he => h.oks i en (Zbu he), fun i en he => h.own i en (Zbu he),
    fun i j en en' hne he he' => h.apart i j en en' hne (Zbu he) (Zbu he'), fun i en he => h.next i en (Zbu he), fun i en he => h.ro i en (Zbu he), fun i en he => h.mnew i en (Zbu he), h.ab.less (fun i e he => Zbu he), h.hid.less fun i e he => Zbu he⟩
section
variable {w0 : World} {fp : Nat -> Nat -> Prop} {ρi : Rho} {n0 nt : Nat}
theorem St.pick {e : Env} {H : Heap} {a : Act} {w : World} (ks hs : List Nat) (h : St w0 fp ρi n0 nt e H a w) : St w0 fp ρi n0 nt (ZeM ks e) (H.keep hs) a w := by
  obtain ⟨ρ, h1, h2, h3, h4, h5⟩ := h
  exact ⟨ρ, h1, h2, ⟨h3.1, fun s u hu => h3.2 s u (Zjq hu)⟩, h4, h5.keep hs⟩
end
def evN (Γ : Zav) : List Nat -> List MStep -> List (List Nat) -> Env -> Heap -> (Env -> Heap -> Prop) -> Prop
  | _, [], _, e, H, K => K e H
  | G, .mk _ 0 d x :: r, hss, e, H, K => bif x.looks then ZaV Γ x e (H.keep (hss.headD [] ++ G)) fun v _ => evN Γ (hss.headD [] ++ G) r hss.tail (put d v e) H K else False
  | G, .mk _ 1 d x :: r, hss, e, H, K => ZaV Γ x e H fun v H' => Zby H' (H.keep G) (ZbG G H) /\ evN Γ G r hss.tail (put d v e) H' K
  | _, .mk _ _ d x :: r, hss, e, H, K => ZaV Γ x e H fun v H' => evN Γ [] r hss.tail (put d v e) H' K
theorem Zdr {H : Heap} {G : List Nat} {i : Nat} {en : Ent} (hi : i ∈ G) (h : H.find i = some en) : (H.keep G).find i = some en := by
  unfold Heap.keep Heap.find
  simp only
  induction G with
  | nil => cases hi
  | cons k ks ih =>
    simp only [ZbG]
    by_cases hk : k = i
    · subst hk; simp only [h]; rw [ZaF, if_pos rfl]
    · have hi' : i ∈ ks := by
        rcases List.mem_cons.1 hi with h1 | h1
        · exact absurd h1.symm hk
        · exact h1
      split
      · rw [ZaF, if_neg hk]; exact ih hi'
      · exact ih hi'
theorem Zr4 {H : Heap} {G : List Nat} {i : Nat} {en : Ent} (h : (H.keep G).find i = some en) : i ∈ G := by
  unfold Heap.keep Heap.find at h
  simp only at h
  induction G with
  | nil => cases h
  | cons k ks ih =>
    simp only [ZbG] at h
    split at h
    · rw [ZaF] at h
      split at h
      · rename_i hk; subst hk; simp
      · exact List.mem_cons_of_mem _ (ih h)
    · exact List.mem_cons_of_mem _ (ih h)
theorem Rel.keepSub {w0 w : World} {fp : Nat -> Nat -> Prop} {ρ : Rho} {H : Heap} {G G' : List Nat} (h : Rel w0 fp ρ (H.keep G') w) (hs : ∀ i, i ∈ G -> i ∈ G') : Rel w0 fp ρ (H.keep G) w := by
  have hf : ∀ i en, (H.keep G).find i = some en -> (H.keep G').find i = some en := fun i en he => Zdr (hs i (Zr4 he)) (Zbu he)
  exact ⟨h.frame, fun i en he => h.ents i en (hf i en he), fun i en he => h.oks i en (hf i en he), fun i en he => h.own i en (hf i en he),
    fun i j en en' hne he he' => h.apart i j en en' hne (hf i en he) (hf j en' he'), fun i en he => h.next i en (hf i en he), fun i en he => h.ro i en (hf i en he), fun i en he => h.mnew i en (hf i en he), h.ab.less hf, h.hid.less hf⟩
theorem Zf6 {H : Heap} {G : List Nat} : Zby H (H.keep G) (ZbG G H) := by
  have key : ∀ l : List (Nat × Option Ent), (∀ p ∈ l, H.find p.1 = (H.keep G).find p.1) -> Zby H (H.keep G) l := fun l => by
    induction l with
    | nil => intro _; trivial
    | cons p r ih => intro h; exact ⟨h p (by simp), ih fun q hq => h q (by simp [hq])⟩
  refine key _ fun p hp => ?_
  have hm : ∀ (ks : List Nat), p ∈ ZbG ks H -> p.1 ∈ ks /\ ∃ en, H.find p.1 = some en := fun ks => by
    induction ks with
    | nil => intro h; cases h
    | cons k ks ih =>
      intro h
      simp only [ZbG] at h
      split at h
      · rename_i en he
        rcases List.mem_cons.1 h with rfl | h
        · exact ⟨by simp, en, he⟩
        · exact ⟨List.mem_cons_of_mem _ (ih h).1, (ih h).2⟩
      · exact ⟨List.mem_cons_of_mem _ (ih h).1, (ih h).2⟩
  obtain ⟨h1, en, h2⟩ := hm G hp
  rw [h2, Zdr h1 h2]
section
variable {P : Program} {w0 : World} {fp : Nat -> Nat -> Prop} {nt : Nat}
theorem Zfx {Γ : Zav} (hΓ : ZaK P Γ) {ops : Array Oper} {Q : Exit -> Act -> World -> Prop} (hsel : Region.noSelect ops = true) (hQ : ∀ c a w, ¬ Q (.panic c) a w) : ∀ (steps : List MStep) (hss : List (List Nat)) (G : List Nat) (listed : Array Bool) (e : Env) (H : Heap) (ρ : Rho) (K : Env -> Heap -> Prop) (a : Act) (w : World),
    Zkm P nt ops listed steps = true -> listed.size = ops.size -> Shut .any ops listed -> evN Γ G steps hss e H K -> Rel w0 fp ρ H w -> EnvOk ρ H.next nt e a.tmps -> a.defers = [] ->
    (∀ ρ' e' H' a' w', K e' H' -> (∀ i, i < H.next -> ρ' i = ρ i) -> H.next <= H'.next -> EnvOk ρ' H'.next nt e' a'.tmps -> a'.defers = [] -> Rel w0 fp ρ' H' w' -> Q .normal a' w') ->
    ZeI P .any ops Q (Zyj w0 fp ρ (H.keep G) (ZaA ops.size steps)) steps.length listed a w
  | [], hss, G, listed, e, H, ρ, K, a, w, hf, hz, hd, hev, hr, he, hdf, hk => by
    simp only [Zkm, List.isEmpty_iff] at hf
    exact ⟨hf, hk ρ e H a w (by simpa only [evN] using hev) (fun _ _ => rfl) (Nat.le_refl _) he hdf hr⟩
  | .mk i k d x :: r, hss, G, listed, e, H, ρ, K, a, w, hf, hz, hd, hev, hr, he, hdf, hk => by
    simp only [Zkm] at hf
    split at hf
    · rename_i o ho
      simp only [Bool.and_eq_true, Option.isNone_iff_eq_none] at hf
      obtain ⟨⟨⟨⟨hg, hdst⟩, hfit⟩, hkind⟩, hrest⟩ := hf
      have hwant : ∀ t, Region.wanted o (yielded ops t) = true := fun t => by unfold Region.wanted; simp only [hg]
      obtain ⟨hde, _⟩ := ZgY hdst
      have hil : i < ops.size := (Array.getElem?_eq_some_iff.1 ho).1
      have hnx : i ≠ ZaA ops.size r := fun h => by
        have h1 := Zjw r _ hrest (by simpa using hz)
        rw [<- h] at h1
        simp [hz, hil] at h1
      -- an operation that does something: none but it may come up
      have does : Region.ready .any ops listed = [i] -> ∀ (S : Array Bool -> World -> Prop), (o.wp P a w (fun a' w' => S (listed.setIfInBounds i true) w' /\ ZeI P .any ops Q S r.length (listed.setIfInBounds i true) a' w') Q) ->
          ZeI P .any ops Q S (r.length + 1) listed a w := fun hrd S h => by
        refine ⟨fun h0 => (by rw [hrd] at h0; cases h0), fun j hj => ?_⟩
        rw [hrd, List.mem_singleton] at hj
        subst hj
        unfold wpOp
        simp only [ho, hwant, if_true]
        exact .inl h
      have hshut : ∀ (_ : Region.ready .any ops listed = [i]), Shut .any ops (listed.setIfInBounds i true) := fun hrd => hd.add (by rw [hrd]; simp)
      rcases (show k = 0 ∨ k = 1 ∨ 2 <= k by omega) with rfl | rfl | hk2
      · simp only [Nat.beq, cond_true, Bool.and_eq_true] at hkind
        obtain ⟨⟨hrd, hfree⟩, hw⟩ := hkind
        simp only [evN] at hev
        generalize hG' : hss.headD [] ++ G = G' at hev
        have hsub : ∀ i, i ∈ G -> i ∈ G' := fun i hi => by rw [<- hG']; exact List.mem_append_right _ hi
        cases hlk : x.looks with
        | false => rw [hlk] at hev; exact hev.elim
        | true =>
          rw [hlk] at hev
          simp only [cond_true] at hev
          have hq : Looks P a o w0 fp ρ (H.keep G') fun v _ => evN Γ G' r hss.tail (put d v e) H K := Zr1 hlk hfit he (hr.keep G') hev
          obtain ⟨sv, hK, hok, hrun⟩ := hq
          have hnl : ZaA ops.size (.mk i 0 d x :: r) = ZaA ops.size r := rfl
          have hne : i ≠ ZaA ops.size r := hnx
          rw [hnl]
          refine Zck (S' := Zyj w0 fp ρ (H.keep G') (ZaA ops.size r)) (fun _ => True) (fun _ _ h => h) (fun l w _ h h0 => (h h0).keepSub hsub) _ _ _ _ trivial ?_
          refine Zh7 (U := fun w => Rel w0 fp ρ (H.keep G') w) ho (Region.noSelect_spec hsel) hQ (fun l w => ?_) (fun l w hsh hlz hil' hs => ?_) r.length listed a w hd hz (Region.free_spec ho hfree) (by simpa using hrd) (.inl ⟨hwant _, hrun⟩) (fun _ => hr.keep G') ?_
          · unfold Zyj; rw [Zf1 hne]
          · refine hs ?_
            rw [Bool.or_eq_true] at hw
            rcases hw with h1 | h1
            · rw [Nat.eq_of_beq_eq_true h1]
              simp [hlz]
            · exact Zf3 hsh hil' _ _ h1
          · refine Zfx hΓ hsel hQ r _ G' _ _ H ρ K _ w hrest (by simpa using hz) (hd.add (by simpa using hrd)) hK hr (he.put (fun _ _ => rfl) (Nat.le_refl _) hdst hok) (by rw [ZaS]; exact hdf) hk
      · simp only [Nat.beq, cond_false, decide_eq_true_eq] at hkind
        simp only [evN] at hev
        have hnl : ZaA ops.size (.mk i 1 d x :: r) = ZaA ops.size r := rfl
        rw [hnl]
        refine does hkind _ (ZgH hΓ hfit he hr hev fun v w' hp => ?_)
        obtain ⟨ρ', sv, H', ⟨hkp, hK⟩, rfl, hok, hρ, hnxt, hr'⟩ := hp
        have hforget : ∀ w, Rel w0 fp ρ' (H'.keep G) w -> Rel w0 fp ρ (H.keep G) w := fun w h => h.forget (fun i en he => Zdr (Zr4 he) (ZgR (H := H.keep G) hkp i en he)) (hr.keep G) hρ
        refine ⟨fun _ => hforget _ (hr'.keep G), Zck (S' := Zyj w0 fp ρ' (H'.keep G) (ZaA ops.size r)) (fun _ => True) (fun _ _ h => h) (fun l w _ h h0 => hforget _ (h h0)) _ _ _ _ trivial ?_⟩
        refine Zfx hΓ hsel hQ r _ G _ _ H' ρ' K _ w' hrest (by simpa using hz) (hshut hkind) hK hr' (he.put hρ hnxt hdst hok) (by rw [ZaS]; exact hdf) (fun ρ2 e2 H2 a2 w2 h1 h2 h3 h4 h5 h6 => hk ρ2 e2 H2 a2 w2 h1 (fun j hj => by rw [h2 j (by omega), hρ j hj]) (by omega) h4 h5 h6)
      · have hk0 : Nat.beq k 0 = false := by cases k with | zero => omega | succ k => rfl
        rw [hk0] at hkind
        simp only [cond_false, decide_eq_true_eq] at hkind
        have hev : ZaV Γ x e H fun v H' => evN Γ [] r hss.tail (put d v e) H' K := by
          match k, hk2 with
          | k + 2, _ => simpa only [evN] using hev
        have hnl : ZaA ops.size (.mk i k d x :: r) = i := by
          simp only [ZaA]
          rw [show Nat.ble 2 k = true from Nat.ble_eq_true_of_le hk2]; rfl
        rw [hnl]
        refine does hkind _ (ZgH hΓ hfit he hr hev fun v w' hp => ?_)
        obtain ⟨ρ', sv, H', hK, rfl, hok, hρ, hnxt, hr'⟩ := hp
        have hset : (listed.setIfInBounds i true).getD i false = true := by simp [hz, hil]
        refine ⟨fun h => (by rw [hset] at h; cases h), Zck (S' := Zyj w0 fp ρ' (H'.keep []) (ZaA ops.size r)) (fun l => l.getD i false = true) (fun l j h => getD_set_true h) (fun l w hl _ h0 => (by rw [hl] at h0; cases h0)) _ _ _ _ hset ?_⟩
        refine Zfx hΓ hsel hQ r _ [] _ _ H' ρ' K _ w' hrest (by simpa using hz) (hshut hkind) hK hr' (he.put hρ hnxt hdst hok) (by rw [ZaS]; exact hdf) (fun ρ2 e2 H2 a2 w2 h1 h2 h3 h4 h5 h6 => hk ρ2 e2 H2 a2 w2 h1 (fun j hj => by rw [h2 j (by omega), hρ j hj]) (by omega) h4 h5 h6)
    · cases hf
end
section
variable {P : Program} {w0 : World} {fp : Nat -> Nat -> Prop} {ρi : Rho} {n0 nt : Nat} {e : Env} {H : Heap} {K : ZaY} {r : List ACode}
theorem ZzC {x : X} (h : K x e H) : AtEnd w0 fp ρi n0 nt K x e H := fun _ _ _ hx hs => ⟨x, e, H, hx, h, hs⟩
theorem AtEnd.sub {x : X} {τ : Nat -> Part} {e' : Env} {H' : Heap} (hs : Sub n0 τ e H e' H') (h : AtEnd w0 fp ρi n0 nt K x e' H') : AtEnd w0 fp ρi n0 nt K x e H := fun ex a w hx hst => h ex a w hx (hst.sub hs)
theorem SemA.sub {c : ACode} {τ : Nat -> Part} {e' : Env} {H' : Heap} (hs : Sub n0 τ e H e' H') (h : SemA P w0 fp ρi n0 nt c e' H' K) : SemA P w0 fp ρi n0 nt c e H K := fun c' hf a w hst => h c' hf a w (hst.sub hs)
theorem SemL.sub {τ : Nat -> Part} {e' : Env} {H' : Heap} (hs : Sub n0 τ e H e' H') (h : SemL P w0 fp ρi n0 nt r e' H' K) : SemL P w0 fp ρi n0 nt r e H K := by
  cases r with
  | nil => exact AtEnd.sub hs h
  | cons c r => exact SemA.sub hs h
theorem SemL.pick (ks hs : List Nat) (h : SemL P w0 fp ρi n0 nt r (ZeM ks e) (H.keep hs) K) : SemL P w0 fp ρi n0 nt r e H K := by
  cases r with
  | nil => exact fun ex a w hx hst => h ex a w hx (hst.pick ks hs)
  | cons c r => exact fun c' hf a w hst => h c' hf a w (hst.pick ks hs)
def ZLg (Z : Env -> Heap -> Prop) : ZaY
  | .nrm, e, H => Z e H
  | .ex _, _, _ => False
  | .ret, _, _ => False
def Λ0 : ZsP := fun _ _ _ _ => False
structure EvC (Γ : Zav) (a : ACode) (e : Env) (H : Heap) (ks hs : List Nat) (Z : Env -> Heap -> Prop) : Prop where
  h : ZdU Γ Λ0 a e H (ZLg fun e' H' => Z (ZeM ks e') (H'.keep hs))
theorem EvC.of {Γ : Zav} {a : ACode} {e : Env} {H : Heap} {ks hs : List Nat} {Z : Env -> Heap -> Prop} {F : Prop} (heq : ZdU Γ Λ0 a e H (ZLg fun e' H' => Z (ZeM ks e') (H'.keep hs)) = F) (h : F) : EvC Γ a e H ks hs Z := ⟨Eq.mpr heq h⟩
structure EvQC (Γ : Zav) (its : Items) (vs : List SVal) (e : Env) (H : Heap) (ks hs : List Nat) (Z : Env -> Heap -> Prop) : Prop where
  h : evR Γ H its vs e fun _ e' => Z (ZeM ks e') (H.keep hs)
theorem EvQC.of {Γ : Zav} {its : Items} {vs : List SVal} {e : Env} {H : Heap} {ks hs : List Nat} {Z : Env -> Heap -> Prop} {F : Prop} (heq : (evR Γ H its vs e fun _ e' => Z (ZeM ks e') (H.keep hs)) = F) (h : F) : EvQC Γ its vs e H ks hs Z := ⟨Eq.mpr heq h⟩
structure EvNC (Γ : Zav) (steps : List MStep) (hss : List (List Nat)) (e : Env) (H : Heap) (ks hs : List Nat) (Z : Env -> Heap -> Prop) : Prop where
  h : evN Γ [] steps hss e H fun e' H' => Z (ZeM ks e') (H'.keep hs)
theorem EvNC.of {Γ : Zav} {steps : List MStep} {hss : List (List Nat)} {e : Env} {H : Heap} {ks hs : List Nat} {Z : Env -> Heap -> Prop} {F : Prop} (heq : (evN Γ [] steps hss e H fun e' H' => Z (ZeM ks e') (H'.keep hs)) = F) (h : F) : EvNC Γ steps hss e H ks hs Z := ⟨Eq.mpr heq h⟩
structure RetC (R : Res) (e : Env) (H : Heap) (v : SVal) : Prop where
  h : ∀ Z : SVal -> Prop, Z v -> R.ev e H Z
theorem RetC.of {R : Res} {e : Env} {H : Heap} {v : SVal} (heq : ∀ Z : SVal -> Prop, R.ev e H Z = Z v) : RetC R e H v := ⟨fun Z h => Eq.mpr (heq Z) h⟩
theorem Zad {Γ : Zav} (hΓ : ZaK P Γ) {a : ACode} {ks hs : List Nat} (h : EvC Γ a e H ks hs fun e H => SemL P w0 fp ρi n0 nt r e H K) : SemL P w0 fp ρi n0 nt (a :: r) e H K := by
  have h := h.h
  intro c' hf ac w hst
  refine Code.wp_mono ?_ (ZcW hΓ (Λ := Λ0) (fun _ _ _ _ h => h.elim) a c' e H _ hf h ac w hst)
  rintro ex a' w' ⟨xx, e', H', h1, h2, h3⟩
  cases xx with
  | nrm => exact ⟨.nrm, e', H', h1, SemL.pick ks hs h2, h3⟩
  | ex i => exact h2.elim
  | ret => exact h2.elim
theorem ZLL {Γ : Zav} (hΓ : ZaK P Γ) {its : Items} (vs : List SVal) (ks hs : List Nat) (h : evR Γ H its vs e fun _ e' => SemL P w0 fp ρi n0 nt r (ZeM ks e') (H.keep hs) K) : SemL P w0 fp ρi n0 nt (.regQ its :: r) e H K := by
  intro c' hf
  cases c' <;> first | (simp only [ACode.fits] at hf; cases hf; done) | skip
  rename_i id ops draw
  simp only [ACode.fits, Bool.and_eq_true] at hf
  obtain ⟨⟨⟨hd, hm⟩, hB⟩, hf⟩ := hf
  subst hd
  split at hf
  · rename_i ds' hfit
    intro a w hst
    obtain ⟨ρ, h1, h2, h3, h4, h5⟩ := hst
    exact wp_region_quiet (C := fun w => Rel w0 fp ρ H w) hm hB (h5.drew _) (ZbC hΓ ⟨w, h5⟩ its none none [] ops.toList [] ds' vs e _ a hfit trivial (fun _ _ h => by cases h) h h3 h4
      fun vs' e' a' hK g3 g4 _ => wpQuiet_nil fun w' hw' => ⟨.nrm, e', H, trivial, SemL.pick ks hs hK, ρ, h1, h2, g3, g4, hw'⟩)
  · cases hf
theorem ZLM {Γ : Zav} (hΓ : ZaK P Γ) {steps : List MStep} (hss : List (List Nat)) (ks hs : List Nat) (h : evN Γ [] steps hss e H fun e' H' => SemL P w0 fp ρi n0 nt r (ZeM ks e') (H'.keep hs) K) : SemL P w0 fp ρi n0 nt (.regM steps :: r) e H K := by
  intro c' hf
  cases c' <;> first | (simp only [ACode.fits] at hf; cases hf; done) | skip
  rename_i id ops draw
  simp only [ACode.fits, Bool.and_eq_true] at hf
  obtain ⟨⟨⟨⟨hd, hm⟩, hsel⟩, hlen⟩, hf⟩ := hf
  subst hd
  intro a w hst
  obtain ⟨ρ, h1, h2, h3, h4, h5⟩ := hst
  refine wp_region_any hm (Zhg (S := Zyj w0 fp ρ (H.keep []) (ZaA ops.size steps)) _ _ _ _ ?_)
  have hle := Nat.eq_of_beq_eq_true hlen
  have hQ : ∀ c a w, ¬ Zym w0 fp ρi n0 nt (ZAC (fun e H => SemL P w0 fp ρi n0 nt r e H K) K) (.panic c) a w := by
    rintro c a w ⟨xx, _, _, h, _⟩
    cases xx <;> exact h.elim
  have hsh : Shut .any ops (Array.replicate ops.size false) := by
    intro j o ho hj
    have hlt : j < ops.size := (Array.getElem?_eq_some_iff.1 ho).1
    simp [hlt] at hj
  have hmix := Zfx hΓ hsel hQ steps hss [] _ e H ρ _ a { w with drawn := w.drawn + 1 } hf (by simp) hsh h (h5.drew _) h3 h4 fun ρ' e' H' a' w' hK g1 g2 g3 g4 g5 =>
    ⟨.nrm, e', H', trivial, SemL.pick ks hs hK, ρ', fun i hi => by rw [g1 i (by omega), h1 i hi], by omega, g3, g4, g5⟩
  rw [hle] at hmix
  exact hmix
theorem Zkl {Γ : Zav} (hΓ : ZaK P Γ) {its : Items} {vs : List SVal} {ks hs : List Nat} (h : EvQC Γ its vs e H ks hs fun e H => SemL P w0 fp ρi n0 nt r e H K) : SemL P w0 fp ρi n0 nt (.regQ its :: r) e H K := ZLL hΓ vs ks hs h.h
theorem Zcf {Γ : Zav} (hΓ : ZaK P Γ) {steps : List MStep} {hss : List (List Nat)} {ks hs : List Nat} (h : EvNC Γ steps hss e H ks hs fun e H => SemL P w0 fp ρi n0 nt r e H K) : SemL P w0 fp ρi n0 nt (.regM steps :: r) e H K := ZLM hΓ hss ks hs h.h
theorem Zah {x y : ACode} (h : SemL P w0 fp ρi n0 nt (x :: y :: r) e H K) : SemL P w0 fp ρi n0 nt (.seq x y :: r) e H K := by
  intro c' hf
  cases c' <;> first | (simp only [ACode.fits] at hf; cases hf; done) | skip
  rename_i x' y'
  simp only [ACode.fits, Bool.and_eq_true] at hf
  intro a w hst
  refine wp_seq (Code.wp_mono ?_ (h x' hf.1 a w hst))
  rintro ex a' w' ⟨xx, e', H', h1, h2, h3⟩
  cases ex <;> cases xx <;> first | exact h1.elim | skip
  · exact h2 y' hf.2 a' w' h3
  · exact ⟨_, e', H', h1, h2, h3⟩
  · exact ⟨_, e', H', h1, h2, h3⟩
theorem ZaI (h : SemL P w0 fp ρi n0 nt r e H K) : SemL P w0 fp ρi n0 nt (.skip :: r) e H K := by
  intro c' hf
  cases c' <;> first | (simp only [ACode.fits] at hf; cases hf; done) | skip
  exact fun a w hst => wp_skip ⟨.nrm, e, H, trivial, h, hst⟩
theorem ZaO (h : K .nrm e H) : SemL P w0 fp ρi n0 nt [] e H K := ZzC h
theorem ZN6 (h : K .ret e H) : SemL P w0 fp ρi n0 nt (.ret :: r) e H K := by
  intro c' hf
  cases c' <;> first | (simp only [ACode.fits] at hf; cases hf; done) | skip
  exact fun a w hst => wp_ret ⟨.ret, e, H, trivial, h, hst⟩
theorem Zbb {i : Nat} (h : K (.ex i) e H) : SemL P w0 fp ρi n0 nt (.exit i :: r) e H K := by
  intro c' hf
  cases c' <;> first | (simp only [ACode.fits] at hf; cases hf; done) | skip
  rename_i j
  have : i = j := Nat.eq_of_beq_eq_true (by simpa only [ACode.fits] using hf)
  subst this
  exact fun a w hst => wp_exit ⟨.ex i, e, H, rfl, h, hst⟩
theorem SemA.of_L {c : ACode} (h : SemL P w0 fp ρi n0 nt [c] e H K) : SemA P w0 fp ρi n0 nt c e H K := by
  intro c' hf a w hst
  refine Code.wp_mono ?_ (h c' hf a w hst)
  rintro ex a' w' ⟨xx, e', H', h1, h2, h3⟩
  cases xx with
  | nrm => exact h2 ex a' w' h1 h3
  | ex i => exact ⟨_, e', H', h1, h2, h3⟩
  | ret => exact ⟨_, e', H', h1, h2, h3⟩
theorem ZaJ {n : Nat} {t f : ACode} {q : Bool} (hq : ZeN e n = some (.bool q)) (ht : q = true -> SemL P w0 fp ρi n0 nt (t :: r) e H K) (hf' : q = false -> SemL P w0 fp ρi n0 nt (f :: r) e H K) : SemL P w0 fp ρi n0 nt (.cond (.tm n) t f :: r) e H K := by
  intro c' hf
  cases c' <;> first | (simp only [ACode.fits] at hf; cases hf; done) | skip
  rename_i x' t' f'
  simp only [ACode.fits, Bool.and_eq_true] at hf
  intro a w hst
  obtain ⟨ρ, h1, h2, h3, h4, h5⟩ := hst
  have hev : Opd.ev e (.tm n) (fun v => v = .bool q) := by simp only [Opd.ev, hq]
  obtain ⟨v, hv, _, hve⟩ := Opd.ev_sound hf.1.1 h3 hev
  subst hv
  refine wp_cond (t := q) (by rw [hve]; rfl) ?_
  cases q with
  | true => exact ht rfl t' hf.1.2 a w ⟨ρ, h1, h2, h3, h4, h5⟩
  | false => exact hf' rfl f' hf.2 a w ⟨ρ, h1, h2, h3, h4, h5⟩
theorem Zat {i : Nat} {b : ACode} (h : SemL P w0 fp ρi n0 nt [b] e H (Zax i (fun e H => SemL P w0 fp ρi n0 nt r e H K) K)) : SemL P w0 fp ρi n0 nt (.block i b :: r) e H K := by
  intro c' hf
  cases c' <;> first | (simp only [ACode.fits] at hf; cases hf; done) | skip
  rename_i id' b'
  simp only [ACode.fits, Bool.and_eq_true] at hf
  have hid := Nat.eq_of_beq_eq_true hf.1
  subst hid
  intro a w hst
  refine wp_block (Code.wp_mono ?_ (SemA.of_L h b' hf.2 a w hst))
  rintro ex a' w' ⟨xx, e', H', h1, h2, h3⟩
  cases ex <;> cases xx <;> first | exact h1.elim | skip
  · exact ⟨.nrm, e', H', trivial, h2, h3⟩
  · rename_i j j'
    have hij : j = j' := h1
    subst hij
    simp only [Exit.inBlock]
    simp only [Zax] at h2
    split
    · rename_i hi
      subst hi
      simp only [Nat.beq_refl, cond_true] at h2
      exact ⟨.nrm, e', H', trivial, h2, h3⟩
    · rename_i hi
      have hb : Nat.beq j i = false := by
        cases hb : Nat.beq j i
        · rfl
        · exact absurd (Nat.eq_of_beq_eq_true hb) hi
      rw [hb] at h2
      exact ⟨.ex j, e', H', rfl, h2, h3⟩
  · exact ⟨_, e', H', h1, h2, h3⟩
def Zb2 (n0 : Nat) {S : Type} (inv : S -> Prop) (μ : S -> Nat) (I : S -> Env) (J : S -> Heap) (x : S) (K : ZaY) : ZaY
  | .nrm, e, H => ∃ x' τ, inv x' /\ μ x' < μ x /\ Sub n0 τ e H (I x') (J x')
  | .ex i, e, H => K (.ex i) e H
  | .ret, e, H => K .ret e H
theorem Zbd {b : ACode} {S : Type} (inv : S -> Prop) (μ : S -> Nat) (I : S -> Env) (J : S -> Heap) (start : ∃ x τ, inv x /\ Sub n0 τ e H (I x) (J x))
    (step : ∀ x, inv x -> SemL P w0 fp ρi n0 nt [b] (I x) (J x) (Zb2 n0 inv μ I J x K)) : SemL P w0 fp ρi n0 nt (.loop b :: r) e H K := by
  intro c' hf
  cases c' <;> first | (simp only [ACode.fits] at hf; cases hf; done) | skip
  rename_i b'
  simp only [ACode.fits] at hf
  intro a w hst
  obtain ⟨x0, τ0, hi0, hs0⟩ := start
  have hst0 := hst.sub hs0
  intro bf k cs
  have key : ∀ n x a w, μ x = n -> inv x -> St w0 fp ρi n0 nt (I x) (J x) a w ->
      ∃ ex a' w', Zym w0 fp ρi n0 nt (ZAC (fun e H => SemL P w0 fp ρi n0 nt r e H K) K) ex a' w' /\ Arrives P (lone (bf.at a (.code b' :: .inLoop b' :: k)) cs w) bf k cs ex a' w' := by
    intro n
    induction n using Nat.strongRecOn with
    | _ n ih =>
      intro x a w hn hix hI
      obtain ⟨ex, a₁, w₁, hq, harr⟩ := SemA.of_L (step x hix) b' hf a w hI bf (.inLoop b' :: k) cs
      obtain ⟨xx, e', H', h1, h2, h3⟩ := hq
      cases ex <;> cases xx <;> first | exact h1.elim | skip
      · obtain ⟨x', τ, hix', hlt, hs⟩ := h2
        obtain ⟨e₂, a₂, w₂, hq₂, harr₂⟩ := ih (μ x') (hn ▸ hlt) x' a₁ w₁ rfl hix' (h3.sub hs)
        exact ⟨e₂, a₂, w₂, hq₂, .of_steps (Steps.trans harr (.one step_inLoop)) harr₂⟩
      · exact ⟨_, a₁, w₁, ⟨_, e', H', h1, h2, h3⟩, .pass (x := .inLoop b') rfl (fun _ _ => .inl (by simp)) harr⟩
      · exact ⟨_, a₁, w₁, ⟨_, e', H', h1, h2, h3⟩, .pass (x := .inLoop b') rfl (fun _ _ => .inl (by simp)) harr⟩
  obtain ⟨ex, a', w', hq, harr⟩ := key _ x0 a w rfl hi0 hst0
  exact ⟨ex, a', w', hq, .of_steps (.one step_loop) harr⟩
end
section
variable {P : Program} {w0 : World} {fp : Nat -> Nat -> Prop} {ρi : Rho} {n0 nt : Nat} {r : List ACode} {e : Env} {H : Heap} {K : ZaY}
end
def fnK (R : Res) (n0 : Nat) (K : SVal -> Heap -> Prop) : ZaY
  | .nrm, e, H => R.ev e H fun r => Ret n0 K r H
  | .ret, e, H => R.ev e H fun r => Ret n0 K r H
  | .ex _, _, _ => False
theorem ZaC {P : Program} {c : ACode} {R : Res} {f : FuncId} {np nt : Nat} {S : Zyw} (hf : Zbj P f np nt c R = true)
    (hev : ∀ args H K, S args H K -> args.length = np /\ ∀ w0 fp ρi, SemL P w0 fp ρi H.next nt [c] (Zow 0 args) H (fnK R H.next K)) : Sound P f S := by
  intro args H K hS ρ w hr hok
  obtain ⟨hnp, hev⟩ := hev args H K hS
  unfold Zbj at hf
  split at hf
  · rename_i fn hfn
    split at hf
    · rename_i b hb
      simp only [Bool.and_eq_true] at hf
      obtain ⟨⟨⟨hnt, hle⟩, hfit⟩, hres⟩ := hf
      have hnt := Nat.eq_of_beq_eq_true hnt
      have hle := Nat.le_of_ble_eq_true hle
      refine calls_of_wp hfn hb ?_
      have hlen : (ZaH ρ args).toArray.size = np := by simp [Zfk, hnp]
      have hst : St w (Zr9 ρ H) ρ H.next nt (Zow 0 args) H { tmps := (ZaH ρ args).toArray ++ Array.replicate (fn.ntmps - (ZaH ρ args).toArray.size) undef, defers := [] } w := by
        refine ⟨ρ, fun _ _ => rfl, Nat.le_refl _, ⟨by simp only [Array.size_append, hlen, Array.size_replicate]; omega, fun s v hv => ?_⟩, rfl, hr⟩
        obtain ⟨_, h1, h2⟩ := Zk3 args 0 s v hok hv
        refine ⟨h1, ?_⟩
        simp only [Nat.sub_zero] at h2
        have hs : s < (ZaH ρ args).length := (List.getElem?_eq_some_iff.1 h2).1
        rw [Array.getD_eq_getD_getElem?, Array.getElem?_append_left (by simpa using hs)]
        simp [h2]
      refine Code.wp_mono ?_ (SemA.of_L (hev w (Zr9 ρ H) ρ) b hfit _ _ hst)
      rintro ex a' w' ⟨x, e', H', h1, h2, ρ', g1, g2, g3, g4, g5⟩
      cases ex <;> cases x <;> first | exact h1.elim | exact h2.elim | skip
      · obtain ⟨r, hK, hrok, hrun⟩ := ZnR (P := P) hres g3 g5 h2
        obtain ⟨ρ'', r', H'', k1, k2, k3, k4, k5, k6⟩ := ZnQ hK g2 g1 g5 hrok
        exact ⟨g4, _, hrun, ρ'', r', H'', k1, by rw [k2], k3, k4, k5, k6⟩
      · obtain ⟨r, hK, hrok, hrun⟩ := ZnR (P := P) hres g3 g5 h2
        obtain ⟨ρ'', r', H'', k1, k2, k3, k4, k5, k6⟩ := ZnQ hK g2 g1 g5 hrok
        exact ⟨g4, _, hrun, ρ'', r', H'', k1, by rw [k2], k3, k4, k5, k6⟩
    · cases hf
  · cases hf
theorem Zbv {P : Program} {w0 : World} {fp : Nat -> Nat -> Prop} {ρi : Rho} {n0 nt m : Nat} {e : Env} {H : Heap} {K : ZaY} {r : List ACode} {R : Res} {Kf : SVal -> Heap -> Prop} {v : SVal} (hk : ∀ e H, fnK R m Kf .ret e H -> K .ret e H) (hv : RetC R e H v) (h : Ret m Kf v H) :
    SemL P w0 fp ρi n0 nt (.ret :: r) e H K := ZN6 (hk _ _ (hv.h _ h))
theorem Zyn {P : Program} {w0 : World} {fp : Nat -> Nat -> Prop} {ρi : Rho} {n0 nt m : Nat} {e : Env} {H : Heap} {K : ZaY} {R : Res} {Kf : SVal -> Heap -> Prop} {v : SVal} (hk : ∀ e H, fnK R m Kf .nrm e H -> K .nrm e H) (hv : RetC R e H v) (h : Ret m Kf v H) :
    SemL P w0 fp ρi n0 nt [] e H K := ZaO (hk _ _ (hv.h _ h))
def ZnU : SVal -> Bool
  | .agg cs => Zbh cs
  | v => Zjo v
def Zjp : List SVal -> Bool
  | [] => true
  | v :: r => ZnU v && Zjp r
def Zr0 : SVal -> Bool
  | .tuple vs => Zjp vs
  | v => ZnU v
theorem ZnT {ρ : Rho} {n : Nat} {v : SVal} (h : ZnU v = true) : v.ok ρ n /\ v.conc ρ = v.conc ρ0 := by
  cases v with
  | agg cs =>
    have := ZbY (ρ := ρ) (n := n) (cs := cs) h
    exact ⟨by simp only [SVal.ok]; exact this.1, by simp only [SVal.conc, this.2]⟩
  | _ => exact ZgF h
theorem ZgG {ρ : Rho} {n : Nat} : ∀ {vs : List SVal}, Zjp vs = true -> okL ρ n vs /\ ZaH ρ vs = ZaH ρ0 vs
  | [], _ => by simp [okL, ZaH]
  | v :: r, h => by
    simp only [Zjp, Bool.and_eq_true] at h
    have h1 := ZnT (ρ := ρ) (n := n) h.1
    have h2 := ZgG (ρ := ρ) (n := n) h.2
    exact ⟨by simp only [okL]; exact ⟨h1.1, h2.1⟩, by simp only [ZaH, h1.2, h2.2]⟩
theorem ZnS {ρ : Rho} {n : Nat} {v : SVal} (h : Zr0 v = true) : v.ok ρ n /\ v.conc ρ = v.conc ρ0 := by
  cases v with
  | tuple vs =>
    have := ZgG (ρ := ρ) (n := n) (vs := vs) h
    exact ⟨by simp only [SVal.ok]; exact this.1, by simp only [SVal.conc, this.2]⟩
  | agg cs => exact ZnT (v := .agg cs) h
  | _ => exact ZgF h
theorem Zhp {τ : Nat -> Part} {n : Nat} : ∀ {v : SVal}, Zjo v = true -> v.ren τ = v /\ v.bd n := by
  intro v h
  unfold Zjo at h
  split at h <;> first | (cases h; done) | (simp [SVal.ren, SVal.bd, Zjn, bdL]; done)
theorem Zc2 {τ : Nat -> Part} {n : Nat} : ∀ {cs : List Chunk}, Zbh cs = true -> ZaD τ cs = cs /\ ZfM n cs
  | [], _ => by simp [ZaD, ZfM]
  | .one v :: r, h => by
    simp only [Zbh, Bool.and_eq_true] at h
    have h1 := Zhp (τ := τ) (n := n) h.1
    have h2 := Zc2 (τ := τ) (n := n) h.2
    exact ⟨by simp only [ZaD, Chunk.ren, h1.1, h2.1], by simp only [ZfM, Chunk.bd]; exact ⟨h1.2, h2.2⟩⟩
  | .ints _ _ _ :: r, h => by
    have h2 := Zc2 (τ := τ) (n := n) (cs := r) h
    exact ⟨by simp only [ZaD, Chunk.ren, h2.1], by simp only [ZfM, Chunk.bd]; exact ⟨trivial, h2.2⟩⟩
  | .rows _ _ _ :: r, h => by
    have h2 := Zc2 (τ := τ) (n := n) (cs := r) h
    exact ⟨by simp only [ZaD, Chunk.ren, h2.1], by simp only [ZfM, Chunk.bd]; exact ⟨trivial, h2.2⟩⟩
theorem Zhq {τ : Nat -> Part} {n : Nat} {v : SVal} (h : ZnU v = true) : v.ren τ = v /\ v.bd n := by
  cases v with
  | agg cs =>
    have := Zc2 (τ := τ) (n := n) (cs := cs) h
    exact ⟨by simp only [SVal.ren, this.1], by simp only [SVal.bd]; exact this.2⟩
  | _ => exact Zhp h
theorem ZkF {τ : Nat -> Part} {n : Nat} : ∀ {vs : List SVal}, Zjp vs = true -> Zjn τ vs = vs /\ bdL n vs
  | [], _ => by simp [Zjn, bdL]
  | v :: r, h => by
    simp only [Zjp, Bool.and_eq_true] at h
    have h1 := Zhq (τ := τ) (n := n) h.1
    have h2 := ZkF (τ := τ) (n := n) h.2
    exact ⟨by simp only [Zjn, h1.1, h2.1], by simp only [bdL]; exact ⟨h1.2, h2.2⟩⟩
theorem ZcV {τ : Nat -> Part} {n : Nat} {v : SVal} (h : Zr0 v = true) : v.ren τ = v /\ v.bd n := by
  cases v with
  | tuple vs =>
    have := ZkF (τ := τ) (n := n) (vs := vs) h
    exact ⟨by simp only [SVal.ren, this.1], by simp only [SVal.bd]; exact this.2⟩
  | agg cs => exact Zhq (v := .agg cs) h
  | _ => exact Zhp h
theorem Zbg {n0 : Nat} {K : SVal -> Heap -> Prop} {r r' : SVal} {H : Heap} (hn : n0 = 0) (hp : Zr0 r' = true) (h : r = r') (hK : K r' ⟨0, []⟩) : Ret n0 K r H := by
  subst h
  subst hn
  exact .inl ⟨ZcY, r, ⟨0, []⟩, fun i hi => absurd hi (by omega), Nat.le_refl _, (ZcV (n := 0) hp).1.symm, (ZcV (τ := ZcY) hp).2, trivial, trivial, hK⟩
abbrev Zgt := List SVal -> Option (Prop × SVal)
structure PCon where
  f : Nat
  spec : Zgt
def ZeL (S : Zgt) : Zyw := fun args H K => match S args with
  | some (pre, v) => pre /\ noH H (K v ⟨0, []⟩)
  | none => False
def Zzp : List PCon -> Nat -> Option PCon
  | [], _ => none
  | c :: r, f => bif Nat.beq c.f f then some c else Zzp r f
def Zcl (ps : List PCon) (cs : List Con) : Zav := fun f vs H K => match Zzp ps f with
  | some c => (match c.spec vs with
    | some (pre, v) => bif Zjp vs && Zr0 v then pre /\ K v H else False
    | none => False)
  | none => ZAp cs f vs H K
def Zny (P : Program) : List PCon -> Prop
  | [] => True
  | c :: r => Sound P c.f (ZeL c.spec) /\ Zny P r
theorem ZjO {P : Program} : ∀ {cs : List PCon} {f : Nat} {c : PCon}, Zny P cs -> Zzp cs f = some c -> Sound P f (ZeL c.spec)
  | [], _, _, _, h => by cases h
  | d :: r, f, c, hs, h => by
    simp only [Zny] at hs
    simp only [Zzp] at h
    cases hb : Nat.beq d.f f with
    | true =>
      rw [hb] at h
      have := Nat.eq_of_beq_eq_true hb
      subst this
      cases h
      exact hs.1
    | false => rw [hb] at h; exact ZjO hs.2 h
theorem Rel.quietF {w0 w w' : World} {fp fc : Nat -> Nat -> Prop} {ρ : Rho} {H : Heap} (h : Rel w0 fp ρ H w) (hf : Frame w fc w') (hc : ∀ b o, ¬ fc b o) : Rel w0 fp ρ H w' := by
  refine ⟨h.frame.trans hf fun b o hb => (hc b o hb).elim, fun i en he => ?_, h.oks, h.own, h.apart, h.next, h.ro, h.mnew,
    h.ab.to hf.size (fun _ _ _ => rfl) (fun _ _ he _ _ => he) (fun _ e _ _ he hw => .inl ⟨_, e, he, hw, .inl rfl⟩) (fun x hx _ => hf.other x hx (hc x)),
    h.hid.to (fun id e he => .inr ⟨id, e, he, fun h => h, fun _ => rfl⟩) (fun _ _ _ _ hw => hw) fun x o v hv _ => (hf.cell hv).1 (hc _ _)⟩
  have hE := h.ents i en he
  refine ⟨hE.nil, fun b base hb k v hv => (hf.cell (hE.cells b base hb k v hv)).1 (hc _ _), fun hw b base hb k hk => ?_, fun q1 q2 b base hb => (hE.mp q1 q2 b base hb).keep fun b es cl hm => (hf.other b (Array.getElem?_eq_some_iff.1 hm).1 (hc b)).trans hm⟩
  obtain ⟨⟨v, hv⟩, hz⟩ := hE.own hw b base hb k hk
  have := hf.cell hv
  exact ⟨this.2.1, by rw [this.2.2, hz]⟩
theorem Zzo {ρ : Rho} {b o : Nat} : ¬ Zr9 ρ ⟨0, []⟩ b o := fun ⟨id, en, he, _⟩ => by simp [Heap.find, Zc9] at he
theorem ZCg {ρ : Rho} {w : World} : Rel w (Zr9 ρ ⟨0, []⟩) ρ ⟨0, []⟩ w := ZzK (fun id en he => by simp [Heap.find, Zc9] at he) fun id en he => by simp [Heap.find, Zc9] at he
theorem ZaL {P : Program} {ps : List PCon} {cs : List Con} (hp : Zny P ps) (hc : Zhf P cs) : ZaK P (Zcl ps cs) := by
  intro f vs H K hev hb w0 fp ρ w hr hok
  unfold Zcl at hev
  split at hev
  · rename_i c hfind
    split at hev
    · rename_i pre v hv
      obtain ⟨hpl, hpre, hK⟩ := Zai hev
      rw [Bool.and_eq_true] at hpl
      have hS := ZjO hp hfind
      have hcall := hS vs ⟨0, []⟩ (fun r H' => r = v) (by unfold ZeL; rw [hv]; exact ⟨hpre, rfl⟩) ρ w ZCg (ZgG hpl.1).1
      refine hcall.mono fun e w' ⟨ρ', r, H', h1, h2, _, _, _, h6⟩ => ?_
      subst h1
      subst h2
      have hv1 := ZnS (ρ := ρ) (n := H.next) hpl.2
      refine ⟨_, rfl, ρ, r, H, hK, ?_, hv1.1, fun _ _ => rfl, Nat.le_refl _, hr.quietF h6.frame fun b o => Zzo⟩
      rw [(ZnS (ρ := ρ') (n := 0) hpl.2).2, hv1.2]
    · exact hev.elim
  · exact ZyE hc f vs H K hev hb w0 fp ρ w hr hok
theorem ZbZ {H : Heap} : ∀ l : List (Nat × Option Ent), Zby H H l
  | [] => trivial
  | _ :: r => ⟨rfl, ZbZ r⟩
theorem qa1 {c b : Bool} (h : c = true) : b = (c && b) := by rw [h]; rfl
theorem qa2 {c b : Bool} (h : c = false) : false = (c && b) := by rw [h]; rfl
theorem qo1 {c b : Bool} (h : c = false) : b = (c || b) := by rw [h]; rfl
theorem qo2 {c b : Bool} (h : c = true) : true = (c || b) := by rw [h]; rfl
def ZLt (l : List (Nat × Nat)) : List Nat -> Bool
  | [] => true
  | i :: r => (r.all fun j => Nat.beq j i || !(Nat.beq (ZyN l j) (ZyN l i))) && ZLt l r
theorem Zo3 {l : List (Nat × Nat)} : ∀ {ents : List (Nat × Option Ent)}, ZLt l (ents.map (·.1)) = true -> Zip (tau l) ents
  | [], _ => trivial
  | (i, en) :: r, h => by
    simp only [List.map_cons, ZLt, Bool.and_eq_true, List.all_eq_true] at h
    refine ⟨fun j hj => ?_, Zo3 h.2⟩
    have := h.1 j hj
    simp only [Bool.or_eq_true, Bool.not_eq_true'] at this
    rcases this with h1 | h1
    · exact .inl (Nat.eq_of_beq_eq_true h1)
    · right
      intro h2
      have h3 : ZyN l j = ZyN l i := h2
      rw [h3, Nat.beq_refl] at h1
      cases h1
theorem Zao {n0 : Nat} {e e' : Env} {H H' : Heap} (l : List (Nat × Nat)) (ids : List Nat) (h1 : Zts n0 l = true) (h2 : Nat.ble n0 H'.next = true) (h3 : Zdw (tau l) H'.next e e') (h5 : ZbI (tau l) H'.next H H'.ents)
    (h6 : H'.ents.map (·.1) = ids) (h7 : ZLt l ids = true) : Sub n0 (tau l) e H e' H' := ZAD l h1 (Nat.le_of_ble_eq_true h2) h3 h5 (Zo3 (h6 ▸ h7))
theorem ZdQ (x : Int) : IntKind.i64.wrap x = (x + 9223372036854775808) % 18446744073709551616 - 9223372036854775808 := IntKind.wrap_i64 x
theorem ZbD {S : Zgt} {args : List SVal} {H : Heap} {K : SVal -> Heap -> Prop} (h : ZeL S args H K) : ∃ pre v, S args = some (pre, v) /\ pre /\ H = ⟨0, []⟩ /\ K v ⟨0, []⟩ := by
  unfold ZeL at h
  split at h
  · rename_i pre v hv
    obtain ⟨h1, h2⟩ := ZEn h.2
    exact ⟨pre, v, hv, h.1, h1, h2⟩
  · exact h.elim
theorem Zay {n0 : Nat} {S : Type} {inv : S -> Prop} {μ : S -> Nat} {I : S -> Env} {J : S -> Heap} {x x' : S} {K : ZaY} {e : Env} {H : Heap} {τ : Nat -> Part} (h1 : inv x') (h2 : μ x' < μ x) (h3 : Sub n0 τ e H (I x') (J x')) : Zb2 n0 inv μ I J x K .nrm e H :=
  ⟨x', τ, h1, h2, h3⟩
theorem Zak {τ : Nat -> Part} {n : Nat} {e : Env} : Zdw τ n e [] := trivial
theorem Zo9 {τ : Nat -> Part} {n s : Nat} {e r : Env} {v : SVal} (h : ZeN e s = some (v.ren τ)) (hb : v.bd n) (hr : Zdw τ n e r) : Zdw τ n e ((s, some v) :: r) := ⟨h, hb, hr⟩
theorem Zae {τ : Nat -> Part} {n : Nat} {H : Heap} : ZbI τ n H [] := trivial
theorem Zn8 {l : List (Nat × Nat)} {n i : Nat} {H : Heap} {en : Ent} {r : List (Nat × Option Ent)} (h : H.find (ZyN l i) = some ⟨en.wr, ZaD (tau l) en.cs, en.ex⟩) (hb : ZfM n en.cs) (hn : Nat.blt i n = true) (hr : ZbI (tau l) n H r) :
    ZbI (tau l) n H ((i, some en) :: r) := ⟨h, hb, Nat.le_of_ble_eq_true hn, rfl, rfl, hr⟩
theorem ZLG {n m : Nat} {a : SAddr} (h : Nat.blt a.id n = true) : SVal.bd n (.ptr a m) := by simp only [SVal.bd]; exact Nat.le_of_ble_eq_true h
theorem ZzB {n l c : Nat} {a : SAddr} (h : Nat.blt a.id n = true) : SVal.bd n (.slice a l c) := by simp only [SVal.bd]; exact Nat.le_of_ble_eq_true h
theorem ZLH {n : Nat} {cs : List Chunk} (h : ZfM n cs) : SVal.bd n (.agg cs) := by simp only [SVal.bd]; exact h
theorem ZeF {n : Nat} : ZfM n [] := trivial
theorem Zbz {n : Nat} {v : SVal} {r : List Chunk} (h : v.bd n) (hr : ZfM n r) : ZfM n (.one v :: r) := by simp only [ZfM, Chunk.bd]; exact ⟨h, hr⟩
theorem cg1 {α1 β : Type} (f : α1 -> β) {a1 b1 : α1} (h1 : a1 = b1) : f a1 = f b1 := by subst h1; rfl
theorem cg4 {α1 α2 α3 α4 β : Type} (f : α1 -> α2 -> α3 -> α4 -> β) {a1 b1 : α1} {a2 b2 : α2} {a3 b3 : α3} {a4 b4 : α4} (h1 : a1 = b1) (h2 : a2 = b2) (h3 : a3 = b3) (h4 : a4 = b4) : f a1 a2 a3 a4 = f b1 b2 b3 b4 := by subst h1 h2 h3 h4; rfl
theorem cg5 {α1 α2 α3 α4 α5 β : Type} (f : α1 -> α2 -> α3 -> α4 -> α5 -> β) {a1 b1 : α1} {a2 b2 : α2} {a3 b3 : α3} {a4 b4 : α4} {a5 b5 : α5} (h1 : a1 = b1) (h2 : a2 = b2) (h3 : a3 = b3) (h4 : a4 = b4) (h5 : a5 = b5) : f a1 a2 a3 a4 a5 = f b1 b2 b3 b4 b5 := by subst h1 h2 h3 h4 h5; rfl
theorem Zc3 {H : Heap} {i : Nat} {en : Option Ent} : ∀ {ks : List Nat}, (i, en) ∈ ZbG ks H -> i ∈ ks /\ H.find i = en
  | [], h => by cases h
  | k :: ks, h => by
    simp only [ZbG] at h
    split at h
    · rename_i e he
      rcases List.mem_cons.1 h with h | h
      · cases h; exact ⟨by simp, he⟩
      · exact ⟨List.mem_cons_of_mem _ (Zc3 h).1, (Zc3 h).2⟩
    · exact ⟨List.mem_cons_of_mem _ (Zc3 h).1, (Zc3 h).2⟩
theorem ZgN {H : Heap} {i : Nat} {en : Ent} : ∀ {ks : List Nat}, i ∈ ks -> H.find i = some en -> (i, some en) ∈ ZbG ks H
  | [], hi, _ => by cases hi
  | k :: ks, hi, he => by
    simp only [ZbG]
    by_cases hk : k = i
    · subst hk; rw [he]; simp
    · have hi' : i ∈ ks := by
        rcases List.mem_cons.1 hi with h1 | h1
        · exact absurd h1.symm hk
        · exact h1
      split
      · exact List.mem_cons_of_mem _ (ZgN hi' he)
      · exact ZgN hi' he
theorem Zoc {H H' : Heap} {ks : List Nat} (h : ZbG ks H' = ZbG ks H) {i : Nat} (hi : i ∈ ks) : H'.find i = H.find i := by
  cases h1 : H.find i with
  | some en => exact (Zc3 (h ▸ ZgN hi h1)).2
  | none =>
    cases h2 : H'.find i with
    | none => rfl
    | some en =>
      have := (Zc3 (h ▸ ZgN hi h2)).2
      rw [h1] at this; cases this
theorem ZlG {H' H : Heap} : ∀ {l : List (Nat × Option Ent)}, (∀ p ∈ l, H'.find p.1 = H.find p.1) -> Zby H' H l
  | [], _ => trivial
  | p :: r, h => ⟨h p (by simp), ZlG fun q hq => h q (by simp [hq])⟩
theorem ZwZ {H' H : Heap} (ids : List Nat) (h : ZbG ids H' = ZbG ids H) (h2 : H.ents.map (·.1) = ids) : Zby H' H H.ents :=
  ZlG fun _ hp => Zoc h (h2 ▸ List.mem_map.2 ⟨_, hp, rfl⟩)
theorem Zb0 {H' H : Heap} {G : List Nat} (h : ZbG G H' = ZbG G H) : Zby H' (H.keep G) (ZbG G H) :=
  ZlG fun p hp => by
    obtain ⟨h1, h2⟩ := Zc3 (en := p.2) hp
    rw [Zoc h h1]
    cases he : H.find p.1 with
    | some en => rw [Zdr h1 he]
    | none =>
      cases h3 : (H.keep G).find p.1 with
      | none => rfl
      | some en => rw [Zbu h3] at he; cases he
theorem ZLN {P : Program} {w0 : World} {fp : Nat -> Nat -> Prop} {ρi : Rho} {n0 nt : Nat} {e e' : Env} {H H' : Heap} {K : ZaY} {r : List ACode} (ks hs : List Nat) (h1 : ZeM ks e = e') (h2 : H.keep hs = H') (h : SemL P w0 fp ρi n0 nt r e' H' K) :
    SemL P w0 fp ρi n0 nt r e H K := SemL.pick ks hs (by rw [h1, h2]; exact h)
theorem Zy2 {S : Zgt} {args : List SVal} {K : SVal -> Heap -> Prop} {pre : Prop} {v : SVal} (h : S args = some (pre, v)) (hp : pre) (hK : K v ⟨0, []⟩) : ZeL S args ⟨0, []⟩ K := by
  unfold ZeL
  rw [h]
  exact ⟨hp, hK⟩
end Go.Sx
