/- Part of the proof: SxSound. -/
import Derived.Test.YtinjdimejijabaaSxCode
set_option linter.unusedVariables false
set_option linter.unusedSimpArgs false
namespace Go.Sx
def Znv : Exit -> X -> Prop
  | .normal, .nrm => True
  | .exit i, .ex j => i = j
  | .ret, .ret => True
  | _, _ => False
section
variable (P : Program) (w0 : World) (fp : Nat -> Nat -> Prop) (ρi : Rho) (n0 nt : Nat)
def Zio (K : X -> Env -> Heap -> Prop) (ex : Exit) (a : Act) (w : World) : Prop := ∃ x e H, Znv ex x /\ K x e H /\ St w0 fp ρi n0 nt e H a w
def ZhA (c : Code) (e : Env) (H : Heap) (K : X -> Env -> Heap -> Prop) : Prop := ∀ a w, St w0 fp ρi n0 nt e H a w -> c.wp P (Zio w0 fp ρi n0 nt K) a w
def Zgj : ZfI := fun b e H K => ∀ b', b.fits P nt b' = true -> ZhA P w0 fp ρi n0 nt (.loop b') e H K
end
section
variable {P : Program} {w0 : World} {fp : Nat -> Nat -> Prop} {ρi : Rho} {n0 nt : Nat}
theorem ZbC {Γ : Zat} {Λ : ZfI} (hΓ : ZaZ P Γ) (hΛ : ∀ b e H K, Λ b e H K -> Zgj P w0 fp ρi n0 nt b e H K) : ∀ (c : ACode) (c' : Code) (e : Env) (H : Heap) (K : X -> Env -> Heap -> Prop),
    c.fits P nt c' = true -> Zbk Γ Λ c e H K -> ZhA P w0 fp ρi n0 nt c' e H K
  | .skip, c', e, H, K, hf, hev => by
    cases c' <;> first | (simp only [ACode.fits] at hf; cases hf; done) | skip
    exact fun a w hst => wp_skip ⟨.nrm, e, H, trivial, hev, hst⟩
  | .ret, c', e, H, K, hf, hev => by
    cases c' <;> first | (simp only [ACode.fits] at hf; cases hf; done) | skip
    exact fun a w hst => wp_ret ⟨.ret, e, H, trivial, hev, hst⟩
  | .exit i, c', e, H, K, hf, hev => by
    cases c' <;> first | (simp only [ACode.fits] at hf; cases hf; done) | skip
    rename_i j
    have : i = j := Nat.eq_of_beq_eq_true (by simpa only [ACode.fits] using hf)
    subst this
    exact fun a w hst => wp_exit ⟨.ex i, e, H, rfl, hev, hst⟩
  | .reg its, c', e, H, K, hf, hev => by
    cases c' <;> first | (simp only [ACode.fits] at hf; cases hf; done) | skip
    rename_i id ops draw
    simp only [ACode.fits, Bool.and_eq_true, Bool.not_eq_true'] at hf
    obtain ⟨hd, hf⟩ := hf
    subst hd
    split at hf
    · rename_i ds' hfit
      exact fun a w hst => wp_region_list (Zby hΓ its none none [] ops.toList [] ds' e H _ a w ρi n0 hfit trivial (fun _ _ h => by cases h) hev hst
        fun e' H' a' w' hK hst' _ => ⟨.nrm, e', H', trivial, hK, hst'⟩)
    · cases hf
  | .regQ its, c', e, H, K, hf, hev => by
    cases c' <;> first | (simp only [ACode.fits] at hf; cases hf; done) | skip
    rename_i id ops draw
    simp only [ACode.fits, Bool.and_eq_true] at hf
    obtain ⟨⟨⟨hd, hm⟩, hB⟩, hf⟩ := hf
    subst hd
    split at hf
    · rename_i ds' hfit
      intro a w hst
      obtain ⟨ρ, h1, h2, h3, h4, h5⟩ := hst
      exact wp_region_quiet (C := fun w => Rel w0 fp ρ H w) hm hB (h5.drew _) (Zbx hΓ ⟨w, h5⟩ its none none [] ops.toList [] ds' e _ a hfit trivial (fun _ _ h => by cases h) hev h3 h4
        fun e' a' hK g3 g4 _ => wpQuiet_nil fun w' hw' => ⟨.nrm, e', H, trivial, hK, ρ, h1, h2, g3, g4, hw'⟩)
    · cases hf
  | .regM steps, c', e, H, K, hf, hev => by
    cases c' <;> first | (simp only [ACode.fits] at hf; cases hf; done) | skip
    rename_i id ops draw
    simp only [ACode.fits, Bool.and_eq_true] at hf
    obtain ⟨⟨⟨⟨hd, hm⟩, hsel⟩, hlen⟩, hf⟩ := hf
    subst hd
    intro a w hst
    obtain ⟨ρ, h1, h2, h3, h4, h5⟩ := hst
    refine wp_region_any hm (Zeg (S := Zjr w0 fp ρ H (Zah ops.size steps)) _ _ _ _ ?_)
    have hle := Nat.eq_of_beq_eq_true hlen
    simp only [Zbk] at hev
    have hQ : ∀ c a w, ¬ Zio w0 fp ρi n0 nt K (.panic c) a w := by
      rintro c a w ⟨xx, _, _, h, _⟩
      cases xx <;> exact h.elim
    have hsh : Shut .any ops (Array.replicate ops.size false) := by
      intro j o ho hj
      have hlt : j < ops.size := (Array.getElem?_eq_some_iff.1 ho).1
      simp [hlt] at hj
    have hmix := Zd1 hΓ hsel hQ steps _ e H ρ _ a { w with drawn := w.drawn + 1 } hf (by simp) hsh hev (h5.drew _) h3 h4 fun ρ' e' H' a' w' hK g1 g2 g3 g4 g5 => ⟨.nrm, e', H', trivial, hK, ρ', fun i hi => by rw [g1 i (by omega), h1 i hi], by omega, g3, g4, g5⟩
    rw [hle] at hmix
    exact hmix
  | .regT t, c', e, H, K, hf, hev => by simp only [Zbk] at hev
  | .seq x y, c', e, H, K, hf, hev => by
    cases c' <;> first | (simp only [ACode.fits] at hf; cases hf; done) | skip
    rename_i x' y'
    simp only [ACode.fits, Bool.and_eq_true] at hf
    simp only [Zbk] at hev
    intro a w hst
    refine wp_seq (Code.wp_mono ?_ (ZbC hΓ hΛ x x' e H _ hf.1 hev a w hst))
    rintro ex a' w' ⟨xx, e', H', h1, h2, h3⟩
    cases ex <;> cases xx <;> first | exact h1.elim | skip
    · exact ZbC hΓ hΛ y y' e' H' K hf.2 h2 a' w' h3
    · exact ⟨_, e', H', h1, h2, h3⟩
    · exact ⟨_, e', H', h1, h2, h3⟩
  | .cond x t f, c', e, H, K, hf, hev => by
    cases c' <;> first | (simp only [ACode.fits] at hf; cases hf; done) | skip
    rename_i x' t' f'
    simp only [ACode.fits, Bool.and_eq_true] at hf
    simp only [Zbk] at hev
    intro a w hst
    obtain ⟨ρ, h1, h2, h3, h4, h5⟩ := hst
    obtain ⟨v, hv, _, hve⟩ := Opd.ev_sound hf.1.1 h3 hev
    cases v with
    | bool b =>
      refine wp_cond (t := b) (by rw [hve]; rfl) ?_
      cases b with
      | true => exact ZbC hΓ hΛ t t' e H K hf.1.2 (hv.1 rfl) a w ⟨ρ, h1, h2, h3, h4, h5⟩
      | false => exact ZbC hΓ hΛ f f' e H K hf.2 (hv.2 rfl) a w ⟨ρ, h1, h2, h3, h4, h5⟩
    | _ => exact hv.elim
  | .block id b, c', e, H, K, hf, hev => by
    cases c' <;> first | (simp only [ACode.fits] at hf; cases hf; done) | skip
    rename_i id' b'
    simp only [ACode.fits, Bool.and_eq_true] at hf
    have hid := Nat.eq_of_beq_eq_true hf.1
    subst hid
    simp only [Zbk] at hev
    intro a w hst
    refine wp_block (Code.wp_mono ?_ (ZbC hΓ hΛ b b' e H _ hf.2 hev a w hst))
    rintro ex a' w' ⟨xx, e', H', h1, h2, h3⟩
    cases ex <;> cases xx <;> first | exact h1.elim | skip
    · exact ⟨.nrm, e', H', trivial, h2, h3⟩
    · rename_i i j
      have hij : i = j := h1
      subst hij
      simp only [Exit.inBlock]
      simp only at h2
      split
      · rename_i hi
        subst hi
        simp only [Nat.beq_refl, cond_true] at h2
        exact ⟨.nrm, e', H', trivial, h2, h3⟩
      · rename_i hi
        have hb : Nat.beq i id = false := by
          cases hb : Nat.beq i id
          · rfl
          · exact absurd (Nat.eq_of_beq_eq_true hb) hi
        rw [hb] at h2
        exact ⟨.ex i, e', H', rfl, h2, h3⟩
    · exact ⟨_, e', H', h1, h2, h3⟩
  | .loop b, c', e, H, K, hf, hev => by
    cases c' <;> first | (simp only [ACode.fits] at hf; cases hf; done) | skip
    rename_i b'
    simp only [ACode.fits] at hf
    exact hΛ b e H K hev b' hf
structure Sub (n0 : Nat) (τ : Nat -> Part) (e : Env) (H : Heap) (e' : Env) (H' : Heap) : Prop where
  fix : ∀ i, i < n0 -> τ i = Zbm i
  n0 : n0 <= H'.next
  env : Za6 τ H'.next e e'
  heap : Zar τ H'.next H H'.ents
  inj : Zbj τ H'.ents
theorem St.sub {e e' : Env} {H H' : Heap} {τ : Nat -> Part} {a : Act} {w : World} (h : St w0 fp ρi n0 nt e H a w) (hs : Sub n0 τ e H e' H') : St w0 fp ρi n0 nt e' H' a w := by
  obtain ⟨ρ, h1, h2, h3, h4, h5⟩ := h
  exact ⟨ρ.via τ, fun i hi => by rw [ZdL (by rw [hs.fix i hi]; rfl) (by rw [hs.fix i hi]; rfl), hs.fix i hi]; exact h1 i hi, hs.n0, h3.sub hs.env, h4, h5.sub hs.heap hs.inj⟩
theorem Zi3 {Γ : Zat} {Λ : ZfI} (hΓ : ZaZ P Γ) (hΛ : ∀ b e H K, Λ b e H K -> Zgj P w0 fp ρi n0 nt b e H K) {b : ACode} {e : Env} {H : Heap} {K : X -> Env -> Heap -> Prop}
    {S : Type} (I : S -> Env × Heap) (μ : S -> Nat) (start : ∃ x τ, Sub n0 τ e H (I x).1 (I x).2)
    (step : ∀ x, Zbk Γ Λ b (I x).1 (I x).2 fun ex e' H' => match ex with
      | .nrm => ∃ x' τ, μ x' < μ x /\ Sub n0 τ e' H' (I x').1 (I x').2
      | .ex i => K (.ex i) e' H'
      | .ret => K .ret e' H') : Zgj P w0 fp ρi n0 nt b e H K := by
  intro b' hfit a w hst
  obtain ⟨x0, τ0, hs0⟩ := start
  have hst0 := hst.sub hs0
  intro bf k cs
  have key : ∀ n x a w, μ x = n -> St w0 fp ρi n0 nt (I x).1 (I x).2 a w ->
      ∃ ex a' w', Zio w0 fp ρi n0 nt K ex a' w' /\ Arrives P (lone (bf.at a (.code b' :: .inLoop b' :: k)) cs w) bf k cs ex a' w' := by
    intro n
    induction n using Nat.strongRecOn with
    | _ n ih =>
      intro x a w hn hI
      obtain ⟨ex, a₁, w₁, hq, harr⟩ := ZbC hΓ hΛ b b' _ _ _ hfit (step x) a w hI bf (.inLoop b' :: k) cs
      obtain ⟨xx, e', H', h1, h2, h3⟩ := hq
      cases ex <;> cases xx <;> first | exact h1.elim | skip
      · obtain ⟨x', τ, hlt, hs⟩ := h2
        obtain ⟨e₂, a₂, w₂, hq₂, harr₂⟩ := ih (μ x') (hn ▸ hlt) x' a₁ w₁ rfl (h3.sub hs)
        exact ⟨e₂, a₂, w₂, hq₂, .of_steps (Steps.trans harr (.one step_inLoop)) harr₂⟩
      · exact ⟨_, a₁, w₁, ⟨_, e', H', h1, h2, h3⟩, .pass (x := .inLoop b') rfl (fun _ _ => .inl (by simp)) harr⟩
      · exact ⟨_, a₁, w₁, ⟨_, e', H', h1, h2, h3⟩, .pass (x := .inLoop b') rfl (fun _ _ => .inl (by simp)) harr⟩
  obtain ⟨ex, a', w', hq, harr⟩ := key _ x0 a w rfl hst0
  exact ⟨ex, a', w', hq, .of_steps (.one step_loop) harr⟩
def Zhc (ρ : Rho) (H : Heap) (b o : Nat) : Prop := ∃ id en, H.find id = some en /\ en.wr = true /\ Win ρ id en b o
def Sound (P : Program) (f : FuncId) (S : ZgX) : Prop := ∀ args H K, S args H K -> ∀ ρ w, Rel w (Zhc ρ H) ρ H w -> okL ρ H.next args ->
  Calls P f (Zap ρ args).toArray w fun e w' => ∃ ρ' r H', K r H' /\ e = .returned (r.conc ρ') /\ r.ok ρ' H'.next /\ (∀ i, i < H.next -> ρ' i = ρ i) /\ H.next <= H'.next /\ Rel w (Zhc ρ H) ρ' H' w'
inductive RV | tm (t : Nat) | c1 (t : Nat) | cA (t sz : Nat)
inductive Res | one (t : RV) | many (ts : List RV)
def RV.fits (P : Program) : RV -> ResultVar -> Bool
  | .tm t, .tmp s => Nat.beq t s
  | .c1 t, .cell s ty => Nat.beq t s && Zin P ty false
  | .cA t sz, .cell s ty => Nat.beq t s && Zin P ty true && Zcn P ty sz
  | _, _ => false
def ZfD (P : Program) : List RV -> List ResultVar -> Bool
  | [], [] => true
  | t :: r, s :: q => t.fits P s && ZfD P r q
  | _, _ => false
def Res.fits (P : Program) (R : Res) (rs : List ResultVar) : Bool :=
  match R with
  | .one t => (match rs with | [s] => t.fits P s | _ => false)
  | .many ts => !(Nat.beq rs.length 1) && ZfD P ts rs
def RV.ev (e : Env) (H : Heap) (r : RV) (K : SVal -> Prop) : Prop :=
  match r with
  | .tm t => (match ZbD e t with
    | some v => K v
    | none => False)
  | .c1 t => (match ZbD e t with
    | some (.ptr a _) => (match H.find a.id with
      | some en => rdC a.idx a.st K en.cs a.off
      | none => False)
    | _ => False)
  | .cA t sz => (match ZbD e t with
    | some (.ptr a _) => (match H.find a.id with
      | some en => rdA a.idx a.st sz (fun cs => K (.agg cs)) en.cs a.off
      | none => False)
    | _ => False)
def ZhO (e : Env) (H : Heap) : List RV -> (List SVal -> Prop) -> Prop
  | [], K => K []
  | t :: r, K => t.ev e H fun v => ZhO e H r fun vs => K (v :: vs)
def Res.ev (R : Res) (e : Env) (H : Heap) (K : SVal -> Prop) : Prop :=
  match R with
  | .one t => t.ev e H K
  | .many ts => ZhO e H ts fun vs => K (.tuple vs)
def ZmK (n0 : Nat) (K : SVal -> Heap -> Prop) (r : SVal) (H : Heap) : Prop :=
  ∃ τ r' H', (∀ i, i < n0 -> τ i = Zbm i) /\ n0 <= H'.next /\ r = r'.ren τ /\ r'.bd H'.next /\ Zar τ H'.next H H'.ents /\ Zbj τ H'.ents /\ K r' H'
def Zcz (z : List Chunk) (H : Heap) : Heap := H.push ⟨true, z, 0⟩
def ZnO : List Chunk -> Nat
  | [.rows sh _ _] => ZaF sh
  | _ => 1
def Zdl (z : List Chunk) (H : Heap) : SVal := .slice ⟨H.next, 0, 0, ZnO z⟩ 0 0
abbrev Zs := List (Option (List Chunk))
abbrev Dn (α : Type) := α -> Zs -> Heap -> (α -> Zs -> Heap -> Prop) -> Prop
def Zkm (f : Dn SVal) : List Chunk -> Zs -> Heap -> (List Chunk -> Zs -> Heap -> Prop) -> Prop
  | [], zs, H, K => K [] zs H
  | .one v :: r, zs, H, K => f v zs H fun v' zs' H' => Zkm f r zs' H' fun r' zs'' H'' => K (.one v' :: r') zs'' H''
  | .ints k n xs :: r, zs, H, K => Zkm f r zs H fun r' zs' H' => K (.ints k n xs :: r') zs' H'
  | .rows sh n xs :: r, zs, H, K => Zkm f r zs H fun r' zs' H' => K (.rows sh n xs :: r') zs' H'
def dnL (f : Dn SVal) : List SVal -> Zs -> Heap -> (List SVal -> Zs -> Heap -> Prop) -> Prop
  | [], zs, H, K => K [] zs H
  | v :: r, zs, H, K => f v zs H fun v' zs' H' => dnL f r zs' H' fun r' zs'' H'' => K (v' :: r') zs'' H''
def dnV : Nat -> SVal -> Zs -> Heap -> (SVal -> Zs -> Heap -> Prop) -> Prop
  | 0, v, zs, H, K => K v zs H
  | _ + 1, .nilslice, zs, H, K => match zs with
    | some z :: r => K (Zdl z H) r (Zcz z H)
    | none :: r => K .nilslice r H
    | [] => K .nilslice [] H
  | n + 1, .agg cs, zs, H, K => Zkm (dnV n) cs zs H fun cs' zs' H' => K (.agg cs') zs' H'
  | n + 1, .tuple vs, zs, H, K => dnL (dnV n) vs zs H fun vs' zs' H' => K (.tuple vs') zs' H'
  | n + 1, .fn f a b, zs, H, K => dnL (dnV n) b zs H fun b' zs' H' => K (.fn f a b') zs' H'
  | _ + 1, v, zs, H, K => K v zs H
def zsB : Zs -> Bool
  | [] => true
  | none :: r => zsB r
  | some z :: r => Zau z && Nat.beq (Zac z) 0 && zsB r
def Ret (n0 : Nat) (K : SVal -> Heap -> Prop) (r : SVal) (H : Heap) : Prop :=
  ZmK n0 K r H ∨ (∃ z, Zau z = true /\ Zac z = 0 /\ ((r = .nilslice /\ ZmK n0 K (Zdl z H) (Zcz z H)) ∨ ∃ a b, r = .tuple (a ++ .nilslice :: b) /\ ZmK n0 K (.tuple (a ++ Zdl z H :: b)) (Zcz z H))) ∨
  ∃ zs, zsB zs = true /\ dnV 8 r zs H fun r' _ H' => ZmK n0 K r' H'
def ZbU : Nat -> List SVal -> Env
  | _, [] => []
  | n, v :: r => (n, some v) :: ZbU (n + 1) r
def Zjd (Γ : Zat) (Λ : ZfI) (c : ACode) (R : Res) (args : List SVal) (H : Heap) (K : SVal -> Heap -> Prop) : Prop :=
  Zbk Γ Λ c (ZbU 0 args) H fun x e H' => match x with
    | .nrm => R.ev e H' fun r => Ret H.next K r H'
    | .ret => R.ev e H' fun r => Ret H.next K r H'
    | .ex _ => False
def ZbT (P : Program) (f : FuncId) (np nt : Nat) (c : ACode) (R : Res) : Bool :=
  match P.funcs[f]? with
  | some fn => (match fn.body with | some b => Nat.beq fn.ntmps nt && Nat.ble np nt && c.fits P nt b && R.fits P fn.results.toList | none => false)
  | none => false
theorem Zep {ρ : Rho} {n : Nat} : ∀ (vs : List SVal) (k s : Nat) (v : SVal), okL ρ n vs -> ZbD (ZbU k vs) s = some v -> k <= s /\ v.ok ρ n /\ (Zap ρ vs)[s - k]? = some (v.conc ρ)
  | [], _, _, _, _, h => by cases h
  | u :: r, k, s, v, hok, h => by
    simp only [okL] at hok
    simp only [ZbU, Zd4] at h
    split at h
    · rename_i hks
      subst hks
      cases h
      exact ⟨Nat.le_refl _, hok.1, by simp [Zap]⟩
    · rename_i hks
      have := Zep r (k + 1) s v hok.2 h
      exact ⟨by omega, this.2.1, by rw [show s - k = s - (k + 1) + 1 by omega]; simpa [Zap] using this.2.2⟩
def Zh6 (tmps : Array Value) : ResultVar -> Sem Value
  | .tmp t => pure (tmps.getD t undef)
  | .cell a t => do loadVar t (<- asAddr (tmps.getD a undef))
theorem Zfr (fn : Func) (tmps : Array Value) : results fn tmps = (do let vs <- fn.results.mapM (Zh6 tmps); pure (if h : vs.size = 1 then vs[0] else .tuple vs)) := by
  unfold results
  congr 1
theorem ZhG {ρ : Rho} {H : Heap} {e : Env} {tmps : Array Value} {w0 w : World} {fp : Nat -> Nat -> Prop} (he : EnvOk ρ H.next nt e tmps) (hr : Rel w0 fp ρ H w) {r : RV} {s : ResultVar} {K : SVal -> Prop} (hf : r.fits P s = true) (h : r.ev e H K) :
    ∃ v, K v /\ v.ok ρ H.next /\ (Zh6 tmps s).run P w = .ok (v.conc ρ) w := by
  unfold RV.fits at hf
  split at hf
  · rename_i t s
    have := Nat.eq_of_beq_eq_true hf
    subst this
    simp only [RV.ev] at h
    split at h
    · rename_i v hv
      have := he.2 _ _ hv
      exact ⟨v, h, this.1, by simp [Zh6, this.2]⟩
    · exact h.elim
  · rename_i t s ty
    rw [Bool.and_eq_true] at hf
    have := Nat.eq_of_beq_eq_true hf.1
    subst this
    simp only [RV.ev] at h
    split at h
    · rename_i ad n hv
      have := he.2 _ _ hv
      obtain ⟨hok, h3⟩ := this
      simp only [SVal.ok] at hok
      split at h
      · rename_i en hen
        obtain ⟨b, base, hb, hc, hent⟩ := Zfs hr hok hen
        obtain ⟨u, hK, huok, hu⟩ := ZdT _ _ h (hr.oks _ _ hen)
        have hcell := hent.cells b base hb _ _ hu
        refine ⟨_, hK, huok, ?_⟩
        simp only [SVal.conc, hc] at h3
        simp [Zh6, h3, asAddr, loadVar, ZdQ hf.2, hcell]
      · exact h.elim
    · exact h.elim
  · rename_i t sz s ty
    rw [Bool.and_eq_true, Bool.and_eq_true] at hf
    have := Nat.eq_of_beq_eq_true hf.1.1
    subst this
    simp only [RV.ev] at h
    split at h
    · rename_i ad n hv
      have := he.2 _ _ hv
      obtain ⟨hok, h3⟩ := this
      simp only [SVal.ok] at hok
      split at h
      · rename_i en hen
        obtain ⟨b, base, hb, hc, hent⟩ := Zfs hr hok hen
        obtain ⟨l, hK, hlok, hlen, hle, hl⟩ := ZdU _ _ h (hr.oks _ _ hen)
        refine ⟨_, hK, (by simpa only [SVal.ok] using hlok), ?_⟩
        simp only [SVal.conc, hc] at h3
        have hload := run_loadCells_list (P := P) (w := w) ⟨b, base + (ad.off + ad.idx * ad.st), none⟩ (Zab ρ l) (fun j v hj => by
          rw [Zdq, Nat.add_assoc]
          exact hent.cells b base hb _ _ (ZbZ hl (by rw [Zae]; omega) j v hj))
        simp only [Zae, hlen] at hload
        simp [Zh6, h3, asAddr, loadVar, ZdQ hf.1.2, Zb2 hf.2, hload, SVal.conc]
      · exact h.elim
    · exact h.elim
  · cases hf
theorem ZfB {ρ : Rho} {H : Heap} {e : Env} {tmps : Array Value} {w0 w : World} {fp : Nat -> Nat -> Prop} (he : EnvOk ρ H.next nt e tmps) (hr : Rel w0 fp ρ H w) : ∀ {ts : List RV} {rs : List ResultVar} {K : List SVal -> Prop}, ZfD P ts rs = true -> ZhO e H ts K ->
    ∃ vs, K vs /\ okL ρ H.next vs /\ vs.length = rs.length /\ (rs.mapM (Zh6 tmps)).run P w = .ok (Zap ρ vs) w
  | [], [], K, _, h => ⟨[], h, by simp [okL], rfl, by simp [Zap]⟩
  | t :: r, s :: q, K, hf, h => by
    simp only [ZfD, Bool.and_eq_true] at hf
    simp only [ZhO] at h
    obtain ⟨v, h1, h2, h3⟩ := ZhG he hr hf.1 h
    obtain ⟨vs, h4, h5, h6, h7⟩ := ZfB he hr hf.2 h1
    refine ⟨_, h4, by simp only [okL]; exact ⟨h2, h5⟩, by simp [h6], ?_⟩
    rw [List.mapM_cons, Sem.run_bind, h3, Result.andThen_ok, Sem.run_bind, h7]
    simp [Zap]
  | [], _ :: _, _, hf, _ => by simp [ZfD] at hf
  | _ :: _, [], _, hf, _ => by simp [ZfD] at hf
theorem ZdS {R : Res} {fn : Func} {ρ : Rho} {H : Heap} {e : Env} {a : Act} {K : SVal -> Prop} {w0 w : World} {fp : Nat -> Nat -> Prop} (hf : R.fits P fn.results.toList = true) (he : EnvOk ρ H.next nt e a.tmps) (hr : Rel w0 fp ρ H w) (h : R.ev e H K) :
    ∃ v, K v /\ v.ok ρ H.next /\ (results fn a.tmps).run P w = .ok (v.conc ρ) w := by
  cases R with
  | one t =>
    simp only [Res.ev] at h
    simp only [Res.fits] at hf
    split at hf
    · rename_i s hrs
      obtain ⟨v, h1, h2, h3⟩ := ZhG he hr hf h
      refine ⟨v, h1, h2, ?_⟩
      rw [Zfr, Sem.run_bind, Array.mapM_eq_mapM_toList, hrs, Sem.run_map, List.mapM_cons, Sem.run_bind, h3]
      simp
    · cases hf
  | many ts =>
    simp only [Res.ev] at h
    simp only [Res.fits, Bool.and_eq_true, Bool.not_eq_true'] at hf
    obtain ⟨vs, h1, h2, h3, h4⟩ := ZfB (P := P) he hr hf.2 h
    refine ⟨_, h1, by simp only [SVal.ok]; exact h2, ?_⟩
    rw [Zfr, Sem.run_bind, Array.mapM_eq_mapM_toList, Sem.run_map, h4]
    have hl : ¬ (Zap ρ vs).toArray.size = 1 := by
      have : fn.results.toList.length ≠ 1 := fun hh => by rw [hh] at hf; simp at hf
      rw [List.size_toArray, Zcg, h3]
      exact this
    simp only [Result.andThen_ok, Sem.run_pure, SVal.conc]
    rw [dif_neg hl]
theorem Zdj {ρ ρi : Rho} {n0 : Nat} {H : Heap} {r : SVal} {K : SVal -> Heap -> Prop} {w0 w : World} {fp : Nat -> Nat -> Prop} (h : ZmK n0 K r H) (hρ : ∀ i, i < n0 -> ρ i = ρi i) (hr : Rel w0 fp ρ H w) (hok : r.ok ρ H.next) :
    ∃ ρ' r' H', K r' H' /\ r.conc ρ = r'.conc ρ' /\ r'.ok ρ' H'.next /\ (∀ i, i < n0 -> ρ' i = ρi i) /\ n0 <= H'.next /\ Rel w0 fp ρ' H' w := by
  obtain ⟨τ, r', H', h1, h2, rfl, h4, h5, h6, h7⟩ := h
  exact ⟨ρ.via τ, r', H', h7, SVal.conc_ren r', SVal.ok_ren r' hok h4, fun i hi => by rw [ZdL (by rw [h1 i hi]; rfl) (by rw [h1 i hi]; rfl), h1 i hi]; exact hρ i hi, h2, hr.sub h5 h6⟩
theorem ZeE {ρ : Rho} : ∀ a b : List SVal, Zap ρ (a ++ b) = Zap ρ a ++ Zap ρ b
  | [], b => by simp [Zap]
  | v :: r, b => by simp [Zap, ZeE r b]
theorem Zek {ρ : Rho} {n : Nat} : ∀ a b : List SVal, okL ρ n (a ++ b) ↔ okL ρ n a /\ okL ρ n b
  | [], b => by simp [okL]
  | v :: r, b => by simp [okL, Zek r b, and_assoc]
theorem ZfS {ρ : Rho} {H : Heap} {w0 w : World} {fp : Nat -> Nat -> Prop} {z : List Chunk} (hr : Rel w0 fp ρ H w) (hz : Zau z = true) (h0 : Zac z = 0) :
    Rel w0 fp (ρ.up H.next none) (Zcz z H) w /\ (Zdl z H).ok (ρ.up H.next none) (Zcz z H).next /\ (Zdl z H).conc (ρ.up H.next none) = .slice none 0 0 :=
  ⟨hr.pushE none (ZbB hz).1 h0, by simp [Zdl, Zcz, SVal.ok, Heap.push], by simp [Zdl, SVal.conc, SAddr.conc, Rho.up_same]⟩
def ZmO {α β : Type} (w0 : World) (fp : Nat -> Nat -> Prop) (w : World) (ok : Rho -> Nat -> α -> Prop) (conc : Rho -> α -> β) (f : Dn α) : Prop := ∀ v zs H K ρ, f v zs H K -> zsB zs = true -> Rel w0 fp ρ H w -> ok ρ H.next v ->
  ∃ v' zs' H' ρ', K v' zs' H' /\ zsB zs' = true /\ Rel w0 fp ρ' H' w /\ ok ρ' H'.next v' /\ conc ρ' v' = conc ρ v /\ (∀ i, i < H.next -> ρ' i = ρ i) /\ H.next <= H'.next /\ ∀ i, i < H.next -> H'.find i = H.find i
section
variable {w0 w : World} {fp : Nat -> Nat -> Prop}
theorem ZfY {f : Dn SVal} (hf : ZmO w0 fp w (fun ρ n v => v.ok ρ n) (fun ρ v => v.conc ρ) f) : ZmO w0 fp w ZaB Zab (Zkm f)
  | [], zs, H, K, ρ, h, hz, hr, hok => ⟨_, _, _, ρ, h, hz, hr, hok, rfl, fun _ _ => rfl, Nat.le_refl _, fun _ _ => rfl⟩
  | .one v :: r, zs, H, K, ρ, h, hz, hr, hok => by
    simp only [Zkm] at h
    simp only [ZaB, Chunk.ok] at hok
    obtain ⟨v', zs', H', ρ', h1, h2, h3, h4, h5, h6, h7, h8⟩ := hf v zs H _ ρ h hz hr hok.1
    obtain ⟨r', zs2, H2, ρ2, g1, g2, g3, g4, g5, g6, g7, g8⟩ := ZfY hf r _ _ _ ρ' h1 h2 h3 (Zbc h6 h7 _ hok.2)
    refine ⟨_, _, _, ρ2, g1, g2, g3, by simp only [ZaB, Chunk.ok]; exact ⟨SVal.ok_mono g6 g7 _ h4, g4⟩, ?_, fun i hi => by rw [g6 i (by omega), h6 i hi], by omega, fun i hi => by rw [g8 i (by omega), h8 i hi]⟩
    simp only [Zab, Chunk.conc, g5, SVal.conc_congr g6 _ h4, Za2 h6 _ hok.2]
    rw [show v'.conc ρ' = v.conc ρ from h5]
  | .ints k n xs :: r, zs, H, K, ρ, h, hz, hr, hok => by
    simp only [Zkm] at h
    simp only [ZaB] at hok
    obtain ⟨r', zs', H', ρ', h1, h2, h3, h4, h5, h6, h7, h8⟩ := ZfY hf r zs H _ ρ h hz hr hok.2
    exact ⟨_, _, _, ρ', h1, h2, h3, by simp only [ZaB]; exact ⟨by simp only [Chunk.ok], h4⟩, by simp only [Zab, h5, Chunk.conc], h6, h7, h8⟩
  | .rows sh n xs :: r, zs, H, K, ρ, h, hz, hr, hok => by
    simp only [Zkm] at h
    simp only [ZaB] at hok
    obtain ⟨r', zs', H', ρ', h1, h2, h3, h4, h5, h6, h7, h8⟩ := ZfY hf r zs H _ ρ h hz hr hok.2
    exact ⟨_, _, _, ρ', h1, h2, h3, by simp only [ZaB]; exact ⟨by simp only [Chunk.ok], h4⟩, by simp only [Zab, h5, Chunk.conc], h6, h7, h8⟩
theorem ZhQ {f : Dn SVal} (hf : ZmO w0 fp w (fun ρ n v => v.ok ρ n) (fun ρ v => v.conc ρ) f) : ZmO w0 fp w okL Zap (dnL f)
  | [], zs, H, K, ρ, h, hz, hr, hok => ⟨_, _, _, ρ, h, hz, hr, hok, rfl, fun _ _ => rfl, Nat.le_refl _, fun _ _ => rfl⟩
  | v :: r, zs, H, K, ρ, h, hz, hr, hok => by
    simp only [dnL] at h
    simp only [okL] at hok
    obtain ⟨v', zs', H', ρ', h1, h2, h3, h4, h5, h6, h7, h8⟩ := hf v zs H _ ρ h hz hr hok.1
    obtain ⟨r', zs2, H2, ρ2, g1, g2, g3, g4, g5, g6, g7, g8⟩ := ZhQ hf r _ _ _ ρ' h1 h2 h3 (Zb0 h6 h7 _ hok.2)
    refine ⟨_, _, _, ρ2, g1, g2, g3, by simp only [okL]; exact ⟨SVal.ok_mono g6 g7 _ h4, g4⟩, ?_, fun i hi => by rw [g6 i (by omega), h6 i hi], by omega, fun i hi => by rw [g8 i (by omega), h8 i hi]⟩
    simp only [Zap, g5, SVal.conc_congr g6 _ h4, Zbh h6 _ hok.2]
    rw [show v'.conc ρ' = v.conc ρ from h5]
theorem Zje : ∀ n, ZmO w0 fp w (fun ρ n v => v.ok ρ n) (fun ρ v => v.conc ρ) (dnV n)
  | 0, v, zs, H, K, ρ, h, hz, hr, hok => ⟨_, _, _, ρ, h, hz, hr, hok, rfl, fun _ _ => rfl, Nat.le_refl _, fun _ _ => rfl⟩
  | n + 1, v, zs, H, K, ρ, h, hz, hr, hok => by
    have ih := Zje n
    have triv : K v zs H -> ∃ v' zs' H' ρ', K v' zs' H' /\ zsB zs' = true /\ Rel w0 fp ρ' H' w /\ v'.ok ρ' H'.next /\ v'.conc ρ' = v.conc ρ /\ (∀ i, i < H.next -> ρ' i = ρ i) /\ H.next <= H'.next /\ ∀ i, i < H.next -> H'.find i = H.find i :=
      fun h => ⟨_, _, _, ρ, h, hz, hr, hok, rfl, fun _ _ => rfl, Nat.le_refl _, fun _ _ => rfl⟩
    cases v with
    | nilslice =>
      simp only [dnV] at h
      split at h
      · rename_i z r
        simp only [zsB, Bool.and_eq_true] at hz
        obtain ⟨h1, h2, h3⟩ := ZfS hr hz.1.1 (Zao hz.1.2)
        exact ⟨_, _, _, _, h, hz.2, h1, h2, by simp only; rw [h3]; simp only [SVal.conc], Rho.up_lt, by simp [Zcz, Heap.push], fun i hi => by simp only [Zcz]; rw [Heap.find_push, if_neg (by omega)]⟩
      · simp only [zsB] at hz
        exact ⟨_, _, _, ρ, h, hz, hr, hok, rfl, fun _ _ => rfl, Nat.le_refl _, fun _ _ => rfl⟩
      · exact triv h
    | agg cs =>
      simp only [dnV] at h
      simp only [SVal.ok] at hok
      obtain ⟨cs', zs', H', ρ', h1, h2, h3, h4, h5, h6, h7, h8⟩ := ZfY ih cs zs H _ ρ h hz hr hok
      exact ⟨_, _, _, ρ', h1, h2, h3, by simp only [SVal.ok]; exact h4, by simp only [SVal.conc, h5], h6, h7, h8⟩
    | tuple vs =>
      simp only [dnV] at h
      simp only [SVal.ok] at hok
      obtain ⟨cs', zs', H', ρ', h1, h2, h3, h4, h5, h6, h7, h8⟩ := ZhQ ih vs zs H _ ρ h hz hr hok
      exact ⟨_, _, _, ρ', h1, h2, h3, by simp only [SVal.ok]; exact h4, by simp only [SVal.conc, h5], h6, h7, h8⟩
    | fn f a b =>
      simp only [dnV] at h
      simp only [SVal.ok] at hok
      obtain ⟨cs', zs', H', ρ', h1, h2, h3, h4, h5, h6, h7, h8⟩ := ZhQ ih b zs H _ ρ h hz hr hok.2
      exact ⟨_, _, _, ρ', h1, h2, h3, by simp only [SVal.ok]; exact ⟨Zb0 h6 h7 _ hok.1, h4⟩, by simp only [SVal.conc, h5, Zbh h6 _ hok.1], h6, h7, h8⟩
    | _ => simp only [dnV] at h; exact triv h
end
theorem ZdR {ρ ρi : Rho} {n0 : Nat} {H : Heap} {r : SVal} {K : SVal -> Heap -> Prop} {w0 w : World} {fp : Nat -> Nat -> Prop} (h : Ret n0 K r H) (hn : n0 <= H.next) (hρ : ∀ i, i < n0 -> ρ i = ρi i) (hr : Rel w0 fp ρ H w) (hok : r.ok ρ H.next) :
    ∃ ρ' r' H', K r' H' /\ r.conc ρ = r'.conc ρ' /\ r'.ok ρ' H'.next /\ (∀ i, i < n0 -> ρ' i = ρi i) /\ n0 <= H'.next /\ Rel w0 fp ρ' H' w := by
  rcases h with h | ⟨z, hz, h0, h⟩ | ⟨zs, hz, h⟩
  · exact Zdj h hρ hr hok
  · obtain ⟨h1, h2, h3⟩ := ZfS hr hz h0
    have hup : ∀ i, i < H.next -> ρ.up H.next none i = ρ i := Rho.up_lt
    have hρ' : ∀ i, i < n0 -> ρ.up H.next none i = ρi i := fun i hi => by rw [hup i (by omega), hρ i hi]
    rcases h with ⟨rfl, h⟩ | ⟨a, b, rfl, h⟩
    · obtain ⟨ρ', r', H', g1, g2, g3⟩ := Zdj h hρ' h1 h2
      exact ⟨ρ', r', H', g1, by rw [<- g2, h3]; rfl, g3⟩
    · simp only [SVal.ok, Zek, okL] at hok
      have hle : H.next <= (Zcz z H).next := by simp [Zcz, Heap.push]
      obtain ⟨ρ', r', H', g1, g2, g3⟩ := Zdj h hρ' h1 (by
        simp only [SVal.ok, Zek, okL]
        exact ⟨Zb0 hup hle _ hok.1, h2, Zb0 hup hle _ hok.2.2⟩)
      refine ⟨ρ', r', H', g1, ?_, g3⟩
      rw [<- g2]
      simp only [SVal.conc, ZeE, Zap, h3, Zbh hup _ hok.1, Zbh hup _ hok.2.2]
  · obtain ⟨r1, zs1, H1, ρ1, g1, _, g2, g3, g4, g5, g6, _⟩ := Zje 8 r zs H _ ρ h hz hr hok
    obtain ⟨ρ', r', H', k1, k2, k3⟩ := Zdj g1 (fun i hi => by rw [g5 i (by omega), hρ i hi]) g2 g3
    exact ⟨ρ', r', H', k1, by rw [<- k2, show r1.conc ρ1 = r.conc ρ from g4], k3⟩
theorem ZcJ {Γ : Zat} {c : ACode} {R : Res} {f : FuncId} {np nt : Nat} {S : ZgX} (hΓ : ZaZ P Γ) (hf : ZbT P f np nt c R = true)
    (hev : ∀ args H K, S args H K -> args.length = np /\ ∀ w0 fp ρi, Zjd Γ (Zgj P w0 fp ρi H.next nt) c R args H K) : Sound P f S := by
  intro args H K hS ρ w hr hok
  obtain ⟨hnp, hev⟩ := hev args H K hS
  unfold ZbT at hf
  split at hf
  · rename_i fn hfn
    split at hf
    · rename_i b hb
      simp only [Bool.and_eq_true] at hf
      obtain ⟨⟨⟨hnt, hle⟩, hfit⟩, hres⟩ := hf
      have hnt := Nat.eq_of_beq_eq_true hnt
      have hle := Nat.le_of_ble_eq_true hle
      refine calls_of_wp hfn hb ?_
      have hlen : (Zap ρ args).toArray.size = np := by simp [Zcg, hnp]
      have hst : St w (Zhc ρ H) ρ H.next nt (ZbU 0 args) H { tmps := (Zap ρ args).toArray ++ Array.replicate (fn.ntmps - (Zap ρ args).toArray.size) undef, defers := [] } w := by
        refine ⟨ρ, fun _ _ => rfl, Nat.le_refl _, ⟨by simp only [Array.size_append, hlen, Array.size_replicate]; omega, fun s v hv => ?_⟩, rfl, hr⟩
        obtain ⟨_, h1, h2⟩ := Zep args 0 s v hok hv
        refine ⟨h1, ?_⟩
        simp only [Nat.sub_zero] at h2
        have hs : s < (Zap ρ args).length := (List.getElem?_eq_some_iff.1 h2).1
        rw [Array.getD_eq_getD_getElem?, Array.getElem?_append_left (by simpa using hs)]
        simp [h2]
      refine Code.wp_mono ?_ (ZbC hΓ (fun _ _ _ _ h => h) c b _ _ _ hfit (hev w (Zhc ρ H) ρ) _ _ hst)
      rintro ex a' w' ⟨x, e', H', h1, h2, ρ', g1, g2, g3, g4, g5⟩
      cases ex <;> cases x <;> first | exact h1.elim | exact h2.elim | skip
      · obtain ⟨r, hK, hrok, hrun⟩ := ZdS (P := P) hres g3 g5 h2
        obtain ⟨ρ'', r', H'', k1, k2, k3, k4, k5, k6⟩ := ZdR hK g2 g1 g5 hrok
        exact ⟨g4, _, hrun, ρ'', r', H'', k1, by rw [k2], k3, k4, k5, k6⟩
      · obtain ⟨r, hK, hrok, hrun⟩ := ZdS (P := P) hres g3 g5 h2
        obtain ⟨ρ'', r', H'', k1, k2, k3, k4, k5, k6⟩ := ZdR hK g2 g1 g5 hrok
        exact ⟨g4, _, hrun, ρ'', r', H'', k1, by rw [k2], k3, k4, k5, k6⟩
    · cases hf
  · cases hf
end
end Go.Sx
