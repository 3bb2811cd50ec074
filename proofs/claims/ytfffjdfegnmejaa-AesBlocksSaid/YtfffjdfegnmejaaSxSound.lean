/- Part of the proof: SxSound. -/
import Derived.Test.YtfffjdfegnmejaaSxCode
set_option linter.unusedVariables false
set_option linter.unusedSimpArgs false
namespace Go.Sx
def ZOh : Exit -> X -> Prop
  | .normal, .nrm => True
  | .exit i, .ex j => i = j
  | .ret, .ret => True
  | _, _ => False
section
variable (P : Program) (w0 : World) (fp : Nat -> Nat -> Prop) (ρi : Rho) (n0 nt : Nat)
def Zym (K : X -> Env -> Heap -> Prop) (ex : Exit) (a : Act) (w : World) : Prop := ∃ x e H, ZOh ex x /\ K x e H /\ St w0 fp ρi n0 nt e H a w
def Zq7 (c : Code) (e : Env) (H : Heap) (K : X -> Env -> Heap -> Prop) : Prop := ∀ a w, St w0 fp ρi n0 nt e H a w -> c.wp P (Zym w0 fp ρi n0 nt K) a w
def ZEQ : ZsP := fun b e H K => ∀ b', b.fits P nt b' = true -> Zq7 P w0 fp ρi n0 nt (.loop b') e H K
end
section
variable {P : Program} {w0 : World} {fp : Nat -> Nat -> Prop} {ρi : Rho} {n0 nt : Nat}
theorem ZcW {Γ : Zav} {Λ : ZsP} (hΓ : ZaK P Γ) (hΛ : ∀ b e H K, Λ b e H K -> ZEQ P w0 fp ρi n0 nt b e H K) : ∀ (c : ACode) (c' : Code) (e : Env) (H : Heap) (K : X -> Env -> Heap -> Prop),
    c.fits P nt c' = true -> ZdU Γ Λ c e H K -> Zq7 P w0 fp ρi n0 nt c' e H K
  | .skip, c', e, H, K, hf, hev => by
    cases c' <;> first | (simp only [ACode.fits] at hf; cases hf; done) | skip
    exact fun a w hst => wp_skip ⟨.nrm, e, H, trivial, hev, hst⟩
  | .ret, c', e, H, K, hf, hev => by
    cases c' <;> first | (simp only [ACode.fits] at hf; cases hf; done) | skip
    exact fun a w hst => wp_ret ⟨.ret, e, H, trivial, hev, hst⟩
  | .exit i, c', e, H, K, hf, hev => by
    cases c' <;> first | (simp only [ACode.fits] at hf; cases hf; done) | skip
    rename_i j
    have : i = j := Nat.eq_of_beq_eq_true (by simpa only [ACode.fits] using hf)
    subst this
    exact fun a w hst => wp_exit ⟨.ex i, e, H, rfl, hev, hst⟩
  | .reg its, c', e, H, K, hf, hev => by
    cases c' <;> first | (simp only [ACode.fits] at hf; cases hf; done) | skip
    rename_i id ops draw
    simp only [ACode.fits, Bool.and_eq_true, Bool.not_eq_true'] at hf
    obtain ⟨hd, hf⟩ := hf
    subst hd
    split at hf
    · rename_i ds' hfit
      exact fun a w hst => wp_region_list (ZbW hΓ its none none [] ops.toList [] ds' e H _ a w ρi n0 hfit trivial (fun _ _ h => by cases h) hev hst
        fun e' H' a' w' hK hst' _ => ⟨.nrm, e', H', trivial, hK, hst'⟩)
    · cases hf
  | .regQ its, c', e, H, K, hf, hev => by
    cases c' <;> first | (simp only [ACode.fits] at hf; cases hf; done) | skip
    rename_i id ops draw
    simp only [ACode.fits, Bool.and_eq_true] at hf
    obtain ⟨⟨⟨hd, hm⟩, hB⟩, hf⟩ := hf
    subst hd
    split at hf
    · rename_i ds' hfit
      intro a w hst
      obtain ⟨ρ, h1, h2, h3, h4, h5⟩ := hst
      exact wp_region_quiet (C := fun w => Rel w0 fp ρ H w) hm hB (h5.drew _) (ZbU hΓ ⟨w, h5⟩ its none none [] ops.toList [] ds' e _ a hfit trivial (fun _ _ h => by cases h) hev h3 h4
        fun e' a' hK g3 g4 _ => wpQuiet_nil fun w' hw' => ⟨.nrm, e', H, trivial, hK, ρ, h1, h2, g3, g4, hw'⟩)
    · cases hf
  | .regM steps, c', e, H, K, hf, hev => by
    cases c' <;> first | (simp only [ACode.fits] at hf; cases hf; done) | skip
    rename_i id ops draw
    simp only [ACode.fits, Bool.and_eq_true] at hf
    obtain ⟨⟨⟨⟨hd, hm⟩, hsel⟩, hlen⟩, hf⟩ := hf
    subst hd
    intro a w hst
    obtain ⟨ρ, h1, h2, h3, h4, h5⟩ := hst
    refine wp_region_any hm (Zhg (S := Zyj w0 fp ρ H (ZaA ops.size steps)) _ _ _ _ ?_)
    have hle := Nat.eq_of_beq_eq_true hlen
    simp only [ZdU] at hev
    have hQ : ∀ c a w, ¬ Zym w0 fp ρi n0 nt K (.panic c) a w := by
      rintro c a w ⟨xx, _, _, h, _⟩
      cases xx <;> exact h.elim
    have hsh : Shut .any ops (Array.replicate ops.size false) := by
      intro j o ho hj
      have hlt : j < ops.size := (Array.getElem?_eq_some_iff.1 ho).1
      simp [hlt] at hj
    have hmix := ZgM hΓ hsel hQ steps _ e H ρ _ a { w with drawn := w.drawn + 1 } hf (by simp) hsh hev (h5.drew _) h3 h4 fun ρ' e' H' a' w' hK g1 g2 g3 g4 g5 => ⟨.nrm, e', H', trivial, hK, ρ', fun i hi => by rw [g1 i (by omega), h1 i hi], by omega, g3, g4, g5⟩
    rw [hle] at hmix
    exact hmix
  | .regT t, c', e, H, K, hf, hev => by simp only [ZdU] at hev
  | .seq x y, c', e, H, K, hf, hev => by
    cases c' <;> first | (simp only [ACode.fits] at hf; cases hf; done) | skip
    rename_i x' y'
    simp only [ACode.fits, Bool.and_eq_true] at hf
    simp only [ZdU] at hev
    intro a w hst
    refine wp_seq (Code.wp_mono ?_ (ZcW hΓ hΛ x x' e H _ hf.1 hev a w hst))
    rintro ex a' w' ⟨xx, e', H', h1, h2, h3⟩
    cases ex <;> cases xx <;> first | exact h1.elim | skip
    · exact ZcW hΓ hΛ y y' e' H' K hf.2 h2 a' w' h3
    · exact ⟨_, e', H', h1, h2, h3⟩
    · exact ⟨_, e', H', h1, h2, h3⟩
  | .cond x t f, c', e, H, K, hf, hev => by
    cases c' <;> first | (simp only [ACode.fits] at hf; cases hf; done) | skip
    rename_i x' t' f'
    simp only [ACode.fits, Bool.and_eq_true] at hf
    simp only [ZdU] at hev
    intro a w hst
    obtain ⟨ρ, h1, h2, h3, h4, h5⟩ := hst
    obtain ⟨v, hv, _, hve⟩ := Opd.ev_sound hf.1.1 h3 hev
    cases v with
    | bool b =>
      refine wp_cond (t := b) (by rw [hve]; rfl) ?_
      cases b with
      | true => exact ZcW hΓ hΛ t t' e H K hf.1.2 (hv.1 rfl) a w ⟨ρ, h1, h2, h3, h4, h5⟩
      | false => exact ZcW hΓ hΛ f f' e H K hf.2 (hv.2 rfl) a w ⟨ρ, h1, h2, h3, h4, h5⟩
    | _ => exact hv.elim
  | .block id b, c', e, H, K, hf, hev => by
    cases c' <;> first | (simp only [ACode.fits] at hf; cases hf; done) | skip
    rename_i id' b'
    simp only [ACode.fits, Bool.and_eq_true] at hf
    have hid := Nat.eq_of_beq_eq_true hf.1
    subst hid
    simp only [ZdU] at hev
    intro a w hst
    refine wp_block (Code.wp_mono ?_ (ZcW hΓ hΛ b b' e H _ hf.2 hev a w hst))
    rintro ex a' w' ⟨xx, e', H', h1, h2, h3⟩
    cases ex <;> cases xx <;> first | exact h1.elim | skip
    · exact ⟨.nrm, e', H', trivial, h2, h3⟩
    · rename_i i j
      have hij : i = j := h1
      subst hij
      simp only [Exit.inBlock]
      simp only at h2
      split
      · rename_i hi
        subst hi
        simp only [Nat.beq_refl, cond_true] at h2
        exact ⟨.nrm, e', H', trivial, h2, h3⟩
      · rename_i hi
        have hb : Nat.beq i id = false := by
          cases hb : Nat.beq i id
          · rfl
          · exact absurd (Nat.eq_of_beq_eq_true hb) hi
        rw [hb] at h2
        exact ⟨.ex i, e', H', rfl, h2, h3⟩
    · exact ⟨_, e', H', h1, h2, h3⟩
  | .loop b, c', e, H, K, hf, hev => by
    cases c' <;> first | (simp only [ACode.fits] at hf; cases hf; done) | skip
    rename_i b'
    simp only [ACode.fits] at hf
    exact hΛ b e H K hev b' hf
structure Sub (n0 : Nat) (τ : Nat -> Part) (e : Env) (H : Heap) (e' : Env) (H' : Heap) : Prop where
  fix : ∀ i, i < n0 -> τ i = ZcY i
  n0 : n0 <= H'.next
  env : Zdw τ H'.next e e'
  heap : ZbI τ H'.next H H'.ents
  inj : Zip τ H'.ents
theorem St.sub {e e' : Env} {H H' : Heap} {τ : Nat -> Part} {a : Act} {w : World} (h : St w0 fp ρi n0 nt e H a w) (hs : Sub n0 τ e H e' H') : St w0 fp ρi n0 nt e' H' a w := by
  obtain ⟨ρ, h1, h2, h3, h4, h5⟩ := h
  exact ⟨ρ.via τ, fun i hi => by rw [Zgx (by rw [hs.fix i hi]; rfl) (by rw [hs.fix i hi]; rfl), hs.fix i hi]; exact h1 i hi, hs.n0, h3.sub hs.env, h4, h5.sub hs.heap hs.inj⟩
def Zr9 (ρ : Rho) (H : Heap) (b o : Nat) : Prop := ∃ id en, H.find id = some en /\ en.wr = true /\ Win ρ id en b o
def Sound (P : Program) (f : FuncId) (S : Zyw) : Prop := ∀ args H K, S args H K -> ∀ ρ w, Rel w (Zr9 ρ H) ρ H w -> okL ρ H.next args ->
  Calls P f (ZaH ρ args).toArray w fun e w' => ∃ ρ' r H', K r H' /\ e = .returned (r.conc ρ') /\ r.ok ρ' H'.next /\ (∀ i, i < H.next -> ρ' i = ρ i) /\ H.next <= H'.next /\ Rel w (Zr9 ρ H) ρ' H' w'
inductive RV | tm (t : Nat) | c1 (t : Nat) | cA (t sz : Nat)
inductive Res | one (t : RV) | many (ts : List RV)
def RV.fits (P : Program) : RV -> ResultVar -> Bool
  | .tm t, .tmp s => Nat.beq t s
  | .c1 t, .cell s ty => Nat.beq t s && Zkr P ty false
  | .cA t sz, .cell s ty => Nat.beq t s && Zkr P ty true && Zc0 P ty sz
  | _, _ => false
def ZkW (P : Program) : List RV -> List ResultVar -> Bool
  | [], [] => true
  | t :: r, s :: q => t.fits P s && ZkW P r q
  | _, _ => false
def Res.fits (P : Program) (R : Res) (rs : List ResultVar) : Bool :=
  match R with
  | .one t => (match rs with | [s] => t.fits P s | _ => false)
  | .many ts => !(Nat.beq rs.length 1) && ZkW P ts rs
def RV.ev (e : Env) (H : Heap) (r : RV) (K : SVal -> Prop) : Prop :=
  match r with
  | .tm t => (match ZeN e t with
    | some v => K v
    | none => False)
  | .c1 t => (match ZeN e t with
    | some (.ptr a _) => (match H.find a.id with
      | some en => rdC a.idx a.st K en.cs a.off
      | none => False)
    | _ => False)
  | .cA t sz => (match ZeN e t with
    | some (.ptr a _) => (match H.find a.id with
      | some en => rdA a.idx a.st sz (fun cs => K (.agg cs)) en.cs a.off
      | none => False)
    | _ => False)
def ZLR (e : Env) (H : Heap) : List RV -> (List SVal -> Prop) -> Prop
  | [], K => K []
  | t :: r, K => t.ev e H fun v => ZLR e H r fun vs => K (v :: vs)
def Res.ev (R : Res) (e : Env) (H : Heap) (K : SVal -> Prop) : Prop :=
  match R with
  | .one t => t.ev e H K
  | .many ts => ZLR e H ts fun vs => K (.tuple vs)
def Zkj (n0 : Nat) (K : SVal -> Heap -> Prop) (r : SVal) (H : Heap) : Prop :=
  ∃ τ r' H', (∀ i, i < n0 -> τ i = ZcY i) /\ n0 <= H'.next /\ r = r'.ren τ /\ r'.bd H'.next /\ ZbI τ H'.next H H'.ents /\ Zip τ H'.ents /\ K r' H'
def ZoS (z : List Chunk) (H : Heap) : Heap := H.push ⟨true, z, 0⟩
def ZOV : List Chunk -> Nat
  | [.rows sh _ _] => Zaj sh
  | _ => 1
def Zza (z : List Chunk) (H : Heap) : SVal := .slice ⟨H.next, 0, 0, ZOV z⟩ 0 0
abbrev Zs := List (Option (List Chunk))
abbrev Dn (α : Type) := α -> Zs -> Heap -> (α -> Zs -> Heap -> Prop) -> Prop
def ZAd (f : Dn SVal) : List Chunk -> Zs -> Heap -> (List Chunk -> Zs -> Heap -> Prop) -> Prop
  | [], zs, H, K => K [] zs H
  | .one v :: r, zs, H, K => f v zs H fun v' zs' H' => ZAd f r zs' H' fun r' zs'' H'' => K (.one v' :: r') zs'' H''
  | .ints k n xs :: r, zs, H, K => ZAd f r zs H fun r' zs' H' => K (.ints k n xs :: r') zs' H'
  | .rows sh n xs :: r, zs, H, K => ZAd f r zs H fun r' zs' H' => K (.rows sh n xs :: r') zs' H'
def dnL (f : Dn SVal) : List SVal -> Zs -> Heap -> (List SVal -> Zs -> Heap -> Prop) -> Prop
  | [], zs, H, K => K [] zs H
  | v :: r, zs, H, K => f v zs H fun v' zs' H' => dnL f r zs' H' fun r' zs'' H'' => K (v' :: r') zs'' H''
def dnV : Nat -> SVal -> Zs -> Heap -> (SVal -> Zs -> Heap -> Prop) -> Prop
  | 0, v, zs, H, K => K v zs H
  | _ + 1, .nilslice, zs, H, K => match zs with
    | some z :: r => K (Zza z H) r (ZoS z H)
    | none :: r => K .nilslice r H
    | [] => K .nilslice [] H
  | n + 1, .agg cs, zs, H, K => ZAd (dnV n) cs zs H fun cs' zs' H' => K (.agg cs') zs' H'
  | n + 1, .tuple vs, zs, H, K => dnL (dnV n) vs zs H fun vs' zs' H' => K (.tuple vs') zs' H'
  | n + 1, .fn f a b, zs, H, K => dnL (dnV n) b zs H fun b' zs' H' => K (.fn f a b') zs' H'
  | _ + 1, v, zs, H, K => K v zs H
def zsB : Zs -> Bool
  | [] => true
  | none :: r => zsB r
  | some z :: r => Zbh z && Nat.beq (Zam z) 0 && zsB r
def Ret (n0 : Nat) (K : SVal -> Heap -> Prop) (r : SVal) (H : Heap) : Prop :=
  Zkj n0 K r H ∨ (∃ z, Zbh z = true /\ Zam z = 0 /\ ((r = .nilslice /\ Zkj n0 K (Zza z H) (ZoS z H)) ∨ ∃ a b, r = .tuple (a ++ .nilslice :: b) /\ Zkj n0 K (.tuple (a ++ Zza z H :: b)) (ZoS z H))) ∨
  ∃ zs, zsB zs = true /\ dnV 8 r zs H fun r' _ H' => Zkj n0 K r' H'
def Zow : Nat -> List SVal -> Env
  | _, [] => []
  | n, v :: r => (n, some v) :: Zow (n + 1) r
def Zbj (P : Program) (f : FuncId) (np nt : Nat) (c : ACode) (R : Res) : Bool :=
  match P.funcs[f]? with
  | some fn => (match fn.body with | some b => Nat.beq fn.ntmps nt && Nat.ble np nt && c.fits P nt b && R.fits P fn.results.toList | none => false)
  | none => false
theorem Zk3 {ρ : Rho} {n : Nat} : ∀ (vs : List SVal) (k s : Nat) (v : SVal), okL ρ n vs -> ZeN (Zow k vs) s = some v -> k <= s /\ v.ok ρ n /\ (ZaH ρ vs)[s - k]? = some (v.conc ρ)
  | [], _, _, _, _, h => by cases h
  | u :: r, k, s, v, hok, h => by
    simp only [okL] at hok
    simp only [Zow, ZgV] at h
    split at h
    · rename_i hks
      subst hks
      cases h
      exact ⟨Nat.le_refl _, hok.1, by simp [ZaH]⟩
    · rename_i hks
      have := Zk3 r (k + 1) s v hok.2 h
      exact ⟨by omega, this.2.1, by rw [show s - k = s - (k + 1) + 1 by omega]; simpa [ZaH] using this.2.2⟩
def Zs2 (tmps : Array Value) : ResultVar -> Sem Value
  | .tmp t => pure (tmps.getD t undef)
  | .cell a t => do loadVar t (<- asAddr (tmps.getD a undef))
theorem ZkC (fn : Func) (tmps : Array Value) : results fn tmps = (do let vs <- fn.results.mapM (Zs2 tmps); pure (if h : vs.size = 1 then vs[0] else .tuple vs)) := by
  unfold results
  congr 1
theorem ZrV {ρ : Rho} {H : Heap} {e : Env} {tmps : Array Value} {w0 w : World} {fp : Nat -> Nat -> Prop} (he : EnvOk ρ H.next nt e tmps) (hr : Rel w0 fp ρ H w) {r : RV} {s : ResultVar} {K : SVal -> Prop} (hf : r.fits P s = true) (h : r.ev e H K) :
    ∃ v, K v /\ v.ok ρ H.next /\ (Zs2 tmps s).run P w = .ok (v.conc ρ) w := by
  unfold RV.fits at hf
  split at hf
  · rename_i t s
    have := Nat.eq_of_beq_eq_true hf
    subst this
    simp only [RV.ev] at h
    split at h
    · rename_i v hv
      have := he.2 _ _ hv
      exact ⟨v, h, this.1, by simp [Zs2, this.2]⟩
    · exact h.elim
  · rename_i t s ty
    rw [Bool.and_eq_true] at hf
    have := Nat.eq_of_beq_eq_true hf.1
    subst this
    simp only [RV.ev] at h
    split at h
    · rename_i ad n hv
      have := he.2 _ _ hv
      obtain ⟨hok, h3⟩ := this
      simp only [SVal.ok] at hok
      split at h
      · rename_i en hen
        obtain ⟨b, base, hb, hc, hent⟩ := ZgE hr hok hen
        obtain ⟨u, hK, huok, hu⟩ := ZgC _ _ h (hr.oks _ _ hen)
        have hcell := hent.cells b base hb _ _ hu
        refine ⟨_, hK, huok, ?_⟩
        simp only [SVal.conc, hc] at h3
        simp [Zs2, h3, asAddr, loadVar, Zcr hf.2, hcell]
      · exact h.elim
    · exact h.elim
  · rename_i t sz s ty
    rw [Bool.and_eq_true, Bool.and_eq_true] at hf
    have := Nat.eq_of_beq_eq_true hf.1.1
    subst this
    simp only [RV.ev] at h
    split at h
    · rename_i ad n hv
      have := he.2 _ _ hv
      obtain ⟨hok, h3⟩ := this
      simp only [SVal.ok] at hok
      split at h
      · rename_i en hen
        obtain ⟨b, base, hb, hc, hent⟩ := ZgE hr hok hen
        obtain ⟨l, hK, hlok, hlen, hle, hl⟩ := ZgD _ _ h (hr.oks _ _ hen)
        refine ⟨_, hK, (by simpa only [SVal.ok] using hlok), ?_⟩
        simp only [SVal.conc, hc] at h3
        have hload := run_loadCells_list (P := P) (w := w) ⟨b, base + (ad.off + ad.idx * ad.st), none⟩ (Zab ρ l) (fun j v hj => by
          rw [ZbA, Nat.add_assoc]
          exact hent.cells b base hb _ _ (ZcB hl (by rw [Zan]; omega) j v hj))
        simp only [Zan, hlen] at hload
        simp [Zs2, h3, asAddr, loadVar, Zcr hf.1.2, Zbw hf.2, hload, SVal.conc]
      · exact h.elim
    · exact h.elim
  · cases hf
theorem ZkU {ρ : Rho} {H : Heap} {e : Env} {tmps : Array Value} {w0 w : World} {fp : Nat -> Nat -> Prop} (he : EnvOk ρ H.next nt e tmps) (hr : Rel w0 fp ρ H w) : ∀ {ts : List RV} {rs : List ResultVar} {K : List SVal -> Prop}, ZkW P ts rs = true -> ZLR e H ts K ->
    ∃ vs, K vs /\ okL ρ H.next vs /\ vs.length = rs.length /\ (rs.mapM (Zs2 tmps)).run P w = .ok (ZaH ρ vs) w
  | [], [], K, _, h => ⟨[], h, by simp [okL], rfl, by simp [ZaH]⟩
  | t :: r, s :: q, K, hf, h => by
    simp only [ZkW, Bool.and_eq_true] at hf
    simp only [ZLR] at h
    obtain ⟨v, h1, h2, h3⟩ := ZrV he hr hf.1 h
    obtain ⟨vs, h4, h5, h6, h7⟩ := ZkU he hr hf.2 h1
    refine ⟨_, h4, by simp only [okL]; exact ⟨h2, h5⟩, by simp [h6], ?_⟩
    rw [List.mapM_cons, Sem.run_bind, h3, Result.andThen_ok, Sem.run_bind, h7]
    simp [ZaH]
  | [], _ :: _, _, hf, _ => by simp [ZkW] at hf
  | _ :: _, [], _, hf, _ => by simp [ZkW] at hf
theorem ZnR {R : Res} {fn : Func} {ρ : Rho} {H : Heap} {e : Env} {a : Act} {K : SVal -> Prop} {w0 w : World} {fp : Nat -> Nat -> Prop} (hf : R.fits P fn.results.toList = true) (he : EnvOk ρ H.next nt e a.tmps) (hr : Rel w0 fp ρ H w) (h : R.ev e H K) :
    ∃ v, K v /\ v.ok ρ H.next /\ (results fn a.tmps).run P w = .ok (v.conc ρ) w := by
  cases R with
  | one t =>
    simp only [Res.ev] at h
    simp only [Res.fits] at hf
    split at hf
    · rename_i s hrs
      obtain ⟨v, h1, h2, h3⟩ := ZrV he hr hf h
      refine ⟨v, h1, h2, ?_⟩
      rw [ZkC, Sem.run_bind, Array.mapM_eq_mapM_toList, hrs, Sem.run_map, List.mapM_cons, Sem.run_bind, h3]
      simp
    · cases hf
  | many ts =>
    simp only [Res.ev] at h
    simp only [Res.fits, Bool.and_eq_true, Bool.not_eq_true'] at hf
    obtain ⟨vs, h1, h2, h3, h4⟩ := ZkU (P := P) he hr hf.2 h
    refine ⟨_, h1, by simp only [SVal.ok]; exact h2, ?_⟩
    rw [ZkC, Sem.run_bind, Array.mapM_eq_mapM_toList, Sem.run_map, h4]
    have hl : ¬ (ZaH ρ vs).toArray.size = 1 := by
      have : fn.results.toList.length ≠ 1 := fun hh => by rw [hh] at hf; simp at hf
      rw [List.size_toArray, Zfk, h3]
      exact this
    simp only [Result.andThen_ok, Sem.run_pure, SVal.conc]
    rw [dif_neg hl]
theorem Zfv {ρ ρi : Rho} {n0 : Nat} {H : Heap} {r : SVal} {K : SVal -> Heap -> Prop} {w0 w : World} {fp : Nat -> Nat -> Prop} (h : Zkj n0 K r H) (hρ : ∀ i, i < n0 -> ρ i = ρi i) (hr : Rel w0 fp ρ H w) (hok : r.ok ρ H.next) :
    ∃ ρ' r' H', K r' H' /\ r.conc ρ = r'.conc ρ' /\ r'.ok ρ' H'.next /\ (∀ i, i < n0 -> ρ' i = ρi i) /\ n0 <= H'.next /\ Rel w0 fp ρ' H' w := by
  obtain ⟨τ, r', H', h1, h2, rfl, h4, h5, h6, h7⟩ := h
  exact ⟨ρ.via τ, r', H', h7, SVal.conc_ren r', SVal.ok_ren r' hok h4, fun i hi => by rw [Zgx (by rw [h1 i hi]; rfl) (by rw [h1 i hi]; rfl), h1 i hi]; exact hρ i hi, h2, hr.sub h5 h6⟩
theorem Zis {ρ : Rho} : ∀ a b : List SVal, ZaH ρ (a ++ b) = ZaH ρ a ++ ZaH ρ b
  | [], b => by simp [ZaH]
  | v :: r, b => by simp [ZaH, Zis r b]
theorem Zhr {ρ : Rho} {n : Nat} : ∀ a b : List SVal, okL ρ n (a ++ b) ↔ okL ρ n a /\ okL ρ n b
  | [], b => by simp [okL]
  | v :: r, b => by simp [okL, Zhr r b, and_assoc]
theorem Zlx {ρ : Rho} {H : Heap} {w0 w : World} {fp : Nat -> Nat -> Prop} {z : List Chunk} (hr : Rel w0 fp ρ H w) (hz : Zbh z = true) (h0 : Zam z = 0) :
    Rel w0 fp (ρ.up H.next none) (ZoS z H) w /\ (Zza z H).ok (ρ.up H.next none) (ZoS z H).next /\ (Zza z H).conc (ρ.up H.next none) = .slice none 0 0 :=
  ⟨hr.pushE none (ZbY hz).1 h0, by simp [Zza, ZoS, SVal.ok, Heap.push], by simp [Zza, SVal.conc, SAddr.conc, Rho.up_same]⟩
def ZLO {α β : Type} (w0 : World) (fp : Nat -> Nat -> Prop) (w : World) (ok : Rho -> Nat -> α -> Prop) (conc : Rho -> α -> β) (f : Dn α) : Prop := ∀ v zs H K ρ, f v zs H K -> zsB zs = true -> Rel w0 fp ρ H w -> ok ρ H.next v ->
  ∃ v' zs' H' ρ', K v' zs' H' /\ zsB zs' = true /\ Rel w0 fp ρ' H' w /\ ok ρ' H'.next v' /\ conc ρ' v' = conc ρ v /\ (∀ i, i < H.next -> ρ' i = ρ i) /\ H.next <= H'.next /\ ∀ i, i < H.next -> H'.find i = H.find i
section
variable {w0 w : World} {fp : Nat -> Nat -> Prop}
theorem ZlQ {f : Dn SVal} (hf : ZLO w0 fp w (fun ρ n v => v.ok ρ n) (fun ρ v => v.conc ρ) f) : ZLO w0 fp w ZaE Zab (ZAd f)
  | [], zs, H, K, ρ, h, hz, hr, hok => ⟨_, _, _, ρ, h, hz, hr, hok, rfl, fun _ _ => rfl, Nat.le_refl _, fun _ _ => rfl⟩
  | .one v :: r, zs, H, K, ρ, h, hz, hr, hok => by
    simp only [ZAd] at h
    simp only [ZaE, Chunk.ok] at hok
    obtain ⟨v', zs', H', ρ', h1, h2, h3, h4, h5, h6, h7, h8⟩ := hf v zs H _ ρ h hz hr hok.1
    obtain ⟨r', zs2, H2, ρ2, g1, g2, g3, g4, g5, g6, g7, g8⟩ := ZlQ hf r _ _ _ ρ' h1 h2 h3 (Za8 h6 h7 _ hok.2)
    refine ⟨_, _, _, ρ2, g1, g2, g3, by simp only [ZaE, Chunk.ok]; exact ⟨SVal.ok_mono g6 g7 _ h4, g4⟩, ?_, fun i hi => by rw [g6 i (by omega), h6 i hi], by omega, fun i hi => by rw [g8 i (by omega), h8 i hi]⟩
    simp only [Zab, Chunk.conc, g5, SVal.conc_congr g6 _ h4, Zba h6 _ hok.2]
    rw [show v'.conc ρ' = v.conc ρ from h5]
  | .ints k n xs :: r, zs, H, K, ρ, h, hz, hr, hok => by
    simp only [ZAd] at h
    simp only [ZaE] at hok
    obtain ⟨r', zs', H', ρ', h1, h2, h3, h4, h5, h6, h7, h8⟩ := ZlQ hf r zs H _ ρ h hz hr hok.2
    exact ⟨_, _, _, ρ', h1, h2, h3, by simp only [ZaE]; exact ⟨by simp only [Chunk.ok], h4⟩, by simp only [Zab, h5, Chunk.conc], h6, h7, h8⟩
  | .rows sh n xs :: r, zs, H, K, ρ, h, hz, hr, hok => by
    simp only [ZAd] at h
    simp only [ZaE] at hok
    obtain ⟨r', zs', H', ρ', h1, h2, h3, h4, h5, h6, h7, h8⟩ := ZlQ hf r zs H _ ρ h hz hr hok.2
    exact ⟨_, _, _, ρ', h1, h2, h3, by simp only [ZaE]; exact ⟨by simp only [Chunk.ok], h4⟩, by simp only [Zab, h5, Chunk.conc], h6, h7, h8⟩
theorem Zsc {f : Dn SVal} (hf : ZLO w0 fp w (fun ρ n v => v.ok ρ n) (fun ρ v => v.conc ρ) f) : ZLO w0 fp w okL ZaH (dnL f)
  | [], zs, H, K, ρ, h, hz, hr, hok => ⟨_, _, _, ρ, h, hz, hr, hok, rfl, fun _ _ => rfl, Nat.le_refl _, fun _ _ => rfl⟩
  | v :: r, zs, H, K, ρ, h, hz, hr, hok => by
    simp only [dnL] at h
    simp only [okL] at hok
    obtain ⟨v', zs', H', ρ', h1, h2, h3, h4, h5, h6, h7, h8⟩ := hf v zs H _ ρ h hz hr hok.1
    obtain ⟨r', zs2, H2, ρ2, g1, g2, g3, g4, g5, g6, g7, g8⟩ := Zsc hf r _ _ _ ρ' h1 h2 h3 (ZcD h6 h7 _ hok.2)
    refine ⟨_, _, _, ρ2, g1, g2, g3, by simp only [okL]; exact ⟨SVal.ok_mono g6 g7 _ h4, g4⟩, ?_, fun i hi => by rw [g6 i (by omega), h6 i hi], by omega, fun i hi => by rw [g8 i (by omega), h8 i hi]⟩
    simp only [ZaH, g5, SVal.conc_congr g6 _ h4, Zbq h6 _ hok.2]
    rw [show v'.conc ρ' = v.conc ρ from h5]
theorem ZxE : ∀ n, ZLO w0 fp w (fun ρ n v => v.ok ρ n) (fun ρ v => v.conc ρ) (dnV n)
  | 0, v, zs, H, K, ρ, h, hz, hr, hok => ⟨_, _, _, ρ, h, hz, hr, hok, rfl, fun _ _ => rfl, Nat.le_refl _, fun _ _ => rfl⟩
  | n + 1, v, zs, H, K, ρ, h, hz, hr, hok => by
    have ih := ZxE n
    have triv : K v zs H -> ∃ v' zs' H' ρ', K v' zs' H' /\ zsB zs' = true /\ Rel w0 fp ρ' H' w /\ v'.ok ρ' H'.next /\ v'.conc ρ' = v.conc ρ /\ (∀ i, i < H.next -> ρ' i = ρ i) /\ H.next <= H'.next /\ ∀ i, i < H.next -> H'.find i = H.find i :=
      fun h => ⟨_, _, _, ρ, h, hz, hr, hok, rfl, fun _ _ => rfl, Nat.le_refl _, fun _ _ => rfl⟩
    cases v with
    | nilslice =>
      simp only [dnV] at h
      split at h
      · rename_i z r
        simp only [zsB, Bool.and_eq_true] at hz
        obtain ⟨h1, h2, h3⟩ := Zlx hr hz.1.1 (Zaq hz.1.2)
        exact ⟨_, _, _, _, h, hz.2, h1, h2, by simp only; rw [h3]; simp only [SVal.conc], Rho.up_lt, by simp [ZoS, Heap.push], fun i hi => by simp only [ZoS]; rw [Heap.find_push, if_neg (by omega)]⟩
      · simp only [zsB] at hz
        exact ⟨_, _, _, ρ, h, hz, hr, hok, rfl, fun _ _ => rfl, Nat.le_refl _, fun _ _ => rfl⟩
      · exact triv h
    | agg cs =>
      simp only [dnV] at h
      simp only [SVal.ok] at hok
      obtain ⟨cs', zs', H', ρ', h1, h2, h3, h4, h5, h6, h7, h8⟩ := ZlQ ih cs zs H _ ρ h hz hr hok
      exact ⟨_, _, _, ρ', h1, h2, h3, by simp only [SVal.ok]; exact h4, by simp only [SVal.conc, h5], h6, h7, h8⟩
    | tuple vs =>
      simp only [dnV] at h
      simp only [SVal.ok] at hok
      obtain ⟨cs', zs', H', ρ', h1, h2, h3, h4, h5, h6, h7, h8⟩ := Zsc ih vs zs H _ ρ h hz hr hok
      exact ⟨_, _, _, ρ', h1, h2, h3, by simp only [SVal.ok]; exact h4, by simp only [SVal.conc, h5], h6, h7, h8⟩
    | fn f a b =>
      simp only [dnV] at h
      simp only [SVal.ok] at hok
      obtain ⟨cs', zs', H', ρ', h1, h2, h3, h4, h5, h6, h7, h8⟩ := Zsc ih b zs H _ ρ h hz hr hok.2
      exact ⟨_, _, _, ρ', h1, h2, h3, by simp only [SVal.ok]; exact ⟨ZcD h6 h7 _ hok.1, h4⟩, by simp only [SVal.conc, h5, Zbq h6 _ hok.1], h6, h7, h8⟩
    | _ => simp only [dnV] at h; exact triv h
end
theorem ZnQ {ρ ρi : Rho} {n0 : Nat} {H : Heap} {r : SVal} {K : SVal -> Heap -> Prop} {w0 w : World} {fp : Nat -> Nat -> Prop} (h : Ret n0 K r H) (hn : n0 <= H.next) (hρ : ∀ i, i < n0 -> ρ i = ρi i) (hr : Rel w0 fp ρ H w) (hok : r.ok ρ H.next) :
    ∃ ρ' r' H', K r' H' /\ r.conc ρ = r'.conc ρ' /\ r'.ok ρ' H'.next /\ (∀ i, i < n0 -> ρ' i = ρi i) /\ n0 <= H'.next /\ Rel w0 fp ρ' H' w := by
  rcases h with h | ⟨z, hz, h0, h⟩ | ⟨zs, hz, h⟩
  · exact Zfv h hρ hr hok
  · obtain ⟨h1, h2, h3⟩ := Zlx hr hz h0
    have hup : ∀ i, i < H.next -> ρ.up H.next none i = ρ i := Rho.up_lt
    have hρ' : ∀ i, i < n0 -> ρ.up H.next none i = ρi i := fun i hi => by rw [hup i (by omega), hρ i hi]
    rcases h with ⟨rfl, h⟩ | ⟨a, b, rfl, h⟩
    · obtain ⟨ρ', r', H', g1, g2, g3⟩ := Zfv h hρ' h1 h2
      exact ⟨ρ', r', H', g1, by rw [<- g2, h3]; rfl, g3⟩
    · simp only [SVal.ok, Zhr, okL] at hok
      have hle : H.next <= (ZoS z H).next := by simp [ZoS, Heap.push]
      obtain ⟨ρ', r', H', g1, g2, g3⟩ := Zfv h hρ' h1 (by
        simp only [SVal.ok, Zhr, okL]
        exact ⟨ZcD hup hle _ hok.1, h2, ZcD hup hle _ hok.2.2⟩)
      refine ⟨ρ', r', H', g1, ?_, g3⟩
      rw [<- g2]
      simp only [SVal.conc, Zis, ZaH, h3, Zbq hup _ hok.1, Zbq hup _ hok.2.2]
  · obtain ⟨r1, zs1, H1, ρ1, g1, _, g2, g3, g4, g5, g6, _⟩ := ZxE 8 r zs H _ ρ h hz hr hok
    obtain ⟨ρ', r', H', k1, k2, k3⟩ := Zfv g1 (fun i hi => by rw [g5 i (by omega), hρ i hi]) g2 g3
    exact ⟨ρ', r', H', k1, by rw [<- k2, show r1.conc ρ1 = r.conc ρ from g4], k3⟩
end
end Go.Sx
