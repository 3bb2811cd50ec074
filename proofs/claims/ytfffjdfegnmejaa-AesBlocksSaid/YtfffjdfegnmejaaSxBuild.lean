/- Two parts of the proof. -/
import Derived.Test.YtfffjdfegnmejaaSxOp
set_option linter.unusedVariables false
set_option linter.unusedSimpArgs false
namespace Go.Sx
theorem ZbA {b o n : Nat} : (⟨b, o, none⟩ : Addr).add n = ⟨b, o + n, none⟩ := by unfold Addr.add; split <;> simp_all
theorem Zgs {ρ : Rho} (v : SVal) : (v.conc ρ).cells.toList = Zab ρ v.chunks := by
  cases v with
  | raw s h => cases s <;> simp [SVal.conc, Zho, SVal.chunks, Value.cells, Zab, Chunk.conc]
  | _ => simp [SVal.conc, SVal.chunks, Value.cells, Zab, Chunk.conc]
theorem Zon {ρ : Rho} {n : Nat} {v : SVal} (h : v.ok ρ n) : ZaE ρ n v.chunks := by
  cases v <;> simp only [SVal.chunks, ZaE, Chunk.ok, and_true] <;> first | exact h | (simpa [SVal.ok] using h)
section
variable {P : Program} {a : Act} {o : Oper} {w w0 : World} {fp : Nat -> Nat -> Prop} {ρ : Rho} {H : Heap} {e : Env} {nt : Nat} {K : SVal -> Heap -> Prop}
theorem Zcr {t : TypeId} {b : Bool} (h : Zkr P t b = true) : (isAgg t).run P w = .ok b w := by
  unfold Zkr at h
  unfold isAgg
  split at h
  · rename_i hu; simp [run_underlying hu, h]
  · rename_i hu; simp [run_underlying hu, h]
  · rename_i d h1 h2 hu
    have hb : b = false := by simpa using h
    subst hb
    rw [Sem.run_bind, run_underlying hu]
    cases d <;> first | rfl | exact absurd rfl (h1 _) | exact absurd rfl (h2 _ _)
  · cases h
theorem Zbw {t : TypeId} {n : Nat} (h : Zc0 P t n = true) : (sizeOf t).run P w = .ok n w := by
  unfold Zc0 at h
  split at h
  · rename_i i hi
    have := Nat.eq_of_beq_eq_true h
    simp [sizeOf, typeInfo, hi, this]
  · cases h
theorem ZfY {t : TypeId} {z : List Chunk} (h : ZcX P t z = true) : ∃ v, (∀ w : World, (zeroValue t).run P w = .ok v w) /\ Zbh z = true /\ v.cells.toList = Zab ρ0 z := by
  unfold ZcX at h
  split at h
  · rename_i i hi
    split at h
    · rename_i v hv
      rw [Bool.and_eq_true] at h
      exact ⟨v, fun w => by simp [zeroValue, typeInfo, hi, hv], h.1, (ZcZ h.2).symm⟩
    · cases h
  · cases h
theorem ZcC {t : TypeId} {z : List Chunk} (h : ZcX P t z = true) : ∃ v, (zeroValue t).run P w = .ok v w /\ Zbh z = true /\ v.cells.toList = Zab ρ0 z := by
  unfold ZcX at h
  split at h
  · rename_i i hi
    split at h
    · rename_i v hv
      rw [Bool.and_eq_true] at h
      exact ⟨v, by simp [zeroValue, typeInfo, hi, hv], h.1, (ZcZ h.2).symm⟩
    · cases h
  · cases h
theorem Zii (hr : Rel w0 fp ρ H w) {t : TypeId} {v : Value} {cs : List Chunk} {n : Nat} (hok : ZaE ρ H.next cs) (hc : v.cells.toList = Zab ρ cs) (_hn : n = Zam cs) (hh : Za2 cs = none)
    (hK : K (.ptr ⟨H.next, 0, 0, 1⟩ n) (H.push ⟨true, cs, 0⟩)) :
    ∃ u w', (newVar t v).run P w = .ok u w' /\ OpPost w0 fp ρ H K (.pointer (some u)) w' := by
  refine ⟨⟨w.heap.size, 0, none⟩, w.alloc (.cells v.cells t), rfl, ?_⟩
  refine ⟨ρ.up H.next (some (w.heap.size, 0)), _, _, hK, ?_, ?_, Rho.up_lt, by simp [Heap.push], hr.alloc hok ⟨[], by simp [hc], rfl⟩ hh⟩
  · simp [SVal.conc, SAddr.conc, Rho.up_same]
  · simp [SVal.ok, Heap.push, Rho.up_same]
theorem Zye {x : Opd} (hf : (AOp.box x).fits P o.op = true) (he : EnvOk ρ H.next nt e a.tmps) (hr : Rel w0 fp ρ H w) {Γ} (h : ZaV Γ (.box x) e H K) : Runs P a o w (OpPost w0 fp ρ H K) := by
  simp only [AOp.fits] at hf
  simp only [ZaV] at h
  split at hf
  · rename_i t x' hop
    obtain ⟨v, h, hok, h3⟩ := Opd.ev_sound hf he h
    obtain ⟨hh, h⟩ := Zai h
    obtain ⟨u, w', h4, h5⟩ := Zii (P := P) (t := t) hr (Zon hok) (Zgs v) rfl (ZfB hh) h
    exact ⟨_, _, .inl (by simp [execOp, hop, Instr.box, h3, h4]), h5⟩
  · cases hf
theorem Zq1 {z : List Chunk} (hf : (AOp.alloc z).fits P o.op = true) (_he : EnvOk ρ H.next nt e a.tmps) (hr : Rel w0 fp ρ H w) {Γ} (h : ZaV Γ (.alloc z) e H K) : Runs P a o w (OpPost w0 fp ρ H K) := by
  simp only [AOp.fits] at hf
  simp only [ZaV] at h
  split at hf
  · rename_i t hop
    obtain ⟨hh, h⟩ := Zai h
    obtain ⟨v, h1, h2, h3⟩ := ZcC (w := w) hf
    have h4 := ZbY (ρ := ρ) (n := H.next) h2
    obtain ⟨u, w', h5, h6⟩ := Zii (P := P) (t := t) (v := v) hr h4.1 (by rw [h3, h4.2]) rfl (ZfB hh) h
    exact ⟨_, _, .inl (by simp [execOp, hop, Instr.alloc, h1, h5]), h6⟩
  · cases hf
theorem ZgE (hr : Rel w0 fp ρ H w) {ad : SAddr} {en : Ent} (hok : ad.id < H.next /\ ρ ad.id ≠ none) (hen : H.find ad.id = some en) :
    ∃ b base, ρ ad.id = some (b, base) /\ ad.conc ρ = some ⟨b, base + (ad.off + ad.idx * ad.st), none⟩ /\ EntOk ρ w ad.id en := by
  obtain ⟨⟨b, base⟩, hb⟩ := Option.ne_none_iff_exists'.1 hok.2
  exact ⟨b, base, hb, by simp [SAddr.conc, hb], hr.ents _ _ hen⟩
theorem Zr6 {cs : List Chunk} {n : Nat} {v : SVal} (h : isH cs = some (n, v)) : ∃ x m y, cs = [.rows [.hd] n x, .one v, .rows [.hd] m y] := by
  unfold isH at h
  split at h
  · cases h; exact ⟨_, _, _, rfl⟩
  · cases h
theorem ZLz {ρ : Rho} {n m : Nat} {v : SVal} {x y : List (Tup [.hd])} : Zab ρ [.rows [.hd] n x, .one v, .rows [.hd] m y] = Zal [.hd] n x ++ v.conc ρ :: Zal [.hd] m y := by
  simp [Zab, Chunk.conc]
theorem Zzm {n : Nat} {x : List (Tup [.hd])} : (Zal [.hd] n x).length = n := by rw [Zag]; simp [Zaj, Leaf.len]
theorem Zd4 {x : Opd} (hf : (AOp.load1 x).fits P o.op = true) (he : EnvOk ρ H.next nt e a.tmps) (hr : Rel w0 fp ρ H w) {Γ} (h : ZaV Γ (.load1 x) e H K) : Looks P a o w0 fp ρ H K := by
  simp only [AOp.fits] at hf
  simp only [ZaV] at h
  split at hf
  · rename_i t x' hop
    rw [Bool.and_eq_true] at hf
    obtain ⟨v, h, hok, h3⟩ := Opd.ev_sound hf.1 he h
    split at h
    · rename_i ad n
      simp only [SVal.ok] at hok
      split at h
      · rename_i en hen
        obtain ⟨b, base, hb, hc, hent⟩ := ZgE hr hok hen
        have key : ∃ u, K u H /\ u.ok ρ H.next /\ (Zab ρ en.cs)[ad.off + ad.idx * ad.st]? = some (u.conc ρ) := by
          split at h
          · rename_i n v hH
            obtain ⟨h0, h1, h⟩ := Zai h
            rw [Bool.and_eq_true] at h0
            obtain ⟨x, m, y, hcs⟩ := Zr6 hH
            have hoks := hr.oks _ _ hen
            rw [hcs] at hoks ⊢
            rw [Zaq h0.1, Zaq h0.2, h1, ZLz, List.getElem?_append_right (by rw [Zzm]; omega), Zzm]
            exact ⟨v, h, hoks.2.1, by simp⟩
          · exact ZgC _ _ h (hr.oks _ _ hen)
        obtain ⟨u, hK, huok, hu⟩ := key
        have hcell := fun (w : World) (hr : Rel w0 fp ρ H w) => (hr.ents _ _ hen).cells b base hb _ _ hu
        refine ⟨_, hK, huok, fun w hr => ?_⟩
        simp only [SVal.conc, hc] at h3
        simp [execOp, hop, h3, Instr.loadAt, Instr.sureAddr, loadVar, Zcr hf.2, hcell w hr]
      · exact h.elim
    · exact h.elim
  · cases hf
theorem ZcB {α : Type} {l m : List α} {p sz : Nat} (h : m = (l.drop p).take sz) (_hp : p + sz <= l.length) (j : Nat) (v : α) (hj : m[j]? = some v) : l[p + j]? = some v := by
  subst h
  have hlt := (List.getElem?_eq_some_iff.1 hj).1
  rw [List.length_take, List.length_drop] at hlt
  rw [List.getElem?_take_of_lt (by omega), List.getElem?_drop] at hj
  exact hj
theorem Zd3 {sz : Nat} {x : Opd} (hf : (AOp.loadA sz x).fits P o.op = true) (he : EnvOk ρ H.next nt e a.tmps) (hr : Rel w0 fp ρ H w) {Γ} (h : ZaV Γ (.loadA sz x) e H K) : Looks P a o w0 fp ρ H K := by
  simp only [AOp.fits] at hf
  simp only [ZaV] at h
  split at hf
  · rename_i t x' hop
    rw [Bool.and_eq_true, Bool.and_eq_true] at hf
    obtain ⟨v, h, hok, h3⟩ := Opd.ev_sound hf.1.1 he h
    split at h
    · rename_i ad n
      simp only [SVal.ok] at hok
      split at h
      · rename_i en hen
        obtain ⟨b, base, hb, hc, hent⟩ := ZgE hr hok hen
        obtain ⟨l, hK, hlok, hlen, hle, hl⟩ := ZgD _ _ h (hr.oks _ _ hen)
        refine ⟨_, hK, (by simpa only [SVal.ok] using hlok), fun w hr => ?_⟩
        simp only [SVal.conc, hc] at h3
        have hload := fun (w : World) (hr : Rel w0 fp ρ H w) => run_loadCells_list (P := P) (w := w) ⟨b, base + (ad.off + ad.idx * ad.st), none⟩ (Zab ρ l) (fun j v hj => by
          rw [ZbA, Nat.add_assoc]
          exact (hr.ents _ _ hen).cells b base hb _ _ (ZcB hl (by rw [Zan]; omega) j v hj))
        simp only [Zan, hlen] at hload
        simp [execOp, hop, h3, Instr.loadAt, Instr.sureAddr, loadVar, Zcr hf.1.2, Zbw hf.2, hload w hr, SVal.conc]
      · exact h.elim
    · exact h.elim
  · cases hf
theorem Zih {v : SVal} (h : Zn5 v = true) : (v.conc ρ).oneCell' = true /\ (v.conc ρ).cells = #[v.conc ρ] := by
  cases v <;> first | (cases h; done) | (simp [SVal.conc, Value.oneCell', Value.cells]; done)
theorem ZnM {x v : Opd} (hf : (AOp.store1 x v).fits P o.op = true) (he : EnvOk ρ H.next nt e a.tmps) (hr : Rel w0 fp ρ H w) {Γ} (h : ZaV Γ (.store1 x v) e H K) : Runs P a o w (OpPost w0 fp ρ H K) := by
  simp only [AOp.fits] at hf
  simp only [ZaV] at h
  split at hf
  · rename_i t x' v' hop
    rw [Bool.and_eq_true, Bool.and_eq_true] at hf
    obtain ⟨p, hp, hok, h3⟩ := Opd.ev_sound hf.1.1 he h
    clear h
    obtain ⟨u, h, huok, h5⟩ := Opd.ev_sound hf.1.2 he hp
    clear hp
    split at h
    · rename_i ad n
      simp only [SVal.ok] at hok
      split at h
      · rename_i en hen
        have key : ∃ cs', en.wr = true /\ Zn5 u = true /\ K (.tuple []) (H.set ad.id ⟨true, cs', en.ex⟩) /\ Za2 cs' = none /\ ZaE ρ H.next cs' /\ Zam cs' = Zam en.cs /\ ad.off + ad.idx * ad.st < Zam en.cs /\ Zab ρ cs' = (Zab ρ en.cs).set (ad.off + ad.idx * ad.st) (u.conc ρ) := by
          split at h
          · rename_i n v hH
            obtain ⟨h0, h1, h⟩ := Zai h
            simp only [Bool.and_eq_true] at h0
            obtain ⟨x, m, y, hcs⟩ := Zr6 hH
            have hoks := hr.oks _ _ hen
            refine ⟨ZLQ u en.cs, h0.1.1.1, h0.1.1.2, h, by rw [hcs]; rfl, ?_, ?_, ?_, ?_⟩
            · rw [hcs] at hoks ⊢; exact ⟨trivial, huok, trivial, trivial⟩
            · rw [hcs]; simp [ZLQ, Zam, Chunk.len]
            · rw [hcs, Zaq h0.1.2, Zaq h0.2, h1]; simp [Zam, Chunk.len, Zaj, Leaf.len]; omega
            · rw [hcs, Zaq h0.1.2, Zaq h0.2, h1]
              simp only [ZLQ, ZLz]
              rw [List.set_append_right _ _ (by rw [Zzm]; omega), Zzm]
              simp
          · obtain ⟨h0, h⟩ := Zai h
            rw [Bool.and_eq_true] at h0
            obtain ⟨cs', hK, hcok, hlen, hlt, hset⟩ := Zi4 huok _ _ _ h (hr.oks _ _ hen)
            obtain ⟨hh, hK⟩ := Zai hK
            exact ⟨cs', h0.1, h0.2, hK, ZfB hh, hcok, hlen, hlt, hset⟩
        obtain ⟨cs', hwr, hcell, hK, hhid, hcok, hlen, hlt, hset⟩ := key
        obtain ⟨b, base, hb, hc, hent⟩ := ZgE hr hok hen
        obtain ⟨h6, h7⟩ := Zih (ρ := ρ) hcell
        simp only [SVal.conc, hc] at h3
        have hin : ad.off + ad.idx * ad.st < en.size := by simp only [Ent.size]; omega
        obtain ⟨⟨old, hold⟩, hfz⟩ := hent.own hwr b base hb _ hin
        have hst := run_storeCells_cells (P := P) b (base + (ad.off + ad.idx * ad.st)) [u.conc ρ] 0 w (by simp [hold]) (by simp [hfz]) (by simp [h6])
        rw [Nat.add_zero] at hst
        refine ⟨undef, _, .inr ⟨?_, rfl⟩, ⟨ρ, _, _, hK, rfl, by simp [SVal.ok, okL], fun _ _ => rfl, Nat.le_refl _,
          hr.store (off := ad.off + ad.idx * ad.st) (vs := [u.conc ρ]) hen hwr hb (by simp only [List.length_singleton]; omega) hcok (by simp only [Ent.size, hlen]) ?_ hhid⟩⟩
        · simp [execOp, hop, h3, h5, Instr.storeAt, Instr.sureAddr, storeVar, h7, Zbw hf.2, hst]
        · intro i z hz
          rw [hset, List.getElem?_set] at hz
          by_cases hi : ad.off + ad.idx * ad.st = i
          · left
            rw [if_pos hi, if_pos (by rw [Zan]; omega)] at hz
            subst hi
            exact ⟨Nat.le_refl _, by simp, by simpa using hz⟩
          · right
            rw [if_neg hi] at hz
            exact ⟨by simp only [List.length_singleton]; omega, hz⟩
      · exact h.elim
    · exact h.elim
  · cases hf
theorem Zd8 {k n xs} : ∀ v ∈ Zap k n xs, v.oneCell' = true := by
  intro v hv
  simp only [Zap, List.mem_map] at hv
  obtain ⟨_, _, rfl⟩ := hv
  rfl
theorem ZgO : ∀ (l : Leaf) (x : l.T), ∀ v ∈ l.conc x, v.oneCell' = true
  | .int _, _, v, hv => by simp [Leaf.conc] at hv; subst hv; rfl
  | .bool, _, v, hv => by simp [Leaf.conc] at hv; subst hv; rfl
  | .ints _ _, _, v, hv => Zd8 v hv
  | .hd, _, v, hv => by simp [Leaf.conc] at hv; subst hv; rfl
theorem Zia : ∀ (sh : List Leaf) (x : Tup sh), ∀ v ∈ ZaB sh x, v.oneCell' = true
  | [], _, v, hv => by simp [ZaB] at hv
  | [l], x, v, hv => ZgO l x v hv
  | l :: m :: r, x, v, hv => by
    simp only [ZaB, List.mem_append] at hv
    rcases hv with hv | hv
    · exact ZgO l x.1 v hv
    · exact Zia (m :: r) x.2 v hv
theorem ZeC : ∀ {cs : List Chunk}, Ziu cs = true -> ∀ v ∈ Zab ρ cs, v.oneCell' = true
  | [], _, v, hv => by simp [Zab] at hv
  | .one u :: r, h, v, hv => by
    simp only [Ziu, Bool.and_eq_true] at h
    simp only [Zab, Chunk.conc, List.mem_append, List.mem_singleton] at hv
    rcases hv with rfl | hv
    · exact (Zih h.1).1
    · exact ZeC h.2 v hv
  | .ints _ _ _ :: r, h, v, hv => by
    simp only [Ziu] at h
    simp only [Zab, Chunk.conc, List.mem_append] at hv
    rcases hv with hv | hv
    · exact Zd8 v hv
    · exact ZeC h v hv
  | .rows sh n xs :: r, h, v, hv => by
    simp only [Ziu] at h
    simp only [Zab, Chunk.conc, List.mem_append] at hv
    rcases hv with hv | hv
    · simp only [Zal, List.mem_flatMap] at hv
      obtain ⟨_, _, hv⟩ := hv
      exact Zia sh _ v hv
    · exact ZeC h v hv
theorem ZnL {sz : Nat} {x v : Opd} (hf : (AOp.storeA sz x v).fits P o.op = true) (he : EnvOk ρ H.next nt e a.tmps) (hr : Rel w0 fp ρ H w) {Γ} (h : ZaV Γ (.storeA sz x v) e H K) : Runs P a o w (OpPost w0 fp ρ H K) := by
  simp only [AOp.fits] at hf
  simp only [ZaV] at h
  split at hf
  · rename_i t x' v' hop
    rw [Bool.and_eq_true, Bool.and_eq_true] at hf
    obtain ⟨p, hp, hok, h3⟩ := Opd.ev_sound hf.1.1 he h
    clear h
    obtain ⟨u, h, huok, h5⟩ := Opd.ev_sound hf.1.2 he hp
    clear hp
    split at h
    · rename_i ad n new
      simp only [SVal.ok] at hok huok
      split at h
      · rename_i en hen
        obtain ⟨h0, h⟩ := Zai h
        rw [Bool.and_eq_true, Bool.and_eq_true] at h0
        obtain ⟨⟨hwr, hsz⟩, hcell⟩ := h0
        have hsz := Zaq hsz
        obtain ⟨b, base, hb, hc, hent⟩ := ZgE hr hok hen
        obtain ⟨cs', hK, hcok, hlen, hle, hset⟩ := ZeP huok hsz _ _ _ h (hr.oks _ _ hen)
        obtain ⟨hh, hK⟩ := Zai hK
        simp only [SVal.conc, hc] at h3 h5
        have hlnew : (Zab ρ new).length = sz := by rw [Zan, hsz]
        have hown : ∀ j, j < sz -> (∃ u, w.cell? ⟨b, base + (ad.off + ad.idx * ad.st) + j, none⟩ = some u) /\ w.frozen? ⟨b, base + (ad.off + ad.idx * ad.st) + j, none⟩ = false := fun j hj => by
          have := hent.own hwr b base hb (ad.off + ad.idx * ad.st + j) (by simp only [Ent.size]; omega)
          rwa [<- Nat.add_assoc] at this
        have hst := run_storeCells_cells (P := P) b (base + (ad.off + ad.idx * ad.st)) (Zab ρ new) 0 w
          (fun j hj => by obtain ⟨⟨u, hu⟩, _⟩ := hown j (by omega); simp [hu]) (fun j hj => by simpa using (hown j (by omega)).2) (ZeC hcell)
        rw [Nat.add_zero] at hst
        refine ⟨undef, _, .inr ⟨?_, rfl⟩, ⟨ρ, _, _, hK, rfl, by simp [SVal.ok, okL], fun _ _ => rfl, Nat.le_refl _,
          hr.store (off := ad.off + ad.idx * ad.st) (vs := Zab ρ new) hen hwr hb (by simp only [Ent.size]; omega) hcok (by simp only [Ent.size, hlen]) ?_ (ZfB hh)⟩⟩
        · simp [execOp, hop, h3, h5, Instr.storeAt, Instr.sureAddr, storeVar, Value.cells, hlnew, Zbw hf.2, hst]
        · intro i z hz
          rw [hset, ZcS, List.length_take, Zan, Nat.min_eq_left (by omega), hlnew] at hz
          split at hz
          · rename_i hi
            rw [List.getElem?_take_of_lt hi] at hz
            exact .inr ⟨.inl hi, hz⟩
          · rename_i hi
            split at hz
            · rename_i hi2
              exact .inl ⟨by omega, by omega, hz⟩
            · rename_i hi2
              rw [List.getElem?_drop, show ad.off + ad.idx * ad.st + sz + (i - (ad.off + ad.idx * ad.st) - sz) = i by omega] at hz
              exact .inr ⟨.inr (by omega), hz⟩
      · exact h.elim
    · exact h.elim
  · cases hf
theorem Zcb {x : Opd} {off n : Nat} (hf : (AOp.fieldAddr x off n).fits P o.op = true) (he : EnvOk ρ H.next nt e a.tmps) (_hr : Rel w0 fp ρ H w) {Γ} (h : ZaV Γ (.fieldAddr x off n) e H K) : Looks P a o w0 fp ρ H K := by
  simp only [AOp.fits] at hf
  simp only [ZaV] at h
  split at hf
  · rename_i t x' f hop
    rw [Bool.and_eq_true, Bool.and_eq_true] at hf
    obtain ⟨v, h, hok, h3⟩ := Opd.ev_sound hf.1.1 he h
    obtain ⟨⟨_, hfd⟩, hn⟩ := hf
    split at h
    · rename_i ad m
      simp only [SVal.ok] at hok
      unfold ZxA at hfd
      split at hfd
      · rename_i fs hu
        split at hfd
        · rename_i fd hfs
          rw [Bool.and_eq_true] at hfd
          have h1 := Nat.eq_of_beq_eq_true hfd.1
          have h2 := fun w : World => Zbw (w := w) hfd.2
          obtain ⟨⟨b, base⟩, hb⟩ := Option.ne_none_iff_exists'.1 hok.2
          have hn' : n ≠ 0 := by rw [Bool.not_eq_true'] at hn; exact Zbc hn
          simp only [SVal.conc, SAddr.conc, hb, Option.map_some] at h3
          refine ⟨_, h, (by simpa only [SVal.ok] using hok), fun w hr => ?_⟩
          simp [execOp, hop, h3, Instr.fieldAt, run_underlying hu, hfs, Instr.sureAddr, fieldPlace, h2, hn', ZbA, SVal.conc, SAddr.conc, hb, h1]
        · cases hfd
      · cases hfd
    · exact h.elim
  · cases hf
theorem Zfz {x i : Opd} {sz : Nat} (hf : (AOp.idxS x i sz).fits P o.op = true) (he : EnvOk ρ H.next nt e a.tmps) (_hr : Rel w0 fp ρ H w) {Γ} (h : ZaV Γ (.idxS x i sz) e H K) : Looks P a o w0 fp ρ H K := by
  simp only [AOp.fits] at hf
  simp only [ZaV] at h
  split at hf
  · rename_i t x' i' hop
    rw [Bool.and_eq_true, Bool.and_eq_true] at hf
    obtain ⟨p, hp, hok, h3⟩ := Opd.ev_sound hf.1.1 he h
    clear h
    obtain ⟨u, h, huok, h5⟩ := Opd.ev_sound hf.1.2 he hp
    clear hp
    have hs := hf.2
    split at h
    · rename_i ad m cp k n
      obtain ⟨hst, h0, h1, hK⟩ := Zai h
      have hst := Zaq hst
      simp only [SVal.ok] at hok
      unfold Zlp at hs
      split at hs
      · rename_i el hu
        have hne : ρ ad.id ≠ none := fun hn => by have := (hok.2 hn).1; subst this; simp at h1; omega
        obtain ⟨⟨b, base⟩, hb⟩ := Option.ne_none_iff_exists'.1 hne
        simp only [SVal.conc, SAddr.conc, hb, Option.map_some] at h3 h5
        refine ⟨_, hK, (by simp only [SVal.ok]; exact ⟨hok.1, hne⟩), fun w hr => ?_⟩
        have e1 : ad.off + ad.idx * ad.st + n.toNat * sz = ad.off + (ad.idx + n.toNat) * ad.st := by rw [hst, Nat.add_mul]; omega
        simp [execOp, hop, h3, h5, Instr.indexAt, asIntOf, run_underlying hu, h0, h1, Zbw hs, ZbA, SVal.conc, SAddr.conc, hb]
      · cases hs
    · exact h.elim
  · cases hf
theorem ZfA {x i : Opd} {len sz : Nat} (hf : (AOp.idxA x i len sz).fits P o.op = true) (he : EnvOk ρ H.next nt e a.tmps) (_hr : Rel w0 fp ρ H w) {Γ} (h : ZaV Γ (.idxA x i len sz) e H K) : Looks P a o w0 fp ρ H K := by
  simp only [AOp.fits] at hf
  simp only [ZaV] at h
  split at hf
  · rename_i t x' i' hop
    rw [Bool.and_eq_true, Bool.and_eq_true] at hf
    obtain ⟨p, hp, hok, h3⟩ := Opd.ev_sound hf.1.1 he h
    clear h
    obtain ⟨u, h, huok, h5⟩ := Opd.ev_sound hf.1.2 he hp
    clear hp
    have hs := hf.2
    split at h
    · rename_i ad m k n
      obtain ⟨h0, h1, hK⟩ := h
      simp only [SVal.ok] at hok
      unfold ZzD at hs
      split at hs
      · rename_i ln el hu
        rw [Bool.and_eq_true] at hs
        have hln := Nat.eq_of_beq_eq_true hs.1
        subst hln
        obtain ⟨⟨b, base⟩, hb⟩ := Option.ne_none_iff_exists'.1 hok.2
        simp only [SVal.conc, SAddr.conc, hb, Option.map_some] at h3 h5
        refine ⟨_, hK, (by simp only [SVal.ok]; exact hok), fun w hr => ?_⟩
        simp [execOp, hop, h3, h5, Instr.indexAt, asIntOf, run_underlying hu, h0, h1, Zbw hs.2, ZbA, SVal.conc, SAddr.conc, hb, Instr.sureAddr]
      · cases hs
    · exact h.elim
  · cases hf
end
end Go.Sx

namespace Go.Sx
section
variable {P : Program} {a : Act} {o : Oper} {w w0 : World} {fp : Nat -> Nat -> Prop} {ρ : Rho} {H : Heap} {e : Env} {nt : Nat} {K : SVal -> Heap -> Prop}
theorem ZgB {α β : Type} (g : α -> Sem β) (f : α -> β) : ∀ (l : List α), (∀ x ∈ l, (g x).run P w = .ok (f x) w) -> (l.mapM g).run P w = .ok (l.map f) w
  | [], _ => by simp
  | x :: r, h => by
    rw [List.mapM_cons, Sem.run_bind, h x (by simp), Result.andThen_ok, Sem.run_bind, ZgB g f r (fun y hy => h y (by simp [hy]))]
    simp
theorem ZyY {α β : Type} (g : α -> Sem β) (f : α -> β) (xs : Array α) (h : ∀ x ∈ xs.toList, (g x).run P w = .ok (f x) w) : (xs.mapM g).run P w = .ok (xs.map f) w := by
  rw [Array.mapM_eq_mapM_toList, Sem.run_map, ZgB g f xs.toList h, Result.andThen_ok, <- Array.toList_map, Array.toArray_toList]
theorem Ziq (off : Nat) : ∀ (l : List Value) (k : Nat) (cells : Array Value), off + k + l.length <= cells.size ->
    ((l.zipIdx k).foldl (fun cs (p : Value × Nat) => cs.setIfInBounds (off + p.2) p.1) cells).toList = cells.toList.take (off + k) ++ l ++ cells.toList.drop (off + k + l.length)
  | [], k, cells, _ => by simp
  | v :: r, k, cells, h => by
    simp only [List.zipIdx_cons, List.foldl_cons]
    rw [Ziq off r (k + 1) _ (by simp at h ⊢; omega), Array.toList_setIfInBounds]
    simp only [List.length_cons] at h
    have hL : cells.toList.length = cells.size := Array.length_toList
    generalize cells.toList = L at *
    apply List.ext_getElem?
    intro i
    rw [ZcS, ZcS, List.length_take, List.length_take, List.length_set, Nat.min_eq_left (by omega), Nat.min_eq_left (by omega), List.length_cons]
    by_cases h1 : i < off + k
    · rw [if_pos (by omega), if_pos h1, List.getElem?_take_of_lt (by omega), List.getElem?_take_of_lt h1, List.getElem?_set_ne (by omega)]
    · by_cases h2 : i = off + k
      · subst h2
        rw [if_pos (by omega), if_neg (by omega), if_pos (by omega), List.getElem?_take_of_lt (by omega), Nat.sub_self, List.getElem?_set_self (by omega)]
        simp
      · rw [if_neg (by omega), if_neg h1]
        by_cases h3 : i < off + k + (r.length + 1)
        · rw [if_pos (by omega), if_pos h3, show i - (off + k) = i - (off + (k + 1)) + 1 by omega]; simp
        · rw [if_neg (by omega), if_neg h3, List.getElem?_drop, List.getElem?_drop, List.getElem?_set_ne (by omega)]
          congr 1; omega
theorem ZgW (place : Nat -> Option (Nat × Nat)) (cells : Array Value) (i : Nat) (v : Value) (rest : List (Nat × Value)) {off sz : Nat} (hp : place i = some (off, sz)) (hv : v.cells.size = sz) (hle : off + sz <= cells.size) :
    ∃ cells' : Array Value, Instr.fill place cells ((i, v) :: rest) = Instr.fill place cells' rest /\ cells'.toList = cells.toList.take off ++ v.cells.toList ++ cells.toList.drop (off + sz) := by
  refine ⟨v.cells.zipIdx.foldl (fun cs (p : Value × Nat) => cs.setIfInBounds (off + p.2) p.1) cells, ?_, ?_⟩
  · simp only [Instr.fill, hp]
    rw [if_neg (by simp [hv]; omega)]
  · rw [<- Array.foldl_toList, Array.toList_zipIdx]
    have := Ziq off v.cells.toList 0 cells (by simp [hv]; exact hle)
    simp only [Nat.add_zero, Array.length_toList, hv] at this
    exact this
theorem Zh4 {t : TypeId} {place : Nat -> Option (Nat × Nat)} (hplace : ∀ i off sz x y (r : List (Nat × Nat × Opd)) (q : List (Nat × Operand)), Zo8 P t ((off, sz, x) :: r) ((i, y) :: q) = true -> place i = some (off, sz))
    (he : EnvOk ρ H.next nt e a.tmps) : ∀ {ps : List (Nat × Nat × Opd)} {qs : List (Nat × Operand)} {zs : List Chunk} {K : List Chunk -> Prop} {cells : Array Value}, Zo8 P t ps qs = true -> ZlP e ps zs K -> ZaE ρ H.next zs -> cells.toList = Zab ρ zs ->
    ∃ cs cells', K cs /\ ZaE ρ H.next cs /\ Instr.fill place cells (qs.map fun p => (p.1, a.eval p.2)) = some cells' /\ cells'.toList = Zab ρ cs
  | [], [], zs, K, cells, _, h, hok, hc => ⟨zs, cells, h, hok, rfl, hc⟩
  | (off, sz, x) :: r, (i, y) :: q, zs, K, cells, hf, h, hok, hc => by
    have hpl := hplace i off sz x y r q hf
    simp only [Zo8, Bool.and_eq_true] at hf
    simp only [ZlP] at h
    obtain ⟨v, h1, h2, h3⟩ := Opd.ev_sound hf.1.1 he h
    obtain ⟨hsz, h4⟩ := Zai h1
    have hsz := Zaq hsz
    obtain ⟨cs', h5, h6, h7, h8, h9⟩ := ZeP (Zon h2) hsz _ _ _ h4 hok
    rw [Nat.zero_mul, Nat.add_zero] at h8 h9
    have hcs : cells.size = Zam zs := by rw [<- Array.length_toList, hc, Zan]
    have hvs : (v.conc ρ).cells.size = sz := by rw [<- Array.length_toList, Zgs, Zan, hsz]
    obtain ⟨cells1, h10, h11⟩ := ZgW place cells i (v.conc ρ) (q.map fun p => (p.1, a.eval p.2)) hpl hvs (by omega)
    rw [hc, Zgs, <- h9] at h11
    obtain ⟨cs, cells', h12, h13, h14, h15⟩ := Zh4 hplace he hf.2 h5 h6 h11
    exact ⟨cs, cells', h12, h13, by rw [List.map_cons, h3, h10]; exact h14, h15⟩
  | [], _ :: _, _, _, _, hf, _, _, _ => by cases hf
  | _ :: _, [], _, _, _, hf, _, _, _ => by cases hf
theorem ZdH {t : TypeId} {n : Nat} (h : Zc0 P t n = true) : ∃ i, P.info? t = some i /\ i.size = n := by
  unfold Zc0 at h
  split at h
  · rename_i i hi; exact ⟨i, hi, Nat.eq_of_beq_eq_true h⟩
  · cases h
theorem ZeE {zs : List Chunk} {ps : List (Nat × Nat × Opd)} (hf : (AOp.build zs ps).fits P o.op = true) (he : EnvOk ρ H.next nt e a.tmps) (_hr : Rel w0 fp ρ H w) {Γ} (h : ZaV Γ (.build zs ps) e H K) : Looks P a o w0 fp ρ H K := by
  simp only [AOp.fits] at hf
  simp only [ZaV] at h
  split at hf
  · rename_i t parts hop
    rw [Bool.and_eq_true, Bool.and_eq_true] at hf
    obtain ⟨⟨hz, hall⟩, hps⟩ := hf
    obtain ⟨zv, hz1, hz2, hz3⟩ := ZfY hz
    have hz4 := ZbY (ρ := ρ) (n := H.next) hz2
    have hparts : (parts.map fun (p : Nat × Operand) => (p.1, a.eval p.2)).toList = parts.toList.map fun p => (p.1, a.eval p.2) := by simp
    unfold ZsN at hall
    split at hall
    · rename_i fs hu
      let sz : Field -> Nat := fun f => ((P.info? f.type).map (·.size)).getD 0
      have hm := fun w : World => ZyY (P := P) (w := w) (fun f : Field => (do pure (f.offset, <- sizeOf f.type) : Sem (Nat × Nat))) (fun f => (f.offset, sz f)) fs (fun f hf => by
        have := List.all_eq_true.1 hall f hf
        obtain ⟨i, hi⟩ := Option.isSome_iff_exists.1 this
        simp [sizeOf, typeInfo, hi, sz])
      obtain ⟨cs, cells', h1, h2, h3, h4⟩ := Zh4 (P := P) (t := t) (place := ((fs.map fun f => (f.offset, sz f))[·]?)) (fun i off s x y r q hfb => by
        simp only [Zo8, Bool.and_eq_true, hu] at hfb
        have hfb := hfb.1.2
        split at hfb
        · rename_i fd hfd
          rw [Bool.and_eq_true] at hfb
          obtain ⟨inf, hi1, hi2⟩ := ZdH hfb.2
          have := Nat.eq_of_beq_eq_true hfb.1
          simp [hfd, sz, hi1, hi2, this]
        · cases hfb) he hps h hz4.1 (cells := zv.cells) (by rw [hz3, hz4.2])
      refine ⟨_, h1, (by simpa only [SVal.ok] using h2), fun w hr => ?_⟩
      have : cells' = (Zab ρ cs).toArray := by rw [<- h4]
      subst this
      simp only [execOp, hop, Instr.build, Sem.run_bind, hz1, Result.andThen_ok, run_underlying hu, hm, hparts, h3, Sem.run_pure, SVal.conc]
    · rename_i n el hu
      obtain ⟨cs, cells', h1, h2, h3, h4⟩ := Zh4 (P := P) (t := t) (place := fun i => some (i * ((P.info? el).map (·.size)).getD 0, ((P.info? el).map (·.size)).getD 0)) (fun i off s x y r q hfb => by
        simp only [Zo8, Bool.and_eq_true, hu] at hfb
        have hfb := hfb.1.2
        obtain ⟨inf, hi1, hi2⟩ := ZdH hfb.1
        have := Nat.eq_of_beq_eq_true hfb.2
        simp [hi1, hi2, this]) he hps h hz4.1 (cells := zv.cells) (by rw [hz3, hz4.2])
      obtain ⟨inf, hel⟩ := Option.isSome_iff_exists.1 hall
      refine ⟨_, h1, (by simpa only [SVal.ok] using h2), fun w hr => ?_⟩
      have : cells' = (Zab ρ cs).toArray := by rw [<- h4]
      subst this
      simp only [hel, Option.map_some, Option.getD_some] at h3
      simp only [execOp, hop, Instr.build, Sem.run_bind, hz1, Result.andThen_ok, run_underlying hu, sizeOf, typeInfo, run_program, hel, hparts, h3, Sem.run_pure, SVal.conc]
    · cases hall
  · cases hf
theorem ZjP {k : IntKind} {e : Env} {a : Act} (he : EnvOk ρ H.next nt e a.tmps) : ∀ {ps : List (Nat × Opd)} {qs : List (Nat × Operand)} {xs : List Int} {K : List Int -> Prop}, Zxz ps qs = true -> Zof e k ps xs K ->
    ∃ ys, K ys /\ ys.length = xs.length /\ Instr.fill (fun i => some (i * 1, 1)) (xs.map (Value.int k)).toArray (qs.map fun p => (p.1, a.eval p.2)) = some (ys.map (Value.int k)).toArray
  | [], [], xs, K, _, h => ⟨xs, h, rfl, rfl⟩
  | (i, x) :: r, (j, y) :: q, xs, K, hf, h => by
    simp only [Zxz, Bool.and_eq_true] at hf
    have := Nat.eq_of_beq_eq_true hf.1.1
    subst this
    simp only [Zof] at h
    obtain ⟨v, h1, h2, h3⟩ := Opd.ev_sound hf.1.2 he h
    split at h1
    · rename_i k' n
      obtain ⟨h0, h5⟩ := Zai h1
      rw [Bool.and_eq_true] at h0
      obtain rfl := Zb6 h0.1
      have h4 : i < xs.length := Nat.le_of_ble_eq_true h0.2
      obtain ⟨ys, h6, h7, h8⟩ := ZjP he hf.2 h5
      refine ⟨ys, h6, by rw [h7, List.length_set], ?_⟩
      simp only [SVal.conc] at h3
      obtain ⟨cells', h9, h10⟩ := ZgW (fun i => some (i * 1, 1)) (xs.map (Value.int k')).toArray i (.int k' n) (q.map fun p => (p.1, a.eval p.2)) (off := i * 1) (sz := 1) rfl rfl (by simp; omega)
      have : cells' = ((xs.set i n).map (Value.int k')).toArray := by
        rw [<- Array.toArray_toList (xs := cells'), h10, List.map_set, List.set_eq_take_append_cons_drop, if_pos (by simpa using h4)]
        simp [Value.cells]
      rw [List.map_cons, h3, h9, this, h8]
    · exact h1.elim
  | [], _ :: _, _, _, hf, _ => by cases hf
  | _ :: _, [], _, _, hf, _ => by cases hf
theorem Zgw : ∀ n, Zi2 n = List.replicate n 0
  | 0 => rfl
  | n + 1 => by rw [Zi2, Zgw n, List.replicate_succ]
theorem Zd7 {k : IntKind} {n : Nat} {xs : List Int} (h : xs.length = n) : Zap k n xs = xs.map (Value.int k) := by
  apply List.ext_getElem?
  intro i
  rcases Nat.lt_or_ge i n with hi | hi
  · rw [Zaw _ _ _ _ hi]; simp [show i < xs.length by omega]
  · rw [List.getElem?_eq_none (by rw [Zac]; exact hi), List.getElem?_eq_none (by simp; omega)]
theorem ZdI {k : IntKind} {n : Nat} {ps : List (Nat × Opd)} (hf : (AOp.buildI k n ps).fits P o.op = true) (he : EnvOk ρ H.next nt e a.tmps) (_hr : Rel w0 fp ρ H w) {Γ} (h : ZaV Γ (.buildI k n ps) e H K) : Looks P a o w0 fp ρ H K := by
  simp only [AOp.fits] at hf
  simp only [ZaV] at h
  split at hf
  · rename_i t parts hop
    rw [Bool.and_eq_true, Bool.and_eq_true] at hf
    obtain ⟨⟨hz, hps⟩, ht⟩ := hf
    obtain ⟨zv, hz1, hz2, hz3⟩ := ZfY hz
    split at ht
    · rename_i m el hu
      obtain ⟨inf, hi1, hi2⟩ := ZdH ht
      obtain ⟨ys, h1, h2, h3⟩ := ZjP he hps h
      have hys : ys.length = n := by rw [h2, Zgw]; simp
      have hparts : (parts.map fun (p : Nat × Operand) => (p.1, a.eval p.2)).toList = parts.toList.map fun p => (p.1, a.eval p.2) := by simp
      have hzc : zv.cells = ((Zi2 n).map (Value.int k)).toArray := by
        rw [<- Array.toArray_toList (xs := zv.cells), hz3]
        simp only [Zab, Chunk.conc, List.append_nil]
        rw [Zd7 (by rw [Zgw]; simp)]
      refine ⟨_, h1, (by simp [SVal.ok, ZaE, Chunk.ok]), fun w hr => ?_⟩
      simp only [execOp, hop, Instr.build, Sem.run_bind, hz1, Result.andThen_ok, run_underlying hu, sizeOf, typeInfo, run_program, hi1, hi2, hparts, hzc, h3, Sem.run_pure, SVal.conc, Zab, Chunk.conc, List.append_nil, Zd7 hys]
    · cases ht
  · cases hf
theorem Zou {k : IntKind} {n : Nat} {ps : List (Nat × Opd)} (hf : (AOp.bslice k n ps).fits P o.op = true) (he : EnvOk ρ H.next nt e a.tmps) (hr : Rel w0 fp ρ H w) {Γ} (h : ZaV Γ (.bslice k n ps) e H K) : Runs P a o w (OpPost w0 fp ρ H K) := by
  simp only [AOp.fits] at hf
  simp only [ZaV] at h
  split at hf
  · rename_i t n' parts hop
    rw [Bool.and_eq_true, Bool.and_eq_true, Bool.and_eq_true] at hf
    obtain ⟨⟨⟨hn, hle⟩, hps⟩, ht⟩ := hf
    have := Nat.eq_of_beq_eq_true hn
    subst this
    have hle := Nat.le_of_ble_eq_true hle
    split at ht
    · rename_i el hu
      rw [Bool.and_eq_true] at ht
      obtain ⟨inf, hi1, hi2⟩ := ZdH ht.1
      obtain ⟨zv, hz1, hz2, hz3⟩ := ZcC (w := w) ht.2
      rw [Zgw] at h
      obtain ⟨ys, h1, h2, h3⟩ := ZjP he hps h
      have hzc : zv.cells = #[.int k 0] := by
        rw [<- Array.toArray_toList (xs := zv.cells), hz3]; simp [Zab, Chunk.conc, SVal.conc]
      have hparts : (parts.map fun (p : Nat × Operand) => (p.1, a.eval p.2)).toList = parts.toList.map fun p => (p.1, a.eval p.2) := by simp
      have hzz : (Array.range (n * 1)).map (fun x => (#[Value.int k 0] : Array Value)[x % 1]!) = ((List.replicate n (0 : Int)).map (Value.int k)).toArray := by
        apply Array.ext
        · simp
        · intro i h1 h2
          simp [Nat.mod_one]
      have hys : ys.length = n := by simpa using h2
      refine ⟨.slice (some ⟨w.heap.size, 0, none⟩) n n, _, .inl ?_, ⟨ρ.up H.next (some (w.heap.size, 0)), _, _, h1, ?_, ?_, Rho.up_lt, by simp [Heap.push],
        hr.alloc (cells := (ys.map (Value.int k)).toArray) (t := el) (by simp [ZaE, Chunk.ok]) ⟨[], by simp [Zab, Chunk.conc, Zd7 hys], rfl⟩⟩⟩
      · have hsz : (sizeOf el).run P w = .ok 1 w := by simp [sizeOf, typeInfo, hi1, hi2]
        have h16 : ¬ (n * 1 > 2 ^ 24) := by omega
        simp only [execOp, hop, Instr.buildSlice, Sem.run_bind, run_underlying hu, Result.andThen_ok, hsz, if_neg h16]
        by_cases hn0 : n = 0
        · subst hn0
          have : ys = [] := List.eq_nil_of_length_eq_zero hys
          subst this
          simp only [List.replicate_zero, List.map_nil] at h3
          have hz0 : ∀ f : Nat -> Value, (Array.range (0 * 1)).map f = #[] := fun f => by simp
          simp only [Nat.zero_mul, if_true, Sem.run_pure]
          simp only [Nat.zero_mul] at hz0
          simp only [hz0, hparts, h3, newRow, Sem.run_bind, run_newObj, Result.andThen_ok, Sem.run_pure]
          rfl
        · have hn1 : ¬ (n * 1 = 0) := by omega
          simp only [if_neg hn1, Sem.run_bind, hz1, Result.andThen_ok, Sem.run_pure, hzc, List.size_toArray, List.length_singleton, hzz, hparts, h3, newRow, run_newObj]
          rfl
      · simp [SVal.conc, SAddr.conc, Rho.up_same]
      · simp [SVal.ok, Heap.push, Rho.up_same]
    · cases ht
  · cases hf
end
end Go.Sx
