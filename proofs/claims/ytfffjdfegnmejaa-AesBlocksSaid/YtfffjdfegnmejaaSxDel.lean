/- Part of the proof: SxDel. -/
import Derived.Test.YtfffjdfegnmejaaSxMap
set_option linter.unusedVariables false
set_option linter.unusedSimpArgs false
namespace Go.Sx
section
variable {P : Program} {a : Act} {o : Oper} {w w0 : World} {fp : Nat -> Nat -> Prop} {ρ : Rho} {H : Heap} {e : Env} {nt : Nat} {K : SVal -> Heap -> Prop}
theorem Zff {α β : Type} (f : α -> List β) (s : Nat) (hf : ∀ x, (f x).length = s) : ∀ (l : List α) (i : Nat), i <= l.length -> (l.drop i).flatMap f = (l.flatMap f).drop (i * s)
  | l, 0, _ => by simp
  | [], i + 1, h => by simp at h
  | x :: l, i + 1, h => by
    have := Zff f s hf l i (by simpa using h)
    simp only [List.drop_succ_cons, List.flatMap_cons, this]
    rw [List.drop_append, hf, List.drop_eq_nil_of_le (as := f x) (by rw [hf, Nat.succ_mul]; omega), List.nil_append, Nat.succ_mul, Nat.add_sub_cancel]
theorem Zfe {α β : Type} (f : α -> List β) (s : Nat) (hf : ∀ x, (f x).length = s) : ∀ (l : List α) (i : Nat), i <= l.length -> (l.take i).flatMap f = (l.flatMap f).take (i * s)
  | l, 0, _ => by simp
  | [], i + 1, h => by simp at h
  | x :: l, i + 1, h => by
    have := Zfe f s hf l i (by simpa using h)
    simp only [List.take_succ_cons, List.flatMap_cons, this]
    rw [List.take_append, hf, List.take_of_length_le (l := f x) (by rw [hf, Nat.succ_mul]; omega), Nat.succ_mul, Nat.add_sub_cancel]
theorem ZnO {sh : List Leaf} {m i n : Nat} {xs : List (Tup sh)} (hx : xs.length = m) (h : i + n <= m) (j : Nat) (v : Value) (hj : (Zal sh n ((xs.drop i).take n))[j]? = some v) : (Zal sh m xs)[i * Zaj sh + j]? = some v := by
  rw [ZaW (by rw [List.length_take, List.length_drop]; omega), Zfe _ (Zaj sh) (fun x => Zau sh x) _ _ (by rw [List.length_drop]; omega), Zff _ (Zaj sh) (fun x => Zau sh x) _ _ (by omega)] at hj
  rw [ZaW hx]
  have hlt : j < n * Zaj sh := by
    have := (List.getElem?_eq_some_iff.1 hj).1
    rw [List.length_take] at this; omega
  rw [List.getElem?_take_of_lt hlt, List.getElem?_drop] at hj
  exact hj
theorem ZkB {sh : List Leaf} {y : SVal} {K : Nat -> List (Tup sh) -> Prop} (hok : y.ok ρ H.next) (h : ZLP H sh y K) : ∃ n ys, K n ys /\ ys.length = n /\
    ((y.conc ρ = .slice none 0 0 /\ n = 0) ∨ ∃ b off c, y.conc ρ = .slice (some ⟨b, off, none⟩) n c /\ ∀ w, Rel w0 fp ρ H w -> ∀ j v, (Zal sh n ys)[j]? = some v -> w.cell? ⟨b, off + j, none⟩ = some v) := by
  unfold ZLP at h
  split at h
  · exact ⟨0, [], h, rfl, .inl ⟨rfl, rfl⟩⟩
  · rename_i ad n c
    simp only [SVal.ok] at hok
    split at h
    · rename_i en hen
      obtain ⟨h0, h⟩ := Zai h
      rw [Bool.and_eq_true] at h0
      have ho0 := Zaq h0.1
      have hi0 := Zaq h0.2
      split at h
      · rename_i sh' m ys hcs
        split at h
        · rename_i hsh
          subst hsh
          obtain ⟨h1, h2, h3⟩ := h
          simp only [ZbQ] at h3
          refine ⟨n, _, h3, by rw [List.length_take, List.length_drop]; omega, ?_⟩
          cases hρ : ρ ad.id with
          | none =>
            have := hok.2 hρ
            left
            exact ⟨by simp [SVal.conc, SAddr.conc, hρ, this.1, this.2], this.1⟩
          | some p =>
            obtain ⟨b, base⟩ := p
            right
            refine ⟨b, base + ad.idx * Zaj sh', c, by simp [SVal.conc, SAddr.conc, hρ, ho0, hi0], fun w hr j v hj => ?_⟩
            have := ZnO h2 h1 j v hj
            have := (hr.ents _ _ hen).cells b base hρ _ _ (by rw [hcs]; simpa [Zab, Chunk.conc] using this)
            rwa [<- Nat.add_assoc] at this
        · exact h.elim
      · exact h.elim
    · exact h.elim
  · exact h.elim
theorem Zie {sh : List Leaf} {m len n : Nat} {xs ys : List (Tup sh)} (hx : xs.length = m) (hy : ys.length = n) (h : len + n <= m) :
    Zal sh m (xs.take len ++ ys ++ xs.drop (len + n)) = (Zal sh m xs).take (len * Zaj sh) ++ Zal sh n ys ++ (Zal sh m xs).drop ((len + n) * Zaj sh) := by
  rw [ZaW (by simp; omega), ZaW hx, ZaW hy, List.flatMap_append, List.flatMap_append, Zfe _ (Zaj sh) (fun x => Zau sh x) _ _ (by omega), Zff _ (Zaj sh) (fun x => Zau sh x) _ _ (by omega)]
theorem Zkq {sh : List Leaf} {x y : Opd} (hf : (AOp.appendIn sh x y).fits P o.op = true) (he : EnvOk ρ H.next nt e a.tmps) (hr : Rel w0 fp ρ H w) {Γ} (h : ZaV Γ (.appendIn sh x y) e H K) : Runs P a o w (OpPost w0 fp ρ H K) := by
  simp only [AOp.fits] at hf
  simp only [ZaV] at h
  split at hf
  · rename_i xs ts hop
    rw [Bool.and_eq_true] at hf
    obtain ⟨u, v, h', hok, hok', h3⟩ := ZcQ hf.1 he h
    clear h
    obtain ⟨t, t', hts, ht, ht'⟩ := Zgy hf.2
    obtain ⟨el, i, z, hu, hi, hs1, hb8, hst1, hz, hzc0, _⟩ := ZcT ht
    have hta : ts = #[t, t'] := by rw [<- Array.toArray_toList (xs := ts), hts]
    obtain ⟨n, ys, h, hyl, hsrc0⟩ := ZkB (w0 := w0) (fp := fp) hok' h'
    clear h'
    have hsrc := ZoP ht' hsrc0 hr
    have hexec : (execOp a.eval o).run P w = ((Builtin.append_ #[t, t'] o.type #[u.conc ρ, v.conc ρ]).run P w).andThen fun v w' => .ok (.value v) w' := by
      simp [execOp, hop, resolve, invoke, builtin, h3, hta]
    split at h
    · rename_i ad len cap
      simp only [SVal.ok] at hok
      split at h
      · rename_i en hen
        obtain ⟨h0, h⟩ := Zai h
        rw [Bool.and_eq_true, Bool.and_eq_true] at h0
        have ho0 := Zaq h0.1.2
        have hi0 := Zaq h0.2
        have hwr := h0.1.1
        split at h
        · rename_i sh' m xs hcs
          split at h
          · rename_i hsh
            subst hsh
            obtain ⟨h1, h2, h4, h6⟩ := h
            simp only [ZbQ] at h6
            cases hρ : ρ ad.id with
            | none =>
              have hlc := hok.2 hρ
              have hn0 : n = 0 := by omega
              obtain ⟨hl0, hc0⟩ := hlc
              subst hn0 hl0 hc0
              have hy0 : ys = [] := List.eq_nil_of_length_eq_zero hyl
              have hnil : Zal sh' 0 ys = [] := by simp [Zal]
              rw [hnil] at hsrc
              have hrun := run_append_nothing (P := P) w t t' o.type el i hu hi none 0 0 (Nat.le_refl _) _ (by rw [hs1]; exact hsrc)
              have hE := (hr.ents _ _ hen).nil hρ
              have hex0 : en.ex = 0 := by simp only [Ent.size] at hE; omega
              have hcs' : (⟨true, [.rows sh' m (xs.take 0 ++ ys ++ xs.drop (0 + 0))], en.ex⟩ : Ent) = en := by
                subst hy0
                simp only [List.take_zero, List.nil_append, Nat.add_zero, List.drop_zero]
                cases en; simp only at hcs hwr; subst hcs hwr; rfl
              refine ⟨_, _, .inl (by rw [hexec]; simp only [SVal.conc, SAddr.conc, hρ, Option.map_none]; rw [hrun]; rfl), ρ, _, _, h6, by simp [SVal.conc, SAddr.conc, hρ], by simp [SVal.ok, hρ, hok.1, Heap.set], fun _ _ => rfl, Nat.le_refl _, ?_⟩
              rw [hcs']
              exact hr.setSame hen
            | some p =>
              obtain ⟨b, base⟩ := p
              have hE := hr.ents _ _ hen
              have huc : SVal.conc ρ (.slice ad len cap) = .slice (some ⟨b, base, none⟩) len cap := by simp [SVal.conc, SAddr.conc, hρ, ho0, hi0]
              have hcc : Zab ρ en.cs = Zal sh' m xs := by rw [hcs]; simp [Zab, Chunk.conc]
              have hlen : Zam en.cs = m * Zaj sh' := by rw [hcs]; simp [Zam, Chunk.len]
              have hle : (len + n) * Zaj sh' <= m * Zaj sh' := Nat.mul_le_mul_right _ h1
              have hadd : (len + n) * Zaj sh' = len * Zaj sh' + n * Zaj sh' := Nat.add_mul _ _ _
              rw [huc] at hexec
              have hrun := run_append_room_src (P := P) w t t' o.type el i hu hi b base len cap (v.conc ρ) n (Zal sh' n ys) (by rw [hs1]; exact hsrc) h2
                (fun j hj => by
                  rw [Zag] at hj
                  obtain ⟨⟨v', hv'⟩, _⟩ := hE.own hwr b base hρ (len * Zaj sh' + j) (by simp only [Ent.size, hlen]; omega)
                  rw [hs1, Nat.add_assoc, hv']; rfl)
                (fun j hj => by
                  rw [Zag] at hj
                  obtain ⟨_, hz'⟩ := hE.own hwr b base hρ (len * Zaj sh' + j) (by simp only [Ent.size, hlen]; omega)
                  rw [hs1, Nat.add_assoc, hz'])
              rw [hs1] at hrun
              refine ⟨_, _, .inl (by rw [hexec, hrun]; rfl), ρ, _, _, h6, by simp [SVal.conc, SAddr.conc, hρ], by simp [SVal.ok, hρ, hok.1, Heap.set], fun _ _ => rfl, Nat.le_refl _,
                hr.store (off := len * Zaj sh') (vs := Zal sh' n ys) hen hwr hρ (by rw [Zag]; simp only [Ent.size, hlen]; omega) (by simp [ZaE, Chunk.ok]) (by simp only [Zam, Chunk.len, Ent.size, hlen, Nat.add_zero]) (fun j v' hj => ?_)⟩
              simp only [Zab, Chunk.conc, List.append_nil] at hj
              rw [Zie h4 hyl h1] at hj
              rw [Zag, hcc]
              have htl : ((Zal sh' m xs).take (len * Zaj sh')).length = len * Zaj sh' := by rw [List.length_take, Zag]; omega
              rcases Nat.lt_or_ge j (len * Zaj sh') with hj1 | hj1
              · right
                rw [List.append_assoc, List.getElem?_append_left (by rw [htl]; exact hj1), List.getElem?_take_of_lt hj1] at hj
                exact ⟨.inl hj1, hj⟩
              · rcases Nat.lt_or_ge j (len * Zaj sh' + n * Zaj sh') with hj2 | hj2
                · left
                  rw [List.append_assoc, List.getElem?_append_right (by rw [htl]; exact hj1), htl, List.getElem?_append_left (by rw [Zag]; omega)] at hj
                  exact ⟨hj1, hj2, hj⟩
                · right
                  rw [List.getElem?_append_right (by rw [List.length_append, htl, Zag]; exact hj2), List.length_append, htl, Zag, List.getElem?_drop] at hj
                  exact ⟨.inr hj2, by rw [<- hj]; congr 1; omega⟩
          · exact h.elim
        · exact h.elim
      · exact h.elim
    · exact h.elim
  · cases hf
theorem Zkg {sh : List Leaf} {x y : Opd} (hf : (AOp.appendFit sh x y).fits P o.op = true) (he : EnvOk ρ H.next nt e a.tmps) (hr : Rel w0 fp ρ H w) {Γ} (h : ZaV Γ (.appendFit sh x y) e H K) : Runs P a o w (OpPost w0 fp ρ H K) := by
  simp only [AOp.fits] at hf
  simp only [ZaV] at h
  split at hf
  · rename_i xs ts hop
    rw [Bool.and_eq_true] at hf
    obtain ⟨u, v, h', hok, hok', h3⟩ := ZcQ hf.1 he h
    clear h
    obtain ⟨t, t', hts, ht, ht'⟩ := Zgy hf.2
    obtain ⟨el, i, z, hu, hi, hs1, hb8, hst1, hz, hzc0, _⟩ := ZcT ht
    have hta : ts = #[t, t'] := by rw [<- Array.toArray_toList (xs := ts), hts]
    obtain ⟨n, ys, h, hyl, hsrc0⟩ := ZsW (w0 := w0) (fp := fp) hst1 hok' h'
    clear h'
    have hsrc := ZoP ht' hsrc0 hr
    have hexec : (execOp a.eval o).run P w = ((Builtin.append_ #[t, t'] o.type #[u.conc ρ, v.conc ρ]).run P w).andThen fun v w' => .ok (.value v) w' := by
      simp [execOp, hop, resolve, invoke, builtin, h3, hta]
    split at h
    · rename_i ad len cap
      simp only [SVal.ok] at hok
      split at h
      · rename_i en hen
        obtain ⟨h0, h⟩ := Zai h
        rw [Bool.and_eq_true, Bool.and_eq_true] at h0
        have ho0 := Zaq h0.1.2
        have hi0 := Zaq h0.2
        have hwr := h0.1.1
        split at h
        · rename_i sh' m xs hcs
          split at h
          · rename_i hsh
            subst hsh
            obtain ⟨h1, h4, h7, h2, h6⟩ := h
            simp only [ZbQ] at h6
            subst h1
            have hlen : Zam en.cs = m * Zaj sh' := by rw [hcs]; simp [Zam, Chunk.len]
            cases hρ : ρ ad.id with
            | none =>
              have hlc := hok.2 hρ
              have hn0 : n = 0 := by omega
              obtain ⟨hl0, hc0⟩ := hlc
              subst hn0 hl0 hc0
              have hy0 : ys = [] := List.eq_nil_of_length_eq_zero hyl
              have hnil : Zal sh' 0 ys = [] := by simp [Zal]
              rw [hnil] at hsrc
              have hrun := run_append_nothing (P := P) w t t' o.type el i hu hi none 0 0 (Nat.le_refl _) _ (by rw [hs1]; exact hsrc)
              have hcs' : (⟨true, [.rows sh' (0 + 0) (xs ++ ys)], en.ex - 0 * Zaj sh'⟩ : Ent) = en := by
                subst hy0
                cases en; simp only at hcs hwr; subst hcs hwr; simp
              refine ⟨_, _, .inl (by rw [hexec]; simp only [SVal.conc, SAddr.conc, hρ, Option.map_none]; rw [hrun]; rfl), ρ, _, _, h6, by simp [SVal.conc, SAddr.conc, hρ], by simp [SVal.ok, hρ, hok.1, Heap.set], fun _ _ => rfl, Nat.le_refl _, ?_⟩
              rw [hcs']
              exact hr.setSame hen
            | some p =>
              obtain ⟨b, base⟩ := p
              have hE := hr.ents _ _ hen
              have huc : SVal.conc ρ (.slice ad m cap) = .slice (some ⟨b, base, none⟩) m cap := by simp [SVal.conc, SAddr.conc, hρ, ho0, hi0]
              have hcc : Zab ρ en.cs = Zal sh' m xs := by rw [hcs]; simp [Zab, Chunk.conc]
              have hadd : (m + n) * Zaj sh' = m * Zaj sh' + n * Zaj sh' := Nat.add_mul _ _ _
              rw [huc] at hexec
              have hrun := run_append_room_src (P := P) w t t' o.type el i hu hi b base m cap (v.conc ρ) n (Zal sh' n ys) (by rw [hs1]; exact hsrc) h2
                (fun j hj => by
                  rw [Zag] at hj
                  obtain ⟨⟨v', hv'⟩, _⟩ := hE.own hwr b base hρ (m * Zaj sh' + j) (by simp only [Ent.size, hlen]; omega)
                  rw [hs1, Nat.add_assoc, hv']; rfl)
                (fun j hj => by
                  rw [Zag] at hj
                  obtain ⟨_, hz'⟩ := hE.own hwr b base hρ (m * Zaj sh' + j) (by simp only [Ent.size, hlen]; omega)
                  rw [hs1, Nat.add_assoc, hz'])
              rw [hs1] at hrun
              refine ⟨_, _, .inl (by rw [hexec, hrun]; rfl), ρ, _, _, h6, by simp [SVal.conc, SAddr.conc, hρ], by simp [SVal.ok, hρ, hok.1, Heap.set], fun _ _ => rfl, Nat.le_refl _,
                hr.store (off := m * Zaj sh') (vs := Zal sh' n ys) hen hwr hρ (by rw [Zag]; simp only [Ent.size, hlen]; omega) (by simp [ZaE, Chunk.ok]) (by simp only [Zam, Chunk.len, Ent.size, hlen, Nat.add_zero]; omega) (fun j v' hj => ?_)⟩
              simp only [Zab, Chunk.conc, List.append_nil] at hj
              rw [Zc1 h4 hyl] at hj
              rw [Zag, hcc]
              rcases Nat.lt_or_ge j (m * Zaj sh') with hj1 | hj1
              · right
                rw [List.getElem?_append_left (by rw [Zag]; exact hj1)] at hj
                exact ⟨.inl hj1, hj⟩
              · left
                rw [List.getElem?_append_right (by rw [Zag]; exact hj1), Zag] at hj
                have := (List.getElem?_eq_some_iff.1 hj).1
                rw [Zag] at this
                exact ⟨hj1, by omega, hj⟩
          · exact h.elim
        · exact h.elim
      · exact h.elim
    · exact h.elim
  · cases hf
theorem Zol {sh : List Leaf} {x : Opd} (hf : (AOp.clearR sh x).fits P o.op = true) (he : EnvOk ρ H.next nt e a.tmps) (hr : Rel w0 fp ρ H w) {Γ} (h : ZaV Γ (.clearR sh x) e H K) : Runs P a o w (OpPost w0 fp ρ H K) := by
  simp only [AOp.fits] at hf
  simp only [ZaV] at h
  split at hf
  · rename_i x' ts hop
    rw [Bool.and_eq_true] at hf
    obtain ⟨hx, ht⟩ := hf
    obtain ⟨v, g, hok, h3⟩ := ZgI hx he h
    clear h
    split at ht
    · rename_i t hts
      obtain ⟨el, i, z, hu, hi, hs1, hb8, hst1, hz, hzc0, _⟩ := ZcT ht
      have hzl : z.cells.size = Zaj sh := by rw [<- Array.length_toList, hzc0, Zau]
      have hexec : ∀ (w : World) (u : Value), x'.map a.eval = #[u] -> (execOp a.eval o).run P w = ((Builtin.clear_ ts o.type #[u]).run P w).andThen fun v w' => .ok (.value v) w' := by
        intro w u hu'
        simp [execOp, hop, resolve, invoke, builtin, hu']
      split at g
      · rename_i ad len cap
        simp only [SVal.ok] at hok
        split at g
        · rename_i en hen
          obtain ⟨h0, g1⟩ := Zai g
          clear g
          rw [Bool.and_eq_true, Bool.and_eq_true] at h0
          have ho0 := Zaq h0.1.2
          have hi0 := Zaq h0.2
          have hwr := h0.1.1
          split at g1
          · rename_i sh' m xs hcs
            split at g1
            · rename_i hsh
              subst hsh
              obtain ⟨h1, h2, h6⟩ := g1
              have hlen : Zam en.cs = m * Zaj sh' := by rw [hcs]; simp [Zam, Chunk.len]
              have hcc : Zab ρ en.cs = Zal sh' m xs := by rw [hcs]; simp [Zab, Chunk.conc]
              have hm : ad.idx * Zaj sh' + len * Zaj sh' <= m * Zaj sh' := by rw [<- Nat.add_mul]; exact Nat.mul_le_mul_right _ h1
              have hE := hr.ents _ _ hen
              have hzs : (Builtin.zeroCells z.cells len).toList = Zal sh' len (List.replicate len (Tup.dflt sh')) := by
                rw [Zlu]
                apply List.ext_getElem?
                intro j
                rw [Zfd _ (by rw [Zau]; omega), Zau]
                unfold Builtin.zeroCells
                simp only [Array.toList_map, Array.toList_range, List.getElem?_map, hzl]
                rcases Nat.lt_or_ge j (len * Zaj sh') with hj | hj
                · have hmm : j % Zaj sh' < Zaj sh' := Nat.mod_lt _ (by omega)
                  rw [if_pos hj, List.getElem?_range hj, <- hzc0, Array.getElem?_toList]
                  simp [hzl, hmm]
                · rw [if_neg (by omega), List.getElem?_eq_none (by simp; omega)]; rfl
              have hset : (⟨true, [.rows sh' m (xs.take ad.idx ++ List.replicate 0 (Tup.dflt sh') ++ xs.drop (ad.idx + 0))], en.ex⟩ : Ent) = en := by
                cases en
                simp only at hcs hwr
                subst hcs hwr
                simp
              rcases Nat.eq_zero_or_pos len with hl0 | hlp
              · have hrun : (Builtin.clear_ ts o.type #[SVal.conc ρ (.slice ad len cap)]).run P w = .ok (.tuple #[]) w := by
                  subst hl0
                  simp only [SVal.conc]
                  cases hc : ad.conc ρ <;> simp [Builtin.clear_, hts, run_underlying hu]
                refine ⟨_, _, .inl (by rw [hexec _ _ h3, hrun]; rfl), ρ, _, _, h6, by simp [SVal.conc, ZaH], by simp [SVal.ok, okL], fun _ _ => rfl, Nat.le_refl _, ?_⟩
                subst hl0
                rw [hset]
                exact hr.setSame hen
              · cases hρ : ρ ad.id with
                | none => have := hok.2 hρ; omega
                | some p =>
                  obtain ⟨b, base⟩ := p
                  have hac : ad.conc ρ = some ⟨b, base + ad.idx * Zaj sh', none⟩ := by simp [SAddr.conc, hρ, ho0, hi0]
                  have hst := run_storeCells_cells (P := P) b (base + ad.idx * Zaj sh') (Builtin.zeroCells z.cells len).toList 0 w
                    (fun j hj => by
                      rw [hzs, Zag] at hj
                      obtain ⟨⟨v', hv'⟩, _⟩ := hE.own hwr b base hρ (ad.idx * Zaj sh' + j) (by simp only [Ent.size, hlen]; omega)
                      rw [Nat.add_zero, Nat.add_assoc, hv']; rfl)
                    (fun j hj => by
                      rw [hzs, Zag] at hj
                      obtain ⟨_, hz'⟩ := hE.own hwr b base hρ (ad.idx * Zaj sh' + j) (by simp only [Ent.size, hlen]; omega)
                      rw [Nat.add_zero, Nat.add_assoc, hz'])
                    (fun v hv => by rw [hzs] at hv; exact Zid _ hv)
                  rw [Nat.add_zero] at hst
                  have hzv : (zeroValue el).run P w = .ok z w := by simp [zeroValue, typeInfo, hi, hz]
                  have hrun : (Builtin.clear_ ts o.type #[SVal.conc ρ (.slice ad len cap)]).run P w = .ok (.tuple #[]) (w.setCells b (base + ad.idx * Zaj sh') (Builtin.zeroCells z.cells len).toList) := by
                    simp only [SVal.conc, hac]
                    obtain ⟨l', rfl⟩ : ∃ l', len = l' + 1 := ⟨len - 1, by omega⟩
                    simp [Builtin.clear_, hts, run_underlying hu, hzv, hst]
                  rw [hzs] at hrun
                  refine ⟨_, _, .inl (by rw [hexec _ _ h3, hrun]; rfl), ρ, _, _, h6, by simp [SVal.conc, ZaH], by simp [SVal.ok, okL], fun _ _ => rfl, Nat.le_refl _,
                    hr.store (off := ad.idx * Zaj sh') (vs := Zal sh' len (List.replicate len (Tup.dflt sh'))) hen hwr hρ (by rw [Zag]; simp only [Ent.size, hlen]; omega) (by simp [ZaE, Chunk.ok]) (by simp only [Zam, Chunk.len, Ent.size, hlen, Nat.add_zero]) (fun j v' hj => ?_)⟩
                  simp only [Zab, Chunk.conc, List.append_nil] at hj
                  rw [Zie h2 (by simp) h1, Nat.add_mul] at hj
                  rw [Zag, hcc]
                  have htl : ((Zal sh' m xs).take (ad.idx * Zaj sh')).length = ad.idx * Zaj sh' := by rw [List.length_take, Zag]; omega
                  rcases Nat.lt_or_ge j (ad.idx * Zaj sh') with hj1 | hj1
                  · right
                    rw [List.append_assoc, List.getElem?_append_left (by rw [htl]; exact hj1), List.getElem?_take_of_lt hj1] at hj
                    exact ⟨.inl hj1, hj⟩
                  · rcases Nat.lt_or_ge j (ad.idx * Zaj sh' + len * Zaj sh') with hj2 | hj2
                    · left
                      rw [List.append_assoc, List.getElem?_append_right (by rw [htl]; exact hj1), htl, List.getElem?_append_left (by rw [Zag]; omega)] at hj
                      exact ⟨hj1, hj2, hj⟩
                    · right
                      rw [List.getElem?_append_right (by rw [List.length_append, htl, Zag]; exact hj2), List.length_append, htl, Zag, List.getElem?_drop] at hj
                      exact ⟨.inr hj2, by rw [<- hj]; congr 1; omega⟩
            · exact g1.elim
          · exact g1.elim
        · exact g.elim
      · exact g.elim
    · cases ht
  · cases hf
end
end Go.Sx
