/- Part of the proof: SxMap. -/
import Derived.Test.YtinjdimejijabaaSxAppR
set_option linter.unusedVariables false
set_option linter.unusedSimpArgs false
namespace Go.Sx
theorem mem_map_int {k : IntKind} {m : Int} {keys : List Int} : Value.int k m ∈ keys.map (fun x => Value.int k x) ↔ m ∈ keys := by
  simp
theorem Zm4 {P : Program} {w : World} {t kt et : TypeId} {k : IntKind} {b : Nat} {es : Array MapEntry} {cl : Nat} {m : Int} {keys : List Int} {v : Value} (hm : P.underlying t = some (.map kt et)) (hd : P.underlying kt = some (.int k))
    (hb : w.heap[b]? = some (.map es cl)) (hk : es.toList.map (·.key) = keys.map (fun x => .int k x)) :
    ∃ es' cl', (Instr.mapUpdate t (.map (some b)) (.int k m) v).run P w = .ok () { w with heap := w.heap.setIfInBounds b (.map es' cl') } /\ es'.toList.map (·.key) = (ZmS m keys).map (fun x => .int k x) := by
  have hks : ∀ x ∈ es.toList, MapKept.IsKey (.int k) x.key := fun x hx => by
    have : x.key ∈ es.toList.map (·.key) := List.mem_map.2 ⟨x, hx, rfl⟩
    rw [hk] at this
    obtain ⟨y, _, hy⟩ := List.mem_map.1 this
    rw [<- hy]; exact rfl
  have hkey : MapKept.IsKey (.int k) (.int k m) := rfl
  rcases MapKept.findNow_spec hkey es.toList 0 hks with ⟨h1, h2⟩ | ⟨j, e, h1, h2, h3⟩
  · refine ⟨es.push ⟨.int k m, v, cl⟩, cl + 1, by simp [Instr.mapUpdate, run_underlying hm, MapKept.run_getObj_map hb, MapKept.run_checkKey hd hkey, MapKept.run_findKey hd h1, MapKept.run_setObj_map _ hb, Result.andThen], ?_⟩
    have hn : m ∉ keys := fun hmem => by
      have : Value.int k m ∈ es.toList.map (·.key) := by rw [hk]; exact mem_map_int.2 hmem
      obtain ⟨x, hx, hxe⟩ := List.mem_map.1 this
      exact h2 x hx hxe
    simp [ZmS, if_neg hn, hk]
  · have hj : es[j]? = some e := by simpa using h2
    refine ⟨es.modify j fun e => { e with key := .int k m, val := v }, cl, by simp [Instr.mapUpdate, run_underlying hm, MapKept.run_getObj_map hb, MapKept.run_checkKey hd hkey, MapKept.run_findKey hd h1, hj, h3, MapKept.run_keyThatStays hkey, MapKept.run_setObj_map _ hb, Result.andThen], ?_⟩
    have hmem : m ∈ keys := by
      have : Value.int k m ∈ es.toList.map (·.key) := List.mem_map.2 ⟨e, List.mem_of_getElem? h2, h3⟩
      rw [hk] at this; exact mem_map_int.1 this
    rw [ZmS, if_pos hmem, <- hk]
    apply List.ext_getElem?
    intro i
    simp only [List.getElem?_map, Array.getElem?_toList, Array.getElem?_modify]
    split
    · rename_i hij
      subst hij
      rw [hj]
      simp [h3]
    · rfl
section
variable {P : Program} {a : Act} {o : Oper} {w w0 : World} {fp : Nat -> Nat -> Prop} {ρ : Rho} {H : Heap} {e : Env} {nt : Nat} {K : SVal -> Heap -> Prop}
theorem Zir {z : List Chunk} (hf : (AOp.makeMap z).fits P o.op = true) (_he : EnvOk ρ H.next nt e a.tmps) (hr : Rel w0 fp ρ H w) {Γ} (h : Za3 Γ (.makeMap z) e H K) : Runs P a o w (OpPost w0 fp ρ H K) := by
  simp only [AOp.fits] at hf
  simp only [Za3] at h
  split at hf
  · rename_i t hop
    have hz : Zai z = 0 /\ ZbV z = [] /\ ∀ ρ n, ZaM ρ n z := by
      split at hf
      · have := Zas hf; subst this; simp [Zai, Chunk.len, ZbV, ZaM, Chunk.ok]
      · have := Zas hf; subst this; simp [Zai, Chunk.len, ZbV, ZaM, Chunk.ok]
      · cases hf
    refine ⟨.map (some w.heap.size), _, .inl ?_, ρ.up H.next (some (w.heap.size, 0)), _, _, h, ?_, ?_, Rho.up_lt, ?_, hr.newMap hz.1 (hz.2.2 _ _) hz.2.1⟩
    · simp [execOp, hop, Instr.makeMap]
    · simp [SVal.conc, Rho.up_same]
    · simp [SVal.ok, Rho.up_same, Heap.push]
    · simp [Heap.push]
  · cases hf
theorem Zqo (hr : Rel w0 fp ρ H w) {id : Nat} {en : Ent} (hok : id < H.next /\ ρ id ≠ none) (hen : H.find id = some en) (hwr : en.wr = false) (hex : en.ex = 1) :
    ∃ b base, ρ id = some (b, base) /\ MapAt w b en.cs := by
  obtain ⟨⟨b, base⟩, hb⟩ := Option.ne_none_iff_exists'.1 hok.2
  exact ⟨b, base, hb, (hr.ents _ _ hen).mp hwr hex b base hb⟩
theorem ZjW {k : IntKind} {x y v : Opd} (hf : (AOp.mapUpd k x y v).fits P o.op = true) (he : EnvOk ρ H.next nt e a.tmps) (hr : Rel w0 fp ρ H w) {Γ} (h : Za3 Γ (.mapUpd k x y v) e H K) : Runs P a o w (OpPost w0 fp ρ H K) := by
  simp only [AOp.fits] at hf
  simp only [Za3] at h
  split at hf
  · rename_i t x' y' v' hop
    simp only [Bool.and_eq_true] at hf
    obtain ⟨p, g1, hok, h3⟩ := Opd.ev_sound hf.1.1.1 he h
    clear h
    obtain ⟨q, g2, hqo, h4⟩ := Opd.ev_sound hf.1.1.2 he g1
    clear g1
    obtain ⟨u, h, huo, h5⟩ := Opd.ev_sound hf.1.2 he g2
    clear g2
    have hmk := hf.2
    unfold Zzb at hmk
    split at hmk
    · rename_i kt et hu
      have hd : P.underlying kt = some (.int k) := by
        unfold Zxh at hmk
        split at hmk
        · rename_i k' hk'; rw [hk', of_decide_eq_true hmk]
        · cases hmk
      split at h
      · rename_i id k' m
        simp only [SVal.ok] at hok
        split at h
        · rename_i en hen
          obtain ⟨h0, h⟩ := Zaj h
          simp only [Bool.and_eq_true, Bool.not_eq_true'] at h0
          obtain ⟨⟨⟨hwr, hex⟩, hone⟩, hk⟩ := h0
          have hex := Zas hex
          obtain rfl := ZcH hk
          split at h
          · rename_i k2 n keys hcs
            obtain ⟨h0, h⟩ := Zaj h
            obtain rfl := ZcH h0
            obtain ⟨b, base, hb, es, cl, hm, hks⟩ := Zqo hr hok hen hwr hex
            rw [hcs] at hks
            obtain ⟨es', cl', hrun, hks'⟩ := Zm4 (P := P) (m := m) (v := u.conc ρ) hu hd hm hks
            have hl : Zai en.cs = 0 := by
              rcases hr.ro _ _ hen with h | h | h
              · rw [hwr] at h; cases h
              · omega
              · exact h.2
            refine ⟨undef, _, .inr ⟨?_, rfl⟩, ρ, _, _, h, rfl, by simp [SVal.ok, okL], fun _ _ => rfl, Nat.le_refl _,
              hr.setMap (es := es') (cl := cl') hen hwr hex hb hone (by rw [hcs] at hl; simpa [Zai, Chunk.len] using hl) (by simp [ZaM, Chunk.ok]) hks'⟩
            simp only [SVal.conc, hb, Option.map_some] at h3 h4
            simp [execOp, hop, h3, h4, h5, hrun]
          · exact h.elim
        · exact h.elim
      · exact h.elim
    · cases hmk
  · cases hf
theorem ZcE {x : Opd} (hf : (AOp.mapLen x).fits P o.op = true) (he : EnvOk ρ H.next nt e a.tmps) (hr : Rel w0 fp ρ H w) {Γ} (h : Za3 Γ (.mapLen x) e H K) : Looks P a o w0 fp ρ H K := by
  simp only [AOp.fits] at hf
  simp only [Za3] at h
  split at hf
  · rename_i x' ts hop
    rw [Bool.and_eq_true] at hf
    obtain ⟨hx, ht⟩ := hf
    obtain ⟨v, h, hok, h3⟩ := ZgM hx he h
    split at ht
    · rename_i t hts
      split at ht
      · rename_i hu
        have hexec : ∀ (w : World) (u : Value), x'.map a.eval = #[u] -> (execOp a.eval o).run P w = ((Builtin.len_ ts o.type #[u]).run P w).andThen fun v w' => .ok (.value v) w' := by
          intro w u hu'
          simp [execOp, hop, resolve, invoke, builtin, hu']
        split at h
        · rename_i id
          simp only [SVal.ok] at hok
          split at h
          · rename_i en hen
            obtain ⟨h0, h⟩ := Zaj h
            simp only [Bool.and_eq_true, Bool.not_eq_true'] at h0
            have hex := Zas h0.2
            split at h
            · rename_i k n keys hcs
              refine ⟨_, h, by simp [SVal.ok], fun w hr => ?_⟩
              obtain ⟨b, base, hb, es, cl, hm, hks⟩ := Zqo hr hok hen h0.1 hex
              rw [hcs] at hks
              have hsz : es.size = keys.length := by
                have := congrArg List.length hks
                simpa [ZbV] using this
              simp only [SVal.conc, hb, Option.map_some] at h3
              rw [hexec _ _ h3]
              simp [Builtin.len_, hts, run_underlying hu, MapKept.run_getObj_map hm, SVal.conc, goInt, hsz]
            · exact h.elim
          · exact h.elim
        · exact h.elim
      · cases ht
    · cases ht
  · cases hf
end
end Go.Sx
