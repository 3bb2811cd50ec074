/- Part of the proof: SxMap. -/
import Derived.Test.YtfffjdfegnmejaaSxAppR
set_option linter.unusedVariables false
set_option linter.unusedSimpArgs false
namespace Go.Sx
theorem mem_map_int {k : IntKind} {m : Int} {keys : List Int} : Value.int k m ∈ keys.map (fun x => Value.int k x) ↔ m ∈ keys := by
  simp
theorem ZsZ {P : Program} {w : World} {t kt et : TypeId} {k : IntKind} {b : Nat} {es : Array MapEntry} {cl : Nat} {m : Int} {keys : List Int} {v : Value} (hm : P.underlying t = some (.map kt et)) (hd : P.underlying kt = some (.int k))
    (hb : w.heap[b]? = some (.map es cl)) (hk : es.toList.map (·.key) = keys.map (fun x => .int k x)) :
    ∃ es' cl', (Instr.mapUpdate t (.map (some b)) (.int k m) v).run P w = .ok () { w with heap := w.heap.setIfInBounds b (.map es' cl') } /\ es'.toList.map (·.key) = (ZsO m keys).map (fun x => .int k x) := by
  have hks : ∀ x ∈ es.toList, MapKept.IsKey (.int k) x.key := fun x hx => by
    have : x.key ∈ es.toList.map (·.key) := List.mem_map.2 ⟨x, hx, rfl⟩
    rw [hk] at this
    obtain ⟨y, _, hy⟩ := List.mem_map.1 this
    rw [<- hy]; exact rfl
  have hkey : MapKept.IsKey (.int k) (.int k m) := rfl
  rcases MapKept.findNow_spec hkey es.toList 0 hks with ⟨h1, h2⟩ | ⟨j, e, h1, h2, h3⟩
  · refine ⟨es.push ⟨.int k m, v, cl⟩, cl + 1, by simp [Instr.mapUpdate, run_underlying hm, MapKept.run_getObj_map hb, MapKept.run_checkKey hd hkey, MapKept.run_findKey hd h1, MapKept.run_setObj_map _ hb, Result.andThen], ?_⟩
    have hn : m ∉ keys := fun hmem => by
      have : Value.int k m ∈ es.toList.map (·.key) := by rw [hk]; exact mem_map_int.2 hmem
      obtain ⟨x, hx, hxe⟩ := List.mem_map.1 this
      exact h2 x hx hxe
    simp [ZsO, if_neg hn, hk]
  · have hj : es[j]? = some e := by simpa using h2
    refine ⟨es.modify j fun e => { e with key := .int k m, val := v }, cl, by simp [Instr.mapUpdate, run_underlying hm, MapKept.run_getObj_map hb, MapKept.run_checkKey hd hkey, MapKept.run_findKey hd h1, hj, h3, MapKept.run_keyThatStays hkey, MapKept.run_setObj_map _ hb, Result.andThen], ?_⟩
    have hmem : m ∈ keys := by
      have : Value.int k m ∈ es.toList.map (·.key) := List.mem_map.2 ⟨e, List.mem_of_getElem? h2, h3⟩
      rw [hk] at this; exact mem_map_int.1 this
    rw [ZsO, if_pos hmem, <- hk]
    apply List.ext_getElem?
    intro i
    simp only [List.getElem?_map, Array.getElem?_toList, Array.getElem?_modify]
    split
    · rename_i hij
      subst hij
      rw [hj]
      simp [h3]
    · rfl
section
variable {P : Program} {a : Act} {o : Oper} {w w0 : World} {fp : Nat -> Nat -> Prop} {ρ : Rho} {H : Heap} {e : Env} {nt : Nat} {K : SVal -> Heap -> Prop}
theorem ZlA {z : List Chunk} (hf : (AOp.makeMap z).fits P o.op = true) (_he : EnvOk ρ H.next nt e a.tmps) (hr : Rel w0 fp ρ H w) {Γ} (h : ZaV Γ (.makeMap z) e H K) : Runs P a o w (OpPost w0 fp ρ H K) := by
  simp only [AOp.fits] at hf
  simp only [ZaV] at h
  split at hf
  · rename_i t hop
    have hz : Zam z = 0 /\ Zb5 z = [] /\ (∀ ρ n, ZaE ρ n z) /\ ∀ vs, Zcn z = some vs -> vs = [] := by
      split at hf
      · have := Zaq hf; subst this; simp [Zam, Chunk.len, Zb5, ZaE, Chunk.ok, Zcn]
      · have := Zaq hf; subst this; simp [Zam, Chunk.len, Zb5, ZaE, Chunk.ok, Zcn]
      · rw [Bool.and_eq_true] at hf; have h1 := Zaq hf.1; have h2 := Zaq hf.2; subst h1; subst h2; simp [Zam, Chunk.len, Zb5, ZaE, Chunk.ok, Zcn]
      · cases hf
    refine ⟨.map (some w.heap.size), _, .inl ?_, ρ.up H.next (some (w.heap.size, 0)), _, _, h, ?_, ?_, Rho.up_lt, ?_, hr.newMap hz.1 (hz.2.2.1 _ _) hz.2.1 hz.2.2.2⟩
    · simp [execOp, hop, Instr.makeMap]
    · simp [SVal.conc, Rho.up_same]
    · simp [SVal.ok, Rho.up_same, Heap.push]
    · simp [Heap.push]
  · cases hf
theorem Zr2 (hr : Rel w0 fp ρ H w) {id : Nat} {en : Ent} (hok : id < H.next /\ ρ id ≠ none) (hen : H.find id = some en) (hwr : en.wr = false) (hex : en.ex = 1) :
    ∃ b base, ρ id = some (b, base) /\ MapAt w b en.cs := by
  obtain ⟨⟨b, base⟩, hb⟩ := Option.ne_none_iff_exists'.1 hok.2
  exact ⟨b, base, hb, (hr.ents _ _ hen).mp hwr hex b base hb⟩
theorem Zn0 {k : IntKind} {x y v : Opd} (hf : (AOp.mapUpd k x y v).fits P o.op = true) (he : EnvOk ρ H.next nt e a.tmps) (hr : Rel w0 fp ρ H w) {Γ} (h : ZaV Γ (.mapUpd k x y v) e H K) : Runs P a o w (OpPost w0 fp ρ H K) := by
  simp only [AOp.fits] at hf
  simp only [ZaV] at h
  split at hf
  · rename_i t x' y' v' hop
    simp only [Bool.and_eq_true] at hf
    obtain ⟨p, g1, hok, h3⟩ := Opd.ev_sound hf.1.1.1 he h
    clear h
    obtain ⟨q, g2, hqo, h4⟩ := Opd.ev_sound hf.1.1.2 he g1
    clear g1
    obtain ⟨u, h, huo, h5⟩ := Opd.ev_sound hf.1.2 he g2
    clear g2
    have hmk := hf.2
    unfold ZEp at hmk
    split at hmk
    · rename_i kt et hu
      have hd : P.underlying kt = some (.int k) := by
        unfold Zxt at hmk
        split at hmk
        · rename_i k' hk'; rw [hk', of_decide_eq_true hmk]
        · cases hmk
      split at h
      · rename_i id k' m
        simp only [SVal.ok] at hok
        split at h
        · rename_i en hen
          obtain ⟨h0, h⟩ := Zai h
          simp only [Bool.and_eq_true, Bool.not_eq_true'] at h0
          obtain ⟨⟨⟨hwr, hex⟩, hone⟩, hk⟩ := h0
          have hex := Zaq hex
          obtain rfl := Zb6 hk
          split at h
          · rename_i k2 n keys hcs
            obtain ⟨h0, h⟩ := Zai h
            obtain rfl := Zb6 h0
            obtain ⟨b, base, hb, es, cl, hm, hks⟩ := Zr2 hr hok hen hwr hex
            rw [hcs] at hks
            obtain ⟨es', cl', hrun, hks'⟩ := ZsZ (P := P) (m := m) (v := u.conc ρ) hu hd hm hks.1
            have hl : Zam en.cs = 0 := by
              rcases hr.ro _ _ hen with h | h | h
              · rw [hwr] at h; cases h
              · omega
              · exact h.2
            refine ⟨undef, _, .inr ⟨?_, rfl⟩, ρ, _, _, h, rfl, by simp [SVal.ok, okL], fun _ _ => rfl, Nat.le_refl _,
              hr.setMap (es := es') (cl := cl') hen hwr hex hb hone (by rw [hcs] at hl; simpa [Zam, Chunk.len] using hl) (by simp [ZaE, Chunk.ok]) hks' (fun vs h => by simp [Zcn] at h)⟩
            simp only [SVal.conc, hb, Option.map_some] at h3 h4
            simp [execOp, hop, h3, h4, h5, hrun]
          · exact h.elim
        · exact h.elim
      · exact h.elim
    · cases hmk
  · cases hf
theorem Zdl {x : Opd} (hf : (AOp.mapLen x).fits P o.op = true) (he : EnvOk ρ H.next nt e a.tmps) (hr : Rel w0 fp ρ H w) {Γ} (h : ZaV Γ (.mapLen x) e H K) : Looks P a o w0 fp ρ H K := by
  simp only [AOp.fits] at hf
  simp only [ZaV] at h
  split at hf
  · rename_i x' ts hop
    rw [Bool.and_eq_true] at hf
    obtain ⟨hx, ht⟩ := hf
    obtain ⟨v, h, hok, h3⟩ := ZgI hx he h
    split at ht
    · rename_i t hts
      split at ht
      · rename_i hu
        have hexec : ∀ (w : World) (u : Value), x'.map a.eval = #[u] -> (execOp a.eval o).run P w = ((Builtin.len_ ts o.type #[u]).run P w).andThen fun v w' => .ok (.value v) w' := by
          intro w u hu'
          simp [execOp, hop, resolve, invoke, builtin, hu']
        split at h
        · rename_i id
          simp only [SVal.ok] at hok
          split at h
          · rename_i en hen
            obtain ⟨h0, h⟩ := Zai h
            simp only [Bool.and_eq_true, Bool.not_eq_true'] at h0
            have hex := Zaq h0.2
            split at h
            · rename_i k n keys hcs
              refine ⟨_, h, by simp [SVal.ok], fun w hr => ?_⟩
              obtain ⟨b, base, hb, es, cl, hm, hks⟩ := Zr2 hr hok hen h0.1 hex
              rw [hcs] at hks
              have hsz : es.size = keys.length := by
                have := congrArg List.length hks.1
                simpa [Zb5] using this
              simp only [SVal.conc, hb, Option.map_some] at h3
              rw [hexec _ _ h3]
              simp [Builtin.len_, hts, run_underlying hu, MapKept.run_getObj_map hm, SVal.conc, goInt, hsz]
            · rename_i n keys k2 k3 hcs
              refine ⟨_, h, by simp [SVal.ok], fun w hr => ?_⟩
              obtain ⟨b, base, hb, es, cl, hm, hks⟩ := Zr2 hr hok hen h0.1 hex
              rw [hcs] at hks
              have hsz : es.size = keys.length := by
                have := congrArg List.length hks.1
                simpa [Zb5] using this
              simp only [SVal.conc, hb, Option.map_some] at h3
              rw [hexec _ _ h3]
              simp [Builtin.len_, hts, run_underlying hu, MapKept.run_getObj_map hm, SVal.conc, goInt, hsz]
            · exact h.elim
          · exact h.elim
        · exact h.elim
      · cases ht
    · cases ht
  · cases hf
def KV (es : List MapEntry) (kvs : List (Int × Int)) : Prop := es.map (fun e => (e.key, e.val)) = kvs.map (fun p => (Value.int .i64 p.1, Value.int .i64 p.2))
theorem KV.of {es : List MapEntry} {kvs : List (Int × Int)} (h1 : es.map (·.key) = kvs.map (fun p => Value.int .i64 p.1)) (h2 : es.map (·.val) = kvs.map (fun p => Value.int .i64 p.2)) : KV es kvs := by
  unfold KV
  induction es generalizing kvs with
  | nil => cases kvs with
    | nil => rfl
    | cons p r => simp at h1
  | cons e es ih => cases kvs with
    | nil => simp at h1
    | cons p r =>
      simp only [List.map_cons, List.cons.injEq] at h1 h2 ⊢
      exact ⟨by rw [h1.1, h2.1], ih h1.2 h2.2⟩
theorem KV.keys {es : List MapEntry} {kvs : List (Int × Int)} (h : KV es kvs) : es.map (·.key) = kvs.map (fun p => Value.int .i64 p.1) := by
  have := congrArg (List.map Prod.fst) h
  simpa [Function.comp_def] using this
theorem KV.vals {es : List MapEntry} {kvs : List (Int × Int)} (h : KV es kvs) : es.map (·.val) = kvs.map (fun p => Value.int .i64 p.2) := by
  have := congrArg (List.map Prod.snd) h
  simpa [Function.comp_def] using this
theorem ZfD {m : Int} : ∀ {es : List MapEntry} {kvs : List (Int × Int)} (i : Nat), KV es kvs ->
    Instr.findNow (.int .i64) (.int .i64 m) es i = some ((Zyu m kvs).map fun j => (i + j, Value.int .i64 (kvs.getD j (0, 0)).2))
  | [], kvs, i, h => by
    cases kvs with
    | nil => rfl
    | cons p r => simp [KV] at h
  | e :: es, kvs, i, h => by
    cases kvs with
    | nil => simp [KV] at h
    | cons p r =>
      simp only [KV, List.map_cons, List.cons.injEq, Prod.mk.injEq] at h
      obtain ⟨⟨h1, h2⟩, h3⟩ := h
      have ih := ZfD (m := m) (kvs := r) (i + 1) h3
      unfold Instr.findNow
      rw [h1]
      simp only [Instr.sameNow, if_true]
      unfold Zyu at ih ⊢
      rw [List.findIdx?_cons]
      by_cases hm : m = p.1
      · subst hm
        simp [h2]
      · have hb : (m == p.1) = false := by simpa using hm
        simp only [hb, Bool.false_eq_true, if_false]
        rw [ih]
        cases List.findIdx? (fun p => m == p.1) r with
        | none => rfl
        | some j => simp; omega
theorem Zyg {m : Int} {kvs : List (Int × Int)} {j : Nat} (h : Zyu m kvs = some j) : j < kvs.length /\ (kvs.getD j (0, 0)).1 = m := by
  unfold Zyu at h
  obtain ⟨h1, h2, _⟩ := List.findIdx?_eq_some_iff_getElem.1 h
  refine ⟨h1, ?_⟩
  rw [List.getD_eq_getElem?_getD, List.getElem?_eq_getElem h1]
  simpa using (beq_iff_eq.1 h2).symm
theorem KV.len {es : List MapEntry} {kvs : List (Int × Int)} (h : KV es kvs) : es.length = kvs.length := by simpa using congrArg List.length h
theorem KV.set {es : List MapEntry} {kvs : List (Int × Int)} (h : KV es kvs) (j : Nat) (f : MapEntry -> MapEntry) (m n : Int) (hf : ∀ e, (f e).key = .int .i64 m /\ (f e).val = .int .i64 n) : KV (es.modify j f) (kvs.set j (m, n)) := by
  unfold KV at *
  apply List.ext_getElem?
  intro i
  have hi := congrArg (·[i]?) h
  simp only [List.getElem?_map] at hi
  rw [List.getElem?_map, List.getElem?_map, List.getElem?_modify, List.getElem?_set]
  by_cases hij : j = i
  · subst hij
    simp only [if_true]
    cases he : es[j]? with
    | none =>
      rw [he] at hi
      cases hk : kvs[j]? with
      | none => rw [List.getElem?_eq_none_iff] at hk; simp [Nat.not_lt.2 hk]
      | some p => rw [hk] at hi; cases hi
    | some e =>
      rw [he] at hi
      cases hk : kvs[j]? with
      | none => rw [hk] at hi; cases hi
      | some p =>
        have := (List.getElem?_eq_some_iff.1 hk).1
        simp [this, (hf e).1, (hf e).2]
  · simp only [if_neg hij]
    simpa using hi
theorem KV.erase {es : List MapEntry} {kvs : List (Int × Int)} (h : KV es kvs) (j : Nat) : KV (es.eraseIdx j) (kvs.eraseIdx j) := by
  unfold KV at *
  rw [List.eraseIdx_eq_take_drop_succ, List.eraseIdx_eq_take_drop_succ, List.map_append, List.map_append, List.map_take, List.map_take, List.map_drop, List.map_drop, h]
theorem ZEr {id : Nat} {kvs : List (Int × Int)} {zs : List Int} (hr : Rel w0 fp ρ H w) (hok : id < H.next /\ ρ id ≠ none) (hen : H.find id = some ⟨false, [.rows [.int .i64, .int .i64] 0 kvs, .ints .i64 0 zs], 1⟩) :
    ∃ b base es cl, ρ id = some (b, base) /\ w.heap[b]? = some (.map es cl) /\ KV es.toList kvs := by
  obtain ⟨b, base, hb, es, cl, hm, h1, h2⟩ := Zr2 hr hok hen rfl rfl
  exact ⟨b, base, es, cl, hb, hm, KV.of h1 (h2 _ rfl)⟩
theorem Zjy {t : TypeId} (h : ZEp P t .i64 = true) : ∃ kt et, P.underlying t = some (.map kt et) /\ P.underlying kt = some (.int .i64) := by
  unfold ZEp at h
  split at h
  · rename_i kt et hu
    unfold Zxt at h
    split at h
    · rename_i k' hk'; exact ⟨kt, et, hu, by rw [hk', of_decide_eq_true h]⟩
    · cases h
  · cases h
theorem Zn1 {x y v : Opd} (hf : (AOp.mapUpV x y v).fits P o.op = true) (he : EnvOk ρ H.next nt e a.tmps) (hr : Rel w0 fp ρ H w) {Γ} (h : ZaV Γ (.mapUpV x y v) e H K) : Runs P a o w (OpPost w0 fp ρ H K) := by
  simp only [AOp.fits] at hf
  simp only [ZaV] at h
  split at hf
  · rename_i t x' y' v' hop
    simp only [Bool.and_eq_true] at hf
    obtain ⟨p, g1, hok, h3⟩ := Opd.ev_sound hf.1.1.1 he h
    clear h
    obtain ⟨q, g2, hqo, h4⟩ := Opd.ev_sound hf.1.1.2 he g1
    clear g1
    obtain ⟨u, h, huo, h5⟩ := Opd.ev_sound hf.1.2 he g2
    clear g2
    obtain ⟨kt, et, hu, hd⟩ := Zjy hf.2
    cases p with
    | map id => cases q with
      | int k1 m => cases u with
        | int k2 n =>
          simp only [SVal.ok] at hok
          dsimp only at h
          split at h
          · rename_i kvs zs hen
            obtain ⟨h0, hK⟩ := Zai h
            clear h
            simp only [Bool.and_eq_true] at h0
            obtain rfl := Zb6 h0.1.2
            obtain rfl := Zb6 h0.2
            obtain ⟨b, base, es, cl, hb, hm, hkv⟩ := ZEr hr hok hen
            have hkey : MapKept.IsKey (.int .i64) (.int .i64 m) := rfl
            have hfn := ZfD (m := m) 0 hkv
            simp only [SVal.conc, hb, Option.map_some] at h3 h4 h5
            have key : ∃ es' cl', (Instr.mapUpdate t (.map (some b)) (.int .i64 m) (.int .i64 n)).run P w = .ok () { w with heap := w.heap.setIfInBounds b (.map es' cl') } /\ KV es'.toList (ZyM m n kvs) := by
              cases ha : Zyu m kvs with
              | none =>
                rw [ha] at hfn
                refine ⟨es.push ⟨.int .i64 m, .int .i64 n, cl⟩, cl + 1, by simp [Instr.mapUpdate, run_underlying hu, MapKept.run_getObj_map hm, MapKept.run_checkKey hd hkey, MapKept.run_findKey hd hfn, MapKept.run_setObj_map _ hm, Result.andThen], ?_⟩
                unfold ZyM
                rw [ha]
                have := hkv
                unfold KV at this ⊢
                simp only [Array.toList_push, List.map_append, this]
                rfl
              | some j =>
                rw [ha] at hfn
                obtain ⟨hj, hj1⟩ := Zyg ha
                have hlt : j < es.size := by have := hkv.len; simp at this; omega
                have hje : es[j]? = some es[j] := Array.getElem?_eq_getElem hlt
                have hjk : es[j].key = .int .i64 m := by
                  have := congrArg (·[j]?) hkv.keys
                  simp only [List.getElem?_map, Array.getElem?_toList, hje, Option.map_some] at this
                  rw [List.getElem?_eq_getElem hj] at this
                  simp only [Option.map_some, Option.some.injEq] at this
                  rw [this]
                  rw [List.getD_eq_getElem?_getD, List.getElem?_eq_getElem hj] at hj1
                  simp only [Option.getD_some] at hj1
                  rw [hj1]
                simp only [Option.map_some, Nat.zero_add] at hfn
                refine ⟨es.modify j fun e => { e with key := .int .i64 m, val := .int .i64 n }, cl, by simp [Instr.mapUpdate, run_underlying hu, MapKept.run_getObj_map hm, MapKept.run_checkKey hd hkey, MapKept.run_findKey hd hfn, hje, hjk, MapKept.run_keyThatStays hkey, MapKept.run_setObj_map _ hm, Result.andThen], ?_⟩
                unfold ZyM
                rw [ha, Array.toList_modify]
                exact hkv.set j _ m n fun e => ⟨rfl, rfl⟩
            obtain ⟨es', cl', hrun, hkv'⟩ := key
            refine ⟨undef, _, .inr ⟨?_, rfl⟩, ρ, _, _, hK, rfl, by simp [SVal.ok, okL], fun _ _ => rfl, Nat.le_refl _,
              hr.setMap (es := es') (cl := cl') hen rfl rfl hb h0.1.1 rfl ⟨trivial, trivial, trivial⟩ hkv'.keys (fun vs hvs => by cases hvs; exact hkv'.vals)⟩
            simp [execOp, hop, h3, h4, h5, hrun]
          · exact False.elim h
        | _ => exact False.elim h
      | _ => first | exact False.elim h | (cases u <;> exact False.elim h)
    | _ => first | exact False.elim h | (cases q <;> first | exact False.elim h | (cases u <;> exact False.elim h))
  · cases hf
theorem Zn2 {x y : Opd} (hf : (AOp.mapDel x y).fits P o.op = true) (he : EnvOk ρ H.next nt e a.tmps) (hr : Rel w0 fp ρ H w) {Γ} (h : ZaV Γ (.mapDel x y) e H K) : Runs P a o w (OpPost w0 fp ρ H K) := by
  simp only [AOp.fits] at hf
  simp only [ZaV] at h
  split at hf
  · rename_i xs ts hop
    rw [Bool.and_eq_true] at hf
    obtain ⟨p, q, h', hok, hqo, h3⟩ := ZcQ hf.1 he h
    clear h
    have ht := hf.2
    split at ht
    · rename_i t t2 hts
      obtain ⟨kt, et, hu, hd⟩ := Zjy ht
      have hta : ts = #[t, t2] := by rw [<- Array.toArray_toList (xs := ts), hts]
      cases p with
      | map id => cases q with
        | int k1 m =>
          simp only [SVal.ok] at hok
          dsimp only at h'
          split at h'
          · rename_i kvs zs hen
            obtain ⟨h0, hK⟩ := Zai h'
            clear h'
            simp only [Bool.and_eq_true] at h0
            obtain rfl := Zb6 h0.2
            obtain ⟨b, base, es, cl, hb, hm, hkv⟩ := ZEr hr hok hen
            have hkey : MapKept.IsKey (.int .i64) (.int .i64 m) := rfl
            have hfn := ZfD (m := m) 0 hkv
            simp only [SVal.conc, hb, Option.map_some] at h3
            have key : ∃ es', (Builtin.delete_ #[t, t2] o.type #[.map (some b), .int .i64 m]).run P w = .ok (.tuple #[]) { w with heap := w.heap.setIfInBounds b (.map es' cl) } /\ KV es'.toList (Zzu m kvs) := by
              cases ha : Zyu m kvs with
              | none =>
                rw [ha] at hfn
                refine ⟨es, by simp [Builtin.delete_, run_underlying hu, MapKept.run_getObj_map hm, MapKept.run_checkKey hd hkey, MapKept.run_findKey hd hfn, MapKept.run_setObj_map _ hm, Result.andThen], ?_⟩
                unfold Zzu
                rw [ha]
                exact hkv
              | some j =>
                rw [ha] at hfn
                obtain ⟨hj, hj1⟩ := Zyg ha
                have hlt : j < es.size := by have := hkv.len; simp at this; omega
                simp only [Option.map_some, Nat.zero_add] at hfn
                refine ⟨es.eraseIdxIfInBounds j, by simp [Builtin.delete_, run_underlying hu, MapKept.run_getObj_map hm, MapKept.run_checkKey hd hkey, MapKept.run_findKey hd hfn, MapKept.run_setObj_map _ hm, Result.andThen], ?_⟩
                unfold Zzu
                rw [ha]
                have e1 : (es.eraseIdxIfInBounds j).toList = es.toList.eraseIdx j := by
                  unfold Array.eraseIdxIfInBounds
                  rw [dif_pos hlt]
                  simp
                rw [e1]
                exact hkv.erase j
            obtain ⟨es', hrun, hkv'⟩ := key
            refine ⟨_, _, .inl (by simp [execOp, hop, resolve, invoke, builtin, h3, hta, hrun]; rfl), ρ, _, _, hK, rfl, by simp [SVal.ok, okL], fun _ _ => rfl, Nat.le_refl _,
              hr.setMap (es := es') (cl := cl) hen rfl rfl hb h0.1 rfl ⟨trivial, trivial, trivial⟩ hkv'.keys (fun vs hvs => by cases hvs; exact hkv'.vals)⟩
          · exact False.elim h'
        | _ => exact False.elim h'
      | _ => first | exact False.elim h' | (cases q <;> exact False.elim h')
    · cases ht
  · cases hf
theorem ZvA {t kt et : TypeId} {k : IntKind} (hu : P.underlying t = some (.map kt et)) (h : ZMU P t k = true) : ∀ w : World, (zeroValue et).run P w = .ok (.int k 0) w := by
  unfold ZMU at h
  rw [hu] at h
  simp only at h
  split at h
  · rename_i i hi
    split at h
    · rename_i v hv
      have := ZcZ h
      simp only [List.cons.injEq, and_true] at this
      subst this
      intro w
      simp [zeroValue, typeInfo, hi, hv]
    · cases h
  · cases h
theorem Zdm {x y : Opd} (hf : (AOp.mapGet x y).fits P o.op = true) (he : EnvOk ρ H.next nt e a.tmps) (hr : Rel w0 fp ρ H w) {Γ} (h : ZaV Γ (.mapGet x y) e H K) : Looks P a o w0 fp ρ H K := by
  simp only [AOp.fits] at hf
  simp only [ZaV] at h
  split at hf
  · rename_i t x' y' hop
    simp only [Bool.and_eq_true] at hf
    obtain ⟨p, g1, hok, h3⟩ := Opd.ev_sound hf.1.1.1 he h
    clear h
    obtain ⟨q, h, hqo, h4⟩ := Opd.ev_sound hf.1.1.2 he g1
    clear g1
    obtain ⟨kt, et, hu, hd⟩ := Zjy hf.1.2
    have hv := hf.2
    have hz := ZvA hu hv
    cases p with
    | map id => cases q with
      | int k1 m =>
        simp only [SVal.ok] at hok
        dsimp only at h
        split at h
        · rename_i kvs zs hen
          obtain ⟨h0, h⟩ := Zai h
          obtain rfl := Zb6 h0
          refine ⟨_, h, by simp [SVal.ok], fun w hr => ?_⟩
          obtain ⟨b, base, es, cl, hb, hm, hkv⟩ := ZEr hr hok hen
          have hkey : MapKept.IsKey (.int .i64) (.int .i64 m) := rfl
          have hfn := ZfD (m := m) 0 hkv
          simp only [SVal.conc, hb, Option.map_some] at h3 h4
          cases ha : Zyu m kvs with
          | none =>
            rw [ha] at hfn
            have hg : Zxx m kvs = 0 := by unfold Zxx; rw [ha]
            rw [hg]
            simp [execOp, hop, h3, h4, Instr.lookup, run_underlying hu, MapKept.run_getObj_map hm, MapKept.run_checkKey hd hkey, MapKept.run_findKey hd hfn, hz w, Result.andThen, SVal.conc]
          | some j =>
            rw [ha] at hfn
            simp only [Option.map_some, Nat.zero_add] at hfn
            have hg : Zxx m kvs = (kvs.getD j (0, 0)).2 := by unfold Zxx; rw [ha]
            rw [hg]
            simp [execOp, hop, h3, h4, Instr.lookup, run_underlying hu, MapKept.run_getObj_map hm, MapKept.run_checkKey hd hkey, MapKept.run_findKey hd hfn, Result.andThen, SVal.conc]
        · exact False.elim h
      | _ => exact False.elim h
    | _ => first | exact False.elim h | (cases q <;> exact False.elim h)
  · cases hf
end
end Go.Sx
