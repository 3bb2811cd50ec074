/- Part of the proof: SxEqT. -/
import Derived.Test.YtinjdimejijabaaSxWorld
import Derived.DeepKeys
set_option linter.unusedVariables false
set_option linter.unusedSimpArgs false
namespace Go.Sx
def isK : Option IntKind -> Value -> Prop
  | some k, v => ∃ n, v = .int k n
  | none, v => ∃ b, v = .bool b
def ZoJ : List (Option IntKind) -> List Value -> Prop
  | [], [] => True
  | k :: l, v :: vs => isK k v /\ ZoJ l vs
  | _, _ => False
theorem Zb7 : ∀ {l : List (Option IntKind)} {vs : List Value}, ZoJ l vs -> vs.length = l.length
  | [], [], _ => rfl
  | _ :: _, _ :: _, h => by simp [Zb7 h.2]
  | [], _ :: _, h => h.elim
  | _ :: _, [], h => h.elim
theorem Zff : ∀ {a b : List (Option IntKind)} {vs : List Value}, ZoJ (a ++ b) vs -> ZoJ a (vs.take a.length) /\ ZoJ b (vs.drop a.length)
  | [], _, _, h => ⟨trivial, h⟩
  | _ :: _, _, [], h => h.elim
  | _ :: a, _, _ :: _, h => by
    have := Zff (a := a) h.2
    exact ⟨⟨h.1, this.1⟩, this.2⟩
theorem ZoI : ∀ {a b : List (Option IntKind)} {us vs : List Value}, ZoJ a us -> ZoJ b vs -> ZoJ (a ++ b) (us ++ vs)
  | [], _, [], _, _, h => h
  | _ :: _, _, _ :: _, _, h, h' => ⟨h.1, ZoI h.2 h'⟩
  | [], _, _ :: _, _, h, _ => h.elim
  | _ :: _, _, [], _, h, _ => h.elim
def ZgT (P : Program) (f : TypeId -> Option (List (Option IntKind))) : Nat -> List Field -> Option (List (Option IntKind))
  | _, [] => some []
  | off, g :: r => if g.name ≠ "_" /\ g.offset = off then (match f g.type with
      | some l => if l.length = P.cellsOf g.type then (match ZgT P f (off + l.length) r with
        | some l' => some (l ++ l')
        | none => none) else none
      | none => none) else none
def ZcA (P : Program) : Nat -> TypeId -> Option (List (Option IntKind))
  | 0, _ => none
  | m + 1, t => match P.underlying t with
    | some (.int k) => some [some k]
    | some .bool => some [none]
    | some (.array n e) => (match ZcA P m e with
      | some l => if l.length = P.cellsOf e then some (List.replicate n l).flatten else none
      | none => none)
    | some (.struct fs) => if P.stoodInHeld t = false then ZgT P (ZcA P m) 0 fs.toList else none
    | _ => none
def ZlN (P : Program) (t : TypeId) : Bool := match P.underlying t with
  | some (.struct _) | some (.array _ _) => true
  | _ => false
def ZmO (P : Program) (t : TypeId) (vs : List Value) : Value := if ZlN P t = true then .agg vs.toArray else vs.getD 0 (.tuple #[])
section
variable {P : Program} (w : World)
theorem ZqK {m : Nat} {t : TypeId} {l : List (Option IntKind)} (h : ZcA P m t = some l) (ha : ZlN P t = false) : ∃ k, l = [k] := by
  cases m with
  | zero => simp [ZcA] at h
  | succ m =>
    simp only [ZcA] at h
    unfold ZlN at ha
    split at h
    · cases h; exact ⟨_, rfl⟩
    · cases h; exact ⟨_, rfl⟩
    · rename_i hu; rw [hu] at ha; cases ha
    · rename_i hu; rw [hu] at ha; cases ha
    · cases h
theorem ZjR {m : Nat} {t : TypeId} {l : List (Option IntKind)} (h : ZcA P m t = some l) : ∃ d i, P.underlying t = some d /\ P.info? t = some i := by
  cases m with
  | zero => simp [ZcA] at h
  | succ m =>
    simp only [ZcA] at h
    cases hu : P.underlying t with
    | none => simp [hu] at h
    | some d =>
      obtain ⟨i, hi⟩ := info_of_underlying hu
      exact ⟨d, i, rfl, hi⟩
theorem Zhl {m : Nat} {t : TypeId} {l : List (Option IntKind)} (hk : ZcA P m t = some l) (hl : l.length = P.cellsOf t) {vs : List Value} {off : Nat} (h : off + l.length <= vs.length) :
    (part t vs.toArray off).run P w = .ok (ZmO P t ((vs.drop off).take l.length)) w := by
  obtain ⟨d, i, hu, hi⟩ := ZjR hk
  have hagg : (isAgg t).run P w = .ok (ZlN P t) w := by
    unfold ZlN isAgg
    rw [Sem.run_bind, run_underlying hu, hu]
    cases d <;> rfl
  unfold part ZmO
  rw [Sem.run_bind, hagg, Result.andThen_ok]
  cases ha : ZlN P t with
  | true =>
    simp only [if_true, Sem.run_bind, run_sizeOf w hi, Result.andThen_ok, Sem.run_pure]
    rw [<- hl]
    congr 2
    apply Array.ext'
    simp [List.extract]
  | false =>
    obtain ⟨k, rfl⟩ := ZqK hk ha
    simp only [List.length_singleton] at h ⊢
    have hlt : off < vs.length := by omega
    simp [List.getElem?_eq_getElem hlt, List.getD_eq_getElem?_getD, List.getElem?_take, List.getElem?_drop]
def EqK (P : Program) (d : Nat) (t : TypeId) (l : List (Option IntKind)) : Prop :=
  ∀ (w : World) (us vs : List Value), ZoJ l us -> ZoJ l vs -> ∃ q : Bool, (Op.equalIn d t (ZmO P t us) (ZmO P t vs)).run P w = .ok q w /\ (q = true ↔ us = vs)
theorem ZpH {d : Nat} {e : TypeId} {m : Nat} {l : List (Option IntKind)} (hk : ZcA P m e = some l) (hl : l.length = P.cellsOf e) (IH : EqK P d e l) : ∀ (n a : Nat) (us vs : List Value), us.length = vs.length -> a * l.length <= us.length -> ZoJ (List.replicate n l).flatten (us.drop (a * l.length)) -> ZoJ (List.replicate n l).flatten (vs.drop (a * l.length)) ->
    ∃ q : Bool, (Op.eqItems d e (P.cellsOf e) us.toArray vs.toArray (List.range' a n)).run P w = .ok q w /\ (q = true ↔ us.drop (a * l.length) = vs.drop (a * l.length))
  | 0, a, us, vs, hlen, hle, h1, h2 => by
    refine ⟨true, by simp [Op.eqItems], ?_⟩
    have e1 := Zb7 h1
    have e2 := Zb7 h2
    simp only [List.replicate_zero, List.flatten_nil, List.length_nil] at e1 e2
    rw [List.eq_nil_of_length_eq_zero e1, List.eq_nil_of_length_eq_zero e2]
    simp
  | n + 1, a, us, vs, hlen, hle, h1, h2 => by
    rw [List.replicate_succ, List.flatten_cons] at h1 h2
    have g1 := Zff h1
    have g2 := Zff h2
    have lu := Zb7 g1.1
    have lv := Zb7 g2.1
    rw [List.length_take, List.length_drop] at lu lv
    have ha1 : (a + 1) * l.length = a * l.length + l.length := by rw [Nat.add_mul, Nat.one_mul]
    obtain ⟨q, hq, hiff⟩ := IH w _ _ g1.1 g2.1
    rw [List.drop_drop, <- ha1] at g1 g2
    obtain ⟨q', hq', hiff'⟩ := ZpH hk hl IH n (a + 1) us vs hlen (by omega) g1.2 g2.2
    have hsplit : us.drop (a * l.length) = vs.drop (a * l.length) ↔ (us.drop (a * l.length)).take l.length = (vs.drop (a * l.length)).take l.length /\ us.drop ((a + 1) * l.length) = vs.drop ((a + 1) * l.length) := by
      rw [ha1, <- List.drop_drop, <- List.drop_drop]
      constructor
      · intro h; rw [h]; exact ⟨rfl, rfl⟩
      · intro ⟨h, h'⟩
        rw [<- List.take_append_drop l.length (us.drop (a * l.length)), h, h', List.take_append_drop]
    rw [List.range'_succ]
    simp only [Op.eqItems, Sem.run_bind]
    rw [<- hl, Zhl w hk hl (by omega), Result.andThen_ok, Zhl w hk hl (by omega), Result.andThen_ok, hq, Result.andThen_ok, hsplit]
    cases q with
    | false => exact ⟨false, by simp, by simp; intro h; exact absurd (hiff.2 h) (by simp)⟩
    | true =>
      refine ⟨q', ?_, by rw [hiff']; simp [hiff.1 rfl]⟩
      rw [hl]
      simpa using hq'
theorem Zmj {d m : Nat} (IH : ∀ t l, ZcA P m t = some l -> EqK P d t l) : ∀ (fs : List Field) (off : Nat) (l : List (Option IntKind)) (us vs : List Value), ZgT P (ZcA P m) off fs = some l -> us.length = vs.length -> off <= us.length -> ZoJ l (us.drop off) -> ZoJ l (vs.drop off) ->
    ∃ q : Bool, (Op.eqFields d us.toArray vs.toArray fs).run P w = .ok q w /\ (q = true ↔ us.drop off = vs.drop off)
  | [], off, l, us, vs, hf, hlen, hle, h1, h2 => by
    simp only [ZgT, Option.some.injEq] at hf
    subst hf
    refine ⟨true, by simp [Op.eqFields], ?_⟩
    have e1 := Zb7 h1
    have e2 := Zb7 h2
    simp only [List.length_nil] at e1 e2
    rw [List.eq_nil_of_length_eq_zero e1, List.eq_nil_of_length_eq_zero e2]
    simp
  | f :: fs, off, l, us, vs, hf, hlen, hle, h1, h2 => by
    simp only [ZgT] at hf
    split at hf
    · rename_i hc
      obtain ⟨hn, rfl⟩ := hc
      split at hf
      · rename_i a ha
        split at hf
        · rename_i hl
          split at hf
          · rename_i b hb
            cases hf
            have g1 := Zff h1
            have g2 := Zff h2
            have lu := Zb7 g1.1
            have lv := Zb7 g2.1
            rw [List.length_take, List.length_drop] at lu lv
            obtain ⟨q, hq, hiff⟩ := IH _ _ ha w _ _ g1.1 g2.1
            rw [List.drop_drop] at g1 g2
            obtain ⟨q', hq', hiff'⟩ := Zmj IH fs (f.offset + a.length) b us vs hb hlen (by omega) g1.2 g2.2
            have hsplit : us.drop f.offset = vs.drop f.offset ↔ (us.drop f.offset).take a.length = (vs.drop f.offset).take a.length /\ us.drop (f.offset + a.length) = vs.drop (f.offset + a.length) := by
              rw [<- List.drop_drop, <- List.drop_drop]
              constructor
              · intro h; rw [h]; exact ⟨rfl, rfl⟩
              · intro ⟨h, h'⟩
                rw [<- List.take_append_drop a.length (us.drop f.offset), h, h', List.take_append_drop]
            simp only [Op.eqFields, hn, ne_eq, not_false_eq_true, if_true, Sem.run_bind]
            rw [Zhl w ha hl (by omega), Result.andThen_ok, Zhl w ha hl (by omega), Result.andThen_ok, hq, Result.andThen_ok, hsplit]
            cases q with
            | false => exact ⟨false, by simp, by simp; intro h; exact absurd (hiff.2 h) (by simp)⟩
            | true => exact ⟨q', by simpa using hq', by rw [hiff']; simp [hiff.1 rfl]⟩
          · cases hf
        · cases hf
      · cases hf
    · cases hf
end
theorem eqK {P : Program} (d : Nat) : ∀ (m : Nat) (t : TypeId) (l : List (Option IntKind)), ZcA P m t = some l -> EqK P (d + m) t l
  | 0, _, _, h => by simp [ZcA] at h
  | m + 1, t, l, h => by
    intro w us vs hu' hv'
    have h0 := h
    simp only [ZcA] at h
    split at h
    · rename_i k hu
      cases h
      match us, vs, hu', hv' with
      | [u], [v], hx, hy =>
        obtain ⟨a, rfl⟩ := hx.1
        obtain ⟨b, rfl⟩ := hy.1
        refine ⟨a == b, ?_, by simp⟩
        have : ZlN P t = false := by simp [ZlN, hu]
        simp only [ZmO, this, Bool.false_eq_true, if_false, List.getD_cons_zero]
        exact run_equalIn_int w (d + m) t k k a b hu
    · rename_i hu
      cases h
      match us, vs, hu', hv' with
      | [u], [v], hx, hy =>
        obtain ⟨a, rfl⟩ := hx.1
        obtain ⟨b, rfl⟩ := hy.1
        refine ⟨a == b, ?_, by simp⟩
        have : ZlN P t = false := by simp [ZlN, hu]
        simp only [ZmO, this, Bool.false_eq_true, if_false, List.getD_cons_zero]
        exact run_equalIn_bool w (d + m) t a b hu
    · rename_i n e hu
      split at h
      · rename_i le he
        split at h
        · rename_i hl
          cases h
          have : ZlN P t = true := by simp [ZlN, hu]
          simp only [ZmO, this, if_true]
          obtain ⟨_, i, _, hi⟩ := ZjR he
          have hlen : us.length = vs.length := by rw [Zb7 hu', Zb7 hv']
          obtain ⟨q, hq, hiff⟩ := ZpH w he hl (eqK d m e le he) n 0 us vs hlen (by omega) (by simpa using hu') (by simpa using hv')
          refine ⟨q, ?_, by simpa using hiff⟩
          rw [show d + (m + 1) = (d + m) + 1 from rfl, run_equalIn_array w (d + m) _ _ hu hi, List.range_eq_range']
          exact hq
        · cases h
      · cases h
    · rename_i fs hu
      split at h
      · rename_i hst
        have : ZlN P t = true := by simp [ZlN, hu]
        simp only [ZmO, this, if_true]
        have hfs : P.fieldsOf t = fs := by simp [Program.fieldsOf, hu]
        have hlen : us.length = vs.length := by rw [Zb7 hu', Zb7 hv']
        obtain ⟨q, hq, hiff⟩ := Zmj w (fun t l ht => eqK d m t l ht) fs.toList 0 l us vs h hlen (by omega) (by simpa using hu') (by simpa using hv')
        refine ⟨q, ?_, by simpa using hiff⟩
        rw [show d + (m + 1) = (d + m) + 1 from rfl, run_equalIn_struct w (d + m) t _ _ (by rw [hfs]; exact hu) hst, hfs]
        exact hq
      · cases h
    · cases h
theorem ZGP {P : Program} {w : World} {m : Nat} (hm : m <= 10000) {t : TypeId} {l : List (Option IntKind)} (h : ZcA P m t = some l) (ha : ZlN P t = true) {us vs : List Value} (hu : ZoJ l us) (hv : ZoJ l vs) :
    ∃ q : Bool, (Op.equal t (.agg us.toArray) (.agg vs.toArray)).run P w = .ok q w /\ (q = true ↔ us = vs) := by
  obtain ⟨q, hq, hiff⟩ := eqK (10000 - m) m t l h w us vs hu hv
  rw [show 10000 - m + m = 10000 by omega] at hq
  simp only [ZmO, ha, if_true] at hq
  exact ⟨q, hq, hiff⟩
end Go.Sx
