/- Part of the proof: SxEqT. -/
import Derived.Test.YtfffjdfegnmejaaSxWorld
import Derived.DeepKeys
set_option linter.unusedVariables false
set_option linter.unusedSimpArgs false
namespace Go.Sx
def isK : Option IntKind -> Value -> Prop
  | some k, v => ∃ n, v = .int k n
  | none, v => ∃ b, v = .bool b
def Znm : List (Option IntKind) -> List Value -> Prop
  | [], [] => True
  | k :: l, v :: vs => isK k v /\ Znm l vs
  | _, _ => False
theorem ZaT : ∀ {l : List (Option IntKind)} {vs : List Value}, Znm l vs -> vs.length = l.length
  | [], [], _ => rfl
  | _ :: _, _ :: _, h => by simp [ZaT h.2]
  | [], _ :: _, h => h.elim
  | _ :: _, [], h => h.elim
theorem Zde : ∀ {a b : List (Option IntKind)} {vs : List Value}, Znm (a ++ b) vs -> Znm a (vs.take a.length) /\ Znm b (vs.drop a.length)
  | [], _, _, h => ⟨trivial, h⟩
  | _ :: _, _, [], h => h.elim
  | _ :: a, _, _ :: _, h => by
    have := Zde (a := a) h.2
    exact ⟨⟨h.1, this.1⟩, this.2⟩
theorem Znl : ∀ {a b : List (Option IntKind)} {us vs : List Value}, Znm a us -> Znm b vs -> Znm (a ++ b) (us ++ vs)
  | [], _, [], _, _, h => h
  | _ :: _, _, _ :: _, _, h, h' => ⟨h.1, Znl h.2 h'⟩
  | [], _, _ :: _, _, h, _ => h.elim
  | _ :: _, _, [], _, h, _ => h.elim
def Ze6 (P : Program) (f : TypeId -> Option (List (Option IntKind))) : Nat -> List Field -> Option (List (Option IntKind))
  | _, [] => some []
  | off, g :: r => if g.name ≠ "_" /\ g.offset = off then (match f g.type with
      | some l => if l.length = P.cellsOf g.type then (match Ze6 P f (off + l.length) r with
        | some l' => some (l ++ l')
        | none => none) else none
      | none => none) else none
def Za5 (P : Program) : Nat -> TypeId -> Option (List (Option IntKind))
  | 0, _ => none
  | m + 1, t => match P.underlying t with
    | some (.int k) => some [some k]
    | some .bool => some [none]
    | some (.array n e) => (match Za5 P m e with
      | some l => if l.length = P.cellsOf e then some (List.replicate n l).flatten else none
      | none => none)
    | some (.struct fs) => if P.stoodInHeld t = false then Ze6 P (Za5 P m) 0 fs.toList else none
    | _ => none
def Znn (P : Program) (t : TypeId) : Bool := match P.underlying t with
  | some (.struct _) | some (.array _ _) => true
  | _ => false
def Zlk (P : Program) (t : TypeId) (vs : List Value) : Value := if Znn P t = true then .agg vs.toArray else vs.getD 0 (.tuple #[])
section
variable {P : Program} (w : World)
theorem ZoZ {m : Nat} {t : TypeId} {l : List (Option IntKind)} (h : Za5 P m t = some l) (ha : Znn P t = false) : ∃ k, l = [k] := by
  cases m with
  | zero => simp [Za5] at h
  | succ m =>
    simp only [Za5] at h
    unfold Znn at ha
    split at h
    · cases h; exact ⟨_, rfl⟩
    · cases h; exact ⟨_, rfl⟩
    · rename_i hu; rw [hu] at ha; cases ha
    · rename_i hu; rw [hu] at ha; cases ha
    · cases h
theorem Zin {m : Nat} {t : TypeId} {l : List (Option IntKind)} (h : Za5 P m t = some l) : ∃ d i, P.underlying t = some d /\ P.info? t = some i := by
  cases m with
  | zero => simp [Za5] at h
  | succ m =>
    simp only [Za5] at h
    cases hu : P.underlying t with
    | none => simp [hu] at h
    | some d =>
      obtain ⟨i, hi⟩ := info_of_underlying hu
      exact ⟨d, i, rfl, hi⟩
theorem Zfu {m : Nat} {t : TypeId} {l : List (Option IntKind)} (hk : Za5 P m t = some l) (hl : l.length = P.cellsOf t) {vs : List Value} {off : Nat} (h : off + l.length <= vs.length) :
    (part t vs.toArray off).run P w = .ok (Zlk P t ((vs.drop off).take l.length)) w := by
  obtain ⟨d, i, hu, hi⟩ := Zin hk
  have hagg : (isAgg t).run P w = .ok (Znn P t) w := by
    unfold Znn isAgg
    rw [Sem.run_bind, run_underlying hu, hu]
    cases d <;> rfl
  unfold part Zlk
  rw [Sem.run_bind, hagg, Result.andThen_ok]
  cases ha : Znn P t with
  | true =>
    simp only [if_true, Sem.run_bind, run_sizeOf w hi, Result.andThen_ok, Sem.run_pure]
    rw [<- hl]
    congr 2
    apply Array.ext'
    simp [List.extract]
  | false =>
    obtain ⟨k, rfl⟩ := ZoZ hk ha
    simp only [List.length_singleton] at h ⊢
    have hlt : off < vs.length := by omega
    simp [List.getElem?_eq_getElem hlt, List.getD_eq_getElem?_getD, List.getElem?_take, List.getElem?_drop]
def EqK (P : Program) (d : Nat) (t : TypeId) (l : List (Option IntKind)) : Prop :=
  ∀ (w : World) (us vs : List Value), Znm l us -> Znm l vs -> ∃ q : Bool, (Op.equalIn d t (Zlk P t us) (Zlk P t vs)).run P w = .ok q w /\ (q = true ↔ us = vs)
theorem Zog {d : Nat} {e : TypeId} {m : Nat} {l : List (Option IntKind)} (hk : Za5 P m e = some l) (hl : l.length = P.cellsOf e) (IH : EqK P d e l) : ∀ (n a : Nat) (us vs : List Value), us.length = vs.length -> a * l.length <= us.length -> Znm (List.replicate n l).flatten (us.drop (a * l.length)) -> Znm (List.replicate n l).flatten (vs.drop (a * l.length)) ->
    ∃ q : Bool, (Op.eqItems d e (P.cellsOf e) us.toArray vs.toArray (List.range' a n)).run P w = .ok q w /\ (q = true ↔ us.drop (a * l.length) = vs.drop (a * l.length))
  | 0, a, us, vs, hlen, hle, h1, h2 => by
    refine ⟨true, by simp [Op.eqItems], ?_⟩
    have e1 := ZaT h1
    have e2 := ZaT h2
    simp only [List.replicate_zero, List.flatten_nil, List.length_nil] at e1 e2
    rw [List.eq_nil_of_length_eq_zero e1, List.eq_nil_of_length_eq_zero e2]
    simp
  | n + 1, a, us, vs, hlen, hle, h1, h2 => by
    rw [List.replicate_succ, List.flatten_cons] at h1 h2
    have g1 := Zde h1
    have g2 := Zde h2
    have lu := ZaT g1.1
    have lv := ZaT g2.1
    rw [List.length_take, List.length_drop] at lu lv
    have ha1 : (a + 1) * l.length = a * l.length + l.length := by rw [Nat.add_mul, Nat.one_mul]
    obtain ⟨q, hq, hiff⟩ := IH w _ _ g1.1 g2.1
    rw [List.drop_drop, <- ha1] at g1 g2
    obtain ⟨q', hq', hiff'⟩ := Zog hk hl IH n (a + 1) us vs hlen (by omega) g1.2 g2.2
    have hsplit : us.drop (a * l.length) = vs.drop (a * l.length) ↔ (us.drop (a * l.length)).take l.length = (vs.drop (a * l.length)).take l.length /\ us.drop ((a + 1) * l.length) = vs.drop ((a + 1) * l.length) := by
      rw [ha1, <- List.drop_drop, <- List.drop_drop]
      constructor
      · intro h; rw [h]; exact ⟨rfl, rfl⟩
      · intro ⟨h, h'⟩
        rw [<- List.take_append_drop l.length (us.drop (a * l.length)), h, h', List.take_append_drop]
    rw [List.range'_succ]
    simp only [Op.eqItems, Sem.run_bind]
    rw [<- hl, Zfu w hk hl (by omega), Result.andThen_ok, Zfu w hk hl (by omega), Result.andThen_ok, hq, Result.andThen_ok, hsplit]
    cases q with
    | false => exact ⟨false, by simp, by simp; intro h; exact absurd (hiff.2 h) (by simp)⟩
    | true =>
      refine ⟨q', ?_, by rw [hiff']; simp [hiff.1 rfl]⟩
      rw [hl]
      simpa using hq'
theorem ZkX {d m : Nat} (IH : ∀ t l, Za5 P m t = some l -> EqK P d t l) : ∀ (fs : List Field) (off : Nat) (l : List (Option IntKind)) (us vs : List Value), Ze6 P (Za5 P m) off fs = some l -> us.length = vs.length -> off <= us.length -> Znm l (us.drop off) -> Znm l (vs.drop off) ->
    ∃ q : Bool, (Op.eqFields d us.toArray vs.toArray fs).run P w = .ok q w /\ (q = true ↔ us.drop off = vs.drop off)
  | [], off, l, us, vs, hf, hlen, hle, h1, h2 => by
    simp only [Ze6, Option.some.injEq] at hf
    subst hf
    refine ⟨true, by simp [Op.eqFields], ?_⟩
    have e1 := ZaT h1
    have e2 := ZaT h2
    simp only [List.length_nil] at e1 e2
    rw [List.eq_nil_of_length_eq_zero e1, List.eq_nil_of_length_eq_zero e2]
    simp
  | f :: fs, off, l, us, vs, hf, hlen, hle, h1, h2 => by
    simp only [Ze6] at hf
    split at hf
    · rename_i hc
      obtain ⟨hn, rfl⟩ := hc
      split at hf
      · rename_i a ha
        split at hf
        · rename_i hl
          split at hf
          · rename_i b hb
            cases hf
            have g1 := Zde h1
            have g2 := Zde h2
            have lu := ZaT g1.1
            have lv := ZaT g2.1
            rw [List.length_take, List.length_drop] at lu lv
            obtain ⟨q, hq, hiff⟩ := IH _ _ ha w _ _ g1.1 g2.1
            rw [List.drop_drop] at g1 g2
            obtain ⟨q', hq', hiff'⟩ := ZkX IH fs (f.offset + a.length) b us vs hb hlen (by omega) g1.2 g2.2
            have hsplit : us.drop f.offset = vs.drop f.offset ↔ (us.drop f.offset).take a.length = (vs.drop f.offset).take a.length /\ us.drop (f.offset + a.length) = vs.drop (f.offset + a.length) := by
              rw [<- List.drop_drop, <- List.drop_drop]
              constructor
              · intro h; rw [h]; exact ⟨rfl, rfl⟩
              · intro ⟨h, h'⟩
                rw [<- List.take_append_drop a.length (us.drop f.offset), h, h', List.take_append_drop]
            simp only [Op.eqFields, hn, ne_eq, not_false_eq_true, if_true, Sem.run_bind]
            rw [Zfu w ha hl (by omega), Result.andThen_ok, Zfu w ha hl (by omega), Result.andThen_ok, hq, Result.andThen_ok, hsplit]
            cases q with
            | false => exact ⟨false, by simp, by simp; intro h; exact absurd (hiff.2 h) (by simp)⟩
            | true => exact ⟨q', by simpa using hq', by rw [hiff']; simp [hiff.1 rfl]⟩
          · cases hf
        · cases hf
      · cases hf
    · cases hf
end
theorem eqK {P : Program} (d : Nat) : ∀ (m : Nat) (t : TypeId) (l : List (Option IntKind)), Za5 P m t = some l -> EqK P (d + m) t l
  | 0, _, _, h => by simp [Za5] at h
  | m + 1, t, l, h => by
    intro w us vs hu' hv'
    have h0 := h
    simp only [Za5] at h
    split at h
    · rename_i k hu
      cases h
      match us, vs, hu', hv' with
      | [u], [v], hx, hy =>
        obtain ⟨a, rfl⟩ := hx.1
        obtain ⟨b, rfl⟩ := hy.1
        refine ⟨a == b, ?_, by simp⟩
        have : Znn P t = false := by simp [Znn, hu]
        simp only [Zlk, this, Bool.false_eq_true, if_false, List.getD_cons_zero]
        exact run_equalIn_int w (d + m) t k k a b hu
    · rename_i hu
      cases h
      match us, vs, hu', hv' with
      | [u], [v], hx, hy =>
        obtain ⟨a, rfl⟩ := hx.1
        obtain ⟨b, rfl⟩ := hy.1
        refine ⟨a == b, ?_, by simp⟩
        have : Znn P t = false := by simp [Znn, hu]
        simp only [Zlk, this, Bool.false_eq_true, if_false, List.getD_cons_zero]
        exact run_equalIn_bool w (d + m) t a b hu
    · rename_i n e hu
      split at h
      · rename_i le he
        split at h
        · rename_i hl
          cases h
          have : Znn P t = true := by simp [Znn, hu]
          simp only [Zlk, this, if_true]
          obtain ⟨_, i, _, hi⟩ := Zin he
          have hlen : us.length = vs.length := by rw [ZaT hu', ZaT hv']
          obtain ⟨q, hq, hiff⟩ := Zog w he hl (eqK d m e le he) n 0 us vs hlen (by omega) (by simpa using hu') (by simpa using hv')
          refine ⟨q, ?_, by simpa using hiff⟩
          rw [show d + (m + 1) = (d + m) + 1 from rfl, run_equalIn_array w (d + m) _ _ hu hi, List.range_eq_range']
          exact hq
        · cases h
      · cases h
    · rename_i fs hu
      split at h
      · rename_i hst
        have : Znn P t = true := by simp [Znn, hu]
        simp only [Zlk, this, if_true]
        have hfs : P.fieldsOf t = fs := by simp [Program.fieldsOf, hu]
        have hlen : us.length = vs.length := by rw [ZaT hu', ZaT hv']
        obtain ⟨q, hq, hiff⟩ := ZkX w (fun t l ht => eqK d m t l ht) fs.toList 0 l us vs h hlen (by omega) (by simpa using hu') (by simpa using hv')
        refine ⟨q, ?_, by simpa using hiff⟩
        rw [show d + (m + 1) = (d + m) + 1 from rfl, run_equalIn_struct w (d + m) t _ _ (by rw [hfs]; exact hu) hst, hfs]
        exact hq
      · cases h
    · cases h
theorem ZED {P : Program} {w : World} {m : Nat} (hm : m <= 10000) {t : TypeId} {l : List (Option IntKind)} (h : Za5 P m t = some l) (ha : Znn P t = true) {us vs : List Value} (hu : Znm l us) (hv : Znm l vs) :
    ∃ q : Bool, (Op.equal t (.agg us.toArray) (.agg vs.toArray)).run P w = .ok q w /\ (q = true ↔ us = vs) := by
  obtain ⟨q, hq, hiff⟩ := eqK (10000 - m) m t l h w us vs hu hv
  rw [show 10000 - m + m = 10000 by omega] at hq
  simp only [Zlk, ha, if_true] at hq
  exact ⟨q, hq, hiff⟩
end Go.Sx
