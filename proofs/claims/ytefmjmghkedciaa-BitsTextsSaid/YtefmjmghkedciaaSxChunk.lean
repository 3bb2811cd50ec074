/- The evaluator's reads and writes of rows of chunks are those of the cells that the chunks stand for. -/
import Derived.Test.YtefmjmghkedciaaSxEv
set_option linter.unusedVariables false
set_option linter.unusedSimpArgs false
namespace Go.Sx

theorem kEq_eq {a b : IntKind} (h : kEq a b = true) : a = b := by cases a <;> cases b <;> first | rfl | cases h
theorem bif_prop {c : Bool} {A : Prop} (h : bif c then A else False) : c = true ∧ A := by
  cases c with
  | false => exact h.elim
  | true => exact ⟨rfl, h⟩
theorem beq_eq {m n : Nat} (h : Nat.beq m n = true) : m = n := Nat.eq_of_beq_eq_true h
theorem beq_zero {n : Nat} : Nat.beq n 0 = true ↔ n = 0 := ⟨fun h => Nat.eq_of_beq_eq_true h, fun h => by subst h; rfl⟩
theorem beq_zero_false {n : Nat} (h : Nat.beq n 0 = false) : n ≠ 0 := fun h' => by subst h'; cases h
theorem ble_false {m n : Nat} (h : Nat.ble m n = false) : n < m := by
  rcases Nat.lt_or_ge n m with h' | h'
  · exact h'
  · rw [Nat.ble_eq_true_of_le h'] at h; cases h

theorem leaf1_sound {K : SVal → Prop} {off : Nat} {ρ : Rho} {n : Nat} : ∀ (l : Leaf) (x : l.T), leaf1 K off l x → ∃ v, K v ∧ v.ok ρ n ∧ (l.conc x)[off]? = some (v.conc ρ)
  | .int k, x, h => by obtain ⟨h0, hK⟩ := bif_prop h; obtain rfl := beq_eq h0; exact ⟨_, hK, by simp [SVal.ok], by simp [Leaf.conc, SVal.conc]⟩
  | .bool, x, h => by obtain ⟨h0, hK⟩ := bif_prop h; obtain rfl := beq_eq h0; exact ⟨_, hK, by simp [SVal.ok], by simp [Leaf.conc, SVal.conc]⟩
  | .ints k m, x, h => by
    obtain ⟨h1, hK⟩ := h
    exact ⟨_, hK, by simp [SVal.ok], by simp only [Leaf.conc, SVal.conc]; exact intsConc_get _ _ _ _ h1⟩

theorem rdLeaf_sound {K : SVal → Prop} {ρ : Rho} {n : Nat} : ∀ (sh : List Leaf) (x : Tup sh) (off : Nat), rdLeaf K sh x off → ∃ v, K v ∧ v.ok ρ n ∧ (tupConc sh x)[off]? = some (v.conc ρ)
  | [], _, _, h => h.elim
  | [l], x, off, h => leaf1_sound l x h
  | l :: m :: r, x, off, h => by
    simp only [rdLeaf] at h
    cases hb : Nat.ble l.len off with
    | true =>
      rw [hb] at h
      obtain ⟨v, h1, h2, h3⟩ := rdLeaf_sound (m :: r) x.2 _ h
      have := Nat.le_of_ble_eq_true hb
      refine ⟨v, h1, h2, ?_⟩
      simp only [tupConc]
      rw [List.getElem?_append_right (by rw [leafConc_length]; exact this), leafConc_length]
      exact h3
    | false =>
      rw [hb] at h
      obtain ⟨v, h1, h2, h3⟩ := leaf1_sound l x.1 h
      refine ⟨v, h1, h2, ?_⟩
      simp only [tupConc]
      rw [List.getElem?_append_left (by rw [leafConc_length]; exact ble_false hb)]
      exact h3

theorem rows_get {α : Type} (f : Nat → List α) (s : Nat) (hs : ∀ i, (f i).length = s) : ∀ (n i j : Nat), i < n → j < s → ((List.range n).flatMap f)[i * s + j]? = (f i)[j]?
  | 0, _, _, h, _ => by omega
  | n + 1, i, j, h, hj => by
    rw [List.range_succ, List.flatMap_append]
    rcases Nat.lt_or_ge i n with h' | h'
    · rw [List.getElem?_append_left]
      · exact rows_get f s hs n i j h' hj
      · rw [flatMap_range_length f s hs]
        calc i * s + j < i * s + s := by omega
          _ = (i + 1) * s := by rw [Nat.succ_mul]
          _ ≤ n * s := Nat.mul_le_mul_right _ h'
    · have : i = n := by omega
      subst this
      rw [List.getElem?_append_right (by rw [flatMap_range_length f s hs]; omega), flatMap_range_length f s hs]
      simp

theorem rdC_sound {idx st : Nat} {K : SVal → Prop} {ρ : Rho} {n : Nat} : ∀ (cs : List Chunk) (off : Nat), rdC idx st K cs off → okCs ρ n cs →
    ∃ v, K v ∧ v.ok ρ n ∧ (concCs ρ cs)[off + idx * st]? = some (v.conc ρ)
  | [], _, h, _ => h.elim
  | .one v :: r, off, h, hok => by
    simp only [okCs, Chunk.ok] at hok
    simp only [rdC] at h
    cases hb : Nat.beq off 0 with
    | true =>
      rw [hb] at h
      obtain ⟨h0, hK⟩ := bif_prop h
      obtain rfl := beq_eq h0
      have := beq_zero.1 hb
      subst this
      exact ⟨v, hK, hok.1, by simp [concCs, Chunk.conc]⟩
    | false =>
      rw [hb] at h
      obtain ⟨u, h1, h2, h3⟩ := rdC_sound r _ h hok.2
      have := beq_zero_false hb
      refine ⟨u, h1, h2, ?_⟩
      simp only [concCs, Chunk.conc]
      rw [List.getElem?_append_right (by simp; omega)]
      rw [show off + idx * st - [v.conc ρ].length = off - 1 + idx * st by simp; omega]
      exact h3
  | .ints k m xs :: r, off, h, hok => by
    simp only [okCs] at hok
    simp only [rdC] at h
    cases hb : Nat.beq off 0 with
    | true =>
      rw [hb] at h
      obtain ⟨h0, h1, hK⟩ := bif_prop h
      obtain rfl := beq_eq h0
      have := beq_zero.1 hb
      subst this
      refine ⟨_, hK, by simp [SVal.ok], ?_⟩
      simp only [concCs, Chunk.conc, SVal.conc, Nat.zero_add, Nat.mul_one]
      rw [List.getElem?_append_left (by rw [intsConc_length]; exact h1)]
      exact intsConc_get _ _ _ _ h1
    | false =>
      rw [hb] at h
      obtain ⟨hle, h⟩ := bif_prop h
      have hle := Nat.le_of_ble_eq_true hle
      obtain ⟨u, h1, h2, h3⟩ := rdC_sound r _ h hok.2
      refine ⟨u, h1, h2, ?_⟩
      simp only [concCs, Chunk.conc]
      rw [List.getElem?_append_right (by rw [intsConc_length]; omega), intsConc_length]
      rw [show off + idx * st - m = off - m + idx * st by omega]
      exact h3
  | .rows sh m xs :: r, off, h, hok => by
    simp only [rdC] at h
    obtain ⟨h0, h1, h2⟩ := bif_prop h
    obtain rfl := beq_eq h0
    obtain ⟨v, h3, h4, h5⟩ := rdLeaf_sound (ρ := ρ) (n := n) sh _ off h2
    refine ⟨v, h3, h4, ?_⟩
    have hoff : off < stride sh := by
      have := (List.getElem?_eq_some_iff.1 h5).1
      rwa [tupConc_length] at this
    have key := rows_get (fun i => tupConc sh (xs.getD i (Tup.dflt sh))) (stride sh) (fun i => tupConc_length _ _) m idx off h1 hoff
    simp only [concCs, Chunk.conc]
    rw [List.getElem?_append_left]
    · rw [Nat.add_comm off]
      unfold rowsConc
      rw [key]; exact h5
    · rw [rowsConc_length]
      calc off + idx * stride sh < stride sh + idx * stride sh := by omega
        _ = (idx + 1) * stride sh := by rw [Nat.succ_mul]; omega
        _ ≤ m * stride sh := Nat.mul_le_mul_right _ h1

theorem intsConc_set (k : IntKind) (n : Nat) (xs : List Int) (i : Nat) (m : Int) (h : i < n) (h' : i < xs.length) :
    intsConc k n (xs.set i m) = (intsConc k n xs).set i (.int k m) := by
  apply List.ext_getElem?
  intro j
  rw [List.getElem?_set]
  by_cases hij : i = j
  · subst hij
    rw [if_pos rfl, if_pos (by rw [intsConc_length]; exact h), intsConc_get _ _ _ _ h]
    simp [h']
  · rw [if_neg hij]
    rcases Nat.lt_or_ge j n with hj | hj
    · rw [intsConc_get _ _ _ _ hj, intsConc_get _ _ _ _ hj]
      simp [hij]
    · rw [List.getElem?_eq_none (by rw [intsConc_length]; exact hj), List.getElem?_eq_none (by rw [intsConc_length]; exact hj)]

theorem wrC_sound {idx st : Nat} {v : SVal} {ρ : Rho} {n : Nat} (hv : v.ok ρ n) : ∀ (cs : List Chunk) (K : List Chunk → Prop) (off : Nat), wrC idx st v K cs off → okCs ρ n cs →
    ∃ cs', K cs' ∧ okCs ρ n cs' ∧ lenCs cs' = lenCs cs ∧ off + idx * st < lenCs cs ∧ concCs ρ cs' = (concCs ρ cs).set (off + idx * st) (v.conc ρ)
  | [], _, _, h, _ => h.elim
  | .one u :: r, K, off, h, hok => by
    simp only [okCs, Chunk.ok] at hok
    simp only [wrC] at h
    cases hb : Nat.beq off 0 with
    | true =>
      rw [hb] at h
      obtain ⟨h0, hK⟩ := bif_prop h
      obtain rfl := beq_eq h0
      have := beq_zero.1 hb
      subst this
      exact ⟨_, hK, by simp only [okCs, Chunk.ok]; exact ⟨hv, hok.2⟩, by simp [lenCs, Chunk.len], by simp [lenCs, Chunk.len]; omega, by simp [concCs, Chunk.conc]⟩
    | false =>
      rw [hb] at h
      obtain ⟨cs', h1, h2, h3, h4, h5⟩ := wrC_sound hv r _ _ h hok.2
      have := beq_zero_false hb
      refine ⟨_, h1, by simp only [okCs, Chunk.ok]; exact ⟨hok.1, h2⟩, by simp [lenCs, h3], by simp [lenCs, Chunk.len]; omega, ?_⟩
      simp only [concCs, Chunk.conc, h5]
      rw [List.set_append_right _ _ (by simp; omega)]
      congr 2
      simp; omega
  | .ints k m xs :: r, K, off, h, hok => by
    simp only [okCs] at hok
    simp only [wrC] at h
    cases hb : Nat.beq off 0 with
    | true =>
      rw [hb] at h
      simp only [cond_true] at h
      split at h
      · rename_i k' m'
        obtain ⟨h0, h1, h2, hK⟩ := bif_prop h
        rw [Bool.and_eq_true] at h0
        obtain rfl := kEq_eq h0.1
        obtain rfl := beq_eq h0.2
        have := beq_zero.1 hb
        subst this
        refine ⟨_, hK, by simp only [okCs, Chunk.ok]; exact ⟨trivial, hok.2⟩, by simp [lenCs, Chunk.len], by simp [lenCs, Chunk.len]; omega, ?_⟩
        simp only [concCs, Chunk.conc, SVal.conc, Nat.zero_add, Nat.mul_one]
        rw [List.set_append_left _ _ (by rw [intsConc_length]; exact h1), intsConc_set _ _ _ _ _ h1 h2]
      · exact h.elim
    | false =>
      rw [hb] at h
      obtain ⟨hle, h⟩ := bif_prop h
      have hle := Nat.le_of_ble_eq_true hle
      obtain ⟨cs', h1, h2, h3, h4, h5⟩ := wrC_sound hv r _ _ h hok.2
      refine ⟨_, h1, by simp only [okCs, Chunk.ok]; exact ⟨trivial, h2⟩, by simp [lenCs, h3], by simp [lenCs, Chunk.len]; omega, ?_⟩
      simp only [concCs, Chunk.conc, h5]
      rw [List.set_append_right _ _ (by rw [intsConc_length]; omega), intsConc_length]
      congr 2
      omega
  | .rows sh m xs :: r, K, off, h, _ => by simp only [wrC] at h

theorem takeN_sound {ρ : Rho} {n : Nat} : ∀ (cs : List Chunk) (K : List Chunk → Prop) (sz : Nat), takeN K cs sz → okCs ρ n cs →
    ∃ l, K l ∧ okCs ρ n l ∧ lenCs l = sz ∧ sz ≤ lenCs cs ∧ concCs ρ l = (concCs ρ cs).take sz
  | [], K, sz, h, _ => by
    obtain ⟨h0, hK⟩ := bif_prop h
    obtain rfl := beq_eq h0
    exact ⟨_, hK, by simp [okCs], by simp [lenCs], by simp [lenCs], by simp [concCs]⟩
  | c :: r, K, sz, h, hok => by
    simp only [okCs] at hok
    simp only [takeN] at h
    cases hb : Nat.beq sz 0 with
    | true =>
      rw [hb] at h
      have := beq_zero.1 hb
      subst this
      exact ⟨_, h, by simp [okCs], by simp [lenCs], by simp, by simp [concCs]⟩
    | false =>
      rw [hb] at h
      obtain ⟨hle, h⟩ := bif_prop h
      have hle := Nat.le_of_ble_eq_true hle
      obtain ⟨l, h1, h2, h3, h4, h5⟩ := takeN_sound r _ _ h hok.2
      refine ⟨_, h1, by simp only [okCs]; exact ⟨hok.1, h2⟩, by simp [lenCs, h3]; omega, by simp [lenCs]; omega, ?_⟩
      simp only [concCs, h5]
      rw [List.take_append, chunkConc_length, List.take_of_length_le (l := c.conc ρ) (by rw [chunkConc_length]; exact hle)]

theorem dropN_sound {ρ : Rho} {n : Nat} : ∀ (cs : List Chunk) (K : List Chunk → Prop) (sz : Nat), dropN K cs sz → okCs ρ n cs →
    ∃ l, K l ∧ okCs ρ n l ∧ lenCs l + sz = lenCs cs ∧ concCs ρ l = (concCs ρ cs).drop sz
  | [], K, sz, h, _ => by
    obtain ⟨h0, hK⟩ := bif_prop h
    obtain rfl := beq_eq h0
    exact ⟨_, hK, by simp [okCs], by simp [lenCs], by simp [concCs]⟩
  | c :: r, K, sz, h, hok => by
    have hok0 := hok
    simp only [okCs] at hok
    simp only [dropN] at h
    cases hb : Nat.beq sz 0 with
    | true =>
      rw [hb] at h
      have := beq_zero.1 hb
      subst this
      exact ⟨_, h, hok0, by simp, by simp⟩
    | false =>
      rw [hb] at h
      obtain ⟨hle, h⟩ := bif_prop h
      have hle := Nat.le_of_ble_eq_true hle
      obtain ⟨l, h1, h2, h3, h4⟩ := dropN_sound r _ _ h hok.2
      refine ⟨_, h1, h2, by simp [lenCs]; omega, ?_⟩
      simp only [concCs, h4]
      rw [List.drop_append, chunkConc_length, List.drop_of_length_le (l := c.conc ρ) (by rw [chunkConc_length]; exact hle), List.nil_append]

theorem intsConc_drop_take (k : IntKind) (n : Nat) (xs : List Int) (i sz : Nat) (h : i + sz ≤ n) :
    intsConc k sz ((xs.drop i).take sz) = ((intsConc k n xs).drop i).take sz := by
  apply List.ext_getElem?
  intro j
  rcases Nat.lt_or_ge j sz with hj | hj
  · rw [intsConc_get _ _ _ _ hj, List.getElem?_take_of_lt hj, List.getElem?_drop, intsConc_get _ _ _ _ (by omega)]
    simp [List.getElem?_take_of_lt hj, List.getElem?_drop]
  · rw [List.getElem?_eq_none (by rw [intsConc_length]; exact hj), List.getElem?_eq_none (by simp; omega)]

theorem leafChunk_conc {ρ : Rho} : ∀ (l : Leaf) (x : l.T), (leafChunk l x).conc ρ = l.conc x
  | .int _, _ => by simp [leafChunk, Chunk.conc, Leaf.conc, SVal.conc]
  | .bool, _ => by simp [leafChunk, Chunk.conc, Leaf.conc, SVal.conc]
  | .ints _ _, _ => by simp [leafChunk, Chunk.conc, Leaf.conc]
theorem leafChunk_ok {ρ : Rho} {n : Nat} : ∀ (l : Leaf) (x : l.T), (leafChunk l x).ok ρ n
  | .int _, _ => by simp [leafChunk, Chunk.ok, SVal.ok]
  | .bool, _ => by simp [leafChunk, Chunk.ok, SVal.ok]
  | .ints _ _, _ => by simp [leafChunk, Chunk.ok]
theorem tupChunks_conc {ρ : Rho} : ∀ (sh : List Leaf) (x : Tup sh), concCs ρ (tupChunks sh x) = tupConc sh x
  | [], _ => by simp [tupChunks, concCs, tupConc]
  | [l], x => by simp [tupChunks, concCs, tupConc, leafChunk_conc]
  | l :: m :: r, x => by
    have := tupChunks_conc (ρ := ρ) (m :: r) x.2
    simp only [tupChunks, concCs, tupConc, leafChunk_conc, this]
theorem tupChunks_ok {ρ : Rho} {n : Nat} : ∀ (sh : List Leaf) (x : Tup sh), okCs ρ n (tupChunks sh x)
  | [], _ => by simp [tupChunks, okCs]
  | [l], x => by simp [tupChunks, okCs, leafChunk_ok]
  | l :: m :: r, x => by
    have := tupChunks_ok (ρ := ρ) (n := n) (m :: r) x.2
    simp only [tupChunks, okCs, leafChunk_ok, true_and]; exact this

theorem rows_slice {α : Type} (f : Nat → List α) (s : Nat) (hs : ∀ i, (f i).length = s) (n i : Nat) (h : i < n) : (((List.range n).flatMap f).drop (i * s)).take s = f i := by
  apply List.ext_getElem?
  intro j
  rcases Nat.lt_or_ge j s with hj | hj
  · rw [List.getElem?_take_of_lt hj, List.getElem?_drop]
    exact rows_get f s hs n i j h hj
  · rw [List.getElem?_eq_none (by simp; omega), List.getElem?_eq_none (by rw [hs]; exact hj)]

theorem rdA_sound {idx st sz : Nat} {K : List Chunk → Prop} {ρ : Rho} {n : Nat} : ∀ (cs : List Chunk) (off : Nat), rdA idx st sz K cs off → okCs ρ n cs →
    ∃ l, K l ∧ okCs ρ n l ∧ lenCs l = sz ∧ off + idx * st + sz ≤ lenCs cs ∧ concCs ρ l = ((concCs ρ cs).drop (off + idx * st)).take sz
  | [], _, h, _ => h.elim
  | .one v :: r, off, h, hok => by
    have hok0 := hok
    simp only [okCs, Chunk.ok] at hok
    simp only [rdA] at h
    cases hb : Nat.beq off 0 with
    | true =>
      rw [hb] at h
      obtain ⟨h0, h⟩ := bif_prop h
      obtain rfl := beq_eq h0
      have := beq_zero.1 hb
      subst this
      obtain ⟨l, h1, h2, h3, h4, h5⟩ := takeN_sound _ _ _ h hok0
      exact ⟨l, h1, h2, h3, by simpa using h4, by simpa using h5⟩
    | false =>
      rw [hb] at h
      obtain ⟨l, h1, h2, h3, h4, h5⟩ := rdA_sound r _ h hok.2
      have := beq_zero_false hb
      refine ⟨l, h1, h2, h3, by simp [lenCs, Chunk.len]; omega, ?_⟩
      simp only [concCs, Chunk.conc]
      rw [List.drop_append, List.drop_of_length_le (by simp; omega), List.nil_append, h5]
      congr 2
      simp; omega
  | .ints k m xs :: r, off, h, hok => by
    have hok0 := hok
    simp only [okCs] at hok
    simp only [rdA] at h
    cases hb : Nat.beq off 0 with
    | true =>
      rw [hb] at h
      have := beq_zero.1 hb
      subst this
      simp only [cond_true] at h
      cases hc : Nat.ble m sz with
      | true =>
        rw [hc] at h
        obtain ⟨h0, h⟩ := bif_prop h
        obtain rfl := beq_eq h0
        obtain ⟨l, h1, h2, h3, h4, h5⟩ := takeN_sound _ _ _ h hok0
        exact ⟨l, h1, h2, h3, by simpa using h4, by simpa using h5⟩
      | false =>
        rw [hc] at h
        obtain ⟨h0, h1, hK⟩ := bif_prop h
        obtain rfl := beq_eq h0
        refine ⟨_, hK, by simp [okCs, Chunk.ok], by simp [lenCs, Chunk.len], by simp [lenCs, Chunk.len]; omega, ?_⟩
        simp only [concCs, Chunk.conc, List.append_nil, Nat.zero_add, Nat.mul_one]
        rw [intsConc_drop_take _ _ _ _ _ h1, List.drop_append_of_le_length (by rw [intsConc_length]; omega),
          List.take_append_of_le_length (by rw [List.length_drop, intsConc_length]; omega)]
    | false =>
      rw [hb] at h
      obtain ⟨hle, h⟩ := bif_prop h
      have hle := Nat.le_of_ble_eq_true hle
      obtain ⟨l, h1, h2, h3, h4, h5⟩ := rdA_sound r _ h hok.2
      refine ⟨l, h1, h2, h3, by simp [lenCs, Chunk.len]; omega, ?_⟩
      simp only [concCs, Chunk.conc]
      rw [List.drop_append, List.drop_of_length_le (by rw [intsConc_length]; omega), List.nil_append, intsConc_length, h5]
      congr 2
      omega
  | .rows sh m xs :: r, off, h, hok => by
    simp only [rdA] at h
    obtain ⟨h0, h1, hK⟩ := bif_prop h
    obtain rfl := beq_eq h0
    obtain ⟨l1, g1, g2, g3, g4⟩ := dropN_sound (ρ := ρ) (n := n) _ _ _ hK (tupChunks_ok _ _)
    obtain ⟨l, g5, g6, g7, g8, g9⟩ := takeN_sound (ρ := ρ) (n := n) _ _ _ g1 g2
    have hlen : (idx + 1) * stride sh ≤ m * stride sh := Nat.mul_le_mul_right _ h1
    rw [Nat.succ_mul] at hlen
    rw [← concCs_length ρ (tupChunks sh _), tupChunks_conc, tupConc_length] at g3
    refine ⟨l, g5, g6, g7, by simp [lenCs, Chunk.len]; omega, ?_⟩
    rw [g9, g4, tupChunks_conc]
    simp only [concCs, Chunk.conc]
    rw [List.drop_append_of_le_length (by rw [rowsConc_length]; omega), List.take_append_of_le_length (by rw [List.length_drop, rowsConc_length]; omega)]
    unfold rowsConc
    have hsl := rows_slice (fun i => tupConc sh (xs.getD i (Tup.dflt sh))) (stride sh) (fun i => tupConc_length _ _) m idx h1
    rw [← hsl, List.drop_take, List.drop_drop, List.take_take, Nat.min_eq_left (by omega), Nat.add_comm off]

theorem concCs_append {ρ : Rho} : ∀ (a b : List Chunk), concCs ρ (a ++ b) = concCs ρ a ++ concCs ρ b
  | [], b => by simp [concCs]
  | c :: r, b => by simp [concCs, concCs_append r b]
theorem okCs_append {ρ : Rho} {n : Nat} : ∀ {a b : List Chunk}, okCs ρ n a → okCs ρ n b → okCs ρ n (a ++ b)
  | [], _, _, hb => hb
  | c :: r, b, ha, hb => by simp only [okCs, List.cons_append] at *; exact ⟨ha.1, okCs_append ha.2 hb⟩
theorem lenCs_append : ∀ (a b : List Chunk), lenCs (a ++ b) = lenCs a + lenCs b
  | [], b => by simp [lenCs]
  | c :: r, b => by simp [lenCs, lenCs_append r b]; omega

theorem splice_get {α : Type} (A B C : List α) (j : Nat) : (A ++ B ++ C)[j]? = if j < A.length then A[j]? else if j < A.length + B.length then B[j - A.length]? else C[j - A.length - B.length]? := by
  rw [List.getElem?_append, List.length_append]
  by_cases h1 : j < A.length
  · rw [if_pos (by omega), if_pos h1, List.getElem?_append_left h1]
  · by_cases h2 : j < A.length + B.length
    · rw [if_pos h2, if_neg h1, if_pos h2, List.getElem?_append_right (by omega)]
    · rw [if_neg h2, if_neg h1, if_neg h2, Nat.sub_sub]

theorem intsConc_splice (k : IntKind) (n : Nat) (xs ys : List Int) (i sz : Nat) (h : i + sz ≤ n) (hx : xs.length = n) (hy : ys.length = sz) :
    intsConc k n (xs.take i ++ ys ++ xs.drop (i + sz)) = (intsConc k n xs).take i ++ intsConc k sz ys ++ (intsConc k n xs).drop (i + sz) := by
  apply List.ext_getElem?
  intro j
  have l1 : (xs.take i).length = i := by simp; omega
  have l2 : ((intsConc k n xs).take i).length = i := by simp [intsConc_length]; omega
  rw [splice_get, l2, intsConc_length]
  rcases Nat.lt_or_ge j n with hj | hj
  · rw [intsConc_get _ _ _ _ hj, List.getD_eq_getElem?_getD, splice_get, l1, hy]
    by_cases h1 : j < i
    · rw [if_pos h1, if_pos h1, List.getElem?_take_of_lt h1, List.getElem?_take_of_lt h1, intsConc_get _ _ _ _ hj, List.getD_eq_getElem?_getD]
    · rw [if_neg h1, if_neg h1]
      by_cases h2 : j < i + sz
      · rw [if_pos h2, if_pos h2, intsConc_get _ _ _ _ (by omega), List.getD_eq_getElem?_getD]
      · rw [if_neg h2, if_neg h2, List.getElem?_drop, List.getElem?_drop, show i + sz + (j - i - sz) = j by omega, intsConc_get _ _ _ _ hj, List.getD_eq_getElem?_getD]
  · rw [List.getElem?_eq_none (by rw [intsConc_length]; exact hj), if_neg (by omega), if_neg (by omega), List.getElem?_eq_none (by simp [intsConc_length]; omega)]

theorem toLeaf_sound {ρ : Rho} : ∀ (l : Leaf) (c : Chunk) (K : l.T → Prop), toLeaf l c K → ∃ x, K x ∧ c.conc ρ = l.conc x
  | .int k, c, K, h => by
    simp only [toLeaf] at h
    split at h
    · obtain ⟨h0, h⟩ := bif_prop h
      obtain rfl := kEq_eq h0
      exact ⟨_, h, by simp [Chunk.conc, SVal.conc, Leaf.conc]⟩
    · exact h.elim
  | .bool, c, K, h => by
    simp only [toLeaf] at h
    split at h
    · exact ⟨_, h, by simp [Chunk.conc, SVal.conc, Leaf.conc]⟩
    · exact h.elim
  | .ints k n, c, K, h => by
    simp only [toLeaf] at h
    split at h
    · obtain ⟨h0, h⟩ := bif_prop h
      rw [Bool.and_eq_true] at h0
      obtain rfl := kEq_eq h0.1
      obtain rfl := beq_eq h0.2
      exact ⟨_, h, by simp [Chunk.conc, Leaf.conc]⟩
    · exact h.elim
theorem toTup_sound {ρ : Rho} : ∀ (sh : List Leaf) (cs : List Chunk) (K : Tup sh → Prop), toTup sh cs K → ∃ x, K x ∧ concCs ρ cs = tupConc sh x
  | [], _, _, h => h.elim
  | [l], cs, K, h => by
    simp only [toTup] at h
    split at h
    · obtain ⟨x, h1, h2⟩ := toLeaf_sound (ρ := ρ) _ _ _ h
      exact ⟨x, h1, by simp [concCs, h2, tupConc]⟩
    · exact h.elim
  | l :: m :: r, cs, K, h => by
    simp only [toTup] at h
    split at h
    · obtain ⟨x, h1, h2⟩ := toLeaf_sound (ρ := ρ) _ _ _ h
      obtain ⟨y, h3, h4⟩ := toTup_sound (ρ := ρ) (m :: r) _ _ h1
      exact ⟨(x, y), h3, by simp only [concCs, h2, h4, tupConc]⟩
    · exact h.elim

theorem rowsConc_flat (sh : List Leaf) : ∀ (xs : List (Tup sh)), rowsConc sh xs.length xs = xs.flatMap (tupConc sh)
  | [] => rfl
  | x :: r => by
    have ih := rowsConc_flat sh r
    unfold rowsConc at ih ⊢
    rw [List.length_cons, List.range_succ_eq_map, List.flatMap_cons, List.flatMap_cons, List.flatMap_map]
    simp only [List.getD_cons_zero, List.getD_cons_succ]
    rw [ih]
theorem rowsConc_eq {sh : List Leaf} {n : Nat} {xs : List (Tup sh)} (h : xs.length = n) : rowsConc sh n xs = xs.flatMap (tupConc sh) := by
  subst h; exact rowsConc_flat sh xs
theorem toTup_ok {ρ : Rho} {n : Nat} {sh : List Leaf} {m : Nat} {xs : List (Tup sh)} : Chunk.ok ρ n (.rows sh m xs) := trivial
theorem rowsConc_set {sh : List Leaf} {n : Nat} {xs : List (Tup sh)} {i : Nat} {t : Tup sh} (h : i < n) (hx : xs.length = n) :
    rowsConc sh n (xs.set i t) = (rowsConc sh n xs).take (i * stride sh) ++ tupConc sh t ++ (rowsConc sh n xs).drop (i * stride sh + stride sh) := by
  have hl : ∀ ys : List (Tup sh), (ys.flatMap (tupConc sh)).length = ys.length * stride sh := fun ys => by
    rw [← rowsConc_flat, rowsConc_length]
  have hi : i < xs.length := by omega
  have e1 : xs = xs.take i ++ xs[i] :: xs.drop (i + 1) := by rw [← List.drop_eq_getElem_cons hi, List.take_append_drop]
  have e2 : xs.set i t = xs.take i ++ t :: xs.drop (i + 1) := List.set_eq_take_append_cons_drop.trans (by rw [if_pos hi])
  have l1 : ((xs.take i).flatMap (tupConc sh)).length = i * stride sh := by rw [hl, List.length_take]; congr 1; omega
  rw [rowsConc_eq (by rw [List.length_set, hx]), rowsConc_eq hx, e2]
  conv => rhs; rw [e1]
  simp only [List.flatMap_append, List.flatMap_cons]
  rw [List.take_left' l1, List.drop_append, List.drop_of_length_le (l := (xs.take i).flatMap (tupConc sh)) (by omega), l1, List.nil_append, show i * stride sh + stride sh - i * stride sh = stride sh by omega, List.drop_left' (tupConc_length _ _), List.append_assoc]
theorem wrA_sound {idx st sz : Nat} {new : List Chunk} {ρ : Rho} {n : Nat} (hnew : okCs ρ n new) (hsz : lenCs new = sz) : ∀ (cs : List Chunk) (K : List Chunk → Prop) (off : Nat), wrA idx st sz new K cs off → okCs ρ n cs →
    ∃ cs', K cs' ∧ okCs ρ n cs' ∧ lenCs cs' = lenCs cs ∧ off + idx * st + sz ≤ lenCs cs ∧
      concCs ρ cs' = (concCs ρ cs).take (off + idx * st) ++ concCs ρ new ++ (concCs ρ cs).drop (off + idx * st + sz)
  | [], _, _, h, _ => h.elim
  | .one v :: r, K, off, h, hok => by
    have hok0 := hok
    simp only [okCs, Chunk.ok] at hok
    simp only [wrA] at h
    cases hb : Nat.beq off 0 with
    | true =>
      rw [hb] at h
      obtain ⟨h0, h⟩ := bif_prop h
      obtain rfl := beq_eq h0
      have := beq_zero.1 hb
      subst this
      obtain ⟨l, h1, h2, h3, h4⟩ := dropN_sound _ _ _ h hok0
      refine ⟨_, h1, okCs_append hnew h2, by rw [lenCs_append]; omega, by simp; omega, ?_⟩
      rw [concCs_append, h4]; simp
    | false =>
      rw [hb] at h
      obtain ⟨cs', h1, h2, h3, h4, h5⟩ := wrA_sound hnew hsz r _ _ h hok.2
      have := beq_zero_false hb
      refine ⟨_, h1, by simp only [okCs, Chunk.ok]; exact ⟨hok.1, h2⟩, by simp [lenCs, h3], by simp [lenCs, Chunk.len]; omega, ?_⟩
      simp only [concCs, Chunk.conc, h5]
      rw [show off + idx * st = (off - 1 + idx * st) + 1 by omega, show off - 1 + idx * st + 1 + sz = (off - 1 + idx * st + sz) + 1 by omega]
      simp
  | .ints k m xs :: r, K, off, h, hok => by
    have hok0 := hok
    simp only [okCs] at hok
    simp only [wrA] at h
    cases hb : Nat.beq off 0 with
    | true =>
      rw [hb] at h
      have := beq_zero.1 hb
      subst this
      simp only [cond_true] at h
      cases hc : Nat.ble m sz with
      | true =>
        rw [hc] at h
        obtain ⟨h0, h⟩ := bif_prop h
        obtain rfl := beq_eq h0
        obtain ⟨l, h1, h2, h3, h4⟩ := dropN_sound _ _ _ h hok0
        refine ⟨_, h1, okCs_append hnew h2, by rw [lenCs_append]; omega, by simp; omega, ?_⟩
        rw [concCs_append, h4]; simp
      | false =>
        rw [hc] at h
        simp only [cond_false] at h
        split at h
        · rename_i k' m' ys
          obtain ⟨h0, h1, h2, h3, hK⟩ := bif_prop h
          rw [Bool.and_eq_true, Bool.and_eq_true] at h0
          obtain rfl := kEq_eq h0.1.1
          obtain rfl := beq_eq h0.1.2
          obtain rfl := beq_eq h0.2
          refine ⟨_, hK, by simp only [okCs, Chunk.ok]; exact ⟨trivial, hok.2⟩, by simp [lenCs, Chunk.len], by simp [lenCs, Chunk.len]; omega, ?_⟩
          simp only [concCs, Chunk.conc, List.append_nil, Nat.zero_add, Nat.mul_one]
          rw [intsConc_splice _ _ _ _ _ _ h1 h2 h3, List.take_append_of_le_length (by rw [intsConc_length]; omega), List.drop_append_of_le_length (by rw [intsConc_length]; omega)]
          simp
        · exact h.elim
    | false =>
      rw [hb] at h
      obtain ⟨hle, h⟩ := bif_prop h
      have hle := Nat.le_of_ble_eq_true hle
      obtain ⟨cs', h1, h2, h3, h4, h5⟩ := wrA_sound hnew hsz r _ _ h hok.2
      refine ⟨_, h1, by simp only [okCs, Chunk.ok]; exact ⟨trivial, h2⟩, by simp [lenCs, h3], by simp [lenCs, Chunk.len]; omega, ?_⟩
      simp only [concCs, Chunk.conc, h5]
      rw [List.take_append, List.drop_append, intsConc_length, List.take_of_length_le (l := intsConc k m xs) (by rw [intsConc_length]; omega), List.drop_of_length_le (l := intsConc k m xs) (by rw [intsConc_length]; omega),
        show off + idx * st - m = off - m + idx * st by omega, show off + idx * st + sz - m = off - m + idx * st + sz by omega]
      simp
  | .rows sh m xs :: r, K, off, h, hok => by
    simp only [okCs] at hok
    simp only [wrA] at h
    obtain ⟨h0, h1, h2, h3⟩ := bif_prop h
    clear h
    rw [Bool.and_eq_true, Bool.and_eq_true] at h0
    have := beq_zero.1 h0.1.1
    subst this
    obtain rfl := beq_eq h0.1.2
    obtain rfl := beq_eq h0.2
    obtain ⟨t, hK, ht⟩ := toTup_sound (ρ := ρ) _ _ _ h3
    have hle : idx * stride sh + stride sh ≤ m * stride sh := by rw [← Nat.succ_mul]; exact Nat.mul_le_mul_right _ h1
    refine ⟨_, hK, by simp only [okCs, Chunk.ok]; exact ⟨trivial, hok.2⟩, by simp [lenCs, Chunk.len], by simp only [lenCs, Chunk.len]; omega, ?_⟩
    simp only [concCs, Chunk.conc, Nat.zero_add, ht]
    rw [rowsConc_set h1 h2, List.take_append_of_le_length (by rw [rowsConc_length]; omega), List.drop_append_of_le_length (by rw [rowsConc_length]; exact hle)]
    simp only [List.append_assoc]
end Go.Sx
