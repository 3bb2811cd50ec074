/- Part of the proof: SxChunk. -/
import Derived.Test.YtinjdimejijabaaSxEv
set_option linter.unusedVariables false
set_option linter.unusedSimpArgs false
namespace Go.Sx
theorem Zcz {a b : IntKind} (h : kEq a b = true) : a = b := by cases a <;> cases b <;> first | rfl | cases h
theorem Zal {c : Bool} {A : Prop} (h : bif c then A else False) : c = true /\ A := by
  cases c with
  | false => exact h.elim
  | true => exact ⟨rfl, h⟩
theorem Zat {m n : Nat} (h : Nat.beq m n = true) : m = n := Nat.eq_of_beq_eq_true h
theorem beq_zero {n : Nat} : Nat.beq n 0 = true ↔ n = 0 := ⟨fun h => Nat.eq_of_beq_eq_true h, fun h => by subst h; rfl⟩
theorem Za7 {n : Nat} (h : Nat.beq n 0 = false) : n ≠ 0 := fun h' => by subst h'; cases h
theorem ZjT {m n : Nat} (h : Nat.ble m n = false) : n < m := by
  rcases Nat.lt_or_ge n m with h' | h'
  · exact h'
  · rw [Nat.ble_eq_true_of_le h'] at h; cases h
theorem ZgE {K : SVal -> Prop} {off : Nat} {ρ : Rho} {n : Nat} : ∀ (l : Leaf) (x : l.T), ZrR K off l x -> ∃ v, K v /\ v.ok ρ n /\ (l.conc x)[off]? = some (v.conc ρ)
  | .int k, x, h => by obtain ⟨h0, hK⟩ := Zal h; obtain rfl := Zat h0; exact ⟨_, hK, by simp [SVal.ok], by simp [Leaf.conc, SVal.conc]⟩
  | .bool, x, h => by obtain ⟨h0, hK⟩ := Zal h; obtain rfl := Zat h0; exact ⟨_, hK, by simp [SVal.ok], by simp [Leaf.conc, SVal.conc]⟩
  | .ints k m, x, h => by
    obtain ⟨h1, hK⟩ := h
    exact ⟨_, hK, by simp [SVal.ok], by simp only [Leaf.conc, SVal.conc]; exact ZaF _ _ _ _ h1⟩
  | .hd, _, h => h.elim
theorem ZfP {K : SVal -> Prop} {ρ : Rho} {n : Nat} : ∀ (sh : List Leaf) (x : Tup sh) (off : Nat), ZlY K sh x off -> ∃ v, K v /\ v.ok ρ n /\ (Zay sh x)[off]? = some (v.conc ρ)
  | [], _, _, h => h.elim
  | [l], x, off, h => ZgE l x h
  | l :: m :: r, x, off, h => by
    simp only [ZlY] at h
    cases hb : Nat.ble l.len off with
    | true =>
      rw [hb] at h
      obtain ⟨v, h1, h2, h3⟩ := ZfP (m :: r) x.2 _ h
      have := Nat.le_of_ble_eq_true hb
      refine ⟨v, h1, h2, ?_⟩
      simp only [Zay]
      rw [List.getElem?_append_right (by rw [ZaV]; exact this), ZaV]
      exact h3
    | false =>
      rw [hb] at h
      obtain ⟨v, h1, h2, h3⟩ := ZgE l x.1 h
      refine ⟨v, h1, h2, ?_⟩
      simp only [Zay]
      rw [List.getElem?_append_left (by rw [ZaV]; exact ZjT hb)]
      exact h3
theorem ZhW {α : Type} (f : Nat -> List α) (s : Nat) (hs : ∀ i, (f i).length = s) : ∀ (n i j : Nat), i < n -> j < s -> ((List.range n).flatMap f)[i * s + j]? = (f i)[j]?
  | 0, _, _, h, _ => by omega
  | n + 1, i, j, h, hj => by
    rw [List.range_succ, List.flatMap_append]
    rcases Nat.lt_or_ge i n with h' | h'
    · rw [List.getElem?_append_left]
      · exact ZhW f s hs n i j h' hj
      · rw [ZaS f s hs]
        calc i * s + j < i * s + s := by omega
          _ = (i + 1) * s := by rw [Nat.succ_mul]
          _ <= n * s := Nat.mul_le_mul_right _ h'
    · have : i = n := by omega
      subst this
      rw [List.getElem?_append_right (by rw [ZaS f s hs]; omega), ZaS f s hs]
      simp
theorem ZeW {idx st : Nat} {K : SVal -> Prop} {ρ : Rho} {n : Nat} : ∀ (cs : List Chunk) (off : Nat), rdC idx st K cs off -> ZaN ρ n cs ->
    ∃ v, K v /\ v.ok ρ n /\ (Zag ρ cs)[off + idx * st]? = some (v.conc ρ)
  | [], _, h, _ => h.elim
  | .one v :: r, off, h, hok => by
    simp only [ZaN, Chunk.ok] at hok
    simp only [rdC] at h
    cases hb : Nat.beq off 0 with
    | true =>
      rw [hb] at h
      obtain ⟨h0, hK⟩ := Zal h
      obtain rfl := Zat h0
      have := beq_zero.1 hb
      subst this
      exact ⟨v, hK, hok.1, by simp [Zag, Chunk.conc]⟩
    | false =>
      rw [hb] at h
      obtain ⟨u, h1, h2, h3⟩ := ZeW r _ h hok.2
      have := Za7 hb
      refine ⟨u, h1, h2, ?_⟩
      simp only [Zag, Chunk.conc]
      rw [List.getElem?_append_right (by simp; omega)]
      rw [show off + idx * st - [v.conc ρ].length = off - 1 + idx * st by simp; omega]
      exact h3
  | .ints k m xs :: r, off, h, hok => by
    simp only [ZaN] at hok
    simp only [rdC] at h
    cases hb : Nat.beq off 0 with
    | true =>
      rw [hb] at h
      obtain ⟨h0, h1, hK⟩ := Zal h
      obtain rfl := Zat h0
      have := beq_zero.1 hb
      subst this
      refine ⟨_, hK, by simp [SVal.ok], ?_⟩
      simp only [Zag, Chunk.conc, SVal.conc, Nat.zero_add, Nat.mul_one]
      rw [List.getElem?_append_left (by rw [Zac]; exact h1)]
      exact ZaF _ _ _ _ h1
    | false =>
      rw [hb] at h
      obtain ⟨hle, h⟩ := Zal h
      have hle := Nat.le_of_ble_eq_true hle
      obtain ⟨u, h1, h2, h3⟩ := ZeW r _ h hok.2
      refine ⟨u, h1, h2, ?_⟩
      simp only [Zag, Chunk.conc]
      rw [List.getElem?_append_right (by rw [Zac]; omega), Zac]
      rw [show off + idx * st - m = off - m + idx * st by omega]
      exact h3
  | .rows sh m xs :: r, off, h, hok => by
    simp only [rdC] at h
    obtain ⟨h0, h1, h2⟩ := Zal h
    obtain rfl := Zat h0
    obtain ⟨v, h3, h4, h5⟩ := ZfP (ρ := ρ) (n := n) sh _ off h2
    refine ⟨v, h3, h4, ?_⟩
    have hoff : off < Zaf sh := by
      have := (List.getElem?_eq_some_iff.1 h5).1
      rwa [Zao] at this
    have key := ZhW (fun i => Zay sh (xs.getD i (Tup.dflt sh))) (Zaf sh) (fun i => Zao _ _) m idx off h1 hoff
    simp only [Zag, Chunk.conc]
    rw [List.getElem?_append_left]
    · rw [Nat.add_comm off]
      unfold Zaj
      rw [key]; exact h5
    · rw [Zae]
      calc off + idx * Zaf sh < Zaf sh + idx * Zaf sh := by omega
        _ = (idx + 1) * Zaf sh := by rw [Nat.succ_mul]; omega
        _ <= m * Zaf sh := Nat.mul_le_mul_right _ h1
theorem Zjy (k : IntKind) (n : Nat) (xs : List Int) (i : Nat) (m : Int) (h : i < n) (h' : i < xs.length) :
    Zar k n (xs.set i m) = (Zar k n xs).set i (.int k m) := by
  apply List.ext_getElem?
  intro j
  rw [List.getElem?_set]
  by_cases hij : i = j
  · subst hij
    rw [if_pos rfl, if_pos (by rw [Zac]; exact h), ZaF _ _ _ _ h]
    simp [h']
  · rw [if_neg hij]
    rcases Nat.lt_or_ge j n with hj | hj
    · rw [ZaF _ _ _ _ hj, ZaF _ _ _ _ hj]
      simp [hij]
    · rw [List.getElem?_eq_none (by rw [Zac]; exact hj), List.getElem?_eq_none (by rw [Zac]; exact hj)]
theorem Zc7 (sh : List Leaf) : ∀ (xs : List (Tup sh)), Zaj sh xs.length xs = xs.flatMap (Zay sh)
  | [] => rfl
  | x :: r => by
    have ih := Zc7 sh r
    unfold Zaj at ih ⊢
    rw [List.length_cons, List.range_succ_eq_map, List.flatMap_cons, List.flatMap_cons, List.flatMap_map]
    simp only [List.getD_cons_zero, List.getD_cons_succ]
    rw [ih]
theorem ZaU {sh : List Leaf} {n : Nat} {xs : List (Tup sh)} (h : xs.length = n) : Zaj sh n xs = xs.flatMap (Zay sh) := by
  subst h; exact Zc7 sh xs
theorem ZdE {sh : List Leaf} {n : Nat} {xs : List (Tup sh)} {i : Nat} {t : Tup sh} (h : i < n) (hx : xs.length = n) :
    Zaj sh n (xs.set i t) = (Zaj sh n xs).take (i * Zaf sh) ++ Zay sh t ++ (Zaj sh n xs).drop (i * Zaf sh + Zaf sh) := by
  have hl : ∀ ys : List (Tup sh), (ys.flatMap (Zay sh)).length = ys.length * Zaf sh := fun ys => by
    rw [<- Zc7, Zae]
  have hi : i < xs.length := by omega
  have e1 : xs = xs.take i ++ xs[i] :: xs.drop (i + 1) := by rw [<- List.drop_eq_getElem_cons hi, List.take_append_drop]
  have e2 : xs.set i t = xs.take i ++ t :: xs.drop (i + 1) := List.set_eq_take_append_cons_drop.trans (by rw [if_pos hi])
  have l1 : ((xs.take i).flatMap (Zay sh)).length = i * Zaf sh := by rw [hl, List.length_take]; congr 1; omega
  rw [ZaU (by rw [List.length_set, hx]), ZaU hx, e2]
  conv => rhs; rw [e1]
  simp only [List.flatMap_append, List.flatMap_cons]
  rw [List.take_left' l1, List.drop_append, List.drop_of_length_le (l := (xs.take i).flatMap (Zay sh)) (by omega), l1, List.nil_append, show i * Zaf sh + Zaf sh - i * Zaf sh = Zaf sh by omega, List.drop_left' (Zao _ _), List.append_assoc]
theorem ZgD {ρ : Rho} {v : SVal} : ∀ (l : Leaf) (x : l.T) (off : Nat) (K : l.T -> Prop), Zol l x off v K -> ∃ y, K y /\ off < l.len /\ l.conc y = (l.conc x).set off (v.conc ρ)
  | .int k, x, off, K, h => by
    simp only [Zol] at h
    obtain ⟨h0, g⟩ := Zal h
    clear h
    have := Zat h0; subst this
    split at g
    · obtain ⟨h1, g1⟩ := Zal g
      obtain rfl := Zcz h1
      exact ⟨_, g1, by simp [Leaf.len], by simp [Leaf.conc, SVal.conc]⟩
    · exact g.elim
  | .bool, x, off, K, h => by
    simp only [Zol] at h
    obtain ⟨h0, g⟩ := Zal h
    clear h
    have := Zat h0; subst this
    split at g
    · exact ⟨_, g, by simp [Leaf.len], by simp [Leaf.conc, SVal.conc]⟩
    · exact g.elim
  | .ints _ _, _, _, _, h => h.elim
  | .hd, _, _, _, h => h.elim
theorem Zgl {ρ : Rho} {v : SVal} : ∀ (sh : List Leaf) (x : Tup sh) (off : Nat) (K : Tup sh -> Prop), Zo7 sh x off v K -> ∃ y, K y /\ off < Zaf sh /\ Zay sh y = (Zay sh x).set off (v.conc ρ)
  | [], _, _, _, h => h.elim
  | [l], x, off, K, h => by
    obtain ⟨y, h1, h2, h3⟩ := ZgD (ρ := ρ) l x off K h
    exact ⟨y, h1, by simpa [Zaf] using h2, h3⟩
  | l :: m :: r, x, off, K, h => by
    simp only [Zo7] at h
    cases hb : Nat.ble l.len off with
    | true =>
      rw [hb] at h
      obtain ⟨y, h1, h2, h3⟩ := Zgl (ρ := ρ) (m :: r) x.2 _ _ h
      have := Nat.le_of_ble_eq_true hb
      refine ⟨_, h1, by simp only [Zaf] at *; omega, ?_⟩
      simp only [Zay]
      rw [List.set_append_right _ _ (by rw [ZaV]; exact this), ZaV, h3]
    | false =>
      rw [hb] at h
      obtain ⟨y, h1, h2, h3⟩ := ZgD (ρ := ρ) l x.1 off _ h
      refine ⟨_, h1, by simp only [Zaf] at *; omega, ?_⟩
      simp only [Zay]
      rw [List.set_append_left _ _ (by rw [ZaV]; exact h2), h3]
theorem Zgm {idx st : Nat} {v : SVal} {ρ : Rho} {n : Nat} (hv : v.ok ρ n) : ∀ (cs : List Chunk) (K : List Chunk -> Prop) (off : Nat), wrC idx st v K cs off -> ZaN ρ n cs ->
    ∃ cs', K cs' /\ ZaN ρ n cs' /\ Zai cs' = Zai cs /\ off + idx * st < Zai cs /\ Zag ρ cs' = (Zag ρ cs).set (off + idx * st) (v.conc ρ)
  | [], _, _, h, _ => h.elim
  | .one u :: r, K, off, h, hok => by
    simp only [ZaN, Chunk.ok] at hok
    simp only [wrC] at h
    cases hb : Nat.beq off 0 with
    | true =>
      rw [hb] at h
      obtain ⟨h0, hK⟩ := Zal h
      obtain rfl := Zat h0
      have := beq_zero.1 hb
      subst this
      exact ⟨_, hK, by simp only [ZaN, Chunk.ok]; exact ⟨hv, hok.2⟩, by simp [Zai, Chunk.len], by simp [Zai, Chunk.len]; omega, by simp [Zag, Chunk.conc]⟩
    | false =>
      rw [hb] at h
      obtain ⟨cs', h1, h2, h3, h4, h5⟩ := Zgm hv r _ _ h hok.2
      have := Za7 hb
      refine ⟨_, h1, by simp only [ZaN, Chunk.ok]; exact ⟨hok.1, h2⟩, by simp [Zai, h3], by simp [Zai, Chunk.len]; omega, ?_⟩
      simp only [Zag, Chunk.conc, h5]
      rw [List.set_append_right _ _ (by simp; omega)]
      congr 2
      simp; omega
  | .ints k m xs :: r, K, off, h, hok => by
    simp only [ZaN] at hok
    simp only [wrC] at h
    cases hb : Nat.beq off 0 with
    | true =>
      rw [hb] at h
      simp only [cond_true] at h
      split at h
      · rename_i k' m'
        obtain ⟨h0, h1, h2, hK⟩ := Zal h
        rw [Bool.and_eq_true] at h0
        obtain rfl := Zcz h0.1
        obtain rfl := Zat h0.2
        have := beq_zero.1 hb
        subst this
        refine ⟨_, hK, by simp only [ZaN, Chunk.ok]; exact ⟨trivial, hok.2⟩, by simp [Zai, Chunk.len], by simp [Zai, Chunk.len]; omega, ?_⟩
        simp only [Zag, Chunk.conc, SVal.conc, Nat.zero_add, Nat.mul_one]
        rw [List.set_append_left _ _ (by rw [Zac]; exact h1), Zjy _ _ _ _ _ h1 h2]
      · exact h.elim
    | false =>
      rw [hb] at h
      obtain ⟨hle, h⟩ := Zal h
      have hle := Nat.le_of_ble_eq_true hle
      obtain ⟨cs', h1, h2, h3, h4, h5⟩ := Zgm hv r _ _ h hok.2
      refine ⟨_, h1, by simp only [ZaN, Chunk.ok]; exact ⟨trivial, h2⟩, by simp [Zai, h3], by simp [Zai, Chunk.len]; omega, ?_⟩
      simp only [Zag, Chunk.conc, h5]
      rw [List.set_append_right _ _ (by rw [Zac]; omega), Zac]
      congr 2
      omega
  | .rows sh m xs :: r, K, off, h, hok => by
    simp only [ZaN] at hok
    simp only [wrC] at h
    obtain ⟨h0, h1, h2, g⟩ := Zal h
    clear h
    have h0 := Zat h0
    subst h0
    obtain ⟨t, hK, h3, h4⟩ := Zgl (ρ := ρ) sh _ _ _ g
    have hin : off + idx * Zaf sh < m * Zaf sh := by
      have : (idx + 1) * Zaf sh <= m * Zaf sh := Nat.mul_le_mul_right _ h1
      rw [Nat.add_mul] at this; omega
    refine ⟨_, hK, by simp only [ZaN, Chunk.ok]; exact ⟨trivial, hok.2⟩, by simp [Zai, Chunk.len], by simp only [Zai, Chunk.len]; omega, ?_⟩
    simp only [Zag, Chunk.conc]
    rw [List.set_append_left _ _ (by rw [Zae]; exact hin)]
    congr 1
    have e1 : Zaj sh m xs = (Zaj sh m xs).take (idx * Zaf sh) ++ Zay sh (xs.getD idx (Tup.dflt sh)) ++ (Zaj sh m xs).drop (idx * Zaf sh + Zaf sh) := by
      conv => lhs; rw [show xs = xs.set idx (xs.getD idx (Tup.dflt sh)) by rw [List.getD_eq_getElem?_getD, List.getElem?_eq_getElem (by omega)]; simp]
      exact ZdE h1 h2
    have hl : ((Zaj sh m xs).take (idx * Zaf sh)).length = idx * Zaf sh := by rw [List.length_take, Zae]; omega
    rw [ZdE h1 h2, h4]
    conv => rhs; rw [e1]
    rw [List.append_assoc, List.append_assoc, List.set_append_right _ _ (by rw [hl]; omega), hl, show off + idx * Zaf sh - idx * Zaf sh = off by omega, List.set_append_left _ _ (by rw [Zao]; exact h3)]
theorem Zc4 {ρ : Rho} {n : Nat} : ∀ (cs : List Chunk) (K : List Chunk -> Prop) (sz : Nat), ZhT K cs sz -> ZaN ρ n cs ->
    ∃ l, K l /\ ZaN ρ n l /\ Zai l = sz /\ sz <= Zai cs /\ Zag ρ l = (Zag ρ cs).take sz
  | [], K, sz, h, _ => by
    obtain ⟨h0, hK⟩ := Zal h
    obtain rfl := Zat h0
    exact ⟨_, hK, by simp [ZaN], by simp [Zai], by simp [Zai], by simp [Zag]⟩
  | c :: r, K, sz, h, hok => by
    simp only [ZaN] at hok
    simp only [ZhT] at h
    cases hb : Nat.beq sz 0 with
    | true =>
      rw [hb] at h
      have := beq_zero.1 hb
      subst this
      exact ⟨_, h, by simp [ZaN], by simp [Zai], by simp, by simp [Zag]⟩
    | false =>
      rw [hb] at h
      obtain ⟨hle, h⟩ := Zal h
      have hle := Nat.le_of_ble_eq_true hle
      obtain ⟨l, h1, h2, h3, h4, h5⟩ := Zc4 r _ _ h hok.2
      refine ⟨_, h1, by simp only [ZaN]; exact ⟨hok.1, h2⟩, by simp [Zai, h3]; omega, by simp [Zai]; omega, ?_⟩
      simp only [Zag, h5]
      rw [List.take_append, ZaP, List.take_of_length_le (l := c.conc ρ) (by rw [ZaP]; exact hle)]
theorem Zdg {ρ : Rho} {n : Nat} : ∀ (cs : List Chunk) (K : List Chunk -> Prop) (sz : Nat), ZmJ K cs sz -> ZaN ρ n cs ->
    ∃ l, K l /\ ZaN ρ n l /\ Zai l + sz = Zai cs /\ Zag ρ l = (Zag ρ cs).drop sz
  | [], K, sz, h, _ => by
    obtain ⟨h0, hK⟩ := Zal h
    obtain rfl := Zat h0
    exact ⟨_, hK, by simp [ZaN], by simp [Zai], by simp [Zag]⟩
  | c :: r, K, sz, h, hok => by
    have hok0 := hok
    simp only [ZaN] at hok
    simp only [ZmJ] at h
    cases hb : Nat.beq sz 0 with
    | true =>
      rw [hb] at h
      have := beq_zero.1 hb
      subst this
      exact ⟨_, h, hok0, by simp, by simp⟩
    | false =>
      rw [hb] at h
      obtain ⟨hle, h⟩ := Zal h
      have hle := Nat.le_of_ble_eq_true hle
      obtain ⟨l, h1, h2, h3, h4⟩ := Zdg r _ _ h hok.2
      refine ⟨_, h1, h2, by simp [Zai]; omega, ?_⟩
      simp only [Zag, h4]
      rw [List.drop_append, ZaP, List.drop_of_length_le (l := c.conc ρ) (by rw [ZaP]; exact hle), List.nil_append]
theorem ZcB (k : IntKind) (n : Nat) (xs : List Int) (i sz : Nat) (h : i + sz <= n) :
    Zar k sz ((xs.drop i).take sz) = ((Zar k n xs).drop i).take sz := by
  apply List.ext_getElem?
  intro j
  rcases Nat.lt_or_ge j sz with hj | hj
  · rw [ZaF _ _ _ _ hj, List.getElem?_take_of_lt hj, List.getElem?_drop, ZaF _ _ _ _ (by omega)]
    simp [List.getElem?_take_of_lt hj, List.getElem?_drop]
  · rw [List.getElem?_eq_none (by rw [Zac]; exact hj), List.getElem?_eq_none (by simp; omega)]
theorem Zeo {ρ : Rho} : ∀ (l : Leaf) (x : l.T), (Zbh l x).conc ρ = l.conc x
  | .int _, _ => by simp [Zbh, Chunk.conc, Leaf.conc, SVal.conc]
  | .bool, _ => by simp [Zbh, Chunk.conc, Leaf.conc, SVal.conc]
  | .ints _ _, _ => by simp [Zbh, Chunk.conc, Leaf.conc]
  | .hd, _ => by simp [Zbh, Chunk.conc, Leaf.conc, Zaj, Zay]
theorem ZfX {ρ : Rho} {n : Nat} : ∀ (l : Leaf) (x : l.T), (Zbh l x).ok ρ n
  | .int _, _ => by simp [Zbh, Chunk.ok, SVal.ok]
  | .bool, _ => by simp [Zbh, Chunk.ok, SVal.ok]
  | .ints _ _, _ => by simp [Zbh, Chunk.ok]
  | .hd, _ => by simp [Zbh, Chunk.ok]
theorem Zbq {ρ : Rho} : ∀ (sh : List Leaf) (x : Tup sh), Zag ρ (Zba sh x) = Zay sh x
  | [], _ => by simp [Zba, Zag, Zay]
  | [l], x => by simp [Zba, Zag, Zay, Zeo]
  | l :: m :: r, x => by
    have := Zbq (ρ := ρ) (m :: r) x.2
    simp only [Zba, Zag, Zay, Zeo, this]
theorem ZfJ {ρ : Rho} {n : Nat} : ∀ (sh : List Leaf) (x : Tup sh), ZaN ρ n (Zba sh x)
  | [], _ => by simp [Zba, ZaN]
  | [l], x => by simp [Zba, ZaN, ZfX]
  | l :: m :: r, x => by
    have := ZfJ (ρ := ρ) (n := n) (m :: r) x.2
    simp only [Zba, ZaN, ZfX, true_and]; exact this
theorem ZmB {α : Type} (f : Nat -> List α) (s : Nat) (hs : ∀ i, (f i).length = s) (n i : Nat) (h : i < n) : (((List.range n).flatMap f).drop (i * s)).take s = f i := by
  apply List.ext_getElem?
  intro j
  rcases Nat.lt_or_ge j s with hj | hj
  · rw [List.getElem?_take_of_lt hj, List.getElem?_drop]
    exact ZhW f s hs n i j h hj
  · rw [List.getElem?_eq_none (by simp; omega), List.getElem?_eq_none (by rw [hs]; exact hj)]
theorem ZeX {idx st sz : Nat} {K : List Chunk -> Prop} {ρ : Rho} {n : Nat} : ∀ (cs : List Chunk) (off : Nat), rdA idx st sz K cs off -> ZaN ρ n cs ->
    ∃ l, K l /\ ZaN ρ n l /\ Zai l = sz /\ off + idx * st + sz <= Zai cs /\ Zag ρ l = ((Zag ρ cs).drop (off + idx * st)).take sz
  | [], _, h, _ => h.elim
  | .one v :: r, off, h, hok => by
    have hok0 := hok
    simp only [ZaN, Chunk.ok] at hok
    simp only [rdA] at h
    cases hb : Nat.beq off 0 with
    | true =>
      rw [hb] at h
      obtain ⟨h0, h⟩ := Zal h
      obtain rfl := Zat h0
      have := beq_zero.1 hb
      subst this
      obtain ⟨l, h1, h2, h3, h4, h5⟩ := Zc4 _ _ _ h hok0
      exact ⟨l, h1, h2, h3, by simpa using h4, by simpa using h5⟩
    | false =>
      rw [hb] at h
      obtain ⟨l, h1, h2, h3, h4, h5⟩ := ZeX r _ h hok.2
      have := Za7 hb
      refine ⟨l, h1, h2, h3, by simp [Zai, Chunk.len]; omega, ?_⟩
      simp only [Zag, Chunk.conc]
      rw [List.drop_append, List.drop_of_length_le (by simp; omega), List.nil_append, h5]
      congr 2
      simp; omega
  | .ints k m xs :: r, off, h, hok => by
    have hok0 := hok
    simp only [ZaN] at hok
    simp only [rdA] at h
    cases hb : Nat.beq off 0 with
    | true =>
      rw [hb] at h
      have := beq_zero.1 hb
      subst this
      simp only [cond_true] at h
      cases hc : Nat.ble m sz with
      | true =>
        rw [hc] at h
        obtain ⟨h0, h⟩ := Zal h
        obtain rfl := Zat h0
        obtain ⟨l, h1, h2, h3, h4, h5⟩ := Zc4 _ _ _ h hok0
        exact ⟨l, h1, h2, h3, by simpa using h4, by simpa using h5⟩
      | false =>
        rw [hc] at h
        obtain ⟨h0, h1, hK⟩ := Zal h
        obtain rfl := Zat h0
        refine ⟨_, hK, by simp [ZaN, Chunk.ok], by simp [Zai, Chunk.len], by simp [Zai, Chunk.len]; omega, ?_⟩
        simp only [Zag, Chunk.conc, List.append_nil, Nat.zero_add, Nat.mul_one]
        rw [ZcB _ _ _ _ _ h1, List.drop_append_of_le_length (by rw [Zac]; omega),
          List.take_append_of_le_length (by rw [List.length_drop, Zac]; omega)]
    | false =>
      rw [hb] at h
      obtain ⟨hle, h⟩ := Zal h
      have hle := Nat.le_of_ble_eq_true hle
      obtain ⟨l, h1, h2, h3, h4, h5⟩ := ZeX r _ h hok.2
      refine ⟨l, h1, h2, h3, by simp [Zai, Chunk.len]; omega, ?_⟩
      simp only [Zag, Chunk.conc]
      rw [List.drop_append, List.drop_of_length_le (by rw [Zac]; omega), List.nil_append, Zac, h5]
      congr 2
      omega
  | .rows sh m xs :: r, off, h, hok => by
    simp only [rdA] at h
    obtain ⟨h0, h1, hK⟩ := Zal h
    obtain rfl := Zat h0
    obtain ⟨l1, g1, g2, g3, g4⟩ := Zdg (ρ := ρ) (n := n) _ _ _ hK (ZfJ _ _)
    obtain ⟨l, g5, g6, g7, g8, g9⟩ := Zc4 (ρ := ρ) (n := n) _ _ _ g1 g2
    have hlen : (idx + 1) * Zaf sh <= m * Zaf sh := Nat.mul_le_mul_right _ h1
    rw [Nat.succ_mul] at hlen
    rw [<- Zan ρ (Zba sh _), Zbq, Zao] at g3
    refine ⟨l, g5, g6, g7, by simp [Zai, Chunk.len]; omega, ?_⟩
    rw [g9, g4, Zbq]
    simp only [Zag, Chunk.conc]
    rw [List.drop_append_of_le_length (by rw [Zae]; omega), List.take_append_of_le_length (by rw [List.length_drop, Zae]; omega)]
    unfold Zaj
    have hsl := ZmB (fun i => Zay sh (xs.getD i (Tup.dflt sh))) (Zaf sh) (fun i => Zao _ _) m idx h1
    rw [<- hsl, List.drop_take, List.drop_drop, List.take_take, Nat.min_eq_left (by omega), Nat.add_comm off]
theorem Zdn {ρ : Rho} : ∀ (a b : List Chunk), Zag ρ (a ++ b) = Zag ρ a ++ Zag ρ b
  | [], b => by simp [Zag]
  | c :: r, b => by simp [Zag, Zdn r b]
theorem Zex {ρ : Rho} {n : Nat} : ∀ {a b : List Chunk}, ZaN ρ n a -> ZaN ρ n b -> ZaN ρ n (a ++ b)
  | [], _, _, hb => hb
  | c :: r, b, ha, hb => by simp only [ZaN, List.cons_append] at *; exact ⟨ha.1, Zex ha.2 hb⟩
theorem ZdI : ∀ (a b : List Chunk), Zai (a ++ b) = Zai a + Zai b
  | [], b => by simp [Zai]
  | c :: r, b => by simp [Zai, ZdI r b]; omega
theorem Zcc {α : Type} (A B C : List α) (j : Nat) : (A ++ B ++ C)[j]? = if j < A.length then A[j]? else if j < A.length + B.length then B[j - A.length]? else C[j - A.length - B.length]? := by
  rw [List.getElem?_append, List.length_append]
  by_cases h1 : j < A.length
  · rw [if_pos (by omega), if_pos h1, List.getElem?_append_left h1]
  · by_cases h2 : j < A.length + B.length
    · rw [if_pos h2, if_neg h1, if_pos h2, List.getElem?_append_right (by omega)]
    · rw [if_neg h2, if_neg h1, if_neg h2, Nat.sub_sub]
theorem ZdL (k : IntKind) (n : Nat) (xs ys : List Int) (i sz : Nat) (h : i + sz <= n) (hx : xs.length = n) (hy : ys.length = sz) :
    Zar k n (xs.take i ++ ys ++ xs.drop (i + sz)) = (Zar k n xs).take i ++ Zar k sz ys ++ (Zar k n xs).drop (i + sz) := by
  apply List.ext_getElem?
  intro j
  have l1 : (xs.take i).length = i := by simp; omega
  have l2 : ((Zar k n xs).take i).length = i := by simp [Zac]; omega
  rw [Zcc, l2, Zac]
  rcases Nat.lt_or_ge j n with hj | hj
  · rw [ZaF _ _ _ _ hj, List.getD_eq_getElem?_getD, Zcc, l1, hy]
    by_cases h1 : j < i
    · rw [if_pos h1, if_pos h1, List.getElem?_take_of_lt h1, List.getElem?_take_of_lt h1, ZaF _ _ _ _ hj, List.getD_eq_getElem?_getD]
    · rw [if_neg h1, if_neg h1]
      by_cases h2 : j < i + sz
      · rw [if_pos h2, if_pos h2, ZaF _ _ _ _ (by omega), List.getD_eq_getElem?_getD]
      · rw [if_neg h2, if_neg h2, List.getElem?_drop, List.getElem?_drop, show i + sz + (j - i - sz) = j by omega, ZaF _ _ _ _ hj, List.getD_eq_getElem?_getD]
  · rw [List.getElem?_eq_none (by rw [Zac]; exact hj), if_neg (by omega), if_neg (by omega), List.getElem?_eq_none (by simp [Zac]; omega)]
theorem ZfK {ρ : Rho} : ∀ (l : Leaf) (c : Chunk) (K : l.T -> Prop), Zhk l c K -> ∃ x, K x /\ c.conc ρ = l.conc x
  | .int k, c, K, h => by
    simp only [Zhk] at h
    split at h
    · obtain ⟨h0, h⟩ := Zal h
      obtain rfl := Zcz h0
      exact ⟨_, h, by simp [Chunk.conc, SVal.conc, Leaf.conc]⟩
    · exact h.elim
  | .bool, c, K, h => by
    simp only [Zhk] at h
    split at h
    · exact ⟨_, h, by simp [Chunk.conc, SVal.conc, Leaf.conc]⟩
    · exact h.elim
  | .ints k n, c, K, h => by
    simp only [Zhk] at h
    split at h
    · obtain ⟨h0, h⟩ := Zal h
      rw [Bool.and_eq_true] at h0
      obtain rfl := Zcz h0.1
      obtain rfl := Zat h0.2
      exact ⟨_, h, by simp [Chunk.conc, Leaf.conc]⟩
    · exact h.elim
  | .hd, _, _, h => h.elim
theorem Zew {ρ : Rho} : ∀ (sh : List Leaf) (cs : List Chunk) (K : Tup sh -> Prop), Zmt sh cs K -> ∃ x, K x /\ Zag ρ cs = Zay sh x
  | [], _, _, h => h.elim
  | [l], cs, K, h => by
    simp only [Zmt] at h
    split at h
    · obtain ⟨x, h1, h2⟩ := ZfK (ρ := ρ) _ _ _ h
      exact ⟨x, h1, by simp [Zag, h2, Zay]⟩
    · exact h.elim
  | l :: m :: r, cs, K, h => by
    simp only [Zmt] at h
    split at h
    · obtain ⟨x, h1, h2⟩ := ZfK (ρ := ρ) _ _ _ h
      obtain ⟨y, h3, h4⟩ := Zew (ρ := ρ) (m :: r) _ _ h1
      exact ⟨(x, y), h3, by simp only [Zag, h2, h4, Zay]⟩
    · exact h.elim
theorem ZdC {idx st sz : Nat} {new : List Chunk} {ρ : Rho} {n : Nat} (hnew : ZaN ρ n new) (hsz : Zai new = sz) : ∀ (cs : List Chunk) (K : List Chunk -> Prop) (off : Nat), wrA idx st sz new K cs off -> ZaN ρ n cs ->
    ∃ cs', K cs' /\ ZaN ρ n cs' /\ Zai cs' = Zai cs /\ off + idx * st + sz <= Zai cs /\
      Zag ρ cs' = (Zag ρ cs).take (off + idx * st) ++ Zag ρ new ++ (Zag ρ cs).drop (off + idx * st + sz)
  | [], _, _, h, _ => h.elim
  | .one v :: r, K, off, h, hok => by
    have hok0 := hok
    simp only [ZaN, Chunk.ok] at hok
    simp only [wrA] at h
    cases hb : Nat.beq off 0 with
    | true =>
      rw [hb] at h
      obtain ⟨h0, h⟩ := Zal h
      obtain rfl := Zat h0
      have := beq_zero.1 hb
      subst this
      obtain ⟨l, h1, h2, h3, h4⟩ := Zdg _ _ _ h hok0
      refine ⟨_, h1, Zex hnew h2, by rw [ZdI]; omega, by simp; omega, ?_⟩
      rw [Zdn, h4]; simp
    | false =>
      rw [hb] at h
      obtain ⟨cs', h1, h2, h3, h4, h5⟩ := ZdC hnew hsz r _ _ h hok.2
      have := Za7 hb
      refine ⟨_, h1, by simp only [ZaN, Chunk.ok]; exact ⟨hok.1, h2⟩, by simp [Zai, h3], by simp [Zai, Chunk.len]; omega, ?_⟩
      simp only [Zag, Chunk.conc, h5]
      rw [show off + idx * st = (off - 1 + idx * st) + 1 by omega, show off - 1 + idx * st + 1 + sz = (off - 1 + idx * st + sz) + 1 by omega]
      simp
  | .ints k m xs :: r, K, off, h, hok => by
    have hok0 := hok
    simp only [ZaN] at hok
    simp only [wrA] at h
    cases hb : Nat.beq off 0 with
    | true =>
      rw [hb] at h
      have := beq_zero.1 hb
      subst this
      simp only [cond_true] at h
      cases hc : Nat.ble m sz with
      | true =>
        rw [hc] at h
        obtain ⟨h0, h⟩ := Zal h
        obtain rfl := Zat h0
        obtain ⟨l, h1, h2, h3, h4⟩ := Zdg _ _ _ h hok0
        refine ⟨_, h1, Zex hnew h2, by rw [ZdI]; omega, by simp; omega, ?_⟩
        rw [Zdn, h4]; simp
      | false =>
        rw [hc] at h
        simp only [cond_false] at h
        split at h
        · rename_i k' m' ys
          obtain ⟨h0, h1, h2, h3, hK⟩ := Zal h
          rw [Bool.and_eq_true, Bool.and_eq_true] at h0
          obtain rfl := Zcz h0.1.1
          obtain rfl := Zat h0.1.2
          obtain rfl := Zat h0.2
          refine ⟨_, hK, by simp only [ZaN, Chunk.ok]; exact ⟨trivial, hok.2⟩, by simp [Zai, Chunk.len], by simp [Zai, Chunk.len]; omega, ?_⟩
          simp only [Zag, Chunk.conc, List.append_nil, Nat.zero_add, Nat.mul_one]
          rw [ZdL _ _ _ _ _ _ h1 h2 h3, List.take_append_of_le_length (by rw [Zac]; omega), List.drop_append_of_le_length (by rw [Zac]; omega)]
          simp
        · exact h.elim
    | false =>
      rw [hb] at h
      obtain ⟨hle, h⟩ := Zal h
      have hle := Nat.le_of_ble_eq_true hle
      obtain ⟨cs', h1, h2, h3, h4, h5⟩ := ZdC hnew hsz r _ _ h hok.2
      refine ⟨_, h1, by simp only [ZaN, Chunk.ok]; exact ⟨trivial, h2⟩, by simp [Zai, h3], by simp [Zai, Chunk.len]; omega, ?_⟩
      simp only [Zag, Chunk.conc, h5]
      rw [List.take_append, List.drop_append, Zac, List.take_of_length_le (l := Zar k m xs) (by rw [Zac]; omega), List.drop_of_length_le (l := Zar k m xs) (by rw [Zac]; omega),
        show off + idx * st - m = off - m + idx * st by omega, show off + idx * st + sz - m = off - m + idx * st + sz by omega]
      simp
  | .rows sh m xs :: r, K, off, h, hok => by
    simp only [ZaN] at hok
    simp only [wrA] at h
    obtain ⟨h0, h1, h2, h3⟩ := Zal h
    clear h
    rw [Bool.and_eq_true, Bool.and_eq_true] at h0
    have := beq_zero.1 h0.1.1
    subst this
    obtain rfl := Zat h0.1.2
    obtain rfl := Zat h0.2
    obtain ⟨t, hK, ht⟩ := Zew (ρ := ρ) _ _ _ h3
    have hle : idx * Zaf sh + Zaf sh <= m * Zaf sh := by rw [<- Nat.succ_mul]; exact Nat.mul_le_mul_right _ h1
    refine ⟨_, hK, by simp only [ZaN, Chunk.ok]; exact ⟨trivial, hok.2⟩, by simp [Zai, Chunk.len], by simp only [Zai, Chunk.len]; omega, ?_⟩
    simp only [Zag, Chunk.conc, Nat.zero_add, ht]
    rw [ZdE h1 h2, List.take_append_of_le_length (by rw [Zae]; omega), List.drop_append_of_le_length (by rw [Zae]; exact hle)]
    simp only [List.append_assoc]
end Go.Sx
