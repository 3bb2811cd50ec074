/- Part of the proof: SxChunk. -/
import Derived.Test.YtfffjdfegnmejaaSxEv
set_option linter.unusedVariables false
set_option linter.unusedSimpArgs false
namespace Go.Sx
theorem Zb6 {a b : IntKind} (h : kEq a b = true) : a = b := by cases a <;> cases b <;> first | rfl | cases h
theorem Zai {c : Bool} {A : Prop} (h : bif c then A else False) : c = true /\ A := by
  cases c with
  | false => exact h.elim
  | true => exact ⟨rfl, h⟩
theorem Zaq {m n : Nat} (h : Nat.beq m n = true) : m = n := Nat.eq_of_beq_eq_true h
theorem beq_zero {n : Nat} : Nat.beq n 0 = true ↔ n = 0 := ⟨fun h => Nat.eq_of_beq_eq_true h, fun h => by subst h; rfl⟩
theorem Zbc {n : Nat} (h : Nat.beq n 0 = false) : n ≠ 0 := fun h' => by subst h'; cases h
theorem Zov {m n : Nat} (h : Nat.ble m n = false) : n < m := by
  rcases Nat.lt_or_ge n m with h' | h'
  · exact h'
  · rw [Nat.ble_eq_true_of_le h'] at h; cases h
theorem ZjA {K : SVal -> Prop} {off : Nat} {ρ : Rho} {n : Nat} : ∀ (l : Leaf) (x : l.T), ZEq K off l x -> ∃ v, K v /\ v.ok ρ n /\ (l.conc x)[off]? = some (v.conc ρ)
  | .int k, x, h => by obtain ⟨h0, hK⟩ := Zai h; obtain rfl := Zaq h0; exact ⟨_, hK, by simp [SVal.ok], by simp [Leaf.conc, SVal.conc]⟩
  | .bool, x, h => by obtain ⟨h0, hK⟩ := Zai h; obtain rfl := Zaq h0; exact ⟨_, hK, by simp [SVal.ok], by simp [Leaf.conc, SVal.conc]⟩
  | .ints k m, x, h => by
    obtain ⟨h1, hK⟩ := h
    exact ⟨_, hK, by simp [SVal.ok], by simp only [Leaf.conc, SVal.conc]; exact Zaw _ _ _ _ h1⟩
  | .hd, _, h => h.elim
theorem Zif {K : SVal -> Prop} {ρ : Rho} {n : Nat} : ∀ (sh : List Leaf) (x : Tup sh) (off : Nat), ZrX K sh x off -> ∃ v, K v /\ v.ok ρ n /\ (ZaB sh x)[off]? = some (v.conc ρ)
  | [], _, _, h => h.elim
  | [l], x, off, h => ZjA l x h
  | l :: m :: r, x, off, h => by
    simp only [ZrX] at h
    cases hb : Nat.ble l.len off with
    | true =>
      rw [hb] at h
      obtain ⟨v, h1, h2, h3⟩ := Zif (m :: r) x.2 _ h
      have := Nat.le_of_ble_eq_true hb
      refine ⟨v, h1, h2, ?_⟩
      simp only [ZaB]
      rw [List.getElem?_append_right (by rw [ZaU]; exact this), ZaU]
      exact h3
    | false =>
      rw [hb] at h
      obtain ⟨v, h1, h2, h3⟩ := ZjA l x.1 h
      refine ⟨v, h1, h2, ?_⟩
      simp only [ZaB]
      rw [List.getElem?_append_left (by rw [ZaU]; exact Zov hb)]
      exact h3
theorem Zls {α : Type} (f : Nat -> List α) (s : Nat) (hs : ∀ i, (f i).length = s) : ∀ (n i j : Nat), i < n -> j < s -> ((List.range n).flatMap f)[i * s + j]? = (f i)[j]?
  | 0, _, _, h, _ => by omega
  | n + 1, i, j, h, hj => by
    rw [List.range_succ, List.flatMap_append]
    rcases Nat.lt_or_ge i n with h' | h'
    · rw [List.getElem?_append_left]
      · exact Zls f s hs n i j h' hj
      · rw [Za0 f s hs]
        calc i * s + j < i * s + s := by omega
          _ = (i + 1) * s := by rw [Nat.succ_mul]
          _ <= n * s := Nat.mul_le_mul_right _ h'
    · have : i = n := by omega
      subst this
      rw [List.getElem?_append_right (by rw [Za0 f s hs]; omega), Za0 f s hs]
      simp
theorem ZgC {idx st : Nat} {K : SVal -> Prop} {ρ : Rho} {n : Nat} : ∀ (cs : List Chunk) (off : Nat), rdC idx st K cs off -> ZaE ρ n cs ->
    ∃ v, K v /\ v.ok ρ n /\ (Zab ρ cs)[off + idx * st]? = some (v.conc ρ)
  | [], _, h, _ => h.elim
  | .one v :: r, off, h, hok => by
    simp only [ZaE, Chunk.ok] at hok
    simp only [rdC] at h
    cases hb : Nat.beq off 0 with
    | true =>
      rw [hb] at h
      obtain ⟨h0, hK⟩ := Zai h
      obtain rfl := Zaq h0
      have := beq_zero.1 hb
      subst this
      exact ⟨v, hK, hok.1, by simp [Zab, Chunk.conc]⟩
    | false =>
      rw [hb] at h
      obtain ⟨u, h1, h2, h3⟩ := ZgC r _ h hok.2
      have := Zbc hb
      refine ⟨u, h1, h2, ?_⟩
      simp only [Zab, Chunk.conc]
      rw [List.getElem?_append_right (by simp; omega)]
      rw [show off + idx * st - [v.conc ρ].length = off - 1 + idx * st by simp; omega]
      exact h3
  | .ints k m xs :: r, off, h, hok => by
    simp only [ZaE] at hok
    simp only [rdC] at h
    cases hb : Nat.beq off 0 with
    | true =>
      rw [hb] at h
      obtain ⟨h0, h1, hK⟩ := Zai h
      obtain rfl := Zaq h0
      have := beq_zero.1 hb
      subst this
      refine ⟨_, hK, by simp [SVal.ok], ?_⟩
      simp only [Zab, Chunk.conc, SVal.conc, Nat.zero_add, Nat.mul_one]
      rw [List.getElem?_append_left (by rw [Zac]; exact h1)]
      exact Zaw _ _ _ _ h1
    | false =>
      rw [hb] at h
      obtain ⟨hle, h⟩ := Zai h
      have hle := Nat.le_of_ble_eq_true hle
      obtain ⟨u, h1, h2, h3⟩ := ZgC r _ h hok.2
      refine ⟨u, h1, h2, ?_⟩
      simp only [Zab, Chunk.conc]
      rw [List.getElem?_append_right (by rw [Zac]; omega), Zac]
      rw [show off + idx * st - m = off - m + idx * st by omega]
      exact h3
  | .rows sh m xs :: r, off, h, hok => by
    simp only [rdC] at h
    obtain ⟨h0, h1, h2⟩ := Zai h
    obtain rfl := Zaq h0
    obtain ⟨v, h3, h4, h5⟩ := Zif (ρ := ρ) (n := n) sh _ off h2
    refine ⟨v, h3, h4, ?_⟩
    have hoff : off < Zaj sh := by
      have := (List.getElem?_eq_some_iff.1 h5).1
      rwa [Zau] at this
    have key := Zls (fun i => ZaB sh (xs.getD i (Tup.dflt sh))) (Zaj sh) (fun i => Zau _ _) m idx off h1 hoff
    simp only [Zab, Chunk.conc]
    rw [List.getElem?_append_left]
    · rw [Nat.add_comm off]
      unfold Zal
      rw [key]; exact h5
    · rw [Zag]
      calc off + idx * Zaj sh < Zaj sh + idx * Zaj sh := by omega
        _ = (idx + 1) * Zaj sh := by rw [Nat.succ_mul]; omega
        _ <= m * Zaj sh := Nat.mul_le_mul_right _ h1
theorem Zn6 (k : IntKind) (n : Nat) (xs : List Int) (i : Nat) (m : Int) (h : i < n) (h' : i < xs.length) :
    Zap k n (xs.set i m) = (Zap k n xs).set i (.int k m) := by
  apply List.ext_getElem?
  intro j
  rw [List.getElem?_set]
  by_cases hij : i = j
  · subst hij
    rw [if_pos rfl, if_pos (by rw [Zac]; exact h), Zaw _ _ _ _ h]
    simp [h']
  · rw [if_neg hij]
    rcases Nat.lt_or_ge j n with hj | hj
    · rw [Zaw _ _ _ _ hj, Zaw _ _ _ _ hj]
      simp [hij]
    · rw [List.getElem?_eq_none (by rw [Zac]; exact hj), List.getElem?_eq_none (by rw [Zac]; exact hj)]
theorem Zd1 (sh : List Leaf) : ∀ (xs : List (Tup sh)), Zal sh xs.length xs = xs.flatMap (ZaB sh)
  | [] => rfl
  | x :: r => by
    have ih := Zd1 sh r
    unfold Zal at ih ⊢
    rw [List.length_cons, List.range_succ_eq_map, List.flatMap_cons, List.flatMap_cons, List.flatMap_map]
    simp only [List.getD_cons_zero, List.getD_cons_succ]
    rw [ih]
theorem ZaW {sh : List Leaf} {n : Nat} {xs : List (Tup sh)} (h : xs.length = n) : Zal sh n xs = xs.flatMap (ZaB sh) := by
  subst h; exact Zd1 sh xs
theorem ZeY {sh : List Leaf} {n : Nat} {xs : List (Tup sh)} {i : Nat} {t : Tup sh} (h : i < n) (hx : xs.length = n) :
    Zal sh n (xs.set i t) = (Zal sh n xs).take (i * Zaj sh) ++ ZaB sh t ++ (Zal sh n xs).drop (i * Zaj sh + Zaj sh) := by
  have hl : ∀ ys : List (Tup sh), (ys.flatMap (ZaB sh)).length = ys.length * Zaj sh := fun ys => by
    rw [<- Zd1, Zag]
  have hi : i < xs.length := by omega
  have e1 : xs = xs.take i ++ xs[i] :: xs.drop (i + 1) := by rw [<- List.drop_eq_getElem_cons hi, List.take_append_drop]
  have e2 : xs.set i t = xs.take i ++ t :: xs.drop (i + 1) := List.set_eq_take_append_cons_drop.trans (by rw [if_pos hi])
  have l1 : ((xs.take i).flatMap (ZaB sh)).length = i * Zaj sh := by rw [hl, List.length_take]; congr 1; omega
  rw [ZaW (by rw [List.length_set, hx]), ZaW hx, e2]
  conv => rhs; rw [e1]
  simp only [List.flatMap_append, List.flatMap_cons]
  rw [List.take_left' l1, List.drop_append, List.drop_of_length_le (l := (xs.take i).flatMap (ZaB sh)) (by omega), l1, List.nil_append, show i * Zaj sh + Zaj sh - i * Zaj sh = Zaj sh by omega, List.drop_left' (Zau _ _), List.append_assoc]
theorem Zjz {ρ : Rho} {v : SVal} : ∀ (l : Leaf) (x : l.T) (off : Nat) (K : l.T -> Prop), Zwp l x off v K -> ∃ y, K y /\ off < l.len /\ l.conc y = (l.conc x).set off (v.conc ρ)
  | .int k, x, off, K, h => by
    simp only [Zwp] at h
    obtain ⟨h0, g⟩ := Zai h
    clear h
    have := Zaq h0; subst this
    split at g
    · obtain ⟨h1, g1⟩ := Zai g
      obtain rfl := Zb6 h1
      exact ⟨_, g1, by simp [Leaf.len], by simp [Leaf.conc, SVal.conc]⟩
    · exact g.elim
  | .bool, x, off, K, h => by
    simp only [Zwp] at h
    obtain ⟨h0, g⟩ := Zai h
    clear h
    have := Zaq h0; subst this
    split at g
    · exact ⟨_, g, by simp [Leaf.len], by simp [Leaf.conc, SVal.conc]⟩
    · exact g.elim
  | .ints _ _, _, _, _, h => h.elim
  | .hd, _, _, _, h => h.elim
theorem Zi3 {ρ : Rho} {v : SVal} : ∀ (sh : List Leaf) (x : Tup sh) (off : Nat) (K : Tup sh -> Prop), Zyx sh x off v K -> ∃ y, K y /\ off < Zaj sh /\ ZaB sh y = (ZaB sh x).set off (v.conc ρ)
  | [], _, _, _, h => h.elim
  | [l], x, off, K, h => by
    obtain ⟨y, h1, h2, h3⟩ := Zjz (ρ := ρ) l x off K h
    exact ⟨y, h1, by simpa [Zaj] using h2, h3⟩
  | l :: m :: r, x, off, K, h => by
    simp only [Zyx] at h
    cases hb : Nat.ble l.len off with
    | true =>
      rw [hb] at h
      obtain ⟨y, h1, h2, h3⟩ := Zi3 (ρ := ρ) (m :: r) x.2 _ _ h
      have := Nat.le_of_ble_eq_true hb
      refine ⟨_, h1, by simp only [Zaj] at *; omega, ?_⟩
      simp only [ZaB]
      rw [List.set_append_right _ _ (by rw [ZaU]; exact this), ZaU, h3]
    | false =>
      rw [hb] at h
      obtain ⟨y, h1, h2, h3⟩ := Zjz (ρ := ρ) l x.1 off _ h
      refine ⟨_, h1, by simp only [Zaj] at *; omega, ?_⟩
      simp only [ZaB]
      rw [List.set_append_left _ _ (by rw [ZaU]; exact h2), h3]
theorem Zi4 {idx st : Nat} {v : SVal} {ρ : Rho} {n : Nat} (hv : v.ok ρ n) : ∀ (cs : List Chunk) (K : List Chunk -> Prop) (off : Nat), wrC idx st v K cs off -> ZaE ρ n cs ->
    ∃ cs', K cs' /\ ZaE ρ n cs' /\ Zam cs' = Zam cs /\ off + idx * st < Zam cs /\ Zab ρ cs' = (Zab ρ cs).set (off + idx * st) (v.conc ρ)
  | [], _, _, h, _ => h.elim
  | .one u :: r, K, off, h, hok => by
    simp only [ZaE, Chunk.ok] at hok
    simp only [wrC] at h
    cases hb : Nat.beq off 0 with
    | true =>
      rw [hb] at h
      obtain ⟨h0, hK⟩ := Zai h
      obtain rfl := Zaq h0
      have := beq_zero.1 hb
      subst this
      exact ⟨_, hK, by simp only [ZaE, Chunk.ok]; exact ⟨hv, hok.2⟩, by simp [Zam, Chunk.len], by simp [Zam, Chunk.len]; omega, by simp [Zab, Chunk.conc]⟩
    | false =>
      rw [hb] at h
      obtain ⟨cs', h1, h2, h3, h4, h5⟩ := Zi4 hv r _ _ h hok.2
      have := Zbc hb
      refine ⟨_, h1, by simp only [ZaE, Chunk.ok]; exact ⟨hok.1, h2⟩, by simp [Zam, h3], by simp [Zam, Chunk.len]; omega, ?_⟩
      simp only [Zab, Chunk.conc, h5]
      rw [List.set_append_right _ _ (by simp; omega)]
      congr 2
      simp; omega
  | .ints k m xs :: r, K, off, h, hok => by
    simp only [ZaE] at hok
    simp only [wrC] at h
    cases hb : Nat.beq off 0 with
    | true =>
      rw [hb] at h
      simp only [cond_true] at h
      split at h
      · rename_i k' m'
        obtain ⟨h0, h1, h2, hK⟩ := Zai h
        rw [Bool.and_eq_true] at h0
        obtain rfl := Zb6 h0.1
        obtain rfl := Zaq h0.2
        have := beq_zero.1 hb
        subst this
        refine ⟨_, hK, by simp only [ZaE, Chunk.ok]; exact ⟨trivial, hok.2⟩, by simp [Zam, Chunk.len], by simp [Zam, Chunk.len]; omega, ?_⟩
        simp only [Zab, Chunk.conc, SVal.conc, Nat.zero_add, Nat.mul_one]
        rw [List.set_append_left _ _ (by rw [Zac]; exact h1), Zn6 _ _ _ _ _ h1 h2]
      · exact h.elim
    | false =>
      rw [hb] at h
      obtain ⟨hle, h⟩ := Zai h
      have hle := Nat.le_of_ble_eq_true hle
      obtain ⟨cs', h1, h2, h3, h4, h5⟩ := Zi4 hv r _ _ h hok.2
      refine ⟨_, h1, by simp only [ZaE, Chunk.ok]; exact ⟨trivial, h2⟩, by simp [Zam, h3], by simp [Zam, Chunk.len]; omega, ?_⟩
      simp only [Zab, Chunk.conc, h5]
      rw [List.set_append_right _ _ (by rw [Zac]; omega), Zac]
      congr 2
      omega
  | .rows sh m xs :: r, K, off, h, hok => by
    simp only [ZaE] at hok
    simp only [wrC] at h
    obtain ⟨h0, h1, h2, g⟩ := Zai h
    clear h
    have h0 := Zaq h0
    subst h0
    obtain ⟨t, hK, h3, h4⟩ := Zi3 (ρ := ρ) sh _ _ _ g
    have hin : off + idx * Zaj sh < m * Zaj sh := by
      have : (idx + 1) * Zaj sh <= m * Zaj sh := Nat.mul_le_mul_right _ h1
      rw [Nat.add_mul] at this; omega
    refine ⟨_, hK, by simp only [ZaE, Chunk.ok]; exact ⟨trivial, hok.2⟩, by simp [Zam, Chunk.len], by simp only [Zam, Chunk.len]; omega, ?_⟩
    simp only [Zab, Chunk.conc]
    rw [List.set_append_left _ _ (by rw [Zag]; exact hin)]
    congr 1
    have e1 : Zal sh m xs = (Zal sh m xs).take (idx * Zaj sh) ++ ZaB sh (xs.getD idx (Tup.dflt sh)) ++ (Zal sh m xs).drop (idx * Zaj sh + Zaj sh) := by
      conv => lhs; rw [show xs = xs.set idx (xs.getD idx (Tup.dflt sh)) by rw [List.getD_eq_getElem?_getD, List.getElem?_eq_getElem (by omega)]; simp]
      exact ZeY h1 h2
    have hl : ((Zal sh m xs).take (idx * Zaj sh)).length = idx * Zaj sh := by rw [List.length_take, Zag]; omega
    rw [ZeY h1 h2, h4]
    conv => rhs; rw [e1]
    rw [List.append_assoc, List.append_assoc, List.set_append_right _ _ (by rw [hl]; omega), hl, show off + idx * Zaj sh - idx * Zaj sh = off by omega, List.set_append_left _ _ (by rw [Zau]; exact h3)]
theorem ZdZ {ρ : Rho} {n : Nat} : ∀ (cs : List Chunk) (K : List Chunk -> Prop) (sz : Nat), Zln K cs sz -> ZaE ρ n cs ->
    ∃ l, K l /\ ZaE ρ n l /\ Zam l = sz /\ sz <= Zam cs /\ Zab ρ l = (Zab ρ cs).take sz
  | [], K, sz, h, _ => by
    obtain ⟨h0, hK⟩ := Zai h
    obtain rfl := Zaq h0
    exact ⟨_, hK, by simp [ZaE], by simp [Zam], by simp [Zam], by simp [Zab]⟩
  | c :: r, K, sz, h, hok => by
    simp only [ZaE] at hok
    simp only [Zln] at h
    cases hb : Nat.beq sz 0 with
    | true =>
      rw [hb] at h
      have := beq_zero.1 hb
      subst this
      exact ⟨_, h, by simp [ZaE], by simp [Zam], by simp, by simp [Zab]⟩
    | false =>
      rw [hb] at h
      obtain ⟨hle, h⟩ := Zai h
      have hle := Nat.le_of_ble_eq_true hle
      obtain ⟨l, h1, h2, h3, h4, h5⟩ := ZdZ r _ _ h hok.2
      refine ⟨_, h1, by simp only [ZaE]; exact ⟨hok.1, h2⟩, by simp [Zam, h3]; omega, by simp [Zam]; omega, ?_⟩
      simp only [Zab, h5]
      rw [List.take_append, ZaM, List.take_of_length_le (l := c.conc ρ) (by rw [ZaM]; exact hle)]
theorem Zee {ρ : Rho} {n : Nat} : ∀ (cs : List Chunk) (K : List Chunk -> Prop) (sz : Nat), Ztd K cs sz -> ZaE ρ n cs ->
    ∃ l, K l /\ ZaE ρ n l /\ Zam l + sz = Zam cs /\ Zab ρ l = (Zab ρ cs).drop sz
  | [], K, sz, h, _ => by
    obtain ⟨h0, hK⟩ := Zai h
    obtain rfl := Zaq h0
    exact ⟨_, hK, by simp [ZaE], by simp [Zam], by simp [Zab]⟩
  | c :: r, K, sz, h, hok => by
    have hok0 := hok
    simp only [ZaE] at hok
    simp only [Ztd] at h
    cases hb : Nat.beq sz 0 with
    | true =>
      rw [hb] at h
      have := beq_zero.1 hb
      subst this
      exact ⟨_, h, hok0, by simp, by simp⟩
    | false =>
      rw [hb] at h
      obtain ⟨hle, h⟩ := Zai h
      have hle := Nat.le_of_ble_eq_true hle
      obtain ⟨l, h1, h2, h3, h4⟩ := Zee r _ _ h hok.2
      refine ⟨_, h1, h2, by simp [Zam]; omega, ?_⟩
      simp only [Zab, h4]
      rw [List.drop_append, ZaM, List.drop_of_length_le (l := c.conc ρ) (by rw [ZaM]; exact hle), List.nil_append]
theorem Zdt (k : IntKind) (n : Nat) (xs : List Int) (i sz : Nat) (h : i + sz <= n) :
    Zap k sz ((xs.drop i).take sz) = ((Zap k n xs).drop i).take sz := by
  apply List.ext_getElem?
  intro j
  rcases Nat.lt_or_ge j sz with hj | hj
  · rw [Zaw _ _ _ _ hj, List.getElem?_take_of_lt hj, List.getElem?_drop, Zaw _ _ _ _ (by omega)]
    simp [List.getElem?_take_of_lt hj, List.getElem?_drop]
  · rw [List.getElem?_eq_none (by rw [Zac]; exact hj), List.getElem?_eq_none (by simp; omega)]
theorem ZfZ {ρ : Rho} : ∀ (l : Leaf) (x : l.T), (Zbt l x).conc ρ = l.conc x
  | .int _, _ => by simp [Zbt, Chunk.conc, Leaf.conc, SVal.conc]
  | .bool, _ => by simp [Zbt, Chunk.conc, Leaf.conc, SVal.conc]
  | .ints _ _, _ => by simp [Zbt, Chunk.conc, Leaf.conc]
  | .hd, _ => by simp [Zbt, Chunk.conc, Leaf.conc, Zal, ZaB]
theorem Zil {ρ : Rho} {n : Nat} : ∀ (l : Leaf) (x : l.T), (Zbt l x).ok ρ n
  | .int _, _ => by simp [Zbt, Chunk.ok, SVal.ok]
  | .bool, _ => by simp [Zbt, Chunk.ok, SVal.ok]
  | .ints _ _, _ => by simp [Zbt, Chunk.ok]
  | .hd, _ => by simp [Zbt, Chunk.ok]
theorem Zco {ρ : Rho} : ∀ (sh : List Leaf) (x : Tup sh), Zab ρ (Zbf sh x) = ZaB sh x
  | [], _ => by simp [Zbf, Zab, ZaB]
  | [l], x => by simp [Zbf, Zab, ZaB, ZfZ]
  | l :: m :: r, x => by
    have := Zco (ρ := ρ) (m :: r) x.2
    simp only [Zbf, Zab, ZaB, ZfZ, this]
theorem Zib {ρ : Rho} {n : Nat} : ∀ (sh : List Leaf) (x : Tup sh), ZaE ρ n (Zbf sh x)
  | [], _ => by simp [Zbf, ZaE]
  | [l], x => by simp [Zbf, ZaE, Zil]
  | l :: m :: r, x => by
    have := Zib (ρ := ρ) (n := n) (m :: r) x.2
    simp only [Zbf, ZaE, Zil, true_and]; exact this
theorem Zs0 {α : Type} (f : Nat -> List α) (s : Nat) (hs : ∀ i, (f i).length = s) (n i : Nat) (h : i < n) : (((List.range n).flatMap f).drop (i * s)).take s = f i := by
  apply List.ext_getElem?
  intro j
  rcases Nat.lt_or_ge j s with hj | hj
  · rw [List.getElem?_take_of_lt hj, List.getElem?_drop]
    exact Zls f s hs n i j h hj
  · rw [List.getElem?_eq_none (by simp; omega), List.getElem?_eq_none (by rw [hs]; exact hj)]
theorem ZgD {idx st sz : Nat} {K : List Chunk -> Prop} {ρ : Rho} {n : Nat} : ∀ (cs : List Chunk) (off : Nat), rdA idx st sz K cs off -> ZaE ρ n cs ->
    ∃ l, K l /\ ZaE ρ n l /\ Zam l = sz /\ off + idx * st + sz <= Zam cs /\ Zab ρ l = ((Zab ρ cs).drop (off + idx * st)).take sz
  | [], _, h, _ => h.elim
  | .one v :: r, off, h, hok => by
    have hok0 := hok
    simp only [ZaE, Chunk.ok] at hok
    simp only [rdA] at h
    cases hb : Nat.beq off 0 with
    | true =>
      rw [hb] at h
      obtain ⟨h0, h⟩ := Zai h
      obtain rfl := Zaq h0
      have := beq_zero.1 hb
      subst this
      obtain ⟨l, h1, h2, h3, h4, h5⟩ := ZdZ _ _ _ h hok0
      exact ⟨l, h1, h2, h3, by simpa using h4, by simpa using h5⟩
    | false =>
      rw [hb] at h
      obtain ⟨l, h1, h2, h3, h4, h5⟩ := ZgD r _ h hok.2
      have := Zbc hb
      refine ⟨l, h1, h2, h3, by simp [Zam, Chunk.len]; omega, ?_⟩
      simp only [Zab, Chunk.conc]
      rw [List.drop_append, List.drop_of_length_le (by simp; omega), List.nil_append, h5]
      congr 2
      simp; omega
  | .ints k m xs :: r, off, h, hok => by
    have hok0 := hok
    simp only [ZaE] at hok
    simp only [rdA] at h
    cases hb : Nat.beq off 0 with
    | true =>
      rw [hb] at h
      have := beq_zero.1 hb
      subst this
      simp only [cond_true] at h
      cases hc : Nat.ble m sz with
      | true =>
        rw [hc] at h
        obtain ⟨h0, h⟩ := Zai h
        obtain rfl := Zaq h0
        obtain ⟨l, h1, h2, h3, h4, h5⟩ := ZdZ _ _ _ h hok0
        exact ⟨l, h1, h2, h3, by simpa using h4, by simpa using h5⟩
      | false =>
        rw [hc] at h
        obtain ⟨h0, h1, hK⟩ := Zai h
        obtain rfl := Zaq h0
        refine ⟨_, hK, by simp [ZaE, Chunk.ok], by simp [Zam, Chunk.len], by simp [Zam, Chunk.len]; omega, ?_⟩
        simp only [Zab, Chunk.conc, List.append_nil, Nat.zero_add, Nat.mul_one]
        rw [Zdt _ _ _ _ _ h1, List.drop_append_of_le_length (by rw [Zac]; omega),
          List.take_append_of_le_length (by rw [List.length_drop, Zac]; omega)]
    | false =>
      rw [hb] at h
      obtain ⟨hle, h⟩ := Zai h
      have hle := Nat.le_of_ble_eq_true hle
      obtain ⟨l, h1, h2, h3, h4, h5⟩ := ZgD r _ h hok.2
      refine ⟨l, h1, h2, h3, by simp [Zam, Chunk.len]; omega, ?_⟩
      simp only [Zab, Chunk.conc]
      rw [List.drop_append, List.drop_of_length_le (by rw [Zac]; omega), List.nil_append, Zac, h5]
      congr 2
      omega
  | .rows sh m xs :: r, off, h, hok => by
    simp only [rdA] at h
    obtain ⟨h0, h1, hK⟩ := Zai h
    obtain rfl := Zaq h0
    obtain ⟨l1, g1, g2, g3, g4⟩ := Zee (ρ := ρ) (n := n) _ _ _ hK (Zib _ _)
    obtain ⟨l, g5, g6, g7, g8, g9⟩ := ZdZ (ρ := ρ) (n := n) _ _ _ g1 g2
    have hlen : (idx + 1) * Zaj sh <= m * Zaj sh := Nat.mul_le_mul_right _ h1
    rw [Nat.succ_mul] at hlen
    rw [<- Zan ρ (Zbf sh _), Zco, Zau] at g3
    refine ⟨l, g5, g6, g7, by simp [Zam, Chunk.len]; omega, ?_⟩
    rw [g9, g4, Zco]
    simp only [Zab, Chunk.conc]
    rw [List.drop_append_of_le_length (by rw [Zag]; omega), List.take_append_of_le_length (by rw [List.length_drop, Zag]; omega)]
    unfold Zal
    have hsl := Zs0 (fun i => ZaB sh (xs.getD i (Tup.dflt sh))) (Zaj sh) (fun i => Zau _ _) m idx h1
    rw [<- hsl, List.drop_take, List.drop_drop, List.take_take, Nat.min_eq_left (by omega), Nat.add_comm off]
theorem ZeD {ρ : Rho} : ∀ (a b : List Chunk), Zab ρ (a ++ b) = Zab ρ a ++ Zab ρ b
  | [], b => by simp [Zab]
  | c :: r, b => by simp [Zab, ZeD r b]
theorem Zf4 {ρ : Rho} {n : Nat} : ∀ {a b : List Chunk}, ZaE ρ n a -> ZaE ρ n b -> ZaE ρ n (a ++ b)
  | [], _, _, hb => hb
  | c :: r, b, ha, hb => by simp only [ZaE, List.cons_append] at *; exact ⟨ha.1, Zf4 ha.2 hb⟩
theorem Ze4 : ∀ (a b : List Chunk), Zam (a ++ b) = Zam a + Zam b
  | [], b => by simp [Zam]
  | c :: r, b => by simp [Zam, Ze4 r b]; omega
theorem ZcS {α : Type} (A B C : List α) (j : Nat) : (A ++ B ++ C)[j]? = if j < A.length then A[j]? else if j < A.length + B.length then B[j - A.length]? else C[j - A.length - B.length]? := by
  rw [List.getElem?_append, List.length_append]
  by_cases h1 : j < A.length
  · rw [if_pos (by omega), if_pos h1, List.getElem?_append_left h1]
  · by_cases h2 : j < A.length + B.length
    · rw [if_pos h2, if_neg h1, if_pos h2, List.getElem?_append_right (by omega)]
    · rw [if_neg h2, if_neg h1, if_neg h2, Nat.sub_sub]
theorem Ze8 (k : IntKind) (n : Nat) (xs ys : List Int) (i sz : Nat) (h : i + sz <= n) (hx : xs.length = n) (hy : ys.length = sz) :
    Zap k n (xs.take i ++ ys ++ xs.drop (i + sz)) = (Zap k n xs).take i ++ Zap k sz ys ++ (Zap k n xs).drop (i + sz) := by
  apply List.ext_getElem?
  intro j
  have l1 : (xs.take i).length = i := by simp; omega
  have l2 : ((Zap k n xs).take i).length = i := by simp [Zac]; omega
  rw [ZcS, l2, Zac]
  rcases Nat.lt_or_ge j n with hj | hj
  · rw [Zaw _ _ _ _ hj, List.getD_eq_getElem?_getD, ZcS, l1, hy]
    by_cases h1 : j < i
    · rw [if_pos h1, if_pos h1, List.getElem?_take_of_lt h1, List.getElem?_take_of_lt h1, Zaw _ _ _ _ hj, List.getD_eq_getElem?_getD]
    · rw [if_neg h1, if_neg h1]
      by_cases h2 : j < i + sz
      · rw [if_pos h2, if_pos h2, Zaw _ _ _ _ (by omega), List.getD_eq_getElem?_getD]
      · rw [if_neg h2, if_neg h2, List.getElem?_drop, List.getElem?_drop, show i + sz + (j - i - sz) = j by omega, Zaw _ _ _ _ hj, List.getD_eq_getElem?_getD]
  · rw [List.getElem?_eq_none (by rw [Zac]; exact hj), if_neg (by omega), if_neg (by omega), List.getElem?_eq_none (by simp [Zac]; omega)]
theorem Zic {ρ : Rho} : ∀ (l : Leaf) (c : Chunk) (K : l.T -> Prop), Zkz l c K -> ∃ x, K x /\ c.conc ρ = l.conc x
  | .int k, c, K, h => by
    simp only [Zkz] at h
    split at h
    · obtain ⟨h0, h⟩ := Zai h
      obtain rfl := Zb6 h0
      exact ⟨_, h, by simp [Chunk.conc, SVal.conc, Leaf.conc]⟩
    · exact h.elim
  | .bool, c, K, h => by
    simp only [Zkz] at h
    split at h
    · exact ⟨_, h, by simp [Chunk.conc, SVal.conc, Leaf.conc]⟩
    · exact h.elim
  | .ints k n, c, K, h => by
    simp only [Zkz] at h
    split at h
    · obtain ⟨h0, h⟩ := Zai h
      rw [Bool.and_eq_true] at h0
      obtain rfl := Zb6 h0.1
      obtain rfl := Zaq h0.2
      exact ⟨_, h, by simp [Chunk.conc, Leaf.conc]⟩
    · exact h.elim
  | .hd, _, _, h => h.elim
theorem Zjj {ρ : Rho} : ∀ (sh : List Leaf) (cs : List Chunk) (K : Tup sh -> Prop), ZuE sh cs K -> ∃ x, K x /\ Zab ρ cs = ZaB sh x
  | [], _, _, h => h.elim
  | [l], cs, K, h => by
    simp only [ZuE] at h
    split at h
    · obtain ⟨x, h1, h2⟩ := Zic (ρ := ρ) _ _ _ h
      exact ⟨x, h1, by simp [Zab, h2, ZaB]⟩
    · exact h.elim
  | l :: m :: r, cs, K, h => by
    simp only [ZuE] at h
    split at h
    · obtain ⟨x, h1, h2⟩ := Zic (ρ := ρ) _ _ _ h
      obtain ⟨y, h3, h4⟩ := Zjj (ρ := ρ) (m :: r) _ _ h1
      exact ⟨(x, y), h3, by simp only [Zab, h2, h4, ZaB]⟩
    · exact h.elim
theorem ZeP {idx st sz : Nat} {new : List Chunk} {ρ : Rho} {n : Nat} (hnew : ZaE ρ n new) (hsz : Zam new = sz) : ∀ (cs : List Chunk) (K : List Chunk -> Prop) (off : Nat), wrA idx st sz new K cs off -> ZaE ρ n cs ->
    ∃ cs', K cs' /\ ZaE ρ n cs' /\ Zam cs' = Zam cs /\ off + idx * st + sz <= Zam cs /\
      Zab ρ cs' = (Zab ρ cs).take (off + idx * st) ++ Zab ρ new ++ (Zab ρ cs).drop (off + idx * st + sz)
  | [], _, _, h, _ => h.elim
  | .one v :: r, K, off, h, hok => by
    have hok0 := hok
    simp only [ZaE, Chunk.ok] at hok
    simp only [wrA] at h
    cases hb : Nat.beq off 0 with
    | true =>
      rw [hb] at h
      obtain ⟨h0, h⟩ := Zai h
      obtain rfl := Zaq h0
      have := beq_zero.1 hb
      subst this
      obtain ⟨l, h1, h2, h3, h4⟩ := Zee _ _ _ h hok0
      refine ⟨_, h1, Zf4 hnew h2, by rw [Ze4]; omega, by simp; omega, ?_⟩
      rw [ZeD, h4]; simp
    | false =>
      rw [hb] at h
      obtain ⟨cs', h1, h2, h3, h4, h5⟩ := ZeP hnew hsz r _ _ h hok.2
      have := Zbc hb
      refine ⟨_, h1, by simp only [ZaE, Chunk.ok]; exact ⟨hok.1, h2⟩, by simp [Zam, h3], by simp [Zam, Chunk.len]; omega, ?_⟩
      simp only [Zab, Chunk.conc, h5]
      rw [show off + idx * st = (off - 1 + idx * st) + 1 by omega, show off - 1 + idx * st + 1 + sz = (off - 1 + idx * st + sz) + 1 by omega]
      simp
  | .ints k m xs :: r, K, off, h, hok => by
    have hok0 := hok
    simp only [ZaE] at hok
    simp only [wrA] at h
    cases hb : Nat.beq off 0 with
    | true =>
      rw [hb] at h
      have := beq_zero.1 hb
      subst this
      simp only [cond_true] at h
      cases hc : Nat.ble m sz with
      | true =>
        rw [hc] at h
        obtain ⟨h0, h⟩ := Zai h
        obtain rfl := Zaq h0
        obtain ⟨l, h1, h2, h3, h4⟩ := Zee _ _ _ h hok0
        refine ⟨_, h1, Zf4 hnew h2, by rw [Ze4]; omega, by simp; omega, ?_⟩
        rw [ZeD, h4]; simp
      | false =>
        rw [hc] at h
        simp only [cond_false] at h
        split at h
        · rename_i k' m' ys
          obtain ⟨h0, h1, h2, h3, hK⟩ := Zai h
          rw [Bool.and_eq_true, Bool.and_eq_true] at h0
          obtain rfl := Zb6 h0.1.1
          obtain rfl := Zaq h0.1.2
          obtain rfl := Zaq h0.2
          refine ⟨_, hK, by simp only [ZaE, Chunk.ok]; exact ⟨trivial, hok.2⟩, by simp [Zam, Chunk.len], by simp [Zam, Chunk.len]; omega, ?_⟩
          simp only [Zab, Chunk.conc, List.append_nil, Nat.zero_add, Nat.mul_one]
          rw [Ze8 _ _ _ _ _ _ h1 h2 h3, List.take_append_of_le_length (by rw [Zac]; omega), List.drop_append_of_le_length (by rw [Zac]; omega)]
          simp
        · exact h.elim
    | false =>
      rw [hb] at h
      obtain ⟨hle, h⟩ := Zai h
      have hle := Nat.le_of_ble_eq_true hle
      obtain ⟨cs', h1, h2, h3, h4, h5⟩ := ZeP hnew hsz r _ _ h hok.2
      refine ⟨_, h1, by simp only [ZaE, Chunk.ok]; exact ⟨trivial, h2⟩, by simp [Zam, h3], by simp [Zam, Chunk.len]; omega, ?_⟩
      simp only [Zab, Chunk.conc, h5]
      rw [List.take_append, List.drop_append, Zac, List.take_of_length_le (l := Zap k m xs) (by rw [Zac]; omega), List.drop_of_length_le (l := Zap k m xs) (by rw [Zac]; omega),
        show off + idx * st - m = off - m + idx * st by omega, show off + idx * st + sz - m = off - m + idx * st + sz by omega]
      simp
  | .rows sh m xs :: r, K, off, h, hok => by
    simp only [ZaE] at hok
    simp only [wrA] at h
    obtain ⟨h0, h1, h2, h3⟩ := Zai h
    clear h
    rw [Bool.and_eq_true, Bool.and_eq_true] at h0
    have := beq_zero.1 h0.1.1
    subst this
    obtain rfl := Zaq h0.1.2
    obtain rfl := Zaq h0.2
    obtain ⟨t, hK, ht⟩ := Zjj (ρ := ρ) _ _ _ h3
    have hle : idx * Zaj sh + Zaj sh <= m * Zaj sh := by rw [<- Nat.succ_mul]; exact Nat.mul_le_mul_right _ h1
    refine ⟨_, hK, by simp only [ZaE, Chunk.ok]; exact ⟨trivial, hok.2⟩, by simp [Zam, Chunk.len], by simp only [Zam, Chunk.len]; omega, ?_⟩
    simp only [Zab, Chunk.conc, Nat.zero_add, ht]
    rw [ZeY h1 h2, List.take_append_of_le_length (by rw [Zag]; omega), List.drop_append_of_le_length (by rw [Zag]; exact hle)]
    simp only [List.append_assoc]
end Go.Sx
