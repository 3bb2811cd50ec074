/- Part of the proof: SxChunk. -/
import Derived.Test.YtinjdimejijabaaSxEv
set_option linter.unusedVariables false
set_option linter.unusedSimpArgs false
namespace Go.Sx
theorem ZcH {a b : IntKind} (h : kEq a b = true) : a = b := by cases a <;> cases b <;> first | rfl | cases h
theorem Zaj {c : Bool} {A : Prop} (h : bif c then A else False) : c = true /\ A := by
  cases c with
  | false => exact h.elim
  | true => exact ⟨rfl, h⟩
theorem Zas {m n : Nat} (h : Nat.beq m n = true) : m = n := Nat.eq_of_beq_eq_true h
theorem beq_zero {n : Nat} : Nat.beq n 0 = true ↔ n = 0 := ⟨fun h => Nat.eq_of_beq_eq_true h, fun h => by subst h; rfl⟩
theorem Za9 {n : Nat} (h : Nat.beq n 0 = false) : n ≠ 0 := fun h' => by subst h'; cases h
theorem Zkk {m n : Nat} (h : Nat.ble m n = false) : n < m := by
  rcases Nat.lt_or_ge n m with h' | h'
  · exact h'
  · rw [Nat.ble_eq_true_of_le h'] at h; cases h
theorem ZgR {K : SVal -> Prop} {off : Nat} {ρ : Rho} {n : Nat} : ∀ (l : Leaf) (x : l.T), Zsn K off l x -> ∃ v, K v /\ v.ok ρ n /\ (l.conc x)[off]? = some (v.conc ρ)
  | .int k, x, h => by obtain ⟨h0, hK⟩ := Zaj h; obtain rfl := Zas h0; exact ⟨_, hK, by simp [SVal.ok], by simp [Leaf.conc, SVal.conc]⟩
  | .bool, x, h => by obtain ⟨h0, hK⟩ := Zaj h; obtain rfl := Zas h0; exact ⟨_, hK, by simp [SVal.ok], by simp [Leaf.conc, SVal.conc]⟩
  | .ints k m, x, h => by
    obtain ⟨h1, hK⟩ := h
    exact ⟨_, hK, by simp [SVal.ok], by simp only [Leaf.conc, SVal.conc]; exact ZaE _ _ _ _ h1⟩
  | .hd, _, h => h.elim
theorem Zf1 {K : SVal -> Prop} {ρ : Rho} {n : Nat} : ∀ (sh : List Leaf) (x : Tup sh) (off : Nat), Zmr K sh x off -> ∃ v, K v /\ v.ok ρ n /\ (ZaA sh x)[off]? = some (v.conc ρ)
  | [], _, _, h => h.elim
  | [l], x, off, h => ZgR l x h
  | l :: m :: r, x, off, h => by
    simp only [Zmr] at h
    cases hb : Nat.ble l.len off with
    | true =>
      rw [hb] at h
      obtain ⟨v, h1, h2, h3⟩ := Zf1 (m :: r) x.2 _ h
      have := Nat.le_of_ble_eq_true hb
      refine ⟨v, h1, h2, ?_⟩
      simp only [ZaA]
      rw [List.getElem?_append_right (by rw [ZaU]; exact this), ZaU]
      exact h3
    | false =>
      rw [hb] at h
      obtain ⟨v, h1, h2, h3⟩ := ZgR l x.1 h
      refine ⟨v, h1, h2, ?_⟩
      simp only [ZaA]
      rw [List.getElem?_append_left (by rw [ZaU]; exact Zkk hb)]
      exact h3
theorem Zij {α : Type} (f : Nat -> List α) (s : Nat) (hs : ∀ i, (f i).length = s) : ∀ (n i j : Nat), i < n -> j < s -> ((List.range n).flatMap f)[i * s + j]? = (f i)[j]?
  | 0, _, _, h, _ => by omega
  | n + 1, i, j, h, hj => by
    rw [List.range_succ, List.flatMap_append]
    rcases Nat.lt_or_ge i n with h' | h'
    · rw [List.getElem?_append_left]
      · exact Zij f s hs n i j h' hj
      · rw [ZaS f s hs]
        calc i * s + j < i * s + s := by omega
          _ = (i + 1) * s := by rw [Nat.succ_mul]
          _ <= n * s := Nat.mul_le_mul_right _ h'
    · have : i = n := by omega
      subst this
      rw [List.getElem?_append_right (by rw [ZaS f s hs]; omega), ZaS f s hs]
      simp
theorem Ze4 {idx st : Nat} {K : SVal -> Prop} {ρ : Rho} {n : Nat} : ∀ (cs : List Chunk) (off : Nat), rdC idx st K cs off -> ZaM ρ n cs ->
    ∃ v, K v /\ v.ok ρ n /\ (Zag ρ cs)[off + idx * st]? = some (v.conc ρ)
  | [], _, h, _ => h.elim
  | .one v :: r, off, h, hok => by
    simp only [ZaM, Chunk.ok] at hok
    simp only [rdC] at h
    cases hb : Nat.beq off 0 with
    | true =>
      rw [hb] at h
      obtain ⟨h0, hK⟩ := Zaj h
      obtain rfl := Zas h0
      have := beq_zero.1 hb
      subst this
      exact ⟨v, hK, hok.1, by simp [Zag, Chunk.conc]⟩
    | false =>
      rw [hb] at h
      obtain ⟨u, h1, h2, h3⟩ := Ze4 r _ h hok.2
      have := Za9 hb
      refine ⟨u, h1, h2, ?_⟩
      simp only [Zag, Chunk.conc]
      rw [List.getElem?_append_right (by simp; omega)]
      rw [show off + idx * st - [v.conc ρ].length = off - 1 + idx * st by simp; omega]
      exact h3
  | .ints k m xs :: r, off, h, hok => by
    simp only [ZaM] at hok
    simp only [rdC] at h
    cases hb : Nat.beq off 0 with
    | true =>
      rw [hb] at h
      obtain ⟨h0, h1, hK⟩ := Zaj h
      obtain rfl := Zas h0
      have := beq_zero.1 hb
      subst this
      refine ⟨_, hK, by simp [SVal.ok], ?_⟩
      simp only [Zag, Chunk.conc, SVal.conc, Nat.zero_add, Nat.mul_one]
      rw [List.getElem?_append_left (by rw [Zae]; exact h1)]
      exact ZaE _ _ _ _ h1
    | false =>
      rw [hb] at h
      obtain ⟨hle, h⟩ := Zaj h
      have hle := Nat.le_of_ble_eq_true hle
      obtain ⟨u, h1, h2, h3⟩ := Ze4 r _ h hok.2
      refine ⟨u, h1, h2, ?_⟩
      simp only [Zag, Chunk.conc]
      rw [List.getElem?_append_right (by rw [Zae]; omega), Zae]
      rw [show off + idx * st - m = off - m + idx * st by omega]
      exact h3
  | .rows sh m xs :: r, off, h, hok => by
    simp only [rdC] at h
    obtain ⟨h0, h1, h2⟩ := Zaj h
    obtain rfl := Zas h0
    obtain ⟨v, h3, h4, h5⟩ := Zf1 (ρ := ρ) (n := n) sh _ off h2
    refine ⟨v, h3, h4, ?_⟩
    have hoff : off < Zah sh := by
      have := (List.getElem?_eq_some_iff.1 h5).1
      rwa [Zar] at this
    have key := Zij (fun i => ZaA sh (xs.getD i (Tup.dflt sh))) (Zah sh) (fun i => Zar _ _) m idx off h1 hoff
    simp only [Zag, Chunk.conc]
    rw [List.getElem?_append_left]
    · rw [Nat.add_comm off]
      unfold Zal
      rw [key]; exact h5
    · rw [Zaf]
      calc off + idx * Zah sh < Zah sh + idx * Zah sh := by omega
        _ = (idx + 1) * Zah sh := by rw [Nat.succ_mul]; omega
        _ <= m * Zah sh := Nat.mul_le_mul_right _ h1
theorem Zj0 (k : IntKind) (n : Nat) (xs : List Int) (i : Nat) (m : Int) (h : i < n) (h' : i < xs.length) :
    Zau k n (xs.set i m) = (Zau k n xs).set i (.int k m) := by
  apply List.ext_getElem?
  intro j
  rw [List.getElem?_set]
  by_cases hij : i = j
  · subst hij
    rw [if_pos rfl, if_pos (by rw [Zae]; exact h), ZaE _ _ _ _ h]
    simp [h']
  · rw [if_neg hij]
    rcases Nat.lt_or_ge j n with hj | hj
    · rw [ZaE _ _ _ _ hj, ZaE _ _ _ _ hj]
      simp [hij]
    · rw [List.getElem?_eq_none (by rw [Zae]; exact hj), List.getElem?_eq_none (by rw [Zae]; exact hj)]
theorem Zde (sh : List Leaf) : ∀ (xs : List (Tup sh)), Zal sh xs.length xs = xs.flatMap (ZaA sh)
  | [] => rfl
  | x :: r => by
    have ih := Zde sh r
    unfold Zal at ih ⊢
    rw [List.length_cons, List.range_succ_eq_map, List.flatMap_cons, List.flatMap_cons, List.flatMap_map]
    simp only [List.getD_cons_zero, List.getD_cons_succ]
    rw [ih]
theorem ZaT {sh : List Leaf} {n : Nat} {xs : List (Tup sh)} (h : xs.length = n) : Zal sh n xs = xs.flatMap (ZaA sh) := by
  subst h; exact Zde sh xs
theorem ZdN {sh : List Leaf} {n : Nat} {xs : List (Tup sh)} {i : Nat} {t : Tup sh} (h : i < n) (hx : xs.length = n) :
    Zal sh n (xs.set i t) = (Zal sh n xs).take (i * Zah sh) ++ ZaA sh t ++ (Zal sh n xs).drop (i * Zah sh + Zah sh) := by
  have hl : ∀ ys : List (Tup sh), (ys.flatMap (ZaA sh)).length = ys.length * Zah sh := fun ys => by
    rw [<- Zde, Zaf]
  have hi : i < xs.length := by omega
  have e1 : xs = xs.take i ++ xs[i] :: xs.drop (i + 1) := by rw [<- List.drop_eq_getElem_cons hi, List.take_append_drop]
  have e2 : xs.set i t = xs.take i ++ t :: xs.drop (i + 1) := List.set_eq_take_append_cons_drop.trans (by rw [if_pos hi])
  have l1 : ((xs.take i).flatMap (ZaA sh)).length = i * Zah sh := by rw [hl, List.length_take]; congr 1; omega
  rw [ZaT (by rw [List.length_set, hx]), ZaT hx, e2]
  conv => rhs; rw [e1]
  simp only [List.flatMap_append, List.flatMap_cons]
  rw [List.take_left' l1, List.drop_append, List.drop_of_length_le (l := (xs.take i).flatMap (ZaA sh)) (by omega), l1, List.nil_append, show i * Zah sh + Zah sh - i * Zah sh = Zah sh by omega, List.drop_left' (Zar _ _), List.append_assoc]
theorem ZgQ {ρ : Rho} {v : SVal} : ∀ (l : Leaf) (x : l.T) (off : Nat) (K : l.T -> Prop), ZoT l x off v K -> ∃ y, K y /\ off < l.len /\ l.conc y = (l.conc x).set off (v.conc ρ)
  | .int k, x, off, K, h => by
    simp only [ZoT] at h
    obtain ⟨h0, g⟩ := Zaj h
    clear h
    have := Zas h0; subst this
    split at g
    · obtain ⟨h1, g1⟩ := Zaj g
      obtain rfl := ZcH h1
      exact ⟨_, g1, by simp [Leaf.len], by simp [Leaf.conc, SVal.conc]⟩
    · exact g.elim
  | .bool, x, off, K, h => by
    simp only [ZoT] at h
    obtain ⟨h0, g⟩ := Zaj h
    clear h
    have := Zas h0; subst this
    split at g
    · exact ⟨_, g, by simp [Leaf.len], by simp [Leaf.conc, SVal.conc]⟩
    · exact g.elim
  | .ints _ _, _, _, _, h => h.elim
  | .hd, _, _, _, h => h.elim
theorem Zgx {ρ : Rho} {v : SVal} : ∀ (sh : List Leaf) (x : Tup sh) (off : Nat) (K : Tup sh -> Prop), ZpE sh x off v K -> ∃ y, K y /\ off < Zah sh /\ ZaA sh y = (ZaA sh x).set off (v.conc ρ)
  | [], _, _, _, h => h.elim
  | [l], x, off, K, h => by
    obtain ⟨y, h1, h2, h3⟩ := ZgQ (ρ := ρ) l x off K h
    exact ⟨y, h1, by simpa [Zah] using h2, h3⟩
  | l :: m :: r, x, off, K, h => by
    simp only [ZpE] at h
    cases hb : Nat.ble l.len off with
    | true =>
      rw [hb] at h
      obtain ⟨y, h1, h2, h3⟩ := Zgx (ρ := ρ) (m :: r) x.2 _ _ h
      have := Nat.le_of_ble_eq_true hb
      refine ⟨_, h1, by simp only [Zah] at *; omega, ?_⟩
      simp only [ZaA]
      rw [List.set_append_right _ _ (by rw [ZaU]; exact this), ZaU, h3]
    | false =>
      rw [hb] at h
      obtain ⟨y, h1, h2, h3⟩ := ZgQ (ρ := ρ) l x.1 off _ h
      refine ⟨_, h1, by simp only [Zah] at *; omega, ?_⟩
      simp only [ZaA]
      rw [List.set_append_left _ _ (by rw [ZaU]; exact h2), h3]
theorem Zgy {idx st : Nat} {v : SVal} {ρ : Rho} {n : Nat} (hv : v.ok ρ n) : ∀ (cs : List Chunk) (K : List Chunk -> Prop) (off : Nat), wrC idx st v K cs off -> ZaM ρ n cs ->
    ∃ cs', K cs' /\ ZaM ρ n cs' /\ Zai cs' = Zai cs /\ off + idx * st < Zai cs /\ Zag ρ cs' = (Zag ρ cs).set (off + idx * st) (v.conc ρ)
  | [], _, _, h, _ => h.elim
  | .one u :: r, K, off, h, hok => by
    simp only [ZaM, Chunk.ok] at hok
    simp only [wrC] at h
    cases hb : Nat.beq off 0 with
    | true =>
      rw [hb] at h
      obtain ⟨h0, hK⟩ := Zaj h
      obtain rfl := Zas h0
      have := beq_zero.1 hb
      subst this
      exact ⟨_, hK, by simp only [ZaM, Chunk.ok]; exact ⟨hv, hok.2⟩, by simp [Zai, Chunk.len], by simp [Zai, Chunk.len]; omega, by simp [Zag, Chunk.conc]⟩
    | false =>
      rw [hb] at h
      obtain ⟨cs', h1, h2, h3, h4, h5⟩ := Zgy hv r _ _ h hok.2
      have := Za9 hb
      refine ⟨_, h1, by simp only [ZaM, Chunk.ok]; exact ⟨hok.1, h2⟩, by simp [Zai, h3], by simp [Zai, Chunk.len]; omega, ?_⟩
      simp only [Zag, Chunk.conc, h5]
      rw [List.set_append_right _ _ (by simp; omega)]
      congr 2
      simp; omega
  | .ints k m xs :: r, K, off, h, hok => by
    simp only [ZaM] at hok
    simp only [wrC] at h
    cases hb : Nat.beq off 0 with
    | true =>
      rw [hb] at h
      simp only [cond_true] at h
      split at h
      · rename_i k' m'
        obtain ⟨h0, h1, h2, hK⟩ := Zaj h
        rw [Bool.and_eq_true] at h0
        obtain rfl := ZcH h0.1
        obtain rfl := Zas h0.2
        have := beq_zero.1 hb
        subst this
        refine ⟨_, hK, by simp only [ZaM, Chunk.ok]; exact ⟨trivial, hok.2⟩, by simp [Zai, Chunk.len], by simp [Zai, Chunk.len]; omega, ?_⟩
        simp only [Zag, Chunk.conc, SVal.conc, Nat.zero_add, Nat.mul_one]
        rw [List.set_append_left _ _ (by rw [Zae]; exact h1), Zj0 _ _ _ _ _ h1 h2]
      · exact h.elim
    | false =>
      rw [hb] at h
      obtain ⟨hle, h⟩ := Zaj h
      have hle := Nat.le_of_ble_eq_true hle
      obtain ⟨cs', h1, h2, h3, h4, h5⟩ := Zgy hv r _ _ h hok.2
      refine ⟨_, h1, by simp only [ZaM, Chunk.ok]; exact ⟨trivial, h2⟩, by simp [Zai, h3], by simp [Zai, Chunk.len]; omega, ?_⟩
      simp only [Zag, Chunk.conc, h5]
      rw [List.set_append_right _ _ (by rw [Zae]; omega), Zae]
      congr 2
      omega
  | .rows sh m xs :: r, K, off, h, hok => by
    simp only [ZaM] at hok
    simp only [wrC] at h
    obtain ⟨h0, h1, h2, g⟩ := Zaj h
    clear h
    have h0 := Zas h0
    subst h0
    obtain ⟨t, hK, h3, h4⟩ := Zgx (ρ := ρ) sh _ _ _ g
    have hin : off + idx * Zah sh < m * Zah sh := by
      have : (idx + 1) * Zah sh <= m * Zah sh := Nat.mul_le_mul_right _ h1
      rw [Nat.add_mul] at this; omega
    refine ⟨_, hK, by simp only [ZaM, Chunk.ok]; exact ⟨trivial, hok.2⟩, by simp [Zai, Chunk.len], by simp only [Zai, Chunk.len]; omega, ?_⟩
    simp only [Zag, Chunk.conc]
    rw [List.set_append_left _ _ (by rw [Zaf]; exact hin)]
    congr 1
    have e1 : Zal sh m xs = (Zal sh m xs).take (idx * Zah sh) ++ ZaA sh (xs.getD idx (Tup.dflt sh)) ++ (Zal sh m xs).drop (idx * Zah sh + Zah sh) := by
      conv => lhs; rw [show xs = xs.set idx (xs.getD idx (Tup.dflt sh)) by rw [List.getD_eq_getElem?_getD, List.getElem?_eq_getElem (by omega)]; simp]
      exact ZdN h1 h2
    have hl : ((Zal sh m xs).take (idx * Zah sh)).length = idx * Zah sh := by rw [List.length_take, Zaf]; omega
    rw [ZdN h1 h2, h4]
    conv => rhs; rw [e1]
    rw [List.append_assoc, List.append_assoc, List.set_append_right _ _ (by rw [hl]; omega), hl, show off + idx * Zah sh - idx * Zah sh = off by omega, List.set_append_left _ _ (by rw [Zar]; exact h3)]
theorem Zdd {ρ : Rho} {n : Nat} : ∀ (cs : List Chunk) (K : List Chunk -> Prop) (sz : Nat), Zig K cs sz -> ZaM ρ n cs ->
    ∃ l, K l /\ ZaM ρ n l /\ Zai l = sz /\ sz <= Zai cs /\ Zag ρ l = (Zag ρ cs).take sz
  | [], K, sz, h, _ => by
    obtain ⟨h0, hK⟩ := Zaj h
    obtain rfl := Zas h0
    exact ⟨_, hK, by simp [ZaM], by simp [Zai], by simp [Zai], by simp [Zag]⟩
  | c :: r, K, sz, h, hok => by
    simp only [ZaM] at hok
    simp only [Zig] at h
    cases hb : Nat.beq sz 0 with
    | true =>
      rw [hb] at h
      have := beq_zero.1 hb
      subst this
      exact ⟨_, h, by simp [ZaM], by simp [Zai], by simp, by simp [Zag]⟩
    | false =>
      rw [hb] at h
      obtain ⟨hle, h⟩ := Zaj h
      have hle := Nat.le_of_ble_eq_true hle
      obtain ⟨l, h1, h2, h3, h4, h5⟩ := Zdd r _ _ h hok.2
      refine ⟨_, h1, by simp only [ZaM]; exact ⟨hok.1, h2⟩, by simp [Zai, h3]; omega, by simp [Zai]; omega, ?_⟩
      simp only [Zag, h5]
      rw [List.take_append, ZaP, List.take_of_length_le (l := c.conc ρ) (by rw [ZaP]; exact hle)]
theorem Zdn {ρ : Rho} {n : Nat} : ∀ (cs : List Chunk) (K : List Chunk -> Prop) (sz : Nat), Znd K cs sz -> ZaM ρ n cs ->
    ∃ l, K l /\ ZaM ρ n l /\ Zai l + sz = Zai cs /\ Zag ρ l = (Zag ρ cs).drop sz
  | [], K, sz, h, _ => by
    obtain ⟨h0, hK⟩ := Zaj h
    obtain rfl := Zas h0
    exact ⟨_, hK, by simp [ZaM], by simp [Zai], by simp [Zag]⟩
  | c :: r, K, sz, h, hok => by
    have hok0 := hok
    simp only [ZaM] at hok
    simp only [Znd] at h
    cases hb : Nat.beq sz 0 with
    | true =>
      rw [hb] at h
      have := beq_zero.1 hb
      subst this
      exact ⟨_, h, hok0, by simp, by simp⟩
    | false =>
      rw [hb] at h
      obtain ⟨hle, h⟩ := Zaj h
      have hle := Nat.le_of_ble_eq_true hle
      obtain ⟨l, h1, h2, h3, h4⟩ := Zdn r _ _ h hok.2
      refine ⟨_, h1, h2, by simp [Zai]; omega, ?_⟩
      simp only [Zag, h4]
      rw [List.drop_append, ZaP, List.drop_of_length_le (l := c.conc ρ) (by rw [ZaP]; exact hle), List.nil_append]
theorem ZcJ (k : IntKind) (n : Nat) (xs : List Int) (i sz : Nat) (h : i + sz <= n) :
    Zau k sz ((xs.drop i).take sz) = ((Zau k n xs).drop i).take sz := by
  apply List.ext_getElem?
  intro j
  rcases Nat.lt_or_ge j sz with hj | hj
  · rw [ZaE _ _ _ _ hj, List.getElem?_take_of_lt hj, List.getElem?_drop, ZaE _ _ _ _ (by omega)]
    simp [List.getElem?_take_of_lt hj, List.getElem?_drop]
  · rw [List.getElem?_eq_none (by rw [Zae]; exact hj), List.getElem?_eq_none (by simp; omega)]
theorem Zew {ρ : Rho} : ∀ (l : Leaf) (x : l.T), (Zbh l x).conc ρ = l.conc x
  | .int _, _ => by simp [Zbh, Chunk.conc, Leaf.conc, SVal.conc]
  | .bool, _ => by simp [Zbh, Chunk.conc, Leaf.conc, SVal.conc]
  | .ints _ _, _ => by simp [Zbh, Chunk.conc, Leaf.conc]
  | .hd, _ => by simp [Zbh, Chunk.conc, Leaf.conc, Zal, ZaA]
theorem Zf9 {ρ : Rho} {n : Nat} : ∀ (l : Leaf) (x : l.T), (Zbh l x).ok ρ n
  | .int _, _ => by simp [Zbh, Chunk.ok, SVal.ok]
  | .bool, _ => by simp [Zbh, Chunk.ok, SVal.ok]
  | .ints _ _, _ => by simp [Zbh, Chunk.ok]
  | .hd, _ => by simp [Zbh, Chunk.ok]
theorem Zbr {ρ : Rho} : ∀ (sh : List Leaf) (x : Tup sh), Zag ρ (Zbb sh x) = ZaA sh x
  | [], _ => by simp [Zbb, Zag, ZaA]
  | [l], x => by simp [Zbb, Zag, ZaA, Zew]
  | l :: m :: r, x => by
    have := Zbr (ρ := ρ) (m :: r) x.2
    simp only [Zbb, Zag, ZaA, Zew, this]
theorem ZfV {ρ : Rho} {n : Nat} : ∀ (sh : List Leaf) (x : Tup sh), ZaM ρ n (Zbb sh x)
  | [], _ => by simp [Zbb, ZaM]
  | [l], x => by simp [Zbb, ZaM, Zf9]
  | l :: m :: r, x => by
    have := ZfV (ρ := ρ) (n := n) (m :: r) x.2
    simp only [Zbb, ZaM, Zf9, true_and]; exact this
theorem Zm5 {α : Type} (f : Nat -> List α) (s : Nat) (hs : ∀ i, (f i).length = s) (n i : Nat) (h : i < n) : (((List.range n).flatMap f).drop (i * s)).take s = f i := by
  apply List.ext_getElem?
  intro j
  rcases Nat.lt_or_ge j s with hj | hj
  · rw [List.getElem?_take_of_lt hj, List.getElem?_drop]
    exact Zij f s hs n i j h hj
  · rw [List.getElem?_eq_none (by simp; omega), List.getElem?_eq_none (by rw [hs]; exact hj)]
theorem Ze5 {idx st sz : Nat} {K : List Chunk -> Prop} {ρ : Rho} {n : Nat} : ∀ (cs : List Chunk) (off : Nat), rdA idx st sz K cs off -> ZaM ρ n cs ->
    ∃ l, K l /\ ZaM ρ n l /\ Zai l = sz /\ off + idx * st + sz <= Zai cs /\ Zag ρ l = ((Zag ρ cs).drop (off + idx * st)).take sz
  | [], _, h, _ => h.elim
  | .one v :: r, off, h, hok => by
    have hok0 := hok
    simp only [ZaM, Chunk.ok] at hok
    simp only [rdA] at h
    cases hb : Nat.beq off 0 with
    | true =>
      rw [hb] at h
      obtain ⟨h0, h⟩ := Zaj h
      obtain rfl := Zas h0
      have := beq_zero.1 hb
      subst this
      obtain ⟨l, h1, h2, h3, h4, h5⟩ := Zdd _ _ _ h hok0
      exact ⟨l, h1, h2, h3, by simpa using h4, by simpa using h5⟩
    | false =>
      rw [hb] at h
      obtain ⟨l, h1, h2, h3, h4, h5⟩ := Ze5 r _ h hok.2
      have := Za9 hb
      refine ⟨l, h1, h2, h3, by simp [Zai, Chunk.len]; omega, ?_⟩
      simp only [Zag, Chunk.conc]
      rw [List.drop_append, List.drop_of_length_le (by simp; omega), List.nil_append, h5]
      congr 2
      simp; omega
  | .ints k m xs :: r, off, h, hok => by
    have hok0 := hok
    simp only [ZaM] at hok
    simp only [rdA] at h
    cases hb : Nat.beq off 0 with
    | true =>
      rw [hb] at h
      have := beq_zero.1 hb
      subst this
      simp only [cond_true] at h
      cases hc : Nat.ble m sz with
      | true =>
        rw [hc] at h
        obtain ⟨h0, h⟩ := Zaj h
        obtain rfl := Zas h0
        obtain ⟨l, h1, h2, h3, h4, h5⟩ := Zdd _ _ _ h hok0
        exact ⟨l, h1, h2, h3, by simpa using h4, by simpa using h5⟩
      | false =>
        rw [hc] at h
        obtain ⟨h0, h1, hK⟩ := Zaj h
        obtain rfl := Zas h0
        refine ⟨_, hK, by simp [ZaM, Chunk.ok], by simp [Zai, Chunk.len], by simp [Zai, Chunk.len]; omega, ?_⟩
        simp only [Zag, Chunk.conc, List.append_nil, Nat.zero_add, Nat.mul_one]
        rw [ZcJ _ _ _ _ _ h1, List.drop_append_of_le_length (by rw [Zae]; omega),
          List.take_append_of_le_length (by rw [List.length_drop, Zae]; omega)]
    | false =>
      rw [hb] at h
      obtain ⟨hle, h⟩ := Zaj h
      have hle := Nat.le_of_ble_eq_true hle
      obtain ⟨l, h1, h2, h3, h4, h5⟩ := Ze5 r _ h hok.2
      refine ⟨l, h1, h2, h3, by simp [Zai, Chunk.len]; omega, ?_⟩
      simp only [Zag, Chunk.conc]
      rw [List.drop_append, List.drop_of_length_le (by rw [Zae]; omega), List.nil_append, Zae, h5]
      congr 2
      omega
  | .rows sh m xs :: r, off, h, hok => by
    simp only [rdA] at h
    obtain ⟨h0, h1, hK⟩ := Zaj h
    obtain rfl := Zas h0
    obtain ⟨l1, g1, g2, g3, g4⟩ := Zdn (ρ := ρ) (n := n) _ _ _ hK (ZfV _ _)
    obtain ⟨l, g5, g6, g7, g8, g9⟩ := Zdd (ρ := ρ) (n := n) _ _ _ g1 g2
    have hlen : (idx + 1) * Zah sh <= m * Zah sh := Nat.mul_le_mul_right _ h1
    rw [Nat.succ_mul] at hlen
    rw [<- Zaq ρ (Zbb sh _), Zbr, Zar] at g3
    refine ⟨l, g5, g6, g7, by simp [Zai, Chunk.len]; omega, ?_⟩
    rw [g9, g4, Zbr]
    simp only [Zag, Chunk.conc]
    rw [List.drop_append_of_le_length (by rw [Zaf]; omega), List.take_append_of_le_length (by rw [List.length_drop, Zaf]; omega)]
    unfold Zal
    have hsl := Zm5 (fun i => ZaA sh (xs.getD i (Tup.dflt sh))) (Zah sh) (fun i => Zar _ _) m idx h1
    rw [<- hsl, List.drop_take, List.drop_drop, List.take_take, Nat.min_eq_left (by omega), Nat.add_comm off]
theorem Zdu {ρ : Rho} : ∀ (a b : List Chunk), Zag ρ (a ++ b) = Zag ρ a ++ Zag ρ b
  | [], b => by simp [Zag]
  | c :: r, b => by simp [Zag, Zdu r b]
theorem ZeE {ρ : Rho} {n : Nat} : ∀ {a b : List Chunk}, ZaM ρ n a -> ZaM ρ n b -> ZaM ρ n (a ++ b)
  | [], _, _, hb => hb
  | c :: r, b, ha, hb => by simp only [ZaM, List.cons_append] at *; exact ⟨ha.1, ZeE ha.2 hb⟩
theorem ZdS : ∀ (a b : List Chunk), Zai (a ++ b) = Zai a + Zai b
  | [], b => by simp [Zai]
  | c :: r, b => by simp [Zai, ZdS r b]; omega
theorem Zcj {α : Type} (A B C : List α) (j : Nat) : (A ++ B ++ C)[j]? = if j < A.length then A[j]? else if j < A.length + B.length then B[j - A.length]? else C[j - A.length - B.length]? := by
  rw [List.getElem?_append, List.length_append]
  by_cases h1 : j < A.length
  · rw [if_pos (by omega), if_pos h1, List.getElem?_append_left h1]
  · by_cases h2 : j < A.length + B.length
    · rw [if_pos h2, if_neg h1, if_pos h2, List.getElem?_append_right (by omega)]
    · rw [if_neg h2, if_neg h1, if_neg h2, Nat.sub_sub]
theorem ZdU (k : IntKind) (n : Nat) (xs ys : List Int) (i sz : Nat) (h : i + sz <= n) (hx : xs.length = n) (hy : ys.length = sz) :
    Zau k n (xs.take i ++ ys ++ xs.drop (i + sz)) = (Zau k n xs).take i ++ Zau k sz ys ++ (Zau k n xs).drop (i + sz) := by
  apply List.ext_getElem?
  intro j
  have l1 : (xs.take i).length = i := by simp; omega
  have l2 : ((Zau k n xs).take i).length = i := by simp [Zae]; omega
  rw [Zcj, l2, Zae]
  rcases Nat.lt_or_ge j n with hj | hj
  · rw [ZaE _ _ _ _ hj, List.getD_eq_getElem?_getD, Zcj, l1, hy]
    by_cases h1 : j < i
    · rw [if_pos h1, if_pos h1, List.getElem?_take_of_lt h1, List.getElem?_take_of_lt h1, ZaE _ _ _ _ hj, List.getD_eq_getElem?_getD]
    · rw [if_neg h1, if_neg h1]
      by_cases h2 : j < i + sz
      · rw [if_pos h2, if_pos h2, ZaE _ _ _ _ (by omega), List.getD_eq_getElem?_getD]
      · rw [if_neg h2, if_neg h2, List.getElem?_drop, List.getElem?_drop, show i + sz + (j - i - sz) = j by omega, ZaE _ _ _ _ hj, List.getD_eq_getElem?_getD]
  · rw [List.getElem?_eq_none (by rw [Zae]; exact hj), if_neg (by omega), if_neg (by omega), List.getElem?_eq_none (by simp [Zae]; omega)]
theorem ZfW {ρ : Rho} : ∀ (l : Leaf) (c : Chunk) (K : l.T -> Prop), ZhE l c K -> ∃ x, K x /\ c.conc ρ = l.conc x
  | .int k, c, K, h => by
    simp only [ZhE] at h
    split at h
    · obtain ⟨h0, h⟩ := Zaj h
      obtain rfl := ZcH h0
      exact ⟨_, h, by simp [Chunk.conc, SVal.conc, Leaf.conc]⟩
    · exact h.elim
  | .bool, c, K, h => by
    simp only [ZhE] at h
    split at h
    · exact ⟨_, h, by simp [Chunk.conc, SVal.conc, Leaf.conc]⟩
    · exact h.elim
  | .ints k n, c, K, h => by
    simp only [ZhE] at h
    split at h
    · obtain ⟨h0, h⟩ := Zaj h
      rw [Bool.and_eq_true] at h0
      obtain rfl := ZcH h0.1
      obtain rfl := Zas h0.2
      exact ⟨_, h, by simp [Chunk.conc, Leaf.conc]⟩
    · exact h.elim
  | .hd, _, _, h => h.elim
theorem ZeD {ρ : Rho} : ∀ (sh : List Leaf) (cs : List Chunk) (K : Tup sh -> Prop), ZmX sh cs K -> ∃ x, K x /\ Zag ρ cs = ZaA sh x
  | [], _, _, h => h.elim
  | [l], cs, K, h => by
    simp only [ZmX] at h
    split at h
    · obtain ⟨x, h1, h2⟩ := ZfW (ρ := ρ) _ _ _ h
      exact ⟨x, h1, by simp [Zag, h2, ZaA]⟩
    · exact h.elim
  | l :: m :: r, cs, K, h => by
    simp only [ZmX] at h
    split at h
    · obtain ⟨x, h1, h2⟩ := ZfW (ρ := ρ) _ _ _ h
      obtain ⟨y, h3, h4⟩ := ZeD (ρ := ρ) (m :: r) _ _ h1
      exact ⟨(x, y), h3, by simp only [Zag, h2, h4, ZaA]⟩
    · exact h.elim
theorem ZdJ {idx st sz : Nat} {new : List Chunk} {ρ : Rho} {n : Nat} (hnew : ZaM ρ n new) (hsz : Zai new = sz) : ∀ (cs : List Chunk) (K : List Chunk -> Prop) (off : Nat), wrA idx st sz new K cs off -> ZaM ρ n cs ->
    ∃ cs', K cs' /\ ZaM ρ n cs' /\ Zai cs' = Zai cs /\ off + idx * st + sz <= Zai cs /\
      Zag ρ cs' = (Zag ρ cs).take (off + idx * st) ++ Zag ρ new ++ (Zag ρ cs).drop (off + idx * st + sz)
  | [], _, _, h, _ => h.elim
  | .one v :: r, K, off, h, hok => by
    have hok0 := hok
    simp only [ZaM, Chunk.ok] at hok
    simp only [wrA] at h
    cases hb : Nat.beq off 0 with
    | true =>
      rw [hb] at h
      obtain ⟨h0, h⟩ := Zaj h
      obtain rfl := Zas h0
      have := beq_zero.1 hb
      subst this
      obtain ⟨l, h1, h2, h3, h4⟩ := Zdn _ _ _ h hok0
      refine ⟨_, h1, ZeE hnew h2, by rw [ZdS]; omega, by simp; omega, ?_⟩
      rw [Zdu, h4]; simp
    | false =>
      rw [hb] at h
      obtain ⟨cs', h1, h2, h3, h4, h5⟩ := ZdJ hnew hsz r _ _ h hok.2
      have := Za9 hb
      refine ⟨_, h1, by simp only [ZaM, Chunk.ok]; exact ⟨hok.1, h2⟩, by simp [Zai, h3], by simp [Zai, Chunk.len]; omega, ?_⟩
      simp only [Zag, Chunk.conc, h5]
      rw [show off + idx * st = (off - 1 + idx * st) + 1 by omega, show off - 1 + idx * st + 1 + sz = (off - 1 + idx * st + sz) + 1 by omega]
      simp
  | .ints k m xs :: r, K, off, h, hok => by
    have hok0 := hok
    simp only [ZaM] at hok
    simp only [wrA] at h
    cases hb : Nat.beq off 0 with
    | true =>
      rw [hb] at h
      have := beq_zero.1 hb
      subst this
      simp only [cond_true] at h
      cases hc : Nat.ble m sz with
      | true =>
        rw [hc] at h
        obtain ⟨h0, h⟩ := Zaj h
        obtain rfl := Zas h0
        obtain ⟨l, h1, h2, h3, h4⟩ := Zdn _ _ _ h hok0
        refine ⟨_, h1, ZeE hnew h2, by rw [ZdS]; omega, by simp; omega, ?_⟩
        rw [Zdu, h4]; simp
      | false =>
        rw [hc] at h
        simp only [cond_false] at h
        split at h
        · rename_i k' m' ys
          obtain ⟨h0, h1, h2, h3, hK⟩ := Zaj h
          rw [Bool.and_eq_true, Bool.and_eq_true] at h0
          obtain rfl := ZcH h0.1.1
          obtain rfl := Zas h0.1.2
          obtain rfl := Zas h0.2
          refine ⟨_, hK, by simp only [ZaM, Chunk.ok]; exact ⟨trivial, hok.2⟩, by simp [Zai, Chunk.len], by simp [Zai, Chunk.len]; omega, ?_⟩
          simp only [Zag, Chunk.conc, List.append_nil, Nat.zero_add, Nat.mul_one]
          rw [ZdU _ _ _ _ _ _ h1 h2 h3, List.take_append_of_le_length (by rw [Zae]; omega), List.drop_append_of_le_length (by rw [Zae]; omega)]
          simp
        · exact h.elim
    | false =>
      rw [hb] at h
      obtain ⟨hle, h⟩ := Zaj h
      have hle := Nat.le_of_ble_eq_true hle
      obtain ⟨cs', h1, h2, h3, h4, h5⟩ := ZdJ hnew hsz r _ _ h hok.2
      refine ⟨_, h1, by simp only [ZaM, Chunk.ok]; exact ⟨trivial, h2⟩, by simp [Zai, h3], by simp [Zai, Chunk.len]; omega, ?_⟩
      simp only [Zag, Chunk.conc, h5]
      rw [List.take_append, List.drop_append, Zae, List.take_of_length_le (l := Zau k m xs) (by rw [Zae]; omega), List.drop_of_length_le (l := Zau k m xs) (by rw [Zae]; omega),
        show off + idx * st - m = off - m + idx * st by omega, show off + idx * st + sz - m = off - m + idx * st + sz by omega]
      simp
  | .rows sh m xs :: r, K, off, h, hok => by
    simp only [ZaM] at hok
    simp only [wrA] at h
    obtain ⟨h0, h1, h2, h3⟩ := Zaj h
    clear h
    rw [Bool.and_eq_true, Bool.and_eq_true] at h0
    have := beq_zero.1 h0.1.1
    subst this
    obtain rfl := Zas h0.1.2
    obtain rfl := Zas h0.2
    obtain ⟨t, hK, ht⟩ := ZeD (ρ := ρ) _ _ _ h3
    have hle : idx * Zah sh + Zah sh <= m * Zah sh := by rw [<- Nat.succ_mul]; exact Nat.mul_le_mul_right _ h1
    refine ⟨_, hK, by simp only [ZaM, Chunk.ok]; exact ⟨trivial, hok.2⟩, by simp [Zai, Chunk.len], by simp only [Zai, Chunk.len]; omega, ?_⟩
    simp only [Zag, Chunk.conc, Nat.zero_add, ht]
    rw [ZdN h1 h2, List.take_append_of_le_length (by rw [Zaf]; omega), List.drop_append_of_le_length (by rw [Zaf]; exact hle)]
    simp only [List.append_assoc]
end Go.Sx
