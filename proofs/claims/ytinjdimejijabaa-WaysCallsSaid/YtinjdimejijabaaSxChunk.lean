/- Part of the proof: SxChunk. -/
import Derived.Test.YtinjdimejijabaaSxEv
set_option linter.unusedVariables false
set_option linter.unusedSimpArgs false
namespace Go.Sx
theorem Zck {a b : IntKind} (h : kEq a b = true) : a = b := by cases a <;> cases b <;> first | rfl | cases h
theorem Zao {c : Bool} {A : Prop} (h : bif c then A else False) : c = true /\ A := by
  cases c with
  | false => exact h.elim
  | true => exact ⟨rfl, h⟩
theorem Zat {m n : Nat} (h : Nat.beq m n = true) : m = n := Nat.eq_of_beq_eq_true h
theorem beq_zero {n : Nat} : Nat.beq n 0 = true ↔ n = 0 := ⟨fun h => Nat.eq_of_beq_eq_true h, fun h => by subst h; rfl⟩
theorem Zbq {n : Nat} (h : Nat.beq n 0 = false) : n ≠ 0 := fun h' => by subst h'; cases h
theorem Zng {m n : Nat} (h : Nat.ble m n = false) : n < m := by
  rcases Nat.lt_or_ge n m with h' | h'
  · exact h'
  · rw [Nat.ble_eq_true_of_le h'] at h; cases h
theorem ZiJ {K : SVal -> Prop} {off : Nat} {ρ : Rho} {n : Nat} : ∀ (l : Leaf) (x : l.T), ZAm K off l x -> ∃ v, K v /\ v.ok ρ n /\ (l.conc x)[off]? = some (v.conc ρ)
  | .int k, x, h => by obtain ⟨h0, hK⟩ := Zao h; obtain rfl := Zat h0; exact ⟨_, hK, by simp [SVal.ok], by simp [Leaf.conc, SVal.conc]⟩
  | .bool, x, h => by obtain ⟨h0, hK⟩ := Zao h; obtain rfl := Zat h0; exact ⟨_, hK, by simp [SVal.ok], by simp [Leaf.conc, SVal.conc]⟩
  | .ints k m, x, h => by
    obtain ⟨h1, hK⟩ := h
    exact ⟨_, hK, by simp [SVal.ok], by simp only [Leaf.conc, SVal.conc]; exact ZaI _ _ _ _ h1⟩
  | .hd, _, h => h.elim
theorem Zhw {K : SVal -> Prop} {ρ : Rho} {n : Nat} : ∀ (sh : List Leaf) (x : Tup sh) (off : Nat), Zqx K sh x off -> ∃ v, K v /\ v.ok ρ n /\ (ZaF sh x)[off]? = some (v.conc ρ)
  | [], _, _, h => h.elim
  | [l], x, off, h => ZiJ l x h
  | l :: m :: r, x, off, h => by
    simp only [Zqx] at h
    cases hb : Nat.ble l.len off with
    | true =>
      rw [hb] at h
      obtain ⟨v, h1, h2, h3⟩ := Zhw (m :: r) x.2 _ h
      have := Nat.le_of_ble_eq_true hb
      refine ⟨v, h1, h2, ?_⟩
      simp only [ZaF]
      rw [List.getElem?_append_right (by rw [Za9]; exact this), Za9]
      exact h3
    | false =>
      rw [hb] at h
      obtain ⟨v, h1, h2, h3⟩ := ZiJ l x.1 h
      refine ⟨v, h1, h2, ?_⟩
      simp only [ZaF]
      rw [List.getElem?_append_left (by rw [Za9]; exact Zng hb)]
      exact h3
theorem ZkF {α : Type} (f : Nat -> List α) (s : Nat) (hs : ∀ i, (f i).length = s) : ∀ (n i j : Nat), i < n -> j < s -> ((List.range n).flatMap f)[i * s + j]? = (f i)[j]?
  | 0, _, _, h, _ => by omega
  | n + 1, i, j, h, hj => by
    rw [List.range_succ, List.flatMap_append]
    rcases Nat.lt_or_ge i n with h' | h'
    · rw [List.getElem?_append_left]
      · exact ZkF f s hs n i j h' hj
      · rw [Za6 f s hs]
        calc i * s + j < i * s + s := by omega
          _ = (i + 1) * s := by rw [Nat.succ_mul]
          _ <= n * s := Nat.mul_le_mul_right _ h'
    · have : i = n := by omega
      subst this
      rw [List.getElem?_append_right (by rw [Za6 f s hs]; omega), Za6 f s hs]
      simp
theorem Zgn {idx st : Nat} {K : SVal -> Prop} {ρ : Rho} {n : Nat} : ∀ (cs : List Chunk) (off : Nat), rdC idx st K cs off -> ZaV ρ n cs ->
    ∃ v, K v /\ v.ok ρ n /\ (Zai ρ cs)[off + idx * st]? = some (v.conc ρ)
  | [], _, h, _ => h.elim
  | .one v :: r, off, h, hok => by
    simp only [ZaV, Chunk.ok] at hok
    simp only [rdC] at h
    cases hb : Nat.beq off 0 with
    | true =>
      rw [hb] at h
      obtain ⟨h0, hK⟩ := Zao h
      obtain rfl := Zat h0
      have := beq_zero.1 hb
      subst this
      exact ⟨v, hK, hok.1, by simp [Zai, Chunk.conc]⟩
    | false =>
      rw [hb] at h
      obtain ⟨u, h1, h2, h3⟩ := Zgn r _ h hok.2
      have := Zbq hb
      refine ⟨u, h1, h2, ?_⟩
      simp only [Zai, Chunk.conc]
      rw [List.getElem?_append_right (by simp; omega)]
      rw [show off + idx * st - [v.conc ρ].length = off - 1 + idx * st by simp; omega]
      exact h3
  | .ints k m xs :: r, off, h, hok => by
    simp only [ZaV] at hok
    simp only [rdC] at h
    cases hb : Nat.beq off 0 with
    | true =>
      rw [hb] at h
      obtain ⟨h0, h1, hK⟩ := Zao h
      obtain rfl := Zat h0
      have := beq_zero.1 hb
      subst this
      refine ⟨_, hK, by simp [SVal.ok], ?_⟩
      simp only [Zai, Chunk.conc, SVal.conc, Nat.zero_add, Nat.mul_one]
      rw [List.getElem?_append_left (by rw [Zaj]; exact h1)]
      exact ZaI _ _ _ _ h1
    | false =>
      rw [hb] at h
      obtain ⟨hle, h⟩ := Zao h
      have hle := Nat.le_of_ble_eq_true hle
      obtain ⟨u, h1, h2, h3⟩ := Zgn r _ h hok.2
      refine ⟨u, h1, h2, ?_⟩
      simp only [Zai, Chunk.conc]
      rw [List.getElem?_append_right (by rw [Zaj]; omega), Zaj]
      rw [show off + idx * st - m = off - m + idx * st by omega]
      exact h3
  | .rows sh m xs :: r, off, h, hok => by
    simp only [rdC] at h
    obtain ⟨h0, h1, h2⟩ := Zao h
    obtain rfl := Zat h0
    obtain ⟨v, h3, h4, h5⟩ := Zhw (ρ := ρ) (n := n) sh _ off h2
    refine ⟨v, h3, h4, ?_⟩
    have hoff : off < Zah sh := by
      have := (List.getElem?_eq_some_iff.1 h5).1
      rwa [Zas] at this
    have key := ZkF (fun i => ZaF sh (xs.getD i (Tup.dflt sh))) (Zah sh) (fun i => Zas _ _) m idx off h1 hoff
    simp only [Zai, Chunk.conc]
    rw [List.getElem?_append_left]
    · rw [Nat.add_comm off]
      unfold Zal
      rw [key]; exact h5
    · rw [Zae]
      calc off + idx * Zah sh < Zah sh + idx * Zah sh := by omega
        _ = (idx + 1) * Zah sh := by rw [Nat.succ_mul]; omega
        _ <= m * Zah sh := Nat.mul_le_mul_right _ h1
theorem ZmT (k : IntKind) (n : Nat) (xs : List Int) (i : Nat) (m : Int) (h : i < n) (h' : i < xs.length) :
    Zav k n (xs.set i m) = (Zav k n xs).set i (.int k m) := by
  apply List.ext_getElem?
  intro j
  rw [List.getElem?_set]
  by_cases hij : i = j
  · subst hij
    rw [if_pos rfl, if_pos (by rw [Zaj]; exact h), ZaI _ _ _ _ h]
    simp [h']
  · rw [if_neg hij]
    rcases Nat.lt_or_ge j n with hj | hj
    · rw [ZaI _ _ _ _ hj, ZaI _ _ _ _ hj]
      simp [hij]
    · rw [List.getElem?_eq_none (by rw [Zaj]; exact hj), List.getElem?_eq_none (by rw [Zaj]; exact hj)]
theorem Zd5 (sh : List Leaf) : ∀ (xs : List (Tup sh)), Zal sh xs.length xs = xs.flatMap (ZaF sh)
  | [] => rfl
  | x :: r => by
    have ih := Zd5 sh r
    unfold Zal at ih ⊢
    rw [List.length_cons, List.range_succ_eq_map, List.flatMap_cons, List.flatMap_cons, List.flatMap_map]
    simp only [List.getD_cons_zero, List.getD_cons_succ]
    rw [ih]
theorem Za8 {sh : List Leaf} {n : Nat} {xs : List (Tup sh)} (h : xs.length = n) : Zal sh n xs = xs.flatMap (ZaF sh) := by
  subst h; exact Zd5 sh xs
theorem ZeP {sh : List Leaf} {n : Nat} {xs : List (Tup sh)} {i : Nat} {t : Tup sh} (h : i < n) (hx : xs.length = n) :
    Zal sh n (xs.set i t) = (Zal sh n xs).take (i * Zah sh) ++ ZaF sh t ++ (Zal sh n xs).drop (i * Zah sh + Zah sh) := by
  have hl : ∀ ys : List (Tup sh), (ys.flatMap (ZaF sh)).length = ys.length * Zah sh := fun ys => by
    rw [<- Zd5, Zae]
  have hi : i < xs.length := by omega
  have e1 : xs = xs.take i ++ xs[i] :: xs.drop (i + 1) := by rw [<- List.drop_eq_getElem_cons hi, List.take_append_drop]
  have e2 : xs.set i t = xs.take i ++ t :: xs.drop (i + 1) := List.set_eq_take_append_cons_drop.trans (by rw [if_pos hi])
  have l1 : ((xs.take i).flatMap (ZaF sh)).length = i * Zah sh := by rw [hl, List.length_take]; congr 1; omega
  rw [Za8 (by rw [List.length_set, hx]), Za8 hx, e2]
  conv => rhs; rw [e1]
  simp only [List.flatMap_append, List.flatMap_cons]
  rw [List.take_left' l1, List.drop_append, List.drop_of_length_le (l := (xs.take i).flatMap (ZaF sh)) (by omega), l1, List.nil_append, show i * Zah sh + Zah sh - i * Zah sh = Zah sh by omega, List.drop_left' (Zas _ _), List.append_assoc]
theorem ZiI {ρ : Rho} {v : SVal} : ∀ (l : Leaf) (x : l.T) (off : Nat) (K : l.T -> Prop), Zuh l x off v K -> ∃ y, K y /\ off < l.len /\ l.conc y = (l.conc x).set off (v.conc ρ)
  | .int k, x, off, K, h => by
    simp only [Zuh] at h
    obtain ⟨h0, g⟩ := Zao h
    clear h
    have := Zat h0; subst this
    split at g
    · obtain ⟨h1, g1⟩ := Zao g
      obtain rfl := Zck h1
      exact ⟨_, g1, by simp [Leaf.len], by simp [Leaf.conc, SVal.conc]⟩
    · exact g.elim
  | .bool, x, off, K, h => by
    simp only [Zuh] at h
    obtain ⟨h0, g⟩ := Zao h
    clear h
    have := Zat h0; subst this
    split at g
    · exact ⟨_, g, by simp [Leaf.len], by simp [Leaf.conc, SVal.conc]⟩
    · exact g.elim
  | .ints _ _, _, _, _, h => h.elim
  | .hd, _, _, _, h => h.elim
theorem Zij {ρ : Rho} {v : SVal} : ∀ (sh : List Leaf) (x : Tup sh) (off : Nat) (K : Tup sh -> Prop), Zvv sh x off v K -> ∃ y, K y /\ off < Zah sh /\ ZaF sh y = (ZaF sh x).set off (v.conc ρ)
  | [], _, _, _, h => h.elim
  | [l], x, off, K, h => by
    obtain ⟨y, h1, h2, h3⟩ := ZiI (ρ := ρ) l x off K h
    exact ⟨y, h1, by simpa [Zah] using h2, h3⟩
  | l :: m :: r, x, off, K, h => by
    simp only [Zvv] at h
    cases hb : Nat.ble l.len off with
    | true =>
      rw [hb] at h
      obtain ⟨y, h1, h2, h3⟩ := Zij (ρ := ρ) (m :: r) x.2 _ _ h
      have := Nat.le_of_ble_eq_true hb
      refine ⟨_, h1, by simp only [Zah] at *; omega, ?_⟩
      simp only [ZaF]
      rw [List.set_append_right _ _ (by rw [Za9]; exact this), Za9, h3]
    | false =>
      rw [hb] at h
      obtain ⟨y, h1, h2, h3⟩ := ZiI (ρ := ρ) l x.1 off _ h
      refine ⟨_, h1, by simp only [Zah] at *; omega, ?_⟩
      simp only [ZaF]
      rw [List.set_append_left _ _ (by rw [Za9]; exact h2), h3]
theorem Zik {idx st : Nat} {v : SVal} {ρ : Rho} {n : Nat} (hv : v.ok ρ n) : ∀ (cs : List Chunk) (K : List Chunk -> Prop) (off : Nat), wrC idx st v K cs off -> ZaV ρ n cs ->
    ∃ cs', K cs' /\ ZaV ρ n cs' /\ Zam cs' = Zam cs /\ off + idx * st < Zam cs /\ Zai ρ cs' = (Zai ρ cs).set (off + idx * st) (v.conc ρ)
  | [], _, _, h, _ => h.elim
  | .one u :: r, K, off, h, hok => by
    simp only [ZaV, Chunk.ok] at hok
    simp only [wrC] at h
    cases hb : Nat.beq off 0 with
    | true =>
      rw [hb] at h
      obtain ⟨h0, hK⟩ := Zao h
      obtain rfl := Zat h0
      have := beq_zero.1 hb
      subst this
      exact ⟨_, hK, by simp only [ZaV, Chunk.ok]; exact ⟨hv, hok.2⟩, by simp [Zam, Chunk.len], by simp [Zam, Chunk.len]; omega, by simp [Zai, Chunk.conc]⟩
    | false =>
      rw [hb] at h
      obtain ⟨cs', h1, h2, h3, h4, h5⟩ := Zik hv r _ _ h hok.2
      have := Zbq hb
      refine ⟨_, h1, by simp only [ZaV, Chunk.ok]; exact ⟨hok.1, h2⟩, by simp [Zam, h3], by simp [Zam, Chunk.len]; omega, ?_⟩
      simp only [Zai, Chunk.conc, h5]
      rw [List.set_append_right _ _ (by simp; omega)]
      congr 2
      simp; omega
  | .ints k m xs :: r, K, off, h, hok => by
    simp only [ZaV] at hok
    simp only [wrC] at h
    cases hb : Nat.beq off 0 with
    | true =>
      rw [hb] at h
      simp only [cond_true] at h
      split at h
      · rename_i k' m'
        obtain ⟨h0, h1, h2, hK⟩ := Zao h
        rw [Bool.and_eq_true] at h0
        obtain rfl := Zck h0.1
        obtain rfl := Zat h0.2
        have := beq_zero.1 hb
        subst this
        refine ⟨_, hK, by simp only [ZaV, Chunk.ok]; exact ⟨trivial, hok.2⟩, by simp [Zam, Chunk.len], by simp [Zam, Chunk.len]; omega, ?_⟩
        simp only [Zai, Chunk.conc, SVal.conc, Nat.zero_add, Nat.mul_one]
        rw [List.set_append_left _ _ (by rw [Zaj]; exact h1), ZmT _ _ _ _ _ h1 h2]
      · exact h.elim
    | false =>
      rw [hb] at h
      obtain ⟨hle, h⟩ := Zao h
      have hle := Nat.le_of_ble_eq_true hle
      obtain ⟨cs', h1, h2, h3, h4, h5⟩ := Zik hv r _ _ h hok.2
      refine ⟨_, h1, by simp only [ZaV, Chunk.ok]; exact ⟨trivial, h2⟩, by simp [Zam, h3], by simp [Zam, Chunk.len]; omega, ?_⟩
      simp only [Zai, Chunk.conc, h5]
      rw [List.set_append_right _ _ (by rw [Zaj]; omega), Zaj]
      congr 2
      omega
  | .rows sh m xs :: r, K, off, h, hok => by
    simp only [ZaV] at hok
    simp only [wrC] at h
    obtain ⟨h0, h1, h2, g⟩ := Zao h
    clear h
    have h0 := Zat h0
    subst h0
    obtain ⟨t, hK, h3, h4⟩ := Zij (ρ := ρ) sh _ _ _ g
    have hin : off + idx * Zah sh < m * Zah sh := by
      have : (idx + 1) * Zah sh <= m * Zah sh := Nat.mul_le_mul_right _ h1
      rw [Nat.add_mul] at this; omega
    refine ⟨_, hK, by simp only [ZaV, Chunk.ok]; exact ⟨trivial, hok.2⟩, by simp [Zam, Chunk.len], by simp only [Zam, Chunk.len]; omega, ?_⟩
    simp only [Zai, Chunk.conc]
    rw [List.set_append_left _ _ (by rw [Zae]; exact hin)]
    congr 1
    have e1 : Zal sh m xs = (Zal sh m xs).take (idx * Zah sh) ++ ZaF sh (xs.getD idx (Tup.dflt sh)) ++ (Zal sh m xs).drop (idx * Zah sh + Zah sh) := by
      conv => lhs; rw [show xs = xs.set idx (xs.getD idx (Tup.dflt sh)) by rw [List.getD_eq_getElem?_getD, List.getElem?_eq_getElem (by omega)]; simp]
      exact ZeP h1 h2
    have hl : ((Zal sh m xs).take (idx * Zah sh)).length = idx * Zah sh := by rw [List.length_take, Zae]; omega
    rw [ZeP h1 h2, h4]
    conv => rhs; rw [e1]
    rw [List.append_assoc, List.append_assoc, List.set_append_right _ _ (by rw [hl]; omega), hl, show off + idx * Zah sh - idx * Zah sh = off by omega, List.set_append_left _ _ (by rw [Zas]; exact h3)]
theorem Zd3 {ρ : Rho} {n : Nat} : ∀ (cs : List Chunk) (K : List Chunk -> Prop) (sz : Nat), ZkA K cs sz -> ZaV ρ n cs ->
    ∃ l, K l /\ ZaV ρ n l /\ Zam l = sz /\ sz <= Zam cs /\ Zai ρ l = (Zai ρ cs).take sz
  | [], K, sz, h, _ => by
    obtain ⟨h0, hK⟩ := Zao h
    obtain rfl := Zat h0
    exact ⟨_, hK, by simp [ZaV], by simp [Zam], by simp [Zam], by simp [Zai]⟩
  | c :: r, K, sz, h, hok => by
    simp only [ZaV] at hok
    simp only [ZkA] at h
    cases hb : Nat.beq sz 0 with
    | true =>
      rw [hb] at h
      have := beq_zero.1 hb
      subst this
      exact ⟨_, h, by simp [ZaV], by simp [Zam], by simp, by simp [Zai]⟩
    | false =>
      rw [hb] at h
      obtain ⟨hle, h⟩ := Zao h
      have hle := Nat.le_of_ble_eq_true hle
      obtain ⟨l, h1, h2, h3, h4, h5⟩ := Zd3 r _ _ h hok.2
      refine ⟨_, h1, by simp only [ZaV]; exact ⟨hok.1, h2⟩, by simp [Zam, h3]; omega, by simp [Zam]; omega, ?_⟩
      simp only [Zai, h5]
      rw [List.take_append, Za3, List.take_of_length_le (l := c.conc ρ) (by rw [Za3]; exact hle)]
theorem Zeh {ρ : Rho} {n : Nat} : ∀ (cs : List Chunk) (K : List Chunk -> Prop) (sz : Nat), ZrB K cs sz -> ZaV ρ n cs ->
    ∃ l, K l /\ ZaV ρ n l /\ Zam l + sz = Zam cs /\ Zai ρ l = (Zai ρ cs).drop sz
  | [], K, sz, h, _ => by
    obtain ⟨h0, hK⟩ := Zao h
    obtain rfl := Zat h0
    exact ⟨_, hK, by simp [ZaV], by simp [Zam], by simp [Zai]⟩
  | c :: r, K, sz, h, hok => by
    have hok0 := hok
    simp only [ZaV] at hok
    simp only [ZrB] at h
    cases hb : Nat.beq sz 0 with
    | true =>
      rw [hb] at h
      have := beq_zero.1 hb
      subst this
      exact ⟨_, h, hok0, by simp, by simp⟩
    | false =>
      rw [hb] at h
      obtain ⟨hle, h⟩ := Zao h
      have hle := Nat.le_of_ble_eq_true hle
      obtain ⟨l, h1, h2, h3, h4⟩ := Zeh r _ _ h hok.2
      refine ⟨_, h1, h2, by simp [Zam]; omega, ?_⟩
      simp only [Zai, h4]
      rw [List.drop_append, Za3, List.drop_of_length_le (l := c.conc ρ) (by rw [Za3]; exact hle), List.nil_append]
theorem Zdo (k : IntKind) (n : Nat) (xs : List Int) (i sz : Nat) (h : i + sz <= n) :
    Zav k sz ((xs.drop i).take sz) = ((Zav k n xs).drop i).take sz := by
  apply List.ext_getElem?
  intro j
  rcases Nat.lt_or_ge j sz with hj | hj
  · rw [ZaI _ _ _ _ hj, List.getElem?_take_of_lt hj, List.getElem?_drop, ZaI _ _ _ _ (by omega)]
    simp [List.getElem?_take_of_lt hj, List.getElem?_drop]
  · rw [List.getElem?_eq_none (by rw [Zaj]; exact hj), List.getElem?_eq_none (by simp; omega)]
theorem ZfE {ρ : Rho} : ∀ (l : Leaf) (x : l.T), (ZbE l x).conc ρ = l.conc x
  | .int _, _ => by simp [ZbE, Chunk.conc, Leaf.conc, SVal.conc]
  | .bool, _ => by simp [ZbE, Chunk.conc, Leaf.conc, SVal.conc]
  | .ints _ _, _ => by simp [ZbE, Chunk.conc, Leaf.conc]
  | .hd, _ => by simp [ZbE, Chunk.conc, Leaf.conc, Zal, ZaF]
theorem ZhE {ρ : Rho} {n : Nat} : ∀ (l : Leaf) (x : l.T), (ZbE l x).ok ρ n
  | .int _, _ => by simp [ZbE, Chunk.ok, SVal.ok]
  | .bool, _ => by simp [ZbE, Chunk.ok, SVal.ok]
  | .ints _ _, _ => by simp [ZbE, Chunk.ok]
  | .hd, _ => by simp [ZbE, Chunk.ok]
theorem ZbU {ρ : Rho} : ∀ (sh : List Leaf) (x : Tup sh), Zai ρ (Zbt sh x) = ZaF sh x
  | [], _ => by simp [Zbt, Zai, ZaF]
  | [l], x => by simp [Zbt, Zai, ZaF, ZfE]
  | l :: m :: r, x => by
    have := ZbU (ρ := ρ) (m :: r) x.2
    simp only [Zbt, Zai, ZaF, ZfE, this]
theorem Zhp {ρ : Rho} {n : Nat} : ∀ (sh : List Leaf) (x : Tup sh), ZaV ρ n (Zbt sh x)
  | [], _ => by simp [Zbt, ZaV]
  | [l], x => by simp [Zbt, ZaV, ZhE]
  | l :: m :: r, x => by
    have := Zhp (ρ := ρ) (n := n) (m :: r) x.2
    simp only [Zbt, ZaV, ZhE, true_and]; exact this
theorem Zrs {α : Type} (f : Nat -> List α) (s : Nat) (hs : ∀ i, (f i).length = s) (n i : Nat) (h : i < n) : (((List.range n).flatMap f).drop (i * s)).take s = f i := by
  apply List.ext_getElem?
  intro j
  rcases Nat.lt_or_ge j s with hj | hj
  · rw [List.getElem?_take_of_lt hj, List.getElem?_drop]
    exact ZkF f s hs n i j h hj
  · rw [List.getElem?_eq_none (by simp; omega), List.getElem?_eq_none (by rw [hs]; exact hj)]
theorem Zgo {idx st sz : Nat} {K : List Chunk -> Prop} {ρ : Rho} {n : Nat} : ∀ (cs : List Chunk) (off : Nat), rdA idx st sz K cs off -> ZaV ρ n cs ->
    ∃ l, K l /\ ZaV ρ n l /\ Zam l = sz /\ off + idx * st + sz <= Zam cs /\ Zai ρ l = ((Zai ρ cs).drop (off + idx * st)).take sz
  | [], _, h, _ => h.elim
  | .one v :: r, off, h, hok => by
    have hok0 := hok
    simp only [ZaV, Chunk.ok] at hok
    simp only [rdA] at h
    cases hb : Nat.beq off 0 with
    | true =>
      rw [hb] at h
      obtain ⟨h0, h⟩ := Zao h
      obtain rfl := Zat h0
      have := beq_zero.1 hb
      subst this
      obtain ⟨l, h1, h2, h3, h4, h5⟩ := Zd3 _ _ _ h hok0
      exact ⟨l, h1, h2, h3, by simpa using h4, by simpa using h5⟩
    | false =>
      rw [hb] at h
      obtain ⟨l, h1, h2, h3, h4, h5⟩ := Zgo r _ h hok.2
      have := Zbq hb
      refine ⟨l, h1, h2, h3, by simp [Zam, Chunk.len]; omega, ?_⟩
      simp only [Zai, Chunk.conc]
      rw [List.drop_append, List.drop_of_length_le (by simp; omega), List.nil_append, h5]
      congr 2
      simp; omega
  | .ints k m xs :: r, off, h, hok => by
    have hok0 := hok
    simp only [ZaV] at hok
    simp only [rdA] at h
    cases hb : Nat.beq off 0 with
    | true =>
      rw [hb] at h
      have := beq_zero.1 hb
      subst this
      simp only [cond_true] at h
      cases hc : Nat.ble m sz with
      | true =>
        rw [hc] at h
        obtain ⟨h0, h⟩ := Zao h
        obtain rfl := Zat h0
        obtain ⟨l, h1, h2, h3, h4, h5⟩ := Zd3 _ _ _ h hok0
        exact ⟨l, h1, h2, h3, by simpa using h4, by simpa using h5⟩
      | false =>
        rw [hc] at h
        obtain ⟨h0, h1, hK⟩ := Zao h
        obtain rfl := Zat h0
        refine ⟨_, hK, by simp [ZaV, Chunk.ok], by simp [Zam, Chunk.len], by simp [Zam, Chunk.len]; omega, ?_⟩
        simp only [Zai, Chunk.conc, List.append_nil, Nat.zero_add, Nat.mul_one]
        rw [Zdo _ _ _ _ _ h1, List.drop_append_of_le_length (by rw [Zaj]; omega),
          List.take_append_of_le_length (by rw [List.length_drop, Zaj]; omega)]
    | false =>
      rw [hb] at h
      obtain ⟨hle, h⟩ := Zao h
      have hle := Nat.le_of_ble_eq_true hle
      obtain ⟨l, h1, h2, h3, h4, h5⟩ := Zgo r _ h hok.2
      refine ⟨l, h1, h2, h3, by simp [Zam, Chunk.len]; omega, ?_⟩
      simp only [Zai, Chunk.conc]
      rw [List.drop_append, List.drop_of_length_le (by rw [Zaj]; omega), List.nil_append, Zaj, h5]
      congr 2
      omega
  | .rows sh m xs :: r, off, h, hok => by
    simp only [rdA] at h
    obtain ⟨h0, h1, hK⟩ := Zao h
    obtain rfl := Zat h0
    obtain ⟨l1, g1, g2, g3, g4⟩ := Zeh (ρ := ρ) (n := n) _ _ _ hK (Zhp _ _)
    obtain ⟨l, g5, g6, g7, g8, g9⟩ := Zd3 (ρ := ρ) (n := n) _ _ _ g1 g2
    have hlen : (idx + 1) * Zah sh <= m * Zah sh := Nat.mul_le_mul_right _ h1
    rw [Nat.succ_mul] at hlen
    rw [<- Zar ρ (Zbt sh _), ZbU, Zas] at g3
    refine ⟨l, g5, g6, g7, by simp [Zam, Chunk.len]; omega, ?_⟩
    rw [g9, g4, ZbU]
    simp only [Zai, Chunk.conc]
    rw [List.drop_append_of_le_length (by rw [Zae]; omega), List.take_append_of_le_length (by rw [List.length_drop, Zae]; omega)]
    unfold Zal
    have hsl := Zrs (fun i => ZaF sh (xs.getD i (Tup.dflt sh))) (Zah sh) (fun i => Zas _ _) m idx h1
    rw [<- hsl, List.drop_take, List.drop_drop, List.take_take, Nat.min_eq_left (by omega), Nat.add_comm off]
theorem Zex {ρ : Rho} : ∀ (a b : List Chunk), Zai ρ (a ++ b) = Zai ρ a ++ Zai ρ b
  | [], b => by simp [Zai]
  | c :: r, b => by simp [Zai, Zex r b]
theorem ZfO {ρ : Rho} {n : Nat} : ∀ {a b : List Chunk}, ZaV ρ n a -> ZaV ρ n b -> ZaV ρ n (a ++ b)
  | [], _, _, hb => hb
  | c :: r, b, ha, hb => by simp only [ZaV, List.cons_append] at *; exact ⟨ha.1, ZfO ha.2 hb⟩
theorem ZeT : ∀ (a b : List Chunk), Zam (a ++ b) = Zam a + Zam b
  | [], b => by simp [Zam]
  | c :: r, b => by simp [Zam, ZeT r b]; omega
theorem ZcY {α : Type} (A B C : List α) (j : Nat) : (A ++ B ++ C)[j]? = if j < A.length then A[j]? else if j < A.length + B.length then B[j - A.length]? else C[j - A.length - B.length]? := by
  rw [List.getElem?_append, List.length_append]
  by_cases h1 : j < A.length
  · rw [if_pos (by omega), if_pos h1, List.getElem?_append_left h1]
  · by_cases h2 : j < A.length + B.length
    · rw [if_pos h2, if_neg h1, if_pos h2, List.getElem?_append_right (by omega)]
    · rw [if_neg h2, if_neg h1, if_neg h2, Nat.sub_sub]
theorem ZeV (k : IntKind) (n : Nat) (xs ys : List Int) (i sz : Nat) (h : i + sz <= n) (hx : xs.length = n) (hy : ys.length = sz) :
    Zav k n (xs.take i ++ ys ++ xs.drop (i + sz)) = (Zav k n xs).take i ++ Zav k sz ys ++ (Zav k n xs).drop (i + sz) := by
  apply List.ext_getElem?
  intro j
  have l1 : (xs.take i).length = i := by simp; omega
  have l2 : ((Zav k n xs).take i).length = i := by simp [Zaj]; omega
  rw [ZcY, l2, Zaj]
  rcases Nat.lt_or_ge j n with hj | hj
  · rw [ZaI _ _ _ _ hj, List.getD_eq_getElem?_getD, ZcY, l1, hy]
    by_cases h1 : j < i
    · rw [if_pos h1, if_pos h1, List.getElem?_take_of_lt h1, List.getElem?_take_of_lt h1, ZaI _ _ _ _ hj, List.getD_eq_getElem?_getD]
    · rw [if_neg h1, if_neg h1]
      by_cases h2 : j < i + sz
      · rw [if_pos h2, if_pos h2, ZaI _ _ _ _ (by omega), List.getD_eq_getElem?_getD]
      · rw [if_neg h2, if_neg h2, List.getElem?_drop, List.getElem?_drop, show i + sz + (j - i - sz) = j by omega, ZaI _ _ _ _ hj, List.getD_eq_getElem?_getD]
  · rw [List.getElem?_eq_none (by rw [Zaj]; exact hj), if_neg (by omega), if_neg (by omega), List.getElem?_eq_none (by simp [Zaj]; omega)]
theorem Zhq {ρ : Rho} : ∀ (l : Leaf) (c : Chunk) (K : l.T -> Prop), ZjL l c K -> ∃ x, K x /\ c.conc ρ = l.conc x
  | .int k, c, K, h => by
    simp only [ZjL] at h
    split at h
    · obtain ⟨h0, h⟩ := Zao h
      obtain rfl := Zck h0
      exact ⟨_, h, by simp [Chunk.conc, SVal.conc, Leaf.conc]⟩
    · exact h.elim
  | .bool, c, K, h => by
    simp only [ZjL] at h
    split at h
    · exact ⟨_, h, by simp [Chunk.conc, SVal.conc, Leaf.conc]⟩
    · exact h.elim
  | .ints k n, c, K, h => by
    simp only [ZjL] at h
    split at h
    · obtain ⟨h0, h⟩ := Zao h
      rw [Bool.and_eq_true] at h0
      obtain rfl := Zck h0.1
      obtain rfl := Zat h0.2
      exact ⟨_, h, by simp [Chunk.conc, Leaf.conc]⟩
    · exact h.elim
  | .hd, _, _, h => h.elim
theorem ZfN {ρ : Rho} : ∀ (sh : List Leaf) (cs : List Chunk) (K : Tup sh -> Prop), Zrl sh cs K -> ∃ x, K x /\ Zai ρ cs = ZaF sh x
  | [], _, _, h => h.elim
  | [l], cs, K, h => by
    simp only [Zrl] at h
    split at h
    · obtain ⟨x, h1, h2⟩ := Zhq (ρ := ρ) _ _ _ h
      exact ⟨x, h1, by simp [Zai, h2, ZaF]⟩
    · exact h.elim
  | l :: m :: r, cs, K, h => by
    simp only [Zrl] at h
    split at h
    · obtain ⟨x, h1, h2⟩ := Zhq (ρ := ρ) _ _ _ h
      obtain ⟨y, h3, h4⟩ := ZfN (ρ := ρ) (m :: r) _ _ h1
      exact ⟨(x, y), h3, by simp only [Zai, h2, h4, ZaF]⟩
    · exact h.elim
theorem ZeL {idx st sz : Nat} {new : List Chunk} {ρ : Rho} {n : Nat} (hnew : ZaV ρ n new) (hsz : Zam new = sz) : ∀ (cs : List Chunk) (K : List Chunk -> Prop) (off : Nat), wrA idx st sz new K cs off -> ZaV ρ n cs ->
    ∃ cs', K cs' /\ ZaV ρ n cs' /\ Zam cs' = Zam cs /\ off + idx * st + sz <= Zam cs /\
      Zai ρ cs' = (Zai ρ cs).take (off + idx * st) ++ Zai ρ new ++ (Zai ρ cs).drop (off + idx * st + sz)
  | [], _, _, h, _ => h.elim
  | .one v :: r, K, off, h, hok => by
    have hok0 := hok
    simp only [ZaV, Chunk.ok] at hok
    simp only [wrA] at h
    cases hb : Nat.beq off 0 with
    | true =>
      rw [hb] at h
      obtain ⟨h0, h⟩ := Zao h
      obtain rfl := Zat h0
      have := beq_zero.1 hb
      subst this
      obtain ⟨l, h1, h2, h3, h4⟩ := Zeh _ _ _ h hok0
      refine ⟨_, h1, ZfO hnew h2, by rw [ZeT]; omega, by simp; omega, ?_⟩
      rw [Zex, h4]; simp
    | false =>
      rw [hb] at h
      obtain ⟨cs', h1, h2, h3, h4, h5⟩ := ZeL hnew hsz r _ _ h hok.2
      have := Zbq hb
      refine ⟨_, h1, by simp only [ZaV, Chunk.ok]; exact ⟨hok.1, h2⟩, by simp [Zam, h3], by simp [Zam, Chunk.len]; omega, ?_⟩
      simp only [Zai, Chunk.conc, h5]
      rw [show off + idx * st = (off - 1 + idx * st) + 1 by omega, show off - 1 + idx * st + 1 + sz = (off - 1 + idx * st + sz) + 1 by omega]
      simp
  | .ints k m xs :: r, K, off, h, hok => by
    have hok0 := hok
    simp only [ZaV] at hok
    simp only [wrA] at h
    cases hb : Nat.beq off 0 with
    | true =>
      rw [hb] at h
      have := beq_zero.1 hb
      subst this
      simp only [cond_true] at h
      cases hc : Nat.ble m sz with
      | true =>
        rw [hc] at h
        obtain ⟨h0, h⟩ := Zao h
        obtain rfl := Zat h0
        obtain ⟨l, h1, h2, h3, h4⟩ := Zeh _ _ _ h hok0
        refine ⟨_, h1, ZfO hnew h2, by rw [ZeT]; omega, by simp; omega, ?_⟩
        rw [Zex, h4]; simp
      | false =>
        rw [hc] at h
        simp only [cond_false] at h
        split at h
        · rename_i k' m' ys
          obtain ⟨h0, h1, h2, h3, hK⟩ := Zao h
          rw [Bool.and_eq_true, Bool.and_eq_true] at h0
          obtain rfl := Zck h0.1.1
          obtain rfl := Zat h0.1.2
          obtain rfl := Zat h0.2
          refine ⟨_, hK, by simp only [ZaV, Chunk.ok]; exact ⟨trivial, hok.2⟩, by simp [Zam, Chunk.len], by simp [Zam, Chunk.len]; omega, ?_⟩
          simp only [Zai, Chunk.conc, List.append_nil, Nat.zero_add, Nat.mul_one]
          rw [ZeV _ _ _ _ _ _ h1 h2 h3, List.take_append_of_le_length (by rw [Zaj]; omega), List.drop_append_of_le_length (by rw [Zaj]; omega)]
          simp
        · exact h.elim
    | false =>
      rw [hb] at h
      obtain ⟨hle, h⟩ := Zao h
      have hle := Nat.le_of_ble_eq_true hle
      obtain ⟨cs', h1, h2, h3, h4, h5⟩ := ZeL hnew hsz r _ _ h hok.2
      refine ⟨_, h1, by simp only [ZaV, Chunk.ok]; exact ⟨trivial, h2⟩, by simp [Zam, h3], by simp [Zam, Chunk.len]; omega, ?_⟩
      simp only [Zai, Chunk.conc, h5]
      rw [List.take_append, List.drop_append, Zaj, List.take_of_length_le (l := Zav k m xs) (by rw [Zaj]; omega), List.drop_of_length_le (l := Zav k m xs) (by rw [Zaj]; omega),
        show off + idx * st - m = off - m + idx * st by omega, show off + idx * st + sz - m = off - m + idx * st + sz by omega]
      simp
  | .rows sh m xs :: r, K, off, h, hok => by
    simp only [ZaV] at hok
    simp only [wrA] at h
    obtain ⟨h0, h1, h2, h3⟩ := Zao h
    clear h
    rw [Bool.and_eq_true, Bool.and_eq_true] at h0
    have := beq_zero.1 h0.1.1
    subst this
    obtain rfl := Zat h0.1.2
    obtain rfl := Zat h0.2
    obtain ⟨t, hK, ht⟩ := ZfN (ρ := ρ) _ _ _ h3
    have hle : idx * Zah sh + Zah sh <= m * Zah sh := by rw [<- Nat.succ_mul]; exact Nat.mul_le_mul_right _ h1
    refine ⟨_, hK, by simp only [ZaV, Chunk.ok]; exact ⟨trivial, hok.2⟩, by simp [Zam, Chunk.len], by simp only [Zam, Chunk.len]; omega, ?_⟩
    simp only [Zai, Chunk.conc, Nat.zero_add, ht]
    rw [ZeP h1 h2, List.take_append_of_le_length (by rw [Zae]; omega), List.drop_append_of_le_length (by rw [Zae]; exact hle)]
    simp only [List.append_assoc]
end Go.Sx
