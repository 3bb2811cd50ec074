/- Part of the proof: SxChunk. -/
import Derived.Test.YtinjdimejijabaaSxEv
set_option linter.unusedVariables false
set_option linter.unusedSimpArgs false
namespace Go.Sx
theorem Zfy {a b : IntKind} (h : kEq a b = true) : a = b := by cases a <;> cases b <;> first | rfl | cases h
theorem ZaH {c : Bool} {A : Prop} (h : bif c then A else False) : c = true /\ A := by
  cases c with
  | false => exact h.elim
  | true => exact ⟨rfl, h⟩
theorem ZaY {m n : Nat} (h : Nat.beq m n = true) : m = n := Nat.eq_of_beq_eq_true h
theorem beq_zero {n : Nat} : Nat.beq n 0 = true ↔ n = 0 := ⟨fun h => Nat.eq_of_beq_eq_true h, fun h => by subst h; rfl⟩
theorem Zcf {n : Nat} (h : Nat.beq n 0 = false) : n ≠ 0 := fun h' => by subst h'; cases h
theorem Zly {m n : Nat} (h : Nat.ble m n = false) : n < m := by
  rcases Nat.lt_or_ge n m with h' | h'
  · exact h'
  · rw [Nat.ble_eq_true_of_le h'] at h; cases h
theorem Zif {K : SVal -> Prop} {off : Nat} {ρ : Rho} {n : Nat} : ∀ (l : Leaf) (x : l.T), ZwE K off l x -> ∃ v, K v /\ v.ok ρ n /\ (l.conc x)[off]? = some (v.conc ρ)
  | .int k, x, h => by obtain ⟨h0, hK⟩ := ZaH h; obtain rfl := ZaY h0; exact ⟨_, hK, by simp [SVal.ok], by simp [Leaf.conc, SVal.conc]⟩
  | .bool, x, h => by obtain ⟨h0, hK⟩ := ZaH h; obtain rfl := ZaY h0; exact ⟨_, hK, by simp [SVal.ok], by simp [Leaf.conc, SVal.conc]⟩
  | .ints k m, x, h => by
    obtain ⟨h1, hK⟩ := h
    exact ⟨_, hK, by simp [SVal.ok], by simp only [Leaf.conc, SVal.conc]; exact Za1 _ _ _ _ h1⟩
theorem Zhy {K : SVal -> Prop} {ρ : Rho} {n : Nat} : ∀ (sh : List Leaf) (x : Tup sh) (off : Nat), Zk6 K sh x off -> ∃ v, K v /\ v.ok ρ n /\ (Zbc sh x)[off]? = some (v.conc ρ)
  | [], _, _, h => h.elim
  | [l], x, off, h => Zif l x h
  | l :: m :: r, x, off, h => by
    simp only [Zk6] at h
    cases hb : Nat.ble l.len off with
    | true =>
      rw [hb] at h
      obtain ⟨v, h1, h2, h3⟩ := Zhy (m :: r) x.2 _ h
      have := Nat.le_of_ble_eq_true hb
      refine ⟨v, h1, h2, ?_⟩
      simp only [Zbc]
      rw [List.getElem?_append_right (by rw [ZcD]; exact this), ZcD]
      exact h3
    | false =>
      rw [hb] at h
      obtain ⟨v, h1, h2, h3⟩ := Zif l x.1 h
      refine ⟨v, h1, h2, ?_⟩
      simp only [Zbc]
      rw [List.getElem?_append_left (by rw [ZcD]; exact Zly hb)]
      exact h3
theorem Zjr {α : Type} (f : Nat -> List α) (s : Nat) (hs : ∀ i, (f i).length = s) : ∀ (n i j : Nat), i < n -> j < s -> ((List.range n).flatMap f)[i * s + j]? = (f i)[j]?
  | 0, _, _, h, _ => by omega
  | n + 1, i, j, h, hj => by
    rw [List.range_succ, List.flatMap_append]
    rcases Nat.lt_or_ge i n with h' | h'
    · rw [List.getElem?_append_left]
      · exact Zjr f s hs n i j h' hj
      · rw [ZbA f s hs]
        calc i * s + j < i * s + s := by omega
          _ = (i + 1) * s := by rw [Nat.succ_mul]
          _ <= n * s := Nat.mul_le_mul_right _ h'
    · have : i = n := by omega
      subst this
      rw [List.getElem?_append_right (by rw [ZbA f s hs]; omega), ZbA f s hs]
      simp
theorem Zfq {idx st : Nat} {K : SVal -> Prop} {ρ : Rho} {n : Nat} : ∀ (cs : List Chunk) (off : Nat), rdC idx st K cs off -> Zbx ρ n cs ->
    ∃ v, K v /\ v.ok ρ n /\ (Zae ρ cs)[off + idx * st]? = some (v.conc ρ)
  | [], _, h, _ => h.elim
  | .one v :: r, off, h, hok => by
    simp only [Zbx, Chunk.ok] at hok
    simp only [rdC] at h
    cases hb : Nat.beq off 0 with
    | true =>
      rw [hb] at h
      obtain ⟨h0, hK⟩ := ZaH h
      obtain rfl := ZaY h0
      have := beq_zero.1 hb
      subst this
      exact ⟨v, hK, hok.1, by simp [Zae, Chunk.conc]⟩
    | false =>
      rw [hb] at h
      obtain ⟨u, h1, h2, h3⟩ := Zfq r _ h hok.2
      have := Zcf hb
      refine ⟨u, h1, h2, ?_⟩
      simp only [Zae, Chunk.conc]
      rw [List.getElem?_append_right (by simp; omega)]
      rw [show off + idx * st - [v.conc ρ].length = off - 1 + idx * st by simp; omega]
      exact h3
  | .ints k m xs :: r, off, h, hok => by
    simp only [Zbx] at hok
    simp only [rdC] at h
    cases hb : Nat.beq off 0 with
    | true =>
      rw [hb] at h
      obtain ⟨h0, h1, hK⟩ := ZaH h
      obtain rfl := ZaY h0
      have := beq_zero.1 hb
      subst this
      refine ⟨_, hK, by simp [SVal.ok], ?_⟩
      simp only [Zae, Chunk.conc, SVal.conc, Nat.zero_add, Nat.mul_one]
      rw [List.getElem?_append_left (by rw [Zab]; exact h1)]
      exact Za1 _ _ _ _ h1
    | false =>
      rw [hb] at h
      obtain ⟨hle, h⟩ := ZaH h
      have hle := Nat.le_of_ble_eq_true hle
      obtain ⟨u, h1, h2, h3⟩ := Zfq r _ h hok.2
      refine ⟨u, h1, h2, ?_⟩
      simp only [Zae, Chunk.conc]
      rw [List.getElem?_append_right (by rw [Zab]; omega), Zab]
      rw [show off + idx * st - m = off - m + idx * st by omega]
      exact h3
  | .rows sh m xs :: r, off, h, hok => by
    simp only [rdC] at h
    obtain ⟨h0, h1, h2⟩ := ZaH h
    obtain rfl := ZaY h0
    obtain ⟨v, h3, h4, h5⟩ := Zhy (ρ := ρ) (n := n) sh _ off h2
    refine ⟨v, h3, h4, ?_⟩
    have hoff : off < ZaG sh := by
      have := (List.getElem?_eq_some_iff.1 h5).1
      rwa [ZaW] at this
    have key := Zjr (fun i => Zbc sh (xs.getD i (Tup.dflt sh))) (ZaG sh) (fun i => ZaW _ _) m idx off h1 hoff
    simp only [Zae, Chunk.conc]
    rw [List.getElem?_append_left]
    · rw [Nat.add_comm off]
      unfold ZaV
      rw [key]; exact h5
    · rw [ZaR]
      calc off + idx * ZaG sh < ZaG sh + idx * ZaG sh := by omega
        _ = (idx + 1) * ZaG sh := by rw [Nat.succ_mul]; omega
        _ <= m * ZaG sh := Nat.mul_le_mul_right _ h1
theorem Zld (k : IntKind) (n : Nat) (xs : List Int) (i : Nat) (m : Int) (h : i < n) (h' : i < xs.length) :
    ZaF k n (xs.set i m) = (ZaF k n xs).set i (.int k m) := by
  apply List.ext_getElem?
  intro j
  rw [List.getElem?_set]
  by_cases hij : i = j
  · subst hij
    rw [if_pos rfl, if_pos (by rw [Zab]; exact h), Za1 _ _ _ _ h]
    simp [h']
  · rw [if_neg hij]
    rcases Nat.lt_or_ge j n with hj | hj
    · rw [Za1 _ _ _ _ hj, Za1 _ _ _ _ hj]
      simp [hij]
    · rw [List.getElem?_eq_none (by rw [Zab]; exact hj), List.getElem?_eq_none (by rw [Zab]; exact hj)]
theorem Zh2 {idx st : Nat} {v : SVal} {ρ : Rho} {n : Nat} (hv : v.ok ρ n) : ∀ (cs : List Chunk) (K : List Chunk -> Prop) (off : Nat), wrC idx st v K cs off -> Zbx ρ n cs ->
    ∃ cs', K cs' /\ Zbx ρ n cs' /\ Zar cs' = Zar cs /\ off + idx * st < Zar cs /\ Zae ρ cs' = (Zae ρ cs).set (off + idx * st) (v.conc ρ)
  | [], _, _, h, _ => h.elim
  | .one u :: r, K, off, h, hok => by
    simp only [Zbx, Chunk.ok] at hok
    simp only [wrC] at h
    cases hb : Nat.beq off 0 with
    | true =>
      rw [hb] at h
      obtain ⟨h0, hK⟩ := ZaH h
      obtain rfl := ZaY h0
      have := beq_zero.1 hb
      subst this
      exact ⟨_, hK, by simp only [Zbx, Chunk.ok]; exact ⟨hv, hok.2⟩, by simp [Zar, Chunk.len], by simp [Zar, Chunk.len]; omega, by simp [Zae, Chunk.conc]⟩
    | false =>
      rw [hb] at h
      obtain ⟨cs', h1, h2, h3, h4, h5⟩ := Zh2 hv r _ _ h hok.2
      have := Zcf hb
      refine ⟨_, h1, by simp only [Zbx, Chunk.ok]; exact ⟨hok.1, h2⟩, by simp [Zar, h3], by simp [Zar, Chunk.len]; omega, ?_⟩
      simp only [Zae, Chunk.conc, h5]
      rw [List.set_append_right _ _ (by simp; omega)]
      congr 2
      simp; omega
  | .ints k m xs :: r, K, off, h, hok => by
    simp only [Zbx] at hok
    simp only [wrC] at h
    cases hb : Nat.beq off 0 with
    | true =>
      rw [hb] at h
      simp only [cond_true] at h
      split at h
      · rename_i k' m'
        obtain ⟨h0, h1, h2, hK⟩ := ZaH h
        rw [Bool.and_eq_true] at h0
        obtain rfl := Zfy h0.1
        obtain rfl := ZaY h0.2
        have := beq_zero.1 hb
        subst this
        refine ⟨_, hK, by simp only [Zbx, Chunk.ok]; exact ⟨trivial, hok.2⟩, by simp [Zar, Chunk.len], by simp [Zar, Chunk.len]; omega, ?_⟩
        simp only [Zae, Chunk.conc, SVal.conc, Nat.zero_add, Nat.mul_one]
        rw [List.set_append_left _ _ (by rw [Zab]; exact h1), Zld _ _ _ _ _ h1 h2]
      · exact h.elim
    | false =>
      rw [hb] at h
      obtain ⟨hle, h⟩ := ZaH h
      have hle := Nat.le_of_ble_eq_true hle
      obtain ⟨cs', h1, h2, h3, h4, h5⟩ := Zh2 hv r _ _ h hok.2
      refine ⟨_, h1, by simp only [Zbx, Chunk.ok]; exact ⟨trivial, h2⟩, by simp [Zar, h3], by simp [Zar, Chunk.len]; omega, ?_⟩
      simp only [Zae, Chunk.conc, h5]
      rw [List.set_append_right _ _ (by rw [Zab]; omega), Zab]
      congr 2
      omega
  | .rows sh m xs :: r, K, off, h, _ => by simp only [wrC] at h
theorem ZeQ {ρ : Rho} {n : Nat} : ∀ (cs : List Chunk) (K : List Chunk -> Prop) (sz : Nat), ZdB K cs sz -> Zbx ρ n cs ->
    ∃ l, K l /\ Zbx ρ n l /\ Zar l = sz /\ sz <= Zar cs /\ Zae ρ l = (Zae ρ cs).take sz
  | [], K, sz, h, _ => by
    obtain ⟨h0, hK⟩ := ZaH h
    obtain rfl := ZaY h0
    exact ⟨_, hK, by simp [Zbx], by simp [Zar], by simp [Zar], by simp [Zae]⟩
  | c :: r, K, sz, h, hok => by
    simp only [Zbx] at hok
    simp only [ZdB] at h
    cases hb : Nat.beq sz 0 with
    | true =>
      rw [hb] at h
      have := beq_zero.1 hb
      subst this
      exact ⟨_, h, by simp [Zbx], by simp [Zar], by simp, by simp [Zae]⟩
    | false =>
      rw [hb] at h
      obtain ⟨hle, h⟩ := ZaH h
      have hle := Nat.le_of_ble_eq_true hle
      obtain ⟨l, h1, h2, h3, h4, h5⟩ := ZeQ r _ _ h hok.2
      refine ⟨_, h1, by simp only [Zbx]; exact ⟨hok.1, h2⟩, by simp [Zar, h3]; omega, by simp [Zar]; omega, ?_⟩
      simp only [Zae, h5]
      rw [List.take_append, Zbw, List.take_of_length_le (l := c.conc ρ) (by rw [Zbw]; exact hle)]
theorem Ze4 {ρ : Rho} {n : Nat} : ∀ (cs : List Chunk) (K : List Chunk -> Prop) (sz : Nat), Zet K cs sz -> Zbx ρ n cs ->
    ∃ l, K l /\ Zbx ρ n l /\ Zar l + sz = Zar cs /\ Zae ρ l = (Zae ρ cs).drop sz
  | [], K, sz, h, _ => by
    obtain ⟨h0, hK⟩ := ZaH h
    obtain rfl := ZaY h0
    exact ⟨_, hK, by simp [Zbx], by simp [Zar], by simp [Zae]⟩
  | c :: r, K, sz, h, hok => by
    have hok0 := hok
    simp only [Zbx] at hok
    simp only [Zet] at h
    cases hb : Nat.beq sz 0 with
    | true =>
      rw [hb] at h
      have := beq_zero.1 hb
      subst this
      exact ⟨_, h, hok0, by simp, by simp⟩
    | false =>
      rw [hb] at h
      obtain ⟨hle, h⟩ := ZaH h
      have hle := Nat.le_of_ble_eq_true hle
      obtain ⟨l, h1, h2, h3, h4⟩ := Ze4 r _ _ h hok.2
      refine ⟨_, h1, h2, by simp [Zar]; omega, ?_⟩
      simp only [Zae, h4]
      rw [List.drop_append, Zbw, List.drop_of_length_le (l := c.conc ρ) (by rw [Zbw]; exact hle), List.nil_append]
theorem Zee (k : IntKind) (n : Nat) (xs : List Int) (i sz : Nat) (h : i + sz <= n) :
    ZaF k sz ((xs.drop i).take sz) = ((ZaF k n xs).drop i).take sz := by
  apply List.ext_getElem?
  intro j
  rcases Nat.lt_or_ge j sz with hj | hj
  · rw [Za1 _ _ _ _ hj, List.getElem?_take_of_lt hj, List.getElem?_drop, Za1 _ _ _ _ (by omega)]
    simp [List.getElem?_take_of_lt hj, List.getElem?_drop]
  · rw [List.getElem?_eq_none (by rw [Zab]; exact hj), List.getElem?_eq_none (by simp; omega)]
theorem Zge {ρ : Rho} : ∀ (l : Leaf) (x : l.T), (ZcQ l x).conc ρ = l.conc x
  | .int _, _ => by simp [ZcQ, Chunk.conc, Leaf.conc, SVal.conc]
  | .bool, _ => by simp [ZcQ, Chunk.conc, Leaf.conc, SVal.conc]
  | .ints _ _, _ => by simp [ZcQ, Chunk.conc, Leaf.conc]
theorem ZhF {ρ : Rho} {n : Nat} : ∀ (l : Leaf) (x : l.T), (ZcQ l x).ok ρ n
  | .int _, _ => by simp [ZcQ, Chunk.ok, SVal.ok]
  | .bool, _ => by simp [ZcQ, Chunk.ok, SVal.ok]
  | .ints _ _, _ => by simp [ZcQ, Chunk.ok]
theorem ZcO {ρ : Rho} : ∀ (sh : List Leaf) (x : Tup sh), Zae ρ (Zb6 sh x) = Zbc sh x
  | [], _ => by simp [Zb6, Zae, Zbc]
  | [l], x => by simp [Zb6, Zae, Zbc, Zge]
  | l :: m :: r, x => by
    have := ZcO (ρ := ρ) (m :: r) x.2
    simp only [Zb6, Zae, Zbc, Zge, this]
theorem Zhv {ρ : Rho} {n : Nat} : ∀ (sh : List Leaf) (x : Tup sh), Zbx ρ n (Zb6 sh x)
  | [], _ => by simp [Zb6, Zbx]
  | [l], x => by simp [Zb6, Zbx, ZhF]
  | l :: m :: r, x => by
    have := Zhv (ρ := ρ) (n := n) (m :: r) x.2
    simp only [Zb6, Zbx, ZhF, true_and]; exact this
theorem ZoT {α : Type} (f : Nat -> List α) (s : Nat) (hs : ∀ i, (f i).length = s) (n i : Nat) (h : i < n) : (((List.range n).flatMap f).drop (i * s)).take s = f i := by
  apply List.ext_getElem?
  intro j
  rcases Nat.lt_or_ge j s with hj | hj
  · rw [List.getElem?_take_of_lt hj, List.getElem?_drop]
    exact Zjr f s hs n i j h hj
  · rw [List.getElem?_eq_none (by simp; omega), List.getElem?_eq_none (by rw [hs]; exact hj)]
theorem Zfr {idx st sz : Nat} {K : List Chunk -> Prop} {ρ : Rho} {n : Nat} : ∀ (cs : List Chunk) (off : Nat), rdA idx st sz K cs off -> Zbx ρ n cs ->
    ∃ l, K l /\ Zbx ρ n l /\ Zar l = sz /\ off + idx * st + sz <= Zar cs /\ Zae ρ l = ((Zae ρ cs).drop (off + idx * st)).take sz
  | [], _, h, _ => h.elim
  | .one v :: r, off, h, hok => by
    have hok0 := hok
    simp only [Zbx, Chunk.ok] at hok
    simp only [rdA] at h
    cases hb : Nat.beq off 0 with
    | true =>
      rw [hb] at h
      obtain ⟨h0, h⟩ := ZaH h
      obtain rfl := ZaY h0
      have := beq_zero.1 hb
      subst this
      obtain ⟨l, h1, h2, h3, h4, h5⟩ := ZeQ _ _ _ h hok0
      exact ⟨l, h1, h2, h3, by simpa using h4, by simpa using h5⟩
    | false =>
      rw [hb] at h
      obtain ⟨l, h1, h2, h3, h4, h5⟩ := Zfr r _ h hok.2
      have := Zcf hb
      refine ⟨l, h1, h2, h3, by simp [Zar, Chunk.len]; omega, ?_⟩
      simp only [Zae, Chunk.conc]
      rw [List.drop_append, List.drop_of_length_le (by simp; omega), List.nil_append, h5]
      congr 2
      simp; omega
  | .ints k m xs :: r, off, h, hok => by
    have hok0 := hok
    simp only [Zbx] at hok
    simp only [rdA] at h
    cases hb : Nat.beq off 0 with
    | true =>
      rw [hb] at h
      have := beq_zero.1 hb
      subst this
      simp only [cond_true] at h
      cases hc : Nat.ble m sz with
      | true =>
        rw [hc] at h
        obtain ⟨h0, h⟩ := ZaH h
        obtain rfl := ZaY h0
        obtain ⟨l, h1, h2, h3, h4, h5⟩ := ZeQ _ _ _ h hok0
        exact ⟨l, h1, h2, h3, by simpa using h4, by simpa using h5⟩
      | false =>
        rw [hc] at h
        obtain ⟨h0, h1, hK⟩ := ZaH h
        obtain rfl := ZaY h0
        refine ⟨_, hK, by simp [Zbx, Chunk.ok], by simp [Zar, Chunk.len], by simp [Zar, Chunk.len]; omega, ?_⟩
        simp only [Zae, Chunk.conc, List.append_nil, Nat.zero_add, Nat.mul_one]
        rw [Zee _ _ _ _ _ h1, List.drop_append_of_le_length (by rw [Zab]; omega),
          List.take_append_of_le_length (by rw [List.length_drop, Zab]; omega)]
    | false =>
      rw [hb] at h
      obtain ⟨hle, h⟩ := ZaH h
      have hle := Nat.le_of_ble_eq_true hle
      obtain ⟨l, h1, h2, h3, h4, h5⟩ := Zfr r _ h hok.2
      refine ⟨l, h1, h2, h3, by simp [Zar, Chunk.len]; omega, ?_⟩
      simp only [Zae, Chunk.conc]
      rw [List.drop_append, List.drop_of_length_le (by rw [Zab]; omega), List.nil_append, Zab, h5]
      congr 2
      omega
  | .rows sh m xs :: r, off, h, hok => by
    simp only [rdA] at h
    obtain ⟨h0, h1, hK⟩ := ZaH h
    obtain rfl := ZaY h0
    obtain ⟨l1, g1, g2, g3, g4⟩ := Ze4 (ρ := ρ) (n := n) _ _ _ hK (Zhv _ _)
    obtain ⟨l, g5, g6, g7, g8, g9⟩ := ZeQ (ρ := ρ) (n := n) _ _ _ g1 g2
    have hlen : (idx + 1) * ZaG sh <= m * ZaG sh := Nat.mul_le_mul_right _ h1
    rw [Nat.succ_mul] at hlen
    rw [<- ZaO ρ (Zb6 sh _), ZcO, ZaW] at g3
    refine ⟨l, g5, g6, g7, by simp [Zar, Chunk.len]; omega, ?_⟩
    rw [g9, g4, ZcO]
    simp only [Zae, Chunk.conc]
    rw [List.drop_append_of_le_length (by rw [ZaR]; omega), List.take_append_of_le_length (by rw [List.length_drop, ZaR]; omega)]
    unfold ZaV
    have hsl := ZoT (fun i => Zbc sh (xs.getD i (Tup.dflt sh))) (ZaG sh) (fun i => ZaW _ _) m idx h1
    rw [<- hsl, List.drop_take, List.drop_drop, List.take_take, Nat.min_eq_left (by omega), Nat.add_comm off]
theorem Zfe {ρ : Rho} : ∀ (a b : List Chunk), Zae ρ (a ++ b) = Zae ρ a ++ Zae ρ b
  | [], b => by simp [Zae]
  | c :: r, b => by simp [Zae, Zfe r b]
theorem Zgl {ρ : Rho} {n : Nat} : ∀ {a b : List Chunk}, Zbx ρ n a -> Zbx ρ n b -> Zbx ρ n (a ++ b)
  | [], _, _, hb => hb
  | c :: r, b, ha, hb => by simp only [Zbx, List.cons_append] at *; exact ⟨ha.1, Zgl ha.2 hb⟩
theorem Zfu : ∀ (a b : List Chunk), Zar (a ++ b) = Zar a + Zar b
  | [], b => by simp [Zar]
  | c :: r, b => by simp [Zar, Zfu r b]; omega
theorem Zdd {α : Type} (A B C : List α) (j : Nat) : (A ++ B ++ C)[j]? = if j < A.length then A[j]? else if j < A.length + B.length then B[j - A.length]? else C[j - A.length - B.length]? := by
  rw [List.getElem?_append, List.length_append]
  by_cases h1 : j < A.length
  · rw [if_pos (by omega), if_pos h1, List.getElem?_append_left h1]
  · by_cases h2 : j < A.length + B.length
    · rw [if_pos h2, if_neg h1, if_pos h2, List.getElem?_append_right (by omega)]
    · rw [if_neg h2, if_neg h1, if_neg h2, Nat.sub_sub]
theorem Zfz (k : IntKind) (n : Nat) (xs ys : List Int) (i sz : Nat) (h : i + sz <= n) (hx : xs.length = n) (hy : ys.length = sz) :
    ZaF k n (xs.take i ++ ys ++ xs.drop (i + sz)) = (ZaF k n xs).take i ++ ZaF k sz ys ++ (ZaF k n xs).drop (i + sz) := by
  apply List.ext_getElem?
  intro j
  have l1 : (xs.take i).length = i := by simp; omega
  have l2 : ((ZaF k n xs).take i).length = i := by simp [Zab]; omega
  rw [Zdd, l2, Zab]
  rcases Nat.lt_or_ge j n with hj | hj
  · rw [Za1 _ _ _ _ hj, List.getD_eq_getElem?_getD, Zdd, l1, hy]
    by_cases h1 : j < i
    · rw [if_pos h1, if_pos h1, List.getElem?_take_of_lt h1, List.getElem?_take_of_lt h1, Za1 _ _ _ _ hj, List.getD_eq_getElem?_getD]
    · rw [if_neg h1, if_neg h1]
      by_cases h2 : j < i + sz
      · rw [if_pos h2, if_pos h2, Za1 _ _ _ _ (by omega), List.getD_eq_getElem?_getD]
      · rw [if_neg h2, if_neg h2, List.getElem?_drop, List.getElem?_drop, show i + sz + (j - i - sz) = j by omega, Za1 _ _ _ _ hj, List.getD_eq_getElem?_getD]
  · rw [List.getElem?_eq_none (by rw [Zab]; exact hj), if_neg (by omega), if_neg (by omega), List.getElem?_eq_none (by simp [Zab]; omega)]
theorem Zhw {ρ : Rho} : ∀ (l : Leaf) (c : Chunk) (K : l.T -> Prop), ZiU l c K -> ∃ x, K x /\ c.conc ρ = l.conc x
  | .int k, c, K, h => by
    simp only [ZiU] at h
    split at h
    · obtain ⟨h0, h⟩ := ZaH h
      obtain rfl := Zfy h0
      exact ⟨_, h, by simp [Chunk.conc, SVal.conc, Leaf.conc]⟩
    · exact h.elim
  | .bool, c, K, h => by
    simp only [ZiU] at h
    split at h
    · exact ⟨_, h, by simp [Chunk.conc, SVal.conc, Leaf.conc]⟩
    · exact h.elim
  | .ints k n, c, K, h => by
    simp only [ZiU] at h
    split at h
    · obtain ⟨h0, h⟩ := ZaH h
      rw [Bool.and_eq_true] at h0
      obtain rfl := Zfy h0.1
      obtain rfl := ZaY h0.2
      exact ⟨_, h, by simp [Chunk.conc, Leaf.conc]⟩
    · exact h.elim
theorem Zgj {ρ : Rho} : ∀ (sh : List Leaf) (cs : List Chunk) (K : Tup sh -> Prop), ZoP sh cs K -> ∃ x, K x /\ Zae ρ cs = Zbc sh x
  | [], _, _, h => h.elim
  | [l], cs, K, h => by
    simp only [ZoP] at h
    split at h
    · obtain ⟨x, h1, h2⟩ := Zhw (ρ := ρ) _ _ _ h
      exact ⟨x, h1, by simp [Zae, h2, Zbc]⟩
    · exact h.elim
  | l :: m :: r, cs, K, h => by
    simp only [ZoP] at h
    split at h
    · obtain ⟨x, h1, h2⟩ := Zhw (ρ := ρ) _ _ _ h
      obtain ⟨y, h3, h4⟩ := Zgj (ρ := ρ) (m :: r) _ _ h1
      exact ⟨(x, y), h3, by simp only [Zae, h2, h4, Zbc]⟩
    · exact h.elim
theorem ZeS (sh : List Leaf) : ∀ (xs : List (Tup sh)), ZaV sh xs.length xs = xs.flatMap (Zbc sh)
  | [] => rfl
  | x :: r => by
    have ih := ZeS sh r
    unfold ZaV at ih ⊢
    rw [List.length_cons, List.range_succ_eq_map, List.flatMap_cons, List.flatMap_cons, List.flatMap_map]
    simp only [List.getD_cons_zero, List.getD_cons_succ]
    rw [ih]
theorem ZcU {sh : List Leaf} {n : Nat} {xs : List (Tup sh)} (h : xs.length = n) : ZaV sh n xs = xs.flatMap (Zbc sh) := by
  subst h; exact ZeS sh xs
theorem Zk4 {sh : List Leaf} {n : Nat} {xs : List (Tup sh)} {i : Nat} {t : Tup sh} (h : i < n) (hx : xs.length = n) :
    ZaV sh n (xs.set i t) = (ZaV sh n xs).take (i * ZaG sh) ++ Zbc sh t ++ (ZaV sh n xs).drop (i * ZaG sh + ZaG sh) := by
  have hl : ∀ ys : List (Tup sh), (ys.flatMap (Zbc sh)).length = ys.length * ZaG sh := fun ys => by
    rw [<- ZeS, ZaR]
  have hi : i < xs.length := by omega
  have e1 : xs = xs.take i ++ xs[i] :: xs.drop (i + 1) := by rw [<- List.drop_eq_getElem_cons hi, List.take_append_drop]
  have e2 : xs.set i t = xs.take i ++ t :: xs.drop (i + 1) := List.set_eq_take_append_cons_drop.trans (by rw [if_pos hi])
  have l1 : ((xs.take i).flatMap (Zbc sh)).length = i * ZaG sh := by rw [hl, List.length_take]; congr 1; omega
  rw [ZcU (by rw [List.length_set, hx]), ZcU hx, e2]
  conv => rhs; rw [e1]
  simp only [List.flatMap_append, List.flatMap_cons]
  rw [List.take_left' l1, List.drop_append, List.drop_of_length_le (l := (xs.take i).flatMap (Zbc sh)) (by omega), l1, List.nil_append, show i * ZaG sh + ZaG sh - i * ZaG sh = ZaG sh by omega, List.drop_left' (ZaW _ _), List.append_assoc]
theorem Zfn {idx st sz : Nat} {new : List Chunk} {ρ : Rho} {n : Nat} (hnew : Zbx ρ n new) (hsz : Zar new = sz) : ∀ (cs : List Chunk) (K : List Chunk -> Prop) (off : Nat), wrA idx st sz new K cs off -> Zbx ρ n cs ->
    ∃ cs', K cs' /\ Zbx ρ n cs' /\ Zar cs' = Zar cs /\ off + idx * st + sz <= Zar cs /\
      Zae ρ cs' = (Zae ρ cs).take (off + idx * st) ++ Zae ρ new ++ (Zae ρ cs).drop (off + idx * st + sz)
  | [], _, _, h, _ => h.elim
  | .one v :: r, K, off, h, hok => by
    have hok0 := hok
    simp only [Zbx, Chunk.ok] at hok
    simp only [wrA] at h
    cases hb : Nat.beq off 0 with
    | true =>
      rw [hb] at h
      obtain ⟨h0, h⟩ := ZaH h
      obtain rfl := ZaY h0
      have := beq_zero.1 hb
      subst this
      obtain ⟨l, h1, h2, h3, h4⟩ := Ze4 _ _ _ h hok0
      refine ⟨_, h1, Zgl hnew h2, by rw [Zfu]; omega, by simp; omega, ?_⟩
      rw [Zfe, h4]; simp
    | false =>
      rw [hb] at h
      obtain ⟨cs', h1, h2, h3, h4, h5⟩ := Zfn hnew hsz r _ _ h hok.2
      have := Zcf hb
      refine ⟨_, h1, by simp only [Zbx, Chunk.ok]; exact ⟨hok.1, h2⟩, by simp [Zar, h3], by simp [Zar, Chunk.len]; omega, ?_⟩
      simp only [Zae, Chunk.conc, h5]
      rw [show off + idx * st = (off - 1 + idx * st) + 1 by omega, show off - 1 + idx * st + 1 + sz = (off - 1 + idx * st + sz) + 1 by omega]
      simp
  | .ints k m xs :: r, K, off, h, hok => by
    have hok0 := hok
    simp only [Zbx] at hok
    simp only [wrA] at h
    cases hb : Nat.beq off 0 with
    | true =>
      rw [hb] at h
      have := beq_zero.1 hb
      subst this
      simp only [cond_true] at h
      cases hc : Nat.ble m sz with
      | true =>
        rw [hc] at h
        obtain ⟨h0, h⟩ := ZaH h
        obtain rfl := ZaY h0
        obtain ⟨l, h1, h2, h3, h4⟩ := Ze4 _ _ _ h hok0
        refine ⟨_, h1, Zgl hnew h2, by rw [Zfu]; omega, by simp; omega, ?_⟩
        rw [Zfe, h4]; simp
      | false =>
        rw [hc] at h
        simp only [cond_false] at h
        split at h
        · rename_i k' m' ys
          obtain ⟨h0, h1, h2, h3, hK⟩ := ZaH h
          rw [Bool.and_eq_true, Bool.and_eq_true] at h0
          obtain rfl := Zfy h0.1.1
          obtain rfl := ZaY h0.1.2
          obtain rfl := ZaY h0.2
          refine ⟨_, hK, by simp only [Zbx, Chunk.ok]; exact ⟨trivial, hok.2⟩, by simp [Zar, Chunk.len], by simp [Zar, Chunk.len]; omega, ?_⟩
          simp only [Zae, Chunk.conc, List.append_nil, Nat.zero_add, Nat.mul_one]
          rw [Zfz _ _ _ _ _ _ h1 h2 h3, List.take_append_of_le_length (by rw [Zab]; omega), List.drop_append_of_le_length (by rw [Zab]; omega)]
          simp
        · exact h.elim
    | false =>
      rw [hb] at h
      obtain ⟨hle, h⟩ := ZaH h
      have hle := Nat.le_of_ble_eq_true hle
      obtain ⟨cs', h1, h2, h3, h4, h5⟩ := Zfn hnew hsz r _ _ h hok.2
      refine ⟨_, h1, by simp only [Zbx, Chunk.ok]; exact ⟨trivial, h2⟩, by simp [Zar, h3], by simp [Zar, Chunk.len]; omega, ?_⟩
      simp only [Zae, Chunk.conc, h5]
      rw [List.take_append, List.drop_append, Zab, List.take_of_length_le (l := ZaF k m xs) (by rw [Zab]; omega), List.drop_of_length_le (l := ZaF k m xs) (by rw [Zab]; omega),
        show off + idx * st - m = off - m + idx * st by omega, show off + idx * st + sz - m = off - m + idx * st + sz by omega]
      simp
  | .rows sh m xs :: r, K, off, h, hok => by
    simp only [Zbx] at hok
    simp only [wrA] at h
    obtain ⟨h0, h1, h2, h3⟩ := ZaH h
    clear h
    rw [Bool.and_eq_true, Bool.and_eq_true] at h0
    have := beq_zero.1 h0.1.1
    subst this
    obtain rfl := ZaY h0.1.2
    obtain rfl := ZaY h0.2
    obtain ⟨t, hK, ht⟩ := Zgj (ρ := ρ) _ _ _ h3
    have hle : idx * ZaG sh + ZaG sh <= m * ZaG sh := by rw [<- Nat.succ_mul]; exact Nat.mul_le_mul_right _ h1
    refine ⟨_, hK, by simp only [Zbx, Chunk.ok]; exact ⟨trivial, hok.2⟩, by simp [Zar, Chunk.len], by simp only [Zar, Chunk.len]; omega, ?_⟩
    simp only [Zae, Chunk.conc, Nat.zero_add, ht]
    rw [Zk4 h1 h2, List.take_append_of_le_length (by rw [ZaR]; omega), List.drop_append_of_le_length (by rw [ZaR]; exact hle)]
    simp only [List.append_assoc]
end Go.Sx
