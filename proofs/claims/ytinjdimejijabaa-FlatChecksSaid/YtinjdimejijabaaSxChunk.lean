/- Part of the proof: SxChunk. -/
import Derived.Test.YtinjdimejijabaaSxEv
set_option linter.unusedVariables false
set_option linter.unusedSimpArgs false
namespace Go.Sx
theorem ZgW {a b : IntKind} (h : kEq a b = true) : a = b := by cases a <;> cases b <;> first | rfl | cases h
theorem ZaK {c : Bool} {A : Prop} (h : bif c then A else False) : c = true /\ A := by
  cases c with
  | false => exact h.elim
  | true => exact ⟨rfl, h⟩
theorem Zbb {m n : Nat} (h : Nat.beq m n = true) : m = n := Nat.eq_of_beq_eq_true h
theorem beq_zero {n : Nat} : Nat.beq n 0 = true ↔ n = 0 := ⟨fun h => Nat.eq_of_beq_eq_true h, fun h => by subst h; rfl⟩
theorem ZcN {n : Nat} (h : Nat.beq n 0 = false) : n ≠ 0 := fun h' => by subst h'; cases h
theorem Zp2 {m n : Nat} (h : Nat.ble m n = false) : n < m := by
  rcases Nat.lt_or_ge n m with h' | h'
  · exact h'
  · rw [Nat.ble_eq_true_of_le h'] at h; cases h
theorem ZkU {K : SVal -> Prop} {off : Nat} {ρ : Rho} {n : Nat} : ∀ (l : Leaf) (x : l.T), ZGI K off l x -> ∃ v, K v /\ v.ok ρ n /\ (l.conc x)[off]? = some (v.conc ρ)
  | .int k, x, h => by obtain ⟨h0, hK⟩ := ZaK h; obtain rfl := Zbb h0; exact ⟨_, hK, by simp [SVal.ok], by simp [Leaf.conc, SVal.conc]⟩
  | .bool, x, h => by obtain ⟨h0, hK⟩ := ZaK h; obtain rfl := Zbb h0; exact ⟨_, hK, by simp [SVal.ok], by simp [Leaf.conc, SVal.conc]⟩
  | .ints k m, x, h => by
    obtain ⟨h1, hK⟩ := h
    exact ⟨_, hK, by simp [SVal.ok], by simp only [Leaf.conc, SVal.conc]; exact Zbf _ _ _ _ h1⟩
theorem ZjI {K : SVal -> Prop} {ρ : Rho} {n : Nat} : ∀ (sh : List Leaf) (x : Tup sh) (off : Nat), Zpk K sh x off -> ∃ v, K v /\ v.ok ρ n /\ (Zbv sh x)[off]? = some (v.conc ρ)
  | [], _, _, h => h.elim
  | [l], x, off, h => ZkU l x h
  | l :: m :: r, x, off, h => by
    simp only [Zpk] at h
    cases hb : Nat.ble l.len off with
    | true =>
      rw [hb] at h
      obtain ⟨v, h1, h2, h3⟩ := ZjI (m :: r) x.2 _ h
      have := Nat.le_of_ble_eq_true hb
      refine ⟨v, h1, h2, ?_⟩
      simp only [Zbv]
      rw [List.getElem?_append_right (by rw [Zdl]; exact this), Zdl]
      exact h3
    | false =>
      rw [hb] at h
      obtain ⟨v, h1, h2, h3⟩ := ZkU l x.1 h
      refine ⟨v, h1, h2, ?_⟩
      simp only [Zbv]
      rw [List.getElem?_append_left (by rw [Zdl]; exact Zp2 hb)]
      exact h3
theorem ZmS {α : Type} (f : Nat -> List α) (s : Nat) (hs : ∀ i, (f i).length = s) : ∀ (n i j : Nat), i < n -> j < s -> ((List.range n).flatMap f)[i * s + j]? = (f i)[j]?
  | 0, _, _, h, _ => by omega
  | n + 1, i, j, h, hj => by
    rw [List.range_succ, List.flatMap_append]
    rcases Nat.lt_or_ge i n with h' | h'
    · rw [List.getElem?_append_left]
      · exact ZmS f s hs n i j h' hj
      · rw [ZbY f s hs]
        calc i * s + j < i * s + s := by omega
          _ = (i + 1) * s := by rw [Nat.succ_mul]
          _ <= n * s := Nat.mul_le_mul_right _ h'
    · have : i = n := by omega
      subst this
      rw [List.getElem?_append_right (by rw [ZbY f s hs]; omega), ZbY f s hs]
      simp
theorem Zit {idx st : Nat} {K : SVal -> Prop} {ρ : Rho} {n : Nat} : ∀ (cs : List Chunk) (off : Nat), rdC idx st K cs off -> ZbQ ρ n cs ->
    ∃ v, K v /\ v.ok ρ n /\ (Zam ρ cs)[off + idx * st]? = some (v.conc ρ)
  | [], _, h, _ => h.elim
  | .one v :: r, off, h, hok => by
    simp only [ZbQ, Chunk.ok] at hok
    simp only [rdC] at h
    cases hb : Nat.beq off 0 with
    | true =>
      rw [hb] at h
      obtain ⟨h0, hK⟩ := ZaK h
      obtain rfl := Zbb h0
      have := beq_zero.1 hb
      subst this
      exact ⟨v, hK, hok.1, by simp [Zam, Chunk.conc]⟩
    | false =>
      rw [hb] at h
      obtain ⟨u, h1, h2, h3⟩ := Zit r _ h hok.2
      have := ZcN hb
      refine ⟨u, h1, h2, ?_⟩
      simp only [Zam, Chunk.conc]
      rw [List.getElem?_append_right (by simp; omega)]
      rw [show off + idx * st - [v.conc ρ].length = off - 1 + idx * st by simp; omega]
      exact h3
  | .ints k m xs :: r, off, h, hok => by
    simp only [ZbQ] at hok
    simp only [rdC] at h
    cases hb : Nat.beq off 0 with
    | true =>
      rw [hb] at h
      obtain ⟨h0, h1, hK⟩ := ZaK h
      obtain rfl := Zbb h0
      have := beq_zero.1 hb
      subst this
      refine ⟨_, hK, by simp [SVal.ok], ?_⟩
      simp only [Zam, Chunk.conc, SVal.conc, Nat.zero_add, Nat.mul_one]
      rw [List.getElem?_append_left (by rw [Zaf]; exact h1)]
      exact Zbf _ _ _ _ h1
    | false =>
      rw [hb] at h
      obtain ⟨hle, h⟩ := ZaK h
      have hle := Nat.le_of_ble_eq_true hle
      obtain ⟨u, h1, h2, h3⟩ := Zit r _ h hok.2
      refine ⟨u, h1, h2, ?_⟩
      simp only [Zam, Chunk.conc]
      rw [List.getElem?_append_right (by rw [Zaf]; omega), Zaf]
      rw [show off + idx * st - m = off - m + idx * st by omega]
      exact h3
  | .rows sh m xs :: r, off, h, hok => by
    simp only [rdC] at h
    obtain ⟨h0, h1, h2⟩ := ZaK h
    obtain rfl := Zbb h0
    obtain ⟨v, h3, h4, h5⟩ := ZjI (ρ := ρ) (n := n) sh _ off h2
    refine ⟨v, h3, h4, ?_⟩
    have hoff : off < ZaI sh := by
      have := (List.getElem?_eq_some_iff.1 h5).1
      rwa [Za5] at this
    have key := ZmS (fun i => Zbv sh (xs.getD i (Tup.dflt sh))) (ZaI sh) (fun i => Za5 _ _) m idx off h1 hoff
    simp only [Zam, Chunk.conc]
    rw [List.getElem?_append_left]
    · rw [Nat.add_comm off]
      unfold Za1
      rw [key]; exact h5
    · rw [ZaY]
      calc off + idx * ZaI sh < ZaI sh + idx * ZaI sh := by omega
        _ = (idx + 1) * ZaI sh := by rw [Nat.succ_mul]; omega
        _ <= m * ZaI sh := Nat.mul_le_mul_right _ h1
theorem Zpx (k : IntKind) (n : Nat) (xs : List Int) (i : Nat) (m : Int) (h : i < n) (h' : i < xs.length) :
    ZaJ k n (xs.set i m) = (ZaJ k n xs).set i (.int k m) := by
  apply List.ext_getElem?
  intro j
  rw [List.getElem?_set]
  by_cases hij : i = j
  · subst hij
    rw [if_pos rfl, if_pos (by rw [Zaf]; exact h), Zbf _ _ _ _ h]
    simp [h']
  · rw [if_neg hij]
    rcases Nat.lt_or_ge j n with hj | hj
    · rw [Zbf _ _ _ _ hj, Zbf _ _ _ _ hj]
      simp [hij]
    · rw [List.getElem?_eq_none (by rw [Zaf]; exact hj), List.getElem?_eq_none (by rw [Zaf]; exact hj)]
theorem Zky {idx st : Nat} {v : SVal} {ρ : Rho} {n : Nat} (hv : v.ok ρ n) : ∀ (cs : List Chunk) (K : List Chunk -> Prop) (off : Nat), wrC idx st v K cs off -> ZbQ ρ n cs ->
    ∃ cs', K cs' /\ ZbQ ρ n cs' /\ Zaw cs' = Zaw cs /\ off + idx * st < Zaw cs /\ Zam ρ cs' = (Zam ρ cs).set (off + idx * st) (v.conc ρ)
  | [], _, _, h, _ => h.elim
  | .one u :: r, K, off, h, hok => by
    simp only [ZbQ, Chunk.ok] at hok
    simp only [wrC] at h
    cases hb : Nat.beq off 0 with
    | true =>
      rw [hb] at h
      obtain ⟨h0, hK⟩ := ZaK h
      obtain rfl := Zbb h0
      have := beq_zero.1 hb
      subst this
      exact ⟨_, hK, by simp only [ZbQ, Chunk.ok]; exact ⟨hv, hok.2⟩, by simp [Zaw, Chunk.len], by simp [Zaw, Chunk.len]; omega, by simp [Zam, Chunk.conc]⟩
    | false =>
      rw [hb] at h
      obtain ⟨cs', h1, h2, h3, h4, h5⟩ := Zky hv r _ _ h hok.2
      have := ZcN hb
      refine ⟨_, h1, by simp only [ZbQ, Chunk.ok]; exact ⟨hok.1, h2⟩, by simp [Zaw, h3], by simp [Zaw, Chunk.len]; omega, ?_⟩
      simp only [Zam, Chunk.conc, h5]
      rw [List.set_append_right _ _ (by simp; omega)]
      congr 2
      simp; omega
  | .ints k m xs :: r, K, off, h, hok => by
    simp only [ZbQ] at hok
    simp only [wrC] at h
    cases hb : Nat.beq off 0 with
    | true =>
      rw [hb] at h
      simp only [cond_true] at h
      split at h
      · rename_i k' m'
        obtain ⟨h0, h1, h2, hK⟩ := ZaK h
        rw [Bool.and_eq_true] at h0
        obtain rfl := ZgW h0.1
        obtain rfl := Zbb h0.2
        have := beq_zero.1 hb
        subst this
        refine ⟨_, hK, by simp only [ZbQ, Chunk.ok]; exact ⟨trivial, hok.2⟩, by simp [Zaw, Chunk.len], by simp [Zaw, Chunk.len]; omega, ?_⟩
        simp only [Zam, Chunk.conc, SVal.conc, Nat.zero_add, Nat.mul_one]
        rw [List.set_append_left _ _ (by rw [Zaf]; exact h1), Zpx _ _ _ _ _ h1 h2]
      · exact h.elim
    | false =>
      rw [hb] at h
      obtain ⟨hle, h⟩ := ZaK h
      have hle := Nat.le_of_ble_eq_true hle
      obtain ⟨cs', h1, h2, h3, h4, h5⟩ := Zky hv r _ _ h hok.2
      refine ⟨_, h1, by simp only [ZbQ, Chunk.ok]; exact ⟨trivial, h2⟩, by simp [Zaw, h3], by simp [Zaw, Chunk.len]; omega, ?_⟩
      simp only [Zam, Chunk.conc, h5]
      rw [List.set_append_right _ _ (by rw [Zaf]; omega), Zaf]
      congr 2
      omega
  | .rows sh m xs :: r, K, off, h, _ => by simp only [wrC] at h
theorem Zf9 {ρ : Rho} {n : Nat} : ∀ (cs : List Chunk) (K : List Chunk -> Prop) (sz : Nat), Zee K cs sz -> ZbQ ρ n cs ->
    ∃ l, K l /\ ZbQ ρ n l /\ Zaw l = sz /\ sz <= Zaw cs /\ Zam ρ l = (Zam ρ cs).take sz
  | [], K, sz, h, _ => by
    obtain ⟨h0, hK⟩ := ZaK h
    obtain rfl := Zbb h0
    exact ⟨_, hK, by simp [ZbQ], by simp [Zaw], by simp [Zaw], by simp [Zam]⟩
  | c :: r, K, sz, h, hok => by
    simp only [ZbQ] at hok
    simp only [Zee] at h
    cases hb : Nat.beq sz 0 with
    | true =>
      rw [hb] at h
      have := beq_zero.1 hb
      subst this
      exact ⟨_, h, by simp [ZbQ], by simp [Zaw], by simp, by simp [Zam]⟩
    | false =>
      rw [hb] at h
      obtain ⟨hle, h⟩ := ZaK h
      have hle := Nat.le_of_ble_eq_true hle
      obtain ⟨l, h1, h2, h3, h4, h5⟩ := Zf9 r _ _ h hok.2
      refine ⟨_, h1, by simp only [ZbQ]; exact ⟨hok.1, h2⟩, by simp [Zaw, h3]; omega, by simp [Zaw]; omega, ?_⟩
      simp only [Zam, h5]
      rw [List.take_append, ZbO, List.take_of_length_le (l := c.conc ρ) (by rw [ZbO]; exact hle)]
theorem Zgn {ρ : Rho} {n : Nat} : ∀ (cs : List Chunk) (K : List Chunk -> Prop) (sz : Nat), ZeN K cs sz -> ZbQ ρ n cs ->
    ∃ l, K l /\ ZbQ ρ n l /\ Zaw l + sz = Zaw cs /\ Zam ρ l = (Zam ρ cs).drop sz
  | [], K, sz, h, _ => by
    obtain ⟨h0, hK⟩ := ZaK h
    obtain rfl := Zbb h0
    exact ⟨_, hK, by simp [ZbQ], by simp [Zaw], by simp [Zam]⟩
  | c :: r, K, sz, h, hok => by
    have hok0 := hok
    simp only [ZbQ] at hok
    simp only [ZeN] at h
    cases hb : Nat.beq sz 0 with
    | true =>
      rw [hb] at h
      have := beq_zero.1 hb
      subst this
      exact ⟨_, h, hok0, by simp, by simp⟩
    | false =>
      rw [hb] at h
      obtain ⟨hle, h⟩ := ZaK h
      have hle := Nat.le_of_ble_eq_true hle
      obtain ⟨l, h1, h2, h3, h4⟩ := Zgn r _ _ h hok.2
      refine ⟨_, h1, h2, by simp [Zaw]; omega, ?_⟩
      simp only [Zam, h4]
      rw [List.drop_append, ZbO, List.drop_of_length_le (l := c.conc ρ) (by rw [ZbO]; exact hle), List.nil_append]
theorem Zfp (k : IntKind) (n : Nat) (xs : List Int) (i sz : Nat) (h : i + sz <= n) :
    ZaJ k sz ((xs.drop i).take sz) = ((ZaJ k n xs).drop i).take sz := by
  apply List.ext_getElem?
  intro j
  rcases Nat.lt_or_ge j sz with hj | hj
  · rw [Zbf _ _ _ _ hj, List.getElem?_take_of_lt hj, List.getElem?_drop, Zbf _ _ _ _ (by omega)]
    simp [List.getElem?_take_of_lt hj, List.getElem?_drop]
  · rw [List.getElem?_eq_none (by rw [Zaf]; exact hj), List.getElem?_eq_none (by simp; omega)]
theorem ZhD {ρ : Rho} : ∀ (l : Leaf) (x : l.T), (ZdF l x).conc ρ = l.conc x
  | .int _, _ => by simp [ZdF, Chunk.conc, Leaf.conc, SVal.conc]
  | .bool, _ => by simp [ZdF, Chunk.conc, Leaf.conc, SVal.conc]
  | .ints _ _, _ => by simp [ZdF, Chunk.conc, Leaf.conc]
theorem ZjP {ρ : Rho} {n : Nat} : ∀ (l : Leaf) (x : l.T), (ZdF l x).ok ρ n
  | .int _, _ => by simp [ZdF, Chunk.ok, SVal.ok]
  | .bool, _ => by simp [ZdF, Chunk.ok, SVal.ok]
  | .ints _ _, _ => by simp [ZdF, Chunk.ok]
theorem ZdD {ρ : Rho} : ∀ (sh : List Leaf) (x : Tup sh), Zam ρ (ZcE sh x) = Zbv sh x
  | [], _ => by simp [ZcE, Zam, Zbv]
  | [l], x => by simp [ZcE, Zam, Zbv, ZhD]
  | l :: m :: r, x => by
    have := ZdD (ρ := ρ) (m :: r) x.2
    simp only [ZcE, Zam, Zbv, ZhD, this]
theorem ZjF {ρ : Rho} {n : Nat} : ∀ (sh : List Leaf) (x : Tup sh), ZbQ ρ n (ZcE sh x)
  | [], _ => by simp [ZcE, ZbQ]
  | [l], x => by simp [ZcE, ZbQ, ZjP]
  | l :: m :: r, x => by
    have := ZjF (ρ := ρ) (n := n) (m :: r) x.2
    simp only [ZcE, ZbQ, ZjP, true_and]; exact this
theorem Zux {α : Type} (f : Nat -> List α) (s : Nat) (hs : ∀ i, (f i).length = s) (n i : Nat) (h : i < n) : (((List.range n).flatMap f).drop (i * s)).take s = f i := by
  apply List.ext_getElem?
  intro j
  rcases Nat.lt_or_ge j s with hj | hj
  · rw [List.getElem?_take_of_lt hj, List.getElem?_drop]
    exact ZmS f s hs n i j h hj
  · rw [List.getElem?_eq_none (by simp; omega), List.getElem?_eq_none (by rw [hs]; exact hj)]
theorem Ziu {idx st sz : Nat} {K : List Chunk -> Prop} {ρ : Rho} {n : Nat} : ∀ (cs : List Chunk) (off : Nat), rdA idx st sz K cs off -> ZbQ ρ n cs ->
    ∃ l, K l /\ ZbQ ρ n l /\ Zaw l = sz /\ off + idx * st + sz <= Zaw cs /\ Zam ρ l = ((Zam ρ cs).drop (off + idx * st)).take sz
  | [], _, h, _ => h.elim
  | .one v :: r, off, h, hok => by
    have hok0 := hok
    simp only [ZbQ, Chunk.ok] at hok
    simp only [rdA] at h
    cases hb : Nat.beq off 0 with
    | true =>
      rw [hb] at h
      obtain ⟨h0, h⟩ := ZaK h
      obtain rfl := Zbb h0
      have := beq_zero.1 hb
      subst this
      obtain ⟨l, h1, h2, h3, h4, h5⟩ := Zf9 _ _ _ h hok0
      exact ⟨l, h1, h2, h3, by simpa using h4, by simpa using h5⟩
    | false =>
      rw [hb] at h
      obtain ⟨l, h1, h2, h3, h4, h5⟩ := Ziu r _ h hok.2
      have := ZcN hb
      refine ⟨l, h1, h2, h3, by simp [Zaw, Chunk.len]; omega, ?_⟩
      simp only [Zam, Chunk.conc]
      rw [List.drop_append, List.drop_of_length_le (by simp; omega), List.nil_append, h5]
      congr 2
      simp; omega
  | .ints k m xs :: r, off, h, hok => by
    have hok0 := hok
    simp only [ZbQ] at hok
    simp only [rdA] at h
    cases hb : Nat.beq off 0 with
    | true =>
      rw [hb] at h
      have := beq_zero.1 hb
      subst this
      simp only [cond_true] at h
      cases hc : Nat.ble m sz with
      | true =>
        rw [hc] at h
        obtain ⟨h0, h⟩ := ZaK h
        obtain rfl := Zbb h0
        obtain ⟨l, h1, h2, h3, h4, h5⟩ := Zf9 _ _ _ h hok0
        exact ⟨l, h1, h2, h3, by simpa using h4, by simpa using h5⟩
      | false =>
        rw [hc] at h
        obtain ⟨h0, h1, hK⟩ := ZaK h
        obtain rfl := Zbb h0
        refine ⟨_, hK, by simp [ZbQ, Chunk.ok], by simp [Zaw, Chunk.len], by simp [Zaw, Chunk.len]; omega, ?_⟩
        simp only [Zam, Chunk.conc, List.append_nil, Nat.zero_add, Nat.mul_one]
        rw [Zfp _ _ _ _ _ h1, List.drop_append_of_le_length (by rw [Zaf]; omega),
          List.take_append_of_le_length (by rw [List.length_drop, Zaf]; omega)]
    | false =>
      rw [hb] at h
      obtain ⟨hle, h⟩ := ZaK h
      have hle := Nat.le_of_ble_eq_true hle
      obtain ⟨l, h1, h2, h3, h4, h5⟩ := Ziu r _ h hok.2
      refine ⟨l, h1, h2, h3, by simp [Zaw, Chunk.len]; omega, ?_⟩
      simp only [Zam, Chunk.conc]
      rw [List.drop_append, List.drop_of_length_le (by rw [Zaf]; omega), List.nil_append, Zaf, h5]
      congr 2
      omega
  | .rows sh m xs :: r, off, h, hok => by
    simp only [rdA] at h
    obtain ⟨h0, h1, hK⟩ := ZaK h
    obtain rfl := Zbb h0
    obtain ⟨l1, g1, g2, g3, g4⟩ := Zgn (ρ := ρ) (n := n) _ _ _ hK (ZjF _ _)
    obtain ⟨l, g5, g6, g7, g8, g9⟩ := Zf9 (ρ := ρ) (n := n) _ _ _ g1 g2
    have hlen : (idx + 1) * ZaI sh <= m * ZaI sh := Nat.mul_le_mul_right _ h1
    rw [Nat.succ_mul] at hlen
    rw [<- ZaW ρ (ZcE sh _), ZdD, Za5] at g3
    refine ⟨l, g5, g6, g7, by simp [Zaw, Chunk.len]; omega, ?_⟩
    rw [g9, g4, ZdD]
    simp only [Zam, Chunk.conc]
    rw [List.drop_append_of_le_length (by rw [ZaY]; omega), List.take_append_of_le_length (by rw [List.length_drop, ZaY]; omega)]
    unfold Za1
    have hsl := Zux (fun i => Zbv sh (xs.getD i (Tup.dflt sh))) (ZaI sh) (fun i => Za5 _ _) m idx h1
    rw [<- hsl, List.drop_take, List.drop_drop, List.take_take, Nat.min_eq_left (by omega), Nat.add_comm off]
theorem ZgD {ρ : Rho} : ∀ (a b : List Chunk), Zam ρ (a ++ b) = Zam ρ a ++ Zam ρ b
  | [], b => by simp [Zam]
  | c :: r, b => by simp [Zam, ZgD r b]
theorem ZhL {ρ : Rho} {n : Nat} : ∀ {a b : List Chunk}, ZbQ ρ n a -> ZbQ ρ n b -> ZbQ ρ n (a ++ b)
  | [], _, _, hb => hb
  | c :: r, b, ha, hb => by simp only [ZbQ, List.cons_append] at *; exact ⟨ha.1, ZhL ha.2 hb⟩
theorem ZgS : ∀ (a b : List Chunk), Zaw (a ++ b) = Zaw a + Zaw b
  | [], b => by simp [Zaw]
  | c :: r, b => by simp [Zaw, ZgS r b]; omega
theorem Zek {α : Type} (A B C : List α) (j : Nat) : (A ++ B ++ C)[j]? = if j < A.length then A[j]? else if j < A.length + B.length then B[j - A.length]? else C[j - A.length - B.length]? := by
  rw [List.getElem?_append, List.length_append]
  by_cases h1 : j < A.length
  · rw [if_pos (by omega), if_pos h1, List.getElem?_append_left h1]
  · by_cases h2 : j < A.length + B.length
    · rw [if_pos h2, if_neg h1, if_pos h2, List.getElem?_append_right (by omega)]
    · rw [if_neg h2, if_neg h1, if_neg h2, Nat.sub_sub]
theorem ZgX (k : IntKind) (n : Nat) (xs ys : List Int) (i sz : Nat) (h : i + sz <= n) (hx : xs.length = n) (hy : ys.length = sz) :
    ZaJ k n (xs.take i ++ ys ++ xs.drop (i + sz)) = (ZaJ k n xs).take i ++ ZaJ k sz ys ++ (ZaJ k n xs).drop (i + sz) := by
  apply List.ext_getElem?
  intro j
  have l1 : (xs.take i).length = i := by simp; omega
  have l2 : ((ZaJ k n xs).take i).length = i := by simp [Zaf]; omega
  rw [Zek, l2, Zaf]
  rcases Nat.lt_or_ge j n with hj | hj
  · rw [Zbf _ _ _ _ hj, List.getD_eq_getElem?_getD, Zek, l1, hy]
    by_cases h1 : j < i
    · rw [if_pos h1, if_pos h1, List.getElem?_take_of_lt h1, List.getElem?_take_of_lt h1, Zbf _ _ _ _ hj, List.getD_eq_getElem?_getD]
    · rw [if_neg h1, if_neg h1]
      by_cases h2 : j < i + sz
      · rw [if_pos h2, if_pos h2, Zbf _ _ _ _ (by omega), List.getD_eq_getElem?_getD]
      · rw [if_neg h2, if_neg h2, List.getElem?_drop, List.getElem?_drop, show i + sz + (j - i - sz) = j by omega, Zbf _ _ _ _ hj, List.getD_eq_getElem?_getD]
  · rw [List.getElem?_eq_none (by rw [Zaf]; exact hj), if_neg (by omega), if_neg (by omega), List.getElem?_eq_none (by simp [Zaf]; omega)]
theorem ZjG {ρ : Rho} : ∀ (l : Leaf) (c : Chunk) (K : l.T -> Prop), ZlZ l c K -> ∃ x, K x /\ c.conc ρ = l.conc x
  | .int k, c, K, h => by
    simp only [ZlZ] at h
    split at h
    · obtain ⟨h0, h⟩ := ZaK h
      obtain rfl := ZgW h0
      exact ⟨_, h, by simp [Chunk.conc, SVal.conc, Leaf.conc]⟩
    · exact h.elim
  | .bool, c, K, h => by
    simp only [ZlZ] at h
    split at h
    · exact ⟨_, h, by simp [Chunk.conc, SVal.conc, Leaf.conc]⟩
    · exact h.elim
  | .ints k n, c, K, h => by
    simp only [ZlZ] at h
    split at h
    · obtain ⟨h0, h⟩ := ZaK h
      rw [Bool.and_eq_true] at h0
      obtain rfl := ZgW h0.1
      obtain rfl := Zbb h0.2
      exact ⟨_, h, by simp [Chunk.conc, Leaf.conc]⟩
    · exact h.elim
theorem ZhI {ρ : Rho} : ∀ (sh : List Leaf) (cs : List Chunk) (K : Tup sh -> Prop), Zuu sh cs K -> ∃ x, K x /\ Zam ρ cs = Zbv sh x
  | [], _, _, h => h.elim
  | [l], cs, K, h => by
    simp only [Zuu] at h
    split at h
    · obtain ⟨x, h1, h2⟩ := ZjG (ρ := ρ) _ _ _ h
      exact ⟨x, h1, by simp [Zam, h2, Zbv]⟩
    · exact h.elim
  | l :: m :: r, cs, K, h => by
    simp only [Zuu] at h
    split at h
    · obtain ⟨x, h1, h2⟩ := ZjG (ρ := ρ) _ _ _ h
      obtain ⟨y, h3, h4⟩ := ZhI (ρ := ρ) (m :: r) _ _ h1
      exact ⟨(x, y), h3, by simp only [Zam, h2, h4, Zbv]⟩
    · exact h.elim
theorem Zgb (sh : List Leaf) : ∀ (xs : List (Tup sh)), Za1 sh xs.length xs = xs.flatMap (Zbv sh)
  | [] => rfl
  | x :: r => by
    have ih := Zgb sh r
    unfold Za1 at ih ⊢
    rw [List.length_cons, List.range_succ_eq_map, List.flatMap_cons, List.flatMap_cons, List.flatMap_map]
    simp only [List.getD_cons_zero, List.getD_cons_succ]
    rw [ih]
theorem ZdK {sh : List Leaf} {n : Nat} {xs : List (Tup sh)} (h : xs.length = n) : Za1 sh n xs = xs.flatMap (Zbv sh) := by
  subst h; exact Zgb sh xs
theorem Zpi {sh : List Leaf} {n : Nat} {xs : List (Tup sh)} {i : Nat} {t : Tup sh} (h : i < n) (hx : xs.length = n) :
    Za1 sh n (xs.set i t) = (Za1 sh n xs).take (i * ZaI sh) ++ Zbv sh t ++ (Za1 sh n xs).drop (i * ZaI sh + ZaI sh) := by
  have hl : ∀ ys : List (Tup sh), (ys.flatMap (Zbv sh)).length = ys.length * ZaI sh := fun ys => by
    rw [<- Zgb, ZaY]
  have hi : i < xs.length := by omega
  have e1 : xs = xs.take i ++ xs[i] :: xs.drop (i + 1) := by rw [<- List.drop_eq_getElem_cons hi, List.take_append_drop]
  have e2 : xs.set i t = xs.take i ++ t :: xs.drop (i + 1) := List.set_eq_take_append_cons_drop.trans (by rw [if_pos hi])
  have l1 : ((xs.take i).flatMap (Zbv sh)).length = i * ZaI sh := by rw [hl, List.length_take]; congr 1; omega
  rw [ZdK (by rw [List.length_set, hx]), ZdK hx, e2]
  conv => rhs; rw [e1]
  simp only [List.flatMap_append, List.flatMap_cons]
  rw [List.take_left' l1, List.drop_append, List.drop_of_length_le (l := (xs.take i).flatMap (Zbv sh)) (by omega), l1, List.nil_append, show i * ZaI sh + ZaI sh - i * ZaI sh = ZaI sh by omega, List.drop_left' (Za5 _ _), List.append_assoc]
theorem ZgN {idx st sz : Nat} {new : List Chunk} {ρ : Rho} {n : Nat} (hnew : ZbQ ρ n new) (hsz : Zaw new = sz) : ∀ (cs : List Chunk) (K : List Chunk -> Prop) (off : Nat), wrA idx st sz new K cs off -> ZbQ ρ n cs ->
    ∃ cs', K cs' /\ ZbQ ρ n cs' /\ Zaw cs' = Zaw cs /\ off + idx * st + sz <= Zaw cs /\
      Zam ρ cs' = (Zam ρ cs).take (off + idx * st) ++ Zam ρ new ++ (Zam ρ cs).drop (off + idx * st + sz)
  | [], _, _, h, _ => h.elim
  | .one v :: r, K, off, h, hok => by
    have hok0 := hok
    simp only [ZbQ, Chunk.ok] at hok
    simp only [wrA] at h
    cases hb : Nat.beq off 0 with
    | true =>
      rw [hb] at h
      obtain ⟨h0, h⟩ := ZaK h
      obtain rfl := Zbb h0
      have := beq_zero.1 hb
      subst this
      obtain ⟨l, h1, h2, h3, h4⟩ := Zgn _ _ _ h hok0
      refine ⟨_, h1, ZhL hnew h2, by rw [ZgS]; omega, by simp; omega, ?_⟩
      rw [ZgD, h4]; simp
    | false =>
      rw [hb] at h
      obtain ⟨cs', h1, h2, h3, h4, h5⟩ := ZgN hnew hsz r _ _ h hok.2
      have := ZcN hb
      refine ⟨_, h1, by simp only [ZbQ, Chunk.ok]; exact ⟨hok.1, h2⟩, by simp [Zaw, h3], by simp [Zaw, Chunk.len]; omega, ?_⟩
      simp only [Zam, Chunk.conc, h5]
      rw [show off + idx * st = (off - 1 + idx * st) + 1 by omega, show off - 1 + idx * st + 1 + sz = (off - 1 + idx * st + sz) + 1 by omega]
      simp
  | .ints k m xs :: r, K, off, h, hok => by
    have hok0 := hok
    simp only [ZbQ] at hok
    simp only [wrA] at h
    cases hb : Nat.beq off 0 with
    | true =>
      rw [hb] at h
      have := beq_zero.1 hb
      subst this
      simp only [cond_true] at h
      cases hc : Nat.ble m sz with
      | true =>
        rw [hc] at h
        obtain ⟨h0, h⟩ := ZaK h
        obtain rfl := Zbb h0
        obtain ⟨l, h1, h2, h3, h4⟩ := Zgn _ _ _ h hok0
        refine ⟨_, h1, ZhL hnew h2, by rw [ZgS]; omega, by simp; omega, ?_⟩
        rw [ZgD, h4]; simp
      | false =>
        rw [hc] at h
        simp only [cond_false] at h
        split at h
        · rename_i k' m' ys
          obtain ⟨h0, h1, h2, h3, hK⟩ := ZaK h
          rw [Bool.and_eq_true, Bool.and_eq_true] at h0
          obtain rfl := ZgW h0.1.1
          obtain rfl := Zbb h0.1.2
          obtain rfl := Zbb h0.2
          refine ⟨_, hK, by simp only [ZbQ, Chunk.ok]; exact ⟨trivial, hok.2⟩, by simp [Zaw, Chunk.len], by simp [Zaw, Chunk.len]; omega, ?_⟩
          simp only [Zam, Chunk.conc, List.append_nil, Nat.zero_add, Nat.mul_one]
          rw [ZgX _ _ _ _ _ _ h1 h2 h3, List.take_append_of_le_length (by rw [Zaf]; omega), List.drop_append_of_le_length (by rw [Zaf]; omega)]
          simp
        · exact h.elim
    | false =>
      rw [hb] at h
      obtain ⟨hle, h⟩ := ZaK h
      have hle := Nat.le_of_ble_eq_true hle
      obtain ⟨cs', h1, h2, h3, h4, h5⟩ := ZgN hnew hsz r _ _ h hok.2
      refine ⟨_, h1, by simp only [ZbQ, Chunk.ok]; exact ⟨trivial, h2⟩, by simp [Zaw, h3], by simp [Zaw, Chunk.len]; omega, ?_⟩
      simp only [Zam, Chunk.conc, h5]
      rw [List.take_append, List.drop_append, Zaf, List.take_of_length_le (l := ZaJ k m xs) (by rw [Zaf]; omega), List.drop_of_length_le (l := ZaJ k m xs) (by rw [Zaf]; omega),
        show off + idx * st - m = off - m + idx * st by omega, show off + idx * st + sz - m = off - m + idx * st + sz by omega]
      simp
  | .rows sh m xs :: r, K, off, h, hok => by
    simp only [ZbQ] at hok
    simp only [wrA] at h
    obtain ⟨h0, h1, h2, h3⟩ := ZaK h
    clear h
    rw [Bool.and_eq_true, Bool.and_eq_true] at h0
    have := beq_zero.1 h0.1.1
    subst this
    obtain rfl := Zbb h0.1.2
    obtain rfl := Zbb h0.2
    obtain ⟨t, hK, ht⟩ := ZhI (ρ := ρ) _ _ _ h3
    have hle : idx * ZaI sh + ZaI sh <= m * ZaI sh := by rw [<- Nat.succ_mul]; exact Nat.mul_le_mul_right _ h1
    refine ⟨_, hK, by simp only [ZbQ, Chunk.ok]; exact ⟨trivial, hok.2⟩, by simp [Zaw, Chunk.len], by simp only [Zaw, Chunk.len]; omega, ?_⟩
    simp only [Zam, Chunk.conc, Nat.zero_add, ht]
    rw [Zpi h1 h2, List.take_append_of_le_length (by rw [ZaY]; omega), List.drop_append_of_le_length (by rw [ZaY]; exact hle)]
    simp only [List.append_assoc]
end Go.Sx
