/- Part of the proof: SxChunk. -/
import Derived.Test.YtinjdimejijabaaSxEv
set_option linter.unusedVariables false
set_option linter.unusedSimpArgs false
namespace Go.Sx
theorem Zgx {a b : IntKind} (h : kEq a b = true) : a = b := by cases a <;> cases b <;> first | rfl | cases h
theorem ZaJ {c : Bool} {A : Prop} (h : bif c then A else False) : c = true /\ A := by
  cases c with
  | false => exact h.elim
  | true => exact ⟨rfl, h⟩
theorem Za5 {m n : Nat} (h : Nat.beq m n = true) : m = n := Nat.eq_of_beq_eq_true h
theorem beq_zero {n : Nat} : Nat.beq n 0 = true ↔ n = 0 := ⟨fun h => Nat.eq_of_beq_eq_true h, fun h => by subst h; rfl⟩
theorem ZcD {n : Nat} (h : Nat.beq n 0 = false) : n ≠ 0 := fun h' => by subst h'; cases h
theorem ZoS {m n : Nat} (h : Nat.ble m n = false) : n < m := by
  rcases Nat.lt_or_ge n m with h' | h'
  · exact h'
  · rw [Nat.ble_eq_true_of_le h'] at h; cases h
theorem ZjZ {K : SVal -> Prop} {off : Nat} {ρ : Rho} {n : Nat} : ∀ (l : Leaf) (x : l.T), ZF3 K off l x -> ∃ v, K v /\ v.ok ρ n /\ (l.conc x)[off]? = some (v.conc ρ)
  | .int k, x, h => by obtain ⟨h0, hK⟩ := ZaJ h; obtain rfl := Za5 h0; exact ⟨_, hK, by simp [SVal.ok], by simp [Leaf.conc, SVal.conc]⟩
  | .bool, x, h => by obtain ⟨h0, hK⟩ := ZaJ h; obtain rfl := Za5 h0; exact ⟨_, hK, by simp [SVal.ok], by simp [Leaf.conc, SVal.conc]⟩
  | .ints k m, x, h => by
    obtain ⟨h1, hK⟩ := h
    exact ⟨_, hK, by simp [SVal.ok], by simp only [Leaf.conc, SVal.conc]; exact Za7 _ _ _ _ h1⟩
theorem Zi6 {K : SVal -> Prop} {ρ : Rho} {n : Nat} : ∀ (sh : List Leaf) (x : Tup sh) (off : Nat), Zob K sh x off -> ∃ v, K v /\ v.ok ρ n /\ (Zbq sh x)[off]? = some (v.conc ρ)
  | [], _, _, h => h.elim
  | [l], x, off, h => ZjZ l x h
  | l :: m :: r, x, off, h => by
    simp only [Zob] at h
    cases hb : Nat.ble l.len off with
    | true =>
      rw [hb] at h
      obtain ⟨v, h1, h2, h3⟩ := Zi6 (m :: r) x.2 _ h
      have := Nat.le_of_ble_eq_true hb
      refine ⟨v, h1, h2, ?_⟩
      simp only [Zbq]
      rw [List.getElem?_append_right (by rw [Zc6]; exact this), Zc6]
      exact h3
    | false =>
      rw [hb] at h
      obtain ⟨v, h1, h2, h3⟩ := ZjZ l x.1 h
      refine ⟨v, h1, h2, ?_⟩
      simp only [Zbq]
      rw [List.getElem?_append_left (by rw [Zc6]; exact ZoS hb)]
      exact h3
theorem Zl7 {α : Type} (f : Nat -> List α) (s : Nat) (hs : ∀ i, (f i).length = s) : ∀ (n i j : Nat), i < n -> j < s -> ((List.range n).flatMap f)[i * s + j]? = (f i)[j]?
  | 0, _, _, h, _ => by omega
  | n + 1, i, j, h, hj => by
    rw [List.range_succ, List.flatMap_append]
    rcases Nat.lt_or_ge i n with h' | h'
    · rw [List.getElem?_append_left]
      · exact Zl7 f s hs n i j h' hj
      · rw [ZbP f s hs]
        calc i * s + j < i * s + s := by omega
          _ = (i + 1) * s := by rw [Nat.succ_mul]
          _ <= n * s := Nat.mul_le_mul_right _ h'
    · have : i = n := by omega
      subst this
      rw [List.getElem?_append_right (by rw [ZbP f s hs]; omega), ZbP f s hs]
      simp
theorem Zgq {idx st : Nat} {K : SVal -> Prop} {ρ : Rho} {n : Nat} : ∀ (cs : List Chunk) (off : Nat), rdC idx st K cs off -> ZbK ρ n cs ->
    ∃ v, K v /\ v.ok ρ n /\ (Zal ρ cs)[off + idx * st]? = some (v.conc ρ)
  | [], _, h, _ => h.elim
  | .one v :: r, off, h, hok => by
    simp only [ZbK, Chunk.ok] at hok
    simp only [rdC] at h
    cases hb : Nat.beq off 0 with
    | true =>
      rw [hb] at h
      obtain ⟨h0, hK⟩ := ZaJ h
      obtain rfl := Za5 h0
      have := beq_zero.1 hb
      subst this
      exact ⟨v, hK, hok.1, by simp [Zal, Chunk.conc]⟩
    | false =>
      rw [hb] at h
      obtain ⟨u, h1, h2, h3⟩ := Zgq r _ h hok.2
      have := ZcD hb
      refine ⟨u, h1, h2, ?_⟩
      simp only [Zal, Chunk.conc]
      rw [List.getElem?_append_right (by simp; omega)]
      rw [show off + idx * st - [v.conc ρ].length = off - 1 + idx * st by simp; omega]
      exact h3
  | .ints k m xs :: r, off, h, hok => by
    simp only [ZbK] at hok
    simp only [rdC] at h
    cases hb : Nat.beq off 0 with
    | true =>
      rw [hb] at h
      obtain ⟨h0, h1, hK⟩ := ZaJ h
      obtain rfl := Za5 h0
      have := beq_zero.1 hb
      subst this
      refine ⟨_, hK, by simp [SVal.ok], ?_⟩
      simp only [Zal, Chunk.conc, SVal.conc, Nat.zero_add, Nat.mul_one]
      rw [List.getElem?_append_left (by rw [Zac]; exact h1)]
      exact Za7 _ _ _ _ h1
    | false =>
      rw [hb] at h
      obtain ⟨hle, h⟩ := ZaJ h
      have hle := Nat.le_of_ble_eq_true hle
      obtain ⟨u, h1, h2, h3⟩ := Zgq r _ h hok.2
      refine ⟨u, h1, h2, ?_⟩
      simp only [Zal, Chunk.conc]
      rw [List.getElem?_append_right (by rw [Zac]; omega), Zac]
      rw [show off + idx * st - m = off - m + idx * st by omega]
      exact h3
  | .rows sh m xs :: r, off, h, hok => by
    simp only [rdC] at h
    obtain ⟨h0, h1, h2⟩ := ZaJ h
    obtain rfl := Za5 h0
    obtain ⟨v, h3, h4, h5⟩ := Zi6 (ρ := ρ) (n := n) sh _ off h2
    refine ⟨v, h3, h4, ?_⟩
    have hoff : off < ZaI sh := by
      have := (List.getElem?_eq_some_iff.1 h5).1
      rwa [Za2] at this
    have key := Zl7 (fun i => Zbq sh (xs.getD i (Tup.dflt sh))) (ZaI sh) (fun i => Za2 _ _) m idx off h1 hoff
    simp only [Zal, Chunk.conc]
    rw [List.getElem?_append_left]
    · rw [Nat.add_comm off]
      unfold ZaZ
      rw [key]; exact h5
    · rw [ZaX]
      calc off + idx * ZaI sh < ZaI sh + idx * ZaI sh := by omega
        _ = (idx + 1) * ZaI sh := by rw [Nat.succ_mul]; omega
        _ <= m * ZaI sh := Nat.mul_le_mul_right _ h1
theorem Zoo (k : IntKind) (n : Nat) (xs : List Int) (i : Nat) (m : Int) (h : i < n) (h' : i < xs.length) :
    ZaH k n (xs.set i m) = (ZaH k n xs).set i (.int k m) := by
  apply List.ext_getElem?
  intro j
  rw [List.getElem?_set]
  by_cases hij : i = j
  · subst hij
    rw [if_pos rfl, if_pos (by rw [Zac]; exact h), Za7 _ _ _ _ h]
    simp [h']
  · rw [if_neg hij]
    rcases Nat.lt_or_ge j n with hj | hj
    · rw [Za7 _ _ _ _ hj, Za7 _ _ _ _ hj]
      simp [hij]
    · rw [List.getElem?_eq_none (by rw [Zac]; exact hj), List.getElem?_eq_none (by rw [Zac]; exact hj)]
theorem ZjJ {idx st : Nat} {v : SVal} {ρ : Rho} {n : Nat} (hv : v.ok ρ n) : ∀ (cs : List Chunk) (K : List Chunk -> Prop) (off : Nat), wrC idx st v K cs off -> ZbK ρ n cs ->
    ∃ cs', K cs' /\ ZbK ρ n cs' /\ Zav cs' = Zav cs /\ off + idx * st < Zav cs /\ Zal ρ cs' = (Zal ρ cs).set (off + idx * st) (v.conc ρ)
  | [], _, _, h, _ => h.elim
  | .one u :: r, K, off, h, hok => by
    simp only [ZbK, Chunk.ok] at hok
    simp only [wrC] at h
    cases hb : Nat.beq off 0 with
    | true =>
      rw [hb] at h
      obtain ⟨h0, hK⟩ := ZaJ h
      obtain rfl := Za5 h0
      have := beq_zero.1 hb
      subst this
      exact ⟨_, hK, by simp only [ZbK, Chunk.ok]; exact ⟨hv, hok.2⟩, by simp [Zav, Chunk.len], by simp [Zav, Chunk.len]; omega, by simp [Zal, Chunk.conc]⟩
    | false =>
      rw [hb] at h
      obtain ⟨cs', h1, h2, h3, h4, h5⟩ := ZjJ hv r _ _ h hok.2
      have := ZcD hb
      refine ⟨_, h1, by simp only [ZbK, Chunk.ok]; exact ⟨hok.1, h2⟩, by simp [Zav, h3], by simp [Zav, Chunk.len]; omega, ?_⟩
      simp only [Zal, Chunk.conc, h5]
      rw [List.set_append_right _ _ (by simp; omega)]
      congr 2
      simp; omega
  | .ints k m xs :: r, K, off, h, hok => by
    simp only [ZbK] at hok
    simp only [wrC] at h
    cases hb : Nat.beq off 0 with
    | true =>
      rw [hb] at h
      simp only [cond_true] at h
      split at h
      · rename_i k' m'
        obtain ⟨h0, h1, h2, hK⟩ := ZaJ h
        rw [Bool.and_eq_true] at h0
        obtain rfl := Zgx h0.1
        obtain rfl := Za5 h0.2
        have := beq_zero.1 hb
        subst this
        refine ⟨_, hK, by simp only [ZbK, Chunk.ok]; exact ⟨trivial, hok.2⟩, by simp [Zav, Chunk.len], by simp [Zav, Chunk.len]; omega, ?_⟩
        simp only [Zal, Chunk.conc, SVal.conc, Nat.zero_add, Nat.mul_one]
        rw [List.set_append_left _ _ (by rw [Zac]; exact h1), Zoo _ _ _ _ _ h1 h2]
      · exact h.elim
    | false =>
      rw [hb] at h
      obtain ⟨hle, h⟩ := ZaJ h
      have hle := Nat.le_of_ble_eq_true hle
      obtain ⟨cs', h1, h2, h3, h4, h5⟩ := ZjJ hv r _ _ h hok.2
      refine ⟨_, h1, by simp only [ZbK, Chunk.ok]; exact ⟨trivial, h2⟩, by simp [Zav, h3], by simp [Zav, Chunk.len]; omega, ?_⟩
      simp only [Zal, Chunk.conc, h5]
      rw [List.set_append_right _ _ (by rw [Zac]; omega), Zac]
      congr 2
      omega
  | .rows sh m xs :: r, K, off, h, _ => by simp only [wrC] at h
theorem ZfM {ρ : Rho} {n : Nat} : ∀ (cs : List Chunk) (K : List Chunk -> Prop) (sz : Nat), ZdR K cs sz -> ZbK ρ n cs ->
    ∃ l, K l /\ ZbK ρ n l /\ Zav l = sz /\ sz <= Zav cs /\ Zal ρ l = (Zal ρ cs).take sz
  | [], K, sz, h, _ => by
    obtain ⟨h0, hK⟩ := ZaJ h
    obtain rfl := Za5 h0
    exact ⟨_, hK, by simp [ZbK], by simp [Zav], by simp [Zav], by simp [Zal]⟩
  | c :: r, K, sz, h, hok => by
    simp only [ZbK] at hok
    simp only [ZdR] at h
    cases hb : Nat.beq sz 0 with
    | true =>
      rw [hb] at h
      have := beq_zero.1 hb
      subst this
      exact ⟨_, h, by simp [ZbK], by simp [Zav], by simp, by simp [Zal]⟩
    | false =>
      rw [hb] at h
      obtain ⟨hle, h⟩ := ZaJ h
      have hle := Nat.le_of_ble_eq_true hle
      obtain ⟨l, h1, h2, h3, h4, h5⟩ := ZfM r _ _ h hok.2
      refine ⟨_, h1, by simp only [ZbK]; exact ⟨hok.1, h2⟩, by simp [Zav, h3]; omega, by simp [Zav]; omega, ?_⟩
      simp only [Zal, h5]
      rw [List.take_append, ZbJ, List.take_of_length_le (l := c.conc ρ) (by rw [ZbJ]; exact hle)]
theorem Zf0 {ρ : Rho} {n : Nat} : ∀ (cs : List Chunk) (K : List Chunk -> Prop) (sz : Nat), Zeq K cs sz -> ZbK ρ n cs ->
    ∃ l, K l /\ ZbK ρ n l /\ Zav l + sz = Zav cs /\ Zal ρ l = (Zal ρ cs).drop sz
  | [], K, sz, h, _ => by
    obtain ⟨h0, hK⟩ := ZaJ h
    obtain rfl := Za5 h0
    exact ⟨_, hK, by simp [ZbK], by simp [Zav], by simp [Zal]⟩
  | c :: r, K, sz, h, hok => by
    have hok0 := hok
    simp only [ZbK] at hok
    simp only [Zeq] at h
    cases hb : Nat.beq sz 0 with
    | true =>
      rw [hb] at h
      have := beq_zero.1 hb
      subst this
      exact ⟨_, h, hok0, by simp, by simp⟩
    | false =>
      rw [hb] at h
      obtain ⟨hle, h⟩ := ZaJ h
      have hle := Nat.le_of_ble_eq_true hle
      obtain ⟨l, h1, h2, h3, h4⟩ := Zf0 r _ _ h hok.2
      refine ⟨_, h1, h2, by simp [Zav]; omega, ?_⟩
      simp only [Zal, h4]
      rw [List.drop_append, ZbJ, List.drop_of_length_le (l := c.conc ρ) (by rw [ZbJ]; exact hle), List.nil_append]
theorem Ze2 (k : IntKind) (n : Nat) (xs : List Int) (i sz : Nat) (h : i + sz <= n) :
    ZaH k sz ((xs.drop i).take sz) = ((ZaH k n xs).drop i).take sz := by
  apply List.ext_getElem?
  intro j
  rcases Nat.lt_or_ge j sz with hj | hj
  · rw [Za7 _ _ _ _ hj, List.getElem?_take_of_lt hj, List.getElem?_drop, Za7 _ _ _ _ (by omega)]
    simp [List.getElem?_take_of_lt hj, List.getElem?_drop]
  · rw [List.getElem?_eq_none (by rw [Zac]; exact hj), List.getElem?_eq_none (by simp; omega)]
theorem Zhj {ρ : Rho} : ∀ (l : Leaf) (x : l.T), (Zdm l x).conc ρ = l.conc x
  | .int _, _ => by simp [Zdm, Chunk.conc, Leaf.conc, SVal.conc]
  | .bool, _ => by simp [Zdm, Chunk.conc, Leaf.conc, SVal.conc]
  | .ints _ _, _ => by simp [Zdm, Chunk.conc, Leaf.conc]
theorem Zjd {ρ : Rho} {n : Nat} : ∀ (l : Leaf) (x : l.T), (Zdm l x).ok ρ n
  | .int _, _ => by simp [Zdm, Chunk.ok, SVal.ok]
  | .bool, _ => by simp [Zdm, Chunk.ok, SVal.ok]
  | .ints _ _, _ => by simp [Zdm, Chunk.ok]
theorem Zdk {ρ : Rho} : ∀ (sh : List Leaf) (x : Tup sh), Zal ρ (Zcu sh x) = Zbq sh x
  | [], _ => by simp [Zcu, Zal, Zbq]
  | [l], x => by simp [Zcu, Zal, Zbq, Zhj]
  | l :: m :: r, x => by
    have := Zdk (ρ := ρ) (m :: r) x.2
    simp only [Zcu, Zal, Zbq, Zhj, this]
theorem Zi3 {ρ : Rho} {n : Nat} : ∀ (sh : List Leaf) (x : Tup sh), ZbK ρ n (Zcu sh x)
  | [], _ => by simp [Zcu, ZbK]
  | [l], x => by simp [Zcu, ZbK, Zjd]
  | l :: m :: r, x => by
    have := Zi3 (ρ := ρ) (n := n) (m :: r) x.2
    simp only [Zcu, ZbK, Zjd, true_and]; exact this
theorem ZtH {α : Type} (f : Nat -> List α) (s : Nat) (hs : ∀ i, (f i).length = s) (n i : Nat) (h : i < n) : (((List.range n).flatMap f).drop (i * s)).take s = f i := by
  apply List.ext_getElem?
  intro j
  rcases Nat.lt_or_ge j s with hj | hj
  · rw [List.getElem?_take_of_lt hj, List.getElem?_drop]
    exact Zl7 f s hs n i j h hj
  · rw [List.getElem?_eq_none (by simp; omega), List.getElem?_eq_none (by rw [hs]; exact hj)]
theorem Zgr {idx st sz : Nat} {K : List Chunk -> Prop} {ρ : Rho} {n : Nat} : ∀ (cs : List Chunk) (off : Nat), rdA idx st sz K cs off -> ZbK ρ n cs ->
    ∃ l, K l /\ ZbK ρ n l /\ Zav l = sz /\ off + idx * st + sz <= Zav cs /\ Zal ρ l = ((Zal ρ cs).drop (off + idx * st)).take sz
  | [], _, h, _ => h.elim
  | .one v :: r, off, h, hok => by
    have hok0 := hok
    simp only [ZbK, Chunk.ok] at hok
    simp only [rdA] at h
    cases hb : Nat.beq off 0 with
    | true =>
      rw [hb] at h
      obtain ⟨h0, h⟩ := ZaJ h
      obtain rfl := Za5 h0
      have := beq_zero.1 hb
      subst this
      obtain ⟨l, h1, h2, h3, h4, h5⟩ := ZfM _ _ _ h hok0
      exact ⟨l, h1, h2, h3, by simpa using h4, by simpa using h5⟩
    | false =>
      rw [hb] at h
      obtain ⟨l, h1, h2, h3, h4, h5⟩ := Zgr r _ h hok.2
      have := ZcD hb
      refine ⟨l, h1, h2, h3, by simp [Zav, Chunk.len]; omega, ?_⟩
      simp only [Zal, Chunk.conc]
      rw [List.drop_append, List.drop_of_length_le (by simp; omega), List.nil_append, h5]
      congr 2
      simp; omega
  | .ints k m xs :: r, off, h, hok => by
    have hok0 := hok
    simp only [ZbK] at hok
    simp only [rdA] at h
    cases hb : Nat.beq off 0 with
    | true =>
      rw [hb] at h
      have := beq_zero.1 hb
      subst this
      simp only [cond_true] at h
      cases hc : Nat.ble m sz with
      | true =>
        rw [hc] at h
        obtain ⟨h0, h⟩ := ZaJ h
        obtain rfl := Za5 h0
        obtain ⟨l, h1, h2, h3, h4, h5⟩ := ZfM _ _ _ h hok0
        exact ⟨l, h1, h2, h3, by simpa using h4, by simpa using h5⟩
      | false =>
        rw [hc] at h
        obtain ⟨h0, h1, hK⟩ := ZaJ h
        obtain rfl := Za5 h0
        refine ⟨_, hK, by simp [ZbK, Chunk.ok], by simp [Zav, Chunk.len], by simp [Zav, Chunk.len]; omega, ?_⟩
        simp only [Zal, Chunk.conc, List.append_nil, Nat.zero_add, Nat.mul_one]
        rw [Ze2 _ _ _ _ _ h1, List.drop_append_of_le_length (by rw [Zac]; omega),
          List.take_append_of_le_length (by rw [List.length_drop, Zac]; omega)]
    | false =>
      rw [hb] at h
      obtain ⟨hle, h⟩ := ZaJ h
      have hle := Nat.le_of_ble_eq_true hle
      obtain ⟨l, h1, h2, h3, h4, h5⟩ := Zgr r _ h hok.2
      refine ⟨l, h1, h2, h3, by simp [Zav, Chunk.len]; omega, ?_⟩
      simp only [Zal, Chunk.conc]
      rw [List.drop_append, List.drop_of_length_le (by rw [Zac]; omega), List.nil_append, Zac, h5]
      congr 2
      omega
  | .rows sh m xs :: r, off, h, hok => by
    simp only [rdA] at h
    obtain ⟨h0, h1, hK⟩ := ZaJ h
    obtain rfl := Za5 h0
    obtain ⟨l1, g1, g2, g3, g4⟩ := Zf0 (ρ := ρ) (n := n) _ _ _ hK (Zi3 _ _)
    obtain ⟨l, g5, g6, g7, g8, g9⟩ := ZfM (ρ := ρ) (n := n) _ _ _ g1 g2
    have hlen : (idx + 1) * ZaI sh <= m * ZaI sh := Nat.mul_le_mul_right _ h1
    rw [Nat.succ_mul] at hlen
    rw [<- ZaV ρ (Zcu sh _), Zdk, Za2] at g3
    refine ⟨l, g5, g6, g7, by simp [Zav, Chunk.len]; omega, ?_⟩
    rw [g9, g4, Zdk]
    simp only [Zal, Chunk.conc]
    rw [List.drop_append_of_le_length (by rw [ZaX]; omega), List.take_append_of_le_length (by rw [List.length_drop, ZaX]; omega)]
    unfold ZaZ
    have hsl := ZtH (fun i => Zbq sh (xs.getD i (Tup.dflt sh))) (ZaI sh) (fun i => Za2 _ _) m idx h1
    rw [<- hsl, List.drop_take, List.drop_drop, List.take_take, Nat.min_eq_left (by omega), Nat.add_comm off]
theorem Zgd {ρ : Rho} : ∀ (a b : List Chunk), Zal ρ (a ++ b) = Zal ρ a ++ Zal ρ b
  | [], b => by simp [Zal]
  | c :: r, b => by simp [Zal, Zgd r b]
theorem Zhp {ρ : Rho} {n : Nat} : ∀ {a b : List Chunk}, ZbK ρ n a -> ZbK ρ n b -> ZbK ρ n (a ++ b)
  | [], _, _, hb => hb
  | c :: r, b, ha, hb => by simp only [ZbK, List.cons_append] at *; exact ⟨ha.1, Zhp ha.2 hb⟩
theorem Zgt : ∀ (a b : List Chunk), Zav (a ++ b) = Zav a + Zav b
  | [], b => by simp [Zav]
  | c :: r, b => by simp [Zav, Zgt r b]; omega
theorem ZdX {α : Type} (A B C : List α) (j : Nat) : (A ++ B ++ C)[j]? = if j < A.length then A[j]? else if j < A.length + B.length then B[j - A.length]? else C[j - A.length - B.length]? := by
  rw [List.getElem?_append, List.length_append]
  by_cases h1 : j < A.length
  · rw [if_pos (by omega), if_pos h1, List.getElem?_append_left h1]
  · by_cases h2 : j < A.length + B.length
    · rw [if_pos h2, if_neg h1, if_pos h2, List.getElem?_append_right (by omega)]
    · rw [if_neg h2, if_neg h1, if_neg h2, Nat.sub_sub]
theorem Zgy (k : IntKind) (n : Nat) (xs ys : List Int) (i sz : Nat) (h : i + sz <= n) (hx : xs.length = n) (hy : ys.length = sz) :
    ZaH k n (xs.take i ++ ys ++ xs.drop (i + sz)) = (ZaH k n xs).take i ++ ZaH k sz ys ++ (ZaH k n xs).drop (i + sz) := by
  apply List.ext_getElem?
  intro j
  have l1 : (xs.take i).length = i := by simp; omega
  have l2 : ((ZaH k n xs).take i).length = i := by simp [Zac]; omega
  rw [ZdX, l2, Zac]
  rcases Nat.lt_or_ge j n with hj | hj
  · rw [Za7 _ _ _ _ hj, List.getD_eq_getElem?_getD, ZdX, l1, hy]
    by_cases h1 : j < i
    · rw [if_pos h1, if_pos h1, List.getElem?_take_of_lt h1, List.getElem?_take_of_lt h1, Za7 _ _ _ _ hj, List.getD_eq_getElem?_getD]
    · rw [if_neg h1, if_neg h1]
      by_cases h2 : j < i + sz
      · rw [if_pos h2, if_pos h2, Za7 _ _ _ _ (by omega), List.getD_eq_getElem?_getD]
      · rw [if_neg h2, if_neg h2, List.getElem?_drop, List.getElem?_drop, show i + sz + (j - i - sz) = j by omega, Za7 _ _ _ _ hj, List.getD_eq_getElem?_getD]
  · rw [List.getElem?_eq_none (by rw [Zac]; exact hj), if_neg (by omega), if_neg (by omega), List.getElem?_eq_none (by simp [Zac]; omega)]
theorem Zi4 {ρ : Rho} : ∀ (l : Leaf) (c : Chunk) (K : l.T -> Prop), Zk2 l c K -> ∃ x, K x /\ c.conc ρ = l.conc x
  | .int k, c, K, h => by
    simp only [Zk2] at h
    split at h
    · obtain ⟨h0, h⟩ := ZaJ h
      obtain rfl := Zgx h0
      exact ⟨_, h, by simp [Chunk.conc, SVal.conc, Leaf.conc]⟩
    · exact h.elim
  | .bool, c, K, h => by
    simp only [Zk2] at h
    split at h
    · exact ⟨_, h, by simp [Chunk.conc, SVal.conc, Leaf.conc]⟩
    · exact h.elim
  | .ints k n, c, K, h => by
    simp only [Zk2] at h
    split at h
    · obtain ⟨h0, h⟩ := ZaJ h
      rw [Bool.and_eq_true] at h0
      obtain rfl := Zgx h0.1
      obtain rfl := Za5 h0.2
      exact ⟨_, h, by simp [Chunk.conc, Leaf.conc]⟩
    · exact h.elim
theorem Zhm {ρ : Rho} : ∀ (sh : List Leaf) (cs : List Chunk) (K : Tup sh -> Prop), ZtE sh cs K -> ∃ x, K x /\ Zal ρ cs = Zbq sh x
  | [], _, _, h => h.elim
  | [l], cs, K, h => by
    simp only [ZtE] at h
    split at h
    · obtain ⟨x, h1, h2⟩ := Zi4 (ρ := ρ) _ _ _ h
      exact ⟨x, h1, by simp [Zal, h2, Zbq]⟩
    · exact h.elim
  | l :: m :: r, cs, K, h => by
    simp only [ZtE] at h
    split at h
    · obtain ⟨x, h1, h2⟩ := Zi4 (ρ := ρ) _ _ _ h
      obtain ⟨y, h3, h4⟩ := Zhm (ρ := ρ) (m :: r) _ _ h1
      exact ⟨(x, y), h3, by simp only [Zal, h2, h4, Zbq]⟩
    · exact h.elim
theorem ZfO (sh : List Leaf) : ∀ (xs : List (Tup sh)), ZaZ sh xs.length xs = xs.flatMap (Zbq sh)
  | [] => rfl
  | x :: r => by
    have ih := ZfO sh r
    unfold ZaZ at ih ⊢
    rw [List.length_cons, List.range_succ_eq_map, List.flatMap_cons, List.flatMap_cons, List.flatMap_map]
    simp only [List.getD_cons_zero, List.getD_cons_succ]
    rw [ih]
theorem Zdr {sh : List Leaf} {n : Nat} {xs : List (Tup sh)} (h : xs.length = n) : ZaZ sh n xs = xs.flatMap (Zbq sh) := by
  subst h; exact ZfO sh xs
theorem Zn9 {sh : List Leaf} {n : Nat} {xs : List (Tup sh)} {i : Nat} {t : Tup sh} (h : i < n) (hx : xs.length = n) :
    ZaZ sh n (xs.set i t) = (ZaZ sh n xs).take (i * ZaI sh) ++ Zbq sh t ++ (ZaZ sh n xs).drop (i * ZaI sh + ZaI sh) := by
  have hl : ∀ ys : List (Tup sh), (ys.flatMap (Zbq sh)).length = ys.length * ZaI sh := fun ys => by
    rw [<- ZfO, ZaX]
  have hi : i < xs.length := by omega
  have e1 : xs = xs.take i ++ xs[i] :: xs.drop (i + 1) := by rw [<- List.drop_eq_getElem_cons hi, List.take_append_drop]
  have e2 : xs.set i t = xs.take i ++ t :: xs.drop (i + 1) := List.set_eq_take_append_cons_drop.trans (by rw [if_pos hi])
  have l1 : ((xs.take i).flatMap (Zbq sh)).length = i * ZaI sh := by rw [hl, List.length_take]; congr 1; omega
  rw [Zdr (by rw [List.length_set, hx]), Zdr hx, e2]
  conv => rhs; rw [e1]
  simp only [List.flatMap_append, List.flatMap_cons]
  rw [List.take_left' l1, List.drop_append, List.drop_of_length_le (l := (xs.take i).flatMap (Zbq sh)) (by omega), l1, List.nil_append, show i * ZaI sh + ZaI sh - i * ZaI sh = ZaI sh by omega, List.drop_left' (Za2 _ _), List.append_assoc]
theorem Zgn {idx st sz : Nat} {new : List Chunk} {ρ : Rho} {n : Nat} (hnew : ZbK ρ n new) (hsz : Zav new = sz) : ∀ (cs : List Chunk) (K : List Chunk -> Prop) (off : Nat), wrA idx st sz new K cs off -> ZbK ρ n cs ->
    ∃ cs', K cs' /\ ZbK ρ n cs' /\ Zav cs' = Zav cs /\ off + idx * st + sz <= Zav cs /\
      Zal ρ cs' = (Zal ρ cs).take (off + idx * st) ++ Zal ρ new ++ (Zal ρ cs).drop (off + idx * st + sz)
  | [], _, _, h, _ => h.elim
  | .one v :: r, K, off, h, hok => by
    have hok0 := hok
    simp only [ZbK, Chunk.ok] at hok
    simp only [wrA] at h
    cases hb : Nat.beq off 0 with
    | true =>
      rw [hb] at h
      obtain ⟨h0, h⟩ := ZaJ h
      obtain rfl := Za5 h0
      have := beq_zero.1 hb
      subst this
      obtain ⟨l, h1, h2, h3, h4⟩ := Zf0 _ _ _ h hok0
      refine ⟨_, h1, Zhp hnew h2, by rw [Zgt]; omega, by simp; omega, ?_⟩
      rw [Zgd, h4]; simp
    | false =>
      rw [hb] at h
      obtain ⟨cs', h1, h2, h3, h4, h5⟩ := Zgn hnew hsz r _ _ h hok.2
      have := ZcD hb
      refine ⟨_, h1, by simp only [ZbK, Chunk.ok]; exact ⟨hok.1, h2⟩, by simp [Zav, h3], by simp [Zav, Chunk.len]; omega, ?_⟩
      simp only [Zal, Chunk.conc, h5]
      rw [show off + idx * st = (off - 1 + idx * st) + 1 by omega, show off - 1 + idx * st + 1 + sz = (off - 1 + idx * st + sz) + 1 by omega]
      simp
  | .ints k m xs :: r, K, off, h, hok => by
    have hok0 := hok
    simp only [ZbK] at hok
    simp only [wrA] at h
    cases hb : Nat.beq off 0 with
    | true =>
      rw [hb] at h
      have := beq_zero.1 hb
      subst this
      simp only [cond_true] at h
      cases hc : Nat.ble m sz with
      | true =>
        rw [hc] at h
        obtain ⟨h0, h⟩ := ZaJ h
        obtain rfl := Za5 h0
        obtain ⟨l, h1, h2, h3, h4⟩ := Zf0 _ _ _ h hok0
        refine ⟨_, h1, Zhp hnew h2, by rw [Zgt]; omega, by simp; omega, ?_⟩
        rw [Zgd, h4]; simp
      | false =>
        rw [hc] at h
        simp only [cond_false] at h
        split at h
        · rename_i k' m' ys
          obtain ⟨h0, h1, h2, h3, hK⟩ := ZaJ h
          rw [Bool.and_eq_true, Bool.and_eq_true] at h0
          obtain rfl := Zgx h0.1.1
          obtain rfl := Za5 h0.1.2
          obtain rfl := Za5 h0.2
          refine ⟨_, hK, by simp only [ZbK, Chunk.ok]; exact ⟨trivial, hok.2⟩, by simp [Zav, Chunk.len], by simp [Zav, Chunk.len]; omega, ?_⟩
          simp only [Zal, Chunk.conc, List.append_nil, Nat.zero_add, Nat.mul_one]
          rw [Zgy _ _ _ _ _ _ h1 h2 h3, List.take_append_of_le_length (by rw [Zac]; omega), List.drop_append_of_le_length (by rw [Zac]; omega)]
          simp
        · exact h.elim
    | false =>
      rw [hb] at h
      obtain ⟨hle, h⟩ := ZaJ h
      have hle := Nat.le_of_ble_eq_true hle
      obtain ⟨cs', h1, h2, h3, h4, h5⟩ := Zgn hnew hsz r _ _ h hok.2
      refine ⟨_, h1, by simp only [ZbK, Chunk.ok]; exact ⟨trivial, h2⟩, by simp [Zav, h3], by simp [Zav, Chunk.len]; omega, ?_⟩
      simp only [Zal, Chunk.conc, h5]
      rw [List.take_append, List.drop_append, Zac, List.take_of_length_le (l := ZaH k m xs) (by rw [Zac]; omega), List.drop_of_length_le (l := ZaH k m xs) (by rw [Zac]; omega),
        show off + idx * st - m = off - m + idx * st by omega, show off + idx * st + sz - m = off - m + idx * st + sz by omega]
      simp
  | .rows sh m xs :: r, K, off, h, hok => by
    simp only [ZbK] at hok
    simp only [wrA] at h
    obtain ⟨h0, h1, h2, h3⟩ := ZaJ h
    clear h
    rw [Bool.and_eq_true, Bool.and_eq_true] at h0
    have := beq_zero.1 h0.1.1
    subst this
    obtain rfl := Za5 h0.1.2
    obtain rfl := Za5 h0.2
    obtain ⟨t, hK, ht⟩ := Zhm (ρ := ρ) _ _ _ h3
    have hle : idx * ZaI sh + ZaI sh <= m * ZaI sh := by rw [<- Nat.succ_mul]; exact Nat.mul_le_mul_right _ h1
    refine ⟨_, hK, by simp only [ZbK, Chunk.ok]; exact ⟨trivial, hok.2⟩, by simp [Zav, Chunk.len], by simp only [Zav, Chunk.len]; omega, ?_⟩
    simp only [Zal, Chunk.conc, Nat.zero_add, ht]
    rw [Zn9 h1 h2, List.take_append_of_le_length (by rw [ZaX]; omega), List.drop_append_of_le_length (by rw [ZaX]; exact hle)]
    simp only [List.append_assoc]
end Go.Sx
