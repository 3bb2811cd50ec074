/- Part of the proof: SxChunk. -/
import Derived.Test.YtinjdimejijabaaSxEv
set_option linter.unusedVariables false
set_option linter.unusedSimpArgs false
namespace Go.Sx
theorem Zcr {a b : IntKind} (h : kEq a b = true) : a = b := by cases a <;> cases b <;> first | rfl | cases h
theorem Zad {c : Bool} {A : Prop} (h : bif c then A else False) : c = true /\ A := by
  cases c with
  | false => exact h.elim
  | true => exact ⟨rfl, h⟩
theorem Zao {m n : Nat} (h : Nat.beq m n = true) : m = n := Nat.eq_of_beq_eq_true h
theorem beq_zero {n : Nat} : Nat.beq n 0 = true ↔ n = 0 := ⟨fun h => Nat.eq_of_beq_eq_true h, fun h => by subst h; rfl⟩
theorem Za5 {n : Nat} (h : Nat.beq n 0 = false) : n ≠ 0 := fun h' => by subst h'; cases h
theorem ZgU {m n : Nat} (h : Nat.ble m n = false) : n < m := by
  rcases Nat.lt_or_ge n m with h' | h'
  · exact h'
  · rw [Nat.ble_eq_true_of_le h'] at h; cases h
theorem Ze3 {K : SVal -> Prop} {off : Nat} {ρ : Rho} {n : Nat} : ∀ (l : Leaf) (x : l.T), ZkX K off l x -> ∃ v, K v /\ v.ok ρ n /\ (l.conc x)[off]? = some (v.conc ρ)
  | .int k, x, h => by obtain ⟨h0, hK⟩ := Zad h; obtain rfl := Zao h0; exact ⟨_, hK, by simp [SVal.ok], by simp [Leaf.conc, SVal.conc]⟩
  | .bool, x, h => by obtain ⟨h0, hK⟩ := Zad h; obtain rfl := Zao h0; exact ⟨_, hK, by simp [SVal.ok], by simp [Leaf.conc, SVal.conc]⟩
  | .ints k m, x, h => by
    obtain ⟨h1, hK⟩ := h
    exact ⟨_, hK, by simp [SVal.ok], by simp only [Leaf.conc, SVal.conc]; exact Zaj _ _ _ _ h1⟩
theorem Zev {K : SVal -> Prop} {ρ : Rho} {n : Nat} : ∀ (sh : List Leaf) (x : Tup sh) (off : Nat), Zgy K sh x off -> ∃ v, K v /\ v.ok ρ n /\ (ZaG sh x)[off]? = some (v.conc ρ)
  | [], _, _, h => h.elim
  | [l], x, off, h => Ze3 l x h
  | l :: m :: r, x, off, h => by
    simp only [Zgy] at h
    cases hb : Nat.ble l.len off with
    | true =>
      rw [hb] at h
      obtain ⟨v, h1, h2, h3⟩ := Zev (m :: r) x.2 _ h
      have := Nat.le_of_ble_eq_true hb
      refine ⟨v, h1, h2, ?_⟩
      simp only [ZaG]
      rw [List.getElem?_append_right (by rw [Zbp]; exact this), Zbp]
      exact h3
    | false =>
      rw [hb] at h
      obtain ⟨v, h1, h2, h3⟩ := Ze3 l x.1 h
      refine ⟨v, h1, h2, ?_⟩
      simp only [ZaG]
      rw [List.getElem?_append_left (by rw [Zbp]; exact ZgU hb)]
      exact h3
theorem ZfO {α : Type} (f : Nat -> List α) (s : Nat) (hs : ∀ i, (f i).length = s) : ∀ (n i j : Nat), i < n -> j < s -> ((List.range n).flatMap f)[i * s + j]? = (f i)[j]?
  | 0, _, _, h, _ => by omega
  | n + 1, i, j, h, hj => by
    rw [List.range_succ, List.flatMap_append]
    rcases Nat.lt_or_ge i n with h' | h'
    · rw [List.getElem?_append_left]
      · exact ZfO f s hs n i j h' hj
      · rw [ZaW f s hs]
        calc i * s + j < i * s + s := by omega
          _ = (i + 1) * s := by rw [Nat.succ_mul]
          _ <= n * s := Nat.mul_le_mul_right _ h'
    · have : i = n := by omega
      subst this
      rw [List.getElem?_append_right (by rw [ZaW f s hs]; omega), ZaW f s hs]
      simp
theorem ZdT {idx st : Nat} {K : SVal -> Prop} {ρ : Rho} {n : Nat} : ∀ (cs : List Chunk) (off : Nat), rdC idx st K cs off -> ZaB ρ n cs ->
    ∃ v, K v /\ v.ok ρ n /\ (Zab ρ cs)[off + idx * st]? = some (v.conc ρ)
  | [], _, h, _ => h.elim
  | .one v :: r, off, h, hok => by
    simp only [ZaB, Chunk.ok] at hok
    simp only [rdC] at h
    cases hb : Nat.beq off 0 with
    | true =>
      rw [hb] at h
      obtain ⟨h0, hK⟩ := Zad h
      obtain rfl := Zao h0
      have := beq_zero.1 hb
      subst this
      exact ⟨v, hK, hok.1, by simp [Zab, Chunk.conc]⟩
    | false =>
      rw [hb] at h
      obtain ⟨u, h1, h2, h3⟩ := ZdT r _ h hok.2
      have := Za5 hb
      refine ⟨u, h1, h2, ?_⟩
      simp only [Zab, Chunk.conc]
      rw [List.getElem?_append_right (by simp; omega)]
      rw [show off + idx * st - [v.conc ρ].length = off - 1 + idx * st by simp; omega]
      exact h3
  | .ints k m xs :: r, off, h, hok => by
    simp only [ZaB] at hok
    simp only [rdC] at h
    cases hb : Nat.beq off 0 with
    | true =>
      rw [hb] at h
      obtain ⟨h0, h1, hK⟩ := Zad h
      obtain rfl := Zao h0
      have := beq_zero.1 hb
      subst this
      refine ⟨_, hK, by simp [SVal.ok], ?_⟩
      simp only [Zab, Chunk.conc, SVal.conc, Nat.zero_add, Nat.mul_one]
      rw [List.getElem?_append_left (by rw [Zaa]; exact h1)]
      exact Zaj _ _ _ _ h1
    | false =>
      rw [hb] at h
      obtain ⟨hle, h⟩ := Zad h
      have hle := Nat.le_of_ble_eq_true hle
      obtain ⟨u, h1, h2, h3⟩ := ZdT r _ h hok.2
      refine ⟨u, h1, h2, ?_⟩
      simp only [Zab, Chunk.conc]
      rw [List.getElem?_append_right (by rw [Zaa]; omega), Zaa]
      rw [show off + idx * st - m = off - m + idx * st by omega]
      exact h3
  | .rows sh m xs :: r, off, h, hok => by
    simp only [rdC] at h
    obtain ⟨h0, h1, h2⟩ := Zad h
    obtain rfl := Zao h0
    obtain ⟨v, h3, h4, h5⟩ := Zev (ρ := ρ) (n := n) sh _ off h2
    refine ⟨v, h3, h4, ?_⟩
    have hoff : off < ZaF sh := by
      have := (List.getElem?_eq_some_iff.1 h5).1
      rwa [Za3] at this
    have key := ZfO (fun i => ZaG sh (xs.getD i (Tup.dflt sh))) (ZaF sh) (fun i => Za3 _ _) m idx off h1 hoff
    simp only [Zab, Chunk.conc]
    rw [List.getElem?_append_left]
    · rw [Nat.add_comm off]
      unfold ZaP
      rw [key]; exact h5
    · rw [Zaq]
      calc off + idx * ZaF sh < ZaF sh + idx * ZaF sh := by omega
        _ = (idx + 1) * ZaF sh := by rw [Nat.succ_mul]; omega
        _ <= m * ZaF sh := Nat.mul_le_mul_right _ h1
theorem ZgG (k : IntKind) (n : Nat) (xs : List Int) (i : Nat) (m : Int) (h : i < n) (h' : i < xs.length) :
    Zaf k n (xs.set i m) = (Zaf k n xs).set i (.int k m) := by
  apply List.ext_getElem?
  intro j
  rw [List.getElem?_set]
  by_cases hij : i = j
  · subst hij
    rw [if_pos rfl, if_pos (by rw [Zaa]; exact h), Zaj _ _ _ _ h]
    simp [h']
  · rw [if_neg hij]
    rcases Nat.lt_or_ge j n with hj | hj
    · rw [Zaj _ _ _ _ hj, Zaj _ _ _ _ hj]
      simp [hij]
    · rw [List.getElem?_eq_none (by rw [Zaa]; exact hj), List.getElem?_eq_none (by rw [Zaa]; exact hj)]
theorem ZeQ {idx st : Nat} {v : SVal} {ρ : Rho} {n : Nat} (hv : v.ok ρ n) : ∀ (cs : List Chunk) (K : List Chunk -> Prop) (off : Nat), wrC idx st v K cs off -> ZaB ρ n cs ->
    ∃ cs', K cs' /\ ZaB ρ n cs' /\ Zac cs' = Zac cs /\ off + idx * st < Zac cs /\ Zab ρ cs' = (Zab ρ cs).set (off + idx * st) (v.conc ρ)
  | [], _, _, h, _ => h.elim
  | .one u :: r, K, off, h, hok => by
    simp only [ZaB, Chunk.ok] at hok
    simp only [wrC] at h
    cases hb : Nat.beq off 0 with
    | true =>
      rw [hb] at h
      obtain ⟨h0, hK⟩ := Zad h
      obtain rfl := Zao h0
      have := beq_zero.1 hb
      subst this
      exact ⟨_, hK, by simp only [ZaB, Chunk.ok]; exact ⟨hv, hok.2⟩, by simp [Zac, Chunk.len], by simp [Zac, Chunk.len]; omega, by simp [Zab, Chunk.conc]⟩
    | false =>
      rw [hb] at h
      obtain ⟨cs', h1, h2, h3, h4, h5⟩ := ZeQ hv r _ _ h hok.2
      have := Za5 hb
      refine ⟨_, h1, by simp only [ZaB, Chunk.ok]; exact ⟨hok.1, h2⟩, by simp [Zac, h3], by simp [Zac, Chunk.len]; omega, ?_⟩
      simp only [Zab, Chunk.conc, h5]
      rw [List.set_append_right _ _ (by simp; omega)]
      congr 2
      simp; omega
  | .ints k m xs :: r, K, off, h, hok => by
    simp only [ZaB] at hok
    simp only [wrC] at h
    cases hb : Nat.beq off 0 with
    | true =>
      rw [hb] at h
      simp only [cond_true] at h
      split at h
      · rename_i k' m'
        obtain ⟨h0, h1, h2, hK⟩ := Zad h
        rw [Bool.and_eq_true] at h0
        obtain rfl := Zcr h0.1
        obtain rfl := Zao h0.2
        have := beq_zero.1 hb
        subst this
        refine ⟨_, hK, by simp only [ZaB, Chunk.ok]; exact ⟨trivial, hok.2⟩, by simp [Zac, Chunk.len], by simp [Zac, Chunk.len]; omega, ?_⟩
        simp only [Zab, Chunk.conc, SVal.conc, Nat.zero_add, Nat.mul_one]
        rw [List.set_append_left _ _ (by rw [Zaa]; exact h1), ZgG _ _ _ _ _ h1 h2]
      · exact h.elim
    | false =>
      rw [hb] at h
      obtain ⟨hle, h⟩ := Zad h
      have hle := Nat.le_of_ble_eq_true hle
      obtain ⟨cs', h1, h2, h3, h4, h5⟩ := ZeQ hv r _ _ h hok.2
      refine ⟨_, h1, by simp only [ZaB, Chunk.ok]; exact ⟨trivial, h2⟩, by simp [Zac, h3], by simp [Zac, Chunk.len]; omega, ?_⟩
      simp only [Zab, Chunk.conc, h5]
      rw [List.set_append_right _ _ (by rw [Zaa]; omega), Zaa]
      congr 2
      omega
  | .rows sh m xs :: r, K, off, h, _ => by simp only [wrC] at h
theorem ZcA {ρ : Rho} {n : Nat} : ∀ (cs : List Chunk) (K : List Chunk -> Prop) (sz : Nat), ZcU K cs sz -> ZaB ρ n cs ->
    ∃ l, K l /\ ZaB ρ n l /\ Zac l = sz /\ sz <= Zac cs /\ Zab ρ l = (Zab ρ cs).take sz
  | [], K, sz, h, _ => by
    obtain ⟨h0, hK⟩ := Zad h
    obtain rfl := Zao h0
    exact ⟨_, hK, by simp [ZaB], by simp [Zac], by simp [Zac], by simp [Zab]⟩
  | c :: r, K, sz, h, hok => by
    simp only [ZaB] at hok
    simp only [ZcU] at h
    cases hb : Nat.beq sz 0 with
    | true =>
      rw [hb] at h
      have := beq_zero.1 hb
      subst this
      exact ⟨_, h, by simp [ZaB], by simp [Zac], by simp, by simp [Zab]⟩
    | false =>
      rw [hb] at h
      obtain ⟨hle, h⟩ := Zad h
      have hle := Nat.le_of_ble_eq_true hle
      obtain ⟨l, h1, h2, h3, h4, h5⟩ := ZcA r _ _ h hok.2
      refine ⟨_, h1, by simp only [ZaB]; exact ⟨hok.1, h2⟩, by simp [Zac, h3]; omega, by simp [Zac]; omega, ?_⟩
      simp only [Zab, h5]
      rw [List.take_append, Zas, List.take_of_length_le (l := c.conc ρ) (by rw [Zas]; exact hle)]
theorem ZcM {ρ : Rho} {n : Nat} : ∀ (cs : List Chunk) (K : List Chunk -> Prop) (sz : Nat), ZdD K cs sz -> ZaB ρ n cs ->
    ∃ l, K l /\ ZaB ρ n l /\ Zac l + sz = Zac cs /\ Zab ρ l = (Zab ρ cs).drop sz
  | [], K, sz, h, _ => by
    obtain ⟨h0, hK⟩ := Zad h
    obtain rfl := Zao h0
    exact ⟨_, hK, by simp [ZaB], by simp [Zac], by simp [Zab]⟩
  | c :: r, K, sz, h, hok => by
    have hok0 := hok
    simp only [ZaB] at hok
    simp only [ZdD] at h
    cases hb : Nat.beq sz 0 with
    | true =>
      rw [hb] at h
      have := beq_zero.1 hb
      subst this
      exact ⟨_, h, hok0, by simp, by simp⟩
    | false =>
      rw [hb] at h
      obtain ⟨hle, h⟩ := Zad h
      have hle := Nat.le_of_ble_eq_true hle
      obtain ⟨l, h1, h2, h3, h4⟩ := ZcM r _ _ h hok.2
      refine ⟨_, h1, h2, by simp [Zac]; omega, ?_⟩
      simp only [Zab, h4]
      rw [List.drop_append, Zas, List.drop_of_length_le (l := c.conc ρ) (by rw [Zas]; exact hle), List.nil_append]
theorem Zcd (k : IntKind) (n : Nat) (xs : List Int) (i sz : Nat) (h : i + sz <= n) :
    Zaf k sz ((xs.drop i).take sz) = ((Zaf k n xs).drop i).take sz := by
  apply List.ext_getElem?
  intro j
  rcases Nat.lt_or_ge j sz with hj | hj
  · rw [Zaj _ _ _ _ hj, List.getElem?_take_of_lt hj, List.getElem?_drop, Zaj _ _ _ _ (by omega)]
    simp [List.getElem?_take_of_lt hj, List.getElem?_drop]
  · rw [List.getElem?_eq_none (by rw [Zaa]; exact hj), List.getElem?_eq_none (by simp; omega)]
theorem Zdu {ρ : Rho} : ∀ (l : Leaf) (x : l.T), (Zbv l x).conc ρ = l.conc x
  | .int _, _ => by simp [Zbv, Chunk.conc, Leaf.conc, SVal.conc]
  | .bool, _ => by simp [Zbv, Chunk.conc, Leaf.conc, SVal.conc]
  | .ints _ _, _ => by simp [Zbv, Chunk.conc, Leaf.conc]
theorem ZeA {ρ : Rho} {n : Nat} : ∀ (l : Leaf) (x : l.T), (Zbv l x).ok ρ n
  | .int _, _ => by simp [Zbv, Chunk.ok, SVal.ok]
  | .bool, _ => by simp [Zbv, Chunk.ok, SVal.ok]
  | .ints _ _, _ => by simp [Zbv, Chunk.ok]
theorem Zch {ρ : Rho} : ∀ (sh : List Leaf) (x : Tup sh), Zab ρ (Zbi sh x) = ZaG sh x
  | [], _ => by simp [Zbi, Zab, ZaG]
  | [l], x => by simp [Zbi, Zab, ZaG, Zdu]
  | l :: m :: r, x => by
    have := Zch (ρ := ρ) (m :: r) x.2
    simp only [Zbi, Zab, ZaG, Zdu, this]
theorem Zet {ρ : Rho} {n : Nat} : ∀ (sh : List Leaf) (x : Tup sh), ZaB ρ n (Zbi sh x)
  | [], _ => by simp [Zbi, ZaB]
  | [l], x => by simp [Zbi, ZaB, ZeA]
  | l :: m :: r, x => by
    have := Zet (ρ := ρ) (n := n) (m :: r) x.2
    simp only [Zbi, ZaB, ZeA, true_and]; exact this
theorem Zh5 {α : Type} (f : Nat -> List α) (s : Nat) (hs : ∀ i, (f i).length = s) (n i : Nat) (h : i < n) : (((List.range n).flatMap f).drop (i * s)).take s = f i := by
  apply List.ext_getElem?
  intro j
  rcases Nat.lt_or_ge j s with hj | hj
  · rw [List.getElem?_take_of_lt hj, List.getElem?_drop]
    exact ZfO f s hs n i j h hj
  · rw [List.getElem?_eq_none (by simp; omega), List.getElem?_eq_none (by rw [hs]; exact hj)]
theorem ZdU {idx st sz : Nat} {K : List Chunk -> Prop} {ρ : Rho} {n : Nat} : ∀ (cs : List Chunk) (off : Nat), rdA idx st sz K cs off -> ZaB ρ n cs ->
    ∃ l, K l /\ ZaB ρ n l /\ Zac l = sz /\ off + idx * st + sz <= Zac cs /\ Zab ρ l = ((Zab ρ cs).drop (off + idx * st)).take sz
  | [], _, h, _ => h.elim
  | .one v :: r, off, h, hok => by
    have hok0 := hok
    simp only [ZaB, Chunk.ok] at hok
    simp only [rdA] at h
    cases hb : Nat.beq off 0 with
    | true =>
      rw [hb] at h
      obtain ⟨h0, h⟩ := Zad h
      obtain rfl := Zao h0
      have := beq_zero.1 hb
      subst this
      obtain ⟨l, h1, h2, h3, h4, h5⟩ := ZcA _ _ _ h hok0
      exact ⟨l, h1, h2, h3, by simpa using h4, by simpa using h5⟩
    | false =>
      rw [hb] at h
      obtain ⟨l, h1, h2, h3, h4, h5⟩ := ZdU r _ h hok.2
      have := Za5 hb
      refine ⟨l, h1, h2, h3, by simp [Zac, Chunk.len]; omega, ?_⟩
      simp only [Zab, Chunk.conc]
      rw [List.drop_append, List.drop_of_length_le (by simp; omega), List.nil_append, h5]
      congr 2
      simp; omega
  | .ints k m xs :: r, off, h, hok => by
    have hok0 := hok
    simp only [ZaB] at hok
    simp only [rdA] at h
    cases hb : Nat.beq off 0 with
    | true =>
      rw [hb] at h
      have := beq_zero.1 hb
      subst this
      simp only [cond_true] at h
      cases hc : Nat.ble m sz with
      | true =>
        rw [hc] at h
        obtain ⟨h0, h⟩ := Zad h
        obtain rfl := Zao h0
        obtain ⟨l, h1, h2, h3, h4, h5⟩ := ZcA _ _ _ h hok0
        exact ⟨l, h1, h2, h3, by simpa using h4, by simpa using h5⟩
      | false =>
        rw [hc] at h
        obtain ⟨h0, h1, hK⟩ := Zad h
        obtain rfl := Zao h0
        refine ⟨_, hK, by simp [ZaB, Chunk.ok], by simp [Zac, Chunk.len], by simp [Zac, Chunk.len]; omega, ?_⟩
        simp only [Zab, Chunk.conc, List.append_nil, Nat.zero_add, Nat.mul_one]
        rw [Zcd _ _ _ _ _ h1, List.drop_append_of_le_length (by rw [Zaa]; omega),
          List.take_append_of_le_length (by rw [List.length_drop, Zaa]; omega)]
    | false =>
      rw [hb] at h
      obtain ⟨hle, h⟩ := Zad h
      have hle := Nat.le_of_ble_eq_true hle
      obtain ⟨l, h1, h2, h3, h4, h5⟩ := ZdU r _ h hok.2
      refine ⟨l, h1, h2, h3, by simp [Zac, Chunk.len]; omega, ?_⟩
      simp only [Zab, Chunk.conc]
      rw [List.drop_append, List.drop_of_length_le (by rw [Zaa]; omega), List.nil_append, Zaa, h5]
      congr 2
      omega
  | .rows sh m xs :: r, off, h, hok => by
    simp only [rdA] at h
    obtain ⟨h0, h1, hK⟩ := Zad h
    obtain rfl := Zao h0
    obtain ⟨l1, g1, g2, g3, g4⟩ := ZcM (ρ := ρ) (n := n) _ _ _ hK (Zet _ _)
    obtain ⟨l, g5, g6, g7, g8, g9⟩ := ZcA (ρ := ρ) (n := n) _ _ _ g1 g2
    have hlen : (idx + 1) * ZaF sh <= m * ZaF sh := Nat.mul_le_mul_right _ h1
    rw [Nat.succ_mul] at hlen
    rw [<- Zae ρ (Zbi sh _), Zch, Za3] at g3
    refine ⟨l, g5, g6, g7, by simp [Zac, Chunk.len]; omega, ?_⟩
    rw [g9, g4, Zch]
    simp only [Zab, Chunk.conc]
    rw [List.drop_append_of_le_length (by rw [Zaq]; omega), List.take_append_of_le_length (by rw [List.length_drop, Zaq]; omega)]
    unfold ZaP
    have hsl := Zh5 (fun i => ZaG sh (xs.getD i (Tup.dflt sh))) (ZaF sh) (fun i => Za3 _ _) m idx h1
    rw [<- hsl, List.drop_take, List.drop_drop, List.take_take, Nat.min_eq_left (by omega), Nat.add_comm off]
theorem ZcP {ρ : Rho} : ∀ (a b : List Chunk), Zab ρ (a ++ b) = Zab ρ a ++ Zab ρ b
  | [], b => by simp [Zab]
  | c :: r, b => by simp [Zab, ZcP r b]
theorem ZdA {ρ : Rho} {n : Nat} : ∀ {a b : List Chunk}, ZaB ρ n a -> ZaB ρ n b -> ZaB ρ n (a ++ b)
  | [], _, _, hb => hb
  | c :: r, b, ha, hb => by simp only [ZaB, List.cons_append] at *; exact ⟨ha.1, ZdA ha.2 hb⟩
theorem Zc3 : ∀ (a b : List Chunk), Zac (a ++ b) = Zac a + Zac b
  | [], b => by simp [Zac]
  | c :: r, b => by simp [Zac, Zc3 r b]; omega
theorem Zb1 {α : Type} (A B C : List α) (j : Nat) : (A ++ B ++ C)[j]? = if j < A.length then A[j]? else if j < A.length + B.length then B[j - A.length]? else C[j - A.length - B.length]? := by
  rw [List.getElem?_append, List.length_append]
  by_cases h1 : j < A.length
  · rw [if_pos (by omega), if_pos h1, List.getElem?_append_left h1]
  · by_cases h2 : j < A.length + B.length
    · rw [if_pos h2, if_neg h1, if_pos h2, List.getElem?_append_right (by omega)]
    · rw [if_neg h2, if_neg h1, if_neg h2, Nat.sub_sub]
theorem Zc5 (k : IntKind) (n : Nat) (xs ys : List Int) (i sz : Nat) (h : i + sz <= n) (hx : xs.length = n) (hy : ys.length = sz) :
    Zaf k n (xs.take i ++ ys ++ xs.drop (i + sz)) = (Zaf k n xs).take i ++ Zaf k sz ys ++ (Zaf k n xs).drop (i + sz) := by
  apply List.ext_getElem?
  intro j
  have l1 : (xs.take i).length = i := by simp; omega
  have l2 : ((Zaf k n xs).take i).length = i := by simp [Zaa]; omega
  rw [Zb1, l2, Zaa]
  rcases Nat.lt_or_ge j n with hj | hj
  · rw [Zaj _ _ _ _ hj, List.getD_eq_getElem?_getD, Zb1, l1, hy]
    by_cases h1 : j < i
    · rw [if_pos h1, if_pos h1, List.getElem?_take_of_lt h1, List.getElem?_take_of_lt h1, Zaj _ _ _ _ hj, List.getD_eq_getElem?_getD]
    · rw [if_neg h1, if_neg h1]
      by_cases h2 : j < i + sz
      · rw [if_pos h2, if_pos h2, Zaj _ _ _ _ (by omega), List.getD_eq_getElem?_getD]
      · rw [if_neg h2, if_neg h2, List.getElem?_drop, List.getElem?_drop, show i + sz + (j - i - sz) = j by omega, Zaj _ _ _ _ hj, List.getD_eq_getElem?_getD]
  · rw [List.getElem?_eq_none (by rw [Zaa]; exact hj), if_neg (by omega), if_neg (by omega), List.getElem?_eq_none (by simp [Zaa]; omega)]
theorem Zeu {ρ : Rho} : ∀ (l : Leaf) (c : Chunk) (K : l.T -> Prop), Zfq l c K -> ∃ x, K x /\ c.conc ρ = l.conc x
  | .int k, c, K, h => by
    simp only [Zfq] at h
    split at h
    · obtain ⟨h0, h⟩ := Zad h
      obtain rfl := Zcr h0
      exact ⟨_, h, by simp [Chunk.conc, SVal.conc, Leaf.conc]⟩
    · exact h.elim
  | .bool, c, K, h => by
    simp only [Zfq] at h
    split at h
    · exact ⟨_, h, by simp [Chunk.conc, SVal.conc, Leaf.conc]⟩
    · exact h.elim
  | .ints k n, c, K, h => by
    simp only [Zfq] at h
    split at h
    · obtain ⟨h0, h⟩ := Zad h
      rw [Bool.and_eq_true] at h0
      obtain rfl := Zcr h0.1
      obtain rfl := Zao h0.2
      exact ⟨_, h, by simp [Chunk.conc, Leaf.conc]⟩
    · exact h.elim
theorem ZeT {ρ : Rho} : ∀ (sh : List Leaf) (cs : List Chunk) (K : Tup sh -> Prop), ZiJ sh cs K -> ∃ x, K x /\ Zab ρ cs = ZaG sh x
  | [], _, _, h => h.elim
  | [l], cs, K, h => by
    simp only [ZiJ] at h
    split at h
    · obtain ⟨x, h1, h2⟩ := Zeu (ρ := ρ) _ _ _ h
      exact ⟨x, h1, by simp [Zab, h2, ZaG]⟩
    · exact h.elim
  | l :: m :: r, cs, K, h => by
    simp only [ZiJ] at h
    split at h
    · obtain ⟨x, h1, h2⟩ := Zeu (ρ := ρ) _ _ _ h
      obtain ⟨y, h3, h4⟩ := ZeT (ρ := ρ) (m :: r) _ _ h1
      exact ⟨(x, y), h3, by simp only [Zab, h2, h4, ZaG]⟩
    · exact h.elim
theorem ZcB (sh : List Leaf) : ∀ (xs : List (Tup sh)), ZaP sh xs.length xs = xs.flatMap (ZaG sh)
  | [] => rfl
  | x :: r => by
    have ih := ZcB sh r
    unfold ZaP at ih ⊢
    rw [List.length_cons, List.range_succ_eq_map, List.flatMap_cons, List.flatMap_cons, List.flatMap_map]
    simp only [List.getD_cons_zero, List.getD_cons_succ]
    rw [ih]
theorem ZeX {sh : List Leaf} {n : Nat} {xs : List (Tup sh)} (h : xs.length = n) : ZaP sh n xs = xs.flatMap (ZaG sh) := by
  subst h; exact ZcB sh xs
theorem Zgx {sh : List Leaf} {n : Nat} {xs : List (Tup sh)} {i : Nat} {t : Tup sh} (h : i < n) (hx : xs.length = n) :
    ZaP sh n (xs.set i t) = (ZaP sh n xs).take (i * ZaF sh) ++ ZaG sh t ++ (ZaP sh n xs).drop (i * ZaF sh + ZaF sh) := by
  have hl : ∀ ys : List (Tup sh), (ys.flatMap (ZaG sh)).length = ys.length * ZaF sh := fun ys => by
    rw [<- ZcB, Zaq]
  have hi : i < xs.length := by omega
  have e1 : xs = xs.take i ++ xs[i] :: xs.drop (i + 1) := by rw [<- List.drop_eq_getElem_cons hi, List.take_append_drop]
  have e2 : xs.set i t = xs.take i ++ t :: xs.drop (i + 1) := List.set_eq_take_append_cons_drop.trans (by rw [if_pos hi])
  have l1 : ((xs.take i).flatMap (ZaG sh)).length = i * ZaF sh := by rw [hl, List.length_take]; congr 1; omega
  rw [ZeX (by rw [List.length_set, hx]), ZeX hx, e2]
  conv => rhs; rw [e1]
  simp only [List.flatMap_append, List.flatMap_cons]
  rw [List.take_left' l1, List.drop_append, List.drop_of_length_le (l := (xs.take i).flatMap (ZaG sh)) (by omega), l1, List.nil_append, show i * ZaF sh + ZaF sh - i * ZaF sh = ZaF sh by omega, List.drop_left' (Za3 _ _), List.append_assoc]
theorem ZcX {idx st sz : Nat} {new : List Chunk} {ρ : Rho} {n : Nat} (hnew : ZaB ρ n new) (hsz : Zac new = sz) : ∀ (cs : List Chunk) (K : List Chunk -> Prop) (off : Nat), wrA idx st sz new K cs off -> ZaB ρ n cs ->
    ∃ cs', K cs' /\ ZaB ρ n cs' /\ Zac cs' = Zac cs /\ off + idx * st + sz <= Zac cs /\
      Zab ρ cs' = (Zab ρ cs).take (off + idx * st) ++ Zab ρ new ++ (Zab ρ cs).drop (off + idx * st + sz)
  | [], _, _, h, _ => h.elim
  | .one v :: r, K, off, h, hok => by
    have hok0 := hok
    simp only [ZaB, Chunk.ok] at hok
    simp only [wrA] at h
    cases hb : Nat.beq off 0 with
    | true =>
      rw [hb] at h
      obtain ⟨h0, h⟩ := Zad h
      obtain rfl := Zao h0
      have := beq_zero.1 hb
      subst this
      obtain ⟨l, h1, h2, h3, h4⟩ := ZcM _ _ _ h hok0
      refine ⟨_, h1, ZdA hnew h2, by rw [Zc3]; omega, by simp; omega, ?_⟩
      rw [ZcP, h4]; simp
    | false =>
      rw [hb] at h
      obtain ⟨cs', h1, h2, h3, h4, h5⟩ := ZcX hnew hsz r _ _ h hok.2
      have := Za5 hb
      refine ⟨_, h1, by simp only [ZaB, Chunk.ok]; exact ⟨hok.1, h2⟩, by simp [Zac, h3], by simp [Zac, Chunk.len]; omega, ?_⟩
      simp only [Zab, Chunk.conc, h5]
      rw [show off + idx * st = (off - 1 + idx * st) + 1 by omega, show off - 1 + idx * st + 1 + sz = (off - 1 + idx * st + sz) + 1 by omega]
      simp
  | .ints k m xs :: r, K, off, h, hok => by
    have hok0 := hok
    simp only [ZaB] at hok
    simp only [wrA] at h
    cases hb : Nat.beq off 0 with
    | true =>
      rw [hb] at h
      have := beq_zero.1 hb
      subst this
      simp only [cond_true] at h
      cases hc : Nat.ble m sz with
      | true =>
        rw [hc] at h
        obtain ⟨h0, h⟩ := Zad h
        obtain rfl := Zao h0
        obtain ⟨l, h1, h2, h3, h4⟩ := ZcM _ _ _ h hok0
        refine ⟨_, h1, ZdA hnew h2, by rw [Zc3]; omega, by simp; omega, ?_⟩
        rw [ZcP, h4]; simp
      | false =>
        rw [hc] at h
        simp only [cond_false] at h
        split at h
        · rename_i k' m' ys
          obtain ⟨h0, h1, h2, h3, hK⟩ := Zad h
          rw [Bool.and_eq_true, Bool.and_eq_true] at h0
          obtain rfl := Zcr h0.1.1
          obtain rfl := Zao h0.1.2
          obtain rfl := Zao h0.2
          refine ⟨_, hK, by simp only [ZaB, Chunk.ok]; exact ⟨trivial, hok.2⟩, by simp [Zac, Chunk.len], by simp [Zac, Chunk.len]; omega, ?_⟩
          simp only [Zab, Chunk.conc, List.append_nil, Nat.zero_add, Nat.mul_one]
          rw [Zc5 _ _ _ _ _ _ h1 h2 h3, List.take_append_of_le_length (by rw [Zaa]; omega), List.drop_append_of_le_length (by rw [Zaa]; omega)]
          simp
        · exact h.elim
    | false =>
      rw [hb] at h
      obtain ⟨hle, h⟩ := Zad h
      have hle := Nat.le_of_ble_eq_true hle
      obtain ⟨cs', h1, h2, h3, h4, h5⟩ := ZcX hnew hsz r _ _ h hok.2
      refine ⟨_, h1, by simp only [ZaB, Chunk.ok]; exact ⟨trivial, h2⟩, by simp [Zac, h3], by simp [Zac, Chunk.len]; omega, ?_⟩
      simp only [Zab, Chunk.conc, h5]
      rw [List.take_append, List.drop_append, Zaa, List.take_of_length_le (l := Zaf k m xs) (by rw [Zaa]; omega), List.drop_of_length_le (l := Zaf k m xs) (by rw [Zaa]; omega),
        show off + idx * st - m = off - m + idx * st by omega, show off + idx * st + sz - m = off - m + idx * st + sz by omega]
      simp
  | .rows sh m xs :: r, K, off, h, hok => by
    simp only [ZaB] at hok
    simp only [wrA] at h
    obtain ⟨h0, h1, h2, h3⟩ := Zad h
    clear h
    rw [Bool.and_eq_true, Bool.and_eq_true] at h0
    have := beq_zero.1 h0.1.1
    subst this
    obtain rfl := Zao h0.1.2
    obtain rfl := Zao h0.2
    obtain ⟨t, hK, ht⟩ := ZeT (ρ := ρ) _ _ _ h3
    have hle : idx * ZaF sh + ZaF sh <= m * ZaF sh := by rw [<- Nat.succ_mul]; exact Nat.mul_le_mul_right _ h1
    refine ⟨_, hK, by simp only [ZaB, Chunk.ok]; exact ⟨trivial, hok.2⟩, by simp [Zac, Chunk.len], by simp only [Zac, Chunk.len]; omega, ?_⟩
    simp only [Zab, Chunk.conc, Nat.zero_add, ht]
    rw [Zgx h1 h2, List.take_append_of_le_length (by rw [Zaq]; omega), List.drop_append_of_le_length (by rw [Zaq]; exact hle)]
    simp only [List.append_assoc]
end Go.Sx
