/- Part of the proof: SxOrdL. -/
import Derived.Test.YtinjdimejijabaaSxCacheP
import Derived.Test.YtinjdimejijabaaSxKeysA
set_option linter.unusedVariables false
set_option linter.unusedSimpArgs false
namespace Go.Sx
theorem Zh3 (m : Int) (p : Int × Int) (r : List (Int × Int)) : atKV m (p :: r) = if m = p.1 then some 0 else (atKV m r).map (· + 1) := by
  unfold atKV
  rw [List.findIdx?_cons]
  by_cases h : m = p.1
  · simp [h]
  · have : (m == p.1) = false := by simpa using h
    simp only [this, Bool.false_eq_true, if_false, if_neg h]
theorem ZbA (m : Int) (p : Int × Int) (r : List (Int × Int)) : Zbc m (p :: r) = if m = p.1 then p.2 else Zbc m r := by
  unfold Zbc
  rw [Zh3]
  by_cases h : m = p.1
  · simp [h]
  · rw [if_neg h, if_neg h]
    cases atKV m r with
    | none => rfl
    | some j => simp
theorem Zf0 (m n : Int) (p : Int × Int) (r : List (Int × Int)) : Zdi m n (p :: r) = if m = p.1 then (m, n) :: r else p :: Zdi m n r := by
  unfold Zdi
  rw [Zh3]
  by_cases h : m = p.1
  · simp [h]
  · rw [if_neg h, if_neg h]
    cases atKV m r with
    | none => rfl
    | some j => simp
theorem ZiI (m : Int) (p : Int × Int) (r : List (Int × Int)) : Ze8 m (p :: r) = if m = p.1 then r else p :: Ze8 m r := by
  unfold Ze8
  rw [Zh3]
  by_cases h : m = p.1
  · simp [h]
  · rw [if_neg h, if_neg h]
    cases atKV m r with
    | none => rfl
    | some j => simp
theorem Zeo (m n : Int) : ∀ kvs, Zbc m (Zdi m n kvs) = n
  | [] => by simp [Zdi, Zbc, atKV]
  | p :: r => by
    rw [Zf0]
    by_cases h : m = p.1
    · rw [if_pos h, ZbA, if_pos rfl]
    · rw [if_neg h, ZbA, if_neg h, Zeo m n r]
theorem Za1 {m n j : Int} (hj : j ≠ m) : ∀ kvs, Zbc j (Zdi m n kvs) = Zbc j kvs
  | [] => by
    have : (j == m) = false := by simpa using hj
    simp [Zdi, Zbc, atKV, this]
  | p :: r => by
    rw [Zf0]
    by_cases h : m = p.1
    · rw [if_pos h, ZbA, if_neg hj, ZbA, if_neg (by rw [<- h]; exact hj)]
    · rw [if_neg h, ZbA, ZbA, Za1 hj r]
theorem Zcl {m j : Int} (hj : j ≠ m) : ∀ kvs, Zbc j (Ze8 m kvs) = Zbc j kvs
  | [] => rfl
  | p :: r => by
    rw [ZiI]
    by_cases h : m = p.1
    · rw [if_pos h, ZbA, if_neg (by rw [<- h]; exact hj)]
    · rw [if_neg h, ZbA, ZbA, Zcl hj r]
theorem ZfZ (m n : Int) : ∀ kvs, (Zdi m n kvs).map (·.1) = if m ∈ kvs.map (·.1) then kvs.map (·.1) else kvs.map (·.1) ++ [m]
  | [] => rfl
  | p :: r => by
    rw [Zf0]
    by_cases h : m = p.1
    · rw [if_pos h, if_pos (by simp [h])]; simp [h]
    · rw [if_neg h, List.map_cons, ZfZ m n r]
      by_cases h2 : m ∈ r.map (·.1)
      · rw [if_pos h2, if_pos (by simp only [List.map_cons, List.mem_cons]; exact .inr h2)]; rfl
      · rw [if_neg h2, if_neg (by simp only [List.map_cons, List.mem_cons]; exact fun h3 => h3.elim h h2)]; rfl
theorem ZiH (m : Int) : ∀ kvs, (Ze8 m kvs).map (·.1) = (kvs.map (·.1)).erase m
  | [] => rfl
  | p :: r => by
    rw [ZiI, List.map_cons, List.erase_cons]
    by_cases h : m = p.1
    · rw [if_pos h, if_pos (by simp [h])]
    · rw [if_neg h, if_neg (by simpa using Ne.symm h), List.map_cons, ZiH m r]
structure Ord (C : CacheV) (kvs : List (Int × Int)) (i : Int) : Prop where
  good : C.Good
  place : ∀ (s : Nat) r, C.rows[s]? = some r -> ∀ x ∈ r, 0 <= x.1 /\ C.at_ x.1 = s
  order : ∀ (s : Nat) r, C.rows[s]? = some r -> r.Pairwise fun x y => Zbc x.1 kvs < Zbc y.1 kvs
  bound : ∀ (s : Nat) r, C.rows[s]? = some r -> ∀ x ∈ r, 0 < Zbc x.1 kvs /\ Zbc x.1 kvs <= i
  perm : (C.rows.flatMap ZaQ).Perm (kvs.map (·.1))
theorem Ord.mono {C : CacheV} {kvs : List (Int × Int)} {i j : Int} (h : Ord C kvs i) (hj : i <= j) : Ord C kvs j :=
  ⟨h.good, h.place, h.order, fun s r hr x hx => by have := h.bound s r hr x hx; omega, h.perm⟩
theorem Ord.new (s w i : Int) (hi : 0 <= i) : Ord (ZgY s w) [] i := by
  have hrow : ∀ (k : Nat) r, (ZgY s w).rows[k]? = some r -> r = [] := fun k r hr => by
    unfold ZgY at hr
    exact List.eq_of_mem_replicate (List.mem_of_getElem? hr)
  refine ⟨CacheV.new_good s w, fun k r hr => ?_, fun k r hr => ?_, fun k r hr => ?_, ?_⟩
  · rw [hrow k r hr]; simp
  · rw [hrow k r hr]; simp
  · rw [hrow k r hr]; simp
  · have : (ZgY s w).rows.flatMap ZaQ = [] := by
      rw [List.flatMap_eq_nil_iff]
      intro r hr
      have : r = [] := by unfold ZgY at hr; exact List.eq_of_mem_replicate hr
      rw [this]; rfl
    rw [this]; exact List.Perm.refl _
theorem Zf2 {C : CacheV} (h : C.Good) (k : Int) : C.rows[C.at_ k]? = some (C.row k) := by
  unfold CacheV.row
  rw [List.getD_eq_getElem?_getD, List.getElem?_eq_getElem (CacheV.at_lt h.s1 k)]
  rfl
theorem Ord.mem {C : CacheV} {kvs : List (Int × Int)} {i : Int} (h : Ord C kvs i) (k : Int) : k ∈ kvs.map (·.1) ↔ k ∈ ZaQ (C.row k) := by
  rw [<- h.perm.mem_iff, List.mem_flatMap]
  constructor
  · rintro ⟨r, hr, hk⟩
    obtain ⟨s, hs⟩ := List.getElem?_of_mem hr
    unfold ZaQ at hk
    obtain ⟨x, hx, rfl⟩ := List.mem_map.1 hk
    have := (h.place s r hs x hx).2
    have hrow := Zf2 h.good x.1
    rw [this, hs] at hrow
    cases hrow
    exact List.mem_map.2 ⟨x, hx, rfl⟩
  · intro hk
    exact ⟨_, CacheV.row_mem h.good.s1 k, hk⟩
theorem ZpS {C : CacheV} (h : C.Good) (k : Int) (r' : List (Int × Int)) : ∃ pre post, C.rows.flatMap ZaQ = pre ++ ZaQ (C.row k) ++ post /\ (C.put k r').rows.flatMap ZaQ = pre ++ ZaQ r' ++ post := by
  have hlt := CacheV.at_lt h.s1 k
  have hrow : C.rows[C.at_ k] = C.row k := by have := Zf2 h k; rw [List.getElem?_eq_getElem hlt] at this; exact Option.some.inj this
  refine ⟨(C.rows.take (C.at_ k)).flatMap ZaQ, (C.rows.drop (C.at_ k + 1)).flatMap ZaQ, ?_, ?_⟩
  · conv => lhs; rw [<- List.take_append_drop (C.at_ k) C.rows, <- List.getElem_cons_drop hlt]
    rw [List.flatMap_append, List.flatMap_cons, hrow, List.append_assoc]
  · unfold CacheV.put
    simp only
    rw [List.set_eq_take_append_cons_drop, if_pos hlt, List.flatMap_append, List.flatMap_cons, List.append_assoc]
theorem Ord.put {C : CacheV} {kvs kvs' : List (Int × Int)} {i i' k : Int} (h : Ord C kvs i) (hi : i <= i') {r' : List (Int × Int)} (hlen : (r'.length : Int) <= C.ways)
    (hpl : ∀ x ∈ r', 0 <= x.1 /\ C.at_ x.1 = C.at_ k) (hk : 0 <= k) (hne : ∀ j, j ≠ k -> Zbc j kvs' = Zbc j kvs) (hord : r'.Pairwise fun x y => Zbc x.1 kvs' < Zbc y.1 kvs') (hbd : ∀ x ∈ r', 0 < Zbc x.1 kvs' /\ Zbc x.1 kvs' <= i')
    (hperm : ∀ pre post, (pre ++ ZaQ (C.row k) ++ post).Perm (kvs.map (·.1)) -> (pre ++ ZaQ r' ++ post).Perm (kvs'.map (·.1))) : Ord (C.put k r') kvs' i' := by
  have hlt := CacheV.at_lt h.good.s1 k
  have hg : ∀ (s : Nat) r, (C.put k r').rows[s]? = some r -> (s = C.at_ k /\ r = r') ∨ (s ≠ C.at_ k /\ C.rows[s]? = some r) := fun s r hr => by
    unfold CacheV.put at hr
    simp only at hr
    by_cases hs : s = C.at_ k
    · subst hs
      rw [List.getElem?_set_self hlt] at hr
      exact .inl ⟨rfl, (Option.some.inj hr).symm⟩
    · rw [List.getElem?_set_ne (Ne.symm hs)] at hr
      exact .inr ⟨hs, hr⟩
  have hoth : ∀ (s : Nat) r, s ≠ C.at_ k -> C.rows[s]? = some r -> ∀ x ∈ r, Zbc x.1 kvs' = Zbc x.1 kvs := fun s r hs hr x hx => hne x.1 fun e => by
    have := (h.place s r hr x hx).2
    rw [e] at this
    exact hs this.symm
  refine ⟨h.good.put k hlen, fun s r hr x hx => ?_, fun s r hr => ?_, fun s r hr x hx => ?_, ?_⟩
  · rw [CacheV.put_at]
    rcases hg s r hr with ⟨rfl, rfl⟩ | ⟨hs, hr'⟩
    · exact hpl x hx
    · exact h.place s r hr' x hx
  · rcases hg s r hr with ⟨rfl, rfl⟩ | ⟨hs, hr'⟩
    · exact hord
    · refine (h.order s r hr').imp_of_mem fun {x y} hx hy hxy => ?_
      rw [hoth s r hs hr' x hx, hoth s r hs hr' y hy]
      exact hxy
  · rcases hg s r hr with ⟨rfl, rfl⟩ | ⟨hs, hr'⟩
    · exact hbd x hx
    · rw [hoth s r hs hr' x hx]
      have := h.bound s r hr' x hx
      omega
  · obtain ⟨pre, post, e1, e2⟩ := ZpS h.good k r'
    rw [e2]
    exact hperm pre post (by rw [<- e1]; exact h.perm)
theorem Zbv (a b : List (Int × Int)) : ZaQ (a ++ b) = ZaQ a ++ ZaQ b := by unfold ZaQ; simp
theorem Ord.move {C : CacheV} {kvs : List (Int × Int)} {i n k : Int} (h : Ord C kvs i) (hn : i < n) (hk : 0 <= k) {a b : List (Int × Int)} {x x' : Int × Int} (hr : C.row k = a ++ x :: b) (hx : x.1 = k) (hx' : x'.1 = k) (h0 : 0 <= i) :
    Ord (C.put k (a ++ b ++ [x'])) (Zdi k n kvs) n := by
  have hrow := Zf2 h.good k
  rw [hr] at hrow
  have hpw := h.order _ _ hrow
  have hpl := h.place _ _ hrow
  have hbd := h.bound _ _ hrow
  have hmem : k ∈ kvs.map (·.1) := (h.mem k).2 (by rw [hr, Zbv]; unfold ZaQ; simp [hx])
  have hab : ∀ y ∈ a ++ b, y ∈ a ++ x :: b /\ y.1 ≠ k := fun y hy => by
    rw [List.pairwise_append, List.pairwise_cons] at hpw
    obtain ⟨p1, ⟨p2, p3⟩, p4⟩ := hpw
    rcases List.mem_append.1 hy with hy | hy
    · refine ⟨List.mem_append.2 (.inl hy), fun e => ?_⟩
      have := p4 y hy x (by simp)
      rw [e, hx] at this; omega
    · refine ⟨List.mem_append.2 (.inr (by simp [hy])), fun e => ?_⟩
      have := p2 y hy
      rw [e, hx] at this; omega
  have hsub : (a ++ b).Sublist (a ++ x :: b) := List.Sublist.append_left (List.sublist_cons_self x b) a
  refine h.put (by omega) ?_ (fun y hy => ?_) hk (fun j hj => Za1 hj kvs) ?_ (fun y hy => ?_) fun pre post hp => ?_
  · have := CacheV.row_le h.good k
    rw [hr] at this
    simp at this ⊢; omega
  · rcases List.mem_append.1 hy with hy | hy
    · exact hpl y (hab y hy).1
    · rw [List.mem_singleton.1 hy, hx']; exact ⟨hk, rfl⟩
  · rw [List.pairwise_append]
    refine ⟨(hpw.sublist hsub).imp_of_mem fun {y z} hy hz hyz => ?_, List.pairwise_singleton _ _, fun y hy z hz => ?_⟩
    · rw [Za1 (hab y hy).2, Za1 (hab z hz).2]; exact hyz
    · rw [List.mem_singleton.1 hz, hx', Zeo, Za1 (hab y hy).2]
      have := (hbd y (hab y hy).1).2
      omega
  · rcases List.mem_append.1 hy with hy | hy
    · rw [Za1 (hab y hy).2]
      have := hbd y (hab y hy).1
      omega
    · rw [List.mem_singleton.1 hy, hx', Zeo]; omega
  · rw [ZfZ, if_pos hmem]
    refine List.Perm.trans ?_ hp
    refine List.Perm.append_right post (List.Perm.append_left pre ?_)
    rw [hr, Zbv, Zbv, Zbv]
    have e1 : ZaQ [x'] = [k] := by unfold ZaQ; simp [hx']
    have e2 : ZaQ (x :: b) = k :: ZaQ b := by unfold ZaQ; simp [hx]
    rw [e1, e2, List.append_assoc]
    exact List.Perm.append_left _ (List.perm_append_singleton k (ZaQ b))
theorem Ord.add {C : CacheV} {kvs : List (Int × Int)} {i n k v : Int} (h : Ord C kvs i) (hn : i < n) (hk : 0 <= k) (hno : ¬ 0 <= idxK k (C.row k)) (hw : ((C.row k).length : Int) < C.ways) (h0 : 0 <= i) :
    Ord (C.put k (C.row k ++ [(k, v)])) (Zdi k n kvs) n := by
  have hrow := Zf2 h.good k
  have hpw := h.order _ _ hrow
  have hpl := h.place _ _ hrow
  have hbd := h.bound _ _ hrow
  have hne : ∀ y ∈ C.row k, y.1 ≠ k := fun y hy e => by
    have := ZrM hno
    rw [List.any_eq_false] at this
    exact this y hy (by simp [ZgZ, e])
  have hmem : k ∉ kvs.map (·.1) := fun hm => by
    have := (h.mem k).1 hm
    unfold ZaQ at this
    obtain ⟨y, hy, e⟩ := List.mem_map.1 this
    exact hne y hy e
  refine h.put (by omega) (by simp; omega) (fun y hy => ?_) hk (fun j hj => Za1 hj kvs) ?_ (fun y hy => ?_) fun pre post hp => ?_
  · rcases List.mem_append.1 hy with hy | hy
    · exact hpl y hy
    · rw [List.mem_singleton.1 hy]; exact ⟨hk, rfl⟩
  · rw [List.pairwise_append]
    refine ⟨hpw.imp_of_mem fun {y z} hy hz hyz => ?_, List.pairwise_singleton _ _, fun y hy z hz => ?_⟩
    · rw [Za1 (hne y hy), Za1 (hne z hz)]; exact hyz
    · rw [List.mem_singleton.1 hz, Zeo, Za1 (hne y hy)]
      have := (hbd y hy).2
      omega
  · rcases List.mem_append.1 hy with hy | hy
    · rw [Za1 (hne y hy)]
      have := hbd y hy
      omega
    · rw [List.mem_singleton.1 hy, Zeo]; omega
  · rw [ZfZ, if_neg hmem, Zbv]
    have e1 : ZaQ [(k, v)] = [k] := rfl
    rw [e1]
    have : (pre ++ (ZaQ (C.row k) ++ [k]) ++ post).Perm (pre ++ ZaQ (C.row k) ++ post ++ [k]) := by
      simp only [List.append_assoc]
      exact List.Perm.append_left _ (List.Perm.append_left _ (List.perm_append_comm))
    exact this.trans (List.Perm.append_right [k] hp)
theorem Ord.del {C : CacheV} {kvs : List (Int × Int)} {i k : Int} (h : Ord C kvs i) (hk : 0 <= k) {a b : List (Int × Int)} {x : Int × Int} (hr : C.row k = a ++ x :: b) (hx : x.1 = k) : Ord (C.put k (a ++ b)) (Ze8 k kvs) i := by
  have hrow := Zf2 h.good k
  rw [hr] at hrow
  have hpw := h.order _ _ hrow
  have hpl := h.place _ _ hrow
  have hbd := h.bound _ _ hrow
  have hab : ∀ y ∈ a ++ b, y ∈ a ++ x :: b /\ y.1 ≠ k := fun y hy => by
    rw [List.pairwise_append, List.pairwise_cons] at hpw
    obtain ⟨p1, ⟨p2, p3⟩, p4⟩ := hpw
    rcases List.mem_append.1 hy with hy | hy
    · refine ⟨List.mem_append.2 (.inl hy), fun e => ?_⟩
      have := p4 y hy x (by simp)
      rw [e, hx] at this; omega
    · refine ⟨List.mem_append.2 (.inr (by simp [hy])), fun e => ?_⟩
      have := p2 y hy
      rw [e, hx] at this; omega
  have hsub : (a ++ b).Sublist (a ++ x :: b) := List.Sublist.append_left (List.sublist_cons_self x b) a
  refine h.put (Int.le_refl _) ?_ (fun y hy => hpl y (hab y hy).1) hk (fun j hj => Zcl hj kvs) ((hpw.sublist hsub).imp_of_mem fun {y z} hy hz hyz => by rw [Zcl (hab y hy).2, Zcl (hab z hz).2]; exact hyz) (fun y hy => ?_) fun pre post hp => ?_
  · have := CacheV.row_le h.good k
    rw [hr] at this
    simp at this ⊢; omega
  · rw [Zcl (hab y hy).2]; exact hbd y (hab y hy).1
  · rw [ZiH]
    have e2 : ZaQ (a ++ x :: b) = ZaQ a ++ k :: ZaQ b := by rw [Zbv]; unfold ZaQ; simp [hx]
    rw [hr, e2] at hp
    have h1 : (pre ++ (ZaQ a ++ k :: ZaQ b) ++ post).Perm (k :: (pre ++ ZaQ (a ++ b) ++ post)) := by
      rw [Zbv]
      simp only [List.append_assoc, List.cons_append]
      have := List.perm_middle (a := k) (l₁ := pre ++ ZaQ a) (l₂ := ZaQ b ++ post)
      simpa only [List.append_assoc] using this
    have hmem : k ∈ kvs.map (·.1) := hp.mem_iff.1 (by simp)
    have h2 := List.perm_cons_erase hmem
    exact List.Perm.cons_inv (h1.symm.trans (hp.trans h2))
theorem Ord.setC {C : CacheV} {kvs : List (Int × Int)} {i n : Int} (h : Ord C kvs i) (hn : i < n) (h0 : 0 <= i) (k v : Int) :
    if C.setR k v = 0 then Ord (C.setC k v) (Zdi k n kvs) n else Ord (C.setC k v) kvs n := by
  unfold CacheV.setR
  rcases CacheV.setC_cases C k v with e | ⟨hk, r, e, ⟨h1, rfl⟩ | ⟨h1, h2, rfl⟩⟩
  · have hm := h.mono (Int.le_of_lt hn)
    unfold CacheV.setC at e
    unfold CacheV.setC
    by_cases g0 : k < 0
    · rw [if_pos g0, if_neg (by decide), if_pos g0]; exact hm
    · rw [if_neg g0] at e
      rw [if_neg g0, if_neg g0]
      by_cases g1 : 0 <= C.idx k
      · rw [if_pos g1, if_pos rfl, if_pos g1]
        obtain ⟨a, x, b, q1, q2, q3, _⟩ := Zca g1
        have := h.move hn (by omega) q1 q2 (x' := (x.1, v)) (by simpa using q2) h0
        have e2 : ZaW (C.idx k) (ZkA (C.idx k) v (C.row k)) = a ++ b ++ [(x.1, v)] := by
          rw [q1]; unfold CacheV.idx; rw [Zf1 q3, Zci q3]
        rw [e2]; exact this
      · rw [if_neg g1] at e
        rw [if_neg g1, if_neg g1]
        by_cases g2 : C.ways <= ((C.row k).length : Int)
        · rw [if_pos g2, if_neg (by decide), if_pos g2]; exact hm
        · rw [if_neg g2, if_pos rfl, if_neg g2]
          exact h.add hn (by omega) g1 (by omega) h0
  · rw [if_neg (show ¬ k < 0 by omega), if_pos (show 0 <= C.idx k from h1), if_pos rfl, e]
    obtain ⟨a, x, b, q1, q2, q3, _⟩ := Zca h1
    have := h.move hn hk q1 q2 (x' := (x.1, v)) (by simpa using q2) h0
    have e2 : ZaW (idxK k (C.row k)) (ZkA (idxK k (C.row k)) v (C.row k)) = a ++ b ++ [(x.1, v)] := by
      generalize idxK k (C.row k) = j at *
      rw [q1, Zf1 q3, Zci q3]
    rw [e2]; exact this
  · rw [if_neg (show ¬ k < 0 by omega), if_neg (show ¬ 0 <= C.idx k from h1), if_neg (show ¬ C.ways <= ((C.row k).length : Int) by omega), if_pos rfl, e]
    exact h.add hn hk h1 h2 h0
theorem Ord.dropC {C : CacheV} {kvs : List (Int × Int)} {i : Int} (h : Ord C kvs i) (k : Int) : if C.hasB k = true then Ord (C.dropC k) (Ze8 k kvs) i else Ord (C.dropC k) kvs i := by
  unfold CacheV.dropC
  cases hb : C.hasB k with
  | false => simp only [Bool.false_eq_true, if_false]; exact h
  | true =>
    simp only [if_true]
    obtain ⟨hk, h1⟩ := CacheV.hasB_spec.1 hb
    obtain ⟨a, x, b, q1, q2, q3, _⟩ := Zca h1
    have e2 : (ZaI (C.idx k) (C.idx k + 1) (C.row k)).take ((C.row k).length - 1) = a ++ b := by
      unfold CacheV.idx
      generalize idxK k (C.row k) = j at *
      rw [q1]; exact ZgK h1 q3
    rw [e2]; exact h.del hk q1 q2
theorem Ord.touchC {C : CacheV} {kvs : List (Int × Int)} {i n : Int} (h : Ord C kvs i) (hn : i < n) (h0 : 0 <= i) (k : Int) : if C.hasB k = true then Ord (C.touchC k) (Zdi k n kvs) n else Ord (C.touchC k) kvs n := by
  unfold CacheV.touchC
  cases hb : C.hasB k with
  | false => simp only [Bool.false_eq_true, if_false]; exact h.mono (Int.le_of_lt hn)
  | true =>
    simp only [if_true]
    obtain ⟨hk, h1⟩ := CacheV.hasB_spec.1 hb
    obtain ⟨a, x, b, q1, q2, q3, _⟩ := Zca h1
    have e2 : ZaW (C.idx k) (C.row k) = a ++ b ++ [x] := by
      unfold CacheV.idx
      generalize idxK k (C.row k) = j at *
      rw [q1, Zci q3]
    rw [e2]; exact h.move hn hk q1 q2 q2 h0
end Go.Sx
namespace Go.Sx
theorem Ord.old {C : CacheV} {kvs : List (Int × Int)} {i : Int} (h : Ord C kvs i) (key : Int) {j : Nat} (hj : j < (C.oldL key).length) :
    0 < Zbc ((C.oldL key).getD j 0) kvs /\ (0 < j -> Zbc ((C.oldL key).getD (j - 1) 0) kvs < Zbc ((C.oldL key).getD j 0) kvs) := by
  unfold CacheV.oldL at *
  split at hj
  · simp at hj
  · rename_i h0
    rw [if_neg h0]
    have hrow := Zf2 h.good key
    rw [Zbu] at hj
    have hg : ∀ m, m < (C.row key).length -> (ZaQ (C.row key)).getD m 0 = ((C.row key).getD m (0, 0)).1 := fun m hm => by
      unfold ZaQ
      simp [List.getD_eq_getElem?_getD, hm]
    have hgm : ∀ m (hm : m < (C.row key).length), (C.row key).getD m (0, 0) = (C.row key)[m] := fun m hm => by simp [List.getD_eq_getElem?_getD, hm]
    rw [hg j hj, hgm j hj]
    refine ⟨(h.bound _ _ hrow _ (List.getElem_mem hj)).1, fun hp => ?_⟩
    rw [hg (j - 1) (by omega), hgm (j - 1) (by omega)]
    exact List.pairwise_iff_getElem.1 (h.order _ _ hrow) (j - 1) j (by omega) hj (by omega)
theorem Ord.count {C : CacheV} {kvs : List (Int × Int)} {i : Int} (h : Ord C kvs i) : C.keysL.length = kvs.length := by
  unfold CacheV.keysL
  rw [Zch, h.perm.length_eq, List.length_map]
end Go.Sx
