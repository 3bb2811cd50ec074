/- Part of the proof: SxOpnW. -/
import Derived.Test.YtinjdimejijabaaSxOpnM
import Derived.Test.YtinjdimejijabaaSxWaysV
set_option linter.unusedVariables false
set_option linter.unusedSimpArgs false
set_option maxRecDepth 20000
namespace Go.Proofs.Ytinjdimejijabaa
open Go.Sx
section
variable {w : World} {b bs : Nat × Nat} {C : CacheV} {B : Nat -> Prop} {hs : List Hdr} {s : Nat} {r : List (Int × Int)}
theorem ZvG (hr : C.rows[s]? = some r) : (⟨C.ways, C.rows.set s (List.take r.length r)⟩ : CacheV) = C := by
  obtain ⟨_, rfl⟩ := List.getElem?_eq_some_iff.1 hr
  rw [List.take_length, List.set_getElem_self]
theorem Zrx (h : CacheAtH w b C B bs hs) (hg : C.Good) {key : Int} (hk : I64 key) : ∃ s hd r, hs[s]? = some hd /\ C.rows[s]? = some r /\ (0 <= key -> s = C.at_ key /\ r = C.row key) /\ r.length <= hd.2.2 /\
    ((List.length r = r.length /\ r.length <= hd.2.2 /\ r.length <= 1000) /\ hs.length = s + 1 + (hs.length - s - 1) /\ hs.length <= 64 /\ hs.length <= hs.length /\ I64 key /\ (0 <= key -> Int.toNat (Int.tmod key (hs.length : Int)) = s)) /\ (r.length : Int) <= C.ways := by
  have hs1 := hg.s1
  have hs2 := hg.s2
  have hl := h.len
  have hat : C.at_ key < C.rows.length := by
    unfold CacheV.at_
    have : Int.tmod key (C.rows.length : Int) < (C.rows.length : Int) := Int.tmod_lt_of_pos _ (by omega)
    omega
  obtain ⟨s, hs', hss⟩ : ∃ s, s < C.rows.length /\ (0 <= key -> s = C.at_ key) := by
    by_cases h0 : 0 <= key
    · exact ⟨C.at_ key, hat, fun _ => rfl⟩
    · exact ⟨0, hs1, fun h => absurd h h0⟩
  have hr : C.rows[s]? = some C.rows[s] := List.getElem?_eq_getElem hs'
  have hh : hs[s]? = some (hs[s]'(by omega)) := List.getElem?_eq_getElem (by omega)
  have hrow := h.rowAt hh hr
  have hle : (C.rows[s]).length <= (hs[s]'(by omega)).2.2 := by
    rcases hrow with ⟨h1, h2⟩ | ⟨x, o, c, h1, h2, _⟩
    · rw [h1, h2]; exact Nat.le_refl _
    · rw [h1]; exact h2
  have hw := hg.len _ (List.getElem_mem hs')
  have hw2 := hg.w2
  refine ⟨s, _, _, hh, hr, fun h0 => ⟨hss h0, ?_⟩, hle, ⟨⟨rfl, hle, by omega⟩, by omega, by omega, Nat.le_refl _, hk, fun h0 => ?_⟩, hw⟩
  · unfold CacheV.row
    rw [<- hss h0, List.getD_eq_getElem?_getD, hr]; rfl
  · rw [hss h0, hl]; rfl
theorem OutC.same {c : Nat} {H' : Heap} (hr : C.rows[s]? = some r) (hc : r.length <= c) (h0 : H'.find 0 = (opn C.ways hs s r c).find 0) (h1 : H'.find 1 = (opn C.ways hs s r c).find 1) (h2 : H'.find 2 = (opn C.ways hs s r c).find 2) : OutC C hs s C H' :=
  ⟨0, r.length, c, r.length, (c - r.length) * 2, r, h1, h2, h0, .inl rfl, Nat.le_refl _, by omega, Nat.le_refl _, (ZvG hr).symm⟩
theorem OutC.row0 {c n' : Nat} {H' : Heap} {ys : List (Tup Zaa)} (hc : r.length <= c) (hn : n' <= r.length) (hy : ys.length = r.length) (h0 : H'.find 0 = some ⟨true, [.rows Zaa r.length ys], (c - r.length) * 2⟩)
    (h1 : H'.find 1 = some ⟨true, [.rows Zab s (hs.take s), .one (.slice ⟨0, 0, 0, 2⟩ n' c), .rows Zab (hs.length - s - 1) (hs.drop (s + 1))], 0⟩) (h2 : H'.find 2 = (opn C.ways hs s r c).find 2) : OutC C hs s ⟨C.ways, C.rows.set s (ys.take n')⟩ H' :=
  ⟨0, n', c, r.length, (c - r.length) * 2, ys, h1, h2, h0, .inl rfl, hn, by omega, by omega, rfl⟩
theorem ZHq (h : CacheAt w b C B) (hg : C.Good) {key : Int} (hk : I64 key) : Calls Try.prog 18 #[.pointer (some ⟨b.1, b.2, none⟩), .int .i64 key] w (ZeD B w b (.bool (C.roomB key)) C) := by
  obtain ⟨bs, hs, h⟩ := h
  obtain ⟨s, hd, r, h1, h2, h3, h4, h5, h6⟩ := Zrx h hg hk
  refine Zju (args := [.int .i64 key]) ZBe h h1 h2 ⟨trivial, trivial⟩ (r0 := .bool (C.roomB key)) (fun ρ => rfl) (ZkX rfl ⟨rfl, rfl, h5, hg.w1, hg.w2⟩ ?_)
  show _ /\ _
  refine ⟨?_, OutC.same h2 h4 rfl rfl rfl⟩
  unfold CacheV.roomB CacheV.idx
  by_cases h0 : 0 <= key
  · rw [<- (h3 h0).2]
  · rw [decide_eq_false h0]; rfl
theorem ZIE (h : CacheAt w b C B) (hg : C.Good) {key : Int} (hk : I64 key) : Calls Try.prog 22 #[.pointer (some ⟨b.1, b.2, none⟩), .int .i64 key] w (ZeD B w b (.tuple #[.int .i64 (C.getA key), .bool (C.hasB key)]) C) := by
  obtain ⟨bs, hs, h⟩ := h
  obtain ⟨s, hd, r, h1, h2, h3, h4, h5, h6⟩ := Zrx h hg hk
  refine Zju (args := [.int .i64 key]) ZIo h h1 h2 ⟨trivial, trivial⟩ (r0 := .tuple [.int .i64 (C.getA key), .bool (C.hasB key)]) (fun ρ => rfl) (ZkX rfl ⟨rfl, rfl, h5, hg.w1, hg.w2⟩ ?_)
  refine ⟨fun hq => ⟨?_, OutC.same h2 h4 rfl rfl rfl⟩, fun hq => ⟨?_, OutC.same h2 h4 rfl rfl rfl⟩⟩
  · have : C.hasB key = false := by
      unfold CacheV.hasB CacheV.idx
      by_cases h0 : 0 <= key
      · rw [<- (h3 h0).2]
        simp only [Bool.or_eq_true, decide_eq_true_eq] at hq
        rw [decide_eq_false (show ¬ 0 <= idxK key r by omega), Bool.and_false]
      · rw [decide_eq_false h0]; rfl
    unfold CacheV.getA
    rw [this]; rfl
  · simp only [Bool.or_eq_false_iff, decide_eq_false_iff_not] at hq
    have h0 : 0 <= key := by omega
    have : C.hasB key = true := by
      unfold CacheV.hasB CacheV.idx
      rw [<- (h3 h0).2, decide_eq_true h0, decide_eq_true (by omega)]; rfl
    unfold CacheV.getA CacheV.idx
    rw [this, <- (h3 h0).2]; rfl
theorem ZkV {key : Int} (h0 : 0 <= key) (hr : r = C.row key) : C.hasB key = decide (0 <= idxK key r) := by
  unfold CacheV.hasB CacheV.idx
  rw [<- hr, decide_eq_true h0]; rfl
theorem ZqD {key : Int} (h0 : ¬ 0 <= key) : C.hasB key = false := by
  unfold CacheV.hasB
  rw [decide_eq_false h0]; rfl
theorem ZHs (h : CacheAt w b C B) (hg : C.Good) {key : Int} (hk : I64 key) : Calls Try.prog 19 #[.pointer (some ⟨b.1, b.2, none⟩), .int .i64 key] w (ZeD B w b (.bool (C.hasB key)) (C.dropC key)) := by
  obtain ⟨bs, hs, h⟩ := h
  obtain ⟨s, hd, r, h1, h2, h3, h4, h5, h6⟩ := Zrx h hg hk
  refine Zju (args := [.int .i64 key]) ZBg h h1 h2 ⟨trivial, trivial⟩ (r0 := .bool (C.hasB key)) (fun ρ => rfl) (ZkX rfl ⟨rfl, rfl, h5, hg.w1, hg.w2⟩ ?_)
  refine ⟨fun hq => ?_, fun hq => ?_⟩
  · have : C.hasB key = false := by
      by_cases h0 : 0 <= key
      · rw [ZkV h0 (h3 h0).2]
        simp only [Bool.or_eq_true, decide_eq_true_eq] at hq
        exact decide_eq_false (by omega)
      · exact ZqD h0
    unfold CacheV.dropC
    rw [this]
    exact ⟨rfl, OutC.same h2 h4 rfl rfl rfl⟩
  · simp only [Bool.or_eq_false_iff, decide_eq_false_iff_not] at hq
    have h0 : 0 <= key := by omega
    have hb : C.hasB key = true := by rw [ZkV h0 (h3 h0).2]; exact decide_eq_true (by omega)
    have hi := idxK_lt (k := key) (xs := r)
    unfold CacheV.dropC CacheV.put CacheV.idx
    rw [hb, <- (h3 h0).1, <- (h3 h0).2]
    exact ⟨rfl, OutC.row0 h4 (by omega) (Zei (by omega) (by omega) (by omega)) rfl rfl rfl⟩
theorem ZAx (h : CacheAt w b C B) (hg : C.Good) {key : Int} (hk : I64 key) : Calls Try.prog 20 #[.pointer (some ⟨b.1, b.2, none⟩), .int .i64 key] w (ZeD B w b (.bool (C.hasB key)) (C.touchC key)) := by
  obtain ⟨bs, hs, h⟩ := h
  obtain ⟨s, hd, r, h1, h2, h3, h4, h5, h6⟩ := Zrx h hg hk
  refine Zju (args := [.int .i64 key]) ZwZ h h1 h2 ⟨trivial, trivial⟩ (r0 := .bool (C.hasB key)) (fun ρ => rfl) (ZkX rfl ⟨rfl, rfl, h5, hg.w1, hg.w2⟩ ?_)
  refine ⟨fun hq => ?_, fun hq => ?_⟩
  · have : C.hasB key = false := by
      by_cases h0 : 0 <= key
      · rw [ZkV h0 (h3 h0).2]
        simp only [Bool.or_eq_true, decide_eq_true_eq] at hq
        exact decide_eq_false (by omega)
      · exact ZqD h0
    unfold CacheV.touchC
    rw [this]
    exact ⟨rfl, OutC.same h2 h4 rfl rfl rfl⟩
  · simp only [Bool.or_eq_false_iff, decide_eq_false_iff_not] at hq
    have h0 : 0 <= key := by omega
    have hb : C.hasB key = true := by rw [ZkV h0 (h3 h0).2]; exact decide_eq_true (by omega)
    have hi := idxK_lt (k := key) (xs := r)
    have hml := ZcU (i := idxK key r) (xs := r) (by omega) (by omega)
    unfold CacheV.touchC CacheV.put CacheV.idx
    rw [hb, <- (h3 h0).1, <- (h3 h0).2]
    have := OutC.row0 (C := C) (hs := hs) (s := s) (n' := r.length) (H' := ⟨3, [(0, some ⟨true, [.rows Zaa r.length (ZaY (idxK key r) r)], ((hd.2.2 - r.length) * 2)⟩), (1, some ⟨true, [.rows Zab s (hs.take s), .one (.slice ⟨0, 0, 0, 2⟩ r.length hd.2.2), .rows Zab (hs.length - s - 1) (hs.drop (s + 1))], 0⟩), (2, some ⟨true, [.one (.int .i64 C.ways), .one (.slice ⟨1, 0, 0, 1⟩ hs.length hs.length)], 0⟩)]⟩) h4 (Nat.le_refl _) hml rfl rfl rfl
    rw [List.take_of_length_le (Nat.le_of_eq hml)] at this
    exact ⟨rfl, this⟩
theorem Zis {i v : Int} {xs : List (Tup Zaa)} : (ZnL i v xs).length = xs.length := by unfold ZnL; exact List.length_set
theorem ZIB (h : CacheAt w b C B) (hg : C.Good) {key v : Int} (hk : I64 key) : Calls Try.prog 17 #[.pointer (some ⟨b.1, b.2, none⟩), .int .i64 key, .int .i64 v] w (ZeD B w b (.int .i64 (C.setR key v)) (C.setC key v)) := by
  obtain ⟨bs, hs, h⟩ := h
  obtain ⟨s, hd, r, h1, h2, h3, h4, h5, h6⟩ := Zrx h hg hk
  refine Zju (args := [.int .i64 key, .int .i64 v]) ZIk h h1 h2 ⟨trivial, trivial, trivial⟩ (r0 := .int .i64 (C.setR key v)) (fun ρ => rfl) (ZkX rfl ⟨rfl, rfl, h5, hg.w1, hg.w2⟩ ?_)
  refine ⟨fun hq => ?_, fun hq => ⟨fun hi => ?_, fun hi => ⟨fun hw => ?_, fun hw cap0 hcap => ?_⟩⟩⟩
  · have h0 := of_decide_eq_true hq
    unfold CacheV.setR CacheV.setC
    rw [if_pos h0, if_pos h0]
    exact ⟨rfl, OutC.same h2 h4 rfl rfl rfl⟩
  · have h0 := of_decide_eq_false hq
    have hi := of_decide_eq_true hi
    have hi2 := idxK_lt (k := key) (xs := r)
    have hml := ZcU (i := idxK key r) (xs := ZnL (idxK key r) v r) (by omega) (by rw [Zis]; omega)
    rw [Zis] at hml
    unfold CacheV.setR CacheV.setC CacheV.put CacheV.idx
    rw [<- (h3 (by omega)).1, <- (h3 (by omega)).2, if_neg h0, if_neg h0, if_pos hi, if_pos hi]
    have := OutC.row0 (C := C) (hs := hs) (s := s) (n' := r.length) (H' := ⟨3, [(0, some ⟨true, [.rows Zaa r.length (ZaY (idxK key r) (ZnL (idxK key r) v r))], ((hd.2.2 - r.length) * 2)⟩), (1, some ⟨true, [.rows Zab s (hs.take s), .one (.slice ⟨0, 0, 0, 2⟩ r.length hd.2.2), .rows Zab (hs.length - s - 1) (hs.drop (s + 1))], 0⟩), (2, some ⟨true, [.one (.int .i64 C.ways), .one (.slice ⟨1, 0, 0, 1⟩ hs.length hs.length)], 0⟩)]⟩) h4 (Nat.le_refl _) hml rfl rfl rfl
    rw [List.take_of_length_le (Nat.le_of_eq hml)] at this
    exact ⟨rfl, this⟩
  · have h0 := of_decide_eq_false hq
    have hi := of_decide_eq_false hi
    have hw := of_decide_eq_true hw
    unfold CacheV.setR CacheV.setC CacheV.idx
    rw [<- (h3 (by omega)).2, if_neg h0, if_neg h0, if_neg hi, if_neg hi, if_pos hw, if_pos hw]
    exact ⟨rfl, OutC.same h2 h4 rfl rfl rfl⟩
  · have h0 := of_decide_eq_false hq
    have hi := of_decide_eq_false hi
    have hw := of_decide_eq_false hw
    unfold CacheV.setR CacheV.setC CacheV.put CacheV.idx
    rw [<- (h3 (by omega)).1, <- (h3 (by omega)).2, if_neg h0, if_neg h0, if_neg hi, if_neg hi, if_neg hw, if_neg hw]
    refine ⟨rfl, 3, r.length + 1, cap0, r.length + 1, (cap0 - (r.length + 1)) * 2, r ++ [(key, v)], rfl, rfl, rfl, .inr ⟨Nat.le_refl _, by omega⟩, Nat.le_refl _, by omega, by simp, ?_⟩
    rw [List.take_of_length_le (by simp)]
theorem ZIC (h : CacheAt w b C B) (hg : C.Good) {key : Int} (hk : I64 key) : Calls Try.prog 21 #[.pointer (some ⟨b.1, b.2, none⟩), .int .i64 key] w (Zii B w b (C.oldL key) C) := by
  obtain ⟨bs, hs, h⟩ := h
  obtain ⟨s, hd, r, h1, h2, h3, h4, h5, h6⟩ := Zrx h hg hk
  refine Zwl (args := [.int .i64 key]) ZIl h h1 h2 ⟨trivial, trivial⟩ (ZkX rfl ⟨rfl, rfl, h5, hg.w1, hg.w2⟩ ?_)
  refine ⟨fun hq => ⟨fun i hi => ?_, .inl ⟨rfl, ?_⟩⟩, fun hq cap0 hcap => ⟨fun i hi => ?_, .inr ?_⟩⟩
  · obtain rfl | rfl | rfl : i = 0 ∨ i = 1 ∨ i = 2 := by omega
    all_goals rfl
  · unfold CacheV.oldL; rw [if_pos (of_decide_eq_true hq)]
  · obtain rfl | rfl | rfl : i = 0 ∨ i = 1 ∨ i = 2 := by omega
    all_goals rfl
  · have h0 := of_decide_eq_false hq
    have he : C.oldL key = Za1 r := by unfold CacheV.oldL; rw [if_neg h0, (h3 (by omega)).2]
    have hl : (Za1 r).length = r.length := by unfold Za1; simp
    rw [he, hl]
    exact ⟨cap0, hcap, rfl, rfl⟩
end
end Go.Proofs.Ytinjdimejijabaa
