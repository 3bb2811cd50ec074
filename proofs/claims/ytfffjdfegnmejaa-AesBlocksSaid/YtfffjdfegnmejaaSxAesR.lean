/- Part of the proof: SxAesR. -/
import Derived.Test.YtfffjdfegnmejaaSxAes6
import Derived.Test.YtfffjdfegnmejaaSxAes9
set_option linter.unusedVariables false
set_option linter.unusedSimpArgs false
namespace Go.Sx
theorem Zn4 (a b : Int) : Zar .u8 a b = Zar .u8 b a := by unfold Zar; rw [BitVec.xor_comm]
theorem Zlm : ∀ n, n < 256 -> Zb1 (n : Nat) 2 = dbl (n : Nat) /\ Zb1 2 (n : Nat) = dbl (n : Nat) /\ Zb1 3 (n : Nat) = Zar .u8 (n : Nat) (dbl (n : Nat)) := by decide +kernel
theorem Zzc {x : Int} (h : 0 <= x /\ x < 256) : Zb1 x 2 = dbl x := by
  obtain ⟨n, rfl⟩ := Int.eq_ofNat_of_zero_le h.1
  exact (Zlm n (by omega)).1
theorem Zvz {x : Int} (h : 0 <= x /\ x < 256) : Zb1 2 x = dbl x := by
  obtain ⟨n, rfl⟩ := Int.eq_ofNat_of_zero_le h.1
  exact (Zlm n (by omega)).2.1
theorem Zs8 {x : Int} (h : 0 <= x /\ x < 256) : Zb1 3 x = Zar .u8 x (dbl x) := by
  obtain ⟨n, rfl⟩ := Int.eq_ofNat_of_zero_le h.1
  exact (Zlm n (by omega)).2.2
theorem Zyd {x : Int} (h : 0 <= x /\ x < 256) : bv (dbl x) = xt (bv x) := by
  obtain ⟨n, rfl⟩ := Int.eq_ofNat_of_zero_le h.1
  exact Zse n (by omega)
abbrev Ws := List (List Int)
def wd (w : Ws) (i j : Nat) : Int := (List.getD w i ([] : List Int)).getD j 0
def Zcj (w : Ws) (r : Nat) : List Int := (List.range 16).map fun i => wd w (4 * r + i / 4) (i % 4)
def Zci (w : Ws) : List Int := (List.range 176).map fun i => wd w (i / 4) (i % 4)
def ZeK (w : Ws) : Prop := w.length = 44 /\ ∀ i, i < 44 -> (List.getD w i ([] : List Int)).length = 4
def wT (w : Ws) (x : Int) (i : Nat) : List Int :=
  if i % 4 = 0 then [Zar .u8 (ZcR (wd w (i - 1) 1)) x, ZcR (wd w (i - 1) 2), ZcR (wd w (i - 1) 3), ZcR (wd w (i - 1) 0)] else List.getD w (i - 1) ([] : List Int)
def ZyH (w : Ws) (t : List Int) (i : Nat) : List Int := [Zar .u8 (wd w (i - 4) 0) (t.getD 0 0), Zar .u8 (wd w (i - 4) 1) (t.getD 1 0), Zar .u8 (wd w (i - 4) 2) (t.getD 2 0), Zar .u8 (wd w (i - 4) 3) (t.getD 3 0)]
def Zbx (key : List Int) : Nat -> Ws × Int
  | 0 => ([], 1)
  | i + 1 => if i < 4 then ((Zbx key i).1 ++ [[key.getD (4 * i) 0, key.getD (4 * i + 1) 0, key.getD (4 * i + 2) 0, key.getD (4 * i + 3) 0]], (Zbx key i).2)
    else ((Zbx key i).1 ++ [ZyH (Zbx key i).1 (wT (Zbx key i).1 (Zbx key i).2 i) i], if i % 4 = 0 then Zb1 (Zbx key i).2 2 else (Zbx key i).2)
def ZdP (key : List Int) : Ws := (Zbx key 44).1
theorem Zdh (key : List Int) : ∀ n, (Zbx key n).1.length = n /\ (∀ i, i < n -> (List.getD (Zbx key n).1 i ([] : List Int)).length = 4) /\ 0 <= (Zbx key n).2 /\ (Zbx key n).2 < 256
  | 0 => ⟨rfl, fun i hi => by omega, by unfold Zbx; omega⟩
  | n + 1 => by
    obtain ⟨h1, h2, h3⟩ := Zdh key n
    have key1 : ∀ (w : Ws) (r : List Int), w.length = n -> (∀ i, i < n -> (List.getD w i ([] : List Int)).length = 4) -> r.length = 4 -> (w ++ [r]).length = n + 1 /\ ∀ i, i < n + 1 -> (List.getD (w ++ [r]) i ([] : List Int)).length = 4 := fun w r hw hr h4 => by
      refine ⟨by simp [hw], fun i hi => ?_⟩
      rcases Nat.lt_or_ge i n with h | h
      · rw [List.getD_eq_getElem?_getD, List.getElem?_append_left (by omega), <- List.getD_eq_getElem?_getD]; exact hr i h
      · have : i = n := by omega
        subst this
        rw [List.getD_eq_getElem?_getD, List.getElem?_append_right (by omega)]; simp [hw, h4]
    unfold Zbx
    split
    · obtain ⟨q1, q2⟩ := key1 (Zbx key n).1 [key.getD (4 * n) 0, key.getD (4 * n + 1) 0, key.getD (4 * n + 2) 0, key.getD (4 * n + 3) 0] h1 h2 rfl
      exact ⟨q1, q2, h3⟩
    · obtain ⟨q1, q2⟩ := key1 (Zbx key n).1 (ZyH (Zbx key n).1 (wT (Zbx key n).1 (Zbx key n).2 n) n) h1 h2 rfl
      refine ⟨q1, q2, ?_⟩
      show 0 <= (if n % 4 = 0 then Zb1 (Zbx key n).2 2 else (Zbx key n).2) /\ (if n % 4 = 0 then Zb1 (Zbx key n).2 2 else (Zbx key n).2) < 256
      split
      · exact Ze2 _ _
      · exact h3
theorem ZtB (key : List Int) : ZeK (ZdP key) := ⟨(Zdh key 44).1, (Zdh key 44).2.1⟩
theorem ZdR (key : List Int) : ∀ n k i j, i < n -> wd (Zbx key (n + k)).1 i j = wd (Zbx key n).1 i j
  | n, 0, _, _, _ => rfl
  | n, k + 1, i, j, h => by
    rw [<- ZdR key n k i j h]
    have hl := (Zdh key (n + k)).1
    show wd (Zbx key (n + k + 1)).1 i j = _
    have hz : ∀ r : List Int, List.getD ((Zbx key (n + k)).1 ++ [r]) i ([] : List Int) = List.getD (Zbx key (n + k)).1 i [] := fun r => by
      rw [List.getD_eq_getElem?_getD, List.getElem?_append_left (by omega), <- List.getD_eq_getElem?_getD]
    unfold wd
    conv => lhs; unfold Zbx
    split <;> exact congrArg (fun l : List Int => l.getD j 0) (hz _)
theorem ZtD (w : Ws) (r : List Int) (n j : Nat) (h : w.length = n) : wd (w ++ [r]) n j = r.getD j 0 := by
  have e : List.getD (w ++ [r]) n ([] : List Int) = r := by
    rw [List.getD_eq_getElem?_getD, List.getElem?_append_right (by omega)]; simp [h]
  unfold wd
  rw [e]
theorem ZzI (key : List Int) (i j : Nat) (hi : i < 4) (hj : j < 4) : wd (Zbx key (i + 1)).1 i j = key.getD (4 * i + j) 0 := by
  rw [Zbx, if_pos hi, ZtD _ _ _ _ (Zdh key i).1]
  match j, hj with
  | 0, _ => rfl
  | 1, _ => rfl
  | 2, _ => rfl
  | 3, _ => rfl
theorem ZoC (key : List Int) (i j : Nat) (hi : 4 <= i) (hj : j < 4) : wd (Zbx key (i + 1)).1 i j = Zar .u8 (wd (Zbx key i).1 (i - 4) j) ((wT (Zbx key i).1 (Zbx key i).2 i).getD j 0) := by
  rw [Zbx, if_neg (by omega), ZtD _ _ _ _ (Zdh key i).1]
  match j, hj with
  | 0, _ => rfl
  | 1, _ => rfl
  | 2, _ => rfl
  | 3, _ => rfl
set_option maxHeartbeats 2000000 in
theorem Zi5 {key : List Int} (hk : Zaz key) : ∀ r, (∀ i, i < 16 -> wd (Zbx key (4 * r + 4)).1 (4 * r + i / 4) (i % 4) = (kAt key r).getD i 0) /\ (Zbx key (4 * r + 4)).2 = (ZdY key r).2
  | 0 => by
    refine ⟨fun i hi => ?_, rfl⟩
    have e : kAt key 0 = key := by
      have := ZlH hk (r := 0) 0
      simp only [Nat.mul_zero, List.drop_zero, ZdY] at this
      rw [<- this, List.take_of_length_le (by rw [hk.1]; exact Nat.le_refl _)]
    rw [e]
    have h4 : i / 4 < 4 := by omega
    have := ZdR key (i / 4 + 1) (4 - (i / 4 + 1)) (i / 4) (i % 4) (by omega)
    rw [show i / 4 + 1 + (4 - (i / 4 + 1)) = 4 by omega] at this
    simp only [Nat.mul_zero, Nat.zero_add]
    rw [this, ZzI key _ _ h4 (by omega), show 4 * (i / 4) + i % 4 = i by omega]
  | r + 1 => by
    obtain ⟨h1, h2⟩ := Zi5 hk r
    have hx1 : (Zbx key (4 * r + 5)).2 = Zb1 (ZdY key r).2 2 := by
      show (Zbx key (4 * r + 4 + 1)).2 = _
      rw [Zbx, if_neg (by omega)]
      show (if (4 * r + 4) % 4 = 0 then _ else _) = _
      rw [if_pos (by omega), h2]
    have hxs : ∀ j, 1 <= j -> j < 4 -> (Zbx key (4 * r + 4 + j + 1)).2 = (Zbx key (4 * r + 4 + j)).2 := fun j h h' => by
      rw [Zbx, if_neg (by omega)]
      show (if (4 * r + 4 + j) % 4 = 0 then _ else _) = _
      rw [if_neg (by omega)]
    have hx8 : (Zbx key (4 * (r + 1) + 4)).2 = Zb1 (ZdY key r).2 2 := by
      have a := hxs 1 (by omega) (by omega)
      have b := hxs 2 (by omega) (by omega)
      have c := hxs 3 (by omega) (by omega)
      rw [show 4 * (r + 1) + 4 = 4 * r + 4 + 3 + 1 by omega, c, show 4 * r + 4 + 3 = 4 * r + 4 + 2 + 1 by omega, b, show 4 * r + 4 + 2 = 4 * r + 4 + 1 + 1 by omega, a]
      exact hx1
    have hm := (Zdh key (4 * r + 4)).2.2
    have hdb : Zb1 (ZdY key r).2 2 = dbl (ZdY key r).2 := by rw [<- h2]; exact Zzc hm
    refine ⟨?_, by rw [hx8, hdb]; rfl⟩
    rw [Zzh hk]
    -- the bytes of a round, told one by one
    have g := Zw0 (kAt key r) (ZdY key r).2 16 (Nat.le_refl _)
    have hlast : ∀ j, j < 4 -> wd (Zbx key (4 * r + 4)).1 (4 * r + 3) j = (kAt key r).getD (12 + j) 0 := fun j hj => by
      have := h1 (12 + j) (by omega)
      rwa [show (12 + j) / 4 = 3 by omega, show (12 + j) % 4 = j by omega] at this
    have word : ∀ q, q < 4 -> ∀ j, j < 4 -> wd (Zbx key (4 * r + 4 + q + 1)).1 (4 * r + 4 + q) j = (kGo (kAt key r) (ZdY key r).2 16).2.getD (4 * q + j) 0 := by
      intro q
      induction q with
      | zero =>
        intro _ j hj
        rw [Nat.add_zero, ZoC key _ j (by omega) hj, (g.1 (4 * 0 + j) (by omega)), if_pos (by omega)]
        have e1 : wd (Zbx key (4 * r + 4)).1 (4 * r + 4 - 4) j = (kAt key r).getD (4 * 0 + j) 0 := by
          have := h1 j (by omega)
          rw [show j / 4 = 0 by omega, show j % 4 = j by omega] at this
          rw [show 4 * r + 4 - 4 = 4 * r + 0 by omega, this, Nat.mul_zero, Nat.zero_add]
        rw [e1, Zn4]
        congr 1
        unfold wT
        rw [if_pos (by omega), show 4 * r + 4 - 1 = 4 * r + 3 by omega, h2, hlast 1 (by omega), hlast 2 (by omega), hlast 3 (by omega), hlast 0 (by omega)]
        match j, hj with
        | 0, _ => rfl
        | 1, _ => rfl
        | 2, _ => rfl
        | 3, _ => rfl
      | succ q ih =>
        intro hq j hj
        have hprev := ih (by omega) j hj
        rw [ZoC key _ j (by omega) hj, (g.1 (4 * (q + 1) + j) (by omega)), if_neg (by omega)]
        have e1 : wd (Zbx key (4 * r + 4 + (q + 1))).1 (4 * r + 4 + (q + 1) - 4) j = (kAt key r).getD (4 * (q + 1) + j) 0 := by
          have := h1 (4 * (q + 1) + j) (by omega)
          rw [show (4 * (q + 1) + j) / 4 = q + 1 by omega, show (4 * (q + 1) + j) % 4 = j by omega] at this
          rw [show 4 * r + 4 + (q + 1) - 4 = 4 * r + (q + 1) by omega, ZdR key (4 * r + 4) (q + 1) _ j (by omega), this]
        rw [e1, Zn4]
        congr 1
        unfold wT
        rw [if_neg (by omega), show 4 * r + 4 + (q + 1) - 1 = 4 * r + 4 + q by omega]
        have := hprev
        unfold wd at this
        rw [show 4 * r + 4 + (q + 1) = 4 * r + 4 + q + 1 by omega, this, show 4 * (q + 1) + j - 4 = 4 * q + j by omega]
    intro i hi
    have := word (i / 4) (by omega) (i % 4) (by omega)
    rw [show 4 * (i / 4) + i % 4 = i by omega] at this
    rw [<- this]
    have := ZdR key (4 * r + 4 + i / 4 + 1) (3 - i / 4) (4 * r + 4 + i / 4) (i % 4) (by omega)
    rw [show 4 * r + 4 + i / 4 + 1 + (3 - i / 4) = 4 * (r + 1) + 4 by omega] at this
    rw [<- this, show 4 * (r + 1) + i / 4 = 4 * r + 4 + i / 4 by omega]
theorem ZsR {key : List Int} (hk : Zaz key) : Zci (ZdP key) = ZfP key := by
  refine (Zbs (ZlF hk).1 fun j hj => ?_).symm
  have hr : j / 16 <= 10 := by omega
  have h := (Zi5 hk (j / 16)).1 (j % 16) (by omega)
  have hs := ZdR key (4 * (j / 16) + 4) (44 - (4 * (j / 16) + 4)) (4 * (j / 16) + j % 16 / 4) (j % 16 % 4) (by omega)
  rw [show 4 * (j / 16) + 4 + (44 - (4 * (j / 16) + 4)) = 44 by omega, h] at hs
  show _ = wd (Zbx key 44).1 (j / 4) (j % 4)
  rw [show j / 4 = 4 * (j / 16) + j % 16 / 4 by omega, show j % 4 = j % 16 % 4 by omega, hs, <- ZwX hk hr]
  rw [List.getD_eq_getElem?_getD, List.getD_eq_getElem?_getD, List.getElem?_take_of_lt (by omega), List.getElem?_drop, show 16 * (j / 16) + j % 16 = j by omega]
theorem Zjm (w : Ws) {r : Nat} (hr : r <= 10) : Zcj w r = ((Zci w).drop (16 * r)).take 16 := by
  refine (Zbs (by rw [List.length_take, List.length_drop]; simp [Zci]; omega) fun j hj => ?_).symm
  rw [List.getD_eq_getElem?_getD, List.getElem?_take_of_lt (by omega), List.getElem?_drop, <- List.getD_eq_getElem?_getD]
  unfold Zci
  rw [ZcU (by omega), show (16 * r + j) / 4 = 4 * r + j / 4 by omega, show (16 * r + j) % 4 = j % 4 by omega]
def ZOe (s : List Int) (r c : Nat) : Int := Zar .u8 (Zar .u8 (Zar .u8 (Zb1 2 (s.getD (r + 4 * c) 0)) (Zb1 3 (s.getD ((r + 1) % 4 + 4 * c) 0))) (s.getD ((r + 2) % 4 + 4 * c) 0)) (s.getD ((r + 3) % 4 + 4 * c) 0)
theorem ZEo {s : List Int} (hs : Zaz s) {r c : Nat} (hr : r < 4) (hc : c < 4) : ZOe s r c = (Zf5 s).getD (r + 4 * c) 0 := by
  have b : ∀ i, 0 <= s.getD i 0 /\ s.getD i 0 < 256 := fun i => Zob hs.2 _
  unfold Zf5
  rw [ZcU (by omega)]
  unfold ZOe Ztv ZMW
  rw [show (r + 4 * c) / 4 = c by omega, show (r + 4 * c) % 4 = r by omega, Zvz (b _), Zs8 (b _)]
  apply Zot (Zc4 _ _) (Zc4 _ _)
  simp only [Zyc]
  rw [Zyd (b _), Zyd (b _), Zyd (Zc4 _ _), Zyc, ZzG]
  have b6 : ∀ a b c d e f : Bool, (((e ^^ (b ^^ f)) ^^ c) ^^ d) = (a ^^ ((((a ^^ b) ^^ c) ^^ d) ^^ (e ^^ f))) /\ (((e ^^ (b ^^ f)) ^^ c) ^^ d) = (a ^^ ((((d ^^ a) ^^ b) ^^ c) ^^ (e ^^ f))) /\
      (((e ^^ (b ^^ f)) ^^ c) ^^ d) = (a ^^ ((((c ^^ d) ^^ a) ^^ b) ^^ (e ^^ f))) /\ (((e ^^ (b ^^ f)) ^^ c) ^^ d) = (a ^^ ((((b ^^ c) ^^ d) ^^ a) ^^ (e ^^ f))) := by decide +kernel
  have fin : ∀ a b c d e f : BitVec 8, (((e ^^^ (b ^^^ f)) ^^^ c) ^^^ d) = (a ^^^ ((((a ^^^ b) ^^^ c) ^^^ d) ^^^ (e ^^^ f))) /\ (((e ^^^ (b ^^^ f)) ^^^ c) ^^^ d) = (a ^^^ ((((d ^^^ a) ^^^ b) ^^^ c) ^^^ (e ^^^ f))) /\
      (((e ^^^ (b ^^^ f)) ^^^ c) ^^^ d) = (a ^^^ ((((c ^^^ d) ^^^ a) ^^^ b) ^^^ (e ^^^ f))) /\ (((e ^^^ (b ^^^ f)) ^^^ c) ^^^ d) = (a ^^^ ((((b ^^^ c) ^^^ d) ^^^ a) ^^^ (e ^^^ f))) := fun a b c d e f => by
    refine ⟨?_, ?_, ?_, ?_⟩ <;> refine BitVec.eq_of_getLsbD_eq fun i hi => ?_ <;> simp only [BitVec.getLsbD_xor]
    · exact (b6 _ _ _ _ _ _).1
    · exact (b6 _ _ _ _ _ _).2.1
    · exact (b6 _ _ _ _ _ _).2.2.1
    · exact (b6 _ _ _ _ _ _).2.2.2
  have hcases : r = 0 ∨ r = 1 ∨ r = 2 ∨ r = 3 := by omega
  rcases hcases with rfl | rfl | rfl | rfl
  · rw [show (0 + 1) % 4 + 4 * c = 4 * c + 1 by omega, show (0 + 2) % 4 + 4 * c = 4 * c + 2 by omega, show (0 + 3) % 4 + 4 * c = 4 * c + 3 by omega, show 4 * c + (0 + 1) % 4 = 4 * c + 1 by omega, Nat.zero_add]
    exact (fin _ _ _ _ _ _).1
  · rw [show (1 + 1) % 4 + 4 * c = 4 * c + 2 by omega, show (1 + 2) % 4 + 4 * c = 4 * c + 3 by omega, show (1 + 3) % 4 + 4 * c = 4 * c by omega, show 4 * c + (1 + 1) % 4 = 4 * c + 2 by omega, show 1 + 4 * c = 4 * c + 1 by omega]
    exact (fin _ _ _ _ _ _).2.1
  · rw [show (2 + 1) % 4 + 4 * c = 4 * c + 3 by omega, show (2 + 2) % 4 + 4 * c = 4 * c by omega, show (2 + 3) % 4 + 4 * c = 4 * c + 1 by omega, show 4 * c + (2 + 1) % 4 = 4 * c + 3 by omega, show 2 + 4 * c = 4 * c + 2 by omega]
    exact (fin _ _ _ _ _ _).2.2.1
  · rw [show (3 + 1) % 4 + 4 * c = 4 * c by omega, show (3 + 2) % 4 + 4 * c = 4 * c + 1 by omega, show (3 + 3) % 4 + 4 * c = 4 * c + 2 by omega, show 4 * c + (3 + 1) % 4 = 4 * c by omega, show 3 + 4 * c = 4 * c + 3 by omega]
    exact (fin _ _ _ _ _ _).2.2.2
theorem ixw : ∀ r, r < 4 -> ∀ c, c < 4 -> IntKind.i64.wrap ((r : Nat) + IntKind.i64.wrap (4 * ((c : Nat) : Int))) = ((r + 4 * c : Nat) : Int) := by decide +kernel
theorem ixm : ∀ r, r < 4 -> ∀ c, c < 4 -> IntKind.i64.wrap ((IntKind.i64.wrap ((r : Nat) + 1)).tmod 4 + IntKind.i64.wrap (4 * ((c : Nat) : Int))) = (((r + 1) % 4 + 4 * c : Nat) : Int) /\
    IntKind.i64.wrap ((IntKind.i64.wrap ((r : Nat) + 2)).tmod 4 + IntKind.i64.wrap (4 * ((c : Nat) : Int))) = (((r + 2) % 4 + 4 * c : Nat) : Int) /\
    IntKind.i64.wrap ((IntKind.i64.wrap ((r : Nat) + 3)).tmod 4 + IntKind.i64.wrap (4 * ((c : Nat) : Int))) = (((r + 3) % 4 + 4 * c : Nat) : Int) := by decide +kernel
theorem ixs : ∀ r, r < 4 -> ∀ c, c < 4 -> IntKind.i64.wrap ((r : Nat) + IntKind.i64.wrap (4 * (IntKind.i64.wrap ((c : Nat) + (r : Nat))).tmod 4)) = ((r + 4 * ((c + r) % 4) : Nat) : Int) := by decide +kernel
theorem ixa : ∀ r, r < 11 -> ∀ i, i < 16 -> IntKind.i64.wrap (IntKind.i64.wrap (4 * ((r : Nat) : Int)) + IntKind.i64.wrap (((i : Nat) : Int).tdiv 4)) = ((4 * r + i / 4 : Nat) : Int) /\ ((i : Nat) : Int).tmod 4 = ((i % 4 : Nat) : Int) := by decide +kernel
theorem Ztz (s k : List Int) {i : Nat} (h : i < 16) : (ZdX s k).take (i + 1) = (ZdX s k).take i ++ [Zar .u8 (s.getD i 0) (k.getD i 0)] := by
  have hl : i < (ZdX s k).length := by simp [ZdX]; exact h
  rw [List.take_add_one, List.getElem?_eq_getElem hl]
  simp [ZdX]
theorem Zs1 (w : Ws) (r : Nat) {i : Nat} (h : i < 16) : (Zcj w r).getD i 0 = (List.getD w (4 * r + i / 4) ([] : List Int)).getD (i % 4) 0 := ZcU h
theorem ZFp {key : List Int} (hk : Zaz key) {n i j : Nat} (hi : i < n) (hj : j < 4) : 0 <= wd (Zbx key n).1 i j /\ wd (Zbx key n).1 i j < 256 := by
  have := ZdR key (i + 1) (n - (i + 1)) i j (by omega)
  rw [show i + 1 + (n - (i + 1)) = n by omega] at this
  rw [this]
  rcases Nat.lt_or_ge i 4 with h | h
  · rw [ZzI key i j h hj]; exact Zob hk.2 _
  · rw [ZoC key i j h hj]; exact Zc4 _ _
end Go.Sx
