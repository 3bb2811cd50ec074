/- Part of the proof: SxRow2. -/
import Derived.Test.YtinjdimejijabaaSxRow
import Derived.Test.YtinjdimejijabaaSxG
set_option linter.unusedVariables false
set_option linter.unusedSimpArgs false
namespace Go.Sx
open Go.ChangeShapes Go.WideShapes Go.ChangeAt Go.RowKit
inductive AT | int (k : IntKind) | bool | ints (k : IntKind) (n : Nat) | sl (k : IntKind) | rw (sh : List Leaf) | str
def AT.len : AT -> Nat
  | .ints _ n => n
  | _ => 1
def Znq : List AT -> Nat
  | [] => 0
  | a :: r => a.len + Znq r
def Zc4 : List Leaf -> List (Option IntKind)
  | [] => []
  | .int k :: r => some k :: Zc4 r
  | .bool :: r => none :: Zc4 r
  | .ints k n :: r => List.replicate n (some k) ++ Zc4 r
  | .hd :: r => Zc4 r
def ZHQ : List Leaf -> Bool
  | [] => true
  | .hd :: _ => false
  | _ :: r => ZHQ r
def Leaf.wf : (l : Leaf) -> l.T -> Prop
  | .int k, n => (Lit.int k n).wf = true
  | .bool, _ => True
  | .ints k n, xs => xs.length = n /\ ∀ x ∈ xs, (Lit.int k x).wf = true
  | .hd, _ => True
def Tup.wf : (sh : List Leaf) -> Tup sh -> Prop
  | [], _ => True
  | [l], x => l.wf x
  | l :: m :: r, x => l.wf x.1 /\ Tup.wf (m :: r) x.2
theorem Zgg : ∀ (sh : List Leaf) (cs : List Value), ZHQ sh = true -> Zhh (Zc4 sh) cs -> ∃ x : Tup sh, cs = ZaF sh x /\ Tup.wf sh x
  | [], cs, _, h => ⟨(), ZgN h, trivial⟩
  | .hd :: _, _, hn, _ => by cases hn
  | [.int k], cs, _, h => by
    obtain ⟨v, vs, rfl, ⟨n, rfl, hw⟩, h'⟩ := ZdW h
    obtain rfl := ZgN h'
    exact ⟨n, rfl, hw⟩
  | [.bool], cs, _, h => by
    obtain ⟨v, vs, rfl, ⟨n, rfl⟩, h'⟩ := ZdW h
    obtain rfl := ZgN h'
    exact ⟨n, rfl, trivial⟩
  | [.ints k n], cs, _, h => by
    obtain ⟨xs, vs, rfl, hx, hw, h'⟩ := Zhg (l := []) h
    obtain rfl := ZgN h'
    exact ⟨xs, by simp [ZaF, Leaf.conc], hx, hw⟩
  | .int k :: m :: r, cs, hn, h => by
    obtain ⟨v, vs, rfl, ⟨n, rfl, hw⟩, h'⟩ := ZdW h
    obtain ⟨y, rfl, hy⟩ := Zgg (m :: r) vs hn h'
    exact ⟨(n, y), rfl, hw, hy⟩
  | .bool :: m :: r, cs, hn, h => by
    obtain ⟨v, vs, rfl, ⟨n, rfl⟩, h'⟩ := ZdW h
    obtain ⟨y, rfl, hy⟩ := Zgg (m :: r) vs hn h'
    exact ⟨(n, y), rfl, trivial, hy⟩
  | .ints k n :: m :: r, cs, hn, h => by
    obtain ⟨xs, vs, rfl, hx, hw, h'⟩ := Zhg (l := Zc4 (m :: r)) h
    obtain ⟨y, rfl, hy⟩ := Zgg (m :: r) vs hn h'
    exact ⟨(xs, y), rfl, ⟨hx, hw⟩, hy⟩
section
variable {P : Program} {W : World}
def ZAE (W : World) (q : Option Addr) (len cap : Nat) (vs : List Value) : Prop :=
  len <= cap /\ cap <= maxLen /\ (q = none -> len = 0 /\ cap = 0 /\ vs = []) /\ ∀ a, q = some a -> ∀ (i : Nat) v, vs[i]? = some v -> W.cell? (a.add i) = some v
def isA (W : World) : AT -> List Value -> Prop
  | .int k, cs => ∃ n, cs = [.int k n] /\ (Lit.int k n).wf = true
  | .bool, cs => ∃ b, cs = [.bool b]
  | .ints k n, cs => ∃ xs, cs = Zav k n xs /\ xs.length = n /\ ∀ x ∈ xs, (Lit.int k x).wf = true
  | .sl k, cs => ∃ q len cap xs, cs = [.slice q len cap] /\ xs.length = len /\ ZAE W q len cap (Zav k len xs) /\ ∀ x ∈ xs, (Lit.int k x).wf = true
  | .rw sh, cs => ∃ q len cap xs, cs = [.slice q len cap] /\ xs.length = len /\ ZAE W q len cap (Zal sh len xs) /\ ∀ x ∈ xs, Tup.wf sh x
  | .str, cs => ∃ s : ByteArray, cs = [.string s] /\ s.size <= maxLen
def Zvt (W : World) : List AT -> List Value -> Prop
  | [], cs => cs = []
  | a :: r, cs => ∃ c1 c2, cs = c1 ++ c2 /\ isA W a c1 /\ Zvt W r c2
theorem Zrc : ∀ {a b : List AT} {us vs : List Value}, Zvt W a us -> Zvt W b vs -> Zvt W (a ++ b) (us ++ vs)
  | [], _, us, vs, h, h' => by
    cases h
    exact h'
  | a :: r, _, us, vs, h, h' => by
    obtain ⟨c1, c2, rfl, h1, h2⟩ := h
    exact ⟨c1, c2 ++ vs, by rw [List.append_assoc], h1, Zrc h2 h'⟩
theorem Zdz {a : AT} {cs : List Value} (h : isA W a cs) : Zvt W [a] cs := ⟨cs, [], by simp, h, rfl⟩
def Zva (f : TypeId -> Option (List AT)) : Nat -> List Field -> Option (List AT)
  | _, [] => some []
  | off, g :: r => if g.offset = off then (match f g.type with
    | some a => if Znq a = P.cellsOf g.type then (match Zva f (off + Znq a) r with
      | some b => some (a ++ b)
      | none => none) else none
    | none => none) else none
def Zb1 : List AT -> Option (List Leaf)
  | [] => some []
  | .int k :: r => (Zb1 r).map (.int k :: ·)
  | .bool :: r => (Zb1 r).map (.bool :: ·)
  | .ints k n :: r => (Zb1 r).map (.ints k n :: ·)
  | _ => none
theorem Zhs : ∀ {l : List AT} {sh : List Leaf}, Zb1 l = some sh -> ZHQ sh = true
  | [], sh, h => by simp only [Zb1, Option.some.injEq] at h; subst h; rfl
  | a :: r, sh, h => by
    cases a <;> simp only [Zb1, Option.map_eq_some_iff, reduceCtorEq] at h <;> (obtain ⟨sh', hs', rfl⟩ := h; show ZHQ sh' = true; exact Zhs hs')
def Znh (P : Program) : Nat -> TypeId -> Option (List AT)
  | 0, _ => none
  | m + 1, t => match P.underlying t with
    | some (.int k) => some [.int k]
    | some .bool => some [.bool]
    | some .string => some [.str]
    | some (.slice e) => (match P.underlying e with
      | some (.int k) => if P.cellsOf e = 1 then some [.sl k] else none
      | _ => (match Znh P m e with
        | some l => (match Zb1 l with
          | some sh => if Znq l = P.cellsOf e then some [.rw sh] else none
          | none => none)
        | none => none))
    | some (.array n e) => (match P.underlying e with
      | some (.int k) => if P.cellsOf e = 1 then some [.ints k n] else none
      | _ => none)
    | some (.struct fs) => Zva (P := P) (Znh P m) 0 fs.toList
    | _ => none
theorem ZkL {α β : Type} {f : α -> Option β} : ∀ {l : List α} {r : List β}, l.mapM f = some r -> l.length = r.length /\ ∀ (i : Nat) (x : α), l[i]? = some x -> ∃ y, r[i]? = some y /\ f x = some y
  | [], r, h => by
    simp only [List.mapM_nil, pure, Option.some.injEq] at h
    subst h
    exact ⟨rfl, fun i x hx => by simp at hx⟩
  | a :: l, r, h => by
    rw [List.mapM_cons] at h
    simp only [bind, Option.bind_eq_some_iff, pure, Option.some.injEq] at h
    obtain ⟨y, hy, ys, hys, rfl⟩ := h
    obtain ⟨h1, h2⟩ := ZkL hys
    refine ⟨by simp [h1], fun i x hx => ?_⟩
    cases i with
    | zero => simp at hx; subst hx; exact ⟨y, by simp, hy⟩
    | succ i => simp at hx; simpa using h2 i x hx
theorem Zu6 {base : Nat} {a : Addr} {n : Nat} {cs : List Value} (h : W.cells? base a n = some cs) : base <= a.block /\ cs.length = n /\ ∀ j, j < n -> W.cell? (a.add j) = cs[j]? := by
  unfold World.cells? at h
  split at h
  · rename_i hb
    obtain ⟨h1, h2⟩ := ZkL h
    rw [List.length_range] at h1
    refine ⟨hb, h1.symm, fun j hj => ?_⟩
    obtain ⟨y, hy, hy2⟩ := h2 j j (by simp [hj])
    rw [hy2, hy]
  · cases h
theorem Zfs : ∀ {l : List AT} {sh : List Leaf} {cs : List Value}, Zb1 l = some sh -> Zvt W l cs -> Zhh (Zc4 sh) cs
  | [], sh, cs, hs, h => by
    simp only [Zb1, Option.some.injEq] at hs
    subst hs
    cases h
    trivial
  | a :: r, sh, cs, hs, h => by
    obtain ⟨c1, c2, rfl, h1, h2⟩ := h
    cases a with
    | int k =>
      simp only [Zb1, Option.map_eq_some_iff] at hs
      obtain ⟨sh', hs', rfl⟩ := hs
      obtain ⟨n, rfl, hw⟩ := h1
      exact ⟨⟨n, rfl, hw⟩, Zfs hs' h2⟩
    | bool =>
      simp only [Zb1, Option.map_eq_some_iff] at hs
      obtain ⟨sh', hs', rfl⟩ := hs
      obtain ⟨n, rfl⟩ := h1
      exact ⟨⟨n, rfl⟩, Zfs hs' h2⟩
    | ints k n =>
      simp only [Zb1, Option.map_eq_some_iff] at hs
      obtain ⟨sh', hs', rfl⟩ := hs
      obtain ⟨xs, rfl, hl, hw⟩ := h1
      refine Znk ?_ (Zfs hs' h2)
      clear h2
      have key : ∀ (n : Nat) (xs : List Int), xs.length = n -> (∀ x ∈ xs, (Lit.int k x).wf = true) -> Zhh (List.replicate n (some k)) (Zav k n xs) := by
        intro n
        induction n with
        | zero => intro xs _ _; simp [Zav, Zhh]
        | succ n ih =>
          intro xs hl hw
          cases xs with
          | nil => cases hl
          | cons x xs =>
            have e : Zav k (n + 1) (x :: xs) = .int k x :: Zav k n xs := by
              unfold Zav
              rw [List.range_succ_eq_map]
              simp [List.map_map]
            rw [e, List.replicate_succ]
            exact ⟨⟨x, rfl, hw x (by simp)⟩, ih xs (by simpa using hl) fun y hy => hw y (by simp [hy])⟩
      exact key n xs hl hw
    | sl k => simp [Zb1] at hs
    | rw sh => simp [Zb1] at hs
    | str => simp [Zb1] at hs
theorem ZyQ {sh : List Leaf} {len : Nat} {xs : List (Tup sh)} {i : Nat} {v : Value} (h : (Zal sh len xs)[i]? = some v) : ∃ r j, r < len /\ j < Zah sh /\ i = r * Zah sh + j /\ (ZaF sh (xs.getD r (Tup.dflt sh)))[j]? = some v := by
  unfold Zal at h
  induction len generalizing v with
  | zero => simp at h
  | succ len ih =>
    rw [List.range_succ, List.flatMap_append] at h
    rw [List.getElem?_append] at h
    split at h
    · obtain ⟨r, j, h1, h2, h3, h4⟩ := ih h
      exact ⟨r, j, by omega, h2, h3, h4⟩
    · rename_i hlt
      rw [Za6 _ (Zah sh) (fun i => Zas sh _)] at h hlt
      simp only [List.flatMap_cons, List.flatMap_nil, List.append_nil] at h
      have hj := (List.getElem?_eq_some_iff.1 h).1
      rw [Zas] at hj
      exact ⟨len, i - len * Zah sh, by omega, hj, by omega, h⟩
variable {H : Type} {enc : TypeId × Value -> H}
theorem ZAy (a : Addr) (i j : Nat) : (a.add i).add j = a.add (i + j) := by
  unfold Addr.add
  by_cases hi : i = 0
  · subst hi; simp
  · by_cases hj : j = 0
    · subst hj; simp [hi]
    · simp [hi, hj, Nat.add_assoc]
theorem Zka {f : TypeId -> Option (List AT)} {cs : List Value} : ∀ (fs : List Field) (off : Nat) (l : List AT), Zva (P := P) f off fs = some l -> cs.length = off + Znq l ->
    (∀ x ∈ fs, ∀ a, f x.type = some a -> Znq a = P.cellsOf x.type -> Zvt W a ((cs.drop x.offset).take (P.cellsOf x.type))) -> Zvt W l (cs.drop off)
  | [], off, l, hf, hlen, _ => by
    simp only [Zva, Option.some.injEq] at hf
    subst hf
    show cs.drop off = []
    rw [List.drop_of_length_le (by simp [Znq] at hlen; omega)]
  | x :: fs, off, l, hf, hlen, h => by
    simp only [Zva] at hf
    split at hf
    · rename_i hoff
      split at hf
      · rename_i a ha
        split at hf
        · rename_i hla
          split at hf
          · rename_i b hb
            cases hf
            have hlab : Znq (a ++ b) = Znq a + Znq b := by
              clear ha hla hb hlen
              induction a with
              | nil => simp [Znq]
              | cons y a ih => simp [Znq, ih, Nat.add_assoc]
            have h1 := h x (by simp) a ha hla
            have h2 := Zka fs (off + Znq a) b hb (by omega) fun y hy => h y (by simp [hy])
            rw [hoff, <- hla] at h1
            rw [<- List.take_append_drop (Znq a) (cs.drop off), List.drop_drop]
            exact Zrc h1 h2
          · cases hf
        · cases hf
      · cases hf
    · cases hf
theorem Zqo : ∀ (m : Nat) (t : TypeId) (l : List AT), Znh P m t = some l -> Znq l = P.cellsOf t -> ∀ (fuel : Nat) (cs : List Value) (d : DataW H) (ps : List MemPlace), DataW.trod enc P W 0 (fun _ => true) true fuel t cs = some (d, ps) -> Zvt W l cs
  | 0, _, _, h, _ => by simp [Znh] at h
  | m + 1, t, l, h, hlen => by
    intro fuel cs d ps hd
    cases fuel with
    | zero => simp [DataW.trod] at hd
    | succ fuel =>
      have ih := Zqo m
      simp only [Znh] at h
      unfold DataW.trod at hd
      split at h
      · rename_i k hu
        cases h
        rw [hu] at hd
        split at hd <;> first | (simp at hd; done) | (simp_all; done) | skip
        rename_i k1 k2 n hk
        split at hd
        · rename_i hc
          cases hk
          exact Zdz ⟨n, by rw [hc.1], hc.2⟩
        · cases hd
      · rename_i hu
        cases h
        rw [hu] at hd
        split at hd <;> first | (simp at hd; done) | (simp_all; done) | skip
        exact Zdz ⟨_, rfl⟩
      · rename_i hu
        cases h
        rw [hu] at hd
        split at hd <;> first | (simp at hd; done) | (simp_all; done) | skip
        split at hd
        · rename_i hs
          exact Zdz ⟨_, rfl, hs⟩
        · cases hd
      · rename_i e hu
        rw [hu] at hd
        split at hd <;> first | (simp at hd; done) | (simp_all; done) | skip
        · -- nil
          rename_i e' hk
          split at h
          · split at h
            · cases h
              exact Zdz ⟨none, 0, 0, [], rfl, rfl, ⟨Nat.le_refl _, Nat.zero_le _, fun _ => ⟨rfl, rfl, rfl⟩, fun a ha => by cases ha⟩, fun x hx => by cases hx⟩
            · cases h
          · split at h
            · split at h
              · split at h
                · cases h
                  exact Zdz ⟨none, 0, 0, [], rfl, rfl, ⟨Nat.le_refl _, Nat.zero_le _, fun _ => ⟨rfl, rfl, rfl⟩, fun a ha => by cases ha⟩, fun x hx => by cases hx⟩
                · cases h
              · cases h
            · cases h
        · rename_i e' a len cap hk
          cases hk
          split at hd
          · rename_i hb
            simp only [Option.bind_eq_some_iff, Option.map_eq_some_iff] at hd
            obtain ⟨elems, he, rest, hr, _⟩ := hd
            obtain ⟨hl1, hget⟩ := ZkL he
            rw [List.length_range] at hl1
            have hel : ∀ i, i < len -> ∃ cs', cs'.length = P.cellsOf e /\ (∀ j, j < P.cellsOf e -> W.cell? (a.add (i * P.cellsOf e + j)) = cs'[j]?) /\ ∃ y : DataW H × List MemPlace, DataW.trod enc P W 0 (fun _ => true) true fuel e cs' = some y := fun i hi => by
              obtain ⟨y, _, hy⟩ := hget i i (by simp [hi])
              simp only [Option.bind_eq_some_iff] at hy
              obtain ⟨cs', h1, h2⟩ := hy
              obtain ⟨_, h3, h4⟩ := Zu6 h1
              exact ⟨cs', h3, fun j hj => by rw [<- h4 j hj, ZAy], y, h2⟩
            split at h
            · rename_i k hek
              split at h
              · rename_i hc1
                cases h
                have hx : ∀ i, i < len -> ∃ n, W.cell? (a.add i) = some (.int k n) /\ (Lit.int k n).wf = true := fun i hi => by
                  obtain ⟨cs', h1, h2, ⟨d', ps'⟩, h3⟩ := hel i hi
                  rw [hc1] at h1 h2
                  cases fuel with
                  | zero => simp [DataW.trod] at h3
                  | succ fuel =>
                    unfold DataW.trod at h3
                    rw [hek] at h3
                    split at h3 <;> first | (simp at h3; done) | (simp_all; done) | skip
                have hx' : ∃ xs : List Int, xs.length = len /\ ∀ i (hi : i < xs.length), W.cell? (a.add i) = some (.int k xs[i]) /\ (Lit.int k xs[i]).wf = true := by
                  clear hlen hb he hr hget hel hl1
                  induction len with
                  | zero => exact ⟨[], rfl, fun i hi => by simp at hi⟩
                  | succ len ihl =>
                    obtain ⟨xs, h1, h2⟩ := ihl fun i hi => hx i (by omega)
                    obtain ⟨n, h3, h4⟩ := hx len (by omega)
                    refine ⟨xs ++ [n], by simp [h1], fun i hi => ?_⟩
                    by_cases hil : i < xs.length
                    · rw [List.getElem_append_left hil]; exact h2 i hil
                    · have : i = len := by simp at hi; omega
                      subst this
                      rw [List.getElem_append_right (by omega)]
                      simp only [h1, Nat.sub_self, List.getElem_cons_zero]
                      exact ⟨h3, h4⟩
                obtain ⟨xs, hxl, hxs⟩ := hx'
                refine Zdz ⟨some a, len, cap, xs, rfl, hxl, ⟨hb.2.1, hb.2.2, fun h => (by cases h), fun a' ha i v hv => ?_⟩, fun x hx => ?_⟩
                · cases ha
                  have hi := (List.getElem?_eq_some_iff.1 hv).1
                  rw [Zaj] at hi
                  rw [ZaI _ _ _ _ hi] at hv
                  rw [<- hv, (hxs i (by omega)).1, List.getD_eq_getElem?_getD, List.getElem?_eq_getElem (by omega)]
                  rfl
                · obtain ⟨i, hi, rfl⟩ := List.getElem_of_mem hx
                  exact (hxs i hi).2
              · cases h
            · split at h
              · rename_i le hle
                split at h
                · rename_i sh hsh
                  split at h
                  · rename_i hlc
                    cases h
                    have hx : ∀ i, i < len -> ∃ x : Tup sh, (∀ j v, (ZaF sh x)[j]? = some v -> W.cell? (a.add (i * P.cellsOf e + j)) = some v) /\ Tup.wf sh x /\ Zah sh = P.cellsOf e := fun i hi => by
                      obtain ⟨cs', h1, h2, ⟨d', ps'⟩, h3⟩ := hel i hi
                      have hk := Zfs hsh (ih e le hle hlc fuel cs' d' ps' h3)
                      obtain ⟨x, rfl, hx⟩ := Zgg sh cs' (Zhs hsh) hk
                      rw [Zas] at h1
                      refine ⟨x, fun j v hv => ?_, hx, h1⟩
                      have hj := (List.getElem?_eq_some_iff.1 hv).1
                      rw [Zas] at hj
                      rw [h2 j (by omega), hv]
                    have hx' : ∃ xs : List (Tup sh), xs.length = len /\ ∀ i (hi : i < xs.length), (∀ j v, (ZaF sh xs[i])[j]? = some v -> W.cell? (a.add (i * P.cellsOf e + j)) = some v) /\ Tup.wf sh xs[i] /\ Zah sh = P.cellsOf e := by
                      clear hlen hb he hr hget hel hl1
                      induction len with
                      | zero => exact ⟨[], rfl, fun i hi => by simp at hi⟩
                      | succ len ihl =>
                        obtain ⟨xs, h1, h2⟩ := ihl fun i hi => hx i (by omega)
                        obtain ⟨n, h3⟩ := hx len (by omega)
                        refine ⟨xs ++ [n], by simp [h1], fun i hi => ?_⟩
                        by_cases hil : i < xs.length
                        · rw [List.getElem_append_left hil]; exact h2 i hil
                        · have : i = len := by simp at hi; omega
                          subst this
                          rw [List.getElem_append_right (by omega)]
                          simp only [h1, Nat.sub_self, List.getElem_cons_zero]
                          exact h3
                    obtain ⟨xs, hxl, hxs⟩ := hx'
                    refine Zdz ⟨some a, len, cap, xs, rfl, hxl, ⟨hb.2.1, hb.2.2, fun h => (by cases h), fun a' ha i v hv => ?_⟩, fun x hx => ?_⟩
                    · cases ha
                      obtain ⟨r, j, h1, h2, h3, h4⟩ := ZyQ hv
                      rw [List.getD_eq_getElem?_getD, List.getElem?_eq_getElem (show r < xs.length by omega)] at h4
                      have := hxs r (by omega)
                      rw [h3, this.2.2]
                      exact this.1 j v h4
                    · obtain ⟨i, hi, rfl⟩ := List.getElem_of_mem hx
                      exact (hxs i hi).2.1
                  · cases h
                · cases h
              · cases h
          · cases hd
      · rename_i n e hu
        split at h
        · rename_i k hek
          split at h
          · rename_i hc1
            cases h
            rw [hu] at hd
            simp only at hd
            split at hd
            · rename_i hcs
              simp only [Option.map_eq_some_iff] at hd
              obtain ⟨ys, hys, _⟩ := hd
              have hcn : cs.length = n := by rw [hcs, <- hlen]; rfl
              have hx : ∀ i, i < n -> ∃ z, cs[i]? = some (.int k z) /\ (Lit.int k z).wf = true := fun i hi => by
                obtain ⟨y, hy⟩ := ZkM hys i (by simp [hi])
                rw [hc1, Nat.mul_one] at hy
                have hci : (cs.drop i).take 1 = [cs[i]'(by omega)] := by
                  rw [List.drop_eq_getElem_cons (by omega)]
                  rfl
                rw [hci] at hy
                rw [List.getElem?_eq_getElem (by omega)]
                generalize cs[i]'(by omega) = c at hy
                cases fuel with
                | zero => simp [DataW.trod] at hy
                | succ fuel =>
                  unfold DataW.trod at hy
                  rw [hek] at hy
                  split at hy <;> first | (simp at hy; done) | skip
                  all_goals first | (simp_all; done) | skip
              have hx' : ∀ m, m <= n -> ∃ xs : List Int, xs.length = m /\ ∀ i (hi : i < xs.length), cs[i]? = some (.int k xs[i]) /\ (Lit.int k xs[i]).wf = true := by
                intro m
                induction m with
                | zero => exact fun _ => ⟨[], rfl, fun i hi => by simp at hi⟩
                | succ len ihl =>
                  intro hm
                  obtain ⟨xs, h1, h2⟩ := ihl (by omega)
                  obtain ⟨z, h3, h4⟩ := hx len (by omega)
                  refine ⟨xs ++ [z], by simp [h1], fun i hi => ?_⟩
                  by_cases hil : i < xs.length
                  · rw [List.getElem_append_left hil]; exact h2 i hil
                  · have : i = len := by simp at hi; omega
                    subst this
                    rw [List.getElem_append_right (by omega)]
                    simp only [h1, Nat.sub_self, List.getElem_cons_zero]
                    exact ⟨h3, h4⟩
              obtain ⟨xs, hxl, hxs⟩ := hx' n (Nat.le_refl _)
              refine Zdz ⟨xs, ?_, hxl, fun x hx => ?_⟩
              · apply List.ext_getElem?
                intro i
                by_cases hi : i < n
                · rw [(hxs i (by omega)).1, ZaI _ _ _ _ hi, List.getD_eq_getElem?_getD, List.getElem?_eq_getElem (by omega)]
                  rfl
                · rw [List.getElem?_eq_none (by omega), List.getElem?_eq_none (by rw [Zaj]; omega)]
              · obtain ⟨i, hi, rfl⟩ := List.getElem_of_mem hx
                exact (hxs i hi).2
            · cases hd
          · cases h
        · cases h
      · rename_i fs hu
        rw [hu] at hd
        simp only at hd
        split at hd
        · rename_i hcs
          simp only [Option.map_eq_some_iff] at hd
          obtain ⟨ys, hys, _⟩ := hd
          have := Zka (W := W) fs.toList 0 l h (by rw [hcs, hlen, Nat.zero_add]) fun x hx a ha hla => by
            obtain ⟨⟨d', ps'⟩, hy⟩ := ZkM hys x hx
            exact ih x.type a ha hla _ _ _ _ hy
          simpa using this
        · cases hd
      · cases h
theorem Znb {r : Reach} {b0 : Nat} {u : TypeId} {a : Addr} {l c : Nat} (h : Cell.okWide P W r b0 u (.slice (some a) l c)) : a.spot = none := by
  have h2 : Cell.ok P W r b0 u (.slice (some a) l c) := by
    unfold Cell.okWide at h
    split at h <;> first | (simp_all; done) | exact h
  unfold Cell.ok at h2
  split at h2 <;> first | (simp_all; done) | skip
  rename_i heq
  cases heq
  exact h2.2.2.2.1
theorem ZjJ {r : Reach} {b0 : Nat} {t : TypeId} {v : Value} (h : Value.okWide P W r b0 t v) {a : Addr} {l c : Nat} (hm : .slice (some a) l c ∈ v.cells.toList) : a.spot = none := by
  have row : ∀ cs, v = .agg cs -> Row.okWide P W r b0 t cs -> a.spot = none := fun cs hv hr => by
    subst hv
    obtain ⟨ts, _, _, hc⟩ := hr
    simp only [Value.cells] at hm
    obtain ⟨i, hi, he⟩ := List.getElem_of_mem hm
    obtain ⟨u, _, hu⟩ := hc i _ (Array.getElem?_eq_some_iff.2 ⟨by simpa using hi, by simpa using he⟩)
    exact Znb hu
  unfold Value.okWide at h
  split at h
  · obtain ⟨cs, hv, _, hr⟩ := h
    exact row cs hv hr
  · obtain ⟨cs, hv, _, hr⟩ := h
    exact row cs hv hr
  · have hv : v.cells.toList = [v] ∨ ∃ cs, v = .agg cs := by
      cases v <;> first | exact .inl rfl | exact .inr ⟨_, rfl⟩
    rcases hv with hv | ⟨cs, rfl⟩
    · rw [hv, List.mem_singleton] at hm
      subst hm
      exact Znb h
    · exfalso
      unfold Cell.okWide at h
      split at h <;> first | (simp_all; done) | skip
      all_goals (unfold Cell.ok at h; split at h <;> simp_all)
def EOk (W : World) (q : Option (Nat × Nat)) (cs : List Chunk) : Prop :=
  Zbl cs = true /\ (q = none -> Zam cs = 0) /\ (∀ b base, q = some (b, base) -> ∀ (i : Nat) v, (Zai ρ0 cs)[i]? = some v -> W.cell? ⟨b, base + i, none⟩ = some v) /\ ZbR cs = none
theorem ZvJ {q : Option Addr} {len cap : Nat} {vs : List Value} (h : ZAE W q len cap vs) (hs : ∀ a, q = some a -> a.spot = none) : ∃ p : Option (Nat × Nat), q = p.map (fun p => ⟨p.1, p.2, none⟩) /\ (p = none -> len = 0 /\ cap = 0) /\ len <= cap /\ cap <= maxLen /\ (p = none -> vs = []) /\
    ∀ b base, p = some (b, base) -> ∀ (i : Nat) v, vs[i]? = some v -> W.cell? ⟨b, base + i, none⟩ = some v := by
  obtain ⟨h1, h2, h3, h4⟩ := h
  cases q with
  | none => exact ⟨none, rfl, fun _ => ⟨(h3 rfl).1, (h3 rfl).2.1⟩, h1, h2, fun _ => (h3 rfl).2.2, fun b base h => (by cases h)⟩
  | some a =>
    obtain ⟨b, off, spot⟩ := a
    have := hs _ rfl
    simp only at this
    subst this
    refine ⟨some (b, off), rfl, fun h => (by cases h), h1, h2, fun h => (by cases h), fun b' base h i v hv => ?_⟩
    cases h
    have := h4 _ rfl i v hv
    rwa [ZbZ] at this
theorem ZvI {p : Option (Nat × Nat)} {sh : List Leaf} {len : Nat} {xs : List (Tup sh)} (h0 : p = none -> len = 0) (h : ∀ b base, p = some (b, base) -> ∀ (i : Nat) v, (Zal sh len xs)[i]? = some v -> W.cell? ⟨b, base + i, none⟩ = some v) : EOk W p [.rows sh len xs] :=
  ⟨rfl, fun hp => by simp [Zam, Chunk.len, h0 hp], fun b base hb i v hv => h b base hb i v (by simpa [Zai, Chunk.conc] using hv), ZuH _⟩
def ZnM (es : List (Option (Nat × Nat) × List Chunk)) : Rho := fun i => match es[i]? with
  | some e => e.1
  | none => none
def Zi0 : Nat -> List (Option (Nat × Nat) × List Chunk) -> List (Nat × Option Ent)
  | _, [] => []
  | i, p :: r => (i, some ⟨false, p.2, 0⟩) :: Zi0 (i + 1) r
theorem ZiZ : ∀ (es : List (Option (Nat × Nat) × List Chunk)) (k id : Nat) (en : Ent), Zc7 (Zi0 k es) id = some en -> k <= id /\ ∃ e, es[id - k]? = some e /\ en = ⟨false, e.2, 0⟩
  | [], _, _, _, h => by cases h
  | e :: r, k, id, en, h => by
    simp only [Zi0] at h
    rw [ZaH] at h
    split at h
    · rename_i hk
      subst hk
      cases h
      exact ⟨Nat.le_refl _, e, by simp, rfl⟩
    · obtain ⟨h1, e', h2, h3⟩ := ZiZ r (k + 1) id en h
      exact ⟨by omega, e', by rw [show id - k = id - (k + 1) + 1 by omega]; simpa using h2, h3⟩
theorem Zrp {f : FuncId} {S : Sx.ZrR} {args : List SVal} (es : List (Option (Nat × Nat) × List Chunk)) (hS : Sound P f S) (hs : S args ⟨es.length, Zi0 0 es⟩ fun r _ => r = .bool true) (he : ∀ e ∈ es, EOk W e.1 e.2) (hok : okL (ZnM es) es.length args) :
    Calls P f (ZaJ (ZnM es) args).toArray W fun e W' => e = .returned (.bool true) /\ Below W.heap.size W W' := by
  have hf : ∀ id en, (⟨es.length, Zi0 0 es⟩ : Sx.Heap).find id = some en -> ∃ e, es[id]? = some e /\ en = ⟨false, e.2, 0⟩ := fun id en h => by
    obtain ⟨_, e, h1, h2⟩ := ZiZ es 0 id en h
    exact ⟨e, by simpa using h1, h2⟩
  refine Zts hS hs (fun id en h => by obtain ⟨e, _, rfl⟩ := hf id en h; rfl) (Zwv (fun id en h => ?_) fun id en h => by obtain ⟨e, h1, rfl⟩ := hf id en h; exact (he e (List.mem_of_getElem? h1)).2.2.2) hok
  obtain ⟨e, h1, rfl⟩ := hf id en h
  have hE := he e (List.mem_of_getElem? h1)
  have hlt := (List.getElem?_eq_some_iff.1 h1).1
  have hr : ZnM es id = e.1 := by unfold ZnM; rw [h1]
  have hpl := ZbP (ρ := ZnM es) (n := es.length) hE.1
  refine ⟨hlt, rfl, rfl, hpl.1, fun hn => hE.2.1 (by rw [<- hr]; exact hn), fun b base hb i v hv => hE.2.2.1 b base (by rw [<- hr]; exact hb) i v (by rw [<- hpl.2]; exact hv)⟩
theorem Zra {t : TypeId} {v : Value} {d : DataW H} {ps : List MemPlace} {m : Nat} {l : List AT} (hk : Znh P m t = some l) (hl : Znq l = P.cellsOf t) (hd : DataW.Trod enc P W 0 (fun _ => true) true t v d ps) : Zvt W l v.cells.toList := by
  obtain ⟨fuel, hf⟩ := hd
  exact Zqo m t l hk hl fuel _ _ _ hf
theorem Zwk {t : TypeId} {v : Value} {b0 : Nat} (ha : ZAS P t = true) (hval : Value.okWide P W .any b0 t v) : ∃ cs : List Value, v = .agg cs.toArray /\ v.cells.toList = cs := by
  unfold ZAS at ha
  unfold Value.okWide at hval
  split at ha
  · rename_i hu; rw [hu] at hval; obtain ⟨cs, rfl, _⟩ := hval; exact ⟨cs.toList, by simp, rfl⟩
  · rename_i hu; rw [hu] at hval; obtain ⟨cs, rfl, _⟩ := hval; exact ⟨cs.toList, by simp, rfl⟩
  · cases ha
theorem ZvM {t : TypeId} {v : Value} {b0 : Nat} (ha : ZAS P t = false) (hval : Value.okWide P W .any b0 t v) : v.cells.toList = [v] := by
  cases v with
  | agg cs =>
    exfalso
    unfold ZAS at ha
    unfold Value.okWide at hval
    split at ha
    · cases ha
    · cases ha
    · rename_i h1 h2
      split at hval
      · rename_i hu; exact h1 _ hu
      · rename_i hu; exact h2 _ _ hu
      · unfold Cell.okWide at hval
        split at hval <;> first | (simp_all; done) | skip
        all_goals (unfold Cell.ok at hval; split at hval <;> simp_all)
  | _ => rfl
end
end Go.Sx
