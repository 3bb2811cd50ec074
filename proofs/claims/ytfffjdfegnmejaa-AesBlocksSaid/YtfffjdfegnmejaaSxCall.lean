/- Part of the proof: SxCall. -/
import Derived.Test.YtfffjdfegnmejaaSxSound
set_option linter.unusedVariables false
set_option linter.unusedSimpArgs false
namespace Go.Sx
abbrev ZcO := List (Part × Ent)
abbrev Ext (α : Type) := α -> ZcO -> (α -> ZcO -> Prop) -> Prop
def ZjQ (f : Ext SVal) : List Chunk -> ZcO -> (List Chunk -> ZcO -> Prop) -> Prop
  | [], ps, K => K [] ps
  | .one v :: r, ps, K => f v ps fun v' ps' => ZjQ f r ps' fun r' ps'' => K (.one v' :: r') ps''
  | .ints k n xs :: r, ps, K => ZjQ f r ps fun r' ps' => K (.ints k n xs :: r') ps'
  | .rows sh n xs :: r, ps, K => ZjQ f r ps fun r' ps' => K (.rows sh n xs :: r') ps'
def ZEZ (f : Ext SVal) : List SVal -> ZcO -> (List SVal -> ZcO -> Prop) -> Prop
  | [], ps, K => K [] ps
  | v :: r, ps, K => f v ps fun v' ps' => ZEZ f r ps' fun r' ps'' => K (v' :: r') ps''
def ZkD (sz : Nat) (K : List Chunk -> Prop) : List Chunk -> Nat -> Prop
  | cs, 0 => Zln K cs sz
  | [], _ + 1 => False
  | c :: r, off + 1 => bif Nat.ble c.len (off + 1) then ZkD sz K r (off + 1 - c.len) else False
def Zze : List Nat -> Nat -> Bool
  | [], _ => false
  | a :: r, n => bif Nat.beq a n then true else Zze r n
def ZuM (w : Bool) (a : SAddr) (len : Nat) (K : Chunk -> Prop) (L : Prop) : List Chunk -> Prop
  | [.rows sh n xs] => bif Nat.beq a.off 0 && Nat.beq a.idx 0 && Nat.beq a.st (Zaj sh) then (bif w then n = len /\ K (.rows sh n xs) else len <= n /\ K (.rows sh len (xs.take len))) else False
  | _ => L
theorem ZkV {α β : Type} {f g : α -> List β} : ∀ {l : List α}, (∀ x ∈ l, f x = g x) -> l.flatMap f = l.flatMap g
  | [], _ => rfl
  | a :: r, h => by rw [List.flatMap_cons, List.flatMap_cons, h a (List.mem_cons_self ..), ZkV fun x hx => h x (List.mem_cons_of_mem _ hx)]
theorem Zlt (sh : List Leaf) {len n : Nat} (xs : List (Tup sh)) (h : len <= n) : Zal sh len (xs.take len) = (Zal sh n xs).take (len * Zaj sh) := by
  have e : Zal sh len (xs.take len) = Zal sh len xs := by
    unfold Zal
    apply ZkV
    intro i hi
    have hi := List.mem_range.1 hi
    rw [List.getD_eq_getElem?_getD, List.getElem?_take_of_lt hi, <- List.getD_eq_getElem?_getD]
  obtain ⟨k, rfl⟩ : ∃ k, n = len + k := ⟨n - len, by omega⟩
  rw [e]
  conv => rhs; rw [Zal, List.range_add, List.flatMap_append]
  rw [List.take_left' (by exact Zag sh len xs)]
  rfl
theorem rowsAt_inv {w : Bool} {a : SAddr} {len : Nat} {K : Chunk -> Prop} {L : Prop} {cs : List Chunk} (h : ZuM w a len K L cs) :
    (∃ sh n xs zs, cs = [.rows sh n xs] /\ a.off = 0 /\ a.idx = 0 /\ a.st = Zaj sh /\ K (.rows sh len zs) /\ len <= n /\ Zal sh len zs = (Zal sh n xs).take (len * Zaj sh)) ∨ L := by
  unfold ZuM at h
  split at h
  · rename_i sh n xs
    obtain ⟨h0, h⟩ := Zai h
    rw [Bool.and_eq_true, Bool.and_eq_true] at h0
    cases w with
    | true =>
      obtain ⟨h1, h2⟩ := h
      subst h1
      exact .inl ⟨sh, _, xs, xs, rfl, Zaq h0.1.1, Zaq h0.1.2, Zaq h0.2, h2, Nat.le_refl _, by rw [List.take_of_length_le (by rw [Zag]; exact Nat.le_refl _)]⟩
    | false =>
      obtain ⟨h1, h2⟩ := h
      exact .inl ⟨sh, n, xs, _, rfl, Zaq h0.1.1, Zaq h0.1.2, Zaq h0.2, h2, h1, Zlt sh xs h1⟩
  · exact .inr h
def Zxy (a : SAddr) (len : Nat) (en : Ent) (K : List Chunk -> Prop) : Prop := bif en.wr && Nat.beq a.off 0 && Nat.beq a.idx 0 then (match en.cs with
  | [.rows sh n xs] => bif Nat.beq a.st (Zaj sh) then n = len /\ K [.rows sh n xs] else False
  | [.ints k n xs] => bif Nat.beq a.st 1 then n = len /\ K [.ints k n xs] else False
  | _ => False) else False
theorem Ztb {a : SAddr} {len : Nat} {en : Ent} {K : List Chunk -> Prop} (h : Zxy a len en K) : en.wr = true /\ a.off = 0 /\ a.idx = 0 /\ K en.cs /\ ∀ κ m, ZaD κ en.cs = en.cs /\ ZfM m en.cs := by
  unfold Zxy at h
  obtain ⟨h0, h⟩ := Zai h
  simp only [Bool.and_eq_true] at h0
  refine ⟨h0.1.1, Zaq h0.1.2, Zaq h0.2, ?_⟩
  split at h
  · rename_i sh n xs hcs
    obtain ⟨_, _, h⟩ := Zai h
    rw [hcs]
    exact ⟨h, fun κ m => ⟨by simp only [ZaD, Chunk.ren], by simp only [ZfM, Chunk.bd]; trivial⟩⟩
  · rename_i k n xs hcs
    obtain ⟨_, _, h⟩ := Zai h
    rw [hcs]
    exact ⟨h, fun κ m => ⟨by simp only [ZaD, Chunk.ren], by simp only [ZfM, Chunk.bd]; trivial⟩⟩
  · exact h.elim
theorem ZjK {cs : List Chunk} (h : (Za2 cs).isNone = false) : ∀ κ m, ZaD κ cs = cs /\ ZfM m cs := by
  unfold Za2 at h
  split at h
  · exact fun κ m => ⟨by simp only [ZaD, Chunk.ren], by simp only [ZfM, Chunk.bd]; exact ⟨trivial, trivial, trivial⟩⟩
  · exact fun κ m => ⟨by simp only [ZaD, Chunk.ren], by simp only [ZfM, Chunk.bd]; exact ⟨trivial, trivial, trivial⟩⟩
  · cases h
def Zzs (H : Heap) (rw : List Nat) : Nat -> SVal -> ZcO -> (SVal -> ZcO -> Prop) -> Prop
  | 0, _, _, _ => False
  | _ + 1, .bool b, ps, K => K (.bool b) ps
  | _ + 1, .int k i, ps, K => K (.int k i) ps
  | _ + 1, .str s, ps, K => K (.str s) ps
  | _ + 1, .nilptr, ps, K => K .nilptr ps
  | _ + 1, .nilslice, ps, K => K .nilslice ps
  | _ + 1, .nilfn, ps, K => K .nilfn ps
  | _ + 1, .niliface, ps, K => K .niliface ps
  | _ + 1, .nilmap, ps, K => K .nilmap ps
  | _ + 1, .raw _ _, _, _ => False
  | n + 1, .agg cs, ps, K => ZjQ (Zzs H rw n) cs ps fun cs' ps' => K (.agg cs') ps'
  | n + 1, .tuple vs, ps, K => ZEZ (Zzs H rw n) vs ps fun vs' ps' => K (.tuple vs') ps'
  | n + 1, .slice a len cap, ps, K => match H.find a.id with
    | some en => bif (Za2 en.cs).isNone then (match isH en.cs with
      | some _ => bif Nat.beq a.off 0 then ZjQ (Zzs H rw n) en.cs ps fun cs' ps' => bif (Za2 cs').isNone then K (.slice ⟨ps'.length, 0, a.idx, a.st⟩ len cap) (ps' ++ [(⟨a.id, 0, none⟩, ⟨Zze rw ps'.length && en.wr, cs', 0⟩)]) else False else False
      | none => bif Zze rw (1000 + ps.length) then Zxy a len en (fun cs => K (.slice ⟨ps.length, 0, 0, a.st⟩ len cap) (ps ++ [(⟨a.id, 0, none⟩, ⟨true, cs, en.ex⟩)])) else ZuM (Zze rw ps.length) a len (fun c => K (.slice ⟨ps.length, 0, 0, a.st⟩ len cap) (ps ++ [(⟨a.id, 0, none⟩, ⟨Zze rw ps.length && en.wr, [c], 0⟩)]))
        (ZzH a.idx a.st len (fun c => K (.slice ⟨ps.length, 0, 0, 1⟩ len cap) (ps ++ [(⟨a.id, a.off, some a.idx⟩, ⟨Zze rw ps.length && en.wr, [c], 0⟩)])) en.cs a.off) en.cs)
      else bif Nat.beq a.off 0 && Nat.beq a.idx 0 then K (.slice ⟨ps.length, 0, 0, a.st⟩ len cap) (ps ++ [(⟨a.id, 0, none⟩, ⟨false, en.cs, 0⟩)]) else False
    | none => False
  | n + 1, .ptr a sz, ps, K => match H.find a.id with
    | some en => match isH en.cs with
      | some _ => bif Nat.beq a.off 0 then ZjQ (Zzs H rw n) en.cs ps fun cs' ps' => bif (Za2 cs').isNone then K (.ptr ⟨ps'.length, 0, a.idx, a.st⟩ sz) (ps' ++ [(⟨a.id, 0, none⟩, ⟨Zze rw ps'.length && en.wr, cs', 0⟩)]) else False else False
      | none => bif Nat.beq a.idx 0 then ZkD sz (fun cs => ZjQ (Zzs H rw n) cs ps fun cs' ps' => bif (Za2 cs').isNone then K (.ptr ⟨ps'.length, 0, 0, a.st⟩ sz) (ps' ++ [(⟨a.id, a.off, none⟩, ⟨Zze rw ps'.length && en.wr, cs', 0⟩)]) else False) en.cs a.off else False
    | none => False
  | n + 1, .fn f fs caps, ps, K => match fs with
    | [] => ZEZ (Zzs H rw n) caps ps fun vs' ps' => K (.fn f [] vs') ps'
    | _ :: _ => False
  | _ + 1, .iface _ _, _, _ => False
  | _ + 1, .map _, _, _ => False
structure PartOk (H : Heap) (κ : Nat -> Part) (m : Nat) (p : Part × Ent) : Prop where
  en : ∃ en, H.find p.1.id = some en /\ (p.2.wr = true -> en.wr = true) /\ p.1.off + p.1.lo.getD 0 + Zam p.2.cs <= Zam en.cs /\
    ∀ ρ n, ZaE ρ n en.cs -> ZaE ρ n (ZaD κ p.2.cs) /\ Zab ρ (ZaD κ p.2.cs) = ((Zab ρ en.cs).drop (p.1.off + p.1.lo.getD 0)).take (Zam p.2.cs)
  ex : p.2.ex = 0 ∨ (p.1.off = 0 /\ p.1.lo = none /\ p.2.wr = true /\ ∃ en, H.find p.1.id = some en /\ en.ex = p.2.ex /\ Zam p.2.cs = Zam en.cs)
  bd : ZfM m p.2.cs
  hid : (Za2 p.2.cs).isNone = false -> p.2.wr = false /\ ∃ en, H.find p.1.id = some en /\ Za2 en.cs = Za2 p.2.cs
def Zyo {α : Type} (H : Heap) (ren : (Nat -> Part) -> α -> α) (bd : Nat -> α -> Prop) (f : Ext α) : Prop := ∀ v ps K, f v ps K -> ∃ v' ps', K v' ps' /\ (∃ more, ps' = ps ++ more) /\
  ∀ κ m, ps'.length <= m -> (∀ i p, ps'[i]? = some p -> κ i = p.1) -> ren κ v' = v /\ bd m v' /\ ∀ i p, ps.length <= i -> ps'[i]? = some p -> PartOk H κ m p
theorem ZeW {ps more : ZcO} {κ : Nat -> Part} (h : ∀ i p, (ps ++ more)[i]? = some p -> κ i = p.1) : ∀ i p, ps[i]? = some p -> κ i = p.1 := fun i p hp => by
  refine h i p ?_
  rw [List.getElem?_append_left (List.getElem?_eq_some_iff.1 hp).1]; exact hp
theorem Zed {H : Heap} {f : Ext SVal} (hf : Zyo H SVal.ren (fun n v => v.bd n) f) : Zyo H ZaD ZfM (ZjQ f)
  | [], ps, K, h => ⟨[], ps, h, ⟨[], by simp⟩, fun κ m _ _ => ⟨by simp only [ZaD], by simp only [ZfM], fun i p hi hp => by
      have := (List.getElem?_eq_some_iff.1 hp).1; omega⟩⟩
  | .one v :: r, ps, K, h => by
    simp only [ZjQ] at h
    obtain ⟨v', ps', h1, ⟨m1, rfl⟩, h2⟩ := hf v ps _ h
    obtain ⟨r', ps'', h3, ⟨m2, rfl⟩, h4⟩ := Zed hf r _ _ h1
    refine ⟨_, _, h3, ⟨m1 ++ m2, by simp⟩, fun κ m hm hκ => ?_⟩
    have g1 := h2 κ m (by simp at hm ⊢; omega) (ZeW hκ)
    have g2 := h4 κ m hm hκ
    refine ⟨by simp only [ZaD, Chunk.ren, g1.1, g2.1], by simp only [ZfM, Chunk.bd]; exact ⟨g1.2.1, g2.2.1⟩, fun i p hi hp => ?_⟩
    rcases Nat.lt_or_ge i (ps ++ m1).length with hlt | hge
    · rw [List.getElem?_append_left hlt] at hp
      exact g1.2.2 i p hi hp
    · exact g2.2.2 i p hge hp
  | .ints k n xs :: r, ps, K, h => by
    simp only [ZjQ] at h
    obtain ⟨r', ps', h1, h2, h3⟩ := Zed hf r ps _ h
    exact ⟨_, _, h1, h2, fun κ m hm hκ => by
      have g := h3 κ m hm hκ
      exact ⟨by simp only [ZaD, Chunk.ren, g.1], by simp only [ZfM, Chunk.bd]; exact ⟨trivial, g.2.1⟩, g.2.2⟩⟩
  | .rows sh n xs :: r, ps, K, h => by
    simp only [ZjQ] at h
    obtain ⟨r', ps', h1, h2, h3⟩ := Zed hf r ps _ h
    exact ⟨_, _, h1, h2, fun κ m hm hκ => by
      have g := h3 κ m hm hκ
      exact ⟨by simp only [ZaD, Chunk.ren, g.1], by simp only [ZfM, Chunk.bd]; exact ⟨trivial, g.2.1⟩, g.2.2⟩⟩
theorem ZlN {H : Heap} {f : Ext SVal} (hf : Zyo H SVal.ren (fun n v => v.bd n) f) : Zyo H Zjn bdL (ZEZ f)
  | [], ps, K, h => ⟨[], ps, h, ⟨[], by simp⟩, fun κ m _ _ => ⟨by simp only [Zjn], by simp only [bdL], fun i p hi hp => by
      have := (List.getElem?_eq_some_iff.1 hp).1; omega⟩⟩
  | v :: r, ps, K, h => by
    simp only [ZEZ] at h
    obtain ⟨v', ps', h1, ⟨m1, rfl⟩, h2⟩ := hf v ps _ h
    obtain ⟨r', ps'', h3, ⟨m2, rfl⟩, h4⟩ := ZlN hf r _ _ h1
    refine ⟨_, _, h3, ⟨m1 ++ m2, by simp⟩, fun κ m hm hκ => ?_⟩
    have g1 := h2 κ m (by simp at hm ⊢; omega) (ZeW hκ)
    have g2 := h4 κ m hm hκ
    refine ⟨by simp only [Zjn, g1.1, g2.1], by simp only [bdL]; exact ⟨g1.2.1, g2.2.1⟩, fun i p hi hp => ?_⟩
    rcases Nat.lt_or_ge i (ps ++ m1).length with hlt | hge
    · rw [List.getElem?_append_left hlt] at hp
      exact g1.2.2 i p hi hp
    · exact g2.2.2 i p hge hp
theorem ZrS : ∀ (cs : List Chunk) (K : List Chunk -> Prop) (sz : Nat), Zln K cs sz -> ∃ l, K l /\ Zam l = sz /\ sz <= Zam cs /\ ∀ ρ n, ZaE ρ n cs -> ZaE ρ n l /\ Zab ρ l = (Zab ρ cs).take sz
  | [], K, sz, h => by
    obtain ⟨h0, hK⟩ := Zai h
    obtain rfl := Zaq h0
    exact ⟨_, hK, by simp [Zam], by simp, fun ρ n hok => ⟨hok, by simp [Zab]⟩⟩
  | c :: r, K, sz, h => by
    simp only [Zln] at h
    cases hb : Nat.beq sz 0 with
    | true =>
      rw [hb] at h
      have := beq_zero.1 hb
      subst this
      exact ⟨_, h, by simp [Zam], by simp, fun ρ n hok => ⟨by simp only [ZaE], by simp [Zab]⟩⟩
    | false =>
      rw [hb] at h
      obtain ⟨hle, h⟩ := Zai h
      have hle := Nat.le_of_ble_eq_true hle
      obtain ⟨l, h1, h3, h4, h5⟩ := ZrS r _ _ h
      refine ⟨_, h1, by simp [Zam, h3]; omega, by simp [Zam]; omega, fun ρ n hok => ?_⟩
      simp only [ZaE] at hok
      have := h5 ρ n hok.2
      refine ⟨by simp only [ZaE]; exact ⟨hok.1, this.1⟩, ?_⟩
      simp only [Zab, this.2]
      rw [List.take_append, ZaM, List.take_of_length_le (l := c.conc ρ) (by rw [ZaM]; exact hle)]
theorem Zig {sz : Nat} {K : List Chunk -> Prop} : ∀ (cs : List Chunk) (off : Nat), ZkD sz K cs off -> ∃ l, K l /\ Zam l = sz /\ off + sz <= Zam cs /\
    ∀ ρ n, ZaE ρ n cs -> ZaE ρ n l /\ Zab ρ l = ((Zab ρ cs).drop off).take sz
  | cs, 0, h => by
    rw [ZkD] at h
    obtain ⟨l, h1, h2, h3, h4⟩ := ZrS _ _ _ h
    exact ⟨l, h1, h2, by omega, fun ρ n hok => by simpa using h4 ρ n hok⟩
  | [], off + 1, h => by simp only [ZkD] at h
  | c :: r, off + 1, h => by
    simp only [ZkD] at h
    obtain ⟨hle, h⟩ := Zai h
    have hle := Nat.le_of_ble_eq_true hle
    obtain ⟨l, h1, h2, h3, h4⟩ := Zig r _ h
    refine ⟨l, h1, h2, by simp [Zam]; omega, fun ρ n hok => ?_⟩
    simp only [ZaE] at hok
    have := h4 ρ n hok.2
    refine ⟨this.1, ?_⟩
    rw [this.2]
    simp only [Zab]
    rw [List.drop_append, List.drop_of_length_le (l := c.conc ρ) (by rw [ZaM]; exact hle), List.nil_append, ZaM]
theorem Zzl {κ : Nat -> Part} {k n xs} : ZaD κ [.ints k n xs] = [.ints k n xs] := by simp only [ZaD, Chunk.ren]
theorem ZxD {H : Heap} {rw : List Nat} : ∀ n, Zyo H SVal.ren (fun n v => v.bd n) (Zzs H rw n)
  | 0 => fun _ _ _ h => h.elim
  | n + 1 => by
    have ih := ZxD (H := H) (rw := rw) n
    intro v ps K h
    have triv : ∀ u : SVal, (∀ κ, u.ren κ = u) -> (∀ m, u.bd m) -> K u ps -> ∃ v' ps', K v' ps' /\ (∃ more, ps' = ps ++ more) /\
        ∀ κ m, ps'.length <= m -> (∀ i p, ps'[i]? = some p -> κ i = p.1) -> v'.ren κ = u /\ v'.bd m /\ ∀ i p, ps.length <= i -> ps'[i]? = some p -> PartOk H κ m p :=
      fun u h1 h2 h3 => ⟨u, ps, h3, ⟨[], by simp⟩, fun κ m _ _ => ⟨h1 κ, h2 m, fun i p hi hp => by have := (List.getElem?_eq_some_iff.1 hp).1; omega⟩⟩
    cases v <;> simp only [Zzs] at h
    case bool b => exact triv _ (fun _ => by simp only [SVal.ren]) (fun _ => by simp only [SVal.bd]) h
    case int k i => exact triv _ (fun _ => by simp only [SVal.ren]) (fun _ => by simp only [SVal.bd]) h
    case str s => exact triv _ (fun _ => by simp only [SVal.ren]) (fun _ => by simp only [SVal.bd]) h
    case nilptr => exact triv _ (fun _ => by simp only [SVal.ren]) (fun _ => by simp only [SVal.bd]) h
    case nilslice => exact triv _ (fun _ => by simp only [SVal.ren]) (fun _ => by simp only [SVal.bd]) h
    case nilfn => exact triv _ (fun _ => by simp only [SVal.ren]) (fun _ => by simp only [SVal.bd]) h
    case niliface => exact triv _ (fun _ => by simp only [SVal.ren]) (fun _ => by simp only [SVal.bd]) h
    case nilmap => exact triv _ (fun _ => by simp only [SVal.ren]) (fun _ => by simp only [SVal.bd]) h
    case agg cs =>
      obtain ⟨cs', ps', h1, h2, h3⟩ := Zed ih cs ps _ h
      exact ⟨_, _, h1, h2, fun κ m hm hκ => by
        have g := h3 κ m hm hκ
        exact ⟨by simp only [SVal.ren, g.1], by simp only [SVal.bd]; exact g.2.1, g.2.2⟩⟩
    case tuple vs =>
      obtain ⟨cs', ps', h1, h2, h3⟩ := ZlN ih vs ps _ h
      exact ⟨_, _, h1, h2, fun κ m hm hκ => by
        have g := h3 κ m hm hκ
        exact ⟨by simp only [SVal.ren, g.1], by simp only [SVal.bd]; exact g.2.1, g.2.2⟩⟩
    case fn f fs caps =>
      split at h
      · obtain ⟨cs', ps', h1, h2, h3⟩ := ZlN ih caps ps _ h
        exact ⟨_, _, h1, h2, fun κ m hm hκ => by
          have g := h3 κ m hm hκ
          exact ⟨by simp only [SVal.ren, Zjn, g.1], by simp only [SVal.bd, bdL]; exact ⟨trivial, g.2.1⟩, g.2.2⟩⟩
      · exact h.elim
    case slice a len cap =>
      split at h
      · rename_i en hen
        cases hnh0 : (Za2 en.cs).isNone with
        | false =>
          rw [hnh0] at h
          obtain ⟨h0, h1⟩ := Zai (show (bif Nat.beq a.off 0 && Nat.beq a.idx 0 then _ else False) from h)
          rw [Bool.and_eq_true] at h0
          have ho := Zaq h0.1
          have hi := Zaq h0.2
          refine ⟨_, _, h1, ⟨_, rfl⟩, fun κ m hm hκ => ?_⟩
          have hk : κ ps.length = ⟨a.id, 0, none⟩ := hκ ps.length _ List.getElem?_concat_length
          refine ⟨?_, by simp only [SVal.bd]; simp at hm; omega, fun i p hi2 hp => ?_⟩
          · obtain ⟨id, off, idx, st⟩ := a
            simp only at ho hi
            subst ho
            subst hi
            simp [SVal.ren, SAddr.ren, hk]
          · have hi' : i = ps.length := by have := (List.getElem?_eq_some_iff.1 hp).1; simp at this; omega
            subst hi'
            simp at hp
            subst hp
            refine ⟨⟨en, hen, fun hw => (by cases hw), by simp, fun ρ n hok => ?_⟩, .inl rfl, (ZjK hnh0 κ m).2, fun _ => ⟨rfl, en, hen, rfl⟩⟩
            rw [(ZjK hnh0 κ m).1]
            refine ⟨hok, ?_⟩
            simp only [Option.getD_none, Nat.add_zero, List.drop_zero]
            rw [List.take_of_length_le (by rw [Zan]; exact Nat.le_refl _)]
        | true =>
        have hnh := hnh0
        rw [hnh0] at h
        simp only [cond_true] at h
        clear hnh0
        split at h
        · obtain ⟨h0, h⟩ := Zai h
          have h0 := Zaq h0
          obtain ⟨cs', ps', h5, ⟨more, rfl⟩, h6⟩ := Zed ih en.cs ps _ h
          obtain ⟨hnh, h5⟩ := Zai h5
          refine ⟨_, _, h5, ⟨more ++ [_], by rw [List.append_assoc]⟩, fun κ m hm hκ => ?_⟩
          have hk : κ (ps ++ more).length = ⟨a.id, 0, none⟩ := hκ _ _ List.getElem?_concat_length
          have g := h6 κ m (by simp at hm ⊢; omega) (ZeW hκ)
          refine ⟨?_, by simp only [SVal.bd]; simp at hm ⊢; omega, fun i p hi hp => ?_⟩
          · obtain ⟨id, off, idx, st⟩ := a
            simp only at h0
            subst h0
            simp only [SVal.ren, SAddr.ren, hk, Nat.add_zero]
          · rcases Nat.lt_or_ge i (ps ++ more).length with hlt | hge
            · rw [List.getElem?_append_left hlt] at hp
              exact g.2.2 i p hi hp
            · have hi' : i = (ps ++ more).length := by have := (List.getElem?_eq_some_iff.1 hp).1; rw [List.length_append, List.length_singleton] at this; omega
              subst hi'
              rw [List.getElem?_append_right (Nat.le_refl _), Nat.sub_self] at hp
              simp only [List.getElem?_cons_zero, Option.some.injEq] at hp
              subst hp
              have hlen : Zam cs' = Zam en.cs := by rw [<- Za9 (τ := κ), g.1]
              refine ⟨⟨en, hen, fun hw => by simp at hw; exact hw.2, by simp [hlen], fun ρ n hok => ?_⟩, .inl rfl, g.2.1, fun hx => by rw [hnh] at hx; cases hx⟩
              rw [g.1]
              refine ⟨hok, ?_⟩
              simp only [Option.getD_none, Nat.add_zero, hlen, List.drop_zero]
              rw [List.take_of_length_le (by rw [Zan]; exact Nat.le_refl _)]
        · cases hfx : Zze rw (1000 + ps.length) with
          | true =>
            rw [hfx] at h
            simp only [cond_true] at h
            obtain ⟨hwr, ho, hi, h1, hpl⟩ := Ztb h
            refine ⟨_, _, h1, ⟨_, rfl⟩, fun κ m hm hκ => ?_⟩
            have hk : κ ps.length = ⟨a.id, 0, none⟩ := hκ ps.length _ List.getElem?_concat_length
            refine ⟨?_, by simp only [SVal.bd]; simp at hm; omega, fun i p hi2 hp => ?_⟩
            · obtain ⟨id, off, idx, st⟩ := a
              simp only at ho hi
              subst ho
              subst hi
              simp [SVal.ren, SAddr.ren, hk]
            · have hi' : i = ps.length := by have := (List.getElem?_eq_some_iff.1 hp).1; simp at this; omega
              subst hi'
              simp at hp
              subst hp
              refine ⟨⟨en, hen, fun _ => hwr, by simp, fun ρ n hok => ?_⟩, .inr ⟨rfl, rfl, rfl, en, hen, rfl, rfl⟩, (hpl κ m).2, fun hx => by rw [hnh] at hx; cases hx⟩
              rw [(hpl κ m).1]
              refine ⟨hok, ?_⟩
              simp only [Option.getD_none, Nat.add_zero, List.drop_zero]
              rw [List.take_of_length_le (by rw [Zan]; exact Nat.le_refl _)]
          | false =>
          rw [hfx] at h
          simp only [cond_false] at h
          rcases rowsAt_inv h with ⟨sh, n1, xs, zs, hcs, ho, hi, hst, h1, hle, htk⟩ | h
          · refine ⟨_, _, h1, ⟨_, rfl⟩, fun κ m hm hκ => ?_⟩
            have hk : κ ps.length = ⟨a.id, 0, none⟩ := hκ ps.length _ List.getElem?_concat_length
            refine ⟨?_, by simp only [SVal.bd]; simp at hm; omega, fun i p hi2 hp => ?_⟩
            · obtain ⟨id, off, idx, st⟩ := a
              simp only at ho hi
              subst ho
              subst hi
              simp [SVal.ren, SAddr.ren, hk]
            · have hi' : i = ps.length := by have := (List.getElem?_eq_some_iff.1 hp).1; simp at this; omega
              subst hi'
              simp at hp
              subst hp
              refine ⟨⟨en, hen, fun hw => by simp at hw; exact hw.2, by simp only [hcs, Zam, Chunk.len, Option.getD_none, Nat.add_zero, Nat.zero_add]; exact Nat.mul_le_mul_right _ hle, fun ρ n hok => ?_⟩, .inl rfl, by simp only [ZfM, Chunk.bd]; trivial, fun hx => by rw [ZgT] at hx; cases hx⟩
              refine ⟨by simp only [ZaD, Chunk.ren, ZaE, Chunk.ok]; trivial, ?_⟩
              simp only [hcs, ZaD, Chunk.ren, Zab, Chunk.conc, List.append_nil, Zam, Chunk.len, Nat.add_zero, Option.getD_none, List.drop_zero]
              exact htk
          obtain ⟨k, xs, h1, h2, h3, h4⟩ := Zfr _ _ h
          refine ⟨_, _, h1, ⟨_, rfl⟩, fun κ m hm hκ => ?_⟩
          have hk : κ ps.length = ⟨a.id, a.off, some a.idx⟩ := hκ ps.length _ List.getElem?_concat_length
          refine ⟨?_, by simp only [SVal.bd]; simp at hm; omega, fun i p hi hp => ?_⟩
          · obtain ⟨id, off, idx, st⟩ := a
            simp only at h2
            subst h2
            simp [SVal.ren, SAddr.ren, hk]
          · have hi' : i = ps.length := by have := (List.getElem?_eq_some_iff.1 hp).1; simp at this; omega
            subst hi'
            simp at hp
            subst hp
            refine ⟨⟨en, hen, fun hw => by simp at hw; exact hw.2, by simp [Zam, Chunk.len]; omega, fun ρ n hok => ?_⟩, .inl rfl, by simp only [ZfM, Chunk.bd]; trivial, fun hx => by rw [ZgT] at hx; cases hx⟩
            rw [Zzl]
            refine ⟨by simp only [ZaE, Chunk.ok]; trivial, ?_⟩
            simp only [Zab, Chunk.conc, List.append_nil, Zam, Chunk.len, Nat.add_zero, Option.getD_some]
            exact h4 ρ
      · exact h.elim
    case ptr a sz =>
      split at h
      · rename_i en hen
        split at h
        · obtain ⟨h0, h⟩ := Zai h
          have h0 := Zaq h0
          obtain ⟨cs', ps', h5, ⟨more, rfl⟩, h6⟩ := Zed ih en.cs ps _ h
          obtain ⟨hnh, h5⟩ := Zai h5
          refine ⟨_, _, h5, ⟨more ++ [_], by rw [List.append_assoc]⟩, fun κ m hm hκ => ?_⟩
          have hk : κ (ps ++ more).length = ⟨a.id, 0, none⟩ := hκ _ _ List.getElem?_concat_length
          have g := h6 κ m (by simp at hm ⊢; omega) (ZeW hκ)
          refine ⟨?_, by simp only [SVal.bd]; simp at hm ⊢; omega, fun i p hi hp => ?_⟩
          · obtain ⟨id, off, idx, st⟩ := a
            simp only at h0
            subst h0
            simp only [SVal.ren, SAddr.ren, hk, Nat.add_zero]
          · rcases Nat.lt_or_ge i (ps ++ more).length with hlt | hge
            · rw [List.getElem?_append_left hlt] at hp
              exact g.2.2 i p hi hp
            · have hi' : i = (ps ++ more).length := by have := (List.getElem?_eq_some_iff.1 hp).1; rw [List.length_append, List.length_singleton] at this; omega
              subst hi'
              rw [List.getElem?_append_right (Nat.le_refl _), Nat.sub_self] at hp
              simp only [List.getElem?_cons_zero, Option.some.injEq] at hp
              subst hp
              have hlen : Zam cs' = Zam en.cs := by rw [<- Za9 (τ := κ), g.1]
              refine ⟨⟨en, hen, fun hw => by simp at hw; exact hw.2, by simp [hlen], fun ρ n hok => ?_⟩, .inl rfl, g.2.1, fun hx => by rw [hnh] at hx; cases hx⟩
              rw [g.1]
              refine ⟨hok, ?_⟩
              simp only [Option.getD_none, Nat.add_zero, hlen, List.drop_zero]
              rw [List.take_of_length_le (by rw [Zan]; exact Nat.le_refl _)]
        · obtain ⟨h0, h⟩ := Zai h
          have h0 := Zaq h0
          obtain ⟨l, h1, h2, h3, h4⟩ := Zig _ _ h
          obtain ⟨cs', ps', h5, ⟨more, rfl⟩, h6⟩ := Zed ih l ps _ h1
          obtain ⟨hnh, h5⟩ := Zai h5
          refine ⟨_, _, h5, ⟨more ++ [_], by rw [List.append_assoc]⟩, fun κ m hm hκ => ?_⟩
          have hk : κ (ps ++ more).length = ⟨a.id, a.off, none⟩ := hκ _ _ List.getElem?_concat_length
          have g := h6 κ m (by simp at hm ⊢; omega) (ZeW hκ)
          refine ⟨?_, by simp only [SVal.bd]; simp at hm ⊢; omega, fun i p hi hp => ?_⟩
          · obtain ⟨id, off, idx, st⟩ := a
            simp only at h0
            subst h0
            simp only [SVal.ren, SAddr.ren, hk, Nat.add_zero]
          · rcases Nat.lt_or_ge i (ps ++ more).length with hlt | hge
            · rw [List.getElem?_append_left hlt] at hp
              exact g.2.2 i p hi hp
            · have hi' : i = (ps ++ more).length := by have := (List.getElem?_eq_some_iff.1 hp).1; rw [List.length_append, List.length_singleton] at this; omega
              subst hi'
              rw [List.getElem?_append_right (Nat.le_refl _), Nat.sub_self] at hp
              simp only [List.getElem?_cons_zero, Option.some.injEq] at hp
              subst hp
              have hlen : Zam cs' = sz := by rw [<- Za9 (τ := κ), g.1, h2]
              refine ⟨⟨en, hen, fun hw => by simp at hw; exact hw.2, by simp [hlen]; omega, fun ρ n hok => ?_⟩, .inl rfl, g.2.1, fun hx => by rw [hnh] at hx; cases hx⟩
              rw [g.1]
              have := h4 ρ n hok
              refine ⟨this.1, ?_⟩
              simp only [Option.getD_none, Nat.add_zero, hlen]
              exact this.2
      · exact h.elim
def Zzz (p : Part × Ent) : ZcO -> Bool
  | [] => false
  | q :: r => (Nat.beq p.1.id q.1.id && (p.2.wr || q.2.wr)) || Zzz p r
def ZkY : ZcO -> Bool
  | [] => true
  | p :: r => !(Zzz p r) && ZkY r
def Zc5 : Nat -> ZcO -> List (Nat × Option Ent)
  | _, [] => []
  | i, p :: r => (i, some p.2) :: Zc5 (i + 1) r
def ZEY : ZcO -> Nat -> Option Part
  | [], _ => none
  | p :: _, 0 => some p.1
  | _ :: r, n + 1 => ZEY r n
def kap (ps : ZcO) (m next : Nat) (i : Nat) : Part :=
  match ZEY ps i with
  | some p => p
  | none => ⟨i - m + next, 0, none⟩
def ZMQ (p : Part × Ent) (en' : Ent) (K : List Chunk -> Prop) (L : Prop) : List Chunk -> List Chunk -> List Chunk -> Prop
  | [.rows sh n _], [.rows sh' n' ys], [.rows sh'' n'' _] => bif decide (sh' = sh) && decide (sh'' = sh) && Nat.beq p.1.off 0 then n' = n /\ n'' = n /\ K [.rows sh' n' ys] else False
  | _, _, _ => L
theorem putR_inv {p : Part × Ent} {en' : Ent} {K : List Chunk -> Prop} {L : Prop} {c1 c2 c3 : List Chunk} (h : ZMQ p en' K L c1 c2 c3) :
    (∃ sh n xs ys zs, c1 = [.rows sh n xs] /\ c2 = [.rows sh n ys] /\ c3 = [.rows sh n zs] /\ p.1.off = 0 /\ K [.rows sh n ys]) ∨ L := by
  unfold ZMQ at h
  split at h
  · obtain ⟨h0, h1, h2, h3⟩ := Zai h
    rw [Bool.and_eq_true, Bool.and_eq_true, decide_eq_true_iff, decide_eq_true_iff] at h0
    obtain ⟨⟨e1, e2⟩, e3⟩ := h0
    subst e1
    subst e2
    subst h1
    subst h2
    exact .inl ⟨_, _, _, _, _, rfl, rfl, rfl, Zaq e3, h3⟩
  · exact .inr h
def ZLs : List Chunk -> Option (Nat × Nat)
  | [.rows [.hd] n _, .one _, .rows [.hd] m _] => some (n, m)
  | _ => none
theorem ZgS {cs : List Chunk} {n m : Nat} (h : ZLs cs = some (n, m)) : Zam cs = n + 1 + m := by
  unfold ZLs at h
  split at h
  · cases h; simp [Zam, Chunk.len, Zaj, Leaf.len]; omega
  · cases h
def ZMR (p : Part × Ent) (en' : Ent) (K : List Chunk -> Prop) (L : Prop) (new cs : List Chunk) : Prop := match ZLs p.2.cs, ZLs en'.cs, ZLs cs with
  | some (n1, m1), some (n2, m2), some (n3, m3) => bif Nat.beq p.1.off 0 then n2 = n1 /\ m2 = m1 /\ n3 = n1 /\ m3 = m1 /\ K new else False
  | _, _, _ => L
theorem putH_inv {p : Part × Ent} {en' : Ent} {K : List Chunk -> Prop} {L : Prop} {new cs : List Chunk} (h : ZMR p en' K L new cs) :
    (p.1.off = 0 /\ Zam en'.cs = Zam p.2.cs /\ Zam cs = Zam p.2.cs /\ K new) ∨ L := by
  unfold ZMR at h
  split at h
  · rename_i n1 m1 n2 m2 n3 m3 e1 e2 e3
    obtain ⟨h0, h1, h2, h3, h4, h5⟩ := Zai h
    exact .inl ⟨Zaq h0, by rw [ZgS e1, ZgS e2, h1, h2], by rw [ZgS e1, ZgS e3, h3, h4], h5⟩
  · exact .inr h
def ZMS (κ : Nat -> Part) (p : Part × Ent) (en' : Ent) (K : List Chunk -> Prop) (cs : List Chunk) : Prop :=
  match p.1.lo with
  | none => ZMR p en' K (ZMQ p en' K (bif Nat.beq (Zam en'.cs) (Zam p.2.cs) then wrA 0 1 (Zam p.2.cs) (ZaD κ en'.cs) K cs p.1.off else False) p.2.cs en'.cs cs) (ZaD κ en'.cs) cs
  | some lo => match p.2.cs, en'.cs with
    | [.ints _ len _], [.ints k' n' ys] => ZoB lo len k' n' ys K cs p.1.off
    | _, _ => False
def ZkE (κ : Nat -> Part) (H' : Heap) : Nat -> ZcO -> Heap -> (Heap -> Prop) -> Prop
  | _, [], H, K => K H
  | i, p :: r, H, K => bif p.2.wr then
      (match H'.find i, H.find p.1.id with
      | some en', some en => bif en'.wr then en'.ex = p.2.ex /\ ZMS κ p en' (fun cs => bif (Za2 cs).isNone then ZkE κ H' (i + 1) r (H.set p.1.id ⟨true, cs, en.ex⟩) K else False) en.cs else False
      | none, some _ => ZkE κ H' (i + 1) r (H.drop p.1.id) K
      | _, _ => False)
    else ZkE κ H' (i + 1) r H K
def ZbH (κ : Nat -> Part) (m : Nat) : List (Nat × Option Ent) -> List (Nat × Option Ent) -> List (Nat × Option Ent)
  | [], l => l
  | (i, some en) :: r, l => bif Nat.blt i m then ZbH κ m r l else ((κ i).id, bif en.wr then some ⟨true, ZaD κ en.cs, en.ex⟩ else none) :: ZbH κ m r l
  | (i, none) :: r, l => bif Nat.blt i m then ZbH κ m r l else ((κ i).id, none) :: ZbH κ m r l
def ZlK (l : List (Nat × Option Ent)) : Bool := l.all fun p => match p.2 with
  | some e => (Za2 e.cs).isNone
  | none => true
theorem ZgU : ∀ {l : List (Nat × Option Ent)} {i : Nat} {e : Ent}, ZlK l = true -> Zc9 l i = some e -> Za2 e.cs = none
  | [], _, _, _, h => by simp [Zc9] at h
  | (k, o) :: r, i, e, hl, h => by
    simp only [ZlK, List.all_cons, Bool.and_eq_true] at hl
    rw [ZaF] at h
    split at h
    · subst h; simpa using hl.1
    · exact ZgU (l := r) hl.2 h
def ZOc (ps : ZcO) : Bool := ps.all fun p => !p.2.wr
def ZzA (S : Zyw) (rw : List Nat) (vs : List SVal) (H : Heap) (K : SVal -> Heap -> Prop) : Prop :=
  ZEZ (Zzs H rw 8) vs [] fun vs' ps => bif ZkY ps then
    S vs' ⟨ps.length, Zc5 0 ps⟩ fun r H' => ZkE (kap ps ps.length H.next) H' 0 ps H fun Hu => bif ZOc ps || ZlK H'.ents then
      K (r.ren (kap ps ps.length H.next)) ⟨H.next + (H'.next - ps.length), ZbH (kap ps ps.length H.next) ps.length H'.ents Hu.ents⟩ else False
  else False
theorem Zo6 : ∀ (ps : ZcO) (i : Nat), ZEY ps i = (ps[i]?).map (·.1)
  | [], _ => by simp [ZEY]
  | p :: r, 0 => by simp [ZEY]
  | p :: r, n + 1 => by simp [ZEY, Zo6 r n]
theorem ZLo {ps : ZcO} {m next i : Nat} {p : Part × Ent} (h : ps[i]? = some p) : kap ps m next i = p.1 := by
  simp [kap, Zo6, h]
theorem ZLp {ps : ZcO} {next i : Nat} (h : ps.length <= i) : kap ps ps.length next i = ⟨i - ps.length + next, 0, none⟩ := by
  simp [kap, Zo6, List.getElem?_eq_none h]
theorem ZjL : ∀ (ps : ZcO) (k i : Nat) (en : Ent), Zc9 (Zc5 k ps) i = some en -> k <= i /\ ∃ p, ps[i - k]? = some p /\ p.2 = en
  | [], _, _, _, h => by cases h
  | p :: r, k, i, en, h => by
    simp only [Zc5] at h
    rw [ZaF] at h
    split at h
    · rename_i hk
      subst hk
      cases h
      exact ⟨Nat.le_refl _, p, by simp, rfl⟩
    · obtain ⟨h1, q, h2, h3⟩ := ZjL r (k + 1) i en h
      exact ⟨by omega, q, by rw [show i - k = i - (k + 1) + 1 by omega]; simpa using h2, h3⟩
theorem ZkQ : ∀ (ps : ZcO) (k i : Nat) (p : Part × Ent), ps[i]? = some p -> Zc9 (Zc5 k ps) (k + i) = some p.2
  | [], _, _, _, h => by simp at h
  | q :: r, k, 0, p, h => by simp at h; subst h; simp [Zc5, ZaF]
  | q :: r, k, i + 1, p, h => by
    simp only [Zc5]
    rw [ZaF, if_neg (by omega), show k + (i + 1) = k + 1 + i by omega]
    exact ZkQ r (k + 1) i p (by simpa using h)
theorem Zg9 {p : Part × Ent} : ∀ {ps : ZcO}, Zzz p ps = false -> ∀ (j : Nat) (q : Part × Ent), ps[j]? = some q -> (p.2.wr = true ∨ q.2.wr = true) -> p.1.id ≠ q.1.id
  | [], _, _, _, h, _ => by simp at h
  | s :: r, h, j, q, hq, hw => by
    simp only [Zzz, Bool.or_eq_false_iff] at h
    cases j with
    | zero =>
      simp at hq
      subst hq
      intro he
      have h1 := h.1
      rw [he] at h1
      simp at h1
      rcases hw with hw | hw <;> simp_all
    | succ j => exact Zg9 h.2 j q (by simpa using hq) hw
theorem Zpa : ∀ {ps : ZcO}, ZkY ps = true -> ∀ (i j : Nat) (p q : Part × Ent), ps[i]? = some p -> ps[j]? = some q -> i ≠ j -> p.2.wr = true -> p.1.id ≠ q.1.id
  | [], _, _, _, _, _, h, _, _, _ => by simp at h
  | s :: r, h, i, j, p, q, hp, hq, hne, hw => by
    simp only [ZkY, Bool.and_eq_true, Bool.not_eq_true'] at h
    cases i with
    | zero =>
      simp at hp
      subst hp
      cases j with
      | zero => exact absurd rfl hne
      | succ j => exact Zg9 h.1 j q (by simpa using hq) (.inl hw)
    | succ i =>
      cases j with
      | zero =>
        simp at hq
        subst hq
        exact fun he => Zg9 h.1 i p (by simpa using hp) (.inr hw) he.symm
      | succ j => exact Zpa h.2 i j p q (by simpa using hp) (by simpa using hq) (by omega) hw
theorem Zs3 {κ : Nat -> Part} {p : Part × Ent} {en' : Ent} {K : List Chunk -> Prop} {cs : List Chunk} {ρ : Rho} {n : Nat} (h : ZMS κ p en' K cs) (hok : ZaE ρ n cs) (hok' : ZaE ρ n (ZaD κ en'.cs)) :
    ∃ cs', K cs' /\ ZaE ρ n cs' /\ Zam cs' = Zam cs /\ Zam en'.cs = Zam p.2.cs /\ p.1.off + p.1.lo.getD 0 + Zam p.2.cs <= Zam cs /\
      Zab ρ cs' = (Zab ρ cs).take (p.1.off + p.1.lo.getD 0) ++ Zab ρ (ZaD κ en'.cs) ++ (Zab ρ cs).drop (p.1.off + p.1.lo.getD 0 + Zam p.2.cs) := by
  unfold ZMS at h
  split at h
  · rename_i hlo
    rcases putH_inv h with ⟨e1, e2, e3, hK⟩ | h
    · refine ⟨_, hK, hok', by rw [Za9, e2, e3], e2, by simp [hlo, e1, e3], ?_⟩
      rw [hlo, e1]
      simp only [Option.getD_none, Nat.add_zero, Nat.zero_add, List.take_zero, List.nil_append]
      rw [List.drop_of_length_le (by rw [Zan, e3]; exact Nat.le_refl _), List.append_nil]
    rcases putR_inv h with ⟨sh, n1, xs, ys, zs, e1, e2, e3, e4, hK⟩ | h
    · refine ⟨_, hK, by simp only [ZaE, Chunk.ok]; trivial, by simp [e3, Zam, Chunk.len], by simp [e1, e2, Zam, Chunk.len], by simp [hlo, e4, e1, e3, Zam, Chunk.len], ?_⟩
      rw [hlo, e4, e2, e3, e1]
      simp only [ZaD, Chunk.ren, Zab, Chunk.conc, List.append_nil, Zam, Chunk.len, Nat.add_zero, Option.getD_none, List.take_zero, List.nil_append, Nat.zero_add]
      rw [List.drop_of_length_le (by rw [Zag]; exact Nat.le_refl _), List.append_nil]
    obtain ⟨h0, h⟩ := Zai h
    have h0 := Zaq h0
    obtain ⟨cs', h1, h2, h3, h4, h5⟩ := ZeP hok' (by rw [Za9, h0]) _ _ _ h hok
    rw [Nat.zero_mul, Nat.add_zero] at h4 h5
    exact ⟨cs', h1, h2, h3, h0, by simpa [hlo] using h4, by simpa [hlo] using h5⟩
  · rename_i lo hlo
    split at h
    · rename_i k0 len xs0 k' n' ys hc1 hc2
      obtain ⟨cs', h1, h2, h3, h4, h5, h6⟩ := Zf2 _ _ _ h hok
      subst h4
      refine ⟨cs', h1, h2, h3, by simp [hc1, hc2, Zam, Chunk.len], by simpa [hlo, hc1, Zam, Chunk.len] using h5, ?_⟩
      rw [h6]
      simp [hlo, hc1, hc2, Zam, Chunk.len, ZaD, Chunk.ren, Zab, Chunk.conc]
    · exact h.elim
theorem Zdk {κ : Nat -> Part} {H' : Heap} {ρ : Rho} {n : Nat} : ∀ (ps : ZcO) (i : Nat) (H : Heap) (K : Heap -> Prop), ZkE κ H' i ps H K -> ZkY ps = true ->
    (∀ id en, H.find id = some en -> ZaE ρ n en.cs) -> (∀ j en', H'.find j = some en' -> ZaE ρ n (ZaD κ en'.cs)) ->
    ∃ Hu, K Hu /\ Hu.next = H.next /\ (∀ id, (∀ (j : Nat) p, ps[j]? = some p -> p.2.wr = true -> p.1.id ≠ id) -> Hu.find id = H.find id) /\
      ∀ (j : Nat) p, ps[j]? = some p -> p.2.wr = true -> Hu.find p.1.id = none ∨ ∃ en en' cs', H.find p.1.id = some en /\ H'.find (i + j) = some en' /\ en'.wr = true /\ en'.ex = p.2.ex /\ Hu.find p.1.id = some ⟨true, cs', en.ex⟩ /\ ZaE ρ n cs' /\
        Zam cs' = Zam en.cs /\ Zam en'.cs = Zam p.2.cs /\ p.1.off + p.1.lo.getD 0 + Zam p.2.cs <= Zam en.cs /\
        Zab ρ cs' = (Zab ρ en.cs).take (p.1.off + p.1.lo.getD 0) ++ Zab ρ (ZaD κ en'.cs) ++ (Zab ρ en.cs).drop (p.1.off + p.1.lo.getD 0 + Zam p.2.cs) /\ Za2 cs' = none
  | [], i, H, K, h, _, _, _ => ⟨H, h, rfl, fun _ _ => rfl, fun j p hp => by simp at hp⟩
  | p :: r, i, H, K, h, hd, hok, hok' => by
    simp only [ZkY, Bool.and_eq_true, Bool.not_eq_true'] at hd
    simp only [ZkE] at h
    cases hw : p.2.wr with
    | false =>
      rw [hw] at h
      obtain ⟨Hu, h1, h2, h3, h4⟩ := Zdk r (i + 1) H K h hd.2 hok hok'
      refine ⟨Hu, h1, h2, fun id hid => h3 id fun j q hq => hid (j + 1) q (by simpa using hq), fun j q hq hqw => ?_⟩
      cases j with
      | zero => simp at hq; subst hq; rw [hw] at hqw; cases hqw
      | succ j =>
        have := h4 j q (by simpa using hq) hqw
        rwa [show i + 1 + j = i + (j + 1) by omega] at this
    | true =>
      rw [hw] at h
      simp only [cond_true] at h
      split at h
      · rename_i en' en he' he
        obtain ⟨h0, hex, h⟩ := Zai h
        obtain ⟨cs', g1, g2, g3, g4, g5, g6⟩ := Zs3 h (hok _ _ he) (hok' _ _ he')
        obtain ⟨hnh, g1⟩ := Zai g1
        obtain ⟨Hu, h1, h2, h3, h4⟩ := Zdk r (i + 1) _ K g1 hd.2 (fun id e hid => by
          rw [Heap.find_set] at hid
          split at hid
          · cases hid; exact g2
          · exact hok _ _ hid) hok'
        have hpr : ∀ (j : Nat) (q : Part × Ent), r[j]? = some q -> p.1.id ≠ q.1.id := fun j q hq => Zg9 hd.1 j q hq (.inl hw)
        refine ⟨Hu, h1, h2, fun id hid => ?_, fun j q hq hqw => ?_⟩
        · rw [h3 id fun j q hq => hid (j + 1) q (by simpa using hq), Heap.find_set, if_neg (hid 0 p (by simp) hw)]
        · cases j with
          | zero =>
            simp at hq
            subst hq
            refine .inr ⟨en, en', cs', he, he', h0, hex, ?_, g2, g3, g4, g5, g6, by simpa using hnh⟩
            rw [h3 p.1.id fun j q hq _ => (hpr j q hq).symm, Heap.find_set, if_pos rfl]
          | succ j =>
            rcases h4 j q (by simpa using hq) hqw with e0 | ⟨en1, en2, cs2, e1, e2, rest⟩
            · exact .inl e0
            · rw [Heap.find_set, if_neg (hpr j q (by simpa using hq))] at e1
              exact .inr ⟨en1, en2, cs2, e1, by rw [show i + (j + 1) = i + 1 + j by omega]; exact e2, rest⟩
      · obtain ⟨Hu, h1, h2, h3, h4⟩ := Zdk r (i + 1) _ K h hd.2 (fun id e hid => by
          rw [Heap.find_drop] at hid
          split at hid
          · cases hid
          · exact hok _ _ hid) hok'
        have hpr : ∀ (j : Nat) (q : Part × Ent), r[j]? = some q -> p.1.id ≠ q.1.id := fun j q hq => Zg9 hd.1 j q hq (.inl hw)
        refine ⟨Hu, h1, h2, fun id hid => ?_, fun j q hq hqw => ?_⟩
        · rw [h3 id fun j q hq => hid (j + 1) q (by simpa using hq), Heap.find_drop, if_neg (hid 0 p (by simp) hw)]
        · cases j with
          | zero =>
            simp at hq
            subst hq
            left
            rw [h3 p.1.id fun j q hq _ => (hpr j q hq).symm, Heap.find_drop, if_pos rfl]
          | succ j =>
            rcases h4 j q (by simpa using hq) hqw with e0 | ⟨en1, en2, cs2, e1, e2, rest⟩
            · exact .inl e0
            · rw [Heap.find_drop, if_neg (hpr j q (by simpa using hq))] at e1
              exact .inr ⟨en1, en2, cs2, e1, by rw [show i + (j + 1) = i + 1 + j by omega]; exact e2, rest⟩
      · exact h.elim
def ZMT (κ : Nat -> Part) (en : Ent) : Option Ent := bif en.wr then some ⟨true, ZaD κ en.cs, en.ex⟩ else none
theorem newEnts_find {κ : Nat -> Part} {m next : Nat} {l : List (Nat × Option Ent)} (hκ : ∀ i, m <= i -> (κ i).id = i - m + next) : ∀ (es : List (Nat × Option Ent)) (id : Nat) (e : Ent),
    Zc9 (ZbH κ m es l) id = some e -> (next <= id /\ ∃ en', Zc9 es (id - next + m) = some en' /\ ZMT κ en' = some e) ∨ Zc9 l id = some e
  | [], id, e, h => .inr h
  | (i, u) :: r, id, e, h => by
    have ih := newEnts_find (l := l) hκ r id e
    have hcons : ZbH κ m ((i, u) :: r) l = bif Nat.blt i m then ZbH κ m r l else ((κ i).id, u.bind (ZMT κ)) :: ZbH κ m r l := by
      cases u <;> rfl
    rw [hcons] at h
    cases hb : Nat.blt i m with
    | true =>
      have him : i < m := Nat.le_of_ble_eq_true hb
      rw [hb] at h
      rcases ih h with ⟨h1, en', h2, h3⟩ | h1
      · exact .inl ⟨h1, en', by rw [ZaF, if_neg (by omega)]; exact h2, h3⟩
      · exact .inr h1
    | false =>
      have him : m <= i := Nat.le_of_lt_succ (Zov hb)
      rw [hb] at h
      simp only [cond_false] at h
      rw [ZaF, hκ i him] at h
      split at h
      · rename_i hid
        cases u with
        | none => cases h
        | some en => exact .inl ⟨by omega, en, by rw [ZaF, if_pos (by omega)], h⟩
      · rename_i hid
        rcases ih h with ⟨h1, en', h2, h3⟩ | h1
        · exact .inl ⟨h1, en', by rw [ZaF, if_neg (by omega)]; exact h2, h3⟩
        · exact .inr h1
theorem Frame.trans {w0 w w' : World} {fp fc : Nat -> Nat -> Prop} (h : Frame w0 fp w) (k : Frame w fc w') (hf : ∀ b o, fc b o -> fp b o ∨ w0.heap.size <= b) : Frame w0 fp w' := by
  have hs := h.size
  refine ⟨k.os.trans h.os, k.tape.trans h.tape, k.output.trans h.output, Nat.le_trans hs k.size, fun b hb hn => ?_, fun b hb c t fz hc => ?_⟩
  · rw [k.other b (by omega) fun o ho => (hf b o ho).elim (hn o) (by omega)]
    exact h.other b hb hn
  · obtain ⟨c1, h1, h2, h3⟩ := h.cells b hb c t fz hc
    obtain ⟨c2, g1, g2, g3⟩ := k.cells b (by omega) c1 t fz h1
    refine ⟨c2, g1, by omega, fun o ho => ?_⟩
    rw [g3 o fun hfc => (hf b o hfc).elim ho (by omega), h3 o ho]
theorem Frame.cell {w w' : World} {fp : Nat -> Nat -> Prop} (h : Frame w fp w') {b o : Nat} {v : Value} (hv : w.cell? ⟨b, o, none⟩ = some v) :
    (¬ fp b o -> w'.cell? ⟨b, o, none⟩ = some v) /\ (∃ v', w'.cell? ⟨b, o, none⟩ = some v') /\ w'.frozen? ⟨b, o, none⟩ = w.frozen? ⟨b, o, none⟩ := by
  have hb := Zdd hv
  simp only at hb
  unfold World.cell? at hv
  split at hv
  · rename_i c t fz hc
    obtain ⟨c', h1, h2, h3⟩ := h.cells b hb c t fz hc
    simp only [Option.isSome_none, Bool.false_eq_true, if_false] at hv
    refine ⟨fun hn => ?_, ?_, ?_⟩
    · simp only [World.cell?, h1, Option.isSome_none, Bool.false_eq_true, if_false]
      rw [h3 o hn]; exact hv
    · have ho : o < c.size := (Array.getElem?_eq_some_iff.1 hv).1
      exact ⟨c'[o]'(by omega), by simp [World.cell?, h1, show o < c'.size by omega]⟩
    · simp only [World.frozen?, h1, hc]
  · cases hv
theorem Znf {P : Program} {f : FuncId} {S : Zyw} {rw : List Nat} (hS : Sound P f S) {vs : List SVal} {H : Heap} {K : SVal -> Heap -> Prop} (h : ZzA S rw vs H K)
    {w0 : World} {fp : Nat -> Nat -> Prop} {ρ : Rho} {w : World} (hr : Rel w0 fp ρ H w) (hok : okL ρ H.next vs) :
    Calls P f (ZaH ρ vs).toArray w fun e w' => ∃ v, e = .returned v /\ OpPost w0 fp ρ H K v w' := by
  obtain ⟨vs', ps, h1, _, h2⟩ := ZlN (ZxD (H := H) (rw := rw) 8) vs [] _ h
  obtain ⟨hd0, hSpec⟩ := Zai h1
  have hd := hd0
  generalize hκd : kap ps ps.length H.next = κ at hSpec
  have hκ : ∀ i p, ps[i]? = some p -> κ i = p.1 := fun i p hp => by rw [<- hκd]; exact ZLo hp
  have hκ' : ∀ i, ps.length <= i -> κ i = ⟨i - ps.length + H.next, 0, none⟩ := fun i hi => by rw [<- hκd]; exact ZLp hi
  obtain ⟨hren, hbd, hparts⟩ := h2 κ ps.length (Nat.le_refl _) hκ
  have hpart : ∀ i p, ps[i]? = some p -> PartOk H κ ps.length p := fun i p hp => hparts i p (Nat.zero_le _) hp
  clear h h1 h2 hparts hκd
  have hsz : ∀ (i : Nat) (p : Part × Ent) (en : Ent), ps[i]? = some p -> H.find p.1.id = some en -> p.1.off + p.1.lo.getD 0 + (Zam p.2.cs + p.2.ex) <= en.size /\ (p.2.ex = 0 ∨ p.1.off = 0 /\ p.1.lo = none /\ p.2.wr = true /\ Zam p.2.cs = Zam en.cs /\ p.2.ex = en.ex) := fun i p en hp hen => by
    obtain ⟨⟨en1, hen1, _, hle, _⟩, hex, _⟩ := hpart i p hp
    rw [hen] at hen1
    cases hen1
    rcases hex with hex | ⟨h1, h2, h3, en2, hen2, h4, h5⟩
    · exact ⟨by simp only [Ent.size, hex]; omega, .inl hex⟩
    · rw [hen] at hen2
      cases hen2
      exact ⟨by simp [Ent.size, h1, h2, h5, h4], .inr ⟨h1, h2, h3, h5, h4.symm⟩⟩
  have hviaP : ∀ i p, ps[i]? = some p -> ρ.via κ i = (ρ p.1.id).map fun q => (q.1, q.2 + (p.1.off + p.1.lo.getD 0)) := fun i p hp => by
    unfold Rho.via; rw [hκ i p hp]
  have hfindC : ∀ i en, (⟨ps.length, Zc5 0 ps⟩ : Heap).find i = some en -> ∃ p, ps[i]? = some p /\ p.2 = en := fun i en he => by
    obtain ⟨_, p, hp, he'⟩ := ZjL ps 0 i en he
    exact ⟨p, hp, he'⟩
  have hgetC : ∀ i p, ps[i]? = some p -> (⟨ps.length, Zc5 0 ps⟩ : Heap).find i = some p.2 := fun i p hp => by
    have := ZkQ ps 0 i p hp
    rwa [Nat.zero_add] at this
  have hwinC : ∀ i p b o, ps[i]? = some p -> Win (ρ.via κ) i p.2 b o -> ∃ en base, H.find p.1.id = some en /\ (p.2.wr = true -> en.wr = true) /\ Win ρ p.1.id en b o /\ ρ p.1.id = some (b, base) /\
      base + (p.1.off + p.1.lo.getD 0) <= o /\ o < base + (p.1.off + p.1.lo.getD 0) + (Zam p.2.cs + p.2.ex) := fun i p b o hp hw => by
    obtain ⟨⟨en, hen, hwr, hle, _⟩, hex, _⟩ := hpart i p hp
    obtain ⟨base', hb, h1, h2⟩ := hw
    rw [hviaP i p hp] at hb
    cases hρ : ρ p.1.id with
    | none => rw [hρ] at hb; cases hb
    | some q =>
      rw [hρ] at hb
      simp only [Option.map_some, Option.some.injEq, Prod.mk.injEq] at hb
      obtain ⟨rfl, rfl⟩ := hb
      have hs := (hsz i p en hp hen).1
      simp only [Ent.size] at h2 hs
      exact ⟨en, q.2, hen, hwr, ⟨q.2, by rw [hρ], by omega, by simp only [Ent.size]; omega⟩, rfl, h1, h2⟩
  -- the callee's relation
  have hrc : Rel w (Zr9 (ρ.via κ) ⟨ps.length, Zc5 0 ps⟩) (ρ.via κ) ⟨ps.length, Zc5 0 ps⟩ w := by
    refine ⟨Frame.refl _ _, fun i en he => ?_, fun i en he => ?_, fun i en he hwr b o hw => .inl ⟨i, en, he, hwr, hw⟩, fun i j en en' hne he he' hwr b o hw hw' => ?_, fun i en he => ?_, fun i en he => ?_, fun i en he q1 q2 => ?_, AbsR.none fun i en he q1 q2 => ?_, fun i en n hs f he hf j hj => ?_⟩
    · obtain ⟨p, hp, rfl⟩ := hfindC i en he
      obtain ⟨⟨en, hen, hwr, hle, hcs⟩, hex, _⟩ := hpart i p hp
      have hE := hr.ents _ _ hen
      have hcc := (hcs ρ H.next (hr.oks _ _ hen)).2
      rw [ZdW] at hcc
      refine ⟨fun hn => ?_, fun b base hb k v hv => ?_, fun hw b base hb k hk => ?_, fun q1 q2 => by rcases hex with hex | ⟨_, _, h3, _⟩ <;> simp_all⟩
      · rw [hviaP i p hp, Option.map_eq_none_iff] at hn
        have := hE.nil hn
        have hs := (hsz i p en hp hen).1
        simp only [Ent.size] at *
        omega
      · rw [hviaP i p hp, Option.map_eq_some_iff] at hb
        obtain ⟨q, hq, hqe⟩ := hb
        cases hqe
        have hk := (List.getElem?_eq_some_iff.1 hv).1
        rw [Zan] at hk
        have := ZcB hcc (by rw [Zan]; omega) k v hv
        have := hE.cells q.1 q.2 hq _ _ this
        rwa [show q.2 + (p.1.off + p.1.lo.getD 0 + k) = q.2 + (p.1.off + p.1.lo.getD 0) + k by omega] at this
      · rw [hviaP i p hp, Option.map_eq_some_iff] at hb
        obtain ⟨q, hq, hqe⟩ := hb
        cases hqe
        have hs := (hsz i p en hp hen).1
        simp only [Ent.size] at hk hs
        have := hE.own (hwr hw) q.1 q.2 hq (p.1.off + p.1.lo.getD 0 + k) (by simp only [Ent.size]; omega)
        rwa [show q.2 + (p.1.off + p.1.lo.getD 0 + k) = q.2 + (p.1.off + p.1.lo.getD 0) + k by omega] at this
    · obtain ⟨p, hp, rfl⟩ := hfindC i en he
      obtain ⟨⟨en, hen, _, _, hcs⟩, _, hbd'⟩ := hpart i p hp
      exact ZiF _ (hcs ρ H.next (hr.oks _ _ hen)).1 hbd'
    · obtain ⟨p, hp, rfl⟩ := hfindC i en he
      obtain ⟨q, hq, rfl⟩ := hfindC j en' he'
      obtain ⟨e1, _, g1, g2, g3, _⟩ := hwinC i p b o hp hw
      obtain ⟨e2, _, k1, _, k3, _⟩ := hwinC j q b o hq hw'
      exact hr.apart _ _ _ _ (Zpa hd i j p q hp hq hne hwr) g1 k1 (g2 hwr) b o g3 k3
    · obtain ⟨p, hp, _⟩ := hfindC i en he
      exact (List.getElem?_eq_some_iff.1 hp).1
    · obtain ⟨p, hp, rfl⟩ := hfindC i en he
      rcases (hpart i p hp).ex with h | ⟨_, _, h, _⟩
      · exact .inr (.inl h)
      · exact .inl h
    · obtain ⟨p, hp, rfl⟩ := hfindC i en he
      rcases (hpart i p hp).ex with h | ⟨_, _, h, _⟩
      · rw [h] at q2; cases q2
      · rw [h] at q1; cases q1
    · obtain ⟨p, hp, rfl⟩ := hfindC i en he
      rcases (hpart i p hp).ex with h | ⟨_, _, h, _⟩
      · rw [h] at q2; cases q2
      · rw [h] at q1; cases q1
    · obtain ⟨p, hp, rfl⟩ := hfindC i en he
      obtain ⟨hw0, e0, q1, q2⟩ := (hpart i p hp).hid (by rw [hf]; rfl)
      refine (hr.hid _ e0 n hs f q1 (q2.trans hf) j hj).to (fun x o v _ hx => ?_) fun _ _ _ hc _ => hc
      rcases hx with ⟨i2, en2, g1, g2, g3⟩ | ⟨hx, _⟩
      · obtain ⟨p2, hp2, rfl⟩ := hfindC i2 en2 g1
        obtain ⟨e3, _, k1, k2, k3, _⟩ := hwinC i2 p2 x o hp2 g3
        exact .inl ⟨_, e3, k1, k2 g2, k3⟩
      · rw [hw0] at hx; cases hx
  have hargs : okL (ρ.via κ) ps.length vs' := Zju _ (hren.symm ▸ hok) hbd
  have hconc : ZaH ρ vs = ZaH (ρ.via κ) vs' := by rw [<- Zfj, hren]
  rw [hconc]
  refine (hS vs' _ _ hSpec (ρ.via κ) w hrc hargs).mono ?_
  rintro e w' ⟨ρ', r, H', hput, rfl, hrok, hag, hnx, hrel⟩
  simp only at hag hnx
  let ρn : Rho := fun id => if id < H.next then ρ id else ρ' (id - H.next + ps.length)
  have hnlt : ∀ id, id < H.next -> ρn id = ρ id := fun id hid => by simp only [ρn, if_pos hid]
  have hnge : ∀ id, H.next <= id -> ρn id = ρ' (id - H.next + ps.length) := fun id hid => by simp only [ρn, if_neg (Nat.not_lt.2 hid)]
  have hagree : ∀ i, i < H'.next -> ρn.via κ i = ρ' i := fun i hi => by
    rcases Nat.lt_or_ge i ps.length with hlt | hge
    · have hp := List.getElem?_eq_getElem hlt
      obtain ⟨⟨en, hen, _⟩, _, _⟩ := hpart i _ hp
      rw [hag i hlt]
      unfold Rho.via
      rw [hκ i _ hp, hnlt _ (hr.next _ _ hen)]
    · unfold Rho.via
      rw [hκ' i hge, hnge _ (by simp only; omega)]
      simp only [Option.getD_none, Nat.add_zero]
      rw [show i - ps.length + H.next - H.next + ps.length = i by omega]
      cases ρ' i <;> rfl
  have hκlt : ∀ i, i < H'.next -> (κ i).id < H.next + (H'.next - ps.length) := fun i hi => by
    rcases Nat.lt_or_ge i ps.length with hlt | hge
    · have hp := List.getElem?_eq_getElem hlt
      obtain ⟨⟨en, hen, _⟩, _, _⟩ := hpart i _ hp
      rw [hκ i _ hp]
      have := hr.next _ _ hen
      omega
    · rw [hκ' i hge]; simp only; omega
  have hokold : ∀ id en, H.find id = some en -> ZaE ρn (H.next + (H'.next - ps.length)) en.cs := fun id en he => Za8 hnlt (by omega) _ (hr.oks _ _ he)
  have hoknew : ∀ j en', H'.find j = some en' -> ZaE ρn (H.next + (H'.next - ps.length)) (ZaD κ en'.cs) := fun j en' he =>
    Zjv hκlt _ (Za8 hagree (Nat.le_refl _) _ (hrel.oks _ _ he))
  have hconcnew : ∀ j en', H'.find j = some en' -> Zab ρn (ZaD κ en'.cs) = Zab ρ' en'.cs := fun j en' he => by
    rw [ZdW]; exact Zba hagree _ (hrel.oks _ _ he)
  obtain ⟨Hu, hK, hun, huo, huw⟩ := Zdk ps 0 H _ hput hd hokold hoknew
  obtain ⟨hrwh, hK⟩ := Zai hK
  simp only [Nat.zero_add] at huw
  have hfr := hrel.frame
  -- what the final heap has
  have hfind : ∀ id en, (⟨H.next + (H'.next - ps.length), ZbH κ ps.length H'.ents Hu.ents⟩ : Heap).find id = some en ->
      (H.next <= id /\ ∃ en', H'.find (id - H.next + ps.length) = some en' /\ en'.wr = true /\ en = ⟨true, ZaD κ en'.cs, en'.ex⟩) ∨
      (id < H.next /\ (∀ (j : Nat) p, ps[j]? = some p -> p.2.wr = true -> p.1.id ≠ id) /\ H.find id = some en) ∨
      (id < H.next /\ ∃ (j : Nat) (p : Part × Ent) (en0 en' : Ent), ps[j]? = some p /\ p.2.wr = true /\ p.1.id = id /\ H.find id = some en0 /\ H'.find j = some en' /\ en'.wr = true /\ en'.ex = p.2.ex /\ en.wr = true /\ en.ex = en0.ex /\
        ZaE ρn (H.next + (H'.next - ps.length)) en.cs /\ Zam en.cs = Zam en0.cs /\ Zam en'.cs = Zam p.2.cs /\ p.1.off + p.1.lo.getD 0 + Zam p.2.cs <= Zam en0.cs /\
        Zab ρn en.cs = (Zab ρn en0.cs).take (p.1.off + p.1.lo.getD 0) ++ Zab ρn (ZaD κ en'.cs) ++ (Zab ρn en0.cs).drop (p.1.off + p.1.lo.getD 0 + Zam p.2.cs) /\ Za2 en.cs = none) := fun id en he => by
    rcases newEnts_find (next := H.next) (fun i hi => by rw [hκ' i hi]) H'.ents id en he with ⟨h1, en', h2, h3⟩ | h1
    · left
      refine ⟨h1, en', h2, ?_⟩
      unfold ZMT at h3
      cases hw : en'.wr with
      | false => rw [hw] at h3; cases h3
      | true => rw [hw] at h3; exact ⟨rfl, by simpa using h3.symm⟩
    · right
      by_cases hex : ∃ (j : Nat) (p : Part × Ent), ps[j]? = some p /\ p.2.wr = true /\ p.1.id = id
      · right
        obtain ⟨j, p, hp, hw, hid⟩ := hex
        rcases huw j p hp hw with e0 | ⟨en0, en', cs', g1, g2, g3, g4, g5, g6, g7, g8, g9, g10⟩
        · rw [hid] at e0
          have e1 : Hu.find id = some en := h1
          rw [e0] at e1; cases e1
        rw [hid] at g1 g5
        have : en = ⟨true, cs', en0.ex⟩ := Option.some.inj (h1.symm.trans g5)
        subst this
        exact ⟨hr.next _ _ g1, j, p, en0, en', hp, hw, hid, g1, g2, g3, g4, rfl, rfl, g6, g7, g8, g9, g10⟩
      · left
        have hne : ∀ (j : Nat) p, ps[j]? = some p -> p.2.wr = true -> p.1.id ≠ id := fun j p hp hw hid => hex ⟨j, p, hp, hw, hid⟩
        have : H.find id = some en := by rw [<- huo id hne]; exact h1
        exact ⟨hr.next _ _ this, hne, this⟩
  have hHu : ∀ id en, (⟨H.next + (H'.next - ps.length), ZbH κ ps.length H'.ents Hu.ents⟩ : Heap).find id = some en -> id < H.next -> Hu.find id ≠ none := fun id en he hid => by
    rcases newEnts_find (next := H.next) (fun i hi => by rw [hκ' i hi]) H'.ents id en he with ⟨h1, _⟩ | h1
    · omega
    · have e1 : Hu.find id = some en := h1
      rw [e1]; simp
  have hfc : ∀ b o, Zr9 (ρ.via κ) ⟨ps.length, Zc5 0 ps⟩ b o -> ∃ (i : Nat) (p : Part × Ent) (en : Ent) (base : Nat), ps[i]? = some p /\ p.2.wr = true /\ H.find p.1.id = some en /\ en.wr = true /\ Win ρ p.1.id en b o /\ ρ p.1.id = some (b, base) /\
      base + (p.1.off + p.1.lo.getD 0) <= o /\ o < base + (p.1.off + p.1.lo.getD 0) + (Zam p.2.cs + p.2.ex) := fun b o ⟨i, en, he, hw, hwin⟩ => by
    obtain ⟨p, hp, rfl⟩ := hfindC i en he
    obtain ⟨en, base, g1, g2, g3, g4, g5, g6⟩ := hwinC i p b o hp hwin
    exact ⟨i, p, en, base, hp, hw, g1, g2 hw, g3, g4, g5, g6⟩
  have hfcfp : ∀ b o, Zr9 (ρ.via κ) ⟨ps.length, Zc5 0 ps⟩ b o -> fp b o ∨ w0.heap.size <= b := fun b o hf => by
    obtain ⟨i, p, en, base, _, _, g1, g2, g3, _⟩ := hfc b o hf
    exact hr.own _ _ g1 g2 b o g3
  -- windows of old entries are as they were
  have hwold : ∀ id en en0, id < H.next -> Zam en.cs = Zam en0.cs -> en.ex = en0.ex -> ∀ b o, Win ρn id en b o -> Win ρ id en0 b o := fun id en en0 hid hl hx b o hw => by
    unfold Win Ent.size at *
    rw [hnlt id hid, hl, hx] at hw
    exact hw
  -- what a new entry has, no old one has
  have hnewold : ∀ j en' id en0 b o, ps.length <= j -> H'.find j = some en' -> en'.wr = true -> H.find id = some en0 -> Hu.find id ≠ none -> Win ρ' j en' b o -> Win ρ id en0 b o -> False := fun j en' id en0 b o hj hen' hwr hen0 hng hwj hwi => by
    rcases hrel.own _ _ hen' hwr b o hwj with hf | hge
    · obtain ⟨i, p, en, base, hp, hpw, g1, g2, g3, g4, g5, g6⟩ := hfc b o hf
      by_cases hid : p.1.id = id
      · rcases huw i p hp hpw with e0 | ⟨en1, en2, _, _, k2, k3, k4, _, _, _, k8, _⟩
        · rw [hid] at e0; exact absurd e0 hng
        have hilt : i < ps.length := (List.getElem?_eq_some_iff.1 hp).1
        refine hrel.apart j i en' en2 (by omega) hen' k2 hwr b o hwj ⟨base + (p.1.off + p.1.lo.getD 0), ?_, g5, ?_⟩
        · rw [hag i hilt, hviaP i p hp, g4]; rfl
        · simp only [Ent.size, k4, k8]; omega
      · exact hr.apart _ _ _ _ hid g1 hen0 g2 b o g3 hwi
    · have := hr.win_lt hen0 hwi
      omega
  have hwnew : ∀ id en', H.next <= id -> H'.find (id - H.next + ps.length) = some en' -> ∀ b o, Win ρn id ⟨true, ZaD κ en'.cs, en'.ex⟩ b o -> Win ρ' (id - H.next + ps.length) en' b o := fun id en' hid he b o hw => by
    unfold Win Ent.size at *
    rw [hnge id hid] at hw
    simpa only [Za9] using hw
  refine ⟨_, rfl, ρn, r.ren κ, _, hK, ?_, SVal.ok_ren' hκlt _ (SVal.ok_mono hagree (Nat.le_refl _) _ hrok), hnlt, by simp only; omega, hr.frame.trans hfr hfcfp, fun id en he => ?_, fun id en he => ?_, fun id en he hwr b o hw => ?_, fun i1 i2 e1 e2 hne he1 he2 hwr b o hw1 hw2 => ?_, fun id en he => ?_, fun id en he => ?_, fun id en he q1 q2 b base hb => ?_, ?_, ?_⟩
  · rw [SVal.conc_ren, SVal.conc_congr hagree _ hrok]
  · -- entries
    rcases hfind id en he with ⟨hid, en', g1, g2, rfl⟩ | ⟨hid, hne, g1⟩ | ⟨hid, j, p, en0, en', hp, hpw, hpid, g1, g2, g3, g4, g5, g6, g7, g8, g9, g10, g11, g12⟩
    · have hE := hrel.ents _ _ g1
      refine ⟨fun hn => ?_, fun b base hb k v hv => ?_, fun _ b base hb k hk => ?_, fun q1 => by cases q1⟩
      · rw [hnge id hid] at hn
        have := hE.nil hn
        simpa only [Ent.size, Za9] using this
      · rw [hnge id hid] at hb
        rw [hconcnew _ _ g1] at hv
        exact hE.cells b base hb k v hv
      · rw [hnge id hid] at hb
        exact hE.own g2 b base hb k (by simpa only [Ent.size, Za9] using hk)
    · have hE := hr.ents _ _ g1
      have hnf : ∀ b o, Win ρ id en b o -> ¬ Zr9 (ρ.via κ) ⟨ps.length, Zc5 0 ps⟩ b o := fun b o hw hf => by
        obtain ⟨i, p, en2, base, hp, hpw, k1, k2, k3, _⟩ := hfc b o hf
        exact hr.apart _ _ _ _ (hne i p hp hpw) k1 g1 k2 b o k3 hw
      have hcc := Zba hnlt _ (hr.oks _ _ g1)
      refine ⟨fun hn => hE.nil (by rw [<- hnlt id hid]; exact hn), fun b base hb k v hv => ?_, fun hw b base hb k hk => ?_, fun q1 q2 b base hb => ?_⟩
      · rw [hnlt id hid] at hb
        rw [hcc] at hv
        have hk := (List.getElem?_eq_some_iff.1 hv).1
        rw [Zan] at hk
        exact (hfr.cell (hE.cells b base hb k v hv)).1 (hnf b _ ⟨base, hb, by omega, by simp only [Ent.size]; omega⟩)
      · rw [hnlt id hid] at hb
        obtain ⟨⟨v, hv⟩, hz⟩ := hE.own hw b base hb k hk
        have := hfr.cell hv
        exact ⟨this.2.1, by rw [this.2.2, hz]⟩
      · rw [hnlt id hid] at hb
        have hM := hE.mp q1 q2 b base hb
        obtain ⟨es, cl, hm, hk⟩ := hM
        refine ⟨es, cl, (hfr.other b (Array.getElem?_eq_some_iff.1 hm).1 fun o hf => ?_).trans hm, hk⟩
        obtain ⟨i, p, en2, base2, hp, hpw, k1, k2, k3, k4, k5, k6⟩ := hfc b o hf
        obtain ⟨b2, k7, k8, k9⟩ := k3
        obtain ⟨⟨v, hv⟩, _⟩ := (hr.ents _ _ k1).own k2 b b2 k7 (o - b2) (by omega)
        simp [World.cell?, hm] at hv
    · have hE := hr.ents _ _ g1
      have hcc := Zba hnlt _ (hr.oks _ _ g1)
      have henw : en0.wr = true := by
        obtain ⟨⟨e5, k1, k2, _⟩, _, _⟩ := hpart j p hp
        rw [hpid] at k1
        rw [Option.some.inj (g1.symm.trans k1)]
        exact k2 hpw
      refine ⟨fun hn => ?_, fun b base hb k v hv => ?_, fun hw b base hb k hk => ?_, fun q1 => by rw [g5] at q1; cases q1⟩
      · have := hE.nil (by rw [<- hnlt id hid]; exact hn)
        simp only [Ent.size] at *; omega
      · rw [hnlt id hid] at hb
        rw [g11, hcc, ZcS, List.length_take, Zan, Zan, Nat.min_eq_left (by omega), Za9, g9] at hv
        have hjlt : j < ps.length := (List.getElem?_eq_some_iff.1 hp).1
        -- outside of the window nothing has turned
        have hout : (k < p.1.off + p.1.lo.getD 0 ∨ p.1.off + p.1.lo.getD 0 + Zam p.2.cs <= k) -> ∀ v, (Zab ρ en0.cs)[k]? = some v -> w'.cell? ⟨b, base + k, none⟩ = some v := fun hk v hv => by
          have hkl := (List.getElem?_eq_some_iff.1 hv).1
          rw [Zan] at hkl
          refine (hfr.cell (hE.cells b base hb k v hv)).1 fun hf => ?_
          obtain ⟨i, q, en2, base2, hq, hqw, k1, k2, k3, k4, k5, k6⟩ := hfc b _ hf
          by_cases hij : i = j
          · subst hij
            have : q = p := Option.some.inj (hq.symm.trans hp)
            subst this
            rw [hpid, hb] at k4
            cases k4
            rcases (hsz i q en0 hq (by rw [hpid]; exact g1)).2 with z | ⟨z1, z2, _, z4, _⟩
            · omega
            · rw [z1, z2] at *
              simp only [Option.getD_none, Nat.add_zero, Nat.zero_add] at *
              omega
          · have hne2 := Zpa hd j i p q hp hq (Ne.symm hij) hpw
            rw [hpid] at hne2
            exact hr.apart _ _ _ _ hne2 g1 k1 henw b _ ⟨base, hb, by omega, by simp only [Ent.size]; omega⟩ k3
        split at hv
        · rename_i hk1
          rw [List.getElem?_take_of_lt hk1] at hv
          exact hout (.inl hk1) v hv
        · rename_i hk1
          split at hv
          · rename_i hk2
            rw [hconcnew _ _ g2] at hv
            have := (hrel.ents _ _ g2).cells b (base + (p.1.off + p.1.lo.getD 0)) (by rw [hag j hjlt, hviaP j p hp, hpid, hb]; rfl) _ v hv
            rwa [show base + (p.1.off + p.1.lo.getD 0) + (k - (p.1.off + p.1.lo.getD 0)) = base + k by omega] at this
          · rename_i hk2
            rw [List.getElem?_drop, show p.1.off + p.1.lo.getD 0 + Zam p.2.cs + (k - (p.1.off + p.1.lo.getD 0) - Zam p.2.cs) = k by omega] at hv
            exact hout (.inr (by omega)) v hv
      · rw [hnlt id hid] at hb
        obtain ⟨⟨v, hv⟩, hz⟩ := hE.own henw b base hb k (by simp only [Ent.size] at *; omega)
        have := hfr.cell hv
        exact ⟨this.2.1, by rw [this.2.2, hz]⟩
  · rcases hfind id en he with ⟨hid, en', g1, g2, rfl⟩ | ⟨hid, hne, g1⟩ | ⟨hid, j, p, en0, en', hp, hpw, hpid, g1, g2, g3, g4, g5, g6, g7, _⟩
    · exact hoknew _ _ g1
    · exact hokold _ _ g1
    · exact g7
  · rcases hfind id en he with ⟨hid, en', g1, g2, rfl⟩ | ⟨hid, hne, g1⟩ | ⟨hid, j, p, en0, en', hp, hpw, hpid, g1, g2, g3, g4, g5, g6, g7, g8, _⟩
    · rcases hrel.own _ _ g1 g2 b o (hwnew id en' hid g1 b o hw) with hf | hge
      · exact hfcfp b o hf
      · have := hr.frame.size; right; omega
    · exact hr.own _ _ g1 hwr b o (hwold id en en hid rfl rfl b o hw)
    · have henw : en0.wr = true := by
        obtain ⟨⟨e5, k1, k2, _⟩, _, _⟩ := hpart j p hp
        rw [hpid] at k1
        rw [Option.some.inj (g1.symm.trans k1)]
        exact k2 hpw
      exact hr.own _ _ g1 henw b o (hwold id en en0 hid g8 g6 b o hw)
  · -- the old entry that an entry was
    have hold : ∀ id en, (⟨H.next + (H'.next - ps.length), ZbH κ ps.length H'.ents Hu.ents⟩ : Heap).find id = some en -> id < H.next -> ∃ en0, H.find id = some en0 /\ (en.wr = true -> en0.wr = true) /\ ∀ b o, Win ρn id en b o -> Win ρ id en0 b o := fun id en he hid => by
      rcases hfind id en he with ⟨hid', _⟩ | ⟨_, hne, g1⟩ | ⟨_, j, p, en0, en', hp, hpw, hpid, g1, g2, g3, g4, g5, g6, g7, g8, _⟩
      · omega
      · exact ⟨en, g1, fun h => h, hwold _ en en hid rfl rfl⟩
      · refine ⟨en0, g1, fun _ => ?_, hwold _ en en0 hid g8 g6⟩
        obtain ⟨⟨e5, k1, k2, _⟩, _, _⟩ := hpart j p hp
        rw [hpid] at k1
        rw [Option.some.inj (g1.symm.trans k1)]
        exact k2 hpw
    have hnew : ∀ id en, (⟨H.next + (H'.next - ps.length), ZbH κ ps.length H'.ents Hu.ents⟩ : Heap).find id = some en -> H.next <= id -> ∃ en', H'.find (id - H.next + ps.length) = some en' /\ en'.wr = true /\ ∀ b o, Win ρn id en b o -> Win ρ' (id - H.next + ps.length) en' b o := fun id en he hid => by
      rcases hfind id en he with ⟨_, en', g1, g2, rfl⟩ | ⟨hid', _⟩ | ⟨hid', _⟩
      · exact ⟨en', g1, g2, hwnew id en' hid g1⟩
      · omega
      · omega
    rcases Nat.lt_or_ge i1 H.next with h1 | h1
    · obtain ⟨a1, a2, a3, a4⟩ := hold i1 e1 he1 h1
      rcases Nat.lt_or_ge i2 H.next with h2 | h2
      · obtain ⟨b1, b2, b3, b4⟩ := hold i2 e2 he2 h2
        exact hr.apart _ _ _ _ hne a2 b2 (a3 hwr) b o (a4 b o hw1) (b4 b o hw2)
      · obtain ⟨b1, b2, b3, b4⟩ := hnew i2 e2 he2 h2
        exact hnewold _ _ _ _ b o (by omega) b2 b3 a2 (hHu _ _ he1 h1) (b4 b o hw2) (a4 b o hw1)
    · obtain ⟨a1, a2, a3, a4⟩ := hnew i1 e1 he1 h1
      rcases Nat.lt_or_ge i2 H.next with h2 | h2
      · obtain ⟨b1, b2, b3, b4⟩ := hold i2 e2 he2 h2
        exact hnewold _ _ _ _ b o (by omega) a2 a3 b2 (hHu _ _ he2 h2) (a4 b o hw1) (b4 b o hw2)
      · obtain ⟨b1, b2, b3, b4⟩ := hnew i2 e2 he2 h2
        exact hrel.apart _ _ _ _ (by omega) a2 b2 a3 b o (a4 b o hw1) (b4 b o hw2)
  · rcases hfind id en he with ⟨hid, en', g1, g2, rfl⟩ | ⟨hid, _⟩ | ⟨hid, _⟩
    · have := hrel.next _ _ g1
      simp only; omega
    · simp only; omega
    · simp only; omega
  · rcases hfind id en he with ⟨hid, en', g1, g2, rfl⟩ | ⟨hid, hne, g1⟩ | ⟨hid, j, p, en0, en', hp, hpw, hpid, g1, g2, g3, g4, g5, g6, g7, _⟩
    · exact .inl rfl
    · exact hr.ro _ _ g1
    · exact .inl g5
  · rcases hfind id en he with ⟨hid, en', g1, g2, rfl⟩ | ⟨hid, hne, g1⟩ | ⟨hid, j, p, en0, en', hp, hpw, hpid, g1, g2, g3, g4, g5, g6, g7, _⟩
    · cases q1
    · exact hr.mnew _ _ g1 q1 q2 b base (by rw [<- hnlt id hid]; exact hb)
    · rw [g5] at q1; cases q1
  · refine hr.ab.to hfr.size (fun id en he => hnlt id (hr.next _ _ he)) (fun id en he q1 _ => ?_) (fun id en x o he hw => ?_) fun x hx hn => hfr.other x hx fun o hf => ?_
    · rcases hfind id en he with ⟨hid, en', g1, g2, rfl⟩ | ⟨hid, hne, g1⟩ | ⟨hid, j, p, en0, en', hp, hpw, hpid, g1, g2, g3, g4, g5, _⟩
      · cases q1
      · exact g1
      · rw [g5] at q1; cases q1
    · rcases hfind id en he with ⟨hid, en', g1, g2, rfl⟩ | ⟨hid, hne, g1⟩ | ⟨hid, j, p, en0, en', hp, hpw, hpid, g1, g2, g3, g4, g5, g6, g7, g8, _⟩
      · rcases hrel.own _ _ g1 g2 x o (hwnew id en' hid g1 x o hw) with hf | hge
        · obtain ⟨i, p, en2, base, hp, hpw, k1, k2, k3, _⟩ := hfc x o hf
          exact .inl ⟨_, en2, k1, k3, .inr k2⟩
        · exact .inr hge
      · exact .inl ⟨id, en, g1, hwold id en en hid rfl rfl x o hw, .inl rfl⟩
      · exact .inl ⟨id, en0, g1, hwold id en en0 hid g8 g6 x o hw, .inl rfl⟩
    · obtain ⟨i, p, en2, base, hp, hpw, k1, k2, k3, _⟩ := hfc x o hf
      exact hn _ _ o k1 (.inl k2) k3
  · have hWr : ∀ x o, x < w.heap.size -> Wr ρn ⟨H.next + (H'.next - ps.length), ZbH κ ps.length H'.ents Hu.ents⟩ x o -> Wr ρ H x o := fun x o hv ⟨id, en, he, hwr, hw⟩ => ?_
    · have hWr' : ∀ x o, w.heap.size <= x -> Wr ρn ⟨H.next + (H'.next - ps.length), ZbH κ ps.length H'.ents Hu.ents⟩ x o -> Wr ρ' H' x o := fun x o hge ⟨id, en, he, hwr, hw⟩ => by
        rcases hfind id en he with ⟨hid, en', g1, g2, rfl⟩ | ⟨hid, hne, g1⟩ | ⟨hid, j, p, en0, en', hp, hpw, hpid, g1, g2, g3, g4, g5, g6, g7, g8, _⟩
        · exact ⟨_, en', g1, g2, hwnew id en' hid g1 x o hw⟩
        · have := hr.win_lt g1 (hwold id en en hid rfl rfl x o hw); omega
        · have := hr.win_lt g1 (hwold id en en0 hid g8 g6 x o hw); omega
      have hnewrow : ∀ (h : Hdr) (fi : Nat × List Value), HidRow w' (fun x o => Wr ρ' H' x o ∨ true = true /\ x < w.heap.size /\ ¬ Zr9 (ρ.via κ) ⟨ps.length, Zc5 0 ps⟩ x o) h fi -> ZOc ps = true -> ∀ b : Bool, HidRow w' (fun x o => Wr ρn ⟨H.next + (H'.next - ps.length), ZbH κ ps.length H'.ents Hu.ents⟩ x o ∨ b = true /\ x < w0.heap.size /\ ¬ fp x o) h fi := fun h fi hrow hno b => by
        rcases hrow with hrow | ⟨b1, o1, c1, k1, k2, k3⟩
        · exact .inl hrow
        · refine .inr ⟨b1, o1, c1, k1, k2, fun j v hv => ?_⟩
          obtain ⟨k4, k5⟩ := k3 j v hv
          have hge : w.heap.size <= b1 := Nat.le_of_not_lt fun hlt => k5 (.inr ⟨rfl, hlt, fun hfx => by
            obtain ⟨i, p, en2, base, hp, hpw, _⟩ := hfc _ _ hfx
            have := List.all_eq_true.1 hno p (List.mem_of_getElem? hp)
            rw [hpw] at this; cases this⟩)
          refine ⟨k4, fun hx => ?_⟩
          rcases hx with hx | ⟨_, hx⟩
          · exact k5 (.inl (hWr' _ _ hge hx))
          · have := hr.frame.size; have := hx.1; omega
      intro id en n hs f he hf i hi
      rcases hfind id en he with ⟨hid, en', g1, g2, rfl⟩ | ⟨hid, hne, g1⟩ | ⟨hid, j, p, en0, en', hp, hpw, hpid, g1, g2, g3, g4, g5, g6, g7, g8, g9, g10, g11, g12⟩
      · have := hrel.hid _ en' n hs f g1 (by rw [<- ZjJ κ en'.cs]; exact hf) i hi
        rw [g2] at this
        rw [Bool.or_eq_true] at hrwh
        rcases hrwh with hno | hno
        · exact hnewrow _ _ this hno _
        · have h0 := ZgU hno g1
          rw [ZjJ, h0] at hf; cases hf
      · refine (hr.hid id en n hs f g1 hf i hi).to (fun x o v hv hx => ?_) fun x o v hv hn => ?_
        · rcases hx with hx | hx
          · exact .inl (hWr x o (Zdd hv) hx)
          · exact .inr hx
        · refine (hfr.cell hv).1 fun hf => ?_
          obtain ⟨i, p, en2, base, hp, hpw, k1, k2, k3, _⟩ := hfc x o hf
          exact hn (.inl ⟨_, en2, k1, k2, k3⟩)
      · rw [g12] at hf; cases hf
    · rcases hfind id en he with ⟨hid, en', g1, g2, rfl⟩ | ⟨hid, hne, g1⟩ | ⟨hid, j, p, en0, en', hp, hpw, hpid, g1, g2, g3, g4, g5, g6, g7, g8, _⟩
      · rcases hrel.own _ _ g1 g2 x o (hwnew id en' hid g1 x o hw) with hf | hge
        · obtain ⟨i, p, en2, base, hp, hpw, k1, k2, k3, _⟩ := hfc x o hf
          exact ⟨_, en2, k1, k2, k3⟩
        · omega
      · exact ⟨id, en, g1, hwr, hwold id en en hid rfl rfl x o hw⟩
      · obtain ⟨⟨e5, k1, k2, _⟩, _, _⟩ := hpart j p hp
        rw [hpid] at k1
        have henw : en0.wr = true := by rw [Option.some.inj (g1.symm.trans k1)]; exact k2 hpw
        exact ⟨id, en0, g1, henw, hwold id en en0 hid g8 g6 x o hw⟩
def Zpb (z : List Chunk) : List SVal -> Heap -> (List SVal -> Heap -> Prop) -> Prop
  | [], H, K => K [] H
  | .nilslice :: r, H, K => Zpb z r (ZoS z H) fun r' H' => K (Zza z H :: r') H'
  | v :: r, H, K => Zpb z r H fun r' H' => K (v :: r') H'
theorem denil_cons {z : List Chunk} {v : SVal} {r : List SVal} {H : Heap} {K : List SVal -> Heap -> Prop} (h : Zpb z (v :: r) H K) :
    (v = .nilslice /\ Zpb z r (ZoS z H) fun r' H' => K (Zza z H :: r') H') ∨ Zpb z r H fun r' H' => K (v :: r') H' := by
  cases v <;> first | exact .inl ⟨rfl, h⟩ | exact .inr h
theorem ZlR {z : List Chunk} (hz : Zbh z = true) (h0 : Zam z = 0) {w0 w : World} {fp : Nat -> Nat -> Prop} : ∀ (vs : List SVal) (H : Heap) (K : List SVal -> Heap -> Prop) (ρ : Rho), Zpb z vs H K -> Rel w0 fp ρ H w -> okL ρ H.next vs ->
    ∃ vs' H' ρ', K vs' H' /\ Rel w0 fp ρ' H' w /\ okL ρ' H'.next vs' /\ ZaH ρ' vs' = ZaH ρ vs /\ (∀ i, i < H.next -> ρ' i = ρ i) /\ H.next <= H'.next
  | [], H, K, ρ, h, hr, _ => ⟨[], H, ρ, h, hr, by simp [okL], by simp [ZaH], fun _ _ => rfl, Nat.le_refl _⟩
  | v :: r, H, K, ρ, h, hr, hok => by
    simp only [okL] at hok
    rcases denil_cons h with ⟨rfl, h⟩ | h
    · obtain ⟨h1, h2, h3⟩ := Zlx hr hz h0
      have hup : ∀ i, i < H.next -> ρ.up H.next none i = ρ i := Rho.up_lt
      have hle : H.next <= (ZoS z H).next := by simp [ZoS, Heap.push]
      obtain ⟨vs', H', ρ', g1, g2, g3, g4, g5, g6⟩ := ZlR hz h0 r _ _ _ h h1 (ZcD hup hle _ hok.2)
      have hlt : ∀ i, i < (ZoS z H).next -> ρ' i = ρ.up H.next none i := g5
      refine ⟨_, _, _, g1, g2, by simp only [okL]; exact ⟨SVal.ok_mono hlt g6 _ h2, g3⟩, ?_, fun i hi => by rw [g5 i (by omega), hup i hi], by omega⟩
      simp only [ZaH, g4, SVal.conc_congr hlt _ h2, h3, Zbq hup _ hok.2]
      rfl
    · obtain ⟨vs', H', ρ', g1, g2, g3, g4, g5, g6⟩ := ZlR hz h0 r _ _ _ h hr hok.2
      exact ⟨_, _, _, g1, g2, by simp only [okL]; exact ⟨SVal.ok_mono g5 g6 _ hok.1, g3⟩, by simp only [ZaH, g4, SVal.conc_congr g5 _ hok.1], g5, g6⟩
structure Con where
  f : Nat
  spec : Zyw
  rw : List Nat := []
  nz : List Chunk := []
  dz : Zs := []
def Zzq : List Con -> Nat -> Option Con
  | [], _ => none
  | c :: r, f => bif Nat.beq c.f f then some c else Zzq r f
def ZAp (cs : List Con) : Zav := fun f vs H K => match Zzq cs f with
  | some c => (match c.dz with
    | [] => (match c.nz with
      | [] => ZzA c.spec c.rw vs H K
      | z :: zs => bif Zbh (z :: zs) && Nat.beq (Zam (z :: zs)) 0 then Zpb (z :: zs) vs H fun vs' H' => ZzA c.spec c.rw vs' H' K else False)
    | d :: dz => bif zsB (d :: dz) then dnL (dnV 8) vs (d :: dz) H fun vs' _ H' => ZzA c.spec c.rw vs' H' K else False)
  | none => False
def Zhf (P : Program) : List Con -> Prop
  | [] => True
  | c :: r => Sound P c.f c.spec /\ Zhf P r
theorem Zec {P : Program} : ∀ {cs : List Con} {f : Nat} {c : Con}, Zhf P cs -> Zzq cs f = some c -> Sound P f c.spec
  | [], _, _, _, h => by cases h
  | d :: r, f, c, hs, h => by
    simp only [Zhf] at hs
    simp only [Zzq] at h
    cases hb : Nat.beq d.f f with
    | true =>
      rw [hb] at h
      have := Nat.eq_of_beq_eq_true hb
      subst this
      cases h
      exact hs.1
    | false => rw [hb] at h; exact Zec hs.2 h
theorem ZyE {P : Program} {cs : List Con} (h : Zhf P cs) : ZaK P (ZAp cs) := by
  intro f vs H K hev _ w0 fp ρ w hr hok
  unfold ZAp at hev
  split at hev
  · rename_i c hc
    split at hev
    rotate_left
    · rename_i d dz _
      obtain ⟨hb, hev⟩ := Zai hev
      obtain ⟨vs', _, H', ρ', g1, _, g2, g3, g4, g5, g6, _⟩ := Zsc (ZxE 8) vs (d :: dz) H _ ρ hev hb hr hok
      rw [<- g4]
      exact (Znf (Zec h hc) g1 g2 g3).mono fun e w' ⟨v, he, ρ'', sv, H'', k1, k2, k3, k4, k5, k6⟩ =>
        ⟨v, he, ρ'', sv, H'', k1, k2, k3, fun i hi => by rw [k4 i (by omega), g5 i hi], by omega, k6⟩
    split at hev
    · exact Znf (Zec h hc) hev hr hok
    · rename_i z zs _
      obtain ⟨hb, hev⟩ := Zai hev
      rw [Bool.and_eq_true] at hb
      obtain ⟨vs', H', ρ', g1, g2, g3, g4, g5, g6⟩ := ZlR hb.1 (Zaq hb.2) vs H _ ρ hev hr hok
      rw [<- g4]
      exact (Znf (Zec h hc) g1 g2 g3).mono fun e w' ⟨v, he, ρ'', sv, H'', k1, k2, k3, k4, k5, k6⟩ =>
        ⟨v, he, ρ'', sv, H'', k1, k2, k3, fun i hi => by rw [k4 i (by omega), g5 i hi], by omega, k6⟩
  · exact hev.elim
end Go.Sx
