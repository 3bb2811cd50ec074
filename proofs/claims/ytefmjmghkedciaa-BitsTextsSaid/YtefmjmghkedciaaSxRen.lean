/- Small heaps renumbered, and parts of them taken for small heaps of their own. -/
import Derived.Test.YtefmjmghkedciaaSxApp
set_option linter.unusedVariables false
set_option linter.unusedSimpArgs false
namespace Go.Sx

structure Part where
  id : Nat
  off : Nat
  lo : Option Nat

def SAddr.ren (τ : Nat → Part) (a : SAddr) : SAddr :=
  match (τ a.id).lo with
  | none => ⟨(τ a.id).id, (τ a.id).off + a.off, a.idx, a.st⟩
  | some lo => ⟨(τ a.id).id, (τ a.id).off + a.off, lo + a.idx * a.st, 1⟩

mutual
def SVal.ren (τ : Nat → Part) : SVal → SVal
  | .bool b => .bool b
  | .int k n => .int k n
  | .str s => .str s
  | .ptr a n => .ptr (a.ren τ) n
  | .nilptr => .nilptr
  | .slice a l c => .slice (a.ren τ) l c
  | .nilslice => .nilslice
  | .agg cs => .agg (renCs τ cs)
  | .tuple vs => .tuple (renL τ vs)
  | .fn f a b => .fn f (renL τ a) (renL τ b)
  | .nilfn => .nilfn
  | .iface t v => .iface t (v.ren τ)
  | .niliface => .niliface
  | .map id => .map (τ id).id
  | .nilmap => .nilmap
def renL (τ : Nat → Part) : List SVal → List SVal
  | [] => []
  | v :: r => v.ren τ :: renL τ r
def Chunk.ren (τ : Nat → Part) : Chunk → Chunk
  | .one v => .one (v.ren τ)
  | .ints k n xs => .ints k n xs
  | .rows sh n xs => .rows sh n xs
def renCs (τ : Nat → Part) : List Chunk → List Chunk
  | [] => []
  | c :: r => c.ren τ :: renCs τ r
end

def Rho.via (ρ : Rho) (τ : Nat → Part) : Rho := fun i => (ρ (τ i).id).map fun p => (p.1, p.2 + ((τ i).off + (τ i).lo.getD 0))

theorem SAddr.conc_ren {ρ : Rho} {τ : Nat → Part} (a : SAddr) : (a.ren τ).conc ρ = a.conc (ρ.via τ) := by
  unfold SAddr.ren SAddr.conc Rho.via
  cases h : (τ a.id).lo with
  | none => cases hr : ρ (τ a.id).id <;> simp <;> omega
  | some lo => cases hr : ρ (τ a.id).id <;> simp <;> omega

mutual
theorem SVal.conc_ren {ρ : Rho} {τ : Nat → Part} : ∀ v : SVal, (v.ren τ).conc ρ = v.conc (ρ.via τ)
  | .bool _ | .int _ _ | .str _ | .nilptr | .nilslice | .nilfn | .niliface | .nilmap => by simp only [SVal.ren, SVal.conc]
  | .ptr a _ => by simp only [SVal.ren, SVal.conc, SAddr.conc_ren]
  | .slice a _ _ => by simp only [SVal.ren, SVal.conc, SAddr.conc_ren]
  | .agg cs => by simp only [SVal.ren, SVal.conc, concCs_ren cs]
  | .tuple vs => by simp only [SVal.ren, SVal.conc, concL_ren vs]
  | .fn _ a b => by simp only [SVal.ren, SVal.conc, concL_ren a, concL_ren b]
  | .iface _ v => by simp only [SVal.ren, SVal.conc, SVal.conc_ren v]
  | .map id => by simp only [SVal.ren, SVal.conc, Rho.via]; cases ρ (τ id).id <;> simp
theorem concL_ren {ρ : Rho} {τ : Nat → Part} : ∀ vs : List SVal, concL ρ (renL τ vs) = concL (ρ.via τ) vs
  | [] => by simp only [renL, concL]
  | v :: r => by simp only [renL, concL, SVal.conc_ren v, concL_ren r]
theorem Chunk.conc_ren {ρ : Rho} {τ : Nat → Part} : ∀ c : Chunk, (c.ren τ).conc ρ = c.conc (ρ.via τ)
  | .one v => by simp only [Chunk.ren, Chunk.conc, SVal.conc_ren v]
  | .ints _ _ _ | .rows _ _ _ => by simp only [Chunk.ren, Chunk.conc]
theorem concCs_ren {ρ : Rho} {τ : Nat → Part} : ∀ cs : List Chunk, concCs ρ (renCs τ cs) = concCs (ρ.via τ) cs
  | [] => by simp only [renCs, concCs]
  | c :: r => by simp only [renCs, concCs, Chunk.conc_ren c, concCs_ren r]
end

mutual
/-- All entries that a value speaks of are below 'n'. -/
def SVal.bd (n : Nat) : SVal → Prop
  | .ptr a _ => a.id < n
  | .slice a _ _ => a.id < n
  | .agg cs => bdCs n cs
  | .tuple vs => bdL n vs
  | .fn _ a b => bdL n a ∧ bdL n b
  | .iface _ v => v.bd n
  | .map id => id < n
  | _ => True
def bdL (n : Nat) : List SVal → Prop
  | [] => True
  | v :: r => v.bd n ∧ bdL n r
def Chunk.bd (n : Nat) : Chunk → Prop
  | .one v => v.bd n
  | _ => True
def bdCs (n : Nat) : List Chunk → Prop
  | [] => True
  | c :: r => c.bd n ∧ bdCs n r
end

theorem via_none {ρ : Rho} {τ : Nat → Part} {i : Nat} : ρ.via τ i = none ↔ ρ (τ i).id = none := by
  unfold Rho.via; cases ρ (τ i).id <;> simp
theorem ren_id {τ : Nat → Part} {a : SAddr} : (a.ren τ).id = (τ a.id).id := by unfold SAddr.ren; split <;> rfl

mutual
/-- What is well renumbered is well. -/
theorem SVal.ok_ren {ρ : Rho} {τ : Nat → Part} {m n : Nat} : ∀ v : SVal, (v.ren τ).ok ρ m → v.bd n → v.ok (ρ.via τ) n
  | .bool _, _, _ | .int _ _, _, _ | .str _, _, _ | .nilptr, _, _ | .nilslice, _, _ | .nilfn, _, _ | .niliface, _, _ | .nilmap, _, _ => by simp only [SVal.ok]
  | .ptr a _, h, hb => by
    simp only [SVal.ren, SVal.ok, ren_id] at h; simp only [SVal.bd] at hb
    simp only [SVal.ok, ne_eq, via_none]; exact ⟨hb, h.2⟩
  | .slice a _ _, h, hb => by
    simp only [SVal.ren, SVal.ok, ren_id] at h; simp only [SVal.bd] at hb
    simp only [SVal.ok, via_none]; exact ⟨hb, h.2⟩
  | .agg cs, h, hb => by simp only [SVal.ren, SVal.ok, SVal.bd] at *; exact okCs_ren cs h hb
  | .tuple vs, h, hb => by simp only [SVal.ren, SVal.ok, SVal.bd] at *; exact okL_ren vs h hb
  | .fn _ a b, h, hb => by simp only [SVal.ren, SVal.ok, SVal.bd] at *; exact ⟨okL_ren a h.1 hb.1, okL_ren b h.2 hb.2⟩
  | .iface _ v, h, hb => by simp only [SVal.ren, SVal.ok, SVal.bd] at *; exact SVal.ok_ren v h hb
  | .map id, h, hb => by
    simp only [SVal.ren, SVal.ok] at h; simp only [SVal.bd] at hb
    simp only [SVal.ok, ne_eq, via_none]; exact ⟨hb, h.2⟩
theorem okL_ren {ρ : Rho} {τ : Nat → Part} {m n : Nat} : ∀ vs : List SVal, okL ρ m (renL τ vs) → bdL n vs → okL (ρ.via τ) n vs
  | [], _, _ => by simp only [okL]
  | v :: r, h, hb => by simp only [renL, okL, bdL] at *; exact ⟨SVal.ok_ren v h.1 hb.1, okL_ren r h.2 hb.2⟩
theorem Chunk.ok_ren {ρ : Rho} {τ : Nat → Part} {m n : Nat} : ∀ c : Chunk, (c.ren τ).ok ρ m → c.bd n → c.ok (ρ.via τ) n
  | .one v, h, hb => by simp only [Chunk.ren, Chunk.ok, Chunk.bd] at *; exact SVal.ok_ren v h hb
  | .ints _ _ _, _, _ | .rows _ _ _, _, _ => by simp only [Chunk.ok]
theorem okCs_ren {ρ : Rho} {τ : Nat → Part} {m n : Nat} : ∀ cs : List Chunk, okCs ρ m (renCs τ cs) → bdCs n cs → okCs (ρ.via τ) n cs
  | [], _, _ => by simp only [okCs]
  | c :: r, h, hb => by simp only [renCs, okCs, bdCs] at *; exact ⟨Chunk.ok_ren c h.1 hb.1, okCs_ren r h.2 hb.2⟩
end

mutual
/-- And what is well is well renumbered, if the numbers are. -/
theorem SVal.ok_ren' {ρ : Rho} {τ : Nat → Part} {m n : Nat} (hτ : ∀ i, i < n → (τ i).id < m) : ∀ v : SVal, v.ok (ρ.via τ) n → (v.ren τ).ok ρ m
  | .bool _, _ | .int _ _, _ | .str _, _ | .nilptr, _ | .nilslice, _ | .nilfn, _ | .niliface, _ | .nilmap, _ => by simp only [SVal.ren, SVal.ok]
  | .ptr a _, h => by simp only [SVal.ok, ne_eq, via_none] at h; simp only [SVal.ren, SVal.ok, ren_id]; exact ⟨hτ _ h.1, h.2⟩
  | .slice a _ _, h => by simp only [SVal.ok, via_none] at h; simp only [SVal.ren, SVal.ok, ren_id]; exact ⟨hτ _ h.1, h.2⟩
  | .agg cs, h => by simp only [SVal.ren, SVal.ok] at *; exact okCs_ren' hτ cs h
  | .tuple vs, h => by simp only [SVal.ren, SVal.ok] at *; exact okL_ren' hτ vs h
  | .fn _ a b, h => by simp only [SVal.ren, SVal.ok] at *; exact ⟨okL_ren' hτ a h.1, okL_ren' hτ b h.2⟩
  | .iface _ v, h => by simp only [SVal.ren, SVal.ok] at *; exact SVal.ok_ren' hτ v h
  | .map id, h => by simp only [SVal.ok, ne_eq, via_none] at h; simp only [SVal.ren, SVal.ok]; exact ⟨hτ _ h.1, h.2⟩
theorem okL_ren' {ρ : Rho} {τ : Nat → Part} {m n : Nat} (hτ : ∀ i, i < n → (τ i).id < m) : ∀ vs : List SVal, okL (ρ.via τ) n vs → okL ρ m (renL τ vs)
  | [], _ => by simp only [renL, okL]
  | v :: r, h => by simp only [renL, okL] at *; exact ⟨SVal.ok_ren' hτ v h.1, okL_ren' hτ r h.2⟩
theorem Chunk.ok_ren' {ρ : Rho} {τ : Nat → Part} {m n : Nat} (hτ : ∀ i, i < n → (τ i).id < m) : ∀ c : Chunk, c.ok (ρ.via τ) n → (c.ren τ).ok ρ m
  | .one v, h => by simp only [Chunk.ren, Chunk.ok] at *; exact SVal.ok_ren' hτ v h
  | .ints _ _ _, _ | .rows _ _ _, _ => by simp only [Chunk.ren, Chunk.ok]
theorem okCs_ren' {ρ : Rho} {τ : Nat → Part} {m n : Nat} (hτ : ∀ i, i < n → (τ i).id < m) : ∀ cs : List Chunk, okCs (ρ.via τ) n cs → okCs ρ m (renCs τ cs)
  | [], _ => by simp only [renCs, okCs]
  | c :: r, h => by simp only [renCs, okCs] at *; exact ⟨Chunk.ok_ren' hτ c h.1, okCs_ren' hτ r h.2⟩
end
theorem chunkLen_ren {τ : Nat → Part} : ∀ c : Chunk, (c.ren τ).len = c.len
  | .one _ => by simp [Chunk.ren, Chunk.len]
  | .ints _ _ _ => by simp [Chunk.ren, Chunk.len]
  | .rows _ _ _ => by simp [Chunk.ren, Chunk.len]
theorem lenCs_ren {τ : Nat → Part} : ∀ cs : List Chunk, lenCs (renCs τ cs) = lenCs cs
  | [] => by simp [renCs, lenCs]
  | c :: r => by simp [renCs, lenCs, chunkLen_ren, lenCs_ren r]

/-! ### A small heap for another one -/
/-- The bindings of 'e'' are there, renumbered. -/
def envSub (τ : Nat → Part) (n : Nat) (e : Env) : Env → Prop
  | [] => True
  | (s, some v) :: r => getE e s = some (v.ren τ) ∧ v.bd n ∧ envSub τ n e r
  | (_, none) :: r => envSub τ n e r
/-- The entries of the second are there, renumbered, each another one. -/
def heapSub (τ : Nat → Part) (n : Nat) (H : Heap) : List (Nat × Option Ent) → Prop
  | [] => True
  | (i, some en) :: r => H.find (τ i).id = some ⟨en.wr, renCs τ en.cs, en.ex⟩ ∧ bdCs n en.cs ∧ i < n ∧ (τ i).off = 0 ∧ (τ i).lo = none ∧ heapSub τ n H r
  | (_, none) :: r => heapSub τ n H r
def injSub (τ : Nat → Part) : List (Nat × Option Ent) → Prop
  | [] => True
  | (i, _) :: r => (∀ j, j ∈ r.map (·.1) → j = i ∨ (τ j).id ≠ (τ i).id) ∧ injSub τ r

theorem getE_mem {e : Env} {s : Nat} {v : SVal} (h : getE e s = some v) : (s, some v) ∈ e := by
  induction e with
  | nil => cases h
  | cons p r ih =>
    obtain ⟨k, u⟩ := p
    simp only [getE] at h
    cases hb : Nat.beq k s with
    | true =>
      rw [hb] at h
      have := Nat.eq_of_beq_eq_true hb
      subst this
      simp only [cond_true] at h
      subst h
      simp
    | false => rw [hb] at h; exact List.mem_cons_of_mem _ (ih h)
theorem findE_mem {l : List (Nat × Option Ent)} {i : Nat} {en : Ent} (h : findE l i = some en) : (i, some en) ∈ l := by
  induction l with
  | nil => cases h
  | cons p r ih =>
    obtain ⟨k, u⟩ := p
    rw [findE_cons] at h
    split at h
    · rename_i hk; subst hk; subst h; simp
    · exact List.mem_cons_of_mem _ (ih h)
theorem envSub_get {τ : Nat → Part} {n : Nat} {e : Env} : ∀ {e' : Env}, envSub τ n e e' → ∀ s v, (s, some v) ∈ e' → getE e s = some (v.ren τ) ∧ v.bd n
  | [], _, _, _, hm => by cases hm
  | (s, some v) :: r, h, s', v', hm => by
    simp only [envSub] at h
    rcases List.mem_cons.1 hm with hm | hm
    · cases hm; exact ⟨h.1, h.2.1⟩
    · exact envSub_get h.2.2 s' v' hm
  | (s, none) :: r, h, s', v', hm => by
    simp only [envSub] at h
    rcases List.mem_cons.1 hm with hm | hm
    · cases hm
    · exact envSub_get h s' v' hm
theorem heapSub_get {τ : Nat → Part} {n : Nat} {H : Heap} : ∀ {l : List (Nat × Option Ent)}, heapSub τ n H l → ∀ i en, (i, some en) ∈ l →
    H.find (τ i).id = some ⟨en.wr, renCs τ en.cs, en.ex⟩ ∧ bdCs n en.cs ∧ i < n ∧ (τ i).off = 0 ∧ (τ i).lo = none
  | [], _, _, _, hm => by cases hm
  | (i, some en) :: r, h, i', en', hm => by
    simp only [heapSub] at h
    rcases List.mem_cons.1 hm with hm | hm
    · cases hm; exact ⟨h.1, h.2.1, h.2.2.1, h.2.2.2.1, h.2.2.2.2.1⟩
    · exact heapSub_get h.2.2.2.2.2 i' en' hm
  | (i, none) :: r, h, i', en', hm => by
    simp only [heapSub] at h
    rcases List.mem_cons.1 hm with hm | hm
    · cases hm
    · exact heapSub_get h i' en' hm
theorem injSub_ne {τ : Nat → Part} : ∀ {l : List (Nat × Option Ent)}, injSub τ l → ∀ i j, i ∈ l.map (·.1) → j ∈ l.map (·.1) → i ≠ j → (τ i).id ≠ (τ j).id
  | [], _, _, _, hm, _, _ => by simp at hm
  | (k, u) :: r, h, i, j, hi, hj, hne => by
    simp only [injSub] at h
    simp only [List.map_cons, List.mem_cons] at hi hj
    rcases hi with rfl | hi
    · rcases hj with rfl | hj
      · exact absurd rfl hne
      · exact fun e => (h.1 j hj).elim (fun e' => hne e'.symm) (fun e' => e' e.symm)
    · rcases hj with rfl | hj
      · exact (h.1 i hi).elim (fun e' => absurd e' hne) id
      · exact injSub_ne h.2 i j hi hj hne

theorem EnvOk.sub {ρ : Rho} {τ : Nat → Part} {m n nt : Nat} {e e' : Env} {tmps : Array Value} (h : EnvOk ρ m nt e tmps) (hs : envSub τ n e e') : EnvOk (ρ.via τ) n nt e' tmps := by
  refine ⟨h.1, fun s v hv => ?_⟩
  obtain ⟨h1, h2⟩ := envSub_get hs s v (getE_mem hv)
  obtain ⟨h3, h4⟩ := h.2 _ _ h1
  exact ⟨SVal.ok_ren v h3 h2, by rw [h4, SVal.conc_ren]⟩

theorem via_whole {ρ : Rho} {τ : Nat → Part} {i : Nat} (h1 : (τ i).off = 0) (h2 : (τ i).lo = none) : ρ.via τ i = ρ (τ i).id := by
  unfold Rho.via; rw [h1, h2]; cases ρ (τ i).id <;> simp

theorem Rel.sub {w0 w : World} {fp : Nat → Nat → Prop} {ρ : Rho} {τ : Nat → Part} {H H' : Heap} (h : Rel w0 fp ρ H w) (hs : heapSub τ H'.next H H'.ents) (hi : injSub τ H'.ents) : Rel w0 fp (ρ.via τ) H' w := by
  have hg : ∀ i en, H'.find i = some en → H.find (τ i).id = some ⟨en.wr, renCs τ en.cs, en.ex⟩ ∧ bdCs H'.next en.cs ∧ i < H'.next ∧ ρ.via τ i = ρ (τ i).id := fun i en he => by
    obtain ⟨h1, h2, h3, h4, h5⟩ := heapSub_get hs i en (findE_mem he)
    exact ⟨h1, h2, h3, via_whole h4 h5⟩
  have hwin : ∀ i en, H'.find i = some en → ∀ b o, Win (ρ.via τ) i en b o → Win ρ (τ i).id ⟨en.wr, renCs τ en.cs, en.ex⟩ b o := fun i en he b o hw => by
    obtain ⟨_, _, _, h4⟩ := hg i en he
    unfold Win Ent.size at *
    rw [h4] at hw
    simpa only [lenCs_ren] using hw
  refine ⟨h.frame, fun i en he => ?_, fun i en he => ?_, fun i en he hwr b o hw => ?_, fun i j en en' hne he he' hwr b o hw hw' => ?_, fun i en he => (hg i en he).2.2.1, fun i en he => ?_⟩
  · obtain ⟨h1, h2, h3, h4⟩ := hg i en he
    have hent := h.ents _ _ h1
    refine ⟨fun hn => ?_, fun b base hb k v hv => ?_, fun hwr b base hb k hk => ?_⟩
    · have := hent.nil (h4 ▸ hn)
      simpa only [Ent.size, lenCs_ren] using this
    · rw [h4] at hb
      exact hent.cells b base hb k v (by rw [concCs_ren]; exact hv)
    · rw [h4] at hb
      exact hent.own hwr b base hb k (by simpa only [Ent.size, lenCs_ren] using hk)
  · obtain ⟨h1, h2, h3, h4⟩ := hg i en he
    exact okCs_ren _ (h.oks _ _ h1) h2
  · exact h.own _ _ (hg i en he).1 hwr b o (hwin i en he b o hw)
  · have hne' := injSub_ne hi i j (List.mem_map.2 ⟨_, findE_mem he, rfl⟩) (List.mem_map.2 ⟨_, findE_mem he', rfl⟩) hne
    exact h.apart _ _ _ _ hne' (hg i en he).1 (hg j en' he').1 hwr b o (hwin i en he b o hw) (hwin j en' he' b o hw')
  · have := h.ro _ _ (hg i en he).1; simpa using this
def whole (i : Nat) : Part := ⟨i, 0, none⟩
theorem ren_whole (v : SVal) : v.ren whole = v := by
  exact SVal.rec (motive_1 := fun v => v.ren whole = v) (motive_2 := fun c => c.ren whole = c) (motive_3 := fun cs => renCs whole cs = cs) (motive_4 := fun vs => renL whole vs = vs)
    (fun _ => by simp only [SVal.ren]) (fun _ _ => by simp only [SVal.ren]) (fun _ => by simp only [SVal.ren]) (fun a _ => by cases a; simp [SVal.ren, SAddr.ren, whole]) (by simp only [SVal.ren])
    (fun a _ _ => by cases a; simp [SVal.ren, SAddr.ren, whole]) (by simp only [SVal.ren]) (fun cs ih => by simp only [SVal.ren, ih]) (fun vs ih => by simp only [SVal.ren, ih])
    (fun _ a b ih1 ih2 => by simp only [SVal.ren, ih1, ih2]) (by simp only [SVal.ren]) (fun _ v ih => by simp only [SVal.ren, ih]) (by simp only [SVal.ren])
    (fun id => by simp [SVal.ren, whole]) (by simp only [SVal.ren])
    (fun v ih => by simp only [Chunk.ren, ih]) (fun _ _ _ => by simp only [Chunk.ren]) (fun _ _ _ => by simp only [Chunk.ren])
    (by simp only [renCs]) (fun c r ih1 ih2 => by simp only [renCs, ih1, ih2])
    (by simp only [renL]) (fun v r ih1 ih2 => by simp only [renL, ih1, ih2]) v
end Go.Sx
