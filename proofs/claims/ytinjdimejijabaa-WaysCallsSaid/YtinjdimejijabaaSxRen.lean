/- Part of the proof: SxRen. -/
import Derived.Test.YtinjdimejijabaaSxApp
set_option linter.unusedVariables false
set_option linter.unusedSimpArgs false
namespace Go.Sx
structure Part where
  id : Nat
  off : Nat
  lo : Option Nat
def SAddr.ren (τ : Nat -> Part) (a : SAddr) : SAddr :=
  match (τ a.id).lo with
  | none => ⟨(τ a.id).id, (τ a.id).off + a.off, a.idx, a.st⟩
  | some lo => ⟨(τ a.id).id, (τ a.id).off + a.off, lo + a.idx * a.st, 1⟩
mutual
def SVal.ren (τ : Nat -> Part) : SVal -> SVal
  | .bool b => .bool b
  | .int k n => .int k n
  | .str s => .str s
  | .ptr a n => .ptr (a.ren τ) n
  | .nilptr => .nilptr
  | .slice a l c => .slice (a.ren τ) l c
  | .nilslice => .nilslice
  | .agg cs => .agg (ZaW τ cs)
  | .tuple vs => .tuple (Ziw τ vs)
  | .fn f a b => .fn f (Ziw τ a) (Ziw τ b)
  | .nilfn => .nilfn
  | .iface t v => .iface t (v.ren τ)
  | .niliface => .niliface
  | .map id => .map (τ id).id
  | .nilmap => .nilmap
def Ziw (τ : Nat -> Part) : List SVal -> List SVal
  | [] => []
  | v :: r => v.ren τ :: Ziw τ r
def Chunk.ren (τ : Nat -> Part) : Chunk -> Chunk
  | .one v => .one (v.ren τ)
  | .ints k n xs => .ints k n xs
  | .rows sh n xs => .rows sh n xs
def ZaW (τ : Nat -> Part) : List Chunk -> List Chunk
  | [] => []
  | c :: r => c.ren τ :: ZaW τ r
end
def Rho.via (ρ : Rho) (τ : Nat -> Part) : Rho := fun i => (ρ (τ i).id).map fun p => (p.1, p.2 + ((τ i).off + (τ i).lo.getD 0))
theorem SAddr.conc_ren {ρ : Rho} {τ : Nat -> Part} (a : SAddr) : (a.ren τ).conc ρ = a.conc (ρ.via τ) := by
  unfold SAddr.ren SAddr.conc Rho.via
  cases h : (τ a.id).lo with
  | none => cases hr : ρ (τ a.id).id <;> simp <;> omega
  | some lo => cases hr : ρ (τ a.id).id <;> simp <;> omega
mutual
theorem SVal.conc_ren {ρ : Rho} {τ : Nat -> Part} : ∀ v : SVal, (v.ren τ).conc ρ = v.conc (ρ.via τ)
  | .bool _ | .int _ _ | .str _ | .nilptr | .nilslice | .nilfn | .niliface | .nilmap => by simp only [SVal.ren, SVal.conc]
  | .ptr a _ => by simp only [SVal.ren, SVal.conc, SAddr.conc_ren]
  | .slice a _ _ => by simp only [SVal.ren, SVal.conc, SAddr.conc_ren]
  | .agg cs => by simp only [SVal.ren, SVal.conc, ZdU cs]
  | .tuple vs => by simp only [SVal.ren, SVal.conc, Zfb vs]
  | .fn _ a b => by simp only [SVal.ren, SVal.conc, Zfb a, Zfb b]
  | .iface _ v => by simp only [SVal.ren, SVal.conc, SVal.conc_ren v]
  | .map id => by simp only [SVal.ren, SVal.conc, Rho.via]; cases ρ (τ id).id <;> simp
theorem Zfb {ρ : Rho} {τ : Nat -> Part} : ∀ vs : List SVal, ZaJ ρ (Ziw τ vs) = ZaJ (ρ.via τ) vs
  | [] => by simp only [Ziw, ZaJ]
  | v :: r => by simp only [Ziw, ZaJ, SVal.conc_ren v, Zfb r]
theorem Chunk.conc_ren {ρ : Rho} {τ : Nat -> Part} : ∀ c : Chunk, (c.ren τ).conc ρ = c.conc (ρ.via τ)
  | .one v => by simp only [Chunk.ren, Chunk.conc, SVal.conc_ren v]
  | .ints _ _ _ | .rows _ _ _ => by simp only [Chunk.ren, Chunk.conc]
theorem ZdU {ρ : Rho} {τ : Nat -> Part} : ∀ cs : List Chunk, Zai ρ (ZaW τ cs) = Zai (ρ.via τ) cs
  | [] => by simp only [ZaW, Zai]
  | c :: r => by simp only [ZaW, Zai, Chunk.conc_ren c, ZdU r]
end
mutual
def SVal.bd (n : Nat) : SVal -> Prop
  | .ptr a _ => a.id < n
  | .slice a _ _ => a.id < n
  | .agg cs => ZfA n cs
  | .tuple vs => bdL n vs
  | .fn _ a b => bdL n a /\ bdL n b
  | .iface _ v => v.bd n
  | .map id => id < n
  | _ => True
def bdL (n : Nat) : List SVal -> Prop
  | [] => True
  | v :: r => v.bd n /\ bdL n r
def Chunk.bd (n : Nat) : Chunk -> Prop
  | .one v => v.bd n
  | _ => True
def ZfA (n : Nat) : List Chunk -> Prop
  | [] => True
  | c :: r => c.bd n /\ ZfA n r
end
theorem Zfk {ρ : Rho} {τ : Nat -> Part} {i : Nat} : ρ.via τ i = none ↔ ρ (τ i).id = none := by
  unfold Rho.via; cases ρ (τ i).id <;> simp
theorem Zqw {τ : Nat -> Part} {a : SAddr} : (a.ren τ).id = (τ a.id).id := by unfold SAddr.ren; split <;> rfl
mutual
theorem SVal.ok_ren {ρ : Rho} {τ : Nat -> Part} {m n : Nat} : ∀ v : SVal, (v.ren τ).ok ρ m -> v.bd n -> v.ok (ρ.via τ) n
  | .bool _, _, _ | .int _ _, _, _ | .str _, _, _ | .nilptr, _, _ | .nilslice, _, _ | .nilfn, _, _ | .niliface, _, _ | .nilmap, _, _ => by simp only [SVal.ok]
  | .ptr a _, h, hb => by
    simp only [SVal.ren, SVal.ok, Zqw] at h; simp only [SVal.bd] at hb
    simp only [SVal.ok, ne_eq, Zfk]; exact ⟨hb, h.2⟩
  | .slice a _ _, h, hb => by
    simp only [SVal.ren, SVal.ok, Zqw] at h; simp only [SVal.bd] at hb
    simp only [SVal.ok, Zfk]; exact ⟨hb, h.2⟩
  | .agg cs, h, hb => by simp only [SVal.ren, SVal.ok, SVal.bd] at *; exact Zh0 cs h hb
  | .tuple vs, h, hb => by simp only [SVal.ren, SVal.ok, SVal.bd] at *; exact ZiD vs h hb
  | .fn _ a b, h, hb => by simp only [SVal.ren, SVal.ok, SVal.bd] at *; exact ⟨ZiD a h.1 hb.1, ZiD b h.2 hb.2⟩
  | .iface _ v, h, hb => by simp only [SVal.ren, SVal.ok, SVal.bd] at *; exact SVal.ok_ren v h hb
  | .map id, h, hb => by
    simp only [SVal.ren, SVal.ok] at h; simp only [SVal.bd] at hb
    simp only [SVal.ok, ne_eq, Zfk]; exact ⟨hb, h.2⟩
theorem ZiD {ρ : Rho} {τ : Nat -> Part} {m n : Nat} : ∀ vs : List SVal, okL ρ m (Ziw τ vs) -> bdL n vs -> okL (ρ.via τ) n vs
  | [], _, _ => by simp only [okL]
  | v :: r, h, hb => by simp only [Ziw, okL, bdL] at *; exact ⟨SVal.ok_ren v h.1 hb.1, ZiD r h.2 hb.2⟩
theorem Chunk.ok_ren {ρ : Rho} {τ : Nat -> Part} {m n : Nat} : ∀ c : Chunk, (c.ren τ).ok ρ m -> c.bd n -> c.ok (ρ.via τ) n
  | .one v, h, hb => by simp only [Chunk.ren, Chunk.ok, Chunk.bd] at *; exact SVal.ok_ren v h hb
  | .ints _ _ _, _, _ | .rows _ _ _, _, _ => by simp only [Chunk.ok]
theorem Zh0 {ρ : Rho} {τ : Nat -> Part} {m n : Nat} : ∀ cs : List Chunk, ZaV ρ m (ZaW τ cs) -> ZfA n cs -> ZaV (ρ.via τ) n cs
  | [], _, _ => by simp only [ZaV]
  | c :: r, h, hb => by simp only [ZaW, ZaV, ZfA] at *; exact ⟨Chunk.ok_ren c h.1 hb.1, Zh0 r h.2 hb.2⟩
end
mutual
theorem SVal.ok_ren' {ρ : Rho} {τ : Nat -> Part} {m n : Nat} (hτ : ∀ i, i < n -> (τ i).id < m) : ∀ v : SVal, v.ok (ρ.via τ) n -> (v.ren τ).ok ρ m
  | .bool _, _ | .int _ _, _ | .str _, _ | .nilptr, _ | .nilslice, _ | .nilfn, _ | .niliface, _ | .nilmap, _ => by simp only [SVal.ren, SVal.ok]
  | .ptr a _, h => by simp only [SVal.ok, ne_eq, Zfk] at h; simp only [SVal.ren, SVal.ok, Zqw]; exact ⟨hτ _ h.1, h.2⟩
  | .slice a _ _, h => by simp only [SVal.ok, Zfk] at h; simp only [SVal.ren, SVal.ok, Zqw]; exact ⟨hτ _ h.1, h.2⟩
  | .agg cs, h => by simp only [SVal.ren, SVal.ok] at *; exact ZiE hτ cs h
  | .tuple vs, h => by simp only [SVal.ren, SVal.ok] at *; exact ZhZ hτ vs h
  | .fn _ a b, h => by simp only [SVal.ren, SVal.ok] at *; exact ⟨ZhZ hτ a h.1, ZhZ hτ b h.2⟩
  | .iface _ v, h => by simp only [SVal.ren, SVal.ok] at *; exact SVal.ok_ren' hτ v h
  | .map id, h => by simp only [SVal.ok, ne_eq, Zfk] at h; simp only [SVal.ren, SVal.ok]; exact ⟨hτ _ h.1, h.2⟩
theorem ZhZ {ρ : Rho} {τ : Nat -> Part} {m n : Nat} (hτ : ∀ i, i < n -> (τ i).id < m) : ∀ vs : List SVal, okL (ρ.via τ) n vs -> okL ρ m (Ziw τ vs)
  | [], _ => by simp only [Ziw, okL]
  | v :: r, h => by simp only [Ziw, okL] at *; exact ⟨SVal.ok_ren' hτ v h.1, ZhZ hτ r h.2⟩
theorem Chunk.ok_ren' {ρ : Rho} {τ : Nat -> Part} {m n : Nat} (hτ : ∀ i, i < n -> (τ i).id < m) : ∀ c : Chunk, c.ok (ρ.via τ) n -> (c.ren τ).ok ρ m
  | .one v, h => by simp only [Chunk.ren, Chunk.ok] at *; exact SVal.ok_ren' hτ v h
  | .ints _ _ _, _ | .rows _ _ _, _ => by simp only [Chunk.ren, Chunk.ok]
theorem ZiE {ρ : Rho} {τ : Nat -> Part} {m n : Nat} (hτ : ∀ i, i < n -> (τ i).id < m) : ∀ cs : List Chunk, ZaV (ρ.via τ) n cs -> ZaV ρ m (ZaW τ cs)
  | [], _ => by simp only [ZaW, ZaV]
  | c :: r, h => by simp only [ZaW, ZaV] at *; exact ⟨Chunk.ok_ren' hτ c h.1, ZiE hτ r h.2⟩
end
theorem Zna {τ : Nat -> Part} : ∀ c : Chunk, (c.ren τ).len = c.len
  | .one _ => by simp [Chunk.ren, Chunk.len]
  | .ints _ _ _ => by simp [Chunk.ren, Chunk.len]
  | .rows _ _ _ => by simp [Chunk.ren, Chunk.len]
theorem Zbm {τ : Nat -> Part} : ∀ cs : List Chunk, Zam (ZaW τ cs) = Zam cs
  | [] => by simp [ZaW, Zam]
  | c :: r => by simp [ZaW, Zam, Zna, Zbm r]
def Zdu (τ : Nat -> Part) (n : Nat) (e : Env) : Env -> Prop
  | [] => True
  | (s, some v) :: r => ZeF e s = some (v.ren τ) /\ v.bd n /\ Zdu τ n e r
  | (_, none) :: r => Zdu τ n e r
def ZbI (τ : Nat -> Part) (n : Nat) (H : Heap) : List (Nat × Option Ent) -> Prop
  | [] => True
  | (i, some en) :: r => H.find (τ i).id = some ⟨en.wr, ZaW τ en.cs, en.ex⟩ /\ ZfA n en.cs /\ i < n /\ (τ i).off = 0 /\ (τ i).lo = none /\ ZbI τ n H r
  | (_, none) :: r => ZbI τ n H r
def ZgB (τ : Nat -> Part) : List (Nat × Option Ent) -> Prop
  | [] => True
  | (i, _) :: r => (∀ j, j ∈ r.map (·.1) -> j = i ∨ (τ j).id ≠ (τ i).id) /\ ZgB τ r
theorem ZvZ {e : Env} {s : Nat} {v : SVal} (h : ZeF e s = some v) : (s, some v) ∈ e := by
  induction e with
  | nil => cases h
  | cons p r ih =>
    obtain ⟨k, u⟩ := p
    simp only [ZeF] at h
    cases hb : Nat.beq k s with
    | true =>
      rw [hb] at h
      have := Nat.eq_of_beq_eq_true hb
      subst this
      simp only [cond_true] at h
      subst h
      simp
    | false => rw [hb] at h; exact List.mem_cons_of_mem _ (ih h)
theorem ZdR {l : List (Nat × Option Ent)} {i : Nat} {en : Ent} (h : Zc7 l i = some en) : (i, some en) ∈ l := by
  induction l with
  | nil => cases h
  | cons p r ih =>
    obtain ⟨k, u⟩ := p
    rw [ZaH] at h
    split at h
    · rename_i hk; subst hk; subst h; simp
    · exact List.mem_cons_of_mem _ (ih h)
theorem Zg8 {τ : Nat -> Part} {n : Nat} {e : Env} : ∀ {e' : Env}, Zdu τ n e e' -> ∀ s v, (s, some v) ∈ e' -> ZeF e s = some (v.ren τ) /\ v.bd n
  | [], _, _, _, hm => by cases hm
  | (s, some v) :: r, h, s', v', hm => by
    simp only [Zdu] at h
    rcases List.mem_cons.1 hm with hm | hm
    · cases hm; exact ⟨h.1, h.2.1⟩
    · exact Zg8 h.2.2 s' v' hm
  | (s, none) :: r, h, s', v', hm => by
    simp only [Zdu] at h
    rcases List.mem_cons.1 hm with hm | hm
    · cases hm
    · exact Zg8 h s' v' hm
theorem ZfS {τ : Nat -> Part} {n : Nat} {H : Heap} : ∀ {l : List (Nat × Option Ent)}, ZbI τ n H l -> ∀ i en, (i, some en) ∈ l ->
    H.find (τ i).id = some ⟨en.wr, ZaW τ en.cs, en.ex⟩ /\ ZfA n en.cs /\ i < n /\ (τ i).off = 0 /\ (τ i).lo = none
  | [], _, _, _, hm => by cases hm
  | (i, some en) :: r, h, i', en', hm => by
    simp only [ZbI] at h
    rcases List.mem_cons.1 hm with hm | hm
    · cases hm; exact ⟨h.1, h.2.1, h.2.2.1, h.2.2.2.1, h.2.2.2.2.1⟩
    · exact ZfS h.2.2.2.2.2 i' en' hm
  | (i, none) :: r, h, i', en', hm => by
    simp only [ZbI] at h
    rcases List.mem_cons.1 hm with hm | hm
    · cases hm
    · exact ZfS h i' en' hm
theorem ZiP {τ : Nat -> Part} : ∀ {l : List (Nat × Option Ent)}, ZgB τ l -> ∀ i j, i ∈ l.map (·.1) -> j ∈ l.map (·.1) -> i ≠ j -> (τ i).id ≠ (τ j).id
  | [], _, _, _, hm, _, _ => by simp at hm
  | (k, u) :: r, h, i, j, hi, hj, hne => by
    simp only [ZgB] at h
    simp only [List.map_cons, List.mem_cons] at hi hj
    rcases hi with rfl | hi
    · rcases hj with rfl | hj
      · exact absurd rfl hne
      · exact fun e => (h.1 j hj).elim (fun e' => hne e'.symm) (fun e' => e' e.symm)
    · rcases hj with rfl | hj
      · exact (h.1 i hi).elim (fun e' => absurd e' hne) id
      · exact ZiP h.2 i j hi hj hne
theorem EnvOk.sub {ρ : Rho} {τ : Nat -> Part} {m n nt : Nat} {e e' : Env} {tmps : Array Value} (h : EnvOk ρ m nt e tmps) (hs : Zdu τ n e e') : EnvOk (ρ.via τ) n nt e' tmps := by
  refine ⟨h.1, fun s v hv => ?_⟩
  obtain ⟨h1, h2⟩ := Zg8 hs s v (ZvZ hv)
  obtain ⟨h3, h4⟩ := h.2 _ _ h1
  exact ⟨SVal.ok_ren v h3 h2, by rw [h4, SVal.conc_ren]⟩
theorem Zge {ρ : Rho} {τ : Nat -> Part} {i : Nat} (h1 : (τ i).off = 0) (h2 : (τ i).lo = none) : ρ.via τ i = ρ (τ i).id := by
  unfold Rho.via; rw [h1, h2]; cases ρ (τ i).id <;> simp
theorem ZnX (τ : Nat -> Part) (cs : List Chunk) : Zb9 (ZaW τ cs) = Zb9 cs := by
  match cs with
  | [] => rfl
  | [c] => cases c <;> simp [ZaW, Chunk.ren, Zb9]
  | [c, d] => cases c <;> cases d <;> simp only [ZaW, Chunk.ren] <;> first | rfl | simp [Zb9]
  | c :: d :: e :: r => cases c <;> cases d <;> simp [ZaW, Chunk.ren, Zb9]
theorem ZnH (τ : Nat -> Part) (cs : List Chunk) : Zco (ZaW τ cs) = Zco cs := by
  match cs with
  | [] => rfl
  | [c] => cases c <;> simp [ZaW, Chunk.ren, Zco]
  | [c, d] => cases c <;> cases d <;> simp only [ZaW, Chunk.ren] <;> first | rfl | simp [Zco]
  | c :: d :: e :: r => cases c <;> cases d <;> simp [ZaW, Chunk.ren, Zco]
theorem Ztz {τ : Nat -> Part} {xs : List (Tup Zad)} : ∀ {cs : List Chunk}, ZaW τ cs = [.rows Zad 0 xs] -> cs = [.rows Zad 0 xs]
  | [], h => by simp [ZaW] at h
  | [c], h => by
    simp only [ZaW, List.cons.injEq, and_true] at h
    cases c with
    | rows sh n ys => exact congrArg (fun c => [c]) h
    | one v => cases h
    | ints k n ys => cases h
  | c :: d :: r, h => by simp [ZaW] at h
theorem ZuG (τ : Nat -> Part) (cs : List Chunk) : ZbR (ZaW τ cs) = ZbR cs := by
  match cs with
  | [] => rfl
  | [c] => cases c <;> simp [ZaW, Chunk.ren, ZbR]
  | [c, d] => cases c <;> cases d <;> simp only [ZaW, Chunk.ren] <;> first | rfl | simp [ZbR]
  | c :: d :: e :: r => cases c <;> cases d <;> simp [ZaW, Chunk.ren, ZbR]
theorem Rel.sub {w0 w : World} {fp : Nat -> Nat -> Prop} {ρ : Rho} {τ : Nat -> Part} {H H' : Heap} (h : Rel w0 fp ρ H w) (hs : ZbI τ H'.next H H'.ents) (hi : ZgB τ H'.ents) : Rel w0 fp (ρ.via τ) H' w := by
  have hg : ∀ i en, H'.find i = some en -> H.find (τ i).id = some ⟨en.wr, ZaW τ en.cs, en.ex⟩ /\ ZfA H'.next en.cs /\ i < H'.next /\ ρ.via τ i = ρ (τ i).id := fun i en he => by
    obtain ⟨h1, h2, h3, h4, h5⟩ := ZfS hs i en (ZdR he)
    exact ⟨h1, h2, h3, Zge h4 h5⟩
  have hwin : ∀ i en, H'.find i = some en -> ∀ b o, Win (ρ.via τ) i en b o -> Win ρ (τ i).id ⟨en.wr, ZaW τ en.cs, en.ex⟩ b o := fun i en he b o hw => by
    obtain ⟨_, _, _, h4⟩ := hg i en he
    unfold Win Ent.size at *
    rw [h4] at hw
    simpa only [Zbm] using hw
  refine ⟨h.frame, fun i en he => ?_, fun i en he => ?_, fun i en he hwr b o hw => ?_, fun i j en en' hne he he' hwr b o hw hw' => ?_, fun i en he => (hg i en he).2.2.1, fun i en he => ?_, fun i en he q1 q2 b base hb => h.mnew _ _ (hg i en he).1 q1 q2 b base (by rw [<- (hg i en he).2.2.2]; exact hb), ?_, ?_⟩
  · obtain ⟨h1, h2, h3, h4⟩ := hg i en he
    have hent := h.ents _ _ h1
    refine ⟨fun hn => ?_, fun b base hb k v hv => ?_, fun hwr b base hb k hk => ?_, fun q1 q2 b base hb => ?_⟩
    · have := hent.nil (h4 ▸ hn)
      simpa only [Ent.size, Zbm] using this
    · rw [h4] at hb
      exact hent.cells b base hb k v (by rw [ZdU]; exact hv)
    · rw [h4] at hb
      exact hent.own hwr b base hb k (by simpa only [Ent.size, Zbm] using hk)
    · rw [h4] at hb
      have := hent.mp q1 q2 b base hb
      unfold MapAt at this ⊢
      rwa [ZnX, ZnH] at this
  · obtain ⟨h1, h2, h3, h4⟩ := hg i en he
    exact Zh0 _ (h.oks _ _ h1) h2
  · exact h.own _ _ (hg i en he).1 hwr b o (hwin i en he b o hw)
  · have hne' := ZiP hi i j (List.mem_map.2 ⟨_, ZdR he, rfl⟩) (List.mem_map.2 ⟨_, ZdR he', rfl⟩) hne
    exact h.apart _ _ _ _ hne' (hg i en he).1 (hg j en' he').1 hwr b o (hwin i en he b o hw) (hwin j en' he' b o hw')
  · have := h.ro _ _ (hg i en he).1; simpa only [Zbm] using this
  · refine h.ab.ren (fun i => (τ i).id) (fun i j en en' he he' hne => ZiP hi i j (List.mem_map.2 ⟨_, ZdR he, rfl⟩) (List.mem_map.2 ⟨_, ZdR he', rfl⟩) hne) fun i en he => ?_
    obtain ⟨h1, h2, h3, h4⟩ := hg i en he
    exact ⟨_, h1, fun q1 q2 => ⟨q1, q2, h4, fun xs hC => Ztz hC⟩, fun x o hw => hwin i en he x o hw⟩
  · refine h.hid.to (fun i en he hwr => .inr ⟨_, _, (hg i en he).1, hwr, fun _ => ZuG _ _⟩) (fun x o v _ ⟨i, en, he, hwr, hw⟩ => ⟨_, _, (hg i en he).1, hwr, hwin i en he x o hw⟩) fun _ _ _ hc _ => hc
def Zd1 (i : Nat) : Part := ⟨i, 0, none⟩
theorem Zty (v : SVal) : v.ren Zd1 = v := by
  exact SVal.rec (motive_1 := fun v => v.ren Zd1 = v) (motive_2 := fun c => c.ren Zd1 = c) (motive_3 := fun cs => ZaW Zd1 cs = cs) (motive_4 := fun vs => Ziw Zd1 vs = vs)
    (fun _ => by simp only [SVal.ren]) (fun _ _ => by simp only [SVal.ren]) (fun _ => by simp only [SVal.ren]) (fun a _ => by cases a; simp [SVal.ren, SAddr.ren, Zd1]) (by simp only [SVal.ren])
    (fun a _ _ => by cases a; simp [SVal.ren, SAddr.ren, Zd1]) (by simp only [SVal.ren]) (fun cs ih => by simp only [SVal.ren, ih]) (fun vs ih => by simp only [SVal.ren, ih])
    (fun _ a b ih1 ih2 => by simp only [SVal.ren, ih1, ih2]) (by simp only [SVal.ren]) (fun _ v ih => by simp only [SVal.ren, ih]) (by simp only [SVal.ren])
    (fun id => by simp [SVal.ren, Zd1]) (by simp only [SVal.ren])
    (fun v ih => by simp only [Chunk.ren, ih]) (fun _ _ _ => by simp only [Chunk.ren]) (fun _ _ _ => by simp only [Chunk.ren])
    (by simp only [ZaW]) (fun c r ih1 ih2 => by simp only [ZaW, ih1, ih2])
    (by simp only [Ziw]) (fun v r ih1 ih2 => by simp only [Ziw, ih1, ih2]) v
end Go.Sx
