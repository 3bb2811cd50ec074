/- Part of the proof: SxRen. -/
import Derived.Test.YtinjdimejijabaaSxApp
set_option linter.unusedVariables false
set_option linter.unusedSimpArgs false
namespace Go.Sx
structure Part where
  id : Nat
  off : Nat
  lo : Option Nat
def SAddr.ren (τ : Nat -> Part) (a : SAddr) : SAddr :=
  match (τ a.id).lo with
  | none => ⟨(τ a.id).id, (τ a.id).off + a.off, a.idx, a.st⟩
  | some lo => ⟨(τ a.id).id, (τ a.id).off + a.off, lo + a.idx * a.st, 1⟩
mutual
def SVal.ren (τ : Nat -> Part) : SVal -> SVal
  | .bool b => .bool b
  | .int k n => .int k n
  | .str s => .str s
  | .ptr a n => .ptr (a.ren τ) n
  | .nilptr => .nilptr
  | .slice a l c => .slice (a.ren τ) l c
  | .nilslice => .nilslice
  | .agg cs => .agg (Zai τ cs)
  | .tuple vs => .tuple (Zb3 τ vs)
  | .fn f a b => .fn f (Zb3 τ a) (Zb3 τ b)
  | .nilfn => .nilfn
  | .iface t v => .iface t (v.ren τ)
  | .niliface => .niliface
  | .map id => .map (τ id).id
  | .nilmap => .nilmap
def Zb3 (τ : Nat -> Part) : List SVal -> List SVal
  | [] => []
  | v :: r => v.ren τ :: Zb3 τ r
def Chunk.ren (τ : Nat -> Part) : Chunk -> Chunk
  | .one v => .one (v.ren τ)
  | .ints k n xs => .ints k n xs
  | .rows sh n xs => .rows sh n xs
def Zai (τ : Nat -> Part) : List Chunk -> List Chunk
  | [] => []
  | c :: r => c.ren τ :: Zai τ r
end
def Rho.via (ρ : Rho) (τ : Nat -> Part) : Rho := fun i => (ρ (τ i).id).map fun p => (p.1, p.2 + ((τ i).off + (τ i).lo.getD 0))
theorem SAddr.conc_ren {ρ : Rho} {τ : Nat -> Part} (a : SAddr) : (a.ren τ).conc ρ = a.conc (ρ.via τ) := by
  unfold SAddr.ren SAddr.conc Rho.via
  cases h : (τ a.id).lo with
  | none => cases hr : ρ (τ a.id).id <;> simp <;> omega
  | some lo => cases hr : ρ (τ a.id).id <;> simp <;> omega
mutual
theorem SVal.conc_ren {ρ : Rho} {τ : Nat -> Part} : ∀ v : SVal, (v.ren τ).conc ρ = v.conc (ρ.via τ)
  | .bool _ | .int _ _ | .str _ | .nilptr | .nilslice | .nilfn | .niliface | .nilmap => by simp only [SVal.ren, SVal.conc]
  | .ptr a _ => by simp only [SVal.ren, SVal.conc, SAddr.conc_ren]
  | .slice a _ _ => by simp only [SVal.ren, SVal.conc, SAddr.conc_ren]
  | .agg cs => by simp only [SVal.ren, SVal.conc, Zcx cs]
  | .tuple vs => by simp only [SVal.ren, SVal.conc, Zdb vs]
  | .fn _ a b => by simp only [SVal.ren, SVal.conc, Zdb a, Zdb b]
  | .iface _ v => by simp only [SVal.ren, SVal.conc, SVal.conc_ren v]
  | .map id => by simp only [SVal.ren, SVal.conc, Rho.via]; cases ρ (τ id).id <;> simp
theorem Zdb {ρ : Rho} {τ : Nat -> Part} : ∀ vs : List SVal, Zap ρ (Zb3 τ vs) = Zap (ρ.via τ) vs
  | [] => by simp only [Zb3, Zap]
  | v :: r => by simp only [Zb3, Zap, SVal.conc_ren v, Zdb r]
theorem Chunk.conc_ren {ρ : Rho} {τ : Nat -> Part} : ∀ c : Chunk, (c.ren τ).conc ρ = c.conc (ρ.via τ)
  | .one v => by simp only [Chunk.ren, Chunk.conc, SVal.conc_ren v]
  | .ints _ _ _ | .rows _ _ _ => by simp only [Chunk.ren, Chunk.conc]
theorem Zcx {ρ : Rho} {τ : Nat -> Part} : ∀ cs : List Chunk, Zab ρ (Zai τ cs) = Zab (ρ.via τ) cs
  | [] => by simp only [Zai, Zab]
  | c :: r => by simp only [Zai, Zab, Chunk.conc_ren c, Zcx r]
end
mutual
def SVal.bd (n : Nat) : SVal -> Prop
  | .ptr a _ => a.id < n
  | .slice a _ _ => a.id < n
  | .agg cs => ZbK n cs
  | .tuple vs => bdL n vs
  | .fn _ a b => bdL n a /\ bdL n b
  | .iface _ v => v.bd n
  | .map id => id < n
  | _ => True
def bdL (n : Nat) : List SVal -> Prop
  | [] => True
  | v :: r => v.bd n /\ bdL n r
def Chunk.bd (n : Nat) : Chunk -> Prop
  | .one v => v.bd n
  | _ => True
def ZbK (n : Nat) : List Chunk -> Prop
  | [] => True
  | c :: r => c.bd n /\ ZbK n r
end
theorem Zdi {ρ : Rho} {τ : Nat -> Part} {i : Nat} : ρ.via τ i = none ↔ ρ (τ i).id = none := by
  unfold Rho.via; cases ρ (τ i).id <;> simp
theorem ZhH {τ : Nat -> Part} {a : SAddr} : (a.ren τ).id = (τ a.id).id := by unfold SAddr.ren; split <;> rfl
mutual
theorem SVal.ok_ren {ρ : Rho} {τ : Nat -> Part} {m n : Nat} : ∀ v : SVal, (v.ren τ).ok ρ m -> v.bd n -> v.ok (ρ.via τ) n
  | .bool _, _, _ | .int _ _, _, _ | .str _, _, _ | .nilptr, _, _ | .nilslice, _, _ | .nilfn, _, _ | .niliface, _, _ | .nilmap, _, _ => by simp only [SVal.ok]
  | .ptr a _, h, hb => by
    simp only [SVal.ren, SVal.ok, ZhH] at h; simp only [SVal.bd] at hb
    simp only [SVal.ok, ne_eq, Zdi]; exact ⟨hb, h.2⟩
  | .slice a _ _, h, hb => by
    simp only [SVal.ren, SVal.ok, ZhH] at h; simp only [SVal.bd] at hb
    simp only [SVal.ok, Zdi]; exact ⟨hb, h.2⟩
  | .agg cs, h, hb => by simp only [SVal.ren, SVal.ok, SVal.bd] at *; exact ZeO cs h hb
  | .tuple vs, h, hb => by simp only [SVal.ren, SVal.ok, SVal.bd] at *; exact Ze0 vs h hb
  | .fn _ a b, h, hb => by simp only [SVal.ren, SVal.ok, SVal.bd] at *; exact ⟨Ze0 a h.1 hb.1, Ze0 b h.2 hb.2⟩
  | .iface _ v, h, hb => by simp only [SVal.ren, SVal.ok, SVal.bd] at *; exact SVal.ok_ren v h hb
  | .map id, h, hb => by
    simp only [SVal.ren, SVal.ok] at h; simp only [SVal.bd] at hb
    simp only [SVal.ok, ne_eq, Zdi]; exact ⟨hb, h.2⟩
theorem Ze0 {ρ : Rho} {τ : Nat -> Part} {m n : Nat} : ∀ vs : List SVal, okL ρ m (Zb3 τ vs) -> bdL n vs -> okL (ρ.via τ) n vs
  | [], _, _ => by simp only [okL]
  | v :: r, h, hb => by simp only [Zb3, okL, bdL] at *; exact ⟨SVal.ok_ren v h.1 hb.1, Ze0 r h.2 hb.2⟩
theorem Chunk.ok_ren {ρ : Rho} {τ : Nat -> Part} {m n : Nat} : ∀ c : Chunk, (c.ren τ).ok ρ m -> c.bd n -> c.ok (ρ.via τ) n
  | .one v, h, hb => by simp only [Chunk.ren, Chunk.ok, Chunk.bd] at *; exact SVal.ok_ren v h hb
  | .ints _ _ _, _, _ | .rows _ _ _, _, _ => by simp only [Chunk.ok]
theorem ZeO {ρ : Rho} {τ : Nat -> Part} {m n : Nat} : ∀ cs : List Chunk, ZaB ρ m (Zai τ cs) -> ZbK n cs -> ZaB (ρ.via τ) n cs
  | [], _, _ => by simp only [ZaB]
  | c :: r, h, hb => by simp only [Zai, ZaB, ZbK] at *; exact ⟨Chunk.ok_ren c h.1 hb.1, ZeO r h.2 hb.2⟩
end
mutual
theorem SVal.ok_ren' {ρ : Rho} {τ : Nat -> Part} {m n : Nat} (hτ : ∀ i, i < n -> (τ i).id < m) : ∀ v : SVal, v.ok (ρ.via τ) n -> (v.ren τ).ok ρ m
  | .bool _, _ | .int _ _, _ | .str _, _ | .nilptr, _ | .nilslice, _ | .nilfn, _ | .niliface, _ | .nilmap, _ => by simp only [SVal.ren, SVal.ok]
  | .ptr a _, h => by simp only [SVal.ok, ne_eq, Zdi] at h; simp only [SVal.ren, SVal.ok, ZhH]; exact ⟨hτ _ h.1, h.2⟩
  | .slice a _ _, h => by simp only [SVal.ok, Zdi] at h; simp only [SVal.ren, SVal.ok, ZhH]; exact ⟨hτ _ h.1, h.2⟩
  | .agg cs, h => by simp only [SVal.ren, SVal.ok] at *; exact Ze1 hτ cs h
  | .tuple vs, h => by simp only [SVal.ren, SVal.ok] at *; exact ZeN hτ vs h
  | .fn _ a b, h => by simp only [SVal.ren, SVal.ok] at *; exact ⟨ZeN hτ a h.1, ZeN hτ b h.2⟩
  | .iface _ v, h => by simp only [SVal.ren, SVal.ok] at *; exact SVal.ok_ren' hτ v h
  | .map id, h => by simp only [SVal.ok, ne_eq, Zdi] at h; simp only [SVal.ren, SVal.ok]; exact ⟨hτ _ h.1, h.2⟩
theorem ZeN {ρ : Rho} {τ : Nat -> Part} {m n : Nat} (hτ : ∀ i, i < n -> (τ i).id < m) : ∀ vs : List SVal, okL (ρ.via τ) n vs -> okL ρ m (Zb3 τ vs)
  | [], _ => by simp only [Zb3, okL]
  | v :: r, h => by simp only [Zb3, okL] at *; exact ⟨SVal.ok_ren' hτ v h.1, ZeN hτ r h.2⟩
theorem Chunk.ok_ren' {ρ : Rho} {τ : Nat -> Part} {m n : Nat} (hτ : ∀ i, i < n -> (τ i).id < m) : ∀ c : Chunk, c.ok (ρ.via τ) n -> (c.ren τ).ok ρ m
  | .one v, h => by simp only [Chunk.ren, Chunk.ok] at *; exact SVal.ok_ren' hτ v h
  | .ints _ _ _, _ | .rows _ _ _, _ => by simp only [Chunk.ren, Chunk.ok]
theorem Ze1 {ρ : Rho} {τ : Nat -> Part} {m n : Nat} (hτ : ∀ i, i < n -> (τ i).id < m) : ∀ cs : List Chunk, ZaB (ρ.via τ) n cs -> ZaB ρ m (Zai τ cs)
  | [], _ => by simp only [Zai, ZaB]
  | c :: r, h => by simp only [Zai, ZaB] at *; exact ⟨Chunk.ok_ren' hτ c h.1, Ze1 hτ r h.2⟩
end
theorem ZgS {τ : Nat -> Part} : ∀ c : Chunk, (c.ren τ).len = c.len
  | .one _ => by simp [Chunk.ren, Chunk.len]
  | .ints _ _ _ => by simp [Chunk.ren, Chunk.len]
  | .rows _ _ _ => by simp [Chunk.ren, Chunk.len]
theorem Zbo {τ : Nat -> Part} : ∀ cs : List Chunk, Zac (Zai τ cs) = Zac cs
  | [] => by simp [Zai, Zac]
  | c :: r => by simp [Zai, Zac, ZgS, Zbo r]
def Za6 (τ : Nat -> Part) (n : Nat) (e : Env) : Env -> Prop
  | [] => True
  | (s, some v) :: r => ZbD e s = some (v.ren τ) /\ v.bd n /\ Za6 τ n e r
  | (_, none) :: r => Za6 τ n e r
def Zar (τ : Nat -> Part) (n : Nat) (H : Heap) : List (Nat × Option Ent) -> Prop
  | [] => True
  | (i, some en) :: r => H.find (τ i).id = some ⟨en.wr, Zai τ en.cs, en.ex⟩ /\ ZbK n en.cs /\ i < n /\ (τ i).off = 0 /\ (τ i).lo = none /\ Zar τ n H r
  | (_, none) :: r => Zar τ n H r
def Zbj (τ : Nat -> Part) : List (Nat × Option Ent) -> Prop
  | [] => True
  | (i, _) :: r => (∀ j, j ∈ r.map (·.1) -> j = i ∨ (τ j).id ≠ (τ i).id) /\ Zbj τ r
theorem ZjV {e : Env} {s : Nat} {v : SVal} (h : ZbD e s = some v) : (s, some v) ∈ e := by
  induction e with
  | nil => cases h
  | cons p r ih =>
    obtain ⟨k, u⟩ := p
    simp only [ZbD] at h
    cases hb : Nat.beq k s with
    | true =>
      rw [hb] at h
      have := Nat.eq_of_beq_eq_true hb
      subst this
      simp only [cond_true] at h
      subst h
      simp
    | false => rw [hb] at h; exact List.mem_cons_of_mem _ (ih h)
theorem Zd5 {l : List (Nat × Option Ent)} {i : Nat} {en : Ent} (h : Zbd l i = some en) : (i, some en) ∈ l := by
  induction l with
  | nil => cases h
  | cons p r ih =>
    obtain ⟨k, u⟩ := p
    rw [ZaC] at h
    split at h
    · rename_i hk; subst hk; subst h; simp
    · exact List.mem_cons_of_mem _ (ih h)
theorem Zel {τ : Nat -> Part} {n : Nat} {e : Env} : ∀ {e' : Env}, Za6 τ n e e' -> ∀ s v, (s, some v) ∈ e' -> ZbD e s = some (v.ren τ) /\ v.bd n
  | [], _, _, _, hm => by cases hm
  | (s, some v) :: r, h, s', v', hm => by
    simp only [Za6] at h
    rcases List.mem_cons.1 hm with hm | hm
    · cases hm; exact ⟨h.1, h.2.1⟩
    · exact Zel h.2.2 s' v' hm
  | (s, none) :: r, h, s', v', hm => by
    simp only [Za6] at h
    rcases List.mem_cons.1 hm with hm | hm
    · cases hm
    · exact Zel h s' v' hm
theorem ZdC {τ : Nat -> Part} {n : Nat} {H : Heap} : ∀ {l : List (Nat × Option Ent)}, Zar τ n H l -> ∀ i en, (i, some en) ∈ l ->
    H.find (τ i).id = some ⟨en.wr, Zai τ en.cs, en.ex⟩ /\ ZbK n en.cs /\ i < n /\ (τ i).off = 0 /\ (τ i).lo = none
  | [], _, _, _, hm => by cases hm
  | (i, some en) :: r, h, i', en', hm => by
    simp only [Zar] at h
    rcases List.mem_cons.1 hm with hm | hm
    · cases hm; exact ⟨h.1, h.2.1, h.2.2.1, h.2.2.2.1, h.2.2.2.2.1⟩
    · exact ZdC h.2.2.2.2.2 i' en' hm
  | (i, none) :: r, h, i', en', hm => by
    simp only [Zar] at h
    rcases List.mem_cons.1 hm with hm | hm
    · cases hm
    · exact ZdC h i' en' hm
theorem ZgI {τ : Nat -> Part} : ∀ {l : List (Nat × Option Ent)}, Zbj τ l -> ∀ i j, i ∈ l.map (·.1) -> j ∈ l.map (·.1) -> i ≠ j -> (τ i).id ≠ (τ j).id
  | [], _, _, _, hm, _, _ => by simp at hm
  | (k, u) :: r, h, i, j, hi, hj, hne => by
    simp only [Zbj] at h
    simp only [List.map_cons, List.mem_cons] at hi hj
    rcases hi with rfl | hi
    · rcases hj with rfl | hj
      · exact absurd rfl hne
      · exact fun e => (h.1 j hj).elim (fun e' => hne e'.symm) (fun e' => e' e.symm)
    · rcases hj with rfl | hj
      · exact (h.1 i hi).elim (fun e' => absurd e' hne) id
      · exact ZgI h.2 i j hi hj hne
theorem EnvOk.sub {ρ : Rho} {τ : Nat -> Part} {m n nt : Nat} {e e' : Env} {tmps : Array Value} (h : EnvOk ρ m nt e tmps) (hs : Za6 τ n e e') : EnvOk (ρ.via τ) n nt e' tmps := by
  refine ⟨h.1, fun s v hv => ?_⟩
  obtain ⟨h1, h2⟩ := Zel hs s v (ZjV hv)
  obtain ⟨h3, h4⟩ := h.2 _ _ h1
  exact ⟨SVal.ok_ren v h3 h2, by rw [h4, SVal.conc_ren]⟩
theorem ZdL {ρ : Rho} {τ : Nat -> Part} {i : Nat} (h1 : (τ i).off = 0) (h2 : (τ i).lo = none) : ρ.via τ i = ρ (τ i).id := by
  unfold Rho.via; rw [h1, h2]; cases ρ (τ i).id <;> simp
theorem Zg8 (τ : Nat -> Part) (cs : List Chunk) : ZbQ (Zai τ cs) = ZbQ cs := by
  match cs with
  | [] => rfl
  | [.one v] => simp [Zai, Chunk.ren, ZbQ]
  | [.ints _ _ _] => simp [Zai, Chunk.ren, ZbQ]
  | [.rows _ _ _] => simp [Zai, Chunk.ren, ZbQ]
  | c :: d :: r => cases c <;> simp [Zai, Chunk.ren, ZbQ]
theorem Rel.sub {w0 w : World} {fp : Nat -> Nat -> Prop} {ρ : Rho} {τ : Nat -> Part} {H H' : Heap} (h : Rel w0 fp ρ H w) (hs : Zar τ H'.next H H'.ents) (hi : Zbj τ H'.ents) : Rel w0 fp (ρ.via τ) H' w := by
  have hg : ∀ i en, H'.find i = some en -> H.find (τ i).id = some ⟨en.wr, Zai τ en.cs, en.ex⟩ /\ ZbK H'.next en.cs /\ i < H'.next /\ ρ.via τ i = ρ (τ i).id := fun i en he => by
    obtain ⟨h1, h2, h3, h4, h5⟩ := ZdC hs i en (Zd5 he)
    exact ⟨h1, h2, h3, ZdL h4 h5⟩
  have hwin : ∀ i en, H'.find i = some en -> ∀ b o, Win (ρ.via τ) i en b o -> Win ρ (τ i).id ⟨en.wr, Zai τ en.cs, en.ex⟩ b o := fun i en he b o hw => by
    obtain ⟨_, _, _, h4⟩ := hg i en he
    unfold Win Ent.size at *
    rw [h4] at hw
    simpa only [Zbo] using hw
  refine ⟨h.frame, fun i en he => ?_, fun i en he => ?_, fun i en he hwr b o hw => ?_, fun i j en en' hne he he' hwr b o hw hw' => ?_, fun i en he => (hg i en he).2.2.1, fun i en he => ?_, fun i en he q1 q2 b base hb => h.mnew _ _ (hg i en he).1 q1 q2 b base (by rw [<- (hg i en he).2.2.2]; exact hb)⟩
  · obtain ⟨h1, h2, h3, h4⟩ := hg i en he
    have hent := h.ents _ _ h1
    refine ⟨fun hn => ?_, fun b base hb k v hv => ?_, fun hwr b base hb k hk => ?_, fun q1 q2 b base hb => ?_⟩
    · have := hent.nil (h4 ▸ hn)
      simpa only [Ent.size, Zbo] using this
    · rw [h4] at hb
      exact hent.cells b base hb k v (by rw [Zcx]; exact hv)
    · rw [h4] at hb
      exact hent.own hwr b base hb k (by simpa only [Ent.size, Zbo] using hk)
    · rw [h4] at hb
      have := hent.mp q1 q2 b base hb
      unfold MapAt at this ⊢
      rwa [Zg8] at this
  · obtain ⟨h1, h2, h3, h4⟩ := hg i en he
    exact ZeO _ (h.oks _ _ h1) h2
  · exact h.own _ _ (hg i en he).1 hwr b o (hwin i en he b o hw)
  · have hne' := ZgI hi i j (List.mem_map.2 ⟨_, Zd5 he, rfl⟩) (List.mem_map.2 ⟨_, Zd5 he', rfl⟩) hne
    exact h.apart _ _ _ _ hne' (hg i en he).1 (hg j en' he').1 hwr b o (hwin i en he b o hw) (hwin j en' he' b o hw')
  · have := h.ro _ _ (hg i en he).1; simpa only [Zbo] using this
def Zbm (i : Nat) : Part := ⟨i, 0, none⟩
theorem ZiR (v : SVal) : v.ren Zbm = v := by
  exact SVal.rec (motive_1 := fun v => v.ren Zbm = v) (motive_2 := fun c => c.ren Zbm = c) (motive_3 := fun cs => Zai Zbm cs = cs) (motive_4 := fun vs => Zb3 Zbm vs = vs)
    (fun _ => by simp only [SVal.ren]) (fun _ _ => by simp only [SVal.ren]) (fun _ => by simp only [SVal.ren]) (fun a _ => by cases a; simp [SVal.ren, SAddr.ren, Zbm]) (by simp only [SVal.ren])
    (fun a _ _ => by cases a; simp [SVal.ren, SAddr.ren, Zbm]) (by simp only [SVal.ren]) (fun cs ih => by simp only [SVal.ren, ih]) (fun vs ih => by simp only [SVal.ren, ih])
    (fun _ a b ih1 ih2 => by simp only [SVal.ren, ih1, ih2]) (by simp only [SVal.ren]) (fun _ v ih => by simp only [SVal.ren, ih]) (by simp only [SVal.ren])
    (fun id => by simp [SVal.ren, Zbm]) (by simp only [SVal.ren])
    (fun v ih => by simp only [Chunk.ren, ih]) (fun _ _ _ => by simp only [Chunk.ren]) (fun _ _ _ => by simp only [Chunk.ren])
    (by simp only [Zai]) (fun c r ih1 ih2 => by simp only [Zai, ih1, ih2])
    (by simp only [Zb3]) (fun v r ih1 ih2 => by simp only [Zb3, ih1, ih2]) v
end Go.Sx
