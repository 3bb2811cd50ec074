/- Part of the proof: SxRen. -/
import Derived.Test.YtfffjdfegnmejaaSxApp
set_option linter.unusedVariables false
set_option linter.unusedSimpArgs false
namespace Go.Sx
structure Part where
  id : Nat
  off : Nat
  lo : Option Nat
def SAddr.ren (τ : Nat -> Part) (a : SAddr) : SAddr :=
  match (τ a.id).lo with
  | none => ⟨(τ a.id).id, (τ a.id).off + a.off, a.idx, a.st⟩
  | some lo => ⟨(τ a.id).id, (τ a.id).off + a.off, lo + a.idx * a.st, 1⟩
mutual
def SVal.ren (τ : Nat -> Part) : SVal -> SVal
  | .bool b => .bool b
  | .int k n => .int k n
  | .str s => .str s
  | .ptr a n => .ptr (a.ren τ) n
  | .nilptr => .nilptr
  | .slice a l c => .slice (a.ren τ) l c
  | .nilslice => .nilslice
  | .agg cs => .agg (ZaD τ cs)
  | .tuple vs => .tuple (Zjn τ vs)
  | .fn f a b => .fn f (Zjn τ a) (Zjn τ b)
  | .nilfn => .nilfn
  | .iface t v => .iface t (v.ren τ)
  | .niliface => .niliface
  | .map id => .map (τ id).id
  | .nilmap => .nilmap
  | .raw s h => .raw s h
def Zjn (τ : Nat -> Part) : List SVal -> List SVal
  | [] => []
  | v :: r => v.ren τ :: Zjn τ r
def Chunk.ren (τ : Nat -> Part) : Chunk -> Chunk
  | .one v => .one (v.ren τ)
  | .ints k n xs => .ints k n xs
  | .rows sh n xs => .rows sh n xs
def ZaD (τ : Nat -> Part) : List Chunk -> List Chunk
  | [] => []
  | c :: r => c.ren τ :: ZaD τ r
end
def Rho.via (ρ : Rho) (τ : Nat -> Part) : Rho := fun i => (ρ (τ i).id).map fun p => (p.1, p.2 + ((τ i).off + (τ i).lo.getD 0))
theorem SAddr.conc_ren {ρ : Rho} {τ : Nat -> Part} (a : SAddr) : (a.ren τ).conc ρ = a.conc (ρ.via τ) := by
  unfold SAddr.ren SAddr.conc Rho.via
  cases h : (τ a.id).lo with
  | none => cases hr : ρ (τ a.id).id <;> simp <;> omega
  | some lo => cases hr : ρ (τ a.id).id <;> simp <;> omega
mutual
theorem SVal.conc_ren {ρ : Rho} {τ : Nat -> Part} : ∀ v : SVal, (v.ren τ).conc ρ = v.conc (ρ.via τ)
  | .bool _ | .int _ _ | .str _ | .nilptr | .nilslice | .nilfn | .niliface | .nilmap | .raw _ _ => by simp only [SVal.ren, SVal.conc]
  | .ptr a _ => by simp only [SVal.ren, SVal.conc, SAddr.conc_ren]
  | .slice a _ _ => by simp only [SVal.ren, SVal.conc, SAddr.conc_ren]
  | .agg cs => by simp only [SVal.ren, SVal.conc, ZdW cs]
  | .tuple vs => by simp only [SVal.ren, SVal.conc, Zfj vs]
  | .fn _ a b => by simp only [SVal.ren, SVal.conc, Zfj a, Zfj b]
  | .iface _ v => by simp only [SVal.ren, SVal.conc, SVal.conc_ren v]
  | .map id => by simp only [SVal.ren, SVal.conc, Rho.via]; cases ρ (τ id).id <;> simp
theorem Zfj {ρ : Rho} {τ : Nat -> Part} : ∀ vs : List SVal, ZaH ρ (Zjn τ vs) = ZaH (ρ.via τ) vs
  | [] => by simp only [Zjn, ZaH]
  | v :: r => by simp only [Zjn, ZaH, SVal.conc_ren v, Zfj r]
theorem Chunk.conc_ren {ρ : Rho} {τ : Nat -> Part} : ∀ c : Chunk, (c.ren τ).conc ρ = c.conc (ρ.via τ)
  | .one v => by simp only [Chunk.ren, Chunk.conc, SVal.conc_ren v]
  | .ints _ _ _ | .rows _ _ _ => by simp only [Chunk.ren, Chunk.conc]
theorem ZdW {ρ : Rho} {τ : Nat -> Part} : ∀ cs : List Chunk, Zab ρ (ZaD τ cs) = Zab (ρ.via τ) cs
  | [] => by simp only [ZaD, Zab]
  | c :: r => by simp only [ZaD, Zab, Chunk.conc_ren c, ZdW r]
end
mutual
def SVal.bd (n : Nat) : SVal -> Prop
  | .ptr a _ => a.id < n
  | .slice a _ _ => a.id < n
  | .agg cs => ZfM n cs
  | .tuple vs => bdL n vs
  | .fn _ a b => bdL n a /\ bdL n b
  | .iface _ v => v.bd n
  | .map id => id < n
  | _ => True
def bdL (n : Nat) : List SVal -> Prop
  | [] => True
  | v :: r => v.bd n /\ bdL n r
def Chunk.bd (n : Nat) : Chunk -> Prop
  | .one v => v.bd n
  | _ => True
def ZfM (n : Nat) : List Chunk -> Prop
  | [] => True
  | c :: r => c.bd n /\ ZfM n r
end
theorem Zfs {ρ : Rho} {τ : Nat -> Part} {i : Nat} : ρ.via τ i = none ↔ ρ (τ i).id = none := by
  unfold Rho.via; cases ρ (τ i).id <;> simp
theorem ZrW {τ : Nat -> Part} {a : SAddr} : (a.ren τ).id = (τ a.id).id := by unfold SAddr.ren; split <;> rfl
mutual
theorem SVal.ok_ren {ρ : Rho} {τ : Nat -> Part} {m n : Nat} : ∀ v : SVal, (v.ren τ).ok ρ m -> v.bd n -> v.ok (ρ.via τ) n
  | .bool _, _, _ | .int _ _, _, _ | .str _, _, _ | .nilptr, _, _ | .nilslice, _, _ | .nilfn, _, _ | .niliface, _, _ | .nilmap, _, _ | .raw _ _, _, _ => by simp only [SVal.ok]
  | .ptr a _, h, hb => by
    simp only [SVal.ren, SVal.ok, ZrW] at h; simp only [SVal.bd] at hb
    simp only [SVal.ok, ne_eq, Zfs]; exact ⟨hb, h.2⟩
  | .slice a _ _, h, hb => by
    simp only [SVal.ren, SVal.ok, ZrW] at h; simp only [SVal.bd] at hb
    simp only [SVal.ok, Zfs]; exact ⟨hb, h.2⟩
  | .agg cs, h, hb => by simp only [SVal.ren, SVal.ok, SVal.bd] at *; exact ZiF cs h hb
  | .tuple vs, h, hb => by simp only [SVal.ren, SVal.ok, SVal.bd] at *; exact Zju vs h hb
  | .fn _ a b, h, hb => by simp only [SVal.ren, SVal.ok, SVal.bd] at *; exact ⟨Zju a h.1 hb.1, Zju b h.2 hb.2⟩
  | .iface _ v, h, hb => by simp only [SVal.ren, SVal.ok, SVal.bd] at *; exact SVal.ok_ren v h hb
  | .map id, h, hb => by
    simp only [SVal.ren, SVal.ok] at h; simp only [SVal.bd] at hb
    simp only [SVal.ok, ne_eq, Zfs]; exact ⟨hb, h.2⟩
theorem Zju {ρ : Rho} {τ : Nat -> Part} {m n : Nat} : ∀ vs : List SVal, okL ρ m (Zjn τ vs) -> bdL n vs -> okL (ρ.via τ) n vs
  | [], _, _ => by simp only [okL]
  | v :: r, h, hb => by simp only [Zjn, okL, bdL] at *; exact ⟨SVal.ok_ren v h.1 hb.1, Zju r h.2 hb.2⟩
theorem Chunk.ok_ren {ρ : Rho} {τ : Nat -> Part} {m n : Nat} : ∀ c : Chunk, (c.ren τ).ok ρ m -> c.bd n -> c.ok (ρ.via τ) n
  | .one v, h, hb => by simp only [Chunk.ren, Chunk.ok, Chunk.bd] at *; exact SVal.ok_ren v h hb
  | .ints _ _ _, _, _ | .rows _ _ _, _, _ => by simp only [Chunk.ok]
theorem ZiF {ρ : Rho} {τ : Nat -> Part} {m n : Nat} : ∀ cs : List Chunk, ZaE ρ m (ZaD τ cs) -> ZfM n cs -> ZaE (ρ.via τ) n cs
  | [], _, _ => by simp only [ZaE]
  | c :: r, h, hb => by simp only [ZaD, ZaE, ZfM] at *; exact ⟨Chunk.ok_ren c h.1 hb.1, ZiF r h.2 hb.2⟩
end
mutual
theorem SVal.ok_ren' {ρ : Rho} {τ : Nat -> Part} {m n : Nat} (hτ : ∀ i, i < n -> (τ i).id < m) : ∀ v : SVal, v.ok (ρ.via τ) n -> (v.ren τ).ok ρ m
  | .bool _, _ | .int _ _, _ | .str _, _ | .nilptr, _ | .nilslice, _ | .nilfn, _ | .niliface, _ | .nilmap, _ | .raw _ _, _ => by simp only [SVal.ren, SVal.ok]
  | .ptr a _, h => by simp only [SVal.ok, ne_eq, Zfs] at h; simp only [SVal.ren, SVal.ok, ZrW]; exact ⟨hτ _ h.1, h.2⟩
  | .slice a _ _, h => by simp only [SVal.ok, Zfs] at h; simp only [SVal.ren, SVal.ok, ZrW]; exact ⟨hτ _ h.1, h.2⟩
  | .agg cs, h => by simp only [SVal.ren, SVal.ok] at *; exact Zjv hτ cs h
  | .tuple vs, h => by simp only [SVal.ren, SVal.ok] at *; exact ZiE hτ vs h
  | .fn _ a b, h => by simp only [SVal.ren, SVal.ok] at *; exact ⟨ZiE hτ a h.1, ZiE hτ b h.2⟩
  | .iface _ v, h => by simp only [SVal.ren, SVal.ok] at *; exact SVal.ok_ren' hτ v h
  | .map id, h => by simp only [SVal.ok, ne_eq, Zfs] at h; simp only [SVal.ren, SVal.ok]; exact ⟨hτ _ h.1, h.2⟩
theorem ZiE {ρ : Rho} {τ : Nat -> Part} {m n : Nat} (hτ : ∀ i, i < n -> (τ i).id < m) : ∀ vs : List SVal, okL (ρ.via τ) n vs -> okL ρ m (Zjn τ vs)
  | [], _ => by simp only [Zjn, okL]
  | v :: r, h => by simp only [Zjn, okL] at *; exact ⟨SVal.ok_ren' hτ v h.1, ZiE hτ r h.2⟩
theorem Chunk.ok_ren' {ρ : Rho} {τ : Nat -> Part} {m n : Nat} (hτ : ∀ i, i < n -> (τ i).id < m) : ∀ c : Chunk, c.ok (ρ.via τ) n -> (c.ren τ).ok ρ m
  | .one v, h => by simp only [Chunk.ren, Chunk.ok] at *; exact SVal.ok_ren' hτ v h
  | .ints _ _ _, _ | .rows _ _ _, _ => by simp only [Chunk.ren, Chunk.ok]
theorem Zjv {ρ : Rho} {τ : Nat -> Part} {m n : Nat} (hτ : ∀ i, i < n -> (τ i).id < m) : ∀ cs : List Chunk, ZaE (ρ.via τ) n cs -> ZaE ρ m (ZaD τ cs)
  | [], _ => by simp only [ZaD, ZaE]
  | c :: r, h => by simp only [ZaD, ZaE] at *; exact ⟨Chunk.ok_ren' hτ c h.1, Zjv hτ r h.2⟩
end
theorem Zop {τ : Nat -> Part} : ∀ c : Chunk, (c.ren τ).len = c.len
  | .one _ => by simp [Chunk.ren, Chunk.len]
  | .ints _ _ _ => by simp [Chunk.ren, Chunk.len]
  | .rows _ _ _ => by simp [Chunk.ren, Chunk.len]
theorem Za9 {τ : Nat -> Part} : ∀ cs : List Chunk, Zam (ZaD τ cs) = Zam cs
  | [] => by simp [ZaD, Zam]
  | c :: r => by simp [ZaD, Zam, Zop, Za9 r]
def Zdw (τ : Nat -> Part) (n : Nat) (e : Env) : Env -> Prop
  | [] => True
  | (s, some v) :: r => ZeN e s = some (v.ren τ) /\ v.bd n /\ Zdw τ n e r
  | (_, none) :: r => Zdw τ n e r
def ZbI (τ : Nat -> Part) (n : Nat) (H : Heap) : List (Nat × Option Ent) -> Prop
  | [] => True
  | (i, some en) :: r => H.find (τ i).id = some ⟨en.wr, ZaD τ en.cs, en.ex⟩ /\ ZfM n en.cs /\ i < n /\ (τ i).off = 0 /\ (τ i).lo = none /\ ZbI τ n H r
  | (_, none) :: r => ZbI τ n H r
def Zip (τ : Nat -> Part) : List (Nat × Option Ent) -> Prop
  | [] => True
  | (i, _) :: r => (∀ j, j ∈ r.map (·.1) -> j = i ∨ (τ j).id ≠ (τ i).id) /\ Zip τ r
theorem Zzn {e : Env} {s : Nat} {v : SVal} (h : ZeN e s = some v) : (s, some v) ∈ e := by
  induction e with
  | nil => cases h
  | cons p r ih =>
    obtain ⟨k, u⟩ := p
    simp only [ZeN] at h
    cases hb : Nat.beq k s with
    | true =>
      rw [hb] at h
      have := Nat.eq_of_beq_eq_true hb
      subst this
      simp only [cond_true] at h
      subst h
      simp
    | false => rw [hb] at h; exact List.mem_cons_of_mem _ (ih h)
theorem ZdT {l : List (Nat × Option Ent)} {i : Nat} {en : Ent} (h : Zc9 l i = some en) : (i, some en) ∈ l := by
  induction l with
  | nil => cases h
  | cons p r ih =>
    obtain ⟨k, u⟩ := p
    rw [ZaF] at h
    split at h
    · rename_i hk; subst hk; subst h; simp
    · exact List.mem_cons_of_mem _ (ih h)
theorem ZhU {τ : Nat -> Part} {n : Nat} {e : Env} : ∀ {e' : Env}, Zdw τ n e e' -> ∀ s v, (s, some v) ∈ e' -> ZeN e s = some (v.ren τ) /\ v.bd n
  | [], _, _, _, hm => by cases hm
  | (s, some v) :: r, h, s', v', hm => by
    simp only [Zdw] at h
    rcases List.mem_cons.1 hm with hm | hm
    · cases hm; exact ⟨h.1, h.2.1⟩
    · exact ZhU h.2.2 s' v' hm
  | (s, none) :: r, h, s', v', hm => by
    simp only [Zdw] at h
    rcases List.mem_cons.1 hm with hm | hm
    · cases hm
    · exact ZhU h s' v' hm
theorem Zf7 {τ : Nat -> Part} {n : Nat} {H : Heap} : ∀ {l : List (Nat × Option Ent)}, ZbI τ n H l -> ∀ i en, (i, some en) ∈ l ->
    H.find (τ i).id = some ⟨en.wr, ZaD τ en.cs, en.ex⟩ /\ ZfM n en.cs /\ i < n /\ (τ i).off = 0 /\ (τ i).lo = none
  | [], _, _, _, hm => by cases hm
  | (i, some en) :: r, h, i', en', hm => by
    simp only [ZbI] at h
    rcases List.mem_cons.1 hm with hm | hm
    · cases hm; exact ⟨h.1, h.2.1, h.2.2.1, h.2.2.2.1, h.2.2.2.2.1⟩
    · exact Zf7 h.2.2.2.2.2 i' en' hm
  | (i, none) :: r, h, i', en', hm => by
    simp only [ZbI] at h
    rcases List.mem_cons.1 hm with hm | hm
    · cases hm
    · exact Zf7 h i' en' hm
theorem ZjH {τ : Nat -> Part} : ∀ {l : List (Nat × Option Ent)}, Zip τ l -> ∀ i j, i ∈ l.map (·.1) -> j ∈ l.map (·.1) -> i ≠ j -> (τ i).id ≠ (τ j).id
  | [], _, _, _, hm, _, _ => by simp at hm
  | (k, u) :: r, h, i, j, hi, hj, hne => by
    simp only [Zip] at h
    simp only [List.map_cons, List.mem_cons] at hi hj
    rcases hi with rfl | hi
    · rcases hj with rfl | hj
      · exact absurd rfl hne
      · exact fun e => (h.1 j hj).elim (fun e' => hne e'.symm) (fun e' => e' e.symm)
    · rcases hj with rfl | hj
      · exact (h.1 i hi).elim (fun e' => absurd e' hne) id
      · exact ZjH h.2 i j hi hj hne
theorem EnvOk.sub {ρ : Rho} {τ : Nat -> Part} {m n nt : Nat} {e e' : Env} {tmps : Array Value} (h : EnvOk ρ m nt e tmps) (hs : Zdw τ n e e') : EnvOk (ρ.via τ) n nt e' tmps := by
  refine ⟨h.1, fun s v hv => ?_⟩
  obtain ⟨h1, h2⟩ := ZhU hs s v (Zzn hv)
  obtain ⟨h3, h4⟩ := h.2 _ _ h1
  exact ⟨SVal.ok_ren v h3 h2, by rw [h4, SVal.conc_ren]⟩
theorem Zgx {ρ : Rho} {τ : Nat -> Part} {i : Nat} (h1 : (τ i).off = 0) (h2 : (τ i).lo = none) : ρ.via τ i = ρ (τ i).id := by
  unfold Rho.via; rw [h1, h2]; cases ρ (τ i).id <;> simp
theorem Zo1 (τ : Nat -> Part) (cs : List Chunk) : Zb5 (ZaD τ cs) = Zb5 cs := by
  match cs with
  | [] => rfl
  | [c] => cases c <;> simp [ZaD, Chunk.ren, Zb5]
  | [c, d] => cases c <;> cases d <;> simp only [ZaD, Chunk.ren] <;> first | rfl | simp [Zb5]
  | c :: d :: e :: r => cases c <;> cases d <;> simp [ZaD, Chunk.ren, Zb5]
theorem ZoM (τ : Nat -> Part) (cs : List Chunk) : Zcn (ZaD τ cs) = Zcn cs := by
  match cs with
  | [] => rfl
  | [c] => cases c <;> simp [ZaD, Chunk.ren, Zcn]
  | [c, d] => cases c <;> cases d <;> simp only [ZaD, Chunk.ren] <;> first | rfl | simp [Zcn]
  | c :: d :: e :: r => cases c <;> cases d <;> simp [ZaD, Chunk.ren, Zcn]
theorem ZuP {τ : Nat -> Part} {xs : List (Tup ZgA)} : ∀ {cs : List Chunk}, ZaD τ cs = [.rows ZgA 0 xs] -> cs = [.rows ZgA 0 xs]
  | [], h => by simp [ZaD] at h
  | [c], h => by
    simp only [ZaD, List.cons.injEq, and_true] at h
    cases c with
    | rows sh n ys => exact congrArg (fun c => [c]) h
    | one v => cases h
    | ints k n ys => cases h
  | c :: d :: r, h => by simp [ZaD] at h
theorem ZjJ (τ : Nat -> Part) (cs : List Chunk) : Za2 (ZaD τ cs) = Za2 cs := by
  match cs with
  | [] => rfl
  | [c] => cases c <;> simp [ZaD, Chunk.ren, Za2]
  | [c, d] => cases c <;> cases d <;> simp only [ZaD, Chunk.ren] <;> first | rfl | simp [Za2]
  | c :: d :: e :: r => cases c <;> cases d <;> simp [ZaD, Chunk.ren, Za2]
theorem Rel.sub {w0 w : World} {fp : Nat -> Nat -> Prop} {ρ : Rho} {τ : Nat -> Part} {H H' : Heap} (h : Rel w0 fp ρ H w) (hs : ZbI τ H'.next H H'.ents) (hi : Zip τ H'.ents) : Rel w0 fp (ρ.via τ) H' w := by
  have hg : ∀ i en, H'.find i = some en -> H.find (τ i).id = some ⟨en.wr, ZaD τ en.cs, en.ex⟩ /\ ZfM H'.next en.cs /\ i < H'.next /\ ρ.via τ i = ρ (τ i).id := fun i en he => by
    obtain ⟨h1, h2, h3, h4, h5⟩ := Zf7 hs i en (ZdT he)
    exact ⟨h1, h2, h3, Zgx h4 h5⟩
  have hwin : ∀ i en, H'.find i = some en -> ∀ b o, Win (ρ.via τ) i en b o -> Win ρ (τ i).id ⟨en.wr, ZaD τ en.cs, en.ex⟩ b o := fun i en he b o hw => by
    obtain ⟨_, _, _, h4⟩ := hg i en he
    unfold Win Ent.size at *
    rw [h4] at hw
    simpa only [Za9] using hw
  refine ⟨h.frame, fun i en he => ?_, fun i en he => ?_, fun i en he hwr b o hw => ?_, fun i j en en' hne he he' hwr b o hw hw' => ?_, fun i en he => (hg i en he).2.2.1, fun i en he => ?_, fun i en he q1 q2 b base hb => h.mnew _ _ (hg i en he).1 q1 q2 b base (by rw [<- (hg i en he).2.2.2]; exact hb), ?_, ?_⟩
  · obtain ⟨h1, h2, h3, h4⟩ := hg i en he
    have hent := h.ents _ _ h1
    refine ⟨fun hn => ?_, fun b base hb k v hv => ?_, fun hwr b base hb k hk => ?_, fun q1 q2 b base hb => ?_⟩
    · have := hent.nil (h4 ▸ hn)
      simpa only [Ent.size, Za9] using this
    · rw [h4] at hb
      exact hent.cells b base hb k v (by rw [ZdW]; exact hv)
    · rw [h4] at hb
      exact hent.own hwr b base hb k (by simpa only [Ent.size, Za9] using hk)
    · rw [h4] at hb
      have := hent.mp q1 q2 b base hb
      unfold MapAt at this ⊢
      rwa [Zo1, ZoM] at this
  · obtain ⟨h1, h2, h3, h4⟩ := hg i en he
    exact ZiF _ (h.oks _ _ h1) h2
  · exact h.own _ _ (hg i en he).1 hwr b o (hwin i en he b o hw)
  · have hne' := ZjH hi i j (List.mem_map.2 ⟨_, ZdT he, rfl⟩) (List.mem_map.2 ⟨_, ZdT he', rfl⟩) hne
    exact h.apart _ _ _ _ hne' (hg i en he).1 (hg j en' he').1 hwr b o (hwin i en he b o hw) (hwin j en' he' b o hw')
  · have := h.ro _ _ (hg i en he).1; simpa only [Za9] using this
  · refine h.ab.ren (fun i => (τ i).id) (fun i j en en' he he' hne => ZjH hi i j (List.mem_map.2 ⟨_, ZdT he, rfl⟩) (List.mem_map.2 ⟨_, ZdT he', rfl⟩) hne) fun i en he => ?_
    obtain ⟨h1, h2, h3, h4⟩ := hg i en he
    exact ⟨_, h1, fun q1 q2 => ⟨q1, q2, h4, fun xs hC => ZuP hC⟩, fun x o hw => hwin i en he x o hw⟩
  · refine h.hid.to (fun i en he => .inr ⟨_, _, (hg i en he).1, fun h => h, fun _ => ZjJ _ _⟩) (fun x o v _ ⟨i, en, he, hwr, hw⟩ => ⟨_, _, (hg i en he).1, hwr, hwin i en he x o hw⟩) fun _ _ _ hc _ => hc
def ZcY (i : Nat) : Part := ⟨i, 0, none⟩
theorem ZuO (v : SVal) : v.ren ZcY = v := by
  exact SVal.rec (motive_1 := fun v => v.ren ZcY = v) (motive_2 := fun c => c.ren ZcY = c) (motive_3 := fun cs => ZaD ZcY cs = cs) (motive_4 := fun vs => Zjn ZcY vs = vs)
    (fun _ => by simp only [SVal.ren]) (fun _ _ => by simp only [SVal.ren]) (fun _ => by simp only [SVal.ren]) (fun a _ => by cases a; simp [SVal.ren, SAddr.ren, ZcY]) (by simp only [SVal.ren])
    (fun a _ _ => by cases a; simp [SVal.ren, SAddr.ren, ZcY]) (by simp only [SVal.ren]) (fun cs ih => by simp only [SVal.ren, ih]) (fun vs ih => by simp only [SVal.ren, ih])
    (fun _ a b ih1 ih2 => by simp only [SVal.ren, ih1, ih2]) (by simp only [SVal.ren]) (fun _ v ih => by simp only [SVal.ren, ih]) (by simp only [SVal.ren])
    (fun id => by simp [SVal.ren, ZcY]) (by simp only [SVal.ren]) (fun _ _ => by simp only [SVal.ren])
    (fun v ih => by simp only [Chunk.ren, ih]) (fun _ _ _ => by simp only [Chunk.ren]) (fun _ _ _ => by simp only [Chunk.ren])
    (by simp only [ZaD]) (fun c r ih1 ih2 => by simp only [ZaD, ih1, ih2])
    (by simp only [Zjn]) (fun v r ih1 ih2 => by simp only [Zjn, ih1, ih2]) v
end Go.Sx
