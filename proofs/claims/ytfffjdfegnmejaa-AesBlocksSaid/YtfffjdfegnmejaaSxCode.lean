/- Part of the proof: SxCode. -/
import Derived.Test.YtfffjdfegnmejaaSxRen
import Derived.Test.YtfffjdfegnmejaaSxMix
import Derived.Test.YtfffjdfegnmejaaSxRowH
import Derived.Deep.Quiet
set_option linter.unusedVariables false
set_option linter.unusedSimpArgs false
namespace Go.Sx
inductive Items
  | nil
  | op (dst : Option Nat) (x : AOp) (rest : Items)
  | grp (t : Nat) (want : Bool) (body rest : Items)
  | grpJ (t : Nat) (want : Bool) (body : Items) (d : Nat) (x y : Opd) (rest : Items)
def put (d : Option Nat) (v : SVal) (e : Env) : Env :=
  match d with
  | none => e
  | some d => (d, some v) :: e
def Ztw : Items -> Env -> Env
  | .nil, e => e
  | .op d _ r, e => Ztw r (put d (.tuple []) e)
  | .grp _ _ b r, e => Ztw r (Ztw b e)
  | .grpJ _ _ b d _ _ r, e => Ztw r ((d, some (.tuple [])) :: Ztw b e)
def Zo0 : Items -> Env -> Env
  | .nil, e => e
  | .op d _ r, e => Zo0 r (match d with | none => e | some d => (d, none) :: e)
  | .grp _ _ b r, e => Zo0 r (Zo0 b e)
  | .grpJ _ _ b d _ _ r, e => Zo0 r ((d, none) :: Zo0 b e)
def isB : SVal -> Bool -> Prop
  | .bool b, q => b = q
  | _, _ => False
theorem ZkO {v : SVal} {q : Bool} (h : isB v q) : v = .bool q := by
  cases v <;> simp only [isB] at h; rw [h]
def Zby (H' H : Heap) : List (Nat × Option Ent) -> Prop
  | [] => True
  | (i, _) :: r => H'.find i = H.find i /\ Zby H' H r
theorem ZkN {H' H : Heap} : ∀ {l : List (Nat × Option Ent)}, Zby H' H l -> ∀ i, i ∈ l.map (·.1) -> H'.find i = H.find i
  | [], _, _, hm => by simp at hm
  | (k, _) :: r, h, i, hm => by
    simp only [Zby] at h
    simp only [List.map_cons, List.mem_cons] at hm
    rcases hm with rfl | hm
    · exact h.1
    · exact ZkN h.2 i hm
theorem ZgR {H' H : Heap} (h : Zby H' H H.ents) (i : Nat) (en : Ent) (he : H.find i = some en) : H'.find i = some en := by
  rw [ZkN h i (List.mem_map.2 ⟨_, ZdT he, rfl⟩)]; exact he
def Zda (Γ : Zav) : Items -> Env -> Heap -> (Env -> Heap -> Prop) -> Prop
  | .nil, e, H, K => K e H
  | .op d x r, e, H, K => ZaV Γ x e H fun v H' => Zda Γ r (put d v e) H' K
  | .grp t want b r, e, H, K => match ZeN e t with
    | some (.bool c) => (c = want -> Zda Γ b ((t, some (.bool want)) :: e) H fun e' H' => Zda Γ r e' H' K) /\ (c = !want -> Zda Γ r (Ztw b ((t, some (.bool (!want))) :: e)) H K)
    | _ => False
  | .grpJ t want b d x y r, e, H, K => match ZeN e t with
    | some (.bool c) => ∃ q : Bool, (c = want -> Zda Γ b ((t, some (.bool want)) :: e) H fun e' H' => Zby H' H H.ents /\ x.ev e' fun v => isB v q) /\
        (c = (!want) -> y.ev e fun v => isB v q) /\ Zda Γ r ((d, some (.bool q)) :: Zo0 b e) H K
    | _ => False
def AOp.looks : AOp -> Bool
  | .box _ | .alloc _ | .bslice _ _ _ | .store1 _ _ | .storeA _ _ _ | .append _ _ _ | .mkslice _ _ _ | .call _ _ | .makeMap _ | .mapUpd _ _ _ _ | .mapUpV _ _ _ | .mapDel _ _ | .appendIn _ _ _ | .clearR _ _ | .appendFit _ _ _ | .bsliceV _ _ | .bsliceH _ _ | .appendH _ _ | .loadHr _ | .appendRW _ _ _ | .bad => false
  | _ => true
def evQ (Γ : Zav) (H : Heap) : Items -> Env -> (Env -> Prop) -> Prop
  | .nil, e, K => K e
  | .op d (.call f args) r, e, K => evL e args fun vs => ∃ v, v.bd H.next /\ Γ f vs H (fun u H' => u = v /\ Zby H' H H.ents) /\ evQ Γ H r (put d v e) K
  | .op d x r, e, K => bif x.looks then ZaV Γ x e H fun v _ => evQ Γ H r (put d v e) K else False
  | .grp t want b r, e, K => match ZeN e t with
    | some (.bool c) => (c = want -> evQ Γ H b ((t, some (.bool want)) :: e) fun e' => evQ Γ H r e' K) /\ (c = !want -> evQ Γ H r (Ztw b ((t, some (.bool (!want))) :: e)) K)
    | _ => False
  | .grpJ t want b d x y r, e, K => match ZeN e t with
    | some (.bool c) => ∃ q : Bool, (c = want -> evQ Γ H b ((t, some (.bool want)) :: e) fun e' => x.ev e' fun v => isB v q) /\
        (c = (!want) -> y.ev e fun v => isB v q) /\ evQ Γ H r ((d, some (.bool q)) :: Zo0 b e) K
    | _ => False
inductive MStep
  | mk (i k : Nat) (d : Option Nat) (x : AOp)
def evM (Γ : Zav) : List MStep -> Env -> Heap -> (Env -> Heap -> Prop) -> Prop
  | [], e, H, K => K e H
  | .mk _ 0 d x :: r, e, H, K => bif x.looks then ZaV Γ x e H fun v _ => evM Γ r (put d v e) H K else False
  | .mk _ 1 d x :: r, e, H, K => ZaV Γ x e H fun v H' => Zby H' H H.ents /\ evM Γ r (put d v e) H' K
  | .mk _ _ d x :: r, e, H, K => ZaV Γ x e H fun v H' => evM Γ r (put d v e) H' K
inductive MTree
  | nil
  | st (i k : Nat) (g : Option (Nat × Bool)) (d : Option Nat) (x : AOp) (r : MTree)
  | sk (i : Nat) (g : Nat × Bool) (d : Option Nat) (r : MTree)
  | alt (a b : MTree)
  | gd (t : Nat) (a b : MTree)
inductive ACode
  | skip
  | ret
  | exit (id : Nat)
  | reg (its : Items)
  | regQ (its : Items)
  | regM (steps : List MStep)
  | regT (t : MTree)
  | seq (a b : ACode)
  | cond (x : Opd) (t f : ACode)
  | block (id : Nat) (b : ACode)
  | loop (b : ACode)
inductive X | nrm | ex (id : Nat) | ret
abbrev ZsP := ACode -> Env -> Heap -> (X -> Env -> Heap -> Prop) -> Prop
def ZdU (Γ : Zav) (Λ : ZsP) : ACode -> Env -> Heap -> (X -> Env -> Heap -> Prop) -> Prop
  | .skip, e, H, K => K .nrm e H
  | .ret, e, H, K => K .ret e H
  | .exit id, e, H, K => K (.ex id) e H
  | .reg its, e, H, K => Zda Γ its e H (K .nrm)
  | .regQ its, e, H, K => evQ Γ H its e fun e' => K .nrm e' H
  | .regM steps, e, H, K => evM Γ steps e H (K .nrm)
  | .regT _, _, _, _ => False
  | .seq a b, e, H, K => ZdU Γ Λ a e H fun x e H => match x with
    | .nrm => ZdU Γ Λ b e H K
    | .ex i => K (.ex i) e H
    | .ret => K .ret e H
  | .cond c t f, e, H, K => c.ev e fun v => match v with
    | .bool b => (b = true -> ZdU Γ Λ t e H K) /\ (b = false -> ZdU Γ Λ f e H K)
    | _ => False
  | .block id b, e, H, K => ZdU Γ Λ b e H fun x e H => match x with
    | .nrm => K .nrm e H
    | .ex i => bif Nat.beq i id then K .nrm e H else K (.ex i) e H
    | .ret => K .ret e H
  | .loop b, e, H, K => Λ b e H K
def Zdb (nt : Nat) : Option Nat -> Option Nat -> Bool
  | none, none => true
  | some a, some b => Nat.beq a b && Nat.blt a nt
  | _, _ => false
def Zb9 (ops : List Oper) : Option (Nat × Bool) -> Option (Nat × Bool) -> Bool
  | none, none => true
  | some (t, w), some (j, w') => w == w' && (match ops[j]? with | some o => (match o.dst with | some d => Nat.beq d t | none => false) | none => false)
  | _, _ => false
def Zix : Option Nat -> Option Nat -> Bool
  | some t, some d => !(Nat.beq d t)
  | _, _ => true
def ZeJ : Option Nat -> List Nat -> Bool
  | some t, ds => !(ds.contains t)
  | none, _ => true
def inG : Option (Nat × Bool) -> List Nat -> Nat -> Bool
  | none, _, _ => true
  | some _, ds, t => ds.contains t
def ZuZ (ds : List Nat) : Opd -> Bool
  | .tm s => !(ds.contains s)
  | .cn _ => true
def ZiD (w : Bool) (t : Nat) (x y : Opd) : Op -> Bool
  | .pick (.tmp s) u v => Nat.beq s t && (bif w then x.fits u && y.fits v else y.fits u && x.fits v)
  | _ => false
def Items.fits (P : Program) (nt : Nat) (ops : List Oper) (g : Option (Nat × Bool)) (top : Option Nat) (ds : List Nat) : Items -> List Oper -> Option (List Oper × List Nat)
  | .nil, os => some (os, ds)
  | .op d x r, os => match os with
    | o :: os' => bif Zdb nt d o.dst && x.fits P o.op && Zb9 ops g o.guard && Zix top d then Items.fits P nt ops g top (d.toList ++ ds) r os' else none
    | [] => none
  | .grp t w b r, os => bif inG g ds t && Nat.blt t nt then (match Items.fits P nt ops (some (t, w)) (some t) [] b os with
    | some (os', ds') => bif ZeJ top ds' then Items.fits P nt ops g top (ds' ++ ds) r os' else none
    | none => none) else none
  | .grpJ t w b d x y r, os => bif inG g ds t && Nat.blt t nt then (match Items.fits P nt ops (some (t, w)) (some t) [] b os with
    | some (o :: os', ds') => bif ZeJ top ds' && Zix top (some d) && Zdb nt (some d) o.dst && Zb9 ops g o.guard && ZuZ ds' y && ZiD w t x y o.op
        then Items.fits P nt ops g top (d :: (ds' ++ ds)) r os' else none
    | _ => none) else none
theorem Zas {α : Type} {c : Bool} {A : Option α} {x : α} (h : (bif c then A else none) = some x) : c = true /\ A = some x := by
  cases c with
  | false => cases h
  | true => exact ⟨rfl, h⟩
def ZaA (n : Nat) : List MStep -> Nat
  | [] => n
  | .mk i k _ _ :: r => bif Nat.ble 2 k then i else ZaA n r
def ZsS (ops : Array Oper) : Nat -> Nat -> Nat -> Bool
  | 0, _, _ => false
  | f + 1, e, i => match ops[e]? with
    | some o => o.after.any fun d => Region.binds .any d && (Nat.beq d.on i || ZsS ops f d.on i)
    | none => false
def Zkm (P : Program) (nt : Nat) (ops : Array Oper) : Array Bool -> List MStep -> Bool
  | listed, [] => (Region.ready .any ops listed).isEmpty
  | listed, .mk i k d x :: r => match ops[i]? with
    | some o => o.guard.isNone && Zdb nt d o.dst && x.fits P o.op &&
      (bif Nat.beq k 0 then (Region.ready .any ops listed).contains i && Region.free .any ops listed i && (Nat.beq (ZaA ops.size r) ops.size || ZsS ops ops.size (ZaA ops.size r) i)
        else decide (Region.ready .any ops listed = [i])) && Zkm P nt ops (listed.setIfInBounds i true) r
    | none => false
def ZbJ (n : Nat) : MTree -> Nat
  | .nil => n
  | .st i k _ _ _ r => bif Nat.ble 2 k then i else ZbJ n r
  | .sk _ _ _ r => ZbJ n r
  | .alt a _ => ZbJ n a
  | .gd _ a _ => ZbJ n a
def Zyt : MTree -> Nat
  | .nil => 0
  | .st _ _ _ _ _ r => Zyt r + 1
  | .sk _ _ _ r => Zyt r + 1
  | .alt a _ => Zyt a
  | .gd _ a _ => Zyt a
def Zr8 : MTree -> List Nat
  | .st i k _ _ _ _ => bif Nat.beq k 0 then [] else [i]
  | .alt a b => Zr8 a ++ Zr8 b
  | _ => []
def Zcs : Nat := 1000000
def ZgQ (kn : List (Nat × Bool)) : Option (Nat × Bool) -> Bool
  | none => true
  | some g => Nat.blt g.1 Zcs && kn.contains g
def ZOa (kn : List (Nat × Bool)) : Option Nat -> List (Nat × Bool)
  | none => kn
  | some d => (d + Zcs, true) :: kn
def ZgP (kn : List (Nat × Bool)) : Option Nat -> Bool
  | none => true
  | some d => kn.all fun p => !(Nat.beq p.1 d) && !(Nat.beq p.1 (d + Zcs))
def ZoO (P : Program) (nt : Nat) (ops : Array Oper) : List (Nat × Bool) -> Bool -> Array Bool -> MTree -> Bool
  | _, top, listed, .nil => top && (Region.ready .any ops listed).isEmpty
  | kn, top, listed, .st i k g d x r => match ops[i]? with
    | some o => Zdb nt d o.dst && x.fits P o.op && Zb9 ops.toList g o.guard && ZgQ kn g && ZgP kn d &&
      (bif Nat.beq k 0 then top && (Region.ready .any ops listed).contains i && Region.free .any ops listed i && (Nat.beq (ZbJ ops.size r) ops.size || ZsS ops ops.size (ZbJ ops.size r) i)
        else bif top then decide (Region.ready .any ops listed = [i]) else (Region.ready .any ops listed).contains i) && ZoO P nt ops kn true (listed.setIfInBounds i true) r
    | none => false
  | kn, top, listed, .sk i g d r => match ops[i]? with
    | some o => Zdb nt d o.dst && Zb9 ops.toList (some (g.1, !g.2)) o.guard && (ZgQ kn (some g) || kn.contains (g.1 + Zcs, true)) && ZgP kn d &&
      (top && (Region.ready .any ops listed).contains i && Region.free .any ops listed i) && ZoO P nt ops (ZOa kn d) true (listed.setIfInBounds i true) r
    | none => false
  | kn, top, listed, .alt a b => Nat.beq (ZbJ ops.size a) (ZbJ ops.size b) && Nat.beq (Zyt a) (Zyt b) && Nat.ble 1 (Zyt a) &&
      (bif top then !(Region.ready .any ops listed).isEmpty && (Region.ready .any ops listed).all fun j => (Zr8 a ++ Zr8 b).contains j else true) && ZoO P nt ops kn false listed a && ZoO P nt ops kn false listed b
  | kn, top, listed, .gd t a b => top && (Nat.blt t nt && Nat.blt t Zcs) && Nat.beq (ZbJ ops.size a) (ZbJ ops.size b) && Nat.beq (Zyt a) (Zyt b) && ZoO P nt ops ((t, true) :: kn) true listed a && ZoO P nt ops ((t, false) :: kn) true listed b
def ACode.fits (P : Program) (nt : Nat) : ACode -> Code -> Bool
  | .skip, .skip => true
  | .ret, .ret => true
  | .exit i, .exit j => Nat.beq i j
  | .reg its, .region _ ops draw => !draw && (match Items.fits P nt ops.toList none none [] its ops.toList with | some ([], _) => true | _ => false)
  | .regQ its, .region _ ops draw => draw && P.follows .mixedOrders && Region.lexB .any ops && (match Items.fits P nt ops.toList none none [] its ops.toList with | some ([], _) => true | _ => false)
  | .regM steps, .region _ ops draw => draw && P.follows .mixedOrders && Region.noSelect ops && Nat.beq steps.length ops.size && Zkm P nt ops (Array.replicate ops.size false) steps
  | .regT t, .region _ ops draw => draw && P.follows .mixedOrders && Region.noSelect ops && Nat.beq (Zyt t) ops.size && ZoO P nt ops [] true (Array.replicate ops.size false) t
  | .seq a b, .seq a' b' => a.fits P nt a' && b.fits P nt b'
  | .cond x t f, .cond x' t' f' => x.fits x' && t.fits P nt t' && f.fits P nt f'
  | .block i b, .block j b' => Nat.beq i j && b.fits P nt b'
  | .loop b, .loop b' => b.fits P nt b'
  | _, _ => false
section
variable {P : Program} {w0 : World} {fp : Nat -> Nat -> Prop} {nt : Nat}
def ZaK (P : Program) (Γ : Zav) : Prop := ∀ f vs H K, Γ f vs H K -> ZsM P f = true -> ∀ w0 fp ρ w, Rel w0 fp ρ H w -> okL ρ H.next vs ->
  Calls P f (ZaH ρ vs).toArray w fun e w' => ∃ v, e = .returned v /\ OpPost w0 fp ρ H K v w'
theorem EnvOk.put {ρ ρ' : Rho} {n n' : Nat} {e : Env} {a : Act} {d d' : Option Nat} {v : SVal} (he : EnvOk ρ n nt e a.tmps) (hρ : ∀ i, i < n -> ρ' i = ρ i) (hn : n <= n') (hd : Zdb nt d d' = true) (hv : v.ok ρ' n') :
    EnvOk ρ' n' nt (Sx.put d v e) (a.put d' (v.conc ρ')).tmps := by
  have hold : ∀ s u, ZeN e s = some u -> u.ok ρ' n' /\ a.tmps.getD s undef = u.conc ρ' := fun s u hu => by
    have := he.2 s u hu
    exact ⟨SVal.ok_mono hρ hn u this.1, by rw [this.2, SVal.conc_congr hρ u this.1]⟩
  unfold Zdb at hd
  split at hd
  · exact ⟨he.1, hold⟩
  · rename_i x y
    rw [Bool.and_eq_true] at hd
    have := Nat.eq_of_beq_eq_true hd.1
    subst this
    have hlt : x < nt := Nat.le_of_ble_eq_true hd.2
    refine ⟨by simp [Act.put, he.1], fun s u hu => ?_⟩
    simp only [Sx.put, ZeN] at hu
    cases hb : Nat.beq x s with
    | true =>
      rw [hb] at hu
      have := Nat.eq_of_beq_eq_true hb
      subst this
      simp only [cond_true, Option.some.injEq] at hu
      subst hu
      refine ⟨hv, ?_⟩
      simp [Act.put, he.1, hlt]
    | false =>
      rw [hb] at hu
      have hne : x ≠ s := fun h => by subst h; simp at hb
      have := hold s u hu
      refine ⟨this.1, ?_⟩
      rw [<- this.2]
      simp [Act.put, Array.getElem?_setIfInBounds_ne hne]
  · cases hd
theorem Ztk {Γ : Zav} (hΓ : ZaK P Γ) {f : Nat} {args : List Opd} {o : Oper} {a : Act} {e : Env} {ρ : Rho} {H : Heap} {K : SVal -> Heap -> Prop} {w : World} {next : Act -> World -> Prop} {Q}
    (hf : (AOp.call f args).fits P o.op = true) (he : EnvOk ρ H.next nt e a.tmps) (hr : Rel w0 fp ρ H w) (h : ZaV Γ (.call f args) e H K)
    (hn : ∀ v w', OpPost w0 fp ρ H K v w' -> next (a.put o.dst v) w') : o.wp P a w next Q := by
  simp only [AOp.fits] at hf
  simp only [ZaV] at h
  split at hf
  · rename_i g args' ts hop
    rw [Bool.and_eq_true, Bool.and_eq_true] at hf
    obtain ⟨⟨hfg, hargs⟩, hbod⟩ := hf
    have := Nat.eq_of_beq_eq_true hfg
    subst this
    obtain ⟨vs, h1, h2, h3⟩ := Zfg he hargs h
    have hc := hΓ f vs H K h1 hbod w0 fp ρ w hr h2
    have hrun : (execOp a.eval o).run P w = .ok (.enter f (ZaH ρ vs).toArray) w := by
      unfold ZsM at hbod
      split at hbod
      · rename_i fn hfn
        rw [Bool.and_eq_true] at hbod
        obtain ⟨body, hbody⟩ := Option.isSome_iff_exists.1 hbod.1
        have hnm : (fn.name == "runtime.NumGoroutine") = false := by simpa using hbod.2
        have hnm' : ¬ (fn.name = "runtime.NumGoroutine") := by simpa using hnm
        simp [execOp, hop, resolve, Act.eval, Deferred.ofValue, invoke, callFunc, hfn, hnm', hbody, Zfy h3]
      · cases hbod
    unfold Oper.wp
    rw [hrun]
    exact hc.mono fun e w' ⟨v, he, hp⟩ => by subst he; exact hn v w' hp
  · cases hf
theorem ZgH {Γ : Zav} (hΓ : ZaK P Γ) {x : AOp} {o : Oper} {a : Act} {e : Env} {ρ : Rho} {H : Heap} {K : SVal -> Heap -> Prop} {w : World} {next : Act -> World -> Prop} {Q}
    (hf : x.fits P o.op = true) (he : EnvOk ρ H.next nt e a.tmps) (hr : Rel w0 fp ρ H w) (h : ZaV Γ x e H K)
    (hn : ∀ v w', OpPost w0 fp ρ H K v w' -> next (a.put o.dst v) w') : o.wp P a w next Q := by
  cases x with
  | call f args => exact Ztk hΓ hf he hr h hn
  | mov => exact ((ZgL hf he hr h).runs hr).wp hn
  | bin => exact ((Zha hf he hr h).runs hr).wp hn
  | not => exact ((ZgJ hf he hr h).runs hr).wp hn
  | conv => exact ((ZfK hf he hr h).runs hr).wp hn
  | box => exact (Zye hf he hr h).wp hn
  | alloc => exact (Zq1 hf he hr h).wp hn
  | build => exact ((ZeE hf he hr h).runs hr).wp hn
  | bslice => exact (Zou hf he hr h).wp hn
  | load1 => exact ((Zd4 hf he hr h).runs hr).wp hn
  | loadA => exact ((Zd3 hf he hr h).runs hr).wp hn
  | store1 => exact (ZnM hf he hr h).wp hn
  | storeA => exact (ZnL hf he hr h).wp hn
  | fieldAddr => exact ((Zcb hf he hr h).runs hr).wp hn
  | idxS => exact ((Zfz hf he hr h).runs hr).wp hn
  | idxA => exact ((ZfA hf he hr h).runs hr).wp hn
  | len => exact ((Zb3 hf he hr h).runs hr).wp hn
  | slen => exact ((Zft hf he hr h).runs hr).wp hn
  | extract => exact ((ZcE hf he hr h).runs hr).wp hn
  | nilCheck => exact ((Zcp hf he hr h).runs hr).wp hn
  | append => exact (Zox hf he hr h).wp hn
  | sliceP => exact ((Zdj hf he hr h).runs hr).wp hn
  | mkslice => exact (Zly hf he hr h).wp hn
  | strIdx => exact ((Zdi hf he hr h).runs hr).wp hn
  | eqA => exact ((ZgX hf he hr h).runs hr).wp hn
  | buildI => exact ((ZdI hf he hr h).runs hr).wp hn
  | isNilP => exact ((Zds hf he hr h).runs hr).wp hn
  | makeMap => exact (ZlA hf he hr h).wp hn
  | mapUpd => exact (Zn0 hf he hr h).wp hn
  | mapUpV => exact (Zn1 hf he hr h).wp hn
  | mapDel => exact (Zn2 hf he hr h).wp hn
  | mapGet => exact ((Zdm hf he hr h).runs hr).wp hn
  | mapLen => exact ((Zdl hf he hr h).runs hr).wp hn
  | appendIn => exact (Zkq hf he hr h).wp hn
  | clearR => exact (Zol hf he hr h).wp hn
  | appendFit => exact (Zkg hf he hr h).wp hn
  | bsliceV => exact (Zni hf he hr h).wp hn
  | bsliceH => exact (Znj hf he hr h).wp hn
  | appendH => exact (Znk hf he hr h).wp hn
  | loadHr => exact (Zn3 hf he hr h).wp hn
  | loadHq => exact ((Zdo hf he hr h).runs hr).wp hn
  | idxHq => exact ((Zd9 hf he hr h).runs hr).wp hn
  | loadRq => exact ((Zdn hf he hr h).runs hr).wp hn
  | appendRW => exact (Zkp hf he hr h).wp hn
  | load1P => exact ((Zdp hf he hr h).runs hr).wp hn
  | bad => exact h.elim
def lets (g : Option (Nat × Bool)) (tmps : Array Value) : Prop :=
  match g with
  | none => True
  | some (t, w) => tmps[t]? = some (.bool w)
theorem Zcm {ops : Array Oper} {g : Option (Nat × Bool)} {o : Oper} {tmps : Array Value} (hg : Zb9 ops.toList g o.guard = true) (hl : lets g tmps) : Region.wanted o (yielded ops tmps) = true := by
  unfold Zb9 at hg
  unfold Region.wanted
  split at hg
  · rename_i hgd; simp only [hgd]
  · rename_i t w j w' hgd
    rw [Bool.and_eq_true, beq_iff_eq] at hg
    obtain ⟨rfl, hg⟩ := hg
    simp only [hgd]
    split at hg
    · rename_i oj hoj
      split at hg
      · rename_i d hd
        have := Nat.eq_of_beq_eq_true hg
        subst this
        rw [Array.getElem?_toList] at hoj
        simp only [lets] at hl
        simp [yielded, hoj, hd, hl]
      · cases hg
    · cases hg
  · cases hg
def blocked (t : Nat) (w : Bool) (tmps : Array Value) : Prop := tmps[t]? ≠ some (.bool w)
theorem ZfX {ops : Array Oper} {t : Nat} {w : Bool} {o : Oper} {tmps : Array Value} (hg : Zb9 ops.toList (some (t, w)) o.guard = true) (hl : blocked t w tmps) : Region.wanted o (yielded ops tmps) = false := by
  cases hgd : o.guard with
  | none => simp [Zb9, hgd] at hg
  | some p =>
    obtain ⟨j, w'⟩ := p
    simp only [Zb9, hgd, Bool.and_eq_true, beq_iff_eq] at hg
    obtain ⟨rfl, hg⟩ := hg
    unfold Region.wanted
    simp only [hgd]
    split at hg
    · rename_i oj hoj
      split at hg
      · rename_i d hd
        have := Nat.eq_of_beq_eq_true hg
        subst this
        rw [Array.getElem?_toList] at hoj
        simp only [blocked] at hl
        simp only [yielded, hoj, Option.bind_some, hd]
        split
        · rename_i b hb
          have : b ≠ w := fun h => hl (by rw [hb, h])
          simpa using this
        · rfl
      · cases hg
    · cases hg
theorem ZnN {ops : Array Oper} {Q : Exit -> Act -> World -> Prop} {o : Oper} {rest : List Oper} {a : Act} {w : World} (hw : Region.wanted o (yielded ops a.tmps) = false)
    (h : wpList P ops Q rest (a.put o.dst undef) w) : wpList P ops Q (o :: rest) a w := by
  unfold wpList
  rw [if_neg (by simp [hw])]
  exact h
theorem ZuI {ops : Array Oper} {Q : Exit -> Act -> World -> Prop} {o : Oper} {rest : List Oper} {a : Act} {w : World} (hw : Region.wanted o (yielded ops a.tmps) = true)
    (h : o.wp P a w (wpList P ops Q rest) Q) : wpList P ops Q (o :: rest) a w := by
  unfold wpList
  rw [if_pos hw]
  exact .inl h
theorem ZbV {a : Act} {d : Option Nat} {v : Value} {s : Nat} (h : d ≠ some s) : (a.put d v).tmps[s]? = a.tmps[s]? := by
  cases d with
  | none => rfl
  | some d => simp only [Act.put]; rw [Array.getElem?_setIfInBounds_ne (fun h' => h (by rw [h']))]
theorem ZrZ {a : Act} {d : Nat} {v : Value} (h : d < a.tmps.size) : (a.put (some d) v).tmps[d]? = some v := by
  simp [Act.put, h]
theorem Zlv {a : Act} {d : Option Nat} {v : Value} : (a.put d v).tmps.size = a.tmps.size := by
  cases d <;> simp [Act.put]
theorem ZaS {a : Act} {d : Option Nat} {v : Value} : (a.put d v).defers = a.defers := by
  cases d <;> rfl
theorem ZgY {d d' : Option Nat} (h : Zdb nt d d' = true) : d = d' /\ ∀ x, d = some x -> x < nt := by
  unfold Zdb at h
  split at h
  · exact ⟨rfl, fun _ h => by cases h⟩
  · rename_i a b
    rw [Bool.and_eq_true] at h
    have := Nat.eq_of_beq_eq_true h.1
    subst this
    exact ⟨rfl, fun x hx => by cases hx; exact Nat.le_of_ble_eq_true h.2⟩
  · cases h
structure Dead (a a' : Act) (ds : List Nat) : Prop where
  size : a'.tmps.size = a.tmps.size
  defers : a'.defers = a.defers
  at_ : ∀ d, d ∈ ds -> a'.tmps[d]? = some undef
  other : ∀ d, d ∉ ds -> a'.tmps[d]? = a.tmps[d]?
theorem Zo7 {tmps : Array Value} {s : Nat} {v : Value} (h : tmps[s]? = some v) : tmps.getD s undef = v := by
  simp [Array.getD_eq_getD_getElem?, h]
theorem Zti {ρ : Rho} : (SVal.tuple []).conc ρ = undef := by simp [SVal.conc, ZaH, undef]
theorem Zbp {ops : List Oper} : ∀ (its : Items) (g : Option (Nat × Bool)) (t : Nat) (ds : List Nat) (os os' : List Oper) (ds' : List Nat),
    Items.fits P nt ops g (some t) ds its os = some (os', ds') -> t ∉ ds -> t ∉ ds' /\ ∀ d, d ∈ ds -> d ∈ ds'
  | .nil, g, t, ds, os, os', ds', hf, ht => by
    simp only [Items.fits, Option.some.injEq, Prod.mk.injEq] at hf
    obtain ⟨rfl, rfl⟩ := hf
    exact ⟨ht, fun _ h => h⟩
  | .op d x r, g, t, ds, os, os', ds', hf, ht => by
    cases os with
    | nil => simp [Items.fits] at hf
    | cons o os =>
      simp only [Items.fits] at hf
      obtain ⟨hc, hf⟩ := Zas hf
      simp only [Bool.and_eq_true] at hc
      have := Zbp r g t _ os os' ds' hf (fun h => by
        rcases List.mem_append.1 h with h | h
        · cases d with
          | none => simp at h
          | some d => simp at h; subst h; simp [Zix] at hc
        · exact ht h)
      exact ⟨this.1, fun d hd => this.2 d (List.mem_append_right _ hd)⟩
  | .grp t2 w2 b r, g, t, ds, os, os', ds', hf, ht => by
    simp only [Items.fits] at hf
    obtain ⟨_, hf⟩ := Zas hf
    split at hf
    · rename_i os1 ds1 _
      obtain ⟨hc, hf⟩ := Zas hf
      have := Zbp r g t _ os1 os' ds' hf (fun h => by
        rcases List.mem_append.1 h with h | h
        · simp [ZeJ] at hc; exact hc h
        · exact ht h)
      exact ⟨this.1, fun d hd => this.2 d (List.mem_append_right _ hd)⟩
    · cases hf
  | .grpJ t2 w2 b d x y r, g, t, ds, os, os', ds', hf, ht => by
    simp only [Items.fits] at hf
    obtain ⟨_, hf⟩ := Zas hf
    split at hf
    · rename_i o os1 ds1 _
      obtain ⟨hc, hf⟩ := Zas hf
      simp only [Bool.and_eq_true] at hc
      have := Zbp r g t _ os1 os' ds' hf (fun h => by
        simp only [List.mem_cons, List.mem_append] at h
        rcases h with h | h | h
        · subst h; simp [Zix] at hc
        · simp [ZeJ] at hc; exact hc.1.1.1.1.1 h
        · exact ht h)
      exact ⟨this.1, fun d hd => this.2 d (by simp [hd])⟩
    · cases hf
theorem Dead.trans {a b c : Act} {ds es : List Nat} (h : Dead a b ds) (k : Dead b c (es)) (hsub : ∀ d, d ∈ ds -> d ∈ es) : Dead a c es :=
  ⟨k.size.trans h.size, k.defers.trans h.defers, k.at_, fun d hd => (k.other d hd).trans (h.other d (fun h' => hd (hsub d h')))⟩
theorem Zsd {a : Act} {d : Option Nat} {d' : Option Nat} (hdst : Zdb nt d d' = true) (hsz : a.tmps.size = nt) : Dead a (a.put d' undef) d.toList := by
  obtain ⟨rfl, hdl⟩ := ZgY hdst
  refine ⟨Zlv, ZaS, fun s hs => ?_, fun s hs => ZbV fun h => hs (by rw [h]; simp)⟩
  cases d with
  | none => simp at hs
  | some d => simp at hs; subst hs; exact ZrZ (by rw [hsz]; exact hdl _ rfl)
theorem Dead.env {ρ : Rho} {n : Nat} {e : Env} {a : Act} {d d' : Option Nat} (he : EnvOk ρ n nt e a.tmps) (hdst : Zdb nt d d' = true) : EnvOk ρ n nt (Sx.put d (.tuple []) e) (a.put d' undef).tmps := by
  have := he.put (ρ' := ρ) (n' := n) (v := .tuple []) (fun _ _ => rfl) (Nat.le_refl _) hdst (by simp [SVal.ok, okL])
  rwa [Zti] at this
theorem Zbk {ops : Array Oper} {W : List Oper -> Act -> Prop} (hW : ∀ o rest a, Region.wanted o (yielded ops a.tmps) = false -> W rest (a.put o.dst undef) -> W (o :: rest) a) : ∀ (its : Items) (t : Nat) (wt : Bool) (ds : List Nat) (os os' : List Oper) (ds' : List Nat) (a : Act),
    Items.fits P nt ops.toList (some (t, wt)) (some t) ds its os = some (os', ds') -> a.tmps.size = nt -> blocked t wt a.tmps -> t ∉ ds -> (∀ d, d ∈ ds -> a.tmps[d]? = some undef) ->
    (∀ a', Dead a a' ds' -> (∀ ρ n e, EnvOk ρ n nt e a.tmps -> EnvOk ρ n nt (Ztw its e) a'.tmps) -> W os' a') -> W os a
  | .nil, t, wt, ds, os, os', ds', a, hf, hsz, hb, ht, hds, h => by
    simp only [Items.fits, Option.some.injEq, Prod.mk.injEq] at hf
    obtain ⟨rfl, rfl⟩ := hf
    exact h a ⟨rfl, rfl, hds, fun _ _ => rfl⟩ (fun _ _ _ h => h)
  | .op d x r, t, wt, ds, os, os', ds', a, hf, hsz, hb, ht, hds, h => by
    cases os with
    | nil => simp [Items.fits] at hf
    | cons o os =>
      simp only [Items.fits] at hf
      obtain ⟨hc, hf⟩ := Zas hf
      simp only [Bool.and_eq_true] at hc
      obtain ⟨⟨⟨hdst, _⟩, hgd⟩, htop⟩ := hc
      have hdt : t ∉ d.toList := fun h => by cases d <;> simp at h; subst h; simp [Zix] at htop
      have hd1 := Zsd hdst hsz
      have hnt : t ∉ d.toList ++ ds := fun h => (List.mem_append.1 h).elim hdt ht
      have hst := Zbp r _ t _ os os' ds' hf hnt
      refine hW _ _ _ (ZfX hgd hb) (Zbk hW r t wt _ os os' ds' _ hf (by rw [Zlv, hsz]) (by unfold blocked at *; rw [hd1.other t hdt]; exact hb) hnt (fun s hs => ?_) fun a' hd he => h a' (hd1.trans hd fun s hs => hst.2 s (List.mem_append_left _ hs)) fun ρ n e hee => ?_)
      · by_cases hs' : s ∈ d.toList
        · exact hd1.at_ s hs'
        · rw [hd1.other s hs']; exact hds s ((List.mem_append.1 hs).resolve_left hs')
      · simp only [Ztw]; exact he ρ n _ (Dead.env hee hdst)
  | .grp t2 w2 b r, t, wt, ds, os, os', ds', a, hf, hsz, hb, ht, hds, h => by
    simp only [Items.fits] at hf
    obtain ⟨hc, hf⟩ := Zas hf
    rw [Bool.and_eq_true] at hc
    have hm : t2 ∈ ds := by simpa [inG] using hc.1
    split at hf
    · rename_i os1 ds1 hb1
      obtain ⟨hc1, hf⟩ := Zas hf
      have ht1 : t ∉ ds1 := by simpa [ZeJ] using hc1
      have hnt : t ∉ ds1 ++ ds := fun h => (List.mem_append.1 h).elim ht1 ht
      have hst := Zbp r _ t _ os1 os' ds' hf hnt
      refine Zbk hW b t2 w2 [] os os1 ds1 a hb1 hsz (by unfold blocked; rw [hds t2 hm]; simp [undef]) (by simp) (by simp) fun a1 hd1 he1 => ?_
      refine Zbk hW r t wt _ os1 os' ds' a1 hf (by rw [hd1.size, hsz]) (by unfold blocked at *; rw [hd1.other t ht1]; exact hb) hnt (fun s hs => ?_) fun a' hd he => h a' (hd1.trans hd fun s hs => hst.2 s (List.mem_append_left _ hs)) fun ρ n e hee => ?_
      · by_cases hs' : s ∈ ds1
        · exact hd1.at_ s hs'
        · rw [hd1.other s hs']; exact hds s ((List.mem_append.1 hs).resolve_left hs')
      · simp only [Ztw]; exact he ρ n _ (he1 ρ n e hee)
    · cases hf
  | .grpJ t2 w2 b d x y r, t, wt, ds, os, os', ds', a, hf, hsz, hb, ht, hds, h => by
    simp only [Items.fits] at hf
    obtain ⟨hc, hf⟩ := Zas hf
    rw [Bool.and_eq_true] at hc
    have hm : t2 ∈ ds := by simpa [inG] using hc.1
    split at hf
    · rename_i o os1 ds1 hb1
      obtain ⟨hc1, hf⟩ := Zas hf
      simp only [Bool.and_eq_true] at hc1
      obtain ⟨⟨⟨⟨⟨hto, htk⟩, hdst⟩, hgd⟩, hdn⟩, _⟩ := hc1
      have ht1 : t ∉ ds1 := by simpa [ZeJ] using hto
      have hdt : t ∉ (some d).toList := fun h => by simp at h; subst h; simp [Zix] at htk
      have hnt : t ∉ d :: (ds1 ++ ds) := fun h => by
        simp only [List.mem_cons, List.mem_append] at h
        rcases h with h | h | h
        · exact hdt (by simp [h])
        · exact ht1 h
        · exact ht h
      have hst := Zbp r _ t _ os1 os' ds' hf hnt
      refine Zbk hW b t2 w2 [] os (o :: os1) ds1 a hb1 hsz (by unfold blocked; rw [hds t2 hm]; simp [undef]) (by simp) (by simp) fun a1 hd1 he1 => ?_
      have hsz1 : a1.tmps.size = nt := by rw [hd1.size, hsz]
      have hd2 := Zsd hdst hsz1
      have hbt : blocked t wt a1.tmps := by unfold blocked at *; rw [hd1.other t ht1]; exact hb
      refine hW _ _ _ (ZfX hgd hbt) (Zbk hW r t wt _ os1 os' ds' _ hf (by rw [Zlv, hsz1]) (by unfold blocked at *; rw [hd2.other t hdt]; exact hbt) hnt (fun s hs => ?_)
        fun a' hd he => h a' ((hd1.trans (hd2.trans hd fun s hs => hst.2 s ?_) fun s hs => hst.2 s (by simp [hs]))) fun ρ n e hee => ?_)
      · by_cases hs' : s ∈ (some d).toList
        · exact hd2.at_ s hs'
        · rw [hd2.other s hs']
          by_cases hs2 : s ∈ ds1
          · exact hd1.at_ s hs2
          · rw [hd1.other s hs2]
            simp only [List.mem_cons, List.mem_append] at hs
            rcases hs with h | h | h
            · exact absurd (by simp [h]) hs'
            · exact absurd h hs2
            · exact hds s h
      · simp at hs; subst hs; simp
      · simp only [Ztw]; exact he ρ n _ (Dead.env (he1 ρ n e hee) hdst)
    · cases hf
theorem ZbM {ops : List Oper} : ∀ (its : Items) (g : Option (Nat × Bool)) (top : Option Nat) (ds : List Nat) (os os' : List Oper) (ds' : List Nat),
    Items.fits P nt ops g top ds its os = some (os', ds') -> ∀ d, d ∈ ds -> d ∈ ds'
  | .nil, g, t, ds, os, os', ds', hf, d, hd => by
    simp only [Items.fits, Option.some.injEq, Prod.mk.injEq] at hf
    obtain ⟨rfl, rfl⟩ := hf
    exact hd
  | .op d x r, g, t, ds, os, os', ds', hf, d', hd => by
    cases os with
    | nil => simp [Items.fits] at hf
    | cons o os =>
      simp only [Items.fits] at hf
      exact ZbM r g t _ os os' ds' (Zas hf).2 d' (List.mem_append_right _ hd)
  | .grp t2 w2 b r, g, t, ds, os, os', ds', hf, d, hd => by
    simp only [Items.fits] at hf
    obtain ⟨_, hf⟩ := Zas hf
    split at hf
    · exact ZbM r g t _ _ os' ds' (Zas hf).2 d (List.mem_append_right _ hd)
    · cases hf
  | .grpJ t2 w2 b d x y r, g, t, ds, os, os', ds', hf, d', hd => by
    simp only [Items.fits] at hf
    obtain ⟨_, hf⟩ := Zas hf
    split at hf
    · exact ZbM r g t _ _ os' ds' (Zas hf).2 d' (by simp [hd])
    · cases hf
theorem ZgV {k : Nat} {v : Option SVal} {e : Env} {s : Nat} : ZeN ((k, v) :: e) s = if k = s then v else ZeN e s := by
  simp only [ZeN]
  by_cases h : k = s
  · subst h; simp
  · have hb : Nat.beq k s = false := by
      cases hb : Nat.beq k s
      · rfl
      · exact absurd (Nat.eq_of_beq_eq_true hb) h
    simp [hb, h]
theorem Zdq {ops : List Oper} : ∀ (its : Items) (g : Option (Nat × Bool)) (top : Option Nat) (ds : List Nat) (os os' : List Oper) (ds' : List Nat) (e : Env) (s : Nat) (v : SVal),
    Items.fits P nt ops g top ds its os = some (os', ds') -> ZeN (Zo0 its e) s = some v -> ZeN e s = some v /\ (s ∈ ds' -> s ∈ ds)
  | .nil, g, t, ds, os, os', ds', e, s, v, hf, h => by
    simp only [Items.fits, Option.some.injEq, Prod.mk.injEq] at hf
    obtain ⟨rfl, rfl⟩ := hf
    exact ⟨h, id⟩
  | .op d x r, g, t, ds, os, os', ds', e, s, v, hf, h => by
    cases os with
    | nil => simp [Items.fits] at hf
    | cons o os =>
      simp only [Items.fits] at hf
      simp only [Zo0] at h
      have := Zdq r g t _ os os' ds' _ s v (Zas hf).2 h
      cases d with
      | none => exact ⟨this.1, fun h => by simpa using this.2 h⟩
      | some d =>
        simp only [ZgV] at this
        split at this
        · cases this.1
        · rename_i hne
          refine ⟨this.1, fun h => ?_⟩
          have := this.2 h
          simp at this
          exact this.resolve_left (fun h => hne h.symm)
  | .grp t2 w2 b r, g, t, ds, os, os', ds', e, s, v, hf, h => by
    simp only [Items.fits] at hf
    simp only [Zo0] at h
    obtain ⟨_, hf⟩ := Zas hf
    split at hf
    · rename_i os1 ds1 hb1
      have h1 := Zdq r g t _ _ os' ds' _ s v (Zas hf).2 h
      have h2 := Zdq b _ _ [] os os1 ds1 e s v hb1 h1.1
      exact ⟨h2.1, fun h => (List.mem_append.1 (h1.2 h)).elim (fun h' => by simpa using h2.2 h') id⟩
    · cases hf
  | .grpJ t2 w2 b d x y r, g, t, ds, os, os', ds', e, s, v, hf, h => by
    simp only [Items.fits] at hf
    simp only [Zo0] at h
    obtain ⟨_, hf⟩ := Zas hf
    split at hf
    · rename_i o os1 ds1 hb1
      have h1 := Zdq r g t _ _ os' ds' _ s v (Zas hf).2 h
      rw [ZgV] at h1
      split at h1
      · cases h1.1
      · rename_i hne
        have h2 := Zdq b _ _ [] os _ ds1 e s v hb1 h1.1
        refine ⟨h2.1, fun h => ?_⟩
        have := h1.2 h
        simp only [List.mem_cons, List.mem_append] at this
        rcases this with h' | h' | h'
        · exact absurd h'.symm hne
        · simpa using h2.2 h'
        · exact h'
    · cases hf
def St (w0 : World) (fp : Nat -> Nat -> Prop) (ρi : Rho) (n0 nt : Nat) (e : Env) (H : Heap) (a : Act) (w : World) : Prop :=
  ∃ ρ, (∀ i, i < n0 -> ρ i = ρi i) /\ n0 <= H.next /\ EnvOk ρ H.next nt e a.tmps /\ a.defers = [] /\ Rel w0 fp ρ H w
theorem EnvOk.at {ρ : Rho} {n : Nat} {e : Env} {tmps : Array Value} (he : EnvOk ρ n nt e tmps) {t : Nat} {v : SVal} (ht : t < nt) (h : ZeN e t = some v) : tmps[t]? = some (v.conc ρ) := by
  have := (he.2 t v h).2
  have hlt : t < tmps.size := by rw [he.1]; exact ht
  rw [<- this]
  simp [hlt]
theorem EnvOk.same {ρ : Rho} {n : Nat} {e : Env} {tmps : Array Value} (he : EnvOk ρ n nt e tmps) {t : Nat} {v : SVal} (h : ZeN e t = some v) : EnvOk ρ n nt ((t, some v) :: e) tmps :=
  ⟨he.1, fun s u hu => by
    rw [ZgV] at hu
    split at hu
    · rename_i hts; subst hts; cases hu; exact he.2 _ _ h
    · exact he.2 s u hu⟩
theorem ZlO {y : Opd} {op : Operand} {ds : List Nat} {a a1 : Act} (hf : y.fits op = true) (ho : ZuZ ds y = true) (h : ∀ s, s ∉ ds -> a1.tmps[s]? = a.tmps[s]?) : a1.eval op = a.eval op := by
  cases op with
  | tmp s =>
    cases y with
    | tm z =>
      have hs : z = s := Nat.eq_of_beq_eq_true hf
      subst hs
      have hz : z ∉ ds := by simpa [ZuZ] using ho
      simp only [Act.eval, Array.getD_eq_getD_getElem?, h z hz]
    | cn v => cases v <;> simp [Opd.fits] at hf
  | const v => rfl
  | global g => rfl
  | func f => rfl
theorem Rel.forget {ρ ρ' : Rho} {H H' : Heap} {w w1 : World} (h : Rel w0 fp ρ' H' w) (hk : ∀ i en, H.find i = some en -> H'.find i = some en) (hold : Rel w0 fp ρ H w1) (hρ : ∀ i, i < H.next -> ρ' i = ρ i) : Rel w0 fp ρ H w := by
  have hρ' : ∀ i, i < H.next -> ρ i = ρ' i := fun i hi => (hρ i hi).symm
  have hok : ∀ id en, H.find id = some en -> ZaE ρ' H.next en.cs := fun id en he => Za8 hρ (Nat.le_refl _) _ (hold.oks _ _ he)
  have hw : ∀ id en b o, H.find id = some en -> (Win ρ id en b o ↔ Win ρ' id en b o) := fun id en b o he => Win.congr (hρ' id (hold.next _ _ he))
  exact ⟨h.frame, fun id en he => (h.ents _ _ (hk _ _ he)).congr hρ' (hold.next _ _ he) (hok _ _ he) (fun _ _ _ => rfl) (fun _ _ _ _ => rfl) (fun _ _ _ h => h), hold.oks,
    fun id en he hwr b o hwn => h.own _ _ (hk _ _ he) hwr b o ((hw _ _ _ _ he).1 hwn), fun i j en en' hne he he' hwr b o h1 h2 => h.apart _ _ _ _ hne (hk _ _ he) (hk _ _ he') hwr b o ((hw _ _ _ _ he).1 h1) ((hw _ _ _ _ he').1 h2), hold.next, hold.ro, fun id en he q1 q2 b base hb => h.mnew _ _ (hk _ _ he) q1 q2 b base (by rw [<- hρ' id (hold.next _ _ he)]; exact hb),
    h.ab.ren _root_.id (fun _ _ _ _ _ _ hne => hne) (fun i en he => ⟨en, hk i en he, fun q1 q2 => ⟨q1, q2, hρ' i (hold.next _ _ he), fun _ h => h⟩, fun x o hwn => (hw _ _ _ _ he).1 hwn⟩),
    h.hid.to (fun i en he => .inr ⟨i, en, hk i en he, fun h => h, fun _ => rfl⟩) (fun x o v _ ⟨i, en, he, hwr, hwn⟩ => ⟨i, en, hk i en he, hwr, (hw _ _ _ _ he).1 hwn⟩) fun _ _ _ hc _ => hc⟩
theorem ZbW {Γ : Zav} (hΓ : ZaK P Γ) {ops : Array Oper} {Q : Exit -> Act -> World -> Prop} : ∀ (its : Items) (g : Option (Nat × Bool)) (top : Option Nat) (ds : List Nat) (os os' : List Oper) (ds' : List Nat) (e : Env) (H : Heap) (K : Env -> Heap -> Prop) (a : Act) (w : World) (ρi : Rho) (n0 : Nat),
    Items.fits P nt ops.toList g top ds its os = some (os', ds') -> lets g a.tmps -> (∀ t w, g = some (t, w) -> top = some t /\ t ∉ ds) -> Zda Γ its e H K -> St w0 fp ρi n0 nt e H a w ->
    (∀ e' H' a' w', K e' H' -> St w0 fp ρi n0 nt e' H' a' w' -> (∀ s, s ∉ ds' -> a'.tmps[s]? = a.tmps[s]?) -> wpList P ops Q os' a' w') -> wpList P ops Q os a w
  | .nil, g, top, ds, os, os', ds', e, H, K, a, w, ρi, n0, hf, hl, ht, hev, hst, hk => by
    simp only [Items.fits, Option.some.injEq, Prod.mk.injEq] at hf
    obtain ⟨rfl, rfl⟩ := hf
    exact hk e H a w hev hst (fun _ _ => rfl)
  | .op d x r, g, top, ds, os, os', ds', e, H, K, a, w, ρi, n0, hf, hl, ht, hev, hst, hk => by
    cases os with
    | nil => simp [Items.fits] at hf
    | cons o os =>
      simp only [Items.fits] at hf
      obtain ⟨hc, hf⟩ := Zas hf
      simp only [Bool.and_eq_true] at hc
      obtain ⟨⟨⟨hdst, hfit⟩, hgd⟩, htop⟩ := hc
      obtain ⟨hde, _⟩ := ZgY hdst
      have hsub := ZbM r g top _ os os' ds' hf
      simp only [Zda] at hev
      obtain ⟨ρ, h1, h2, h3, h4, h5⟩ := hst
      refine ZuI (Zcm hgd hl) (ZgH hΓ hfit h3 h5 hev fun v w' ⟨ρ', sv, H', hK, hv, hok, hρ, hn, hr⟩ => ?_)
      subst hv
      have hg' : ∀ t w, g = some (t, w) -> top = some t /\ t ∉ d.toList ++ ds := fun t w hgt => by
        refine ⟨(ht t w hgt).1, fun hm => ?_⟩
        rcases List.mem_append.1 hm with hm | hm
        · cases d with
          | none => simp at hm
          | some d => simp at hm; subst hm; rw [(ht _ w hgt).1] at htop; simp [Zix] at htop
        · exact (ht t w hgt).2 hm
      have hl' : lets g (a.put o.dst (sv.conc ρ')).tmps := by
        cases g with
        | none => trivial
        | some p =>
          obtain ⟨t, wt⟩ := p
          simp only [lets] at hl ⊢
          rw [<- hde, ZbV (fun h => (hg' t wt rfl).2 (by rw [h]; simp))]
          exact hl
      refine ZbW hΓ r g top _ os os' ds' _ H' K _ w' ρi n0 hf hl' hg' hK ⟨ρ', fun i hi => by rw [hρ i (by omega), h1 i hi], by omega, h3.put hρ hn hdst hok, by rw [ZaS]; exact h4, hr⟩
        fun e' H'' a' w'' hK' hst' ho => hk e' H'' a' w'' hK' hst' fun s hs => ?_
      rw [ho s hs, <- hde, ZbV (fun h => hs (hsub s (by rw [h]; simp)))]
  | .grp t wt b r, g, top, ds, os, os', ds', e, H, K, a, w, ρi, n0, hf, hl, ht, hev, hst, hk => by
    simp only [Items.fits] at hf
    obtain ⟨hc, hf⟩ := Zas hf
    rw [Bool.and_eq_true] at hc
    have htn : t < nt := Nat.le_of_ble_eq_true hc.2
    split at hf
    · rename_i os1 ds1 hb1
      obtain ⟨hc1, hfr⟩ := Zas hf
      have hsub := ZbM r g top _ os1 os' ds' hfr
      have hout : ∀ t' w', g = some (t', w') -> t' ∉ ds1 := fun t' w' hg => by
        rw [(ht t' w' hg).1] at hc1
        simpa [ZeJ] using hc1
      have hg' : ∀ t' w', g = some (t', w') -> top = some t' /\ t' ∉ ds1 ++ ds := fun t' w' hg =>
        ⟨(ht t' w' hg).1, fun hm => (List.mem_append.1 hm).elim (hout t' w' hg) (ht t' w' hg).2⟩
      have hlet : ∀ a1 : Act, (∀ s, s ∉ ds1 -> a1.tmps[s]? = a.tmps[s]?) -> lets g a1.tmps := fun a1 h1 => by
        cases g with
        | none => trivial
        | some p => obtain ⟨t', w'⟩ := p; simp only [lets] at hl ⊢; rw [h1 t' (hout t' w' rfl)]; exact hl
      simp only [Zda] at hev
      split at hev
      · rename_i c hget
        obtain ⟨hy, hn⟩ := hev
        obtain ⟨ρ, h1, h2, h3, h4, h5⟩ := hst
        have hat := h3.at htn hget
        by_cases hcw : c = wt
        · subst hcw
          refine ZbW hΓ b (some (t, c)) (some t) [] os os1 ds1 _ H _ a w ρi n0 hb1 (by simpa [lets, SVal.conc] using hat) (fun t' w' h => by cases h; simp) (hy rfl) ⟨ρ, h1, h2, h3.same hget, h4, h5⟩ fun e1 H1 a1 w1 hK1 hst1 ho1 => ?_
          refine ZbW hΓ r g top _ os1 os' ds' e1 H1 K a1 w1 ρi n0 hfr (hlet a1 ho1) hg' hK1 hst1 fun e' H' a' w' hK' hst' ho => hk e' H' a' w' hK' hst' fun s hs => ?_
          rw [ho s hs, ho1 s (fun h => hs (hsub s (List.mem_append_left _ h)))]
        · have hcn : c = !wt := by cases c <;> cases wt <;> simp_all
          subst hcn
          refine Zbk (W := fun os a => wpList P ops Q os a w) (fun _ _ _ h1 h2 => ZnN h1 h2) b t wt [] os os1 ds1 a hb1 h3.1 (by unfold blocked; rw [hat]; simp [SVal.conc]) (by simp) (by simp) fun a1 hd1 he1 => ?_
          refine ZbW hΓ r g top _ os1 os' ds' _ H K a1 w ρi n0 hfr (hlet a1 hd1.other) hg' (hn rfl) ⟨ρ, h1, h2, he1 _ _ _ (h3.same hget), hd1.defers.trans h4, h5⟩ fun e' H' a' w' hK' hst' ho => hk e' H' a' w' hK' hst' fun s hs => ?_
          rw [ho s hs, hd1.other s (fun h => hs (hsub s (List.mem_append_left _ h)))]
      · exact hev.elim
    · cases hf
  | .grpJ t wt b d x y r, g, top, ds, os, os', ds', e, H, K, a, w, ρi, n0, hf, hl, ht, hev, hst, hk => by
    simp only [Items.fits] at hf
    obtain ⟨hc, hf⟩ := Zas hf
    rw [Bool.and_eq_true] at hc
    have htn : t < nt := Nat.le_of_ble_eq_true hc.2
    split at hf
    · rename_i o os1 ds1 hb1
      obtain ⟨hc1, hfr⟩ := Zas hf
      simp only [Bool.and_eq_true] at hc1
      obtain ⟨⟨⟨⟨⟨hto, htk⟩, hdst⟩, hgd⟩, hyo⟩, hpick⟩ := hc1
      obtain ⟨hde, hdl⟩ := ZgY hdst
      have hsub := ZbM r g top _ os1 os' ds' hfr
      have htds : t ∉ ds1 := (Zbp b _ t [] os _ ds1 hb1 (by simp)).1
      have hout : ∀ t' w', g = some (t', w') -> t' ∉ ds1 /\ t' ≠ d := fun t' w' hg => by
        rw [(ht t' w' hg).1] at hto htk
        exact ⟨by simpa [ZeJ] using hto, fun h => by subst h; simp [Zix] at htk⟩
      have hg' : ∀ t' w', g = some (t', w') -> top = some t' /\ t' ∉ d :: (ds1 ++ ds) := fun t' w' hg => by
        refine ⟨(ht t' w' hg).1, fun hm => ?_⟩
        simp only [List.mem_cons, List.mem_append] at hm
        rcases hm with h | h | h
        · exact (hout t' w' hg).2 h
        · exact (hout t' w' hg).1 h
        · exact (ht t' w' hg).2 h
      have hlet : ∀ a1 : Act, (∀ s, s ∉ ds1 -> a1.tmps[s]? = a.tmps[s]?) -> lets g a1.tmps := fun a1 h1 => by
        cases g with
        | none => trivial
        | some p => obtain ⟨t', w'⟩ := p; simp only [lets] at hl ⊢; rw [h1 t' (hout t' w' rfl).1]; exact hl
      have hlet2 : ∀ (a1 : Act) v, lets g a1.tmps -> lets g (a1.put o.dst v).tmps := fun a1 v h1 => by
        cases g with
        | none => trivial
        | some p =>
          obtain ⟨t', w'⟩ := p
          simp only [lets] at h1 ⊢
          rw [<- hde, ZbV (fun h => (hout t' w' rfl).2 (by simpa using h.symm))]
          exact h1
      unfold ZiD at hpick
      split at hpick
      · rename_i s u v hop
        rw [Bool.and_eq_true] at hpick
        have hs := Nat.eq_of_beq_eq_true hpick.1
        subst hs
        simp only [Zda] at hev
        split at hev
        · rename_i c hget
          obtain ⟨q, hy, hn, hrest⟩ := hev
          obtain ⟨ρ, h1, h2, h3, h4, h5⟩ := hst
          have hat := h3.at htn hget
          -- the pick, once it is known which one
          have fin : ∀ (a1 : Act) (w1 : World) (ρ1 : Rho), (∀ z, z ∉ ds1 -> a1.tmps[z]? = a.tmps[z]?) -> a1.tmps.size = nt -> a1.defers = [] -> (∀ i, i < H.next -> ρ1 i = ρ i) -> Rel w0 fp ρ1 H w1 ->
              (a1.eval (if c then u else v) = .bool q) -> wpList P ops Q (o :: os1) a1 w1 := fun a1 w1 ρ1 ho1 hsz1 hdf1 hρ1 hr1 hval => by
            have hc1 : a1.eval (.tmp s) = .bool c := by
              have : a1.tmps[s]? = some (.bool c) := by rw [ho1 s htds, hat]; rfl
              exact Zo7 this
            have hrun : (execOp a1.eval o).run P w1 = .ok (.value (.bool q)) w1 := by
              simp only [execOp, hop, hc1, asBool]
              cases c <;> simp_all
            refine ZuI (Zcm hgd (hlet a1 ho1)) ?_
            unfold Oper.wp
            rw [hrun]
            show wpList P ops Q os1 (a1.put o.dst (.bool q)) w1
            have hen : EnvOk ρ1 H.next nt (Zo0 b e) a1.tmps := ⟨hsz1, fun z zv hz => by
              obtain ⟨k1, k2⟩ := Zdq b _ _ [] os _ ds1 e z zv hb1 hz
              have hzn : z ∉ ds1 := fun h => by simpa using k2 h
              have := h3.2 z zv k1
              refine ⟨SVal.ok_mono hρ1 (Nat.le_refl _) zv this.1, ?_⟩
              rw [Array.getD_eq_getD_getElem?, ho1 z hzn, <- Array.getD_eq_getD_getElem?, this.2, SVal.conc_congr hρ1 zv this.1]⟩
            have hen2 := hen.put (ρ' := ρ1) (n' := H.next) (v := .bool q) (fun _ _ => rfl) (Nat.le_refl _) hdst (by simp [SVal.ok])
            simp only [SVal.conc] at hen2
            refine ZbW hΓ r g top _ os1 os' ds' _ H K _ w1 ρi n0 hfr (hlet2 a1 _ (hlet a1 ho1)) hg' hrest ⟨ρ1, fun i hi => by rw [hρ1 i (by omega), h1 i hi], h2, hen2, by rw [ZaS]; exact hdf1, hr1⟩
              fun e' H' a' w' hK' hst' ho => hk e' H' a' w' hK' hst' fun z hz => ?_
            rw [ho z hz, <- hde, ZbV (fun h => hz (hsub z (by simp at h; simp [h]))), ho1 z (fun h => hz (hsub z (by simp [h])))]
          by_cases hcw : c = wt
          · subst hcw
            refine ZbW hΓ b (some (s, c)) (some s) [] os (o :: os1) ds1 _ H _ a w ρ H.next hb1 (by simpa [lets, SVal.conc] using hat) (fun t' w' h => by cases h; simp) (hy rfl) ⟨ρ, fun _ _ => rfl, Nat.le_refl _, h3.same hget, h4, h5⟩ fun e1 H1 a1 w1 hK1 hst1 ho1 => ?_
            obtain ⟨hH, hx⟩ := hK1
            obtain ⟨ρ1, g1, _, g3, g4, g5⟩ := hst1
            refine fin a1 w1 ρ ho1 g3.1 g4 (fun _ _ => rfl) (g5.forget (ZgR hH) h5 g1) ?_
            have hxf : x.fits (if c then u else v) = true := by cases c <;> simp_all
            obtain ⟨xv, hxv, _, hxe⟩ := Opd.ev_sound hxf g3 hx
            obtain rfl := ZkO hxv
            rw [hxe]; rfl
          · have hcn : c = !wt := by cases c <;> cases wt <;> simp_all
            subst hcn
            refine Zbk (W := fun os a => wpList P ops Q os a w) (fun _ _ _ h1 h2 => ZnN h1 h2) b s wt [] os (o :: os1) ds1 a hb1 h3.1 (by unfold blocked; rw [hat]; simp [SVal.conc]) (by simp) (by simp) fun a1 hd1 he1 => ?_
            refine fin a1 w ρ hd1.other (hd1.size.trans h3.1) (hd1.defers.trans h4) (fun _ _ => rfl) h5 ?_
            have hyf : y.fits (if !wt then u else v) = true := by cases wt <;> simp_all
            obtain ⟨yv, hyv, _, hye⟩ := Opd.ev_sound hyf h3 (hn rfl)
            obtain rfl := ZkO hyv
            rw [ZlO hyf hyo hd1.other, hye]; rfl
        · exact hev.elim
      · cases hpick
    · cases hf
theorem Zy9 {ρ ρ' : Rho} {m n : Nat} {v : SVal} (h : v.bd n) (hρ : ∀ i, i < n -> ρ' i = ρ i) (hok : v.ok ρ' m) : v.ok ρ n := by
  have hren : ∀ v : SVal, v.ren ZcY = v := fun v => ZuO v
  have := SVal.ok_ren (ρ := ρ') (τ := ZcY) (m := m) (n := n) v (by rw [hren]; exact hok) h
  have hvia : ρ'.via ZcY = ρ' := by funext i; exact Zgx rfl rfl
  rw [hvia] at this
  exact SVal.ok_mono (fun i hi => (hρ i hi).symm) (Nat.le_refl _) _ this
def Quiet (P : Program) (w0 : World) (fp : Nat -> Nat -> Prop) (ρ : Rho) (H : Heap) (a : Act) (o : Oper) (K : SVal -> Prop) : Prop :=
  ∃ sv, K sv /\ sv.ok ρ H.next /\ ∀ w, Rel w0 fp ρ H w -> o.quietAt P a (fun w => Rel w0 fp ρ H w) w (sv.conc ρ)
theorem Looks.quiet {a : Act} {o : Oper} {ρ : Rho} {H : Heap} {K : SVal -> Prop} (h : Looks P a o w0 fp ρ H fun v _ => K v) : Quiet P w0 fp ρ H a o K := by
  obtain ⟨sv, h1, h2, h3⟩ := h
  refine ⟨sv, h1, h2, fun w hr => ?_⟩
  unfold Oper.quietAt
  rw [h3 w hr]
  exact ⟨rfl, rfl⟩
theorem Zk1 {Γ : Zav} (hΓ : ZaK P Γ) {f : Nat} {args : List Opd} {o : Oper} {a : Act} {e : Env} {ρ : Rho} {H : Heap} {K : SVal -> Prop}
    (hf : (AOp.call f args).fits P o.op = true) (he : EnvOk ρ H.next nt e a.tmps) (hw : ∃ w, Rel w0 fp ρ H w) (h : evL e args fun vs => ∃ v, v.bd H.next /\ Γ f vs H (fun u H' => u = v /\ Zby H' H H.ents) /\ K v) : Quiet P w0 fp ρ H a o K := by
  simp only [AOp.fits] at hf
  split at hf
  · rename_i g args' ts hop
    rw [Bool.and_eq_true, Bool.and_eq_true] at hf
    obtain ⟨⟨hfg, hargs⟩, hbod⟩ := hf
    have := Nat.eq_of_beq_eq_true hfg
    subst this
    obtain ⟨vs, ⟨v, hbd, h1, hK⟩, h2, h3⟩ := Zfg he hargs h
    have hc := fun w (hr : Rel w0 fp ρ H w) => hΓ f vs H _ h1 hbod w0 fp ρ w hr h2
    have hrun : ∀ w : World, (execOp a.eval o).run P w = .ok (.enter f (ZaH ρ vs).toArray) w := fun w => by
      unfold ZsM at hbod
      split at hbod
      · rename_i fn hfn
        rw [Bool.and_eq_true] at hbod
        obtain ⟨body, hbody⟩ := Option.isSome_iff_exists.1 hbod.1
        have hnm : (fn.name == "runtime.NumGoroutine") = false := by simpa using hbod.2
        have hnm' : ¬ (fn.name = "runtime.NumGoroutine") := by simpa using hnm
        simp [execOp, hop, resolve, Act.eval, Deferred.ofValue, invoke, callFunc, hfn, hnm', hbody, Zfy h3]
      · cases hbod
    obtain ⟨w9, hr9⟩ := hw
    have hw : ∃ w, Rel w0 fp ρ H w := ⟨w9, hr9⟩
    have hpost : ∀ (e : Ending) w', (∃ u, e = .returned u /\ OpPost w0 fp ρ H (fun u H' => u = v /\ Zby H' H H.ents) u w') -> v.ok ρ H.next /\ e = .returned (v.conc ρ) /\ Rel w0 fp ρ H w' := fun e w' ⟨u, heu, ρ', sv, H', ⟨g1, g1'⟩, g2, g3, g4, g5, g6⟩ => by
      subst g1
      have hv := Zy9 hbd g4 g3
      exact ⟨hv, by rw [heu, g2, SVal.conc_congr g4 _ hv], g6.forget (ZgR g1') hr9 g4⟩
    obtain ⟨w1, hr1⟩ := hw
    obtain ⟨e1, w1', _, hR1, _⟩ := hc w1 hr1 []
    refine ⟨v, hK, (hpost _ _ hR1).1, fun w hr => ?_⟩
    unfold Oper.quietAt
    rw [hrun w]
    exact ⟨rfl, (hc w hr).mono fun e w' h => (hpost e w' h).2⟩
  · cases hf
theorem Zfw {ops : Array Oper} {C : World -> Prop} {Q : Act -> Prop} {o : Oper} {rest : List Oper} {a : Act} (hw : Region.wanted o (yielded ops a.tmps) = false)
    (h : wpQuiet P ops C Q rest (a.put o.dst undef)) : wpQuiet P ops C Q (o :: rest) a := by
  unfold wpQuiet
  rw [if_neg (by simp [hw])]
  exact h
theorem ZiC {ops : Array Oper} {C : World -> Prop} {Q : Act -> Prop} {o : Oper} {rest : List Oper} {a : Act} (hw : Region.wanted o (yielded ops a.tmps) = true)
    (h : o.quiet P a C (wpQuiet P ops C Q rest)) : wpQuiet P ops C Q (o :: rest) a := by
  unfold wpQuiet
  rw [if_pos hw]
  exact h
theorem ZyZ {Γ : Zav} (hΓ : ZaK P Γ) {x : AOp} {o : Oper} {a : Act} {e : Env} {ρ : Rho} {H : Heap} {d : Option Nat} {r : Items} {K : Env -> Prop}
    (hf : x.fits P o.op = true) (he : EnvOk ρ H.next nt e a.tmps) (hw : ∃ w, Rel w0 fp ρ H w) (h : evQ Γ H (.op d x r) e K) : Quiet P w0 fp ρ H a o fun v => evQ Γ H r (put d v e) K := by
  obtain ⟨w, hr⟩ := hw
  cases x with
  | call f args => simp only [evQ] at h; exact Zk1 hΓ hf he ⟨w, hr⟩ h
  | mov => simp only [evQ, AOp.looks, cond_true] at h; exact (ZgL hf he hr h).quiet
  | bin => simp only [evQ, AOp.looks, cond_true] at h; exact (Zha hf he hr h).quiet
  | not => simp only [evQ, AOp.looks, cond_true] at h; exact (ZgJ hf he hr h).quiet
  | conv => simp only [evQ, AOp.looks, cond_true] at h; exact (ZfK hf he hr h).quiet
  | build => simp only [evQ, AOp.looks, cond_true] at h; exact (ZeE hf he hr h).quiet
  | load1 => simp only [evQ, AOp.looks, cond_true] at h; exact (Zd4 hf he hr h).quiet
  | load1P => simp only [evQ, AOp.looks, cond_true] at h; exact (Zdp hf he hr h).quiet
  | loadHq => simp only [evQ, AOp.looks, cond_true] at h; exact (Zdo hf he hr h).quiet
  | idxHq => simp only [evQ, AOp.looks, cond_true] at h; exact (Zd9 hf he hr h).quiet
  | loadRq => simp only [evQ, AOp.looks, cond_true] at h; exact (Zdn hf he hr h).quiet
  | loadA => simp only [evQ, AOp.looks, cond_true] at h; exact (Zd3 hf he hr h).quiet
  | fieldAddr => simp only [evQ, AOp.looks, cond_true] at h; exact (Zcb hf he hr h).quiet
  | idxS => simp only [evQ, AOp.looks, cond_true] at h; exact (Zfz hf he hr h).quiet
  | idxA => simp only [evQ, AOp.looks, cond_true] at h; exact (ZfA hf he hr h).quiet
  | len => simp only [evQ, AOp.looks, cond_true] at h; exact (Zb3 hf he hr h).quiet
  | slen => simp only [evQ, AOp.looks, cond_true] at h; exact (Zft hf he hr h).quiet
  | extract => simp only [evQ, AOp.looks, cond_true] at h; exact (ZcE hf he hr h).quiet
  | nilCheck => simp only [evQ, AOp.looks, cond_true] at h; exact (Zcp hf he hr h).quiet
  | sliceP => simp only [evQ, AOp.looks, cond_true] at h; exact (Zdj hf he hr h).quiet
  | strIdx => simp only [evQ, AOp.looks, cond_true] at h; exact (Zdi hf he hr h).quiet
  | eqA => simp only [evQ, AOp.looks, cond_true] at h; exact (ZgX hf he hr h).quiet
  | buildI => simp only [evQ, AOp.looks, cond_true] at h; exact (ZdI hf he hr h).quiet
  | isNilP => simp only [evQ, AOp.looks, cond_true] at h; exact (Zds hf he hr h).quiet
  | mapLen => simp only [evQ, AOp.looks, cond_true] at h; exact (Zdl hf he hr h).quiet
  | mapGet => simp only [evQ, AOp.looks, cond_true] at h; exact (Zdm hf he hr h).quiet
  | _ => simp only [evQ, AOp.looks, cond_false] at h
theorem ZbU {Γ : Zav} (hΓ : ZaK P Γ) {ops : Array Oper} {Q : Act -> Prop} {ρ : Rho} {H : Heap} (hw : ∃ w, Rel w0 fp ρ H w) : ∀ (its : Items) (g : Option (Nat × Bool)) (top : Option Nat) (ds : List Nat) (os os' : List Oper) (ds' : List Nat) (e : Env) (K : Env -> Prop) (a : Act),
    Items.fits P nt ops.toList g top ds its os = some (os', ds') -> lets g a.tmps -> (∀ t w, g = some (t, w) -> top = some t /\ t ∉ ds) -> evQ Γ H its e K -> EnvOk ρ H.next nt e a.tmps -> a.defers = [] ->
    (∀ e' a', K e' -> EnvOk ρ H.next nt e' a'.tmps -> a'.defers = [] -> (∀ s, s ∉ ds' -> a'.tmps[s]? = a.tmps[s]?) -> wpQuiet P ops (fun w => Rel w0 fp ρ H w) Q os' a') -> wpQuiet P ops (fun w => Rel w0 fp ρ H w) Q os a
  | .nil, g, top, ds, os, os', ds', e, K, a, hf, hl, ht, hev, h3, h4, hk => by
    simp only [Items.fits, Option.some.injEq, Prod.mk.injEq] at hf
    obtain ⟨rfl, rfl⟩ := hf
    exact hk e a hev h3 h4 (fun _ _ => rfl)
  | .op d x r, g, top, ds, os, os', ds', e, K, a, hf, hl, ht, hev, h3, h4, hk => by
    cases os with
    | nil => simp [Items.fits] at hf
    | cons o os =>
      simp only [Items.fits] at hf
      obtain ⟨hc, hf⟩ := Zas hf
      simp only [Bool.and_eq_true] at hc
      obtain ⟨⟨⟨hdst, hfit⟩, hgd⟩, htop⟩ := hc
      obtain ⟨hde, _⟩ := ZgY hdst
      have hsub := ZbM r g top _ os os' ds' hf
      obtain ⟨sv, hK, hok, hq⟩ := ZyZ hΓ hfit h3 hw hev
      refine ZiC (Zcm hgd hl) ⟨_, hq, ?_⟩
      have hg' : ∀ t w, g = some (t, w) -> top = some t /\ t ∉ d.toList ++ ds := fun t w hgt => by
        refine ⟨(ht t w hgt).1, fun hm => ?_⟩
        rcases List.mem_append.1 hm with hm | hm
        · cases d with
          | none => simp at hm
          | some d => simp at hm; subst hm; rw [(ht _ w hgt).1] at htop; simp [Zix] at htop
        · exact (ht t w hgt).2 hm
      have hl' : lets g (a.put o.dst (sv.conc ρ)).tmps := by
        cases g with
        | none => trivial
        | some p =>
          obtain ⟨t, wt⟩ := p
          simp only [lets] at hl ⊢
          rw [<- hde, ZbV (fun h => (hg' t wt rfl).2 (by rw [h]; simp))]
          exact hl
      refine ZbU hΓ hw r g top _ os os' ds' _ K _ hf hl' hg' hK (h3.put (fun _ _ => rfl) (Nat.le_refl _) hdst hok) (by rw [ZaS]; exact h4)
        fun e' a' hK' g3 g4 ho => hk e' a' hK' g3 g4 fun s hs => ?_
      rw [ho s hs, <- hde, ZbV (fun h => hs (hsub s (by rw [h]; simp)))]
  | .grp t wt b r, g, top, ds, os, os', ds', e, K, a, hf, hl, ht, hev, h3, h4, hk => by
    simp only [Items.fits] at hf
    obtain ⟨hc, hf⟩ := Zas hf
    rw [Bool.and_eq_true] at hc
    have htn : t < nt := Nat.le_of_ble_eq_true hc.2
    split at hf
    · rename_i os1 ds1 hb1
      obtain ⟨hc1, hfr⟩ := Zas hf
      have hsub := ZbM r g top _ os1 os' ds' hfr
      have hout : ∀ t' w', g = some (t', w') -> t' ∉ ds1 := fun t' w' hg => by
        rw [(ht t' w' hg).1] at hc1
        simpa [ZeJ] using hc1
      have hg' : ∀ t' w', g = some (t', w') -> top = some t' /\ t' ∉ ds1 ++ ds := fun t' w' hg =>
        ⟨(ht t' w' hg).1, fun hm => (List.mem_append.1 hm).elim (hout t' w' hg) (ht t' w' hg).2⟩
      have hlet : ∀ a1 : Act, (∀ s, s ∉ ds1 -> a1.tmps[s]? = a.tmps[s]?) -> lets g a1.tmps := fun a1 h1 => by
        cases g with
        | none => trivial
        | some p => obtain ⟨t', w'⟩ := p; simp only [lets] at hl ⊢; rw [h1 t' (hout t' w' rfl)]; exact hl
      simp only [evQ] at hev
      split at hev
      · rename_i c hget
        obtain ⟨hy, hn⟩ := hev
        have hat := h3.at htn hget
        by_cases hcw : c = wt
        · subst hcw
          refine ZbU hΓ hw b (some (t, c)) (some t) [] os os1 ds1 _ _ a hb1 (by simpa [lets, SVal.conc] using hat) (fun t' w' h => by cases h; simp) (hy rfl) (h3.same hget) h4 fun e1 a1 hK1 k3 k4 ho1 => ?_
          refine ZbU hΓ hw r g top _ os1 os' ds' e1 K a1 hfr (hlet a1 ho1) hg' hK1 k3 k4 fun e' a' hK' g3 g4 ho => hk e' a' hK' g3 g4 fun s hs => ?_
          rw [ho s hs, ho1 s (fun h => hs (hsub s (List.mem_append_left _ h)))]
        · have hcn : c = !wt := by cases c <;> cases wt <;> simp_all
          subst hcn
          refine Zbk (W := wpQuiet P ops (fun w => Rel w0 fp ρ H w) Q) (fun _ _ _ h1 h2 => Zfw h1 h2) b t wt [] os os1 ds1 a hb1 h3.1 (by unfold blocked; rw [hat]; simp [SVal.conc]) (by simp) (by simp) fun a1 hd1 he1 => ?_
          refine ZbU hΓ hw r g top _ os1 os' ds' _ K a1 hfr (hlet a1 hd1.other) hg' (hn rfl) (he1 _ _ _ (h3.same hget)) (hd1.defers.trans h4) fun e' a' hK' g3 g4 ho => hk e' a' hK' g3 g4 fun s hs => ?_
          rw [ho s hs, hd1.other s (fun h => hs (hsub s (List.mem_append_left _ h)))]
      · exact hev.elim
    · cases hf
  | .grpJ t wt b d x y r, g, top, ds, os, os', ds', e, K, a, hf, hl, ht, hev, h3, h4, hk => by
    simp only [Items.fits] at hf
    obtain ⟨hc, hf⟩ := Zas hf
    rw [Bool.and_eq_true] at hc
    have htn : t < nt := Nat.le_of_ble_eq_true hc.2
    split at hf
    · rename_i o os1 ds1 hb1
      obtain ⟨hc1, hfr⟩ := Zas hf
      simp only [Bool.and_eq_true] at hc1
      obtain ⟨⟨⟨⟨⟨hto, htk⟩, hdst⟩, hgd⟩, hyo⟩, hpick⟩ := hc1
      obtain ⟨hde, hdl⟩ := ZgY hdst
      have hsub := ZbM r g top _ os1 os' ds' hfr
      have htds : t ∉ ds1 := (Zbp b _ t [] os _ ds1 hb1 (by simp)).1
      have hout : ∀ t' w', g = some (t', w') -> t' ∉ ds1 /\ t' ≠ d := fun t' w' hg => by
        rw [(ht t' w' hg).1] at hto htk
        exact ⟨by simpa [ZeJ] using hto, fun h => by subst h; simp [Zix] at htk⟩
      have hg' : ∀ t' w', g = some (t', w') -> top = some t' /\ t' ∉ d :: (ds1 ++ ds) := fun t' w' hg => by
        refine ⟨(ht t' w' hg).1, fun hm => ?_⟩
        simp only [List.mem_cons, List.mem_append] at hm
        rcases hm with h | h | h
        · exact (hout t' w' hg).2 h
        · exact (hout t' w' hg).1 h
        · exact (ht t' w' hg).2 h
      have hlet : ∀ a1 : Act, (∀ s, s ∉ ds1 -> a1.tmps[s]? = a.tmps[s]?) -> lets g a1.tmps := fun a1 h1 => by
        cases g with
        | none => trivial
        | some p => obtain ⟨t', w'⟩ := p; simp only [lets] at hl ⊢; rw [h1 t' (hout t' w' rfl).1]; exact hl
      have hlet2 : ∀ (a1 : Act) v, lets g a1.tmps -> lets g (a1.put o.dst v).tmps := fun a1 v h1 => by
        cases g with
        | none => trivial
        | some p =>
          obtain ⟨t', w'⟩ := p
          simp only [lets] at h1 ⊢
          rw [<- hde, ZbV (fun h => (hout t' w' rfl).2 (by simpa using h.symm))]
          exact h1
      unfold ZiD at hpick
      split at hpick
      · rename_i s u v hop
        rw [Bool.and_eq_true] at hpick
        have hs := Nat.eq_of_beq_eq_true hpick.1
        subst hs
        simp only [evQ] at hev
        split at hev
        · rename_i c hget
          obtain ⟨q, hy, hn, hrest⟩ := hev
          have hat := h3.at htn hget
          -- the pick, once it is known which one
          have fin : ∀ (a1 : Act), (∀ z, z ∉ ds1 -> a1.tmps[z]? = a.tmps[z]?) -> a1.tmps.size = nt -> a1.defers = [] ->
              (a1.eval (if c then u else v) = .bool q) -> wpQuiet P ops (fun w => Rel w0 fp ρ H w) Q (o :: os1) a1 := fun a1 ho1 hsz1 hdf1 hval => by
            have hc1 : a1.eval (.tmp s) = .bool c := by
              have : a1.tmps[s]? = some (.bool c) := by rw [ho1 s htds, hat]; rfl
              exact Zo7 this
            have hrun : ∀ w1 : World, (execOp a1.eval o).run P w1 = .ok (.value (.bool q)) w1 := fun w1 => by
              simp only [execOp, hop, hc1, asBool]
              cases c <;> simp_all
            refine ZiC (Zcm hgd (hlet a1 ho1)) ⟨.bool q, fun w _ => ?_, ?_⟩
            · unfold Oper.quietAt; rw [hrun w]; exact ⟨rfl, rfl⟩
            have hen : EnvOk ρ H.next nt (Zo0 b e) a1.tmps := ⟨hsz1, fun z zv hz => by
              obtain ⟨k1, k2⟩ := Zdq b _ _ [] os _ ds1 e z zv hb1 hz
              have hzn : z ∉ ds1 := fun h => by simpa using k2 h
              have := h3.2 z zv k1
              refine ⟨this.1, ?_⟩
              rw [Array.getD_eq_getD_getElem?, ho1 z hzn, <- Array.getD_eq_getD_getElem?, this.2]⟩
            have hen2 := hen.put (ρ' := ρ) (n' := H.next) (v := .bool q) (fun _ _ => rfl) (Nat.le_refl _) hdst (by simp [SVal.ok])
            simp only [SVal.conc] at hen2
            refine ZbU hΓ hw r g top _ os1 os' ds' _ K _ hfr (hlet2 a1 _ (hlet a1 ho1)) hg' hrest hen2 (by rw [ZaS]; exact hdf1)
              fun e' a' hK' g3 g4 ho => hk e' a' hK' g3 g4 fun z hz => ?_
            rw [ho z hz, <- hde, ZbV (fun h => hz (hsub z (by simp at h; simp [h]))), ho1 z (fun h => hz (hsub z (by simp [h])))]
          by_cases hcw : c = wt
          · subst hcw
            refine ZbU hΓ hw b (some (s, c)) (some s) [] os (o :: os1) ds1 _ _ a hb1 (by simpa [lets, SVal.conc] using hat) (fun t' w' h => by cases h; simp) (hy rfl) (h3.same hget) h4 fun e1 a1 hx g3 g4 ho1 => ?_
            refine fin a1 ho1 g3.1 g4 ?_
            have hxf : x.fits (if c then u else v) = true := by cases c <;> simp_all
            obtain ⟨xv, hxv, _, hxe⟩ := Opd.ev_sound hxf g3 hx
            obtain rfl := ZkO hxv
            rw [hxe]; rfl
          · have hcn : c = !wt := by cases c <;> cases wt <;> simp_all
            subst hcn
            refine Zbk (W := wpQuiet P ops (fun w => Rel w0 fp ρ H w) Q) (fun _ _ _ h1 h2 => Zfw h1 h2) b s wt [] os (o :: os1) ds1 a hb1 h3.1 (by unfold blocked; rw [hat]; simp [SVal.conc]) (by simp) (by simp) fun a1 hd1 he1 => ?_
            refine fin a1 hd1.other (hd1.size.trans h3.1) (hd1.defers.trans h4) ?_
            have hyf : y.fits (if !wt then u else v) = true := by cases wt <;> simp_all
            obtain ⟨yv, hyv, _, hye⟩ := Opd.ev_sound hyf h3 (hn rfl)
            obtain rfl := ZkO hyv
            rw [ZlO hyf hyo hd1.other, hye]; rfl
        · exact hev.elim
      · cases hpick
    · cases hf
theorem Zf3 {ops : Array Oper} {listed : Array Bool} (hd : Shut .any ops listed) {i : Nat} (hi : listed.getD i true = false) : ∀ (f e : Nat), ZsS ops f e i = true -> listed.getD e false = false
  | 0, e, h => by simp [ZsS] at h
  | f + 1, e, h => by
    simp only [ZsS] at h
    split at h
    · rename_i o ho
      obtain ⟨d, hdm, hb⟩ := Array.any_eq_true'.1 h
      rw [Bool.and_eq_true, Bool.or_eq_true] at hb
      cases he : listed.getD e false with
      | false => rfl
      | true =>
        have he' : listed.getD e true = true := by
          simp only [Array.getD_eq_getD_getElem?] at he ⊢
          cases hx : listed[e]? with
          | none => rfl
          | some b => rw [hx] at he; exact he
        have hon := hd e o ho he' d hdm hb.1
        rcases hb.2 with h1 | h1
        · have := Nat.eq_of_beq_eq_true h1
          rw [this] at hon
          simp only [Array.getD_eq_getD_getElem?] at hon hi
          cases hx : listed[i]? with
          | none => rw [hx] at hon; cases hon
          | some b => rw [hx] at hon hi; simp only [Option.getD_some] at hon hi; rw [hon] at hi; cases hi
        · rw [Zf3 hd hi f d.on h1] at hon; cases hon
    · cases h
theorem Zf1 {listed : Array Bool} {i e : Nat} (h : i ≠ e) : (listed.setIfInBounds i true).getD e false = listed.getD e false := getD_set_ne false h
def Zyj (w0 : World) (fp : Nat -> Nat -> Prop) (ρ : Rho) (H : Heap) (e : Nat) : Array Bool -> World -> Prop := fun listed w => listed.getD e false = false -> Rel w0 fp ρ H w
theorem Zjw {ops : Array Oper} : ∀ (r : List MStep) (listed : Array Bool), Zkm P nt ops listed r = true -> listed.size = ops.size -> listed.getD (ZaA ops.size r) false = false
  | [], listed, _, hz => by simp [ZaA, hz]
  | .mk i k d x :: r, listed, hf, hz => by
    simp only [Zkm] at hf
    split at hf
    · rename_i o ho
      simp only [Bool.and_eq_true] at hf
      obtain ⟨⟨_, hkind⟩, hrest⟩ := hf
      simp only [ZaA]
      cases hb : Nat.ble 2 k with
      | true =>
        have hk := Nat.le_of_ble_eq_true hb
        have hk0 : Nat.beq k 0 = false := by cases k with | zero => omega | succ k => rfl
        rw [hk0] at hkind
        simp only [cond_false, decide_eq_true_eq] at hkind
        have h0 := (mem_ready.1 (show i ∈ Region.ready .any ops listed by rw [hkind]; simp)).1
        simp only [cond_true]
        simp only [Array.getD_eq_getD_getElem?] at h0 ⊢
        cases hx : listed[i]? with
        | none => rfl
        | some b => rw [hx] at h0; exact h0
      | false =>
        simp only [cond_false]
        have := Zjw r _ hrest (by simpa using hz)
        cases h : listed.getD (ZaA ops.size r) false with
        | false => rfl
        | true => rw [getD_set_true h] at this; cases this
    · cases hf
theorem Zr1 {Γ : Zav} {x : AOp} {o : Oper} {a : Act} {e : Env} {ρ : Rho} {H : Heap} {K : SVal -> Prop} {w : World} (hlk : x.looks = true) (hf : x.fits P o.op = true) (he : EnvOk ρ H.next nt e a.tmps) (hr : Rel w0 fp ρ H w) (h : ZaV Γ x e H fun v _ => K v) : Looks P a o w0 fp ρ H fun v _ => K v := by
  cases x with
  | mov => exact ZgL hf he hr h
  | bin => exact Zha hf he hr h
  | not => exact ZgJ hf he hr h
  | conv => exact ZfK hf he hr h
  | build => exact ZeE hf he hr h
  | load1 => exact Zd4 hf he hr h
  | load1P => exact Zdp hf he hr h
  | loadHq => exact Zdo hf he hr h
  | idxHq => exact Zd9 hf he hr h
  | loadRq => exact Zdn hf he hr h
  | loadA => exact Zd3 hf he hr h
  | fieldAddr => exact Zcb hf he hr h
  | idxS => exact Zfz hf he hr h
  | idxA => exact ZfA hf he hr h
  | len => exact Zb3 hf he hr h
  | slen => exact Zft hf he hr h
  | extract => exact ZcE hf he hr h
  | nilCheck => exact Zcp hf he hr h
  | sliceP => exact Zdj hf he hr h
  | strIdx => exact Zdi hf he hr h
  | eqA => exact ZgX hf he hr h
  | buildI => exact ZdI hf he hr h
  | isNilP => exact Zds hf he hr h
  | mapLen => exact Zdl hf he hr h
  | mapGet => exact Zdm hf he hr h
  | _ => cases hlk
theorem ZgM {Γ : Zav} (hΓ : ZaK P Γ) {ops : Array Oper} {Q : Exit -> Act -> World -> Prop} (hsel : Region.noSelect ops = true) (hQ : ∀ c a w, ¬ Q (.panic c) a w) : ∀ (steps : List MStep) (listed : Array Bool) (e : Env) (H : Heap) (ρ : Rho) (K : Env -> Heap -> Prop) (a : Act) (w : World),
    Zkm P nt ops listed steps = true -> listed.size = ops.size -> Shut .any ops listed -> evM Γ steps e H K -> Rel w0 fp ρ H w -> EnvOk ρ H.next nt e a.tmps -> a.defers = [] ->
    (∀ ρ' e' H' a' w', K e' H' -> (∀ i, i < H.next -> ρ' i = ρ i) -> H.next <= H'.next -> EnvOk ρ' H'.next nt e' a'.tmps -> a'.defers = [] -> Rel w0 fp ρ' H' w' -> Q .normal a' w') ->
    ZeI P .any ops Q (Zyj w0 fp ρ H (ZaA ops.size steps)) steps.length listed a w
  | [], listed, e, H, ρ, K, a, w, hf, hz, hd, hev, hr, he, hdf, hk => by
    simp only [Zkm, List.isEmpty_iff] at hf
    exact ⟨hf, hk ρ e H a w hev (fun _ _ => rfl) (Nat.le_refl _) he hdf hr⟩
  | .mk i k d x :: r, listed, e, H, ρ, K, a, w, hf, hz, hd, hev, hr, he, hdf, hk => by
    simp only [Zkm] at hf
    split at hf
    · rename_i o ho
      simp only [Bool.and_eq_true, Option.isNone_iff_eq_none] at hf
      obtain ⟨⟨⟨⟨hg, hdst⟩, hfit⟩, hkind⟩, hrest⟩ := hf
      have hwant : ∀ t, Region.wanted o (yielded ops t) = true := fun t => by unfold Region.wanted; simp only [hg]
      obtain ⟨hde, _⟩ := ZgY hdst
      have hil : i < ops.size := (Array.getElem?_eq_some_iff.1 ho).1
      have hnx : i ≠ ZaA ops.size r := fun h => by
        have h1 := Zjw r _ hrest (by simpa using hz)
        rw [<- h] at h1
        simp [hz, hil] at h1
      -- an operation that does something: none but it may come up
      have does : Region.ready .any ops listed = [i] -> ∀ (S : Array Bool -> World -> Prop), (o.wp P a w (fun a' w' => S (listed.setIfInBounds i true) w' /\ ZeI P .any ops Q S r.length (listed.setIfInBounds i true) a' w') Q) ->
          ZeI P .any ops Q S (r.length + 1) listed a w := fun hrd S h => by
        refine ⟨fun h0 => (by rw [hrd] at h0; cases h0), fun j hj => ?_⟩
        rw [hrd, List.mem_singleton] at hj
        subst hj
        unfold wpOp
        simp only [ho, hwant, if_true]
        exact .inl h
      have hshut : ∀ (_ : Region.ready .any ops listed = [i]), Shut .any ops (listed.setIfInBounds i true) := fun hrd => hd.add (by rw [hrd]; simp)
      rcases (show k = 0 ∨ k = 1 ∨ 2 <= k by omega) with rfl | rfl | hk2
      · simp only [Nat.beq, cond_true, Bool.and_eq_true] at hkind
        obtain ⟨⟨hrd, hfree⟩, hw⟩ := hkind
        simp only [evM] at hev
        cases hlk : x.looks with
        | false => rw [hlk] at hev; exact hev.elim
        | true =>
          rw [hlk] at hev
          simp only [cond_true] at hev
          have hq : Looks P a o w0 fp ρ H fun v _ => evM Γ r (put d v e) H K := Zr1 hlk hfit he hr hev
          obtain ⟨sv, hK, hok, hrun⟩ := hq
          have hnl : ZaA ops.size (.mk i 0 d x :: r) = ZaA ops.size r := rfl
          have hne : i ≠ ZaA ops.size r := hnx
          rw [hnl]
          refine Zh7 (U := fun w => Rel w0 fp ρ H w) ho (Region.noSelect_spec hsel) hQ (fun l w => ?_) (fun l w hsh hlz hil' hs => ?_) r.length listed a w hd hz (Region.free_spec ho hfree) (by simpa using hrd) (.inl ⟨hwant _, hrun⟩) (fun _ => hr) ?_
          · unfold Zyj; rw [Zf1 hne]
          · refine hs ?_
            rw [Bool.or_eq_true] at hw
            rcases hw with h1 | h1
            · rw [Nat.eq_of_beq_eq_true h1]
              simp [hlz]
            · exact Zf3 hsh hil' _ _ h1
          · refine ZgM hΓ hsel hQ r _ _ H ρ K _ w hrest (by simpa using hz) (hd.add (by simpa using hrd)) hK hr (he.put (fun _ _ => rfl) (Nat.le_refl _) hdst hok) (by rw [ZaS]; exact hdf) hk
      · simp only [Nat.beq, cond_false, decide_eq_true_eq] at hkind
        simp only [evM] at hev
        have hnl : ZaA ops.size (.mk i 1 d x :: r) = ZaA ops.size r := rfl
        rw [hnl]
        refine does hkind _ (ZgH hΓ hfit he hr hev fun v w' hp => ?_)
        obtain ⟨ρ', sv, H', ⟨hkp, hK⟩, rfl, hok, hρ, hnxt, hr'⟩ := hp
        have hforget : ∀ w, Rel w0 fp ρ' H' w -> Rel w0 fp ρ H w := fun w h => h.forget (ZgR hkp) hr hρ
        refine ⟨fun _ => hforget _ hr', Zck (S' := Zyj w0 fp ρ' H' (ZaA ops.size r)) (fun _ => True) (fun _ _ h => h) (fun l w _ h h0 => hforget _ (h h0)) _ _ _ _ trivial ?_⟩
        refine ZgM hΓ hsel hQ r _ _ H' ρ' K _ w' hrest (by simpa using hz) (hshut hkind) hK hr' (he.put hρ hnxt hdst hok) (by rw [ZaS]; exact hdf) (fun ρ2 e2 H2 a2 w2 h1 h2 h3 h4 h5 h6 => hk ρ2 e2 H2 a2 w2 h1 (fun j hj => by rw [h2 j (by omega), hρ j hj]) (by omega) h4 h5 h6)
      · have hk0 : Nat.beq k 0 = false := by cases k with | zero => omega | succ k => rfl
        rw [hk0] at hkind
        simp only [cond_false, decide_eq_true_eq] at hkind
        have hev : ZaV Γ x e H fun v H' => evM Γ r (put d v e) H' K := by
          match k, hk2 with
          | k + 2, _ => simpa only [evM] using hev
        have hnl : ZaA ops.size (.mk i k d x :: r) = i := by
          simp only [ZaA]
          rw [show Nat.ble 2 k = true from Nat.ble_eq_true_of_le hk2]; rfl
        rw [hnl]
        refine does hkind _ (ZgH hΓ hfit he hr hev fun v w' hp => ?_)
        obtain ⟨ρ', sv, H', hK, rfl, hok, hρ, hnxt, hr'⟩ := hp
        have hset : (listed.setIfInBounds i true).getD i false = true := by simp [hz, hil]
        refine ⟨fun h => (by rw [hset] at h; cases h), Zck (S' := Zyj w0 fp ρ' H' (ZaA ops.size r)) (fun l => l.getD i false = true) (fun l j h => getD_set_true h) (fun l w hl _ h0 => (by rw [hl] at h0; cases h0)) _ _ _ _ hset ?_⟩
        refine ZgM hΓ hsel hQ r _ _ H' ρ' K _ w' hrest (by simpa using hz) (hshut hkind) hK hr' (he.put hρ hnxt hdst hok) (by rw [ZaS]; exact hdf) (fun ρ2 e2 H2 a2 w2 h1 h2 h3 h4 h5 h6 => hk ρ2 e2 H2 a2 w2 h1 (fun j hj => by rw [h2 j (by omega), hρ j hj]) (by omega) h4 h5 h6)
    · cases hf
end
end Go.Sx
