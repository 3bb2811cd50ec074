/- Part of the proof: SxTop. -/
import Derived.Test.YtfffjdfegnmejaaSxHelp
import Derived.ProofKit
set_option linter.unusedVariables false
set_option linter.unusedSimpArgs false
namespace Go.Sx
open Go.ChangeShapes Go.WideShapes Go.ChangeAt Go.RowKit
section
variable {P : Program} {W : World}
theorem ZzK {ρ : Rho} {H : Heap} (h : ∀ id en, H.find id = some en -> id < H.next /\ en.wr = false /\ en.ex = 0 /\ ZaE ρ H.next en.cs /\ (ρ id = none -> Zam en.cs = 0) /\
    (∀ b base, ρ id = some (b, base) -> ∀ (i : Nat) v, (Zab ρ en.cs)[i]? = some v -> W.cell? ⟨b, base + i, none⟩ = some v)) (hh : ∀ id en, H.find id = some en -> Za2 en.cs = none) : Rel W (Zr9 ρ H) ρ H W :=
  ⟨Frame.refl _ _, fun id en he => ⟨fun hn => by have := h id en he; simp only [Ent.size, this.2.2.1, this.2.2.2.2.1 hn], (h id en he).2.2.2.2.2, fun hw => (by rw [(h id en he).2.1] at hw; cases hw), fun _ q2 => (by rw [(h id en he).2.2.1] at q2; cases q2)⟩,
    fun id en he => (h id en he).2.2.2.1, fun id en he hw => (by rw [(h id en he).2.1] at hw; cases hw), fun i j en en' _ he _ hw => (by rw [(h i en he).2.1] at hw; cases hw), fun id en he => (h id en he).1, fun id en he => .inr (.inl (h id en he).2.2.1), fun id en he _ q2 => (by rw [(h id en he).2.2.1] at q2; cases q2), AbsR.none (fun id en he _ q2 => by rw [(h id en he).2.2.1] at q2; cases q2), HidR.none fun id en he => hh id en he⟩
theorem ZuJ {f : FuncId} {S : Sx.Zyw} {ρ : Rho} {H : Heap} {args : List SVal} (hS : Sound P f S) (hs : S args H fun r _ => r = .bool true) (hro : ∀ id en, H.find id = some en -> en.wr = false) (hr : Rel W (Zr9 ρ H) ρ H W) (hok : okL ρ H.next args) :
    Calls P f (ZaH ρ args).toArray W fun e W' => e = .returned (.bool true) /\ Below W.heap.size W W' := by
  refine (hS args H _ hs ρ W hr hok).mono ?_
  rintro e W' ⟨ρ', r, H', rfl, rfl, _, _, _, hr'⟩
  have hfp : ∀ b o, ¬ Zr9 ρ H b o := fun b o ⟨id, en, he, hw, _⟩ => by rw [hro id en he] at hw; cases hw
  have hf := hr'.frame
  exact ⟨rfl, hf.os, hf.tape, hf.output, hf.size, fun k hk => hf.other k hk (fun o => hfp k o)⟩
variable {H : Type} {enc : TypeId × Value -> H}
theorem Zgz (hl : laidOutB P = true) {W' : World} {sp : Nat -> Bool} (hb : Below W.heap.size W W') : ∀ {ts : List TypeId} {vs : List Value} {ds : List (DataW H)} {ps : List MemPlace}, (ts.all fun t => P.readableRec t && decide (t < P.types.size)) = true ->
    DataW.TrodAll enc P W 0 (fun _ => true) true ts vs ds ps -> (∀ x ∈ ps, x.block < W.heap.size) -> (∀ x ∈ ps, sp x.block = true) -> DataW.TrodAll enc P W' 0 sp true ts vs ds ps
  | [], vs, ds, ps, _, h, _, _ => by
    cases vs <;> cases ds <;> first | exact h | exact h.elim
  | t :: ts, v :: vs, d :: ds, ps, hts, h, hlt, hsp => by
    obtain ⟨p, q, h1, h2, rfl⟩ := h
    rw [List.all_cons, Bool.and_eq_true, Bool.and_eq_true, decide_eq_true_eq] at hts
    exact ⟨p, q, WideElems.Trod_stays hl hts.1.1 hts.1.2 h1 (fun x hx => hb.same (hlt x (List.mem_append_left _ hx))) (fun x hx => hsp x (List.mem_append_left _ hx)),
      Zgz hl hb hts.2 h2 (fun x hx => hlt x (List.mem_append_right _ hx)) (fun x hx => hsp x (List.mem_append_right _ hx)), rfl⟩
  | _ :: _, [], _, _, _, h, _, _ => by cases h
  | _ :: _, _ :: _, [], _, _, h, _, _ => by cases h
theorem Zzg {f : Func} {s : ChangeSpec} {apart fresh handsOn again : Bool} {W' : World} {args : Array Value} {ds gs : List (DataW H)} {before : List MemPlace} {t : TypeId}
    (hW : DataW.Whole enc P f.params.toList s.vars apart W args.toList ds gs before) (hvars : s.vars = []) (hb : Below W.heap.size W W') (hl : laidOutB P = true) (hts : (f.params.toList.all fun t => P.readableRec t && decide (t < P.types.size)) = true)
    (hfn : (s.fn H (ds ++ gs)) = { results := [.lit (.bool true)], args := ds }) (hres : f.resultTypes = #[t]) (ht : P.underlying t = some .bool) :
    s.post enc P f apart fresh handsOn again W args (.bool true) W' := by
  have hlt := hW.lt
  have hW' := hW
  obtain ⟨p, q, hA, hV, rfl, hz, hn⟩ := hW
  rw [hvars] at hV
  obtain ⟨rfl, rfl⟩ := trodVars_none hV
  have hargs : ∀ sp : Nat -> Bool, (∀ x ∈ p, sp x.block = true) -> DataW.TrodAll enc P W' 0 sp true f.params.toList args.toList (s.fn H (ds ++ [])).args p := fun sp hsp => by
    rw [hfn]
    exact Zgz hl hb hts hA (fun x hx => hlt x (List.mem_append_left _ hx)) hsp
  have hr : ∀ (b : Nat) (sp : Nat -> Bool) (hd : Bool), DataW.TrodAll enc P W' b sp hd f.resultTypes.toList ((Value.bool true).resultList f.resultTypes.size) (s.fn H (ds ++ [])).results [] := fun b sp hd => by
    rw [hfn, hres]
    exact trodAll_mk1 (shut_bool ht true)
  have hv : ∀ sp : Nat -> Bool, DataW.TrodVars enc P W' sp s.vars (s.fn H (ds ++ [])).vars [] := fun sp => by
    rw [hvars, hfn]; rfl
  refine ⟨ds, [], p ++ [], [], p, [], hW', hr _ _ _, hargs _ (fun x hx => by simpa using hlt x (List.mem_append_left _ hx)), hv _, hb.frame _, fun _ => ?_⟩
  refine ⟨ok_one hres rfl (okWide_bool_mk ht true), _, _, ([] ++ p) ++ [], ⟨[] ++ p, [], trodAll_append (hargs _ (fun _ _ => rfl)) (hr _ _ _), hv _, rfl, ?_, ?_⟩, ?_⟩
  · intro b off hp
    have hm : MemPlace.cell b off ∈ p ++ [] := by simpa using hp
    have := hlt _ hm
    rw [hb.frozen (p := ⟨b, off, none⟩) this]
    exact hz b off hm
  · intro ha
    have := hn ha
    simpa using this
  · intro x hx _
    simpa using hx
end
end Go.Sx
