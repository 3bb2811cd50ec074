/- Part of the proof: SxOpnN. -/
import Derived.Test.YtinjdimejijabaaSxOpnW
import Derived.Test.YtinjdimejijabaaSxWaysN
import Derived.Test.YtinjdimejijabaaSxAbsC
set_option linter.unusedVariables false
set_option linter.unusedSimpArgs false
set_option maxRecDepth 20000
namespace Go.Proofs.Ytinjdimejijabaa
open Go.Sx
def ZAj : NCon := ⟨16, fun args => match args with | [.agg [.one (.int .i64 s), .one (.int .i64 w)]] => some (True, ZiG s w) | _ => none⟩
theorem ZID : NOk Try.prog ZAj := by
  intro w args pre C hs hp ρ
  unfold ZAj at hs
  simp only at hs
  split at hs
  · rename_i s wy
    cases hs
    refine (ZIm [.agg [.one (.int .i64 s), .one (.int .i64 wy)]] ⟨0, []⟩ (fun u H' => u = .ptr ⟨1, 0, 0, 1⟩ 2 /\ H' = ⟨2, [(1, some ⟨true, [.one (.int .i64 (ZaA wy)), .one (.slice ⟨0, 0, 0, 1⟩ (ZaP s) (ZaP s))], 0⟩), (0, some ⟨true, [.rows Zab (ZaP s) (List.replicate (ZaP s) (Tup.dflt Zab))], 0⟩)]⟩) (ZkX rfl trivial ⟨rfl, rfl⟩) ρ w ZtA ⟨⟨trivial, trivial, trivial⟩, trivial⟩).mono ?_
    rintro e w' ⟨ρ', u, H', ⟨rfl, rfl⟩, rfl, hu, _, _, hr⟩
    have hn := Zjo s
    have f1 : (⟨2, [(1, some ⟨true, [.one (.int .i64 (ZaA wy)), .one (.slice ⟨0, 0, 0, 1⟩ (ZaP s) (ZaP s))], 0⟩), (0, some ⟨true, [.rows Zab (ZaP s) (List.replicate (ZaP s) (Tup.dflt Zab))], 0⟩)]⟩ : Heap).find 1 = some ⟨true, [.one (.int .i64 (ZaA wy)), .one (.slice ⟨0, 0, 0, 1⟩ (ZaP s) (ZaP s))], 0⟩ := rfl
    have f0 : (⟨2, [(1, some ⟨true, [.one (.int .i64 (ZaA wy)), .one (.slice ⟨0, 0, 0, 1⟩ (ZaP s) (ZaP s))], 0⟩), (0, some ⟨true, [.rows Zab (ZaP s) (List.replicate (ZaP s) (Tup.dflt Zab))], 0⟩)]⟩ : Heap).find 0 = some ⟨true, [.rows Zab (ZaP s) (List.replicate (ZaP s) (Tup.dflt Zab))], 0⟩ := rfl
    have hs0 : (⟨true, [.rows Zab (ZaP s) (List.replicate (ZaP s) (Tup.dflt Zab))], 0⟩ : Ent).size = ZaP s := by simp [Ent.size, Zam, Chunk.len, Zah, Leaf.len]
    obtain ⟨b, hb⟩ := Option.ne_none_iff_exists'.1 hu.2
    have hb' : ρ' 1 = some b := hb
    obtain ⟨bs, hbs⟩ : ∃ bs, ρ' 0 = some bs := by
      cases h0 : ρ' 0 with
      | some p => exact ⟨p, rfl⟩
      | none =>
        have := (hr.oks 1 _ f1).2.1.2 h0
        omega
    have w1 : ∀ i, i < 2 -> Win ρ' 1 ⟨true, [.one (.int .i64 (ZaA wy)), .one (.slice ⟨0, 0, 0, 1⟩ (ZaP s) (ZaP s))], 0⟩ b.1 (b.2 + i) := fun i hi => ⟨b.2, hb', by omega, by show b.2 + i < b.2 + 2; omega⟩
    have w0 : ∀ i, i < ZaP s -> Win ρ' 0 ⟨true, [.rows Zab (ZaP s) (List.replicate (ZaP s) (Tup.dflt Zab))], 0⟩ bs.1 (bs.2 + i) := fun i hi => ⟨bs.2, hbs, by omega, by rw [hs0]; omega⟩
    have hnew : ∀ i e x o, (⟨2, [(1, some ⟨true, [.one (.int .i64 (ZaA wy)), .one (.slice ⟨0, 0, 0, 1⟩ (ZaP s) (ZaP s))], 0⟩), (0, some ⟨true, [.rows Zab (ZaP s) (List.replicate (ZaP s) (Tup.dflt Zab))], 0⟩)]⟩ : Heap).find i = some e -> e.wr = true -> Win ρ' i e x o -> w.heap.size <= x := fun i e x o he hw hx => by
      rcases hr.own i e he hw x o hx with h | h
      · exact (ZkY h).elim
      · exact h
    have hlen : (List.replicate (ZaP s) ((none, 0, 0) : Hdr)).length = ZaP s := List.length_replicate
    refine ⟨b, fun x => x = b.1 ∨ x = bs.1 ∨ ∃ (i : Nat) (h : Hdr), (List.replicate (ZaP s) ((none, 0, 0) : Hdr))[i]? = some h /\ ZcH h = some x, ?_, ⟨bs, List.replicate (ZaP s) (none, 0, 0), ?_, ?_, ?_, ?_, ?_, ?_, fun _ => Iff.rfl⟩, fun y hy => ?_, hr.frame.mono fun x o hx => ZkY hx⟩
    · simp [SVal.conc, SAddr.conc, hb']
    · rw [hlen]; omega
    · simp [ZiG]
    · have := ZeQ rfl hb' (hr.ents 1 _ f1) (hr.win_lt f1 (w1 0 (by decide)))
      rw [hlen]
      simpa [Ent.size, Zam, Chunk.len, Zai, Chunk.conc, SVal.conc, SAddr.conc, hbs, ZiG] using this
    · have := ZeQ rfl hbs (hr.ents 0 _ f0) (hr.win_lt f0 (w0 0 (by omega)))
      rw [hs0] at this
      rw [hlen]
      have e : Zai ρ' [.rows Zab (ZaP s) (List.replicate (ZaP s) (Tup.dflt Zab))] = (List.replicate (ZaP s) ((none, 0, 0) : Hdr)).map ZbO := by
        simp only [Zai, Chunk.conc, List.append_nil]
        exact Zh2 hlen
      rw [<- e]
      exact this
    · intro i h r hi hri
      have e1 := List.eq_of_mem_replicate (List.mem_of_getElem? hi)
      have e2 := List.eq_of_mem_replicate (List.mem_of_getElem? hri)
      subst e1; subst e2
      exact .inl ⟨rfl, rfl⟩
    · refine ⟨fun i j hi hj hbb he => ?_, fun i h x hi hx => ?_⟩
      · rw [hlen] at hj
        have h1 := w1 i hi
        rw [hbb, he] at h1
        exact hr.apart 1 0 _ _ (by decide) f1 f0 rfl _ _ h1 (w0 j hj)
      · have e1 := List.eq_of_mem_replicate (List.mem_of_getElem? hi)
        subst e1; cases hx
    · rcases hy with rfl | rfl | ⟨i, h, hi, hx⟩
      · exact hnew 1 _ _ _ f1 rfl (w1 0 (by decide))
      · exact hnew 0 _ _ _ f0 rfl (w0 0 (by omega))
      · have e1 := List.eq_of_mem_replicate (List.mem_of_getElem? hi)
        subst e1; cases hx
  · cases hs
def Zwf : ACon := ⟨17, fun C args => match args with | [.int .i64 k, .int .i64 v] => some (C.Good /\ I64 k, .plain (.int .i64 (C.setR k v)) (C.setC k v)) | _ => none⟩
def Zq6 : ACon := ⟨18, fun C args => match args with | [.int .i64 k] => some (C.Good /\ I64 k, .look (.bool (C.roomB k))) | _ => none⟩
def Zq9 : ACon := ⟨19, fun C args => match args with | [.int .i64 k] => some (C.Good /\ I64 k, .plain (.bool (C.hasB k)) (C.dropC k)) | _ => none⟩
def Zmd : ACon := ⟨20, fun C args => match args with | [.int .i64 k] => some (C.Good /\ I64 k, .plain (.bool (C.hasB k)) (C.touchC k)) | _ => none⟩
def Zwg : ACon := ⟨21, fun C args => match args with | [.int .i64 k] => some (C.Good /\ I64 k, .nums (C.oldL k)) | _ => none⟩
def Zwh : ACon := ⟨22, fun C args => match args with | [.int .i64 k] => some (C.Good /\ I64 k, .look (.tuple [.int .i64 (C.getA k), .bool (C.hasB k)])) | _ => none⟩
theorem Zq5 : AOk Try.prog Zwf := by
  intro w b C B args pre res hc hs hp ρ
  unfold Zwf at hs
  simp only at hs
  split at hs
  · cases hs; exact ⟨fun _ _ => trivial, ZIB hc hp.1 hp.2⟩
  · cases hs
theorem Znc : AOk Try.prog Zq6 := by
  intro w b C B args pre res hc hs hp ρ
  unfold Zq6 at hs
  simp only at hs
  split at hs
  · cases hs; exact ⟨fun _ _ => trivial, ZHq hc hp.1 hp.2⟩
  · cases hs
theorem Znd : AOk Try.prog Zq9 := by
  intro w b C B args pre res hc hs hp ρ
  unfold Zq9 at hs
  simp only at hs
  split at hs
  · cases hs; exact ⟨fun _ _ => trivial, ZHs hc hp.1 hp.2⟩
  · cases hs
theorem Zkg : AOk Try.prog Zmd := by
  intro w b C B args pre res hc hs hp ρ
  unfold Zmd at hs
  simp only at hs
  split at hs
  · cases hs; exact ⟨fun _ _ => trivial, ZAx hc hp.1 hp.2⟩
  · cases hs
theorem Zq7 : AOk Try.prog Zwg := by
  intro w b C B args pre res hc hs hp ρ
  unfold Zwg at hs
  simp only at hs
  split at hs
  · cases hs; exact ZIC hc hp.1 hp.2
  · cases hs
theorem Zq8 : AOk Try.prog Zwh := by
  intro w b C B args pre res hc hs hp ρ
  unfold Zwh at hs
  simp only at hs
  split at hs
  · cases hs; exact ⟨fun _ _ => ⟨trivial, trivial, trivial⟩, ZIE hc hp.1 hp.2⟩
  · cases hs
def ZBd : List ACon := [Zwf, Zq6, Zq9, Zmd, Zwg, Zwh]
theorem ZvA : ZHL Try.prog ZBd := ⟨Zq5, Znc, Znd, Zkg, Zq7, Zq8, trivial⟩
def ZwX : List NCon := [ZAj]
theorem ZpM : ZH9 Try.prog ZwX := ⟨ZID, trivial⟩
end Go.Proofs.Ytinjdimejijabaa
