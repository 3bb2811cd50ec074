/- Part of the proof: SxOpnN. -/
import Derived.Test.YtinjdimejijabaaSxOpnW
import Derived.Test.YtinjdimejijabaaSxWaysN
import Derived.Test.YtinjdimejijabaaSxAbsC
set_option linter.unusedVariables false
set_option linter.unusedSimpArgs false
set_option maxRecDepth 20000
namespace Go.Proofs.Ytinjdimejijabaa
open Go.Sx
def Zsk : NCon := ⟨16, fun args => match args with | [.agg [.one (.int .i64 s), .one (.int .i64 w)]] => some (True, Zhw s w) | _ => none⟩
theorem ZyI : NOk Try.prog Zsk := by
  intro w args pre C hs hp ρ
  unfold Zsk at hs
  simp only at hs
  split at hs
  · rename_i s wy
    cases hs
    refine (Zye [.agg [.one (.int .i64 s), .one (.int .i64 wy)]] ⟨0, []⟩ (fun u H' => u = .ptr ⟨1, 0, 0, 1⟩ 2 /\ H' = ⟨2, [(1, some ⟨true, [.one (.int .i64 (ZaJ wy)), .one (.slice ⟨0, 0, 0, 1⟩ (ZaG s) (ZaG s))], 0⟩), (0, some ⟨true, [.rows Zab (ZaG s) (List.replicate (ZaG s) (Tup.dflt Zab))], 0⟩)]⟩) (Zj3 rfl trivial ⟨rfl, rfl⟩) ρ w Zoz ⟨⟨trivial, trivial, trivial⟩, trivial⟩).mono ?_
    rintro e w' ⟨ρ', u, H', ⟨rfl, rfl⟩, rfl, hu, _, _, hr⟩
    have hn := Zfr s
    have f1 : (⟨2, [(1, some ⟨true, [.one (.int .i64 (ZaJ wy)), .one (.slice ⟨0, 0, 0, 1⟩ (ZaG s) (ZaG s))], 0⟩), (0, some ⟨true, [.rows Zab (ZaG s) (List.replicate (ZaG s) (Tup.dflt Zab))], 0⟩)]⟩ : Heap).find 1 = some ⟨true, [.one (.int .i64 (ZaJ wy)), .one (.slice ⟨0, 0, 0, 1⟩ (ZaG s) (ZaG s))], 0⟩ := rfl
    have f0 : (⟨2, [(1, some ⟨true, [.one (.int .i64 (ZaJ wy)), .one (.slice ⟨0, 0, 0, 1⟩ (ZaG s) (ZaG s))], 0⟩), (0, some ⟨true, [.rows Zab (ZaG s) (List.replicate (ZaG s) (Tup.dflt Zab))], 0⟩)]⟩ : Heap).find 0 = some ⟨true, [.rows Zab (ZaG s) (List.replicate (ZaG s) (Tup.dflt Zab))], 0⟩ := rfl
    have hs0 : (⟨true, [.rows Zab (ZaG s) (List.replicate (ZaG s) (Tup.dflt Zab))], 0⟩ : Ent).size = ZaG s := by simp [Ent.size, Zai, Chunk.len, Zah, Leaf.len]
    obtain ⟨b, hb⟩ := Option.ne_none_iff_exists'.1 hu.2
    have hb' : ρ' 1 = some b := hb
    obtain ⟨bs, hbs⟩ : ∃ bs, ρ' 0 = some bs := by
      cases h0 : ρ' 0 with
      | some p => exact ⟨p, rfl⟩
      | none =>
        have := (hr.oks 1 _ f1).2.1.2 h0
        omega
    have w1 : ∀ i, i < 2 -> Win ρ' 1 ⟨true, [.one (.int .i64 (ZaJ wy)), .one (.slice ⟨0, 0, 0, 1⟩ (ZaG s) (ZaG s))], 0⟩ b.1 (b.2 + i) := fun i hi => ⟨b.2, hb', by omega, by show b.2 + i < b.2 + 2; omega⟩
    have w0 : ∀ i, i < ZaG s -> Win ρ' 0 ⟨true, [.rows Zab (ZaG s) (List.replicate (ZaG s) (Tup.dflt Zab))], 0⟩ bs.1 (bs.2 + i) := fun i hi => ⟨bs.2, hbs, by omega, by rw [hs0]; omega⟩
    have hnew : ∀ i e x o, (⟨2, [(1, some ⟨true, [.one (.int .i64 (ZaJ wy)), .one (.slice ⟨0, 0, 0, 1⟩ (ZaG s) (ZaG s))], 0⟩), (0, some ⟨true, [.rows Zab (ZaG s) (List.replicate (ZaG s) (Tup.dflt Zab))], 0⟩)]⟩ : Heap).find i = some e -> e.wr = true -> Win ρ' i e x o -> w.heap.size <= x := fun i e x o he hw hx => by
      rcases hr.own i e he hw x o hx with h | h
      · exact (ZiB h).elim
      · exact h
    have hlen : (List.replicate (ZaG s) ((none, 0, 0) : Hdr)).length = ZaG s := List.length_replicate
    refine ⟨b, fun x => x = b.1 ∨ x = bs.1 ∨ ∃ (i : Nat) (h : Hdr), (List.replicate (ZaG s) ((none, 0, 0) : Hdr))[i]? = some h /\ Zb4 h = some x, ?_, ⟨bs, List.replicate (ZaG s) (none, 0, 0), ?_, ?_, ?_, ?_, ?_, ?_, ?_, fun _ => Iff.rfl⟩, fun y hy => ?_, hr.frame.mono fun x o hx => ZiB hx⟩
    · simp [SVal.conc, SAddr.conc, hb']
    · rw [hlen]; omega
    · simp [Zhw]
    · obtain ⟨⟨v, hv⟩, _⟩ := (hr.ents 1 _ f1).own rfl b.1 b.2 hb' 0 (by show 0 < 2; decide)
      have hge := hnew 1 _ _ _ f1 rfl (w1 0 (by decide))
      unfold World.cell? at hv
      split at hv
      · rename_i c t fz hc
        rcases hr.frame.fresh _ c t fz hc with h1 | ⟨c0, t0, h1⟩
        · subst h1; exact ⟨c, t, hc⟩
        · have := (Array.getElem?_eq_some_iff.1 h1).1
          simp only at this; omega
      · cases hv
    · have := ZdP rfl hb' (hr.ents 1 _ f1) (hr.win_lt f1 (w1 0 (by decide)))
      rw [hlen]
      simpa [Ent.size, Zai, Chunk.len, Zag, Chunk.conc, SVal.conc, SAddr.conc, hbs, Zhw] using this
    · have := ZdP rfl hbs (hr.ents 0 _ f0) (hr.win_lt f0 (w0 0 (by omega)))
      rw [hs0] at this
      rw [hlen]
      have e : Zag ρ' [.rows Zab (ZaG s) (List.replicate (ZaG s) (Tup.dflt Zab))] = (List.replicate (ZaG s) ((none, 0, 0) : Hdr)).map ZdW := by
        simp only [Zag, Chunk.conc, List.append_nil]
        exact Ziy hlen
      rw [<- e]
      exact this
    · intro i h r hi hri
      have e1 := List.eq_of_mem_replicate (List.mem_of_getElem? hi)
      have e2 := List.eq_of_mem_replicate (List.mem_of_getElem? hri)
      subst e1; subst e2
      exact .inl ⟨rfl, rfl⟩
    · refine ⟨fun i j hi hj hbb he => ?_, fun i h x hi hx => ?_⟩
      · rw [hlen] at hj
        have h1 := w1 i hi
        rw [hbb, he] at h1
        exact hr.apart 1 0 _ _ (by decide) f1 f0 rfl _ _ h1 (w0 j hj)
      · have e1 := List.eq_of_mem_replicate (List.mem_of_getElem? hi)
        subst e1; cases hx
    · rcases hy with rfl | rfl | ⟨i, h, hi, hx⟩
      · exact hnew 1 _ _ _ f1 rfl (w1 0 (by decide))
      · exact hnew 0 _ _ _ f0 rfl (w0 0 (by omega))
      · have e1 := List.eq_of_mem_replicate (List.mem_of_getElem? hi)
        subst e1; cases hx
  · cases hs
def Zsv : ACon := ⟨17, fun C args => match args with | [.int .i64 k, .int .i64 v] => some (C.Good /\ I64 k, .plain (.int .i64 (C.setR k v)) (C.setC k v)) | _ => none⟩
def Zpp : ACon := ⟨18, fun C args => match args with | [.int .i64 k] => some (C.Good /\ I64 k, .look (.bool (C.roomB k))) | _ => none⟩
def Zpr : ACon := ⟨19, fun C args => match args with | [.int .i64 k] => some (C.Good /\ I64 k, .plain (.bool (C.hasB k)) (C.dropC k)) | _ => none⟩
def ZlI : ACon := ⟨20, fun C args => match args with | [.int .i64 k] => some (C.Good /\ I64 k, .plain (.bool (C.hasB k)) (C.touchC k)) | _ => none⟩
def Zsw : ACon := ⟨21, fun C args => match args with | [.int .i64 k] => some (C.Good /\ I64 k, .nums (C.oldL k)) | _ => none⟩
def Zsx : ACon := ⟨22, fun C args => match args with | [.int .i64 k] => some (C.Good /\ I64 k, .look (.tuple [.int .i64 (C.getA k), .bool (C.hasB k)])) | _ => none⟩
theorem Zqa : AOk Try.prog Zsv := by
  intro w b C B args pre res hc hs hp ρ
  unfold Zsv at hs
  simp only at hs
  split at hs
  · cases hs; exact ⟨fun _ _ => trivial, ZyG hc hp.1 hp.2⟩
  · cases hs
theorem Zpo : AOk Try.prog Zpp := by
  intro w b C B args pre res hc hs hp ρ
  unfold Zpp at hs
  simp only at hs
  split at hs
  · cases hs; exact ⟨fun _ _ => trivial, Zxx hc hp.1 hp.2⟩
  · cases hs
theorem Zpq : AOk Try.prog Zpr := by
  intro w b C B args pre res hc hs hp ρ
  unfold Zpr at hs
  simp only at hs
  split at hs
  · cases hs; exact ⟨fun _ _ => trivial, Zxy hc hp.1 hp.2⟩
  · cases hs
theorem Zno : AOk Try.prog ZlI := by
  intro w b C B args pre res hc hs hp ρ
  unfold ZlI at hs
  simp only at hs
  split at hs
  · cases hs; exact ⟨fun _ _ => trivial, Zsy hc hp.1 hp.2⟩
  · cases hs
theorem Zqb : AOk Try.prog Zsw := by
  intro w b C B args pre res hc hs hp ρ
  unfold Zsw at hs
  simp only at hs
  split at hs
  · cases hs; exact ZyH hc hp.1 hp.2
  · cases hs
theorem Zqc : AOk Try.prog Zsx := by
  intro w b C B args pre res hc hs hp ρ
  unfold Zsx at hs
  simp only at hs
  split at hs
  · cases hs; exact ⟨fun _ _ => ⟨trivial, trivial, trivial⟩, ZyJ hc hp.1 hp.2⟩
  · cases hs
def ZqP : List ACon := [Zsv, Zpp, Zpr, ZlI, Zsw, Zsx]
theorem ZlV : Zx5 Try.prog ZqP := ⟨Zqa, Zpo, Zpq, Zno, Zqb, Zqc, trivial⟩
def ZqO : List NCon := [Zsk]
theorem ZlU : Zx4 Try.prog ZqO := ⟨ZyI, trivial⟩
end Go.Proofs.Ytinjdimejijabaa
