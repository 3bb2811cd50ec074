/- Part of the proof: SxCacheP. -/
import Derived.Test.YtinjdimejijabaaSxCacheL
set_option linter.unusedVariables false
set_option linter.unusedSimpArgs false
namespace Go.Sx
namespace CacheV
def step (w k y : Int) (C : CacheV) : CacheV := if w = 0 then C.setC k y else if w = 1 then C.dropC k else C.touchC k
theorem Zgi {C : CacheV} (h : C.Good) (w k y : Int) : Turn C (C.step w k y) k := by
  unfold step
  split
  · exact Ztv h k y
  · split
    · exact ZrC h k
    · exact ZnI h k
def Ztx (w k y ways : Int) (r : List (Int × Int)) : List (Int × Int) :=
  if w = 0 then (if k < 0 then r else if 0 <= idxK k r then ZaY (idxK k r) (ZnL (idxK k r) y r) else if ways <= (r.length : Int) then r else r ++ [(k, y)])
  else if w = 1 then (if 0 <= k /\ 0 <= idxK k r then (ZaO (idxK k r) (idxK k r + 1) r).take (r.length - 1) else r)
  else (if 0 <= k /\ 0 <= idxK k r then ZaY (idxK k r) r else r)
theorem ZDK {C : CacheV} {j k : Int} (h : C.at_ k = C.at_ j) : C.row j = C.row k := by unfold row; rw [h]
theorem Zqq {C : CacheV} (h : C.Good) {w k y j : Int} (hj : C.at_ k = C.at_ j) : (C.step w k y).row j = Ztx w k y C.ways (C.row j) := by
  have hr := ZDK hj
  have hput : ∀ r, (C.put k r).row j = r := fun r => by rw [ZnO h.s1, if_pos hj]
  unfold step Ztx
  by_cases h0 : w = 0
  · rw [if_pos h0, if_pos h0]
    unfold setC idx
    rw [hr]
    by_cases h1 : k < 0
    · rw [if_pos h1, if_pos h1, hr]
    · rw [if_neg h1, if_neg h1]
      by_cases h2 : 0 <= idxK k (C.row k)
      · rw [if_pos h2, if_pos h2, hput]
      · rw [if_neg h2, if_neg h2]
        by_cases h3 : C.ways <= ((C.row k).length : Int)
        · rw [if_pos h3, if_pos h3, hr]
        · rw [if_neg h3, if_neg h3, hput]
  · rw [if_neg h0, if_neg h0]
    by_cases h1 : w = 1
    · rw [if_pos h1, if_pos h1, hr]
      rcases dropC_cases C k with e | ⟨g0, g1, e⟩
      · by_cases g : 0 <= k /\ 0 <= idxK k (C.row k)
        · have hb := hasB_spec.2 g
          rw [if_pos g]
          unfold dropC idx
          rw [hb, if_pos rfl, hput]
        · rw [if_neg g, e, hr]
      · rw [if_pos ⟨g0, g1⟩, e, hput]
    · rw [if_neg h1, if_neg h1, hr]
      rcases touchC_cases C k with e | ⟨g0, g1, e⟩
      · by_cases g : 0 <= k /\ 0 <= idxK k (C.row k)
        · have hb := hasB_spec.2 g
          rw [if_pos g]
          unfold touchC idx
          rw [hb, if_pos rfl, hput]
        · rw [if_neg g, e, hr]
      · rw [if_pos ⟨g0, g1⟩, e, hput]
structure Twin (sets ways : Int) (A B : CacheV) : Prop where
  ga : A.Good
  gb : B.Good
  wa : A.ways = ZaA ways
  wb : B.ways = ZaA ways
  la : A.rows.length = ZaP sets
  lb : B.rows.length = ZaP sets
theorem Twin.at_ {sets ways : Int} {A B : CacheV} (h : Twin sets ways A B) (k : Int) : A.at_ k = B.at_ k := by unfold CacheV.at_; rw [h.la, h.lb]
theorem Twin.new (sets ways : Int) : Twin sets ways (ZiG sets ways) (ZiG sets ways) :=
  ⟨new_good _ _, new_good _ _, rfl, rfl, by unfold ZiG; simp, by unfold ZiG; simp⟩
theorem Twin.left {sets ways : Int} {A B : CacheV} (h : Twin sets ways A B) (w k y : Int) : Twin sets ways (A.step w k y) B := by
  have t := Zgi h.ga w k y
  exact ⟨t.good, h.gb, t.ways.trans h.wa, h.wb, t.len.trans h.la, h.lb⟩
theorem Twin.right {sets ways : Int} {A B : CacheV} (h : Twin sets ways A B) (w k y : Int) : Twin sets ways A (B.step w k y) := by
  have t := Zgi h.gb w k y
  exact ⟨h.ga, t.good, h.wa, t.ways.trans h.wb, h.la, t.len.trans h.lb⟩
theorem Twin.both {sets ways : Int} {A B : CacheV} (h : Twin sets ways A B) {key : Int} (hr : A.row key = B.row key) (w k y : Int) : (A.step w k y).row key = (B.step w k y).row key := by
  by_cases e : A.at_ k = A.at_ key
  · rw [Zqq h.ga e, Zqq h.gb (by rw [<- h.at_, <- h.at_]; exact e), hr, h.wa, h.wb]
  · rw [(Zgi h.ga w k y).apart key (.inl (Ne.symm e)), (Zgi h.gb w k y).apart key (.inl (by rw [<- h.at_, <- h.at_]; exact Ne.symm e)), hr]
end CacheV
end Go.Sx
