/- Part of the proof: SxApp. -/
import Derived.Test.YtfffjdfegnmejaaSxBuild
import Derived.Laws.BytesString
import Derived.Deep.Upon
set_option linter.unusedVariables false
set_option linter.unusedSimpArgs false
namespace Go.Sx
section
variable {P : Program} {a : Act} {o : Oper} {w w0 : World} {fp : Nat -> Nat -> Prop} {ρ : Rho} {H : Heap} {e : Env} {nt : Nat} {K : SVal -> Heap -> Prop}
theorem optE_sound {n : Nat} {x : Option Opd} {x' : Option Operand} {y d : Nat} {K : Nat -> Prop} (hf : Zu0 x x' = true) (he : EnvOk ρ n nt e a.tmps) (h : ZEg e x y d K) :
    (x = none /\ x' = none /\ K d) ∨ ∃ y' k m, x' = some y' /\ x.isSome = true /\ a.eval y' = .int k m /\ 0 <= m /\ m <= (y : Int) /\ K m.toNat := by
  cases x with
  | none =>
    cases x' with
    | none => exact .inl ⟨rfl, rfl, h⟩
    | some _ => simp [Zu0] at hf
  | some x =>
    cases x' with
    | none => simp [Zu0] at hf
    | some y' =>
      simp only [Zu0] at hf
      simp only [ZEg] at h
      obtain ⟨v, h, _, h3⟩ := Opd.ev_sound hf he h
      cases v with
      | int k m => exact .inr ⟨y', k, m, rfl, rfl, by rw [h3]; rfl, h.1, h.2.1, h.2.2⟩
      | _ => exact h.elim
theorem Za1 {k : IntKind} {m : Int} {y : Nat} {code} (h0 : 0 <= m) (h1 : m <= (y : Int)) : (Instr.sliceBound (.int k m) y code).run P w = .ok m.toNat w := by
  simp [Instr.sliceBound, asIntOf, h0, h1]
theorem Zyf {n : Nat} {b : Bool} {lo hi mx : Option Opd} {lo' hi' mx' : Option Operand} {len cap : Nat} {K : Nat -> Nat -> Nat -> Prop} (hl : Zu0 lo lo' = true) (hh : Zu0 hi hi' = true) (hm : Zu0 mx mx' = true)
    (he : EnvOk ρ n nt e a.tmps) (h : ZMX e lo hi mx len cap K) :
    ∃ l h m, K l h m /\ (∀ w : World, (Instr.sliceBounds b len cap (lo'.map a.eval) (hi'.map a.eval) (mx'.map a.eval)).run P w = .ok (l, h, m) w) /\ m <= cap /\ (l <= h) /\ (h <= m ∨ h = len) /\ (lo = none -> l = 0) := by
  have hmain : ∀ (m : Nat), (ZEg e hi m len fun h => ZEg e lo h 0 fun l => K l h m) -> m <= cap -> (mx' = none -> m = cap) -> (∀ k v, mx' = some k -> a.eval k = v -> ∀ w : World, (Instr.sliceBound v cap (if b then .slice3Acap else .slice3Alen)).run P w = .ok m w) -> (mx'.isSome = true -> hi'.isSome = true) ->
      ∃ l h m, K l h m /\ (∀ w : World, (Instr.sliceBounds b len cap (lo'.map a.eval) (hi'.map a.eval) (mx'.map a.eval)).run P w = .ok (l, h, m) w) /\ m <= cap /\ (l <= h) /\ (h <= m ∨ h = len) /\ (lo = none -> l = 0) := by
    intro m h hmc hmn hms hboth
    rcases optE_sound hh he h with ⟨rfl, rfl, h1⟩ | ⟨yh, kh, mh, rfl, _, hvh, hh0, hh1, h1⟩
    · have hmx : mx' = none := by cases mx' <;> simp_all
      subst hmx
      have := hmn rfl
      subst this
      rcases optE_sound hl he h1 with ⟨rfl, rfl, h2⟩ | ⟨yl, kl, ml, rfl, hls, hvl, hl0, hl1, h2⟩
      · exact ⟨_, _, _, h2, fun w => by simp [Instr.sliceBounds], Nat.le_refl _, Nat.zero_le _, .inr rfl, fun _ => rfl⟩
      · exact ⟨_, _, _, h2, fun w => by simp [Instr.sliceBounds, hvl, Za1 hl0 hl1], Nat.le_refl _, by omega, .inr rfl, fun h => by rw [h] at hls; cases hls⟩
    · rcases optE_sound hl he h1 with ⟨rfl, rfl, h2⟩ | ⟨yl, kl, ml, rfl, hls, hvl, hl0, hl1, h2⟩
      · refine ⟨_, _, _, h2, fun w => ?_, hmc, Nat.zero_le _, .inl (by omega), fun _ => rfl⟩
        cases mx' with
        | none => have := hmn rfl; subst this; simp [Instr.sliceBounds, hvh, Za1 hh0 hh1]
        | some k => have h9 := hms k _ rfl rfl; simp [Instr.sliceBounds, hvh, Za1 hh0 hh1, h9]
      · refine ⟨_, _, _, h2, fun w => ?_, hmc, by omega, .inl (by omega), fun h => by rw [h] at hls; cases hls⟩
        cases mx' with
        | none => have := hmn rfl; subst this; simp [Instr.sliceBounds, hvh, hvl, Za1 hh0 hh1, Za1 hl0 hl1]
        | some k => have h9 := hms k _ rfl rfl; simp [Instr.sliceBounds, hvh, hvl, Za1 hh0 hh1, Za1 hl0 hl1, h9]
  unfold ZMX at h
  split at h
  · exact h.elim
  · rename_i hno
    rcases optE_sound hm he h with ⟨rfl, rfl, h1⟩ | ⟨ym, km, mm, rfl, hms, hvm, hm0, hm1, h1⟩
    · exact hmain cap h1 (Nat.le_refl _) (fun _ => rfl) (fun k v h => by cases h) (fun h => by cases h)
    · refine hmain mm.toNat h1 (by omega) (fun h => by cases h) (fun k v hk hv w => ?_) fun _ => ?_
      · cases hk; rw [<- hv, hvm]; exact Za1 hm0 hm1
      · cases mx with
        | none => cases hms
        | some mx =>
          cases hi with
          | none => exact absurd rfl (hno mx rfl)
          | some hi => cases hi' with
            | none => simp [Zu0] at hh
            | some _ => rfl
theorem Zdj {n : Nat} {x : Opd} {lo hi mx : Option Opd} (hf : (AOp.sliceP n x lo hi mx).fits P o.op = true) (he : EnvOk ρ H.next nt e a.tmps) (_hr : Rel w0 fp ρ H w) {Γ} (h : ZaV Γ (.sliceP n x lo hi mx) e H K) : Looks P a o w0 fp ρ H K := by
  simp only [AOp.fits] at hf
  simp only [ZaV] at h
  split at hf
  · rename_i t x' lo' hi' mx' hop
    simp only [Bool.and_eq_true] at hf
    obtain ⟨⟨⟨⟨hx, hl⟩, hh⟩, hm⟩, ht⟩ := hf
    obtain ⟨v, h, hok, h3⟩ := Opd.ev_sound hx he h
    unfold ZzD at ht
    split at ht
    · rename_i n' el hua
      rw [Bool.and_eq_true] at ht
      have := Nat.eq_of_beq_eq_true ht.1
      subst this
      split at h
      · rename_i ad sz
        obtain ⟨l, hh', m, hK, hrun, hmc, hlh, hhm, hlo⟩ := Zyf (P := P) (b := false) hl hh hm he h
        simp only [SVal.ok] at hok
        obtain ⟨⟨b, base⟩, hp⟩ := Option.ne_none_iff_exists'.1 hok.2
        refine ⟨_, hK, ?_, fun w hr => ?_⟩
        · simp only [SVal.ok]
          exact ⟨hok.1, fun hn => absurd hn hok.2⟩
        · simp only [SVal.conc, SAddr.conc, hp, Option.map_some] at h3
          simp only [execOp, hop, h3, Instr.sliceAt, Sem.run_bind, run_underlying hua, Result.andThen_ok, hrun, Zbw ht.2, Sem.run_pure, Instr.sureAddr]
          simp only [SVal.conc, SAddr.conc, hp, Option.map_some]
          unfold slo
          congr 3
          cases lo with
          | none => have := hlo rfl; subst this; split <;> simp [ZbA]
          | some _ =>
            by_cases hml : m = l
            · simp [hml]
            · simp only [if_neg hml, ZbA]; simp only [Option.some.injEq, Addr.mk.injEq]; refine ⟨trivial, by omega, trivial⟩
      · exact h.elim
    · cases ht
  · cases hf
theorem Zlr {t el : TypeId} (hu : P.underlying t = some (.pointer el)) (ad : Option Addr) (w : World) : (Op.equal t (.pointer ad) (.pointer none)).run P w = .ok ad.isNone w := by
  have : ∀ d, (Op.equalIn (d + 1) t (.pointer ad) (.pointer none)).run P w = .ok ad.isNone w := fun d => by
    cases ad <;> simp only [Op.equalIn, Sem.run_bind, run_underlying hu, Result.andThen_ok, Sem.run_pure, Option.isNone]
  exact this 9999
theorem Zds {ne : Bool} {x : Opd} (hf : (AOp.isNilP ne x).fits P o.op = true) (he : EnvOk ρ H.next nt e a.tmps) (_hr : Rel w0 fp ρ H w) {Γ} (h : ZaV Γ (.isNilP ne x) e H K) : Looks P a o w0 fp ρ H K := by
  simp only [AOp.fits] at hf
  simp only [ZaV] at h
  split at hf
  · rename_i op t x' y' ty hop
    simp only [Bool.and_eq_true] at hf
    obtain ⟨⟨⟨h0, hx⟩, hy⟩, ht⟩ := hf
    obtain ⟨v, h, hok, h3⟩ := Opd.ev_sound hx he h
    unfold ZOf at ht
    split at ht
    · rename_i el hu
      unfold ZOd at hy
      split at hy
      · have hrun : ∀ (w : World) (ad : Option Addr), a.eval x' = .pointer ad -> (execOp a.eval o).run P w = .ok (.value (.bool (if ne then !ad.isNone else ad.isNone))) w := by
          intro w ad hv
          have hq := Zlr hu ad w
          unfold ZLS at h0
          split at h0
          · simp [execOp, hop, hv, show a.eval (.const (.pointer none)) = .pointer none from rfl, eqGuard, binOp, hq]
          · simp [execOp, hop, hv, show a.eval (.const (.pointer none)) = .pointer none from rfl, eqGuard, binOp, hq]
          · cases h0
        split at h
        · rename_i ad l
          simp only [SVal.ok] at hok
          obtain ⟨p, hp⟩ := Option.ne_none_iff_exists'.1 hok.2
          refine ⟨_, h, by simp [SVal.ok], fun w hr => ?_⟩
          rw [hrun w _ (by rw [h3]; rfl)]
          simp only [SVal.conc, SAddr.conc, hp]
          cases ne <;> simp
        · refine ⟨_, h, by simp [SVal.ok], fun w hr => ?_⟩
          rw [hrun w none (by rw [h3]; rfl)]
          cases ne <;> simp [SVal.conc]
        · exact h.elim
      · cases hy
    · cases ht
  · cases hf
theorem ZlJ {k k' : IntKind} (h : kEq k k' = true) : k = k' := by cases k <;> cases k' <;> first | rfl | cases h
theorem ZfE : ∀ (z x y : List Chunk) (K : Bool -> Prop), Zzt z x y K -> ∃ q l, K q /\ Ze7 z = some l /\ ∀ ρ, Znm l (Zab ρ x) /\ Znm l (Zab ρ y) /\ (q = true ↔ Zab ρ x = Zab ρ y)
  | [], x, y, K, h => by
    cases x <;> cases y <;> simp only [Zzt] at h
    exact ⟨true, [], h, rfl, fun ρ => ⟨trivial, trivial, by simp⟩⟩
  | c :: z, [], y, K, h => by cases y <;> simp only [Zzt] at h
  | c :: z, a :: x, [], K, h => by simp only [Zzt] at h
  | c :: z, a :: x, b :: y, K, h => by
    simp only [Zzt] at h
    split at h
    · rename_i k _ k1 i k2 j
      obtain ⟨hk, h'⟩ := Zai h
      clear h
      rw [Bool.and_eq_true] at hk
      obtain rfl := ZlJ hk.1
      obtain rfl := ZlJ hk.2
      obtain ⟨q, l, hK, hl, hr⟩ := ZfE z x y _ h'
      refine ⟨_, some k2 :: l, hK, by simp only [Ze7, hl, Option.map_some], fun ρ => ?_⟩
      obtain ⟨r1, r2, r3⟩ := hr ρ
      simp only [Zab, Chunk.conc, SVal.conc, List.singleton_append]
      refine ⟨⟨⟨_, rfl⟩, r1⟩, ⟨⟨_, rfl⟩, r2⟩, ?_⟩
      rw [Bool.and_eq_true, r3]; simp
    · rename_i i j
      obtain ⟨q, l, hK, hl, hr⟩ := ZfE z x y _ h
      refine ⟨_, none :: l, hK, by simp only [Ze7, hl, Option.map_some], fun ρ => ?_⟩
      obtain ⟨r1, r2, r3⟩ := hr ρ
      simp only [Zab, Chunk.conc, SVal.conc, List.singleton_append]
      refine ⟨⟨⟨_, rfl⟩, r1⟩, ⟨⟨_, rfl⟩, r2⟩, ?_⟩
      rw [Bool.and_eq_true, r3]; simp
    · rename_i k n _ k1 n1 xs k2 n2 ys
      obtain ⟨hk, h1, h2, h'⟩ := Zai h
      clear h
      simp only [Bool.and_eq_true] at hk
      obtain rfl := ZlJ hk.1.1.1
      obtain rfl := ZlJ hk.1.1.2
      obtain rfl := Zaq hk.1.2
      obtain rfl := Zaq hk.2
      obtain ⟨q, l, hK, hl, hr⟩ := ZfE z x y _ h'
      refine ⟨_, List.replicate n2 (some k2) ++ l, hK, by simp only [Ze7, hl, Option.map_some], fun ρ => ?_⟩
      obtain ⟨r1, r2, r3⟩ := hr ρ
      simp only [Zab, Chunk.conc]
      have hal : ∀ (n : Nat) (zs : List Int), Znm (List.replicate n (some k2)) (Zap k2 n zs) := fun n zs => by
        unfold Zap
        rw [List.range_eq_range']
        generalize 0 = s
        induction n generalizing s with
        | zero => trivial
        | succ n ih => rw [List.range'_succ, List.map_cons, List.replicate_succ]; exact ⟨⟨_, rfl⟩, ih _⟩
      refine ⟨Znl (hal _ _) r1, Znl (hal _ _) r2, ?_⟩
      rw [Bool.and_eq_true, r3, beq_iff_eq]
      have happ : Zap k2 n2 xs ++ Zab ρ x = Zap k2 n2 ys ++ Zab ρ y ↔ Zap k2 n2 xs = Zap k2 n2 ys /\ Zab ρ x = Zab ρ y :=
        ⟨fun h => List.append_inj h (by simp [Zac]), fun h => by rw [h.1, h.2]⟩
      rw [happ]
      refine and_congr ?_ Iff.rfl
      constructor
      · intro h; rw [h]
      · intro h
        apply List.ext_getElem (by rw [h1, h2])
        intro i hi hj
        have g1 := Zaw k2 n2 xs i (by rw [<- h1]; exact hi)
        have g2 := Zaw k2 n2 ys i (by rw [<- h2]; exact hj)
        rw [h, g2] at g1
        simp only [Option.some.injEq, Value.int.injEq, true_and] at g1
        rw [List.getD_eq_getElem?_getD, List.getD_eq_getElem?_getD, List.getElem?_eq_getElem hi, List.getElem?_eq_getElem hj] at g1
        exact g1.symm
    · exact h.elim
theorem ZgX {ne : Bool} {z : List Chunk} {x y : Opd} (hf : (AOp.eqA ne z x y).fits P o.op = true) (he : EnvOk ρ H.next nt e a.tmps) (_hr : Rel w0 fp ρ H w) {Γ} (h : ZaV Γ (.eqA ne z x y) e H K) : Looks P a o w0 fp ρ H K := by
  simp only [AOp.fits] at hf
  simp only [ZaV] at h
  split at hf
  · rename_i op t x' y' ty hop
    simp only [Bool.and_eq_true, Bool.not_eq_true'] at hf
    obtain ⟨⟨⟨⟨⟨h0, hx⟩, hy⟩, ha⟩, hg⟩, hk⟩ := hf
    obtain ⟨v, h, hok, h3⟩ := Opd.ev_sound hx he h
    obtain ⟨u, h, hok', h5⟩ := Opd.ev_sound hy he h
    split at h
    · rename_i cs cs'
      obtain ⟨q, l, hK, hl, hr⟩ := ZfE _ _ _ _ h
      unfold Zr3 at hk
      rw [hl] at hk
      split at hk
      · rename_i a' b' ha' hb'
        cases hb'
        have := of_decide_eq_true hk
        subst this
        obtain ⟨r1, r2, r3⟩ := hr ρ
        refine ⟨_, hK, by simp [SVal.ok], fun w hr => ?_⟩
        simp only [SVal.conc] at h3 h5
        obtain ⟨q', hq', hiff⟩ := ZED (P := P) (w := w) (by omega) ha' ha r1 r2
        have : q' = q := by
          rw [Bool.eq_iff_iff, hiff, r3]
        subst this
        unfold ZLS at h0
        split at h0
        · simp [execOp, hop, h3, h5, eqGuard, binOp, hq', hg, SVal.conc]
        · simp [execOp, hop, h3, h5, eqGuard, binOp, hq', hg, SVal.conc]
        · cases h0
      · cases hk
    · exact h.elim
  · cases hf
theorem Zdi {x i : Opd} (hf : (AOp.strIdx x i).fits P o.op = true) (he : EnvOk ρ H.next nt e a.tmps) (_hr : Rel w0 fp ρ H w) {Γ} (h : ZaV Γ (.strIdx x i) e H K) : Looks P a o w0 fp ρ H K := by
  simp only [AOp.fits] at hf
  simp only [ZaV] at h
  split at hf
  · rename_i t x' i' hop
    simp only [Bool.and_eq_true] at hf
    obtain ⟨⟨hx, hi⟩, ht⟩ := hf
    obtain ⟨v, h', hok, h3⟩ := Opd.ev_sound hx he h
    clear h
    obtain ⟨u, h, hok', h5⟩ := Opd.ev_sound hi he h'
    clear h'
    unfold ZN9 at ht
    split at ht
    · rename_i hu
      split at h
      · rename_i s k n
        obtain ⟨h1, h2, hK⟩ := h
        refine ⟨_, hK, by simp [SVal.ok], fun w hr => ?_⟩
        simp only [SVal.conc] at h3 h5
        have hlt : n.toNat < s.size := by omega
        have hlt' : n.toNat < s.data.size := hlt
        have hget : (s.data.toList.getD n.toNat 0) = s[n.toNat] := by
          simp only [List.getD_eq_getElem?_getD, Array.getElem?_toList, Array.getElem?_eq_getElem hlt', Option.getD_some]; rfl
        rw [hget]
        simp [execOp, hop, h3, h5, Instr.index, asIntOf, run_underlying hu, h1, hlt, SVal.conc]
      · exact h.elim
    · cases ht
  · cases hf
theorem Zfr {lo st len : Nat} {K : Chunk -> Prop} : ∀ (cs : List Chunk) (off : Nat), ZzH lo st len K cs off -> ∃ k xs, K (.ints k len xs) /\ st = 1 /\ off + lo + len <= Zam cs /\
    ∀ ρ, Zap k len xs = ((Zab ρ cs).drop (off + lo)).take len
  | [], _, h => h.elim
  | .one v :: r, off, h => by
    simp only [ZzH] at h
    cases hb : Nat.beq off 0 with
    | true => rw [hb] at h; exact h.elim
    | false =>
      rw [hb] at h
      obtain ⟨k, xs, h1, h2, h3, h4⟩ := Zfr r _ h
      have := Zbc hb
      refine ⟨k, xs, h1, h2, by simp [Zam, Chunk.len]; omega, fun ρ => ?_⟩
      rw [h4 ρ]
      simp only [Zab, Chunk.conc]
      rw [show off + lo = (off - 1 + lo) + 1 by omega]
      simp
  | .ints k n xs :: r, off, h => by
    simp only [ZzH] at h
    cases hb : Nat.beq off 0 with
    | true =>
      rw [hb] at h
      obtain ⟨h0, h1, h2⟩ := Zai h
      obtain rfl := Zaq h0
      have := beq_zero.1 hb
      subst this
      refine ⟨k, _, h2, rfl, by simp [Zam, Chunk.len]; omega, fun ρ => ?_⟩
      simp only [Zab, Chunk.conc, Nat.zero_add]
      rw [Zdt _ _ _ _ _ h1, List.drop_append_of_le_length (by rw [Zac]; omega),
          List.take_append_of_le_length (by rw [List.length_drop, Zac]; omega)]
    | false =>
      rw [hb] at h
      obtain ⟨hle, h⟩ := Zai h
      have hle := Nat.le_of_ble_eq_true hle
      obtain ⟨k', xs', h1, h2, h3, h4⟩ := Zfr r _ h
      refine ⟨k', xs', h1, h2, by simp [Zam, Chunk.len]; omega, fun ρ => ?_⟩
      rw [h4 ρ]
      simp only [Zab, Chunk.conc]
      rw [List.drop_append, List.drop_of_length_le (l := Zap k n xs) (by rw [Zac]; omega), List.nil_append, Zac]
      congr 2; omega
  | .rows _ _ _ :: _, _, h => by simp only [ZzH] at h
theorem Zf2 {lo len n' : Nat} {k' : IntKind} {ys : List Int} {ρ : Rho} {n : Nat} : ∀ (cs : List Chunk) (K : List Chunk -> Prop) (off : Nat), ZoB lo len k' n' ys K cs off -> ZaE ρ n cs ->
    ∃ cs', K cs' /\ ZaE ρ n cs' /\ Zam cs' = Zam cs /\ n' = len /\ off + lo + len <= Zam cs /\
      Zab ρ cs' = (Zab ρ cs).take (off + lo) ++ Zap k' n' ys ++ (Zab ρ cs).drop (off + lo + len)
  | [], _, _, h, _ => h.elim
  | .one v :: r, K, off, h, hok => by
    simp only [ZaE] at hok
    simp only [ZoB] at h
    cases hb : Nat.beq off 0 with
    | true => rw [hb] at h; exact h.elim
    | false =>
      rw [hb] at h
      obtain ⟨cs', h1, h2, h3, h4, h5, h6⟩ := Zf2 r _ _ h hok.2
      have := Zbc hb
      refine ⟨_, h1, by simp only [ZaE]; exact ⟨hok.1, h2⟩, by simp [Zam, h3], h4, by simp [Zam, Chunk.len]; omega, ?_⟩
      simp only [Zab, Chunk.conc, h6]
      rw [show off + lo = (off - 1 + lo) + 1 by omega, show off - 1 + lo + 1 + len = (off - 1 + lo + len) + 1 by omega]
      simp
  | .ints k m xs :: r, K, off, h, hok => by
    simp only [ZaE] at hok
    simp only [ZoB] at h
    cases hb : Nat.beq off 0 with
    | true =>
      rw [hb] at h
      have := beq_zero.1 hb
      subst this
      simp only [cond_true] at h
      obtain ⟨h0, rfl, h1, h2, h3, hK⟩ := Zai h
      obtain rfl := Zb6 h0
      refine ⟨_, hK, by simp only [ZaE, Chunk.ok]; exact ⟨trivial, hok.2⟩, by simp [Zam, Chunk.len], rfl, by simp [Zam, Chunk.len]; omega, ?_⟩
      simp only [Zab, Chunk.conc, Nat.zero_add]
      rw [Ze8 _ _ _ _ _ _ h1 h2 h3, List.take_append_of_le_length (by rw [Zac]; omega), List.drop_append_of_le_length (by rw [Zac]; omega)]
      simp
    | false =>
      rw [hb] at h
      obtain ⟨hle, h⟩ := Zai h
      have hle := Nat.le_of_ble_eq_true hle
      obtain ⟨cs', h1, h2, h3, h4, h5, h6⟩ := Zf2 r _ _ h hok.2
      refine ⟨_, h1, by simp only [ZaE]; exact ⟨hok.1, h2⟩, by simp [Zam, h3], h4, by simp [Zam, Chunk.len]; omega, ?_⟩
      simp only [Zab, Chunk.conc, h6]
      rw [List.take_append, List.drop_append, Zac, List.take_of_length_le (l := Zap k m xs) (by rw [Zac]; omega), List.drop_of_length_le (l := Zap k m xs) (by rw [Zac]; omega),
        show off + lo - m = off - m + lo by omega, show off + lo + len - m = off - m + lo + len by omega]
      simp
  | .rows _ _ _ :: _, _, _, h, _ => by simp only [ZoB] at h
theorem Rel.move {id : Nat} {en : Ent} (h : Rel w0 fp ρ (H.set id en) w) (_hid : id < H.next) : Rel w0 fp (ρ.up H.next (ρ id)) ((H.drop id).push en) w := by
  have hlt := Rho.up_lt (ρ := ρ) (id := H.next) (p := ρ id)
  have hnx : (H.set id en).next = H.next := rfl
  have hsame : ∀ n, n = H.next -> (ρ.up H.next (ρ id)) n = ρ id := fun n hn => by subst hn; exact Rho.up_same
  have hen : (H.set id en).find id = some en := by rw [Heap.find_set, if_pos rfl]
  have hfind : ∀ n e', ((H.drop id).push en).find n = some e' -> (n = H.next /\ e' = en) ∨ (n < H.next /\ n ≠ id /\ (H.set id en).find n = some e') := fun n e' he => by
    rw [Heap.find_push] at he
    split at he
    · rename_i hn; cases he; exact .inl ⟨hn.symm, rfl⟩
    · rename_i hn
      rw [Heap.find_drop] at he
      split at he
      · cases he
      · rename_i hn'
        have hf : (H.set id en).find n = some e' := by rw [Heap.find_set, if_neg hn']; exact he
        exact .inr ⟨h.next _ _ hf, fun h => hn' h.symm, hf⟩
  have hw : ∀ n e' b o, n = H.next -> (Win (ρ.up H.next (ρ id)) n e' b o ↔ Win ρ id e' b o) := fun n e' b o hn => by
    unfold Win; rw [hsame n hn]
  have hw' : ∀ n e' b o, n < H.next -> (Win (ρ.up H.next (ρ id)) n e' b o ↔ Win ρ n e' b o) := fun n e' b o hn => by
    unfold Win; rw [hlt n hn]
  refine ⟨h.frame, fun n e' he => ?_, fun n e' he => ?_, fun n e' he hwr b o hwn => ?_, fun n m e1 e2 hne he1 he2 hwr b o hw1 hw2 => ?_, fun n e' he => ?_, fun n e' he => ?_, fun n e' he g1 g2 b base hb => ?_, ?_, ?_⟩
  · rcases hfind n e' he with ⟨hn, rfl⟩ | ⟨hn, hn', hf⟩
    · have hE := h.ents _ _ hen
      have hcc := Zba hlt _ (h.oks _ _ hen)
      refine ⟨fun hnn => hE.nil (by rw [<- hsame n hn]; exact hnn), fun b base hb i v hv => ?_, fun hwr b base hb i hi => ?_, fun g1 g2 b base hb => hE.mp g1 g2 b base (by rw [<- hsame n hn]; exact hb)⟩
      · rw [hsame n hn] at hb; rw [hcc] at hv; exact hE.cells b base hb i v hv
      · rw [hsame n hn] at hb; exact hE.own hwr b base hb i hi
    · exact (h.ents _ _ hf).congr hlt hn (h.oks _ _ hf) (fun _ _ _ => rfl) (fun _ _ _ _ => rfl) (fun _ _ _ h => h)
  · rcases hfind n e' he with ⟨hn, rfl⟩ | ⟨hn, hn', hf⟩
    · exact Za8 hlt (by simp [Heap.push, Heap.drop]) _ (h.oks _ _ hen)
    · exact Za8 hlt (by simp [Heap.push, Heap.drop]) _ (h.oks _ _ hf)
  · rcases hfind n e' he with ⟨hn, rfl⟩ | ⟨hn, hn', hf⟩
    · exact h.own _ _ hen hwr b o ((hw _ _ _ _ hn).1 hwn)
    · exact h.own _ _ hf hwr b o ((hw' _ _ _ _ hn).1 hwn)
  · rcases hfind n e1 he1 with ⟨hn, rfl⟩ | ⟨hn, hn', hf⟩
    · rcases hfind m e2 he2 with ⟨hm, rfl⟩ | ⟨hm, hm', hf2⟩
      · exact hne (hn.trans hm.symm)
      · exact h.apart _ _ _ _ (Ne.symm hm') hen hf2 hwr b o ((hw _ _ _ _ hn).1 hw1) ((hw' _ _ _ _ hm).1 hw2)
    · rcases hfind m e2 he2 with ⟨hm, rfl⟩ | ⟨hm, hm', hf2⟩
      · exact h.apart _ _ _ _ hn' hf hen hwr b o ((hw' _ _ _ _ hn).1 hw1) ((hw _ _ _ _ hm).1 hw2)
      · exact h.apart _ _ _ _ hne hf hf2 hwr b o ((hw' _ _ _ _ hn).1 hw1) ((hw' _ _ _ _ hm).1 hw2)
  · rcases hfind n e' he with ⟨hn, rfl⟩ | ⟨hn, hn', hf⟩
    · subst hn; simp [Heap.push, Heap.drop]
    · simp [Heap.push, Heap.drop]; omega
  · rcases hfind n e' he with ⟨hn, rfl⟩ | ⟨hn, hn', hf⟩
    · exact h.ro _ _ hen
    · exact h.ro _ _ hf
  · rcases hfind n e' he with ⟨hn, rfl⟩ | ⟨hn, hn', hf⟩
    · exact h.mnew _ _ hen g1 g2 b base (by rw [<- hsame n hn]; exact hb)
    · exact h.mnew _ _ hf g1 g2 b base (by rw [<- hlt n hn]; exact hb)
  · refine h.ab.ren (fun n => if n = H.next then id else n) (fun n m e1 e2 he1 he2 hne => ?_) fun n e' he => ?_
    · rcases hfind n e1 he1 with ⟨hn, _⟩ | ⟨hn, hn', _⟩ <;> rcases hfind m e2 he2 with ⟨hm, _⟩ | ⟨hm, hm', _⟩
      · omega
      · rw [if_pos hn, if_neg (by omega)]; exact Ne.symm hm'
      · rw [if_neg (by omega), if_pos hm]; exact hn'
      · rw [if_neg (by omega), if_neg (by omega)]; exact hne
    · rcases hfind n e' he with ⟨hn, rfl⟩ | ⟨hn, hn', hf⟩
      · rw [if_pos hn]
        exact ⟨_, hen, fun h1 h2 => ⟨h1, h2, hsame n hn, fun _ h => h⟩, fun x o h => (hw _ _ _ _ hn).1 h⟩
      · rw [if_neg (by omega)]
        exact ⟨_, hf, fun h1 h2 => ⟨h1, h2, hlt n hn, fun _ h => h⟩, fun x o h => (hw' _ _ _ _ hn).1 h⟩
  · refine h.hid.to (fun n e' he => ?_) (fun x o v _ ⟨n, e', he, hwr, hwn⟩ => ?_) fun _ _ _ hc _ => hc
    · rcases hfind n e' he with ⟨hn, rfl⟩ | ⟨hn, hn', hf⟩
      · exact .inr ⟨id, _, hen, fun h => h, fun _ => rfl⟩
      · exact .inr ⟨n, _, hf, fun h => h, fun _ => rfl⟩
    · rcases hfind n e' he with ⟨hn, rfl⟩ | ⟨hn, hn', hf⟩
      · exact ⟨id, _, hen, hwr, (hw _ _ _ _ hn).1 hwn⟩
      · exact ⟨n, _, hf, hwr, (hw' _ _ _ _ hn).1 hwn⟩
theorem Rel.pushE (h : Rel w0 fp ρ H w) (p : Option (Nat × Nat)) {cs : List Chunk} (hok : ZaE ρ H.next cs) (h0 : Zam cs = 0) : Rel w0 fp (ρ.up H.next p) (H.push ⟨true, cs, 0⟩) w := by
  have hlt := Rho.up_lt (ρ := ρ) (id := H.next) (p := p)
  have hfind : ∀ n e', (H.push ⟨true, cs, 0⟩).find n = some e' -> (n = H.next /\ e' = ⟨true, cs, 0⟩) ∨ (n < H.next /\ H.find n = some e') := fun n e' he => by
    rw [Heap.find_push] at he
    split at he
    · rename_i hn; cases he; exact .inl ⟨hn.symm, rfl⟩
    · exact .inr ⟨h.next _ _ he, he⟩
  have hw0 : ∀ ρ' n b o, ¬ Win ρ' n ⟨true, cs, 0⟩ b o := fun ρ' n b o ⟨base, _, h1, h2⟩ => by simp only [Ent.size, h0] at h2; omega
  have hw' : ∀ n e' b o, n < H.next -> (Win (ρ.up H.next p) n e' b o ↔ Win ρ n e' b o) := fun n e' b o hn => by
    unfold Win; rw [hlt n hn]
  refine ⟨h.frame, fun n e' he => ?_, fun n e' he => ?_, fun n e' he hwr b o hwn => ?_, fun n m e1 e2 hne he1 he2 hwr b o hw1 hw2 => ?_, fun n e' he => ?_, fun n e' he => ?_, fun n e' he g1 g2 b base hb => ?_, ?_, ?_⟩
  · rcases hfind n e' he with ⟨hn, rfl⟩ | ⟨hn, hf⟩
    · refine ⟨fun _ => by simp [Ent.size, h0], fun b base hb i v hv => ?_, fun _ b base hb i hi => ?_, fun g => by cases g⟩
      · have := (List.getElem?_eq_some_iff.1 hv).1
        rw [Zan] at this; change i < Zam cs at this; omega
      · change i < Zam cs + 0 at hi; omega
    · exact (h.ents _ _ hf).congr hlt hn (h.oks _ _ hf) (fun _ _ _ => rfl) (fun _ _ _ _ => rfl) (fun _ _ _ h => h)
  · rcases hfind n e' he with ⟨hn, rfl⟩ | ⟨hn, hf⟩
    · exact Za8 hlt (by simp [Heap.push]) _ hok
    · exact Za8 hlt (by simp [Heap.push]) _ (h.oks _ _ hf)
  · rcases hfind n e' he with ⟨hn, rfl⟩ | ⟨hn, hf⟩
    · exact absurd hwn (hw0 _ _ _ _)
    · exact h.own _ _ hf hwr b o ((hw' _ _ _ _ hn).1 hwn)
  · rcases hfind n e1 he1 with ⟨hn, rfl⟩ | ⟨hn, hf⟩
    · exact hw0 _ _ _ _ hw1
    · rcases hfind m e2 he2 with ⟨hm, rfl⟩ | ⟨hm, hf2⟩
      · exact hw0 _ _ _ _ hw2
      · exact h.apart _ _ _ _ hne hf hf2 hwr b o ((hw' _ _ _ _ hn).1 hw1) ((hw' _ _ _ _ hm).1 hw2)
  · rcases hfind n e' he with ⟨hn, rfl⟩ | ⟨hn, hf⟩
    · subst hn; simp [Heap.push]
    · simp [Heap.push]; omega
  · rcases hfind n e' he with ⟨hn, rfl⟩ | ⟨hn, hf⟩
    · exact .inl rfl
    · exact h.ro _ _ hf
  · rcases hfind n e' he with ⟨hn, rfl⟩ | ⟨hn, hf⟩
    · cases g1
    · exact h.mnew _ _ hf g1 g2 b base (by rw [<- hlt n hn]; exact hb)
  · refine h.ab.to (Nat.le_refl _) (fun n e' he => hlt n (h.next _ _ he)) (fun n e' he h1 _ => ?_) (fun n e' x o he hw => ?_) fun _ _ _ => rfl
    · rcases hfind n e' he with ⟨hn, rfl⟩ | ⟨hn, hf⟩
      · cases h1
      · exact hf
    · rcases hfind n e' he with ⟨hn, rfl⟩ | ⟨hn, hf⟩
      · exact absurd hw (hw0 _ _ _ _)
      · exact .inl ⟨n, _, hf, (hw' _ _ _ _ hn).1 hw, .inl rfl⟩
  · refine h.hid.to (fun n e' he => ?_) (fun x o v _ ⟨n, e', he, hwr, hwn⟩ => ?_) fun _ _ _ hc _ => hc
    · rcases hfind n e' he with ⟨hn, rfl⟩ | ⟨hn, hf⟩
      · exact .inl h0
      · exact .inr ⟨n, _, hf, fun h => h, fun _ => rfl⟩
    · rcases hfind n e' he with ⟨hn, rfl⟩ | ⟨hn, hf⟩
      · exact absurd hwn (hw0 _ _ _ _)
      · exact ⟨n, _, hf, hwr, (hw' _ _ _ _ hn).1 hwn⟩
theorem Rel.sameH {id : Nat} {en : Ent} {cs' : List Chunk} (h : Rel w0 fp ρ H w) (he : H.find id = some en) (hcc : Zab ρ cs' = Zab ρ en.cs) (hok : ZaE ρ H.next cs') (hwt : en.wr = true) (hh : ∀ n hs f, Za2 cs' = some (n, hs, f) -> ∀ i, i < n -> HidRow w (fun x o => Wr ρ H x o ∨ en.wr = true /\ x < w0.heap.size /\ ¬ fp x o) (hs.getD i (none, 0, 0)) (f i)) : Rel w0 fp ρ (H.set id ⟨en.wr, cs', en.ex⟩) w := by
  have hl : Zam cs' = Zam en.cs := by rw [<- Zan ρ, hcc, Zan]
  have hfind : ∀ n e', (H.set id ⟨en.wr, cs', en.ex⟩).find n = some e' -> ∃ e0, H.find n = some e0 /\ e'.wr = e0.wr /\ e'.ex = e0.ex /\ Zam e'.cs = Zam e0.cs /\ Zab ρ e'.cs = Zab ρ e0.cs /\ ZaE ρ H.next e'.cs /\ (e'.wr = false -> e' = e0) /\ (e' = e0 ∨ n = id /\ e' = ⟨en.wr, cs', en.ex⟩ /\ e0 = en) := fun n e' hn => by
    rw [Heap.find_set] at hn
    split at hn
    · rename_i hi; subst hi; cases hn; exact ⟨en, he, rfl, rfl, hl, hcc, hok, fun g => by simp [hwt] at g, .inr ⟨rfl, rfl, rfl⟩⟩
    · exact ⟨e', hn, rfl, rfl, rfl, rfl, h.oks _ _ hn, fun _ => rfl, .inl rfl⟩
  have hw : ∀ n e' e0 b o, e'.ex = e0.ex -> Zam e'.cs = Zam e0.cs -> (Win ρ n e' b o ↔ Win ρ n e0 b o) := fun n e' e0 b o h1 h2 => by simp only [Win, Ent.size, h1, h2]
  refine ⟨h.frame, fun n e' hn => ?_, fun n e' hn => ?_, fun n e' hn hwr b o hwn => ?_, fun n m e1 e2 hne he1 he2 hwr b o hw1 hw2 => ?_, fun n e' hn => ?_, fun n e' hn => ?_, fun n e' hn q1 q2 b base hb => ?_, ?_, ?_⟩
  · obtain ⟨e0, g1, g2, g3, g4, g5, g6, g7, g8⟩ := hfind n e' hn
    have hE := h.ents _ _ g1
    refine ⟨fun hnn => by have := hE.nil hnn; simp only [Ent.size] at *; omega, fun b base hb i v hv => hE.cells b base hb i v (g5 ▸ hv), fun hwr b base hb i hi => hE.own (g2 ▸ hwr) b base hb i (by simp only [Ent.size] at *; omega), fun q1 q2 b base hb => by have q := g7 q1; subst q; exact hE.mp q1 q2 b base hb⟩
  · obtain ⟨e0, g1, g2, g3, g4, g5, g6, g7, g8⟩ := hfind n e' hn; exact g6
  · obtain ⟨e0, g1, g2, g3, g4, g5, g6, g7, g8⟩ := hfind n e' hn; exact h.own _ _ g1 (g2 ▸ hwr) b o ((hw _ _ _ _ _ g3 g4).1 hwn)
  · obtain ⟨e0, g1, g2, g3, g4, g5, g6, g7, g8⟩ := hfind n e1 he1
    obtain ⟨e3, k1, k2, k3, k4, k5, k6, k7, k8⟩ := hfind m e2 he2
    exact h.apart _ _ _ _ hne g1 k1 (g2 ▸ hwr) b o ((hw _ _ _ _ _ g3 g4).1 hw1) ((hw _ _ _ _ _ k3 k4).1 hw2)
  · obtain ⟨e0, g1, _⟩ := hfind n e' hn; exact h.next _ _ g1
  · obtain ⟨e0, g1, g2, g3, g4, g5, g6, g7, g8⟩ := hfind n e' hn
    have := h.ro _ _ g1
    rw [g2, g3, g4]; exact this
  · obtain ⟨e0, g1, g2, g3, g4, g5, g6, g7, g8⟩ := hfind n e' hn
    have := g7 q1; subst this
    exact h.mnew _ _ g1 q1 q2 b base hb
  · refine h.ab.ren _root_.id (fun _ _ _ _ _ _ hne => hne) fun n e' hn => ?_
    obtain ⟨e0, g1, g2, g3, g4, g5, g6, g7, g8⟩ := hfind n e' hn
    exact ⟨e0, g1, fun q1 q2 => by have := g7 q1; subst this; exact ⟨q1, q2, rfl, fun _ h => h⟩, fun x o h => (hw _ _ _ _ _ g3 g4).1 h⟩
  · intro n e' m hs f hn hf i hi
    obtain ⟨e0, g1, g2, g3, g4, g5, g6, g7, g8⟩ := hfind n e' hn
    have hWr : ∀ x o, Wr ρ (H.set id ⟨en.wr, cs', en.ex⟩) x o -> Wr ρ H x o := fun x o ⟨n, e', hn, hwr, hwn⟩ => by
      obtain ⟨e0, g1, g2, g3, g4, g5, g6, g7, g8⟩ := hfind n e' hn
      exact ⟨n, e0, g1, g2 ▸ hwr, (hw _ _ _ _ _ g3 g4).1 hwn⟩
    rcases g8 with rfl | ⟨_, rfl, _⟩
    · exact (h.hid n e' m hs f g1 hf i hi).to (fun x o v _ hx => hx.imp_left (hWr x o)) fun _ _ _ hc _ => hc
    · exact (hh m hs f hf i hi).to (fun x o v _ hx => hx.imp_left (hWr x o)) fun _ _ _ hc _ => hc
theorem Rel.same {id : Nat} {en : Ent} {cs' : List Chunk} (h : Rel w0 fp ρ H w) (he : H.find id = some en) (hcc : Zab ρ cs' = Zab ρ en.cs) (hok : ZaE ρ H.next cs') (hwt : en.wr = true) (hh : Za2 cs' = none) : Rel w0 fp ρ (H.set id ⟨en.wr, cs', en.ex⟩) w :=
  h.sameH he hcc hok hwt fun _ _ _ hf => by rw [hh] at hf; cases hf
theorem Rel.ext0 {H' : Heap} (h : Rel w0 fp ρ H w) (hf : ∀ i, H'.find i = H.find i) (hn : H'.next = H.next) : Rel w0 fp ρ H' w := by
  have hk : ∀ i e, H'.find i = some e -> H.find i = some e := fun i e he => by rw [<- hf i]; exact he
  exact ⟨h.frame, fun i e he => h.ents i e (hk i e he), fun i e he => by rw [hn]; exact h.oks i e (hk i e he), fun i e he => h.own i e (hk i e he),
    fun i j e e' hne he he' => h.apart i j e e' hne (hk i e he) (hk j e' he'), fun i e he => by rw [hn]; exact h.next i e (hk i e he), fun i e he => h.ro i e (hk i e he), fun i e he => h.mnew i e (hk i e he), h.ab.less hk, h.hid.less hk⟩
theorem Zjk {t : TypeId} {k : IntKind} (h : ZrT P t k = true) : ∃ el i z, P.underlying t = some (.slice el) /\ P.info? el = some i /\ i.size = 1 /\ i.bytes <= 8 /\ i.zero = some z /\ z.cells = #[.int k 0] := by
  unfold ZrT at h
  split at h
  · rename_i el hu
    split at h
    · rename_i i hi
      rw [Bool.and_eq_true, Bool.and_eq_true] at h
      unfold ZcX at h
      rw [hi] at h
      simp only at h
      split at h
      · rename_i z hz
        rw [Bool.and_eq_true] at h
        refine ⟨el, i, z, hu, hi, Nat.eq_of_beq_eq_true h.1.1, Nat.le_of_ble_eq_true h.1.2, hz, ?_⟩
        have := ZcZ h.2.2
        rw [<- Array.toArray_toList (xs := z.cells), <- this]; simp [Zab, Chunk.conc, SVal.conc]
      · cases h.2
    · cases h
  · cases h
theorem Zgy {p q : TypeId -> Bool} {ts : List TypeId} (h : two P p q ts = true) : ∃ a b, ts = [a, b] /\ p a = true /\ q b = true := by
  unfold two at h
  split at h
  · rw [Bool.and_eq_true] at h; exact ⟨_, _, rfl, h.1, h.2⟩
  · cases h
theorem ZjG {t : TypeId} (h : Zzi P t = true) : ∃ e, P.underlying t = some (.slice e) := by
  unfold Zzi at h
  split at h
  · rename_i e hu; exact ⟨e, hu⟩
  · cases h
theorem ZsX {k : IntKind} {y : SVal} {K : Nat -> List Int -> Prop} (hok : y.ok ρ H.next) (h : ZL3 H k y K) : ∃ n ys, K n ys /\ (Zap k n ys).length = n /\
    ((y.conc ρ = .slice none 0 0 /\ n = 0) ∨ ∃ b off c, y.conc ρ = .slice (some ⟨b, off, none⟩) n c /\ ∀ w, Rel w0 fp ρ H w -> ∀ j v, (Zap k n ys)[j]? = some v -> w.cell? ⟨b, off + j, none⟩ = some v) := by
  unfold ZL3 at h
  split at h
  · exact ⟨0, [], h, Zac _ _ _, .inl ⟨rfl, rfl⟩⟩
  · rename_i ad n c
    simp only [SVal.ok] at hok
    split at h
    · rename_i en hen
      obtain ⟨k', xs, h1, h2, h3, h4⟩ := Zfr _ _ h
      obtain ⟨h5, h6⟩ := Zai h1
      obtain rfl := Zb6 h5
      refine ⟨n, xs, h6, Zac _ _ _, ?_⟩
      cases hρ : ρ ad.id with
      | none =>
        have := hok.2 hρ
        left
        exact ⟨by simp [SVal.conc, SAddr.conc, hρ, this.1, this.2], this.1⟩
      | some p =>
        obtain ⟨b, base⟩ := p
        right
        refine ⟨b, base + (ad.off + ad.idx * ad.st), c, by simp [SVal.conc, SAddr.conc, hρ], fun w hr j v hj => ?_⟩
        rw [h4 ρ] at hj
        have := ZcB rfl (by rw [Zan]; omega) j v hj
        rw [h2, Nat.mul_one, Nat.add_assoc]
        exact (hr.ents _ _ hen).cells b base hρ _ _ this
    · exact h.elim
  · exact h.elim
theorem Zio {k : IntKind} {n : Nat} {ys : List Int} : ∀ u ∈ Zap k n ys, u.oneCell' = true := Zd8
theorem ZFr {k : IntKind} {y : SVal} {n : Nat} {ys : List Int} {t : TypeId} (ht : Zzi P t = true) (h : (y.conc ρ = .slice none 0 0 /\ n = 0) ∨ ∃ b off c, y.conc ρ = .slice (some ⟨b, off, none⟩) n c /\ ∀ w, Rel w0 fp ρ H w -> ∀ j v, (Zap k n ys)[j]? = some v -> w.cell? ⟨b, off + j, none⟩ = some v)
    (hr : Rel w0 fp ρ H w) : Src P 1 t (y.conc ρ) n (Zap k n ys) w := by
  obtain ⟨e', he'⟩ := ZjG ht
  rcases h with ⟨h1, rfl⟩ | ⟨b, off, c, h1, h2⟩
  · rw [h1]; exact Src.ofNil w he' 0
  · rw [h1]; exact Src.ofSlice w he' _ n c _ (by rw [Zac, Nat.mul_one]) (fun j v hj => by rw [ZbA]; exact h2 w hr j v hj) Zio
theorem Ze9 {k : IntKind} {m n : Nat} {xs ys : List Int} (h : xs.length = m) : Zap k (m + n) (xs ++ ys) = Zap k m xs ++ Zap k n ys := by
  apply List.ext_getElem?
  intro i
  rcases Nat.lt_or_ge i m with hi | hi
  · rw [Zaw _ _ _ _ (by omega), List.getElem?_append_left (by rw [Zac]; exact hi), Zaw _ _ _ _ hi]
    simp [List.getD_eq_getElem?_getD, List.getElem?_append_left (show i < xs.length by omega)]
  · rw [List.getElem?_append_right (by rw [Zac]; exact hi), Zac]
    rcases Nat.lt_or_ge i (m + n) with hi' | hi'
    · rw [Zaw _ _ _ _ hi', Zaw _ _ _ _ (by omega)]
      simp [List.getD_eq_getElem?_getD, List.getElem?_append_right (show xs.length <= i by omega), h]
    · rw [List.getElem?_eq_none (by rw [Zac]; exact hi'), List.getElem?_eq_none (by rw [Zac]; omega)]
theorem ZkT {t tx ty el : TypeId} {i : TypeInfo} {z : Value} {k : IntKind} {base : Option Addr} {len cap n : Nat} {xs ys : List Int} {x : Value} (hu : P.underlying t = some (.slice el)) (hi : P.info? el = some i) (hs1 : i.size = 1) (hb8 : i.bytes <= 8) (hz : i.zero = some z) (hzc : z.cells = #[.int k 0])
    (hr : Rel w0 fp ρ H w) (hxl : xs.length = len) (hold : (Builtin.firstCells 1 len (.slice base len cap)).run P w.drew = .ok (Zap k len xs).toArray w.drew) (hsrc : Src P 1 tx x n (Zap k n ys) w)
    (hg : cap < len + n) (hbd : len + n <= 17592186044416) (hK : ∀ c, len + n <= c -> K (.slice ⟨H.next, 0, 0, 1⟩ (len + n) c) (H.push ⟨true, [.ints k (len + n) (xs ++ ys)], c - (len + n)⟩)) :
    ∃ v w', (Builtin.append_ #[t, tx] ty #[.slice base len cap, x]).run P w = .ok v w' /\ OpPost w0 fp ρ H K v w' := by
  have hbytes : (len + n) * i.bytes <= 140737488355328 := Nat.le_trans (Nat.mul_le_mul_left _ hb8) (by omega)
  have hrun := run_append_grow_src (P := P) w t tx ty el i z hu hi hz base len cap (Zap k len xs) (by rw [hs1]; exact hold) x n (Zap k n ys) (by rw [hs1]; exact hsrc) hg (by omega) (growslice_fits hg hbytes)
  have hge := grownCap_ge w (len + n) cap el
  refine ⟨_, _, hrun, ρ.up H.next (some (w.heap.size, 0)), _, _, hK _ hge, ?_, ?_, Rho.up_lt, by simp [Heap.push],
    (hr.drew (w.drawn + 1)).alloc (t := el) (by simp [ZaE, Chunk.ok]) ⟨(Builtin.zeroCells z.cells (grownCap w (len + n) cap el - (len + n))).toList, ?_, ?_⟩⟩
  · simp [SVal.conc, SAddr.conc, Rho.up_same]
  · simp [SVal.ok, Heap.push, Rho.up_same]
  · simp [Zab, Chunk.conc, Ze9 hxl]
  · rw [Array.length_toList, size_zeroCells, hzc]; simp
theorem ZcQ {e : Env} {x y : Opd} {xs : Array Operand} {K : SVal -> SVal -> Prop} {ρ : Rho} {n nt : Nat} {a : Act} (hf : ZfQ [x, y] xs.toList = true) (he : EnvOk ρ n nt e a.tmps)
    (h : x.ev e fun u => y.ev e fun v => K u v) : ∃ u v, K u v /\ u.ok ρ n /\ v.ok ρ n /\ xs.map a.eval = #[u.conc ρ, v.conc ρ] := by
  obtain ⟨vs, h1, h2, h3⟩ := Zfg (K := fun vs => ∃ u v, vs = [u, v] /\ K u v) he hf (by
    simp only [evL]; exact Opd.ev_mono (fun u hu => Opd.ev_mono (fun v hv => ⟨u, v, rfl, hv⟩) hu) h)
  obtain ⟨u, v, rfl, hK⟩ := h1
  simp only [okL] at h2
  exact ⟨u, v, hK, h2.1, h2.2.1, by rw [Zfy h3]; simp [ZaH]⟩
theorem Zox {k : IntKind} {x y : Opd} (hf : (AOp.append k x y).fits P o.op = true) (he : EnvOk ρ H.next nt e a.tmps) (hr : Rel w0 fp ρ H w) {Γ} (h : ZaV Γ (.append k x y) e H K) : Runs P a o w (OpPost w0 fp ρ H K) := by
  simp only [AOp.fits] at hf
  simp only [ZaV] at h
  split at hf
  · rename_i xs ts hop
    rw [Bool.and_eq_true] at hf
    obtain ⟨u, v, h', hok, hok', h3⟩ := ZcQ hf.1 he h
    clear h
    obtain ⟨t, t', hts, ht, ht'⟩ := Zgy hf.2
    obtain ⟨el, i, z, hu, hi, hs1, hb8, hz, hzc⟩ := Zjk ht
    have hta : ts = #[t, t'] := by rw [<- Array.toArray_toList (xs := ts), hts]
    obtain ⟨n, ys, h, hyl, hsrc0⟩ := ZsX (w0 := w0) (fp := fp) hok' h'
    clear h'
    have hsrc := ZFr ht' hsrc0 hr
    have hexec : (execOp a.eval o).run P w = ((Builtin.append_ #[t, t'] o.type #[u.conc ρ, v.conc ρ]).run P w).andThen fun v w' => .ok (.value v) w' := by
      simp [execOp, hop, resolve, invoke, builtin, h3, hta]
    suffices hs : ∃ r w', (Builtin.append_ #[t, t'] o.type #[u.conc ρ, v.conc ρ]).run P w = .ok r w' /\ OpPost w0 fp ρ H K r w' by
      obtain ⟨r, w', h1, h2⟩ := hs
      exact ⟨r, w', .inl (by rw [hexec, h1]; rfl), h2⟩
    -- what is nil
    have hnil : ∀ (H' : Heap), H'.next = H.next -> Rel w0 fp ρ H' w -> u.conc ρ = .slice none 0 0 -> n <= 17592186044416 -> (∀ c, n <= c -> K (.slice ⟨H.next, 0, 0, 1⟩ n c) (H'.push ⟨true, [.ints k n ys], c - n⟩)) ->
        ∃ r w', (Builtin.append_ #[t, t'] o.type #[u.conc ρ, v.conc ρ]).run P w = .ok r w' /\ OpPost w0 fp ρ H K r w' := fun H' hnx hr' hu0 hbd hK => by
      rw [hu0]
      rcases Nat.eq_zero_or_pos n with h0 | hp
      · subst h0
        have hnil : Zap k 0 ys = [] := by simp [Zap]
        rw [hnil] at hsrc
        have hrun := run_append_nothing (P := P) w t t' o.type el i hu hi none 0 0 (Nat.le_refl _) _ (by rw [hs1]; exact hsrc)
        have hp := hr'.pushE none (cs := [.ints k 0 ys]) (by simp [ZaE, Chunk.ok]) (by simp [Zam, Chunk.len])
        rw [hnx] at hp
        have hk0 := hK 0 (Nat.le_refl _)
        refine ⟨_, _, hrun, ρ.up H.next none, _, _, hk0, ?_, ?_, Rho.up_lt, by simp [Heap.push, hnx], by simpa using hp⟩
        · simp [SVal.conc, SAddr.conc, Rho.up_same]
        · simp [SVal.ok, Heap.push, hnx]
      · have := ZkT (P := P) (ty := o.type) (K := K) (H := H') (len := 0) (cap := 0) (xs := []) hu hi hs1 hb8 hz hzc hr' rfl (by simpa [Zap] using run_firstCells_none (P := P) w.drew 1 0 0 0) hsrc (by omega) (by omega) (fun c hc => by
          simpa [hnx] using hK c (by omega))
        obtain ⟨r, w', h1, ρ', sv, H'', g1, g2, g3, g4, g5, g6⟩ := this
        exact ⟨r, w', h1, ρ', sv, H'', g1, g2, g3, fun id hid => g4 id (by rw [hnx]; exact hid), by rw [<- hnx]; exact g5, g6⟩
    split at h
    · exact hnil H rfl hr rfl h.1 h.2
    · rename_i ad len cap
      simp only [SVal.ok] at hok
      split at h
      · rename_i en hen
        obtain ⟨h0, h⟩ := Zai h
        rw [Bool.and_eq_true, Bool.and_eq_true] at h0
        have ho0 := Zaq h0.1.2
        have hi0 := Zaq h0.2
        have hwr := h0.1.1
        split at h
        · rename_i k' m xs hcs
          obtain ⟨hkk, h1, h2, h4, h5, h6⟩ := Zai h
          obtain rfl := Zb6 hkk
          subst h1
          cases hρ : ρ ad.id with
          | none =>
            have hlc := hok.2 hρ
            have hx0 : xs = [] := List.eq_nil_of_length_eq_zero (by omega)
            obtain ⟨rfl, hc0⟩ := hlc
            refine hnil (H.drop ad.id) rfl (hr.drop _) (by simp [SVal.conc, SAddr.conc, hρ, hc0]) (by omega) (fun c hc => ?_)
            have := h6 c (by omega)
            simpa [hx0] using this
          | some p =>
            obtain ⟨b, base⟩ := p
            have hE := hr.ents _ _ hen
            have huc : SVal.conc ρ (.slice ad m cap) = .slice (some ⟨b, base, none⟩) m cap := by simp [SVal.conc, SAddr.conc, hρ, ho0, hi0]
            have hcc : Zab ρ en.cs = Zap k' m xs := by rw [hcs]; simp [Zab, Chunk.conc]
            have hlen : Zam en.cs = m := by rw [hcs]; simp [Zam, Chunk.len]
            rw [huc]
            by_cases hroom : m + n <= cap
            · -- there is room
              have hrun := run_append_room_src (P := P) w t t' o.type el i hu hi b base m cap (v.conc ρ) n (Zap k' n ys) (by rw [hs1]; exact hsrc) hroom
                (fun j hj => by
                  rw [Zac] at hj
                  obtain ⟨⟨v', hv'⟩, _⟩ := hE.own hwr b base hρ (m + j) (by simp only [Ent.size, hlen]; omega)
                  rw [hs1, Nat.mul_one, Nat.add_assoc, hv']; rfl)
                (fun j hj => by
                  rw [Zac] at hj
                  obtain ⟨_, hz'⟩ := hE.own hwr b base hρ (m + j) (by simp only [Ent.size, hlen]; omega)
                  rw [hs1, Nat.mul_one, Nat.add_assoc, hz'])
              rw [hs1, Nat.mul_one] at hrun
              have hst := hr.store (off := m) (vs := Zap k' n ys) (cs' := [.ints k' (m + n) (xs ++ ys)]) (ex' := cap - (m + n)) hen hwr hρ (by rw [Zac]; simp only [Ent.size, hlen]; omega) (by simp [ZaE, Chunk.ok])
                (by simp only [Zam, Chunk.len, Ent.size, hlen]; omega) (fun j v' hj => by
                  simp only [Zab, Chunk.conc, List.append_nil] at hj
                  rw [Ze9 h2] at hj
                  rcases Nat.lt_or_ge j m with hjm | hjm
                  · right
                    rw [List.getElem?_append_left (by rw [Zac]; exact hjm)] at hj
                    exact ⟨.inl hjm, by rw [hcc]; exact hj⟩
                  · left
                    rw [List.getElem?_append_right (by rw [Zac]; exact hjm), Zac] at hj
                    have := (List.getElem?_eq_some_iff.1 hj).1
                    rw [Zac] at this
                    exact ⟨hjm, by rw [Zac]; omega, hj⟩)
              refine ⟨_, _, hrun, ρ.up H.next (ρ ad.id), _, _, h6 cap hroom, ?_, ?_, Rho.up_lt, by simp [Heap.push, Heap.drop], hst.move hok.1⟩
              · simp [SVal.conc, SAddr.conc, Rho.up_same, hρ]
              · simp [SVal.ok, Heap.push, Heap.drop, Rho.up_same, hρ]
            · have hold : (Builtin.firstCells 1 m (.slice (some ⟨b, base, none⟩) m cap)).run P w.drew = .ok (Zap k' m xs).toArray w.drew :=
                run_firstCells_some w.drew 1 m _ m cap _ (by rw [Zac, Nat.mul_one]) (fun j v' hj => by
                  rw [ZbA, World.cell?_drew]
                  exact hE.cells b base hρ j v' (by rw [hcc]; exact hj))
              have := ZkT (P := P) (ty := o.type) (K := K) (H := H.drop ad.id) hu hi hs1 hb8 hz hzc (hr.drop ad.id) h2 hold hsrc (by omega) h5 (fun c hc => h6 c hc)
              obtain ⟨r, w', h1, ρ', sv, H'', g1, g2, g3, g4, g5, g6⟩ := this
              exact ⟨r, w', h1, ρ', sv, H'', g1, g2, g3, g4, g5, g6⟩
        · exact h.elim
      · exact h.elim
    · exact h.elim
  · cases hf
theorem Zly {k : IntKind} {x y : Opd} (hf : (AOp.mkslice k x y).fits P o.op = true) (he : EnvOk ρ H.next nt e a.tmps) (hr : Rel w0 fp ρ H w) {Γ} (h : ZaV Γ (.mkslice k x y) e H K) : Runs P a o w (OpPost w0 fp ρ H K) := by
  simp only [AOp.fits] at hf
  simp only [ZaV] at h
  split at hf
  · rename_i t x' y' hop
    rw [Bool.and_eq_true, Bool.and_eq_true] at hf
    obtain ⟨v, h', hok, h3⟩ := Opd.ev_sound hf.1.1 he h
    clear h
    obtain ⟨u, h, hok', h5⟩ := Opd.ev_sound hf.1.2 he h'
    clear h'
    obtain ⟨el, i, z, hu, hi, hs1, hb8, hz, hzc⟩ := Zjk hf.2
    split at h
    · rename_i k1 l k2 c
      obtain ⟨h0, h1, h2, hK⟩ := h
      simp only [SVal.conc] at h3 h5
      have hb : (i.bytes : Int) * c <= 281474976710656 := by
        have : (i.bytes : Int) * c <= 8 * c := Int.mul_le_mul_of_nonneg_right (by omega) (by omega)
        omega
      have hrun := run_makeSlice (P := P) w t el i z hu hi hz k1 k2 l c h0 h1 (by rw [hs1]; omega) hb (by omega)
      refine ⟨_, _, .inl (by simp only [execOp, hop, h3, h5, Sem.run_bind, hrun, Result.andThen_ok, Sem.run_pure]; rfl), ρ.up H.next (some (w.heap.size, 0)), _, _, hK, ?_, ?_, Rho.up_lt, by simp [Heap.push],
        hr.alloc (t := el) (by simp [ZaE, Chunk.ok]) ⟨List.replicate (c.toNat - l.toNat) (.int k 0), ?_, by simp⟩⟩
      · simp [SVal.conc, SAddr.conc, Rho.up_same]
      · simp [SVal.ok, Heap.push, Rho.up_same]
      · simp only [Zab, Chunk.conc, List.append_nil]
        rw [Zd7 (by simp), List.map_replicate, List.replicate_append_replicate, show l.toNat + (c.toNat - l.toNat) = c.toNat by omega, hzc, hs1, Nat.mul_one]
        apply List.ext_getElem?
        intro j
        simp only [madeCells, Array.toList_map, Array.toList_range, List.getElem?_map, List.getElem?_replicate, List.size_toArray, List.length_singleton, Nat.mod_one]
        rcases Nat.lt_or_ge j c.toNat with hj | hj
        · simp [hj]
        · simp [Nat.not_lt.2 hj]
    · exact h.elim
  · cases hf
end
end Go.Sx
