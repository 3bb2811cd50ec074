/- Part of the proof: SxOp. -/
import Derived.Test.YtinjdimejijabaaSxChunk
import Derived.Test.YtinjdimejijabaaSxEqT
set_option linter.unusedVariables false
set_option linter.unusedSimpArgs false
namespace Go.Sx
def ZvB : Value -> Value -> Bool
  | .bool a, .bool b => a == b
  | .int k n, .int k' m => decide (k = k') && decide (n = m)
  | .string s, .string t => decide (s.data.toList = t.data.toList)
  | .slice none 0 0, .slice none 0 0 => true
  | .pointer none, .pointer none => true
  | .nilFunc, .nilFunc => true
  | .nilIface, .nilIface => true
  | .map none, .map none => true
  | _, _ => false
theorem Zqn {a b : Value} (h : ZvB a b = true) : a = b := by
  unfold ZvB at h
  split at h
  · rw [beq_iff_eq] at h; rw [h]
  · rw [Bool.and_eq_true, decide_eq_true_eq, decide_eq_true_eq] at h; rw [h.1, h.2]
  · rename_i s t
    rw [decide_eq_true_eq] at h
    obtain ⟨⟨s⟩⟩ := s
    obtain ⟨⟨t⟩⟩ := t
    simp only at h
    rw [h]
  all_goals first | rfl | cases h
def ZjK : List Value -> List Value -> Bool
  | [], [] => true
  | a :: r, b :: q => ZvB a b && ZjK r q
  | _, _ => false
theorem Zc1 : ∀ {a b : List Value}, ZjK a b = true -> a = b
  | [], [], _ => rfl
  | a :: r, b :: q, h => by
    simp only [ZjK, Bool.and_eq_true] at h
    rw [Zqn h.1, Zc1 h.2]
  | [], _ :: _, h => by cases h
  | _ :: _, [], h => by cases h
def Ziy : SVal -> Bool
  | .bool _ | .int _ _ | .str _ | .nilslice | .nilptr | .nilfn | .niliface | .nilmap => true
  | .fn (.func _) [] [] => true
  | _ => false
def Zbl : List Chunk -> Bool
  | [] => true
  | .one v :: r => Ziy v && Zbl r
  | .ints _ _ _ :: r => Zbl r
  | .rows _ _ _ :: r => Zbl r
def ρ0 : Rho := fun _ => none
theorem Zgp {ρ : Rho} {n : Nat} : ∀ {v : SVal}, Ziy v = true -> v.ok ρ n /\ v.conc ρ = v.conc ρ0 := by
  intro v h
  unfold Ziy at h
  split at h <;> first | (cases h; done) | (simp [SVal.ok, SVal.conc, okL, ZaJ]; done)
theorem ZbP {ρ : Rho} {n : Nat} : ∀ {cs : List Chunk}, Zbl cs = true -> ZaV ρ n cs /\ Zai ρ cs = Zai ρ0 cs
  | [], _ => by simp [ZaV, Zai]
  | .one v :: r, h => by
    simp only [Zbl, Bool.and_eq_true] at h
    have h1 := Zgp (ρ := ρ) (n := n) h.1
    have h2 := ZbP (ρ := ρ) (n := n) h.2
    simp only [ZaV, Chunk.ok, Zai, Chunk.conc, h1.2, h2.2]
    exact ⟨⟨h1.1, h2.1⟩, trivial⟩
  | .ints _ _ _ :: r, h => by
    simp only [Zbl] at h
    have h2 := ZbP (ρ := ρ) (n := n) h
    simp only [ZaV, Chunk.ok, Zai, Chunk.conc, h2.2]
    exact ⟨⟨trivial, h2.1⟩, trivial⟩
  | .rows _ _ _ :: r, h => by
    simp only [Zbl] at h
    have h2 := ZbP (ρ := ρ) (n := n) h
    simp only [ZaV, Chunk.ok, Zai, Chunk.conc, h2.2]
    exact ⟨⟨trivial, h2.1⟩, trivial⟩
def Opd.fits : Opd -> Operand -> Bool
  | .tm s, .tmp t => Nat.beq s t
  | .cn (.agg cs), .const (.agg u) => Zbl cs && ZjK (Zai ρ0 cs) u.toList
  | .cn v, .const u => Ziy v && ZvB (v.conc ρ0) u
  | .cn (.fn (.func f) [] []), .func g => Nat.beq f g
  | _, _ => false
def EnvOk (ρ : Rho) (n nt : Nat) (e : Env) (tmps : Array Value) : Prop :=
  tmps.size = nt /\ ∀ s v, ZeF e s = some v -> v.ok ρ n /\ tmps.getD s undef = v.conc ρ
theorem Opd.ev_sound {e : Env} {x : Opd} {y : Operand} {K : SVal -> Prop} {ρ : Rho} {n nt : Nat} {a : Act} (hf : x.fits y = true) (he : EnvOk ρ n nt e a.tmps) (h : x.ev e K) :
    ∃ v, K v /\ v.ok ρ n /\ a.eval y = v.conc ρ := by
  unfold Opd.fits at hf
  split at hf
  · rename_i s t
    have := Nat.eq_of_beq_eq_true hf
    subst this
    simp only [Opd.ev] at h
    split at h
    · rename_i v hv
      have := he.2 _ _ hv
      exact ⟨v, h, this.1, this.2⟩
    · exact h.elim
  · rename_i cs u
    rw [Bool.and_eq_true] at hf
    have h1 := ZbP (ρ := ρ) (n := n) hf.1
    refine ⟨_, h, by simp only [SVal.ok]; exact h1.1, ?_⟩
    simp only [SVal.conc, h1.2, Zc1 hf.2, Act.eval]
  · rename_i v u _
    rw [Bool.and_eq_true] at hf
    have h1 := Zgp (ρ := ρ) (n := n) hf.1
    exact ⟨v, h, h1.1, by rw [h1.2]; exact (Zqn hf.2).symm⟩
  · rename_i f g
    have := Nat.eq_of_beq_eq_true hf
    subst this
    exact ⟨_, h, by simp [SVal.ok, okL], by simp [SVal.conc, Act.eval, ZaJ]⟩
  · cases hf
def ZdQ : List Opd -> List Operand -> Bool
  | [], [] => true
  | x :: r, y :: q => x.fits y && ZdQ r q
  | _, _ => false
theorem ZcI {e : Env} {ρ : Rho} {n nt : Nat} {a : Act} (he : EnvOk ρ n nt e a.tmps) : ∀ {xs : List Opd} {ys : List Operand} {K : List SVal -> Prop}, ZdQ xs ys = true -> evL e xs K ->
    ∃ vs, K vs /\ okL ρ n vs /\ ys.map a.eval = ZaJ ρ vs
  | [], [], K, _, h => ⟨[], h, by simp [okL], by simp [ZaJ]⟩
  | x :: r, y :: q, K, hf, h => by
    simp only [ZdQ, Bool.and_eq_true] at hf
    simp only [evL] at h
    obtain ⟨v, h1, h2, h3⟩ := Opd.ev_sound hf.1 he h
    obtain ⟨vs, h4, h5, h6⟩ := ZcI he hf.2 h1
    exact ⟨_, h4, by simp only [okL]; exact ⟨h2, h5⟩, by simp only [List.map_cons, ZaJ, h3, h6]⟩
  | [], _ :: _, _, hf, _ => by cases hf
  | _ :: _, [], _, hf, _ => by cases hf
def ZdL (P : Program) (t : TypeId) (n : Nat) : Bool := match P.info? t with | some i => Nat.beq i.size n | none => false
def Znm (P : Program) (t : TypeId) (b : Bool) : Bool :=
  match P.underlying t with
  | some (.struct _) | some (.array _ _) => b
  | some _ => !b
  | none => false
def Zdf (P : Program) (t : TypeId) (z : List Chunk) : Bool :=
  match P.info? t with
  | some i => (match i.zero with | some v => Zbl z && ZjK (Zai ρ0 z) v.cells.toList | none => false)
  | none => false
def ZuP (P : Program) (s : TypeId) (f off n : Nat) : Bool :=
  match P.underlying s with
  | some (.struct fs) => (match fs[f]? with | some fd => Nat.beq fd.offset off && ZdL P fd.type n | none => false)
  | _ => false
def ZkD (P : Program) (t : TypeId) (sz : Nat) : Bool := match P.underlying t with | some (.slice e) => ZdL P e sz | _ => false
def ZAp (P : Program) (t : TypeId) (k : IntKind) : Bool := match P.underlying t with | some (.int k') => decide (k' = k) | _ => false
def Zn4 (P : Program) (t : TypeId) : List (Nat × Nat × Opd) -> List (Nat × Operand) -> Bool
  | [], [] => true
  | (off, sz, x) :: r, (i, y) :: q => x.fits y && (match P.underlying t with
      | some (.struct fs) => (match fs[i]? with | some fd => Nat.beq fd.offset off && ZdL P fd.type sz | none => false)
      | some (.array _ e) => ZdL P e sz && Nat.beq off (i * sz)
      | _ => false) && Zn4 P t r q
  | _, _ => false
def Zv0 : List (Nat × Opd) -> List (Nat × Operand) -> Bool
  | [], [] => true
  | (i, x) :: r, (j, y) :: q => Nat.beq i j && x.fits y && Zv0 r q
  | _, _ => false
def Zrb (P : Program) (t : TypeId) : Bool :=
  match P.underlying t with
  | some (.struct fs) => fs.toList.all fun f => (P.info? f.type).isSome
  | some (.array _ e) => (P.info? e).isSome
  | _ => false
def ZtG : Option Opd -> Option Operand -> Bool
  | none, none => true
  | some x, some y => x.fits y
  | _, _ => false
def Ztu (P : Program) (t : TypeId) (k : IntKind) : Bool := match P.underlying t with
  | some (.slice e) => (match P.info? e with | some i => Nat.beq i.size 1 && Nat.ble i.bytes 8 && Zdf P e [.one (.int k 0)] | none => false)
  | _ => false
def two (_P : Program) (p q : TypeId -> Bool) : List TypeId -> Bool
  | [a, b] => p a && q b
  | _ => false
def ZvU (P : Program) (t : TypeId) : Bool := match P.underlying t with | some (.slice _) => true | _ => false
def ZHn (P : Program) (t : TypeId) : Bool := match P.underlying t with | some .bool => true | _ => false
def ZHS : Bool -> BinOp -> Bool
  | false, .eql => true
  | true, .neq => true
  | _, _ => false
def ZJa : Operand -> Bool
  | .const (.pointer none) => true
  | _ => false
def ZJf (P : Program) (t : TypeId) : Bool := match P.underlying t with | some (.pointer _) => true | _ => false
def Zkh (P : Program) (f : FuncId) : Bool := match P.funcs[f]? with | some fn => fn.body.isSome && !(fn.name == "runtime.NumGoroutine") | none => false
def Zn3 : Nat -> List Opd -> List (Nat × Operand) -> Bool
  | _, [], [] => true
  | i, x :: r, (j, y) :: q => Nat.beq i j && x.fits y && Zn3 (i + 1) r q
  | _, _, _ => false
def ZkG (P : Program) (t : TypeId) (sh : List Leaf) : Bool := match P.underlying t with
  | some (.slice e) => (match P.info? e with | some i => Nat.beq i.size (Zah sh) && Nat.ble i.bytes 100000 && Nat.ble 1 (Zah sh) && Zdf P e (Zbt sh (Tup.dflt sh)) | none => false)
  | _ => false
def Zz7 (P : Program) (t : TypeId) : Bool := match P.underlying t with
  | some (.slice e) => (match P.info? e with | some i => Nat.beq i.size 1 && Zdf P e [.one .nilptr] | none => false)
  | _ => false
def ZAl (P : Program) (t : TypeId) (k : IntKind) : Bool := match P.underlying t with | some (.map kt _) => ZAp P kt k | _ => false
def ZIz (P : Program) (t : TypeId) (k : IntKind) : Bool := match P.underlying t with
  | some (.map _ et) => (match P.info? et with | some i => (match i.zero with | some v => ZjK [v] [.int k 0] | none => false) | none => false)
  | _ => false
def AOp.fits (P : Program) (x : AOp) (o : Op) : Bool :=
  match x with
  | .mov x => (match o with | .move y | .assign y => x.fits y | _ => false)
  | .pick c a b => (match o with | .pick c' a' b' => c.fits c' && a.fits a' && b.fits b' | _ => false)
  | .bin op x y => (match o with | .binOp op' _ x' y' _ => decide (op = op') && x.fits x' && y.fits y' | _ => false)
  | .not x => (match o with | .unOp .not _ x' => x.fits x' | _ => false)
  | .box x => (match o with | .box _ x' => x.fits x' | _ => false)
  | .alloc z => (match o with | .alloc t => Zdf P t z | _ => false)
  | .build zs ps => (match o with | .build t parts => Zdf P t zs && Zrb P t && Zn4 P t ps parts.toList | _ => false)
  | .bslice k n ps => (match o with | .buildSlice t n' parts => Nat.beq n n' && Nat.ble n 1000 && Zv0 ps parts.toList && (match P.underlying t with | some (.slice e) => ZdL P e 1 && Zdf P e [.one (.int k 0)] | _ => false) | _ => false)
  | .load1 x => (match o with | .load t x' => x.fits x' && Znm P t false | _ => false)
  | .loadA sz x => (match o with | .load t x' => x.fits x' && Znm P t true && ZdL P t sz | _ => false)
  | .store1 x v => (match o with | .store t x' v' => x.fits x' && v.fits v' && ZdL P t 1 | _ => false)
  | .storeA sz x v => (match o with | .store t x' v' => x.fits x' && v.fits v' && ZdL P t sz | _ => false)
  | .fieldAddr x off n => (match o with | .fieldAddr t x' f => x.fits x' && ZuP P t f off n && !(Nat.beq n 0) | _ => false)
  | .idxS x i sz => (match o with | .indexAddr t x' i' => x.fits x' && i.fits i' && ZkD P t sz | _ => false)
  | .len x => (match o with | .call { callee := .builtin .len, args := xs, argTypes := ts } => ZdQ [x] xs.toList && (match ts[0]? with | some t => (match P.underlying t with | some (.slice _) => true | _ => false) | none => false) | _ => false)
  | .min2 x y => (match o with | .call { callee := .builtin .min, args := xs, .. } => ZdQ [x, y] xs.toList | _ => false)
  | .max2 x y => (match o with | .call { callee := .builtin .max, args := xs, .. } => ZdQ [x, y] xs.toList | _ => false)
  | .extract x i => (match o with | .extract x' i' => x.fits x' && Nat.beq i i' | _ => false)
  | .nilCheck x => (match o with | .nilCheck x' => x.fits x' | _ => false)
  | .call f args => (match o with | .call { callee := .value (.func g), args := args', .. } => Nat.beq f g && ZdQ args args'.toList && Zkh P f | _ => false)
  | .append k x y => (match o with | .call { callee := .builtin .append, args := xs, argTypes := ts } => ZdQ [x, y] xs.toList && two P (fun t => Ztu P t k) (ZvU P) ts.toList | _ => false)
  | .sliceS sz x lo hi mx => (match o with | .slice t x' lo' hi' mx' => x.fits x' && ZtG lo lo' && ZtG hi hi' && ZtG mx mx' && ZkD P t sz | _ => false)
  | .beq2 ne x y => (match o with | .binOp op t x' y' _ => ZHS ne op && x.fits x' && y.fits y' && ZHn P t | _ => false)
  | .mkFn f caps => (match o with | .makeFunc (.func g) first caps' => Nat.beq f g && first.isEmpty && ZdQ caps caps'.toList | _ => false)
  | .callV f x args => (match o with | .call { callee := .value y, args := args', .. } => x.fits y && ZdQ args args'.toList && Zkh P f | _ => false)
  | .bsliceR sh n ps => (match o with | .buildSlice t n' parts => Nat.beq n n' && Nat.ble (n * Zah sh) 1000000 && Nat.beq ps.length n && Zn3 0 ps parts.toList && ZkG P t sh | _ => false)
  | .appendR sh x y => (match o with | .call { callee := .builtin .append, args := xs, argTypes := ts } => ZdQ [x, y] xs.toList && two P (fun t => ZkG P t sh) (ZvU P) ts.toList | _ => false)
  | .appendRW sh x y => (match o with | .call { callee := .builtin .append, args := xs, argTypes := ts } => ZdQ [x, y] xs.toList && two P (fun t => ZkG P t sh) (ZvU P) ts.toList | _ => false)
  | .isNilP ne x => (match o with | .binOp op t x' y' _ => ZHS ne op && x.fits x' && ZJa y' && ZJf P t | _ => false)
  | .mksliceR sh l c => (match o with | .makeSlice t l' c' => l.fits l' && c.fits c' && ZkG P t sh | _ => false)
  | .makeMap z => (match o with | .makeMap _ none => (match z with | [.ints _ n []] => Nat.beq n 0 | [.rows _ n []] => Nat.beq n 0 | [.rows [.int .i64, .int .i64] n [], .ints .i64 m []] => Nat.beq n 0 && Nat.beq m 0 | _ => false) | _ => false)
  | .mapUpd k x y v => (match o with | .mapUpdate t x' y' v' => x.fits x' && y.fits y' && v.fits v' && ZAl P t k | _ => false)
  | .mapUpV x y v => (match o with | .mapUpdate t x' y' v' => x.fits x' && y.fits y' && v.fits v' && ZAl P t .i64 | _ => false)
  | .mapDel x y => (match o with | .call { callee := .builtin .delete, args := xs, argTypes := ts } => ZdQ [x, y] xs.toList && (match ts.toList with | [t, _] => ZAl P t .i64 | _ => false) | _ => false)
  | .mapGet x y => (match o with | .lookup t x' y' false => x.fits x' && y.fits y' && ZAl P t .i64 && ZIz P t .i64 | _ => false)
  | .mapLen x => (match o with | .call { callee := .builtin .len, args := xs, argTypes := ts } => ZdQ [x] xs.toList && (match ts[0]? with | some t => (match P.underlying t with | some (.map _ _) => true | _ => false) | none => false) | _ => false)
  | .appendIn sh x y => (match o with | .call { callee := .builtin .append, args := xs, argTypes := ts } => ZdQ [x, y] xs.toList && two P (fun t => ZkG P t sh) (ZvU P) ts.toList | _ => false)
  | .clearR sh x => (match o with | .call { callee := .builtin .clear, args := xs, argTypes := ts } => ZdQ [x] xs.toList && (match ts[0]? with | some t => ZkG P t sh | none => false) | _ => false)
  | .load1P x => (match o with | .load t x' => x.fits x' && Znm P t false | _ => false)
  | .loadHr x => (match o with | .load t x' => x.fits x' && Znm P t false | _ => false)
  | .bsliceV n ps => (match o with | .buildSlice t n' parts => Nat.beq n n' && Nat.ble 1 n && Nat.ble n 1000000 && Nat.beq ps.length n && Zn3 0 ps parts.toList && Zz7 P t | _ => false)
  | .appendFit sh x y => (match o with | .call { callee := .builtin .append, args := xs, argTypes := ts } => ZdQ [x, y] xs.toList && two P (fun t => ZkG P t sh) (ZvU P) ts.toList | _ => false)
  | .bad => true
def OpPost (w0 : World) (fp : Nat -> Nat -> Prop) (ρ : Rho) (H : Heap) (K : SVal -> Heap -> Prop) (v : Value) (w' : World) : Prop :=
  ∃ ρ' sv H', K sv H' /\ v = sv.conc ρ' /\ sv.ok ρ' H'.next /\ (∀ id, id < H.next -> ρ' id = ρ id) /\ H.next <= H'.next /\ Rel w0 fp ρ' H' w'
def Runs (P : Program) (a : Act) (o : Oper) (w : World) (Post : Value -> World -> Prop) : Prop :=
  ∃ v w', ((execOp a.eval o).run P w = .ok (.value v) w' ∨ ((execOp a.eval o).run P w = .ok .skip w' /\ v = undef)) /\ Post v w'
theorem Runs.wp {P : Program} {a : Act} {o : Oper} {w : World} {Post : Value -> World -> Prop} {next : Act -> World -> Prop} {Q} (h : Runs P a o w Post) (hn : ∀ v w', Post v w' -> next (a.put o.dst v) w') : o.wp P a w next Q := by
  obtain ⟨v, w', h1, h2⟩ := h
  unfold Oper.wp
  rcases h1 with h1 | ⟨h1, rfl⟩
  · rw [h1]; exact hn _ _ h2
  · rw [h1]; exact hn _ _ h2
section
variable {P : Program} {a : Act} {o : Oper} {w w0 : World} {fp : Nat -> Nat -> Prop} {ρ : Rho} {H : Heap} {e : Env} {nt : Nat} {K : SVal -> Heap -> Prop}
theorem OpPost.same (hr : Rel w0 fp ρ H w) {sv : SVal} (hK : K sv H) (hok : sv.ok ρ H.next) : OpPost w0 fp ρ H K (sv.conc ρ) w :=
  ⟨ρ, sv, H, hK, rfl, hok, fun _ _ => rfl, Nat.le_refl _, hr⟩
def Looks (P : Program) (a : Act) (o : Oper) (w0 : World) (fp : Nat -> Nat -> Prop) (ρ : Rho) (H : Heap) (K : SVal -> Heap -> Prop) : Prop :=
  ∃ sv, K sv H /\ sv.ok ρ H.next /\ ∀ w, Rel w0 fp ρ H w -> (execOp a.eval o).run P w = .ok (.value (sv.conc ρ)) w
theorem Looks.runs (h : Looks P a o w0 fp ρ H K) (hr : Rel w0 fp ρ H w) : Runs P a o w (OpPost w0 fp ρ H K) :=
  let ⟨_, hK, hok, hrun⟩ := h
  ⟨_, _, .inl (hrun w hr), .same hr hK hok⟩
theorem Zgr {x : Opd} (hf : (AOp.mov x).fits P o.op = true) (he : EnvOk ρ H.next nt e a.tmps) (_hr : Rel w0 fp ρ H w) {Γ} (h : Zbe Γ (.mov x) e H K) : Looks P a o w0 fp ρ H K := by
  simp only [AOp.fits] at hf
  simp only [Zbe] at h
  split at hf
  · rename_i y hop
    obtain ⟨v, h1, h2, h3⟩ := Opd.ev_sound hf he h
    exact ⟨_, h1, h2, fun w hr => by simp [execOp, hop, h3]⟩
  · rename_i y hop
    obtain ⟨v, h1, h2, h3⟩ := Opd.ev_sound hf he h
    exact ⟨_, h1, h2, fun w hr => by simp [execOp, hop, h3]⟩
  · cases hf
theorem Zfn {c x y : Opd} (hf : (AOp.pick c x y).fits P o.op = true) (he : EnvOk ρ H.next nt e a.tmps) (_hr : Rel w0 fp ρ H w) {Γ} (h : Zbe Γ (.pick c x y) e H K) : Looks P a o w0 fp ρ H K := by
  simp only [AOp.fits] at hf
  simp only [Zbe] at h
  split at hf
  · rename_i c' x' y' hop
    rw [Bool.and_eq_true, Bool.and_eq_true] at hf
    obtain ⟨v, h, h2, h3⟩ := Opd.ev_sound hf.1.1 he h
    obtain ⟨u, h, h4, h5⟩ := Opd.ev_sound hf.1.2 he h
    obtain ⟨z, h, h6, h7⟩ := Opd.ev_sound hf.2 he h
    split at h
    · rename_i b1 b2 b3
      refine ⟨_, h, (by simp [SVal.ok]), fun w hr => ?_⟩
      simp only [SVal.conc] at h3 h5 h7
      simp only [execOp, hop, h3, h5, h7, SVal.conc]
      cases b1 <;> simp [asBool]
    · rename_i b1 a1 a2 _
      refine ⟨_, h, (by cases b1; exact h6; exact h4), fun w hr => ?_⟩
      simp only [SVal.conc] at h3
      simp only [execOp, hop, h3, h5, h7]
      cases b1 <;> simp [asBool]
    · exact h.elim
  · cases hf
theorem ZgM {op : BinOp} {x y : Opd} (hf : (AOp.bin op x y).fits P o.op = true) (he : EnvOk ρ H.next nt e a.tmps) (_hr : Rel w0 fp ρ H w) {Γ} (h : Zbe Γ (.bin op x y) e H K) : Looks P a o w0 fp ρ H K := by
  simp only [AOp.fits] at hf
  simp only [Zbe] at h
  split at hf
  · rename_i op' t x' y' yt hop
    rw [Bool.and_eq_true, Bool.and_eq_true, decide_eq_true_eq] at hf
    obtain ⟨⟨rfl, hx⟩, hy⟩ := hf
    obtain ⟨u, h, _, h3⟩ := Opd.ev_sound hx he h
    obtain ⟨v, h, _, h5⟩ := Opd.ev_sound hy he h
    cases u with
    | int k n =>
      cases v with
      | int k' m =>
        simp only [SVal.conc] at h3 h5
        have hrun : ∀ w : World, (execOp a.eval o).run P w = ((binOp op t (.int k n) (.int k' m)).run P w).andThen fun v w' => .ok (.value v) w' := by
          intro w
          simp only [execOp, hop, h3, h5, eqGuard]
          cases op <;> simp
        cases op <;> simp only [ZAR] at h
        case quo =>
          obtain ⟨h0, h1, hK⟩ := Zao h
          obtain rfl := Zck h0
          exact ⟨_, hK, (by simp [SVal.ok]), fun w hr => by rw [hrun]; simp [binOp, Op.intDiv, h1, SVal.conc]⟩
        case rem =>
          obtain ⟨h0, h1, hK⟩ := Zao h
          obtain rfl := Zck h0
          exact ⟨_, hK, (by simp [SVal.ok]), fun w hr => by rw [hrun]; simp [binOp, Op.intDiv, h1, SVal.conc]⟩
        case shl =>
          obtain ⟨h1, h⟩ := h
          exact ⟨_, h, (by simp [SVal.ok]), fun w hr => by rw [hrun]; simp [binOp, Op.shift, Int.not_lt.2 h1, SVal.conc, ZJe]⟩
        case shr =>
          obtain ⟨h1, h⟩ := h
          exact ⟨_, h, (by simp [SVal.ok]), fun w hr => by rw [hrun]; simp [binOp, Op.shift, Int.not_lt.2 h1, SVal.conc, ZJd]⟩
        all_goals
          obtain ⟨h0, hK⟩ := Zao h
          obtain rfl := Zck h0
          exact ⟨_, hK, (by simp [SVal.ok]), fun w hr => by rw [hrun]; simp [binOp, Op.intArith, Op.intBits, Op.intCmp, SVal.conc, ZJh, ior, ZJc, ZuE]⟩
      | _ => simp only [ZAR] at h
    | str s =>
      cases v with
      | str t' =>
        simp only [SVal.conc] at h3 h5
        have hrun : ∀ w : World, (execOp a.eval o).run P w = ((binOp op t (.string s) (.string t')).run P w).andThen fun v w' => .ok (.value v) w' := by
          intro w
          simp only [execOp, hop, h3, h5, eqGuard]
          cases op <;> simp
        cases op <;> simp only [ZAR] at h
        case add =>
          obtain ⟨h1, h⟩ := h
          refine ⟨_, h, (by simp [SVal.ok]), fun w hr => ?_⟩
          rw [hrun]
          have : ¬ (((s.size + t'.size : Nat) : Int) > IntKind.max .i64) := by
            simp only [IntKind.max, IntKind.signed, IntKind.bits]; omega
          simp only [binOp, Op.stringOp, if_neg this, SVal.conc]
          rfl
        case eql => exact ⟨_, h, (by simp [SVal.ok]), fun w hr => by rw [hrun]; simp [binOp, Op.stringOp, SVal.conc]⟩
        case neq => exact ⟨_, h, (by simp [SVal.ok]), fun w hr => by rw [hrun]; simp [binOp, Op.stringOp, SVal.conc]⟩
      | _ => simp only [ZAR] at h
    | _ => simp only [ZAR] at h
  · cases hf
theorem Zgq {x : Opd} (hf : (AOp.not x).fits P o.op = true) (he : EnvOk ρ H.next nt e a.tmps) (_hr : Rel w0 fp ρ H w) {Γ} (h : Zbe Γ (.not x) e H K) : Looks P a o w0 fp ρ H K := by
  simp only [AOp.fits] at hf
  simp only [Zbe] at h
  split at hf
  · rename_i t x' hop
    obtain ⟨v, h, _, h3⟩ := Opd.ev_sound hf he h
    split at h
    · simp only [SVal.conc] at h3
      exact ⟨_, h, (by simp [SVal.ok]), fun w hr => by simp [execOp, hop, h3, Op.unary, SVal.conc]⟩
    · exact h.elim
  · cases hf
theorem Opd.ev_mono {e : Env} {x : Opd} {K K' : SVal -> Prop} (hk : ∀ v, K v -> K' v) (h : x.ev e K) : x.ev e K' := by
  unfold Opd.ev at *
  cases x with
  | tm n =>
    simp only at *
    cases hg : ZeF e n with
    | none => simp only [hg] at h
    | some u => simp only [hg] at h ⊢; exact hk _ h
  | cn v => exact hk _ h
theorem Zcr {xs : Array Operand} {f : Operand -> Value} {vs : List Value} (h : xs.toList.map f = vs) : xs.map f = vs.toArray := by
  rw [<- h, <- Array.toList_map, Array.toArray_toList]
theorem ZiC {e : Env} {x : Opd} {xs : Array Operand} {K : SVal -> Prop} {ρ : Rho} {n nt : Nat} {a : Act} (hf : ZdQ [x] xs.toList = true) (he : EnvOk ρ n nt e a.tmps) (h : x.ev e K) :
    ∃ v, K v /\ v.ok ρ n /\ xs.map a.eval = #[v.conc ρ] := by
  obtain ⟨vs, h1, h2, h3⟩ := ZcI (K := fun vs => ∃ v, vs = [v] /\ K v) he hf (by
    simp only [evL]; exact Opd.ev_mono (fun v hv => ⟨v, rfl, hv⟩) h)
  obtain ⟨v, rfl, hK⟩ := h1
  simp only [okL] at h2
  exact ⟨v, hK, h2.1, by rw [Zcr h3]; simp [ZaJ]⟩
theorem ZmB {e : Env} {x y : Opd} {xs : Array Operand} {K : SVal -> SVal -> Prop} {ρ : Rho} {n nt : Nat} {a : Act} (hf : ZdQ [x, y] xs.toList = true) (he : EnvOk ρ n nt e a.tmps)
    (h : x.ev e fun u => y.ev e fun v => K u v) : ∃ u v, K u v /\ xs.map a.eval = #[u.conc ρ, v.conc ρ] := by
  obtain ⟨vs, h1, h2, h3⟩ := ZcI (K := fun vs => ∃ u v, vs = [u, v] /\ K u v) he hf (by
    simp only [evL]; exact Opd.ev_mono (fun u hu => Opd.ev_mono (fun v hv => ⟨u, v, rfl, hv⟩) hu) h)
  obtain ⟨u, v, rfl, hK⟩ := h1
  exact ⟨u, v, hK, by rw [Zcr h3]; simp [ZaJ]⟩
theorem Zb7 {x : Opd} (hf : (AOp.len x).fits P o.op = true) (he : EnvOk ρ H.next nt e a.tmps) (_hr : Rel w0 fp ρ H w) {Γ} (h : Zbe Γ (.len x) e H K) : Looks P a o w0 fp ρ H K := by
  simp only [AOp.fits] at hf
  simp only [Zbe] at h
  split at hf
  · rename_i x' ts hop
    rw [Bool.and_eq_true] at hf
    obtain ⟨hx, ht⟩ := hf
    obtain ⟨v, h, _, h3⟩ := ZiC hx he h
    split at ht
    · rename_i t hts
      split at ht
      · rename_i el hu
        have hexec : ∀ (w : World) (u : Value), x'.map a.eval = #[u] -> (execOp a.eval o).run P w = ((Builtin.len_ ts o.type #[u]).run P w).andThen fun v w' => .ok (.value v) w' := by
          intro w u hu'
          simp [execOp, hop, resolve, invoke, builtin, hu']
        split at h
        · simp only [SVal.conc] at h3
          exact ⟨_, h, (by simp [SVal.ok]), fun w hr => by rw [hexec _ _ h3]; simp [Builtin.len_, hts, run_underlying hu, SVal.conc, goInt]⟩
        · simp only [SVal.conc] at h3
          exact ⟨_, h, (by simp [SVal.ok]), fun w hr => by rw [hexec _ _ h3]; simp [Builtin.len_, hts, run_underlying hu, SVal.conc, goInt]⟩
        · exact h.elim
      · cases ht
    · cases ht
  · cases hf
theorem Zfq {x y : Opd} (hf : (AOp.min2 x y).fits P o.op = true) (he : EnvOk ρ H.next nt e a.tmps) (_hr : Rel w0 fp ρ H w) {Γ} (h : Zbe Γ (.min2 x y) e H K) : Looks P a o w0 fp ρ H K := by
  simp only [AOp.fits] at hf
  simp only [Zbe] at h
  split at hf
  · rename_i xs ts hop
    obtain ⟨v, u, h, h3⟩ := ZmB hf he h
    split at h
    · simp only [SVal.conc] at h3
      exact ⟨_, h, (by simp [SVal.ok]), fun w hr => by simp [execOp, hop, resolve, invoke, builtin, h3, Builtin.min_, Builtin.min2, SVal.conc]⟩
    · exact h.elim
  · cases hf
theorem Zfr {x y : Opd} (hf : (AOp.max2 x y).fits P o.op = true) (he : EnvOk ρ H.next nt e a.tmps) (_hr : Rel w0 fp ρ H w) {Γ} (h : Zbe Γ (.max2 x y) e H K) : Looks P a o w0 fp ρ H K := by
  simp only [AOp.fits] at hf
  simp only [Zbe] at h
  split at hf
  · rename_i xs ts hop
    obtain ⟨v, u, h, h3⟩ := ZmB hf he h
    split at h
    · simp only [SVal.conc] at h3
      exact ⟨_, h, (by simp [SVal.ok]), fun w hr => by simp [execOp, hop, resolve, invoke, builtin, h3, Builtin.max_, Builtin.max2, SVal.conc]⟩
    · exact h.elim
  · cases hf
theorem ZtI {n : Nat} : ∀ {vs : List SVal} {i : Nat} {v : SVal}, okL ρ n vs -> vs[i]? = some v -> v.ok ρ n /\ (ZaJ ρ vs)[i]? = some (v.conc ρ)
  | [], _, _, _, h => by simp at h
  | u :: r, 0, v, hok, h => by simp only [okL] at hok; simp at h; subst h; exact ⟨hok.1, by simp [ZaJ]⟩
  | u :: r, i + 1, v, hok, h => by simp only [okL] at hok; simp at h; have := ZtI hok.2 h; exact ⟨this.1, by simp [ZaJ, this.2]⟩
theorem ZcV {x : Opd} {i : Nat} (hf : (AOp.extract x i).fits P o.op = true) (he : EnvOk ρ H.next nt e a.tmps) (_hr : Rel w0 fp ρ H w) {Γ} (h : Zbe Γ (.extract x i) e H K) : Looks P a o w0 fp ρ H K := by
  simp only [AOp.fits] at hf
  simp only [Zbe] at h
  split at hf
  · rename_i x' i' hop
    rw [Bool.and_eq_true] at hf
    have := Nat.eq_of_beq_eq_true hf.2
    subst this
    obtain ⟨v, h, hok, h3⟩ := Opd.ev_sound hf.1 he h
    split at h
    · rename_i vs
      simp only [SVal.conc] at h3
      simp only [SVal.ok] at hok
      split at h
      · rename_i u hu
        have := ZtI hok hu
        exact ⟨_, h, this.1, fun w hr => by simp [execOp, hop, h3, Instr.extract, this.2]⟩
      · exact h.elim
    · exact h.elim
  · cases hf
theorem Zcy {x : Opd} (hf : (AOp.nilCheck x).fits P o.op = true) (he : EnvOk ρ H.next nt e a.tmps) (_hr : Rel w0 fp ρ H w) {Γ} (h : Zbe Γ (.nilCheck x) e H K) : Looks P a o w0 fp ρ H K := by
  simp only [AOp.fits] at hf
  simp only [Zbe] at h
  split at hf
  · rename_i x' hop
    obtain ⟨v, h, hok, h3⟩ := Opd.ev_sound hf he h
    split at h
    · rename_i ad n
      simp only [SVal.conc, SAddr.conc] at h3
      refine ⟨_, h, hok, fun w hr => ?_⟩
      simp only [SVal.ok] at hok
      obtain ⟨p, hp⟩ := Option.ne_none_iff_exists'.1 hok.2
      rw [hp] at h3
      simp [execOp, hop, h3, SVal.conc, SAddr.conc, hp]
    · exact h.elim
  · cases hf
end
end Go.Sx
