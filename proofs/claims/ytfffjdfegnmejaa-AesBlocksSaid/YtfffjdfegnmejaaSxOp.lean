/- Part of the proof: SxOp. -/
import Derived.Test.YtfffjdfegnmejaaSxChunk
import Derived.Test.YtfffjdfegnmejaaSxEqT
set_option linter.unusedVariables false
set_option linter.unusedSimpArgs false
namespace Go.Sx
def ZyL : Value -> Value -> Bool
  | .bool a, .bool b => a == b
  | .int k n, .int k' m => decide (k = k') && decide (n = m)
  | .string s, .string t => decide (s.data.toList = t.data.toList)
  | .slice none 0 0, .slice none 0 0 => true
  | .pointer none, .pointer none => true
  | .nilFunc, .nilFunc => true
  | .nilIface, .nilIface => true
  | .map none, .map none => true
  | _, _ => false
theorem ZrR {a b : Value} (h : ZyL a b = true) : a = b := by
  unfold ZyL at h
  split at h
  · rw [beq_iff_eq] at h; rw [h]
  · rw [Bool.and_eq_true, decide_eq_true_eq, decide_eq_true_eq] at h; rw [h.1, h.2]
  · rename_i s t
    rw [decide_eq_true_eq] at h
    obtain ⟨⟨s⟩⟩ := s
    obtain ⟨⟨t⟩⟩ := t
    simp only at h
    rw [h]
  all_goals first | rfl | cases h
def Zky : List Value -> List Value -> Bool
  | [], [] => true
  | a :: r, b :: q => ZyL a b && Zky r q
  | _, _ => false
theorem ZcZ : ∀ {a b : List Value}, Zky a b = true -> a = b
  | [], [], _ => rfl
  | a :: r, b :: q, h => by
    simp only [Zky, Bool.and_eq_true] at h
    rw [ZrR h.1, ZcZ h.2]
  | [], _ :: _, h => by cases h
  | _ :: _, [], h => by cases h
def Zjo : SVal -> Bool
  | .bool _ | .int _ _ | .str _ | .nilslice | .nilptr | .nilfn | .niliface | .nilmap => true
  | .fn (.func _) [] [] => true
  | _ => false
def Zbh : List Chunk -> Bool
  | [] => true
  | .one v :: r => Zjo v && Zbh r
  | .ints _ _ _ :: r => Zbh r
  | .rows _ _ _ :: r => Zbh r
def ρ0 : Rho := fun _ => none
theorem ZgF {ρ : Rho} {n : Nat} : ∀ {v : SVal}, Zjo v = true -> v.ok ρ n /\ v.conc ρ = v.conc ρ0 := by
  intro v h
  unfold Zjo at h
  split at h <;> first | (cases h; done) | (simp [SVal.ok, SVal.conc, okL, ZaH]; done)
theorem ZbY {ρ : Rho} {n : Nat} : ∀ {cs : List Chunk}, Zbh cs = true -> ZaE ρ n cs /\ Zab ρ cs = Zab ρ0 cs
  | [], _ => by simp [ZaE, Zab]
  | .one v :: r, h => by
    simp only [Zbh, Bool.and_eq_true] at h
    have h1 := ZgF (ρ := ρ) (n := n) h.1
    have h2 := ZbY (ρ := ρ) (n := n) h.2
    simp only [ZaE, Chunk.ok, Zab, Chunk.conc, h1.2, h2.2]
    exact ⟨⟨h1.1, h2.1⟩, trivial⟩
  | .ints _ _ _ :: r, h => by
    simp only [Zbh] at h
    have h2 := ZbY (ρ := ρ) (n := n) h
    simp only [ZaE, Chunk.ok, Zab, Chunk.conc, h2.2]
    exact ⟨⟨trivial, h2.1⟩, trivial⟩
  | .rows _ _ _ :: r, h => by
    simp only [Zbh] at h
    have h2 := ZbY (ρ := ρ) (n := n) h
    simp only [ZaE, Chunk.ok, Zab, Chunk.conc, h2.2]
    exact ⟨⟨trivial, h2.1⟩, trivial⟩
def Opd.fits : Opd -> Operand -> Bool
  | .tm s, .tmp t => Nat.beq s t
  | .cn (.agg cs), .const (.agg u) => Zbh cs && Zky (Zab ρ0 cs) u.toList
  | .cn v, .const u => Zjo v && ZyL (v.conc ρ0) u
  | .cn (.fn (.func f) [] []), .func g => Nat.beq f g
  | _, _ => false
def EnvOk (ρ : Rho) (n nt : Nat) (e : Env) (tmps : Array Value) : Prop :=
  tmps.size = nt /\ ∀ s v, ZeN e s = some v -> v.ok ρ n /\ tmps.getD s undef = v.conc ρ
theorem Opd.ev_sound {e : Env} {x : Opd} {y : Operand} {K : SVal -> Prop} {ρ : Rho} {n nt : Nat} {a : Act} (hf : x.fits y = true) (he : EnvOk ρ n nt e a.tmps) (h : x.ev e K) :
    ∃ v, K v /\ v.ok ρ n /\ a.eval y = v.conc ρ := by
  unfold Opd.fits at hf
  split at hf
  · rename_i s t
    have := Nat.eq_of_beq_eq_true hf
    subst this
    simp only [Opd.ev] at h
    split at h
    · rename_i v hv
      have := he.2 _ _ hv
      exact ⟨v, h, this.1, this.2⟩
    · exact h.elim
  · rename_i cs u
    rw [Bool.and_eq_true] at hf
    have h1 := ZbY (ρ := ρ) (n := n) hf.1
    refine ⟨_, h, by simp only [SVal.ok]; exact h1.1, ?_⟩
    simp only [SVal.conc, h1.2, ZcZ hf.2, Act.eval]
  · rename_i v u _
    rw [Bool.and_eq_true] at hf
    have h1 := ZgF (ρ := ρ) (n := n) hf.1
    exact ⟨v, h, h1.1, by rw [h1.2]; exact (ZrR hf.2).symm⟩
  · rename_i f g
    have := Nat.eq_of_beq_eq_true hf
    subst this
    exact ⟨_, h, by simp [SVal.ok, okL], by simp [SVal.conc, Act.eval, ZaH]⟩
  · cases hf
def ZfQ : List Opd -> List Operand -> Bool
  | [], [] => true
  | x :: r, y :: q => x.fits y && ZfQ r q
  | _, _ => false
theorem Zfg {e : Env} {ρ : Rho} {n nt : Nat} {a : Act} (he : EnvOk ρ n nt e a.tmps) : ∀ {xs : List Opd} {ys : List Operand} {K : List SVal -> Prop}, ZfQ xs ys = true -> evL e xs K ->
    ∃ vs, K vs /\ okL ρ n vs /\ ys.map a.eval = ZaH ρ vs
  | [], [], K, _, h => ⟨[], h, by simp [okL], by simp [ZaH]⟩
  | x :: r, y :: q, K, hf, h => by
    simp only [ZfQ, Bool.and_eq_true] at hf
    simp only [evL] at h
    obtain ⟨v, h1, h2, h3⟩ := Opd.ev_sound hf.1 he h
    obtain ⟨vs, h4, h5, h6⟩ := Zfg he hf.2 h1
    exact ⟨_, h4, by simp only [okL]; exact ⟨h2, h5⟩, by simp only [List.map_cons, ZaH, h3, h6]⟩
  | [], _ :: _, _, hf, _ => by cases hf
  | _ :: _, [], _, hf, _ => by cases hf
def Zc0 (P : Program) (t : TypeId) (n : Nat) : Bool := match P.info? t with | some i => Nat.beq i.size n | none => false
def Zkr (P : Program) (t : TypeId) (b : Bool) : Bool :=
  match P.underlying t with
  | some (.struct _) | some (.array _ _) => b
  | some _ => !b
  | none => false
def ZcX (P : Program) (t : TypeId) (z : List Chunk) : Bool :=
  match P.info? t with
  | some i => (match i.zero with | some v => Zbh z && Zky (Zab ρ0 z) v.cells.toList | none => false)
  | none => false
def ZxA (P : Program) (s : TypeId) (f off n : Nat) : Bool :=
  match P.underlying s with
  | some (.struct fs) => (match fs[f]? with | some fd => Nat.beq fd.offset off && Zc0 P fd.type n | none => false)
  | _ => false
def Zlp (P : Program) (t : TypeId) (sz : Nat) : Bool := match P.underlying t with | some (.slice e) => Zc0 P e sz | _ => false
def ZzD (P : Program) (t : TypeId) (len sz : Nat) : Bool := match P.underlying t with | some (.array n e) => Nat.beq n len && Zc0 P e sz | _ => false
def Zxt (P : Program) (t : TypeId) (k : IntKind) : Bool := match P.underlying t with | some (.int k') => decide (k' = k) | _ => false
def Zo8 (P : Program) (t : TypeId) : List (Nat × Nat × Opd) -> List (Nat × Operand) -> Bool
  | [], [] => true
  | (off, sz, x) :: r, (i, y) :: q => x.fits y && (match P.underlying t with
      | some (.struct fs) => (match fs[i]? with | some fd => Nat.beq fd.offset off && Zc0 P fd.type sz | none => false)
      | some (.array _ e) => Zc0 P e sz && Nat.beq off (i * sz)
      | _ => false) && Zo8 P t r q
  | _, _ => false
def Zxz : List (Nat × Opd) -> List (Nat × Operand) -> Bool
  | [], [] => true
  | (i, x) :: r, (j, y) :: q => Nat.beq i j && x.fits y && Zxz r q
  | _, _ => false
def ZsN (P : Program) (t : TypeId) : Bool :=
  match P.underlying t with
  | some (.struct fs) => fs.toList.all fun f => (P.info? f.type).isSome
  | some (.array _ e) => (P.info? e).isSome
  | _ => false
def Zu0 : Option Opd -> Option Operand -> Bool
  | none, none => true
  | some x, some y => x.fits y
  | _, _ => false
def ZrT (P : Program) (t : TypeId) (k : IntKind) : Bool := match P.underlying t with
  | some (.slice e) => (match P.info? e with | some i => Nat.beq i.size 1 && Nat.ble i.bytes 8 && ZcX P e [.one (.int k 0)] | none => false)
  | _ => false
def two (_P : Program) (p q : TypeId -> Bool) : List TypeId -> Bool
  | [a, b] => p a && q b
  | _ => false
def Zzi (P : Program) (t : TypeId) : Bool := match P.underlying t with | some (.slice _) => true | _ => false
def ZN9 (P : Program) (t : TypeId) : Bool := match P.underlying t with | some .string => true | _ => false
def ZLS : Bool -> BinOp -> Bool
  | false, .eql => true
  | true, .neq => true
  | _, _ => false
def ZOd : Operand -> Bool
  | .const (.pointer none) => true
  | _ => false
def ZOf (P : Program) (t : TypeId) : Bool := match P.underlying t with | some (.pointer _) => true | _ => false
def ZsM (P : Program) (f : FuncId) : Bool := match P.funcs[f]? with | some fn => fn.body.isSome && !(fn.name == "runtime.NumGoroutine") | none => false
def Ze7 : List Chunk -> Option (List (Option IntKind))
  | [] => some []
  | .one (.int k _) :: r => (Ze7 r).map (some k :: ·)
  | .one (.bool _) :: r => (Ze7 r).map (none :: ·)
  | .ints k n _ :: r => (Ze7 r).map (List.replicate n (some k) ++ ·)
  | _ => none
def Zr3 (P : Program) (t : TypeId) (z : List Chunk) : Bool := match Za5 P 20 t, Ze7 z with
  | some a, some b => decide (a = b)
  | _, _ => false
def Zkn : Nat -> List Opd -> List (Nat × Operand) -> Bool
  | _, [], [] => true
  | i, x :: r, (j, y) :: q => Nat.beq i j && x.fits y && Zkn (i + 1) r q
  | _, _, _ => false
def ZnP (P : Program) (t : TypeId) (sh : List Leaf) : Bool := match P.underlying t with
  | some (.slice e) => (match P.info? e with | some i => Nat.beq i.size (Zaj sh) && Nat.ble i.bytes 100000 && Nat.ble 1 (Zaj sh) && ZcX P e (Zbf sh (Tup.dflt sh)) | none => false)
  | _ => false
def ZEd (P : Program) (t : TypeId) : Bool := match P.underlying t with
  | some (.slice e) => (match P.info? e with | some i => Nat.beq i.size 1 && ZcX P e [.one .nilptr] | none => false)
  | _ => false
def ZEp (P : Program) (t : TypeId) (k : IntKind) : Bool := match P.underlying t with | some (.map kt _) => Zxt P kt k | _ => false
def ZMU (P : Program) (t : TypeId) (k : IntKind) : Bool := match P.underlying t with
  | some (.map _ et) => (match P.info? et with | some i => (match i.zero with | some v => Zky [v] [.int k 0] | none => false) | none => false)
  | _ => false
def AOp.fits (P : Program) (x : AOp) (o : Op) : Bool :=
  match x with
  | .mov x => (match o with | .move y | .assign y => x.fits y | _ => false)
  | .bin op x y => (match o with | .binOp op' _ x' y' _ => decide (op = op') && x.fits x' && y.fits y' | _ => false)
  | .not x => (match o with | .unOp .not _ x' => x.fits x' | _ => false)
  | .conv k x => (match o with | .convert s d x' => x.fits x' && Zxt P d k && (P.underlying s).isSome | _ => false)
  | .box x => (match o with | .box _ x' => x.fits x' | _ => false)
  | .alloc z => (match o with | .alloc t => ZcX P t z | _ => false)
  | .build zs ps => (match o with | .build t parts => ZcX P t zs && ZsN P t && Zo8 P t ps parts.toList | _ => false)
  | .bslice k n ps => (match o with | .buildSlice t n' parts => Nat.beq n n' && Nat.ble n 1000 && Zxz ps parts.toList && (match P.underlying t with | some (.slice e) => Zc0 P e 1 && ZcX P e [.one (.int k 0)] | _ => false) | _ => false)
  | .load1 x => (match o with | .load t x' => x.fits x' && Zkr P t false | _ => false)
  | .loadA sz x => (match o with | .load t x' => x.fits x' && Zkr P t true && Zc0 P t sz | _ => false)
  | .store1 x v => (match o with | .store t x' v' => x.fits x' && v.fits v' && Zc0 P t 1 | _ => false)
  | .storeA sz x v => (match o with | .store t x' v' => x.fits x' && v.fits v' && Zc0 P t sz | _ => false)
  | .fieldAddr x off n => (match o with | .fieldAddr t x' f => x.fits x' && ZxA P t f off n && !(Nat.beq n 0) | _ => false)
  | .idxS x i sz => (match o with | .indexAddr t x' i' => x.fits x' && i.fits i' && Zlp P t sz | _ => false)
  | .idxA x i m sz => (match o with | .indexAddr t x' i' => x.fits x' && i.fits i' && ZzD P t m sz | _ => false)
  | .len x => (match o with | .call { callee := .builtin .len, args := xs, argTypes := ts } => ZfQ [x] xs.toList && (match ts[0]? with | some t => (match P.underlying t with | some (.slice _) => true | _ => false) | none => false) | _ => false)
  | .slen x => (match o with | .call { callee := .builtin .len, args := xs, argTypes := ts } => ZfQ [x] xs.toList && (match ts[0]? with | some t => (match P.underlying t with | some .string => true | _ => false) | none => false) | _ => false)
  | .extract x i => (match o with | .extract x' i' => x.fits x' && Nat.beq i i' | _ => false)
  | .nilCheck x => (match o with | .nilCheck x' => x.fits x' | _ => false)
  | .call f args => (match o with | .call { callee := .value (.func g), args := args', .. } => Nat.beq f g && ZfQ args args'.toList && ZsM P f | _ => false)
  | .append k x y => (match o with | .call { callee := .builtin .append, args := xs, argTypes := ts } => ZfQ [x, y] xs.toList && two P (fun t => ZrT P t k) (Zzi P) ts.toList | _ => false)
  | .sliceP n x lo hi mx => (match o with | .slice t x' lo' hi' mx' => x.fits x' && Zu0 lo lo' && Zu0 hi hi' && Zu0 mx mx' && ZzD P t n 1 | _ => false)
  | .mkslice k l c => (match o with | .makeSlice t l' c' => l.fits l' && c.fits c' && ZrT P t k | _ => false)
  | .strIdx x i => (match o with | .index t x' i' => x.fits x' && i.fits i' && ZN9 P t | _ => false)
  | .eqA ne z x y => (match o with | .binOp op t x' y' _ => ZLS ne op && x.fits x' && y.fits y' && Znn P t && !(P.eqGuardType P.depth t) && Zr3 P t z | _ => false)
  | .buildI k n ps => (match o with | .build t parts => ZcX P t [.ints k n (Zi2 n)] && Zxz ps parts.toList && (match P.underlying t with | some (.array _ e) => Zc0 P e 1 | _ => false) | _ => false)
  | .appendRW sh x y => (match o with | .call { callee := .builtin .append, args := xs, argTypes := ts } => ZfQ [x, y] xs.toList && two P (fun t => ZnP P t sh) (Zzi P) ts.toList | _ => false)
  | .isNilP ne x => (match o with | .binOp op t x' y' _ => ZLS ne op && x.fits x' && ZOd y' && ZOf P t | _ => false)
  | .makeMap z => (match o with | .makeMap _ none => (match z with | [.ints _ n []] => Nat.beq n 0 | [.rows _ n []] => Nat.beq n 0 | [.rows [.int .i64, .int .i64] n [], .ints .i64 m []] => Nat.beq n 0 && Nat.beq m 0 | _ => false) | _ => false)
  | .mapUpd k x y v => (match o with | .mapUpdate t x' y' v' => x.fits x' && y.fits y' && v.fits v' && ZEp P t k | _ => false)
  | .mapUpV x y v => (match o with | .mapUpdate t x' y' v' => x.fits x' && y.fits y' && v.fits v' && ZEp P t .i64 | _ => false)
  | .mapDel x y => (match o with | .call { callee := .builtin .delete, args := xs, argTypes := ts } => ZfQ [x, y] xs.toList && (match ts.toList with | [t, _] => ZEp P t .i64 | _ => false) | _ => false)
  | .mapGet x y => (match o with | .lookup t x' y' false => x.fits x' && y.fits y' && ZEp P t .i64 && ZMU P t .i64 | _ => false)
  | .mapLen x => (match o with | .call { callee := .builtin .len, args := xs, argTypes := ts } => ZfQ [x] xs.toList && (match ts[0]? with | some t => (match P.underlying t with | some (.map _ _) => true | _ => false) | none => false) | _ => false)
  | .appendIn sh x y => (match o with | .call { callee := .builtin .append, args := xs, argTypes := ts } => ZfQ [x, y] xs.toList && two P (fun t => ZnP P t sh) (Zzi P) ts.toList | _ => false)
  | .clearR sh x => (match o with | .call { callee := .builtin .clear, args := xs, argTypes := ts } => ZfQ [x] xs.toList && (match ts[0]? with | some t => ZnP P t sh | none => false) | _ => false)
  | .load1P x => (match o with | .load t x' => x.fits x' && Zkr P t false | _ => false)
  | .loadHr x => (match o with | .load t x' => x.fits x' && Zkr P t false | _ => false)
  | .loadHq x => (match o with | .load t x' => x.fits x' && Zkr P t false | _ => false)
  | .idxHq x i _ => (match o with | .indexAddr t x' i' => x.fits x' && i.fits i' && Zlp P t 1 | _ => false)
  | .loadRq x _ _ => (match o with | .load t x' => x.fits x' && Zkr P t false | _ => false)
  | .bsliceH k ps => (match o with | .buildSlice t n' parts => Nat.beq n' ps.length && Nat.ble n' 1 && Zkn 0 ps parts.toList && ZnP P t [.hd] | _ => false)
  | .appendH x y => (match o with | .call { callee := .builtin .append, args := xs, argTypes := ts } => ZfQ [x, y] xs.toList && two P (fun t => ZnP P t [.hd]) (Zzi P) ts.toList | _ => false)
  | .bsliceV n ps => (match o with | .buildSlice t n' parts => Nat.beq n n' && Nat.ble 1 n && Nat.ble n 1000000 && Nat.beq ps.length n && Zkn 0 ps parts.toList && ZEd P t | _ => false)
  | .appendFit sh x y => (match o with | .call { callee := .builtin .append, args := xs, argTypes := ts } => ZfQ [x, y] xs.toList && two P (fun t => ZnP P t sh) (Zzi P) ts.toList | _ => false)
  | .bad => true
def OpPost (w0 : World) (fp : Nat -> Nat -> Prop) (ρ : Rho) (H : Heap) (K : SVal -> Heap -> Prop) (v : Value) (w' : World) : Prop :=
  ∃ ρ' sv H', K sv H' /\ v = sv.conc ρ' /\ sv.ok ρ' H'.next /\ (∀ id, id < H.next -> ρ' id = ρ id) /\ H.next <= H'.next /\ Rel w0 fp ρ' H' w'
def Runs (P : Program) (a : Act) (o : Oper) (w : World) (Post : Value -> World -> Prop) : Prop :=
  ∃ v w', ((execOp a.eval o).run P w = .ok (.value v) w' ∨ ((execOp a.eval o).run P w = .ok .skip w' /\ v = undef)) /\ Post v w'
theorem Runs.wp {P : Program} {a : Act} {o : Oper} {w : World} {Post : Value -> World -> Prop} {next : Act -> World -> Prop} {Q} (h : Runs P a o w Post) (hn : ∀ v w', Post v w' -> next (a.put o.dst v) w') : o.wp P a w next Q := by
  obtain ⟨v, w', h1, h2⟩ := h
  unfold Oper.wp
  rcases h1 with h1 | ⟨h1, rfl⟩
  · rw [h1]; exact hn _ _ h2
  · rw [h1]; exact hn _ _ h2
section
variable {P : Program} {a : Act} {o : Oper} {w w0 : World} {fp : Nat -> Nat -> Prop} {ρ : Rho} {H : Heap} {e : Env} {nt : Nat} {K : SVal -> Heap -> Prop}
theorem OpPost.same (hr : Rel w0 fp ρ H w) {sv : SVal} (hK : K sv H) (hok : sv.ok ρ H.next) : OpPost w0 fp ρ H K (sv.conc ρ) w :=
  ⟨ρ, sv, H, hK, rfl, hok, fun _ _ => rfl, Nat.le_refl _, hr⟩
def Looks (P : Program) (a : Act) (o : Oper) (w0 : World) (fp : Nat -> Nat -> Prop) (ρ : Rho) (H : Heap) (K : SVal -> Heap -> Prop) : Prop :=
  ∃ sv, K sv H /\ sv.ok ρ H.next /\ ∀ w, Rel w0 fp ρ H w -> (execOp a.eval o).run P w = .ok (.value (sv.conc ρ)) w
theorem Looks.runs (h : Looks P a o w0 fp ρ H K) (hr : Rel w0 fp ρ H w) : Runs P a o w (OpPost w0 fp ρ H K) :=
  let ⟨_, hK, hok, hrun⟩ := h
  ⟨_, _, .inl (hrun w hr), .same hr hK hok⟩
theorem ZgL {x : Opd} (hf : (AOp.mov x).fits P o.op = true) (he : EnvOk ρ H.next nt e a.tmps) (_hr : Rel w0 fp ρ H w) {Γ} (h : ZaV Γ (.mov x) e H K) : Looks P a o w0 fp ρ H K := by
  simp only [AOp.fits] at hf
  simp only [ZaV] at h
  split at hf
  · rename_i y hop
    obtain ⟨v, h1, h2, h3⟩ := Opd.ev_sound hf he h
    exact ⟨_, h1, h2, fun w hr => by simp [execOp, hop, h3]⟩
  · rename_i y hop
    obtain ⟨v, h1, h2, h3⟩ := Opd.ev_sound hf he h
    exact ⟨_, h1, h2, fun w hr => by simp [execOp, hop, h3]⟩
  · cases hf
theorem Zha {op : BinOp} {x y : Opd} (hf : (AOp.bin op x y).fits P o.op = true) (he : EnvOk ρ H.next nt e a.tmps) (_hr : Rel w0 fp ρ H w) {Γ} (h : ZaV Γ (.bin op x y) e H K) : Looks P a o w0 fp ρ H K := by
  simp only [AOp.fits] at hf
  simp only [ZaV] at h
  split at hf
  · rename_i op' t x' y' yt hop
    rw [Bool.and_eq_true, Bool.and_eq_true, decide_eq_true_eq] at hf
    obtain ⟨⟨rfl, hx⟩, hy⟩ := hf
    obtain ⟨u, h, _, h3⟩ := Opd.ev_sound hx he h
    obtain ⟨v, h, _, h5⟩ := Opd.ev_sound hy he h
    cases u with
    | int k n =>
      cases v with
      | int k' m =>
        simp only [SVal.conc] at h3 h5
        have hrun : ∀ w : World, (execOp a.eval o).run P w = ((binOp op t (.int k n) (.int k' m)).run P w).andThen fun v w' => .ok (.value v) w' := by
          intro w
          simp only [execOp, hop, h3, h5, eqGuard]
          cases op <;> simp
        cases op <;> simp only [ZE0] at h
        case quo =>
          obtain ⟨h0, h1, hK⟩ := Zai h
          obtain rfl := Zb6 h0
          exact ⟨_, hK, (by simp [SVal.ok]), fun w hr => by rw [hrun]; simp [binOp, Op.intDiv, h1, SVal.conc]⟩
        case rem =>
          obtain ⟨h0, h1, hK⟩ := Zai h
          obtain rfl := Zb6 h0
          exact ⟨_, hK, (by simp [SVal.ok]), fun w hr => by rw [hrun]; simp [binOp, Op.intDiv, h1, SVal.conc]⟩
        case shl =>
          obtain ⟨h1, h⟩ := h
          exact ⟨_, h, (by simp [SVal.ok]), fun w hr => by rw [hrun]; simp [binOp, Op.shift, Int.not_lt.2 h1, SVal.conc, Zgv]⟩
        case shr =>
          obtain ⟨h1, h⟩ := h
          exact ⟨_, h, (by simp [SVal.ok]), fun w hr => by rw [hrun]; simp [binOp, Op.shift, Int.not_lt.2 h1, SVal.conc, ZbF]⟩
        all_goals
          obtain ⟨h0, hK⟩ := Zai h
          obtain rfl := Zb6 h0
          exact ⟨_, hK, (by simp [SVal.ok]), fun w hr => by rw [hrun]; simp [binOp, Op.intArith, Op.intBits, Op.intCmp, SVal.conc, ZaR, ior, Zar, Zxu]⟩
      | _ => simp only [ZE0] at h
    | str s =>
      cases v with
      | str t' =>
        simp only [SVal.conc] at h3 h5
        have hrun : ∀ w : World, (execOp a.eval o).run P w = ((binOp op t (.string s) (.string t')).run P w).andThen fun v w' => .ok (.value v) w' := by
          intro w
          simp only [execOp, hop, h3, h5, eqGuard]
          cases op <;> simp
        cases op <;> simp only [ZE0] at h
        case add =>
          obtain ⟨h1, h⟩ := h
          refine ⟨_, h, (by simp [SVal.ok]), fun w hr => ?_⟩
          rw [hrun]
          have : ¬ (((s.size + t'.size : Nat) : Int) > IntKind.max .i64) := by
            simp only [IntKind.max, IntKind.signed, IntKind.bits]; omega
          simp only [binOp, Op.stringOp, if_neg this, SVal.conc]
          rfl
        case eql => exact ⟨_, h, (by simp [SVal.ok]), fun w hr => by rw [hrun]; simp [binOp, Op.stringOp, SVal.conc]⟩
        case neq => exact ⟨_, h, (by simp [SVal.ok]), fun w hr => by rw [hrun]; simp [binOp, Op.stringOp, SVal.conc]⟩
      | _ => simp only [ZE0] at h
    | _ => simp only [ZE0] at h
  · cases hf
theorem ZgJ {x : Opd} (hf : (AOp.not x).fits P o.op = true) (he : EnvOk ρ H.next nt e a.tmps) (_hr : Rel w0 fp ρ H w) {Γ} (h : ZaV Γ (.not x) e H K) : Looks P a o w0 fp ρ H K := by
  simp only [AOp.fits] at hf
  simp only [ZaV] at h
  split at hf
  · rename_i t x' hop
    obtain ⟨v, h, _, h3⟩ := Opd.ev_sound hf he h
    split at h
    · simp only [SVal.conc] at h3
      exact ⟨_, h, (by simp [SVal.ok]), fun w hr => by simp [execOp, hop, h3, Op.unary, SVal.conc]⟩
    · exact h.elim
  · cases hf
theorem ZfK {k : IntKind} {x : Opd} (hf : (AOp.conv k x).fits P o.op = true) (he : EnvOk ρ H.next nt e a.tmps) (_hr : Rel w0 fp ρ H w) {Γ} (h : ZaV Γ (.conv k x) e H K) : Looks P a o w0 fp ρ H K := by
  simp only [AOp.fits] at hf
  simp only [ZaV] at h
  split at hf
  · rename_i s d x' hop
    rw [Bool.and_eq_true, Bool.and_eq_true] at hf
    obtain ⟨⟨hx, hd⟩, hs⟩ := hf
    obtain ⟨v, h, _, h3⟩ := Opd.ev_sound hx he h
    split at h
    · simp only [SVal.conc] at h3
      unfold Zxt at hd
      split at hd
      · rename_i k' hk
        rw [decide_eq_true_eq] at hd
        subst hd
        obtain ⟨ds, hds⟩ := Option.isSome_iff_exists.1 hs
        exact ⟨_, h, (by simp [SVal.ok]), fun w hr => by simp [execOp, hop, h3, convert, run_underlying hds, run_underlying hk, Conv.intToInt, SVal.conc]⟩
      · cases hd
    · exact h.elim
  · cases hf
theorem Opd.ev_mono {e : Env} {x : Opd} {K K' : SVal -> Prop} (hk : ∀ v, K v -> K' v) (h : x.ev e K) : x.ev e K' := by
  unfold Opd.ev at *
  cases x with
  | tm n =>
    simp only at *
    cases hg : ZeN e n with
    | none => simp only [hg] at h
    | some u => simp only [hg] at h ⊢; exact hk _ h
  | cn v => exact hk _ h
theorem Zfy {xs : Array Operand} {f : Operand -> Value} {vs : List Value} (h : xs.toList.map f = vs) : xs.map f = vs.toArray := by
  rw [<- h, <- Array.toList_map, Array.toArray_toList]
theorem ZgI {e : Env} {x : Opd} {xs : Array Operand} {K : SVal -> Prop} {ρ : Rho} {n nt : Nat} {a : Act} (hf : ZfQ [x] xs.toList = true) (he : EnvOk ρ n nt e a.tmps) (h : x.ev e K) :
    ∃ v, K v /\ v.ok ρ n /\ xs.map a.eval = #[v.conc ρ] := by
  obtain ⟨vs, h1, h2, h3⟩ := Zfg (K := fun vs => ∃ v, vs = [v] /\ K v) he hf (by
    simp only [evL]; exact Opd.ev_mono (fun v hv => ⟨v, rfl, hv⟩) h)
  obtain ⟨v, rfl, hK⟩ := h1
  simp only [okL] at h2
  exact ⟨v, hK, h2.1, by rw [Zfy h3]; simp [ZaH]⟩
theorem Zb3 {x : Opd} (hf : (AOp.len x).fits P o.op = true) (he : EnvOk ρ H.next nt e a.tmps) (_hr : Rel w0 fp ρ H w) {Γ} (h : ZaV Γ (.len x) e H K) : Looks P a o w0 fp ρ H K := by
  simp only [AOp.fits] at hf
  simp only [ZaV] at h
  split at hf
  · rename_i x' ts hop
    rw [Bool.and_eq_true] at hf
    obtain ⟨hx, ht⟩ := hf
    obtain ⟨v, h, _, h3⟩ := ZgI hx he h
    split at ht
    · rename_i t hts
      split at ht
      · rename_i el hu
        have hexec : ∀ (w : World) (u : Value), x'.map a.eval = #[u] -> (execOp a.eval o).run P w = ((Builtin.len_ ts o.type #[u]).run P w).andThen fun v w' => .ok (.value v) w' := by
          intro w u hu'
          simp [execOp, hop, resolve, invoke, builtin, hu']
        split at h
        · simp only [SVal.conc] at h3
          exact ⟨_, h, (by simp [SVal.ok]), fun w hr => by rw [hexec _ _ h3]; simp [Builtin.len_, hts, run_underlying hu, SVal.conc, goInt]⟩
        · simp only [SVal.conc] at h3
          exact ⟨_, h, (by simp [SVal.ok]), fun w hr => by rw [hexec _ _ h3]; simp [Builtin.len_, hts, run_underlying hu, SVal.conc, goInt]⟩
        · exact h.elim
      · cases ht
    · cases ht
  · cases hf
theorem Zft {x : Opd} (hf : (AOp.slen x).fits P o.op = true) (he : EnvOk ρ H.next nt e a.tmps) (_hr : Rel w0 fp ρ H w) {Γ} (h : ZaV Γ (.slen x) e H K) : Looks P a o w0 fp ρ H K := by
  simp only [AOp.fits] at hf
  simp only [ZaV] at h
  split at hf
  · rename_i x' ts hop
    rw [Bool.and_eq_true] at hf
    obtain ⟨hx, ht⟩ := hf
    obtain ⟨v, h, _, h3⟩ := ZgI hx he h
    split at ht
    · rename_i t hts
      split at ht
      · rename_i hu
        have hexec : ∀ (w : World) (u : Value), x'.map a.eval = #[u] -> (execOp a.eval o).run P w = ((Builtin.len_ ts o.type #[u]).run P w).andThen fun v w' => .ok (.value v) w' := by
          intro w u hu'
          simp [execOp, hop, resolve, invoke, builtin, hu']
        split at h
        · simp only [SVal.conc] at h3
          exact ⟨_, h, (by simp [SVal.ok]), fun w hr => by rw [hexec _ _ h3]; simp [Builtin.len_, hts, run_underlying hu, SVal.conc, goInt]⟩
        · exact h.elim
      · cases ht
    · cases ht
  · cases hf
theorem Zu9 {n : Nat} : ∀ {vs : List SVal} {i : Nat} {v : SVal}, okL ρ n vs -> vs[i]? = some v -> v.ok ρ n /\ (ZaH ρ vs)[i]? = some (v.conc ρ)
  | [], _, _, _, h => by simp at h
  | u :: r, 0, v, hok, h => by simp only [okL] at hok; simp at h; subst h; exact ⟨hok.1, by simp [ZaH]⟩
  | u :: r, i + 1, v, hok, h => by simp only [okL] at hok; simp at h; have := Zu9 hok.2 h; exact ⟨this.1, by simp [ZaH, this.2]⟩
theorem ZcE {x : Opd} {i : Nat} (hf : (AOp.extract x i).fits P o.op = true) (he : EnvOk ρ H.next nt e a.tmps) (_hr : Rel w0 fp ρ H w) {Γ} (h : ZaV Γ (.extract x i) e H K) : Looks P a o w0 fp ρ H K := by
  simp only [AOp.fits] at hf
  simp only [ZaV] at h
  split at hf
  · rename_i x' i' hop
    rw [Bool.and_eq_true] at hf
    have := Nat.eq_of_beq_eq_true hf.2
    subst this
    obtain ⟨v, h, hok, h3⟩ := Opd.ev_sound hf.1 he h
    split at h
    · rename_i vs
      simp only [SVal.conc] at h3
      simp only [SVal.ok] at hok
      split at h
      · rename_i u hu
        have := Zu9 hok hu
        exact ⟨_, h, this.1, fun w hr => by simp [execOp, hop, h3, Instr.extract, this.2]⟩
      · exact h.elim
    · exact h.elim
  · cases hf
theorem Zcp {x : Opd} (hf : (AOp.nilCheck x).fits P o.op = true) (he : EnvOk ρ H.next nt e a.tmps) (_hr : Rel w0 fp ρ H w) {Γ} (h : ZaV Γ (.nilCheck x) e H K) : Looks P a o w0 fp ρ H K := by
  simp only [AOp.fits] at hf
  simp only [ZaV] at h
  split at hf
  · rename_i x' hop
    obtain ⟨v, h, hok, h3⟩ := Opd.ev_sound hf he h
    split at h
    · rename_i ad n
      simp only [SVal.conc, SAddr.conc] at h3
      refine ⟨_, h, hok, fun w hr => ?_⟩
      simp only [SVal.ok] at hok
      obtain ⟨p, hp⟩ := Option.ne_none_iff_exists'.1 hok.2
      rw [hp] at h3
      simp [execOp, hop, h3, SVal.conc, SAddr.conc, hp]
    · exact h.elim
  · cases hf
end
end Go.Sx
