/- Part of the proof: SxEv. -/
import Derived.Test.YtinjdimejijabaaSxWorld
set_option linter.unusedVariables false
set_option linter.unusedSimpArgs false
namespace Go.Sx
inductive Opd | tm (n : Nat) | cn (v : SVal)
inductive AOp
  | mov (x : Opd)
  | bin (op : BinOp) (x y : Opd)
  | not (x : Opd)
  | conv (k : IntKind) (x : Opd)
  | box (x : Opd)
  | alloc (z : List Chunk)
  | build (zs : List Chunk) (ps : List (Nat × Nat × Opd))
  | bslice (k : IntKind) (n : Nat) (ps : List (Nat × Opd))
  | load1 (x : Opd)
  | loadA (sz : Nat) (x : Opd)
  | store1 (x v : Opd)
  | storeA (sz : Nat) (x v : Opd)
  | fieldAddr (x : Opd) (off n : Nat)
  | idxS (x i : Opd) (sz : Nat)
  | idxA (x i : Opd) (len sz : Nat)
  | len (x : Opd)
  | min2 (x y : Opd)
  | extract (x : Opd) (i : Nat)
  | nilCheck (x : Opd)
  | call (f : Nat) (args : List Opd)
  | append (k : IntKind) (x y : Opd)
  | sliceS (sz : Nat) (x : Opd) (lo hi mx : Option Opd)
  | sliceP (n : Nat) (x : Opd) (lo hi mx : Option Opd)
  | isNil (ne : Bool) (x : Opd)
  | mkslice (k : IntKind) (l c : Opd)
  | copy (k : IntKind) (x y : Opd)
  | eqA (ne : Bool) (z : List Chunk) (x y : Opd)
  | bsliceR (sh : List Leaf) (n : Nat) (ps : List Opd)
  | appendR (sh : List Leaf) (x y : Opd)
  | mksliceR (sh : List Leaf) (l c : Opd)
  | bad
abbrev Env := List (Nat × Option SVal)
def ZbL : Env -> Nat -> Option SVal
  | [], _ => none
  | (k, v) :: r, n => bif Nat.beq k n then v else ZbL r n
def Opd.ev (e : Env) (x : Opd) (K : SVal -> Prop) : Prop :=
  match x with
  | .cn v => K v
  | .tm n => match ZbL e n with
    | some v => K v
    | none => False
def evL (e : Env) : List Opd -> (List SVal -> Prop) -> Prop
  | [], K => K []
  | x :: r, K => x.ev e fun v => evL e r fun vs => K (v :: vs)
def Zma (k : IntKind) (a b : Int) : Int := k.wrap (BitVec.ofInt k.bits a &&& BitVec.ofInt k.bits b).toNat
def ior (k : IntKind) (a b : Int) : Int := k.wrap (BitVec.ofInt k.bits a ||| BitVec.ofInt k.bits b).toNat
def ZQm (k : IntKind) (a b : Int) : Int := k.wrap (BitVec.ofInt k.bits a ^^^ BitVec.ofInt k.bits b).toNat
def ZxQ (k : IntKind) (a b : Int) : Int := k.wrap (BitVec.ofInt k.bits a &&& ~~~ BitVec.ofInt k.bits b).toNat
def ZAn (k : IntKind) (a b : Int) : Int := k.wrap (a * 2 ^ (min b.toNat k.bits))
def ZG9 (k : IntKind) (a b : Int) : Int := a.fdiv (2 ^ (min b.toNat k.bits))
def kEq : IntKind -> IntKind -> Bool
  | .i8, .i8 | .i16, .i16 | .i32, .i32 | .i64, .i64 | .u8, .u8 | .u16, .u16 | .u32, .u32 | .u64, .u64 => true
  | _, _ => false
def Zez (op : BinOp) (x y : SVal) (K : SVal -> Prop) : Prop :=
  match x, y with
  | .int k a, .int k' b =>
    match op with
    | .add => bif kEq k k' then K (.int k (k.wrap (a + b))) else False
    | .sub => bif kEq k k' then K (.int k (k.wrap (a - b))) else False
    | .mul => bif kEq k k' then K (.int k (k.wrap (a * b))) else False
    | .quo => bif kEq k k' then b ≠ 0 /\ K (.int k (k.wrap (a.tdiv b))) else False
    | .rem => bif kEq k k' then b ≠ 0 /\ K (.int k (a.tmod b)) else False
    | .and => bif kEq k k' then K (.int k (Zma k a b)) else False
    | .or => bif kEq k k' then K (.int k (ior k a b)) else False
    | .xor => bif kEq k k' then K (.int k (ZQm k a b)) else False
    | .andNot => bif kEq k k' then K (.int k (ZxQ k a b)) else False
    | .shl => 0 <= b /\ K (.int k (ZAn k a b))
    | .shr => 0 <= b /\ K (.int k (ZG9 k a b))
    | .eql => bif kEq k k' then K (.bool (a == b)) else False
    | .neq => bif kEq k k' then K (.bool (a != b)) else False
    | .lss => bif kEq k k' then K (.bool (decide (a < b))) else False
    | .leq => bif kEq k k' then K (.bool (decide (a <= b))) else False
    | .gtr => bif kEq k k' then K (.bool (decide (b < a))) else False
    | .geq => bif kEq k k' then K (.bool (decide (b <= a))) else False
  | .str a, .str b =>
    match op with
    | .eql => K (.bool (a.toList == b.toList))
    | .neq => K (.bool (!(a.toList == b.toList)))
    | .add => ((a.size + b.size : Nat) : Int) <= 9223372036854775807 /\ K (.str (a ++ b))
    | _ => False
  | _, _ => False
def ZGI (K : SVal -> Prop) (off : Nat) : (l : Leaf) -> l.T -> Prop
  | .int k, x => bif Nat.beq off 0 then K (.int k x) else False
  | .bool, x => bif Nat.beq off 0 then K (.bool x) else False
  | .ints k n, x => off < n /\ K (.int k (List.getD x off 0))
def Zpk (K : SVal -> Prop) : (sh : List Leaf) -> Tup sh -> Nat -> Prop
  | [], _, _ => False
  | [l], x, off => ZGI K off l x
  | l :: m :: r, x, off => bif Nat.ble l.len off then Zpk K (m :: r) x.2 (off - l.len) else ZGI K off l x.1
def rdC (idx st : Nat) (K : SVal -> Prop) : List Chunk -> Nat -> Prop
  | [], _ => False
  | .one v :: r, off => bif Nat.beq off 0 then (bif Nat.beq idx 0 then K v else False) else rdC idx st K r (off - 1)
  | .ints k n xs :: r, off => bif Nat.beq off 0 then (bif Nat.beq st 1 then idx < n /\ K (.int k (xs.getD idx 0)) else False) else (bif Nat.ble n off then rdC idx st K r (off - n) else False)
  | .rows sh n xs :: _, off => bif Nat.beq st (ZaI sh) then idx < n /\ Zpk K sh (xs.getD idx (Tup.dflt sh)) off else False
def ZbB : SVal -> Bool
  | .agg _ | .tuple _ => false
  | _ => true
def Zbn : List Chunk -> Bool
  | [] => true
  | .one v :: r => ZbB v && Zbn r
  | .ints _ _ _ :: r => Zbn r
  | .rows _ _ _ :: r => Zbn r
def wrC (idx st : Nat) (v : SVal) : (List Chunk -> Prop) -> List Chunk -> Nat -> Prop
  | _, [], _ => False
  | K, .one u :: r, off => bif Nat.beq off 0 then (bif Nat.beq idx 0 then K (.one v :: r) else False) else wrC idx st v (fun l => K (.one u :: l)) r (off - 1)
  | K, .ints k n xs :: r, off => bif Nat.beq off 0 then
      match v with
      | .int k' m => bif kEq k' k && Nat.beq st 1 then idx < n /\ idx < xs.length /\ K (.ints k n (xs.set idx m) :: r) else False
      | _ => False
    else (bif Nat.ble n off then wrC idx st v (fun l => K (.ints k n xs :: l)) r (off - n) else False)
  | _, .rows _ _ _ :: _, _ => False
def Zee : (List Chunk -> Prop) -> List Chunk -> Nat -> Prop
  | K, [], sz => bif Nat.beq sz 0 then K [] else False
  | K, c :: r, sz => bif Nat.beq sz 0 then K [] else (bif Nat.ble c.len sz then Zee (fun l => K (c :: l)) r (sz - c.len) else False)
def ZeN : (List Chunk -> Prop) -> List Chunk -> Nat -> Prop
  | K, [], sz => bif Nat.beq sz 0 then K [] else False
  | K, c :: r, sz => bif Nat.beq sz 0 then K (c :: r) else (bif Nat.ble c.len sz then ZeN K r (sz - c.len) else False)
def ZdF : (l : Leaf) -> l.T -> Chunk
  | .int k, x => .one (.int k x)
  | .bool, x => .one (.bool x)
  | .ints k n, x => .ints k n x
def ZcE : (sh : List Leaf) -> Tup sh -> List Chunk
  | [], _ => []
  | [l], x => [ZdF l x]
  | l :: m :: r, x => ZdF l x.1 :: ZcE (m :: r) x.2
def rdA (idx st sz : Nat) (K : List Chunk -> Prop) : List Chunk -> Nat -> Prop
  | [], _ => False
  | .one v :: r, off => bif Nat.beq off 0 then (bif Nat.beq idx 0 then Zee K (.one v :: r) sz else False) else rdA idx st sz K r (off - 1)
  | .ints k n xs :: r, off => bif Nat.beq off 0 then
      (bif Nat.ble n sz then (bif Nat.beq idx 0 then Zee K (.ints k n xs :: r) sz else False)
       else (bif Nat.beq st 1 then idx + sz <= n /\ K [.ints k sz ((xs.drop idx).take sz)] else False))
    else (bif Nat.ble n off then rdA idx st sz K r (off - n) else False)
  | .rows sh n xs :: _, off => bif Nat.beq st (ZaI sh) then idx < n /\ ZeN (fun l => Zee K l sz) (ZcE sh (xs.getD idx (Tup.dflt sh))) off else False
def ZlZ : (l : Leaf) -> Chunk -> (l.T -> Prop) -> Prop
  | .int k, c, K => match c with
    | .one (.int k' x) => bif kEq k' k then K x else False
    | _ => False
  | .bool, c, K => match c with
    | .one (.bool x) => K x
    | _ => False
  | .ints k n, c, K => match c with
    | .ints k' n' xs => bif kEq k' k && Nat.beq n' n then K xs else False
    | _ => False
def Zuu : (sh : List Leaf) -> List Chunk -> (Tup sh -> Prop) -> Prop
  | [], _, _ => False
  | [l], cs, K => match cs with
    | [c] => ZlZ l c K
    | _ => False
  | l :: m :: r, cs, K => match cs with
    | c :: cs => ZlZ l c fun x => Zuu (m :: r) cs fun y => K (x, y)
    | [] => False
def wrA (idx st sz : Nat) (new : List Chunk) : (List Chunk -> Prop) -> List Chunk -> Nat -> Prop
  | _, [], _ => False
  | K, .one v :: r, off => bif Nat.beq off 0 then (bif Nat.beq idx 0 then ZeN (fun l => K (new ++ l)) (.one v :: r) sz else False) else wrA idx st sz new (fun l => K (.one v :: l)) r (off - 1)
  | K, .ints k n xs :: r, off => bif Nat.beq off 0 then
      (bif Nat.ble n sz then (bif Nat.beq idx 0 then ZeN (fun l => K (new ++ l)) (.ints k n xs :: r) sz else False)
       else match new with
        | [.ints k' m ys] => bif kEq k' k && Nat.beq m sz && Nat.beq st 1 then idx + sz <= n /\ xs.length = n /\ ys.length = sz /\ K (.ints k n (xs.take idx ++ ys ++ xs.drop (idx + sz)) :: r) else False
        | _ => False)
    else (bif Nat.ble n off then wrA idx st sz new (fun l => K (.ints k n xs :: l)) r (off - n) else False)
  | K, .rows sh n xs :: r, off => bif Nat.beq off 0 && Nat.beq st (ZaI sh) && Nat.beq sz (ZaI sh) then idx < n /\ xs.length = n /\ Zuu sh new (fun t => K (.rows sh n (xs.set idx t) :: r)) else False
def SVal.chunks : SVal -> List Chunk
  | .agg cs => cs
  | v => [.one v]
def Zbc (e : Env) : List (Nat × Nat × Opd) -> List Chunk -> (List Chunk -> Prop) -> Prop
  | [], zs, K => K zs
  | (off, sz, x) :: ps, zs, K => x.ev e fun v => bif Nat.beq (Zaw v.chunks) sz then wrA 0 1 sz v.chunks (fun zs' => Zbc e ps zs' K) zs off else False
def Zbz : Nat -> List Int
  | 0 => []
  | n + 1 => 0 :: Zbz n
def ZbA (e : Env) (k : IntKind) : List (Nat × Opd) -> List Int -> (List Int -> Prop) -> Prop
  | [], xs, K => K xs
  | (i, x) :: ps, xs, K => x.ev e fun v => match v with
    | .int k' n => bif kEq k' k && Nat.blt i xs.length then ZbA e k ps (xs.set i n) K else False
    | _ => False
def Zef (lo st len : Nat) (K : Chunk -> Prop) : List Chunk -> Nat -> Prop
  | [], _ => False
  | .one _ :: r, off => bif Nat.beq off 0 then False else Zef lo st len K r (off - 1)
  | .ints k n xs :: r, off => bif Nat.beq off 0 then (bif Nat.beq st 1 then lo + len <= n /\ K (.ints k len ((xs.drop lo).take len)) else False)
    else (bif Nat.ble n off then Zef lo st len K r (off - n) else False)
  | .rows _ _ _ :: _, _ => False
def Zb3 (lo len : Nat) (k' : IntKind) (n' : Nat) (ys : List Int) : (List Chunk -> Prop) -> List Chunk -> Nat -> Prop
  | _, [], _ => False
  | K, .one v :: r, off => bif Nat.beq off 0 then False else Zb3 lo len k' n' ys (fun l => K (.one v :: l)) r (off - 1)
  | K, .ints k n xs :: r, off => bif Nat.beq off 0 then
      (bif kEq k' k then n' = len /\ lo + len <= n /\ xs.length = n /\ ys.length = len /\ K (.ints k n (xs.take lo ++ ys ++ xs.drop (lo + len)) :: r) else False)
    else (bif Nat.ble n off then Zb3 lo len k' n' ys (fun l => K (.ints k n xs :: l)) r (off - n) else False)
  | _, .rows _ _ _ :: _, _ => False
def Zel (e : Env) (o : Option Opd) (y d : Nat) (K : Nat -> Prop) : Prop :=
  match o with
  | none => K d
  | some x => x.ev e fun v => match v with
    | .int _ n => 0 <= n /\ n <= y /\ K n.toNat
    | _ => False
def ZeF (e : Env) (lo hi mx : Option Opd) (len cap : Nat) (K : Nat -> Nat -> Nat -> Prop) : Prop :=
  match mx, hi with
  | some _, none => False
  | _, _ => Zel e mx cap cap fun m => Zel e hi m len fun h => Zel e lo h 0 fun l => K l h m
def slo (lo : Option Opd) (idx l m : Nat) : Nat :=
  match lo with
  | none => idx
  | some _ => idx + (if m = l then 0 else l)
def ZeG (H : Heap) (k : IntKind) (y : SVal) (K : Nat -> List Int -> Prop) : Prop :=
  match y with
  | .nilslice => K 0 []
  | .slice b n _ => (match H.find b.id with
    | some en => Zef b.idx b.st n (fun c => match c with
      | .ints k' _ ys => bif kEq k' k then K n ys else False
      | _ => False) en.cs b.off
    | none => False)
  | _ => False
def Zt2 (e : Env) (sh : List Leaf) : List Opd -> (List (Tup sh) -> Prop) -> Prop
  | [], K => K []
  | x :: r, K => x.ev e fun v => match v with
    | .agg cs => Zuu sh cs fun t => Zt2 e sh r fun ts => K (t :: ts)
    | _ => False
def Zi1 {sh' sh : List Leaf} (h : sh' = sh) (xs : List (Tup sh')) : List (Tup sh) := h ▸ xs
def ZON (H : Heap) (sh : List Leaf) (y : SVal) (K : Nat -> List (Tup sh) -> Prop) : Prop :=
  match y with
  | .nilslice => K 0 []
  | .slice b n _ => (match H.find b.id with
    | some en => bif Nat.beq b.off 0 && Nat.beq b.idx 0 then (match en.cs with
      | [.rows sh' m ys] => if h : sh' = sh then m = n /\ ys.length = n /\ K n (Zi1 h ys) else False
      | _ => False) else False
    | none => False)
  | _ => False
def ZAy : List Chunk -> List Chunk -> List Chunk -> (Bool -> Prop) -> Prop
  | [], [], [], K => K true
  | c :: z, a :: x, b :: y, K => match c, a, b with
    | .one (.int k _), .one (.int k1 i), .one (.int k2 j) => bif kEq k1 k && kEq k2 k then ZAy z x y fun q => K ((i == j) && q) else False
    | .one (.bool _), .one (.bool i), .one (.bool j) => ZAy z x y fun q => K ((i == j) && q)
    | .ints k n _, .ints k1 n1 xs, .ints k2 n2 ys => bif kEq k1 k && kEq k2 k && Nat.beq n1 n && Nat.beq n2 n then xs.length = n /\ ys.length = n /\ ZAy z x y fun q => K ((xs == ys) && q) else False
    | _, _, _ => False
  | _, _, _, _ => False
abbrev ZjV := List SVal -> Heap -> (SVal -> Heap -> Prop) -> Prop
abbrev Zbe := Nat -> List SVal -> Heap -> (SVal -> Heap -> Prop) -> Prop
def ZbR (Γ : Zbe) (o : AOp) (e : Env) (H : Heap) (K : SVal -> Heap -> Prop) : Prop :=
  match o with
  | .mov x => x.ev e fun v => K v H
  | .bin op x y => x.ev e fun x => y.ev e fun y => Zez op x y fun v => K v H
  | .not x => x.ev e fun x => match x with
    | .bool b => K (.bool (!b)) H
    | _ => False
  | .conv k x => x.ev e fun x => match x with
    | .int _ n => K (.int k (k.wrap n)) H
    | _ => False
  | .box x => x.ev e fun v => K (.ptr ⟨H.next, 0, 0, 1⟩ (Zaw v.chunks)) (H.push ⟨true, v.chunks, 0⟩)
  | .alloc z => K (.ptr ⟨H.next, 0, 0, 1⟩ (Zaw z)) (H.push ⟨true, z, 0⟩)
  | .build zs ps => Zbc e ps zs fun cs => K (.agg cs) H
  | .bslice k n ps => ZbA e k ps (Zbz n) fun xs => K (.slice ⟨H.next, 0, 0, 1⟩ n n) (H.push ⟨true, [.ints k n xs], 0⟩)
  | .load1 x => x.ev e fun x => match x with
    | .ptr a _ => (match H.find a.id with
      | some en => rdC a.idx a.st (fun v => K v H) en.cs a.off
      | none => False)
    | _ => False
  | .loadA sz x => x.ev e fun x => match x with
    | .ptr a _ => (match H.find a.id with
      | some en => rdA a.idx a.st sz (fun cs => K (.agg cs) H) en.cs a.off
      | none => False)
    | _ => False
  | .store1 x v => x.ev e fun x => v.ev e fun v => match x with
    | .ptr a _ => (match H.find a.id with
      | some en => bif en.wr && ZbB v then wrC a.idx a.st v (fun cs => K (.tuple []) (H.set a.id ⟨true, cs, en.ex⟩)) en.cs a.off else False
      | none => False)
    | _ => False
  | .storeA sz x v => x.ev e fun x => v.ev e fun v => match x, v with
    | .ptr a _, .agg new => (match H.find a.id with
      | some en => bif en.wr && Nat.beq (Zaw new) sz && Zbn new then wrA a.idx a.st sz new (fun cs => K (.tuple []) (H.set a.id ⟨true, cs, en.ex⟩)) en.cs a.off else False
      | none => False)
    | _, _ => False
  | .fieldAddr x off n => x.ev e fun x => match x with
    | .ptr a _ => K (.ptr ⟨a.id, a.off + off, a.idx, a.st⟩ n) H
    | _ => False
  | .idxS x i sz => x.ev e fun x => i.ev e fun i => match x, i with
    | .slice a len _, .int _ n => bif Nat.beq a.st sz then 0 <= n /\ n < len /\ K (.ptr ⟨a.id, a.off, a.idx + n.toNat, a.st⟩ sz) H else False
    | _, _ => False
  | .idxA x i len sz => x.ev e fun x => i.ev e fun i => match x, i with
    | .ptr a _, .int _ n => 0 <= n /\ n < len /\ K (.ptr ⟨a.id, a.off, a.idx * a.st + n.toNat * sz, 1⟩ sz) H
    | _, _ => False
  | .len x => x.ev e fun x => match x with
    | .slice _ n _ => K (.int .i64 n) H
    | .nilslice => K (.int .i64 0) H
    | _ => False
  | .min2 x y => x.ev e fun x => y.ev e fun y => match x, y with
    | .int k a, .int _ b => K (.int k (if b < a then b else a)) H
    | _, _ => False
  | .extract x i => x.ev e fun x => match x with
    | .tuple vs => (match vs[i]? with
      | some v => K v H
      | none => False)
    | _ => False
  | .nilCheck x => x.ev e fun x => match x with
    | .ptr a n => K (.ptr a n) H
    | _ => False
  | .call f args => evL e args fun vs => Γ f vs H K
  | .append k x y => x.ev e fun x => y.ev e fun y => ZeG H k y fun n ys => match x with
    | .nilslice => n <= 17592186044416 /\ ∀ c, n <= c -> K (.slice ⟨H.next, 0, 0, 1⟩ n c) (H.push ⟨true, [.ints k n ys], c - n⟩)
    | .slice a len cap => (match H.find a.id with
      | some en => bif en.wr && Nat.beq a.off 0 && Nat.beq a.idx 0 then (match en.cs with
        | [.ints k' m xs] => bif kEq k' k then m = len /\ xs.length = len /\ len + en.ex = cap /\ len + n <= 17592186044416 /\
            ∀ c, len + n <= c -> K (.slice ⟨H.next, 0, 0, 1⟩ (len + n) c) ((H.drop a.id).push ⟨true, [.ints k (len + n) (xs ++ ys)], c - (len + n)⟩) else False
        | _ => False) else False
      | none => False)
    | _ => False
  | .sliceS sz x lo hi mx => x.ev e fun x => match x with
    | .slice a len cap => bif Nat.beq a.st sz then ZeF e lo hi mx len cap fun l h m => K (.slice ⟨a.id, a.off, slo lo a.idx l m, a.st⟩ (h - l) (m - l)) H else False
    | .nilslice => ZeF e lo hi mx 0 0 fun _ _ _ => K .nilslice H
    | _ => False
  | .sliceP n x lo hi mx => x.ev e fun x => match x with
    | .ptr a _ => ZeF e lo hi mx n n fun l h m => K (.slice ⟨a.id, a.off, slo lo (a.idx * a.st) l m, 1⟩ (h - l) (m - l)) H
    | _ => False
  | .isNil ne x => x.ev e fun x => match x with
    | .slice _ l c => ∀ q : Bool, (q = true -> l = 0 /\ c = 0) -> K (.bool (bif ne then !q else q)) H
    | .nilslice => K (.bool (!ne)) H
    | _ => False
  | .mkslice k l c => l.ev e fun l => c.ev e fun c => match l, c with
    | .int _ l, .int _ c => 0 <= l /\ l <= c /\ c <= 1048576 /\ K (.slice ⟨H.next, 0, 0, 1⟩ l.toNat c.toNat) (H.push ⟨true, [.ints k l.toNat (List.replicate l.toNat 0)], c.toNat - l.toNat⟩)
    | _, _ => False
  | .copy k x y => x.ev e fun x => y.ev e fun y => ZeG H k y fun m ys => match x with
    | .nilslice => K (.int .i64 0) H
    | .slice a len _ => (match H.find a.id with
      | some en => bif en.wr && Nat.beq a.st 1 then Zb3 a.idx (min m len) k (min m len) (ys.take (min m len)) (fun cs => K (.int .i64 (min m len : Nat)) (H.set a.id ⟨true, cs, en.ex⟩)) en.cs a.off else False
      | none => False)
    | _ => False
  | .eqA ne z x y => x.ev e fun x => y.ev e fun y => match x, y with
    | .agg cs, .agg cs' => ZAy z cs cs' fun q => K (.bool (bif ne then !q else q)) H
    | _, _ => False
  | .bsliceR sh n ps => Zt2 e sh ps fun xs => K (.slice ⟨H.next, 0, 0, ZaI sh⟩ n n) (H.push ⟨true, [.rows sh n xs], 0⟩)
  | .appendR sh x y => x.ev e fun x => y.ev e fun y => ZON H sh y fun n ys => match x with
    | .nilslice => n <= 1000000000 /\ ∀ c, n <= c -> K (.slice ⟨H.next, 0, 0, ZaI sh⟩ n c) (H.push ⟨true, [.rows sh n ys], (c - n) * ZaI sh⟩)
    | .slice a len cap => (match H.find a.id with
      | some en => bif en.wr && Nat.beq a.off 0 && Nat.beq a.idx 0 then (match en.cs with
        | [.rows sh' m xs] => if h : sh' = sh then m = len /\ xs.length = len /\ len * ZaI sh + en.ex = cap * ZaI sh /\ len + n <= 1000000000 /\
            ∀ c, len + n <= c -> K (.slice ⟨H.next, 0, 0, ZaI sh⟩ (len + n) c) ((H.drop a.id).push ⟨true, [.rows sh (len + n) (Zi1 h xs ++ ys)], (c - (len + n)) * ZaI sh⟩) else False
        | _ => False) else False
      | none => False)
    | _ => False
  | .mksliceR sh l c => l.ev e fun l => c.ev e fun c => match l, c with
    | .int _ l, .int _ c => 0 <= l /\ l <= c /\ (ZaI sh : Int) * c <= 1048576 /\ K (.slice ⟨H.next, 0, 0, ZaI sh⟩ l.toNat c.toNat) (H.push ⟨true, [.rows sh l.toNat (List.replicate l.toNat (Tup.dflt sh))], (c.toNat - l.toNat) * ZaI sh⟩)
    | _, _ => False
  | .bad => False
end Go.Sx
