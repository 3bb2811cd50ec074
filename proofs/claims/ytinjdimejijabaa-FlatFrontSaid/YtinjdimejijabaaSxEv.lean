/- Part of the proof: SxEv. -/
import Derived.Test.YtinjdimejijabaaSxWorld
set_option linter.unusedVariables false
set_option linter.unusedSimpArgs false
namespace Go.Sx
inductive Opd | tm (n : Nat) | cn (v : SVal)
inductive AOp
  | mov (x : Opd)
  | pick (c a b : Opd)
  | bin (op : BinOp) (x y : Opd)
  | not (x : Opd)
  | neg (x : Opd)
  | inv (x : Opd)
  | conv (k : IntKind) (x : Opd)
  | box (x : Opd)
  | alloc (z : List Chunk)
  | build (zs : List Chunk) (ps : List (Nat × Nat × Opd))
  | bslice (k : IntKind) (n : Nat) (ps : List (Nat × Opd))
  | load1 (x : Opd)
  | loadA (sz : Nat) (x : Opd)
  | store1 (x v : Opd)
  | storeA (sz : Nat) (x v : Opd)
  | fieldAddr (x : Opd) (off n : Nat)
  | field1 (x : Opd) (off : Nat)
  | fieldA (x : Opd) (off sz : Nat)
  | idxS (x i : Opd) (sz : Nat)
  | idxA (x i : Opd) (len sz : Nat)
  | len (x : Opd)
  | slen (x : Opd)
  | min2 (x y : Opd)
  | max2 (x y : Opd)
  | extract (x : Opd) (i : Nat)
  | nilCheck (x : Opd)
  | call (f : Nat) (args : List Opd)
  | append (k : IntKind) (x y : Opd)
  | sliceS (sz : Nat) (x : Opd) (lo hi mx : Option Opd)
  | sliceP (n : Nat) (x : Opd) (lo hi mx : Option Opd)
  | sliceT (x : Opd) (lo hi : Option Opd)
  | isNil (ne : Bool) (x : Opd)
  | beq2 (ne : Bool) (x y : Opd)
  | mkslice (k : IntKind) (l c : Opd)
  | copy (k : IntKind) (x y : Opd)
  | strIdx (x i : Opd)
  | eqA (ne : Bool) (z : List Chunk) (x y : Opd)
  | buildI (k : IntKind) (n : Nat) (ps : List (Nat × Opd))
  | isNilP (ne : Bool) (x : Opd)
  | mkFn (f : Nat) (caps : List Opd)
  | callV (f : Nat) (x : Opd) (args : List Opd)
  | bsliceR (sh : List Leaf) (n : Nat) (ps : List Opd)
  | appendR (sh : List Leaf) (x y : Opd)
  | toStr (x : Opd)
  | mksliceR (sh : List Leaf) (l c : Opd)
  | bad
abbrev Env := List (Nat × Option SVal)
def ZbF : Env -> Nat -> Option SVal
  | [], _ => none
  | (k, v) :: r, n => bif Nat.beq k n then v else ZbF r n
def Opd.ev (e : Env) (x : Opd) (K : SVal -> Prop) : Prop :=
  match x with
  | .cn v => K v
  | .tm n => match ZbF e n with
    | some v => K v
    | none => False
def evL (e : Env) : List Opd -> (List SVal -> Prop) -> Prop
  | [], K => K []
  | x :: r, K => x.ev e fun v => evL e r fun vs => K (v :: vs)
def Zgz (k : IntKind) (a b : Int) : Int := k.wrap (BitVec.ofInt k.bits a &&& BitVec.ofInt k.bits b).toNat
def ior (k : IntKind) (a b : Int) : Int := k.wrap (BitVec.ofInt k.bits a ||| BitVec.ofInt k.bits b).toNat
def ZBo (k : IntKind) (a b : Int) : Int := k.wrap (BitVec.ofInt k.bits a ^^^ BitVec.ofInt k.bits b).toNat
def ZrK (k : IntKind) (a b : Int) : Int := k.wrap (BitVec.ofInt k.bits a &&& ~~~ BitVec.ofInt k.bits b).toNat
def ZsY (k : IntKind) (a b : Int) : Int := k.wrap (a * 2 ^ (min b.toNat k.bits))
def ZAX (k : IntKind) (a b : Int) : Int := a.fdiv (2 ^ (min b.toNat k.bits))
def kEq : IntKind -> IntKind -> Bool
  | .i8, .i8 | .i16, .i16 | .i32, .i32 | .i64, .i64 | .u8, .u8 | .u16, .u16 | .u32, .u32 | .u64, .u64 => true
  | _, _ => false
def Zd3 (op : BinOp) (x y : SVal) (K : SVal -> Prop) : Prop :=
  match x, y with
  | .int k a, .int k' b =>
    match op with
    | .add => bif kEq k k' then K (.int k (k.wrap (a + b))) else False
    | .sub => bif kEq k k' then K (.int k (k.wrap (a - b))) else False
    | .mul => bif kEq k k' then K (.int k (k.wrap (a * b))) else False
    | .quo => bif kEq k k' then b ≠ 0 /\ K (.int k (k.wrap (a.tdiv b))) else False
    | .rem => bif kEq k k' then b ≠ 0 /\ K (.int k (a.tmod b)) else False
    | .and => bif kEq k k' then K (.int k (Zgz k a b)) else False
    | .or => bif kEq k k' then K (.int k (ior k a b)) else False
    | .xor => bif kEq k k' then K (.int k (ZBo k a b)) else False
    | .andNot => bif kEq k k' then K (.int k (ZrK k a b)) else False
    | .shl => 0 <= b /\ K (.int k (ZsY k a b))
    | .shr => 0 <= b /\ K (.int k (ZAX k a b))
    | .eql => bif kEq k k' then K (.bool (a == b)) else False
    | .neq => bif kEq k k' then K (.bool (a != b)) else False
    | .lss => bif kEq k k' then K (.bool (decide (a < b))) else False
    | .leq => bif kEq k k' then K (.bool (decide (a <= b))) else False
    | .gtr => bif kEq k k' then K (.bool (decide (b < a))) else False
    | .geq => bif kEq k k' then K (.bool (decide (b <= a))) else False
  | .str a, .str b =>
    match op with
    | .eql => K (.bool (a.toList == b.toList))
    | .neq => K (.bool (!(a.toList == b.toList)))
    | .add => ((a.size + b.size : Nat) : Int) <= 9223372036854775807 /\ K (.str (a ++ b))
    | _ => False
  | _, _ => False
def ZwE (K : SVal -> Prop) (off : Nat) : (l : Leaf) -> l.T -> Prop
  | .int k, x => bif Nat.beq off 0 then K (.int k x) else False
  | .bool, x => bif Nat.beq off 0 then K (.bool x) else False
  | .ints k n, x => off < n /\ K (.int k (List.getD x off 0))
def Zk6 (K : SVal -> Prop) : (sh : List Leaf) -> Tup sh -> Nat -> Prop
  | [], _, _ => False
  | [l], x, off => ZwE K off l x
  | l :: m :: r, x, off => bif Nat.ble l.len off then Zk6 K (m :: r) x.2 (off - l.len) else ZwE K off l x.1
def rdC (idx st : Nat) (K : SVal -> Prop) : List Chunk -> Nat -> Prop
  | [], _ => False
  | .one v :: r, off => bif Nat.beq off 0 then (bif Nat.beq idx 0 then K v else False) else rdC idx st K r (off - 1)
  | .ints k n xs :: r, off => bif Nat.beq off 0 then (bif Nat.beq st 1 then idx < n /\ K (.int k (xs.getD idx 0)) else False) else (bif Nat.ble n off then rdC idx st K r (off - n) else False)
  | .rows sh n xs :: _, off => bif Nat.beq st (ZaG sh) then idx < n /\ Zk6 K sh (xs.getD idx (Tup.dflt sh)) off else False
def Zbv : SVal -> Bool
  | .agg _ | .tuple _ => false
  | _ => true
def Zbj : List Chunk -> Bool
  | [] => true
  | .one v :: r => Zbv v && Zbj r
  | .ints _ _ _ :: r => Zbj r
  | .rows _ _ _ :: r => Zbj r
def wrC (idx st : Nat) (v : SVal) : (List Chunk -> Prop) -> List Chunk -> Nat -> Prop
  | _, [], _ => False
  | K, .one u :: r, off => bif Nat.beq off 0 then (bif Nat.beq idx 0 then K (.one v :: r) else False) else wrC idx st v (fun l => K (.one u :: l)) r (off - 1)
  | K, .ints k n xs :: r, off => bif Nat.beq off 0 then
      match v with
      | .int k' m => bif kEq k' k && Nat.beq st 1 then idx < n /\ idx < xs.length /\ K (.ints k n (xs.set idx m) :: r) else False
      | _ => False
    else (bif Nat.ble n off then wrC idx st v (fun l => K (.ints k n xs :: l)) r (off - n) else False)
  | _, .rows _ _ _ :: _, _ => False
def ZdB : (List Chunk -> Prop) -> List Chunk -> Nat -> Prop
  | K, [], sz => bif Nat.beq sz 0 then K [] else False
  | K, c :: r, sz => bif Nat.beq sz 0 then K [] else (bif Nat.ble c.len sz then ZdB (fun l => K (c :: l)) r (sz - c.len) else False)
def Zet : (List Chunk -> Prop) -> List Chunk -> Nat -> Prop
  | K, [], sz => bif Nat.beq sz 0 then K [] else False
  | K, c :: r, sz => bif Nat.beq sz 0 then K (c :: r) else (bif Nat.ble c.len sz then Zet K r (sz - c.len) else False)
def ZcQ : (l : Leaf) -> l.T -> Chunk
  | .int k, x => .one (.int k x)
  | .bool, x => .one (.bool x)
  | .ints k n, x => .ints k n x
def Zb6 : (sh : List Leaf) -> Tup sh -> List Chunk
  | [], _ => []
  | [l], x => [ZcQ l x]
  | l :: m :: r, x => ZcQ l x.1 :: Zb6 (m :: r) x.2
def rdA (idx st sz : Nat) (K : List Chunk -> Prop) : List Chunk -> Nat -> Prop
  | [], _ => False
  | .one v :: r, off => bif Nat.beq off 0 then (bif Nat.beq idx 0 then ZdB K (.one v :: r) sz else False) else rdA idx st sz K r (off - 1)
  | .ints k n xs :: r, off => bif Nat.beq off 0 then
      (bif Nat.ble n sz then (bif Nat.beq idx 0 then ZdB K (.ints k n xs :: r) sz else False)
       else (bif Nat.beq st 1 then idx + sz <= n /\ K [.ints k sz ((xs.drop idx).take sz)] else False))
    else (bif Nat.ble n off then rdA idx st sz K r (off - n) else False)
  | .rows sh n xs :: _, off => bif Nat.beq st (ZaG sh) then idx < n /\ Zet (fun l => ZdB K l sz) (Zb6 sh (xs.getD idx (Tup.dflt sh))) off else False
def ZiU : (l : Leaf) -> Chunk -> (l.T -> Prop) -> Prop
  | .int k, c, K => match c with
    | .one (.int k' x) => bif kEq k' k then K x else False
    | _ => False
  | .bool, c, K => match c with
    | .one (.bool x) => K x
    | _ => False
  | .ints k n, c, K => match c with
    | .ints k' n' xs => bif kEq k' k && Nat.beq n' n then K xs else False
    | _ => False
def ZoP : (sh : List Leaf) -> List Chunk -> (Tup sh -> Prop) -> Prop
  | [], _, _ => False
  | [l], cs, K => match cs with
    | [c] => ZiU l c K
    | _ => False
  | l :: m :: r, cs, K => match cs with
    | c :: cs => ZiU l c fun x => ZoP (m :: r) cs fun y => K (x, y)
    | [] => False
def wrA (idx st sz : Nat) (new : List Chunk) : (List Chunk -> Prop) -> List Chunk -> Nat -> Prop
  | _, [], _ => False
  | K, .one v :: r, off => bif Nat.beq off 0 then (bif Nat.beq idx 0 then Zet (fun l => K (new ++ l)) (.one v :: r) sz else False) else wrA idx st sz new (fun l => K (.one v :: l)) r (off - 1)
  | K, .ints k n xs :: r, off => bif Nat.beq off 0 then
      (bif Nat.ble n sz then (bif Nat.beq idx 0 then Zet (fun l => K (new ++ l)) (.ints k n xs :: r) sz else False)
       else match new with
        | [.ints k' m ys] => bif kEq k' k && Nat.beq m sz && Nat.beq st 1 then idx + sz <= n /\ xs.length = n /\ ys.length = sz /\ K (.ints k n (xs.take idx ++ ys ++ xs.drop (idx + sz)) :: r) else False
        | _ => False)
    else (bif Nat.ble n off then wrA idx st sz new (fun l => K (.ints k n xs :: l)) r (off - n) else False)
  | K, .rows sh n xs :: r, off => bif Nat.beq off 0 && Nat.beq st (ZaG sh) && Nat.beq sz (ZaG sh) then idx < n /\ xs.length = n /\ ZoP sh new (fun t => K (.rows sh n (xs.set idx t) :: r)) else False
def SVal.chunks : SVal -> List Chunk
  | .agg cs => cs
  | v => [.one v]
def Za6 (e : Env) : List (Nat × Nat × Opd) -> List Chunk -> (List Chunk -> Prop) -> Prop
  | [], zs, K => K zs
  | (off, sz, x) :: ps, zs, K => x.ev e fun v => bif Nat.beq (Zar v.chunks) sz then wrA 0 1 sz v.chunks (fun zs' => Za6 e ps zs' K) zs off else False
def Zbl : Nat -> List Int
  | 0 => []
  | n + 1 => 0 :: Zbl n
def Zbu (e : Env) (k : IntKind) : List (Nat × Opd) -> List Int -> (List Int -> Prop) -> Prop
  | [], xs, K => K xs
  | (i, x) :: ps, xs, K => x.ev e fun v => match v with
    | .int k' n => bif kEq k' k && Nat.blt i xs.length then Zbu e k ps (xs.set i n) K else False
    | _ => False
def ZdI (lo st len : Nat) (K : Chunk -> Prop) : List Chunk -> Nat -> Prop
  | [], _ => False
  | .one _ :: r, off => bif Nat.beq off 0 then False else ZdI lo st len K r (off - 1)
  | .ints k n xs :: r, off => bif Nat.beq off 0 then (bif Nat.beq st 1 then lo + len <= n /\ K (.ints k len ((xs.drop lo).take len)) else False)
    else (bif Nat.ble n off then ZdI lo st len K r (off - n) else False)
  | .rows _ _ _ :: _, _ => False
def ZbV (lo len : Nat) (k' : IntKind) (n' : Nat) (ys : List Int) : (List Chunk -> Prop) -> List Chunk -> Nat -> Prop
  | _, [], _ => False
  | K, .one v :: r, off => bif Nat.beq off 0 then False else ZbV lo len k' n' ys (fun l => K (.one v :: l)) r (off - 1)
  | K, .ints k n xs :: r, off => bif Nat.beq off 0 then
      (bif kEq k' k then n' = len /\ lo + len <= n /\ xs.length = n /\ ys.length = len /\ K (.ints k n (xs.take lo ++ ys ++ xs.drop (lo + len)) :: r) else False)
    else (bif Nat.ble n off then ZbV lo len k' n' ys (fun l => K (.ints k n xs :: l)) r (off - n) else False)
  | _, .rows _ _ _ :: _, _ => False
def ZdQ (e : Env) (o : Option Opd) (y d : Nat) (K : Nat -> Prop) : Prop :=
  match o with
  | none => K d
  | some x => x.ev e fun v => match v with
    | .int _ n => 0 <= n /\ n <= y /\ K n.toNat
    | _ => False
def Zd2 (e : Env) (lo hi mx : Option Opd) (len cap : Nat) (K : Nat -> Nat -> Nat -> Prop) : Prop :=
  match mx, hi with
  | some _, none => False
  | _, _ => ZdQ e mx cap cap fun m => ZdQ e hi m len fun h => ZdQ e lo h 0 fun l => K l h m
def slo (lo : Option Opd) (idx l m : Nat) : Nat :=
  match lo with
  | none => idx
  | some _ => idx + (if m = l then 0 else l)
def Zd5 (H : Heap) (k : IntKind) (y : SVal) (K : Nat -> List Int -> Prop) : Prop :=
  match y with
  | .nilslice => K 0 []
  | .slice b n _ => (match H.find b.id with
    | some en => ZdI b.idx b.st n (fun c => match c with
      | .ints k' _ ys => bif kEq k' k then K n ys else False
      | _ => False) en.cs b.off
    | none => False)
  | _ => False
def Zov (e : Env) (sh : List Leaf) : List Opd -> (List (Tup sh) -> Prop) -> Prop
  | [], K => K []
  | x :: r, K => x.ev e fun v => match v with
    | .agg cs => ZoP sh cs fun t => Zov e sh r fun ts => K (t :: ts)
    | _ => False
def Zg3 {sh' sh : List Leaf} (h : sh' = sh) (xs : List (Tup sh')) : List (Tup sh) := h ▸ xs
def Zsk (ys : List Int) : ByteArray := ⟨(ys.map fun x => UInt8.ofNat x.toNat).toArray⟩
def ZBu (H : Heap) (sh : List Leaf) (y : SVal) (K : Nat -> List (Tup sh) -> Prop) : Prop :=
  match y with
  | .nilslice => K 0 []
  | .slice b n _ => (match H.find b.id with
    | some en => bif Nat.beq b.off 0 && Nat.beq b.idx 0 then (match en.cs with
      | [.rows sh' m ys] => if h : sh' = sh then m = n /\ ys.length = n /\ K n (Zg3 h ys) else False
      | _ => False) else False
    | none => False)
  | _ => False
def Zs9 : List Chunk -> List Chunk -> List Chunk -> (Bool -> Prop) -> Prop
  | [], [], [], K => K true
  | c :: z, a :: x, b :: y, K => match c, a, b with
    | .one (.int k _), .one (.int k1 i), .one (.int k2 j) => bif kEq k1 k && kEq k2 k then Zs9 z x y fun q => K ((i == j) && q) else False
    | .one (.bool _), .one (.bool i), .one (.bool j) => Zs9 z x y fun q => K ((i == j) && q)
    | .ints k n _, .ints k1 n1 xs, .ints k2 n2 ys => bif kEq k1 k && kEq k2 k && Nat.beq n1 n && Nat.beq n2 n then xs.length = n /\ ys.length = n /\ Zs9 z x y fun q => K ((xs == ys) && q) else False
    | _, _, _ => False
  | _, _, _, _ => False
abbrev ZhM := List SVal -> Heap -> (SVal -> Heap -> Prop) -> Prop
abbrev Za7 := Nat -> List SVal -> Heap -> (SVal -> Heap -> Prop) -> Prop
def Zbi (Γ : Za7) (o : AOp) (e : Env) (H : Heap) (K : SVal -> Heap -> Prop) : Prop :=
  match o with
  | .mov x => x.ev e fun v => K v H
  | .pick c a b => c.ev e fun c => a.ev e fun a => b.ev e fun b =>
    match c, a, b with
    | .bool c, .bool a, .bool b => K (.bool (bif c then a else b)) H
    | .bool c, a, b => K (bif c then a else b) H
    | _, _, _ => False
  | .bin op x y => x.ev e fun x => y.ev e fun y => Zd3 op x y fun v => K v H
  | .not x => x.ev e fun x => match x with
    | .bool b => K (.bool (!b)) H
    | _ => False
  | .neg x => x.ev e fun x => match x with
    | .int k n => K (.int k (k.wrap (0 - n))) H
    | _ => False
  | .inv x => x.ev e fun x => match x with
    | .int k n => K (.int k (ZBo k (bif k.signed then -1 else k.max) n)) H
    | _ => False
  | .conv k x => x.ev e fun x => match x with
    | .int _ n => K (.int k (k.wrap n)) H
    | _ => False
  | .box x => x.ev e fun v => K (.ptr ⟨H.next, 0, 0, 1⟩ (Zar v.chunks)) (H.push ⟨true, v.chunks, 0⟩)
  | .alloc z => K (.ptr ⟨H.next, 0, 0, 1⟩ (Zar z)) (H.push ⟨true, z, 0⟩)
  | .build zs ps => Za6 e ps zs fun cs => K (.agg cs) H
  | .bslice k n ps => Zbu e k ps (Zbl n) fun xs => K (.slice ⟨H.next, 0, 0, 1⟩ n n) (H.push ⟨true, [.ints k n xs], 0⟩)
  | .load1 x => x.ev e fun x => match x with
    | .ptr a _ => (match H.find a.id with
      | some en => rdC a.idx a.st (fun v => K v H) en.cs a.off
      | none => False)
    | _ => False
  | .loadA sz x => x.ev e fun x => match x with
    | .ptr a _ => (match H.find a.id with
      | some en => rdA a.idx a.st sz (fun cs => K (.agg cs) H) en.cs a.off
      | none => False)
    | _ => False
  | .store1 x v => x.ev e fun x => v.ev e fun v => match x with
    | .ptr a _ => (match H.find a.id with
      | some en => bif en.wr && Zbv v then wrC a.idx a.st v (fun cs => K (.tuple []) (H.set a.id ⟨true, cs, en.ex⟩)) en.cs a.off else False
      | none => False)
    | _ => False
  | .storeA sz x v => x.ev e fun x => v.ev e fun v => match x, v with
    | .ptr a _, .agg new => (match H.find a.id with
      | some en => bif en.wr && Nat.beq (Zar new) sz && Zbj new then wrA a.idx a.st sz new (fun cs => K (.tuple []) (H.set a.id ⟨true, cs, en.ex⟩)) en.cs a.off else False
      | none => False)
    | _, _ => False
  | .fieldAddr x off n => x.ev e fun x => match x with
    | .ptr a _ => K (.ptr ⟨a.id, a.off + off, a.idx, a.st⟩ n) H
    | _ => False
  | .field1 x off => x.ev e fun x => match x with
    | .agg cs => rdC 0 1 (fun v => K v H) cs off
    | _ => False
  | .fieldA x off sz => x.ev e fun x => match x with
    | .agg cs => rdA 0 1 sz (fun l => K (.agg l) H) cs off
    | _ => False
  | .idxS x i sz => x.ev e fun x => i.ev e fun i => match x, i with
    | .slice a len _, .int _ n => bif Nat.beq a.st sz then 0 <= n /\ n < len /\ K (.ptr ⟨a.id, a.off, a.idx + n.toNat, a.st⟩ sz) H else False
    | _, _ => False
  | .idxA x i len sz => x.ev e fun x => i.ev e fun i => match x, i with
    | .ptr a _, .int _ n => 0 <= n /\ n < len /\ K (.ptr ⟨a.id, a.off, a.idx * a.st + n.toNat * sz, 1⟩ sz) H
    | _, _ => False
  | .len x => x.ev e fun x => match x with
    | .slice _ n _ => K (.int .i64 n) H
    | .nilslice => K (.int .i64 0) H
    | _ => False
  | .slen x => x.ev e fun x => match x with
    | .str s => K (.int .i64 s.size) H
    | _ => False
  | .min2 x y => x.ev e fun x => y.ev e fun y => match x, y with
    | .int k a, .int _ b => K (.int k (if b < a then b else a)) H
    | _, _ => False
  | .max2 x y => x.ev e fun x => y.ev e fun y => match x, y with
    | .int k a, .int _ b => K (.int k (if a < b then b else a)) H
    | _, _ => False
  | .extract x i => x.ev e fun x => match x with
    | .tuple vs => (match vs[i]? with
      | some v => K v H
      | none => False)
    | _ => False
  | .nilCheck x => x.ev e fun x => match x with
    | .ptr a n => K (.ptr a n) H
    | _ => False
  | .call f args => evL e args fun vs => Γ f vs H K
  | .append k x y => x.ev e fun x => y.ev e fun y => Zd5 H k y fun n ys => match x with
    | .nilslice => n <= 17592186044416 /\ ∀ c, n <= c -> K (.slice ⟨H.next, 0, 0, 1⟩ n c) (H.push ⟨true, [.ints k n ys], c - n⟩)
    | .slice a len cap => (match H.find a.id with
      | some en => bif en.wr && Nat.beq a.off 0 && Nat.beq a.idx 0 then (match en.cs with
        | [.ints k' m xs] => bif kEq k' k then m = len /\ xs.length = len /\ len + en.ex = cap /\ len + n <= 17592186044416 /\
            ∀ c, len + n <= c -> K (.slice ⟨H.next, 0, 0, 1⟩ (len + n) c) ((H.drop a.id).push ⟨true, [.ints k (len + n) (xs ++ ys)], c - (len + n)⟩) else False
        | _ => False) else False
      | none => False)
    | _ => False
  | .sliceS sz x lo hi mx => x.ev e fun x => match x with
    | .slice a len cap => bif Nat.beq a.st sz then Zd2 e lo hi mx len cap fun l h m => K (.slice ⟨a.id, a.off, slo lo a.idx l m, a.st⟩ (h - l) (m - l)) H else False
    | .nilslice => Zd2 e lo hi mx 0 0 fun _ _ _ => K .nilslice H
    | _ => False
  | .sliceP n x lo hi mx => x.ev e fun x => match x with
    | .ptr a _ => Zd2 e lo hi mx n n fun l h m => K (.slice ⟨a.id, a.off, slo lo (a.idx * a.st) l m, 1⟩ (h - l) (m - l)) H
    | _ => False
  | .sliceT x lo hi => x.ev e fun x => match x with
    | .str s => Zd2 e lo hi none s.size s.size fun l h _ => K (.str (s.extract l h)) H
    | _ => False
  | .isNil ne x => x.ev e fun x => match x with
    | .slice _ l c => ∀ q : Bool, (q = true -> l = 0 /\ c = 0) -> K (.bool (bif ne then !q else q)) H
    | .nilslice => K (.bool (!ne)) H
    | _ => False
  | .beq2 ne x y => x.ev e fun x => y.ev e fun y => match x, y with
    | .bool a, .bool b => K (.bool (bif ne then !(a == b) else a == b)) H
    | _, _ => False
  | .mkslice k l c => l.ev e fun l => c.ev e fun c => match l, c with
    | .int _ l, .int _ c => 0 <= l /\ l <= c /\ c <= 1048576 /\ K (.slice ⟨H.next, 0, 0, 1⟩ l.toNat c.toNat) (H.push ⟨true, [.ints k l.toNat (List.replicate l.toNat 0)], c.toNat - l.toNat⟩)
    | _, _ => False
  | .copy k x y => x.ev e fun x => y.ev e fun y => Zd5 H k y fun m ys => match x with
    | .nilslice => K (.int .i64 0) H
    | .slice a len _ => (match H.find a.id with
      | some en => bif en.wr && Nat.beq a.st 1 then ZbV a.idx (min m len) k (min m len) (ys.take (min m len)) (fun cs => K (.int .i64 (min m len : Nat)) (H.set a.id ⟨true, cs, en.ex⟩)) en.cs a.off else False
      | none => False)
    | _ => False
  | .strIdx x i => x.ev e fun x => i.ev e fun i => match x, i with
    | .str s, .int _ n => 0 <= n /\ n < s.size /\ K (.int .u8 ((s.data.toList.getD n.toNat 0).toNat : Int)) H
    | _, _ => False
  | .eqA ne z x y => x.ev e fun x => y.ev e fun y => match x, y with
    | .agg cs, .agg cs' => Zs9 z cs cs' fun q => K (.bool (bif ne then !q else q)) H
    | _, _ => False
  | .buildI k n ps => Zbu e k ps (Zbl n) fun xs => K (.agg [.ints k n xs]) H
  | .mkFn f caps => evL e caps fun vs => K (.fn (.func f) [] vs) H
  | .callV f x args => x.ev e fun v => match v with
    | .fn (.func g) [] caps => bif Nat.beq g f then evL e args fun vs => Γ f (vs ++ caps) H K else False
    | _ => False
  | .bsliceR sh n ps => Zov e sh ps fun xs => K (.slice ⟨H.next, 0, 0, ZaG sh⟩ n n) (H.push ⟨true, [.rows sh n xs], 0⟩)
  | .appendR sh x y => x.ev e fun x => y.ev e fun y => ZBu H sh y fun n ys => match x with
    | .nilslice => n <= 1000000000 /\ ∀ c, n <= c -> K (.slice ⟨H.next, 0, 0, ZaG sh⟩ n c) (H.push ⟨true, [.rows sh n ys], (c - n) * ZaG sh⟩)
    | .slice a len cap => (match H.find a.id with
      | some en => bif en.wr && Nat.beq a.off 0 && Nat.beq a.idx 0 then (match en.cs with
        | [.rows sh' m xs] => if h : sh' = sh then m = len /\ xs.length = len /\ len * ZaG sh + en.ex = cap * ZaG sh /\ len + n <= 1000000000 /\
            ∀ c, len + n <= c -> K (.slice ⟨H.next, 0, 0, ZaG sh⟩ (len + n) c) ((H.drop a.id).push ⟨true, [.rows sh (len + n) (Zg3 h xs ++ ys)], (c - (len + n)) * ZaG sh⟩) else False
        | _ => False) else False
      | none => False)
    | _ => False
  | .toStr x => x.ev e fun y => Zd5 H .u8 y fun n ys => ys.length = n /\ K (.str (Zsk ys)) H
  | .mksliceR sh l c => l.ev e fun l => c.ev e fun c => match l, c with
    | .int _ l, .int _ c => 0 <= l /\ l <= c /\ (ZaG sh : Int) * c <= 1048576 /\ K (.slice ⟨H.next, 0, 0, ZaG sh⟩ l.toNat c.toNat) (H.push ⟨true, [.rows sh l.toNat (List.replicate l.toNat (Tup.dflt sh))], (c.toNat - l.toNat) * ZaG sh⟩)
    | _, _ => False
  | .isNilP ne x => x.ev e fun x => match x with
    | .ptr _ _ => K (.bool ne) H
    | .nilptr => K (.bool (!ne)) H
    | _ => False
  | .bad => False
end Go.Sx
