/- Part of the proof: SxEv. -/
import Derived.Test.YtinjdimejijabaaSxWorld
set_option linter.unusedVariables false
set_option linter.unusedSimpArgs false
namespace Go.Sx
inductive Opd | tm (n : Nat) | cn (v : SVal)
inductive AOp
  | mov (x : Opd)
  | bin (op : BinOp) (x y : Opd)
  | not (x : Opd)
  | box (x : Opd)
  | alloc (z : List Chunk)
  | build (zs : List Chunk) (ps : List (Nat × Nat × Opd))
  | bslice (k : IntKind) (n : Nat) (ps : List (Nat × Opd))
  | load1 (x : Opd)
  | loadA (sz : Nat) (x : Opd)
  | store1 (x v : Opd)
  | storeA (sz : Nat) (x v : Opd)
  | fieldAddr (x : Opd) (off n : Nat)
  | idxS (x i : Opd) (sz : Nat)
  | len (x : Opd)
  | min2 (x y : Opd)
  | call (f : Nat) (args : List Opd)
  | append (k : IntKind) (x y : Opd)
  | makeMap (z : List Chunk)
  | mapUpd (k : IntKind) (x y v : Opd)
  | mapLen (x : Opd)
  | bad
abbrev Env := List (Nat × Option SVal)
def ZbD : Env -> Nat -> Option SVal
  | [], _ => none
  | (k, v) :: r, n => bif Nat.beq k n then v else ZbD r n
def Opd.ev (e : Env) (x : Opd) (K : SVal -> Prop) : Prop :=
  match x with
  | .cn v => K v
  | .tm n => match ZbD e n with
    | some v => K v
    | none => False
def evL (e : Env) : List Opd -> (List SVal -> Prop) -> Prop
  | [], K => K []
  | x :: r, K => x.ev e fun v => evL e r fun vs => K (v :: vs)
def Znu (k : IntKind) (a b : Int) : Int := k.wrap (BitVec.ofInt k.bits a &&& BitVec.ofInt k.bits b).toNat
def ior (k : IntKind) (a b : Int) : Int := k.wrap (BitVec.ofInt k.bits a ||| BitVec.ofInt k.bits b).toNat
def Znq (k : IntKind) (a b : Int) : Int := k.wrap (BitVec.ofInt k.bits a ^^^ BitVec.ofInt k.bits b).toNat
def Zi6 (k : IntKind) (a b : Int) : Int := k.wrap (BitVec.ofInt k.bits a &&& ~~~ BitVec.ofInt k.bits b).toNat
def Zns (k : IntKind) (a b : Int) : Int := k.wrap (a * 2 ^ (min b.toNat k.bits))
def Znr (k : IntKind) (a b : Int) : Int := a.fdiv (2 ^ (min b.toNat k.bits))
def kEq : IntKind -> IntKind -> Bool
  | .i8, .i8 | .i16, .i16 | .i32, .i32 | .i64, .i64 | .u8, .u8 | .u16, .u16 | .u32, .u32 | .u64, .u64 => true
  | _, _ => false
def Zg1 (op : BinOp) (x y : SVal) (K : SVal -> Prop) : Prop :=
  match x, y with
  | .int k a, .int k' b =>
    match op with
    | .add => bif kEq k k' then K (.int k (k.wrap (a + b))) else False
    | .sub => bif kEq k k' then K (.int k (k.wrap (a - b))) else False
    | .mul => bif kEq k k' then K (.int k (k.wrap (a * b))) else False
    | .quo => bif kEq k k' then b ≠ 0 /\ K (.int k (k.wrap (a.tdiv b))) else False
    | .rem => bif kEq k k' then b ≠ 0 /\ K (.int k (a.tmod b)) else False
    | .and => bif kEq k k' then K (.int k (Znu k a b)) else False
    | .or => bif kEq k k' then K (.int k (ior k a b)) else False
    | .xor => bif kEq k k' then K (.int k (Znq k a b)) else False
    | .andNot => bif kEq k k' then K (.int k (Zi6 k a b)) else False
    | .shl => 0 <= b /\ K (.int k (Zns k a b))
    | .shr => 0 <= b /\ K (.int k (Znr k a b))
    | .eql => bif kEq k k' then K (.bool (a == b)) else False
    | .neq => bif kEq k k' then K (.bool (a != b)) else False
    | .lss => bif kEq k k' then K (.bool (decide (a < b))) else False
    | .leq => bif kEq k k' then K (.bool (decide (a <= b))) else False
    | .gtr => bif kEq k k' then K (.bool (decide (b < a))) else False
    | .geq => bif kEq k k' then K (.bool (decide (b <= a))) else False
  | .str a, .str b =>
    match op with
    | .eql => K (.bool (a.toList == b.toList))
    | .neq => K (.bool (!(a.toList == b.toList)))
    | .add => ((a.size + b.size : Nat) : Int) <= 9223372036854775807 /\ K (.str (a ++ b))
    | _ => False
  | _, _ => False
def ZkX (K : SVal -> Prop) (off : Nat) : (l : Leaf) -> l.T -> Prop
  | .int k, x => bif Nat.beq off 0 then K (.int k x) else False
  | .bool, x => bif Nat.beq off 0 then K (.bool x) else False
  | .ints k n, x => off < n /\ K (.int k (List.getD x off 0))
def Zgy (K : SVal -> Prop) : (sh : List Leaf) -> Tup sh -> Nat -> Prop
  | [], _, _ => False
  | [l], x, off => ZkX K off l x
  | l :: m :: r, x, off => bif Nat.ble l.len off then Zgy K (m :: r) x.2 (off - l.len) else ZkX K off l x.1
def rdC (idx st : Nat) (K : SVal -> Prop) : List Chunk -> Nat -> Prop
  | [], _ => False
  | .one v :: r, off => bif Nat.beq off 0 then (bif Nat.beq idx 0 then K v else False) else rdC idx st K r (off - 1)
  | .ints k n xs :: r, off => bif Nat.beq off 0 then (bif Nat.beq st 1 then idx < n /\ K (.int k (xs.getD idx 0)) else False) else (bif Nat.ble n off then rdC idx st K r (off - n) else False)
  | .rows sh n xs :: _, off => bif Nat.beq st (ZaF sh) then idx < n /\ Zgy K sh (xs.getD idx (Tup.dflt sh)) off else False
def Zcs : SVal -> Bool
  | .agg _ | .tuple _ => false
  | _ => true
def ZbM : List Chunk -> Bool
  | [] => true
  | .one v :: r => Zcs v && ZbM r
  | .ints _ _ _ :: r => ZbM r
  | .rows _ _ _ :: r => ZbM r
def wrC (idx st : Nat) (v : SVal) : (List Chunk -> Prop) -> List Chunk -> Nat -> Prop
  | _, [], _ => False
  | K, .one u :: r, off => bif Nat.beq off 0 then (bif Nat.beq idx 0 then K (.one v :: r) else False) else wrC idx st v (fun l => K (.one u :: l)) r (off - 1)
  | K, .ints k n xs :: r, off => bif Nat.beq off 0 then
      match v with
      | .int k' m => bif kEq k' k && Nat.beq st 1 then idx < n /\ idx < xs.length /\ K (.ints k n (xs.set idx m) :: r) else False
      | _ => False
    else (bif Nat.ble n off then wrC idx st v (fun l => K (.ints k n xs :: l)) r (off - n) else False)
  | _, .rows _ _ _ :: _, _ => False
def ZcU : (List Chunk -> Prop) -> List Chunk -> Nat -> Prop
  | K, [], sz => bif Nat.beq sz 0 then K [] else False
  | K, c :: r, sz => bif Nat.beq sz 0 then K [] else (bif Nat.ble c.len sz then ZcU (fun l => K (c :: l)) r (sz - c.len) else False)
def ZdD : (List Chunk -> Prop) -> List Chunk -> Nat -> Prop
  | K, [], sz => bif Nat.beq sz 0 then K [] else False
  | K, c :: r, sz => bif Nat.beq sz 0 then K (c :: r) else (bif Nat.ble c.len sz then ZdD K r (sz - c.len) else False)
def Zbv : (l : Leaf) -> l.T -> Chunk
  | .int k, x => .one (.int k x)
  | .bool, x => .one (.bool x)
  | .ints k n, x => .ints k n x
def Zbi : (sh : List Leaf) -> Tup sh -> List Chunk
  | [], _ => []
  | [l], x => [Zbv l x]
  | l :: m :: r, x => Zbv l x.1 :: Zbi (m :: r) x.2
def rdA (idx st sz : Nat) (K : List Chunk -> Prop) : List Chunk -> Nat -> Prop
  | [], _ => False
  | .one v :: r, off => bif Nat.beq off 0 then (bif Nat.beq idx 0 then ZcU K (.one v :: r) sz else False) else rdA idx st sz K r (off - 1)
  | .ints k n xs :: r, off => bif Nat.beq off 0 then
      (bif Nat.ble n sz then (bif Nat.beq idx 0 then ZcU K (.ints k n xs :: r) sz else False)
       else (bif Nat.beq st 1 then idx + sz <= n /\ K [.ints k sz ((xs.drop idx).take sz)] else False))
    else (bif Nat.ble n off then rdA idx st sz K r (off - n) else False)
  | .rows sh n xs :: _, off => bif Nat.beq st (ZaF sh) then idx < n /\ ZdD (fun l => ZcU K l sz) (Zbi sh (xs.getD idx (Tup.dflt sh))) off else False
def Zdd (m : Int) (keys : List Int) : List Int := if m ∈ keys then keys else keys ++ [m]
def Zfq : (l : Leaf) -> Chunk -> (l.T -> Prop) -> Prop
  | .int k, c, K => match c with
    | .one (.int k' x) => bif kEq k' k then K x else False
    | _ => False
  | .bool, c, K => match c with
    | .one (.bool x) => K x
    | _ => False
  | .ints k n, c, K => match c with
    | .ints k' n' xs => bif kEq k' k && Nat.beq n' n then K xs else False
    | _ => False
def ZiJ : (sh : List Leaf) -> List Chunk -> (Tup sh -> Prop) -> Prop
  | [], _, _ => False
  | [l], cs, K => match cs with
    | [c] => Zfq l c K
    | _ => False
  | l :: m :: r, cs, K => match cs with
    | c :: cs => Zfq l c fun x => ZiJ (m :: r) cs fun y => K (x, y)
    | [] => False
def wrA (idx st sz : Nat) (new : List Chunk) : (List Chunk -> Prop) -> List Chunk -> Nat -> Prop
  | _, [], _ => False
  | K, .one v :: r, off => bif Nat.beq off 0 then (bif Nat.beq idx 0 then ZdD (fun l => K (new ++ l)) (.one v :: r) sz else False) else wrA idx st sz new (fun l => K (.one v :: l)) r (off - 1)
  | K, .ints k n xs :: r, off => bif Nat.beq off 0 then
      (bif Nat.ble n sz then (bif Nat.beq idx 0 then ZdD (fun l => K (new ++ l)) (.ints k n xs :: r) sz else False)
       else match new with
        | [.ints k' m ys] => bif kEq k' k && Nat.beq m sz && Nat.beq st 1 then idx + sz <= n /\ xs.length = n /\ ys.length = sz /\ K (.ints k n (xs.take idx ++ ys ++ xs.drop (idx + sz)) :: r) else False
        | _ => False)
    else (bif Nat.ble n off then wrA idx st sz new (fun l => K (.ints k n xs :: l)) r (off - n) else False)
  | K, .rows sh n xs :: r, off => bif Nat.beq off 0 && Nat.beq st (ZaF sh) && Nat.beq sz (ZaF sh) then idx < n /\ xs.length = n /\ ZiJ sh new (fun t => K (.rows sh n (xs.set idx t) :: r)) else False
def SVal.chunks : SVal -> List Chunk
  | .agg cs => cs
  | v => [.one v]
def ZbJ (e : Env) : List (Nat × Nat × Opd) -> List Chunk -> (List Chunk -> Prop) -> Prop
  | [], zs, K => K zs
  | (off, sz, x) :: ps, zs, K => x.ev e fun v => bif Nat.beq (Zac v.chunks) sz then wrA 0 1 sz v.chunks (fun zs' => ZbJ e ps zs' K) zs off else False
def Zb9 : Nat -> List Int
  | 0 => []
  | n + 1 => 0 :: Zb9 n
def Zcf (e : Env) (k : IntKind) : List (Nat × Opd) -> List Int -> (List Int -> Prop) -> Prop
  | [], xs, K => K xs
  | (i, x) :: ps, xs, K => x.ev e fun v => match v with
    | .int k' n => bif kEq k' k && Nat.blt i xs.length then Zcf e k ps (xs.set i n) K else False
    | _ => False
def Zgm (lo st len : Nat) (K : Chunk -> Prop) : List Chunk -> Nat -> Prop
  | [], _ => False
  | .one _ :: r, off => bif Nat.beq off 0 then False else Zgm lo st len K r (off - 1)
  | .ints k n xs :: r, off => bif Nat.beq off 0 then (bif Nat.beq st 1 then lo + len <= n /\ K (.ints k len ((xs.drop lo).take len)) else False)
    else (bif Nat.ble n off then Zgm lo st len K r (off - n) else False)
  | .rows _ _ _ :: _, _ => False
def ZcW (lo len : Nat) (k' : IntKind) (n' : Nat) (ys : List Int) : (List Chunk -> Prop) -> List Chunk -> Nat -> Prop
  | _, [], _ => False
  | K, .one v :: r, off => bif Nat.beq off 0 then False else ZcW lo len k' n' ys (fun l => K (.one v :: l)) r (off - 1)
  | K, .ints k n xs :: r, off => bif Nat.beq off 0 then
      (bif kEq k' k then n' = len /\ lo + len <= n /\ xs.length = n /\ ys.length = len /\ K (.ints k n (xs.take lo ++ ys ++ xs.drop (lo + len)) :: r) else False)
    else (bif Nat.ble n off then ZcW lo len k' n' ys (fun l => K (.ints k n xs :: l)) r (off - n) else False)
  | _, .rows _ _ _ :: _, _ => False
def Zic (e : Env) (o : Option Opd) (y d : Nat) (K : Nat -> Prop) : Prop :=
  match o with
  | none => K d
  | some x => x.ev e fun v => match v with
    | .int _ n => 0 <= n /\ n <= y /\ K n.toNat
    | _ => False
def Zjz (e : Env) (lo hi mx : Option Opd) (len cap : Nat) (K : Nat -> Nat -> Nat -> Prop) : Prop :=
  match mx, hi with
  | some _, none => False
  | _, _ => Zic e mx cap cap fun m => Zic e hi m len fun h => Zic e lo h 0 fun l => K l h m
def slo (lo : Option Opd) (idx l m : Nat) : Nat :=
  match lo with
  | none => idx
  | some _ => idx + (if m = l then 0 else l)
def Zh3 (H : Heap) (k : IntKind) (y : SVal) (K : Nat -> List Int -> Prop) : Prop :=
  match y with
  | .nilslice => K 0 []
  | .slice b n _ => (match H.find b.id with
    | some en => Zgm b.idx b.st n (fun c => match c with
      | .ints k' _ ys => bif kEq k' k then K n ys else False
      | _ => False) en.cs b.off
    | none => False)
  | _ => False
abbrev ZgX := List SVal -> Heap -> (SVal -> Heap -> Prop) -> Prop
abbrev Zat := Nat -> List SVal -> Heap -> (SVal -> Heap -> Prop) -> Prop
def ZbA (Γ : Zat) (o : AOp) (e : Env) (H : Heap) (K : SVal -> Heap -> Prop) : Prop :=
  match o with
  | .mov x => x.ev e fun v => K v H
  | .bin op x y => x.ev e fun x => y.ev e fun y => Zg1 op x y fun v => K v H
  | .not x => x.ev e fun x => match x with
    | .bool b => K (.bool (!b)) H
    | _ => False
  | .box x => x.ev e fun v => K (.ptr ⟨H.next, 0, 0, 1⟩ (Zac v.chunks)) (H.push ⟨true, v.chunks, 0⟩)
  | .alloc z => K (.ptr ⟨H.next, 0, 0, 1⟩ (Zac z)) (H.push ⟨true, z, 0⟩)
  | .build zs ps => ZbJ e ps zs fun cs => K (.agg cs) H
  | .bslice k n ps => Zcf e k ps (Zb9 n) fun xs => K (.slice ⟨H.next, 0, 0, 1⟩ n n) (H.push ⟨true, [.ints k n xs], 0⟩)
  | .load1 x => x.ev e fun x => match x with
    | .ptr a _ => (match H.find a.id with
      | some en => rdC a.idx a.st (fun v => K v H) en.cs a.off
      | none => False)
    | _ => False
  | .loadA sz x => x.ev e fun x => match x with
    | .ptr a _ => (match H.find a.id with
      | some en => rdA a.idx a.st sz (fun cs => K (.agg cs) H) en.cs a.off
      | none => False)
    | _ => False
  | .store1 x v => x.ev e fun x => v.ev e fun v => match x with
    | .ptr a _ => (match H.find a.id with
      | some en => bif en.wr && Zcs v then wrC a.idx a.st v (fun cs => K (.tuple []) (H.set a.id ⟨true, cs, en.ex⟩)) en.cs a.off else False
      | none => False)
    | _ => False
  | .storeA sz x v => x.ev e fun x => v.ev e fun v => match x, v with
    | .ptr a _, .agg new => (match H.find a.id with
      | some en => bif en.wr && Nat.beq (Zac new) sz && ZbM new then wrA a.idx a.st sz new (fun cs => K (.tuple []) (H.set a.id ⟨true, cs, en.ex⟩)) en.cs a.off else False
      | none => False)
    | _, _ => False
  | .fieldAddr x off n => x.ev e fun x => match x with
    | .ptr a _ => K (.ptr ⟨a.id, a.off + off, a.idx, a.st⟩ n) H
    | _ => False
  | .idxS x i sz => x.ev e fun x => i.ev e fun i => match x, i with
    | .slice a len _, .int _ n => bif Nat.beq a.st sz then 0 <= n /\ n < len /\ K (.ptr ⟨a.id, a.off, a.idx + n.toNat, a.st⟩ sz) H else False
    | _, _ => False
  | .len x => x.ev e fun x => match x with
    | .slice _ n _ => K (.int .i64 n) H
    | .nilslice => K (.int .i64 0) H
    | _ => False
  | .min2 x y => x.ev e fun x => y.ev e fun y => match x, y with
    | .int k a, .int _ b => K (.int k (if b < a then b else a)) H
    | _, _ => False
  | .call f args => evL e args fun vs => Γ f vs H K
  | .append k x y => x.ev e fun x => y.ev e fun y => Zh3 H k y fun n ys => match x with
    | .nilslice => n <= 17592186044416 /\ ∀ c, n <= c -> K (.slice ⟨H.next, 0, 0, 1⟩ n c) (H.push ⟨true, [.ints k n ys], c - n⟩)
    | .slice a len cap => (match H.find a.id with
      | some en => bif en.wr && Nat.beq a.off 0 && Nat.beq a.idx 0 then (match en.cs with
        | [.ints k' m xs] => bif kEq k' k then m = len /\ xs.length = len /\ len + en.ex = cap /\ len + n <= 17592186044416 /\
            ∀ c, len + n <= c -> K (.slice ⟨H.next, 0, 0, 1⟩ (len + n) c) ((H.drop a.id).push ⟨true, [.ints k (len + n) (xs ++ ys)], c - (len + n)⟩) else False
        | _ => False) else False
      | none => False)
    | _ => False
  | .makeMap z => K (.map H.next) (H.push ⟨false, z, 1⟩)
  | .mapUpd k x y v => x.ev e fun x => y.ev e fun y => v.ev e fun _ => match x, y with
    | .map id, .int k' m => (match H.find id with
      | some en => bif !en.wr && Nat.beq en.ex 1 && Zej id H.ents && kEq k' k then (match en.cs with
        | [.ints k2 n keys] => bif kEq k2 k then K (.tuple []) (H.set id ⟨false, [.ints k n (Zdd m keys)], 1⟩) else False
        | _ => False) else False
      | none => False)
    | _, _ => False
  | .mapLen x => x.ev e fun x => match x with
    | .map id => (match H.find id with
      | some en => bif !en.wr && Nat.beq en.ex 1 then (match en.cs with
        | [.ints _ _ keys] => K (.int .i64 keys.length) H
        | _ => False) else False
      | none => False)
    | _ => False
  | .bad => False
end Go.Sx
