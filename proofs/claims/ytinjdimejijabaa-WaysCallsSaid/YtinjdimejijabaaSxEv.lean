/- Part of the proof: SxEv. -/
import Derived.Test.YtinjdimejijabaaSxWorld
set_option linter.unusedVariables false
set_option linter.unusedSimpArgs false
namespace Go.Sx
inductive Opd | tm (n : Nat) | cn (v : SVal)
inductive AOp
  | mov (x : Opd)
  | pick (c a b : Opd)
  | bin (op : BinOp) (x y : Opd)
  | not (x : Opd)
  | box (x : Opd)
  | alloc (z : List Chunk)
  | build (zs : List Chunk) (ps : List (Nat × Nat × Opd))
  | bslice (k : IntKind) (n : Nat) (ps : List (Nat × Opd))
  | load1 (x : Opd)
  | loadA (sz : Nat) (x : Opd)
  | store1 (x v : Opd)
  | storeA (sz : Nat) (x v : Opd)
  | fieldAddr (x : Opd) (off n : Nat)
  | idxS (x i : Opd) (sz : Nat)
  | len (x : Opd)
  | min2 (x y : Opd)
  | max2 (x y : Opd)
  | extract (x : Opd) (i : Nat)
  | nilCheck (x : Opd)
  | call (f : Nat) (args : List Opd)
  | append (k : IntKind) (x y : Opd)
  | sliceS (sz : Nat) (x : Opd) (lo hi mx : Option Opd)
  | beq2 (ne : Bool) (x y : Opd)
  | isNilP (ne : Bool) (x : Opd)
  | mkFn (f : Nat) (caps : List Opd)
  | callV (f : Nat) (x : Opd) (args : List Opd)
  | bsliceR (sh : List Leaf) (n : Nat) (ps : List Opd)
  | appendR (sh : List Leaf) (x y : Opd)
  | mksliceR (sh : List Leaf) (l c : Opd)
  | makeMap (z : List Chunk)
  | mapUpd (k : IntKind) (x y v : Opd)
  | mapLen (x : Opd)
  | mapUpV (x y v : Opd)
  | mapDel (x y : Opd)
  | mapGet (x y : Opd)
  | appendIn (sh : List Leaf) (x y : Opd)
  | clearR (sh : List Leaf) (x : Opd)
  | appendFit (sh : List Leaf) (x y : Opd)
  | load1P (x : Opd)
  | loadHr (x : Opd)
  | appendRW (sh : List Leaf) (x y : Opd)
  | bsliceV (n : Nat) (ps : List Opd)
  | bad
abbrev Env := List (Nat × Option SVal)
def ZeF : Env -> Nat -> Option SVal
  | [], _ => none
  | (k, v) :: r, n => bif Nat.beq k n then v else ZeF r n
def Opd.ev (e : Env) (x : Opd) (K : SVal -> Prop) : Prop :=
  match x with
  | .cn v => K v
  | .tm n => match ZeF e n with
    | some v => K v
    | none => False
def evL (e : Env) : List Opd -> (List SVal -> Prop) -> Prop
  | [], K => K []
  | x :: r, K => x.ev e fun v => evL e r fun vs => K (v :: vs)
def ZJh (k : IntKind) (a b : Int) : Int := k.wrap (BitVec.ofInt k.bits a &&& BitVec.ofInt k.bits b).toNat
def ior (k : IntKind) (a b : Int) : Int := k.wrap (BitVec.ofInt k.bits a ||| BitVec.ofInt k.bits b).toNat
def ZJc (k : IntKind) (a b : Int) : Int := k.wrap (BitVec.ofInt k.bits a ^^^ BitVec.ofInt k.bits b).toNat
def ZuE (k : IntKind) (a b : Int) : Int := k.wrap (BitVec.ofInt k.bits a &&& ~~~ BitVec.ofInt k.bits b).toNat
def ZJe (k : IntKind) (a b : Int) : Int := k.wrap (a * 2 ^ (min b.toNat k.bits))
def ZJd (k : IntKind) (a b : Int) : Int := a.fdiv (2 ^ (min b.toNat k.bits))
def kEq : IntKind -> IntKind -> Bool
  | .i8, .i8 | .i16, .i16 | .i32, .i32 | .i64, .i64 | .u8, .u8 | .u16, .u16 | .u32, .u32 | .u64, .u64 => true
  | _, _ => false
def ZAR (op : BinOp) (x y : SVal) (K : SVal -> Prop) : Prop :=
  match x, y with
  | .int k a, .int k' b =>
    match op with
    | .add => bif kEq k k' then K (.int k (k.wrap (a + b))) else False
    | .sub => bif kEq k k' then K (.int k (k.wrap (a - b))) else False
    | .mul => bif kEq k k' then K (.int k (k.wrap (a * b))) else False
    | .quo => bif kEq k k' then b ≠ 0 /\ K (.int k (k.wrap (a.tdiv b))) else False
    | .rem => bif kEq k k' then b ≠ 0 /\ K (.int k (a.tmod b)) else False
    | .and => bif kEq k k' then K (.int k (ZJh k a b)) else False
    | .or => bif kEq k k' then K (.int k (ior k a b)) else False
    | .xor => bif kEq k k' then K (.int k (ZJc k a b)) else False
    | .andNot => bif kEq k k' then K (.int k (ZuE k a b)) else False
    | .shl => 0 <= b /\ K (.int k (ZJe k a b))
    | .shr => 0 <= b /\ K (.int k (ZJd k a b))
    | .eql => bif kEq k k' then K (.bool (a == b)) else False
    | .neq => bif kEq k k' then K (.bool (a != b)) else False
    | .lss => bif kEq k k' then K (.bool (decide (a < b))) else False
    | .leq => bif kEq k k' then K (.bool (decide (a <= b))) else False
    | .gtr => bif kEq k k' then K (.bool (decide (b < a))) else False
    | .geq => bif kEq k k' then K (.bool (decide (b <= a))) else False
  | .str a, .str b =>
    match op with
    | .eql => K (.bool (a.toList == b.toList))
    | .neq => K (.bool (!(a.toList == b.toList)))
    | .add => ((a.size + b.size : Nat) : Int) <= 9223372036854775807 /\ K (.str (a ++ b))
    | _ => False
  | _, _ => False
def ZAm (K : SVal -> Prop) (off : Nat) : (l : Leaf) -> l.T -> Prop
  | .int k, x => bif Nat.beq off 0 then K (.int k x) else False
  | .bool, x => bif Nat.beq off 0 then K (.bool x) else False
  | .ints k n, x => off < n /\ K (.int k (List.getD x off 0))
  | .hd, _ => False
def Zqx (K : SVal -> Prop) : (sh : List Leaf) -> Tup sh -> Nat -> Prop
  | [], _, _ => False
  | [l], x, off => ZAm K off l x
  | l :: m :: r, x, off => bif Nat.ble l.len off then Zqx K (m :: r) x.2 (off - l.len) else ZAm K off l x.1
def rdC (idx st : Nat) (K : SVal -> Prop) : List Chunk -> Nat -> Prop
  | [], _ => False
  | .one v :: r, off => bif Nat.beq off 0 then (bif Nat.beq idx 0 then K v else False) else rdC idx st K r (off - 1)
  | .ints k n xs :: r, off => bif Nat.beq off 0 then (bif Nat.beq st 1 then idx < n /\ K (.int k (xs.getD idx 0)) else False) else (bif Nat.ble n off then rdC idx st K r (off - n) else False)
  | .rows sh n xs :: _, off => bif Nat.beq st (Zah sh) then idx < n /\ Zqx K sh (xs.getD idx (Tup.dflt sh)) off else False
def ZmS : SVal -> Bool
  | .agg _ | .tuple _ => false
  | _ => true
def ZhN : List Chunk -> Bool
  | [] => true
  | .one v :: r => ZmS v && ZhN r
  | .ints _ _ _ :: r => ZhN r
  | .rows _ _ _ :: r => ZhN r
def Zuh : (l : Leaf) -> l.T -> Nat -> SVal -> (l.T -> Prop) -> Prop
  | .int k, _, off, v, K => bif Nat.beq off 0 then (match v with
    | .int k' m => bif kEq k' k then K m else False
    | _ => False) else False
  | .bool, _, off, v, K => bif Nat.beq off 0 then (match v with
    | .bool b => K b
    | _ => False) else False
  | .ints _ _, _, _, _, _ => False
  | .hd, _, _, _, _ => False
def Zvv : (sh : List Leaf) -> Tup sh -> Nat -> SVal -> (Tup sh -> Prop) -> Prop
  | [], _, _, _, _ => False
  | [l], x, off, v, K => Zuh l x off v K
  | l :: m :: r, x, off, v, K => bif Nat.ble l.len off then Zvv (m :: r) x.2 (off - l.len) v (fun y => K (x.1, y)) else Zuh l x.1 off v (fun y => K (y, x.2))
def wrC (idx st : Nat) (v : SVal) : (List Chunk -> Prop) -> List Chunk -> Nat -> Prop
  | _, [], _ => False
  | K, .one u :: r, off => bif Nat.beq off 0 then (bif Nat.beq idx 0 then K (.one v :: r) else False) else wrC idx st v (fun l => K (.one u :: l)) r (off - 1)
  | K, .ints k n xs :: r, off => bif Nat.beq off 0 then
      match v with
      | .int k' m => bif kEq k' k && Nat.beq st 1 then idx < n /\ idx < xs.length /\ K (.ints k n (xs.set idx m) :: r) else False
      | _ => False
    else (bif Nat.ble n off then wrC idx st v (fun l => K (.ints k n xs :: l)) r (off - n) else False)
  | K, .rows sh n xs :: r, off => bif Nat.beq st (Zah sh) then idx < n /\ xs.length = n /\ Zvv sh (xs.getD idx (Tup.dflt sh)) off v (fun t => K (.rows sh n (xs.set idx t) :: r)) else False
def ZkA : (List Chunk -> Prop) -> List Chunk -> Nat -> Prop
  | K, [], sz => bif Nat.beq sz 0 then K [] else False
  | K, c :: r, sz => bif Nat.beq sz 0 then K [] else (bif Nat.ble c.len sz then ZkA (fun l => K (c :: l)) r (sz - c.len) else False)
def ZrB : (List Chunk -> Prop) -> List Chunk -> Nat -> Prop
  | K, [], sz => bif Nat.beq sz 0 then K [] else False
  | K, c :: r, sz => bif Nat.beq sz 0 then K (c :: r) else (bif Nat.ble c.len sz then ZrB K r (sz - c.len) else False)
def ZbE : (l : Leaf) -> l.T -> Chunk
  | .int k, x => .one (.int k x)
  | .bool, x => .one (.bool x)
  | .ints k n, x => .ints k n x
  | .hd, x => .rows [.hd] 1 [x]
def Zbt : (sh : List Leaf) -> Tup sh -> List Chunk
  | [], _ => []
  | [l], x => [ZbE l x]
  | l :: m :: r, x => ZbE l x.1 :: Zbt (m :: r) x.2
def rdA (idx st sz : Nat) (K : List Chunk -> Prop) : List Chunk -> Nat -> Prop
  | [], _ => False
  | .one v :: r, off => bif Nat.beq off 0 then (bif Nat.beq idx 0 then ZkA K (.one v :: r) sz else False) else rdA idx st sz K r (off - 1)
  | .ints k n xs :: r, off => bif Nat.beq off 0 then
      (bif Nat.ble n sz then (bif Nat.beq idx 0 then ZkA K (.ints k n xs :: r) sz else False)
       else (bif Nat.beq st 1 then idx + sz <= n /\ K [.ints k sz ((xs.drop idx).take sz)] else False))
    else (bif Nat.ble n off then rdA idx st sz K r (off - n) else False)
  | .rows sh n xs :: _, off => bif Nat.beq st (Zah sh) then idx < n /\ ZrB (fun l => ZkA K l sz) (Zbt sh (xs.getD idx (Tup.dflt sh))) off else False
def Zrd (m : Int) (keys : List Int) : List Int := if m ∈ keys then keys else keys ++ [m]
def ZjL : (l : Leaf) -> Chunk -> (l.T -> Prop) -> Prop
  | .int k, c, K => match c with
    | .one (.int k' x) => bif kEq k' k then K x else False
    | _ => False
  | .bool, c, K => match c with
    | .one (.bool x) => K x
    | _ => False
  | .ints k n, c, K => match c with
    | .ints k' n' xs => bif kEq k' k && Nat.beq n' n then K xs else False
    | _ => False
  | .hd, _, _ => False
def isH : List Chunk -> Option (Nat × SVal)
  | [.rows [.hd] n _, .one v, .rows [.hd] _ _] => some (n, v)
  | _ => none
def ZHO (v : SVal) : List Chunk -> List Chunk
  | [a, _, b] => [a, .one v, b]
  | cs => cs
def Zrl : (sh : List Leaf) -> List Chunk -> (Tup sh -> Prop) -> Prop
  | [], _, _ => False
  | [l], cs, K => match cs with
    | [c] => ZjL l c K
    | _ => False
  | l :: m :: r, cs, K => match cs with
    | c :: cs => ZjL l c fun x => Zrl (m :: r) cs fun y => K (x, y)
    | [] => False
def wrA (idx st sz : Nat) (new : List Chunk) : (List Chunk -> Prop) -> List Chunk -> Nat -> Prop
  | _, [], _ => False
  | K, .one v :: r, off => bif Nat.beq off 0 then (bif Nat.beq idx 0 then ZrB (fun l => K (new ++ l)) (.one v :: r) sz else False) else wrA idx st sz new (fun l => K (.one v :: l)) r (off - 1)
  | K, .ints k n xs :: r, off => bif Nat.beq off 0 then
      (bif Nat.ble n sz then (bif Nat.beq idx 0 then ZrB (fun l => K (new ++ l)) (.ints k n xs :: r) sz else False)
       else match new with
        | [.ints k' m ys] => bif kEq k' k && Nat.beq m sz && Nat.beq st 1 then idx + sz <= n /\ xs.length = n /\ ys.length = sz /\ K (.ints k n (xs.take idx ++ ys ++ xs.drop (idx + sz)) :: r) else False
        | _ => False)
    else (bif Nat.ble n off then wrA idx st sz new (fun l => K (.ints k n xs :: l)) r (off - n) else False)
  | K, .rows sh n xs :: r, off => bif Nat.beq off 0 && Nat.beq st (Zah sh) && Nat.beq sz (Zah sh) then idx < n /\ xs.length = n /\ Zrl sh new (fun t => K (.rows sh n (xs.set idx t) :: r)) else False
def SVal.chunks : SVal -> List Chunk
  | .agg cs => cs
  | v => [.one v]
def Zk2 (e : Env) : List (Nat × Nat × Opd) -> List Chunk -> (List Chunk -> Prop) -> Prop
  | [], zs, K => K zs
  | (off, sz, x) :: ps, zs, K => x.ev e fun v => bif Nat.beq (Zam v.chunks) sz then wrA 0 1 sz v.chunks (fun zs' => Zk2 e ps zs' K) zs off else False
def ZpJ : Nat -> List Int
  | 0 => []
  | n + 1 => 0 :: ZpJ n
def ZqM (e : Env) (k : IntKind) : List (Nat × Opd) -> List Int -> (List Int -> Prop) -> Prop
  | [], xs, K => K xs
  | (i, x) :: ps, xs, K => x.ev e fun v => match v with
    | .int k' n => bif kEq k' k && Nat.blt i xs.length then ZqM e k ps (xs.set i n) K else False
    | _ => False
def Zws (lo st len : Nat) (K : Chunk -> Prop) : List Chunk -> Nat -> Prop
  | [], _ => False
  | .one _ :: r, off => bif Nat.beq off 0 then False else Zws lo st len K r (off - 1)
  | .ints k n xs :: r, off => bif Nat.beq off 0 then (bif Nat.beq st 1 then lo + len <= n /\ K (.ints k len ((xs.drop lo).take len)) else False)
    else (bif Nat.ble n off then Zws lo st len K r (off - n) else False)
  | .rows _ _ _ :: _, _ => False
def Znr (lo len : Nat) (k' : IntKind) (n' : Nat) (ys : List Int) : (List Chunk -> Prop) -> List Chunk -> Nat -> Prop
  | _, [], _ => False
  | K, .one v :: r, off => bif Nat.beq off 0 then False else Znr lo len k' n' ys (fun l => K (.one v :: l)) r (off - 1)
  | K, .ints k n xs :: r, off => bif Nat.beq off 0 then
      (bif kEq k' k then n' = len /\ lo + len <= n /\ xs.length = n /\ ys.length = len /\ K (.ints k n (xs.take lo ++ ys ++ xs.drop (lo + len)) :: r) else False)
    else (bif Nat.ble n off then Znr lo len k' n' ys (fun l => K (.ints k n xs :: l)) r (off - n) else False)
  | _, .rows _ _ _ :: _, _ => False
def Zz8 (e : Env) (o : Option Opd) (y d : Nat) (K : Nat -> Prop) : Prop :=
  match o with
  | none => K d
  | some x => x.ev e fun v => match v with
    | .int _ n => 0 <= n /\ n <= y /\ K n.toNat
    | _ => False
def ZHT (e : Env) (lo hi mx : Option Opd) (len cap : Nat) (K : Nat -> Nat -> Nat -> Prop) : Prop :=
  match mx, hi with
  | some _, none => False
  | _, _ => Zz8 e mx cap cap fun m => Zz8 e hi m len fun h => Zz8 e lo h 0 fun l => K l h m
def slo (lo : Option Opd) (idx l m : Nat) : Nat :=
  match lo with
  | none => idx
  | some _ => idx + (if m = l then 0 else l)
def ZIp (H : Heap) (k : IntKind) (y : SVal) (K : Nat -> List Int -> Prop) : Prop :=
  match y with
  | .nilslice => K 0 []
  | .slice b n _ => (match H.find b.id with
    | some en => Zws b.idx b.st n (fun c => match c with
      | .ints k' _ ys => bif kEq k' k then K n ys else False
      | _ => False) en.cs b.off
    | none => False)
  | _ => False
def ZqJ (e : Env) (sh : List Leaf) : List Opd -> (List (Tup sh) -> Prop) -> Prop
  | [], K => K []
  | x :: r, K => x.ev e fun v => match v with
    | .agg cs => Zrl sh cs fun t => ZqJ e sh r fun ts => K (t :: ts)
    | _ => False
def ZbM {sh' sh : List Leaf} (h : sh' = sh) (xs : List (Tup sh')) : List (Tup sh) := h ▸ xs
def ZHN (H : Heap) (sh : List Leaf) (y : SVal) (K : Nat -> List (Tup sh) -> Prop) : Prop :=
  match y with
  | .nilslice => K 0 []
  | .slice b n _ => (match H.find b.id with
    | some en => bif Nat.beq b.off 0 && Nat.beq b.idx 0 then (match en.cs with
      | [.rows sh' m ys] => if h : sh' = sh then m = n /\ ys.length = n /\ K n (ZbM h ys) else False
      | _ => False) else False
    | none => False)
  | _ => False
def ZHM (H : Heap) (sh : List Leaf) (y : SVal) (K : Nat -> List (Tup sh) -> Prop) : Prop :=
  match y with
  | .nilslice => K 0 []
  | .slice b n _ => (match H.find b.id with
    | some en => bif Nat.beq b.off 0 && Nat.beq b.st (Zah sh) then (match en.cs with
      | [.rows sh' m ys] => if h : sh' = sh then b.idx + n <= m /\ ys.length = m /\ K n (((ZbM h ys).drop b.idx).take n) else False
      | _ => False) else False
    | none => False)
  | _ => False
abbrev ZrR := List SVal -> Heap -> (SVal -> Heap -> Prop) -> Prop
def Zvs (m : Int) (kvs : List (Int × Int)) : Option Nat := kvs.findIdx? (fun p => m == p.1)
def ZvC (m n : Int) (kvs : List (Int × Int)) : List (Int × Int) := match Zvs m kvs with
  | some j => kvs.set j (m, n)
  | none => kvs ++ [(m, n)]
def Zwa (m : Int) (kvs : List (Int × Int)) : List (Int × Int) := match Zvs m kvs with
  | some j => kvs.eraseIdx j
  | none => kvs
def ZuN (m : Int) (kvs : List (Int × Int)) : Int := match Zvs m kvs with
  | some j => (kvs.getD j (0, 0)).2
  | none => 0
def ZmM : List (Nat × Option Ent) -> Bool
  | [] => true
  | (_, some e) :: r => (e.wr || !(Nat.beq e.ex 2)) && ZmM r
  | (_, none) :: r => ZmM r
def ZkZ (K : SVal -> Prop) : List Chunk -> Nat -> Prop
  | [.one v], n => n = 0 /\ K v
  | .one v :: r, n => (decide (n = 0) = true -> K v) /\ (decide (n = 0) = false -> ZkZ K r (n - 1))
  | _, _ => False
def ZqK (e : Env) : List Opd -> (List SVal -> Prop) -> Prop
  | [], K => K []
  | x :: r, K => x.ev e fun v => match v with
    | .ptr a n => ZqK e r fun vs => K (.ptr a n :: vs)
    | _ => False
abbrev ZaE := Nat -> List SVal -> Heap -> (SVal -> Heap -> Prop) -> Prop
def Zbe (Γ : ZaE) (o : AOp) (e : Env) (H : Heap) (K : SVal -> Heap -> Prop) : Prop :=
  match o with
  | .mov x => x.ev e fun v => K v H
  | .pick c a b => c.ev e fun c => a.ev e fun a => b.ev e fun b =>
    match c, a, b with
    | .bool c, .bool a, .bool b => K (.bool (bif c then a else b)) H
    | .bool c, a, b => K (bif c then a else b) H
    | _, _, _ => False
  | .bin op x y => x.ev e fun x => y.ev e fun y => ZAR op x y fun v => K v H
  | .not x => x.ev e fun x => match x with
    | .bool b => K (.bool (!b)) H
    | _ => False
  | .box x => x.ev e fun v => K (.ptr ⟨H.next, 0, 0, 1⟩ (Zam v.chunks)) (H.push ⟨true, v.chunks, 0⟩)
  | .alloc z => K (.ptr ⟨H.next, 0, 0, 1⟩ (Zam z)) (H.push ⟨true, z, 0⟩)
  | .build zs ps => Zk2 e ps zs fun cs => K (.agg cs) H
  | .bslice k n ps => ZqM e k ps (ZpJ n) fun xs => K (.slice ⟨H.next, 0, 0, 1⟩ n n) (H.push ⟨true, [.ints k n xs], 0⟩)
  | .load1 x => x.ev e fun x => match x with
    | .ptr a _ => (match H.find a.id with
      | some en => (match isH en.cs with
        | some (n, v) => bif Nat.beq a.off 0 && Nat.beq a.st 1 then a.idx = n /\ K v H else False
        | none => rdC a.idx a.st (fun v => K v H) en.cs a.off)
      | none => False)
    | _ => False
  | .loadA sz x => x.ev e fun x => match x with
    | .ptr a _ => (match H.find a.id with
      | some en => rdA a.idx a.st sz (fun cs => K (.agg cs) H) en.cs a.off
      | none => False)
    | _ => False
  | .store1 x v => x.ev e fun x => v.ev e fun v => match x with
    | .ptr a _ => (match H.find a.id with
      | some en => (match isH en.cs with
        | some (n, _) => bif en.wr && ZmS v && Nat.beq a.off 0 && Nat.beq a.st 1 then a.idx = n /\ K (.tuple []) (H.set a.id ⟨true, ZHO v en.cs, en.ex⟩) else False
        | none => bif en.wr && ZmS v then wrC a.idx a.st v (fun cs => K (.tuple []) (H.set a.id ⟨true, cs, en.ex⟩)) en.cs a.off else False)
      | none => False)
    | _ => False
  | .storeA sz x v => x.ev e fun x => v.ev e fun v => match x, v with
    | .ptr a _, .agg new => (match H.find a.id with
      | some en => bif en.wr && Nat.beq (Zam new) sz && ZhN new then wrA a.idx a.st sz new (fun cs => K (.tuple []) (H.set a.id ⟨true, cs, en.ex⟩)) en.cs a.off else False
      | none => False)
    | _, _ => False
  | .fieldAddr x off n => x.ev e fun x => match x with
    | .ptr a _ => K (.ptr ⟨a.id, a.off + off, a.idx, a.st⟩ n) H
    | _ => False
  | .idxS x i sz => x.ev e fun x => i.ev e fun i => match x, i with
    | .slice a len _, .int _ n => bif Nat.beq a.st sz then 0 <= n /\ n < len /\ K (.ptr ⟨a.id, a.off, a.idx + n.toNat, a.st⟩ sz) H else False
    | _, _ => False
  | .len x => x.ev e fun x => match x with
    | .slice _ n _ => K (.int .i64 n) H
    | .nilslice => K (.int .i64 0) H
    | _ => False
  | .min2 x y => x.ev e fun x => y.ev e fun y => match x, y with
    | .int k a, .int _ b => K (.int k (if b < a then b else a)) H
    | _, _ => False
  | .max2 x y => x.ev e fun x => y.ev e fun y => match x, y with
    | .int k a, .int _ b => K (.int k (if a < b then b else a)) H
    | _, _ => False
  | .extract x i => x.ev e fun x => match x with
    | .tuple vs => (match vs[i]? with
      | some v => K v H
      | none => False)
    | _ => False
  | .nilCheck x => x.ev e fun x => match x with
    | .ptr a n => K (.ptr a n) H
    | _ => False
  | .call f args => evL e args fun vs => Γ f vs H K
  | .append k x y => x.ev e fun x => y.ev e fun y => ZIp H k y fun n ys => match x with
    | .nilslice => n <= 17592186044416 /\ ∀ c, n <= c -> K (.slice ⟨H.next, 0, 0, 1⟩ n c) (H.push ⟨true, [.ints k n ys], c - n⟩)
    | .slice a len cap => (match H.find a.id with
      | some en => bif en.wr && Nat.beq a.off 0 && Nat.beq a.idx 0 then (match en.cs with
        | [.ints k' m xs] => bif kEq k' k then m = len /\ xs.length = len /\ len + en.ex = cap /\ len + n <= 17592186044416 /\
            ∀ c, len + n <= c -> K (.slice ⟨H.next, 0, 0, 1⟩ (len + n) c) ((H.drop a.id).push ⟨true, [.ints k (len + n) (xs ++ ys)], c - (len + n)⟩) else False
        | _ => False) else False
      | none => False)
    | _ => False
  | .sliceS sz x lo hi mx => x.ev e fun x => match x with
    | .slice a len cap => bif Nat.beq a.st sz then ZHT e lo hi mx len cap fun l h m => K (.slice ⟨a.id, a.off, slo lo a.idx l m, a.st⟩ (h - l) (m - l)) H else False
    | .nilslice => ZHT e lo hi mx 0 0 fun _ _ _ => K .nilslice H
    | _ => False
  | .beq2 ne x y => x.ev e fun x => y.ev e fun y => match x, y with
    | .bool a, .bool b => K (.bool (bif ne then !(a == b) else a == b)) H
    | _, _ => False
  | .mkFn f caps => evL e caps fun vs => K (.fn (.func f) [] vs) H
  | .callV f x args => x.ev e fun v => match v with
    | .fn (.func g) [] caps => bif Nat.beq g f then evL e args fun vs => Γ f (vs ++ caps) H K else False
    | _ => False
  | .bsliceR sh n ps => ZqJ e sh ps fun xs => K (.slice ⟨H.next, 0, 0, Zah sh⟩ n n) (H.push ⟨true, [.rows sh n xs], 0⟩)
  | .appendR sh x y => x.ev e fun x => y.ev e fun y => ZHN H sh y fun n ys => match x with
    | .nilslice => n <= 1000000000 /\ ∀ c, n <= c -> K (.slice ⟨H.next, 0, 0, Zah sh⟩ n c) (H.push ⟨true, [.rows sh n ys], (c - n) * Zah sh⟩)
    | .slice a len cap => (match H.find a.id with
      | some en => bif en.wr && Nat.beq a.off 0 && Nat.beq a.idx 0 then (match en.cs with
        | [.rows sh' m xs] => if h : sh' = sh then m = len /\ xs.length = len /\ len * Zah sh + en.ex = cap * Zah sh /\ len + n <= 1000000000 /\
            ∀ c, len + n <= c -> K (.slice ⟨H.next, 0, 0, Zah sh⟩ (len + n) c) ((H.drop a.id).push ⟨true, [.rows sh (len + n) (ZbM h xs ++ ys)], (c - (len + n)) * Zah sh⟩) else False
        | _ => False) else False
      | none => False)
    | _ => False
  | .appendRW sh x y => x.ev e fun x => y.ev e fun y => ZHM H sh y fun n ys => match x with
    | .nilslice => n <= 1000000000 /\ ∀ c, n <= c -> K (.slice ⟨H.next, 0, 0, Zah sh⟩ n c) (H.push ⟨true, [.rows sh n ys], (c - n) * Zah sh⟩)
    | .slice a len cap => (match H.find a.id with
      | some en => bif en.wr && Nat.beq a.off 0 && Nat.beq a.idx 0 then (match en.cs with
        | [.rows sh' m xs] => if h : sh' = sh then m = len /\ xs.length = len /\ len * Zah sh + en.ex = cap * Zah sh /\ len + n <= 1000000000 /\
            ∀ c, len + n <= c -> K (.slice ⟨H.next, 0, 0, Zah sh⟩ (len + n) c) ((H.drop a.id).push ⟨true, [.rows sh (len + n) (ZbM h xs ++ ys)], (c - (len + n)) * Zah sh⟩) else False
        | _ => False) else False
      | none => False)
    | _ => False
  | .mksliceR sh l c => l.ev e fun l => c.ev e fun c => match l, c with
    | .int _ l, .int _ c => 0 <= l /\ l <= c /\ (Zah sh : Int) * c <= 1048576 /\ K (.slice ⟨H.next, 0, 0, Zah sh⟩ l.toNat c.toNat) (H.push ⟨true, [.rows sh l.toNat (List.replicate l.toNat (Tup.dflt sh))], (c.toNat - l.toNat) * Zah sh⟩)
    | _, _ => False
  | .isNilP ne x => x.ev e fun x => match x with
    | .ptr _ _ => K (.bool ne) H
    | .nilptr => K (.bool (!ne)) H
    | _ => False
  | .makeMap z => K (.map H.next) (H.push ⟨false, z, 1⟩)
  | .mapUpd k x y v => x.ev e fun x => y.ev e fun y => v.ev e fun _ => match x, y with
    | .map id, .int k' m => (match H.find id with
      | some en => bif !en.wr && Nat.beq en.ex 1 && ZeS id H.ents && kEq k' k then (match en.cs with
        | [.ints k2 n keys] => bif kEq k2 k then K (.tuple []) (H.set id ⟨false, [.ints k n (Zrd m keys)], 1⟩) else False
        | _ => False) else False
      | none => False)
    | _, _ => False
  | .mapUpV x y v => x.ev e fun x => y.ev e fun y => v.ev e fun v => match x, y, v with
    | .map id, .int k1 m, .int k2 n => (match H.find id with
      | some ⟨false, [.rows [.int .i64, .int .i64] 0 kvs, .ints .i64 0 _], 1⟩ => bif ZeS id H.ents && kEq k1 .i64 && kEq k2 .i64 then K (.tuple []) (H.set id ⟨false, [.rows [.int .i64, .int .i64] 0 (ZvC m n kvs), .ints .i64 0 []], 1⟩) else False
      | _ => False)
    | _, _, _ => False
  | .mapDel x y => x.ev e fun x => y.ev e fun y => match x, y with
    | .map id, .int k1 m => (match H.find id with
      | some ⟨false, [.rows [.int .i64, .int .i64] 0 kvs, .ints .i64 0 _], 1⟩ => bif ZeS id H.ents && kEq k1 .i64 then K (.tuple []) (H.set id ⟨false, [.rows [.int .i64, .int .i64] 0 (Zwa m kvs), .ints .i64 0 []], 1⟩) else False
      | _ => False)
    | _, _ => False
  | .mapGet x y => x.ev e fun x => y.ev e fun y => match x, y with
    | .map id, .int k1 m => (match H.find id with
      | some ⟨false, [.rows [.int .i64, .int .i64] 0 kvs, .ints .i64 0 _], 1⟩ => bif kEq k1 .i64 then K (.int .i64 (ZuN m kvs)) H else False
      | _ => False)
    | _, _ => False
  | .mapLen x => x.ev e fun x => match x with
    | .map id => (match H.find id with
      | some en => bif !en.wr && Nat.beq en.ex 1 then (match en.cs with
        | [.ints _ _ keys] => K (.int .i64 keys.length) H
        | [.rows [.int .i64, .int .i64] _ kvs, .ints .i64 _ _] => K (.int .i64 (List.length kvs)) H
        | _ => False) else False
      | none => False)
    | _ => False
  | .appendIn sh x y => x.ev e fun x => y.ev e fun y => ZHM H sh y fun n ys => match x with
    | .slice a len cap => (match H.find a.id with
      | some en => bif en.wr && Nat.beq a.off 0 && Nat.beq a.idx 0 then (match en.cs with
        | [.rows sh' m xs] => if h : sh' = sh then len + n <= m /\ len + n <= cap /\ xs.length = m /\
            K (.slice ⟨a.id, 0, 0, Zah sh⟩ (len + n) cap) (H.set a.id ⟨true, [.rows sh m ((ZbM h xs).take len ++ ys ++ (ZbM h xs).drop (len + n))], en.ex⟩) else False
        | _ => False) else False
      | none => False)
    | _ => False
  | .clearR sh x => x.ev e fun x => match x with
    | .slice a len _ => (match H.find a.id with
      | some en => bif en.wr && Nat.beq a.off 0 && Nat.beq a.st (Zah sh) then (match en.cs with
        | [.rows sh' m xs] => if sh' = sh then a.idx + len <= m /\ xs.length = m /\ K (.tuple []) (H.set a.id ⟨true, [.rows sh' m (xs.take a.idx ++ List.replicate len (Tup.dflt sh') ++ xs.drop (a.idx + len))], en.ex⟩) else False
        | _ => False) else False
      | none => False)
    | _ => False
  | .load1P x => x.ev e fun x => match x with
    | .ptr a _ => (match H.find a.id with
      | some en => bif Nat.beq a.off 0 && Nat.beq a.st 1 then ZkZ (fun v => K v H) en.cs a.idx else False
      | none => False)
    | _ => False
  | .loadHr x => x.ev e fun x => match x with
    | .ptr a _ => (match H.find a.id with
      | some ⟨false, [.rows [.hd] n _, .rows [.ints .i64 0, .ints .i64 0] 0 cs], _⟩ => bif Nat.beq a.off 0 && Nat.beq a.st 1 && ZmM H.ents then
          a.idx < n /\ ∀ c : Nat, (Za4 cs a.idx).length <= c -> K (.slice ⟨H.next, 0, 0, 2⟩ (Za4 cs a.idx).length c) (H.push ⟨false, [.rows [.int .i64, .int .i64] (Za4 cs a.idx).length (Za4 cs a.idx)], 0⟩) else False
      | some ⟨false, [.rows [.hd] n _, .rows [.ints k 0] 0 cs], _⟩ => bif Nat.beq a.off 0 && Nat.beq a.st 1 && ZmM H.ents then
          a.idx < n /\ ∀ c : Nat, (List.getD cs a.idx []).length <= c -> K (.slice ⟨H.next, 0, 0, 1⟩ (List.getD cs a.idx []).length c) (H.push ⟨false, [.ints k (List.getD cs a.idx []).length (List.getD cs a.idx [])], 0⟩) else False
      | _ => False)
    | _ => False
  | .bsliceV n ps => ZqK e ps fun vs => K (.slice ⟨H.next, 0, 0, 1⟩ n n) (H.push ⟨true, vs.map Chunk.one, 0⟩)
  | .appendFit sh x y => x.ev e fun x => y.ev e fun y => ZHN H sh y fun n ys => match x with
    | .slice a len cap => (match H.find a.id with
      | some en => bif en.wr && Nat.beq a.off 0 && Nat.beq a.idx 0 then (match en.cs with
        | [.rows sh' m xs] => if h : sh' = sh then m = len /\ xs.length = len /\ n * Zah sh <= en.ex /\ len + n <= cap /\
            K (.slice ⟨a.id, 0, 0, Zah sh⟩ (len + n) cap) (H.set a.id ⟨true, [.rows sh (len + n) (ZbM h xs ++ ys)], en.ex - n * Zah sh⟩) else False
        | _ => False) else False
      | none => False)
    | _ => False
  | .bad => False
end Go.Sx
