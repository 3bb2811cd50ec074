/- Part of the proof: SxEv. -/
import Derived.Test.YtfffjdfegnmejaaSxWorld
set_option linter.unusedVariables false
set_option linter.unusedSimpArgs false
namespace Go.Sx
inductive Opd | tm (n : Nat) | cn (v : SVal)
inductive AOp
  | mov (x : Opd)
  | bin (op : BinOp) (x y : Opd)
  | not (x : Opd)
  | conv (k : IntKind) (x : Opd)
  | box (x : Opd)
  | alloc (z : List Chunk)
  | build (zs : List Chunk) (ps : List (Nat × Nat × Opd))
  | bslice (k : IntKind) (n : Nat) (ps : List (Nat × Opd))
  | load1 (x : Opd)
  | loadA (sz : Nat) (x : Opd)
  | store1 (x v : Opd)
  | storeA (sz : Nat) (x v : Opd)
  | fieldAddr (x : Opd) (off n : Nat)
  | idxS (x i : Opd) (sz : Nat)
  | idxA (x i : Opd) (len sz : Nat)
  | len (x : Opd)
  | slen (x : Opd)
  | extract (x : Opd) (i : Nat)
  | nilCheck (x : Opd)
  | call (f : Nat) (args : List Opd)
  | append (k : IntKind) (x y : Opd)
  | sliceP (n : Nat) (x : Opd) (lo hi mx : Option Opd)
  | mkslice (k : IntKind) (l c : Opd)
  | strIdx (x i : Opd)
  | eqA (ne : Bool) (z : List Chunk) (x y : Opd)
  | buildI (k : IntKind) (n : Nat) (ps : List (Nat × Opd))
  | isNilP (ne : Bool) (x : Opd)
  | makeMap (z : List Chunk)
  | mapUpd (k : IntKind) (x y v : Opd)
  | mapLen (x : Opd)
  | mapUpV (x y v : Opd)
  | mapDel (x y : Opd)
  | mapGet (x y : Opd)
  | appendIn (sh : List Leaf) (x y : Opd)
  | clearR (sh : List Leaf) (x : Opd)
  | appendFit (sh : List Leaf) (x y : Opd)
  | load1P (x : Opd)
  | loadHr (x : Opd)
  | appendRW (sh : List Leaf) (x y : Opd)
  | bsliceV (n : Nat) (ps : List Opd)
  | bsliceH (k : IntKind) (ps : List Opd)
  | loadHq (x : Opd)
  | idxHq (x i r : Opd)
  | loadRq (x r i : Opd)
  | appendH (x y : Opd)
  | bad
abbrev Env := List (Nat × Option SVal)
def ZeN : Env -> Nat -> Option SVal
  | [], _ => none
  | (k, v) :: r, n => bif Nat.beq k n then v else ZeN r n
def Opd.ev (e : Env) (x : Opd) (K : SVal -> Prop) : Prop :=
  match x with
  | .cn v => K v
  | .tm n => match ZeN e n with
    | some v => K v
    | none => False
def evL (e : Env) : List Opd -> (List SVal -> Prop) -> Prop
  | [], K => K []
  | x :: r, K => x.ev e fun v => evL e r fun vs => K (v :: vs)
def ZaR (k : IntKind) (a b : Int) : Int := k.wrap (BitVec.ofInt k.bits a &&& BitVec.ofInt k.bits b).toNat
def ior (k : IntKind) (a b : Int) : Int := k.wrap (BitVec.ofInt k.bits a ||| BitVec.ofInt k.bits b).toNat
def Zar (k : IntKind) (a b : Int) : Int := k.wrap (BitVec.ofInt k.bits a ^^^ BitVec.ofInt k.bits b).toNat
def Zxu (k : IntKind) (a b : Int) : Int := k.wrap (BitVec.ofInt k.bits a &&& ~~~ BitVec.ofInt k.bits b).toNat
def Zgv (k : IntKind) (a b : Int) : Int := k.wrap (a * 2 ^ (min b.toNat k.bits))
def ZbF (k : IntKind) (a b : Int) : Int := a.fdiv (2 ^ (min b.toNat k.bits))
def kEq : IntKind -> IntKind -> Bool
  | .i8, .i8 | .i16, .i16 | .i32, .i32 | .i64, .i64 | .u8, .u8 | .u16, .u16 | .u32, .u32 | .u64, .u64 => true
  | _, _ => false
def ZE0 (op : BinOp) (x y : SVal) (K : SVal -> Prop) : Prop :=
  match x, y with
  | .int k a, .int k' b =>
    match op with
    | .add => bif kEq k k' then K (.int k (k.wrap (a + b))) else False
    | .sub => bif kEq k k' then K (.int k (k.wrap (a - b))) else False
    | .mul => bif kEq k k' then K (.int k (k.wrap (a * b))) else False
    | .quo => bif kEq k k' then b ≠ 0 /\ K (.int k (k.wrap (a.tdiv b))) else False
    | .rem => bif kEq k k' then b ≠ 0 /\ K (.int k (a.tmod b)) else False
    | .and => bif kEq k k' then K (.int k (ZaR k a b)) else False
    | .or => bif kEq k k' then K (.int k (ior k a b)) else False
    | .xor => bif kEq k k' then K (.int k (Zar k a b)) else False
    | .andNot => bif kEq k k' then K (.int k (Zxu k a b)) else False
    | .shl => 0 <= b /\ K (.int k (Zgv k a b))
    | .shr => 0 <= b /\ K (.int k (ZbF k a b))
    | .eql => bif kEq k k' then K (.bool (a == b)) else False
    | .neq => bif kEq k k' then K (.bool (a != b)) else False
    | .lss => bif kEq k k' then K (.bool (decide (a < b))) else False
    | .leq => bif kEq k k' then K (.bool (decide (a <= b))) else False
    | .gtr => bif kEq k k' then K (.bool (decide (b < a))) else False
    | .geq => bif kEq k k' then K (.bool (decide (b <= a))) else False
  | .str a, .str b =>
    match op with
    | .eql => K (.bool (a.toList == b.toList))
    | .neq => K (.bool (!(a.toList == b.toList)))
    | .add => ((a.size + b.size : Nat) : Int) <= 9223372036854775807 /\ K (.str (a ++ b))
    | _ => False
  | _, _ => False
def ZEq (K : SVal -> Prop) (off : Nat) : (l : Leaf) -> l.T -> Prop
  | .int k, x => bif Nat.beq off 0 then K (.int k x) else False
  | .bool, x => bif Nat.beq off 0 then K (.bool x) else False
  | .ints k n, x => off < n /\ K (.int k (List.getD x off 0))
  | .hd, _ => False
def ZrX (K : SVal -> Prop) : (sh : List Leaf) -> Tup sh -> Nat -> Prop
  | [], _, _ => False
  | [l], x, off => ZEq K off l x
  | l :: m :: r, x, off => bif Nat.ble l.len off then ZrX K (m :: r) x.2 (off - l.len) else ZEq K off l x.1
def rdC (idx st : Nat) (K : SVal -> Prop) : List Chunk -> Nat -> Prop
  | [], _ => False
  | .one v :: r, off => bif Nat.beq off 0 then (bif Nat.beq idx 0 then K v else False) else rdC idx st K r (off - 1)
  | .ints k n xs :: r, off => bif Nat.beq off 0 then (bif Nat.beq st 1 then idx < n /\ K (.int k (xs.getD idx 0)) else False) else (bif Nat.ble n off then rdC idx st K r (off - n) else False)
  | .rows sh n xs :: _, off => bif Nat.beq st (Zaj sh) then idx < n /\ ZrX K sh (xs.getD idx (Tup.dflt sh)) off else False
def Zn5 : SVal -> Bool
  | .agg _ | .tuple _ | .raw _ _ => false
  | _ => true
def Ziu : List Chunk -> Bool
  | [] => true
  | .one v :: r => Zn5 v && Ziu r
  | .ints _ _ _ :: r => Ziu r
  | .rows _ _ _ :: r => Ziu r
def ZkR : List Chunk -> Bool
  | .rows [.hd] _ _ :: _ => false
  | _ => true
theorem ZfB : ∀ {cs : List Chunk}, ZkR cs = true -> Za2 cs = none
  | [], _ => rfl
  | .one _ :: _, _ => rfl
  | .ints _ _ _ :: _, _ => rfl
  | .rows sh n xs :: r, h => by
    by_cases hs : sh = [.hd]
    · subst hs; simp [ZkR] at h
    · unfold Za2
      split
      · rename_i heq; cases heq; exact absurd rfl hs
      · rename_i heq; cases heq; exact absurd rfl hs
      · rfl
def Zwp : (l : Leaf) -> l.T -> Nat -> SVal -> (l.T -> Prop) -> Prop
  | .int k, _, off, v, K => bif Nat.beq off 0 then (match v with
    | .int k' m => bif kEq k' k then K m else False
    | _ => False) else False
  | .bool, _, off, v, K => bif Nat.beq off 0 then (match v with
    | .bool b => K b
    | _ => False) else False
  | .ints _ _, _, _, _, _ => False
  | .hd, _, _, _, _ => False
def Zyx : (sh : List Leaf) -> Tup sh -> Nat -> SVal -> (Tup sh -> Prop) -> Prop
  | [], _, _, _, _ => False
  | [l], x, off, v, K => Zwp l x off v K
  | l :: m :: r, x, off, v, K => bif Nat.ble l.len off then Zyx (m :: r) x.2 (off - l.len) v (fun y => K (x.1, y)) else Zwp l x.1 off v (fun y => K (y, x.2))
def wrC (idx st : Nat) (v : SVal) : (List Chunk -> Prop) -> List Chunk -> Nat -> Prop
  | _, [], _ => False
  | K, .one u :: r, off => bif Nat.beq off 0 then (bif Nat.beq idx 0 then K (.one v :: r) else False) else wrC idx st v (fun l => K (.one u :: l)) r (off - 1)
  | K, .ints k n xs :: r, off => bif Nat.beq off 0 then
      match v with
      | .int k' m => bif kEq k' k && Nat.beq st 1 then idx < n /\ idx < xs.length /\ K (.ints k n (xs.set idx m) :: r) else False
      | _ => False
    else (bif Nat.ble n off then wrC idx st v (fun l => K (.ints k n xs :: l)) r (off - n) else False)
  | K, .rows sh n xs :: r, off => bif Nat.beq st (Zaj sh) then idx < n /\ xs.length = n /\ Zyx sh (xs.getD idx (Tup.dflt sh)) off v (fun t => K (.rows sh n (xs.set idx t) :: r)) else False
def Zln : (List Chunk -> Prop) -> List Chunk -> Nat -> Prop
  | K, [], sz => bif Nat.beq sz 0 then K [] else False
  | K, c :: r, sz => bif Nat.beq sz 0 then K [] else (bif Nat.ble c.len sz then Zln (fun l => K (c :: l)) r (sz - c.len) else False)
def Ztd : (List Chunk -> Prop) -> List Chunk -> Nat -> Prop
  | K, [], sz => bif Nat.beq sz 0 then K [] else False
  | K, c :: r, sz => bif Nat.beq sz 0 then K (c :: r) else (bif Nat.ble c.len sz then Ztd K r (sz - c.len) else False)
def Zbt : (l : Leaf) -> l.T -> Chunk
  | .int k, x => .one (.int k x)
  | .bool, x => .one (.bool x)
  | .ints k n, x => .ints k n x
  | .hd, x => .rows [.hd] 1 [x]
def Zbf : (sh : List Leaf) -> Tup sh -> List Chunk
  | [], _ => []
  | [l], x => [Zbt l x]
  | l :: m :: r, x => Zbt l x.1 :: Zbf (m :: r) x.2
def rdA (idx st sz : Nat) (K : List Chunk -> Prop) : List Chunk -> Nat -> Prop
  | [], _ => False
  | .one v :: r, off => bif Nat.beq off 0 then (bif Nat.beq idx 0 then Zln K (.one v :: r) sz else False) else rdA idx st sz K r (off - 1)
  | .ints k n xs :: r, off => bif Nat.beq off 0 then
      (bif Nat.ble n sz then (bif Nat.beq idx 0 then Zln K (.ints k n xs :: r) sz else False)
       else (bif Nat.beq st 1 then idx + sz <= n /\ K [.ints k sz ((xs.drop idx).take sz)] else False))
    else (bif Nat.ble n off then rdA idx st sz K r (off - n) else False)
  | .rows sh n xs :: _, off => bif Nat.beq st (Zaj sh) then idx < n /\ Ztd (fun l => Zln K l sz) (Zbf sh (xs.getD idx (Tup.dflt sh))) off else False
def ZsO (m : Int) (keys : List Int) : List Int := if m ∈ keys then keys else keys ++ [m]
def Zkz : (l : Leaf) -> Chunk -> (l.T -> Prop) -> Prop
  | .int k, c, K => match c with
    | .one (.int k' x) => bif kEq k' k then K x else False
    | _ => False
  | .bool, c, K => match c with
    | .one (.bool x) => K x
    | _ => False
  | .ints k n, c, K => match c with
    | .ints k' n' xs => bif kEq k' k && Nat.beq n' n then K xs else False
    | _ => False
  | .hd, _, _ => False
def isH : List Chunk -> Option (Nat × SVal)
  | [.rows [.hd] n _, .one v, .rows [.hd] _ _] => some (n, v)
  | _ => none
def ZLQ (v : SVal) : List Chunk -> List Chunk
  | [a, _, b] => [a, .one v, b]
  | cs => cs
def ZuE : (sh : List Leaf) -> List Chunk -> (Tup sh -> Prop) -> Prop
  | [], _, _ => False
  | [l], cs, K => match cs with
    | [c] => Zkz l c K
    | _ => False
  | l :: m :: r, cs, K => match cs with
    | c :: cs => Zkz l c fun x => ZuE (m :: r) cs fun y => K (x, y)
    | [] => False
def wrA (idx st sz : Nat) (new : List Chunk) : (List Chunk -> Prop) -> List Chunk -> Nat -> Prop
  | _, [], _ => False
  | K, .one v :: r, off => bif Nat.beq off 0 then (bif Nat.beq idx 0 then Ztd (fun l => K (new ++ l)) (.one v :: r) sz else False) else wrA idx st sz new (fun l => K (.one v :: l)) r (off - 1)
  | K, .ints k n xs :: r, off => bif Nat.beq off 0 then
      (bif Nat.ble n sz then (bif Nat.beq idx 0 then Ztd (fun l => K (new ++ l)) (.ints k n xs :: r) sz else False)
       else match new with
        | [.ints k' m ys] => bif kEq k' k && Nat.beq m sz && Nat.beq st 1 then idx + sz <= n /\ xs.length = n /\ ys.length = sz /\ K (.ints k n (xs.take idx ++ ys ++ xs.drop (idx + sz)) :: r) else False
        | _ => False)
    else (bif Nat.ble n off then wrA idx st sz new (fun l => K (.ints k n xs :: l)) r (off - n) else False)
  | K, .rows sh n xs :: r, off => bif Nat.beq off 0 && Nat.beq st (Zaj sh) && Nat.beq sz (Zaj sh) then idx < n /\ xs.length = n /\ ZuE sh new (fun t => K (.rows sh n (xs.set idx t) :: r)) else False
def SVal.chunks : SVal -> List Chunk
  | .agg cs => cs
  | v => [.one v]
def ZlP (e : Env) : List (Nat × Nat × Opd) -> List Chunk -> (List Chunk -> Prop) -> Prop
  | [], zs, K => K zs
  | (off, sz, x) :: ps, zs, K => x.ev e fun v => bif Nat.beq (Zam v.chunks) sz then wrA 0 1 sz v.chunks (fun zs' => ZlP e ps zs' K) zs off else False
def Zi2 : Nat -> List Int
  | 0 => []
  | n + 1 => 0 :: Zi2 n
def Zof (e : Env) (k : IntKind) : List (Nat × Opd) -> List Int -> (List Int -> Prop) -> Prop
  | [], xs, K => K xs
  | (i, x) :: ps, xs, K => x.ev e fun v => match v with
    | .int k' n => bif kEq k' k && Nat.blt i xs.length then Zof e k ps (xs.set i n) K else False
    | _ => False
def ZzH (lo st len : Nat) (K : Chunk -> Prop) : List Chunk -> Nat -> Prop
  | [], _ => False
  | .one _ :: r, off => bif Nat.beq off 0 then False else ZzH lo st len K r (off - 1)
  | .ints k n xs :: r, off => bif Nat.beq off 0 then (bif Nat.beq st 1 then lo + len <= n /\ K (.ints k len ((xs.drop lo).take len)) else False)
    else (bif Nat.ble n off then ZzH lo st len K r (off - n) else False)
  | .rows _ _ _ :: _, _ => False
def ZoB (lo len : Nat) (k' : IntKind) (n' : Nat) (ys : List Int) : (List Chunk -> Prop) -> List Chunk -> Nat -> Prop
  | _, [], _ => False
  | K, .one v :: r, off => bif Nat.beq off 0 then False else ZoB lo len k' n' ys (fun l => K (.one v :: l)) r (off - 1)
  | K, .ints k n xs :: r, off => bif Nat.beq off 0 then
      (bif kEq k' k then n' = len /\ lo + len <= n /\ xs.length = n /\ ys.length = len /\ K (.ints k n (xs.take lo ++ ys ++ xs.drop (lo + len)) :: r) else False)
    else (bif Nat.ble n off then ZoB lo len k' n' ys (fun l => K (.ints k n xs :: l)) r (off - n) else False)
  | _, .rows _ _ _ :: _, _ => False
def ZEg (e : Env) (o : Option Opd) (y d : Nat) (K : Nat -> Prop) : Prop :=
  match o with
  | none => K d
  | some x => x.ev e fun v => match v with
    | .int _ n => 0 <= n /\ n <= y /\ K n.toNat
    | _ => False
def ZMX (e : Env) (lo hi mx : Option Opd) (len cap : Nat) (K : Nat -> Nat -> Nat -> Prop) : Prop :=
  match mx, hi with
  | some _, none => False
  | _, _ => ZEg e mx cap cap fun m => ZEg e hi m len fun h => ZEg e lo h 0 fun l => K l h m
def slo (lo : Option Opd) (idx l m : Nat) : Nat :=
  match lo with
  | none => idx
  | some _ => idx + (if m = l then 0 else l)
def ZL3 (H : Heap) (k : IntKind) (y : SVal) (K : Nat -> List Int -> Prop) : Prop :=
  match y with
  | .nilslice => K 0 []
  | .slice b n _ => (match H.find b.id with
    | some en => ZzH b.idx b.st n (fun c => match c with
      | .ints k' _ ys => bif kEq k' k then K n ys else False
      | _ => False) en.cs b.off
    | none => False)
  | _ => False
def ZbQ {sh' sh : List Leaf} (h : sh' = sh) (xs : List (Tup sh')) : List (Tup sh) := h ▸ xs
def ZL2 (H : Heap) (sh : List Leaf) (y : SVal) (K : Nat -> List (Tup sh) -> Prop) : Prop :=
  match y with
  | .nilslice => K 0 []
  | .slice b n _ => (match H.find b.id with
    | some en => bif Nat.beq b.off 0 && Nat.beq b.idx 0 then (match en.cs with
      | [.rows sh' m ys] => if h : sh' = sh then m = n /\ ys.length = n /\ K n (ZbQ h ys) else False
      | _ => False) else False
    | none => False)
  | _ => False
def ZLP (H : Heap) (sh : List Leaf) (y : SVal) (K : Nat -> List (Tup sh) -> Prop) : Prop :=
  match y with
  | .nilslice => K 0 []
  | .slice b n _ => (match H.find b.id with
    | some en => bif Nat.beq b.off 0 && Nat.beq b.st (Zaj sh) then (match en.cs with
      | [.rows sh' m ys] => if h : sh' = sh then b.idx + n <= m /\ ys.length = m /\ K n (((ZbQ h ys).drop b.idx).take n) else False
      | _ => False) else False
    | none => False)
  | _ => False
def Zzt : List Chunk -> List Chunk -> List Chunk -> (Bool -> Prop) -> Prop
  | [], [], [], K => K true
  | c :: z, a :: x, b :: y, K => match c, a, b with
    | .one (.int k _), .one (.int k1 i), .one (.int k2 j) => bif kEq k1 k && kEq k2 k then Zzt z x y fun q => K ((i == j) && q) else False
    | .one (.bool _), .one (.bool i), .one (.bool j) => Zzt z x y fun q => K ((i == j) && q)
    | .ints k n _, .ints k1 n1 xs, .ints k2 n2 ys => bif kEq k1 k && kEq k2 k && Nat.beq n1 n && Nat.beq n2 n then xs.length = n /\ ys.length = n /\ Zzt z x y fun q => K ((xs == ys) && q) else False
    | _, _, _ => False
  | _, _, _, _ => False
abbrev Zyw := List SVal -> Heap -> (SVal -> Heap -> Prop) -> Prop
def Zyu (m : Int) (kvs : List (Int × Int)) : Option Nat := kvs.findIdx? (fun p => m == p.1)
def ZyM (m n : Int) (kvs : List (Int × Int)) : List (Int × Int) := match Zyu m kvs with
  | some j => kvs.set j (m, n)
  | none => kvs ++ [(m, n)]
def Zzu (m : Int) (kvs : List (Int × Int)) : List (Int × Int) := match Zyu m kvs with
  | some j => kvs.eraseIdx j
  | none => kvs
def Zxx (m : Int) (kvs : List (Int × Int)) : Int := match Zyu m kvs with
  | some j => (kvs.getD j (0, 0)).2
  | none => 0
def ZnV : List (Nat × Option Ent) -> Bool
  | [] => true
  | (_, some e) :: r => (e.wr || !(Nat.beq e.ex 2)) && ZnV r
  | (_, none) :: r => ZnV r
def ZlM (K : SVal -> Prop) : List Chunk -> Nat -> Prop
  | [.one v], n => n = 0 /\ K v
  | .one v :: r, n => (decide (n = 0) = true -> K v) /\ (decide (n = 0) = false -> ZlM K r (n - 1))
  | _, _ => False
def Zsa (e : Env) : List Opd -> (List SVal -> Prop) -> Prop
  | [], K => K []
  | x :: r, K => x.ev e fun v => match v with
    | .ptr a n => Zsa e r fun vs => K (.ptr a n :: vs)
    | _ => False
abbrev Zav := Nat -> List SVal -> Heap -> (SVal -> Heap -> Prop) -> Prop
def ZiG (h : Hdr) (j : Nat) : Hdr := (h.1.map fun p => (p.1, p.2 + j), 0, 0)
def ZaV (Γ : Zav) (o : AOp) (e : Env) (H : Heap) (K : SVal -> Heap -> Prop) : Prop :=
  match o with
  | .mov x => x.ev e fun v => K v H
  | .bin op x y => x.ev e fun x => y.ev e fun y => ZE0 op x y fun v => K v H
  | .not x => x.ev e fun x => match x with
    | .bool b => K (.bool (!b)) H
    | _ => False
  | .conv k x => x.ev e fun x => match x with
    | .int _ n => K (.int k (k.wrap n)) H
    | _ => False
  | .box x => x.ev e fun v => bif ZkR v.chunks then K (.ptr ⟨H.next, 0, 0, 1⟩ (Zam v.chunks)) (H.push ⟨true, v.chunks, 0⟩) else False
  | .alloc z => bif ZkR z then K (.ptr ⟨H.next, 0, 0, 1⟩ (Zam z)) (H.push ⟨true, z, 0⟩) else False
  | .build zs ps => ZlP e ps zs fun cs => K (.agg cs) H
  | .bslice k n ps => Zof e k ps (Zi2 n) fun xs => K (.slice ⟨H.next, 0, 0, 1⟩ n n) (H.push ⟨true, [.ints k n xs], 0⟩)
  | .load1 x => x.ev e fun x => match x with
    | .ptr a _ => (match H.find a.id with
      | some en => (match isH en.cs with
        | some (n, v) => bif Nat.beq a.off 0 && Nat.beq a.st 1 then a.idx = n /\ K v H else False
        | none => rdC a.idx a.st (fun v => K v H) en.cs a.off)
      | none => False)
    | _ => False
  | .loadA sz x => x.ev e fun x => match x with
    | .ptr a _ => (match H.find a.id with
      | some en => rdA a.idx a.st sz (fun cs => K (.agg cs) H) en.cs a.off
      | none => False)
    | _ => False
  | .store1 x v => x.ev e fun x => v.ev e fun v => match x with
    | .ptr a _ => (match H.find a.id with
      | some en => (match isH en.cs with
        | some (n, _) => bif en.wr && Zn5 v && Nat.beq a.off 0 && Nat.beq a.st 1 then a.idx = n /\ K (.tuple []) (H.set a.id ⟨true, ZLQ v en.cs, en.ex⟩) else False
        | none => bif en.wr && Zn5 v then wrC a.idx a.st v (fun cs => bif ZkR cs then K (.tuple []) (H.set a.id ⟨true, cs, en.ex⟩) else False) en.cs a.off else False)
      | none => False)
    | _ => False
  | .storeA sz x v => x.ev e fun x => v.ev e fun v => match x, v with
    | .ptr a _, .agg new => (match H.find a.id with
      | some en => bif en.wr && Nat.beq (Zam new) sz && Ziu new then wrA a.idx a.st sz new (fun cs => bif ZkR cs then K (.tuple []) (H.set a.id ⟨true, cs, en.ex⟩) else False) en.cs a.off else False
      | none => False)
    | _, _ => False
  | .fieldAddr x off n => x.ev e fun x => match x with
    | .ptr a _ => K (.ptr ⟨a.id, a.off + off, a.idx, a.st⟩ n) H
    | _ => False
  | .idxS x i sz => x.ev e fun x => i.ev e fun i => match x, i with
    | .slice a len _, .int _ n => bif Nat.beq a.st sz then 0 <= n /\ n < len /\ K (.ptr ⟨a.id, a.off, a.idx + n.toNat, a.st⟩ sz) H else False
    | _, _ => False
  | .idxA x i len sz => x.ev e fun x => i.ev e fun i => match x, i with
    | .ptr a _, .int _ n => 0 <= n /\ n < len /\ K (.ptr ⟨a.id, a.off, a.idx * a.st + n.toNat * sz, 1⟩ sz) H
    | _, _ => False
  | .len x => x.ev e fun x => match x with
    | .slice _ n _ => K (.int .i64 n) H
    | .nilslice => K (.int .i64 0) H
    | _ => False
  | .slen x => x.ev e fun x => match x with
    | .str s => K (.int .i64 s.size) H
    | _ => False
  | .extract x i => x.ev e fun x => match x with
    | .tuple vs => (match vs[i]? with
      | some v => K v H
      | none => False)
    | _ => False
  | .nilCheck x => x.ev e fun x => match x with
    | .ptr a n => K (.ptr a n) H
    | _ => False
  | .call f args => evL e args fun vs => Γ f vs H K
  | .append k x y => x.ev e fun x => y.ev e fun y => ZL3 H k y fun n ys => match x with
    | .nilslice => n <= 17592186044416 /\ ∀ c, n <= c -> K (.slice ⟨H.next, 0, 0, 1⟩ n c) (H.push ⟨true, [.ints k n ys], c - n⟩)
    | .slice a len cap => (match H.find a.id with
      | some en => bif en.wr && Nat.beq a.off 0 && Nat.beq a.idx 0 then (match en.cs with
        | [.ints k' m xs] => bif kEq k' k then m = len /\ xs.length = len /\ len + en.ex = cap /\ len + n <= 17592186044416 /\
            ∀ c, len + n <= c -> K (.slice ⟨H.next, 0, 0, 1⟩ (len + n) c) ((H.drop a.id).push ⟨true, [.ints k (len + n) (xs ++ ys)], c - (len + n)⟩) else False
        | _ => False) else False
      | none => False)
    | _ => False
  | .sliceP n x lo hi mx => x.ev e fun x => match x with
    | .ptr a _ => ZMX e lo hi mx n n fun l h m => K (.slice ⟨a.id, a.off, slo lo (a.idx * a.st) l m, 1⟩ (h - l) (m - l)) H
    | _ => False
  | .mkslice k l c => l.ev e fun l => c.ev e fun c => match l, c with
    | .int _ l, .int _ c => 0 <= l /\ l <= c /\ c <= 1048576 /\ K (.slice ⟨H.next, 0, 0, 1⟩ l.toNat c.toNat) (H.push ⟨true, [.ints k l.toNat (List.replicate l.toNat 0)], c.toNat - l.toNat⟩)
    | _, _ => False
  | .strIdx x i => x.ev e fun x => i.ev e fun i => match x, i with
    | .str s, .int _ n => 0 <= n /\ n < s.size /\ K (.int .u8 ((s.data.toList.getD n.toNat 0).toNat : Int)) H
    | _, _ => False
  | .eqA ne z x y => x.ev e fun x => y.ev e fun y => match x, y with
    | .agg cs, .agg cs' => Zzt z cs cs' fun q => K (.bool (bif ne then !q else q)) H
    | _, _ => False
  | .buildI k n ps => Zof e k ps (Zi2 n) fun xs => K (.agg [.ints k n xs]) H
  | .appendRW sh x y => x.ev e fun x => y.ev e fun y => ZLP H sh y fun n ys => match x with
    | .nilslice => n <= 1000000000 /\ ∀ c, n <= c -> K (.slice ⟨H.next, 0, 0, Zaj sh⟩ n c) (H.push ⟨true, [.rows sh n ys], (c - n) * Zaj sh⟩)
    | .slice a len cap => (match H.find a.id with
      | some en => bif en.wr && Nat.beq a.off 0 && Nat.beq a.idx 0 then (match en.cs with
        | [.rows sh' m xs] => if h : sh' = sh then m = len /\ xs.length = len /\ len * Zaj sh + en.ex = cap * Zaj sh /\ len + n <= 1000000000 /\
            ∀ c, len + n <= c -> K (.slice ⟨H.next, 0, 0, Zaj sh⟩ (len + n) c) ((H.drop a.id).push ⟨true, [.rows sh (len + n) (ZbQ h xs ++ ys)], (c - (len + n)) * Zaj sh⟩) else False
        | _ => False) else False
      | none => False)
    | _ => False
  | .isNilP ne x => x.ev e fun x => match x with
    | .ptr _ _ => K (.bool ne) H
    | .nilptr => K (.bool (!ne)) H
    | _ => False
  | .makeMap z => K (.map H.next) (H.push ⟨false, z, 1⟩)
  | .mapUpd k x y v => x.ev e fun x => y.ev e fun y => v.ev e fun _ => match x, y with
    | .map id, .int k' m => (match H.find id with
      | some en => bif !en.wr && Nat.beq en.ex 1 && Ze0 id H.ents && kEq k' k then (match en.cs with
        | [.ints k2 n keys] => bif kEq k2 k then K (.tuple []) (H.set id ⟨false, [.ints k n (ZsO m keys)], 1⟩) else False
        | _ => False) else False
      | none => False)
    | _, _ => False
  | .mapUpV x y v => x.ev e fun x => y.ev e fun y => v.ev e fun v => match x, y, v with
    | .map id, .int k1 m, .int k2 n => (match H.find id with
      | some ⟨false, [.rows [.int .i64, .int .i64] 0 kvs, .ints .i64 0 _], 1⟩ => bif Ze0 id H.ents && kEq k1 .i64 && kEq k2 .i64 then K (.tuple []) (H.set id ⟨false, [.rows [.int .i64, .int .i64] 0 (ZyM m n kvs), .ints .i64 0 []], 1⟩) else False
      | _ => False)
    | _, _, _ => False
  | .mapDel x y => x.ev e fun x => y.ev e fun y => match x, y with
    | .map id, .int k1 m => (match H.find id with
      | some ⟨false, [.rows [.int .i64, .int .i64] 0 kvs, .ints .i64 0 _], 1⟩ => bif Ze0 id H.ents && kEq k1 .i64 then K (.tuple []) (H.set id ⟨false, [.rows [.int .i64, .int .i64] 0 (Zzu m kvs), .ints .i64 0 []], 1⟩) else False
      | _ => False)
    | _, _ => False
  | .mapGet x y => x.ev e fun x => y.ev e fun y => match x, y with
    | .map id, .int k1 m => (match H.find id with
      | some ⟨false, [.rows [.int .i64, .int .i64] 0 kvs, .ints .i64 0 _], 1⟩ => bif kEq k1 .i64 then K (.int .i64 (Zxx m kvs)) H else False
      | _ => False)
    | _, _ => False
  | .mapLen x => x.ev e fun x => match x with
    | .map id => (match H.find id with
      | some en => bif !en.wr && Nat.beq en.ex 1 then (match en.cs with
        | [.ints _ _ keys] => K (.int .i64 keys.length) H
        | [.rows [.int .i64, .int .i64] _ kvs, .ints .i64 _ _] => K (.int .i64 (List.length kvs)) H
        | _ => False) else False
      | none => False)
    | _ => False
  | .appendIn sh x y => x.ev e fun x => y.ev e fun y => ZLP H sh y fun n ys => match x with
    | .slice a len cap => (match H.find a.id with
      | some en => bif en.wr && Nat.beq a.off 0 && Nat.beq a.idx 0 then (match en.cs with
        | [.rows sh' m xs] => if h : sh' = sh then len + n <= m /\ len + n <= cap /\ xs.length = m /\
            K (.slice ⟨a.id, 0, 0, Zaj sh⟩ (len + n) cap) (H.set a.id ⟨true, [.rows sh m ((ZbQ h xs).take len ++ ys ++ (ZbQ h xs).drop (len + n))], en.ex⟩) else False
        | _ => False) else False
      | none => False)
    | _ => False
  | .clearR sh x => x.ev e fun x => match x with
    | .slice a len _ => (match H.find a.id with
      | some en => bif en.wr && Nat.beq a.off 0 && Nat.beq a.st (Zaj sh) then (match en.cs with
        | [.rows sh' m xs] => if sh' = sh then a.idx + len <= m /\ xs.length = m /\ K (.tuple []) (H.set a.id ⟨true, [.rows sh' m (xs.take a.idx ++ List.replicate len (Tup.dflt sh') ++ xs.drop (a.idx + len))], en.ex⟩) else False
        | _ => False) else False
      | none => False)
    | _ => False
  | .load1P x => x.ev e fun x => match x with
    | .ptr a _ => (match H.find a.id with
      | some en => bif Nat.beq a.off 0 && Nat.beq a.st 1 then ZlM (fun v => K v H) en.cs a.idx else False
      | none => False)
    | _ => False
  | .loadHr x => x.ev e fun x => match x with
    | .ptr a _ => (match H.find a.id with
      | some ⟨false, [.rows [.hd] n _, .rows [.ints .i64 0, .ints .i64 0] 0 cs], _⟩ => bif Nat.beq a.off 0 && Nat.beq a.st 1 && ZnV H.ents then
          a.idx < n /\ ∀ c : Nat, (ZdV cs a.idx).length <= c -> K (.slice ⟨H.next, 0, 0, 2⟩ (ZdV cs a.idx).length c) (H.push ⟨false, [.rows [.int .i64, .int .i64] (ZdV cs a.idx).length (ZdV cs a.idx)], 0⟩) else False
      | some ⟨_, [.rows [.hd] n _, .rows [.ints k 0] 0 cs], _⟩ => bif Nat.beq a.off 0 && Nat.beq a.st 1 && ZnV H.ents then
          a.idx < n /\ ∀ c : Nat, (List.getD cs a.idx []).length <= c -> K (.slice ⟨H.next, 0, 0, 1⟩ (List.getD cs a.idx []).length c) (H.push ⟨false, [.ints k (List.getD cs a.idx []).length (List.getD cs a.idx [])], 0⟩) else False
      | _ => False)
    | _ => False
  | .loadHq x => x.ev e fun x => match x with
    | .ptr a _ => (match H.find a.id with
      | some ⟨_, [.rows [.hd] n hs, .rows [.ints _ 0] 0 _], _⟩ => bif Nat.beq a.off 0 && Nat.beq a.st 1 then a.idx < n /\ K (.raw true (List.getD hs a.idx (none, 0, 0))) H else False
      | _ => False)
    | _ => False
  | .idxHq x i r => x.ev e fun x => i.ev e fun i => r.ev e fun r => match x, i, r with
    | .raw true v, .int _ j, .ptr a _ => (match H.find a.id with
      | some ⟨_, [.rows [.hd] n hs, .rows [.ints _ 0] 0 cs], _⟩ => v = List.getD hs a.idx (none, 0, 0) /\ a.idx < n /\ 0 <= j /\ j < (List.length (List.getD cs a.idx []) : Int) /\ K (.raw false (ZiG (List.getD hs a.idx (none, 0, 0)) j.toNat)) H
      | _ => False)
    | _, _, _ => False
  | .loadRq x r i => x.ev e fun x => r.ev e fun r => i.ev e fun i => match x, r, i with
    | .raw false v, .ptr a _, .int _ j => (match H.find a.id with
      | some ⟨_, [.rows [.hd] n hs, .rows [.ints k 0] 0 cs], _⟩ => v = ZiG (List.getD hs a.idx (none, 0, 0)) j.toNat /\ a.idx < n /\ 0 <= j /\ j < (List.length (List.getD cs a.idx []) : Int) /\ K (.int k (List.getD (List.getD cs a.idx []) j.toNat 0)) H
      | _ => False)
    | _, _, _ => False
  | .bsliceH k ps => match ps with
    | [] => K (.slice ⟨H.next, 0, 0, 1⟩ 0 0) (H.push ⟨true, [.rows [.hd] 0 [], .rows [.ints k 0] 0 []], 0⟩)
    | [x] => x.ev e fun v => match v with
      | .slice a l c => K (.slice ⟨H.next, 0, 0, 1⟩ 1 1) (H.push ⟨true, [.one (.slice a l c)], 0⟩)
      | _ => False
    | _ => False
  | .appendH x y => x.ev e fun x => y.ev e fun y => match x, y with
    | .slice a len cap, .slice b 1 _ => (match H.find b.id with
      | some ⟨true, [.one (.slice c l lc)], 0⟩ => (match H.find c.id, H.find a.id with
        | some ⟨true, [.ints k l' xs], _⟩, some ⟨true, [.rows [.hd] m hs, .rows [.ints k2 0] 0 rows], ex⟩ =>
          bif kEq k k2 && Nat.beq a.off 0 && Nat.beq a.idx 0 && Nat.beq b.off 0 && Nat.beq b.idx 0 && Nat.beq c.off 0 && Nat.beq c.idx 0 then
            l' = l /\ xs.length = l /\ l <= lc /\ m = len /\ List.length hs = len /\ List.length rows = len /\ len + ex = cap /\ len + 1 <= 1000000 /\
            ∀ (hd : Hdr) (c' : Nat), len + 1 <= c' -> K (.slice ⟨H.next, 0, 0, 1⟩ (len + 1) c') ((((H.drop a.id).drop b.id).drop c.id).push ⟨true, [.rows [.hd] (len + 1) (List.append hs [hd]), .rows [.ints k2 0] 0 (List.append rows [xs])], c' - (len + 1)⟩) else False
        | _, _ => False)
      | _ => False)
    | _, _ => False
  | .bsliceV n ps => Zsa e ps fun vs => K (.slice ⟨H.next, 0, 0, 1⟩ n n) (H.push ⟨true, vs.map Chunk.one, 0⟩)
  | .appendFit sh x y => x.ev e fun x => y.ev e fun y => ZL2 H sh y fun n ys => match x with
    | .slice a len cap => (match H.find a.id with
      | some en => bif en.wr && Nat.beq a.off 0 && Nat.beq a.idx 0 then (match en.cs with
        | [.rows sh' m xs] => if h : sh' = sh then m = len /\ xs.length = len /\ n * Zaj sh <= en.ex /\ len + n <= cap /\
            K (.slice ⟨a.id, 0, 0, Zaj sh⟩ (len + n) cap) (H.set a.id ⟨true, [.rows sh (len + n) (ZbQ h xs ++ ys)], en.ex - n * Zaj sh⟩) else False
        | _ => False) else False
      | none => False)
    | _ => False
  | .bad => False
end Go.Sx
