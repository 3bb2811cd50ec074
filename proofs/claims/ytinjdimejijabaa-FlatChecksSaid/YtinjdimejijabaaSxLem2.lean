/- Two parts of the proof. -/
import Derived.Test.YtinjdimejijabaaSxEv
import Derived.Test.YtinjdimejijabaaSxCode
set_option linter.unusedVariables false
set_option linter.unusedSimpArgs false
namespace Go.Sx
theorem ZaP {st : Nat} {K : SVal -> Prop} {v : SVal} {r : List Chunk} : rdC 0 st K (.one v :: r) 0 = K v := rfl
theorem ZaB {idx st off : Nat} {K : SVal -> Prop} {v : SVal} {r : List Chunk} : rdC idx st K (.one v :: r) (off + 1) = rdC idx st K r off := rfl
theorem ZaD {idx n : Nat} {K : SVal -> Prop} {k : IntKind} {xs : List Int} {r : List Chunk} : rdC idx 1 K (.ints k n xs :: r) 0 = (idx < n /\ K (.int k (xs.getD idx 0))) := rfl
theorem Zar {idx st n off : Nat} {K : SVal -> Prop} {k : IntKind} {xs : List Int} {r : List Chunk} : rdC idx st K (.ints k n xs :: r) (off + 1) = (bif Nat.ble n (off + 1) then rdC idx st K r (off + 1 - n) else False) := rfl
theorem ZaC {idx st off n : Nat} {K : SVal -> Prop} {sh : List Leaf} {xs : List (Tup sh)} {r : List Chunk} : rdC idx st K (.rows sh n xs :: r) off = (bif Nat.beq st (ZaI sh) then idx < n /\ Zpk K sh (xs.getD idx (Tup.dflt sh)) off else False) := rfl
theorem ZaN {st : Nat} {v u : SVal} {K : List Chunk -> Prop} {r : List Chunk} : wrC 0 st v K (.one u :: r) 0 = K (.one v :: r) := rfl
theorem Zax {idx st off : Nat} {v u : SVal} {K : List Chunk -> Prop} {r : List Chunk} : wrC idx st v K (.one u :: r) (off + 1) = wrC idx st v (fun l => K (.one u :: l)) r off := rfl
theorem Zay {idx st n : Nat} {k' k : IntKind} {m : Int} {K : List Chunk -> Prop} {xs : List Int} {r : List Chunk} : wrC idx st (.int k' m) K (.ints k n xs :: r) 0 = (bif kEq k' k && Nat.beq st 1 then idx < n /\ idx < xs.length /\ K (.ints k n (xs.set idx m) :: r) else False) := rfl
theorem Zan {idx st n off : Nat} {v : SVal} {k : IntKind} {K : List Chunk -> Prop} {xs : List Int} {r : List Chunk} : wrC idx st v K (.ints k n xs :: r) (off + 1) = (bif Nat.ble n (off + 1) then wrC idx st v (fun l => K (.ints k n xs :: l)) r (off + 1 - n) else False) := rfl
theorem Zaq {K : List Chunk -> Prop} : Zee K [] 0 = K [] := rfl
theorem Zai {K : List Chunk -> Prop} {c : Chunk} {r : List Chunk} : Zee K (c :: r) 0 = K [] := rfl
theorem Zap {K : List Chunk -> Prop} {v : SVal} {r : List Chunk} {sz : Nat} : Zee K (.one v :: r) (sz + 1) = Zee (fun l => K (.one v :: l)) r sz := rfl
theorem Zaj {K : List Chunk -> Prop} {k : IntKind} {n : Nat} {xs : List Int} {r : List Chunk} {sz : Nat} : Zee K (.ints k n xs :: r) (sz + 1) = (bif Nat.ble n (sz + 1) then Zee (fun l => K (.ints k n xs :: l)) r (sz + 1 - n) else False) := rfl
theorem Zau {K : List Chunk -> Prop} : ZeN K [] 0 = K [] := rfl
theorem Zak {K : List Chunk -> Prop} {c : Chunk} {r : List Chunk} : ZeN K (c :: r) 0 = K (c :: r) := rfl
theorem Zat {K : List Chunk -> Prop} {v : SVal} {r : List Chunk} {sz : Nat} : ZeN K (.one v :: r) (sz + 1) = ZeN K r sz := rfl
theorem Zal {K : List Chunk -> Prop} {k : IntKind} {n : Nat} {xs : List Int} {r : List Chunk} {sz : Nat} : ZeN K (.ints k n xs :: r) (sz + 1) = (bif Nat.ble n (sz + 1) then ZeN K r (sz + 1 - n) else False) := rfl
theorem ZaQ {st sz : Nat} {K : List Chunk -> Prop} {v : SVal} {r : List Chunk} : rdA 0 st sz K (.one v :: r) 0 = Zee K (.one v :: r) sz := rfl
theorem ZaE {idx st sz off : Nat} {K : List Chunk -> Prop} {v : SVal} {r : List Chunk} : rdA idx st sz K (.one v :: r) (off + 1) = rdA idx st sz K r off := rfl
theorem ZaG {idx st sz n : Nat} {K : List Chunk -> Prop} {k : IntKind} {xs : List Int} {r : List Chunk} : rdA idx st sz K (.ints k n xs :: r) 0 = (bif Nat.ble n sz then (bif Nat.beq idx 0 then Zee K (.ints k n xs :: r) sz else False)
       else (bif Nat.beq st 1 then idx + sz <= n /\ K [.ints k sz ((xs.drop idx).take sz)] else False)) := rfl
theorem Zas {idx st sz n off : Nat} {K : List Chunk -> Prop} {k : IntKind} {xs : List Int} {r : List Chunk} : rdA idx st sz K (.ints k n xs :: r) (off + 1) = (bif Nat.ble n (off + 1) then rdA idx st sz K r (off + 1 - n) else False) := rfl
theorem ZaF {idx st sz off n : Nat} {K : List Chunk -> Prop} {sh : List Leaf} {xs : List (Tup sh)} {r : List Chunk} : rdA idx st sz K (.rows sh n xs :: r) off = (bif Nat.beq st (ZaI sh) then idx < n /\ ZeN (fun l => Zee K l sz) (ZcE sh (xs.getD idx (Tup.dflt sh))) off else False) := rfl
theorem ZaO {st sz : Nat} {new : List Chunk} {K : List Chunk -> Prop} {v : SVal} {r : List Chunk} : wrA 0 st sz new K (.one v :: r) 0 = ZeN (fun l => K (new ++ l)) (.one v :: r) sz := rfl
theorem Zaz {idx st sz off : Nat} {new : List Chunk} {K : List Chunk -> Prop} {v : SVal} {r : List Chunk} : wrA idx st sz new K (.one v :: r) (off + 1) = wrA idx st sz new (fun l => K (.one v :: l)) r off := rfl
theorem ZaA {idx st sz n : Nat} {new : List Chunk} {K : List Chunk -> Prop} {k : IntKind} {xs : List Int} {r : List Chunk} : wrA idx st sz new K (.ints k n xs :: r) 0 = (bif Nat.ble n sz then (bif Nat.beq idx 0 then ZeN (fun l => K (new ++ l)) (.ints k n xs :: r) sz else False)
       else match new with
        | [.ints k' m ys] => bif kEq k' k && Nat.beq m sz && Nat.beq st 1 then idx + sz <= n /\ xs.length = n /\ ys.length = sz /\ K (.ints k n (xs.take idx ++ ys ++ xs.drop (idx + sz)) :: r) else False
        | _ => False) := rfl
theorem Zao {idx st sz n off : Nat} {new : List Chunk} {K : List Chunk -> Prop} {k : IntKind} {xs : List Int} {r : List Chunk} : wrA idx st sz new K (.ints k n xs :: r) (off + 1) = (bif Nat.ble n (off + 1) then wrA idx st sz new (fun l => K (.ints k n xs :: l)) r (off + 1 - n) else False) := rfl
end Go.Sx

namespace Go.Sx
end Go.Sx
