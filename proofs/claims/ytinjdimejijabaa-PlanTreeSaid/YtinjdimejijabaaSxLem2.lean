/- Two parts of the proof. -/
import Derived.Test.YtinjdimejijabaaSxEv
import Derived.Test.YtinjdimejijabaaSxCode
set_option linter.unusedVariables false
set_option linter.unusedSimpArgs false
namespace Go.Sx
theorem Zba {st : Nat} {K : SVal -> Prop} {v : SVal} {r : List Chunk} : rdC 0 st K (.one v :: r) 0 = K v := rfl
theorem ZaQ {idx st off : Nat} {K : SVal -> Prop} {v : SVal} {r : List Chunk} : rdC idx st K (.one v :: r) (off + 1) = rdC idx st K r off := rfl
theorem ZaS {idx n : Nat} {K : SVal -> Prop} {k : IntKind} {xs : List Int} {r : List Chunk} : rdC idx 1 K (.ints k n xs :: r) 0 = (idx < n /\ K (.int k (xs.getD idx 0))) := rfl
theorem Zaz {idx st n off : Nat} {K : SVal -> Prop} {k : IntKind} {xs : List Int} {r : List Chunk} : rdC idx st K (.ints k n xs :: r) (off + 1) = (bif Nat.ble n (off + 1) then rdC idx st K r (off + 1 - n) else False) := rfl
theorem ZaR {idx st off n : Nat} {K : SVal -> Prop} {sh : List Leaf} {xs : List (Tup sh)} {r : List Chunk} : rdC idx st K (.rows sh n xs :: r) off = (bif Nat.beq st (ZaF sh) then idx < n /\ Zgy K sh (xs.getD idx (Tup.dflt sh)) off else False) := rfl
theorem Za8 {st : Nat} {v u : SVal} {K : List Chunk -> Prop} {r : List Chunk} : wrC 0 st v K (.one u :: r) 0 = K (.one v :: r) := rfl
theorem ZaL {idx st off : Nat} {v u : SVal} {K : List Chunk -> Prop} {r : List Chunk} : wrC idx st v K (.one u :: r) (off + 1) = wrC idx st v (fun l => K (.one u :: l)) r off := rfl
theorem ZaM {idx st n : Nat} {k' k : IntKind} {m : Int} {K : List Chunk -> Prop} {xs : List Int} {r : List Chunk} : wrC idx st (.int k' m) K (.ints k n xs :: r) 0 = (bif kEq k' k && Nat.beq st 1 then idx < n /\ idx < xs.length /\ K (.ints k n (xs.set idx m) :: r) else False) := rfl
theorem Zav {idx st n off : Nat} {v : SVal} {k : IntKind} {K : List Chunk -> Prop} {xs : List Int} {r : List Chunk} : wrC idx st v K (.ints k n xs :: r) (off + 1) = (bif Nat.ble n (off + 1) then wrC idx st v (fun l => K (.ints k n xs :: l)) r (off + 1 - n) else False) := rfl
theorem Zay {K : List Chunk -> Prop} : ZcU K [] 0 = K [] := rfl
theorem Zak {K : List Chunk -> Prop} {c : Chunk} {r : List Chunk} : ZcU K (c :: r) 0 = K [] := rfl
theorem Zax {K : List Chunk -> Prop} {v : SVal} {r : List Chunk} {sz : Nat} : ZcU K (.one v :: r) (sz + 1) = ZcU (fun l => K (.one v :: l)) r sz := rfl
theorem Zal {K : List Chunk -> Prop} {k : IntKind} {n : Nat} {xs : List Int} {r : List Chunk} {sz : Nat} : ZcU K (.ints k n xs :: r) (sz + 1) = (bif Nat.ble n (sz + 1) then ZcU (fun l => K (.ints k n xs :: l)) r (sz + 1 - n) else False) := rfl
theorem ZaE {K : List Chunk -> Prop} : ZdD K [] 0 = K [] := rfl
theorem Zam {K : List Chunk -> Prop} {c : Chunk} {r : List Chunk} : ZdD K (c :: r) 0 = K (c :: r) := rfl
theorem ZaD {K : List Chunk -> Prop} {v : SVal} {r : List Chunk} {sz : Nat} : ZdD K (.one v :: r) (sz + 1) = ZdD K r sz := rfl
theorem Zan {K : List Chunk -> Prop} {k : IntKind} {n : Nat} {xs : List Int} {r : List Chunk} {sz : Nat} : ZdD K (.ints k n xs :: r) (sz + 1) = (bif Nat.ble n (sz + 1) then ZdD K r (sz + 1 - n) else False) := rfl
theorem Zbb {st sz : Nat} {K : List Chunk -> Prop} {v : SVal} {r : List Chunk} : rdA 0 st sz K (.one v :: r) 0 = ZcU K (.one v :: r) sz := rfl
theorem ZaT {idx st sz off : Nat} {K : List Chunk -> Prop} {v : SVal} {r : List Chunk} : rdA idx st sz K (.one v :: r) (off + 1) = rdA idx st sz K r off := rfl
theorem ZaV {idx st sz n : Nat} {K : List Chunk -> Prop} {k : IntKind} {xs : List Int} {r : List Chunk} : rdA idx st sz K (.ints k n xs :: r) 0 = (bif Nat.ble n sz then (bif Nat.beq idx 0 then ZcU K (.ints k n xs :: r) sz else False)
       else (bif Nat.beq st 1 then idx + sz <= n /\ K [.ints k sz ((xs.drop idx).take sz)] else False)) := rfl
theorem ZaA {idx st sz n off : Nat} {K : List Chunk -> Prop} {k : IntKind} {xs : List Int} {r : List Chunk} : rdA idx st sz K (.ints k n xs :: r) (off + 1) = (bif Nat.ble n (off + 1) then rdA idx st sz K r (off + 1 - n) else False) := rfl
theorem ZaU {idx st sz off n : Nat} {K : List Chunk -> Prop} {sh : List Leaf} {xs : List (Tup sh)} {r : List Chunk} : rdA idx st sz K (.rows sh n xs :: r) off = (bif Nat.beq st (ZaF sh) then idx < n /\ ZdD (fun l => ZcU K l sz) (Zbi sh (xs.getD idx (Tup.dflt sh))) off else False) := rfl
theorem Za9 {st sz : Nat} {new : List Chunk} {K : List Chunk -> Prop} {v : SVal} {r : List Chunk} : wrA 0 st sz new K (.one v :: r) 0 = ZdD (fun l => K (new ++ l)) (.one v :: r) sz := rfl
theorem ZaN {idx st sz off : Nat} {new : List Chunk} {K : List Chunk -> Prop} {v : SVal} {r : List Chunk} : wrA idx st sz new K (.one v :: r) (off + 1) = wrA idx st sz new (fun l => K (.one v :: l)) r off := rfl
theorem ZaO {idx st sz n : Nat} {new : List Chunk} {K : List Chunk -> Prop} {k : IntKind} {xs : List Int} {r : List Chunk} : wrA idx st sz new K (.ints k n xs :: r) 0 = (bif Nat.ble n sz then (bif Nat.beq idx 0 then ZdD (fun l => K (new ++ l)) (.ints k n xs :: r) sz else False)
       else match new with
        | [.ints k' m ys] => bif kEq k' k && Nat.beq m sz && Nat.beq st 1 then idx + sz <= n /\ xs.length = n /\ ys.length = sz /\ K (.ints k n (xs.take idx ++ ys ++ xs.drop (idx + sz)) :: r) else False
        | _ => False) := rfl
theorem Zaw {idx st sz n off : Nat} {new : List Chunk} {K : List Chunk -> Prop} {k : IntKind} {xs : List Int} {r : List Chunk} : wrA idx st sz new K (.ints k n xs :: r) (off + 1) = (bif Nat.ble n (off + 1) then wrA idx st sz new (fun l => K (.ints k n xs :: l)) r (off + 1 - n) else False) := rfl
end Go.Sx

namespace Go.Sx
end Go.Sx
