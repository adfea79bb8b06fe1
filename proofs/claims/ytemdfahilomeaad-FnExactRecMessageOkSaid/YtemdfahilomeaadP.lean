import Derived.Test.YtemdfahilomeaadF0
import Derived.Test.YtemdfahilomeaadM2
set_option linter.unusedVariables false
namespace Go.Proofs.Ytemdfahilomeaad
open Go.Vm
theorem laws_szRecSlot_ok (n : Nat) (hn : Big n) : SzOk tRecSlot (fun x left => laws_szRecSlot.f n (x, left, ())) := by
  intro x hw
  have e : (fun left => laws_szRecSlot.f n (x, left, ())) = fun left => szStr (ByteArray.size x.2.1) left fun left => some (left, ()) := by kernel_rfl
  show KOk (fun left => laws_szRecSlot.f n (x, left, ())) _
  rw [e]
  exact KOk.congr (szStr_ok (s := ByteArray.size x.2.1) hw.2.1 szEnd_ok) (by first | (simp only [bulk]; done) | (simp only [bulk]; omega))
theorem laws_szRecSlotS_ok (n : Nat) (hn : Big n) : SzOk (.slice tRecSlot) (fun l left => laws_szRecSlotS.f n (l, left, ())) := patSzS_ok (g := fun x left => laws_szRecSlot.f n (x, left, ())) (z := Ty.zero tRecSlot) (laws_szRecSlot_ok n hn) hn
theorem laws_szRecMessage_ok (n : Nat) (hn : Big n) : SzOk tRecMessage (fun x left => laws_szRecMessage.f n (x, left, ())) := by
  intro x hw
  have e : (fun left => laws_szRecMessage.f n (x, left, ())) = fun left => szStr (ByteArray.size x.2.2.2.2.2.2.1) left fun left => szCall (laws_szRecSlotS.f n (x.2.2.2.2.2.2.2.1, left, ())) fun left => some (left, ()) := by kernel_rfl
  show KOk (fun left => laws_szRecMessage.f n (x, left, ())) _
  rw [e]
  exact KOk.congr (szStr_ok (s := ByteArray.size x.2.2.2.2.2.2.1) hw.2.2.2.2.2.2.1 (szCall_ok (laws_szRecSlotS_ok n hn _ hw.2.2.2.2.2.2.2.1) szEnd_ok)) (by first | (simp only [bulk]; done) | (simp only [bulk]; omega))
theorem laws_toRecSlot_ok (n : Nat) (hn : Big n) (x : Ty.den tRecSlot) (h : small 1048576 tRecSlot x) : laws_toRecSlot.f n (x, ()) = some (x, ()) := rfl
theorem laws_toRecSlotS_ok (n : Nat) (hn : Big n) (x : Ty.den (.slice tRecSlot)) (h : small 1048576 (.slice tRecSlot) x) : laws_toRecSlotS.f n (x, ()) = some (x, ()) := patToS_ok (z := (Ty.zero tRecSlot)) (g := fun x => laws_toRecSlot.f n (x, ())) (fun x hx => laws_toRecSlot_ok n hn x (h.2 x hx)) h.1 (by decide) (by decide) hn
theorem laws_toRecMessage_ok (n : Nat) (hn : Big n) (x : Ty.den tRecMessage) (h : small 1048576 tRecMessage x) : laws_toRecMessage.f n (x, ()) = some (x, ()) := by
  first | (simp only [laws_toRecMessage.f, laws_toRecSlotS_ok n hn _ h.2.2.2.2.2.2.2.1, Option.bind_some]; done) | (simp only [laws_toRecMessage.f, laws_toRecSlotS_ok n hn _ h.2.2.2.2.2.2.2.1, Option.bind_some]; rfl)
theorem laws_eqRecSlot_ok (n : Nat) (hn : Big n) (x : Tup [tRecSlot, tRecSlot]) (h : small 1048576 tRecSlot x.1) : laws_eqRecSlot.f n x = some (eqD tRecSlot x.1 x.2.1, ()) :=
  (eqLeaf_not ((x.1.1 == x.2.1.1)) (eqLeaf_not (seq x.1.2.1 x.2.1.2.1) rfl))
theorem laws_eqRecSlotS_ok (n : Nat) (hn : Big n) (x : Tup [.slice tRecSlot, .slice tRecSlot]) (h : small 1048576 (.slice tRecSlot) x.1) : laws_eqRecSlotS.f n x = some (eqD (.slice tRecSlot) x.1 x.2.1, ()) := patEqS_ok (e := tRecSlot) (z := (Ty.zero tRecSlot)) (g := fun x y => laws_eqRecSlot.f n (x, y, ())) (fun x hx y => laws_eqRecSlot_ok n hn (x, y, ()) (h.2 x hx)) h.1 hn
theorem laws_eqRecMessage_ok (n : Nat) (hn : Big n) (x : Tup [tRecMessage, tRecMessage]) (h : small 1048576 tRecMessage x.1) : laws_eqRecMessage.f n x = some (eqD tRecMessage x.1 x.2.1, ()) :=
  (eqLeaf_not ((x.1.1 == x.2.1.1)) (eqLeaf_not ((x.1.2.1 == x.2.1.2.1)) (eqLeaf_not ((x.1.2.2.1 == x.2.1.2.2.1)) (eqLeaf_not ((x.1.2.2.2.1 == x.2.1.2.2.2.1)) (eqLeaf_not ((x.1.2.2.2.2.1 == x.2.1.2.2.2.2.1)) (eqLeaf_not ((x.1.2.2.2.2.2.1 == x.2.1.2.2.2.2.2.1)) (eqLeaf_not (seq x.1.2.2.2.2.2.2.1 x.2.1.2.2.2.2.2.2.1) (eqCall_ok (laws_eqRecSlotS_ok n hn _ h.2.2.2.2.2.2.2.1) rfl))))))))
end Go.Proofs.Ytemdfahilomeaad
