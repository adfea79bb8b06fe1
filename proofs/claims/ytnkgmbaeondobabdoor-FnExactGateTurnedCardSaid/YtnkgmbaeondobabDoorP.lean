import Derived.Test.YtnkgmbaeondobabDoorF0
import Derived.Test.YtnkgmbaeondobabDoorM4
set_option linter.unusedVariables false
set_option linter.unusedSimpArgs false
namespace Go.Proofs.YtnkgmbaeondobabDoor
open Go.Vm
theorem laws_szStringS_ok (n : Nat) (hn : Big n) : SzOk (.slice .str) (fun l left => laws_szStringS.f n (l, left, ())) := patSzStrS_ok hn
theorem laws_szGateField_ok (n : Nat) (hn : Big n) : SzOk tGateField (fun x left => laws_szGateField.f n (x, left, ())) := by
  intro x hw
  have e : (fun left => laws_szGateField.f n (x, left, ())) = fun left => szStr (ByteArray.size x.1) left fun left => szCall (laws_szStringS.f n (x.2.2.2.2.1, left, ())) fun left => szStr (ByteArray.size x.2.2.2.2.2.1) left fun left => szStr (ByteArray.size x.2.2.2.2.2.2.2.2.2.1) left fun left => szStr (ByteArray.size x.2.2.2.2.2.2.2.2.2.2.1) left fun left => some (left, ()) := by kernel_rfl
  show KOk (fun left => laws_szGateField.f n (x, left, ())) _
  rw [e]
  exact KOk.congr (szStr_ok (s := ByteArray.size x.1) hw.1 (szCall_ok (laws_szStringS_ok n hn _ hw.2.2.2.2.1) (szStr_ok (s := ByteArray.size x.2.2.2.2.2.1) hw.2.2.2.2.2.1 (szStr_ok (s := ByteArray.size x.2.2.2.2.2.2.2.2.2.1) hw.2.2.2.2.2.2.2.2.2.1 (szStr_ok (s := ByteArray.size x.2.2.2.2.2.2.2.2.2.2.1) hw.2.2.2.2.2.2.2.2.2.2.1 szEnd_ok))))) (by first | (simp only [bulk]; done) | (simp only [bulk]; omega))
theorem laws_szGateFieldS_ok (n : Nat) (hn : Big n) : SzOk (.slice tGateField) (fun l left => laws_szGateFieldS.f n (l, left, ())) := patSzS_ok (g := fun x left => laws_szGateField.f n (x, left, ())) (z := Ty.zero tGateField) (laws_szGateField_ok n hn) hn
theorem laws_szGateShape_ok (n : Nat) (hn : Big n) : SzOk tGateShape (fun x left => laws_szGateShape.f n (x, left, ())) := by
  intro x hw
  have e : (fun left => laws_szGateShape.f n (x, left, ())) = fun left => szStr (ByteArray.size x.1) left fun left => szCall (laws_szGateFieldS.f n (x.2.1, left, ())) fun left => some (left, ()) := by kernel_rfl
  show KOk (fun left => laws_szGateShape.f n (x, left, ())) _
  rw [e]
  exact KOk.congr (szStr_ok (s := ByteArray.size x.1) hw.1 (szCall_ok (laws_szGateFieldS_ok n hn _ hw.2.1) szEnd_ok)) (by first | (simp only [bulk]; done) | (simp only [bulk]; omega))
theorem laws_szGateShapeS_ok (n : Nat) (hn : Big n) : SzOk (.slice tGateShape) (fun l left => laws_szGateShapeS.f n (l, left, ())) := patSzS_ok (g := fun x left => laws_szGateShape.f n (x, left, ())) (z := Ty.zero tGateShape) (laws_szGateShape_ok n hn) hn
theorem laws_szGateObject_ok (n : Nat) (hn : Big n) : SzOk tGateObject (fun x left => laws_szGateObject.f n (x, left, ())) := by
  intro x hw
  have e : (fun left => laws_szGateObject.f n (x, left, ())) = fun left => szStr (ByteArray.size x.1) left fun left => szStr (ByteArray.size x.2.1) left fun left => szStr (ByteArray.size x.2.2.1) left fun left => szCall (laws_szStringS.f n (x.2.2.2.1, left, ())) fun left => szCall (laws_szStringS.f n (x.2.2.2.2.2.1, left, ())) fun left => some (left, ()) := by kernel_rfl
  show KOk (fun left => laws_szGateObject.f n (x, left, ())) _
  rw [e]
  exact KOk.congr (szStr_ok (s := ByteArray.size x.1) hw.1 (szStr_ok (s := ByteArray.size x.2.1) hw.2.1 (szStr_ok (s := ByteArray.size x.2.2.1) hw.2.2.1 (szCall_ok (laws_szStringS_ok n hn _ hw.2.2.2.1) (szCall_ok (laws_szStringS_ok n hn _ hw.2.2.2.2.2.1) szEnd_ok))))) (by first | (simp only [bulk]; done) | (simp only [bulk]; omega))
theorem laws_toStringS_ok (n : Nat) (hn : Big n) (x : Ty.den (.slice .str)) (h : small 1048576 (.slice .str) x) : laws_toStringS.f n (x, ()) = some (x, ()) := patToS_ok (z := (⟨#[]⟩ : ByteArray)) (g := fun x => some (x, ())) (fun x _ => rfl) h.1 (by decide) (by decide) hn
theorem laws_toGateField_ok (n : Nat) (hn : Big n) (x : Ty.den tGateField) (h : small 1048576 tGateField x) : laws_toGateField.f n (x, ()) = some (x, ()) := by
  first | (simp only [laws_toGateField.f, laws_toStringS_ok n hn _ h.2.2.2.2.1, Option.bind_some]; done) | (simp only [laws_toGateField.f, laws_toStringS_ok n hn _ h.2.2.2.2.1, Option.bind_some]; rfl)
theorem laws_toGateFieldS_ok (n : Nat) (hn : Big n) (x : Ty.den (.slice tGateField)) (h : small 1048576 (.slice tGateField) x) : laws_toGateFieldS.f n (x, ()) = some (x, ()) := patToS_ok (z := (Ty.zero tGateField)) (g := fun x => laws_toGateField.f n (x, ())) (fun x hx => laws_toGateField_ok n hn x (h.2 x hx)) h.1 (by decide) (by decide) hn
theorem laws_toGateShape_ok (n : Nat) (hn : Big n) (x : Ty.den tGateShape) (h : small 1048576 tGateShape x) : laws_toGateShape.f n (x, ()) = some (x, ()) := by
  first | (simp only [laws_toGateShape.f, laws_toGateFieldS_ok n hn _ h.2.1, Option.bind_some]; done) | (simp only [laws_toGateShape.f, laws_toGateFieldS_ok n hn _ h.2.1, Option.bind_some]; rfl)
theorem laws_toGateShapeS_ok (n : Nat) (hn : Big n) (x : Ty.den (.slice tGateShape)) (h : small 1048576 (.slice tGateShape) x) : laws_toGateShapeS.f n (x, ()) = some (x, ()) := patToS_ok (z := (Ty.zero tGateShape)) (g := fun x => laws_toGateShape.f n (x, ())) (fun x hx => laws_toGateShape_ok n hn x (h.2 x hx)) h.1 (by decide) (by decide) hn
theorem laws_toGateObject_ok (n : Nat) (hn : Big n) (x : Ty.den tGateObject) (h : small 1048576 tGateObject x) : laws_toGateObject.f n (x, ()) = some (x, ()) := by
  first | (simp only [laws_toGateObject.f, laws_toStringS_ok n hn _ h.2.2.2.1, laws_toStringS_ok n hn _ h.2.2.2.2.2.1, Option.bind_some]; done) | (simp only [laws_toGateObject.f, laws_toStringS_ok n hn _ h.2.2.2.1, laws_toStringS_ok n hn _ h.2.2.2.2.2.1, Option.bind_some]; rfl)
theorem laws_eqStringS_ok (n : Nat) (hn : Big n) (x : Tup [.slice .str, .slice .str]) (h : small 1048576 (.slice .str) x.1) : laws_eqStringS.f n x = some (eqD (.slice .str) x.1 x.2.1, ()) := patEqS_ok (e := .str) (z := (⟨#[]⟩ : ByteArray)) (g := fun x y => some (eqD .str x y, ())) (fun x _ y => rfl) h.1 hn
theorem laws_eqGateField_ok (n : Nat) (hn : Big n) (x : Tup [tGateField, tGateField]) (h : small 1048576 tGateField x.1) : laws_eqGateField.f n x = some (eqD tGateField x.1 x.2.1, ()) :=
  (eqLeaf_not (seq x.1.1 x.2.1.1) (eqLeaf_not ((x.1.2.1 == x.2.1.2.1)) (eqLeaf_not ((x.1.2.2.1 == x.2.1.2.2.1)) (eqLeaf_not ((x.1.2.2.2.1 == x.2.1.2.2.2.1)) (eqCall_ok (laws_eqStringS_ok n hn _ h.2.2.2.2.1) (eqLeaf_not (seq x.1.2.2.2.2.2.1 x.2.1.2.2.2.2.2.1) (eqLeaf_not ((x.1.2.2.2.2.2.2.1 == x.2.1.2.2.2.2.2.2.1)) (eqLeaf_not ((x.1.2.2.2.2.2.2.2.1 == x.2.1.2.2.2.2.2.2.2.1)) (eqLeaf_not ((x.1.2.2.2.2.2.2.2.2.1 == x.2.1.2.2.2.2.2.2.2.2.1)) (eqLeaf_not (seq x.1.2.2.2.2.2.2.2.2.2.1 x.2.1.2.2.2.2.2.2.2.2.2.1) (eqLeaf_not (seq x.1.2.2.2.2.2.2.2.2.2.2.1 x.2.1.2.2.2.2.2.2.2.2.2.2.1) rfl)))))))))))
theorem laws_eqGateFieldS_ok (n : Nat) (hn : Big n) (x : Tup [.slice tGateField, .slice tGateField]) (h : small 1048576 (.slice tGateField) x.1) : laws_eqGateFieldS.f n x = some (eqD (.slice tGateField) x.1 x.2.1, ()) := patEqS_ok (e := tGateField) (z := (Ty.zero tGateField)) (g := fun x y => laws_eqGateField.f n (x, y, ())) (fun x hx y => laws_eqGateField_ok n hn (x, y, ()) (h.2 x hx)) h.1 hn
theorem laws_eqGateShape_ok (n : Nat) (hn : Big n) (x : Tup [tGateShape, tGateShape]) (h : small 1048576 tGateShape x.1) : laws_eqGateShape.f n x = some (eqD tGateShape x.1 x.2.1, ()) :=
  (eqLeaf_not (seq x.1.1 x.2.1.1) (eqCall_ok (laws_eqGateFieldS_ok n hn _ h.2.1) rfl))
theorem laws_eqGateShapeS_ok (n : Nat) (hn : Big n) (x : Tup [.slice tGateShape, .slice tGateShape]) (h : small 1048576 (.slice tGateShape) x.1) : laws_eqGateShapeS.f n x = some (eqD (.slice tGateShape) x.1 x.2.1, ()) := patEqS_ok (e := tGateShape) (z := (Ty.zero tGateShape)) (g := fun x y => laws_eqGateShape.f n (x, y, ())) (fun x hx y => laws_eqGateShape_ok n hn (x, y, ()) (h.2 x hx)) h.1 hn
theorem laws_eqGateObject_ok (n : Nat) (hn : Big n) (x : Tup [tGateObject, tGateObject]) (h : small 1048576 tGateObject x.1) : laws_eqGateObject.f n x = some (eqD tGateObject x.1 x.2.1, ()) :=
  (eqLeaf_not (seq x.1.1 x.2.1.1) (eqLeaf_not (seq x.1.2.1 x.2.1.2.1) (eqLeaf_not (seq x.1.2.2.1 x.2.1.2.2.1) (eqCall_ok (laws_eqStringS_ok n hn _ h.2.2.2.1) (eqLeaf_not ((x.1.2.2.2.2.1 == x.2.1.2.2.2.2.1)) (eqCall_ok (laws_eqStringS_ok n hn _ h.2.2.2.2.2.1) (eqLeaf_not ((x.1.2.2.2.2.2.2.1 == x.2.1.2.2.2.2.2.2.1)) rfl)))))))
theorem bind_congr1 {α β : Type} {a b : Option α} {f : α → Option β} (h : a = b) : a.bind f = b.bind f := by rw [h]
attribute [local congr] bind_congr1
end Go.Proofs.YtnkgmbaeondobabDoor
