import Derived.Test.YtmdkodbodddhpacDoorF0
import Derived.Test.YtmdkodbodddhpacDoorM3
set_option linter.unusedVariables false
set_option linter.unusedSimpArgs false
namespace Go.Proofs.YtmdkodbodddhpacDoor
open Go.Vm
theorem laws_szStringS_ok (n : Nat) (hn : Big n) : SzOk (.slice .str) (fun l left => laws_szStringS.f n (l, left, ())) := patSzStrS_ok hn
theorem laws_szGateObject_ok (n : Nat) (hn : Big n) : SzOk tGateObject (fun x left => laws_szGateObject.f n (x, left, ())) := by
  intro x hw
  have e : (fun left => laws_szGateObject.f n (x, left, ())) = fun left => szStr (ByteArray.size x.1) left fun left => szStr (ByteArray.size x.2.1) left fun left => szStr (ByteArray.size x.2.2.1) left fun left => szCall (laws_szStringS.f n (x.2.2.2.1, left, ())) fun left => szCall (laws_szStringS.f n (x.2.2.2.2.2.1, left, ())) fun left => some (left, ()) := by kernel_rfl
  show KOk (fun left => laws_szGateObject.f n (x, left, ())) _
  rw [e]
  exact KOk.congr (szStr_ok (s := ByteArray.size x.1) hw.1 (szStr_ok (s := ByteArray.size x.2.1) hw.2.1 (szStr_ok (s := ByteArray.size x.2.2.1) hw.2.2.1 (szCall_ok (laws_szStringS_ok n hn _ hw.2.2.2.1) (szCall_ok (laws_szStringS_ok n hn _ hw.2.2.2.2.2.1) szEnd_ok))))) (by first | (simp only [bulk]; done) | (simp only [bulk]; omega))
theorem laws_szStewService_ok (n : Nat) (hn : Big n) : SzOk tStewService (fun x left => laws_szStewService.f n (x, left, ())) := by
  intro x hw
  have e : (fun left => laws_szStewService.f n (x, left, ())) = fun left => szStr (ByteArray.size x.1) left fun left => some (left, ()) := by kernel_rfl
  show KOk (fun left => laws_szStewService.f n (x, left, ())) _
  rw [e]
  exact KOk.congr (szStr_ok (s := ByteArray.size x.1) hw.1 szEnd_ok) (by first | (simp only [bulk]; done) | (simp only [bulk]; omega))
theorem laws_toStringS_ok (n : Nat) (hn : Big n) (x : Ty.den (.slice .str)) (h : small 1048576 (.slice .str) x) : laws_toStringS.f n (x, ()) = some (x, ()) := patToS_ok (z := (⟨#[]⟩ : ByteArray)) (g := fun x => some (x, ())) (fun x _ => rfl) h.1 (by decide) (by decide) hn
theorem laws_toGateObject_ok (n : Nat) (hn : Big n) (x : Ty.den tGateObject) (h : small 1048576 tGateObject x) : laws_toGateObject.f n (x, ()) = some (x, ()) := by
  first | (simp only [laws_toGateObject.f, laws_toStringS_ok n hn _ h.2.2.2.1, laws_toStringS_ok n hn _ h.2.2.2.2.2.1, Option.bind_some]; done) | (simp only [laws_toGateObject.f, laws_toStringS_ok n hn _ h.2.2.2.1, laws_toStringS_ok n hn _ h.2.2.2.2.2.1, Option.bind_some]; rfl)
theorem laws_toStewService_ok (n : Nat) (hn : Big n) (x : Ty.den tStewService) (h : small 1048576 tStewService x) : laws_toStewService.f n (x, ()) = some (x, ()) := rfl
theorem laws_eqStewService_ok (n : Nat) (hn : Big n) (x : Tup [tStewService, tStewService]) (h : small 1048576 tStewService x.1) : laws_eqStewService.f n x = some (eqD tStewService x.1 x.2.1, ()) :=
  (eqLeaf_not (seq x.1.1 x.2.1.1) (eqLeaf_not ((x.1.2.1 == x.2.1.2.1)) (eqLeaf_not ((x.1.2.2.1 == x.2.1.2.2.1)) (eqLeaf_not ((x.1.2.2.2.1 == x.2.1.2.2.2.1)) (eqLeaf_not ((x.1.2.2.2.2.1 == x.2.1.2.2.2.2.1)) (eqLeaf_not ((x.1.2.2.2.2.2.1 == x.2.1.2.2.2.2.2.1)) (eqLeaf_not ((x.1.2.2.2.2.2.2.1 == x.2.1.2.2.2.2.2.2.1)) (eqLeaf_not ((x.1.2.2.2.2.2.2.2.1 == x.2.1.2.2.2.2.2.2.2.1)) (eqLeaf_not ((x.1.2.2.2.2.2.2.2.2.1 == x.2.1.2.2.2.2.2.2.2.2.1)) (eqLeaf_not ((x.1.2.2.2.2.2.2.2.2.2.1 == x.2.1.2.2.2.2.2.2.2.2.2.1)) (eqLeaf_not ((x.1.2.2.2.2.2.2.2.2.2.2.1 == x.2.1.2.2.2.2.2.2.2.2.2.2.1)) (eqLeaf_not ((x.1.2.2.2.2.2.2.2.2.2.2.2.1 == x.2.1.2.2.2.2.2.2.2.2.2.2.2.1)) (eqLeaf_not ((x.1.2.2.2.2.2.2.2.2.2.2.2.2.1 == x.2.1.2.2.2.2.2.2.2.2.2.2.2.2.1)) rfl)))))))))))))
theorem laws_eqStringS_ok (n : Nat) (hn : Big n) (x : Tup [.slice .str, .slice .str]) (h : small 1048576 (.slice .str) x.1) : laws_eqStringS.f n x = some (eqD (.slice .str) x.1 x.2.1, ()) := patEqS_ok (e := .str) (z := (⟨#[]⟩ : ByteArray)) (g := fun x y => some (eqD .str x y, ())) (fun x _ y => rfl) h.1 hn
theorem laws_eqGateObject_ok (n : Nat) (hn : Big n) (x : Tup [tGateObject, tGateObject]) (h : small 1048576 tGateObject x.1) : laws_eqGateObject.f n x = some (eqD tGateObject x.1 x.2.1, ()) :=
  (eqLeaf_not (seq x.1.1 x.2.1.1) (eqLeaf_not (seq x.1.2.1 x.2.1.2.1) (eqLeaf_not (seq x.1.2.2.1 x.2.1.2.2.1) (eqCall_ok (laws_eqStringS_ok n hn _ h.2.2.2.1) (eqLeaf_not ((x.1.2.2.2.2.1 == x.2.1.2.2.2.2.1)) (eqCall_ok (laws_eqStringS_ok n hn _ h.2.2.2.2.2.1) (eqLeaf_not ((x.1.2.2.2.2.2.2.1 == x.2.1.2.2.2.2.2.2.1)) rfl)))))))
theorem bind_congr1 {α β : Type} {a b : Option α} {f : α → Option β} (h : a = b) : a.bind f = b.bind f := by rw [h]
attribute [local congr] bind_congr1
end Go.Proofs.YtmdkodbodddhpacDoor
