import Derived.Test.YtakbelofppdkhabF0
import Derived.Test.YtakbelofppdkhabM3
set_option linter.unusedVariables false
set_option linter.unusedSimpArgs false
namespace Go.Proofs.Ytakbelofppdkhab
open Go.Vm
theorem laws_szStewService_ok (n : Nat) (hn : Big n) : SzOk tStewService (fun x left => laws_szStewService.f n (x, left, ())) := by
  intro x hw
  have e : (fun left => laws_szStewService.f n (x, left, ())) = fun left => szStr (ByteArray.size x.1) left fun left => some (left, ()) := by kernel_rfl
  show KOk (fun left => laws_szStewService.f n (x, left, ())) _
  rw [e]
  exact KOk.congr (szStr_ok (s := ByteArray.size x.1) hw.1 szEnd_ok) (by first | (simp only [bulk]; done) | (simp only [bulk]; omega))
theorem laws_szStewServiceS_ok (n : Nat) (hn : Big n) : SzOk (.slice tStewService) (fun l left => laws_szStewServiceS.f n (l, left, ())) := patSzS_ok (g := fun x left => laws_szStewService.f n (x, left, ())) (z := Ty.zero tStewService) (laws_szStewService_ok n hn) hn
theorem laws_szStewCopy_ok (n : Nat) (hn : Big n) : SzOk tStewCopy (fun x left => laws_szStewCopy.f n (x, left, ())) := by
  intro x hw
  have e : (fun left => laws_szStewCopy.f n (x, left, ())) = fun left => szStr (ByteArray.size x.1) left fun left => szStr (ByteArray.size x.2.2.2.2.2.2.1) left fun left => some (left, ()) := by kernel_rfl
  show KOk (fun left => laws_szStewCopy.f n (x, left, ())) _
  rw [e]
  exact KOk.congr (szStr_ok (s := ByteArray.size x.1) hw.1 (szStr_ok (s := ByteArray.size x.2.2.2.2.2.2.1) hw.2.2.2.2.2.2.1 szEnd_ok)) (by first | (simp only [bulk]; done) | (simp only [bulk]; omega))
theorem laws_szStewCopyS_ok (n : Nat) (hn : Big n) : SzOk (.slice tStewCopy) (fun l left => laws_szStewCopyS.f n (l, left, ())) := patSzS_ok (g := fun x left => laws_szStewCopy.f n (x, left, ())) (z := Ty.zero tStewCopy) (laws_szStewCopy_ok n hn) hn
theorem laws_szStewBerth_ok (n : Nat) (hn : Big n) : SzOk tStewBerth (fun x left => laws_szStewBerth.f n (x, left, ())) := by
  intro x hw
  have e : (fun left => laws_szStewBerth.f n (x, left, ())) = fun left => szStr (ByteArray.size x.1) left fun left => some (left, ()) := by kernel_rfl
  show KOk (fun left => laws_szStewBerth.f n (x, left, ())) _
  rw [e]
  exact KOk.congr (szStr_ok (s := ByteArray.size x.1) hw.1 szEnd_ok) (by first | (simp only [bulk]; done) | (simp only [bulk]; omega))
theorem laws_szStewBerthS_ok (n : Nat) (hn : Big n) : SzOk (.slice tStewBerth) (fun l left => laws_szStewBerthS.f n (l, left, ())) := patSzS_ok (g := fun x left => laws_szStewBerth.f n (x, left, ())) (z := Ty.zero tStewBerth) (laws_szStewBerth_ok n hn) hn
theorem laws_szStewBook_ok (n : Nat) (hn : Big n) : SzOk tStewBook (fun x left => laws_szStewBook.f n (x, left, ())) := by
  intro x hw
  have e : (fun left => laws_szStewBook.f n (x, left, ())) = fun left => szCall (laws_szStewServiceS.f n (x.2.1, left, ())) fun left => szCall (laws_szStewCopyS.f n (x.2.2.1, left, ())) fun left => szCall (laws_szStewBerthS.f n (x.2.2.2.1, left, ())) fun left => some (left, ()) := by kernel_rfl
  show KOk (fun left => laws_szStewBook.f n (x, left, ())) _
  rw [e]
  exact KOk.congr (szCall_ok (laws_szStewServiceS_ok n hn _ hw.2.1) (szCall_ok (laws_szStewCopyS_ok n hn _ hw.2.2.1) (szCall_ok (laws_szStewBerthS_ok n hn _ hw.2.2.2.1) szEnd_ok))) (by first | (simp only [bulk]; done) | (simp only [bulk]; omega))
theorem laws_toStewService_ok (n : Nat) (hn : Big n) (x : Ty.den tStewService) (h : small 1048576 tStewService x) : laws_toStewService.f n (x, ()) = some (x, ()) := rfl
theorem laws_toStewServiceS_ok (n : Nat) (hn : Big n) (x : Ty.den (.slice tStewService)) (h : small 1048576 (.slice tStewService) x) : laws_toStewServiceS.f n (x, ()) = some (x, ()) := patToS_ok (z := (Ty.zero tStewService)) (g := fun x => laws_toStewService.f n (x, ())) (fun x hx => laws_toStewService_ok n hn x (h.2 x hx)) h.1 (by decide) (by decide) hn
theorem laws_toStewCopy_ok (n : Nat) (hn : Big n) (x : Ty.den tStewCopy) (h : small 1048576 tStewCopy x) : laws_toStewCopy.f n (x, ()) = some (x, ()) := rfl
theorem laws_toStewCopyS_ok (n : Nat) (hn : Big n) (x : Ty.den (.slice tStewCopy)) (h : small 1048576 (.slice tStewCopy) x) : laws_toStewCopyS.f n (x, ()) = some (x, ()) := patToS_ok (z := (Ty.zero tStewCopy)) (g := fun x => laws_toStewCopy.f n (x, ())) (fun x hx => laws_toStewCopy_ok n hn x (h.2 x hx)) h.1 (by decide) (by decide) hn
theorem laws_toStewBerth_ok (n : Nat) (hn : Big n) (x : Ty.den tStewBerth) (h : small 1048576 tStewBerth x) : laws_toStewBerth.f n (x, ()) = some (x, ()) := rfl
theorem laws_toStewBerthS_ok (n : Nat) (hn : Big n) (x : Ty.den (.slice tStewBerth)) (h : small 1048576 (.slice tStewBerth) x) : laws_toStewBerthS.f n (x, ()) = some (x, ()) := patToS_ok (z := (Ty.zero tStewBerth)) (g := fun x => laws_toStewBerth.f n (x, ())) (fun x hx => laws_toStewBerth_ok n hn x (h.2 x hx)) h.1 (by decide) (by decide) hn
theorem laws_toStewBook_ok (n : Nat) (hn : Big n) (x : Ty.den tStewBook) (h : small 1048576 tStewBook x) : laws_toStewBook.f n (x, ()) = some (x, ()) := by
  first | (simp only [laws_toStewBook.f, laws_toStewServiceS_ok n hn _ h.2.1, laws_toStewCopyS_ok n hn _ h.2.2.1, laws_toStewBerthS_ok n hn _ h.2.2.2.1, Option.bind_some]; done) | (simp only [laws_toStewBook.f, laws_toStewServiceS_ok n hn _ h.2.1, laws_toStewCopyS_ok n hn _ h.2.2.1, laws_toStewBerthS_ok n hn _ h.2.2.2.1, Option.bind_some]; rfl)
theorem laws_eqStewService_ok (n : Nat) (hn : Big n) (x : Tup [tStewService, tStewService]) (h : small 1048576 tStewService x.1) : laws_eqStewService.f n x = some (eqD tStewService x.1 x.2.1, ()) :=
  (eqLeaf_not (seq x.1.1 x.2.1.1) (eqLeaf_not ((x.1.2.1 == x.2.1.2.1)) (eqLeaf_not ((x.1.2.2.1 == x.2.1.2.2.1)) (eqLeaf_not ((x.1.2.2.2.1 == x.2.1.2.2.2.1)) (eqLeaf_not ((x.1.2.2.2.2.1 == x.2.1.2.2.2.2.1)) (eqLeaf_not ((x.1.2.2.2.2.2.1 == x.2.1.2.2.2.2.2.1)) (eqLeaf_not ((x.1.2.2.2.2.2.2.1 == x.2.1.2.2.2.2.2.2.1)) (eqLeaf_not ((x.1.2.2.2.2.2.2.2.1 == x.2.1.2.2.2.2.2.2.2.1)) (eqLeaf_not ((x.1.2.2.2.2.2.2.2.2.1 == x.2.1.2.2.2.2.2.2.2.2.1)) (eqLeaf_not ((x.1.2.2.2.2.2.2.2.2.2.1 == x.2.1.2.2.2.2.2.2.2.2.2.1)) (eqLeaf_not ((x.1.2.2.2.2.2.2.2.2.2.2.1 == x.2.1.2.2.2.2.2.2.2.2.2.2.1)) (eqLeaf_not ((x.1.2.2.2.2.2.2.2.2.2.2.2.1 == x.2.1.2.2.2.2.2.2.2.2.2.2.2.1)) (eqLeaf_not ((x.1.2.2.2.2.2.2.2.2.2.2.2.2.1 == x.2.1.2.2.2.2.2.2.2.2.2.2.2.2.1)) rfl)))))))))))))
theorem laws_eqStewServiceS_ok (n : Nat) (hn : Big n) (x : Tup [.slice tStewService, .slice tStewService]) (h : small 1048576 (.slice tStewService) x.1) : laws_eqStewServiceS.f n x = some (eqD (.slice tStewService) x.1 x.2.1, ()) := patEqS_ok (e := tStewService) (z := (Ty.zero tStewService)) (g := fun x y => laws_eqStewService.f n (x, y, ())) (fun x hx y => laws_eqStewService_ok n hn (x, y, ()) (h.2 x hx)) h.1 hn
theorem laws_eqStewCopy_ok (n : Nat) (hn : Big n) (x : Tup [tStewCopy, tStewCopy]) (h : small 1048576 tStewCopy x.1) : laws_eqStewCopy.f n x = some (eqD tStewCopy x.1 x.2.1, ()) :=
  (eqLeaf_not (seq x.1.1 x.2.1.1) (eqLeaf_not ((x.1.2.1 == x.2.1.2.1)) (eqLeaf_not ((x.1.2.2.1 == x.2.1.2.2.1)) (eqLeaf_not ((x.1.2.2.2.1 == x.2.1.2.2.2.1)) (eqLeaf_not ((x.1.2.2.2.2.1 == x.2.1.2.2.2.2.1)) (eqLeaf_not ((x.1.2.2.2.2.2.1 == x.2.1.2.2.2.2.2.1)) (eqLeaf_not (seq x.1.2.2.2.2.2.2.1 x.2.1.2.2.2.2.2.2.1) rfl)))))))
theorem laws_eqStewCopyS_ok (n : Nat) (hn : Big n) (x : Tup [.slice tStewCopy, .slice tStewCopy]) (h : small 1048576 (.slice tStewCopy) x.1) : laws_eqStewCopyS.f n x = some (eqD (.slice tStewCopy) x.1 x.2.1, ()) := patEqS_ok (e := tStewCopy) (z := (Ty.zero tStewCopy)) (g := fun x y => laws_eqStewCopy.f n (x, y, ())) (fun x hx y => laws_eqStewCopy_ok n hn (x, y, ()) (h.2 x hx)) h.1 hn
theorem laws_eqStewBerth_ok (n : Nat) (hn : Big n) (x : Tup [tStewBerth, tStewBerth]) (h : small 1048576 tStewBerth x.1) : laws_eqStewBerth.f n x = some (eqD tStewBerth x.1 x.2.1, ()) :=
  (eqLeaf_not (seq x.1.1 x.2.1.1) (eqLeaf_not ((x.1.2.1 == x.2.1.2.1)) rfl))
theorem laws_eqStewBerthS_ok (n : Nat) (hn : Big n) (x : Tup [.slice tStewBerth, .slice tStewBerth]) (h : small 1048576 (.slice tStewBerth) x.1) : laws_eqStewBerthS.f n x = some (eqD (.slice tStewBerth) x.1 x.2.1, ()) := patEqS_ok (e := tStewBerth) (z := (Ty.zero tStewBerth)) (g := fun x y => laws_eqStewBerth.f n (x, y, ())) (fun x hx y => laws_eqStewBerth_ok n hn (x, y, ()) (h.2 x hx)) h.1 hn
theorem laws_eqStewBook_ok (n : Nat) (hn : Big n) (x : Tup [tStewBook, tStewBook]) (h : small 1048576 tStewBook x.1) : laws_eqStewBook.f n x = some (eqD tStewBook x.1 x.2.1, ()) :=
  (eqLeaf_not ((x.1.1 == x.2.1.1)) (eqCall_ok (laws_eqStewServiceS_ok n hn _ h.2.1) (eqCall_ok (laws_eqStewCopyS_ok n hn _ h.2.2.1) (eqCall_ok (laws_eqStewBerthS_ok n hn _ h.2.2.2.1) rfl))))
theorem bind_congr1 {α β : Type} {a b : Option α} {f : α → Option β} (h : a = b) : a.bind f = b.bind f := by rw [h]
attribute [local congr] bind_congr1
end Go.Proofs.Ytakbelofppdkhab
