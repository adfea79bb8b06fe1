import Derived.Test.YtmdkodbodddhpaaGreatF0
import Derived.Test.YtmdkodbodddhpaaGreatM4
set_option linter.unusedVariables false
set_option linter.unusedSimpArgs false
namespace Go.Proofs.YtmdkodbodddhpaaGreat
open Go.Vm
theorem laws_szStringS_ok (n : Nat) (hn : Big n) : SzOk (.slice .str) (fun l left => laws_szStringS.f n (l, left, ())) := patSzStrS_ok hn
theorem laws_szGateField_ok (n : Nat) (hn : Big n) : SzOk tGateField (fun x left => laws_szGateField.f n (x, left, ())) := by
  intro x hw
  have e : (fun left => laws_szGateField.f n (x, left, ())) = fun left => szStr (ByteArray.size x.1) left fun left => szCall (laws_szStringS.f n (x.2.2.2.2.1, left, ())) fun left => szStr (ByteArray.size x.2.2.2.2.2.1) left fun left => szStr (ByteArray.size x.2.2.2.2.2.2.2.2.2.1) left fun left => szStr (ByteArray.size x.2.2.2.2.2.2.2.2.2.2.1) left fun left => some (left, ()) := by kernel_rfl
  show KOk (fun left => laws_szGateField.f n (x, left, ())) _
  rw [e]
  exact KOk.congr (szStr_ok (s := ByteArray.size x.1) hw.1 (szCall_ok (laws_szStringS_ok n hn _ hw.2.2.2.2.1) (szStr_ok (s := ByteArray.size x.2.2.2.2.2.1) hw.2.2.2.2.2.1 (szStr_ok (s := ByteArray.size x.2.2.2.2.2.2.2.2.2.1) hw.2.2.2.2.2.2.2.2.2.1 (szStr_ok (s := ByteArray.size x.2.2.2.2.2.2.2.2.2.2.1) hw.2.2.2.2.2.2.2.2.2.2.1 szEnd_ok))))) (by first | (simp only [bulk]; done) | (simp only [bulk]; omega))
theorem laws_szGateFieldS_ok (n : Nat) (hn : Big n) : SzOk (.slice tGateField) (fun l left => laws_szGateFieldS.f n (l, left, ())) := patSzS_ok (g := fun x left => laws_szGateField.f n (x, left, ())) (z := Ty.zero tGateField) (laws_szGateField_ok n hn) hn
theorem laws_szGateShape_ok (n : Nat) (hn : Big n) : SzOk tGateShape (fun x left => laws_szGateShape.f n (x, left, ())) := by
  intro x hw
  have e : (fun left => laws_szGateShape.f n (x, left, ())) = fun left => szStr (ByteArray.size x.1) left fun left => szCall (laws_szGateFieldS.f n (x.2.1, left, ())) fun left => some (left, ()) := by kernel_rfl
  show KOk (fun left => laws_szGateShape.f n (x, left, ())) _
  rw [e]
  exact KOk.congr (szStr_ok (s := ByteArray.size x.1) hw.1 (szCall_ok (laws_szGateFieldS_ok n hn _ hw.2.1) szEnd_ok)) (by first | (simp only [bulk]; done) | (simp only [bulk]; omega))
theorem laws_szGateShapeS_ok (n : Nat) (hn : Big n) : SzOk (.slice tGateShape) (fun l left => laws_szGateShapeS.f n (l, left, ())) := patSzS_ok (g := fun x left => laws_szGateShape.f n (x, left, ())) (z := Ty.zero tGateShape) (laws_szGateShape_ok n hn) hn
theorem laws_szGateMend_ok (n : Nat) (hn : Big n) : SzOk tGateMend (fun x left => laws_szGateMend.f n (x, left, ())) := by
  intro x hw
  have e : (fun left => laws_szGateMend.f n (x, left, ())) = fun left => szStr (ByteArray.size x.1) left fun left => szStr (ByteArray.size x.2.1) left fun left => szStr (ByteArray.size x.2.2.1) left fun left => szStr (ByteArray.size x.2.2.2.1) left fun left => szStr (ByteArray.size x.2.2.2.2.1) left fun left => szStr (ByteArray.size x.2.2.2.2.2.1) left fun left => some (left, ()) := by kernel_rfl
  show KOk (fun left => laws_szGateMend.f n (x, left, ())) _
  rw [e]
  exact KOk.congr (szStr_ok (s := ByteArray.size x.1) hw.1 (szStr_ok (s := ByteArray.size x.2.1) hw.2.1 (szStr_ok (s := ByteArray.size x.2.2.1) hw.2.2.1 (szStr_ok (s := ByteArray.size x.2.2.2.1) hw.2.2.2.1 (szStr_ok (s := ByteArray.size x.2.2.2.2.1) hw.2.2.2.2.1 (szStr_ok (s := ByteArray.size x.2.2.2.2.2.1) hw.2.2.2.2.2.1 szEnd_ok)))))) (by first | (simp only [bulk]; done) | (simp only [bulk]; omega))
theorem laws_szGateMendS_ok (n : Nat) (hn : Big n) : SzOk (.slice tGateMend) (fun l left => laws_szGateMendS.f n (l, left, ())) := patSzS_ok (g := fun x left => laws_szGateMend.f n (x, left, ())) (z := Ty.zero tGateMend) (laws_szGateMend_ok n hn) hn
theorem laws_szGateTeam_ok (n : Nat) (hn : Big n) : SzOk tGateTeam (fun x left => laws_szGateTeam.f n (x, left, ())) := by
  intro x hw
  have e : (fun left => laws_szGateTeam.f n (x, left, ())) = fun left => szStr (ByteArray.size x.1) left fun left => szStr (ByteArray.size x.2.1) left fun left => some (left, ()) := by kernel_rfl
  show KOk (fun left => laws_szGateTeam.f n (x, left, ())) _
  rw [e]
  exact KOk.congr (szStr_ok (s := ByteArray.size x.1) hw.1 (szStr_ok (s := ByteArray.size x.2.1) hw.2.1 szEnd_ok)) (by first | (simp only [bulk]; done) | (simp only [bulk]; omega))
theorem laws_szGateTeamS_ok (n : Nat) (hn : Big n) : SzOk (.slice tGateTeam) (fun l left => laws_szGateTeamS.f n (l, left, ())) := patSzS_ok (g := fun x left => laws_szGateTeam.f n (x, left, ())) (z := Ty.zero tGateTeam) (laws_szGateTeam_ok n hn) hn
theorem laws_szGateLaw_ok (n : Nat) (hn : Big n) : SzOk tGateLaw (fun x left => laws_szGateLaw.f n (x, left, ())) := by
  intro x hw
  have e : (fun left => laws_szGateLaw.f n (x, left, ())) = fun left => szCall (laws_szGateShapeS.f n (x.1, left, ())) fun left => szCall (laws_szGateMendS.f n (x.2.1, left, ())) fun left => szCall (laws_szGateTeamS.f n (x.2.2.1, left, ())) fun left => some (left, ()) := by kernel_rfl
  show KOk (fun left => laws_szGateLaw.f n (x, left, ())) _
  rw [e]
  exact KOk.congr (szCall_ok (laws_szGateShapeS_ok n hn _ hw.1) (szCall_ok (laws_szGateMendS_ok n hn _ hw.2.1) (szCall_ok (laws_szGateTeamS_ok n hn _ hw.2.2.1) szEnd_ok))) (by first | (simp only [bulk]; done) | (simp only [bulk]; omega))
theorem laws_szIntS_ok (n : Nat) (hn : Big n) : SzOk (.slice (.int .i64)) (fun l left => laws_szIntS.f n (l, left, ())) := szLen_ok (fun x => by simp [bulk]) (fun l left => rfl)
theorem laws_szGateRule_ok (n : Nat) (hn : Big n) : SzOk tGateRule (fun x left => laws_szGateRule.f n (x, left, ())) := by
  intro x hw
  have e : (fun left => laws_szGateRule.f n (x, left, ())) = fun left => szCall (laws_szIntS.f n (x.1, left, ())) fun left => szStr (ByteArray.size x.2.1) left fun left => szStr (ByteArray.size x.2.2.1) left fun left => szStr (ByteArray.size x.2.2.2.1) left fun left => some (left, ()) := by kernel_rfl
  show KOk (fun left => laws_szGateRule.f n (x, left, ())) _
  rw [e]
  exact KOk.congr (szCall_ok (laws_szIntS_ok n hn _ hw.1) (szStr_ok (s := ByteArray.size x.2.1) hw.2.1 (szStr_ok (s := ByteArray.size x.2.2.1) hw.2.2.1 (szStr_ok (s := ByteArray.size x.2.2.2.1) hw.2.2.2.1 szEnd_ok)))) (by first | (simp only [bulk]; done) | (simp only [bulk]; omega))
theorem laws_szGateAsk_ok (n : Nat) (hn : Big n) : SzOk tGateAsk (fun x left => laws_szGateAsk.f n (x, left, ())) := by
  intro x hw
  have e : (fun left => laws_szGateAsk.f n (x, left, ())) = fun left => szStr (ByteArray.size x.1) left fun left => szStr (ByteArray.size x.2.2.1) left fun left => szStr (ByteArray.size x.2.2.2.1) left fun left => szStr (ByteArray.size x.2.2.2.2.1) left fun left => szCall (laws_szStringS.f n (x.2.2.2.2.2.1, left, ())) fun left => szCall (laws_szStringS.f n (x.2.2.2.2.2.2.1, left, ())) fun left => szStr (ByteArray.size x.2.2.2.2.2.2.2.2.1) left fun left => szStr (ByteArray.size x.2.2.2.2.2.2.2.2.2.1) left fun left => szCall (laws_szGateRule.f n (x.2.2.2.2.2.2.2.2.2.2.1, left, ())) fun left => some (left, ()) := by kernel_rfl
  show KOk (fun left => laws_szGateAsk.f n (x, left, ())) _
  rw [e]
  exact KOk.congr (szStr_ok (s := ByteArray.size x.1) hw.1 (szStr_ok (s := ByteArray.size x.2.2.1) hw.2.2.1 (szStr_ok (s := ByteArray.size x.2.2.2.1) hw.2.2.2.1 (szStr_ok (s := ByteArray.size x.2.2.2.2.1) hw.2.2.2.2.1 (szCall_ok (laws_szStringS_ok n hn _ hw.2.2.2.2.2.1) (szCall_ok (laws_szStringS_ok n hn _ hw.2.2.2.2.2.2.1) (szStr_ok (s := ByteArray.size x.2.2.2.2.2.2.2.2.1) hw.2.2.2.2.2.2.2.2.1 (szStr_ok (s := ByteArray.size x.2.2.2.2.2.2.2.2.2.1) hw.2.2.2.2.2.2.2.2.2.1 (szCall_ok (laws_szGateRule_ok n hn _ hw.2.2.2.2.2.2.2.2.2.2.1) szEnd_ok))))))))) (by first | (simp only [bulk]; done) | (simp only [bulk]; omega))
theorem laws_toStringS_ok (n : Nat) (hn : Big n) (x : Ty.den (.slice .str)) (h : small 1048576 (.slice .str) x) : laws_toStringS.f n (x, ()) = some (x, ()) := patToS_ok (z := (⟨#[]⟩ : ByteArray)) (g := fun x => some (x, ())) (fun x _ => rfl) h.1 (by decide) (by decide) hn
theorem laws_toGateField_ok (n : Nat) (hn : Big n) (x : Ty.den tGateField) (h : small 1048576 tGateField x) : laws_toGateField.f n (x, ()) = some (x, ()) := by
  first | (simp only [laws_toGateField.f, laws_toStringS_ok n hn _ h.2.2.2.2.1, Option.bind_some]; done) | (simp only [laws_toGateField.f, laws_toStringS_ok n hn _ h.2.2.2.2.1, Option.bind_some]; rfl)
theorem laws_toGateFieldS_ok (n : Nat) (hn : Big n) (x : Ty.den (.slice tGateField)) (h : small 1048576 (.slice tGateField) x) : laws_toGateFieldS.f n (x, ()) = some (x, ()) := patToS_ok (z := (Ty.zero tGateField)) (g := fun x => laws_toGateField.f n (x, ())) (fun x hx => laws_toGateField_ok n hn x (h.2 x hx)) h.1 (by decide) (by decide) hn
theorem laws_toGateShape_ok (n : Nat) (hn : Big n) (x : Ty.den tGateShape) (h : small 1048576 tGateShape x) : laws_toGateShape.f n (x, ()) = some (x, ()) := by
  first | (simp only [laws_toGateShape.f, laws_toGateFieldS_ok n hn _ h.2.1, Option.bind_some]; done) | (simp only [laws_toGateShape.f, laws_toGateFieldS_ok n hn _ h.2.1, Option.bind_some]; rfl)
theorem laws_toGateShapeS_ok (n : Nat) (hn : Big n) (x : Ty.den (.slice tGateShape)) (h : small 1048576 (.slice tGateShape) x) : laws_toGateShapeS.f n (x, ()) = some (x, ()) := patToS_ok (z := (Ty.zero tGateShape)) (g := fun x => laws_toGateShape.f n (x, ())) (fun x hx => laws_toGateShape_ok n hn x (h.2 x hx)) h.1 (by decide) (by decide) hn
theorem laws_toGateMend_ok (n : Nat) (hn : Big n) (x : Ty.den tGateMend) (h : small 1048576 tGateMend x) : laws_toGateMend.f n (x, ()) = some (x, ()) := rfl
theorem laws_toGateMendS_ok (n : Nat) (hn : Big n) (x : Ty.den (.slice tGateMend)) (h : small 1048576 (.slice tGateMend) x) : laws_toGateMendS.f n (x, ()) = some (x, ()) := patToS_ok (z := (Ty.zero tGateMend)) (g := fun x => laws_toGateMend.f n (x, ())) (fun x hx => laws_toGateMend_ok n hn x (h.2 x hx)) h.1 (by decide) (by decide) hn
theorem laws_toGateTeam_ok (n : Nat) (hn : Big n) (x : Ty.den tGateTeam) (h : small 1048576 tGateTeam x) : laws_toGateTeam.f n (x, ()) = some (x, ()) := rfl
theorem laws_toGateTeamS_ok (n : Nat) (hn : Big n) (x : Ty.den (.slice tGateTeam)) (h : small 1048576 (.slice tGateTeam) x) : laws_toGateTeamS.f n (x, ()) = some (x, ()) := patToS_ok (z := (Ty.zero tGateTeam)) (g := fun x => laws_toGateTeam.f n (x, ())) (fun x hx => laws_toGateTeam_ok n hn x (h.2 x hx)) h.1 (by decide) (by decide) hn
theorem laws_toGateLaw_ok (n : Nat) (hn : Big n) (x : Ty.den tGateLaw) (h : small 1048576 tGateLaw x) : laws_toGateLaw.f n (x, ()) = some (x, ()) := by
  first | (simp only [laws_toGateLaw.f, laws_toGateShapeS_ok n hn _ h.1, laws_toGateMendS_ok n hn _ h.2.1, laws_toGateTeamS_ok n hn _ h.2.2.1, Option.bind_some]; done) | (simp only [laws_toGateLaw.f, laws_toGateShapeS_ok n hn _ h.1, laws_toGateMendS_ok n hn _ h.2.1, laws_toGateTeamS_ok n hn _ h.2.2.1, Option.bind_some]; rfl)
theorem laws_toIntS_ok (n : Nat) (hn : Big n) (x : Ty.den (.slice (.int .i64))) (h : small 1048576 (.slice (.int .i64)) x) : laws_toIntS.f n (x, ()) = some (x, ()) := patToS_ok (z := (0 : Int)) (g := fun x => some (x, ())) (fun x _ => rfl) h.1 (by decide) (by decide) hn
theorem laws_toGateRule_ok (n : Nat) (hn : Big n) (x : Ty.den tGateRule) (h : small 1048576 tGateRule x) : laws_toGateRule.f n (x, ()) = some (x, ()) := by
  first | (simp only [laws_toGateRule.f, laws_toIntS_ok n hn _ h.1, Option.bind_some]; done) | (simp only [laws_toGateRule.f, laws_toIntS_ok n hn _ h.1, Option.bind_some]; rfl)
theorem laws_toGateAsk_ok (n : Nat) (hn : Big n) (x : Ty.den tGateAsk) (h : small 1048576 tGateAsk x) : laws_toGateAsk.f n (x, ()) = some (x, ()) := by
  first | (simp only [laws_toGateAsk.f, laws_toStringS_ok n hn _ h.2.2.2.2.2.1, laws_toStringS_ok n hn _ h.2.2.2.2.2.2.1, laws_toGateRule_ok n hn _ h.2.2.2.2.2.2.2.2.2.2.1, Option.bind_some]; done) | (simp only [laws_toGateAsk.f, laws_toStringS_ok n hn _ h.2.2.2.2.2.1, laws_toStringS_ok n hn _ h.2.2.2.2.2.2.1, laws_toGateRule_ok n hn _ h.2.2.2.2.2.2.2.2.2.2.1, Option.bind_some]; rfl)
theorem laws_eqStringS_ok (n : Nat) (hn : Big n) (x : Tup [.slice .str, .slice .str]) (h : small 1048576 (.slice .str) x.1) : laws_eqStringS.f n x = some (eqD (.slice .str) x.1 x.2.1, ()) := patEqS_ok (e := .str) (z := (⟨#[]⟩ : ByteArray)) (g := fun x y => some (eqD .str x y, ())) (fun x _ y => rfl) h.1 hn
theorem laws_eqGateField_ok (n : Nat) (hn : Big n) (x : Tup [tGateField, tGateField]) (h : small 1048576 tGateField x.1) : laws_eqGateField.f n x = some (eqD tGateField x.1 x.2.1, ()) :=
  (eqLeaf_not (seq x.1.1 x.2.1.1) (eqLeaf_not ((x.1.2.1 == x.2.1.2.1)) (eqLeaf_not ((x.1.2.2.1 == x.2.1.2.2.1)) (eqLeaf_not ((x.1.2.2.2.1 == x.2.1.2.2.2.1)) (eqCall_ok (laws_eqStringS_ok n hn _ h.2.2.2.2.1) (eqLeaf_not (seq x.1.2.2.2.2.2.1 x.2.1.2.2.2.2.2.1) (eqLeaf_not ((x.1.2.2.2.2.2.2.1 == x.2.1.2.2.2.2.2.2.1)) (eqLeaf_not ((x.1.2.2.2.2.2.2.2.1 == x.2.1.2.2.2.2.2.2.2.1)) (eqLeaf_not ((x.1.2.2.2.2.2.2.2.2.1 == x.2.1.2.2.2.2.2.2.2.2.1)) (eqLeaf_not (seq x.1.2.2.2.2.2.2.2.2.2.1 x.2.1.2.2.2.2.2.2.2.2.2.1) (eqLeaf_not (seq x.1.2.2.2.2.2.2.2.2.2.2.1 x.2.1.2.2.2.2.2.2.2.2.2.2.1) rfl)))))))))))
theorem laws_eqGateFieldS_ok (n : Nat) (hn : Big n) (x : Tup [.slice tGateField, .slice tGateField]) (h : small 1048576 (.slice tGateField) x.1) : laws_eqGateFieldS.f n x = some (eqD (.slice tGateField) x.1 x.2.1, ()) := patEqS_ok (e := tGateField) (z := (Ty.zero tGateField)) (g := fun x y => laws_eqGateField.f n (x, y, ())) (fun x hx y => laws_eqGateField_ok n hn (x, y, ()) (h.2 x hx)) h.1 hn
theorem laws_eqGateShape_ok (n : Nat) (hn : Big n) (x : Tup [tGateShape, tGateShape]) (h : small 1048576 tGateShape x.1) : laws_eqGateShape.f n x = some (eqD tGateShape x.1 x.2.1, ()) :=
  (eqLeaf_not (seq x.1.1 x.2.1.1) (eqCall_ok (laws_eqGateFieldS_ok n hn _ h.2.1) rfl))
theorem laws_eqGateShapeS_ok (n : Nat) (hn : Big n) (x : Tup [.slice tGateShape, .slice tGateShape]) (h : small 1048576 (.slice tGateShape) x.1) : laws_eqGateShapeS.f n x = some (eqD (.slice tGateShape) x.1 x.2.1, ()) := patEqS_ok (e := tGateShape) (z := (Ty.zero tGateShape)) (g := fun x y => laws_eqGateShape.f n (x, y, ())) (fun x hx y => laws_eqGateShape_ok n hn (x, y, ()) (h.2 x hx)) h.1 hn
theorem laws_eqGateMend_ok (n : Nat) (hn : Big n) (x : Tup [tGateMend, tGateMend]) (h : small 1048576 tGateMend x.1) : laws_eqGateMend.f n x = some (eqD tGateMend x.1 x.2.1, ()) :=
  (eqLeaf_not (seq x.1.1 x.2.1.1) (eqLeaf_not (seq x.1.2.1 x.2.1.2.1) (eqLeaf_not (seq x.1.2.2.1 x.2.1.2.2.1) (eqLeaf_not (seq x.1.2.2.2.1 x.2.1.2.2.2.1) (eqLeaf_not (seq x.1.2.2.2.2.1 x.2.1.2.2.2.2.1) (eqLeaf_not (seq x.1.2.2.2.2.2.1 x.2.1.2.2.2.2.2.1) rfl))))))
theorem laws_eqGateMendS_ok (n : Nat) (hn : Big n) (x : Tup [.slice tGateMend, .slice tGateMend]) (h : small 1048576 (.slice tGateMend) x.1) : laws_eqGateMendS.f n x = some (eqD (.slice tGateMend) x.1 x.2.1, ()) := patEqS_ok (e := tGateMend) (z := (Ty.zero tGateMend)) (g := fun x y => laws_eqGateMend.f n (x, y, ())) (fun x hx y => laws_eqGateMend_ok n hn (x, y, ()) (h.2 x hx)) h.1 hn
theorem laws_eqGateTeam_ok (n : Nat) (hn : Big n) (x : Tup [tGateTeam, tGateTeam]) (h : small 1048576 tGateTeam x.1) : laws_eqGateTeam.f n x = some (eqD tGateTeam x.1 x.2.1, ()) :=
  (eqLeaf_not (seq x.1.1 x.2.1.1) (eqLeaf_not (seq x.1.2.1 x.2.1.2.1) rfl))
theorem laws_eqGateTeamS_ok (n : Nat) (hn : Big n) (x : Tup [.slice tGateTeam, .slice tGateTeam]) (h : small 1048576 (.slice tGateTeam) x.1) : laws_eqGateTeamS.f n x = some (eqD (.slice tGateTeam) x.1 x.2.1, ()) := patEqS_ok (e := tGateTeam) (z := (Ty.zero tGateTeam)) (g := fun x y => laws_eqGateTeam.f n (x, y, ())) (fun x hx y => laws_eqGateTeam_ok n hn (x, y, ()) (h.2 x hx)) h.1 hn
theorem laws_eqGateLaw_ok (n : Nat) (hn : Big n) (x : Tup [tGateLaw, tGateLaw]) (h : small 1048576 tGateLaw x.1) : laws_eqGateLaw.f n x = some (eqD tGateLaw x.1 x.2.1, ()) :=
  (eqCall_ok (laws_eqGateShapeS_ok n hn _ h.1) (eqCall_ok (laws_eqGateMendS_ok n hn _ h.2.1) (eqCall_ok (laws_eqGateTeamS_ok n hn _ h.2.2.1) rfl)))
theorem laws_eqIntS_ok (n : Nat) (hn : Big n) (x : Tup [.slice (.int .i64), .slice (.int .i64)]) (h : small 1048576 (.slice (.int .i64)) x.1) : laws_eqIntS.f n x = some (eqD (.slice (.int .i64)) x.1 x.2.1, ()) := patEqS_ok (e := (.int .i64)) (z := (0 : Int)) (g := fun x y => some (eqD (.int .i64) x y, ())) (fun x _ y => rfl) h.1 hn
theorem laws_eqGateRule_ok (n : Nat) (hn : Big n) (x : Tup [tGateRule, tGateRule]) (h : small 1048576 tGateRule x.1) : laws_eqGateRule.f n x = some (eqD tGateRule x.1 x.2.1, ()) :=
  (eqCall_ok (laws_eqIntS_ok n hn _ h.1) (eqLeaf_not (seq x.1.2.1 x.2.1.2.1) (eqLeaf_not (seq x.1.2.2.1 x.2.1.2.2.1) (eqLeaf_not (seq x.1.2.2.2.1 x.2.1.2.2.2.1) rfl))))
theorem laws_eqGateAsk_ok (n : Nat) (hn : Big n) (x : Tup [tGateAsk, tGateAsk]) (h : small 1048576 tGateAsk x.1) : laws_eqGateAsk.f n x = some (eqD tGateAsk x.1 x.2.1, ()) :=
  (eqLeaf_not (seq x.1.1 x.2.1.1) (eqLeaf_not ((x.1.2.1 == x.2.1.2.1)) (eqLeaf_not (seq x.1.2.2.1 x.2.1.2.2.1) (eqLeaf_not (seq x.1.2.2.2.1 x.2.1.2.2.2.1) (eqLeaf_not (seq x.1.2.2.2.2.1 x.2.1.2.2.2.2.1) (eqCall_ok (laws_eqStringS_ok n hn _ h.2.2.2.2.2.1) (eqCall_ok (laws_eqStringS_ok n hn _ h.2.2.2.2.2.2.1) (eqLeaf_not ((x.1.2.2.2.2.2.2.2.1 == x.2.1.2.2.2.2.2.2.2.1)) (eqLeaf_not (seq x.1.2.2.2.2.2.2.2.2.1 x.2.1.2.2.2.2.2.2.2.2.1) (eqLeaf_not (seq x.1.2.2.2.2.2.2.2.2.2.1 x.2.1.2.2.2.2.2.2.2.2.2.1) (eqCall_ok (laws_eqGateRule_ok n hn _ h.2.2.2.2.2.2.2.2.2.2.1) (eqLeaf_not ((x.1.2.2.2.2.2.2.2.2.2.2.2.1 == x.2.1.2.2.2.2.2.2.2.2.2.2.2.1)) rfl))))))))))))
theorem bind_congr1 {α β : Type} {a b : Option α} {f : α → Option β} (h : a = b) : a.bind f = b.bind f := by rw [h]
attribute [local congr] bind_congr1
end Go.Proofs.YtmdkodbodddhpaaGreat
