import Derived.Test.YtbbdkoopiejpiabF0
import Derived.Test.YtbbdkoopiejpiabM4
set_option linter.unusedVariables false
set_option linter.unusedSimpArgs false
namespace Go.Proofs.Ytbbdkoopiejpiab
open Go.Vm
theorem laws_szStringS_ok (n : Nat) (hn : Big n) : SzOk (.slice .str) (fun l left => laws_szStringS.f n (l, left, ())) := patSzStrS_ok hn
theorem laws_szGateField_ok (n : Nat) (hn : Big n) : SzOk tGateField (fun x left => laws_szGateField.f n (x, left, ())) := by
  intro x hw
  have e : (fun left => laws_szGateField.f n (x, left, ())) = fun left => szStr (ByteArray.size x.1) left fun left => szCall (laws_szStringS.f n (x.2.2.2.2.1, left, ())) fun left => szStr (ByteArray.size x.2.2.2.2.2.1) left fun left => szStr (ByteArray.size x.2.2.2.2.2.2.2.2.2.1) left fun left => szStr (ByteArray.size x.2.2.2.2.2.2.2.2.2.2.1) left fun left => some (left, ()) := by kernel_rfl
  show KOk (fun left => laws_szGateField.f n (x, left, ())) _
  rw [e]
  exact KOk.congr (szStr_ok (s := ByteArray.size x.1) hw.1 (szCall_ok (laws_szStringS_ok n hn _ hw.2.2.2.2.1) (szStr_ok (s := ByteArray.size x.2.2.2.2.2.1) hw.2.2.2.2.2.1 (szStr_ok (s := ByteArray.size x.2.2.2.2.2.2.2.2.2.1) hw.2.2.2.2.2.2.2.2.2.1 (szStr_ok (s := ByteArray.size x.2.2.2.2.2.2.2.2.2.2.1) hw.2.2.2.2.2.2.2.2.2.2.1 szEnd_ok))))) (by first | (simp only [bulk]; done) | (simp only [bulk]; omega))
theorem laws_szGateFieldS_ok (n : Nat) (hn : Big n) : SzOk (.slice tGateField) (fun l left => laws_szGateFieldS.f n (l, left, ())) := patSzS_ok (g := fun x left => laws_szGateField.f n (x, left, ())) (z := Ty.zero tGateField) (laws_szGateField_ok n hn) hn
theorem laws_szGateShape_ok (n : Nat) (hn : Big n) : SzOk tGateShape (fun x left => laws_szGateShape.f n (x, left, ())) := by
  intro x hw
  have e : (fun left => laws_szGateShape.f n (x, left, ())) = fun left => szStr (ByteArray.size x.1) left fun left => szCall (laws_szGateFieldS.f n (x.2.1, left, ())) fun left => some (left, ()) := by kernel_rfl
  show KOk (fun left => laws_szGateShape.f n (x, left, ())) _
  rw [e]
  exact KOk.congr (szStr_ok (s := ByteArray.size x.1) hw.1 (szCall_ok (laws_szGateFieldS_ok n hn _ hw.2.1) szEnd_ok)) (by first | (simp only [bulk]; done) | (simp only [bulk]; omega))
theorem laws_szGateShapeS_ok (n : Nat) (hn : Big n) : SzOk (.slice tGateShape) (fun l left => laws_szGateShapeS.f n (l, left, ())) := patSzS_ok (g := fun x left => laws_szGateShape.f n (x, left, ())) (z := Ty.zero tGateShape) (laws_szGateShape_ok n hn) hn
theorem laws_szGateMend_ok (n : Nat) (hn : Big n) : SzOk tGateMend (fun x left => laws_szGateMend.f n (x, left, ())) := by
  intro x hw
  have e : (fun left => laws_szGateMend.f n (x, left, ())) = fun left => szStr (ByteArray.size x.1) left fun left => szStr (ByteArray.size x.2.1) left fun left => szStr (ByteArray.size x.2.2.1) left fun left => szStr (ByteArray.size x.2.2.2.1) left fun left => szStr (ByteArray.size x.2.2.2.2.1) left fun left => szStr (ByteArray.size x.2.2.2.2.2.1) left fun left => some (left, ()) := by kernel_rfl
  show KOk (fun left => laws_szGateMend.f n (x, left, ())) _
  rw [e]
  exact KOk.congr (szStr_ok (s := ByteArray.size x.1) hw.1 (szStr_ok (s := ByteArray.size x.2.1) hw.2.1 (szStr_ok (s := ByteArray.size x.2.2.1) hw.2.2.1 (szStr_ok (s := ByteArray.size x.2.2.2.1) hw.2.2.2.1 (szStr_ok (s := ByteArray.size x.2.2.2.2.1) hw.2.2.2.2.1 (szStr_ok (s := ByteArray.size x.2.2.2.2.2.1) hw.2.2.2.2.2.1 szEnd_ok)))))) (by first | (simp only [bulk]; done) | (simp only [bulk]; omega))
theorem laws_szGateMendS_ok (n : Nat) (hn : Big n) : SzOk (.slice tGateMend) (fun l left => laws_szGateMendS.f n (l, left, ())) := patSzS_ok (g := fun x left => laws_szGateMend.f n (x, left, ())) (z := Ty.zero tGateMend) (laws_szGateMend_ok n hn) hn
theorem laws_szGateObject_ok (n : Nat) (hn : Big n) : SzOk tGateObject (fun x left => laws_szGateObject.f n (x, left, ())) := by
  intro x hw
  have e : (fun left => laws_szGateObject.f n (x, left, ())) = fun left => szStr (ByteArray.size x.1) left fun left => szStr (ByteArray.size x.2.1) left fun left => szStr (ByteArray.size x.2.2.1) left fun left => szCall (laws_szStringS.f n (x.2.2.2.1, left, ())) fun left => szCall (laws_szStringS.f n (x.2.2.2.2.2.1, left, ())) fun left => some (left, ()) := by kernel_rfl
  show KOk (fun left => laws_szGateObject.f n (x, left, ())) _
  rw [e]
  exact KOk.congr (szStr_ok (s := ByteArray.size x.1) hw.1 (szStr_ok (s := ByteArray.size x.2.1) hw.2.1 (szStr_ok (s := ByteArray.size x.2.2.1) hw.2.2.1 (szCall_ok (laws_szStringS_ok n hn _ hw.2.2.2.1) (szCall_ok (laws_szStringS_ok n hn _ hw.2.2.2.2.2.1) szEnd_ok))))) (by first | (simp only [bulk]; done) | (simp only [bulk]; omega))
theorem laws_toStringS_ok (n : Nat) (hn : Big n) (x : Ty.den (.slice .str)) (h : small 1048576 (.slice .str) x) : laws_toStringS.f n (x, ()) = some (x, ()) := patToS_ok (z := (⟨#[]⟩ : ByteArray)) (g := fun x => some (x, ())) (fun x _ => rfl) h.1 (by decide) (by decide) hn
theorem laws_toGateField_ok (n : Nat) (hn : Big n) (x : Ty.den tGateField) (h : small 1048576 tGateField x) : laws_toGateField.f n (x, ()) = some (x, ()) := by
  first | (simp only [laws_toGateField.f, laws_toStringS_ok n hn _ h.2.2.2.2.1, Option.bind_some]; done) | (simp only [laws_toGateField.f, laws_toStringS_ok n hn _ h.2.2.2.2.1, Option.bind_some]; rfl)
theorem laws_toGateFieldS_ok (n : Nat) (hn : Big n) (x : Ty.den (.slice tGateField)) (h : small 1048576 (.slice tGateField) x) : laws_toGateFieldS.f n (x, ()) = some (x, ()) := patToS_ok (z := (Ty.zero tGateField)) (g := fun x => laws_toGateField.f n (x, ())) (fun x hx => laws_toGateField_ok n hn x (h.2 x hx)) h.1 (by decide) (by decide) hn
theorem laws_toGateShape_ok (n : Nat) (hn : Big n) (x : Ty.den tGateShape) (h : small 1048576 tGateShape x) : laws_toGateShape.f n (x, ()) = some (x, ()) := by
  first | (simp only [laws_toGateShape.f, laws_toGateFieldS_ok n hn _ h.2.1, Option.bind_some]; done) | (simp only [laws_toGateShape.f, laws_toGateFieldS_ok n hn _ h.2.1, Option.bind_some]; rfl)
theorem laws_toGateShapeS_ok (n : Nat) (hn : Big n) (x : Ty.den (.slice tGateShape)) (h : small 1048576 (.slice tGateShape) x) : laws_toGateShapeS.f n (x, ()) = some (x, ()) := patToS_ok (z := (Ty.zero tGateShape)) (g := fun x => laws_toGateShape.f n (x, ())) (fun x hx => laws_toGateShape_ok n hn x (h.2 x hx)) h.1 (by decide) (by decide) hn
theorem laws_toGateMend_ok (n : Nat) (hn : Big n) (x : Ty.den tGateMend) (h : small 1048576 tGateMend x) : laws_toGateMend.f n (x, ()) = some (x, ()) := rfl
theorem laws_toGateMendS_ok (n : Nat) (hn : Big n) (x : Ty.den (.slice tGateMend)) (h : small 1048576 (.slice tGateMend) x) : laws_toGateMendS.f n (x, ()) = some (x, ()) := patToS_ok (z := (Ty.zero tGateMend)) (g := fun x => laws_toGateMend.f n (x, ())) (fun x hx => laws_toGateMend_ok n hn x (h.2 x hx)) h.1 (by decide) (by decide) hn
theorem laws_toGateObject_ok (n : Nat) (hn : Big n) (x : Ty.den tGateObject) (h : small 1048576 tGateObject x) : laws_toGateObject.f n (x, ()) = some (x, ()) := by
  first | (simp only [laws_toGateObject.f, laws_toStringS_ok n hn _ h.2.2.2.1, laws_toStringS_ok n hn _ h.2.2.2.2.2.1, Option.bind_some]; done) | (simp only [laws_toGateObject.f, laws_toStringS_ok n hn _ h.2.2.2.1, laws_toStringS_ok n hn _ h.2.2.2.2.2.1, Option.bind_some]; rfl)
theorem laws_eqStringS_ok (n : Nat) (hn : Big n) (x : Tup [.slice .str, .slice .str]) (h : small 1048576 (.slice .str) x.1) : laws_eqStringS.f n x = some (eqD (.slice .str) x.1 x.2.1, ()) := patEqS_ok (e := .str) (z := (⟨#[]⟩ : ByteArray)) (g := fun x y => some (eqD .str x y, ())) (fun x _ y => rfl) h.1 hn
theorem laws_eqGateObject_ok (n : Nat) (hn : Big n) (x : Tup [tGateObject, tGateObject]) (h : small 1048576 tGateObject x.1) : laws_eqGateObject.f n x = some (eqD tGateObject x.1 x.2.1, ()) :=
  (eqLeaf_not (seq x.1.1 x.2.1.1) (eqLeaf_not (seq x.1.2.1 x.2.1.2.1) (eqLeaf_not (seq x.1.2.2.1 x.2.1.2.2.1) (eqCall_ok (laws_eqStringS_ok n hn _ h.2.2.2.1) (eqLeaf_not ((x.1.2.2.2.2.1 == x.2.1.2.2.2.2.1)) (eqCall_ok (laws_eqStringS_ok n hn _ h.2.2.2.2.2.1) (eqLeaf_not ((x.1.2.2.2.2.2.2.1 == x.2.1.2.2.2.2.2.2.1)) rfl)))))))
theorem laws_eqGateField_ok (n : Nat) (hn : Big n) (x : Tup [tGateField, tGateField]) (h : small 1048576 tGateField x.1) : laws_eqGateField.f n x = some (eqD tGateField x.1 x.2.1, ()) :=
  (eqLeaf_not (seq x.1.1 x.2.1.1) (eqLeaf_not ((x.1.2.1 == x.2.1.2.1)) (eqLeaf_not ((x.1.2.2.1 == x.2.1.2.2.1)) (eqLeaf_not ((x.1.2.2.2.1 == x.2.1.2.2.2.1)) (eqCall_ok (laws_eqStringS_ok n hn _ h.2.2.2.2.1) (eqLeaf_not (seq x.1.2.2.2.2.2.1 x.2.1.2.2.2.2.2.1) (eqLeaf_not ((x.1.2.2.2.2.2.2.1 == x.2.1.2.2.2.2.2.2.1)) (eqLeaf_not ((x.1.2.2.2.2.2.2.2.1 == x.2.1.2.2.2.2.2.2.2.1)) (eqLeaf_not ((x.1.2.2.2.2.2.2.2.2.1 == x.2.1.2.2.2.2.2.2.2.2.1)) (eqLeaf_not (seq x.1.2.2.2.2.2.2.2.2.2.1 x.2.1.2.2.2.2.2.2.2.2.2.1) (eqLeaf_not (seq x.1.2.2.2.2.2.2.2.2.2.2.1 x.2.1.2.2.2.2.2.2.2.2.2.2.1) rfl)))))))))))
theorem laws_eqGateFieldS_ok (n : Nat) (hn : Big n) (x : Tup [.slice tGateField, .slice tGateField]) (h : small 1048576 (.slice tGateField) x.1) : laws_eqGateFieldS.f n x = some (eqD (.slice tGateField) x.1 x.2.1, ()) := patEqS_ok (e := tGateField) (z := (Ty.zero tGateField)) (g := fun x y => laws_eqGateField.f n (x, y, ())) (fun x hx y => laws_eqGateField_ok n hn (x, y, ()) (h.2 x hx)) h.1 hn
theorem laws_eqGateShape_ok (n : Nat) (hn : Big n) (x : Tup [tGateShape, tGateShape]) (h : small 1048576 tGateShape x.1) : laws_eqGateShape.f n x = some (eqD tGateShape x.1 x.2.1, ()) :=
  (eqLeaf_not (seq x.1.1 x.2.1.1) (eqCall_ok (laws_eqGateFieldS_ok n hn _ h.2.1) rfl))
theorem laws_eqGateShapeS_ok (n : Nat) (hn : Big n) (x : Tup [.slice tGateShape, .slice tGateShape]) (h : small 1048576 (.slice tGateShape) x.1) : laws_eqGateShapeS.f n x = some (eqD (.slice tGateShape) x.1 x.2.1, ()) := patEqS_ok (e := tGateShape) (z := (Ty.zero tGateShape)) (g := fun x y => laws_eqGateShape.f n (x, y, ())) (fun x hx y => laws_eqGateShape_ok n hn (x, y, ()) (h.2 x hx)) h.1 hn
theorem laws_eqGateMend_ok (n : Nat) (hn : Big n) (x : Tup [tGateMend, tGateMend]) (h : small 1048576 tGateMend x.1) : laws_eqGateMend.f n x = some (eqD tGateMend x.1 x.2.1, ()) :=
  (eqLeaf_not (seq x.1.1 x.2.1.1) (eqLeaf_not (seq x.1.2.1 x.2.1.2.1) (eqLeaf_not (seq x.1.2.2.1 x.2.1.2.2.1) (eqLeaf_not (seq x.1.2.2.2.1 x.2.1.2.2.2.1) (eqLeaf_not (seq x.1.2.2.2.2.1 x.2.1.2.2.2.2.1) (eqLeaf_not (seq x.1.2.2.2.2.2.1 x.2.1.2.2.2.2.2.1) rfl))))))
theorem laws_eqGateMendS_ok (n : Nat) (hn : Big n) (x : Tup [.slice tGateMend, .slice tGateMend]) (h : small 1048576 (.slice tGateMend) x.1) : laws_eqGateMendS.f n x = some (eqD (.slice tGateMend) x.1 x.2.1, ()) := patEqS_ok (e := tGateMend) (z := (Ty.zero tGateMend)) (g := fun x y => laws_eqGateMend.f n (x, y, ())) (fun x hx y => laws_eqGateMend_ok n hn (x, y, ()) (h.2 x hx)) h.1 hn
theorem bind_congr1 {α β : Type} {a b : Option α} {f : α → Option β} (h : a = b) : a.bind f = b.bind f := by rw [h]
attribute [local congr] bind_congr1
theorem laws_markText_ok (n : Nat) (hn : Big n) (k : Int) (hk : 1 ≤ k) (hw : k ≤ 4611686018427387904) : ∃ s, laws_markText.f n (k, ()) = some (s, ()) := by
  have hn : 18446744073709551616 ≤ n := hn
  obtain ⟨m, rfl⟩ : ∃ m : Nat, k = m := ⟨k.toNat, by omega⟩
  unfold laws_markText.f
  rw [if_neg (by rw [decide_eq_true_eq]; show ¬ ((m : Int) ≤ 0); omega)]
  obtain ⟨t, ht, hr⟩ := markText_run (B := laws_markText.B4 n) (cs := ((fun z1 => if (decide ((ByteArray.size (⟨#[109]⟩ : ByteArray) : Int) + (ByteArray.size z1.1 : Int) ≤ 9223372036854775807)) = true then some ((scat (⟨#[109]⟩ : ByteArray) z1.1), ()) else none), ())) (dn := fun s => if (decide ((ByteArray.size (⟨#[109]⟩ : ByteArray) : Int) + (ByteArray.size s : Int) ≤ 9223372036854775807)) = true then some ((scat (⟨#[109]⟩ : ByteArray) s), ()) else none)
    (fun next s => by simp only [laws_markText.B4, show decide ((0 : Int) > 0) = false from rfl, Bool.false_eq_true, if_false])
    (fun next k s h1 h2 => ⟨_, (scat_size _ s).trans (by rw [ofBytes_one]; omega), by
      simp only [laws_markText.B4]
      rw [if_pos (decide_eq_true (show k > 0 by omega)), if_pos (by decide), if_pos (decide_eq_true (by rw [ofBytes_one]; show ((1 : Nat) : Int) + (ByteArray.size s : Int) ≤ 9223372036854775807; omega)), if_pos (by decide), wrapM (Int.tdiv_nonneg (by omega) (by omega)) (by rw [Int.tdiv_eq_ediv_of_nonneg (by omega)]; omega)]⟩)
    n m (⟨#[]⟩ : ByteArray) (by have : ByteArray.size (⟨#[]⟩ : ByteArray) = 0 := rfl; omega) (by omega)
  have h0 : ByteArray.size (⟨#[]⟩ : ByteArray) = 0 := rfl
  have h9 : ByteArray.size (⟨#[109]⟩ : ByteArray) = 1 := rfl
  exact ⟨_, hr.trans (if_pos (decide_eq_true (by rw [h9]; omega)))⟩
theorem laws_markStringS_el (n : Nat) (hn : Big n) {R1 R2 : Type} (cs1 : Conts R1 laws_markStringS.l2.outs) (cs2 : Conts R2 laws_heldStringS.l2.outs) : ElOk .str (laws_markStringS.B2 n (R := R1)) cs1 (laws_heldStringS.B2 n (R := R2)) cs2 := by
  intro x k hk hw
  simp only [wt_pair, wt_unit, wt_int, wt_bool, wt_str] at hw
  obtain ⟨t1, m1⟩ := laws_markText_ok n hn k (by omega) (by omega)
  refine ⟨t1, (k + 1), by omega, by simp only [wt_pair, wt_unit, wt_int, wt_bool, wt_str]; omega, fun next l i hi hl hx => ?_, fun next l i hi hl hx => ?_⟩
  · simp (disch := omega) only [laws_markStringS.B2, m1, wrapM, lt_dec hi, in_dec hi, Int.toNat_natCast, List.length_set, getD_set_at hi, List.set_set, hx, Option.bind_some, Bool.or_true, Bool.not_true, Bool.not_false, bne_self_eq_false, beq_self_eq_true, seq_same, Bool.false_eq_true, if_true, if_false, show ((3 : Int) != 0) = true from rfl, Bool.true_and, Bool.and_true]
  · simp (disch := omega) only [laws_heldStringS.B2, m1, wrapM, lt_dec hi, in_dec hi, Int.toNat_natCast, List.length_set, getD_set_at hi, List.set_set, hx, Option.bind_some, Bool.or_true, Bool.not_true, Bool.not_false, bne_self_eq_false, beq_self_eq_true, seq_same, Bool.false_eq_true, if_true, if_false, show ((3 : Int) != 0) = true from rfl, Bool.true_and, Bool.and_true]
theorem laws_markStringS_ok (n : Nat) (hn : Big n) (x : Ty.den (.slice .str)) (k : Int) (hk : 1 ≤ k) (hw : k + wt (.slice .str) x ≤ 4611686018427387904) : ∃ (s1 : Ty.den (.slice .str)) (k' : Int), k ≤ k' ∧ k' ≤ k + wt (.slice .str) x ∧ laws_markStringS.f n x (k, ()) = some (s1, k', ()) ∧ laws_heldStringS.f n (s1, k, ()) = some (k', ()) :=
  markS_ok hn (laws_markStringS_el n hn _ _) (fun next l k => by simp only [laws_markStringS.B2, lt_dec', Bool.false_eq_true, if_false]) (fun next l k => by simp only [laws_heldStringS.B2, lt_dec', Bool.false_eq_true, if_false]) x k hk hw
theorem laws_markStringS_ok1 (n : Nat) (hn : Big n) (x : Ty.den (.slice .str)) (k : Int) (hk : 1 ≤ k) (hw : k + wt (.slice .str) x ≤ 4611686018427387904) : ∃ (s1 : Ty.den (.slice .str)) (k' : Int), k ≤ k' ∧ k' ≤ k + wt (.slice .str) x ∧ laws_markStringS.f n x (k, ()) = some (s1, k', ()) := by
  obtain ⟨s1, k1, p, q, m, _⟩ := laws_markStringS_ok n hn x k hk hw
  exact ⟨s1, k1, p, q, m⟩
set_option maxHeartbeats 4000000 in
theorem laws_markGateFieldS_el (n : Nat) (hn : Big n) {R1 : Type} (cs1 : Conts R1 laws_markGateFieldS.l2.outs) : ElOk1 tGateField (laws_markGateFieldS.B2 n (R := R1)) cs1 := by
  intro x k hk hw
  simp only [wt_pair, wt_unit, wt_int, wt_bool, wt_str] at hw
  obtain ⟨t1, m1⟩ := laws_markText_ok n hn k (by omega) (by omega)
  obtain ⟨t2, k2, p2, q2, m2⟩ := laws_markStringS_ok n hn x.2.2.2.2.1 ((((k + 1) + 1) + 1) + 1) (by omega) (by omega)
  obtain ⟨t3, m3⟩ := laws_markText_ok n hn k2 (by omega) (by omega)
  obtain ⟨t4, m4⟩ := laws_markText_ok n hn ((((k2 + 1) + 1) + 1) + 1) (by omega) (by omega)
  obtain ⟨t5, m5⟩ := laws_markText_ok n hn (((((k2 + 1) + 1) + 1) + 1) + 1) (by omega) (by omega)
  refine ⟨(t1, ((k + 1), (((k + 1) + 1), ((((k + 1) + 1) + 1), (t2, (t3, ((k2 + 1), ((Int.tmod ((k2 + 1) + 1) (3 : Int) == (0 : Int)), ((Int.tmod (((k2 + 1) + 1) + 1) (3 : Int) == (0 : Int)), (t4, (t5, x.2.2.2.2.2.2.2.2.2.2.2))))))))))), ((((((k2 + 1) + 1) + 1) + 1) + 1) + 1), by omega, by simp only [wt_pair, wt_unit, wt_int, wt_bool, wt_str]; omega, fun next l i hi hl hx => ?_⟩
  · simp (disch := omega) only [laws_markGateFieldS.B2, m1, m2, m3, m4, m5, wrapM, lt_dec hi, in_dec hi, Int.toNat_natCast, List.length_set, getD_set_at hi, List.set_set, hx, Option.bind_some, Bool.or_true, Bool.not_true, Bool.not_false, bne_self_eq_false, beq_self_eq_true, seq_same, Bool.false_eq_true, if_true, if_false, show ((3 : Int) != 0) = true from rfl, Bool.true_and, Bool.and_true]
theorem laws_markGateFieldS_ok (n : Nat) (hn : Big n) (x : Ty.den (.slice tGateField)) (k : Int) (hk : 1 ≤ k) (hw : k + wt (.slice tGateField) x ≤ 4611686018427387904) : ∃ (s1 : Ty.den (.slice tGateField)) (k' : Int), k ≤ k' ∧ k' ≤ k + wt (.slice tGateField) x ∧ laws_markGateFieldS.f n x (k, ()) = some (s1, k', ()) :=
  markS1_ok hn (laws_markGateFieldS_el n hn _) (fun next l k => by simp only [laws_markGateFieldS.B2, lt_dec', Bool.false_eq_true, if_false]) x k hk hw
theorem laws_markGateFieldS_ok1 (n : Nat) (hn : Big n) (x : Ty.den (.slice tGateField)) (k : Int) (hk : 1 ≤ k) (hw : k + wt (.slice tGateField) x ≤ 4611686018427387904) : ∃ (s1 : Ty.den (.slice tGateField)) (k' : Int), k ≤ k' ∧ k' ≤ k + wt (.slice tGateField) x ∧ laws_markGateFieldS.f n x (k, ()) = some (s1, k', ()) :=
  laws_markGateFieldS_ok n hn x k hk hw
theorem laws_markGateShapeS_el (n : Nat) (hn : Big n) {R1 : Type} (cs1 : Conts R1 laws_markGateShapeS.l2.outs) : ElOk1 tGateShape (laws_markGateShapeS.B2 n (R := R1)) cs1 := by
  intro x k hk hw
  simp only [wt_pair, wt_unit, wt_int, wt_bool, wt_str] at hw
  obtain ⟨t1, m1⟩ := laws_markText_ok n hn k (by omega) (by omega)
  obtain ⟨t2, k2, p2, q2, m2⟩ := laws_markGateFieldS_ok n hn x.2.1 (k + 1) (by omega) (by omega)
  refine ⟨(t1, (t2, x.2.2)), k2, by omega, by simp only [wt_pair, wt_unit, wt_int, wt_bool, wt_str]; omega, fun next l i hi hl hx => ?_⟩
  · simp (disch := omega) only [laws_markGateShapeS.B2, m1, m2, wrapM, lt_dec hi, in_dec hi, Int.toNat_natCast, List.length_set, getD_set_at hi, List.set_set, hx, Option.bind_some, Bool.or_true, Bool.not_true, Bool.not_false, bne_self_eq_false, beq_self_eq_true, seq_same, Bool.false_eq_true, if_true, if_false, show ((3 : Int) != 0) = true from rfl, Bool.true_and, Bool.and_true]
theorem laws_markGateShapeS_ok (n : Nat) (hn : Big n) (x : Ty.den (.slice tGateShape)) (k : Int) (hk : 1 ≤ k) (hw : k + wt (.slice tGateShape) x ≤ 4611686018427387904) : ∃ (s1 : Ty.den (.slice tGateShape)) (k' : Int), k ≤ k' ∧ k' ≤ k + wt (.slice tGateShape) x ∧ laws_markGateShapeS.f n x (k, ()) = some (s1, k', ()) :=
  markS1_ok hn (laws_markGateShapeS_el n hn _) (fun next l k => by simp only [laws_markGateShapeS.B2, lt_dec', Bool.false_eq_true, if_false]) x k hk hw
theorem laws_markGateShapeS_ok1 (n : Nat) (hn : Big n) (x : Ty.den (.slice tGateShape)) (k : Int) (hk : 1 ≤ k) (hw : k + wt (.slice tGateShape) x ≤ 4611686018427387904) : ∃ (s1 : Ty.den (.slice tGateShape)) (k' : Int), k ≤ k' ∧ k' ≤ k + wt (.slice tGateShape) x ∧ laws_markGateShapeS.f n x (k, ()) = some (s1, k', ()) :=
  laws_markGateShapeS_ok n hn x k hk hw
theorem laws_markGateMendS_el (n : Nat) (hn : Big n) {R1 : Type} (cs1 : Conts R1 laws_markGateMendS.l2.outs) : ElOk1 tGateMend (laws_markGateMendS.B2 n (R := R1)) cs1 := by
  intro x k hk hw
  simp only [wt_pair, wt_unit, wt_int, wt_bool, wt_str] at hw
  obtain ⟨t1, m1⟩ := laws_markText_ok n hn k (by omega) (by omega)
  obtain ⟨t2, m2⟩ := laws_markText_ok n hn (k + 1) (by omega) (by omega)
  obtain ⟨t3, m3⟩ := laws_markText_ok n hn ((k + 1) + 1) (by omega) (by omega)
  obtain ⟨t4, m4⟩ := laws_markText_ok n hn (((k + 1) + 1) + 1) (by omega) (by omega)
  obtain ⟨t5, m5⟩ := laws_markText_ok n hn ((((k + 1) + 1) + 1) + 1) (by omega) (by omega)
  obtain ⟨t6, m6⟩ := laws_markText_ok n hn (((((k + 1) + 1) + 1) + 1) + 1) (by omega) (by omega)
  refine ⟨(t1, (t2, (t3, (t4, (t5, (t6, x.2.2.2.2.2.2)))))), ((((((k + 1) + 1) + 1) + 1) + 1) + 1), by omega, by simp only [wt_pair, wt_unit, wt_int, wt_bool, wt_str]; omega, fun next l i hi hl hx => ?_⟩
  · simp (disch := omega) only [laws_markGateMendS.B2, m1, m2, m3, m4, m5, m6, wrapM, lt_dec hi, in_dec hi, Int.toNat_natCast, List.length_set, getD_set_at hi, List.set_set, hx, Option.bind_some, Bool.or_true, Bool.not_true, Bool.not_false, bne_self_eq_false, beq_self_eq_true, seq_same, Bool.false_eq_true, if_true, if_false, show ((3 : Int) != 0) = true from rfl, Bool.true_and, Bool.and_true]
theorem laws_markGateMendS_ok (n : Nat) (hn : Big n) (x : Ty.den (.slice tGateMend)) (k : Int) (hk : 1 ≤ k) (hw : k + wt (.slice tGateMend) x ≤ 4611686018427387904) : ∃ (s1 : Ty.den (.slice tGateMend)) (k' : Int), k ≤ k' ∧ k' ≤ k + wt (.slice tGateMend) x ∧ laws_markGateMendS.f n x (k, ()) = some (s1, k', ()) :=
  markS1_ok hn (laws_markGateMendS_el n hn _) (fun next l k => by simp only [laws_markGateMendS.B2, lt_dec', Bool.false_eq_true, if_false]) x k hk hw
theorem laws_markGateMendS_ok1 (n : Nat) (hn : Big n) (x : Ty.den (.slice tGateMend)) (k : Int) (hk : 1 ≤ k) (hw : k + wt (.slice tGateMend) x ≤ 4611686018427387904) : ∃ (s1 : Ty.den (.slice tGateMend)) (k' : Int), k ≤ k' ∧ k' ≤ k + wt (.slice tGateMend) x ∧ laws_markGateMendS.f n x (k, ()) = some (s1, k', ()) :=
  laws_markGateMendS_ok n hn x k hk hw
theorem laws_markGateObject_ok (n : Nat) (hn : Big n) (x : Ty.den tGateObject) (k : Int) (hk : 1 ≤ k) (hw : k + wt tGateObject x ≤ 4611686018427387904) : ∃ (s1 : Ty.den (.slice .str)) (s2 : Ty.den (.slice .str)) (k' : Int), k ≤ k' ∧ k' ≤ k + wt tGateObject x ∧ laws_markGateObject.f n x (k, ()) = some ((x.1, (x.2.1, (x.2.2.1, (s1, (x.2.2.2.2.1, (s2, x.2.2.2.2.2.2)))))), k', ()) ∧ laws_heldGateObject.f n ((x.1, (x.2.1, (x.2.2.1, (s1, (x.2.2.2.2.1, (s2, x.2.2.2.2.2.2)))))), k, ()) = some (k', ()) := by
  have hw0 := hw
  simp only [wt_pair, wt_unit, wt_int, wt_bool, wt_str] at hw
  obtain ⟨s1, k1, p1, q1, m1, h1⟩ := laws_markStringS_ok n hn x.2.2.2.1 k (by omega) (by first | omega | (simp only [wt_pair, wt_unit, wt_int, wt_bool, wt_str]; omega))
  try simp only [wt_pair, wt_unit, wt_int, wt_bool, wt_str] at q1
  have d1 : decide (k1 < (0 : Int)) = false := decide_eq_false (by omega)
  obtain ⟨s2, k2, p2, q2, m2, h2⟩ := laws_markStringS_ok n hn x.2.2.2.2.2.1 k1 (by omega) (by first | omega | (simp only [wt_pair, wt_unit, wt_int, wt_bool, wt_str]; omega))
  try simp only [wt_pair, wt_unit, wt_int, wt_bool, wt_str] at q2
  have d2 : decide (k2 < (0 : Int)) = false := decide_eq_false (by omega)
  refine ⟨s1, s2, k2, by omega, by first | omega | (simp only [wt_pair, wt_unit, wt_int, wt_bool, wt_str]; omega), by simp only [laws_markGateObject.f, m1, m2, Option.bind_some], by simp only [laws_heldGateObject.f, h1, h2, d1, d2, Option.bind_some, Bool.false_eq_true, if_false]⟩
theorem laws_markGateObject_ok1 (n : Nat) (hn : Big n) (x : Ty.den tGateObject) (k : Int) (hk : 1 ≤ k) (hw : k + wt tGateObject x ≤ 4611686018427387904) : ∃ (s1 : Ty.den (.slice .str)) (s2 : Ty.den (.slice .str)) (k' : Int), k ≤ k' ∧ k' ≤ k + wt tGateObject x ∧ laws_markGateObject.f n x (k, ()) = some ((x.1, (x.2.1, (x.2.2.1, (s1, (x.2.2.2.2.1, (s2, x.2.2.2.2.2.2)))))), k', ()) := by
  obtain ⟨s1, s2, k1, p, q, m, _⟩ := laws_markGateObject_ok n hn x k hk hw
  exact ⟨s1, s2, k1, p, q, m⟩
end Go.Proofs.Ytbbdkoopiejpiab
