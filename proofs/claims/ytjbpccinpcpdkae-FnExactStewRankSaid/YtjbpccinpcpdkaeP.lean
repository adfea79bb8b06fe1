import Derived.Test.YtjbpccinpcpdkaeF0
import Derived.Test.YtjbpccinpcpdkaeM2
set_option linter.unusedVariables false
set_option linter.unusedSimpArgs false
namespace Go.Proofs.Ytjbpccinpcpdkae
open Go.Vm
theorem laws_szStewService_ok (n : Nat) (hn : Big n) : SzOk tStewService (fun x left => laws_szStewService.f n (x, left, ())) := by
  intro x hw
  have e : (fun left => laws_szStewService.f n (x, left, ())) = fun left => szStr (ByteArray.size x.1) left fun left => some (left, ()) := by kernel_rfl
  show KOk (fun left => laws_szStewService.f n (x, left, ())) _
  rw [e]
  exact KOk.congr (szStr_ok (s := ByteArray.size x.1) hw.1 szEnd_ok) (by first | (simp only [bulk]; done) | (simp only [bulk]; omega))
theorem laws_szStewServiceS_ok (n : Nat) (hn : Big n) : SzOk (.slice tStewService) (fun l left => laws_szStewServiceS.f n (l, left, ())) := patSzS_ok (g := fun x left => laws_szStewService.f n (x, left, ())) (z := Ty.zero tStewService) (laws_szStewService_ok n hn) hn
theorem laws_szStewCopy_ok (n : Nat) (hn : Big n) : SzOk tStewCopy (fun x left => laws_szStewCopy.f n (x, left, ())) := by
  intro x hw
  have e : (fun left => laws_szStewCopy.f n (x, left, ())) = fun left => szStr (ByteArray.size x.1) left fun left => szStr (ByteArray.size x.2.2.2.2.2.2.1) left fun left => some (left, ()) := by kernel_rfl
  show KOk (fun left => laws_szStewCopy.f n (x, left, ())) _
  rw [e]
  exact KOk.congr (szStr_ok (s := ByteArray.size x.1) hw.1 (szStr_ok (s := ByteArray.size x.2.2.2.2.2.2.1) hw.2.2.2.2.2.2.1 szEnd_ok)) (by first | (simp only [bulk]; done) | (simp only [bulk]; omega))
theorem laws_szStewCopyS_ok (n : Nat) (hn : Big n) : SzOk (.slice tStewCopy) (fun l left => laws_szStewCopyS.f n (l, left, ())) := patSzS_ok (g := fun x left => laws_szStewCopy.f n (x, left, ())) (z := Ty.zero tStewCopy) (laws_szStewCopy_ok n hn) hn
theorem laws_szStewBerth_ok (n : Nat) (hn : Big n) : SzOk tStewBerth (fun x left => laws_szStewBerth.f n (x, left, ())) := by
  intro x hw
  have e : (fun left => laws_szStewBerth.f n (x, left, ())) = fun left => szStr (ByteArray.size x.1) left fun left => some (left, ()) := by kernel_rfl
  show KOk (fun left => laws_szStewBerth.f n (x, left, ())) _
  rw [e]
  exact KOk.congr (szStr_ok (s := ByteArray.size x.1) hw.1 szEnd_ok) (by first | (simp only [bulk]; done) | (simp only [bulk]; omega))
theorem laws_szStewBerthS_ok (n : Nat) (hn : Big n) : SzOk (.slice tStewBerth) (fun l left => laws_szStewBerthS.f n (l, left, ())) := patSzS_ok (g := fun x left => laws_szStewBerth.f n (x, left, ())) (z := Ty.zero tStewBerth) (laws_szStewBerth_ok n hn) hn
theorem laws_szStewBook_ok (n : Nat) (hn : Big n) : SzOk tStewBook (fun x left => laws_szStewBook.f n (x, left, ())) := by
  intro x hw
  have e : (fun left => laws_szStewBook.f n (x, left, ())) = fun left => szCall (laws_szStewServiceS.f n (x.2.1, left, ())) fun left => szCall (laws_szStewCopyS.f n (x.2.2.1, left, ())) fun left => szCall (laws_szStewBerthS.f n (x.2.2.2.1, left, ())) fun left => some (left, ()) := by kernel_rfl
  show KOk (fun left => laws_szStewBook.f n (x, left, ())) _
  rw [e]
  exact KOk.congr (szCall_ok (laws_szStewServiceS_ok n hn _ hw.2.1) (szCall_ok (laws_szStewCopyS_ok n hn _ hw.2.2.1) (szCall_ok (laws_szStewBerthS_ok n hn _ hw.2.2.2.1) szEnd_ok))) (by first | (simp only [bulk]; done) | (simp only [bulk]; omega))
theorem laws_toStewService_ok (n : Nat) (hn : Big n) (x : Ty.den tStewService) (h : small 1048576 tStewService x) : laws_toStewService.f n (x, ()) = some (x, ()) := rfl
theorem laws_toStewServiceS_ok (n : Nat) (hn : Big n) (x : Ty.den (.slice tStewService)) (h : small 1048576 (.slice tStewService) x) : laws_toStewServiceS.f n (x, ()) = some (x, ()) := patToS_ok (z := (Ty.zero tStewService)) (g := fun x => laws_toStewService.f n (x, ())) (fun x hx => laws_toStewService_ok n hn x (h.2 x hx)) h.1 (by decide) (by decide) hn
theorem laws_toStewCopy_ok (n : Nat) (hn : Big n) (x : Ty.den tStewCopy) (h : small 1048576 tStewCopy x) : laws_toStewCopy.f n (x, ()) = some (x, ()) := rfl
theorem laws_toStewCopyS_ok (n : Nat) (hn : Big n) (x : Ty.den (.slice tStewCopy)) (h : small 1048576 (.slice tStewCopy) x) : laws_toStewCopyS.f n (x, ()) = some (x, ()) := patToS_ok (z := (Ty.zero tStewCopy)) (g := fun x => laws_toStewCopy.f n (x, ())) (fun x hx => laws_toStewCopy_ok n hn x (h.2 x hx)) h.1 (by decide) (by decide) hn
theorem laws_toStewBerth_ok (n : Nat) (hn : Big n) (x : Ty.den tStewBerth) (h : small 1048576 tStewBerth x) : laws_toStewBerth.f n (x, ()) = some (x, ()) := rfl
theorem laws_toStewBerthS_ok (n : Nat) (hn : Big n) (x : Ty.den (.slice tStewBerth)) (h : small 1048576 (.slice tStewBerth) x) : laws_toStewBerthS.f n (x, ()) = some (x, ()) := patToS_ok (z := (Ty.zero tStewBerth)) (g := fun x => laws_toStewBerth.f n (x, ())) (fun x hx => laws_toStewBerth_ok n hn x (h.2 x hx)) h.1 (by decide) (by decide) hn
theorem laws_toStewBook_ok (n : Nat) (hn : Big n) (x : Ty.den tStewBook) (h : small 1048576 tStewBook x) : laws_toStewBook.f n (x, ()) = some (x, ()) := by
  first | (simp only [laws_toStewBook.f, laws_toStewServiceS_ok n hn _ h.2.1, laws_toStewCopyS_ok n hn _ h.2.2.1, laws_toStewBerthS_ok n hn _ h.2.2.2.1, Option.bind_some]; done) | (simp only [laws_toStewBook.f, laws_toStewServiceS_ok n hn _ h.2.1, laws_toStewCopyS_ok n hn _ h.2.2.1, laws_toStewBerthS_ok n hn _ h.2.2.2.1, Option.bind_some]; rfl)
theorem laws_eqIntS_ok (n : Nat) (hn : Big n) (x : Tup [.slice (.int .i64), .slice (.int .i64)]) (h : small 1048576 (.slice (.int .i64)) x.1) : laws_eqIntS.f n x = some (eqD (.slice (.int .i64)) x.1 x.2.1, ()) := patEqS_ok (e := (.int .i64)) (z := (0 : Int)) (g := fun x y => some (eqD (.int .i64) x y, ())) (fun x _ y => rfl) h.1 hn
theorem laws_eqStewService_ok (n : Nat) (hn : Big n) (x : Tup [tStewService, tStewService]) (h : small 1048576 tStewService x.1) : laws_eqStewService.f n x = some (eqD tStewService x.1 x.2.1, ()) :=
  (eqLeaf_not (seq x.1.1 x.2.1.1) (eqLeaf_not ((x.1.2.1 == x.2.1.2.1)) (eqLeaf_not ((x.1.2.2.1 == x.2.1.2.2.1)) (eqLeaf_not ((x.1.2.2.2.1 == x.2.1.2.2.2.1)) (eqLeaf_not ((x.1.2.2.2.2.1 == x.2.1.2.2.2.2.1)) (eqLeaf_not ((x.1.2.2.2.2.2.1 == x.2.1.2.2.2.2.2.1)) (eqLeaf_not ((x.1.2.2.2.2.2.2.1 == x.2.1.2.2.2.2.2.2.1)) (eqLeaf_not ((x.1.2.2.2.2.2.2.2.1 == x.2.1.2.2.2.2.2.2.2.1)) (eqLeaf_not ((x.1.2.2.2.2.2.2.2.2.1 == x.2.1.2.2.2.2.2.2.2.2.1)) (eqLeaf_not ((x.1.2.2.2.2.2.2.2.2.2.1 == x.2.1.2.2.2.2.2.2.2.2.2.1)) (eqLeaf_not ((x.1.2.2.2.2.2.2.2.2.2.2.1 == x.2.1.2.2.2.2.2.2.2.2.2.2.1)) (eqLeaf_not ((x.1.2.2.2.2.2.2.2.2.2.2.2.1 == x.2.1.2.2.2.2.2.2.2.2.2.2.2.1)) (eqLeaf_not ((x.1.2.2.2.2.2.2.2.2.2.2.2.2.1 == x.2.1.2.2.2.2.2.2.2.2.2.2.2.2.1)) rfl)))))))))))))
theorem laws_eqStewServiceS_ok (n : Nat) (hn : Big n) (x : Tup [.slice tStewService, .slice tStewService]) (h : small 1048576 (.slice tStewService) x.1) : laws_eqStewServiceS.f n x = some (eqD (.slice tStewService) x.1 x.2.1, ()) := patEqS_ok (e := tStewService) (z := (Ty.zero tStewService)) (g := fun x y => laws_eqStewService.f n (x, y, ())) (fun x hx y => laws_eqStewService_ok n hn (x, y, ()) (h.2 x hx)) h.1 hn
theorem laws_eqStewCopy_ok (n : Nat) (hn : Big n) (x : Tup [tStewCopy, tStewCopy]) (h : small 1048576 tStewCopy x.1) : laws_eqStewCopy.f n x = some (eqD tStewCopy x.1 x.2.1, ()) :=
  (eqLeaf_not (seq x.1.1 x.2.1.1) (eqLeaf_not ((x.1.2.1 == x.2.1.2.1)) (eqLeaf_not ((x.1.2.2.1 == x.2.1.2.2.1)) (eqLeaf_not ((x.1.2.2.2.1 == x.2.1.2.2.2.1)) (eqLeaf_not ((x.1.2.2.2.2.1 == x.2.1.2.2.2.2.1)) (eqLeaf_not ((x.1.2.2.2.2.2.1 == x.2.1.2.2.2.2.2.1)) (eqLeaf_not (seq x.1.2.2.2.2.2.2.1 x.2.1.2.2.2.2.2.2.1) rfl)))))))
theorem laws_eqStewCopyS_ok (n : Nat) (hn : Big n) (x : Tup [.slice tStewCopy, .slice tStewCopy]) (h : small 1048576 (.slice tStewCopy) x.1) : laws_eqStewCopyS.f n x = some (eqD (.slice tStewCopy) x.1 x.2.1, ()) := patEqS_ok (e := tStewCopy) (z := (Ty.zero tStewCopy)) (g := fun x y => laws_eqStewCopy.f n (x, y, ())) (fun x hx y => laws_eqStewCopy_ok n hn (x, y, ()) (h.2 x hx)) h.1 hn
theorem laws_eqStewBerth_ok (n : Nat) (hn : Big n) (x : Tup [tStewBerth, tStewBerth]) (h : small 1048576 tStewBerth x.1) : laws_eqStewBerth.f n x = some (eqD tStewBerth x.1 x.2.1, ()) :=
  (eqLeaf_not (seq x.1.1 x.2.1.1) (eqLeaf_not ((x.1.2.1 == x.2.1.2.1)) rfl))
theorem laws_eqStewBerthS_ok (n : Nat) (hn : Big n) (x : Tup [.slice tStewBerth, .slice tStewBerth]) (h : small 1048576 (.slice tStewBerth) x.1) : laws_eqStewBerthS.f n x = some (eqD (.slice tStewBerth) x.1 x.2.1, ()) := patEqS_ok (e := tStewBerth) (z := (Ty.zero tStewBerth)) (g := fun x y => laws_eqStewBerth.f n (x, y, ())) (fun x hx y => laws_eqStewBerth_ok n hn (x, y, ()) (h.2 x hx)) h.1 hn
theorem laws_eqStewBook_ok (n : Nat) (hn : Big n) (x : Tup [tStewBook, tStewBook]) (h : small 1048576 tStewBook x.1) : laws_eqStewBook.f n x = some (eqD tStewBook x.1 x.2.1, ()) :=
  (eqLeaf_not ((x.1.1 == x.2.1.1)) (eqCall_ok (laws_eqStewServiceS_ok n hn _ h.2.1) (eqCall_ok (laws_eqStewCopyS_ok n hn _ h.2.2.1) (eqCall_ok (laws_eqStewBerthS_ok n hn _ h.2.2.2.1) rfl))))
theorem laws_markText_ok (n : Nat) (hn : Big n) (k : Int) (hk : 1 ≤ k) (hw : k ≤ 4611686018427387904) : ∃ s, laws_markText.f n (k, ()) = some (s, ()) := by
  have hn : 18446744073709551616 ≤ n := hn
  obtain ⟨m, rfl⟩ : ∃ m : Nat, k = m := ⟨k.toNat, by omega⟩
  unfold laws_markText.f
  rw [if_neg (by rw [decide_eq_true_eq]; show ¬ ((m : Int) ≤ 0); omega)]
  obtain ⟨t, ht, hr⟩ := markText_run (B := laws_markText.B4 n) (cs := ((fun z1 => if (decide ((ByteArray.size (⟨#[109]⟩ : ByteArray) : Int) + (ByteArray.size z1.1 : Int) ≤ 9223372036854775807)) = true then some ((scat (⟨#[109]⟩ : ByteArray) z1.1), ()) else none), ())) (dn := fun s => if (decide ((ByteArray.size (⟨#[109]⟩ : ByteArray) : Int) + (ByteArray.size s : Int) ≤ 9223372036854775807)) = true then some ((scat (⟨#[109]⟩ : ByteArray) s), ()) else none)
    (fun next s => by simp only [laws_markText.B4, show decide ((0 : Int) > 0) = false from rfl, Bool.false_eq_true, if_false])
    (fun next k s h1 h2 => ⟨_, (scat_size _ s).trans (by rw [ofBytes_one]; omega), by
      simp only [laws_markText.B4]
      rw [if_pos (decide_eq_true (show k > 0 by omega)), if_pos (by decide), if_pos (decide_eq_true (by rw [ofBytes_one]; show ((1 : Nat) : Int) + (ByteArray.size s : Int) ≤ 9223372036854775807; omega)), if_pos (by decide), wrapM (Int.tdiv_nonneg (by omega) (by omega)) (by rw [Int.tdiv_eq_ediv_of_nonneg (by omega)]; omega)]⟩)
    n m (⟨#[]⟩ : ByteArray) (by have : ByteArray.size (⟨#[]⟩ : ByteArray) = 0 := rfl; omega) (by omega)
  have h0 : ByteArray.size (⟨#[]⟩ : ByteArray) = 0 := rfl
  have h9 : ByteArray.size (⟨#[109]⟩ : ByteArray) = 1 := rfl
  exact ⟨_, hr.trans (if_pos (decide_eq_true (by rw [h9]; omega)))⟩
theorem laws_markStewServiceS_el (n : Nat) (hn : Big n) {R1 : Type} (cs1 : Conts R1 laws_markStewServiceS.l2.outs) : ElOk1 tStewService (laws_markStewServiceS.B2 n (R := R1)) cs1 := by
  intro x k hk hw
  simp only [wt_pair, wt_unit, wt_int, wt_bool, wt_str] at hw
  obtain ⟨t1, m1⟩ := laws_markText_ok n hn k (by omega) (by omega)
  refine ⟨(t1, ((k + 1), ((Int.tmod ((k + 1) + 1) (3 : Int) == (0 : Int)), ((((k + 1) + 1) + 1), (((((k + 1) + 1) + 1) + 1), ((((((k + 1) + 1) + 1) + 1) + 1), (((((((k + 1) + 1) + 1) + 1) + 1) + 1), ((((((((k + 1) + 1) + 1) + 1) + 1) + 1) + 1), (((((((((k + 1) + 1) + 1) + 1) + 1) + 1) + 1) + 1), ((((((((((k + 1) + 1) + 1) + 1) + 1) + 1) + 1) + 1) + 1), (((((((((((k + 1) + 1) + 1) + 1) + 1) + 1) + 1) + 1) + 1) + 1), ((((((((((((k + 1) + 1) + 1) + 1) + 1) + 1) + 1) + 1) + 1) + 1) + 1), (((((((((((((k + 1) + 1) + 1) + 1) + 1) + 1) + 1) + 1) + 1) + 1) + 1) + 1), x.2.2.2.2.2.2.2.2.2.2.2.2.2))))))))))))), (((((((((((((k + 1) + 1) + 1) + 1) + 1) + 1) + 1) + 1) + 1) + 1) + 1) + 1) + 1), by omega, by simp only [wt_pair, wt_unit, wt_int, wt_bool, wt_str]; omega, fun next l i hi hl hx => ?_⟩
  · simp (disch := omega) only [laws_markStewServiceS.B2, m1, wrapM, lt_dec hi, in_dec hi, Int.toNat_natCast, List.length_set, getD_set_at hi, List.set_set, hx, Option.bind_some, Bool.or_true, Bool.not_true, Bool.not_false, bne_self_eq_false, beq_self_eq_true, seq_same, Bool.false_eq_true, if_true, if_false, show ((3 : Int) != 0) = true from rfl, Bool.true_and, Bool.and_true]
theorem laws_markStewServiceS_ok (n : Nat) (hn : Big n) (x : Ty.den (.slice tStewService)) (k : Int) (hk : 1 ≤ k) (hw : k + wt (.slice tStewService) x ≤ 4611686018427387904) : ∃ (s1 : Ty.den (.slice tStewService)) (k' : Int), k ≤ k' ∧ k' ≤ k + wt (.slice tStewService) x ∧ laws_markStewServiceS.f n x (k, ()) = some (s1, k', ()) :=
  markS1_ok hn (laws_markStewServiceS_el n hn _) (fun next l k => by simp only [laws_markStewServiceS.B2, lt_dec', Bool.false_eq_true, if_false]) x k hk hw
theorem laws_markStewCopyS_el (n : Nat) (hn : Big n) {R1 : Type} (cs1 : Conts R1 laws_markStewCopyS.l2.outs) : ElOk1 tStewCopy (laws_markStewCopyS.B2 n (R := R1)) cs1 := by
  intro x k hk hw
  simp only [wt_pair, wt_unit, wt_int, wt_bool, wt_str] at hw
  obtain ⟨t1, m1⟩ := laws_markText_ok n hn k (by omega) (by omega)
  obtain ⟨t2, m2⟩ := laws_markText_ok n hn ((((((k + 1) + 1) + 1) + 1) + 1) + 1) (by omega) (by omega)
  refine ⟨(t1, ((k + 1), (((k + 1) + 1), ((((k + 1) + 1) + 1), (((((k + 1) + 1) + 1) + 1), ((Int.tmod (((((k + 1) + 1) + 1) + 1) + 1) (3 : Int) == (0 : Int)), (t2, x.2.2.2.2.2.2.2))))))), (((((((k + 1) + 1) + 1) + 1) + 1) + 1) + 1), by omega, by simp only [wt_pair, wt_unit, wt_int, wt_bool, wt_str]; omega, fun next l i hi hl hx => ?_⟩
  · simp (disch := omega) only [laws_markStewCopyS.B2, m1, m2, wrapM, lt_dec hi, in_dec hi, Int.toNat_natCast, List.length_set, getD_set_at hi, List.set_set, hx, Option.bind_some, Bool.or_true, Bool.not_true, Bool.not_false, bne_self_eq_false, beq_self_eq_true, seq_same, Bool.false_eq_true, if_true, if_false, show ((3 : Int) != 0) = true from rfl, Bool.true_and, Bool.and_true]
theorem laws_markStewCopyS_ok (n : Nat) (hn : Big n) (x : Ty.den (.slice tStewCopy)) (k : Int) (hk : 1 ≤ k) (hw : k + wt (.slice tStewCopy) x ≤ 4611686018427387904) : ∃ (s1 : Ty.den (.slice tStewCopy)) (k' : Int), k ≤ k' ∧ k' ≤ k + wt (.slice tStewCopy) x ∧ laws_markStewCopyS.f n x (k, ()) = some (s1, k', ()) :=
  markS1_ok hn (laws_markStewCopyS_el n hn _) (fun next l k => by simp only [laws_markStewCopyS.B2, lt_dec', Bool.false_eq_true, if_false]) x k hk hw
theorem laws_markStewBerthS_el (n : Nat) (hn : Big n) {R1 : Type} (cs1 : Conts R1 laws_markStewBerthS.l2.outs) : ElOk1 tStewBerth (laws_markStewBerthS.B2 n (R := R1)) cs1 := by
  intro x k hk hw
  simp only [wt_pair, wt_unit, wt_int, wt_bool, wt_str] at hw
  obtain ⟨t1, m1⟩ := laws_markText_ok n hn k (by omega) (by omega)
  refine ⟨(t1, ((Int.tmod (k + 1) (3 : Int) == (0 : Int)), x.2.2)), ((k + 1) + 1), by omega, by simp only [wt_pair, wt_unit, wt_int, wt_bool, wt_str]; omega, fun next l i hi hl hx => ?_⟩
  · simp (disch := omega) only [laws_markStewBerthS.B2, m1, wrapM, lt_dec hi, in_dec hi, Int.toNat_natCast, List.length_set, getD_set_at hi, List.set_set, hx, Option.bind_some, Bool.or_true, Bool.not_true, Bool.not_false, bne_self_eq_false, beq_self_eq_true, seq_same, Bool.false_eq_true, if_true, if_false, show ((3 : Int) != 0) = true from rfl, Bool.true_and, Bool.and_true]
theorem laws_markStewBerthS_ok (n : Nat) (hn : Big n) (x : Ty.den (.slice tStewBerth)) (k : Int) (hk : 1 ≤ k) (hw : k + wt (.slice tStewBerth) x ≤ 4611686018427387904) : ∃ (s1 : Ty.den (.slice tStewBerth)) (k' : Int), k ≤ k' ∧ k' ≤ k + wt (.slice tStewBerth) x ∧ laws_markStewBerthS.f n x (k, ()) = some (s1, k', ()) :=
  markS1_ok hn (laws_markStewBerthS_el n hn _) (fun next l k => by simp only [laws_markStewBerthS.B2, lt_dec', Bool.false_eq_true, if_false]) x k hk hw
theorem laws_markStewBook_ok (n : Nat) (hn : Big n) (x : Ty.den tStewBook) (k : Int) (hk : 1 ≤ k) (hw : k + wt tStewBook x ≤ 4611686018427387904) : ∃ (s1 : Ty.den (.slice tStewService)) (s2 : Ty.den (.slice tStewCopy)) (s3 : Ty.den (.slice tStewBerth)) (k' : Int), k ≤ k' ∧ k' ≤ k + wt tStewBook x ∧ laws_markStewBook.f n x (k, ()) = some ((x.1, (s1, (s2, (s3, x.2.2.2.2)))), k', ()) := by
  have hw0 := hw
  simp only [wt_pair, wt_unit, wt_int, wt_bool, wt_str] at hw
  obtain ⟨s1, k1, p1, q1, m1⟩ := laws_markStewServiceS_ok n hn x.2.1 k (by omega) (by first | omega | (simp only [wt_pair, wt_unit, wt_int, wt_bool, wt_str]; omega))
  try simp only [wt_pair, wt_unit, wt_int, wt_bool, wt_str] at q1
  obtain ⟨s2, k2, p2, q2, m2⟩ := laws_markStewCopyS_ok n hn x.2.2.1 k1 (by omega) (by first | omega | (simp only [wt_pair, wt_unit, wt_int, wt_bool, wt_str]; omega))
  try simp only [wt_pair, wt_unit, wt_int, wt_bool, wt_str] at q2
  obtain ⟨s3, k3, p3, q3, m3⟩ := laws_markStewBerthS_ok n hn x.2.2.2.1 k2 (by omega) (by first | omega | (simp only [wt_pair, wt_unit, wt_int, wt_bool, wt_str]; omega))
  try simp only [wt_pair, wt_unit, wt_int, wt_bool, wt_str] at q3
  refine ⟨s1, s2, s3, k3, by omega, by first | omega | (simp only [wt_pair, wt_unit, wt_int, wt_bool, wt_str]; omega), by simp only [laws_markStewBook.f, m1, m2, m3, Option.bind_some]⟩
theorem laws_markIntS_el (n : Nat) (hn : Big n) {R1 R2 : Type} (cs1 : Conts R1 laws_markIntS.l2.outs) (cs2 : Conts R2 laws_heldIntS.l2.outs) : ElOk (.int .i64) (laws_markIntS.B2 n (R := R1)) cs1 (laws_heldIntS.B2 n (R := R2)) cs2 := by
  intro x k hk hw
  simp only [wt_pair, wt_unit, wt_int, wt_bool, wt_str] at hw
  refine ⟨k, (k + 1), by omega, by simp only [wt_pair, wt_unit, wt_int, wt_bool, wt_str]; omega, fun next l i hi hl hx => ?_, fun next l i hi hl hx => ?_⟩
  · simp (disch := omega) only [laws_markIntS.B2, wrapM, lt_dec hi, in_dec hi, Int.toNat_natCast, List.length_set, getD_set_at hi, List.set_set, hx, Option.bind_some, Bool.or_true, Bool.not_true, Bool.not_false, bne_self_eq_false, beq_self_eq_true, seq_same, Bool.false_eq_true, if_true, if_false, show ((3 : Int) != 0) = true from rfl, Bool.true_and, Bool.and_true]
  · simp (disch := omega) only [laws_heldIntS.B2, wrapM, lt_dec hi, in_dec hi, Int.toNat_natCast, List.length_set, getD_set_at hi, List.set_set, hx, Option.bind_some, Bool.or_true, Bool.not_true, Bool.not_false, bne_self_eq_false, beq_self_eq_true, seq_same, Bool.false_eq_true, if_true, if_false, show ((3 : Int) != 0) = true from rfl, Bool.true_and, Bool.and_true]
theorem laws_markIntS_ok (n : Nat) (hn : Big n) (x : Ty.den (.slice (.int .i64))) (k : Int) (hk : 1 ≤ k) (hw : k + wt (.slice (.int .i64)) x ≤ 4611686018427387904) : ∃ (s1 : Ty.den (.slice (.int .i64))) (k' : Int), k ≤ k' ∧ k' ≤ k + wt (.slice (.int .i64)) x ∧ laws_markIntS.f n x (k, ()) = some (s1, k', ()) ∧ laws_heldIntS.f n (s1, k, ()) = some (k', ()) :=
  markS_ok hn (laws_markIntS_el n hn _ _) (fun next l k => by simp only [laws_markIntS.B2, lt_dec', Bool.false_eq_true, if_false]) (fun next l k => by simp only [laws_heldIntS.B2, lt_dec', Bool.false_eq_true, if_false]) x k hk hw
end Go.Proofs.Ytjbpccinpcpdkae
