import Derived.Test.YtjbpccinpcpdkaaF0
import Derived.Test.YtjbpccinpcpdkaaM2
set_option linter.unusedVariables false
set_option linter.unusedSimpArgs false
namespace Go.Proofs.Ytjbpccinpcpdkaa
open Go.Vm
theorem laws_szRecSlot_ok (n : Nat) (hn : Big n) : SzOk tRecSlot (fun x left => laws_szRecSlot.f n (x, left, ())) := by
  intro x hw
  have e : (fun left => laws_szRecSlot.f n (x, left, ())) = fun left => szStr (ByteArray.size x.2.1) left fun left => some (left, ()) := by kernel_rfl
  show KOk (fun left => laws_szRecSlot.f n (x, left, ())) _
  rw [e]
  exact KOk.congr (szStr_ok (s := ByteArray.size x.2.1) hw.2.1 szEnd_ok) (by first | (simp only [bulk]; done) | (simp only [bulk]; omega))
theorem laws_szRecSlotS_ok (n : Nat) (hn : Big n) : SzOk (.slice tRecSlot) (fun l left => laws_szRecSlotS.f n (l, left, ())) := patSzS_ok (g := fun x left => laws_szRecSlot.f n (x, left, ())) (z := Ty.zero tRecSlot) (laws_szRecSlot_ok n hn) hn
theorem laws_toRecSlot_ok (n : Nat) (hn : Big n) (x : Ty.den tRecSlot) (h : small 1048576 tRecSlot x) : laws_toRecSlot.f n (x, ()) = some (x, ()) := rfl
theorem laws_toRecSlotS_ok (n : Nat) (hn : Big n) (x : Ty.den (.slice tRecSlot)) (h : small 1048576 (.slice tRecSlot) x) : laws_toRecSlotS.f n (x, ()) = some (x, ()) := patToS_ok (z := (Ty.zero tRecSlot)) (g := fun x => laws_toRecSlot.f n (x, ())) (fun x hx => laws_toRecSlot_ok n hn x (h.2 x hx)) h.1 (by decide) (by decide) hn
theorem laws_eqRecSlot_ok (n : Nat) (hn : Big n) (x : Tup [tRecSlot, tRecSlot]) (h : small 1048576 tRecSlot x.1) : laws_eqRecSlot.f n x = some (eqD tRecSlot x.1 x.2.1, ()) :=
  (eqLeaf_not ((x.1.1 == x.2.1.1)) (eqLeaf_not (seq x.1.2.1 x.2.1.2.1) rfl))
theorem laws_eqRecSlotS_ok (n : Nat) (hn : Big n) (x : Tup [.slice tRecSlot, .slice tRecSlot]) (h : small 1048576 (.slice tRecSlot) x.1) : laws_eqRecSlotS.f n x = some (eqD (.slice tRecSlot) x.1 x.2.1, ()) := patEqS_ok (e := tRecSlot) (z := (Ty.zero tRecSlot)) (g := fun x y => laws_eqRecSlot.f n (x, y, ())) (fun x hx y => laws_eqRecSlot_ok n hn (x, y, ()) (h.2 x hx)) h.1 hn
theorem laws_markText_ok (n : Nat) (hn : Big n) (k : Int) (hk : 1 ≤ k) (hw : k ≤ 4611686018427387904) : ∃ s, laws_markText.f n (k, ()) = some (s, ()) := by
  have hn : 18446744073709551616 ≤ n := hn
  obtain ⟨m, rfl⟩ : ∃ m : Nat, k = m := ⟨k.toNat, by omega⟩
  unfold laws_markText.f
  rw [if_neg (by rw [decide_eq_true_eq]; show ¬ ((m : Int) ≤ 0); omega)]
  obtain ⟨t, ht, hr⟩ := markText_run (B := laws_markText.B4 n) (cs := ((fun z1 => if (decide ((ByteArray.size (⟨#[109]⟩ : ByteArray) : Int) + (ByteArray.size z1.1 : Int) ≤ 9223372036854775807)) = true then some ((scat (⟨#[109]⟩ : ByteArray) z1.1), ()) else none), ())) (dn := fun s => if (decide ((ByteArray.size (⟨#[109]⟩ : ByteArray) : Int) + (ByteArray.size s : Int) ≤ 9223372036854775807)) = true then some ((scat (⟨#[109]⟩ : ByteArray) s), ()) else none)
    (fun next s => by simp only [laws_markText.B4, show decide ((0 : Int) > 0) = false from rfl, Bool.false_eq_true, if_false])
    (fun next k s h1 h2 => ⟨_, (scat_size _ s).trans (by rw [ofBytes_one]; omega), by
      simp only [laws_markText.B4]
      rw [if_pos (decide_eq_true (show k > 0 by omega)), if_pos (by decide), if_pos (decide_eq_true (by rw [ofBytes_one]; show ((1 : Nat) : Int) + (ByteArray.size s : Int) ≤ 9223372036854775807; omega)), if_pos (by decide), wrapM (Int.tdiv_nonneg (by omega) (by omega)) (by rw [Int.tdiv_eq_ediv_of_nonneg (by omega)]; omega)]⟩)
    n m (⟨#[]⟩ : ByteArray) (by have : ByteArray.size (⟨#[]⟩ : ByteArray) = 0 := rfl; omega) (by omega)
  have h0 : ByteArray.size (⟨#[]⟩ : ByteArray) = 0 := rfl
  have h9 : ByteArray.size (⟨#[109]⟩ : ByteArray) = 1 := rfl
  exact ⟨_, hr.trans (if_pos (decide_eq_true (by rw [h9]; omega)))⟩
theorem laws_markRecSlotS_el (n : Nat) (hn : Big n) {R1 R2 : Type} (cs1 : Conts R1 laws_markRecSlotS.l2.outs) (cs2 : Conts R2 laws_heldRecSlotS.l2.outs) : ElOk tRecSlot (laws_markRecSlotS.B2 n (R := R1)) cs1 (laws_heldRecSlotS.B2 n (R := R2)) cs2 := by
  intro x k hk hw
  simp only [wt_pair, wt_unit, wt_int, wt_bool, wt_str] at hw
  obtain ⟨t1, m1⟩ := laws_markText_ok n hn (k + 1) (by omega) (by omega)
  refine ⟨(k, (t1, x.2.2)), ((k + 1) + 1), by omega, by simp only [wt_pair, wt_unit, wt_int, wt_bool, wt_str]; omega, fun next l i hi hl hx => ?_, fun next l i hi hl hx => ?_⟩
  · simp (disch := omega) only [laws_markRecSlotS.B2, m1, wrapM, lt_dec hi, in_dec hi, Int.toNat_natCast, List.length_set, getD_set_at hi, List.set_set, hx, Option.bind_some, Bool.or_true, Bool.not_true, Bool.not_false, bne_self_eq_false, beq_self_eq_true, seq_same, Bool.false_eq_true, if_true, if_false, show ((3 : Int) != 0) = true from rfl, Bool.true_and, Bool.and_true]
  · simp (disch := omega) only [laws_heldRecSlotS.B2, m1, wrapM, lt_dec hi, in_dec hi, Int.toNat_natCast, List.length_set, getD_set_at hi, List.set_set, hx, Option.bind_some, Bool.or_true, Bool.not_true, Bool.not_false, bne_self_eq_false, beq_self_eq_true, seq_same, Bool.false_eq_true, if_true, if_false, show ((3 : Int) != 0) = true from rfl, Bool.true_and, Bool.and_true]
theorem laws_markRecSlotS_ok (n : Nat) (hn : Big n) (x : Ty.den (.slice tRecSlot)) (k : Int) (hk : 1 ≤ k) (hw : k + wt (.slice tRecSlot) x ≤ 4611686018427387904) : ∃ (s1 : Ty.den (.slice tRecSlot)) (k' : Int), k ≤ k' ∧ k' ≤ k + wt (.slice tRecSlot) x ∧ laws_markRecSlotS.f n x (k, ()) = some (s1, k', ()) ∧ laws_heldRecSlotS.f n (s1, k, ()) = some (k', ()) :=
  markS_ok hn (laws_markRecSlotS_el n hn _ _) (fun next l k => by simp only [laws_markRecSlotS.B2, lt_dec', Bool.false_eq_true, if_false]) (fun next l k => by simp only [laws_heldRecSlotS.B2, lt_dec', Bool.false_eq_true, if_false]) x k hk hw
end Go.Proofs.Ytjbpccinpcpdkaa
