import Derived.Test.YtjbpccinpcpdkacF0
import Derived.Test.YtjbpccinpcpdkacM2
set_option linter.unusedVariables false
set_option linter.unusedSimpArgs false
namespace Go.Proofs.Ytjbpccinpcpdkac
open Go.Vm
theorem laws_eqRecSlot_ok (n : Nat) (hn : Big n) (x : Tup [tRecSlot, tRecSlot]) (h : small 1048576 tRecSlot x.1) : laws_eqRecSlot.f n x = some (eqD tRecSlot x.1 x.2.1, ()) :=
  (eqLeaf_not ((x.1.1 == x.2.1.1)) (eqLeaf_not (seq x.1.2.1 x.2.1.2.1) rfl))
theorem laws_eqRecSlotS_ok (n : Nat) (hn : Big n) (x : Tup [.slice tRecSlot, .slice tRecSlot]) (h : small 1048576 (.slice tRecSlot) x.1) : laws_eqRecSlotS.f n x = some (eqD (.slice tRecSlot) x.1 x.2.1, ()) := patEqS_ok (e := tRecSlot) (z := (Ty.zero tRecSlot)) (g := fun x y => laws_eqRecSlot.f n (x, y, ())) (fun x hx y => laws_eqRecSlot_ok n hn (x, y, ()) (h.2 x hx)) h.1 hn
theorem laws_eqRecDisk_ok (n : Nat) (hn : Big n) (x : Tup [tRecDisk, tRecDisk]) (h : small 1048576 tRecDisk x.1) : laws_eqRecDisk.f n x = some (eqD tRecDisk x.1 x.2.1, ()) :=
  (eqLeaf_not ((x.1.1 == x.2.1.1)) (eqLeaf_not ((x.1.2.1 == x.2.1.2.1)) (eqCall_ok (laws_eqRecSlotS_ok n hn _ h.2.2.1) rfl)))
theorem laws_eqRecMessage_ok (n : Nat) (hn : Big n) (x : Tup [tRecMessage, tRecMessage]) (h : small 1048576 tRecMessage x.1) : laws_eqRecMessage.f n x = some (eqD tRecMessage x.1 x.2.1, ()) :=
  (eqLeaf_not ((x.1.1 == x.2.1.1)) (eqLeaf_not ((x.1.2.1 == x.2.1.2.1)) (eqLeaf_not ((x.1.2.2.1 == x.2.1.2.2.1)) (eqLeaf_not ((x.1.2.2.2.1 == x.2.1.2.2.2.1)) (eqLeaf_not ((x.1.2.2.2.2.1 == x.2.1.2.2.2.2.1)) (eqLeaf_not ((x.1.2.2.2.2.2.1 == x.2.1.2.2.2.2.2.1)) (eqLeaf_not (seq x.1.2.2.2.2.2.2.1 x.2.1.2.2.2.2.2.2.1) (eqCall_ok (laws_eqRecSlotS_ok n hn _ h.2.2.2.2.2.2.2.1) rfl))))))))
theorem laws_eqRecMessageS_ok (n : Nat) (hn : Big n) (x : Tup [.slice tRecMessage, .slice tRecMessage]) (h : small 1048576 (.slice tRecMessage) x.1) : laws_eqRecMessageS.f n x = some (eqD (.slice tRecMessage) x.1 x.2.1, ()) := patEqS_ok (e := tRecMessage) (z := (Ty.zero tRecMessage)) (g := fun x y => laws_eqRecMessage.f n (x, y, ())) (fun x hx y => laws_eqRecMessage_ok n hn (x, y, ()) (h.2 x hx)) h.1 hn
theorem laws_eqStringS_ok (n : Nat) (hn : Big n) (x : Tup [.slice .str, .slice .str]) (h : small 1048576 (.slice .str) x.1) : laws_eqStringS.f n x = some (eqD (.slice .str) x.1 x.2.1, ()) := patEqS_ok (e := .str) (z := (⟨#[]⟩ : ByteArray)) (g := fun x y => some (eqD .str x y, ())) (fun x _ y => rfl) h.1 hn
theorem laws_eqIntS_ok (n : Nat) (hn : Big n) (x : Tup [.slice (.int .i64), .slice (.int .i64)]) (h : small 1048576 (.slice (.int .i64)) x.1) : laws_eqIntS.f n x = some (eqD (.slice (.int .i64)) x.1 x.2.1, ()) := patEqS_ok (e := (.int .i64)) (z := (0 : Int)) (g := fun x y => some (eqD (.int .i64) x y, ())) (fun x _ y => rfl) h.1 hn
theorem laws_eqRecAck_ok (n : Nat) (hn : Big n) (x : Tup [tRecAck, tRecAck]) (h : small 1048576 tRecAck x.1) : laws_eqRecAck.f n x = some (eqD tRecAck x.1 x.2.1, ()) :=
  (eqLeaf_not ((x.1.1 == x.2.1.1)) (eqCall_ok (laws_eqIntS_ok n hn _ h.2.1) rfl))
theorem laws_eqRecAckS_ok (n : Nat) (hn : Big n) (x : Tup [.slice tRecAck, .slice tRecAck]) (h : small 1048576 (.slice tRecAck) x.1) : laws_eqRecAckS.f n x = some (eqD (.slice tRecAck) x.1 x.2.1, ()) := patEqS_ok (e := tRecAck) (z := (Ty.zero tRecAck)) (g := fun x y => laws_eqRecAck.f n (x, y, ())) (fun x hx y => laws_eqRecAck_ok n hn (x, y, ()) (h.2 x hx)) h.1 hn
theorem laws_eqRecorder_ok (n : Nat) (hn : Big n) (x : Tup [tRecorder, tRecorder]) (h : small 1048576 tRecorder x.1) : laws_eqRecorder.f n x = some (eqD tRecorder x.1 x.2.1, ()) :=
  (eqLeaf_not ((x.1.1 == x.2.1.1)) (eqLeaf_not ((x.1.2.1 == x.2.1.2.1)) (eqLeaf_not ((x.1.2.2.1 == x.2.1.2.2.1)) (eqCall_ok (laws_eqRecDisk_ok n hn _ h.2.2.2.1) (eqCall_ok (laws_eqRecDisk_ok n hn _ h.2.2.2.2.1) (eqCall_ok (laws_eqRecMessageS_ok n hn _ h.2.2.2.2.2.1) (eqCall_ok (laws_eqStringS_ok n hn _ h.2.2.2.2.2.2.1) (eqLeaf_not ((x.1.2.2.2.2.2.2.2.1 == x.2.1.2.2.2.2.2.2.2.1)) (eqLeaf_not ((x.1.2.2.2.2.2.2.2.2.1 == x.2.1.2.2.2.2.2.2.2.2.1)) (eqLeaf_not ((x.1.2.2.2.2.2.2.2.2.2.1 == x.2.1.2.2.2.2.2.2.2.2.2.1)) (eqCall_ok (laws_eqIntS_ok n hn _ h.2.2.2.2.2.2.2.2.2.2.1) (eqCall_ok (laws_eqRecSlotS_ok n hn _ h.2.2.2.2.2.2.2.2.2.2.2.1) (eqCall_ok (laws_eqRecAckS_ok n hn _ h.2.2.2.2.2.2.2.2.2.2.2.2.1) (eqLeaf_not ((x.1.2.2.2.2.2.2.2.2.2.2.2.2.2.1 == x.2.1.2.2.2.2.2.2.2.2.2.2.2.2.2.1)) rfl))))))))))))))
theorem laws_eqRecorderS_ok (n : Nat) (hn : Big n) (x : Tup [.slice tRecorder, .slice tRecorder]) (h : small 1048576 (.slice tRecorder) x.1) : laws_eqRecorderS.f n x = some (eqD (.slice tRecorder) x.1 x.2.1, ()) := patEqS_ok (e := tRecorder) (z := (Ty.zero tRecorder)) (g := fun x y => laws_eqRecorder.f n (x, y, ())) (fun x hx y => laws_eqRecorder_ok n hn (x, y, ()) (h.2 x hx)) h.1 hn
theorem laws_eqRecFix_ok (n : Nat) (hn : Big n) (x : Tup [tRecSlot, tRecSlot]) (h : small 1048576 tRecSlot x.1) : laws_eqRecFix.f n x = some (eqD tRecSlot x.1 x.2.1, ()) :=
  (eqLeaf_not ((x.1.1 == x.2.1.1)) (eqLeaf_not (seq x.1.2.1 x.2.1.2.1) rfl))
theorem laws_eqRecFixS_ok (n : Nat) (hn : Big n) (x : Tup [.slice tRecSlot, .slice tRecSlot]) (h : small 1048576 (.slice tRecSlot) x.1) : laws_eqRecFixS.f n x = some (eqD (.slice tRecSlot) x.1 x.2.1, ()) := patEqS_ok (e := tRecSlot) (z := (Ty.zero tRecSlot)) (g := fun x y => laws_eqRecFix.f n (x, y, ())) (fun x hx y => laws_eqRecFix_ok n hn (x, y, ()) (h.2 x hx)) h.1 hn
theorem laws_eqRecWorld_ok (n : Nat) (hn : Big n) (x : Tup [tRecWorld, tRecWorld]) (h : small 1048576 tRecWorld x.1) : laws_eqRecWorld.f n x = some (eqD tRecWorld x.1 x.2.1, ()) :=
  (eqCall_ok (laws_eqRecorderS_ok n hn _ h.1) (eqCall_ok (laws_eqRecMessageS_ok n hn _ h.2.1) (eqCall_ok (laws_eqRecFixS_ok n hn _ h.2.2.1) rfl)))
theorem bind_congr1 {α β : Type} {a b : Option α} {f : α → Option β} (h : a = b) : a.bind f = b.bind f := by rw [h]
attribute [local congr] bind_congr1
theorem laws_markText_ok (n : Nat) (hn : Big n) (k : Int) (hk : 1 ≤ k) (hw : k ≤ 4611686018427387904) : ∃ s, laws_markText.f n (k, ()) = some (s, ()) := by
  have hn : 18446744073709551616 ≤ n := hn
  obtain ⟨m, rfl⟩ : ∃ m : Nat, k = m := ⟨k.toNat, by omega⟩
  unfold laws_markText.f
  rw [if_neg (by rw [decide_eq_true_eq]; show ¬ ((m : Int) ≤ 0); omega)]
  obtain ⟨t, ht, hr⟩ := markText_run (B := laws_markText.B4 n) (cs := ((fun z1 => if (decide ((ByteArray.size (⟨#[109]⟩ : ByteArray) : Int) + (ByteArray.size z1.1 : Int) ≤ 9223372036854775807)) = true then some ((scat (⟨#[109]⟩ : ByteArray) z1.1), ()) else none), ())) (dn := fun s => if (decide ((ByteArray.size (⟨#[109]⟩ : ByteArray) : Int) + (ByteArray.size s : Int) ≤ 9223372036854775807)) = true then some ((scat (⟨#[109]⟩ : ByteArray) s), ()) else none)
    (fun next s => by simp only [laws_markText.B4, show decide ((0 : Int) > 0) = false from rfl, Bool.false_eq_true, if_false])
    (fun next k s h1 h2 => ⟨_, (scat_size _ s).trans (by rw [ofBytes_one]; omega), by
      simp only [laws_markText.B4]
      rw [if_pos (decide_eq_true (show k > 0 by omega)), if_pos (by decide), if_pos (decide_eq_true (by rw [ofBytes_one]; show ((1 : Nat) : Int) + (ByteArray.size s : Int) ≤ 9223372036854775807; omega)), if_pos (by decide), wrapM (Int.tdiv_nonneg (by omega) (by omega)) (by rw [Int.tdiv_eq_ediv_of_nonneg (by omega)]; omega)]⟩)
    n m (⟨#[]⟩ : ByteArray) (by have : ByteArray.size (⟨#[]⟩ : ByteArray) = 0 := rfl; omega) (by omega)
  have h0 : ByteArray.size (⟨#[]⟩ : ByteArray) = 0 := rfl
  have h9 : ByteArray.size (⟨#[109]⟩ : ByteArray) = 1 := rfl
  exact ⟨_, hr.trans (if_pos (decide_eq_true (by rw [h9]; omega)))⟩
theorem laws_markRecSlotS_el (n : Nat) (hn : Big n) {R1 R2 : Type} (cs1 : Conts R1 laws_markRecSlotS.l2.outs) (cs2 : Conts R2 laws_heldRecSlotS.l2.outs) : ElOk tRecSlot (laws_markRecSlotS.B2 n (R := R1)) cs1 (laws_heldRecSlotS.B2 n (R := R2)) cs2 := by
  intro x k hk hw
  simp only [wt_pair, wt_unit, wt_int, wt_bool, wt_str] at hw
  obtain ⟨t1, m1⟩ := laws_markText_ok n hn (k + 1) (by omega) (by omega)
  refine ⟨(k, (t1, x.2.2)), ((k + 1) + 1), by omega, by simp only [wt_pair, wt_unit, wt_int, wt_bool, wt_str]; omega, fun next l i hi hl hx => ?_, fun next l i hi hl hx => ?_⟩
  · simp (disch := omega) only [laws_markRecSlotS.B2, m1, wrapM, lt_dec hi, in_dec hi, Int.toNat_natCast, List.length_set, getD_set_at hi, List.set_set, hx, Option.bind_some, Bool.or_true, Bool.not_true, Bool.not_false, bne_self_eq_false, beq_self_eq_true, seq_same, Bool.false_eq_true, if_true, if_false, show ((3 : Int) != 0) = true from rfl, Bool.true_and, Bool.and_true]
  · simp (disch := omega) only [laws_heldRecSlotS.B2, m1, wrapM, lt_dec hi, in_dec hi, Int.toNat_natCast, List.length_set, getD_set_at hi, List.set_set, hx, Option.bind_some, Bool.or_true, Bool.not_true, Bool.not_false, bne_self_eq_false, beq_self_eq_true, seq_same, Bool.false_eq_true, if_true, if_false, show ((3 : Int) != 0) = true from rfl, Bool.true_and, Bool.and_true]
theorem laws_markRecSlotS_ok (n : Nat) (hn : Big n) (x : Ty.den (.slice tRecSlot)) (k : Int) (hk : 1 ≤ k) (hw : k + wt (.slice tRecSlot) x ≤ 4611686018427387904) : ∃ (s1 : Ty.den (.slice tRecSlot)) (k' : Int), k ≤ k' ∧ k' ≤ k + wt (.slice tRecSlot) x ∧ laws_markRecSlotS.f n x (k, ()) = some (s1, k', ()) ∧ laws_heldRecSlotS.f n (s1, k, ()) = some (k', ()) :=
  markS_ok hn (laws_markRecSlotS_el n hn _ _) (fun next l k => by simp only [laws_markRecSlotS.B2, lt_dec', Bool.false_eq_true, if_false]) (fun next l k => by simp only [laws_heldRecSlotS.B2, lt_dec', Bool.false_eq_true, if_false]) x k hk hw
theorem laws_markRecSlotS_ok1 (n : Nat) (hn : Big n) (x : Ty.den (.slice tRecSlot)) (k : Int) (hk : 1 ≤ k) (hw : k + wt (.slice tRecSlot) x ≤ 4611686018427387904) : ∃ (s1 : Ty.den (.slice tRecSlot)) (k' : Int), k ≤ k' ∧ k' ≤ k + wt (.slice tRecSlot) x ∧ laws_markRecSlotS.f n x (k, ()) = some (s1, k', ()) := by
  obtain ⟨s1, k1, p, q, m, _⟩ := laws_markRecSlotS_ok n hn x k hk hw
  exact ⟨s1, k1, p, q, m⟩
theorem laws_markRecMessageS_el (n : Nat) (hn : Big n) {R1 R2 : Type} (cs1 : Conts R1 laws_markRecMessageS.l2.outs) (cs2 : Conts R2 laws_heldRecMessageS.l2.outs) : ElOk tRecMessage (laws_markRecMessageS.B2 n (R := R1)) cs1 (laws_heldRecMessageS.B2 n (R := R2)) cs2 := by
  intro x k hk hw
  simp only [wt_pair, wt_unit, wt_int, wt_bool, wt_str] at hw
  obtain ⟨t1, m1⟩ := laws_markText_ok n hn ((((((k + 1) + 1) + 1) + 1) + 1) + 1) (by omega) (by omega)
  obtain ⟨t2, k2, p2, q2, m2, h2⟩ := laws_markRecSlotS_ok n hn x.2.2.2.2.2.2.2.1 (((((((k + 1) + 1) + 1) + 1) + 1) + 1) + 1) (by omega) (by omega)
  have d2 : decide (k2 < (0 : Int)) = false := decide_eq_false (by omega)
  refine ⟨(k, ((k + 1), (((k + 1) + 1), ((((k + 1) + 1) + 1), (((((k + 1) + 1) + 1) + 1), ((((((k + 1) + 1) + 1) + 1) + 1), (t1, (t2, x.2.2.2.2.2.2.2.2)))))))), k2, by omega, by simp only [wt_pair, wt_unit, wt_int, wt_bool, wt_str]; omega, fun next l i hi hl hx => ?_, fun next l i hi hl hx => ?_⟩
  · simp (disch := omega) only [laws_markRecMessageS.B2, m1, m2, wrapM, lt_dec hi, in_dec hi, Int.toNat_natCast, List.length_set, getD_set_at hi, List.set_set, hx, Option.bind_some, Bool.or_true, Bool.not_true, Bool.not_false, bne_self_eq_false, beq_self_eq_true, seq_same, Bool.false_eq_true, if_true, if_false, show ((3 : Int) != 0) = true from rfl, Bool.true_and, Bool.and_true]
  · simp (disch := omega) only [laws_heldRecMessageS.B2, m1, h2, d2, wrapM, lt_dec hi, in_dec hi, Int.toNat_natCast, List.length_set, getD_set_at hi, List.set_set, hx, Option.bind_some, Bool.or_true, Bool.not_true, Bool.not_false, bne_self_eq_false, beq_self_eq_true, seq_same, Bool.false_eq_true, if_true, if_false, show ((3 : Int) != 0) = true from rfl, Bool.true_and, Bool.and_true]
theorem laws_markRecMessageS_ok (n : Nat) (hn : Big n) (x : Ty.den (.slice tRecMessage)) (k : Int) (hk : 1 ≤ k) (hw : k + wt (.slice tRecMessage) x ≤ 4611686018427387904) : ∃ (s1 : Ty.den (.slice tRecMessage)) (k' : Int), k ≤ k' ∧ k' ≤ k + wt (.slice tRecMessage) x ∧ laws_markRecMessageS.f n x (k, ()) = some (s1, k', ()) ∧ laws_heldRecMessageS.f n (s1, k, ()) = some (k', ()) :=
  markS_ok hn (laws_markRecMessageS_el n hn _ _) (fun next l k => by simp only [laws_markRecMessageS.B2, lt_dec', Bool.false_eq_true, if_false]) (fun next l k => by simp only [laws_heldRecMessageS.B2, lt_dec', Bool.false_eq_true, if_false]) x k hk hw
theorem laws_markRecMessageS_ok1 (n : Nat) (hn : Big n) (x : Ty.den (.slice tRecMessage)) (k : Int) (hk : 1 ≤ k) (hw : k + wt (.slice tRecMessage) x ≤ 4611686018427387904) : ∃ (s1 : Ty.den (.slice tRecMessage)) (k' : Int), k ≤ k' ∧ k' ≤ k + wt (.slice tRecMessage) x ∧ laws_markRecMessageS.f n x (k, ()) = some (s1, k', ()) := by
  obtain ⟨s1, k1, p, q, m, _⟩ := laws_markRecMessageS_ok n hn x k hk hw
  exact ⟨s1, k1, p, q, m⟩
theorem laws_markStringS_el (n : Nat) (hn : Big n) {R1 R2 : Type} (cs1 : Conts R1 laws_markStringS.l2.outs) (cs2 : Conts R2 laws_heldStringS.l2.outs) : ElOk .str (laws_markStringS.B2 n (R := R1)) cs1 (laws_heldStringS.B2 n (R := R2)) cs2 := by
  intro x k hk hw
  simp only [wt_pair, wt_unit, wt_int, wt_bool, wt_str] at hw
  obtain ⟨t1, m1⟩ := laws_markText_ok n hn k (by omega) (by omega)
  refine ⟨t1, (k + 1), by omega, by simp only [wt_pair, wt_unit, wt_int, wt_bool, wt_str]; omega, fun next l i hi hl hx => ?_, fun next l i hi hl hx => ?_⟩
  · simp (disch := omega) only [laws_markStringS.B2, m1, wrapM, lt_dec hi, in_dec hi, Int.toNat_natCast, List.length_set, getD_set_at hi, List.set_set, hx, Option.bind_some, Bool.or_true, Bool.not_true, Bool.not_false, bne_self_eq_false, beq_self_eq_true, seq_same, Bool.false_eq_true, if_true, if_false, show ((3 : Int) != 0) = true from rfl, Bool.true_and, Bool.and_true]
  · simp (disch := omega) only [laws_heldStringS.B2, m1, wrapM, lt_dec hi, in_dec hi, Int.toNat_natCast, List.length_set, getD_set_at hi, List.set_set, hx, Option.bind_some, Bool.or_true, Bool.not_true, Bool.not_false, bne_self_eq_false, beq_self_eq_true, seq_same, Bool.false_eq_true, if_true, if_false, show ((3 : Int) != 0) = true from rfl, Bool.true_and, Bool.and_true]
theorem laws_markStringS_ok (n : Nat) (hn : Big n) (x : Ty.den (.slice .str)) (k : Int) (hk : 1 ≤ k) (hw : k + wt (.slice .str) x ≤ 4611686018427387904) : ∃ (s1 : Ty.den (.slice .str)) (k' : Int), k ≤ k' ∧ k' ≤ k + wt (.slice .str) x ∧ laws_markStringS.f n x (k, ()) = some (s1, k', ()) ∧ laws_heldStringS.f n (s1, k, ()) = some (k', ()) :=
  markS_ok hn (laws_markStringS_el n hn _ _) (fun next l k => by simp only [laws_markStringS.B2, lt_dec', Bool.false_eq_true, if_false]) (fun next l k => by simp only [laws_heldStringS.B2, lt_dec', Bool.false_eq_true, if_false]) x k hk hw
theorem laws_markStringS_ok1 (n : Nat) (hn : Big n) (x : Ty.den (.slice .str)) (k : Int) (hk : 1 ≤ k) (hw : k + wt (.slice .str) x ≤ 4611686018427387904) : ∃ (s1 : Ty.den (.slice .str)) (k' : Int), k ≤ k' ∧ k' ≤ k + wt (.slice .str) x ∧ laws_markStringS.f n x (k, ()) = some (s1, k', ()) := by
  obtain ⟨s1, k1, p, q, m, _⟩ := laws_markStringS_ok n hn x k hk hw
  exact ⟨s1, k1, p, q, m⟩
theorem laws_markIntS_el (n : Nat) (hn : Big n) {R1 R2 : Type} (cs1 : Conts R1 laws_markIntS.l2.outs) (cs2 : Conts R2 laws_heldIntS.l2.outs) : ElOk (.int .i64) (laws_markIntS.B2 n (R := R1)) cs1 (laws_heldIntS.B2 n (R := R2)) cs2 := by
  intro x k hk hw
  simp only [wt_pair, wt_unit, wt_int, wt_bool, wt_str] at hw
  refine ⟨k, (k + 1), by omega, by simp only [wt_pair, wt_unit, wt_int, wt_bool, wt_str]; omega, fun next l i hi hl hx => ?_, fun next l i hi hl hx => ?_⟩
  · simp (disch := omega) only [laws_markIntS.B2, wrapM, lt_dec hi, in_dec hi, Int.toNat_natCast, List.length_set, getD_set_at hi, List.set_set, hx, Option.bind_some, Bool.or_true, Bool.not_true, Bool.not_false, bne_self_eq_false, beq_self_eq_true, seq_same, Bool.false_eq_true, if_true, if_false, show ((3 : Int) != 0) = true from rfl, Bool.true_and, Bool.and_true]
  · simp (disch := omega) only [laws_heldIntS.B2, wrapM, lt_dec hi, in_dec hi, Int.toNat_natCast, List.length_set, getD_set_at hi, List.set_set, hx, Option.bind_some, Bool.or_true, Bool.not_true, Bool.not_false, bne_self_eq_false, beq_self_eq_true, seq_same, Bool.false_eq_true, if_true, if_false, show ((3 : Int) != 0) = true from rfl, Bool.true_and, Bool.and_true]
theorem laws_markIntS_ok (n : Nat) (hn : Big n) (x : Ty.den (.slice (.int .i64))) (k : Int) (hk : 1 ≤ k) (hw : k + wt (.slice (.int .i64)) x ≤ 4611686018427387904) : ∃ (s1 : Ty.den (.slice (.int .i64))) (k' : Int), k ≤ k' ∧ k' ≤ k + wt (.slice (.int .i64)) x ∧ laws_markIntS.f n x (k, ()) = some (s1, k', ()) ∧ laws_heldIntS.f n (s1, k, ()) = some (k', ()) :=
  markS_ok hn (laws_markIntS_el n hn _ _) (fun next l k => by simp only [laws_markIntS.B2, lt_dec', Bool.false_eq_true, if_false]) (fun next l k => by simp only [laws_heldIntS.B2, lt_dec', Bool.false_eq_true, if_false]) x k hk hw
theorem laws_markIntS_ok1 (n : Nat) (hn : Big n) (x : Ty.den (.slice (.int .i64))) (k : Int) (hk : 1 ≤ k) (hw : k + wt (.slice (.int .i64)) x ≤ 4611686018427387904) : ∃ (s1 : Ty.den (.slice (.int .i64))) (k' : Int), k ≤ k' ∧ k' ≤ k + wt (.slice (.int .i64)) x ∧ laws_markIntS.f n x (k, ()) = some (s1, k', ()) := by
  obtain ⟨s1, k1, p, q, m, _⟩ := laws_markIntS_ok n hn x k hk hw
  exact ⟨s1, k1, p, q, m⟩
theorem laws_markRecAckS_el (n : Nat) (hn : Big n) {R1 R2 : Type} (cs1 : Conts R1 laws_markRecAckS.l2.outs) (cs2 : Conts R2 laws_heldRecAckS.l2.outs) : ElOk tRecAck (laws_markRecAckS.B2 n (R := R1)) cs1 (laws_heldRecAckS.B2 n (R := R2)) cs2 := by
  intro x k hk hw
  simp only [wt_pair, wt_unit, wt_int, wt_bool, wt_str] at hw
  obtain ⟨t1, k1, p1, q1, m1, h1⟩ := laws_markIntS_ok n hn x.2.1 (k + 1) (by omega) (by omega)
  have d1 : decide (k1 < (0 : Int)) = false := decide_eq_false (by omega)
  refine ⟨(k, (t1, x.2.2)), k1, by omega, by simp only [wt_pair, wt_unit, wt_int, wt_bool, wt_str]; omega, fun next l i hi hl hx => ?_, fun next l i hi hl hx => ?_⟩
  · simp (disch := omega) only [laws_markRecAckS.B2, m1, wrapM, lt_dec hi, in_dec hi, Int.toNat_natCast, List.length_set, getD_set_at hi, List.set_set, hx, Option.bind_some, Bool.or_true, Bool.not_true, Bool.not_false, bne_self_eq_false, beq_self_eq_true, seq_same, Bool.false_eq_true, if_true, if_false, show ((3 : Int) != 0) = true from rfl, Bool.true_and, Bool.and_true]
  · simp (disch := omega) only [laws_heldRecAckS.B2, h1, d1, wrapM, lt_dec hi, in_dec hi, Int.toNat_natCast, List.length_set, getD_set_at hi, List.set_set, hx, Option.bind_some, Bool.or_true, Bool.not_true, Bool.not_false, bne_self_eq_false, beq_self_eq_true, seq_same, Bool.false_eq_true, if_true, if_false, show ((3 : Int) != 0) = true from rfl, Bool.true_and, Bool.and_true]
theorem laws_markRecAckS_ok (n : Nat) (hn : Big n) (x : Ty.den (.slice tRecAck)) (k : Int) (hk : 1 ≤ k) (hw : k + wt (.slice tRecAck) x ≤ 4611686018427387904) : ∃ (s1 : Ty.den (.slice tRecAck)) (k' : Int), k ≤ k' ∧ k' ≤ k + wt (.slice tRecAck) x ∧ laws_markRecAckS.f n x (k, ()) = some (s1, k', ()) ∧ laws_heldRecAckS.f n (s1, k, ()) = some (k', ()) :=
  markS_ok hn (laws_markRecAckS_el n hn _ _) (fun next l k => by simp only [laws_markRecAckS.B2, lt_dec', Bool.false_eq_true, if_false]) (fun next l k => by simp only [laws_heldRecAckS.B2, lt_dec', Bool.false_eq_true, if_false]) x k hk hw
theorem laws_markRecAckS_ok1 (n : Nat) (hn : Big n) (x : Ty.den (.slice tRecAck)) (k : Int) (hk : 1 ≤ k) (hw : k + wt (.slice tRecAck) x ≤ 4611686018427387904) : ∃ (s1 : Ty.den (.slice tRecAck)) (k' : Int), k ≤ k' ∧ k' ≤ k + wt (.slice tRecAck) x ∧ laws_markRecAckS.f n x (k, ()) = some (s1, k', ()) := by
  obtain ⟨s1, k1, p, q, m, _⟩ := laws_markRecAckS_ok n hn x k hk hw
  exact ⟨s1, k1, p, q, m⟩
set_option maxHeartbeats 4000000 in
theorem laws_markRecorderS_el (n : Nat) (hn : Big n) {R1 R2 : Type} (cs1 : Conts R1 laws_markRecorderS.l2.outs) (cs2 : Conts R2 laws_heldRecorderS.l2.outs) : ElOk tRecorder (laws_markRecorderS.B2 n (R := R1)) cs1 (laws_heldRecorderS.B2 n (R := R2)) cs2 := by
  intro x k hk hw
  simp only [wt_pair, wt_unit, wt_int, wt_bool, wt_str] at hw
  obtain ⟨t1, k1, p1, q1, m1, h1⟩ := laws_markRecSlotS_ok n hn x.2.2.2.1.2.2.1 (((((k + 1) + 1) + 1) + 1) + 1) (by omega) (by omega)
  have d1 : decide (k1 < (0 : Int)) = false := decide_eq_false (by omega)
  obtain ⟨t2, k2, p2, q2, m2, h2⟩ := laws_markRecSlotS_ok n hn x.2.2.2.2.1.2.2.1 ((k1 + 1) + 1) (by omega) (by omega)
  have d2 : decide (k2 < (0 : Int)) = false := decide_eq_false (by omega)
  obtain ⟨t3, k3, p3, q3, m3, h3⟩ := laws_markRecMessageS_ok n hn x.2.2.2.2.2.1 k2 (by omega) (by omega)
  have d3 : decide (k3 < (0 : Int)) = false := decide_eq_false (by omega)
  obtain ⟨t4, k4, p4, q4, m4, h4⟩ := laws_markStringS_ok n hn x.2.2.2.2.2.2.1 k3 (by omega) (by omega)
  have d4 : decide (k4 < (0 : Int)) = false := decide_eq_false (by omega)
  obtain ⟨t5, k5, p5, q5, m5, h5⟩ := laws_markIntS_ok n hn x.2.2.2.2.2.2.2.2.2.2.1 (((k4 + 1) + 1) + 1) (by omega) (by omega)
  have d5 : decide (k5 < (0 : Int)) = false := decide_eq_false (by omega)
  obtain ⟨t6, k6, p6, q6, m6, h6⟩ := laws_markRecSlotS_ok n hn x.2.2.2.2.2.2.2.2.2.2.2.1 k5 (by omega) (by omega)
  have d6 : decide (k6 < (0 : Int)) = false := decide_eq_false (by omega)
  obtain ⟨t7, k7, p7, q7, m7, h7⟩ := laws_markRecAckS_ok n hn x.2.2.2.2.2.2.2.2.2.2.2.2.1 k6 (by omega) (by omega)
  have d7 : decide (k7 < (0 : Int)) = false := decide_eq_false (by omega)
  refine ⟨(k, ((k + 1), ((Int.tmod ((k + 1) + 1) (3 : Int) == (0 : Int)), (((((k + 1) + 1) + 1), (((((k + 1) + 1) + 1) + 1), (t1, x.2.2.2.1.2.2.2))), ((k1, ((k1 + 1), (t2, x.2.2.2.2.1.2.2.2))), (t3, (t4, ((Int.tmod k4 (3 : Int) == (0 : Int)), ((Int.tmod (k4 + 1) (3 : Int) == (0 : Int)), (((k4 + 1) + 1), (t5, (t6, (t7, (k7, x.2.2.2.2.2.2.2.2.2.2.2.2.2.2)))))))))))))), (k7 + 1), by omega, by simp only [wt_pair, wt_unit, wt_int, wt_bool, wt_str]; omega, fun next l i hi hl hx => ?_, fun next l i hi hl hx => ?_⟩
  · simp (disch := omega) only [laws_markRecorderS.B2, m1, m2, m3, m4, m5, m6, m7, wrapM, lt_dec hi, in_dec hi, Int.toNat_natCast, List.length_set, getD_set_at hi, List.set_set, hx, Option.bind_some, Bool.or_true, Bool.not_true, Bool.not_false, bne_self_eq_false, beq_self_eq_true, seq_same, Bool.false_eq_true, if_true, if_false, show ((3 : Int) != 0) = true from rfl, Bool.true_and, Bool.and_true]
  · simp (disch := omega) only [laws_heldRecorderS.B2, h1, h2, h3, h4, h5, h6, h7, d1, d2, d3, d4, d5, d6, d7, wrapM, lt_dec hi, in_dec hi, Int.toNat_natCast, List.length_set, getD_set_at hi, List.set_set, hx, Option.bind_some, Bool.or_true, Bool.not_true, Bool.not_false, bne_self_eq_false, beq_self_eq_true, seq_same, Bool.false_eq_true, if_true, if_false, show ((3 : Int) != 0) = true from rfl, Bool.true_and, Bool.and_true]
theorem laws_markRecorderS_ok (n : Nat) (hn : Big n) (x : Ty.den (.slice tRecorder)) (k : Int) (hk : 1 ≤ k) (hw : k + wt (.slice tRecorder) x ≤ 4611686018427387904) : ∃ (s1 : Ty.den (.slice tRecorder)) (k' : Int), k ≤ k' ∧ k' ≤ k + wt (.slice tRecorder) x ∧ laws_markRecorderS.f n x (k, ()) = some (s1, k', ()) ∧ laws_heldRecorderS.f n (s1, k, ()) = some (k', ()) :=
  markS_ok hn (laws_markRecorderS_el n hn _ _) (fun next l k => by simp only [laws_markRecorderS.B2, lt_dec', Bool.false_eq_true, if_false]) (fun next l k => by simp only [laws_heldRecorderS.B2, lt_dec', Bool.false_eq_true, if_false]) x k hk hw
theorem laws_markRecorderS_ok1 (n : Nat) (hn : Big n) (x : Ty.den (.slice tRecorder)) (k : Int) (hk : 1 ≤ k) (hw : k + wt (.slice tRecorder) x ≤ 4611686018427387904) : ∃ (s1 : Ty.den (.slice tRecorder)) (k' : Int), k ≤ k' ∧ k' ≤ k + wt (.slice tRecorder) x ∧ laws_markRecorderS.f n x (k, ()) = some (s1, k', ()) := by
  obtain ⟨s1, k1, p, q, m, _⟩ := laws_markRecorderS_ok n hn x k hk hw
  exact ⟨s1, k1, p, q, m⟩
theorem laws_markRecFixS_el (n : Nat) (hn : Big n) {R1 R2 : Type} (cs1 : Conts R1 laws_markRecFixS.l2.outs) (cs2 : Conts R2 laws_heldRecFixS.l2.outs) : ElOk tRecSlot (laws_markRecFixS.B2 n (R := R1)) cs1 (laws_heldRecFixS.B2 n (R := R2)) cs2 := by
  intro x k hk hw
  simp only [wt_pair, wt_unit, wt_int, wt_bool, wt_str] at hw
  obtain ⟨t1, m1⟩ := laws_markText_ok n hn (k + 1) (by omega) (by omega)
  refine ⟨(k, (t1, x.2.2)), ((k + 1) + 1), by omega, by simp only [wt_pair, wt_unit, wt_int, wt_bool, wt_str]; omega, fun next l i hi hl hx => ?_, fun next l i hi hl hx => ?_⟩
  · simp (disch := omega) only [laws_markRecFixS.B2, m1, wrapM, lt_dec hi, in_dec hi, Int.toNat_natCast, List.length_set, getD_set_at hi, List.set_set, hx, Option.bind_some, Bool.or_true, Bool.not_true, Bool.not_false, bne_self_eq_false, beq_self_eq_true, seq_same, Bool.false_eq_true, if_true, if_false, show ((3 : Int) != 0) = true from rfl, Bool.true_and, Bool.and_true]
  · simp (disch := omega) only [laws_heldRecFixS.B2, m1, wrapM, lt_dec hi, in_dec hi, Int.toNat_natCast, List.length_set, getD_set_at hi, List.set_set, hx, Option.bind_some, Bool.or_true, Bool.not_true, Bool.not_false, bne_self_eq_false, beq_self_eq_true, seq_same, Bool.false_eq_true, if_true, if_false, show ((3 : Int) != 0) = true from rfl, Bool.true_and, Bool.and_true]
theorem laws_markRecFixS_ok (n : Nat) (hn : Big n) (x : Ty.den (.slice tRecSlot)) (k : Int) (hk : 1 ≤ k) (hw : k + wt (.slice tRecSlot) x ≤ 4611686018427387904) : ∃ (s1 : Ty.den (.slice tRecSlot)) (k' : Int), k ≤ k' ∧ k' ≤ k + wt (.slice tRecSlot) x ∧ laws_markRecFixS.f n x (k, ()) = some (s1, k', ()) ∧ laws_heldRecFixS.f n (s1, k, ()) = some (k', ()) :=
  markS_ok hn (laws_markRecFixS_el n hn _ _) (fun next l k => by simp only [laws_markRecFixS.B2, lt_dec', Bool.false_eq_true, if_false]) (fun next l k => by simp only [laws_heldRecFixS.B2, lt_dec', Bool.false_eq_true, if_false]) x k hk hw
theorem laws_markRecFixS_ok1 (n : Nat) (hn : Big n) (x : Ty.den (.slice tRecSlot)) (k : Int) (hk : 1 ≤ k) (hw : k + wt (.slice tRecSlot) x ≤ 4611686018427387904) : ∃ (s1 : Ty.den (.slice tRecSlot)) (k' : Int), k ≤ k' ∧ k' ≤ k + wt (.slice tRecSlot) x ∧ laws_markRecFixS.f n x (k, ()) = some (s1, k', ()) := by
  obtain ⟨s1, k1, p, q, m, _⟩ := laws_markRecFixS_ok n hn x k hk hw
  exact ⟨s1, k1, p, q, m⟩
theorem laws_markRecWorld_ok (n : Nat) (hn : Big n) (x : Ty.den tRecWorld) (k : Int) (hk : 1 ≤ k) (hw : k + wt tRecWorld x ≤ 4611686018427387904) : ∃ (s1 : Ty.den (.slice tRecorder)) (s2 : Ty.den (.slice tRecMessage)) (s3 : Ty.den (.slice tRecSlot)) (k' : Int), k ≤ k' ∧ k' ≤ k + wt tRecWorld x ∧ laws_markRecWorld.f n x (k, ()) = some ((s1, (s2, (s3, x.2.2.2))), k', ()) ∧ laws_heldRecWorld.f n ((s1, (s2, (s3, x.2.2.2))), k, ()) = some (k', ()) := by
  have hw0 := hw
  simp only [wt_pair, wt_unit, wt_int, wt_bool, wt_str] at hw
  obtain ⟨s1, k1, p1, q1, m1, h1⟩ := laws_markRecorderS_ok n hn x.1 k (by omega) (by first | omega | (simp only [wt_pair, wt_unit, wt_int, wt_bool, wt_str]; omega))
  try simp only [wt_pair, wt_unit, wt_int, wt_bool, wt_str] at q1
  have d1 : decide (k1 < (0 : Int)) = false := decide_eq_false (by omega)
  obtain ⟨s2, k2, p2, q2, m2, h2⟩ := laws_markRecMessageS_ok n hn x.2.1 k1 (by omega) (by first | omega | (simp only [wt_pair, wt_unit, wt_int, wt_bool, wt_str]; omega))
  try simp only [wt_pair, wt_unit, wt_int, wt_bool, wt_str] at q2
  have d2 : decide (k2 < (0 : Int)) = false := decide_eq_false (by omega)
  obtain ⟨s3, k3, p3, q3, m3, h3⟩ := laws_markRecFixS_ok n hn x.2.2.1 k2 (by omega) (by first | omega | (simp only [wt_pair, wt_unit, wt_int, wt_bool, wt_str]; omega))
  try simp only [wt_pair, wt_unit, wt_int, wt_bool, wt_str] at q3
  have d3 : decide (k3 < (0 : Int)) = false := decide_eq_false (by omega)
  refine ⟨s1, s2, s3, k3, by omega, by first | omega | (simp only [wt_pair, wt_unit, wt_int, wt_bool, wt_str]; omega), by simp only [laws_markRecWorld.f, m1, m2, m3, Option.bind_some], by simp only [laws_heldRecWorld.f, h1, h2, h3, d1, d2, d3, Option.bind_some, Bool.false_eq_true, if_false]⟩
theorem laws_markRecWorld_ok1 (n : Nat) (hn : Big n) (x : Ty.den tRecWorld) (k : Int) (hk : 1 ≤ k) (hw : k + wt tRecWorld x ≤ 4611686018427387904) : ∃ (s1 : Ty.den (.slice tRecorder)) (s2 : Ty.den (.slice tRecMessage)) (s3 : Ty.den (.slice tRecSlot)) (k' : Int), k ≤ k' ∧ k' ≤ k + wt tRecWorld x ∧ laws_markRecWorld.f n x (k, ()) = some ((s1, (s2, (s3, x.2.2.2))), k', ()) := by
  obtain ⟨s1, s2, s3, k1, p, q, m, _⟩ := laws_markRecWorld_ok n hn x k hk hw
  exact ⟨s1, s2, s3, k1, p, q, m⟩
end Go.Proofs.Ytjbpccinpcpdkac
