/- The law FnExactRecWish: what the program tells and what the reference tells are one, for all arguments (the plain law, over printed pure functions). No conditions. -/
import Derived.Test.YtcibjahjpojedaaP
set_option linter.unusedVariables false
set_option linter.unusedSimpArgs false
namespace Go.Proofs.Ytcibjahjpojedaa
open Go Go.Vm
/-! ### slots -/
section
variable {n : Nat} (hn : Big n)

def badSlot (l : List (Ty.den tRecSlot)) (i : Nat) : Bool :=
  (((!((decide ((List.getD l (Int.toNat (i : Int)) (Ty.zero tRecSlot)).1 ≥ (0 : Int))) && (decide ((List.getD l (Int.toNat (i : Int)) (Ty.zero tRecSlot)).1 ≤ (1000000 : Int))))) || (decide ((ByteArray.size (List.getD l (Int.toNat (i : Int)) (Ty.zero tRecSlot)).2.1 : Int) > (160 : Int)))) || (((List.getD l (Int.toNat (i : Int)) (Ty.zero tRecSlot)).1 == (0 : Int)) && (!seq (List.getD l (Int.toNat (i : Int)) (Ty.zero tRecSlot)).2.1 (⟨#[]⟩ : ByteArray))))

def slotsOkD (l : List (Ty.den tRecSlot)) : Bool := if (decide ((List.length l : Int) > (120 : Int))) = true then false else !(List.range l.length).any (badSlot l)

include hn in
theorem specSlots_ok (l : List (Ty.den tRecSlot)) (hl : l.length ≤ 1048576) : spec_l21SlotsOk.f n (l, ()) = some (slotsOkD l, ()) := by
  have hn : 18446744073709551616 ≤ n := hn
  unfold spec_l21SlotsOk.f slotsOkD
  split
  · rfl
  · refine (runL_any (len := l.length) (fun i => (l, (i : Int), ())) (badSlot l) (some (false, ())) (some (true, ())) ?_ ?_ (by omega)).trans (by cases (List.range l.length).any (badSlot l) <;> rfl)
    · intro next i hi
      simp only [spec_l21SlotsOk.B4, spec_l21In.f, lt_dec hi, in_dec hi, wrap_next hi hl, Option.bind_some, Bool.or_true, if_true, badSlot]
      rfl
    · intro next
      simp only [spec_l21SlotsOk.B4, lt_dec', Bool.false_eq_true, if_false]

include hn in
theorem implSlots_ok (l : List (Ty.den tRecSlot)) (hl : l.length ≤ 1048576) : impl_slotsOk.f n (l, ()) = some (slotsOkD l, ()) := by
  have hn : 18446744073709551616 ≤ n := hn
  unfold impl_slotsOk.f slotsOkD
  split
  · rfl
  · refine (runL_any (len := l.length) (fun i => (l, (l.length : Int), (i : Int), ())) (badSlot l) (some (false, ())) (some (true, ())) ?_ ?_ (by omega)).trans (by cases (List.range l.length).any (badSlot l) <;> rfl)
    · intro next i hi
      simp only [impl_slotsOk.B4, impl_within_rec.f, lt_dec hi, in_dec hi, wrap_next hi hl, Option.bind_some, Bool.or_true, if_true, badSlot]
      rfl
    · intro next
      simp only [impl_slotsOk.B4, lt_dec', Bool.false_eq_true, if_false]

end

/-! ### slots, disks -/
section
variable {n : Nat} (hn : Big n)

def badDisk (d : Ty.den tRecDisk) (i : Nat) : Bool :=
  ((decide ((List.getD d.2.2.1 (Int.toNat (i : Int)) (Ty.zero tRecSlot)).1 > d.1)) || ((decide ((i : Int) < d.2.1)) && ((List.getD d.2.2.1 (Int.toNat (i : Int)) (Ty.zero tRecSlot)).1 == (0 : Int))))

def diskOkD (d : Ty.den tRecDisk) : Bool :=
  if (((!((decide (d.1 ≥ (0 : Int))) && (decide (d.1 ≤ (1000000 : Int))))) || (!(if (!(!((decide (d.1 ≥ (0 : Int))) && (decide (d.1 ≤ (1000000 : Int)))))) = true then slotsOkD d.2.2.1 else false))) || (!((decide (d.2.1 ≥ (0 : Int))) && (decide (d.2.1 ≤ (List.length d.2.2.1 : Int)))))) = true then false
  else !(List.range (List.length d.2.2.1)).any (badDisk d)

include hn in
theorem specDisk_ok (d : Ty.den tRecDisk) (hl : List.length d.2.2.1 ≤ 1048576) : spec_RecDiskOk.f n (d, ()) = some (diskOkD d, ()) := by
  have hn' : 18446744073709551616 ≤ n := hn
  obtain ⟨p, kn, l, ⟨⟩⟩ := d
  have hl : l.length ≤ 1048576 := hl
  unfold spec_RecDiskOk.f diskOkD
  simp only [spec_l21In.f, specSlots_ok hn l hl, Option.bind_some]
  cases h1 : ((decide (p ≥ (0 : Int))) && (decide (p ≤ (1000000 : Int)))) with
  | false => simp
  | true =>
    cases h2 : slotsOkD l with
    | false => simp
    | true =>
      cases h3 : ((decide (kn ≥ (0 : Int))) && (decide (kn ≤ (List.length l : Int)))) with
      | false => simp
      | true =>
        simp only [Bool.not_true, Bool.not_false, Bool.or_false, if_true, Option.bind_some, Bool.false_eq_true, if_false]
        refine (runL_any (len := l.length) (fun i => ((p, kn, l, ()), (i : Int), ())) (badDisk (p, kn, l, ())) (some (false, ())) (some (true, ())) ?_ ?_ (by omega)).trans (by cases (List.range l.length).any (badDisk (p, kn, l, ())) <;> rfl)
        · intro next i hi
          simp only [spec_RecDiskOk.B4, lt_dec hi, in_dec hi, wrap_next hi hl, Option.bind_some, Bool.or_true, if_true, badDisk]
          rfl
        · intro next
          simp only [spec_RecDiskOk.B4, lt_dec', Bool.false_eq_true, if_false]

include hn in
theorem implDisk_ok (d : Ty.den tRecDisk) (hl : List.length d.2.2.1 ≤ 1048576) : impl_RecDiskOk.f n (d, ()) = some (diskOkD d, ()) := by
  have hn' : 18446744073709551616 ≤ n := hn
  obtain ⟨p, kn, l, ⟨⟩⟩ := d
  have hl : l.length ≤ 1048576 := hl
  unfold impl_RecDiskOk.f diskOkD
  simp only [impl_within_rec.f, implSlots_ok hn l hl, Option.bind_some]
  cases h1 : ((decide (p ≥ (0 : Int))) && (decide (p ≤ (1000000 : Int)))) with
  | false => simp
  | true =>
    cases h2 : slotsOkD l with
    | false => simp
    | true =>
      cases h3 : ((decide (kn ≥ (0 : Int))) && (decide (kn ≤ (List.length l : Int)))) with
      | false => simp
      | true =>
        simp only [Bool.not_true, Bool.not_false, Bool.or_false, if_true, Option.bind_some, Bool.false_eq_true, if_false]
        refine (runL_any (len := l.length) (fun i => ((p, kn, l, ()), l, (l.length : Int), (i : Int), ())) (badDisk (p, kn, l, ())) (some (false, ())) (some (true, ())) ?_ ?_ (by omega)).trans (by cases (List.range l.length).any (badDisk (p, kn, l, ())) <;> rfl)
        · intro next i hi
          simp only [impl_RecDiskOk.B4, lt_dec hi, in_dec hi, wrap_next hi hl, Option.bind_some, Bool.or_true, if_true, badDisk]
          rfl
        · intro next
          simp only [impl_RecDiskOk.B4, lt_dec', Bool.false_eq_true, if_false]
end

/-! ### recorders -/
section
variable {n : Nat} (hn : Big n)

def inD (a lo hi : Int) : Bool := (decide (a ≥ lo)) && (decide (a ≤ hi))
theorem specIn_ok (x : Tup [.int .i64, .int .i64, .int .i64]) : spec_l21In.f n x = some (inD x.1 x.2.1 x.2.2.1, ()) := rfl
theorem implIn_ok (x : Tup [.int .i64, .int .i64, .int .i64]) : impl_within_rec.f n x = some (inD x.1 x.2.1 x.2.2.1, ()) := rfl

def msgD (n : Nat) (m : Ty.den tRecMessage) (of : Int) : Bool := ((spec_RecMessageOk.f n (m, of, ())).getD (false, ())).1
include hn in
theorem msgs_ok (m : Ty.den tRecMessage) (of : Int) (hl : List.length m.2.2.2.2.2.2.2.1 ≤ 1048576) : spec_RecMessageOk.f n (m, of, ()) = some (msgD n m of, ()) ∧ impl_RecMessageOk.f n (m, of, ()) = some (msgD n m of, ()) := by
  have : ∃ b : Bool, spec_RecMessageOk.f n (m, of, ()) = some (b, ()) ∧ impl_RecMessageOk.f n (m, of, ()) = some (b, ()) := by
    unfold spec_RecMessageOk.f impl_RecMessageOk.f
    simp only [spec_l21In.f, impl_within_rec.f, specSlots_ok hn _ hl, implSlots_ok hn _ hl, guarded, Option.bind_some]
    exact ⟨_, rfl, rfl⟩
  obtain ⟨b, h1, h2⟩ := this
  unfold msgD
  rw [h1, h2]
  exact ⟨rfl, rfl⟩

/-- Numbers that rise, of so many. -/
def badNumber (l : List Int) (of : Int) (i : Nat) : Bool := (!inD (List.getD l i 0) 1 of) || (decide (0 < i) && decide (List.getD l (i - 1) 0 ≥ List.getD l i 0))
def numbersD (l : List Int) (of : Int) : Bool := !(List.range l.length).any (badNumber l of)

theorem getD_lt {X : Type} (l : List X) (i : Nat) (z : X) (h : i < l.length) : l.getD i z = l[i] := by simp [h]
theorem pred_wrap {i : Nat} (h : 0 < i) (hi : i ≤ 1048576) : IntKind.i64.wrap ((i : Int) - 1) = ((i - 1 : Nat) : Int) := by
  rw [wrap_eq (by omega) (by omega)]; omega
theorem pred_in {i len : Nat} (h : 0 < i) (hi : i < len) : decide (0 ≤ ((i - 1 : Nat) : Int) ∧ ((i - 1 : Nat) : Int) < (len : Int)) = true := decide_eq_true (by omega)

include hn in
theorem specNumbers_ok (l : List Int) (of : Int) (hl : l.length ≤ 1048576) : spec_l22Numbers.f n (l, of, ()) = some (numbersD l of, ()) := by
  have hn' : 18446744073709551616 ≤ n := hn
  unfold spec_l22Numbers.f numbersD
  refine (runL_any (len := l.length) (fun i => (l, of, (i : Int), ())) (badNumber l of) (some (false, ())) (some (true, ())) ?_ ?_ (by omega)).trans (by cases (List.range l.length).any (badNumber l of) <;> rfl)
  · intro next i hi
    simp only [spec_l22Numbers.B2, specIn_ok, lt_dec hi, in_dec hi, Option.bind_some, Bool.or_true, if_true, Int.toNat_natCast, badNumber, wrap_next hi hl]
    by_cases h0 : 0 < i
    · have e : decide ((i : Int) > 0) = true := decide_eq_true (by omega)
      simp only [e, decide_eq_true h0, pred_wrap h0 (by omega), pred_in h0 hi, Int.toNat_natCast, Bool.or_true, if_true, Bool.true_and]
      try rfl
    · have e : decide ((i : Int) > 0) = false := decide_eq_false (by omega)
      simp only [e, decide_eq_false h0, Bool.and_false, Bool.not_false, Bool.true_or, if_true, Bool.false_and]
      try rfl
  · intro next
    simp only [spec_l22Numbers.B2, lt_dec', Bool.false_eq_true, if_false]

include hn in
theorem implNumbers_ok (l : List Int) (of : Int) (hl : l.length ≤ 1048576) : impl_people.f n (l, of, ()) = some (numbersD l of, ()) := by
  have hn' : 18446744073709551616 ≤ n := hn
  unfold impl_people.f numbersD
  refine (runL_any (len := l.length) (fun i => (l, of, l, (l.length : Int), (i : Int), ())) (badNumber l of) (some (false, ())) (some (true, ())) ?_ ?_ (by omega)).trans (by cases (List.range l.length).any (badNumber l of) <;> rfl)
  · intro next i hi
    simp only [impl_people.B2, implIn_ok, lt_dec hi, in_dec hi, Option.bind_some, Bool.or_true, if_true, Int.toNat_natCast, badNumber, wrap_next hi hl]
    by_cases h0 : 0 < i
    · have e : decide ((i : Int) > 0) = true := decide_eq_true (by omega)
      simp only [e, decide_eq_true h0, pred_wrap h0 (by omega), pred_in h0 hi, Int.toNat_natCast, Bool.or_true, if_true, Bool.true_and]
      try rfl
    · have e : decide ((i : Int) > 0) = false := decide_eq_false (by omega)
      simp only [e, decide_eq_false h0, Bool.and_false, Bool.not_false, Bool.true_or, if_true, Bool.false_and]
      try rfl
  · intro next
    simp only [impl_people.B2, lt_dec', Bool.false_eq_true, if_false]

def badAck (l : List (Ty.den tRecAck)) (of : Int) (i : Nat) : Bool :=
  ((!inD (List.getD l i (Ty.zero tRecAck)).1 1 120) || (!numbersD (List.getD l i (Ty.zero tRecAck)).2.1 of)) || (decide (0 < i) && decide ((List.getD l (i - 1) (Ty.zero tRecAck)).1 ≥ (List.getD l i (Ty.zero tRecAck)).1))
def acksD (l : List (Ty.den tRecAck)) (of : Int) : Bool := !(List.range l.length).any (badAck l of)

include hn in
theorem specAcks_ok (l : List (Ty.den tRecAck)) (of : Int) (hl : small 1048576 (.slice tRecAck) l) : spec_l22AcksOk.f n (l, of, ()) = some (acksD l of, ()) := by
  have hn' : 18446744073709551616 ≤ n := hn
  have hl1 : l.length ≤ 1048576 := hl.1
  unfold spec_l22AcksOk.f acksD
  refine (runL_any (len := l.length) (fun i => (l, of, (i : Int), ())) (badAck l of) (some (false, ())) (some (true, ())) ?_ ?_ (by omega)).trans (by cases (List.range l.length).any (badAck l of) <;> rfl)
  · intro next i hi
    have he : small 1048576 tRecAck (List.getD l i (Ty.zero tRecAck)) := by
      rw [getD_lt _ _ _ hi]
      exact hl.2 _ (List.getElem_mem hi)
    simp only [spec_l22AcksOk.B2, specIn_ok, specNumbers_ok hn _ _ he.2.1.1, lt_dec hi, in_dec hi, Option.bind_some, Bool.or_true, if_true, Int.toNat_natCast, badAck, wrap_next hi hl1]
    rcases Bool.eq_false_or_eq_true (inD (List.getD l i (Ty.zero tRecAck)).1 1 120) with hc | hc
    rotate_left
    · simp [hc, -List.getD_eq_getElem?_getD]
    · simp only [hc, Bool.not_true, Bool.not_false, if_true, Option.bind_some, Bool.false_or]
      rcases Bool.eq_false_or_eq_true (numbersD (List.getD l i (Ty.zero tRecAck)).2.1 of) with hd | hd
      rotate_left
      · simp [hd, -List.getD_eq_getElem?_getD]
      · simp only [hd, Bool.not_true, Bool.not_false, if_true, Option.bind_some, Bool.false_or]
        by_cases h0 : 0 < i
        · have e : decide ((i : Int) > 0) = true := decide_eq_true (by omega)
          simp only [e, decide_eq_true h0, pred_wrap h0 (by omega), pred_in h0 hi, Int.toNat_natCast, Bool.or_true, if_true, Bool.true_and]
          try rfl
        · have e : decide ((i : Int) > 0) = false := decide_eq_false (by omega)
          simp only [e, decide_eq_false h0, Bool.and_false, Bool.not_false, Bool.true_or, if_true, Bool.false_and]
          try rfl
  · intro next
    simp only [spec_l22AcksOk.B2, lt_dec', Bool.false_eq_true, if_false]

/-- A wish that may not stand where it stands. -/
def badWish (l : List ByteArray) (i : Nat) : Bool := (!inD ((List.getD l i (⟨#[]⟩ : ByteArray)).size : Int) 1 160) || (List.range i).any (fun k => seq (List.getD l k (⟨#[]⟩ : ByteArray)) (List.getD l i (⟨#[]⟩ : ByteArray)))
def wishesD (l : List ByteArray) : Bool := if (decide ((List.length l : Int) > (20 : Int))) = true then false else !(List.range l.length).any (badWish l)

include hn in
theorem specWishes_ok (l : List ByteArray) (hl : l.length ≤ 1048576) : spec_l22WishesOk.f n (l, ()) = some (wishesD l, ()) := by
  have hn' : 18446744073709551616 ≤ n := hn
  unfold spec_l22WishesOk.f wishesD
  split
  · rfl
  · refine (runL_any (len := l.length) (fun i => (l, (i : Int), ())) (badWish l) (some (false, ())) (some (true, ())) ?_ ?_ (by omega)).trans (by cases (List.range l.length).any (badWish l) <;> rfl)
    · intro next i hi
      simp only [spec_l22WishesOk.B4, lt_dec hi, in_dec hi, Bool.or_true, if_true, Int.toNat_natCast, badWish]
      have e : ((decide ((ByteArray.size (List.getD l i (⟨#[]⟩ : ByteArray)) : Int) < (1 : Int))) || (decide ((ByteArray.size (List.getD l i (⟨#[]⟩ : ByteArray)) : Int) > (160 : Int)))) = !inD ((List.getD l i (⟨#[]⟩ : ByteArray)).size : Int) 1 160 := by
        unfold inD
        rw [Bool.not_and, Bool.eq_iff_iff]
        simp only [Bool.or_eq_true, decide_eq_true_eq, Bool.not_eq_true', decide_eq_false_iff_not]
        omega
      rw [e]
      rcases Bool.eq_false_or_eq_true (inD ((List.getD l i (⟨#[]⟩ : ByteArray)).size : Int) 1 160) with hc | hc
      rotate_left
      · simp [hc, -List.getD_eq_getElem?_getD]
      · simp only [hc, Bool.not_true, Bool.false_eq_true, if_false, Bool.false_or]
        refine (runL_any (len := i) (fun k => (l, (i : Int), (k : Int), ())) (fun k => seq (List.getD l k (⟨#[]⟩ : ByteArray)) (List.getD l i (⟨#[]⟩ : ByteArray))) (some (false, ())) (next (l, ((i + 1 : Nat) : Int), ())) ?_ ?_ (by omega)).trans rfl
        · intro next2 k hk
          simp only [spec_l22WishesOk.B9, lt_dec hk, in_dec hi, in_dec (show k < l.length by omega), Bool.or_true, if_true, Int.toNat_natCast, wrap_next hk (show i ≤ 1048576 by omega)]
        · intro next2
          simp only [spec_l22WishesOk.B9, lt_dec', Bool.false_eq_true, if_false, wrap_next hi hl]
    · intro next
      simp only [spec_l22WishesOk.B4, lt_dec', Bool.false_eq_true, if_false]

include hn in
theorem index_ok (l : List ByteArray) (a : ByteArray) (hl : l.length ≤ 1048576) : slices_Index_string_string.f n (l, a, ()) = some (fidx (fun t => seq a t) l, ()) := by
  have hn' : 18446744073709551616 ≤ n := hn
  unfold slices_Index_string_string.f
  refine (runL_find (l := l) (fun i => (l, a, (l.length : Int), (i : Int), ())) (fun t => seq a t) (fun i => some ((i : Int), ())) (some (-1, ())) ?_ ?_ (by omega)).trans ?_
  · intro next i hi
    simp only [slices_Index_string_string.B2, lt_dec hi, in_dec hi, wrap_next hi hl, if_true]
    rw [getD_nat _ _ _ hi]
  · intro next
    simp only [slices_Index_string_string.B2, lt_dec', Bool.false_eq_true, if_false]
  · simp only [fidx]
    cases l.findIdx? (fun t => seq a t) <;> rfl

theorem fidx_ge {X : Type} (p : X → Bool) (l : List X) : decide (fidx p l ≥ 0) = l.any p := by
  cases h : l.findIdx? p with
  | none =>
    rw [fidx_none h]
    rw [List.findIdx?_eq_none_iff] at h
    have : l.any p = false := by
      rw [List.any_eq_false]
      intro x hx
      rw [h x hx]; simp
    rw [this]; rfl
  | some i =>
    rw [fidx_some h]
    have hi := findIdx?_lt h
    have h' := h
    rw [List.findIdx?_eq_some_iff_getElem] at h'
    obtain ⟨hlt, hp, _⟩ := h'
    have : l.any p = true := List.any_eq_true.2 ⟨l[i], List.getElem_mem hi, hp⟩
    rw [this]
    exact decide_eq_true (by omega)

include hn in
theorem contains_ok (l : List ByteArray) (a : ByteArray) (hl : l.length ≤ 1048576) : slices_Contains_string_string.f n (l, a, ()) = some (l.any (fun t => seq a t), ()) := by
  unfold slices_Contains_string_string.f
  rw [index_ok hn l a hl]
  simp only [Option.bind_some, fidx_ge]

theorem any_take {l : List ByteArray} {i : Nat} (hi : i ≤ l.length) (a : ByteArray) : (l.take i).any (fun t => seq a t) = (List.range i).any (fun k => seq (List.getD l k (⟨#[]⟩ : ByteArray)) a) := by
  rw [Bool.eq_iff_iff, List.any_eq_true, List.any_eq_true]
  constructor
  · rintro ⟨x, hx, hs⟩
    obtain ⟨k, hk, rfl⟩ := List.mem_iff_getElem.1 hx
    simp only [List.length_take] at hk
    refine ⟨k, List.mem_range.2 (by omega), ?_⟩
    rw [getD_lt _ _ _ (by omega), seq_comm]
    simpa using hs
  · rintro ⟨k, hk, hs⟩
    have hk := List.mem_range.1 hk
    rw [getD_lt _ _ _ (by omega), seq_comm] at hs
    exact ⟨l[k], List.mem_iff_getElem.2 ⟨k, by simp; omega, by simp⟩, hs⟩

def badMsg (n : Nat) (l : List (Ty.den tRecMessage)) (of me : Int) (i : Nat) : Bool := (!msgD n (List.getD l i (Ty.zero tRecMessage)) of) || ((List.getD l i (Ty.zero tRecMessage)).2.1 != me)

def quietD (b1 b2 : Bool) (num : Int) (k : Nat) : Bool := ((!b1 && !b2) && (num == (0 : Int))) && ((k : Int) == (0 : Int))

def tailD (out b1 b2 : Bool) (num top : Int) (m w p s a : Nat) (cnt : Int) : Bool :=
  if (b1 && b2) = true then false
  else if (b1 || b2) = true then
    if ((!inD num 1 top) || (b2 && decide ((a : Int) > 0)) || (b1 && decide (((p + s : Nat) : Int) > 0))) = true then false else out
  else if ((num != 0) || decide (((p + s + a : Nat) : Int) > 0)) = true then false
  else out || (decide (((m + w : Nat) : Int) = 0) && decide (cnt = 0))

def validD (n : Nat) (r : Ty.den tRecorder) : Bool :=
  match r with
  | (me, of, out, k1, k2, msgs, wishes, b1, b2, num, ppl, sl, acks, cnt, ()) =>
    inD of 1 5 && inD me 1 of && diskOkD k1 && diskOkD k2 && decide ((List.length msgs : Int) ≤ 400) && wishesD wishes && inD cnt 0 1000000
      && !(List.range (List.length msgs)).any (badMsg n msgs of me) && numbersD ppl of && slotsOkD sl && acksD acks of
      && tailD out b1 b2 num k2.1 (List.length msgs) (List.length wishes) (List.length ppl) (List.length sl) (List.length acks) cnt
end

/-! ### the two verdicts on a recorder -/
section
variable {n : Nat} (hn : Big n)

theorem not_and3 (b : Bool) {α : Type} (x y : α) : (if (!b) = true then x else y) = if b = true then y else x := by cases b <;> rfl

include hn in
theorem specValid_ok (r : Ty.den tRecorder) (hs : small 1048576 tRecorder r) : spec_RecValid.f n (r, ()) = some (validD n r, ()) := by
  have hn' : 18446744073709551616 ≤ n := hn
  obtain ⟨me, of, out, k1, k2, msgs, wishes, b1, b2, num, ppl, sl, acks, cnt, ⟨⟩⟩ := r
  obtain ⟨_, _, _, hk1, hk2, hm, hw, _, _, _, hp, hsl, ha, _⟩ := hs
  change Int at me of num cnt
  have hm : small 1048576 (.slice tRecMessage) msgs := hm
  have hml : List.length msgs ≤ 1048576 := hm.1
  have hwl : List.length wishes ≤ 1048576 := hw.1
  have hpl : List.length ppl ≤ 1048576 := hp.1
  have hsll : List.length sl ≤ 1048576 := hsl.1
  have hal : List.length acks ≤ 1048576 := ha.1
  unfold spec_RecValid.f validD
  simp only [specIn_ok, specDisk_ok hn k1 hk1.2.2.1.1, specDisk_ok hn k2 hk2.2.2.1.1, specWishes_ok hn wishes hwl, Option.bind_some]
  rcases Bool.eq_false_or_eq_true (inD of 1 5) with c1 | c1
  rotate_left
  · simp [c1, tzero]
  rcases Bool.eq_false_or_eq_true (inD me 1 of) with c2 | c2
  rotate_left
  · simp [c1, c2, tzero]
  rcases Bool.eq_false_or_eq_true (diskOkD k1) with c3 | c3
  rotate_left
  · simp [c1, c2, c3, tzero]
  rcases Bool.eq_false_or_eq_true (diskOkD k2) with c4 | c4
  rotate_left
  · simp [c1, c2, c3, c4, tzero]
  by_cases c5 : (List.length msgs : Int) ≤ 400
  rotate_left
  · have e : decide ((List.length msgs : Int) > 400) = true := decide_eq_true (by omega)
    simp [c1, c2, c3, c4, e, tzero, decide_eq_false c5]
  have e5 : decide ((List.length msgs : Int) > 400) = false := decide_eq_false (by omega)
  rcases Bool.eq_false_or_eq_true (wishesD wishes) with c6 | c6
  rotate_left
  · simp [c1, c2, c3, c4, e5, c6, tzero]
  rcases Bool.eq_false_or_eq_true (inD cnt 0 1000000) with c7 | c7
  rotate_left
  · simp [c1, c2, c3, c4, e5, c6, c7, tzero]
  simp only [c1, c2, c3, c4, e5, c6, c7, decide_eq_true c5, Bool.not_true, Bool.not_false, Bool.or_false, Bool.or_true, if_true, Option.bind_some, Bool.false_eq_true, if_false, Bool.true_and]
  refine (runL_any (len := List.length msgs) (fun i => ((me, of, out, k1, k2, msgs, wishes, b1, b2, num, ppl, sl, acks, cnt, ()), (i : Int), ())) (badMsg n msgs of me) (some (false, ()))
    (some (numbersD ppl of && slotsOkD sl && acksD acks of && tailD out b1 b2 num k2.1 (List.length msgs) (List.length wishes) (List.length ppl) (List.length sl) (List.length acks) cnt, ())) ?_ ?_ (by omega)).trans ?_
  · intro next i hi
    have he : small 1048576 tRecMessage (List.getD msgs i (Ty.zero tRecMessage)) := by
      rw [getD_lt _ _ _ hi]
      exact hm.2 _ (List.getElem_mem hi)
    simp only [spec_RecValid.B4, lt_dec hi, in_dec hi, Bool.or_true, if_true, Int.toNat_natCast, (msgs_ok hn _ of he.2.2.2.2.2.2.2.1.1).1, Option.bind_some, wrap_next hi hml]
    rfl
  · intro next
    simp only [spec_RecValid.B4, lt_dec', Bool.false_eq_true, if_false, specNumbers_ok hn ppl of hpl, specSlots_ok hn sl hsll, specAcks_ok hn acks of ha, Option.bind_some, spec_l22Quiet.f, specIn_ok]
    rcases Bool.eq_false_or_eq_true (numbersD ppl of) with d1 | d1
    rotate_left
    · simp [d1, tzero]
    rcases Bool.eq_false_or_eq_true (slotsOkD sl) with d2 | d2
    rotate_left
    · simp [d1, d2, tzero]
    rcases Bool.eq_false_or_eq_true (acksD acks of) with d3 | d3
    rotate_left
    · simp [d1, d2, d3, tzero]
    have hc : 0 ≤ cnt ∧ cnt ≤ 1000000 := by
      unfold inD at c7
      simp only [Bool.and_eq_true, decide_eq_true_eq] at c7
      exact c7
    have hpl0 : (List.length ppl : Int) ≤ 1048576 := by omega
    have hsl0 : (List.length sl : Int) ≤ 1048576 := by omega
    have hal0 : (List.length acks : Int) ≤ 1048576 := by omega
    have hml0 : (List.length msgs : Int) ≤ 1048576 := by omega
    have hwl0 : (List.length wishes : Int) ≤ 1048576 := by omega
    have w1 : IntKind.i64.wrap ((List.length ppl : Int) + (List.length sl : Int)) = (List.length ppl : Int) + (List.length sl : Int) := wrap_eq (by omega) (by omega)
    have w2 : IntKind.i64.wrap ((List.length ppl : Int) + (List.length sl : Int) + (List.length acks : Int)) = (List.length ppl : Int) + (List.length sl : Int) + (List.length acks : Int) := wrap_eq (by omega) (by omega)
    have w3 : IntKind.i64.wrap ((List.length msgs : Int) + (List.length wishes : Int)) = (List.length msgs : Int) + (List.length wishes : Int) := wrap_eq (by omega) (by omega)
    have w4 : IntKind.i64.wrap ((List.length msgs : Int) + (List.length wishes : Int) + cnt) = (List.length msgs : Int) + (List.length wishes : Int) + cnt := wrap_eq (by omega) (by omega)
    simp only [d1, d2, d3, w1, w2, w3, w4, tailD]
    have hq : ((List.length msgs : Int) + (List.length wishes : Int) + cnt == 0) = (decide ((List.length msgs : Int) + (List.length wishes : Int) = 0) && decide (cnt = 0)) := by
      rw [Bool.eq_iff_iff, beq_iff_eq, Bool.and_eq_true, decide_eq_true_eq, decide_eq_true_eq]; omega
    cases b1 <;> cases b2
    · by_cases hnum : num = 0
      · by_cases hz : (List.length ppl : Int) + (List.length sl : Int) + (List.length acks : Int) = 0
        · cases out <;> simp [hnum, hz, hq]
        · have : 0 < (List.length ppl : Int) + (List.length sl : Int) + (List.length acks : Int) := by omega
          cases out <;> simp [hnum, hz, this]
          all_goals omega
      · simp [hnum]
    · cases out <;> cases inD num 1 k2.1 <;> by_cases hh : 0 < List.length acks <;> simp [hh]
    · cases out <;> cases inD num 1 k2.1 <;> by_cases hh : 0 < (List.length ppl : Int) + (List.length sl : Int) <;> simp [hh]
    · simp
  · cases (List.range (List.length msgs)).any (badMsg n msgs of me) <;> simp

include hn in
theorem implValid_ok (r : Ty.den tRecorder) (hs : small 1048576 tRecorder r) : impl_RecValid.f n (r, ()) = some (validD n r, ()) := by
  have hn' : 18446744073709551616 ≤ n := hn
  obtain ⟨me, of, out, k1, k2, msgs, wishes, b1, b2, num, ppl, sl, acks, cnt, ⟨⟩⟩ := r
  obtain ⟨_, _, _, hk1, hk2, hm, hw, _, _, _, hp, hsl, ha, _⟩ := hs
  change Int at me of num cnt
  have hm : small 1048576 (.slice tRecMessage) msgs := hm
  have ha : small 1048576 (.slice tRecAck) acks := ha
  have hml : List.length msgs ≤ 1048576 := hm.1
  have hwl : List.length wishes ≤ 1048576 := hw.1
  have hpl : List.length ppl ≤ 1048576 := hp.1
  have hsll : List.length sl ≤ 1048576 := hsl.1
  have hal : List.length acks ≤ 1048576 := ha.1
  unfold impl_RecValid.f validD
  simp only [implIn_ok, implDisk_ok hn k1 hk1.2.2.1.1, implDisk_ok hn k2 hk2.2.2.1.1, implNumbers_ok hn ppl of hpl, implSlots_ok hn sl hsll, Option.bind_some]
  rcases Bool.eq_false_or_eq_true (inD of 1 5) with c1 | c1
  rotate_left
  · simp [c1, tzero]
  rcases Bool.eq_false_or_eq_true (inD me 1 of) with c2 | c2
  rotate_left
  · simp [c1, c2, tzero]
  rcases Bool.eq_false_or_eq_true (diskOkD k1) with c3 | c3
  rotate_left
  · simp [c1, c2, c3, tzero]
  rcases Bool.eq_false_or_eq_true (diskOkD k2) with c4 | c4
  rotate_left
  · simp [c1, c2, c3, c4, tzero]
  by_cases c5 : (List.length msgs : Int) ≤ 400
  rotate_left
  · have e : decide ((List.length msgs : Int) > 400) = true := decide_eq_true (by omega)
    simp [c1, c2, c3, c4, e, tzero, decide_eq_false c5]
  have e5 : decide ((List.length msgs : Int) > 400) = false := decide_eq_false (by omega)
  by_cases c6 : (List.length wishes : Int) > 20
  · have e : wishesD wishes = false := by unfold wishesD; rw [decide_eq_true c6]; rfl
    simp [c1, c2, c3, c4, e5, e, tzero, decide_eq_true c6]
  have e6 : wishesD wishes = !(List.range (List.length wishes)).any (badWish wishes) := by unfold wishesD; rw [decide_eq_false c6]; rfl
  rcases Bool.eq_false_or_eq_true (inD cnt 0 1000000) with c7 | c7
  rotate_left
  · simp [c1, c2, c3, c4, e5, c7, tzero, decide_eq_false c6]
  rcases Bool.eq_false_or_eq_true (numbersD ppl of) with d1 | d1
  rotate_left
  · simp [c1, c2, c3, c4, e5, c7, d1, tzero, decide_eq_false c6]
  rcases Bool.eq_false_or_eq_true (slotsOkD sl) with d2 | d2
  rotate_left
  · simp [c1, c2, c3, c4, e5, c7, d1, d2, tzero, decide_eq_false c6]
  simp only [c1, c2, c3, c4, e5, e6, c7, d1, d2, decide_eq_true c5, decide_eq_false c6, Bool.not_true, Bool.not_false, Bool.or_false, Bool.or_true, if_true, Option.bind_some, Bool.false_eq_true, if_false, Bool.true_and, Bool.and_true]
  refine (runL_any (len := List.length msgs) (fun i => ((me, of, out, k1, k2, msgs, wishes, b1, b2, num, ppl, sl, acks, cnt, ()), msgs, (List.length msgs : Int), (i : Int), ())) (badMsg n msgs of me) (some (false, ()))
    (some (!(List.range (List.length wishes)).any (badWish wishes) && acksD acks of && tailD out b1 b2 num k2.1 (List.length msgs) (List.length wishes) (List.length ppl) (List.length sl) (List.length acks) cnt, ())) ?_ ?_ (by omega)).trans ?_
  · intro next i hi
    have he : small 1048576 tRecMessage (List.getD msgs i (Ty.zero tRecMessage)) := by
      rw [getD_lt _ _ _ hi]
      exact hm.2 _ (List.getElem_mem hi)
    simp only [impl_RecValid.B4, lt_dec hi, in_dec hi, Bool.or_true, if_true, Int.toNat_natCast, (msgs_ok hn _ of he.2.2.2.2.2.2.2.1.1).2, Option.bind_some, wrap_next hi hml]
    rfl
  · intro next
    simp only [impl_RecValid.B4, lt_dec', Bool.false_eq_true, if_false]
    refine (runL_any (len := List.length wishes) (fun i => ((me, of, out, k1, k2, msgs, wishes, b1, b2, num, ppl, sl, acks, cnt, ()), wishes, (List.length wishes : Int), (i : Int), ())) (badWish wishes) (some (false, ()))
      (some (acksD acks of && tailD out b1 b2 num k2.1 (List.length msgs) (List.length wishes) (List.length ppl) (List.length sl) (List.length acks) cnt, ())) ?_ ?_ (by omega)).trans ?_
    · intro next i hi
      have hcut : cut wishes (Int.toNat 0) (i - Int.toNat 0) = List.take i wishes := by simp [cut]
      have hb : decide (0 ≤ (0 : Int) ∧ (0 : Int) ≤ (i : Int) ∧ (i : Int) ≤ (List.length wishes : Int)) = true := decide_eq_true (by omega)
      have hlt : (List.take i wishes).length ≤ 1048576 := by rw [List.length_take]; omega
      simp only [impl_RecValid.B10, lt_dec hi, in_dec hi, implIn_ok, Bool.or_true, if_true, Int.toNat_natCast, hb, hcut, contains_ok hn _ _ hlt, Option.bind_some, wrap_next hi hwl, badWish]
      rw [any_take (by omega)]
      rcases Bool.eq_false_or_eq_true (inD ((List.getD wishes i (⟨#[]⟩ : ByteArray)).size : Int) 1 160) with hc | hc
      · simp only [hc, Bool.not_true, Bool.not_false, if_true, Option.bind_some]
      · simp only [hc, Bool.not_true, Bool.not_false, if_true, Option.bind_some, Bool.false_eq_true, if_false, Bool.true_or]
    · intro next
      simp only [impl_RecValid.B10, lt_dec', Bool.false_eq_true, if_false]
      refine (runL_any (len := List.length acks) (fun i => ((me, of, out, k1, k2, msgs, wishes, b1, b2, num, ppl, sl, acks, cnt, ()), acks, (List.length acks : Int), (i : Int), ())) (badAck acks of) (some (false, ()))
        (some (tailD out b1 b2 num k2.1 (List.length msgs) (List.length wishes) (List.length ppl) (List.length sl) (List.length acks) cnt, ())) ?_ ?_ (by omega)).trans ?_
      · intro next i hi
        have he : small 1048576 tRecAck (List.getD acks i (Ty.zero tRecAck)) := by
          rw [getD_lt _ _ _ hi]
          exact ha.2 _ (List.getElem_mem hi)
        simp only [impl_RecValid.B16, implIn_ok, implNumbers_ok hn _ _ he.2.1.1, lt_dec hi, in_dec hi, Option.bind_some, Bool.or_true, if_true, Int.toNat_natCast, badAck, wrap_next hi hal]
        rcases Bool.eq_false_or_eq_true (inD (List.getD acks i (Ty.zero tRecAck)).1 1 120) with hc | hc
        rotate_left
        · simp [hc, -List.getD_eq_getElem?_getD]
        · simp only [hc, Bool.not_true, Bool.not_false, if_true, Option.bind_some, Bool.false_or]
          rcases Bool.eq_false_or_eq_true (numbersD (List.getD acks i (Ty.zero tRecAck)).2.1 of) with hd | hd
          rotate_left
          · simp [hd, -List.getD_eq_getElem?_getD]
          · simp only [hd, Bool.not_true, Bool.not_false, if_true, Option.bind_some, Bool.false_or]
            by_cases h0 : 0 < i
            · have e : decide ((i : Int) > 0) = true := decide_eq_true (by omega)
              simp only [e, decide_eq_true h0, pred_wrap h0 (by omega), pred_in h0 hi, Int.toNat_natCast, Bool.or_true, if_true, Bool.true_and]
              try rfl
            · have e : decide ((i : Int) > 0) = false := decide_eq_false (by omega)
              simp only [e, decide_eq_false h0, Bool.and_false, Bool.not_false, Bool.true_or, if_true, Bool.false_and]
              try rfl
      · intro next
        simp only [impl_RecValid.B16, lt_dec', Bool.false_eq_true, if_false, implIn_ok, Option.bind_some]
        have hc : 0 ≤ cnt ∧ cnt ≤ 1000000 := by
          unfold inD at c7
          simp only [Bool.and_eq_true, decide_eq_true_eq] at c7
          exact c7
        have w1 : IntKind.i64.wrap ((List.length ppl : Int) + (List.length sl : Int)) = (List.length ppl : Int) + (List.length sl : Int) := wrap_eq (by omega) (by omega)
        have w2 : IntKind.i64.wrap ((List.length ppl : Int) + (List.length sl : Int) + (List.length acks : Int)) = (List.length ppl : Int) + (List.length sl : Int) + (List.length acks : Int) := wrap_eq (by omega) (by omega)
        have w3 : IntKind.i64.wrap ((List.length msgs : Int) + (List.length wishes : Int)) = (List.length msgs : Int) + (List.length wishes : Int) := wrap_eq (by omega) (by omega)
        simp only [w1, w2, w3, tailD]
        cases b1 <;> cases b2
        · by_cases hnum : num = 0
          · by_cases hz : (List.length ppl : Int) + (List.length sl : Int) + (List.length acks : Int) > 0
            · cases out <;> simp [hnum, hz]
            · cases out
              · simp [hnum, hz]
                rfl
              · simp [hnum, hz]
          · simp [hnum]
        · cases out <;> cases inD num 1 k2.1 <;> by_cases hh : 0 < List.length acks <;> simp [hh]
        · cases out <;> cases inD num 1 k2.1 <;> by_cases hh : 0 < (List.length ppl : Int) + (List.length sl : Int) <;> simp [hh]
        · simp
      · unfold acksD
        cases (List.range (List.length acks)).any (badAck acks of) <;> simp
    · cases (List.range (List.length wishes)).any (badWish wishes) <;> simp
  · cases (List.range (List.length msgs)).any (badMsg n msgs of me) <;> simp
end

section
variable {n : Nat}
theorem int_nat {a : Int} {l : Nat} (h : (decide (a ≥ 0) && decide (a ≤ (l : Int))) = true) : ∃ k : Nat, a = (k : Int) ∧ k ≤ l := by
  rw [Bool.and_eq_true, decide_eq_true_eq, decide_eq_true_eq] at h
  exact ⟨a.toNat, by omega, by omega⟩

theorem diskOk_known {d : Ty.den tRecDisk} (h : diskOkD d = true) : ∃ k : Nat, @Eq Int d.2.1 (k : Int) ∧ k ≤ List.length d.2.2.1 := by
  rcases Bool.eq_false_or_eq_true ((decide (d.2.1 ≥ (0 : Int))) && (decide (d.2.1 ≤ (List.length d.2.2.1 : Int)))) with hc | hc
  · exact int_nat (a := d.2.1) hc
  · exfalso
    unfold diskOkD at h
    rw [if_pos (by rw [hc]; simp only [Bool.not_false, Bool.or_true])] at h
    cases h

theorem lt_known {i k : Nat} {a : Int} (hk : a = (k : Int)) (h : i < k) : decide ((i : Int) < a) = true := decide_eq_true (by omega)
theorem lt_known' {k : Nat} {a : Int} (hk : a = (k : Int)) : decide ((k : Int) < a) = false := decide_eq_false (by omega)
theorem in_known {k l : Nat} {a : Int} (hk : a = (k : Int)) (h : k ≤ l) : decide (0 ≤ (0 : Int) ∧ (0 : Int) ≤ a ∧ a ≤ (l : Int)) = true := decide_eq_true (by omega)

theorem valid_disk {r : Ty.den tRecorder} (h : validD n r = true) : diskOkD r.2.2.2.1 = true ∧ diskOkD r.2.2.2.2.1 = true := by
  obtain ⟨me, of, out, k1, k2, msgs, wishes, b1, b2, num, ppl, sl, acks, cnt, ⟨⟩⟩ := r
  simp only [validD, Bool.and_eq_true] at h
  exact ⟨h.1.1.1.1.1.1.1.1.1.2, h.1.1.1.1.1.1.1.1.2⟩

end

/-! ### copies -/
section
variable {n : Nat} (hn : Big n)

theorem app_small {m k b : Nat} (h : m ≤ 2097152) (hk : k ≤ 2097152) (hb : b ≤ 1000) : appBound m k b = true := by
  unfold appBound
  rw [Nat.ble_eq]
  have : (m + k) * b ≤ 4194304 * 1000 := Nat.mul_le_mul (by omega) hb
  omega

theorem take_app {α : Type} (l : List α) (i : Nat) (z : α) (h : i < l.length) : l.take i ++ [l.getD i z] = l.take (i + 1) := by
  rw [List.getD_eq_getElem?_getD, List.getElem?_eq_getElem h, Option.getD_some, List.take_append_getElem h]

theorem runL_copy {S C Q X : Type} {B : (S → Option Q) → C → S → Option Q} {cs : C} {l : List X} (st : Nat → List X → S) (dn : List X → Option Q)
    (hstep : ∀ (next : S → Option Q) (i : Nat), i < l.length → B next cs (st i (l.take i)) = next (st (i + 1) (l.take (i + 1))))
    (hend : ∀ (next : S → Option Q), B next cs (st l.length l) = dn l) {k : Nat} (hk : l.length < k) : runL B cs k (st 0 []) = dn l := by
  have := runL_fold (B := B) (cs := cs) (len := l.length) (A := Unit) (fun i _ => st i (l.take i)) (fun _ _ => True) (fun _ _ => ()) (fun _ => dn l) (fun next i a hi _ => ⟨trivial, hstep next i hi⟩) (fun next a _ => by rw [List.take_length]; exact hend next) hk (a := ()) trivial
  exact this

theorem specSlots_copy (l : List (Ty.den tRecSlot)) (h : l.length ≤ 1048576) : spec_l21Slots.f n (l, ()) = some (l, ()) := by
  unfold spec_l21Slots.f
  rw [if_pos (app_small (by simp) (by simpa using (by omega : l.length ≤ 2097152)) (by omega)), List.nil_append]

theorem implSlots_copy (l : List (Ty.den tRecSlot)) (h : l.length ≤ 1048576) : impl_cloneSlots.f n (l, ()) = some (l, ()) := by
  unfold impl_cloneSlots.f
  rw [if_pos (app_small (by omega) (by simpa using (by omega : l.length ≤ 2097152)) (by omega))]

theorem specDisk_copy (d : Ty.den tRecDisk) (h : small 1048576 tRecDisk d) : spec_l21Disk.f n (d, ()) = some (d, ()) := by
  obtain ⟨a, b, l, ⟨⟩⟩ := d
  have hl : l.length ≤ 1048576 := h.2.2.1.1
  unfold spec_l21Disk.f
  rw [show spec_l21Slots.f n (l, ()) = some (l, ()) from specSlots_copy l hl]
  rfl

theorem implDisk_copy (d : Ty.den tRecDisk) (h : small 1048576 tRecDisk d) : impl_cloneDisk.f n (d, ()) = some (d, ()) := by
  obtain ⟨a, b, l, ⟨⟩⟩ := d
  have hl : l.length ≤ 1048576 := h.2.2.1.1
  unfold impl_cloneDisk.f
  rw [show impl_cloneSlots.f n (l, ()) = some (l, ()) from implSlots_copy l hl]
  rfl

theorem small_getD {t : Ty} {l : List t.den} (h : small 1048576 (.slice t) l) {i : Nat} (hi : i < l.length) (z : t.den) : small 1048576 t (l.getD i z) := by
  rw [List.getD_eq_getElem?_getD, List.getElem?_eq_getElem hi]
  exact h.2 _ (List.getElem_mem hi)

include hn in
theorem implMsgs_copy (l : List (Ty.den tRecMessage)) (h : small 1048576 (.slice tRecMessage) l) : impl_cloneMessages.f n (l, ()) = some (l, ()) := by
  have hn' : 18446744073709551616 ≤ n := hn
  have hl : l.length ≤ 1048576 := h.1
  unfold impl_cloneMessages.f
  refine runL_copy (l := l) (fun i o => (o, l, (l.length : Int), (i : Int), ())) (fun o => some (o, ())) ?_ ?_ (by omega)
  · intro next i hi
    have hs := small_getD h hi (Ty.zero tRecMessage)
    have hm := implSlots_copy (n := n) (l.getD i (Ty.zero tRecMessage)).2.2.2.2.2.2.2.1 hs.2.2.2.2.2.2.2.1.1
    have ht := take_app l i (Ty.zero tRecMessage) hi
    simp only [impl_cloneMessages.B3]
    rw [if_pos (lt_dec hi), if_pos (in_dec hi), Int.toNat_natCast, hm, Option.bind_some, if_pos (app_small (by rw [List.length_take]; omega) (by simp) (by omega)), wrap_next hi hl, ← ht]
  · intro next
    simp only [impl_cloneMessages.B3]
    rw [if_neg (by rw [lt_dec']; decide)]

include hn in
theorem impl_copy (r : Ty.den tRecorder) (h : small 1048576 tRecorder r) : impl_clone_rec.f n (r, ()) = some (r, ()) := by
  have hn' : 18446744073709551616 ≤ n := hn
  obtain ⟨me, of, out, k1, k2, msgs, wishes, b1, b2, num, ppl, sl, acks, cnt, ⟨⟩⟩ := r
  obtain ⟨_, _, _, h1, h2, h3, h4, _, _, _, h5, h6, h7, _⟩ := h
  have hl : acks.length ≤ 1048576 := h7.1
  have hw : wishes.length ≤ 1048576 := h4.1
  have hp : ppl.length ≤ 1048576 := h5.1
  unfold impl_clone_rec.f
  rw [implDisk_copy k1 h1, Option.bind_some, implDisk_copy k2 h2, Option.bind_some, implMsgs_copy hn msgs h3, Option.bind_some, if_pos (app_small (by omega) (show wishes.length ≤ 2097152 by omega) (by omega)), if_pos (app_small (by omega) (show ppl.length ≤ 2097152 by omega) (by omega)), implSlots_copy sl h6.1, Option.bind_some]
  obtain ⟨k11, k12, k13, ⟨⟩⟩ := k1
  obtain ⟨k21, k22, k23, ⟨⟩⟩ := k2
  refine runL_copy (l := acks) (fun i o => ((me, of, out, k11, k12, k13, k21, k22, k23, msgs, wishes, b1, b2, num, ppl, sl, acks, cnt, ()), ((0 : Int), (0 : Int), false, (0 : Int), (0 : Int), [], (0 : Int), (0 : Int), [], [], [], false, false, (0 : Int), [], [], [], (0 : Int), ()), o, acks, (acks.length : Int), (i : Int), ()))
    (fun o => some ((me, of, out, (k11, k12, k13, ()), (k21, k22, k23, ()), msgs, wishes, b1, b2, num, ppl, sl, o, cnt, ()), ())) ?_ ?_ (by omega)
  · intro next i hi
    have hs := small_getD h7 hi (Ty.zero tRecAck)
    have hl2 : (List.getD acks i (Ty.zero tRecAck)).2.1.length ≤ 1048576 := hs.2.1.1
    have ht := take_app acks i (Ty.zero tRecAck) hi
    simp only [impl_clone_rec.B8]
    rw [if_pos (lt_dec hi), if_pos (in_dec hi), Int.toNat_natCast, if_pos (app_small (by omega) (by omega) (by omega)), if_pos (app_small (by rw [List.length_take]; omega) (by simp) (by omega)), wrap_next hi hl, ← ht]
  · intro next
    simp only [impl_clone_rec.B8]
    rw [if_neg (by rw [lt_dec']; decide)]
end

section
variable {n : Nat} (hn : Big n)

theorem specMsg_copy (d : Ty.den tRecMessage) (h : small 1048576 tRecMessage d) : spec_l22Message.f n (d, ()) = some (d, ()) := by
  obtain ⟨a, b, c, d, e, f, t, l, ⟨⟩⟩ := d
  have hl : l.length ≤ 1048576 := h.2.2.2.2.2.2.2.1.1
  unfold spec_l22Message.f
  rw [show spec_l21Slots.f n (l, ()) = some (l, ()) from specSlots_copy l hl]
  rfl

include hn in
theorem specMsgs_copy (l : List (Ty.den tRecMessage)) (h : small 1048576 (.slice tRecMessage) l) : spec_l22Messages.f n (l, ()) = some (l, ()) := by
  have hn' : 18446744073709551616 ≤ n := hn
  have hl : l.length ≤ 1048576 := h.1
  unfold spec_l22Messages.f
  refine runL_copy (l := l) (fun i o => (l, o, (i : Int), ())) (fun o => some (o, ())) ?_ ?_ (by omega)
  · intro next i hi
    have hm := specMsg_copy (n := n) (l.getD i (Ty.zero tRecMessage)) (small_getD h hi _)
    simp only [spec_l22Messages.B3]
    rw [if_pos (lt_dec hi), if_pos (in_dec hi), Int.toNat_natCast, hm, Option.bind_some, if_pos (app_small (by rw [List.length_take]; omega) (by simp) (by omega)), wrap_next hi hl, take_app l i _ hi]
  · intro next
    simp only [spec_l22Messages.B3]
    rw [if_neg (by rw [lt_dec']; decide)]

include hn in
theorem spec_copy (r : Ty.den tRecorder) (h : small 1048576 tRecorder r) : spec_l22Copy.f n (r, ()) = some (r, ()) := by
  have hn' : 18446744073709551616 ≤ n := hn
  obtain ⟨me, of, out, k1, k2, msgs, wishes, b1, b2, num, ppl, sl, acks, cnt, ⟨⟩⟩ := r
  obtain ⟨_, _, _, h1, h2, h3, h4, _, _, _, h5, h6, h7, _⟩ := h
  have hl : acks.length ≤ 1048576 := h7.1
  have hw : wishes.length ≤ 1048576 := h4.1
  have hp : ppl.length ≤ 1048576 := h5.1
  unfold spec_l22Copy.f
  rw [specDisk_copy k1 h1, Option.bind_some, specDisk_copy k2 h2, Option.bind_some, specMsgs_copy hn msgs h3, Option.bind_some, if_pos (app_small (by simp) (show wishes.length ≤ 2097152 by omega) (by omega)), if_pos (app_small (by simp) (show ppl.length ≤ 2097152 by omega) (by omega)), specSlots_copy sl h6.1, Option.bind_some]
  obtain ⟨k11, k12, k13, ⟨⟩⟩ := k1
  obtain ⟨k21, k22, k23, ⟨⟩⟩ := k2
  simp only [List.nil_append]
  refine runL_copy (l := acks) (fun i o => ((me, of, out, k11, k12, k13, k21, k22, k23, msgs, wishes, b1, b2, num, ppl, sl, acks, cnt, ()), ((0 : Int), (0 : Int), false, (0 : Int), (0 : Int), [], (0 : Int), (0 : Int), [], [], [], false, false, (0 : Int), [], [], [], (0 : Int), ()), o, (i : Int), ()))
    (fun o => some ((me, of, out, (k11, k12, k13, ()), (k21, k22, k23, ()), msgs, wishes, b1, b2, num, ppl, sl, o, cnt, ()), ())) ?_ ?_ (by omega)
  · intro next i hi
    have hs := small_getD h7 hi (Ty.zero tRecAck)
    have hl2 : (List.getD acks i (Ty.zero tRecAck)).2.1.length ≤ 1048576 := hs.2.1.1
    have ht := take_app acks i (Ty.zero tRecAck) hi
    simp only [spec_l22Copy.B9]
    rw [if_pos (lt_dec hi), if_pos (by rw [in_dec hi]; rfl), if_pos (by rw [in_dec hi]; rfl), Int.toNat_natCast, if_pos (app_small (by simp) (by omega) (by omega)), if_pos (app_small (by rw [List.length_take]; omega) (by simp) (by omega)), wrap_next hi hl, ← ht, List.nil_append]
  · intro next
    simp only [spec_l22Copy.B9]
    rw [if_neg (by rw [lt_dec']; decide)]

end

/-! ### wishes -/
section
variable {n : Nat} (hn : Big n)

theorem seqGetD {l : List (Ty.den tRecSlot)} {i : Nat} (hi : i < l.length) (z : Ty.den tRecSlot) : l.getD i z = l[i] := by
  rw [List.getD_eq_getElem?_getD, List.getElem?_eq_getElem hi]; rfl

def hasP (t : ByteArray) (s : Ty.den tRecSlot) : Bool := (decide (s.1 > (0 : Int))) && seq s.2.1 t
def textP (t : ByteArray) (s : Ty.den tRecSlot) : Bool := seq s.2.1 t

theorem find_any {X : Type} (p : X → Bool) (l : List X) : (l.findIdx? p).elim (some (false, ())) (fun _ => some (true, ())) = some (l.any p, ()) := by
  cases h : l.findIdx? p with
  | none =>
    rw [List.findIdx?_eq_none_iff] at h
    have : l.any p = false := by
      rw [List.any_eq_false]
      intro x hx
      rw [h x hx]
      decide
    rw [this]
    rfl
  | some i =>
    rw [List.findIdx?_eq_some_iff_getElem] at h
    obtain ⟨hi, hp, _⟩ := h
    have : l.any p = true := List.any_eq_true.2 ⟨l[i], List.getElem_mem hi, hp⟩
    rw [this]
    rfl

include hn in
theorem specHas_ok (l : List (Ty.den tRecSlot)) (t : ByteArray) (hl : l.length ≤ 1048576) : spec_l23Has.f n (l, t, ()) = some (l.any (hasP t), ()) := by
  have hn' : 18446744073709551616 ≤ n := hn
  unfold spec_l23Has.f
  refine (runL_find (l := l) (fun i => (l, t, (i : Int), ())) (hasP t) (fun i => some (true, ())) (some (false, ())) ?_ ?_ (by omega)).trans (find_any _ _)
  · intro next i hi
    simp only [spec_l23Has.B2, lt_dec hi, in_dec hi, Int.toNat_natCast, Bool.or_true, if_true, wrap_next hi hl, seqGetD hi, hasP]
    rfl
  · intro next
    simp only [spec_l23Has.B2, lt_dec', Bool.false_eq_true, if_false]

include hn in
theorem implKnown_ok (r : Ty.den tRecorder) (t : ByteArray) (k : Nat) (hs : small 1048576 tRecorder r) (hk : @Eq Int r.2.2.2.2.1.2.1 (k : Int)) (hkl : k ≤ List.length r.2.2.2.2.1.2.2.1) : impl_Recorder_known.f n (some r, t, ()) = some ((List.take k r.2.2.2.2.1.2.2.1).any (textP t), ()) := by
  have hn' : 18446744073709551616 ≤ n := hn
  have hl : List.length r.2.2.2.2.1.2.2.1 ≤ 1048576 := hs.2.2.2.2.1.2.2.1.1
  unfold impl_Recorder_known.f
  simp only [Option.isSome_some, Option.getD_some, Bool.or_true, if_true]
  rw [if_pos (by rw [Bool.or_eq_true]; exact .inr (in_known hk hkl))]
  have e0 : cut r.2.2.2.2.1.2.2.1 (Int.toNat (0 : Int)) (Int.toNat r.2.2.2.2.1.2.1 - Int.toNat (0 : Int)) = List.take k r.2.2.2.2.1.2.2.1 := by
    have e1 : Int.toNat r.2.2.2.2.1.2.1 = k := by rw [hk]; rfl
    rw [e1]
    rfl
  rw [e0]
  have e2 : (List.take k r.2.2.2.2.1.2.2.1).length ≤ 1048576 := by rw [List.length_take]; omega
  generalize List.take k r.2.2.2.2.1.2.2.1 = l at e2
  refine (runL_find (l := l) (fun i => (t, l, (l.length : Int), (i : Int), ())) (textP t) (fun i => some (true, ())) (some (false, ())) ?_ ?_ (by omega)).trans (find_any _ _)
  · intro next i hi
    simp only [impl_Recorder_known.B2, lt_dec hi, in_dec hi, Int.toNat_natCast, if_true, wrap_next hi e2, seqGetD hi, textP]
    rfl
  · intro next
    simp only [impl_Recorder_known.B2, lt_dec', Bool.false_eq_true, if_false]

theorem badSlot_pos {l : List (Ty.den tRecSlot)} {i : Nat} (h : badSlot l i = false) : (0 : Int) ≤ (l.getD i (Ty.zero tRecSlot)).1 := by
  unfold badSlot at h
  rw [Int.toNat_natCast] at h
  simp only [Bool.or_eq_false_iff, Bool.not_eq_false', Bool.and_eq_true, decide_eq_true_eq] at h
  exact h.1.1.1

theorem diskOk_pos {d : Ty.den tRecDisk} {k : Nat} (h : diskOkD d = true) (hk : @Eq Int d.2.1 (k : Int)) (hkl : k ≤ List.length d.2.2.1) : ∀ s ∈ List.take k d.2.2.1, (0 : Int) < s.1 := by
  intro s hs
  obtain ⟨i, hi, rfl⟩ := List.mem_iff_getElem.1 hs
  rw [List.length_take] at hi
  have hik : i < k := by omega
  have hil : i < List.length d.2.2.1 := by omega
  unfold diskOkD at h
  rcases Bool.eq_false_or_eq_true (((!((decide (d.1 ≥ (0 : Int))) && (decide (d.1 ≤ (1000000 : Int))))) || (!(if (!(!((decide (d.1 ≥ (0 : Int))) && (decide (d.1 ≤ (1000000 : Int)))))) = true then slotsOkD d.2.2.1 else false))) || (!((decide (d.2.1 ≥ (0 : Int))) && (decide (d.2.1 ≤ (List.length d.2.2.1 : Int)))))) with hc | hc
  · rw [if_pos hc] at h
    exact absurd h Bool.false_ne_true
  · rw [if_neg (by rw [hc]; decide)] at h
    simp only [Bool.or_eq_false_iff, Bool.not_eq_false'] at hc
    obtain ⟨⟨h1, h2⟩, _⟩ := hc
    rw [if_pos (by rw [h1]; rfl)] at h2
    unfold slotsOkD at h2
    rcases Bool.eq_false_or_eq_true (decide ((List.length d.2.2.1 : Int) > (120 : Int))) with hc | hc
    · rw [if_pos hc] at h2
      exact absurd h2 Bool.false_ne_true
    · rw [if_neg (by rw [hc]; decide)] at h2
      rw [Bool.not_eq_true', List.any_eq_false] at h2
      rw [Bool.not_eq_true', List.any_eq_false] at h
      have g1 := badSlot_pos (Bool.eq_false_iff.2 (h2 i (List.mem_range.2 hil)))
      have g2 : badDisk d i = false := Bool.eq_false_iff.2 (h i (List.mem_range.2 hil))
      unfold badDisk at g2
      rw [Int.toNat_natCast] at g2
      simp only [Bool.or_eq_false_iff, Bool.and_eq_false_iff] at g2
      rw [seqGetD hil] at g1 g2
      rw [List.getElem_take]
      rcases g2.2 with g | g
      · rw [lt_known hk hik] at g
        cases g
      · have hne : ¬ d.2.2.1[i].1 = (0 : Int) := by
          intro he
          rw [he] at g
          cases g
        exact Int.lt_iff_le_and_ne.2 ⟨g1, fun he => hne he.symm⟩

theorem has_text {l : List (Ty.den tRecSlot)} (h : ∀ s ∈ l, (0 : Int) < s.1) (t : ByteArray) : l.any (hasP t) = l.any (textP t) := by
  induction l with
  | nil => rfl
  | cons s l ih =>
    rw [List.any_cons, List.any_cons, ih (fun x hx => h x (by simp [hx]))]
    unfold hasP textP
    rw [decide_eq_true (show s.1 > (0 : Int) from h s (by simp)), Bool.true_and]

/-- Whether a wish is taken. -/
def takenD (r : Ty.den tRecorder) (t : ByteArray) (k : Nat) : Bool :=
  (((inD (t.size : Int) 1 160 && !(List.any r.2.2.2.2.2.2.1 (fun w => seq t w))) && decide ((List.length r.2.2.2.2.2.2.1 : Int) < (20 : Int))) && !((List.take k r.2.2.2.2.1.2.2.1).any (textP t)))

def wishedD (r : Ty.den tRecorder) (t : ByteArray) (k : Nat) : Ty.den tRecorder :=
  if takenD r t k = true then (r.1, r.2.1, r.2.2.1, r.2.2.2.1, r.2.2.2.2.1, r.2.2.2.2.2.1, r.2.2.2.2.2.2.1 ++ [t], r.2.2.2.2.2.2.2) else r

theorem app16' {m : Nat} {α : Type} {x : α} (h : m < 1048576) : appBound m (List.length [x]) 16 = true := by
  unfold appBound
  rw [Nat.ble_eq]
  simp only [List.length_cons, List.length_nil]
  omega

include hn in
theorem implWish_ok (r : Ty.den tRecorder) (t : ByteArray) (k : Nat) (hs : small 1048576 tRecorder r) (hk : @Eq Int r.2.2.2.2.1.2.1 (k : Int)) (hkl : k ≤ List.length r.2.2.2.2.1.2.2.1) : impl_Recorder_wish.f n r (t, ()) = some (wishedD r t k, ()) := by
  have hl : List.length r.2.2.2.2.2.2.1 ≤ 1048576 := hs.2.2.2.2.2.2.1.1
  have hc := contains_ok hn r.2.2.2.2.2.2.1 t hl
  have hkn := implKnown_ok hn r t k hs hk hkl
  unfold impl_Recorder_wish.f wishedD takenD
  have e1 : impl_within_rec.f n ((ByteArray.size t : Int), (1 : Int), (160 : Int), ()) = some (inD (t.size : Int) 1 160, ()) := rfl
  simp only [e1, Option.bind_some]
  rcases Bool.eq_false_or_eq_true (inD (t.size : Int) 1 160) with c1 | c1
  rotate_left
  · simp only [c1, Bool.false_eq_true, if_false, Option.bind_some, Bool.false_and]
  simp only [c1, if_true, hc, Option.bind_some, Bool.true_and]
  rcases Bool.eq_false_or_eq_true (!(List.any r.2.2.2.2.2.2.1 (fun w => seq t w)) && decide ((List.length r.2.2.2.2.2.2.1 : Int) < (20 : Int))) with c2 | c2
  rotate_left
  · simp only [c2, Bool.false_eq_true, if_false, Option.bind_some, Bool.false_and]
  have h20 : List.length r.2.2.2.2.2.2.1 < 20 := by
    have := c2
    rw [Bool.and_eq_true, decide_eq_true_eq] at this
    have := this.2
    omega
  simp only [c2, if_true, hkn, Option.bind_some, Bool.true_and]
  rcases Bool.eq_false_or_eq_true (!((List.take k r.2.2.2.2.1.2.2.1).any (textP t))) with c3 | c3
  · simp only [c3, if_true, app16' (show List.length r.2.2.2.2.2.2.1 < 1048576 by omega)]
  · simp only [c3, Bool.false_eq_true, if_false]

theorem in_neg (s : Nat) : inD (s : Int) 1 160 = !((decide ((s : Int) < (1 : Int))) || (decide ((s : Int) > (160 : Int)))) := by
  unfold inD
  by_cases h1 : (s : Int) < 1 <;> by_cases h2 : (s : Int) > 160
  · rw [decide_eq_true h1, decide_eq_false (show ¬ (s : Int) ≥ 1 by omega)]; rfl
  · rw [decide_eq_true h1, decide_eq_false (show ¬ (s : Int) ≥ 1 by omega)]; rfl
  · rw [decide_eq_false h1, decide_eq_true h2, decide_eq_true (show (s : Int) ≥ 1 by omega), decide_eq_false (show ¬ (s : Int) ≤ 160 by omega)]; rfl
  · rw [decide_eq_false h1, decide_eq_false h2, decide_eq_true (show (s : Int) ≥ 1 by omega), decide_eq_true (show (s : Int) ≤ 160 by omega)]; rfl

theorem lt_ge (s : Nat) : decide ((s : Int) < (20 : Int)) = !decide ((s : Int) ≥ (20 : Int)) := by
  by_cases h : (s : Int) < 20
  · rw [decide_eq_true h, decide_eq_false (show ¬ (s : Int) ≥ 20 by omega)]; rfl
  · rw [decide_eq_false h, decide_eq_true (show (s : Int) ≥ 20 by omega)]; rfl

theorem any_find {l : List ByteArray} {t : ByteArray} : (l.findIdx? (fun w => seq w t)).isSome = l.any (fun w => seq t w) := by
  have : (fun w => seq t w) = (fun w => seq w t) := funext fun w => seq_comm t w
  rw [this]
  cases h : l.findIdx? (fun w => seq w t) with
  | none =>
    rw [List.findIdx?_eq_none_iff] at h
    symm
    rw [Option.isSome_none, List.any_eq_false]
    intro x hx
    rw [h x hx]
    decide
  | some i =>
    rw [List.findIdx?_eq_some_iff_getElem] at h
    obtain ⟨hi, hp, _⟩ := h
    exact (List.any_eq_true.2 ⟨l[i], List.getElem_mem hi, hp⟩).symm

include hn in
theorem specWish_ok (r : Ty.den tRecorder) (t : ByteArray) (k : Nat) (hs : small 1048576 tRecorder r) (hv : validD n r = true) (hk : @Eq Int r.2.2.2.2.1.2.1 (k : Int)) (hkl : k ≤ List.length r.2.2.2.2.1.2.2.1) : spec_l23Wish.f n r (t, ()) = some (wishedD r t k, ()) := by
  have hn' : 18446744073709551616 ≤ n := hn
  have hl : List.length r.2.2.2.2.2.2.1 ≤ 1048576 := hs.2.2.2.2.2.2.1.1
  have hls : List.length r.2.2.2.2.1.2.2.1 ≤ 1048576 := hs.2.2.2.2.1.2.2.1.1
  have hpos := diskOk_pos (valid_disk hv).2 hk hkl
  have hhas : spec_l23Has.f n (List.take k r.2.2.2.2.1.2.2.1, t, ()) = some ((List.take k r.2.2.2.2.1.2.2.1).any (textP t), ()) := by
    rw [specHas_ok hn _ t (by rw [List.length_take]; omega), has_text hpos]
  have e0 : cut r.2.2.2.2.1.2.2.1 (Int.toNat (0 : Int)) (Int.toNat r.2.2.2.2.1.2.1 - Int.toNat (0 : Int)) = List.take k r.2.2.2.2.1.2.2.1 := by
    have e1 : Int.toNat r.2.2.2.2.1.2.1 = k := by rw [hk]; rfl
    rw [e1]
    rfl
  have hin := in_known hk hkl
  obtain ⟨me, of, out, ⟨k11, k12, k13, ⟨⟩⟩, ⟨k21, k22, k23, ⟨⟩⟩, msgs, wishes, b1, b2, num, ppl, sl, acks, cnt, ⟨⟩⟩ := r
  have hl : wishes.length ≤ 1048576 := hl
  have e0 : cut k23 (Int.toNat (0 : Int)) (Int.toNat k22 - Int.toNat (0 : Int)) = List.take k k23 := e0
  have hhas : spec_l23Has.f n (List.take k k23, t, ()) = some ((List.take k k23).any (textP t), ()) := hhas
  have hin : decide (0 ≤ (0 : Int) ∧ (0 : Int) ≤ k22 ∧ k22 ≤ (List.length k23 : Int)) = true := hin
  unfold spec_l23Wish.f wishedD takenD
  simp only [in_neg, lt_ge]
  rw [if_pos (by rw [Bool.or_eq_true]; exact .inr hin)]
  simp only [e0]
  rcases Bool.eq_false_or_eq_true ((decide ((ByteArray.size t : Int) < (1 : Int))) || (decide ((ByteArray.size t : Int) > (160 : Int)))) with c1 | c1
  · simp only [c1, Bool.true_or, Bool.not_true, Bool.false_eq_true, if_false, Option.bind_some, if_true, Bool.false_and]
  simp only [c1, Bool.false_or, Bool.not_false, Bool.true_and]
  rcases Bool.eq_false_or_eq_true (decide ((List.length wishes : Int) ≥ (20 : Int))) with c2 | c2
  · simp only [c2, Bool.true_or, Bool.not_true, Bool.false_eq_true, if_false, Option.bind_some, if_true, Bool.and_false, Bool.false_and]
  simp only [c2, Bool.false_or, Bool.not_false, if_true, hhas, Option.bind_some, Bool.and_true]
  rcases Bool.eq_false_or_eq_true ((List.take k k23).any (textP t)) with c3 | c3
  · simp only [c3, if_true, Bool.not_true, Bool.and_false, Bool.false_eq_true, if_false]
  simp only [c3, Bool.false_eq_true, if_false, Bool.not_false, Bool.and_true]
  have h20 : List.length wishes < 20 := by
    have := of_decide_eq_false c2
    omega
  refine (runL_find (l := wishes) (fun i => (t, (me, of, out, k11, k12, k13, k21, k22, k23, msgs, wishes, b1, b2, num, ppl, sl, acks, cnt, ()), ((0 : Int), (0 : Int), false, (0 : Int), (0 : Int), [], (0 : Int), (0 : Int), [], [], [], false, false, (0 : Int), [], [], [], (0 : Int), ()), (i : Int), ())) (fun w => seq w t)
    (fun i => some ((me, of, out, (k11, k12, k13, ()), (k21, k22, k23, ()), msgs, wishes, b1, b2, num, ppl, sl, acks, cnt, ()), ())) (some ((me, of, out, (k11, k12, k13, ()), (k21, k22, k23, ()), msgs, wishes ++ [t], b1, b2, num, ppl, sl, acks, cnt, ()), ())) ?_ ?_ (by omega)).trans ?_
  · intro next i hi
    have hg : List.getD wishes i (⟨#[]⟩ : ByteArray) = wishes[i] := by rw [List.getD_eq_getElem?_getD, List.getElem?_eq_getElem hi]; rfl
    simp only [spec_l23Wish.B4]
    rw [if_pos (lt_dec hi), if_pos (in_dec hi), Int.toNat_natCast, hg, wrap_next hi hl]
  · intro next
    simp only [spec_l23Wish.B4]
    rw [if_neg (by rw [lt_dec']; decide), if_pos (app16' (show wishes.length < 1048576 by omega))]
  · rw [← any_find]
    cases List.findIdx? (fun w => seq w t) wishes with
    | none => simp only [Option.elim_none, Option.isSome_none, Bool.not_false, if_true]
    | some i => simp only [Option.elim_some, Option.isSome_some, Bool.not_true, Bool.false_eq_true, if_false]

theorem wished_small {r : Ty.den tRecorder} {t : ByteArray} {k : Nat} (hs : small 1048576 tRecorder r) (ht : (t.size : Int) ≤ 1048576) : small 1048576 tRecorder (wishedD r t k) := by
  unfold wishedD
  split
  · rename_i h
    have h20 : List.length r.2.2.2.2.2.2.1 < 20 := by
      unfold takenD at h
      rw [Bool.and_eq_true, Bool.and_eq_true, decide_eq_true_eq] at h
      have := h.1.2
      omega
    refine ⟨hs.1, hs.2.1, hs.2.2.1, hs.2.2.2.1, hs.2.2.2.2.1, hs.2.2.2.2.2.1, ⟨by simp only [List.length_append, List.length_cons, List.length_nil]; omega, fun x hx => ?_⟩, hs.2.2.2.2.2.2.2⟩
    rcases List.mem_append.1 hx with hx | hx
    · exact hs.2.2.2.2.2.2.1.2 x hx
    · rw [List.mem_singleton] at hx
      rw [hx]
      show ByteArray.size t ≤ 1048576
      omega
  · exact hs

theorem wished_wt {r : Ty.den tRecorder} {t : ByteArray} {k : Nat} : wt tRecorder (wishedD r t k) ≤ wt tRecorder r + 2 := by
  unfold wishedD
  split
  · have e : ∀ (x : Ty.den tRecorder), wt tRecorder x = wt (.int .i64) x.1 + (wt (.int .i64) x.2.1 + (wt .bool x.2.2.1 + (wt tRecDisk x.2.2.2.1 + (wt tRecDisk x.2.2.2.2.1 + (wt (.slice tRecMessage) x.2.2.2.2.2.1 + (wt (.slice .str) x.2.2.2.2.2.2.1 + wt _ x.2.2.2.2.2.2.2)))))) := fun _ => rfl
    have e2 : wt (.slice .str) (r.2.2.2.2.2.2.1 ++ [t]) = wt (.slice .str) r.2.2.2.2.2.2.1 + 2 := by
      rw [wt_slice, wt_slice]
      simp only [List.length_append, List.map_append, List.sum_append, List.length_cons, List.length_nil, List.map_cons, List.map_nil, List.sum_cons, List.sum_nil, wt_str]
      omega
    rw [e, e r]
    simp only [e2]
    omega
  · omega

def wishD (n : Nat) (r : Ty.den tRecorder) (t : ByteArray) : Ty.den tRecorder :=
  if validD n r = true then (if r.2.2.1 = true then wishedD r t (Int.toNat r.2.2.2.2.1.2.1) else r)
  else ((0 : Int), (0 : Int), false, ((0 : Int), (0 : Int), [], ()), ((0 : Int), (0 : Int), [], ()), [], [], false, false, (0 : Int), [], [], [], (0 : Int), ())

include hn in
theorem specRecWish_ok (r : Ty.den tRecorder) (t : ByteArray) (hs : small 1048576 tRecorder r) (ht : (t.size : Int) ≤ 1048576) : spec_RecWish.f n (r, t, ()) = some (wishD n r t, ()) := by
  unfold spec_RecWish.f wishD
  simp only [specValid_ok hn r hs, Option.bind_some]
  by_cases h : validD n r = true
  · obtain ⟨k, hk, hkl⟩ := diskOk_known (valid_disk h).2
    have e : Int.toNat r.2.2.2.2.1.2.1 = k := by rw [hk]; rfl
    have hw := specWish_ok hn r t k hs h hk hkl
    simp only [h, Bool.not_true, Bool.false_eq_true, if_false, if_true, spec_copy hn r hs, Option.bind_some, hw, e, spec_copy hn _ (wished_small (k := k) hs ht)]
    rcases Bool.eq_false_or_eq_true r.2.2.1 with c | c
    · simp only [c, Bool.not_true, Bool.false_eq_true, if_false, if_true]
    · simp only [c, Bool.not_false, Bool.false_eq_true, if_false, if_true]
  · have h0 : validD n r = false := by simpa using h
    simp only [h0, Bool.not_false, Bool.false_eq_true, if_false, if_true]

include hn in
theorem implRecWish_ok (r : Ty.den tRecorder) (t : ByteArray) (hs : small 1048576 tRecorder r) : impl_RecWish.f n (r, t, ()) = some (wishD n r t, ()) := by
  unfold impl_RecWish.f wishD
  simp only [implValid_ok hn r hs, Option.bind_some]
  by_cases h : validD n r = true
  · obtain ⟨k, hk, hkl⟩ := diskOk_known (valid_disk h).2
    have e : Int.toNat r.2.2.2.2.1.2.1 = k := by rw [hk]; rfl
    have hw := implWish_ok hn r t k hs hk hkl
    simp only [h, Bool.not_true, Bool.false_eq_true, if_false, if_true, impl_copy hn r hs, Option.bind_some, hw, e]
    rcases Bool.eq_false_or_eq_true r.2.2.1 with c | c
    · simp only [c, if_true]
    · simp only [c, Bool.false_eq_true, if_false]
  · have h0 : validD n r = false := by simpa using h
    simp only [h0, Bool.not_false, Bool.false_eq_true, if_false, if_true]

theorem wish_small {r : Ty.den tRecorder} {t : ByteArray} (hs : small 1048576 tRecorder r) (ht : (t.size : Int) ≤ 1048576) : small 1048576 tRecorder (wishD n r t) := by
  unfold wishD
  split
  · split
    · exact wished_small hs ht
    · exact hs
  · have h0 : bulk tRecorder ((0 : Int), (0 : Int), false, ((0 : Int), (0 : Int), [], ()), ((0 : Int), (0 : Int), [], ()), [], [], false, false, (0 : Int), [], [], [], (0 : Int), ()) = 0 := by kernel_rfl
    exact small_of_bulk (by omega)

theorem wish_wt {r : Ty.den tRecorder} {t : ByteArray} (hw : (wt tRecorder r : Int) ≤ 1048577000) : (wt tRecorder (wishD n r t) : Int) ≤ 1048577002 := by
  unfold wishD
  split
  · split
    · have := wished_wt (r := r) (t := t) (k := Int.toNat r.2.2.2.2.1.2.1)
      omega
    · omega
  · have h0 : wt tRecorder ((0 : Int), (0 : Int), false, ((0 : Int), (0 : Int), [], ()), ((0 : Int), (0 : Int), [], ()), [], [], false, false, (0 : Int), [], [], [], (0 : Int), ()) = 11 := by kernel_rfl
    omega
end

theorem pure_law (n : Nat) (hn : Big n) (x : Tup [tRecorder, .str]) (hw : wfT [tRecorder, .str] x) : laws_FnExactRecWish.f n x = some (true, ()) := by
  obtain ⟨d, t, ⟨⟩⟩ := x
  obtain ⟨hw1, hw2, _⟩ := hw
  unfold laws_FnExactRecWish.f
  by_cases hsz : (ByteArray.size t : Int) > 1048576
  · rw [if_pos (decide_eq_true hsz)]
  rw [if_neg (by rw [decide_eq_true_eq]; exact hsz)]
  have ht : (ByteArray.size t : Int) ≤ 1048576 := by omega
  have h : laws_szRecorder.f n (d, 1048576, ()) = _ := laws_szRecorder_ok n hn d hw1 1048576 (by omega) (by omega)
  simp only [h, Option.bind_some]
  by_cases hb : (bulk tRecorder d : Int) ≤ 1048576
  · have hs : small 1048576 tRecorder d := small_of_bulk (by omega)
    have hg := wish_small (n := n) (t := t) hs ht
    have hwt := wt_small hb (by decide)
    have hwg := wish_wt (n := n) (t := t) hwt
    rw [subL_pos hb, if_neg (by simp; omega)]
    have e1 : spec_RecWish.f n (d, t, ()) = _ := specRecWish_ok hn d t hs ht
    have e2 : impl_RecWish.f n (d, t, ()) = _ := implRecWish_ok hn d t hs
    simp only [laws_toRecorder_ok n hn d hs, Option.bind_some, e1, e2, laws_eqRecorder_ok n hn (d, d, ()) hs, laws_eqRecorder_ok n hn (wishD n d t, wishD n d t, ()) hg, eqD_refl, Bool.not_true, Bool.false_eq_true, if_false]
    obtain ⟨s1, s2, s3, s4, s5, s6, s7, k1, p1, q1, m1⟩ := laws_markRecorder_ok1 n hn d 1 (by omega) (by omega)
    obtain ⟨t1, t2, t3, t4, t5, t6, t7, k2, p2, q2, m2, h2⟩ := laws_markRecorder_ok n hn (wishD n d t) 1 (by omega) (by omega)
    have d1 : decide (k1 < 0) = false := decide_eq_false (by omega)
    have d2 : decide (k2 < 0) = false := decide_eq_false (by omega)
    simp only [m1, m2, h2, d1, d2, Option.bind_some, Bool.not_false, if_true, Bool.false_or, Bool.not_true, Bool.false_eq_true, if_false, bne_self_eq_false]
  · rw [subL_neg hb, if_pos (by decide)]

end Go.Proofs.Ytcibjahjpojedaa
