/- The law FnExactRecMajor: what the program tells and what the reference tells are one, for all arguments (the plain law, over printed pure functions). No conditions. -/
import Derived.Test.YtpdaakbjdfnkhaaP
set_option linter.unusedVariables false
set_option linter.unusedSimpArgs false
namespace Go.Proofs.Ytpdaakbjdfnkhaa
open Go Go.Vm
/-! ### slots -/
section
variable {n : Nat} (hn : Big n)

def badSlot (l : List (Ty.den tRecSlot)) (i : Nat) : Bool :=
  (((!((decide ((List.getD l (Int.toNat (i : Int)) (Ty.zero tRecSlot)).1 ≥ (0 : Int))) && (decide ((List.getD l (Int.toNat (i : Int)) (Ty.zero tRecSlot)).1 ≤ (1000000 : Int))))) || (decide ((ByteArray.size (List.getD l (Int.toNat (i : Int)) (Ty.zero tRecSlot)).2.1 : Int) > (160 : Int)))) || (((List.getD l (Int.toNat (i : Int)) (Ty.zero tRecSlot)).1 == (0 : Int)) && (!seq (List.getD l (Int.toNat (i : Int)) (Ty.zero tRecSlot)).2.1 (⟨#[]⟩ : ByteArray))))

def slotsOkD (l : List (Ty.den tRecSlot)) : Bool := if (decide ((List.length l : Int) > (120 : Int))) = true then false else !(List.range l.length).any (badSlot l)

include hn in
theorem specSlots_ok (l : List (Ty.den tRecSlot)) (hl : l.length ≤ 1048576) : spec_l21SlotsOk.f n (l, ()) = some (slotsOkD l, ()) := by
  have hn : 18446744073709551616 ≤ n := hn
  unfold spec_l21SlotsOk.f slotsOkD
  split
  · rfl
  · refine (runL_any (len := l.length) (fun i => (l, (i : Int), ())) (badSlot l) (some (false, ())) (some (true, ())) ?_ ?_ (by omega)).trans (by cases (List.range l.length).any (badSlot l) <;> rfl)
    · intro next i hi
      simp only [spec_l21SlotsOk.B4, spec_l21In.f, lt_dec hi, in_dec hi, wrap_next hi hl, Option.bind_some, Bool.or_true, if_true, badSlot]
      rfl
    · intro next
      simp only [spec_l21SlotsOk.B4, lt_dec', Bool.false_eq_true, if_false]

include hn in
theorem implSlots_ok (l : List (Ty.den tRecSlot)) (hl : l.length ≤ 1048576) : impl_slotsOk.f n (l, ()) = some (slotsOkD l, ()) := by
  have hn : 18446744073709551616 ≤ n := hn
  unfold impl_slotsOk.f slotsOkD
  split
  · rfl
  · refine (runL_any (len := l.length) (fun i => (l, (l.length : Int), (i : Int), ())) (badSlot l) (some (false, ())) (some (true, ())) ?_ ?_ (by omega)).trans (by cases (List.range l.length).any (badSlot l) <;> rfl)
    · intro next i hi
      simp only [impl_slotsOk.B4, impl_within_rec.f, lt_dec hi, in_dec hi, wrap_next hi hl, Option.bind_some, Bool.or_true, if_true, badSlot]
      rfl
    · intro next
      simp only [impl_slotsOk.B4, lt_dec', Bool.false_eq_true, if_false]

end

/-! ### slots, disks -/
section
variable {n : Nat} (hn : Big n)

def badDisk (d : Ty.den tRecDisk) (i : Nat) : Bool :=
  ((decide ((List.getD d.2.2.1 (Int.toNat (i : Int)) (Ty.zero tRecSlot)).1 > d.1)) || ((decide ((i : Int) < d.2.1)) && ((List.getD d.2.2.1 (Int.toNat (i : Int)) (Ty.zero tRecSlot)).1 == (0 : Int))))

def diskOkD (d : Ty.den tRecDisk) : Bool :=
  if (((!((decide (d.1 ≥ (0 : Int))) && (decide (d.1 ≤ (1000000 : Int))))) || (!(if (!(!((decide (d.1 ≥ (0 : Int))) && (decide (d.1 ≤ (1000000 : Int)))))) = true then slotsOkD d.2.2.1 else false))) || (!((decide (d.2.1 ≥ (0 : Int))) && (decide (d.2.1 ≤ (List.length d.2.2.1 : Int)))))) = true then false
  else !(List.range (List.length d.2.2.1)).any (badDisk d)

include hn in
theorem specDisk_ok (d : Ty.den tRecDisk) (hl : List.length d.2.2.1 ≤ 1048576) : spec_RecDiskOk.f n (d, ()) = some (diskOkD d, ()) := by
  have hn' : 18446744073709551616 ≤ n := hn
  obtain ⟨p, kn, l, ⟨⟩⟩ := d
  have hl : l.length ≤ 1048576 := hl
  unfold spec_RecDiskOk.f diskOkD
  simp only [spec_l21In.f, specSlots_ok hn l hl, Option.bind_some]
  cases h1 : ((decide (p ≥ (0 : Int))) && (decide (p ≤ (1000000 : Int)))) with
  | false => simp
  | true =>
    cases h2 : slotsOkD l with
    | false => simp
    | true =>
      cases h3 : ((decide (kn ≥ (0 : Int))) && (decide (kn ≤ (List.length l : Int)))) with
      | false => simp
      | true =>
        simp only [Bool.not_true, Bool.not_false, Bool.or_false, if_true, Option.bind_some, Bool.false_eq_true, if_false]
        refine (runL_any (len := l.length) (fun i => ((p, kn, l, ()), (i : Int), ())) (badDisk (p, kn, l, ())) (some (false, ())) (some (true, ())) ?_ ?_ (by omega)).trans (by cases (List.range l.length).any (badDisk (p, kn, l, ())) <;> rfl)
        · intro next i hi
          simp only [spec_RecDiskOk.B4, lt_dec hi, in_dec hi, wrap_next hi hl, Option.bind_some, Bool.or_true, if_true, badDisk]
          rfl
        · intro next
          simp only [spec_RecDiskOk.B4, lt_dec', Bool.false_eq_true, if_false]

include hn in
theorem implDisk_ok (d : Ty.den tRecDisk) (hl : List.length d.2.2.1 ≤ 1048576) : impl_RecDiskOk.f n (d, ()) = some (diskOkD d, ()) := by
  have hn' : 18446744073709551616 ≤ n := hn
  obtain ⟨p, kn, l, ⟨⟩⟩ := d
  have hl : l.length ≤ 1048576 := hl
  unfold impl_RecDiskOk.f diskOkD
  simp only [impl_within_rec.f, implSlots_ok hn l hl, Option.bind_some]
  cases h1 : ((decide (p ≥ (0 : Int))) && (decide (p ≤ (1000000 : Int)))) with
  | false => simp
  | true =>
    cases h2 : slotsOkD l with
    | false => simp
    | true =>
      cases h3 : ((decide (kn ≥ (0 : Int))) && (decide (kn ≤ (List.length l : Int)))) with
      | false => simp
      | true =>
        simp only [Bool.not_true, Bool.not_false, Bool.or_false, if_true, Option.bind_some, Bool.false_eq_true, if_false]
        refine (runL_any (len := l.length) (fun i => ((p, kn, l, ()), l, (l.length : Int), (i : Int), ())) (badDisk (p, kn, l, ())) (some (false, ())) (some (true, ())) ?_ ?_ (by omega)).trans (by cases (List.range l.length).any (badDisk (p, kn, l, ())) <;> rfl)
        · intro next i hi
          simp only [impl_RecDiskOk.B4, lt_dec hi, in_dec hi, wrap_next hi hl, Option.bind_some, Bool.or_true, if_true, badDisk]
          rfl
        · intro next
          simp only [impl_RecDiskOk.B4, lt_dec', Bool.false_eq_true, if_false]
end

/-! ### recorders -/
section
variable {n : Nat} (hn : Big n)

def inD (a lo hi : Int) : Bool := (decide (a ≥ lo)) && (decide (a ≤ hi))
theorem specIn_ok (x : Tup [.int .i64, .int .i64, .int .i64]) : spec_l21In.f n x = some (inD x.1 x.2.1 x.2.2.1, ()) := rfl
theorem implIn_ok (x : Tup [.int .i64, .int .i64, .int .i64]) : impl_within_rec.f n x = some (inD x.1 x.2.1 x.2.2.1, ()) := rfl

def msgD (n : Nat) (m : Ty.den tRecMessage) (of : Int) : Bool := ((spec_RecMessageOk.f n (m, of, ())).getD (false, ())).1
include hn in
theorem msgs_ok (m : Ty.den tRecMessage) (of : Int) (hl : List.length m.2.2.2.2.2.2.2.1 ≤ 1048576) : spec_RecMessageOk.f n (m, of, ()) = some (msgD n m of, ()) ∧ impl_RecMessageOk.f n (m, of, ()) = some (msgD n m of, ()) := by
  have : ∃ b : Bool, spec_RecMessageOk.f n (m, of, ()) = some (b, ()) ∧ impl_RecMessageOk.f n (m, of, ()) = some (b, ()) := by
    unfold spec_RecMessageOk.f impl_RecMessageOk.f
    simp only [spec_l21In.f, impl_within_rec.f, specSlots_ok hn _ hl, implSlots_ok hn _ hl, guarded, Option.bind_some]
    exact ⟨_, rfl, rfl⟩
  obtain ⟨b, h1, h2⟩ := this
  unfold msgD
  rw [h1, h2]
  exact ⟨rfl, rfl⟩

/-- Numbers that rise, of so many. -/
def badNumber (l : List Int) (of : Int) (i : Nat) : Bool := (!inD (List.getD l i 0) 1 of) || (decide (0 < i) && decide (List.getD l (i - 1) 0 ≥ List.getD l i 0))
def numbersD (l : List Int) (of : Int) : Bool := !(List.range l.length).any (badNumber l of)

theorem getD_lt {X : Type} (l : List X) (i : Nat) (z : X) (h : i < l.length) : l.getD i z = l[i] := by simp [h]
theorem pred_wrap {i : Nat} (h : 0 < i) (hi : i ≤ 1048576) : IntKind.i64.wrap ((i : Int) - 1) = ((i - 1 : Nat) : Int) := by
  rw [wrap_eq (by omega) (by omega)]; omega
theorem pred_in {i len : Nat} (h : 0 < i) (hi : i < len) : decide (0 ≤ ((i - 1 : Nat) : Int) ∧ ((i - 1 : Nat) : Int) < (len : Int)) = true := decide_eq_true (by omega)

include hn in
theorem specNumbers_ok (l : List Int) (of : Int) (hl : l.length ≤ 1048576) : spec_l22Numbers.f n (l, of, ()) = some (numbersD l of, ()) := by
  have hn' : 18446744073709551616 ≤ n := hn
  unfold spec_l22Numbers.f numbersD
  refine (runL_any (len := l.length) (fun i => (l, of, (i : Int), ())) (badNumber l of) (some (false, ())) (some (true, ())) ?_ ?_ (by omega)).trans (by cases (List.range l.length).any (badNumber l of) <;> rfl)
  · intro next i hi
    simp only [spec_l22Numbers.B2, specIn_ok, lt_dec hi, in_dec hi, Option.bind_some, Bool.or_true, if_true, Int.toNat_natCast, badNumber, wrap_next hi hl]
    by_cases h0 : 0 < i
    · have e : decide ((i : Int) > 0) = true := decide_eq_true (by omega)
      simp only [e, decide_eq_true h0, pred_wrap h0 (by omega), pred_in h0 hi, Int.toNat_natCast, Bool.or_true, if_true, Bool.true_and]
      try rfl
    · have e : decide ((i : Int) > 0) = false := decide_eq_false (by omega)
      simp only [e, decide_eq_false h0, Bool.and_false, Bool.not_false, Bool.true_or, if_true, Bool.false_and]
      try rfl
  · intro next
    simp only [spec_l22Numbers.B2, lt_dec', Bool.false_eq_true, if_false]

include hn in
theorem implNumbers_ok (l : List Int) (of : Int) (hl : l.length ≤ 1048576) : impl_people.f n (l, of, ()) = some (numbersD l of, ()) := by
  have hn' : 18446744073709551616 ≤ n := hn
  unfold impl_people.f numbersD
  refine (runL_any (len := l.length) (fun i => (l, of, l, (l.length : Int), (i : Int), ())) (badNumber l of) (some (false, ())) (some (true, ())) ?_ ?_ (by omega)).trans (by cases (List.range l.length).any (badNumber l of) <;> rfl)
  · intro next i hi
    simp only [impl_people.B2, implIn_ok, lt_dec hi, in_dec hi, Option.bind_some, Bool.or_true, if_true, Int.toNat_natCast, badNumber, wrap_next hi hl]
    by_cases h0 : 0 < i
    · have e : decide ((i : Int) > 0) = true := decide_eq_true (by omega)
      simp only [e, decide_eq_true h0, pred_wrap h0 (by omega), pred_in h0 hi, Int.toNat_natCast, Bool.or_true, if_true, Bool.true_and]
      try rfl
    · have e : decide ((i : Int) > 0) = false := decide_eq_false (by omega)
      simp only [e, decide_eq_false h0, Bool.and_false, Bool.not_false, Bool.true_or, if_true, Bool.false_and]
      try rfl
  · intro next
    simp only [impl_people.B2, lt_dec', Bool.false_eq_true, if_false]

def badAck (l : List (Ty.den tRecAck)) (of : Int) (i : Nat) : Bool :=
  ((!inD (List.getD l i (Ty.zero tRecAck)).1 1 120) || (!numbersD (List.getD l i (Ty.zero tRecAck)).2.1 of)) || (decide (0 < i) && decide ((List.getD l (i - 1) (Ty.zero tRecAck)).1 ≥ (List.getD l i (Ty.zero tRecAck)).1))
def acksD (l : List (Ty.den tRecAck)) (of : Int) : Bool := !(List.range l.length).any (badAck l of)

include hn in
theorem specAcks_ok (l : List (Ty.den tRecAck)) (of : Int) (hl : small 1048576 (.slice tRecAck) l) : spec_l22AcksOk.f n (l, of, ()) = some (acksD l of, ()) := by
  have hn' : 18446744073709551616 ≤ n := hn
  have hl1 : l.length ≤ 1048576 := hl.1
  unfold spec_l22AcksOk.f acksD
  refine (runL_any (len := l.length) (fun i => (l, of, (i : Int), ())) (badAck l of) (some (false, ())) (some (true, ())) ?_ ?_ (by omega)).trans (by cases (List.range l.length).any (badAck l of) <;> rfl)
  · intro next i hi
    have he : small 1048576 tRecAck (List.getD l i (Ty.zero tRecAck)) := by
      rw [getD_lt _ _ _ hi]
      exact hl.2 _ (List.getElem_mem hi)
    simp only [spec_l22AcksOk.B2, specIn_ok, specNumbers_ok hn _ _ he.2.1.1, lt_dec hi, in_dec hi, Option.bind_some, Bool.or_true, if_true, Int.toNat_natCast, badAck, wrap_next hi hl1]
    rcases Bool.eq_false_or_eq_true (inD (List.getD l i (Ty.zero tRecAck)).1 1 120) with hc | hc
    rotate_left
    · simp [hc, -List.getD_eq_getElem?_getD]
    · simp only [hc, Bool.not_true, Bool.not_false, if_true, Option.bind_some, Bool.false_or]
      rcases Bool.eq_false_or_eq_true (numbersD (List.getD l i (Ty.zero tRecAck)).2.1 of) with hd | hd
      rotate_left
      · simp [hd, -List.getD_eq_getElem?_getD]
      · simp only [hd, Bool.not_true, Bool.not_false, if_true, Option.bind_some, Bool.false_or]
        by_cases h0 : 0 < i
        · have e : decide ((i : Int) > 0) = true := decide_eq_true (by omega)
          simp only [e, decide_eq_true h0, pred_wrap h0 (by omega), pred_in h0 hi, Int.toNat_natCast, Bool.or_true, if_true, Bool.true_and]
          try rfl
        · have e : decide ((i : Int) > 0) = false := decide_eq_false (by omega)
          simp only [e, decide_eq_false h0, Bool.and_false, Bool.not_false, Bool.true_or, if_true, Bool.false_and]
          try rfl
  · intro next
    simp only [spec_l22AcksOk.B2, lt_dec', Bool.false_eq_true, if_false]

/-- A wish that may not stand where it stands. -/
def badWish (l : List ByteArray) (i : Nat) : Bool := (!inD ((List.getD l i (⟨#[]⟩ : ByteArray)).size : Int) 1 160) || (List.range i).any (fun k => seq (List.getD l k (⟨#[]⟩ : ByteArray)) (List.getD l i (⟨#[]⟩ : ByteArray)))
def wishesD (l : List ByteArray) : Bool := if (decide ((List.length l : Int) > (20 : Int))) = true then false else !(List.range l.length).any (badWish l)

include hn in
theorem specWishes_ok (l : List ByteArray) (hl : l.length ≤ 1048576) : spec_l22WishesOk.f n (l, ()) = some (wishesD l, ()) := by
  have hn' : 18446744073709551616 ≤ n := hn
  unfold spec_l22WishesOk.f wishesD
  split
  · rfl
  · refine (runL_any (len := l.length) (fun i => (l, (i : Int), ())) (badWish l) (some (false, ())) (some (true, ())) ?_ ?_ (by omega)).trans (by cases (List.range l.length).any (badWish l) <;> rfl)
    · intro next i hi
      simp only [spec_l22WishesOk.B4, lt_dec hi, in_dec hi, Bool.or_true, if_true, Int.toNat_natCast, badWish]
      have e : ((decide ((ByteArray.size (List.getD l i (⟨#[]⟩ : ByteArray)) : Int) < (1 : Int))) || (decide ((ByteArray.size (List.getD l i (⟨#[]⟩ : ByteArray)) : Int) > (160 : Int)))) = !inD ((List.getD l i (⟨#[]⟩ : ByteArray)).size : Int) 1 160 := by
        unfold inD
        rw [Bool.not_and, Bool.eq_iff_iff]
        simp only [Bool.or_eq_true, decide_eq_true_eq, Bool.not_eq_true', decide_eq_false_iff_not]
        omega
      rw [e]
      rcases Bool.eq_false_or_eq_true (inD ((List.getD l i (⟨#[]⟩ : ByteArray)).size : Int) 1 160) with hc | hc
      rotate_left
      · simp [hc, -List.getD_eq_getElem?_getD]
      · simp only [hc, Bool.not_true, Bool.false_eq_true, if_false, Bool.false_or]
        refine (runL_any (len := i) (fun k => (l, (i : Int), (k : Int), ())) (fun k => seq (List.getD l k (⟨#[]⟩ : ByteArray)) (List.getD l i (⟨#[]⟩ : ByteArray))) (some (false, ())) (next (l, ((i + 1 : Nat) : Int), ())) ?_ ?_ (by omega)).trans rfl
        · intro next2 k hk
          simp only [spec_l22WishesOk.B9, lt_dec hk, in_dec hi, in_dec (show k < l.length by omega), Bool.or_true, if_true, Int.toNat_natCast, wrap_next hk (show i ≤ 1048576 by omega)]
        · intro next2
          simp only [spec_l22WishesOk.B9, lt_dec', Bool.false_eq_true, if_false, wrap_next hi hl]
    · intro next
      simp only [spec_l22WishesOk.B4, lt_dec', Bool.false_eq_true, if_false]

include hn in
theorem index_ok (l : List ByteArray) (a : ByteArray) (hl : l.length ≤ 1048576) : slices_Index_string_string.f n (l, a, ()) = some (fidx (fun t => seq a t) l, ()) := by
  have hn' : 18446744073709551616 ≤ n := hn
  unfold slices_Index_string_string.f
  refine (runL_find (l := l) (fun i => (l, a, (l.length : Int), (i : Int), ())) (fun t => seq a t) (fun i => some ((i : Int), ())) (some (-1, ())) ?_ ?_ (by omega)).trans ?_
  · intro next i hi
    simp only [slices_Index_string_string.B2, lt_dec hi, in_dec hi, wrap_next hi hl, if_true]
    rw [getD_nat _ _ _ hi]
  · intro next
    simp only [slices_Index_string_string.B2, lt_dec', Bool.false_eq_true, if_false]
  · simp only [fidx]
    cases l.findIdx? (fun t => seq a t) <;> rfl

theorem fidx_ge {X : Type} (p : X → Bool) (l : List X) : decide (fidx p l ≥ 0) = l.any p := by
  cases h : l.findIdx? p with
  | none =>
    rw [fidx_none h]
    rw [List.findIdx?_eq_none_iff] at h
    have : l.any p = false := by
      rw [List.any_eq_false]
      intro x hx
      rw [h x hx]; simp
    rw [this]; rfl
  | some i =>
    rw [fidx_some h]
    have hi := findIdx?_lt h
    have h' := h
    rw [List.findIdx?_eq_some_iff_getElem] at h'
    obtain ⟨hlt, hp, _⟩ := h'
    have : l.any p = true := List.any_eq_true.2 ⟨l[i], List.getElem_mem hi, hp⟩
    rw [this]
    exact decide_eq_true (by omega)

include hn in
theorem contains_ok (l : List ByteArray) (a : ByteArray) (hl : l.length ≤ 1048576) : slices_Contains_string_string.f n (l, a, ()) = some (l.any (fun t => seq a t), ()) := by
  unfold slices_Contains_string_string.f
  rw [index_ok hn l a hl]
  simp only [Option.bind_some, fidx_ge]

theorem any_take {l : List ByteArray} {i : Nat} (hi : i ≤ l.length) (a : ByteArray) : (l.take i).any (fun t => seq a t) = (List.range i).any (fun k => seq (List.getD l k (⟨#[]⟩ : ByteArray)) a) := by
  rw [Bool.eq_iff_iff, List.any_eq_true, List.any_eq_true]
  constructor
  · rintro ⟨x, hx, hs⟩
    obtain ⟨k, hk, rfl⟩ := List.mem_iff_getElem.1 hx
    simp only [List.length_take] at hk
    refine ⟨k, List.mem_range.2 (by omega), ?_⟩
    rw [getD_lt _ _ _ (by omega), seq_comm]
    simpa using hs
  · rintro ⟨k, hk, hs⟩
    have hk := List.mem_range.1 hk
    rw [getD_lt _ _ _ (by omega), seq_comm] at hs
    exact ⟨l[k], List.mem_iff_getElem.2 ⟨k, by simp; omega, by simp⟩, hs⟩

def badMsg (n : Nat) (l : List (Ty.den tRecMessage)) (of me : Int) (i : Nat) : Bool := (!msgD n (List.getD l i (Ty.zero tRecMessage)) of) || ((List.getD l i (Ty.zero tRecMessage)).2.1 != me)

def quietD (b1 b2 : Bool) (num : Int) (k : Nat) : Bool := ((!b1 && !b2) && (num == (0 : Int))) && ((k : Int) == (0 : Int))

def tailD (out b1 b2 : Bool) (num top : Int) (m w p s a : Nat) (cnt : Int) : Bool :=
  if (b1 && b2) = true then false
  else if (b1 || b2) = true then
    if ((!inD num 1 top) || (b2 && decide ((a : Int) > 0)) || (b1 && decide (((p + s : Nat) : Int) > 0))) = true then false else out
  else if ((num != 0) || decide (((p + s + a : Nat) : Int) > 0)) = true then false
  else out || (decide (((m + w : Nat) : Int) = 0) && decide (cnt = 0))

def validD (n : Nat) (r : Ty.den tRecorder) : Bool :=
  match r with
  | (me, of, out, k1, k2, msgs, wishes, b1, b2, num, ppl, sl, acks, cnt, ()) =>
    inD of 1 5 && inD me 1 of && diskOkD k1 && diskOkD k2 && decide ((List.length msgs : Int) ≤ 400) && wishesD wishes && inD cnt 0 1000000
      && !(List.range (List.length msgs)).any (badMsg n msgs of me) && numbersD ppl of && slotsOkD sl && acksD acks of
      && tailD out b1 b2 num k2.1 (List.length msgs) (List.length wishes) (List.length ppl) (List.length sl) (List.length acks) cnt
end

/-! ### the two verdicts on a recorder -/
section
variable {n : Nat} (hn : Big n)

theorem not_and3 (b : Bool) {α : Type} (x y : α) : (if (!b) = true then x else y) = if b = true then y else x := by cases b <;> rfl

include hn in
theorem specValid_ok (r : Ty.den tRecorder) (hs : small 1048576 tRecorder r) : spec_RecValid.f n (r, ()) = some (validD n r, ()) := by
  have hn' : 18446744073709551616 ≤ n := hn
  obtain ⟨me, of, out, k1, k2, msgs, wishes, b1, b2, num, ppl, sl, acks, cnt, ⟨⟩⟩ := r
  obtain ⟨_, _, _, hk1, hk2, hm, hw, _, _, _, hp, hsl, ha, _⟩ := hs
  change Int at me of num cnt
  have hm : small 1048576 (.slice tRecMessage) msgs := hm
  have hml : List.length msgs ≤ 1048576 := hm.1
  have hwl : List.length wishes ≤ 1048576 := hw.1
  have hpl : List.length ppl ≤ 1048576 := hp.1
  have hsll : List.length sl ≤ 1048576 := hsl.1
  have hal : List.length acks ≤ 1048576 := ha.1
  unfold spec_RecValid.f validD
  simp only [specIn_ok, specDisk_ok hn k1 hk1.2.2.1.1, specDisk_ok hn k2 hk2.2.2.1.1, specWishes_ok hn wishes hwl, Option.bind_some]
  rcases Bool.eq_false_or_eq_true (inD of 1 5) with c1 | c1
  rotate_left
  · simp [c1, tzero]
  rcases Bool.eq_false_or_eq_true (inD me 1 of) with c2 | c2
  rotate_left
  · simp [c1, c2, tzero]
  rcases Bool.eq_false_or_eq_true (diskOkD k1) with c3 | c3
  rotate_left
  · simp [c1, c2, c3, tzero]
  rcases Bool.eq_false_or_eq_true (diskOkD k2) with c4 | c4
  rotate_left
  · simp [c1, c2, c3, c4, tzero]
  by_cases c5 : (List.length msgs : Int) ≤ 400
  rotate_left
  · have e : decide ((List.length msgs : Int) > 400) = true := decide_eq_true (by omega)
    simp [c1, c2, c3, c4, e, tzero, decide_eq_false c5]
  have e5 : decide ((List.length msgs : Int) > 400) = false := decide_eq_false (by omega)
  rcases Bool.eq_false_or_eq_true (wishesD wishes) with c6 | c6
  rotate_left
  · simp [c1, c2, c3, c4, e5, c6, tzero]
  rcases Bool.eq_false_or_eq_true (inD cnt 0 1000000) with c7 | c7
  rotate_left
  · simp [c1, c2, c3, c4, e5, c6, c7, tzero]
  simp only [c1, c2, c3, c4, e5, c6, c7, decide_eq_true c5, Bool.not_true, Bool.not_false, Bool.or_false, Bool.or_true, if_true, Option.bind_some, Bool.false_eq_true, if_false, Bool.true_and]
  refine (runL_any (len := List.length msgs) (fun i => ((me, of, out, k1, k2, msgs, wishes, b1, b2, num, ppl, sl, acks, cnt, ()), (i : Int), ())) (badMsg n msgs of me) (some (false, ()))
    (some (numbersD ppl of && slotsOkD sl && acksD acks of && tailD out b1 b2 num k2.1 (List.length msgs) (List.length wishes) (List.length ppl) (List.length sl) (List.length acks) cnt, ())) ?_ ?_ (by omega)).trans ?_
  · intro next i hi
    have he : small 1048576 tRecMessage (List.getD msgs i (Ty.zero tRecMessage)) := by
      rw [getD_lt _ _ _ hi]
      exact hm.2 _ (List.getElem_mem hi)
    simp only [spec_RecValid.B4, lt_dec hi, in_dec hi, Bool.or_true, if_true, Int.toNat_natCast, (msgs_ok hn _ of he.2.2.2.2.2.2.2.1.1).1, Option.bind_some, wrap_next hi hml]
    rfl
  · intro next
    simp only [spec_RecValid.B4, lt_dec', Bool.false_eq_true, if_false, specNumbers_ok hn ppl of hpl, specSlots_ok hn sl hsll, specAcks_ok hn acks of ha, Option.bind_some, spec_l22Quiet.f, specIn_ok]
    rcases Bool.eq_false_or_eq_true (numbersD ppl of) with d1 | d1
    rotate_left
    · simp [d1, tzero]
    rcases Bool.eq_false_or_eq_true (slotsOkD sl) with d2 | d2
    rotate_left
    · simp [d1, d2, tzero]
    rcases Bool.eq_false_or_eq_true (acksD acks of) with d3 | d3
    rotate_left
    · simp [d1, d2, d3, tzero]
    have hc : 0 ≤ cnt ∧ cnt ≤ 1000000 := by
      unfold inD at c7
      simp only [Bool.and_eq_true, decide_eq_true_eq] at c7
      exact c7
    have hpl0 : (List.length ppl : Int) ≤ 1048576 := by omega
    have hsl0 : (List.length sl : Int) ≤ 1048576 := by omega
    have hal0 : (List.length acks : Int) ≤ 1048576 := by omega
    have hml0 : (List.length msgs : Int) ≤ 1048576 := by omega
    have hwl0 : (List.length wishes : Int) ≤ 1048576 := by omega
    have w1 : IntKind.i64.wrap ((List.length ppl : Int) + (List.length sl : Int)) = (List.length ppl : Int) + (List.length sl : Int) := wrap_eq (by omega) (by omega)
    have w2 : IntKind.i64.wrap ((List.length ppl : Int) + (List.length sl : Int) + (List.length acks : Int)) = (List.length ppl : Int) + (List.length sl : Int) + (List.length acks : Int) := wrap_eq (by omega) (by omega)
    have w3 : IntKind.i64.wrap ((List.length msgs : Int) + (List.length wishes : Int)) = (List.length msgs : Int) + (List.length wishes : Int) := wrap_eq (by omega) (by omega)
    have w4 : IntKind.i64.wrap ((List.length msgs : Int) + (List.length wishes : Int) + cnt) = (List.length msgs : Int) + (List.length wishes : Int) + cnt := wrap_eq (by omega) (by omega)
    simp only [d1, d2, d3, w1, w2, w3, w4, tailD]
    have hq : ((List.length msgs : Int) + (List.length wishes : Int) + cnt == 0) = (decide ((List.length msgs : Int) + (List.length wishes : Int) = 0) && decide (cnt = 0)) := by
      rw [Bool.eq_iff_iff, beq_iff_eq, Bool.and_eq_true, decide_eq_true_eq, decide_eq_true_eq]; omega
    cases b1 <;> cases b2
    · by_cases hnum : num = 0
      · by_cases hz : (List.length ppl : Int) + (List.length sl : Int) + (List.length acks : Int) = 0
        · cases out <;> simp [hnum, hz, hq]
        · have : 0 < (List.length ppl : Int) + (List.length sl : Int) + (List.length acks : Int) := by omega
          cases out <;> simp [hnum, hz, this]
          all_goals omega
      · simp [hnum]
    · cases out <;> cases inD num 1 k2.1 <;> by_cases hh : 0 < List.length acks <;> simp [hh]
    · cases out <;> cases inD num 1 k2.1 <;> by_cases hh : 0 < (List.length ppl : Int) + (List.length sl : Int) <;> simp [hh]
    · simp
  · cases (List.range (List.length msgs)).any (badMsg n msgs of me) <;> simp

include hn in
theorem implValid_ok (r : Ty.den tRecorder) (hs : small 1048576 tRecorder r) : impl_RecValid.f n (r, ()) = some (validD n r, ()) := by
  have hn' : 18446744073709551616 ≤ n := hn
  obtain ⟨me, of, out, k1, k2, msgs, wishes, b1, b2, num, ppl, sl, acks, cnt, ⟨⟩⟩ := r
  obtain ⟨_, _, _, hk1, hk2, hm, hw, _, _, _, hp, hsl, ha, _⟩ := hs
  change Int at me of num cnt
  have hm : small 1048576 (.slice tRecMessage) msgs := hm
  have ha : small 1048576 (.slice tRecAck) acks := ha
  have hml : List.length msgs ≤ 1048576 := hm.1
  have hwl : List.length wishes ≤ 1048576 := hw.1
  have hpl : List.length ppl ≤ 1048576 := hp.1
  have hsll : List.length sl ≤ 1048576 := hsl.1
  have hal : List.length acks ≤ 1048576 := ha.1
  unfold impl_RecValid.f validD
  simp only [implIn_ok, implDisk_ok hn k1 hk1.2.2.1.1, implDisk_ok hn k2 hk2.2.2.1.1, implNumbers_ok hn ppl of hpl, implSlots_ok hn sl hsll, Option.bind_some]
  rcases Bool.eq_false_or_eq_true (inD of 1 5) with c1 | c1
  rotate_left
  · simp [c1, tzero]
  rcases Bool.eq_false_or_eq_true (inD me 1 of) with c2 | c2
  rotate_left
  · simp [c1, c2, tzero]
  rcases Bool.eq_false_or_eq_true (diskOkD k1) with c3 | c3
  rotate_left
  · simp [c1, c2, c3, tzero]
  rcases Bool.eq_false_or_eq_true (diskOkD k2) with c4 | c4
  rotate_left
  · simp [c1, c2, c3, c4, tzero]
  by_cases c5 : (List.length msgs : Int) ≤ 400
  rotate_left
  · have e : decide ((List.length msgs : Int) > 400) = true := decide_eq_true (by omega)
    simp [c1, c2, c3, c4, e, tzero, decide_eq_false c5]
  have e5 : decide ((List.length msgs : Int) > 400) = false := decide_eq_false (by omega)
  by_cases c6 : (List.length wishes : Int) > 20
  · have e : wishesD wishes = false := by unfold wishesD; rw [decide_eq_true c6]; rfl
    simp [c1, c2, c3, c4, e5, e, tzero, decide_eq_true c6]
  have e6 : wishesD wishes = !(List.range (List.length wishes)).any (badWish wishes) := by unfold wishesD; rw [decide_eq_false c6]; rfl
  rcases Bool.eq_false_or_eq_true (inD cnt 0 1000000) with c7 | c7
  rotate_left
  · simp [c1, c2, c3, c4, e5, c7, tzero, decide_eq_false c6]
  rcases Bool.eq_false_or_eq_true (numbersD ppl of) with d1 | d1
  rotate_left
  · simp [c1, c2, c3, c4, e5, c7, d1, tzero, decide_eq_false c6]
  rcases Bool.eq_false_or_eq_true (slotsOkD sl) with d2 | d2
  rotate_left
  · simp [c1, c2, c3, c4, e5, c7, d1, d2, tzero, decide_eq_false c6]
  simp only [c1, c2, c3, c4, e5, e6, c7, d1, d2, decide_eq_true c5, decide_eq_false c6, Bool.not_true, Bool.not_false, Bool.or_false, Bool.or_true, if_true, Option.bind_some, Bool.false_eq_true, if_false, Bool.true_and, Bool.and_true]
  refine (runL_any (len := List.length msgs) (fun i => ((me, of, out, k1, k2, msgs, wishes, b1, b2, num, ppl, sl, acks, cnt, ()), msgs, (List.length msgs : Int), (i : Int), ())) (badMsg n msgs of me) (some (false, ()))
    (some (!(List.range (List.length wishes)).any (badWish wishes) && acksD acks of && tailD out b1 b2 num k2.1 (List.length msgs) (List.length wishes) (List.length ppl) (List.length sl) (List.length acks) cnt, ())) ?_ ?_ (by omega)).trans ?_
  · intro next i hi
    have he : small 1048576 tRecMessage (List.getD msgs i (Ty.zero tRecMessage)) := by
      rw [getD_lt _ _ _ hi]
      exact hm.2 _ (List.getElem_mem hi)
    simp only [impl_RecValid.B4, lt_dec hi, in_dec hi, Bool.or_true, if_true, Int.toNat_natCast, (msgs_ok hn _ of he.2.2.2.2.2.2.2.1.1).2, Option.bind_some, wrap_next hi hml]
    rfl
  · intro next
    simp only [impl_RecValid.B4, lt_dec', Bool.false_eq_true, if_false]
    refine (runL_any (len := List.length wishes) (fun i => ((me, of, out, k1, k2, msgs, wishes, b1, b2, num, ppl, sl, acks, cnt, ()), wishes, (List.length wishes : Int), (i : Int), ())) (badWish wishes) (some (false, ()))
      (some (acksD acks of && tailD out b1 b2 num k2.1 (List.length msgs) (List.length wishes) (List.length ppl) (List.length sl) (List.length acks) cnt, ())) ?_ ?_ (by omega)).trans ?_
    · intro next i hi
      have hcut : cut wishes (Int.toNat 0) (i - Int.toNat 0) = List.take i wishes := by simp [cut]
      have hb : decide (0 ≤ (0 : Int) ∧ (0 : Int) ≤ (i : Int) ∧ (i : Int) ≤ (List.length wishes : Int)) = true := decide_eq_true (by omega)
      have hlt : (List.take i wishes).length ≤ 1048576 := by rw [List.length_take]; omega
      simp only [impl_RecValid.B10, lt_dec hi, in_dec hi, implIn_ok, Bool.or_true, if_true, Int.toNat_natCast, hb, hcut, contains_ok hn _ _ hlt, Option.bind_some, wrap_next hi hwl, badWish]
      rw [any_take (by omega)]
      rcases Bool.eq_false_or_eq_true (inD ((List.getD wishes i (⟨#[]⟩ : ByteArray)).size : Int) 1 160) with hc | hc
      · simp only [hc, Bool.not_true, Bool.not_false, if_true, Option.bind_some]
      · simp only [hc, Bool.not_true, Bool.not_false, if_true, Option.bind_some, Bool.false_eq_true, if_false, Bool.true_or]
    · intro next
      simp only [impl_RecValid.B10, lt_dec', Bool.false_eq_true, if_false]
      refine (runL_any (len := List.length acks) (fun i => ((me, of, out, k1, k2, msgs, wishes, b1, b2, num, ppl, sl, acks, cnt, ()), acks, (List.length acks : Int), (i : Int), ())) (badAck acks of) (some (false, ()))
        (some (tailD out b1 b2 num k2.1 (List.length msgs) (List.length wishes) (List.length ppl) (List.length sl) (List.length acks) cnt, ())) ?_ ?_ (by omega)).trans ?_
      · intro next i hi
        have he : small 1048576 tRecAck (List.getD acks i (Ty.zero tRecAck)) := by
          rw [getD_lt _ _ _ hi]
          exact ha.2 _ (List.getElem_mem hi)
        simp only [impl_RecValid.B16, implIn_ok, implNumbers_ok hn _ _ he.2.1.1, lt_dec hi, in_dec hi, Option.bind_some, Bool.or_true, if_true, Int.toNat_natCast, badAck, wrap_next hi hal]
        rcases Bool.eq_false_or_eq_true (inD (List.getD acks i (Ty.zero tRecAck)).1 1 120) with hc | hc
        rotate_left
        · simp [hc, -List.getD_eq_getElem?_getD]
        · simp only [hc, Bool.not_true, Bool.not_false, if_true, Option.bind_some, Bool.false_or]
          rcases Bool.eq_false_or_eq_true (numbersD (List.getD acks i (Ty.zero tRecAck)).2.1 of) with hd | hd
          rotate_left
          · simp [hd, -List.getD_eq_getElem?_getD]
          · simp only [hd, Bool.not_true, Bool.not_false, if_true, Option.bind_some, Bool.false_or]
            by_cases h0 : 0 < i
            · have e : decide ((i : Int) > 0) = true := decide_eq_true (by omega)
              simp only [e, decide_eq_true h0, pred_wrap h0 (by omega), pred_in h0 hi, Int.toNat_natCast, Bool.or_true, if_true, Bool.true_and]
              try rfl
            · have e : decide ((i : Int) > 0) = false := decide_eq_false (by omega)
              simp only [e, decide_eq_false h0, Bool.and_false, Bool.not_false, Bool.true_or, if_true, Bool.false_and]
              try rfl
      · intro next
        simp only [impl_RecValid.B16, lt_dec', Bool.false_eq_true, if_false, implIn_ok, Option.bind_some]
        have hc : 0 ≤ cnt ∧ cnt ≤ 1000000 := by
          unfold inD at c7
          simp only [Bool.and_eq_true, decide_eq_true_eq] at c7
          exact c7
        have w1 : IntKind.i64.wrap ((List.length ppl : Int) + (List.length sl : Int)) = (List.length ppl : Int) + (List.length sl : Int) := wrap_eq (by omega) (by omega)
        have w2 : IntKind.i64.wrap ((List.length ppl : Int) + (List.length sl : Int) + (List.length acks : Int)) = (List.length ppl : Int) + (List.length sl : Int) + (List.length acks : Int) := wrap_eq (by omega) (by omega)
        have w3 : IntKind.i64.wrap ((List.length msgs : Int) + (List.length wishes : Int)) = (List.length msgs : Int) + (List.length wishes : Int) := wrap_eq (by omega) (by omega)
        simp only [w1, w2, w3, tailD]
        cases b1 <;> cases b2
        · by_cases hnum : num = 0
          · by_cases hz : (List.length ppl : Int) + (List.length sl : Int) + (List.length acks : Int) > 0
            · cases out <;> simp [hnum, hz]
            · cases out
              · simp [hnum, hz]
                rfl
              · simp [hnum, hz]
          · simp [hnum]
        · cases out <;> cases inD num 1 k2.1 <;> by_cases hh : 0 < List.length acks <;> simp [hh]
        · cases out <;> cases inD num 1 k2.1 <;> by_cases hh : 0 < (List.length ppl : Int) + (List.length sl : Int) <;> simp [hh]
        · simp
      · unfold acksD
        cases (List.range (List.length acks)).any (badAck acks of) <;> simp
    · cases (List.range (List.length wishes)).any (badWish wishes) <;> simp
  · cases (List.range (List.length msgs)).any (badMsg n msgs of me) <;> simp
end

/-! ### the worlds of recorders -/
section
variable {n : Nat} (hn : Big n)

def badRec (n : Nat) (l : List (Ty.den tRecorder)) (i : Nat) : Bool :=
  ((!validD n (List.getD l i (Ty.zero tRecorder))) || ((List.getD l i (Ty.zero tRecorder)).1 != ((i + 1 : Nat) : Int))) || ((List.getD l i (Ty.zero tRecorder)).2.1 != (l.length : Int))
def badMail (n : Nat) (l : List (Ty.den tRecMessage)) (of : Int) (i : Nat) : Bool := !msgD n (List.getD l i (Ty.zero tRecMessage)) of
def badFact (l : List (Ty.den tRecSlot)) (i : Nat) : Bool :=
  ((!inD (List.getD l i (Ty.zero tRecSlot)).1 1 120) || (decide ((ByteArray.size (List.getD l i (Ty.zero tRecSlot)).2.1 : Int) > 160))) || (decide (0 < i) && decide ((List.getD l (i - 1) (Ty.zero tRecSlot)).1 ≥ (List.getD l i (Ty.zero tRecSlot)).1))

def worldD (n : Nat) (w : Ty.den tRecWorld) : Bool :=
  inD (List.length w.1 : Int) 1 5 && decide ((List.length w.2.1 : Int) ≤ 600) && !(List.range (List.length w.1)).any (badRec n w.1)
    && !(List.range (List.length w.2.1)).any (badMail n w.2.1 (List.length w.1 : Int)) && !(List.range (List.length w.2.2.1)).any (badFact w.2.2.1)

include hn in
theorem specWorld_ok (w : Ty.den tRecWorld) (hs : small 1048576 tRecWorld w) : spec_RecWorldOk.f n (w, ()) = some (worldD n w, ()) := by
  have hn' : 18446744073709551616 ≤ n := hn
  obtain ⟨rs, ms, fs, ⟨⟩⟩ := w
  obtain ⟨hr, hm, hf, _⟩ := hs
  have hr : small 1048576 (.slice tRecorder) rs := hr
  have hm : small 1048576 (.slice tRecMessage) ms := hm
  have hrl : List.length rs ≤ 1048576 := hr.1
  have hml : List.length ms ≤ 1048576 := hm.1
  have hfl : List.length fs ≤ 1048576 := hf.1
  unfold spec_RecWorldOk.f worldD
  simp only [specIn_ok, Option.bind_some]
  rcases Bool.eq_false_or_eq_true (inD (List.length rs : Int) 1 5) with c1 | c1
  rotate_left
  · simp [c1]
  by_cases c2 : (List.length ms : Int) ≤ 600
  rotate_left
  · have e : decide ((List.length ms : Int) > 600) = true := decide_eq_true (by omega)
    simp [c1, e, decide_eq_false c2]
  have e2 : decide ((List.length ms : Int) > 600) = false := decide_eq_false (by omega)
  simp only [c1, e2, decide_eq_true c2, Bool.not_true, Bool.or_false, Bool.false_eq_true, if_false, Bool.true_and]
  refine (runL_any (len := List.length rs) (fun i => ((rs, ms, fs, ()), (List.length rs : Int), (i : Int), ())) (badRec n rs) (some (false, ()))
    (some (!(List.range (List.length ms)).any (badMail n ms (List.length rs : Int)) && !(List.range (List.length fs)).any (badFact fs), ())) ?_ ?_ (by omega)).trans ?_
  · intro next i hi
    have he : small 1048576 tRecorder (List.getD rs i (Ty.zero tRecorder)) := by
      rw [getD_lt _ _ _ hi]
      exact hr.2 _ (List.getElem_mem hi)
    simp only [spec_RecWorldOk.B5, lt_dec hi, in_dec hi, Bool.or_true, if_true, Int.toNat_natCast, specValid_ok hn _ he, Option.bind_some, wrap_next hi hrl]
    rfl
  · intro next
    simp only [spec_RecWorldOk.B5, lt_dec', Bool.false_eq_true, if_false]
    refine (runL_any (len := List.length ms) (fun i => ((rs, ms, fs, ()), (List.length rs : Int), (i : Int), ())) (badMail n ms (List.length rs : Int)) (some (false, ()))
      (some (!(List.range (List.length fs)).any (badFact fs), ())) ?_ ?_ (by omega)).trans ?_
    · intro next i hi
      have he : small 1048576 tRecMessage (List.getD ms i (Ty.zero tRecMessage)) := by
        rw [getD_lt _ _ _ hi]
        exact hm.2 _ (List.getElem_mem hi)
      simp only [spec_RecWorldOk.B10, lt_dec hi, in_dec hi, Bool.or_true, if_true, Int.toNat_natCast, (msgs_ok hn _ _ he.2.2.2.2.2.2.2.1.1).1, Option.bind_some, wrap_next hi hml]
      rfl
    · intro next
      simp only [spec_RecWorldOk.B10, lt_dec', Bool.false_eq_true, if_false]
      refine (runL_any (len := List.length fs) (fun i => ((rs, ms, fs, ()), (i : Int), ())) (badFact fs) (some (false, ())) (some (true, ())) ?_ ?_ (by omega)).trans ?_
      · intro next i hi
        simp only [spec_RecWorldOk.B15, specIn_ok, lt_dec hi, in_dec hi, Option.bind_some, Bool.or_true, if_true, Int.toNat_natCast, badFact, wrap_next hi hfl]
        by_cases h0 : 0 < i
        · have e : decide ((i : Int) > 0) = true := decide_eq_true (by omega)
          simp only [e, decide_eq_true h0, pred_wrap h0 (by omega), pred_in h0 hi, Int.toNat_natCast, Bool.or_true, if_true, Bool.true_and]
          try rfl
        · have e : decide ((i : Int) > 0) = false := decide_eq_false (by omega)
          simp only [e, decide_eq_false h0, Bool.and_false, Bool.not_false, Bool.true_or, if_true, Bool.false_and]
          try rfl
      · intro next
        simp only [spec_RecWorldOk.B15, lt_dec', Bool.false_eq_true, if_false]
      · cases (List.range (List.length fs)).any (badFact fs) <;> simp
    · cases (List.range (List.length ms)).any (badMail n ms (List.length rs : Int)) <;> simp
  · cases (List.range (List.length rs)).any (badRec n rs) <;> simp

include hn in
theorem implWorld_ok (w : Ty.den tRecWorld) (hs : small 1048576 tRecWorld w) : impl_RecWorldOk.f n (w, ()) = some (worldD n w, ()) := by
  have hn' : 18446744073709551616 ≤ n := hn
  obtain ⟨rs, ms, fs, ⟨⟩⟩ := w
  obtain ⟨hr, hm, hf, _⟩ := hs
  have hr : small 1048576 (.slice tRecorder) rs := hr
  have hm : small 1048576 (.slice tRecMessage) ms := hm
  have hrl : List.length rs ≤ 1048576 := hr.1
  have hml : List.length ms ≤ 1048576 := hm.1
  have hfl : List.length fs ≤ 1048576 := hf.1
  unfold impl_RecWorldOk.f worldD
  simp only [implIn_ok, Option.bind_some]
  rcases Bool.eq_false_or_eq_true (inD (List.length rs : Int) 1 5) with c1 | c1
  rotate_left
  · simp [c1]
  by_cases c2 : (List.length ms : Int) ≤ 600
  rotate_left
  · have e : decide ((List.length ms : Int) > 600) = true := decide_eq_true (by omega)
    simp [c1, e, decide_eq_false c2]
  have e2 : decide ((List.length ms : Int) > 600) = false := decide_eq_false (by omega)
  simp only [c1, e2, decide_eq_true c2, Bool.not_true, Bool.or_false, Bool.false_eq_true, if_false, Bool.true_and]
  refine (runL_any (len := List.length rs) (fun i => ((rs, ms, fs, ()), (List.length rs : Int), rs, (List.length rs : Int), (i : Int), ())) (badRec n rs) (some (false, ()))
    (some (!(List.range (List.length ms)).any (badMail n ms (List.length rs : Int)) && !(List.range (List.length fs)).any (badFact fs), ())) ?_ ?_ (by omega)).trans ?_
  · intro next i hi
    have he : small 1048576 tRecorder (List.getD rs i (Ty.zero tRecorder)) := by
      rw [getD_lt _ _ _ hi]
      exact hr.2 _ (List.getElem_mem hi)
    simp only [impl_RecWorldOk.B5, lt_dec hi, in_dec hi, Bool.or_true, if_true, Int.toNat_natCast, implValid_ok hn _ he, Option.bind_some, wrap_next hi hrl]
    rfl
  · intro next
    simp only [impl_RecWorldOk.B5, lt_dec', Bool.false_eq_true, if_false]
    refine (runL_any (len := List.length ms) (fun i => ((rs, ms, fs, ()), (List.length rs : Int), ms, (List.length ms : Int), (i : Int), ())) (badMail n ms (List.length rs : Int)) (some (false, ()))
      (some (!(List.range (List.length fs)).any (badFact fs), ())) ?_ ?_ (by omega)).trans ?_
    · intro next i hi
      have he : small 1048576 tRecMessage (List.getD ms i (Ty.zero tRecMessage)) := by
        rw [getD_lt _ _ _ hi]
        exact hm.2 _ (List.getElem_mem hi)
      simp only [impl_RecWorldOk.B11, lt_dec hi, in_dec hi, Bool.or_true, if_true, Int.toNat_natCast, (msgs_ok hn _ _ he.2.2.2.2.2.2.2.1.1).2, Option.bind_some, wrap_next hi hml]
      rfl
    · intro next
      simp only [impl_RecWorldOk.B11, lt_dec', Bool.false_eq_true, if_false]
      refine (runL_any (len := List.length fs) (fun i => ((rs, ms, fs, ()), fs, (List.length fs : Int), (i : Int), ())) (badFact fs) (some (false, ())) (some (true, ())) ?_ ?_ (by omega)).trans ?_
      · intro next i hi
        simp only [impl_RecWorldOk.B17, implIn_ok, lt_dec hi, in_dec hi, Option.bind_some, Bool.or_true, if_true, Int.toNat_natCast, badFact, wrap_next hi hfl]
        by_cases h0 : 0 < i
        · have e : decide ((i : Int) > 0) = true := decide_eq_true (by omega)
          simp only [e, decide_eq_true h0, pred_wrap h0 (by omega), pred_in h0 hi, Int.toNat_natCast, Bool.or_true, if_true, Bool.true_and]
          try rfl
        · have e : decide ((i : Int) > 0) = false := decide_eq_false (by omega)
          simp only [e, decide_eq_false h0, Bool.and_false, Bool.not_false, Bool.true_or, if_true, Bool.false_and]
          try rfl
      · intro next
        simp only [impl_RecWorldOk.B17, lt_dec', Bool.false_eq_true, if_false]
      · cases (List.range (List.length fs)).any (badFact fs) <;> simp
    · cases (List.range (List.length ms)).any (badMail n ms (List.length rs : Int)) <;> simp
  · cases (List.range (List.length rs)).any (badRec n rs) <;> simp
end

section
variable {n : Nat}
theorem int_nat {a : Int} {l : Nat} (h : (decide (a ≥ 0) && decide (a ≤ (l : Int))) = true) : ∃ k : Nat, a = (k : Int) ∧ k ≤ l := by
  rw [Bool.and_eq_true, decide_eq_true_eq, decide_eq_true_eq] at h
  exact ⟨a.toNat, by omega, by omega⟩

theorem diskOk_known {d : Ty.den tRecDisk} (h : diskOkD d = true) : ∃ k : Nat, @Eq Int d.2.1 (k : Int) ∧ k ≤ List.length d.2.2.1 := by
  rcases Bool.eq_false_or_eq_true ((decide (d.2.1 ≥ (0 : Int))) && (decide (d.2.1 ≤ (List.length d.2.2.1 : Int)))) with hc | hc
  · exact int_nat (a := d.2.1) hc
  · exfalso
    unfold diskOkD at h
    rw [if_pos (by rw [hc]; simp only [Bool.not_false, Bool.or_true])] at h
    cases h

theorem lt_known {i k : Nat} {a : Int} (hk : a = (k : Int)) (h : i < k) : decide ((i : Int) < a) = true := decide_eq_true (by omega)
theorem lt_known' {k : Nat} {a : Int} (hk : a = (k : Int)) : decide ((k : Int) < a) = false := decide_eq_false (by omega)
theorem in_known {k l : Nat} {a : Int} (hk : a = (k : Int)) (h : k ≤ l) : decide (0 ≤ (0 : Int) ∧ (0 : Int) ≤ a ∧ a ≤ (l : Int)) = true := decide_eq_true (by omega)

theorem valid_disk {r : Ty.den tRecorder} (h : validD n r = true) : diskOkD r.2.2.2.1 = true ∧ diskOkD r.2.2.2.2.1 = true := by
  obtain ⟨me, of, out, k1, k2, msgs, wishes, b1, b2, num, ppl, sl, acks, cnt, ⟨⟩⟩ := r
  simp only [validD, Bool.and_eq_true] at h
  exact ⟨h.1.1.1.1.1.1.1.1.1.2, h.1.1.1.1.1.1.1.1.2⟩

end

/-! ### a value that more than half name -/
section
variable {σ : Type} (eqb : σ → σ → Bool) (heq : ∀ x y, eqb x y = true ↔ x = y) (pos : σ → Bool) (v : Nat → Option σ) (m : Nat)

def names (eqb : σ → σ → Bool) (v : Nat → Option σ) (s : σ) (i : Nat) : Bool := match v i with
  | some t => eqb s t
  | none => false
def cnt (eqb : σ → σ → Bool) (v : Nat → Option σ) (k : Nat) (s : σ) : Nat := (List.range k).countP (names eqb v s)
def hit (i : Nat) : Bool := match v i with
  | some s => pos s && decide (m < 2 * cnt eqb v m s)
  | none => false
def hitI (i : Nat) : Bool := match v i with
  | some s => pos s && decide (m < 2 * cnt eqb v (i + 1) s)
  | none => false

theorem cnt_succ (k : Nat) (s : σ) : cnt eqb v (k + 1) s = cnt eqb v k s + if names eqb v s k = true then 1 else 0 := by
  unfold cnt
  rw [List.range_succ, List.countP_append]
  simp only [List.countP_cons, List.countP_nil, Nat.zero_add]

theorem cnt_mono {k k' : Nat} (h : k ≤ k') (s : σ) : cnt eqb v k s ≤ cnt eqb v k' s := by
  induction h with
  | refl => exact Nat.le_refl _
  | step h ih => rw [cnt_succ]; omega

include heq in
theorem cnt_two (k : Nat) {s t : σ} (h : s ≠ t) : cnt eqb v k s + cnt eqb v k t ≤ k := by
  induction k with
  | zero => simp [cnt]
  | succ k ih =>
    rw [cnt_succ, cnt_succ]
    have : ¬ (names eqb v s k = true ∧ names eqb v t k = true) := by
      unfold names
      cases v k with
      | none => simp
      | some u =>
        simp only
        rintro ⟨h1, h2⟩
        exact h (((heq _ _).1 h1).trans ((heq _ _).1 h2).symm)
    by_cases h1 : names eqb v s k = true <;> by_cases h2 : names eqb v t k = true
    · exact absurd ⟨h1, h2⟩ this
    · rw [if_pos h1, if_neg h2]; omega
    · rw [if_neg h1, if_pos h2]; omega
    · rw [if_neg h1, if_neg h2]; omega

/-- The last who names a value that is named at all. -/
theorem last_named {s : σ} : ∀ {k : Nat}, 0 < cnt eqb v k s → ∃ i, i < k ∧ names eqb v s i = true ∧ cnt eqb v (i + 1) s = cnt eqb v k s
  | 0, h => by simp [cnt] at h
  | k + 1, h => by
    by_cases hn : names eqb v s k = true
    · exact ⟨k, Nat.lt_succ_self k, hn, rfl⟩
    · rw [cnt_succ, if_neg hn] at h
      obtain ⟨i, h1, h2, h3⟩ := last_named (by omega : 0 < cnt eqb v k s)
      exact ⟨i, by omega, h2, by rw [cnt_succ (k := k), if_neg hn]; exact h3⟩

include heq in
/-- Both walks find the same value, or none. -/
theorem major_same : ((List.range m).find? (hit eqb pos v m)).bind v = ((List.range m).find? (hitI eqb pos v m)).bind v := by
  have tell : ∀ {i : Nat} {s : σ}, i < m → v i = some s → hitI eqb pos v m i = true → pos s = true ∧ m < 2 * cnt eqb v m s := by
    intro i s hi hv h
    unfold hitI at h
    rw [hv] at h
    simp only [Bool.and_eq_true, decide_eq_true_eq] at h
    have := cnt_mono eqb v (show i + 1 ≤ m by omega) s
    exact ⟨h.1, by omega⟩
  have one : ∀ {i : Nat} {s : σ}, v i = some s → (hit eqb pos v m i = true ↔ pos s = true ∧ m < 2 * cnt eqb v m s) := by
    intro i s hv
    unfold hit
    rw [hv]
    simp only [Bool.and_eq_true, decide_eq_true_eq]
  have uniq : ∀ {s t : σ}, m < 2 * cnt eqb v m s → m < 2 * cnt eqb v m t → s = t := by
    intro s t h1 h2
    by_cases h : s = t
    · exact h
    · have := cnt_two eqb heq v m h
      omega
  cases h1 : (List.range m).find? (hit eqb pos v m) with
  | some i =>
    have hp := List.find?_some h1
    have hm := List.mem_range.1 (List.mem_of_find?_eq_some h1)
    cases hv : v i with
    | none => unfold hit at hp; rw [hv] at hp; cases hp
    | some s =>
      obtain ⟨hs, hc⟩ := (one hv).1 hp
      obtain ⟨j, hj, hnj, hcj⟩ := last_named eqb v (by omega : 0 < cnt eqb v m s)
      have hvj : v j = some s := by
        unfold names at hnj
        cases hw : v j with
        | none => rw [hw] at hnj; cases hnj
        | some t => rw [hw] at hnj; rw [(heq _ _).1 hnj]
      have hij : hitI eqb pos v m j = true := by
        unfold hitI
        rw [hvj]
        simp only [Bool.and_eq_true, decide_eq_true_eq]
        exact ⟨hs, by omega⟩
      cases h2 : (List.range m).find? (hitI eqb pos v m) with
      | none => exact absurd hij (by simpa using List.find?_eq_none.1 h2 j (List.mem_range.2 hj))
      | some q =>
        have hp2 := List.find?_some h2
        have hm2 := List.mem_range.1 (List.mem_of_find?_eq_some h2)
        cases hvq : v q with
        | none => unfold hitI at hp2; rw [hvq] at hp2; cases hp2
        | some t =>
          obtain ⟨_, hct⟩ := tell hm2 hvq hp2
          simp only [Option.bind_some, hv, hvq]
          rw [uniq hc hct]
  | none =>
    cases h2 : (List.range m).find? (hitI eqb pos v m) with
    | none => rfl
    | some q =>
      exfalso
      have hp2 := List.find?_some h2
      have hm2 := List.mem_range.1 (List.mem_of_find?_eq_some h2)
      cases hvq : v q with
      | none => unfold hitI at hp2; rw [hvq] at hp2; cases hp2
      | some t =>
        have := (one hvq).2 (tell hm2 hvq hp2)
        exact absurd this (by simpa using List.find?_eq_none.1 h1 q (List.mem_range.2 hm2))
end

/-! ### the majority of a place: both walks -/
theorem eqK_refl : ∀ {t : Ty} {x : t.den}, flat t = true → eqK t x x = true
  | .int _, x, _ => by
    show @BEq.beq Int _ x x = true
    simp
  | .bool, x, _ => by
    show @BEq.beq Bool _ x x = true
    simp
  | .str, x, _ => by
    show seq x x = true
    simp [seq]
  | .unit, _, _ => rfl
  | .pair a b, x, hf => by
    simp only [flat, Bool.and_eq_true] at hf
    simp only [eqK, Bool.and_eq_true]
    exact ⟨eqK_refl hf.1, eqK_refl hf.2⟩
  | .slice _, _, h => by simp [flat] at h
  | .ptr _, _, h => by simp [flat] at h

theorem mget_mput {k : Ty} (l : List (k.den × Int)) (x y : k.den) (n : Int) : mget k (mput k l x n) y = if eqK k y x = true then n else mget k l y := by
  induction l with
  | nil => rfl
  | cons p l ih =>
    simp only [mput]
    by_cases h1 : eqK k x p.1 = true
    · have e := eqK_eq h1
      rw [if_pos h1]
      simp only [mget, e]
      by_cases h2 : eqK k y p.1 = true <;> simp [h2]
    · rw [if_neg h1]
      simp only [mget, ih]
      by_cases h2 : eqK k y p.1 = true
      · by_cases h3 : eqK k y x = true
        · exact absurd (by rw [← eqK_eq h3, ← eqK_eq h2] at *; exact h2) h1
        · simp [h2, h3]
      · simp [h2]

theorem mset_put {k : Ty} (l : List (k.den × Int)) (x : k.den) (n : Int) : List.set (mtouch k l x) (mat k l x) ((List.getD (mtouch k l x) (mat k l x) (Ty.zero k, 0)).1, n) = mput k l x n := by
  obtain ⟨p, h1, h2⟩ := touch_set l x n
  rw [List.getD_eq_getElem?_getD, h1]
  exact h2

theorem mat_in {k : Ty} (l : List (k.den × Int)) (x : k.den) : mat k l x < List.length (mtouch k l x) := by
  obtain ⟨p, h1, h2⟩ := touch_set l x 0
  exact (List.getElem?_eq_some_iff.1 h1).1

theorem runL_search {S C Q A : Type} {B : (S → Option Q) → C → S → Option Q} {cs : C} {len : Nat} (st : Nat → A → S) (inv : Nat → A → Prop) (p : Nat → Bool) (found : Nat → Option Q) (dn : Option Q)
    (hstep : ∀ (next : S → Option Q) (i : Nat) (a : A), i < len → inv i a → if p i = true then B next cs (st i a) = found i else ∃ a', inv (i + 1) a' ∧ B next cs (st i a) = next (st (i + 1) a'))
    (hend : ∀ (next : S → Option Q) (a : A), inv len a → B next cs (st len a) = dn) {k : Nat} (hk : len < k) {a : A} (ha : inv 0 a) : runL B cs k (st 0 a) = ((List.range len).find? p).elim dn found := by
  have key : ∀ (d i k : Nat) (a : A), i + d = len → d < k → inv i a → runL B cs k (st i a) = ((List.range' i d).find? p).elim dn found := by
    intro d
    induction d with
    | zero =>
      intro i k a hi hk ha
      have : i = len := by omega
      subst this
      rw [runL_pos B cs (by omega), hend _ _ ha]
      rfl
    | succ d ih =>
      intro i k a hi hk ha
      rw [runL_pos B cs (by omega)]
      have := hstep (runL B cs (k - 1)) i a (by omega) ha
      rw [List.range'_succ, List.find?_cons]
      rcases Bool.eq_false_or_eq_true (p i) with hp | hp
      · rw [if_pos hp] at this
        rw [this, hp]
        rfl
      · rw [if_neg (by simp [hp])] at this
        obtain ⟨a', h1, h2⟩ := this
        rw [h2, hp, ih (i + 1) (k - 1) a' (by omega) (by omega) h1]
  rw [key len 0 k a (by omega) hk ha, List.range_eq_range']

section
variable {n : Nat} (hn : Big n)

def slotsOf (w : Ty.den tRecWorld) (i : Nat) : List (Ty.den tRecSlot) := (List.getD w.1 i (Ty.zero tRecorder)).2.2.2.1.2.2.1
def slotAt (w : Ty.den tRecWorld) (j : Int) (i : Nat) : Option (Ty.den tRecSlot) :=
  if (decide (1 ≤ j) && decide (j ≤ (List.length (slotsOf w i) : Int))) = true then some (List.getD (slotsOf w i) (Int.toNat (j - 1)) (Ty.zero tRecSlot)) else none
def posS (s : Ty.den tRecSlot) : Bool := @decide (@GT.gt Int _ s.1 0) inferInstance
def eqS (s t : Ty.den tRecSlot) : Bool := eqK tRecSlot t s
theorem eqS_iff (s t : Ty.den tRecSlot) : eqS s t = true ↔ s = t := by
  constructor
  · intro h; exact (eqK_eq h).symm
  · intro h; subst h; exact eqK_refl (by rfl)
def majD (w : Ty.den tRecWorld) (j : Int) : Option (Ty.den tRecSlot) := ((List.range (List.length w.1)).find? (hit eqS posS (slotAt w j) (List.length w.1))).bind (slotAt w j)

theorem slot_none {w : Ty.den tRecWorld} {j : Int} {i : Nat} (h : slotAt w j i = none) : (decide (j < 1) || decide (j > (List.length (slotsOf w i) : Int))) = true := by
  by_cases h1 : 1 ≤ j
  · by_cases h2 : j ≤ (List.length (slotsOf w i) : Int)
    · unfold slotAt at h
      rw [decide_eq_true h1, decide_eq_true h2] at h
      cases h
    · rw [decide_eq_true (show j > (List.length (slotsOf w i) : Int) by omega), Bool.or_true]
  · rw [decide_eq_true (show j < 1 by omega), Bool.true_or]

theorem slot_some {w : Ty.den tRecWorld} {j : Int} {i : Nat} {s : Ty.den tRecSlot} (h : slotAt w j i = some s) : 1 ≤ j ∧ j ≤ (List.length (slotsOf w i) : Int) ∧ List.getD (slotsOf w i) (Int.toNat (j - 1)) (Ty.zero tRecSlot) = s := by
  unfold slotAt at h
  split at h
  · rename_i h'
    simp only [Bool.and_eq_true, decide_eq_true_eq] at h'
    exact ⟨h'.1, h'.2, Option.some.inj h⟩
  · cases h

theorem slots_small {w : Ty.den tRecWorld} (hs : small 1048576 tRecWorld w) {i : Nat} (hi : i < List.length w.1) : small 1048576 (.slice tRecSlot) (slotsOf w i) := by
  obtain ⟨rs, ms, fs, ⟨⟩⟩ := w
  obtain ⟨hr, _⟩ := hs
  have he : small 1048576 tRecorder (List.getD rs i (Ty.zero tRecorder)) := by
    rw [getD_lt _ _ _ hi]
    exact hr.2 _ (List.getElem_mem hi)
  exact he.2.2.2.1.2.2.1

theorem wrap_pred {j : Int} (h1 : 1 ≤ j) (h2 : j ≤ 1048576) : IntKind.i64.wrap (j - 1) = j - 1 := wrap_eq (by omega) (by omega)

theorem eqS_def (s t : Ty.den tRecSlot) : ((t.1 == s.1) && ((seq t.2.1 s.2.1) && true)) = eqS s t := rfl

/-- The ballots of an ok world are no less than 0. -/
def nonneg (w : Ty.den tRecWorld) : Prop := ∀ i j s, i < List.length w.1 → slotAt w j i = some s → @LE.le Int _ 0 s.1

include hn in
theorem specMajor_ok (w : Ty.den tRecWorld) (j : Int) (hs : small 1048576 tRecWorld w) (hw : nonneg w) :
    spec_l27Major.f n (w, j, ()) = some ((majD w j).elim ((⟨#[]⟩ : ByteArray), false, ()) (fun s => (s.2.1, true, ()))) := by
  have hn' : 18446744073709551616 ≤ n := hn
  have hlen : List.length w.1 ≤ 1048576 := hs.1.1
  unfold spec_l27Major.f
  refine (runL_search (len := List.length w.1) (A := Unit) (fun i _ => (j, w, (i : Int), ())) (fun _ _ => True) (hit eqS posS (slotAt w j) (List.length w.1))
    (fun i => some ((slotAt w j i).elim ((⟨#[]⟩ : ByteArray), false, ()) (fun s => (s.2.1, true, ())))) (some ((⟨#[]⟩ : ByteArray), false, ())) ?_ ?_ (by omega) (a := ()) trivial).trans ?_
  · intro next i a hi _
    cases hv : slotAt w j i with
    | none =>
      have h1 := slot_none hv
      unfold slotsOf at h1
      have h2 : hit eqS posS (slotAt w j) (List.length w.1) i = false := by unfold hit; rw [hv]
      rw [h2, if_neg (by decide)]
      refine ⟨(), trivial, ?_⟩
      simp only [spec_l27Major.B2, lt_dec hi, in_dec hi, if_true, Int.toNat_natCast, h1, Bool.not_true, Bool.not_false, Bool.true_or, wrap_next hi hlen]
    | some s =>
      obtain ⟨h1, h2, h3⟩ := slot_some hv
      have hsl := slots_small hs hi
      have hll : List.length (slotsOf w i) ≤ 1048576 := hsl.1
      have hp := wrap_pred h1 (by omega : j ≤ 1048576)
      unfold slotsOf at h2 h3 hll
      have hnn := hw i j s hi hv
      have hc1 : decide (j < 1) = false := decide_eq_false (by omega)
      have hc2 : decide (j > (List.length (List.getD w.1 i (Ty.zero tRecorder)).2.2.2.1.2.2.1 : Int)) = false := decide_eq_false (by omega)
      have hc3 : decide (0 ≤ j - 1 ∧ j - 1 < (List.length (List.getD w.1 i (Ty.zero tRecorder)).2.2.2.1.2.2.1 : Int)) = true := decide_eq_true (by omega)
      have hstep : ∀ next : Sden spec_l27Major.l2.inS → Option (Tup [.str, .bool]), ∀ cs, spec_l27Major.B2 n next cs (j, w, (i : Int), ()) = if hit eqS posS (slotAt w j) (List.length w.1) i = true then cs.1 (s.2.1, true, ()) else next (j, w, ((i + 1 : Nat) : Int), ()) := by
        intro next cs
        have hh : hit eqS posS (slotAt w j) (List.length w.1) i = (posS s && decide (List.length w.1 < 2 * cnt eqS (slotAt w j) (List.length w.1) s)) := by unfold hit; rw [hv]
        rw [hh]
        simp only [spec_l27Major.B2, lt_dec hi, in_dec hi, if_true, Int.toNat_natCast, hp, hc1, hc2, hc3, h3, Bool.or_false, Bool.false_or, Bool.or_true, Bool.not_false, Bool.not_true, Bool.false_eq_true, wrap_next hi hlen]
        by_cases h0 : @Eq Int s.1 0
        · have hz : posS s = false := by
            unfold posS
            exact decide_eq_false (by omega)
          have hz' : (s.1 == (0 : Int)) = true := by
            rw [h0]; rfl
          simp only [hz, hz', if_true, Bool.false_and, Bool.false_eq_true, if_false]
        · have hz : posS s = true := by
            unfold posS
            exact decide_eq_true (by omega)
          have hz' : (s.1 == (0 : Int)) = false := by
            simpa using h0
          simp only [hz, hz', Bool.true_and, Bool.false_eq_true, if_false]
          refine (runL_any (len := List.length w.1) (fun k => (j, w, (i : Int), ((List.getD w.1 i (Ty.zero tRecorder)).2.2.2.1.1, (List.getD w.1 i (Ty.zero tRecorder)).2.2.2.1.2.1, (List.getD w.1 i (Ty.zero tRecorder)).2.2.2.1.2.2.1, ()), ((cnt eqS (slotAt w j) k s : Nat) : Int), (k : Int), ()))
            (fun _ => false) none (if decide (List.length w.1 < 2 * cnt eqS (slotAt w j) (List.length w.1) s) = true then cs.1 (s.2.1, true, ()) else next (j, w, ((i + 1 : Nat) : Int), ())) ?_ ?_ (by omega)).trans ?_
          · intro next' k hk
            rw [if_neg (by decide)]
            have hck : cnt eqS (slotAt w j) k s ≤ k := by
              unfold cnt
              exact Nat.le_trans List.countP_le_length (by simp)
            cases hvk : slotAt w j k with
            | none =>
              have g1 := slot_none hvk
              rw [hc1, Bool.false_or] at g1
              unfold slotsOf at g1
              have g1' := of_decide_eq_true g1
              have g2 : decide (j ≤ (List.length (List.getD w.1 k (Ty.zero tRecorder)).2.2.2.1.2.2.1 : Int)) = false := decide_eq_false (by omega)
              have g3 : cnt eqS (slotAt w j) (k + 1) s = cnt eqS (slotAt w j) k s := by
                rw [cnt_succ]; unfold names; rw [hvk]; simp
              simp only [spec_l27Major.B8, lt_dec hk, in_dec hk, if_true, Int.toNat_natCast, g2, Bool.not_false, Bool.true_or, Bool.false_and, Bool.false_eq_true, if_false, wrap_next hk hlen, g3]
            | some t =>
              obtain ⟨g1, g2, g3⟩ := slot_some hvk
              unfold slotsOf at g2 g3
              have g4 : decide (j ≤ (List.length (List.getD w.1 k (Ty.zero tRecorder)).2.2.2.1.2.2.1 : Int)) = true := decide_eq_true (by omega)
              have g5 : decide (0 ≤ j - 1 ∧ j - 1 < (List.length (List.getD w.1 k (Ty.zero tRecorder)).2.2.2.1.2.2.1 : Int)) = true := decide_eq_true (by omega)
              have g6 : cnt eqS (slotAt w j) (k + 1) s = cnt eqS (slotAt w j) k s + if eqS s t = true then 1 else 0 := by
                rw [cnt_succ]; unfold names; rw [hvk]
              simp only [spec_l27Major.B8, lt_dec hk, in_dec hk, if_true, Int.toNat_natCast, g4, g5, hp, hc3, h3, g3, Bool.not_true, Bool.false_or, Bool.true_and, eqS_def, wrap_next hk hlen]
              by_cases h8 : eqS s t = true
              · refine (if_pos h8).trans ?_
                rw [g6, if_pos h8, wrap_eq (by omega) (by omega)]
                rfl
              · refine (if_neg h8).trans ?_
                rw [g6, if_neg h8]
                rfl
          · intro next'
            have hck : cnt eqS (slotAt w j) (List.length w.1) s ≤ List.length w.1 := by
              unfold cnt
              exact Nat.le_trans List.countP_le_length (by simp)
            simp only [spec_l27Major.B8, lt_dec', Bool.false_eq_true, if_false, hp, hc3, if_true, h3, wrap_next hi hlen]
            have e : IntKind.i64.wrap (2 * ((cnt eqS (slotAt w j) (List.length w.1) s : Nat) : Int)) = 2 * ((cnt eqS (slotAt w j) (List.length w.1) s : Nat) : Int) := wrap_eq (by omega) (by omega)
            rw [e]
            have e2 : decide (2 * ((cnt eqS (slotAt w j) (List.length w.1) s : Nat) : Int) > (List.length w.1 : Int)) = decide (List.length w.1 < 2 * cnt eqS (slotAt w j) (List.length w.1) s) := by
              rw [decide_eq_decide]; omega
            rw [e2]
          · simp
      by_cases hb : hit eqS posS (slotAt w j) (List.length w.1) i = true
      · rw [if_pos hb, hstep, if_pos hb]
        rfl
      · rw [if_neg hb]
        refine ⟨(), trivial, ?_⟩
        rw [hstep, if_neg hb]
  · intro next a _
    simp only [spec_l27Major.B2, lt_dec', Bool.false_eq_true, if_false]
  · unfold majD
    cases (List.range (List.length w.1)).find? (hit eqS posS (slotAt w j) (List.length w.1)) <;> rfl

include hn in
theorem implMajor_ok (w : Ty.den tRecWorld) (j : Int) (hs : small 1048576 tRecWorld w) :
    impl_RecWorld_major.f n (some w, j, ()) = some ((majD w j).elim ((⟨#[]⟩ : ByteArray), false, ()) (fun s => (s.2.1, true, ()))) := by
  have hn' : 18446744073709551616 ≤ n := hn
  have hlen : List.length w.1 ≤ 1048576 := hs.1.1
  unfold impl_RecWorld_major.f
  rw [if_pos (by rfl)]
  refine (runL_search (len := List.length w.1) (A := List (Ty.den tRecSlot × Int)) (fun i a => (some w, j, a, w.1, (List.length w.1 : Int), (i : Int), ()))
    (fun i a => ∀ s, mget tRecSlot a s = ((cnt eqS (slotAt w j) i s : Nat) : Int)) (hitI eqS posS (slotAt w j) (List.length w.1))
    (fun i => some ((slotAt w j i).elim ((⟨#[]⟩ : ByteArray), false, ()) (fun s => (s.2.1, true, ())))) (some ((⟨#[]⟩ : ByteArray), false, ())) ?_ ?_ (by omega) (a := []) ?_).trans ?_
  · intro next i a hi ha
    cases hv : slotAt w j i with
    | none =>
      have h1 := slot_none hv
      have h2 : hitI eqS posS (slotAt w j) (List.length w.1) i = false := by unfold hitI; rw [hv]
      have h3 : (decide (j ≥ 1) && decide (j ≤ (List.length (slotsOf w i) : Int))) = false := by
        simp only [Bool.or_eq_true, decide_eq_true_eq] at h1
        rcases h1 with h | h
        · rw [decide_eq_false (show ¬ j ≥ 1 by omega), Bool.false_and]
        · rw [decide_eq_false (show ¬ j ≤ (List.length (slotsOf w i) : Int) by omega), Bool.and_false]
      unfold slotsOf at h3
      rw [h2, if_neg (by decide)]
      refine ⟨a, fun s => ?_, ?_⟩
      · rw [ha s, cnt_succ]; unfold names; rw [hv]; simp
      · simp only [impl_RecWorld_major.B3, lt_dec hi, in_dec hi, if_true, Int.toNat_natCast, h3, Bool.false_eq_true, if_false, wrap_next hi hlen]
    | some s =>
      obtain ⟨h1, h2, h3⟩ := slot_some hv
      have hsl := slots_small hs hi
      have hll : List.length (slotsOf w i) ≤ 1048576 := hsl.1
      have hp := wrap_pred h1 (by omega : j ≤ 1048576)
      unfold slotsOf at h2 h3 hll
      have hc1 : decide (j ≥ 1) = true := decide_eq_true (by omega)
      have hc2 : decide (j ≤ (List.length (List.getD w.1 i (Ty.zero tRecorder)).2.2.2.1.2.2.1 : Int)) = true := decide_eq_true (by omega)
      have hc3 : decide (0 ≤ j - 1 ∧ j - 1 < (List.length (List.getD w.1 i (Ty.zero tRecorder)).2.2.2.1.2.2.1 : Int)) = true := decide_eq_true (by omega)
      have hck : cnt eqS (slotAt w j) i s ≤ i := by
        unfold cnt
        exact Nat.le_trans List.countP_le_length (by simp)
      have hcs : cnt eqS (slotAt w j) (i + 1) s = cnt eqS (slotAt w j) i s + 1 := by
        rw [cnt_succ]; unfold names; rw [hv, if_pos ((eqS_iff s s).2 rfl)]
      have hw1 : IntKind.i64.wrap (mget tRecSlot a s + 1) = ((cnt eqS (slotAt w j) (i + 1) s : Nat) : Int) := by
        rw [ha s, hcs, wrap_eq (by omega) (by omega)]; rfl
      have hm : decide (0 ≤ ((mat tRecSlot a s : Nat) : Int) ∧ ((mat tRecSlot a s : Nat) : Int) < (List.length (mtouch tRecSlot a s) : Int)) = true := decide_eq_true (by have := mat_in a s; omega)
      have hg : mget tRecSlot (mput tRecSlot a s ((cnt eqS (slotAt w j) (i + 1) s : Nat) : Int)) s = ((cnt eqS (slotAt w j) (i + 1) s : Nat) : Int) := by
        rw [mget_mput, if_pos (eqK_refl (by rfl))]
      have hw2 : IntKind.i64.wrap (2 * ((cnt eqS (slotAt w j) (i + 1) s : Nat) : Int)) = 2 * ((cnt eqS (slotAt w j) (i + 1) s : Nat) : Int) := wrap_eq (by omega) (by omega)
      have hd : decide (2 * ((cnt eqS (slotAt w j) (i + 1) s : Nat) : Int) > (List.length w.1 : Int)) = decide (List.length w.1 < 2 * cnt eqS (slotAt w j) (i + 1) s) := by
        rw [decide_eq_decide]; omega
      have hpos : (decide (s.1 > (0 : Int))) = posS s := rfl
      have hh : hitI eqS posS (slotAt w j) (List.length w.1) i = (posS s && decide (List.length w.1 < 2 * cnt eqS (slotAt w j) (i + 1) s)) := by unfold hitI; rw [hv]
      have hstep : impl_RecWorld_major.B3 n next ((fun z1 => some (z1.1, z1.2.1, ())), (fun z2 => some ((⟨#[]⟩ : ByteArray), false, ())), ()) (some w, j, a, w.1, (List.length w.1 : Int), (i : Int), ()) =
          if hitI eqS posS (slotAt w j) (List.length w.1) i = true then some (s.2.1, true, ()) else next (some w, j, mput tRecSlot a s ((cnt eqS (slotAt w j) (i + 1) s : Nat) : Int), w.1, (List.length w.1 : Int), ((i + 1 : Nat) : Int), ()) := by
        rw [hh]
        simp only [impl_RecWorld_major.B3, lt_dec hi, in_dec hi, if_true, Int.toNat_natCast, hp, hc1, hc2, hc3, h3, Bool.and_self, hm, Option.isSome_some, Option.getD_some, Bool.or_true, wrap_next hi hlen, hw1]
        erw [mset_put, hg, hw2, hd]
        rfl
      by_cases hb : hitI eqS posS (slotAt w j) (List.length w.1) i = true
      · rw [if_pos hb, hstep, if_pos hb]
        rfl
      · rw [if_neg hb]
        refine ⟨mput tRecSlot a s ((cnt eqS (slotAt w j) (i + 1) s : Nat) : Int), fun t => ?_, ?_⟩
        · rw [mget_mput]
          by_cases hst : eqK tRecSlot t s = true
          · rw [if_pos hst, eqK_eq hst]
          · rw [if_neg hst, ha t, cnt_succ]
            have : names eqS (slotAt w j) t i = false := by
              unfold names
              rw [hv]
              show eqS t s = false
              cases hq : eqS t s with
              | false => rfl
              | true => exact absurd (by rw [(eqS_iff t s).1 hq]; exact eqK_refl (by rfl)) hst
            rw [this]
            simp
        · rw [hstep, if_neg hb]
  · intro next a _
    simp only [impl_RecWorld_major.B3, lt_dec', Bool.false_eq_true, if_false]
  · intro s; rfl
  · unfold majD
    rw [major_same eqS eqS_iff posS (slotAt w j) (List.length w.1)]
    cases (List.range (List.length w.1)).find? (hitI eqS posS (slotAt w j) (List.length w.1)) <;> rfl
end

theorem slots_ok {l : List (Ty.den tRecSlot)} (h : slotsOkD l = true) {i : Nat} (hi : i < l.length) : @LE.le Int _ 0 (List.getD l i (Ty.zero tRecSlot)).1 := by
  unfold slotsOkD at h
  split at h
  · cases h
  · simp only [Bool.not_eq_true', List.any_eq_false, List.mem_range] at h
    have h' := h i hi
    unfold badSlot at h'
    rw [Int.toNat_natCast] at h'
    simp only [Bool.or_eq_true, not_or, Bool.not_eq_true, Bool.not_eq_false', Bool.and_eq_true, decide_eq_true_eq] at h'
    exact h'.1.1.1

theorem disk_slots {d : Ty.den tRecDisk} (h : diskOkD d = true) : slotsOkD d.2.2.1 = true := by
  rcases Bool.eq_false_or_eq_true (slotsOkD d.2.2.1) with hc | hc
  · exact hc
  · exfalso
    unfold diskOkD at h
    rw [if_pos (by rw [hc]; simp)] at h
    cases h

theorem world_valid {n : Nat} {w : Ty.den tRecWorld} (h : worldD n w = true) {i : Nat} (hi : i < List.length w.1) : validD n (List.getD w.1 i (Ty.zero tRecorder)) = true := by
  unfold worldD at h
  simp only [Bool.and_eq_true, Bool.not_eq_true', List.any_eq_false, List.mem_range] at h
  have h' := h.1.1.2 i hi
  unfold badRec at h'
  simp only [Bool.or_eq_true, not_or, Bool.not_eq_true, Bool.not_eq_false'] at h'
  exact h'.1.1

theorem world_nonneg {n : Nat} {w : Ty.den tRecWorld} (h : worldD n w = true) : nonneg w := by
  intro i j s hi hv
  have hd := disk_slots (valid_disk (world_valid h hi)).1
  obtain ⟨h1, h2, h3⟩ := slot_some hv
  have := slots_ok hd (i := Int.toNat (j - 1)) (by unfold slotsOf at h2; omega)
  rw [← h3]
  exact this

theorem seq_refl (a : ByteArray) : seq a a = true := by simp [seq]


theorem pure_law (n : Nat) (hn : Big n) (x : Tup [tRecWorld, (.int .i64)]) (hw : wfT [tRecWorld, (.int .i64)] x) : laws_FnExactRecMajor.f n x = some (true, ()) := by
  obtain ⟨w, j, ⟨⟩⟩ := x
  obtain ⟨hw1, _⟩ := hw
  unfold laws_FnExactRecMajor.f
  have h : laws_szRecWorld.f n (w, 1048576, ()) = _ := laws_szRecWorld_ok n hn w hw1 1048576 (by omega) (by omega)
  simp only [h, Option.bind_some]
  by_cases hb : (bulk tRecWorld w : Int) ≤ 1048576
  · have hs : small 1048576 tRecWorld w := small_of_bulk (by omega)
    rw [subL_pos hb, if_neg (by simp; omega)]
    have e1 : ∃ r : Tup [.str, .bool], spec_RecMajor.f n (w, j, ()) = some r ∧ impl_RecMajor.f n (w, j, ()) = some r := by
      unfold spec_RecMajor.f impl_RecMajor.f
      simp only [specWorld_ok hn w hs, implWorld_ok hn w hs, Option.bind_some]
      rcases Bool.eq_false_or_eq_true (worldD n w) with h0 | h0
      · have a : spec_l27Major.f n (w, j, ()) = _ := specMajor_ok hn w j hs (world_nonneg h0)
        have b : impl_RecWorld_major.f n (some w, j, ()) = _ := implMajor_ok hn w j hs
        simp only [h0, Bool.not_true, Bool.false_eq_true, if_false, a, b, Option.bind_some]
        exact ⟨_, rfl, rfl⟩
      · simp only [h0, Bool.not_false, if_true]
        exact ⟨_, rfl, rfl⟩
    obtain ⟨r, e1, e2⟩ := e1
    simp only [laws_toRecWorld_ok n hn w hs, Option.bind_some, e1, e2, laws_eqRecWorld_ok n hn (w, w, ()) hs]
    simp [eqD_refl, seq_refl]
  · rw [subL_neg hb, if_pos (by decide)]

end Go.Proofs.Ytpdaakbjdfnkhaa
