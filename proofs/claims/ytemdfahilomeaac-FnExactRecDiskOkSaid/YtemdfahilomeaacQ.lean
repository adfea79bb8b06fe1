/- The law FnExactRecDiskOk: what the program tells and what the reference tells are one, for all arguments (the plain law, over printed pure functions). No conditions. -/
import Derived.Test.YtemdfahilomeaacP
set_option linter.unusedVariables false
set_option linter.unusedSimpArgs false
namespace Go.Proofs.Ytemdfahilomeaac
open Go Go.Vm
/-! ### slots, disks -/
section
variable {n : Nat} (hn : Big n)

def zSlot : Ty.den tRecSlot := Ty.zero tRecSlot
def badSlot (l : List (Ty.den tRecSlot)) (i : Nat) : Bool :=
  (((!((decide ((List.getD l (Int.toNat (i : Int)) (Ty.zero tRecSlot)).1 ≥ (0 : Int))) && (decide ((List.getD l (Int.toNat (i : Int)) (Ty.zero tRecSlot)).1 ≤ (1000000 : Int))))) || (decide ((ByteArray.size (List.getD l (Int.toNat (i : Int)) (Ty.zero tRecSlot)).2.1 : Int) > (160 : Int)))) || (((List.getD l (Int.toNat (i : Int)) (Ty.zero tRecSlot)).1 == (0 : Int)) && (!seq (List.getD l (Int.toNat (i : Int)) (Ty.zero tRecSlot)).2.1 (⟨#[]⟩ : ByteArray))))

def slotsOkD (l : List (Ty.den tRecSlot)) : Bool := if (decide ((List.length l : Int) > (120 : Int))) = true then false else !(List.range l.length).any (badSlot l)

include hn in
theorem specSlots_ok (l : List (Ty.den tRecSlot)) (hl : l.length ≤ 1048576) : spec_l21SlotsOk.f n (l, ()) = some (slotsOkD l, ()) := by
  have hn : 18446744073709551616 ≤ n := hn
  unfold spec_l21SlotsOk.f slotsOkD
  split
  · rfl
  · refine (runL_any (len := l.length) (fun i => (l, (i : Int), ())) (badSlot l) (some (false, ())) (some (true, ())) ?_ ?_ (by omega)).trans (by cases (List.range l.length).any (badSlot l) <;> rfl)
    · intro next i hi
      simp only [spec_l21SlotsOk.B4, spec_l21In.f, lt_dec hi, in_dec hi, wrap_next hi hl, Option.bind_some, Bool.or_true, if_true, badSlot]
      rfl
    · intro next
      simp only [spec_l21SlotsOk.B4, lt_dec', Bool.false_eq_true, if_false]

include hn in
theorem implSlots_ok (l : List (Ty.den tRecSlot)) (hl : l.length ≤ 1048576) : impl_slotsOk.f n (l, ()) = some (slotsOkD l, ()) := by
  have hn : 18446744073709551616 ≤ n := hn
  unfold impl_slotsOk.f slotsOkD
  split
  · rfl
  · refine (runL_any (len := l.length) (fun i => (l, (l.length : Int), (i : Int), ())) (badSlot l) (some (false, ())) (some (true, ())) ?_ ?_ (by omega)).trans (by cases (List.range l.length).any (badSlot l) <;> rfl)
    · intro next i hi
      simp only [impl_slotsOk.B4, impl_within_rec.f, lt_dec hi, in_dec hi, wrap_next hi hl, Option.bind_some, Bool.or_true, if_true, badSlot]
      rfl
    · intro next
      simp only [impl_slotsOk.B4, lt_dec', Bool.false_eq_true, if_false]

def badDisk (d : Ty.den tRecDisk) (i : Nat) : Bool :=
  ((decide ((List.getD d.2.2.1 (Int.toNat (i : Int)) (Ty.zero tRecSlot)).1 > d.1)) || ((decide ((i : Int) < d.2.1)) && ((List.getD d.2.2.1 (Int.toNat (i : Int)) (Ty.zero tRecSlot)).1 == (0 : Int))))

def diskOkD (d : Ty.den tRecDisk) : Bool :=
  if (((!((decide (d.1 ≥ (0 : Int))) && (decide (d.1 ≤ (1000000 : Int))))) || (!(if (!(!((decide (d.1 ≥ (0 : Int))) && (decide (d.1 ≤ (1000000 : Int)))))) = true then slotsOkD d.2.2.1 else false))) || (!((decide (d.2.1 ≥ (0 : Int))) && (decide (d.2.1 ≤ (List.length d.2.2.1 : Int)))))) = true then false
  else !(List.range (List.length d.2.2.1)).any (badDisk d)

theorem guarded {c : Bool} {a b : Bool × Unit} : (if c = true then some a else some b) = some (if c = true then a else b) := by cases c <;> rfl

include hn in
theorem specDisk_ok (d : Ty.den tRecDisk) (hl : List.length d.2.2.1 ≤ 1048576) : spec_RecDiskOk.f n (d, ()) = some (diskOkD d, ()) := by
  have hn' : 18446744073709551616 ≤ n := hn
  obtain ⟨p, kn, l, ⟨⟩⟩ := d
  have hl : l.length ≤ 1048576 := hl
  unfold spec_RecDiskOk.f diskOkD
  simp only [spec_l21In.f, specSlots_ok hn l hl, Option.bind_some]
  cases h1 : ((decide (p ≥ (0 : Int))) && (decide (p ≤ (1000000 : Int)))) with
  | false => simp
  | true =>
    cases h2 : slotsOkD l with
    | false => simp
    | true =>
      cases h3 : ((decide (kn ≥ (0 : Int))) && (decide (kn ≤ (List.length l : Int)))) with
      | false => simp
      | true =>
        simp only [Bool.not_true, Bool.not_false, Bool.or_false, if_true, Option.bind_some, Bool.false_eq_true, if_false]
        refine (runL_any (len := l.length) (fun i => ((p, kn, l, ()), (i : Int), ())) (badDisk (p, kn, l, ())) (some (false, ())) (some (true, ())) ?_ ?_ (by omega)).trans (by cases (List.range l.length).any (badDisk (p, kn, l, ())) <;> rfl)
        · intro next i hi
          simp only [spec_RecDiskOk.B4, lt_dec hi, in_dec hi, wrap_next hi hl, Option.bind_some, Bool.or_true, if_true, badDisk]
          rfl
        · intro next
          simp only [spec_RecDiskOk.B4, lt_dec', Bool.false_eq_true, if_false]

include hn in
theorem implDisk_ok (d : Ty.den tRecDisk) (hl : List.length d.2.2.1 ≤ 1048576) : impl_RecDiskOk.f n (d, ()) = some (diskOkD d, ()) := by
  have hn' : 18446744073709551616 ≤ n := hn
  obtain ⟨p, kn, l, ⟨⟩⟩ := d
  have hl : l.length ≤ 1048576 := hl
  unfold impl_RecDiskOk.f diskOkD
  simp only [impl_within_rec.f, implSlots_ok hn l hl, Option.bind_some]
  cases h1 : ((decide (p ≥ (0 : Int))) && (decide (p ≤ (1000000 : Int)))) with
  | false => simp
  | true =>
    cases h2 : slotsOkD l with
    | false => simp
    | true =>
      cases h3 : ((decide (kn ≥ (0 : Int))) && (decide (kn ≤ (List.length l : Int)))) with
      | false => simp
      | true =>
        simp only [Bool.not_true, Bool.not_false, Bool.or_false, if_true, Option.bind_some, Bool.false_eq_true, if_false]
        refine (runL_any (len := l.length) (fun i => ((p, kn, l, ()), l, (l.length : Int), (i : Int), ())) (badDisk (p, kn, l, ())) (some (false, ())) (some (true, ())) ?_ ?_ (by omega)).trans (by cases (List.range l.length).any (badDisk (p, kn, l, ())) <;> rfl)
        · intro next i hi
          simp only [impl_RecDiskOk.B4, lt_dec hi, in_dec hi, wrap_next hi hl, Option.bind_some, Bool.or_true, if_true, badDisk]
          rfl
        · intro next
          simp only [impl_RecDiskOk.B4, lt_dec', Bool.false_eq_true, if_false]
end

theorem pure_law (n : Nat) (hn : Big n) (x : Tup [tRecDisk]) (hw : wfT [tRecDisk] x) : laws_FnExactRecDiskOk.f n x = some (true, ()) := by
  obtain ⟨d, ⟨⟩⟩ := x
  obtain ⟨hw1, _⟩ := hw
  unfold laws_FnExactRecDiskOk.f
  have h : laws_szRecDisk.f n (d, 1048576, ()) = _ := laws_szRecDisk_ok n hn d hw1 1048576 (by omega) (by omega)
  simp only [h, Option.bind_some]
  by_cases hb : (bulk tRecDisk d : Int) ≤ 1048576
  · have hs : small 1048576 tRecDisk d := small_of_bulk (by omega)
    rw [subL_pos hb, if_neg (by simp; omega)]
    simp only [laws_toRecDisk_ok n hn d hs, Option.bind_some, specDisk_ok hn d hs.2.2.1.1, implDisk_ok hn d hs.2.2.1.1, laws_eqRecDisk_ok n hn (d, d, ()) hs]
    simp [eqD_refl]
  · rw [subL_neg hb, if_pos (by decide)]

end Go.Proofs.Ytemdfahilomeaac
