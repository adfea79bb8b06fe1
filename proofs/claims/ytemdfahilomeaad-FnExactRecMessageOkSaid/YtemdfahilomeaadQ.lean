/- The law FnExactRecMessageOk: what the program tells and what the reference tells are one, for all arguments (the plain law, over printed pure functions). No conditions. -/
import Derived.Test.YtemdfahilomeaadP
set_option linter.unusedVariables false
set_option linter.unusedSimpArgs false
namespace Go.Proofs.Ytemdfahilomeaad
open Go Go.Vm
/-! ### slots -/
section
variable {n : Nat} (hn : Big n)

def badSlot (l : List (Ty.den tRecSlot)) (i : Nat) : Bool :=
  (((!((decide ((List.getD l (Int.toNat (i : Int)) (Ty.zero tRecSlot)).1 ≥ (0 : Int))) && (decide ((List.getD l (Int.toNat (i : Int)) (Ty.zero tRecSlot)).1 ≤ (1000000 : Int))))) || (decide ((ByteArray.size (List.getD l (Int.toNat (i : Int)) (Ty.zero tRecSlot)).2.1 : Int) > (160 : Int)))) || (((List.getD l (Int.toNat (i : Int)) (Ty.zero tRecSlot)).1 == (0 : Int)) && (!seq (List.getD l (Int.toNat (i : Int)) (Ty.zero tRecSlot)).2.1 (⟨#[]⟩ : ByteArray))))

def slotsOkD (l : List (Ty.den tRecSlot)) : Bool := if (decide ((List.length l : Int) > (120 : Int))) = true then false else !(List.range l.length).any (badSlot l)

include hn in
theorem specSlots_ok (l : List (Ty.den tRecSlot)) (hl : l.length ≤ 1048576) : spec_l21SlotsOk.f n (l, ()) = some (slotsOkD l, ()) := by
  have hn : 18446744073709551616 ≤ n := hn
  unfold spec_l21SlotsOk.f slotsOkD
  split
  · rfl
  · refine (runL_any (len := l.length) (fun i => (l, (i : Int), ())) (badSlot l) (some (false, ())) (some (true, ())) ?_ ?_ (by omega)).trans (by cases (List.range l.length).any (badSlot l) <;> rfl)
    · intro next i hi
      simp only [spec_l21SlotsOk.B4, spec_l21In.f, lt_dec hi, in_dec hi, wrap_next hi hl, Option.bind_some, Bool.or_true, if_true, badSlot]
      rfl
    · intro next
      simp only [spec_l21SlotsOk.B4, lt_dec', Bool.false_eq_true, if_false]

include hn in
theorem implSlots_ok (l : List (Ty.den tRecSlot)) (hl : l.length ≤ 1048576) : impl_slotsOk.f n (l, ()) = some (slotsOkD l, ()) := by
  have hn : 18446744073709551616 ≤ n := hn
  unfold impl_slotsOk.f slotsOkD
  split
  · rfl
  · refine (runL_any (len := l.length) (fun i => (l, (l.length : Int), (i : Int), ())) (badSlot l) (some (false, ())) (some (true, ())) ?_ ?_ (by omega)).trans (by cases (List.range l.length).any (badSlot l) <;> rfl)
    · intro next i hi
      simp only [impl_slotsOk.B4, impl_within_rec.f, lt_dec hi, in_dec hi, wrap_next hi hl, Option.bind_some, Bool.or_true, if_true, badSlot]
      rfl
    · intro next
      simp only [impl_slotsOk.B4, lt_dec', Bool.false_eq_true, if_false]

theorem guarded {c : Bool} {a b : Bool × Unit} : (if c = true then some a else some b) = some (if c = true then a else b) := by cases c <;> rfl
end

theorem same_RecMessageOk (n : Nat) (hn : Big n) (m : Ty.den tRecMessage) (of : Int) (hl : List.length m.2.2.2.2.2.2.2.1 ≤ 1048576) : ∃ b : Bool, spec_RecMessageOk.f n (m, of, ()) = some (b, ()) ∧ impl_RecMessageOk.f n (m, of, ()) = some (b, ()) := by
  unfold spec_RecMessageOk.f impl_RecMessageOk.f
  simp only [spec_l21In.f, impl_within_rec.f, specSlots_ok hn _ hl, implSlots_ok hn _ hl, guarded, Option.bind_some]
  exact ⟨_, rfl, rfl⟩

theorem pure_law (n : Nat) (hn : Big n) (x : Tup [tRecMessage, .int .i64]) (hw : wfT [tRecMessage, .int .i64] x) : laws_FnExactRecMessageOk.f n x = some (true, ()) := by
  obtain ⟨d, of, ⟨⟩⟩ := x
  obtain ⟨hw1, _⟩ := hw
  unfold laws_FnExactRecMessageOk.f
  have h : laws_szRecMessage.f n (d, 1048576, ()) = _ := laws_szRecMessage_ok n hn d hw1 1048576 (by omega) (by omega)
  simp only [h, Option.bind_some]
  by_cases hb : (bulk tRecMessage d : Int) ≤ 1048576
  · have hs : small 1048576 tRecMessage d := small_of_bulk (by omega)
    rw [subL_pos hb, if_neg (by simp; omega)]
    obtain ⟨b, h1, h2⟩ := same_RecMessageOk n hn d of hs.2.2.2.2.2.2.2.1.1
    simp only [laws_toRecMessage_ok n hn d hs, Option.bind_some, h1, h2, laws_eqRecMessage_ok n hn (d, d, ()) hs]
    simp [eqD_refl]
  · rw [subL_neg hb, if_pos (by decide)]

end Go.Proofs.Ytemdfahilomeaad
