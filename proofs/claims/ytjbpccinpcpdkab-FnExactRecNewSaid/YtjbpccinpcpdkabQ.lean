/- The law FnExactRecNew: what the program tells and what the reference tells are one, for all arguments (the plain law, over printed pure functions). No conditions. -/
import Derived.Test.YtjbpccinpcpdkabP
set_option linter.unusedVariables false
set_option linter.unusedSimpArgs false
namespace Go.Proofs.Ytjbpccinpcpdkab
open Go Go.Vm
def newD (ok : Bool) (a b : Int) : Ty.den tRecorder :=
  if ok = true then (a, b, true, ((0 : Int), (0 : Int), [], ()), ((0 : Int), (0 : Int), [], ()), [], [], false, false, (0 : Int), [], [], [], (0 : Int), ())
  else ((0 : Int), (0 : Int), false, ((0 : Int), (0 : Int), [], ()), ((0 : Int), (0 : Int), [], ()), [], [], false, false, (0 : Int), [], [], [], (0 : Int), ())

def newOk (a b : Int) : Bool := (decide (b ≥ 1) && decide (b ≤ 5)) && (decide (a ≥ 1) && decide (a ≤ b))

theorem specNew_ok (n : Nat) (a b : Int) : spec_RecNew.f n (a, b, ()) = some (newD (newOk a b) a b, ()) := by
  unfold spec_RecNew.f newD newOk
  simp only [spec_l21In.f, Option.bind_some]
  rcases Bool.eq_false_or_eq_true (decide (b ≥ 1) && decide (b ≤ 5)) with h | h <;> rcases Bool.eq_false_or_eq_true (decide (a ≥ 1) && decide (a ≤ b)) with h' | h' <;> simp only [h, h', Bool.not_true, Bool.not_false, if_true, Bool.false_eq_true, if_false, Option.bind_some, Bool.or_false, Bool.or_true, Bool.true_and, Bool.false_and, tzero, Ty.zero]

theorem implNew_ok (n : Nat) (a b : Int) : impl_RecNew.f n (a, b, ()) = some (newD (newOk a b) a b, ()) := by
  unfold impl_RecNew.f newD newOk
  simp only [impl_within_rec.f, Option.bind_some]
  rcases Bool.eq_false_or_eq_true (decide (b ≥ 1) && decide (b ≤ 5)) with h | h <;> rcases Bool.eq_false_or_eq_true (decide (a ≥ 1) && decide (a ≤ b)) with h' | h' <;> simp only [h, h', Bool.not_true, Bool.not_false, if_true, Bool.false_eq_true, if_false, Option.bind_some, Bool.or_false, Bool.or_true, Bool.true_and, Bool.false_and, tzero, Ty.zero]

theorem newD_small (ok : Bool) (a b : Int) : small 1048576 tRecorder (newD ok a b) ∧ (wt tRecorder (newD ok a b) : Int) ≤ 100 := by
  cases ok
  · have h0 : bulk tRecorder (newD false a b) = 0 := by kernel_rfl
    have h1 : wt tRecorder (newD false a b) = 11 := by kernel_rfl
    exact ⟨small_of_bulk (by omega), by omega⟩
  · have h0 : bulk tRecorder (newD true a b) = 0 := by kernel_rfl
    have h1 : wt tRecorder (newD true a b) = 11 := by kernel_rfl
    exact ⟨small_of_bulk (by omega), by omega⟩

theorem pure_law (n : Nat) (hn : Big n) (x : Tup [.int .i64, .int .i64]) (hw : wfT [.int .i64, .int .i64] x) : laws_FnExactRecNew.f n x = some (true, ()) := by
  obtain ⟨a, b, ⟨⟩⟩ := x
  obtain ⟨hs, hwt⟩ := newD_small (newOk a b) a b
  obtain ⟨s1, s2, s3, s4, s5, s6, s7, k, p, q, m, h⟩ := laws_markRecorder_ok n hn (newD (newOk a b) a b) 1 (by omega) (by omega)
  have d : decide (k < 0) = false := decide_eq_false (by omega)
  unfold laws_FnExactRecNew.f
  have e1 : spec_RecNew.f n (a, b, ()) = _ := specNew_ok n a b
  have e2 : impl_RecNew.f n (a, b, ()) = _ := implNew_ok n a b
  simp only [e1, e2, Option.bind_some, laws_eqRecorder_ok n hn (newD (newOk a b) a b, newD (newOk a b) a b, ()) hs, eqD_refl, Bool.not_true, Bool.false_eq_true, if_false, m, h, d, bne_self_eq_false]

end Go.Proofs.Ytjbpccinpcpdkab
