/- The program's RecNextBallot answers what the reference's answers, for all three numbers. No conditions. -/
import Derived.Test.YtlehgodmbcbagabPFnExactRecNextBallotx1
namespace Go.Proofs.Ytlehgodmbcbagab.Pure
open Go.RowKit Go.Proofs.Ytlehgodmbcbagab.PFnExactRecNextBallot Go.Proofs.YtlehgodmbcbagabW.PrintWords Go.Proofs.YtlehgodmbcbagabW.PrintLast

theorem wrap_small {n : Int} (h0 : -9223372036854775808 ≤ n) (h1 : n ≤ 9223372036854775807) : wrap64 n = n := by
  unfold wrap64
  omega

theorem loop_tells (num of t : Int) (hof : of ≠ 0) (ht : Int.tmod t of = Int.tmod num of) (ht2 : t ≤ 1000010) :
    ∀ (d k : Nat) (x : Int), 0 ≤ x → t - x = d → d < k → (∀ y, x ≤ y → y < t → Int.tmod y of ≠ Int.tmod num of) →
      impl_RecNextBallot.l0 k num of x = some (if t ≤ 1000000 then t else 0) := by
  intro d
  induction d with
  | zero =>
    intro k x h0 hd hk hn
    obtain ⟨k, rfl⟩ : ∃ m, k = m + 1 := ⟨k - 1, by omega⟩
    have hx : x = t := by omega
    subst hx
    simp only [impl_RecNextBallot.l0]
    by_cases hb : x ≤ 1000000
    · rw [if_pos hb, if_neg hof, if_pos ht, if_pos hb]
    · rw [if_neg hb, if_neg hb]
  | succ d ih =>
    intro k x h0 hd hk hn
    obtain ⟨k, rfl⟩ : ∃ m, k = m + 1 := ⟨k - 1, by omega⟩
    simp only [impl_RecNextBallot.l0]
    by_cases hb : x ≤ 1000000
    · rw [if_pos hb, if_neg hof, if_neg (hn x (by omega) (by omega)), wrap_small (by omega) (by omega)]
      exact ih k (x + 1) (by omega) (by omega) (by omega) (fun y h1 h2 => hn y (by omega) h2)
    · rw [if_neg hb, if_neg (by omega)]

theorem next_of (above num of : Int) (h3 : 1 ≤ of) (h4 : of ≤ 5) (h5 : 1 ≤ num) (h6 : num ≤ of) :
    ∃ t, above < t ∧ t ≤ above + of ∧ t % of = num % of ∧ (∀ y, above < y → y < t → y % of ≠ num % of) ∧
      t = (if above / of * of + num ≤ above then above / of * of + num + of else above / of * of + num) := by
  refine ⟨_, ?_, ?_, ?_, ?_, rfl⟩ <;>
  · obtain rfl | rfl | rfl | rfl | rfl : of = 1 ∨ of = 2 ∨ of = 3 ∨ of = 4 ∨ of = 5 := by omega
    all_goals first | (split <;> omega) | (intro y hy; split <;> omega)

theorem FnExactRecNextBallot : laws_FnExactRecNextBallot.Pure := by
  intro above num of w0 w1 w2
  have hw (n : Int) (h : (Lit.int .i64 n).wf = true) : -9223372036854775808 ≤ n ∧ n ≤ 9223372036854775807 := by
    have := h
    simp [Lit.wf] at this
    first | exact this | (constructor <;> omega)
  by_cases hall : (1 ≤ of ∧ of ≤ 5) ∧ (1 ≤ num ∧ num ≤ of) ∧ (0 ≤ above ∧ above ≤ 1000000)
  · obtain ⟨⟨h3, h4⟩, ⟨h5, h6⟩, h1, h2⟩ := hall
    obtain ⟨t, ha, hb, hc, hd, he⟩ := next_of above num of h3 h4 h5 h6
    have e1 : Int.tdiv above of = above / of := Int.tdiv_eq_ediv_of_nonneg h1
    have hq0 : 0 ≤ above / of := Int.ediv_nonneg h1 (by omega)
    have hq : above / of * of ≤ above := Int.ediv_mul_le above (by omega)
    have hq1 : 0 ≤ above / of * of := Int.mul_nonneg hq0 (by omega)
    have hq2 : above / of ≤ above := Int.ediv_le_self of h1
    refine ⟨1000, ?_⟩
    have hspec : spec_RecNextBallot.f 1000 above num of = some (if t ≤ 1000000 then t else 0) := by
      unfold spec_RecNextBallot.f spec_l21In.f
      rw [if_pos h3, decide_eq_true h4]
      simp only [Option.bind_some, if_true]
      rw [if_pos h5, decide_eq_true h6]
      simp only [Option.bind_some, if_true]
      rw [if_pos h1, decide_eq_true h2]
      simp only [Option.bind_some, Bool.not_true]
      show spec_RecNextBallot.j0 (999 + 1) above num of false = _
      simp only [spec_RecNextBallot.j0]
      rw [if_neg (by decide), if_neg (by omega), e1, wrap_small (n := above / of) (by omega) (by omega), wrap_small (n := above / of * of) (by omega) (by omega),
        wrap_small (n := above / of * of + num) (by omega) (by omega), wrap_small (n := above / of * of + num + of) (by omega) (by omega)]
      rw [he]
      split <;> split <;> split <;> first | rfl | omega
    have himpl : impl_RecNextBallot.f 1000 above num of = some (if t ≤ 1000000 then t else 0) := by
      unfold impl_RecNextBallot.f impl_within_rec.f
      rw [if_pos h1, decide_eq_true h2]
      simp only [Option.bind_some, if_true]
      rw [if_pos h3, decide_eq_true h4]
      simp only [Option.bind_some, if_true]
      rw [if_pos h5, decide_eq_true h6]
      simp only [Option.bind_some, Bool.not_true]
      show impl_RecNextBallot.j0 (999 + 1) above num of false = _
      simp only [impl_RecNextBallot.j0]
      rw [if_neg (by decide), wrap_small (n := above + 1) (by omega) (by omega)]
      have tm (y : Int) (hy : 0 ≤ y) : Int.tmod y of = y % of := Int.tmod_eq_emod_of_nonneg hy
      refine loop_tells num of t (by omega) ?_ (by omega) (t - (above + 1)).toNat 999 (above + 1) (by omega) (by omega) (by omega) ?_
      · rw [tm t (by omega), tm num (by omega), hc]
      · intro y hy1 hy2
        rw [tm y (by omega), tm num (by omega)]
        exact hd y (by omega) hy2
    unfold laws_FnExactRecNextBallot.f
    rw [hspec, himpl]
    simp
  · refine ⟨1000, ?_⟩
    have hspec : spec_RecNextBallot.f 1000 above num of = some 0 := by
      unfold spec_RecNextBallot.f spec_l21In.f
      by_cases c1 : 1 ≤ of ∧ of ≤ 5
      · rw [if_pos c1.1, decide_eq_true c1.2]
        simp only [Option.bind_some, if_true]
        by_cases c2 : 1 ≤ num ∧ num ≤ of
        · rw [if_pos c2.1, decide_eq_true c2.2]
          simp only [Option.bind_some, if_true]
          by_cases c3 : 0 ≤ above
          · rw [if_pos c3, decide_eq_false (by omega)]
            rfl
          · rw [if_neg (by omega)]
            rfl
        · by_cases c3 : 1 ≤ num
          · rw [if_pos c3, decide_eq_false (by omega)]
            rfl
          · rw [if_neg (by omega)]
            rfl
      · by_cases c3 : 1 ≤ of
        · rw [if_pos c3, decide_eq_false (by omega)]
          rfl
        · rw [if_neg (by omega)]
          rfl
    have himpl : impl_RecNextBallot.f 1000 above num of = some 0 := by
      unfold impl_RecNextBallot.f impl_within_rec.f
      by_cases c1 : 0 ≤ above ∧ above ≤ 1000000
      · rw [if_pos c1.1, decide_eq_true c1.2]
        simp only [Option.bind_some, if_true]
        by_cases c2 : 1 ≤ of ∧ of ≤ 5
        · rw [if_pos c2.1, decide_eq_true c2.2]
          simp only [Option.bind_some, if_true]
          by_cases c3 : 1 ≤ num
          · rw [if_pos c3, decide_eq_false (by omega)]
            rfl
          · rw [if_neg (by omega)]
            rfl
        · by_cases c3 : 1 ≤ of
          · rw [if_pos c3, decide_eq_false (by omega)]
            rfl
          · rw [if_neg (by omega)]
            rfl
      · by_cases c3 : 0 ≤ above
        · rw [if_pos c3, decide_eq_false (by omega)]
          rfl
        · rw [if_neg (by omega)]
          rfl
    unfold laws_FnExactRecNextBallot.f
    rw [hspec, himpl]
    simp

end Go.Proofs.Ytlehgodmbcbagab.Pure
