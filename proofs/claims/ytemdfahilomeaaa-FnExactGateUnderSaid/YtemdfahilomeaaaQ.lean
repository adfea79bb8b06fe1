/- The law FnExactGateUnder: what the program tells and what the reference tells are one, for all arguments (the plain law, over printed pure functions). No conditions. -/
import Derived.Test.YtemdfahilomeaaaP
set_option linter.unusedVariables false
set_option linter.unusedSimpArgs false
namespace Go.Proofs.Ytemdfahilomeaaa
open Go Go.Vm
/-! ### teams, one under another -/
section
variable {n : Nat} (hn : Big n)

def overOf (teams : List (Ty.den tGateTeam)) (a : ByteArray) : ByteArray := (teams.findIdx? (fun t => seq t.1 a)).elim (⟨#[]⟩ : ByteArray) (fun i => (teams.getD i (Ty.zero tGateTeam)).2.1)

include hn in
theorem teamOf_ok (teams : List (Ty.den tGateTeam)) (hl : teams.length ≤ 1048576) (a : ByteArray) : impl_teamOf.f n (teams, a, ()) = some (fidx (fun t : Ty.den tGateTeam => seq t.1 a) teams, ()) := by
  have hn : 18446744073709551616 ≤ n := hn
  unfold impl_teamOf.f
  refine (runL_find (l := teams) (fun i => (a, teams, (teams.length : Int), (i : Int), ())) (fun t : Ty.den tGateTeam => seq t.1 a) (fun i => some ((i : Int), ())) (some (-1, ())) ?_ ?_ (by omega)).trans ?_
  · intro next i hi
    simp only [impl_teamOf.B2]
    rw [if_pos (by simpa using hi), if_pos (by simp; omega), getD_nat _ _ _ hi, wrap_eq (by omega) (by omega)]
    rfl
  · intro next
    simp only [impl_teamOf.B2]
    rw [if_neg (by simp)]
  · simp only [fidx]
    cases teams.findIdx? (fun t : Ty.den tGateTeam => seq t.1 a) <;> rfl

include hn in
theorem l4Over_ok (teams : List (Ty.den tGateTeam)) (hl : teams.length ≤ 1048576) (a : ByteArray) : spec_l4Over.f n (teams, a, ()) = some (overOf teams a, ()) := by
  have hn : 18446744073709551616 ≤ n := hn
  unfold spec_l4Over.f
  refine (runL_find (l := teams) (fun i => (teams, a, (i : Int), ())) (fun t : Ty.den tGateTeam => seq t.1 a) (fun i => some ((teams.getD i (Ty.zero tGateTeam)).2.1, ())) (some (⟨#[]⟩, ())) ?_ ?_ (by omega)).trans ?_
  · intro next i hi
    simp only [spec_l4Over.B2]
    have e : teams.getD i (Ty.zero tGateTeam) = teams[i] := by simp [hi]
    have hb : decide (0 ≤ (i : Int) ∧ (i : Int) < (teams.length : Int)) = true := by simp; omega
    rw [if_pos (by simpa using hi), if_pos hb, getD_nat _ _ _ hi, e, if_pos hb, wrap_eq (by omega) (by omega)]
    rfl
  · intro next
    simp only [spec_l4Over.B2]
    rw [if_neg (by simp)]
  · simp only [overOf]
    cases teams.findIdx? (fun t : Ty.den tGateTeam => seq t.1 a) <;> rfl

/-- So many steps at most. -/
def goUp (teams : List (Ty.den tGateTeam)) (b : ByteArray) : Nat → ByteArray → Bool
  | 0, _ => false
  | k + 1, a => if seq (overOf teams a) ⟨#[]⟩ = true then false else if seq (overOf teams a) b = true then true else goUp teams b k (overOf teams a)

def underOf (teams : List (Ty.den tGateTeam)) (a b : ByteArray) : Bool := seq a b || goUp teams b 4 a

include hn in
theorem specUnder_ok (teams : List (Ty.den tGateTeam)) (hl : teams.length ≤ 1048576) (a b : ByteArray) : spec_GateUnder.f n (teams, a, b, ()) = some (underOf teams a b, ()) := by
  have hn : 18446744073709551616 ≤ n := hn
  unfold spec_GateUnder.f underOf
  cases hab : seq a b with
  | true => simp
  | false =>
    simp only [Bool.false_eq_true, if_false, Bool.false_or]
    have key : ∀ (d : Nat) (i : Nat) (k : Nat) (a : ByteArray), i + d = 4 → d < k → runL (spec_GateUnder.B4 n) ((fun z2 => some (z2.1, ())), (fun z3 => some (false, ())), ()) k (teams, a, b, (i : Int), ()) = some (goUp teams b d a, ()) := by
      intro d
      induction d with
      | zero =>
        intro i k a hi hk
        rw [runL_pos _ _ hk]
        simp only [spec_GateUnder.B4]
        rw [if_neg (by simp; omega)]
        rfl
      | succ d ih =>
        intro i k a hi hk
        rw [runL_pos _ _ (by omega)]
        simp only [spec_GateUnder.B4]
        rw [if_pos (decide_eq_true (show (i : Int) < 4 by omega)), l4Over_ok hn teams hl a]
        simp only [Option.bind_some, goUp]
        split
        · rfl
        · split
          · rfl
          · rw [wrap_eq (by omega) (by omega)]
            exact ih (i + 1) (k - 1) _ (by omega) (by omega)
    exact key 4 0 n a (by omega) (by omega)

include hn in
theorem implUnder_ok (teams : List (Ty.den tGateTeam)) (hl : teams.length ≤ 1048576) (a b : ByteArray) : impl_GateUnder.f n (teams, a, b, ()) = some (underOf teams a b, ()) := by
  have hn : 18446744073709551616 ≤ n := hn
  unfold impl_GateUnder.f
  have key : ∀ (d : Nat) (i : Nat) (k : Nat) (a : ByteArray), i + d = 4 → d + 1 < k → runL (impl_GateUnder.B2 n) ((fun z2 => some (z2.1, ())), (fun z3 => some (true, ())), ()) k (teams, a, b, (i : Int), ()) = some (seq a b || goUp teams b d a, ()) := by
    intro d
    induction d with
    | zero =>
      intro i k a hi hk
      rw [runL_pos _ _ (by omega)]
      simp only [impl_GateUnder.B2]
      cases hab : seq a b with
      | true => simp
      | false =>
        rw [if_pos (by simp), teamOf_ok hn teams hl a]
        have : i = 4 := by omega
        subst this
        simp [goUp]
    | succ d ih =>
      intro i k a hi hk
      rw [runL_pos _ _ (by omega)]
      simp only [impl_GateUnder.B2]
      cases hab : seq a b with
      | true => simp
      | false =>
        rw [if_pos (by simp), teamOf_ok hn teams hl a]
        have hi4 : ((i : Int) == 4) = false := by simp; omega
        simp only [Option.bind_some, hi4, Bool.false_or, goUp]
        cases hf : teams.findIdx? (fun t : Ty.den tGateTeam => seq t.1 a) with
        | none =>
          have ho : overOf teams a = ⟨#[]⟩ := by simp [overOf, hf]
          rw [fidx_none hf, ho]
          simp [seq_refl]
        | some j =>
          have hj := findIdx?_lt hf
          have ho : overOf teams a = (teams[j]).2.1 := by simp [overOf, hf, hj]
          rw [fidx_some hf, getD_nat _ _ _ hj, ← ho]
          have h1 : decide ((j : Int) < 0) = false := by simp
          have h2 : decide (0 ≤ (j : Int) ∧ (j : Int) < (teams.length : Int)) = true := by simp; omega
          rw [h1, h2]
          simp only [Bool.or_true, if_true, Bool.false_or]
          split
          · rfl
          · rw [wrap_eq (by omega) (by omega)]
            refine (ih (i + 1) (k - 1) _ (by omega) (by omega)).trans ?_
            congr 1
            cases seq (overOf teams a) b <;> simp
  exact key 4 0 n a (by omega) (by omega)
end

theorem pure_law (n : Nat) (hn : Big n) (x : Tup [(.slice tGateTeam), .str, .str]) (hw : wfT [(.slice tGateTeam), .str, .str] x) : laws_FnExactGateUnder.f n x = some (true, ()) := by
  obtain ⟨teams, a, b, ⟨⟩⟩ := x
  obtain ⟨hw1, hw2, hw3, _⟩ := hw
  unfold laws_FnExactGateUnder.f
  split
  · rfl
  · split
    · rfl
    · have h : laws_szGateTeamS.f n (teams, 1048576, ()) = _ := laws_szGateTeamS_ok n hn teams hw1 1048576 (by omega) (by omega)
      simp only [h, Option.bind_some]
      by_cases hb : (bulk (.slice tGateTeam) teams : Int) ≤ 1048576
      · rw [subL_pos hb, if_neg (by simp; omega)]
        have hs : small 1048576 (.slice tGateTeam) teams := small_of_bulk (by omega)
        rw [laws_toGateTeamS_ok n hn teams hs]
        simp only [Option.bind_some]
        rw [specUnder_ok hn teams hs.1, implUnder_ok hn teams hs.1, laws_eqGateTeamS_ok n hn (teams, teams, ()) hs]
        simp [eqD_refl]
      · rw [subL_neg hb, if_pos (by decide)]

end Go.Proofs.Ytemdfahilomeaaa
