/- The law FnExactGateUsed: what the program tells and what the reference tells are one, for all arguments (the plain law, over printed pure functions). No conditions. -/
import Derived.Test.YtbnjehabiginjaiP
set_option linter.unusedVariables false
set_option linter.unusedSimpArgs false
namespace Go.Proofs.Ytbnjehabiginjai
open Go Go.Vm
/-! ### teams, one under another -/
section
variable {n : Nat} (hn : Big n)

def overOf (teams : List (Ty.den tGateTeam)) (a : ByteArray) : ByteArray := (teams.findIdx? (fun t => seq t.1 a)).elim (⟨#[]⟩ : ByteArray) (fun i => (teams.getD i (Ty.zero tGateTeam)).2.1)

include hn in
theorem teamOf_ok (teams : List (Ty.den tGateTeam)) (hl : teams.length ≤ 1048576) (a : ByteArray) : impl_teamOf.f n (teams, a, ()) = some (fidx (fun t : Ty.den tGateTeam => seq t.1 a) teams, ()) := by
  have hn : 18446744073709551616 ≤ n := hn
  unfold impl_teamOf.f
  refine (runL_find (l := teams) (fun i => (a, teams, (teams.length : Int), (i : Int), ())) (fun t : Ty.den tGateTeam => seq t.1 a) (fun i => some ((i : Int), ())) (some (-1, ())) ?_ ?_ (by omega)).trans ?_
  · intro next i hi
    simp only [impl_teamOf.B2]
    rw [if_pos (by simpa using hi), if_pos (by simp; omega), getD_nat _ _ _ hi, wrap_eq (by omega) (by omega)]
    rfl
  · intro next
    simp only [impl_teamOf.B2]
    rw [if_neg (by simp)]
  · simp only [fidx]
    cases teams.findIdx? (fun t : Ty.den tGateTeam => seq t.1 a) <;> rfl

include hn in
theorem l4Over_ok (teams : List (Ty.den tGateTeam)) (hl : teams.length ≤ 1048576) (a : ByteArray) : spec_l4Over.f n (teams, a, ()) = some (overOf teams a, ()) := by
  have hn : 18446744073709551616 ≤ n := hn
  unfold spec_l4Over.f
  refine (runL_find (l := teams) (fun i => (teams, a, (i : Int), ())) (fun t : Ty.den tGateTeam => seq t.1 a) (fun i => some ((teams.getD i (Ty.zero tGateTeam)).2.1, ())) (some (⟨#[]⟩, ())) ?_ ?_ (by omega)).trans ?_
  · intro next i hi
    simp only [spec_l4Over.B2]
    have e : teams.getD i (Ty.zero tGateTeam) = teams[i] := by simp [hi]
    have hb : decide (0 ≤ (i : Int) ∧ (i : Int) < (teams.length : Int)) = true := by simp; omega
    rw [if_pos (by simpa using hi), if_pos hb, getD_nat _ _ _ hi, e, if_pos hb, wrap_eq (by omega) (by omega)]
    rfl
  · intro next
    simp only [spec_l4Over.B2]
    rw [if_neg (by simp)]
  · simp only [overOf]
    cases teams.findIdx? (fun t : Ty.den tGateTeam => seq t.1 a) <;> rfl

end

/-! ### under -/
section
variable {n : Nat} (hn : Big n)

/-- So many steps at most. -/
def goUp (teams : List (Ty.den tGateTeam)) (b : ByteArray) : Nat → ByteArray → Bool
  | 0, _ => false
  | k + 1, a => if seq (overOf teams a) ⟨#[]⟩ = true then false else if seq (overOf teams a) b = true then true else goUp teams b k (overOf teams a)

def underOf (teams : List (Ty.den tGateTeam)) (a b : ByteArray) : Bool := seq a b || goUp teams b 4 a

include hn in
theorem specUnder_ok (teams : List (Ty.den tGateTeam)) (hl : teams.length ≤ 1048576) (a b : ByteArray) : spec_GateUnder.f n (teams, a, b, ()) = some (underOf teams a b, ()) := by
  have hn : 18446744073709551616 ≤ n := hn
  unfold spec_GateUnder.f underOf
  cases hab : seq a b with
  | true => simp
  | false =>
    simp only [Bool.false_eq_true, if_false, Bool.false_or]
    have key : ∀ (d : Nat) (i : Nat) (k : Nat) (a : ByteArray), i + d = 4 → d < k → runL (spec_GateUnder.B4 n) ((fun z2 => some (z2.1, ())), (fun z3 => some (false, ())), ()) k (teams, a, b, (i : Int), ()) = some (goUp teams b d a, ()) := by
      intro d
      induction d with
      | zero =>
        intro i k a hi hk
        rw [runL_pos _ _ hk]
        simp only [spec_GateUnder.B4]
        rw [if_neg (by simp; omega)]
        rfl
      | succ d ih =>
        intro i k a hi hk
        rw [runL_pos _ _ (by omega)]
        simp only [spec_GateUnder.B4]
        rw [if_pos (decide_eq_true (show (i : Int) < 4 by omega)), l4Over_ok hn teams hl a]
        simp only [Option.bind_some, goUp]
        split
        · rfl
        · split
          · rfl
          · rw [wrap_eq (by omega) (by omega)]
            exact ih (i + 1) (k - 1) _ (by omega) (by omega)
    exact key 4 0 n a (by omega) (by omega)

include hn in
theorem implUnder_ok (teams : List (Ty.den tGateTeam)) (hl : teams.length ≤ 1048576) (a b : ByteArray) : impl_GateUnder.f n (teams, a, b, ()) = some (underOf teams a b, ()) := by
  have hn : 18446744073709551616 ≤ n := hn
  unfold impl_GateUnder.f
  have key : ∀ (d : Nat) (i : Nat) (k : Nat) (a : ByteArray), i + d = 4 → d + 1 < k → runL (impl_GateUnder.B2 n) ((fun z2 => some (z2.1, ())), (fun z3 => some (true, ())), ()) k (teams, a, b, (i : Int), ()) = some (seq a b || goUp teams b d a, ()) := by
    intro d
    induction d with
    | zero =>
      intro i k a hi hk
      rw [runL_pos _ _ (by omega)]
      simp only [impl_GateUnder.B2]
      cases hab : seq a b with
      | true => simp
      | false =>
        rw [if_pos (by simp), teamOf_ok hn teams hl a]
        have : i = 4 := by omega
        subst this
        simp [goUp]
    | succ d ih =>
      intro i k a hi hk
      rw [runL_pos _ _ (by omega)]
      simp only [impl_GateUnder.B2]
      cases hab : seq a b with
      | true => simp
      | false =>
        rw [if_pos (by simp), teamOf_ok hn teams hl a]
        have hi4 : ((i : Int) == 4) = false := by simp; omega
        simp only [Option.bind_some, hi4, Bool.false_or, goUp]
        cases hf : teams.findIdx? (fun t : Ty.den tGateTeam => seq t.1 a) with
        | none =>
          have ho : overOf teams a = ⟨#[]⟩ := by simp [overOf, hf]
          rw [fidx_none hf, ho]
          simp [seq_refl]
        | some j =>
          have hj := findIdx?_lt hf
          have ho : overOf teams a = (teams[j]).2.1 := by simp [overOf, hf, hj]
          rw [fidx_some hf, getD_nat _ _ _ hj, ← ho]
          have h1 : decide ((j : Int) < 0) = false := by simp
          have h2 : decide (0 ≤ (j : Int) ∧ (j : Int) < (teams.length : Int)) = true := by simp; omega
          rw [h1, h2]
          simp only [Bool.or_true, if_true, Bool.false_or]
          split
          · rfl
          · rw [wrap_eq (by omega) (by omega)]
            refine (ih (i + 1) (k - 1) _ (by omega) (by omega)).trans ?_
            congr 1
            cases seq (overOf teams a) b <;> simp
  exact key 4 0 n a (by omega) (by omega)
end

/-! ### numbers -/
section
variable {n : Nat} (hn : Big n)

def digF (s : ByteArray) (i : Nat) (a : Int) : Int ⊕ Unit :=
  if ((decide (byteAt s (i : Int) < (48 : Int))) || (decide (byteAt s (i : Int) > (57 : Int)))) = true then .inr () else .inl (a * 10 + (byteAt s (i : Int) - 48))

def badNum (s : ByteArray) : Bool := ((decide ((ByteArray.size s : Int) < (1 : Int))) || (decide ((ByteArray.size s : Int) > (7 : Int)))) || ((byteAt s (0 : Int) == (48 : Int)) && (decide ((ByteArray.size s : Int) > (1 : Int))))

def numR (s : ByteArray) : Int ⊕ Unit := if badNum s = true then .inr () else outF (digF s) (List.range s.size) 0

theorem pow_le (i : Nat) (h : i ≤ 7) : (10 : Int) ^ i ≤ 10000000 := by
  obtain rfl | rfl | rfl | rfl | rfl | rfl | rfl | rfl : i = 0 ∨ i = 1 ∨ i = 2 ∨ i = 3 ∨ i = 4 ∨ i = 5 ∨ i = 6 ∨ i = 7 := by omega
  all_goals decide

theorem dig_inv {s : ByteArray} {i : Nat} {a a' : Int} (ha : 0 ≤ a ∧ a < (10 : Int) ^ i) (h : digF s i a = .inl a') : 0 ≤ a' ∧ a' < (10 : Int) ^ (i + 1) := by
  unfold digF at h
  split at h
  · cases h
  · rename_i hc
    simp only [Bool.or_eq_true, decide_eq_true_eq, not_or] at hc
    cases h
    rw [Int.pow_succ]
    omega

theorem num_bound {s : ByteArray} {a : Int} (h : numR s = .inl a) : 0 ≤ a ∧ a ≤ 9999999 := by
  unfold numR at h
  split at h
  · cases h
  · rename_i hb
    unfold badNum at hb
    simp only [Bool.or_eq_true, decide_eq_true_eq, not_or] at hb
    have key : ∀ (d i : Nat) (a a' : Int), i + d = s.size → (0 ≤ a ∧ a < (10 : Int) ^ i) → outF (digF s) ((List.range s.size).drop i) a = .inl a' → 0 ≤ a' ∧ a' < (10 : Int) ^ s.size := by
      intro d
      induction d with
      | zero =>
        intro i a a' hi ha h
        have : i = s.size := by omega
        subst this
        rw [List.drop_eq_nil_of_le (by simp)] at h
        cases h
        exact ha
      | succ d ih =>
        intro i a a' hi ha h
        rw [List.drop_eq_getElem_cons (by simp; omega)] at h
        simp only [outF, List.getElem_range] at h
        split at h
        · rename_i a1 h1
          exact ih (i + 1) a1 a' (by omega) (dig_inv ha h1) h
        · cases h
    have := key s.size 0 0 a (by omega) (by simp) (by simpa using h)
    have hp := pow_le s.size (by omega)
    omega

include hn in
theorem specNum_ok (s : ByteArray) : spec_l1Number.f n (s, ()) = some (Sum.elim (fun a => a) (fun _ => -1) (numR s), ()) := by
  have hn : 18446744073709551616 ≤ n := hn
  unfold spec_l1Number.f numR
  simp only [spec_l1In.f, Option.bind_some]
  by_cases hlen : 1 ≤ s.size ∧ s.size ≤ 7
  · have e1 : ((decide ((ByteArray.size s : Int) ≥ (1 : Int))) && (decide ((ByteArray.size s : Int) ≤ (7 : Int)))) = true := by simp; omega
    have e2 : decide (0 ≤ (0 : Int) ∧ (0 : Int) < (ByteArray.size s : Int)) = true := decide_eq_true (by omega)
    have e3 : badNum s = ((decide ((ByteArray.size s : Int) > (1 : Int))) && (byteAt s (0 : Int) == (48 : Int))) := by
      unfold badNum
      rw [decide_eq_false (show ¬ ((ByteArray.size s : Int) < 1) by omega), decide_eq_false (show ¬ ((ByteArray.size s : Int) > 7) by omega), Bool.and_comm]
      rfl
    simp only [e1, e2, e3, Bool.or_true, if_true, Bool.not_true, Bool.false_or]
    split
    · rfl
    · refine (runL_out (len := s.size) (fun i a => (s, a, (i : Int), ())) (fun i a => 0 ≤ a ∧ a < (10 : Int) ^ i) (digF s) (fun a => some (a, ())) (fun _ => some (-1, ())) ?_ ?_ (by omega) (a := 0) (by simp)).trans (by cases outF (digF s) (List.range s.size) 0 <;> rfl)
      · intro next i a hi ha
        have hp := pow_le i (by omega)
        have hb := byteAt_lt s (i : Int)
        cases hd : digF s i a with
        | inr e =>
          unfold digF at hd
          split at hd
          · rename_i hc
            simp only [spec_l1Number.B5, lt_dec hi, in_dec hi, Bool.or_true, if_true]
            rw [if_pos hc]
          · cases hd
        | inl a' =>
          refine ⟨dig_inv ha hd, ?_⟩
          unfold digF at hd
          split at hd
          · cases hd
          · rename_i hc
            cases hd
            simp only [spec_l1Number.B5, lt_dec hi, in_dec hi, Bool.or_true, if_true]
            rw [if_neg hc, wrap_next hi (show s.size ≤ 1048576 by omega)]
            simp only [Bool.or_eq_true, decide_eq_true_eq, not_or] at hc
            rw [wrap_eq (a := a * 10) (by omega) (by omega), wrap_eq (a := byteAt s i) (by omega) (by omega), wrap_eq (a := a * 10 + byteAt s i) (by omega) (by omega), wrap_eq (by omega) (by omega)]
            rw [show a * 10 + byteAt s i - 48 = a * 10 + (byteAt s i - 48) by omega]
      · intro next a ha
        simp only [spec_l1Number.B5, lt_dec', Bool.false_eq_true, if_false]
  · have e1 : ((decide ((ByteArray.size s : Int) ≥ (1 : Int))) && (decide ((ByteArray.size s : Int) ≤ (7 : Int)))) = false := by
      rw [Bool.and_eq_false_iff, decide_eq_false_iff_not, decide_eq_false_iff_not]; omega
    have e3 : badNum s = true := by
      unfold badNum
      simp only [Bool.or_eq_true, decide_eq_true_eq]
      omega
    simp [e1, e3]

include hn in
theorem implNum_ok (s : ByteArray) : impl_decimal.f n (s, ()) = some (Sum.elim (fun a => (a, true, ())) (fun _ => (0, false, ())) (numR s)) := by
  have hn : 18446744073709551616 ≤ n := hn
  unfold impl_decimal.f numR
  by_cases hlen : 1 ≤ s.size ∧ s.size ≤ 7
  · have e2 : decide (0 ≤ (0 : Int) ∧ (0 : Int) < (ByteArray.size s : Int)) = true := decide_eq_true (by omega)
    simp only [e2, Bool.or_true, if_true]
    rw [show (((decide ((ByteArray.size s : Int) < (1 : Int))) || (decide ((ByteArray.size s : Int) > (7 : Int)))) || ((byteAt s (0 : Int) == (48 : Int)) && (decide ((ByteArray.size s : Int) > (1 : Int))))) = badNum s from rfl]
    split
    · rfl
    · refine (runL_out (len := s.size) (fun i a => (s, a, (s.size : Int), (i : Int), ())) (fun i a => 0 ≤ a ∧ a < (10 : Int) ^ i) (digF s) (fun a => some (a, true, ())) (fun _ => some (0, false, ())) ?_ ?_ (by omega) (a := 0) (by simp)).trans (by cases outF (digF s) (List.range s.size) 0 <;> rfl)
      · intro next i a hi ha
        have hp := pow_le i (by omega)
        have hb := byteAt_lt s (i : Int)
        cases hd : digF s i a with
        | inr e =>
          unfold digF at hd
          split at hd
          · rename_i hc
            simp only [impl_decimal.B5, lt_dec hi, in_dec hi, Bool.or_true, if_true]
            rw [if_pos hc]
          · cases hd
        | inl a' =>
          refine ⟨dig_inv ha hd, ?_⟩
          unfold digF at hd
          split at hd
          · cases hd
          · rename_i hc
            cases hd
            simp only [impl_decimal.B5, lt_dec hi, in_dec hi, Bool.or_true, if_true]
            rw [if_neg hc, wrap_next hi (show s.size ≤ 1048576 by omega)]
            simp only [Bool.or_eq_true, decide_eq_true_eq, not_or] at hc
            rw [wrap_u8 (a := byteAt s i - 48) (by omega) (by omega), wrap_eq (a := a * 10) (by omega) (by omega), wrap_eq (a := byteAt s i - 48) (by omega) (by omega), wrap_eq (by omega) (by omega)]
      · intro next a ha
        simp only [impl_decimal.B5, lt_dec', Bool.false_eq_true, if_false]
  · have e3 : badNum s = true := by
      unfold badNum
      simp only [Bool.or_eq_true, decide_eq_true_eq]
      omega
    have e4 : ((decide ((ByteArray.size s : Int) < (1 : Int))) || (decide ((ByteArray.size s : Int) > (7 : Int)))) = true := by
      simp only [Bool.or_eq_true, decide_eq_true_eq]
      omega
    simp [e4, e3]
end

/-! ### shapes and fields, what one weighs -/
section
variable {n : Nat} (hn : Big n)

include hn in
theorem specShape_ok (l : List (Ty.den tGateShape)) (hl : l.length ≤ 1048576) (a : ByteArray) : spec_l1Shape.f n (l, a, ()) = some (fidx (fun t : Ty.den tGateShape => seq t.1 a) l, ()) := by
  have hn : 18446744073709551616 ≤ n := hn
  unfold spec_l1Shape.f
  refine (runL_find (l := l) (fun i => (l, a, (i : Int), ())) (fun t : Ty.den tGateShape => seq t.1 a) (fun i => some ((i : Int), ())) (some (-1, ())) ?_ ?_ (by omega)).trans ?_
  · intro next i hi
    simp only [spec_l1Shape.B2, lt_dec hi, in_dec hi, wrap_next hi hl, if_true]
    rw [getD_nat _ _ _ hi]
  · intro next
    simp only [spec_l1Shape.B2, lt_dec', Bool.false_eq_true, if_false]
  · simp only [fidx]
    cases l.findIdx? (fun t : Ty.den tGateShape => seq t.1 a) <;> rfl

include hn in
theorem implShape_ok (l : List (Ty.den tGateShape)) (hl : l.length ≤ 1048576) (a : ByteArray) : impl_shapeOf.f n (l, a, ()) = some (fidx (fun t : Ty.den tGateShape => seq t.1 a) l, ()) := by
  have hn : 18446744073709551616 ≤ n := hn
  unfold impl_shapeOf.f
  refine (runL_find (l := l) (fun i => (a, l, (l.length : Int), (i : Int), ())) (fun t : Ty.den tGateShape => seq t.1 a) (fun i => some ((i : Int), ())) (some (-1, ())) ?_ ?_ (by omega)).trans ?_
  · intro next i hi
    simp only [impl_shapeOf.B2, lt_dec hi, in_dec hi, wrap_next hi hl, if_true]
    rw [getD_nat _ _ _ hi]
  · intro next
    simp only [impl_shapeOf.B2, lt_dec', Bool.false_eq_true, if_false]
  · simp only [fidx]
    cases l.findIdx? (fun t : Ty.den tGateShape => seq t.1 a) <;> rfl

def fieldsD (sh : List (Ty.den tGateShape)) (o : Ty.den tGateObject) : Option (List (Ty.den tGateField)) :=
  match sh.findIdx? (fun t : Ty.den tGateShape => seq t.1 o.1) with
  | none => none
  | some i => if List.length (sh.getD i (Ty.zero tGateShape)).2.1 = List.length o.2.2.2.1 then some (sh.getD i (Ty.zero tGateShape)).2.1 else none

theorem fieldsD_len {sh : List (Ty.den tGateShape)} {o : Ty.den tGateObject} {fs : List (Ty.den tGateField)} (h : fieldsD sh o = some fs) : fs.length = List.length o.2.2.2.1 := by
  unfold fieldsD at h
  split at h
  · cases h
  · split at h
    · cases h; assumption
    · cases h

def fieldsR (sh : List (Ty.den tGateShape)) (o : Ty.den tGateObject) : Tup [(.slice tGateField), .bool] :=
  match fieldsD sh o with
  | none => ([], false, ())
  | some fs => (fs, true, ())

include hn in
theorem specFields_ok (sh : List (Ty.den tGateShape)) (o : Ty.den tGateObject) (hl : sh.length ≤ 1048576) : spec_l2Fields.f n (sh, o, ()) = some (fieldsR sh o) := by
  unfold spec_l2Fields.f fieldsR fieldsD
  simp only [specShape_ok hn sh hl, Option.bind_some]
  cases hf : sh.findIdx? (fun t : Ty.den tGateShape => seq t.1 o.1) with
  | none => rw [fidx_none hf]; rfl
  | some i =>
    have hi := findIdx?_lt hf
    have h0 : decide ((i : Int) < 0) = false := by simp
    simp only [fidx_some hf, h0, in_dec hi, Bool.not_false, Bool.not_true, Bool.false_or, Bool.or_true, if_true, Int.toNat_natCast]
    by_cases he : List.length (sh.getD i (Ty.zero tGateShape)).2.1 = List.length o.2.2.2.1
    · have hne : ((List.length (sh.getD i (Ty.zero tGateShape)).2.1 : Int) != (List.length o.2.2.2.1 : Int)) = false := by simp only [bne_eq_false_iff_eq]; omega
      rw [hne, if_pos he]
      rfl
    · have hne : ((List.length (sh.getD i (Ty.zero tGateShape)).2.1 : Int) != (List.length o.2.2.2.1 : Int)) = true := by simp only [bne_iff_ne, ne_eq]; omega
      rw [hne, if_neg he]
      rfl

include hn in
theorem implFields_ok (sh : List (Ty.den tGateShape)) (o : Ty.den tGateObject) (hl : sh.length ≤ 1048576) : impl_fieldsOf.f n (sh, o, ()) = some (fieldsR sh o) := by
  unfold impl_fieldsOf.f fieldsR fieldsD
  simp only [implShape_ok hn sh hl, Option.bind_some]
  cases hf : sh.findIdx? (fun t : Ty.den tGateShape => seq t.1 o.1) with
  | none => rw [fidx_none hf]; rfl
  | some i =>
    have hi := findIdx?_lt hf
    have h0 : decide ((i : Int) < 0) = false := by simp
    simp only [fidx_some hf, h0, in_dec hi, Bool.not_false, Bool.not_true, Bool.false_or, Bool.or_true, if_true, Int.toNat_natCast]
    by_cases he : List.length (sh.getD i (Ty.zero tGateShape)).2.1 = List.length o.2.2.2.1
    · have hne : ((List.length o.2.2.2.1 : Int) != (List.length (sh.getD i (Ty.zero tGateShape)).2.1 : Int)) = false := by simp only [bne_eq_false_iff_eq]; omega
      rw [hne, if_pos he]
      rfl
    · have hne : ((List.length o.2.2.2.1 : Int) != (List.length (sh.getD i (Ty.zero tGateShape)).2.1 : Int)) = true := by simp only [bne_iff_ne, ne_eq]; omega
      rw [hne, if_neg he]
      rfl

def numV (s : ByteArray) : Int := Sum.elim (fun a => a) (fun _ => 0) (numR s)
theorem numV_bound (s : ByteArray) : 0 ≤ numV s ∧ numV s ≤ 9999999 := by
  unfold numV
  cases h : numR s with
  | inl a => exact num_bound h
  | inr _ => exact ⟨Int.le_refl _, by show (0 : Int) ≤ 9999999; omega⟩

/-- One field's part. -/
def weighF (fs : List (Ty.den tGateField)) (o : Ty.den tGateObject) (t : ByteArray) (i : Nat) (a : Int) : Int :=
  if (((List.getD fs (Int.toNat (i : Int)) (Ty.zero tGateField)).2.1 == (1 : Int)) && (seq (List.getD fs (Int.toNat (i : Int)) (Ty.zero tGateField)).2.2.2.2.2.2.2.2.2.2.1 t)) = true then a + numV (List.getD o.2.2.2.1 (Int.toNat (i : Int)) (⟨#[]⟩ : ByteArray)) else a

theorem weighF_inv {fs : List (Ty.den tGateField)} {o : Ty.den tGateObject} {t : ByteArray} {i : Nat} {a : Int} (h : 0 ≤ a ∧ a ≤ 1 + i * 9999999) : 0 ≤ weighF fs o t i a ∧ weighF fs o t i a ≤ 1 + (i + 1 : Nat) * 9999999 := by
  unfold weighF
  have := numV_bound (List.getD o.2.2.2.1 (Int.toNat (i : Int)) (⟨#[]⟩ : ByteArray))
  split <;> omega

def weighsD (sh : List (Ty.den tGateShape)) (o : Ty.den tGateObject) (t : ByteArray) : Int :=
  match fieldsD sh o with
  | none => 0
  | some fs => if seq t ⟨#[]⟩ = true then 0 else (List.range fs.length).foldl (fun a i => weighF fs o t i a) (if seq t o.1 = true then 1 else 0)

include hn in
theorem specWeighs_ok (w : Ty.den tGateLaw) (o : Ty.den tGateObject) (t : ByteArray) (hl : List.length w.1 ≤ 1048576) (ho : List.length o.2.2.2.1 ≤ 1048576) : spec_GateWeighs.f n (w, o, t, ()) = some (weighsD w.1 o t, ()) := by
  have hn' : 18446744073709551616 ≤ n := hn
  unfold spec_GateWeighs.f weighsD
  simp only [specFields_ok hn w.1 o hl, Option.bind_some, fieldsR]
  cases hf : fieldsD w.1 o with
  | none => simp
  | some fs =>
    have hlen := fieldsD_len hf
    cases hs : seq t ⟨#[]⟩ with
    | true => simp
    | false =>
      simp only [Bool.not_true, Bool.or_false, Bool.false_eq_true, if_false]
      have key : ∀ a0 : Int, 0 ≤ a0 → a0 ≤ 1 → ∀ g : Conts (Tup [.int .i64]) spec_GateWeighs.l8.outs, g.1 = (fun z3 => some (z3.1, ())) → runL (spec_GateWeighs.B8 n) g n (t, o, fs, a0, (0 : Int), ()) = some ((List.range fs.length).foldl (fun a i => weighF fs o t i a) a0, ()) := by
        intro a0 h0 h1 g hg
        refine (runL_fold (len := fs.length) (fun i a => (t, o, fs, a, (i : Int), ())) (fun i (a : Int) => 0 ≤ a ∧ a ≤ 1 + (i : Int) * 9999999) (weighF fs o t) (fun a => some (a, ())) ?_ ?_ (by omega) (a := a0) (by omega))
        · intro next i a hi ha
          refine ⟨weighF_inv ha, ?_⟩
          have hv := numV_bound (List.getD o.2.2.2.1 (Int.toNat (i : Int)) (⟨#[]⟩ : ByteArray))
          simp only [spec_GateWeighs.B8, lt_dec hi, in_dec hi, in_dec (show i < List.length o.2.2.2.1 by omega), if_true, specNum_ok hn, Option.bind_some, Bool.or_true, wrap_next hi (by omega), weighF]
          unfold numV at hv ⊢
          cases hc : (((List.getD fs (Int.toNat (i : Int)) (Ty.zero tGateField)).2.1 == (1 : Int)) && (seq (List.getD fs (Int.toNat (i : Int)) (Ty.zero tGateField)).2.2.2.2.2.2.2.2.2.2.1 t)) with
          | false => simp
          | true =>
            cases hr : numR (List.getD o.2.2.2.1 (Int.toNat (i : Int)) (⟨#[]⟩ : ByteArray)) with
            | inr _ => simp
            | inl v =>
              simp only [hr, Sum.elim_inl] at hv
              simp only [Sum.elim_inl, Bool.true_and]
              by_cases h : v > 0
              · refine (if_pos (decide_eq_true (show v > 0 from h))).trans ?_
                rw [wrap_eq (by omega) (by omega)]
                simp
              · have : v = 0 := by omega
                subst this
                simp
        · intro next a ha
          simp only [spec_GateWeighs.B8, lt_dec', Bool.false_eq_true, if_false, hg]
      split
      · exact key 1 (by omega) (by omega) _ rfl
      · exact key 0 (by omega) (by omega) _ rfl

include hn in
theorem implWeighs_ok (w : Ty.den tGateLaw) (o : Ty.den tGateObject) (t : ByteArray) (hl : List.length w.1 ≤ 1048576) (ho : List.length o.2.2.2.1 ≤ 1048576) : impl_GateWeighs.f n (w, o, t, ()) = some (weighsD w.1 o t, ()) := by
  have hn' : 18446744073709551616 ≤ n := hn
  unfold impl_GateWeighs.f weighsD
  simp only [implFields_ok hn w.1 o hl, Option.bind_some, fieldsR]
  cases hf : fieldsD w.1 o with
  | none => simp
  | some fs =>
    have hlen := fieldsD_len hf
    cases hs : seq t ⟨#[]⟩ with
    | true => simp
    | false =>
      simp only [Bool.not_true, Bool.or_false, Bool.false_eq_true, if_false]
      have key : ∀ a0 : Int, 0 ≤ a0 → a0 ≤ 1 → ∀ g : Conts (Tup [.int .i64]) impl_GateWeighs.l8.outs, g.1 = (fun z3 => some (z3.1, ())) → runL (impl_GateWeighs.B8 n) g n (t, o, a0, fs, (fs.length : Int), (0 : Int), ()) = some ((List.range fs.length).foldl (fun a i => weighF fs o t i a) a0, ()) := by
        intro a0 h0 h1 g hg
        refine (runL_fold (len := fs.length) (fun i a => (t, o, a, fs, (fs.length : Int), (i : Int), ())) (fun i (a : Int) => 0 ≤ a ∧ a ≤ 1 + (i : Int) * 9999999) (weighF fs o t) (fun a => some (a, ())) ?_ ?_ (by omega) (a := a0) (by omega))
        · intro next i a hi ha
          refine ⟨weighF_inv ha, ?_⟩
          have hv := numV_bound (List.getD o.2.2.2.1 (Int.toNat (i : Int)) (⟨#[]⟩ : ByteArray))
          simp only [impl_GateWeighs.B8, lt_dec hi, in_dec hi, in_dec (show i < List.length o.2.2.2.1 by omega), if_true, implNum_ok hn, Option.bind_some, Bool.or_true, wrap_next hi (show fs.length ≤ 1048576 by omega), weighF]
          rw [show ((((List.getD fs (Int.toNat (i : Int)) (Ty.zero tGateField)).2.1 != (1 : Int)) || (!seq (List.getD fs (Int.toNat (i : Int)) (Ty.zero tGateField)).2.2.2.2.2.2.2.2.2.2.1 t))) = !(((List.getD fs (Int.toNat (i : Int)) (Ty.zero tGateField)).2.1 == (1 : Int)) && (seq (List.getD fs (Int.toNat (i : Int)) (Ty.zero tGateField)).2.2.2.2.2.2.2.2.2.2.1 t)) by rw [Bool.not_and]; rfl]
          unfold numV at hv ⊢
          cases hc : (((List.getD fs (Int.toNat (i : Int)) (Ty.zero tGateField)).2.1 == (1 : Int)) && (seq (List.getD fs (Int.toNat (i : Int)) (Ty.zero tGateField)).2.2.2.2.2.2.2.2.2.2.1 t)) with
          | false => simp
          | true =>
            cases hr : numR (List.getD o.2.2.2.1 (Int.toNat (i : Int)) (⟨#[]⟩ : ByteArray)) with
            | inr _ =>
              simp only [Sum.elim_inr, Bool.not_true, Bool.false_eq_true, if_false, if_true]
              rw [wrap_eq (by omega) (by omega)]
            | inl v =>
              simp only [hr, Sum.elim_inl] at hv
              simp only [Sum.elim_inl, Bool.not_true, Bool.false_eq_true, if_false, if_true]
              rw [wrap_eq (by omega) (by omega)]
        · intro next a ha
          simp only [impl_GateWeighs.B8, lt_dec', Bool.false_eq_true, if_false, hg]
      split
      · exact key 1 (by omega) (by omega) _ rfl
      · exact key 0 (by omega) (by omega) _ rfl
end

section
variable {n : Nat} (hn : Big n)

def usedF (w : Ty.den tGateLaw) (os : List (Ty.den tGateObject)) (p t : ByteArray) (i : Nat) (a : Int) : Int :=
  if underOf w.2.2.1 (List.getD os (Int.toNat (i : Int)) (Ty.zero tGateObject)).2.2.1 p = true then IntKind.i64.wrap (a + weighsD w.1 (List.getD os (Int.toNat (i : Int)) (Ty.zero tGateObject)) t) else a

def usedD (w : Ty.den tGateLaw) (os : List (Ty.den tGateObject)) (p t : ByteArray) : Int := (List.range os.length).foldl (fun a i => usedF w os p t i a) 0

include hn in
theorem specUsed_ok (w : Ty.den tGateLaw) (b : Ty.den tGateBook) (p t : ByteArray) (hw : small 1048576 tGateLaw w) (hb : small 1048576 tGateBook b) : spec_GateUsed.f n (w, b, p, t, ()) = some (usedD w b.2.2.2.1 p t, ()) := by
  have hn' : 18446744073709551616 ≤ n := hn
  have hlen : List.length b.2.2.2.1 ≤ 1048576 := hb.2.2.2.1.1
  unfold spec_GateUsed.f usedD
  refine (runL_fold (len := List.length b.2.2.2.1) (fun i a => (p, t, w, b, a, (i : Int), ())) (fun i a => True) (usedF w b.2.2.2.1 p t) (fun a => some (a, ())) ?_ ?_ (by omega) trivial)
  · intro next i a hi _
    refine ⟨trivial, ?_⟩
    have he : small 1048576 tGateObject (List.getD b.2.2.2.1 (Int.toNat (i : Int)) (Ty.zero tGateObject)) := by
      rw [getD_nat _ _ _ hi]
      exact hb.2.2.2.1.2 _ (List.getElem_mem hi)
    simp only [spec_GateUsed.B3, lt_dec hi, in_dec hi, if_true, Bool.or_true, specUnder_ok hn w.2.2.1 hw.2.2.1.1, Option.bind_some, specWeighs_ok hn w _ t hw.1.1 he.2.2.2.1.1, wrap_next hi hlen, usedF]
    split
    · rfl
    · rfl
  · intro next a _
    simp only [spec_GateUsed.B3, lt_dec', Bool.false_eq_true, if_false]

include hn in
theorem implUsed_ok (w : Ty.den tGateLaw) (b : Ty.den tGateBook) (p t : ByteArray) (hw : small 1048576 tGateLaw w) (hb : small 1048576 tGateBook b) : impl_GateUsed.f n (w, b, p, t, ()) = some (usedD w b.2.2.2.1 p t, ()) := by
  have hn' : 18446744073709551616 ≤ n := hn
  have hlen : List.length b.2.2.2.1 ≤ 1048576 := hb.2.2.2.1.1
  unfold impl_GateUsed.f usedD
  refine (runL_fold (len := List.length b.2.2.2.1) (fun i a => (p, t, w, a, b.2.2.2.1, (List.length b.2.2.2.1 : Int), (i : Int), ())) (fun i a => True) (usedF w b.2.2.2.1 p t) (fun a => some (a, ())) ?_ ?_ (by omega) trivial)
  · intro next i a hi _
    refine ⟨trivial, ?_⟩
    have he : small 1048576 tGateObject (List.getD b.2.2.2.1 (Int.toNat (i : Int)) (Ty.zero tGateObject)) := by
      rw [getD_nat _ _ _ hi]
      exact hb.2.2.2.1.2 _ (List.getElem_mem hi)
    simp only [impl_GateUsed.B3, lt_dec hi, in_dec hi, if_true, Bool.or_true, implUnder_ok hn w.2.2.1 hw.2.2.1.1, Option.bind_some, implWeighs_ok hn w _ t hw.1.1 he.2.2.2.1.1, wrap_next hi hlen, usedF]
    split
    · rfl
    · rfl
  · intro next a _
    simp only [impl_GateUsed.B3, lt_dec', Bool.false_eq_true, if_false]
end
theorem pure_law (n : Nat) (hn : Big n) (x : Tup [tGateLaw, tGateBook, .str, .str]) (hw : wfT [tGateLaw, tGateBook, .str, .str] x) : laws_FnExactGateUsed.f n x = some (true, ()) := by
  obtain ⟨w, b, p, t, ⟨⟩⟩ := x
  obtain ⟨hw1, hw2, hw3, hw4, _⟩ := hw
  unfold laws_FnExactGateUsed.f
  split
  · rfl
  · split
    · rfl
    · have h : laws_szGateLaw.f n (w, 1048576, ()) = _ := laws_szGateLaw_ok n hn w hw1 1048576 (by omega) (by omega)
      simp only [h, Option.bind_some]
      by_cases hb : (bulk tGateLaw w : Int) ≤ 1048576
      · rw [subL_pos hb, if_neg (by simp; omega)]
        have hs : small 1048576 tGateLaw w := small_of_bulk (by omega)
        have h2 : laws_szGateBook.f n (b, 1048576 - (bulk tGateLaw w : Int), ()) = _ := laws_szGateBook_ok n hn b hw2 _ (by omega) (by omega)
        simp only [h2, Option.bind_some]
        by_cases hb2 : (bulk tGateBook b : Int) ≤ 1048576 - (bulk tGateLaw w : Int)
        · rw [subL_pos hb2, if_neg (by simp; omega)]
          have hs2 : small 1048576 tGateBook b := small_of_bulk (by omega)
          simp only [laws_toGateLaw_ok n hn w hs, laws_toGateBook_ok n hn b hs2, Option.bind_some, specUsed_ok hn w b p t hs hs2, implUsed_ok hn w b p t hs hs2, laws_eqGateLaw_ok n hn (w, w, ()) hs, laws_eqGateBook_ok n hn (b, b, ()) hs2]
          simp [eqD_refl]
        · rw [subL_neg hb2, if_pos (by decide)]
      · rw [subL_neg hb, if_pos (by decide)]

end Go.Proofs.Ytbnjehabiginjai
