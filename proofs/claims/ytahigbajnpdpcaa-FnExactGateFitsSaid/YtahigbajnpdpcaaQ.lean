/- The law FnExactGateFits: what the program tells and what the reference tells are one, for all arguments (the plain law, over printed pure functions). No conditions. -/
import Derived.Test.YtahigbajnpdpcaaP
set_option linter.unusedVariables false
set_option linter.unusedSimpArgs false
namespace Go.Proofs.Ytahigbajnpdpcaa
open Go Go.Vm
/-! ### numbers -/
section
variable {n : Nat} (hn : Big n)

def digF (s : ByteArray) (i : Nat) (a : Int) : Int ⊕ Unit :=
  if ((decide (byteAt s (i : Int) < (48 : Int))) || (decide (byteAt s (i : Int) > (57 : Int)))) = true then .inr () else .inl (a * 10 + (byteAt s (i : Int) - 48))

def badNum (s : ByteArray) : Bool := ((decide ((ByteArray.size s : Int) < (1 : Int))) || (decide ((ByteArray.size s : Int) > (7 : Int)))) || ((byteAt s (0 : Int) == (48 : Int)) && (decide ((ByteArray.size s : Int) > (1 : Int))))

def numR (s : ByteArray) : Int ⊕ Unit := if badNum s = true then .inr () else outF (digF s) (List.range s.size) 0

theorem pow_le (i : Nat) (h : i ≤ 7) : (10 : Int) ^ i ≤ 10000000 := by
  obtain rfl | rfl | rfl | rfl | rfl | rfl | rfl | rfl : i = 0 ∨ i = 1 ∨ i = 2 ∨ i = 3 ∨ i = 4 ∨ i = 5 ∨ i = 6 ∨ i = 7 := by omega
  all_goals decide

theorem dig_inv {s : ByteArray} {i : Nat} {a a' : Int} (ha : 0 ≤ a ∧ a < (10 : Int) ^ i) (h : digF s i a = .inl a') : 0 ≤ a' ∧ a' < (10 : Int) ^ (i + 1) := by
  unfold digF at h
  split at h
  · cases h
  · rename_i hc
    simp only [Bool.or_eq_true, decide_eq_true_eq, not_or] at hc
    cases h
    rw [Int.pow_succ]
    omega

theorem num_bound {s : ByteArray} {a : Int} (h : numR s = .inl a) : 0 ≤ a ∧ a ≤ 9999999 := by
  unfold numR at h
  split at h
  · cases h
  · rename_i hb
    unfold badNum at hb
    simp only [Bool.or_eq_true, decide_eq_true_eq, not_or] at hb
    have key : ∀ (d i : Nat) (a a' : Int), i + d = s.size → (0 ≤ a ∧ a < (10 : Int) ^ i) → outF (digF s) ((List.range s.size).drop i) a = .inl a' → 0 ≤ a' ∧ a' < (10 : Int) ^ s.size := by
      intro d
      induction d with
      | zero =>
        intro i a a' hi ha h
        have : i = s.size := by omega
        subst this
        rw [List.drop_eq_nil_of_le (by simp)] at h
        cases h
        exact ha
      | succ d ih =>
        intro i a a' hi ha h
        rw [List.drop_eq_getElem_cons (by simp; omega)] at h
        simp only [outF, List.getElem_range] at h
        split at h
        · rename_i a1 h1
          exact ih (i + 1) a1 a' (by omega) (dig_inv ha h1) h
        · cases h
    have := key s.size 0 0 a (by omega) (by simp) (by simpa using h)
    have hp := pow_le s.size (by omega)
    omega

include hn in
theorem specNum_ok (s : ByteArray) : spec_l1Number.f n (s, ()) = some (Sum.elim (fun a => a) (fun _ => -1) (numR s), ()) := by
  have hn : 18446744073709551616 ≤ n := hn
  unfold spec_l1Number.f numR
  simp only [spec_l1In.f, Option.bind_some]
  by_cases hlen : 1 ≤ s.size ∧ s.size ≤ 7
  · have e1 : ((decide ((ByteArray.size s : Int) ≥ (1 : Int))) && (decide ((ByteArray.size s : Int) ≤ (7 : Int)))) = true := by simp; omega
    have e2 : decide (0 ≤ (0 : Int) ∧ (0 : Int) < (ByteArray.size s : Int)) = true := decide_eq_true (by omega)
    have e3 : badNum s = ((decide ((ByteArray.size s : Int) > (1 : Int))) && (byteAt s (0 : Int) == (48 : Int))) := by
      unfold badNum
      rw [decide_eq_false (show ¬ ((ByteArray.size s : Int) < 1) by omega), decide_eq_false (show ¬ ((ByteArray.size s : Int) > 7) by omega), Bool.and_comm]
      rfl
    simp only [e1, e2, e3, Bool.or_true, if_true, Bool.not_true, Bool.false_or]
    split
    · rfl
    · refine (runL_out (len := s.size) (fun i a => (s, a, (i : Int), ())) (fun i a => 0 ≤ a ∧ a < (10 : Int) ^ i) (digF s) (fun a => some (a, ())) (fun _ => some (-1, ())) ?_ ?_ (by omega) (a := 0) (by simp)).trans (by cases outF (digF s) (List.range s.size) 0 <;> rfl)
      · intro next i a hi ha
        have hp := pow_le i (by omega)
        have hb := byteAt_lt s (i : Int)
        cases hd : digF s i a with
        | inr e =>
          unfold digF at hd
          split at hd
          · rename_i hc
            simp only [spec_l1Number.B5, lt_dec hi, in_dec hi, Bool.or_true, if_true]
            rw [if_pos hc]
          · cases hd
        | inl a' =>
          refine ⟨dig_inv ha hd, ?_⟩
          unfold digF at hd
          split at hd
          · cases hd
          · rename_i hc
            cases hd
            simp only [spec_l1Number.B5, lt_dec hi, in_dec hi, Bool.or_true, if_true]
            rw [if_neg hc, wrap_next hi (show s.size ≤ 1048576 by omega)]
            simp only [Bool.or_eq_true, decide_eq_true_eq, not_or] at hc
            rw [wrap_eq (a := a * 10) (by omega) (by omega), wrap_eq (a := byteAt s i) (by omega) (by omega), wrap_eq (a := a * 10 + byteAt s i) (by omega) (by omega), wrap_eq (by omega) (by omega)]
            rw [show a * 10 + byteAt s i - 48 = a * 10 + (byteAt s i - 48) by omega]
      · intro next a ha
        simp only [spec_l1Number.B5, lt_dec', Bool.false_eq_true, if_false]
  · have e1 : ((decide ((ByteArray.size s : Int) ≥ (1 : Int))) && (decide ((ByteArray.size s : Int) ≤ (7 : Int)))) = false := by
      rw [Bool.and_eq_false_iff, decide_eq_false_iff_not, decide_eq_false_iff_not]; omega
    have e3 : badNum s = true := by
      unfold badNum
      simp only [Bool.or_eq_true, decide_eq_true_eq]
      omega
    simp [e1, e3]

include hn in
theorem implNum_ok (s : ByteArray) : impl_decimal.f n (s, ()) = some (Sum.elim (fun a => (a, true, ())) (fun _ => (0, false, ())) (numR s)) := by
  have hn : 18446744073709551616 ≤ n := hn
  unfold impl_decimal.f numR
  by_cases hlen : 1 ≤ s.size ∧ s.size ≤ 7
  · have e2 : decide (0 ≤ (0 : Int) ∧ (0 : Int) < (ByteArray.size s : Int)) = true := decide_eq_true (by omega)
    simp only [e2, Bool.or_true, if_true]
    rw [show (((decide ((ByteArray.size s : Int) < (1 : Int))) || (decide ((ByteArray.size s : Int) > (7 : Int)))) || ((byteAt s (0 : Int) == (48 : Int)) && (decide ((ByteArray.size s : Int) > (1 : Int))))) = badNum s from rfl]
    split
    · rfl
    · refine (runL_out (len := s.size) (fun i a => (s, a, (s.size : Int), (i : Int), ())) (fun i a => 0 ≤ a ∧ a < (10 : Int) ^ i) (digF s) (fun a => some (a, true, ())) (fun _ => some (0, false, ())) ?_ ?_ (by omega) (a := 0) (by simp)).trans (by cases outF (digF s) (List.range s.size) 0 <;> rfl)
      · intro next i a hi ha
        have hp := pow_le i (by omega)
        have hb := byteAt_lt s (i : Int)
        cases hd : digF s i a with
        | inr e =>
          unfold digF at hd
          split at hd
          · rename_i hc
            simp only [impl_decimal.B5, lt_dec hi, in_dec hi, Bool.or_true, if_true]
            rw [if_pos hc]
          · cases hd
        | inl a' =>
          refine ⟨dig_inv ha hd, ?_⟩
          unfold digF at hd
          split at hd
          · cases hd
          · rename_i hc
            cases hd
            simp only [impl_decimal.B5, lt_dec hi, in_dec hi, Bool.or_true, if_true]
            rw [if_neg hc, wrap_next hi (show s.size ≤ 1048576 by omega)]
            simp only [Bool.or_eq_true, decide_eq_true_eq, not_or] at hc
            rw [wrap_u8 (a := byteAt s i - 48) (by omega) (by omega), wrap_eq (a := a * 10) (by omega) (by omega), wrap_eq (a := byteAt s i - 48) (by omega) (by omega), wrap_eq (by omega) (by omega)]
      · intro next a ha
        simp only [impl_decimal.B5, lt_dec', Bool.false_eq_true, if_false]
  · have e3 : badNum s = true := by
      unfold badNum
      simp only [Bool.or_eq_true, decide_eq_true_eq]
      omega
    have e4 : ((decide ((ByteArray.size s : Int) < (1 : Int))) || (decide ((ByteArray.size s : Int) > (7 : Int)))) = true := by
      simp only [Bool.or_eq_true, decide_eq_true_eq]
      omega
    simp [e4, e3]
end

/-! ### names -/
section
variable {n : Nat} (hn : Big n)

def badByte (s : ByteArray) (i : Nat) : Bool :=
  !((((decide (byteAt s (i : Int) ≥ (97 : Int))) && (decide (byteAt s (i : Int) ≤ (122 : Int)))) || ((decide (byteAt s (i : Int) ≥ (48 : Int))) && (decide (byteAt s (i : Int) ≤ (57 : Int))))) || (byteAt s (i : Int) == (45 : Int)))

def bytesOkD (s : ByteArray) : Bool := !(List.range s.size).any (badByte s)
def nameOkD (s : ByteArray) : Bool := ((decide ((ByteArray.size s : Int) ≥ (1 : Int))) && (decide ((ByteArray.size s : Int) ≤ (16 : Int)))) && bytesOkD s

include hn in
theorem specName_ok (s : ByteArray) (hl : s.size ≤ 1048576) : spec_l1NameOk.f n (s, ()) = some (nameOkD s, ()) := by
  have hn : 18446744073709551616 ≤ n := hn
  unfold spec_l1NameOk.f nameOkD
  simp only [spec_l1In.f, Option.bind_some]
  cases h1 : ((decide ((ByteArray.size s : Int) ≥ (1 : Int))) && (decide ((ByteArray.size s : Int) ≤ (16 : Int)))) with
  | false => rfl
  | true =>
    simp only [Bool.not_true, Bool.false_eq_true, if_false, Bool.true_and]
    refine (runL_any (len := s.size) (fun i => (s, (i : Int), ())) (badByte s) (some (false, ())) (some (true, ())) ?_ ?_ (by omega)).trans (by unfold bytesOkD; cases (List.range s.size).any (badByte s) <;> rfl)
    · intro next i hi
      simp only [spec_l1NameOk.B4, spec_l1Byte.f, lt_dec hi, in_dec hi, wrap_next hi hl, Option.bind_some, Bool.or_true, if_true, badByte]
      rfl
    · intro next
      simp only [spec_l1NameOk.B4, lt_dec', Bool.false_eq_true, if_false]

include hn in
theorem implBytes_ok (s : ByteArray) (hl : s.size ≤ 1048576) : impl_nameBytes.f n (s, ()) = some (bytesOkD s, ()) := by
  have hn : 18446744073709551616 ≤ n := hn
  unfold impl_nameBytes.f bytesOkD
  refine (runL_any (len := s.size) (fun i => (s, (s.size : Int), (i : Int), ())) (badByte s) (some (false, ())) (some (true, ())) ?_ ?_ (by omega)).trans (by cases (List.range s.size).any (badByte s) <;> rfl)
  · intro next i hi
    simp only [impl_nameBytes.B2, impl_nameByte.f, lt_dec hi, in_dec hi, wrap_next hi hl, Option.bind_some, Bool.or_true, if_true, badByte]
    rfl
  · intro next
    simp only [impl_nameBytes.B2, lt_dec', Bool.false_eq_true, if_false]

include hn in
theorem implName_ok (s : ByteArray) (hl : s.size ≤ 1048576) : impl_isName.f n (s, ()) = some (nameOkD s, ()) := by
  unfold impl_isName.f nameOkD
  simp only [implBytes_ok hn s hl, Option.bind_some]
  cases h1 : ((decide ((ByteArray.size s : Int) ≥ (1 : Int))) && (decide ((ByteArray.size s : Int) ≤ (16 : Int)))) with
  | false => rfl
  | true => rfl
end

/-! ### whether a value fits a field -/
section
variable {n : Nat} (hn : Big n)

theorem empty_str {s : ByteArray} (h : seq s (⟨#[]⟩ : ByteArray) = true) : s = ⟨#[]⟩ := eqK_eq (t := .str) h
theorem empty_num {s : ByteArray} (h : seq s (⟨#[]⟩ : ByteArray) = true) : numR s = .inr () := by
  rw [empty_str h]
  rfl
theorem empty_name {s : ByteArray} (h : seq s (⟨#[]⟩ : ByteArray) = true) : nameOkD s = false := by
  rw [empty_str h]
  rfl

def badChar (s : ByteArray) (i : Nat) : Bool := (decide (byteAt s (i : Int) < (33 : Int))) || (decide (byteAt s (i : Int) > (126 : Int)))
def hasW (l : List ByteArray) (s : ByteArray) : Bool := (l.findIdx? (fun w => seq w s)).isSome
def fitsD (f : Ty.den tGateField) (s : ByteArray) : Bool :=
  if (f.2.1 == (1 : Int)) = true then Sum.elim (fun a => decide (a ≥ (f.2.2.1 : Int)) && decide (a ≤ (f.2.2.2.1 : Int))) (fun _ => false) (numR s)
  else if (f.2.1 == (2 : Int)) = true then !seq s (⟨#[]⟩ : ByteArray) && hasW f.2.2.2.2.1 s
  else if (f.2.1 == (3 : Int)) = true then !(List.range s.size).any (badChar s) && (!seq s (⟨#[]⟩ : ByteArray) && (decide ((ByteArray.size s : Int) ≥ (f.2.2.1 : Int)) && decide ((ByteArray.size s : Int) ≤ (f.2.2.2.1 : Int))))
  else if (f.2.1 == (4 : Int)) = true then nameOkD s
  else false

include hn in
theorem specHas_ok (l : List ByteArray) (hl : l.length ≤ 1048576) (s : ByteArray) : spec_l1Has.f n (l, s, ()) = some (hasW l s, ()) := by
  have hn' : 18446744073709551616 ≤ n := hn
  unfold spec_l1Has.f hasW
  refine (runL_find (l := l) (fun i => (l, s, (i : Int), ())) (fun w => seq w s) (fun i => some (true, ())) (some (false, ())) ?_ ?_ (by omega)).trans (by cases l.findIdx? (fun w => seq w s) <;> rfl)
  · intro next i hi
    simp only [spec_l1Has.B2, lt_dec hi, in_dec hi, wrap_next hi hl, if_true]
    rw [getD_nat _ _ _ hi]
  · intro next
    simp only [spec_l1Has.B2, lt_dec', Bool.false_eq_true, if_false]

include hn in
theorem specFits_ok (f : Ty.den tGateField) (s : ByteArray) (hs : small 1048576 tGateField f) (hl : s.size ≤ 1048576) : spec_GateFits.f n (f, s, ()) = some (fitsD f s, ()) := by
  have hn' : 18446744073709551616 ≤ n := hn
  have hw : List.length f.2.2.2.2.1 ≤ 1048576 := hs.2.2.2.2.1.1
  unfold spec_GateFits.f fitsD
  have hnum := specNum_ok hn s
  have hhas : spec_l1Has.f n (f.2.2.2.2.1, s, ()) = _ := specHas_ok hn f.2.2.2.2.1 hw s
  have hname := specName_ok hn s hl
  by_cases k1 : (f.2.1 == (1 : Int)) = true
  · simp only [k1, if_true, hnum, Option.bind_some, spec_l1In.f]
    cases hr : numR s with
    | inl a =>
      have hb := num_bound hr
      have key : ∀ (a lo hi : Int), 0 ≤ a → ((if decide (a ≥ 0) = true then (some (decide (a ≥ lo) && decide (a ≤ hi), ()) : Option (Tup [.bool])) else some (tzero [.bool])).bind fun y2 => some (decide (a ≥ 0) && y2.1, ())) = (some (decide (a ≥ lo) && decide (a ≤ hi), ()) : Option (Tup [.bool])) := by
        intro a lo hi h
        rw [decide_eq_true (show a ≥ 0 by omega)]
        rfl
      exact key a _ _ hb.1
    | inr u => rfl
  simp only [k1, if_false, Bool.false_eq_true]
  by_cases k2 : (f.2.1 == (2 : Int)) = true
  · simp only [k2, if_true, hhas]
    cases seq s (⟨#[]⟩ : ByteArray) <;> rfl
  simp only [k2, if_false, Bool.false_eq_true]
  by_cases k3 : (f.2.1 == (3 : Int)) = true
  · simp only [k3, if_true]
    refine (runL_any (len := s.size) (fun i => (s, f, (i : Int), ())) (badChar s) (some (false, ())) (some (!seq s (⟨#[]⟩ : ByteArray) && (decide ((ByteArray.size s : Int) ≥ (f.2.2.1 : Int)) && decide ((ByteArray.size s : Int) ≤ (f.2.2.2.1 : Int))), ())) ?_ ?_ (by omega)).trans ?_
    · intro next i hi
      have hb := byteAt_lt s (i : Int)
      have e : (!((decide (byteAt s (i : Int) ≥ (33 : Int))) && (decide (byteAt s (i : Int) ≤ (126 : Int))))) = badChar s i := by
        unfold badChar
        by_cases a1 : byteAt s (i : Int) < 33 <;> by_cases a2 : byteAt s (i : Int) > 126 <;> simp [a1, a2] <;> omega
      simp only [spec_GateFits.B9, lt_dec hi, in_dec hi, if_true, wrap_next hi hl, spec_l1In.f, Option.bind_some, wrap_eq (a := byteAt s i) (by omega) (by omega), e]
    · intro next
      simp only [spec_GateFits.B9, lt_dec', Bool.false_eq_true, if_false, spec_l1In.f]
      cases seq s (⟨#[]⟩ : ByteArray) <;> rfl
    · cases (List.range s.size).any (badChar s) <;> simp
  simp only [k3, if_false, Bool.false_eq_true]
  by_cases k4 : (f.2.1 == (4 : Int)) = true
  · simp only [k4, if_true, hname, Option.bind_some]
  · simp only [k4, if_false, Bool.false_eq_true]

include hn in
theorem implFits_ok (f : Ty.den tGateField) (s : ByteArray) (hs : small 1048576 tGateField f) (hl : s.size ≤ 1048576) : impl_GateFits.f n (f, s, ()) = some (fitsD f s, ()) := by
  have hn' : 18446744073709551616 ≤ n := hn
  have hw : List.length f.2.2.2.2.1 ≤ 1048576 := hs.2.2.2.2.1.1
  have hnum : impl_numberField_fits.f n ((f, ()), s, ()) = some (Sum.elim (fun a => decide (a ≥ (f.2.2.1 : Int)) && decide (a ≤ (f.2.2.2.1 : Int))) (fun _ => false) (numR s), ()) := by
    unfold impl_numberField_fits.f
    simp only [implNum_ok hn s, Option.bind_some]
    cases numR s <;> rfl
  have hword : impl_wordField_fits.f n ((f, ()), s, ()) = some (hasW f.2.2.2.2.1 s, ()) := by
    unfold impl_wordField_fits.f hasW
    refine (runL_find (l := f.2.2.2.2.1) (fun i => (s, f.2.2.2.2.1, (List.length f.2.2.2.2.1 : Int), (i : Int), ())) (fun w => seq w s) (fun i => some (true, ())) (some (false, ())) ?_ ?_ (by omega)).trans (by cases List.findIdx? (fun w => seq w s) f.2.2.2.2.1 <;> rfl)
    · intro next i hi
      simp only [impl_wordField_fits.B2, lt_dec hi, in_dec hi, wrap_next hi hw, if_true]
      rw [getD_nat _ _ _ hi]
    · intro next
      simp only [impl_wordField_fits.B2, lt_dec', Bool.false_eq_true, if_false]
  have htext : impl_textField_fits.f n ((f, ()), s, ()) = some ((decide ((ByteArray.size s : Int) ≥ (f.2.2.1 : Int)) && decide ((ByteArray.size s : Int) ≤ (f.2.2.2.1 : Int))) && !(List.range s.size).any (badChar s), ()) := by
    unfold impl_textField_fits.f
    have key : ∀ (lo hi : Int), (if ((decide ((ByteArray.size s : Int) < lo)) || (decide ((ByteArray.size s : Int) > hi))) = true then some (false, ()) else
        runL (impl_textField_fits.B4 n) ((fun z1 => some (z1.1, ())), (fun z2 => some (true, ())), ()) n (s, (ByteArray.size s : Int), (0 : Int), ())) = (some ((decide ((ByteArray.size s : Int) ≥ lo) && decide ((ByteArray.size s : Int) ≤ hi)) && !(List.range s.size).any (badChar s), ()) : Option (Tup [.bool])) := by
      intro lo hi
      by_cases c : (ByteArray.size s : Int) < lo ∨ (ByteArray.size s : Int) > hi
      · rw [if_pos (by simpa using c)]
        have : (decide ((ByteArray.size s : Int) ≥ lo) && decide ((ByteArray.size s : Int) ≤ hi)) = false := by simp; omega
        rw [this, Bool.false_and]
      · rw [if_neg (by simpa using c)]
        have : (decide ((ByteArray.size s : Int) ≥ lo) && decide ((ByteArray.size s : Int) ≤ hi)) = true := by simp; omega
        rw [this, Bool.true_and]
        refine (runL_any (len := s.size) (fun i => (s, (ByteArray.size s : Int), (i : Int), ())) (badChar s) (some (false, ())) (some (true, ())) ?_ ?_ (by omega)).trans (by cases (List.range s.size).any (badChar s) <;> rfl)
        · intro next i hi
          simp only [impl_textField_fits.B4, lt_dec hi, in_dec hi, Bool.or_true, if_true, wrap_next hi hl]
          rfl
        · intro next
          simp only [impl_textField_fits.B4, lt_dec', Bool.false_eq_true, if_false]
    exact key _ _
  have hlink : impl_linkField_fits.f n ((f, ()), s, ()) = some (nameOkD s, ()) := by
    unfold impl_linkField_fits.f
    simp only [implName_ok hn s hl, Option.bind_some]
  have key : ∀ k : Int, f.2.1 = k → impl_GateFits.f n (f, s, ()) = some (fitsD f s, ()) := by
    intro k hk
    unfold impl_GateFits.f impl_sortOf.f fitsD
    simp only [Option.bind_some, hnum, hword, htext, hlink]
    rw [hk]
    by_cases k1 : k = 1
    · subst k1
      rcases Bool.eq_false_or_eq_true (seq s (⟨#[]⟩ : ByteArray)) with hse | hse
      · simp [hse, empty_num hse, place4]
      · simp [hse, place4]
    by_cases k2 : k = 2
    · subst k2
      cases hse : seq s (⟨#[]⟩ : ByteArray) <;> simp [place4]
    by_cases k3 : k = 3
    · subst k3
      cases hse : seq s (⟨#[]⟩ : ByteArray) <;> simp [place4, Bool.and_comm]
    by_cases k4 : k = 4
    · subst k4
      rcases Bool.eq_false_or_eq_true (seq s (⟨#[]⟩ : ByteArray)) with hse | hse
      · simp [hse, empty_name hse, place4]
      · simp [hse, place4]
    · have e1 : (k == (1 : Int)) = false := by simpa using k1
      have e2 : (k == (2 : Int)) = false := by simpa using k2
      have e3 : (k == (3 : Int)) = false := by simpa using k3
      have e4 : (k == (4 : Int)) = false := by simpa using k4
      simp [place4, k1, k2, k3, k4, e1, e2, e3, e4]
  exact key _ rfl
end

theorem pure_law (n : Nat) (hn : Big n) (x : Tup [tGateField, .str]) (hw : wfT [tGateField, .str] x) : laws_FnExactGateFits.f n x = some (true, ()) := by
  obtain ⟨f, s, ⟨⟩⟩ := x
  obtain ⟨hw1, _⟩ := hw
  unfold laws_FnExactGateFits.f
  by_cases hl : (ByteArray.size s : Int) > 1048576
  · simp only [decide_eq_true hl, if_true]
  simp only [decide_eq_false hl, Bool.false_eq_true, if_false]
  have h : laws_szGateField.f n (f, 1048576, ()) = _ := laws_szGateField_ok n hn f hw1 1048576 (by omega) (by omega)
  simp only [h, Option.bind_some]
  by_cases hb : (bulk tGateField f : Int) ≤ 1048576
  · have hs : small 1048576 tGateField f := small_of_bulk (by omega)
    rw [subL_pos hb, if_neg (by simp; omega)]
    simp only [laws_toGateField_ok n hn f hs, Option.bind_some, specFits_ok hn f s hs (by omega), implFits_ok hn f s hs (by omega), laws_eqGateField_ok n hn (f, f, ()) hs]
    simp [eqD_refl]
  · rw [subL_neg hb, if_pos (by decide)]

end Go.Proofs.Ytahigbajnpdpcaa
