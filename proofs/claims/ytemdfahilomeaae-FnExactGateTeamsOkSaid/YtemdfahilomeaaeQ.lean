/- The law FnExactGateTeamsOk: what the program tells and what the reference tells are one, for all arguments (the plain law, over printed pure functions). No conditions. -/
import Derived.Test.YtemdfahilomeaaeP
set_option linter.unusedVariables false
set_option linter.unusedSimpArgs false
namespace Go.Proofs.Ytemdfahilomeaae
open Go Go.Vm
/-! ### teams, one under another -/
section
variable {n : Nat} (hn : Big n)

def overOf (teams : List (Ty.den tGateTeam)) (a : ByteArray) : ByteArray := (teams.findIdx? (fun t => seq t.1 a)).elim (⟨#[]⟩ : ByteArray) (fun i => (teams.getD i (Ty.zero tGateTeam)).2.1)

include hn in
theorem teamOf_ok (teams : List (Ty.den tGateTeam)) (hl : teams.length ≤ 1048576) (a : ByteArray) : impl_teamOf.f n (teams, a, ()) = some (fidx (fun t : Ty.den tGateTeam => seq t.1 a) teams, ()) := by
  have hn : 18446744073709551616 ≤ n := hn
  unfold impl_teamOf.f
  refine (runL_find (l := teams) (fun i => (a, teams, (teams.length : Int), (i : Int), ())) (fun t : Ty.den tGateTeam => seq t.1 a) (fun i => some ((i : Int), ())) (some (-1, ())) ?_ ?_ (by omega)).trans ?_
  · intro next i hi
    simp only [impl_teamOf.B2]
    rw [if_pos (by simpa using hi), if_pos (by simp; omega), getD_nat _ _ _ hi, wrap_eq (by omega) (by omega)]
    rfl
  · intro next
    simp only [impl_teamOf.B2]
    rw [if_neg (by simp)]
  · simp only [fidx]
    cases teams.findIdx? (fun t : Ty.den tGateTeam => seq t.1 a) <;> rfl

include hn in
theorem l4Over_ok (teams : List (Ty.den tGateTeam)) (hl : teams.length ≤ 1048576) (a : ByteArray) : spec_l4Over.f n (teams, a, ()) = some (overOf teams a, ()) := by
  have hn : 18446744073709551616 ≤ n := hn
  unfold spec_l4Over.f
  refine (runL_find (l := teams) (fun i => (teams, a, (i : Int), ())) (fun t : Ty.den tGateTeam => seq t.1 a) (fun i => some ((teams.getD i (Ty.zero tGateTeam)).2.1, ())) (some (⟨#[]⟩, ())) ?_ ?_ (by omega)).trans ?_
  · intro next i hi
    simp only [spec_l4Over.B2]
    have e : teams.getD i (Ty.zero tGateTeam) = teams[i] := by simp [hi]
    have hb : decide (0 ≤ (i : Int) ∧ (i : Int) < (teams.length : Int)) = true := by simp; omega
    rw [if_pos (by simpa using hi), if_pos hb, getD_nat _ _ _ hi, e, if_pos hb, wrap_eq (by omega) (by omega)]
    rfl
  · intro next
    simp only [spec_l4Over.B2]
    rw [if_neg (by simp)]
  · simp only [overOf]
    cases teams.findIdx? (fun t : Ty.den tGateTeam => seq t.1 a) <;> rfl

end

/-! ### names -/
section
variable {n : Nat} (hn : Big n)

def badByte (s : ByteArray) (i : Nat) : Bool :=
  !((((decide (byteAt s (i : Int) ≥ (97 : Int))) && (decide (byteAt s (i : Int) ≤ (122 : Int)))) || ((decide (byteAt s (i : Int) ≥ (48 : Int))) && (decide (byteAt s (i : Int) ≤ (57 : Int))))) || (byteAt s (i : Int) == (45 : Int)))

def bytesOkD (s : ByteArray) : Bool := !(List.range s.size).any (badByte s)
def nameOkD (s : ByteArray) : Bool := ((decide ((ByteArray.size s : Int) ≥ (1 : Int))) && (decide ((ByteArray.size s : Int) ≤ (16 : Int)))) && bytesOkD s

include hn in
theorem specName_ok (s : ByteArray) (hl : s.size ≤ 1048576) : spec_l1NameOk.f n (s, ()) = some (nameOkD s, ()) := by
  have hn : 18446744073709551616 ≤ n := hn
  unfold spec_l1NameOk.f nameOkD
  simp only [spec_l1In.f, Option.bind_some]
  cases h1 : ((decide ((ByteArray.size s : Int) ≥ (1 : Int))) && (decide ((ByteArray.size s : Int) ≤ (16 : Int)))) with
  | false => rfl
  | true =>
    simp only [Bool.not_true, Bool.false_eq_true, if_false, Bool.true_and]
    refine (runL_any (len := s.size) (fun i => (s, (i : Int), ())) (badByte s) (some (false, ())) (some (true, ())) ?_ ?_ (by omega)).trans (by unfold bytesOkD; cases (List.range s.size).any (badByte s) <;> rfl)
    · intro next i hi
      simp only [spec_l1NameOk.B4, spec_l1Byte.f, lt_dec hi, in_dec hi, wrap_next hi hl, Option.bind_some, Bool.or_true, if_true, badByte]
      rfl
    · intro next
      simp only [spec_l1NameOk.B4, lt_dec', Bool.false_eq_true, if_false]

include hn in
theorem implBytes_ok (s : ByteArray) (hl : s.size ≤ 1048576) : impl_nameBytes.f n (s, ()) = some (bytesOkD s, ()) := by
  have hn : 18446744073709551616 ≤ n := hn
  unfold impl_nameBytes.f bytesOkD
  refine (runL_any (len := s.size) (fun i => (s, (s.size : Int), (i : Int), ())) (badByte s) (some (false, ())) (some (true, ())) ?_ ?_ (by omega)).trans (by cases (List.range s.size).any (badByte s) <;> rfl)
  · intro next i hi
    simp only [impl_nameBytes.B2, impl_nameByte.f, lt_dec hi, in_dec hi, wrap_next hi hl, Option.bind_some, Bool.or_true, if_true, badByte]
    rfl
  · intro next
    simp only [impl_nameBytes.B2, lt_dec', Bool.false_eq_true, if_false]

include hn in
theorem implName_ok (s : ByteArray) (hl : s.size ≤ 1048576) : impl_isName.f n (s, ()) = some (nameOkD s, ()) := by
  unfold impl_isName.f nameOkD
  simp only [implBytes_ok hn s hl, Option.bind_some]
  cases h1 : ((decide ((ByteArray.size s : Int) ≥ (1 : Int))) && (decide ((ByteArray.size s : Int) ≤ (16 : Int)))) with
  | false => rfl
  | true => rfl
end

/-! ### teams that are ok -/
section
variable {n : Nat} (hn : Big n)

include hn in
theorem l4Team_ok (teams : List (Ty.den tGateTeam)) (hl : teams.length ≤ 1048576) (a : ByteArray) : spec_l4Team.f n (teams, a, ()) = some ((teams.findIdx? (fun t : Ty.den tGateTeam => seq t.1 a)).isSome, ()) := by
  have hn : 18446744073709551616 ≤ n := hn
  unfold spec_l4Team.f
  refine (runL_find (l := teams) (fun i => (teams, a, (i : Int), ())) (fun t : Ty.den tGateTeam => seq t.1 a) (fun i => some (true, ())) (some (false, ())) ?_ ?_ (by omega)).trans ?_
  · intro next i hi
    simp only [spec_l4Team.B2, lt_dec hi, in_dec hi, wrap_next hi hl, if_true]
    rw [getD_nat _ _ _ hi]
  · intro next
    simp only [spec_l4Team.B2, lt_dec', Bool.false_eq_true, if_false]
  · cases teams.findIdx? (fun t : Ty.den tGateTeam => seq t.1 a) <;> rfl

/-- What is wrong with a team by itself. -/
def badTeam (l : List (Ty.den tGateTeam)) (i : Nat) : Bool :=
  (((!nameOkD (List.getD l (Int.toNat (i : Int)) (Ty.zero tGateTeam)).1) || ((decide ((i : Int) > (0 : Int))) && (!slt (List.getD l (Int.toNat (IntKind.i64.wrap ((i : Int) - (1 : Int)))) (Ty.zero tGateTeam)).1 (List.getD l (Int.toNat (i : Int)) (Ty.zero tGateTeam)).1))) || ((!seq (List.getD l (Int.toNat (i : Int)) (Ty.zero tGateTeam)).2.1 (⟨#[]⟩ : ByteArray)) && (!(l.findIdx? (fun t : Ty.den tGateTeam => seq t.1 (List.getD l (Int.toNat (i : Int)) (Ty.zero tGateTeam)).2.1)).isSome)))

/-- So many steps up, till there is none. -/
def upBy (l : List (Ty.den tGateTeam)) : Nat → ByteArray → ByteArray
  | 0, a => a
  | k + 1, a => if seq a ⟨#[]⟩ = true then a else upBy l k (overOf l a)

def deepTeam (l : List (Ty.den tGateTeam)) (i : Nat) : Bool := !seq (upBy l 5 (List.getD l (Int.toNat (i : Int)) (Ty.zero tGateTeam)).1) ⟨#[]⟩

def teamsOkD (l : List (Ty.den tGateTeam)) : Bool := if (decide ((List.length l : Int) > (12 : Int))) = true then false else !((List.range l.length).any (fun i => badTeam l i || deepTeam l i))

theorem pred_dec {i len : Nat} (hi : i < len) (hl : len ≤ 1048576) : (!(decide ((i : Int) > (0 : Int))) || decide (0 ≤ IntKind.i64.wrap ((i : Int) - (1 : Int)) ∧ IntKind.i64.wrap ((i : Int) - (1 : Int)) < (len : Int))) = true := by
  rw [wrap_eq (by omega) (by omega)]
  cases i with
  | zero => rfl
  | succ i =>
    rw [Bool.or_eq_true]
    exact .inr (decide_eq_true (by omega))

theorem pred_dec' {c : Bool} {i len : Nat} (hi : i < len) (hl : len ≤ 1048576) : (!(c && decide ((i : Int) > (0 : Int))) || decide (0 ≤ IntKind.i64.wrap ((i : Int) - (1 : Int)) ∧ IntKind.i64.wrap ((i : Int) - (1 : Int)) < (len : Int))) = true := by
  have := pred_dec hi hl
  cases c with
  | false => rfl
  | true => simpa using this

include hn in
theorem specUp_ok (l : List (Ty.den tGateTeam)) (hl : l.length ≤ 1048576) (i : Int) {Q : Type} (cs : Conts Q spec_GateTeamsOk.l11.outs) : ∀ (d s k : Nat) (a : ByteArray), s + d = 5 → d < k → runL (spec_GateTeamsOk.B11 n) cs k (l, i, a, (s : Int), ()) = cs.1 (l, i, upBy l d a, ()) := by
  intro d
  induction d with
  | zero =>
    intro s k a hs hk
    rw [runL_pos _ _ hk]
    simp only [spec_GateTeamsOk.B11, upBy]
    have : s = 5 := by omega
    subst this
    rfl
  | succ d ih =>
    intro s k a hs hk
    rw [runL_pos _ _ (by omega)]
    have h1 : decide ((s : Int) ≤ (4 : Int)) = true := decide_eq_true (by omega)
    simp only [spec_GateTeamsOk.B11, upBy, h1, Bool.true_and, l4Over_ok hn l hl, Option.bind_some]
    cases seq a ⟨#[]⟩ with
    | true => simp
    | false =>
      simp only [Bool.not_false, if_true, Bool.false_eq_true, if_false]
      rw [wrap_eq (by omega) (by omega)]
      exact ih (s + 1) (k - 1) _ (by omega) (by omega)

theorem small_at {m : Nat} {l : List (Ty.den tGateTeam)} (hs : small m (.slice tGateTeam) l) (i : Nat) : ByteArray.size (List.getD l i (Ty.zero tGateTeam)).1 ≤ m ∧ ByteArray.size (List.getD l i (Ty.zero tGateTeam)).2.1 ≤ m := by
  rw [List.getD_eq_getElem?_getD]
  cases h : l[i]? with
  | none => exact ⟨Nat.zero_le _, Nat.zero_le _⟩
  | some t =>
    have := hs.2 t (List.mem_of_getElem? h)
    exact ⟨this.1, this.2.1⟩

include hn in
theorem specTeams_ok (l : List (Ty.den tGateTeam)) (hs : small 1048576 (.slice tGateTeam) l) : spec_GateTeamsOk.f n (l, ()) = some (teamsOkD l, ()) := by
  have hn' : 18446744073709551616 ≤ n := hn
  have hl : l.length ≤ 1048576 := hs.1
  unfold spec_GateTeamsOk.f teamsOkD
  split
  · rfl
  · refine (runL_any (len := l.length) (fun i => (l, (i : Int), ())) (fun i => badTeam l i || deepTeam l i) (some (false, ())) (some (true, ())) ?_ ?_ (by omega)).trans (by cases (List.range l.length).any (fun i => badTeam l i || deepTeam l i) <;> rfl)
    · intro next i hi
      simp only [spec_GateTeamsOk.B4, lt_dec hi, in_dec hi, wrap_next hi hl, if_true, specName_ok hn _ (small_at hs _).1, Option.bind_some, pred_dec' hi hl, l4Team_ok hn l hl, guarded]
      have key : (((!nameOkD (List.getD l (Int.toNat (i : Int)) (Ty.zero tGateTeam)).1) || ((decide ((i : Int) > (0 : Int))) && (!slt (List.getD l (Int.toNat (IntKind.i64.wrap ((i : Int) - (1 : Int)))) (Ty.zero tGateTeam)).1 (List.getD l (Int.toNat (i : Int)) (Ty.zero tGateTeam)).1))) || ((!seq (List.getD l (Int.toNat (i : Int)) (Ty.zero tGateTeam)).2.1 (⟨#[]⟩ : ByteArray)) && (!(if ((!((!nameOkD (List.getD l (Int.toNat (i : Int)) (Ty.zero tGateTeam)).1) || ((decide ((i : Int) > (0 : Int))) && (!slt (List.getD l (Int.toNat (IntKind.i64.wrap ((i : Int) - (1 : Int)))) (Ty.zero tGateTeam)).1 (List.getD l (Int.toNat (i : Int)) (Ty.zero tGateTeam)).1)))) && (!seq (List.getD l (Int.toNat (i : Int)) (Ty.zero tGateTeam)).2.1 (⟨#[]⟩ : ByteArray))) = true then ((l.findIdx? (fun t : Ty.den tGateTeam => seq t.1 (List.getD l (Int.toNat (i : Int)) (Ty.zero tGateTeam)).2.1)).isSome, ()) else (false, ())).1))) = badTeam l i := by
        unfold badTeam
        cases ((!nameOkD (List.getD l (Int.toNat (i : Int)) (Ty.zero tGateTeam)).1) || ((decide ((i : Int) > (0 : Int))) && (!slt (List.getD l (Int.toNat (IntKind.i64.wrap ((i : Int) - (1 : Int)))) (Ty.zero tGateTeam)).1 (List.getD l (Int.toNat (i : Int)) (Ty.zero tGateTeam)).1))) <;> cases seq (List.getD l (Int.toNat (i : Int)) (Ty.zero tGateTeam)).2.1 (⟨#[]⟩ : ByteArray) <;> rfl
      refine (congrArg (fun b : Bool => if b = true then some (false, ()) else _) key).trans ?_
      cases hb : badTeam l i with
      | true => simp
      | false =>
        simp only [Bool.false_eq_true, if_false, Bool.false_or]
        rw [show (0 : Int) = ((0 : Nat) : Int) from rfl, specUp_ok hn l hl _ _ 5 0 n _ (by omega) (by omega)]
        simp only [deepTeam, wrap_next hi hl]
        rfl
    · intro next
      simp only [spec_GateTeamsOk.B4, lt_dec', Bool.false_eq_true, if_false]

theorem good_name {l : List (Ty.den tGateTeam)} {i : Nat} (hi : i < l.length) (h : badTeam l i = false) : nameOkD (l[i]).1 = true := by
  unfold badTeam at h
  rw [getD_nat _ _ _ hi] at h
  simp only [Bool.or_eq_false_iff, Bool.not_eq_false'] at h
  exact h.1.1

theorem good_over {l : List (Ty.den tGateTeam)} {i : Nat} (hi : i < l.length) (h : badTeam l i = false) : seq (l[i]).2.1 ⟨#[]⟩ = true ∨ (l.findIdx? (fun t : Ty.den tGateTeam => seq t.1 (l[i]).2.1)).isSome = true := by
  unfold badTeam at h
  rw [getD_nat _ _ _ hi] at h
  simp only [Bool.or_eq_false_iff, Bool.and_eq_false_iff, Bool.not_eq_false'] at h
  exact h.2

theorem good_lt {l : List (Ty.den tGateTeam)} (hl : l.length ≤ 1048576) {i : Nat} (hi : i + 1 < l.length) (h : badTeam l (i + 1) = false) : slt (l[i]).1 (l[i + 1]).1 = true := by
  unfold badTeam at h
  rw [getD_nat _ _ _ hi, wrap_eq (by omega) (by omega)] at h
  simp only [Bool.or_eq_false_iff, Bool.and_eq_false_iff, Bool.not_eq_false'] at h
  rcases h.1.2 with h1 | h1
  · have := of_decide_eq_false h1
    omega
  · have e : ((i + 1 : Nat) : Int) - 1 = (i : Int) := by omega
    rw [e, getD_nat _ _ _ (by omega)] at h1
    exact h1

theorem lt_all {l : List (Ty.den tGateTeam)} (hl : l.length ≤ 1048576) (h : ∀ j, j < l.length → badTeam l j = false) : ∀ (d j : Nat) (hj : j + d + 1 < l.length), slt (l[j]).1 (l[j + d + 1]).1 = true := by
  intro d
  induction d with
  | zero => intro j hj; exact good_lt hl hj (h _ hj)
  | succ d ih =>
    intro j hj
    exact slt_trans (ih j (by omega)) (good_lt hl (i := j + d + 1) hj (h _ hj))

theorem find_self {l : List (Ty.den tGateTeam)} (hl : l.length ≤ 1048576) (h : ∀ j, j < l.length → badTeam l j = false) {i : Nat} (hi : i < l.length) : l.findIdx? (fun t : Ty.den tGateTeam => seq t.1 (l[i]).1) = some i := by
  rw [List.findIdx?_eq_some_iff_getElem]
  refine ⟨hi, seq_refl _, fun j hj => ?_⟩
  obtain ⟨d, rfl⟩ : ∃ d, i = j + d + 1 := ⟨i - j - 1, by omega⟩
  have := slt_not_seq (lt_all hl h d j hi)
  simp [this]

theorem deep_eq {l : List (Ty.den tGateTeam)} (hl : l.length ≤ 1048576) (h : ∀ j, j < l.length → badTeam l j = false) {i : Nat} (hi : i < l.length) : deepTeam l i = !seq (upBy l 4 (l[i]).2.1) ⟨#[]⟩ := by
  unfold deepTeam
  rw [getD_nat _ _ _ hi]
  have hne : seq (l[i]).1 ⟨#[]⟩ = false := by
    cases hs : seq (l[i]).1 ⟨#[]⟩ with
    | false => rfl
    | true =>
      exfalso
      have h1 := good_name hi (h i hi)
      unfold nameOkD at h1
      simp only [Bool.and_eq_true, decide_eq_true_eq] at h1
      have h2 := seq_iff.1 hs
      have : (l[i]).1.size = 0 := by rw [h2]; rfl
      have := h1.1.1
      omega
  have ho : overOf l (l[i]).1 = (l[i]).2.1 := by simp [overOf, find_self hl h hi, hi]
  show (!seq (if seq (l[i]).1 ⟨#[]⟩ = true then (l[i]).1 else upBy l 4 (overOf l (l[i]).1)) ⟨#[]⟩) = _
  rw [if_neg (by simp [hne]), ho]

theorem fidx_neg {X : Type} (p : X → Bool) (l : List X) : decide (fidx p l < (0 : Int)) = !(l.findIdx? p).isSome := by
  cases h : l.findIdx? p with
  | none => simp [fidx_none h]
  | some i => simp [fidx_some h]

include hn in
theorem implUp_ok (l : List (Ty.den tGateTeam)) (hl : l.length ≤ 1048576) (hg : ∀ j, j < l.length → badTeam l j = false) (i len : Int) (l2 : List (Ty.den tGateTeam)) {Q : Type} (cs : Conts Q impl_GateTeamsOk.l14.outs) : ∀ (d s k : Nat) (a : ByteArray), s + d = 4 → d + 1 < k →
    (seq a ⟨#[]⟩ = true ∨ (l.findIdx? (fun t : Ty.den tGateTeam => seq t.1 a)).isSome = true) →
    runL (impl_GateTeamsOk.B14 n) cs k (l, (s : Int), a, l2, len, i, ()) = if (!seq (upBy l d a) ⟨#[]⟩) = true then cs.1 (false, ()) else cs.2.1 (l, l2, len, i, ()) := by
  intro d
  induction d with
  | zero =>
    intro s k a hs hk ha
    rw [runL_pos _ _ (by omega)]
    have : s = 4 := by omega
    subst this
    simp only [impl_GateTeamsOk.B14]
    rw [show upBy l 0 a = a from rfl]
    rcases Bool.eq_false_or_eq_true (seq a ⟨#[]⟩) with hse | hse
    · rw [if_neg (by simp [hse]), if_neg (by simp [hse])]
    · rw [if_pos (by simp [hse]), if_pos (by rfl), if_pos (by simp [hse])]
  | succ d ih =>
    intro s k a hs hk ha
    rw [runL_pos _ _ (by omega)]
    simp only [impl_GateTeamsOk.B14]
    rw [show upBy l (d + 1) a = if seq a ⟨#[]⟩ = true then a else upBy l d (overOf l a) from rfl]
    rcases Bool.eq_false_or_eq_true (seq a ⟨#[]⟩) with hse | hse
    · rw [if_neg (by simp [hse]), if_pos hse, if_neg (by simp [hse])]
    · rw [hse] at ha
      have ha := ha.resolve_left (by simp)
      obtain ⟨j, hj⟩ := Option.isSome_iff_exists.1 ha
      have hjl := findIdx?_lt hj
      have ho : overOf l a = (l[j]).2.1 := by simp [overOf, hj, hjl]
      have h1 : decide (IntKind.i64.wrap ((s : Int) + 1) > (4 : Int)) = false := by
        rw [wrap_eq (by omega) (by omega)]
        exact decide_eq_false (by omega)
      rw [if_pos (by simp [hse]), if_neg (c := seq a ⟨#[]⟩ = true) (by simp [hse])]
      simp only [h1, Bool.false_eq_true, if_false, if_true, teamOf_ok hn l hl, Option.bind_some, fidx_some hj, in_dec hjl, getD_nat _ _ _ hjl]
      rw [wrap_eq (by omega) (by omega), ← ho]
      refine ih (s + 1) (k - 1) _ (by omega) (by omega) ?_
      rw [ho]
      exact good_over hjl (hg j hjl)

include hn in
theorem implTeams_ok (l : List (Ty.den tGateTeam)) (hs : small 1048576 (.slice tGateTeam) l) : impl_GateTeamsOk.f n (l, ()) = some (teamsOkD l, ()) := by
  have hn' : 18446744073709551616 ≤ n := hn
  have hl : l.length ≤ 1048576 := hs.1
  unfold impl_GateTeamsOk.f teamsOkD
  split
  · rfl
  · refine (runL_any (len := l.length) (fun i => (l, l, (l.length : Int), (i : Int), ())) (badTeam l) (some (false, ())) (runL (impl_GateTeamsOk.B10 n) ((fun z8 => some (z8.1, ())), (fun z9 => some (true, ())), ()) n (l, l, (List.length l : Int), ((0 : Nat) : Int), ())) ?_ ?_ (by omega)).trans ?_
    · intro next i hi
      simp only [impl_GateTeamsOk.B4, lt_dec hi, in_dec hi, wrap_next hi hl, if_true, implName_ok hn _ (small_at hs _).1, Option.bind_some, pred_dec' hi hl, teamOf_ok hn l hl, guarded]
      have key : (((!nameOkD (List.getD l (Int.toNat (i : Int)) (Ty.zero tGateTeam)).1) || ((decide ((i : Int) > (0 : Int))) && (!slt (List.getD l (Int.toNat (IntKind.i64.wrap ((i : Int) - (1 : Int)))) (Ty.zero tGateTeam)).1 (List.getD l (Int.toNat (i : Int)) (Ty.zero tGateTeam)).1))) || ((!seq (List.getD l (Int.toNat (i : Int)) (Ty.zero tGateTeam)).2.1 (⟨#[]⟩ : ByteArray)) && (decide ((if ((!((!nameOkD (List.getD l (Int.toNat (i : Int)) (Ty.zero tGateTeam)).1) || ((decide ((i : Int) > (0 : Int))) && (!slt (List.getD l (Int.toNat (IntKind.i64.wrap ((i : Int) - (1 : Int)))) (Ty.zero tGateTeam)).1 (List.getD l (Int.toNat (i : Int)) (Ty.zero tGateTeam)).1)))) && (!seq (List.getD l (Int.toNat (i : Int)) (Ty.zero tGateTeam)).2.1 (⟨#[]⟩ : ByteArray))) = true then ((fidx (fun t : Ty.den tGateTeam => seq t.1 (List.getD l (Int.toNat (i : Int)) (Ty.zero tGateTeam)).2.1) l : Int), ()) else ((0 : Int), ())).1 < (0 : Int))))) = badTeam l i := by
        unfold badTeam
        rw [← fidx_neg]
        cases ((!nameOkD (List.getD l (Int.toNat (i : Int)) (Ty.zero tGateTeam)).1) || ((decide ((i : Int) > (0 : Int))) && (!slt (List.getD l (Int.toNat (IntKind.i64.wrap ((i : Int) - (1 : Int)))) (Ty.zero tGateTeam)).1 (List.getD l (Int.toNat (i : Int)) (Ty.zero tGateTeam)).1))) <;> cases seq (List.getD l (Int.toNat (i : Int)) (Ty.zero tGateTeam)).2.1 (⟨#[]⟩ : ByteArray) <;> rfl
      exact congrArg (fun b : Bool => if b = true then some (false, ()) else next (l, l, (l.length : Int), ((i + 1 : Nat) : Int), ())) key
    · intro next
      simp only [impl_GateTeamsOk.B4, lt_dec', Bool.false_eq_true, if_false]
      rfl
    · cases hb : (List.range l.length).any (badTeam l) with
      | true =>
        have : (List.range l.length).any (fun i => badTeam l i || deepTeam l i) = true := by
          obtain ⟨i, hi, h⟩ := List.any_eq_true.1 hb
          exact List.any_eq_true.2 ⟨i, hi, by simp [h]⟩
        simp [this]
      | false =>
        have hg : ∀ j, j < l.length → badTeam l j = false := fun j hj => by
          rw [List.any_eq_false] at hb
          have := hb j (List.mem_range.2 hj)
          simpa using this
        have hany : (List.range l.length).any (fun i => badTeam l i || deepTeam l i) = (List.range l.length).any (fun i => deepTeam l i) := by
          rw [Bool.eq_iff_iff, List.any_eq_true, List.any_eq_true]
          constructor
          · rintro ⟨i, hi, h⟩
            rw [hg i (List.mem_range.1 hi)] at h
            exact ⟨i, hi, by simpa using h⟩
          · rintro ⟨i, hi, h⟩
            exact ⟨i, hi, by simp [h]⟩
        rw [hany]
        simp only [Bool.false_eq_true, if_false]
        refine (runL_any (len := l.length) (fun i => (l, l, (l.length : Int), (i : Int), ())) (deepTeam l) (some (false, ())) (some (true, ())) ?_ ?_ (by omega)).trans (by cases (List.range l.length).any (deepTeam l) <;> rfl)
        · intro next i hi
          simp only [impl_GateTeamsOk.B10, lt_dec hi, in_dec hi, if_true, getD_nat _ _ _ hi]
          rw [show (0 : Int) = ((0 : Nat) : Int) from rfl, implUp_ok hn l hl hg _ _ _ _ 4 0 n _ (by omega) (by omega) (good_over hi (hg i hi)), deep_eq hl hg hi]
          simp only [wrap_next hi hl]
        · intro next
          simp only [impl_GateTeamsOk.B10, lt_dec', Bool.false_eq_true, if_false]
end

theorem pure_law (n : Nat) (hn : Big n) (x : Tup [.slice tGateTeam]) (hw : wfT [.slice tGateTeam] x) : laws_FnExactGateTeamsOk.f n x = some (true, ()) := by
  obtain ⟨l, ⟨⟩⟩ := x
  obtain ⟨hw1, _⟩ := hw
  unfold laws_FnExactGateTeamsOk.f
  have h : laws_szGateTeamS.f n (l, 1048576, ()) = _ := laws_szGateTeamS_ok n hn l hw1 1048576 (by omega) (by omega)
  simp only [h, Option.bind_some]
  by_cases hb : (bulk (.slice tGateTeam) l : Int) ≤ 1048576
  · have hs : small 1048576 (.slice tGateTeam) l := small_of_bulk (by omega)
    rw [subL_pos hb, if_neg (by simp; omega)]
    simp only [laws_toGateTeamS_ok n hn l hs, Option.bind_some, specTeams_ok hn l hs, implTeams_ok hn l hs, laws_eqGateTeamS_ok n hn (l, l, ()) hs]
    simp [eqD_refl]
  · rw [subL_neg hb, if_pos (by decide)]

end Go.Proofs.Ytemdfahilomeaae
