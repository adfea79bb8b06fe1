/- The law FnExactHallNew: what the program tells and what the reference tells are one, for all arguments (the plain law, over printed pure functions). No conditions. -/
import Derived.Test.YtlbdplafdpgidabP
set_option linter.unusedVariables false
set_option linter.unusedSimpArgs false
namespace Go.Proofs.Ytlbdplafdpgidab
open Go Go.Vm
/-! ### teams, one under another -/
section
variable {n : Nat} (hn : Big n)

def overOf (teams : List (Ty.den tGateTeam)) (a : ByteArray) : ByteArray := (teams.findIdx? (fun t => seq t.1 a)).elim (⟨#[]⟩ : ByteArray) (fun i => (teams.getD i (Ty.zero tGateTeam)).2.1)

include hn in
theorem teamOf_ok (teams : List (Ty.den tGateTeam)) (hl : teams.length ≤ 1048576) (a : ByteArray) : impl_teamOf.f n (teams, a, ()) = some (fidx (fun t : Ty.den tGateTeam => seq t.1 a) teams, ()) := by
  have hn : 18446744073709551616 ≤ n := hn
  unfold impl_teamOf.f
  refine (runL_find (l := teams) (fun i => (a, teams, (teams.length : Int), (i : Int), ())) (fun t : Ty.den tGateTeam => seq t.1 a) (fun i => some ((i : Int), ())) (some (-1, ())) ?_ ?_ (by omega)).trans ?_
  · intro next i hi
    simp only [impl_teamOf.B2]
    rw [if_pos (by simpa using hi), if_pos (by simp; omega), getD_nat _ _ _ hi, wrap_eq (by omega) (by omega)]
    rfl
  · intro next
    simp only [impl_teamOf.B2]
    rw [if_neg (by simp)]
  · simp only [fidx]
    cases teams.findIdx? (fun t : Ty.den tGateTeam => seq t.1 a) <;> rfl

include hn in
theorem l4Over_ok (teams : List (Ty.den tGateTeam)) (hl : teams.length ≤ 1048576) (a : ByteArray) : spec_l4Over.f n (teams, a, ()) = some (overOf teams a, ()) := by
  have hn : 18446744073709551616 ≤ n := hn
  unfold spec_l4Over.f
  refine (runL_find (l := teams) (fun i => (teams, a, (i : Int), ())) (fun t : Ty.den tGateTeam => seq t.1 a) (fun i => some ((teams.getD i (Ty.zero tGateTeam)).2.1, ())) (some (⟨#[]⟩, ())) ?_ ?_ (by omega)).trans ?_
  · intro next i hi
    simp only [spec_l4Over.B2]
    have e : teams.getD i (Ty.zero tGateTeam) = teams[i] := by simp [hi]
    have hb : decide (0 ≤ (i : Int) ∧ (i : Int) < (teams.length : Int)) = true := by simp; omega
    rw [if_pos (by simpa using hi), if_pos hb, getD_nat _ _ _ hi, e, if_pos hb, wrap_eq (by omega) (by omega)]
    rfl
  · intro next
    simp only [spec_l4Over.B2]
    rw [if_neg (by simp)]
  · simp only [overOf]
    cases teams.findIdx? (fun t : Ty.den tGateTeam => seq t.1 a) <;> rfl

end

/-! ### names -/
section
variable {n : Nat} (hn : Big n)

def badByte (s : ByteArray) (i : Nat) : Bool :=
  !((((decide (byteAt s (i : Int) ≥ (97 : Int))) && (decide (byteAt s (i : Int) ≤ (122 : Int)))) || ((decide (byteAt s (i : Int) ≥ (48 : Int))) && (decide (byteAt s (i : Int) ≤ (57 : Int))))) || (byteAt s (i : Int) == (45 : Int)))

def bytesOkD (s : ByteArray) : Bool := !(List.range s.size).any (badByte s)
def nameOkD (s : ByteArray) : Bool := ((decide ((ByteArray.size s : Int) ≥ (1 : Int))) && (decide ((ByteArray.size s : Int) ≤ (16 : Int)))) && bytesOkD s

include hn in
theorem specName_ok (s : ByteArray) (hl : s.size ≤ 1048576) : spec_l1NameOk.f n (s, ()) = some (nameOkD s, ()) := by
  have hn : 18446744073709551616 ≤ n := hn
  unfold spec_l1NameOk.f nameOkD
  simp only [spec_l1In.f, Option.bind_some]
  cases h1 : ((decide ((ByteArray.size s : Int) ≥ (1 : Int))) && (decide ((ByteArray.size s : Int) ≤ (16 : Int)))) with
  | false => rfl
  | true =>
    simp only [Bool.not_true, Bool.false_eq_true, if_false, Bool.true_and]
    refine (runL_any (len := s.size) (fun i => (s, (i : Int), ())) (badByte s) (some (false, ())) (some (true, ())) ?_ ?_ (by omega)).trans (by unfold bytesOkD; cases (List.range s.size).any (badByte s) <;> rfl)
    · intro next i hi
      simp only [spec_l1NameOk.B4, spec_l1Byte.f, lt_dec hi, in_dec hi, wrap_next hi hl, Option.bind_some, Bool.or_true, if_true, badByte]
      rfl
    · intro next
      simp only [spec_l1NameOk.B4, lt_dec', Bool.false_eq_true, if_false]

include hn in
theorem implBytes_ok (s : ByteArray) (hl : s.size ≤ 1048576) : impl_nameBytes.f n (s, ()) = some (bytesOkD s, ()) := by
  have hn : 18446744073709551616 ≤ n := hn
  unfold impl_nameBytes.f bytesOkD
  refine (runL_any (len := s.size) (fun i => (s, (s.size : Int), (i : Int), ())) (badByte s) (some (false, ())) (some (true, ())) ?_ ?_ (by omega)).trans (by cases (List.range s.size).any (badByte s) <;> rfl)
  · intro next i hi
    simp only [impl_nameBytes.B2, impl_nameByte.f, lt_dec hi, in_dec hi, wrap_next hi hl, Option.bind_some, Bool.or_true, if_true, badByte]
    rfl
  · intro next
    simp only [impl_nameBytes.B2, lt_dec', Bool.false_eq_true, if_false]

include hn in
theorem implName_ok (s : ByteArray) (hl : s.size ≤ 1048576) : impl_isName.f n (s, ()) = some (nameOkD s, ()) := by
  unfold impl_isName.f nameOkD
  simp only [implBytes_ok hn s hl, Option.bind_some]
  cases h1 : ((decide ((ByteArray.size s : Int) ≥ (1 : Int))) && (decide ((ByteArray.size s : Int) ≤ (16 : Int)))) with
  | false => rfl
  | true => rfl
end

/-! ### teams that are ok -/
section
variable {n : Nat} (hn : Big n)

include hn in
theorem l4Team_ok (teams : List (Ty.den tGateTeam)) (hl : teams.length ≤ 1048576) (a : ByteArray) : spec_l4Team.f n (teams, a, ()) = some ((teams.findIdx? (fun t : Ty.den tGateTeam => seq t.1 a)).isSome, ()) := by
  have hn : 18446744073709551616 ≤ n := hn
  unfold spec_l4Team.f
  refine (runL_find (l := teams) (fun i => (teams, a, (i : Int), ())) (fun t : Ty.den tGateTeam => seq t.1 a) (fun i => some (true, ())) (some (false, ())) ?_ ?_ (by omega)).trans ?_
  · intro next i hi
    simp only [spec_l4Team.B2, lt_dec hi, in_dec hi, wrap_next hi hl, if_true]
    rw [getD_nat _ _ _ hi]
  · intro next
    simp only [spec_l4Team.B2, lt_dec', Bool.false_eq_true, if_false]
  · cases teams.findIdx? (fun t : Ty.den tGateTeam => seq t.1 a) <;> rfl

/-- What is wrong with a team by itself. -/
def badTeam (l : List (Ty.den tGateTeam)) (i : Nat) : Bool :=
  (((!nameOkD (List.getD l (Int.toNat (i : Int)) (Ty.zero tGateTeam)).1) || ((decide ((i : Int) > (0 : Int))) && (!slt (List.getD l (Int.toNat (IntKind.i64.wrap ((i : Int) - (1 : Int)))) (Ty.zero tGateTeam)).1 (List.getD l (Int.toNat (i : Int)) (Ty.zero tGateTeam)).1))) || ((!seq (List.getD l (Int.toNat (i : Int)) (Ty.zero tGateTeam)).2.1 (⟨#[]⟩ : ByteArray)) && (!(l.findIdx? (fun t : Ty.den tGateTeam => seq t.1 (List.getD l (Int.toNat (i : Int)) (Ty.zero tGateTeam)).2.1)).isSome)))

/-- So many steps up, till there is none. -/
def upBy (l : List (Ty.den tGateTeam)) : Nat → ByteArray → ByteArray
  | 0, a => a
  | k + 1, a => if seq a ⟨#[]⟩ = true then a else upBy l k (overOf l a)

def deepTeam (l : List (Ty.den tGateTeam)) (i : Nat) : Bool := !seq (upBy l 5 (List.getD l (Int.toNat (i : Int)) (Ty.zero tGateTeam)).1) ⟨#[]⟩

def teamsOkD (l : List (Ty.den tGateTeam)) : Bool := if (decide ((List.length l : Int) > (12 : Int))) = true then false else !((List.range l.length).any (fun i => badTeam l i || deepTeam l i))

theorem pred_dec {i len : Nat} (hi : i < len) (hl : len ≤ 1048576) : (!(decide ((i : Int) > (0 : Int))) || decide (0 ≤ IntKind.i64.wrap ((i : Int) - (1 : Int)) ∧ IntKind.i64.wrap ((i : Int) - (1 : Int)) < (len : Int))) = true := by
  rw [wrap_eq (by omega) (by omega)]
  cases i with
  | zero => rfl
  | succ i =>
    rw [Bool.or_eq_true]
    exact .inr (decide_eq_true (by omega))

theorem pred_dec' {c : Bool} {i len : Nat} (hi : i < len) (hl : len ≤ 1048576) : (!(c && decide ((i : Int) > (0 : Int))) || decide (0 ≤ IntKind.i64.wrap ((i : Int) - (1 : Int)) ∧ IntKind.i64.wrap ((i : Int) - (1 : Int)) < (len : Int))) = true := by
  have := pred_dec hi hl
  cases c with
  | false => rfl
  | true => simpa using this

include hn in
theorem specUp_ok (l : List (Ty.den tGateTeam)) (hl : l.length ≤ 1048576) (i : Int) {Q : Type} (cs : Conts Q spec_GateTeamsOk.l11.outs) : ∀ (d s k : Nat) (a : ByteArray), s + d = 5 → d < k → runL (spec_GateTeamsOk.B11 n) cs k (l, i, a, (s : Int), ()) = cs.1 (l, i, upBy l d a, ()) := by
  intro d
  induction d with
  | zero =>
    intro s k a hs hk
    rw [runL_pos _ _ hk]
    simp only [spec_GateTeamsOk.B11, upBy]
    have : s = 5 := by omega
    subst this
    rfl
  | succ d ih =>
    intro s k a hs hk
    rw [runL_pos _ _ (by omega)]
    have h1 : decide ((s : Int) ≤ (4 : Int)) = true := decide_eq_true (by omega)
    simp only [spec_GateTeamsOk.B11, upBy, h1, Bool.true_and, l4Over_ok hn l hl, Option.bind_some]
    cases seq a ⟨#[]⟩ with
    | true => simp
    | false =>
      simp only [Bool.not_false, if_true, Bool.false_eq_true, if_false]
      rw [wrap_eq (by omega) (by omega)]
      exact ih (s + 1) (k - 1) _ (by omega) (by omega)

theorem small_at {m : Nat} {l : List (Ty.den tGateTeam)} (hs : small m (.slice tGateTeam) l) (i : Nat) : ByteArray.size (List.getD l i (Ty.zero tGateTeam)).1 ≤ m ∧ ByteArray.size (List.getD l i (Ty.zero tGateTeam)).2.1 ≤ m := by
  rw [List.getD_eq_getElem?_getD]
  cases h : l[i]? with
  | none => exact ⟨Nat.zero_le _, Nat.zero_le _⟩
  | some t =>
    have := hs.2 t (List.mem_of_getElem? h)
    exact ⟨this.1, this.2.1⟩

include hn in
theorem specTeams_ok (l : List (Ty.den tGateTeam)) (hs : small 1048576 (.slice tGateTeam) l) : spec_GateTeamsOk.f n (l, ()) = some (teamsOkD l, ()) := by
  have hn' : 18446744073709551616 ≤ n := hn
  have hl : l.length ≤ 1048576 := hs.1
  unfold spec_GateTeamsOk.f teamsOkD
  split
  · rfl
  · refine (runL_any (len := l.length) (fun i => (l, (i : Int), ())) (fun i => badTeam l i || deepTeam l i) (some (false, ())) (some (true, ())) ?_ ?_ (by omega)).trans (by cases (List.range l.length).any (fun i => badTeam l i || deepTeam l i) <;> rfl)
    · intro next i hi
      simp only [spec_GateTeamsOk.B4, lt_dec hi, in_dec hi, wrap_next hi hl, if_true, specName_ok hn _ (small_at hs _).1, Option.bind_some, pred_dec' hi hl, l4Team_ok hn l hl, guarded]
      have key : (((!nameOkD (List.getD l (Int.toNat (i : Int)) (Ty.zero tGateTeam)).1) || ((decide ((i : Int) > (0 : Int))) && (!slt (List.getD l (Int.toNat (IntKind.i64.wrap ((i : Int) - (1 : Int)))) (Ty.zero tGateTeam)).1 (List.getD l (Int.toNat (i : Int)) (Ty.zero tGateTeam)).1))) || ((!seq (List.getD l (Int.toNat (i : Int)) (Ty.zero tGateTeam)).2.1 (⟨#[]⟩ : ByteArray)) && (!(if ((!((!nameOkD (List.getD l (Int.toNat (i : Int)) (Ty.zero tGateTeam)).1) || ((decide ((i : Int) > (0 : Int))) && (!slt (List.getD l (Int.toNat (IntKind.i64.wrap ((i : Int) - (1 : Int)))) (Ty.zero tGateTeam)).1 (List.getD l (Int.toNat (i : Int)) (Ty.zero tGateTeam)).1)))) && (!seq (List.getD l (Int.toNat (i : Int)) (Ty.zero tGateTeam)).2.1 (⟨#[]⟩ : ByteArray))) = true then ((l.findIdx? (fun t : Ty.den tGateTeam => seq t.1 (List.getD l (Int.toNat (i : Int)) (Ty.zero tGateTeam)).2.1)).isSome, ()) else (false, ())).1))) = badTeam l i := by
        unfold badTeam
        cases ((!nameOkD (List.getD l (Int.toNat (i : Int)) (Ty.zero tGateTeam)).1) || ((decide ((i : Int) > (0 : Int))) && (!slt (List.getD l (Int.toNat (IntKind.i64.wrap ((i : Int) - (1 : Int)))) (Ty.zero tGateTeam)).1 (List.getD l (Int.toNat (i : Int)) (Ty.zero tGateTeam)).1))) <;> cases seq (List.getD l (Int.toNat (i : Int)) (Ty.zero tGateTeam)).2.1 (⟨#[]⟩ : ByteArray) <;> rfl
      refine (congrArg (fun b : Bool => if b = true then some (false, ()) else _) key).trans ?_
      cases hb : badTeam l i with
      | true => simp
      | false =>
        simp only [Bool.false_eq_true, if_false, Bool.false_or]
        rw [show (0 : Int) = ((0 : Nat) : Int) from rfl, specUp_ok hn l hl _ _ 5 0 n _ (by omega) (by omega)]
        simp only [deepTeam, wrap_next hi hl]
        rfl
    · intro next
      simp only [spec_GateTeamsOk.B4, lt_dec', Bool.false_eq_true, if_false]

theorem good_name {l : List (Ty.den tGateTeam)} {i : Nat} (hi : i < l.length) (h : badTeam l i = false) : nameOkD (l[i]).1 = true := by
  unfold badTeam at h
  rw [getD_nat _ _ _ hi] at h
  simp only [Bool.or_eq_false_iff, Bool.not_eq_false'] at h
  exact h.1.1

theorem good_over {l : List (Ty.den tGateTeam)} {i : Nat} (hi : i < l.length) (h : badTeam l i = false) : seq (l[i]).2.1 ⟨#[]⟩ = true ∨ (l.findIdx? (fun t : Ty.den tGateTeam => seq t.1 (l[i]).2.1)).isSome = true := by
  unfold badTeam at h
  rw [getD_nat _ _ _ hi] at h
  simp only [Bool.or_eq_false_iff, Bool.and_eq_false_iff, Bool.not_eq_false'] at h
  exact h.2

theorem good_lt {l : List (Ty.den tGateTeam)} (hl : l.length ≤ 1048576) {i : Nat} (hi : i + 1 < l.length) (h : badTeam l (i + 1) = false) : slt (l[i]).1 (l[i + 1]).1 = true := by
  unfold badTeam at h
  rw [getD_nat _ _ _ hi, wrap_eq (by omega) (by omega)] at h
  simp only [Bool.or_eq_false_iff, Bool.and_eq_false_iff, Bool.not_eq_false'] at h
  rcases h.1.2 with h1 | h1
  · have := of_decide_eq_false h1
    omega
  · have e : ((i + 1 : Nat) : Int) - 1 = (i : Int) := by omega
    rw [e, getD_nat _ _ _ (by omega)] at h1
    exact h1

theorem lt_all {l : List (Ty.den tGateTeam)} (hl : l.length ≤ 1048576) (h : ∀ j, j < l.length → badTeam l j = false) : ∀ (d j : Nat) (hj : j + d + 1 < l.length), slt (l[j]).1 (l[j + d + 1]).1 = true := by
  intro d
  induction d with
  | zero => intro j hj; exact good_lt hl hj (h _ hj)
  | succ d ih =>
    intro j hj
    exact slt_trans (ih j (by omega)) (good_lt hl (i := j + d + 1) hj (h _ hj))

theorem find_self {l : List (Ty.den tGateTeam)} (hl : l.length ≤ 1048576) (h : ∀ j, j < l.length → badTeam l j = false) {i : Nat} (hi : i < l.length) : l.findIdx? (fun t : Ty.den tGateTeam => seq t.1 (l[i]).1) = some i := by
  rw [List.findIdx?_eq_some_iff_getElem]
  refine ⟨hi, seq_refl _, fun j hj => ?_⟩
  obtain ⟨d, rfl⟩ : ∃ d, i = j + d + 1 := ⟨i - j - 1, by omega⟩
  have := slt_not_seq (lt_all hl h d j hi)
  simp [this]

theorem deep_eq {l : List (Ty.den tGateTeam)} (hl : l.length ≤ 1048576) (h : ∀ j, j < l.length → badTeam l j = false) {i : Nat} (hi : i < l.length) : deepTeam l i = !seq (upBy l 4 (l[i]).2.1) ⟨#[]⟩ := by
  unfold deepTeam
  rw [getD_nat _ _ _ hi]
  have hne : seq (l[i]).1 ⟨#[]⟩ = false := by
    cases hs : seq (l[i]).1 ⟨#[]⟩ with
    | false => rfl
    | true =>
      exfalso
      have h1 := good_name hi (h i hi)
      unfold nameOkD at h1
      simp only [Bool.and_eq_true, decide_eq_true_eq] at h1
      have h2 := seq_iff.1 hs
      have : (l[i]).1.size = 0 := by rw [h2]; rfl
      have := h1.1.1
      omega
  have ho : overOf l (l[i]).1 = (l[i]).2.1 := by simp [overOf, find_self hl h hi, hi]
  show (!seq (if seq (l[i]).1 ⟨#[]⟩ = true then (l[i]).1 else upBy l 4 (overOf l (l[i]).1)) ⟨#[]⟩) = _
  rw [if_neg (by simp [hne]), ho]

theorem fidx_neg {X : Type} (p : X → Bool) (l : List X) : decide (fidx p l < (0 : Int)) = !(l.findIdx? p).isSome := by
  cases h : l.findIdx? p with
  | none => simp [fidx_none h]
  | some i => simp [fidx_some h]

include hn in
theorem implUp_ok (l : List (Ty.den tGateTeam)) (hl : l.length ≤ 1048576) (hg : ∀ j, j < l.length → badTeam l j = false) (i len : Int) (l2 : List (Ty.den tGateTeam)) {Q : Type} (cs : Conts Q impl_GateTeamsOk.l14.outs) : ∀ (d s k : Nat) (a : ByteArray), s + d = 4 → d + 1 < k →
    (seq a ⟨#[]⟩ = true ∨ (l.findIdx? (fun t : Ty.den tGateTeam => seq t.1 a)).isSome = true) →
    runL (impl_GateTeamsOk.B14 n) cs k (l, (s : Int), a, l2, len, i, ()) = if (!seq (upBy l d a) ⟨#[]⟩) = true then cs.1 (false, ()) else cs.2.1 (l, l2, len, i, ()) := by
  intro d
  induction d with
  | zero =>
    intro s k a hs hk ha
    rw [runL_pos _ _ (by omega)]
    have : s = 4 := by omega
    subst this
    simp only [impl_GateTeamsOk.B14]
    rw [show upBy l 0 a = a from rfl]
    rcases Bool.eq_false_or_eq_true (seq a ⟨#[]⟩) with hse | hse
    · rw [if_neg (by simp [hse]), if_neg (by simp [hse])]
    · rw [if_pos (by simp [hse]), if_pos (by rfl), if_pos (by simp [hse])]
  | succ d ih =>
    intro s k a hs hk ha
    rw [runL_pos _ _ (by omega)]
    simp only [impl_GateTeamsOk.B14]
    rw [show upBy l (d + 1) a = if seq a ⟨#[]⟩ = true then a else upBy l d (overOf l a) from rfl]
    rcases Bool.eq_false_or_eq_true (seq a ⟨#[]⟩) with hse | hse
    · rw [if_neg (by simp [hse]), if_pos hse, if_neg (by simp [hse])]
    · rw [hse] at ha
      have ha := ha.resolve_left (by simp)
      obtain ⟨j, hj⟩ := Option.isSome_iff_exists.1 ha
      have hjl := findIdx?_lt hj
      have ho : overOf l a = (l[j]).2.1 := by simp [overOf, hj, hjl]
      have h1 : decide (IntKind.i64.wrap ((s : Int) + 1) > (4 : Int)) = false := by
        rw [wrap_eq (by omega) (by omega)]
        exact decide_eq_false (by omega)
      rw [if_pos (by simp [hse]), if_neg (c := seq a ⟨#[]⟩ = true) (by simp [hse])]
      simp only [h1, Bool.false_eq_true, if_false, if_true, teamOf_ok hn l hl, Option.bind_some, fidx_some hj, in_dec hjl, getD_nat _ _ _ hjl]
      rw [wrap_eq (by omega) (by omega), ← ho]
      refine ih (s + 1) (k - 1) _ (by omega) (by omega) ?_
      rw [ho]
      exact good_over hjl (hg j hjl)

include hn in
theorem implTeams_ok (l : List (Ty.den tGateTeam)) (hs : small 1048576 (.slice tGateTeam) l) : impl_GateTeamsOk.f n (l, ()) = some (teamsOkD l, ()) := by
  have hn' : 18446744073709551616 ≤ n := hn
  have hl : l.length ≤ 1048576 := hs.1
  unfold impl_GateTeamsOk.f teamsOkD
  split
  · rfl
  · refine (runL_any (len := l.length) (fun i => (l, l, (l.length : Int), (i : Int), ())) (badTeam l) (some (false, ())) (runL (impl_GateTeamsOk.B10 n) ((fun z8 => some (z8.1, ())), (fun z9 => some (true, ())), ()) n (l, l, (List.length l : Int), ((0 : Nat) : Int), ())) ?_ ?_ (by omega)).trans ?_
    · intro next i hi
      simp only [impl_GateTeamsOk.B4, lt_dec hi, in_dec hi, wrap_next hi hl, if_true, implName_ok hn _ (small_at hs _).1, Option.bind_some, pred_dec' hi hl, teamOf_ok hn l hl, guarded]
      have key : (((!nameOkD (List.getD l (Int.toNat (i : Int)) (Ty.zero tGateTeam)).1) || ((decide ((i : Int) > (0 : Int))) && (!slt (List.getD l (Int.toNat (IntKind.i64.wrap ((i : Int) - (1 : Int)))) (Ty.zero tGateTeam)).1 (List.getD l (Int.toNat (i : Int)) (Ty.zero tGateTeam)).1))) || ((!seq (List.getD l (Int.toNat (i : Int)) (Ty.zero tGateTeam)).2.1 (⟨#[]⟩ : ByteArray)) && (decide ((if ((!((!nameOkD (List.getD l (Int.toNat (i : Int)) (Ty.zero tGateTeam)).1) || ((decide ((i : Int) > (0 : Int))) && (!slt (List.getD l (Int.toNat (IntKind.i64.wrap ((i : Int) - (1 : Int)))) (Ty.zero tGateTeam)).1 (List.getD l (Int.toNat (i : Int)) (Ty.zero tGateTeam)).1)))) && (!seq (List.getD l (Int.toNat (i : Int)) (Ty.zero tGateTeam)).2.1 (⟨#[]⟩ : ByteArray))) = true then ((fidx (fun t : Ty.den tGateTeam => seq t.1 (List.getD l (Int.toNat (i : Int)) (Ty.zero tGateTeam)).2.1) l : Int), ()) else ((0 : Int), ())).1 < (0 : Int))))) = badTeam l i := by
        unfold badTeam
        rw [← fidx_neg]
        cases ((!nameOkD (List.getD l (Int.toNat (i : Int)) (Ty.zero tGateTeam)).1) || ((decide ((i : Int) > (0 : Int))) && (!slt (List.getD l (Int.toNat (IntKind.i64.wrap ((i : Int) - (1 : Int)))) (Ty.zero tGateTeam)).1 (List.getD l (Int.toNat (i : Int)) (Ty.zero tGateTeam)).1))) <;> cases seq (List.getD l (Int.toNat (i : Int)) (Ty.zero tGateTeam)).2.1 (⟨#[]⟩ : ByteArray) <;> rfl
      exact congrArg (fun b : Bool => if b = true then some (false, ()) else next (l, l, (l.length : Int), ((i + 1 : Nat) : Int), ())) key
    · intro next
      simp only [impl_GateTeamsOk.B4, lt_dec', Bool.false_eq_true, if_false]
      rfl
    · cases hb : (List.range l.length).any (badTeam l) with
      | true =>
        have : (List.range l.length).any (fun i => badTeam l i || deepTeam l i) = true := by
          obtain ⟨i, hi, h⟩ := List.any_eq_true.1 hb
          exact List.any_eq_true.2 ⟨i, hi, by simp [h]⟩
        simp [this]
      | false =>
        have hg : ∀ j, j < l.length → badTeam l j = false := fun j hj => by
          rw [List.any_eq_false] at hb
          have := hb j (List.mem_range.2 hj)
          simpa using this
        have hany : (List.range l.length).any (fun i => badTeam l i || deepTeam l i) = (List.range l.length).any (fun i => deepTeam l i) := by
          rw [Bool.eq_iff_iff, List.any_eq_true, List.any_eq_true]
          constructor
          · rintro ⟨i, hi, h⟩
            rw [hg i (List.mem_range.1 hi)] at h
            exact ⟨i, hi, by simpa using h⟩
          · rintro ⟨i, hi, h⟩
            exact ⟨i, hi, by simp [h]⟩
        rw [hany]
        simp only [Bool.false_eq_true, if_false]
        refine (runL_any (len := l.length) (fun i => (l, l, (l.length : Int), (i : Int), ())) (deepTeam l) (some (false, ())) (some (true, ())) ?_ ?_ (by omega)).trans (by cases (List.range l.length).any (deepTeam l) <;> rfl)
        · intro next i hi
          simp only [impl_GateTeamsOk.B10, lt_dec hi, in_dec hi, if_true, getD_nat _ _ _ hi]
          rw [show (0 : Int) = ((0 : Nat) : Int) from rfl, implUp_ok hn l hl hg _ _ _ _ 4 0 n _ (by omega) (by omega) (good_over hi (hg i hi)), deep_eq hl hg hi]
          simp only [wrap_next hi hl]
        · intro next
          simp only [impl_GateTeamsOk.B10, lt_dec', Bool.false_eq_true, if_false]
end

/-! ### rules -/
section
variable {n : Nat} (hn : Big n)

theorem gGetD_lt {X : Type} (l : List X) (i : Nat) (z : X) (h : i < l.length) : l.getD i z = l[i] := by simp [h]
theorem gPred_wrap {i : Nat} (h : 0 < i) (hi : i ≤ 1048576) : IntKind.i64.wrap ((i : Int) - 1) = ((i - 1 : Nat) : Int) := by
  rw [wrap_eq (by omega) (by omega)]; omega
theorem gPred_in {i len : Nat} (h : 0 < i) (hi : i < len) : decide (0 ≤ ((i - 1 : Nat) : Int) ∧ ((i - 1 : Nat) : Int) < (len : Int)) = true := decide_eq_true (by omega)

def gIn (a lo hi : Int) : Bool := (decide (a ≥ lo)) && (decide (a ≤ hi))
theorem specGIn_ok (x : Tup [.int .i64, .int .i64, .int .i64]) : spec_l1In.f n x = some (gIn x.1 x.2.1 x.2.2.1, ()) := rfl
theorem gIn_not (a lo hi : Int) : ((decide (a < lo)) || (decide (a > hi))) = !gIn a lo hi := by
  unfold gIn
  rw [Bool.not_and, Bool.eq_iff_iff]
  simp only [Bool.or_eq_true, decide_eq_true_eq, Bool.not_eq_true', decide_eq_false_iff_not]
  omega

def badVerb (l : List Int) (i : Nat) : Bool := (!gIn (List.getD l i 0) 1 5) || (decide (0 < i) && decide (List.getD l (i - 1) 0 ≥ List.getD l i 0))
def emptyOr (s : ByteArray) : Bool := seq s ⟨#[]⟩ || nameOkD s
def ruleOkD (r : Ty.den tGateRule) : Bool :=
  !((List.length r.1 : Int) == (0 : Int)) && !(decide ((ByteArray.size r.2.2.2.1 : Int) > (16 : Int))) && emptyOr r.2.1 && emptyOr r.2.2.1 && !(List.range (List.length r.1)).any (badVerb r.1) && bytesOkD r.2.2.2.1

include hn in
theorem specRule_ok (r : Ty.den tGateRule) (hs : small 1048576 tGateRule r) : spec_l4RuleOk.f n (r, ()) = some (ruleOkD r, ()) := by
  have hn' : 18446744073709551616 ≤ n := hn
  have hl : List.length r.1 ≤ 1048576 := hs.1.1
  have hl4 : ByteArray.size r.2.2.2.1 ≤ 1048576 := hs.2.2.2.1
  unfold spec_l4RuleOk.f ruleOkD emptyOr
  simp only [specName_ok hn r.2.1 hs.2.1, specName_ok hn r.2.2.1 hs.2.2.1, Option.bind_some]
  rcases Bool.eq_false_or_eq_true ((List.length r.1 : Int) == (0 : Int)) with c1 | c1
  · simp only [c1]; rfl
  rcases Bool.eq_false_or_eq_true (decide ((ByteArray.size r.2.2.2.1 : Int) > (16 : Int))) with c2 | c2
  · simp only [c1, c2]; rfl
  rcases Bool.eq_false_or_eq_true (seq r.2.1 ⟨#[]⟩ || nameOkD r.2.1) with c3 | c3
  rotate_left
  · rw [Bool.or_eq_false_iff] at c3
    simp [c1, c2, c3.1, c3.2, tzero]
  rcases Bool.eq_false_or_eq_true (seq r.2.2.1 ⟨#[]⟩ || nameOkD r.2.2.1) with c4 | c4
  rotate_left
  · rw [Bool.or_eq_false_iff] at c4
    rcases Bool.eq_false_or_eq_true (seq r.2.1 ⟨#[]⟩) with c5 | c5
    · simp [c1, c2, c4.1, c4.2, c5, tzero]
    · rw [c5, Bool.false_or] at c3
      simp [c1, c2, c4.1, c4.2, c5, c3, tzero]
  have key : ∀ {R : Type} (a b : R), (if (((((List.length r.1 : Int) == (0 : Int)) || (decide ((ByteArray.size r.2.2.2.1 : Int) > (16 : Int)))) || ((!seq r.2.1 (⟨#[]⟩ : ByteArray)) && (!nameOkD r.2.1))) || ((!seq r.2.2.1 (⟨#[]⟩ : ByteArray)) && (!nameOkD r.2.2.1))) = true then a else b) = b := by
    intro R a b
    rw [c1, c2, ← Bool.not_or, ← Bool.not_or, c3, c4]
    rfl
  have tail : (runL (spec_l4RuleOk.B4 n) ((fun z4 => some (z4.1, ())), (fun z5 => runL (spec_l4RuleOk.B9 n) ((fun z7 => some (z7.1, ())), (fun z8 => some (true, ())), ()) n (z5.1, (0 : Int), ())), ()) n (r, (0 : Int), ()) : Option (Tup [.bool])) = some (!(List.range (List.length r.1)).any (badVerb r.1) && bytesOkD r.2.2.2.1, ()) := by
    refine (runL_any (len := List.length r.1) (fun i => (r, (i : Int), ())) (badVerb r.1) (some (false, ())) (some (bytesOkD r.2.2.2.1, ())) ?_ ?_ (by omega)).trans ?_
    · intro next i hi
      simp only [spec_l4RuleOk.B4, specGIn_ok, lt_dec hi, in_dec hi, Option.bind_some, Bool.or_true, if_true, Int.toNat_natCast, badVerb, wrap_next hi hl]
      by_cases h0 : 0 < i
      · have e : decide ((i : Int) > 0) = true := decide_eq_true (by omega)
        simp only [e, decide_eq_true h0, gPred_wrap h0 (by omega), gPred_in h0 hi, Int.toNat_natCast, Bool.or_true, if_true, Bool.true_and]
        try rfl
      · have e : decide ((i : Int) > 0) = false := decide_eq_false (by omega)
        simp only [e, decide_eq_false h0, Bool.and_false, Bool.not_false, Bool.true_or, if_true, Bool.false_and]
        try rfl
    · intro next
      simp only [spec_l4RuleOk.B4, lt_dec', Bool.false_eq_true, if_false]
      refine (runL_any (len := ByteArray.size r.2.2.2.1) (fun i => (r, (i : Int), ())) (badByte r.2.2.2.1) (some (false, ())) (some (true, ())) ?_ ?_ (by omega)).trans (by unfold bytesOkD; cases (List.range (ByteArray.size r.2.2.2.1)).any (badByte r.2.2.2.1) <;> rfl)
      · intro next2 i hi
        simp only [spec_l4RuleOk.B9, spec_l1Byte.f, lt_dec hi, in_dec hi, wrap_next hi hl4, Option.bind_some, Bool.or_true, if_true, badByte]
        rfl
      · intro next2
        simp only [spec_l4RuleOk.B9, lt_dec', Bool.false_eq_true, if_false]
    · cases (List.range (List.length r.1)).any (badVerb r.1) <;> simp
  rw [c1, c2, c3, c4]
  simp only [Bool.not_false, Bool.true_and]
  rw [← tail]
  rcases Bool.eq_false_or_eq_true (seq r.2.1 ⟨#[]⟩) with c5 | c5 <;> rcases Bool.eq_false_or_eq_true (seq r.2.2.1 ⟨#[]⟩) with c6 | c6
  · simp [c5, c6, tzero]
  · rw [c6, Bool.false_or] at c4
    simp [c5, c6, c4, tzero]
  · rw [c5, Bool.false_or] at c3
    simp [c5, c6, c3, tzero]
  · rw [c6, Bool.false_or] at c4
    rw [c5, Bool.false_or] at c3
    simp [c5, c6, c3, c4, tzero]
end

/-! ### the house's rules -/
section
variable {n : Nat} (hn : Big n)

include hn in
theorem implLetters_ok (s : ByteArray) (hl : s.size ≤ 1048576) : impl_hwLetters.f n (s, ()) = some (bytesOkD s, ()) := by
  have hn' : 18446744073709551616 ≤ n := hn
  unfold impl_hwLetters.f bytesOkD
  refine (runL_any (len := s.size) (fun i => (s, (s.size : Int), (i : Int), ())) (badByte s) (some (false, ())) (some (true, ())) ?_ ?_ (by omega)).trans (by cases (List.range s.size).any (badByte s) <;> rfl)
  · intro next i hi
    have e : ((((decide ((byteAt s (i : Int)) < (97 : Int))) || (decide ((byteAt s (i : Int)) > (122 : Int)))) && ((decide ((byteAt s (i : Int)) < (48 : Int))) || (decide ((byteAt s (i : Int)) > (57 : Int))))) && ((byteAt s (i : Int)) != (45 : Int))) = badByte s i := by
      unfold badByte
      rw [Bool.eq_iff_iff]
      simp only [Bool.and_eq_true, Bool.or_eq_true, decide_eq_true_eq, bne_iff_ne, ne_eq, Bool.not_eq_true', Bool.or_eq_false_iff, Bool.and_eq_false_iff, decide_eq_false_iff_not, beq_eq_false_iff_ne]
      omega
    simp only [impl_hwLetters.B2, lt_dec hi, in_dec hi, wrap_next hi hl, if_true]
    rw [show ((((decide ((byteAt s (i : Int)) < (97 : Int))) || (decide ((byteAt s (i : Int)) > (122 : Int)))) && ((decide ((byteAt s (i : Int)) < (48 : Int))) || (decide ((byteAt s (i : Int)) > (57 : Int))))) && ((byteAt s (i : Int)) != (45 : Int))) = badByte s i from e]
  · intro next
    simp only [impl_hwLetters.B2, lt_dec', Bool.false_eq_true, if_false]

include hn in
theorem implHwName_ok (s : ByteArray) (hl : s.size ≤ 1048576) : impl_hwName.f n (s, ()) = some (nameOkD s, ()) := by
  unfold impl_hwName.f nameOkD
  simp only [implLetters_ok hn s hl, Option.bind_some]
  cases h1 : ((decide ((ByteArray.size s : Int) ≥ (1 : Int))) && (decide ((ByteArray.size s : Int) ≤ (16 : Int)))) with
  | false => rfl
  | true => rfl

include hn in
theorem implHwRule_ok (r : Ty.den tGateRule) (hs : small 1048576 tGateRule r) : impl_hwRuleOk.f n (r, ()) = some (ruleOkD r, ()) := by
  have hn' : 18446744073709551616 ≤ n := hn
  have hl : List.length r.1 ≤ 1048576 := hs.1.1
  unfold impl_hwRuleOk.f ruleOkD emptyOr
  simp only [implLetters_ok hn r.2.2.2.1 hs.2.2.2.1, Option.bind_some]
  rcases Bool.eq_false_or_eq_true ((List.length r.1 : Int) == (0 : Int)) with c1 | c1
  · simp only [c1]; rfl
  rcases Bool.eq_false_or_eq_true (decide ((ByteArray.size r.2.2.2.1 : Int) > (16 : Int))) with c2 | c2
  · simp only [c1, c2]; rfl
  rcases Bool.eq_false_or_eq_true (bytesOkD r.2.2.2.1) with c3 | c3
  rotate_left
  · simp [c1, c2, c3, tzero]
  simp only [c1, c2, c3, Bool.not_false, Bool.not_true, Bool.or_false, Bool.or_self, if_true, Option.bind_some, Bool.false_eq_true, if_false, Bool.true_and, Bool.and_true]
  refine (runL_any (len := List.length r.1) (fun i => (r, r.1, (List.length r.1 : Int), (i : Int), ())) (badVerb r.1) (some (false, ())) (some ((seq r.2.1 ⟨#[]⟩ || nameOkD r.2.1) && (seq r.2.2.1 ⟨#[]⟩ || nameOkD r.2.2.1), ())) ?_ ?_ (by omega)).trans ?_
  · intro next i hi
    simp only [impl_hwRuleOk.B4, lt_dec hi, in_dec hi, Bool.or_true, if_true, Int.toNat_natCast, badVerb, wrap_next hi hl, gIn_not]
    by_cases h0 : 0 < i
    · have e : decide ((i : Int) > 0) = true := decide_eq_true (by omega)
      simp only [e, decide_eq_true h0, gPred_wrap h0 (by omega), gPred_in h0 hi, Int.toNat_natCast, Bool.or_true, if_true, Bool.true_and]
      try rfl
    · have e : decide ((i : Int) > 0) = false := decide_eq_false (by omega)
      simp only [e, decide_eq_false h0, Bool.and_false, Bool.not_false, Bool.true_or, if_true, Bool.false_and]
      try rfl
  · intro next
    simp only [impl_hwRuleOk.B4, lt_dec', Bool.false_eq_true, if_false, implHwName_ok hn r.2.1 hs.2.1, implHwName_ok hn r.2.2.1 hs.2.2.1]
    rcases Bool.eq_false_or_eq_true (seq r.2.1 ⟨#[]⟩) with c5 | c5 <;> rcases Bool.eq_false_or_eq_true (seq r.2.2.1 ⟨#[]⟩) with c6 | c6 <;> cases nameOkD r.2.1 <;> cases nameOkD r.2.2.1 <;> simp [c5, c6, tzero]
  · cases (List.range (List.length r.1)).any (badVerb r.1) <;> simp
end

section
variable {n : Nat} (hn : Big n)
def grantAt (h : Ty.den tHallHouse) (i : Nat) : Ty.den tGateGrant := List.getD h.2.1 i (Ty.zero tGateGrant)
def badGrant (h : Ty.den tHallHouse) (i : Nat) : Bool := ((((grantAt h i).1 != ((i + 1 : Nat) : Int)) || (!nameOkD (grantAt h i).2.1)) || (!seq (grantAt h i).2.2.1 (⟨#[]⟩ : ByteArray))) || (!ruleOkD (grantAt h i).2.2.2.1)
def houseD (h : Ty.den tHallHouse) : Bool := teamsOkD h.1 && decide ((List.length h.2.1 : Int) ≤ 24) && !(List.range (List.length h.2.1)).any (badGrant h)

include hn in
theorem specHouse_ok (h : Ty.den tHallHouse) (hs : small 1048576 tHallHouse h) : spec_HallHouseOk.f n (h, ()) = some (houseD h, ()) := by
  have hn' : 18446744073709551616 ≤ n := hn
  have hl : List.length h.2.1 ≤ 1048576 := hs.2.1.1
  unfold spec_HallHouseOk.f houseD
  simp only [specTeams_ok hn h.1 hs.1, Option.bind_some]
  rcases Bool.eq_false_or_eq_true (teamsOkD h.1) with c1 | c1
  rotate_left
  · simp [c1]
  by_cases c2 : (List.length h.2.1 : Int) ≤ 24
  rotate_left
  · have e : decide ((List.length h.2.1 : Int) > 24) = true := decide_eq_true (by omega)
    simp [c1, e, decide_eq_false c2]
  have e2 : decide ((List.length h.2.1 : Int) > 24) = false := decide_eq_false (by omega)
  simp only [c1, e2, decide_eq_true c2, Bool.not_true, Bool.or_false, Bool.false_eq_true, if_false, Bool.true_and]
  refine (runL_any (len := List.length h.2.1) (fun i => (h, (i : Int), ())) (badGrant h) (some (false, ())) (some (true, ())) ?_ ?_ (by omega)).trans ?_
  · intro next i hi
    have he : small 1048576 tGateGrant (grantAt h i) := by
      unfold grantAt
      rw [gGetD_lt _ _ _ hi]
      exact hs.2.1.2 _ (List.getElem_mem hi)
    simp only [spec_HallHouseOk.B4, lt_dec hi, in_dec hi, if_true, Int.toNat_natCast, wrap_next hi hl]
    simp only [show ∀ k, List.getD h.2.1 k (Ty.zero tGateGrant) = grantAt h k from fun _ => rfl, specName_ok hn _ he.2.1, specRule_ok hn _ he.2.2.2.1, badGrant]
    rcases Bool.eq_false_or_eq_true ((grantAt h i).1 != ((i + 1 : Nat) : Int)) with d1 | d1
    · simp only [d1, tzero, Bool.not_true, Bool.not_false, Bool.true_or, Bool.false_eq_true, if_false, if_true, Option.bind_some]
    rcases Bool.eq_false_or_eq_true (nameOkD (grantAt h i).2.1) with d2 | d2
    rotate_left
    · simp only [d1, d2, tzero, Bool.not_true, Bool.not_false, Bool.true_or, Bool.or_true, Bool.false_or, Bool.false_eq_true, if_false, if_true, Option.bind_some]
    rcases Bool.eq_false_or_eq_true (seq (grantAt h i).2.2.1 ⟨#[]⟩) with d3 | d3
    · simp only [d1, d2, d3, tzero, Bool.not_true, Bool.not_false, Bool.true_or, Bool.or_true, Bool.false_or, Bool.or_false, Bool.false_eq_true, if_false, if_true, Option.bind_some]
    · simp only [d1, d2, d3, tzero, Bool.not_true, Bool.not_false, Bool.true_or, Bool.or_true, Bool.false_or, Bool.or_false, Bool.false_eq_true, if_false, if_true, Option.bind_some]
  · intro next
    simp only [spec_HallHouseOk.B4, lt_dec', Bool.false_eq_true, if_false]
  · cases (List.range (List.length h.2.1)).any (badGrant h) <;> simp

include hn in
theorem implHouse_ok (h : Ty.den tHallHouse) (hs : small 1048576 tHallHouse h) : impl_HallHouseOk.f n (h, ()) = some (houseD h, ()) := by
  have hn' : 18446744073709551616 ≤ n := hn
  have hl : List.length h.2.1 ≤ 1048576 := hs.2.1.1
  unfold impl_HallHouseOk.f houseD
  simp only [implTeams_ok hn h.1 hs.1, Option.bind_some]
  rcases Bool.eq_false_or_eq_true (teamsOkD h.1) with c1 | c1
  rotate_left
  · simp [c1]
  by_cases c2 : (List.length h.2.1 : Int) ≤ 24
  rotate_left
  · have e : decide ((List.length h.2.1 : Int) > 24) = true := decide_eq_true (by omega)
    simp [c1, e, decide_eq_false c2]
  have e2 : decide ((List.length h.2.1 : Int) > 24) = false := decide_eq_false (by omega)
  simp only [c1, e2, decide_eq_true c2, Bool.not_true, Bool.or_false, Bool.false_eq_true, if_false, Bool.true_and]
  refine (runL_any (len := List.length h.2.1) (fun i => (h.2.1, (List.length h.2.1 : Int), (i : Int), ())) (badGrant h) (some (false, ())) (some (true, ())) ?_ ?_ (by omega)).trans ?_
  · intro next i hi
    have he : small 1048576 tGateGrant (grantAt h i) := by
      unfold grantAt
      rw [gGetD_lt _ _ _ hi]
      exact hs.2.1.2 _ (List.getElem_mem hi)
    simp only [impl_HallHouseOk.B4, lt_dec hi, in_dec hi, if_true, Int.toNat_natCast, wrap_next hi hl]
    simp only [show ∀ k, List.getD h.2.1 k (Ty.zero tGateGrant) = grantAt h k from fun _ => rfl, implHwName_ok hn _ he.2.1, implHwRule_ok hn _ he.2.2.2.1, badGrant]
    rcases Bool.eq_false_or_eq_true ((grantAt h i).1 != ((i + 1 : Nat) : Int)) with d1 | d1
    · simp only [d1, tzero, Bool.not_true, Bool.not_false, Bool.true_or, Bool.false_eq_true, if_false, if_true, Option.bind_some]
    rcases Bool.eq_false_or_eq_true (nameOkD (grantAt h i).2.1) with d2 | d2
    rotate_left
    · simp only [d1, d2, tzero, Bool.not_true, Bool.not_false, Bool.true_or, Bool.or_true, Bool.false_or, Bool.false_eq_true, if_false, if_true, Option.bind_some]
    rcases Bool.eq_false_or_eq_true (seq (grantAt h i).2.2.1 ⟨#[]⟩) with d3 | d3
    · simp only [d1, d2, d3, tzero, Bool.not_true, Bool.not_false, Bool.true_or, Bool.or_true, Bool.false_or, Bool.or_false, Bool.false_eq_true, if_false, if_true, Option.bind_some]
    · simp only [d1, d2, d3, tzero, Bool.not_true, Bool.not_false, Bool.true_or, Bool.or_true, Bool.false_or, Bool.or_false, Bool.false_eq_true, if_false, if_true, Option.bind_some]
  · intro next
    simp only [impl_HallHouseOk.B4, lt_dec', Bool.false_eq_true, if_false]
  · cases (List.range (List.length h.2.1)).any (badGrant h) <;> simp
end

section
variable {n : Nat} (hn : Big n)

theorem appB {m k c : Nat} (h : (m + k) * c ≤ 140737488355328) : appBound m k c = true := by
  unfold appBound
  rw [Nat.ble_eq]
  exact h

theorem set_getD {α : Type} (l : List α) (i : Nat) (hi : i < l.length) (z : α) : l.set i (l.getD i z) = l := by
  rw [gGetD_lt _ _ _ hi]
  exact List.set_getElem_self hi

theorem specRuleCopy_ok (r : Ty.den tGateRule) (hs : small 1048576 tGateRule r) : spec_l5Rule.f n (r, ()) = some (r, ()) := by
  have hl : List.length r.1 ≤ 1048576 := hs.1.1
  unfold spec_l5Rule.f
  rw [if_pos (appB (by simp only [List.length_nil]; omega))]
  rfl

theorem cloneInt_ok (l : List Int) (h : l.length ≤ 1048576) : slices_Clone_int_int.f n (l, ()) = some (l, ()) := by
  unfold slices_Clone_int_int.f
  rw [if_pos (appB (by simp only [List.length_nil]; omega))]
  rfl

include hn in
theorem hwGrants_ok (l : List (Ty.den tGateGrant)) (hs : small 1048576 (.slice tGateGrant) l) : impl_hwGrants.f n (l, ()) = some (l, ()) := by
  have hn' : 18446744073709551616 ≤ n := hn
  have hl : l.length ≤ 1048576 := hs.1
  have e : slices_Clone_impl_GateGrant_impl_GateGrant.f n l () = some (l, ()) := by
    unfold slices_Clone_impl_GateGrant_impl_GateGrant.f
    rw [if_pos (appB (by simp only [List.length_nil]; omega))]
    rfl
  unfold impl_hwGrants.f
  simp only [e, Option.bind_some]
  refine (runL_any (len := l.length) (fun i => ((l, i), (l.length : Int), (i : Int), ())) (fun _ => false) none (some (l, ())) ?_ ?_ (by omega)).trans ?_
  · intro next i hi
    have he : small 1048576 tGateGrant (l.getD i (Ty.zero tGateGrant)) := by
      rw [gGetD_lt _ _ _ hi]
      exact hs.2 _ (List.getElem_mem hi)
    have e2 := cloneInt_ok (n := n) (l.getD i (Ty.zero tGateGrant)).2.2.2.1.1 he.2.2.2.1.1.1
    simp only [impl_hwGrants.B3, lt_dec hi, in_dec hi, if_true, Int.toNat_natCast, wrap_next hi hl]
    rw [if_pos (by rw [Nat.ble_eq]; exact Nat.le_refl i), e2, Option.bind_some, if_pos (Nat.beq_refl i), if_neg (by decide)]
    have e3 := set_getD l i hi (Ty.zero tGateGrant)
    exact congrArg (fun z => next ((z, i + 1), (l.length : Int), ((i + 1 : Nat) : Int), ())) e3
  · intro next
    simp only [impl_hwGrants.B3, lt_dec', Bool.false_eq_true, if_false]
    rw [if_pos (Nat.beq_refl _)]
  · have : (List.range l.length).any (fun _ => false) = false := by simp
    rw [this]
    rfl
end

def newD (ok : Bool) (a b : Int) : Ty.den tRecorder :=
  if ok = true then (a, b, true, ((0 : Int), (0 : Int), [], ()), ((0 : Int), (0 : Int), [], ()), [], [], false, false, (0 : Int), [], [], [], (0 : Int), ())
  else ((0 : Int), (0 : Int), false, ((0 : Int), (0 : Int), [], ()), ((0 : Int), (0 : Int), [], ()), [], [], false, false, (0 : Int), [], [], [], (0 : Int), ())

def newOk (a b : Int) : Bool := (decide (b ≥ 1) && decide (b ≤ 5)) && (decide (a ≥ 1) && decide (a ≤ b))

theorem specNew_ok (n : Nat) (a b : Int) : spec_RecNew.f n (a, b, ()) = some (newD (newOk a b) a b, ()) := by
  unfold spec_RecNew.f newD newOk
  simp only [spec_l21In.f, Option.bind_some]
  rcases Bool.eq_false_or_eq_true (decide (b ≥ 1) && decide (b ≤ 5)) with h | h <;> rcases Bool.eq_false_or_eq_true (decide (a ≥ 1) && decide (a ≤ b)) with h' | h' <;> simp only [h, h', Bool.not_true, Bool.not_false, if_true, Bool.false_eq_true, if_false, Option.bind_some, Bool.or_false, Bool.or_true, Bool.true_and, Bool.false_and, tzero, Ty.zero]

theorem implNew_ok (n : Nat) (a b : Int) : impl_RecNew.f n (a, b, ()) = some (newD (newOk a b) a b, ()) := by
  unfold impl_RecNew.f newD newOk
  simp only [impl_within_rec.f, Option.bind_some]
  rcases Bool.eq_false_or_eq_true (decide (b ≥ 1) && decide (b ≤ 5)) with h | h <;> rcases Bool.eq_false_or_eq_true (decide (a ≥ 1) && decide (a ≤ b)) with h' | h' <;> simp only [h, h', Bool.not_true, Bool.not_false, if_true, Bool.false_eq_true, if_false, Option.bind_some, Bool.or_false, Bool.or_true, Bool.true_and, Bool.false_and, tzero, Ty.zero]

theorem newD_small (ok : Bool) (a b : Int) : small 1048576 tRecorder (newD ok a b) ∧ (wt tRecorder (newD ok a b) : Int) ≤ 100 := by
  cases ok
  · have h0 : bulk tRecorder (newD false a b) = 0 := by kernel_rfl
    have h1 : wt tRecorder (newD false a b) = 11 := by kernel_rfl
    exact ⟨small_of_bulk (by omega), by omega⟩
  · have h0 : bulk tRecorder (newD true a b) = 0 := by kernel_rfl
    have h1 : wt tRecorder (newD true a b) = 11 := by kernel_rfl
    exact ⟨small_of_bulk (by omega), by omega⟩


section
variable {n : Nat} (hn : Big n)

def oneD (k i : Nat) : Ty.den tRecorder := newD (newOk ((i + 1 : Nat) : Int) (k : Int)) ((i + 1 : Nat) : Int) (k : Int)
def worldL (k : Nat) : List (Ty.den tRecorder) := (List.range k).map (oneD k)
def worldD (k : Nat) : Ty.den tRecWorld := (worldL k, [], [], ())

theorem fold_app' {α : Type} (f : Nat → α) : ∀ (k : Nat) (a : List α), (List.range k).foldl (fun a i => a ++ [f i]) a = a ++ (List.range k).map f
  | 0, a => by simp
  | k + 1, a => by
    rw [List.range_succ, List.foldl_append, fold_app' f k a]
    simp

theorem app248 {α : Type} {m : Nat} {x : α} (h : m ≤ 10) : appBound m (List.length [x]) 248 = true := by
  unfold appBound
  rw [Nat.ble_eq]
  simp only [List.length_cons, List.length_nil]
  omega

theorem wrap_next' {i k : Nat} (hi : i < k) (hk : k ≤ 5) : IntKind.i64.wrap (((i + 1 : Nat) : Int) + 1) = ((i + 1 + 1 : Nat) : Int) := by
  rw [wrap_eq (by omega) (by omega)]
  omega

include hn in
theorem specWorld_run (k : Nat) (hk : k ≤ 5) : runL (spec_RecNewWorld.B5 n) ((fun z3 => some ((z3.2.1.1, z3.2.1.2.1, z3.2.1.2.2.1, ()), ())), ()) n ((k : Int), ([], [], [], ()), ([], [], [], ()), (1 : Int), ()) = some (worldD k, ()) := by
  have hn' : 18446744073709551616 ≤ n := hn
  refine (runL_fold (len := k) (fun i (o : List (Ty.den tRecorder)) => ((k : Int), ([], [], [], ()), (o, [], [], ()), ((i + 1 : Nat) : Int), ())) (fun i o => o.length = i) (fun i o => o ++ [oneD k i]) (fun o => some ((o, [], [], ()), ())) ?_ ?_ (by omega) rfl).trans ?_
  · intro next i o hi ho
    refine ⟨by simp [ho], ?_⟩
    have e : spec_RecNew.f n (((i + 1 : Nat) : Int), (k : Int), ()) = _ := specNew_ok n _ _
    simp only [spec_RecNewWorld.B5]
    rw [if_pos (decide_eq_true (show ((i + 1 : Nat) : Int) ≤ (k : Int) by omega)), e, Option.bind_some, if_pos (app248 (by omega)), wrap_next' hi hk]
    rfl
  · intro next o _
    simp only [spec_RecNewWorld.B5]
    rw [if_neg (by rw [decide_eq_true_eq]; show ¬ (((k + 1 : Nat) : Int) ≤ (k : Int)); omega)]
  · rw [fold_app']
    rfl

include hn in
theorem implWorld_run (k : Nat) (hk : k ≤ 5) : runL (impl_RecNewWorld.B4 n) ((fun z3 => some ((z3.2.1.1, z3.2.1.2.1, z3.2.1.2.2.1, ()), ())), ()) n ((k : Int), ([], [], [], ()), ([], [], [], ()), (1 : Int), ()) = some (worldD k, ()) := by
  have hn' : 18446744073709551616 ≤ n := hn
  refine (runL_fold (len := k) (fun i (o : List (Ty.den tRecorder)) => ((k : Int), ([], [], [], ()), (o, [], [], ()), ((i + 1 : Nat) : Int), ())) (fun i o => o.length = i) (fun i o => o ++ [oneD k i]) (fun o => some ((o, [], [], ()), ())) ?_ ?_ (by omega) rfl).trans ?_
  · intro next i o hi ho
    refine ⟨by simp [ho], ?_⟩
    have e : impl_RecNew.f n (((i + 1 : Nat) : Int), (k : Int), ()) = _ := implNew_ok n _ _
    simp only [impl_RecNewWorld.B4]
    rw [if_pos (decide_eq_true (show ((i + 1 : Nat) : Int) ≤ (k : Int) by omega)), e, Option.bind_some, if_pos (app248 (by omega)), wrap_next' hi hk]
    rfl
  · intro next o _
    simp only [impl_RecNewWorld.B4]
    rw [if_neg (by rw [decide_eq_true_eq]; show ¬ (((k + 1 : Nat) : Int) ≤ (k : Int)); omega)]
  · rw [fold_app']
    rfl

def newWorldD (a : Int) : Ty.den tRecWorld := if ((decide (a ≥ 1)) && (decide (a ≤ 5))) = true then worldD a.toNat else ([], [], [], ())

include hn in
theorem specNewWorld_ok (a : Int) : spec_RecNewWorld.f n (a, ()) = some (newWorldD a, ()) := by
  unfold spec_RecNewWorld.f newWorldD
  simp only [spec_l21In.f, Option.bind_some]
  rcases Bool.eq_false_or_eq_true (decide (a ≥ 1) && decide (a ≤ 5)) with h | h
  · have h' := h
    rw [Bool.and_eq_true, decide_eq_true_eq, decide_eq_true_eq] at h'
    obtain ⟨k, rfl⟩ : ∃ k : Nat, a = (k : Int) := ⟨a.toNat, by omega⟩
    simp only [h, Bool.not_true, Bool.false_eq_true, if_false, if_true]
    exact specWorld_run hn k (by omega)
  · simp only [h, Bool.not_false, Bool.false_eq_true, if_false, if_true]

include hn in
theorem implNewWorld_ok (a : Int) : impl_RecNewWorld.f n (a, ()) = some (newWorldD a, ()) := by
  unfold impl_RecNewWorld.f newWorldD
  simp only [impl_within_rec.f, Option.bind_some]
  rcases Bool.eq_false_or_eq_true (decide (a ≥ 1) && decide (a ≤ 5)) with h | h
  · have h' := h
    rw [Bool.and_eq_true, decide_eq_true_eq, decide_eq_true_eq] at h'
    obtain ⟨k, rfl⟩ : ∃ k : Nat, a = (k : Int) := ⟨a.toNat, by omega⟩
    simp only [h, if_true]
    exact implWorld_run hn k (by omega)
  · simp only [h, Bool.false_eq_true, if_false]

theorem sum_le {α : Type} (f : α → Nat) (c : Nat) : ∀ (l : List α), (∀ x ∈ l, f x ≤ c) → (l.map f).sum ≤ c * l.length
  | [], _ => by simp
  | x :: l, h => by
    have h1 := h x (by simp)
    have h2 := sum_le f c l (fun y hy => h y (by simp [hy]))
    simp only [List.map_cons, List.sum_cons, List.length_cons]
    rw [Nat.mul_succ]
    omega

theorem worldL_mem {k : Nat} {x : Ty.den tRecorder} (h : x ∈ worldL k) : small 1048576 tRecorder x ∧ wt tRecorder x ≤ 100 := by
  simp only [worldL, List.mem_map] at h
  obtain ⟨i, _, rfl⟩ := h
  obtain ⟨h1, h2⟩ := newD_small (newOk ((i + 1 : Nat) : Int) (k : Int)) ((i + 1 : Nat) : Int) (k : Int)
  exact ⟨h1, by unfold oneD; omega⟩

theorem newWorld_small (a : Int) : small 1048576 tRecWorld (newWorldD a) ∧ (wt tRecWorld (newWorldD a) : Int) ≤ 1000 := by
  have key : ∀ l : List (Ty.den tRecorder), l.length ≤ 5 → (∀ x ∈ l, small 1048576 tRecorder x ∧ wt tRecorder x ≤ 100) → small 1048576 tRecWorld (l, [], [], ()) ∧ (wt tRecWorld (l, [], [], ()) : Int) ≤ 1000 := by
    intro l hl hx
    refine ⟨⟨⟨show l.length ≤ 1048576 by omega, fun x h => (hx x h).1⟩, ⟨by simp, fun x h => by cases h⟩, ⟨by simp, fun x h => by cases h⟩, trivial⟩, ?_⟩
    have h1 := sum_le (wt tRecorder) 100 l (fun x h => (hx x h).2)
    have e : wt tRecWorld (l, [], [], ()) = l.length + (l.map (wt tRecorder)).sum := by
      rw [wt_pair, wt_slice, wt_pair, wt_slice, wt_pair, wt_slice, wt_unit]
      simp
    omega
  unfold newWorldD
  rcases Bool.eq_false_or_eq_true (decide (a ≥ 1) && decide (a ≤ 5)) with h | h
  · rw [if_pos h]
    rw [Bool.and_eq_true, decide_eq_true_eq, decide_eq_true_eq] at h
    exact key _ (by simp only [worldL, List.length_map, List.length_range]; omega) (fun x hx => worldL_mem hx)
  · rw [if_neg (by rw [h]; decide)]
    exact key [] (by simp) (fun x h => by cases h)
end


section
variable {n : Nat} (hn : Big n)

theorem take_next' {α : Type} (l : List α) (i : Nat) (hi : i < l.length) : l.take i ++ [l[i]] = l.take (i + 1) := by simp

include hn in
theorem l34House_ok (h : Ty.den tHallHouse) (hs : small 1048576 tHallHouse h) : spec_l34House.f n (h, ()) = some (h, ()) := by
  have hn' : 18446744073709551616 ≤ n := hn
  have ht : List.length h.1 ≤ 1048576 := hs.1.1
  have hl : List.length h.2.1 ≤ 1048576 := hs.2.1.1
  unfold spec_l34House.f
  rw [if_pos (appB (by simp only [List.length_nil]; omega))]
  refine (runL_any (len := List.length h.2.1) (fun i => (h, ([], [], ()), (h.1, List.take i h.2.1, ()), (i : Int), ())) (fun _ => false) none (some (h, ())) ?_ ?_ (by omega)).trans ?_
  · intro next i hi
    have he : small 1048576 tGateGrant (List.getD h.2.1 i (Ty.zero tGateGrant)) := by
      rw [gGetD_lt _ _ _ hi]
      exact hs.2.1.2 _ (List.getElem_mem hi)
    have e2 := specRuleCopy_ok (n := n) (List.getD h.2.1 i (Ty.zero tGateGrant)).2.2.2.1 he.2.2.2.1
    simp only [spec_l34House.B3, lt_dec hi, in_dec hi, if_true, Int.toNat_natCast, wrap_next hi hl]
    rw [e2, Option.bind_some, if_pos (appB (by simp only [List.length_cons, List.length_nil, List.length_take]; omega)), if_neg (by decide)]
    have e3 : List.take i h.2.1 ++ [List.getD h.2.1 i (Ty.zero tGateGrant)] = List.take (i + 1) h.2.1 := by rw [gGetD_lt _ _ _ hi]; exact take_next' h.2.1 i hi
    exact congrArg (fun z => next (h, ([], [], ()), (h.1, z, ()), ((i + 1 : Nat) : Int), ())) e3
  · intro next
    simp only [spec_l34House.B3, lt_dec', Bool.false_eq_true, if_false, List.take_length]
    all_goals rfl
  · have : (List.range (List.length h.2.1)).any (fun _ => false) = false := by simp
    rw [this]
    rfl

include hn in
theorem hwCopyHouse_ok (h : Ty.den tHallHouse) (hs : small 1048576 tHallHouse h) : impl_hwCopyHouse.f n (h, ()) = some (h, ()) := by
  have ht : List.length h.1 ≤ 1048576 := hs.1.1
  have e : slices_Clone_impl_GateTeam_impl_GateTeam.f n (h.1, ()) = some (h.1, ()) := by
    unfold slices_Clone_impl_GateTeam_impl_GateTeam.f
    rw [if_pos (appB (by simp only [List.length_nil]; omega))]
    rfl
  unfold impl_hwCopyHouse.f
  simp only [e, hwGrants_ok hn _ hs.2.1, Option.bind_some]
  all_goals rfl

def noWorld : Ty.den tHallWorld := (([], [], ()), ([], [], [], ()), (0 : Int), [], ())
def hallD (h : Ty.den tHallHouse) (a : Int) : Ty.den tHallWorld := if ((!houseD h) || !(decide (a ≥ 1) && decide (a ≤ 5))) = true then noWorld else (h, newWorldD a, (0 : Int), [], ())

include hn in
theorem specHall_ok (h : Ty.den tHallHouse) (hs : small 1048576 tHallHouse h) (a : Int) : spec_HallNew.f n (h, a, ()) = some (hallD h a, ()) := by
  unfold spec_HallNew.f hallD
  simp only [specHouse_ok hn h hs, Option.bind_some, spec_l21In.f, spec_l1In.f, specNewWorld_ok hn a, l34House_ok hn h hs]
  rcases Bool.eq_false_or_eq_true (houseD h) with c | c
  · rcases Bool.eq_false_or_eq_true (decide (a ≥ 1) && decide (a ≤ 5)) with c2 | c2
    · simp only [c, c2, Bool.not_true, Bool.not_false, Bool.or_false, Bool.false_or, if_true, Option.bind_some, Bool.false_eq_true, if_false]
    · simp only [c, c2, Bool.not_true, Bool.not_false, Bool.or_false, Bool.false_or, if_true, Option.bind_some, Bool.false_eq_true, if_false]
      rfl
  · simp only [c, Bool.not_true, Bool.not_false, Bool.true_or, if_true, Option.bind_some, Bool.false_eq_true, if_false]
    rfl

include hn in
theorem implHall_ok (h : Ty.den tHallHouse) (hs : small 1048576 tHallHouse h) (a : Int) : impl_HallNew.f n (h, a, ()) = some (hallD h a, ()) := by
  have k1 : decide (a < 1) = !decide (a ≥ 1) := by
    by_cases hh : a ≥ 1
    · rw [decide_eq_true hh, decide_eq_false (by omega)]; rfl
    · rw [decide_eq_false hh, decide_eq_true (by omega)]; rfl
  have k2 : decide (a > 5) = !decide (a ≤ 5) := by
    by_cases hh : a ≤ 5
    · rw [decide_eq_true hh, decide_eq_false (by omega)]; rfl
    · rw [decide_eq_false hh, decide_eq_true (by omega)]; rfl
  have hc : ((!houseD h || decide (a < 1)) || decide (a > 5)) = ((!houseD h) || !(decide (a ≥ 1) && decide (a ≤ 5))) := by
    rw [k1, k2, Bool.not_and, Bool.or_assoc]
  unfold impl_HallNew.f hallD
  simp only [implHouse_ok hn h hs, Option.bind_some, implNewWorld_ok hn a, hwCopyHouse_ok hn h hs]
  rcases Bool.eq_false_or_eq_true ((!houseD h) || !(decide (a ≥ 1) && decide (a ≤ 5))) with c | c
  · rw [if_pos (hc.trans c), if_pos c]
    rfl
  · rw [if_neg (by rw [hc, c]; decide), if_neg (by rw [c]; decide)]

theorem hallD_small (h : Ty.den tHallHouse) (a : Int) (hs : small 1048576 tHallHouse h) (hw : (wt tHallHouse h : Int) ≤ 1048577000) : small 1048576 tHallWorld (hallD h a) ∧ (wt tHallWorld (hallD h a) : Int) ≤ 1048580000 := by
  have e : ∀ t : Ty, small 1048576 (.slice t) [] := fun t => ⟨by simp, fun x h => by cases h⟩
  have e2 : ∀ t : Ty, wt (.slice t) [] = 0 := fun t => by simp [wt_slice]
  have hr := newWorld_small a
  unfold hallD
  split
  · refine ⟨⟨⟨e _, e _, trivial⟩, ⟨e _, e _, e _, trivial⟩, trivial, e _, trivial⟩, ?_⟩
    unfold noWorld
    simp only [wt_pair, wt_int, wt_unit, e2]
    omega
  · refine ⟨⟨hs, hr.1, trivial, e _, trivial⟩, ?_⟩
    have h1 : wt tHallWorld (h, newWorldD a, (0 : Int), [], ()) = wt tHallHouse h + (wt tRecWorld (newWorldD a) + (1 + (wt (.slice tHallAsked) [] + 0))) := rfl
    rw [h1, e2]
    have := hr.2
    omega
end

theorem pure_law (n : Nat) (hn : Big n) (x : Tup [tHallHouse, .int .i64]) (hw : wfT [tHallHouse, .int .i64] x) : laws_FnExactHallNew.f n x = some (true, ()) := by
  obtain ⟨d, a, ⟨⟩⟩ := x
  obtain ⟨hw1, _⟩ := hw
  unfold laws_FnExactHallNew.f
  have h : laws_szHallHouse.f n (d, 1048576, ()) = _ := laws_szHallHouse_ok n hn d hw1 1048576 (by omega) (by omega)
  simp only [h, Option.bind_some]
  by_cases hb : (bulk tHallHouse d : Int) ≤ 1048576
  · have hs : small 1048576 tHallHouse d := small_of_bulk (by omega)
    have hwt := wt_small hb (by decide)
    obtain ⟨hg, hwg⟩ := hallD_small d a hs hwt
    have e1 : spec_HallNew.f n (d, a, ()) = _ := specHall_ok hn d hs a
    have e2 : impl_HallNew.f n (d, a, ()) = _ := implHall_ok hn d hs a
    rw [subL_pos hb, if_neg (by simp; omega)]
    simp only [laws_toHallHouse_ok n hn d hs, Option.bind_some, e1, e2, laws_eqHallHouse_ok n hn (d, d, ()) hs, laws_eqHallWorld_ok n hn (hallD d a, hallD d a, ()) hg, eqD_refl, Bool.not_true, Bool.false_eq_true, if_false]
    obtain ⟨s1, s2, k1, p1, q1, m1⟩ := laws_markHallHouse_ok1 n hn d 1 (by omega) (by omega)
    obtain ⟨s3, s4, s5, s6, s7, s8, k2, p2, q2, m2, h2⟩ := laws_markHallWorld_ok n hn (hallD d a) 1 (by omega) (by omega)
    have d1 : decide (k1 < 0) = false := decide_eq_false (by omega)
    have d2 : decide (k2 < 0) = false := decide_eq_false (by omega)
    simp only [m1, m2, h2, d1, d2, Option.bind_some, Bool.not_false, if_true, Bool.false_or, Bool.not_true, Bool.false_eq_true, if_false, bne_self_eq_false]
  · rw [subL_neg hb, if_pos (by decide)]

end Go.Proofs.Ytlbdplafdpgidab
