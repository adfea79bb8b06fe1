/- The law FnExactGateAllows: what the program tells and what the reference tells are one, for all arguments (the plain law, over printed pure functions). No conditions. -/
import Derived.Test.YtakbelofppdkhaaP
set_option linter.unusedVariables false
set_option linter.unusedSimpArgs false
namespace Go.Proofs.Ytakbelofppdkhaa
open Go Go.Vm
/-! ### teams, one under another -/
section
variable {n : Nat} (hn : Big n)

def overOf (teams : List (Ty.den tGateTeam)) (a : ByteArray) : ByteArray := (teams.findIdx? (fun t => seq t.1 a)).elim (⟨#[]⟩ : ByteArray) (fun i => (teams.getD i (Ty.zero tGateTeam)).2.1)

include hn in
theorem teamOf_ok (teams : List (Ty.den tGateTeam)) (hl : teams.length ≤ 1048576) (a : ByteArray) : impl_teamOf.f n (teams, a, ()) = some (fidx (fun t : Ty.den tGateTeam => seq t.1 a) teams, ()) := by
  have hn : 18446744073709551616 ≤ n := hn
  unfold impl_teamOf.f
  refine (runL_find (l := teams) (fun i => (a, teams, (teams.length : Int), (i : Int), ())) (fun t : Ty.den tGateTeam => seq t.1 a) (fun i => some ((i : Int), ())) (some (-1, ())) ?_ ?_ (by omega)).trans ?_
  · intro next i hi
    simp only [impl_teamOf.B2]
    rw [if_pos (by simpa using hi), if_pos (by simp; omega), getD_nat _ _ _ hi, wrap_eq (by omega) (by omega)]
    rfl
  · intro next
    simp only [impl_teamOf.B2]
    rw [if_neg (by simp)]
  · simp only [fidx]
    cases teams.findIdx? (fun t : Ty.den tGateTeam => seq t.1 a) <;> rfl

include hn in
theorem l4Over_ok (teams : List (Ty.den tGateTeam)) (hl : teams.length ≤ 1048576) (a : ByteArray) : spec_l4Over.f n (teams, a, ()) = some (overOf teams a, ()) := by
  have hn : 18446744073709551616 ≤ n := hn
  unfold spec_l4Over.f
  refine (runL_find (l := teams) (fun i => (teams, a, (i : Int), ())) (fun t : Ty.den tGateTeam => seq t.1 a) (fun i => some ((teams.getD i (Ty.zero tGateTeam)).2.1, ())) (some (⟨#[]⟩, ())) ?_ ?_ (by omega)).trans ?_
  · intro next i hi
    simp only [spec_l4Over.B2]
    have e : teams.getD i (Ty.zero tGateTeam) = teams[i] := by simp [hi]
    have hb : decide (0 ≤ (i : Int) ∧ (i : Int) < (teams.length : Int)) = true := by simp; omega
    rw [if_pos (by simpa using hi), if_pos hb, getD_nat _ _ _ hi, e, if_pos hb, wrap_eq (by omega) (by omega)]
    rfl
  · intro next
    simp only [spec_l4Over.B2]
    rw [if_neg (by simp)]
  · simp only [overOf]
    cases teams.findIdx? (fun t : Ty.den tGateTeam => seq t.1 a) <;> rfl

end

/-! ### names -/
section
variable {n : Nat} (hn : Big n)

def badByte (s : ByteArray) (i : Nat) : Bool :=
  !((((decide (byteAt s (i : Int) ≥ (97 : Int))) && (decide (byteAt s (i : Int) ≤ (122 : Int)))) || ((decide (byteAt s (i : Int) ≥ (48 : Int))) && (decide (byteAt s (i : Int) ≤ (57 : Int))))) || (byteAt s (i : Int) == (45 : Int)))

def bytesOkD (s : ByteArray) : Bool := !(List.range s.size).any (badByte s)
def nameOkD (s : ByteArray) : Bool := ((decide ((ByteArray.size s : Int) ≥ (1 : Int))) && (decide ((ByteArray.size s : Int) ≤ (16 : Int)))) && bytesOkD s

include hn in
theorem specName_ok (s : ByteArray) (hl : s.size ≤ 1048576) : spec_l1NameOk.f n (s, ()) = some (nameOkD s, ()) := by
  have hn : 18446744073709551616 ≤ n := hn
  unfold spec_l1NameOk.f nameOkD
  simp only [spec_l1In.f, Option.bind_some]
  cases h1 : ((decide ((ByteArray.size s : Int) ≥ (1 : Int))) && (decide ((ByteArray.size s : Int) ≤ (16 : Int)))) with
  | false => rfl
  | true =>
    simp only [Bool.not_true, Bool.false_eq_true, if_false, Bool.true_and]
    refine (runL_any (len := s.size) (fun i => (s, (i : Int), ())) (badByte s) (some (false, ())) (some (true, ())) ?_ ?_ (by omega)).trans (by unfold bytesOkD; cases (List.range s.size).any (badByte s) <;> rfl)
    · intro next i hi
      simp only [spec_l1NameOk.B4, spec_l1Byte.f, lt_dec hi, in_dec hi, wrap_next hi hl, Option.bind_some, Bool.or_true, if_true, badByte]
      rfl
    · intro next
      simp only [spec_l1NameOk.B4, lt_dec', Bool.false_eq_true, if_false]

include hn in
theorem implBytes_ok (s : ByteArray) (hl : s.size ≤ 1048576) : impl_nameBytes.f n (s, ()) = some (bytesOkD s, ()) := by
  have hn : 18446744073709551616 ≤ n := hn
  unfold impl_nameBytes.f bytesOkD
  refine (runL_any (len := s.size) (fun i => (s, (s.size : Int), (i : Int), ())) (badByte s) (some (false, ())) (some (true, ())) ?_ ?_ (by omega)).trans (by cases (List.range s.size).any (badByte s) <;> rfl)
  · intro next i hi
    simp only [impl_nameBytes.B2, impl_nameByte.f, lt_dec hi, in_dec hi, wrap_next hi hl, Option.bind_some, Bool.or_true, if_true, badByte]
    rfl
  · intro next
    simp only [impl_nameBytes.B2, lt_dec', Bool.false_eq_true, if_false]

include hn in
theorem implName_ok (s : ByteArray) (hl : s.size ≤ 1048576) : impl_isName.f n (s, ()) = some (nameOkD s, ()) := by
  unfold impl_isName.f nameOkD
  simp only [implBytes_ok hn s hl, Option.bind_some]
  cases h1 : ((decide ((ByteArray.size s : Int) ≥ (1 : Int))) && (decide ((ByteArray.size s : Int) ≤ (16 : Int)))) with
  | false => rfl
  | true => rfl
end

/-! ### teams that are ok -/
section
variable {n : Nat} (hn : Big n)

include hn in
theorem l4Team_ok (teams : List (Ty.den tGateTeam)) (hl : teams.length ≤ 1048576) (a : ByteArray) : spec_l4Team.f n (teams, a, ()) = some ((teams.findIdx? (fun t : Ty.den tGateTeam => seq t.1 a)).isSome, ()) := by
  have hn : 18446744073709551616 ≤ n := hn
  unfold spec_l4Team.f
  refine (runL_find (l := teams) (fun i => (teams, a, (i : Int), ())) (fun t : Ty.den tGateTeam => seq t.1 a) (fun i => some (true, ())) (some (false, ())) ?_ ?_ (by omega)).trans ?_
  · intro next i hi
    simp only [spec_l4Team.B2, lt_dec hi, in_dec hi, wrap_next hi hl, if_true]
    rw [getD_nat _ _ _ hi]
  · intro next
    simp only [spec_l4Team.B2, lt_dec', Bool.false_eq_true, if_false]
  · cases teams.findIdx? (fun t : Ty.den tGateTeam => seq t.1 a) <;> rfl

/-- What is wrong with a team by itself. -/
def badTeam (l : List (Ty.den tGateTeam)) (i : Nat) : Bool :=
  (((!nameOkD (List.getD l (Int.toNat (i : Int)) (Ty.zero tGateTeam)).1) || ((decide ((i : Int) > (0 : Int))) && (!slt (List.getD l (Int.toNat (IntKind.i64.wrap ((i : Int) - (1 : Int)))) (Ty.zero tGateTeam)).1 (List.getD l (Int.toNat (i : Int)) (Ty.zero tGateTeam)).1))) || ((!seq (List.getD l (Int.toNat (i : Int)) (Ty.zero tGateTeam)).2.1 (⟨#[]⟩ : ByteArray)) && (!(l.findIdx? (fun t : Ty.den tGateTeam => seq t.1 (List.getD l (Int.toNat (i : Int)) (Ty.zero tGateTeam)).2.1)).isSome)))

/-- So many steps up, till there is none. -/
def upBy (l : List (Ty.den tGateTeam)) : Nat → ByteArray → ByteArray
  | 0, a => a
  | k + 1, a => if seq a ⟨#[]⟩ = true then a else upBy l k (overOf l a)

def deepTeam (l : List (Ty.den tGateTeam)) (i : Nat) : Bool := !seq (upBy l 5 (List.getD l (Int.toNat (i : Int)) (Ty.zero tGateTeam)).1) ⟨#[]⟩

def teamsOkD (l : List (Ty.den tGateTeam)) : Bool := if (decide ((List.length l : Int) > (12 : Int))) = true then false else !((List.range l.length).any (fun i => badTeam l i || deepTeam l i))

theorem pred_dec {i len : Nat} (hi : i < len) (hl : len ≤ 1048576) : (!(decide ((i : Int) > (0 : Int))) || decide (0 ≤ IntKind.i64.wrap ((i : Int) - (1 : Int)) ∧ IntKind.i64.wrap ((i : Int) - (1 : Int)) < (len : Int))) = true := by
  rw [wrap_eq (by omega) (by omega)]
  cases i with
  | zero => rfl
  | succ i =>
    rw [Bool.or_eq_true]
    exact .inr (decide_eq_true (by omega))

theorem pred_dec' {c : Bool} {i len : Nat} (hi : i < len) (hl : len ≤ 1048576) : (!(c && decide ((i : Int) > (0 : Int))) || decide (0 ≤ IntKind.i64.wrap ((i : Int) - (1 : Int)) ∧ IntKind.i64.wrap ((i : Int) - (1 : Int)) < (len : Int))) = true := by
  have := pred_dec hi hl
  cases c with
  | false => rfl
  | true => simpa using this

include hn in
theorem specUp_ok (l : List (Ty.den tGateTeam)) (hl : l.length ≤ 1048576) (i : Int) {Q : Type} (cs : Conts Q spec_GateTeamsOk.l11.outs) : ∀ (d s k : Nat) (a : ByteArray), s + d = 5 → d < k → runL (spec_GateTeamsOk.B11 n) cs k (l, i, a, (s : Int), ()) = cs.1 (l, i, upBy l d a, ()) := by
  intro d
  induction d with
  | zero =>
    intro s k a hs hk
    rw [runL_pos _ _ hk]
    simp only [spec_GateTeamsOk.B11, upBy]
    have : s = 5 := by omega
    subst this
    rfl
  | succ d ih =>
    intro s k a hs hk
    rw [runL_pos _ _ (by omega)]
    have h1 : decide ((s : Int) ≤ (4 : Int)) = true := decide_eq_true (by omega)
    simp only [spec_GateTeamsOk.B11, upBy, h1, Bool.true_and, l4Over_ok hn l hl, Option.bind_some]
    cases seq a ⟨#[]⟩ with
    | true => simp
    | false =>
      simp only [Bool.not_false, if_true, Bool.false_eq_true, if_false]
      rw [wrap_eq (by omega) (by omega)]
      exact ih (s + 1) (k - 1) _ (by omega) (by omega)

theorem small_at {m : Nat} {l : List (Ty.den tGateTeam)} (hs : small m (.slice tGateTeam) l) (i : Nat) : ByteArray.size (List.getD l i (Ty.zero tGateTeam)).1 ≤ m ∧ ByteArray.size (List.getD l i (Ty.zero tGateTeam)).2.1 ≤ m := by
  rw [List.getD_eq_getElem?_getD]
  cases h : l[i]? with
  | none => exact ⟨Nat.zero_le _, Nat.zero_le _⟩
  | some t =>
    have := hs.2 t (List.mem_of_getElem? h)
    exact ⟨this.1, this.2.1⟩

include hn in
theorem specTeams_ok (l : List (Ty.den tGateTeam)) (hs : small 1048576 (.slice tGateTeam) l) : spec_GateTeamsOk.f n (l, ()) = some (teamsOkD l, ()) := by
  have hn' : 18446744073709551616 ≤ n := hn
  have hl : l.length ≤ 1048576 := hs.1
  unfold spec_GateTeamsOk.f teamsOkD
  split
  · rfl
  · refine (runL_any (len := l.length) (fun i => (l, (i : Int), ())) (fun i => badTeam l i || deepTeam l i) (some (false, ())) (some (true, ())) ?_ ?_ (by omega)).trans (by cases (List.range l.length).any (fun i => badTeam l i || deepTeam l i) <;> rfl)
    · intro next i hi
      simp only [spec_GateTeamsOk.B4, lt_dec hi, in_dec hi, wrap_next hi hl, if_true, specName_ok hn _ (small_at hs _).1, Option.bind_some, pred_dec' hi hl, l4Team_ok hn l hl, guarded]
      have key : (((!nameOkD (List.getD l (Int.toNat (i : Int)) (Ty.zero tGateTeam)).1) || ((decide ((i : Int) > (0 : Int))) && (!slt (List.getD l (Int.toNat (IntKind.i64.wrap ((i : Int) - (1 : Int)))) (Ty.zero tGateTeam)).1 (List.getD l (Int.toNat (i : Int)) (Ty.zero tGateTeam)).1))) || ((!seq (List.getD l (Int.toNat (i : Int)) (Ty.zero tGateTeam)).2.1 (⟨#[]⟩ : ByteArray)) && (!(if ((!((!nameOkD (List.getD l (Int.toNat (i : Int)) (Ty.zero tGateTeam)).1) || ((decide ((i : Int) > (0 : Int))) && (!slt (List.getD l (Int.toNat (IntKind.i64.wrap ((i : Int) - (1 : Int)))) (Ty.zero tGateTeam)).1 (List.getD l (Int.toNat (i : Int)) (Ty.zero tGateTeam)).1)))) && (!seq (List.getD l (Int.toNat (i : Int)) (Ty.zero tGateTeam)).2.1 (⟨#[]⟩ : ByteArray))) = true then ((l.findIdx? (fun t : Ty.den tGateTeam => seq t.1 (List.getD l (Int.toNat (i : Int)) (Ty.zero tGateTeam)).2.1)).isSome, ()) else (false, ())).1))) = badTeam l i := by
        unfold badTeam
        cases ((!nameOkD (List.getD l (Int.toNat (i : Int)) (Ty.zero tGateTeam)).1) || ((decide ((i : Int) > (0 : Int))) && (!slt (List.getD l (Int.toNat (IntKind.i64.wrap ((i : Int) - (1 : Int)))) (Ty.zero tGateTeam)).1 (List.getD l (Int.toNat (i : Int)) (Ty.zero tGateTeam)).1))) <;> cases seq (List.getD l (Int.toNat (i : Int)) (Ty.zero tGateTeam)).2.1 (⟨#[]⟩ : ByteArray) <;> rfl
      refine (congrArg (fun b : Bool => if b = true then some (false, ()) else _) key).trans ?_
      cases hb : badTeam l i with
      | true => simp
      | false =>
        simp only [Bool.false_eq_true, if_false, Bool.false_or]
        rw [show (0 : Int) = ((0 : Nat) : Int) from rfl, specUp_ok hn l hl _ _ 5 0 n _ (by omega) (by omega)]
        simp only [deepTeam, wrap_next hi hl]
        rfl
    · intro next
      simp only [spec_GateTeamsOk.B4, lt_dec', Bool.false_eq_true, if_false]

theorem good_name {l : List (Ty.den tGateTeam)} {i : Nat} (hi : i < l.length) (h : badTeam l i = false) : nameOkD (l[i]).1 = true := by
  unfold badTeam at h
  rw [getD_nat _ _ _ hi] at h
  simp only [Bool.or_eq_false_iff, Bool.not_eq_false'] at h
  exact h.1.1

theorem good_over {l : List (Ty.den tGateTeam)} {i : Nat} (hi : i < l.length) (h : badTeam l i = false) : seq (l[i]).2.1 ⟨#[]⟩ = true ∨ (l.findIdx? (fun t : Ty.den tGateTeam => seq t.1 (l[i]).2.1)).isSome = true := by
  unfold badTeam at h
  rw [getD_nat _ _ _ hi] at h
  simp only [Bool.or_eq_false_iff, Bool.and_eq_false_iff, Bool.not_eq_false'] at h
  exact h.2

theorem good_lt {l : List (Ty.den tGateTeam)} (hl : l.length ≤ 1048576) {i : Nat} (hi : i + 1 < l.length) (h : badTeam l (i + 1) = false) : slt (l[i]).1 (l[i + 1]).1 = true := by
  unfold badTeam at h
  rw [getD_nat _ _ _ hi, wrap_eq (by omega) (by omega)] at h
  simp only [Bool.or_eq_false_iff, Bool.and_eq_false_iff, Bool.not_eq_false'] at h
  rcases h.1.2 with h1 | h1
  · have := of_decide_eq_false h1
    omega
  · have e : ((i + 1 : Nat) : Int) - 1 = (i : Int) := by omega
    rw [e, getD_nat _ _ _ (by omega)] at h1
    exact h1

theorem lt_all {l : List (Ty.den tGateTeam)} (hl : l.length ≤ 1048576) (h : ∀ j, j < l.length → badTeam l j = false) : ∀ (d j : Nat) (hj : j + d + 1 < l.length), slt (l[j]).1 (l[j + d + 1]).1 = true := by
  intro d
  induction d with
  | zero => intro j hj; exact good_lt hl hj (h _ hj)
  | succ d ih =>
    intro j hj
    exact slt_trans (ih j (by omega)) (good_lt hl (i := j + d + 1) hj (h _ hj))

theorem find_self {l : List (Ty.den tGateTeam)} (hl : l.length ≤ 1048576) (h : ∀ j, j < l.length → badTeam l j = false) {i : Nat} (hi : i < l.length) : l.findIdx? (fun t : Ty.den tGateTeam => seq t.1 (l[i]).1) = some i := by
  rw [List.findIdx?_eq_some_iff_getElem]
  refine ⟨hi, seq_refl _, fun j hj => ?_⟩
  obtain ⟨d, rfl⟩ : ∃ d, i = j + d + 1 := ⟨i - j - 1, by omega⟩
  have := slt_not_seq (lt_all hl h d j hi)
  simp [this]

theorem deep_eq {l : List (Ty.den tGateTeam)} (hl : l.length ≤ 1048576) (h : ∀ j, j < l.length → badTeam l j = false) {i : Nat} (hi : i < l.length) : deepTeam l i = !seq (upBy l 4 (l[i]).2.1) ⟨#[]⟩ := by
  unfold deepTeam
  rw [getD_nat _ _ _ hi]
  have hne : seq (l[i]).1 ⟨#[]⟩ = false := by
    cases hs : seq (l[i]).1 ⟨#[]⟩ with
    | false => rfl
    | true =>
      exfalso
      have h1 := good_name hi (h i hi)
      unfold nameOkD at h1
      simp only [Bool.and_eq_true, decide_eq_true_eq] at h1
      have h2 := seq_iff.1 hs
      have : (l[i]).1.size = 0 := by rw [h2]; rfl
      have := h1.1.1
      omega
  have ho : overOf l (l[i]).1 = (l[i]).2.1 := by simp [overOf, find_self hl h hi, hi]
  show (!seq (if seq (l[i]).1 ⟨#[]⟩ = true then (l[i]).1 else upBy l 4 (overOf l (l[i]).1)) ⟨#[]⟩) = _
  rw [if_neg (by simp [hne]), ho]

theorem fidx_neg {X : Type} (p : X → Bool) (l : List X) : decide (fidx p l < (0 : Int)) = !(l.findIdx? p).isSome := by
  cases h : l.findIdx? p with
  | none => simp [fidx_none h]
  | some i => simp [fidx_some h]

include hn in
theorem implUp_ok (l : List (Ty.den tGateTeam)) (hl : l.length ≤ 1048576) (hg : ∀ j, j < l.length → badTeam l j = false) (i len : Int) (l2 : List (Ty.den tGateTeam)) {Q : Type} (cs : Conts Q impl_GateTeamsOk.l14.outs) : ∀ (d s k : Nat) (a : ByteArray), s + d = 4 → d + 1 < k →
    (seq a ⟨#[]⟩ = true ∨ (l.findIdx? (fun t : Ty.den tGateTeam => seq t.1 a)).isSome = true) →
    runL (impl_GateTeamsOk.B14 n) cs k (l, (s : Int), a, l2, len, i, ()) = if (!seq (upBy l d a) ⟨#[]⟩) = true then cs.1 (false, ()) else cs.2.1 (l, l2, len, i, ()) := by
  intro d
  induction d with
  | zero =>
    intro s k a hs hk ha
    rw [runL_pos _ _ (by omega)]
    have : s = 4 := by omega
    subst this
    simp only [impl_GateTeamsOk.B14]
    rw [show upBy l 0 a = a from rfl]
    rcases Bool.eq_false_or_eq_true (seq a ⟨#[]⟩) with hse | hse
    · rw [if_neg (by simp [hse]), if_neg (by simp [hse])]
    · rw [if_pos (by simp [hse]), if_pos (by rfl), if_pos (by simp [hse])]
  | succ d ih =>
    intro s k a hs hk ha
    rw [runL_pos _ _ (by omega)]
    simp only [impl_GateTeamsOk.B14]
    rw [show upBy l (d + 1) a = if seq a ⟨#[]⟩ = true then a else upBy l d (overOf l a) from rfl]
    rcases Bool.eq_false_or_eq_true (seq a ⟨#[]⟩) with hse | hse
    · rw [if_neg (by simp [hse]), if_pos hse, if_neg (by simp [hse])]
    · rw [hse] at ha
      have ha := ha.resolve_left (by simp)
      obtain ⟨j, hj⟩ := Option.isSome_iff_exists.1 ha
      have hjl := findIdx?_lt hj
      have ho : overOf l a = (l[j]).2.1 := by simp [overOf, hj, hjl]
      have h1 : decide (IntKind.i64.wrap ((s : Int) + 1) > (4 : Int)) = false := by
        rw [wrap_eq (by omega) (by omega)]
        exact decide_eq_false (by omega)
      rw [if_pos (by simp [hse]), if_neg (c := seq a ⟨#[]⟩ = true) (by simp [hse])]
      simp only [h1, Bool.false_eq_true, if_false, if_true, teamOf_ok hn l hl, Option.bind_some, fidx_some hj, in_dec hjl, getD_nat _ _ _ hjl]
      rw [wrap_eq (by omega) (by omega), ← ho]
      refine ih (s + 1) (k - 1) _ (by omega) (by omega) ?_
      rw [ho]
      exact good_over hjl (hg j hjl)

include hn in
theorem implTeams_ok (l : List (Ty.den tGateTeam)) (hs : small 1048576 (.slice tGateTeam) l) : impl_GateTeamsOk.f n (l, ()) = some (teamsOkD l, ()) := by
  have hn' : 18446744073709551616 ≤ n := hn
  have hl : l.length ≤ 1048576 := hs.1
  unfold impl_GateTeamsOk.f teamsOkD
  split
  · rfl
  · refine (runL_any (len := l.length) (fun i => (l, l, (l.length : Int), (i : Int), ())) (badTeam l) (some (false, ())) (runL (impl_GateTeamsOk.B10 n) ((fun z8 => some (z8.1, ())), (fun z9 => some (true, ())), ()) n (l, l, (List.length l : Int), ((0 : Nat) : Int), ())) ?_ ?_ (by omega)).trans ?_
    · intro next i hi
      simp only [impl_GateTeamsOk.B4, lt_dec hi, in_dec hi, wrap_next hi hl, if_true, implName_ok hn _ (small_at hs _).1, Option.bind_some, pred_dec' hi hl, teamOf_ok hn l hl, guarded]
      have key : (((!nameOkD (List.getD l (Int.toNat (i : Int)) (Ty.zero tGateTeam)).1) || ((decide ((i : Int) > (0 : Int))) && (!slt (List.getD l (Int.toNat (IntKind.i64.wrap ((i : Int) - (1 : Int)))) (Ty.zero tGateTeam)).1 (List.getD l (Int.toNat (i : Int)) (Ty.zero tGateTeam)).1))) || ((!seq (List.getD l (Int.toNat (i : Int)) (Ty.zero tGateTeam)).2.1 (⟨#[]⟩ : ByteArray)) && (decide ((if ((!((!nameOkD (List.getD l (Int.toNat (i : Int)) (Ty.zero tGateTeam)).1) || ((decide ((i : Int) > (0 : Int))) && (!slt (List.getD l (Int.toNat (IntKind.i64.wrap ((i : Int) - (1 : Int)))) (Ty.zero tGateTeam)).1 (List.getD l (Int.toNat (i : Int)) (Ty.zero tGateTeam)).1)))) && (!seq (List.getD l (Int.toNat (i : Int)) (Ty.zero tGateTeam)).2.1 (⟨#[]⟩ : ByteArray))) = true then ((fidx (fun t : Ty.den tGateTeam => seq t.1 (List.getD l (Int.toNat (i : Int)) (Ty.zero tGateTeam)).2.1) l : Int), ()) else ((0 : Int), ())).1 < (0 : Int))))) = badTeam l i := by
        unfold badTeam
        rw [← fidx_neg]
        cases ((!nameOkD (List.getD l (Int.toNat (i : Int)) (Ty.zero tGateTeam)).1) || ((decide ((i : Int) > (0 : Int))) && (!slt (List.getD l (Int.toNat (IntKind.i64.wrap ((i : Int) - (1 : Int)))) (Ty.zero tGateTeam)).1 (List.getD l (Int.toNat (i : Int)) (Ty.zero tGateTeam)).1))) <;> cases seq (List.getD l (Int.toNat (i : Int)) (Ty.zero tGateTeam)).2.1 (⟨#[]⟩ : ByteArray) <;> rfl
      exact congrArg (fun b : Bool => if b = true then some (false, ()) else next (l, l, (l.length : Int), ((i + 1 : Nat) : Int), ())) key
    · intro next
      simp only [impl_GateTeamsOk.B4, lt_dec', Bool.false_eq_true, if_false]
      rfl
    · cases hb : (List.range l.length).any (badTeam l) with
      | true =>
        have : (List.range l.length).any (fun i => badTeam l i || deepTeam l i) = true := by
          obtain ⟨i, hi, h⟩ := List.any_eq_true.1 hb
          exact List.any_eq_true.2 ⟨i, hi, by simp [h]⟩
        simp [this]
      | false =>
        have hg : ∀ j, j < l.length → badTeam l j = false := fun j hj => by
          rw [List.any_eq_false] at hb
          have := hb j (List.mem_range.2 hj)
          simpa using this
        have hany : (List.range l.length).any (fun i => badTeam l i || deepTeam l i) = (List.range l.length).any (fun i => deepTeam l i) := by
          rw [Bool.eq_iff_iff, List.any_eq_true, List.any_eq_true]
          constructor
          · rintro ⟨i, hi, h⟩
            rw [hg i (List.mem_range.1 hi)] at h
            exact ⟨i, hi, by simpa using h⟩
          · rintro ⟨i, hi, h⟩
            exact ⟨i, hi, by simp [h]⟩
        rw [hany]
        simp only [Bool.false_eq_true, if_false]
        refine (runL_any (len := l.length) (fun i => (l, l, (l.length : Int), (i : Int), ())) (deepTeam l) (some (false, ())) (some (true, ())) ?_ ?_ (by omega)).trans (by cases (List.range l.length).any (deepTeam l) <;> rfl)
        · intro next i hi
          simp only [impl_GateTeamsOk.B10, lt_dec hi, in_dec hi, if_true, getD_nat _ _ _ hi]
          rw [show (0 : Int) = ((0 : Nat) : Int) from rfl, implUp_ok hn l hl hg _ _ _ _ 4 0 n _ (by omega) (by omega) (good_over hi (hg i hi)), deep_eq hl hg hi]
          simp only [wrap_next hi hl]
        · intro next
          simp only [impl_GateTeamsOk.B10, lt_dec', Bool.false_eq_true, if_false]
end

/-! ### under -/
section
variable {n : Nat} (hn : Big n)

/-- So many steps at most. -/
def goUp (teams : List (Ty.den tGateTeam)) (b : ByteArray) : Nat → ByteArray → Bool
  | 0, _ => false
  | k + 1, a => if seq (overOf teams a) ⟨#[]⟩ = true then false else if seq (overOf teams a) b = true then true else goUp teams b k (overOf teams a)

def underOf (teams : List (Ty.den tGateTeam)) (a b : ByteArray) : Bool := seq a b || goUp teams b 4 a

include hn in
theorem specUnder_ok (teams : List (Ty.den tGateTeam)) (hl : teams.length ≤ 1048576) (a b : ByteArray) : spec_GateUnder.f n (teams, a, b, ()) = some (underOf teams a b, ()) := by
  have hn : 18446744073709551616 ≤ n := hn
  unfold spec_GateUnder.f underOf
  cases hab : seq a b with
  | true => simp
  | false =>
    simp only [Bool.false_eq_true, if_false, Bool.false_or]
    have key : ∀ (d : Nat) (i : Nat) (k : Nat) (a : ByteArray), i + d = 4 → d < k → runL (spec_GateUnder.B4 n) ((fun z2 => some (z2.1, ())), (fun z3 => some (false, ())), ()) k (teams, a, b, (i : Int), ()) = some (goUp teams b d a, ()) := by
      intro d
      induction d with
      | zero =>
        intro i k a hi hk
        rw [runL_pos _ _ hk]
        simp only [spec_GateUnder.B4]
        rw [if_neg (by simp; omega)]
        rfl
      | succ d ih =>
        intro i k a hi hk
        rw [runL_pos _ _ (by omega)]
        simp only [spec_GateUnder.B4]
        rw [if_pos (decide_eq_true (show (i : Int) < 4 by omega)), l4Over_ok hn teams hl a]
        simp only [Option.bind_some, goUp]
        split
        · rfl
        · split
          · rfl
          · rw [wrap_eq (by omega) (by omega)]
            exact ih (i + 1) (k - 1) _ (by omega) (by omega)
    exact key 4 0 n a (by omega) (by omega)

include hn in
theorem implUnder_ok (teams : List (Ty.den tGateTeam)) (hl : teams.length ≤ 1048576) (a b : ByteArray) : impl_GateUnder.f n (teams, a, b, ()) = some (underOf teams a b, ()) := by
  have hn : 18446744073709551616 ≤ n := hn
  unfold impl_GateUnder.f
  have key : ∀ (d : Nat) (i : Nat) (k : Nat) (a : ByteArray), i + d = 4 → d + 1 < k → runL (impl_GateUnder.B2 n) ((fun z2 => some (z2.1, ())), (fun z3 => some (true, ())), ()) k (teams, a, b, (i : Int), ()) = some (seq a b || goUp teams b d a, ()) := by
    intro d
    induction d with
    | zero =>
      intro i k a hi hk
      rw [runL_pos _ _ (by omega)]
      simp only [impl_GateUnder.B2]
      cases hab : seq a b with
      | true => simp
      | false =>
        rw [if_pos (by simp), teamOf_ok hn teams hl a]
        have : i = 4 := by omega
        subst this
        simp [goUp]
    | succ d ih =>
      intro i k a hi hk
      rw [runL_pos _ _ (by omega)]
      simp only [impl_GateUnder.B2]
      cases hab : seq a b with
      | true => simp
      | false =>
        rw [if_pos (by simp), teamOf_ok hn teams hl a]
        have hi4 : ((i : Int) == 4) = false := by simp; omega
        simp only [Option.bind_some, hi4, Bool.false_or, goUp]
        cases hf : teams.findIdx? (fun t : Ty.den tGateTeam => seq t.1 a) with
        | none =>
          have ho : overOf teams a = ⟨#[]⟩ := by simp [overOf, hf]
          rw [fidx_none hf, ho]
          simp [seq_refl]
        | some j =>
          have hj := findIdx?_lt hf
          have ho : overOf teams a = (teams[j]).2.1 := by simp [overOf, hf, hj]
          rw [fidx_some hf, getD_nat _ _ _ hj, ← ho]
          have h1 : decide ((j : Int) < 0) = false := by simp
          have h2 : decide (0 ≤ (j : Int) ∧ (j : Int) < (teams.length : Int)) = true := by simp; omega
          rw [h1, h2]
          simp only [Bool.or_true, if_true, Bool.false_or]
          split
          · rfl
          · rw [wrap_eq (by omega) (by omega)]
            refine (ih (i + 1) (k - 1) _ (by omega) (by omega)).trans ?_
            congr 1
            cases seq (overOf teams a) b <;> simp
  exact key 4 0 n a (by omega) (by omega)
end

/-! ### rules -/
section
variable {n : Nat} (hn : Big n)

theorem gGetD_lt {X : Type} (l : List X) (i : Nat) (z : X) (h : i < l.length) : l.getD i z = l[i] := by simp [h]
theorem gPred_wrap {i : Nat} (h : 0 < i) (hi : i ≤ 1048576) : IntKind.i64.wrap ((i : Int) - 1) = ((i - 1 : Nat) : Int) := by
  rw [wrap_eq (by omega) (by omega)]; omega
theorem gPred_in {i len : Nat} (h : 0 < i) (hi : i < len) : decide (0 ≤ ((i - 1 : Nat) : Int) ∧ ((i - 1 : Nat) : Int) < (len : Int)) = true := decide_eq_true (by omega)

def gIn (a lo hi : Int) : Bool := (decide (a ≥ lo)) && (decide (a ≤ hi))
theorem specGIn_ok (x : Tup [.int .i64, .int .i64, .int .i64]) : spec_l1In.f n x = some (gIn x.1 x.2.1 x.2.2.1, ()) := rfl
theorem gIn_not (a lo hi : Int) : ((decide (a < lo)) || (decide (a > hi))) = !gIn a lo hi := by
  unfold gIn
  rw [Bool.not_and, Bool.eq_iff_iff]
  simp only [Bool.or_eq_true, decide_eq_true_eq, Bool.not_eq_true', decide_eq_false_iff_not]
  omega

def badVerb (l : List Int) (i : Nat) : Bool := (!gIn (List.getD l i 0) 1 5) || (decide (0 < i) && decide (List.getD l (i - 1) 0 ≥ List.getD l i 0))
def emptyOr (s : ByteArray) : Bool := seq s ⟨#[]⟩ || nameOkD s
def ruleOkD (r : Ty.den tGateRule) : Bool :=
  !((List.length r.1 : Int) == (0 : Int)) && !(decide ((ByteArray.size r.2.2.2.1 : Int) > (16 : Int))) && emptyOr r.2.1 && emptyOr r.2.2.1 && !(List.range (List.length r.1)).any (badVerb r.1) && bytesOkD r.2.2.2.1

include hn in
theorem specRule_ok (r : Ty.den tGateRule) (hs : small 1048576 tGateRule r) : spec_l4RuleOk.f n (r, ()) = some (ruleOkD r, ()) := by
  have hn' : 18446744073709551616 ≤ n := hn
  have hl : List.length r.1 ≤ 1048576 := hs.1.1
  have hl4 : ByteArray.size r.2.2.2.1 ≤ 1048576 := hs.2.2.2.1
  unfold spec_l4RuleOk.f ruleOkD emptyOr
  simp only [specName_ok hn r.2.1 hs.2.1, specName_ok hn r.2.2.1 hs.2.2.1, Option.bind_some]
  rcases Bool.eq_false_or_eq_true ((List.length r.1 : Int) == (0 : Int)) with c1 | c1
  · simp only [c1]; rfl
  rcases Bool.eq_false_or_eq_true (decide ((ByteArray.size r.2.2.2.1 : Int) > (16 : Int))) with c2 | c2
  · simp only [c1, c2]; rfl
  rcases Bool.eq_false_or_eq_true (seq r.2.1 ⟨#[]⟩ || nameOkD r.2.1) with c3 | c3
  rotate_left
  · rw [Bool.or_eq_false_iff] at c3
    simp [c1, c2, c3.1, c3.2, tzero]
  rcases Bool.eq_false_or_eq_true (seq r.2.2.1 ⟨#[]⟩ || nameOkD r.2.2.1) with c4 | c4
  rotate_left
  · rw [Bool.or_eq_false_iff] at c4
    rcases Bool.eq_false_or_eq_true (seq r.2.1 ⟨#[]⟩) with c5 | c5
    · simp [c1, c2, c4.1, c4.2, c5, tzero]
    · rw [c5, Bool.false_or] at c3
      simp [c1, c2, c4.1, c4.2, c5, c3, tzero]
  have key : ∀ {R : Type} (a b : R), (if (((((List.length r.1 : Int) == (0 : Int)) || (decide ((ByteArray.size r.2.2.2.1 : Int) > (16 : Int)))) || ((!seq r.2.1 (⟨#[]⟩ : ByteArray)) && (!nameOkD r.2.1))) || ((!seq r.2.2.1 (⟨#[]⟩ : ByteArray)) && (!nameOkD r.2.2.1))) = true then a else b) = b := by
    intro R a b
    rw [c1, c2, ← Bool.not_or, ← Bool.not_or, c3, c4]
    rfl
  have tail : (runL (spec_l4RuleOk.B4 n) ((fun z4 => some (z4.1, ())), (fun z5 => runL (spec_l4RuleOk.B9 n) ((fun z7 => some (z7.1, ())), (fun z8 => some (true, ())), ()) n (z5.1, (0 : Int), ())), ()) n (r, (0 : Int), ()) : Option (Tup [.bool])) = some (!(List.range (List.length r.1)).any (badVerb r.1) && bytesOkD r.2.2.2.1, ()) := by
    refine (runL_any (len := List.length r.1) (fun i => (r, (i : Int), ())) (badVerb r.1) (some (false, ())) (some (bytesOkD r.2.2.2.1, ())) ?_ ?_ (by omega)).trans ?_
    · intro next i hi
      simp only [spec_l4RuleOk.B4, specGIn_ok, lt_dec hi, in_dec hi, Option.bind_some, Bool.or_true, if_true, Int.toNat_natCast, badVerb, wrap_next hi hl]
      by_cases h0 : 0 < i
      · have e : decide ((i : Int) > 0) = true := decide_eq_true (by omega)
        simp only [e, decide_eq_true h0, gPred_wrap h0 (by omega), gPred_in h0 hi, Int.toNat_natCast, Bool.or_true, if_true, Bool.true_and]
        try rfl
      · have e : decide ((i : Int) > 0) = false := decide_eq_false (by omega)
        simp only [e, decide_eq_false h0, Bool.and_false, Bool.not_false, Bool.true_or, if_true, Bool.false_and]
        try rfl
    · intro next
      simp only [spec_l4RuleOk.B4, lt_dec', Bool.false_eq_true, if_false]
      refine (runL_any (len := ByteArray.size r.2.2.2.1) (fun i => (r, (i : Int), ())) (badByte r.2.2.2.1) (some (false, ())) (some (true, ())) ?_ ?_ (by omega)).trans (by unfold bytesOkD; cases (List.range (ByteArray.size r.2.2.2.1)).any (badByte r.2.2.2.1) <;> rfl)
      · intro next2 i hi
        simp only [spec_l4RuleOk.B9, spec_l1Byte.f, lt_dec hi, in_dec hi, wrap_next hi hl4, Option.bind_some, Bool.or_true, if_true, badByte]
        rfl
      · intro next2
        simp only [spec_l4RuleOk.B9, lt_dec', Bool.false_eq_true, if_false]
    · cases (List.range (List.length r.1)).any (badVerb r.1) <;> simp
  rw [c1, c2, c3, c4]
  simp only [Bool.not_false, Bool.true_and]
  rw [← tail]
  rcases Bool.eq_false_or_eq_true (seq r.2.1 ⟨#[]⟩) with c5 | c5 <;> rcases Bool.eq_false_or_eq_true (seq r.2.2.1 ⟨#[]⟩) with c6 | c6
  · simp [c5, c6, tzero]
  · rw [c6, Bool.false_or] at c4
    simp [c5, c6, c4, tzero]
  · rw [c5, Bool.false_or] at c3
    simp [c5, c6, c3, tzero]
  · rw [c6, Bool.false_or] at c4
    rw [c5, Bool.false_or] at c3
    simp [c5, c6, c3, c4, tzero]
end

/-! ### rules, verbs, beginnings -/
section
variable {n : Nat} (hn : Big n)

include hn in
theorem implGRule_ok (r : Ty.den tGateRule) (hs : small 1048576 tGateRule r) : impl_GateRule_ok.f n (r, ()) = some (ruleOkD r, ()) := by
  have hn' : 18446744073709551616 ≤ n := hn
  have hl : List.length r.1 ≤ 1048576 := hs.1.1
  unfold impl_GateRule_ok.f ruleOkD emptyOr
  simp only [implName_ok hn r.2.1 hs.2.1, implName_ok hn r.2.2.1 hs.2.2.1, implBytes_ok hn r.2.2.2.1 hs.2.2.2.1, Option.bind_some]
  have tail : (runL (impl_GateRule_ok.B4 n) ((fun z4 => some (z4.1, ())), (fun z5 => some (true, ())), ()) n (r, r.1, (List.length r.1 : Int), (0 : Int), ()) : Option (Tup [.bool])) = some (!(List.range (List.length r.1)).any (badVerb r.1), ()) := by
    refine (runL_any (len := List.length r.1) (fun i => (r, r.1, (List.length r.1 : Int), (i : Int), ())) (badVerb r.1) (some (false, ())) (some (true, ())) ?_ ?_ (by omega)).trans ?_
    · intro next i hi
      simp only [impl_GateRule_ok.B4, lt_dec hi, in_dec hi, Bool.or_true, if_true, Int.toNat_natCast, badVerb, wrap_next hi hl, gIn_not]
      by_cases h0 : 0 < i
      · have e : decide ((i : Int) > 0) = true := decide_eq_true (by omega)
        simp only [e, decide_eq_true h0, gPred_wrap h0 (by omega), gPred_in h0 hi, Int.toNat_natCast, Bool.or_true, if_true, Bool.true_and]
        try rfl
      · have e : decide ((i : Int) > 0) = false := decide_eq_false (by omega)
        simp only [e, decide_eq_false h0, Bool.and_false, Bool.not_false, Bool.true_or, if_true, Bool.false_and]
        try rfl
    · intro next
      simp only [impl_GateRule_ok.B4, lt_dec', Bool.false_eq_true, if_false]
    · cases (List.range (List.length r.1)).any (badVerb r.1) <;> simp
  rw [tail]
  rcases Bool.eq_false_or_eq_true ((List.length r.1 : Int) == (0 : Int)) with c1 | c1
  · simp only [c1]; rfl
  rcases Bool.eq_false_or_eq_true (decide ((ByteArray.size r.2.2.2.1 : Int) > (16 : Int))) with c2 | c2 <;> rcases Bool.eq_false_or_eq_true (bytesOkD r.2.2.2.1) with c3 | c3 <;> rcases Bool.eq_false_or_eq_true (seq r.2.1 ⟨#[]⟩) with c5 | c5 <;> rcases Bool.eq_false_or_eq_true (seq r.2.2.1 ⟨#[]⟩) with c6 | c6 <;> rcases Bool.eq_false_or_eq_true (nameOkD r.2.1) with c7 | c7 <;> rcases Bool.eq_false_or_eq_true (nameOkD r.2.2.1) with c8 | c8 <;>
    simp only [c1, c2, c3, c5, c6, c7, c8, tzero, Bool.not_true, Bool.not_false, Bool.or_false, Bool.or_true, Bool.true_or, Bool.false_or, Bool.and_true, Bool.true_and, Bool.and_false, Bool.false_and, Bool.or_self, Bool.and_self, Bool.false_eq_true, if_false, if_true, Option.bind_some, reduceIte] <;> rfl

def hasB (a v : Int) : Bool := (bitsI .and .u16 (shrI .u16 a v) (1 : Int)) == (1 : Int)
def verbD (l : List Int) (v : Int) : Bool := (List.range l.length).any (fun i => List.getD l i 0 == v)
def orF (l : List Int) (i : Nat) (a : Int) : Int := bitsI .or .u16 a (shlI .u16 (1 : Int) (List.getD l i 0))

theorem bits_step : ∀ (k : Fin 64) (w v : Fin 6), hasB (bitsI .or .u16 (k.val : Int) (shlI .u16 1 (w.val : Int))) (v.val : Int) = (hasB (k.val : Int) (v.val : Int) || (w.val == v.val)) := by decide +kernel
theorem bits_low : ∀ (k : Fin 64) (w : Fin 6), (bitsI .or .u16 (k.val : Int) (shlI .u16 1 (w.val : Int))) = (((bitsI .or .u16 (k.val : Int) (shlI .u16 1 (w.val : Int))).toNat : Nat) : Int) ∧ (bitsI .or .u16 (k.val : Int) (shlI .u16 1 (w.val : Int))).toNat < 64 := by decide +kernel
theorem bits_none : ∀ v : Fin 6, hasB 0 (v.val : Int) = false := by decide +kernel

theorem foldl_inv {A : Type} (g : Nat → A → A) (inv : Nat → A → Prop) {m : Nat} (h : ∀ i a, i < m → inv i a → inv (i + 1) (g i a)) : ∀ k, k ≤ m → ∀ a, inv 0 a → inv k ((List.range k).foldl (fun a i => g i a) a) := by
  intro k
  induction k with
  | zero => intro _ a ha; exact ha
  | succ k ih =>
    intro hk a ha
    rw [List.range_succ, List.foldl_append]
    exact h k _ (by omega) (ih (by omega) a ha)

theorem u64_wrap {a : Int} (h0 : 0 ≤ a) (h1 : a < 1000) : IntKind.u64.wrap a = a := by
  have h : IntKind.u64.wrap a = if (false && decide (a % 18446744073709551616 ≥ 9223372036854775808)) = true then a % 18446744073709551616 - 18446744073709551616 else a % 18446744073709551616 := rfl
  rw [h]
  simp only [Bool.false_and, Bool.false_eq_true, if_false]
  omega

theorem verbs_fin {l : List Int} {i : Nat} (h : gIn (List.getD l i 0) 1 5 = true) : ∃ w : Fin 6, List.getD l i 0 = (w.val : Int) := by
  unfold gIn at h
  simp only [Bool.and_eq_true, decide_eq_true_eq] at h
  exact ⟨⟨(List.getD l i 0).toNat, by omega⟩, by simp only; omega⟩

theorem set_has {l : List Int} (h : ∀ i, i < l.length → gIn (List.getD l i 0) 1 5 = true) (v : Fin 6) : hasB ((List.range l.length).foldl (fun a i => orF l i a) 0) (v.val : Int) = verbD l (v.val : Int) := by
  have := foldl_inv (orF l) (fun i a => (∃ k : Fin 64, a = (k.val : Int)) ∧ ∀ v : Fin 6, hasB a (v.val : Int) = (List.range i).any (fun j => List.getD l j 0 == (v.val : Int))) (m := l.length) (fun i a hi ha => by
    obtain ⟨⟨k, rfl⟩, hv⟩ := ha
    obtain ⟨w, hw⟩ := verbs_fin (h i hi)
    obtain ⟨hl1, hl2⟩ := bits_low k w
    unfold orF
    rw [hw]
    refine ⟨⟨⟨_, hl2⟩, hl1⟩, fun v => ?_⟩
    rw [bits_step, hv, List.range_succ, List.any_append]
    simp only [List.any_cons, List.any_nil, Bool.or_false, hw]
    congr 1
    rw [Bool.eq_iff_iff, beq_iff_eq, beq_iff_eq]
    omega) l.length (Nat.le_refl _) 0 ⟨⟨⟨0, by omega⟩, rfl⟩, fun v => bits_none v⟩
  exact this.2 v

include hn in
theorem implSet_ok (l : List Int) (hl : l.length ≤ 1048576) (h : ∀ i, i < l.length → gIn (List.getD l i 0) 1 5 = true) : impl_setOf.f n (l, ()) = some ((List.range l.length).foldl (fun a i => orF l i a) 0, ()) := by
  have hn' : 18446744073709551616 ≤ n := hn
  unfold impl_setOf.f
  refine runL_fold (len := l.length) (fun i (a : Int) => (a, l, (l.length : Int), (i : Int), ())) (fun i a => True) (orF l) (fun a => some (a, ())) ?_ ?_ (by omega) trivial
  · intro next i a hi _
    refine ⟨trivial, ?_⟩
    have hg := h i hi
    unfold gIn at hg
    simp only [Bool.and_eq_true, decide_eq_true_eq] at hg
    have e1 : decide (List.getD l i 0 ≥ (0 : Int)) = true := decide_eq_true (by omega)
    have e2 : decide (List.getD l i 0 < (16 : Int)) = true := decide_eq_true (by omega)
    have e3 : IntKind.u64.wrap (List.getD l i 0) = List.getD l i 0 := u64_wrap (by omega) (by omega)
    have e4 : decide (0 ≤ List.getD l i 0) = true := decide_eq_true (by omega)
    simp only [impl_setOf.B3, lt_dec hi, in_dec hi, if_true, Int.toNat_natCast, wrap_next hi hl, e1, e2, e3, e4, Bool.and_self, orF]
  · intro next a _
    simp only [impl_setOf.B3, lt_dec', Bool.false_eq_true, if_false]

theorem implHas_ok (a : Int) (v : Fin 6) : impl_verbSet_has.f n (a, (v.val : Int), ()) = some (hasB a (v.val : Int), ()) := by
  have e1 : decide ((v.val : Int) ≥ (0 : Int)) = true := decide_eq_true (by omega)
  have e2 : decide ((v.val : Int) < (16 : Int)) = true := decide_eq_true (by omega)
  have e3 : IntKind.u64.wrap (v.val : Int) = (v.val : Int) := u64_wrap (by omega) (by omega)
  have e4 : decide (0 ≤ (v.val : Int)) = true := decide_eq_true (by omega)
  unfold impl_verbSet_has.f hasB
  simp only [e1, e2, e3, e4, Bool.and_self, Bool.or_true, if_true, Bool.true_and]

include hn in
theorem specVerb_ok (r : Ty.den tGateRule) (v : Int) (hl : List.length r.1 ≤ 1048576) : spec_l4Verb.f n (r, v, ()) = some (verbD r.1 v, ()) := by
  have hn' : 18446744073709551616 ≤ n := hn
  unfold spec_l4Verb.f verbD
  refine (runL_any (len := List.length r.1) (fun i => (v, r, (i : Int), ())) (fun i => List.getD r.1 i 0 == v) (some (true, ())) (some (false, ())) ?_ ?_ (by omega)).trans ?_
  · intro next i hi
    simp only [spec_l4Verb.B2, lt_dec hi, in_dec hi, if_true, Int.toNat_natCast, wrap_next hi hl]
  · intro next
    simp only [spec_l4Verb.B2, lt_dec', Bool.false_eq_true, if_false]
  · cases (List.range (List.length r.1)).any (fun i => List.getD r.1 i 0 == v) <;> rfl

def beginsD (s t : ByteArray) : Bool := (decide ((ByteArray.size s : Int) ≥ (ByteArray.size t : Int))) && (seq (ByteArray.extract s (Int.toNat (0 : Int)) (Int.toNat (ByteArray.size t : Int))) t)
theorem begins_guard (s t : ByteArray) : (!(decide ((ByteArray.size s : Int) ≥ (ByteArray.size t : Int))) || (decide (0 ≤ (0 : Int) ∧ (0 : Int) ≤ (ByteArray.size t : Int) ∧ (ByteArray.size t : Int) ≤ (ByteArray.size s : Int)))) = true := by
  by_cases h : (ByteArray.size s : Int) ≥ (ByteArray.size t : Int)
  · rw [decide_eq_true (show 0 ≤ (0 : Int) ∧ (0 : Int) ≤ (ByteArray.size t : Int) ∧ (ByteArray.size t : Int) ≤ (ByteArray.size s : Int) by omega), Bool.or_true]
  · rw [decide_eq_false h]; rfl
theorem specBegins_ok (s t : ByteArray) : spec_l4Begins.f n (s, t, ()) = some (beginsD s t, ()) := by
  unfold spec_l4Begins.f
  simp only [begins_guard, if_true]
  rfl
theorem implBegins_ok (s t : ByteArray) : strings_HasPrefix.f n (s, t, ()) = some (beginsD s t, ()) := by
  unfold strings_HasPrefix.f stringslite_HasPrefix.f
  simp only [begins_guard, if_true]
  rfl

theorem rule_verbs {r : Ty.den tGateRule} (h : ruleOkD r = true) : ∀ i, i < List.length r.1 → gIn (List.getD r.1 i 0) 1 5 = true := by
  intro i hi
  unfold ruleOkD at h
  simp only [Bool.and_eq_true, Bool.not_eq_true'] at h
  have := h.1.2
  rw [List.any_eq_false] at this
  have := this i (List.mem_range.2 hi)
  unfold badVerb at this
  simp only [Bool.or_eq_true, Bool.not_eq_true', not_or] at this
  simpa using this.1

end

section
variable {n : Nat} (hn : Big n)

theorem set_low {l : List Int} (h : ∀ i, i < l.length → gIn (List.getD l i 0) 1 5 = true) : ∃ k : Fin 64, (List.range l.length).foldl (fun a i => orF l i a) 0 = (k.val : Int) :=
  foldl_inv (orF l) (fun i a => ∃ k : Fin 64, a = (k.val : Int)) (m := l.length) (fun i a hi ha => by
    obtain ⟨k, rfl⟩ := ha
    obtain ⟨w, hw⟩ := verbs_fin (h i hi)
    obtain ⟨hl1, hl2⟩ := bits_low k w
    unfold orF
    rw [hw]
    exact ⟨⟨_, hl2⟩, hl1⟩) l.length (Nat.le_refl _) 0 ⟨⟨0, by omega⟩, rfl⟩

theorem bits_high : ∀ (k : Fin 64) (v : Fin 16), 6 ≤ v.val → hasB (k.val : Int) (v.val : Int) = false := by decide +kernel

theorem verbD_out {l : List Int} (h : ∀ i, i < l.length → gIn (List.getD l i 0) 1 5 = true) {v : Int} (hv : ¬ (0 ≤ v ∧ v ≤ 5)) : verbD l v = false := by
  unfold verbD
  rw [List.any_eq_false]
  intro i hi
  have hg := h i (List.mem_range.1 hi)
  unfold gIn at hg
  simp only [Bool.and_eq_true, decide_eq_true_eq] at hg
  rw [beq_iff_eq]
  omega

theorem implHasAny_ok {l : List Int} (h : ∀ i, i < l.length → gIn (List.getD l i 0) 1 5 = true) (v : Int) : impl_verbSet_has.f n ((List.range l.length).foldl (fun a i => orF l i a) 0, v, ()) = some (verbD l v, ()) := by
  by_cases h5 : 0 ≤ v ∧ v ≤ 5
  · obtain ⟨w, rfl⟩ : ∃ w : Fin 6, v = (w.val : Int) := ⟨⟨v.toNat, by omega⟩, by simp only; omega⟩
    have e : impl_verbSet_has.f n ((List.range l.length).foldl (fun a i => orF l i a) 0, (w.val : Int), ()) = _ := implHas_ok _ w
    rw [e, set_has h]
  · rw [verbD_out h h5]
    unfold impl_verbSet_has.f
    by_cases h16 : 0 ≤ v ∧ v < 16
    · obtain ⟨k, hk⟩ := set_low h
      obtain ⟨w, rfl⟩ : ∃ w : Fin 16, v = (w.val : Int) := ⟨⟨v.toNat, by omega⟩, by simp only; omega⟩
      have hb := bits_high k w (by omega)
      unfold hasB at hb
      have e1 : decide ((w.val : Int) ≥ (0 : Int)) = true := decide_eq_true (by omega)
      have e2 : decide ((w.val : Int) < (16 : Int)) = true := decide_eq_true (by omega)
      have e3 : IntKind.u64.wrap (w.val : Int) = (w.val : Int) := u64_wrap (by omega) (by omega)
      have e4 : decide (0 ≤ (w.val : Int)) = true := decide_eq_true (by omega)
      simp only [e1, e2, e3, e4, hk, hb, Bool.and_self, Bool.or_true, if_true, Bool.true_and]
    · have e : ((decide (v ≥ (0 : Int))) && (decide (v < (16 : Int)))) = false := by
        rw [Bool.and_eq_false_iff]
        by_cases h0 : v ≥ 0
        · exact .inr (decide_eq_false (by omega))
        · exact .inl (decide_eq_false h0)
      simp only [e, Bool.not_false, Bool.true_or, if_true, Bool.false_and]

def reachD (t : List (Ty.den tGateTeam)) (r : Ty.den tGateRule) (a : Ty.den tGateAct) : Bool :=
  (((verbD r.1 a.1 && ((seq r.2.1 (⟨#[]⟩ : ByteArray)) || (seq r.2.1 a.2.1))) && ((seq r.2.2.1 (⟨#[]⟩ : ByteArray)) || underOf t a.2.2.1 r.2.2.1)) && beginsD a.2.2.2.1 r.2.2.2.1)

include hn in
theorem implReach_ok (t : List (Ty.den tGateTeam)) (r : Ty.den tGateRule) (a : Ty.den tGateAct) (ht : t.length ≤ 1048576) (hr : List.length r.1 ≤ 1048576) (hok : ruleOkD r = true) : impl_GateRule_reaches.f n (r, t, a, ()) = some (reachD t r a, ()) := by
  unfold impl_GateRule_reaches.f reachD
  have e0 : impl_setOf.f n (r.1, ()) = _ := implSet_ok hn r.1 hr (rule_verbs hok)
  have e1 : impl_verbSet_has.f n (List.foldl (fun a i => orF r.1 i a) 0 (List.range (List.length r.1)), a.1, ()) = _ := implHasAny_ok (rule_verbs hok) a.1
  have e2 : impl_GateUnder.f n (t, a.2.2.1, r.2.2.1, ()) = _ := implUnder_ok hn t ht a.2.2.1 r.2.2.1
  have e3 : strings_HasPrefix.f n (a.2.2.2.1, r.2.2.2.1, ()) = _ := implBegins_ok a.2.2.2.1 r.2.2.2.1
  simp only [e0, e1, e2, e3, Option.bind_some, if_true]
  rcases Bool.eq_false_or_eq_true (verbD r.1 a.1) with c1 | c1 <;> rcases Bool.eq_false_or_eq_true (seq r.2.1 ⟨#[]⟩) with c2 | c2 <;> rcases Bool.eq_false_or_eq_true (seq r.2.1 a.2.1) with c3 | c3 <;> rcases Bool.eq_false_or_eq_true (seq r.2.2.1 ⟨#[]⟩) with c4 | c4 <;> rcases Bool.eq_false_or_eq_true (underOf t a.2.2.1 r.2.2.1) with c6 | c6 <;>
    simp only [c1, c2, c3, c4, c6, tzero, Bool.not_true, Bool.not_false, Bool.or_false, Bool.or_true, Bool.true_or, Bool.false_or, Bool.and_true, Bool.true_and, Bool.and_false, Bool.false_and, Bool.or_self, Bool.and_self, Bool.false_eq_true, if_false, if_true, Option.bind_some, reduceIte] <;> rfl

include hn in
theorem specReach_ok (t : List (Ty.den tGateTeam)) (r : Ty.den tGateRule) (a : Ty.den tGateAct) (ht : t.length ≤ 1048576) (hr : List.length r.1 ≤ 1048576) : spec_l4Allows.f n (t, r, a, ()) = some (reachD t r a, ()) := by
  unfold spec_l4Allows.f reachD
  have e1 : spec_l4Verb.f n (r, a.1, ()) = _ := specVerb_ok hn r a.1 hr
  have e2 : spec_GateUnder.f n (t, a.2.2.1, r.2.2.1, ()) = _ := specUnder_ok hn t ht a.2.2.1 r.2.2.1
  have e3 : spec_l4Begins.f n (a.2.2.2.1, r.2.2.2.1, ()) = _ := specBegins_ok a.2.2.2.1 r.2.2.2.1
  simp only [e1, e2, e3, Option.bind_some]
  rcases Bool.eq_false_or_eq_true (verbD r.1 a.1) with c1 | c1 <;> rcases Bool.eq_false_or_eq_true (seq r.2.1 ⟨#[]⟩) with c2 | c2 <;> rcases Bool.eq_false_or_eq_true (seq r.2.1 a.2.1) with c3 | c3 <;> rcases Bool.eq_false_or_eq_true (seq r.2.2.1 ⟨#[]⟩) with c4 | c4 <;> rcases Bool.eq_false_or_eq_true (underOf t a.2.2.1 r.2.2.1) with c6 | c6 <;>
    simp only [c1, c2, c3, c4, c6, tzero, Bool.not_true, Bool.not_false, Bool.or_false, Bool.or_true, Bool.true_or, Bool.false_or, Bool.and_true, Bool.true_and, Bool.and_false, Bool.false_and, Bool.or_self, Bool.and_self, Bool.false_eq_true, if_false, if_true, Option.bind_some, reduceIte] <;> rfl

def allowsD (t : List (Ty.den tGateTeam)) (r : Ty.den tGateRule) (a : Ty.den tGateAct) : Bool := (teamsOkD t && ruleOkD r) && reachD t r a

include hn in
theorem specAllows_ok (t : List (Ty.den tGateTeam)) (r : Ty.den tGateRule) (a : Ty.den tGateAct) (ht : small 1048576 (.slice tGateTeam) t) (hr : small 1048576 tGateRule r) : spec_GateAllows.f n (t, r, a, ()) = some (allowsD t r a, ()) := by
  unfold spec_GateAllows.f allowsD
  have e0 : spec_GateTeamsOk.f n (t, ()) = _ := specTeams_ok hn t ht
  have e1 : spec_l4RuleOk.f n (r, ()) = _ := specRule_ok hn r hr
  have e2 : spec_l4Allows.f n (t, r, a, ()) = _ := specReach_ok hn t r a ht.1 hr.1.1
  simp only [e0, e1, e2, Option.bind_some]
  rcases Bool.eq_false_or_eq_true (teamsOkD t) with c1 | c1 <;> rcases Bool.eq_false_or_eq_true (ruleOkD r) with c2 | c2 <;>
    simp only [c1, c2, tzero, Bool.and_true, Bool.true_and, Bool.and_false, Bool.false_and, Bool.and_self, Bool.false_eq_true, if_false, if_true, Option.bind_some, reduceIte] <;> rfl

include hn in
theorem implAllows_ok (t : List (Ty.den tGateTeam)) (r : Ty.den tGateRule) (a : Ty.den tGateAct) (ht : small 1048576 (.slice tGateTeam) t) (hr : small 1048576 tGateRule r) : impl_GateAllows.f n (t, r, a, ()) = some (allowsD t r a, ()) := by
  unfold impl_GateAllows.f allowsD
  have e0 : impl_GateTeamsOk.f n (t, ()) = _ := implTeams_ok hn t ht
  have e1 : impl_GateRule_ok.f n (r, ()) = _ := implGRule_ok hn r hr
  simp only [e0, e1, Option.bind_some]
  rcases Bool.eq_false_or_eq_true (teamsOkD t) with c1 | c1
  rotate_left
  · simp only [c1, Bool.not_false, Bool.not_true, Bool.true_or, Bool.false_eq_true, if_false, if_true, Option.bind_some, Bool.false_and]
  rcases Bool.eq_false_or_eq_true (ruleOkD r) with c2 | c2
  rotate_left
  · simp only [c1, c2, Bool.not_false, Bool.not_true, Bool.or_true, Bool.false_eq_true, if_false, if_true, Option.bind_some, Bool.and_false, Bool.false_and]
  have e2 : impl_GateRule_reaches.f n (r, t, a, ()) = _ := implReach_ok hn t r a ht.1 hr.1.1 c2
  simp only [c1, c2, e2, Bool.not_false, Bool.not_true, Bool.or_false, Bool.false_eq_true, if_false, if_true, Option.bind_some, Bool.and_self, Bool.true_and]
end

theorem pure_law (n : Nat) (hn : Big n) (x : Tup [.slice tGateTeam, tGateRule, tGateAct]) (hw : wfT [.slice tGateTeam, tGateRule, tGateAct] x) : laws_FnExactGateAllows.f n x = some (true, ()) := by
  obtain ⟨t, r, a, ⟨⟩⟩ := x
  obtain ⟨hw1, hw2, hw3, _⟩ := hw
  unfold laws_FnExactGateAllows.f
  have h1 : laws_szGateTeamS.f n (t, 1048576, ()) = _ := laws_szGateTeamS_ok n hn t hw1 1048576 (by omega) (by omega)
  simp only [h1, Option.bind_some]
  by_cases hb1 : (bulk (.slice tGateTeam) t : Int) ≤ 1048576
  rotate_left
  · rw [subL_neg hb1, if_pos (by decide)]
  have hs1 : small 1048576 (.slice tGateTeam) t := small_of_bulk (by omega)
  rw [subL_pos hb1, if_neg (by simp; omega)]
  have h2 : laws_szGateRule.f n (r, 1048576 - (bulk (.slice tGateTeam) t : Int), ()) = _ := laws_szGateRule_ok n hn r hw2 _ (by omega) (by omega)
  simp only [h2, Option.bind_some]
  by_cases hb2 : (bulk tGateRule r : Int) ≤ 1048576 - (bulk (.slice tGateTeam) t : Int)
  rotate_left
  · rw [subL_neg hb2, if_pos (by decide)]
  have hs2 : small 1048576 tGateRule r := small_of_bulk (by omega)
  rw [subL_pos hb2, if_neg (by simp; omega)]
  have h3 : laws_szGateAct.f n (a, 1048576 - (bulk (.slice tGateTeam) t : Int) - (bulk tGateRule r : Int), ()) = _ := laws_szGateAct_ok n hn a hw3 _ (by omega) (by omega)
  simp only [h3, Option.bind_some]
  by_cases hb3 : (bulk tGateAct a : Int) ≤ 1048576 - (bulk (.slice tGateTeam) t : Int) - (bulk tGateRule r : Int)
  rotate_left
  · rw [subL_neg hb3, if_pos (by decide)]
  have hs3 : small 1048576 tGateAct a := small_of_bulk (by omega)
  rw [subL_pos hb3, if_neg (by simp; omega)]
  have e1 : spec_GateAllows.f n (t, r, a, ()) = _ := specAllows_ok hn t r a hs1 hs2
  have e2 : impl_GateAllows.f n (t, r, a, ()) = _ := implAllows_ok hn t r a hs1 hs2
  simp only [laws_toGateTeamS_ok n hn t hs1, laws_toGateRule_ok n hn r hs2, laws_toGateAct_ok n hn a hs3, Option.bind_some, if_true, e1, e2, laws_eqGateTeamS_ok n hn (t, t, ()) hs1, laws_eqGateRule_ok n hn (r, r, ()) hs2, eqD_refl, beq_self_eq_true, Bool.not_true, Bool.false_eq_true, if_false]

end Go.Proofs.Ytakbelofppdkhaa
