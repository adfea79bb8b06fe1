/- The law FnExactStewRank: what the program tells and what the reference tells are one, for all arguments (the plain law, over printed pure functions). No conditions. -/
import Derived.Test.YtjbpccinpcpdkaeP
set_option linter.unusedVariables false
set_option linter.unusedSimpArgs false
namespace Go.Proofs.Ytjbpccinpcpdkae
open Go Go.Vm
/-! ### the steward's books -/
section
variable {n : Nat} (hn : Big n)

theorem sGetD_lt {X : Type} (l : List X) (i : Nat) (z : X) (h : i < l.length) : l.getD i z = l[i] := by simp [h]
theorem sPred_wrap {i : Nat} (h : 0 < i) (hi : i ≤ 1048576) : IntKind.i64.wrap ((i : Int) - 1) = ((i - 1 : Nat) : Int) := by
  rw [wrap_eq (by omega) (by omega)]; omega
theorem sPred_in {i len : Nat} (h : 0 < i) (hi : i < len) : decide (0 ≤ ((i - 1 : Nat) : Int) ∧ ((i - 1 : Nat) : Int) < (len : Int)) = true := decide_eq_true (by omega)

def sIn (a lo hi : Int) : Bool := (decide (a ≥ lo)) && (decide (a ≤ hi))
theorem specSIn_ok (x : Tup [.int .i64, .int .i64, .int .i64]) : spec_l12In.f n x = some (sIn x.1 x.2.1 x.2.2.1, ()) := rfl
theorem implSIn_ok (x : Tup [.int .i64, .int .i64, .int .i64]) : impl_within.f n x = some (sIn x.1 x.2.1 x.2.2.1, ()) := rfl
theorem sIn_iff {a lo hi : Int} : sIn a lo hi = true ↔ lo ≤ a ∧ a ≤ hi := by
  unfold sIn
  simp only [Bool.and_eq_true, decide_eq_true_eq, ge_iff_le]
theorem sIn_false {a lo hi : Int} : sIn a lo hi = false ↔ ¬ (lo ≤ a ∧ a ≤ hi) := by
  rw [← sIn_iff, Bool.not_eq_true]

def badLetter (s : ByteArray) (i : Nat) : Bool := !((((decide ((byteAt s (i : Int)) ≥ (97 : Int))) && (decide ((byteAt s (i : Int)) ≤ (122 : Int)))) || ((decide ((byteAt s (i : Int)) ≥ (48 : Int))) && (decide ((byteAt s (i : Int)) ≤ (57 : Int))))) || ((byteAt s (i : Int)) == (45 : Int)))
def sName (s : ByteArray) : Bool := sIn (s.size : Int) 1 20 && !(List.range s.size).any (badLetter s)

include hn in
theorem specSName_ok (s : ByteArray) : spec_l12NameOk.f n (s, ()) = some (sName s, ()) := by
  have hn' : 18446744073709551616 ≤ n := hn
  unfold spec_l12NameOk.f sName
  simp only [specSIn_ok, Option.bind_some]
  rcases Bool.eq_false_or_eq_true (sIn (s.size : Int) 1 20) with c | c
  rotate_left
  · simp [c]
  have hl : s.size ≤ 1048576 := by rw [sIn_iff] at c; omega
  simp only [c, Bool.not_true, Bool.false_eq_true, if_false, Bool.true_and]
  refine (runL_any (len := s.size) (fun i => (s, (i : Int), ())) (badLetter s) (some (false, ())) (some (true, ())) ?_ ?_ (by omega)).trans (by cases (List.range s.size).any (badLetter s) <;> rfl)
  · intro next i hi
    simp only [spec_l12NameOk.B4, lt_dec hi, in_dec hi, if_true, wrap_next hi hl, badLetter]
    rfl
  · intro next
    simp only [spec_l12NameOk.B4, lt_dec', Bool.false_eq_true, if_false]

include hn in
theorem implSName_ok (s : ByteArray) : impl_isName_stew.f n (s, ()) = some (sName s, ()) := by
  have hn' : 18446744073709551616 ≤ n := hn
  unfold impl_isName_stew.f sName
  have e : ((decide ((ByteArray.size s : Int) < (1 : Int))) || (decide ((ByteArray.size s : Int) > (20 : Int)))) = !sIn (s.size : Int) 1 20 := by
    unfold sIn
    rw [Bool.not_and, Bool.eq_iff_iff]
    simp only [Bool.or_eq_true, decide_eq_true_eq, Bool.not_eq_true', decide_eq_false_iff_not]
    omega
  simp only [e]
  rcases Bool.eq_false_or_eq_true (sIn (s.size : Int) 1 20) with c | c
  rotate_left
  · simp [c]
  have hl : s.size ≤ 1048576 := by rw [sIn_iff] at c; omega
  simp only [c, Bool.not_true, Bool.false_eq_true, if_false, Bool.true_and]
  refine (runL_any (len := s.size) (fun i => (s, (s.size : Int), (i : Int), ())) (badLetter s) (some (false, ())) (some (true, ())) ?_ ?_ (by omega)).trans (by cases (List.range s.size).any (badLetter s) <;> rfl)
  · intro next i hi
    simp only [impl_isName_stew.B4, lt_dec hi, in_dec hi, if_true, wrap_next hi hl, badLetter]
    rfl
  · intro next
    simp only [impl_isName_stew.B4, lt_dec', Bool.false_eq_true, if_false]

include hn in
theorem service_same (s : Ty.den tStewService) (y : Int) : ∃ b : Bool, spec_l12ServiceOk.f n (s, y, ()) = some (b, ()) ∧ impl_serviceOk.f n (s, y, ()) = some (b, ()) := by
  obtain ⟨nm, a1, a2, a3, a4, a5, a6, a7, z, p, q, r, t, ⟨⟩⟩ := s
  change Int at a1 a3 a4 a5 a6 a7 z p q r t
  unfold spec_l12ServiceOk.f impl_serviceOk.f
  simp only [specSName_ok hn, implSName_ok hn, specSIn_ok, implSIn_ok, Option.bind_some, guarded]
  generalize hB : (_ || (IntKind.i64.wrap (a5 + a6) == 0)) = B
  cases B with
  | true => exact ⟨false, rfl, rfl⟩
  | false =>
    simp only [Bool.false_eq_true, if_false]
    by_cases hz : z = 0
    · subst hz
      refine ⟨_, rfl, ?_⟩
      have h0 : sIn 0 0 1000000 = true := by decide
      by_cases h1 : p = 0 ∧ q = 0 ∧ r = 0 ∧ t = 0
      · obtain ⟨rfl, rfl, rfl, rfl⟩ := h1
        rfl
      · have hz : ((((p == (0 : Int)) && (q == (0 : Int))) && (r == (0 : Int))) && (t == (0 : Int))) = false := by
          rw [Bool.eq_false_iff]
          simp only [ne_eq, Bool.and_eq_true, beq_iff_eq]
          omega
        simp only [hz, decide_eq_false (show ¬ (0 : Int) > 0 by omega), Bool.or_false, Bool.or_self, beq_self_eq_true, if_true, ite_self]
        try rfl
    · have hz' : (z == (0 : Int)) = false := by simpa using hz
      simp only [hz', Bool.false_eq_true, if_false]
      refine ⟨_, rfl, ?_⟩
      rcases Bool.eq_false_or_eq_true (sIn z 0 1000000) with c1 | c1
      rotate_left
      · simp [c1]
      rcases Bool.eq_false_or_eq_true (sIn r 0 1000000) with c2 | c2
      rotate_left
      · simp [c1, c2, tzero]
      rcases Bool.eq_false_or_eq_true (sIn p 0 10) with c3 | c3
      rotate_left
      · simp [c1, c2, c3, tzero]
      have hpos : z > 0 := by rw [sIn_iff] at c1; omega
      by_cases hq : sIn q p 10 = true
      · have h0 : sIn q 0 10 = true := by rw [sIn_iff] at hq c3 ⊢; omega
        have h1 : ¬ p > q := by rw [sIn_iff] at hq; omega
        simp [c1, c2, c3, hq, h0, h1, decide_eq_true hpos]
        cases sIn t 0 3 <;> rfl
      · have hq := Bool.eq_false_iff.2 hq
        by_cases h0 : sIn q 0 10 = true
        · have h1 : p > q := by rw [sIn_false] at hq; rw [sIn_iff] at h0; omega
          simp [c1, c2, c3, hq, h0, h1, tzero]
        · have h0 := Bool.eq_false_iff.2 h0
          simp [c1, c2, c3, hq, h0, tzero]

def sService (n : Nat) (s : Ty.den tStewService) (y : Int) : Bool := ((spec_l12ServiceOk.f n (s, y, ())).getD (false, ())).1
include hn in
theorem services_ok (s : Ty.den tStewService) (y : Int) : spec_l12ServiceOk.f n (s, y, ()) = some (sService n s y, ()) ∧ impl_serviceOk.f n (s, y, ()) = some (sService n s y, ()) := by
  obtain ⟨b, h1, h2⟩ := service_same hn s y
  unfold sService
  rw [h1, h2]
  exact ⟨rfl, rfl⟩
end

/-! ### the two verdicts on a book -/
section
variable {n : Nat} (hn : Big n)

theorem bytesLess_total : ∀ a b : List UInt8, (Op.bytesLess b a || (b == a)) = !Op.bytesLess a b
  | [], [] => rfl
  | [], _ :: _ => rfl
  | _ :: _, [] => rfl
  | x :: a, y :: b => by
    have ih := bytesLess_total a b
    simp only [Op.bytesLess]
    rcases Nat.lt_trichotomy x.toNat y.toNat with h | h | h
    · have h1 : x < y := UInt8.lt_iff_toNat_lt.2 h
      have h2 : ¬ y < x := fun hh => by have := UInt8.lt_iff_toNat_lt.1 hh; omega
      have h3 : y ≠ x := fun hh => by subst hh; omega
      simp [h1, h2, h3]
    · have : x = y := UInt8.toNat_inj.1 h
      subst this
      simpa using ih
    · have h1 : y < x := UInt8.lt_iff_toNat_lt.2 h
      have h2 : ¬ x < y := fun hh => by have := UInt8.lt_iff_toNat_lt.1 hh; omega
      have h3 : x ≠ y := fun hh => by subst hh; omega
      simp [h1, h2, h3]
theorem slt_total (a b : ByteArray) : (slt b a || seq b a) = !slt a b := bytesLess_total _ _

theorem fidx_ge' {X : Type} (p : X → Bool) (l : List X) : decide (fidx p l ≥ 0) = (l.findIdx? p).isSome := by
  cases h : l.findIdx? p with
  | none => rw [fidx_none h]; rfl
  | some i => rw [fidx_some h]; exact decide_eq_true (by omega)

def svcIdx (b : Ty.den tStewBook) (nm : ByteArray) : Option Nat := List.findIdx? (fun t : Ty.den tStewService => seq t.1 nm) b.2.1
def berthIdx (b : Ty.den tStewBook) (nm : ByteArray) : Option Nat := List.findIdx? (fun t : Ty.den tStewBerth => seq t.1 nm) b.2.2.2.1
def svcAt (b : Ty.den tStewBook) (i : Nat) : Ty.den tStewService := List.getD b.2.1 i (Ty.zero tStewService)
def berthAt (b : Ty.den tStewBook) (i : Nat) : Ty.den tStewBerth := List.getD b.2.2.2.1 i (Ty.zero tStewBerth)
def copyAt (b : Ty.den tStewBook) (i : Nat) : Ty.den tStewCopy := List.getD b.2.2.1 i (Ty.zero tStewCopy)

theorem svcIdx_lt {b : Ty.den tStewBook} {nm : ByteArray} {i : Nat} (h : svcIdx b nm = some i) : i < List.length b.2.1 := findIdx?_lt h

include hn in
theorem specSvc_ok (b : Ty.den tStewBook) (nm : ByteArray) (hl : List.length b.2.1 ≤ 1048576) : spec_l12Service.f n (b, nm, ()) = some (fidx (fun t : Ty.den tStewService => seq t.1 nm) b.2.1, ()) := by
  have hn' : 18446744073709551616 ≤ n := hn
  unfold spec_l12Service.f
  refine (runL_find (l := b.2.1) (fun i => (nm, b, (i : Int), ())) (fun t : Ty.den tStewService => seq t.1 nm) (fun i => some ((i : Int), ())) (some (-1, ())) ?_ ?_ (by omega)).trans ?_
  · intro next i hi
    simp only [spec_l12Service.B2, lt_dec hi, in_dec hi, wrap_next hi hl, if_true]
    rw [getD_nat _ _ _ hi]
  · intro next
    simp only [spec_l12Service.B2, lt_dec', Bool.false_eq_true, if_false]
  · simp only [fidx]
    cases List.findIdx? (fun t : Ty.den tStewService => seq t.1 nm) b.2.1 <;> rfl

include hn in
theorem specBerth_ok (b : Ty.den tStewBook) (nm : ByteArray) (hl : List.length b.2.2.2.1 ≤ 1048576) : spec_l12Berth.f n (b, nm, ()) = some (fidx (fun t : Ty.den tStewBerth => seq t.1 nm) b.2.2.2.1, ()) := by
  have hn' : 18446744073709551616 ≤ n := hn
  unfold spec_l12Berth.f
  refine (runL_find (l := b.2.2.2.1) (fun i => (nm, b, (i : Int), ())) (fun t : Ty.den tStewBerth => seq t.1 nm) (fun i => some ((i : Int), ())) (some (-1, ())) ?_ ?_ (by omega)).trans ?_
  · intro next i hi
    simp only [spec_l12Berth.B2, lt_dec hi, in_dec hi, wrap_next hi hl, if_true]
    rw [getD_nat _ _ _ hi]
  · intro next
    simp only [spec_l12Berth.B2, lt_dec', Bool.false_eq_true, if_false]
  · simp only [fidx]
    cases List.findIdx? (fun t : Ty.den tStewBerth => seq t.1 nm) b.2.2.2.1 <;> rfl

include hn in
theorem implSvc_ok (b : Ty.den tStewBook) (nm : ByteArray) (hl : List.length b.2.1 ≤ 1048576) : impl_StewBook_service.f n (some b, nm, ()) = some ((svcIdx b nm).map (svcAt b), ()) := by
  have hn' : 18446744073709551616 ≤ n := hn
  unfold impl_StewBook_service.f svcIdx svcAt
  simp only [Option.isSome_some, if_true]
  refine (runL_find (l := b.2.1) (fun i => (some b, nm, (List.length b.2.1 : Int), (i : Int), ())) (fun t : Ty.den tStewService => seq t.1 nm) (fun i => some (some (List.getD b.2.1 i (Ty.zero tStewService)), ())) (some (none, ())) ?_ ?_ (by omega)).trans ?_
  · intro next i hi
    simp only [impl_StewBook_service.B2, Option.isSome_some, Option.getD_some, lt_dec hi, in_dec hi, wrap_next hi hl, if_true]
    rw [getD_nat _ _ _ hi, sGetD_lt _ _ _ hi]
  · intro next
    simp only [impl_StewBook_service.B2, lt_dec', Bool.false_eq_true, if_false]
  · cases List.findIdx? (fun t : Ty.den tStewService => seq t.1 nm) b.2.1 <;> rfl

include hn in
theorem implBerth_ok (b : Ty.den tStewBook) (nm : ByteArray) (hl : List.length b.2.2.2.1 ≤ 1048576) : impl_StewBook_berth.f n (some b, nm, ()) = some ((berthIdx b nm).map (berthAt b), ()) := by
  have hn' : 18446744073709551616 ≤ n := hn
  unfold impl_StewBook_berth.f berthIdx berthAt
  simp only [Option.isSome_some, if_true]
  refine (runL_find (l := b.2.2.2.1) (fun i => (some b, nm, (List.length b.2.2.2.1 : Int), (i : Int), ())) (fun t : Ty.den tStewBerth => seq t.1 nm) (fun i => some (some (List.getD b.2.2.2.1 i (Ty.zero tStewBerth)), ())) (some (none, ())) ?_ ?_ (by omega)).trans ?_
  · intro next i hi
    simp only [impl_StewBook_berth.B2, Option.isSome_some, Option.getD_some, lt_dec hi, in_dec hi, wrap_next hi hl, if_true]
    rw [getD_nat _ _ _ hi, sGetD_lt _ _ _ hi]
  · intro next
    simp only [impl_StewBook_berth.B2, lt_dec', Bool.false_eq_true, if_false]
  · cases List.findIdx? (fun t : Ty.den tStewBerth => seq t.1 nm) b.2.2.2.1 <;> rfl

def copyOkD (b : Ty.den tStewBook) (c : Ty.den tStewCopy) : Bool :=
  match svcIdx b c.1 with
  | none => false
  | some i => sIn c.2.1 1 (IntKind.i64.wrap ((svcAt b i).2.2.2.2.2.2.2.1 - 1)) && sIn c.2.2.1 1 b.1 && sIn c.2.2.2.1 1 1000000 && sIn c.2.2.2.2.1 1 4
    && (if (c.2.2.2.2.1 == (1 : Int)) = true then seq c.2.2.2.2.2.2.1 ⟨#[]⟩ else (berthIdx b c.2.2.2.2.2.2.1).isSome)

def aheadD (c d : Ty.den tStewCopy) : Bool := slt c.1 d.1 || (seq c.1 d.1 && decide (c.2.1 < d.2.1))

include hn in
theorem specCopy_ok (b : Ty.den tStewBook) (c : Ty.den tStewCopy) (hb : small 1048576 tStewBook b) : spec_l12CopyOk.f n (b, c, ()) = some (copyOkD b c, ()) := by
  have hl : List.length b.2.1 ≤ 1048576 := hb.2.1.1
  have hl2 : List.length b.2.2.2.1 ≤ 1048576 := hb.2.2.2.1.1
  unfold spec_l12CopyOk.f copyOkD
  simp only [specSvc_ok hn b c.1 hl, specSIn_ok, specBerth_ok hn b _ hl2, Option.bind_some]
  cases hs : svcIdx b c.1 with
  | none =>
    have hs' : List.findIdx? (fun t : Ty.den tStewService => seq t.1 c.1) b.2.1 = none := hs
    rw [fidx_none hs']
    rfl
  | some i =>
    have hi := svcIdx_lt hs
    have hs' : List.findIdx? (fun t : Ty.den tStewService => seq t.1 c.1) b.2.1 = some i := hs
    have h0 : decide ((i : Int) < 0) = false := by simp
    simp only [fidx_some hs', h0, in_dec hi, Bool.not_false, Bool.not_true, Bool.false_or, Bool.or_true, if_true, Int.toNat_natCast, Option.bind_some, svcAt]
    rcases Bool.eq_false_or_eq_true (sIn c.2.1 1 (IntKind.i64.wrap ((List.getD b.2.1 i (Ty.zero tStewService)).2.2.2.2.2.2.2.1 - 1))) with c1 | c1
    rotate_left
    · simp [c1, tzero, -List.getD_eq_getElem?_getD]
    rcases Bool.eq_false_or_eq_true (sIn c.2.2.1 1 b.1) with c2 | c2
    rotate_left
    · simp [c1, c2, tzero, -List.getD_eq_getElem?_getD]
    rcases Bool.eq_false_or_eq_true (sIn c.2.2.2.1 1 1000000) with c3 | c3
    rotate_left
    · simp [c1, c2, c3, tzero, -List.getD_eq_getElem?_getD]
    rcases Bool.eq_false_or_eq_true (sIn c.2.2.2.2.1 1 4) with c4 | c4
    rotate_left
    · simp [c1, c2, c3, c4, tzero, -List.getD_eq_getElem?_getD]
    simp only [c1, c2, c3, c4, Bool.not_true, Bool.not_false, Bool.or_false, if_true, Option.bind_some, Bool.false_eq_true, if_false, Bool.true_and, guarded]
    rcases Bool.eq_false_or_eq_true (c.2.2.2.2.1 == (1 : Int)) with c5 | c5
    · simp only [c5, if_true]
    · simp only [c5, Bool.false_eq_true, if_false]
      rw [fidx_ge', berthIdx]

def badSvc (n : Nat) (b : Ty.den tStewBook) (i : Nat) : Bool := (!sService n (svcAt b i) b.1) || (decide (0 < i) && !slt (svcAt b (i - 1)).1 (svcAt b i).1)
def badBerth (b : Ty.den tStewBook) (i : Nat) : Bool := (!sName (berthAt b i).1) || (decide (0 < i) && !slt (berthAt b (i - 1)).1 (berthAt b i).1)
def badCopy (b : Ty.den tStewBook) (i : Nat) : Bool := (!copyOkD b (copyAt b i)) || (decide (0 < i) && !aheadD (copyAt b (i - 1)) (copyAt b i))

def bookD (n : Nat) (b : Ty.den tStewBook) : Bool :=
  sIn b.1 0 1000000 && decide ((List.length b.2.1 : Int) ≤ 8) && decide ((List.length b.2.2.1 : Int) ≤ 200) && decide ((List.length b.2.2.2.1 : Int) ≤ 6)
    && !(List.range (List.length b.2.1)).any (badSvc n b) && !(List.range (List.length b.2.2.2.1)).any (badBerth b) && !(List.range (List.length b.2.2.1)).any (badCopy b)

include hn in
theorem specBook_ok (b : Ty.den tStewBook) (hb : small 1048576 tStewBook b) : spec_StewValid.f n (b, ()) = some (bookD n b, ()) := by
  have hn' : 18446744073709551616 ≤ n := hn
  have hl1 : List.length b.2.1 ≤ 1048576 := hb.2.1.1
  have hl2 : List.length b.2.2.1 ≤ 1048576 := hb.2.2.1.1
  have hl3 : List.length b.2.2.2.1 ≤ 1048576 := hb.2.2.2.1.1
  unfold spec_StewValid.f bookD
  simp only [specSIn_ok, Option.bind_some]
  rcases Bool.eq_false_or_eq_true (sIn b.1 0 1000000) with c1 | c1
  rotate_left
  · simp [c1]
  by_cases c2 : (List.length b.2.1 : Int) ≤ 8
  rotate_left
  · have e : decide ((List.length b.2.1 : Int) > 8) = true := decide_eq_true (by omega)
    simp [c1, e, decide_eq_false c2]
  have e2 : decide ((List.length b.2.1 : Int) > 8) = false := decide_eq_false (by omega)
  by_cases c3 : (List.length b.2.2.1 : Int) ≤ 200
  rotate_left
  · have e : decide ((List.length b.2.2.1 : Int) > 200) = true := decide_eq_true (by omega)
    simp [c1, e2, e, decide_eq_false c3]
  have e3 : decide ((List.length b.2.2.1 : Int) > 200) = false := decide_eq_false (by omega)
  by_cases c4 : (List.length b.2.2.2.1 : Int) ≤ 6
  rotate_left
  · have e : decide ((List.length b.2.2.2.1 : Int) > 6) = true := decide_eq_true (by omega)
    simp [c1, e2, e3, e, decide_eq_false c4]
  have e4 : decide ((List.length b.2.2.2.1 : Int) > 6) = false := decide_eq_false (by omega)
  simp only [c1, e2, e3, e4, decide_eq_true c2, decide_eq_true c3, decide_eq_true c4, Bool.not_true, Bool.or_false, Bool.false_eq_true, if_false, Bool.true_and]
  refine (runL_any (len := List.length b.2.1) (fun i => (b, (i : Int), ())) (badSvc n b) (some (false, ()))
    (some (!(List.range (List.length b.2.2.2.1)).any (badBerth b) && !(List.range (List.length b.2.2.1)).any (badCopy b), ())) ?_ ?_ (by omega)).trans ?_
  · intro next i hi
    simp only [spec_StewValid.B4, lt_dec hi, in_dec hi, Bool.or_true, if_true, Int.toNat_natCast, (services_ok hn _ _).1, Option.bind_some, wrap_next hi hl1, badSvc, svcAt]
    by_cases h0 : 0 < i
    · have e : decide ((i : Int) > 0) = true := decide_eq_true (by omega)
      simp only [e, decide_eq_true h0, sPred_wrap h0 (by omega), sPred_in h0 hi, Int.toNat_natCast, Bool.or_true, if_true, Bool.true_and]
      try rfl
    · have e : decide ((i : Int) > 0) = false := decide_eq_false (by omega)
      simp only [e, decide_eq_false h0, Bool.and_false, Bool.not_false, Bool.true_or, if_true, Bool.false_and]
      try rfl
  · intro next
    simp only [spec_StewValid.B4, lt_dec', Bool.false_eq_true, if_false]
    refine (runL_any (len := List.length b.2.2.2.1) (fun i => (b, (i : Int), ())) (badBerth b) (some (false, ())) (some (!(List.range (List.length b.2.2.1)).any (badCopy b), ())) ?_ ?_ (by omega)).trans ?_
    · intro next i hi
      simp only [spec_StewValid.B9, lt_dec hi, in_dec hi, Bool.or_true, if_true, Int.toNat_natCast, specSName_ok hn, Option.bind_some, wrap_next hi hl3, badBerth, berthAt]
      by_cases h0 : 0 < i
      · have e : decide ((i : Int) > 0) = true := decide_eq_true (by omega)
        simp only [e, decide_eq_true h0, sPred_wrap h0 (by omega), sPred_in h0 hi, Int.toNat_natCast, Bool.or_true, if_true, Bool.true_and]
        try rfl
      · have e : decide ((i : Int) > 0) = false := decide_eq_false (by omega)
        simp only [e, decide_eq_false h0, Bool.and_false, Bool.not_false, Bool.true_or, if_true, Bool.false_and]
        try rfl
    · intro next
      simp only [spec_StewValid.B9, lt_dec', Bool.false_eq_true, if_false]
      refine (runL_any (len := List.length b.2.2.1) (fun i => (b, (i : Int), ())) (badCopy b) (some (false, ())) (some (true, ())) ?_ ?_ (by omega)).trans ?_
      · intro next i hi
        simp only [spec_StewValid.B14, lt_dec hi, in_dec hi, Bool.or_true, if_true, Int.toNat_natCast, specCopy_ok hn b _ hb, Option.bind_some, wrap_next hi hl2, badCopy, copyAt, spec_l12Ahead.f]
        rcases Bool.eq_false_or_eq_true (copyOkD b (List.getD b.2.2.1 i (Ty.zero tStewCopy))) with d1 | d1
        rotate_left
        · simp [d1, -List.getD_eq_getElem?_getD]
        by_cases h0 : 0 < i
        · have e : decide ((i : Int) > 0) = true := decide_eq_true (by omega)
          simp only [d1, e, decide_eq_true h0, sPred_wrap h0 (by omega), sPred_in h0 hi, Int.toNat_natCast, Bool.or_true, if_true, Bool.true_and, Bool.not_true, Bool.not_false, Bool.false_or, Option.bind_some]
          try rfl
        · have e : decide ((i : Int) > 0) = false := decide_eq_false (by omega)
          simp only [d1, e, decide_eq_false h0, Bool.and_false, Bool.not_false, Bool.not_true, Bool.true_or, if_true, Bool.false_and, Bool.false_or, Bool.false_eq_true, if_false, Option.bind_some]
          try rfl
      · intro next
        simp only [spec_StewValid.B14, lt_dec', Bool.false_eq_true, if_false]
      · cases (List.range (List.length b.2.2.1)).any (badCopy b) <;> simp
    · cases (List.range (List.length b.2.2.2.1)).any (badBerth b) <;> simp
  · cases (List.range (List.length b.2.1)).any (badSvc n b) <;> simp
end

section
variable {n : Nat} (hn : Big n)

include hn in
theorem implBook_ok (b : Ty.den tStewBook) (hb : small 1048576 tStewBook b) : impl_StewValid.f n (b, ()) = some (bookD n b, ()) := by
  have hn' : 18446744073709551616 ≤ n := hn
  have hl1 : List.length b.2.1 ≤ 1048576 := hb.2.1.1
  have hl2 : List.length b.2.2.1 ≤ 1048576 := hb.2.2.1.1
  have hl3 : List.length b.2.2.2.1 ≤ 1048576 := hb.2.2.2.1.1
  unfold impl_StewValid.f bookD
  simp only [implSIn_ok, Option.bind_some]
  rcases Bool.eq_false_or_eq_true (sIn b.1 0 1000000) with c1 | c1
  rotate_left
  · simp [c1]
  by_cases c2 : (List.length b.2.1 : Int) ≤ 8
  rotate_left
  · have e : decide ((List.length b.2.1 : Int) > 8) = true := decide_eq_true (by omega)
    simp [c1, e, decide_eq_false c2]
  have e2 : decide ((List.length b.2.1 : Int) > 8) = false := decide_eq_false (by omega)
  by_cases c3 : (List.length b.2.2.1 : Int) ≤ 200
  rotate_left
  · have e : decide ((List.length b.2.2.1 : Int) > 200) = true := decide_eq_true (by omega)
    simp [c1, e2, e, decide_eq_false c3]
  have e3 : decide ((List.length b.2.2.1 : Int) > 200) = false := decide_eq_false (by omega)
  by_cases c4 : (List.length b.2.2.2.1 : Int) ≤ 6
  rotate_left
  · have e : decide ((List.length b.2.2.2.1 : Int) > 6) = true := decide_eq_true (by omega)
    simp [c1, e2, e3, e, decide_eq_false c4]
  have e4 : decide ((List.length b.2.2.2.1 : Int) > 6) = false := decide_eq_false (by omega)
  simp only [c1, e2, e3, e4, decide_eq_true c2, decide_eq_true c3, decide_eq_true c4, Bool.not_true, Bool.or_false, Bool.false_eq_true, if_false, Bool.true_and]
  refine (runL_any (len := List.length b.2.1) (fun i => (b, b.2.1, (List.length b.2.1 : Int), (i : Int), ())) (badSvc n b) (some (false, ()))
    (some (!(List.range (List.length b.2.2.2.1)).any (badBerth b) && !(List.range (List.length b.2.2.1)).any (badCopy b), ())) ?_ ?_ (by omega)).trans ?_
  · intro next i hi
    simp only [impl_StewValid.B4, lt_dec hi, in_dec hi, Bool.or_true, if_true, Int.toNat_natCast, (services_ok hn _ _).2, Option.bind_some, wrap_next hi hl1, badSvc, svcAt, slt_total]
    by_cases h0 : 0 < i
    · have e : decide ((i : Int) > 0) = true := decide_eq_true (by omega)
      simp only [e, decide_eq_true h0, sPred_wrap h0 (by omega), sPred_in h0 hi, Int.toNat_natCast, Bool.or_true, if_true, Bool.true_and]
      try rfl
    · have e : decide ((i : Int) > 0) = false := decide_eq_false (by omega)
      simp only [e, decide_eq_false h0, Bool.and_false, Bool.not_false, Bool.true_or, if_true, Bool.false_and]
      try rfl
  · intro next
    simp only [impl_StewValid.B4, lt_dec', Bool.false_eq_true, if_false]
    refine (runL_any (len := List.length b.2.2.2.1) (fun i => (b, b.2.2.2.1, (List.length b.2.2.2.1 : Int), (i : Int), ())) (badBerth b) (some (false, ())) (some (!(List.range (List.length b.2.2.1)).any (badCopy b), ())) ?_ ?_ (by omega)).trans ?_
    · intro next i hi
      simp only [impl_StewValid.B10, lt_dec hi, in_dec hi, Bool.or_true, if_true, Int.toNat_natCast, implSName_ok hn, Option.bind_some, wrap_next hi hl3, badBerth, berthAt, slt_total]
      by_cases h0 : 0 < i
      · have e : decide ((i : Int) > 0) = true := decide_eq_true (by omega)
        simp only [e, decide_eq_true h0, sPred_wrap h0 (by omega), sPred_in h0 hi, Int.toNat_natCast, Bool.or_true, if_true, Bool.true_and]
        try rfl
      · have e : decide ((i : Int) > 0) = false := decide_eq_false (by omega)
        simp only [e, decide_eq_false h0, Bool.and_false, Bool.not_false, Bool.true_or, if_true, Bool.false_and]
        try rfl
    · intro next
      simp only [impl_StewValid.B10, lt_dec', Bool.false_eq_true, if_false]
      refine (runL_any (len := List.length b.2.2.1) (fun i => (b, b.2.2.1, (List.length b.2.2.1 : Int), (i : Int), ())) (badCopy b) (some (false, ())) (some (true, ())) ?_ ?_ (by omega)).trans ?_
      · intro next i hi
        simp only [impl_StewValid.B16, lt_dec hi, in_dec hi, if_true, Int.toNat_natCast, implSvc_ok hn b _ hl1, implBerth_ok hn b _ hl3, implSIn_ok, Option.bind_some, wrap_next hi hl2]
        simp only [show ∀ k, List.getD b.2.2.1 k (Ty.zero tStewCopy) = copyAt b k from fun _ => rfl]
        unfold badCopy copyOkD
        cases hs : svcIdx b (copyAt b i).1 with
        | none => rfl
        | some k =>
          simp only [Option.map_some, Option.isNone_some, Option.isSome_some, Option.getD_some, Bool.not_false, Bool.or_true, if_true, Bool.false_or, Option.bind_some]
          rcases Bool.eq_false_or_eq_true (sIn (copyAt b i).2.1 1 (IntKind.i64.wrap ((svcAt b k).2.2.2.2.2.2.2.1 - 1))) with c1 | c1
          rotate_left
          · simp [c1, tzero]
          rcases Bool.eq_false_or_eq_true (sIn (copyAt b i).2.2.1 1 b.1) with c2 | c2
          rotate_left
          · simp [c1, c2, tzero]
          rcases Bool.eq_false_or_eq_true (sIn (copyAt b i).2.2.2.1 1 1000000) with c3 | c3
          rotate_left
          · simp [c1, c2, c3, tzero]
          rcases Bool.eq_false_or_eq_true (sIn (copyAt b i).2.2.2.2.1 1 4) with c4 | c4
          rotate_left
          · simp [c1, c2, c3, c4, tzero]
          simp only [c1, c2, c3, c4, Bool.not_true, Bool.not_false, Bool.or_false, if_true, Option.bind_some, Bool.false_eq_true, if_false, Bool.true_and]
          have hlast : (if decide ((i : Int) > 0) = true then
              if decide (0 ≤ IntKind.i64.wrap ((i : Int) - 1) ∧ IntKind.i64.wrap ((i : Int) - 1) < (List.length b.2.2.1 : Int)) = true then
                if (slt (copyAt b i).1 (copyAt b (Int.toNat (IntKind.i64.wrap ((i : Int) - 1)))).1 || (seq (copyAt b i).1 (copyAt b (Int.toNat (IntKind.i64.wrap ((i : Int) - 1)))).1 && decide ((copyAt b i).2.1 ≤ (copyAt b (Int.toNat (IntKind.i64.wrap ((i : Int) - 1)))).2.1))) = true then some (false, ())
                else next (b, b.2.2.1, (List.length b.2.2.1 : Int), ((i + 1 : Nat) : Int), ())
              else none
            else next (b, b.2.2.1, (List.length b.2.2.1 : Int), ((i + 1 : Nat) : Int), ())) = if (decide (0 < i) && !aheadD (copyAt b (i - 1)) (copyAt b i)) = true then some (false, ()) else next (b, b.2.2.1, (List.length b.2.2.1 : Int), ((i + 1 : Nat) : Int), ()) := by
            by_cases h0 : 0 < i
            · have e : decide ((i : Int) > 0) = true := decide_eq_true (by omega)
              simp only [e, decide_eq_true h0, sPred_wrap h0 (by omega), sPred_in h0 hi, Int.toNat_natCast, if_true, Bool.true_and]
              have ha : (slt (copyAt b i).1 (copyAt b (i - 1)).1 || (seq (copyAt b i).1 (copyAt b (i - 1)).1 && decide ((copyAt b i).2.1 ≤ (copyAt b (i - 1)).2.1))) = !aheadD (copyAt b (i - 1)) (copyAt b i) := by
                unfold aheadD
                have ht := slt_total (copyAt b (i - 1)).1 (copyAt b i).1
                have hc := seq_comm (copyAt b (i - 1)).1 (copyAt b i).1
                rw [hc]
                by_cases hle : (copyAt b i).2.1 ≤ (copyAt b (i - 1)).2.1
                · have hlt : ¬ (copyAt b (i - 1)).2.1 < (copyAt b i).2.1 := Int.not_lt.2 hle
                  rw [decide_eq_true hle, decide_eq_false hlt]
                  simp only [Bool.and_true, Bool.and_false, Bool.or_false]
                  exact ht
                · have hlt : (copyAt b (i - 1)).2.1 < (copyAt b i).2.1 := Int.not_le.1 hle
                  rw [decide_eq_false hle, decide_eq_true hlt]
                  simp only [Bool.and_true, Bool.and_false, Bool.or_false]
                  rcases Bool.eq_false_or_eq_true (seq (copyAt b i).1 (copyAt b (i - 1)).1) with hq | hq
                  · have h1 : slt (copyAt b i).1 (copyAt b (i - 1)).1 = false := by
                      rw [seq_iff] at hq
                      rw [hq]
                      exact bytesLess_irrefl _
                    rw [hq, h1]; simp
                  · rw [hq, Bool.or_false] at ht
                    rw [hq, Bool.or_false]
                    exact ht
              rw [ha]
            · have e : decide ((i : Int) > 0) = false := decide_eq_false (by omega)
              simp only [e, decide_eq_false h0, Bool.false_and, Bool.false_eq_true, if_false]
          rcases Bool.eq_false_or_eq_true ((copyAt b i).2.2.2.2.1 == (1 : Int)) with c5 | c5
          · have c6 : ((copyAt b i).2.2.2.2.1 != (1 : Int)) = false := by unfold bne; rw [c5]; rfl
            simp only [c5, c6, Bool.true_and, Bool.and_false, Bool.false_eq_true, if_false, if_true, Option.bind_some, Bool.false_and, Bool.or_false]
            rcases Bool.eq_false_or_eq_true (seq (copyAt b i).2.2.2.2.2.2.1 ⟨#[]⟩) with c7 | c7
            · simp only [c7, Bool.not_true, Bool.false_eq_true, if_false, Bool.false_or]
              exact hlast
            · simp only [c7, Bool.not_false, if_true, Bool.true_or]
          · have c6 : ((copyAt b i).2.2.2.2.1 != (1 : Int)) = true := by unfold bne; rw [c5]; rfl
            simp only [c5, c6, Bool.false_and, Bool.not_false, Bool.and_true, Bool.true_and, Bool.false_eq_true, if_false, if_true, Option.bind_some, Bool.false_or]
            cases hb : berthIdx b (copyAt b i).2.2.2.2.2.2.1 with
            | none => rfl
            | some j =>
              simp only [Option.map_some, Option.isNone_some, Option.isSome_some, Bool.not_true, Bool.false_eq_true, if_false, Bool.false_or]
              exact hlast
      · intro next
        simp only [impl_StewValid.B16, lt_dec', Bool.false_eq_true, if_false]
      · cases (List.range (List.length b.2.2.1)).any (badCopy b) <;> simp
    · cases (List.range (List.length b.2.2.2.1)).any (badBerth b) <;> simp
  · cases (List.range (List.length b.2.1)).any (badSvc n b) <;> simp
end

/-! ### counts -/
section
variable {n : Nat} (hn : Big n)

def incIf (b : Bool) (a : Int) : Int := if b = true then IntKind.i64.wrap (a + 1) else a
def cntF (b : Ty.den tStewBook) (k : Nat) (nm : ByteArray) (i : Nat) (a : Ty.den tStewCount) : Ty.den tStewCount :=
  if (!seq (copyAt b i).1 nm) = true then a
  else if (copyAt b i).2.2.2.2.2.1 = true then (a.1, a.2.1, a.2.2.1, a.2.2.2.1, IntKind.i64.wrap (a.2.2.2.2.1 + 1), ())
  else (IntKind.i64.wrap (a.1 + 1), incIf ((copyAt b i).2.2.2.2.1 == (3 : Int)) a.2.1, incIf ((copyAt b i).2.2.2.1 != (svcAt b k).2.2.2.1) a.2.2.1, incIf ((copyAt b i).2.2.2.2.1 == (4 : Int)) a.2.2.2.1, a.2.2.2.2.1, ())
def zeroCount : Ty.den tStewCount := ((0 : Int), (0 : Int), (0 : Int), (0 : Int), (0 : Int), ())
def countD (b : Ty.den tStewBook) (nm : ByteArray) : Ty.den tStewCount :=
  match svcIdx b nm with
  | none => zeroCount
  | some k => (List.range (List.length b.2.2.1)).foldl (fun a i => cntF b k nm i a) zeroCount

include hn in
theorem specCount_ok (b : Ty.den tStewBook) (nm : ByteArray) (hb : small 1048576 tStewBook b) : spec_l13Count.f n (b, nm, ()) = some (countD b nm, ()) := by
  have hn' : 18446744073709551616 ≤ n := hn
  have hl1 : List.length b.2.1 ≤ 1048576 := hb.2.1.1
  have hl2 : List.length b.2.2.1 ≤ 1048576 := hb.2.2.1.1
  unfold spec_l13Count.f countD
  simp only [specSvc_ok hn b nm hl1, Option.bind_some]
  cases hs : svcIdx b nm with
  | none =>
    have hs' : List.findIdx? (fun t : Ty.den tStewService => seq t.1 nm) b.2.1 = none := hs
    rw [fidx_none hs', runL_pos _ _ (by omega)]
    simp only [spec_l13Count.B4, decide_eq_false (show ¬ (-1 : Int) ≥ 0 by omega), Bool.and_false, Bool.false_eq_true, if_false]
    rfl
  | some k =>
    have hk := svcIdx_lt hs
    have hs' : List.findIdx? (fun t : Ty.den tStewService => seq t.1 nm) b.2.1 = some k := hs
    rw [fidx_some hs']
    refine (runL_fold (len := List.length b.2.2.1) (fun i (a : Ty.den tStewCount) => (nm, b, ((0 : Int), (0 : Int), (0 : Int), (0 : Int), (0 : Int), ()), a, (k : Int), (i : Int), ())) (fun i a => True) (cntF b k nm) (fun a => some (a, ())) ?_ ?_ (by omega) trivial)
    · intro next i a hi _
      refine ⟨trivial, ?_⟩
      obtain ⟨a1, a2, a3, a4, a5, ⟨⟩⟩ := a
      simp only [spec_l13Count.B4, lt_dec hi, in_dec hi, in_dec hk, decide_eq_true (show (k : Int) ≥ 0 by omega), Bool.and_true, Bool.or_true, if_true, Int.toNat_natCast, wrap_next hi hl2]
      simp only [show ∀ k, List.getD b.2.2.1 k (Ty.zero tStewCopy) = copyAt b k from fun _ => rfl, show ∀ k, List.getD b.2.1 k (Ty.zero tStewService) = svcAt b k from fun _ => rfl, cntF, incIf]
      rcases Bool.eq_false_or_eq_true (seq (copyAt b i).1 nm) with h1 | h1
      rotate_left
      · simp only [h1, Bool.not_false, if_true]
      rcases Bool.eq_false_or_eq_true ((copyAt b i).2.2.2.2.2.1) with h2 | h2
      · simp only [h1, h2, Bool.not_true, Bool.false_eq_true, if_false, if_true]
      rcases Bool.eq_false_or_eq_true ((copyAt b i).2.2.2.2.1 == (3 : Int)) with h3 | h3 <;> rcases Bool.eq_false_or_eq_true ((copyAt b i).2.2.2.2.1 == (4 : Int)) with h4 | h4 <;> rcases Bool.eq_false_or_eq_true ((copyAt b i).2.2.2.1 != (svcAt b k).2.2.2.1) with h5 | h5 <;> simp only [h1, h2, h3, h4, h5, Bool.not_true, Bool.false_eq_true, if_false, if_true]
    · intro next a _
      obtain ⟨a1, a2, a3, a4, a5, ⟨⟩⟩ := a
      simp only [spec_l13Count.B4, lt_dec', Bool.false_and, Bool.false_eq_true, if_false]

theorem svcIdx_name {b : Ty.den tStewBook} {nm : ByteArray} {k : Nat} (h : svcIdx b nm = some k) : (svcAt b k).1 = nm := by
  have hk := svcIdx_lt h
  unfold svcIdx at h
  rw [List.findIdx?_eq_some_iff_getElem] at h
  obtain ⟨hlt, hp, _⟩ := h
  unfold svcAt
  rw [sGetD_lt _ _ _ hk]
  exact seq_iff.1 hp

include hn in
theorem implCount_ok (b : Ty.den tStewBook) (nm : ByteArray) (k : Nat) (hb : small 1048576 tStewBook b) (hs : svcIdx b nm = some k) : impl_StewBook_count.f n (some b, some (svcAt b k), ()) = some (countD b nm, ()) := by
  have hn' : 18446744073709551616 ≤ n := hn
  have hl2 : List.length b.2.2.1 ≤ 1048576 := hb.2.2.1.1
  have hnm := svcIdx_name hs
  unfold impl_StewBook_count.f countD
  simp only [Option.isSome_some, Option.getD_some, if_true, hs]
  refine (runL_fold (len := List.length b.2.2.1) (fun i (a : Ty.den tStewCount) => (some (svcAt b k), ((0 : Int), (0 : Int), (0 : Int), (0 : Int), (0 : Int), ()), a, b.2.2.1, (List.length b.2.2.1 : Int), (i : Int), ())) (fun i a => True) (cntF b k nm) (fun a => some (a, ())) ?_ ?_ (by omega) trivial)
  · intro next i a hi _
    refine ⟨trivial, ?_⟩
    obtain ⟨a1, a2, a3, a4, a5, ⟨⟩⟩ := a
    simp only [impl_StewBook_count.B3, lt_dec hi, in_dec hi, Option.isSome_some, Option.getD_some, Bool.or_true, if_true, Int.toNat_natCast, wrap_next hi hl2, hnm]
    simp only [show ∀ k, List.getD b.2.2.1 k (Ty.zero tStewCopy) = copyAt b k from fun _ => rfl, cntF, incIf]
    rcases Bool.eq_false_or_eq_true (seq (copyAt b i).1 nm) with h1 | h1
    rotate_left
    · simp only [h1, Bool.not_false, if_true]
    rcases Bool.eq_false_or_eq_true ((copyAt b i).2.2.2.2.2.1) with h2 | h2
    · simp only [h1, h2, Bool.not_true, Bool.false_eq_true, if_false, if_true]
    rcases Bool.eq_false_or_eq_true ((copyAt b i).2.2.2.2.1 == (3 : Int)) with h3 | h3 <;> rcases Bool.eq_false_or_eq_true ((copyAt b i).2.2.2.2.1 == (4 : Int)) with h4 | h4 <;> rcases Bool.eq_false_or_eq_true ((copyAt b i).2.2.2.1 != (svcAt b k).2.2.2.1) with h5 | h5 <;> simp only [h1, h2, h3, h4, h5, Bool.not_true, Bool.false_eq_true, if_false, if_true]
  · intro next a _
    obtain ⟨a1, a2, a3, a4, a5, ⟨⟩⟩ := a
    simp only [impl_StewBook_count.B3, lt_dec', Bool.false_eq_true, if_false]
end

/-! ### sums -/
section
def b2i (x : Bool) : Int := if x = true then 1 else 0
def sumN : Nat → (Nat → Int) → Int
  | 0, _ => 0
  | k + 1, f => sumN k f + f k
theorem b2i_range (x : Bool) : 0 ≤ b2i x ∧ b2i x ≤ 1 := by cases x <;> decide
theorem sumN_congr {f g : Nat → Int} : ∀ {k : Nat}, (∀ i, i < k → f i = g i) → sumN k f = sumN k g
  | 0, _ => rfl
  | k + 1, h => by simp only [sumN]; rw [sumN_congr (k := k) (fun i hi => h i (by omega)), h k (by omega)]
theorem sumN_add (f g : Nat → Int) : ∀ k, sumN k (fun i => f i + g i) = sumN k f + sumN k g
  | 0 => rfl
  | k + 1 => by simp only [sumN]; rw [sumN_add f g k]; omega
theorem sumN_zero : ∀ k, sumN k (fun _ => 0) = 0
  | 0 => rfl
  | k + 1 => by simp only [sumN]; rw [sumN_zero k]; rfl
theorem sumN_swap (f : Nat → Nat → Int) : ∀ p m, sumN p (fun k => sumN m (f k)) = sumN m (fun i => sumN p (fun k => f k i))
  | 0, m => by simp only [sumN]; rw [sumN_zero]
  | p + 1, m => by
    simp only [sumN]
    rw [sumN_swap f p m, ← sumN_add]
theorem sumN_single {p j : Nat} (hj : j < p) (f : Nat → Int) (h : ∀ k, k < p → k ≠ j → f k = 0) : sumN p f = f j := by
  induction p with
  | zero => omega
  | succ p ih =>
    simp only [sumN]
    by_cases e : j = p
    · subst e
      rw [sumN_congr (g := fun _ => 0) (fun i hi => h i (by omega) (by omega)), sumN_zero]
      omega
    · rw [ih (by omega) (fun k hk hne => h k (by omega) hne), h p (by omega) (fun h' => e h'.symm)]
      omega
theorem sumN_range {f : Nat → Int} {c : Int} (h : ∀ i, 0 ≤ f i ∧ f i ≤ c) : ∀ k : Nat, 0 ≤ sumN k f ∧ sumN k f ≤ k * c
  | 0 => by simp [sumN]
  | k + 1 => by
    have h1 := sumN_range h k
    have h2 := h k
    have e : ((k + 1 : Nat) : Int) * c = (k : Int) * c + c := by rw [Int.natCast_succ, Int.add_mul, Int.one_mul]
    simp only [sumN]
    rw [e]
    omega
theorem sumN_bool (q : Nat → Bool) (k : Nat) : 0 ≤ sumN k (fun i => b2i (q i)) ∧ sumN k (fun i => b2i (q i)) ≤ k := by
  have := sumN_range (f := fun i => b2i (q i)) (c := 1) (fun i => b2i_range _) k
  omega

theorem foldl_keep {A : Type} (g : Nat → A → A) (inv : Nat → A → Prop) {m : Nat} (h : ∀ i a, i < m → inv i a → inv (i + 1) (g i a)) : ∀ k, k ≤ m → ∀ a, inv 0 a → inv k ((List.range k).foldl (fun a i => g i a) a) := by
  intro k
  induction k with
  | zero => intro _ a ha; exact ha
  | succ k ih =>
    intro hk a ha
    rw [List.range_succ, List.foldl_append]
    exact h k _ (by omega) (ih (by omega) a ha)

theorem sorted_find {X : Type} (l : List X) (nm : X → ByteArray) (h : ∀ i (hi : i + 1 < l.length), slt (nm l[i]) (nm l[i + 1]) = true) {k : Nat} (hk : k < l.length) : l.findIdx? (fun t => seq (nm t) (nm l[k])) = some k := by
  have hall : ∀ (d j : Nat) (hj : j + d + 1 < l.length), slt (nm l[j]) (nm l[j + d + 1]) = true := by
    intro d
    induction d with
    | zero => intro j hj; exact h j hj
    | succ d ih => intro j hj; exact slt_trans (ih j (by omega)) (h (j + d + 1) hj)
  rw [List.findIdx?_eq_some_iff_getElem]
  refine ⟨hk, seq_refl _, fun j hj => ?_⟩
  obtain ⟨d, rfl⟩ : ∃ d, k = j + d + 1 := ⟨k - j - 1, by omega⟩
  have := slt_not_seq (hall d j hk)
  simp [this]
end
/-! ### what a valid book is -/
section
variable {n : Nat} (hn : Big n)

def wantN (b : Ty.den tStewBook) (k : Nat) : Int := (svcAt b k).2.2.2.2.1
structure Good (b : Ty.den tStewBook) : Prop where
  p : List.length b.2.1 ≤ 8
  m : List.length b.2.2.1 ≤ 200
  want : ∀ k, k < List.length b.2.1 → 0 ≤ wantN b k ∧ wantN b k ≤ 10
  self : ∀ k, k < List.length b.2.1 → svcIdx b (svcAt b k).1 = some k
  has : ∀ i, i < List.length b.2.2.1 → ∃ k, k < List.length b.2.1 ∧ svcIdx b (copyAt b i).1 = some k

include hn in
theorem service_want (s : Ty.den tStewService) (y : Int) (h : sService n s y = true) : 0 ≤ s.2.2.2.2.1 ∧ s.2.2.2.2.1 ≤ 10 := by
  rw [← sIn_iff]
  rcases Bool.eq_false_or_eq_true (sIn s.2.2.2.2.1 0 10) with c | c
  · exact c
  exfalso
  have h1 := (services_ok hn s y).1
  rw [h] at h1
  unfold spec_l12ServiceOk.f at h1
  simp only [specSName_ok hn, specSIn_ok, Option.bind_some, guarded, c] at h1
  revert h1
  generalize sName s.1 = a1
  generalize sIn s.2.1 1 y = a2
  generalize sIn s.2.2.2.1 1 1000000 = a3
  generalize sIn s.2.2.2.2.2.2.2.1 1 1000000 = a4
  cases a1 <;> cases a2 <;> cases a3 <;> cases a4 <;> simp [tzero]

include hn in
theorem good_of (b : Ty.den tStewBook) (h : bookD n b = true) : Good b := by
  unfold bookD at h
  simp only [Bool.and_eq_true, Bool.not_eq_true', decide_eq_true_eq] at h
  obtain ⟨⟨⟨⟨⟨⟨_, hp⟩, hm⟩, _⟩, hsv⟩, _⟩, hcp⟩ := h
  rw [List.any_eq_false] at hsv hcp
  have hsv' : ∀ k, k < List.length b.2.1 → badSvc n b k = false := fun k hk => by simpa using hsv k (List.mem_range.2 hk)
  have hcp' : ∀ k, k < List.length b.2.2.1 → badCopy b k = false := fun k hk => by simpa using hcp k (List.mem_range.2 hk)
  refine ⟨by omega, by omega, fun k hk => ?_, fun k hk => ?_, fun i hi => ?_⟩
  · have := hsv' k hk
    unfold badSvc at this
    rw [Bool.or_eq_false_iff, Bool.not_eq_false'] at this
    exact service_want hn _ _ this.1
  · unfold svcIdx svcAt
    rw [sGetD_lt _ _ _ hk]
    refine sorted_find (X := Ty.den tStewService) b.2.1 (fun t => t.1) (fun i hi => ?_) hk
    have := hsv' (i + 1) hi
    unfold badSvc svcAt at this
    rw [Bool.or_eq_false_iff] at this
    have h2 := this.2
    rw [decide_eq_true (show 0 < i + 1 by omega), Bool.true_and, Bool.not_eq_false', Nat.add_sub_cancel, sGetD_lt _ _ _ hi, sGetD_lt _ _ _ (show i < List.length b.2.1 by omega)] at h2
    exact h2
  · have := hcp' i hi
    unfold badCopy at this
    rw [Bool.or_eq_false_iff, Bool.not_eq_false'] at this
    have h1 := this.1
    unfold copyOkD at h1
    split at h1
    · cases h1
    · rename_i k hk
      exact ⟨k, svcIdx_lt hk, hk⟩
end

/-! ### what a rank is the sum of -/
section
variable {n : Nat} (hn : Big n)

def ofSvc (b : Ty.den tStewBook) (k i : Nat) : Bool := seq (copyAt b i).1 (svcAt b k).1
def stray (b : Ty.den tStewBook) (i : Nat) : Bool := (copyAt b i).2.2.2.2.2.1
def gone (b : Ty.den tStewBook) (k : Nat) : Bool := (svcAt b k).2.2.1
def drainsD (b : Ty.den tStewBook) (c : Ty.den tStewCopy) : Bool := match berthIdx b c.2.2.2.2.2.2.1 with
  | none => false
  | some j => (berthAt b j).2.1
def oldC (b : Ty.den tStewBook) (k i : Nat) : Bool := ((copyAt b i).2.2.2.1 != (svcAt b k).2.2.2.1) || drainsD b (copyAt b i)
def rawC (b : Ty.den tStewBook) (i : Nat) : Bool := (copyAt b i).2.2.2.2.1 != (3 : Int)

def runN (b : Ty.den tStewBook) (k : Nat) : Int := sumN (List.length b.2.2.1) (fun i => b2i (ofSvc b k i && !stray b i))
def strN (b : Ty.den tStewBook) (k : Nat) : Int := sumN (List.length b.2.2.1) (fun i => b2i (ofSvc b k i && stray b i))
def gapN (b : Ty.den tStewBook) (k : Nat) : Int := if runN b k - wantN b k < 0 then 0 - (runN b k - wantN b k) else runN b k - wantN b k

theorem runN_range (b : Ty.den tStewBook) (k : Nat) : 0 ≤ runN b k ∧ runN b k ≤ List.length b.2.2.1 := sumN_bool _ _
theorem strN_range (b : Ty.den tStewBook) (k : Nat) : 0 ≤ strN b k ∧ strN b k ≤ List.length b.2.2.1 := sumN_bool _ _

theorem count_sums {b : Ty.den tStewBook} {k : Nat} (hg : svcIdx b (svcAt b k).1 = some k) (hm : List.length b.2.2.1 ≤ 1048576) : (countD b (svcAt b k).1).1 = runN b k ∧ (countD b (svcAt b k).1).2.2.2.2.1 = strN b k := by
  unfold countD
  rw [hg]
  refine foldl_keep (cntF b k (svcAt b k).1) (fun i (a : Ty.den tStewCount) => a.1 = sumN i (fun i => b2i (ofSvc b k i && !stray b i)) ∧ a.2.2.2.2.1 = sumN i (fun i => b2i (ofSvc b k i && stray b i))) (m := List.length b.2.2.1) (fun i a hi ha => ?_) (List.length b.2.2.1) (Nat.le_refl _) zeroCount ⟨rfl, rfl⟩
  obtain ⟨a1, a2, a3, a4, a5, ⟨⟩⟩ := a
  obtain ⟨h1, h2⟩ := ha
  have r1 := sumN_bool (fun i => ofSvc b k i && !stray b i) i
  have r2 := sumN_bool (fun i => ofSvc b k i && stray b i) i
  have h1 : (a1 : Int) = _ := h1
  have h2 : (a5 : Int) = _ := h2
  simp only [sumN]
  unfold cntF
  rw [show seq (copyAt b i).1 (svcAt b k).1 = ofSvc b k i from rfl, show (copyAt b i).2.2.2.2.2.1 = stray b i from rfl]
  rcases Bool.eq_false_or_eq_true (ofSvc b k i) with c1 | c1
  rotate_left
  · rw [c1]
    simp only [Bool.not_false, if_true, Bool.false_and]
    refine ⟨h1.trans ?_, h2.trans ?_⟩ <;> simp [b2i]
  · rw [c1]
    rcases Bool.eq_false_or_eq_true (stray b i) with c2 | c2
    · rw [c2]
      simp only [Bool.not_true, Bool.false_eq_true, if_false, if_true, Bool.true_and, Bool.and_false]
      refine ⟨h1.trans (by simp [b2i]), ?_⟩
      rw [h2, wrap_eq (by omega) (by omega)]
      rfl
    · rw [c2]
      simp only [Bool.not_true, Bool.not_false, Bool.false_eq_true, if_false, Bool.true_and, Bool.and_false, Bool.and_self]
      refine ⟨?_, h2.trans (by simp [b2i])⟩
      rw [h1, wrap_eq (by omega) (by omega)]
      rfl

/-- The living ones, by their places. -/
def liveL (b : Ty.den tStewBook) (k : Nat) : List Nat := (List.range (List.length b.2.2.1)).filter (fun i => ofSvc b k i && !stray b i)
def ints (l : List Nat) : List Int := l.map (fun i : Nat => (i : Int))

include hn in
theorem specLive_ok (b : Ty.den tStewBook) (k : Nat) (hm : List.length b.2.2.1 ≤ 1048576) : spec_l16Live.f n (b, (svcAt b k).1, ()) = some (ints (liveL b k), ()) := by
  have hn' : 18446744073709551616 ≤ n := hn
  unfold spec_l16Live.f
  have step : ∀ i, i < List.length b.2.2.1 → ints ((List.range (i + 1)).filter (fun i => ofSvc b k i && !stray b i)) = if (ofSvc b k i && !stray b i) = true then ints ((List.range i).filter (fun i => ofSvc b k i && !stray b i)) ++ [(i : Int)] else ints ((List.range i).filter (fun i => ofSvc b k i && !stray b i)) := by
    intro i _
    rw [List.range_succ, List.filter_append]
    unfold ints
    cases h : (ofSvc b k i && !stray b i) <;> simp [h]
  refine (runL_any (len := List.length b.2.2.1) (fun i => ((svcAt b k).1, b, ints ((List.range i).filter (fun i => ofSvc b k i && !stray b i)), (i : Int), ())) (fun _ => false) none (some (ints (liveL b k), ())) ?_ ?_ (by omega)).trans (by simp)
  · intro next i hi
    have hlen : (ints ((List.range i).filter (fun i => ofSvc b k i && !stray b i))).length ≤ i := by
      unfold ints
      rw [List.length_map]
      exact Nat.le_trans (List.length_filter_le _ _) (by simp)
    have hb : appBound (List.length (ints ((List.range i).filter (fun i => ofSvc b k i && !stray b i)))) (List.length [(i : Int)]) 8 = true := by
      unfold appBound
      rw [Nat.ble_eq]
      simp only [List.length_singleton]
      omega
    simp only [spec_l16Live.B3, lt_dec hi, in_dec hi, Bool.or_true, if_true, Int.toNat_natCast, wrap_next hi hm]
    rw [step i hi]
    rw [show (seq (List.getD b.2.2.1 i (Ty.zero tStewCopy)).1 (svcAt b k).1 && (!(List.getD b.2.2.1 i (Ty.zero tStewCopy)).2.2.2.2.2.1)) = (ofSvc b k i && !stray b i) from rfl]
    rcases Bool.eq_false_or_eq_true (ofSvc b k i && !stray b i) with c | c
    · rw [c]
      simp only [if_true, Bool.false_eq_true, if_false]
      refine (if_pos hb).trans ?_
      rfl
    · rw [c]
      simp only [Bool.false_eq_true, if_false]
  · intro next
    simp only [spec_l16Live.B3, lt_dec', Bool.false_eq_true, if_false]
    rfl

include hn in
theorem specDrains_ok (b : Ty.den tStewBook) (c : Ty.den tStewCopy) (hl : List.length b.2.2.2.1 ≤ 1048576) : spec_l16Drains.f n (b, c, ()) = some (drainsD b c, ()) := by
  unfold spec_l16Drains.f drainsD
  simp only [specBerth_ok hn b c.2.2.2.2.2.2.1 hl, Option.bind_some]
  cases hs : berthIdx b c.2.2.2.2.2.2.1 with
  | none =>
    have hs' : List.findIdx? (fun t : Ty.den tStewBerth => seq t.1 c.2.2.2.2.2.2.1) b.2.2.2.1 = none := hs
    rw [fidx_none hs']
    rfl
  | some i =>
    have hs' : List.findIdx? (fun t : Ty.den tStewBerth => seq t.1 c.2.2.2.2.2.2.1) b.2.2.2.1 = some i := hs
    have hi := findIdx?_lt hs'
    have h0 : decide ((i : Int) ≥ 0) = true := decide_eq_true (by omega)
    simp only [fidx_some hs', h0, in_dec hi, Bool.or_true, if_true, Int.toNat_natCast, Bool.true_and]
    rfl

include hn in
theorem implDrains_ok (b : Ty.den tStewBook) (c : Ty.den tStewCopy) (hl : List.length b.2.2.2.1 ≤ 1048576) : impl_StewBook_drained.f n (some b, c, ()) = some (drainsD b c, ()) := by
  unfold impl_StewBook_drained.f drainsD
  simp only [implBerth_ok hn b c.2.2.2.2.2.2.1 hl, Option.bind_some]
  cases hs : berthIdx b c.2.2.2.2.2.2.1 with
  | none => rfl
  | some i => simp only [Option.map_some, Option.isSome_some, Bool.or_true, if_true, Option.getD_some, Bool.true_and]

/-! the parts of one service, and of one copy -/
def d0 (b : Ty.den tStewBook) (k : Nat) : Int := b2i (gone b k)
def d1 (b : Ty.den tStewBook) (k : Nat) : Int := strN b k + if gone b k = true then runN b k else 0
def d2 (b : Ty.den tStewBook) (k : Nat) : Int := if gone b k = true then 0 else gapN b k
def d3 (b : Ty.den tStewBook) (k : Nat) : Int := if gone b k = true then 0 else sumN (List.length b.2.2.1) (fun i => b2i ((ofSvc b k i && !stray b i) && oldC b k i))
def d4 (b : Ty.den tStewBook) (k : Nat) : Int := if gone b k = true then 0 else sumN (List.length b.2.2.1) (fun i => b2i ((ofSvc b k i && !stray b i) && rawC b i))
@[reducible] def rk (b : Ty.den tStewBook) (k : Nat) : List Int := [sumN k (d0 b), sumN k (d1 b), sumN k (d2 b), sumN k (d3 b), sumN k (d4 b)]

def home (b : Ty.den tStewBook) (i : Nat) : Nat := (svcIdx b (copyAt b i).1).getD 0
def e1 (b : Ty.den tStewBook) (i : Nat) : Int := b2i (stray b i || gone b (home b i))
def e3 (b : Ty.den tStewBook) (i : Nat) : Int := b2i (!(stray b i || gone b (home b i)) && oldC b (home b i) i)
def e4 (b : Ty.den tStewBook) (i : Nat) : Int := b2i (!(stray b i || gone b (home b i)) && rawC b i)

theorem ofSvc_home {b : Ty.den tStewBook} (h : Good b) {k i : Nat} (hk : k < List.length b.2.1) (hi : i < List.length b.2.2.1) : ofSvc b k i = true ↔ k = home b i := by
  obtain ⟨j, hj, hji⟩ := h.has i hi
  have hh : home b i = j := by unfold home; rw [hji]; rfl
  rw [hh]
  unfold ofSvc
  constructor
  · intro hs
    have e := seq_iff.1 hs
    rw [e, h.self k hk] at hji
    exact Option.some.inj hji
  · intro e
    subst e
    rw [svcIdx_name hji]
    exact seq_refl _

/-- A sum over services of sums over their copies is a sum over copies. -/
theorem sum_home {b : Ty.den tStewBook} (h : Good b) (Q : Nat → Nat → Bool) : sumN (List.length b.2.1) (fun k => sumN (List.length b.2.2.1) (fun i => b2i (ofSvc b k i && Q k i))) = sumN (List.length b.2.2.1) (fun i => b2i (Q (home b i) i)) := by
  rw [sumN_swap (fun k i => b2i (ofSvc b k i && Q k i))]
  refine sumN_congr (fun i hi => ?_)
  obtain ⟨j, hj, hji⟩ := h.has i hi
  have hh : home b i = j := by unfold home; rw [hji]; rfl
  rw [sumN_single (j := home b i) (by omega) (fun k => b2i (ofSvc b k i && Q k i)) (fun k hk hne => ?_)]
  · have : ofSvc b (home b i) i = true := (ofSvc_home h (by omega) hi).2 rfl
    simp only [this, Bool.true_and]
  · have : ofSvc b k i = false := Bool.eq_false_iff.2 (fun hs => hne ((ofSvc_home h hk hi).1 hs))
    simp only [this, Bool.false_and]
    rfl

theorem sums_1 {b : Ty.den tStewBook} (h : Good b) : sumN (List.length b.2.1) (d1 b) = sumN (List.length b.2.2.1) (e1 b) := by
  have e : sumN (List.length b.2.1) (d1 b) = sumN (List.length b.2.1) (fun k => sumN (List.length b.2.2.1) (fun i => b2i (ofSvc b k i && (stray b i || gone b k)))) := by
    refine sumN_congr (fun k hk => ?_)
    unfold d1 strN runN
    rcases Bool.eq_false_or_eq_true (gone b k) with c | c
    · rw [c, if_pos rfl, ← sumN_add]
      refine sumN_congr (fun i hi => ?_)
      cases ofSvc b k i <;> cases stray b i <;> rfl
    · rw [c]
      simp only [Bool.false_eq_true, if_false, Bool.or_false, Int.add_zero]
  rw [e, sum_home h (fun k i => stray b i || gone b k)]
  rfl
theorem sums_3 {b : Ty.den tStewBook} (h : Good b) : sumN (List.length b.2.1) (d3 b) = sumN (List.length b.2.2.1) (e3 b) := by
  have e : sumN (List.length b.2.1) (d3 b) = sumN (List.length b.2.1) (fun k => sumN (List.length b.2.2.1) (fun i => b2i (ofSvc b k i && (!(stray b i || gone b k) && oldC b k i)))) := by
    refine sumN_congr (fun k hk => ?_)
    unfold d3
    rcases Bool.eq_false_or_eq_true (gone b k) with c | c
    · rw [c, if_pos rfl]
      refine (Eq.trans (sumN_congr (g := fun _ => 0) (fun i hi => ?_)) (sumN_zero _)).symm
      cases ofSvc b k i <;> cases stray b i <;> rfl
    · rw [c]
      simp only [Bool.false_eq_true, if_false, Bool.or_false, Bool.and_assoc]
  rw [e, sum_home h (fun k i => !(stray b i || gone b k) && oldC b k i)]
  rfl
theorem sums_4 {b : Ty.den tStewBook} (h : Good b) : sumN (List.length b.2.1) (d4 b) = sumN (List.length b.2.2.1) (e4 b) := by
  have e : sumN (List.length b.2.1) (d4 b) = sumN (List.length b.2.1) (fun k => sumN (List.length b.2.2.1) (fun i => b2i (ofSvc b k i && (!(stray b i || gone b k) && rawC b i)))) := by
    refine sumN_congr (fun k hk => ?_)
    unfold d4
    rcases Bool.eq_false_or_eq_true (gone b k) with c | c
    · rw [c, if_pos rfl]
      refine (Eq.trans (sumN_congr (g := fun _ => 0) (fun i hi => ?_)) (sumN_zero _)).symm
      cases ofSvc b k i <;> cases stray b i <;> rfl
    · rw [c]
      simp only [Bool.false_eq_true, if_false, Bool.or_false, Bool.and_assoc]
  rw [e, sum_home h (fun k i => !(stray b i || gone b k) && rawC b i)]
  rfl
end

/-! ### the two ranks -/
section
variable {n : Nat} (hn : Big n)

theorem set5_0 (a0 a1 a2 a3 a4 v : Int) : List.set [a0, a1, a2, a3, a4] (Int.toNat 0) v = [v, a1, a2, a3, a4] := rfl
theorem set5_1 (a0 a1 a2 a3 a4 v : Int) : List.set [a0, a1, a2, a3, a4] (Int.toNat 1) v = [a0, v, a2, a3, a4] := rfl
theorem set5_2 (a0 a1 a2 a3 a4 v : Int) : List.set [a0, a1, a2, a3, a4] (Int.toNat 2) v = [a0, a1, v, a3, a4] := rfl
theorem set5_3 (a0 a1 a2 a3 a4 v : Int) : List.set [a0, a1, a2, a3, a4] (Int.toNat 3) v = [a0, a1, a2, v, a4] := rfl
theorem set5_4 (a0 a1 a2 a3 a4 v : Int) : List.set [a0, a1, a2, a3, a4] (Int.toNat 4) v = [a0, a1, a2, a3, v] := rfl
theorem get5_0 (a0 a1 a2 a3 a4 : Int) : List.getD [a0, a1, a2, a3, a4] (Int.toNat 0) 0 = a0 := rfl
theorem get5_1 (a0 a1 a2 a3 a4 : Int) : List.getD [a0, a1, a2, a3, a4] (Int.toNat 1) 0 = a1 := rfl
theorem get5_2 (a0 a1 a2 a3 a4 : Int) : List.getD [a0, a1, a2, a3, a4] (Int.toNat 2) 0 = a2 := rfl
theorem get5_3 (a0 a1 a2 a3 a4 : Int) : List.getD [a0, a1, a2, a3, a4] (Int.toNat 3) 0 = a3 := rfl
theorem get5_4 (a0 a1 a2 a3 a4 : Int) : List.getD [a0, a1, a2, a3, a4] (Int.toNat 4) 0 = a4 := rfl
theorem in5_0 (a0 a1 a2 a3 a4 : Int) {i : Decidable (0 ≤ (0 : Int) ∧ (0 : Int) < (List.length [a0, a1, a2, a3, a4] : Int))} : @decide (0 ≤ (0 : Int) ∧ (0 : Int) < (List.length [a0, a1, a2, a3, a4] : Int)) i = true := decide_eq_true (by simp only [List.length_cons, List.length_nil]; omega)
theorem in5_1 (a0 a1 a2 a3 a4 : Int) {i : Decidable (0 ≤ (1 : Int) ∧ (1 : Int) < (List.length [a0, a1, a2, a3, a4] : Int))} : @decide (0 ≤ (1 : Int) ∧ (1 : Int) < (List.length [a0, a1, a2, a3, a4] : Int)) i = true := decide_eq_true (by simp only [List.length_cons, List.length_nil]; omega)
theorem in5_2 (a0 a1 a2 a3 a4 : Int) {i : Decidable (0 ≤ (2 : Int) ∧ (2 : Int) < (List.length [a0, a1, a2, a3, a4] : Int))} : @decide (0 ≤ (2 : Int) ∧ (2 : Int) < (List.length [a0, a1, a2, a3, a4] : Int)) i = true := decide_eq_true (by simp only [List.length_cons, List.length_nil]; omega)
theorem in5_3 (a0 a1 a2 a3 a4 : Int) {i : Decidable (0 ≤ (3 : Int) ∧ (3 : Int) < (List.length [a0, a1, a2, a3, a4] : Int))} : @decide (0 ≤ (3 : Int) ∧ (3 : Int) < (List.length [a0, a1, a2, a3, a4] : Int)) i = true := decide_eq_true (by simp only [List.length_cons, List.length_nil]; omega)
theorem in5_4 (a0 a1 a2 a3 a4 : Int) {i : Decidable (0 ≤ (4 : Int) ∧ (4 : Int) < (List.length [a0, a1, a2, a3, a4] : Int))} : @decide (0 ≤ (4 : Int) ∧ (4 : Int) < (List.length [a0, a1, a2, a3, a4] : Int)) i = true := decide_eq_true (by simp only [List.length_cons, List.length_nil]; omega)

theorem sumL_range (f : Nat → Int) : ∀ m, ((List.range m).map f).sum = sumN m f
  | 0 => rfl
  | m + 1 => by
    rw [List.range_succ, List.map_append, List.sum_append, sumL_range f m]
    simp [sumN]

/-- So many of the first so many of a list. -/
def cnt (q : Nat → Bool) (l : List Nat) : Int := (l.map (fun i => b2i (q i))).sum
theorem cnt_range (q : Nat → Bool) (l : List Nat) : 0 ≤ cnt q l ∧ cnt q l ≤ l.length := by
  unfold cnt
  induction l with
  | nil => simp
  | cons x l ih =>
    have := b2i_range (q x)
    simp only [List.map_cons, List.sum_cons, List.length_cons]
    omega
theorem cnt_filter (p q : Nat → Bool) (l : List Nat) : cnt q (l.filter p) = cnt (fun i => p i && q i) l := by
  unfold cnt
  induction l with
  | nil => rfl
  | cons x l ih =>
    rw [List.filter_cons]
    cases h : p x with
    | true => simp only [if_true, List.map_cons, List.sum_cons, ih, h, Bool.true_and]
    | false => simp only [Bool.false_eq_true, if_false, List.map_cons, List.sum_cons, ih, h, Bool.false_and]; simp [b2i]
theorem cnt_take (q : Nat → Bool) (l : List Nat) {j : Nat} (hj : j < l.length) : cnt q (l.take (j + 1)) = cnt q (l.take j) + b2i (q l[j]) := by
  unfold cnt
  rw [List.take_succ_eq_append_getElem hj, List.map_append, List.sum_append]
  simp

theorem ints_len (l : List Nat) : (ints l).length = l.length := by unfold ints; rw [List.length_map]
theorem ints_get (l : List Nat) {j : Nat} (hj : j < l.length) : List.getD (ints l) j 0 = (l[j] : Int) := by unfold ints; simp [hj]

theorem liveL_lt {b : Ty.den tStewBook} {k j : Nat} (hj : j < (liveL b k).length) : (liveL b k)[j] < List.length b.2.2.1 := by
  have := List.getElem_mem hj
  unfold liveL at this
  exact List.mem_range.1 (List.mem_filter.1 this).1
theorem liveL_len (b : Ty.den tStewBook) (k : Nat) : (liveL b k).length ≤ List.length b.2.2.1 := by
  unfold liveL
  exact Nat.le_trans (List.length_filter_le _ _) (by simp)
theorem cnt_live (b : Ty.den tStewBook) (k : Nat) (q : Nat → Bool) : cnt q (liveL b k) = sumN (List.length b.2.2.1) (fun i => b2i ((ofSvc b k i && !stray b i) && q i)) := by
  unfold liveL
  rw [cnt_filter]
  unfold cnt
  rw [sumL_range]

include hn in
theorem inner_ok (b : Ty.den tStewBook) (k : Nat) (hm : List.length b.2.2.1 ≤ 200) (hl3 : List.length b.2.2.2.1 ≤ 1048576) (a0 a1 a2 a3 a4 : Int) (h3 : 0 ≤ a3 ∧ a3 ≤ 2000) (h4 : 0 ≤ a4 ∧ a4 ≤ 2000) (o : Int) {R : Type} (cs : Conts R spec_StewRank.l19.outs) :
    runL (spec_StewRank.B19 n) cs n (b, [a0, a1, a2, a3, a4], o, svcAt b k, ints (liveL b k), (0 : Int), ()) = cs.1 (b, [a0, a1, a2, a3 + cnt (oldC b k) (liveL b k), a4 + cnt (rawC b) (liveL b k)], o, ()) := by
  have hn' : 18446744073709551616 ≤ n := hn
  have hll := liveL_len b k
  have key := runL_any (B := spec_StewRank.B19 n) (cs := cs) (len := (liveL b k).length) (fun j => (b, [a0, a1, a2, a3 + cnt (oldC b k) ((liveL b k).take j), a4 + cnt (rawC b) ((liveL b k).take j)], o, svcAt b k, ints (liveL b k), (j : Int), ())) (fun _ => false) none (cs.1 (b, [a0, a1, a2, a3 + cnt (oldC b k) (liveL b k), a4 + cnt (rawC b) (liveL b k)], o, ())) ?_ ?_ (k := n) (by omega)
  · simp only [List.take_zero, show ∀ q, cnt q [] = 0 from fun _ => rfl, Int.add_zero, show (List.range (liveL b k).length).any (fun _ => false) = false by simp, Bool.false_eq_true, if_false] at key
    exact key
  · intro next j hj
    have hlt := liveL_lt hj
    have r3 := cnt_range (oldC b k) ((liveL b k).take j)
    have r4 := cnt_range (rawC b) ((liveL b k).take j)
    have hjl : ((liveL b k).take j).length ≤ 200 := by rw [List.length_take]; omega
    rw [cnt_take _ _ hj, cnt_take _ _ hj]
    simp only [spec_StewRank.B19, ints_len, lt_dec hj, in_dec hj, Bool.or_true, if_true, Int.toNat_natCast, ints_get _ hj, in_dec hlt, wrap_next hj (show (liveL b k).length ≤ 1048576 by omega), specDrains_ok hn b _ hl3, set5_0, set5_1, set5_2, set5_3, set5_4, get5_0, get5_1, get5_2, get5_3, get5_4, in5_0, in5_1, in5_2, in5_3, in5_4]
    simp only [show ∀ k, List.getD b.2.2.1 k (Ty.zero tStewCopy) = copyAt b k from fun _ => rfl, oldC, rawC, Bool.false_eq_true, if_false]
    generalize (liveL b k)[j] = i at hlt
    have w3 : IntKind.i64.wrap (a3 + cnt (oldC b k) (List.take j (liveL b k)) + 1) = a3 + cnt (oldC b k) (List.take j (liveL b k)) + 1 := wrap_eq (by omega) (by omega)
    have w4 : IntKind.i64.wrap (a4 + cnt (rawC b) (List.take j (liveL b k)) + 1) = a4 + cnt (rawC b) (List.take j (liveL b k)) + 1 := wrap_eq (by omega) (by omega)
    rcases Bool.eq_false_or_eq_true ((copyAt b i).2.2.2.1 != (svcAt b k).2.2.2.1) with c1 | c1 <;> rcases Bool.eq_false_or_eq_true (drainsD b (copyAt b i)) with c2 | c2 <;> rcases Bool.eq_false_or_eq_true ((copyAt b i).2.2.2.2.1 != (3 : Int)) with c3 | c3 <;>
      (simp only [c1, c2, c3, tzero, Ty.zero, w3, w4, in5_4, Bool.not_true, Bool.not_false, Bool.or_true, Bool.or_false, Bool.true_or, Bool.or_self, Bool.false_eq_true, if_true, if_false, Option.bind_some, b2i, Int.add_zero, ← Int.add_assoc]
       first | done | rfl)
  · intro next
    simp only [spec_StewRank.B19, ints_len, lt_dec', Bool.false_eq_true, if_false, List.take_length]

theorem rk_range {b : Ty.den tStewBook} (h : Good b) {k : Nat} (hk : k ≤ List.length b.2.1) : (0 ≤ sumN k (d0 b) ∧ sumN k (d0 b) ≤ 8) ∧ (0 ≤ sumN k (d1 b) ∧ sumN k (d1 b) ≤ 3200) ∧ (0 ≤ sumN k (d2 b) ∧ sumN k (d2 b) ≤ 1600) ∧ (0 ≤ sumN k (d3 b) ∧ sumN k (d3 b) ≤ 1600) ∧ (0 ≤ sumN k (d4 b) ∧ sumN k (d4 b) ≤ 1600) := by
  have hp := h.p
  have hm := h.m
  have aux : ∀ (f : Nat → Int) (c : Int), (∀ i, i < List.length b.2.1 → 0 ≤ f i ∧ f i ≤ c) → 0 ≤ c → 0 ≤ sumN k f ∧ sumN k f ≤ 8 * c := by
    intro f c hf hc
    have := sumN_range (f := fun i => if i < List.length b.2.1 then f i else 0) (c := c) (fun i => by
      split
      · exact hf i ‹_›
      · omega) k
    rw [sumN_congr (g := f) (fun i hi => if_pos (show i < List.length b.2.1 by omega))] at this
    have e : (k : Int) * c ≤ 8 * c := Int.mul_le_mul_of_nonneg_right (by omega) hc
    omega
  have r0 := aux (d0 b) 1 (fun i _ => b2i_range _) (by omega)
  have r1 := aux (d1 b) 400 (fun i _ => by
    have h1 := strN_range b i
    have h2 := runN_range b i
    unfold d1
    split <;> omega) (by omega)
  have r2 := aux (d2 b) 200 (fun i hi => by
    have h1 := runN_range b i
    have h2 := h.want i hi
    unfold d2 gapN
    split
    · omega
    · split <;> omega) (by omega)
  have r3 := aux (d3 b) 200 (fun i _ => by
    have h1 := sumN_bool (fun j => (ofSvc b i j && !stray b j) && oldC b i j) (List.length b.2.2.1)
    unfold d3
    split <;> omega) (by omega)
  have r4 := aux (d4 b) 200 (fun i _ => by
    have h1 := sumN_bool (fun j => (ofSvc b i j && !stray b j) && rawC b j) (List.length b.2.2.1)
    unfold d4
    split <;> omega) (by omega)
  omega

theorem svc_eta (s : Ty.den tStewService) : (s.1, s.2.1, s.2.2.1, s.2.2.2.1, s.2.2.2.2.1, s.2.2.2.2.2.1, s.2.2.2.2.2.2.1, s.2.2.2.2.2.2.2.1, s.2.2.2.2.2.2.2.2.1, s.2.2.2.2.2.2.2.2.2.1, s.2.2.2.2.2.2.2.2.2.2.1, s.2.2.2.2.2.2.2.2.2.2.2.1, s.2.2.2.2.2.2.2.2.2.2.2.2.1, ()) = s := rfl

include hn in
theorem specRank_loop (b : Ty.den tStewBook) (h : Good b) (hb : small 1048576 tStewBook b) {R : Type} (cs : Conts R spec_StewRank.l5.outs) :
    runL (spec_StewRank.B5 n) cs n (b, [(0 : Int), (0 : Int), (0 : Int), (0 : Int), (0 : Int)], (0 : Int), ()) = cs.1 (rk b (List.length b.2.1), ()) := by
  have hn' : 18446744073709551616 ≤ n := hn
  have hp := h.p
  have hm := h.m
  have key := runL_any (B := spec_StewRank.B5 n) (cs := cs) (len := List.length b.2.1) (fun k => (b, rk b k, (k : Int), ())) (fun _ => false) none (cs.1 (rk b (List.length b.2.1), ())) ?_ ?_ (k := n) (by omega)
  · simp only [show (List.range (List.length b.2.1)).any (fun _ => false) = false by simp, Bool.false_eq_true, if_false] at key
    exact key
  · intro next k hk
    have hs := h.self k hk
    obtain ⟨q1, q5⟩ := count_sums hs (by omega)
    have r := rk_range h (Nat.le_of_lt hk)
    have rr := rk_range h (show k + 1 ≤ List.length b.2.1 by omega)
    have g1 := strN_range b k
    have g2 := runN_range b k
    have g3 := h.want k hk
    simp only [spec_StewRank.B5, lt_dec hk, in_dec hk, Int.toNat_natCast, if_true, Bool.or_true, wrap_next hk (show List.length b.2.1 ≤ 1048576 by omega)]
    simp only [show ∀ k, List.getD b.2.1 k (Ty.zero tStewService) = svcAt b k from fun _ => rfl]
    simp only [svc_eta (svcAt b k)]
    simp only [show ∀ k, (svcAt b k).2.2.2.2.1 = wantN b k from fun _ => rfl, show ∀ k, (svcAt b k).2.2.1 = gone b k from fun _ => rfl]
    rw [specCount_ok hn b (svcAt b k).1 hb]
    have w1 : IntKind.i64.wrap (sumN k (d1 b) + strN b k) = sumN k (d1 b) + strN b k := wrap_eq (by omega) (by omega)
    have w2 : IntKind.i64.wrap (sumN k (d1 b) + strN b k + runN b k) = sumN k (d1 b) + strN b k + runN b k := wrap_eq (by omega) (by omega)
    have w3 : IntKind.i64.wrap (runN b k - wantN b k) = runN b k - wantN b k := wrap_eq (by omega) (by omega)
    have w4 : IntKind.i64.wrap (0 - (runN b k - wantN b k)) = 0 - (runN b k - wantN b k) := wrap_eq (by omega) (by omega)
    have w5 : IntKind.i64.wrap (sumN k (d0 b) + 1) = sumN k (d0 b) + 1 := wrap_eq (by omega) (by omega)
    have w6 : IntKind.i64.wrap (sumN k (d2 b) + (0 - (runN b k - wantN b k))) = sumN k (d2 b) + (0 - (runN b k - wantN b k)) := wrap_eq (by omega) (by omega)
    have w7 : IntKind.i64.wrap (sumN k (d2 b) + (runN b k - wantN b k)) = sumN k (d2 b) + (runN b k - wantN b k) := wrap_eq (by omega) (by omega)
    simp only [Option.bind_some, q1, q5, rk, sumN, set5_0, set5_1, set5_2, set5_3, set5_4, get5_0, get5_1, get5_2, get5_3, get5_4, in5_0, in5_1, in5_2, in5_3, in5_4, if_true, Bool.or_true, w1, w2, w3, w4, w5, w6, w7, specLive_ok hn b k (show List.length b.2.2.1 ≤ 1048576 by omega)]
    rcases Bool.eq_false_or_eq_true (gone b k) with c | c
    · simp only [c, if_true, d0, d1, d2, d3, d4, b2i, Int.add_zero, Bool.false_eq_true, if_false, Int.add_assoc]
    · simp only [c, d0, d1, d2, d3, d4, gapN, show b2i false = 0 from rfl, Int.add_zero, Bool.false_eq_true, if_false]
      by_cases hneg : runN b k - wantN b k < 0
      · rw [if_pos (decide_eq_true hneg), if_pos hneg]
        refine (inner_ok hn b k hm hb.2.2.2.1.1 (sumN k (d0 b)) (sumN k (d1 b) + strN b k) (sumN k (d2 b) + (0 - (runN b k - wantN b k))) (sumN k (d3 b)) (sumN k (d4 b)) (by omega) (by omega) (k : Int) _).trans ?_
        simp only [wrap_next hk (show List.length b.2.1 ≤ 1048576 by omega), cnt_live]
      · rw [if_neg (show ¬ decide (runN b k - wantN b k < 0) = true from fun hh => hneg (of_decide_eq_true hh)), if_neg hneg]
        refine (inner_ok hn b k hm hb.2.2.2.1.1 (sumN k (d0 b)) (sumN k (d1 b) + strN b k) (sumN k (d2 b) + (runN b k - wantN b k)) (sumN k (d3 b)) (sumN k (d4 b)) (by omega) (by omega) (k : Int) _).trans ?_
        simp only [wrap_next hk (show List.length b.2.1 ≤ 1048576 by omega), cnt_live]
  · intro next
    simp only [spec_StewRank.B5, lt_dec', Bool.false_eq_true, if_false]

include hn in
theorem specRank_ok (b : Ty.den tStewBook) (hb : small 1048576 tStewBook b) (h : bookD n b = true) : spec_StewRank.f n (b, ()) = some (rk b (List.length b.2.1), ()) := by
  unfold spec_StewRank.f
  simp only [specBook_ok hn b hb, h, Option.bind_some, Bool.not_true, Bool.false_eq_true, if_false]
  exact specRank_loop hn b (good_of hn b h) hb _

def mid (b : Ty.den tStewBook) (k : Nat) : List Int := [sumN k (d0 b), 0, sumN k (d2 b), 0, 0]
@[reducible] def rkI (b : Ty.den tStewBook) (i : Nat) : List Int := [sumN (List.length b.2.1) (d0 b), sumN i (e1 b), sumN (List.length b.2.1) (d2 b), sumN i (e3 b), sumN i (e4 b)]

theorem home_svc {b : Ty.den tStewBook} (h : Good b) {i : Nat} (hi : i < List.length b.2.2.1) : svcIdx b (copyAt b i).1 = some (home b i) := by
  obtain ⟨j, hj, hji⟩ := h.has i hi
  unfold home
  rw [hji]
  rfl

include hn in
theorem implRank_ok (b : Ty.den tStewBook) (hb : small 1048576 tStewBook b) (h0 : bookD n b = true) : impl_StewRank.f n (b, ()) = some (rk b (List.length b.2.1), ()) := by
  have hn' : 18446744073709551616 ≤ n := hn
  have h := good_of hn b h0
  have hp := h.p
  have hm := h.m
  have hl1 : List.length b.2.1 ≤ 1048576 := hb.2.1.1
  have hl3 : List.length b.2.2.2.1 ≤ 1048576 := hb.2.2.2.1.1
  unfold impl_StewRank.f
  rw [if_pos (by decide)]
  simp only [implBook_ok hn b hb, h0, Option.bind_some, Bool.not_true, Bool.false_eq_true, if_false]
  have key1 : ∀ {R : Type} (cs : Conts R impl_StewRank.l5.outs), runL (impl_StewRank.B5 n) cs n (b, [(0 : Int), (0 : Int), (0 : Int), (0 : Int), (0 : Int)], (List.length b.2.1 : Int), (0 : Int), ()) = cs.1 (b, [sumN (List.length b.2.1) (d0 b), 0, sumN (List.length b.2.1) (d2 b), 0, 0], ()) := by
    intro R cs
    have key := runL_any (B := impl_StewRank.B5 n) (cs := cs) (len := List.length b.2.1) (fun k => (b, [sumN k (d0 b), 0, sumN k (d2 b), 0, 0], (List.length b.2.1 : Int), (k : Int), ())) (fun _ => false) none (cs.1 (b, [sumN (List.length b.2.1) (d0 b), 0, sumN (List.length b.2.1) (d2 b), 0, 0], ())) ?_ ?_ (k := n) (by omega)
    · simp only [show (List.range (List.length b.2.1)).any (fun _ => false) = false by simp, Bool.false_eq_true, if_false] at key
      exact key
    · intro next k hk
      have hs := h.self k hk
      obtain ⟨q1, q5⟩ := count_sums hs (by omega)
      have r := rk_range h (Nat.le_of_lt hk)
      have rr := rk_range h (show k + 1 ≤ List.length b.2.1 by omega)
      have g2 := runN_range b k
      have g3 := h.want k hk
      have hic := implCount_ok hn b (svcAt b k).1 k hb hs
      simp only [impl_StewRank.B5, lt_dec hk, in_dec hk, Int.toNat_natCast, if_true, wrap_next hk hl1]
      simp only [show ∀ k, List.getD b.2.1 k (Ty.zero tStewService) = svcAt b k from fun _ => rfl, show ∀ k, (svcAt b k).2.2.2.2.1 = wantN b k from fun _ => rfl, show ∀ k, (svcAt b k).2.2.1 = gone b k from fun _ => rfl]
      rw [hic]
      have w3 : IntKind.i64.wrap (runN b k - wantN b k) = runN b k - wantN b k := wrap_eq (by omega) (by omega)
      have w4 : IntKind.i64.wrap (wantN b k - runN b k) = wantN b k - runN b k := wrap_eq (by omega) (by omega)
      have w5 : IntKind.i64.wrap (sumN k (d0 b) + 1) = sumN k (d0 b) + 1 := wrap_eq (by omega) (by omega)
      have hgap : (if wantN b k - runN b k > runN b k - wantN b k then wantN b k - runN b k else runN b k - wantN b k) = gapN b k := by
        unfold gapN
        split <;> split <;> omega
      have hr : 0 ≤ gapN b k ∧ gapN b k ≤ 210 := by
        unfold gapN
        split <;> omega
      have w6 : IntKind.i64.wrap (sumN k (d2 b) + gapN b k) = sumN k (d2 b) + gapN b k := wrap_eq (by omega) (by omega)
      simp only [Option.bind_some, q1, sumN, set5_0, set5_2, get5_0, get5_2, in5_0, in5_2, if_true, Bool.or_true, w3, w4, w5, hgap, w6]
      rcases Bool.eq_false_or_eq_true (gone b k) with c | c
      · simp only [c, if_true, d0, d2, b2i, Int.add_zero, Bool.false_eq_true, if_false]
      · simp only [c, d0, d2, b2i, Int.add_zero, Bool.false_eq_true, if_false]
    · intro next
      simp only [impl_StewRank.B5, lt_dec', Bool.false_eq_true, if_false]
  refine (key1 _).trans ?_
  have eb : ∀ (q : Nat → Bool) i, 0 ≤ sumN i (fun i => b2i (q i)) ∧ sumN i (fun i => b2i (q i)) ≤ i := fun q i => sumN_bool q i
  have key := runL_any (B := impl_StewRank.B14 n) (cs := ((fun z8 => some (z8.1, ())), ())) (len := List.length b.2.2.1) (fun i => (b, [sumN (List.length b.2.1) (d0 b), sumN i (e1 b), sumN (List.length b.2.1) (d2 b), sumN i (e3 b), sumN i (e4 b)], b.2.2.1, (List.length b.2.2.1 : Int), (i : Int), ())) (fun _ => false) none (some (rk b (List.length b.2.1), ())) ?_ ?_ (k := n) (by omega)
  · simp only [show (List.range (List.length b.2.2.1)).any (fun _ => false) = false by simp, Bool.false_eq_true, if_false] at key
    exact key
  · intro next i hi
    have hs := home_svc h hi
    have t1 := eb (fun i => stray b i || gone b (home b i)) i
    have t3 := eb (fun i => !(stray b i || gone b (home b i)) && oldC b (home b i) i) i
    have t4 := eb (fun i => !(stray b i || gone b (home b i)) && rawC b i) i
    have t1 : 0 ≤ sumN i (e1 b) ∧ sumN i (e1 b) ≤ i := t1
    have t3 : 0 ≤ sumN i (e3 b) ∧ sumN i (e3 b) ≤ i := t3
    have t4 : 0 ≤ sumN i (e4 b) ∧ sumN i (e4 b) ≤ i := t4
    simp only [impl_StewRank.B14, lt_dec hi, in_dec hi, Int.toNat_natCast, if_true, wrap_next hi (show List.length b.2.2.1 ≤ 1048576 by omega)]
    simp only [show ∀ k, List.getD b.2.2.1 k (Ty.zero tStewCopy) = copyAt b k from fun _ => rfl, implSvc_ok hn b _ hl1, hs, Option.map_some, Option.isSome_some, Option.getD_some, Option.bind_some, Bool.or_true, if_true, implDrains_ok hn b _ hl3, impl_one.f,
      show ∀ k, (svcAt b k).2.2.1 = gone b k from fun _ => rfl, show ∀ k, (copyAt b k).2.2.2.2.2.1 = stray b k from fun _ => rfl, sumN, set5_1, set5_3, set5_4, get5_1, get5_3, get5_4, in5_1, in5_3, in5_4]
    have w1 : IntKind.i64.wrap (sumN i (e1 b) + 1) = sumN i (e1 b) + 1 := wrap_eq (by omega) (by omega)
    have w3 : IntKind.i64.wrap (sumN i (e3 b) + 1) = sumN i (e3 b) + 1 := wrap_eq (by omega) (by omega)
    have w4 : IntKind.i64.wrap (sumN i (e4 b) + 1) = sumN i (e4 b) + 1 := wrap_eq (by omega) (by omega)
    have w30 : IntKind.i64.wrap (sumN i (e3 b)) = sumN i (e3 b) := wrap_eq (by omega) (by omega)
    have w40 : IntKind.i64.wrap (sumN i (e4 b)) = sumN i (e4 b) := wrap_eq (by omega) (by omega)
    rcases Bool.eq_false_or_eq_true (stray b i || gone b (home b i)) with c | c
    · simp only [c, if_true, w1, e1, e3, e4, b2i, Bool.not_true, Bool.false_and, Bool.false_eq_true, if_false, Int.add_zero]
    · rcases Bool.eq_false_or_eq_true ((copyAt b i).2.2.2.1 != (svcAt b (home b i)).2.2.2.1) with c1 | c1 <;> rcases Bool.eq_false_or_eq_true (drainsD b (copyAt b i)) with c2 | c2 <;> rcases Bool.eq_false_or_eq_true ((copyAt b i).2.2.2.2.1 != (3 : Int)) with c3 | c3 <;>
        simp only [c, c1, c2, c3, tzero, Ty.zero, oldC, rawC, e1, e3, e4, b2i, w3, w4, w30, w40, in5_4, in5_3, set5_4, get5_4, Bool.not_true, Bool.not_false, Bool.or_true, Bool.or_false, Bool.true_or, Bool.or_self, Bool.and_true, Bool.true_and, Bool.and_false, Bool.false_eq_true, if_true, if_false, Option.bind_some, Int.add_zero]
  · intro next
    simp only [impl_StewRank.B14, lt_dec', Bool.false_eq_true, if_false]
    rw [← sums_1 h, ← sums_3 h, ← sums_4 h]
end

section
variable {n : Nat} (hn : Big n)

def rankD (n : Nat) (b : Ty.den tStewBook) : List Int := if bookD n b = true then rk b (List.length b.2.1) else [0, 0, 0, 0, 0]

include hn in
theorem specRank_all (b : Ty.den tStewBook) (hb : small 1048576 tStewBook b) : spec_StewRank.f n (b, ()) = some (rankD n b, ()) := by
  unfold rankD
  by_cases h : bookD n b = true
  · rw [if_pos h]; exact specRank_ok hn b hb h
  · rw [if_neg h]
    have h0 : bookD n b = false := by simpa using h
    unfold spec_StewRank.f
    simp only [specBook_ok hn b hb, h0, Option.bind_some, Bool.not_false, if_true]

include hn in
theorem implRank_all (b : Ty.den tStewBook) (hb : small 1048576 tStewBook b) : impl_StewRank.f n (b, ()) = some (rankD n b, ()) := by
  unfold rankD
  by_cases h : bookD n b = true
  · rw [if_pos h]; exact implRank_ok hn b hb h
  · rw [if_neg h]
    have h0 : bookD n b = false := by simpa using h
    unfold impl_StewRank.f
    rw [if_pos (by decide)]
    simp only [implBook_ok hn b hb, h0, Option.bind_some, Bool.not_false, if_true]
    rfl

theorem rankD_len (b : Ty.den tStewBook) : (rankD n b).length = 5 := by
  unfold rankD
  split <;> rfl
end

theorem wt_ints (l : List Int) : wt (.slice (.int .i64)) l = 2 * l.length := by
  rw [wt_slice]
  have : (l.map (wt (.int .i64))).sum = l.length := by
    induction l with
    | nil => rfl
    | cons x l ih =>
      rw [List.map_cons, List.sum_cons, ih, wt_int, List.length_cons]
      omega
  omega

theorem pure_law (n : Nat) (hn : Big n) (x : Tup [tStewBook]) (hw : wfT [tStewBook] x) : laws_FnExactStewRank.f n x = some (true, ()) := by
  obtain ⟨d, ⟨⟩⟩ := x
  obtain ⟨hw1, _⟩ := hw
  unfold laws_FnExactStewRank.f
  have h : laws_szStewBook.f n (d, 1048576, ()) = _ := laws_szStewBook_ok n hn d hw1 1048576 (by omega) (by omega)
  simp only [h, Option.bind_some]
  by_cases hb : (bulk tStewBook d : Int) ≤ 1048576
  · have hs : small 1048576 tStewBook d := small_of_bulk (by omega)
    have hg : small 1048576 (.slice (.int .i64)) (rankD n d) := ⟨by have := rankD_len (n := n) d; omega, fun _ _ => trivial⟩
    have hwt := wt_small hb (by decide)
    have hwg : wt (.slice (.int .i64)) (rankD n d) = 10 := by have := rankD_len (n := n) d; rw [wt_ints, this]
    rw [subL_pos hb, if_neg (by simp; omega)]
    simp only [laws_toStewBook_ok n hn d hs, Option.bind_some, specRank_all hn d hs, implRank_all hn d hs, laws_eqStewBook_ok n hn (d, d, ()) hs, laws_eqIntS_ok n hn (rankD n d, rankD n d, ()) hg, eqD_refl, Bool.not_true, Bool.false_eq_true, if_false]
    obtain ⟨s1, s2, s3, k1, p1, q1, m1⟩ := laws_markStewBook_ok n hn d 1 (by omega) (by omega)
    obtain ⟨s4, k2, p2, q2, m2, h2⟩ := laws_markIntS_ok n hn (rankD n d) 1 (by omega) (by omega)
    have d1 : decide (k1 < 0) = false := decide_eq_false (by omega)
    have d2 : decide (k2 < 0) = false := decide_eq_false (by omega)
    simp only [m1, m2, h2, d1, d2, Option.bind_some, Bool.not_false, if_true, Bool.false_or, Bool.not_true, Bool.false_eq_true, if_false, bne_self_eq_false]
  · rw [subL_neg hb, if_pos (by decide)]

end Go.Proofs.Ytjbpccinpcpdkae
