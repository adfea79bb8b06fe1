/- The law FnExactStewMayEnd: what the program tells and what the reference tells are one, for all arguments (the plain law, over printed pure functions). No conditions. -/
import Derived.Test.YtakbelofppdkhabP
set_option linter.unusedVariables false
set_option linter.unusedSimpArgs false
namespace Go.Proofs.Ytakbelofppdkhab
open Go Go.Vm
/-! ### the steward's books -/
section
variable {n : Nat} (hn : Big n)

theorem sGetD_lt {X : Type} (l : List X) (i : Nat) (z : X) (h : i < l.length) : l.getD i z = l[i] := by simp [h]
theorem sPred_wrap {i : Nat} (h : 0 < i) (hi : i ≤ 1048576) : IntKind.i64.wrap ((i : Int) - 1) = ((i - 1 : Nat) : Int) := by
  rw [wrap_eq (by omega) (by omega)]; omega
theorem sPred_in {i len : Nat} (h : 0 < i) (hi : i < len) : decide (0 ≤ ((i - 1 : Nat) : Int) ∧ ((i - 1 : Nat) : Int) < (len : Int)) = true := decide_eq_true (by omega)

def sIn (a lo hi : Int) : Bool := (decide (a ≥ lo)) && (decide (a ≤ hi))
theorem specSIn_ok (x : Tup [.int .i64, .int .i64, .int .i64]) : spec_l12In.f n x = some (sIn x.1 x.2.1 x.2.2.1, ()) := rfl
theorem implSIn_ok (x : Tup [.int .i64, .int .i64, .int .i64]) : impl_within.f n x = some (sIn x.1 x.2.1 x.2.2.1, ()) := rfl
theorem sIn_iff {a lo hi : Int} : sIn a lo hi = true ↔ lo ≤ a ∧ a ≤ hi := by
  unfold sIn
  simp only [Bool.and_eq_true, decide_eq_true_eq, ge_iff_le]
theorem sIn_false {a lo hi : Int} : sIn a lo hi = false ↔ ¬ (lo ≤ a ∧ a ≤ hi) := by
  rw [← sIn_iff, Bool.not_eq_true]

def badLetter (s : ByteArray) (i : Nat) : Bool := !((((decide ((byteAt s (i : Int)) ≥ (97 : Int))) && (decide ((byteAt s (i : Int)) ≤ (122 : Int)))) || ((decide ((byteAt s (i : Int)) ≥ (48 : Int))) && (decide ((byteAt s (i : Int)) ≤ (57 : Int))))) || ((byteAt s (i : Int)) == (45 : Int)))
def sName (s : ByteArray) : Bool := sIn (s.size : Int) 1 20 && !(List.range s.size).any (badLetter s)

include hn in
theorem specSName_ok (s : ByteArray) : spec_l12NameOk.f n (s, ()) = some (sName s, ()) := by
  have hn' : 18446744073709551616 ≤ n := hn
  unfold spec_l12NameOk.f sName
  simp only [specSIn_ok, Option.bind_some]
  rcases Bool.eq_false_or_eq_true (sIn (s.size : Int) 1 20) with c | c
  rotate_left
  · simp [c]
  have hl : s.size ≤ 1048576 := by rw [sIn_iff] at c; omega
  simp only [c, Bool.not_true, Bool.false_eq_true, if_false, Bool.true_and]
  refine (runL_any (len := s.size) (fun i => (s, (i : Int), ())) (badLetter s) (some (false, ())) (some (true, ())) ?_ ?_ (by omega)).trans (by cases (List.range s.size).any (badLetter s) <;> rfl)
  · intro next i hi
    simp only [spec_l12NameOk.B4, lt_dec hi, in_dec hi, if_true, wrap_next hi hl, badLetter]
    rfl
  · intro next
    simp only [spec_l12NameOk.B4, lt_dec', Bool.false_eq_true, if_false]

include hn in
theorem implSName_ok (s : ByteArray) : impl_isName_stew.f n (s, ()) = some (sName s, ()) := by
  have hn' : 18446744073709551616 ≤ n := hn
  unfold impl_isName_stew.f sName
  have e : ((decide ((ByteArray.size s : Int) < (1 : Int))) || (decide ((ByteArray.size s : Int) > (20 : Int)))) = !sIn (s.size : Int) 1 20 := by
    unfold sIn
    rw [Bool.not_and, Bool.eq_iff_iff]
    simp only [Bool.or_eq_true, decide_eq_true_eq, Bool.not_eq_true', decide_eq_false_iff_not]
    omega
  simp only [e]
  rcases Bool.eq_false_or_eq_true (sIn (s.size : Int) 1 20) with c | c
  rotate_left
  · simp [c]
  have hl : s.size ≤ 1048576 := by rw [sIn_iff] at c; omega
  simp only [c, Bool.not_true, Bool.false_eq_true, if_false, Bool.true_and]
  refine (runL_any (len := s.size) (fun i => (s, (s.size : Int), (i : Int), ())) (badLetter s) (some (false, ())) (some (true, ())) ?_ ?_ (by omega)).trans (by cases (List.range s.size).any (badLetter s) <;> rfl)
  · intro next i hi
    simp only [impl_isName_stew.B4, lt_dec hi, in_dec hi, if_true, wrap_next hi hl, badLetter]
    rfl
  · intro next
    simp only [impl_isName_stew.B4, lt_dec', Bool.false_eq_true, if_false]

include hn in
theorem service_same (s : Ty.den tStewService) (y : Int) : ∃ b : Bool, spec_l12ServiceOk.f n (s, y, ()) = some (b, ()) ∧ impl_serviceOk.f n (s, y, ()) = some (b, ()) := by
  obtain ⟨nm, a1, a2, a3, a4, a5, a6, a7, z, p, q, r, t, ⟨⟩⟩ := s
  change Int at a1 a3 a4 a5 a6 a7 z p q r t
  unfold spec_l12ServiceOk.f impl_serviceOk.f
  simp only [specSName_ok hn, implSName_ok hn, specSIn_ok, implSIn_ok, Option.bind_some, guarded]
  generalize hB : (_ || (IntKind.i64.wrap (a5 + a6) == 0)) = B
  cases B with
  | true => exact ⟨false, rfl, rfl⟩
  | false =>
    simp only [Bool.false_eq_true, if_false]
    by_cases hz : z = 0
    · subst hz
      refine ⟨_, rfl, ?_⟩
      have h0 : sIn 0 0 1000000 = true := by decide
      by_cases h1 : p = 0 ∧ q = 0 ∧ r = 0 ∧ t = 0
      · obtain ⟨rfl, rfl, rfl, rfl⟩ := h1
        rfl
      · have hz : ((((p == (0 : Int)) && (q == (0 : Int))) && (r == (0 : Int))) && (t == (0 : Int))) = false := by
          rw [Bool.eq_false_iff]
          simp only [ne_eq, Bool.and_eq_true, beq_iff_eq]
          omega
        simp only [hz, decide_eq_false (show ¬ (0 : Int) > 0 by omega), Bool.or_false, Bool.or_self, beq_self_eq_true, if_true, ite_self]
        try rfl
    · have hz' : (z == (0 : Int)) = false := by simpa using hz
      simp only [hz', Bool.false_eq_true, if_false]
      refine ⟨_, rfl, ?_⟩
      rcases Bool.eq_false_or_eq_true (sIn z 0 1000000) with c1 | c1
      rotate_left
      · simp [c1]
      rcases Bool.eq_false_or_eq_true (sIn r 0 1000000) with c2 | c2
      rotate_left
      · simp [c1, c2, tzero]
      rcases Bool.eq_false_or_eq_true (sIn p 0 10) with c3 | c3
      rotate_left
      · simp [c1, c2, c3, tzero]
      have hpos : z > 0 := by rw [sIn_iff] at c1; omega
      by_cases hq : sIn q p 10 = true
      · have h0 : sIn q 0 10 = true := by rw [sIn_iff] at hq c3 ⊢; omega
        have h1 : ¬ p > q := by rw [sIn_iff] at hq; omega
        simp [c1, c2, c3, hq, h0, h1, decide_eq_true hpos]
        cases sIn t 0 3 <;> rfl
      · have hq := Bool.eq_false_iff.2 hq
        by_cases h0 : sIn q 0 10 = true
        · have h1 : p > q := by rw [sIn_false] at hq; rw [sIn_iff] at h0; omega
          simp [c1, c2, c3, hq, h0, h1, tzero]
        · have h0 := Bool.eq_false_iff.2 h0
          simp [c1, c2, c3, hq, h0, tzero]

def sService (n : Nat) (s : Ty.den tStewService) (y : Int) : Bool := ((spec_l12ServiceOk.f n (s, y, ())).getD (false, ())).1
include hn in
theorem services_ok (s : Ty.den tStewService) (y : Int) : spec_l12ServiceOk.f n (s, y, ()) = some (sService n s y, ()) ∧ impl_serviceOk.f n (s, y, ()) = some (sService n s y, ()) := by
  obtain ⟨b, h1, h2⟩ := service_same hn s y
  unfold sService
  rw [h1, h2]
  exact ⟨rfl, rfl⟩
end

/-! ### the two verdicts on a book -/
section
variable {n : Nat} (hn : Big n)

theorem bytesLess_total : ∀ a b : List UInt8, (Op.bytesLess b a || (b == a)) = !Op.bytesLess a b
  | [], [] => rfl
  | [], _ :: _ => rfl
  | _ :: _, [] => rfl
  | x :: a, y :: b => by
    have ih := bytesLess_total a b
    simp only [Op.bytesLess]
    rcases Nat.lt_trichotomy x.toNat y.toNat with h | h | h
    · have h1 : x < y := UInt8.lt_iff_toNat_lt.2 h
      have h2 : ¬ y < x := fun hh => by have := UInt8.lt_iff_toNat_lt.1 hh; omega
      have h3 : y ≠ x := fun hh => by subst hh; omega
      simp [h1, h2, h3]
    · have : x = y := UInt8.toNat_inj.1 h
      subst this
      simpa using ih
    · have h1 : y < x := UInt8.lt_iff_toNat_lt.2 h
      have h2 : ¬ x < y := fun hh => by have := UInt8.lt_iff_toNat_lt.1 hh; omega
      have h3 : x ≠ y := fun hh => by subst hh; omega
      simp [h1, h2, h3]
theorem slt_total (a b : ByteArray) : (slt b a || seq b a) = !slt a b := bytesLess_total _ _

theorem fidx_ge' {X : Type} (p : X → Bool) (l : List X) : decide (fidx p l ≥ 0) = (l.findIdx? p).isSome := by
  cases h : l.findIdx? p with
  | none => rw [fidx_none h]; rfl
  | some i => rw [fidx_some h]; exact decide_eq_true (by omega)

def svcIdx (b : Ty.den tStewBook) (nm : ByteArray) : Option Nat := List.findIdx? (fun t : Ty.den tStewService => seq t.1 nm) b.2.1
def berthIdx (b : Ty.den tStewBook) (nm : ByteArray) : Option Nat := List.findIdx? (fun t : Ty.den tStewBerth => seq t.1 nm) b.2.2.2.1
def svcAt (b : Ty.den tStewBook) (i : Nat) : Ty.den tStewService := List.getD b.2.1 i (Ty.zero tStewService)
def berthAt (b : Ty.den tStewBook) (i : Nat) : Ty.den tStewBerth := List.getD b.2.2.2.1 i (Ty.zero tStewBerth)
def copyAt (b : Ty.den tStewBook) (i : Nat) : Ty.den tStewCopy := List.getD b.2.2.1 i (Ty.zero tStewCopy)

theorem svcIdx_lt {b : Ty.den tStewBook} {nm : ByteArray} {i : Nat} (h : svcIdx b nm = some i) : i < List.length b.2.1 := findIdx?_lt h

include hn in
theorem specSvc_ok (b : Ty.den tStewBook) (nm : ByteArray) (hl : List.length b.2.1 ≤ 1048576) : spec_l12Service.f n (b, nm, ()) = some (fidx (fun t : Ty.den tStewService => seq t.1 nm) b.2.1, ()) := by
  have hn' : 18446744073709551616 ≤ n := hn
  unfold spec_l12Service.f
  refine (runL_find (l := b.2.1) (fun i => (nm, b, (i : Int), ())) (fun t : Ty.den tStewService => seq t.1 nm) (fun i => some ((i : Int), ())) (some (-1, ())) ?_ ?_ (by omega)).trans ?_
  · intro next i hi
    simp only [spec_l12Service.B2, lt_dec hi, in_dec hi, wrap_next hi hl, if_true]
    rw [getD_nat _ _ _ hi]
  · intro next
    simp only [spec_l12Service.B2, lt_dec', Bool.false_eq_true, if_false]
  · simp only [fidx]
    cases List.findIdx? (fun t : Ty.den tStewService => seq t.1 nm) b.2.1 <;> rfl

include hn in
theorem specBerth_ok (b : Ty.den tStewBook) (nm : ByteArray) (hl : List.length b.2.2.2.1 ≤ 1048576) : spec_l12Berth.f n (b, nm, ()) = some (fidx (fun t : Ty.den tStewBerth => seq t.1 nm) b.2.2.2.1, ()) := by
  have hn' : 18446744073709551616 ≤ n := hn
  unfold spec_l12Berth.f
  refine (runL_find (l := b.2.2.2.1) (fun i => (nm, b, (i : Int), ())) (fun t : Ty.den tStewBerth => seq t.1 nm) (fun i => some ((i : Int), ())) (some (-1, ())) ?_ ?_ (by omega)).trans ?_
  · intro next i hi
    simp only [spec_l12Berth.B2, lt_dec hi, in_dec hi, wrap_next hi hl, if_true]
    rw [getD_nat _ _ _ hi]
  · intro next
    simp only [spec_l12Berth.B2, lt_dec', Bool.false_eq_true, if_false]
  · simp only [fidx]
    cases List.findIdx? (fun t : Ty.den tStewBerth => seq t.1 nm) b.2.2.2.1 <;> rfl

include hn in
theorem implSvc_ok (b : Ty.den tStewBook) (nm : ByteArray) (hl : List.length b.2.1 ≤ 1048576) : impl_StewBook_service.f n (some b, nm, ()) = some ((svcIdx b nm).map (svcAt b), ()) := by
  have hn' : 18446744073709551616 ≤ n := hn
  unfold impl_StewBook_service.f svcIdx svcAt
  simp only [Option.isSome_some, if_true]
  refine (runL_find (l := b.2.1) (fun i => (some b, nm, (List.length b.2.1 : Int), (i : Int), ())) (fun t : Ty.den tStewService => seq t.1 nm) (fun i => some (some (List.getD b.2.1 i (Ty.zero tStewService)), ())) (some (none, ())) ?_ ?_ (by omega)).trans ?_
  · intro next i hi
    simp only [impl_StewBook_service.B2, Option.isSome_some, Option.getD_some, lt_dec hi, in_dec hi, wrap_next hi hl, if_true]
    rw [getD_nat _ _ _ hi, sGetD_lt _ _ _ hi]
  · intro next
    simp only [impl_StewBook_service.B2, lt_dec', Bool.false_eq_true, if_false]
  · cases List.findIdx? (fun t : Ty.den tStewService => seq t.1 nm) b.2.1 <;> rfl

include hn in
theorem implBerth_ok (b : Ty.den tStewBook) (nm : ByteArray) (hl : List.length b.2.2.2.1 ≤ 1048576) : impl_StewBook_berth.f n (some b, nm, ()) = some ((berthIdx b nm).map (berthAt b), ()) := by
  have hn' : 18446744073709551616 ≤ n := hn
  unfold impl_StewBook_berth.f berthIdx berthAt
  simp only [Option.isSome_some, if_true]
  refine (runL_find (l := b.2.2.2.1) (fun i => (some b, nm, (List.length b.2.2.2.1 : Int), (i : Int), ())) (fun t : Ty.den tStewBerth => seq t.1 nm) (fun i => some (some (List.getD b.2.2.2.1 i (Ty.zero tStewBerth)), ())) (some (none, ())) ?_ ?_ (by omega)).trans ?_
  · intro next i hi
    simp only [impl_StewBook_berth.B2, Option.isSome_some, Option.getD_some, lt_dec hi, in_dec hi, wrap_next hi hl, if_true]
    rw [getD_nat _ _ _ hi, sGetD_lt _ _ _ hi]
  · intro next
    simp only [impl_StewBook_berth.B2, lt_dec', Bool.false_eq_true, if_false]
  · cases List.findIdx? (fun t : Ty.den tStewBerth => seq t.1 nm) b.2.2.2.1 <;> rfl

def copyOkD (b : Ty.den tStewBook) (c : Ty.den tStewCopy) : Bool :=
  match svcIdx b c.1 with
  | none => false
  | some i => sIn c.2.1 1 (IntKind.i64.wrap ((svcAt b i).2.2.2.2.2.2.2.1 - 1)) && sIn c.2.2.1 1 b.1 && sIn c.2.2.2.1 1 1000000 && sIn c.2.2.2.2.1 1 4
    && (if (c.2.2.2.2.1 == (1 : Int)) = true then seq c.2.2.2.2.2.2.1 ⟨#[]⟩ else (berthIdx b c.2.2.2.2.2.2.1).isSome)

def aheadD (c d : Ty.den tStewCopy) : Bool := slt c.1 d.1 || (seq c.1 d.1 && decide (c.2.1 < d.2.1))

include hn in
theorem specCopy_ok (b : Ty.den tStewBook) (c : Ty.den tStewCopy) (hb : small 1048576 tStewBook b) : spec_l12CopyOk.f n (b, c, ()) = some (copyOkD b c, ()) := by
  have hl : List.length b.2.1 ≤ 1048576 := hb.2.1.1
  have hl2 : List.length b.2.2.2.1 ≤ 1048576 := hb.2.2.2.1.1
  unfold spec_l12CopyOk.f copyOkD
  simp only [specSvc_ok hn b c.1 hl, specSIn_ok, specBerth_ok hn b _ hl2, Option.bind_some]
  cases hs : svcIdx b c.1 with
  | none =>
    have hs' : List.findIdx? (fun t : Ty.den tStewService => seq t.1 c.1) b.2.1 = none := hs
    rw [fidx_none hs']
    rfl
  | some i =>
    have hi := svcIdx_lt hs
    have hs' : List.findIdx? (fun t : Ty.den tStewService => seq t.1 c.1) b.2.1 = some i := hs
    have h0 : decide ((i : Int) < 0) = false := by simp
    simp only [fidx_some hs', h0, in_dec hi, Bool.not_false, Bool.not_true, Bool.false_or, Bool.or_true, if_true, Int.toNat_natCast, Option.bind_some, svcAt]
    rcases Bool.eq_false_or_eq_true (sIn c.2.1 1 (IntKind.i64.wrap ((List.getD b.2.1 i (Ty.zero tStewService)).2.2.2.2.2.2.2.1 - 1))) with c1 | c1
    rotate_left
    · simp [c1, tzero, -List.getD_eq_getElem?_getD]
    rcases Bool.eq_false_or_eq_true (sIn c.2.2.1 1 b.1) with c2 | c2
    rotate_left
    · simp [c1, c2, tzero, -List.getD_eq_getElem?_getD]
    rcases Bool.eq_false_or_eq_true (sIn c.2.2.2.1 1 1000000) with c3 | c3
    rotate_left
    · simp [c1, c2, c3, tzero, -List.getD_eq_getElem?_getD]
    rcases Bool.eq_false_or_eq_true (sIn c.2.2.2.2.1 1 4) with c4 | c4
    rotate_left
    · simp [c1, c2, c3, c4, tzero, -List.getD_eq_getElem?_getD]
    simp only [c1, c2, c3, c4, Bool.not_true, Bool.not_false, Bool.or_false, if_true, Option.bind_some, Bool.false_eq_true, if_false, Bool.true_and, guarded]
    rcases Bool.eq_false_or_eq_true (c.2.2.2.2.1 == (1 : Int)) with c5 | c5
    · simp only [c5, if_true]
    · simp only [c5, Bool.false_eq_true, if_false]
      rw [fidx_ge', berthIdx]

def badSvc (n : Nat) (b : Ty.den tStewBook) (i : Nat) : Bool := (!sService n (svcAt b i) b.1) || (decide (0 < i) && !slt (svcAt b (i - 1)).1 (svcAt b i).1)
def badBerth (b : Ty.den tStewBook) (i : Nat) : Bool := (!sName (berthAt b i).1) || (decide (0 < i) && !slt (berthAt b (i - 1)).1 (berthAt b i).1)
def badCopy (b : Ty.den tStewBook) (i : Nat) : Bool := (!copyOkD b (copyAt b i)) || (decide (0 < i) && !aheadD (copyAt b (i - 1)) (copyAt b i))

def bookD (n : Nat) (b : Ty.den tStewBook) : Bool :=
  sIn b.1 0 1000000 && decide ((List.length b.2.1 : Int) ≤ 8) && decide ((List.length b.2.2.1 : Int) ≤ 200) && decide ((List.length b.2.2.2.1 : Int) ≤ 6)
    && !(List.range (List.length b.2.1)).any (badSvc n b) && !(List.range (List.length b.2.2.2.1)).any (badBerth b) && !(List.range (List.length b.2.2.1)).any (badCopy b)

include hn in
theorem specBook_ok (b : Ty.den tStewBook) (hb : small 1048576 tStewBook b) : spec_StewValid.f n (b, ()) = some (bookD n b, ()) := by
  have hn' : 18446744073709551616 ≤ n := hn
  have hl1 : List.length b.2.1 ≤ 1048576 := hb.2.1.1
  have hl2 : List.length b.2.2.1 ≤ 1048576 := hb.2.2.1.1
  have hl3 : List.length b.2.2.2.1 ≤ 1048576 := hb.2.2.2.1.1
  unfold spec_StewValid.f bookD
  simp only [specSIn_ok, Option.bind_some]
  rcases Bool.eq_false_or_eq_true (sIn b.1 0 1000000) with c1 | c1
  rotate_left
  · simp [c1]
  by_cases c2 : (List.length b.2.1 : Int) ≤ 8
  rotate_left
  · have e : decide ((List.length b.2.1 : Int) > 8) = true := decide_eq_true (by omega)
    simp [c1, e, decide_eq_false c2]
  have e2 : decide ((List.length b.2.1 : Int) > 8) = false := decide_eq_false (by omega)
  by_cases c3 : (List.length b.2.2.1 : Int) ≤ 200
  rotate_left
  · have e : decide ((List.length b.2.2.1 : Int) > 200) = true := decide_eq_true (by omega)
    simp [c1, e2, e, decide_eq_false c3]
  have e3 : decide ((List.length b.2.2.1 : Int) > 200) = false := decide_eq_false (by omega)
  by_cases c4 : (List.length b.2.2.2.1 : Int) ≤ 6
  rotate_left
  · have e : decide ((List.length b.2.2.2.1 : Int) > 6) = true := decide_eq_true (by omega)
    simp [c1, e2, e3, e, decide_eq_false c4]
  have e4 : decide ((List.length b.2.2.2.1 : Int) > 6) = false := decide_eq_false (by omega)
  simp only [c1, e2, e3, e4, decide_eq_true c2, decide_eq_true c3, decide_eq_true c4, Bool.not_true, Bool.or_false, Bool.false_eq_true, if_false, Bool.true_and]
  refine (runL_any (len := List.length b.2.1) (fun i => (b, (i : Int), ())) (badSvc n b) (some (false, ()))
    (some (!(List.range (List.length b.2.2.2.1)).any (badBerth b) && !(List.range (List.length b.2.2.1)).any (badCopy b), ())) ?_ ?_ (by omega)).trans ?_
  · intro next i hi
    simp only [spec_StewValid.B4, lt_dec hi, in_dec hi, Bool.or_true, if_true, Int.toNat_natCast, (services_ok hn _ _).1, Option.bind_some, wrap_next hi hl1, badSvc, svcAt]
    by_cases h0 : 0 < i
    · have e : decide ((i : Int) > 0) = true := decide_eq_true (by omega)
      simp only [e, decide_eq_true h0, sPred_wrap h0 (by omega), sPred_in h0 hi, Int.toNat_natCast, Bool.or_true, if_true, Bool.true_and]
      try rfl
    · have e : decide ((i : Int) > 0) = false := decide_eq_false (by omega)
      simp only [e, decide_eq_false h0, Bool.and_false, Bool.not_false, Bool.true_or, if_true, Bool.false_and]
      try rfl
  · intro next
    simp only [spec_StewValid.B4, lt_dec', Bool.false_eq_true, if_false]
    refine (runL_any (len := List.length b.2.2.2.1) (fun i => (b, (i : Int), ())) (badBerth b) (some (false, ())) (some (!(List.range (List.length b.2.2.1)).any (badCopy b), ())) ?_ ?_ (by omega)).trans ?_
    · intro next i hi
      simp only [spec_StewValid.B9, lt_dec hi, in_dec hi, Bool.or_true, if_true, Int.toNat_natCast, specSName_ok hn, Option.bind_some, wrap_next hi hl3, badBerth, berthAt]
      by_cases h0 : 0 < i
      · have e : decide ((i : Int) > 0) = true := decide_eq_true (by omega)
        simp only [e, decide_eq_true h0, sPred_wrap h0 (by omega), sPred_in h0 hi, Int.toNat_natCast, Bool.or_true, if_true, Bool.true_and]
        try rfl
      · have e : decide ((i : Int) > 0) = false := decide_eq_false (by omega)
        simp only [e, decide_eq_false h0, Bool.and_false, Bool.not_false, Bool.true_or, if_true, Bool.false_and]
        try rfl
    · intro next
      simp only [spec_StewValid.B9, lt_dec', Bool.false_eq_true, if_false]
      refine (runL_any (len := List.length b.2.2.1) (fun i => (b, (i : Int), ())) (badCopy b) (some (false, ())) (some (true, ())) ?_ ?_ (by omega)).trans ?_
      · intro next i hi
        simp only [spec_StewValid.B14, lt_dec hi, in_dec hi, Bool.or_true, if_true, Int.toNat_natCast, specCopy_ok hn b _ hb, Option.bind_some, wrap_next hi hl2, badCopy, copyAt, spec_l12Ahead.f]
        rcases Bool.eq_false_or_eq_true (copyOkD b (List.getD b.2.2.1 i (Ty.zero tStewCopy))) with d1 | d1
        rotate_left
        · simp [d1, -List.getD_eq_getElem?_getD]
        by_cases h0 : 0 < i
        · have e : decide ((i : Int) > 0) = true := decide_eq_true (by omega)
          simp only [d1, e, decide_eq_true h0, sPred_wrap h0 (by omega), sPred_in h0 hi, Int.toNat_natCast, Bool.or_true, if_true, Bool.true_and, Bool.not_true, Bool.not_false, Bool.false_or, Option.bind_some]
          try rfl
        · have e : decide ((i : Int) > 0) = false := decide_eq_false (by omega)
          simp only [d1, e, decide_eq_false h0, Bool.and_false, Bool.not_false, Bool.not_true, Bool.true_or, if_true, Bool.false_and, Bool.false_or, Bool.false_eq_true, if_false, Option.bind_some]
          try rfl
      · intro next
        simp only [spec_StewValid.B14, lt_dec', Bool.false_eq_true, if_false]
      · cases (List.range (List.length b.2.2.1)).any (badCopy b) <;> simp
    · cases (List.range (List.length b.2.2.2.1)).any (badBerth b) <;> simp
  · cases (List.range (List.length b.2.1)).any (badSvc n b) <;> simp
end

section
variable {n : Nat} (hn : Big n)

include hn in
theorem implBook_ok (b : Ty.den tStewBook) (hb : small 1048576 tStewBook b) : impl_StewValid.f n (b, ()) = some (bookD n b, ()) := by
  have hn' : 18446744073709551616 ≤ n := hn
  have hl1 : List.length b.2.1 ≤ 1048576 := hb.2.1.1
  have hl2 : List.length b.2.2.1 ≤ 1048576 := hb.2.2.1.1
  have hl3 : List.length b.2.2.2.1 ≤ 1048576 := hb.2.2.2.1.1
  unfold impl_StewValid.f bookD
  simp only [implSIn_ok, Option.bind_some]
  rcases Bool.eq_false_or_eq_true (sIn b.1 0 1000000) with c1 | c1
  rotate_left
  · simp [c1]
  by_cases c2 : (List.length b.2.1 : Int) ≤ 8
  rotate_left
  · have e : decide ((List.length b.2.1 : Int) > 8) = true := decide_eq_true (by omega)
    simp [c1, e, decide_eq_false c2]
  have e2 : decide ((List.length b.2.1 : Int) > 8) = false := decide_eq_false (by omega)
  by_cases c3 : (List.length b.2.2.1 : Int) ≤ 200
  rotate_left
  · have e : decide ((List.length b.2.2.1 : Int) > 200) = true := decide_eq_true (by omega)
    simp [c1, e2, e, decide_eq_false c3]
  have e3 : decide ((List.length b.2.2.1 : Int) > 200) = false := decide_eq_false (by omega)
  by_cases c4 : (List.length b.2.2.2.1 : Int) ≤ 6
  rotate_left
  · have e : decide ((List.length b.2.2.2.1 : Int) > 6) = true := decide_eq_true (by omega)
    simp [c1, e2, e3, e, decide_eq_false c4]
  have e4 : decide ((List.length b.2.2.2.1 : Int) > 6) = false := decide_eq_false (by omega)
  simp only [c1, e2, e3, e4, decide_eq_true c2, decide_eq_true c3, decide_eq_true c4, Bool.not_true, Bool.or_false, Bool.false_eq_true, if_false, Bool.true_and]
  refine (runL_any (len := List.length b.2.1) (fun i => (b, b.2.1, (List.length b.2.1 : Int), (i : Int), ())) (badSvc n b) (some (false, ()))
    (some (!(List.range (List.length b.2.2.2.1)).any (badBerth b) && !(List.range (List.length b.2.2.1)).any (badCopy b), ())) ?_ ?_ (by omega)).trans ?_
  · intro next i hi
    simp only [impl_StewValid.B4, lt_dec hi, in_dec hi, Bool.or_true, if_true, Int.toNat_natCast, (services_ok hn _ _).2, Option.bind_some, wrap_next hi hl1, badSvc, svcAt, slt_total]
    by_cases h0 : 0 < i
    · have e : decide ((i : Int) > 0) = true := decide_eq_true (by omega)
      simp only [e, decide_eq_true h0, sPred_wrap h0 (by omega), sPred_in h0 hi, Int.toNat_natCast, Bool.or_true, if_true, Bool.true_and]
      try rfl
    · have e : decide ((i : Int) > 0) = false := decide_eq_false (by omega)
      simp only [e, decide_eq_false h0, Bool.and_false, Bool.not_false, Bool.true_or, if_true, Bool.false_and]
      try rfl
  · intro next
    simp only [impl_StewValid.B4, lt_dec', Bool.false_eq_true, if_false]
    refine (runL_any (len := List.length b.2.2.2.1) (fun i => (b, b.2.2.2.1, (List.length b.2.2.2.1 : Int), (i : Int), ())) (badBerth b) (some (false, ())) (some (!(List.range (List.length b.2.2.1)).any (badCopy b), ())) ?_ ?_ (by omega)).trans ?_
    · intro next i hi
      simp only [impl_StewValid.B10, lt_dec hi, in_dec hi, Bool.or_true, if_true, Int.toNat_natCast, implSName_ok hn, Option.bind_some, wrap_next hi hl3, badBerth, berthAt, slt_total]
      by_cases h0 : 0 < i
      · have e : decide ((i : Int) > 0) = true := decide_eq_true (by omega)
        simp only [e, decide_eq_true h0, sPred_wrap h0 (by omega), sPred_in h0 hi, Int.toNat_natCast, Bool.or_true, if_true, Bool.true_and]
        try rfl
      · have e : decide ((i : Int) > 0) = false := decide_eq_false (by omega)
        simp only [e, decide_eq_false h0, Bool.and_false, Bool.not_false, Bool.true_or, if_true, Bool.false_and]
        try rfl
    · intro next
      simp only [impl_StewValid.B10, lt_dec', Bool.false_eq_true, if_false]
      refine (runL_any (len := List.length b.2.2.1) (fun i => (b, b.2.2.1, (List.length b.2.2.1 : Int), (i : Int), ())) (badCopy b) (some (false, ())) (some (true, ())) ?_ ?_ (by omega)).trans ?_
      · intro next i hi
        simp only [impl_StewValid.B16, lt_dec hi, in_dec hi, if_true, Int.toNat_natCast, implSvc_ok hn b _ hl1, implBerth_ok hn b _ hl3, implSIn_ok, Option.bind_some, wrap_next hi hl2]
        simp only [show ∀ k, List.getD b.2.2.1 k (Ty.zero tStewCopy) = copyAt b k from fun _ => rfl]
        unfold badCopy copyOkD
        cases hs : svcIdx b (copyAt b i).1 with
        | none => rfl
        | some k =>
          simp only [Option.map_some, Option.isNone_some, Option.isSome_some, Option.getD_some, Bool.not_false, Bool.or_true, if_true, Bool.false_or, Option.bind_some]
          rcases Bool.eq_false_or_eq_true (sIn (copyAt b i).2.1 1 (IntKind.i64.wrap ((svcAt b k).2.2.2.2.2.2.2.1 - 1))) with c1 | c1
          rotate_left
          · simp [c1, tzero]
          rcases Bool.eq_false_or_eq_true (sIn (copyAt b i).2.2.1 1 b.1) with c2 | c2
          rotate_left
          · simp [c1, c2, tzero]
          rcases Bool.eq_false_or_eq_true (sIn (copyAt b i).2.2.2.1 1 1000000) with c3 | c3
          rotate_left
          · simp [c1, c2, c3, tzero]
          rcases Bool.eq_false_or_eq_true (sIn (copyAt b i).2.2.2.2.1 1 4) with c4 | c4
          rotate_left
          · simp [c1, c2, c3, c4, tzero]
          simp only [c1, c2, c3, c4, Bool.not_true, Bool.not_false, Bool.or_false, if_true, Option.bind_some, Bool.false_eq_true, if_false, Bool.true_and]
          have hlast : (if decide ((i : Int) > 0) = true then
              if decide (0 ≤ IntKind.i64.wrap ((i : Int) - 1) ∧ IntKind.i64.wrap ((i : Int) - 1) < (List.length b.2.2.1 : Int)) = true then
                if (slt (copyAt b i).1 (copyAt b (Int.toNat (IntKind.i64.wrap ((i : Int) - 1)))).1 || (seq (copyAt b i).1 (copyAt b (Int.toNat (IntKind.i64.wrap ((i : Int) - 1)))).1 && decide ((copyAt b i).2.1 ≤ (copyAt b (Int.toNat (IntKind.i64.wrap ((i : Int) - 1)))).2.1))) = true then some (false, ())
                else next (b, b.2.2.1, (List.length b.2.2.1 : Int), ((i + 1 : Nat) : Int), ())
              else none
            else next (b, b.2.2.1, (List.length b.2.2.1 : Int), ((i + 1 : Nat) : Int), ())) = if (decide (0 < i) && !aheadD (copyAt b (i - 1)) (copyAt b i)) = true then some (false, ()) else next (b, b.2.2.1, (List.length b.2.2.1 : Int), ((i + 1 : Nat) : Int), ()) := by
            by_cases h0 : 0 < i
            · have e : decide ((i : Int) > 0) = true := decide_eq_true (by omega)
              simp only [e, decide_eq_true h0, sPred_wrap h0 (by omega), sPred_in h0 hi, Int.toNat_natCast, if_true, Bool.true_and]
              have ha : (slt (copyAt b i).1 (copyAt b (i - 1)).1 || (seq (copyAt b i).1 (copyAt b (i - 1)).1 && decide ((copyAt b i).2.1 ≤ (copyAt b (i - 1)).2.1))) = !aheadD (copyAt b (i - 1)) (copyAt b i) := by
                unfold aheadD
                have ht := slt_total (copyAt b (i - 1)).1 (copyAt b i).1
                have hc := seq_comm (copyAt b (i - 1)).1 (copyAt b i).1
                rw [hc]
                by_cases hle : (copyAt b i).2.1 ≤ (copyAt b (i - 1)).2.1
                · have hlt : ¬ (copyAt b (i - 1)).2.1 < (copyAt b i).2.1 := Int.not_lt.2 hle
                  rw [decide_eq_true hle, decide_eq_false hlt]
                  simp only [Bool.and_true, Bool.and_false, Bool.or_false]
                  exact ht
                · have hlt : (copyAt b (i - 1)).2.1 < (copyAt b i).2.1 := Int.not_le.1 hle
                  rw [decide_eq_false hle, decide_eq_true hlt]
                  simp only [Bool.and_true, Bool.and_false, Bool.or_false]
                  rcases Bool.eq_false_or_eq_true (seq (copyAt b i).1 (copyAt b (i - 1)).1) with hq | hq
                  · have h1 : slt (copyAt b i).1 (copyAt b (i - 1)).1 = false := by
                      rw [seq_iff] at hq
                      rw [hq]
                      exact bytesLess_irrefl _
                    rw [hq, h1]; simp
                  · rw [hq, Bool.or_false] at ht
                    rw [hq, Bool.or_false]
                    exact ht
              rw [ha]
            · have e : decide ((i : Int) > 0) = false := decide_eq_false (by omega)
              simp only [e, decide_eq_false h0, Bool.false_and, Bool.false_eq_true, if_false]
          rcases Bool.eq_false_or_eq_true ((copyAt b i).2.2.2.2.1 == (1 : Int)) with c5 | c5
          · have c6 : ((copyAt b i).2.2.2.2.1 != (1 : Int)) = false := by unfold bne; rw [c5]; rfl
            simp only [c5, c6, Bool.true_and, Bool.and_false, Bool.false_eq_true, if_false, if_true, Option.bind_some, Bool.false_and, Bool.or_false]
            rcases Bool.eq_false_or_eq_true (seq (copyAt b i).2.2.2.2.2.2.1 ⟨#[]⟩) with c7 | c7
            · simp only [c7, Bool.not_true, Bool.false_eq_true, if_false, Bool.false_or]
              exact hlast
            · simp only [c7, Bool.not_false, if_true, Bool.true_or]
          · have c6 : ((copyAt b i).2.2.2.2.1 != (1 : Int)) = true := by unfold bne; rw [c5]; rfl
            simp only [c5, c6, Bool.false_and, Bool.not_false, Bool.and_true, Bool.true_and, Bool.false_eq_true, if_false, if_true, Option.bind_some, Bool.false_or]
            cases hb : berthIdx b (copyAt b i).2.2.2.2.2.2.1 with
            | none => rfl
            | some j =>
              simp only [Option.map_some, Option.isNone_some, Option.isSome_some, Bool.not_true, Bool.false_eq_true, if_false, Bool.false_or]
              exact hlast
      · intro next
        simp only [impl_StewValid.B16, lt_dec', Bool.false_eq_true, if_false]
      · cases (List.range (List.length b.2.2.1)).any (badCopy b) <;> simp
    · cases (List.range (List.length b.2.2.2.1)).any (badBerth b) <;> simp
  · cases (List.range (List.length b.2.1)).any (badSvc n b) <;> simp
end

/-! ### counts -/
section
variable {n : Nat} (hn : Big n)

def incIf (b : Bool) (a : Int) : Int := if b = true then IntKind.i64.wrap (a + 1) else a
def cntF (b : Ty.den tStewBook) (k : Nat) (nm : ByteArray) (i : Nat) (a : Ty.den tStewCount) : Ty.den tStewCount :=
  if (!seq (copyAt b i).1 nm) = true then a
  else if (copyAt b i).2.2.2.2.2.1 = true then (a.1, a.2.1, a.2.2.1, a.2.2.2.1, IntKind.i64.wrap (a.2.2.2.2.1 + 1), ())
  else (IntKind.i64.wrap (a.1 + 1), incIf ((copyAt b i).2.2.2.2.1 == (3 : Int)) a.2.1, incIf ((copyAt b i).2.2.2.1 != (svcAt b k).2.2.2.1) a.2.2.1, incIf ((copyAt b i).2.2.2.2.1 == (4 : Int)) a.2.2.2.1, a.2.2.2.2.1, ())
def zeroCount : Ty.den tStewCount := ((0 : Int), (0 : Int), (0 : Int), (0 : Int), (0 : Int), ())
def countD (b : Ty.den tStewBook) (nm : ByteArray) : Ty.den tStewCount :=
  match svcIdx b nm with
  | none => zeroCount
  | some k => (List.range (List.length b.2.2.1)).foldl (fun a i => cntF b k nm i a) zeroCount

include hn in
theorem specCount_ok (b : Ty.den tStewBook) (nm : ByteArray) (hb : small 1048576 tStewBook b) : spec_l13Count.f n (b, nm, ()) = some (countD b nm, ()) := by
  have hn' : 18446744073709551616 ≤ n := hn
  have hl1 : List.length b.2.1 ≤ 1048576 := hb.2.1.1
  have hl2 : List.length b.2.2.1 ≤ 1048576 := hb.2.2.1.1
  unfold spec_l13Count.f countD
  simp only [specSvc_ok hn b nm hl1, Option.bind_some]
  cases hs : svcIdx b nm with
  | none =>
    have hs' : List.findIdx? (fun t : Ty.den tStewService => seq t.1 nm) b.2.1 = none := hs
    rw [fidx_none hs', runL_pos _ _ (by omega)]
    simp only [spec_l13Count.B4, decide_eq_false (show ¬ (-1 : Int) ≥ 0 by omega), Bool.and_false, Bool.false_eq_true, if_false]
    rfl
  | some k =>
    have hk := svcIdx_lt hs
    have hs' : List.findIdx? (fun t : Ty.den tStewService => seq t.1 nm) b.2.1 = some k := hs
    rw [fidx_some hs']
    refine (runL_fold (len := List.length b.2.2.1) (fun i (a : Ty.den tStewCount) => (nm, b, ((0 : Int), (0 : Int), (0 : Int), (0 : Int), (0 : Int), ()), a, (k : Int), (i : Int), ())) (fun i a => True) (cntF b k nm) (fun a => some (a, ())) ?_ ?_ (by omega) trivial)
    · intro next i a hi _
      refine ⟨trivial, ?_⟩
      obtain ⟨a1, a2, a3, a4, a5, ⟨⟩⟩ := a
      simp only [spec_l13Count.B4, lt_dec hi, in_dec hi, in_dec hk, decide_eq_true (show (k : Int) ≥ 0 by omega), Bool.and_true, Bool.or_true, if_true, Int.toNat_natCast, wrap_next hi hl2]
      simp only [show ∀ k, List.getD b.2.2.1 k (Ty.zero tStewCopy) = copyAt b k from fun _ => rfl, show ∀ k, List.getD b.2.1 k (Ty.zero tStewService) = svcAt b k from fun _ => rfl, cntF, incIf]
      rcases Bool.eq_false_or_eq_true (seq (copyAt b i).1 nm) with h1 | h1
      rotate_left
      · simp only [h1, Bool.not_false, if_true]
      rcases Bool.eq_false_or_eq_true ((copyAt b i).2.2.2.2.2.1) with h2 | h2
      · simp only [h1, h2, Bool.not_true, Bool.false_eq_true, if_false, if_true]
      rcases Bool.eq_false_or_eq_true ((copyAt b i).2.2.2.2.1 == (3 : Int)) with h3 | h3 <;> rcases Bool.eq_false_or_eq_true ((copyAt b i).2.2.2.2.1 == (4 : Int)) with h4 | h4 <;> rcases Bool.eq_false_or_eq_true ((copyAt b i).2.2.2.1 != (svcAt b k).2.2.2.1) with h5 | h5 <;> simp only [h1, h2, h3, h4, h5, Bool.not_true, Bool.false_eq_true, if_false, if_true]
    · intro next a _
      obtain ⟨a1, a2, a3, a4, a5, ⟨⟩⟩ := a
      simp only [spec_l13Count.B4, lt_dec', Bool.false_and, Bool.false_eq_true, if_false]

theorem svcIdx_name {b : Ty.den tStewBook} {nm : ByteArray} {k : Nat} (h : svcIdx b nm = some k) : (svcAt b k).1 = nm := by
  have hk := svcIdx_lt h
  unfold svcIdx at h
  rw [List.findIdx?_eq_some_iff_getElem] at h
  obtain ⟨hlt, hp, _⟩ := h
  unfold svcAt
  rw [sGetD_lt _ _ _ hk]
  exact seq_iff.1 hp

include hn in
theorem implCount_ok (b : Ty.den tStewBook) (nm : ByteArray) (k : Nat) (hb : small 1048576 tStewBook b) (hs : svcIdx b nm = some k) : impl_StewBook_count.f n (some b, some (svcAt b k), ()) = some (countD b nm, ()) := by
  have hn' : 18446744073709551616 ≤ n := hn
  have hl2 : List.length b.2.2.1 ≤ 1048576 := hb.2.2.1.1
  have hnm := svcIdx_name hs
  unfold impl_StewBook_count.f countD
  simp only [Option.isSome_some, Option.getD_some, if_true, hs]
  refine (runL_fold (len := List.length b.2.2.1) (fun i (a : Ty.den tStewCount) => (some (svcAt b k), ((0 : Int), (0 : Int), (0 : Int), (0 : Int), (0 : Int), ()), a, b.2.2.1, (List.length b.2.2.1 : Int), (i : Int), ())) (fun i a => True) (cntF b k nm) (fun a => some (a, ())) ?_ ?_ (by omega) trivial)
  · intro next i a hi _
    refine ⟨trivial, ?_⟩
    obtain ⟨a1, a2, a3, a4, a5, ⟨⟩⟩ := a
    simp only [impl_StewBook_count.B3, lt_dec hi, in_dec hi, Option.isSome_some, Option.getD_some, Bool.or_true, if_true, Int.toNat_natCast, wrap_next hi hl2, hnm]
    simp only [show ∀ k, List.getD b.2.2.1 k (Ty.zero tStewCopy) = copyAt b k from fun _ => rfl, cntF, incIf]
    rcases Bool.eq_false_or_eq_true (seq (copyAt b i).1 nm) with h1 | h1
    rotate_left
    · simp only [h1, Bool.not_false, if_true]
    rcases Bool.eq_false_or_eq_true ((copyAt b i).2.2.2.2.2.1) with h2 | h2
    · simp only [h1, h2, Bool.not_true, Bool.false_eq_true, if_false, if_true]
    rcases Bool.eq_false_or_eq_true ((copyAt b i).2.2.2.2.1 == (3 : Int)) with h3 | h3 <;> rcases Bool.eq_false_or_eq_true ((copyAt b i).2.2.2.2.1 == (4 : Int)) with h4 | h4 <;> rcases Bool.eq_false_or_eq_true ((copyAt b i).2.2.2.1 != (svcAt b k).2.2.2.1) with h5 | h5 <;> simp only [h1, h2, h3, h4, h5, Bool.not_true, Bool.false_eq_true, if_false, if_true]
  · intro next a _
    obtain ⟨a1, a2, a3, a4, a5, ⟨⟩⟩ := a
    simp only [impl_StewBook_count.B3, lt_dec', Bool.false_eq_true, if_false]
end

/-! ### sums -/
section
def b2i (x : Bool) : Int := if x = true then 1 else 0
def sumN : Nat → (Nat → Int) → Int
  | 0, _ => 0
  | k + 1, f => sumN k f + f k
theorem b2i_range (x : Bool) : 0 ≤ b2i x ∧ b2i x ≤ 1 := by cases x <;> decide
theorem sumN_congr {f g : Nat → Int} : ∀ {k : Nat}, (∀ i, i < k → f i = g i) → sumN k f = sumN k g
  | 0, _ => rfl
  | k + 1, h => by simp only [sumN]; rw [sumN_congr (k := k) (fun i hi => h i (by omega)), h k (by omega)]
theorem sumN_add (f g : Nat → Int) : ∀ k, sumN k (fun i => f i + g i) = sumN k f + sumN k g
  | 0 => rfl
  | k + 1 => by simp only [sumN]; rw [sumN_add f g k]; omega
theorem sumN_zero : ∀ k, sumN k (fun _ => 0) = 0
  | 0 => rfl
  | k + 1 => by simp only [sumN]; rw [sumN_zero k]; rfl
theorem sumN_swap (f : Nat → Nat → Int) : ∀ p m, sumN p (fun k => sumN m (f k)) = sumN m (fun i => sumN p (fun k => f k i))
  | 0, m => by simp only [sumN]; rw [sumN_zero]
  | p + 1, m => by
    simp only [sumN]
    rw [sumN_swap f p m, ← sumN_add]
theorem sumN_single {p j : Nat} (hj : j < p) (f : Nat → Int) (h : ∀ k, k < p → k ≠ j → f k = 0) : sumN p f = f j := by
  induction p with
  | zero => omega
  | succ p ih =>
    simp only [sumN]
    by_cases e : j = p
    · subst e
      rw [sumN_congr (g := fun _ => 0) (fun i hi => h i (by omega) (by omega)), sumN_zero]
      omega
    · rw [ih (by omega) (fun k hk hne => h k (by omega) hne), h p (by omega) (fun h' => e h'.symm)]
      omega
theorem sumN_range {f : Nat → Int} {c : Int} (h : ∀ i, 0 ≤ f i ∧ f i ≤ c) : ∀ k : Nat, 0 ≤ sumN k f ∧ sumN k f ≤ k * c
  | 0 => by simp [sumN]
  | k + 1 => by
    have h1 := sumN_range h k
    have h2 := h k
    have e : ((k + 1 : Nat) : Int) * c = (k : Int) * c + c := by rw [Int.natCast_succ, Int.add_mul, Int.one_mul]
    simp only [sumN]
    rw [e]
    omega
theorem sumN_bool (q : Nat → Bool) (k : Nat) : 0 ≤ sumN k (fun i => b2i (q i)) ∧ sumN k (fun i => b2i (q i)) ≤ k := by
  have := sumN_range (f := fun i => b2i (q i)) (c := 1) (fun i => b2i_range _) k
  omega

theorem foldl_keep {A : Type} (g : Nat → A → A) (inv : Nat → A → Prop) {m : Nat} (h : ∀ i a, i < m → inv i a → inv (i + 1) (g i a)) : ∀ k, k ≤ m → ∀ a, inv 0 a → inv k ((List.range k).foldl (fun a i => g i a) a) := by
  intro k
  induction k with
  | zero => intro _ a ha; exact ha
  | succ k ih =>
    intro hk a ha
    rw [List.range_succ, List.foldl_append]
    exact h k _ (by omega) (ih (by omega) a ha)

theorem sorted_find {X : Type} (l : List X) (nm : X → ByteArray) (h : ∀ i (hi : i + 1 < l.length), slt (nm l[i]) (nm l[i + 1]) = true) {k : Nat} (hk : k < l.length) : l.findIdx? (fun t => seq (nm t) (nm l[k])) = some k := by
  have hall : ∀ (d j : Nat) (hj : j + d + 1 < l.length), slt (nm l[j]) (nm l[j + d + 1]) = true := by
    intro d
    induction d with
    | zero => intro j hj; exact h j hj
    | succ d ih => intro j hj; exact slt_trans (ih j (by omega)) (h (j + d + 1) hj)
  rw [List.findIdx?_eq_some_iff_getElem]
  refine ⟨hk, seq_refl _, fun j hj => ?_⟩
  obtain ⟨d, rfl⟩ : ∃ d, k = j + d + 1 := ⟨k - j - 1, by omega⟩
  have := slt_not_seq (hall d j hk)
  simp [this]
end
/-! ### what a valid book is -/
section
variable {n : Nat} (hn : Big n)

def wantN (b : Ty.den tStewBook) (k : Nat) : Int := (svcAt b k).2.2.2.2.1
structure Good (b : Ty.den tStewBook) : Prop where
  p : List.length b.2.1 ≤ 8
  m : List.length b.2.2.1 ≤ 200
  want : ∀ k, k < List.length b.2.1 → 0 ≤ wantN b k ∧ wantN b k ≤ 10
  self : ∀ k, k < List.length b.2.1 → svcIdx b (svcAt b k).1 = some k
  has : ∀ i, i < List.length b.2.2.1 → ∃ k, k < List.length b.2.1 ∧ svcIdx b (copyAt b i).1 = some k

include hn in
theorem service_want (s : Ty.den tStewService) (y : Int) (h : sService n s y = true) : 0 ≤ s.2.2.2.2.1 ∧ s.2.2.2.2.1 ≤ 10 := by
  rw [← sIn_iff]
  rcases Bool.eq_false_or_eq_true (sIn s.2.2.2.2.1 0 10) with c | c
  · exact c
  exfalso
  have h1 := (services_ok hn s y).1
  rw [h] at h1
  unfold spec_l12ServiceOk.f at h1
  simp only [specSName_ok hn, specSIn_ok, Option.bind_some, guarded, c] at h1
  revert h1
  generalize sName s.1 = a1
  generalize sIn s.2.1 1 y = a2
  generalize sIn s.2.2.2.1 1 1000000 = a3
  generalize sIn s.2.2.2.2.2.2.2.1 1 1000000 = a4
  cases a1 <;> cases a2 <;> cases a3 <;> cases a4 <;> simp [tzero]

include hn in
theorem good_of (b : Ty.den tStewBook) (h : bookD n b = true) : Good b := by
  unfold bookD at h
  simp only [Bool.and_eq_true, Bool.not_eq_true', decide_eq_true_eq] at h
  obtain ⟨⟨⟨⟨⟨⟨_, hp⟩, hm⟩, _⟩, hsv⟩, _⟩, hcp⟩ := h
  rw [List.any_eq_false] at hsv hcp
  have hsv' : ∀ k, k < List.length b.2.1 → badSvc n b k = false := fun k hk => by simpa using hsv k (List.mem_range.2 hk)
  have hcp' : ∀ k, k < List.length b.2.2.1 → badCopy b k = false := fun k hk => by simpa using hcp k (List.mem_range.2 hk)
  refine ⟨by omega, by omega, fun k hk => ?_, fun k hk => ?_, fun i hi => ?_⟩
  · have := hsv' k hk
    unfold badSvc at this
    rw [Bool.or_eq_false_iff, Bool.not_eq_false'] at this
    exact service_want hn _ _ this.1
  · unfold svcIdx svcAt
    rw [sGetD_lt _ _ _ hk]
    refine sorted_find (X := Ty.den tStewService) b.2.1 (fun t => t.1) (fun i hi => ?_) hk
    have := hsv' (i + 1) hi
    unfold badSvc svcAt at this
    rw [Bool.or_eq_false_iff] at this
    have h2 := this.2
    rw [decide_eq_true (show 0 < i + 1 by omega), Bool.true_and, Bool.not_eq_false', Nat.add_sub_cancel, sGetD_lt _ _ _ hi, sGetD_lt _ _ _ (show i < List.length b.2.1 by omega)] at h2
    exact h2
  · have := hcp' i hi
    unfold badCopy at this
    rw [Bool.or_eq_false_iff, Bool.not_eq_false'] at this
    have h1 := this.1
    unfold copyOkD at h1
    split at h1
    · cases h1
    · rename_i k hk
      exact ⟨k, svcIdx_lt hk, hk⟩
end

section
variable {n : Nat} (hn : Big n)

def isCopy (nm : ByteArray) (num : Int) (t : Ty.den tStewCopy) : Bool := seq t.1 nm && (t.2.1 == num)
def copyIdx (b : Ty.den tStewBook) (nm : ByteArray) (num : Int) : Option Nat := List.findIdx? (isCopy nm num) b.2.2.1

theorem copyIdx_lt {b : Ty.den tStewBook} {nm : ByteArray} {num : Int} {i : Nat} (h : copyIdx b nm num = some i) : i < List.length b.2.2.1 := findIdx?_lt h

theorem copyAt_lt {b : Ty.den tStewBook} {i : Nat} (hi : i < List.length b.2.2.1) : b.2.2.1[i] = copyAt b i := by
  unfold copyAt
  rw [List.getD_eq_getElem?_getD, List.getElem?_eq_getElem hi]
  rfl

theorem copyIdx_name {b : Ty.den tStewBook} {nm : ByteArray} {num : Int} {i : Nat} (h : copyIdx b nm num = some i) : (copyAt b i).1 = nm := by
  have hi := copyIdx_lt h
  unfold copyIdx at h
  rw [List.findIdx?_eq_some_iff_getElem] at h
  obtain ⟨hlt, hp, _⟩ := h
  rw [copyAt_lt hi] at hp
  unfold isCopy at hp
  rw [Bool.and_eq_true] at hp
  exact seq_iff.1 hp.1

include hn in
theorem specCopyIdx_ok (b : Ty.den tStewBook) (nm : ByteArray) (num : Int) (hl : List.length b.2.2.1 ≤ 1048576) : spec_l12Copy.f n (b, nm, num, ()) = some (fidx (isCopy nm num) b.2.2.1, ()) := by
  have hn' : 18446744073709551616 ≤ n := hn
  unfold spec_l12Copy.f
  refine (runL_find (l := b.2.2.1) (fun i => (nm, num, b, (i : Int), ())) (isCopy nm num) (fun i => some ((i : Int), ())) (some ((-1 : Int), ())) ?_ ?_ (by omega)).trans ?_
  · intro next i hi
    have e : ∀ k, List.getD b.2.2.1 k (Ty.zero tStewCopy) = copyAt b k := fun _ => rfl
    simp only [spec_l12Copy.B2, lt_dec hi, in_dec hi, Int.toNat_natCast, Bool.or_true, if_true, wrap_next hi hl, e, copyAt_lt hi, isCopy]
  · intro next
    simp only [spec_l12Copy.B2, lt_dec', Bool.false_eq_true, if_false]
  · unfold fidx
    cases List.findIdx? (isCopy nm num) b.2.2.1 <;> rfl

include hn in
theorem implCopyIdx_ok (b : Ty.den tStewBook) (nm : ByteArray) (num : Int) (hl : List.length b.2.2.1 ≤ 1048576) : impl_StewBook_copy.f n (some b, nm, num, ()) = some ((copyIdx b nm num).map (copyAt b), ()) := by
  have hn' : 18446744073709551616 ≤ n := hn
  unfold impl_StewBook_copy.f
  simp only [Option.isSome_some, if_true, Option.getD_some]
  refine (runL_find (l := b.2.2.1) (fun i => (some b, nm, num, (List.length b.2.2.1 : Int), (i : Int), ())) (isCopy nm num) (fun i => some (some (copyAt b i), ())) (some (none, ())) ?_ ?_ (by omega)).trans ?_
  · intro next i hi
    have e : ∀ k, List.getD b.2.2.1 k (Ty.zero tStewCopy) = copyAt b k := fun _ => rfl
    simp only [impl_StewBook_copy.B2, Option.isSome_some, Option.getD_some, lt_dec hi, in_dec hi, Int.toNat_natCast, Bool.or_true, if_true, wrap_next hi hl, e, copyAt_lt hi, isCopy]
  · intro next
    simp only [impl_StewBook_copy.B2, lt_dec', Bool.false_eq_true, if_false]
  · unfold copyIdx
    cases List.findIdx? (isCopy nm num) b.2.2.1 <;> rfl

/-- What may end: of a copy and its service. -/
def endD (b : Ty.den tStewBook) (nm : ByteArray) (i k : Nat) : Bool :=
  if (copyAt b i).2.2.2.2.2.1 = true then false
  else if (((copyAt b i).2.2.2.2.1 != (3 : Int)) || (svcAt b k).2.2.1) = true then true
  else decide ((IntKind.i64.wrap ((countD b nm).2.1 - (1 : Int))) ≥ (IntKind.i64.wrap ((svcAt b k).2.2.2.2.1 - (svcAt b k).2.2.2.2.2.1)))

def mayEndD (n : Nat) (b : Ty.den tStewBook) (nm : ByteArray) (num : Int) : Bool :=
  bookD n b && (match copyIdx b nm num with
    | none => false
    | some i => endD b nm i ((svcIdx b nm).getD 0))

theorem svc_of_copy {b : Ty.den tStewBook} (hg : Good b) {nm : ByteArray} {num : Int} {i : Nat} (h : copyIdx b nm num = some i) : ∃ k, svcIdx b nm = some k := by
  obtain ⟨k, _, hk⟩ := hg.has i (copyIdx_lt h)
  rw [copyIdx_name h] at hk
  exact ⟨k, hk⟩

include hn in
theorem specMayEnd_ok (b : Ty.den tStewBook) (nm : ByteArray) (num : Int) (hb : small 1048576 tStewBook b) : spec_StewMayEnd.f n (b, nm, num, ()) = some (mayEndD n b nm num, ()) := by
  have hl1 : List.length b.2.1 ≤ 1048576 := hb.2.1.1
  have hl2 : List.length b.2.2.1 ≤ 1048576 := hb.2.2.1.1
  unfold spec_StewMayEnd.f mayEndD
  simp only [specBook_ok hn b hb, Option.bind_some]
  rcases Bool.eq_false_or_eq_true (bookD n b) with c | c
  rotate_left
  · simp only [c, Bool.false_eq_true, if_false, Option.bind_some, Bool.false_and]
  have hg := good_of hn b c
  have key : spec_l14MayEnd.f n (b, nm, num, ()) = some ((match copyIdx b nm num with
    | none => false
    | some i => endD b nm i ((svcIdx b nm).getD 0)), ()) := by
    unfold spec_l14MayEnd.f
    rw [show spec_l12Copy.f n (b, nm, num, ()) = _ from specCopyIdx_ok hn b nm num hl2, Option.bind_some]
    cases hc : copyIdx b nm num with
    | none =>
      have hc' : List.findIdx? (isCopy nm num) b.2.2.1 = none := hc
      rw [fidx_none hc']
      rfl
    | some i =>
      have hi := copyIdx_lt hc
      have hc' : List.findIdx? (isCopy nm num) b.2.2.1 = some i := hc
      obtain ⟨k, hk⟩ := svc_of_copy hg hc
      have hk' : List.findIdx? (fun t : Ty.den tStewService => seq t.1 nm) b.2.1 = some k := hk
      have hkl := svcIdx_lt hk
      have e : ∀ k, List.getD b.2.2.1 k (Ty.zero tStewCopy) = copyAt b k := fun _ => rfl
      have e' : ∀ k, List.getD b.2.1 k (Ty.zero tStewService) = svcAt b k := fun _ => rfl
      have hneg : decide ((i : Int) < (0 : Int)) = false := decide_eq_false (by omega)
      rw [fidx_some hc']
      simp only [in_dec hi, hneg, Bool.or_true, if_true, Bool.false_or, Int.toNat_natCast, e, hk, Option.getD_some, endD]
      rcases Bool.eq_false_or_eq_true ((copyAt b i).2.2.2.2.2.1) with h1 | h1
      · simp only [h1, if_true]
      · simp only [h1, Bool.false_eq_true, if_false]
        rw [show spec_l12Service.f n (b, nm, ()) = _ from specSvc_ok hn b nm hl1, Option.bind_some, fidx_some hk']
        simp only [in_dec hkl, Bool.or_true, if_true, Int.toNat_natCast, e']
        rcases Bool.eq_false_or_eq_true (((copyAt b i).2.2.2.2.1 != (3 : Int)) || (svcAt b k).2.2.1) with h2 | h2
        · simp only [h2, if_true]
        · simp only [h2, Bool.false_eq_true, if_false]
          rw [show spec_l13Count.f n (b, nm, ()) = _ from specCount_ok hn b nm hb, Option.bind_some]
  simp only [c, if_true, key, Option.bind_some, Bool.true_and]

include hn in
theorem implMayEnd_ok (b : Ty.den tStewBook) (nm : ByteArray) (num : Int) (hb : small 1048576 tStewBook b) : impl_StewMayEnd.f n (b, nm, num, ()) = some (mayEndD n b nm num, ()) := by
  have hl1 : List.length b.2.1 ≤ 1048576 := hb.2.1.1
  have hl2 : List.length b.2.2.1 ≤ 1048576 := hb.2.2.1.1
  unfold impl_StewMayEnd.f mayEndD
  simp only [implBook_ok hn b hb, Option.bind_some]
  rcases Bool.eq_false_or_eq_true (bookD n b) with c | c
  rotate_left
  · simp only [c, Bool.false_eq_true, if_false, Option.bind_some, Bool.false_and, tzero, Ty.zero]
  have hg := good_of hn b c
  rw [show impl_StewBook_copy.f n (some b, nm, num, ()) = _ from implCopyIdx_ok hn b nm num hl2, show impl_StewBook_service.f n (some b, nm, ()) = _ from implSvc_ok hn b nm hl1]
  cases hc : copyIdx b nm num with
  | none => simp only [c, if_true, Option.bind_some, Option.map_none, Option.isSome_none, Bool.and_false, Bool.false_eq_true, if_false, Bool.false_and]
  | some i =>
    have hi := copyIdx_lt hc
    obtain ⟨k, hk⟩ := svc_of_copy hg hc
    have hcount : impl_StewBook_count.f n (some b, some (svcAt b k), ()) = some (countD b nm, ()) := implCount_ok hn b nm k hb hk
    simp only [c, hk, if_true, Option.bind_some, Option.map_some, Option.isSome_some, Bool.and_true, Bool.true_and, Option.getD_some]
    have key : impl_StewBook_mayEnd.f n (some b, some (svcAt b k), some (copyAt b i), ()) = some (endD b nm i k, ()) := by
      unfold impl_StewBook_mayEnd.f endD
      simp only [Option.isSome_some, Option.isNone_some, Bool.or_true, if_true, Bool.false_or, Option.getD_some]
      rcases Bool.eq_false_or_eq_true ((copyAt b i).2.2.2.2.2.1) with h1 | h1
      · simp only [h1, if_true]
      · simp only [h1, Bool.false_eq_true, if_false]
        rcases Bool.eq_false_or_eq_true (((copyAt b i).2.2.2.2.1 != (3 : Int)) || (svcAt b k).2.2.1) with h2 | h2
        · simp only [h2, Bool.not_true, Bool.false_eq_true, if_false, Option.bind_some, if_true, Bool.true_or]
        · simp only [h2, Bool.not_false, if_true, hcount, Option.bind_some, Bool.false_or, Bool.false_eq_true, if_false]
    rw [key]
    rfl
end

theorem pure_law (n : Nat) (hn : Big n) (x : Tup [tStewBook, .str, .int .i64]) (hw : wfT [tStewBook, .str, .int .i64] x) : laws_FnExactStewMayEnd.f n x = some (true, ()) := by
  obtain ⟨d, nm, num, ⟨⟩⟩ := x
  obtain ⟨hw1, hw2, _⟩ := hw
  unfold laws_FnExactStewMayEnd.f
  by_cases hsz : (ByteArray.size nm : Int) > 1048576
  · rw [if_pos (decide_eq_true hsz)]
  rw [if_neg (by rw [decide_eq_true_eq]; exact hsz)]
  have h : laws_szStewBook.f n (d, 1048576, ()) = _ := laws_szStewBook_ok n hn d hw1 1048576 (by omega) (by omega)
  simp only [h, Option.bind_some]
  by_cases hb : (bulk tStewBook d : Int) ≤ 1048576
  · have hs : small 1048576 tStewBook d := small_of_bulk (by omega)
    have e1 : spec_StewMayEnd.f n (d, nm, num, ()) = _ := specMayEnd_ok hn d nm num hs
    have e2 : impl_StewMayEnd.f n (d, nm, num, ()) = _ := implMayEnd_ok hn d nm num hs
    rw [subL_pos hb, if_neg (by simp; omega)]
    simp only [laws_toStewBook_ok n hn d hs, Option.bind_some, e1, e2, laws_eqStewBook_ok n hn (d, d, ()) hs, eqD_refl, beq_self_eq_true, Bool.not_true, Bool.false_eq_true, if_false]
  · rw [subL_neg hb, if_pos (by decide)]

end Go.Proofs.Ytakbelofppdkhab
