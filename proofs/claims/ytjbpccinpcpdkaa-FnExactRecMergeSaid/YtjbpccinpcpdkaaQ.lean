/- The law FnExactRecMerge: what the program tells and what the reference tells are one, for all arguments (the plain law, over printed pure functions). No conditions. -/
import Derived.Test.YtjbpccinpcpdkaaP
set_option linter.unusedVariables false
set_option linter.unusedSimpArgs false
namespace Go.Proofs.Ytjbpccinpcpdkaa
open Go Go.Vm
/-! ### merging -/
section
variable {n : Nat} (hn : Big n)

def mergeF (b : List (Ty.den tRecSlot)) (i : Nat) (o : List (Ty.den tRecSlot)) : List (Ty.den tRecSlot) :=
  if o.length ≤ i then o ++ [b.getD i (Ty.zero tRecSlot)] else if decide ((b.getD i (Ty.zero tRecSlot)).1 > (o.getD i (Ty.zero tRecSlot)).1) = true then o.set i (b.getD i (Ty.zero tRecSlot)) else o

def mergeD (a b : List (Ty.den tRecSlot)) : List (Ty.den tRecSlot) := (List.range b.length).foldl (fun o i => mergeF b i o) a

def mInv (a b : List (Ty.den tRecSlot)) (i : Nat) (o : List (Ty.den tRecSlot)) : Prop := i ≤ o.length ∧ o.length ≤ max a.length i ∧ (∀ x ∈ o, x ∈ a ∨ x ∈ b) ∧ i ≤ b.length

theorem getD_mem' {α : Type} (l : List α) (i : Nat) (z : α) (h : i < l.length) : l.getD i z ∈ l := by
  rw [List.getD_eq_getElem?_getD, List.getElem?_eq_getElem h]
  exact List.getElem_mem h

theorem mergeF_inv {a b : List (Ty.den tRecSlot)} {i : Nat} {o : List (Ty.den tRecSlot)} (hi : i < b.length) (h : mInv a b i o) : mInv a b (i + 1) (mergeF b i o) := by
  obtain ⟨h1, h2, h3, h4⟩ := h
  have hb := getD_mem' b i (Ty.zero tRecSlot) hi
  unfold mergeF
  split
  · refine ⟨by simp; omega, by simp; omega, fun x hx => ?_, by omega⟩
    rcases List.mem_append.1 hx with hx | hx
    · exact h3 x hx
    · rw [List.mem_singleton] at hx
      rw [hx]
      exact .inr hb
  · split
    · refine ⟨by simp; omega, by simp; omega, fun x hx => ?_, by omega⟩
      rcases List.mem_or_eq_of_mem_set hx with hx | hx
      · exact h3 x hx
      · rw [hx]
        exact .inr hb
    · exact ⟨by omega, by omega, h3, by omega⟩

theorem app_ok {m k : Nat} (h : m ≤ 2097152) (hk : k ≤ 2097152) : appBound m k 24 = true := by
  unfold appBound
  rw [Nat.ble_eq]
  omega

include hn in
theorem specMerge_ok (a b : List (Ty.den tRecSlot)) (ha : a.length ≤ 1048576) (hb : b.length ≤ 1048576) : spec_RecMerge.f n (a, b, ()) = some (mergeD a b, ()) := by
  have hn : 18446744073709551616 ≤ n := hn
  unfold spec_RecMerge.f spec_l21Slots.f
  rw [if_pos (app_ok (by simp) (by simpa using (by omega : a.length ≤ 2097152)))]
  simp only [Option.bind_some, List.nil_append]
  refine runL_fold (len := b.length) (fun i (o : List (Ty.den tRecSlot)) => (b, o, (i : Int), ())) (mInv a b) (mergeF b) (fun o => some (o, ())) ?_ ?_ (by omega) ⟨Nat.zero_le _, Nat.le_max_left _ _, fun x hx => .inl hx, Nat.zero_le _⟩
  · intro next i o hi hv
    refine ⟨mergeF_inv hi hv, ?_⟩
    obtain ⟨h1, h2, _, _⟩ := hv
    simp only [spec_RecMerge.B3, lt_dec hi, in_dec hi, Int.toNat_natCast, wrap_next hi hb, Bool.or_true, if_true, mergeF]
    by_cases hl : o.length ≤ i
    · have he : i = o.length := by omega
      rw [if_pos (show ((i : Int) == (List.length o : Int)) = true by rw [he]; simp), if_pos (app_ok (by omega) (by simp)), if_pos hl]
    · rw [if_neg (show ¬ ((i : Int) == (List.length o : Int)) = true by simp; omega), if_neg hl]
      simp only [in_dec (show i < o.length by omega), Bool.or_true, if_true]
      split <;> rfl
  · intro next o _
    simp only [spec_RecMerge.B3, lt_dec', Bool.false_eq_true, if_false]

include hn in
theorem implMerge_ok (a b : List (Ty.den tRecSlot)) (ha : a.length ≤ 1048576) (hb : b.length ≤ 1048576) : impl_RecMerge.f n (a, b, ()) = some (mergeD a b, ()) := by
  have hn : 18446744073709551616 ≤ n := hn
  unfold impl_RecMerge.f
  rw [if_pos (app_ok (by simp) (by simpa using (by omega : a.length ≤ 2097152)))]
  refine runL_fold (len := b.length) (fun i (o : List (Ty.den tRecSlot)) => (o, b, (b.length : Int), (i : Int), ())) (mInv a b) (mergeF b) (fun o => some (o, ())) ?_ ?_ (by omega) ⟨Nat.zero_le _, Nat.le_max_left _ _, fun x hx => .inl hx, Nat.zero_le _⟩
  · intro next i o hi hv
    refine ⟨mergeF_inv hi hv, ?_⟩
    obtain ⟨h1, h2, _, _⟩ := hv
    simp only [impl_RecMerge.B3, lt_dec hi, in_dec hi, Int.toNat_natCast, wrap_next hi hb, Bool.or_true, if_true, mergeF]
    by_cases hl : o.length ≤ i
    · rw [if_pos (show decide ((i : Int) ≥ (List.length o : Int)) = true from decide_eq_true (by omega)), if_pos (app_ok (by omega) (by simp)), if_pos hl]
    · rw [if_neg (show ¬ decide ((i : Int) ≥ (List.length o : Int)) = true from by rw [decide_eq_true_eq]; omega), if_neg hl]
      simp only [in_dec (show i < o.length by omega), Bool.or_true, if_true]
      split <;> rfl
  · intro next o _
    simp only [impl_RecMerge.B3, lt_dec', Bool.false_eq_true, if_false]

theorem mergeD_inv (a b : List (Ty.den tRecSlot)) : (mergeD a b).length ≤ max a.length b.length ∧ ∀ x ∈ mergeD a b, x ∈ a ∨ x ∈ b := by
  have key : ∀ k, k ≤ b.length → mInv a b k ((List.range k).foldl (fun o i => mergeF b i o) a) := by
    intro k
    induction k with
    | zero => intro _; exact ⟨Nat.zero_le _, Nat.le_max_left _ _, fun x hx => .inl hx, Nat.zero_le _⟩
    | succ k ih =>
      intro hk
      rw [List.range_succ, List.foldl_append]
      exact mergeF_inv (by omega) (ih (by omega))
  have h := key b.length (Nat.le_refl _)
  exact ⟨h.2.1, h.2.2.1⟩

theorem wt_slots (l : List (Ty.den tRecSlot)) : wt (.slice tRecSlot) l = 3 * l.length := by
  rw [wt_slice]
  have : (l.map (wt tRecSlot)).sum = 2 * l.length := by
    induction l with
    | nil => rfl
    | cons x l ih =>
      simp only [List.map_cons, List.sum_cons, List.length_cons, ih, wt_pair, wt_int, wt_str, wt_unit]
      omega
  omega
end

theorem pure_law (n : Nat) (hn : Big n) (x : Tup [.slice tRecSlot, .slice tRecSlot]) (hw : wfT [.slice tRecSlot, .slice tRecSlot] x) : laws_FnExactRecMerge.f n x = some (true, ()) := by
  obtain ⟨a, b, ⟨⟩⟩ := x
  obtain ⟨hw1, hw2, _⟩ := hw
  unfold laws_FnExactRecMerge.f
  have h : laws_szRecSlotS.f n (a, 1048576, ()) = _ := laws_szRecSlotS_ok n hn a hw1 1048576 (by omega) (by omega)
  simp only [h, Option.bind_some]
  by_cases hb : (bulk (.slice tRecSlot) a : Int) ≤ 1048576
  · have hs : small 1048576 (.slice tRecSlot) a := small_of_bulk (by omega)
    rw [subL_pos hb, if_neg (by simp; omega)]
    have h2 : laws_szRecSlotS.f n (b, 1048576 - (bulk (.slice tRecSlot) a : Int), ()) = _ := laws_szRecSlotS_ok n hn b hw2 _ (by omega) (by omega)
    simp only [h2, Option.bind_some]
    by_cases hb2 : (bulk (.slice tRecSlot) b : Int) ≤ 1048576 - (bulk (.slice tRecSlot) a : Int)
    · have hs2 : small 1048576 (.slice tRecSlot) b := small_of_bulk (by omega)
      rw [subL_pos hb2, if_neg (by simp; omega)]
      obtain ⟨il, im⟩ := mergeD_inv a b
      have ha1 : a.length ≤ 1048576 := hs.1
      have hb1 : b.length ≤ 1048576 := hs2.1
      have hg : small 1048576 (.slice tRecSlot) (mergeD a b) := ⟨by omega, fun x hx => (im x hx).elim (hs.2 x) (hs2.2 x)⟩
      simp only [laws_toRecSlotS_ok n hn a hs, laws_toRecSlotS_ok n hn b hs2, Option.bind_some, specMerge_ok hn a b ha1 hb1, implMerge_ok hn a b ha1 hb1, laws_eqRecSlotS_ok n hn (a, a, ()) hs, laws_eqRecSlotS_ok n hn (b, b, ()) hs2, laws_eqRecSlotS_ok n hn (mergeD a b, mergeD a b, ()) hg, eqD_refl, Bool.not_true, Bool.false_eq_true, if_false]
      have wa := wt_slots a
      have wb := wt_slots b
      have wg := wt_slots (mergeD a b)
      obtain ⟨s1, k1, p1, q1, m1, _⟩ := laws_markRecSlotS_ok n hn a 1 (by omega) (by omega)
      obtain ⟨s2, k2, p2, q2, m2, _⟩ := laws_markRecSlotS_ok n hn b k1 (by omega) (by omega)
      obtain ⟨s3, k3, p3, q3, m3, h3⟩ := laws_markRecSlotS_ok n hn (mergeD a b) 1 (by omega) (by omega)
      have d2 : decide (k2 < 0) = false := decide_eq_false (by omega)
      have d3 : decide (k3 < 0) = false := decide_eq_false (by omega)
      simp only [m1, m2, m3, h3, d2, d3, Option.bind_some, Bool.not_false, if_true, Bool.false_or, Bool.not_true, Bool.false_eq_true, if_false, bne_self_eq_false]
    · rw [subL_neg hb2, if_pos (by decide)]
  · rw [subL_neg hb, if_pos (by decide)]

end Go.Proofs.Ytjbpccinpcpdkaa
