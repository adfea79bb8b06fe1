/- The law FnExactRecNewWorld: what the program tells and what the reference tells are one, for all arguments (the plain law, over printed pure functions). No conditions. -/
import Derived.Test.YtjbpccinpcpdkacP
set_option linter.unusedVariables false
set_option linter.unusedSimpArgs false
namespace Go.Proofs.Ytjbpccinpcpdkac
open Go Go.Vm
def newD (ok : Bool) (a b : Int) : Ty.den tRecorder :=
  if ok = true then (a, b, true, ((0 : Int), (0 : Int), [], ()), ((0 : Int), (0 : Int), [], ()), [], [], false, false, (0 : Int), [], [], [], (0 : Int), ())
  else ((0 : Int), (0 : Int), false, ((0 : Int), (0 : Int), [], ()), ((0 : Int), (0 : Int), [], ()), [], [], false, false, (0 : Int), [], [], [], (0 : Int), ())

def newOk (a b : Int) : Bool := (decide (b ≥ 1) && decide (b ≤ 5)) && (decide (a ≥ 1) && decide (a ≤ b))

theorem specNew_ok (n : Nat) (a b : Int) : spec_RecNew.f n (a, b, ()) = some (newD (newOk a b) a b, ()) := by
  unfold spec_RecNew.f newD newOk
  simp only [spec_l21In.f, Option.bind_some]
  rcases Bool.eq_false_or_eq_true (decide (b ≥ 1) && decide (b ≤ 5)) with h | h <;> rcases Bool.eq_false_or_eq_true (decide (a ≥ 1) && decide (a ≤ b)) with h' | h' <;> simp only [h, h', Bool.not_true, Bool.not_false, if_true, Bool.false_eq_true, if_false, Option.bind_some, Bool.or_false, Bool.or_true, Bool.true_and, Bool.false_and, tzero, Ty.zero]

theorem implNew_ok (n : Nat) (a b : Int) : impl_RecNew.f n (a, b, ()) = some (newD (newOk a b) a b, ()) := by
  unfold impl_RecNew.f newD newOk
  simp only [impl_within_rec.f, Option.bind_some]
  rcases Bool.eq_false_or_eq_true (decide (b ≥ 1) && decide (b ≤ 5)) with h | h <;> rcases Bool.eq_false_or_eq_true (decide (a ≥ 1) && decide (a ≤ b)) with h' | h' <;> simp only [h, h', Bool.not_true, Bool.not_false, if_true, Bool.false_eq_true, if_false, Option.bind_some, Bool.or_false, Bool.or_true, Bool.true_and, Bool.false_and, tzero, Ty.zero]

theorem newD_small (ok : Bool) (a b : Int) : small 1048576 tRecorder (newD ok a b) ∧ (wt tRecorder (newD ok a b) : Int) ≤ 100 := by
  cases ok
  · have h0 : bulk tRecorder (newD false a b) = 0 := by kernel_rfl
    have h1 : wt tRecorder (newD false a b) = 11 := by kernel_rfl
    exact ⟨small_of_bulk (by omega), by omega⟩
  · have h0 : bulk tRecorder (newD true a b) = 0 := by kernel_rfl
    have h1 : wt tRecorder (newD true a b) = 11 := by kernel_rfl
    exact ⟨small_of_bulk (by omega), by omega⟩


section
variable {n : Nat} (hn : Big n)

def oneD (k i : Nat) : Ty.den tRecorder := newD (newOk ((i + 1 : Nat) : Int) (k : Int)) ((i + 1 : Nat) : Int) (k : Int)
def worldL (k : Nat) : List (Ty.den tRecorder) := (List.range k).map (oneD k)
def worldD (k : Nat) : Ty.den tRecWorld := (worldL k, [], [], ())

theorem fold_app' {α : Type} (f : Nat → α) : ∀ (k : Nat) (a : List α), (List.range k).foldl (fun a i => a ++ [f i]) a = a ++ (List.range k).map f
  | 0, a => by simp
  | k + 1, a => by
    rw [List.range_succ, List.foldl_append, fold_app' f k a]
    simp

theorem app248 {α : Type} {m : Nat} {x : α} (h : m ≤ 10) : appBound m (List.length [x]) 248 = true := by
  unfold appBound
  rw [Nat.ble_eq]
  simp only [List.length_cons, List.length_nil]
  omega

theorem wrap_next' {i k : Nat} (hi : i < k) (hk : k ≤ 5) : IntKind.i64.wrap (((i + 1 : Nat) : Int) + 1) = ((i + 1 + 1 : Nat) : Int) := by
  rw [wrap_eq (by omega) (by omega)]
  omega

include hn in
theorem specWorld_run (k : Nat) (hk : k ≤ 5) : runL (spec_RecNewWorld.B5 n) ((fun z3 => some ((z3.2.1.1, z3.2.1.2.1, z3.2.1.2.2.1, ()), ())), ()) n ((k : Int), ([], [], [], ()), ([], [], [], ()), (1 : Int), ()) = some (worldD k, ()) := by
  have hn' : 18446744073709551616 ≤ n := hn
  refine (runL_fold (len := k) (fun i (o : List (Ty.den tRecorder)) => ((k : Int), ([], [], [], ()), (o, [], [], ()), ((i + 1 : Nat) : Int), ())) (fun i o => o.length = i) (fun i o => o ++ [oneD k i]) (fun o => some ((o, [], [], ()), ())) ?_ ?_ (by omega) rfl).trans ?_
  · intro next i o hi ho
    refine ⟨by simp [ho], ?_⟩
    have e : spec_RecNew.f n (((i + 1 : Nat) : Int), (k : Int), ()) = _ := specNew_ok n _ _
    simp only [spec_RecNewWorld.B5]
    rw [if_pos (decide_eq_true (show ((i + 1 : Nat) : Int) ≤ (k : Int) by omega)), e, Option.bind_some, if_pos (app248 (by omega)), wrap_next' hi hk]
    rfl
  · intro next o _
    simp only [spec_RecNewWorld.B5]
    rw [if_neg (by rw [decide_eq_true_eq]; show ¬ (((k + 1 : Nat) : Int) ≤ (k : Int)); omega)]
  · rw [fold_app']
    rfl

include hn in
theorem implWorld_run (k : Nat) (hk : k ≤ 5) : runL (impl_RecNewWorld.B4 n) ((fun z3 => some ((z3.2.1.1, z3.2.1.2.1, z3.2.1.2.2.1, ()), ())), ()) n ((k : Int), ([], [], [], ()), ([], [], [], ()), (1 : Int), ()) = some (worldD k, ()) := by
  have hn' : 18446744073709551616 ≤ n := hn
  refine (runL_fold (len := k) (fun i (o : List (Ty.den tRecorder)) => ((k : Int), ([], [], [], ()), (o, [], [], ()), ((i + 1 : Nat) : Int), ())) (fun i o => o.length = i) (fun i o => o ++ [oneD k i]) (fun o => some ((o, [], [], ()), ())) ?_ ?_ (by omega) rfl).trans ?_
  · intro next i o hi ho
    refine ⟨by simp [ho], ?_⟩
    have e : impl_RecNew.f n (((i + 1 : Nat) : Int), (k : Int), ()) = _ := implNew_ok n _ _
    simp only [impl_RecNewWorld.B4]
    rw [if_pos (decide_eq_true (show ((i + 1 : Nat) : Int) ≤ (k : Int) by omega)), e, Option.bind_some, if_pos (app248 (by omega)), wrap_next' hi hk]
    rfl
  · intro next o _
    simp only [impl_RecNewWorld.B4]
    rw [if_neg (by rw [decide_eq_true_eq]; show ¬ (((k + 1 : Nat) : Int) ≤ (k : Int)); omega)]
  · rw [fold_app']
    rfl

def newWorldD (a : Int) : Ty.den tRecWorld := if ((decide (a ≥ 1)) && (decide (a ≤ 5))) = true then worldD a.toNat else ([], [], [], ())

include hn in
theorem specNewWorld_ok (a : Int) : spec_RecNewWorld.f n (a, ()) = some (newWorldD a, ()) := by
  unfold spec_RecNewWorld.f newWorldD
  simp only [spec_l21In.f, Option.bind_some]
  rcases Bool.eq_false_or_eq_true (decide (a ≥ 1) && decide (a ≤ 5)) with h | h
  · have h' := h
    rw [Bool.and_eq_true, decide_eq_true_eq, decide_eq_true_eq] at h'
    obtain ⟨k, rfl⟩ : ∃ k : Nat, a = (k : Int) := ⟨a.toNat, by omega⟩
    simp only [h, Bool.not_true, Bool.false_eq_true, if_false, if_true]
    exact specWorld_run hn k (by omega)
  · simp only [h, Bool.not_false, Bool.false_eq_true, if_false, if_true]

include hn in
theorem implNewWorld_ok (a : Int) : impl_RecNewWorld.f n (a, ()) = some (newWorldD a, ()) := by
  unfold impl_RecNewWorld.f newWorldD
  simp only [impl_within_rec.f, Option.bind_some]
  rcases Bool.eq_false_or_eq_true (decide (a ≥ 1) && decide (a ≤ 5)) with h | h
  · have h' := h
    rw [Bool.and_eq_true, decide_eq_true_eq, decide_eq_true_eq] at h'
    obtain ⟨k, rfl⟩ : ∃ k : Nat, a = (k : Int) := ⟨a.toNat, by omega⟩
    simp only [h, if_true]
    exact implWorld_run hn k (by omega)
  · simp only [h, Bool.false_eq_true, if_false]

theorem sum_le {α : Type} (f : α → Nat) (c : Nat) : ∀ (l : List α), (∀ x ∈ l, f x ≤ c) → (l.map f).sum ≤ c * l.length
  | [], _ => by simp
  | x :: l, h => by
    have h1 := h x (by simp)
    have h2 := sum_le f c l (fun y hy => h y (by simp [hy]))
    simp only [List.map_cons, List.sum_cons, List.length_cons]
    rw [Nat.mul_succ]
    omega

theorem worldL_mem {k : Nat} {x : Ty.den tRecorder} (h : x ∈ worldL k) : small 1048576 tRecorder x ∧ wt tRecorder x ≤ 100 := by
  simp only [worldL, List.mem_map] at h
  obtain ⟨i, _, rfl⟩ := h
  obtain ⟨h1, h2⟩ := newD_small (newOk ((i + 1 : Nat) : Int) (k : Int)) ((i + 1 : Nat) : Int) (k : Int)
  exact ⟨h1, by unfold oneD; omega⟩

theorem newWorld_small (a : Int) : small 1048576 tRecWorld (newWorldD a) ∧ (wt tRecWorld (newWorldD a) : Int) ≤ 1000 := by
  have key : ∀ l : List (Ty.den tRecorder), l.length ≤ 5 → (∀ x ∈ l, small 1048576 tRecorder x ∧ wt tRecorder x ≤ 100) → small 1048576 tRecWorld (l, [], [], ()) ∧ (wt tRecWorld (l, [], [], ()) : Int) ≤ 1000 := by
    intro l hl hx
    refine ⟨⟨⟨show l.length ≤ 1048576 by omega, fun x h => (hx x h).1⟩, ⟨by simp, fun x h => by cases h⟩, ⟨by simp, fun x h => by cases h⟩, trivial⟩, ?_⟩
    have h1 := sum_le (wt tRecorder) 100 l (fun x h => (hx x h).2)
    have e : wt tRecWorld (l, [], [], ()) = l.length + (l.map (wt tRecorder)).sum := by
      rw [wt_pair, wt_slice, wt_pair, wt_slice, wt_pair, wt_slice, wt_unit]
      simp
    omega
  unfold newWorldD
  rcases Bool.eq_false_or_eq_true (decide (a ≥ 1) && decide (a ≤ 5)) with h | h
  · rw [if_pos h]
    rw [Bool.and_eq_true, decide_eq_true_eq, decide_eq_true_eq] at h
    exact key _ (by simp only [worldL, List.length_map, List.length_range]; omega) (fun x hx => worldL_mem hx)
  · rw [if_neg (by rw [h]; decide)]
    exact key [] (by simp) (fun x h => by cases h)
end

theorem pure_law (n : Nat) (hn : Big n) (x : Tup [.int .i64]) (hw : wfT [.int .i64] x) : laws_FnExactRecNewWorld.f n x = some (true, ()) := by
  obtain ⟨a, ⟨⟩⟩ := x
  have hs := (newWorld_small a).1
  have hwt := (newWorld_small a).2
  have e1 : spec_RecNewWorld.f n (a, ()) = _ := specNewWorld_ok hn a
  have e2 : impl_RecNewWorld.f n (a, ()) = _ := implNewWorld_ok hn a
  obtain ⟨s1, s2, s3, k, p, q, m, h⟩ := laws_markRecWorld_ok n hn (newWorldD a) 1 (by omega) (by omega)
  have d : decide (k < 0) = false := decide_eq_false (by omega)
  unfold laws_FnExactRecNewWorld.f
  simp only [e1, e2, Option.bind_some, laws_eqRecWorld_ok n hn (newWorldD a, newWorldD a, ()) hs, eqD_refl, Bool.not_true, Bool.false_eq_true, if_false, m, h, d, bne_self_eq_false]

end Go.Proofs.Ytjbpccinpcpdkac
