/- A verified symbolic evaluator of loaded Go code: what it tells of a function is the function's contract (part 4). No conditions. -/
import Derived.Test.YtahigbajnpdpcabM3
set_option linter.unusedVariables false
set_option linter.unusedSimpArgs false
set_option linter.unnecessarySimpa false
namespace Go.Vm

/-! ### loops that look for something -/
theorem runL_find {S C Q X : Type} {B : (S → Option Q) → C → S → Option Q} {cs : C} {l : List X} (st : Nat → S) (p : X → Bool) (found : Nat → Option Q) (dn : Option Q)
    (hstep : ∀ (next : S → Option Q) (i : Nat) (hi : i < l.length), B next cs (st i) = if p l[i] = true then found i else next (st (i + 1)))
    (hend : ∀ (next : S → Option Q), B next cs (st l.length) = dn) {k : Nat} (hk : l.length < k) : runL B cs k (st 0) = (l.findIdx? p).elim dn found := by
  have key : ∀ (d i k : Nat), i + d = l.length → d < k → runL B cs k (st i) = ((l.drop i).findIdx? p).elim dn (fun j => found (j + i)) := by
    intro d
    induction d with
    | zero =>
      intro i k hi hk
      have : i = l.length := by omega
      subst this
      rw [runL_pos B cs hk, hend, List.drop_length]
      rfl
    | succ d ih =>
      intro i k hi hk
      have hlt : i < l.length := by omega
      rw [runL_pos B cs (by omega), hstep _ i hlt, List.drop_eq_getElem_cons hlt, List.findIdx?_cons]
      cases hp : p l[i] with
      | true => simp
      | false =>
        simp only [Bool.false_eq_true, if_false]
        rw [ih (i + 1) (k - 1) (by omega) (by omega)]
        cases (l.drop (i + 1)).findIdx? p with
        | none => rfl
        | some j => simp only [Option.map_some, Option.elim_some]; congr 1; omega
  have := key l.length 0 k (by omega) hk
  simpa using this

/-- A loop with a way out where something holds of the number of the round. -/
theorem runL_any {S C Q : Type} {B : (S → Option Q) → C → S → Option Q} {cs : C} {len : Nat} (st : Nat → S) (q : Nat → Bool) (bad ok : Option Q)
    (hstep : ∀ (next : S → Option Q) (i : Nat) (hi : i < len), B next cs (st i) = if q i = true then bad else next (st (i + 1)))
    (hend : ∀ (next : S → Option Q), B next cs (st len) = ok) {k : Nat} (hk : len < k) : runL B cs k (st 0) = if (List.range len).any q = true then bad else ok := by
  have := runL_find (B := B) (cs := cs) (l := List.range len) st q (fun _ => bad) ok (fun next i hi => by
    have hi' : i < len := by simpa using hi
    rw [hstep next i hi', List.getElem_range]) (fun next => by rw [List.length_range]; exact hend next) (k := k) (by simpa using hk)
  rw [this]
  cases hf : (List.range len).findIdx? q with
  | none =>
    rw [List.findIdx?_eq_none_iff] at hf
    have : (List.range len).any q = false := by rw [List.any_eq_false]; exact fun x hx => by simp [hf x hx]
    simp [this]
  | some i =>
    have : (List.range len).any q = true := by
      rw [List.findIdx?_eq_some_iff_getElem] at hf
      obtain ⟨h, hp, _⟩ := hf
      exact List.any_eq_true.2 ⟨_, List.getElem_mem h, hp⟩
    simp [this]

/-- A loop that goes on to the end. -/
theorem runL_fold {S C Q A : Type} {B : (S → Option Q) → C → S → Option Q} {cs : C} {len : Nat} (st : Nat → A → S) (inv : Nat → A → Prop) (g : Nat → A → A) (dn : A → Option Q)
    (hstep : ∀ (next : S → Option Q) (i : Nat) (a : A), i < len → inv i a → inv (i + 1) (g i a) ∧ B next cs (st i a) = next (st (i + 1) (g i a)))
    (hend : ∀ (next : S → Option Q) (a : A), inv len a → B next cs (st len a) = dn a) {k : Nat} (hk : len < k) {a : A} (ha : inv 0 a) : runL B cs k (st 0 a) = dn ((List.range len).foldl (fun a i => g i a) a) := by
  have := runL_list (B := B) (cs := cs) (l := List.range len) (E := Unit) st inv (fun i a => .inl (g i a)) dn (fun _ => none) (fun next i a hi ha => by
    have hi' : i < len := by simpa using hi
    simp only [List.getElem_range]
    exact hstep next i a hi' ha) (fun next a ha => by rw [List.length_range] at ha ⊢; exact hend next a ha) len 0 k a (by simp) hk ha
  rw [this, List.drop_zero]
  have key : ∀ (l : List Nat) (a : A), outF (fun i a => (.inl (g i a) : A ⊕ Unit)) l a = .inl (l.foldl (fun a i => g i a) a) := by
    intro l
    induction l with
    | nil => intro a; rfl
    | cons x l ih => intro a; exact ih _
  rw [key]
  rfl

/-- A loop that goes on to the end, or finds a way out. -/
theorem runL_out {S C Q A E : Type} {B : (S → Option Q) → C → S → Option Q} {cs : C} {len : Nat} (st : Nat → A → S) (inv : Nat → A → Prop) (g : Nat → A → A ⊕ E) (dn : A → Option Q) (ex : E → Option Q)
    (hstep : ∀ (next : S → Option Q) (i : Nat) (a : A), i < len → inv i a → (match g i a with | .inl a' => inv (i + 1) a' ∧ B next cs (st i a) = next (st (i + 1) a') | .inr e => B next cs (st i a) = ex e))
    (hend : ∀ (next : S → Option Q) (a : A), inv len a → B next cs (st len a) = dn a) {k : Nat} (hk : len < k) {a : A} (ha : inv 0 a) : runL B cs k (st 0 a) = Sum.elim dn ex (outF g (List.range len) a) := by
  have := runL_list (B := B) (cs := cs) (l := List.range len) st inv g dn ex (fun next i a hi ha => by
    have hi' : i < len := by simpa using hi
    simp only [List.getElem_range]
    exact hstep next i a hi' ha) (fun next a ha => by rw [List.length_range] at ha ⊢; exact hend next a ha) len 0 k a (by simp) hk ha
  rw [this, List.drop_zero]

theorem wrap_u8 {a : Int} (h0 : 0 ≤ a) (h1 : a < 256) : IntKind.u8.wrap a = a := by
  have h : IntKind.u8.wrap a = if (false && decide (a % 256 ≥ 128)) = true then a % 256 - 256 else a % 256 := rfl
  rw [h]
  simp only [Bool.false_and, Bool.false_eq_true, if_false]
  omega

theorem byteAt_lt (s : ByteArray) (i : Int) : 0 ≤ byteAt s i ∧ byteAt s i < 256 := by
  unfold byteAt
  have := UInt8.toNat_lt (s.data.toList.getD i.toNat 0)
  omega

theorem outF_inv {X A E : Type} {g : X → A → A ⊕ E} {p : A → Prop} {l : List X} (h : ∀ x ∈ l, ∀ a, p a → ∀ a', g x a = .inl a' → p a') : ∀ {a a' : A}, p a → outF g l a = .inl a' → p a' := by
  induction l with
  | nil => intro a a' ha h; cases h; exact ha
  | cons x l ih =>
    intro a a' ha he
    simp only [outF] at he
    split at he
    · rename_i a1 h1
      exact ih (fun y hy => h y (by simp [hy])) (h x (by simp) a ha a1 h1) he
    · cases he

theorem wrap_next {i n : Nat} (hi : i < n) (hn : n ≤ 1048576) : IntKind.i64.wrap ((i : Int) + 1) = ((i + 1 : Nat) : Int) := by
  rw [wrap_eq (by omega) (by omega)]
  omega

theorem lt_dec {i n : Nat} (hi : i < n) : decide ((i : Int) < (n : Int)) = true := decide_eq_true (by omega)
theorem lt_dec' {n : Nat} : decide ((n : Int) < (n : Int)) = false := decide_eq_false (by omega)
theorem in_dec {i n : Nat} (hi : i < n) : decide (0 ≤ (i : Int) ∧ (i : Int) < (n : Int)) = true := decide_eq_true (by omega)

def fidx {X : Type} (p : X → Bool) (l : List X) : Int := (l.findIdx? p).elim (-1) (fun i => (i : Int))

theorem findIdx?_lt {X : Type} {p : X → Bool} {l : List X} {i : Nat} (h : l.findIdx? p = some i) : i < l.length := by
  rw [List.findIdx?_eq_some_iff_findIdx_eq] at h
  exact h.1

theorem fidx_some {X : Type} {p : X → Bool} {l : List X} {i : Nat} (h : l.findIdx? p = some i) : fidx p l = (i : Int) := by simp [fidx, h]
theorem fidx_none {X : Type} {p : X → Bool} {l : List X} (h : l.findIdx? p = none) : fidx p l = -1 := by simp [fidx, h]

theorem getD_nat {X : Type} (l : List X) (i : Nat) (z : X) (h : i < l.length) : l.getD (Int.toNat (i : Int)) z = l[i] := by simp [h]

theorem guarded {α : Type} {c : Bool} {a b : α} : (if c = true then some a else some b) = some (if c = true then a else b) := by cases c <;> rfl

theorem bytesLess_irrefl : ∀ l : List UInt8, Op.bytesLess l l = false
  | [] => rfl
  | x :: l => by simp [Op.bytesLess, bytesLess_irrefl l]

theorem bytesLess_trans : ∀ {a b c : List UInt8}, Op.bytesLess a b = true → Op.bytesLess b c = true → Op.bytesLess a c = true
  | [], _, [], h, h' => by rename_i b; cases b <;> simp [Op.bytesLess] at h h'
  | [], _, _ :: _, _, _ => rfl
  | _ :: _, [], _, h, _ => by simp [Op.bytesLess] at h
  | _ :: _, _ :: _, [], _, h => by simp [Op.bytesLess] at h
  | x :: a, y :: b, z :: c, h, h' => by
    simp only [Op.bytesLess, Bool.or_eq_true, Bool.and_eq_true, decide_eq_true_eq, beq_iff_eq] at h h' ⊢
    rcases h with h | ⟨rfl, h⟩
    · rcases h' with h' | ⟨rfl, h'⟩
      · exact .inl (UInt8.lt_trans h h')
      · exact .inl h
    · rcases h' with h' | ⟨rfl, h'⟩
      · exact .inl h'
      · exact .inr ⟨rfl, bytesLess_trans h h'⟩

theorem slt_trans {a b c : ByteArray} (h : slt a b = true) (h' : slt b c = true) : slt a c = true := bytesLess_trans h h'

theorem slt_not_seq {a b : ByteArray} (h : slt a b = true) : seq a b = false := by
  cases hs : seq a b with
  | false => rfl
  | true =>
    have : a.toList = b.toList := by simpa [seq] using hs
    simp only [slt, this, bytesLess_irrefl] at h
    cases h

theorem seq_eq {a b : ByteArray} (h : seq a b = true) : a.toList = b.toList := by simpa [seq] using h
theorem seq_trans {a b c : ByteArray} (h : seq a b = true) (h' : seq b c = true) : seq a c = true := by
  simp only [seq, beq_iff_eq] at h h' ⊢
  rw [h, h']

theorem seq_iff {a b : ByteArray} : seq a b = true ↔ a = b := by
  constructor
  · intro h
    have h1 := seq_eq h
    rw [ByteArray.toList_eq, ByteArray.toList_eq] at h1
    cases a; cases b
    simp only [ByteArray.mk.injEq]
    exact Array.toList_inj.1 h1
  · rintro rfl
    simp [seq]

theorem seq_refl (a : ByteArray) : seq a a = true := by simp [seq]
theorem seq_comm (a b : ByteArray) : seq a b = seq b a := by
  unfold seq
  rw [Bool.eq_iff_iff, beq_iff_eq, beq_iff_eq]
  exact eq_comm
end Go.Vm

namespace Go.Vm

/-! ### marks: what is written into all that a value owns, and read again -/
def wt : (t : Ty) → t.den → Nat
  | .slice e, l => List.length l + (List.map (wt e) l).sum
  | .pair a b, x => wt a x.1 + wt b x.2
  | .unit, _ => 0
  | _, _ => 1

theorem wt_int {k : IntKind} {x : Int} : wt (.int k) x = 1 := rfl
theorem wt_bool {x : Bool} : wt .bool x = 1 := rfl
theorem wt_str {x : ByteArray} : wt .str x = 1 := rfl
theorem wt_unit {x : Unit} : wt .unit x = 0 := rfl
theorem wt_pair {a b : Ty} {x : a.den × b.den} : wt (.pair a b) x = wt a x.1 + wt b x.2 := rfl
theorem wt_slice {e : Ty} {l : List e.den} : wt (.slice e) l = l.length + (l.map (wt e)).sum := rfl

def MX : Int := 4611686018427387904

theorem wrapM {a : Int} (h0 : 0 ≤ a) (h1 : a ≤ 4611686018427389000) : IntKind.i64.wrap a = a := wrap_eq (by omega) (by omega)

/-- A value's marks, and what they are when they are read again. -/
def MarkOk (t : Ty) (mk : t.den → Int → Option (t.den × Int × Unit)) (hd : t.den → Int → Option (Int × Unit)) : Prop :=
  ∀ (x : t.den) (k : Int), 1 ≤ k → k + wt t x ≤ 4611686018427387904 → ∃ (y : t.den) (k' : Int), k ≤ k' ∧ k' ≤ k + wt t x ∧ mk x k = some (y, k', ()) ∧ hd y k = some (k', ())

/-- An element's marks, in a row. -/
def ElOk (e : Ty) {C1 C2 Q1 Q2 : Type} (B : (List e.den × Int × Int × Unit → Option Q1) → C1 → List e.den × Int × Int × Unit → Option Q1) (cs1 : C1) (H : (List e.den × Int × Int × Unit → Option Q2) → C2 → List e.den × Int × Int × Unit → Option Q2) (cs2 : C2) : Prop :=
  ∀ (x : e.den) (k : Int), 1 ≤ k → k + wt e x ≤ 4611686018427387904 → ∃ (y : e.den) (k' : Int), k ≤ k' ∧ k' ≤ k + wt e x ∧
    (∀ (next : List e.den × Int × Int × Unit → Option Q1) (l : List e.den) (i : Nat), i < l.length → l.length ≤ 4611686018427387904 → (∀ z, l.getD i z = x) → B next cs1 (l, k, (i : Int), ()) = next (l.set i y, k', ((i : Int) + 1), ())) ∧
    ∀ (next : List e.den × Int × Int × Unit → Option Q2) (l : List e.den) (i : Nat), i < l.length → l.length ≤ 4611686018427387904 → (∀ z, l.getD i z = y) → H next cs2 (l, k, (i : Int), ()) = next (l, k', ((i : Int) + 1), ())

theorem getD_pre {α : Type} (pre : List α) (x : α) (s : List α) (z : α) : (pre ++ x :: s).getD pre.length z = x := by simp
theorem set_pre {α : Type} (pre : List α) (x y : α) (s : List α) : (pre ++ x :: s).set pre.length y = pre ++ [y] ++ s := by simp

theorem marks_run {e : Ty} {C1 C2 Q1 Q2 : Type} {B : (List e.den × Int × Int × Unit → Option Q1) → C1 → List e.den × Int × Int × Unit → Option Q1} {cs1 : C1} {H : (List e.den × Int × Int × Unit → Option Q2) → C2 → List e.den × Int × Int × Unit → Option Q2} {cs2 : C2}
    {dn : List e.den → Int → Option Q1} {hd : Int → Option Q2} (hel : ElOk e B cs1 H cs2) (h1 : ∀ next l k, B next cs1 (l, k, (List.length l : Int), ()) = dn l k) (h2 : ∀ next l k, H next cs2 (l, k, (List.length l : Int), ()) = hd k) :
    ∀ (s : List e.den) (k : Int), 1 ≤ k → k + wt (.slice e) s ≤ 4611686018427387904 → ∃ (s' : List e.den) (k' : Int), k ≤ k' ∧ k' ≤ k + wt (.slice e) s ∧ s'.length = s.length ∧
      (∀ (pre : List e.den) (m : Nat), pre.length + s.length ≤ 4611686018427387904 → s.length < m → runL B cs1 m (pre ++ s, k, (pre.length : Int), ()) = dn (pre ++ s') k') ∧
      ∀ (pre : List e.den) (m : Nat), pre.length + s.length ≤ 4611686018427387904 → s.length < m → runL H cs2 m (pre ++ s', k, (pre.length : Int), ()) = hd k' := by
  intro s
  induction s with
  | nil =>
    intro k hk hw
    refine ⟨[], k, Int.le_refl _, by omega, rfl, fun pre m _ hm => ?_, fun pre m _ hm => ?_⟩
    · rw [runL_pos _ _ (by simpa using hm), List.append_nil]; exact h1 _ _ _
    · rw [runL_pos _ _ (by simpa using hm), List.append_nil]; exact h2 _ _ _
  | cons x s ih =>
    intro k hk hw
    have e1 : (wt (.slice e) (x :: s) : Int) = 1 + wt e x + wt (.slice e) s := by
      rw [wt_slice, wt_slice]
      simp only [List.length_cons, List.map_cons, List.sum_cons]
      omega
    rw [e1] at hw
    obtain ⟨y, k1, g1, g2, gB, gH⟩ := hel x k hk (by omega)
    obtain ⟨s', k2, i1, i2, il, iB, iH⟩ := ih k1 (by omega) (by omega)
    refine ⟨y :: s', k2, by omega, by omega, by simp [il], fun pre m hp hm => ?_, fun pre m hp hm => ?_⟩
    · simp only [List.length_cons] at hp hm
      rw [runL_pos _ _ (by omega), gB _ _ _ (by simp) (by simp; omega) (fun z => getD_pre pre x s z), set_pre]
      have := iB (pre ++ [y]) (m - 1) (by simp; omega) (by omega)
      simp only [List.length_append, List.length_cons, List.length_nil, Nat.zero_add, Int.natCast_add, Int.cast_ofNat_Int] at this
      rw [this]
      simp
    · simp only [List.length_cons] at hp hm
      rw [runL_pos _ _ (by omega), gH _ _ _ (by simp) (by simp; omega) (fun z => getD_pre pre y s' z)]
      have := iH (pre ++ [y]) (m - 1) (by simp; omega) (by omega)
      simp only [List.length_append, List.length_cons, List.length_nil, Nat.zero_add, Int.natCast_add, Int.cast_ofNat_Int, List.append_assoc, List.cons_append, List.nil_append] at this
      exact this

theorem markS_ok {e : Ty} {C1 C2 : Type} {B : (List e.den × Int × Int × Unit → Option (List e.den × Int × Unit)) → C1 → List e.den × Int × Int × Unit → Option (List e.den × Int × Unit)} {cs1 : C1} {H : (List e.den × Int × Int × Unit → Option (Int × Unit)) → C2 → List e.den × Int × Int × Unit → Option (Int × Unit)} {cs2 : C2}
    {n : Nat} (hn : Big n) (hel : ElOk e B cs1 H cs2) (h1 : ∀ next l k, B next cs1 (l, k, (List.length l : Int), ()) = some (l, k, ())) (h2 : ∀ next l k, H next cs2 (l, k, (List.length l : Int), ()) = some (k, ())) :
    MarkOk (.slice e) (fun x k => runL B cs1 n (x, k, 0, ())) (fun y k => runL H cs2 n (y, k, 0, ())) := by
  intro x k hk hw
  have hn : 18446744073709551616 ≤ n := hn
  obtain ⟨y, k', g1, g2, gl, gB, gH⟩ := marks_run (dn := fun l k => some (l, k, ())) (hd := fun k => some (k, ())) hel h1 h2 x k hk hw
  rw [wt_slice] at hw
  have := gB [] n (by simp only [List.length_nil]; omega) (by omega)
  have := gH [] n (by simp only [List.length_nil]; omega) (by omega)
  exact ⟨y, k', g1, g2, by assumption, by assumption⟩

theorem seq_same (s : ByteArray) : seq s s = true := by simp [seq]

theorem getD_set_at {α : Type} {l : List α} {i : Nat} (h : i < l.length) (y z : α) : (l.set i y).getD i z = y := by simp [h]

theorem ofBytes_one (a : Int) : ByteArray.size (ofBytes [a]) = 1 := rfl
theorem scat_size (a b : ByteArray) : ByteArray.size (scat a b) = ByteArray.size a + ByteArray.size b := by simp [scat]

/-- What markText's loop does. -/
theorem markText_run {C Q : Type} {B : (Int × ByteArray × Unit → Option Q) → C → Int × ByteArray × Unit → Option Q} {cs : C} {dn : ByteArray → Option Q}
    (h0 : ∀ next s, B next cs (0, s, ()) = dn s) (h1 : ∀ next (k : Int) (s : ByteArray), 1 ≤ k → k + ByteArray.size s ≤ 4611686018427387904 → ∃ t : ByteArray, ByteArray.size t = ByteArray.size s + 1 ∧ B next cs (k, s, ()) = next (k.tdiv 10, t, ())) :
    ∀ (m : Nat) (k : Nat) (s : ByteArray), k + ByteArray.size s ≤ 4611686018427387904 → k < m → ∃ t, ByteArray.size t ≤ k + ByteArray.size s ∧ runL B cs m ((k : Int), s, ()) = dn t := by
  intro m
  induction m with
  | zero => intro k s _ hm; omega
  | succ m ih =>
    intro k s hk hm
    cases k with
    | zero => exact ⟨s, by omega, h0 _ _⟩
    | succ k =>
      obtain ⟨t, ht, he⟩ := h1 (runL B cs m) ((k + 1 : Nat) : Int) s (by omega) (by omega)
      have hd : Int.tdiv ((k + 1 : Nat) : Int) 10 = (((k + 1) / 10 : Nat) : Int) := by
        rw [Int.tdiv_eq_ediv_of_nonneg (by omega)]
        rfl
      obtain ⟨u, hu, hr⟩ := ih ((k + 1) / 10) t (by omega) (by omega)
      refine ⟨u, by omega, ?_⟩
      show B (runL B cs m) cs _ = _
      rw [he, hd]
      exact hr

/-! without reading again -/
def MarkOk1 (t : Ty) (mk : t.den → Int → Option (t.den × Int × Unit)) : Prop :=
  ∀ (x : t.den) (k : Int), 1 ≤ k → k + wt t x ≤ 4611686018427387904 → ∃ (y : t.den) (k' : Int), k ≤ k' ∧ k' ≤ k + wt t x ∧ mk x k = some (y, k', ())

def ElOk1 (e : Ty) {C1 Q1 : Type} (B : (List e.den × Int × Int × Unit → Option Q1) → C1 → List e.den × Int × Int × Unit → Option Q1) (cs1 : C1) : Prop :=
  ∀ (x : e.den) (k : Int), 1 ≤ k → k + wt e x ≤ 4611686018427387904 → ∃ (y : e.den) (k' : Int), k ≤ k' ∧ k' ≤ k + wt e x ∧
    ∀ (next : List e.den × Int × Int × Unit → Option Q1) (l : List e.den) (i : Nat), i < l.length → l.length ≤ 4611686018427387904 → (∀ z, l.getD i z = x) → B next cs1 (l, k, (i : Int), ()) = next (l.set i y, k', ((i : Int) + 1), ())

theorem marks_run1 {e : Ty} {C1 Q1 : Type} {B : (List e.den × Int × Int × Unit → Option Q1) → C1 → List e.den × Int × Int × Unit → Option Q1} {cs1 : C1}
    {dn : List e.den → Int → Option Q1} (hel : ElOk1 e B cs1) (h1 : ∀ next l k, B next cs1 (l, k, (List.length l : Int), ()) = dn l k) :
    ∀ (s : List e.den) (k : Int), 1 ≤ k → k + wt (.slice e) s ≤ 4611686018427387904 → ∃ (s' : List e.den) (k' : Int), k ≤ k' ∧ k' ≤ k + wt (.slice e) s ∧
      ∀ (pre : List e.den) (m : Nat), pre.length + s.length ≤ 4611686018427387904 → s.length < m → runL B cs1 m (pre ++ s, k, (pre.length : Int), ()) = dn (pre ++ s') k' := by
  intro s
  induction s with
  | nil =>
    intro k hk hw
    refine ⟨[], k, Int.le_refl _, by omega, fun pre m _ hm => ?_⟩
    rw [runL_pos _ _ (by simpa using hm), List.append_nil]; exact h1 _ _ _
  | cons x s ih =>
    intro k hk hw
    have e1 : (wt (.slice e) (x :: s) : Int) = 1 + wt e x + wt (.slice e) s := by
      rw [wt_slice, wt_slice]
      simp only [List.length_cons, List.map_cons, List.sum_cons]
      omega
    rw [e1] at hw
    obtain ⟨y, k1, g1, g2, gB⟩ := hel x k hk (by omega)
    obtain ⟨s', k2, i1, i2, iB⟩ := ih k1 (by omega) (by omega)
    refine ⟨y :: s', k2, by omega, by omega, fun pre m hp hm => ?_⟩
    simp only [List.length_cons] at hp hm
    rw [runL_pos _ _ (by omega), gB _ _ _ (by simp) (by simp; omega) (fun z => getD_pre pre x s z), set_pre]
    have := iB (pre ++ [y]) (m - 1) (by simp; omega) (by omega)
    simp only [List.length_append, List.length_cons, List.length_nil, Nat.zero_add, Int.natCast_add, Int.cast_ofNat_Int] at this
    rw [this]
    simp

theorem markS1_ok {e : Ty} {C1 : Type} {B : (List e.den × Int × Int × Unit → Option (List e.den × Int × Unit)) → C1 → List e.den × Int × Int × Unit → Option (List e.den × Int × Unit)} {cs1 : C1}
    {n : Nat} (hn : Big n) (hel : ElOk1 e B cs1) (h1 : ∀ next l k, B next cs1 (l, k, (List.length l : Int), ()) = some (l, k, ())) :
    MarkOk1 (.slice e) (fun x k => runL B cs1 n (x, k, 0, ())) := by
  intro x k hk hw
  have hn : 18446744073709551616 ≤ n := hn
  obtain ⟨y, k', g1, g2, gB⟩ := marks_run1 (dn := fun l k => some (l, k, ())) hel h1 x k hk hw
  rw [wt_slice] at hw
  have := gB [] n (by simp only [List.length_nil]; omega) (by omega)
  exact ⟨y, k', g1, g2, by assumption⟩

/-! how many marks there are -/
def wtC : Ty → Nat
  | .slice e => 1 + wtC e
  | .pair a b => wtC a + wtC b
  | .unit => 0
  | _ => 1

theorem wt_bulk : ∀ {t : Ty} {x : t.den}, wt t x ≤ wtC t * (bulk t x + 1)
  | .int _, x => by simp [wt, wtC]
  | .bool, x => by simp [wt, wtC]
  | .str, x => by simp [wt, wtC]
  | .ptr _, x => by simp [wt, wtC]
  | .unit, x => by simp [wt, wtC]
  | .pair a b, x => by
    have h1 := wt_bulk (t := a) (x := x.1)
    have h2 := wt_bulk (t := b) (x := x.2)
    simp only [wt, wtC, bulk]
    refine Nat.le_trans (Nat.add_le_add h1 h2) ?_
    rw [Nat.add_mul]
    exact Nat.add_le_add (Nat.mul_le_mul_left _ (by omega)) (Nat.mul_le_mul_left _ (by omega))
  | .slice e, l => by
    have key : ∀ l : List e.den, (l.map (wt e)).sum ≤ wtC e * ((l.map (bulk e)).sum + l.length) := by
      intro l
      induction l with
      | nil => simp
      | cons x l ih =>
        have h := wt_bulk (t := e) (x := x)
        simp only [List.map_cons, List.sum_cons, List.length_cons]
        refine Nat.le_trans (Nat.add_le_add h ih) ?_
        rw [← Nat.mul_add]
        exact Nat.mul_le_mul_left _ (by omega)
    have h := key l
    simp only [wt, wtC, bulk]
    rw [Nat.add_mul, Nat.one_mul]
    have h2 : wtC e * ((List.map (bulk e) l).sum + List.length l) ≤ wtC e * (List.length l + (List.map (bulk e) l).sum + 1) := Nat.mul_le_mul_left _ (by omega)
    omega

theorem wt_small {t : Ty} {x : t.den} (hb : (bulk t x : Int) ≤ 1048576) (hc : Nat.ble (wtC t) 1000 = true) : (wt t x : Int) ≤ 1048577000 := by
  have h := wt_bulk (t := t) (x := x)
  have h1 : wtC t ≤ 1000 := Nat.le_of_ble_eq_true hc
  have h2 : wtC t * (bulk t x + 1) ≤ 1000 * 1048577 := Nat.mul_le_mul h1 (by omega)
  omega
end Go.Vm
