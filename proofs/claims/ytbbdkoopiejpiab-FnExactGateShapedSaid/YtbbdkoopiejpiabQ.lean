/- The law FnExactGateShaped: what the program tells and what the reference tells are one, for all arguments (the plain law, over printed pure functions). No conditions. -/
import Derived.Test.YtbbdkoopiejpiabP
set_option linter.unusedVariables false
set_option linter.unusedSimpArgs false
namespace Go.Proofs.Ytbbdkoopiejpiab
open Go Go.Vm
section
variable {n : Nat} (hn : Big n)
def digF (s : ByteArray) (i : Nat) (a : Int) : Int ⊕ Unit :=
  if ((decide (byteAt s (i : Int) < (48 : Int))) || (decide (byteAt s (i : Int) > (57 : Int)))) = true then .inr () else .inl (a * 10 + (byteAt s (i : Int) - 48))
def badNum (s : ByteArray) : Bool:=((decide ((ByteArray.size s : Int) < (1 : Int))) || (decide ((ByteArray.size s : Int) > (7 : Int)))) || ((byteAt s (0 : Int) == (48 : Int)) && (decide ((ByteArray.size s : Int) > (1 : Int))))
def numR (s : ByteArray) : Int ⊕ Unit:=if badNum s = true then .inr () else outF (digF s) (List.range s.size) 0
theorem pow_le (i : Nat) (h : i ≤ 7) : (10 : Int) ^ i ≤ 10000000:=by
  obtain rfl | rfl | rfl | rfl | rfl | rfl | rfl | rfl : i = 0 ∨ i = 1 ∨ i = 2 ∨ i = 3 ∨ i = 4 ∨ i = 5 ∨ i = 6 ∨ i = 7:=by omega
  all_goals decide
theorem dig_inv {s : ByteArray} {i : Nat} {a a' : Int} (ha : 0 ≤ a ∧ a < (10 : Int) ^ i) (h : digF s i a = .inl a') : 0 ≤ a' ∧ a' < (10 : Int) ^ (i + 1):=by
  unfold digF at h
  split at h
  · cases h
  · rename_i hc
    simp only [Bool.or_eq_true,decide_eq_true_eq,not_or] at hc
    cases h
    rw [Int.pow_succ]
    omega
theorem num_bound {s : ByteArray} {a : Int} (h : numR s = .inl a) : 0 ≤ a ∧ a ≤ 9999999:=by
  unfold numR at h
  split at h
  · cases h
  · rename_i hb
    unfold badNum at hb
    simp only [Bool.or_eq_true,decide_eq_true_eq,not_or] at hb
    have key : ∀ (d i : Nat) (a a' : Int),i + d = s.size → (0 ≤ a ∧ a < (10 : Int) ^ i) → outF (digF s) ((List.range s.size).drop i) a = .inl a' → 0 ≤ a' ∧ a' < (10 : Int) ^ s.size:=by
      intro d
      induction d with
      | zero =>
        intro i a a' hi ha h
        have : i = s.size:=by omega
        subst this
        rw [List.drop_eq_nil_of_le (by simp)] at h
        cases h
        exact ha
      | succ d ih =>
        intro i a a' hi ha h
        rw [List.drop_eq_getElem_cons (by simp; omega)] at h
        simp only [outF,List.getElem_range] at h
        split at h
        · rename_i a1 h1
          exact ih (i + 1) a1 a' (by omega) (dig_inv ha h1) h
        · cases h
    have:=key s.size 0 0 a (by omega) (by simp) (by simpa using h)
    have hp:=pow_le s.size (by omega)
    omega
include hn in
theorem specNum_ok (s : ByteArray) : spec_l1Number.f n (s,()) = some (Sum.elim (fun a=>a) (fun _=>-1) (numR s),()):=by
  have hn : 18446744073709551616 ≤ n:=hn
  unfold spec_l1Number.f numR
  simp only [spec_l1In.f,Option.bind_some]
  by_cases hlen : 1 ≤ s.size ∧ s.size ≤ 7
  · have e1 : ((decide ((ByteArray.size s : Int) ≥ (1 : Int))) && (decide ((ByteArray.size s : Int) ≤ (7 : Int)))) = true:=by simp; omega
    have e2 : decide (0 ≤ (0 : Int) ∧ (0 : Int) < (ByteArray.size s : Int)) = true:=decide_eq_true (by omega)
    have e3 : badNum s = ((decide ((ByteArray.size s : Int) > (1 : Int))) && (byteAt s (0 : Int) == (48 : Int))):=by
      unfold badNum
      rw [decide_eq_false (show ¬ ((ByteArray.size s : Int) < 1) by omega),decide_eq_false (show ¬ ((ByteArray.size s : Int) > 7) by omega),Bool.and_comm]
      rfl
    simp only [e1,e2,e3,Bool.or_true,if_true,Bool.not_true,Bool.false_or]
    split
    · rfl
    · refine (runL_out (len:=s.size) (fun i a=>(s,a,(i : Int),())) (fun i a=>0 ≤ a ∧ a < (10 : Int) ^ i) (digF s) (fun a=>some (a,())) (fun _=>some (-1,())) ?_ ?_ (by omega) (a:=0) (by simp)).trans (by cases outF (digF s) (List.range s.size) 0 <;> rfl)
      · intro next i a hi ha
        have hp:=pow_le i (by omega)
        have hb:=byteAt_lt s (i : Int)
        cases hd : digF s i a with
        | inr e =>
          unfold digF at hd
          split at hd
          · rename_i hc
            simp only [spec_l1Number.B5,lt_dec hi,in_dec hi,Bool.or_true,if_true]
            rw [if_pos hc]
          · cases hd
        | inl a' =>
          refine ⟨dig_inv ha hd,?_⟩
          unfold digF at hd
          split at hd
          · cases hd
          · rename_i hc
            cases hd
            simp only [spec_l1Number.B5,lt_dec hi,in_dec hi,Bool.or_true,if_true]
            rw [if_neg hc,wrap_next hi (show s.size ≤ 1048576 by omega)]
            simp only [Bool.or_eq_true,decide_eq_true_eq,not_or] at hc
            rw [wrap_eq (a:=a * 10) (by omega) (by omega),wrap_eq (a:=byteAt s i) (by omega) (by omega),wrap_eq (a:=a * 10 + byteAt s i) (by omega) (by omega),wrap_eq (by omega) (by omega)]
            rw [show a * 10 + byteAt s i - 48 = a * 10 + (byteAt s i - 48) by omega]
      · intro next a ha
        simp only [spec_l1Number.B5,lt_dec',Bool.false_eq_true,if_false]
  · have e1 : ((decide ((ByteArray.size s : Int) ≥ (1 : Int))) && (decide ((ByteArray.size s : Int) ≤ (7 : Int)))) = false:=by
      rw [Bool.and_eq_false_iff,decide_eq_false_iff_not,decide_eq_false_iff_not]; omega
    have e3 : badNum s = true:=by
      unfold badNum
      simp only [Bool.or_eq_true,decide_eq_true_eq]
      omega
    simp [e1,e3]
include hn in
theorem implNum_ok (s : ByteArray) : impl_decimal.f n (s,()) = some (Sum.elim (fun a=>(a,true,())) (fun _=>(0,false,())) (numR s)):=by
  have hn : 18446744073709551616 ≤ n:=hn
  unfold impl_decimal.f numR
  by_cases hlen : 1 ≤ s.size ∧ s.size ≤ 7
  · have e2 : decide (0 ≤ (0 : Int) ∧ (0 : Int) < (ByteArray.size s : Int)) = true:=decide_eq_true (by omega)
    simp only [e2,Bool.or_true,if_true]
    rw [show (((decide ((ByteArray.size s : Int) < (1 : Int))) || (decide ((ByteArray.size s : Int) > (7 : Int)))) || ((byteAt s (0 : Int) == (48 : Int)) && (decide ((ByteArray.size s : Int) > (1 : Int))))) = badNum s from rfl]
    split
    · rfl
    · refine (runL_out (len:=s.size) (fun i a=>(s,a,(s.size : Int),(i : Int),())) (fun i a=>0 ≤ a ∧ a < (10 : Int) ^ i) (digF s) (fun a=>some (a,true,())) (fun _=>some (0,false,())) ?_ ?_ (by omega) (a:=0) (by simp)).trans (by cases outF (digF s) (List.range s.size) 0 <;> rfl)
      · intro next i a hi ha
        have hp:=pow_le i (by omega)
        have hb:=byteAt_lt s (i : Int)
        cases hd : digF s i a with
        | inr e =>
          unfold digF at hd
          split at hd
          · rename_i hc
            simp only [impl_decimal.B5,lt_dec hi,in_dec hi,Bool.or_true,if_true]
            rw [if_pos hc]
          · cases hd
        | inl a' =>
          refine ⟨dig_inv ha hd,?_⟩
          unfold digF at hd
          split at hd
          · cases hd
          · rename_i hc
            cases hd
            simp only [impl_decimal.B5,lt_dec hi,in_dec hi,Bool.or_true,if_true]
            rw [if_neg hc,wrap_next hi (show s.size ≤ 1048576 by omega)]
            simp only [Bool.or_eq_true,decide_eq_true_eq,not_or] at hc
            rw [wrap_u8 (a:=byteAt s i - 48) (by omega) (by omega),wrap_eq (a:=a * 10) (by omega) (by omega),wrap_eq (a:=byteAt s i - 48) (by omega) (by omega),wrap_eq (by omega) (by omega)]
      · intro next a ha
        simp only [impl_decimal.B5,lt_dec',Bool.false_eq_true,if_false]
  · have e3 : badNum s = true:=by
      unfold badNum
      simp only [Bool.or_eq_true,decide_eq_true_eq]
      omega
    have e4 : ((decide ((ByteArray.size s : Int) < (1 : Int))) || (decide ((ByteArray.size s : Int) > (7 : Int)))) = true:=by
      simp only [Bool.or_eq_true,decide_eq_true_eq]
      omega
    simp [e4,e3]
end

section
variable {n : Nat} (hn : Big n)
def badByte (s : ByteArray) (i : Nat) : Bool :=
  !((((decide (byteAt s (i : Int) ≥ (97 : Int))) && (decide (byteAt s (i : Int) ≤ (122 : Int)))) || ((decide (byteAt s (i : Int) ≥ (48 : Int))) && (decide (byteAt s (i : Int) ≤ (57 : Int))))) || (byteAt s (i : Int) == (45 : Int)))
def bytesOkD (s : ByteArray) : Bool:=!(List.range s.size).any (badByte s)
def nameOkD (s : ByteArray) : Bool:=((decide ((ByteArray.size s : Int) ≥ (1 : Int))) && (decide ((ByteArray.size s : Int) ≤ (16 : Int)))) && bytesOkD s
include hn in
theorem specName_ok (s : ByteArray) (hl : s.size ≤ 1048576) : spec_l1NameOk.f n (s,()) = some (nameOkD s,()):=by
  have hn : 18446744073709551616 ≤ n:=hn
  unfold spec_l1NameOk.f nameOkD
  simp only [spec_l1In.f,Option.bind_some]
  cases h1 : ((decide ((ByteArray.size s : Int) ≥ (1 : Int))) && (decide ((ByteArray.size s : Int) ≤ (16 : Int)))) with
  | false=>rfl
  | true =>
    simp only [Bool.not_true,Bool.false_eq_true,if_false,Bool.true_and]
    refine (runL_any (len:=s.size) (fun i=>(s,(i : Int),())) (badByte s) (some (false,())) (some (true,())) ?_ ?_ (by omega)).trans (by unfold bytesOkD; cases (List.range s.size).any (badByte s) <;> rfl)
    · intro next i hi
      simp only [spec_l1NameOk.B4,spec_l1Byte.f,lt_dec hi,in_dec hi,wrap_next hi hl,Option.bind_some,Bool.or_true,if_true,badByte]
      rfl
    · intro next
      simp only [spec_l1NameOk.B4,lt_dec',Bool.false_eq_true,if_false]
include hn in
theorem implBytes_ok (s : ByteArray) (hl : s.size ≤ 1048576) : impl_nameBytes.f n (s,()) = some (bytesOkD s,()):=by
  have hn : 18446744073709551616 ≤ n:=hn
  unfold impl_nameBytes.f bytesOkD
  refine (runL_any (len:=s.size) (fun i=>(s,(s.size : Int),(i : Int),())) (badByte s) (some (false,())) (some (true,())) ?_ ?_ (by omega)).trans (by cases (List.range s.size).any (badByte s) <;> rfl)
  · intro next i hi
    simp only [impl_nameBytes.B2,impl_nameByte.f,lt_dec hi,in_dec hi,wrap_next hi hl,Option.bind_some,Bool.or_true,if_true,badByte]
    rfl
  · intro next
    simp only [impl_nameBytes.B2,lt_dec',Bool.false_eq_true,if_false]
include hn in
theorem implName_ok (s : ByteArray) (hl : s.size ≤ 1048576) : impl_isName.f n (s,()) = some (nameOkD s,()):=by
  unfold impl_isName.f nameOkD
  simp only [implBytes_ok hn s hl,Option.bind_some]
  cases h1 : ((decide ((ByteArray.size s : Int) ≥ (1 : Int))) && (decide ((ByteArray.size s : Int) ≤ (16 : Int)))) with
  | false=>rfl
  | true=>rfl
end

theorem eqK_refl : ∀ {t : Ty} {x : t.den},flat t = true → eqK t x x = true
  | .int _,x,_=>by
    show @BEq.beq Int _ x x = true
    simp
  | .bool,x,_=>by
    show @BEq.beq Bool _ x x = true
    simp
  | .str,x,_=>by
    show seq x x = true
    simp [seq]
  | .unit,_,_=>rfl
  | .pair a b,x,hf=>by
    simp only [flat,Bool.and_eq_true] at hf
    simp only [eqK,Bool.and_eq_true]
    exact ⟨eqK_refl hf.1,eqK_refl hf.2⟩
  | .slice _,_,h=>by simp [flat] at h
  | .ptr _,_,h=>by simp [flat] at h
theorem mget_mput {k : Ty} (l : List (k.den × Int)) (x y : k.den) (n : Int) : mget k (mput k l x n) y = if eqK k y x = true then n else mget k l y:=by
  induction l with
  | nil=>rfl
  | cons p l ih =>
    simp only [mput]
    by_cases h1 : eqK k x p.1 = true
    · have e:=eqK_eq h1
      rw [if_pos h1]
      simp only [mget,e]
      by_cases h2 : eqK k y p.1 = true <;> simp [h2]
    · rw [if_neg h1]
      simp only [mget,ih]
      by_cases h2 : eqK k y p.1 = true
      · by_cases h3 : eqK k y x = true
        · exact absurd (by rw [← eqK_eq h3,← eqK_eq h2] at *; exact h2) h1
        · simp [h2,h3]
      · simp [h2]
theorem mset_put {k : Ty} (l : List (k.den × Int)) (x : k.den) (n : Int) : List.set (mtouch k l x) (mat k l x) ((List.getD (mtouch k l x) (mat k l x) (Ty.zero k,0)).1,n) = mput k l x n:=by
  obtain ⟨p,h1,h2⟩:=touch_set l x n
  rw [List.getD_eq_getElem?_getD,h1]
  exact h2
theorem mat_in {k : Ty} (l : List (k.den × Int)) (x : k.den) : mat k l x < List.length (mtouch k l x):=by
  obtain ⟨p,h1,h2⟩:=touch_set l x 0
  exact (List.getElem?_eq_some_iff.1 h1).1
theorem runL_search {S C Q A : Type} {B : (S → Option Q) → C → S → Option Q} {cs : C} {len : Nat} (st : Nat → A → S) (inv : Nat → A → Prop) (p : Nat → Bool) (found : Nat → Option Q) (dn : Option Q)
    (hstep : ∀ (next : S → Option Q) (i : Nat) (a : A),i < len → inv i a → if p i = true then B next cs (st i a) = found i else ∃ a',inv (i + 1) a' ∧ B next cs (st i a) = next (st (i + 1) a'))
    (hend : ∀ (next : S → Option Q) (a : A),inv len a → B next cs (st len a) = dn) {k : Nat} (hk : len < k) {a : A} (ha : inv 0 a) : runL B cs k (st 0 a) = ((List.range len).find? p).elim dn found:=by
  have key : ∀ (d i k : Nat) (a : A),i + d = len → d < k → inv i a → runL B cs k (st i a) = ((List.range' i d).find? p).elim dn found:=by
    intro d
    induction d with
    | zero =>
      intro i k a hi hk ha
      have : i = len:=by omega
      subst this
      rw [runL_pos B cs (by omega),hend _ _ ha]
      rfl
    | succ d ih =>
      intro i k a hi hk ha
      rw [runL_pos B cs (by omega)]
      have:=hstep (runL B cs (k - 1)) i a (by omega) ha
      rw [List.range'_succ,List.find?_cons]
      rcases Bool.eq_false_or_eq_true (p i) with hp | hp
      · rw [if_pos hp] at this
        rw [this,hp]
        rfl
      · rw [if_neg (by simp [hp])] at this
        obtain ⟨a',h1,h2⟩:=this
        rw [h2,hp,ih (i + 1) (k - 1) a' (by omega) (by omega) h1]
  rw [key len 0 k a (by omega) hk ha,List.range_eq_range']

section
variable {n : Nat} (hn : Big n)
theorem empty_str {s : ByteArray} (h : seq s (⟨#[]⟩ : ByteArray) = true) : s = ⟨#[]⟩:=eqK_eq (t:=.str) h
theorem empty_num {s : ByteArray} (h : seq s (⟨#[]⟩ : ByteArray) = true) : numR s = .inr ():=by
  rw [empty_str h]
  rfl
theorem empty_name {s : ByteArray} (h : seq s (⟨#[]⟩ : ByteArray) = true) : nameOkD s = false:=by
  rw [empty_str h]
  rfl
def badChar (s : ByteArray) (i : Nat) : Bool:=(decide (byteAt s (i : Int) < (33 : Int))) || (decide (byteAt s (i : Int) > (126 : Int)))
def hasW (l : List ByteArray) (s : ByteArray) : Bool:=(l.findIdx? (fun w=>seq w s)).isSome
def fitsD (f : Ty.den tGateField) (s : ByteArray) : Bool :=
  if (f.2.1 == (1 : Int)) = true then Sum.elim (fun a=>decide (a ≥ (f.2.2.1 : Int)) && decide (a ≤ (f.2.2.2.1 : Int))) (fun _=>false) (numR s)
  else if (f.2.1 == (2 : Int)) = true then !seq s (⟨#[]⟩ : ByteArray) && hasW f.2.2.2.2.1 s
  else if (f.2.1 == (3 : Int)) = true then !(List.range s.size).any (badChar s) && (!seq s (⟨#[]⟩ : ByteArray) && (decide ((ByteArray.size s : Int) ≥ (f.2.2.1 : Int)) && decide ((ByteArray.size s : Int) ≤ (f.2.2.2.1 : Int))))
  else if (f.2.1 == (4 : Int)) = true then nameOkD s
  else false
include hn in
theorem specHas_ok (l : List ByteArray) (hl : l.length ≤ 1048576) (s : ByteArray) : spec_l1Has.f n (l,s,()) = some (hasW l s,()):=by
  have hn' : 18446744073709551616 ≤ n:=hn
  unfold spec_l1Has.f hasW
  refine (runL_find (l:=l) (fun i=>(l,s,(i : Int),())) (fun w=>seq w s) (fun i=>some (true,())) (some (false,())) ?_ ?_ (by omega)).trans (by cases l.findIdx? (fun w=>seq w s) <;> rfl)
  · intro next i hi
    simp only [spec_l1Has.B2,lt_dec hi,in_dec hi,wrap_next hi hl,if_true]
    rw [getD_nat _ _ _ hi]
  · intro next
    simp only [spec_l1Has.B2,lt_dec',Bool.false_eq_true,if_false]
include hn in
theorem specFits_ok (f : Ty.den tGateField) (s : ByteArray) (hs : small 1048576 tGateField f) (hl : s.size ≤ 1048576) : spec_GateFits.f n (f,s,()) = some (fitsD f s,()):=by
  have hn' : 18446744073709551616 ≤ n:=hn
  have hw : List.length f.2.2.2.2.1 ≤ 1048576:=hs.2.2.2.2.1.1
  unfold spec_GateFits.f fitsD
  have hnum:=specNum_ok hn s
  have hhas : spec_l1Has.f n (f.2.2.2.2.1,s,()) = _:=specHas_ok hn f.2.2.2.2.1 hw s
  have hname:=specName_ok hn s hl
  by_cases k1 : (f.2.1 == (1 : Int)) = true
  · simp only [k1,if_true,hnum,Option.bind_some,spec_l1In.f]
    cases hr : numR s with
    | inl a =>
      have hb:=num_bound hr
      have key : ∀ (a lo hi : Int),0 ≤ a → ((if decide (a ≥ 0) = true then (some (decide (a ≥ lo) && decide (a ≤ hi),()) : Option (Tup [.bool])) else some (tzero [.bool])).bind fun y2=>some (decide (a ≥ 0) && y2.1,())) = (some (decide (a ≥ lo) && decide (a ≤ hi),()) : Option (Tup [.bool])):=by
        intro a lo hi h
        rw [decide_eq_true (show a ≥ 0 by omega)]
        rfl
      exact key a _ _ hb.1
    | inr u=>rfl
  simp only [k1,if_false,Bool.false_eq_true]
  by_cases k2 : (f.2.1 == (2 : Int)) = true
  · simp only [k2,if_true,hhas]
    cases seq s (⟨#[]⟩ : ByteArray) <;> rfl
  simp only [k2,if_false,Bool.false_eq_true]
  by_cases k3 : (f.2.1 == (3 : Int)) = true
  · simp only [k3,if_true]
    refine (runL_any (len:=s.size) (fun i=>(s,f,(i : Int),())) (badChar s) (some (false,())) (some (!seq s (⟨#[]⟩ : ByteArray) && (decide ((ByteArray.size s : Int) ≥ (f.2.2.1 : Int)) && decide ((ByteArray.size s : Int) ≤ (f.2.2.2.1 : Int))),())) ?_ ?_ (by omega)).trans ?_
    · intro next i hi
      have hb:=byteAt_lt s (i : Int)
      have e : (!((decide (byteAt s (i : Int) ≥ (33 : Int))) && (decide (byteAt s (i : Int) ≤ (126 : Int))))) = badChar s i:=by
        unfold badChar
        by_cases a1 : byteAt s (i : Int) < 33 <;> by_cases a2 : byteAt s (i : Int) > 126 <;> simp [a1,a2] <;> omega
      simp only [spec_GateFits.B9,lt_dec hi,in_dec hi,if_true,wrap_next hi hl,spec_l1In.f,Option.bind_some,wrap_eq (a:=byteAt s i) (by omega) (by omega),e]
    · intro next
      simp only [spec_GateFits.B9,lt_dec',Bool.false_eq_true,if_false,spec_l1In.f]
      cases seq s (⟨#[]⟩ : ByteArray) <;> rfl
    · cases (List.range s.size).any (badChar s) <;> simp
  simp only [k3,if_false,Bool.false_eq_true]
  by_cases k4 : (f.2.1 == (4 : Int)) = true
  · simp only [k4,if_true,hname,Option.bind_some]
  · simp only [k4,if_false,Bool.false_eq_true]
include hn in
theorem implFits_ok (f : Ty.den tGateField) (s : ByteArray) (hs : small 1048576 tGateField f) (hl : s.size ≤ 1048576) : impl_GateFits.f n (f,s,()) = some (fitsD f s,()):=by
  have hn' : 18446744073709551616 ≤ n:=hn
  have hw : List.length f.2.2.2.2.1 ≤ 1048576:=hs.2.2.2.2.1.1
  have hnum : impl_numberField_fits.f n ((f,()),s,()) = some (Sum.elim (fun a=>decide (a ≥ (f.2.2.1 : Int)) && decide (a ≤ (f.2.2.2.1 : Int))) (fun _=>false) (numR s),()):=by
    unfold impl_numberField_fits.f
    simp only [implNum_ok hn s,Option.bind_some]
    cases numR s <;> rfl
  have hword : impl_wordField_fits.f n ((f,()),s,()) = some (hasW f.2.2.2.2.1 s,()):=by
    unfold impl_wordField_fits.f hasW
    refine (runL_find (l:=f.2.2.2.2.1) (fun i=>(s,f.2.2.2.2.1,(List.length f.2.2.2.2.1 : Int),(i : Int),())) (fun w=>seq w s) (fun i=>some (true,())) (some (false,())) ?_ ?_ (by omega)).trans (by cases List.findIdx? (fun w=>seq w s) f.2.2.2.2.1 <;> rfl)
    · intro next i hi
      simp only [impl_wordField_fits.B2,lt_dec hi,in_dec hi,wrap_next hi hw,if_true]
      rw [getD_nat _ _ _ hi]
    · intro next
      simp only [impl_wordField_fits.B2,lt_dec',Bool.false_eq_true,if_false]
  have htext : impl_textField_fits.f n ((f,()),s,()) = some ((decide ((ByteArray.size s : Int) ≥ (f.2.2.1 : Int)) && decide ((ByteArray.size s : Int) ≤ (f.2.2.2.1 : Int))) && !(List.range s.size).any (badChar s),()):=by
    unfold impl_textField_fits.f
    have key : ∀ (lo hi : Int),(if ((decide ((ByteArray.size s : Int) < lo)) || (decide ((ByteArray.size s : Int) > hi))) = true then some (false,()) else
        runL (impl_textField_fits.B4 n) ((fun z1=>some (z1.1,())),(fun z2=>some (true,())),()) n (s,(ByteArray.size s : Int),(0 : Int),())) = (some ((decide ((ByteArray.size s : Int) ≥ lo) && decide ((ByteArray.size s : Int) ≤ hi)) && !(List.range s.size).any (badChar s),()) : Option (Tup [.bool])):=by
      intro lo hi
      by_cases c : (ByteArray.size s : Int) < lo ∨ (ByteArray.size s : Int) > hi
      · rw [if_pos (by simpa using c)]
        have : (decide ((ByteArray.size s : Int) ≥ lo) && decide ((ByteArray.size s : Int) ≤ hi)) = false:=by simp; omega
        rw [this,Bool.false_and]
      · rw [if_neg (by simpa using c)]
        have : (decide ((ByteArray.size s : Int) ≥ lo) && decide ((ByteArray.size s : Int) ≤ hi)) = true:=by simp; omega
        rw [this,Bool.true_and]
        refine (runL_any (len:=s.size) (fun i=>(s,(ByteArray.size s : Int),(i : Int),())) (badChar s) (some (false,())) (some (true,())) ?_ ?_ (by omega)).trans (by cases (List.range s.size).any (badChar s) <;> rfl)
        · intro next i hi
          simp only [impl_textField_fits.B4,lt_dec hi,in_dec hi,Bool.or_true,if_true,wrap_next hi hl]
          rfl
        · intro next
          simp only [impl_textField_fits.B4,lt_dec',Bool.false_eq_true,if_false]
    exact key _ _
  have hlink : impl_linkField_fits.f n ((f,()),s,()) = some (nameOkD s,()):=by
    unfold impl_linkField_fits.f
    simp only [implName_ok hn s hl,Option.bind_some]
  have key : ∀ k : Int,f.2.1 = k → impl_GateFits.f n (f,s,()) = some (fitsD f s,()):=by
    intro k hk
    unfold impl_GateFits.f impl_sortOf.f fitsD
    simp only [Option.bind_some,hnum,hword,htext,hlink]
    rw [hk]
    by_cases k1 : k = 1
    · subst k1
      rcases Bool.eq_false_or_eq_true (seq s (⟨#[]⟩ : ByteArray)) with hse | hse
      · simp [hse,empty_num hse,place4]
      · simp [hse,place4]
    by_cases k2 : k = 2
    · subst k2
      cases hse : seq s (⟨#[]⟩ : ByteArray) <;> simp [place4]
    by_cases k3 : k = 3
    · subst k3
      cases hse : seq s (⟨#[]⟩ : ByteArray) <;> simp [place4,Bool.and_comm]
    by_cases k4 : k = 4
    · subst k4
      rcases Bool.eq_false_or_eq_true (seq s (⟨#[]⟩ : ByteArray)) with hse | hse
      · simp [hse,empty_name hse,place4]
      · simp [hse,place4]
    · have e1 : (k == (1 : Int)) = false:=by simpa using k1
      have e2 : (k == (2 : Int)) = false:=by simpa using k2
      have e3 : (k == (3 : Int)) = false:=by simpa using k3
      have e4 : (k == (4 : Int)) = false:=by simpa using k4
      simp [place4,k1,k2,k3,k4,e1,e2,e3,e4]
  exact key _ rfl
end

section
variable {n : Nat} (hn : Big n)
def fieldAt (F : List (Ty.den tGateField)) (i : Nat) : Ty.den tGateField:=List.getD F i (Ty.zero tGateField)
def nameAt (F : List (Ty.den tGateField)) (i : Nat) : ByteArray:=(fieldAt F i).1
def wordAt (l : List ByteArray) (i : Nat) : ByteArray:=List.getD l i (⟨#[]⟩ : ByteArray)
def badWord (l : List ByteArray) (i : Nat) : Bool:=!nameOkD (wordAt l i) || (decide (0 < i) && !slt (wordAt l (i - 1)) (wordAt l i))
def ascD (l : List ByteArray) : Bool:=!(List.range l.length).any (badWord l)
theorem listGetD_lt {X : Type} (l : List X) (i : Nat) (z : X) (h : i < l.length) : l.getD i z = l[i] := by simp [h]
theorem pred_wrap' {i : Nat} (h0 : 0 < i) (hi : i ≤ 1048576) : IntKind.i64.wrap ((i : Int) - 1) = ((i - 1 : Nat) : Int):=by
  rw [wrap_eq (by omega) (by omega)]
  omega
include hn in
theorem specAsc_ok (l : List ByteArray) (hs : small 1048576 (.slice .str) l) : spec_l1Ascending.f n (l,()) = some (ascD l,()):=by
  have hn' : 18446744073709551616 ≤ n:=hn
  have hl : List.length l ≤ 1048576:=hs.1
  unfold spec_l1Ascending.f ascD
  refine (runL_any (len:=List.length l) (fun i=>(l,(i : Int),())) (badWord l) (some (false,())) (some (true,())) ?_ ?_ (by omega)).trans (by cases (List.range l.length).any (badWord l) <;> rfl)
  · intro next i hi
    have hsz : ByteArray.size (wordAt l i) ≤ 1048576:=by
      unfold wordAt
      rw [listGetD_lt _ _ _ hi]
      exact hs.2 _ (List.getElem_mem hi)
    have hnm:=specName_ok hn (wordAt l i) hsz
    unfold wordAt at hnm
    simp only [spec_l1Ascending.B2,lt_dec hi,in_dec hi,Bool.or_true,if_true,Int.toNat_natCast,hnm,Option.bind_some,wrap_next hi hl]
    unfold badWord wordAt
    by_cases h0 : 0 < i
    · have e : decide ((i : Int) > 0) = true:=decide_eq_true (by omega)
      have e2 : decide (0 ≤ ((i - 1 : Nat) : Int) ∧ ((i - 1 : Nat) : Int) < (List.length l : Int)) = true:=decide_eq_true (by omega)
      simp only [e,decide_eq_true h0,pred_wrap' h0 (by omega),e2,Int.toNat_natCast,Bool.or_true,if_true,Bool.true_and]
    · have e : decide ((i : Int) > 0) = false:=decide_eq_false (by omega)
      simp only [e,decide_eq_false h0,Bool.and_false,Bool.not_false,Bool.true_or,if_true,Bool.false_and]
  · intro next
    simp only [spec_l1Ascending.B2,lt_dec',Bool.false_eq_true,if_false]
include hn in
theorem implAsc_ok (l : List ByteArray) (hs : small 1048576 (.slice .str) l) : impl_ascendingNames.f n (l,()) = some (ascD l,()):=by
  have hn' : 18446744073709551616 ≤ n:=hn
  have hl : List.length l ≤ 1048576:=hs.1
  unfold impl_ascendingNames.f ascD
  refine (runL_any (len:=List.length l) (fun i=>(l,l,(List.length l : Int),(i : Int),())) (badWord l) (some (false,())) (some (true,())) ?_ ?_ (by omega)).trans (by cases (List.range l.length).any (badWord l) <;> rfl)
  · intro next i hi
    have hsz : ByteArray.size (wordAt l i) ≤ 1048576:=by
      unfold wordAt
      rw [listGetD_lt _ _ _ hi]
      exact hs.2 _ (List.getElem_mem hi)
    have hnm:=implName_ok hn (wordAt l i) hsz
    unfold wordAt at hnm
    simp only [impl_ascendingNames.B2,lt_dec hi,in_dec hi,Bool.or_true,if_true,Int.toNat_natCast,hnm,Option.bind_some,wrap_next hi hl]
    unfold badWord wordAt
    by_cases h0 : 0 < i
    · have e : decide ((i : Int) > 0) = true:=decide_eq_true (by omega)
      have e2 : decide (0 ≤ ((i - 1 : Nat) : Int) ∧ ((i - 1 : Nat) : Int) < (List.length l : Int)) = true:=decide_eq_true (by omega)
      simp only [e,decide_eq_true h0,pred_wrap' h0 (by omega),e2,Int.toNat_natCast,Bool.or_true,if_true,Bool.true_and]
    · have e : decide ((i : Int) > 0) = false:=decide_eq_false (by omega)
      simp only [e,decide_eq_false h0,Bool.and_false,Bool.not_false,Bool.true_or,if_true,Bool.false_and]
  · intro next
    simp only [impl_ascendingNames.B2,lt_dec',Bool.false_eq_true,if_false]
abbrev emp (s : ByteArray) : Bool:=seq s (⟨#[]⟩ : ByteArray)
def bareD (kd lo hi words : Int) (to : ByteArray) (role : Int) (weighs : ByteArray) : Bool :=
  if (((!((kd == (1 : Int)) || (kd == (3 : Int)))) && ((lo != (0 : Int)) || (hi != (0 : Int)))) || ((kd != (1 : Int)) && (!emp weighs))) = true then false
  else if ((kd != (2 : Int)) && (decide (words > (0 : Int)))) = true then false
  else ((kd == (4 : Int)) || ((emp to) && (role == (0 : Int))))
def soundD (kd lo hi words : Int) (asc has : Bool) (role : Int) (must : Bool) (dflt weighs : ByteArray) : Bool :=
  if (kd == (1 : Int)) = true then (((decide (lo ≥ (0 : Int))) && (decide (lo ≤ hi))) && (decide (hi ≤ (1000000 : Int)))) && (emp weighs || nameOkD weighs)
  else if (kd == (2 : Int)) = true then ((decide (words ≥ (1 : Int))) && (decide (words ≤ (6 : Int)))) && asc
  else if (kd == (3 : Int)) = true then (((decide (lo ≥ (1 : Int))) && (decide (lo ≤ hi))) && (decide (hi ≤ (40 : Int))))
  else if (kd == (4 : Int)) = true then ((has && ((decide (role ≥ (1 : Int))) && (decide (role ≤ (3 : Int))))) && emp dflt) && ((role != (2 : Int)) || !must)
  else false
def fieldD (K : List ByteArray) (f : Ty.den tGateField) : Bool :=
  nameOkD f.1 && bareD f.2.1 f.2.2.1 f.2.2.2.1 (List.length f.2.2.2.2.1 : Int) f.2.2.2.2.2.1 f.2.2.2.2.2.2.1 f.2.2.2.2.2.2.2.2.2.2.1
    && (emp f.2.2.2.2.2.2.2.2.2.1 || fitsD f f.2.2.2.2.2.2.2.2.2.1)
    && soundD f.2.1 f.2.2.1 f.2.2.2.1 (List.length f.2.2.2.2.1 : Int) (ascD f.2.2.2.2.1) (hasW K f.2.2.2.2.2.1) f.2.2.2.2.2.2.1 f.2.2.2.2.2.2.2.1 f.2.2.2.2.2.2.2.2.2.1 f.2.2.2.2.2.2.2.2.2.2.1
theorem bare_1 (lo hi : Int) (words : Nat) (to : ByteArray) (role : Int) (weighs : ByteArray) : bareD 1 lo hi (words : Int) to role weighs = ((((words : Int) == (0 : Int)) && emp to) && (role == (0 : Int))):=by
  unfold bareD
  by_cases h : words = 0
  · subst h; simp
  · have e1 : ((words : Int) == (0 : Int)) = false:=by simpa using h
    have e2 : decide ((words : Int) > 0) = true:=decide_eq_true (by omega)
    rw [e1,e2]; simp
theorem bare_2 (lo hi : Int) (words : Nat) (to : ByteArray) (role : Int) (weighs : ByteArray) : bareD 2 lo hi (words : Int) to role weighs = (((((lo == (0 : Int)) && (hi == (0 : Int))) && emp to) && (role == (0 : Int))) && emp weighs):=by
  unfold bareD
  simp only [bne]
  cases lo == (0 : Int) <;> cases hi == (0 : Int) <;> cases emp weighs <;> cases emp to <;> cases role == (0 : Int) <;> rfl
theorem bare_3 (lo hi : Int) (words : Nat) (to : ByteArray) (role : Int) (weighs : ByteArray) : bareD 3 lo hi (words : Int) to role weighs = (((((words : Int) == (0 : Int)) && emp to) && (role == (0 : Int))) && emp weighs):=by
  unfold bareD
  by_cases h : words = 0
  · subst h
    cases emp weighs <;> cases emp to <;> cases role == (0 : Int) <;> rfl
  · have e1 : ((words : Int) == (0 : Int)) = false:=by simpa using h
    have e2 : decide ((words : Int) > 0) = true:=decide_eq_true (by omega)
    rw [e1,e2]
    cases emp weighs <;> rfl
theorem bare_4 (lo hi : Int) (words : Nat) (to : ByteArray) (role : Int) (weighs : ByteArray) : bareD 4 lo hi (words : Int) to role weighs = ((((lo == (0 : Int)) && (hi == (0 : Int))) && ((words : Int) == (0 : Int))) && emp weighs):=by
  unfold bareD
  simp only [bne]
  by_cases h : words = 0
  · subst h
    cases lo == (0 : Int) <;> cases hi == (0 : Int) <;> cases emp weighs <;> rfl
  · have e1 : ((words : Int) == (0 : Int)) = false:=by simpa using h
    have e2 : decide ((words : Int) > 0) = true:=decide_eq_true (by omega)
    rw [e1,e2]
    cases lo == (0 : Int) <;> cases hi == (0 : Int) <;> cases emp weighs <;> rfl
include hn in
theorem specShapeS_ok (l : List (Ty.den tGateShape)) (hl : l.length ≤ 1048576) (a : ByteArray) : spec_l1Shape.f n (l,a,()) = some (fidx (fun t : Ty.den tGateShape=>seq t.1 a) l,()):=by
  have hn : 18446744073709551616 ≤ n:=hn
  unfold spec_l1Shape.f
  refine (runL_find (l:=l) (fun i=>(l,a,(i : Int),())) (fun t : Ty.den tGateShape=>seq t.1 a) (fun i=>some ((i : Int),())) (some (-1,())) ?_ ?_ (by omega)).trans ?_
  · intro next i hi
    simp only [spec_l1Shape.B2,lt_dec hi,in_dec hi,wrap_next hi hl,if_true]
    rw [getD_nat _ _ _ hi]
  · intro next
    simp only [spec_l1Shape.B2,lt_dec',Bool.false_eq_true,if_false]
  · simp only [fidx]
    cases l.findIdx? (fun t : Ty.den tGateShape=>seq t.1 a) <;> rfl
def kindsD (L : List (Ty.den tGateShape)) : List ByteArray:=L.map (fun t : Ty.den tGateShape=>t.1)
theorem fidx_has (L : List (Ty.den tGateShape)) (a : ByteArray) : decide (fidx (fun t : Ty.den tGateShape=>seq t.1 a) L ≥ (0 : Int)) = hasW (kindsD L) a:=by
  unfold hasW kindsD
  have e : ((L.map (fun t : Ty.den tGateShape=>t.1)).findIdx? (fun w=>seq w a)) = L.findIdx? (fun t : Ty.den tGateShape=>seq t.1 a):=by
    induction L with
    | nil=>rfl
    | cons x L ih =>
      rw [List.map_cons,List.findIdx?_cons,List.findIdx?_cons,ih]
  rw [e]
  cases h : L.findIdx? (fun t : Ty.den tGateShape=>seq t.1 a) with
  | none=>rw [fidx_none h]; rfl
  | some i=>rw [fidx_some h]; exact decide_eq_true (by omega)
include hn in
theorem specField_ok (L : List (Ty.den tGateShape)) (hL : small 1048576 (.slice tGateShape) L) (f : Ty.den tGateField) (hf : small 1048576 tGateField f) : spec_l1FieldOk.f n (L,f,()) = some (fieldD (kindsD L) f,()):=by
  have hn' : 18446744073709551616 ≤ n:=hn
  have h1 : ByteArray.size f.1 ≤ 1048576:=hf.1
  have hd : ByteArray.size f.2.2.2.2.2.2.2.2.2.1 ≤ 1048576:=hf.2.2.2.2.2.2.2.2.2.1
  have hwg : ByteArray.size f.2.2.2.2.2.2.2.2.2.2.1 ≤ 1048576:=hf.2.2.2.2.2.2.2.2.2.2.1
  have hbare : spec_l1Bare.f n (f,()) = some (bareD f.2.1 f.2.2.1 f.2.2.2.1 (List.length f.2.2.2.2.1 : Int) f.2.2.2.2.2.1 f.2.2.2.2.2.2.1 f.2.2.2.2.2.2.2.2.2.2.1,()):=by
    unfold spec_l1Bare.f bareD
    have key : ∀ (c1 c2 e : Bool),(if c1 = true then some (false,()) else if c2 = true then some (false,()) else some (e,()) : Option (Tup [.bool])) = some (if c1 = true then false else if c2 = true then false else e,()):=by
      intro c1 c2 e; cases c1 <;> cases c2 <;> rfl
    exact key _ _ _
  have hname : spec_l1NameOk.f n (f.1,()) = some (nameOkD f.1,()):=specName_ok hn f.1 h1
  have hfits : spec_GateFits.f n (f,f.2.2.2.2.2.2.2.2.2.1,()) = some (fitsD f f.2.2.2.2.2.2.2.2.2.1,()):=specFits_ok hn f _ hf hd
  have hweighs : spec_l1NameOk.f n (f.2.2.2.2.2.2.2.2.2.2.1,()) = some (nameOkD f.2.2.2.2.2.2.2.2.2.2.1,()):=specName_ok hn _ hwg
  have hasc : spec_l1Ascending.f n (f.2.2.2.2.1,()) = some (ascD f.2.2.2.2.1,()):=specAsc_ok hn _ hf.2.2.2.2.1
  have hshape : spec_l1Shape.f n (L,f.2.2.2.2.2.1,()) = some (fidx (fun t : Ty.den tGateShape=>seq t.1 f.2.2.2.2.2.1) L,()):=specShapeS_ok hn L hL.1 _
  unfold spec_l1FieldOk.f fieldD
  simp only [hname,hbare,hfits,hweighs,hasc,hshape,Option.bind_some,spec_l1In.f,fidx_has]
  have key : ∀ (N B D F S : Bool) (rest : Option (Tup [.bool])),rest = some (S,()) →
      ((if (!(!N)) = true then some (B,()) else some (tzero [.bool])).bind fun y2 : Tup [.bool] => (if ((!((!N) || (!y2.1))) && (!D)) = true then some (F,()) else some (tzero [.bool])).bind fun y3 : Tup [.bool] =>
        if (((!N) || (!y2.1)) || ((!D) && (!y3.1))) = true then some (false,()) else rest) = some (((N && B) && (D || F)) && S,()):=by
    intro N B D F S rest h
    subst h
    cases N <;> cases B <;> cases D <;> cases F <;> rfl
  refine key _ _ _ _ _ _ ?_
  have k1 : ∀ (c e m : Bool),((if (c && (!e)) = true then some (m,()) else some (tzero [.bool])).bind fun y : Tup [.bool] => some (c && (e || y.1),())) = (some (c && (e || m),()) : Option (Tup [.bool])):=by
    intro c e m; cases c <;> cases e <;> cases m <;> rfl
  have k2 : ∀ (c m : Bool),((if c = true then some (m,()) else some (tzero [.bool])).bind fun y : Tup [.bool] => some (c && y.1,())) = (some (c && m,()) : Option (Tup [.bool])):=by
    intro c m; cases c <;> cases m <;> rfl
  have k4 : ∀ (c m e r : Bool),((if c = true then some (m,()) else some (tzero [.bool])).bind fun y : Tup [.bool] => some (((c && y.1) && e) && r,())) = (some (((c && m) && e) && r,()) : Option (Tup [.bool])):=by
    intro c m e r; cases c <;> cases m <;> rfl
  unfold soundD
  by_cases e1 : (f.2.1 == (1 : Int)) = true
  · rw [if_pos e1,if_pos e1]; exact k1 _ _ _
  rw [if_neg e1,if_neg e1]
  by_cases e2 : (f.2.1 == (2 : Int)) = true
  · rw [if_pos e2,if_pos e2]; exact k2 _ _
  rw [if_neg e2,if_neg e2]
  by_cases e3 : (f.2.1 == (3 : Int)) = true
  · rw [if_pos e3,if_pos e3]
  rw [if_neg e3,if_neg e3]
  by_cases e4 : (f.2.1 == (4 : Int)) = true
  · rw [if_pos e4,if_pos e4,← fidx_has L f.2.2.2.2.2.1]; exact k4 _ _ _ _
  · rw [if_neg e4,if_neg e4]
end

section
variable {n : Nat} (hn : Big n)
def dupF (F : List (Ty.den tGateField)) (i : Nat) : Bool:=(List.range i).any (fun k=>seq (nameAt F k) (nameAt F i))
def badFieldS (K : List ByteArray) (F : List (Ty.den tGateField)) (i : Nat) : Bool:=!fieldD K (fieldAt F i) || dupF F i
def fieldsAt (L : List (Ty.den tGateShape)) (i : Nat) : List (Ty.den tGateField):=(List.getD L i (Ty.zero tGateShape)).2.1
def badFields (K : List ByteArray) (F : List (Ty.den tGateField)) : Bool:=decide ((List.length F : Int) > (6 : Int)) || (List.range (List.length F)).any (badFieldS K F)
def shapesD (L : List (Ty.den tGateShape)) : Bool:=!decide ((List.length L : Int) > (6 : Int)) && (ascD (kindsD L) && !(List.range (List.length L)).any (fun i=>badFields (kindsD L) (fieldsAt L i)))
theorem ite_else {X : Type} {c : Bool} {a b b' : X} (h : b = b') : (if c = true then a else b) = if c = true then a else b':=by rw [h]
theorem any_or {l : List Nat} {a b : Nat → Bool} : l.any (fun i=>a i || b i) = (l.any a || l.any b):=by
  induction l with
  | nil=>rfl
  | cons x l ih =>
    simp only [List.any_cons,ih]
    cases a x <;> cases b x <;> cases l.any a <;> cases l.any b <;> rfl
theorem kind_at {L : List (Ty.den tGateShape)} {i : Nat} (hi : i < List.length L) : wordAt (kindsD L) i = (List.getD L i (Ty.zero tGateShape)).1:=by
  unfold wordAt kindsD
  rw [listGetD_lt _ _ _ (by simpa using hi),listGetD_lt _ _ _ hi]
  simp
theorem field_small {F : List (Ty.den tGateField)} (hF : small 1048576 (.slice tGateField) F) {i : Nat} (hi : i < List.length F) : small 1048576 tGateField (fieldAt F i):=by
  unfold fieldAt
  rw [listGetD_lt _ _ _ hi]
  exact hF.2 _ (List.getElem_mem hi)
theorem shape_small {L : List (Ty.den tGateShape)} (hL : small 1048576 (.slice tGateShape) L) {i : Nat} (hi : i < List.length L) : small 1048576 tGateShape (List.getD L i (Ty.zero tGateShape)):=by
  rw [listGetD_lt _ _ _ hi]
  exact hL.2 _ (List.getElem_mem hi)
theorem kinds_small {L : List (Ty.den tGateShape)} (hL : small 1048576 (.slice tGateShape) L) : small 1048576 (.slice .str) (kindsD L):=by
  refine ⟨by have:=hL.1; simpa [kindsD] using this,fun x hx=>?_⟩
  simp only [kindsD,List.mem_map] at hx
  obtain ⟨y,hy,rfl⟩:=hx
  exact (hL.2 y hy).1
include hn in
theorem specShapes_ok (L : List (Ty.den tGateShape)) (hL : small 1048576 (.slice tGateShape) L) : spec_GateShapesOk.f n (L,()) = some (shapesD L,()):=by
  have hn' : 18446744073709551616 ≤ n:=hn
  have hl : List.length L ≤ 1048576:=hL.1
  unfold spec_GateShapesOk.f shapesD
  by_cases c0 : (List.length L : Int) > 6
  · rw [decide_eq_true c0]; rfl
  rw [decide_eq_false c0]
  simp only [Bool.false_eq_true,if_false,Bool.not_false,Bool.true_and]
  refine (runL_any (len:=List.length L) (fun i=>(L,(i : Int),())) (fun i=>badWord (kindsD L) i || badFields (kindsD L) (fieldsAt L i)) (some (false,())) (some (true,())) ?_ ?_ (by omega)).trans ?_
  · intro next i hi
    have hs:=shape_small hL hi
    have hF : small 1048576 (.slice tGateField) (fieldsAt L i):=hs.2.1
    have hFl : List.length (fieldsAt L i) ≤ 1048576:=hF.1
    have hnm : spec_l1NameOk.f n ((List.getD L i (Ty.zero tGateShape)).1,()) = some (nameOkD (wordAt (kindsD L) i),()):=by
      rw [kind_at hi]
      exact specName_ok hn _ hs.1
    simp only [spec_GateShapesOk.B4,lt_dec hi,in_dec hi,if_true,Int.toNat_natCast,hnm,Option.bind_some]
    have hcond : (!((!(!nameOkD (wordAt (kindsD L) i))) && (decide ((i : Int) > (0 : Int)))) || (decide (0 ≤ (IntKind.i64.wrap ((i : Int) - (1 : Int))) ∧ (IntKind.i64.wrap ((i : Int) - (1 : Int))) < (List.length L : Int)))) = true:=by
      by_cases h0 : 0 < i
      · have e2 : decide (0 ≤ ((i - 1 : Nat) : Int) ∧ ((i - 1 : Nat) : Int) < (List.length L : Int)) = true:=decide_eq_true (by omega)
        rw [pred_wrap' h0 (by omega),e2,Bool.or_true]
      · rw [decide_eq_false (show ¬ ((i : Int) > 0) by omega),Bool.and_false]; rfl
    have hbad : ((!nameOkD (wordAt (kindsD L) i)) || ((decide ((i : Int) > (0 : Int))) && (!slt (List.getD L (Int.toNat (IntKind.i64.wrap ((i : Int) - (1 : Int)))) (Ty.zero tGateShape)).1 (List.getD L i (Ty.zero tGateShape)).1))) = badWord (kindsD L) i:=by
      unfold badWord
      by_cases h0 : 0 < i
      · rw [pred_wrap' h0 (by omega),Int.toNat_natCast,← kind_at hi,← kind_at (show i - 1 < List.length L by omega),decide_eq_true h0,decide_eq_true (show (i : Int) > 0 by omega)]
      · rw [decide_eq_false h0,decide_eq_false (show ¬ ((i : Int) > 0) by omega),Bool.false_and,Bool.false_and]
    rw [hcond,hbad]
    simp only [if_true]
    have hrest : ∀ (A : Option (Tup [.bool])),(if (badWord (kindsD L) i || decide ((List.length (fieldsAt L i) : Int) > (6 : Int))) = true then some (false,()) else (if (List.range (List.length (fieldsAt L i))).any (badFieldS (kindsD L) (fieldsAt L i)) = true then some (false,()) else A)) = (if (badWord (kindsD L) i || badFields (kindsD L) (fieldsAt L i)) = true then some (false,()) else A):=by
      intro A
      unfold badFields
      cases badWord (kindsD L) i <;> cases decide ((List.length (fieldsAt L i) : Int) > (6 : Int)) <;> cases (List.range (List.length (fieldsAt L i))).any (badFieldS (kindsD L) (fieldsAt L i)) <;> rfl
    rw [← hrest]
    refine ite_else ?_
    refine (runL_any (len:=List.length (fieldsAt L i)) (fun k=>(L,(i : Int),((List.getD L i (Ty.zero tGateShape)).1,fieldsAt L i,()),(k : Int),())) (badFieldS (kindsD L) (fieldsAt L i)) (some (false,())) (next (L,((i + 1 : Nat) : Int),())) ?_ ?_ (by omega)).trans rfl
    · intro next' k hk
      have hfs:=field_small hF hk
      have hfo : spec_l1FieldOk.f n (L,List.getD (fieldsAt L i) k (Ty.zero tGateField),()) = some (fieldD (kindsD L) (fieldAt (fieldsAt L i) k),()):=specField_ok hn L hL _ hfs
      simp only [spec_GateShapesOk.B10,lt_dec hk,in_dec hk,if_true,Int.toNat_natCast,hfo,Option.bind_some]
      have hrest2 : ∀ (A : Option (Tup [.bool])),(if (!fieldD (kindsD L) (fieldAt (fieldsAt L i) k)) = true then some (false,()) else (if dupF (fieldsAt L i) k = true then some (false,()) else A)) = (if badFieldS (kindsD L) (fieldsAt L i) k = true then some (false,()) else A):=by
        intro A
        unfold badFieldS
        cases fieldD (kindsD L) (fieldAt (fieldsAt L i) k) <;> cases dupF (fieldsAt L i) k <;> rfl
      rw [← hrest2]
      refine ite_else ?_
      refine (runL_any (len:=k) (fun k2=>(L,(i : Int),((List.getD L i (Ty.zero tGateShape)).1,fieldsAt L i,()),(k : Int),(k2 : Int),())) (fun k2=>seq (nameAt (fieldsAt L i) k2) (nameAt (fieldsAt L i) k)) (some (false,())) (next' (L,(i : Int),((List.getD L i (Ty.zero tGateShape)).1,fieldsAt L i,()),((k + 1 : Nat) : Int),())) ?_ ?_ (by omega)).trans rfl
      · intro next'' k2 hk2
        simp only [spec_GateShapesOk.B15,lt_dec hk2,in_dec (show k2 < List.length (fieldsAt L i) by omega),in_dec hk,Bool.or_true,if_true,Int.toNat_natCast,wrap_next (show k2 < List.length (fieldsAt L i) by omega) hFl]
        rfl
      · intro next''
        simp only [spec_GateShapesOk.B15,lt_dec',Bool.false_eq_true,if_false,wrap_next hk hFl]
    · intro next'
      simp only [spec_GateShapesOk.B10,lt_dec',Bool.false_eq_true,if_false,wrap_next hi hl]
  · intro next
    simp only [spec_GateShapesOk.B4,lt_dec',Bool.false_eq_true,if_false]
  · rw [any_or]
    have e : List.length (kindsD L) = List.length L:=by simp [kindsD]
    unfold ascD
    rw [e]
    cases (List.range (List.length L)).any (badWord (kindsD L)) <;> cases (List.range (List.length L)).any (fun i=>badFields (kindsD L) (fieldsAt L i)) <;> rfl
include hn in
theorem implField_ok (K : List ByteArray) (hK : small 1048576 (.slice .str) K) (f : Ty.den tGateField) (hf : small 1048576 tGateField f) {R : Type} (A C : Option R) :
    ((impl_sortOf.f n f ()).bind fun y2 =>
        (if (!(!y2.2.2.1)) = true then (if (decide (y2.2.1 = 0)) = true then ((impl_numberField_clean.f n ((y2.1,()),())).bind fun r=>some r.1) else (if (decide ((y2.2.1 - 1) = 0)) = true then ((impl_wordField_clean.f n ((y2.1,()),())).bind fun r=>some r.1) else (if (decide (((y2.2.1 - 1) - 1) = 0)) = true then ((impl_textField_clean.f n ((y2.1,()),())).bind fun r=>some r.1) else (if (decide ((((y2.2.1 - 1) - 1) - 1) = 0)) = true then ((impl_linkField_clean.f n ((y2.1,()),())).bind fun r=>some r.1) else none)))) else some false).bind fun y3 =>
        (if (!((!y2.2.2.1) || (!y3))) = true then (if (decide (y2.2.1 = 0)) = true then ((impl_numberField_sound.f n ((y2.1,()),K,())).bind fun r=>some r.1) else (if (decide ((y2.2.1 - 1) = 0)) = true then ((impl_wordField_sound.f n ((y2.1,()),K,())).bind fun r=>some r.1) else (if (decide (((y2.2.1 - 1) - 1) = 0)) = true then ((impl_textField_sound.f n ((y2.1,()),K,())).bind fun r=>some r.1) else (if (decide ((((y2.2.1 - 1) - 1) - 1) = 0)) = true then ((impl_linkField_sound.f n ((y2.1,()),K,())).bind fun r=>some r.1) else none)))) else some false).bind fun y4 =>
        if (((!y2.2.2.1) || (!y3)) || (!y4)) = true then A else C) =
      if (bareD f.2.1 f.2.2.1 f.2.2.2.1 (List.length f.2.2.2.2.1 : Int) f.2.2.2.2.2.1 f.2.2.2.2.2.2.1 f.2.2.2.2.2.2.2.2.2.2.1 && soundD f.2.1 f.2.2.1 f.2.2.2.1 (List.length f.2.2.2.2.1 : Int) (ascD f.2.2.2.2.1) (hasW K f.2.2.2.2.2.1) f.2.2.2.2.2.2.1 f.2.2.2.2.2.2.2.1 f.2.2.2.2.2.2.2.2.2.1 f.2.2.2.2.2.2.2.2.2.2.1) = true then C else A:=by
  have hn' : 18446744073709551616 ≤ n:=hn
  have hKl : List.length K ≤ 1048576:=hK.1
  have hwg : ByteArray.size f.2.2.2.2.2.2.2.2.2.2.1 ≤ 1048576:=hf.2.2.2.2.2.2.2.2.2.2.1
  have c1 : impl_numberField_clean.f n ((f,()),()) = some (bareD 1 f.2.2.1 f.2.2.2.1 (List.length f.2.2.2.2.1 : Int) f.2.2.2.2.2.1 f.2.2.2.2.2.2.1 f.2.2.2.2.2.2.2.2.2.2.1,()):=by
    rw [bare_1]; rfl
  have c2 : impl_wordField_clean.f n ((f,()),()) = some (bareD 2 f.2.2.1 f.2.2.2.1 (List.length f.2.2.2.2.1 : Int) f.2.2.2.2.2.1 f.2.2.2.2.2.2.1 f.2.2.2.2.2.2.2.2.2.2.1,()):=by
    rw [bare_2]; rfl
  have c3 : impl_textField_clean.f n ((f,()),()) = some (bareD 3 f.2.2.1 f.2.2.2.1 (List.length f.2.2.2.2.1 : Int) f.2.2.2.2.2.1 f.2.2.2.2.2.2.1 f.2.2.2.2.2.2.2.2.2.2.1,()):=by
    rw [bare_3]; rfl
  have c4 : impl_linkField_clean.f n ((f,()),()) = some (bareD 4 f.2.2.1 f.2.2.2.1 (List.length f.2.2.2.2.1 : Int) f.2.2.2.2.2.1 f.2.2.2.2.2.2.1 f.2.2.2.2.2.2.2.2.2.2.1,()):=by
    rw [bare_4]; rfl
  have k1 : ∀ (c e m : Bool),((if (c && (!e)) = true then some (m,()) else some (tzero [.bool])).bind fun y : Tup [.bool] => some (c && (e || y.1),())) = (some (c && (e || m),()) : Option (Tup [.bool])):=by
    intro c e m; cases c <;> cases e <;> cases m <;> rfl
  have k2 : ∀ (c m : Bool),((if c = true then some (m,()) else some (tzero [.bool])).bind fun y : Tup [.bool] => some (c && y.1,())) = (some (c && m,()) : Option (Tup [.bool])):=by
    intro c m; cases c <;> cases m <;> rfl
  have s1 : impl_numberField_sound.f n ((f,()),K,()) = some (soundD 1 f.2.2.1 f.2.2.2.1 (List.length f.2.2.2.2.1 : Int) (ascD f.2.2.2.2.1) (hasW K f.2.2.2.2.2.1) f.2.2.2.2.2.2.1 f.2.2.2.2.2.2.2.1 f.2.2.2.2.2.2.2.2.2.1 f.2.2.2.2.2.2.2.2.2.2.1,()):=by
    unfold impl_numberField_sound.f
    have hweighs : impl_isName.f n (f.2.2.2.2.2.2.2.2.2.2.1,()) = some (nameOkD f.2.2.2.2.2.2.2.2.2.2.1,()):=implName_ok hn _ hwg
    simp only [hweighs]
    exact k1 _ _ _
  have s2 : impl_wordField_sound.f n ((f,()),K,()) = some (soundD 2 f.2.2.1 f.2.2.2.1 (List.length f.2.2.2.2.1 : Int) (ascD f.2.2.2.2.1) (hasW K f.2.2.2.2.2.1) f.2.2.2.2.2.2.1 f.2.2.2.2.2.2.2.1 f.2.2.2.2.2.2.2.2.2.1 f.2.2.2.2.2.2.2.2.2.2.1,()):=by
    unfold impl_wordField_sound.f
    have hasc : impl_ascendingNames.f n (f.2.2.2.2.1,()) = some (ascD f.2.2.2.2.1,()):=implAsc_ok hn _ hf.2.2.2.2.1
    simp only [hasc]
    exact k2 _ _
  have s3 : impl_textField_sound.f n ((f,()),K,()) = some (soundD 3 f.2.2.1 f.2.2.2.1 (List.length f.2.2.2.2.1 : Int) (ascD f.2.2.2.2.1) (hasW K f.2.2.2.2.2.1) f.2.2.2.2.2.2.1 f.2.2.2.2.2.2.2.1 f.2.2.2.2.2.2.2.2.2.1 f.2.2.2.2.2.2.2.2.2.2.1,()):=rfl
  have s4 : impl_linkField_sound.f n ((f,()),K,()) = some (soundD 4 f.2.2.1 f.2.2.2.1 (List.length f.2.2.2.2.1 : Int) (ascD f.2.2.2.2.1) (hasW K f.2.2.2.2.2.1) f.2.2.2.2.2.2.1 f.2.2.2.2.2.2.2.1 f.2.2.2.2.2.2.2.2.2.1 f.2.2.2.2.2.2.2.2.2.2.1,()):=by
    unfold impl_linkField_sound.f
    refine (runL_fold (len:=List.length K) (fun i (b : Bool)=>((f,()),b,K,(List.length K : Int),(i : Int),())) (fun _ _=>True) (fun i b=>b || seq (wordAt K i) f.2.2.2.2.2.1) (fun b=>some (((((b && (decide (f.2.2.2.2.2.2.1 ≥ (1 : Int)))) && (decide (f.2.2.2.2.2.2.1 ≤ (3 : Int)))) && (seq f.2.2.2.2.2.2.2.2.2.1 (⟨#[]⟩ : ByteArray))) && (!((f.2.2.2.2.2.2.1 == (2 : Int)) && f.2.2.2.2.2.2.2.1))),())) ?_ ?_ (by omega) (a:=false) trivial).trans ?_
    · intro next i b hi _
      refine ⟨trivial,?_⟩
      simp only [impl_linkField_sound.B3,lt_dec hi,in_dec hi,if_true,Int.toNat_natCast,wrap_next hi hKl]
      rfl
    · intro next b _
      simp only [impl_linkField_sound.B3,lt_dec',Bool.false_eq_true,if_false]
    · have hfold : ∀ (k : Nat) (b : Bool),(List.range k).foldl (fun b i=>b || seq (wordAt K i) f.2.2.2.2.2.1) b = (b || (List.range k).any (fun i=>seq (wordAt K i) f.2.2.2.2.2.1)):=by
        intro k b
        induction k with
        | zero=>simp
        | succ k ih =>
          rw [List.range_succ,List.foldl_append,ih,List.any_append]
          simp [Bool.or_assoc]
      have hany : (List.range (List.length K)).any (fun i=>seq (wordAt K i) f.2.2.2.2.2.1) = hasW K f.2.2.2.2.2.1:=by
        unfold hasW
        rw [List.findIdx?_isSome]
        rw [Bool.eq_iff_iff,List.any_eq_true,List.any_eq_true]
        constructor
        · rintro ⟨i,hi,h⟩
          have hi:=List.mem_range.1 hi
          refine ⟨K[i],List.getElem_mem hi,?_⟩
          unfold wordAt at h
          rw [listGetD_lt _ _ _ hi] at h
          exact h
        · rintro ⟨x,hx,h⟩
          obtain ⟨i,hi,rfl⟩:=List.getElem_of_mem hx
          refine ⟨i,List.mem_range.2 hi,?_⟩
          unfold wordAt
          rw [listGetD_lt _ _ _ hi]
          exact h
      rw [hfold,Bool.false_or,hany]
      have key : ∀ (h a b e r m : Bool),(some (((((h && a) && b) && e) && (!(r && m))),()) : Option (Tup [.bool])) = some (((h && (a && b)) && e) && ((!r) || !m),()):=by
        intro h a b e r m; cases h <;> cases a <;> cases b <;> cases e <;> cases r <;> cases m <;> rfl
      exact key _ _ _ _ _ _
  have gen : ∀ (b s : Bool),(((some b : Option Bool).bind fun y3=>(if (!((!true) || (!y3))) = true then some s else some false).bind fun y4=>if (((!true) || (!y3)) || (!y4)) = true then A else C)) = if (b && s) = true then C else A:=by
    intro b s; cases b <;> cases s <;> rfl
  obtain ⟨k,hk⟩ : ∃ k : Int,f.2.1 = k:=⟨_,rfl⟩
  unfold impl_sortOf.f
  simp only [Option.bind_some,c1,c2,c3,c4,s1,s2,s3,s4]
  rw [hk]
  by_cases e1 : k = 1
  · subst e1; exact gen _ _
  by_cases e2 : k = 2
  · subst e2; exact gen _ _
  by_cases e3 : k = 3
  · subst e3; exact gen _ _
  by_cases e4 : k = 4
  · subst e4; exact gen _ _
  · have h1 : (k == (1 : Int)) = false:=by simpa using e1
    have h2 : (k == (2 : Int)) = false:=by simpa using e2
    have h3 : (k == (3 : Int)) = false:=by simpa using e3
    have h4 : (k == (4 : Int)) = false:=by simpa using e4
    have hp : place4 k = -1:=by simp [place4,e1,e2,e3,e4]
    have hsd : ∀ lo hi words asc has role must dflt weighs,soundD k lo hi words asc has role must dflt weighs = false:=by
      intros; unfold soundD; simp only [h1,h2,h3,h4,Bool.false_eq_true,if_false]
    rw [hsd,Bool.and_false,hp]
    rfl
end

section
variable {n : Nat} (hn : Big n)
theorem seq_comm (a b : ByteArray) : seq a b = seq b a:=by
  unfold seq
  rw [Bool.eq_iff_iff,beq_iff_eq,beq_iff_eq]
  exact eq_comm
def cntN (F : List (Ty.den tGateField)) (i : Nat) (s : ByteArray) : Nat:=(List.range i).countP (fun k=>seq s (nameAt F k))
theorem cntN_succ (F : List (Ty.den tGateField)) (i : Nat) (s : ByteArray) : cntN F (i + 1) s = cntN F i s + if seq s (nameAt F i) = true then 1 else 0:=by
  unfold cntN
  rw [List.range_succ,List.countP_append]
  simp only [List.countP_cons,List.countP_nil,Nat.zero_add]
theorem cntN_le (F : List (Ty.den tGateField)) (i : Nat) (s : ByteArray) : cntN F i s ≤ i:=by
  unfold cntN
  exact Nat.le_trans List.countP_le_length (by simp)
theorem dup_cnt (F : List (Ty.den tGateField)) (i : Nat) : decide (((cntN F i (nameAt F i) : Nat) : Int) + 1 > 1) = dupF F i:=by
  unfold dupF cntN
  cases h : (List.range i).any (fun k=>seq (nameAt F k) (nameAt F i)) with
  | true =>
    obtain ⟨k,hk,hs⟩:=List.any_eq_true.1 h
    have : 0 < (List.range i).countP (fun k=>seq (nameAt F i) (nameAt F k)):=List.countP_pos_iff.2 ⟨k,hk,by rw [seq_comm]; exact hs⟩
    exact decide_eq_true (by omega)
  | false =>
    have : (List.range i).countP (fun k=>seq (nameAt F i) (nameAt F k)) = 0:=by
      rw [List.countP_eq_zero]
      intro k hk
      have:=List.any_eq_false.1 h k hk
      rw [seq_comm]
      exact this
    rw [this]
    rfl
include hn in
theorem implShape1_ok (K : List ByteArray) (hK : small 1048576 (.slice .str) K) (s : Ty.den tGateShape) (hs : small 1048576 tGateShape s) : impl_shapeOk.f n (s,K,()) = some (!badFields K s.2.1,()):=by
  have hn' : 18446744073709551616 ≤ n:=hn
  obtain ⟨kd,F,⟨⟩⟩:=s
  have hF : small 1048576 (.slice tGateField) F:=hs.2.1
  have hFl : List.length F ≤ 1048576:=hF.1
  unfold impl_shapeOk.f badFields
  by_cases c0 : (List.length F : Int) > 6
  · have c0' : decide ((List.length F : Int) > 6) = true:=decide_eq_true c0
    simp only [c0',if_true,Bool.true_or,Bool.not_true]
  have c0' : decide ((List.length F : Int) > 6) = false:=decide_eq_false c0
  simp only [c0',Bool.false_eq_true,if_false,Bool.false_or]
  refine (runL_search (len:=List.length F) (A:=List (ByteArray × Int)) (fun i a=>(K,a,F,(List.length F : Int),(i : Int),())) (fun i a=>∀ s,mget .str a s = ((cntN F i s : Nat) : Int)) (badFieldS K F) (fun _=>some (false,())) (some (true,())) ?_ ?_ (by omega) (a:=[]) ?_).trans ?_
  · intro next i a hi ha
    have hfs:=field_small hF hi
    have hd : ByteArray.size (fieldAt F i).2.2.2.2.2.2.2.2.2.1 ≤ 1048576:=hfs.2.2.2.2.2.2.2.2.2.1
    have hnm : impl_isName.f n ((fieldAt F i).1,()) = some (nameOkD (nameAt F i),()):=implName_ok hn _ hfs.1
    have hfit : impl_GateFits.f n (fieldAt F i,(fieldAt F i).2.2.2.2.2.2.2.2.2.1,()) = some (fitsD (fieldAt F i) (fieldAt F i).2.2.2.2.2.2.2.2.2.1,()):=implFits_ok hn _ _ hfs hd
    have hc:=cntN_le F i (nameAt F i)
    have hw1 : IntKind.i64.wrap (mget .str a (nameAt F i) + 1) = ((cntN F i (nameAt F i) : Nat) : Int) + 1:=by
      rw [ha,wrap_eq (by omega) (by omega)]
    have hstep : ∀ cs : Conts (Tup [.bool]) impl_shapeOk.l5.outs,impl_shapeOk.B5 n next cs (K,a,F,(List.length F : Int),(i : Int),()) = if badFieldS K F i = true then cs.1 (false,()) else next (K,mput .str a (nameAt F i) (((cntN F i (nameAt F i) : Nat) : Int) + 1),F,(List.length F : Int),((i + 1 : Nat) : Int),()):=by
      intro cs
      have hg : mget .str (mput .str a (nameAt F i) (((cntN F i (nameAt F i) : Nat) : Int) + 1)) (nameAt F i) = ((cntN F i (nameAt F i) : Nat) : Int) + 1:=by
        rw [mget_mput,if_pos (eqK_refl (t:=.str) (by rfl))]
      simp only [impl_shapeOk.B5,lt_dec hi,in_dec hi,if_true,Int.toNat_natCast,wrap_next hi hFl]
      show ((impl_isName.f n ((fieldAt F i).1,())).bind fun y1=>if ((!y1.1) || (decide ((mget .str (mput .str a (nameAt F i) (IntKind.i64.wrap ((mget .str a (nameAt F i)) + (1 : Int)))) (nameAt F i)) > (1 : Int)))) = true then cs.1 (false,()) else _) = _
      rw [hnm,Option.bind_some,hw1,hg,dup_cnt]
      refine (ite_else (implField_ok hn K hK (fieldAt F i) hfs _ _)).trans ?_
      have key : ∀ (N D Bd Sd E Fi : Bool) (X Y : Option (Tup [.bool])),
          (if ((!N) || D) = true then X else if (Bd && Sd) = true then ((if (!E) = true then some (Fi,()) else some (tzero [.bool])).bind fun y5 : Tup [.bool] => if ((!E) && (!y5.1)) = true then X else Y) else X)
            = if (!(((N && Bd) && (E || Fi)) && Sd) || D) = true then X else Y:=by
        intro N D Bd Sd E Fi X Y
        cases N <;> cases D <;> cases Bd <;> cases Sd <;> cases E <;> cases Fi <;> rfl
      have hkey:=fun Bd Sd=>key (nameOkD (nameAt F i)) (dupF F i) Bd Sd (emp (fieldAt F i).2.2.2.2.2.2.2.2.2.1) (fitsD (fieldAt F i) (fieldAt F i).2.2.2.2.2.2.2.2.2.1) (cs.1 (false,())) (next (K,mput .str a (nameAt F i) (((cntN F i (nameAt F i) : Nat) : Int) + 1),F,(List.length F : Int),((i + 1 : Nat) : Int),()))
      refine Eq.trans ?_ (hkey (bareD (fieldAt F i).2.1 (fieldAt F i).2.2.1 (fieldAt F i).2.2.2.1 (List.length (fieldAt F i).2.2.2.2.1 : Int) (fieldAt F i).2.2.2.2.2.1 (fieldAt F i).2.2.2.2.2.2.1 (fieldAt F i).2.2.2.2.2.2.2.2.2.2.1)
        (soundD (fieldAt F i).2.1 (fieldAt F i).2.2.1 (fieldAt F i).2.2.2.1 (List.length (fieldAt F i).2.2.2.2.1 : Int) (ascD (fieldAt F i).2.2.2.2.1) (hasW K (fieldAt F i).2.2.2.2.2.1) (fieldAt F i).2.2.2.2.2.2.1 (fieldAt F i).2.2.2.2.2.2.2.1 (fieldAt F i).2.2.2.2.2.2.2.2.2.1 (fieldAt F i).2.2.2.2.2.2.2.2.2.2.1))
      rw [← hfit,← hw1]
      rfl
    by_cases hb : badFieldS K F i = true
    · rw [if_pos hb,hstep,if_pos hb]
    · rw [if_neg hb]
      refine ⟨mput .str a (nameAt F i) (((cntN F i (nameAt F i) : Nat) : Int) + 1),fun t=>?_,?_⟩
      · rw [mget_mput,cntN_succ]
        have e0 : eqK .str t (nameAt F i) = seq t (nameAt F i):=rfl
        rw [e0]
        by_cases hst : seq t (nameAt F i) = true
        · rw [if_pos hst,if_pos hst,(eqK_eq (t:=.str) hst)]
          rfl
        · rw [if_neg hst,if_neg hst,ha t]
          rfl
      · rw [hstep,if_neg hb]
  · intro next a _
    simp only [impl_shapeOk.B5,lt_dec',Bool.false_eq_true,if_false]
  · intro s; rfl
  · have hfind : ∀ (p : Nat → Bool) (l : List Nat) (x y : Option (Tup [.bool])),(l.find? p).elim x (fun _=>y) = if l.any p = true then y else x:=by
      intro p l x y
      induction l with
      | nil=>rfl
      | cons z l ih =>
        rw [List.find?_cons,List.any_cons]
        cases p z with
        | true=>rfl
        | false=>rw [Bool.false_or]; exact ih
    rw [hfind]
    cases (List.range (List.length F)).any (badFieldS K F) <;> rfl
include hn in
theorem implShapes_ok (L : List (Ty.den tGateShape)) (hL : small 1048576 (.slice tGateShape) L) : impl_GateShapesOk.f n (L,()) = some (shapesD L,()):=by
  have hn' : 18446744073709551616 ≤ n:=hn
  have hl : List.length L ≤ 1048576:=hL.1
  have hK:=kinds_small hL
  unfold impl_GateShapesOk.f shapesD
  by_cases c0 : (List.length L : Int) > 6
  · rw [decide_eq_true c0]; rfl
  rw [decide_eq_false c0]
  have c1 : decide (0 ≤ (0 : Int) ∧ (0 : Int) ≤ (List.length L : Int) ∧ (List.length L : Int) * (16 : Int) ≤ 140737488355328) = true:=decide_eq_true (by omega)
  rw [c1]
  simp only [Bool.false_eq_true,if_false,if_true,Bool.not_false,Bool.true_and]
  refine (runL_fold (len:=List.length L) (fun i (o : List ByteArray)=>(L,o,L,(List.length L : Int),(i : Int),())) (fun i o=>o = (List.range i).map (fun j=>(List.getD L j (Ty.zero tGateShape)).1)) (fun i o=>o ++ [(List.getD L i (Ty.zero tGateShape)).1]) (fun o=>some (ascD (kindsD L) && !(List.range (List.length L)).any (fun i=>badFields (kindsD L) (fieldsAt L i)),())) ?_ ?_ (by omega) (a:=[]) rfl).trans rfl
  · intro next i o hi ho
    have hlen : o.length = i:=by rw [ho]; simp
    refine ⟨by rw [ho,List.range_succ,List.map_append]; rfl,?_⟩
    have happ : appBound (List.length o) (List.length [(List.getD L i (Ty.zero tGateShape)).1]) 16 = true:=by
      unfold appBound
      rw [Nat.ble_eq,hlen]
      simp
      omega
    simp only [impl_GateShapesOk.B5,lt_dec hi,in_dec hi,if_true,Int.toNat_natCast,wrap_next hi hl]
    rw [if_pos happ]
  · intro next o ho
    have hk : o = kindsD L:=by
      rw [ho]
      unfold kindsD
      apply List.ext_getElem
      · simp
      · intro j h1 h2
        simp only [List.getElem_map,List.getElem_range]
        rw [listGetD_lt _ _ _ (by simpa using h1)]
    subst hk
    simp only [impl_GateShapesOk.B5,lt_dec',Bool.false_eq_true,if_false,implAsc_ok hn (kindsD L) hK,Option.bind_some]
    cases hasc : ascD (kindsD L) with
    | false=>rfl
    | true =>
      simp only [Bool.not_true,Bool.false_eq_true,if_false,Bool.true_and]
      refine (runL_any (len:=List.length L) (fun i=>(kindsD L,L,(List.length L : Int),(i : Int),())) (fun i=>badFields (kindsD L) (fieldsAt L i)) (some (false,())) (some (true,())) ?_ ?_ (by omega)).trans (by cases (List.range (List.length L)).any (fun i=>badFields (kindsD L) (fieldsAt L i)) <;> rfl)
      · intro next' i hi
        have h1 : impl_shapeOk.f n (List.getD L i (Ty.zero tGateShape),kindsD L,()) = some (!badFields (kindsD L) (fieldsAt L i),()):=implShape1_ok hn (kindsD L) hK _ (shape_small hL hi)
        simp only [impl_GateShapesOk.B12,lt_dec hi,in_dec hi,if_true,Int.toNat_natCast,h1,Option.bind_some,wrap_next hi hl,Bool.not_not]
      · intro next'
        simp only [impl_GateShapesOk.B12,lt_dec',Bool.false_eq_true,if_false]
end

section
variable {V : List ByteArray} {R : ByteArray → List ByteArray}
def Topo (R : ByteArray → List ByteArray) (l : List ByteArray) : Prop:=∀ l1 x l2,l = l1 ++ x :: l2 → ∀ y ∈ R x,y ∈ l1
def Ranked (V : List ByteArray) (R : ByteArray → List ByteArray) (rk : ByteArray → Nat) : Prop:=∀ x ∈ V,∀ y ∈ R x,rk y < rk x
theorem Topo.nil : Topo R [] := fun l1 x l2 h=>by
  have:=congrArg List.length h
  simp at this
theorem Topo.snoc {l : List ByteArray} {x : ByteArray} (h : Topo R l) (hx : ∀ y ∈ R x,y ∈ l) : Topo R (l ++ [x]):=by
  intro l1 z l2 he y hy
  rcases List.eq_nil_or_concat l2 with rfl | ⟨l3,w,rfl⟩
  · have h1 : l = l1 ∧ [x] = [z] := List.append_inj' he rfl
    obtain ⟨rfl,h2⟩:=h1
    cases h2
    exact hx y hy
  · have h1 : l ++ [x] = (l1 ++ z :: l3) ++ [w] := by rw [he]; simp
    obtain ⟨h2,_⟩:=List.append_inj' h1 rfl
    exact h l1 z l3 h2 y hy
theorem seq_refl' (x : ByteArray) : seq x x = true:=eqK_refl (t:=.str) rfl
theorem seq_eq' {x y : ByteArray} (h : seq x y = true) : x = y:=eqK_eq (t:=.str) h
theorem seq_iff {x y : ByteArray} : seq x y = true ↔ x = y:=⟨seq_eq',fun h=>h ▸ seq_refl' x⟩
def rankIn (l : List ByteArray) (y : ByteArray) : Nat:=l.findIdx (fun z=>seq z y)
theorem Topo.rank {l : List ByteArray} (h : Topo R l) (hV : ∀ x ∈ V,x ∈ l) : Ranked V R (rankIn l):=by
  intro x hx y hy
  obtain ⟨l1,l2,rfl,hn⟩:=List.eq_append_cons_of_mem (hV x hx)
  have h1:=h l1 x l2 rfl y hy
  unfold rankIn
  have e1 : l1.findIdx (fun z=>seq z y) < l1.length:=List.findIdx_lt_length_of_exists ⟨y,h1,seq_refl' y⟩
  have e2 : ¬ l1.findIdx (fun z=>seq z x) < l1.length:=fun hlt=>by
    have:=List.findIdx_getElem (w:=hlt)
    exact hn (seq_eq' this ▸ List.getElem_mem hlt)
  rw [List.findIdx_append,List.findIdx_append,if_pos e1,if_neg e2]
  omega
theorem nodup_len : ∀ {l V : List ByteArray},l.Nodup → (∀ x ∈ l,x ∈ V) → l.length ≤ V.length
  | [],_,_,_=>Nat.zero_le _
  | a :: l,V,hn,hs=>by
    rw [List.nodup_cons] at hn
    obtain ⟨V1,V2,rfl,_⟩:=List.eq_append_cons_of_mem (hs a (by simp))
    have h1:=nodup_len (V:=V1 ++ V2) hn.2 (fun x hx=>by
      have h2:=hs x (List.mem_cons_of_mem _ hx)
      simp only [List.mem_append,List.mem_cons] at h2 ⊢
      rcases h2 with h2 | rfl | h2
      · exact .inl h2
      · exact absurd hx hn.1
      · exact .inr h2)
    simp only [List.length_append,List.length_cons] at h1 ⊢
    omega
theorem mget_put (m : List (ByteArray × Int)) (x y : ByteArray) (n : Int) : mget .str (mput .str m x n) y = if y = x then n else mget .str m y:=by
  have h:=mget_mput (k:=.str) m x y n
  have e : eqK .str y x = seq y x:=rfl
  rw [e] at h
  by_cases hx : y = x
  · rw [if_pos hx]; rw [if_pos (seq_iff.2 hx)] at h; exact h
  · rw [if_neg hx]; rw [if_neg (fun hs=>hx (seq_iff.1 hs))] at h; exact h
def unv (V : List ByteArray) (m : List (ByteArray × Int)) : Nat:=V.countP (fun x=>mget .str m x == 0)
structure Wst (V : List ByteArray) (R : ByteArray → List ByteArray) (m : List (ByteArray × Int)) (l : List ByteArray) : Prop where
  st : ∀ x,mget .str m x = 0 ∨ mget .str m x = 1 ∨ mget .str m x = 2
  dn : ∀ x,mget .str m x = 2 ↔ x ∈ l
  nd : l.Nodup
  sub : ∀ x ∈ l,x ∈ V
  topo : Topo R l
structure Wok (V : List ByteArray) (R : ByteArray → List ByteArray) (m m' : List (ByteArray × Int)) (l' : List ByteArray) : Prop where
  w : Wst V R m' l'
  ac : ∀ y,mget .str m' y = 1 ↔ mget .str m y = 1
  un : unv V m' ≤ unv V m
  up : ∀ y,mget .str m y = 2 → mget .str m' y = 2
theorem Wok.trans {m m1 m2 : List (ByteArray × Int)} {l1 l2 : List ByteArray} (h : Wok V R m m1 l1) (k : Wok V R m1 m2 l2) : Wok V R m m2 l2 :=
  ⟨k.w,fun y=>(k.ac y).trans (h.ac y),Nat.le_trans k.un h.un,fun y hy=>k.up y (h.up y hy)⟩
theorem countP_le {p q : ByteArray → Bool} {l : List ByteArray} (h : ∀ x ∈ l,p x = true → q x = true) : l.countP p ≤ l.countP q:=List.countP_mono_left h
theorem countP_lt {p q : ByteArray → Bool} : ∀ {l : List ByteArray},(∀ x ∈ l,p x = true → q x = true) → ∀ {z : ByteArray},z ∈ l → p z = false → q z = true → l.countP p + 1 ≤ l.countP q
  | a :: l,h,z,hz,hp,hq=>by
    have hm : l.countP p ≤ l.countP q:=countP_le (fun x hx=>h x (List.mem_cons_of_mem _ hx))
    rcases List.mem_cons.1 hz with rfl | hz
    · rw [List.countP_cons_of_neg (by simp [hp]),List.countP_cons_of_pos hq]
      omega
    · have ih:=countP_lt (fun x hx=>h x (List.mem_cons_of_mem _ hx)) hz hp hq
      by_cases ha : p a = true
      · rw [List.countP_cons_of_pos ha,List.countP_cons_of_pos (h a (by simp) ha)]
        omega
      · rw [List.countP_cons_of_neg ha]
        by_cases hb : q a = true
        · rw [List.countP_cons_of_pos hb]; omega
        · rw [List.countP_cons_of_neg hb]; omega
variable {rd : ByteArray → Option (List ByteArray)}
def GoOk (V : List ByteArray) (R : ByteArray → List ByteArray) (ys : List ByteArray) (m : List (ByteArray × Int)) (r : Bool × RowS) : Prop :=
  (r.1 = true → Wok V R m r.2.1 r.2.2 ∧ ∀ y ∈ ys,mget .str r.2.1 y = 2) ∧ (r.1 = false → ∀ rk,Ranked V R rk → ¬ ∀ a,mget .str m a = 1 → ∀ y ∈ ys,rk y < rk a)
theorem go_step {wk : ByteArray → RowS → Option (Bool × RowS)} {k : Nat} (hwk : ∀ x m l,x ∈ V → Wst V R m l → unv V m < k → ∃ r,wk x (m,l) = some r ∧ GoOk V R [x] m r) :
    ∀ (ys : List ByteArray) (m : List (ByteArray × Int)) (l : List ByteArray),(∀ y ∈ ys,y ∈ V) → Wst V R m l → unv V m < k → ∃ r,goP wk ys (m,l) = some r ∧ GoOk V R ys m r
  | [],m,l,_,hw,_=>⟨(true,(m,l)),rfl,fun _=>⟨⟨hw,fun _=>Iff.rfl,Nat.le_refl _,fun _ h=>h⟩,fun y hy=>by cases hy⟩,fun h=>by cases h⟩
  | y :: ys,m,l,hV,hw,hk=>by
    obtain ⟨r1,h1,hg1⟩:=hwk y m l (hV y (by simp)) hw hk
    simp only [goP,h1,Option.bind_some]
    rcases Bool.eq_false_or_eq_true r1.1 with c | c
    · rw [if_pos c]
      obtain ⟨hok,hall⟩:=hg1.1 c
      obtain ⟨r2,h2,hg2⟩:=go_step hwk ys r1.2.1 r1.2.2 (fun z hz=>hV z (List.mem_cons_of_mem _ hz)) hok.w (Nat.lt_of_le_of_lt hok.un hk)
      refine ⟨r2,h2,fun hr=>?_,fun hr rk hrk hac=>?_⟩
      · obtain ⟨hok2,hall2⟩:=hg2.1 hr
        refine ⟨hok.trans hok2,fun z hz=>?_⟩
        rcases List.mem_cons.1 hz with rfl | hz
        · exact hok2.up z (hall z (by simp))
        · exact hall2 z hz
      · exact hg2.2 hr rk hrk (fun a ha z hz=>hac a ((hok.ac a).1 ha) z (List.mem_cons_of_mem _ hz))
    · rw [if_neg (by simp [c])]
      exact ⟨_,rfl,fun hr=>(by cases hr),fun _ rk hrk hac=>hg1.2 c rk hrk (fun a ha z hz=>hac a ha z (by simp at hz; simp [hz]))⟩
theorem walk_step (hrd : ∀ x ∈ V,rd x = some (R x)) (hR : ∀ x ∈ V,∀ y ∈ R x,y ∈ V) (hRl : ∀ x ∈ V,(R x).length ≤ 1000) (hVl : V.length ≤ 1000) :
    ∀ (k : Nat) (x : ByteArray) (m : List (ByteArray × Int)) (l : List ByteArray),x ∈ V → Wst V R m l → unv V m < k → ∃ r,walkP rd k x (m,l) = some r ∧ GoOk V R [x] m r:=by
  intro k
  induction k with
  | zero=>intro x m l _ _ h; omega
  | succ k ih =>
    intro x m l hx hw hk
    simp only [walkP]
    by_cases h1 : mget .str m x = 1
    · rw [if_pos (by simpa using h1)]
      refine ⟨_,rfl,fun hr=>(by cases hr),fun _ rk hrk hac=>?_⟩
      exact Nat.lt_irrefl _ (hac x h1 x (by simp))
    rw [if_neg (by simpa using h1)]
    by_cases h2 : mget .str m x = 2
    · rw [if_pos (by simpa using h2)]
      exact ⟨_,rfl,fun _=>⟨⟨hw,fun _=>Iff.rfl,Nat.le_refl _,fun _ h=>h⟩,fun y hy=>by simp at hy; rw [hy]; exact h2⟩,fun hr=>by cases hr⟩
    rw [if_neg (by simpa using h2)]
    have h0 : mget .str m x = 0:=by
      rcases hw.st x with h | h | h
      · exact h
      · exact absurd h h1
      · exact absurd h h2
    have hble : Nat.ble (R x).length 4611686018427387904 = true:=by
      rw [Nat.ble_eq]
      have:=hRl x hx
      omega
    rw [hrd x hx,Option.bind_some,if_pos hble]
    have hw1 : Wst V R (mput .str m x 1) l:=by
      refine ⟨fun y=>?_,fun y=>?_,hw.nd,hw.sub,hw.topo⟩
      · rw [mget_put]
        by_cases e : y = x
        · rw [if_pos e]; simp
        · rw [if_neg e]; exact hw.st y
      · rw [mget_put]
        by_cases e : y = x
        · rw [if_pos e,e,← hw.dn x,h0]; simp
        · rw [if_neg e]; exact hw.dn y
    have hun : unv V (mput .str m x 1) + 1 ≤ unv V m:=by
      refine countP_lt (fun y _ hy=>?_) hx ?_ ?_
      · rw [mget_put] at hy
        by_cases e : y = x
        · rw [if_pos e] at hy; cases hy
        · rw [if_neg e] at hy; exact hy
      · rw [mget_put,if_pos rfl]; rfl
      · simp [h0]
    obtain ⟨r,hr,hg⟩:=go_step ih (R x) (mput .str m x 1) l (hR x hx) hw1 (by omega)
    have hr' : goP (walkP rd k) (R x) (mput .str m x 1,l) = some r:=hr
    rw [hr',Option.bind_some]
    rcases Bool.eq_false_or_eq_true r.1 with c | c
    · rw [if_pos c]
      obtain ⟨hok,hall⟩:=hg.1 c
      have hlen : r.2.2.length ≤ V.length:=by
        exact nodup_len hok.w.nd hok.w.sub
      have hbd : appBound r.2.2.length 1 16 = true:=by
        unfold appBound
        rw [Nat.ble_eq]
        omega
      rw [if_pos hbd]
      have hx1 : mget .str r.2.1 x = 1:=(hok.ac x).2 (by rw [mget_put,if_pos rfl])
      refine ⟨_,rfl,fun _=>⟨⟨⟨fun y=>?_,fun y=>?_,?_,?_,?_⟩,fun y=>?_,?_,fun y hy=>?_⟩,fun y hy=>?_⟩,fun hr=>by cases hr⟩
      · rw [mget_put]
        by_cases e : y = x
        · rw [if_pos e]; simp
        · rw [if_neg e]; exact hok.w.st y
      · rw [mget_put,List.mem_append]
        by_cases e : y = x
        · rw [if_pos e]; simp [e]
        · rw [if_neg e,hok.w.dn y]; simp [e]
      · rw [List.nodup_append]
        refine ⟨hok.w.nd,by simp,fun a ha b hb e=>?_⟩
        simp at hb
        rw [e,hb] at ha
        have:=(hok.w.dn x).2 ha
        rw [hx1] at this
        cases this
      · intro y hy
        rcases List.mem_append.1 hy with h | h
        · exact hok.w.sub y h
        · simp at h; rw [h]; exact hx
      · exact hok.w.topo.snoc (fun y hy=>(hok.w.dn y).1 (hall y hy))
      · rw [mget_put]
        by_cases e : y = x
        · rw [if_pos e,e,h0]; simp
        · rw [if_neg e,hok.ac y,mget_put,if_neg e]
      · refine Nat.le_trans (countP_le (fun y _ hy=>?_)) (Nat.le_trans hok.un (by omega))
        rw [mget_put] at hy
        by_cases e : y = x
        · rw [if_pos e] at hy; cases hy
        · rw [if_neg e] at hy; exact hy
      · rw [mget_put]
        by_cases e : y = x
        · rw [e,h0] at hy; cases hy
        · rw [if_neg e]
          exact hok.up y (by rw [mget_put,if_neg e]; exact hy)
      · simp at hy
        rw [hy,mget_put,if_pos rfl]
    · rw [if_neg (by simp [c])]
      refine ⟨_,rfl,fun hr=>(by cases hr),fun _ rk hrk hac=>hg.2 c rk hrk (fun a ha y hy=>?_)⟩
      rw [mget_put] at ha
      by_cases e : a = x
      · rw [e]; exact hrk x hx y hy
      · rw [if_neg e] at ha
        exact Nat.lt_trans (hrk x hx y hy) (hac a ha x (by simp))
theorem row_comes (hrd : ∀ x ∈ V,rd x = some (R x)) (hR : ∀ x ∈ V,∀ y ∈ R x,y ∈ V) (hRl : ∀ x ∈ V,(R x).length ≤ 1000) (hVl : V.length ≤ 1000) {n : Nat} (hn : 1000 < n) :
    ∃ r : Bool × RowS,goP (walkP rd n) V ([],[]) = some r ∧ (r.1 = true → r.2.2.Nodup ∧ (∀ x,x ∈ r.2.2 ↔ x ∈ V) ∧ Topo R r.2.2) ∧ (r.1 = false → ∀ rk,¬ Ranked V R rk):=by
  have hw : Wst V R [] [] := ⟨fun _=>.inl rfl,fun x=>⟨fun h=>(by cases h),fun h=>(by cases h)⟩,List.nodup_nil,fun x h=>(by cases h),Topo.nil⟩
  have hu : unv V [] < n:=Nat.lt_of_le_of_lt List.countP_le_length (by omega)
  obtain ⟨r,hr,hg⟩:=go_step (walk_step hrd hR hRl hVl n) V [] [] (fun _ h=>h) hw hu
  refine ⟨r,hr,fun c=>?_,fun c rk hrk=>hg.2 c rk hrk (fun a ha=>by cases ha)⟩
  obtain ⟨hok,hall⟩:=hg.1 c
  exact ⟨hok.w.nd,fun x=>⟨hok.w.sub x,fun hx=>(hok.w.dn x).1 (hall x hx)⟩,hok.w.topo⟩
end

section
variable {V : List ByteArray} {R : ByteArray → List ByteArray}
theorem hasW_iff {l : List ByteArray} {s : ByteArray} : hasW l s = true ↔ s ∈ l:=by
  unfold hasW
  cases hf : l.findIdx? (fun w=>seq w s) with
  | none =>
    have h1:=List.findIdx?_eq_none_iff.1 hf
    simp only [Option.isSome_none,Bool.false_eq_true,false_iff]
    intro hm
    have:=h1 s hm
    rw [seq_refl' s] at this
    cases this
  | some i =>
    simp only [Option.isSome_some,true_iff]
    obtain ⟨hi,h1,_⟩:=List.findIdx?_eq_some_iff_getElem.1 hf
    exact seq_eq' h1 ▸ List.getElem_mem hi
def growK (V : List ByteArray) (R : ByteArray → List ByteArray) (row : List ByteArray) : List ByteArray :=
  match V.find? (fun f=>!hasW row f && (R f).all (hasW row)) with
  | none=>row
  | some f=>row ++ [f]
def rowK (V : List ByteArray) (R : ByteArray → List ByteArray) : Nat → List ByteArray
  | 0=>[]
  | k + 1=>growK V R (rowK V R k)
structure RowOk (V : List ByteArray) (R : ByteArray → List ByteArray) (l : List ByteArray) : Prop where
  nd : l.Nodup
  sub : ∀ x ∈ l,x ∈ V
  topo : Topo R l
theorem growK_ok {row : List ByteArray} (h : RowOk V R row) : RowOk V R (growK V R row) ∧ (growK V R row).length ≤ row.length + 1:=by
  unfold growK
  split
  · exact ⟨h,by omega⟩
  · rename_i f hf
    have hp:=List.find?_some hf
    have hm:=List.mem_of_find?_eq_some hf
    simp only [Bool.and_eq_true,Bool.not_eq_true',List.all_eq_true] at hp
    refine ⟨⟨?_,fun x hx=>?_,h.topo.snoc (fun y hy=>hasW_iff.1 (hp.2 y hy))⟩,by simp⟩
    · rw [List.nodup_append]
      refine ⟨h.nd,by simp,fun a ha b hb e=>?_⟩
      simp at hb
      rw [e,hb] at ha
      rw [hasW_iff.2 ha] at hp
      cases hp.1
    · rcases List.mem_append.1 hx with hx | hx
      · exact h.sub x hx
      · simp at hx; rw [hx]; exact hm
theorem rowK_ok (V : List ByteArray) (R : ByteArray → List ByteArray) : ∀ k,RowOk V R (rowK V R k) ∧ (rowK V R k).length ≤ k
  | 0=>⟨⟨List.nodup_nil,fun x h=>(by cases h),Topo.nil⟩,Nat.le_refl _⟩
  | k + 1=>by
    obtain ⟨h1,h2⟩:=rowK_ok V R k
    obtain ⟨h3,h4⟩:=growK_ok h1
    exact ⟨h3,by show (growK V R (rowK V R k)).length ≤ k + 1; omega⟩
theorem exists_least {p : ByteArray → Prop} (rk : ByteArray → Nat) : ∀ (n : Nat) (x : ByteArray),rk x ≤ n → p x → ∃ z,p z ∧ ∀ y,p y → rk z ≤ rk y
  | 0,x,hn,hx=>⟨x,hx,fun y _=>by omega⟩
  | n + 1,x,hn,hx=>by
    by_cases h : ∃ y,p y ∧ rk y < rk x
    · obtain ⟨y,hy,hlt⟩:=h
      exact exists_least rk n y (by omega) hy
    · exact ⟨x,hx,fun y hy=>by
        rcases Nat.lt_or_ge (rk y) (rk x) with h' | h'
        · exact absurd ⟨y,hy,h'⟩ h
        · exact h'⟩
theorem rowK_len {rk : ByteArray → Nat} (hrk : Ranked V R rk) (hR : ∀ x ∈ V,∀ y ∈ R x,y ∈ V) (hV : V.Nodup) : ∀ k,k ≤ V.length → (rowK V R k).length = k
  | 0,_=>rfl
  | k + 1,hk=>by
    have ih:=rowK_len hrk hR hV k (by omega)
    obtain ⟨hok,_⟩:=rowK_ok V R k
    have hex : ∃ x,x ∈ V ∧ x ∉ rowK V R k:=by
      by_cases h : ∃ x,x ∈ V ∧ x ∉ rowK V R k
      · exact h
      · have:=nodup_len hV (fun x hx=>by
          by_cases h2 : x ∈ rowK V R k
          · exact h2
          · exact absurd ⟨x,hx,h2⟩ h)
        omega
    obtain ⟨x,hx⟩:=hex
    obtain ⟨z,hz,hmin⟩:=exists_least (p:=fun x=>x ∈ V ∧ x ∉ rowK V R k) rk (rk x) x (Nat.le_refl _) hx
    have hready : (!hasW (rowK V R k) z && (R z).all (hasW (rowK V R k))) = true:=by
      rw [Bool.and_eq_true,Bool.not_eq_true',List.all_eq_true]
      refine ⟨?_,fun y hy=>?_⟩
      · rcases Bool.eq_false_or_eq_true (hasW (rowK V R k) z) with h | h
        · exact absurd (hasW_iff.1 h) hz.2
        · exact h
      · rw [hasW_iff]
        by_cases h : y ∈ rowK V R k
        · exact h
        · have h1:=hmin y ⟨hR z hz.1 y hy,h⟩
          have h2:=hrk z hz.1 y hy
          omega
    show (growK V R (rowK V R k)).length = k + 1
    unfold growK
    split
    · rename_i hn
      have:=List.find?_eq_none.1 hn z hz.1
      exact absurd hready this
    · rw [List.length_append,ih]
      rfl
theorem whole_mem {l : List ByteArray} (hn : l.Nodup) (hs : ∀ x ∈ l,x ∈ V) (hl : l.length = V.length) {x : ByteArray} (hx : x ∈ V) : x ∈ l:=by
  by_cases h : x ∈ l
  · exact h
  · have h1 : (x :: l).Nodup:=List.nodup_cons.2 ⟨h,hn⟩
    have h2:=nodup_len h1 (fun y hy=>by
      rcases List.mem_cons.1 hy with rfl | hy
      · exact hx
      · exact hs y hy)
    simp only [List.length_cons] at h2
    omega
theorem rowK_whole (hR : ∀ x ∈ V,∀ y ∈ R x,y ∈ V) (hV : V.Nodup) : (rowK V R V.length).length = V.length ↔ ∃ rk,Ranked V R rk:=by
  constructor
  · intro h
    obtain ⟨hok,_⟩:=rowK_ok V R V.length
    refine ⟨_,hok.topo.rank (fun x hx=>?_)⟩
    exact whole_mem hok.nd hok.sub h hx
  · rintro ⟨rk,hrk⟩
    exact rowK_len hrk hR hV _ (Nat.le_refl _)
end

section
variable {n : Nat} (hn : Big n)
abbrev mendAt (ms : List (Ty.den tGateMend)) (i : Nat) : Ty.den tGateMend:=List.getD ms i (Ty.zero tGateMend)
def optS (s : ByteArray) : List ByteArray:=if emp s = true then [] else [s]
def readsM (kind x : ByteArray) (m : Ty.den tGateMend) : List ByteArray:=if (seq m.1 kind && seq m.2.1 x) = true then optS m.2.2.1 ++ optS m.2.2.2.2.2.1 else []
def readsD (ms : List (Ty.den tGateMend)) (kind x : ByteArray) : List ByteArray:=ms.flatMap (readsM kind x)
def namesF (F : List (Ty.den tGateField)) : List ByteArray:=F.map (fun f : Ty.den tGateField=>f.1)
theorem names_at {F : List (Ty.den tGateField)} {i : Nat} (hi : i < List.length F) : (namesF F)[i]? = some (nameAt F i):=by
  unfold namesF nameAt fieldAt
  rw [listGetD_lt _ _ _ hi,List.getElem?_map,List.getElem?_eq_getElem hi]
  rfl
theorem names_len (F : List (Ty.den tGateField)) : (namesF F).length = List.length F:=by unfold namesF; rw [List.length_map]
theorem reads_len (kind x : ByteArray) (m : Ty.den tGateMend) : (readsM kind x m).length ≤ 2:=by
  unfold readsM optS
  split
  · split <;> split <;> simp
  · simp
theorem flat_len (f : Ty.den tGateMend → List ByteArray) (hf : ∀ m,(f m).length ≤ 2) : ∀ ms : List (Ty.den tGateMend),(ms.flatMap f).length ≤ 2 * ms.length
  | [] => Nat.le_refl _
  | m :: ms=>by
    rw [List.flatMap_cons,List.length_append,List.length_cons]
    have:=flat_len f hf ms
    have:=hf m
    omega
theorem fold_flat {X : Type} (l : List X) (z : X) (c : X → List ByteArray) (a : List ByteArray) : ∀ k,k ≤ l.length → (List.range k).foldl (fun a i=>a ++ c (l.getD i z)) a = a ++ (l.take k).flatMap c
  | 0,_=>by simp
  | k + 1,hk=>by
    rw [List.range_succ,List.foldl_append,fold_flat l z c a k (by omega)]
    simp only [List.foldl_cons,List.foldl_nil]
    rw [listGetD_lt _ _ _ (by omega),List.take_add_one,List.flatMap_append,List.getElem?_eq_getElem (by omega)]
    simp
theorem appBM {m k c : Nat} (h : (m + k) * c ≤ 140737488355328) : appBound m k c = true:=by
  unfold appBound
  rw [Nat.ble_eq]
  exact h
include hn in
theorem implReads_ok (ms : List (Ty.den tGateMend)) (hms : ms.length ≤ 1048576) (s : Ty.den tGateShape) (x : ByteArray) : impl_rowOf_1.f n (x,some ms,some s,()) = some (readsD ms s.1 x,()):=by
  have hn' : 18446744073709551616 ≤ n:=hn
  unfold impl_rowOf_1.f
  refine (if_pos rfl).trans ?_
  refine (runL_fold (len:=List.length ms) (fun i (a : List ByteArray)=>(x,some s,a,ms,(List.length ms : Int),(i : Int),())) (fun i a=>List.length a ≤ 2 * i) (fun i a=>a ++ readsM s.1 x (mendAt ms i)) (fun a=>some (a,())) ?_ ?_ (by omega) (a:=[]) (by simp)).trans ?_
  · intro next i a hi ha
    have hr:=reads_len s.1 x (mendAt ms i)
    refine ⟨by rw [List.length_append]; omega,?_⟩
    simp only [impl_rowOf_1.B3,lt_dec hi,in_dec hi,Option.isSome_some,if_true,Int.toNat_natCast,wrap_next hi hms,Option.getD_some]
    have e : List.getD ms i (Ty.zero tGateMend) = mendAt ms i:=rfl
    simp only [e]
    have hb1 : ∀ z : ByteArray,appBound (List.length a) (List.length [z]) 16 = true:=fun z=>appBM (by simp only [List.length_cons,List.length_nil]; omega)
    have hb2 : ∀ z u : ByteArray,appBound (List.length (a ++ [z])) (List.length [u]) 16 = true:=fun z u=>appBM (by simp only [List.length_append,List.length_cons,List.length_nil]; omega)
    unfold readsM optS
    rcases Bool.eq_false_or_eq_true (seq (mendAt ms i).1 s.1) with c1 | c1 <;> rcases Bool.eq_false_or_eq_true (seq (mendAt ms i).2.1 x) with c2 | c2 <;> rcases Bool.eq_false_or_eq_true (seq (mendAt ms i).2.2.1 (⟨#[]⟩ : ByteArray)) with c3 | c3 <;> rcases Bool.eq_false_or_eq_true (seq (mendAt ms i).2.2.2.2.2.1 (⟨#[]⟩ : ByteArray)) with c4 | c4 <;>
      simp only [c1,c2,c3,c4,hb1,hb2,emp,Bool.not_true,Bool.not_false,Bool.or_true,Bool.or_false,Bool.true_or,Bool.false_or,Bool.and_true,Bool.and_false,Bool.and_self,Bool.or_self,if_true,Bool.false_eq_true,if_false,List.append_nil,List.nil_append,List.append_assoc,List.cons_append] <;> rfl
  · intro next a ha
    simp only [impl_rowOf_1.B3,lt_dec',Bool.false_eq_true,if_false]
  · have:=fold_flat ms (Ty.zero tGateMend) (readsM s.1 x) [] ms.length (Nat.le_refl _)
    rw [List.take_length,List.nil_append] at this
    unfold readsD
    rw [← this]
include hn in
theorem implRowOf_ok (ms : List (Ty.den tGateMend)) (hms : ms.length ≤ 1048576) (s : Ty.den tGateShape) (hs : List.length s.2.1 ≤ 1048576) : impl_rowOf.f n (s,ms,()) = (rowP n (fun x=>some (readsD ms s.1 x)) (namesF s.2.1)).bind fun y=>some (y.1,y.2.1,()):=by
  have hn' : 18446744073709551616 ≤ n:=hn
  unfold impl_rowOf.f
  have hrd : (fun u2 : ByteArray=>(impl_rowOf_1.f n (u2,(some ms),(some s),())).bind fun r=>some r.1) = fun x=>some (readsD ms s.1 x):=by
    funext u
    rw [implReads_ok hn ms hms s u]
    rfl
  refine (runL_fold (len:=List.length s.2.1) (fun i (a : List ByteArray)=>(s,ms,a,s.2.1,(List.length s.2.1 : Int),(i : Int),())) (fun i a=>List.length a ≤ i) (fun i a=>a ++ [nameAt s.2.1 i]) (fun a=>(rowP n (fun x=>some (readsD ms s.1 x)) a).bind fun y=>some (y.1,y.2.1,())) ?_ ?_ (by omega) (a:=[]) (by simp)).trans ?_
  · intro next i a hi ha
    refine ⟨by simp; omega,?_⟩
    have hb1 : ∀ z : ByteArray,appBound (List.length a) (List.length [z]) 16 = true:=fun z=>appBM (by simp only [List.length_cons,List.length_nil]; omega)
    simp only [impl_rowOf.B3,lt_dec hi,in_dec hi,if_true,Int.toNat_natCast,wrap_next hi hs]
    exact if_pos (hb1 _)
  · intro next a ha
    simp only [impl_rowOf.B3,lt_dec',Bool.false_eq_true,if_false]
    rw [hrd]
  · have:=fold_flat s.2.1 (Ty.zero tGateField) (fun f : Ty.den tGateField=>[f.1]) [] s.2.1.length (Nat.le_refl _)
    rw [List.take_length,List.nil_append] at this
    have e : (List.range (List.length s.2.1)).foldl (fun a i=>a ++ [nameAt s.2.1 i]) [] = namesF s.2.1:=by
      refine Eq.trans this ?_
      unfold namesF
      rw [List.flatMap_def,← List.flatMap_def]
      clear this hs
      generalize (s.2.1 : List (Ty.den tGateField)) = l
      induction l with
      | nil=>rfl
      | cons a l ih=>rw [List.flatMap_cons,ih]; rfl
    rw [e]
include hn in
theorem specReady_ok (ms : List (Ty.den tGateMend)) (hms : ms.length ≤ 1048576) (kind x : ByteArray) (row : List ByteArray) (hrow : row.length ≤ 1048576) : spec_l3Ready.f n (ms,kind,x,row,()) = some ((readsD ms kind x).all (hasW row),()):=by
  have hn' : 18446744073709551616 ≤ n:=hn
  unfold spec_l3Ready.f
  refine (runL_find (l:=ms) (fun i=>(ms,kind,x,row,(i : Int),())) (fun m=>!(readsM kind x m).all (hasW row)) (fun _=>some (false,())) (some (true,())) ?_ ?_ (by omega)).trans ?_
  · intro next i hi
    have e : List.getD ms i (Ty.zero tGateMend) = ms[i] := listGetD_lt _ _ _ hi
    simp only [spec_l3Ready.B2,lt_dec hi,in_dec hi,if_true,Int.toNat_natCast,wrap_next hi hms,e]
    have h1 : ∀ z : ByteArray,spec_l1Has.f n (row,z,()) = some (hasW row z,()):=fun z=>specHas_ok hn row hrow z
    unfold readsM optS
    rcases Bool.eq_false_or_eq_true (seq ms[i].1 kind) with c1 | c1 <;> rcases Bool.eq_false_or_eq_true (seq ms[i].2.1 x) with c2 | c2 <;> rcases Bool.eq_false_or_eq_true (seq ms[i].2.2.1 (⟨#[]⟩ : ByteArray)) with c3 | c3 <;> rcases Bool.eq_false_or_eq_true (seq ms[i].2.2.2.2.2.1 (⟨#[]⟩ : ByteArray)) with c4 | c4 <;>
      rcases Bool.eq_false_or_eq_true (hasW row ms[i].2.2.1) with c5 | c5 <;> rcases Bool.eq_false_or_eq_true (hasW row ms[i].2.2.2.2.2.1) with c6 | c6 <;>
      simp only [c1,c2,c3,c4,c5,c6,h1,emp,tzero,Option.bind_some,Bool.not_true,Bool.not_false,Bool.or_true,Bool.or_false,Bool.true_or,Bool.false_or,Bool.and_true,Bool.true_and,Bool.false_and,Bool.and_false,Bool.and_self,Bool.or_self,if_true,Bool.false_eq_true,if_false,List.append_nil,List.nil_append,List.cons_append,List.all_cons,List.all_nil,reduceIte] <;> rfl
  · intro next
    simp only [spec_l3Ready.B2,lt_dec',Bool.false_eq_true,if_false]
  · cases hf : ms.findIdx? (fun m=>!(readsM kind x m).all (hasW row)) with
    | none =>
      have h1:=List.findIdx?_eq_none_iff.1 hf
      have h2 : (readsD ms kind x).all (hasW row) = true:=by
        rw [List.all_eq_true]
        intro y hy
        obtain ⟨m,hm,hy⟩:=List.mem_flatMap.1 hy
        have h3:=h1 m hm
        rw [Bool.not_eq_false',List.all_eq_true] at h3
        exact h3 y hy
      rw [h2]
      rfl
    | some i =>
      obtain ⟨hi,h1,_⟩:=List.findIdx?_eq_some_iff_getElem.1 hf
      have h2 : (readsD ms kind x).all (hasW row) = false:=by
        rw [Bool.not_eq_true'] at h1
        rcases Bool.eq_false_or_eq_true ((readsD ms kind x).all (hasW row)) with h | h
        · rw [List.all_eq_true] at h
          have h3 : (readsM kind x ms[i]).all (hasW row) = true:=by
            rw [List.all_eq_true]
            exact fun y hy=>h y (List.mem_flatMap.2 ⟨ms[i],List.getElem_mem hi,hy⟩)
          rw [h1] at h3
          cases h3
        · exact h
      rw [h2]
      rfl
include hn in
theorem specRow_ok (ms : List (Ty.den tGateMend)) (hms : ms.length ≤ 1048576) (s : Ty.den tGateShape) (hs : List.length s.2.1 ≤ 1048576) : spec_l3Row.f n (s,ms,()) = some (rowK (namesF s.2.1) (readsD ms s.1) (List.length s.2.1),()):=by
  have hn' : 18446744073709551616 ≤ n:=hn
  unfold spec_l3Row.f
  refine (runL_fold (len:=List.length s.2.1) (fun i (a : List ByteArray)=>(ms,s,a,(i : Int),())) (fun i a=>List.length a ≤ i) (fun _ a=>growK (namesF s.2.1) (readsD ms s.1) a) (fun a=>some (a,())) ?_ ?_ (by omega) (a:=[]) (by simp)).trans ?_
  · intro next i a hi ha
    have hgl : List.length (growK (namesF s.2.1) (readsD ms s.1) a) ≤ List.length a + 1:=by
      unfold growK
      split <;> simp
    refine ⟨by omega,?_⟩
    simp only [spec_l3Row.B3,lt_dec hi,if_true]
    refine (runL_find (l:=(s.2.1 : List (Ty.den tGateField))) (fun j=>(ms,s,a,(i : Int),(j : Int),())) (fun f : Ty.den tGateField=>!hasW a f.1 && (readsD ms s.1 f.1).all (hasW a)) (fun j=>next (ms,s,a ++ [nameAt s.2.1 j],((i + 1 : Nat) : Int),())) (next (ms,s,a,((i + 1 : Nat) : Int),())) ?_ ?_ (by omega)).trans ?_
    · intro next2 j hj
      have e : (List.getD s.2.1 j (Ty.zero tGateField)) = s.2.1[j] := listGetD_lt _ _ _ hj
      have h1 : spec_l1Has.f n (a,(s.2.1[j]).1,()) = some (hasW a (s.2.1[j]).1,()):=specHas_ok hn a (by omega) _
      have h2 : spec_l3Ready.f n (ms,s.1,(s.2.1[j]).1,a,()) = some ((readsD ms s.1 (s.2.1[j]).1).all (hasW a),()):=specReady_ok hn ms hms _ _ _ (by omega)
      have hb1 : ∀ z : ByteArray,appBound (List.length a) (List.length [z]) 16 = true:=fun z=>appBM (by simp only [List.length_cons,List.length_nil]; omega)
      have en : nameAt s.2.1 j = (s.2.1[j]).1:=by unfold nameAt fieldAt; rw [e]
      simp only [spec_l3Row.B6,lt_dec hj,in_dec hj,if_true,Int.toNat_natCast,wrap_next hj hs,wrap_next hi hs,e,h1,h2,Option.bind_some,en]
      rcases Bool.eq_false_or_eq_true (hasW a (s.2.1[j]).1) with c1 | c1 <;> rcases Bool.eq_false_or_eq_true ((readsD ms s.1 (s.2.1[j]).1).all (hasW a)) with c2 | c2 <;>
        simp only [c1,c2,hb1,tzero,Option.bind_some,Bool.not_true,Bool.not_false,Bool.and_true,Bool.true_and,Bool.and_false,Bool.false_and,Bool.and_self,if_true,Bool.false_eq_true,if_false,reduceIte] <;> first | rfl | exact if_pos (hb1 _)
    · intro next2
      simp only [spec_l3Row.B6,lt_dec',Bool.false_eq_true,if_false,wrap_next hi hs]
    · have hfind : (namesF s.2.1).find? (fun f=>!hasW a f && (readsD ms s.1 f).all (hasW a)) = ((s.2.1 : List (Ty.den tGateField)).findIdx? (fun f : Ty.den tGateField=>!hasW a f.1 && (readsD ms s.1 f.1).all (hasW a))).map (nameAt s.2.1):=by
        unfold namesF
        rw [List.find?_map]
        cases hf : (s.2.1 : List (Ty.den tGateField)).findIdx? (fun f : Ty.den tGateField=>!hasW a f.1 && (readsD ms s.1 f.1).all (hasW a)) with
        | none =>
          have h1:=List.findIdx?_eq_none_iff.1 hf
          have h2 : (s.2.1 : List (Ty.den tGateField)).find? ((fun f=>!hasW a f && (readsD ms s.1 f).all (hasW a)) ∘ fun f : Ty.den tGateField=>f.1) = none:=by
            rw [List.find?_eq_none]
            intro f hm
            have:=h1 f hm
            simp only [Function.comp_apply,this]
            simp
          rw [h2]
          rfl
        | some j =>
          obtain ⟨hj,h1,h2⟩:=List.findIdx?_eq_some_iff_getElem.1 hf
          have h3 : (s.2.1 : List (Ty.den tGateField)).find? ((fun f=>!hasW a f && (readsD ms s.1 f).all (hasW a)) ∘ fun f : Ty.den tGateField=>f.1) = some s.2.1[j] := by
            rw [List.find?_eq_some_iff_getElem]
            exact ⟨h1,j,hj,rfl,fun k hk=>by rw [Bool.not_eq_true']; exact (Bool.not_eq_true _).mp (h2 k hk)⟩
          rw [h3]
          have en : nameAt s.2.1 j = (s.2.1[j]).1:=by unfold nameAt fieldAt; rw [listGetD_lt _ _ _ hj]
          simp [en]
      unfold growK
      rw [hfind]
      cases (s.2.1 : List (Ty.den tGateField)).findIdx? (fun f : Ty.den tGateField=>!hasW a f.1 && (readsD ms s.1 f.1).all (hasW a)) <;> rfl
  · intro next a ha
    simp only [spec_l3Row.B3,lt_dec',Bool.false_eq_true,if_false]
  · have e : ∀ k,(List.range k).foldl (fun a _=>growK (namesF s.2.1) (readsD ms s.1) a) [] = rowK (namesF s.2.1) (readsD ms s.1) k:=by
      intro k
      induction k with
      | zero=>rfl
      | succ k ih=>rw [List.range_succ,List.foldl_append,ih]; rfl
    rw [e]
end

section
variable {n : Nat} (hn : Big n)
def plainD (F : List (Ty.den tGateField)) (s : ByteArray) : Bool :=
  match F.findIdx? (fun f : Ty.den tGateField=>seq f.1 s) with
  | none=>false
  | some k=>(fieldAt F k).2.1 != (4 : Int)
def headD (F : List (Ty.den tGateField)) (m : Ty.den tGateMend) : Bool :=
  !(((!plainD F m.2.1) || ((!emp m.2.2.1) && (!plainD F m.2.2.1))) || ((!emp m.2.2.2.2.2.1) && (!plainD F m.2.2.2.2.2.1)))
def tailD (F : List (Ty.den tGateField)) (m : Ty.den tGateMend) : Bool :=
  if ((((seq m.2.2.1 m.2.1) || (seq m.2.2.2.2.2.1 m.2.1)) || ((emp m.2.2.1) && (!emp m.2.2.2.1))) || ((emp m.2.2.2.2.1) == (emp m.2.2.2.2.2.1))) = true then false
  else emp m.2.2.2.2.1 || (match F.findIdx? (fun f : Ty.den tGateField=>seq f.1 m.2.1) with | none=>false | some k=>fitsD (fieldAt F k) m.2.2.2.2.1)
def mendD (F : List (Ty.den tGateField)) (m : Ty.den tGateMend) : Bool:=headD F m && tailD F m
def mendOkD (L : List (Ty.den tGateShape)) (m : Ty.den tGateMend) : Bool :=
  match L.findIdx? (fun t : Ty.den tGateShape=>seq t.1 m.1) with
  | none=>false
  | some k=>mendD (fieldsAt L k) m
include hn in
theorem specField3_ok (F : List (Ty.den tGateField)) (hF : List.length F ≤ 1048576) (s : ByteArray) : spec_l3Field.f n (F,s,()) = some (fidx (fun f : Ty.den tGateField=>seq f.1 s) F,()):=by
  have hn' : 18446744073709551616 ≤ n:=hn
  unfold spec_l3Field.f
  refine (runL_find (l:=F) (fun i=>(F,s,(i : Int),())) (fun f : Ty.den tGateField=>seq f.1 s) (fun i=>some ((i : Int),())) (some (-1,())) ?_ ?_ (by omega)).trans ?_
  · intro next i hi
    simp only [spec_l3Field.B2,lt_dec hi,in_dec hi,wrap_next hi hF,if_true]
    rw [getD_nat _ _ _ hi]
  · intro next
    simp only [spec_l3Field.B2,lt_dec',Bool.false_eq_true,if_false]
  · simp only [fidx]
    cases F.findIdx? (fun f : Ty.den tGateField=>seq f.1 s) <;> rfl
include hn in
theorem implPlace_ok (F : List (Ty.den tGateField)) (hF : List.length F ≤ 1048576) (s : ByteArray) : impl_placeOf.f n (F,s,()) = some (fidx (fun f : Ty.den tGateField=>seq f.1 s) F,()):=by
  have hn' : 18446744073709551616 ≤ n:=hn
  unfold impl_placeOf.f
  refine (runL_find (l:=F) (fun i=>(s,F,(List.length F : Int),(i : Int),())) (fun f : Ty.den tGateField=>seq f.1 s) (fun i=>some ((i : Int),())) (some (-1,())) ?_ ?_ (by omega)).trans ?_
  · intro next i hi
    simp only [impl_placeOf.B2,lt_dec hi,in_dec hi,wrap_next hi hF,if_true]
    rw [getD_nat _ _ _ hi]
  · intro next
    simp only [impl_placeOf.B2,lt_dec',Bool.false_eq_true,if_false]
  · simp only [fidx]
    cases F.findIdx? (fun f : Ty.den tGateField=>seq f.1 s) <;> rfl
theorem ge_none : decide ((-1 : Int) ≥ 0) = false:=by decide
theorem ge_some (i : Nat) : decide ((i : Int) ≥ 0) = true:=decide_eq_true (by omega)
include hn in
theorem specPlain_ok (F : List (Ty.den tGateField)) (hF : List.length F ≤ 1048576) (s : ByteArray) : spec_l3Plain.f n (F,s,()) = some (plainD F s,()):=by
  unfold spec_l3Plain.f plainD
  have e : spec_l3Field.f n (F,s,()) = _:=specField3_ok hn F hF s
  simp only [e,Option.bind_some]
  cases hf : F.findIdx? (fun f : Ty.den tGateField=>seq f.1 s) with
  | none =>
    simp only [fidx_none hf,ge_none,Bool.not_false,Bool.true_or,if_true,Bool.false_and]
  | some k =>
    have hi:=findIdx?_lt hf
    simp only [fidx_some hf,ge_some,in_dec hi,Bool.or_true,if_true,Bool.true_and,Int.toNat_natCast]
    rfl
include hn in
theorem implPlain_ok (F : List (Ty.den tGateField)) (hF : List.length F ≤ 1048576) (s : ByteArray) : impl_mendOk_1.f n (s,some F,()) = some (plainD F s,()):=by
  unfold impl_mendOk_1.f plainD
  refine (if_pos rfl).trans ?_
  have e : impl_placeOf.f n (F,s,()) = _:=implPlace_ok hn F hF s
  simp only [Option.getD_some,Option.isSome_some,e,Option.bind_some,Bool.or_true,if_true]
  cases hf : F.findIdx? (fun f : Ty.den tGateField=>seq f.1 s) with
  | none =>
    simp only [fidx_none hf,ge_none,Bool.not_false,Bool.true_or,if_true,Bool.false_and]
  | some k =>
    have hi:=findIdx?_lt hf
    simp only [fidx_some hf,ge_some,in_dec hi,Bool.or_true,if_true,Bool.true_and,Int.toNat_natCast]
    rfl
theorem plain_some {F : List (Ty.den tGateField)} {s : ByteArray} (h : plainD F s = true) : ∃ k,F.findIdx? (fun f : Ty.den tGateField=>seq f.1 s) = some k:=by
  unfold plainD at h
  split at h
  · cases h
  · exact ⟨_,by assumption⟩
include hn in
theorem implMend_ok (F : List (Ty.den tGateField)) (hF : small 1048576 (.slice tGateField) F) (m : Ty.den tGateMend) (hm : small 1048576 tGateMend m) : impl_mendOk.f n (F,m,()) = some (mendD F m,()):=by
  have hl : List.length F ≤ 1048576:=hF.1
  unfold impl_mendOk.f mendD
  have e1 : ∀ s,impl_mendOk_1.f n (s,some F,()) = some (plainD F s,()):=implPlain_ok hn F hl
  simp only [e1,Option.bind_some]
  have hh : headD F m = !(((!plainD F m.2.1) || ((!emp m.2.2.1) && (!plainD F m.2.2.1))) || ((!emp m.2.2.2.2.2.1) && (!plainD F m.2.2.2.2.2.1))):=rfl
  have key : ∀ (a b c d e : Bool) (X : Option (Tup [.bool])) (T : Bool),(a = true → X = some (T,())) →
      ((if ((!(!a)) && (!b)) = true then some (c,()) else some (tzero [.bool])).bind fun y2 : Tup [.bool] =>
        (if ((!((!a) || ((!b) && (!y2.1)))) && (!d)) = true then some (e,()) else some (tzero [.bool])).bind fun y3 : Tup [.bool] =>
        if (((!a) || ((!b) && (!y2.1))) || ((!d) && (!y3.1))) = true then some (false,()) else X) = some ((!(((!a) || ((!b) && (!c))) || ((!d) && (!e)))) && T,()):=by
    intro a b c d e X T hX
    cases a with
    | false=>rfl
    | true=>rw [hX rfl]; cases b <;> cases c <;> cases d <;> cases e <;> cases T <;> rfl
  refine key (plainD F m.2.1) (emp m.2.2.1) (plainD F m.2.2.1) (emp m.2.2.2.2.2.1) (plainD F m.2.2.2.2.2.1) _ (tailD F m) (fun hp=>?_)
  unfold tailD
  rcases Bool.eq_false_or_eq_true ((((seq m.2.2.1 m.2.1) || (seq m.2.2.2.2.2.1 m.2.1)) || ((emp m.2.2.1) && (!emp m.2.2.2.1))) || ((emp m.2.2.2.2.1) == (emp m.2.2.2.2.2.1))) with c | c
  · rw [if_pos c,if_pos c]
  rw [if_neg (ne_true_of_eq_false c),if_neg (ne_true_of_eq_false c)]
  obtain ⟨k,hk⟩:=plain_some hp
  have hi:=findIdx?_lt hk
  have e2 : impl_placeOf.f n (F,m.2.1,()) = _:=implPlace_ok hn F hl m.2.1
  have e3 : impl_GateFits.f n (fieldAt F k,m.2.2.2.2.1,()) = some (fitsD (fieldAt F k) m.2.2.2.2.1,()):=implFits_ok hn _ _ (field_small hF hi) hm.2.2.2.2.1
  unfold fieldAt at e3
  simp only [e2,fidx_some hk,Option.bind_some]
  unfold fieldAt
  rcases Bool.eq_false_or_eq_true (emp m.2.2.2.2.1) with c1 | c1
  · have c1' : seq m.2.2.2.2.1 (⟨#[]⟩ : ByteArray) = true:=c1
    simp only [c1,c1',tzero,Bool.not_true,Bool.false_eq_true,if_false,Option.bind_some,Bool.not_false,Bool.true_or,if_true]
  · have c1' : seq m.2.2.2.2.1 (⟨#[]⟩ : ByteArray) = false:=c1
    simp only [c1,c1',Bool.not_false,if_true,Option.bind_some,in_dec hi,Bool.or_true,Int.toNat_natCast,e3,Bool.false_or]
    rw [hk]
include hn in
theorem specMend_ok (L : List (Ty.den tGateShape)) (hL : small 1048576 (.slice tGateShape) L) (m : Ty.den tGateMend) (hm : small 1048576 tGateMend m) : spec_l3MendOk.f n (L,m,()) = some (mendOkD L m,()):=by
  unfold spec_l3MendOk.f mendOkD
  have e0 : spec_l1Shape.f n (L,m.1,()) = _:=specShapeS_ok hn L hL.1 m.1
  simp only [e0,Option.bind_some]
  cases hf : L.findIdx? (fun t : Ty.den tGateShape=>seq t.1 m.1) with
  | none=>rw [fidx_none hf]; rfl
  | some j =>
    have hj:=findIdx?_lt hf
    have h0 : decide ((j : Int) < 0) = false:=by simp
    have hF : small 1048576 (.slice tGateField) (fieldsAt L j):=(shape_small hL hj).2.1
    have hl : List.length (fieldsAt L j) ≤ 1048576:=hF.1
    simp only [fidx_some hf,h0,Bool.false_eq_true,if_false,in_dec hj,if_true,Int.toNat_natCast]
    have ef : (List.getD L j (Ty.zero tGateShape)).2.1 = fieldsAt L j:=rfl
    simp only [ef]
    generalize fieldsAt L j = F at hF hl
    unfold mendD
    have e1 : ∀ s,spec_l3Plain.f n (F,s,()) = some (plainD F s,()):=specPlain_ok hn F hl
    simp only [e1,Option.bind_some]
    have hh : headD F m = !(((!plainD F m.2.1) || ((!emp m.2.2.1) && (!plainD F m.2.2.1))) || ((!emp m.2.2.2.2.2.1) && (!plainD F m.2.2.2.2.2.1))):=rfl
    have key : ∀ (a b c d e : Bool) (X : Option (Tup [.bool])) (T : Bool),(a = true → X = some (T,())) →
        ((if ((!(!a)) && (!b)) = true then some (c,()) else some (tzero [.bool])).bind fun y2 : Tup [.bool] =>
          (if ((!((!a) || ((!b) && (!y2.1)))) && (!d)) = true then some (e,()) else some (tzero [.bool])).bind fun y3 : Tup [.bool] =>
          if (((!a) || ((!b) && (!y2.1))) || ((!d) && (!y3.1))) = true then some (false,()) else X) = some ((!(((!a) || ((!b) && (!c))) || ((!d) && (!e)))) && T,()):=by
      intro a b c d e X T hX
      cases a with
      | false=>rfl
      | true=>rw [hX rfl]; cases b <;> cases c <;> cases d <;> cases e <;> cases T <;> rfl
    refine key (plainD F m.2.1) (emp m.2.2.1) (plainD F m.2.2.1) (emp m.2.2.2.2.2.1) (plainD F m.2.2.2.2.2.1) _ (tailD F m) (fun hp=>?_)
    unfold tailD
    rcases Bool.eq_false_or_eq_true ((((seq m.2.2.1 m.2.1) || (seq m.2.2.2.2.2.1 m.2.1)) || ((emp m.2.2.1) && (!emp m.2.2.2.1))) || ((emp m.2.2.2.2.1) == (emp m.2.2.2.2.2.1))) with c | c
    · rw [if_pos c,if_pos c]
    rw [if_neg (ne_true_of_eq_false c),if_neg (ne_true_of_eq_false c)]
    obtain ⟨k,hk⟩:=plain_some hp
    have hi:=findIdx?_lt hk
    have e2 : spec_l3Field.f n (F,m.2.1,()) = _:=specField3_ok hn F hl m.2.1
    have e3 : spec_GateFits.f n (fieldAt F k,m.2.2.2.2.1,()) = some (fitsD (fieldAt F k) m.2.2.2.2.1,()):=specFits_ok hn _ _ (field_small hF hi) hm.2.2.2.2.1
    unfold fieldAt at e3
    simp only [e2,fidx_some hk,Option.bind_some]
    unfold fieldAt
    rcases Bool.eq_false_or_eq_true (emp m.2.2.2.2.1) with c1 | c1
    · have c1' : seq m.2.2.2.2.1 (⟨#[]⟩ : ByteArray) = true:=c1
      simp only [c1,c1',tzero,Bool.not_true,Bool.false_eq_true,if_false,Option.bind_some,Bool.not_false,Bool.true_or,if_true]
    · have c1' : seq m.2.2.2.2.1 (⟨#[]⟩ : ByteArray) = false:=c1
      simp only [c1,c1',Bool.not_false,if_true,Option.bind_some,in_dec hi,Bool.or_true,Int.toNat_natCast,e3,Bool.false_or]
      rw [hk]
end

section
variable {n : Nat} (hn : Big n)
def wholeD (L : List (Ty.den tGateShape)) (ms : List (Ty.den tGateMend)) (j : Nat) : Bool :=
  decide ((rowK (namesF (fieldsAt L j)) (readsD ms (List.getD L j (Ty.zero tGateShape)).1) (List.length (fieldsAt L j))).length = List.length (fieldsAt L j))
def mendsD (L : List (Ty.den tGateShape)) (ms : List (Ty.den tGateMend)) : Bool :=
  !(!shapesD L || decide ((List.length ms : Int) > 12)) && (ms.all (mendOkD L) && (List.range (List.length L)).all (wholeD L ms))
theorem ne_dec (a b : Nat) : ((a : Int) != (b : Int)) = !decide (a = b):=by
  by_cases h : a = b
  · subst h; simp
  · rw [decide_eq_false h,bne_iff_ne.2 (by omega)]; rfl
theorem slt_irr (a : ByteArray) : slt a a = false:=bytesLess_irrefl _
theorem asc_lt {l : List ByteArray} (h : ascD l = true) {i : Nat} : ∀ d,i + d + 1 < l.length → slt (wordAt l i) (wordAt l (i + d + 1)) = true:=by
  have step : ∀ j,j + 1 < l.length → slt (wordAt l j) (wordAt l (j + 1)) = true:=by
    intro j hj
    unfold ascD at h
    rw [Bool.not_eq_true',List.any_eq_false] at h
    have h1:=h (j + 1) (List.mem_range.2 hj)
    unfold badWord at h1
    rw [Bool.not_eq_true,Bool.or_eq_false_iff,Bool.and_eq_false_iff] at h1
    rcases h1.2 with h2 | h2
    · simp at h2
    · simpa using h2
  intro d
  induction d with
  | zero=>exact fun hd=>step i hd
  | succ d ih=>exact fun hd=>slt_trans (ih (by omega)) (step (i + d + 1) hd)
theorem asc_ne {l : List ByteArray} (h : ascD l = true) {i j : Nat} (hi : i < l.length) (hj : j < l.length) (he : wordAt l i = wordAt l j) : i = j:=by
  rcases Nat.lt_trichotomy i j with h1 | h1 | h1
  · have:=asc_lt h (i:=i) (j - i - 1) (by omega)
    rw [show i + (j - i - 1) + 1 = j by omega,he,slt_irr] at this
    cases this
  · exact h1
  · have:=asc_lt h (i:=j) (i - j - 1) (by omega)
    rw [show j + (i - j - 1) + 1 = i by omega,he,slt_irr] at this
    cases this
theorem shapes_asc {L : List (Ty.den tGateShape)} (h : shapesD L = true) : ascD (kindsD L) = true ∧ ∀ j,j < List.length L → badFields (kindsD L) (fieldsAt L j) = false:=by
  unfold shapesD at h
  simp only [Bool.and_eq_true,Bool.not_eq_true',List.any_eq_false,List.mem_range] at h
  exact ⟨h.2.1,fun j hj=>(Bool.not_eq_true _).mp (h.2.2 j hj)⟩
theorem fields_ok {K : List ByteArray} {F : List (Ty.den tGateField)} (h : badFields K F = false) : List.length F ≤ 6 ∧ (namesF F).Nodup:=by
  unfold badFields at h
  rw [Bool.or_eq_false_iff,List.any_eq_false] at h
  refine ⟨by have:=of_decide_eq_false h.1; omega,?_⟩
  rw [List.nodup_iff_pairwise_ne,List.pairwise_iff_getElem]
  intro i j hi hj hij he
  have hj' : j < List.length F:=by rw [← names_len F]; exact hj
  have h1:=h.2 j (List.mem_range.2 hj')
  unfold badFieldS at h1
  rw [Bool.not_eq_true,Bool.or_eq_false_iff] at h1
  have h2:=h1.2
  unfold dupF at h2
  rw [List.any_eq_false] at h2
  refine h2 i (List.mem_range.2 hij) ?_
  have e1:=names_at (F:=F) (i:=i) (by omega)
  have e2:=names_at (F:=F) (i:=j) hj'
  rw [List.getElem?_eq_getElem hi] at e1
  rw [List.getElem?_eq_getElem hj] at e2
  have e1:=Option.some.inj e1
  have e2:=Option.some.inj e2
  rw [← e1,← e2,he]
  exact seq_refl' _
theorem plain_mem {F : List (Ty.den tGateField)} {s : ByteArray} (h : plainD F s = true) : s ∈ namesF F:=by
  obtain ⟨k,hk⟩:=plain_some h
  obtain ⟨hi,h1,_⟩:=List.findIdx?_eq_some_iff_getElem.1 hk
  have:=seq_eq' h1
  unfold namesF
  rw [List.mem_map]
  exact ⟨F[k],List.getElem_mem hi,this⟩
theorem kind_find {L : List (Ty.den tGateShape)} (h : shapesD L = true) {j : Nat} (hj : j < List.length L) {s : ByteArray} (hs : seq s (List.getD L j (Ty.zero tGateShape)).1 = true) : L.findIdx? (fun t : Ty.den tGateShape=>seq t.1 s) = some j:=by
  have hs:=seq_eq' hs
  rw [List.findIdx?_eq_some_iff_getElem]
  have e : ∀ k (hk : k < List.length L),L[k].1 = wordAt (kindsD L) k:=fun k hk=>by rw [kind_at hk,listGetD_lt _ _ _ hk]
  have ej : s = wordAt (kindsD L) j:=by rw [kind_at hj]; exact hs
  have hkl : (kindsD L).length = List.length L:=by unfold kindsD; rw [List.length_map]
  refine ⟨hj,?_,fun k hk hp=>?_⟩
  · rw [e j hj,← ej]
    exact seq_refl' s
  · have h1 : L[k].1 = s:=seq_eq' hp
    rw [e k (by omega),ej] at h1
    have:=asc_ne (shapes_asc h).1 (by rw [hkl]; omega) (by rw [hkl]; exact hj) h1
    omega
theorem reads_closed {L : List (Ty.den tGateShape)} {ms : List (Ty.den tGateMend)} (h : shapesD L = true) (hm : ms.all (mendOkD L) = true) {j : Nat} (hj : j < List.length L) (x y : ByteArray) (hy : y ∈ readsD ms (List.getD L j (Ty.zero tGateShape)).1 x) : y ∈ namesF (fieldsAt L j):=by
  obtain ⟨m,hmem,hy⟩:=List.mem_flatMap.1 hy
  have hok:=List.all_eq_true.1 hm m hmem
  unfold readsM at hy
  split at hy
  case isFalse=>cases hy
  rename_i hc
  rw [Bool.and_eq_true] at hc
  unfold mendOkD at hok
  rw [kind_find h hj hc.1] at hok
  simp only [mendD,Bool.and_eq_true] at hok
  have hh:=hok.1
  unfold headD at hh
  rw [Bool.not_eq_true',Bool.or_eq_false_iff,Bool.or_eq_false_iff] at hh
  obtain ⟨⟨_,h2⟩,h3⟩:=hh
  unfold optS at hy
  rcases List.mem_append.1 hy with hy | hy
  · split at hy
    · cases hy
    · rename_i he
      simp at hy
      have he : emp m.2.2.1 = false:=(Bool.not_eq_true _).mp he
      rw [he] at h2
      rw [hy]
      exact plain_mem (by simpa using h2)
  · split at hy
    · cases hy
    · rename_i he
      simp at hy
      have he : emp m.2.2.2.2.2.1 = false:=(Bool.not_eq_true _).mp he
      rw [he] at h3
      rw [hy]
      exact plain_mem (by simpa using h3)
include hn in
theorem rowOf_ok {L : List (Ty.den tGateShape)} {ms : List (Ty.den tGateMend)} (h : shapesD L = true) (hm : ms.all (mendOkD L) = true) (hl : ms.length ≤ 12) {j : Nat} (hj : j < List.length L) :
    ∃ l,impl_rowOf.f n (List.getD L j (Ty.zero tGateShape),ms,()) = some (l,wholeD L ms j,()) ∧ (wholeD L ms j = true → RowOk (namesF (fieldsAt L j)) (readsD ms (List.getD L j (Ty.zero tGateShape)).1) l ∧ ∀ x ∈ namesF (fieldsAt L j),x ∈ l):=by
  have hn' : 18446744073709551616 ≤ n:=hn
  obtain ⟨hF6,hnd⟩:=fields_ok ((shapes_asc h).2 j hj)
  have hVl : (namesF (fieldsAt L j)).length ≤ 1000:=by rw [names_len]; omega
  have hR:=fun x (_ : x ∈ namesF (fieldsAt L j)) y hy=>reads_closed h hm hj x y hy
  have hRl : ∀ x ∈ namesF (fieldsAt L j),(readsD ms (List.getD L j (Ty.zero tGateShape)).1 x).length ≤ 1000:=fun x _=>by
    have:=flat_len (readsM (List.getD L j (Ty.zero tGateShape)).1 x) (reads_len _ _) ms
    unfold readsD
    omega
  obtain ⟨r,hr,ht,hf⟩:=row_comes (rd:=fun x=>some (readsD ms (List.getD L j (Ty.zero tGateShape)).1 x)) (fun _ _=>rfl) hR hRl hVl (n:=n) (by omega)
  have e:=implRowOf_ok hn ms (by omega) (List.getD L j (Ty.zero tGateShape)) (by show List.length (fieldsAt L j) ≤ _; omega)
  have eF : (List.getD L j (Ty.zero tGateShape)).2.1 = fieldsAt L j:=rfl
  rw [eF] at e
  have hble : Nat.ble (namesF (fieldsAt L j)).length 4611686018427387904 = true:=by rw [Nat.ble_eq]; omega
  unfold rowP at e
  rw [if_pos hble,hr,Option.bind_some] at e
  have hw:=rowK_whole hR hnd
  rw [names_len] at hw
  rcases Bool.eq_false_or_eq_true r.1 with c | c
  · obtain ⟨h1,h2,h3⟩:=ht c
    have hwt : wholeD L ms j = true:=decide_eq_true (hw.2 ⟨_,h3.rank (fun x hx=>(h2 x).2 hx)⟩)
    rw [if_pos c,Option.bind_some] at e
    exact ⟨r.2.2,by rw [hwt]; exact e,fun _=>⟨⟨h1,fun x hx=>(h2 x).1 hx,h3⟩,fun x hx=>(h2 x).2 hx⟩⟩
  · have hwf : wholeD L ms j = false:=decide_eq_false (fun he=>by
      obtain ⟨rk,hrk⟩:=hw.1 he
      exact hf c rk hrk)
    rw [if_neg (by simp [c]),Option.bind_some] at e
    exact ⟨[],by rw [hwf]; exact e,fun h=>by rw [hwf] at h; cases h⟩
theorem all_any {X : Type} (l : List X) (z : X) (p : X → Bool) : (List.range l.length).any (fun i=>!p (l.getD i z)) = !l.all p:=by
  rcases Bool.eq_false_or_eq_true (l.all p) with c | c
  · rw [c]
    rw [List.any_eq_false.2]
    · rfl
    · intro i hi
      rw [listGetD_lt _ _ _ (List.mem_range.1 hi),List.all_eq_true.1 c _ (List.getElem_mem _)]
      simp
  · rw [c]
    rw [List.all_eq_false] at c
    obtain ⟨x,hx,hp⟩:=c
    obtain ⟨i,hi,rfl⟩:=List.getElem_of_mem hx
    rw [List.any_eq_true.2]
    · rfl
    · exact ⟨i,List.mem_range.2 hi,by rw [listGetD_lt _ _ _ hi]; simpa using hp⟩
theorem any_all {m : Nat} (p : Nat → Bool) : (List.range m).any (fun i=>!p i) = !(List.range m).all p:=by
  rw [List.not_all_eq_any_not]
theorem mend_small {ms : List (Ty.den tGateMend)} (hs : small 1048576 (.slice tGateMend) ms) {i : Nat} (hi : i < ms.length) : small 1048576 tGateMend (mendAt ms i):=by
  unfold mendAt
  rw [listGetD_lt _ _ _ hi]
  exact hs.2 _ (List.getElem_mem hi)
include hn in
theorem implShapeM_ok (l : List (Ty.den tGateShape)) (hl : l.length ≤ 1048576) (a : ByteArray) : impl_shapeOf.f n (l,a,()) = some (fidx (fun t : Ty.den tGateShape=>seq t.1 a) l,()):=by
  have hn : 18446744073709551616 ≤ n:=hn
  unfold impl_shapeOf.f
  refine (runL_find (l:=l) (fun i=>(a,l,(l.length : Int),(i : Int),())) (fun t : Ty.den tGateShape=>seq t.1 a) (fun i=>some ((i : Int),())) (some (-1,())) ?_ ?_ (by omega)).trans ?_
  · intro next i hi
    simp only [impl_shapeOf.B2,lt_dec hi,in_dec hi,wrap_next hi hl,if_true]
    rw [getD_nat _ _ _ hi]
  · intro next
    simp only [impl_shapeOf.B2,lt_dec',Bool.false_eq_true,if_false]
  · simp only [fidx]
    cases l.findIdx? (fun t : Ty.den tGateShape=>seq t.1 a) <;> rfl
include hn in
theorem specMends_ok (L : List (Ty.den tGateShape)) (hL : small 1048576 (.slice tGateShape) L) (ms : List (Ty.den tGateMend)) (hs : small 1048576 (.slice tGateMend) ms) : spec_GateMendsOk.f n (L,ms,()) = some (mendsD L ms,()):=by
  have hn' : 18446744073709551616 ≤ n:=hn
  have hl : List.length L ≤ 1048576:=hL.1
  have hml : ms.length ≤ 1048576:=hs.1
  unfold spec_GateMendsOk.f mendsD
  have e0 : spec_GateShapesOk.f n (L,()) = _:=specShapes_ok hn L hL
  simp only [e0,Option.bind_some]
  rcases Bool.eq_false_or_eq_true (!shapesD L || decide ((List.length ms : Int) > 12)) with c | c
  · rw [if_pos c,c]; rfl
  rw [if_neg (ne_true_of_eq_false c),c]
  refine (runL_any (len:=List.length ms) (fun i=>(L,ms,(i : Int),())) (fun i=>!mendOkD L (mendAt ms i)) (some (false,())) _ ?_ (fun next=>by simp only [spec_GateMendsOk.B4,lt_dec',Bool.false_eq_true,if_false]; rfl) (by omega)).trans ?_
  · intro next i hi
    have e1 : spec_l3MendOk.f n (L,List.getD ms i (Ty.zero tGateMend),()) = some (mendOkD L (mendAt ms i),()):=specMend_ok hn L hL _ (mend_small hs hi)
    simp only [spec_GateMendsOk.B4,lt_dec hi,in_dec hi,if_true,Int.toNat_natCast,e1,Option.bind_some,wrap_next hi hml]
  · rw [all_any ms (Ty.zero tGateMend) (mendOkD L)]
    rcases Bool.eq_false_or_eq_true (ms.all (mendOkD L)) with c2 | c2
    rotate_left
    · rw [c2]; rfl
    rw [c2]
    refine (runL_any (len:=List.length L) (fun i=>(L,ms,(i : Int),())) (fun i=>!wholeD L ms i) (some (false,())) (some (true,())) ?_ ?_ (by omega)).trans ?_
    · intro next j hj
      have hF : List.length (List.getD L j (Ty.zero tGateShape)).2.1 ≤ 1048576:=(shape_small hL hj).2.1.1
      have e1 : spec_l3Row.f n (List.getD L j (Ty.zero tGateShape),ms,()) = _:=specRow_ok hn ms hml _ hF
      simp only [spec_GateMendsOk.B9,lt_dec hj,in_dec hj,Bool.or_true,if_true,Int.toNat_natCast,e1,Option.bind_some,wrap_next hj hl]
      have e2 : ((List.length (rowK (namesF (List.getD L j (Ty.zero tGateShape)).2.1) (readsD ms (List.getD L j (Ty.zero tGateShape)).1) (List.length (List.getD L j (Ty.zero tGateShape)).2.1)) : Int) != (List.length (List.getD L j (Ty.zero tGateShape)).2.1 : Int)) = !wholeD L ms j:=by
        exact ne_dec _ _
      rw [e2]
    · intro next
      simp only [spec_GateMendsOk.B9,lt_dec',Bool.false_eq_true,if_false]
    · rw [any_all]
      cases (List.range (List.length L)).all (wholeD L ms) <;> rfl
include hn in
theorem implMends_ok (L : List (Ty.den tGateShape)) (hL : small 1048576 (.slice tGateShape) L) (ms : List (Ty.den tGateMend)) (hs : small 1048576 (.slice tGateMend) ms) : impl_GateMendsOk.f n (L,ms,()) = some (mendsD L ms,()):=by
  have hn' : 18446744073709551616 ≤ n:=hn
  have hl : List.length L ≤ 1048576:=hL.1
  have hml : ms.length ≤ 1048576:=hs.1
  unfold impl_GateMendsOk.f mendsD
  have e0 : impl_GateShapesOk.f n (L,()) = _:=implShapes_ok hn L hL
  simp only [e0,Option.bind_some]
  rcases Bool.eq_false_or_eq_true (!shapesD L || decide ((List.length ms : Int) > 12)) with c | c
  · rw [if_pos c,c]; rfl
  rw [if_neg (ne_true_of_eq_false c),c]
  refine (runL_any (len:=List.length ms) (fun i=>(L,ms,ms,(List.length ms : Int),(i : Int),())) (fun i=>!mendOkD L (mendAt ms i)) (some (false,())) _ ?_ (fun next=>by simp only [impl_GateMendsOk.B4,lt_dec',Bool.false_eq_true,if_false]; rfl) (by omega)).trans ?_
  · intro next i hi
    have e1 : impl_shapeOf.f n (L,(List.getD ms i (Ty.zero tGateMend)).1,()) = _:=implShapeM_ok hn L hl _
    simp only [impl_GateMendsOk.B4,lt_dec hi,in_dec hi,if_true,Int.toNat_natCast,e1,Option.bind_some,wrap_next hi hml]
    unfold mendOkD
    have em : mendAt ms i = List.getD ms i (Ty.zero tGateMend):=rfl
    rw [em]
    cases hf : L.findIdx? (fun t : Ty.den tGateShape=>seq t.1 (List.getD ms i (Ty.zero tGateMend)).1) with
    | none=>rw [fidx_none hf]; rfl
    | some k =>
      have hk:=findIdx?_lt hf
      have h0 : decide ((k : Int) < 0) = false:=by simp
      have hF : small 1048576 (.slice tGateField) (fieldsAt L k):=(shape_small hL hk).2.1
      have e2 : impl_mendOk.f n ((List.getD L k (Ty.zero tGateShape)).2.1,List.getD ms i (Ty.zero tGateMend),()) = some (mendD (fieldsAt L k) (List.getD ms i (Ty.zero tGateMend)),()):=implMend_ok hn (fieldsAt L k) hF _ (mend_small hs hi)
      simp only [fidx_some hf,h0,in_dec hk,Bool.not_false,Bool.not_true,Bool.or_true,if_true,Int.toNat_natCast,e2,Option.bind_some,Bool.false_or]
  · rw [all_any ms (Ty.zero tGateMend) (mendOkD L)]
    rcases Bool.eq_false_or_eq_true (ms.all (mendOkD L)) with c2 | c2
    rotate_left
    · rw [c2]; rfl
    rw [c2]
    rw [Bool.or_eq_false_iff] at c
    have hsh : shapesD L = true:=by simpa using c.1
    have h12 : ms.length ≤ 12:=by have:=of_decide_eq_false c.2; omega
    refine (runL_any (len:=List.length L) (fun i=>(ms,L,(List.length L : Int),(i : Int),())) (fun i=>!wholeD L ms i) (some (false,())) (some (true,())) ?_ ?_ (by omega)).trans ?_
    · intro next j hj
      obtain ⟨l,e1,_⟩:=rowOf_ok hn hsh c2 h12 hj
      simp only [impl_GateMendsOk.B11,lt_dec hj,in_dec hj,if_true,Int.toNat_natCast,e1,Option.bind_some,wrap_next hj hl]
    · intro next
      simp only [impl_GateMendsOk.B11,lt_dec',Bool.false_eq_true,if_false]
    · rw [any_all]
      cases (List.range (List.length L)).all (wholeD L ms) <;> rfl
end

section
variable {n : Nat} (hn : Big n)
theorem implShapeS_ok (hn : Big n) (l : List (Ty.den tGateShape)) (hl : l.length ≤ 1048576) (a : ByteArray) : impl_shapeOf.f n (l,a,()) = some (fidx (fun t : Ty.den tGateShape=>seq t.1 a) l,()):=by
  have hn : 18446744073709551616 ≤ n:=hn
  unfold impl_shapeOf.f
  refine (runL_find (l:=l) (fun i=>(a,l,(l.length : Int),(i : Int),())) (fun t : Ty.den tGateShape=>seq t.1 a) (fun i=>some ((i : Int),())) (some (-1,())) ?_ ?_ (by omega)).trans ?_
  · intro next i hi
    simp only [impl_shapeOf.B2,lt_dec hi,in_dec hi,wrap_next hi hl,if_true]
    rw [getD_nat _ _ _ hi]
  · intro next
    simp only [impl_shapeOf.B2,lt_dec',Bool.false_eq_true,if_false]
  · simp only [fidx]
    cases l.findIdx? (fun t : Ty.den tGateShape=>seq t.1 a) <;> rfl
def fieldsF (sh : List (Ty.den tGateShape)) (o : Ty.den tGateObject) : Option (List (Ty.den tGateField)) :=
  match sh.findIdx? (fun t : Ty.den tGateShape=>seq t.1 o.1) with
  | none=>none
  | some i=>if List.length (sh.getD i (Ty.zero tGateShape)).2.1 = List.length o.2.2.2.1 then some (sh.getD i (Ty.zero tGateShape)).2.1 else none
theorem fieldsF_small {sh : List (Ty.den tGateShape)} {o : Ty.den tGateObject} {fs : List (Ty.den tGateField)} (h : fieldsF sh o = some fs) (hs : small 1048576 (.slice tGateShape) sh) : List.length fs = List.length o.2.2.2.1 ∧ small 1048576 (.slice tGateField) fs:=by
  unfold fieldsF at h
  split at h
  · cases h
  · rename_i i hi
    split at h
    · cases h
      exact ⟨by assumption,(shape_small hs (findIdx?_lt hi)).2.1⟩
    · cases h
def fieldsT (sh : List (Ty.den tGateShape)) (o : Ty.den tGateObject) : Tup [(.slice tGateField),.bool] :=
  match fieldsF sh o with
  | none=>([],false,())
  | some fs=>(fs,true,())
include hn in
theorem specFieldsS_ok (sh : List (Ty.den tGateShape)) (o : Ty.den tGateObject) (hl : sh.length ≤ 1048576) : spec_l2Fields.f n (sh,o,()) = some (fieldsT sh o):=by
  unfold spec_l2Fields.f fieldsT fieldsF
  simp only [specShapeS_ok hn sh hl,Option.bind_some]
  cases hf : sh.findIdx? (fun t : Ty.den tGateShape=>seq t.1 o.1) with
  | none=>rw [fidx_none hf]; rfl
  | some i =>
    have hi:=findIdx?_lt hf
    have h0 : decide ((i : Int) < 0) = false:=by simp
    simp only [fidx_some hf,h0,in_dec hi,Bool.not_false,Bool.not_true,Bool.false_or,Bool.or_true,if_true,Int.toNat_natCast]
    by_cases he : List.length (sh.getD i (Ty.zero tGateShape)).2.1 = List.length o.2.2.2.1
    · have hne : ((List.length (sh.getD i (Ty.zero tGateShape)).2.1 : Int) != (List.length o.2.2.2.1 : Int)) = false:=by simp only [bne_eq_false_iff_eq]; omega
      rw [hne,if_pos he]
      rfl
    · have hne : ((List.length (sh.getD i (Ty.zero tGateShape)).2.1 : Int) != (List.length o.2.2.2.1 : Int)) = true:=by simp only [bne_iff_ne,ne_eq]; omega
      rw [hne,if_neg he]
      rfl
include hn in
theorem implFieldsS_ok (sh : List (Ty.den tGateShape)) (o : Ty.den tGateObject) (hl : sh.length ≤ 1048576) : impl_fieldsOf.f n sh (o,()) = some (fieldsT sh o):=by
  unfold impl_fieldsOf.f fieldsT fieldsF
  simp only [implShapeS_ok hn sh hl,Option.bind_some]
  cases hf : sh.findIdx? (fun t : Ty.den tGateShape=>seq t.1 o.1) with
  | none=>rw [fidx_none hf]; rfl
  | some i =>
    have hi:=findIdx?_lt hf
    have h0 : decide ((i : Int) < 0) = false:=by simp
    simp only [fidx_some hf,h0,in_dec hi,Bool.not_false,Bool.not_true,Bool.false_or,Bool.or_true,if_true,Int.toNat_natCast]
    by_cases he : List.length (sh.getD i (Ty.zero tGateShape)).2.1 = List.length o.2.2.2.1
    · have hne : ((List.length o.2.2.2.1 : Int) != (List.length (sh.getD i (Ty.zero tGateShape)).2.1 : Int)) = false:=by simp only [bne_eq_false_iff_eq]; omega
      rw [hne,if_pos he]
      rfl
    · have hne : ((List.length o.2.2.2.1 : Int) != (List.length (sh.getD i (Ty.zero tGateShape)).2.1 : Int)) = true:=by simp only [bne_iff_ne,ne_eq]; omega
      rw [hne,if_neg he]
      rfl
theorem appBF {m k c : Nat} (h : (m + k) * c ≤ 140737488355328) : appBound m k c = true:=by
  unfold appBound
  rw [Nat.ble_eq]
  exact h
theorem copyTexts_ok (l : List ByteArray) (hl : List.length l ≤ 1048576) : impl_copyTexts.f n (l,()) = some (l,()):=by
  unfold impl_copyTexts.f
  cases l with
  | nil=>rfl
  | cons a l =>
    have e1 : (((List.length (a :: l) : Int)) == (0 : Int)) = false:=by
      rw [beq_eq_false_iff_ne]; simp only [List.length_cons]; omega
    have e2 : decide (0 ≤ (List.length (a :: l) : Int) ∧ (List.length (a :: l) : Int) ≤ (List.length (a :: l) : Int) ∧ (List.length (a :: l) : Int) * (16 : Int) ≤ 140737488355328) = true:=decide_eq_true (by omega)
    have e3 : decide (List.length (List.replicate (Int.toNat (List.length (a :: l) : Int)) (⟨#[]⟩ : ByteArray)) = List.length (a :: l) ∧ 0 < List.length (a :: l)) = true:=decide_eq_true (by simp)
    simp only [e1,e2,e3,Bool.false_eq_true,if_false,if_true]
theorem twin_ok (o : Ty.den tGateObject) (hs : small 1048576 tGateObject o) : impl_GateObject_twin.f n (o,()) = some (o,()):=by
  unfold impl_GateObject_twin.f
  have e1 : impl_copyTexts.f n (o.2.2.2.1,()) = _:=copyTexts_ok o.2.2.2.1 hs.2.2.2.1.1
  have e2 : impl_copyTexts.f n (o.2.2.2.2.2.1,()) = _:=copyTexts_ok o.2.2.2.2.2.1 hs.2.2.2.2.2.1.1
  simp only [e1,e2,Option.bind_some]
theorem l2Copy_ok (o : Ty.den tGateObject) (hs : small 1048576 tGateObject o) : spec_l2Copy.f n (o,()) = some (o,()):=by
  unfold spec_l2Copy.f
  have h1 : List.length o.2.2.2.1 ≤ 1048576:=hs.2.2.2.1.1
  have h2 : List.length o.2.2.2.2.2.1 ≤ 1048576:=hs.2.2.2.2.2.1.1
  rw [if_pos (appBF (by simp only [List.length_nil]; omega)),if_pos (appBF (by simp only [List.length_nil]; omega))]
  rfl
def putV (o : Ty.den tGateObject) (l : List ByteArray) : Ty.den tGateObject:=(o.1,o.2.1,o.2.2.1,l,o.2.2.2.2.1,o.2.2.2.2.2.1,o.2.2.2.2.2.2.1,())
theorem wt_strs (l : List ByteArray) (m : List ByteArray) (h : List.length l = List.length m) : wt (.slice .str) l = wt (.slice .str) m:=by
  rw [wt_slice,wt_slice,h]
  have key : ∀ l : List ByteArray,(List.map (wt .str) l).sum = List.length l:=by
    intro l
    induction l with
    | nil=>rfl
    | cons a l ih =>
      rw [List.map_cons,List.sum_cons,ih,List.length_cons]
      show 1 + _ = _
      omega
  erw [key,key,h]
end

section
variable {n : Nat} (hn : Big n)
def fillG (fs : List (Ty.den tGateField)) (i : Nat) (l : List ByteArray) : List ByteArray :=
  if seq (List.getD l i (⟨#[]⟩ : ByteArray)) (⟨#[]⟩ : ByteArray) = true then List.set l i (fieldAt fs i).2.2.2.2.2.2.2.2.2.1 else l
def fillL (fs : List (Ty.den tGateField)) (l : List ByteArray) : List ByteArray:=(List.range (List.length fs)).foldl (fun l i=>fillG fs i l) l
theorem fillG_len (fs : List (Ty.den tGateField)) (i : Nat) (l : List ByteArray) : List.length (fillG fs i l) = List.length l:=by
  unfold fillG
  split
  · rw [List.length_set]
  · rfl
theorem foldl_invF {A : Type} (g : Nat → A → A) (inv : A → Prop) {m : Nat} (h : ∀ i a,i < m → inv a → inv (g i a)) : ∀ k,k ≤ m → ∀ a,inv a → inv ((List.range k).foldl (fun a i=>g i a) a):=by
  intro k
  induction k with
  | zero=>intro _ a ha; exact ha
  | succ k ih =>
    intro hk a ha
    rw [List.range_succ,List.foldl_append]
    exact h k _ (by omega) (ih (by omega) a ha)
theorem fillL_small (fs : List (Ty.den tGateField)) (hf : small 1048576 (.slice tGateField) fs) (l : List ByteArray) (hl : small 1048576 (.slice .str) l) : small 1048576 (.slice .str) (fillL fs l):=by
  unfold fillL
  refine foldl_invF (fillG fs) (fun l=>small 1048576 (.slice .str) l) (m:=List.length fs) ?_ _ (Nat.le_refl _) l hl
  intro i a hi ha
  unfold fillG
  split
  · refine ⟨by have:=ha.1; simpa using this,?_⟩
    intro x hx
    rcases List.mem_or_eq_of_mem_set hx with h | h
    · exact ha.2 x h
    · rw [h]
      exact (field_small hf hi).2.2.2.2.2.2.2.2.2.1
  · exact ha
theorem fillL_len (fs : List (Ty.den tGateField)) (l : List ByteArray) : List.length (fillL fs l) = List.length l:=by
  unfold fillL
  exact foldl_invF (fillG fs) (fun a=>List.length a = List.length l) (m:=List.length fs) (fun i a hi ha=>by rw [fillG_len]; exact ha) _ (Nat.le_refl _) l rfl
def fillO (sh : List (Ty.den tGateShape)) (o : Ty.den tGateObject) : Ty.den tGateObject :=
  match fieldsF sh o with
  | none=>o
  | some fs=>putV o (fillL fs o.2.2.2.1)
def fillD (sh : List (Ty.den tGateShape)) (o : Ty.den tGateObject) : Ty.den tGateObject:=if shapesD sh = true then fillO sh o else o
include hn in
theorem l2Fill_ok (sh : List (Ty.den tGateShape)) (hsh : small 1048576 (.slice tGateShape) sh) (o : Ty.den tGateObject) (hs : small 1048576 tGateObject o) : spec_l2Fill.f n (sh,o,()) = some (fillO sh o,()):=by
  have hn' : 18446744073709551616 ≤ n:=hn
  unfold spec_l2Fill.f fillO
  rw [l2Copy_ok o hs]
  simp only [specFieldsS_ok hn sh o hsh.1,Option.bind_some]
  unfold fieldsT
  cases hf : fieldsF sh o with
  | none=>rfl
  | some fs =>
    obtain ⟨he,hfs⟩:=fieldsF_small hf hsh
    have hfl : List.length fs ≤ 1048576:=hfs.1
    simp only [Bool.not_true,Bool.false_eq_true,if_false]
    refine (runL_fold (len:=List.length fs) (fun i (l : List ByteArray)=>(((⟨#[]⟩ : ByteArray),(⟨#[]⟩ : ByteArray),(⟨#[]⟩ : ByteArray),[],false,[],(0 : Int),()),putV o l,fs,(i : Int),())) (fun _ l=>List.length l = List.length fs) (fillG fs) (fun l=>some (putV o l,())) ?_ ?_ (by omega) (a:=o.2.2.2.1) he.symm)
    · intro next i l hi hl
      have hi2 : i < List.length l:=by omega
      refine ⟨by rw [fillG_len]; exact hl,?_⟩
      unfold fillG
      simp only [spec_l2Fill.B6,putV,lt_dec hi,in_dec hi,wrap_next hi hfl,Int.toNat_natCast,Bool.or_true,if_true]
      refine (if_pos (in_dec hi2)).trans ?_
      rcases Bool.eq_false_or_eq_true (seq (List.getD l i (⟨#[]⟩ : ByteArray)) (⟨#[]⟩ : ByteArray)) with c | c
      · refine (if_pos c).trans ((if_pos (in_dec hi2)).trans ?_)
        simp only [c,if_true]
        rfl
      · refine (if_neg (ne_true_of_eq_false c)).trans ?_
        simp only [c,Bool.false_eq_true,if_false]
    · intro next l hl
      simp only [spec_l2Fill.B6,lt_dec',Bool.false_eq_true,if_false]
include hn in
theorem implFill_ok (sh : List (Ty.den tGateShape)) (hsh : small 1048576 (.slice tGateShape) sh) (o : Ty.den tGateObject) (hs : small 1048576 tGateObject o) : impl_GateFill.f n (sh,o,()) = some (fillD sh o,()):=by
  have hn' : 18446744073709551616 ≤ n:=hn
  unfold impl_GateFill.f fillD fillO
  have e1 : impl_GateShapesOk.f n (sh,()) = _:=implShapes_ok hn sh hsh
  have e2 : impl_GateObject_twin.f n (o,()) = _:=twin_ok o hs
  have e3 : impl_fieldsOf.f n sh (o,()) = _:=implFieldsS_ok hn sh o hsh.1
  simp only [e1,e2,e3,Option.bind_some]
  unfold fieldsT
  cases hf : fieldsF sh o with
  | none=>cases shapesD sh <;> rfl
  | some fs =>
    simp only [Bool.not_true,Bool.not_false,Bool.false_or,if_true,Option.bind_some]
    rcases Bool.eq_false_or_eq_true (shapesD sh) with c | c
    rotate_left
    · rw [c]; rfl
    obtain ⟨he,hfs⟩:=fieldsF_small hf hsh
    have hfl : List.length fs ≤ 1048576:=hfs.1
    simp only [c,Bool.not_true,Bool.false_eq_true,if_false,if_true]
    refine (runL_fold (len:=List.length fs) (fun i (l : List ByteArray)=>(putV o l,((⟨#[]⟩ : ByteArray),(⟨#[]⟩ : ByteArray),(⟨#[]⟩ : ByteArray),[],false,[],(0 : Int),()),fs,(List.length fs : Int),(i : Int),())) (fun _ l=>List.length l = List.length fs) (fillG fs) (fun l=>some (putV o l,())) ?_ ?_ (by omega) (a:=o.2.2.2.1) he.symm)
    · intro next i l hi hl
      have hi2 : i < List.length l:=by omega
      refine ⟨by rw [fillG_len]; exact hl,?_⟩
      unfold fillG
      simp only [impl_GateFill.B6,putV,lt_dec hi,in_dec hi,wrap_next hi hfl,Int.toNat_natCast,Bool.or_true,if_true]
      refine (if_pos (in_dec hi2)).trans ?_
      rcases Bool.eq_false_or_eq_true (seq (List.getD l i (⟨#[]⟩ : ByteArray)) (⟨#[]⟩ : ByteArray)) with c | c
      · refine (if_pos c).trans ((if_pos (in_dec hi2)).trans ?_)
        simp only [c,if_true]
        rfl
      · refine (if_neg (ne_true_of_eq_false c)).trans ?_
        simp only [c,Bool.false_eq_true,if_false]
    · intro next l hl
      simp only [impl_GateFill.B6,lt_dec',Bool.false_eq_true,if_false]
theorem fillO_small (sh : List (Ty.den tGateShape)) (hsh : small 1048576 (.slice tGateShape) sh) (o : Ty.den tGateObject) (hs : small 1048576 tGateObject o) : small 1048576 tGateObject (fillD sh o):=by
  unfold fillD
  split
  · unfold fillO
    cases hf : fieldsF sh o with
    | none=>exact hs
    | some fs =>
      have h:=fillL_small fs (fieldsF_small hf hsh).2 o.2.2.2.1 hs.2.2.2.1
      exact ⟨hs.1,hs.2.1,hs.2.2.1,h,hs.2.2.2.2.1,hs.2.2.2.2.2.1,trivial,trivial⟩
  · exact hs
theorem fillD_wt (sh : List (Ty.den tGateShape)) (o : Ty.den tGateObject) : wt tGateObject (fillD sh o) = wt tGateObject o:=by
  unfold fillD
  split
  · unfold fillO
    cases hf : fieldsF sh o with
    | none=>rfl
    | some fs =>
      have h:=wt_strs (fillL fs o.2.2.2.1) o.2.2.2.1 (fillL_len fs _)
      unfold putV
      simp only [wt_pair,h]
  · rfl
end

section
variable {n : Nat} (hn : Big n)
def idxF (F : List (Ty.den tGateField)) (x : ByteArray) : Nat:=(F.findIdx? (fun f : Ty.den tGateField=>seq f.1 x)).getD 0
def valV (F : List (Ty.den tGateField)) (vals : List ByteArray) (x : ByteArray) : ByteArray:=List.getD vals (idxF F x) (⟨#[]⟩ : ByteArray)
def decM (F : List (Ty.den tGateField)) (vals : List ByteArray) (K x : ByteArray) (m : Ty.den tGateMend) : Option ByteArray :=
  if ((!seq m.1 K) || (!seq m.2.1 x)) = true then none
  else if (((!emp m.2.2.1) && (!seq (valV F vals m.2.2.1) m.2.2.2.1)) || ((!emp m.2.2.2.2.2.1) && (emp (valV F vals m.2.2.2.2.2.1)))) = true then none
  else some (if (!emp m.2.2.2.2.2.1) = true then valV F vals m.2.2.2.2.2.1 else m.2.2.2.2.1)
def decV (F : List (Ty.den tGateField)) (ms : List (Ty.den tGateMend)) (K : ByteArray) (vals : List ByteArray) (x : ByteArray) : Option ByteArray:=ms.findSome? (decM F vals K x)
def stepV (F : List (Ty.den tGateField)) (ms : List (Ty.den tGateMend)) (K : ByteArray) (vals : List ByteArray) (x : ByteArray) : List ByteArray :=
  match decV F ms K vals x with
  | none=>vals
  | some v=>List.set vals (idxF F x) v
def runV (F : List (Ty.den tGateField)) (ms : List (Ty.den tGateMend)) (K : ByteArray) (vals : List ByteArray) (l : List ByteArray) : List ByteArray:=l.foldl (stepV F ms K) vals
theorem idx_name {F : List (Ty.den tGateField)} {x : ByteArray} (h : x ∈ namesF F) : F.findIdx? (fun f : Ty.den tGateField=>seq f.1 x) = some (idxF F x) ∧ idxF F x < List.length F ∧ nameAt F (idxF F x) = x:=by
  unfold idxF
  cases hf : F.findIdx? (fun f : Ty.den tGateField=>seq f.1 x) with
  | none =>
    have h1:=List.findIdx?_eq_none_iff.1 hf
    unfold namesF at h
    obtain ⟨f,hm,rfl⟩:=List.mem_map.1 h
    have:=h1 f hm
    rw [seq_refl'] at this
    cases this
  | some k =>
    obtain ⟨hi,h1,_⟩:=List.findIdx?_eq_some_iff_getElem.1 hf
    refine ⟨rfl,hi,?_⟩
    show nameAt F k = x
    unfold nameAt fieldAt
    rw [listGetD_lt _ _ _ hi]
    exact seq_eq' h1
theorem idx_inj {F : List (Ty.den tGateField)} {x y : ByteArray} (hx : x ∈ namesF F) (hy : y ∈ namesF F) (h : idxF F x = idxF F y) : x = y:=by
  rw [← (idx_name hx).2.2,← (idx_name hy).2.2,h]
theorem val_set {F : List (Ty.den tGateField)} {vals : List ByteArray} {x y v : ByteArray} (hx : x ∈ namesF F) (hy : y ∈ namesF F) (hl : vals.length = List.length F) : valV F (List.set vals (idxF F x) v) y = if y = x then v else valV F vals y:=by
  unfold valV
  have h1:=(idx_name hx).2.1
  have h2:=(idx_name hy).2.1
  rw [listGetD_lt _ _ _ (by rw [List.length_set]; omega),listGetD_lt _ _ _ (by omega)]
  by_cases e : y = x
  · subst e
    rw [if_pos rfl,List.getElem_set_self]
  · rw [if_neg e,List.getElem_set_ne (fun he=>e (idx_inj hx hy he).symm)]
theorem step_len {F : List (Ty.den tGateField)} {ms : List (Ty.den tGateMend)} {K : ByteArray} {vals : List ByteArray} {x : ByteArray} : (stepV F ms K vals x).length = vals.length:=by
  unfold stepV
  split
  · rfl
  · rw [List.length_set]
theorem run_lenV {F : List (Ty.den tGateField)} {ms : List (Ty.den tGateMend)} {K : ByteArray} : ∀ {l : List ByteArray} {vals : List ByteArray},(runV F ms K vals l).length = vals.length
  | [],_=>rfl
  | x :: l,vals=>by
    show (runV F ms K (stepV F ms K vals x) l).length = _
    rw [run_lenV,step_len]
theorem step_val {F : List (Ty.den tGateField)} {ms : List (Ty.den tGateMend)} {K : ByteArray} {vals : List ByteArray} {x y : ByteArray} (hx : x ∈ namesF F) (hy : y ∈ namesF F) (hl : vals.length = List.length F) :
    valV F (stepV F ms K vals x) y = if y = x then (decV F ms K vals x).getD (valV F vals x) else valV F vals y:=by
  unfold stepV
  cases h : decV F ms K vals x with
  | none=>simp only [Option.getD_none]; split <;> simp_all
  | some v=>simp only [Option.getD_some]; exact val_set hx hy hl
theorem run_other {F : List (Ty.den tGateField)} {ms : List (Ty.den tGateMend)} {K y : ByteArray} (hy : y ∈ namesF F) : ∀ {l : List ByteArray} {vals : List ByteArray},(∀ x ∈ l,x ∈ namesF F) → y ∉ l → vals.length = List.length F → valV F (runV F ms K vals l) y = valV F vals y
  | [],_,_,_,_=>rfl
  | x :: l,vals,hs,hn,hl=>by
    show valV F (runV F ms K (stepV F ms K vals x) l) y = _
    simp only [List.mem_cons,not_or] at hn
    rw [run_other hy (fun z hz=>hs z (List.mem_cons_of_mem _ hz)) hn.2 (by rw [step_len]; exact hl),step_val (hs x (by simp)) hy hl,if_neg hn.1]
theorem findSome_congr {X Y : Type} {f g : X → Option Y} : ∀ {l : List X},(∀ x ∈ l,f x = g x) → l.findSome? f = l.findSome? g
  | [],_=>rfl
  | x :: l,h=>by
    rw [List.findSome?_cons,List.findSome?_cons,h x (by simp),findSome_congr (fun y hy=>h y (List.mem_cons_of_mem _ hy))]
theorem dec_dep {F : List (Ty.den tGateField)} {ms : List (Ty.den tGateMend)} {K x : ByteArray} {v w : List ByteArray} (h : ∀ y ∈ readsD ms K x,valV F v y = valV F w y) : decV F ms K v x = decV F ms K w x:=by
  unfold decV
  refine findSome_congr (fun m hm=>?_)
  unfold decM
  rcases Bool.eq_false_or_eq_true ((!seq m.1 K) || (!seq m.2.1 x)) with c | c
  · rw [if_pos c,if_pos c]
  rw [if_neg (ne_true_of_eq_false c),if_neg (ne_true_of_eq_false c)]
  have hc : (seq m.1 K && seq m.2.1 x) = true:=by
    rw [Bool.or_eq_false_iff] at c
    rw [Bool.and_eq_true]
    exact ⟨by simpa using c.1,by simpa using c.2⟩
  have hmem : ∀ y,y ∈ optS m.2.2.1 ++ optS m.2.2.2.2.2.1 → valV F v y = valV F w y:=fun y hy=>h y (List.mem_flatMap.2 ⟨m,hm,by unfold readsM; rw [if_pos hc]; exact hy⟩)
  have h1 : emp m.2.2.1 = false → valV F v m.2.2.1 = valV F w m.2.2.1:=fun he=>hmem _ (List.mem_append.2 (.inl (by unfold optS; rw [if_neg (by simp [he])]; simp)))
  have h2 : emp m.2.2.2.2.2.1 = false → valV F v m.2.2.2.2.2.1 = valV F w m.2.2.2.2.2.1:=fun he=>hmem _ (List.mem_append.2 (.inr (by unfold optS; rw [if_neg (by simp [he])]; simp)))
  rcases Bool.eq_false_or_eq_true (emp m.2.2.1) with c1 | c1 <;> rcases Bool.eq_false_or_eq_true (emp m.2.2.2.2.2.1) with c2 | c2
  · simp [c1,c2]
  · rw [h2 c2]; simp [c1,c2]
  · rw [h1 c1]; simp [c1,c2]
  · rw [h1 c1,h2 c2]
theorem run_eqn {F : List (Ty.den tGateField)} {ms : List (Ty.den tGateMend)} {K : ByteArray} {vals : List ByteArray} (hl : vals.length = List.length F) {l : List ByteArray} (hok : RowOk (namesF F) (readsD ms K) l) {x : ByteArray} (hx : x ∈ l) :
    valV F (runV F ms K vals l) x = (decV F ms K (runV F ms K vals l) x).getD (valV F vals x):=by
  obtain ⟨l1,l2,rfl,hn1⟩:=List.eq_append_cons_of_mem hx
  have hnd:=hok.nd
  rw [List.nodup_append] at hnd
  obtain ⟨_,h2,h3⟩:=hnd
  rw [List.nodup_cons] at h2
  have hs1 : ∀ z ∈ l1,z ∈ namesF F:=fun z hz=>hok.sub z (by simp [hz])
  have hs2 : ∀ z ∈ l2,z ∈ namesF F:=fun z hz=>hok.sub z (by simp [hz])
  have hxV:=hok.sub x hx
  have hrun : runV F ms K vals (l1 ++ x :: l2) = runV F ms K (stepV F ms K (runV F ms K vals l1) x) l2:=by
    unfold runV
    rw [List.foldl_append]
    rfl
  have hlen1 : (runV F ms K vals l1).length = List.length F:=by rw [run_lenV]; exact hl
  have hlen2 : (stepV F ms K (runV F ms K vals l1) x).length = List.length F:=by rw [step_len]; exact hlen1
  rw [hrun,run_other hxV hs2 h2.1 hlen2,step_val hxV hxV hlen1,if_pos rfl]
  have hd : decV F ms K (runV F ms K vals l1) x = decV F ms K (runV F ms K (stepV F ms K (runV F ms K vals l1) x) l2) x:=by
    refine dec_dep (fun y hy=>?_)
    have hy1:=hok.topo l1 x l2 rfl y hy
    have hyV:=hs1 y hy1
    have hy2 : y ∉ l2:=fun hm=>h3 y hy1 y (List.mem_cons_of_mem _ hm) rfl
    have hyx : y ≠ x:=fun e=>h3 y hy1 x (by simp) e
    rw [run_other hyV hs2 hy2 hlen2,step_val hxV hyV hlen1,if_neg hyx]
  rw [← hd,run_other hxV hs1 hn1 hl]
theorem run_unique {F : List (Ty.den tGateField)} {ms : List (Ty.den tGateMend)} {K : ByteArray} {vals v w : List ByteArray} {rk : ByteArray → Nat} (hrk : Ranked (namesF F) (readsD ms K) rk) (hR : ∀ x ∈ namesF F,∀ y ∈ readsD ms K x,y ∈ namesF F)
    (hv : ∀ x ∈ namesF F,valV F v x = (decV F ms K v x).getD (valV F vals x)) (hw : ∀ x ∈ namesF F,valV F w x = (decV F ms K w x).getD (valV F vals x)) : ∀ k x,rk x < k → x ∈ namesF F → valV F v x = valV F w x:=by
  intro k
  induction k with
  | zero=>intro x h; omega
  | succ k ih =>
    intro x hk hx
    rw [hv x hx,hw x hx,dec_dep (w:=w) (fun y hy=>ih y (by have:=hrk x hx y hy; omega) (hR x hx y hy))]
theorem run_same {F : List (Ty.den tGateField)} {ms : List (Ty.den tGateMend)} {K : ByteArray} {vals : List ByteArray} (hF : (namesF F).Nodup) (hl : vals.length = List.length F) {l1 l2 : List ByteArray} (h1 : RowOk (namesF F) (readsD ms K) l1) (h2 : RowOk (namesF F) (readsD ms K) l2)
    (hc1 : ∀ x ∈ namesF F,x ∈ l1) (hc2 : ∀ x ∈ namesF F,x ∈ l2) (hR : ∀ x ∈ namesF F,∀ y ∈ readsD ms K x,y ∈ namesF F) : runV F ms K vals l1 = runV F ms K vals l2:=by
  have hu : ∀ x ∈ namesF F,valV F (runV F ms K vals l1) x = valV F (runV F ms K vals l2) x:=fun x hx =>
    run_unique (h1.topo.rank hc1) hR (fun x hx=>run_eqn hl h1 (hc1 x hx)) (fun x hx=>run_eqn hl h2 (hc2 x hx)) _ x (Nat.lt_succ_self _) hx
  refine List.ext_getElem (by rw [run_lenV,run_lenV]) (fun i hi1 hi2=>?_)
  have hiF : i < List.length F:=by rw [run_lenV] at hi1; omega
  have hm : nameAt F i ∈ namesF F:=List.mem_of_getElem? (names_at hiF)
  have hidx : idxF F (nameAt F i) = i:=by
    have h3:=(idx_name hm).2.1
    have h4:=(idx_name hm).2.2
    have e1:=names_at (F:=F) (i:=idxF F (nameAt F i)) h3
    have e2:=names_at (F:=F) (i:=i) hiF
    rw [h4] at e1
    rw [List.nodup_iff_pairwise_ne,List.pairwise_iff_getElem] at hF
    have hlF : (namesF F).length = List.length F:=names_len F
    rw [List.getElem?_eq_getElem (by omega)] at e1
    rw [List.getElem?_eq_getElem (by omega)] at e2
    have e3 : (namesF F)[idxF F (nameAt F i)] = (namesF F)[i] := by
      rw [Option.some.inj e1,Option.some.inj e2]
    rcases Nat.lt_trichotomy (idxF F (nameAt F i)) i with hlt | he | hgt
    · exact absurd e3 (hF _ _ (by omega) (by omega) hlt)
    · exact he
    · exact absurd e3.symm (hF _ _ (by omega) (by omega) hgt)
  have:=hu _ hm
  unfold valV at this
  rw [hidx,listGetD_lt _ _ _ hi1,listGetD_lt _ _ _ hi2] at this
  exact this
end

section
variable {n : Nat} (hn : Big n)
theorem mend_names {L : List (Ty.den tGateShape)} {ms : List (Ty.den tGateMend)} (h : shapesD L = true) (hm : ms.all (mendOkD L) = true) {j : Nat} (hj : j < List.length L) {m : Ty.den tGateMend} (hmem : m ∈ ms) (hk : seq m.1 (List.getD L j (Ty.zero tGateShape)).1 = true) :
    (emp m.2.2.1 = false → m.2.2.1 ∈ namesF (fieldsAt L j)) ∧ (emp m.2.2.2.2.2.1 = false → m.2.2.2.2.2.1 ∈ namesF (fieldsAt L j)):=by
  have hok:=List.all_eq_true.1 hm m hmem
  unfold mendOkD at hok
  rw [kind_find h hj hk] at hok
  simp only [mendD,Bool.and_eq_true] at hok
  have hh:=hok.1
  unfold headD at hh
  rw [Bool.not_eq_true',Bool.or_eq_false_iff,Bool.or_eq_false_iff] at hh
  obtain ⟨⟨_,h2⟩,h3⟩:=hh
  exact ⟨fun he=>by rw [he] at h2; exact plain_mem (by simpa using h2),fun he=>by rw [he] at h3; exact plain_mem (by simpa using h3)⟩
def NamesOk (F : List (Ty.den tGateField)) (ms : List (Ty.den tGateMend)) (K : ByteArray) : Prop:=∀ m ∈ ms,seq m.1 K = true → (emp m.2.2.1 = false → m.2.2.1 ∈ namesF F) ∧ (emp m.2.2.2.2.2.1 = false → m.2.2.2.2.2.1 ∈ namesF F)
abbrev zeroO : Ty.den tGateObject:=((⟨#[]⟩ : ByteArray),(⟨#[]⟩ : ByteArray),(⟨#[]⟩ : ByteArray),[],false,[],(0 : Int),())
theorem find_some {F : List (Ty.den tGateField)} {ms : List (Ty.den tGateMend)} {K x : ByteArray} {vals : List ByteArray} : decV F ms K vals x = (ms.findIdx? (fun m=>(decM F vals K x m).isSome)).elim none (fun k=>decM F vals K x (mendAt ms k)):=by
  unfold decV mendAt
  induction ms with
  | nil=>rfl
  | cons m ms ih =>
    rw [List.findSome?_cons,List.findIdx?_cons]
    cases h : decM F vals K x m with
    | some v=>simp [h]
    | none =>
      simp only [Option.isSome_none,Bool.false_eq_true,if_false]
      rw [ih]
      cases List.findIdx? (fun m=>(decM F vals K x m).isSome) ms <;> simp
theorem fold_getD {A X : Type} (l : List X) (z : X) (c : A → X → A) (a : A) : ∀ k,k ≤ l.length → (List.range k).foldl (fun a i=>c a (l.getD i z)) a = (l.take k).foldl c a
  | 0,_=>rfl
  | k + 1,hk=>by
    rw [List.range_succ,List.foldl_append,fold_getD l z c a k (by omega)]
    simp only [List.foldl_cons,List.foldl_nil]
    rw [listGetD_lt _ _ _ (by omega),List.take_add_one,List.foldl_append,List.getElem?_eq_getElem (by omega)]
    simp
include hn in
theorem implValue_ok {F : List (Ty.den tGateField)} (hF : List.length F ≤ 1048576) (o : Ty.den tGateObject) {vals : List ByteArray} (hl : vals.length = List.length F) {x : ByteArray} (hx : x ∈ namesF F) : impl_GateMended_1.f n (x,some (putV o vals),some F,()) = some (valV F vals x,()):=by
  unfold impl_GateMended_1.f
  obtain ⟨h1,h2,_⟩:=idx_name hx
  have e : impl_placeOf.f n (F,x,()) = _:=implPlace_ok hn F hF x
  have hin : decide (0 ≤ ((idxF F x : Nat) : Int) ∧ ((idxF F x : Nat) : Int) < (List.length (putV o vals).2.2.2.1 : Int)) = true:=decide_eq_true (by
    show 0 ≤ ((idxF F x : Nat) : Int) ∧ ((idxF F x : Nat) : Int) < (vals.length : Int)
    omega)
  simp only [Option.isSome_some,Bool.or_true,if_true,Option.getD_some,e,fidx_some h1,Option.bind_some,hin,Int.toNat_natCast]
  rfl
include hn in
theorem implLoopM_ok {F : List (Ty.den tGateField)} (hF : List.length F ≤ 1048576) {ms : List (Ty.den tGateMend)} (hms : ms.length ≤ 1048576) (o : Ty.den tGateObject) (hnm : NamesOk F ms o.1) {vals : List ByteArray} (hl : vals.length = List.length F) {x : ByteArray} (hx : x ∈ namesF F) (names : List ByteArray) (a b : Int) {R : Type} (cs : Conts R impl_GateMended.l11.outs) :
    runL (impl_GateMended.B11 n) cs n (ms,putV o vals,zeroO,(F,()),(),x,names,a,b,ms,(ms.length : Int),(0 : Int),()) = match decV F ms o.1 vals x with
      | some v=>cs.1 (ms,putV o (List.set vals (idxF F x) v),zeroO,(F,()),(),names,a,b,())
      | none=>cs.2.1 (ms,putV o vals,zeroO,(F,()),(),names,a,b,()):=by
  have hn' : 18446744073709551616 ≤ n:=hn
  refine (runL_find (l:=ms) (fun i=>(ms,putV o vals,zeroO,(F,()),(),x,names,a,b,ms,(ms.length : Int),(i : Int),())) (fun m=>(decM F vals o.1 x m).isSome) (fun k=>cs.1 (ms,putV o (List.set vals (idxF F x) ((decM F vals o.1 x (mendAt ms k)).getD (⟨#[]⟩ : ByteArray))),zeroO,(F,()),(),names,a,b,())) (cs.2.1 (ms,putV o vals,zeroO,(F,()),(),names,a,b,())) ?_ ?_ (by omega)).trans ?_
  · intro next i hi
    have em : List.getD ms i (Ty.zero tGateMend) = ms[i] := listGetD_lt _ _ _ hi
    have em2 : mendAt ms i = ms[i] := em
    have hnames:=hnm ms[i] (List.getElem_mem hi)
    obtain ⟨hi1,hi2,_⟩:=idx_name hx
    have hpl : impl_placeOf.f n (F,x,()) = _:=implPlace_ok hn F hF x
    have hin : decide (0 ≤ ((idxF F x : Nat) : Int) ∧ ((idxF F x : Nat) : Int) < (List.length (putV o vals).2.2.2.1 : Int)) = true:=decide_eq_true (by
      show 0 ≤ ((idxF F x : Nat) : Int) ∧ ((idxF F x : Nat) : Int) < (vals.length : Int)
      omega)
    simp only [impl_GateMended.B11,lt_dec hi,in_dec hi,if_true,Int.toNat_natCast,wrap_next hi hms,em,em2]
    generalize ms[i] = m at hnames
    have eK : (putV o vals).1 = o.1:=rfl
    rw [eK]
    unfold decM
    rcases Bool.eq_false_or_eq_true ((!seq m.1 o.1) || (!seq m.2.1 x)) with c | c
    · rw [if_pos c,if_pos c]; rfl
    rw [if_neg (ne_true_of_eq_false c),if_neg (ne_true_of_eq_false c)]
    have hk : seq m.1 o.1 = true:=by
      rw [Bool.or_eq_false_iff] at c
      simpa using c.1
    obtain ⟨hw,hf⟩:=hnames hk
    have e1 : emp m.2.2.1 = false → impl_GateMended_1.f n (m.2.2.1,some (putV o vals),some F,()) = some (valV F vals m.2.2.1,()):=fun he=>implValue_ok hn hF o hl (hw he)
    have e2 : emp m.2.2.2.2.2.1 = false → impl_GateMended_1.f n (m.2.2.2.2.2.1,some (putV o vals),some F,()) = some (valV F vals m.2.2.2.2.2.1,()):=fun he=>implValue_ok hn hF o hl (hf he)
    unfold putV at e1 e2 hin
    simp only [putV,hpl,fidx_some hi1,Option.bind_some,Int.toNat_natCast]
    rcases Bool.eq_false_or_eq_true (seq m.2.2.1 (⟨#[]⟩ : ByteArray)) with c1 | c1 <;> rcases Bool.eq_false_or_eq_true (seq m.2.2.2.2.2.1 (⟨#[]⟩ : ByteArray)) with c2 | c2
    · simp only [emp,c1,c2,tzero,Option.bind_some,Bool.not_true,Bool.false_and,Bool.or_self,Bool.false_eq_true,if_false,Bool.not_false,Bool.true_and,Bool.and_false,if_true,reduceIte,hin,Option.isSome_some,Option.getD_some]
      exact if_pos hin
    · have e2:=e2 c2
      simp only [emp,c1,c2,e2,tzero,Option.bind_some,Bool.not_true,Bool.false_and,Bool.or_self,Bool.false_or,Bool.false_eq_true,if_false,Bool.not_false,Bool.true_and,Bool.and_self,Bool.and_true,if_true,reduceIte,hin]
      rcases Bool.eq_false_or_eq_true (seq (valV F vals m.2.2.2.2.2.1) (⟨#[]⟩ : ByteArray)) with c4 | c4
      · rw [if_pos c4,if_pos c4]; rfl
      · rw [if_neg (ne_true_of_eq_false c4),if_neg (ne_true_of_eq_false c4)]
        exact if_pos hin
    · have e1:=e1 c1
      simp only [emp,c1,c2,e1,tzero,Option.bind_some,Bool.not_true,Bool.false_and,Bool.or_self,Bool.or_false,Bool.false_eq_true,if_false,Bool.not_false,Bool.true_and,Bool.and_self,Bool.and_true,Bool.and_false,if_true,reduceIte,hin]
      rcases Bool.eq_false_or_eq_true (!seq (valV F vals m.2.2.1) m.2.2.2.1) with c4 | c4
      · rw [if_pos c4,if_pos c4]; rfl
      · rw [if_neg (ne_true_of_eq_false c4),if_neg (ne_true_of_eq_false c4)]
        exact if_pos hin
    · have e1:=e1 c1
      have e2:=e2 c2
      simp only [emp,c1,c2,e1,e2,tzero,Option.bind_some,Bool.not_true,Bool.false_and,Bool.or_self,Bool.or_false,Bool.false_eq_true,if_false,Bool.not_false,Bool.true_and,Bool.and_self,Bool.and_true,Bool.and_false,if_true,reduceIte,hin]
      rcases Bool.eq_false_or_eq_true (seq (valV F vals m.2.2.1) m.2.2.2.1) with c4 | c4
      · simp only [c4,Bool.not_true,Bool.not_false,Bool.false_or,if_true,Option.bind_some]
        rcases Bool.eq_false_or_eq_true (seq (valV F vals m.2.2.2.2.2.1) (⟨#[]⟩ : ByteArray)) with c5 | c5
        · rw [if_pos c5,if_pos c5]; rfl
        · rw [if_neg (ne_true_of_eq_false c5),if_neg (ne_true_of_eq_false c5)]
          exact if_pos hin
      · simp only [c4,Bool.not_true,Bool.not_false,Bool.true_or,if_true,Bool.false_eq_true,if_false,Option.bind_some,Option.isSome_none]
  · intro next
    simp only [impl_GateMended.B11,lt_dec',Bool.false_eq_true,if_false]
  · rw [find_some]
    cases hf : ms.findIdx? (fun m=>(decM F vals o.1 x m).isSome) with
    | none=>rfl
    | some k =>
      obtain ⟨hk,h1,_⟩:=List.findIdx?_eq_some_iff_getElem.1 hf
      have em2 : mendAt ms k = ms[k] := listGetD_lt _ _ _ hk
      simp only [Option.elim_some]
      rw [em2]
      cases hd : decM F vals o.1 x ms[k] with
      | none=>rw [hd] at h1; cases h1
      | some v=>rfl
end

section
variable {n : Nat} (hn : Big n)
include hn in
theorem implRunM_ok {F : List (Ty.den tGateField)} (hF : List.length F ≤ 1048576) {ms : List (Ty.den tGateMend)} (hms : ms.length ≤ 1048576) (o : Ty.den tGateObject) (hnm : NamesOk F ms o.1) {vals : List ByteArray} (hl : vals.length = List.length F) {l : List ByteArray} (hll : l.length ≤ 1048576) (hs : ∀ x ∈ l,x ∈ namesF F) {Q : Type} (cs : Conts Q impl_GateMended.l8.outs) :
    runL (impl_GateMended.B8 n) cs n (ms,putV o vals,zeroO,(F,()),(),l,(l.length : Int),(0 : Int),()) = cs.1 (putV o (runV F ms o.1 vals l),zeroO,()):=by
  have hn' : 18446744073709551616 ≤ n:=hn
  refine (runL_fold (len:=l.length) (fun i (v : List ByteArray)=>(ms,putV o v,zeroO,(F,()),(),l,(l.length : Int),(i : Int),())) (fun _ v=>v.length = List.length F) (fun i v=>stepV F ms o.1 v (List.getD l i (⟨#[]⟩ : ByteArray))) (fun v=>cs.1 (putV o v,zeroO,())) ?_ ?_ (by omega) (a:=vals) hl).trans ?_
  · intro next i v hi hv
    refine ⟨by rw [step_len]; exact hv,?_⟩
    have hx : List.getD l i (⟨#[]⟩ : ByteArray) ∈ namesF F:=by
      rw [listGetD_lt _ _ _ hi]
      exact hs _ (List.getElem_mem hi)
    simp only [impl_GateMended.B8,lt_dec hi,in_dec hi,if_true,Int.toNat_natCast]
    refine (implLoopM_ok hn hF hms o hnm hv hx l (l.length : Int) (i : Int) _).trans ?_
    unfold stepV
    cases decV F ms o.1 v (List.getD l i (⟨#[]⟩ : ByteArray)) with
    | none=>simp only [wrap_next hi hll]
    | some w=>simp only [wrap_next hi hll]
  · intro next v hv
    simp only [impl_GateMended.B8,lt_dec',Bool.false_eq_true,if_false]
  · rw [fold_getD l (⟨#[]⟩ : ByteArray) (stepV F ms o.1) vals l.length (Nat.le_refl _),List.take_length]
    rfl
include hn in
theorem specDecided_ok {F : List (Ty.den tGateField)} (hF : List.length F ≤ 1048576) {ms : List (Ty.den tGateMend)} (hms : ms.length ≤ 1048576) (o : Ty.den tGateObject) (hnm : NamesOk F ms o.1) {vals : List ByteArray} (hl : vals.length = List.length F) {x : ByteArray} (hx : x ∈ namesF F) :
    spec_l3Decided.f n (F,ms,putV o vals,x,()) = some ((decV F ms o.1 vals x).getD (valV F vals x),()):=by
  have hn' : 18446744073709551616 ≤ n:=hn
  unfold spec_l3Decided.f
  have hfield : ∀ s,spec_l3Field.f n (F,s,()) = _:=fun s=>specField3_ok hn F hF s
  have hin : ∀ s,s ∈ namesF F → decide (0 ≤ ((idxF F s : Nat) : Int) ∧ ((idxF F s : Nat) : Int) < (List.length (putV o vals).2.2.2.1 : Int)) = true:=fun s hs=>decide_eq_true (by
    have:=(idx_name hs).2.1
    show 0 ≤ ((idxF F s : Nat) : Int) ∧ ((idxF F s : Nat) : Int) < (vals.length : Int)
    omega)
  refine (runL_find (l:=ms) (fun i=>(F,ms,x,putV o vals,(i : Int),())) (fun m=>(decM F vals o.1 x m).isSome) (fun k=>some ((decM F vals o.1 x (mendAt ms k)).getD (⟨#[]⟩ : ByteArray),())) (some (valV F vals x,())) ?_ ?_ (by omega)).trans ?_
  · intro next i hi
    have em : List.getD ms i (Ty.zero tGateMend) = ms[i] := listGetD_lt _ _ _ hi
    have em2 : mendAt ms i = ms[i] := em
    have hnames:=hnm ms[i] (List.getElem_mem hi)
    simp only [spec_l3Decided.B2,lt_dec hi,in_dec hi,if_true,Int.toNat_natCast,wrap_next hi hms,em,em2]
    generalize ms[i] = m at hnames
    have eK : (putV o vals).1 = o.1:=rfl
    have eV : (putV o vals).2.2.2.1 = vals:=rfl
    rw [eK]
    unfold decM
    rcases Bool.eq_false_or_eq_true ((!seq m.1 o.1) || (!seq m.2.1 x)) with c | c
    · rw [if_pos c]
      simp only [c,tzero,Bool.not_true,Bool.false_and,Bool.false_eq_true,if_false,Option.bind_some,Bool.not_false,Bool.true_or,if_true,Option.isSome_none]
    rw [if_neg (ne_true_of_eq_false c)]
    have hk : seq m.1 o.1 = true:=by
      rw [Bool.or_eq_false_iff] at c
      simpa using c.1
    obtain ⟨hw,hf⟩:=hnames hk
    simp only [c,hfield,tzero,Bool.not_false,Bool.true_and,Bool.false_or,Option.bind_some,if_true]
    rcases Bool.eq_false_or_eq_true (seq m.2.2.1 (⟨#[]⟩ : ByteArray)) with c1 | c1
    · simp only [emp,c1,Bool.not_true,Bool.false_and,Bool.false_eq_true,if_false,Option.bind_some,Bool.not_false,Bool.true_or,if_true,Bool.false_or]
      rcases Bool.eq_false_or_eq_true (seq m.2.2.2.2.2.1 (⟨#[]⟩ : ByteArray)) with c2 | c2
      · simp only [c2,if_true,Bool.not_true,Bool.false_and,Bool.false_eq_true,if_false,Option.isSome_some,Option.getD_some]
      · obtain ⟨h1,h2,_⟩:=idx_name (hf c2)
        simp only [c2,Bool.false_eq_true,if_false,fidx_some h1,Option.bind_some,hin _ (hf c2),if_true,Int.toNat_natCast,Bool.not_false,Bool.true_and]
        have ev : List.getD (putV o vals).2.2.2.1 (idxF F m.2.2.2.2.2.1) (⟨#[]⟩ : ByteArray) = valV F vals m.2.2.2.2.2.1:=rfl
        rw [ev]
        rcases Bool.eq_false_or_eq_true (seq (valV F vals m.2.2.2.2.2.1) (⟨#[]⟩ : ByteArray)) with c4 | c4
        · simp only [c4,Bool.not_true,Bool.false_eq_true,if_false,if_true,Option.isSome_none]
        · simp only [c4,Bool.not_false,if_true,Bool.false_eq_true,if_false,Option.isSome_some,Option.getD_some]
    · obtain ⟨g1,g2,_⟩:=idx_name (hw c1)
      simp only [emp,c1,fidx_some g1,Option.bind_some,hin _ (hw c1),Int.toNat_natCast,Bool.not_false,Bool.not_true,Bool.false_or,Bool.true_and,if_true]
      rcases Bool.eq_false_or_eq_true (seq (List.getD (putV o vals).2.2.2.1 (idxF F m.2.2.1) (⟨#[]⟩ : ByteArray)) m.2.2.2.1) with c3 | c3
      rotate_left
      · have c3' : seq (valV F vals m.2.2.1) m.2.2.2.1 = false:=c3
        simp only [c3,c3',Bool.not_false,Bool.true_or,if_true,Option.isSome_none,Bool.false_eq_true,if_false]
      have c3' : seq (valV F vals m.2.2.1) m.2.2.2.1 = true:=c3
      simp only [c3,c3',Bool.not_true,Bool.false_or,Bool.false_eq_true,if_false]
      rcases Bool.eq_false_or_eq_true (seq m.2.2.2.2.2.1 (⟨#[]⟩ : ByteArray)) with c2 | c2
      · simp only [c2,if_true,Bool.not_true,Bool.false_and,Bool.false_eq_true,if_false,Option.isSome_some,Option.getD_some]
      · obtain ⟨h1,h2,_⟩:=idx_name (hf c2)
        simp only [c2,Bool.false_eq_true,if_false,fidx_some h1,Option.bind_some,hin _ (hf c2),if_true,Int.toNat_natCast,Bool.not_false,Bool.true_and]
        have ev : List.getD (putV o vals).2.2.2.1 (idxF F m.2.2.2.2.2.1) (⟨#[]⟩ : ByteArray) = valV F vals m.2.2.2.2.2.1:=rfl
        rw [ev]
        rcases Bool.eq_false_or_eq_true (seq (valV F vals m.2.2.2.2.2.1) (⟨#[]⟩ : ByteArray)) with c4 | c4
        · simp only [c4,Bool.not_true,Bool.false_eq_true,if_false,if_true,Option.isSome_none]
        · simp only [c4,Bool.not_false,if_true,Bool.false_eq_true,if_false,Option.isSome_some,Option.getD_some]
  · intro next
    obtain ⟨h1,h2,_⟩:=idx_name hx
    simp only [spec_l3Decided.B2,lt_dec',Bool.false_eq_true,if_false,if_true,hfield,fidx_some h1,Option.bind_some,hin x hx,Int.toNat_natCast]
    rfl
  · rw [find_some]
    cases hf : ms.findIdx? (fun m=>(decM F vals o.1 x m).isSome) with
    | none=>rfl
    | some k =>
      obtain ⟨hk,h1,_⟩:=List.findIdx?_eq_some_iff_getElem.1 hf
      have em2 : mendAt ms k = ms[k] := listGetD_lt _ _ _ hk
      simp only [Option.elim_some]
      rw [em2]
      cases hd : decM F vals o.1 x ms[k] with
      | none=>rw [hd] at h1; cases h1
      | some v=>rfl
theorem set_same {l : List ByteArray} {i : Nat} (h : i < l.length) : List.set l i (List.getD l i (⟨#[]⟩ : ByteArray)) = l:=by
  rw [listGetD_lt _ _ _ h]
  exact List.set_getElem_self h
include hn in
theorem specRunM_ok {F : List (Ty.den tGateField)} (hF : List.length F ≤ 1048576) {ms : List (Ty.den tGateMend)} (hms : ms.length ≤ 1048576) (o : Ty.den tGateObject) (hnm : NamesOk F ms o.1) {vals : List ByteArray} (hl : vals.length = List.length F) {l : List ByteArray} (hll : l.length ≤ 1048576) (hs : ∀ x ∈ l,x ∈ namesF F) {Q : Type} (cs : Conts Q spec_l3Mended.l7.outs) :
    runL (spec_l3Mended.B7 n) cs n (ms,zeroO,putV o vals,F,l,(0 : Int),()) = cs.1 (zeroO,putV o (runV F ms o.1 vals l),()):=by
  have hn' : 18446744073709551616 ≤ n:=hn
  refine (runL_fold (len:=l.length) (fun i (v : List ByteArray)=>(ms,zeroO,putV o v,F,l,(i : Int),())) (fun _ v=>v.length = List.length F) (fun i v=>stepV F ms o.1 v (List.getD l i (⟨#[]⟩ : ByteArray))) (fun v=>cs.1 (zeroO,putV o v,())) ?_ ?_ (by omega) (a:=vals) hl).trans ?_
  · intro next i v hi hv
    refine ⟨by rw [step_len]; exact hv,?_⟩
    have hx : List.getD l i (⟨#[]⟩ : ByteArray) ∈ namesF F:=by
      rw [listGetD_lt _ _ _ hi]
      exact hs _ (List.getElem_mem hi)
    obtain ⟨h1,h2,_⟩:=idx_name hx
    have hfield : spec_l3Field.f n (F,List.getD l i (⟨#[]⟩ : ByteArray),()) = _:=specField3_ok hn F hF _
    have hdec : spec_l3Decided.f n (F,ms,putV o v,List.getD l i (⟨#[]⟩ : ByteArray),()) = _:=specDecided_ok hn hF hms o hnm hv hx
    have hin : decide (0 ≤ ((idxF F (List.getD l i (⟨#[]⟩ : ByteArray)) : Nat) : Int) ∧ ((idxF F (List.getD l i (⟨#[]⟩ : ByteArray)) : Nat) : Int) < (List.length (putV o v).2.2.2.1 : Int)) = true:=decide_eq_true (by
      show 0 ≤ ((idxF F (List.getD l i (⟨#[]⟩ : ByteArray)) : Nat) : Int) ∧ ((idxF F (List.getD l i (⟨#[]⟩ : ByteArray)) : Nat) : Int) < (v.length : Int)
      omega)
    unfold putV at hdec hin
    simp only [spec_l3Mended.B7,putV,lt_dec hi,in_dec hi,Bool.or_true,if_true,Int.toNat_natCast,hfield,fidx_some h1,Option.bind_some,hdec,wrap_next hi hll]
    refine (if_pos hin).trans ?_
    unfold stepV
    cases hd : decV F ms o.1 v (List.getD l i (⟨#[]⟩ : ByteArray)) with
    | some w=>rfl
    | none =>
      simp only [Option.getD_none]
      have e : List.set v (idxF F (List.getD l i (⟨#[]⟩ : ByteArray))) (valV F v (List.getD l i (⟨#[]⟩ : ByteArray))) = v:=set_same (by omega)
      exact congrArg (fun z=>next (ms,zeroO,putV o z,F,l,((i + 1 : Nat) : Int),())) e
  · intro next v hv
    simp only [spec_l3Mended.B7,lt_dec',Bool.false_eq_true,if_false]
  · rw [fold_getD l (⟨#[]⟩ : ByteArray) (stepV F ms o.1) vals l.length (Nat.le_refl _),List.take_length]
    rfl
def rowAt (L : List (Ty.den tGateShape)) (ms : List (Ty.den tGateMend)) (j : Nat) : List ByteArray:=rowK (namesF (fieldsAt L j)) (readsD ms (List.getD L j (Ty.zero tGateShape)).1) (List.length (fieldsAt L j))
def mendO (L : List (Ty.den tGateShape)) (ms : List (Ty.den tGateMend)) (o : Ty.den tGateObject) : Ty.den tGateObject :=
  match L.findIdx? (fun t : Ty.den tGateShape=>seq t.1 o.1) with
  | none=>o
  | some j=>if List.length (fieldsAt L j) = List.length o.2.2.2.1 then putV o (runV (fieldsAt L j) ms o.1 o.2.2.2.1 (rowAt L ms j)) else o
def mendedD (L : List (Ty.den tGateShape)) (ms : List (Ty.den tGateMend)) (o : Ty.den tGateObject) : Ty.den tGateObject:=if mendsD L ms = true then mendO L ms o else o
theorem mends_parts {L : List (Ty.den tGateShape)} {ms : List (Ty.den tGateMend)} (h : mendsD L ms = true) : shapesD L = true ∧ ms.length ≤ 12 ∧ ms.all (mendOkD L) = true ∧ ∀ j,j < List.length L → wholeD L ms j = true:=by
  unfold mendsD at h
  simp only [Bool.and_eq_true,Bool.not_eq_true',Bool.or_eq_false_iff,List.all_eq_true,List.mem_range] at h
  obtain ⟨⟨h1,h2⟩,h3,h4⟩:=h
  refine ⟨by simpa using h1,?_,List.all_eq_true.2 h3,h4⟩
  have:=of_decide_eq_false h2
  omega
theorem fieldsT_eq (L : List (Ty.den tGateShape)) (o : Ty.den tGateObject) : fieldsT L o = match L.findIdx? (fun t : Ty.den tGateShape=>seq t.1 o.1) with
    | none=>([],false,())
    | some j=>if List.length (fieldsAt L j) = List.length o.2.2.2.1 then (fieldsAt L j,true,()) else ([],false,()):=by
  unfold fieldsT fieldsF
  cases L.findIdx? (fun t : Ty.den tGateShape=>seq t.1 o.1) with
  | none=>rfl
  | some j =>
    simp only
    by_cases h : List.length (List.getD L j (Ty.zero tGateShape)).2.1 = List.length o.2.2.2.1
    · have h' : List.length (fieldsAt L j) = List.length o.2.2.2.1:=h
      rw [if_pos h,if_pos h']
      rfl
    · have h' : ¬ List.length (fieldsAt L j) = List.length o.2.2.2.1:=h
      rw [if_neg h,if_neg h']
theorem put_same (o : Ty.den tGateObject) : putV o o.2.2.2.1 = o:=rfl
theorem kind_eq {L : List (Ty.den tGateShape)} {j : Nat} {s : ByteArray} (h : L.findIdx? (fun t : Ty.den tGateShape=>seq t.1 s) = some j) : j < List.length L ∧ (List.getD L j (Ty.zero tGateShape)).1 = s:=by
  obtain ⟨hi,h1,_⟩:=List.findIdx?_eq_some_iff_getElem.1 h
  refine ⟨hi,?_⟩
  rw [listGetD_lt _ _ _ hi]
  exact seq_eq' h1
include hn in
theorem specMendO_ok (L : List (Ty.den tGateShape)) (hL : small 1048576 (.slice tGateShape) L) (ms : List (Ty.den tGateMend)) (hs : small 1048576 (.slice tGateMend) ms) (o : Ty.den tGateObject) (ho : small 1048576 tGateObject o) (h : mendsD L ms = true) : spec_l3Mended.f n (L,ms,o,()) = some (mendO L ms o,()):=by
  have hn' : 18446744073709551616 ≤ n:=hn
  obtain ⟨h1,h2,h3,h4⟩:=mends_parts h
  unfold spec_l3Mended.f mendO
  have e1 : spec_l2Copy.f n (o,()) = _:=l2Copy_ok o ho
  have e2 : spec_l2Fields.f n (L,o,()) = _:=specFieldsS_ok hn L o hL.1
  have e3 : spec_l1Shape.f n (L,o.1,()) = _:=specShapeS_ok hn L hL.1 o.1
  simp only [e1,e2,Option.bind_some,fieldsT_eq]
  cases hf : L.findIdx? (fun t : Ty.den tGateShape=>seq t.1 o.1) with
  | none=>rfl
  | some j =>
    obtain ⟨hj,hk⟩:=kind_eq hf
    simp only
    by_cases hlen : List.length (fieldsAt L j) = List.length o.2.2.2.1
    rotate_left
    · rw [if_neg hlen,if_neg hlen]; rfl
    rw [if_pos hlen,if_pos hlen]
    have hFl : List.length (fieldsAt L j) ≤ 1048576:=(shape_small hL hj).2.1.1
    have e4 : spec_l3Row.f n (List.getD L j (Ty.zero tGateShape),ms,()) = some (rowAt L ms j,()):=specRow_ok hn ms hs.1 (List.getD L j (Ty.zero tGateShape)) hFl
    have hrl : (rowAt L ms j).length ≤ 1048576:=by
      have:=(rowK_ok (namesF (fieldsAt L j)) (readsD ms (List.getD L j (Ty.zero tGateShape)).1) (List.length (fieldsAt L j))).2
      unfold rowAt
      omega
    have hnm : NamesOk (fieldsAt L j) ms o.1:=fun m hm hk'=>mend_names h1 h3 hj hm (by rw [hk]; exact hk')
    have hrun:=specRunM_ok hn hFl hs.1 o hnm (vals:=o.2.2.2.1) hlen.symm hrl (fun x hx=>(rowK_ok _ _ _).1.sub x hx) (Q:=Tup [tGateObject])
    simp only [Bool.not_true,Bool.false_eq_true,if_false,e3,fidx_some hf,Option.bind_some,in_dec hj,if_true,Int.toNat_natCast,e4]
    exact hrun _
include hn in
theorem implMended_ok (L : List (Ty.den tGateShape)) (hL : small 1048576 (.slice tGateShape) L) (ms : List (Ty.den tGateMend)) (hs : small 1048576 (.slice tGateMend) ms) (o : Ty.den tGateObject) (ho : small 1048576 tGateObject o) : impl_GateMended.f n (L,ms,o,()) = some (mendedD L ms o,()):=by
  have hn' : 18446744073709551616 ≤ n:=hn
  unfold impl_GateMended.f mendedD mendO
  have e0 : impl_GateMendsOk.f n (L,ms,()) = _:=implMends_ok hn L hL ms hs
  have e1 : impl_GateObject_twin.f n (o,()) = _:=twin_ok o ho
  have e2 : impl_fieldsOf.f n L (o,()) = _:=implFieldsS_ok hn L o hL.1
  have e3 : impl_shapeOf.f n (L,o.1,()) = _:=implShapeS_ok hn L hL.1 o.1
  simp only [e1,e2,e0,Option.bind_some,fieldsT_eq]
  cases hf : L.findIdx? (fun t : Ty.den tGateShape=>seq t.1 o.1) with
  | none=>cases mendsD L ms <;> rfl
  | some j =>
    obtain ⟨hj,hk⟩:=kind_eq hf
    simp only
    by_cases hlen : List.length (fieldsAt L j) = List.length o.2.2.2.1
    rotate_left
    · simp only [if_neg hlen]
      cases mendsD L ms <;> rfl
    simp only [if_pos hlen]
    rcases Bool.eq_false_or_eq_true (mendsD L ms) with c | c
    rotate_left
    · simp only [c]; rfl
    obtain ⟨h1,h2,h3,h4⟩:=mends_parts c
    have hFl : List.length (fieldsAt L j) ≤ 1048576:=(shape_small hL hj).2.1.1
    obtain ⟨l,e4,hl4⟩:=rowOf_ok hn h1 h3 h2 hj
    obtain ⟨hok,hcov⟩:=hl4 (h4 j hj)
    have hnd:=(fields_ok ((shapes_asc h1).2 j hj)).2
    have hll : l.length ≤ 1048576:=by
      have:=nodup_len hok.nd hok.sub
      rw [names_len] at this
      omega
    have hnm : NamesOk (fieldsAt L j) ms o.1:=fun m hm hk'=>mend_names h1 h3 hj hm (by rw [hk]; exact hk')
    have hrun:=implRunM_ok hn hFl hs.1 o hnm (vals:=o.2.2.2.1) hlen.symm hll (fun x hx=>hok.sub x hx) (Q:=Tup [tGateObject])
    have hrow:=(rowK_ok (namesF (fieldsAt L j)) (readsD ms (List.getD L j (Ty.zero tGateShape)).1) (List.length (fieldsAt L j))).1
    have hwl : (rowAt L ms j).length = (namesF (fieldsAt L j)).length:=by
      rw [names_len]
      exact of_decide_eq_true (h4 j hj)
    have hsame : runV (fieldsAt L j) ms o.1 o.2.2.2.1 l = runV (fieldsAt L j) ms o.1 o.2.2.2.1 (rowAt L ms j):=by
      rw [hk] at hok hrow
      refine run_same hnd hlen.symm hok ?_ hcov (fun x hx=>?_) (fun x _ y hy=>reads_closed h1 h3 hj x y (by rw [hk]; exact hy))
      · unfold rowAt; rw [hk]; exact hrow
      · refine whole_mem ?_ ?_ hwl hx
        · unfold rowAt; rw [hk]; exact hrow.nd
        · unfold rowAt; rw [hk]; exact hrow.sub
    rw [h4 j hj] at e4
    simp only [c,Bool.not_true,Bool.not_false,if_true,Option.bind_some,Bool.false_eq_true,if_false,Bool.or_self,e3,fidx_some hf,in_dec hj,Int.toNat_natCast,e4]
    refine (hrun _).trans ?_
    rw [hsame]
end

section
theorem getD_small {vals : List ByteArray} (h : small 1048576 (.slice .str) vals) (i : Nat) : small 1048576 .str (List.getD vals i (⟨#[]⟩ : ByteArray)):=by
  by_cases hi : i < vals.length
  · rw [listGetD_lt _ _ _ hi]
    exact h.2 _ (List.getElem_mem hi)
  · have : List.getD vals i (⟨#[]⟩ : ByteArray) = ⟨#[]⟩:=by simp [Nat.le_of_not_lt hi]
    rw [this]
    exact Nat.zero_le _
theorem step_small {F : List (Ty.den tGateField)} {ms : List (Ty.den tGateMend)} {K x : ByteArray} {vals : List ByteArray} (hm : small 1048576 (.slice tGateMend) ms) (h : small 1048576 (.slice .str) vals) : small 1048576 (.slice .str) (stepV F ms K vals x):=by
  unfold stepV
  cases hd : decV F ms K vals x with
  | none=>exact h
  | some v =>
    have hv : small 1048576 .str v:=by
      unfold decV at hd
      obtain ⟨m,hmem,hd⟩:=List.exists_of_findSome?_eq_some hd
      unfold decM at hd
      split at hd
      · cases hd
      split at hd
      · cases hd
      cases hd
      split
      · exact getD_small h _
      · exact (hm.2 m hmem).2.2.2.2.1
    refine ⟨by have:=h.1; simpa using this,?_⟩
    intro y hy
    rcases List.mem_or_eq_of_mem_set hy with h1 | h1
    · exact h.2 y h1
    · rw [h1]; exact hv
theorem runV_small {F : List (Ty.den tGateField)} {ms : List (Ty.den tGateMend)} {K : ByteArray} (hm : small 1048576 (.slice tGateMend) ms) : ∀ {l : List ByteArray} {vals : List ByteArray},small 1048576 (.slice .str) vals → small 1048576 (.slice .str) (runV F ms K vals l)
  | [],_,h=>h
  | x :: l,vals,h=>runV_small hm (l:=l) (step_small hm h)
theorem mended_small {L : List (Ty.den tGateShape)} {ms : List (Ty.den tGateMend)} (hm : small 1048576 (.slice tGateMend) ms) {o : Ty.den tGateObject} (ho : small 1048576 tGateObject o) : small 1048576 tGateObject (mendO L ms o):=by
  unfold mendO
  split
  · exact ho
  · split
    · exact ⟨ho.1,ho.2.1,ho.2.2.1,runV_small hm ho.2.2.2.1,ho.2.2.2.2.1,ho.2.2.2.2.2.1,trivial,trivial⟩
    · exact ho
theorem mended_wt {L : List (Ty.den tGateShape)} {ms : List (Ty.den tGateMend)} {o : Ty.den tGateObject} : wt tGateObject (mendO L ms o) = wt tGateObject o:=by
  unfold mendO
  split
  · rfl
  · split
    · rename_i j _ _
      have h:=wt_strs (runV (fieldsAt L j) ms o.1 o.2.2.2.1 (rowAt L ms j)) o.2.2.2.1 run_lenV
      unfold putV
      simp only [wt_pair,h]
    · rfl
end

section
variable {n : Nat} (hn : Big n)
def shapedD (L : List (Ty.den tGateShape)) (ms : List (Ty.den tGateMend)) (o : Ty.den tGateObject) : Ty.den tGateObject:=if mendsD L ms = true then mendO L ms (fillO L o) else o
theorem fillO_eq {L : List (Ty.den tGateShape)} {o : Ty.den tGateObject} (h : shapesD L = true) : fillD L o = fillO L o:=by
  unfold fillD
  rw [if_pos h]
include hn in
theorem specShaped_ok (L : List (Ty.den tGateShape)) (hL : small 1048576 (.slice tGateShape) L) (ms : List (Ty.den tGateMend)) (hs : small 1048576 (.slice tGateMend) ms) (o : Ty.den tGateObject) (ho : small 1048576 tGateObject o) : spec_GateShaped.f n (L,ms,o,()) = some (shapedD L ms o,()):=by
  unfold spec_GateShaped.f shapedD spec_l3Shaped.f
  have e0 : spec_GateMendsOk.f n (L,ms,()) = _:=specMends_ok hn L hL ms hs
  have e1 : spec_l2Copy.f n (o,()) = _:=l2Copy_ok o ho
  have e2 : spec_l2Fill.f n (L,o,()) = _:=l2Fill_ok hn L hL o ho
  simp only [e0,Option.bind_some]
  rcases Bool.eq_false_or_eq_true (mendsD L ms) with c | c
  · have hf:=fillO_small L hL o ho
    rw [fillO_eq (mends_parts c).1] at hf
    have e3 : spec_l3Mended.f n (L,ms,fillO L o,()) = _:=specMendO_ok hn L hL ms hs (fillO L o) hf c
    rw [c,if_neg (by decide),if_pos rfl]
    simp only [e2,e3,Option.bind_some]
  · simp only [c,Bool.not_false,if_true,e1,Option.bind_some,Bool.false_eq_true,if_false]
include hn in
theorem implShaped_ok (L : List (Ty.den tGateShape)) (hL : small 1048576 (.slice tGateShape) L) (ms : List (Ty.den tGateMend)) (hs : small 1048576 (.slice tGateMend) ms) (o : Ty.den tGateObject) (ho : small 1048576 tGateObject o) : impl_GateShaped.f n (L,ms,o,()) = some (shapedD L ms o,()):=by
  unfold impl_GateShaped.f shapedD
  have e0 : impl_GateMendsOk.f n (L,ms,()) = _:=implMends_ok hn L hL ms hs
  have e1 : impl_GateObject_twin.f n (o,()) = _:=twin_ok o ho
  have e2 : impl_GateFill.f n (L,o,()) = _:=implFill_ok hn L hL o ho
  simp only [e0,Option.bind_some]
  rcases Bool.eq_false_or_eq_true (mendsD L ms) with c | c
  · have hf:=fillO_small L hL o ho
    rw [fillO_eq (mends_parts c).1] at hf e2
    have e3 : impl_GateMended.f n (L,ms,fillO L o,()) = _:=implMended_ok hn L hL ms hs (fillO L o) hf
    have e4 : mendedD L ms (fillO L o) = mendO L ms (fillO L o):=by unfold mendedD; rw [if_pos c]
    rw [e4] at e3
    rw [c,if_neg (by decide),if_pos rfl]
    simp only [e2,e3,Option.bind_some]
  · simp only [c,Bool.not_false,if_true,e1,Option.bind_some,Bool.false_eq_true,if_false]
theorem shaped_small {L : List (Ty.den tGateShape)} {ms : List (Ty.den tGateMend)} (hL : small 1048576 (.slice tGateShape) L) (hm : small 1048576 (.slice tGateMend) ms) {o : Ty.den tGateObject} (ho : small 1048576 tGateObject o) : small 1048576 tGateObject (shapedD L ms o):=by
  unfold shapedD
  split
  · rename_i c
    have hf:=fillO_small L hL o ho
    rw [fillO_eq (mends_parts c).1] at hf
    exact mended_small hm hf
  · exact ho
theorem shaped_wt {L : List (Ty.den tGateShape)} {ms : List (Ty.den tGateMend)} {o : Ty.den tGateObject} : wt tGateObject (shapedD L ms o) = wt tGateObject o:=by
  unfold shapedD
  split
  · rename_i c
    rw [mended_wt,← fillO_eq (mends_parts c).1,fillD_wt]
  · rfl
end

theorem pure_law (n : Nat) (hn : Big n) (x : Tup [.slice tGateShape,.slice tGateMend,tGateObject]) (hw : wfT [.slice tGateShape,.slice tGateMend,tGateObject] x) : laws_FnExactGateShaped.f n x = some (true,()):=by
  obtain ⟨d,e,o,⟨⟩⟩:=x
  obtain ⟨hw1,hw2,hw3,_⟩:=hw
  unfold laws_FnExactGateShaped.f
  have h1 : laws_szGateShapeS.f n (d,1048576,()) = _:=laws_szGateShapeS_ok n hn d hw1 1048576 (by omega) (by omega)
  simp only [h1,Option.bind_some]
  by_cases hb1 : (bulk (.slice tGateShape) d : Int) ≤ 1048576
  rotate_left
  · rw [subL_neg hb1,if_pos (by decide)]
  have hs1 : small 1048576 (.slice tGateShape) d:=small_of_bulk (by omega)
  rw [subL_pos hb1,if_neg (by simp; omega)]
  have h2 : laws_szGateMendS.f n (e,1048576 - (bulk (.slice tGateShape) d : Int),()) = _:=laws_szGateMendS_ok n hn e hw2 _ (by omega) (by omega)
  simp only [h2,Option.bind_some]
  by_cases hb2 : (bulk (.slice tGateMend) e : Int) ≤ 1048576 - (bulk (.slice tGateShape) d : Int)
  rotate_left
  · rw [subL_neg hb2,if_pos (by decide)]
  have hs2 : small 1048576 (.slice tGateMend) e:=small_of_bulk (by omega)
  rw [subL_pos hb2,if_neg (by simp; omega)]
  have h3 : laws_szGateObject.f n (o,1048576 - (bulk (.slice tGateShape) d : Int) - (bulk (.slice tGateMend) e : Int),()) = _:=laws_szGateObject_ok n hn o hw3 _ (by omega) (by omega)
  simp only [h3,Option.bind_some]
  by_cases hb3 : (bulk tGateObject o : Int) ≤ 1048576 - (bulk (.slice tGateShape) d : Int) - (bulk (.slice tGateMend) e : Int)
  rotate_left
  · rw [subL_neg hb3,if_pos (by decide)]
  have hs3 : small 1048576 tGateObject o:=small_of_bulk (by omega)
  rw [subL_pos hb3,if_neg (by simp; omega)]
  have hwt1:=wt_small hb1 (by decide)
  have hwt2:=wt_small (t:=.slice tGateMend) (x:=e) (by omega) (by decide)
  have hwt3:=wt_small (t:=tGateObject) (x:=o) (by omega) (by decide)
  have hg : small 1048576 tGateObject (shapedD d e o):=shaped_small hs1 hs2 hs3
  have hwg : (wt tGateObject (shapedD d e o) : Int) ≤ 1048577000:=by rw [shaped_wt]; exact hwt3
  have e1 : spec_GateShaped.f n (d,e,o,()) = _:=specShaped_ok hn d hs1 e hs2 o hs3
  have e2 : impl_GateShaped.f n (d,e,o,()) = _:=implShaped_ok hn d hs1 e hs2 o hs3
  simp only [laws_toGateShapeS_ok n hn d hs1,laws_toGateMendS_ok n hn e hs2,laws_toGateObject_ok n hn o hs3,Option.bind_some,e1,e2,laws_eqGateShapeS_ok n hn (d,d,()) hs1,laws_eqGateMendS_ok n hn (e,e,()) hs2,laws_eqGateObject_ok n hn (o,o,()) hs3,laws_eqGateObject_ok n hn (shapedD d e o,shapedD d e o,()) hg,eqD_refl,Bool.not_true,Bool.false_eq_true,if_false]
  obtain ⟨s1,k1,p1,q1,m1⟩:=laws_markGateShapeS_ok1 n hn d 1 (by omega) (by omega)
  obtain ⟨t1,k2,p2,q2,m2⟩:=laws_markGateMendS_ok1 n hn e k1 (by omega) (by omega)
  obtain ⟨s2,s3,k3,p3,q3,m3⟩:=laws_markGateObject_ok1 n hn o k2 (by omega) (by omega)
  obtain ⟨s4,s5,k4,p4,q4,m4,h4⟩:=laws_markGateObject_ok n hn (shapedD d e o) 1 (by omega) (by omega)
  have d3 : decide (k3 < 0) = false:=decide_eq_false (by omega)
  have d4 : decide (k4 < 0) = false:=decide_eq_false (by omega)
  simp only [m1,m2,m3,m4,h4,d3,d4,Option.bind_some,Bool.not_false,if_true,Bool.false_or,Bool.not_true,Bool.false_eq_true,if_false,bne_self_eq_false]

end Go.Proofs.Ytbbdkoopiejpiab
