/- The law FnExactGateAskOk: what the program tells and what the reference tells are one, for all arguments (the plain law, over printed pure functions). No conditions. -/
import Derived.Test.YtmdkodbodddhpaaGreatP
set_option linter.unusedVariables false
set_option linter.unusedSimpArgs false
namespace Go.Proofs.YtmdkodbodddhpaaGreat
open Go Go.Vm
section
variable {n:Nat} (hn:Big n)
def digF (s:ByteArray) (i:Nat) (a:Int):Int ⊕ Unit :=
  if ((decide (byteAt s (i:Int) < (48:Int))) || (decide (byteAt s (i:Int) > (57:Int))))=true then .inr () else .inl (a * 10 + (byteAt s (i:Int) - 48))
def badNum (s:ByteArray):Bool:=((decide ((ByteArray.size s:Int) < (1:Int))) || (decide ((ByteArray.size s:Int) > (7:Int)))) || ((byteAt s (0:Int) == (48:Int)) && (decide ((ByteArray.size s:Int) > (1:Int))))
def numR (s:ByteArray):Int ⊕ Unit:=if badNum s=true then .inr () else outF (digF s) (List.range s.size) 0
theorem pow_le (i:Nat) (h:i≤7):(10:Int) ^ i≤10000000:=by
  obtain rfl | rfl | rfl | rfl | rfl | rfl | rfl | rfl:i=0∨i=1∨i=2∨i=3∨i=4∨i=5∨i=6∨i=7:=by omega
  all_goals decide
theorem dig_inv {s:ByteArray} {i:Nat} {a a':Int} (ha:0≤a∧a < (10:Int) ^ i) (h:digF s i a=.inl a'):0≤a'∧a' < (10:Int) ^ (i + 1):=by
  unfold digF at h
  split at h
  · cases h
  · rename_i hc
    simp only [Bool.or_eq_true,decide_eq_true_eq,not_or] at hc
    cases h
    rw [Int.pow_succ]
    omega
theorem num_bound {s:ByteArray} {a:Int} (h:numR s=.inl a):0≤a∧a≤9999999:=by
  unfold numR at h
  split at h
  · cases h
  · rename_i hb
    unfold badNum at hb
    simp only [Bool.or_eq_true,decide_eq_true_eq,not_or] at hb
    have key:∀ (d i:Nat) (a a':Int),i + d=s.size→(0≤a∧a < (10:Int) ^ i)→outF (digF s) ((List.range s.size).drop i) a=.inl a'→0≤a'∧a' < (10:Int) ^ s.size:=by
      intro d
      induction d with
      | zero =>
        intro i a a' hi ha h
        have:i=s.size:=by omega
        subst this
        rw [List.drop_eq_nil_of_le (by simp)] at h
        cases h
        exact ha
      | succ d ih =>
        intro i a a' hi ha h
        rw [List.drop_eq_getElem_cons (by simp; omega)] at h
        simp only [outF,List.getElem_range] at h
        split at h
        · rename_i a1 h1
          exact ih (i + 1) a1 a' (by omega) (dig_inv ha h1) h
        · cases h
    have:=key s.size 0 0 a (by omega) (by simp) (by simpa using h)
    have hp:=pow_le s.size (by omega)
    omega
include hn in
theorem specNum_ok (s:ByteArray):spec_l1Number.f n (s,())=some (Sum.elim (fun a=>a) (fun _=>-1) (numR s),()):=by
  have hn:18446744073709551616≤n:=hn
  unfold spec_l1Number.f numR
  simp only [spec_l1In.f,Option.bind_some]
  by_cases hlen:1≤s.size∧s.size≤7
  · have e1:((decide ((ByteArray.size s:Int)≥(1:Int))) && (decide ((ByteArray.size s:Int)≤(7:Int))))=true:=by simp; omega
    have e2:decide (0≤(0:Int)∧(0:Int) < (ByteArray.size s:Int))=true:=decide_eq_true (by omega)
    have e3:badNum s=((decide ((ByteArray.size s:Int) > (1:Int))) && (byteAt s (0:Int) == (48:Int))):=by
      unfold badNum
      rw [decide_eq_false (show ¬ ((ByteArray.size s:Int) < 1) by omega),decide_eq_false (show ¬ ((ByteArray.size s:Int) > 7) by omega),Bool.and_comm]
      rfl
    simp only [e1,e2,e3,Bool.or_true,if_true,Bool.not_true,Bool.false_or]
    split
    · rfl
    · refine (runL_out (len:=s.size) (fun i a=>(s,a,(i:Int),())) (fun i a=>0≤a∧a < (10:Int) ^ i) (digF s) (fun a=>some (a,())) (fun _=>some (-1,())) ?_ ?_ (by omega) (a:=0) (by simp)).trans (by cases outF (digF s) (List.range s.size) 0<;>rfl)
      · intro next i a hi ha
        have hp:=pow_le i (by omega)
        have hb:=byteAt_lt s (i:Int)
        cases hd:digF s i a with
        | inr e =>
          unfold digF at hd
          split at hd
          · rename_i hc
            simp only [spec_l1Number.B5,lt_dec hi,in_dec hi,Bool.or_true,if_true]
            rw [if_pos hc]
          · cases hd
        | inl a' =>
          refine ⟨dig_inv ha hd,?_⟩
          unfold digF at hd
          split at hd
          · cases hd
          · rename_i hc
            cases hd
            simp only [spec_l1Number.B5,lt_dec hi,in_dec hi,Bool.or_true,if_true]
            rw [if_neg hc,wrap_next hi (show s.size≤1048576 by omega)]
            simp only [Bool.or_eq_true,decide_eq_true_eq,not_or] at hc
            rw [wrap_eq (a:=a * 10) (by omega) (by omega),wrap_eq (a:=byteAt s i) (by omega) (by omega),wrap_eq (a:=a * 10 + byteAt s i) (by omega) (by omega),wrap_eq (by omega) (by omega)]
            rw [show a * 10 + byteAt s i - 48=a * 10 + (byteAt s i - 48) by omega]
      · intro next a ha
        simp only [spec_l1Number.B5,lt_dec',Bool.false_eq_true,if_false]
  · have e1:((decide ((ByteArray.size s:Int)≥(1:Int))) && (decide ((ByteArray.size s:Int)≤(7:Int))))=false:=by
      rw [Bool.and_eq_false_iff,decide_eq_false_iff_not,decide_eq_false_iff_not]; omega
    have e3:badNum s=true:=by
      unfold badNum
      simp only [Bool.or_eq_true,decide_eq_true_eq]
      omega
    simp [e1,e3]
include hn in
theorem implNum_ok (s:ByteArray):impl_decimal.f n (s,())=some (Sum.elim (fun a=>(a,true,())) (fun _=>(0,false,())) (numR s)):=by
  have hn:18446744073709551616≤n:=hn
  unfold impl_decimal.f numR
  by_cases hlen:1≤s.size∧s.size≤7
  · have e2:decide (0≤(0:Int)∧(0:Int) < (ByteArray.size s:Int))=true:=decide_eq_true (by omega)
    simp only [e2,Bool.or_true,if_true]
    rw [show (((decide ((ByteArray.size s:Int) < (1:Int))) || (decide ((ByteArray.size s:Int) > (7:Int)))) || ((byteAt s (0:Int) == (48:Int)) && (decide ((ByteArray.size s:Int) > (1:Int)))))=badNum s from rfl]
    split
    · rfl
    · refine (runL_out (len:=s.size) (fun i a=>(s,a,(s.size:Int),(i:Int),())) (fun i a=>0≤a∧a < (10:Int) ^ i) (digF s) (fun a=>some (a,true,())) (fun _=>some (0,false,())) ?_ ?_ (by omega) (a:=0) (by simp)).trans (by cases outF (digF s) (List.range s.size) 0<;>rfl)
      · intro next i a hi ha
        have hp:=pow_le i (by omega)
        have hb:=byteAt_lt s (i:Int)
        cases hd:digF s i a with
        | inr e =>
          unfold digF at hd
          split at hd
          · rename_i hc
            simp only [impl_decimal.B5,lt_dec hi,in_dec hi,Bool.or_true,if_true]
            rw [if_pos hc]
          · cases hd
        | inl a' =>
          refine ⟨dig_inv ha hd,?_⟩
          unfold digF at hd
          split at hd
          · cases hd
          · rename_i hc
            cases hd
            simp only [impl_decimal.B5,lt_dec hi,in_dec hi,Bool.or_true,if_true]
            rw [if_neg hc,wrap_next hi (show s.size≤1048576 by omega)]
            simp only [Bool.or_eq_true,decide_eq_true_eq,not_or] at hc
            rw [wrap_u8 (a:=byteAt s i - 48) (by omega) (by omega),wrap_eq (a:=a * 10) (by omega) (by omega),wrap_eq (a:=byteAt s i - 48) (by omega) (by omega),wrap_eq (by omega) (by omega)]
      · intro next a ha
        simp only [impl_decimal.B5,lt_dec',Bool.false_eq_true,if_false]
  · have e3:badNum s=true:=by
      unfold badNum
      simp only [Bool.or_eq_true,decide_eq_true_eq]
      omega
    have e4:((decide ((ByteArray.size s:Int) < (1:Int))) || (decide ((ByteArray.size s:Int) > (7:Int))))=true:=by
      simp only [Bool.or_eq_true,decide_eq_true_eq]
      omega
    simp [e4,e3]
end

section
variable {n:Nat} (hn:Big n)
def badByte (s:ByteArray) (i:Nat):Bool :=
  !((((decide (byteAt s (i:Int)≥(97:Int))) && (decide (byteAt s (i:Int)≤(122:Int)))) || ((decide (byteAt s (i:Int)≥(48:Int))) && (decide (byteAt s (i:Int)≤(57:Int))))) || (byteAt s (i:Int) == (45:Int)))
def bytesOkD (s:ByteArray):Bool:=!(List.range s.size).any (badByte s)
def nameOkD (s:ByteArray):Bool:=((decide ((ByteArray.size s:Int)≥(1:Int))) && (decide ((ByteArray.size s:Int)≤(16:Int)))) && bytesOkD s
include hn in
theorem specName_ok (s:ByteArray) (hl:s.size≤1048576):spec_l1NameOk.f n (s,())=some (nameOkD s,()):=by
  have hn:18446744073709551616≤n:=hn
  unfold spec_l1NameOk.f nameOkD
  simp only [spec_l1In.f,Option.bind_some]
  cases h1:((decide ((ByteArray.size s:Int)≥(1:Int))) && (decide ((ByteArray.size s:Int)≤(16:Int)))) with
  | false=>rfl
  | true =>
    simp only [Bool.not_true,Bool.false_eq_true,if_false,Bool.true_and]
    refine (runL_any (len:=s.size) (fun i=>(s,(i:Int),())) (badByte s) (some (false,())) (some (true,())) ?_ ?_ (by omega)).trans (by unfold bytesOkD; cases (List.range s.size).any (badByte s)<;>rfl)
    · intro next i hi
      simp only [spec_l1NameOk.B4,spec_l1Byte.f,lt_dec hi,in_dec hi,wrap_next hi hl,Option.bind_some,Bool.or_true,if_true,badByte]
      rfl
    · intro next
      simp only [spec_l1NameOk.B4,lt_dec',Bool.false_eq_true,if_false]
include hn in
theorem implBytes_ok (s:ByteArray) (hl:s.size≤1048576):impl_nameBytes.f n (s,())=some (bytesOkD s,()):=by
  have hn:18446744073709551616≤n:=hn
  unfold impl_nameBytes.f bytesOkD
  refine (runL_any (len:=s.size) (fun i=>(s,(s.size:Int),(i:Int),())) (badByte s) (some (false,())) (some (true,())) ?_ ?_ (by omega)).trans (by cases (List.range s.size).any (badByte s)<;>rfl)
  · intro next i hi
    simp only [impl_nameBytes.B2,impl_nameByte.f,lt_dec hi,in_dec hi,wrap_next hi hl,Option.bind_some,Bool.or_true,if_true,badByte]
    rfl
  · intro next
    simp only [impl_nameBytes.B2,lt_dec',Bool.false_eq_true,if_false]
include hn in
theorem implName_ok (s:ByteArray) (hl:s.size≤1048576):impl_isName.f n (s,())=some (nameOkD s,()):=by
  unfold impl_isName.f nameOkD
  simp only [implBytes_ok hn s hl,Option.bind_some]
  cases h1:((decide ((ByteArray.size s:Int)≥(1:Int))) && (decide ((ByteArray.size s:Int)≤(16:Int)))) with
  | false=>rfl
  | true=>rfl
end

theorem eqK_refl:∀ {t:Ty} {x:t.den},flat t=true→eqK t x x=true
  | .int _,x,_=>by
    show @BEq.beq Int _ x x=true
    simp
  | .bool,x,_=>by
    show @BEq.beq Bool _ x x=true
    simp
  | .str,x,_=>by
    show seq x x=true
    simp [seq]
  | .unit,_,_=>rfl
  | .pair a b,x,hf=>by
    simp only [flat,Bool.and_eq_true] at hf
    simp only [eqK,Bool.and_eq_true]
    exact ⟨eqK_refl hf.1,eqK_refl hf.2⟩
  | .slice _,_,h=>by simp [flat] at h
  | .ptr _,_,h=>by simp [flat] at h
theorem mget_mput {k:Ty} (l:List (k.den×Int)) (x y:k.den) (n:Int):mget k (mput k l x n) y=if eqK k y x=true then n else mget k l y:=by
  induction l with
  | nil=>rfl
  | cons p l ih =>
    simp only [mput]
    by_cases h1:eqK k x p.1=true
    · have e:=eqK_eq h1
      rw [if_pos h1]
      simp only [mget,e]
      by_cases h2:eqK k y p.1=true<;>simp [h2]
    · rw [if_neg h1]
      simp only [mget,ih]
      by_cases h2:eqK k y p.1=true
      · by_cases h3:eqK k y x=true
        · exact absurd (by rw [← eqK_eq h3,← eqK_eq h2] at *; exact h2) h1
        · simp [h2,h3]
      · simp [h2]
theorem mset_put {k:Ty} (l:List (k.den×Int)) (x:k.den) (n:Int):List.set (mtouch k l x) (mat k l x) ((List.getD (mtouch k l x) (mat k l x) (Ty.zero k,0)).1,n)=mput k l x n:=by
  obtain ⟨p,h1,h2⟩:=touch_set l x n
  rw [List.getD_eq_getElem?_getD,h1]
  exact h2
theorem mat_in {k:Ty} (l:List (k.den×Int)) (x:k.den):mat k l x < List.length (mtouch k l x):=by
  obtain ⟨p,h1,h2⟩:=touch_set l x 0
  exact (List.getElem?_eq_some_iff.1 h1).1
theorem runL_search {S C Q A:Type} {B:(S→Option Q)→C→S→Option Q} {cs:C} {len:Nat} (st:Nat→A→S) (inv:Nat→A→Prop) (p:Nat→Bool) (found:Nat→Option Q) (dn:Option Q)
    (hstep:∀ (next:S→Option Q) (i:Nat) (a:A),i < len→inv i a→if p i=true then B next cs (st i a)=found i else ∃ a',inv (i + 1) a'∧B next cs (st i a)=next (st (i + 1) a'))
    (hend:∀ (next:S→Option Q) (a:A),inv len a→B next cs (st len a)=dn) {k:Nat} (hk:len < k) {a:A} (ha:inv 0 a):runL B cs k (st 0 a)=((List.range len).find? p).elim dn found:=by
  have key:∀ (d i k:Nat) (a:A),i + d=len→d < k→inv i a→runL B cs k (st i a)=((List.range' i d).find? p).elim dn found:=by
    intro d
    induction d with
    | zero =>
      intro i k a hi hk ha
      have:i=len:=by omega
      subst this
      rw [runL_pos B cs (by omega),hend _ _ ha]
      rfl
    | succ d ih =>
      intro i k a hi hk ha
      rw [runL_pos B cs (by omega)]
      have:=hstep (runL B cs (k - 1)) i a (by omega) ha
      rw [List.range'_succ,List.find?_cons]
      rcases Bool.eq_false_or_eq_true (p i) with hp | hp
      · rw [if_pos hp] at this
        rw [this,hp]
        rfl
      · rw [if_neg (by simp [hp])] at this
        obtain ⟨a',h1,h2⟩:=this
        rw [h2,hp,ih (i + 1) (k - 1) a' (by omega) (by omega) h1]
  rw [key len 0 k a (by omega) hk ha,List.range_eq_range']

section
variable {n:Nat} (hn:Big n)
theorem empty_str {s:ByteArray} (h:seq s (⟨#[]⟩:ByteArray)=true):s=⟨#[]⟩:=eqK_eq (t:=.str) h
theorem empty_num {s:ByteArray} (h:seq s (⟨#[]⟩:ByteArray)=true):numR s=.inr ():=by
  rw [empty_str h]
  rfl
theorem empty_name {s:ByteArray} (h:seq s (⟨#[]⟩:ByteArray)=true):nameOkD s=false:=by
  rw [empty_str h]
  rfl
def badChar (s:ByteArray) (i:Nat):Bool:=(decide (byteAt s (i:Int) < (33:Int))) || (decide (byteAt s (i:Int) > (126:Int)))
def hasW (l:List ByteArray) (s:ByteArray):Bool:=(l.findIdx? (fun w=>seq w s)).isSome
def fitsD (f:Ty.den tGateField) (s:ByteArray):Bool :=
  if (f.2.1 == (1:Int))=true then Sum.elim (fun a=>decide (a≥(f.2.2.1:Int)) && decide (a≤(f.2.2.2.1:Int))) (fun _=>false) (numR s)
  else if (f.2.1 == (2:Int))=true then !seq s (⟨#[]⟩:ByteArray) && hasW f.2.2.2.2.1 s
  else if (f.2.1 == (3:Int))=true then !(List.range s.size).any (badChar s) && (!seq s (⟨#[]⟩:ByteArray) && (decide ((ByteArray.size s:Int)≥(f.2.2.1:Int)) && decide ((ByteArray.size s:Int)≤(f.2.2.2.1:Int))))
  else if (f.2.1 == (4:Int))=true then nameOkD s
  else false
include hn in
theorem specHas_ok (l:List ByteArray) (hl:l.length≤1048576) (s:ByteArray):spec_l1Has.f n (l,s,())=some (hasW l s,()):=by
  have hn':18446744073709551616≤n:=hn
  unfold spec_l1Has.f hasW
  refine (runL_find (l:=l) (fun i=>(l,s,(i:Int),())) (fun w=>seq w s) (fun i=>some (true,())) (some (false,())) ?_ ?_ (by omega)).trans (by cases l.findIdx? (fun w=>seq w s)<;>rfl)
  · intro next i hi
    simp only [spec_l1Has.B2,lt_dec hi,in_dec hi,wrap_next hi hl,if_true]
    rw [getD_nat _ _ _ hi]
  · intro next
    simp only [spec_l1Has.B2,lt_dec',Bool.false_eq_true,if_false]
include hn in
theorem specFits_ok (f:Ty.den tGateField) (s:ByteArray) (hs:small 1048576 tGateField f) (hl:s.size≤1048576):spec_GateFits.f n (f,s,())=some (fitsD f s,()):=by
  have hn':18446744073709551616≤n:=hn
  have hw:List.length f.2.2.2.2.1≤1048576:=hs.2.2.2.2.1.1
  unfold spec_GateFits.f fitsD
  have hnum:=specNum_ok hn s
  have hhas:spec_l1Has.f n (f.2.2.2.2.1,s,())=_:=specHas_ok hn f.2.2.2.2.1 hw s
  have hname:=specName_ok hn s hl
  by_cases k1:(f.2.1 == (1:Int))=true
  · simp only [k1,if_true,hnum,Option.bind_some,spec_l1In.f]
    cases hr:numR s with
    | inl a =>
      have hb:=num_bound hr
      have key:∀ (a lo hi:Int),0≤a→((if decide (a≥0)=true then (some (decide (a≥lo) && decide (a≤hi),()):Option (Tup [.bool])) else some (tzero [.bool])).bind fun y2=>some (decide (a≥0) && y2.1,()))=(some (decide (a≥lo) && decide (a≤hi),()):Option (Tup [.bool])):=by
        intro a lo hi h
        rw [decide_eq_true (show a≥0 by omega)]
        rfl
      exact key a _ _ hb.1
    | inr u=>rfl
  simp only [k1,if_false,Bool.false_eq_true]
  by_cases k2:(f.2.1 == (2:Int))=true
  · simp only [k2,if_true,hhas]
    cases seq s (⟨#[]⟩:ByteArray)<;>rfl
  simp only [k2,if_false,Bool.false_eq_true]
  by_cases k3:(f.2.1 == (3:Int))=true
  · simp only [k3,if_true]
    refine (runL_any (len:=s.size) (fun i=>(s,f,(i:Int),())) (badChar s) (some (false,())) (some (!seq s (⟨#[]⟩:ByteArray) && (decide ((ByteArray.size s:Int)≥(f.2.2.1:Int)) && decide ((ByteArray.size s:Int)≤(f.2.2.2.1:Int))),())) ?_ ?_ (by omega)).trans ?_
    · intro next i hi
      have hb:=byteAt_lt s (i:Int)
      have e:(!((decide (byteAt s (i:Int)≥(33:Int))) && (decide (byteAt s (i:Int)≤(126:Int)))))=badChar s i:=by
        unfold badChar
        by_cases a1:byteAt s (i:Int) < 33<;>by_cases a2:byteAt s (i:Int) > 126<;>simp [a1,a2]<;>omega
      simp only [spec_GateFits.B9,lt_dec hi,in_dec hi,if_true,wrap_next hi hl,spec_l1In.f,Option.bind_some,wrap_eq (a:=byteAt s i) (by omega) (by omega),e]
    · intro next
      simp only [spec_GateFits.B9,lt_dec',Bool.false_eq_true,if_false,spec_l1In.f]
      cases seq s (⟨#[]⟩:ByteArray)<;>rfl
    · cases (List.range s.size).any (badChar s)<;>simp
  simp only [k3,if_false,Bool.false_eq_true]
  by_cases k4:(f.2.1 == (4:Int))=true
  · simp only [k4,if_true,hname,Option.bind_some]
  · simp only [k4,if_false,Bool.false_eq_true]
include hn in
theorem implFits_ok (f:Ty.den tGateField) (s:ByteArray) (hs:small 1048576 tGateField f) (hl:s.size≤1048576):impl_GateFits.f n (f,s,())=some (fitsD f s,()):=by
  have hn':18446744073709551616≤n:=hn
  have hw:List.length f.2.2.2.2.1≤1048576:=hs.2.2.2.2.1.1
  have hnum:impl_numberField_fits.f n ((f,()),s,())=some (Sum.elim (fun a=>decide (a≥(f.2.2.1:Int)) && decide (a≤(f.2.2.2.1:Int))) (fun _=>false) (numR s),()):=by
    unfold impl_numberField_fits.f
    simp only [implNum_ok hn s,Option.bind_some]
    cases numR s<;>rfl
  have hword:impl_wordField_fits.f n ((f,()),s,())=some (hasW f.2.2.2.2.1 s,()):=by
    unfold impl_wordField_fits.f hasW
    refine (runL_find (l:=f.2.2.2.2.1) (fun i=>(s,f.2.2.2.2.1,(List.length f.2.2.2.2.1:Int),(i:Int),())) (fun w=>seq w s) (fun i=>some (true,())) (some (false,())) ?_ ?_ (by omega)).trans (by cases List.findIdx? (fun w=>seq w s) f.2.2.2.2.1<;>rfl)
    · intro next i hi
      simp only [impl_wordField_fits.B2,lt_dec hi,in_dec hi,wrap_next hi hw,if_true]
      rw [getD_nat _ _ _ hi]
    · intro next
      simp only [impl_wordField_fits.B2,lt_dec',Bool.false_eq_true,if_false]
  have htext:impl_textField_fits.f n ((f,()),s,())=some ((decide ((ByteArray.size s:Int)≥(f.2.2.1:Int)) && decide ((ByteArray.size s:Int)≤(f.2.2.2.1:Int))) && !(List.range s.size).any (badChar s),()):=by
    unfold impl_textField_fits.f
    have key:∀ (lo hi:Int),(if ((decide ((ByteArray.size s:Int) < lo)) || (decide ((ByteArray.size s:Int) > hi)))=true then some (false,()) else
        runL (impl_textField_fits.B4 n) ((fun z1=>some (z1.1,())),(fun z2=>some (true,())),()) n (s,(ByteArray.size s:Int),(0:Int),()))=(some ((decide ((ByteArray.size s:Int)≥lo) && decide ((ByteArray.size s:Int)≤hi)) && !(List.range s.size).any (badChar s),()):Option (Tup [.bool])):=by
      intro lo hi
      by_cases c:(ByteArray.size s:Int) < lo∨(ByteArray.size s:Int) > hi
      · rw [if_pos (by simpa using c)]
        have:(decide ((ByteArray.size s:Int)≥lo) && decide ((ByteArray.size s:Int)≤hi))=false:=by simp; omega
        rw [this,Bool.false_and]
      · rw [if_neg (by simpa using c)]
        have:(decide ((ByteArray.size s:Int)≥lo) && decide ((ByteArray.size s:Int)≤hi))=true:=by simp; omega
        rw [this,Bool.true_and]
        refine (runL_any (len:=s.size) (fun i=>(s,(ByteArray.size s:Int),(i:Int),())) (badChar s) (some (false,())) (some (true,())) ?_ ?_ (by omega)).trans (by cases (List.range s.size).any (badChar s)<;>rfl)
        · intro next i hi
          simp only [impl_textField_fits.B4,lt_dec hi,in_dec hi,Bool.or_true,if_true,wrap_next hi hl]
          rfl
        · intro next
          simp only [impl_textField_fits.B4,lt_dec',Bool.false_eq_true,if_false]
    exact key _ _
  have hlink:impl_linkField_fits.f n ((f,()),s,())=some (nameOkD s,()):=by
    unfold impl_linkField_fits.f
    simp only [implName_ok hn s hl,Option.bind_some]
  have key:∀ k:Int,f.2.1=k→impl_GateFits.f n (f,s,())=some (fitsD f s,()):=by
    intro k hk
    unfold impl_GateFits.f impl_sortOf.f fitsD
    simp only [Option.bind_some,hnum,hword,htext,hlink]
    rw [hk]
    by_cases k1:k=1
    · subst k1
      rcases Bool.eq_false_or_eq_true (seq s (⟨#[]⟩:ByteArray)) with hse | hse
      · simp [hse,empty_num hse,place4]
      · simp [hse,place4]
    by_cases k2:k=2
    · subst k2
      cases hse:seq s (⟨#[]⟩:ByteArray)<;>simp [place4]
    by_cases k3:k=3
    · subst k3
      cases hse:seq s (⟨#[]⟩:ByteArray)<;>simp [place4,Bool.and_comm]
    by_cases k4:k=4
    · subst k4
      rcases Bool.eq_false_or_eq_true (seq s (⟨#[]⟩:ByteArray)) with hse | hse
      · simp [hse,empty_name hse,place4]
      · simp [hse,place4]
    · have e1:(k == (1:Int))=false:=by simpa using k1
      have e2:(k == (2:Int))=false:=by simpa using k2
      have e3:(k == (3:Int))=false:=by simpa using k3
      have e4:(k == (4:Int))=false:=by simpa using k4
      simp [place4,k1,k2,k3,k4,e1,e2,e3,e4]
  exact key _ rfl
end

section
variable {n:Nat} (hn:Big n)
def fieldAt (F:List (Ty.den tGateField)) (i:Nat):Ty.den tGateField:=List.getD F i (Ty.zero tGateField)
def nameAt (F:List (Ty.den tGateField)) (i:Nat):ByteArray:=(fieldAt F i).1
def wordAt (l:List ByteArray) (i:Nat):ByteArray:=List.getD l i (⟨#[]⟩:ByteArray)
def badWord (l:List ByteArray) (i:Nat):Bool:=!nameOkD (wordAt l i) || (decide (0 < i) && !slt (wordAt l (i - 1)) (wordAt l i))
def ascD (l:List ByteArray):Bool:=!(List.range l.length).any (badWord l)
theorem listGetD_lt {X:Type} (l:List X) (i:Nat) (z:X) (h:i < l.length):l.getD i z=l[i] := by simp [h]
theorem pred_wrap' {i:Nat} (h0:0 < i) (hi:i≤1048576):IntKind.i64.wrap ((i:Int) - 1)=((i - 1:Nat):Int):=by
  rw [wrap_eq (by omega) (by omega)]
  omega
include hn in
theorem specAsc_ok (l:List ByteArray) (hs:small 1048576 (.slice .str) l):spec_l1Ascending.f n (l,())=some (ascD l,()):=by
  have hn':18446744073709551616≤n:=hn
  have hl:List.length l≤1048576:=hs.1
  unfold spec_l1Ascending.f ascD
  refine (runL_any (len:=List.length l) (fun i=>(l,(i:Int),())) (badWord l) (some (false,())) (some (true,())) ?_ ?_ (by omega)).trans (by cases (List.range l.length).any (badWord l)<;>rfl)
  · intro next i hi
    have hsz:ByteArray.size (wordAt l i)≤1048576:=by
      unfold wordAt
      rw [listGetD_lt _ _ _ hi]
      exact hs.2 _ (List.getElem_mem hi)
    have hnm:=specName_ok hn (wordAt l i) hsz
    unfold wordAt at hnm
    simp only [spec_l1Ascending.B2,lt_dec hi,in_dec hi,Bool.or_true,if_true,Int.toNat_natCast,hnm,Option.bind_some,wrap_next hi hl]
    unfold badWord wordAt
    by_cases h0:0 < i
    · have e:decide ((i:Int) > 0)=true:=decide_eq_true (by omega)
      have e2:decide (0≤((i - 1:Nat):Int)∧((i - 1:Nat):Int) < (List.length l:Int))=true:=decide_eq_true (by omega)
      simp only [e,decide_eq_true h0,pred_wrap' h0 (by omega),e2,Int.toNat_natCast,Bool.or_true,if_true,Bool.true_and]
    · have e:decide ((i:Int) > 0)=false:=decide_eq_false (by omega)
      simp only [e,decide_eq_false h0,Bool.and_false,Bool.not_false,Bool.true_or,if_true,Bool.false_and]
  · intro next
    simp only [spec_l1Ascending.B2,lt_dec',Bool.false_eq_true,if_false]
include hn in
theorem implAsc_ok (l:List ByteArray) (hs:small 1048576 (.slice .str) l):impl_ascendingNames.f n (l,())=some (ascD l,()):=by
  have hn':18446744073709551616≤n:=hn
  have hl:List.length l≤1048576:=hs.1
  unfold impl_ascendingNames.f ascD
  refine (runL_any (len:=List.length l) (fun i=>(l,l,(List.length l:Int),(i:Int),())) (badWord l) (some (false,())) (some (true,())) ?_ ?_ (by omega)).trans (by cases (List.range l.length).any (badWord l)<;>rfl)
  · intro next i hi
    have hsz:ByteArray.size (wordAt l i)≤1048576:=by
      unfold wordAt
      rw [listGetD_lt _ _ _ hi]
      exact hs.2 _ (List.getElem_mem hi)
    have hnm:=implName_ok hn (wordAt l i) hsz
    unfold wordAt at hnm
    simp only [impl_ascendingNames.B2,lt_dec hi,in_dec hi,Bool.or_true,if_true,Int.toNat_natCast,hnm,Option.bind_some,wrap_next hi hl]
    unfold badWord wordAt
    by_cases h0:0 < i
    · have e:decide ((i:Int) > 0)=true:=decide_eq_true (by omega)
      have e2:decide (0≤((i - 1:Nat):Int)∧((i - 1:Nat):Int) < (List.length l:Int))=true:=decide_eq_true (by omega)
      simp only [e,decide_eq_true h0,pred_wrap' h0 (by omega),e2,Int.toNat_natCast,Bool.or_true,if_true,Bool.true_and]
    · have e:decide ((i:Int) > 0)=false:=decide_eq_false (by omega)
      simp only [e,decide_eq_false h0,Bool.and_false,Bool.not_false,Bool.true_or,if_true,Bool.false_and]
  · intro next
    simp only [impl_ascendingNames.B2,lt_dec',Bool.false_eq_true,if_false]
abbrev emp (s:ByteArray):Bool:=seq s (⟨#[]⟩:ByteArray)
def bareD (kd lo hi words:Int) (to:ByteArray) (role:Int) (weighs:ByteArray):Bool :=
  if (((!((kd == (1:Int)) || (kd == (3:Int)))) && ((lo != (0:Int)) || (hi != (0:Int)))) || ((kd != (1:Int)) && (!emp weighs)))=true then false
  else if ((kd != (2:Int)) && (decide (words > (0:Int))))=true then false
  else ((kd == (4:Int)) || ((emp to) && (role == (0:Int))))
def soundD (kd lo hi words:Int) (asc has:Bool) (role:Int) (must:Bool) (dflt weighs:ByteArray):Bool :=
  if (kd == (1:Int))=true then (((decide (lo≥(0:Int))) && (decide (lo≤hi))) && (decide (hi≤(1000000:Int)))) && (emp weighs || nameOkD weighs)
  else if (kd == (2:Int))=true then ((decide (words≥(1:Int))) && (decide (words≤(6:Int)))) && asc
  else if (kd == (3:Int))=true then (((decide (lo≥(1:Int))) && (decide (lo≤hi))) && (decide (hi≤(40:Int))))
  else if (kd == (4:Int))=true then ((has && ((decide (role≥(1:Int))) && (decide (role≤(3:Int))))) && emp dflt) && ((role != (2:Int)) || !must)
  else false
def fieldD (K:List ByteArray) (f:Ty.den tGateField):Bool :=
  nameOkD f.1 && bareD f.2.1 f.2.2.1 f.2.2.2.1 (List.length f.2.2.2.2.1:Int) f.2.2.2.2.2.1 f.2.2.2.2.2.2.1 f.2.2.2.2.2.2.2.2.2.2.1
    && (emp f.2.2.2.2.2.2.2.2.2.1 || fitsD f f.2.2.2.2.2.2.2.2.2.1)
    && soundD f.2.1 f.2.2.1 f.2.2.2.1 (List.length f.2.2.2.2.1:Int) (ascD f.2.2.2.2.1) (hasW K f.2.2.2.2.2.1) f.2.2.2.2.2.2.1 f.2.2.2.2.2.2.2.1 f.2.2.2.2.2.2.2.2.2.1 f.2.2.2.2.2.2.2.2.2.2.1
theorem bare_1 (lo hi:Int) (words:Nat) (to:ByteArray) (role:Int) (weighs:ByteArray):bareD 1 lo hi (words:Int) to role weighs=((((words:Int) == (0:Int)) && emp to) && (role == (0:Int))):=by
  unfold bareD
  by_cases h:words=0
  · subst h; simp
  · have e1:((words:Int) == (0:Int))=false:=by simpa using h
    have e2:decide ((words:Int) > 0)=true:=decide_eq_true (by omega)
    rw [e1,e2]; simp
theorem bare_2 (lo hi:Int) (words:Nat) (to:ByteArray) (role:Int) (weighs:ByteArray):bareD 2 lo hi (words:Int) to role weighs=(((((lo == (0:Int)) && (hi == (0:Int))) && emp to) && (role == (0:Int))) && emp weighs):=by
  unfold bareD
  simp only [bne]
  cases lo == (0:Int)<;>cases hi == (0:Int)<;>cases emp weighs<;>cases emp to<;>cases role == (0:Int)<;>rfl
theorem bare_3 (lo hi:Int) (words:Nat) (to:ByteArray) (role:Int) (weighs:ByteArray):bareD 3 lo hi (words:Int) to role weighs=(((((words:Int) == (0:Int)) && emp to) && (role == (0:Int))) && emp weighs):=by
  unfold bareD
  by_cases h:words=0
  · subst h
    cases emp weighs<;>cases emp to<;>cases role == (0:Int)<;>rfl
  · have e1:((words:Int) == (0:Int))=false:=by simpa using h
    have e2:decide ((words:Int) > 0)=true:=decide_eq_true (by omega)
    rw [e1,e2]
    cases emp weighs<;>rfl
theorem bare_4 (lo hi:Int) (words:Nat) (to:ByteArray) (role:Int) (weighs:ByteArray):bareD 4 lo hi (words:Int) to role weighs=((((lo == (0:Int)) && (hi == (0:Int))) && ((words:Int) == (0:Int))) && emp weighs):=by
  unfold bareD
  simp only [bne]
  by_cases h:words=0
  · subst h
    cases lo == (0:Int)<;>cases hi == (0:Int)<;>cases emp weighs<;>rfl
  · have e1:((words:Int) == (0:Int))=false:=by simpa using h
    have e2:decide ((words:Int) > 0)=true:=decide_eq_true (by omega)
    rw [e1,e2]
    cases lo == (0:Int)<;>cases hi == (0:Int)<;>cases emp weighs<;>rfl
include hn in
theorem specShapeS_ok (l:List (Ty.den tGateShape)) (hl:l.length≤1048576) (a:ByteArray):spec_l1Shape.f n (l,a,())=some (fidx (fun t:Ty.den tGateShape=>seq t.1 a) l,()):=by
  have hn:18446744073709551616≤n:=hn
  unfold spec_l1Shape.f
  refine (runL_find (l:=l) (fun i=>(l,a,(i:Int),())) (fun t:Ty.den tGateShape=>seq t.1 a) (fun i=>some ((i:Int),())) (some (-1,())) ?_ ?_ (by omega)).trans ?_
  · intro next i hi
    simp only [spec_l1Shape.B2,lt_dec hi,in_dec hi,wrap_next hi hl,if_true]
    rw [getD_nat _ _ _ hi]
  · intro next
    simp only [spec_l1Shape.B2,lt_dec',Bool.false_eq_true,if_false]
  · simp only [fidx]
    cases l.findIdx? (fun t:Ty.den tGateShape=>seq t.1 a)<;>rfl
def kindsD (L:List (Ty.den tGateShape)):List ByteArray:=L.map (fun t:Ty.den tGateShape=>t.1)
theorem fidx_has (L:List (Ty.den tGateShape)) (a:ByteArray):decide (fidx (fun t:Ty.den tGateShape=>seq t.1 a) L≥(0:Int))=hasW (kindsD L) a:=by
  unfold hasW kindsD
  have e:((L.map (fun t:Ty.den tGateShape=>t.1)).findIdx? (fun w=>seq w a))=L.findIdx? (fun t:Ty.den tGateShape=>seq t.1 a):=by
    induction L with
    | nil=>rfl
    | cons x L ih =>
      rw [List.map_cons,List.findIdx?_cons,List.findIdx?_cons,ih]
  rw [e]
  cases h:L.findIdx? (fun t:Ty.den tGateShape=>seq t.1 a) with
  | none=>rw [fidx_none h]; rfl
  | some i=>rw [fidx_some h]; exact decide_eq_true (by omega)
include hn in
theorem specField_ok (L:List (Ty.den tGateShape)) (hL:small 1048576 (.slice tGateShape) L) (f:Ty.den tGateField) (hf:small 1048576 tGateField f):spec_l1FieldOk.f n (L,f,())=some (fieldD (kindsD L) f,()):=by
  have hn':18446744073709551616≤n:=hn
  have h1:ByteArray.size f.1≤1048576:=hf.1
  have hd:ByteArray.size f.2.2.2.2.2.2.2.2.2.1≤1048576:=hf.2.2.2.2.2.2.2.2.2.1
  have hwg:ByteArray.size f.2.2.2.2.2.2.2.2.2.2.1≤1048576:=hf.2.2.2.2.2.2.2.2.2.2.1
  have hbare:spec_l1Bare.f n (f,())=some (bareD f.2.1 f.2.2.1 f.2.2.2.1 (List.length f.2.2.2.2.1:Int) f.2.2.2.2.2.1 f.2.2.2.2.2.2.1 f.2.2.2.2.2.2.2.2.2.2.1,()):=by
    unfold spec_l1Bare.f bareD
    have key:∀ (c1 c2 e:Bool),(if c1=true then some (false,()) else if c2=true then some (false,()) else some (e,()):Option (Tup [.bool]))=some (if c1=true then false else if c2=true then false else e,()):=by
      intro c1 c2 e; cases c1<;>cases c2<;>rfl
    exact key _ _ _
  have hname:spec_l1NameOk.f n (f.1,())=some (nameOkD f.1,()):=specName_ok hn f.1 h1
  have hfits:spec_GateFits.f n (f,f.2.2.2.2.2.2.2.2.2.1,())=some (fitsD f f.2.2.2.2.2.2.2.2.2.1,()):=specFits_ok hn f _ hf hd
  have hweighs:spec_l1NameOk.f n (f.2.2.2.2.2.2.2.2.2.2.1,())=some (nameOkD f.2.2.2.2.2.2.2.2.2.2.1,()):=specName_ok hn _ hwg
  have hasc:spec_l1Ascending.f n (f.2.2.2.2.1,())=some (ascD f.2.2.2.2.1,()):=specAsc_ok hn _ hf.2.2.2.2.1
  have hshape:spec_l1Shape.f n (L,f.2.2.2.2.2.1,())=some (fidx (fun t:Ty.den tGateShape=>seq t.1 f.2.2.2.2.2.1) L,()):=specShapeS_ok hn L hL.1 _
  unfold spec_l1FieldOk.f fieldD
  simp only [hname,hbare,hfits,hweighs,hasc,hshape,Option.bind_some,spec_l1In.f,fidx_has]
  have key:∀ (N B D F S:Bool) (rest:Option (Tup [.bool])),rest=some (S,()) →
      ((if (!(!N))=true then some (B,()) else some (tzero [.bool])).bind fun y2:Tup [.bool] => (if ((!((!N) || (!y2.1))) && (!D))=true then some (F,()) else some (tzero [.bool])).bind fun y3:Tup [.bool] =>
        if (((!N) || (!y2.1)) || ((!D) && (!y3.1)))=true then some (false,()) else rest)=some (((N && B) && (D || F)) && S,()):=by
    intro N B D F S rest h
    subst h
    cases N<;>cases B<;>cases D<;>cases F<;>rfl
  refine key _ _ _ _ _ _ ?_
  have k1:∀ (c e m:Bool),((if (c && (!e))=true then some (m,()) else some (tzero [.bool])).bind fun y:Tup [.bool] => some (c && (e || y.1),()))=(some (c && (e || m),()):Option (Tup [.bool])):=by
    intro c e m; cases c<;>cases e<;>cases m<;>rfl
  have k2:∀ (c m:Bool),((if c=true then some (m,()) else some (tzero [.bool])).bind fun y:Tup [.bool] => some (c && y.1,()))=(some (c && m,()):Option (Tup [.bool])):=by
    intro c m; cases c<;>cases m<;>rfl
  have k4:∀ (c m e r:Bool),((if c=true then some (m,()) else some (tzero [.bool])).bind fun y:Tup [.bool] => some (((c && y.1) && e) && r,()))=(some (((c && m) && e) && r,()):Option (Tup [.bool])):=by
    intro c m e r; cases c<;>cases m<;>rfl
  unfold soundD
  by_cases e1:(f.2.1 == (1:Int))=true
  · rw [if_pos e1,if_pos e1]; exact k1 _ _ _
  rw [if_neg e1,if_neg e1]
  by_cases e2:(f.2.1 == (2:Int))=true
  · rw [if_pos e2,if_pos e2]; exact k2 _ _
  rw [if_neg e2,if_neg e2]
  by_cases e3:(f.2.1 == (3:Int))=true
  · rw [if_pos e3,if_pos e3]
  rw [if_neg e3,if_neg e3]
  by_cases e4:(f.2.1 == (4:Int))=true
  · rw [if_pos e4,if_pos e4,← fidx_has L f.2.2.2.2.2.1]; exact k4 _ _ _ _
  · rw [if_neg e4,if_neg e4]
end

section
variable {n:Nat} (hn:Big n)
def dupF (F:List (Ty.den tGateField)) (i:Nat):Bool:=(List.range i).any (fun k=>seq (nameAt F k) (nameAt F i))
def badFieldS (K:List ByteArray) (F:List (Ty.den tGateField)) (i:Nat):Bool:=!fieldD K (fieldAt F i) || dupF F i
def fieldsAt (L:List (Ty.den tGateShape)) (i:Nat):List (Ty.den tGateField):=(List.getD L i (Ty.zero tGateShape)).2.1
def badFields (K:List ByteArray) (F:List (Ty.den tGateField)):Bool:=decide ((List.length F:Int) > (6:Int)) || (List.range (List.length F)).any (badFieldS K F)
def shapesD (L:List (Ty.den tGateShape)):Bool:=!decide ((List.length L:Int) > (6:Int)) && (ascD (kindsD L) && !(List.range (List.length L)).any (fun i=>badFields (kindsD L) (fieldsAt L i)))
theorem ite_else {X:Type} {c:Bool} {a b b':X} (h:b=b'):(if c=true then a else b)=if c=true then a else b':=by rw [h]
theorem any_or {l:List Nat} {a b:Nat→Bool}:l.any (fun i=>a i || b i)=(l.any a || l.any b):=by
  induction l with
  | nil=>rfl
  | cons x l ih =>
    simp only [List.any_cons,ih]
    cases a x<;>cases b x<;>cases l.any a<;>cases l.any b<;>rfl
theorem kind_at {L:List (Ty.den tGateShape)} {i:Nat} (hi:i < List.length L):wordAt (kindsD L) i=(List.getD L i (Ty.zero tGateShape)).1:=by
  unfold wordAt kindsD
  rw [listGetD_lt _ _ _ (by simpa using hi),listGetD_lt _ _ _ hi]
  simp
theorem field_small {F:List (Ty.den tGateField)} (hF:small 1048576 (.slice tGateField) F) {i:Nat} (hi:i < List.length F):small 1048576 tGateField (fieldAt F i):=by
  unfold fieldAt
  rw [listGetD_lt _ _ _ hi]
  exact hF.2 _ (List.getElem_mem hi)
theorem shape_small {L:List (Ty.den tGateShape)} (hL:small 1048576 (.slice tGateShape) L) {i:Nat} (hi:i < List.length L):small 1048576 tGateShape (List.getD L i (Ty.zero tGateShape)):=by
  rw [listGetD_lt _ _ _ hi]
  exact hL.2 _ (List.getElem_mem hi)
theorem kinds_small {L:List (Ty.den tGateShape)} (hL:small 1048576 (.slice tGateShape) L):small 1048576 (.slice .str) (kindsD L):=by
  refine ⟨by have:=hL.1; simpa [kindsD] using this,fun x hx=>?_⟩
  simp only [kindsD,List.mem_map] at hx
  obtain ⟨y,hy,rfl⟩:=hx
  exact (hL.2 y hy).1
include hn in
theorem specShapes_ok (L:List (Ty.den tGateShape)) (hL:small 1048576 (.slice tGateShape) L):spec_GateShapesOk.f n (L,())=some (shapesD L,()):=by
  have hn':18446744073709551616≤n:=hn
  have hl:List.length L≤1048576:=hL.1
  unfold spec_GateShapesOk.f shapesD
  by_cases c0:(List.length L:Int) > 6
  · rw [decide_eq_true c0]; rfl
  rw [decide_eq_false c0]
  simp only [Bool.false_eq_true,if_false,Bool.not_false,Bool.true_and]
  refine (runL_any (len:=List.length L) (fun i=>(L,(i:Int),())) (fun i=>badWord (kindsD L) i || badFields (kindsD L) (fieldsAt L i)) (some (false,())) (some (true,())) ?_ ?_ (by omega)).trans ?_
  · intro next i hi
    have hs:=shape_small hL hi
    have hF:small 1048576 (.slice tGateField) (fieldsAt L i):=hs.2.1
    have hFl:List.length (fieldsAt L i)≤1048576:=hF.1
    have hnm:spec_l1NameOk.f n ((List.getD L i (Ty.zero tGateShape)).1,())=some (nameOkD (wordAt (kindsD L) i),()):=by
      rw [kind_at hi]
      exact specName_ok hn _ hs.1
    simp only [spec_GateShapesOk.B4,lt_dec hi,in_dec hi,if_true,Int.toNat_natCast,hnm,Option.bind_some]
    have hcond:(!((!(!nameOkD (wordAt (kindsD L) i))) && (decide ((i:Int) > (0:Int)))) || (decide (0≤(IntKind.i64.wrap ((i:Int) - (1:Int)))∧(IntKind.i64.wrap ((i:Int) - (1:Int))) < (List.length L:Int))))=true:=by
      by_cases h0:0 < i
      · have e2:decide (0≤((i - 1:Nat):Int)∧((i - 1:Nat):Int) < (List.length L:Int))=true:=decide_eq_true (by omega)
        rw [pred_wrap' h0 (by omega),e2,Bool.or_true]
      · rw [decide_eq_false (show ¬ ((i:Int) > 0) by omega),Bool.and_false]; rfl
    have hbad:((!nameOkD (wordAt (kindsD L) i)) || ((decide ((i:Int) > (0:Int))) && (!slt (List.getD L (Int.toNat (IntKind.i64.wrap ((i:Int) - (1:Int)))) (Ty.zero tGateShape)).1 (List.getD L i (Ty.zero tGateShape)).1)))=badWord (kindsD L) i:=by
      unfold badWord
      by_cases h0:0 < i
      · rw [pred_wrap' h0 (by omega),Int.toNat_natCast,← kind_at hi,← kind_at (show i - 1 < List.length L by omega),decide_eq_true h0,decide_eq_true (show (i:Int) > 0 by omega)]
      · rw [decide_eq_false h0,decide_eq_false (show ¬ ((i:Int) > 0) by omega),Bool.false_and,Bool.false_and]
    rw [hcond,hbad]
    simp only [if_true]
    have hrest:∀ (A:Option (Tup [.bool])),(if (badWord (kindsD L) i || decide ((List.length (fieldsAt L i):Int) > (6:Int)))=true then some (false,()) else (if (List.range (List.length (fieldsAt L i))).any (badFieldS (kindsD L) (fieldsAt L i))=true then some (false,()) else A))=(if (badWord (kindsD L) i || badFields (kindsD L) (fieldsAt L i))=true then some (false,()) else A):=by
      intro A
      unfold badFields
      cases badWord (kindsD L) i<;>cases decide ((List.length (fieldsAt L i):Int) > (6:Int))<;>cases (List.range (List.length (fieldsAt L i))).any (badFieldS (kindsD L) (fieldsAt L i))<;>rfl
    rw [← hrest]
    refine ite_else ?_
    refine (runL_any (len:=List.length (fieldsAt L i)) (fun k=>(L,(i:Int),((List.getD L i (Ty.zero tGateShape)).1,fieldsAt L i,()),(k:Int),())) (badFieldS (kindsD L) (fieldsAt L i)) (some (false,())) (next (L,((i + 1:Nat):Int),())) ?_ ?_ (by omega)).trans rfl
    · intro next' k hk
      have hfs:=field_small hF hk
      have hfo:spec_l1FieldOk.f n (L,List.getD (fieldsAt L i) k (Ty.zero tGateField),())=some (fieldD (kindsD L) (fieldAt (fieldsAt L i) k),()):=specField_ok hn L hL _ hfs
      simp only [spec_GateShapesOk.B10,lt_dec hk,in_dec hk,if_true,Int.toNat_natCast,hfo,Option.bind_some]
      have hrest2:∀ (A:Option (Tup [.bool])),(if (!fieldD (kindsD L) (fieldAt (fieldsAt L i) k))=true then some (false,()) else (if dupF (fieldsAt L i) k=true then some (false,()) else A))=(if badFieldS (kindsD L) (fieldsAt L i) k=true then some (false,()) else A):=by
        intro A
        unfold badFieldS
        cases fieldD (kindsD L) (fieldAt (fieldsAt L i) k)<;>cases dupF (fieldsAt L i) k<;>rfl
      rw [← hrest2]
      refine ite_else ?_
      refine (runL_any (len:=k) (fun k2=>(L,(i:Int),((List.getD L i (Ty.zero tGateShape)).1,fieldsAt L i,()),(k:Int),(k2:Int),())) (fun k2=>seq (nameAt (fieldsAt L i) k2) (nameAt (fieldsAt L i) k)) (some (false,())) (next' (L,(i:Int),((List.getD L i (Ty.zero tGateShape)).1,fieldsAt L i,()),((k + 1:Nat):Int),())) ?_ ?_ (by omega)).trans rfl
      · intro next'' k2 hk2
        simp only [spec_GateShapesOk.B15,lt_dec hk2,in_dec (show k2 < List.length (fieldsAt L i) by omega),in_dec hk,Bool.or_true,if_true,Int.toNat_natCast,wrap_next (show k2 < List.length (fieldsAt L i) by omega) hFl]
        rfl
      · intro next''
        simp only [spec_GateShapesOk.B15,lt_dec',Bool.false_eq_true,if_false,wrap_next hk hFl]
    · intro next'
      simp only [spec_GateShapesOk.B10,lt_dec',Bool.false_eq_true,if_false,wrap_next hi hl]
  · intro next
    simp only [spec_GateShapesOk.B4,lt_dec',Bool.false_eq_true,if_false]
  · rw [any_or]
    have e:List.length (kindsD L)=List.length L:=by simp [kindsD]
    unfold ascD
    rw [e]
    cases (List.range (List.length L)).any (badWord (kindsD L))<;>cases (List.range (List.length L)).any (fun i=>badFields (kindsD L) (fieldsAt L i))<;>rfl
include hn in
theorem implField_ok (K:List ByteArray) (hK:small 1048576 (.slice .str) K) (f:Ty.den tGateField) (hf:small 1048576 tGateField f) {R:Type} (A C:Option R) :
    ((impl_sortOf.f n f ()).bind fun y2 =>
        (if (!(!y2.2.2.1))=true then (if (decide (y2.2.1=0))=true then ((impl_numberField_clean.f n ((y2.1,()),())).bind fun r=>some r.1) else (if (decide ((y2.2.1 - 1)=0))=true then ((impl_wordField_clean.f n ((y2.1,()),())).bind fun r=>some r.1) else (if (decide (((y2.2.1 - 1) - 1)=0))=true then ((impl_textField_clean.f n ((y2.1,()),())).bind fun r=>some r.1) else (if (decide ((((y2.2.1 - 1) - 1) - 1)=0))=true then ((impl_linkField_clean.f n ((y2.1,()),())).bind fun r=>some r.1) else none)))) else some false).bind fun y3 =>
        (if (!((!y2.2.2.1) || (!y3)))=true then (if (decide (y2.2.1=0))=true then ((impl_numberField_sound.f n ((y2.1,()),K,())).bind fun r=>some r.1) else (if (decide ((y2.2.1 - 1)=0))=true then ((impl_wordField_sound.f n ((y2.1,()),K,())).bind fun r=>some r.1) else (if (decide (((y2.2.1 - 1) - 1)=0))=true then ((impl_textField_sound.f n ((y2.1,()),K,())).bind fun r=>some r.1) else (if (decide ((((y2.2.1 - 1) - 1) - 1)=0))=true then ((impl_linkField_sound.f n ((y2.1,()),K,())).bind fun r=>some r.1) else none)))) else some false).bind fun y4 =>
        if (((!y2.2.2.1) || (!y3)) || (!y4))=true then A else C) =
      if (bareD f.2.1 f.2.2.1 f.2.2.2.1 (List.length f.2.2.2.2.1:Int) f.2.2.2.2.2.1 f.2.2.2.2.2.2.1 f.2.2.2.2.2.2.2.2.2.2.1 && soundD f.2.1 f.2.2.1 f.2.2.2.1 (List.length f.2.2.2.2.1:Int) (ascD f.2.2.2.2.1) (hasW K f.2.2.2.2.2.1) f.2.2.2.2.2.2.1 f.2.2.2.2.2.2.2.1 f.2.2.2.2.2.2.2.2.2.1 f.2.2.2.2.2.2.2.2.2.2.1)=true then C else A:=by
  have hn':18446744073709551616≤n:=hn
  have hKl:List.length K≤1048576:=hK.1
  have hwg:ByteArray.size f.2.2.2.2.2.2.2.2.2.2.1≤1048576:=hf.2.2.2.2.2.2.2.2.2.2.1
  have c1:impl_numberField_clean.f n ((f,()),())=some (bareD 1 f.2.2.1 f.2.2.2.1 (List.length f.2.2.2.2.1:Int) f.2.2.2.2.2.1 f.2.2.2.2.2.2.1 f.2.2.2.2.2.2.2.2.2.2.1,()):=by
    rw [bare_1]; rfl
  have c2:impl_wordField_clean.f n ((f,()),())=some (bareD 2 f.2.2.1 f.2.2.2.1 (List.length f.2.2.2.2.1:Int) f.2.2.2.2.2.1 f.2.2.2.2.2.2.1 f.2.2.2.2.2.2.2.2.2.2.1,()):=by
    rw [bare_2]; rfl
  have c3:impl_textField_clean.f n ((f,()),())=some (bareD 3 f.2.2.1 f.2.2.2.1 (List.length f.2.2.2.2.1:Int) f.2.2.2.2.2.1 f.2.2.2.2.2.2.1 f.2.2.2.2.2.2.2.2.2.2.1,()):=by
    rw [bare_3]; rfl
  have c4:impl_linkField_clean.f n ((f,()),())=some (bareD 4 f.2.2.1 f.2.2.2.1 (List.length f.2.2.2.2.1:Int) f.2.2.2.2.2.1 f.2.2.2.2.2.2.1 f.2.2.2.2.2.2.2.2.2.2.1,()):=by
    rw [bare_4]; rfl
  have k1:∀ (c e m:Bool),((if (c && (!e))=true then some (m,()) else some (tzero [.bool])).bind fun y:Tup [.bool] => some (c && (e || y.1),()))=(some (c && (e || m),()):Option (Tup [.bool])):=by
    intro c e m; cases c<;>cases e<;>cases m<;>rfl
  have k2:∀ (c m:Bool),((if c=true then some (m,()) else some (tzero [.bool])).bind fun y:Tup [.bool] => some (c && y.1,()))=(some (c && m,()):Option (Tup [.bool])):=by
    intro c m; cases c<;>cases m<;>rfl
  have s1:impl_numberField_sound.f n ((f,()),K,())=some (soundD 1 f.2.2.1 f.2.2.2.1 (List.length f.2.2.2.2.1:Int) (ascD f.2.2.2.2.1) (hasW K f.2.2.2.2.2.1) f.2.2.2.2.2.2.1 f.2.2.2.2.2.2.2.1 f.2.2.2.2.2.2.2.2.2.1 f.2.2.2.2.2.2.2.2.2.2.1,()):=by
    unfold impl_numberField_sound.f
    have hweighs:impl_isName.f n (f.2.2.2.2.2.2.2.2.2.2.1,())=some (nameOkD f.2.2.2.2.2.2.2.2.2.2.1,()):=implName_ok hn _ hwg
    simp only [hweighs]
    exact k1 _ _ _
  have s2:impl_wordField_sound.f n ((f,()),K,())=some (soundD 2 f.2.2.1 f.2.2.2.1 (List.length f.2.2.2.2.1:Int) (ascD f.2.2.2.2.1) (hasW K f.2.2.2.2.2.1) f.2.2.2.2.2.2.1 f.2.2.2.2.2.2.2.1 f.2.2.2.2.2.2.2.2.2.1 f.2.2.2.2.2.2.2.2.2.2.1,()):=by
    unfold impl_wordField_sound.f
    have hasc:impl_ascendingNames.f n (f.2.2.2.2.1,())=some (ascD f.2.2.2.2.1,()):=implAsc_ok hn _ hf.2.2.2.2.1
    simp only [hasc]
    exact k2 _ _
  have s3:impl_textField_sound.f n ((f,()),K,())=some (soundD 3 f.2.2.1 f.2.2.2.1 (List.length f.2.2.2.2.1:Int) (ascD f.2.2.2.2.1) (hasW K f.2.2.2.2.2.1) f.2.2.2.2.2.2.1 f.2.2.2.2.2.2.2.1 f.2.2.2.2.2.2.2.2.2.1 f.2.2.2.2.2.2.2.2.2.2.1,()):=rfl
  have s4:impl_linkField_sound.f n ((f,()),K,())=some (soundD 4 f.2.2.1 f.2.2.2.1 (List.length f.2.2.2.2.1:Int) (ascD f.2.2.2.2.1) (hasW K f.2.2.2.2.2.1) f.2.2.2.2.2.2.1 f.2.2.2.2.2.2.2.1 f.2.2.2.2.2.2.2.2.2.1 f.2.2.2.2.2.2.2.2.2.2.1,()):=by
    unfold impl_linkField_sound.f
    refine (runL_fold (len:=List.length K) (fun i (b:Bool)=>((f,()),b,K,(List.length K:Int),(i:Int),())) (fun _ _=>True) (fun i b=>b || seq (wordAt K i) f.2.2.2.2.2.1) (fun b=>some (((((b && (decide (f.2.2.2.2.2.2.1≥(1:Int)))) && (decide (f.2.2.2.2.2.2.1≤(3:Int)))) && (seq f.2.2.2.2.2.2.2.2.2.1 (⟨#[]⟩:ByteArray))) && (!((f.2.2.2.2.2.2.1 == (2:Int)) && f.2.2.2.2.2.2.2.1))),())) ?_ ?_ (by omega) (a:=false) trivial).trans ?_
    · intro next i b hi _
      refine ⟨trivial,?_⟩
      simp only [impl_linkField_sound.B3,lt_dec hi,in_dec hi,if_true,Int.toNat_natCast,wrap_next hi hKl]
      rfl
    · intro next b _
      simp only [impl_linkField_sound.B3,lt_dec',Bool.false_eq_true,if_false]
    · have hfold:∀ (k:Nat) (b:Bool),(List.range k).foldl (fun b i=>b || seq (wordAt K i) f.2.2.2.2.2.1) b=(b || (List.range k).any (fun i=>seq (wordAt K i) f.2.2.2.2.2.1)):=by
        intro k b
        induction k with
        | zero=>simp
        | succ k ih =>
          rw [List.range_succ,List.foldl_append,ih,List.any_append]
          simp [Bool.or_assoc]
      have hany:(List.range (List.length K)).any (fun i=>seq (wordAt K i) f.2.2.2.2.2.1)=hasW K f.2.2.2.2.2.1:=by
        unfold hasW
        rw [List.findIdx?_isSome]
        rw [Bool.eq_iff_iff,List.any_eq_true,List.any_eq_true]
        constructor
        · rintro ⟨i,hi,h⟩
          have hi:=List.mem_range.1 hi
          refine ⟨K[i],List.getElem_mem hi,?_⟩
          unfold wordAt at h
          rw [listGetD_lt _ _ _ hi] at h
          exact h
        · rintro ⟨x,hx,h⟩
          obtain ⟨i,hi,rfl⟩:=List.getElem_of_mem hx
          refine ⟨i,List.mem_range.2 hi,?_⟩
          unfold wordAt
          rw [listGetD_lt _ _ _ hi]
          exact h
      rw [hfold,Bool.false_or,hany]
      have key:∀ (h a b e r m:Bool),(some (((((h && a) && b) && e) && (!(r && m))),()):Option (Tup [.bool]))=some (((h && (a && b)) && e) && ((!r) || !m),()):=by
        intro h a b e r m; cases h<;>cases a<;>cases b<;>cases e<;>cases r<;>cases m<;>rfl
      exact key _ _ _ _ _ _
  have gen:∀ (b s:Bool),(((some b:Option Bool).bind fun y3=>(if (!((!true) || (!y3)))=true then some s else some false).bind fun y4=>if (((!true) || (!y3)) || (!y4))=true then A else C))=if (b && s)=true then C else A:=by
    intro b s; cases b<;>cases s<;>rfl
  obtain ⟨k,hk⟩:∃ k:Int,f.2.1=k:=⟨_,rfl⟩
  unfold impl_sortOf.f
  simp only [Option.bind_some,c1,c2,c3,c4,s1,s2,s3,s4]
  rw [hk]
  by_cases e1:k=1
  · subst e1; exact gen _ _
  by_cases e2:k=2
  · subst e2; exact gen _ _
  by_cases e3:k=3
  · subst e3; exact gen _ _
  by_cases e4:k=4
  · subst e4; exact gen _ _
  · have h1:(k == (1:Int))=false:=by simpa using e1
    have h2:(k == (2:Int))=false:=by simpa using e2
    have h3:(k == (3:Int))=false:=by simpa using e3
    have h4:(k == (4:Int))=false:=by simpa using e4
    have hp:place4 k=-1:=by simp [place4,e1,e2,e3,e4]
    have hsd:∀ lo hi words asc has role must dflt weighs,soundD k lo hi words asc has role must dflt weighs=false:=by
      intros; unfold soundD; simp only [h1,h2,h3,h4,Bool.false_eq_true,if_false]
    rw [hsd,Bool.and_false,hp]
    rfl
end

section
variable {n:Nat} (hn:Big n)
theorem seq_comm (a b:ByteArray):seq a b=seq b a:=by
  unfold seq
  rw [Bool.eq_iff_iff,beq_iff_eq,beq_iff_eq]
  exact eq_comm
def cntN (F:List (Ty.den tGateField)) (i:Nat) (s:ByteArray):Nat:=(List.range i).countP (fun k=>seq s (nameAt F k))
theorem cntN_succ (F:List (Ty.den tGateField)) (i:Nat) (s:ByteArray):cntN F (i + 1) s=cntN F i s + if seq s (nameAt F i)=true then 1 else 0:=by
  unfold cntN
  rw [List.range_succ,List.countP_append]
  simp only [List.countP_cons,List.countP_nil,Nat.zero_add]
theorem cntN_le (F:List (Ty.den tGateField)) (i:Nat) (s:ByteArray):cntN F i s≤i:=by
  unfold cntN
  exact Nat.le_trans List.countP_le_length (by simp)
theorem dup_cnt (F:List (Ty.den tGateField)) (i:Nat):decide (((cntN F i (nameAt F i):Nat):Int) + 1 > 1)=dupF F i:=by
  unfold dupF cntN
  cases h:(List.range i).any (fun k=>seq (nameAt F k) (nameAt F i)) with
  | true =>
    obtain ⟨k,hk,hs⟩:=List.any_eq_true.1 h
    have:0 < (List.range i).countP (fun k=>seq (nameAt F i) (nameAt F k)):=List.countP_pos_iff.2 ⟨k,hk,by rw [seq_comm]; exact hs⟩
    exact decide_eq_true (by omega)
  | false =>
    have:(List.range i).countP (fun k=>seq (nameAt F i) (nameAt F k))=0:=by
      rw [List.countP_eq_zero]
      intro k hk
      have:=List.any_eq_false.1 h k hk
      rw [seq_comm]
      exact this
    rw [this]
    rfl
include hn in
theorem implShape1_ok (K:List ByteArray) (hK:small 1048576 (.slice .str) K) (s:Ty.den tGateShape) (hs:small 1048576 tGateShape s):impl_shapeOk.f n (s,K,())=some (!badFields K s.2.1,()):=by
  have hn':18446744073709551616≤n:=hn
  obtain ⟨kd,F,⟨⟩⟩:=s
  have hF:small 1048576 (.slice tGateField) F:=hs.2.1
  have hFl:List.length F≤1048576:=hF.1
  unfold impl_shapeOk.f badFields
  by_cases c0:(List.length F:Int) > 6
  · have c0':decide ((List.length F:Int) > 6)=true:=decide_eq_true c0
    simp only [c0',if_true,Bool.true_or,Bool.not_true]
  have c0':decide ((List.length F:Int) > 6)=false:=decide_eq_false c0
  simp only [c0',Bool.false_eq_true,if_false,Bool.false_or]
  refine (runL_search (len:=List.length F) (A:=List (ByteArray×Int)) (fun i a=>(K,a,F,(List.length F:Int),(i:Int),())) (fun i a=>∀ s,mget .str a s=((cntN F i s:Nat):Int)) (badFieldS K F) (fun _=>some (false,())) (some (true,())) ?_ ?_ (by omega) (a:=[]) ?_).trans ?_
  · intro next i a hi ha
    have hfs:=field_small hF hi
    have hd:ByteArray.size (fieldAt F i).2.2.2.2.2.2.2.2.2.1≤1048576:=hfs.2.2.2.2.2.2.2.2.2.1
    have hnm:impl_isName.f n ((fieldAt F i).1,())=some (nameOkD (nameAt F i),()):=implName_ok hn _ hfs.1
    have hfit:impl_GateFits.f n (fieldAt F i,(fieldAt F i).2.2.2.2.2.2.2.2.2.1,())=some (fitsD (fieldAt F i) (fieldAt F i).2.2.2.2.2.2.2.2.2.1,()):=implFits_ok hn _ _ hfs hd
    have hc:=cntN_le F i (nameAt F i)
    have hw1:IntKind.i64.wrap (mget .str a (nameAt F i) + 1)=((cntN F i (nameAt F i):Nat):Int) + 1:=by
      rw [ha,wrap_eq (by omega) (by omega)]
    have hstep:∀ cs:Conts (Tup [.bool]) impl_shapeOk.l5.outs,impl_shapeOk.B5 n next cs (K,a,F,(List.length F:Int),(i:Int),())=if badFieldS K F i=true then cs.1 (false,()) else next (K,mput .str a (nameAt F i) (((cntN F i (nameAt F i):Nat):Int) + 1),F,(List.length F:Int),((i + 1:Nat):Int),()):=by
      intro cs
      have hg:mget .str (mput .str a (nameAt F i) (((cntN F i (nameAt F i):Nat):Int) + 1)) (nameAt F i)=((cntN F i (nameAt F i):Nat):Int) + 1:=by
        rw [mget_mput,if_pos (eqK_refl (t:=.str) (by rfl))]
      simp only [impl_shapeOk.B5,lt_dec hi,in_dec hi,if_true,Int.toNat_natCast,wrap_next hi hFl]
      show ((impl_isName.f n ((fieldAt F i).1,())).bind fun y1=>if ((!y1.1) || (decide ((mget .str (mput .str a (nameAt F i) (IntKind.i64.wrap ((mget .str a (nameAt F i)) + (1:Int)))) (nameAt F i)) > (1:Int))))=true then cs.1 (false,()) else _)=_
      rw [hnm,Option.bind_some,hw1,hg,dup_cnt]
      refine (ite_else (implField_ok hn K hK (fieldAt F i) hfs _ _)).trans ?_
      have key:∀ (N D Bd Sd E Fi:Bool) (X Y:Option (Tup [.bool])),
          (if ((!N) || D)=true then X else if (Bd && Sd)=true then ((if (!E)=true then some (Fi,()) else some (tzero [.bool])).bind fun y5:Tup [.bool] => if ((!E) && (!y5.1))=true then X else Y) else X)
            = if (!(((N && Bd) && (E || Fi)) && Sd) || D)=true then X else Y:=by
        intro N D Bd Sd E Fi X Y
        cases N<;>cases D<;>cases Bd<;>cases Sd<;>cases E<;>cases Fi<;>rfl
      have hkey:=fun Bd Sd=>key (nameOkD (nameAt F i)) (dupF F i) Bd Sd (emp (fieldAt F i).2.2.2.2.2.2.2.2.2.1) (fitsD (fieldAt F i) (fieldAt F i).2.2.2.2.2.2.2.2.2.1) (cs.1 (false,())) (next (K,mput .str a (nameAt F i) (((cntN F i (nameAt F i):Nat):Int) + 1),F,(List.length F:Int),((i + 1:Nat):Int),()))
      refine Eq.trans ?_ (hkey (bareD (fieldAt F i).2.1 (fieldAt F i).2.2.1 (fieldAt F i).2.2.2.1 (List.length (fieldAt F i).2.2.2.2.1:Int) (fieldAt F i).2.2.2.2.2.1 (fieldAt F i).2.2.2.2.2.2.1 (fieldAt F i).2.2.2.2.2.2.2.2.2.2.1)
        (soundD (fieldAt F i).2.1 (fieldAt F i).2.2.1 (fieldAt F i).2.2.2.1 (List.length (fieldAt F i).2.2.2.2.1:Int) (ascD (fieldAt F i).2.2.2.2.1) (hasW K (fieldAt F i).2.2.2.2.2.1) (fieldAt F i).2.2.2.2.2.2.1 (fieldAt F i).2.2.2.2.2.2.2.1 (fieldAt F i).2.2.2.2.2.2.2.2.2.1 (fieldAt F i).2.2.2.2.2.2.2.2.2.2.1))
      rw [← hfit,← hw1]
      rfl
    by_cases hb:badFieldS K F i=true
    · rw [if_pos hb,hstep,if_pos hb]
    · rw [if_neg hb]
      refine ⟨mput .str a (nameAt F i) (((cntN F i (nameAt F i):Nat):Int) + 1),fun t=>?_,?_⟩
      · rw [mget_mput,cntN_succ]
        have e0:eqK .str t (nameAt F i)=seq t (nameAt F i):=rfl
        rw [e0]
        by_cases hst:seq t (nameAt F i)=true
        · rw [if_pos hst,if_pos hst,(eqK_eq (t:=.str) hst)]
          rfl
        · rw [if_neg hst,if_neg hst,ha t]
          rfl
      · rw [hstep,if_neg hb]
  · intro next a _
    simp only [impl_shapeOk.B5,lt_dec',Bool.false_eq_true,if_false]
  · intro s; rfl
  · have hfind:∀ (p:Nat→Bool) (l:List Nat) (x y:Option (Tup [.bool])),(l.find? p).elim x (fun _=>y)=if l.any p=true then y else x:=by
      intro p l x y
      induction l with
      | nil=>rfl
      | cons z l ih =>
        rw [List.find?_cons,List.any_cons]
        cases p z with
        | true=>rfl
        | false=>rw [Bool.false_or]; exact ih
    rw [hfind]
    cases (List.range (List.length F)).any (badFieldS K F)<;>rfl
include hn in
theorem implShapes_ok (L:List (Ty.den tGateShape)) (hL:small 1048576 (.slice tGateShape) L):impl_GateShapesOk.f n (L,())=some (shapesD L,()):=by
  have hn':18446744073709551616≤n:=hn
  have hl:List.length L≤1048576:=hL.1
  have hK:=kinds_small hL
  unfold impl_GateShapesOk.f shapesD
  by_cases c0:(List.length L:Int) > 6
  · rw [decide_eq_true c0]; rfl
  rw [decide_eq_false c0]
  have c1:decide (0≤(0:Int)∧(0:Int)≤(List.length L:Int)∧(List.length L:Int) * (16:Int)≤140737488355328)=true:=decide_eq_true (by omega)
  rw [c1]
  simp only [Bool.false_eq_true,if_false,if_true,Bool.not_false,Bool.true_and]
  refine (runL_fold (len:=List.length L) (fun i (o:List ByteArray)=>(L,o,L,(List.length L:Int),(i:Int),())) (fun i o=>o=(List.range i).map (fun j=>(List.getD L j (Ty.zero tGateShape)).1)) (fun i o=>o++[(List.getD L i (Ty.zero tGateShape)).1]) (fun o=>some (ascD (kindsD L) && !(List.range (List.length L)).any (fun i=>badFields (kindsD L) (fieldsAt L i)),())) ?_ ?_ (by omega) (a:=[]) rfl).trans rfl
  · intro next i o hi ho
    have hlen:o.length=i:=by rw [ho]; simp
    refine ⟨by rw [ho,List.range_succ,List.map_append]; rfl,?_⟩
    have happ:appBound (List.length o) (List.length [(List.getD L i (Ty.zero tGateShape)).1]) 16=true:=by
      unfold appBound
      rw [Nat.ble_eq,hlen]
      simp
      omega
    simp only [impl_GateShapesOk.B5,lt_dec hi,in_dec hi,if_true,Int.toNat_natCast,wrap_next hi hl]
    rw [if_pos happ]
  · intro next o ho
    have hk:o=kindsD L:=by
      rw [ho]
      unfold kindsD
      apply List.ext_getElem
      · simp
      · intro j h1 h2
        simp only [List.getElem_map,List.getElem_range]
        rw [listGetD_lt _ _ _ (by simpa using h1)]
    subst hk
    simp only [impl_GateShapesOk.B5,lt_dec',Bool.false_eq_true,if_false,implAsc_ok hn (kindsD L) hK,Option.bind_some]
    cases hasc:ascD (kindsD L) with
    | false=>rfl
    | true =>
      simp only [Bool.not_true,Bool.false_eq_true,if_false,Bool.true_and]
      refine (runL_any (len:=List.length L) (fun i=>(kindsD L,L,(List.length L:Int),(i:Int),())) (fun i=>badFields (kindsD L) (fieldsAt L i)) (some (false,())) (some (true,())) ?_ ?_ (by omega)).trans (by cases (List.range (List.length L)).any (fun i=>badFields (kindsD L) (fieldsAt L i))<;>rfl)
      · intro next' i hi
        have h1:impl_shapeOk.f n (List.getD L i (Ty.zero tGateShape),kindsD L,())=some (!badFields (kindsD L) (fieldsAt L i),()):=implShape1_ok hn (kindsD L) hK _ (shape_small hL hi)
        simp only [impl_GateShapesOk.B12,lt_dec hi,in_dec hi,if_true,Int.toNat_natCast,h1,Option.bind_some,wrap_next hi hl,Bool.not_not]
      · intro next'
        simp only [impl_GateShapesOk.B12,lt_dec',Bool.false_eq_true,if_false]
end

section
variable {V:List ByteArray} {R:ByteArray→List ByteArray}
def Topo (R:ByteArray→List ByteArray) (l:List ByteArray):Prop:=∀ l1 x l2,l=l1++x :: l2→∀ y∈R x,y∈l1
def Ranked (V:List ByteArray) (R:ByteArray→List ByteArray) (rk:ByteArray→Nat):Prop:=∀ x∈V,∀ y∈R x,rk y < rk x
theorem Topo.nil:Topo R [] := fun l1 x l2 h=>by
  have:=congrArg List.length h
  simp at this
theorem Topo.snoc {l:List ByteArray} {x:ByteArray} (h:Topo R l) (hx:∀ y∈R x,y∈l):Topo R (l++[x]):=by
  intro l1 z l2 he y hy
  rcases List.eq_nil_or_concat l2 with rfl | ⟨l3,w,rfl⟩
  · have h1:l=l1∧[x]=[z] := List.append_inj' he rfl
    obtain ⟨rfl,h2⟩:=h1
    cases h2
    exact hx y hy
  · have h1:l++[x]=(l1++z :: l3)++[w] := by rw [he]; simp
    obtain ⟨h2,_⟩:=List.append_inj' h1 rfl
    exact h l1 z l3 h2 y hy
theorem seq_refl' (x:ByteArray):seq x x=true:=eqK_refl (t:=.str) rfl
theorem seq_eq' {x y:ByteArray} (h:seq x y=true):x=y:=eqK_eq (t:=.str) h
theorem seq_iff {x y:ByteArray}:seq x y=true↔x=y:=⟨seq_eq',fun h=>h ▸ seq_refl' x⟩
def rankIn (l:List ByteArray) (y:ByteArray):Nat:=l.findIdx (fun z=>seq z y)
theorem Topo.rank {l:List ByteArray} (h:Topo R l) (hV:∀ x∈V,x∈l):Ranked V R (rankIn l):=by
  intro x hx y hy
  obtain ⟨l1,l2,rfl,hn⟩:=List.eq_append_cons_of_mem (hV x hx)
  have h1:=h l1 x l2 rfl y hy
  unfold rankIn
  have e1:l1.findIdx (fun z=>seq z y) < l1.length:=List.findIdx_lt_length_of_exists ⟨y,h1,seq_refl' y⟩
  have e2:¬ l1.findIdx (fun z=>seq z x) < l1.length:=fun hlt=>by
    have:=List.findIdx_getElem (w:=hlt)
    exact hn (seq_eq' this ▸ List.getElem_mem hlt)
  rw [List.findIdx_append,List.findIdx_append,if_pos e1,if_neg e2]
  omega
theorem nodup_len:∀ {l V:List ByteArray},l.Nodup→(∀ x∈l,x∈V)→l.length≤V.length
  | [],_,_,_=>Nat.zero_le _
  | a :: l,V,hn,hs=>by
    rw [List.nodup_cons] at hn
    obtain ⟨V1,V2,rfl,_⟩:=List.eq_append_cons_of_mem (hs a (by simp))
    have h1:=nodup_len (V:=V1++V2) hn.2 (fun x hx=>by
      have h2:=hs x (List.mem_cons_of_mem _ hx)
      simp only [List.mem_append,List.mem_cons] at h2 ⊢
      rcases h2 with h2 | rfl | h2
      · exact .inl h2
      · exact absurd hx hn.1
      · exact .inr h2)
    simp only [List.length_append,List.length_cons] at h1 ⊢
    omega
theorem mget_put (m:List (ByteArray×Int)) (x y:ByteArray) (n:Int):mget .str (mput .str m x n) y=if y=x then n else mget .str m y:=by
  have h:=mget_mput (k:=.str) m x y n
  have e:eqK .str y x=seq y x:=rfl
  rw [e] at h
  by_cases hx:y=x
  · rw [if_pos hx]; rw [if_pos (seq_iff.2 hx)] at h; exact h
  · rw [if_neg hx]; rw [if_neg (fun hs=>hx (seq_iff.1 hs))] at h; exact h
def unv (V:List ByteArray) (m:List (ByteArray×Int)):Nat:=V.countP (fun x=>mget .str m x == 0)
structure Wst (V:List ByteArray) (R:ByteArray→List ByteArray) (m:List (ByteArray×Int)) (l:List ByteArray):Prop where
  st:∀ x,mget .str m x=0∨mget .str m x=1∨mget .str m x=2
  dn:∀ x,mget .str m x=2↔x∈l
  nd:l.Nodup
  sub:∀ x∈l,x∈V
  topo:Topo R l
structure Wok (V:List ByteArray) (R:ByteArray→List ByteArray) (m m':List (ByteArray×Int)) (l':List ByteArray):Prop where
  w:Wst V R m' l'
  ac:∀ y,mget .str m' y=1↔mget .str m y=1
  un:unv V m'≤unv V m
  up:∀ y,mget .str m y=2→mget .str m' y=2
theorem Wok.trans {m m1 m2:List (ByteArray×Int)} {l1 l2:List ByteArray} (h:Wok V R m m1 l1) (k:Wok V R m1 m2 l2):Wok V R m m2 l2 :=
  ⟨k.w,fun y=>(k.ac y).trans (h.ac y),Nat.le_trans k.un h.un,fun y hy=>k.up y (h.up y hy)⟩
theorem countP_le {p q:ByteArray→Bool} {l:List ByteArray} (h:∀ x∈l,p x=true→q x=true):l.countP p≤l.countP q:=List.countP_mono_left h
theorem countP_lt {p q:ByteArray→Bool}:∀ {l:List ByteArray},(∀ x∈l,p x=true→q x=true)→∀ {z:ByteArray},z∈l→p z=false→q z=true→l.countP p + 1≤l.countP q
  | a :: l,h,z,hz,hp,hq=>by
    have hm:l.countP p≤l.countP q:=countP_le (fun x hx=>h x (List.mem_cons_of_mem _ hx))
    rcases List.mem_cons.1 hz with rfl | hz
    · rw [List.countP_cons_of_neg (by simp [hp]),List.countP_cons_of_pos hq]
      omega
    · have ih:=countP_lt (fun x hx=>h x (List.mem_cons_of_mem _ hx)) hz hp hq
      by_cases ha:p a=true
      · rw [List.countP_cons_of_pos ha,List.countP_cons_of_pos (h a (by simp) ha)]
        omega
      · rw [List.countP_cons_of_neg ha]
        by_cases hb:q a=true
        · rw [List.countP_cons_of_pos hb]; omega
        · rw [List.countP_cons_of_neg hb]; omega
variable {rd:ByteArray→Option (List ByteArray)}
def GoOk (V:List ByteArray) (R:ByteArray→List ByteArray) (ys:List ByteArray) (m:List (ByteArray×Int)) (r:Bool×RowS):Prop :=
  (r.1=true→Wok V R m r.2.1 r.2.2∧∀ y∈ys,mget .str r.2.1 y=2)∧(r.1=false→∀ rk,Ranked V R rk→¬ ∀ a,mget .str m a=1→∀ y∈ys,rk y < rk a)
theorem go_step {wk:ByteArray→RowS→Option (Bool×RowS)} {k:Nat} (hwk:∀ x m l,x∈V→Wst V R m l→unv V m < k→∃ r,wk x (m,l)=some r∧GoOk V R [x] m r) :
    ∀ (ys:List ByteArray) (m:List (ByteArray×Int)) (l:List ByteArray),(∀ y∈ys,y∈V)→Wst V R m l→unv V m < k→∃ r,goP wk ys (m,l)=some r∧GoOk V R ys m r
  | [],m,l,_,hw,_=>⟨(true,(m,l)),rfl,fun _=>⟨⟨hw,fun _=>Iff.rfl,Nat.le_refl _,fun _ h=>h⟩,fun y hy=>by cases hy⟩,fun h=>by cases h⟩
  | y :: ys,m,l,hV,hw,hk=>by
    obtain ⟨r1,h1,hg1⟩:=hwk y m l (hV y (by simp)) hw hk
    simp only [goP,h1,Option.bind_some]
    rcases Bool.eq_false_or_eq_true r1.1 with c | c
    · rw [if_pos c]
      obtain ⟨hok,hall⟩:=hg1.1 c
      obtain ⟨r2,h2,hg2⟩:=go_step hwk ys r1.2.1 r1.2.2 (fun z hz=>hV z (List.mem_cons_of_mem _ hz)) hok.w (Nat.lt_of_le_of_lt hok.un hk)
      refine ⟨r2,h2,fun hr=>?_,fun hr rk hrk hac=>?_⟩
      · obtain ⟨hok2,hall2⟩:=hg2.1 hr
        refine ⟨hok.trans hok2,fun z hz=>?_⟩
        rcases List.mem_cons.1 hz with rfl | hz
        · exact hok2.up z (hall z (by simp))
        · exact hall2 z hz
      · exact hg2.2 hr rk hrk (fun a ha z hz=>hac a ((hok.ac a).1 ha) z (List.mem_cons_of_mem _ hz))
    · rw [if_neg (by simp [c])]
      exact ⟨_,rfl,fun hr=>(by cases hr),fun _ rk hrk hac=>hg1.2 c rk hrk (fun a ha z hz=>hac a ha z (by simp at hz; simp [hz]))⟩
theorem walk_step (hrd:∀ x∈V,rd x=some (R x)) (hR:∀ x∈V,∀ y∈R x,y∈V) (hRl:∀ x∈V,(R x).length≤1000) (hVl:V.length≤1000) :
    ∀ (k:Nat) (x:ByteArray) (m:List (ByteArray×Int)) (l:List ByteArray),x∈V→Wst V R m l→unv V m < k→∃ r,walkP rd k x (m,l)=some r∧GoOk V R [x] m r:=by
  intro k
  induction k with
  | zero=>intro x m l _ _ h; omega
  | succ k ih =>
    intro x m l hx hw hk
    simp only [walkP]
    by_cases h1:mget .str m x=1
    · rw [if_pos (by simpa using h1)]
      refine ⟨_,rfl,fun hr=>(by cases hr),fun _ rk hrk hac=>?_⟩
      exact Nat.lt_irrefl _ (hac x h1 x (by simp))
    rw [if_neg (by simpa using h1)]
    by_cases h2:mget .str m x=2
    · rw [if_pos (by simpa using h2)]
      exact ⟨_,rfl,fun _=>⟨⟨hw,fun _=>Iff.rfl,Nat.le_refl _,fun _ h=>h⟩,fun y hy=>by simp at hy; rw [hy]; exact h2⟩,fun hr=>by cases hr⟩
    rw [if_neg (by simpa using h2)]
    have h0:mget .str m x=0:=by
      rcases hw.st x with h | h | h
      · exact h
      · exact absurd h h1
      · exact absurd h h2
    have hble:Nat.ble (R x).length 4611686018427387904=true:=by
      rw [Nat.ble_eq]
      have:=hRl x hx
      omega
    rw [hrd x hx,Option.bind_some,if_pos hble]
    have hw1:Wst V R (mput .str m x 1) l:=by
      refine ⟨fun y=>?_,fun y=>?_,hw.nd,hw.sub,hw.topo⟩
      · rw [mget_put]
        by_cases e:y=x
        · rw [if_pos e]; simp
        · rw [if_neg e]; exact hw.st y
      · rw [mget_put]
        by_cases e:y=x
        · rw [if_pos e,e,← hw.dn x,h0]; simp
        · rw [if_neg e]; exact hw.dn y
    have hun:unv V (mput .str m x 1) + 1≤unv V m:=by
      refine countP_lt (fun y _ hy=>?_) hx ?_ ?_
      · rw [mget_put] at hy
        by_cases e:y=x
        · rw [if_pos e] at hy; cases hy
        · rw [if_neg e] at hy; exact hy
      · rw [mget_put,if_pos rfl]; rfl
      · simp [h0]
    obtain ⟨r,hr,hg⟩:=go_step ih (R x) (mput .str m x 1) l (hR x hx) hw1 (by omega)
    have hr':goP (walkP rd k) (R x) (mput .str m x 1,l)=some r:=hr
    rw [hr',Option.bind_some]
    rcases Bool.eq_false_or_eq_true r.1 with c | c
    · rw [if_pos c]
      obtain ⟨hok,hall⟩:=hg.1 c
      have hlen:r.2.2.length≤V.length:=by
        exact nodup_len hok.w.nd hok.w.sub
      have hbd:appBound r.2.2.length 1 16=true:=by
        unfold appBound
        rw [Nat.ble_eq]
        omega
      rw [if_pos hbd]
      have hx1:mget .str r.2.1 x=1:=(hok.ac x).2 (by rw [mget_put,if_pos rfl])
      refine ⟨_,rfl,fun _=>⟨⟨⟨fun y=>?_,fun y=>?_,?_,?_,?_⟩,fun y=>?_,?_,fun y hy=>?_⟩,fun y hy=>?_⟩,fun hr=>by cases hr⟩
      · rw [mget_put]
        by_cases e:y=x
        · rw [if_pos e]; simp
        · rw [if_neg e]; exact hok.w.st y
      · rw [mget_put,List.mem_append]
        by_cases e:y=x
        · rw [if_pos e]; simp [e]
        · rw [if_neg e,hok.w.dn y]; simp [e]
      · rw [List.nodup_append]
        refine ⟨hok.w.nd,by simp,fun a ha b hb e=>?_⟩
        simp at hb
        rw [e,hb] at ha
        have:=(hok.w.dn x).2 ha
        rw [hx1] at this
        cases this
      · intro y hy
        rcases List.mem_append.1 hy with h | h
        · exact hok.w.sub y h
        · simp at h; rw [h]; exact hx
      · exact hok.w.topo.snoc (fun y hy=>(hok.w.dn y).1 (hall y hy))
      · rw [mget_put]
        by_cases e:y=x
        · rw [if_pos e,e,h0]; simp
        · rw [if_neg e,hok.ac y,mget_put,if_neg e]
      · refine Nat.le_trans (countP_le (fun y _ hy=>?_)) (Nat.le_trans hok.un (by omega))
        rw [mget_put] at hy
        by_cases e:y=x
        · rw [if_pos e] at hy; cases hy
        · rw [if_neg e] at hy; exact hy
      · rw [mget_put]
        by_cases e:y=x
        · rw [e,h0] at hy; cases hy
        · rw [if_neg e]
          exact hok.up y (by rw [mget_put,if_neg e]; exact hy)
      · simp at hy
        rw [hy,mget_put,if_pos rfl]
    · rw [if_neg (by simp [c])]
      refine ⟨_,rfl,fun hr=>(by cases hr),fun _ rk hrk hac=>hg.2 c rk hrk (fun a ha y hy=>?_)⟩
      rw [mget_put] at ha
      by_cases e:a=x
      · rw [e]; exact hrk x hx y hy
      · rw [if_neg e] at ha
        exact Nat.lt_trans (hrk x hx y hy) (hac a ha x (by simp))
theorem row_comes (hrd:∀ x∈V,rd x=some (R x)) (hR:∀ x∈V,∀ y∈R x,y∈V) (hRl:∀ x∈V,(R x).length≤1000) (hVl:V.length≤1000) {n:Nat} (hn:1000 < n) :
    ∃ r:Bool×RowS,goP (walkP rd n) V ([],[])=some r∧(r.1=true→r.2.2.Nodup∧(∀ x,x∈r.2.2↔x∈V)∧Topo R r.2.2)∧(r.1=false→∀ rk,¬ Ranked V R rk):=by
  have hw:Wst V R [] [] := ⟨fun _=>.inl rfl,fun x=>⟨fun h=>(by cases h),fun h=>(by cases h)⟩,List.nodup_nil,fun x h=>(by cases h),Topo.nil⟩
  have hu:unv V [] < n:=Nat.lt_of_le_of_lt List.countP_le_length (by omega)
  obtain ⟨r,hr,hg⟩:=go_step (walk_step hrd hR hRl hVl n) V [] [] (fun _ h=>h) hw hu
  refine ⟨r,hr,fun c=>?_,fun c rk hrk=>hg.2 c rk hrk (fun a ha=>by cases ha)⟩
  obtain ⟨hok,hall⟩:=hg.1 c
  exact ⟨hok.w.nd,fun x=>⟨hok.w.sub x,fun hx=>(hok.w.dn x).1 (hall x hx)⟩,hok.w.topo⟩
end

section
variable {V:List ByteArray} {R:ByteArray→List ByteArray}
theorem hasW_iff {l:List ByteArray} {s:ByteArray}:hasW l s=true↔s∈l:=by
  unfold hasW
  cases hf:l.findIdx? (fun w=>seq w s) with
  | none =>
    have h1:=List.findIdx?_eq_none_iff.1 hf
    simp only [Option.isSome_none,Bool.false_eq_true,false_iff]
    intro hm
    have:=h1 s hm
    rw [seq_refl' s] at this
    cases this
  | some i =>
    simp only [Option.isSome_some,true_iff]
    obtain ⟨hi,h1,_⟩:=List.findIdx?_eq_some_iff_getElem.1 hf
    exact seq_eq' h1 ▸ List.getElem_mem hi
def growK (V:List ByteArray) (R:ByteArray→List ByteArray) (row:List ByteArray):List ByteArray :=
  match V.find? (fun f=>!hasW row f && (R f).all (hasW row)) with
  | none=>row
  | some f=>row++[f]
def rowK (V:List ByteArray) (R:ByteArray→List ByteArray):Nat→List ByteArray
  | 0=>[]
  | k + 1=>growK V R (rowK V R k)
structure RowOk (V:List ByteArray) (R:ByteArray→List ByteArray) (l:List ByteArray):Prop where
  nd:l.Nodup
  sub:∀ x∈l,x∈V
  topo:Topo R l
theorem growK_ok {row:List ByteArray} (h:RowOk V R row):RowOk V R (growK V R row)∧(growK V R row).length≤row.length + 1:=by
  unfold growK
  split
  · exact ⟨h,by omega⟩
  · rename_i f hf
    have hp:=List.find?_some hf
    have hm:=List.mem_of_find?_eq_some hf
    simp only [Bool.and_eq_true,Bool.not_eq_true',List.all_eq_true] at hp
    refine ⟨⟨?_,fun x hx=>?_,h.topo.snoc (fun y hy=>hasW_iff.1 (hp.2 y hy))⟩,by simp⟩
    · rw [List.nodup_append]
      refine ⟨h.nd,by simp,fun a ha b hb e=>?_⟩
      simp at hb
      rw [e,hb] at ha
      rw [hasW_iff.2 ha] at hp
      cases hp.1
    · rcases List.mem_append.1 hx with hx | hx
      · exact h.sub x hx
      · simp at hx; rw [hx]; exact hm
theorem rowK_ok (V:List ByteArray) (R:ByteArray→List ByteArray):∀ k,RowOk V R (rowK V R k)∧(rowK V R k).length≤k
  | 0=>⟨⟨List.nodup_nil,fun x h=>(by cases h),Topo.nil⟩,Nat.le_refl _⟩
  | k + 1=>by
    obtain ⟨h1,h2⟩:=rowK_ok V R k
    obtain ⟨h3,h4⟩:=growK_ok h1
    exact ⟨h3,by show (growK V R (rowK V R k)).length≤k + 1; omega⟩
theorem exists_least {p:ByteArray→Prop} (rk:ByteArray→Nat):∀ (n:Nat) (x:ByteArray),rk x≤n→p x→∃ z,p z∧∀ y,p y→rk z≤rk y
  | 0,x,hn,hx=>⟨x,hx,fun y _=>by omega⟩
  | n + 1,x,hn,hx=>by
    by_cases h:∃ y,p y∧rk y < rk x
    · obtain ⟨y,hy,hlt⟩:=h
      exact exists_least rk n y (by omega) hy
    · exact ⟨x,hx,fun y hy=>by
        rcases Nat.lt_or_ge (rk y) (rk x) with h' | h'
        · exact absurd ⟨y,hy,h'⟩ h
        · exact h'⟩
theorem rowK_len {rk:ByteArray→Nat} (hrk:Ranked V R rk) (hR:∀ x∈V,∀ y∈R x,y∈V) (hV:V.Nodup):∀ k,k≤V.length→(rowK V R k).length=k
  | 0,_=>rfl
  | k + 1,hk=>by
    have ih:=rowK_len hrk hR hV k (by omega)
    obtain ⟨hok,_⟩:=rowK_ok V R k
    have hex:∃ x,x∈V∧x∉rowK V R k:=by
      by_cases h:∃ x,x∈V∧x∉rowK V R k
      · exact h
      · have:=nodup_len hV (fun x hx=>by
          by_cases h2:x∈rowK V R k
          · exact h2
          · exact absurd ⟨x,hx,h2⟩ h)
        omega
    obtain ⟨x,hx⟩:=hex
    obtain ⟨z,hz,hmin⟩:=exists_least (p:=fun x=>x∈V∧x∉rowK V R k) rk (rk x) x (Nat.le_refl _) hx
    have hready:(!hasW (rowK V R k) z && (R z).all (hasW (rowK V R k)))=true:=by
      rw [Bool.and_eq_true,Bool.not_eq_true',List.all_eq_true]
      refine ⟨?_,fun y hy=>?_⟩
      · rcases Bool.eq_false_or_eq_true (hasW (rowK V R k) z) with h | h
        · exact absurd (hasW_iff.1 h) hz.2
        · exact h
      · rw [hasW_iff]
        by_cases h:y∈rowK V R k
        · exact h
        · have h1:=hmin y ⟨hR z hz.1 y hy,h⟩
          have h2:=hrk z hz.1 y hy
          omega
    show (growK V R (rowK V R k)).length=k + 1
    unfold growK
    split
    · rename_i hn
      have:=List.find?_eq_none.1 hn z hz.1
      exact absurd hready this
    · rw [List.length_append,ih]
      rfl
theorem whole_mem {l:List ByteArray} (hn:l.Nodup) (hs:∀ x∈l,x∈V) (hl:l.length=V.length) {x:ByteArray} (hx:x∈V):x∈l:=by
  by_cases h:x∈l
  · exact h
  · have h1:(x :: l).Nodup:=List.nodup_cons.2 ⟨h,hn⟩
    have h2:=nodup_len h1 (fun y hy=>by
      rcases List.mem_cons.1 hy with rfl | hy
      · exact hx
      · exact hs y hy)
    simp only [List.length_cons] at h2
    omega
theorem rowK_whole (hR:∀ x∈V,∀ y∈R x,y∈V) (hV:V.Nodup):(rowK V R V.length).length=V.length↔∃ rk,Ranked V R rk:=by
  constructor
  · intro h
    obtain ⟨hok,_⟩:=rowK_ok V R V.length
    refine ⟨_,hok.topo.rank (fun x hx=>?_)⟩
    exact whole_mem hok.nd hok.sub h hx
  · rintro ⟨rk,hrk⟩
    exact rowK_len hrk hR hV _ (Nat.le_refl _)
end

section
variable {n:Nat} (hn:Big n)
abbrev mendAt (ms:List (Ty.den tGateMend)) (i:Nat):Ty.den tGateMend:=List.getD ms i (Ty.zero tGateMend)
def optS (s:ByteArray):List ByteArray:=if emp s=true then [] else [s]
def readsM (kind x:ByteArray) (m:Ty.den tGateMend):List ByteArray:=if (seq m.1 kind && seq m.2.1 x)=true then optS m.2.2.1++optS m.2.2.2.2.2.1 else []
def readsD (ms:List (Ty.den tGateMend)) (kind x:ByteArray):List ByteArray:=ms.flatMap (readsM kind x)
def namesF (F:List (Ty.den tGateField)):List ByteArray:=F.map (fun f:Ty.den tGateField=>f.1)
theorem names_at {F:List (Ty.den tGateField)} {i:Nat} (hi:i < List.length F):(namesF F)[i]?=some (nameAt F i):=by
  unfold namesF nameAt fieldAt
  rw [listGetD_lt _ _ _ hi,List.getElem?_map,List.getElem?_eq_getElem hi]
  rfl
theorem names_len (F:List (Ty.den tGateField)):(namesF F).length=List.length F:=by unfold namesF; rw [List.length_map]
theorem reads_len (kind x:ByteArray) (m:Ty.den tGateMend):(readsM kind x m).length≤2:=by
  unfold readsM optS
  split
  · split<;>split<;>simp
  · simp
theorem flat_len (f:Ty.den tGateMend→List ByteArray) (hf:∀ m,(f m).length≤2):∀ ms:List (Ty.den tGateMend),(ms.flatMap f).length≤2 * ms.length
  | [] => Nat.le_refl _
  | m :: ms=>by
    rw [List.flatMap_cons,List.length_append,List.length_cons]
    have:=flat_len f hf ms
    have:=hf m
    omega
theorem fold_flat {X:Type} (l:List X) (z:X) (c:X→List ByteArray) (a:List ByteArray):∀ k,k≤l.length→(List.range k).foldl (fun a i=>a++c (l.getD i z)) a=a++(l.take k).flatMap c
  | 0,_=>by simp
  | k + 1,hk=>by
    rw [List.range_succ,List.foldl_append,fold_flat l z c a k (by omega)]
    simp only [List.foldl_cons,List.foldl_nil]
    rw [listGetD_lt _ _ _ (by omega),List.take_add_one,List.flatMap_append,List.getElem?_eq_getElem (by omega)]
    simp
theorem appBM {m k c:Nat} (h:(m + k) * c≤140737488355328):appBound m k c=true:=by
  unfold appBound
  rw [Nat.ble_eq]
  exact h
include hn in
theorem implReads_ok (ms:List (Ty.den tGateMend)) (hms:ms.length≤1048576) (s:Ty.den tGateShape) (x:ByteArray):impl_rowOf_1.f n (x,some ms,some s,())=some (readsD ms s.1 x,()):=by
  have hn':18446744073709551616≤n:=hn
  unfold impl_rowOf_1.f
  refine (if_pos rfl).trans ?_
  refine (runL_fold (len:=List.length ms) (fun i (a:List ByteArray)=>(x,some s,a,ms,(List.length ms:Int),(i:Int),())) (fun i a=>List.length a≤2 * i) (fun i a=>a++readsM s.1 x (mendAt ms i)) (fun a=>some (a,())) ?_ ?_ (by omega) (a:=[]) (by simp)).trans ?_
  · intro next i a hi ha
    have hr:=reads_len s.1 x (mendAt ms i)
    refine ⟨by rw [List.length_append]; omega,?_⟩
    simp only [impl_rowOf_1.B3,lt_dec hi,in_dec hi,Option.isSome_some,if_true,Int.toNat_natCast,wrap_next hi hms,Option.getD_some]
    have e:List.getD ms i (Ty.zero tGateMend)=mendAt ms i:=rfl
    simp only [e]
    have hb1:∀ z:ByteArray,appBound (List.length a) (List.length [z]) 16=true:=fun z=>appBM (by simp only [List.length_cons,List.length_nil]; omega)
    have hb2:∀ z u:ByteArray,appBound (List.length (a++[z])) (List.length [u]) 16=true:=fun z u=>appBM (by simp only [List.length_append,List.length_cons,List.length_nil]; omega)
    unfold readsM optS
    rcases Bool.eq_false_or_eq_true (seq (mendAt ms i).1 s.1) with c1 | c1<;>rcases Bool.eq_false_or_eq_true (seq (mendAt ms i).2.1 x) with c2 | c2<;>rcases Bool.eq_false_or_eq_true (seq (mendAt ms i).2.2.1 (⟨#[]⟩:ByteArray)) with c3 | c3<;>rcases Bool.eq_false_or_eq_true (seq (mendAt ms i).2.2.2.2.2.1 (⟨#[]⟩:ByteArray)) with c4 | c4 <;>
      simp only [c1,c2,c3,c4,hb1,hb2,emp,Bool.not_true,Bool.not_false,Bool.or_true,Bool.or_false,Bool.true_or,Bool.false_or,Bool.and_true,Bool.and_false,Bool.and_self,Bool.or_self,if_true,Bool.false_eq_true,if_false,List.append_nil,List.nil_append,List.append_assoc,List.cons_append]<;>rfl
  · intro next a ha
    simp only [impl_rowOf_1.B3,lt_dec',Bool.false_eq_true,if_false]
  · have:=fold_flat ms (Ty.zero tGateMend) (readsM s.1 x) [] ms.length (Nat.le_refl _)
    rw [List.take_length,List.nil_append] at this
    unfold readsD
    rw [← this]
include hn in
theorem implRowOf_ok (ms:List (Ty.den tGateMend)) (hms:ms.length≤1048576) (s:Ty.den tGateShape) (hs:List.length s.2.1≤1048576):impl_rowOf.f n (s,ms,())=(rowP n (fun x=>some (readsD ms s.1 x)) (namesF s.2.1)).bind fun y=>some (y.1,y.2.1,()):=by
  have hn':18446744073709551616≤n:=hn
  unfold impl_rowOf.f
  have hrd:(fun u2:ByteArray=>(impl_rowOf_1.f n (u2,(some ms),(some s),())).bind fun r=>some r.1)=fun x=>some (readsD ms s.1 x):=by
    funext u
    rw [implReads_ok hn ms hms s u]
    rfl
  refine (runL_fold (len:=List.length s.2.1) (fun i (a:List ByteArray)=>(s,ms,a,s.2.1,(List.length s.2.1:Int),(i:Int),())) (fun i a=>List.length a≤i) (fun i a=>a++[nameAt s.2.1 i]) (fun a=>(rowP n (fun x=>some (readsD ms s.1 x)) a).bind fun y=>some (y.1,y.2.1,())) ?_ ?_ (by omega) (a:=[]) (by simp)).trans ?_
  · intro next i a hi ha
    refine ⟨by simp; omega,?_⟩
    have hb1:∀ z:ByteArray,appBound (List.length a) (List.length [z]) 16=true:=fun z=>appBM (by simp only [List.length_cons,List.length_nil]; omega)
    simp only [impl_rowOf.B3,lt_dec hi,in_dec hi,if_true,Int.toNat_natCast,wrap_next hi hs]
    exact if_pos (hb1 _)
  · intro next a ha
    simp only [impl_rowOf.B3,lt_dec',Bool.false_eq_true,if_false]
    rw [hrd]
  · have:=fold_flat s.2.1 (Ty.zero tGateField) (fun f:Ty.den tGateField=>[f.1]) [] s.2.1.length (Nat.le_refl _)
    rw [List.take_length,List.nil_append] at this
    have e:(List.range (List.length s.2.1)).foldl (fun a i=>a++[nameAt s.2.1 i]) []=namesF s.2.1:=by
      refine Eq.trans this ?_
      unfold namesF
      rw [List.flatMap_def,← List.flatMap_def]
      clear this hs
      generalize (s.2.1:List (Ty.den tGateField))=l
      induction l with
      | nil=>rfl
      | cons a l ih=>rw [List.flatMap_cons,ih]; rfl
    rw [e]
include hn in
theorem specReady_ok (ms:List (Ty.den tGateMend)) (hms:ms.length≤1048576) (kind x:ByteArray) (row:List ByteArray) (hrow:row.length≤1048576):spec_l3Ready.f n (ms,kind,x,row,())=some ((readsD ms kind x).all (hasW row),()):=by
  have hn':18446744073709551616≤n:=hn
  unfold spec_l3Ready.f
  refine (runL_find (l:=ms) (fun i=>(ms,kind,x,row,(i:Int),())) (fun m=>!(readsM kind x m).all (hasW row)) (fun _=>some (false,())) (some (true,())) ?_ ?_ (by omega)).trans ?_
  · intro next i hi
    have e:List.getD ms i (Ty.zero tGateMend)=ms[i] := listGetD_lt _ _ _ hi
    simp only [spec_l3Ready.B2,lt_dec hi,in_dec hi,if_true,Int.toNat_natCast,wrap_next hi hms,e]
    have h1:∀ z:ByteArray,spec_l1Has.f n (row,z,())=some (hasW row z,()):=fun z=>specHas_ok hn row hrow z
    unfold readsM optS
    rcases Bool.eq_false_or_eq_true (seq ms[i].1 kind) with c1 | c1<;>rcases Bool.eq_false_or_eq_true (seq ms[i].2.1 x) with c2 | c2<;>rcases Bool.eq_false_or_eq_true (seq ms[i].2.2.1 (⟨#[]⟩:ByteArray)) with c3 | c3<;>rcases Bool.eq_false_or_eq_true (seq ms[i].2.2.2.2.2.1 (⟨#[]⟩:ByteArray)) with c4 | c4 <;>
      rcases Bool.eq_false_or_eq_true (hasW row ms[i].2.2.1) with c5 | c5<;>rcases Bool.eq_false_or_eq_true (hasW row ms[i].2.2.2.2.2.1) with c6 | c6 <;>
      simp only [c1,c2,c3,c4,c5,c6,h1,emp,tzero,Option.bind_some,Bool.not_true,Bool.not_false,Bool.or_true,Bool.or_false,Bool.true_or,Bool.false_or,Bool.and_true,Bool.true_and,Bool.false_and,Bool.and_false,Bool.and_self,Bool.or_self,if_true,Bool.false_eq_true,if_false,List.append_nil,List.nil_append,List.cons_append,List.all_cons,List.all_nil,reduceIte]<;>rfl
  · intro next
    simp only [spec_l3Ready.B2,lt_dec',Bool.false_eq_true,if_false]
  · cases hf:ms.findIdx? (fun m=>!(readsM kind x m).all (hasW row)) with
    | none =>
      have h1:=List.findIdx?_eq_none_iff.1 hf
      have h2:(readsD ms kind x).all (hasW row)=true:=by
        rw [List.all_eq_true]
        intro y hy
        obtain ⟨m,hm,hy⟩:=List.mem_flatMap.1 hy
        have h3:=h1 m hm
        rw [Bool.not_eq_false',List.all_eq_true] at h3
        exact h3 y hy
      rw [h2]
      rfl
    | some i =>
      obtain ⟨hi,h1,_⟩:=List.findIdx?_eq_some_iff_getElem.1 hf
      have h2:(readsD ms kind x).all (hasW row)=false:=by
        rw [Bool.not_eq_true'] at h1
        rcases Bool.eq_false_or_eq_true ((readsD ms kind x).all (hasW row)) with h | h
        · rw [List.all_eq_true] at h
          have h3:(readsM kind x ms[i]).all (hasW row)=true:=by
            rw [List.all_eq_true]
            exact fun y hy=>h y (List.mem_flatMap.2 ⟨ms[i],List.getElem_mem hi,hy⟩)
          rw [h1] at h3
          cases h3
        · exact h
      rw [h2]
      rfl
include hn in
theorem specRow_ok (ms:List (Ty.den tGateMend)) (hms:ms.length≤1048576) (s:Ty.den tGateShape) (hs:List.length s.2.1≤1048576):spec_l3Row.f n (s,ms,())=some (rowK (namesF s.2.1) (readsD ms s.1) (List.length s.2.1),()):=by
  have hn':18446744073709551616≤n:=hn
  unfold spec_l3Row.f
  refine (runL_fold (len:=List.length s.2.1) (fun i (a:List ByteArray)=>(ms,s,a,(i:Int),())) (fun i a=>List.length a≤i) (fun _ a=>growK (namesF s.2.1) (readsD ms s.1) a) (fun a=>some (a,())) ?_ ?_ (by omega) (a:=[]) (by simp)).trans ?_
  · intro next i a hi ha
    have hgl:List.length (growK (namesF s.2.1) (readsD ms s.1) a)≤List.length a + 1:=by
      unfold growK
      split<;>simp
    refine ⟨by omega,?_⟩
    simp only [spec_l3Row.B3,lt_dec hi,if_true]
    refine (runL_find (l:=(s.2.1:List (Ty.den tGateField))) (fun j=>(ms,s,a,(i:Int),(j:Int),())) (fun f:Ty.den tGateField=>!hasW a f.1 && (readsD ms s.1 f.1).all (hasW a)) (fun j=>next (ms,s,a++[nameAt s.2.1 j],((i + 1:Nat):Int),())) (next (ms,s,a,((i + 1:Nat):Int),())) ?_ ?_ (by omega)).trans ?_
    · intro next2 j hj
      have e:(List.getD s.2.1 j (Ty.zero tGateField))=s.2.1[j] := listGetD_lt _ _ _ hj
      have h1:spec_l1Has.f n (a,(s.2.1[j]).1,())=some (hasW a (s.2.1[j]).1,()):=specHas_ok hn a (by omega) _
      have h2:spec_l3Ready.f n (ms,s.1,(s.2.1[j]).1,a,())=some ((readsD ms s.1 (s.2.1[j]).1).all (hasW a),()):=specReady_ok hn ms hms _ _ _ (by omega)
      have hb1:∀ z:ByteArray,appBound (List.length a) (List.length [z]) 16=true:=fun z=>appBM (by simp only [List.length_cons,List.length_nil]; omega)
      have en:nameAt s.2.1 j=(s.2.1[j]).1:=by unfold nameAt fieldAt; rw [e]
      simp only [spec_l3Row.B6,lt_dec hj,in_dec hj,if_true,Int.toNat_natCast,wrap_next hj hs,wrap_next hi hs,e,h1,h2,Option.bind_some,en]
      rcases Bool.eq_false_or_eq_true (hasW a (s.2.1[j]).1) with c1 | c1<;>rcases Bool.eq_false_or_eq_true ((readsD ms s.1 (s.2.1[j]).1).all (hasW a)) with c2 | c2 <;>
        simp only [c1,c2,hb1,tzero,Option.bind_some,Bool.not_true,Bool.not_false,Bool.and_true,Bool.true_and,Bool.and_false,Bool.false_and,Bool.and_self,if_true,Bool.false_eq_true,if_false,reduceIte]<;>first | rfl | exact if_pos (hb1 _)
    · intro next2
      simp only [spec_l3Row.B6,lt_dec',Bool.false_eq_true,if_false,wrap_next hi hs]
    · have hfind:(namesF s.2.1).find? (fun f=>!hasW a f && (readsD ms s.1 f).all (hasW a))=((s.2.1:List (Ty.den tGateField)).findIdx? (fun f:Ty.den tGateField=>!hasW a f.1 && (readsD ms s.1 f.1).all (hasW a))).map (nameAt s.2.1):=by
        unfold namesF
        rw [List.find?_map]
        cases hf:(s.2.1:List (Ty.den tGateField)).findIdx? (fun f:Ty.den tGateField=>!hasW a f.1 && (readsD ms s.1 f.1).all (hasW a)) with
        | none =>
          have h1:=List.findIdx?_eq_none_iff.1 hf
          have h2:(s.2.1:List (Ty.den tGateField)).find? ((fun f=>!hasW a f && (readsD ms s.1 f).all (hasW a)) ∘ fun f:Ty.den tGateField=>f.1)=none:=by
            rw [List.find?_eq_none]
            intro f hm
            have:=h1 f hm
            simp only [Function.comp_apply,this]
            simp
          rw [h2]
          rfl
        | some j =>
          obtain ⟨hj,h1,h2⟩:=List.findIdx?_eq_some_iff_getElem.1 hf
          have h3:(s.2.1:List (Ty.den tGateField)).find? ((fun f=>!hasW a f && (readsD ms s.1 f).all (hasW a)) ∘ fun f:Ty.den tGateField=>f.1)=some s.2.1[j] := by
            rw [List.find?_eq_some_iff_getElem]
            exact ⟨h1,j,hj,rfl,fun k hk=>by rw [Bool.not_eq_true']; exact (Bool.not_eq_true _).mp (h2 k hk)⟩
          rw [h3]
          have en:nameAt s.2.1 j=(s.2.1[j]).1:=by unfold nameAt fieldAt; rw [listGetD_lt _ _ _ hj]
          simp [en]
      unfold growK
      rw [hfind]
      cases (s.2.1:List (Ty.den tGateField)).findIdx? (fun f:Ty.den tGateField=>!hasW a f.1 && (readsD ms s.1 f.1).all (hasW a))<;>rfl
  · intro next a ha
    simp only [spec_l3Row.B3,lt_dec',Bool.false_eq_true,if_false]
  · have e:∀ k,(List.range k).foldl (fun a _=>growK (namesF s.2.1) (readsD ms s.1) a) []=rowK (namesF s.2.1) (readsD ms s.1) k:=by
      intro k
      induction k with
      | zero=>rfl
      | succ k ih=>rw [List.range_succ,List.foldl_append,ih]; rfl
    rw [e]
end

section
variable {n:Nat} (hn:Big n)
def plainD (F:List (Ty.den tGateField)) (s:ByteArray):Bool :=
  match F.findIdx? (fun f:Ty.den tGateField=>seq f.1 s) with
  | none=>false
  | some k=>(fieldAt F k).2.1 != (4:Int)
def headD (F:List (Ty.den tGateField)) (m:Ty.den tGateMend):Bool :=
  !(((!plainD F m.2.1) || ((!emp m.2.2.1) && (!plainD F m.2.2.1))) || ((!emp m.2.2.2.2.2.1) && (!plainD F m.2.2.2.2.2.1)))
def tailD (F:List (Ty.den tGateField)) (m:Ty.den tGateMend):Bool :=
  if ((((seq m.2.2.1 m.2.1) || (seq m.2.2.2.2.2.1 m.2.1)) || ((emp m.2.2.1) && (!emp m.2.2.2.1))) || ((emp m.2.2.2.2.1) == (emp m.2.2.2.2.2.1)))=true then false
  else emp m.2.2.2.2.1 || (match F.findIdx? (fun f:Ty.den tGateField=>seq f.1 m.2.1) with | none=>false | some k=>fitsD (fieldAt F k) m.2.2.2.2.1)
def mendD (F:List (Ty.den tGateField)) (m:Ty.den tGateMend):Bool:=headD F m && tailD F m
def mendOkD (L:List (Ty.den tGateShape)) (m:Ty.den tGateMend):Bool :=
  match L.findIdx? (fun t:Ty.den tGateShape=>seq t.1 m.1) with
  | none=>false
  | some k=>mendD (fieldsAt L k) m
include hn in
theorem specField3_ok (F:List (Ty.den tGateField)) (hF:List.length F≤1048576) (s:ByteArray):spec_l3Field.f n (F,s,())=some (fidx (fun f:Ty.den tGateField=>seq f.1 s) F,()):=by
  have hn':18446744073709551616≤n:=hn
  unfold spec_l3Field.f
  refine (runL_find (l:=F) (fun i=>(F,s,(i:Int),())) (fun f:Ty.den tGateField=>seq f.1 s) (fun i=>some ((i:Int),())) (some (-1,())) ?_ ?_ (by omega)).trans ?_
  · intro next i hi
    simp only [spec_l3Field.B2,lt_dec hi,in_dec hi,wrap_next hi hF,if_true]
    rw [getD_nat _ _ _ hi]
  · intro next
    simp only [spec_l3Field.B2,lt_dec',Bool.false_eq_true,if_false]
  · simp only [fidx]
    cases F.findIdx? (fun f:Ty.den tGateField=>seq f.1 s)<;>rfl
include hn in
theorem implPlace_ok (F:List (Ty.den tGateField)) (hF:List.length F≤1048576) (s:ByteArray):impl_placeOf.f n (F,s,())=some (fidx (fun f:Ty.den tGateField=>seq f.1 s) F,()):=by
  have hn':18446744073709551616≤n:=hn
  unfold impl_placeOf.f
  refine (runL_find (l:=F) (fun i=>(s,F,(List.length F:Int),(i:Int),())) (fun f:Ty.den tGateField=>seq f.1 s) (fun i=>some ((i:Int),())) (some (-1,())) ?_ ?_ (by omega)).trans ?_
  · intro next i hi
    simp only [impl_placeOf.B2,lt_dec hi,in_dec hi,wrap_next hi hF,if_true]
    rw [getD_nat _ _ _ hi]
  · intro next
    simp only [impl_placeOf.B2,lt_dec',Bool.false_eq_true,if_false]
  · simp only [fidx]
    cases F.findIdx? (fun f:Ty.den tGateField=>seq f.1 s)<;>rfl
theorem ge_none:decide ((-1:Int)≥0)=false:=by decide
theorem ge_some (i:Nat):decide ((i:Int)≥0)=true:=decide_eq_true (by omega)
include hn in
theorem specPlain_ok (F:List (Ty.den tGateField)) (hF:List.length F≤1048576) (s:ByteArray):spec_l3Plain.f n (F,s,())=some (plainD F s,()):=by
  unfold spec_l3Plain.f plainD
  have e:spec_l3Field.f n (F,s,())=_:=specField3_ok hn F hF s
  simp only [e,Option.bind_some]
  cases hf:F.findIdx? (fun f:Ty.den tGateField=>seq f.1 s) with
  | none =>
    simp only [fidx_none hf,ge_none,Bool.not_false,Bool.true_or,if_true,Bool.false_and]
  | some k =>
    have hi:=findIdx?_lt hf
    simp only [fidx_some hf,ge_some,in_dec hi,Bool.or_true,if_true,Bool.true_and,Int.toNat_natCast]
    rfl
include hn in
theorem implPlain_ok (F:List (Ty.den tGateField)) (hF:List.length F≤1048576) (s:ByteArray):impl_mendOk_1.f n (s,some F,())=some (plainD F s,()):=by
  unfold impl_mendOk_1.f plainD
  refine (if_pos rfl).trans ?_
  have e:impl_placeOf.f n (F,s,())=_:=implPlace_ok hn F hF s
  simp only [Option.getD_some,Option.isSome_some,e,Option.bind_some,Bool.or_true,if_true]
  cases hf:F.findIdx? (fun f:Ty.den tGateField=>seq f.1 s) with
  | none =>
    simp only [fidx_none hf,ge_none,Bool.not_false,Bool.true_or,if_true,Bool.false_and]
  | some k =>
    have hi:=findIdx?_lt hf
    simp only [fidx_some hf,ge_some,in_dec hi,Bool.or_true,if_true,Bool.true_and,Int.toNat_natCast]
    rfl
theorem plain_some {F:List (Ty.den tGateField)} {s:ByteArray} (h:plainD F s=true):∃ k,F.findIdx? (fun f:Ty.den tGateField=>seq f.1 s)=some k:=by
  unfold plainD at h
  split at h
  · cases h
  · exact ⟨_,by assumption⟩
include hn in
theorem implMend_ok (F:List (Ty.den tGateField)) (hF:small 1048576 (.slice tGateField) F) (m:Ty.den tGateMend) (hm:small 1048576 tGateMend m):impl_mendOk.f n (F,m,())=some (mendD F m,()):=by
  have hl:List.length F≤1048576:=hF.1
  unfold impl_mendOk.f mendD
  have e1:∀ s,impl_mendOk_1.f n (s,some F,())=some (plainD F s,()):=implPlain_ok hn F hl
  simp only [e1,Option.bind_some]
  have hh:headD F m=!(((!plainD F m.2.1) || ((!emp m.2.2.1) && (!plainD F m.2.2.1))) || ((!emp m.2.2.2.2.2.1) && (!plainD F m.2.2.2.2.2.1))):=rfl
  have key:∀ (a b c d e:Bool) (X:Option (Tup [.bool])) (T:Bool),(a=true→X=some (T,())) →
      ((if ((!(!a)) && (!b))=true then some (c,()) else some (tzero [.bool])).bind fun y2:Tup [.bool] =>
        (if ((!((!a) || ((!b) && (!y2.1)))) && (!d))=true then some (e,()) else some (tzero [.bool])).bind fun y3:Tup [.bool] =>
        if (((!a) || ((!b) && (!y2.1))) || ((!d) && (!y3.1)))=true then some (false,()) else X)=some ((!(((!a) || ((!b) && (!c))) || ((!d) && (!e)))) && T,()):=by
    intro a b c d e X T hX
    cases a with
    | false=>rfl
    | true=>rw [hX rfl]; cases b<;>cases c<;>cases d<;>cases e<;>cases T<;>rfl
  refine key (plainD F m.2.1) (emp m.2.2.1) (plainD F m.2.2.1) (emp m.2.2.2.2.2.1) (plainD F m.2.2.2.2.2.1) _ (tailD F m) (fun hp=>?_)
  unfold tailD
  rcases Bool.eq_false_or_eq_true ((((seq m.2.2.1 m.2.1) || (seq m.2.2.2.2.2.1 m.2.1)) || ((emp m.2.2.1) && (!emp m.2.2.2.1))) || ((emp m.2.2.2.2.1) == (emp m.2.2.2.2.2.1))) with c | c
  · rw [if_pos c,if_pos c]
  rw [if_neg (ne_true_of_eq_false c),if_neg (ne_true_of_eq_false c)]
  obtain ⟨k,hk⟩:=plain_some hp
  have hi:=findIdx?_lt hk
  have e2:impl_placeOf.f n (F,m.2.1,())=_:=implPlace_ok hn F hl m.2.1
  have e3:impl_GateFits.f n (fieldAt F k,m.2.2.2.2.1,())=some (fitsD (fieldAt F k) m.2.2.2.2.1,()):=implFits_ok hn _ _ (field_small hF hi) hm.2.2.2.2.1
  unfold fieldAt at e3
  simp only [e2,fidx_some hk,Option.bind_some]
  unfold fieldAt
  rcases Bool.eq_false_or_eq_true (emp m.2.2.2.2.1) with c1 | c1
  · have c1':seq m.2.2.2.2.1 (⟨#[]⟩:ByteArray)=true:=c1
    simp only [c1,c1',tzero,Bool.not_true,Bool.false_eq_true,if_false,Option.bind_some,Bool.not_false,Bool.true_or,if_true]
  · have c1':seq m.2.2.2.2.1 (⟨#[]⟩:ByteArray)=false:=c1
    simp only [c1,c1',Bool.not_false,if_true,Option.bind_some,in_dec hi,Bool.or_true,Int.toNat_natCast,e3,Bool.false_or]
    rw [hk]
include hn in
theorem specMend_ok (L:List (Ty.den tGateShape)) (hL:small 1048576 (.slice tGateShape) L) (m:Ty.den tGateMend) (hm:small 1048576 tGateMend m):spec_l3MendOk.f n (L,m,())=some (mendOkD L m,()):=by
  unfold spec_l3MendOk.f mendOkD
  have e0:spec_l1Shape.f n (L,m.1,())=_:=specShapeS_ok hn L hL.1 m.1
  simp only [e0,Option.bind_some]
  cases hf:L.findIdx? (fun t:Ty.den tGateShape=>seq t.1 m.1) with
  | none=>rw [fidx_none hf]; rfl
  | some j =>
    have hj:=findIdx?_lt hf
    have h0:decide ((j:Int) < 0)=false:=by simp
    have hF:small 1048576 (.slice tGateField) (fieldsAt L j):=(shape_small hL hj).2.1
    have hl:List.length (fieldsAt L j)≤1048576:=hF.1
    simp only [fidx_some hf,h0,Bool.false_eq_true,if_false,in_dec hj,if_true,Int.toNat_natCast]
    have ef:(List.getD L j (Ty.zero tGateShape)).2.1=fieldsAt L j:=rfl
    simp only [ef]
    generalize fieldsAt L j=F at hF hl
    unfold mendD
    have e1:∀ s,spec_l3Plain.f n (F,s,())=some (plainD F s,()):=specPlain_ok hn F hl
    simp only [e1,Option.bind_some]
    have hh:headD F m=!(((!plainD F m.2.1) || ((!emp m.2.2.1) && (!plainD F m.2.2.1))) || ((!emp m.2.2.2.2.2.1) && (!plainD F m.2.2.2.2.2.1))):=rfl
    have key:∀ (a b c d e:Bool) (X:Option (Tup [.bool])) (T:Bool),(a=true→X=some (T,())) →
        ((if ((!(!a)) && (!b))=true then some (c,()) else some (tzero [.bool])).bind fun y2:Tup [.bool] =>
          (if ((!((!a) || ((!b) && (!y2.1)))) && (!d))=true then some (e,()) else some (tzero [.bool])).bind fun y3:Tup [.bool] =>
          if (((!a) || ((!b) && (!y2.1))) || ((!d) && (!y3.1)))=true then some (false,()) else X)=some ((!(((!a) || ((!b) && (!c))) || ((!d) && (!e)))) && T,()):=by
      intro a b c d e X T hX
      cases a with
      | false=>rfl
      | true=>rw [hX rfl]; cases b<;>cases c<;>cases d<;>cases e<;>cases T<;>rfl
    refine key (plainD F m.2.1) (emp m.2.2.1) (plainD F m.2.2.1) (emp m.2.2.2.2.2.1) (plainD F m.2.2.2.2.2.1) _ (tailD F m) (fun hp=>?_)
    unfold tailD
    rcases Bool.eq_false_or_eq_true ((((seq m.2.2.1 m.2.1) || (seq m.2.2.2.2.2.1 m.2.1)) || ((emp m.2.2.1) && (!emp m.2.2.2.1))) || ((emp m.2.2.2.2.1) == (emp m.2.2.2.2.2.1))) with c | c
    · rw [if_pos c,if_pos c]
    rw [if_neg (ne_true_of_eq_false c),if_neg (ne_true_of_eq_false c)]
    obtain ⟨k,hk⟩:=plain_some hp
    have hi:=findIdx?_lt hk
    have e2:spec_l3Field.f n (F,m.2.1,())=_:=specField3_ok hn F hl m.2.1
    have e3:spec_GateFits.f n (fieldAt F k,m.2.2.2.2.1,())=some (fitsD (fieldAt F k) m.2.2.2.2.1,()):=specFits_ok hn _ _ (field_small hF hi) hm.2.2.2.2.1
    unfold fieldAt at e3
    simp only [e2,fidx_some hk,Option.bind_some]
    unfold fieldAt
    rcases Bool.eq_false_or_eq_true (emp m.2.2.2.2.1) with c1 | c1
    · have c1':seq m.2.2.2.2.1 (⟨#[]⟩:ByteArray)=true:=c1
      simp only [c1,c1',tzero,Bool.not_true,Bool.false_eq_true,if_false,Option.bind_some,Bool.not_false,Bool.true_or,if_true]
    · have c1':seq m.2.2.2.2.1 (⟨#[]⟩:ByteArray)=false:=c1
      simp only [c1,c1',Bool.not_false,if_true,Option.bind_some,in_dec hi,Bool.or_true,Int.toNat_natCast,e3,Bool.false_or]
      rw [hk]
end

section
variable {n:Nat} (hn:Big n)
def wholeD (L:List (Ty.den tGateShape)) (ms:List (Ty.den tGateMend)) (j:Nat):Bool :=
  decide ((rowK (namesF (fieldsAt L j)) (readsD ms (List.getD L j (Ty.zero tGateShape)).1) (List.length (fieldsAt L j))).length=List.length (fieldsAt L j))
def mendsD (L:List (Ty.den tGateShape)) (ms:List (Ty.den tGateMend)):Bool :=
  !(!shapesD L || decide ((List.length ms:Int) > 12)) && (ms.all (mendOkD L) && (List.range (List.length L)).all (wholeD L ms))
theorem ne_dec (a b:Nat):((a:Int) != (b:Int))=!decide (a=b):=by
  by_cases h:a=b
  · subst h; simp
  · rw [decide_eq_false h,bne_iff_ne.2 (by omega)]; rfl
theorem slt_irr (a:ByteArray):slt a a=false:=bytesLess_irrefl _
theorem asc_lt {l:List ByteArray} (h:ascD l=true) {i:Nat}:∀ d,i + d + 1 < l.length→slt (wordAt l i) (wordAt l (i + d + 1))=true:=by
  have step:∀ j,j + 1 < l.length→slt (wordAt l j) (wordAt l (j + 1))=true:=by
    intro j hj
    unfold ascD at h
    rw [Bool.not_eq_true',List.any_eq_false] at h
    have h1:=h (j + 1) (List.mem_range.2 hj)
    unfold badWord at h1
    rw [Bool.not_eq_true,Bool.or_eq_false_iff,Bool.and_eq_false_iff] at h1
    rcases h1.2 with h2 | h2
    · simp at h2
    · simpa using h2
  intro d
  induction d with
  | zero=>exact fun hd=>step i hd
  | succ d ih=>exact fun hd=>slt_trans (ih (by omega)) (step (i + d + 1) hd)
theorem asc_ne {l:List ByteArray} (h:ascD l=true) {i j:Nat} (hi:i < l.length) (hj:j < l.length) (he:wordAt l i=wordAt l j):i=j:=by
  rcases Nat.lt_trichotomy i j with h1 | h1 | h1
  · have:=asc_lt h (i:=i) (j - i - 1) (by omega)
    rw [show i + (j - i - 1) + 1=j by omega,he,slt_irr] at this
    cases this
  · exact h1
  · have:=asc_lt h (i:=j) (i - j - 1) (by omega)
    rw [show j + (i - j - 1) + 1=i by omega,he,slt_irr] at this
    cases this
theorem shapes_asc {L:List (Ty.den tGateShape)} (h:shapesD L=true):ascD (kindsD L)=true∧∀ j,j < List.length L→badFields (kindsD L) (fieldsAt L j)=false:=by
  unfold shapesD at h
  simp only [Bool.and_eq_true,Bool.not_eq_true',List.any_eq_false,List.mem_range] at h
  exact ⟨h.2.1,fun j hj=>(Bool.not_eq_true _).mp (h.2.2 j hj)⟩
theorem fields_ok {K:List ByteArray} {F:List (Ty.den tGateField)} (h:badFields K F=false):List.length F≤6∧(namesF F).Nodup:=by
  unfold badFields at h
  rw [Bool.or_eq_false_iff,List.any_eq_false] at h
  refine ⟨by have:=of_decide_eq_false h.1; omega,?_⟩
  rw [List.nodup_iff_pairwise_ne,List.pairwise_iff_getElem]
  intro i j hi hj hij he
  have hj':j < List.length F:=by rw [← names_len F]; exact hj
  have h1:=h.2 j (List.mem_range.2 hj')
  unfold badFieldS at h1
  rw [Bool.not_eq_true,Bool.or_eq_false_iff] at h1
  have h2:=h1.2
  unfold dupF at h2
  rw [List.any_eq_false] at h2
  refine h2 i (List.mem_range.2 hij) ?_
  have e1:=names_at (F:=F) (i:=i) (by omega)
  have e2:=names_at (F:=F) (i:=j) hj'
  rw [List.getElem?_eq_getElem hi] at e1
  rw [List.getElem?_eq_getElem hj] at e2
  have e1:=Option.some.inj e1
  have e2:=Option.some.inj e2
  rw [← e1,← e2,he]
  exact seq_refl' _
theorem plain_mem {F:List (Ty.den tGateField)} {s:ByteArray} (h:plainD F s=true):s∈namesF F:=by
  obtain ⟨k,hk⟩:=plain_some h
  obtain ⟨hi,h1,_⟩:=List.findIdx?_eq_some_iff_getElem.1 hk
  have:=seq_eq' h1
  unfold namesF
  rw [List.mem_map]
  exact ⟨F[k],List.getElem_mem hi,this⟩
theorem kind_find {L:List (Ty.den tGateShape)} (h:shapesD L=true) {j:Nat} (hj:j < List.length L) {s:ByteArray} (hs:seq s (List.getD L j (Ty.zero tGateShape)).1=true):L.findIdx? (fun t:Ty.den tGateShape=>seq t.1 s)=some j:=by
  have hs:=seq_eq' hs
  rw [List.findIdx?_eq_some_iff_getElem]
  have e:∀ k (hk:k < List.length L),L[k].1=wordAt (kindsD L) k:=fun k hk=>by rw [kind_at hk,listGetD_lt _ _ _ hk]
  have ej:s=wordAt (kindsD L) j:=by rw [kind_at hj]; exact hs
  have hkl:(kindsD L).length=List.length L:=by unfold kindsD; rw [List.length_map]
  refine ⟨hj,?_,fun k hk hp=>?_⟩
  · rw [e j hj,← ej]
    exact seq_refl' s
  · have h1:L[k].1=s:=seq_eq' hp
    rw [e k (by omega),ej] at h1
    have:=asc_ne (shapes_asc h).1 (by rw [hkl]; omega) (by rw [hkl]; exact hj) h1
    omega
theorem reads_closed {L:List (Ty.den tGateShape)} {ms:List (Ty.den tGateMend)} (h:shapesD L=true) (hm:ms.all (mendOkD L)=true) {j:Nat} (hj:j < List.length L) (x y:ByteArray) (hy:y∈readsD ms (List.getD L j (Ty.zero tGateShape)).1 x):y∈namesF (fieldsAt L j):=by
  obtain ⟨m,hmem,hy⟩:=List.mem_flatMap.1 hy
  have hok:=List.all_eq_true.1 hm m hmem
  unfold readsM at hy
  split at hy
  case isFalse=>cases hy
  rename_i hc
  rw [Bool.and_eq_true] at hc
  unfold mendOkD at hok
  rw [kind_find h hj hc.1] at hok
  simp only [mendD,Bool.and_eq_true] at hok
  have hh:=hok.1
  unfold headD at hh
  rw [Bool.not_eq_true',Bool.or_eq_false_iff,Bool.or_eq_false_iff] at hh
  obtain ⟨⟨_,h2⟩,h3⟩:=hh
  unfold optS at hy
  rcases List.mem_append.1 hy with hy | hy
  · split at hy
    · cases hy
    · rename_i he
      simp at hy
      have he:emp m.2.2.1=false:=(Bool.not_eq_true _).mp he
      rw [he] at h2
      rw [hy]
      exact plain_mem (by simpa using h2)
  · split at hy
    · cases hy
    · rename_i he
      simp at hy
      have he:emp m.2.2.2.2.2.1=false:=(Bool.not_eq_true _).mp he
      rw [he] at h3
      rw [hy]
      exact plain_mem (by simpa using h3)
include hn in
theorem rowOf_ok {L:List (Ty.den tGateShape)} {ms:List (Ty.den tGateMend)} (h:shapesD L=true) (hm:ms.all (mendOkD L)=true) (hl:ms.length≤12) {j:Nat} (hj:j < List.length L) :
    ∃ l,impl_rowOf.f n (List.getD L j (Ty.zero tGateShape),ms,())=some (l,wholeD L ms j,())∧(wholeD L ms j=true→RowOk (namesF (fieldsAt L j)) (readsD ms (List.getD L j (Ty.zero tGateShape)).1) l∧∀ x∈namesF (fieldsAt L j),x∈l):=by
  have hn':18446744073709551616≤n:=hn
  obtain ⟨hF6,hnd⟩:=fields_ok ((shapes_asc h).2 j hj)
  have hVl:(namesF (fieldsAt L j)).length≤1000:=by rw [names_len]; omega
  have hR:=fun x (_:x∈namesF (fieldsAt L j)) y hy=>reads_closed h hm hj x y hy
  have hRl:∀ x∈namesF (fieldsAt L j),(readsD ms (List.getD L j (Ty.zero tGateShape)).1 x).length≤1000:=fun x _=>by
    have:=flat_len (readsM (List.getD L j (Ty.zero tGateShape)).1 x) (reads_len _ _) ms
    unfold readsD
    omega
  obtain ⟨r,hr,ht,hf⟩:=row_comes (rd:=fun x=>some (readsD ms (List.getD L j (Ty.zero tGateShape)).1 x)) (fun _ _=>rfl) hR hRl hVl (n:=n) (by omega)
  have e:=implRowOf_ok hn ms (by omega) (List.getD L j (Ty.zero tGateShape)) (by show List.length (fieldsAt L j)≤_; omega)
  have eF:(List.getD L j (Ty.zero tGateShape)).2.1=fieldsAt L j:=rfl
  rw [eF] at e
  have hble:Nat.ble (namesF (fieldsAt L j)).length 4611686018427387904=true:=by rw [Nat.ble_eq]; omega
  unfold rowP at e
  rw [if_pos hble,hr,Option.bind_some] at e
  have hw:=rowK_whole hR hnd
  rw [names_len] at hw
  rcases Bool.eq_false_or_eq_true r.1 with c | c
  · obtain ⟨h1,h2,h3⟩:=ht c
    have hwt:wholeD L ms j=true:=decide_eq_true (hw.2 ⟨_,h3.rank (fun x hx=>(h2 x).2 hx)⟩)
    rw [if_pos c,Option.bind_some] at e
    exact ⟨r.2.2,by rw [hwt]; exact e,fun _=>⟨⟨h1,fun x hx=>(h2 x).1 hx,h3⟩,fun x hx=>(h2 x).2 hx⟩⟩
  · have hwf:wholeD L ms j=false:=decide_eq_false (fun he=>by
      obtain ⟨rk,hrk⟩:=hw.1 he
      exact hf c rk hrk)
    rw [if_neg (by simp [c]),Option.bind_some] at e
    exact ⟨[],by rw [hwf]; exact e,fun h=>by rw [hwf] at h; cases h⟩
theorem all_any {X:Type} (l:List X) (z:X) (p:X→Bool):(List.range l.length).any (fun i=>!p (l.getD i z))=!l.all p:=by
  rcases Bool.eq_false_or_eq_true (l.all p) with c | c
  · rw [c]
    rw [List.any_eq_false.2]
    · rfl
    · intro i hi
      rw [listGetD_lt _ _ _ (List.mem_range.1 hi),List.all_eq_true.1 c _ (List.getElem_mem _)]
      simp
  · rw [c]
    rw [List.all_eq_false] at c
    obtain ⟨x,hx,hp⟩:=c
    obtain ⟨i,hi,rfl⟩:=List.getElem_of_mem hx
    rw [List.any_eq_true.2]
    · rfl
    · exact ⟨i,List.mem_range.2 hi,by rw [listGetD_lt _ _ _ hi]; simpa using hp⟩
theorem any_all {m:Nat} (p:Nat→Bool):(List.range m).any (fun i=>!p i)=!(List.range m).all p:=by
  rw [List.not_all_eq_any_not]
theorem mend_small {ms:List (Ty.den tGateMend)} (hs:small 1048576 (.slice tGateMend) ms) {i:Nat} (hi:i < ms.length):small 1048576 tGateMend (mendAt ms i):=by
  unfold mendAt
  rw [listGetD_lt _ _ _ hi]
  exact hs.2 _ (List.getElem_mem hi)
include hn in
theorem implShapeM_ok (l:List (Ty.den tGateShape)) (hl:l.length≤1048576) (a:ByteArray):impl_shapeOf.f n (l,a,())=some (fidx (fun t:Ty.den tGateShape=>seq t.1 a) l,()):=by
  have hn:18446744073709551616≤n:=hn
  unfold impl_shapeOf.f
  refine (runL_find (l:=l) (fun i=>(a,l,(l.length:Int),(i:Int),())) (fun t:Ty.den tGateShape=>seq t.1 a) (fun i=>some ((i:Int),())) (some (-1,())) ?_ ?_ (by omega)).trans ?_
  · intro next i hi
    simp only [impl_shapeOf.B2,lt_dec hi,in_dec hi,wrap_next hi hl,if_true]
    rw [getD_nat _ _ _ hi]
  · intro next
    simp only [impl_shapeOf.B2,lt_dec',Bool.false_eq_true,if_false]
  · simp only [fidx]
    cases l.findIdx? (fun t:Ty.den tGateShape=>seq t.1 a)<;>rfl
include hn in
theorem specMends_ok (L:List (Ty.den tGateShape)) (hL:small 1048576 (.slice tGateShape) L) (ms:List (Ty.den tGateMend)) (hs:small 1048576 (.slice tGateMend) ms):spec_GateMendsOk.f n (L,ms,())=some (mendsD L ms,()):=by
  have hn':18446744073709551616≤n:=hn
  have hl:List.length L≤1048576:=hL.1
  have hml:ms.length≤1048576:=hs.1
  unfold spec_GateMendsOk.f mendsD
  have e0:spec_GateShapesOk.f n (L,())=_:=specShapes_ok hn L hL
  simp only [e0,Option.bind_some]
  rcases Bool.eq_false_or_eq_true (!shapesD L || decide ((List.length ms:Int) > 12)) with c | c
  · rw [if_pos c,c]; rfl
  rw [if_neg (ne_true_of_eq_false c),c]
  refine (runL_any (len:=List.length ms) (fun i=>(L,ms,(i:Int),())) (fun i=>!mendOkD L (mendAt ms i)) (some (false,())) _ ?_ (fun next=>by simp only [spec_GateMendsOk.B4,lt_dec',Bool.false_eq_true,if_false]; rfl) (by omega)).trans ?_
  · intro next i hi
    have e1:spec_l3MendOk.f n (L,List.getD ms i (Ty.zero tGateMend),())=some (mendOkD L (mendAt ms i),()):=specMend_ok hn L hL _ (mend_small hs hi)
    simp only [spec_GateMendsOk.B4,lt_dec hi,in_dec hi,if_true,Int.toNat_natCast,e1,Option.bind_some,wrap_next hi hml]
  · rw [all_any ms (Ty.zero tGateMend) (mendOkD L)]
    rcases Bool.eq_false_or_eq_true (ms.all (mendOkD L)) with c2 | c2
    rotate_left
    · rw [c2]; rfl
    rw [c2]
    refine (runL_any (len:=List.length L) (fun i=>(L,ms,(i:Int),())) (fun i=>!wholeD L ms i) (some (false,())) (some (true,())) ?_ ?_ (by omega)).trans ?_
    · intro next j hj
      have hF:List.length (List.getD L j (Ty.zero tGateShape)).2.1≤1048576:=(shape_small hL hj).2.1.1
      have e1:spec_l3Row.f n (List.getD L j (Ty.zero tGateShape),ms,())=_:=specRow_ok hn ms hml _ hF
      simp only [spec_GateMendsOk.B9,lt_dec hj,in_dec hj,Bool.or_true,if_true,Int.toNat_natCast,e1,Option.bind_some,wrap_next hj hl]
      have e2:((List.length (rowK (namesF (List.getD L j (Ty.zero tGateShape)).2.1) (readsD ms (List.getD L j (Ty.zero tGateShape)).1) (List.length (List.getD L j (Ty.zero tGateShape)).2.1)):Int) != (List.length (List.getD L j (Ty.zero tGateShape)).2.1:Int))=!wholeD L ms j:=by
        exact ne_dec _ _
      rw [e2]
    · intro next
      simp only [spec_GateMendsOk.B9,lt_dec',Bool.false_eq_true,if_false]
    · rw [any_all]
      cases (List.range (List.length L)).all (wholeD L ms)<;>rfl
include hn in
theorem implMends_ok (L:List (Ty.den tGateShape)) (hL:small 1048576 (.slice tGateShape) L) (ms:List (Ty.den tGateMend)) (hs:small 1048576 (.slice tGateMend) ms):impl_GateMendsOk.f n (L,ms,())=some (mendsD L ms,()):=by
  have hn':18446744073709551616≤n:=hn
  have hl:List.length L≤1048576:=hL.1
  have hml:ms.length≤1048576:=hs.1
  unfold impl_GateMendsOk.f mendsD
  have e0:impl_GateShapesOk.f n (L,())=_:=implShapes_ok hn L hL
  simp only [e0,Option.bind_some]
  rcases Bool.eq_false_or_eq_true (!shapesD L || decide ((List.length ms:Int) > 12)) with c | c
  · rw [if_pos c,c]; rfl
  rw [if_neg (ne_true_of_eq_false c),c]
  refine (runL_any (len:=List.length ms) (fun i=>(L,ms,ms,(List.length ms:Int),(i:Int),())) (fun i=>!mendOkD L (mendAt ms i)) (some (false,())) _ ?_ (fun next=>by simp only [impl_GateMendsOk.B4,lt_dec',Bool.false_eq_true,if_false]; rfl) (by omega)).trans ?_
  · intro next i hi
    have e1:impl_shapeOf.f n (L,(List.getD ms i (Ty.zero tGateMend)).1,())=_:=implShapeM_ok hn L hl _
    simp only [impl_GateMendsOk.B4,lt_dec hi,in_dec hi,if_true,Int.toNat_natCast,e1,Option.bind_some,wrap_next hi hml]
    unfold mendOkD
    have em:mendAt ms i=List.getD ms i (Ty.zero tGateMend):=rfl
    rw [em]
    cases hf:L.findIdx? (fun t:Ty.den tGateShape=>seq t.1 (List.getD ms i (Ty.zero tGateMend)).1) with
    | none=>rw [fidx_none hf]; rfl
    | some k =>
      have hk:=findIdx?_lt hf
      have h0:decide ((k:Int) < 0)=false:=by simp
      have hF:small 1048576 (.slice tGateField) (fieldsAt L k):=(shape_small hL hk).2.1
      have e2:impl_mendOk.f n ((List.getD L k (Ty.zero tGateShape)).2.1,List.getD ms i (Ty.zero tGateMend),())=some (mendD (fieldsAt L k) (List.getD ms i (Ty.zero tGateMend)),()):=implMend_ok hn (fieldsAt L k) hF _ (mend_small hs hi)
      simp only [fidx_some hf,h0,in_dec hk,Bool.not_false,Bool.not_true,Bool.or_true,if_true,Int.toNat_natCast,e2,Option.bind_some,Bool.false_or]
  · rw [all_any ms (Ty.zero tGateMend) (mendOkD L)]
    rcases Bool.eq_false_or_eq_true (ms.all (mendOkD L)) with c2 | c2
    rotate_left
    · rw [c2]; rfl
    rw [c2]
    rw [Bool.or_eq_false_iff] at c
    have hsh:shapesD L=true:=by simpa using c.1
    have h12:ms.length≤12:=by have:=of_decide_eq_false c.2; omega
    refine (runL_any (len:=List.length L) (fun i=>(ms,L,(List.length L:Int),(i:Int),())) (fun i=>!wholeD L ms i) (some (false,())) (some (true,())) ?_ ?_ (by omega)).trans ?_
    · intro next j hj
      obtain ⟨l,e1,_⟩:=rowOf_ok hn hsh c2 h12 hj
      simp only [impl_GateMendsOk.B11,lt_dec hj,in_dec hj,if_true,Int.toNat_natCast,e1,Option.bind_some,wrap_next hj hl]
    · intro next
      simp only [impl_GateMendsOk.B11,lt_dec',Bool.false_eq_true,if_false]
    · rw [any_all]
      cases (List.range (List.length L)).all (wholeD L ms)<;>rfl
end

section
variable {n:Nat} (hn:Big n)
def overOf (teams:List (Ty.den tGateTeam)) (a:ByteArray):ByteArray:=(teams.findIdx? (fun t=>seq t.1 a)).elim (⟨#[]⟩:ByteArray) (fun i=>(teams.getD i (Ty.zero tGateTeam)).2.1)
include hn in
theorem teamOf_ok (teams:List (Ty.den tGateTeam)) (hl:teams.length≤1048576) (a:ByteArray):impl_teamOf.f n (teams,a,())=some (fidx (fun t:Ty.den tGateTeam=>seq t.1 a) teams,()):=by
  have hn:18446744073709551616≤n:=hn
  unfold impl_teamOf.f
  refine (runL_find (l:=teams) (fun i=>(a,teams,(teams.length:Int),(i:Int),())) (fun t:Ty.den tGateTeam=>seq t.1 a) (fun i=>some ((i:Int),())) (some (-1,())) ?_ ?_ (by omega)).trans ?_
  · intro next i hi
    simp only [impl_teamOf.B2]
    rw [if_pos (by simpa using hi),if_pos (by simp; omega),getD_nat _ _ _ hi,wrap_eq (by omega) (by omega)]
    rfl
  · intro next
    simp only [impl_teamOf.B2]
    rw [if_neg (by simp)]
  · simp only [fidx]
    cases teams.findIdx? (fun t:Ty.den tGateTeam=>seq t.1 a)<;>rfl
include hn in
theorem l4Over_ok (teams:List (Ty.den tGateTeam)) (hl:teams.length≤1048576) (a:ByteArray):spec_l4Over.f n (teams,a,())=some (overOf teams a,()):=by
  have hn:18446744073709551616≤n:=hn
  unfold spec_l4Over.f
  refine (runL_find (l:=teams) (fun i=>(teams,a,(i:Int),())) (fun t:Ty.den tGateTeam=>seq t.1 a) (fun i=>some ((teams.getD i (Ty.zero tGateTeam)).2.1,())) (some (⟨#[]⟩,())) ?_ ?_ (by omega)).trans ?_
  · intro next i hi
    simp only [spec_l4Over.B2]
    have e:teams.getD i (Ty.zero tGateTeam)=teams[i] := by simp [hi]
    have hb:decide (0≤(i:Int)∧(i:Int) < (teams.length:Int))=true:=by simp; omega
    rw [if_pos (by simpa using hi),if_pos hb,getD_nat _ _ _ hi,e,if_pos hb,wrap_eq (by omega) (by omega)]
    rfl
  · intro next
    simp only [spec_l4Over.B2]
    rw [if_neg (by simp)]
  · simp only [overOf]
    cases teams.findIdx? (fun t:Ty.den tGateTeam=>seq t.1 a)<;>rfl
end

section
variable {n:Nat} (hn:Big n)
include hn in
theorem l4Team_ok (teams:List (Ty.den tGateTeam)) (hl:teams.length≤1048576) (a:ByteArray):spec_l4Team.f n (teams,a,())=some ((teams.findIdx? (fun t:Ty.den tGateTeam=>seq t.1 a)).isSome,()):=by
  have hn:18446744073709551616≤n:=hn
  unfold spec_l4Team.f
  refine (runL_find (l:=teams) (fun i=>(teams,a,(i:Int),())) (fun t:Ty.den tGateTeam=>seq t.1 a) (fun i=>some (true,())) (some (false,())) ?_ ?_ (by omega)).trans ?_
  · intro next i hi
    simp only [spec_l4Team.B2,lt_dec hi,in_dec hi,wrap_next hi hl,if_true]
    rw [getD_nat _ _ _ hi]
  · intro next
    simp only [spec_l4Team.B2,lt_dec',Bool.false_eq_true,if_false]
  · cases teams.findIdx? (fun t:Ty.den tGateTeam=>seq t.1 a)<;>rfl
def badTeam (l:List (Ty.den tGateTeam)) (i:Nat):Bool :=
  (((!nameOkD (List.getD l (Int.toNat (i:Int)) (Ty.zero tGateTeam)).1) || ((decide ((i:Int) > (0:Int))) && (!slt (List.getD l (Int.toNat (IntKind.i64.wrap ((i:Int) - (1:Int)))) (Ty.zero tGateTeam)).1 (List.getD l (Int.toNat (i:Int)) (Ty.zero tGateTeam)).1))) || ((!seq (List.getD l (Int.toNat (i:Int)) (Ty.zero tGateTeam)).2.1 (⟨#[]⟩:ByteArray)) && (!(l.findIdx? (fun t:Ty.den tGateTeam=>seq t.1 (List.getD l (Int.toNat (i:Int)) (Ty.zero tGateTeam)).2.1)).isSome)))
def upBy (l:List (Ty.den tGateTeam)):Nat→ByteArray→ByteArray
  | 0,a=>a
  | k + 1,a=>if seq a ⟨#[]⟩=true then a else upBy l k (overOf l a)
def deepTeam (l:List (Ty.den tGateTeam)) (i:Nat):Bool:=!seq (upBy l 5 (List.getD l (Int.toNat (i:Int)) (Ty.zero tGateTeam)).1) ⟨#[]⟩
def teamsOkD (l:List (Ty.den tGateTeam)):Bool:=if (decide ((List.length l:Int) > (12:Int)))=true then false else !((List.range l.length).any (fun i=>badTeam l i || deepTeam l i))
theorem pred_dec {i len:Nat} (hi:i < len) (hl:len≤1048576):(!(decide ((i:Int) > (0:Int))) || decide (0≤IntKind.i64.wrap ((i:Int) - (1:Int))∧IntKind.i64.wrap ((i:Int) - (1:Int)) < (len:Int)))=true:=by
  rw [wrap_eq (by omega) (by omega)]
  cases i with
  | zero=>rfl
  | succ i =>
    rw [Bool.or_eq_true]
    exact .inr (decide_eq_true (by omega))
theorem pred_dec' {c:Bool} {i len:Nat} (hi:i < len) (hl:len≤1048576):(!(c && decide ((i:Int) > (0:Int))) || decide (0≤IntKind.i64.wrap ((i:Int) - (1:Int))∧IntKind.i64.wrap ((i:Int) - (1:Int)) < (len:Int)))=true:=by
  have:=pred_dec hi hl
  cases c with
  | false=>rfl
  | true=>simpa using this
include hn in
theorem specUp_ok (l:List (Ty.den tGateTeam)) (hl:l.length≤1048576) (i:Int) {Q:Type} (cs:Conts Q spec_GateTeamsOk.l11.outs):∀ (d s k:Nat) (a:ByteArray),s + d=5→d < k→runL (spec_GateTeamsOk.B11 n) cs k (l,i,a,(s:Int),())=cs.1 (l,i,upBy l d a,()):=by
  intro d
  induction d with
  | zero =>
    intro s k a hs hk
    rw [runL_pos _ _ hk]
    simp only [spec_GateTeamsOk.B11,upBy]
    have:s=5:=by omega
    subst this
    rfl
  | succ d ih =>
    intro s k a hs hk
    rw [runL_pos _ _ (by omega)]
    have h1:decide ((s:Int)≤(4:Int))=true:=decide_eq_true (by omega)
    simp only [spec_GateTeamsOk.B11,upBy,h1,Bool.true_and,l4Over_ok hn l hl,Option.bind_some]
    cases seq a ⟨#[]⟩ with
    | true=>simp
    | false =>
      simp only [Bool.not_false,if_true,Bool.false_eq_true,if_false]
      rw [wrap_eq (by omega) (by omega)]
      exact ih (s + 1) (k - 1) _ (by omega) (by omega)
theorem small_at {m:Nat} {l:List (Ty.den tGateTeam)} (hs:small m (.slice tGateTeam) l) (i:Nat):ByteArray.size (List.getD l i (Ty.zero tGateTeam)).1≤m∧ByteArray.size (List.getD l i (Ty.zero tGateTeam)).2.1≤m:=by
  rw [List.getD_eq_getElem?_getD]
  cases h:l[i]? with
  | none=>exact ⟨Nat.zero_le _,Nat.zero_le _⟩
  | some t =>
    have:=hs.2 t (List.mem_of_getElem? h)
    exact ⟨this.1,this.2.1⟩
include hn in
theorem specTeams_ok (l:List (Ty.den tGateTeam)) (hs:small 1048576 (.slice tGateTeam) l):spec_GateTeamsOk.f n (l,())=some (teamsOkD l,()):=by
  have hn':18446744073709551616≤n:=hn
  have hl:l.length≤1048576:=hs.1
  unfold spec_GateTeamsOk.f teamsOkD
  split
  · rfl
  · refine (runL_any (len:=l.length) (fun i=>(l,(i:Int),())) (fun i=>badTeam l i || deepTeam l i) (some (false,())) (some (true,())) ?_ ?_ (by omega)).trans (by cases (List.range l.length).any (fun i=>badTeam l i || deepTeam l i)<;>rfl)
    · intro next i hi
      simp only [spec_GateTeamsOk.B4,lt_dec hi,in_dec hi,wrap_next hi hl,if_true,specName_ok hn _ (small_at hs _).1,Option.bind_some,pred_dec' hi hl,l4Team_ok hn l hl,guarded]
      have key:(((!nameOkD (List.getD l (Int.toNat (i:Int)) (Ty.zero tGateTeam)).1) || ((decide ((i:Int) > (0:Int))) && (!slt (List.getD l (Int.toNat (IntKind.i64.wrap ((i:Int) - (1:Int)))) (Ty.zero tGateTeam)).1 (List.getD l (Int.toNat (i:Int)) (Ty.zero tGateTeam)).1))) || ((!seq (List.getD l (Int.toNat (i:Int)) (Ty.zero tGateTeam)).2.1 (⟨#[]⟩:ByteArray)) && (!(if ((!((!nameOkD (List.getD l (Int.toNat (i:Int)) (Ty.zero tGateTeam)).1) || ((decide ((i:Int) > (0:Int))) && (!slt (List.getD l (Int.toNat (IntKind.i64.wrap ((i:Int) - (1:Int)))) (Ty.zero tGateTeam)).1 (List.getD l (Int.toNat (i:Int)) (Ty.zero tGateTeam)).1)))) && (!seq (List.getD l (Int.toNat (i:Int)) (Ty.zero tGateTeam)).2.1 (⟨#[]⟩:ByteArray)))=true then ((l.findIdx? (fun t:Ty.den tGateTeam=>seq t.1 (List.getD l (Int.toNat (i:Int)) (Ty.zero tGateTeam)).2.1)).isSome,()) else (false,())).1)))=badTeam l i:=by
        unfold badTeam
        cases ((!nameOkD (List.getD l (Int.toNat (i:Int)) (Ty.zero tGateTeam)).1) || ((decide ((i:Int) > (0:Int))) && (!slt (List.getD l (Int.toNat (IntKind.i64.wrap ((i:Int) - (1:Int)))) (Ty.zero tGateTeam)).1 (List.getD l (Int.toNat (i:Int)) (Ty.zero tGateTeam)).1)))<;>cases seq (List.getD l (Int.toNat (i:Int)) (Ty.zero tGateTeam)).2.1 (⟨#[]⟩:ByteArray)<;>rfl
      refine (congrArg (fun b:Bool=>if b=true then some (false,()) else _) key).trans ?_
      cases hb:badTeam l i with
      | true=>simp
      | false =>
        simp only [Bool.false_eq_true,if_false,Bool.false_or]
        rw [show (0:Int)=((0:Nat):Int) from rfl,specUp_ok hn l hl _ _ 5 0 n _ (by omega) (by omega)]
        simp only [deepTeam,wrap_next hi hl]
        rfl
    · intro next
      simp only [spec_GateTeamsOk.B4,lt_dec',Bool.false_eq_true,if_false]
theorem good_name {l:List (Ty.den tGateTeam)} {i:Nat} (hi:i < l.length) (h:badTeam l i=false):nameOkD (l[i]).1=true:=by
  unfold badTeam at h
  rw [getD_nat _ _ _ hi] at h
  simp only [Bool.or_eq_false_iff,Bool.not_eq_false'] at h
  exact h.1.1
theorem good_over {l:List (Ty.den tGateTeam)} {i:Nat} (hi:i < l.length) (h:badTeam l i=false):seq (l[i]).2.1 ⟨#[]⟩=true∨(l.findIdx? (fun t:Ty.den tGateTeam=>seq t.1 (l[i]).2.1)).isSome=true:=by
  unfold badTeam at h
  rw [getD_nat _ _ _ hi] at h
  simp only [Bool.or_eq_false_iff,Bool.and_eq_false_iff,Bool.not_eq_false'] at h
  exact h.2
theorem good_lt {l:List (Ty.den tGateTeam)} (hl:l.length≤1048576) {i:Nat} (hi:i + 1 < l.length) (h:badTeam l (i + 1)=false):slt (l[i]).1 (l[i + 1]).1=true:=by
  unfold badTeam at h
  rw [getD_nat _ _ _ hi,wrap_eq (by omega) (by omega)] at h
  simp only [Bool.or_eq_false_iff,Bool.and_eq_false_iff,Bool.not_eq_false'] at h
  rcases h.1.2 with h1 | h1
  · have:=of_decide_eq_false h1
    omega
  · have e:((i + 1:Nat):Int) - 1=(i:Int):=by omega
    rw [e,getD_nat _ _ _ (by omega)] at h1
    exact h1
theorem lt_all {l:List (Ty.den tGateTeam)} (hl:l.length≤1048576) (h:∀ j,j < l.length→badTeam l j=false):∀ (d j:Nat) (hj:j + d + 1 < l.length),slt (l[j]).1 (l[j + d + 1]).1=true:=by
  intro d
  induction d with
  | zero=>intro j hj; exact good_lt hl hj (h _ hj)
  | succ d ih =>
    intro j hj
    exact slt_trans (ih j (by omega)) (good_lt hl (i:=j + d + 1) hj (h _ hj))
theorem find_self {l:List (Ty.den tGateTeam)} (hl:l.length≤1048576) (h:∀ j,j < l.length→badTeam l j=false) {i:Nat} (hi:i < l.length):l.findIdx? (fun t:Ty.den tGateTeam=>seq t.1 (l[i]).1)=some i:=by
  rw [List.findIdx?_eq_some_iff_getElem]
  refine ⟨hi,seq_refl _,fun j hj=>?_⟩
  obtain ⟨d,rfl⟩:∃ d,i=j + d + 1:=⟨i - j - 1,by omega⟩
  have:=slt_not_seq (lt_all hl h d j hi)
  simp [this]
theorem deep_eq {l:List (Ty.den tGateTeam)} (hl:l.length≤1048576) (h:∀ j,j < l.length→badTeam l j=false) {i:Nat} (hi:i < l.length):deepTeam l i=!seq (upBy l 4 (l[i]).2.1) ⟨#[]⟩:=by
  unfold deepTeam
  rw [getD_nat _ _ _ hi]
  have hne:seq (l[i]).1 ⟨#[]⟩=false:=by
    cases hs:seq (l[i]).1 ⟨#[]⟩ with
    | false=>rfl
    | true =>
      exfalso
      have h1:=good_name hi (h i hi)
      unfold nameOkD at h1
      simp only [Bool.and_eq_true,decide_eq_true_eq] at h1
      have h2:=seq_iff.1 hs
      have:(l[i]).1.size=0:=by rw [h2]; rfl
      have:=h1.1.1
      omega
  have ho:overOf l (l[i]).1=(l[i]).2.1:=by simp [overOf,find_self hl h hi,hi]
  show (!seq (if seq (l[i]).1 ⟨#[]⟩=true then (l[i]).1 else upBy l 4 (overOf l (l[i]).1)) ⟨#[]⟩)=_
  rw [if_neg (by simp [hne]),ho]
theorem fidx_neg {X:Type} (p:X→Bool) (l:List X):decide (fidx p l < (0:Int))=!(l.findIdx? p).isSome:=by
  cases h:l.findIdx? p with
  | none=>simp [fidx_none h]
  | some i=>simp [fidx_some h]
include hn in
theorem implUp_ok (l:List (Ty.den tGateTeam)) (hl:l.length≤1048576) (hg:∀ j,j < l.length→badTeam l j=false) (i len:Int) (l2:List (Ty.den tGateTeam)) {Q:Type} (cs:Conts Q impl_GateTeamsOk.l14.outs):∀ (d s k:Nat) (a:ByteArray),s + d=4→d + 1 < k →
    (seq a ⟨#[]⟩=true∨(l.findIdx? (fun t:Ty.den tGateTeam=>seq t.1 a)).isSome=true) →
    runL (impl_GateTeamsOk.B14 n) cs k (l,(s:Int),a,l2,len,i,())=if (!seq (upBy l d a) ⟨#[]⟩)=true then cs.1 (false,()) else cs.2.1 (l,l2,len,i,()):=by
  intro d
  induction d with
  | zero =>
    intro s k a hs hk ha
    rw [runL_pos _ _ (by omega)]
    have:s=4:=by omega
    subst this
    simp only [impl_GateTeamsOk.B14]
    rw [show upBy l 0 a=a from rfl]
    rcases Bool.eq_false_or_eq_true (seq a ⟨#[]⟩) with hse | hse
    · rw [if_neg (by simp [hse]),if_neg (by simp [hse])]
    · rw [if_pos (by simp [hse]),if_pos (by rfl),if_pos (by simp [hse])]
  | succ d ih =>
    intro s k a hs hk ha
    rw [runL_pos _ _ (by omega)]
    simp only [impl_GateTeamsOk.B14]
    rw [show upBy l (d + 1) a=if seq a ⟨#[]⟩=true then a else upBy l d (overOf l a) from rfl]
    rcases Bool.eq_false_or_eq_true (seq a ⟨#[]⟩) with hse | hse
    · rw [if_neg (by simp [hse]),if_pos hse,if_neg (by simp [hse])]
    · rw [hse] at ha
      have ha:=ha.resolve_left (by simp)
      obtain ⟨j,hj⟩:=Option.isSome_iff_exists.1 ha
      have hjl:=findIdx?_lt hj
      have ho:overOf l a=(l[j]).2.1:=by simp [overOf,hj,hjl]
      have h1:decide (IntKind.i64.wrap ((s:Int) + 1) > (4:Int))=false:=by
        rw [wrap_eq (by omega) (by omega)]
        exact decide_eq_false (by omega)
      rw [if_pos (by simp [hse]),if_neg (c:=seq a ⟨#[]⟩=true) (by simp [hse])]
      simp only [h1,Bool.false_eq_true,if_false,if_true,teamOf_ok hn l hl,Option.bind_some,fidx_some hj,in_dec hjl,getD_nat _ _ _ hjl]
      rw [wrap_eq (by omega) (by omega),← ho]
      refine ih (s + 1) (k - 1) _ (by omega) (by omega) ?_
      rw [ho]
      exact good_over hjl (hg j hjl)
include hn in
theorem implTeams_ok (l:List (Ty.den tGateTeam)) (hs:small 1048576 (.slice tGateTeam) l):impl_GateTeamsOk.f n (l,())=some (teamsOkD l,()):=by
  have hn':18446744073709551616≤n:=hn
  have hl:l.length≤1048576:=hs.1
  unfold impl_GateTeamsOk.f teamsOkD
  split
  · rfl
  · refine (runL_any (len:=l.length) (fun i=>(l,l,(l.length:Int),(i:Int),())) (badTeam l) (some (false,())) (runL (impl_GateTeamsOk.B10 n) ((fun z8=>some (z8.1,())),(fun z9=>some (true,())),()) n (l,l,(List.length l:Int),((0:Nat):Int),())) ?_ ?_ (by omega)).trans ?_
    · intro next i hi
      simp only [impl_GateTeamsOk.B4,lt_dec hi,in_dec hi,wrap_next hi hl,if_true,implName_ok hn _ (small_at hs _).1,Option.bind_some,pred_dec' hi hl,teamOf_ok hn l hl,guarded]
      have key:(((!nameOkD (List.getD l (Int.toNat (i:Int)) (Ty.zero tGateTeam)).1) || ((decide ((i:Int) > (0:Int))) && (!slt (List.getD l (Int.toNat (IntKind.i64.wrap ((i:Int) - (1:Int)))) (Ty.zero tGateTeam)).1 (List.getD l (Int.toNat (i:Int)) (Ty.zero tGateTeam)).1))) || ((!seq (List.getD l (Int.toNat (i:Int)) (Ty.zero tGateTeam)).2.1 (⟨#[]⟩:ByteArray)) && (decide ((if ((!((!nameOkD (List.getD l (Int.toNat (i:Int)) (Ty.zero tGateTeam)).1) || ((decide ((i:Int) > (0:Int))) && (!slt (List.getD l (Int.toNat (IntKind.i64.wrap ((i:Int) - (1:Int)))) (Ty.zero tGateTeam)).1 (List.getD l (Int.toNat (i:Int)) (Ty.zero tGateTeam)).1)))) && (!seq (List.getD l (Int.toNat (i:Int)) (Ty.zero tGateTeam)).2.1 (⟨#[]⟩:ByteArray)))=true then ((fidx (fun t:Ty.den tGateTeam=>seq t.1 (List.getD l (Int.toNat (i:Int)) (Ty.zero tGateTeam)).2.1) l:Int),()) else ((0:Int),())).1 < (0:Int)))))=badTeam l i:=by
        unfold badTeam
        rw [← fidx_neg]
        cases ((!nameOkD (List.getD l (Int.toNat (i:Int)) (Ty.zero tGateTeam)).1) || ((decide ((i:Int) > (0:Int))) && (!slt (List.getD l (Int.toNat (IntKind.i64.wrap ((i:Int) - (1:Int)))) (Ty.zero tGateTeam)).1 (List.getD l (Int.toNat (i:Int)) (Ty.zero tGateTeam)).1)))<;>cases seq (List.getD l (Int.toNat (i:Int)) (Ty.zero tGateTeam)).2.1 (⟨#[]⟩:ByteArray)<;>rfl
      exact congrArg (fun b:Bool=>if b=true then some (false,()) else next (l,l,(l.length:Int),((i + 1:Nat):Int),())) key
    · intro next
      simp only [impl_GateTeamsOk.B4,lt_dec',Bool.false_eq_true,if_false]
      rfl
    · cases hb:(List.range l.length).any (badTeam l) with
      | true =>
        have:(List.range l.length).any (fun i=>badTeam l i || deepTeam l i)=true:=by
          obtain ⟨i,hi,h⟩:=List.any_eq_true.1 hb
          exact List.any_eq_true.2 ⟨i,hi,by simp [h]⟩
        simp [this]
      | false =>
        have hg:∀ j,j < l.length→badTeam l j=false:=fun j hj=>by
          rw [List.any_eq_false] at hb
          have:=hb j (List.mem_range.2 hj)
          simpa using this
        have hany:(List.range l.length).any (fun i=>badTeam l i || deepTeam l i)=(List.range l.length).any (fun i=>deepTeam l i):=by
          rw [Bool.eq_iff_iff,List.any_eq_true,List.any_eq_true]
          constructor
          · rintro ⟨i,hi,h⟩
            rw [hg i (List.mem_range.1 hi)] at h
            exact ⟨i,hi,by simpa using h⟩
          · rintro ⟨i,hi,h⟩
            exact ⟨i,hi,by simp [h]⟩
        rw [hany]
        simp only [Bool.false_eq_true,if_false]
        refine (runL_any (len:=l.length) (fun i=>(l,l,(l.length:Int),(i:Int),())) (deepTeam l) (some (false,())) (some (true,())) ?_ ?_ (by omega)).trans (by cases (List.range l.length).any (deepTeam l)<;>rfl)
        · intro next i hi
          simp only [impl_GateTeamsOk.B10,lt_dec hi,in_dec hi,if_true,getD_nat _ _ _ hi]
          rw [show (0:Int)=((0:Nat):Int) from rfl,implUp_ok hn l hl hg _ _ _ _ 4 0 n _ (by omega) (by omega) (good_over hi (hg i hi)),deep_eq hl hg hi]
          simp only [wrap_next hi hl]
        · intro next
          simp only [impl_GateTeamsOk.B10,lt_dec',Bool.false_eq_true,if_false]
end

section
variable {n:Nat} (hn:Big n)
def lawOkD (l:Ty.den tGateLaw):Bool:=mendsD l.1 l.2.1 && teamsOkD l.2.2.1
include hn in
theorem specLaw_ok (l:Ty.den tGateLaw) (hs:small 1048576 tGateLaw l):spec_GateLawOk.f n (l,())=some (lawOkD l,()):=by
  unfold spec_GateLawOk.f lawOkD
  have e1:spec_GateMendsOk.f n (l.1,l.2.1,())=_:=specMends_ok hn l.1 hs.1 l.2.1 hs.2.1
  have e2:spec_GateTeamsOk.f n (l.2.2.1,())=_:=specTeams_ok hn l.2.2.1 hs.2.2.1
  simp only [e1,e2,Option.bind_some]
  cases mendsD l.1 l.2.1<;>rfl
include hn in
theorem implLaw_ok (l:Ty.den tGateLaw) (hs:small 1048576 tGateLaw l):impl_GateLawOk.f n (l,())=some (lawOkD l,()):=by
  unfold impl_GateLawOk.f lawOkD
  have e1:impl_GateMendsOk.f n (l.1,l.2.1,())=_:=implMends_ok hn l.1 hs.1 l.2.1 hs.2.1
  have e2:impl_GateTeamsOk.f n (l.2.2.1,())=_:=implTeams_ok hn l.2.2.1 hs.2.2.1
  simp only [e1,e2,Option.bind_some]
  cases mendsD l.1 l.2.1<;>rfl
end

section
variable {n:Nat} (hn:Big n)
theorem gGetD_lt {X:Type} (l:List X) (i:Nat) (z:X) (h:i < l.length):l.getD i z=l[i] := by simp [h]
theorem gPred_wrap {i:Nat} (h:0 < i) (hi:i≤1048576):IntKind.i64.wrap ((i:Int) - 1)=((i - 1:Nat):Int):=by
  rw [wrap_eq (by omega) (by omega)]; omega
theorem gPred_in {i len:Nat} (h:0 < i) (hi:i < len):decide (0≤((i - 1:Nat):Int)∧((i - 1:Nat):Int) < (len:Int))=true:=decide_eq_true (by omega)
def gIn (a lo hi:Int):Bool:=(decide (a≥lo)) && (decide (a≤hi))
theorem specGIn_ok (x:Tup [.int .i64,.int .i64,.int .i64]):spec_l1In.f n x=some (gIn x.1 x.2.1 x.2.2.1,()):=rfl
theorem gIn_not (a lo hi:Int):((decide (a < lo)) || (decide (a > hi)))=!gIn a lo hi:=by
  unfold gIn
  rw [Bool.not_and,Bool.eq_iff_iff]
  simp only [Bool.or_eq_true,decide_eq_true_eq,Bool.not_eq_true',decide_eq_false_iff_not]
  omega
def badVerb (l:List Int) (i:Nat):Bool:=(!gIn (List.getD l i 0) 1 5) || (decide (0 < i) && decide (List.getD l (i - 1) 0≥List.getD l i 0))
def emptyOr (s:ByteArray):Bool:=seq s ⟨#[]⟩ || nameOkD s
def ruleOkD (r:Ty.den tGateRule):Bool :=
  !((List.length r.1:Int) == (0:Int)) && !(decide ((ByteArray.size r.2.2.2.1:Int) > (16:Int))) && emptyOr r.2.1 && emptyOr r.2.2.1 && !(List.range (List.length r.1)).any (badVerb r.1) && bytesOkD r.2.2.2.1
include hn in
theorem specRule_ok (r:Ty.den tGateRule) (hs:small 1048576 tGateRule r):spec_l4RuleOk.f n (r,())=some (ruleOkD r,()):=by
  have hn':18446744073709551616≤n:=hn
  have hl:List.length r.1≤1048576:=hs.1.1
  have hl4:ByteArray.size r.2.2.2.1≤1048576:=hs.2.2.2.1
  unfold spec_l4RuleOk.f ruleOkD emptyOr
  simp only [specName_ok hn r.2.1 hs.2.1,specName_ok hn r.2.2.1 hs.2.2.1,Option.bind_some]
  rcases Bool.eq_false_or_eq_true ((List.length r.1:Int) == (0:Int)) with c1 | c1
  · simp only [c1]; rfl
  rcases Bool.eq_false_or_eq_true (decide ((ByteArray.size r.2.2.2.1:Int) > (16:Int))) with c2 | c2
  · simp only [c1,c2]; rfl
  rcases Bool.eq_false_or_eq_true (seq r.2.1 ⟨#[]⟩ || nameOkD r.2.1) with c3 | c3
  rotate_left
  · rw [Bool.or_eq_false_iff] at c3
    simp [c1,c2,c3.1,c3.2,tzero]
  rcases Bool.eq_false_or_eq_true (seq r.2.2.1 ⟨#[]⟩ || nameOkD r.2.2.1) with c4 | c4
  rotate_left
  · rw [Bool.or_eq_false_iff] at c4
    rcases Bool.eq_false_or_eq_true (seq r.2.1 ⟨#[]⟩) with c5 | c5
    · simp [c1,c2,c4.1,c4.2,c5,tzero]
    · rw [c5,Bool.false_or] at c3
      simp [c1,c2,c4.1,c4.2,c5,c3,tzero]
  have key:∀ {R:Type} (a b:R),(if (((((List.length r.1:Int) == (0:Int)) || (decide ((ByteArray.size r.2.2.2.1:Int) > (16:Int)))) || ((!seq r.2.1 (⟨#[]⟩:ByteArray)) && (!nameOkD r.2.1))) || ((!seq r.2.2.1 (⟨#[]⟩:ByteArray)) && (!nameOkD r.2.2.1)))=true then a else b)=b:=by
    intro R a b
    rw [c1,c2,← Bool.not_or,← Bool.not_or,c3,c4]
    rfl
  have tail:(runL (spec_l4RuleOk.B4 n) ((fun z4=>some (z4.1,())),(fun z5=>runL (spec_l4RuleOk.B9 n) ((fun z7=>some (z7.1,())),(fun z8=>some (true,())),()) n (z5.1,(0:Int),())),()) n (r,(0:Int),()):Option (Tup [.bool]))=some (!(List.range (List.length r.1)).any (badVerb r.1) && bytesOkD r.2.2.2.1,()):=by
    refine (runL_any (len:=List.length r.1) (fun i=>(r,(i:Int),())) (badVerb r.1) (some (false,())) (some (bytesOkD r.2.2.2.1,())) ?_ ?_ (by omega)).trans ?_
    · intro next i hi
      simp only [spec_l4RuleOk.B4,specGIn_ok,lt_dec hi,in_dec hi,Option.bind_some,Bool.or_true,if_true,Int.toNat_natCast,badVerb,wrap_next hi hl]
      by_cases h0:0 < i
      · have e:decide ((i:Int) > 0)=true:=decide_eq_true (by omega)
        simp only [e,decide_eq_true h0,gPred_wrap h0 (by omega),gPred_in h0 hi,Int.toNat_natCast,Bool.or_true,if_true,Bool.true_and]
        try rfl
      · have e:decide ((i:Int) > 0)=false:=decide_eq_false (by omega)
        simp only [e,decide_eq_false h0,Bool.and_false,Bool.not_false,Bool.true_or,if_true,Bool.false_and]
        try rfl
    · intro next
      simp only [spec_l4RuleOk.B4,lt_dec',Bool.false_eq_true,if_false]
      refine (runL_any (len:=ByteArray.size r.2.2.2.1) (fun i=>(r,(i:Int),())) (badByte r.2.2.2.1) (some (false,())) (some (true,())) ?_ ?_ (by omega)).trans (by unfold bytesOkD; cases (List.range (ByteArray.size r.2.2.2.1)).any (badByte r.2.2.2.1)<;>rfl)
      · intro next2 i hi
        simp only [spec_l4RuleOk.B9,spec_l1Byte.f,lt_dec hi,in_dec hi,wrap_next hi hl4,Option.bind_some,Bool.or_true,if_true,badByte]
        rfl
      · intro next2
        simp only [spec_l4RuleOk.B9,lt_dec',Bool.false_eq_true,if_false]
    · cases (List.range (List.length r.1)).any (badVerb r.1)<;>simp
  rw [c1,c2,c3,c4]
  simp only [Bool.not_false,Bool.true_and]
  rw [← tail]
  rcases Bool.eq_false_or_eq_true (seq r.2.1 ⟨#[]⟩) with c5 | c5<;>rcases Bool.eq_false_or_eq_true (seq r.2.2.1 ⟨#[]⟩) with c6 | c6
  · simp [c5,c6,tzero]
  · rw [c6,Bool.false_or] at c4
    simp [c5,c6,c4,tzero]
  · rw [c5,Bool.false_or] at c3
    simp [c5,c6,c3,tzero]
  · rw [c6,Bool.false_or] at c4
    rw [c5,Bool.false_or] at c3
    simp [c5,c6,c3,c4,tzero]
end

section
variable {n:Nat} (hn:Big n)
include hn in
theorem implGRule_ok (r:Ty.den tGateRule) (hs:small 1048576 tGateRule r):impl_GateRule_ok.f n (r,())=some (ruleOkD r,()):=by
  have hn':18446744073709551616≤n:=hn
  have hl:List.length r.1≤1048576:=hs.1.1
  unfold impl_GateRule_ok.f ruleOkD emptyOr
  simp only [implName_ok hn r.2.1 hs.2.1,implName_ok hn r.2.2.1 hs.2.2.1,implBytes_ok hn r.2.2.2.1 hs.2.2.2.1,Option.bind_some]
  have tail:(runL (impl_GateRule_ok.B4 n) ((fun z4=>some (z4.1,())),(fun z5=>some (true,())),()) n (r,r.1,(List.length r.1:Int),(0:Int),()):Option (Tup [.bool]))=some (!(List.range (List.length r.1)).any (badVerb r.1),()):=by
    refine (runL_any (len:=List.length r.1) (fun i=>(r,r.1,(List.length r.1:Int),(i:Int),())) (badVerb r.1) (some (false,())) (some (true,())) ?_ ?_ (by omega)).trans ?_
    · intro next i hi
      simp only [impl_GateRule_ok.B4,lt_dec hi,in_dec hi,Bool.or_true,if_true,Int.toNat_natCast,badVerb,wrap_next hi hl,gIn_not]
      by_cases h0:0 < i
      · have e:decide ((i:Int) > 0)=true:=decide_eq_true (by omega)
        simp only [e,decide_eq_true h0,gPred_wrap h0 (by omega),gPred_in h0 hi,Int.toNat_natCast,Bool.or_true,if_true,Bool.true_and]
        try rfl
      · have e:decide ((i:Int) > 0)=false:=decide_eq_false (by omega)
        simp only [e,decide_eq_false h0,Bool.and_false,Bool.not_false,Bool.true_or,if_true,Bool.false_and]
        try rfl
    · intro next
      simp only [impl_GateRule_ok.B4,lt_dec',Bool.false_eq_true,if_false]
    · cases (List.range (List.length r.1)).any (badVerb r.1)<;>simp
  rw [tail]
  rcases Bool.eq_false_or_eq_true ((List.length r.1:Int) == (0:Int)) with c1 | c1
  · simp only [c1]; rfl
  rcases Bool.eq_false_or_eq_true (decide ((ByteArray.size r.2.2.2.1:Int) > (16:Int))) with c2 | c2<;>rcases Bool.eq_false_or_eq_true (bytesOkD r.2.2.2.1) with c3 | c3<;>rcases Bool.eq_false_or_eq_true (seq r.2.1 ⟨#[]⟩) with c5 | c5<;>rcases Bool.eq_false_or_eq_true (seq r.2.2.1 ⟨#[]⟩) with c6 | c6<;>rcases Bool.eq_false_or_eq_true (nameOkD r.2.1) with c7 | c7<;>rcases Bool.eq_false_or_eq_true (nameOkD r.2.2.1) with c8 | c8 <;>
    simp only [c1,c2,c3,c5,c6,c7,c8,tzero,Bool.not_true,Bool.not_false,Bool.or_false,Bool.or_true,Bool.true_or,Bool.false_or,Bool.and_true,Bool.true_and,Bool.and_false,Bool.false_and,Bool.or_self,Bool.and_self,Bool.false_eq_true,if_false,if_true,Option.bind_some,reduceIte]<;>rfl
end

section
variable {n:Nat} (hn:Big n)
def eqTextsD (a b:List ByteArray):Bool:=((List.length a:Int) == (List.length b:Int)) && !(List.range a.length).any (fun i=>!seq (List.getD a i (⟨#[]⟩:ByteArray)) (List.getD b i (⟨#[]⟩:ByteArray)))
def sameRD (a b:Ty.den tGateRule):Bool :=
  ((((List.length a.1:Int) == (List.length b.1:Int)) && seq a.2.1 b.2.1) && seq a.2.2.1 b.2.2.1) && seq a.2.2.2.1 b.2.2.2.1 && !(List.range (List.length a.1)).any (fun i=>(List.getD a.1 i (0:Int)) != (List.getD b.1 i (0:Int)))
theorem guard_bool (c b:Bool):(if c=true then some ((b,()):Tup [.bool]) else some (tzero [.bool]))=some ((c && b),()):=by cases c<;>rfl
theorem seq_comm' (a b:ByteArray):seq a b=seq b a:=by
  unfold seq
  rw [Bool.eq_iff_iff]
  simp only [beq_iff_eq]
  exact eq_comm
theorem seq_emp (b:ByteArray):seq (⟨#[]⟩:ByteArray) b=seq b (⟨#[]⟩:ByteArray):=seq_comm' _ _
theorem int_comm (a b:Int):(a == b)=(b == a):=by
  rw [Bool.eq_iff_iff]
  simp only [beq_iff_eq]
  exact eq_comm
include hn in
theorem implTexts_ok (a b:List ByteArray) (ha:a.length≤1048576):impl_equalTexts.f n (a,b,())=some (eqTextsD a b,()):=by
  have hn':18446744073709551616≤n:=hn
  unfold impl_equalTexts.f eqTextsD
  simp only
  by_cases hl:(List.length a:Int)=(List.length b:Int)
  · rw [if_neg (by simp [hl])]
    have hl2:a.length=b.length:=by omega
    refine (runL_any (len:=a.length) (fun i=>(a,b,(List.length a:Int),(i:Int),())) (fun i=>!seq (List.getD a i (⟨#[]⟩:ByteArray)) (List.getD b i (⟨#[]⟩:ByteArray))) (some (false,())) (some (true,())) ?_ ?_ (by omega)).trans ?_
    · intro next i hi
      simp only [impl_equalTexts.B4,lt_dec hi,in_dec hi,in_dec (show i < b.length by omega),Bool.or_true,if_true,Int.toNat_natCast,wrap_next hi ha]
    · intro next
      simp only [impl_equalTexts.B4,lt_dec',Bool.false_eq_true,if_false]
    · rw [hl]
      cases (List.range a.length).any (fun i=>!seq (List.getD a i (⟨#[]⟩:ByteArray)) (List.getD b i (⟨#[]⟩:ByteArray)))<;>simp
  · rw [if_pos (by simpa [bne_iff_ne] using hl)]
    have:((List.length a:Int) == (List.length b:Int))=false:=by simpa using hl
    rw [this]
    rfl
include hn in
theorem implSame_ok (a b:Ty.den tGateRule) (ha:List.length a.1≤1048576):impl_sameRule.f n (a,b,())=some (sameRD a b,()):=by
  have hn':18446744073709551616≤n:=hn
  unfold impl_sameRule.f sameRD
  simp only
  by_cases hl:(List.length a.1:Int)=(List.length b.1:Int)
  · have hl2:List.length a.1=List.length b.1:=by omega
    have e1:((List.length a.1:Int) != (List.length b.1:Int))=false:=by simp [hl]
    have e2:((List.length a.1:Int) == (List.length b.1:Int))=true:=by simp [hl]
    rw [e1,e2]
    have tail:(runL (impl_sameRule.B4 n) ((fun z1=>some (z1.1,())),(fun z2=>some (true,())),()) n (a,b,(List.length a.1:Int),(0:Int),()):Option (Tup [.bool]))=some (!(List.range (List.length a.1)).any (fun i=>(List.getD a.1 i (0:Int)) != (List.getD b.1 i (0:Int))),()):=by
      refine (runL_any (len:=List.length a.1) (fun i=>(a,b,(List.length a.1:Int),(i:Int),())) (fun i=>(List.getD a.1 i (0:Int)) != (List.getD b.1 i (0:Int))) (some (false,())) (some (true,())) ?_ ?_ (by omega)).trans ?_
      · intro next i hi
        simp only [impl_sameRule.B4,lt_dec hi,in_dec hi,in_dec (show i < List.length b.1 by omega),Bool.or_true,if_true,Int.toNat_natCast,wrap_next hi ha]
      · intro next
        simp only [impl_sameRule.B4,lt_dec',Bool.false_eq_true,if_false]
      · cases (List.range (List.length a.1)).any (fun i=>(List.getD a.1 i (0:Int)) != (List.getD b.1 i (0:Int)))<;>simp
    rw [tail]
    cases seq a.2.1 b.2.1<;>cases seq a.2.2.1 b.2.2.1<;>cases seq a.2.2.2.1 b.2.2.2.1<;>simp
  · have e1:((List.length a.1:Int) != (List.length b.1:Int))=true:=by simpa [bne_iff_ne] using hl
    have e2:((List.length a.1:Int) == (List.length b.1:Int))=false:=by simpa using hl
    rw [e1,e2]
    simp
theorem texts_self (a:List ByteArray):eqTextsD a a=true:=by
  unfold eqTextsD
  simp [seq_refl']
theorem texts_nil (b:List ByteArray):eqTextsD [] b=((List.length b:Int) == (0:Int)):=by
  unfold eqTextsD
  simp [int_comm 0]
theorem same_self (a:Ty.den tGateRule):sameRD a a=true:=by
  unfold sameRD
  simp [seq_refl']
theorem same_zero (b:Ty.den tGateRule):sameRD ([],(⟨#[]⟩:ByteArray),(⟨#[]⟩:ByteArray),(⟨#[]⟩:ByteArray),()) b=((((List.length b.1:Int) == (0:Int)) && seq b.2.1 (⟨#[]⟩:ByteArray)) && seq b.2.2.1 (⟨#[]⟩:ByteArray) && seq b.2.2.2.1 (⟨#[]⟩:ByteArray)):=by
  unfold sameRD
  simp only [seq_emp]
  simp [int_comm 0]
def restI (o a:Ty.den tGateAsk):Bool :=
  ((((((((((seq o.2.2.1 a.2.2.1) && (seq o.2.2.2.1 a.2.2.2.1)) && (seq o.2.2.2.2.1 a.2.2.2.2.1)) && eqTextsD o.2.2.2.2.2.1 a.2.2.2.2.2.1) && eqTextsD o.2.2.2.2.2.2.1 a.2.2.2.2.2.2.1) && (@BEq.beq Int _ o.2.2.2.2.2.2.2.1 a.2.2.2.2.2.2.2.1)) && (seq o.2.2.2.2.2.2.2.2.1 a.2.2.2.2.2.2.2.2.1)) && (seq o.2.2.2.2.2.2.2.2.2.1 a.2.2.2.2.2.2.2.2.2.1)) && sameRD o.2.2.2.2.2.2.2.2.2.2.1 a.2.2.2.2.2.2.2.2.2.2.1) && (@BEq.beq Int _ o.2.2.2.2.2.2.2.2.2.2.2.1 a.2.2.2.2.2.2.2.2.2.2.2.1))
def nothingD (x:Ty.den tGateAsk):Bool :=
  ((((((((((((((seq x.2.2.1 (⟨#[]⟩:ByteArray)) && (seq x.2.2.2.1 (⟨#[]⟩:ByteArray))) && (seq x.2.2.2.2.1 (⟨#[]⟩:ByteArray))) && ((List.length x.2.2.2.2.2.1:Int) == (0:Int))) && ((List.length x.2.2.2.2.2.2.1:Int) == (0:Int))) && (@BEq.beq Int _ x.2.2.2.2.2.2.2.1 (0:Int))) && (seq x.2.2.2.2.2.2.2.2.1 (⟨#[]⟩:ByteArray))) && (seq x.2.2.2.2.2.2.2.2.2.1 (⟨#[]⟩:ByteArray))) && ((List.length x.2.2.2.2.2.2.2.2.2.2.1.1:Int) == (0:Int))) && (seq x.2.2.2.2.2.2.2.2.2.2.1.2.1 (⟨#[]⟩:ByteArray))) && (seq x.2.2.2.2.2.2.2.2.2.2.1.2.2.1 (⟨#[]⟩:ByteArray))) && (seq x.2.2.2.2.2.2.2.2.2.2.1.2.2.2.1 (⟨#[]⟩:ByteArray))) && (@BEq.beq Int _ x.2.2.2.2.2.2.2.2.2.2.2.1 (0:Int))))
def onlyD (a:Ty.den tGateAsk) (v:Nat):Ty.den tGateAsk:=match v with
  | 1=>((⟨#[]⟩:ByteArray),(0:Int),a.2.2.1,a.2.2.2.1,a.2.2.2.2.1,a.2.2.2.2.2.1,a.2.2.2.2.2.2.1,(0:Int),(⟨#[]⟩:ByteArray),(⟨#[]⟩:ByteArray),([],(⟨#[]⟩:ByteArray),(⟨#[]⟩:ByteArray),(⟨#[]⟩:ByteArray),()),(0:Int),())
  | 2=>((⟨#[]⟩:ByteArray),(0:Int),a.2.2.1,a.2.2.2.1,(⟨#[]⟩:ByteArray),a.2.2.2.2.2.1,[],a.2.2.2.2.2.2.2.1,(⟨#[]⟩:ByteArray),(⟨#[]⟩:ByteArray),([],(⟨#[]⟩:ByteArray),(⟨#[]⟩:ByteArray),(⟨#[]⟩:ByteArray),()),(0:Int),())
  | 3=>((⟨#[]⟩:ByteArray),(0:Int),a.2.2.1,a.2.2.2.1,(⟨#[]⟩:ByteArray),[],[],a.2.2.2.2.2.2.2.1,(⟨#[]⟩:ByteArray),(⟨#[]⟩:ByteArray),([],(⟨#[]⟩:ByteArray),(⟨#[]⟩:ByteArray),(⟨#[]⟩:ByteArray),()),(0:Int),())
  | 4=>((⟨#[]⟩:ByteArray),(0:Int),a.2.2.1,a.2.2.2.1,(⟨#[]⟩:ByteArray),[],[],(0:Int),a.2.2.2.2.2.2.2.2.1,(⟨#[]⟩:ByteArray),([],(⟨#[]⟩:ByteArray),(⟨#[]⟩:ByteArray),(⟨#[]⟩:ByteArray),()),(0:Int),())
  | 5=>((⟨#[]⟩:ByteArray),(0:Int),(⟨#[]⟩:ByteArray),(⟨#[]⟩:ByteArray),(⟨#[]⟩:ByteArray),[],[],(0:Int),(⟨#[]⟩:ByteArray),a.2.2.2.2.2.2.2.2.2.1,a.2.2.2.2.2.2.2.2.2.2.1,(0:Int),())
  | _=>((⟨#[]⟩:ByteArray),(0:Int),(⟨#[]⟩:ByteArray),(⟨#[]⟩:ByteArray),(⟨#[]⟩:ByteArray),[],[],(0:Int),(⟨#[]⟩:ByteArray),(⟨#[]⟩:ByteArray),([],(⟨#[]⟩:ByteArray),(⟨#[]⟩:ByteArray),(⟨#[]⟩:ByteArray),()),a.2.2.2.2.2.2.2.2.2.2.2.1,())
theorem rest_1 (a r:Ty.den tGateAsk) (hv:a.2.1=(1:Int)) (h:spec_l8Rest.f n (a,())=some (r,())):restI (onlyD a 1) a=nothingD r:=by
  simp only [spec_l8Rest.f,hv] at h
  cases h
  have hz:sameRD ([],(⟨#[]⟩:ByteArray),(⟨#[]⟩:ByteArray),(⟨#[]⟩:ByteArray),()) a.2.2.2.2.2.2.2.2.2.2.1=_:=same_zero a.2.2.2.2.2.2.2.2.2.2.1
  have hs:sameRD a.2.2.2.2.2.2.2.2.2.2.1 a.2.2.2.2.2.2.2.2.2.2.1=_:=same_self a.2.2.2.2.2.2.2.2.2.2.1
  simp only [restI,onlyD,nothingD,seq_refl',texts_self,texts_nil,hz,hs,seq_emp,int_comm 0,beq_self_eq_true,Bool.and_self,Bool.true_and,Bool.and_true]
  simp [Bool.and_assoc]
theorem rest_2 (a r:Ty.den tGateAsk) (hv:a.2.1=(2:Int)) (h:spec_l8Rest.f n (a,())=some (r,())):restI (onlyD a 2) a=nothingD r:=by
  simp only [spec_l8Rest.f,hv] at h
  cases h
  have hz:sameRD ([],(⟨#[]⟩:ByteArray),(⟨#[]⟩:ByteArray),(⟨#[]⟩:ByteArray),()) a.2.2.2.2.2.2.2.2.2.2.1=_:=same_zero a.2.2.2.2.2.2.2.2.2.2.1
  have hs:sameRD a.2.2.2.2.2.2.2.2.2.2.1 a.2.2.2.2.2.2.2.2.2.2.1=_:=same_self a.2.2.2.2.2.2.2.2.2.2.1
  simp only [restI,onlyD,nothingD,seq_refl',texts_self,texts_nil,hz,hs,seq_emp,int_comm 0,beq_self_eq_true,Bool.and_self,Bool.true_and,Bool.and_true]
  simp [Bool.and_assoc]
theorem rest_3 (a r:Ty.den tGateAsk) (hv:a.2.1=(3:Int)) (h:spec_l8Rest.f n (a,())=some (r,())):restI (onlyD a 3) a=nothingD r:=by
  simp only [spec_l8Rest.f,hv] at h
  cases h
  have hz:sameRD ([],(⟨#[]⟩:ByteArray),(⟨#[]⟩:ByteArray),(⟨#[]⟩:ByteArray),()) a.2.2.2.2.2.2.2.2.2.2.1=_:=same_zero a.2.2.2.2.2.2.2.2.2.2.1
  have hs:sameRD a.2.2.2.2.2.2.2.2.2.2.1 a.2.2.2.2.2.2.2.2.2.2.1=_:=same_self a.2.2.2.2.2.2.2.2.2.2.1
  simp only [restI,onlyD,nothingD,seq_refl',texts_self,texts_nil,hz,hs,seq_emp,int_comm 0,beq_self_eq_true,Bool.and_self,Bool.true_and,Bool.and_true]
  simp [Bool.and_assoc]
theorem rest_4 (a r:Ty.den tGateAsk) (hv:a.2.1=(4:Int)) (h:spec_l8Rest.f n (a,())=some (r,())):restI (onlyD a 4) a=nothingD r:=by
  simp only [spec_l8Rest.f,hv] at h
  cases h
  have hz:sameRD ([],(⟨#[]⟩:ByteArray),(⟨#[]⟩:ByteArray),(⟨#[]⟩:ByteArray),()) a.2.2.2.2.2.2.2.2.2.2.1=_:=same_zero a.2.2.2.2.2.2.2.2.2.2.1
  have hs:sameRD a.2.2.2.2.2.2.2.2.2.2.1 a.2.2.2.2.2.2.2.2.2.2.1=_:=same_self a.2.2.2.2.2.2.2.2.2.2.1
  simp only [restI,onlyD,nothingD,seq_refl',texts_self,texts_nil,hz,hs,seq_emp,int_comm 0,beq_self_eq_true,Bool.and_self,Bool.true_and,Bool.and_true]
  simp [Bool.and_assoc]
theorem rest_5 (a r:Ty.den tGateAsk) (hv:a.2.1=(5:Int)) (h:spec_l8Rest.f n (a,())=some (r,())):restI (onlyD a 5) a=nothingD r:=by
  simp only [spec_l8Rest.f,hv] at h
  cases h
  have hz:sameRD ([],(⟨#[]⟩:ByteArray),(⟨#[]⟩:ByteArray),(⟨#[]⟩:ByteArray),()) a.2.2.2.2.2.2.2.2.2.2.1=_:=same_zero a.2.2.2.2.2.2.2.2.2.2.1
  have hs:sameRD a.2.2.2.2.2.2.2.2.2.2.1 a.2.2.2.2.2.2.2.2.2.2.1=_:=same_self a.2.2.2.2.2.2.2.2.2.2.1
  simp only [restI,onlyD,nothingD,seq_refl',texts_self,texts_nil,hz,hs,seq_emp,int_comm 0,beq_self_eq_true,Bool.and_self,Bool.true_and,Bool.and_true]
  simp [Bool.and_assoc]
theorem rest_6 (a r:Ty.den tGateAsk) (hv:a.2.1=(6:Int)) (h:spec_l8Rest.f n (a,())=some (r,())):restI (onlyD a 6) a=nothingD r:=by
  simp only [spec_l8Rest.f,hv] at h
  cases h
  have hz:sameRD ([],(⟨#[]⟩:ByteArray),(⟨#[]⟩:ByteArray),(⟨#[]⟩:ByteArray),()) a.2.2.2.2.2.2.2.2.2.2.1=_:=same_zero a.2.2.2.2.2.2.2.2.2.2.1
  have hs:sameRD a.2.2.2.2.2.2.2.2.2.2.1 a.2.2.2.2.2.2.2.2.2.2.1=_:=same_self a.2.2.2.2.2.2.2.2.2.2.1
  simp only [restI,onlyD,nothingD,seq_refl',texts_self,texts_nil,hz,hs,seq_emp,int_comm 0,beq_self_eq_true,Bool.and_self,Bool.true_and,Bool.and_true]
  simp [Bool.and_assoc]
end

section
variable {n:Nat} (hn:Big n)
theorem find_lt {X:Type} {p:X→Bool} {l:List X} {i:Nat} (h:l.findIdx? p=some i):i < l.length:=(List.findIdx?_eq_some_iff_getElem.1 h).1
def kindF (l:Ty.den tGateLaw) (a:Ty.den tGateAsk):Option Nat:=List.findIdx? (fun t:Ty.den tGateShape=>seq t.1 a.2.2.1) l.1
def kOkD (l:Ty.den tGateLaw) (a:Ty.den tGateAsk):Bool:=(kindF l a).isSome && nameOkD a.2.2.2.1
def valOkD (l:Ty.den tGateLaw) (a:Ty.den tGateAsk):Bool:=match kindF l a with
  | none=>false
  | some i=>((List.length a.2.2.2.2.2.1:Int) == (List.length (List.getD l.1 i (Ty.zero tGateShape)).2.1:Int))
def teamF (l:Ty.den tGateLaw) (a:Ty.den tGateAsk):Option Nat:=List.findIdx? (fun t:Ty.den tGateTeam=>seq t.1 a.2.2.2.2.1) l.2.2.1
def seenD (a:Ty.den tGateAsk):Bool:=decide ((a.2.2.2.2.2.2.2.1:Int)≥(0:Int))
def holdsD (a:Ty.den tGateAsk):Bool:=(decide ((List.length a.2.2.2.2.2.2.1:Int)≤(3:Int))) && ascD a.2.2.2.2.2.2.1
def formD (l:Ty.den tGateLaw) (a:Ty.den tGateAsk) (v:Nat):Bool:=match v with
  | 1=>(kOkD l a && (teamF l a).isSome) && valOkD l a && holdsD a
  | 2=>kOkD l a && valOkD l a && seenD a
  | 3=>kOkD l a && seenD a
  | 4=>kOkD l a && nameOkD a.2.2.2.2.2.2.2.2.1
  | 5=>nameOkD a.2.2.2.2.2.2.2.2.2.1 && ruleOkD a.2.2.2.2.2.2.2.2.2.2.1
  | _=>decide ((a.2.2.2.2.2.2.2.2.2.2.2.1:Int)≥(1:Int))
include hn in
theorem kindOk_ok (l:Ty.den tGateLaw) (hs:small 1048576 tGateLaw l) (a:Ty.den tGateAsk) (ha:small 1048576 tGateAsk a):impl_kindOk.f n (l,a,())=some (kOkD l a,()):=by
  unfold impl_kindOk.f kOkD kindF
  have e1:impl_shapeOf.f n (l.1,a.2.2.1,())=_:=implShapeM_ok hn l.1 hs.1.1 a.2.2.1
  have e2:impl_isName.f n (a.2.2.2.1,())=_:=implName_ok hn a.2.2.2.1 ha.2.2.2.1
  simp only [e1,e2,Option.bind_some,guard_bool]
  cases hf:List.findIdx? (fun t:Ty.den tGateShape=>seq t.1 a.2.2.1) l.1 with
  | none=>simp only [fidx_none hf,ge_none,Option.isSome_none,Bool.false_and]; rfl
  | some i=>simp only [fidx_some hf,ge_some,Option.isSome_some,Bool.true_and]; rfl
include hn in
theorem valOk_ok (l:Ty.den tGateLaw) (hs:small 1048576 tGateLaw l) (a:Ty.den tGateAsk):impl_valuesOk.f n (l,a,())=some (valOkD l a,()):=by
  unfold impl_valuesOk.f valOkD kindF
  have e1:impl_shapeOf.f n (l.1,a.2.2.1,())=_:=implShapeM_ok hn l.1 hs.1.1 a.2.2.1
  simp only [e1,Option.bind_some]
  cases hf:List.findIdx? (fun t:Ty.den tGateShape=>seq t.1 a.2.2.1) l.1 with
  | none=>simp only [fidx_none hf,ge_none,Bool.not_false,Bool.true_or,if_true,Bool.false_and]
  | some i =>
    have hi:i < List.length l.1:=find_lt hf
    simp only [fidx_some hf,ge_some,in_dec hi,Bool.or_true,if_true,Int.toNat_natCast,Bool.true_and]
include hn in
theorem form_1 (l:Ty.den tGateLaw) (hs:small 1048576 tGateLaw l) (a:Ty.den tGateAsk) (ha:small 1048576 tGateAsk a):impl_makeVerb_form.f n ((),l,a,())=some (formD l a 1,()):=by
  unfold impl_makeVerb_form.f formD holdsD teamF
  have e1:impl_kindOk.f n (l,a,())=_:=kindOk_ok hn l hs a ha
  have e2:impl_teamOf.f n (l.2.2.1,a.2.2.2.2.1,())=_:=teamOf_ok hn l.2.2.1 hs.2.2.1.1 a.2.2.2.2.1
  have e3:impl_valuesOk.f n (l,a,())=_:=valOk_ok hn l hs a
  have e4:impl_ascendingNames.f n (a.2.2.2.2.2.2.1,())=_:=implAsc_ok hn a.2.2.2.2.2.2.1 ha.2.2.2.2.2.2.1
  simp only [e1,e2,e3,e4,Option.bind_some,guard_bool]
  cases kOkD l a with
  | false=>rfl
  | true =>
    simp only [if_true,Option.bind_some,Bool.true_and]
    cases hf:List.findIdx? (fun t:Ty.den tGateTeam=>seq t.1 a.2.2.2.2.1) l.2.2.1 with
    | none=>simp only [fidx_none hf,ge_none,Option.isSome_none,Bool.false_and]; rfl
    | some i =>
      simp only [fidx_some hf,ge_some,Option.isSome_some,Bool.true_and]
      cases valOkD l a with
      | false=>rfl
      | true=>cases decide ((List.length a.2.2.2.2.2.2.1:Int)≤(3:Int))<;>rfl
include hn in
theorem form_2 (l:Ty.den tGateLaw) (hs:small 1048576 tGateLaw l) (a:Ty.den tGateAsk) (ha:small 1048576 tGateAsk a):impl_changeVerb_form.f n ((),l,a,())=some (formD l a 2,()):=by
  unfold impl_changeVerb_form.f formD seenD
  have e1:impl_kindOk.f n (l,a,())=_:=kindOk_ok hn l hs a ha
  have e3:impl_valuesOk.f n (l,a,())=_:=valOk_ok hn l hs a
  simp only [e1,e3,Option.bind_some,guard_bool]
  cases kOkD l a<;>rfl
include hn in
theorem form_3 (l:Ty.den tGateLaw) (hs:small 1048576 tGateLaw l) (a:Ty.den tGateAsk) (ha:small 1048576 tGateAsk a):impl_endVerb_form.f n ((),l,a,())=some (formD l a 3,()):=by
  unfold impl_endVerb_form.f formD seenD
  have e1:impl_kindOk.f n (l,a,())=_:=kindOk_ok hn l hs a ha
  simp only [e1,Option.bind_some]
include hn in
theorem form_4 (l:Ty.den tGateLaw) (hs:small 1048576 tGateLaw l) (a:Ty.den tGateAsk) (ha:small 1048576 tGateAsk a):impl_letGoVerb_form.f n ((),l,a,())=some (formD l a 4,()):=by
  unfold impl_letGoVerb_form.f formD
  have e1:impl_kindOk.f n (l,a,())=_:=kindOk_ok hn l hs a ha
  have e2:impl_isName.f n (a.2.2.2.2.2.2.2.2.1,())=_:=implName_ok hn a.2.2.2.2.2.2.2.2.1 ha.2.2.2.2.2.2.2.2.1
  simp only [e1,e2,Option.bind_some,guard_bool]
  cases kOkD l a<;>rfl
include hn in
theorem form_5 (l:Ty.den tGateLaw) (a:Ty.den tGateAsk) (ha:small 1048576 tGateAsk a):impl_giveVerb_form.f n ((),l,a,())=some (formD l a 5,()):=by
  unfold impl_giveVerb_form.f formD
  have e1:impl_isName.f n (a.2.2.2.2.2.2.2.2.2.1,())=_:=implName_ok hn a.2.2.2.2.2.2.2.2.2.1 ha.2.2.2.2.2.2.2.2.2.1
  have e2:impl_GateRule_ok.f n (a.2.2.2.2.2.2.2.2.2.2.1,())=_:=implGRule_ok hn a.2.2.2.2.2.2.2.2.2.2.1 ha.2.2.2.2.2.2.2.2.2.2.1
  simp only [e1,e2,Option.bind_some,guard_bool]
  cases nameOkD a.2.2.2.2.2.2.2.2.2.1<;>rfl
theorem form_6 (l:Ty.den tGateLaw) (a:Ty.den tGateAsk):impl_takeVerb_form.f n ((),l,a,())=some (formD l a 6,()):=rfl
def askVD (l:Ty.den tGateLaw) (a:Ty.den tGateAsk) (v:Nat):Bool:=restI (onlyD a v) a && formD l a v
theorem lt_none:decide ((-1:Int) < 0)=true:=by decide
theorem lt_some (i:Nat):decide ((i:Int) < 0)=false:=decide_eq_false (by omega)
include hn in
theorem specAsk_ok (l:Ty.den tGateLaw) (hs:small 1048576 tGateLaw l) (a:Ty.den tGateAsk) (ha:small 1048576 tGateAsk a) (v:Nat) (h1:1≤v) (h6:v≤6) (hv:a.2.1=(v:Int)):spec_l8AskOk.f n (l,a,())=some (nameOkD a.1 && askVD l a v,()):=by
  unfold spec_l8AskOk.f askVD
  have e1:spec_l1NameOk.f n (a.1,())=_:=specName_ok hn a.1 ha.1
  have e2:spec_l1Shape.f n (l.1,a.2.2.1,())=_:=specShapeS_ok hn l.1 hs.1.1 a.2.2.1
  have e3:spec_l1NameOk.f n (a.2.2.2.1,())=_:=specName_ok hn a.2.2.2.1 ha.2.2.2.1
  have e4:spec_l4Team.f n (l.2.2.1,a.2.2.2.2.1,())=_:=l4Team_ok hn l.2.2.1 hs.2.2.1.1 a.2.2.2.2.1
  have e5:spec_l1Ascending.f n (a.2.2.2.2.2.2.1,())=_:=specAsc_ok hn a.2.2.2.2.2.2.1 ha.2.2.2.2.2.2.1
  have e6:spec_l1NameOk.f n (a.2.2.2.2.2.2.2.2.1,())=_:=specName_ok hn a.2.2.2.2.2.2.2.2.1 ha.2.2.2.2.2.2.2.2.1
  have e7:spec_l1NameOk.f n (a.2.2.2.2.2.2.2.2.2.1,())=_:=specName_ok hn a.2.2.2.2.2.2.2.2.2.1 ha.2.2.2.2.2.2.2.2.2.1
  have e8:spec_l4RuleOk.f n (a.2.2.2.2.2.2.2.2.2.2.1,())=_:=specRule_ok hn a.2.2.2.2.2.2.2.2.2.2.1 ha.2.2.2.2.2.2.2.2.2.2.1
  have ein:spec_l1In.f n (a.2.1,(1:Int),(6:Int),())=some (true,()):=by
    have h:gIn a.2.1 1 6=true:=by
      unfold gIn
      rw [hv]
      have a1:decide ((v:Int)≥1)=true:=decide_eq_true (by omega)
      have a2:decide ((v:Int)≤6)=true:=decide_eq_true (by omega)
      rw [a1,a2]; rfl
    rw [specGIn_ok (a.2.1,(1:Int),(6:Int),())]
    exact congrArg (fun b=>some (b,())) h
  obtain ⟨r,hr⟩:∃ r,spec_l8Rest.f n (a,())=some (r,()):=by
    unfold spec_l8Rest.f
    repeat' split
    all_goals exact ⟨_,rfl⟩
  have hno:spec_l8Nothing.f n (r,())=some (nothingD r,()):=rfl
  have hrest:restI (onlyD a v) a=nothingD r:=by
    match v,h1,h6,hv with
    | 1,_,_,hv=>exact rest_1 a r hv hr
    | 2,_,_,hv=>exact rest_2 a r hv hr
    | 3,_,_,hv=>exact rest_3 a r hv hr
    | 4,_,_,hv=>exact rest_4 a r hv hr
    | 5,_,_,hv=>exact rest_5 a r hv hr
    | 6,_,_,hv=>exact rest_6 a r hv hr
    | v + 7,_,h6,_=>omega
  rw [hrest]
  simp only [e1,ein,hr,hno,e2,Option.bind_some]
  rcases Bool.eq_false_or_eq_true (nameOkD a.1) with c1 | c1
  rotate_left
  · simp only [c1]; rfl
  simp only [c1,Bool.not_true,Bool.not_false,if_true,Option.bind_some,Bool.or_self,hno]
  rcases Bool.eq_false_or_eq_true (nothingD r) with c2 | c2
  rotate_left
  · simp only [c2]; rfl
  simp only [c2,Bool.not_true,Bool.or_self,Bool.false_eq_true,if_false,Bool.true_and]
  match v,h1,h6,hv with
  | 1,_,_,hv =>
    have hv:a.2.1=(1:Int):=hv
    unfold formD kOkD valOkD kindF holdsD teamF
    rw [hv]
    cases hf:List.findIdx? (fun t:Ty.den tGateShape=>seq t.1 a.2.2.1) l.1 with
    | none=>simp only [fidx_none hf,lt_none]; rfl
    | some i =>
      have hi:i < List.length l.1:=find_lt hf
      simp only [fidx_some hf,lt_some,e3,e4,e5,in_dec hi,Int.toNat_natCast]
      generalize nameOkD a.2.2.2.1=N
      generalize ((List.length a.2.2.2.2.2.1:Int) == (List.length (List.getD l.1 i (Ty.zero tGateShape)).2.1:Int))=A
      generalize (List.findIdx? (fun t:Ty.den tGateTeam=>seq t.1 a.2.2.2.2.1) l.2.2.1).isSome=T
      generalize decide ((List.length a.2.2.2.2.2.2.1:Int)≤(3:Int))=H
      generalize ascD a.2.2.2.2.2.2.1=S
      cases N<;>cases A<;>cases T<;>cases H<;>cases S<;>rfl
  | 2,_,_,hv =>
    have hv:a.2.1=(2:Int):=hv
    unfold formD kOkD valOkD kindF seenD
    rw [hv]
    cases hf:List.findIdx? (fun t:Ty.den tGateShape=>seq t.1 a.2.2.1) l.1 with
    | none=>simp only [fidx_none hf,lt_none]; rfl
    | some i =>
      have hi:i < List.length l.1:=find_lt hf
      simp only [fidx_some hf,lt_some,e3,in_dec hi,Int.toNat_natCast]
      generalize nameOkD a.2.2.2.1=N
      generalize ((List.length a.2.2.2.2.2.1:Int) == (List.length (List.getD l.1 i (Ty.zero tGateShape)).2.1:Int))=A
      cases N<;>cases A<;>rfl
  | 3,_,_,hv =>
    have hv:a.2.1=(3:Int):=hv
    unfold formD kOkD kindF seenD
    rw [hv]
    cases hf:List.findIdx? (fun t:Ty.den tGateShape=>seq t.1 a.2.2.1) l.1 with
    | none=>simp only [fidx_none hf,lt_none]; rfl
    | some i =>
      simp only [fidx_some hf,lt_some,e3]
      generalize nameOkD a.2.2.2.1=N
      cases N<;>rfl
  | 4,_,_,hv =>
    have hv:a.2.1=(4:Int):=hv
    unfold formD kOkD kindF
    rw [hv]
    cases hf:List.findIdx? (fun t:Ty.den tGateShape=>seq t.1 a.2.2.1) l.1 with
    | none=>simp only [fidx_none hf,lt_none]; rfl
    | some i =>
      simp only [fidx_some hf,lt_some,e3,e6]
      generalize nameOkD a.2.2.2.1=N
      cases N<;>rfl
  | 5,_,_,hv =>
    have hv:a.2.1=(5:Int):=hv
    unfold formD
    rw [hv]
    simp only [e7,e8]
    generalize nameOkD a.2.2.2.2.2.2.2.2.2.1=N
    cases N<;>rfl
  | 6,_,_,hv =>
    have hv:a.2.1=(6:Int):=hv
    unfold formD
    rw [hv]
    rfl
  | v + 7,_,h6,_=>omega
theorem only_chain (o a:Ty.den tGateAsk) {F:Option Bool} {b:Bool} (hF:F=some b) (hT:∀ x y:List ByteArray,x.length≤1048576→impl_equalTexts.f n (x,y,())=some (eqTextsD x y,())) (hS:∀ x y:Ty.den tGateRule,List.length x.1≤1048576→impl_sameRule.f n (x,y,())=some (sameRD x y,()))
    (h1:o.2.2.2.2.2.1.length≤1048576) (h2:o.2.2.2.2.2.2.1.length≤1048576) (h3:List.length o.2.2.2.2.2.2.2.2.2.2.1.1≤1048576) :
    ((if (((seq o.2.2.1 a.2.2.1) && (seq o.2.2.2.1 a.2.2.2.1)) && (seq o.2.2.2.2.1 a.2.2.2.2.1))=true then (impl_equalTexts.f n (o.2.2.2.2.2.1,a.2.2.2.2.2.1,())) else some (tzero [.bool])).bind fun y4 =>
    (if ((((seq o.2.2.1 a.2.2.1) && (seq o.2.2.2.1 a.2.2.2.1)) && (seq o.2.2.2.2.1 a.2.2.2.2.1)) && y4.1)=true then (impl_equalTexts.f n (o.2.2.2.2.2.2.1,a.2.2.2.2.2.2.1,())) else some (tzero [.bool])).bind fun y5 =>
    (if ((((((((seq o.2.2.1 a.2.2.1) && (seq o.2.2.2.1 a.2.2.2.1)) && (seq o.2.2.2.2.1 a.2.2.2.2.1)) && y4.1) && y5.1) && (@BEq.beq Int _ o.2.2.2.2.2.2.2.1 a.2.2.2.2.2.2.2.1)) && (seq o.2.2.2.2.2.2.2.2.1 a.2.2.2.2.2.2.2.2.1)) && (seq o.2.2.2.2.2.2.2.2.2.1 a.2.2.2.2.2.2.2.2.2.1))=true then (impl_sameRule.f n (o.2.2.2.2.2.2.2.2.2.2.1,a.2.2.2.2.2.2.2.2.2.2.1,())) else some (tzero [.bool])).bind fun y6 =>
    (if ((((((((((seq o.2.2.1 a.2.2.1) && (seq o.2.2.2.1 a.2.2.2.1)) && (seq o.2.2.2.2.1 a.2.2.2.2.1)) && y4.1) && y5.1) && (@BEq.beq Int _ o.2.2.2.2.2.2.2.1 a.2.2.2.2.2.2.2.1)) && (seq o.2.2.2.2.2.2.2.2.1 a.2.2.2.2.2.2.2.2.1)) && (seq o.2.2.2.2.2.2.2.2.2.1 a.2.2.2.2.2.2.2.2.2.1)) && y6.1) && (@BEq.beq Int _ o.2.2.2.2.2.2.2.2.2.2.2.1 a.2.2.2.2.2.2.2.2.2.2.2.1))=true then F else some false).bind fun y7 =>
    some ((((((((((((seq o.2.2.1 a.2.2.1) && (seq o.2.2.2.1 a.2.2.2.1)) && (seq o.2.2.2.2.1 a.2.2.2.2.1)) && y4.1) && y5.1) && (@BEq.beq Int _ o.2.2.2.2.2.2.2.1 a.2.2.2.2.2.2.2.1)) && (seq o.2.2.2.2.2.2.2.2.1 a.2.2.2.2.2.2.2.2.1)) && (seq o.2.2.2.2.2.2.2.2.2.1 a.2.2.2.2.2.2.2.2.2.1)) && y6.1) && (@BEq.beq Int _ o.2.2.2.2.2.2.2.2.2.2.2.1 a.2.2.2.2.2.2.2.2.2.2.2.1)) && y7),()))=(some (restI o a && b,()):Option (Tup [.bool])):=by
  rw [hF]
  simp only [hT _ _ h1,hT _ _ h2,hS _ _ h3]
  unfold restI
  generalize seq o.2.2.1 a.2.2.1=A1
  generalize seq o.2.2.2.1 a.2.2.2.1=A2
  generalize seq o.2.2.2.2.1 a.2.2.2.2.1=A3
  generalize eqTextsD o.2.2.2.2.2.1 a.2.2.2.2.2.1=A4
  generalize eqTextsD o.2.2.2.2.2.2.1 a.2.2.2.2.2.2.1=A5
  generalize (@BEq.beq Int _ o.2.2.2.2.2.2.2.1 a.2.2.2.2.2.2.2.1)=A6
  generalize seq o.2.2.2.2.2.2.2.2.1 a.2.2.2.2.2.2.2.2.1=A7
  generalize seq o.2.2.2.2.2.2.2.2.2.1 a.2.2.2.2.2.2.2.2.2.1=A8
  generalize sameRD o.2.2.2.2.2.2.2.2.2.2.1 a.2.2.2.2.2.2.2.2.2.2.1=A9
  generalize (@BEq.beq Int _ o.2.2.2.2.2.2.2.2.2.2.2.1 a.2.2.2.2.2.2.2.2.2.2.2.1)=A10
  cases A1
  · rfl
  cases A2
  · rfl
  cases A3
  · rfl
  cases A4
  · rfl
  cases A5
  · rfl
  cases A6
  · rfl
  cases A7
  · rfl
  cases A8
  · rfl
  cases A9
  · rfl
  cases A10
  · rfl
  cases b<;>rfl
end

section
variable {n:Nat} (hn:Big n)
def askD (l:Ty.den tGateLaw) (a:Ty.den tGateAsk):Bool:=lawOkD l && (nameOkD a.1 && (gIn a.2.1 1 6 && askVD l a (Int.toNat a.2.1)))
theorem verb_cases {v:Int} (h:gIn v 1 6=true):v=1∨v=2∨v=3∨v=4∨v=5∨v=6:=by
  unfold gIn at h
  simp only [Bool.and_eq_true,decide_eq_true_eq] at h
  omega
include hn in
theorem specAskOk_ok (l:Ty.den tGateLaw) (hs:small 1048576 tGateLaw l) (a:Ty.den tGateAsk) (ha:small 1048576 tGateAsk a):spec_GateAskOk.f n (l,a,())=some (askD l a,()):=by
  unfold spec_GateAskOk.f askD
  have e1:spec_GateLawOk.f n (l,())=_:=specLaw_ok hn l hs
  simp only [e1,Option.bind_some]
  cases lawOkD l with
  | false=>rfl
  | true =>
    simp only [if_true,Bool.true_and]
    have hin:spec_l1In.f n (a.2.1,(1:Int),(6:Int),())=some (gIn a.2.1 1 6,()):=specGIn_ok (a.2.1,(1:Int),(6:Int),())
    rcases Bool.eq_false_or_eq_true (gIn a.2.1 1 6) with c | c
    · have hc:=verb_cases c
      have key:∀ v:Nat,1≤v→v≤6→a.2.1=(v:Int)→(spec_l8AskOk.f n (l,a,())).bind (fun y2=>some (y2.1,()))=(some (nameOkD a.1 && (gIn a.2.1 1 6 && askVD l a (Int.toNat a.2.1)),()):Option (Tup [.bool])):=by
        intro v h1 h6 hv
        rw [specAsk_ok hn l hs a ha v h1 h6 hv,c,hv,Int.toNat_natCast]
        rfl
      rcases hc with h | h | h | h | h | h
      · exact key 1 (by omega) (by omega) h
      · exact key 2 (by omega) (by omega) h
      · exact key 3 (by omega) (by omega) h
      · exact key 4 (by omega) (by omega) h
      · exact key 5 (by omega) (by omega) h
      · exact key 6 (by omega) (by omega) h
    · have e2:spec_l1NameOk.f n (a.1,())=_:=specName_ok hn a.1 ha.1
      unfold spec_l8AskOk.f
      simp only [e2,hin,c,Option.bind_some]
      cases nameOkD a.1<;>rfl
include hn in
theorem implAskOk_ok (l:Ty.den tGateLaw) (hs:small 1048576 tGateLaw l) (a:Ty.den tGateAsk) (ha:small 1048576 tGateAsk a):impl_GateAskOk.f n (l,a,())=some (askD l a,()):=by
  unfold impl_GateAskOk.f askD
  have e1:impl_GateLawOk.f n (l,())=_:=implLaw_ok hn l hs
  have e2:impl_isName.f n (a.1,())=_:=implName_ok hn a.1 ha.1
  simp only [e1,e2,Option.bind_some]
  cases lawOkD l with
  | false=>rfl
  | true =>
    cases nameOkD a.1 with
    | false=>rfl
    | true =>
      have hv:=ha.2.2.2.2.2.1.1
      have hh:=ha.2.2.2.2.2.2.1.1
      have hr:=ha.2.2.2.2.2.2.2.2.2.2.1.1.1
      have hT:=fun x y hx=>implTexts_ok hn x y hx
      have hS:=fun x y hx=>implSame_ok hn x y hx
      rcases Bool.eq_false_or_eq_true (gIn a.2.1 1 6) with c | c
      rotate_left
      · have:=gIn_not a.2.1 1 6
        rw [c] at this
        simp only [Bool.not_true,Bool.not_false,if_true,Option.bind_some,Bool.false_or,Bool.or_self,this,c]
        rfl
      · rw [c]
        rcases verb_cases c with h | h | h | h | h | h
        · have hF:((impl_makeVerb_form.f n ((),l,a,())).bind fun r=>some r.1)=some (formD l a 1):=by rw [form_1 hn l hs a ha]; rfl
          rw [h]
          refine Eq.trans ?_ (only_chain (onlyD a 1) a hF hT hS hv hh (Nat.zero_le _))
          rfl
        · have hF:((impl_changeVerb_form.f n ((),l,a,())).bind fun r=>some r.1)=some (formD l a 2):=by rw [form_2 hn l hs a ha]; rfl
          rw [h]
          refine Eq.trans ?_ (only_chain (onlyD a 2) a hF hT hS hv (Nat.zero_le _) (Nat.zero_le _))
          rfl
        · have hF:((impl_endVerb_form.f n ((),l,a,())).bind fun r=>some r.1)=some (formD l a 3):=by rw [form_3 hn l hs a ha]; rfl
          rw [h]
          refine Eq.trans ?_ (only_chain (onlyD a 3) a hF hT hS (Nat.zero_le _) (Nat.zero_le _) (Nat.zero_le _))
          rfl
        · have hF:((impl_letGoVerb_form.f n ((),l,a,())).bind fun r=>some r.1)=some (formD l a 4):=by rw [form_4 hn l hs a ha]; rfl
          rw [h]
          refine Eq.trans ?_ (only_chain (onlyD a 4) a hF hT hS (Nat.zero_le _) (Nat.zero_le _) (Nat.zero_le _))
          rfl
        · have hF:((impl_giveVerb_form.f n ((),l,a,())).bind fun r=>some r.1)=some (formD l a 5):=by rw [form_5 hn l a ha]; rfl
          rw [h]
          refine Eq.trans ?_ (only_chain (onlyD a 5) a hF hT hS (Nat.zero_le _) (Nat.zero_le _) hr)
          rfl
        · have hF:((impl_takeVerb_form.f n ((),l,a,())).bind fun r=>some r.1)=some (formD l a 6):=by rw [form_6 l a]; rfl
          rw [h]
          refine Eq.trans ?_ (only_chain (onlyD a 6) a hF hT hS (Nat.zero_le _) (Nat.zero_le _) (Nat.zero_le _))
          rfl
end

theorem pure_law (n:Nat) (hn:Big n) (x:Tup [tGateLaw,tGateAsk]) (hw:wfT [tGateLaw,tGateAsk] x):laws_FnExactGateAskOk.f n x=some (true,()):=by
  obtain ⟨d,e,⟨⟩⟩:=x
  obtain ⟨hw1,hw2,_⟩:=hw
  unfold laws_FnExactGateAskOk.f
  have h1:laws_szGateLaw.f n (d,1048576,())=_:=laws_szGateLaw_ok n hn d hw1 1048576 (by omega) (by omega)
  simp only [h1,Option.bind_some]
  by_cases hb1:(bulk tGateLaw d:Int)≤1048576
  rotate_left
  · rw [subL_neg hb1,if_pos (by decide)]
  have hs1:small 1048576 tGateLaw d:=small_of_bulk (by omega)
  rw [subL_pos hb1,if_neg (by simp; omega)]
  have h2:laws_szGateAsk.f n (e,1048576 - (bulk tGateLaw d:Int),())=_:=laws_szGateAsk_ok n hn e hw2 _ (by omega) (by omega)
  simp only [h2,Option.bind_some]
  by_cases hb2:(bulk tGateAsk e:Int)≤1048576 - (bulk tGateLaw d:Int)
  rotate_left
  · rw [subL_neg hb2,if_pos (by decide)]
  have hs2:small 1048576 tGateAsk e:=small_of_bulk (by omega)
  rw [subL_pos hb2,if_neg (by simp; omega)]
  have e1:spec_GateAskOk.f n (d,e,())=_:=specAskOk_ok hn d hs1 e hs2
  have e2:impl_GateAskOk.f n (d,e,())=_:=implAskOk_ok hn d hs1 e hs2
  simp only [laws_toGateLaw_ok n hn d hs1,laws_toGateAsk_ok n hn e hs2,Option.bind_some,e1,e2,laws_eqGateLaw_ok n hn (d,d,()) hs1,laws_eqGateAsk_ok n hn (e,e,()) hs2,eqD_refl,beq_self_eq_true,Bool.not_true,Bool.false_eq_true,if_false]

end Go.Proofs.YtmdkodbodddhpaaGreat
