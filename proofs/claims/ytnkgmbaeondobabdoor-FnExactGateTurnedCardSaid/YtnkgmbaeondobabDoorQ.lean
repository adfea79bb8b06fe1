/- The law FnExactGateTurned: what the program tells and what the reference tells are one, for all arguments (the plain law, over printed pure functions). No conditions. -/
import Derived.Test.YtnkgmbaeondobabDoorP
set_option linter.unusedVariables false
set_option linter.unusedSimpArgs false
namespace Go.Proofs.YtnkgmbaeondobabDoor
open Go Go.Vm
section
variable {n:Nat} (hn:Big n)
def digF (s:ByteArray) (i:Nat) (a:Int):Int ⊕ Unit :=
  if ((decide (byteAt s (i:Int) < (48:Int))) || (decide (byteAt s (i:Int) > (57:Int))))=true then .inr () else .inl (a * 10 + (byteAt s (i:Int) - 48))
def badNum (s:ByteArray):Bool:=((decide ((ByteArray.size s:Int) < (1:Int))) || (decide ((ByteArray.size s:Int) > (7:Int)))) || ((byteAt s (0:Int) == (48:Int)) && (decide ((ByteArray.size s:Int) > (1:Int))))
def numR (s:ByteArray):Int ⊕ Unit:=if badNum s=true then .inr () else outF (digF s) (List.range s.size) 0
theorem pow_le (i:Nat) (h:i≤7):(10:Int) ^ i≤10000000:=by
  obtain rfl | rfl | rfl | rfl | rfl | rfl | rfl | rfl:i=0∨i=1∨i=2∨i=3∨i=4∨i=5∨i=6∨i=7:=by omega
  all_goals decide
theorem dig_inv {s:ByteArray} {i:Nat} {a a':Int} (ha:0≤a∧a < (10:Int) ^ i) (h:digF s i a=.inl a'):0≤a'∧a' < (10:Int) ^ (i + 1):=by
  unfold digF at h
  split at h
  · cases h
  · rename_i hc
    simp only [Bool.or_eq_true,decide_eq_true_eq,not_or] at hc
    cases h
    rw [Int.pow_succ]
    omega
theorem num_bound {s:ByteArray} {a:Int} (h:numR s=.inl a):0≤a∧a≤9999999:=by
  unfold numR at h
  split at h
  · cases h
  · rename_i hb
    unfold badNum at hb
    simp only [Bool.or_eq_true,decide_eq_true_eq,not_or] at hb
    have key:∀ (d i:Nat) (a a':Int),i + d=s.size→(0≤a∧a < (10:Int) ^ i)→outF (digF s) ((List.range s.size).drop i) a=.inl a'→0≤a'∧a' < (10:Int) ^ s.size:=by
      intro d
      induction d with
      | zero =>
        intro i a a' hi ha h
        have:i=s.size:=by omega
        subst this
        rw [List.drop_eq_nil_of_le (by simp)] at h
        cases h
        exact ha
      | succ d ih =>
        intro i a a' hi ha h
        rw [List.drop_eq_getElem_cons (by simp; omega)] at h
        simp only [outF,List.getElem_range] at h
        split at h
        · rename_i a1 h1
          exact ih (i + 1) a1 a' (by omega) (dig_inv ha h1) h
        · cases h
    have:=key s.size 0 0 a (by omega) (by simp) (by simpa using h)
    have hp:=pow_le s.size (by omega)
    omega
include hn in
theorem specNum_ok (s:ByteArray):spec_l1Number.f n (s,())=some (Sum.elim (fun a=>a) (fun _=>-1) (numR s),()):=by
  have hn:18446744073709551616≤n:=hn
  unfold spec_l1Number.f numR
  simp only [spec_l1In.f,Option.bind_some]
  by_cases hlen:1≤s.size∧s.size≤7
  · have e1:((decide ((ByteArray.size s:Int)≥(1:Int))) && (decide ((ByteArray.size s:Int)≤(7:Int))))=true:=by simp; omega
    have e2:decide (0≤(0:Int)∧(0:Int) < (ByteArray.size s:Int))=true:=decide_eq_true (by omega)
    have e3:badNum s=((decide ((ByteArray.size s:Int) > (1:Int))) && (byteAt s (0:Int) == (48:Int))):=by
      unfold badNum
      rw [decide_eq_false (show ¬ ((ByteArray.size s:Int) < 1) by omega),decide_eq_false (show ¬ ((ByteArray.size s:Int) > 7) by omega),Bool.and_comm]
      rfl
    simp only [e1,e2,e3,Bool.or_true,if_true,Bool.not_true,Bool.false_or]
    split
    · rfl
    · refine (runL_out (len:=s.size) (fun i a=>(s,a,(i:Int),())) (fun i a=>0≤a∧a < (10:Int) ^ i) (digF s) (fun a=>some (a,())) (fun _=>some (-1,())) ?_ ?_ (by omega) (a:=0) (by simp)).trans (by cases outF (digF s) (List.range s.size) 0<;>rfl)
      · intro next i a hi ha
        have hp:=pow_le i (by omega)
        have hb:=byteAt_lt s (i:Int)
        cases hd:digF s i a with
        | inr e =>
          unfold digF at hd
          split at hd
          · rename_i hc
            simp only [spec_l1Number.B5,lt_dec hi,in_dec hi,Bool.or_true,if_true]
            rw [if_pos hc]
          · cases hd
        | inl a' =>
          refine ⟨dig_inv ha hd,?_⟩
          unfold digF at hd
          split at hd
          · cases hd
          · rename_i hc
            cases hd
            simp only [spec_l1Number.B5,lt_dec hi,in_dec hi,Bool.or_true,if_true]
            rw [if_neg hc,wrap_next hi (show s.size≤1048576 by omega)]
            simp only [Bool.or_eq_true,decide_eq_true_eq,not_or] at hc
            rw [wrap_eq (a:=a * 10) (by omega) (by omega),wrap_eq (a:=byteAt s i) (by omega) (by omega),wrap_eq (a:=a * 10 + byteAt s i) (by omega) (by omega),wrap_eq (by omega) (by omega)]
            rw [show a * 10 + byteAt s i - 48=a * 10 + (byteAt s i - 48) by omega]
      · intro next a ha
        simp only [spec_l1Number.B5,lt_dec',Bool.false_eq_true,if_false]
  · have e1:((decide ((ByteArray.size s:Int)≥(1:Int))) && (decide ((ByteArray.size s:Int)≤(7:Int))))=false:=by
      rw [Bool.and_eq_false_iff,decide_eq_false_iff_not,decide_eq_false_iff_not]; omega
    have e3:badNum s=true:=by
      unfold badNum
      simp only [Bool.or_eq_true,decide_eq_true_eq]
      omega
    simp [e1,e3]
end

section
variable {n:Nat} (hn:Big n)
include hn in
theorem implNum_ok (s:ByteArray):impl_decimal.f n (s,())=some (Sum.elim (fun a=>(a,true,())) (fun _=>(0,false,())) (numR s)):=by
  have hn:18446744073709551616≤n:=hn
  unfold impl_decimal.f numR
  by_cases hlen:1≤s.size∧s.size≤7
  · have e2:decide (0≤(0:Int)∧(0:Int) < (ByteArray.size s:Int))=true:=decide_eq_true (by omega)
    simp only [e2,Bool.or_true,if_true]
    rw [show (((decide ((ByteArray.size s:Int) < (1:Int))) || (decide ((ByteArray.size s:Int) > (7:Int)))) || ((byteAt s (0:Int) == (48:Int)) && (decide ((ByteArray.size s:Int) > (1:Int)))))=badNum s from rfl]
    split
    · rfl
    · refine (runL_out (len:=s.size) (fun i a=>(s,a,(s.size:Int),(i:Int),())) (fun i a=>0≤a∧a < (10:Int) ^ i) (digF s) (fun a=>some (a,true,())) (fun _=>some (0,false,())) ?_ ?_ (by omega) (a:=0) (by simp)).trans (by cases outF (digF s) (List.range s.size) 0<;>rfl)
      · intro next i a hi ha
        have hp:=pow_le i (by omega)
        have hb:=byteAt_lt s (i:Int)
        cases hd:digF s i a with
        | inr e =>
          unfold digF at hd
          split at hd
          · rename_i hc
            simp only [impl_decimal.B5,lt_dec hi,in_dec hi,Bool.or_true,if_true]
            rw [if_pos hc]
          · cases hd
        | inl a' =>
          refine ⟨dig_inv ha hd,?_⟩
          unfold digF at hd
          split at hd
          · cases hd
          · rename_i hc
            cases hd
            simp only [impl_decimal.B5,lt_dec hi,in_dec hi,Bool.or_true,if_true]
            rw [if_neg hc,wrap_next hi (show s.size≤1048576 by omega)]
            simp only [Bool.or_eq_true,decide_eq_true_eq,not_or] at hc
            rw [wrap_u8 (a:=byteAt s i - 48) (by omega) (by omega),wrap_eq (a:=a * 10) (by omega) (by omega),wrap_eq (a:=byteAt s i - 48) (by omega) (by omega),wrap_eq (by omega) (by omega)]
      · intro next a ha
        simp only [impl_decimal.B5,lt_dec',Bool.false_eq_true,if_false]
  · have e3:badNum s=true:=by
      unfold badNum
      simp only [Bool.or_eq_true,decide_eq_true_eq]
      omega
    have e4:((decide ((ByteArray.size s:Int) < (1:Int))) || (decide ((ByteArray.size s:Int) > (7:Int))))=true:=by
      simp only [Bool.or_eq_true,decide_eq_true_eq]
      omega
    simp [e4,e3]
end

section
variable {n:Nat} (hn:Big n)
def badByte (s:ByteArray) (i:Nat):Bool :=
  !((((decide (byteAt s (i:Int)≥(97:Int))) && (decide (byteAt s (i:Int)≤(122:Int)))) || ((decide (byteAt s (i:Int)≥(48:Int))) && (decide (byteAt s (i:Int)≤(57:Int))))) || (byteAt s (i:Int) == (45:Int)))
def bytesOkD (s:ByteArray):Bool:=!(List.range s.size).any (badByte s)
def nameOkD (s:ByteArray):Bool:=((decide ((ByteArray.size s:Int)≥(1:Int))) && (decide ((ByteArray.size s:Int)≤(16:Int)))) && bytesOkD s
include hn in
theorem specName_ok (s:ByteArray) (hl:s.size≤1048576):spec_l1NameOk.f n (s,())=some (nameOkD s,()):=by
  have hn:18446744073709551616≤n:=hn
  unfold spec_l1NameOk.f nameOkD
  simp only [spec_l1In.f,Option.bind_some]
  cases h1:((decide ((ByteArray.size s:Int)≥(1:Int))) && (decide ((ByteArray.size s:Int)≤(16:Int)))) with
  | false=>rfl
  | true =>
    simp only [Bool.not_true,Bool.false_eq_true,if_false,Bool.true_and]
    refine (runL_any (len:=s.size) (fun i=>(s,(i:Int),())) (badByte s) (some (false,())) (some (true,())) ?_ ?_ (by omega)).trans (by unfold bytesOkD; cases (List.range s.size).any (badByte s)<;>rfl)
    · intro next i hi
      simp only [spec_l1NameOk.B4,spec_l1Byte.f,lt_dec hi,in_dec hi,wrap_next hi hl,Option.bind_some,Bool.or_true,if_true,badByte]
      rfl
    · intro next
      simp only [spec_l1NameOk.B4,lt_dec',Bool.false_eq_true,if_false]
include hn in
theorem implBytes_ok (s:ByteArray) (hl:s.size≤1048576):impl_nameBytes.f n (s,())=some (bytesOkD s,()):=by
  have hn:18446744073709551616≤n:=hn
  unfold impl_nameBytes.f bytesOkD
  refine (runL_any (len:=s.size) (fun i=>(s,(s.size:Int),(i:Int),())) (badByte s) (some (false,())) (some (true,())) ?_ ?_ (by omega)).trans (by cases (List.range s.size).any (badByte s)<;>rfl)
  · intro next i hi
    simp only [impl_nameBytes.B2,impl_nameByte.f,lt_dec hi,in_dec hi,wrap_next hi hl,Option.bind_some,Bool.or_true,if_true,badByte]
    rfl
  · intro next
    simp only [impl_nameBytes.B2,lt_dec',Bool.false_eq_true,if_false]
include hn in
theorem implName_ok (s:ByteArray) (hl:s.size≤1048576):impl_isName.f n (s,())=some (nameOkD s,()):=by
  unfold impl_isName.f nameOkD
  simp only [implBytes_ok hn s hl,Option.bind_some]
  cases h1:((decide ((ByteArray.size s:Int)≥(1:Int))) && (decide ((ByteArray.size s:Int)≤(16:Int)))) with
  | false=>rfl
  | true=>rfl
end

theorem eqK_refl:∀ {t:Ty} {x:t.den},flat t=true→eqK t x x=true
  | .int _,x,_=>by
    show @BEq.beq Int _ x x=true
    simp
  | .bool,x,_=>by
    show @BEq.beq Bool _ x x=true
    simp
  | .str,x,_=>by
    show seq x x=true
    simp [seq]
  | .unit,_,_=>rfl
  | .pair a b,x,hf=>by
    simp only [flat,Bool.and_eq_true] at hf
    simp only [eqK,Bool.and_eq_true]
    exact ⟨eqK_refl hf.1,eqK_refl hf.2⟩
  | .slice _,_,h=>by simp [flat] at h
  | .ptr _,_,h=>by simp [flat] at h
theorem mget_mput {k:Ty} (l:List (k.den×Int)) (x y:k.den) (n:Int):mget k (mput k l x n) y=if eqK k y x=true then n else mget k l y:=by
  induction l with
  | nil=>rfl
  | cons p l ih =>
    simp only [mput]
    by_cases h1:eqK k x p.1=true
    · have e:=eqK_eq h1
      rw [if_pos h1]
      simp only [mget,e]
      by_cases h2:eqK k y p.1=true<;>simp [h2]
    · rw [if_neg h1]
      simp only [mget,ih]
      by_cases h2:eqK k y p.1=true
      · by_cases h3:eqK k y x=true
        · exact absurd (by rw [← eqK_eq h3,← eqK_eq h2] at *; exact h2) h1
        · simp [h2,h3]
      · simp [h2]
theorem mset_put {k:Ty} (l:List (k.den×Int)) (x:k.den) (n:Int):List.set (mtouch k l x) (mat k l x) ((List.getD (mtouch k l x) (mat k l x) (Ty.zero k,0)).1,n)=mput k l x n:=by
  obtain ⟨p,h1,h2⟩:=touch_set l x n
  rw [List.getD_eq_getElem?_getD,h1]
  exact h2
theorem mat_in {k:Ty} (l:List (k.den×Int)) (x:k.den):mat k l x < List.length (mtouch k l x):=by
  obtain ⟨p,h1,h2⟩:=touch_set l x 0
  exact (List.getElem?_eq_some_iff.1 h1).1
theorem runL_search {S C Q A:Type} {B:(S→Option Q)→C→S→Option Q} {cs:C} {len:Nat} (st:Nat→A→S) (inv:Nat→A→Prop) (p:Nat→Bool) (found:Nat→Option Q) (dn:Option Q)
    (hstep:∀ (next:S→Option Q) (i:Nat) (a:A),i < len→inv i a→if p i=true then B next cs (st i a)=found i else ∃ a',inv (i + 1) a'∧B next cs (st i a)=next (st (i + 1) a'))
    (hend:∀ (next:S→Option Q) (a:A),inv len a→B next cs (st len a)=dn) {k:Nat} (hk:len < k) {a:A} (ha:inv 0 a):runL B cs k (st 0 a)=((List.range len).find? p).elim dn found:=by
  have key:∀ (d i k:Nat) (a:A),i + d=len→d < k→inv i a→runL B cs k (st i a)=((List.range' i d).find? p).elim dn found:=by
    intro d
    induction d with
    | zero =>
      intro i k a hi hk ha
      have:i=len:=by omega
      subst this
      rw [runL_pos B cs (by omega),hend _ _ ha]
      rfl
    | succ d ih =>
      intro i k a hi hk ha
      rw [runL_pos B cs (by omega)]
      have:=hstep (runL B cs (k - 1)) i a (by omega) ha
      rw [List.range'_succ,List.find?_cons]
      rcases Bool.eq_false_or_eq_true (p i) with hp | hp
      · rw [if_pos hp] at this
        rw [this,hp]
        rfl
      · rw [if_neg (by simp [hp])] at this
        obtain ⟨a',h1,h2⟩:=this
        rw [h2,hp,ih (i + 1) (k - 1) a' (by omega) (by omega) h1]
  rw [key len 0 k a (by omega) hk ha,List.range_eq_range']

section
variable {n:Nat} (hn:Big n)
theorem empty_str {s:ByteArray} (h:seq s (⟨#[]⟩:ByteArray)=true):s=⟨#[]⟩:=eqK_eq (t:=.str) h
theorem empty_num {s:ByteArray} (h:seq s (⟨#[]⟩:ByteArray)=true):numR s=.inr ():=by
  rw [empty_str h]
  rfl
theorem empty_name {s:ByteArray} (h:seq s (⟨#[]⟩:ByteArray)=true):nameOkD s=false:=by
  rw [empty_str h]
  rfl
def badChar (s:ByteArray) (i:Nat):Bool:=(decide (byteAt s (i:Int) < (33:Int))) || (decide (byteAt s (i:Int) > (126:Int)))
def hasW (l:List ByteArray) (s:ByteArray):Bool:=(l.findIdx? (fun w=>seq w s)).isSome
def fitsD (f:Ty.den tGateField) (s:ByteArray):Bool :=
  if (f.2.1 == (1:Int))=true then Sum.elim (fun a=>decide (a≥(f.2.2.1:Int)) && decide (a≤(f.2.2.2.1:Int))) (fun _=>false) (numR s)
  else if (f.2.1 == (2:Int))=true then !seq s (⟨#[]⟩:ByteArray) && hasW f.2.2.2.2.1 s
  else if (f.2.1 == (3:Int))=true then !(List.range s.size).any (badChar s) && (!seq s (⟨#[]⟩:ByteArray) && (decide ((ByteArray.size s:Int)≥(f.2.2.1:Int)) && decide ((ByteArray.size s:Int)≤(f.2.2.2.1:Int))))
  else if (f.2.1 == (4:Int))=true then nameOkD s
  else false
include hn in
theorem specHas_ok (l:List ByteArray) (hl:l.length≤1048576) (s:ByteArray):spec_l1Has.f n (l,s,())=some (hasW l s,()):=by
  have hn':18446744073709551616≤n:=hn
  unfold spec_l1Has.f hasW
  refine (runL_find (l:=l) (fun i=>(l,s,(i:Int),())) (fun w=>seq w s) (fun i=>some (true,())) (some (false,())) ?_ ?_ (by omega)).trans (by cases l.findIdx? (fun w=>seq w s)<;>rfl)
  · intro next i hi
    simp only [spec_l1Has.B2,lt_dec hi,in_dec hi,wrap_next hi hl,if_true]
    rw [getD_nat _ _ _ hi]
  · intro next
    simp only [spec_l1Has.B2,lt_dec',Bool.false_eq_true,if_false]
include hn in
theorem specFits_ok (f:Ty.den tGateField) (s:ByteArray) (hs:small 1048576 tGateField f) (hl:s.size≤1048576):spec_GateFits.f n (f,s,())=some (fitsD f s,()):=by
  have hn':18446744073709551616≤n:=hn
  have hw:List.length f.2.2.2.2.1≤1048576:=hs.2.2.2.2.1.1
  unfold spec_GateFits.f fitsD
  have hnum:=specNum_ok hn s
  have hhas:spec_l1Has.f n (f.2.2.2.2.1,s,())=_:=specHas_ok hn f.2.2.2.2.1 hw s
  have hname:=specName_ok hn s hl
  by_cases k1:(f.2.1 == (1:Int))=true
  · simp only [k1,if_true,hnum,Option.bind_some,spec_l1In.f]
    cases hr:numR s with
    | inl a =>
      have hb:=num_bound hr
      have key:∀ (a lo hi:Int),0≤a→((if decide (a≥0)=true then (some (decide (a≥lo) && decide (a≤hi),()):Option (Tup [.bool])) else some (tzero [.bool])).bind fun y2=>some (decide (a≥0) && y2.1,()))=(some (decide (a≥lo) && decide (a≤hi),()):Option (Tup [.bool])):=by
        intro a lo hi h
        rw [decide_eq_true (show a≥0 by omega)]
        rfl
      exact key a _ _ hb.1
    | inr u=>rfl
  simp only [k1,if_false,Bool.false_eq_true]
  by_cases k2:(f.2.1 == (2:Int))=true
  · simp only [k2,if_true,hhas]
    cases seq s (⟨#[]⟩:ByteArray)<;>rfl
  simp only [k2,if_false,Bool.false_eq_true]
  by_cases k3:(f.2.1 == (3:Int))=true
  · simp only [k3,if_true]
    refine (runL_any (len:=s.size) (fun i=>(s,f,(i:Int),())) (badChar s) (some (false,())) (some (!seq s (⟨#[]⟩:ByteArray) && (decide ((ByteArray.size s:Int)≥(f.2.2.1:Int)) && decide ((ByteArray.size s:Int)≤(f.2.2.2.1:Int))),())) ?_ ?_ (by omega)).trans ?_
    · intro next i hi
      have hb:=byteAt_lt s (i:Int)
      have e:(!((decide (byteAt s (i:Int)≥(33:Int))) && (decide (byteAt s (i:Int)≤(126:Int)))))=badChar s i:=by
        unfold badChar
        by_cases a1:byteAt s (i:Int) < 33<;>by_cases a2:byteAt s (i:Int) > 126<;>simp [a1,a2]<;>omega
      simp only [spec_GateFits.B9,lt_dec hi,in_dec hi,if_true,wrap_next hi hl,spec_l1In.f,Option.bind_some,wrap_eq (a:=byteAt s i) (by omega) (by omega),e]
    · intro next
      simp only [spec_GateFits.B9,lt_dec',Bool.false_eq_true,if_false,spec_l1In.f]
      cases seq s (⟨#[]⟩:ByteArray)<;>rfl
    · cases (List.range s.size).any (badChar s)<;>simp
  simp only [k3,if_false,Bool.false_eq_true]
  by_cases k4:(f.2.1 == (4:Int))=true
  · simp only [k4,if_true,hname,Option.bind_some]
  · simp only [k4,if_false,Bool.false_eq_true]
include hn in
theorem implFits_ok (f:Ty.den tGateField) (s:ByteArray) (hs:small 1048576 tGateField f) (hl:s.size≤1048576):impl_GateFits.f n (f,s,())=some (fitsD f s,()):=by
  have hn':18446744073709551616≤n:=hn
  have hw:List.length f.2.2.2.2.1≤1048576:=hs.2.2.2.2.1.1
  have hnum:impl_numberField_fits.f n ((f,()),s,())=some (Sum.elim (fun a=>decide (a≥(f.2.2.1:Int)) && decide (a≤(f.2.2.2.1:Int))) (fun _=>false) (numR s),()):=by
    unfold impl_numberField_fits.f
    simp only [implNum_ok hn s,Option.bind_some]
    cases numR s<;>rfl
  have hword:impl_wordField_fits.f n ((f,()),s,())=some (hasW f.2.2.2.2.1 s,()):=by
    unfold impl_wordField_fits.f hasW
    refine (runL_find (l:=f.2.2.2.2.1) (fun i=>(s,f.2.2.2.2.1,(List.length f.2.2.2.2.1:Int),(i:Int),())) (fun w=>seq w s) (fun i=>some (true,())) (some (false,())) ?_ ?_ (by omega)).trans (by cases List.findIdx? (fun w=>seq w s) f.2.2.2.2.1<;>rfl)
    · intro next i hi
      simp only [impl_wordField_fits.B2,lt_dec hi,in_dec hi,wrap_next hi hw,if_true]
      rw [getD_nat _ _ _ hi]
    · intro next
      simp only [impl_wordField_fits.B2,lt_dec',Bool.false_eq_true,if_false]
  have htext:impl_textField_fits.f n ((f,()),s,())=some ((decide ((ByteArray.size s:Int)≥(f.2.2.1:Int)) && decide ((ByteArray.size s:Int)≤(f.2.2.2.1:Int))) && !(List.range s.size).any (badChar s),()):=by
    unfold impl_textField_fits.f
    have key:∀ (lo hi:Int),(if ((decide ((ByteArray.size s:Int) < lo)) || (decide ((ByteArray.size s:Int) > hi)))=true then some (false,()) else
        runL (impl_textField_fits.B4 n) ((fun z1=>some (z1.1,())),(fun z2=>some (true,())),()) n (s,(ByteArray.size s:Int),(0:Int),()))=(some ((decide ((ByteArray.size s:Int)≥lo) && decide ((ByteArray.size s:Int)≤hi)) && !(List.range s.size).any (badChar s),()):Option (Tup [.bool])):=by
      intro lo hi
      by_cases c:(ByteArray.size s:Int) < lo∨(ByteArray.size s:Int) > hi
      · rw [if_pos (by simpa using c)]
        have:(decide ((ByteArray.size s:Int)≥lo) && decide ((ByteArray.size s:Int)≤hi))=false:=by simp; omega
        rw [this,Bool.false_and]
      · rw [if_neg (by simpa using c)]
        have:(decide ((ByteArray.size s:Int)≥lo) && decide ((ByteArray.size s:Int)≤hi))=true:=by simp; omega
        rw [this,Bool.true_and]
        refine (runL_any (len:=s.size) (fun i=>(s,(ByteArray.size s:Int),(i:Int),())) (badChar s) (some (false,())) (some (true,())) ?_ ?_ (by omega)).trans (by cases (List.range s.size).any (badChar s)<;>rfl)
        · intro next i hi
          simp only [impl_textField_fits.B4,lt_dec hi,in_dec hi,Bool.or_true,if_true,wrap_next hi hl]
          rfl
        · intro next
          simp only [impl_textField_fits.B4,lt_dec',Bool.false_eq_true,if_false]
    exact key _ _
  have hlink:impl_linkField_fits.f n ((f,()),s,())=some (nameOkD s,()):=by
    unfold impl_linkField_fits.f
    simp only [implName_ok hn s hl,Option.bind_some]
  have key:∀ k:Int,f.2.1=k→impl_GateFits.f n (f,s,())=some (fitsD f s,()):=by
    intro k hk
    unfold impl_GateFits.f impl_sortOf.f fitsD
    simp only [Option.bind_some,hnum,hword,htext,hlink]
    rw [hk]
    by_cases k1:k=1
    · subst k1
      rcases Bool.eq_false_or_eq_true (seq s (⟨#[]⟩:ByteArray)) with hse | hse
      · simp [hse,empty_num hse,place4]
      · simp [hse,place4]
    by_cases k2:k=2
    · subst k2
      cases hse:seq s (⟨#[]⟩:ByteArray)<;>simp [place4]
    by_cases k3:k=3
    · subst k3
      cases hse:seq s (⟨#[]⟩:ByteArray)<;>simp [place4,Bool.and_comm]
    by_cases k4:k=4
    · subst k4
      rcases Bool.eq_false_or_eq_true (seq s (⟨#[]⟩:ByteArray)) with hse | hse
      · simp [hse,empty_name hse,place4]
      · simp [hse,place4]
    · have e1:(k == (1:Int))=false:=by simpa using k1
      have e2:(k == (2:Int))=false:=by simpa using k2
      have e3:(k == (3:Int))=false:=by simpa using k3
      have e4:(k == (4:Int))=false:=by simpa using k4
      simp [place4,k1,k2,k3,k4,e1,e2,e3,e4]
  exact key _ rfl
end

section
variable {n:Nat} (hn:Big n)
def fieldAt (F:List (Ty.den tGateField)) (i:Nat):Ty.den tGateField:=List.getD F i (Ty.zero tGateField)
def nameAt (F:List (Ty.den tGateField)) (i:Nat):ByteArray:=(fieldAt F i).1
def wordAt (l:List ByteArray) (i:Nat):ByteArray:=List.getD l i (⟨#[]⟩:ByteArray)
def badWord (l:List ByteArray) (i:Nat):Bool:=!nameOkD (wordAt l i) || (decide (0 < i) && !slt (wordAt l (i - 1)) (wordAt l i))
def ascD (l:List ByteArray):Bool:=!(List.range l.length).any (badWord l)
theorem listGetD_lt {X:Type} (l:List X) (i:Nat) (z:X) (h:i < l.length):l.getD i z=l[i] := by simp [h]
theorem pred_wrap' {i:Nat} (h0:0 < i) (hi:i≤1048576):IntKind.i64.wrap ((i:Int) - 1)=((i - 1:Nat):Int):=by
  rw [wrap_eq (by omega) (by omega)]
  omega
include hn in
theorem specAsc_ok (l:List ByteArray) (hs:small 1048576 (.slice .str) l):spec_l1Ascending.f n (l,())=some (ascD l,()):=by
  have hn':18446744073709551616≤n:=hn
  have hl:List.length l≤1048576:=hs.1
  unfold spec_l1Ascending.f ascD
  refine (runL_any (len:=List.length l) (fun i=>(l,(i:Int),())) (badWord l) (some (false,())) (some (true,())) ?_ ?_ (by omega)).trans (by cases (List.range l.length).any (badWord l)<;>rfl)
  · intro next i hi
    have hsz:ByteArray.size (wordAt l i)≤1048576:=by
      unfold wordAt
      rw [listGetD_lt _ _ _ hi]
      exact hs.2 _ (List.getElem_mem hi)
    have hnm:=specName_ok hn (wordAt l i) hsz
    unfold wordAt at hnm
    simp only [spec_l1Ascending.B2,lt_dec hi,in_dec hi,Bool.or_true,if_true,Int.toNat_natCast,hnm,Option.bind_some,wrap_next hi hl]
    unfold badWord wordAt
    by_cases h0:0 < i
    · have e:decide ((i:Int) > 0)=true:=decide_eq_true (by omega)
      have e2:decide (0≤((i - 1:Nat):Int)∧((i - 1:Nat):Int) < (List.length l:Int))=true:=decide_eq_true (by omega)
      simp only [e,decide_eq_true h0,pred_wrap' h0 (by omega),e2,Int.toNat_natCast,Bool.or_true,if_true,Bool.true_and]
    · have e:decide ((i:Int) > 0)=false:=decide_eq_false (by omega)
      simp only [e,decide_eq_false h0,Bool.and_false,Bool.not_false,Bool.true_or,if_true,Bool.false_and]
  · intro next
    simp only [spec_l1Ascending.B2,lt_dec',Bool.false_eq_true,if_false]
include hn in
theorem implAsc_ok (l:List ByteArray) (hs:small 1048576 (.slice .str) l):impl_ascendingNames.f n (l,())=some (ascD l,()):=by
  have hn':18446744073709551616≤n:=hn
  have hl:List.length l≤1048576:=hs.1
  unfold impl_ascendingNames.f ascD
  refine (runL_any (len:=List.length l) (fun i=>(l,l,(List.length l:Int),(i:Int),())) (badWord l) (some (false,())) (some (true,())) ?_ ?_ (by omega)).trans (by cases (List.range l.length).any (badWord l)<;>rfl)
  · intro next i hi
    have hsz:ByteArray.size (wordAt l i)≤1048576:=by
      unfold wordAt
      rw [listGetD_lt _ _ _ hi]
      exact hs.2 _ (List.getElem_mem hi)
    have hnm:=implName_ok hn (wordAt l i) hsz
    unfold wordAt at hnm
    simp only [impl_ascendingNames.B2,lt_dec hi,in_dec hi,Bool.or_true,if_true,Int.toNat_natCast,hnm,Option.bind_some,wrap_next hi hl]
    unfold badWord wordAt
    by_cases h0:0 < i
    · have e:decide ((i:Int) > 0)=true:=decide_eq_true (by omega)
      have e2:decide (0≤((i - 1:Nat):Int)∧((i - 1:Nat):Int) < (List.length l:Int))=true:=decide_eq_true (by omega)
      simp only [e,decide_eq_true h0,pred_wrap' h0 (by omega),e2,Int.toNat_natCast,Bool.or_true,if_true,Bool.true_and]
    · have e:decide ((i:Int) > 0)=false:=decide_eq_false (by omega)
      simp only [e,decide_eq_false h0,Bool.and_false,Bool.not_false,Bool.true_or,if_true,Bool.false_and]
  · intro next
    simp only [impl_ascendingNames.B2,lt_dec',Bool.false_eq_true,if_false]
abbrev emp (s:ByteArray):Bool:=seq s (⟨#[]⟩:ByteArray)
def bareD (kd lo hi words:Int) (to:ByteArray) (role:Int) (weighs:ByteArray):Bool :=
  if (((!((kd == (1:Int)) || (kd == (3:Int)))) && ((lo != (0:Int)) || (hi != (0:Int)))) || ((kd != (1:Int)) && (!emp weighs)))=true then false
  else if ((kd != (2:Int)) && (decide (words > (0:Int))))=true then false
  else ((kd == (4:Int)) || ((emp to) && (role == (0:Int))))
def soundD (kd lo hi words:Int) (asc has:Bool) (role:Int) (must:Bool) (dflt weighs:ByteArray):Bool :=
  if (kd == (1:Int))=true then (((decide (lo≥(0:Int))) && (decide (lo≤hi))) && (decide (hi≤(1000000:Int)))) && (emp weighs || nameOkD weighs)
  else if (kd == (2:Int))=true then ((decide (words≥(1:Int))) && (decide (words≤(6:Int)))) && asc
  else if (kd == (3:Int))=true then (((decide (lo≥(1:Int))) && (decide (lo≤hi))) && (decide (hi≤(40:Int))))
  else if (kd == (4:Int))=true then ((has && ((decide (role≥(1:Int))) && (decide (role≤(3:Int))))) && emp dflt) && ((role != (2:Int)) || !must)
  else false
def fieldD (K:List ByteArray) (f:Ty.den tGateField):Bool :=
  nameOkD f.1 && bareD f.2.1 f.2.2.1 f.2.2.2.1 (List.length f.2.2.2.2.1:Int) f.2.2.2.2.2.1 f.2.2.2.2.2.2.1 f.2.2.2.2.2.2.2.2.2.2.1
    && (emp f.2.2.2.2.2.2.2.2.2.1 || fitsD f f.2.2.2.2.2.2.2.2.2.1)
    && soundD f.2.1 f.2.2.1 f.2.2.2.1 (List.length f.2.2.2.2.1:Int) (ascD f.2.2.2.2.1) (hasW K f.2.2.2.2.2.1) f.2.2.2.2.2.2.1 f.2.2.2.2.2.2.2.1 f.2.2.2.2.2.2.2.2.2.1 f.2.2.2.2.2.2.2.2.2.2.1
theorem bare_1 (lo hi:Int) (words:Nat) (to:ByteArray) (role:Int) (weighs:ByteArray):bareD 1 lo hi (words:Int) to role weighs=((((words:Int) == (0:Int)) && emp to) && (role == (0:Int))):=by
  unfold bareD
  by_cases h:words=0
  · subst h; simp
  · have e1:((words:Int) == (0:Int))=false:=by simpa using h
    have e2:decide ((words:Int) > 0)=true:=decide_eq_true (by omega)
    rw [e1,e2]; simp
theorem bare_2 (lo hi:Int) (words:Nat) (to:ByteArray) (role:Int) (weighs:ByteArray):bareD 2 lo hi (words:Int) to role weighs=(((((lo == (0:Int)) && (hi == (0:Int))) && emp to) && (role == (0:Int))) && emp weighs):=by
  unfold bareD
  simp only [bne]
  cases lo == (0:Int)<;>cases hi == (0:Int)<;>cases emp weighs<;>cases emp to<;>cases role == (0:Int)<;>rfl
theorem bare_3 (lo hi:Int) (words:Nat) (to:ByteArray) (role:Int) (weighs:ByteArray):bareD 3 lo hi (words:Int) to role weighs=(((((words:Int) == (0:Int)) && emp to) && (role == (0:Int))) && emp weighs):=by
  unfold bareD
  by_cases h:words=0
  · subst h
    cases emp weighs<;>cases emp to<;>cases role == (0:Int)<;>rfl
  · have e1:((words:Int) == (0:Int))=false:=by simpa using h
    have e2:decide ((words:Int) > 0)=true:=decide_eq_true (by omega)
    rw [e1,e2]
    cases emp weighs<;>rfl
theorem bare_4 (lo hi:Int) (words:Nat) (to:ByteArray) (role:Int) (weighs:ByteArray):bareD 4 lo hi (words:Int) to role weighs=((((lo == (0:Int)) && (hi == (0:Int))) && ((words:Int) == (0:Int))) && emp weighs):=by
  unfold bareD
  simp only [bne]
  by_cases h:words=0
  · subst h
    cases lo == (0:Int)<;>cases hi == (0:Int)<;>cases emp weighs<;>rfl
  · have e1:((words:Int) == (0:Int))=false:=by simpa using h
    have e2:decide ((words:Int) > 0)=true:=decide_eq_true (by omega)
    rw [e1,e2]
    cases lo == (0:Int)<;>cases hi == (0:Int)<;>cases emp weighs<;>rfl
include hn in
theorem specShapeS_ok (l:List (Ty.den tGateShape)) (hl:l.length≤1048576) (a:ByteArray):spec_l1Shape.f n (l,a,())=some (fidx (fun t:Ty.den tGateShape=>seq t.1 a) l,()):=by
  have hn:18446744073709551616≤n:=hn
  unfold spec_l1Shape.f
  refine (runL_find (l:=l) (fun i=>(l,a,(i:Int),())) (fun t:Ty.den tGateShape=>seq t.1 a) (fun i=>some ((i:Int),())) (some (-1,())) ?_ ?_ (by omega)).trans ?_
  · intro next i hi
    simp only [spec_l1Shape.B2,lt_dec hi,in_dec hi,wrap_next hi hl,if_true]
    rw [getD_nat _ _ _ hi]
  · intro next
    simp only [spec_l1Shape.B2,lt_dec',Bool.false_eq_true,if_false]
  · simp only [fidx]
    cases l.findIdx? (fun t:Ty.den tGateShape=>seq t.1 a)<;>rfl
def kindsD (L:List (Ty.den tGateShape)):List ByteArray:=L.map (fun t:Ty.den tGateShape=>t.1)
theorem fidx_has (L:List (Ty.den tGateShape)) (a:ByteArray):decide (fidx (fun t:Ty.den tGateShape=>seq t.1 a) L≥(0:Int))=hasW (kindsD L) a:=by
  unfold hasW kindsD
  have e:((L.map (fun t:Ty.den tGateShape=>t.1)).findIdx? (fun w=>seq w a))=L.findIdx? (fun t:Ty.den tGateShape=>seq t.1 a):=by
    induction L with
    | nil=>rfl
    | cons x L ih =>
      rw [List.map_cons,List.findIdx?_cons,List.findIdx?_cons,ih]
  rw [e]
  cases h:L.findIdx? (fun t:Ty.den tGateShape=>seq t.1 a) with
  | none=>rw [fidx_none h]; rfl
  | some i=>rw [fidx_some h]; exact decide_eq_true (by omega)
include hn in
theorem specField_ok (L:List (Ty.den tGateShape)) (hL:small 1048576 (.slice tGateShape) L) (f:Ty.den tGateField) (hf:small 1048576 tGateField f):spec_l1FieldOk.f n (L,f,())=some (fieldD (kindsD L) f,()):=by
  have hn':18446744073709551616≤n:=hn
  have h1:ByteArray.size f.1≤1048576:=hf.1
  have hd:ByteArray.size f.2.2.2.2.2.2.2.2.2.1≤1048576:=hf.2.2.2.2.2.2.2.2.2.1
  have hwg:ByteArray.size f.2.2.2.2.2.2.2.2.2.2.1≤1048576:=hf.2.2.2.2.2.2.2.2.2.2.1
  have hbare:spec_l1Bare.f n (f,())=some (bareD f.2.1 f.2.2.1 f.2.2.2.1 (List.length f.2.2.2.2.1:Int) f.2.2.2.2.2.1 f.2.2.2.2.2.2.1 f.2.2.2.2.2.2.2.2.2.2.1,()):=by
    unfold spec_l1Bare.f bareD
    have key:∀ (c1 c2 e:Bool),(if c1=true then some (false,()) else if c2=true then some (false,()) else some (e,()):Option (Tup [.bool]))=some (if c1=true then false else if c2=true then false else e,()):=by
      intro c1 c2 e; cases c1<;>cases c2<;>rfl
    exact key _ _ _
  have hname:spec_l1NameOk.f n (f.1,())=some (nameOkD f.1,()):=specName_ok hn f.1 h1
  have hfits:spec_GateFits.f n (f,f.2.2.2.2.2.2.2.2.2.1,())=some (fitsD f f.2.2.2.2.2.2.2.2.2.1,()):=specFits_ok hn f _ hf hd
  have hweighs:spec_l1NameOk.f n (f.2.2.2.2.2.2.2.2.2.2.1,())=some (nameOkD f.2.2.2.2.2.2.2.2.2.2.1,()):=specName_ok hn _ hwg
  have hasc:spec_l1Ascending.f n (f.2.2.2.2.1,())=some (ascD f.2.2.2.2.1,()):=specAsc_ok hn _ hf.2.2.2.2.1
  have hshape:spec_l1Shape.f n (L,f.2.2.2.2.2.1,())=some (fidx (fun t:Ty.den tGateShape=>seq t.1 f.2.2.2.2.2.1) L,()):=specShapeS_ok hn L hL.1 _
  unfold spec_l1FieldOk.f fieldD
  simp only [hname,hbare,hfits,hweighs,hasc,hshape,Option.bind_some,spec_l1In.f,fidx_has]
  have key:∀ (N B D F S:Bool) (rest:Option (Tup [.bool])),rest=some (S,()) →
      ((if (!(!N))=true then some (B,()) else some (tzero [.bool])).bind fun y2:Tup [.bool] => (if ((!((!N) || (!y2.1))) && (!D))=true then some (F,()) else some (tzero [.bool])).bind fun y3:Tup [.bool] =>
        if (((!N) || (!y2.1)) || ((!D) && (!y3.1)))=true then some (false,()) else rest)=some (((N && B) && (D || F)) && S,()):=by
    intro N B D F S rest h
    subst h
    cases N<;>cases B<;>cases D<;>cases F<;>rfl
  refine key _ _ _ _ _ _ ?_
  have k1:∀ (c e m:Bool),((if (c && (!e))=true then some (m,()) else some (tzero [.bool])).bind fun y:Tup [.bool] => some (c && (e || y.1),()))=(some (c && (e || m),()):Option (Tup [.bool])):=by
    intro c e m; cases c<;>cases e<;>cases m<;>rfl
  have k2:∀ (c m:Bool),((if c=true then some (m,()) else some (tzero [.bool])).bind fun y:Tup [.bool] => some (c && y.1,()))=(some (c && m,()):Option (Tup [.bool])):=by
    intro c m; cases c<;>cases m<;>rfl
  have k4:∀ (c m e r:Bool),((if c=true then some (m,()) else some (tzero [.bool])).bind fun y:Tup [.bool] => some (((c && y.1) && e) && r,()))=(some (((c && m) && e) && r,()):Option (Tup [.bool])):=by
    intro c m e r; cases c<;>cases m<;>rfl
  unfold soundD
  by_cases e1:(f.2.1 == (1:Int))=true
  · rw [if_pos e1,if_pos e1]; exact k1 _ _ _
  rw [if_neg e1,if_neg e1]
  by_cases e2:(f.2.1 == (2:Int))=true
  · rw [if_pos e2,if_pos e2]; exact k2 _ _
  rw [if_neg e2,if_neg e2]
  by_cases e3:(f.2.1 == (3:Int))=true
  · rw [if_pos e3,if_pos e3]
  rw [if_neg e3,if_neg e3]
  by_cases e4:(f.2.1 == (4:Int))=true
  · rw [if_pos e4,if_pos e4,← fidx_has L f.2.2.2.2.2.1]; exact k4 _ _ _ _
  · rw [if_neg e4,if_neg e4]
end

section
variable {n:Nat} (hn:Big n)
def dupF (F:List (Ty.den tGateField)) (i:Nat):Bool:=(List.range i).any (fun k=>seq (nameAt F k) (nameAt F i))
def badFieldS (K:List ByteArray) (F:List (Ty.den tGateField)) (i:Nat):Bool:=!fieldD K (fieldAt F i) || dupF F i
def fieldsAt (L:List (Ty.den tGateShape)) (i:Nat):List (Ty.den tGateField):=(List.getD L i (Ty.zero tGateShape)).2.1
def badFields (K:List ByteArray) (F:List (Ty.den tGateField)):Bool:=decide ((List.length F:Int) > (6:Int)) || (List.range (List.length F)).any (badFieldS K F)
def shapesD (L:List (Ty.den tGateShape)):Bool:=!decide ((List.length L:Int) > (6:Int)) && (ascD (kindsD L) && !(List.range (List.length L)).any (fun i=>badFields (kindsD L) (fieldsAt L i)))
theorem ite_else {X:Type} {c:Bool} {a b b':X} (h:b=b'):(if c=true then a else b)=if c=true then a else b':=by rw [h]
theorem any_or {l:List Nat} {a b:Nat→Bool}:l.any (fun i=>a i || b i)=(l.any a || l.any b):=by
  induction l with
  | nil=>rfl
  | cons x l ih =>
    simp only [List.any_cons,ih]
    cases a x<;>cases b x<;>cases l.any a<;>cases l.any b<;>rfl
theorem kind_at {L:List (Ty.den tGateShape)} {i:Nat} (hi:i < List.length L):wordAt (kindsD L) i=(List.getD L i (Ty.zero tGateShape)).1:=by
  unfold wordAt kindsD
  rw [listGetD_lt _ _ _ (by simpa using hi),listGetD_lt _ _ _ hi]
  simp
theorem field_small {F:List (Ty.den tGateField)} (hF:small 1048576 (.slice tGateField) F) {i:Nat} (hi:i < List.length F):small 1048576 tGateField (fieldAt F i):=by
  unfold fieldAt
  rw [listGetD_lt _ _ _ hi]
  exact hF.2 _ (List.getElem_mem hi)
theorem shape_small {L:List (Ty.den tGateShape)} (hL:small 1048576 (.slice tGateShape) L) {i:Nat} (hi:i < List.length L):small 1048576 tGateShape (List.getD L i (Ty.zero tGateShape)):=by
  rw [listGetD_lt _ _ _ hi]
  exact hL.2 _ (List.getElem_mem hi)
theorem kinds_small {L:List (Ty.den tGateShape)} (hL:small 1048576 (.slice tGateShape) L):small 1048576 (.slice .str) (kindsD L):=by
  refine ⟨by have:=hL.1; simpa [kindsD] using this,fun x hx=>?_⟩
  simp only [kindsD,List.mem_map] at hx
  obtain ⟨y,hy,rfl⟩:=hx
  exact (hL.2 y hy).1
include hn in
theorem specShapes_ok (L:List (Ty.den tGateShape)) (hL:small 1048576 (.slice tGateShape) L):spec_GateShapesOk.f n (L,())=some (shapesD L,()):=by
  have hn':18446744073709551616≤n:=hn
  have hl:List.length L≤1048576:=hL.1
  unfold spec_GateShapesOk.f shapesD
  by_cases c0:(List.length L:Int) > 6
  · rw [decide_eq_true c0]; rfl
  rw [decide_eq_false c0]
  simp only [Bool.false_eq_true,if_false,Bool.not_false,Bool.true_and]
  refine (runL_any (len:=List.length L) (fun i=>(L,(i:Int),())) (fun i=>badWord (kindsD L) i || badFields (kindsD L) (fieldsAt L i)) (some (false,())) (some (true,())) ?_ ?_ (by omega)).trans ?_
  · intro next i hi
    have hs:=shape_small hL hi
    have hF:small 1048576 (.slice tGateField) (fieldsAt L i):=hs.2.1
    have hFl:List.length (fieldsAt L i)≤1048576:=hF.1
    have hnm:spec_l1NameOk.f n ((List.getD L i (Ty.zero tGateShape)).1,())=some (nameOkD (wordAt (kindsD L) i),()):=by
      rw [kind_at hi]
      exact specName_ok hn _ hs.1
    simp only [spec_GateShapesOk.B4,lt_dec hi,in_dec hi,if_true,Int.toNat_natCast,hnm,Option.bind_some]
    have hcond:(!((!(!nameOkD (wordAt (kindsD L) i))) && (decide ((i:Int) > (0:Int)))) || (decide (0≤(IntKind.i64.wrap ((i:Int) - (1:Int)))∧(IntKind.i64.wrap ((i:Int) - (1:Int))) < (List.length L:Int))))=true:=by
      by_cases h0:0 < i
      · have e2:decide (0≤((i - 1:Nat):Int)∧((i - 1:Nat):Int) < (List.length L:Int))=true:=decide_eq_true (by omega)
        rw [pred_wrap' h0 (by omega),e2,Bool.or_true]
      · rw [decide_eq_false (show ¬ ((i:Int) > 0) by omega),Bool.and_false]; rfl
    have hbad:((!nameOkD (wordAt (kindsD L) i)) || ((decide ((i:Int) > (0:Int))) && (!slt (List.getD L (Int.toNat (IntKind.i64.wrap ((i:Int) - (1:Int)))) (Ty.zero tGateShape)).1 (List.getD L i (Ty.zero tGateShape)).1)))=badWord (kindsD L) i:=by
      unfold badWord
      by_cases h0:0 < i
      · rw [pred_wrap' h0 (by omega),Int.toNat_natCast,← kind_at hi,← kind_at (show i - 1 < List.length L by omega),decide_eq_true h0,decide_eq_true (show (i:Int) > 0 by omega)]
      · rw [decide_eq_false h0,decide_eq_false (show ¬ ((i:Int) > 0) by omega),Bool.false_and,Bool.false_and]
    rw [hcond,hbad]
    simp only [if_true]
    have hrest:∀ (A:Option (Tup [.bool])),(if (badWord (kindsD L) i || decide ((List.length (fieldsAt L i):Int) > (6:Int)))=true then some (false,()) else (if (List.range (List.length (fieldsAt L i))).any (badFieldS (kindsD L) (fieldsAt L i))=true then some (false,()) else A))=(if (badWord (kindsD L) i || badFields (kindsD L) (fieldsAt L i))=true then some (false,()) else A):=by
      intro A
      unfold badFields
      cases badWord (kindsD L) i<;>cases decide ((List.length (fieldsAt L i):Int) > (6:Int))<;>cases (List.range (List.length (fieldsAt L i))).any (badFieldS (kindsD L) (fieldsAt L i))<;>rfl
    rw [← hrest]
    refine ite_else ?_
    refine (runL_any (len:=List.length (fieldsAt L i)) (fun k=>(L,(i:Int),((List.getD L i (Ty.zero tGateShape)).1,fieldsAt L i,()),(k:Int),())) (badFieldS (kindsD L) (fieldsAt L i)) (some (false,())) (next (L,((i + 1:Nat):Int),())) ?_ ?_ (by omega)).trans rfl
    · intro next' k hk
      have hfs:=field_small hF hk
      have hfo:spec_l1FieldOk.f n (L,List.getD (fieldsAt L i) k (Ty.zero tGateField),())=some (fieldD (kindsD L) (fieldAt (fieldsAt L i) k),()):=specField_ok hn L hL _ hfs
      simp only [spec_GateShapesOk.B10,lt_dec hk,in_dec hk,if_true,Int.toNat_natCast,hfo,Option.bind_some]
      have hrest2:∀ (A:Option (Tup [.bool])),(if (!fieldD (kindsD L) (fieldAt (fieldsAt L i) k))=true then some (false,()) else (if dupF (fieldsAt L i) k=true then some (false,()) else A))=(if badFieldS (kindsD L) (fieldsAt L i) k=true then some (false,()) else A):=by
        intro A
        unfold badFieldS
        cases fieldD (kindsD L) (fieldAt (fieldsAt L i) k)<;>cases dupF (fieldsAt L i) k<;>rfl
      rw [← hrest2]
      refine ite_else ?_
      refine (runL_any (len:=k) (fun k2=>(L,(i:Int),((List.getD L i (Ty.zero tGateShape)).1,fieldsAt L i,()),(k:Int),(k2:Int),())) (fun k2=>seq (nameAt (fieldsAt L i) k2) (nameAt (fieldsAt L i) k)) (some (false,())) (next' (L,(i:Int),((List.getD L i (Ty.zero tGateShape)).1,fieldsAt L i,()),((k + 1:Nat):Int),())) ?_ ?_ (by omega)).trans rfl
      · intro next'' k2 hk2
        simp only [spec_GateShapesOk.B15,lt_dec hk2,in_dec (show k2 < List.length (fieldsAt L i) by omega),in_dec hk,Bool.or_true,if_true,Int.toNat_natCast,wrap_next (show k2 < List.length (fieldsAt L i) by omega) hFl]
        rfl
      · intro next''
        simp only [spec_GateShapesOk.B15,lt_dec',Bool.false_eq_true,if_false,wrap_next hk hFl]
    · intro next'
      simp only [spec_GateShapesOk.B10,lt_dec',Bool.false_eq_true,if_false,wrap_next hi hl]
  · intro next
    simp only [spec_GateShapesOk.B4,lt_dec',Bool.false_eq_true,if_false]
  · rw [any_or]
    have e:List.length (kindsD L)=List.length L:=by simp [kindsD]
    unfold ascD
    rw [e]
    cases (List.range (List.length L)).any (badWord (kindsD L))<;>cases (List.range (List.length L)).any (fun i=>badFields (kindsD L) (fieldsAt L i))<;>rfl
include hn in
theorem implField_ok (K:List ByteArray) (hK:small 1048576 (.slice .str) K) (f:Ty.den tGateField) (hf:small 1048576 tGateField f) {R:Type} (A C:Option R) :
    ((impl_sortOf.f n f ()).bind fun y2 =>
        (if (!(!y2.2.2.1))=true then (if (decide (y2.2.1=0))=true then ((impl_numberField_clean.f n ((y2.1,()),())).bind fun r=>some r.1) else (if (decide ((y2.2.1 - 1)=0))=true then ((impl_wordField_clean.f n ((y2.1,()),())).bind fun r=>some r.1) else (if (decide (((y2.2.1 - 1) - 1)=0))=true then ((impl_textField_clean.f n ((y2.1,()),())).bind fun r=>some r.1) else (if (decide ((((y2.2.1 - 1) - 1) - 1)=0))=true then ((impl_linkField_clean.f n ((y2.1,()),())).bind fun r=>some r.1) else none)))) else some false).bind fun y3 =>
        (if (!((!y2.2.2.1) || (!y3)))=true then (if (decide (y2.2.1=0))=true then ((impl_numberField_sound.f n ((y2.1,()),K,())).bind fun r=>some r.1) else (if (decide ((y2.2.1 - 1)=0))=true then ((impl_wordField_sound.f n ((y2.1,()),K,())).bind fun r=>some r.1) else (if (decide (((y2.2.1 - 1) - 1)=0))=true then ((impl_textField_sound.f n ((y2.1,()),K,())).bind fun r=>some r.1) else (if (decide ((((y2.2.1 - 1) - 1) - 1)=0))=true then ((impl_linkField_sound.f n ((y2.1,()),K,())).bind fun r=>some r.1) else none)))) else some false).bind fun y4 =>
        if (((!y2.2.2.1) || (!y3)) || (!y4))=true then A else C) =
      if (bareD f.2.1 f.2.2.1 f.2.2.2.1 (List.length f.2.2.2.2.1:Int) f.2.2.2.2.2.1 f.2.2.2.2.2.2.1 f.2.2.2.2.2.2.2.2.2.2.1 && soundD f.2.1 f.2.2.1 f.2.2.2.1 (List.length f.2.2.2.2.1:Int) (ascD f.2.2.2.2.1) (hasW K f.2.2.2.2.2.1) f.2.2.2.2.2.2.1 f.2.2.2.2.2.2.2.1 f.2.2.2.2.2.2.2.2.2.1 f.2.2.2.2.2.2.2.2.2.2.1)=true then C else A:=by
  have hn':18446744073709551616≤n:=hn
  have hKl:List.length K≤1048576:=hK.1
  have hwg:ByteArray.size f.2.2.2.2.2.2.2.2.2.2.1≤1048576:=hf.2.2.2.2.2.2.2.2.2.2.1
  have c1:impl_numberField_clean.f n ((f,()),())=some (bareD 1 f.2.2.1 f.2.2.2.1 (List.length f.2.2.2.2.1:Int) f.2.2.2.2.2.1 f.2.2.2.2.2.2.1 f.2.2.2.2.2.2.2.2.2.2.1,()):=by
    rw [bare_1]; rfl
  have c2:impl_wordField_clean.f n ((f,()),())=some (bareD 2 f.2.2.1 f.2.2.2.1 (List.length f.2.2.2.2.1:Int) f.2.2.2.2.2.1 f.2.2.2.2.2.2.1 f.2.2.2.2.2.2.2.2.2.2.1,()):=by
    rw [bare_2]; rfl
  have c3:impl_textField_clean.f n ((f,()),())=some (bareD 3 f.2.2.1 f.2.2.2.1 (List.length f.2.2.2.2.1:Int) f.2.2.2.2.2.1 f.2.2.2.2.2.2.1 f.2.2.2.2.2.2.2.2.2.2.1,()):=by
    rw [bare_3]; rfl
  have c4:impl_linkField_clean.f n ((f,()),())=some (bareD 4 f.2.2.1 f.2.2.2.1 (List.length f.2.2.2.2.1:Int) f.2.2.2.2.2.1 f.2.2.2.2.2.2.1 f.2.2.2.2.2.2.2.2.2.2.1,()):=by
    rw [bare_4]; rfl
  have k1:∀ (c e m:Bool),((if (c && (!e))=true then some (m,()) else some (tzero [.bool])).bind fun y:Tup [.bool] => some (c && (e || y.1),()))=(some (c && (e || m),()):Option (Tup [.bool])):=by
    intro c e m; cases c<;>cases e<;>cases m<;>rfl
  have k2:∀ (c m:Bool),((if c=true then some (m,()) else some (tzero [.bool])).bind fun y:Tup [.bool] => some (c && y.1,()))=(some (c && m,()):Option (Tup [.bool])):=by
    intro c m; cases c<;>cases m<;>rfl
  have s1:impl_numberField_sound.f n ((f,()),K,())=some (soundD 1 f.2.2.1 f.2.2.2.1 (List.length f.2.2.2.2.1:Int) (ascD f.2.2.2.2.1) (hasW K f.2.2.2.2.2.1) f.2.2.2.2.2.2.1 f.2.2.2.2.2.2.2.1 f.2.2.2.2.2.2.2.2.2.1 f.2.2.2.2.2.2.2.2.2.2.1,()):=by
    unfold impl_numberField_sound.f
    have hweighs:impl_isName.f n (f.2.2.2.2.2.2.2.2.2.2.1,())=some (nameOkD f.2.2.2.2.2.2.2.2.2.2.1,()):=implName_ok hn _ hwg
    simp only [hweighs]
    exact k1 _ _ _
  have s2:impl_wordField_sound.f n ((f,()),K,())=some (soundD 2 f.2.2.1 f.2.2.2.1 (List.length f.2.2.2.2.1:Int) (ascD f.2.2.2.2.1) (hasW K f.2.2.2.2.2.1) f.2.2.2.2.2.2.1 f.2.2.2.2.2.2.2.1 f.2.2.2.2.2.2.2.2.2.1 f.2.2.2.2.2.2.2.2.2.2.1,()):=by
    unfold impl_wordField_sound.f
    have hasc:impl_ascendingNames.f n (f.2.2.2.2.1,())=some (ascD f.2.2.2.2.1,()):=implAsc_ok hn _ hf.2.2.2.2.1
    simp only [hasc]
    exact k2 _ _
  have s3:impl_textField_sound.f n ((f,()),K,())=some (soundD 3 f.2.2.1 f.2.2.2.1 (List.length f.2.2.2.2.1:Int) (ascD f.2.2.2.2.1) (hasW K f.2.2.2.2.2.1) f.2.2.2.2.2.2.1 f.2.2.2.2.2.2.2.1 f.2.2.2.2.2.2.2.2.2.1 f.2.2.2.2.2.2.2.2.2.2.1,()):=rfl
  have s4:impl_linkField_sound.f n ((f,()),K,())=some (soundD 4 f.2.2.1 f.2.2.2.1 (List.length f.2.2.2.2.1:Int) (ascD f.2.2.2.2.1) (hasW K f.2.2.2.2.2.1) f.2.2.2.2.2.2.1 f.2.2.2.2.2.2.2.1 f.2.2.2.2.2.2.2.2.2.1 f.2.2.2.2.2.2.2.2.2.2.1,()):=by
    unfold impl_linkField_sound.f
    refine (runL_fold (len:=List.length K) (fun i (b:Bool)=>((f,()),b,K,(List.length K:Int),(i:Int),())) (fun _ _=>True) (fun i b=>b || seq (wordAt K i) f.2.2.2.2.2.1) (fun b=>some (((((b && (decide (f.2.2.2.2.2.2.1≥(1:Int)))) && (decide (f.2.2.2.2.2.2.1≤(3:Int)))) && (seq f.2.2.2.2.2.2.2.2.2.1 (⟨#[]⟩:ByteArray))) && (!((f.2.2.2.2.2.2.1 == (2:Int)) && f.2.2.2.2.2.2.2.1))),())) ?_ ?_ (by omega) (a:=false) trivial).trans ?_
    · intro next i b hi _
      refine ⟨trivial,?_⟩
      simp only [impl_linkField_sound.B3,lt_dec hi,in_dec hi,if_true,Int.toNat_natCast,wrap_next hi hKl]
      rfl
    · intro next b _
      simp only [impl_linkField_sound.B3,lt_dec',Bool.false_eq_true,if_false]
    · have hfold:∀ (k:Nat) (b:Bool),(List.range k).foldl (fun b i=>b || seq (wordAt K i) f.2.2.2.2.2.1) b=(b || (List.range k).any (fun i=>seq (wordAt K i) f.2.2.2.2.2.1)):=by
        intro k b
        induction k with
        | zero=>simp
        | succ k ih =>
          rw [List.range_succ,List.foldl_append,ih,List.any_append]
          simp [Bool.or_assoc]
      have hany:(List.range (List.length K)).any (fun i=>seq (wordAt K i) f.2.2.2.2.2.1)=hasW K f.2.2.2.2.2.1:=by
        unfold hasW
        rw [List.findIdx?_isSome]
        rw [Bool.eq_iff_iff,List.any_eq_true,List.any_eq_true]
        constructor
        · rintro ⟨i,hi,h⟩
          have hi:=List.mem_range.1 hi
          refine ⟨K[i],List.getElem_mem hi,?_⟩
          unfold wordAt at h
          rw [listGetD_lt _ _ _ hi] at h
          exact h
        · rintro ⟨x,hx,h⟩
          obtain ⟨i,hi,rfl⟩:=List.getElem_of_mem hx
          refine ⟨i,List.mem_range.2 hi,?_⟩
          unfold wordAt
          rw [listGetD_lt _ _ _ hi]
          exact h
      rw [hfold,Bool.false_or,hany]
      have key:∀ (h a b e r m:Bool),(some (((((h && a) && b) && e) && (!(r && m))),()):Option (Tup [.bool]))=some (((h && (a && b)) && e) && ((!r) || !m),()):=by
        intro h a b e r m; cases h<;>cases a<;>cases b<;>cases e<;>cases r<;>cases m<;>rfl
      exact key _ _ _ _ _ _
  have gen:∀ (b s:Bool),(((some b:Option Bool).bind fun y3=>(if (!((!true) || (!y3)))=true then some s else some false).bind fun y4=>if (((!true) || (!y3)) || (!y4))=true then A else C))=if (b && s)=true then C else A:=by
    intro b s; cases b<;>cases s<;>rfl
  obtain ⟨k,hk⟩:∃ k:Int,f.2.1=k:=⟨_,rfl⟩
  unfold impl_sortOf.f
  simp only [Option.bind_some,c1,c2,c3,c4,s1,s2,s3,s4]
  rw [hk]
  by_cases e1:k=1
  · subst e1; exact gen _ _
  by_cases e2:k=2
  · subst e2; exact gen _ _
  by_cases e3:k=3
  · subst e3; exact gen _ _
  by_cases e4:k=4
  · subst e4; exact gen _ _
  · have h1:(k == (1:Int))=false:=by simpa using e1
    have h2:(k == (2:Int))=false:=by simpa using e2
    have h3:(k == (3:Int))=false:=by simpa using e3
    have h4:(k == (4:Int))=false:=by simpa using e4
    have hp:place4 k=-1:=by simp [place4,e1,e2,e3,e4]
    have hsd:∀ lo hi words asc has role must dflt weighs,soundD k lo hi words asc has role must dflt weighs=false:=by
      intros; unfold soundD; simp only [h1,h2,h3,h4,Bool.false_eq_true,if_false]
    rw [hsd,Bool.and_false,hp]
    rfl
end

section
variable {n:Nat} (hn:Big n)
theorem seq_comm (a b:ByteArray):seq a b=seq b a:=by
  unfold seq
  rw [Bool.eq_iff_iff,beq_iff_eq,beq_iff_eq]
  exact eq_comm
def cntN (F:List (Ty.den tGateField)) (i:Nat) (s:ByteArray):Nat:=(List.range i).countP (fun k=>seq s (nameAt F k))
theorem cntN_succ (F:List (Ty.den tGateField)) (i:Nat) (s:ByteArray):cntN F (i + 1) s=cntN F i s + if seq s (nameAt F i)=true then 1 else 0:=by
  unfold cntN
  rw [List.range_succ,List.countP_append]
  simp only [List.countP_cons,List.countP_nil,Nat.zero_add]
theorem cntN_le (F:List (Ty.den tGateField)) (i:Nat) (s:ByteArray):cntN F i s≤i:=by
  unfold cntN
  exact Nat.le_trans List.countP_le_length (by simp)
theorem dup_cnt (F:List (Ty.den tGateField)) (i:Nat):decide (((cntN F i (nameAt F i):Nat):Int) + 1 > 1)=dupF F i:=by
  unfold dupF cntN
  cases h:(List.range i).any (fun k=>seq (nameAt F k) (nameAt F i)) with
  | true =>
    obtain ⟨k,hk,hs⟩:=List.any_eq_true.1 h
    have:0 < (List.range i).countP (fun k=>seq (nameAt F i) (nameAt F k)):=List.countP_pos_iff.2 ⟨k,hk,by rw [seq_comm]; exact hs⟩
    exact decide_eq_true (by omega)
  | false =>
    have:(List.range i).countP (fun k=>seq (nameAt F i) (nameAt F k))=0:=by
      rw [List.countP_eq_zero]
      intro k hk
      have:=List.any_eq_false.1 h k hk
      rw [seq_comm]
      exact this
    rw [this]
    rfl
include hn in
theorem implShape1_ok (K:List ByteArray) (hK:small 1048576 (.slice .str) K) (s:Ty.den tGateShape) (hs:small 1048576 tGateShape s):impl_shapeOk.f n (s,K,())=some (!badFields K s.2.1,()):=by
  have hn':18446744073709551616≤n:=hn
  obtain ⟨kd,F,⟨⟩⟩:=s
  have hF:small 1048576 (.slice tGateField) F:=hs.2.1
  have hFl:List.length F≤1048576:=hF.1
  unfold impl_shapeOk.f badFields
  by_cases c0:(List.length F:Int) > 6
  · have c0':decide ((List.length F:Int) > 6)=true:=decide_eq_true c0
    simp only [c0',if_true,Bool.true_or,Bool.not_true]
  have c0':decide ((List.length F:Int) > 6)=false:=decide_eq_false c0
  simp only [c0',Bool.false_eq_true,if_false,Bool.false_or]
  refine (runL_search (len:=List.length F) (A:=List (ByteArray×Int)) (fun i a=>(K,a,F,(List.length F:Int),(i:Int),())) (fun i a=>∀ s,mget .str a s=((cntN F i s:Nat):Int)) (badFieldS K F) (fun _=>some (false,())) (some (true,())) ?_ ?_ (by omega) (a:=[]) ?_).trans ?_
  · intro next i a hi ha
    have hfs:=field_small hF hi
    have hd:ByteArray.size (fieldAt F i).2.2.2.2.2.2.2.2.2.1≤1048576:=hfs.2.2.2.2.2.2.2.2.2.1
    have hnm:impl_isName.f n ((fieldAt F i).1,())=some (nameOkD (nameAt F i),()):=implName_ok hn _ hfs.1
    have hfit:impl_GateFits.f n (fieldAt F i,(fieldAt F i).2.2.2.2.2.2.2.2.2.1,())=some (fitsD (fieldAt F i) (fieldAt F i).2.2.2.2.2.2.2.2.2.1,()):=implFits_ok hn _ _ hfs hd
    have hc:=cntN_le F i (nameAt F i)
    have hw1:IntKind.i64.wrap (mget .str a (nameAt F i) + 1)=((cntN F i (nameAt F i):Nat):Int) + 1:=by
      rw [ha,wrap_eq (by omega) (by omega)]
    have hstep:∀ cs:Conts (Tup [.bool]) impl_shapeOk.l5.outs,impl_shapeOk.B5 n next cs (K,a,F,(List.length F:Int),(i:Int),())=if badFieldS K F i=true then cs.1 (false,()) else next (K,mput .str a (nameAt F i) (((cntN F i (nameAt F i):Nat):Int) + 1),F,(List.length F:Int),((i + 1:Nat):Int),()):=by
      intro cs
      have hg:mget .str (mput .str a (nameAt F i) (((cntN F i (nameAt F i):Nat):Int) + 1)) (nameAt F i)=((cntN F i (nameAt F i):Nat):Int) + 1:=by
        rw [mget_mput,if_pos (eqK_refl (t:=.str) (by rfl))]
      simp only [impl_shapeOk.B5,lt_dec hi,in_dec hi,if_true,Int.toNat_natCast,wrap_next hi hFl]
      show ((impl_isName.f n ((fieldAt F i).1,())).bind fun y1=>if ((!y1.1) || (decide ((mget .str (mput .str a (nameAt F i) (IntKind.i64.wrap ((mget .str a (nameAt F i)) + (1:Int)))) (nameAt F i)) > (1:Int))))=true then cs.1 (false,()) else _)=_
      rw [hnm,Option.bind_some,hw1,hg,dup_cnt]
      refine (ite_else (implField_ok hn K hK (fieldAt F i) hfs _ _)).trans ?_
      have key:∀ (N D Bd Sd E Fi:Bool) (X Y:Option (Tup [.bool])),
          (if ((!N) || D)=true then X else if (Bd && Sd)=true then ((if (!E)=true then some (Fi,()) else some (tzero [.bool])).bind fun y5:Tup [.bool] => if ((!E) && (!y5.1))=true then X else Y) else X)
            = if (!(((N && Bd) && (E || Fi)) && Sd) || D)=true then X else Y:=by
        intro N D Bd Sd E Fi X Y
        cases N<;>cases D<;>cases Bd<;>cases Sd<;>cases E<;>cases Fi<;>rfl
      have hkey:=fun Bd Sd=>key (nameOkD (nameAt F i)) (dupF F i) Bd Sd (emp (fieldAt F i).2.2.2.2.2.2.2.2.2.1) (fitsD (fieldAt F i) (fieldAt F i).2.2.2.2.2.2.2.2.2.1) (cs.1 (false,())) (next (K,mput .str a (nameAt F i) (((cntN F i (nameAt F i):Nat):Int) + 1),F,(List.length F:Int),((i + 1:Nat):Int),()))
      refine Eq.trans ?_ (hkey (bareD (fieldAt F i).2.1 (fieldAt F i).2.2.1 (fieldAt F i).2.2.2.1 (List.length (fieldAt F i).2.2.2.2.1:Int) (fieldAt F i).2.2.2.2.2.1 (fieldAt F i).2.2.2.2.2.2.1 (fieldAt F i).2.2.2.2.2.2.2.2.2.2.1)
        (soundD (fieldAt F i).2.1 (fieldAt F i).2.2.1 (fieldAt F i).2.2.2.1 (List.length (fieldAt F i).2.2.2.2.1:Int) (ascD (fieldAt F i).2.2.2.2.1) (hasW K (fieldAt F i).2.2.2.2.2.1) (fieldAt F i).2.2.2.2.2.2.1 (fieldAt F i).2.2.2.2.2.2.2.1 (fieldAt F i).2.2.2.2.2.2.2.2.2.1 (fieldAt F i).2.2.2.2.2.2.2.2.2.2.1))
      rw [← hfit,← hw1]
      rfl
    by_cases hb:badFieldS K F i=true
    · rw [if_pos hb,hstep,if_pos hb]
    · rw [if_neg hb]
      refine ⟨mput .str a (nameAt F i) (((cntN F i (nameAt F i):Nat):Int) + 1),fun t=>?_,?_⟩
      · rw [mget_mput,cntN_succ]
        have e0:eqK .str t (nameAt F i)=seq t (nameAt F i):=rfl
        rw [e0]
        by_cases hst:seq t (nameAt F i)=true
        · rw [if_pos hst,if_pos hst,(eqK_eq (t:=.str) hst)]
          rfl
        · rw [if_neg hst,if_neg hst,ha t]
          rfl
      · rw [hstep,if_neg hb]
  · intro next a _
    simp only [impl_shapeOk.B5,lt_dec',Bool.false_eq_true,if_false]
  · intro s; rfl
  · have hfind:∀ (p:Nat→Bool) (l:List Nat) (x y:Option (Tup [.bool])),(l.find? p).elim x (fun _=>y)=if l.any p=true then y else x:=by
      intro p l x y
      induction l with
      | nil=>rfl
      | cons z l ih =>
        rw [List.find?_cons,List.any_cons]
        cases p z with
        | true=>rfl
        | false=>rw [Bool.false_or]; exact ih
    rw [hfind]
    cases (List.range (List.length F)).any (badFieldS K F)<;>rfl
include hn in
theorem implShapes_ok (L:List (Ty.den tGateShape)) (hL:small 1048576 (.slice tGateShape) L):impl_GateShapesOk.f n (L,())=some (shapesD L,()):=by
  have hn':18446744073709551616≤n:=hn
  have hl:List.length L≤1048576:=hL.1
  have hK:=kinds_small hL
  unfold impl_GateShapesOk.f shapesD
  by_cases c0:(List.length L:Int) > 6
  · rw [decide_eq_true c0]; rfl
  rw [decide_eq_false c0]
  have c1:decide (0≤(0:Int)∧(0:Int)≤(List.length L:Int)∧(List.length L:Int) * (16:Int)≤140737488355328)=true:=decide_eq_true (by omega)
  rw [c1]
  simp only [Bool.false_eq_true,if_false,if_true,Bool.not_false,Bool.true_and]
  refine (runL_fold (len:=List.length L) (fun i (o:List ByteArray)=>(L,o,L,(List.length L:Int),(i:Int),())) (fun i o=>o=(List.range i).map (fun j=>(List.getD L j (Ty.zero tGateShape)).1)) (fun i o=>o++[(List.getD L i (Ty.zero tGateShape)).1]) (fun o=>some (ascD (kindsD L) && !(List.range (List.length L)).any (fun i=>badFields (kindsD L) (fieldsAt L i)),())) ?_ ?_ (by omega) (a:=[]) rfl).trans rfl
  · intro next i o hi ho
    have hlen:o.length=i:=by rw [ho]; simp
    refine ⟨by rw [ho,List.range_succ,List.map_append]; rfl,?_⟩
    have happ:appBound (List.length o) (List.length [(List.getD L i (Ty.zero tGateShape)).1]) 16=true:=by
      unfold appBound
      rw [Nat.ble_eq,hlen]
      simp
      omega
    simp only [impl_GateShapesOk.B5,lt_dec hi,in_dec hi,if_true,Int.toNat_natCast,wrap_next hi hl]
    rw [if_pos happ]
  · intro next o ho
    have hk:o=kindsD L:=by
      rw [ho]
      unfold kindsD
      apply List.ext_getElem
      · simp
      · intro j h1 h2
        simp only [List.getElem_map,List.getElem_range]
        rw [listGetD_lt _ _ _ (by simpa using h1)]
    subst hk
    simp only [impl_GateShapesOk.B5,lt_dec',Bool.false_eq_true,if_false,implAsc_ok hn (kindsD L) hK,Option.bind_some]
    cases hasc:ascD (kindsD L) with
    | false=>rfl
    | true =>
      simp only [Bool.not_true,Bool.false_eq_true,if_false,Bool.true_and]
      refine (runL_any (len:=List.length L) (fun i=>(kindsD L,L,(List.length L:Int),(i:Int),())) (fun i=>badFields (kindsD L) (fieldsAt L i)) (some (false,())) (some (true,())) ?_ ?_ (by omega)).trans (by cases (List.range (List.length L)).any (fun i=>badFields (kindsD L) (fieldsAt L i))<;>rfl)
      · intro next' i hi
        have h1:impl_shapeOk.f n (List.getD L i (Ty.zero tGateShape),kindsD L,())=some (!badFields (kindsD L) (fieldsAt L i),()):=implShape1_ok hn (kindsD L) hK _ (shape_small hL hi)
        simp only [impl_GateShapesOk.B12,lt_dec hi,in_dec hi,if_true,Int.toNat_natCast,h1,Option.bind_some,wrap_next hi hl,Bool.not_not]
      · intro next'
        simp only [impl_GateShapesOk.B12,lt_dec',Bool.false_eq_true,if_false]
end

section
variable {n:Nat} (hn:Big n)
theorem implShapeS_ok (hn:Big n) (l:List (Ty.den tGateShape)) (hl:l.length≤1048576) (a:ByteArray):impl_shapeOf.f n (l,a,())=some (fidx (fun t:Ty.den tGateShape=>seq t.1 a) l,()):=by
  have hn:18446744073709551616≤n:=hn
  unfold impl_shapeOf.f
  refine (runL_find (l:=l) (fun i=>(a,l,(l.length:Int),(i:Int),())) (fun t:Ty.den tGateShape=>seq t.1 a) (fun i=>some ((i:Int),())) (some (-1,())) ?_ ?_ (by omega)).trans ?_
  · intro next i hi
    simp only [impl_shapeOf.B2,lt_dec hi,in_dec hi,wrap_next hi hl,if_true]
    rw [getD_nat _ _ _ hi]
  · intro next
    simp only [impl_shapeOf.B2,lt_dec',Bool.false_eq_true,if_false]
  · simp only [fidx]
    cases l.findIdx? (fun t:Ty.den tGateShape=>seq t.1 a)<;>rfl
def fieldsF (sh:List (Ty.den tGateShape)) (o:Ty.den tGateObject):Option (List (Ty.den tGateField)) :=
  match sh.findIdx? (fun t:Ty.den tGateShape=>seq t.1 o.1) with
  | none=>none
  | some i=>if List.length (sh.getD i (Ty.zero tGateShape)).2.1=List.length o.2.2.2.1 then some (sh.getD i (Ty.zero tGateShape)).2.1 else none
theorem fieldsF_small {sh:List (Ty.den tGateShape)} {o:Ty.den tGateObject} {fs:List (Ty.den tGateField)} (h:fieldsF sh o=some fs) (hs:small 1048576 (.slice tGateShape) sh):List.length fs=List.length o.2.2.2.1∧small 1048576 (.slice tGateField) fs:=by
  unfold fieldsF at h
  split at h
  · cases h
  · rename_i i hi
    split at h
    · cases h
      exact ⟨by assumption,(shape_small hs (findIdx?_lt hi)).2.1⟩
    · cases h
def fieldsT (sh:List (Ty.den tGateShape)) (o:Ty.den tGateObject):Tup [(.slice tGateField),.bool] :=
  match fieldsF sh o with
  | none=>([],false,())
  | some fs=>(fs,true,())
include hn in
theorem specFieldsS_ok (sh:List (Ty.den tGateShape)) (o:Ty.den tGateObject) (hl:sh.length≤1048576):spec_l2Fields.f n (sh,o,())=some (fieldsT sh o):=by
  unfold spec_l2Fields.f fieldsT fieldsF
  simp only [specShapeS_ok hn sh hl,Option.bind_some]
  cases hf:sh.findIdx? (fun t:Ty.den tGateShape=>seq t.1 o.1) with
  | none=>rw [fidx_none hf]; rfl
  | some i =>
    have hi:=findIdx?_lt hf
    have h0:decide ((i:Int) < 0)=false:=by simp
    simp only [fidx_some hf,h0,in_dec hi,Bool.not_false,Bool.not_true,Bool.false_or,Bool.or_true,if_true,Int.toNat_natCast]
    by_cases he:List.length (sh.getD i (Ty.zero tGateShape)).2.1=List.length o.2.2.2.1
    · have hne:((List.length (sh.getD i (Ty.zero tGateShape)).2.1:Int) != (List.length o.2.2.2.1:Int))=false:=by simp only [bne_eq_false_iff_eq]; omega
      rw [hne,if_pos he]
      rfl
    · have hne:((List.length (sh.getD i (Ty.zero tGateShape)).2.1:Int) != (List.length o.2.2.2.1:Int))=true:=by simp only [bne_iff_ne,ne_eq]; omega
      rw [hne,if_neg he]
      rfl
end

section
variable {n:Nat} (hn:Big n)
include hn in
theorem implFieldsC_ok (sh:List (Ty.den tGateShape)) (o:Ty.den tGateObject) (hl:sh.length≤1048576):impl_fieldsOf.f n (sh,o,())=some (fieldsT sh o):=by
  unfold impl_fieldsOf.f fieldsT fieldsF
  simp only [implShapeS_ok hn sh hl,Option.bind_some]
  cases hf:sh.findIdx? (fun t:Ty.den tGateShape=>seq t.1 o.1) with
  | none=>rw [fidx_none hf]; rfl
  | some i =>
    have hi:=findIdx?_lt hf
    have h0:decide ((i:Int) < 0)=false:=by simp
    simp only [fidx_some hf,h0,in_dec hi,Bool.not_false,Bool.not_true,Bool.false_or,Bool.or_true,if_true,Int.toNat_natCast]
    by_cases he:List.length (sh.getD i (Ty.zero tGateShape)).2.1=List.length o.2.2.2.1
    · have hne:((List.length o.2.2.2.1:Int) != (List.length (sh.getD i (Ty.zero tGateShape)).2.1:Int))=false:=by simp only [bne_eq_false_iff_eq]; omega
      rw [hne,if_pos he]
      rfl
    · have hne:((List.length o.2.2.2.1:Int) != (List.length (sh.getD i (Ty.zero tGateShape)).2.1:Int))=true:=by simp only [bne_iff_ne,ne_eq]; omega
      rw [hne,if_neg he]
      rfl
def chkG (fs:List (Ty.den tGateField)) (vs:List ByteArray) (i:Nat) (_:Unit):Unit ⊕ (Int×Int) :=
  if seq (vs.getD i (⟨#[]⟩:ByteArray)) (⟨#[]⟩:ByteArray)=true then (if (fs.getD i (Ty.zero tGateField)).2.2.2.2.2.2.2.1=true then .inr (2,(i:Int)) else .inl ())
  else if (!fitsD (fs.getD i (Ty.zero tGateField)) (vs.getD i (⟨#[]⟩:ByteArray)))=true then .inr (3,(i:Int)) else .inl ()
def formD (o:Ty.den tGateObject):Bool:=((((!nameOkD o.2.1) || (!nameOkD o.2.2.1)) || (decide ((List.length o.2.2.2.2.2.1:Int) > (3:Int)))) || (!ascD o.2.2.2.2.2.1)) || (!((decide (o.2.2.2.2.2.2.1≥(0:Int))) && (decide (o.2.2.2.2.2.2.1≤(1000000:Int)))))
def walkD (fs:List (Ty.den tGateField)) (o:Ty.den tGateObject):Int×Int:=Sum.elim (fun _=>((0:Int),(0:Int))) (fun e=>e) (outF (chkG fs o.2.2.2.1) (List.range fs.length) ())
def l2CheckD (sh:List (Ty.den tGateShape)) (o:Ty.den tGateObject):Int×Int:=match fieldsF sh o with
  | none=>(1,0)
  | some fs=>if formD o=true then (1,0) else walkD fs o
def checkD (sh:List (Ty.den tGateShape)) (o:Ty.den tGateObject):Int×Int:=if shapesD sh=true then l2CheckD sh o else (1,0)
include hn in
theorem specWalk_ok (fs:List (Ty.den tGateField)) (o:Ty.den tGateObject) (hfl:List.length fs=List.length o.2.2.2.1) (hfs:small 1048576 (.slice tGateField) fs) (hs:small 1048576 tGateObject o) :
    runL (spec_l2Check.B5 n) ((fun z7=>some (z7.1,z7.2.1,())),(fun z8=>some ((0:Int),(0:Int),())),()) n (o,fs,(0:Int),())=some ((walkD fs o).1,(walkD fs o).2,()):=by
  have hn':18446744073709551616≤n:=hn
  have hl:fs.length≤1048576:=hfs.1
  refine (runL_out (len:=fs.length) (fun i (_:Unit)=>(o,fs,(i:Int),())) (fun _ _=>True) (chkG fs o.2.2.2.1) (fun _=>some ((0:Int),(0:Int),())) (fun e=>some (e.1,e.2,())) ?_ ?_ (by omega) (a:=()) trivial).trans (by unfold walkD; cases outF (chkG fs o.2.2.2.1) (List.range fs.length) ()<;>rfl)
  · intro next i a hi _
    have hi2:i < List.length o.2.2.2.1:=by omega
    have hf1:small 1048576 tGateField (fs.getD i (Ty.zero tGateField)):=by
      rw [List.getD_eq_getElem?_getD,List.getElem?_eq_getElem hi]; exact hfs.2 _ (List.getElem_mem hi)
    have hv1:ByteArray.size (List.getD o.2.2.2.1 i (⟨#[]⟩:ByteArray))≤1048576:=by
      rw [List.getD_eq_getElem?_getD,List.getElem?_eq_getElem hi2]; exact hs.2.2.2.1.2 _ (List.getElem_mem hi2)
    have hfit:=specFits_ok hn _ _ hf1 hv1
    unfold chkG
    simp only [spec_l2Check.B5,lt_dec hi,in_dec hi,in_dec hi2,Int.toNat_natCast,if_true,Bool.or_true]
    rcases Bool.eq_false_or_eq_true (seq (List.getD o.2.2.2.1 i (⟨#[]⟩:ByteArray)) (⟨#[]⟩:ByteArray)) with c | c
    · simp only [c,if_true]
      rcases Bool.eq_false_or_eq_true ((fs.getD i (Ty.zero tGateField)).2.2.2.2.2.2.2.1) with d | d
      · simp only [d,if_true]
      · simp only [d,Bool.false_eq_true,if_false]
        exact ⟨trivial,by rw [wrap_next hi hl]⟩
    · simp only [c,Bool.false_eq_true,if_false,hfit,Option.bind_some]
      rcases Bool.eq_false_or_eq_true (!fitsD (fs.getD i (Ty.zero tGateField)) (List.getD o.2.2.2.1 i (⟨#[]⟩:ByteArray))) with d | d
      · simp only [d,if_true]
      · simp only [d,Bool.false_eq_true,if_false]
        exact ⟨trivial,by rw [wrap_next hi hl]⟩
  · intro next a _
    simp only [spec_l2Check.B5,lt_dec',Bool.false_eq_true,if_false]
include hn in
theorem l2Check_ok (sh:List (Ty.den tGateShape)) (hsh:small 1048576 (.slice tGateShape) sh) (o:Ty.den tGateObject) (hs:small 1048576 tGateObject o):spec_l2Check.f n (sh,o,())=some ((l2CheckD sh o).1,(l2CheckD sh o).2,()):=by
  unfold spec_l2Check.f l2CheckD
  simp only [specFieldsS_ok hn sh o hsh.1,Option.bind_some]
  unfold fieldsT
  cases hf:fieldsF sh o with
  | none=>simp [tzero]
  | some fs =>
    obtain ⟨hfl,hfs⟩:=fieldsF_small hf hsh
    have hw:=specWalk_ok hn fs o hfl hfs hs
    simp only [specName_ok hn o.2.1 hs.2.1,specName_ok hn o.2.2.1 hs.2.2.1,specAsc_ok hn o.2.2.2.2.2.1 hs.2.2.2.2.2.1,spec_l1In.f,hw]
    unfold formD
    generalize nameOkD o.2.1=b1
    generalize nameOkD o.2.2.1=b2
    generalize decide ((List.length o.2.2.2.2.2.1:Int) > (3:Int))=b3
    generalize ascD o.2.2.2.2.2.1=b4
    generalize ((decide (o.2.2.2.2.2.2.1≥(0:Int))) && (decide (o.2.2.2.2.2.2.1≤(1000000:Int))))=b5
    cases b1<;>cases b2<;>cases b3<;>cases b4<;>cases b5<;>rfl
include hn in
theorem implWalk_ok (fs:List (Ty.den tGateField)) (o:Ty.den tGateObject) (hfl:List.length fs=List.length o.2.2.2.1) (hfs:small 1048576 (.slice tGateField) fs) (hs:small 1048576 tGateObject o) :
    runL (impl_checkFields.B3 n) ((fun z3=>some (z3.1,())),(fun z4=>some (none,())),()) n (o,fs,(List.length fs:Int),(0:Int),())=some (Sum.elim (fun _=>(none:Option (Ty.den tfault))) (fun e=>some (e.1,e.2,())) (outF (chkG fs o.2.2.2.1) (List.range fs.length) ()),()):=by
  have hn':18446744073709551616≤n:=hn
  have hl:fs.length≤1048576:=hfs.1
  refine (runL_out (len:=fs.length) (fun i (_:Unit)=>(o,fs,(List.length fs:Int),(i:Int),())) (fun _ _=>True) (chkG fs o.2.2.2.1) (fun _=>some (none,())) (fun e=>some (some (e.1,e.2,()),())) ?_ ?_ (by omega) (a:=()) trivial).trans (by cases outF (chkG fs o.2.2.2.1) (List.range fs.length) ()<;>rfl)
  · intro next i a hi _
    have hi2:i < List.length o.2.2.2.1:=by omega
    have hf1:small 1048576 tGateField (fs.getD i (Ty.zero tGateField)):=by
      rw [List.getD_eq_getElem?_getD,List.getElem?_eq_getElem hi]; exact hfs.2 _ (List.getElem_mem hi)
    have hv1:ByteArray.size (List.getD o.2.2.2.1 i (⟨#[]⟩:ByteArray))≤1048576:=by
      rw [List.getD_eq_getElem?_getD,List.getElem?_eq_getElem hi2]; exact hs.2.2.2.1.2 _ (List.getElem_mem hi2)
    have hfit:=implFits_ok hn _ _ hf1 hv1
    unfold chkG
    simp only [impl_checkFields.B3,lt_dec hi,in_dec hi,in_dec hi2,Int.toNat_natCast,if_true,Bool.or_true,hfit]
    rcases Bool.eq_false_or_eq_true (seq (List.getD o.2.2.2.1 i (⟨#[]⟩:ByteArray)) (⟨#[]⟩:ByteArray)) with c | c
    · simp only [c,if_true,Bool.and_true,Bool.not_true,Bool.false_eq_true,if_false,Bool.false_and,Option.bind_some]
      rcases Bool.eq_false_or_eq_true ((fs.getD i (Ty.zero tGateField)).2.2.2.2.2.2.2.1) with d | d
      · simp only [d,if_true]
      · simp only [d,Bool.false_eq_true,if_false]
        exact ⟨trivial,by rw [wrap_next hi hl]⟩
    · simp only [c,Bool.false_eq_true,if_false,Bool.and_false,Bool.not_false,if_true,Bool.true_and,Option.bind_some]
      rcases Bool.eq_false_or_eq_true (!fitsD (fs.getD i (Ty.zero tGateField)) (List.getD o.2.2.2.1 i (⟨#[]⟩:ByteArray))) with d | d
      · simp only [d,if_true]
      · simp only [d,Bool.false_eq_true,if_false]
        exact ⟨trivial,by rw [wrap_next hi hl]⟩
  · intro next a _
    simp only [impl_checkFields.B3,lt_dec',Bool.false_eq_true,if_false]
theorem in_not (v:Int):((decide (v < (0:Int))) || (decide (v > (1000000:Int))))=!((decide (v≥(0:Int))) && (decide (v≤(1000000:Int)))):=by
  by_cases h0:v < 0
  · rw [decide_eq_true h0,decide_eq_false (show ¬ v≥0 by omega)]; rfl
  · rw [decide_eq_false h0,decide_eq_true (show v≥0 by omega)]
    by_cases h1:v > 1000000
    · rw [decide_eq_true h1,decide_eq_false (show ¬ v≤1000000 by omega)]; rfl
    · rw [decide_eq_false h1,decide_eq_true (show v≤1000000 by omega)]; rfl
include hn in
theorem implForm_ok (sh:List (Ty.den tGateShape)) (hsh:small 1048576 (.slice tGateShape) sh) (o:Ty.den tGateObject) (hs:small 1048576 tGateObject o) :
    impl_checkForm.f n (sh,o,())=some ((if (((fieldsF sh o).isSome && shapesD sh) && !formD o)=true then none else some ((1:Int),(0:Int),())),()):=by
  unfold impl_checkForm.f
  simp only [implFieldsC_ok hn sh o hsh.1,Option.bind_some,implName_ok hn o.2.1 hs.2.1,implName_ok hn o.2.2.1 hs.2.2.1,implAsc_ok hn o.2.2.2.2.2.1 hs.2.2.2.2.2.1,implShapes_ok hn sh hsh,Bool.or_assoc _ (decide _) (decide _),in_not]
  unfold fieldsT formD
  generalize nameOkD o.2.1=b1
  generalize nameOkD o.2.2.1=b2
  generalize decide ((List.length o.2.2.2.2.2.1:Int) > (3:Int))=b3
  generalize ascD o.2.2.2.2.2.1=b4
  generalize ((decide (o.2.2.2.2.2.2.1≥(0:Int))) && (decide (o.2.2.2.2.2.2.1≤(1000000:Int))))=b5
  generalize shapesD sh=b6
  cases fieldsF sh o<;>cases b1<;>cases b2<;>cases b3<;>cases b4<;>cases b5<;>cases b6<;>rfl
include hn in
theorem implCheck_ok (sh:List (Ty.den tGateShape)) (hsh:small 1048576 (.slice tGateShape) sh) (o:Ty.den tGateObject) (hs:small 1048576 tGateObject o):impl_GateCheck.f n (sh,o,())=some ((checkD sh o).1,(checkD sh o).2,()):=by
  unfold impl_GateCheck.f checkD l2CheckD
  simp only [implForm_ok hn sh hsh o hs,Option.bind_some]
  cases hf:fieldsF sh o with
  | none =>
    simp only [Option.isSome_none,Bool.false_and,Bool.false_eq_true,if_false]
    cases shapesD sh<;>rfl
  | some fs =>
    obtain ⟨hfl,hfs⟩:=fieldsF_small hf hsh
    have hw:=implWalk_ok hn fs o hfl hfs hs
    rcases Bool.eq_false_or_eq_true (shapesD sh) with c | c
    · rcases Bool.eq_false_or_eq_true (formD o) with d | d
      · simp [c,d]
      · simp only [c,d,Option.isSome_some,Bool.true_and,Bool.not_false,if_true,Bool.false_eq_true,if_false]
        unfold impl_checkFields.f
        simp only [implFieldsC_ok hn sh o hsh.1,Option.bind_some]
        unfold fieldsT
        simp only [hf,hw,Option.bind_some]
        unfold walkD
        cases outF (chkG fs o.2.2.2.1) (List.range fs.length) ()<;>rfl
    · simp [c]
include hn in
theorem specCheck_ok (sh:List (Ty.den tGateShape)) (hsh:small 1048576 (.slice tGateShape) sh) (o:Ty.den tGateObject) (hs:small 1048576 tGateObject o):spec_GateCheck.f n (sh,o,())=some ((checkD sh o).1,(checkD sh o).2,()):=by
  unfold spec_GateCheck.f checkD
  simp only [specShapes_ok hn sh hsh,l2Check_ok hn sh hsh o hs,Option.bind_some]
  cases shapesD sh<;>rfl
end

section
variable {n:Nat} (hn:Big n)
def turnG (fs:List (Ty.den tGateField)) (va vb:List ByteArray) (i:Nat) (_:Unit):Unit ⊕ (Int×Int) :=
  if (((fs.getD i (Ty.zero tGateField)).2.2.2.2.2.2.2.2.1 && (!seq (va.getD i (⟨#[]⟩:ByteArray)) (⟨#[]⟩:ByteArray))) && (!seq (va.getD i (⟨#[]⟩:ByteArray)) (vb.getD i (⟨#[]⟩:ByteArray))))=true then .inr (4,(i:Int)) else .inl ()
def turnW (fs:List (Ty.den tGateField)) (a b:Ty.den tGateObject):Int×Int:=Sum.elim (fun _=>((0:Int),(0:Int))) (fun e=>e) (outF (turnG fs a.2.2.2.1 b.2.2.2.1) (List.range fs.length) ())
def otherD (a b:Ty.den tGateObject):Bool:=((!seq a.1 b.1) || (!seq a.2.1 b.2.1)) || (!seq a.2.2.1 b.2.2.1)
theorem check_fields {sh:List (Ty.den tGateShape)} {o:Ty.den tGateObject} (h:(checkD sh o).1=0):∃ fs,fieldsF sh o=some fs:=by
  unfold checkD l2CheckD at h
  split at h
  · split at h
    · cases h
    · exact ⟨_,by assumption⟩
  · cases h
theorem fields_same {sh:List (Ty.den tGateShape)} {a b:Ty.den tGateObject} {fa fb:List (Ty.den tGateField)} (ha:fieldsF sh a=some fa) (hb:fieldsF sh b=some fb) (h:seq a.1 b.1=true):fa=fb:=by
  have e:a.1=b.1:=eqK_eq (t:=.str) h
  unfold fieldsF at ha hb
  rw [← e] at hb
  split at ha
  · cases ha
  · rename_i i hi
    rw [hi] at hb
    simp only at hb
    split at ha
    case isFalse=>cases ha
    split at hb
    case isFalse=>cases hb
    cases ha
    cases hb
    rfl
include hn in
theorem specTurn_ok (fs:List (Ty.den tGateField)) (a b:Ty.den tGateObject) (hl:fs.length≤1048576) (ha:List.length fs=List.length a.2.2.2.1) (hb:List.length fs=List.length b.2.2.2.1) :
    runL (spec_GateTurned.B7 n) ((fun z4=>some (z4.1,z4.2.1,())),(fun z5=>some ((0:Int),(0:Int),())),()) n (a,b,fs,(0:Int),())=some ((turnW fs a b).1,(turnW fs a b).2,()):=by
  have hn':18446744073709551616≤n:=hn
  refine (runL_out (len:=fs.length) (fun i (_:Unit)=>(a,b,fs,(i:Int),())) (fun _ _=>True) (turnG fs a.2.2.2.1 b.2.2.2.1) (fun _=>some ((0:Int),(0:Int),())) (fun e=>some (e.1,e.2,())) ?_ ?_ (by omega) (a:=()) trivial).trans (by unfold turnW; cases outF (turnG fs a.2.2.2.1 b.2.2.2.1) (List.range fs.length) ()<;>rfl)
  · intro next i u hi _
    have hi2:i < List.length a.2.2.2.1:=by omega
    have hi3:i < List.length b.2.2.2.1:=by omega
    unfold turnG
    simp only [spec_GateTurned.B7,lt_dec hi,in_dec hi,in_dec hi2,in_dec hi3,Int.toNat_natCast,if_true,Bool.or_true]
    split
    · rename_i hh
      split at hh
      · exact ⟨trivial,by rename_i hc; rw [if_pos hc] at *; cases hh⟩
      · rename_i hc; exact ⟨trivial,by rw [if_neg hc,wrap_next hi hl]⟩
    · rename_i e hh
      split at hh
      · rename_i hc; cases hh; rw [if_pos hc]
      · cases hh
  · intro next u _
    simp only [spec_GateTurned.B7,lt_dec',Bool.false_eq_true,if_false]
include hn in
theorem implTurn_ok (fs:List (Ty.den tGateField)) (a b:Ty.den tGateObject) (hl:fs.length≤1048576) (ha:List.length fs=List.length a.2.2.2.1) (hb:List.length fs=List.length b.2.2.2.1) :
    runL (impl_GateTurned.B12 n) ((fun z5=>some (z5.1,z5.2.1,())),(fun z6=>some ((0:Int),(0:Int),())),()) n (a,b,fs,(List.length fs:Int),(0:Int),())=some ((turnW fs a b).1,(turnW fs a b).2,()):=by
  have hn':18446744073709551616≤n:=hn
  refine (runL_out (len:=fs.length) (fun i (_:Unit)=>(a,b,fs,(List.length fs:Int),(i:Int),())) (fun _ _=>True) (turnG fs a.2.2.2.1 b.2.2.2.1) (fun _=>some ((0:Int),(0:Int),())) (fun e=>some (e.1,e.2,())) ?_ ?_ (by omega) (a:=()) trivial).trans (by unfold turnW; cases outF (turnG fs a.2.2.2.1 b.2.2.2.1) (List.range fs.length) ()<;>rfl)
  · intro next i u hi _
    have hi2:i < List.length a.2.2.2.1:=by omega
    have hi3:i < List.length b.2.2.2.1:=by omega
    unfold turnG
    simp only [impl_GateTurned.B12,lt_dec hi,in_dec hi,in_dec hi2,in_dec hi3,Int.toNat_natCast,if_true,Bool.or_true]
    split
    · rename_i hh
      split at hh
      · exact ⟨trivial,by rename_i hc; rw [if_pos hc] at *; cases hh⟩
      · rename_i hc; exact ⟨trivial,by rw [if_neg hc,wrap_next hi hl]⟩
    · rename_i e hh
      split at hh
      · rename_i hc; cases hh; rw [if_pos hc]
      · cases hh
  · intro next u _
    simp only [impl_GateTurned.B12,lt_dec',Bool.false_eq_true,if_false]
def turnedD (sh:List (Ty.den tGateShape)) (a b:Ty.den tGateObject):Int×Int :=
  if ((checkD sh a).1 != 0)=true then (1,0) else if ((checkD sh b).1 != 0)=true then (1,0) else if otherD a b=true then (1,0) else turnW (fieldsT sh b).1 a b
theorem turn_facts {sh:List (Ty.den tGateShape)} (hsh:small 1048576 (.slice tGateShape) sh) {a b:Ty.den tGateObject} (ha:((checkD sh a).1 != 0)=false) (hb:((checkD sh b).1 != 0)=false) (ho:otherD a b=false) :
    List.length (fieldsT sh b).1≤1048576∧List.length (fieldsT sh b).1=List.length a.2.2.2.1∧List.length (fieldsT sh b).1=List.length b.2.2.2.1:=by
  obtain ⟨fa,hfa⟩:=check_fields (by simpa using ha)
  obtain ⟨fb,hfb⟩:=check_fields (by simpa using hb)
  have hs:seq a.1 b.1=true:=by
    unfold otherD at ho
    simp only [Bool.or_eq_false_iff,Bool.not_eq_false'] at ho
    exact ho.1.1
  have e:=fields_same hfa hfb hs
  subst e
  obtain ⟨h1,_⟩:=fieldsF_small hfa hsh
  obtain ⟨h2,h3⟩:=fieldsF_small hfb hsh
  unfold fieldsT
  rw [hfb]
  exact ⟨h3.1,h1,h2⟩
include hn in
theorem specTurned_ok (sh:List (Ty.den tGateShape)) (hsh:small 1048576 (.slice tGateShape) sh) (a:Ty.den tGateObject) (ha:small 1048576 tGateObject a) (b:Ty.den tGateObject) (hb:small 1048576 tGateObject b) :
    spec_GateTurned.f n (sh,a,b,())=some ((turnedD sh a b).1,(turnedD sh a b).2,()):=by
  unfold spec_GateTurned.f turnedD
  simp only [specCheck_ok hn sh hsh a ha,specCheck_ok hn sh hsh b hb,Option.bind_some,specFieldsS_ok hn sh b hsh.1]
  rcases Bool.eq_false_or_eq_true ((checkD sh a).1 != 0) with c1 | c1
  · simp only [c1,Bool.true_or,if_true]
  · rcases Bool.eq_false_or_eq_true ((checkD sh b).1 != 0) with c2 | c2
    · simp only [c1,c2,Bool.or_true,Bool.true_or,if_true,Bool.false_eq_true,if_false]
    · have e:((((((checkD sh a).1 != (0:Int)) || ((checkD sh b).1 != (0:Int))) || (!seq a.1 b.1)) || (!seq a.2.1 b.2.1)) || (!seq a.2.2.1 b.2.2.1))=otherD a b:=by
        rw [c1,c2]; rfl
      rcases Bool.eq_false_or_eq_true (otherD a b) with c3 | c3
      · rw [if_pos (e.trans c3),c1,c2,c3]; rfl
      · obtain ⟨f1,f2,f3⟩:=turn_facts hsh c1 c2 c3
        rw [if_neg (by rw [e,c3]; decide),c1,c2,c3]
        exact specTurn_ok hn _ a b f1 f2 f3
include hn in
theorem implTurned_ok (sh:List (Ty.den tGateShape)) (hsh:small 1048576 (.slice tGateShape) sh) (a:Ty.den tGateObject) (ha:small 1048576 tGateObject a) (b:Ty.den tGateObject) (hb:small 1048576 tGateObject b) :
    impl_GateTurned.f n (sh,a,b,())=some ((turnedD sh a b).1,(turnedD sh a b).2,()):=by
  have hn':18446744073709551616≤n:=hn
  unfold impl_GateTurned.f
  refine (runL_out (len:=2) (fun i (_:Unit)=>(sh,a,b,[a,b],(2:Int),(i:Int),())) (fun _ _=>True) (fun i (_:Unit)=>if ((checkD sh (List.getD [a,b] i (Ty.zero tGateObject))).1 != 0)=true then .inr () else .inl ())
    (fun _=>if otherD a b=true then some ((1:Int),(0:Int),()) else (impl_fieldsOf.f n (sh,b,())).bind fun y4=>runL (impl_GateTurned.B12 n) ((fun z5=>some (z5.1,z5.2.1,())),(fun z6=>some ((0:Int),(0:Int),())),()) n (a,b,y4.1,(List.length y4.1:Int),(0:Int),()))
    (fun (_:Unit)=>some ((1:Int),(0:Int),())) ?_ ?_ (by omega) (a:=()) trivial).trans ?_
  · intro next i u hi _
    have hck:impl_GateCheck.f n (sh,List.getD [a,b] i (Ty.zero tGateObject),())=_:=implCheck_ok hn sh hsh _ (by
      obtain rfl | rfl:i=0∨i=1:=by omega
      · exact ha
      · exact hb)
    have h1:decide ((i:Int) < (2:Int))=true:=decide_eq_true (by omega)
    have h2:decide (0≤(i:Int)∧(i:Int) < (List.length [a,b]:Int))=true:=decide_eq_true ⟨by omega,by show (i:Int) < 2; omega⟩
    simp only [impl_GateTurned.B2,h1,h2,Int.toNat_natCast,if_true,hck,Option.bind_some]
    rcases Bool.eq_false_or_eq_true ((checkD sh (List.getD [a,b] i (Ty.zero tGateObject))).1 != 0) with c | c
    · simp only [c,if_true]
    · simp only [c,Bool.false_eq_true,if_false]
      exact ⟨trivial,by rw [wrap_next hi (by omega)]⟩
  · intro next u _
    have h1:decide (((2:Nat):Int) < (2:Int))=false:=by decide
    simp only [impl_GateTurned.B2,h1,Bool.false_eq_true,if_false]
    rfl
  · unfold turnedD
    simp only [outF,List.range_succ,List.range_zero,List.nil_append,List.cons_append,List.getD_cons_zero,List.getD_cons_succ]
    rcases Bool.eq_false_or_eq_true ((checkD sh a).1 != 0) with c1 | c1
    · simp only [c1,if_true]; rfl
    · rcases Bool.eq_false_or_eq_true ((checkD sh b).1 != 0) with c2 | c2
      · simp only [c1,c2,if_true,Bool.false_eq_true,if_false]; rfl
      · simp only [c1,c2,Bool.false_eq_true,if_false,Sum.elim_inl]
        rcases Bool.eq_false_or_eq_true (otherD a b) with c3 | c3
        · simp only [c3,if_true]
        · obtain ⟨f1,f2,f3⟩:=turn_facts hsh c1 c2 c3
          simp only [c3,Bool.false_eq_true,if_false,implFieldsC_ok hn sh b hsh.1,Option.bind_some]
          exact implTurn_ok hn _ a b f1 f2 f3
end

theorem pure_law (n:Nat) (hn:Big n) (x:Tup [(.slice tGateShape),tGateObject,tGateObject]) (hw:wfT [(.slice tGateShape),tGateObject,tGateObject] x):laws_FnExactGateTurned.f n x=some (true,()):=by
  obtain ⟨d,o,b,⟨⟩⟩:=x
  obtain ⟨hw1,hw2,hw3,_⟩:=hw
  unfold laws_FnExactGateTurned.f
  have h:laws_szGateShapeS.f n (d,1048576,())=_:=laws_szGateShapeS_ok n hn d hw1 1048576 (by omega) (by omega)
  simp only [h,Option.bind_some]
  by_cases hb:(bulk (.slice tGateShape) d:Int)≤1048576
  · have hs:small 1048576 (.slice tGateShape) d:=small_of_bulk (by omega)
    rw [subL_pos hb,if_neg (by simp; omega)]
    have h2:laws_szGateObject.f n (o,1048576 - (bulk (.slice tGateShape) d:Int),())=_:=laws_szGateObject_ok n hn o hw2 _ (by omega) (by omega)
    simp only [h2,Option.bind_some]
    by_cases hb2:(bulk tGateObject o:Int)≤1048576 - (bulk (.slice tGateShape) d:Int)
    · rw [subL_pos hb2,if_neg (by simp; omega)]
      have hs2:small 1048576 tGateObject o:=small_of_bulk (by omega)
      have h3:laws_szGateObject.f n (b,1048576 - (bulk (.slice tGateShape) d:Int) - (bulk tGateObject o:Int),())=_:=laws_szGateObject_ok n hn b hw3 _ (by omega) (by omega)
      simp only [h3,Option.bind_some]
      by_cases hb3:(bulk tGateObject b:Int)≤1048576 - (bulk (.slice tGateShape) d:Int) - (bulk tGateObject o:Int)
      · rw [subL_pos hb3,if_neg (by simp; omega)]
        have hs3:small 1048576 tGateObject b:=small_of_bulk (by omega)
        have e1:spec_GateTurned.f n (d,o,b,())=_:=specTurned_ok hn d hs o hs2 b hs3
        have e2:impl_GateTurned.f n (d,o,b,())=_:=implTurned_ok hn d hs o hs2 b hs3
        simp only [laws_toGateShapeS_ok n hn d hs,laws_toGateObject_ok n hn o hs2,laws_toGateObject_ok n hn b hs3,e1,e2,Option.bind_some,if_true,bne_self_eq_false,Bool.or_false,laws_eqGateShapeS_ok n hn (d,d,()) hs,laws_eqGateObject_ok n hn (o,o,()) hs2,laws_eqGateObject_ok n hn (b,b,()) hs3,eqD_refl,Bool.not_true,Bool.false_eq_true,if_false]
      · rw [subL_neg hb3,if_pos (by decide)]
    · rw [subL_neg hb2,if_pos (by decide)]
  · rw [subL_neg hb,if_pos (by decide)]

end Go.Proofs.YtnkgmbaeondobabDoor
