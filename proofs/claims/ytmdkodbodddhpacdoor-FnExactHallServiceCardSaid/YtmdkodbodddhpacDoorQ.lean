/- The law FnExactHallService: what the program tells and what the reference tells are one, for all arguments (the plain law, over printed pure functions). No conditions. -/
import Derived.Test.YtmdkodbodddhpacDoorP
set_option linter.unusedVariables false
set_option linter.unusedSimpArgs false
namespace Go.Proofs.YtmdkodbodddhpacDoor
open Go Go.Vm
section
variable {n:Nat} (hn:Big n)
def digF (s:ByteArray) (i:Nat) (a:Int):Int ⊕ Unit :=
  if ((decide (byteAt s (i:Int) < (48:Int))) || (decide (byteAt s (i:Int) > (57:Int))))=true then .inr () else .inl (a * 10 + (byteAt s (i:Int) - 48))
def badNum (s:ByteArray):Bool:=((decide ((ByteArray.size s:Int) < (1:Int))) || (decide ((ByteArray.size s:Int) > (7:Int)))) || ((byteAt s (0:Int) == (48:Int)) && (decide ((ByteArray.size s:Int) > (1:Int))))
def numR (s:ByteArray):Int ⊕ Unit:=if badNum s=true then .inr () else outF (digF s) (List.range s.size) 0
theorem pow_le (i:Nat) (h:i≤7):(10:Int) ^ i≤10000000:=by
  obtain rfl | rfl | rfl | rfl | rfl | rfl | rfl | rfl:i=0∨i=1∨i=2∨i=3∨i=4∨i=5∨i=6∨i=7:=by omega
  all_goals decide
theorem dig_inv {s:ByteArray} {i:Nat} {a a':Int} (ha:0≤a∧a < (10:Int) ^ i) (h:digF s i a=.inl a'):0≤a'∧a' < (10:Int) ^ (i + 1):=by
  unfold digF at h
  split at h
  · cases h
  · rename_i hc
    simp only [Bool.or_eq_true,decide_eq_true_eq,not_or] at hc
    cases h
    rw [Int.pow_succ]
    omega
theorem num_bound {s:ByteArray} {a:Int} (h:numR s=.inl a):0≤a∧a≤9999999:=by
  unfold numR at h
  split at h
  · cases h
  · rename_i hb
    unfold badNum at hb
    simp only [Bool.or_eq_true,decide_eq_true_eq,not_or] at hb
    have key:∀ (d i:Nat) (a a':Int),i + d=s.size→(0≤a∧a < (10:Int) ^ i)→outF (digF s) ((List.range s.size).drop i) a=.inl a'→0≤a'∧a' < (10:Int) ^ s.size:=by
      intro d
      induction d with
      | zero =>
        intro i a a' hi ha h
        have:i=s.size:=by omega
        subst this
        rw [List.drop_eq_nil_of_le (by simp)] at h
        cases h
        exact ha
      | succ d ih =>
        intro i a a' hi ha h
        rw [List.drop_eq_getElem_cons (by simp; omega)] at h
        simp only [outF,List.getElem_range] at h
        split at h
        · rename_i a1 h1
          exact ih (i + 1) a1 a' (by omega) (dig_inv ha h1) h
        · cases h
    have:=key s.size 0 0 a (by omega) (by simp) (by simpa using h)
    have hp:=pow_le s.size (by omega)
    omega
include hn in
theorem specNum_ok (s:ByteArray):spec_l1Number.f n (s,())=some (Sum.elim (fun a=>a) (fun _=>-1) (numR s),()):=by
  have hn:18446744073709551616≤n:=hn
  unfold spec_l1Number.f numR
  simp only [spec_l1In.f,Option.bind_some]
  by_cases hlen:1≤s.size∧s.size≤7
  · have e1:((decide ((ByteArray.size s:Int)≥(1:Int))) && (decide ((ByteArray.size s:Int)≤(7:Int))))=true:=by simp; omega
    have e2:decide (0≤(0:Int)∧(0:Int) < (ByteArray.size s:Int))=true:=decide_eq_true (by omega)
    have e3:badNum s=((decide ((ByteArray.size s:Int) > (1:Int))) && (byteAt s (0:Int) == (48:Int))):=by
      unfold badNum
      rw [decide_eq_false (show ¬ ((ByteArray.size s:Int) < 1) by omega),decide_eq_false (show ¬ ((ByteArray.size s:Int) > 7) by omega),Bool.and_comm]
      rfl
    simp only [e1,e2,e3,Bool.or_true,if_true,Bool.not_true,Bool.false_or]
    split
    · rfl
    · refine (runL_out (len:=s.size) (fun i a=>(s,a,(i:Int),())) (fun i a=>0≤a∧a < (10:Int) ^ i) (digF s) (fun a=>some (a,())) (fun _=>some (-1,())) ?_ ?_ (by omega) (a:=0) (by simp)).trans (by cases outF (digF s) (List.range s.size) 0<;>rfl)
      · intro next i a hi ha
        have hp:=pow_le i (by omega)
        have hb:=byteAt_lt s (i:Int)
        cases hd:digF s i a with
        | inr e =>
          unfold digF at hd
          split at hd
          · rename_i hc
            simp only [spec_l1Number.B5,lt_dec hi,in_dec hi,Bool.or_true,if_true]
            rw [if_pos hc]
          · cases hd
        | inl a' =>
          refine ⟨dig_inv ha hd,?_⟩
          unfold digF at hd
          split at hd
          · cases hd
          · rename_i hc
            cases hd
            simp only [spec_l1Number.B5,lt_dec hi,in_dec hi,Bool.or_true,if_true]
            rw [if_neg hc,wrap_next hi (show s.size≤1048576 by omega)]
            simp only [Bool.or_eq_true,decide_eq_true_eq,not_or] at hc
            rw [wrap_eq (a:=a * 10) (by omega) (by omega),wrap_eq (a:=byteAt s i) (by omega) (by omega),wrap_eq (a:=a * 10 + byteAt s i) (by omega) (by omega),wrap_eq (by omega) (by omega)]
            rw [show a * 10 + byteAt s i - 48=a * 10 + (byteAt s i - 48) by omega]
      · intro next a ha
        simp only [spec_l1Number.B5,lt_dec',Bool.false_eq_true,if_false]
  · have e1:((decide ((ByteArray.size s:Int)≥(1:Int))) && (decide ((ByteArray.size s:Int)≤(7:Int))))=false:=by
      rw [Bool.and_eq_false_iff,decide_eq_false_iff_not,decide_eq_false_iff_not]; omega
    have e3:badNum s=true:=by
      unfold badNum
      simp only [Bool.or_eq_true,decide_eq_true_eq]
      omega
    simp [e1,e3]
end

section
variable {n:Nat} (hn:Big n)
def decV (s:ByteArray):Int:=Sum.elim (fun a=>a) (fun _=>0) (numR s)
def decB (s:ByteArray):Bool:=Sum.elim (fun _=>true) (fun _=>false) (numR s)
include hn in
theorem hwIs_ok (s:ByteArray):impl_hwIsDecimal.f n (s,())=some (decB s,()):=by
  have hn:18446744073709551616≤n:=hn
  unfold impl_hwIsDecimal.f decB numR
  by_cases hlen:1≤s.size∧s.size≤7
  · have e2:decide (0≤(0:Int)∧(0:Int) < (ByteArray.size s:Int))=true:=decide_eq_true (by omega)
    simp only [e2,Bool.or_true,if_true]
    have e3:(((decide ((ByteArray.size s:Int) < (1:Int))) || (decide ((ByteArray.size s:Int) > (7:Int)))) || ((decide ((ByteArray.size s:Int) > (1:Int))) && ((byteAt s (0:Int)) == (48:Int))))=badNum s:=by
      unfold badNum
      rw [Bool.and_comm (decide _)]
    rw [e3]
    split
    · rfl
    · refine (runL_out (len:=s.size) (fun i (_:Int)=>(s,(s.size:Int),(i:Int),())) (fun i a=>0≤a∧a < (10:Int) ^ i) (digF s) (fun _=>some (true,())) (fun _=>some (false,())) ?_ ?_ (by omega) (a:=0) (by simp)).trans (by cases outF (digF s) (List.range s.size) 0<;>rfl)
      · intro next i a hi ha
        have hp:=pow_le i (by omega)
        have hb:=byteAt_lt s (i:Int)
        cases hd:digF s i a with
        | inr e =>
          unfold digF at hd
          split at hd
          · rename_i hc
            simp only [impl_hwIsDecimal.B4,lt_dec hi,in_dec hi,Bool.or_true,if_true]
            rw [if_pos hc]
          · cases hd
        | inl a' =>
          refine ⟨dig_inv ha hd,?_⟩
          unfold digF at hd
          split at hd
          · cases hd
          · rename_i hc
            cases hd
            simp only [impl_hwIsDecimal.B4,lt_dec hi,in_dec hi,Bool.or_true,if_true]
            rw [if_neg hc,wrap_next hi (show s.size≤1048576 by omega)]
      · intro next a ha
        simp only [impl_hwIsDecimal.B4,lt_dec',Bool.false_eq_true,if_false]
  · have e3:badNum s=true:=by
      unfold badNum
      simp only [Bool.or_eq_true,decide_eq_true_eq]
      omega
    have e4:((decide ((ByteArray.size s:Int) < (1:Int))) || (decide ((ByteArray.size s:Int) > (7:Int))))=true:=by
      simp only [Bool.or_eq_true,decide_eq_true_eq]
      omega
    simp [e4,e3]
theorem dig_parse {s:ByteArray}:∀ (d i:Nat) (a:Nat) (v:Int),i + d=s.size→a < 10 ^ i→s.size≤7→outF (digF s) ((List.range s.size).drop i) (a:Int)=.inl v→∃ u:Nat,Go.Lib.parseUint10 a (s.data.toList.drop i)=.ok u∧v=u∧u < 10 ^ s.size
  | 0,i,a,v,hi,ha,h7,h=>by
    have:i=s.size:=by omega
    subst this
    rw [List.drop_eq_nil_of_le (by simp)] at h
    cases h
    have hl:s.data.toList.length=s.size:=by simp
    refine ⟨a,?_,rfl,ha⟩
    rw [List.drop_eq_nil_of_le (by omega)]
    rfl
  | d + 1,i,a,v,hi,ha,h7,h=>by
    have hl:s.data.toList.length=s.size:=by simp
    rw [List.drop_eq_getElem_cons (by simp; omega)] at h
    simp only [outF,List.getElem_range] at h
    split at h
    case h_2=>cases h
    rename_i a1 h1
    unfold digF at h1
    split at h1
    · cases h1
    rename_i hc
    simp only [Bool.or_eq_true,decide_eq_true_eq,not_or] at hc
    have hbe:byteAt s (i:Int)=((s.data.toList[i]'(by omega)).toNat:Int):=by
      unfold byteAt
      rw [Int.toNat_natCast,List.getD_eq_getElem?_getD,List.getElem?_eq_getElem (by omega)]
      rfl
    have e1:=Sum.inl.inj h1
    have hp:10 ^ i≤10 ^ 6:=Nat.pow_le_pow_right (by decide) (by omega)
    have hq:10 ^ (i + 1)=10 ^ i * 10:=Nat.pow_succ ..
    obtain ⟨u,hu1,hu2,hu3⟩:=dig_parse d (i + 1) (a * 10 + ((s.data.toList[i]'(by omega)).toNat - 48)) v (by omega) (by omega) h7 (by
      rw [← h,← e1,hbe]
      congr 1
      omega)
    refine ⟨u,?_,hu2,hu3⟩
    rw [List.drop_eq_getElem_cons (by omega)]
    rw [hbe] at hc
    simp only [Go.Lib.parseUint10]
    rw [if_pos (by omega),if_neg (by omega),if_neg (by omega)]
    exact hu1
theorem atoi_dec {s:ByteArray} {v:Int} (h:numR s=.inl v):Go.Lib.atoiAll s.data.toList=.ok v∧s.size≤7:=by
  unfold numR at h
  split at h
  · cases h
  rename_i hb
  unfold badNum at hb
  simp only [Bool.or_eq_true,decide_eq_true_eq,not_or] at hb
  have h7:s.size≤7:=by omega
  have hl:s.data.toList.length=s.size:=by simp
  obtain ⟨u,hu1,hu2,hu3⟩:=dig_parse s.size 0 0 v (by omega) (by simp) h7 (by simpa using h)
  refine ⟨?_,h7⟩
  have hp:10 ^ s.size≤10 ^ 7:=Nat.pow_le_pow_right (by decide) h7
  rw [List.drop_zero] at hu1
  generalize s.data.toList=l at hu1 hl
  cases l with
  | nil=>simp at hl; omega
  | cons c r =>
    have hc:48≤c.toNat∧c.toNat≤57:=by
      simp only [Go.Lib.parseUint10] at hu1
      split at hu1
      · assumption
      · cases hu1
    unfold Go.Lib.atoiAll
    simp only
    rw [if_neg (by omega)]
    unfold Go.Lib.parseMag
    rw [if_neg (by simp),hu1]
    simp only
    rw [if_neg (by omega),if_neg (by omega),if_neg (by omega),hu2]
theorem decV_ok (s:ByteArray):0≤decV s:=by
  unfold decV
  cases h:numR s with
  | inl a=>exact (num_bound h).1
  | inr e=>exact Int.le_refl 0
include hn in
theorem l31Value_ok (s:ByteArray):spec_l31Value.f n (s,())=some (decV s,()):=by
  have h:=decV_ok s
  unfold spec_l31Value.f
  simp only [specNum_ok hn,Option.bind_some]
  unfold decV at h ⊢
  cases hr:numR s with
  | inl a =>
    rw [hr] at h
    simp only [Sum.elim_inl] at h ⊢
    exact if_neg (fun hc=>Int.not_lt.2 h (of_decide_eq_true hc))
  | inr e=>rfl
include hn in
theorem number_ok (o:Ty.den tGateObject) (i:Int) (h:0≤i∧i < (List.length o.2.2.2.1:Int)):impl_HallService_1.f n (i,some o,())=some (decV (List.getD o.2.2.2.1 i.toNat (⟨#[]⟩:ByteArray)),()):=by
  unfold impl_HallService_1.f
  simp only
  rw [if_pos (decide_eq_true h)]
  generalize List.getD o.2.2.2.1 i.toNat (⟨#[]⟩:ByteArray)=s
  rw [hwIs_ok hn]
  simp only [Option.bind_some]
  unfold decB decV
  cases hr:numR s with
  | inl a =>
    obtain ⟨h1,h2⟩:=atoi_dec hr
    simp only [Sum.elim_inl,if_true,h1]
    rw [if_pos (decide_eq_true h2)]
  | inr e=>simp
end

section
variable {n:Nat} (hn:Big n)
include hn in
theorem service_eq (o:Ty.den tGateObject) (w:Ty.den tStewService) (ho:ByteArray.size o.2.1≤1048576):∃ r,spec_HallService.f n (o,w,())=some r∧impl_HallService.f n (o,w,())=some r∧small 1048576 tStewService r.1:=by
  have hsm:ByteArray.size o.2.1≤1048576∧(True∧True∧True∧True∧True∧True∧True∧True∧True∧True∧True∧True∧True):=⟨ho,by simp⟩
  unfold spec_HallService.f impl_HallService.f
  simp only
  by_cases hl:(List.length o.2.2.2.1:Int)=6
  · have e:((List.length o.2.2.2.1:Int) != (6:Int))=false:=by simp [hl]
    have hd:∀ i:Int,0≤i∧i < 6→(!true || decide (0≤i∧i < (List.length o.2.2.2.1:Int)))=true:=fun i hi=>by rw [Bool.not_true,Bool.false_or,decide_eq_true_eq]; omega
    simp only [e,Bool.false_eq_true,if_false,hd 0 (by omega),hd 1 (by omega),hd 2 (by omega),hd 3 (by omega),hd 4 (by omega),if_true,l31Value_ok hn,number_ok hn o 0 (by omega),number_ok hn o 1 (by omega),number_ok hn o 2 (by omega),number_ok hn o 3 (by omega),number_ok hn o 4 (by omega),Option.bind_some]
    generalize hv:decV (List.getD o.2.2.2.1 (Int.toNat 4) (⟨#[]⟩:ByteArray))=v
    have h0:0≤v:=hv ▸ decV_ok _
    by_cases h4:v=0
    · subst h4
      exact ⟨_,rfl,rfl,hsm⟩
    · have e1:decide (v > 0)=true:=decide_eq_true (by rcases Int.lt_or_eq_of_le h0 with h | h; exact h; exact absurd h.symm h4)
      have e2:(v == (0:Int))=false:=by simpa using h4
      simp only [e1,e2,if_true,Bool.false_eq_true,if_false]
      generalize decV (List.getD o.2.2.2.1 (Int.toNat 1) (⟨#[]⟩:ByteArray))=m
      by_cases hm:w.2.2.2.2.1 < m
      · rw [if_pos (decide_eq_true hm),if_neg (Int.not_lt.2 (Int.le_of_lt hm))]
        exact ⟨_,rfl,rfl,hsm⟩
      · rw [if_neg (by simpa using hm)]
        by_cases hm2:m < w.2.2.2.2.1
        · rw [if_pos hm2]
          exact ⟨_,rfl,rfl,hsm⟩
        · rw [if_neg hm2]
          have e:w.2.2.2.2.1=m:=Int.le_antisymm (Int.not_lt.1 hm2) (Int.not_lt.1 hm)
          rw [e]
          exact ⟨_,rfl,rfl,hsm⟩
  · have e:((List.length o.2.2.2.1:Int) != (6:Int))=true:=by simpa using hl
    simp only [e,if_true]
    exact ⟨_,rfl,rfl,show ByteArray.size (⟨#[]⟩:ByteArray)≤1048576∧(True∧True∧True∧True∧True∧True∧True∧True∧True∧True∧True∧True∧True) from ⟨Nat.zero_le _,by simp⟩⟩
end
theorem pure_law (n:Nat) (hn:Big n) (x:Tup [tGateObject,tStewService]) (hw:wfT [tGateObject,tStewService] x):laws_FnExactHallService.f n x=some (true,()):=by
  obtain ⟨o,w,⟨⟩⟩:=x
  obtain ⟨hw1,hw2,_⟩:=hw
  unfold laws_FnExactHallService.f
  have h:laws_szGateObject.f n (o,1048576,())=_:=laws_szGateObject_ok n hn o hw1 1048576 (by omega) (by omega)
  simp only [h,Option.bind_some]
  by_cases hb:(bulk tGateObject o:Int)≤1048576
  · have hs:small 1048576 tGateObject o:=small_of_bulk (by omega)
    rw [subL_pos hb,if_neg (by simp; omega)]
    have h2:laws_szStewService.f n (w,1048576 - (bulk tGateObject o:Int),())=_:=laws_szStewService_ok n hn w hw2 _ (by omega) (by omega)
    simp only [h2,Option.bind_some]
    by_cases hb2:(bulk tStewService w:Int)≤1048576 - (bulk tGateObject o:Int)
    · rw [subL_pos hb2,if_neg (by simp; omega)]
      have hs2:small 1048576 tStewService w:=small_of_bulk (by omega)
      obtain ⟨r,e1,e2,e3⟩:=service_eq hn o w hs.2.1
      obtain ⟨r,⟨⟩⟩:=r
      simp only [laws_toGateObject_ok n hn o hs,laws_toStewService_ok n hn w hs2,e1,e2,Option.bind_some,if_true,laws_eqStewService_ok n hn (r,r,()) e3,laws_eqGateObject_ok n hn (o,o,()) hs,eqD_refl,Bool.not_true,Bool.false_eq_true,if_false]
    · rw [subL_neg hb2,if_pos (by decide)]
  · rw [subL_neg hb,if_pos (by decide)]

end Go.Proofs.YtmdkodbodddhpacDoor
