/- A verified symbolic evaluator of loaded Go code: what it tells of a function is the function's contract (part 3). No conditions. -/
import Derived.Test.YtnkgmbaeondobabDoorM2
import Derived.Scope
import Derived.KernelRfl
set_option linter.unusedVariables false
set_option linter.unusedSimpArgs false
set_option linter.unnecessarySimpa false
set_option linter.unusedSectionVars false
namespace Go.Vm
variable [Amb]
open Go.RowKit (Below)
theorem Pre.set {ob0 ob:List Ob} (h:Pre ob0 ob) {id:Nat} (hi:ob0.length≤id∨getAt ob0 id=some .dead) (o:Ob):Pre ob0 (setAt ob id o):=by
  refine ⟨by rw [setAt_eq,List.length_set]; exact h.1,fun id' o' h1 h2=>?_⟩
  have hne:id≠id':=by
    rintro rfl
    rcases hi with hi | hi
    · have:=lt_of_get (by rw [← getAt_eq]; exact h1)
      omega
    · rw [h1] at hi
      exact h2 (Option.some.inj hi)
  rw [getAt_eq,setAt_eq,List.getElem?_set_ne hne,← getAt_eq]
  exact h.2 id' o' h1 h2
theorem Pre.trans {a b c:List Ob} (h:Pre a b) (h':Pre b c):Pre a c:=⟨Nat.le_trans h.1 h'.1,fun id o h1 h2=>by
  rcases h.2 id o h1 h2 with h3 | ⟨k,l,l2,rfl,h3,h4⟩
  · exact h'.2 id o h3 h2
  · obtain ⟨l3,h5,h6⟩:=h'.map h3
    exact .inr ⟨k,l,l3,rfl,h5,fun y=>(h6 y).trans (h4 y)⟩⟩
theorem Pre.touch {ob0 ob:List Ob} (h:Pre ob0 ob) {id:Nat} {k:Ty} {l l2:List (k.den×Int)} (ho:getAt ob id=some (.mp k l)) (hm:∀ y,mget k l2 y=mget k l y):Pre ob0 (setAt ob id (.mp k l2)):=by
  refine h.trans ⟨by rw [setAt_eq,List.length_set]; exact Nat.le_refl _,fun id' o' h1 h2=>?_⟩
  by_cases he:id=id'
  · subst he
    rw [ho] at h1
    cases h1
    refine .inr ⟨k,l,l2,rfl,?_,hm⟩
    have hlt:=lt_of_get (by rw [← getAt_eq]; exact ho)
    rw [getAt_eq,setAt_eq]
    simp [hlt]
  · refine .inl ?_
    rw [getAt_eq,setAt_eq,List.getElem?_set_ne he,← getAt_eq]
    exact h1
theorem Pre.app {ob0 ob:List Ob} (h:Pre ob0 ob) (l:List Ob):Pre ob0 (ob++l):=h.trans (.of_app ⟨l,rfl⟩)
theorem Pre.dead {ob0 ob:List Ob} (h:Pre ob0 ob) (id:Nat):Pre (setAt ob0 id .dead) ob:=by
  refine ⟨by rw [setAt_eq,List.length_set]; exact h.1,fun id' o' h1 h2=>?_⟩
  have hne:id≠id':=by
    rintro rfl
    rw [getAt_eq,setAt_eq,List.getElem?_set] at h1
    split at h1
    · split at h1
      · exact absurd (Option.some.inj h1).symm h2
      · cases h1
    · rename_i hh; exact hh rfl
  rw [getAt_eq,setAt_eq,List.getElem?_set_ne hne,← getAt_eq] at h1
  exact h.2 id' o' h1 h2
theorem Pre.hide {tm:List (Nat×V)} {os:List Oper}:∀ {l:List Oper} {ob0 ob:List Ob},Pre ob0 ob→Pre (Vm.hide tm os l ob0) ob
  | [],_,_,h=>h
  | o :: l,ob0,ob,h=>by
    unfold Vm.hide
    split
    · split
      · exact Pre.hide (h.dead _)
      · exact Pre.hide h
    · exact Pre.hide h
section
variable {ob0:List Ob}
theorem Pre.frzOb {ob:List Ob} (h:Pre ob0 ob) {u:V} (hu:fromOn ob0.length u=true):Pre ob0 (frzOb ob u):=by
  unfold Vm.frzOb
  cases u with
  | own id =>
    simp only [fromOn,Nat.ble_eq] at hu
    simp only
    split
    · exact h.set (.inl hu) _
    · exact h
  | sub id i j =>
    simp only [fromOn,Nat.ble_eq] at hu
    simp only
    split
    · exact h.set (.inl hu) _
    · exact h
  | part id i j =>
    simp only [fromOn,Nat.ble_eq] at hu
    simp only
    split
    · exact h.set (.inl hu) _
    · exact h
  | _=>exact h
theorem Pre.frzAll:∀ {cs:List V} {ob:List Ob},Pre ob0 ob→(∀ u∈cs,fromOn ob0.length u=true)→Pre ob0 (frzAll ob cs)
  | [],_,h,_=>h
  | u :: cs,ob,h,hu=>Pre.frzAll (cs:=cs) (h.frzOb (hu u (by simp))) (fun v hv=>hu v (by simp [hv]))
theorem mvc_rest:∀ {t:Ty} {ob ob1:List Ob} {us rest:List V} {x:t.den},mvc t ob us=some (x,rest,ob1)→Pre ob0 ob→(∀ u∈us,fromOn ob0.length u=true)→Pre ob0 ob1∧∀ u∈rest,u∈us:=by
  intro t
  induction t with
  | unit =>
    intro ob ob1 us rest x h hp hu
    simp only [mvc,Option.some.injEq,Prod.mk.injEq] at h
    obtain ⟨_,rfl,rfl⟩:=h
    exact ⟨hp,fun u h=>h⟩
  | pair a b iha ihb =>
    intro ob ob1 us rest x h hp hu
    simp only [mvc] at h
    split at h
    · rename_i x1 r1 ob2 h1
      split at h
      · rename_i x2 r2 ob3 h2
        simp only [Option.some.injEq,Prod.mk.injEq] at h
        obtain ⟨_,rfl,rfl⟩:=h
        obtain ⟨p1,m1⟩:=iha h1 hp hu
        obtain ⟨p2,m2⟩:=ihb h2 p1 (fun u hu'=>hu u (m1 u hu'))
        exact ⟨p2,fun u hu'=>m1 u (m2 u hu')⟩
      · cases h
    · cases h
  | slice e ih =>
    intro ob ob1 us rest x h hp hu
    cases us with
    | nil=>simp [mvc] at h
    | cons v r =>
      simp only [mvc] at h
      split at h
      · simp only [Option.some.injEq,Prod.mk.injEq] at h
        obtain ⟨_,rfl,rfl⟩:=h
        exact ⟨hp,fun u h=>List.mem_cons_of_mem _ h⟩
      · simp only [Option.some.injEq,Prod.mk.injEq] at h
        obtain ⟨_,rfl,rfl⟩:=h
        exact ⟨hp,fun u h=>List.mem_cons_of_mem _ h⟩
      · rename_i id
        split at h
        · split at h
          · simp only [Option.some.injEq,Prod.mk.injEq] at h
            obtain ⟨_,rfl,rfl⟩:=h
            have hi:=hu (.own id) (by simp)
            simp only [fromOn,Nat.ble_eq] at hi
            exact ⟨hp.set (.inl hi) _,fun u h=>List.mem_cons_of_mem _ h⟩
          · cases h
        · cases h
      · cases h
  | ptr e ih =>
    intro ob ob1 us rest x h hp hu
    simp [mvc] at h
  | ifp k0 e ih =>
    intro ob ob1 us rest x h hp hu
    simp [mvc] at h
  | int k =>
    intro ob ob1 us rest x h hp hu
    cases us with
    | nil=>simp [mvc] at h
    | cons v r =>
      simp only [mvc] at h
      split at h
      · simp only [Option.some.injEq,Prod.mk.injEq] at h
        obtain ⟨_,rfl,rfl⟩:=h
        exact ⟨hp,fun u h=>List.mem_cons_of_mem _ h⟩
      · cases h
  | bool =>
    intro ob ob1 us rest x h hp hu
    cases us with
    | nil=>simp [mvc] at h
    | cons v r =>
      simp only [mvc] at h
      split at h
      · simp only [Option.some.injEq,Prod.mk.injEq] at h
        obtain ⟨_,rfl,rfl⟩:=h
        exact ⟨hp,fun u h=>List.mem_cons_of_mem _ h⟩
      · cases h
  | str =>
    intro ob ob1 us rest x h hp hu
    cases us with
    | nil=>simp [mvc] at h
    | cons v r =>
      simp only [mvc] at h
      split at h
      · simp only [Option.some.injEq,Prod.mk.injEq] at h
        obtain ⟨_,rfl,rfl⟩:=h
        exact ⟨hp,fun u h=>List.mem_cons_of_mem _ h⟩
      · cases h
theorem Pre.moved {t:Ty} {ob ob1:List Ob} {us:List V} {x:t.den} (hp:Pre ob0 ob) (h:moved t ob us=some (x,ob1)) (hu:∀ u∈us,fromOn ob0.length u=true):Pre ob0 ob1:=by
  unfold Vm.moved at h
  split at h
  · rename_i h1
    simp only [Option.some.injEq,Prod.mk.injEq] at h
    obtain ⟨rfl,rfl⟩:=h
    exact (mvc_rest h1 hp hu).1
  · cases h
theorem Pre.partsD {st:St} {e:Ty} {s:Nat}:∀ {ps:List (Nat×Operand)} {j:Nat} {ob ob1:List Ob} {l:List e.den},Pre ob0 ob→partsD st e s j ob ps=some (l,ob1)→(∀ u∈partCells st s ps,fromOn ob0.length u=true)→Pre ob0 ob1
  | [],j,ob,ob1,l,hp,h,_=>by
    simp only [Vm.partsD,Option.some.injEq,Prod.mk.injEq] at h
    obtain ⟨_,rfl⟩:=h
    exact hp
  | (i,x) :: r,j,ob,ob1,l,hp,h,hu=>by
    simp only [Vm.partsD] at h
    split at h
    · split at h
      · rename_i y ob2 h1
        split at h1
        · split at h
          · rename_i l2 ob3 h2
            simp only [Option.some.injEq,Prod.mk.injEq] at h
            obtain ⟨_,rfl⟩:=h
            exact Pre.partsD (hp.moved h1 (fun u hm=>hu u (by simp [partCells]; exact .inl hm))) h2 (fun u hm=>hu u (by
              simp only [partCells,List.flatMap_cons,List.mem_append]
              exact .inr hm))
          · cases h
        · cases h1
      · cases h
    · cases h
theorem Pre.appSrc {ob ob1:List Ob} {e:Ty} {dp dp1:Bool} {x:V} {l:List e.den} (hp:Pre ob0 ob) (h:appSrc ob e dp x=some (l,dp1,ob1)) (hu:fromOn ob0.length x=true):Pre ob0 ob1:=by
  have hf:=hp.frzOb hu
  unfold Vm.appSrc at h
  split at h
  · split at h
    · simp only [Option.some.injEq,Prod.mk.injEq] at h
      obtain ⟨_,_,rfl⟩:=h
      exact hp
    · cases h
  · split at h
    · rename_i id
      simp only [fromOn,Nat.ble_eq] at hu
      split at h
      · split at h
        · simp only [Option.some.injEq,Prod.mk.injEq] at h
          obtain ⟨_,_,rfl⟩:=h
          exact hp.set (.inl hu) _
        · cases h
      · split at h
        · simp only [Option.some.injEq,Prod.mk.injEq] at h
          obtain ⟨_,_,rfl⟩:=h
          exact hf
        · cases h
    · split at h
      · simp only [Option.some.injEq,Prod.mk.injEq] at h
        obtain ⟨_,_,rfl⟩:=h
        exact hf
      · cases h
end
section
variable {P:Program} {T:FuncId→Option Sig} {R:Type} {r:R} {st:St} {s:Nat}
theorem partCells_ev {st2:St} {ps:List (Nat×Operand)} (h:∀ p∈ps,∀ ann',ev st2 s ann' p.2=ev st s ann' p.2):partCells st2 s ps=partCells st s ps:=by
  unfold partCells
  induction ps with
  | nil=>rfl
  | cons p ps ih =>
    simp only [List.flatMap_cons]
    rw [h p (by simp),ih (fun q hq=>h q (by simp [hq]))]
theorem partsD_ev {st2:St} {e:Ty}:∀ {ps:List (Nat×Operand)} {j:Nat} {ob:List Ob},(∀ p∈ps,∀ ann',ev st2 s ann' p.2=ev st s ann' p.2)→partsD st2 e s j ob ps=partsD st e s j ob ps
  | [],_,_,_=>rfl
  | (i,x) :: r,j,ob,h=>by
    have hx:=h (i,x) (by simp) []
    simp only at hx
    have ih:∀ j ob,partsD st2 e s j ob r=partsD st e s j ob r:=fun j ob=>partsD_ev (fun p hp=>h p (by simp [hp]))
    simp only [partsD,hx,ih]
theorem partsS_ev {st2:St} {ob:List Ob} {e:Ty}:∀ {ps:List (Nat×Operand)} {j:Nat},(∀ p∈ps,∀ ann',ev st2 s ann' p.2=ev st s ann' p.2)→partsS st2 ob e s j ps=partsS st ob e s j ps
  | [],_,_=>rfl
  | (i,x) :: r,j,h=>by
    have hx:=h (i,x) (by simp) []
    simp only at hx
    have ih:∀ j,partsS st2 ob e s j r=partsS st ob e s j r:=fun j=>partsS_ev (fun p hp=>h p (by simp [hp]))
    simp only [partsS,hx,ih]
def Makes (P:Program) (T:FuncId→Option Sig) (st:St) (s:Nat) (o:Oper) (v:V) (ob1:List Ob):Prop :=
  ∀ (st2:St),(∀ x∈o.op.operands,∀ ann',ev st2 s ann' x=ev st s ann' x)→st2.ob=st.ob→∀ (R2:Type) (k2:V→St→Option R2),opStep P T st2 s none [] o k2=k2 v { st2 with ob:=ob1 }
theorem append_told {t:TypeId} {x y:V} {k:V→St→Option R} (h:append P st t x y k=some r) {ob0:List Ob} (hp:Pre ob0 st.ob) (hx:fromOn ob0.length x=true) (hy:fromOn ob0.length y=true) :
    ∃ v ob1,k v { st with ob:=ob1 }=some r∧Pre ob0 ob1∧∀ (st2:St),st2.ob=st.ob→∀ (R2:Type) (k2:V→St→Option R2),append P st2 t x y k2=k2 v { st2 with ob:=ob1 } := by
  unfold append at h ⊢
  split at h
  case h_2=>cases h
  rename_i el ht
  split at h
  case h_2=>cases h
  rename_i ty i hty hi
  split at h
  case isFalse=>cases h
  rename_i hz
  split at h
  · split at h
    · rename_i ys dp ob hs
      split at h
      · rename_i hb
        refine ⟨_,_,h,(hp.appSrc hs hy).app _,fun st2 he R2 k2=>?_⟩
        simp only [hz,if_true,he,hs,hb]
        rfl
      · cases h
    · cases h
  · split at h
    · rename_i ys dp ob hs
      split at h
      · rename_i hb
        refine ⟨_,_,h,(hp.appSrc hs hy).app _,fun st2 he R2 k2=>?_⟩
        simp only [hz,if_true,he,hs,hb]
        rfl
      · cases h
    · cases h
  · rename_i id
    simp only [fromOn,Nat.ble_eq] at hx
    split at h
    · rename_i dp' ty' l hg
      split at h
      · rename_i hty'
        subst hty'
        split at h
        · rename_i ys dp ob hs
          split at h
          · rename_i hb
            refine ⟨_,_,h,((hp.set (.inl hx) _).appSrc hs hy).app _,fun st2 he R2 k2=>?_⟩
            simp only [hz,if_true,he,hg,hs,hb,dite_true]
            rfl
          · cases h
        · cases h
      · cases h
    · cases h
  · cases h
theorem opStep_makes {o:Oper} {k:V→St→Option R} (h:opStep P T st s none [] o k=some r) {ob0:List Ob} (hp:Pre ob0 st.ob) (hn:turnsNew T ob0 ob0.length st s o=true) :
    ∃ v ob1,k v { st with ob:=ob1 }=some r∧Pre ob0 ob1∧Makes P T st s o v ob1:=by
  unfold turnsNew at hn
  split at hn
  · rename_i t ho
    simp only [opStep,ho] at h
    split at h
    · rename_i z _ hz
      refine ⟨_,_,h,hp.app _,fun st2 he hob R2 k2=>?_⟩
      simp only [opStep,ho,hz,alloc,hob]
    · cases h
  · rename_i t x ho
    simp only [opStep,ho] at h
    split at h
    · rename_i hk
      refine ⟨_,_,h,hp.app _,fun st2 he hob R2 k2=>?_⟩
      simp only [opStep,ho,he x (by simp [ho,Op.operands]),hk,alloc,hob]
    · cases h
  · rename_i t l c ho
    simp only [opStep,ho] at h
    unfold mkSlice mkRow at h
    split at h
    · rename_i e n m ht hl hc
      split at h
      · rename_i ty i hty hi
        split at h
        · rename_i hz
          split at h
          · rename_i hb
            refine ⟨_,_,h,hp.app _,fun st2 he hob R2 k2=>?_⟩
            simp only [opStep,ho,he l (by simp [ho,Op.operands]),he c (by simp [ho,Op.operands]),mkSlice,mkRow,ht,hl,hc,hty,hi,if_pos hz,if_pos hb,newRow,hob]
          · cases h
        · cases h
      · cases h
    · cases h
  · rename_i t m x ho
    simp only [opStep,ho] at h
    split at h
    · rename_i q id _ hq hm
      split at h
      · rename_i n j o' hn2
        refine ⟨_,_,h,?_,fun st2 he hob R2 k2=>?_⟩
        · unfold mentry at hn2
          split at hn2
          case h_2=>cases hn2
          rename_i k l hg
          split at hn2
          case isFalse=>cases hn2
          split at hn2
          case h_2=>cases hn2
          simp only [Option.some.injEq,Prod.mk.injEq] at hn2
          obtain ⟨_,_,rfl⟩:=hn2
          exact hp.touch hg (fun y=>touch_get _ _ _)
        · simp only [opStep,ho,he m (by simp [ho,Op.operands]),he x (by simp [ho,Op.operands]),hq,hm,hob,hn2]
      · cases h
    · cases h
  · rename_i t a x ho
    split at hn
    case h_2=>cases hn
    rename_i id i off ha
    simp only [hidden,Bool.and_eq_true] at hn
    obtain ⟨hn1,hn2⟩:=hn
    have hid:ob0.length≤id∨getAt ob0 id=some .dead:=by
      cases hg:getAt ob0 id with
      | none=>rw [getAt_eq] at hg; exact .inl (by simpa using hg)
      | some q=>rw [hg] at hn2; cases q<;>first | exact .inr rfl | cases hn2
    cases hg:getAt st.ob id with
    | none=>rw [hg] at hn1; cases hn1
    | some q =>
      rw [hg] at hn1
      cases q with
      | box bs =>
        simp only [opStep,ho] at h
        split at h
        case h_3=>cases h
        case h_2 =>
          split at h
          · rename_i hst
            rw [ha] at hst
            unfold storeP at hst
            split at hst
            case h_2=>cases hst
            rename_i hpt _
            cases hpt
            split at hst
            case isFalse=>cases hst
            rw [hg] at hst
            cases hst
          · cases h
        rename_i st' _ hk hst
        rw [ha] at hst
        unfold store at hst
        split at hst
        case h_2=>cases hst
        rename_i inf id' e off' hinf hpt
        cases hpt
        split at hst
        case isFalse=>cases hst
        rename_i hc1
        rw [hg] at hst
        simp only at hst
        split at hst
        case isFalse=>cases hst
        rename_i hc2
        have hst:=Option.some.inj hst
        subst hst
        refine ⟨_,_,h,hp.set hid _,fun st2 he hob R2 k2=>?_⟩
        simp only [opStep,ho,he a (by simp [ho,Op.operands]),he x (by simp [ho,Op.operands]),ha,hk,store,hinf]
        rw [if_pos hc1,hob,hg]
        simp only
        rw [if_pos hc2]
      | _=>cases hn1
  · rename_i t n ps ho
    have hall:∀ u∈partCells st s ps.toList,fromOn ob0.length u=true:=List.all_eq_true.1 hn
    have hev:∀ st2:St,(∀ x∈o.op.operands,∀ ann',ev st2 s ann' x=ev st s ann' x)→∀ p∈ps.toList,∀ ann',ev st2 s ann' p.2=ev st s ann' p.2 :=
      fun st2 he p hp'=>he p.2 (by simp only [ho,Op.operands]; simp; exact ⟨p.1,by simpa using hp'⟩)
    simp only [opStep,ho] at h
    split at h
    case h_2=>contradiction
    case h_3=>cases h
    rename_i el _ ht
    split at h
    case h_2=>cases h
    rename_i ty i hty hi
    split at h
    case isFalse=>cases h
    rename_i hc
    unfold lit at h
    split at h
    · rename_i l ob hd
      refine ⟨_,_,h,(hp.partsD hd hall).app _,fun st2 he hob R2 k2=>?_⟩
      have e1:=partsD_ev (e:=ty) (j:=0) (ob:=st.ob) (hev st2 he)
      rw [← hob] at e1 hd
      rw [hob] at e1
      simp only [opStep,ho,ht,hty,hi,if_pos hc,lit]
      rw [hob,e1,← hob,hd]
      rfl
    · rename_i hd
      split at h
      · rename_i l hs
        refine ⟨_,_,h,(Pre.frzAll hp hall).app _,fun st2 he hob R2 k2=>?_⟩
        have e1:=partsD_ev (e:=ty) (j:=0) (ob:=st.ob) (hev st2 he)
        have e2:=partCells_ev (hev st2 he)
        have e3:=partsS_ev (ob:=frzAll st.ob (partCells st s ps.toList)) (e:=ty) (j:=0) (hev st2 he)
        simp only [opStep,ho,ht,hty,hi,if_pos hc,lit]
        rw [hob,e1,hd]
        simp only [e2,hob,e3,hs]
        rfl
      · cases h
  · rename_i c ho
    have hm:∀ st2:St,(∀ x∈o.op.operands,∀ ann',ev st2 s ann' x=ev st s ann' x)→∀ x∈c.args.toList,∀ ann',ev st2 s ann' x=ev st s ann' x :=
      fun st2 he x hx=>he x (by simp only [ho,Op.operands,Call.operands]; exact Array.mem_append.2 (.inr (by simpa using hx)))
    simp only [opStep,ho] at h
    split at hn
    · rename_i f hf
      split at hn
      · rename_i sig hsig
        simp only [Bool.and_eq_true,Option.isNone_iff_eq_none] at hn
        obtain ⟨⟨hn,hw⟩,hX⟩:=hn
        have hX:xOf T f=none:=by simp only [xOf,hsig,hX]
        simp only [callO,hf,hX,callF,hsig,hw] at h
        split at h
        case h_2=>cases h
        rename_i x hx
        rw [if_pos hn] at h
        simp only [Option.bind_eq_some_iff] at h
        obtain ⟨y,hy,hk⟩:=h
        have hpi:Pre st.ob (instT sig.rs y st.ob).2:=by
          have kC:∀ {t:Ty} {x:t.den} {ob:List Ob},Pre ob (instC t x ob).2:=by
            intro t
            induction t with
            | pair a b iha ihb=>intro x ob; exact iha.trans ihb
            | slice e ih=>intro x ob; exact .of_app ⟨_,rfl⟩
            | _=>intro x ob; exact Pre.refl _
          have k1:∀ {t:Ty} {x:t.den} {ob:List Ob},Pre ob (inst1 t x ob).2:=by
            intro t x ob
            unfold inst1
            split
            · exact kC
            · simp only
              split<;>exact kC
          have kT:∀ {ts:List Ty} {x:Tup ts} {ob:List Ob},Pre ob (instT ts x ob).2:=by
            intro ts
            induction ts with
            | nil=>intro x ob; exact Pre.refl _
            | cons t ts ih=>intro x ob; exact k1.trans ih
          exact kT
        refine ⟨_,_,hk,hp.trans hpi,fun st2 he hob R2 k2=>?_⟩
        simp only [opStep,ho,callO,hf,hX,callF,hsig,hw]
        rw [map_ev (hm st2 he),hob,hx]
        simp only [if_pos hn,hy,Option.bind_some]
      · cases hn
    · rename_i hc
      simp only [callO,hc] at h
      split at h
      · rename_i x y t t' _ ha hty
        split at h
        · rename_i htt
          have hall:=List.all_eq_true.1 hn
          obtain ⟨v,ob1,h1,h2,h3⟩:=append_told h hp (hall x (by rw [ha]; simp)) (hall y (by rw [ha]; simp))
          refine ⟨v,ob1,h1,h2,fun st2 he hob R2 k2=>?_⟩
          simp only [opStep,ho,callO,hc,ha,hty,if_pos htt]
          rw [hm st2 he x (by rw [ha]; simp),hm st2 he y (by rw [ha]; simp)]
          exact h3 st2 hob R2 k2
        · cases h
      · cases h
    · cases hn
  · cases hn
end
end Go.Vm

namespace Go.Vm
variable [Amb]
open Go.RowKit (Below)
theorem befs_spec:∀ (l:List Oper) (acc:List Nat),∃ r,befs acc l=acc++r∧r.length=l.length∧∀ (i:Nat) (o:Oper),l[i]?=some o→r[i]?=some (afterBits (acc++r.take i) o.after.toList)
  | [],acc=>⟨[],by simp [befs],rfl,fun i o h=>by simp at h⟩
  | o :: l,acc=>by
    obtain ⟨r,h1,h2,h3⟩:=befs_spec l (acc++[afterBits acc o.after.toList])
    refine ⟨afterBits acc o.after.toList :: r,by simp [befs,h1],by simp [h2],fun i q hi=>?_⟩
    cases i with
    | zero=>simp at hi; subst hi; simp
    | succ i =>
      have:=h3 i q (by simpa using hi)
      simp only [List.getElem?_cons_succ,this,List.take_succ_cons]
      simp
theorem edgeBits_spec {acc:List Nat} {e:Edge} {j:Nat} (h:(edgeBits acc e).testBit j=true):Region.binds .any e=true∧(e.on=j∨((getAt acc e.on).getD 0).testBit j=true):=by
  unfold edgeBits at h
  split at h
  · rename_i hb
    refine ⟨hb,?_⟩
    have h:((2 ^ e.on) ||| ((getAt acc e.on).getD 0)).testBit j=true:=h
    rw [Nat.testBit_or,Nat.testBit_two_pow] at h
    simpa using h
  · simp at h
theorem afterBits_spec {acc:List Nat} {j:Nat}:∀ (es:List Edge) (n:Nat),(es.foldl (fun n e=>Nat.lor n (edgeBits acc e)) n).testBit j=true→n.testBit j=true∨∃ e∈es,(edgeBits acc e).testBit j=true
  | [],n,h=>.inl h
  | e :: es,n,h=>by
    rcases afterBits_spec es _ h with h | ⟨e',he,h⟩
    · have h:(n ||| edgeBits acc e).testBit j=true:=h
      rw [Nat.testBit_or] at h
      rcases Bool.or_eq_true_iff.1 h with h | h
      · exact .inl h
      · exact .inr ⟨e,by simp,h⟩
    · exact .inr ⟨e',by simp [he],h⟩
section
variable {l:List Oper}
theorem bef_edge {i j:Nat} {o:Oper} (ho:l[i]?=some o) (h:bef (befs [] l) i j=true):∃ e∈o.after,Region.binds .any e=true∧(e.on=j∨(e.on < i∧bef (befs [] l) e.on j=true)):=by
  obtain ⟨r,h1,h2,h3⟩:=befs_spec l []
  simp only [List.nil_append] at h1 h3
  unfold bef at h
  rw [h1,getAt_eq,h3 i o ho] at h
  simp only [Option.getD_some,afterBits] at h
  rcases afterBits_spec _ _ h with h | ⟨e,he,h⟩
  · simp at h
  · obtain ⟨hb,h⟩:=edgeBits_spec h
    refine ⟨e,by simpa using he,hb,?_⟩
    rcases h with h | h
    · exact .inl h
    · right
      rw [getAt_eq] at h
      by_cases hlt:e.on < i
      · refine ⟨hlt,?_⟩
        rw [List.getElem?_take_of_lt hlt] at h
        unfold bef
        rw [h1,getAt_eq]
        exact h
      · rw [List.getElem?_eq_none (by rw [List.length_take]; omega)] at h
        simp at h
theorem bef_in {L:Nat→Prop} (hcl:∀ (j:Nat) (o:Oper),l[j]?=some o→L j→∀ e∈o.after,Region.binds .any e=true→L e.on):∀ (i:Nat) (o:Oper),l[i]?=some o→(∀ e∈o.after,Region.binds .any e=true→L e.on) →
    ∀ j,bef (befs [] l) i j=true→L j:=by
  intro i
  induction i using Nat.strongRecOn with
  | _ i ih =>
    intro o ho hd j hj
    obtain ⟨e,he,hb,h⟩:=bef_edge ho hj
    rcases h with h | ⟨hlt,h⟩
    · rw [← h]; exact hd e he hb
    · have hL:=hd e he hb
      have hi:i < l.length:=lt_of_get ho
      have hge:l[e.on]?=some l[e.on] := List.getElem?_eq_getElem (by omega)
      exact ih e.on hlt _ hge (fun e' he' hb'=>hcl e.on _ hge hL e' he' hb') j h
end
theorem tailAt_spec:∀ (bs:List Nat) (i m:Nat),m≤i→∀ n,tailAt i m bs=n→(m≤n∧n≤i + bs.length)∧∀ (j b:Nat),bs[j]?=some b→n≤i + j→∀ q,q < i + j→b.testBit q=true
  | [],i,m,hm,n,h=>by
    simp only [tailAt] at h
    subst h
    exact ⟨⟨Nat.le_refl _,by simpa using hm⟩,fun j b hb=>by simp at hb⟩
  | b :: bs,i,m,hm,n,h=>by
    simp only [tailAt] at h
    split at h
    · rename_i hb
      have hb:=Nat.eq_of_beq_eq_true hb
      obtain ⟨⟨h1,h2⟩,h3⟩:=tailAt_spec bs (i + 1) m (by omega) n h
      refine ⟨⟨h1,by simp; omega⟩,fun j b' hj hn q hq=>?_⟩
      cases j with
      | zero =>
        simp at hj
        subst hj
        rw [hb,Nat.testBit_two_pow_sub_one]
        simpa using hq
      | succ j=>exact h3 j b' (by simpa using hj) (by omega) q (by omega)
    · obtain ⟨⟨h1,h2⟩,h3⟩:=tailAt_spec bs (i + 1) (i + 1) (Nat.le_refl _) n h
      refine ⟨⟨by omega,by simp; omega⟩,fun j b' hj hn q hq=>?_⟩
      cases j with
      | zero=>omega
      | succ j=>exact h3 j b' (by simpa using hj) (by omega) q (by omega)
theorem slotOk_spec {bs:List Nat} {i:Nat} {ts:List Nat}:∀ {l:List Oper} {k:Nat},slotOk bs i ts k l=true→∀ (j:Nat) (o:Oper),l[j]?=some o→∀ t,o.dst=some t→t∈ts→i=k + j∨(k + j < i∧bef bs i (k + j)=true)∨(i < k + j∧bef bs (k + j) i=true)
  | [],k,_,j,o,h,_,_,_=>by simp at h
  | q :: l,k,hs,j,o,h,t,ht,hm=>by
    simp only [slotOk,Bool.and_eq_true] at hs
    cases j with
    | zero =>
      simp at h
      subst h
      have:=hs.1
      rw [ht] at this
      simp only [Bool.or_eq_true,Bool.and_eq_true,Nat.beq_eq,Nat.ble_eq,Bool.not_eq_true',List.any_eq_false] at this
      rcases this with ((h | h) | h) | h
      · exact .inl (by simpa using h)
      · exact absurd rfl (h t hm)
      · exact .inr (.inl ⟨by have:=h.1; omega,by simpa using h.2⟩)
      · exact .inr (.inr ⟨by have:=h.1; omega,by simpa using h.2⟩)
    | succ j =>
      have:=slotOk_spec hs.2 j o (by simpa using h) t ht hm
      rw [show k + (j + 1)=k + 1 + j by omega]
      exact this
theorem preOk_spec {bs mk:List Nat} {pre:List Oper}:∀ {l:List Oper} {k:Nat},preOk bs mk pre k l=true→∀ (j:Nat) (o:Oper),l[j]?=some o→opOk bs mk pre (k + j) o=true
  | [],k,_,j,o,h=>by simp at h
  | q :: l,k,hs,j,o,h=>by
    simp only [preOk,Bool.and_eq_true] at hs
    cases j with
    | zero=>simp at h; subst h; exact hs.1
    | succ j =>
      have:=preOk_spec hs.2 j o (by simpa using h)
      rw [show k + (j + 1)=k + 1 + j by omega]
      exact this
theorem acOk_spec:∀ {l:List Oper} {k:Nat},acOk k l=true→∀ (j:Nat) (o:Oper),l[j]?=some o→∀ e∈o.after,Region.binds .any e=true→e.on < k + j
  | [],k,_,j,o,h,_,_,_=>by simp at h
  | q :: l,k,hs,j,o,h,e,he,hb=>by
    simp only [acOk,Bool.and_eq_true] at hs
    cases j with
    | zero =>
      simp at h
      subst h
      have:=List.all_eq_true.1 hs.1 e (by simpa using he)
      simp [hb] at this
      omega
    | succ j =>
      have:=acOk_spec hs.2 j o (by simpa using h) e he hb
      omega
structure Pz where
  o:Oper
  W:Option Bool
  ann:List (Nat×Bool)
  gi:Option (Nat×Bool)
  v:V
  mkr:Bool
  ob1:List Ob
def stepP (s:Nat) (st:St) (p:Pz):St:=put1 (if p.mkr=true then { st with ob:=p.ob1 } else st) p.o.dst p.gi s p.v
def runP (s:Nat) (st:St) (ps:List Pz):St:=ps.foldl (stepP s) st
def riP (p:Pz):Ri:=⟨p.o.dst,p.W,p.ann⟩
def selP (L:Nat→Bool):Nat→List Pz→List Pz
  | _,[] => []
  | k,p :: ps=>if L k=true then p :: selP L (k + 1) ps else selP L (k + 1) ps
def riL (L:Nat→Bool) (ps:List Pz):List Ri:=ps.zipIdx.map fun p=>if L p.2=true then riP p.1 else ⟨none,none,[]⟩
theorem look_put (st:St) (d:Option Tmp) (gi:Option (Nat×Bool)) (s:Nat) (v:V) (t:Nat):look t (put1 st d gi s v).tm=if d=some t then gval gi s v else look t st.tm:=by
  cases d with
  | none=>simp [put1]
  | some d =>
    rw [put1_tm,look_cons]
    simp
theorem put1_ob (st:St) (d:Option Tmp) (gi:Option (Nat×Bool)) (s:Nat) (v:V):(put1 st d gi s v).ob=st.ob∧(put1 st d gi s v).dn=st.dn:=by cases d<;>exact ⟨rfl,rfl⟩
theorem look_step (s:Nat) (st:St) (p:Pz) (t:Nat):look t (stepP s st p).tm=if p.o.dst=some t then gval p.gi s p.v else look t st.tm:=by
  unfold stepP
  rw [look_put]
  split
  · rfl
  · split<;>rfl
theorem ob_step (s:Nat) (st:St) (p:Pz):(stepP s st p).ob=if p.mkr=true then p.ob1 else st.ob:=by
  unfold stepP
  rw [(put1_ob _ _ _ _ _).1]
  split<;>rfl
theorem dn_run (s:Nat):∀ (ps:List Pz) (st:St),(runP s st ps).dn=st.dn
  | [],_=>rfl
  | p :: ps,st=>by
    have e:runP s st (p :: ps)=runP s (stepP s st p) ps:=rfl
    rw [e,dn_run s ps]
    unfold stepP
    rw [(put1_ob _ _ _ _ _).2]
    split<;>rfl
section
variable {s:Nat}
theorem run_cons (st:St) (p:Pz) (ps:List Pz):runP s st (p :: ps)=runP s (stepP s st p) ps:=rfl
theorem look_sel {t:Nat} {L L':Nat→Bool}:∀ {ps:List Pz} {k:Nat} {st st':St},(∀ (j:Nat) (p:Pz),ps[j]?=some p→p.o.dst=some t→L (k + j)=L' (k + j))→look t st.tm=look t st'.tm →
    look t (runP s st (selP L k ps)).tm=look t (runP s st' (selP L' k ps)).tm
  | [],_,_,_,_,h=>h
  | p :: ps,k,st,st',hL,h=>by
    have hr:∀ (j:Nat) (q:Pz),ps[j]?=some q→q.o.dst=some t→L (k + 1 + j)=L' (k + 1 + j):=fun j q hq ht=>by
      have:=hL (j + 1) q (by simpa using hq) ht
      rw [show k + 1 + j=k + (j + 1) by omega]
      exact this
    by_cases hd:p.o.dst=some t
    · have:=hL 0 p (by simp) hd
      simp only [Nat.add_zero] at this
      simp only [selP,this]
      split
      · exact look_sel hr (by rw [look_step,look_step,if_pos hd,if_pos hd])
      · exact look_sel hr h
    · simp only [selP]
      split
      · split
        · exact look_sel hr (by rw [look_step,look_step,if_neg hd,if_neg hd]; exact h)
        · exact look_sel hr (by rw [look_step,if_neg hd]; exact h)
      · split
        · exact look_sel hr (by rw [look_step,if_neg hd]; exact h)
        · exact look_sel hr h
theorem ob_sel {L L':Nat→Bool}:∀ {ps:List Pz} {k:Nat} {st st':St},(∀ (j:Nat) (p:Pz),ps[j]?=some p→p.mkr=true→L (k + j)=L' (k + j))→st.ob=st'.ob →
    (runP s st (selP L k ps)).ob=(runP s st' (selP L' k ps)).ob
  | [],_,_,_,_,h=>h
  | p :: ps,k,st,st',hL,h=>by
    have hr:∀ (j:Nat) (q:Pz),ps[j]?=some q→q.mkr=true→L (k + 1 + j)=L' (k + 1 + j):=fun j q hq ht=>by
      have:=hL (j + 1) q (by simpa using hq) ht
      rw [show k + 1 + j=k + (j + 1) by omega]
      exact this
    by_cases hd:p.mkr=true
    · have:=hL 0 p (by simp) hd
      simp only [Nat.add_zero] at this
      simp only [selP,this]
      split
      · exact ob_sel hr (by rw [ob_step,ob_step,if_pos hd,if_pos hd])
      · exact ob_sel hr h
    · simp only [selP]
      split
      · split
        · exact ob_sel hr (by rw [ob_step,ob_step,if_neg hd,if_neg hd]; exact h)
        · exact ob_sel hr (by rw [ob_step,if_neg hd]; exact h)
      · split
        · exact ob_sel hr (by rw [ob_step,if_neg hd]; exact h)
        · exact ob_sel hr h
theorem ob_pre {ob0:List Ob} {L:Nat→Bool}:∀ {ps:List Pz} {k:Nat} {st:St},(∀ p∈ps,p.mkr=true→Pre ob0 p.ob1)→Pre ob0 st.ob→Pre ob0 (runP s st (selP L k ps)).ob
  | [],_,_,_,h=>h
  | p :: ps,k,st,hp,h=>by
    have hr:∀ q∈ps,q.mkr=true→Pre ob0 q.ob1:=fun q hq=>hp q (by simp [hq])
    simp only [selP]
    split
    · refine ob_pre hr ?_
      rw [ob_step]
      split
      · rename_i hm; exact hp p (by simp) hm
      · exact h
    · exact ob_pre hr h
theorem sel_take:∀ (ps:List Pz) (k n:Nat),selP (fun j=>decide (j < k + n)) k ps=ps.take n
  | [],k,n=>by simp [selP]
  | p :: ps,k,0=>by
    have:∀ (l:List Pz) (q:Nat),k≤q→selP (fun j=>decide (j < k + 0)) q l=[] := by
      intro l
      induction l with
      | nil=>intro q _; rfl
      | cons x l ih=>intro q hq; simp only [selP]; rw [if_neg (by simp; omega)]; exact ih (q + 1) (by omega)
    rw [this _ _ (Nat.le_refl _)]
    rfl
  | p :: ps,k,n + 1=>by
    simp only [selP]
    rw [if_pos (by simp)]
    have:=sel_take ps (k + 1) n
    rw [show k + 1 + n=k + (n + 1) by omega] at this
    rw [this]
    rfl
theorem sel_all {L:Nat→Bool}:∀ {ps:List Pz} {k:Nat},(∀ j,j < ps.length→L (k + j)=true)→selP L k ps=ps
  | [],_,_=>rfl
  | p :: ps,k,h=>by
    have h0:=h 0 (by simp)
    simp only [Nat.add_zero] at h0
    simp only [selP,if_pos h0]
    rw [sel_all (fun j hj=>by rw [show k + 1 + j=k + (j + 1) by omega]; exact h (j + 1) (by simp; omega))]
theorem look_none {t:Nat}:∀ {ps:List Pz} {st:St},(∀ p∈ps,p.o.dst≠some t)→look t (runP s st ps).tm=look t st.tm
  | [],_,_=>rfl
  | p :: ps,st,h=>by
    rw [run_cons,look_none (fun q hq=>h q (by simp [hq])),look_step,if_neg (h p (by simp))]
theorem mem_sel {L:Nat→Bool} {q:Pz}:∀ {ps:List Pz} {k:Nat},q∈selP L k ps→∃ j,ps[j]?=some q∧L (k + j)=true
  | [],_,h=>by simp [selP] at h
  | p :: ps,k,h=>by
    simp only [selP] at h
    split at h
    · rename_i hL
      rcases List.mem_cons.1 h with rfl | h
      · exact ⟨0,rfl,hL⟩
      · obtain ⟨j,h1,h2⟩:=mem_sel h
        exact ⟨j + 1,by simpa using h1,by rw [show k + (j + 1)=k + 1 + j by omega]; exact h2⟩
    · obtain ⟨j,h1,h2⟩:=mem_sel h
      exact ⟨j + 1,by simpa using h1,by rw [show k + (j + 1)=k + 1 + j by omega]; exact h2⟩
theorem look_at {t:Nat} {L:Nat→Bool} {p:Pz}:∀ {ps:List Pz} {k i:Nat} {st:St},ps[i]?=some p→L (k + i)=true→p.o.dst=some t→(∀ (j:Nat) (q:Pz),ps[j]?=some q→j≠i→q.o.dst≠some t) →
    look t (runP s st (selP L k ps)).tm=gval p.gi s p.v
  | [],_,_,_,h,_,_,_=>by simp at h
  | q :: ps,k,0,st,h,hL,hd,hn=>by
    simp at h
    subst h
    simp only [Nat.add_zero] at hL
    simp only [selP,if_pos hL]
    rw [run_cons,look_none,look_step,if_pos hd]
    intro x hx
    obtain ⟨j,h1,_⟩:=mem_sel hx
    exact hn (j + 1) x (by simpa using h1) (by omega)
  | q :: ps,k,i + 1,st,h,hL,hd,hn=>by
    have h':ps[i]?=some p:=by simpa using h
    have hL':L (k + 1 + i)=true:=by rw [show k + 1 + i=k + (i + 1) by omega]; exact hL
    have hn':∀ (j:Nat) (x:Pz),ps[j]?=some x→j≠i→x.o.dst≠some t:=fun j x hx hj=>hn (j + 1) x (by simpa using hx) (by omega)
    simp only [selP]
    split
    · rw [run_cons]; exact look_at h' hL' hd hn'
    · exact look_at h' hL' hd hn'
theorem riL_get {L:Nat→Bool} {ps:List Pz} {j:Nat}:(riL L ps)[j]?=ps[j]?.map fun p=>if L j=true then riP p else ⟨none,none,[]⟩:=by
  unfold riL
  rw [List.getElem?_map,List.getElem?_zipIdx]
  cases ps[j]? with
  | none=>rfl
  | some p=>simp
theorem riL_mem {L:Nat→Bool} {ps:List Pz} {q:Ri}:q∈riL L ps↔∃ j p,ps[j]?=some p∧q=if L j=true then riP p else ⟨none,none,[]⟩:=by
  constructor
  · intro h
    obtain ⟨j,hj⟩:=List.getElem?_of_mem h
    rw [riL_get] at hj
    simp only [Option.map_eq_some_iff] at hj
    obtain ⟨p,h1,h2⟩:=hj
    exact ⟨j,p,h1,h2.symm⟩
  · rintro ⟨j,p,h1,rfl⟩
    have:(riL L ps)[j]?=some (if L j=true then riP p else ⟨none,none,[]⟩):=by rw [riL_get,h1]; rfl
    exact List.mem_of_getElem? this
theorem riL_all {L:Nat→Bool} {ps:List Pz} (h:∀ j,j < ps.length→L j=true):riL L ps=ps.map riP:=by
  apply List.ext_getElem?
  intro j
  rw [riL_get,List.getElem?_map]
  cases hp:ps[j]? with
  | none=>rfl
  | some p=>simp [h j (lt_of_get hp)]
end
end Go.Vm

namespace Go.Vm
variable [Amb]
open Go.RowKit (Below)
structure PzOk (P:Program) (T:FuncId→Option Sig) (N:Fr) (s:Nat) (ob0:List Ob) (bs mk:List Nat) (st:St) (ri:List Ri) (i:Nat) (p:Pz):Prop where
  dst:dstOk N ri p.o.dst=true
  guard:guardOf st s ri p.o.guard=some (p.W,p.ann,p.gi)
  mkr:p.mkr=mk.any (Nat.beq i)
  made:p.mkr=true→p.W=none∧p.ann=[]∧p.gi=none∧Pre ob0 p.ob1∧Makes P T st s p.o p.v p.ob1
  quiet:p.mkr=false→∀ st2:St,(∀ x∈p.o.op.operands,∀ ann',ev st2 s ann' x=ev st s ann' x)→(if floats bs mk i=true then Pre ob0 st2.ob else Pre st.ob st2.ob)→∀ (R2:Type) (k2:V→St→Option R2),opStep P T st2 s (some (p.W.getD true)) p.ann p.o k2=k2 p.v st2
section
variable {P:Program} {T:FuncId→Option Sig} {R:Type} {N:Fr} {s:Nat} {bs mk:List Nat} {ob0:List Ob}
theorem opsD_trace (hT:∀ f sig,T f=some sig→Con P f sig) {k:List Ri→St→Option R} {r:R}:∀ {l:List Oper} {i:Nat} {ri:List Ri} {st:St},opsD P T N s bs mk ob0 k i l ri st=some r→Pre ob0 st.ob →
    ∃ ps:List Pz,ps.map (·.o)=l∧k (ri++ps.map riP) (runP s st ps)=some r∧∀ (j:Nat) (p:Pz),ps[j]?=some p→PzOk P T N s ob0 bs mk (runP s st (ps.take j)) (ri++(ps.take j).map riP) (i + j) p
  | [],i,ri,st,h,_=>⟨[],rfl,by simpa [runP,opsD] using h,fun j p hj=>by simp at hj⟩
  | o :: l,i,ri,st,h,hp=>by
    simp only [opsD] at h
    split at h
    case isFalse=>cases h
    rename_i hd
    split at h
    case h_2=>cases h
    rename_i W ann gi hg
    have fin:∀ (p:Pz),p.o=o→PzOk P T N s ob0 bs mk st ri i p→opsD P T N s bs mk ob0 k (i + 1) l (ri++[riP p]) (stepP s st p)=some r→Pre ob0 (stepP s st p).ob →
        ∃ ps:List Pz,ps.map (·.o)=o :: l∧k (ri++ps.map riP) (runP s st ps)=some r∧∀ (j:Nat) (p:Pz),ps[j]?=some p→PzOk P T N s ob0 bs mk (runP s st (ps.take j)) (ri++(ps.take j).map riP) (i + j) p:=by
      intro p ho hok h1 hp1
      obtain ⟨ps,e1,e2,e3⟩:=opsD_trace hT h1 hp1
      refine ⟨p :: ps,by simp [e1,ho],by simpa [run_cons] using e2,fun j q hq=>?_⟩
      cases j with
      | zero =>
        simp at hq
        subst hq
        simpa [runP] using hok
      | succ j =>
        have:=e3 j q (by simpa using hq)
        rw [show i + (j + 1)=i + 1 + j by omega]
        simpa [run_cons] using this
    split at h
    · rename_i hm
      split at h
      · split at h
        · rename_i hn
          obtain ⟨v,ob1,h1,h2,h3⟩:=opStep_makes h hp hn
          exact fin ⟨o,none,[],none,v,true,ob1⟩ rfl ⟨hd,hg,hm.symm,fun _=>⟨rfl,rfl,rfl,h2,h3⟩,fun hh=>by cases hh⟩ h1 (by rw [ob_step]; exact h2)
        · cases h
      · cases h
    · rename_i hm
      have hm:mk.any (Nat.beq i)=false:=Bool.eq_false_iff.2 hm
      split at h
      · rename_i hf
        obtain ⟨v,h1,h2⟩:=opStep_told hT h
        refine fin ⟨o,W,ann,gi,v,false,[]⟩ rfl ⟨hd,hg,hm.symm,(fun hh=>by cases hh),fun _ st2 he hpre R2 k2=>?_⟩ h1 (by rw [ob_step]; exact hp)
        rw [if_pos hf] at hpre
        exact h2 st2 he hpre R2 k2
      · rename_i hf
        obtain ⟨v,h1,h2⟩:=opStep_told hT h
        refine fin ⟨o,W,ann,gi,v,false,[]⟩ rfl ⟨hd,hg,hm.symm,(fun hh=>by cases hh),fun _ st2 he hpre R2 k2=>?_⟩ h1 (by rw [ob_step]; exact hp)
        rw [if_neg hf] at hpre
        exact h2 st2 he hpre R2 k2
end
theorem Inv.congr {B:Lim} {M:Nat→Prop} {w0 w:World} {N:Fr} {os:Array Oper} {s:Nat} {dn:List Nat} {st st2:St} {ri:List Ri} {fp:List (List Nat)} {a:Act} (I:Inv B M w0 N os s dn st ri w fp a) (h1:st.ob=st2.ob) (h2:st.dn=st2.dn) (h3:∀ t,look t st.tm=look t st2.tm):Inv B M w0 N os s dn st2 ri w fp a :=
  ⟨h1 ▸ I.hrel,fun t=>by rw [← h1,← h3]; exact I.slots t,fun t s' tj y u h=>I.stamps t s' tj y u (by rw [h3]; exact h),I.size,I.defers,I.pin,by rw [← h2]; exact I.dne,I.fresh,I.rok,I.at_⟩
theorem ev_of_look {st st2:St} {s:Nat} {l:List Operand} (h:∀ t,t∈tmpsOf l→look t st2.tm=look t st.tm):∀ x∈l,∀ ann',ev st2 s ann' x=ev st s ann' x:=by
  intro x hx ann'
  cases x with
  | tmp t=>simp only [ev]; rw [h t (List.mem_filterMap.2 ⟨_,hx,rfl⟩)]
  | _=>rfl
section
variable {P:Program} {T:FuncId→Option Sig} {N:Fr} {s:Nat} {os:Array Oper} {dn:List Nat} {B:Lim} {M:Nat→Prop} {w0:World} {st0:St} {ps:List Pz} {bs mk:List Nat}
theorem step_any {ob0:List Ob} (hpr0:Pre ob0 st0.ob) (hT:∀ f sig,T f=some sig→Con P f sig) (hps:∀ (j:Nat) (p:Pz),ps[j]?=some p→os[j]?=some p.o) (hok:∀ (j:Nat) (p:Pz),ps[j]?=some p→PzOk P T N s ob0 bs mk (runP s st0 (ps.take j)) ((ps.take j).map riP) j p)
    (hpre:∀ (j:Nat) (p:Pz),ps[j]?=some p→opOk bs mk (ps.map (·.o)) j p.o=true) {L:Nat→Bool} {i:Nat} {p:Pz} (hi:ps[i]?=some p) (hLi:L i=false) (hbef:∀ j,bef bs i j=true→L j=true) (haft:∀ j,L j=true→bef bs j i=false)
    {w:World} {fp:List (List Nat)} {a:Act} (I:Inv B M w0 N os s dn (runP s st0 (selP L 0 ps)) (riL L ps) w fp a) {K:Act→World→Prop} {Q:Exit→Act→World→Prop} {L':Nat→Bool} (hL':∀ j,L' j=if j=i then true else L j)
    (hK:∀ w' fp' v',Inv B M w0 N os s dn (runP s st0 (selP L' 0 ps)) (riL L' ps) w' fp' (a.put p.o.dst v')→K (a.put p.o.dst v') w'):wpOp P os Q i K a w:=by
  have hpi:=hok i p hi
  have hoi:=hpre i p hi
  simp only [opOk,Bool.and_eq_true] at hoi
  obtain ⟨⟨hslot,hgd⟩,hmk⟩:=hoi
  have hmko:∀ (c:Nat) (q:Pz),ps[c]?=some q→q.mkr=true→c∈mk:=by
    intro c q hq hm
    have:=(hok c q hq).mkr
    rw [hm] at this
    have:=this.symm
    rw [List.any_eq_true] at this
    obtain ⟨x,hx,hb⟩:=this
    rw [Nat.eq_of_beq_eq_true hb]
    exact hx
  have htk:∀ n,runP s st0 (ps.take n)=runP s st0 (selP (fun j=>decide (j < n)) 0 ps):=by
    intro n
    have:=sel_take ps 0 n
    simp only [Nat.zero_add] at this
    rw [this]
  -- distinct slots
  have hdist:∀ (j j':Nat) (q q':Pz),ps[j]?=some q→ps[j']?=some q'→j < j'→∀ t,q.o.dst=some t→q'.o.dst≠some t:=by
    intro j j' q q' hq hq' hlt t ht ht'
    have h1:=(hok j' q' hq').dst
    rw [ht'] at h1
    refine (dstOk_spec h1).2 (riP q) ?_ t ht rfl
    exact List.mem_map.2 ⟨q,List.mem_of_getElem? (by rw [List.getElem?_take_of_lt hlt]; exact hq),rfl⟩
  have hdist':∀ (j j':Nat) (q q':Pz),ps[j]?=some q→ps[j']?=some q'→j≠j'→∀ t,q.o.dst=some t→q'.o.dst≠some t:=by
    intro j j' q q' hq hq' hne t ht ht'
    rcases Nat.lt_or_gt_of_ne hne with h | h
    · exact hdist j j' q q' hq hq' h t ht ht'
    · exact hdist j' j q' q hq' hq h t ht' ht
  -- the operands
  have hlk:∀ t,t∈tmpsOf p.o.op.operands.toList→look t (runP s st0 (selP L 0 ps)).tm=look t (runP s st0 (ps.take i)).tm:=by
    intro t ht
    rw [htk]
    refine look_sel (fun j q hq hd=>?_) rfl
    rw [Nat.zero_add]
    have hm:(ps.map (·.o))[j]?=some q.o:=by rw [List.getElem?_map,hq]; rfl
    rcases slotOk_spec hslot j q.o hm t hd ht with h | ⟨h1,h2⟩ | ⟨h1,h2⟩
    · have:j=i:=by omega
      subst this
      rw [hLi]
      simp
    · rw [Nat.zero_add] at h1 h2
      rw [hbef j h2]
      simp [h1]
    · rw [Nat.zero_add] at h1 h2
      have:L j=false:=by
        cases hL:L j with
        | false=>rfl
        | true=>have:=haft j hL; rw [h2] at this; cases this
      rw [this]
      have:¬ j < i:=by omega
      simp [this]
  have hev:∀ x∈p.o.op.operands,∀ ann',ev (runP s st0 (selP L 0 ps)) s ann' x=ev (runP s st0 (ps.take i)) s ann' x:=fun x hx=>ev_of_look (l:=p.o.op.operands.toList) hlk x (by simpa using hx)
  -- the guard
  have hguard:guardOf (runP s st0 (selP L 0 ps)) s (riL L ps) p.o.guard=some (p.W,p.ann,p.gi):=by
    have h0:=hpi.guard
    cases hg:p.o.guard with
    | none=>rw [hg] at h0; exact h0
    | some g =>
      obtain ⟨j,want⟩:=g
      rw [hg] at h0 hgd
      simp only [Bool.and_eq_true,Nat.ble_eq] at hgd
      obtain ⟨hji,hb⟩:=hgd
      have hji:j < i:=hji
      have hLj:=hbef j hb
      have hj:j < ps.length:=by have:=lt_of_get hi; omega
      obtain ⟨q,hq⟩:∃ q,ps[j]?=some q:=⟨_,List.getElem?_eq_getElem hj⟩
      have e1:getAt (riL L ps) j=some (riP q):=by rw [getAt_eq,riL_get,hq]; simp [hLj]
      have e2:getAt ((ps.take i).map riP) j=some (riP q):=by rw [getAt_eq,List.getElem?_map,List.getElem?_take_of_lt hji,hq]; rfl
      simp only [guardOf,e1,e2] at h0 ⊢
      cases hqd:q.o.dst with
      | none=>simp [riP,hqd] at h0
      | some tj =>
        have e3:look tj (runP s st0 (selP L 0 ps)).tm=look tj (runP s st0 (ps.take i)).tm:=by
          rw [htk]
          refine look_sel (fun j' q' hq' hd=>?_) rfl
          rw [Nat.zero_add]
          by_cases hjj:j'=j
          · subst hjj; rw [hLj]; simp [hji]
          · exact absurd hd (hdist' j j' q q' hq hq' (fun h=>hjj h.symm) tj hqd)
        simp only [riP,hqd,e3] at h0 ⊢
        exact h0
  -- the list of what has come
  have hmem:∀ q∈riL L' ps,q∈riL L ps∨q=⟨p.o.dst,p.W,p.ann⟩:=by
    intro q hq
    obtain ⟨j,x,hx,rfl⟩:=riL_mem.1 hq
    by_cases hji:j=i
    · subst hji
      rw [hi] at hx
      cases hx
      right
      rw [hL',if_pos rfl,if_pos rfl]
      rfl
    · left
      rw [hL',if_neg hji]
      exact riL_mem.2 ⟨j,x,hx,rfl⟩
  have hkeep:∀ q∈riL L ps,q.dst≠none→q∈riL L' ps:=by
    intro q hq hd
    obtain ⟨j,x,hx,rfl⟩:=riL_mem.1 hq
    by_cases hji:j=i
    · subst hji
      rw [hLi] at hd
      exact absurd rfl hd
    · refine riL_mem.2 ⟨j,x,hx,?_⟩
      rw [hL',if_neg hji]
  have hat:∀ (j:Nat) (q:Ri),(riL L' ps)[j]?=some q→∀ t,q.dst=some t→∃ o',os[j]?=some o'∧o'.dst=some t:=by
    intro j q hq t ht
    rw [riL_get] at hq
    simp only [Option.map_eq_some_iff] at hq
    obtain ⟨x,hx,rfl⟩:=hq
    split at ht
    · exact ⟨x.o,hps j x hx,ht⟩
    · cases ht
  have hnew:∀ d,p.o.dst=some d→(d < N.n∧N.lo≤d)∧∀ q∈riL L ps,∀ t,q.dst=some t→d≠t:=by
    intro d hd
    have h1:=hpi.dst
    rw [hd] at h1
    refine ⟨(dstOk_spec h1).1,fun q hq t ht hdt=>?_⟩
    subst hdt
    obtain ⟨j,x,hx,rfl⟩:=riL_mem.1 hq
    split at ht
    · rename_i hLj
      have hji:j≠i:=by rintro rfl; rw [hLi] at hLj; cases hLj
      exact hdist' j i x p hx hi hji d ht hd
    · cases ht
  -- the state behind it
  have hlook:∀ (stx:St),stx.tm=(runP s st0 (selP L 0 ps)).tm→∀ t,look t (put1 stx p.o.dst p.gi s p.v).tm=look t (runP s st0 (selP L' 0 ps)).tm:=by
    intro stx htm t
    rw [look_put,htm]
    split
    · rename_i hd
      exact (look_at hi (by rw [Nat.zero_add,hL',if_pos rfl]) hd (fun j q hq hji=>hdist' i j p q hi hq (fun h=>hji h.symm) t hd)).symm
    · rename_i hd
      refine look_sel (fun j q hq hqd=>?_) rfl
      rw [Nat.zero_add]
      have:j≠i:=by
        rintro rfl
        rw [hi] at hq
        cases hq
        exact hd hqd
      rw [hL',if_neg this]
  have hdnx:∀ (stx:St),stx.dn=(runP s st0 (selP L 0 ps)).dn→(put1 stx p.o.dst p.gi s p.v).dn=(runP s st0 (selP L' 0 ps)).dn:=by
    intro stx h
    rw [(put1_ob _ _ _ _ _).2,h,dn_run,dn_run]
  cases hmb:p.mkr with
  | true =>
    obtain ⟨hW,hann,hgi,hpo,hmade⟩:=hpi.made hmb
    have hany:mk.any (Nat.beq i)=true:=by rw [← hpi.mkr]; exact hmb
    rw [if_pos hany] at hmk
    have hmk:=List.all_eq_true.1 hmk
    -- the makers come in their order
    have hchain:∀ (j:Nat) (q:Pz),ps[j]?=some q→q.mkr=true→j≠i→L j=decide (j < i):=by
      intro j q hq hm hji
      have hjm:=hmko j q hq hm
      by_cases hlt:j < i
      · have:=hmk j hjm
        simp only [Bool.or_eq_true,Nat.ble_eq] at this
        rcases this with h | h
        · omega
        · rw [hbef j h]; simp [hlt]
      · have hj:=hpre j q hq
        simp only [opOk,Bool.and_eq_true] at hj
        have hj:=hj.2
        have hanyj:mk.any (Nat.beq j)=true:=by rw [← (hok j q hq).mkr]; exact hm
        rw [if_pos hanyj] at hj
        have:=List.all_eq_true.1 hj i (hmko i p hi hmb)
        simp only [Bool.or_eq_true,Nat.ble_eq] at this
        have hLj:L j=false:=by
          rcases this with h | h
          · omega
          · cases hL:L j with
            | false=>rfl
            | true=>have:=haft j hL; rw [h] at this; cases this
        rw [hLj]
        simp [hlt]
    have hob:(runP s st0 (selP L 0 ps)).ob=(runP s st0 (ps.take i)).ob:=by
      rw [htk]
      refine ob_sel (fun j q hq hm=>?_) rfl
      rw [Nat.zero_add]
      by_cases hji:j=i
      · subst hji; rw [hLi]; simp
      · exact hchain j q hq hm hji
    have hob1:p.ob1=(runP s st0 (selP L' 0 ps)).ob:=by
      have e1:(runP s st0 (selP L' 0 ps)).ob=(runP s st0 (ps.take (i + 1))).ob:=by
        rw [htk]
        refine ob_sel (fun j q hq hm=>?_) rfl
        rw [Nat.zero_add,hL']
        by_cases hji:j=i
        · subst hji; simp
        · rw [if_neg hji,hchain j q hq hm hji]
          have:(j < i)=(j < i + 1):=by apply propext; omega
          simp [this]
      rw [e1]
      have e2:ps.take (i + 1)=ps.take i++[p] := by rw [List.take_add_one,hi]; rfl
      rw [e2,runP,List.foldl_append]
      simp only [List.foldl_cons,List.foldl_nil]
      rw [ob_step,if_pos hmb]
    have hrun:=hmade (runP s st0 (selP L 0 ps)) hev hob (V×St) (fun v st=>some (v,st))
    obtain ⟨v1,st1,h1,htmok,hchg,_⟩:=opStep_sound hT hrun
    simp only [Option.some.injEq,Prod.mk.injEq] at h1
    obtain ⟨rfl,rfl⟩:=h1
    have hwant:Region.wanted p.o (yielded os a.tmps)=true:=by
      rcases guard_spec I hguard with ⟨_,_,_,hw⟩ | ⟨tj,y,hW',_⟩
      · exact hw
      · rw [hW] at hW'; cases hW'
    simp only [wpOp,hps i p hi]
    rw [if_pos hwant]
    left
    refine hchg rfl a I.hrel (fun q hq=>by cases hq) (fun t _=>I.slots t) _ _ (fun v' w' fp' hH hadv hv=>hK w' fp' _ ?_)
    have I':=I.nextR (o:=p.o) (W:=none) (ann:=[]) (gi:=none) (v:=p.v) (v':=v') (ri':=riL L' ps) (fun q hq=>by cases hq) hnew (by rw [← hW,← hann]; exact hmem) hkeep hH hadv htmok (.inl ⟨rfl,hv⟩) (fun q hq=>by cases hq) hat
    refine I'.congr ?_ ?_ (fun t=>?_)
    · rw [(put1_ob _ _ _ _ _).1]; exact hob1
    · rw [← hgi]; exact hdnx _ rfl
    · rw [← hgi]; exact hlook { (runP s st0 (selP L 0 ps)) with ob:=p.ob1 } rfl t
  | false =>
    have hquiet:=hpi.quiet hmb
    have hany:mk.any (Nat.beq i)=false:=by rw [← hpi.mkr]; exact hmb
    rw [if_neg (by rw [hany]; simp)] at hmk
    have hpreob:if floats bs mk i=true then Pre ob0 (runP s st0 (selP L 0 ps)).ob else Pre (runP s st0 (ps.take i)).ob (runP s st0 (selP L 0 ps)).ob:=by
      by_cases hf:floats bs mk i=true
      · rw [if_pos hf]
        refine ob_pre (fun q hq hm=>?_) hpr0
        obtain ⟨j,hj⟩:=List.getElem?_of_mem hq
        exact ((hok j q hj).made hm).2.2.2.1
      · rw [if_neg hf]
        simp only [Bool.or_eq_true] at hmk
        have hmk:=List.all_eq_true.1 (hmk.resolve_left hf)
        have:(runP s st0 (selP L 0 ps)).ob=(runP s st0 (ps.take i)).ob:=by
          rw [htk]
          refine ob_sel (fun j q hq hm=>?_) rfl
          rw [Nat.zero_add]
          have:=hmk j (hmko j q hq hm)
          simp only [Bool.or_eq_true,Bool.and_eq_true,Nat.ble_eq] at this
          rcases this with ⟨h1,h2⟩ | ⟨h1,h2⟩
          · have h1:j < i:=h1
            rw [hbef j h2]; simp [h1]
          · have h1:i < j:=h1
            have:L j=false:=by
              cases hL:L j with
              | false=>rfl
              | true=>have:=haft j hL; rw [h2] at this; cases this
            rw [this]
            have:¬ j < i:=by omega
            simp [this]
        rw [this]
        exact Pre.refl _
    have hrun:=hquiet (runP s st0 (selP L 0 ps)) hev hpreob V (fun v _=>some v)
    obtain ⟨v1,st1,h1,_,_,hqu⟩:=opStep_sound hT hrun
    have h1:=Option.some.inj h1
    subst h1
    obtain ⟨rfl,hs⟩:=hqu (by simp)
    have hob':(runP s st0 (selP L 0 ps)).ob=(runP s st0 (selP L' 0 ps)).ob:=by
      refine ob_sel (fun j q hq hm=>?_) rfl
      rw [Nat.zero_add,hL']
      have:j≠i:=by
        rintro rfl
        rw [hi] at hq
        cases hq
        rw [hmb] at hm
        cases hm
      rw [if_neg this]
    have fin:∀ {w':World} {v':Value},Inv B M w0 N os s dn (put1 (runP s st0 (selP L 0 ps)) p.o.dst p.gi s p.v) (riL L' ps) w' fp (a.put p.o.dst v')→K (a.put p.o.dst v') w':=by
      intro w' v' I'
      refine hK w' fp _ (I'.congr ?_ ?_ (fun t=>?_))
      · rw [(put1_ob _ _ _ _ _).1]; exact hob'
      · exact hdnx _ rfl
      · exact hlook _ rfl t
    simp only [wpOp,hps i p hi]
    rcases guard_spec I hguard with ⟨hW,hann,hgi,hw⟩ | ⟨tj,y,hW,hgi,hin,hann,hyes,hno⟩
    · rw [if_pos hw]
      left
      refine hs (fun y hy=>by rw [hW] at hy; exact (Option.some.inj hy).symm) a I.hrel (by rw [hann]; exact fun q hq=>by cases hq) (fun t _=>I.slots t) _ _ (fun v' w' hb hv=>fin ?_)
      refine I.nextR (o:=p.o) (W:=p.W) (ann:=p.ann) (gi:=p.gi) (by rw [hW,hann]; exact fun q hq=>by cases hq) hnew hmem hkeep (I.hrel.ext hb) (fun _ _ _ _ hg=>grep_map (fun _ _ hu=>(Ext.of_below hb).crep hu) hg) (TmOk.refl _) (.inl ⟨hgi,hv⟩) (by rw [hann]; exact fun q hq=>by cases hq) hat
    · by_cases hw:Region.wanted p.o (yielded os a.tmps)=true
      · rw [if_pos hw]
        left
        refine hs (fun y hy=>by rw [hW] at hy; rw [← Option.some.inj hy]; exact hw) a I.hrel (hyes hw) (fun t _=>I.slots t) _ _ (fun v' w' hb hv=>fin ?_)
        refine I.nextR (o:=p.o) (W:=p.W) (ann:=p.ann) (gi:=p.gi) (by rw [hW,hw]; exact hyes hw) hnew hmem hkeep (I.hrel.ext hb) (fun _ _ _ _ hg=>grep_map (fun _ _ hu=>(Ext.of_below hb).crep hu) hg) (TmOk.refl _) (.inr ⟨tj,y,hgi,hin,fun _=>hv⟩) hann hat
      · have hw:Region.wanted p.o (yielded os a.tmps)=false:=by simpa using hw
        rw [if_neg (by rw [hw]; simp)]
        refine fin (w':=w) ?_
        refine I.nextR (o:=p.o) (W:=p.W) (ann:=p.ann) (gi:=p.gi) (by rw [hW,hw]) hnew hmem hkeep I.hrel (fun _ _ _ _ h=>h) (TmOk.refl _) (.inr ⟨tj,y,hgi,hin,fun h=>absurd h (hno hw)⟩) hann hat
end
end Go.Vm

namespace Go.Vm
variable [Amb]
open Go.RowKit (Below)
def hidB (B:Lim) (S:Nat→Prop):Lim:=⟨fun q=>B.K q∨S q,B.pv⟩
def hidM (M:Nat→Prop) (S:Nat→Prop):Nat→Prop:=fun q=>M q∧¬ S q
theorem hidB_none (B:Lim) {S:Nat→Prop} (h:∀ q,¬ S q):hidB B S=B:=by
  have:(fun q=>B.K q∨S q)=B.K:=by funext q; exact propext ⟨fun hq=>hq.resolve_right (h q),.inl⟩
  unfold hidB
  rw [this]
theorem hidM_none (M:Nat→Prop) {S:Nat→Prop} (h:∀ q,¬ S q):hidM M S=M:=by
  funext q
  exact propext ⟨fun hq=>hq.1,fun hq=>⟨hq,h q⟩⟩
section
variable {P:Program} {N:Fr} {os:Array Oper} {s:Nat} {dn:List Nat} {B:Lim} {M:Nat→Prop} {wb w:World} {st:St} {ri:List Ri} {fp:List (List Nat)} {a:Act} {S:Nat→Prop}
theorem alloc_run {ρ:Operand→Value} {o:Oper} {t:TypeId} {us:List V} (ho:o.op=.alloc t) (hz:zeroCells P t=some us) (w:World) :
    ∃ c:Array Value,(execOp ρ o).run P w=.ok (.value (.pointer (some ⟨w.heap.size,0,none⟩))) (w.alloc (.cells c t))∧∀ cx:Cx,All2 (crep cx) c.toList us:=by
  unfold zeroCells at hz
  split at hz
  · rename_i i hi
    split at hz
    · rename_i v hv
      split at hz
      · rename_i h1
        have hz:=Option.some.inj hz
        subst hz
        refine ⟨v.cells,?_,fun cx=>⟨by simp,fun j x y hx hy=>?_⟩⟩
        · have hzr:(zeroValue t).run P w=.ok v w:=by simp [zeroValue,run_typeInfo w hi,hv]
          simp only [execOp,ho,Instr.alloc,Sem.run_bind,hzr,Result.andThen_ok,newVar,newRow,run_newObj,Sem.run_pure]
          rfl
        · simp only [List.getElem?_map,Option.map_eq_some_iff] at hy
          obtain ⟨z,hz,rfl⟩:=hy
          rw [hx] at hz
          have e:=Option.some.inj hz
          subst e
          exact ofValue_rel (oneB_iff (List.all_eq_true.1 h1 _ (List.mem_of_getElem? hx)))
      · cases hz
    · cases hz
  · cases hz
theorem hide_mv (H:Hrel (hidB B S) (hidM M S) wb w st.ob fp) (o:Obj):Mv (cxOf (hidB B S) (hidM M S) w st.ob fp) (cxOf (hidB B (fun q=>S q∨q=w.heap.size)) (hidM M (fun q=>S q∨q=w.heap.size)) (w.alloc o) st.ob fp):=by
  have hbel:Below w.heap.size w (w.alloc o):=(Below.refl _ _).alloc (Nat.le_refl _) _
  refine ⟨fun b hb hi=>⟨⟨Nat.lt_of_lt_of_le hb hbel.size,fun hk=>?_,hi.2.2⟩,hbel.block b hb⟩,fun id o' bs ho hf=>.inl ⟨ho,hf,fun q hq=>hbel.block q (H.ge q (List.mem_flatten.2 ⟨bs,List.mem_of_getElem? hf,hq⟩)).2⟩⟩
  have hb:b < w.heap.size:=hb
  have hne:b≠w.heap.size:=Nat.ne_of_lt hb
  have hk':(hidB B S).K b:=by
    rcases hk with h | h | h
    · exact .inl h
    · exact .inr h
    · exact absurd h hne
  have hm:=hi.2.1 hk'
  exact ⟨hm.1,fun h=>h.elim hm.2 hne⟩
theorem hide_hrel (H:Hrel (hidB B S) (hidM M S) wb w st.ob fp) (o:Obj):Hrel (hidB B (fun q=>S q∨q=w.heap.size)) (hidM M (fun q=>S q∨q=w.heap.size)) (w.alloc o) (w.alloc o) st.ob fp:=by
  have hbel:Below w.heap.size w (w.alloc o):=(Below.refl _ _).alloc (Nat.le_refl _) _
  have hsz:(w.alloc o).heap.size=w.heap.size + 1:=by
    show (w.heap.push _).size=_
    simp
  have m:=hide_mv H o
  refine ⟨H.len,H.nd,fun b hb=>⟨fun hk=>?_,Nat.lt_of_lt_of_le (H.ge b hb).2 hbel.size⟩,fun id o' bs ho hf=>?_,Bel.refl _ _,fun b hk=>?_,Amb.below H.am hbel,fun b hg=>(H.amb.2 b hg).imp id .inl⟩
  · rcases hk with h | h | h
    · exact (H.ge b hb).1 (.inl h)
    · exact (H.ge b hb).1 (.inr h)
    · have:=(H.ge b hb).2; omega
  · exact m.orep H.rows (H.ob id o' bs ho hf) (fun q hq=>hbel.block q (H.ge q (List.mem_flatten.2 ⟨bs,List.mem_of_getElem? hf,hq⟩)).2)
  · rcases hk with h | h | h
    · have:=H.size b (.inl h); omega
    · have:=H.size b (.inr h); omega
    · omega
theorem hide_step (I:Inv (hidB B S) (hidM M S) wb N os s dn st ri w fp a) {d:Nat} {v:Value} (hd:d < N.n∧N.lo≤d) (hne:∀ q∈ri,∀ t,q.dst=some t→d≠t) (hany:look d st.tm=.any) (o:Obj) :
    Inv (hidB B (fun q=>S q∨q=w.heap.size)) (hidM M (fun q=>S q∨q=w.heap.size)) (w.alloc o) N os s dn st ri (w.alloc o) fp (a.put (some d) v):=by
  have m:=hide_mv I.hrel o
  have hsz:d < a.tmps.size:=by rw [I.size]; exact hd.1
  refine ⟨hide_hrel I.hrel o,fun t=>?_,I.stamps,by simp [Act.put,I.size],I.defers,fun t v ht hp=>(put_getD_ne (fun he=>Nat.lt_irrefl t (Nat.lt_of_lt_of_le ht (Nat.le_trans hd.2 (Nat.le_of_eq he))))).trans (I.pin t v ht hp),I.dne,I.fresh,fun q hq=>?_,I.at_⟩
  · by_cases ht:d=t
    · subst ht
      rw [hany]
      trivial
    · rw [put_getD_ne ht]
      refine grep_put (grep_map (fun _ _ hu=>m.crep I.hrel.rows hu) (I.slots t)) (fun s' tj y u' he hs=>?_)
      rcases I.stamps t s' tj y u' he with h | ⟨_,q,hq,hqd⟩
      · subst hs; exact absurd h I.fresh
      · exact hne q hq tj hqd
  · obtain ⟨h1,h2⟩:=I.rok q hq
    refine ⟨?_,h2⟩
    have hAnn:AnnOk a q.ann→AnnOk (a.put (some d) v) q.ann:=fun h=>annOk_put h (fun p hp=>by
      obtain ⟨q',h3,h4⟩:=h2 p hp
      exact hne q' h3 _ h4)
    revert h1
    cases q.W with
    | none=>exact hAnn
    | some y=>cases y with
      | true=>exact hAnn
      | false=>exact fun h t ht=>by rw [put_getD_ne (hne q hq t ht)]; exact h t ht
theorem show_step (I:Inv (hidB B S) (hidM M S) wb N os s dn st ri w fp a) {o:Oper} {d b:Nat} {t:TypeId} {c:Array Value} {us:List V} (hG:∀ q,Amb.G q→B.K q) (hS:S b) (hB:¬ B.K b) (hb:w.heap[b]?=some (.cells c t (0,0))) (hc:∀ cx:Cx,All2 (crep cx) c.toList us)
    (hd:d < N.n∧N.lo≤d) (hne:∀ q∈ri,∀ t,q.dst=some t→d≠t) (hv:a.tmps.getD d undef=.pointer (some ⟨b,0,none⟩)) (ho:os[ri.length]?=some o) (hod:o.dst=some d) :
    Inv (hidB B (fun q=>S q∧q≠b)) (hidM M (fun q=>S q∧q≠b)) wb N os s dn (put1 (alloc st us).2 (some d) none s (alloc st us).1) (ri++[⟨some d,none,[]⟩]) w (fp++[[b]]) a:=by
  have H:=I.hrel
  have hbf:b∉fp.flatten:=fun hm=>(H.ge b hm).1 (.inr hS)
  have hbw:b < w.heap.size:=lt_of_block hb
  have hob:(put1 (alloc st us).2 (some d) none s (alloc st us).1).ob=st.ob++[.box us] := by
    rw [(put1_ob _ _ _ _ _).1]; rfl
  have hdn:(put1 (alloc st us).2 (some d) none s (alloc st us).1).dn=st.dn:=(put1_ob _ _ _ _ _).2
  have hlook:∀ x,look x (put1 (alloc st us).2 (some d) none s (alloc st us).1).tm=if d=x then .pt st.ob.length 0 0 else look x st.tm:=by
    intro x
    rw [look_put]
    by_cases h:d=x
    · subst h; rw [if_pos rfl,if_pos rfl]; rfl
    · rw [if_neg (by simpa using h),if_neg h]; rfl
  have m:Mv (cxOf (hidB B S) (hidM M S) w st.ob fp) (cxOf (hidB B (fun q=>S q∧q≠b)) (hidM M (fun q=>S q∧q≠b)) w (st.ob++[.box us]) (fp++[[b]])):=by
    refine ⟨fun q hq hi=>⟨⟨hi.1,fun hk=>?_,fun id o' bs ho' hf hl hm=>?_⟩,rfl⟩,fun id o' bs ho' hf=>.inl ⟨?_,?_,fun _ _=>rfl⟩⟩
    · have hk':(hidB B S).K q:=hk.imp id (fun h=>h.1)
      have:=hi.2.1 hk'
      exact ⟨this.1,fun h=>this.2 h.1⟩
    · by_cases hid:id < st.ob.length
      · rw [List.getElem?_append_left hid] at ho'
        rw [List.getElem?_append_left (by rw [H.len]; exact hid)] at hf
        exact hi.2.2 id o' bs ho' hf hl hm
      · rw [List.getElem?_append_right (by rw [H.len]; omega)] at hf
        have hbs:bs=[b] := by
          have hm':=List.mem_of_getElem? hf
          simpa using hm'
        subst hbs
        have hqb:q=b:=by simpa using hm
        subst hqb
        have:=hi.2.1 (.inr hS)
        exact this.2 hS
    · have h1:st.ob[id]?=some o':=ho'
      show (st.ob++[Ob.box us])[id]?=some o'
      rw [List.getElem?_append_left (lt_of_get h1)]
      exact h1
    · have h1:fp[id]?=some bs:=hf
      show (fp++[[b]])[id]?=some bs
      rw [List.getElem?_append_left (lt_of_get h1)]
      exact h1
  have hrel:Hrel (hidB B (fun q=>S q∧q≠b)) (hidM M (fun q=>S q∧q≠b)) wb w (st.ob++[.box us]) (fp++[[b]]):=by
    refine ⟨by simp [H.len],?_,fun q hq=>?_,fun id o' bs ho' hf=>?_,⟨H.below.os,H.below.tape,H.below.output,H.below.size,fun k hk=>H.below.block k (hk.imp id (fun h=>h.1))⟩,(fun q hk=>H.size q (hk.imp id (fun h=>h.1))),H.amb.1,fun q hg=>.inl (hG q hg)⟩
    · rw [List.flatten_append,List.nodup_append]
      refine ⟨H.nd,by simp,fun p hp r hr he=>?_⟩
      subst he
      have:p=b:=by simpa using hr
      subst this
      exact hbf hp
    · rw [List.flatten_append,List.mem_append] at hq
      rcases hq with hq | hq
      · exact ⟨fun hk=>(H.ge q hq).1 (hk.imp id (fun h=>h.1)),(H.ge q hq).2⟩
      · have:q=b:=by simpa using hq
        subst this
        exact ⟨fun hk=>hk.elim hB (fun h=>h.2 rfl),hbw⟩
    · by_cases hid:id < st.ob.length
      · rw [List.getElem?_append_left hid] at ho'
        rw [List.getElem?_append_left (by rw [H.len]; exact hid)] at hf
        exact m.orep H.rows (H.ob id o' bs ho' hf) (fun _ _=>rfl)
      · have hidl:id=st.ob.length:=by
          have:=lt_of_get ho'
          simp at this
          omega
        subst hidl
        rw [List.getElem?_append_right (Nat.le_refl _),Nat.sub_self] at ho'
        rw [List.getElem?_append_right (by rw [H.len]; exact Nat.le_refl _),H.len,Nat.sub_self] at hf
        simp at ho' hf
        subst ho'
        subst hf
        exact ⟨b,c,t,rfl,hb,hc _⟩
  refine ⟨by rw [hob]; exact hrel,fun x=>?_,fun x s' tj y u h=>?_,I.size,I.defers,I.pin,hdn.trans I.dne,I.fresh,fun q hq=>?_,fun j q hq x hx=>?_⟩
  · rw [hob,hlook]
    by_cases h:d=x
    · subst h
      rw [if_pos rfl,hv]
      refine grep_not_g (trep_of_vrep (vrep_of_crep ?_))
      refine ⟨.box us,[b],?_,?_,rfl,b,rfl,rfl⟩
      · show (st.ob++[Ob.box us])[st.ob.length]?=_
        simp
      · show (fp++[[b]])[st.ob.length]?=_
        rw [← H.len]
        simp
    · rw [if_neg h]
      exact grep_map (fun _ _ hu=>m.crep H.rows hu) (I.slots x)
  · rw [hlook] at h
    split at h
    · cases h
    · rcases I.stamps x s' tj y u h with h | ⟨h1,q,hq,hqd⟩
      · exact .inl h
      · exact .inr ⟨h1,q,by simp [hq],hqd⟩
  · rcases List.mem_append.1 hq with hq | hq
    · obtain ⟨h1,h2⟩:=I.rok q hq
      exact ⟨h1,fun p hp=>by obtain ⟨q',h3,h4⟩:=h2 p hp; exact ⟨q',by simp [h3],h4⟩⟩
    · have:q=⟨some d,none,[]⟩:=by simpa using hq
      subst this
      refine ⟨?_,fun p hp=>?_⟩
      · intro p hp
        exact absurd hp (by simp)
      · exact absurd hp (by simp)
  · by_cases hj:j < ri.length
    · rw [List.getElem?_append_left hj] at hq
      exact I.at_ j q hq x hx
    · rw [List.getElem?_append_right (by omega)] at hq
      have hjl:j=ri.length:=by
        have:=lt_of_get hq
        simp at this
        omega
      subst hjl
      simp at hq
      subst hq
      have hx:some d=some x:=hx
      exact ⟨o,ho,by rw [hod]; exact hx⟩
theorem Inv.bare (I:Inv (hidB B S) (hidM M S) wb N os s dn st ri w fp a) (hS:∀ q,¬ S q) {w0:World} (hw:Bel B w0 wb) (hA:Amb.A w0):Inv B M w0 N os s dn st ri w fp a:=by
  rw [hidB_none B hS,hidM_none M hS] at I
  exact ⟨⟨I.hrel.len,I.hrel.nd,I.hrel.ge,I.hrel.ob,hw.trans I.hrel.below,I.hrel.size,hA,I.hrel.amb.2⟩,I.slots,I.stamps,I.size,I.defers,I.pin,I.dne,I.fresh,I.rok,I.at_⟩
end
end Go.Vm

namespace Go.Vm
variable [Amb]
open Go.RowKit (Below)
theorem getD_both {l:Array Bool} {i:Nat} (h:l.getD i true=false):l.getD i false=false:=by
  rcases Nat.lt_or_ge i l.size with h' | h'
  · simp [h'] at h ⊢; exact h
  · simp [Array.getElem?_eq_none h'] at h
theorem getD_put {l:Array Bool} {i:Nat} (hi:i < l.size) (j:Nat):(l.setIfInBounds i true).getD j false=if j=i then true else l.getD j false:=by
  simp only [Array.getD_eq_getD_getElem?,Array.getElem?_setIfInBounds]
  by_cases h:i=j
  · subst h; simp [hi]
  · rw [if_neg h,if_neg (fun h'=>h h'.symm)]
theorem fm_nodup {f:Oper→Option Nat}:∀ {l:List Oper},(l.filterMap f).Nodup→∀ (j j':Nat) (o o':Oper) (d:Nat),l[j]?=some o→l[j']?=some o'→f o=some d→f o'=some d→j=j'
  | [],_,j,_,_,_,_,h,_,_,_=>by simp at h
  | x :: l,hn,j,j',o,o',d,h,h',hd,hd'=>by
    have mem:∀ {q:Nat} {y:Oper},l[q]?=some y→f y=some d→d∈l.filterMap f:=fun hq hy=>List.mem_filterMap.2 ⟨_,List.mem_of_getElem? hq,hy⟩
    have tl:(l.filterMap f).Nodup:=by
      rw [List.filterMap_cons] at hn
      split at hn
      · exact hn
      · exact (List.nodup_cons.1 hn).2
    cases j with
    | zero =>
      cases j' with
      | zero=>rfl
      | succ j' =>
        simp at h h'
        subst h
        rw [List.filterMap_cons,hd] at hn
        exact absurd (mem h' hd') (List.nodup_cons.1 hn).1
    | succ j =>
      cases j' with
      | zero =>
        simp at h h'
        subst h'
        rw [List.filterMap_cons,hd'] at hn
        exact absurd (mem h hd) (List.nodup_cons.1 hn).1
      | succ j' =>
        have:=fm_nodup tl j j' o o' d (by simpa using h) (by simpa using h') hd hd'
        omega
structure Late (P:Program) (N:Fr) (st:St) (o:Oper) (t:TypeId) (d:Nat) (us:List V):Prop where
  op:o.op=.alloc t
  guard:o.guard=none
  dst:o.dst=some d
  zero:zeroCells P t=some us
  lt:d < N.n∧N.lo≤d
  any:look d st.tm=.any
theorem late_spec {P:Program} {N:Fr} {st:St} {o:Oper} (h:lateOp P N st o=true):∃ t d us,Late P N st o t d us:=by
  unfold lateOp at h
  split at h
  case h_2=>cases h
  rename_i t d ho hg hd
  simp only [Bool.and_eq_true,Nat.ble_eq] at h
  obtain ⟨⟨hz,h1,h2⟩,h3⟩:=h
  obtain ⟨us,hus⟩:=Option.isSome_iff_exists.1 hz
  refine ⟨t,d,us,ho,hg,hd,hus,⟨by omega,h2⟩,?_⟩
  split at h3
  · assumption
  · cases h3
theorem lateN_spec {P:Program} {N:Fr} {st:St}:∀ (l:List Oper),lateN P N st l≤l.length∧∀ j o,j < lateN P N st l→l[j]?=some o→lateOp P N st o=true
  | [] => ⟨Nat.le_refl _,fun j o h=>by simp [lateN] at h⟩
  | x :: l=>by
    obtain ⟨h1,h2⟩:=lateN_spec (P:=P) (N:=N) (st:=st) l
    simp only [lateN]
    split
    · rename_i hx
      refine ⟨by simp; exact h1,fun j o hj hjo=>?_⟩
      cases j with
      | zero=>simp at hjo; subst hjo; exact hx
      | succ j=>exact h2 j o (by omega) (by simpa using hjo)
    · exact ⟨by simp,fun j o hj=>by omega⟩
theorem cut_spec {P:Program} {N:Fr} {st:St} {os:List Oper} {m:Nat} (hm:m≤os.length):cutAt P N st os m≤m∧(∀ j,cutAt P N st os m≤j→j < m→∃ o t d us,os[j]?=some o∧Late P N st o t d us) ∧
    (cutAt P N st os m < m→∀ (j j':Nat) (o o':Oper) (d:Nat),j < m→j' < m→os[j]?=some o→os[j']?=some o'→o.dst=some d→o'.dst=some d→j=j'):=by
  unfold cutAt
  split
  · rename_i hn
    obtain ⟨h1,h2⟩:=lateN_spec (P:=P) (N:=N) (st:=st) (os.take m).reverse
    have hl:(os.take m).reverse.length=m:=by simp [hm]
    refine ⟨by omega,fun j hj hjm=>?_,fun _ j j' o o' d hj hj' ho ho' hd hd'=>?_⟩
    · have hjo:os[j]?=some os[j] := List.getElem?_eq_getElem (by omega)
      refine ⟨os[j],?_⟩
      have hr:(os.take m).reverse[m - 1 - j]?=some os[j] := by
        rw [List.getElem?_reverse (by simp [hm]; omega)]
        have e:(os.take m).length - 1 - (m - 1 - j)=j:=by simp [hm]; omega
        rw [e,List.getElem?_take_of_lt hjm]
        exact hjo
      obtain ⟨t,d,us,hL⟩:=late_spec (h2 (m - 1 - j) _ (by omega) hr)
      exact ⟨t,d,us,hjo,hL⟩
    · exact fm_nodup (nodupB_spec hn) j j' o o' d (by rw [List.getElem?_take_of_lt hj]; exact ho) (by rw [List.getElem?_take_of_lt hj']; exact ho') hd hd'
  · exact ⟨Nat.le_refl _,fun j hj hjm=>by omega,fun h=>by omega⟩
theorem sel_congr {L L':Nat→Bool}:∀ {ps:List Pz} {k:Nat},(∀ j,j < ps.length→L (k + j)=L' (k + j))→selP L k ps=selP L' k ps
  | [],_,_=>rfl
  | p :: ps,k,h=>by
    have h0:=h 0 (by simp)
    simp only [Nat.add_zero] at h0
    have ih:selP L (k + 1) ps=selP L' (k + 1) ps:=sel_congr (fun j hj=>by
      rw [show k + 1 + j=k + (j + 1) by omega]
      exact h (j + 1) (by simpa using hj))
    simp only [selP,h0,ih]
theorem riL_congr {L L':Nat→Bool} {ps:List Pz} (h:∀ j,j < ps.length→L j=L' j):riL L ps=riL L' ps:=by
  apply List.ext_getElem?
  intro j
  rw [riL_get,riL_get]
  cases hp:ps[j]? with
  | none=>rfl
  | some p=>simp [h j (lt_of_get hp)]
def sofL (m0 m:Nat) (listed:Array Bool) (hb:Nat→Nat) (q:Nat):Prop:=∃ j,m0≤j∧j < m∧listed.getD j false=true∧hb j=q
section
variable {P:Program} {T:FuncId→Option Sig} {R:Type} {N:Fr} {s:Nat} {os:Array Oper} {B:Lim} {M:Nat→Prop} {w0 w:World} {st:St} {fp:List (List Nat)} {a:Act}
theorem drawn_sound (hm:P.follows .mixedOrders=true) (hT:∀ f sig,T f=some sig→Con P f sig) {k:Exit→St→Option R} {r:R} {Q:Exit→Act→World→Prop} (hs:s∉st.dn)
    (h:drawn P T N s (fun st=>k .normal { st with dn:=s :: st.dn }) os.toList st=some r) (I:Rel B M w0 N st w fp a)
    (hk:∀ (e:Exit) (st':St) (w':World) (fp':List (List Nat)) (a':Act),k e st'=some r→Rel B M w0 N st' w' fp' a'→Q e a' w'):(Code.region s os true).wp P Q a w:=by
  unfold drawn at h
  split at h
  case isFalse=>cases h
  rename_i hac
  unfold drawnB drawnM drawnAt at h
  split at h
  case isFalse=>cases h
  rename_i hpre
  obtain ⟨hsp1,hsp2⟩:=tailAt_spec (befs [] os.toList) 0 0 (Nat.le_refl _) _ rfl
  obtain ⟨br,hbr1,hbr2,hbr3⟩:=befs_spec os.toList []
  simp only [List.nil_append] at hbr1
  have hbl:(befs [] os.toList).length=os.size:=by rw [hbr1,hbr2]; simp
  have hfull:∀ i,i < os.size→tailAt 0 0 (befs [] os.toList)≤i→∀ q,q < i→bef (befs [] os.toList) i q=true:=by
    intro i hi hmi q hq
    have hb:(befs [] os.toList)[i]?=some (befs [] os.toList)[i] := List.getElem?_eq_getElem (by omega)
    have:=hsp2 i _ hb (by omega) q (by omega)
    unfold bef
    rw [getAt_eq,hb]
    exact this
  have hmn:tailAt 0 0 (befs [] os.toList)≤os.size:=by have:=hsp1.2; omega
  obtain ⟨hm0,hlate,hdd⟩:=cut_spec (P:=P) (N:=N) (st:=st) (os:=os.toList) (m:=tailAt 0 0 (befs [] os.toList)) (by simpa using hmn)
  generalize cutAt P N st os.toList (tailAt 0 0 (befs [] os.toList))=m0 at *
  generalize hmm:tailAt 0 0 (befs [] os.toList)=m at *
  generalize hbs:befs [] os.toList=bs at *
  generalize mkFix bs (os.toList.take m0) (mksOf T 0 (os.toList.take m0))=mk at *
  have hpr:Pre (hide st.tm (os.toList.take m0) (os.toList.take m0) st.ob) st.ob:=Pre.hide (Pre.refl _)
  generalize hide st.tm (os.toList.take m0) (os.toList.take m0) st.ob=ob0 at *
  obtain ⟨ps,hp1,hp2,hp3⟩:=opsD_trace hT h hpr
  simp only [List.nil_append,Nat.zero_add] at hp2 hp3
  have hlen:ps.length=m0:=by
    have:=congrArg List.length hp1
    simp at this
    omega
  have hget:∀ j,j < m0→os[j]?=ps[j]?.map (·.o):=by
    intro j hj
    have e:(ps.map (·.o))[j]?=(os.toList.take m0)[j]? := by rw [hp1]
    rw [List.getElem?_map,List.getElem?_take_of_lt hj] at e
    rw [e]
    simp
  have hps:∀ (j:Nat) (p:Pz),ps[j]?=some p→os[j]?=some p.o:=by
    intro j p hj
    rw [hget j (by have:=lt_of_get hj; omega),hj]
    rfl
  have hpo:∀ (j:Nat) (p:Pz),ps[j]?=some p→opOk bs mk (ps.map (·.o)) j p.o=true:=by
    intro j p hj
    have hjm:j < m0:=by have:=lt_of_get hj; omega
    have:=preOk_spec hpre j p.o (by rw [List.getElem?_take_of_lt hjm]; simpa using hps j p hj)
    rw [hp1]
    simpa using this
  have hla:∀ j,m0≤j→j < m→∃ o t d us,os[j]?=some o∧Late P N st o t d us:=fun j h1 h2=>by
    obtain ⟨o,t,d,us,h3,h4⟩:=hlate j h1 h2
    exact ⟨o,t,d,us,by simpa using h3,h4⟩
  have hdi:m0 < m→∀ (j j':Nat) (o o':Oper) (d:Nat),j < m→j' < m→os[j]?=some o→os[j']?=some o'→o.dst=some d→o'.dst=some d→j=j':=fun hlt j j' o o' d h1 h2 h3 h4=>hdd hlt j j' o o' d h1 h2 (by simpa using h3) (by simpa using h4)
  -- what was set aside is taken up,and the rest comes in its order
  have reveal:∀ (hb:Nat→Nat) (wb w:World) (a:Act),Bel B w0 wb →
      (∀ j j',m0≤j→j < m→m0≤j'→j' < m→hb j=hb j'→j=j') →
      (∀ j,m0≤j→j < m→¬ B.K (hb j)∧∃ o t d c us,os[j]?=some o∧Late P N st o t d us∧w.heap[hb j]?=some (.cells c t (0,0))∧(∀ cx:Cx,All2 (crep cx) c.toList us)∧a.tmps.getD d undef=.pointer (some ⟨hb j,0,none⟩)) →
      ∀ (n j:Nat) (S:Nat→Prop) (st':St) (ri':List Ri) (fp':List (List Nat)),j + n=m→m0≤j→ri'.length=j→ops P T N false s (fun st=>k .normal { st with dn:=s :: st.dn }) (os.toList.drop j) ri' st'=some r →
        (∀ q,S q↔∃ x,j≤x∧x < m∧hb x=q)→Inv (hidB B S) (hidM M S) wb N os s st.dn st' ri' w fp' a→wpOps P os Q (List.range' m (os.size - m)) a w:=by
    intro hb wb w a hbel hinj hfact n
    induction n with
    | zero =>
      intro j S st' ri' fp' hjn hj hri hops hS I'
      have hjm:j=m:=by omega
      subst hjm
      have hno:∀ q,¬ S q:=fun q hq=>by
        obtain ⟨x,h1,h2,_⟩:=(hS q).1 hq
        omega
      have I0:=I'.bare hno hbel I.hrel.amb.1
      have:=ops_sound (os:=os) (dn:=st.dn) hT (Q:=Q) (fun st' ri' w' fp' a' h1 I'=>hk .normal _ w' fp' a' h1 I'.stop) (os.toList.drop j) hops (by rw [hri]) I0
      simpa [hri] using this
    | succ n ih =>
      intro j S st' ri' fp' hjn hj hri hops hS I'
      obtain ⟨hnB,o,t,d,c,us,ho,hL,hheap,hcells,htmp⟩:=hfact j hj (by omega)
      have hjs:j < os.toList.length:=by have:=(Array.getElem?_eq_some_iff.1 ho).1; simpa using this
      have hdrop:os.toList.drop j=o :: os.toList.drop (j + 1):=by
        rw [List.drop_eq_getElem_cons hjs]
        congr 1
        have:=(Array.getElem?_eq_some_iff.1 ho).2
        simpa using this
      rw [hdrop] at hops
      simp only [ops] at hops
      split at hops
      case isFalse=>cases hops
      rename_i hdok
      rw [hL.dst] at hdok
      obtain ⟨hd1,hd2⟩:=dstOk_spec hdok
      rw [show guardOf st' s ri' o.guard=some (none,[],none) by rw [hL.guard]; rfl] at hops
      simp only [Bool.false_eq_true,if_false] at hops
      rw [show preF T st' s none [] o=st' by simp only [preF,hL.op]] at hops
      have hstep:opStep P T st' s none [] o (fun v st''=>ops P T N false s (fun st=>k .normal { st with dn:=s :: st.dn }) (os.toList.drop (j + 1)) (ri'++[⟨o.dst,none,[]⟩]) (put1 st'' o.dst none s v))=ops P T N false s (fun st=>k .normal { st with dn:=s :: st.dn }) (os.toList.drop (j + 1)) (ri'++[⟨o.dst,none,[]⟩]) (put1 (alloc st' us).2 o.dst none s (alloc st' us).1):=by
        simp only [opStep,hL.op,hL.zero]
      rw [hstep,hL.dst] at hops
      have I1:=show_step (us:=us) I' I.hrel.amb.2 ((hS (hb j)).2 ⟨j,Nat.le_refl _,by omega,rfl⟩) hnB hheap hcells hd1 hd2 htmp (by rw [hri]; exact ho) hL.dst
      refine ih (j + 1) _ _ _ _ (by omega) (by omega) (by simp [hri]) hops (fun q=>?_) I1
      constructor
      · rintro ⟨hq,hne⟩
        obtain ⟨x,h1,h2,h3⟩:=(hS q).1 hq
        refine ⟨x,?_,h2,h3⟩
        by_cases hxj:x=j
        · subst hxj; exact absurd h3.symm hne
        · omega
      · rintro ⟨x,h1,h2,h3⟩
        refine ⟨(hS q).2 ⟨x,by omega,h2,h3⟩,fun hq=>?_⟩
        have:=hinj x j (by omega) h2 hj (by omega) (h3.trans hq)
        omega
  have hbin:∀ {L:Nat→Prop},(∀ (j:Nat) (o:Oper),os.toList[j]?=some o→L j→∀ e∈o.after,Region.binds .any e=true→L e.on)→∀ (i:Nat) (o:Oper),os.toList[i]?=some o→(∀ e∈o.after,Region.binds .any e=true→L e.on) →
      ∀ j,bef bs i j=true→L j:=by
    intro L h1 i o h2 h3 j hj
    rw [← hbs] at hj
    exact bef_in h1 i o h2 h3 j hj
  refine wp_region_any hm ?_
  let PhA:Array Bool→Act→World→Prop:=fun listed a w=>∃ (hb:Nat→Nat) (wb:World) (fp:List (List Nat)),Bel B w0 wb ∧
      (∀ j j',m0≤j→j < m→m0≤j'→j' < m→listed.getD j false=true→listed.getD j' false=true→hb j=hb j'→j=j') ∧
      (∀ j,m0≤j→j < m→listed.getD j false=true→¬ B.K (hb j)∧∃ o t d c us,os[j]?=some o∧Late P N st o t d us∧wb.heap[hb j]?=some (.cells c t (0,0))∧(∀ cx:Cx,All2 (crep cx) c.toList us)∧a.tmps.getD d undef=.pointer (some ⟨hb j,0,none⟩)) ∧
      Inv (hidB B (sofL m0 m listed hb)) (hidM M (sofL m0 m listed hb)) wb N os s st.dn (runP s st (selP (fun j=>listed.getD j false) 0 ps)) (riL (fun j=>listed.getD j false) ps) w fp a
  have held:∀ {listed:Array Bool} {hb:Nat→Nat} {wb w:World} {st':St} {ri':List Ri} {fp:List (List Nat)} {a:Act},Inv (hidB B (sofL m0 m listed hb)) (hidM M (sofL m0 m listed hb)) wb N os s st.dn st' ri' w fp a→∀ j,m0≤j→j < m→listed.getD j false=true→w.heap[hb j]?=wb.heap[hb j]? :=
    fun I' j h1 h2 h3=>I'.hrel.below.block _ (.inr ⟨j,h1,h2,h3,rfl⟩)
  have tailW:∀ (listed:Array Bool) (a:Act) (w:World),PhA listed a w→(∀ j,j < m→listed.getD j false=true)→wpOps P os Q (List.range' m (os.size - m)) a w:=by
    rintro listed a w ⟨hb,wb,fp,hbel,hinj,hfact,I'⟩ hall
    have hst:runP s st (selP (fun j=>listed.getD j false) 0 ps)=runP s st ps:=by rw [sel_all (fun j hj=>by rw [Nat.zero_add]; exact hall j (by omega))]
    have hri:riL (fun j=>listed.getD j false) ps=ps.map riP:=riL_all (fun j hj=>hall j (by omega))
    rw [hst,hri] at I'
    refine reveal hb wb w a hbel (fun j j' h1 h2 h3 h4=>hinj j j' h1 h2 h3 h4 (hall j h2) (hall j' h4)) (fun j h1 h2=>?_) (m - m0) m0 _ _ _ fp (by omega) (Nat.le_refl _) (by simp [hlen]) hp2 (fun q=>?_) I'
    · obtain ⟨h3,o,t,d,c,us,h4,h5,h6,h7,h8⟩:=hfact j h1 h2 (hall j h2)
      exact ⟨h3,o,t,d,c,us,h4,h5,by rw [held I' j h1 h2 (hall j h2)]; exact h6,h7,h8⟩
    · constructor
      · rintro ⟨x,h1,h2,_,h4⟩; exact ⟨x,h1,h2,h4⟩
      · rintro ⟨x,h1,h2,h4⟩; exact ⟨x,h1,h2,hall x h2,h4⟩
  refine any_sound (os:=os) (Q:=Q) (I:=fun listed a w=>(∀ (j:Nat) (o:Oper),os[j]?=some o→listed.getD j false=true→∀ e∈o.after,Region.binds .any e=true→listed.getD e.on false=true) ∧
      (((∀ j,m≤j→listed.getD j false=false)∧PhA listed a w) ∨
        ∃ i,m≤i∧i≤os.size∧(∀ j,j < os.size→listed.getD j false=decide (j < i))∧wpOps P os Q (List.range' i (os.size - i)) a w)) ?_ ?_ ?_ os.size _ a _ (by simp) ?_ ?_
  · intro i o ho e he hb
    have:=acOk_spec hac i o (by simpa using ho) e he hb
    omega
  · rintro listed a w hsz ⟨hcl,hI⟩ i o ho hl hd
    have hin:i < os.size:=by
      rcases Nat.lt_or_ge i os.size with h | h
      · exact h
      · rw [Array.getElem?_eq_none h] at ho; cases ho
    have hput:=getD_put (l:=listed) (i:=i) (by omega)
    have hl':=getD_both hl
    have hbef:∀ j,bef bs i j=true→listed.getD j false=true:=hbin (L:=fun j=>listed.getD j false=true) (fun j o ho=>hcl j o (by simpa using ho)) i o (by simpa using ho) hd
    have hcl':∀ (j:Nat) (o:Oper),os[j]?=some o→(listed.setIfInBounds i true).getD j false=true→∀ e∈o.after,Region.binds .any e=true→(listed.setIfInBounds i true).getD e.on false=true:=by
      intro j q hq hj e he hb
      rw [hput] at hj ⊢
      split
      · rfl
      · split at hj
        · rename_i hji
          subst hji
          rw [ho] at hq
          cases hq
          exact hd e he hb
        · exact hcl j q hq hj e he hb
    have go:∀ (i0:Nat),i=i0→m≤i0→(∀ j,j < os.size→listed.getD j false=decide (j < i0))→wpOps P os Q (List.range' i0 (os.size - i0)) a w→wpOp P os Q i (fun a w=>(∀ (j:Nat) (o:Oper),os[j]?=some o→(listed.setIfInBounds i true).getD j false=true→∀ e∈o.after,Region.binds .any e=true→(listed.setIfInBounds i true).getD e.on false=true) ∧
      (((∀ j,m≤j→(listed.setIfInBounds i true).getD j false=false)∧PhA (listed.setIfInBounds i true) a w) ∨
        ∃ i',m≤i'∧i'≤os.size∧(∀ j,j < os.size→(listed.setIfInBounds i true).getD j false=decide (j < i'))∧wpOps P os Q (List.range' i' (os.size - i')) a w)) a w:=by
      rintro i0 rfl hmi hls hw
      rw [show os.size - i=(os.size - (i + 1)) + 1 by omega,List.range'_succ,wpOps_cons] at hw
      refine wpOp_mono (fun a w hw=>⟨hcl',.inr ⟨i + 1,by omega,by omega,fun j hj=>?_,hw⟩⟩) hw
      rw [hput]
      split
      · rename_i hji; subst hji; simp
      · rw [hls j hj]
        have:(j < i)=(j < i + 1):=by apply propext; omega
        simp [this]
    have haft:∀ j,listed.getD j false=true→bef bs j i=false:=by
      intro j hj
      cases hb:bef bs j i with
      | false=>rfl
      | true =>
        exfalso
        have hjn:j < os.size:=by
          rcases Nat.lt_or_ge j os.size with h | h
          · exact h
          · simp only [Array.getD_eq_getD_getElem?,Array.getElem?_eq_none (show listed.size≤j by omega)] at hj
            cases hj
        have hjo:os[j]?=some os[j] := Array.getElem?_eq_getElem hjn
        have:=hbin (L:=fun j=>listed.getD j false=true) (fun j o ho=>hcl j o (by simpa using ho)) j os[j] (by simpa using hjo) (hcl j _ hjo hj) i hb
        rw [hl'] at this
        cases this
    rcases hI with ⟨hA,hI⟩ | ⟨i0,h1,h2,h3,h4⟩
    · by_cases him:i < m
      · have hput':∀ j,m≤j→(listed.setIfInBounds i true).getD j false=false:=fun j hj=>by
          rw [hput,if_neg (by omega)]
          exact hA j hj
        obtain ⟨hb,wb,fp,hbel,hinj,hfact,hI⟩:=hI
        by_cases him0:i < m0
        · obtain ⟨p,hp⟩:∃ p,ps[i]?=some p:=⟨_,List.getElem?_eq_getElem (by omega)⟩
          have hpo':p.o=o:=by
            have:=hps i p hp
            rw [ho] at this
            exact (Option.some.inj this).symm
          refine step_any (st0:=st) hpr hT hps hp3 hpo hp hl' hbef haft hI hput (fun w' fp' v' I'=>⟨hcl',.inl ⟨hput',hb,wb,fp',hbel,fun j j' h1 h2 h3 h4 h5 h6=>?_,fun j h1 h2 h3=>?_,?_⟩⟩)
          · rw [hput,if_neg (by omega)] at h5 h6
            exact hinj j j' h1 h2 h3 h4 h5 h6
          · rw [hput,if_neg (by omega)] at h3
            obtain ⟨g1,o',t,d,c,us,g2,g3,g4,g5,g6⟩:=hfact j h1 h2 h3
            refine ⟨g1,o',t,d,c,us,g2,g3,g4,g5,?_⟩
            cases hpd:p.o.dst with
            | none=>exact g6
            | some d' =>
              have hne:d'≠d:=by
                rintro rfl
                have:=hdi (by omega) i j o o' d' (by omega) h2 ho g2 (by rw [← hpo']; exact hpd) g3.dst
                omega
              rw [put_getD_ne hne]
              exact g6
          · have hsof:sofL m0 m (listed.setIfInBounds i true) hb=sofL m0 m listed hb:=by
              funext q
              refine propext ⟨?_,?_⟩
              · rintro ⟨j,h1,h2,h3,h4⟩
                rw [hput,if_neg (by omega)] at h3
                exact ⟨j,h1,h2,h3,h4⟩
              · rintro ⟨j,h1,h2,h3,h4⟩
                exact ⟨j,h1,h2,by rw [hput,if_neg (by omega)]; exact h3,h4⟩
            rw [hsof]
            exact I'
        · -- a variable is made
          obtain ⟨o',t,d,us,ho',hL⟩:=hla i (by omega) him
          rw [ho] at ho'
          have hoo:=Option.some.inj ho'
          subst hoo
          have hlt0:m0 < m:=by omega
          have hneR:∀ q∈riL (fun j=>listed.getD j false) ps,∀ t,q.dst=some t→d≠t:=by
            intro q hq t' ht' hdt
            subst hdt
            obtain ⟨j,x,hx,rfl⟩:=riL_mem.1 hq
            split at ht'
            · have hjm:j < m0:=by have:=lt_of_get hx; omega
              have:=hdi hlt0 j i x.o o d (by omega) him (hps j x hx) ho ht' hL.dst
              omega
            · cases ht'
          have hany:look d (runP s st (selP (fun j=>listed.getD j false) 0 ps)).tm=.any:=by
            rw [look_none,hL.any]
            intro q hq hqd
            obtain ⟨j,h1,_⟩:=mem_sel hq
            have hjm:j < m0:=by have:=lt_of_get h1; omega
            have:=hdi hlt0 j i q.o o d (by omega) him (hps j q h1) ho hqd hL.dst
            omega
          have hwant:Region.wanted o (yielded os a.tmps)=true:=by simp [Region.wanted,hL.guard]
          obtain ⟨c,hrun,hcells⟩:=alloc_run (P:=P) (ρ:=a.eval) hL.op hL.zero w
          simp only [wpOp,ho]
          rw [if_pos hwant]
          left
          unfold Oper.wp
          rw [hrun,Oper.upon_value,hL.dst]
          have I2:=hide_step (v:=.pointer (some ⟨w.heap.size,0,none⟩)) hI hL.lt hneR hany (.cells c t)
          have hbel2:Below w.heap.size w (w.alloc (.cells c t)):=(Below.refl _ _).alloc (Nat.le_refl _) _
          have hKs:∀ q,B.K q→q < w.heap.size:=fun q hq=>hI.hrel.size q (.inl hq)
          have hsl:∀ j,m0≤j→j < m→listed.getD j false=true→hb j < w.heap.size:=fun j h1 h2 h3=>hI.hrel.size _ (.inr ⟨j,h1,h2,h3,rfl⟩)
          refine ⟨hcl',.inl ⟨hput',fun x=>if x=i then w.heap.size else hb x,w.alloc (.cells c t),fp,?_,fun j j' h1 h2 h3 h4 h5 h6 h7=>?_,fun j h1 h2 h3=>?_,?_⟩⟩
          · refine (hbel.trans ⟨hI.hrel.below.os,hI.hrel.below.tape,hI.hrel.below.output,hI.hrel.below.size,fun q hq=>hI.hrel.below.block q (.inl hq)⟩).trans ?_
            exact ⟨hbel2.os,hbel2.tape,hbel2.output,hbel2.size,fun q hq=>hbel2.block q (hKs q hq)⟩
          · rw [hput] at h5 h6
            simp only at h7
            by_cases e1:j=i
            · by_cases e2:j'=i
              · rw [e1,e2]
              · rw [if_neg e2] at h6
                rw [if_pos e1,if_neg e2] at h7
                have:=hsl j' h3 h4 h6
                omega
            · rw [if_neg e1] at h5
              by_cases e2:j'=i
              · rw [if_neg e1,if_pos e2] at h7
                have:=hsl j h1 h2 h5
                omega
              · rw [if_neg e2] at h6
                rw [if_neg e1,if_neg e2] at h7
                exact hinj j j' h1 h2 h3 h4 h5 h6 h7
          · rw [hput] at h3
            by_cases e1:j=i
            · subst e1
              simp only [if_true]
              refine ⟨fun hk=>Nat.lt_irrefl _ (hKs _ hk),o,t,d,c,us,ho,hL,?_,hcells,?_⟩
              · show (w.heap.push _)[w.heap.size]?=_
                simp
              · exact put_getD_self (by rw [hI.size]; exact hL.lt.1)
            · rw [if_neg e1] at h3
              obtain ⟨g1,o',t',d',c',us',g2,g3,g4,g5,g6⟩:=hfact j h1 h2 h3
              simp only [if_neg e1]
              refine ⟨g1,o',t',d',c',us',g2,g3,?_,g5,?_⟩
              · rw [hbel2.block _ (hsl j h1 h2 h3),held hI j h1 h2 h3]
                exact g4
              · have hne:d≠d':=by
                  rintro rfl
                  have:=hdi hlt0 i j o o' d him h2 ho g2 hL.dst g3.dst
                  exact e1 this.symm
                rw [put_getD_ne hne]
                exact g6
          · have hsof:sofL m0 m (listed.setIfInBounds i true) (fun x=>if x=i then w.heap.size else hb x)=fun q=>sofL m0 m listed hb q∨q=w.heap.size:=by
              funext q
              refine propext ⟨?_,?_⟩
              · rintro ⟨j,h1,h2,h3,h4⟩
                rw [hput] at h3
                have h4:(if j=i then w.heap.size else hb j)=q:=h4
                by_cases e1:j=i
                · rw [if_pos e1] at h4; exact .inr h4.symm
                · rw [if_neg e1] at h3 h4; exact .inl ⟨j,h1,h2,h3,h4⟩
              · rintro (⟨j,h1,h2,h3,h4⟩ | hq)
                · have e1:j≠i:=by rintro rfl; rw [hl'] at h3; cases h3
                  exact ⟨j,h1,h2,by rw [hput,if_neg e1]; exact h3,by simp only [if_neg e1]; exact h4⟩
                · exact ⟨i,by omega,him,by rw [hput,if_pos rfl],by simp only [if_true]; exact hq.symm⟩
            rw [hsof]
            have e1:selP (fun j=>(listed.setIfInBounds i true).getD j false) 0 ps=selP (fun j=>listed.getD j false) 0 ps:=sel_congr (fun j hj=>by simp only [Nat.zero_add]; rw [hput,if_neg (by omega)])
            have e2:riL (fun j=>(listed.setIfInBounds i true).getD j false) ps=riL (fun j=>listed.getD j false) ps:=riL_congr (fun j hj=>by show (listed.setIfInBounds i true).getD j false=listed.getD j false; rw [hput,if_neg (by omega)])
            rw [e1,e2]
            exact I2
      · have hall:∀ q,q < i→listed.getD q false=true:=fun q hq=>hbef q (hfull i hin (by omega) q hq)
        have him':i=m:=by
          rcases Nat.lt_or_ge m i with h | h
          · have h1:=hall m h
            rw [hA m (Nat.le_refl _)] at h1
            cases h1
          · omega
        refine go m him' (Nat.le_refl _) (fun j hj=>?_) (tailW listed a w hI (fun j hj=>hall j (by omega)))
        by_cases hjm:j < m
        · rw [hall j (by omega)]; simp [hjm]
        · rw [hA j (by omega)]; simp [hjm]
    · have hii:i=i0:=by
        have hge:i0≤i:=by
          rw [h3 i hin] at hl'
          simpa using hl'
        rcases Nat.lt_or_ge i0 i with h | h
        · have h5:=hbef i0 (hfull i hin (by omega) i0 h)
          rw [h3 i0 (by omega)] at h5
          simp at h5
        · omega
      exact go i0 hii h1 h3 h4
  · rintro listed a w hsz ⟨hcl,hI⟩ hall
    have hall':∀ j,j < os.size→listed.getD j false=true:=by
      intro j hj
      have:=hall j hj
      simp only [Array.getD_eq_getD_getElem?,Array.getElem?_eq_getElem (show j < listed.size by omega),Option.getD_some] at this ⊢
      exact this
    rcases hI with ⟨hA,hI⟩ | ⟨i0,h1,h2,h3,h4⟩
    · have hmn':m=os.size:=by
        rcases Nat.lt_or_ge m os.size with h | h
        · have h1:=hall' m h
          rw [hA m (Nat.le_refl _)] at h1
          cases h1
        · omega
      have:=tailW listed a w hI (fun j hj=>hall' j (by omega))
      rw [hmn',Nat.sub_self] at this
      exact this
    · have:i0=os.size:=by
        rcases Nat.lt_or_ge i0 os.size with h | h
        · have h5:=hall' i0 h
          rw [h3 i0 h] at h5
          simp at h5
        · omega
      subst this
      rw [Nat.sub_self] at h4
      exact h4
  · unfold open_
    have:∀ l:List Nat,(∀ i∈l,i < os.size)→l.countP (fun i=>!(Array.replicate os.size false).getD i true)=l.length:=by
      intro l hl
      rw [List.countP_eq_length]
      intro i hi
      have:=hl i hi
      simp [this]
    rw [this _ (fun i hi=>List.mem_range.1 hi)]
    simp
  · have hno:∀ j,(Array.replicate os.size false).getD j false=false:=by
      intro j
      rcases Nat.lt_or_ge j os.size with h | h
      · simp [h]
      · simp [h]
    have hS:∀ q,¬ sofL m0 m (Array.replicate os.size false) (fun x=>x) q:=by
      rintro q ⟨j,_,_,h,_⟩
      rw [hno] at h
      cases h
    refine ⟨(fun j o ho hj=>by rw [hno] at hj; cases hj),.inl ⟨fun j _=>hno j,fun x=>x,w0,fp,Bel.refl _ _,(fun j j' _ _ _ _ h=>by rw [hno] at h; cases h),(fun j _ _ h=>by rw [hno] at h; cases h),?_⟩⟩
    rw [hidB_none B hS,hidM_none M hS]
    have hsel:∀ (l:List Pz) (k:Nat),selP (fun j=>(Array.replicate os.size false).getD j false) k l=[] := by
      intro l
      induction l with
      | nil=>intro k; rfl
      | cons x l ih=>intro k; simp only [selP]; rw [if_neg (by rw [hno]; simp)]; exact ih _
    rw [hsel]
    have I0:=I.inv (os:=os) hs
    have hb:Below w.heap.size w { w with drawn:=w.drawn + 1 } := (Below.refl _ _).drew
    refine ⟨I0.hrel.ext hb,fun t=>grep_map (fun _ _ hu=>(Ext.of_below hb).crep hu) (I0.slots t),fun t s' tj y u hg=>?_,I0.size,I0.defers,I0.pin,I0.dne,I0.fresh,fun q hq=>?_,fun j q hq t ht=>?_⟩
    · rcases I0.stamps t s' tj y u hg with h | ⟨_,q,hq,_⟩
      · exact .inl h
      · cases hq
    · obtain ⟨j,x,hx,rfl⟩:=riL_mem.1 hq
      rw [hno]
      exact ⟨fun q hq=>(by cases hq),fun q hq=>(by cases hq)⟩
    · rw [riL_get] at hq
      simp only [Option.map_eq_some_iff] at hq
      obtain ⟨x,hx,rfl⟩:=hq
      rw [hno] at ht
      cases ht
end
end Go.Vm

namespace Go.Vm
variable [Amb]
open Go.RowKit (Below)
def loopsOf:Code→List Code
  | .seq a b=>loopsOf a++loopsOf b
  | .cond _ a b=>loopsOf a++loopsOf b
  | .block _ a=>loopsOf a
  | .loop a=>a :: loopsOf a
  | .scope a=>loopsOf a
  | _=>[]
abbrev Loops:=Nat→(Q:Type)→St→(Exit→St→Option Q)→Option Q
def LoopOk (P:Program) (TL:Loops) (N:Fr) (a:Code):Prop :=
  ∀ (R:Type) (st:St) (k:Exit→St→Option R) (r:R),TL (firstR a) R st k=some r→∀ {B:Lim} {M:Nat→Prop} {w0 w:World} {fp:List (List Nat)} {act:Act} (Q:Exit→Act→World→Prop),Rel B M w0 N st w fp act →
    (∀ (e:Exit) (st':St) (w':World) (fp':List (List Nat)) (a':Act),k e st'=some r→Rel B M w0 N st' w' fp' a'→Q e a' w')→(Code.loop a).wp P Q act w
section
variable {P:Program} {T:FuncId→Option Sig} {TL:Loops} {R:Type} {N:Fr}
variable {B:Lim} {M:Nat→Prop} {w0:World}
theorem ev_rel0 {cx:Cx} {a:Act} {st:St} {x:Operand} (h:∀ t,grep cx none a (a.tmps.getD t undef) (look t st.tm)):trep cx (a.eval x) (ev st 0 [] x):=by
  cases x with
  | tmp t =>
    have:=h t
    show trep cx (a.tmps.getD t undef) (strip 0 [] (look t st.tm))
    cases hl:look t st.tm with
    | g s t w u=>simp [strip]; trivial
    | _=>rw [hl] at this; exact this
  | const v=>exact trep_of_vrep (ofConst_rel v)
  | global g=>trivial
  | func f=>rfl
theorem den_sound (hM:P.follows .mixedOrders=true) (hT:∀ f sig,T f=some sig→Con P f sig) {r:R}:∀ (c:Code) {st:St} {k:Exit→St→Option R},den P T TL N c st k=some r→(∀ a∈loopsOf c,LoopOk P TL N a) →
    ∀ {w:World} {fp:List (List Nat)} {a:Act} {Q:Exit→Act→World→Prop},Rel B M w0 N st w fp a →
    (∀ (e:Exit) (st':St) (w':World) (fp':List (List Nat)) (a':Act),k e st'=some r→Rel B M w0 N st' w' fp' a'→Q e a' w')→c.wp P Q a w:=by
  intro c
  induction c with
  | skip=>intro st k h hl w fp a Q I hk; exact wp_skip (hk .normal st w fp a h I)
  | label l=>intro st k h hl w fp a Q I hk; exact wp_label (hk .normal st w fp a h I)
  | ret=>intro st k h hl w fp a Q I hk; exact wp_ret (hk .ret st w fp a h I)
  | exit id=>intro st k h hl w fp a Q I hk; exact wp_exit (hk (.exit id) st w fp a h I)
  | region id os draw =>
    intro st k h hl w fp a Q I hk
    simp only [den] at h
    split at h
    · cases h
    · rename_i hc
      have hs:id∉st.dn:=fun hm=>hc (List.any_eq_true.2 ⟨id,hm,by simp⟩)
      cases draw with
      | true=>exact drawn_sound hM hT hs (by simpa using h) I hk
      | false=>exact region_sound hT hs (by simpa using h) I hk
  | seq x y ihx ihy =>
    intro st k h hl w fp a Q I hk
    simp only [den] at h
    refine wp_seq (ihx h (fun c hc=>hl c (by simp [loopsOf,hc])) I fun e st' w' fp' a' he I'=>?_)
    cases e with
    | normal=>exact ihy he (fun c hc=>hl c (by simp [loopsOf,hc])) I' hk
    | _=>exact hk _ st' w' fp' a' he I'
  | cond c x y ihx ihy =>
    intro st k h hl w fp a Q I hk
    simp only [den] at h
    split at h
    · rename_i b hb
      have hv:=ev_rel0 (x:=c) I.slots
      rw [hb] at hv
      refine wp_cond (t:=b) (crep_bool hv) ?_
      cases b with
      | true=>exact ihx h (fun c hc=>hl c (by simp [loopsOf,hc])) I hk
      | false=>exact ihy h (fun c hc=>hl c (by simp [loopsOf,hc])) I hk
    · cases h
  | block id x ih =>
    intro st k h hl w fp a Q I hk
    simp only [den] at h
    refine wp_block (ih h (fun c hc=>hl c (by simpa [loopsOf] using hc)) I fun e st' w' fp' a' he I'=>?_)
    cases e with
    | exit j =>
      simp only at he
      simp only [Exit.inBlock]
      split at he
      · rename_i hj
        have hj:=Nat.eq_of_beq_eq_true hj
        rw [if_pos hj]
        exact hk _ st' w' fp' a' he I'
      · rename_i hj
        rw [if_neg (fun he=>hj (by simp [he]))]
        exact hk _ st' w' fp' a' he I'
    | _=>exact hk _ st' w' fp' a' he I'
  | scope x ih =>
    intro st k h hl w fp a Q I hk
    simp only [den] at h
    refine wp_scope_straight (ih h (fun c hc=>hl c (by simpa [loopsOf] using hc)) I fun e st' w' fp' a' he I'=>?_)
    cases e with
    | goto l=>cases he
    | _=>exact hk _ st' w' fp' a' he I'
  | loop x ih =>
    intro st k h hl w fp a Q I hk
    simp only [den] at h
    exact hl x (by simp [loopsOf]) R st k r h Q I hk
  | _=>intro st k h; simp [den] at h
end
end Go.Vm

namespace Go.Vm
variable [Amb]
open Go.RowKit (Below)
theorem moved_cell {cx:Cx} {t:Ty} {ob ob1:List Ob} {u:V} {y:t.den} {v:Value} (hag:t.isAgg=false) (h:moved t ob [u]=some (y,ob1)) (hv:trep cx v u):crep cx v u:=by
  have bad:(∀ r,mvc t ob [u]=some r→False)→False:=by
    intro hb
    simp only [moved] at h
    split at h
    · rename_i hm; exact hb _ hm
    · cases h
  cases u with
  | agg us=>exact absurd (bad (by intro r hr; cases t<;>simp [mvc,getd,Ty.isAgg] at hr hag)) id
  | tup us=>exact absurd (bad (by intro r hr; cases t<;>simp [mvc,getd,Ty.isAgg] at hr hag)) id
  | g s t w u=>exact False.elim hv
  | any=>exact absurd (bad (by intro r hr; cases t<;>simp [mvc,getd,Ty.isAgg] at hr hag)) id
  | _=>exact hv
theorem one_of_crep {cx:Cx} {v:Value} {u:V} (h:crep cx v u):one v:=crep_one h
theorem mvT_rel {w:World} {I:Nat→Prop}:∀ {ts:List Ty} {ob:List Ob} {us:List V} {x:Tup ts} {vs:List Value} {fp:List (List Nat)},mvT ts ob us=some x→All2 (trep ⟨w,I,ob,fp⟩) vs us→DeepOk w ob fp→fp.length=ob.length →
    ∃ bs ob1 fp1,TupOwn w ts x vs bs∧Gone w ob fp ob1 fp1 bs
  | [],ob,[],x,vs,fp,_,ha,_,_=>by
    have:=ha.1
    have hv:vs=[] := by simpa using this
    subst hv
    exact ⟨[],ob,fp,⟨rfl,rfl⟩,Gone.refl w ob fp⟩
  | t :: ts,ob,u :: us,x,vs,fp,h,ha,hd,hl=>by
    cases vs with
    | nil=>have:=ha.1; simp at this
    | cons v vs =>
      simp only [mvT] at h
      split at h
      · rename_i y ob1 hm
        split at h
        · rename_i r hr
          have h:=Option.some.inj h
          subst h
          have hv:trep ⟨w,I,ob,fp⟩ v u:=ha.2 0 v u rfl rfl
          have first:∃ bs fp1,TyOwn w t y v bs∧Gone w ob fp ob1 fp1 bs:=by
            by_cases hag:t.isAgg=true
            · rw [if_pos hag] at hm
              split at hm
              · rename_i us'
                obtain ⟨vs',rfl,ha'⟩:=hv
                obtain ⟨bs,fp1,ho,hg⟩:=moved_rel hm ha' hd hl
                exact ⟨bs,fp1,⟨ho,fun _=>⟨vs',rfl⟩,fun hn=>by rw [hag] at hn; cases hn⟩,hg⟩
              · cases hm
            · rw [if_neg hag] at hm
              have hag:t.isAgg=false:=by simpa using hag
              have hc:=moved_cell hag hm hv
              obtain ⟨bs,fp1,ho,hg⟩:=moved_rel (vs:=[v]) hm (all2_one hc) hd hl
              exact ⟨bs,fp1,⟨by rw [cells_one (crep_one hc)]; exact ho,fun hn=>(by rw [hag] at hn; cases hn),fun _=>crep_one hc⟩,hg⟩
          obtain ⟨bs1,fp1,ho1,hg1⟩:=first
          have hl1:fp1.length=ob1.length:=by rw [hg1.len,hg1.lenf,hl]
          obtain ⟨bs2,ob2,fp2,ho2,hg2⟩:=mvT_rel (I:=I) hr (fp:=fp1) (vs:=vs) ⟨by have:=ha.1; simpa using this,fun i a b h1 h2=>trep_map (fun _ _ hu=>hg1.crep hu) (ha.2 (i + 1) a b (by simpa using h1) (by simpa using h2))⟩ (hg1.deep hd hl) hl1
          exact ⟨bs1++bs2,ob2,fp2,⟨v,vs,bs1,bs2,rfl,rfl,ho1,ho2⟩,hg1.trans hg2⟩
        · cases h
      · cases h
  | [],_,_ :: _,_,_,_,h,_,_,_=>by simp [mvT] at h
  | _ :: _,_,[],_,_,_,h,_,_,_=>by simp [mvT] at h
section
variable {P:Program} {T:FuncId→Option Sig} {TL:Loops} {N:Fr}
variable {B:Lim} {M:Nat→Prop} {w0 w:World} {st:St} {fp:List (List Nat)} {a:Act}
def readRes (a:Act):ResultVar→Sem Value
  | .tmp t=>pure (a.tmps.getD t undef)
  | .cell b t=>do loadVar t (← asAddr (a.tmps.getD b undef))
theorem resOf_rel {fresh:Bool} {rs:List Ty} {y:Tup rs} (I:Rel B M w0 N st w fp a):∀ (l:List ResultVar) {acc:List V} {vs:List Value},resOf P fresh st rs l acc=some y→All2 (fun v u=>trep (cxOf B M w st.ob fp) v u∨∃ s t z u',u=.g s t z u') vs acc →
    ∃ vs' acc',(l.mapM (readRes a)).run P w=.ok vs' w∧All2 (fun v u=>trep (cxOf B M w st.ob fp) v u∨∃ s t z u',u=.g s t z u') (vs++vs') acc' ∧
      (if fresh=true then mvT rs st.ob acc' else asTup st.ob rs acc')=some y
  | [],acc,vs,h,ha=>⟨[],acc,by simp,by simpa using ha,h⟩
  | .tmp t :: l,acc,vs,h,ha=>by
    have hs:=I.slots t
    obtain ⟨vs',acc',h1,h2,h3⟩:=resOf_rel I l (vs:=vs++[a.tmps.getD t undef]) h (all2_append ha (all2_one (by
      cases hl:look t st.tm with
      | g s t z u=>exact .inr ⟨_,_,_,_,rfl⟩
      | _=>rw [hl] at hs; exact .inl hs)))
    refine ⟨a.tmps.getD t undef :: vs',acc',?_,by simpa using h2,h3⟩
    simp only [List.mapM_cons,readRes,Sem.run_bind,Sem.run_pure,Result.andThen_ok,h1]
  | .cell b t :: l,acc,vs,h,ha=>by
    simp only [resOf] at h
    obtain ⟨u,hk,hs⟩:=load_sound h
    have hsl:=I.slots b
    have hb:trep (cxOf B M w st.ob fp) (a.tmps.getD b undef) (look b st.tm):=by
      cases hl:look b st.tm with
      | g s t z u =>
        exfalso
        rw [hl] at h
        simp only [load] at h
        split at h
        · simp [readAt] at h
        · cases h
      | _=>rw [hl] at hsl; exact hsl
    obtain ⟨v',hr,hv⟩:=hs (by simp) I.hrel _ hb
    have hrun:(readRes a (.cell b t)).run P w=.ok v' w:=by
      simp only [readRes]
      revert hr
      cases hp:a.tmps.getD b undef with
      | pointer ad =>
        cases ad with
        | none=>intro hr; simp [Instr.loadAt,Instr.sureAddr] at hr
        | some ad=>intro hr; simpa [Instr.loadAt,Instr.sureAddr,asAddr] using hr
      | _=>intro hr; simp [Instr.loadAt,Instr.sureAddr] at hr
    obtain ⟨vs',acc',h1,h2,h3⟩:=resOf_rel I l (vs:=vs++[v']) hk (all2_append ha (all2_one (.inl hv)))
    refine ⟨v' :: vs',acc',?_,by simpa using h2,h3⟩
    simp only [List.mapM_cons]
    rw [Sem.run_bind]
    simp only [hrun,Sem.run_bind,Sem.run_pure,Result.andThen_ok,h1]
end
end Go.Vm

namespace Go.Vm
variable [Amb]
open Go.RowKit (Below)
theorem asTup_no_g {ob:List Ob}:∀ {ts:List Ty} {us:List V} {x:Tup ts},asTup ob ts us=some x→∀ u∈us,∀ s t z u',u≠.g s t z u'
  | [],[],_,_,u,hu=>by cases hu
  | t :: ts,u :: us,x,h,u',hu'=>by
    simp only [asTup] at h
    split at h
    · rename_i y r h1 h2
      rcases List.mem_cons.1 hu' with rfl | hu'
      · rintro s t' z u0 rfl
        simp only [asTy] at h1
        split at h1
        · cases h1
        · cases t<;>simp [asCell,plain,getd] at h1
      · exact asTup_no_g h2 u' hu'
    · cases h
  | [],_ :: _,_,h,_,_=>by simp [asTup] at h
  | _ :: _,[],_,h,_,_=>by simp [asTup] at h
theorem mvT_no_g:∀ {ts:List Ty} {ob:List Ob} {us:List V} {x:Tup ts},mvT ts ob us=some x→∀ u∈us,∀ s t z u',u≠.g s t z u'
  | [],_,[],_,_,u,hu=>by cases hu
  | t :: ts,ob,u :: us,x,h,u',hu'=>by
    simp only [mvT] at h
    split at h
    · rename_i y ob1 h1
      split at h
      · rename_i r h2
        rcases List.mem_cons.1 hu' with rfl | hu'
        · rintro s t' z u0 rfl
          split at h1
          · cases h1
          · cases t<;>simp [moved,mvc,getd,Ty.isAgg] at h1<;>simp_all [Ty.isAgg]
        · exact mvT_no_g h2 u' hu'
      · cases h
    · cases h
  | [],_,_ :: _,_,h,_,_=>by simp [mvT] at h
  | _ :: _,_,[],_,h,_,_=>by simp [mvT] at h
section
variable {P:Program} {T:FuncId→Option Sig} {TL:Loops}
theorem ofTup_length:∀ (ts:List Ty) (x:Tup ts),(ofTup ts x).length=ts.length
  | [],_=>rfl
  | t :: ts,x=>by simp [ofTup,ofTup_length ts x.2]
theorem look_zip:∀ (us:List V) (n t:Nat),look t ((us.zipIdx n).map fun p=>(p.2,p.1))=if n≤t then us.getD (t - n) .any else .any
  | [],n,t=>by simp [look]
  | u :: us,n,t=>by
    simp only [List.zipIdx_cons,List.map_cons,look_cons,look_zip us (n + 1) t]
    by_cases h:n=t
    · subst h; simp
    · rw [if_neg h]
      by_cases h1:n≤t
      · rw [if_pos (by omega),if_pos h1,show t - n=(t - (n + 1)) + 1 by omega]
        rfl
      · rw [if_neg (by omega),if_neg h1]
theorem TupRep_length {w:World} {J:Nat→Prop}:∀ {ts:List Ty} {x:Tup ts} {vs:List Value},TupRep w J ts x vs→vs.length=ts.length
  | [],_,_,h=>by have h:_=[] := h; subst h; rfl
  | t :: ts,x,_,h=>by obtain ⟨v,r,rfl,_,h2⟩:=h; simp [TupRep_length h2]
theorem ofTy_no_g {t:Ty} {x:t.den} (s t':Nat) (z:Bool) (u':V):ofTy t x≠.g s t' z u':=by
  unfold ofTy
  split<;>intro h<;>cases h
theorem ofTup_no_g:∀ {ts:List Ty} {x:Tup ts} {u:V},u∈ofTup ts x→∀ s t z u',u≠.g s t z u'
  | [],_,_,h=>by cases h
  | t :: ts,x,u,h=>by
    rcases List.mem_cons.1 h with rfl | h
    · exact fun s t' z u'=>ofTy_no_g s t' z u'
    · exact ofTup_no_g h
def limAt (w:World):Lim:=⟨fun b=>b < w.heap.size,[]⟩
theorem start_relV {M:Nat→Prop} {N:Nat} {us:List V} {w:World} {args:Array Value} (hN:us.length≤N) (ha:All2 (vrep (cxOf (limAt w) M w [] [])) args.toList us) (hg:∀ u∈us,∀ s t z u',u≠.g s t z u') (hA:Amb.A w) :
    Rel (limAt w) M w ⟨N,0⟩ (start us) w [] { tmps:=args++Array.replicate (N - args.size) undef,defers:=[] } := by
  have hl:args.size=us.length:=by have:=ha.1; simpa using this
  have hI:Hrel (limAt w) M w w [] [] := ⟨rfl,List.nodup_nil,(fun b hb=>by cases hb),(fun id o bs h=>by simp at h),Bel.refl _ _,(fun _ h=>h),hA,fun _ hg=>Amb.lt hA hg⟩
  have hlook:∀ t,look t (start us).tm=us.getD t .any:=by
    intro t
    have:=look_zip us 0 t
    simpa [start] using this
  refine ⟨hI,fun t=>?_,fun t s tj y u hu=>?_,by simp; omega,rfl,fun t v ht=>by cases ht⟩
  · rw [hlook]
    by_cases ht:t < us.length
    · have ht1:t < us.length:=ht
      have ht2:t < args.toList.length:=by simp; omega
      have h1:us[t]?=some us[t] := List.getElem?_eq_getElem ht1
      have h2:args.toList[t]?=some args.toList[t] := List.getElem?_eq_getElem ht2
      have:=ha.2 t _ _ h2 h1
      rw [List.getD_eq_getElem?_getD,h1,Option.getD_some]
      have e:(args++Array.replicate (N - args.size) undef).getD t undef=args.toList[t] := by
        rw [Array.getD_eq_getD_getElem?,Array.getElem?_append_left (by omega)]
        simp [show t < args.size by omega]
      show grep _ none _ ((args++Array.replicate (N - args.size) undef).getD t undef) _
      rw [e]
      exact grep_not_g (trep_of_vrep this)
    · rw [List.getD_eq_getElem?_getD,List.getElem?_eq_none (by omega)]
      trivial
  · rw [hlook,List.getD_eq_getElem?_getD] at hu
    by_cases ht:t < us.length
    · rw [List.getElem?_eq_getElem (ht),Option.getD_some] at hu
      exact absurd hu (hg _ (List.getElem_mem _) _ _ _ _)
    · rw [List.getElem?_eq_none (by omega)] at hu
      cases hu
theorem start_rel {M:Nat→Prop} {N:Nat} {ps:List Ty} {x:Tup ps} {w:World} {args:Array Value} (hN:ps.length≤N) (h:TupRep w M ps x args.toList) (hA:Amb.A w) :
    Rel (limAt w) M w ⟨N,0⟩ (start (ofTup ps x)) w [] { tmps:=args++Array.replicate (N - args.size) undef,defers:=[] } := by
  have hl:args.size=ps.length:=by have:=TupRep_length h; simpa using this
  have hI:Hrel (limAt w) M w w [] [] := ⟨rfl,List.nodup_nil,(fun b hb=>by cases hb),(fun id o bs h=>by simp at h),Bel.refl _ _,(fun _ h=>h),hA,fun _ hg=>Amb.lt hA hg⟩
  have ha:=all2_ofTup (cx:=cxOf (limAt w) M w [] []) (h.imp (J':=imm (limAt w) M w [] []) (fun b hb hm=>⟨hb,fun _=>hm,fun id o bs h=>by simp at h⟩))
  have hlook:∀ t,look t (start (ofTup ps x)).tm=(ofTup ps x).getD t .any:=by
    intro t
    have:=look_zip (ofTup ps x) 0 t
    simpa [start] using this
  refine ⟨hI,fun t=>?_,fun t s tj y u hu=>?_,by simp; omega,rfl,fun t v ht=>by cases ht⟩
  · rw [hlook]
    by_cases ht:t < ps.length
    · have ht1:t < (ofTup ps x).length:=by rw [ofTup_length]; exact ht
      have ht2:t < args.toList.length:=by simp; omega
      have h1:(ofTup ps x)[t]?=some (ofTup ps x)[t] := List.getElem?_eq_getElem ht1
      have h2:args.toList[t]?=some args.toList[t] := List.getElem?_eq_getElem ht2
      have:=ha.2 t _ _ h2 h1
      rw [List.getD_eq_getElem?_getD,h1,Option.getD_some]
      have e:(args++Array.replicate (N - args.size) undef).getD t undef=args.toList[t] := by
        rw [Array.getD_eq_getD_getElem?,Array.getElem?_append_left (by omega)]
        simp [show t < args.size by omega]
      show grep _ none _ ((args++Array.replicate (N - args.size) undef).getD t undef) _
      rw [e]
      exact grep_not_g (trep_of_vrep this)
    · rw [List.getD_eq_getElem?_getD,List.getElem?_eq_none (by rw [ofTup_length]; omega)]
      trivial
  · rw [hlook,List.getD_eq_getElem?_getD] at hu
    by_cases ht:t < ps.length
    · rw [List.getElem?_eq_getElem (by rw [ofTup_length]; exact ht),Option.getD_some] at hu
      exact absurd hu (ofTup_no_g (List.getElem_mem _) _ _ _ _)
    · rw [List.getElem?_eq_none (by rw [ofTup_length]; omega)] at hu
      cases hu
theorem resVal_eq (vs:Array Value):(if h:vs.size=1 then vs[0] else .tuple vs)=resVal vs.toList:=by
  obtain ⟨l⟩:=vs
  match l with
  | [] => rfl
  | [v] => rfl
  | v :: u :: r=>rfl
theorem enters_of {f : FuncId} {fn : Func} (hf : P.funcs[f]? = some fn) (hn : (fn.name == "runtime.NumGoroutine") = false) (hb : fn.body.isNone = false) (args : Array Value) (w : World) : (callFunc f args).run P w = .ok (.enter f args) w:=by
  have hn' : fn.name ≠ "runtime.NumGoroutine" := by simpa using hn
  have hb':fn.body≠none:=by
    intro h
    rw [h] at hb
    cases hb
  simp [callFunc,hf,hn',hb']
theorem all2_no_g {cx:Cx} {vs:List Value} {us:List V} (h:All2 (fun v u=>trep cx v u∨∃ s t z u',u=.g s t z u') vs us) (hn:∀ u∈us,∀ s t z u',u≠.g s t z u'):All2 (trep cx) vs us :=
  ⟨h.1,fun i v u hv hu=>(h.2 i v u hv hu).resolve_right (fun ⟨s,t,z,u',he⟩=>hn u (List.mem_of_getElem? hu) s t z u' he)⟩
theorem body_calls (hM:P.follows .mixedOrders=true) (hT:∀ f sig,T f=some sig→Con P f sig) {f:FuncId} {fn:Func} {c:Code} (hf:P.funcs[f]?=some fn) (hb:fn.body=some c)
    (hTL:∀ a∈loopsOf c,LoopOk P TL ⟨fn.ntmps,0⟩ a) {M:Nat→Prop} {w:World} {args:Array Value} {st0:St} {Q:Ending→World→Prop} {R:Type} {kk:Exit→St→Option R} {y:R} (hbody:den P T TL ⟨fn.ntmps,0⟩ c st0 kk=some y)
    (hst:Rel (limAt w) M w ⟨fn.ntmps,0⟩ st0 w [] { tmps:=args++Array.replicate (fn.ntmps - args.size) undef,defers:=[] })
    (hfin:∀ (e:Exit) (st:St) (w':World) (fp:List (List Nat)) (a:Act),kk e st=some y→Rel (limAt w) M w ⟨fn.ntmps,0⟩ st w' fp a→(e=.normal∨e=.ret)∧a.defers=[]∧∃ v,(results fn a.tmps).run P w'=.ok v w'∧Q (.returned v) w'):Calls P f args w Q:=by
  refine calls_of_wp hf hb (den_sound hM hT c hbody hTL hst ?_)
  intro e st w' fp a hk I
  obtain ⟨he,h1,h2⟩:=hfin e st w' fp a hk I
  rcases he with rfl | rfl
  · exact ⟨h1,h2⟩
  · exact ⟨h1,h2⟩
theorem con_of_body {sig : Sig} (hsw : sig.w = none) (hsx : sig.X = none) (hM : P.follows .mixedOrders = true) (hT : ∀ f sig,T f = some sig → Con P f sig) {f : FuncId} {fn : Func} {c : Code} (hf : P.funcs[f]? = some fn) (hn : (fn.name == "runtime.NumGoroutine") = false) (hb : fn.body = some c)
    (hTL:∀ a∈loopsOf c,LoopOk P TL ⟨fn.ntmps,0⟩ a) (h:∀ x y,sig.F x=some y→body P T TL fn sig.ps sig.rs sig.fresh x=some y):Con P f sig:=by
  refine ⟨fun args w=>enters_of hf hn (by rw [hb]; rfl) args w,(fun ws hws=>by rw [hsw] at hws; cases hws),(fun ws vs hws=>by rw [hsw] at hws; cases hws),(fun ws vs hws=>by rw [hsw] at hws; cases hws),(fun ws vs e hws=>by rw [hsw] at hws; cases hws),(fun ws ls hws=>by rw [hsw] at hws; cases hws),(fun ws vs ks hws=>by rw [hsw] at hws; cases hws),(fun X hX=>by rw [hsx] at hX; cases hX),fun _ M x y w args hF hrep hA=>?_⟩
  have hbody:=h x y hF
  unfold body at hbody
  rw [hb] at hbody
  simp only at hbody
  split at hbody
  case isFalse=>cases hbody
  rename_i hN
  refine calls_of_wp hf hb (den_sound hM hT c hbody hTL (start_rel (Nat.le_of_ble_eq_true hN) hrep hA) ?_)
  intro e st w' fp a hk I
  have fin:resOf P sig.fresh st sig.rs fn.results.toList []=some y→a.defers=[]∧∃ v,(results fn a.tmps).run P w'=.ok v w'∧∃ vs,Ending.returned v=.returned (resVal vs)∧Below w.heap.size w w' ∧
      if sig.fresh=true then ∃ bs,TupOwn w' sig.rs y vs bs∧bs.Nodup∧∀ b∈bs,w.heap.size≤b∧b < w'.heap.size else TupRep w' (fun b=>M b∨w.heap.size≤b) sig.rs y vs:=by
    intro hr
    obtain ⟨vs,acc,h1,h2,h3⟩:=resOf_rel I fn.results.toList hr (vs:=[]) ⟨rfl,fun i a b ha=>by simp at ha⟩
    simp only [List.nil_append] at h2
    refine ⟨I.defers,resVal vs,?_,vs,rfl,⟨I.hrel.below.os,I.hrel.below.tape,I.hrel.below.output,I.hrel.below.size,I.hrel.below.block⟩,?_⟩
    · have he:results fn a.tmps=(do let vs ← fn.results.mapM (readRes a); pure (if h:vs.size=1 then vs[0] else .tuple vs)):=rfl
      rw [he,Sem.run_bind,Array.mapM_eq_mapM_toList,map_eq_pure_bind,Sem.run_bind,h1]
      simp only [Result.andThen_ok,Sem.run_pure]
      rw [resVal_eq]
    · by_cases hfr:sig.fresh=true
      · rw [if_pos hfr] at h3 ⊢
        have ha:=all2_no_g h2 (mvT_no_g h3)
        obtain ⟨bs,ob1,fp1,ho,hg⟩:=mvT_rel h3 ha I.hrel.deep I.hrel.len
        have hp:=hg.perm.nodup_iff.2 I.hrel.nd
        refine ⟨bs,ho,(List.nodup_append.1 hp).2.1,fun b hb=>have h:=I.hrel.ge b (hg.perm.mem_iff.1 (List.mem_append.2 (.inr hb))); ⟨Nat.le_of_not_lt h.1,h.2⟩⟩
      · rw [if_neg hfr] at h3 ⊢
        have ha:=all2_no_g h2 (asTup_no_g h3)
        have hJ:∀ b,b < w'.heap.size→imm (limAt w) M w' st.ob fp b→M b∨w.heap.size≤b:=by
          intro b _ hi
          by_cases hlt:b < w.heap.size
          · exact .inl (hi.2.1 hlt)
          · exact .inr (by omega)
        have hge:∀ (id:Nat) (bs:List Nat),fp[id]?=some bs→∀ b∈bs,M b∨w.heap.size≤b:=fun id bs hf b hb=>.inr (Nat.le_of_not_lt (I.hrel.ge b (List.mem_flatten.2 ⟨bs,List.mem_of_getElem? hf,hb⟩)).1)
        have c1:∀ u,cov1 (cxOf (limAt w) M w' st.ob fp) (fun b=>M b∨w.heap.size≤b) u:=by
          intro u
          cases u with
          | own id=>exact fun dp e l bs _ hf=>hge id bs hf
          | sub id i j=>exact fun dp e l bs _ hf=>hge id bs hf
          | part id i j=>exact fun dp e l bs _ hf=>hge id bs hf
          | _=>trivial
        refine asTup_rel I.hrel hJ h3 ha (fun u _=>?_)
        cases u with
        | agg us=>exact fun u _=>c1 u
        | pt id i off=>exact ⟨fun o bs _ _ hf=>hge id bs hf,fun us _ u _=>c1 u⟩
        | own id=>exact c1 (.own id)
        | sub id i j=>exact c1 (.sub id i j)
        | part id i j=>exact c1 (.part id i j)
        | _=>trivial
  cases e with
  | normal=>exact fin hk
  | ret=>exact fin hk
  | _=>cases hk
def limW (w:World) (bs:List Nat) (v:Value):Lim:=⟨fun b=>b < w.heap.size∧b∉bs,[v]⟩
theorem startW_rel {M:Nat→Prop} {N:Nat} {t:Ty} {x:t.den} {qs:List Ty} {q:Tup qs} {w:World} {args:Array Value} {v:Value} {rest:List Value} {bs:List Nat} (hN:qs.length + 1≤N) (hq:qs.all flat=true)
    (ha:args.toList=v :: rest) (hv:TyOwn w t x v bs) (hnd:bs.Nodup) (hlt:∀ b∈bs,b < w.heap.size) (h:TupRep w M qs q rest) (hA:Amb.A w∧∀ b∈bs,¬ Amb.G b) :
    ∃ fp,Rel (limW w bs v) M w ⟨N,1⟩ (startW t x (ofTup qs q)) w fp { tmps:=args++Array.replicate (N - args.size) undef,defers:=[] } := by
  obtain ⟨os,bss,e,i⟩:=inst1_rel hv []
  rw [List.nil_append] at e
  have hl:args.size=qs.length + 1:=by
    have:=TupRep_length h
    have h2:args.toList.length=rest.length + 1:=by rw [ha]; rfl
    simp at h2
    omega
  have hI:Hrel (limW w bs v) M w w os bss:=by
    refine ⟨i.len,by rw [i.flat]; exact hnd,fun b hb=>?_,fun id o b1 ho hf=>?_,Bel.refl _ _,(fun b hb=>hb.1),hA.1,fun b hg=>⟨Amb.lt hA.1 hg,fun hm=>hA.2 b hm hg⟩⟩
    · rw [i.flat] at hb
      exact ⟨fun hk=>hk.2 hb,hlt b hb⟩
    · obtain ⟨e,l,rfl,hr⟩:=i.rows id o b1 ho hf
      exact rowRep_deep hr
  have hrel:=i.rel (cxOf (limW w bs v) M w os bss) rfl (fun k o ho=>by simp only [List.length_nil,Nat.zero_add]; exact ho) (fun k c hc=>by simp only [List.length_nil,Nat.zero_add]; exact hc)
  have hd:=all2_ofTup (cx:=cxOf (limW w bs v) M w os bss) (h.flat hq)
  have hall:All2 (vrep (cxOf (limW w bs v) M w os bss)) args.toList ((inst1 t x []).1 :: ofTup qs q):=by
    rw [ha]
    refine ⟨by simp [hd.1],fun j a b hj hb=>?_⟩
    cases j with
    | zero=>simp at hj hb; subst hj; subst hb; exact hrel
    | succ j=>exact hd.2 j a b (by simpa using hj) (by simpa using hb)
  have hob:(startW t x (ofTup qs q)).ob=os:=e
  have hlook:∀ t1,look t1 (startW t x (ofTup qs q)).tm=((inst1 t x []).1 :: ofTup qs q).getD t1 .any:=by
    intro t1
    have:=look_zip ((inst1 t x []).1 :: ofTup qs q) 0 t1
    simpa [startW] using this
  have hng:∀ u∈(inst1 t x []).1 :: ofTup qs q,∀ s t z u',u≠.g s t z u':=by
    intro u hu
    rcases List.mem_cons.1 hu with rfl | hu
    · intro s t1 z u' he
      have:=hrel
      rw [he] at this
      exact this
    · exact ofTup_no_g hu
  have hget:∀ t1,t1 < args.size→(args++Array.replicate (N - args.size) undef).getD t1 undef=args.toList[t1]?.getD undef:=by
    intro t1 ht
    rw [Array.getD_eq_getD_getElem?,Array.getElem?_append_left (by omega)]
    simp
  refine ⟨bss,by rw [hob]; exact hI,fun t1=>?_,fun t1 s tj y u hu=>?_,by simp; omega,rfl,fun t1 v1 ht hp=>?_⟩
  · rw [hob,hlook]
    by_cases ht:t1 < qs.length + 1
    · have h1:t1 < ((inst1 t x []).1 :: ofTup qs q).length:=by simp [ofTup_length]; omega
      have h2:t1 < args.toList.length:=by simp; omega
      have g1:=List.getElem?_eq_getElem h1
      have g2:=List.getElem?_eq_getElem h2
      show grep _ none _ ((args++Array.replicate (N - args.size) undef).getD t1 undef) _
      rw [hget t1 (by omega),List.getD_eq_getElem?_getD,g1,g2,Option.getD_some,Option.getD_some]
      exact grep_not_g (trep_of_vrep (hall.2 t1 _ _ g2 g1))
    · rw [List.getD_eq_getElem?_getD,List.getElem?_eq_none (by simp [ofTup_length]; omega)]
      trivial
  · rw [hlook,List.getD_eq_getElem?_getD] at hu
    by_cases ht:t1 < ((inst1 t x []).1 :: ofTup qs q).length
    · rw [List.getElem?_eq_getElem ht,Option.getD_some] at hu
      exact absurd hu (hng _ (List.getElem_mem _) _ _ _ _)
    · rw [List.getElem?_eq_none (by omega)] at hu
      cases hu
  · have ht0:t1=0:=by have:t1 < 1:=ht; omega
    subst ht0
    have hv1:v=v1:=by simpa [limW] using hp
    subst hv1
    show (args++Array.replicate (N - args.size) undef).getD 0 undef=v
    rw [hget 0 (by omega),ha]
    rfl
theorem mvT_one_no_g {t:Ty} {ob:List Ob} {u:V} {x:Tup [t]} (h:mvT [t] ob [u]=some x):∀ s t z u',u≠.g s t z u':=mvT_no_g h u (by simp)
theorem con_of_bodyW {ws:WSig} (hM:P.follows .mixedOrders=true) (hT:∀ f sig,T f=some sig→Con P f sig) {f:FuncId} {fn:Func} {c:Code} (hf:P.funcs[f]?=some fn) (hb:fn.body=some c)
    (hTL:∀ a∈loopsOf c,LoopOk P TL ⟨fn.ntmps,1⟩ a) (h:∀ x q y,ws.F x q=some y→bodyW P T TL fn ws.t ws.qs ws.rs x q=some y):ConW P f ws:=by
  refine ⟨fun M x q y w args v rest bs hF ha hv hnd hlt hrep hA=>?_⟩
  have hbody:=h x q y hF
  unfold bodyW at hbody
  rw [hb] at hbody
  simp only at hbody
  split at hbody
  case isFalse=>cases hbody
  rename_i hc
  simp only [Bool.and_eq_true] at hc
  obtain ⟨⟨hN,hq⟩,hr⟩:=hc
  obtain ⟨fp0,hst⟩:=startW_rel (Nat.le_of_ble_eq_true hN) hq ha hv hnd hlt hrep hA
  refine calls_of_wp hf hb (den_sound hM hT c hbody hTL hst ?_)
  intro e st w' fp a hk I
  have fin:∀ r y1,resOf P false st ws.rs fn.results.toList []=some r→mvT [ws.t] st.ob [look 0 st.tm]=some y1→(y1.1,r)=y→a.defers=[]∧∃ v1,(results fn a.tmps).run P w'=.ok v1 w' ∧
      ∃ vs,Ending.returned v1=.returned (resVal vs)∧w'.os=w.os∧w'.tape=w.tape∧w'.output=w.output∧w.heap.size≤w'.heap.size∧(∀ b,b < w.heap.size→b∉bs→w'.heap[b]?=w.heap[b]?) ∧
      TupRep w' (fun _=>True) ws.rs y.2 vs∧∃ bs',TyOwn w' ws.t y.1 v bs'∧bs'.Nodup∧∀ b∈bs',b∈bs∨(w.heap.size≤b∧b < w'.heap.size):=by
    intro r y1 hres hmv hr
    cases hr
    obtain ⟨vs,acc,h1,h2,h3⟩:=resOf_rel I fn.results.toList hres (vs:=[]) ⟨rfl,fun i a b ha=>by simp at ha⟩
    simp only [List.nil_append] at h2
    rw [if_neg (by simp)] at h3
    refine ⟨I.defers,resVal vs,?_,vs,rfl,I.hrel.below.os,I.hrel.below.tape,I.hrel.below.output,I.hrel.below.size,fun b hb hm=>I.hrel.below.block b ⟨hb,hm⟩,?_,?_⟩
    · have he:results fn a.tmps=(do let vs ← fn.results.mapM (readRes a); pure (if h:vs.size=1 then vs[0] else .tuple vs)):=rfl
      rw [he,Sem.run_bind,Array.mapM_eq_mapM_toList,map_eq_pure_bind,Sem.run_bind,h1]
      simp only [Result.andThen_ok,Sem.run_pure]
      rw [resVal_eq]
    · exact asTup_rel (J:=fun _=>True) I.hrel (fun _ _ _=>trivial) h3 (all2_no_g h2 (asTup_no_g h3)) (fun u _=>cov_all _ u)
    · have hpin:a.tmps.getD 0 undef=v:=I.pin 0 v (Nat.lt_succ_self 0) rfl
      have hs:=I.slots 0
      rw [hpin] at hs
      have hs':trep (cxOf (limW w bs v) M w' st.ob fp) v (look 0 st.tm):=by
        have hng:=mvT_one_no_g hmv
        cases hl:look 0 st.tm with
        | g s t z u=>exact absurd hl (hng _ _ _ _)
        | _=>rw [hl] at hs; exact hs
      obtain ⟨bs',ob1,fp1,ho,hg⟩:=mvT_rel hmv (all2_one hs') I.hrel.deep I.hrel.len
      have hp:=hg.perm.nodup_iff.2 I.hrel.nd
      obtain ⟨v2,r2,b1,b2,he1,rfl,ho1,ho2⟩:=ho
      simp only [List.cons.injEq] at he1
      obtain ⟨rfl,rfl⟩:=he1
      obtain ⟨_,rfl⟩:=ho2
      rw [List.append_nil] at hp hg
      refine ⟨b1,ho1,(List.nodup_append.1 hp).2.1,fun b hb=>?_⟩
      have hge:=I.hrel.ge b (hg.perm.mem_iff.1 (List.mem_append.2 (.inr hb)))
      by_cases hm:b∈bs
      · exact .inl hm
      · exact .inr ⟨Nat.le_of_not_lt (fun hlt=>hge.1 ⟨hlt,hm⟩),hge.2⟩
  cases e with
  | normal =>
    simp only at hk
    split at hk
    · rename_i r y1 hres hmv
      exact fin r y1 hres hmv (Option.some.inj hk)
    · cases hk
  | ret =>
    simp only at hk
    split at hk
    · rename_i r y1 hres hmv
      exact fin r y1 hres hmv (Option.some.inj hk)
    · cases hk
  | _=>cases hk
theorem slots_of {B:Lim} {M:Nat→Prop} {N:Nat} {w:World} {args:Array Value} {us:List V} {ob:List Ob} {fp:List (List Nat)} {lo:Nat} {tm:List (Nat×V)} (H:Hrel B M w w ob fp) (htm:tm=us.zipIdx.map fun p=>(p.2,p.1)) (ha:All2 (vrep (cxOf B M w ob fp)) args.toList us)
    (hN:args.size≤N) (hpv:∀ t v,t < lo→B.pv[t]?=some v→args.toList[t]?=some v):Rel B M w ⟨N,lo⟩ { tm:=tm,ob:=ob } w fp { tmps:=args++Array.replicate (N - args.size) undef,defers:=[] } := by
  have hlen:us.length=args.size:=by rw [← ha.1]; simp
  have hlook:∀ t1,look t1 tm=us.getD t1 .any:=by
    intro t1
    rw [htm]
    have:=look_zip us 0 t1
    simpa using this
  have hng:∀ u∈us,∀ s t z u',u≠.g s t z u':=by
    intro u hu s t1 z u' he
    obtain ⟨j,hj⟩:=List.getElem?_of_mem hu
    have hjl:j < args.toList.length:=by have:=lt_of_get hj; simp; omega
    have:=ha.2 j _ _ (List.getElem?_eq_getElem hjl) hj
    rw [he] at this
    exact this
  have hget:∀ t1,t1 < args.size→(args++Array.replicate (N - args.size) undef).getD t1 undef=args.toList[t1]?.getD undef:=by
    intro t1 ht
    rw [Array.getD_eq_getD_getElem?,Array.getElem?_append_left (by omega)]
    simp
  refine ⟨H,fun t1=>?_,fun t1 s tj y u hu=>?_,by simp; omega,rfl,fun t1 v1 ht hp=>?_⟩
  · show grep _ none _ _ (look t1 tm)
    rw [hlook]
    by_cases ht:t1 < args.size
    · have h1:t1 < us.length:=by omega
      have h2:t1 < args.toList.length:=by simp; omega
      have g1:=List.getElem?_eq_getElem h1
      have g2:=List.getElem?_eq_getElem h2
      show grep _ none _ ((args++Array.replicate (N - args.size) undef).getD t1 undef) _
      rw [hget t1 (by omega),List.getD_eq_getElem?_getD,g1,g2,Option.getD_some,Option.getD_some]
      exact grep_not_g (trep_of_vrep (ha.2 t1 _ _ g2 g1))
    · rw [List.getD_eq_getElem?_getD,List.getElem?_eq_none (by omega)]
      trivial
  · have hu:look t1 tm=_:=hu
    rw [hlook,List.getD_eq_getElem?_getD] at hu
    by_cases ht:t1 < us.length
    · rw [List.getElem?_eq_getElem ht,Option.getD_some] at hu
      exact absurd hu (hng _ (List.getElem_mem _) _ _ _ _)
    · rw [List.getElem?_eq_none (by omega)] at hu
      cases hu
  · have h1:=hpv t1 v1 ht hp
    have h2:t1 < args.size:=by have:=lt_of_get h1; simpa using this
    show (args++Array.replicate (N - args.size) undef).getD t1 undef=v1
    rw [hget t1 h2,h1]
    rfl
theorem startP_rel {M:Nat→Prop} {N:Nat} {t:Ty} {x:t.den} {qs:List Ty} {q:Tup qs} {w:World} {args:Array Value} {rest:List Value} {b0:Nat} {c:Array Value} {T0:TypeId} {bs:List Nat} (hN:qs.length + 1≤N) (hq:qs.all flat=true)
    (ha:args.toList=.pointer (some ⟨b0,0,none⟩) :: rest) (hb:w.heap[b0]?=some (.cells c T0 (0,0))) (hv:own w t x c.toList bs) (hnd:(b0 :: bs).Nodup) (hlt:∀ b∈bs,b < w.heap.size) (h:TupRep w M qs q rest) (hA:Amb.A w∧∀ b∈b0 :: bs,¬ Amb.G b) :
    ∃ fp,Rel (limW w (b0 :: bs) (.pointer (some ⟨b0,0,none⟩))) M w ⟨N,1⟩ (startP t x (ofTup qs q)) w fp { tmps:=args++Array.replicate (N - args.size) undef,defers:=[] } := by
  obtain ⟨os,bss,e,i⟩:=instC_rel hv []
  rw [List.nil_append] at e
  have hb0:b0 < w.heap.size:=lt_of_block hb
  have hlen:bss.length=os.length:=i.len
  have hnot:=List.nodup_cons.1 hnd
  have hfl:(bss++[[b0]]).flatten=bs++[b0] := by rw [List.flatten_append,i.flat]; rfl
  have hcells:∀ I,All2 (crep ⟨w,I,os++[.box (instC t x []).1],bss++[[b0]]⟩) c.toList (instC t x []).1:=fun I=>i.rel _ rfl (fun k o ho=>by
    show (os++_)[([]:List Ob).length + k]?=some o
    rw [List.length_nil,Nat.zero_add,List.getElem?_append_left (lt_of_get ho)]; exact ho) (fun k cc hc=>by
    show (bss++_)[([]:List Ob).length + k]?=some cc
    rw [List.length_nil,Nat.zero_add,List.getElem?_append_left (lt_of_get hc)]; exact hc)
  have hI:Hrel (limW w (b0 :: bs) (.pointer (some ⟨b0,0,none⟩))) M w w (os++[.box (instC t x []).1]) (bss++[[b0]]):=by
    refine ⟨by simp [hlen],?_,fun b hb=>?_,fun id o b1 ho hf=>?_,Bel.refl _ _,(fun b hb=>hb.1),hA.1,fun b hg=>⟨Amb.lt hA.1 hg,fun hm=>hA.2 b hm hg⟩⟩
    · rw [hfl,List.nodup_append]
      exact ⟨hnot.2,by simp,fun p hp q hq he=>by rw [he,List.mem_singleton.1 hq] at hp; exact hnot.1 hp⟩
    · rw [hfl] at hb
      have hm:b∈b0 :: bs:=by
        rcases List.mem_append.1 hb with h | h
        · exact List.mem_cons_of_mem _ h
        · simp at h; rw [h]; simp
      refine ⟨fun hk=>hk.2 hm,?_⟩
      rcases List.mem_cons.1 hm with rfl | h
      · exact hb0
      · exact hlt b h
    · by_cases hid:id < os.length
      · rw [List.getElem?_append_left hid] at ho
        rw [List.getElem?_append_left (by omega)] at hf
        obtain ⟨e,l,rfl,hr⟩:=i.rows id o b1 ho hf
        exact rowRep_deep hr
      · rw [List.getElem?_append_right (by omega)] at ho
        rw [List.getElem?_append_right (by omega)] at hf
        have h0:id - os.length=0:=by have:=lt_of_get ho; simp at this; omega
        rw [h0] at ho
        rw [hlen,h0] at hf
        simp at ho hf
        subst ho
        subst hf
        exact ⟨b0,c,T0,rfl,hb,hcells _⟩
  have hd:=all2_ofTup (cx:=cxOf (limW w (b0 :: bs) (.pointer (some ⟨b0,0,none⟩))) M w (os++[.box (instC t x []).1]) (bss++[[b0]])) (h.flat hq)
  have hp:vrep (cxOf (limW w (b0 :: bs) (.pointer (some ⟨b0,0,none⟩))) M w (os++[.box (instC t x []).1]) (bss++[[b0]])) (.pointer (some ⟨b0,0,none⟩)) (.pt os.length 0 0) :=
    ⟨.box (instC t x []).1,[b0],by simp [cxOf],by simp [cxOf,← hlen],rfl,b0,rfl,rfl⟩
  have hall:All2 (vrep (cxOf (limW w (b0 :: bs) (.pointer (some ⟨b0,0,none⟩))) M w (os++[.box (instC t x []).1]) (bss++[[b0]]))) args.toList (V.pt os.length 0 0 :: ofTup qs q):=by
    rw [ha]
    refine ⟨by simp [hd.1],fun j a b hj hb=>?_⟩
    cases j with
    | zero=>simp at hj hb; subst hj; subst hb; exact hp
    | succ j=>exact hd.2 j a b (by simpa using hj) (by simpa using hb)
  have hl:args.size≤N:=by
    have:=TupRep_length h
    have h2:args.toList.length=rest.length + 1:=by rw [ha]; rfl
    simp at h2
    omega
  refine ⟨bss++[[b0]],?_⟩
  have hst:startP t x (ofTup qs q)={ tm:=(V.pt os.length 0 0 :: ofTup qs q).zipIdx.map fun p=>(p.2,p.1),ob:=os++[.box (instC t x []).1] } := by
    simp only [startP,e]
  rw [hst]
  refine slots_of hI rfl hall hl (fun t1 v1 ht hp=>?_)
  have ht0:t1=0:=by omega
  subst ht0
  have hv1:Value.pointer (some ⟨b0,0,none⟩)=v1:=by simpa [limW] using hp
  rw [ha,← hv1]
  rfl
theorem results_run {fn:Func} {a:Act} {w':World} {vs:List Value} (h1:(fn.results.toList.mapM (readRes a)).run P w'=.ok vs w'):(results fn a.tmps).run P w'=.ok (resVal vs) w':=by
  have he:results fn a.tmps=(do let vs ← fn.results.mapM (readRes a); pure (if h:vs.size=1 then vs[0] else .tuple vs)):=rfl
  rw [he,Sem.run_bind,Array.mapM_eq_mapM_toList,map_eq_pure_bind,Sem.run_bind,h1]
  simp only [Result.andThen_ok,Sem.run_pure]
  rw [resVal_eq]
theorem con_of_bodyP {xs:VSig} (hM:P.follows .mixedOrders=true) (hT:∀ f sig,T f=some sig→Con P f sig) {f:FuncId} {fn:Func} {c:Code} (hf:P.funcs[f]?=some fn) (hb:fn.body=some c)
    (hTL:∀ a∈loopsOf c,LoopOk P TL ⟨fn.ntmps,1⟩ a) (h:∀ x q y,xs.F x q=some y→bodyP P T TL fn xs.t xs.qs xs.u xs.rs x q=some y):ConP P f xs:=by
  refine ⟨fun M x q y w args rest b0 c0 T0 bs hF ha hb0 hv hnd hlt hrep hA=>?_⟩
  have hbody:=h x q y hF
  unfold bodyP at hbody
  rw [hb] at hbody
  simp only at hbody
  split at hbody
  case isFalse=>cases hbody
  rename_i hc
  simp only [Bool.and_eq_true] at hc
  obtain ⟨⟨hN,hq⟩,hr⟩:=hc
  obtain ⟨fp0,hst⟩:=startP_rel (Nat.le_of_ble_eq_true hN) hq ha hb0 hv hnd hlt hrep hA
  refine calls_of_wp hf hb (den_sound hM hT c hbody hTL hst ?_)
  intro e st w' fp a hk I
  have fin:∀ id cs r y1,look 0 st.tm=.pt id 0 0→getAt st.ob id=some (.box cs)→resOf P false st xs.rs fn.results.toList []=some r→moved xs.u st.ob cs=some y1→(y1.1,r)=y→a.defers=[]∧∃ v1,(results fn a.tmps).run P w'=.ok v1 w' ∧
      ∃ vals,Ending.returned v1=.returned (resVal vals)∧w'.os=w.os∧w'.tape=w.tape∧w'.output=w.output∧w.heap.size≤w'.heap.size∧(∀ b,b < w.heap.size→b∉b0 :: bs→w'.heap[b]?=w.heap[b]?) ∧
      TupRep w' (fun _=>True) xs.rs y.2 vals∧∃ c' T' bs',w'.heap[b0]?=some (.cells c' T' (0,0))∧own w' xs.u y.1 c'.toList bs'∧(b0 :: bs').Nodup∧∀ b∈bs',b∈bs∨(w.heap.size≤b∧b < w'.heap.size):=by
    intro id cs r y1 hl hob hres hmv hr
    cases hr
    rw [getAt_eq] at hob
    obtain ⟨vs,acc,h1,h2,h3⟩:=resOf_rel I fn.results.toList hres (vs:=[]) ⟨rfl,fun i a b ha=>by simp at ha⟩
    simp only [List.nil_append] at h2
    rw [if_neg (by simp)] at h3
    refine ⟨I.defers,resVal vs,results_run h1,vs,rfl,I.hrel.below.os,I.hrel.below.tape,I.hrel.below.output,I.hrel.below.size,fun b hb hm=>I.hrel.below.block b ⟨hb,hm⟩,?_,?_⟩
    · exact asTup_rel (J:=fun _=>True) I.hrel (fun _ _ _=>trivial) h3 (all2_no_g h2 (asTup_no_g h3)) (fun u _=>cov_all _ u)
    · have hpin:a.tmps.getD 0 undef=.pointer (some ⟨b0,0,none⟩):=I.pin 0 _ (Nat.lt_succ_self 0) rfl
      have hs:=I.slots 0
      rw [hpin,hl] at hs
      have hs':crep (cxOf (limW w (b0 :: bs) (.pointer (some ⟨b0,0,none⟩))) M w' st.ob fp) (.pointer (some ⟨b0,0,none⟩)) (.pt id 0 0):=hs
      obtain ⟨o',q',ho',hf',hv'⟩:=hs'
      simp only [cxOf] at ho' hf'
      rw [hob] at ho'
      have e1:=Option.some.inj ho'
      subst e1
      obtain ⟨_,b1,rfl,hb1⟩:=hv'
      have hb1:b0=b1:=by simpa using hb1
      subst hb1
      obtain ⟨b1,c',T',hb1',hh,hal⟩:=I.hrel.ob id _ _ hob hf'
      simp at hb1'
      subst hb1'
      obtain ⟨mb,fp1,hown,hg⟩:=moved_rel hmv hal I.hrel.deep I.hrel.len
      have hp:=hg.perm.nodup_iff.2 I.hrel.nd
      have hat:fp1[id]?=some [b0] := by
        rcases hg.turn id _ _ hob hf' with h | ⟨_,_,dp,e,l,h⟩
        · exact h.2
        · cases h
      have hb0mb:b0∉mb:=fun hm=>(List.nodup_append.1 hp).2.2 b0 (List.mem_flatten.2 ⟨_,List.mem_of_getElem? hat,by simp⟩) b0 hm rfl
      refine ⟨c',T',mb,hh,hown,List.nodup_cons.2 ⟨hb0mb,(List.nodup_append.1 hp).2.1⟩,fun b hb=>?_⟩
      have hge:=I.hrel.ge b (hg.perm.mem_iff.1 (List.mem_append.2 (.inr hb)))
      by_cases hm:b∈b0 :: bs
      · rcases List.mem_cons.1 hm with rfl | hm
        · exact absurd hb hb0mb
        · exact .inl hm
      · exact .inr ⟨Nat.le_of_not_lt (fun hlt=>hge.1 ⟨hlt,hm⟩),hge.2⟩
  cases e with
  | normal =>
    simp only at hk
    split at hk
    case h_2=>cases hk
    rename_i id hl
    split at hk
    case h_2=>cases hk
    rename_i cs hob
    split at hk
    case h_2=>cases hk
    rename_i r y1 hr hm
    exact fin id cs r y1 hl hob hr hm (Option.some.inj hk)
  | ret =>
    simp only at hk
    split at hk
    case h_2=>cases hk
    rename_i id hl
    split at hk
    case h_2=>cases hk
    rename_i cs hob
    split at hk
    case h_2=>cases hk
    rename_i r y1 hr hm
    exact fin id cs r y1 hl hob hr hm (Option.some.inj hk)
  | _=>cases hk
theorem startU_rel {M:Nat→Prop} {N:Nat} {t:Ty} {x:t.den} {qs:List Ty} {q:Tup qs} {w:World} {args:Array Value} {v:Value} {rest:List Value} {bs:List Nat} (hN:qs.length + 1≤N) (hq:qs.all flat=true)
    (ha:args.toList=v :: rest) (hv:TyOwn w t x v bs) (hnd:bs.Nodup) (hlt:∀ b∈bs,b < w.heap.size) (h:TupRep w M qs q rest) (hA:Amb.A w∧∀ b∈bs,¬ Amb.G b) :
    ∃ fp,Rel (limW w bs v) M w ⟨N,0⟩ (startW t x (ofTup qs q)) w fp { tmps:=args++Array.replicate (N - args.size) undef,defers:=[] } := by
  obtain ⟨fp,I⟩:=startW_rel hN hq ha hv hnd hlt h hA
  exact ⟨fp,I.hrel,I.slots,I.stamps,I.size,I.defers,fun t v ht=>absurd ht (Nat.not_lt_zero t)⟩
theorem con_of_bodyU {xs:VSig} (hM:P.follows .mixedOrders=true) (hT:∀ f sig,T f=some sig→Con P f sig) {f:FuncId} {fn:Func} {c:Code} (hf:P.funcs[f]?=some fn) (hb:fn.body=some c) (F:xs.t.den→Tup xs.qs→Option (xs.u.den×Tup []))
    (hTL:∀ a∈loopsOf c,LoopOk P TL ⟨fn.ntmps,0⟩ a) (hFF:∀ x q y,xs.F x q=some y→F x q=some (y.1,())) (h:∀ x q y,F x q=some y→bodyU P T TL fn xs.t xs.qs xs.u x q=some y):ConU P f xs:=by
  refine ⟨fun M x q y w args v rest bs hF ha hv hnd hlt hrep hA=>?_⟩
  have hbody:=h x q _ (hFF x q y hF)
  unfold bodyU at hbody
  rw [hb] at hbody
  simp only at hbody
  split at hbody
  case isFalse=>cases hbody
  rename_i hc
  simp only [Bool.and_eq_true] at hc
  obtain ⟨hN,hq⟩:=hc
  obtain ⟨fp0,hst⟩:=startU_rel (Nat.le_of_ble_eq_true hN) hq ha hv hnd hlt hrep hA
  refine calls_of_wp hf hb (den_sound hM hT c hbody hTL hst ?_)
  intro e st w' fp a hk I
  have fin:∀ y1,resOf P true st [xs.u] fn.results.toList []=some y1→y1=(y.1,())→a.defers=[]∧∃ v1,(results fn a.tmps).run P w'=.ok v1 w' ∧
      ∃ r,Ending.returned v1=.returned r∧w'.os=w.os∧w'.tape=w.tape∧w'.output=w.output∧w.heap.size≤w'.heap.size∧(∀ b,b < w.heap.size→b∉bs→w'.heap[b]?=w.heap[b]?) ∧
      ∃ bs',TyOwn w' xs.u y.1 r bs'∧bs'.Nodup∧∀ b∈bs',b∈bs∨(w.heap.size≤b∧b < w'.heap.size):=by
    intro y1 hres he
    subst he
    obtain ⟨vs,acc,h1,h2,h3⟩:=resOf_rel I fn.results.toList hres (vs:=[]) ⟨rfl,fun i a b ha=>by simp at ha⟩
    simp only [List.nil_append] at h2
    rw [if_pos rfl] at h3
    have ha:=all2_no_g h2 (mvT_no_g h3)
    obtain ⟨bs',ob1,fp1,ho,hg⟩:=mvT_rel h3 ha I.hrel.deep I.hrel.len
    have hp:=hg.perm.nodup_iff.2 I.hrel.nd
    obtain ⟨v2,r2,b1,b2,rfl,rfl,ho1,ho2⟩:=ho
    obtain ⟨rfl,rfl⟩:=ho2
    rw [List.append_nil] at hp hg
    refine ⟨I.defers,v2,results_run h1,v2,rfl,I.hrel.below.os,I.hrel.below.tape,I.hrel.below.output,I.hrel.below.size,fun b hb hm=>I.hrel.below.block b ⟨hb,hm⟩,b1,ho1,(List.nodup_append.1 hp).2.1,fun b hb=>?_⟩
    have hge:=I.hrel.ge b (hg.perm.mem_iff.1 (List.mem_append.2 (.inr hb)))
    by_cases hm:b∈bs
    · exact .inl hm
    · exact .inr ⟨Nat.le_of_not_lt (fun hlt=>hge.1 ⟨hlt,hm⟩),hge.2⟩
  cases e with
  | normal=>exact fin _ hk rfl
  | ret=>exact fin _ hk rfl
  | _=>cases hk
end
end Go.Vm

namespace Go.Vm
variable [Amb]
open Go.RowKit (Below)
section
variable {B:Lim} {M:Nat→Prop} {w0 w:World} {ob:List Ob} {fp:List (List Nat)}
def Met (ob:List Ob) (fp:List (List Nat)) (used:List Nat) (b:Nat):Prop:=∃ id∈used,∃ o bs,ob[id]?=some o∧live o∧fp[id]?=some bs∧b∈bs
structure Bld (w:World) (I:Nat→Prop) (ob:List Ob) (fp:List (List Nat)) (used:List Nat) (ob1:List Ob) (fp1:List (List Nat)) (D:List Nat):Prop where
  len:fp1.length=ob1.length
  nd:(fp1.flatten++D).Nodup
  met:∀ b∈fp1.flatten++D,Met ob fp used b
  ok:∀ J:Nat→Prop,(∀ b,b < w.heap.size→I b→J b)→(∀ b∈D,J b)→∀ (id:Nat) (o:Ob) (bs:List Nat),ob1[id]?=some o→fp1[id]?=some bs→orep ⟨w,J,ob1,fp1⟩ bs o
theorem Bld.nil (w:World) (I:Nat→Prop) (ob:List Ob) (fp:List (List Nat)) (used:List Nat):Bld w I ob fp used [] [] [] :=
  ⟨rfl,List.nodup_nil,(fun b hb=>by cases hb),(fun J _ _ id o bs h=>by simp at h)⟩
theorem crep_more {w:World} {J:Nat→Prop} {ob1 os:List Ob} {fp1 bss:List (List Nat)} {v:Value} {u:V} (h:crep ⟨w,J,ob1,fp1⟩ v u):crep ⟨w,J,ob1++os,fp1++bss⟩ v u:=by
  cases u with
  | own id=>obtain ⟨o,bs,ho,hf,h⟩:=h; exact ⟨o,bs,get_append_some ho,get_append_some hf,h⟩
  | sub id i j=>obtain ⟨o,bs,ho,hf,h⟩:=h; exact ⟨o,bs,get_append_some ho,get_append_some hf,h⟩
  | pt id i off=>obtain ⟨o,bs,ho,hf,h⟩:=h; exact ⟨o,bs,get_append_some ho,get_append_some hf,h⟩
  | part id i off=>obtain ⟨o,bs,ho,hf,h⟩:=h; exact ⟨o,bs,get_append_some ho,get_append_some hf,h⟩
  | mp id=>obtain ⟨o,bs,ho,hf,h⟩:=h; exact ⟨o,bs,get_append_some ho,get_append_some hf,h⟩
  | capm f ids =>
    obtain ⟨b,hv,hc⟩:=h
    refine ⟨b,hv,hc.imp (fun c id hp=>?_)⟩
    obtain ⟨o,bs,ho,hf,h⟩:=hp
    exact ⟨o,bs,get_append_some ho,get_append_some hf,h⟩
  | _=>exact h
theorem orep_more {w:World} {J:Nat→Prop} {ob1 os:List Ob} {fp1 bss:List (List Nat)} {bs:List Nat} {o:Ob} (h:orep ⟨w,J,ob1,fp1⟩ bs o):orep ⟨w,J,ob1++os,fp1++bss⟩ bs o:=by
  cases o with
  | box us=>obtain ⟨b,c,T,h1,h2,h3⟩:=h; exact ⟨b,c,T,h1,h2,h3.imp (fun _ _=>crep_more)⟩
  | fbox us=>obtain ⟨b,c,T,fz,h1,h2,h3,h4⟩:=h; exact ⟨b,c,T,fz,h1,h2,h3,h4.imp (fun _ _=>crep_more)⟩
  | _=>exact h
theorem Met.mono {used used':List Nat} {b:Nat} (h:∀ id∈used,id∈used') (hm:Met ob fp used b):Met ob fp used' b:=by
  obtain ⟨id,hi,r⟩:=hm
  exact ⟨id,h id hi,r⟩
theorem met_new (H:Hrel B M w0 w ob fp) {used:List Nat} {id:Nat} {o:Ob} {bs:List Nat} (ho:ob[id]?=some o) (hl:live o) (hf:fp[id]?=some bs) (hu:id∉used):∀ b∈bs,Met ob fp (id :: used) b∧¬ Met ob fp used b:=by
  intro b hb
  refine ⟨⟨id,by simp,o,bs,ho,hl,hf,hb⟩,?_⟩
  rintro ⟨id',hi,o',bs',ho',hl',hf',hb'⟩
  have:=nodup_index H.nd hf hf' hb hb'
  subst this
  exact hu hi
theorem fp_nodup (H:Hrel B M w0 w ob fp) {id:Nat} {bs:List Nat} (hf:fp[id]?=some bs):bs.Nodup :=
  (List.nodup_append.1 ((flatten_set_perm hf).nodup_iff.2 H.nd)).2.1
theorem rowOf_rel (H:Hrel B M w0 w ob fp) {dp:Bool} {e:Ty} {v:Value} {u:V} {used used':List Nat} {x:List e.den} (h:rowOf ob dp e u used=some (x,used')) (hc:trep (cxOf B M w ob fp) v u) :
    ∃ bs D,(∀ id∈used,id∈used')∧hdr w e x bs v∧(∀ J:Nat→Prop,(∀ b,b < w.heap.size→imm B M w ob fp b→J b)→(∀ b∈D,J b)→rowRep w J dp e x bs)∧(bs++D).Nodup∧∀ b∈bs++D,Met ob fp used' b∧¬ Met ob fp used b:=by
  unfold rowOf at h
  split at h
  · simp only [Option.some.injEq,Prod.mk.injEq] at h
    obtain ⟨rfl,rfl⟩:=h
    exact ⟨[],[],fun _ h=>h,⟨rfl,none,hc⟩,fun _ _ _=>.inl ⟨rfl,rfl⟩,List.nodup_nil,(fun b hb=>by cases hb)⟩
  · simp only [Option.some.injEq,Prod.mk.injEq] at h
    obtain ⟨rfl,rfl⟩:=h
    exact ⟨[],[],fun _ h=>h,⟨rfl,hc⟩,fun _ _ _=>.inl ⟨rfl,rfl⟩,List.nodup_nil,(fun b hb=>by cases hb)⟩
  · rename_i id
    split at h
    · cases h
    · rename_i hu
      have hu:id∉used:=fun hm=>hu (List.any_eq_true.2 ⟨id,hm,by simp⟩)
      rw [getAt_eq] at h
      split at h
      · rename_i dp' e' l ho
        split at h
        · rename_i he
          subst he
          split at h
          · rename_i hdp
            simp only [Option.some.injEq,Prod.mk.injEq] at h
            obtain ⟨rfl,rfl⟩:=h
            obtain ⟨bs,hf,hh⟩:=crep_own_row (v:=v) hc ho
            have hmet:=met_new H ho trivial hf hu
            have hnd:=fp_nodup H hf
            have hrow:rowRep w (imm B M w ob fp) dp' e' l bs:=H.rows id _ _ _ bs ho hf
            have keep:dp'=dp→∃ bs D,(∀ i∈used,i∈id :: used)∧hdr w e' l bs v∧(∀ J:Nat→Prop,(∀ b,b < w.heap.size→imm B M w ob fp b→J b)→(∀ b∈D,J b)→rowRep w J dp e' l bs)∧(bs++D).Nodup∧∀ b∈bs++D,Met ob fp (id :: used) b∧¬ Met ob fp used b:=by
              rintro rfl
              refine ⟨bs,[],fun i hi=>by simp [hi],hh,fun J hJ _=>?_,by simpa using hnd,by simpa using hmet⟩
              rcases hrow with h | ⟨b,c,T,hb,hsz,hx⟩
              · exact .inl h
              · refine .inr ⟨b,c,T,hb,hsz,?_⟩
                cases dp' with
                | true=>exact hx
                | false =>
                  simp only [Bool.false_eq_true,if_false] at hx ⊢
                  exact ⟨hx.1,fun i hi=>rep_imp hJ (hx.2 i hi)⟩
            cases dp' with
            | true =>
              cases dp with
              | true=>exact keep rfl
              | false =>
                rcases hrow with ⟨rfl,rfl⟩ | ⟨b,c,T,hb,hsz,hx⟩
                · exact ⟨[],[],fun i hi=>by simp [hi],hh,fun _ _ _=>.inl ⟨rfl,rfl⟩,List.nodup_nil,(fun b hb=>by cases hb)⟩
                · simp only [if_true] at hx
                  obtain ⟨bss,rfl,hlen,hel⟩:=hx
                  refine ⟨[b],bss.flatten,fun i hi=>by simp [hi],hh,fun J hJ hD=>.inr ⟨b,c,T,hb,hsz,?_⟩,hnd,hmet⟩
                  simp only [Bool.false_eq_true,if_false]
                  exact ⟨trivial,fun i hi=>own_rep (hel i hi) (fun q hq=>hD q (bss_mem (by omega) hq))⟩
            | false =>
              cases dp with
              | false=>exact keep rfl
              | true =>
                have hfl:flat e'=true:=by simpa using hdp
                refine ⟨bs,[],fun i hi=>by simp [hi],hh,fun J hJ _=>?_,by simpa using hnd,by simpa using hmet⟩
                rcases hrow with h | ⟨b,c,T,hb,hsz,hx⟩
                · exact .inl h
                · simp only [Bool.false_eq_true,if_false] at hx
                  refine .inr ⟨b,c,T,hb,hsz,?_⟩
                  simp only [if_true]
                  refine ⟨List.replicate l.length [],by simp [hx.1],by simp,fun i hi=>?_⟩
                  have:(List.replicate l.length ([]:List Nat)).getD i []=[] := by simp [List.getD_eq_getElem?_getD,hi]
                  rw [this]
                  exact flat_own hfl (hx.2 i hi)
          · cases h
        · cases h
      · cases h
  · cases h
theorem preOf_rel (H:Hrel B M w0 w ob fp) {e:Ty} {v:Value} {u:V} {used used':List Nat} {x:List e.den×Nat} (h:preOf ob e u used=some (x,used')) (hc:trep (cxOf B M w ob fp) v u) :
    ∃ bs,(∀ id∈used,id∈used')∧hdr w e x.1 bs v∧(∀ J:Nat→Prop,(∀ b,b < w.heap.size→imm B M w ob fp b→J b)→preRep w J e x.1 x.2 bs)∧bs.Nodup∧∀ b∈bs,Met ob fp used' b∧¬ Met ob fp used b:=by
  unfold preOf at h
  split at h
  case h_2=>cases h
  rename_i id
  split at h
  · cases h
  rename_i hu
  have hu:id∉used:=fun hm=>hu (List.any_eq_true.2 ⟨id,hm,by simp⟩)
  rw [getAt_eq] at h
  split at h
  · rename_i e' l ho
    split at h
    case isFalse=>cases h
    rename_i he
    subst he
    simp only [Option.some.injEq,Prod.mk.injEq] at h
    obtain ⟨rfl,rfl⟩:=h
    obtain ⟨bs,hf,hh⟩:=crep_own_row (v:=v) hc ho
    refine ⟨bs,fun i hi=>by simp [hi],hh,fun J hJ=>?_,fp_nodup H hf,met_new H ho trivial hf hu⟩
    rcases H.ob id _ bs ho hf with ⟨h1,h2⟩ | ⟨b,c,T,hb,hsz,hx⟩
    · exact .inl ⟨h1,h2,rfl⟩
    · simp only [Bool.false_eq_true,if_false] at hx
      exact .inr ⟨b,c,T,hb,hsz,[],by simp [hx.1],rfl,Nat.zero_le _,fun i hi hn=>absurd hn (Nat.not_lt_zero _),fun i hi _=>rep_imp hJ (hx.2 i hi)⟩
  · rename_i e' l n ho
    split at h
    case isFalse=>cases h
    rename_i he
    subst he
    simp only [Option.some.injEq,Prod.mk.injEq] at h
    obtain ⟨rfl,rfl⟩:=h
    obtain ⟨bs,hf,hh⟩:=crep_own_pre (v:=v) hc ho
    refine ⟨bs,fun i hi=>by simp [hi],hh,fun J hJ=>?_,fp_nodup H hf,met_new H ho trivial hf hu⟩
    rcases H.ob id _ bs ho hf with h1 | ⟨b,c,T,hb,hsz,bss,h1,h2,h3,h4,h5⟩
    · exact .inl h1
    · exact .inr ⟨b,c,T,hb,hsz,bss,h1,h2,h3,h4,fun i hi hn=>rep_imp hJ (h5 i hi hn)⟩
  · cases h
theorem mpOf_rel (H:Hrel B M w0 w ob fp) {q:Ty} {v:Value} {u:V} {used used':List Nat} {x:List (q.den×Int)} (h:mpOf ob q u used=some (x,used')) (hc:trep (cxOf B M w ob fp) v u) :
    ∃ b es,(∀ id∈used,id∈used')∧v=.map (some b)∧w.heap[b]?=some (.map es es.size)∧MapRep q es x∧∀ c∈[b],Met ob fp used' c∧¬ Met ob fp used c:=by
  unfold mpOf at h
  split at h
  case h_2=>cases h
  rename_i id
  split at h
  · cases h
  rename_i hu
  have hu:id∉used:=fun hm=>hu (List.any_eq_true.2 ⟨id,hm,by simp⟩)
  rw [getAt_eq] at h
  split at h
  case h_2=>cases h
  rename_i q' l ho
  split at h
  case isFalse=>cases h
  rename_i he
  subst he
  simp only [Option.some.injEq,Prod.mk.injEq] at h
  obtain ⟨rfl,rfl⟩:=h
  obtain ⟨b,hb,hf,es,hh,hr⟩:=map_at H ho hc
  exact ⟨b,es,fun i hi=>by simp [hi],hb,hh,hr,met_new H ho trivial hf hu⟩
end
end Go.Vm

namespace Go.Vm
variable [Amb]
open Go.RowKit (Below)
section
variable {B:Lim} {M:Nat→Prop} {w0 w:World} {ob:List Ob} {fp:List (List Nat)} {I:Nat→Prop}
theorem Bld.push {used used':List Nat} {ob1:List Ob} {fp1:List (List Nat)} {D bs Dn:List Nat} {o:Ob} (h:Bld w I ob fp used ob1 fp1 D) (hu:∀ id∈used,id∈used') (hnd:(bs++Dn).Nodup)
    (hmet:∀ b∈bs++Dn,Met ob fp used' b∧¬ Met ob fp used b) (ho:∀ J:Nat→Prop,(∀ b,b < w.heap.size→I b→J b)→(∀ b∈D++Dn,J b)→orep ⟨w,J,ob1++[o],fp1++[bs]⟩ bs o) :
    Bld w I ob fp used' (ob1++[o]) (fp1++[bs]) (D++Dn):=by
  have hp:((fp1++[bs]).flatten++(D++Dn)).Perm ((fp1.flatten++D)++(bs++Dn)):=by
    simp only [List.flatten_append,List.flatten_cons,List.flatten_nil,List.append_nil,List.append_assoc]
    refine List.Perm.append_left _ ?_
    rw [← List.append_assoc,← List.append_assoc]
    exact List.perm_append_comm.append_right _
  refine ⟨by simp [h.len],hp.nodup_iff.2 (List.nodup_append.2 ⟨h.nd,hnd,fun a ha b hb he=>?_⟩),fun b hb=>?_,fun J hI hD id q qs hq hf=>?_⟩
  · subst he
    exact (hmet a hb).2 (h.met a ha)
  · rcases List.mem_append.1 (hp.mem_iff.1 hb) with hb | hb
    · exact (h.met b hb).mono hu
    · exact (hmet b hb).1
  · by_cases hlt:id < ob1.length
    · rw [List.getElem?_append_left hlt] at hq
      rw [List.getElem?_append_left (by rw [h.len]; exact hlt)] at hf
      exact orep_more (h.ok J hI (fun b hb=>hD b (by simp [hb])) id q qs hq hf)
    · have:=lt_of_get hq
      simp at this
      have he:id=ob1.length:=by omega
      subst he
      rw [List.getElem?_append_right (by omega)] at hq
      rw [List.getElem?_append_right (by rw [h.len]; omega),h.len] at hf
      simp at hq hf
      subst hq; subst hf
      exact ho J hI hD
end
end Go.Vm

namespace Go.Vm
variable [Amb]
open Go.RowKit (Below)
section
variable {B:Lim} {M:Nat→Prop} {w0 w:World} {ob:List Ob} {fp:List (List Nat)}
theorem prep_of_crep {cx:Cx} {v:Value} {u:V} {t:Ty} {x:t.den} (h:crep cx v u) (hg:getd t u=some x):rep cx.w cx.I t x [v] := by
  cases u with
  | d t' x'=>exact getd_rel (u:=.d t' x') h hg
  | nil=>exact getd_rel (u:=.nil) h hg
  | nilp=>exact getd_rel (u:=.nilp) h hg
  | _=>simp [getd] at hg
theorem unf_rel {cx:Cx} {v:Value} {u:V} (h:trep cx v u):trep cx v (unf cx.ob u):=by
  cases u with
  | own id =>
    simp only [unf]
    split
    · rename_i e l hg
      rw [getAt_eq] at hg
      obtain ⟨o,bs,h1,h2,h3⟩:crep cx v (.own id):=h
      rw [hg] at h1
      cases h1
      exact h3
    · exact h
  | rp t x off =>
    simp only [unf]
    split
    · rename_i h0
      have h0:=Nat.eq_of_beq_eq_true h0
      subst h0
      obtain ⟨ad,vs,rfl,hs,hI,hm,hr⟩:crep cx v (.rp t x 0):=h
      exact ⟨ad,vs,rfl,hs,hI,hm,hr⟩
    · exact h
  | _=>exact h
theorem data_rel {cx:Cx} {v:Value} {u:V} {t:Ty} {x:t.den} (h:trep cx v u) (hg:data t u=some x):TyRep cx.w cx.I t x v:=by
  unfold data at hg
  split at hg
  · rename_i hag
    split at hg
    · rename_i us
      obtain ⟨vs,rfl,ha⟩:=h
      have hp:All2 (prep cx.w cx.I) vs.toList us:=ha.imp (fun v u hu=>by
        cases u with
        | d t x=>exact hu
        | nil=>exact hu
        | nilp=>exact hu
        | _=>trivial)
      exact ⟨ofcells_rel hg hp,fun _=>⟨vs,rfl⟩,fun hn=>by rw [hag] at hn; cases hn⟩
    · cases hg
  · rename_i hag
    have hag:t.isAgg=false:=by simpa using hag
    have hc:crep cx v u:=by
      cases u<;>first | exact h | simp [getd] at hg
    have hr:=prep_of_crep hc hg
    exact ⟨by rw [cells_one (crep_one hc)]; exact hr,fun hn=>(by rw [hag] at hn; cases hn),fun _=>crep_one hc⟩
theorem decCells_rel (H:Hrel B M w0 w ob fp):∀ {cs:List Kc} {us:List V} {vals:List Value} {used used':List Nat} {x:kcs cs} {ob1:List Ob} {fp1:List (List Nat)} {D:List Nat},decCells ob cs us used=some (x,used') →
    All2 (crep (cxOf B M w ob fp)) vals us→Bld w (imm B M w ob fp) ob fp used ob1 fp1 D→∃ os bss Dn,(encCells ob1 cs x).2=ob1++os∧(∀ id∈used,id∈used')∧(∀ b∈bss.flatten++Dn,¬ Met ob fp used b)∧Bld w (imm B M w ob fp) ob fp used' (ob1++os) (fp1++bss) (D++Dn) ∧
      ∀ J:Nat→Prop,(∀ b,b < w.heap.size→imm B M w ob fp b→J b)→(∀ b∈D++Dn,J b)→All2 (crep ⟨w,J,ob1++os,fp1++bss⟩) vals (encCells ob1 cs x).1
  | [],[],vals,used,used',x,ob1,fp1,D,h,ha,hb=>by
    simp only [decCells,Option.some.injEq,Prod.mk.injEq] at h
    obtain ⟨_,rfl⟩:=h
    refine ⟨[],[],[],by simp [encCells],fun _ h=>h,(fun b hb=>by cases hb),by simpa using hb,fun J _ _=>?_⟩
    have:=ha.1
    have hv:vals=[] := by simpa using this
    subst hv
    exact ⟨rfl,fun i a b ha=>by simp at ha⟩
  | .d t :: cs,u :: us,vals,used,used',x,ob1,fp1,D,h,ha,hb=>by
    cases vals with
    | nil=>have:=ha.1; simp at this
    | cons v vals =>
      simp only [decCells] at h
      split at h
      · rename_i y r u2 h1 h2
        simp only [Option.some.injEq,Prod.mk.injEq] at h
        obtain ⟨rfl,rfl⟩:=h
        have hc:crep (cxOf B M w ob fp) v u:=ha.2 0 v u rfl rfl
        have hr:=data_rel (unf_rel (cx:=cxOf B M w ob fp) (trep_of_vrep (vrep_of_crep hc))) h1
        obtain ⟨os,bss,Dn,e,hu,hno,hb',hJ⟩:=decCells_rel H h2 (vals:=vals) ⟨by have:=ha.1; simpa using this,fun i a b h1 h2=>ha.2 (i + 1) a b (by simpa using h1) (by simpa using h2)⟩ hb
        refine ⟨os,bss,Dn,e,hu,hno,hb',fun J hI hD=>?_⟩
        have h3:=hJ J hI hD
        have hag:t.isAgg=false:=by
          by_cases hag:t.isAgg=true
          · obtain ⟨vs,rfl⟩:=hr.2.1 hag
            exact (crep_one hc).elim
          · simpa using hag
        have h4:rep w J t y [v] := rep_imp hI (by have:=hr.1; rwa [cells_one (crep_one hc)] at this)
        have:(encCells ob1 (.d t :: cs) (y,r)).1=.d t y :: (encCells ob1 cs r).1:=by simp [encCells,ofTy,hag]
        rw [this]
        exact all2_append (all2_one (x:=v) (y:=V.d t y) h4) h3
      · cases h
  | .row dp e :: cs,u :: us,vals,used,used',x,ob1,fp1,D,h,ha,hb=>by
    cases vals with
    | nil=>have:=ha.1; simp at this
    | cons v vals =>
      simp only [decCells] at h
      split at h
      · rename_i y u1 h1
        split at h
        · rename_i r u2 h2
          simp only [Option.some.injEq,Prod.mk.injEq] at h
          obtain ⟨rfl,rfl⟩:=h
          have hc:crep (cxOf B M w ob fp) v u:=ha.2 0 v u rfl rfl
          obtain ⟨bs,D1,hu1,hh,hrow,hnd,hmet⟩:=rowOf_rel H h1 (trep_of_vrep (vrep_of_crep hc))
          have hb1:=hb.push (o:=.row dp e y) hu1 hnd hmet (fun J hI hD=>hrow J hI (fun b hb=>hD b (by simp [hb])))
          obtain ⟨os,bss,Dn,e1,hu,hno,hb',hJ⟩:=decCells_rel H h2 (vals:=vals) ⟨by have:=ha.1; simpa using this,fun i a b h1 h2=>ha.2 (i + 1) a b (by simpa using h1) (by simpa using h2)⟩ hb1
          refine ⟨.row dp e y :: os,bs :: bss,D1++Dn,?_,fun id hi=>hu id (hu1 id hi),fun b hb=>?_,?_,fun J hI hD=>?_⟩
          · simp only [encCells]
            rw [e1]
            simp
          · simp only [List.flatten_cons,List.mem_append] at hb
            rcases hb with (hb | hb) | hb | hb
            · exact (hmet b (by simp [hb])).2
            · exact fun hm=>hno b (by simp [hb]) (hm.mono hu1)
            · exact (hmet b (by simp [hb])).2
            · exact fun hm=>hno b (by simp [hb]) (hm.mono hu1)
          · simpa using hb'
          · have h3:=hJ J hI (by simpa using hD)
            have:(encCells ob1 (.row dp e :: cs) (y,r)).1=.own ob1.length :: (encCells (ob1++[.row dp e y]) cs r).1:=rfl
            rw [this]
            refine all2_append (all2_one (x:=v) (y:=V.own ob1.length) ⟨.row dp e y,bs,?_,?_,hh⟩) (by simpa using h3)
            · simp
            · simp [← hb.len]
        · cases h
      · cases h
  | [],_ :: _,_,_,_,_,_,_,_,h,_,_=>by simp [decCells] at h
  | .d _ :: _,[],_,_,_,_,_,_,_,h,_,_=>by simp [decCells] at h
  | .row _ _ :: _,[],_,_,_,_,_,_,_,h,_,_=>by simp [decCells] at h
end
end Go.Vm

namespace Go.Vm
variable [Amb]
open Go.RowKit (Below)
section
variable {B:Lim} {M:Nat→Prop} {w0 w:World} {ob:List Ob} {fp:List (List Nat)} {a:Act} {N:Fr}
theorem Bld.pushBox {I:Nat→Prop} {u':List Nat} {ob1 os:List Ob} {fp1 bss:List (List Nat)} {D Dn:List Nat} {b:Nat} {o:Ob} (h:Bld w I ob fp u' (ob1++os) (fp1++bss) (D++Dn)) (hb:Met ob fp u' b)
    (h1:b∉fp1.flatten++D) (h2:b∉bss.flatten++Dn) (ho:∀ J:Nat→Prop,(∀ b,b < w.heap.size→I b→J b)→(∀ b∈D++Dn,J b)→orep ⟨w,J,(ob1++os)++[o],(fp1++bss)++[[b]]⟩ [b] o) :
    Bld w I ob fp u' ((ob1++os)++[o]) ((fp1++bss)++[[b]]) (D++Dn):=by
  have hnot:b∉(fp1++bss).flatten++(D++Dn):=by
    simp only [List.flatten_append,List.mem_append,not_or] at h1 h2 ⊢
    exact ⟨⟨h1.1,h2.1⟩,h1.2,h2.2⟩
  have hp:(((fp1++bss)++[[b]]).flatten++(D++Dn)).Perm (b :: ((fp1++bss).flatten++(D++Dn))):=by
    simp only [List.flatten_append,List.flatten_cons,List.flatten_nil,List.append_nil,List.append_assoc]
    have:=List.perm_middle (a:=b) (l₁:=fp1.flatten++bss.flatten) (l₂:=D++Dn)
    simpa using this
  refine ⟨by simp [h.len] ; have:=h.len; simp at this; omega,hp.nodup_iff.2 (List.nodup_cons.2 ⟨hnot,h.nd⟩),fun q hq=>?_,fun J hI hD id q qs hq hf=>?_⟩
  · rcases List.mem_cons.1 (hp.mem_iff.1 hq) with rfl | hq
    · exact hb
    · exact h.met q hq
  · by_cases hlt:id < (ob1++os).length
    · rw [List.getElem?_append_left hlt] at hq
      rw [List.getElem?_append_left (by rw [h.len]; exact hlt)] at hf
      exact orep_more (h.ok J hI hD id q qs hq hf)
    · have:=lt_of_get hq
      have he:id=(ob1++os).length:=by simp at this hlt ⊢; omega
      subst he
      rw [List.getElem?_append_right (by omega)] at hq
      rw [List.getElem?_append_right (by rw [h.len]; omega),h.len] at hf
      simp at hq hf
      subst hq; subst hf
      exact ho J hI hD
theorem Bld.give {I:Nat→Prop} {used used':List Nat} {ob1:List Ob} {fp1:List (List Nat)} {D Dn:List Nat} (h:Bld w I ob fp used ob1 fp1 D) (hu:∀ id∈used,id∈used') (hnd:Dn.Nodup)
    (hmet:∀ b∈Dn,Met ob fp used' b∧¬ Met ob fp used b):Bld w I ob fp used' ob1 fp1 (D++Dn):=by
  refine ⟨h.len,?_,fun b hb=>?_,fun J hI hD id o bs ho hf=>h.ok J hI (fun b hb=>hD b (by simp [hb])) id o bs ho hf⟩
  · rw [← List.append_assoc]
    exact List.nodup_append.2 ⟨h.nd,hnd,fun a ha b hb he=>by subst he; exact (hmet a hb).2 (h.met a ha)⟩
  · rw [← List.append_assoc] at hb
    rcases List.mem_append.1 hb with hb | hb
    · exact (h.met b hb).mono hu
    · exact (hmet b hb).1
theorem rbOf_rel (H:Hrel B M w0 w ob fp) {e:Ty} {v:Value} {u:V} {used used':List Nat} {x:e.den} (h:rbOf ob e u used=some (x,used')) (hc:trep (cxOf B M w ob fp) v u) :
    ∃ D:List Nat,(∀ id∈used,id∈used')∧D.Nodup∧(∀ b∈D,Met ob fp used' b∧¬ Met ob fp used b)∧∀ (ob1:List Ob) (fp1:List (List Nat)) (J:Nat→Prop),(∀ b,b < w.heap.size→imm B M w ob fp b→J b)→(∀ b∈D,J b)→trep ⟨w,J,ob1,fp1⟩ v (.rp e x 0):=by
  unfold rbOf at h
  split at h
  · rename_i t y off
    split at h
    · rename_i h0
      have h0:=Nat.eq_of_beq_eq_true h0
      subst h0
      split at h
      · rename_i he
        subst he
        simp only [Option.some.injEq,Prod.mk.injEq] at h
        obtain ⟨rfl,rfl⟩:=h
        refine ⟨[],fun _ h=>h,List.nodup_nil,(fun b hb=>by cases hb),fun ob1 fp1 J hI _=>?_⟩
        obtain ⟨ad,vs,rfl,hs,hi,hm,hr⟩:crep (cxOf B M w ob fp) v (.rp t y 0):=hc
        exact ⟨ad,vs,rfl,hs,hI _ hm.lt hi,hm,rep_imp hI hr⟩
      · cases h
    · cases h
  · rename_i id
    split at h
    · cases h
    · rename_i hu
      have hu:id∉used:=fun hm=>hu (List.any_eq_true.2 ⟨id,hm,by simp⟩)
      rw [getAt_eq] at h
      split at h
      · rename_i cs ho
        split at h
        · cases h
        · rename_i hown
          split at h
          · rename_i y hy
            simp only [Option.some.injEq,Prod.mk.injEq] at h
            obtain ⟨rfl,rfl⟩:=h
            obtain ⟨o,bs,ho',hf,hv⟩:crep (cxOf B M w ob fp) v (.pt id 0 0):=hc
            simp only [cxOf] at ho' hf
            rw [ho] at ho'
            cases ho'
            obtain ⟨_,b,rfl,rfl⟩:=hv
            obtain ⟨b',c,T,hb',hh,ha⟩:=H.ob id _ _ ho hf
            simp at hb'
            subst hb'
            refine ⟨[b],fun i hi=>by simp [hi],by simp,met_new H ho trivial hf hu,fun ob1 fp1 J hI hD=>?_⟩
            have hal:All2 (prep w J) c.toList cs:=⟨ha.1,fun i p q hp hq=>by
              have hcr:=ha.2 i p q hp hq
              cases q with
              | d t z=>exact rep_imp hI hcr
              | nil=>exact hcr
              | nilp=>exact hcr
              | _=>trivial⟩
            have hm:Mem w b 0 c.toList:=⟨c,T,(0,0),hh,by simp,by simp [cut]; exact List.take_of_length_le (by simp)⟩
            exact ⟨⟨b,0,none⟩,c.toList,rfl,rfl,hD b (by simp),hm,ofcells_rel hy hal⟩
          · cases h
      · cases h
  · cases h
end
end Go.Vm

namespace Go.Vm
variable [Amb]
open Go.RowKit (Below)
section
variable {B:Lim} {M:Nat→Prop} {w0 w:World} {fp:List (List Nat)} {a:Act} {N:Fr} {st:St}
theorem trep_more {w:World} {J:Nat→Prop} {ob1 os:List Ob} {fp1 bss:List (List Nat)} {v:Value} {u:V} (h:trep ⟨w,J,ob1,fp1⟩ v u):trep ⟨w,J,ob1++os,fp1++bss⟩ v u:=trep_map (fun _ _=>crep_more) h
theorem slot_trep (R:Rel B M w0 N st w fp a) (t:Nat) (hn:∀ s t' z u',look t st.tm≠.g s t' z u'):trep (cxOf B M w st.ob fp) (a.tmps.getD t undef) (look t st.tm):=by
  have:=R.slots t
  cases hl:look t st.tm with
  | g s t' z u'=>exact absurd hl (hn s t' z u')
  | _=>rw [hl] at this; exact this
def Told (w:World) (I:Nat→Prop) (a:Act) (st1:St) (fp1:List (List Nat)) (D:List Nat):Prop :=
  ∀ J:Nat→Prop,(∀ b,b < w.heap.size→I b→J b)→(∀ b∈D,J b)→∀ t,trep ⟨w,J,st1.ob,fp1⟩ (a.tmps.getD t undef) (look t st1.tm)
theorem Told.cons {I:Nat→Prop} {tm:List (Nat×V)} {ob1 os:List Ob} {dn:List Nat} {fp1 bss:List (List Nat)} {D Dn:List Nat} {t:Nat} {u:V} (h:Told w I a ⟨tm,ob1,dn⟩ fp1 D)
    (hu:∀ J:Nat→Prop,(∀ b,b < w.heap.size→I b→J b)→(∀ b∈D++Dn,J b)→trep ⟨w,J,ob1++os,fp1++bss⟩ (a.tmps.getD t undef) u):Told w I a ⟨(t,u) :: tm,ob1++os,dn⟩ (fp1++bss) (D++Dn):=by
  intro J hI hD t'
  show trep _ _ (look t' ((t,u) :: tm))
  rw [look_cons]
  split
  · rename_i he; subst he; exact hu J hI hD
  · exact trep_more (h J hI (fun b hb=>hD b (by simp [hb])) t')
theorem capIs_rel (R:Rel B M w0 N st w fp a):∀ {ss ids:List Nat} {b:Array Value},capIs st ss ids=true→CapB (cxOf B M w st.ob fp) b ids→b.size=ss.length∧∀ (i:Nat) (c:Value),b[i]?=some c→∃ s,ss[i]?=some s∧a.tmps.getD s undef=c:=by
  have key:∀ {ss ids:List Nat} {bl:List Value},capIs st ss ids=true→(bl.length=ids.length∧∀ (i:Nat) (c:Value) (id:Nat),bl[i]?=some c→ids[i]?=some id→PtB (cxOf B M w st.ob fp) c id)→bl.length=ss.length∧∀ (i:Nat) (c:Value),bl[i]?=some c→∃ s,ss[i]?=some s∧a.tmps.getD s undef=c:=by
    intro ss
    induction ss with
    | nil =>
      intro ids bl h hb
      cases ids with
      | nil=>exact ⟨hb.1,fun i c hc=>by
          have h0:bl=[] := by simpa using hb.1
          subst h0; simp at hc⟩
      | cons _ _=>cases h
    | cons s ss ih =>
      intro ids bl h hb
      cases ids with
      | nil=>cases h
      | cons id ids =>
        simp only [capIs,Bool.and_eq_true] at h
        obtain ⟨⟨h1,h2⟩,h3⟩:=h
        cases bl with
        | nil=>exact absurd hb.1 (by simp)
        | cons v bl =>
          obtain ⟨h4,h5⟩:=ih h3 (bl:=bl) ⟨by simpa using hb.1,fun i c k hc hk=>hb.2 (i + 1) c k (by simpa using hc) (by simpa using hk)⟩
          refine ⟨by simp [h4],fun i c hc=>?_⟩
          cases i with
          | succ i =>
            obtain ⟨s',hs',hv⟩:=h5 i c (by simpa using hc)
            exact ⟨s',by simpa using hs',hv⟩
          | zero =>
            simp at hc
            subst hc
            refine ⟨s,rfl,?_⟩
            split at h1
            case h_2=>cases h1
            rename_i i' hl
            have hi':=Nat.eq_of_beq_eq_true h1
            subst hi'
            have hv:=slot_trep R s (fun s t' z u' he=>by rw [hl] at he; cases he)
            rw [hl] at hv
            obtain ⟨o,bs,ho,hf,hp⟩:crep (cxOf B M w st.ob fp) (a.tmps.getD s undef) (.pt i' 0 0):=hv
            obtain ⟨o2,bs2,ho2,hf2,hp2⟩:=hb.2 0 v i' rfl rfl
            rw [ho] at ho2
            rw [hf] at hf2
            cases ho2
            cases hf2
            unfold isBoxB at h2
            have ho:st.ob[i']?=some o:=ho
            rw [getAt_eq,ho] at h2
            cases o with
            | box us =>
              obtain ⟨_,b1,e1,e2⟩:=hp
              obtain ⟨b2,e3,e4⟩:=hp2
              rw [e1] at e3
              cases e3
              rw [e2,e4]
            | fbox us =>
              obtain ⟨_,b1,e1,e2⟩:=hp
              obtain ⟨b2,e3,e4⟩:=hp2
              rw [e1] at e3
              cases e3
              rw [e2,e4]
            | _=>cases h2
  intro ss ids b h hb
  have:=key (bl:=b.toList) h ⟨by simpa using hb.1,fun i c id hc hi=>hb.2 i c id (by simpa using hc) hi⟩
  exact ⟨by simpa using this.1,fun i c hc=>this.2 i c (by simpa using hc)⟩
theorem capAt_rel {cx:Cx} {tm:List (Nat×V)} {a:Act} (hT:∀ t,trep cx (a.tmps.getD t undef) (look t tm)):∀ {ss ids:List Nat},capAt tm ss=some ids→ss.length=ids.length∧∀ (i:Nat) (c:Value) (id:Nat),(∃ s,ss[i]?=some s∧a.tmps.getD s undef=c)→ids[i]?=some id→PtB cx c id
  | [],ids,h=>by
    cases h
    exact ⟨rfl,fun i c id _ hi=>by simp at hi⟩
  | s :: ss,ids,h=>by
    unfold capAt at h
    split at h
    · rename_i i0 r hl hr
      cases h
      obtain ⟨h1,h2⟩:=capAt_rel hT hr
      refine ⟨by simp [h1],fun i c id hs hi=>?_⟩
      obtain ⟨s',hs,hv⟩:=hs
      cases i with
      | zero =>
        simp at hs hi
        subst hs
        subst hi
        have h3:=hT s
        rw [hl,hv] at h3
        obtain ⟨o,bs,ho,hf,hp⟩:crep cx c (.pt i0 0 0):=h3
        refine ⟨o,bs,ho,hf,?_⟩
        cases o with
        | box us=>exact hp.2
        | fbox us=>exact hp.2
        | _=>trivial
      | succ i=>exact h2 i c id ⟨s',by simpa using hs,hv⟩ (by simpa using hi)
    · cases h
theorem dec_rel (R:Rel B M w0 N st w fp a):∀ {sh:Shape} {used:List Nat} {x:Sden sh} {st1:St} {fp1:List (List Nat)} {D:List Nat},dec st sh used=some x→Bld w (imm B M w st.ob fp) st.ob fp used st1.ob fp1 D→Told w (imm B M w st.ob fp) a st1 fp1 D →
    ∃ fp2 D2 used2,Bld w (imm B M w st.ob fp) st.ob fp used2 (enc st1 sh x).ob fp2 D2∧Told w (imm B M w st.ob fp) a (enc st1 sh x) fp2 D2∧(enc st1 sh x).dn=st1.dn
  | [],used,x,st1,fp1,D,_,hb,ht=>⟨fp1,D,used,hb,ht,rfl⟩
  | (t,.d ty) :: r,used,x,st1,fp1,D,h,hb,ht=>by
    simp only [dec] at h
    split at h
    · rename_i y z h1 h2
      have h:=Option.some.inj h
      subst h
      have hn:∀ s t' z u',look t st.tm≠.g s t' z u':=by
        intro s t' z u' he
        rw [he] at h1
        simp only [unf,data] at h1
        split at h1
        · cases h1
        · simp [getd] at h1
      have hr:=data_rel (unf_rel (cx:=cxOf B M w st.ob fp) (slot_trep R t hn)) h1
      have:=dec_rel R (st1:={ st1 with tm:=(t,ofTy ty y) :: st1.tm }) (fp1:=fp1) (D:=D) h2 hb (by
        have:=ht.cons (os:=[]) (bss:=[]) (Dn:=[]) (t:=t) (u:=ofTy ty y) (fun J hI hD=>trep_of_vrep (vrep_ofTy ⟨rep_imp hI hr.1,hr.2⟩))
        simpa using this)
      exact this
    · cases h
  | (t,.row dp e) :: r,used,x,st1,fp1,D,h,hb,ht=>by
    simp only [dec] at h
    split at h
    · rename_i y u1 h1
      split at h
      · rename_i z h2
        have h:=Option.some.inj h
        subst h
        have hn:∀ s t' z u',look t st.tm≠.g s t' z u':=by
          intro s t' z u' he
          rw [he] at h1
          simp [rowOf] at h1
        obtain ⟨bs,D1,hu1,hh,hrow,hnd,hmet⟩:=rowOf_rel R.hrel h1 (slot_trep R t hn)
        have hb1:=hb.push (o:=.row dp e y) hu1 hnd hmet (fun J hI hD=>hrow J hI (fun b hb=>hD b (by simp [hb])))
        have:=dec_rel R (st1:={ st1 with tm:=(t,.own st1.ob.length) :: st1.tm,ob:=st1.ob++[.row dp e y] }) (fp1:=fp1++[bs]) (D:=D++D1) h2 hb1 (by
          refine ht.cons (fun J hI hD=>?_)
          exact ⟨.row dp e y,bs,by simp,by simp [← hb.len],hh⟩)
        exact this
      · cases h
    · cases h
  | (t,.mp q) :: r,used,x,st1,fp1,D,h,hb,ht=>by
    simp only [dec] at h
    split at h
    · rename_i y u1 h1
      split at h
      · rename_i z h2
        have h:=Option.some.inj h
        subst h
        have hn:∀ s t' z u',look t st.tm≠.g s t' z u':=by
          intro s t' z u' he
          rw [he] at h1
          simp [mpOf] at h1
        obtain ⟨b,es,hu1,hv,hh,hr,hmet⟩:=mpOf_rel R.hrel h1 (slot_trep R t hn)
        have hb1:=hb.push (o:=.mp q y) (bs:=[b]) (Dn:=[]) hu1 (by simp) (by simpa using hmet) (fun J hI hD=>⟨b,es,rfl,hh,hr⟩)
        have:=dec_rel R (st1:={ st1 with tm:=(t,.mp st1.ob.length) :: st1.tm,ob:=st1.ob++[.mp q y] }) (fp1:=fp1++[[b]]) (D:=D++[]) h2 hb1 (by
          refine ht.cons (fun J hI hD=>?_)
          exact ⟨.mp q y,[b],by simp,by simp [← hb.len],b,rfl,hv⟩)
        exact this
      · cases h
    · cases h
  | (t,.pre e) :: r,used,x,st1,fp1,D,h,hb,ht=>by
    simp only [dec] at h
    split at h
    · rename_i y u1 h1
      split at h
      · rename_i z h2
        have h:=Option.some.inj h
        subst h
        have hn:∀ s t' z u',look t st.tm≠.g s t' z u':=by
          intro s t' z u' he
          rw [he] at h1
          simp [preOf] at h1
        obtain ⟨bs,hu1,hh,hrow,hnd,hmet⟩:=preOf_rel R.hrel h1 (slot_trep R t hn)
        have hb1:=hb.push (o:=.pre e y.1 y.2) (Dn:=[]) hu1 (by simpa using hnd) (by simpa using hmet) (fun J hI hD=>hrow J hI)
        have:=dec_rel R (st1:={ st1 with tm:=(t,.own st1.ob.length) :: st1.tm,ob:=st1.ob++[.pre e y.1 y.2] }) (fp1:=fp1++[bs]) (D:=D++[]) h2 hb1 (by
          refine ht.cons (fun J hI hD=>?_)
          exact ⟨.pre e y.1 y.2,bs,by simp,by simp [← hb.len],hh⟩)
        exact this
      · cases h
    · cases h
  | (t,.cap f ss) :: r,used,x,st1,fp1,D,h,hb,ht=>by
    simp only [dec] at h
    split at h
    case h_2=>cases h
    rename_i f' ids hl
    split at h
    case isFalse=>cases h
    rename_i hc
    simp only [Bool.and_eq_true] at hc
    obtain ⟨hff,hci⟩:=hc
    have hff:=Nat.eq_of_beq_eq_true hff
    subst hff
    split at h
    case h_2=>cases h
    rename_i z h2
    have h:=Option.some.inj h
    subst h
    have hv:=slot_trep R t (fun s t' z u' he=>by rw [hl] at he; cases he)
    rw [hl] at hv
    obtain ⟨b,hvb,hcap⟩:∃ b,a.tmps.getD t undef=.func (.func f') #[] b∧CapB (cxOf B M w st.ob fp) b ids:=hv
    have hsame:=capIs_rel R hci hcap
    have:=dec_rel R (st1:={ st1 with tm:=(t,match capAt st1.tm ss with | some ids=>.capm f' ids | none=>.any) :: st1.tm }) (fp1:=fp1) (D:=D) h2 hb (by
      have:=ht.cons (os:=[]) (bss:=[]) (Dn:=[]) (t:=t) (u:=match capAt st1.tm ss with | some ids=>.capm f' ids | none=>.any) (fun J hI hD=>by
        have hT:=ht J hI (fun b hb=>hD b (by simpa using hb))
        simp only [List.append_nil]
        split
        · rename_i ids' hat
          obtain ⟨h3,h4⟩:=capAt_rel (a:=a) hT hat
          exact ⟨b,hvb,by rw [hsame.1,h3],fun i c id hc hi=>h4 i c id (hsame.2 i c hc) hi⟩
        · trivial)
      simpa using this)
    exact this
  | (t,.rb e) :: r,used,x,st1,fp1,D,h,hb,ht=>by
    simp only [dec] at h
    split at h
    · rename_i y u1 h1
      split at h
      · rename_i z h2
        have h:=Option.some.inj h
        subst h
        have hn:∀ s t' z u',look t st.tm≠.g s t' z u':=by
          intro s t' z u' he
          rw [he] at h1
          simp [rbOf] at h1
        obtain ⟨D1,hu1,hnd,hmet,hrp⟩:=rbOf_rel R.hrel h1 (slot_trep R t hn)
        have hb1:=hb.give hu1 hnd hmet
        have:=dec_rel R (st1:={ st1 with tm:=(t,.rp e y 0) :: st1.tm }) (fp1:=fp1) (D:=D++D1) h2 hb1 (by
          have:=ht.cons (os:=[]) (bss:=[]) (Dn:=D1) (t:=t) (u:=.rp e y 0) (fun J hI hD=>by
            have:=hrp (st1.ob++[]) (fp1++[]) J hI (fun b hb=>hD b (by simp [hb]))
            exact this)
          simpa using this)
        exact this
      · cases h
    · cases h
  | (t,.box cs) :: r,used,x,st1,fp1,D,h,hb,ht=>by
    simp only [dec] at h
    split at h
    · rename_i id hl
      split at h
      · cases h
      · rename_i hu
        have hu:id∉used:=fun hm=>hu (List.any_eq_true.2 ⟨id,hm,by simp⟩)
        rw [getAt_eq] at h
        split at h
        · rename_i vs ho
          split at h
          · rename_i y u1 h1
            split at h
            · rename_i z h2
              have h:=Option.some.inj h
              subst h
              have hs:=R.slots t
              rw [hl] at hs
              obtain ⟨o,bs,ho',hf,hv⟩:crep (cxOf B M w st.ob fp) (a.tmps.getD t undef) (.pt id 0 0):=hs
              simp only [cxOf] at ho' hf
              rw [ho] at ho'
              have e1:=Option.some.inj ho'
              subst e1
              obtain ⟨_,b,rfl,hv⟩:=hv
              obtain ⟨b',c,T,hb',hh,ha⟩:=R.hrel.ob id _ _ ho hf
              simp at hb'
              subst hb'
              have hmn:=met_new R.hrel ho trivial hf hu b (by simp)
              have hbm:Bld w (imm B M w st.ob fp) st.ob fp (id :: used) st1.ob fp1 D:=⟨hb.len,hb.nd,fun q hq=>(hb.met q hq).mono (fun i hi=>by simp [hi]),hb.ok⟩
              obtain ⟨os,bss,Dn,e2,hu2,hno,hb2,hJ⟩:=decCells_rel R.hrel h1 ha hbm
              have hb3:=hb2.pushBox (b:=b) (o:=.box (encCells st1.ob cs y).1) (hmn.1.mono hu2) (fun hm=>hmn.2 (hb.met b hm)) (fun hm=>hno b hm hmn.1) (fun J hI hD =>
                ⟨b,c,T,rfl,hh,(hJ J hI hD).imp (fun _ _=>crep_more)⟩)
              have:=dec_rel R (st1:={ st1 with tm:=(t,.pt (encCells st1.ob cs y).2.length 0 0) :: st1.tm,ob:=(encCells st1.ob cs y).2++[.box (encCells st1.ob cs y).1] }) (fp1:=(fp1++bss)++[[b]]) (D:=D++Dn) h2 (by rw [e2]; exact hb3) (by
                rw [e2]
                have:=ht.cons (os:=os++[.box (encCells st1.ob cs y).1]) (bss:=bss++[[b]]) (Dn:=Dn) (t:=t) (u:=.pt (st1.ob++os).length 0 0) (fun J hI hD=>by
                  refine ⟨.box (encCells st1.ob cs y).1,[b],?_,?_,rfl,b,rfl,hv⟩
                  · show (st1.ob++(os++[.box (encCells st1.ob cs y).1]))[(st1.ob++os).length]?=_
                    rw [← List.append_assoc,List.getElem?_append_right (Nat.le_refl _)]
                    simp
                  · show (fp1++(bss++[[b]]))[(st1.ob++os).length]?=_
                    rw [← List.append_assoc,List.getElem?_append_right (by rw [hb2.len]; exact Nat.le_refl _),hb2.len]
                    simp)
                simpa [List.append_assoc] using this)
              exact this
            · cases h
          · cases h
        · cases h
    · cases h
end
end Go.Vm

namespace Go.Vm
variable [Amb]
open Go.RowKit (Below)
section
variable {B:Lim} {M:Nat→Prop} {w0 w:World} {fp:List (List Nat)} {a:Act} {N:Fr} {st:St}
theorem dec_sound (R:Rel B M w0 N st w fp a) {sh:Shape} {x:Sden sh} (h:dec st sh []=some x):∃ fp',Rel B M w0 N (enc st0 sh x) w fp' a:=by
  obtain ⟨fp2,D2,used2,hb,ht,hd⟩:=dec_rel R (st1:=st0) (fp1:=[]) (D:=[]) h (Bld.nil _ _ _ _ _) (fun J _ _ t=>trivial)
  have hmet:∀ b∈fp2.flatten++D2,¬ B.K b∧b < w.heap.size:=by
    intro b hb'
    obtain ⟨id,_,o,bs,_,_,hf,hm⟩:=hb.met b hb'
    exact R.hrel.ge b (List.mem_flatten.2 ⟨bs,List.mem_of_getElem? hf,hm⟩)
  have hI:∀ b,b < w.heap.size→imm B M w st.ob fp b→imm B M w (enc st0 sh x).ob fp2 b:=by
    intro b hlt hi
    refine ⟨hlt,hi.2.1,fun id o bs ho hf hl hm=>?_⟩
    obtain ⟨id',_,o',bs',ho',hl',hf',hm'⟩:=hb.met b (List.mem_append.2 (.inl (List.mem_flatten.2 ⟨bs,List.mem_of_getElem? hf,hm⟩)))
    exact hi.2.2 id' o' bs' ho' hf' hl' hm'
  have hD:∀ b∈D2,imm B M w (enc st0 sh x).ob fp2 b:=by
    intro b hd
    have h1:=hmet b (by simp [hd])
    refine ⟨h1.2,fun hlt=>absurd hlt h1.1,fun id o bs ho hf hl hm=>?_⟩
    exact (List.nodup_append.1 hb.nd).2.2 b (List.mem_flatten.2 ⟨bs,List.mem_of_getElem? hf,hm⟩) b hd rfl
  have hslots:=ht _ hI hD
  refine ⟨fp2,⟨hb.len,(List.nodup_append.1 hb.nd).1,fun b hb'=>hmet b (by simp only [List.mem_append]; exact .inl hb'),hb.ok _ hI hD,R.hrel.below,R.hrel.size,R.hrel.amb⟩,fun t=>grep_not_g (hslots t),fun t s tj y u hu=>?_,R.size,R.defers,R.pin⟩
  have:=hslots t
  rw [hu] at this
  exact False.elim this
end
end Go.Vm

namespace Go.Vm
variable [Amb]
open Go.RowKit (Below)
theorem least {p:Nat→Prop} (h:∃ m,p m):∃ m,p m∧∀ k,p k→m≤k:=by
  obtain ⟨m,hm⟩:=h
  induction m using Nat.strongRecOn with
  | _ m ih =>
    by_cases hk:∃ k,k < m∧p k
    · obtain ⟨k,hlt,hp⟩:=hk
      exact ih k hlt hp
    · refine ⟨m,hm,fun k hp=>?_⟩
      rcases Nat.lt_or_ge k m with h | h
      · exact absurd ⟨k,h,hp⟩ hk
      · exact h
theorem sameExit_eq {e e':Exit} (h:sameExit e e'=true):e=e':=by
  cases e<;>cases e'<;>simp [sameExit] at h
  · subst h; rfl
  · rfl
theorem useConts_spec {R:Type} {st:St} {e:Exit} {k:Exit→St→Option R} {r:R}:∀ {os:List (Exit×Shape)},useConts st e os (contsOf k os)=some r→∃ sh y,dec st sh []=some y∧k e (enc st0 sh y)=some r
  | [],h=>by simp [useConts] at h
  | (e',sh) :: os,h=>by
    simp only [useConts,contsOf] at h
    split at h
    · rename_i he
      have he:=sameExit_eq he
      subst he
      split at h
      · rename_i y hy
        exact ⟨sh,y,hy,h⟩
      · cases h
    · exact useConts_spec h
section
variable {P:Program} {T:FuncId→Option Sig} {TL:Loops}
theorem loop_ok (hM:P.follows .mixedOrders=true) (hT:∀ f sig,T f=some sig→Con P f sig) {fn:Func} {lo:Nat} {c b:Code} (hb:fn.body=some c) (hl:loopIn (firstR b) c=some b) (hin:∀ a∈loopsOf b,LoopOk P TL ⟨fn.ntmps,lo⟩ a) {ls:LSpec} {n:Nat}
    {L:Nat→{R:Type}→Sden ls.inS→Conts R ls.outs→Option R} (hTL:∀ (R:Type) (st:St) (k:Exit→St→Option R),TL (firstR b) R st k=(match dec st ls.inS [] with | some x=>L n x (contsOf k ls.outs) | none=>none))
    (h0:∀ (R:Type) (x:Sden ls.inS) (cs:Conts R ls.outs),L 0 x cs=none) (hs:∀ (m:Nat) (R:Type) (x:Sden ls.inS) (cs:Conts R ls.outs),L (m + 1) x cs=loopStep P T TL fn lo (firstR b) ls (fun y=>L m y cs) cs x):LoopOk P TL ⟨fn.ntmps,lo⟩ b:=by
  intro R st k r h B M w0 w fp act Q I hk
  rw [hTL] at h
  split at h
  case h_2=>cases h
  rename_i x hx
  obtain ⟨fp',I'⟩:=dec_sound I hx
  let Inv:Nat→Act→World→Prop:=fun m a w=>∃ (x:Sden ls.inS) (fp:List (List Nat)),Rel B M w0 ⟨fn.ntmps,lo⟩ (enc st0 ls.inS x) w fp a∧L m x (contsOf k ls.outs)=some r
  classical
  let μ:Act→World→Nat:=fun a w=>if h:∃ m,Inv m a w then Classical.choose (least h) else 0
  refine wp_loop (fun a w=>∃ m,Inv m a w) μ ⟨n,x,fp',I',h⟩ ?_
  rintro a w hI
  have hmin:Inv (Classical.choose (least hI)) a w:=(Classical.choose_spec (least hI)).1
  have hμ:μ a w=Classical.choose (least hI):=dif_pos hI
  rw [hμ]
  generalize Classical.choose (least hI)=m at hmin
  obtain ⟨x,fp,I,hL⟩:=hmin
  cases m with
  | zero=>rw [h0] at hL; cases hL
  | succ m =>
    rw [hs] at hL
    unfold loopStep at hL
    rw [hb] at hL
    simp only at hL
    rw [hl] at hL
    simp only at hL
    refine den_sound hM hT b hL hin I fun e st' w' fp' a' he I'=>?_
    cases e with
    | normal =>
      simp only at he
      split at he
      · rename_i y hy
        obtain ⟨fp'',I''⟩:=dec_sound I' hy
        have hex:∃ m,Inv m a' w':=⟨m,y,fp'',I'',he⟩
        refine ⟨hex,?_⟩
        have:μ a' w'=Classical.choose (least hex):=dif_pos hex
        rw [this]
        exact Nat.lt_succ_of_le ((Classical.choose_spec (least hex)).2 _ ⟨y,fp'',I'',he⟩)
      · cases he
    | _ =>
      obtain ⟨sh,y,hy,hk'⟩:=useConts_spec he
      obtain ⟨fp'',I''⟩:=dec_sound I' hy
      exact hk _ _ w' fp'' a' hk' I''
end
end Go.Vm

namespace Go.Vm
variable [Amb]
open Go.RowKit (Below)
def runL {S C:Type} {Q:Type} (B:(S→Option Q)→C→S→Option Q) (cs:C):Nat→S→Option Q
  | 0,_=>none
  | k + 1,x=>B (runL B cs k) cs x
def LoopDefL (P:Program) (T:FuncId→Option Sig) (TL:Loops) (fn:Func) (lo j:Nat):Prop :=
  ∃ (ls:LSpec) (B:(R:Type)→(Sden ls.inS→Option R)→Conts R ls.outs→Sden ls.inS→Option R) (n:Nat),
    (∀ (R:Type) (st:St) (k:Exit→St→Option R),TL j R st k=(match dec st ls.inS [] with | some x=>runL (B R) (contsOf k ls.outs) n x | none=>none)) ∧
    ∀ (R:Type) (next:Sden ls.inS→Option R) (cs:Conts R ls.outs) (x:Sden ls.inS),loopStep P T TL fn lo j ls next cs x=B R next cs x
def LoopDef (P:Program) (T:FuncId→Option Sig) (TL:Loops) (fn:Func) (j:Nat):Prop:=LoopDefL P T TL fn 0 j
theorem loopsOf_in:∀ (c a:Code),a∈loopsOf c→(∃ b,loopIn (firstR a) c=some b)∧∀ x∈loopsOf a,x∈loopsOf c:=by
  intro c
  induction c with
  | seq x y ihx ihy =>
    intro a h
    simp only [loopsOf,List.mem_append] at h
    rcases h with h | h
    · obtain ⟨⟨b,h1⟩,h2⟩:=ihx a h
      exact ⟨⟨b,by simp only [loopIn,h1]⟩,fun z hz=>by simp only [loopsOf,List.mem_append]; exact .inl (h2 z hz)⟩
    · obtain ⟨⟨b,h1⟩,h2⟩:=ihy a h
      refine ⟨?_,fun z hz=>by simp only [loopsOf,List.mem_append]; exact .inr (h2 z hz)⟩
      simp only [loopIn]
      cases hx:loopIn (firstR a) x with
      | none=>exact ⟨b,h1⟩
      | some c=>exact ⟨c,rfl⟩
  | cond q x y ihx ihy =>
    intro a h
    simp only [loopsOf,List.mem_append] at h
    rcases h with h | h
    · obtain ⟨⟨b,h1⟩,h2⟩:=ihx a h
      exact ⟨⟨b,by simp only [loopIn,h1]⟩,fun z hz=>by simp only [loopsOf,List.mem_append]; exact .inl (h2 z hz)⟩
    · obtain ⟨⟨b,h1⟩,h2⟩:=ihy a h
      refine ⟨?_,fun z hz=>by simp only [loopsOf,List.mem_append]; exact .inr (h2 z hz)⟩
      simp only [loopIn]
      cases hx:loopIn (firstR a) x with
      | none=>exact ⟨b,h1⟩
      | some c=>exact ⟨c,rfl⟩
  | block id x ih =>
    intro a h
    obtain ⟨h1,h2⟩:=ih a h
    exact ⟨h1,h2⟩
  | scope x ih =>
    intro a h
    obtain ⟨h1,h2⟩:=ih a h
    exact ⟨h1,h2⟩
  | loop x ih =>
    intro a h
    simp only [loopsOf,List.mem_cons] at h
    rcases h with rfl | h
    · exact ⟨⟨a,by simp [loopIn]⟩,fun z hz=>by simp only [loopsOf,List.mem_cons]; exact .inr hz⟩
    · obtain ⟨⟨b,h1⟩,h2⟩:=ih a h
      refine ⟨?_,fun z hz=>by simp only [loopsOf,List.mem_cons]; exact .inr (h2 z hz)⟩
      simp only [loopIn]
      split
      · exact ⟨x,rfl⟩
      · exact ⟨b,h1⟩
  | _=>intro a h; simp [loopsOf] at h
theorem loopIn_mem {j:Nat}:∀ {c b:Code},loopIn j c=some b→b∈loopsOf c∧firstR b=j:=by
  intro c
  induction c with
  | seq x y ihx ihy =>
    intro b h
    simp only [loopIn] at h
    split at h
    · rename_i c hc
      cases h
      exact ⟨by simp only [loopsOf,List.mem_append]; exact .inl (ihx hc).1,(ihx hc).2⟩
    · exact ⟨by simp only [loopsOf,List.mem_append]; exact .inr (ihy h).1,(ihy h).2⟩
  | cond q x y ihx ihy =>
    intro b h
    simp only [loopIn] at h
    split at h
    · rename_i c hc
      cases h
      exact ⟨by simp only [loopsOf,List.mem_append]; exact .inl (ihx hc).1,(ihx hc).2⟩
    · exact ⟨by simp only [loopsOf,List.mem_append]; exact .inr (ihy h).1,(ihy h).2⟩
  | block id x ih=>intro b h; exact ih h
  | scope x ih=>intro b h; exact ih h
  | loop x ih =>
    intro b h
    simp only [loopIn] at h
    split at h
    · rename_i hj
      cases h
      exact ⟨by simp [loopsOf],Nat.eq_of_beq_eq_true hj⟩
    · exact ⟨by simp only [loopsOf,List.mem_cons]; exact .inr (ih h).1,(ih h).2⟩
  | _=>intro b h; simp [loopIn] at h
theorem map_inj_of_nodup {α β:Type} {f:α→β}:∀ {l:List α},(l.map f).Nodup→∀ x∈l,∀ y∈l,f x=f y→x=y
  | [],_,x,hx,_,_,_=>by cases hx
  | a :: l,h,x,hx,y,hy,e=>by
    simp only [List.map_cons,List.nodup_cons,List.mem_map] at h
    rcases List.mem_cons.1 hx with h1 | h1
    · rcases List.mem_cons.1 hy with h2 | h2
      · rw [h1,h2]
      · exact absurd ⟨y,h2,by rw [← e,h1]⟩ h.1
    · rcases List.mem_cons.1 hy with h2 | h2
      · exact absurd ⟨x,h1,by rw [e,h2]⟩ h.1
      · exact map_inj_of_nodup h.2 x h1 y h2 e
theorem loopsOf_length:∀ (c a:Code),a∈loopsOf c→SizeOf.sizeOf a < SizeOf.sizeOf c:=by
  intro c
  induction c with
  | seq x y ihx ihy =>
    intro a h
    simp only [loopsOf,List.mem_append] at h
    rcases h with h | h
    · have:=ihx a h; simp; omega
    · have:=ihy a h; simp; omega
  | cond q x y ihx ihy =>
    intro a h
    simp only [loopsOf,List.mem_append] at h
    rcases h with h | h
    · have:=ihx a h; simp; omega
    · have:=ihy a h; simp; omega
  | block id x ih=>intro a h; have:=ih a h; simp; omega
  | scope x ih=>intro a h; have:=ih a h; simp; omega
  | loop x ih =>
    intro a h
    simp only [loopsOf,List.mem_cons] at h
    rcases h with rfl | h
    · simp
    · have:=ih a h; simp; omega
  | _=>intro a h; simp [loopsOf] at h
theorem LoopDef.nil {Q:Nat→Prop}:∀ j∈([]:List Nat),Q j:=fun j h=>by cases h
theorem LoopDef.cons {Q:Nat→Prop} {j:Nat} {l:List Nat} (h:Q j) (h':∀ j∈l,Q j):∀ i∈j :: l,Q i:=fun i hi=>by
  rcases List.mem_cons.1 hi with e | hi
  · rw [e]; exact h
  · exact h' i hi
section
variable {P:Program} {T:FuncId→Option Sig} {TL:Loops}
theorem loops_ok (hM:P.follows .mixedOrders=true) (hT:∀ f sig,T f=some sig→Con P f sig) {fn:Func} {lo:Nat} {c:Code} (hb:fn.body=some c) (hnd:((loopsOf c).map firstR).Nodup)
    (h:∀ j∈(loopsOf c).map firstR,LoopDefL P T TL fn lo j):∀ a∈loopsOf c,LoopOk P TL ⟨fn.ntmps,lo⟩ a:=by
  have key:∀ (n:Nat) (a:Code),SizeOf.sizeOf a≤n→a∈loopsOf c→LoopOk P TL ⟨fn.ntmps,lo⟩ a:=by
    intro n
    induction n with
    | zero=>intro a hs ha; cases a<;>simp at hs
    | succ n ih =>
      intro a hs ha
      obtain ⟨ls,B,k,h1,h2⟩:=h (firstR a) (List.mem_map.2 ⟨a,ha,rfl⟩)
      obtain ⟨⟨b,hb1⟩,hsub⟩:=loopsOf_in c a ha
      obtain ⟨hb2,hb3⟩:=loopIn_mem hb1
      have hba:b=a:=map_inj_of_nodup hnd b hb2 a ha hb3
      subst hba
      refine loop_ok hM hT hb hb1 (fun x hx=>ih x (by have:=loopsOf_length b x hx; omega) (hsub x hx)) (n:=k) (L:=fun m {R} x cs=>runL (B R) cs m x) h1 (fun R x cs=>rfl) (fun m R x cs=>(h2 R (fun y=>runL (B R) cs m y) cs x).symm)
  intro a ha
  exact key (SizeOf.sizeOf a) a (Nat.le_refl _) ha
theorem conT_none:∀ f sig,(none:Option Sig)=some sig→Con P f sig:=fun f sig h=>by cases h
theorem conT_cons {g:Nat} {s:Sig} {T:FuncId→Option Sig} (h1:Con P g s) (h2:∀ f sig,T f=some sig→Con P f sig):∀ f sig,(if Nat.beq f g=true then some s else T f)=some sig→Con P f sig:=by
  intro f sig h
  split at h
  · rename_i he
    have:=Nat.eq_of_beq_eq_true he
    subst this
    cases h
    exact h1
  · exact h2 f sig h
theorem con_print (hM : P.follows .mixedOrders = true) (hT : ∀ f sig,T f = some sig → Con P f sig) {f : FuncId} {fn : Func} {sig : Sig} (hsw : sig.w = none) (hsx : sig.X = none) {c : Code} (hf : P.funcs[f]? = some fn) (hn : (fn.name == "runtime.NumGoroutine") = false) (hb : fn.body = some c)
    {js:List Nat} (hjs:(loopsOf c).map firstR=js) (hnd:js.Nodup) (hl:∀ j∈js,LoopDef P T TL fn j) (h:∀ x,body P T TL fn sig.ps sig.rs sig.fresh x=sig.F x):Con P f sig:=by
  subst hjs
  exact con_of_body hsw hsx hM hT hf hn hb (loops_ok hM hT hb hnd hl) (fun x y hy=>by rw [h x]; exact hy)
theorem con_printW (hM : P.follows .mixedOrders = true) (hT : ∀ f sig,T f = some sig → Con P f sig) {f : FuncId} {fn : Func} {ws : WSig} (hv : ws.v = none) (hl0 : ws.l = none) {c : Code} (hf : P.funcs[f]? = some fn) (hn : (fn.name == "runtime.NumGoroutine") = false) (hb : fn.body = some c)
    {js:List Nat} (hjs:(loopsOf c).map firstR=js) (hnd:js.Nodup) (hl:∀ j∈js,LoopDefL P T TL fn 1 j) (h:∀ x q,bodyW P T TL fn ws.t ws.qs ws.rs x q=ws.F x q):Con P f ⟨[],[],false,fun _=>none,some ws,none⟩:=by
  subst hjs
  refine ⟨fun args w=>enters_of hf hn (by rw [hb]; rfl) args w,fun ws' hws=>?_,fun ws' xs hws hx=>?_,fun ws' xs hws hx=>?_,fun ws' xs e hws hx=>?_,fun ws' ls hws hx=>?_,fun ws' xs ks hws hx=>?_,(fun X hX=>by cases hX),fun hw=>by cases hw⟩
  · cases hws
    exact con_of_bodyW hM hT hf hb (loops_ok hM hT hb hnd hl) (fun x q y hy=>by rw [h x q]; exact hy)
  · cases hws; rw [hv] at hx; cases hx
  · cases hws; rw [hv] at hx; cases hx
  · cases hws; rw [hv] at hx; cases hx
  · cases hws; rw [hl0] at hx; cases hx
  · cases hws; rw [hv] at hx; cases hx
theorem con_printP (hM : P.follows .mixedOrders = true) (hT : ∀ f sig,T f = some sig → Con P f sig) {f : FuncId} {fn : Func} {xs : VSig} (hv : xs.ptr = true) (hs0 : xs.sh = none) (hk0 : xs.ks = none) {c : Code} (hf : P.funcs[f]? = some fn) (hn : (fn.name == "runtime.NumGoroutine") = false) (hb : fn.body = some c)
    {js:List Nat} (hjs:(loopsOf c).map firstR=js) (hnd:js.Nodup) (hl:∀ j∈js,LoopDefL P T TL fn 1 j) (h:∀ x q,bodyP P T TL fn xs.t xs.qs xs.u xs.rs x q=xs.F x q):Con P f ⟨[],[],false,fun _=>none,some ⟨.unit,[],[],fun _ _=>none,some xs,none⟩,none⟩:=by
  subst hjs
  refine ⟨fun args w=>enters_of hf hn (by rw [hb]; rfl) args w,fun ws' hws=>?_,fun ws' ys hws hx _ _ _=>?_,fun ws' ys hws hx _ _ hp=>?_,fun ws' ys e hws hx _ hs=>?_,fun ws' ls hws hx=>?_,fun ws' ys ks hws hx hs=>?_,(fun X hX=>by cases hX),fun hw=>by cases hw⟩
  · cases hws
    exact ⟨fun M x q y w args v rest bs hF=>by cases hF⟩
  · cases hws
    cases hx
    exact con_of_bodyP hM hT hf hb (loops_ok hM hT hb hnd hl) (fun x q y hy=>by rw [h x q]; exact hy)
  · cases hws; cases hx; rw [hv] at hp; cases hp
  · cases hws; cases hx; rw [hs0] at hs; cases hs
  · cases hws; cases hx
  · cases hws; cases hx; rw [hk0] at hs; cases hs
theorem con_printU (hM : P.follows .mixedOrders = true) (hT : ∀ f sig,T f = some sig → Con P f sig) {f : FuncId} {fn : Func} {t u : Ty} {qs : List Ty} {F : t.den → Tup qs → Option (u.den × Tup [])} {c : Code} (hf : P.funcs[f]? = some fn) (hn : (fn.name == "runtime.NumGoroutine") = false) (hb : fn.body = some c)
    {js:List Nat} (hjs:(loopsOf c).map firstR=js) (hnd:js.Nodup) (hl:∀ j∈js,LoopDefL P T TL fn 0 j) (h:∀ x q,bodyU P T TL fn t qs u x q=F x q):Con P f ⟨[],[],false,fun _=>none,some ⟨.unit,[],[],fun _ _=>none,some ⟨false,none,none,t,qs,u,[],F⟩,none⟩,none⟩:=by
  subst hjs
  refine ⟨fun args w=>enters_of hf hn (by rw [hb]; rfl) args w,fun ws' hws=>?_,fun ws' ys hws hx _ _ hp=>?_,fun ws' ys hws hx _ _ _=>?_,fun ws' ys e hws hx _ hs=>?_,fun ws' ls hws hx=>?_,fun ws' ys ks hws hx hs=>?_,(fun X hX=>by cases hX),fun hw=>by cases hw⟩
  · cases hws
    exact ⟨fun M x q y w args v rest bs hF=>by cases hF⟩
  · cases hws; cases hx; cases hp
  · cases hws
    cases hx
    exact con_of_bodyU hM hT hf hb F (loops_ok hM hT hb hnd hl) (fun x q y hy=>hy) (fun x q y hy=>by rw [h x q]; exact hy)
  · cases hws; cases hx; cases hs
  · cases hws; cases hx
  · cases hws; cases hx; cases hs
end
end Go.Vm

namespace Go.Vm
variable [Amb]
open Go.RowKit (Below)
section
variable {P:Program}
theorem con_hand {f : FuncId} {fn : Func} {X : Clos → List Ob → List V → Tr} (hf : P.funcs[f]? = some fn) (hn : (fn.name == "runtime.NumGoroutine") = false) (hb : fn.body.isNone = false) (hX : ConX P f X) : Con P f ⟨[],[],false,fun _=>none,none,some X⟩ :=
  ⟨fun args w=>enters_of hf hn hb args w,(fun ws h=>by cases h),(fun ws vs h=>by cases h),(fun ws vs h=>by cases h),(fun ws vs e h=>by cases h),(fun ws ls h=>by cases h),(fun ws vs ks h=>by cases h),(fun Y hY=>by cases hY; exact hX),fun _ M x y w args h=>by cases h⟩
theorem con_walk {f : FuncId} {fn : Func} {ps rs : List Ty} {F : Tup ps → Option (Tup rs)} (hf : P.funcs[f]? = some fn) (hn : (fn.name == "runtime.NumGoroutine") = false) (hb : fn.body.isNone = false)
    (h:∀ (M:Nat→Prop) (x:Tup ps) (y:Tup rs) (w:World) (args:Array Value),F x=some y→TupRep w M ps x args.toList→Amb.A w→Calls P f args w fun e w'=>∃ vs,e=.returned (resVal vs)∧Below w.heap.size w w'∧TupRep w' (fun b=>M b∨w.heap.size≤b) rs y vs) :
    Con P f ⟨ps,rs,false,F,none,none⟩ :=
  ⟨fun args w=>enters_of hf hn hb args w,(fun ws h=>by cases h),(fun ws vs h=>by cases h),(fun ws vs h=>by cases h),(fun ws vs e h=>by cases h),(fun ws ls h=>by cases h),(fun ws vs ks h=>by cases h),(fun Y hY=>by cases hY),fun _ M x y w args hF hrep hA=>(h M x y w args hF hrep hA).mono fun e w' ⟨vs,h1,h2,h3⟩=>⟨vs,h1,h2,by simpa using h3⟩⟩
theorem arg_int {w:World} {M:Nat→Prop} {k:IntKind} {x:Int} {v:Value} (h:TyRep w M (.int k) x v):v=.int k x:=by
  have h1:v.cells.toList=[.int k x] := h.1
  rw [cells_one (h.2.2 rfl)] at h1
  simpa using h1
theorem arg_ptr {w:World} {M:Nat→Prop} {t:Ty} {x:t.den} {v:Value} (h:TyRep w M (.ptr t) (some x) v):∃ b o vs,v=.pointer (some ⟨b,o,none⟩)∧M b∧Mem w b o vs∧rep w M t x vs:=by
  obtain ⟨ad,vs,h1,h2,h3,h4,h5⟩:=h.1
  rw [cells_one (h.2.2 rfl)] at h1
  obtain ⟨b,o,sp⟩:=ad
  simp only at h2
  subst h2
  exact ⟨b,o,vs,by simpa using h1,h3,h4,h5⟩
theorem res_int {w:World} {J:Nat→Prop} {k:IntKind} {x:Int}:TupRep w J [.int k] (x,()) [.int k x] := ⟨_,_,rfl,⟨rfl,(fun h=>by cases h),fun _=>trivial⟩,rfl⟩
theorem tab_cells {cx:Cx} (ks:List TypeId):All2 (crep cx) (Value.nilIface :: ks.map fun k=>.iface k (.agg #[])) ((List.range (ks.length + 1)).map fun (i:Nat)=>V.ifc ks .unit ((i:Int) - 1) ()):=by
  refine ⟨by simp,fun i v u hv hu=>?_⟩
  simp only [List.getElem?_map,Option.map_eq_some_iff] at hu
  obtain ⟨j,hj,rfl⟩:=hu
  have hji:j=i:=by
    have hlt:=(List.getElem?_eq_some_iff.1 hj).1
    rw [List.getElem?_eq_getElem hlt] at hj
    simpa using (Option.some.inj hj).symm
  subst hji
  cases j with
  | zero =>
    simp at hv
    subst hv
    exact ⟨trivial,fun h=>by simp at h⟩
  | succ j =>
    simp only [List.getElem?_cons_succ,List.getElem?_map,Option.map_eq_some_iff] at hv
    obtain ⟨k,hk,rfl⟩:=hv
    refine ⟨trivial,fun _=>⟨k,#[],?_,rfl,rfl,rfl⟩⟩
    have:(((j + 1:Nat):Int) - 1).toNat=j:=by omega
    rw [this]
    exact hk
theorem con_tab {f : FuncId} {fn : Func} (ks : List TypeId) (hf : P.funcs[f]? = some fn) (hn : (fn.name == "runtime.NumGoroutine") = false) (hb : fn.body.isNone = false)
    (h:∀ w,Calls P f #[] w fun e w'=>e=.returned (.agg (Value.nilIface :: ks.map fun k=>.iface k (.agg #[])).toArray)∧Below w.heap.size w w') :
    Con P f ⟨[],[],false,fun _=>none,none,some fun _ _ vs=>match vs with | [] => .leaf (tabV ks) | _=>.fail⟩:=by
  have key:∀ {vs:List V} {v:V} {q:Option (List Ob×List Nat)} {w:Bool},trOut w (match vs with | [] => .leaf (tabV ks) | _=>.fail)=some (v,q)→vs=[]∧v=tabV ks∧q=none:=by
    intro vs v q w h
    match vs,h with
    | [],h=>cases h; exact ⟨rfl,rfl,rfl⟩
    | _ :: _,h=>cases h
  refine con_hand hf hn hb ⟨fun {cl ob vs v} ht {B M w0 w fp} args H _ ha=>?_,(fun {cl ob ob' vs v ids} ht=>by obtain ⟨_,_,h⟩:=key ht; cases h),fun {cl ob ob2 vs v} w _ ht=>ht⟩
  obtain ⟨rfl,rfl,_⟩:=key ht
  have hargs:args=#[] := by
    have:=ha.1
    simpa using this
  subst hargs
  refine (h w).mono ?_
  rintro e w' ⟨rfl,hb⟩
  exact ⟨_,rfl,hb,_,rfl,by simpa using tab_cells ks⟩
end
end Go.Vm

namespace Go.Vm
variable [Amb]
open Go.RowKit (Below)
section
variable {P:Program} {os:Array Oper} {Q:Exit→Act→World→Prop}
theorem step_value {i:Nat} {rest:List Nat} {o:Oper} {a:Act} (a':Act) {w w':World} {v:Value} (ha:a.put o.dst v=a') (hi:os[i]?=some o) (hg:o.guard=none) (hr:(execOp a.eval o).run P w=.ok (.value v) w') (h:wpOps P os Q rest a' w'):wpOps P os Q (i :: rest) a w:=by
  subst ha
  simp only [wpOps,hi,Region.wanted,hg,if_true,Oper.wp,hr,Oper.upon_value]
  exact .inl h
theorem step_skip {i:Nat} {rest:List Nat} {o:Oper} {a:Act} {w w':World} (hi:os[i]?=some o) (hg:o.guard=none) (hd:o.dst=none) (hr:(execOp a.eval o).run P w=.ok .skip w') (h:wpOps P os Q rest a w'):wpOps P os Q (i :: rest) a w:=by
  simp only [wpOps,hi,Region.wanted,hg,if_true,Oper.wp,hr,Oper.upon_skip,hd]
  exact .inl h
theorem step_enter {i:Nat} {rest:List Nat} {o:Oper} {a:Act} {w:World} {f:FuncId} {args:Array Value} (hi:os[i]?=some o) (hg:o.guard=none) (hr:(execOp a.eval o).run P w=.ok (.enter f args) w) (h:Calls P f args w fun e w'=>∃ v,e=.returned v∧wpOps P os Q rest (a.put o.dst v) w'):wpOps P os Q (i :: rest) a w:=by
  simp only [wpOps,hi,Region.wanted,hg,if_true,Oper.wp,hr,Oper.upon_enter]
  refine .inl (h.mono ?_)
  rintro e w' ⟨v,rfl,hv⟩
  exact hv
theorem fill_fold:∀ (l:List Value) (k:Nat) (z:Array Value),z.size=k + l.length→((l.zipIdx k).foldl (fun cs (q:Value×Nat)=>cs.setIfInBounds (0 + q.2) q.1) z).toList=z.toList.take k++l
  | [],k,z,h=>by
    simp at h
    simp only [List.zipIdx_nil,List.foldl_nil,List.append_nil]
    rw [List.take_of_length_le (by simp [h])]
  | x :: l,k,z,h=>by
    simp only [List.length_cons] at h
    rw [List.zipIdx_cons,List.foldl_cons,fill_fold l (k + 1) _ (by simp; omega)]
    simp only [Nat.zero_add,Array.toList_setIfInBounds]
    rw [List.take_set,List.take_add_one]
    have hk:k < z.toList.length:=by simp; omega
    rw [List.getElem?_eq_getElem hk]
    simp only [Option.toList_some]
    have hl:(List.take k z.toList).length=k:=by rw [List.length_take]; omega
    rw [List.set_append_right _ _ (by omega),hl,Nat.sub_self]
    simp
theorem fill_one {p z:Array Value} (h:z.size=p.size) {n:Nat} (hn:p.size=n):Instr.fill (#[(0,n)][·]?) z [(0,.agg p)]=some p:=by
  simp only [Instr.fill]
  have e:(#[(0,n)]:Array (Nat×Nat))[0]?=some (0,n):=rfl
  rw [e]
  simp only [Value.cells,hn,ne_eq,not_true,decide_false,Bool.false_or,Nat.zero_add,h,gt_iff_lt,Nat.lt_irrefl,if_false,Bool.or_self]
  rw [if_neg (by simp)]
  congr 1
  apply Array.ext'
  have:=fill_fold p.toList 0 z (by simp [h])
  simp only [List.take_zero,List.nil_append,Nat.zero_add] at this
  rw [← Array.foldl_toList,Array.toList_zipIdx]
  exact this
theorem run_box {ρ:Operand→Value} {o:Oper} {t:TypeId} {x:Operand} {p:Array Value} (ho:o.op=.box t x) (hx:ρ x=.agg p) (w:World):(execOp ρ o).run P w=.ok (.value (.pointer (some ⟨w.heap.size,0,none⟩))) (w.alloc (.cells p t)):=by
  simp only [execOp,ho,hx,Instr.box,Sem.run_bind,Result.andThen_ok,newVar,newRow,run_newObj,Sem.run_pure]
  rfl
theorem run_move {ρ:Operand→Value} {o:Oper} {x:Operand} {v:Value} (ho:o.op=.move x) (hx:ρ x=v) (w:World):(execOp ρ o).run P w=.ok (.value v) w:=by simp [execOp,ho,hx]
theorem run_assign {ρ:Operand→Value} {o:Oper} {x:Operand} {v:Value} (ho:o.op=.assign x) (hx:ρ x=v) (w:World):(execOp ρ o).run P w=.ok (.value v) w:=by simp [execOp,ho,hx]
theorem run_loadA {ρ:Operand→Value} {o:Oper} {t:TypeId} {x:Operand} (ho:o.op=.load t x) {i:TypeInfo} (hag:aggT P t=some true) (hi:P.info? t=some i) {w:World} {b:Nat} {p:Array Value} {T:TypeId} {fz:Nat×Nat} (hx:ρ x=.pointer (some ⟨b,0,none⟩))
    (hb:w.heap[b]?=some (.cells p T fz)) (hs:i.size=p.size):(execOp ρ o).run P w=.ok (.value (.agg p)) w:=by
  have hm:Mem w b 0 p.toList:=⟨p,T,fz,hb,by simp,by show (p.toList.drop 0).take p.toList.length=p.toList; rw [List.drop_zero,List.take_length]⟩
  simp only [execOp,ho,hx,Instr.loadAt,Instr.sureAddr,Sem.run_bind,Sem.run_pure,Result.andThen_ok,loadVar_run (ad:=⟨b,0,none⟩) hag hi rfl hm (by simp [hs]) (fun h=>by cases h)]
  rfl
theorem run_loadI {ρ:Operand→Value} {o:Oper} {t:TypeId} {x:Operand} (ho:o.op=.load t x) {i:TypeInfo} (hag:aggT P t=some false) (hi:P.info? t=some i) (hs:i.size=1) {w:World} {b off:Nat} {p:Array Value} {T:TypeId} {fz:Nat×Nat} {v:Value} (hx:ρ x=.pointer (some ⟨b,off,none⟩))
    (hb:w.heap[b]?=some (.cells p T fz)) (hv:p[off]?=some v):(execOp ρ o).run P w=.ok (.value v) w:=by
  have hlt:off < p.size:=(Array.getElem?_eq_some_iff.1 hv).1
  have hm:Mem w b off [v] := by
    refine ⟨p,T,fz,hb,by simp; omega,?_⟩
    have:p.toList.drop off=v :: p.toList.drop (off + 1):=by
      rw [List.drop_eq_getElem_cons (by simpa using hlt)]
      congr 1
      have:=(Array.getElem?_eq_some_iff.1 hv).2
      simpa using this
    simp [cut,this]
  simp only [execOp,ho,hx,Instr.loadAt,Instr.sureAddr,Sem.run_bind,Sem.run_pure,Result.andThen_ok,loadVar_run (ad:=⟨b,off,none⟩) hag hi rfl hm (by simp [hs]) (fun h=>rfl)]
  rfl
theorem run_build1 {ρ:Operand→Value} {o:Oper} {t:TypeId} {x:Operand} {v:Value} {p:Array Value} (ho:o.op=.build t #[(0,x)]) (hx:ρ x=v) (hb:P.built t [(0,v)]=some p) (w:World):(execOp ρ o).run P w=.ok (.value (.agg p)) w:=by
  simp only [execOp,ho,Sem.run_bind]
  have h1:=run_build (P:=P) w t #[(0,v)] p hb
  have:(#[(0,x)]:Array (Nat×Operand)).map (fun (i,x)=>(i,ρ x))=#[(0,v)] := by simp [hx]
  rw [this,h1]
  rfl
theorem run_iface {ρ:Operand→Value} {o:Oper} {t:TypeId} {x:Operand} {v:Value} {fs:Array Field} (ho:o.op=.makeInterface t x) (hx:ρ x=v) (hu:P.underlying t=some (.struct fs)) (w:World):(execOp ρ o).run P w=.ok (.value (.iface t v)) w:=by
  simp only [execOp,ho,hx,Instr.makeInterface,Sem.run_bind,run_underlying hu,Result.andThen_ok,Sem.run_pure]
def makerCode (tF tS tI:TypeId) (L:Nat→String×Array Edge):Code :=
  .seq (.region 0 #[⟨some 1,.box tF (.tmp 0),0,(L 0).1,(L 0).2,none⟩,⟨some 2,.assign (.const .nilIface),tI,(L 1).1,(L 1).2,none⟩] false)
    (.seq (.region 1 #[⟨some 3,.load tF (.tmp 1),tF,(L 2).1,(L 2).2,none⟩,⟨some 4,.build tS #[(0,.tmp 3)],tS,(L 3).1,(L 3).2,none⟩,⟨some 5,.makeInterface tS (.tmp 4),tI,(L 4).1,(L 4).2,none⟩,⟨some 2,.assign (.tmp 5),tI,(L 5).1,(L 5).2,none⟩] false) .ret)
structure WrapOk (P:Program) (tF tS:TypeId) (n:Nat):Prop where
  agg:aggT P tF=some true
  info:∃ i,P.info? tF=some i∧i.size=n
  wrap:∃ i fs z,P.info? tS=some i∧P.underlying tS=some (.struct fs)∧i.zero=some z∧z.cells.size=n∧fs.toList.mapM (fun f=>(P.info? f.type).map fun i=>(f.offset,i.size))=some [(0,n)]
theorem maker_calls {tF tS tI:TypeId} {n:Nat} (hw:WrapOk P tF tS n) {fi:FuncId} {fn:Func} {L:Nat→String×Array Edge} (hf:P.funcs[fi]?=some fn) (hb:fn.body=some (makerCode tF tS tI L)) (hn:fn.ntmps=6) (hres:fn.results=#[.tmp 2]) {p:Array Value} (hp:p.size=n) (w:World) :
    Calls P fi #[.agg p] w fun e w'=>e=.returned (.iface tS (.agg p))∧Below w.heap.size w w':=by
  obtain ⟨iF,hiF,hsF⟩:=hw.info
  obtain ⟨iS,fs,z,hiS,huS,hz,hzn,hpl⟩:=hw.wrap
  refine calls_of_wp hf hb ?_
  rw [hn]
  refine wp_seq (wp_region ?_)
  show wpOps P _ _ [0,1] ⟨#[.agg p,undef,undef,undef,undef,undef],[]⟩ w
  refine step_value (i:=0) ⟨#[.agg p,(.pointer (some ⟨w.heap.size,0,none⟩)),undef,undef,undef,undef],[]⟩ (v:=(.pointer (some ⟨w.heap.size,0,none⟩))) rfl rfl rfl (run_box (by rfl) (by rfl) w) ?_
  refine step_value (i:=1) ⟨#[.agg p,(.pointer (some ⟨w.heap.size,0,none⟩)),.nilIface,undef,undef,undef],[]⟩ (v:=.nilIface) rfl rfl rfl (run_assign (by rfl) (by rfl) _) ?_
  show (Code.wp P _ _ _ _)
  refine wp_seq (wp_region ?_)
  show wpOps P _ _ [0,1,2,3] _ _
  have hb1:(w.alloc (.cells p tF)).heap[w.heap.size]?=some (.cells p tF (0,0)):=by
    show (w.heap.push _)[w.heap.size]?=_
    simp
  have hbu:P.built tS [(0,.agg p)]=some p:=by
    simp only [Program.built,hiS,huS,hz,hpl]
    exact fill_one (by rw [hzn,hp]) hp
  refine step_value (i:=0) ⟨#[.agg p,(.pointer (some ⟨w.heap.size,0,none⟩)),.nilIface,.agg p,undef,undef],[]⟩ (v:=.agg p) rfl rfl rfl (run_loadA (b:=w.heap.size) (p:=p) (T:=tF) (fz:=(0,0)) (x:=.tmp 1) (by rfl) hw.agg hiF (by rfl) hb1 (by rw [hsF,hp])) ?_
  refine step_value (i:=1) ⟨#[.agg p,(.pointer (some ⟨w.heap.size,0,none⟩)),.nilIface,.agg p,.agg p,undef],[]⟩ (v:=.agg p) rfl rfl rfl (run_build1 (x:=.tmp 3) (by rfl) (by rfl) hbu _) ?_
  refine step_value (i:=2) ⟨#[.agg p,(.pointer (some ⟨w.heap.size,0,none⟩)),.nilIface,.agg p,.agg p,.iface tS (.agg p)],[]⟩ (v:=.iface tS (.agg p)) rfl rfl rfl (run_iface (x:=.tmp 4) (by rfl) (by rfl) huS _) ?_
  refine step_value (i:=3) ⟨#[.agg p,(.pointer (some ⟨w.heap.size,0,none⟩)),.iface tS (.agg p),.agg p,.agg p,.iface tS (.agg p)],[]⟩ (v:=.iface tS (.agg p)) rfl rfl rfl (run_assign (by rfl) (by rfl) _) ?_
  show (Code.wp P _ _ _ _)
  refine wp_ret ?_
  refine ⟨rfl,.iface tS (.agg p),?_,rfl,(Below.refl _ _).alloc (Nat.le_refl _) _⟩
  refine results_run (vs:=[.iface tS (.agg p)]) ?_
  rw [hres]
  simp [readRes]
theorem run_insert {ρ:Operand→Value} {o:Oper} {t kt et:TypeId} {m k x:Operand} {w:World} {b:Nat} {kk:Int} {v:Value} {es:Array MapEntry} (ho:o.op=.insert t m k x) (hm:ρ m=.map (some b)) (hk:ρ k=.int .i64 kk) (hx:ρ x=v)
    (hT:P.underlying t=some (.map kt et)) (hkt:P.underlying kt=some (.int .i64)) (hb:w.heap[b]?=some (.map es es.size)) (hf:Instr.findNow (.int .i64) (.int .i64 kk) es.toList 0=some none) :
    ∃ w',(execOp ρ o).run P w=.ok .skip w'∧w'.heap[b]?=some (.map (es.push ⟨.int .i64 kk,v,es.size⟩) (es.push ⟨.int .i64 kk,v,es.size⟩).size)∧OnlyAt b w w':=by
  refine ⟨{ w with heap:=w.heap.setIfInBounds b (.map (es.push ⟨.int .i64 kk,v,es.size⟩) (es.size + 1)) },?_,?_,onlyAt_set _⟩
  · have hc:(Instr.checkKey false 10000 kt (.int .i64 kk)).run P w=.ok () w:=by
      have he:Instr.checkKey false 10000 kt (.int .i64 kk)=Instr.checkKey false (9999 + 1) kt (.int .i64 kk):=rfl
      rw [he]
      unfold Instr.checkKey
      simp [run_underlying hkt]
    simp only [execOp,ho,hm,hk,hx,Instr.mapUpdate,Sem.run_bind,run_underlying hT,Result.andThen_ok,MapKept.run_getObj_map hb,hc,MapKept.run_findKey hkt hf,MapKept.run_setObj_map _ hb,Sem.run_pure]
  · rw [heap_set_at hb]
    simp
theorem run_lookupF {ρ:Operand→Value} {o:Oper} {t kt et:TypeId} {m k:Operand} {w:World} {b c:Nat} {kk:Int} {v z:Value} {i:TypeInfo} {es:Array MapEntry} {r:Option (Nat×Value)} (ho:o.op=.lookup t m k true) (hm:ρ m=.map (some b)) (hk:ρ k=.int .i64 kk)
    (hT:P.underlying t=some (.map kt et)) (hkt:P.underlying kt=some (.int .i64)) (hi:P.info? et=some i) (hz:i.zero=some z) (hb:w.heap[b]?=some (.map es c)) (hf:Instr.findNow (.int .i64) (.int .i64 kk) es.toList 0=some r) (hv:v=r.elim z Prod.snd) :
    (execOp ρ o).run P w=.ok (.value (.tuple #[v,.bool r.isSome])) w:=by
  have hc:(Instr.checkKey es.isEmpty 10000 kt (.int .i64 kk)).run P w=.ok () w:=by
    have he:Instr.checkKey es.isEmpty 10000 kt (.int .i64 kk)=Instr.checkKey es.isEmpty (9999 + 1) kt (.int .i64 kk):=rfl
    rw [he]
    unfold Instr.checkKey
    simp [run_underlying hkt]
  have hzr:(zeroValue et).run P w=.ok z w:=by simp [zeroValue,run_typeInfo w hi,hz]
  subst hv
  cases r with
  | none=>simp [execOp,ho,hm,hk,Instr.lookup,Sem.run_bind,run_underlying hT,Result.andThen_ok,MapKept.run_getObj_map hb,hc,MapKept.run_findKey hkt hf,hzr]
  | some q=>simp [execOp,ho,hm,hk,Instr.lookup,Sem.run_bind,run_underlying hT,Result.andThen_ok,MapKept.run_getObj_map hb,hc,MapKept.run_findKey hkt hf]
theorem run_fieldAddr {ρ:Operand→Value} {o:Oper} {t:TypeId} {x:Operand} {f off n b:Nat} {ag:Bool} (ho:o.op=.fieldAddr t x f) (hx:ρ x=.pointer (some ⟨b,0,none⟩)) (hf:fieldOf P t f=some (off,n,ag)) (w:World):(execOp ρ o).run P w=.ok (.value (.pointer (some ⟨b,off,none⟩))) w:=by
  obtain ⟨fs,q,i,hu,hq,hag,hi,hn,hn0,rfl⟩:=fieldOf_eq hf
  have hsz:¬ i.size=0:=by omega
  have e:((⟨b,0,none⟩:Addr).add q.offset)=⟨b,q.offset,none⟩:=by
    unfold Addr.add
    split
    · rename_i h0; simp [h0]
    · simp
  simp [execOp,ho,Instr.fieldAt,run_underlying hu,hq,hx,Instr.sureAddr,fieldPlace,sizeOf_run hi,hsz,e]
theorem run_extractT {ρ:Operand→Value} {o:Oper} {x:Operand} {vs:Array Value} {v:Value} {i:Nat} (ho:o.op=.extract x i) (hx:ρ x=.tuple vs) (hv:vs[i]?=some v) (w:World):(execOp ρ o).run P w=.ok (.value v) w:=by
  simp [execOp,ho,hx,Instr.extract,hv]
theorem run_notB {ρ:Operand→Value} {o:Oper} {t:TypeId} {x:Operand} {b c:Bool} (ho:o.op=.unOp .not t x) (hx:ρ x=.bool b) (hc:c=!b) (w:World):(execOp ρ o).run P w=.ok (.value (.bool c)) w:=by
  subst hc
  simp [execOp,ho,hx,Op.unary]
theorem run_callT {ρ:Operand→Value} {o:Oper} {c:Call} {x y:Operand} {v:Value} {f:FuncId} (ho:o.op=.call ⟨.value x,#[y],c.argTypes⟩) (hx:ρ x=.func (.func f) #[] #[]) (hy:ρ y=v) (hen:∀ args w,(callFunc f args).run P w=.ok (.enter f args) w) (w:World):(execOp ρ o).run P w=.ok (.enter f #[v]) w:=by
  simp only [execOp,ho,resolve,hx,Deferred.ofValue,Sem.run_bind,Sem.run_pure,Result.andThen_ok,invoke,hen]
  simp [hy]
def pickCode (tF tK tM tR tE tI tB fld:Nat) (g:Nat→FuncId) (L:Nat→String×Array Edge):Code :=
  let op:=fun (i:Nat) (d:Option Nat) (o:Op) (t:TypeId)=>(⟨d,o,t,(L i).1,(L i).2,none⟩:Oper)
  let fv:=fun (i:Nat)=>Operand.func (g i)
  .seq (.region 0 #[op 0 (some 1) (.box tF (.tmp 0)) 0,op 1 (some 2) (.assign (.const .nilIface)) tI,op 2 (some 3) (.assign (.const (.bool false))) tB] false)
  (.seq (.region 1 #[op 3 (some 7) (.makeMap tM none) tM,op 4 none (.insert tM (.tmp 7) (.const (.int .i64 1)) (fv 0)) 0,op 5 none (.insert tM (.tmp 7) (.const (.int .i64 2)) (fv 1)) 0,op 6 none (.insert tM (.tmp 7) (.const (.int .i64 3)) (fv 2)) 0,op 7 none (.insert tM (.tmp 7) (.const (.int .i64 4)) (fv 3)) 0,op 8 (some 8) (.move (.tmp 7)) tM,op 9 (some 4) (.assign (.tmp 8)) tM] false)
  (.seq (.region 2 #[op 10 (some 10) (.move (.tmp 4)) tM,op 11 (some 11) (.fieldAddr tF (.tmp 1) fld) 0,op 12 (some 12) (.load tK (.tmp 11)) tK,op 13 (some 13) (.lookup tM (.tmp 10) (.tmp 12) true) tR,op 14 (some 9) (.move (.tmp 13)) tR,op 15 (some 14) (.extract (.tmp 9) 0) tE,op 16 (some 15) (.extract (.tmp 9) 1) tB,op 17 (some 5) (.assign (.tmp 14)) tE,op 18 (some 6) (.assign (.tmp 15)) tB] false)
  (.seq (.seq (.region 3 #[op 19 (some 16) (.move (.tmp 6)) tB,op 20 (some 17) (.unOp .not tB (.tmp 16)) tB] false)
    (.cond (.tmp 17) (.seq (.region 4 #[op 21 (some 2) (.assign (.const .nilIface)) tI,op 22 (some 3) (.assign (.const (.bool false))) tB] false) .ret) .skip))
  (.seq (.region 5 #[op 23 (some 18) (.move (.tmp 5)) tE,op 24 (some 19) (.load tF (.tmp 1)) tF,op 25 (some 20) (.call ⟨.value (.tmp 18),#[.tmp 19],#[tF]⟩) tI,op 26 (some 2) (.assign (.tmp 20)) tI,op 27 (some 3) (.assign (.const (.bool true))) tB] false) .ret))))
structure PickOk (P:Program) (tF tK tM tE fld off n:Nat):Prop where
  agg:aggT P tF=some true
  info:∃ i,P.info? tF=some i∧i.size=n
  fld:∃ m ag,fieldOf P tF fld=some (off,m,ag)
  kagg:aggT P tK=some false
  kinfo:∃ i,P.info? tK=some i∧i.size=1
  map:∃ kt et i z,P.underlying tM=some (.map kt et)∧P.underlying kt=some (.int .i64)∧P.info? et=some i∧i.zero=some z
theorem pick_head {tF tK tM tR tE tI tB fld off n:Nat} (hp:PickOk P tF tK tM tE fld off n) {f:FuncId} {fn:Func} {g:Nat→FuncId} {L:Nat→String×Array Edge} (hf:P.funcs[f]?=some fn) (hb:fn.body=some (pickCode tF tK tM tR tE tI tB fld g L)) (hn:fn.ntmps=21)
    {p:Array Value} {kd:Int} (hps:p.size=n) (hkd:p[off]?=some (.int .i64 kd)) (w:World) {R:Ending→World→Prop} {r:Option (Nat×Value)}
    (hr:Instr.findNow (.int .i64) (.int .i64 kd) [⟨.int .i64 1,.func (.func (g 0)) #[] #[],0⟩,⟨.int .i64 2,.func (.func (g 1)) #[] #[],1⟩,⟨.int .i64 3,.func (.func (g 2)) #[] #[],2⟩,⟨.int .i64 4,.func (.func (g 3)) #[] #[],3⟩] 0=some r)
    (hk:∀ (w':World) (b1:Nat) (z:Value) (vv:Value),Below w.heap.size w w'→w'.heap[w.heap.size]?=some (.cells p tF (0,0))→vv=r.elim z Prod.snd →
      Code.wp P (.seq (.seq (.region 3 #[⟨some 16,.move (.tmp 6),tB,(L 19).1,(L 19).2,none⟩,⟨some 17,.unOp .not tB (.tmp 16),tB,(L 20).1,(L 20).2,none⟩] false)
          (.cond (.tmp 17) (.seq (.region 4 #[⟨some 2,.assign (.const .nilIface),tI,(L 21).1,(L 21).2,none⟩,⟨some 3,.assign (.const (.bool false)),tB,(L 22).1,(L 22).2,none⟩] false) .ret) .skip))
        (.seq (.region 5 #[⟨some 18,.move (.tmp 5),tE,(L 23).1,(L 23).2,none⟩,⟨some 19,.load tF (.tmp 1),tF,(L 24).1,(L 24).2,none⟩,⟨some 20,.call ⟨.value (.tmp 18),#[.tmp 19],#[tF]⟩,tI,(L 25).1,(L 25).2,none⟩,⟨some 2,.assign (.tmp 20),tI,(L 26).1,(L 26).2,none⟩,⟨some 3,.assign (.const (.bool true)),tB,(L 27).1,(L 27).2,none⟩] false) .ret)) (bodyPost P fn R) ⟨#[.agg p,(.pointer (some ⟨w.heap.size,0,none⟩)),.nilIface,(.bool false),(.map (some b1)),vv,(.bool r.isSome),(.map (some b1)),(.map (some b1)),(.tuple #[vv,.bool r.isSome]),(.map (some b1)),(.pointer (some ⟨w.heap.size,off,none⟩)),(.int .i64 kd),(.tuple #[vv,.bool r.isSome]),vv,(.bool r.isSome),undef,undef,undef,undef,undef],[]⟩ w') :
    Calls P f #[.agg p] w R:=by
  obtain ⟨iF,hiF,hsF⟩:=hp.info
  obtain ⟨m,ag,hfl⟩:=hp.fld
  obtain ⟨iK,hiK,hsK⟩:=hp.kinfo
  obtain ⟨kt,et,iE,z,hT,hkt,hiE,hz⟩:=hp.map
  refine calls_of_wp hf hb ?_
  rw [hn]
  have ha0:({ tmps:=#[Value.agg p]++Array.replicate (21 - (#[Value.agg p]:Array Value).size) undef,defers:=[] }:Act)=⟨#[.agg p,undef,undef,undef,undef,undef,undef,undef,undef,undef,undef,undef,undef,undef,undef,undef,undef,undef,undef,undef,undef],[]⟩:=by kernel_rfl
  rw [ha0]
  clear ha0
  refine wp_seq (wp_region ?_)
  show wpOps P _ _ [0,1,2] _ _
  refine step_value (i:=0) ⟨#[.agg p,(.pointer (some ⟨w.heap.size,0,none⟩)),undef,undef,undef,undef,undef,undef,undef,undef,undef,undef,undef,undef,undef,undef,undef,undef,undef,undef,undef],[]⟩ (v:=(.pointer (some ⟨w.heap.size,0,none⟩))) (by kernel_rfl) rfl rfl (run_box (t:=tF) (x:=.tmp 0) (p:=p) (by kernel_rfl) (by kernel_rfl) w) ?_
  refine step_value (i:=1) ⟨#[.agg p,(.pointer (some ⟨w.heap.size,0,none⟩)),.nilIface,undef,undef,undef,undef,undef,undef,undef,undef,undef,undef,undef,undef,undef,undef,undef,undef,undef,undef],[]⟩ (v:=.nilIface) (by kernel_rfl) rfl rfl (run_assign (x:=.const .nilIface) (by kernel_rfl) (by kernel_rfl) _) ?_
  refine step_value (i:=2) ⟨#[.agg p,(.pointer (some ⟨w.heap.size,0,none⟩)),.nilIface,(.bool false),undef,undef,undef,undef,undef,undef,undef,undef,undef,undef,undef,undef,undef,undef,undef,undef,undef],[]⟩ (v:=(.bool false)) (by kernel_rfl) rfl rfl (run_assign (x:=.const (.bool false)) (by kernel_rfl) (by kernel_rfl) _) ?_
  show (Code.wp P _ _ _ _)
  have hb1:(w.alloc (.cells p tF)).heap[w.heap.size]?=some (.cells p tF (0,0)):=by
    show (w.heap.push _)[w.heap.size]?=_
    simp
  have hbel1:Below w.heap.size w (w.alloc (.cells p tF)):=(Below.refl _ _).alloc (Nat.le_refl _) _
  have hsz1:(w.alloc (.cells p tF)).heap.size=w.heap.size + 1:=by
    show (w.heap.push _).size=_
    simp
  generalize w.alloc (.cells p tF)=w1 at hb1 hbel1 hsz1
  refine wp_seq (wp_region ?_)
  show wpOps P _ _ [0,1,2,3,4,5,6] _ _
  obtain ⟨b1,hb1e⟩:∃ b1,b1=w1.heap.size:=⟨_,rfl⟩
  have hmk:∀ (ρ:Operand→Value) (o:Oper),o.op=.makeMap tM none→(execOp ρ o).run P w1=.ok (.value (.map (some b1))) (w1.alloc (.map #[] 0)):=by
    intro ρ o ho
    have hrun:(Instr.makeMap tM none).run P w1=.ok (.map (some w1.heap.size)) (w1.alloc (.map #[] 0)):=rfl
    simp only [execOp,ho,Option.map_none,hrun,Sem.run_bind,Result.andThen_ok,hb1e]
    rfl
  refine step_value (i:=0) ⟨#[.agg p,(.pointer (some ⟨w.heap.size,0,none⟩)),.nilIface,(.bool false),undef,undef,undef,(.map (some b1)),undef,undef,undef,undef,undef,undef,undef,undef,undef,undef,undef,undef,undef],[]⟩ (v:=(.map (some b1))) (by kernel_rfl) rfl rfl (hmk _ _ (by kernel_rfl)) ?_
  have hb2:(w1.alloc (.map #[] 0)).heap[b1]?=some (.map #[] (#[]:Array MapEntry).size):=by
    rw [hb1e]
    show (w1.heap.push _)[w1.heap.size]?=_
    simp
  have hc2:(w1.alloc (.map #[] 0)).heap[w.heap.size]?=some (.cells p tF (0,0)):=by
    show (w1.heap.push _)[w.heap.size]?=_
    rw [Array.getElem?_push]
    rw [if_neg (by omega)]
    exact hb1
  have hbel2:Below w.heap.size w (w1.alloc (.map #[] 0)):=hbel1.alloc (by omega) _
  have hne:w.heap.size≠b1:=by omega
  clear hmk
  generalize w1.alloc (.map #[] 0)=w2 at hb2 hc2 hbel2
  have keep:∀ {u u':World},OnlyAt b1 u u'→u.heap[w.heap.size]?=some (.cells p tF (0,0))→Below w.heap.size w u→u'.heap[w.heap.size]?=some (.cells p tF (0,0))∧Below w.heap.size w u':=by
    intro u u' ho hc hbel
    obtain ⟨g1,g2,g3,g4,g5⟩:=ho
    exact ⟨by rw [g5 _ hne]; exact hc,⟨g1.trans hbel.os,g2.trans hbel.tape,g3.trans hbel.output,by rw [g4]; exact hbel.size,fun k hk=>by rw [g5 k (by omega)]; exact hbel.block k hk⟩⟩
  obtain ⟨w3,hrun,hb3,ho⟩:=run_insert (P:=P) (ρ:=Act.eval ⟨#[.agg p,(.pointer (some ⟨w.heap.size,0,none⟩)),.nilIface,(.bool false),undef,undef,undef,(.map (some b1)),undef,undef,undef,undef,undef,undef,undef,undef,undef,undef,undef,undef,undef],[]⟩) (o:=⟨none,.insert tM (.tmp 7) (.const (.int .i64 1)) (.func (g 0)),0,(L 4).1,(L 4).2,none⟩) (t:=tM) (m:=.tmp 7) (k:=.const (.int .i64 1)) (x:=.func (g 0)) (b:=b1) (kk:=1) (v:=.func (.func (g 0)) #[] #[]) rfl (by kernel_rfl) (by kernel_rfl) (by kernel_rfl) hT hkt hb2 (by simp [Instr.findNow,Instr.sameNow])
  refine step_skip (i:=1) rfl rfl rfl hrun ?_
  obtain ⟨hc3,hbel3⟩:=keep ho hc2 hbel2
  clear hrun ho
  obtain ⟨w4,hrun,hb4,ho⟩:=run_insert (P:=P) (ρ:=Act.eval ⟨#[.agg p,(.pointer (some ⟨w.heap.size,0,none⟩)),.nilIface,(.bool false),undef,undef,undef,(.map (some b1)),undef,undef,undef,undef,undef,undef,undef,undef,undef,undef,undef,undef,undef],[]⟩) (o:=⟨none,.insert tM (.tmp 7) (.const (.int .i64 2)) (.func (g 1)),0,(L 5).1,(L 5).2,none⟩) (t:=tM) (m:=.tmp 7) (k:=.const (.int .i64 2)) (x:=.func (g 1)) (b:=b1) (kk:=2) (v:=.func (.func (g 1)) #[] #[]) rfl (by kernel_rfl) (by kernel_rfl) (by kernel_rfl) hT hkt hb3 (by simp [Instr.findNow,Instr.sameNow])
  refine step_skip (i:=2) rfl rfl rfl hrun ?_
  obtain ⟨hc4,hbel4⟩:=keep ho hc3 hbel3
  clear hrun ho
  obtain ⟨w5,hrun,hb5,ho⟩:=run_insert (P:=P) (ρ:=Act.eval ⟨#[.agg p,(.pointer (some ⟨w.heap.size,0,none⟩)),.nilIface,(.bool false),undef,undef,undef,(.map (some b1)),undef,undef,undef,undef,undef,undef,undef,undef,undef,undef,undef,undef,undef],[]⟩) (o:=⟨none,.insert tM (.tmp 7) (.const (.int .i64 3)) (.func (g 2)),0,(L 6).1,(L 6).2,none⟩) (t:=tM) (m:=.tmp 7) (k:=.const (.int .i64 3)) (x:=.func (g 2)) (b:=b1) (kk:=3) (v:=.func (.func (g 2)) #[] #[]) rfl (by kernel_rfl) (by kernel_rfl) (by kernel_rfl) hT hkt hb4 (by simp [Instr.findNow,Instr.sameNow])
  refine step_skip (i:=3) rfl rfl rfl hrun ?_
  obtain ⟨hc5,hbel5⟩:=keep ho hc4 hbel4
  clear hrun ho
  obtain ⟨w6,hrun,hb6,ho⟩:=run_insert (P:=P) (ρ:=Act.eval ⟨#[.agg p,(.pointer (some ⟨w.heap.size,0,none⟩)),.nilIface,(.bool false),undef,undef,undef,(.map (some b1)),undef,undef,undef,undef,undef,undef,undef,undef,undef,undef,undef,undef,undef],[]⟩) (o:=⟨none,.insert tM (.tmp 7) (.const (.int .i64 4)) (.func (g 3)),0,(L 7).1,(L 7).2,none⟩) (t:=tM) (m:=.tmp 7) (k:=.const (.int .i64 4)) (x:=.func (g 3)) (b:=b1) (kk:=4) (v:=.func (.func (g 3)) #[] #[]) rfl (by kernel_rfl) (by kernel_rfl) (by kernel_rfl) hT hkt hb5 (by simp [Instr.findNow,Instr.sameNow])
  refine step_skip (i:=4) rfl rfl rfl hrun ?_
  obtain ⟨hc6,hbel6⟩:=keep ho hc5 hbel5
  clear hrun ho
  refine step_value (i:=5) ⟨#[.agg p,(.pointer (some ⟨w.heap.size,0,none⟩)),.nilIface,(.bool false),undef,undef,undef,(.map (some b1)),(.map (some b1)),undef,undef,undef,undef,undef,undef,undef,undef,undef,undef,undef,undef],[]⟩ (v:=(.map (some b1))) (by kernel_rfl) rfl rfl (run_move (x:=.tmp 7) (by kernel_rfl) (by kernel_rfl) _) ?_
  refine step_value (i:=6) ⟨#[.agg p,(.pointer (some ⟨w.heap.size,0,none⟩)),.nilIface,(.bool false),(.map (some b1)),undef,undef,(.map (some b1)),(.map (some b1)),undef,undef,undef,undef,undef,undef,undef,undef,undef,undef,undef,undef],[]⟩ (v:=(.map (some b1))) (by kernel_rfl) rfl rfl (run_assign (x:=.tmp 8) (by kernel_rfl) (by kernel_rfl) _) ?_
  show (Code.wp P _ _ _ _)
  refine wp_seq (wp_region ?_)
  show wpOps P _ _ [0,1,2,3,4,5,6,7,8] _ _
  refine step_value (i:=0) ⟨#[.agg p,(.pointer (some ⟨w.heap.size,0,none⟩)),.nilIface,(.bool false),(.map (some b1)),undef,undef,(.map (some b1)),(.map (some b1)),undef,(.map (some b1)),undef,undef,undef,undef,undef,undef,undef,undef,undef,undef],[]⟩ (v:=(.map (some b1))) (by kernel_rfl) rfl rfl (run_move (x:=.tmp 4) (by kernel_rfl) (by kernel_rfl) _) ?_
  refine step_value (i:=1) ⟨#[.agg p,(.pointer (some ⟨w.heap.size,0,none⟩)),.nilIface,(.bool false),(.map (some b1)),undef,undef,(.map (some b1)),(.map (some b1)),undef,(.map (some b1)),(.pointer (some ⟨w.heap.size,off,none⟩)),undef,undef,undef,undef,undef,undef,undef,undef,undef],[]⟩ (v:=(.pointer (some ⟨w.heap.size,off,none⟩))) (by kernel_rfl) rfl rfl (run_fieldAddr (t:=tF) (f:=fld) (x:=.tmp 1) (by kernel_rfl) (by kernel_rfl) hfl _) ?_
  refine step_value (i:=2) ⟨#[.agg p,(.pointer (some ⟨w.heap.size,0,none⟩)),.nilIface,(.bool false),(.map (some b1)),undef,undef,(.map (some b1)),(.map (some b1)),undef,(.map (some b1)),(.pointer (some ⟨w.heap.size,off,none⟩)),(.int .i64 kd),undef,undef,undef,undef,undef,undef,undef,undef],[]⟩ (v:=(.int .i64 kd)) (by kernel_rfl) rfl rfl (run_loadI (t:=tK) (x:=.tmp 11) (by kernel_rfl) hp.kagg hiK hsK (by kernel_rfl) hc6 hkd) ?_
  obtain ⟨vv,hvv⟩:∃ vv,vv=r.elim z Prod.snd:=⟨_,rfl⟩
  refine step_value (i:=3) ⟨#[.agg p,(.pointer (some ⟨w.heap.size,0,none⟩)),.nilIface,(.bool false),(.map (some b1)),undef,undef,(.map (some b1)),(.map (some b1)),undef,(.map (some b1)),(.pointer (some ⟨w.heap.size,off,none⟩)),(.int .i64 kd),(.tuple #[vv,.bool r.isSome]),undef,undef,undef,undef,undef,undef,undef],[]⟩ (v:=(.tuple #[vv,.bool r.isSome])) (by kernel_rfl) rfl rfl (run_lookupF (t:=tM) (b:=b1) (kk:=kd) (m:=.tmp 10) (k:=.tmp 12) (by kernel_rfl) (by kernel_rfl) (by kernel_rfl) hT hkt hiE hz hb6 (by simpa using hr) hvv) ?_
  refine step_value (i:=4) ⟨#[.agg p,(.pointer (some ⟨w.heap.size,0,none⟩)),.nilIface,(.bool false),(.map (some b1)),undef,undef,(.map (some b1)),(.map (some b1)),(.tuple #[vv,.bool r.isSome]),(.map (some b1)),(.pointer (some ⟨w.heap.size,off,none⟩)),(.int .i64 kd),(.tuple #[vv,.bool r.isSome]),undef,undef,undef,undef,undef,undef,undef],[]⟩ (v:=(.tuple #[vv,.bool r.isSome])) (by kernel_rfl) rfl rfl (run_move (x:=.tmp 13) (by kernel_rfl) (by kernel_rfl) _) ?_
  refine step_value (i:=5) ⟨#[.agg p,(.pointer (some ⟨w.heap.size,0,none⟩)),.nilIface,(.bool false),(.map (some b1)),undef,undef,(.map (some b1)),(.map (some b1)),(.tuple #[vv,.bool r.isSome]),(.map (some b1)),(.pointer (some ⟨w.heap.size,off,none⟩)),(.int .i64 kd),(.tuple #[vv,.bool r.isSome]),vv,undef,undef,undef,undef,undef,undef],[]⟩ (v:=vv) (by kernel_rfl) rfl rfl (run_extractT (x:=.tmp 9) (i:=0) (vs:=#[vv,.bool r.isSome]) (by kernel_rfl) (by kernel_rfl) rfl _) ?_
  refine step_value (i:=6) ⟨#[.agg p,(.pointer (some ⟨w.heap.size,0,none⟩)),.nilIface,(.bool false),(.map (some b1)),undef,undef,(.map (some b1)),(.map (some b1)),(.tuple #[vv,.bool r.isSome]),(.map (some b1)),(.pointer (some ⟨w.heap.size,off,none⟩)),(.int .i64 kd),(.tuple #[vv,.bool r.isSome]),vv,(.bool r.isSome),undef,undef,undef,undef,undef],[]⟩ (v:=(.bool r.isSome)) (by kernel_rfl) rfl rfl (run_extractT (x:=.tmp 9) (i:=1) (vs:=#[vv,.bool r.isSome]) (by kernel_rfl) (by kernel_rfl) rfl _) ?_
  refine step_value (i:=7) ⟨#[.agg p,(.pointer (some ⟨w.heap.size,0,none⟩)),.nilIface,(.bool false),(.map (some b1)),vv,undef,(.map (some b1)),(.map (some b1)),(.tuple #[vv,.bool r.isSome]),(.map (some b1)),(.pointer (some ⟨w.heap.size,off,none⟩)),(.int .i64 kd),(.tuple #[vv,.bool r.isSome]),vv,(.bool r.isSome),undef,undef,undef,undef,undef],[]⟩ (v:=vv) (by kernel_rfl) rfl rfl (run_assign (x:=.tmp 14) (by kernel_rfl) (by kernel_rfl) _) ?_
  refine step_value (i:=8) ⟨#[.agg p,(.pointer (some ⟨w.heap.size,0,none⟩)),.nilIface,(.bool false),(.map (some b1)),vv,(.bool r.isSome),(.map (some b1)),(.map (some b1)),(.tuple #[vv,.bool r.isSome]),(.map (some b1)),(.pointer (some ⟨w.heap.size,off,none⟩)),(.int .i64 kd),(.tuple #[vv,.bool r.isSome]),vv,(.bool r.isSome),undef,undef,undef,undef,undef],[]⟩ (v:=(.bool r.isSome)) (by kernel_rfl) rfl rfl (run_assign (x:=.tmp 15) (by kernel_rfl) (by kernel_rfl) _) ?_
  exact hk w6 b1 z vv hbel6 hc6 hvv
theorem pick_found {tF tK tM tE tI tB tS fld off n:Nat} (hp:PickOk P tF tK tM tE fld off n) {fn:Func} {fj:FuncId} {L:Nat→String×Array Edge} {p:Array Value} {kd:Int} {b1:Nat} (hres:fn.results=#[.tmp 2,.tmp 3]) (hps:p.size=n) (w w1:World)
    (hen:∀ args w,(callFunc fj args).run P w=.ok (.enter fj args) w) (hmk:∀ w,Calls P fj #[.agg p] w fun e w'=>e=.returned (.iface tS (.agg p))∧Below w.heap.size w w') (hbel:Below w.heap.size w w1) (hc:w1.heap[w.heap.size]?=some (.cells p tF (0,0))) :
    Code.wp P (.seq (.seq (.region 3 #[⟨some 16,.move (.tmp 6),tB,(L 19).1,(L 19).2,none⟩,⟨some 17,.unOp .not tB (.tmp 16),tB,(L 20).1,(L 20).2,none⟩] false) (.cond (.tmp 17) (.seq (.region 4 #[⟨some 2,.assign (.const .nilIface),tI,(L 21).1,(L 21).2,none⟩,⟨some 3,.assign (.const (.bool false)),tB,(L 22).1,(L 22).2,none⟩] false) .ret) .skip)) (.seq (.region 5 #[⟨some 18,.move (.tmp 5),tE,(L 23).1,(L 23).2,none⟩,⟨some 19,.load tF (.tmp 1),tF,(L 24).1,(L 24).2,none⟩,⟨some 20,.call ⟨.value (.tmp 18),#[.tmp 19],#[tF]⟩,tI,(L 25).1,(L 25).2,none⟩,⟨some 2,.assign (.tmp 20),tI,(L 26).1,(L 26).2,none⟩,⟨some 3,.assign (.const (.bool true)),tB,(L 27).1,(L 27).2,none⟩] false) .ret)) (bodyPost P fn fun e w'=>e=.returned (.tuple #[.iface tS (.agg p),.bool true])∧Below w.heap.size w w') ⟨#[.agg p,(.pointer (some ⟨w.heap.size,0,none⟩)),.nilIface,(.bool false),(.map (some b1)),(.func (.func fj) #[] #[]),(.bool true),(.map (some b1)),(.map (some b1)),(.tuple #[(.func (.func fj) #[] #[]),.bool true]),(.map (some b1)),(.pointer (some ⟨w.heap.size,off,none⟩)),(.int .i64 kd),(.tuple #[(.func (.func fj) #[] #[]),.bool true]),(.func (.func fj) #[] #[]),(.bool true),undef,undef,undef,undef,undef],[]⟩ w1:=by
  obtain ⟨iF,hiF,hsF⟩:=hp.info
  refine wp_seq (wp_seq (wp_region ?_))
  show wpOps P _ _ [0,1] _ _
  refine step_value (i:=0) ⟨#[.agg p,(.pointer (some ⟨w.heap.size,0,none⟩)),.nilIface,(.bool false),(.map (some b1)),(.func (.func fj) #[] #[]),(.bool true),(.map (some b1)),(.map (some b1)),(.tuple #[(.func (.func fj) #[] #[]),.bool true]),(.map (some b1)),(.pointer (some ⟨w.heap.size,off,none⟩)),(.int .i64 kd),(.tuple #[(.func (.func fj) #[] #[]),.bool true]),(.func (.func fj) #[] #[]),(.bool true),(.bool true),undef,undef,undef,undef],[]⟩ (v:=(.bool true)) (by kernel_rfl) rfl rfl (run_move (x:=.tmp 6) (by kernel_rfl) (by kernel_rfl) _) ?_
  refine step_value (i:=1) ⟨#[.agg p,(.pointer (some ⟨w.heap.size,0,none⟩)),.nilIface,(.bool false),(.map (some b1)),(.func (.func fj) #[] #[]),(.bool true),(.map (some b1)),(.map (some b1)),(.tuple #[(.func (.func fj) #[] #[]),.bool true]),(.map (some b1)),(.pointer (some ⟨w.heap.size,off,none⟩)),(.int .i64 kd),(.tuple #[(.func (.func fj) #[] #[]),.bool true]),(.func (.func fj) #[] #[]),(.bool true),(.bool true),(.bool false),undef,undef,undef],[]⟩ (v:=(.bool false)) (by kernel_rfl) rfl rfl (run_notB (x:=.tmp 16) (t:=tB) (b:=true) (by kernel_rfl) (by kernel_rfl) rfl _) ?_
  show (Code.wp P _ _ _ _)
  refine wp_cond_false (by kernel_rfl) (wp_skip ?_)
  show (Code.wp P _ _ _ _)
  refine wp_seq (wp_region ?_)
  show wpOps P _ _ [0,1,2,3,4] _ _
  refine step_value (i:=0) ⟨#[.agg p,(.pointer (some ⟨w.heap.size,0,none⟩)),.nilIface,(.bool false),(.map (some b1)),(.func (.func fj) #[] #[]),(.bool true),(.map (some b1)),(.map (some b1)),(.tuple #[(.func (.func fj) #[] #[]),.bool true]),(.map (some b1)),(.pointer (some ⟨w.heap.size,off,none⟩)),(.int .i64 kd),(.tuple #[(.func (.func fj) #[] #[]),.bool true]),(.func (.func fj) #[] #[]),(.bool true),(.bool true),(.bool false),(.func (.func fj) #[] #[]),undef,undef],[]⟩ (v:=(.func (.func fj) #[] #[])) (by kernel_rfl) rfl rfl (run_move (x:=.tmp 5) (by kernel_rfl) (by kernel_rfl) _) ?_
  refine step_value (i:=1) ⟨#[.agg p,(.pointer (some ⟨w.heap.size,0,none⟩)),.nilIface,(.bool false),(.map (some b1)),(.func (.func fj) #[] #[]),(.bool true),(.map (some b1)),(.map (some b1)),(.tuple #[(.func (.func fj) #[] #[]),.bool true]),(.map (some b1)),(.pointer (some ⟨w.heap.size,off,none⟩)),(.int .i64 kd),(.tuple #[(.func (.func fj) #[] #[]),.bool true]),(.func (.func fj) #[] #[]),(.bool true),(.bool true),(.bool false),(.func (.func fj) #[] #[]),.agg p,undef],[]⟩ (v:=.agg p) (by kernel_rfl) rfl rfl (run_loadA (t:=tF) (b:=w.heap.size) (p:=p) (T:=tF) (fz:=(0,0)) (x:=.tmp 1) (by kernel_rfl) hp.agg hiF (by kernel_rfl) hc (by rw [hsF,hps])) ?_
  refine step_enter (i:=2) (f:=fj) (args:=#[.agg p]) rfl rfl (run_callT (c:=⟨.value (.tmp 18),#[.tmp 19],#[tF]⟩) (x:=.tmp 18) (y:=.tmp 19) (v:=.agg p) (by kernel_rfl) (by kernel_rfl) (by kernel_rfl) hen _) ((hmk w1).mono ?_)
  rintro e w2 ⟨rfl,hb2⟩
  refine ⟨_,rfl,?_⟩
  have ha:Act.put ⟨#[.agg p,(.pointer (some ⟨w.heap.size,0,none⟩)),.nilIface,(.bool false),(.map (some b1)),(.func (.func fj) #[] #[]),(.bool true),(.map (some b1)),(.map (some b1)),(.tuple #[(.func (.func fj) #[] #[]),.bool true]),(.map (some b1)),(.pointer (some ⟨w.heap.size,off,none⟩)),(.int .i64 kd),(.tuple #[(.func (.func fj) #[] #[]),.bool true]),(.func (.func fj) #[] #[]),(.bool true),(.bool true),(.bool false),(.func (.func fj) #[] #[]),.agg p,undef],[]⟩ (some 20) (.iface tS (.agg p))=⟨#[.agg p,(.pointer (some ⟨w.heap.size,0,none⟩)),.nilIface,(.bool false),(.map (some b1)),(.func (.func fj) #[] #[]),(.bool true),(.map (some b1)),(.map (some b1)),(.tuple #[(.func (.func fj) #[] #[]),.bool true]),(.map (some b1)),(.pointer (some ⟨w.heap.size,off,none⟩)),(.int .i64 kd),(.tuple #[(.func (.func fj) #[] #[]),.bool true]),(.func (.func fj) #[] #[]),(.bool true),(.bool true),(.bool false),(.func (.func fj) #[] #[]),.agg p,(.iface tS (.agg p))],[]⟩:=by kernel_rfl
  show wpOps P _ _ [3,4] (Act.put ⟨#[.agg p,(.pointer (some ⟨w.heap.size,0,none⟩)),.nilIface,(.bool false),(.map (some b1)),(.func (.func fj) #[] #[]),(.bool true),(.map (some b1)),(.map (some b1)),(.tuple #[(.func (.func fj) #[] #[]),.bool true]),(.map (some b1)),(.pointer (some ⟨w.heap.size,off,none⟩)),(.int .i64 kd),(.tuple #[(.func (.func fj) #[] #[]),.bool true]),(.func (.func fj) #[] #[]),(.bool true),(.bool true),(.bool false),(.func (.func fj) #[] #[]),.agg p,undef],[]⟩ (some 20) (.iface tS (.agg p))) w2
  rw [ha]
  clear ha
  refine step_value (i:=3) ⟨#[.agg p,(.pointer (some ⟨w.heap.size,0,none⟩)),(.iface tS (.agg p)),(.bool false),(.map (some b1)),(.func (.func fj) #[] #[]),(.bool true),(.map (some b1)),(.map (some b1)),(.tuple #[(.func (.func fj) #[] #[]),.bool true]),(.map (some b1)),(.pointer (some ⟨w.heap.size,off,none⟩)),(.int .i64 kd),(.tuple #[(.func (.func fj) #[] #[]),.bool true]),(.func (.func fj) #[] #[]),(.bool true),(.bool true),(.bool false),(.func (.func fj) #[] #[]),.agg p,(.iface tS (.agg p))],[]⟩ (v:=(.iface tS (.agg p))) (by kernel_rfl) rfl rfl (run_assign (x:=.tmp 20) (by kernel_rfl) (by kernel_rfl) _) ?_
  refine step_value (i:=4) ⟨#[.agg p,(.pointer (some ⟨w.heap.size,0,none⟩)),(.iface tS (.agg p)),(.bool true),(.map (some b1)),(.func (.func fj) #[] #[]),(.bool true),(.map (some b1)),(.map (some b1)),(.tuple #[(.func (.func fj) #[] #[]),.bool true]),(.map (some b1)),(.pointer (some ⟨w.heap.size,off,none⟩)),(.int .i64 kd),(.tuple #[(.func (.func fj) #[] #[]),.bool true]),(.func (.func fj) #[] #[]),(.bool true),(.bool true),(.bool false),(.func (.func fj) #[] #[]),.agg p,(.iface tS (.agg p))],[]⟩ (v:=(.bool true)) (by kernel_rfl) rfl rfl (run_assign (x:=.const (.bool true)) (by kernel_rfl) (by kernel_rfl) _) ?_
  show (Code.wp P _ _ _ _)
  refine wp_ret ?_
  refine ⟨by kernel_rfl,.tuple #[.iface tS (.agg p),.bool true],?_,rfl,hbel.trans ⟨hb2.os,hb2.tape,hb2.output,hb2.size,fun k hk=>hb2.block k (Nat.lt_of_lt_of_le hk hbel.size)⟩⟩
  refine results_run (vs:=[.iface tS (.agg p),.bool true]) ?_
  rw [hres]
  simp [readRes]
theorem pick_none {tF tK tM tE tI tB fld off n:Nat} (hp:PickOk P tF tK tM tE fld off n) {fn:Func} {L:Nat→String×Array Edge} {p:Array Value} {kd:Int} {b1:Nat} {vv:Value} (hres:fn.results=#[.tmp 2,.tmp 3]) (w w1:World) (hbel:Below w.heap.size w w1) :
    Code.wp P (.seq (.seq (.region 3 #[⟨some 16,.move (.tmp 6),tB,(L 19).1,(L 19).2,none⟩,⟨some 17,.unOp .not tB (.tmp 16),tB,(L 20).1,(L 20).2,none⟩] false) (.cond (.tmp 17) (.seq (.region 4 #[⟨some 2,.assign (.const .nilIface),tI,(L 21).1,(L 21).2,none⟩,⟨some 3,.assign (.const (.bool false)),tB,(L 22).1,(L 22).2,none⟩] false) .ret) .skip)) (.seq (.region 5 #[⟨some 18,.move (.tmp 5),tE,(L 23).1,(L 23).2,none⟩,⟨some 19,.load tF (.tmp 1),tF,(L 24).1,(L 24).2,none⟩,⟨some 20,.call ⟨.value (.tmp 18),#[.tmp 19],#[tF]⟩,tI,(L 25).1,(L 25).2,none⟩,⟨some 2,.assign (.tmp 20),tI,(L 26).1,(L 26).2,none⟩,⟨some 3,.assign (.const (.bool true)),tB,(L 27).1,(L 27).2,none⟩] false) .ret)) (bodyPost P fn fun e w'=>e=.returned (.tuple #[.nilIface,.bool false])∧Below w.heap.size w w') ⟨#[.agg p,(.pointer (some ⟨w.heap.size,0,none⟩)),.nilIface,(.bool false),(.map (some b1)),vv,(.bool false),(.map (some b1)),(.map (some b1)),(.tuple #[vv,.bool false]),(.map (some b1)),(.pointer (some ⟨w.heap.size,off,none⟩)),(.int .i64 kd),(.tuple #[vv,.bool false]),vv,(.bool false),undef,undef,undef,undef,undef],[]⟩ w1:=by
  refine wp_seq (wp_seq (wp_region ?_))
  show wpOps P _ _ [0,1] _ _
  refine step_value (i:=0) ⟨#[.agg p,(.pointer (some ⟨w.heap.size,0,none⟩)),.nilIface,(.bool false),(.map (some b1)),vv,(.bool false),(.map (some b1)),(.map (some b1)),(.tuple #[vv,.bool false]),(.map (some b1)),(.pointer (some ⟨w.heap.size,off,none⟩)),(.int .i64 kd),(.tuple #[vv,.bool false]),vv,(.bool false),(.bool false),undef,undef,undef,undef],[]⟩ (v:=(.bool false)) (by kernel_rfl) rfl rfl (run_move (x:=.tmp 6) (by kernel_rfl) (by kernel_rfl) _) ?_
  refine step_value (i:=1) ⟨#[.agg p,(.pointer (some ⟨w.heap.size,0,none⟩)),.nilIface,(.bool false),(.map (some b1)),vv,(.bool false),(.map (some b1)),(.map (some b1)),(.tuple #[vv,.bool false]),(.map (some b1)),(.pointer (some ⟨w.heap.size,off,none⟩)),(.int .i64 kd),(.tuple #[vv,.bool false]),vv,(.bool false),(.bool false),(.bool true),undef,undef,undef],[]⟩ (v:=(.bool true)) (by kernel_rfl) rfl rfl (run_notB (x:=.tmp 16) (t:=tB) (b:=false) (by kernel_rfl) (by kernel_rfl) rfl _) ?_
  show (Code.wp P _ _ _ _)
  refine wp_cond_true (by kernel_rfl) (wp_seq (wp_region ?_))
  show wpOps P _ _ [0,1] _ _
  refine step_value (i:=0) ⟨#[.agg p,(.pointer (some ⟨w.heap.size,0,none⟩)),.nilIface,(.bool false),(.map (some b1)),vv,(.bool false),(.map (some b1)),(.map (some b1)),(.tuple #[vv,.bool false]),(.map (some b1)),(.pointer (some ⟨w.heap.size,off,none⟩)),(.int .i64 kd),(.tuple #[vv,.bool false]),vv,(.bool false),(.bool false),(.bool true),undef,undef,undef],[]⟩ (v:=.nilIface) (by kernel_rfl) rfl rfl (run_assign (x:=.const .nilIface) (by kernel_rfl) (by kernel_rfl) _) ?_
  refine step_value (i:=1) ⟨#[.agg p,(.pointer (some ⟨w.heap.size,0,none⟩)),.nilIface,(.bool false),(.map (some b1)),vv,(.bool false),(.map (some b1)),(.map (some b1)),(.tuple #[vv,.bool false]),(.map (some b1)),(.pointer (some ⟨w.heap.size,off,none⟩)),(.int .i64 kd),(.tuple #[vv,.bool false]),vv,(.bool false),(.bool false),(.bool true),undef,undef,undef],[]⟩ (v:=(.bool false)) (by kernel_rfl) rfl rfl (run_assign (x:=.const (.bool false)) (by kernel_rfl) (by kernel_rfl) _) ?_
  show (Code.wp P _ _ _ _)
  refine wp_ret ?_
  refine ⟨by kernel_rfl,.tuple #[.nilIface,.bool false],?_,rfl,hbel⟩
  refine results_run (vs:=[.nilIface,.bool false]) ?_
  rw [hres]
  simp [readRes]
def place4 (k:Int):Int:=if decide (k=1)=true then 0 else if decide (k=2)=true then 1 else if decide (k=3)=true then 2 else if decide (k=4)=true then 3 else -1
structure MakerOk (P:Program) (tF tS tI:TypeId) (n:Nat) (fi:FuncId):Prop where
  wrap:WrapOk P tF tS n
  fn : ∃ (fn : Func) (L : Nat → String × Array Edge),P.funcs[fi]? = some fn ∧ fn.body = some (makerCode tF tS tI L) ∧ fn.ntmps = 6 ∧ fn.results = #[.tmp 2] ∧ (fn.name == "runtime.NumGoroutine") = false
theorem MakerOk.calls {tF tS tI:TypeId} {n:Nat} {fi:FuncId} (h:MakerOk P tF tS tI n fi) {p:Array Value} (hp:p.size=n) (w:World):Calls P fi #[.agg p] w fun e w'=>e=.returned (.iface tS (.agg p))∧Below w.heap.size w w':=by
  obtain ⟨fn,L,h1,h2,h3,h4,_⟩:=h.fn
  exact maker_calls h.wrap h1 h2 h3 h4 hp w
theorem MakerOk.enters {tF tS tI:TypeId} {n:Nat} {fi:FuncId} (h:MakerOk P tF tS tI n fi) (args:Array Value) (w:World):(callFunc fi args).run P w=.ok (.enter fi args) w:=by
  obtain ⟨fn,L,h1,h2,_,_,h5⟩:=h.fn
  exact enters_of h1 h5 (by rw [h2]; rfl) args w
theorem con_pick {tF tK tM tR tE tI tB fld off n : Nat} (hp : PickOk P tF tK tM tE fld off n) {f : FuncId} {fn : Func} {g tS : Nat → Nat} {L : Nat → String × Array Edge} (hf : P.funcs[f]? = some fn) (hnm : (fn.name == "runtime.NumGoroutine") = false) (hb : fn.body = some (pickCode tF tK tM tR tE tI tB fld g L)) (hn : fn.ntmps = 21) (hres : fn.results = #[.tmp 2,.tmp 3])
    (hm:∀ j,j < 4→MakerOk P tF (tS j) tI n (g j)) {t:Ty} (hag:t.isAgg=true) (hsz:t.sz=n) (kd:t.den→Int) (hkd:∀ x,(dcells t x)[off]?=some (.d (.int .i64) (kd x))) :
    Con P f ⟨[],[],false,fun _=>none,some ⟨.unit,[],[],fun _ _=>none,some ⟨false,none,some [tS 0,tS 1,tS 2,tS 3],t,[],t,[.int .i64,.bool],fun x _=>some (x,(place4 (kd x),decide (0≤place4 (kd x)),()))⟩,none⟩,none⟩:=by
  refine ⟨fun args w=>enters_of hf hnm (by rw [hb]; rfl) args w,fun ws' hws=>?_,fun ws' ys hws hx hs=>?_,fun ws' ys hws hx hs=>?_,fun ws' ys e' hws hx hs=>?_,fun ws' ls hws hx=>?_,fun ws' ys ks hws hx hs=>?_,(fun X hX=>by cases hX),fun hw=>by cases hw⟩
  · cases hws
    exact ⟨fun M x q y w args v rest bs hF=>by cases hF⟩
  · cases hws; cases hx; cases hs
  · cases hws; cases hx; cases hs
  · cases hws; cases hx; cases hs
  · cases hws; cases hx
  · cases hws
    cases hx
    cases hs
    refine ⟨fun M x y k ok w args hF hof hrep _=>?_⟩
    have hF:some (x,(place4 (kd x),decide (0≤place4 (kd x)),()))=some y:=hF
    have hF:=Option.some.inj hF
    subst hF
    have hof:[V.d (.int .i64) (place4 (kd x)),V.d .bool (decide (0≤place4 (kd x)))]=[.d (.int .i64) k,.d .bool ok] := hof
    have hk:k=place4 (kd x):=by
      injection hof with h1 _
      injection h1 with h1 h2
      exact h2.symm
    have hok:ok=decide (0≤place4 (kd x)):=by
      injection hof with _ h2
      injection h2 with h2 _
      injection h2 with _ h2
      exact h2.symm
    subst hk
    subst hok
    obtain ⟨v,rest,hargs,⟨h1,h2,_⟩,h3⟩:=hrep
    have h3:rest=[] := h3
    subst h3
    obtain ⟨p,rfl⟩:=h2 hag
    have h1:rep w M t x p.toList:=h1
    have hps:p.size=n:=by rw [← hsz]; simpa using rep_length h1
    have hcell:p[off]?=some (.int .i64 (kd x)):=by
      obtain ⟨v',t',x',e1,e2,e3⟩:=rep_cell h1 (hkd x)
      cases e2
      have e3:[v']=[Value.int .i64 (kd x)] := e3
      cases e3
      simpa using e1
    have harr:args=#[.agg p] := by
      apply Array.ext'
      rw [hargs]
    subst harr
    have keep:∀ w':World,Below w.heap.size w w'→rep w' (fun b=>M b∨w.heap.size≤b) t x p.toList:=fun w' hb=>rep_keep (fun b hb' hM=>⟨.inl hM,hb.block b hb'⟩) h1
    -- the four numbers,and the rest
    have found:∀ j,j < 4→∀ (vz:Value),Instr.findNow (.int .i64) (.int .i64 (kd x)) [⟨.int .i64 1,.func (.func (g 0)) #[] #[],0⟩,⟨.int .i64 2,.func (.func (g 1)) #[] #[],1⟩,⟨.int .i64 3,.func (.func (g 2)) #[] #[],2⟩,⟨.int .i64 4,.func (.func (g 3)) #[] #[],3⟩] 0=some (some (j,.func (.func (g j)) #[] #[])) →
        Calls P f #[.agg p] w fun e w'=>e=.returned (.tuple #[.iface (tS j) (.agg p),.bool true])∧Below w.heap.size w w':=by
      intro j hj _ hfind
      refine pick_head hp hf hb hn hps hcell w hfind fun w' b1 z vv hbel hc hvv=>?_
      subst hvv
      exact pick_found hp hres hps w w' (hm j hj).enters ((hm j hj).calls hps) hbel hc
    have fin:∀ j:Nat,j < 4→place4 (kd x)=(j:Int)→(Calls P f #[.agg p] w fun e w'=>e=.returned (.tuple #[.iface (tS j) (.agg p),.bool true])∧Below w.heap.size w w') →
        Calls P f #[.agg p] w fun en w'=>∃ v,en=.returned (.tuple #[v,.bool (decide (0≤place4 (kd x)))])∧Below w.heap.size w w'∧one v∧(0≤place4 (kd x)→∃ k q,[tS 0,tS 1,tS 2,tS 3][(place4 (kd x)).toNat]?=some k∧v=.iface k (.agg q)∧rep w' (fun b=>M b∨w.heap.size≤b) t x q.toList∧t.isAgg=true):=by
      intro j hj hpl hc
      refine hc.mono ?_
      rintro e w' ⟨rfl,hb'⟩
      refine ⟨.iface (tS j) (.agg p),?_,hb',trivial,fun _=>⟨tS j,p,?_,rfl,keep w' hb',hag⟩⟩
      · rw [hpl]
        rfl
      · rw [hpl]
        match j,hj with
        | 0,_=>rfl
        | 1,_=>rfl
        | 2,_=>rfl
        | 3,_=>rfl
    by_cases k1:kd x=1
    · exact fin 0 (by omega) (by simp [place4,k1]) (found 0 (by omega) undef (by simp [Instr.findNow,Instr.sameNow,k1]))
    by_cases k2:kd x=2
    · exact fin 1 (by omega) (by simp [place4,k2]) (found 1 (by omega) undef (by simp [Instr.findNow,Instr.sameNow,k2]))
    by_cases k3:kd x=3
    · exact fin 2 (by omega) (by simp [place4,k3]) (found 2 (by omega) undef (by simp [Instr.findNow,Instr.sameNow,k3]))
    by_cases k4:kd x=4
    · exact fin 3 (by omega) (by simp [place4,k4]) (found 3 (by omega) undef (by simp [Instr.findNow,Instr.sameNow,k4]))
    have hpl:place4 (kd x)=-1:=by simp [place4,k1,k2,k3,k4]
    have e1:(kd x == (1:Int))=false:=by simpa using k1
    have e2:(kd x == (2:Int))=false:=by simpa using k2
    have e3:(kd x == (3:Int))=false:=by simpa using k3
    have e4:(kd x == (4:Int))=false:=by simpa using k4
    refine (pick_head hp hf hb hn hps hcell w (r:=none) (by simp only [Instr.findNow,Instr.sameNow,if_true,e1,e2,e3,e4]) fun w' b1 z vv hbel hc hvv=>pick_none hp hres w w' hbel).mono ?_
    rintro e w' ⟨rfl,hb'⟩
    refine ⟨.nilIface,?_,hb',trivial,fun h=>?_⟩
    · rw [hpl]
      rfl
    · rw [hpl] at h
      omega
def opersOf:Code→List Oper
  | .region _ os _=>os.toList
  | .seq a b=>opersOf a++opersOf b
  | .cond _ a b=>opersOf a++opersOf b
  | .block _ c=>opersOf c
  | .loop c=>opersOf c
  | .scope c=>opersOf c
  | _=>[]
def posOf (c:Code) (i:Nat):String×Array Edge:=match (opersOf c)[i]? with
  | some o=>(o.pos,o.after)
  | none=>("",#[])
def infoSz (P:Program) (t n:Nat):Bool:=match P.info? t with
  | some i=>Nat.beq i.size n
  | none=>false
def aggB (P:Program) (t:Nat) (b:Bool):Bool:=match aggT P t with
  | some c=>b == c
  | none=>false
def onlyField (n:Nat):Option (List (Nat×Nat))→Bool
  | some [(a,m)] => Nat.beq a 0 && Nat.beq m n
  | _=>false
def wrapB (P:Program) (tF tS n:Nat):Bool:=aggB P tF true && infoSz P tF n && (match P.info? tS,P.underlying tS with
  | some i,some (.struct fs)=>(match i.zero with
    | some z=>Nat.beq z.cells.size n && onlyField n (fs.toList.mapM (fun f=>(P.info? f.type).map fun i=>(f.offset,i.size)))
    | none=>false)
  | _,_=>false)
def pickB (P:Program) (tF tK tM fld off n:Nat):Bool:=aggB P tF true && infoSz P tF n && (match fieldOf P tF fld with | some (o,_,_)=>Nat.beq o off | none=>false) && aggB P tK false && infoSz P tK 1 && (match P.underlying tM with
  | some (.map kt et)=>(match P.underlying kt,P.info? et with
    | some (.int .i64),some i=>i.zero.isSome
    | _,_=>false)
  | _=>false)
theorem aggB_eq {t:Nat} {b:Bool} (h:aggB P t b=true):aggT P t=some b:=by
  unfold aggB at h
  split at h
  · rename_i c hc
    rw [hc,eq_of_beq h]
  · cases h
theorem infoSz_eq {t n:Nat} (h:infoSz P t n=true):∃ i,P.info? t=some i∧i.size=n:=by
  unfold infoSz at h
  split at h
  · rename_i i hi
    exact ⟨i,hi,Nat.eq_of_beq_eq_true h⟩
  · cases h
theorem wrap_of {tF tS n:Nat} (h:wrapB P tF tS n=true):WrapOk P tF tS n:=by
  unfold wrapB at h
  simp only [Bool.and_eq_true] at h
  obtain ⟨⟨h1,h2⟩,h3⟩:=h
  refine ⟨aggB_eq h1,infoSz_eq h2,?_⟩
  split at h3
  case h_2=>cases h3
  rename_i i fs hi hu
  split at h3
  case h_2=>cases h3
  rename_i z hz
  simp only [Bool.and_eq_true] at h3
  refine ⟨i,fs,z,hi,hu,hz,Nat.eq_of_beq_eq_true h3.1,?_⟩
  have h4:=h3.2
  unfold onlyField at h4
  split at h4
  · rename_i a m hm
    simp only [Bool.and_eq_true] at h4
    rw [hm,Nat.eq_of_beq_eq_true h4.1,Nat.eq_of_beq_eq_true h4.2]
  · cases h4
theorem pick_of {tF tK tM tE fld off n:Nat} (h:pickB P tF tK tM fld off n=true):PickOk P tF tK tM tE fld off n:=by
  unfold pickB at h
  simp only [Bool.and_eq_true] at h
  obtain ⟨⟨⟨⟨⟨h1,h2⟩,h3⟩,h4⟩,h5⟩,h6⟩:=h
  refine ⟨aggB_eq h1,infoSz_eq h2,?_,aggB_eq h4,infoSz_eq h5,?_⟩
  · split at h3
    · rename_i o m ag ho
      exact ⟨m,ag,by rw [ho,Nat.eq_of_beq_eq_true h3]⟩
    · cases h3
  · split at h6
    · rename_i kt et hm
      split at h6
      · rename_i i hk hi
        obtain ⟨z,hz⟩:=Option.isSome_iff_exists.1 h6
        exact ⟨kt,et,i,z,hm,hk,hi,hz⟩
      · cases h6
    · cases h6
theorem maker_of {tF tS tI n fi : Nat} (h : wrapB P tF tS n = true) {fn : Func} (hf : P.funcs[fi]? = some fn) (hb : fn.body = some (makerCode tF tS tI (posOf (fn.body.getD .skip)))) (hn : fn.ntmps = 6) (hr : fn.results = #[.tmp 2]) (hm : (fn.name == "runtime.NumGoroutine") = false) : MakerOk P tF tS tI n fi :=
  ⟨wrap_of h,fn,_,hf,hb,hn,hr,hm⟩
end
end Go.Vm
