/- A verified symbolic evaluator of loaded Go code: what it tells of a function is the function's contract (part 2). No conditions. -/
import Derived.Test.YtnkgmbaeondobabDoorM1
import Derived.Laws.CopyRow
import Derived.MapKept
import Derived.WideKeyRuns
set_option linter.unusedVariables false
set_option linter.unusedSimpArgs false
set_option linter.unnecessarySimpa false
set_option linter.unusedSectionVars false
namespace Go.Vm
variable [Amb]
open Go.RowKit (Below)
section
variable {B:Lim} {M:Nat→Prop} {w0 w w':World} {ob:List Ob} {fp:List (List Nat)}
theorem box_any (H:Hrel B M w0 w ob fp) {id b:Nat} {cs us:List V} {c c':Array Value} {T T2:TypeId} (ho:ob[id]?=some (.box cs)) (hf:fp[id]?=some [b]) (hb:w.heap[b]?=some (.cells c T (0,0)))
    (hb':w'.heap[b]?=some (.cells c' T2 (0,0))) (hs:c'.size=c.size) (hoth:∀ q,q≠b→w'.heap[q]?=w.heap[q]?) (hsz:w'.heap.size=w.heap.size) (hos:w'.os=w.os) (htp:w'.tape=w.tape) (hout:w'.output=w.output)
    (hvs:All2 (crep (cxOf B M w ob fp)) c'.toList us) :
    Hrel B M w0 w' (setAt ob id (.box us)) fp∧∀ v u,crep (cxOf B M w ob fp) v u→crep (cxOf B M w' (setAt ob id (.box us)) fp) v u:=by
  have hBb:¬ B.K b:=(H.ge b (List.mem_flatten.2 ⟨_,List.mem_of_getElem? hf,by simp⟩)).1
  have hset:fp.set id [b]=fp:=set_same hf
  have hmap:ob.map (onCells _root_.id)=ob:=by
    have:onCells _root_.id=_root_.id:=by funext o; cases o<;>simp [onCells]
    rw [this,List.map_id]
  have W:Wr B M w w' ob ob (setAt ob id (.box us)) fp fp id b [] [] (.box cs) (.box us) _root_.id c c' T T2 :=
    ⟨turns_refl ob fp,ho,ho,hf,hf,trivial,hb,hb',hs,hoth,hsz,⟨hos,htp,hout,by omega,fun k hk=>hoth k (fun he=>hBb (he ▸ hk))⟩,.inr (.inl ⟨cs,us,rfl,rfl,rfl⟩),by simp,by rw [hset]; exact H.nd,.inl ⟨rfl,cs,rfl⟩,by rw [hmap,setAt_eq]⟩
  have hcr:=fun v u (h:crep (cxOf B M w ob fp) v u)=>W.crep H h
  have hrel:=W.hrel H ⟨b,_,T2,rfl,hb',hvs.imp hcr⟩
  rw [hset] at hrel hcr
  exact ⟨hrel,hcr⟩
theorem used_push (H:Hrel B M w0 w ob fp) {ob1:List Ob} {fp1:List (List Nat)} {mb:List Nat} (hg:Gone w ob fp ob1 fp1 mb) {os:List Ob} {bss:List (List Nat)} {rel:Cx→Prop} {bs':List Nat} (i:Inst w' ob1.length os bss bs' rel)
    (hnd:bs'.Nodup) (hsub:∀ b∈bs',b∈mb∨(w.heap.size≤b∧b < w'.heap.size)) (hsize:w.heap.size≤w'.heap.size) (hoth:∀ b,b < w.heap.size→b∉mb→w'.heap[b]?=w.heap[b]?)
    (hos:w'.os=w.os) (htp:w'.tape=w.tape) (hout:w'.output=w.output) :
    Mv (cxOf B M w ob fp) (cxOf B M w' (ob1++os) (fp1++bss))∧Hrel B M w0 w' (ob1++os) (fp1++bss)∧rel (cxOf B M w' (ob1++os) (fp1++bss)):=by
  have hp:=hg.perm.nodup_iff.2 H.nd
  have hmbt:=hg.taken
  have hnew:∀ b∈bss.flatten,Taken ob fp ob1 b∨(w.heap.size≤b∧b < w'.heap.size):=fun b hb=>by
    rw [i.flat] at hb
    rcases hsub b hb with h | h
    · exact .inl (hmbt b h)
    · exact .inr h
  have hndup:(fp1++bss).flatten.Nodup:=by
    rw [List.flatten_append,List.nodup_append]
    refine ⟨(List.nodup_append.1 hp).1,by rw [i.flat]; exact hnd,fun p hp' q hq he=>?_⟩
    subst he
    rw [i.flat] at hq
    rcases hsub p hq with h | h
    · exact (List.nodup_append.1 hp).2.2 p hp' p h rfl
    · have:=(H.ge p (hg.perm.mem_iff.1 (List.mem_append.2 (.inl hp')))).2
      omega
  obtain ⟨h1,h2⟩:=turn_push (os:=os) (bss:=bss) (w':=w') H hg.turns i.len hndup hnew hsize (fun b hb hnt=>hoth b hb (fun hm=>hnt (hmbt b hm)))
    ⟨hos,htp,hout,hsize,fun k hk=>hoth k (H.size k hk) (fun hm=>by
      obtain ⟨id,dp,e,l,cs,ho,hd,hf,hb⟩:=hmbt k hm
      exact (H.ge k (List.mem_flatten.2 ⟨cs,List.mem_of_getElem? hf,hb⟩)).1 hk)⟩
  have hrel:=h2 (fun k o q ho hq=>by
    obtain ⟨e,l,rfl,hrow⟩:=i.rows k o q ho hq
    rcases hrow with h | ⟨b,c,T,h3,h4,h5⟩
    · exact .inl h
    · exact .inr ⟨b,c,T,h3,h4,h5⟩)
  refine ⟨h1,hrel,i.rel _ rfl (fun k o ho=>?_) (fun k q hq=>?_)⟩
  · show (ob1++os)[ob1.length + k]?=some o
    rw [List.getElem?_append_right (by omega)]; simpa using ho
  · show (fp1++bss)[ob1.length + k]?=some q
    have:fp1.length=ob1.length:=by rw [hg.lenf,hg.len,H.len]
    rw [List.getElem?_append_right (by rw [this]; omega),this]; simpa using hq
end
section
variable {P:Program} {st:St} {s:Nat} {ann:List (Nat×Bool)} {R:Type} {T:FuncId→Option Sig}
theorem ptr_op {o:Oper} {c:Call} {f:FuncId} {xs:VSig} {id:Nat} {us cs:List V} {x:xs.t.den} {ob1:List Ob} {q:Tup xs.qs} {y:xs.u.den×Tup xs.rs} (hen:∀ args w,(callFunc f args).run P w=.ok (.enter f args) w) (hcon:ConP P f xs) (ho:o.op=.call c) (hf:c.callee=.value (.func f))
    (hvs:c.args.toList.map (ev st s ann)=.pt id 0 0 :: us) (hr:xs.rs.all flat=true) (hob:getAt st.ob id=some (.box cs)) (hmv:moved xs.t st.ob cs=some (x,ob1)) (hu:asTup st.ob xs.qs us=some q) (hsz:xs.t.sz=xs.u.sz) (hy:xs.F x q=some y) :
    OpChg P o st s ann (tupOf (ofTup xs.rs y.2)) { st with ob:=setAt (instC xs.u y.1 ob1).2 id (.box (instC xs.u y.1 ob1).1) } := by
  intro B M w0 w fp a H hann hop K Q hK
  have ha:=call_args ho hann hop
  rw [hvs] at ha
  rw [getAt_eq] at hob
  generalize hargs:c.args.toList.map a.eval=vals at ha
  match vals,ha with
  | [],ha=>exact absurd ha.1 (by simp)
  | v0 :: rest,ha =>
    obtain ⟨hv0,hrest⟩:=all2_split ha
    have hv0:crep (cxOf B M w st.ob fp) v0 (.pt id 0 0):=hv0
    obtain ⟨o',q',ho',hf',hv⟩:=hv0
    simp only [cxOf] at ho' hf'
    rw [hob] at ho'
    have e1:=Option.some.inj ho'
    subst e1
    obtain ⟨_,b0,rfl,rfl⟩:=hv
    obtain ⟨b0',c0,T0,hb',hh,hal⟩:=H.ob id _ _ hob hf'
    simp at hb'
    subst hb'
    have hh:w.heap[b0]?=some (.cells c0 T0 (0,0)):=hh
    have hb0:b0 < w.heap.size:=lt_of_block hh
    obtain ⟨mb,fp1,hown,hg⟩:=moved_rel hmv hal H.deep H.len
    have hp:=hg.perm.nodup_iff.2 H.nd
    have hat:ob1[id]?=some (.box cs)∧fp1[id]?=some [b0] := by
      rcases hg.turn id _ _ hob hf' with h | ⟨_,_,dp,e,l,h⟩
      · exact h
      · cases h
    have hb0mb:b0∉mb:=fun hm=>(List.nodup_append.1 hp).2.2 b0 (List.mem_flatten.2 ⟨_,List.mem_of_getElem? hat.2,by simp⟩) b0 hm rfl
    have hmblt:∀ b∈mb,b < w.heap.size:=fun b hb=>(H.ge b (hg.perm.mem_iff.1 (List.mem_append.2 (.inr hb)))).2
    unfold Oper.wp
    rw [call_run ho hf a w hen]
    have hrun:=hcon.run (fun _=>True) x q y w (c.args.map a.eval) rest b0 c0 T0 mb hy (by simpa using hargs) hh hown (List.nodup_cons.2 ⟨hb0mb,(List.nodup_append.1 hp).2.1⟩) hmblt
      (asTup_rel (J:=fun _=>True) H (fun _ _ _=>trivial) hu hrest (fun u _=>cov_all _ u)) ⟨H.am,fun b hb=>by
        rcases List.mem_cons.1 hb with rfl | hb
        · exact H.gn (hg.perm.mem_iff.1 (List.mem_append.2 (.inl (List.mem_flatten.2 ⟨_,List.mem_of_getElem? hat.2,by simp⟩))))
        · exact H.gn (hg.perm.mem_iff.1 (List.mem_append.2 (.inr hb)))⟩
    refine hrun.mono ?_
    rintro e1 w' ⟨vs,rfl,hos,htp,hout,hszw,hoth,hres,c',T',bs',hb'',hown',hnd2,hbs2⟩
    obtain ⟨hb0n,hndb⟩:=List.nodup_cons.1 hnd2
    -- the world with the variable as it was
    let w1:World:={ w' with heap:=w'.heap.setIfInBounds b0 (.cells c0 T0 (0,0)) }
    have h1b:w1.heap[b0]?=some (.cells c0 T0 (0,0)):=by
      show (w'.heap.setIfInBounds b0 _)[b0]?=_
      rw [Array.getElem?_setIfInBounds_self,if_pos (by omega)]
    have h1o:∀ q,q≠b0→w1.heap[q]?=w'.heap[q]? := fun q hq=>by
      show (w'.heap.setIfInBounds b0 _)[q]?=_
      rw [Array.getElem?_setIfInBounds_ne (fun h=>hq h.symm)]
    have h1s:w1.heap.size=w'.heap.size:=by
      show (w'.heap.setIfInBounds b0 _).size=_
      simp
    have hown1:own w1 xs.u y.1 c'.toList bs':=own_keep hown' (fun q hq=>h1o q (fun he=>hb0n (he ▸ hq)))
    obtain ⟨os,bss,e,i⟩:=instC_rel hown1 ob1
    obtain ⟨m1,H1,hrel⟩:=used_push H hg i hndb (fun b hb=>by rw [h1s]; exact hbs2 b hb) (by rw [h1s]; exact hszw) (fun b hb hm=>by
      by_cases hbb:b=b0
      · subst hbb; rw [h1b,hh]
      · rw [h1o b hbb]
        exact hoth b hb (fun hmm=>(List.mem_cons.1 hmm).elim hbb hm)) hos htp hout
    have hidl:id < ob1.length:=lt_of_get hat.1
    have hlen:c'.size=c0.size:=by
      have g1:=rep_length (own_rep (I:=fun _=>True) hown (fun _ _=>trivial))
      have g2:=rep_length (own_rep (I:=fun _=>True) hown' (fun _ _=>trivial))
      simp at g1 g2
      omega
    obtain ⟨H2,hcr⟩:=box_any (w':=w') H1 (id:=id) (b:=b0) (cs:=cs) (us:=(instC xs.u y.1 ob1).1) (c:=c0) (c':=c') (T:=T0) (T2:=T') (by rw [List.getElem?_append_left hidl]; exact hat.1)
      (by rw [List.getElem?_append_left (lt_of_get hat.2)]; exact hat.2) h1b hb'' hlen (fun q hq=>(h1o q hq).symm) h1s.symm rfl rfl rfl hrel
    rw [← e] at H2 hcr
    refine hK (resVal vs) w' (fp1++bss) H2 ?_ (trep_tupOf (all2_ofTup (hres.flat hr)))
    have hadv:=Adv.of_mv (st:=st) (st':={ st with ob:=ob1++os }) rfl H.rows m1
    exact fun cur a v t hgr=>grep_map hcr (by rw [e]; exact hadv cur a v t hgr)
theorem use_op {o:Oper} {c:Call} {f:FuncId} {xs:VSig} {v:V} {us:List V} {x:xs.t.den} {ob1:List Ob} {q:Tup xs.qs} {y:xs.u.den×Tup xs.rs} (hen:∀ args w,(callFunc f args).run P w=.ok (.enter f args) w) (hcon:ConU P f xs) (ho:o.op=.call c) (hf:c.callee=.value (.func f))
    (hvs:c.args.toList.map (ev st s ann)=v :: us) (hkn:known v=true) (hag:aggOk xs.t v=true) (hmv:moved xs.t st.ob (cellsOf v)=some (x,ob1)) (hu:asTup st.ob xs.qs us=some q) (hy:xs.F x q=some y) :
    OpChg P o st s ann (inst1 xs.u y.1 ob1).1 { st with ob:=(inst1 xs.u y.1 ob1).2 } := by
  intro B M w0 w fp a H hann hop K Q hK
  have ha:=call_args ho hann hop
  rw [hvs] at ha
  generalize hargs:c.args.toList.map a.eval=vals at ha
  match vals,ha with
  | [],ha=>exact absurd ha.1 (by simp)
  | v0 :: rest,ha =>
    obtain ⟨hv0,hrest⟩:=all2_split ha
    obtain ⟨mb,fp1,hown,hg⟩:=moved_rel hmv (cells_of_known hv0 hkn) H.deep H.len
    have hp:=hg.perm.nodup_iff.2 H.nd
    have hmblt:∀ b∈mb,b < w.heap.size:=fun b hb=>(H.ge b (hg.perm.mem_iff.1 (List.mem_append.2 (.inr hb)))).2
    have hTy:TyOwn w xs.t x v0 mb:=by
      refine ⟨hown,fun hagg=>?_,fun hn=>?_⟩
      · cases v with
        | agg us=>obtain ⟨vs,rfl,_⟩:=hv0; exact ⟨vs,rfl⟩
        | _=>simp [aggOk,hagg] at hag
      · cases v with
        | agg us=>simp [aggOk,hn] at hag
        | any=>cases hkn
        | tup us=>cases hkn
        | g s t w u=>cases hkn
        | d t z=>exact crep_one (show crep (cxOf B M w st.ob fp) v0 (.d t z) from hv0)
        | nil=>exact crep_one (show crep (cxOf B M w st.ob fp) v0 (.nil) from hv0)
        | nilp=>exact crep_one (show crep (cxOf B M w st.ob fp) v0 (.nilp) from hv0)
        | own k=>exact crep_one (show crep (cxOf B M w st.ob fp) v0 (.own k) from hv0)
        | sub k i j=>exact crep_one (show crep (cxOf B M w st.ob fp) v0 (.sub k i j) from hv0)
        | pt k i o=>exact crep_one (show crep (cxOf B M w st.ob fp) v0 (.pt k i o) from hv0)
        | rp t z o=>exact crep_one (show crep (cxOf B M w st.ob fp) v0 (.rp t z o) from hv0)
        | fn g=>exact crep_one (show crep (cxOf B M w st.ob fp) v0 (.fn g) from hv0)
        | part p1 p2 p3=>exact crep_one (show crep (cxOf B M w st.ob fp) v0 (.part p1 p2 p3) from hv0)
        | clo p1 p2 p3=>exact crep_one (show crep (cxOf B M w st.ob fp) v0 (.clo p1 p2 p3) from hv0)
        | cap p1 p2 p3=>exact crep_one (show crep (cxOf B M w st.ob fp) v0 (.cap p1 p2 p3) from hv0)
        | capm p1 p2=>exact crep_one (show crep (cxOf B M w st.ob fp) v0 (.capm p1 p2) from hv0)
        | emp p1 p2=>exact crep_one (show crep (cxOf B M w st.ob fp) v0 (.emp p1 p2) from hv0)
        | mp p1=>exact crep_one (show crep (cxOf B M w st.ob fp) v0 (.mp p1) from hv0)
        | ifc p1 p2 p3 p4=>exact crep_one (show crep (cxOf B M w st.ob fp) v0 (.ifc p1 p2 p3 p4) from hv0)
        | sl p1=>exact crep_one (show crep (cxOf B M w st.ob fp) v0 (.sl p1) from hv0)
        | z p1=>exact crep_one (show crep (cxOf B M w st.ob fp) v0 (.z p1) from hv0)
    unfold Oper.wp
    rw [call_run ho hf a w hen]
    have hrun:=hcon.run (fun _=>True) x q y w (c.args.map a.eval) v0 rest mb hy (by simpa using hargs) hTy (List.nodup_append.1 hp).2.1 hmblt
      (asTup_rel (J:=fun _=>True) H (fun _ _ _=>trivial) hu hrest (fun u _=>cov_all _ u)) ⟨H.am,fun b hb=>H.gn (hg.perm.mem_iff.1 (List.mem_append.2 (.inr hb)))⟩
    refine hrun.mono ?_
    rintro e1 w' ⟨r,rfl,hos,htp,hout,hszw,hoth,bs',hown',hnd2,hbs2⟩
    obtain ⟨os,bss,e,i⟩:=inst1_rel hown' ob1
    obtain ⟨m1,H1,hrel⟩:=used_push H hg i hnd2 hbs2 hszw hoth hos htp hout
    rw [e] at hK
    exact hK r w' (fp1++bss) H1 (Adv.of_mv rfl H.rows m1) (trep_of_vrep hrel)
end
end Go.Vm

namespace Go.Vm
variable [Amb]
open Go.RowKit (Below)
section
variable {B:Lim} {M:Nat→Prop} {w0 w:World} {ob:List Ob} {fp:List (List Nat)}
theorem ripe_rel (H:Hrel B M w0 w ob fp) {id:Nat} {e:Ty} {l:List e.den} {n:Nat} (ho:ob[id]?=some (.pre e l n)) (hn:n=l.length) :
    Hrel B M w0 w (setAt ob id (.row true e l)) fp∧Mv (cxOf B M w ob fp) (cxOf B M w (setAt ob id (.row true e l)) fp):=by
  have hlt:=lt_of_get ho
  have hself:(setAt ob id (.row true e l))[id]?=some (.row true e l):=by simp [setAt_eq,hlt]
  have hne:∀ i,id≠i→(setAt ob id (.row true e l))[i]?=ob[i]? := fun i h=>by simp [setAt_eq,h]
  have himm:∀ b,b < w.heap.size→Vm.imm B M w ob fp b→Vm.imm B M w (setAt ob id (.row true e l)) fp b:=by
    intro b hb hi
    refine ⟨hb,hi.2.1,fun i o bs ho' hf hl hm=>?_⟩
    by_cases he:id=i
    · subst he
      exact hi.2.2 id _ bs ho hf trivial hm
    · rw [hne i he] at ho'
      exact hi.2.2 i o bs ho' hf hl hm
  have m:Mv (cxOf B M w ob fp) (cxOf B M w (setAt ob id (.row true e l)) fp):=by
    refine ⟨fun b hb hi=>⟨himm b hb hi,rfl⟩,fun i o bs ho' hf=>?_⟩
    by_cases he:id=i
    · subst he
      simp only [cxOf] at ho'
      rw [ho] at ho'
      cases ho'
      exact .inr (.inr (.inr (.inr (.inl ⟨e,l,n,rfl,hself,hf,fun _ _=>rfl⟩))))
    · exact .inl ⟨by simp only [cxOf] at ho' ⊢; rw [hne i he]; exact ho',hf,fun _ _=>rfl⟩
  refine ⟨⟨by rw [H.len]; simp [setAt_eq],H.nd,H.ge,fun i o bs ho' hf=>?_,H.below,H.size,H.amb⟩,m⟩
  by_cases he:id=i
  · subst he
    rw [hself] at ho'
    cases ho'
    rcases H.ob id _ bs ho hf with ⟨h1,h2,_⟩ | ⟨b,c,T,hb,hsz,bss,h1,h2,h3,h4,_⟩
    · exact .inl ⟨h1,h2⟩
    · refine .inr ⟨b,c,T,hb,hsz,?_⟩
      simp only [if_true]
      exact ⟨bss,h1,by omega,fun i hi=>h4 i hi (by omega)⟩
  · rw [hne i he] at ho'
    exact m.orep H.rows (H.ob i o bs ho' hf) (fun _ _=>rfl)
theorem leaves_length:∀ t:Ty,(leaves t).length=t.sz
  | .unit=>rfl
  | .pair a b=>by simp [leaves,Ty.sz,leaves_length a,leaves_length b]
  | .int _ | .bool | .str | .slice _ | .ptr _ | .ifp _ _=>rfl
theorem leaves_flat:∀ {t:Ty},(leaves t).all flat=true→flat t=true
  | .unit,_=>rfl
  | .pair a b,h=>by
    simp only [leaves,List.all_append,Bool.and_eq_true] at h
    simp only [flat,Bool.and_eq_true]
    exact ⟨leaves_flat h.1,leaves_flat h.2⟩
  | .int _,_=>rfl
  | .bool,_=>rfl
  | .str,_=>rfl
  | .slice _,h=>by simp [leaves,flat] at h
  | .ptr _,h=>by simp [leaves,flat] at h
  | .ifp _ _,h=>by simp [leaves,flat] at h
theorem splice_left {α:Type} {c1 c2:List α} {off:Nat} {v:α} (h:off < c1.length):splice (c1++c2) off 1 [v]=splice c1 off 1 [v]++c2:=by
  unfold splice
  rw [List.take_append_of_le_length (by omega),List.drop_append_of_le_length (by omega),← List.append_assoc]
theorem splice_right {α:Type} {c1 c2:List α} {off:Nat} {v:α} (h:c1.length≤off):splice (c1++c2) off 1 [v]=c1++splice c2 (off - c1.length) 1 [v] := by
  unfold splice
  rw [List.take_append,List.take_of_length_le h,List.drop_append,List.drop_of_length_le (by omega),List.nil_append,List.append_assoc,List.append_assoc,show off + 1 - c1.length=off - c1.length + 1 by omega]
  simp
theorem lone_own {I:Nat→Prop} {e:Ty} {l:List e.den} {v:Value} {bs:List Nat} (hv:own w (.slice e) l [v] bs):∀ {t:Ty} {x y:t.den} {cs:List Value} {off:Nat},rep w I t x cs→((leaves t).take off).all flat=true→((leaves t).drop (off + 1)).all flat=true →
    setSl (.slice e) l t x off=some y→own w t y (splice cs off 1 [v]) bs
  | .pair a b,x,y,cs,off,hr,h1,h2,h3=>by
    obtain ⟨c1,c2,rfl,r1,r2⟩:=hr
    have hl1:=rep_length r1
    have ha:=leaves_length a
    simp only [setSl] at h3
    split at h3
    · rename_i hlt
      have hlt:=Nat.le_of_ble_eq_true hlt
      split at h3
      · rename_i z hz
        have h3:=Option.some.inj h3
        subst h3
        simp only [leaves] at h1 h2
        rw [List.take_append_of_le_length (by omega)] at h1
        rw [List.drop_append_of_le_length (by omega),List.all_append,Bool.and_eq_true] at h2
        rw [splice_left (by omega)]
        exact ⟨_,c2,bs,[],rfl,by simp,lone_own hv r1 h1 h2.1 hz,flat_own (leaves_flat h2.2) r2⟩
      · cases h3
    · rename_i hlt
      have hlt:¬ (off + 1≤a.sz):=fun h=>hlt (by rw [Nat.ble_eq]; exact h)
      split at h3
      · rename_i z hz
        have h3:=Option.some.inj h3
        subst h3
        simp only [leaves] at h1 h2
        rw [List.take_append,List.take_of_length_le (by omega),List.all_append,Bool.and_eq_true] at h1
        rw [List.drop_append,List.drop_of_length_le (by omega),List.nil_append,ha,show off + 1 - a.sz=off - a.sz + 1 by omega] at h2
        rw [ha] at h1
        rw [splice_right (by omega),hl1]
        exact ⟨c1,_,[],bs,rfl,by simp,flat_own (leaves_flat h1.1) r1,lone_own hv r2 h1.2 h2 hz⟩
      · cases h3
  | .slice e',x,y,cs,off,hr,_,_,h3=>by
    simp only [setSl] at h3
    split at h3
    · rename_i h0
      have h0:=Nat.eq_of_beq_eq_true h0
      subst h0
      split at h3
      · rename_i he
        cases he
        have h3:=Option.some.inj h3
        subst h3
        have hl:=rep_length hr
        match cs,hl with
        | [c],_=>exact hv
      · cases h3
    · cases h3
  | .int _,_,_,_,_,_,_,_,h3=>by simp [setSl] at h3
  | .bool,_,_,_,_,_,_,_,h3=>by simp [setSl] at h3
  | .str,_,_,_,_,_,_,_,h3=>by simp [setSl] at h3
  | .ptr _,_,_,_,_,_,_,_,h3=>by simp [setSl] at h3
  | .ifp _ _,_,_,_,_,_,_,_,h3=>by simp [setSl] at h3
  | .unit,_,_,_,_,_,_,_,h3=>by simp [setSl] at h3
end
section
variable {P:Program} {st:St} {s:Nat} {ann:List (Nat×Bool)}
theorem ripe_op {o:Oper} {x:Operand} (ho:o.op=.assign x) {id:Nat} {e:Ty} {l:List e.den} {n:Nat} (hx:ev st s ann x=.own id) (hob:st.ob[id]?=some (.pre e l n)) (hn:n=l.length) :
    OpChg P o st s ann (.own id) { st with ob:=setAt st.ob id (.row true e l) } := by
  intro B M w0 w fp a H hann hop K Q hK
  have hv:=ev_rel (x:=x) (fun t ht=>hop t (by simp [ho,Op.operands,ht])) hann
  rw [hx] at hv
  obtain ⟨h1,h2⟩:=ripe_rel H hob hn
  exact wp_to (v:=a.eval x) (w':=w) (by simp [execOp,ho]) (hK _ w fp h1 (Adv.of_mv rfl H.rows h2) (h2.crep H.rows (u:=.own id) hv))
theorem storeP_op {o:Oper} {t:TypeId} {p x:Operand} {st':St} (ho:o.op=.store t p x) (h:storeP P st t (ev st s ann p) (ev st s ann x)=some (true,st')):OpChg P o st s ann .any st':=by
  unfold storeP at h
  split at h
  case h_2=>cases h
  rename_i i id k off id2 hi hp hx
  split at h
  case isFalse=>cases h
  rename_i hc
  simp only [Bool.and_eq_true,Nat.beq_eq,Bool.not_eq_true',← Bool.not_eq_true] at hc
  obtain ⟨hisz,hid⟩:=hc
  simp only [getAt_eq] at h
  split at h
  case h_2=>cases h
  rename_i ty l n e2 l2 hob hob2
  split at h
  case isFalse=>cases h
  rename_i hlone
  split at h
  case h_2=>cases h
  rename_i y hy
  simp only [Option.some.injEq,Prod.mk.injEq] at h
  obtain ⟨hkn,rfl⟩:=h
  have hkn:k=n:=Nat.eq_of_beq_eq_true hkn
  subst hkn
  intro B M w0 w fp a H hann hop K Q hK
  have hvp:=ev_rel (x:=p) (fun t ht=>hop t (by simp [ho,Op.operands,ht])) hann
  have hvx:=ev_rel (x:=x) (fun t ht=>hop t (by simp [ho,Op.operands,ht])) hann
  rw [hp] at hvp
  rw [hx] at hvx
  have hvp:crep (cxOf B M w st.ob fp) (a.eval p) (.pt id k off):=hvp
  have hvx:crep (cxOf B M w st.ob fp) (a.eval x) (.own id2):=hvx
  obtain ⟨o',q,ho',hf,hv⟩:=hvp
  simp only [cxOf] at ho' hf
  rw [hob] at ho'
  have e1:=Option.some.inj ho'
  subst e1
  obtain ⟨hkl,b,rest,rfl,he⟩:=hv
  rcases H.ob id _ _ hob hf with ⟨_,h0,_⟩ | ⟨b',c,T,hh,hsz,bss,h1,hbl,hnl,hel,hrp⟩
  · cases h0
  simp at h1
  obtain ⟨rfl,rfl⟩:=h1
  have hh:w.heap[b]?=some (.cells c T (0,0)):=hh
  have hm:=mul_le_of_lt (s:=ty.sz) hkl
  have hone:=crep_one hvx
  have hcells:=cells_one hone
  -- the list that is moved in
  have hmv:moved (.slice e2) st.ob [.own id2]=some (l2,setAt st.ob id2 .dead):=by
    simp [moved,mvc,getAt_eq,hob2]
  obtain ⟨bsm,fp1,hown,hg⟩:=moved_rel (vs:=[a.eval x]) hmv (all2_one hvx) H.deep H.len
  have hne:id≠id2:=fun he=>by rw [he] at hob; rw [hob] at hob2; cases hob2
  have ho1:(setAt st.ob id2 .dead)[id]?=some (.pre ty l k):=by rw [setAt_eq,List.getElem?_set_ne hne.symm]; exact hob
  have hf1:fp1[id]?=some (b :: bss.flatten):=by
    rcases hg.turn id _ _ hob hf with h1 | ⟨h1,_⟩
    · exact h1.2
    · rw [h1] at ho1; cases ho1
  simp only [loneAt,Bool.and_eq_true] at hlone
  have hbn:=nodup_tail H.nd hf
  have hnb:∀ j,j < k→∀ q∈bss.getD j [],q≠b:=fun j hj q hq he=>hbn (he ▸ bss_mem (by omega) hq)
  have hb1:∀ q∈bsm,q≠b:=by
    intro q hq he
    subst he
    have h1:=hg.perm.nodup_iff.2 H.nd
    exact (List.nodup_append.1 h1).2.2 q (List.mem_flatten.2 ⟨_,List.mem_of_getElem? hf1,by simp⟩) q hq rfl
  have hflat:(bss++[bsm]).flatten=bss.flatten++bsm:=by simp
  have hnd:(fp1.set id (b :: (bss++[bsm]).flatten)).flatten.Nodup:=by
    rw [hflat]
    have h1:=set_perm hf1 (b :: (bss.flatten++bsm))
    have h2:(fp1.flatten++(b :: (bss.flatten++bsm))).Perm ((fp1.flatten++bsm)++(b :: bss.flatten)):=by
      rw [List.append_assoc]
      refine List.Perm.append_left _ ?_
      have:=List.perm_append_comm (l₁:=b :: bss.flatten) (l₂:=bsm)
      simpa using this
    have h3:=(List.perm_append_right_iff _).1 (h1.trans h2)
    have h5:=(h3.trans hg.perm).nodup_iff.2 H.nd
    exact h5
  have hoff:off + 1≤ty.sz:=by
    rcases Nat.lt_or_ge off ty.sz with h' | h'
    · exact h'
    · exfalso
      have:∀ {t:Ty} {x:t.den} {off:Nat},t.sz≤off→setSl (.slice e2) l2 t x off=none:=by
        intro t
        induction t with
        | pair a b iha ihb =>
          intro x off h
          simp only [Ty.sz] at h
          simp only [setSl]
          rw [if_neg (fun hh=>by have:=Nat.le_of_ble_eq_true hh; omega),ihb (by omega)]
        | slice e _ =>
          intro x off h
          simp only [Ty.sz] at h
          simp only [setSl]
          rw [if_neg (fun hh=>by have:=Nat.eq_of_beq_eq_true hh; omega)]
        | _=>intro x off h; rfl
      rw [this h'] at hy
      cases hy
  have hBb:¬ B.K b:=(H.ge b (List.mem_flatten.2 ⟨_,List.mem_of_getElem? hf,by simp⟩)).1
  have hvl:[a.eval x].length=1:=rfl
  obtain ⟨w',hw'⟩:∃ w',w'=w.setRow b (splice c.toList (k * ty.sz + off) 1 [a.eval x]).toArray:=⟨_,rfl⟩
  obtain ⟨f1,f2,f3,f4⟩:=setRow_facts (c':=(splice c.toList (k * ty.sz + off) 1 [a.eval x]).toArray) (T:=T) hh hBb
  rw [← hw'] at f1 f2 f3 f4
  have hcs:(splice c.toList (k * ty.sz + off) 1 [a.eval x]).length=c.toList.length:=splice_length hvl (by simp; omega)
  have W:Wr B M w w' st.ob (setAt st.ob id2 .dead) ((setAt (setAt st.ob id2 .dead) id (.pre ty (l.set k y) (k + 1))).map (onCells (kill1 id))) fp fp1 id b bss.flatten (bss++[bsm]).flatten (.pre ty l k) (.pre ty (l.set k y) (k + 1)) (kill1 id) c (splice c.toList (k * ty.sz + off) 1 [a.eval x]).toArray T T :=
    ⟨hg.turns,hob,ho1,hf,hf1,trivial,hh,f1,by simpa using hcs,f2,f3,f4,.inr (.inr ⟨ty,l,_,_,_,rfl,rfl,by simp⟩),fun q hq=>by
      rw [hflat] at hq
      rcases List.mem_append.1 hq with hq | hq
      · exact .inl hq
      · exact .inr (hg.taken q hq),hnd,.inr rfl,by rw [setAt_eq _ id,List.map_set]; rfl⟩
  have hother:∀ i,i < l.length→i≠k→cut (splice c.toList (k * ty.sz + off) 1 [a.eval x]) (i * ty.sz) ty.sz=cut c.toList (i * ty.sz) ty.sz:=by
    intro i hi hik
    refine cut_splice_other hvl (by simp; omega) ?_
    rcases Nat.lt_or_gt_of_ne hik with h | h
    · have:=mul_le_of_lt (s:=ty.sz) h
      left; omega
    · have:=mul_le_of_lt (s:=ty.sz) h
      right; omega
  have hsame:cut (splice c.toList (k * ty.sz + off) 1 [a.eval x]) (k * ty.sz) ty.sz=splice (cut c.toList (k * ty.sz) ty.sz) off 1 [a.eval x] := cut_splice_same hvl hoff (by simp; omega)
  have hnewel:own w ty y (splice (cut c.toList (k * ty.sz) ty.sz) off 1 [a.eval x]) bsm:=by
    rw [getD_of_lt hkl] at hy
    exact lone_own hown (hrp k hkl (Nat.le_refl _)) hlone.1.1 hlone.1.2 hy
  have hrel:=W.hrel H (.inr ⟨b,_,T,f1,by simpa [hcs] using hsz,bss++[bsm],rfl,by simp [hbl],by simp; omega,fun i hi hin=>by
      simp at hi
      by_cases hik:i=k
      · subst hik
        simp only [List.getElem_set_self]
        have:(bss++[bsm]).getD i []=bsm:=by simp [List.getD_eq_getElem?_getD,← hbl]
        rw [this,hsame]
        exact own_keep hnewel (fun q hq=>f2 q (hb1 q hq))
      · simp only [List.getElem_set_ne (Ne.symm hik)]
        have hlt:i < k:=by omega
        have:(bss++[bsm]).getD i []=bss.getD i [] := by rw [List.getD_eq_getElem?_getD,List.getElem?_append_left (by omega),← List.getD_eq_getElem?_getD]
        rw [this,hother i hi hik]
        exact own_keep (hel i hi hlt) (fun q hq=>f2 q (hnb i hlt q hq)),fun i hi hin=>by
      simp at hi
      have hik:i≠k:=by omega
      simp only [List.getElem_set_ne (Ne.symm hik)]
      rw [hother i hi hik]
      exact rep_keep (W.imm H) (hrp i hi (by omega))⟩)
  refine store_exec ho (w':=w') ?_ (hK _ w' _ hrel ?_ trivial)
  · rw [he,hw']
    have:=store_run (P:=P) (t:=t) hi (w:=w) (b:=b) (o:=k * ty.sz + off) hh (v:=a.eval x) (by rw [hcells]; exact hisz.symm) (by omega) (by rw [hcells]; intro z hz; simp at hz; subst hz; exact hone)
    rw [hcells,hisz] at this
    exact this
  · exact adv_kill (st1:={ st with ob:=setAt (setAt st.ob id2 .dead) id (.pre ty (l.set k y) (k + 1)) }) rfl (fun v u hu=>W.crep H hu)
theorem shallow_op {o:Oper} {c:Call} {f:FuncId} {xs:VSig} {e:Ty} {v:V} {x:Tup [xs.t]} {y:xs.u.den×Tup xs.rs} {l:List e.den} (hen:∀ args w,(callFunc f args).run P w=.ok (.enter f args) w) (hcon:ConK P f xs e) (ho:o.op=.call c) (hf:c.callee=.value (.func f))
    (hvs:c.args.toList.map (ev st s ann)=[v]) (hpt:isPt v=false) (hx:asTup (frzAll st.ob (cellsOf v)) [xs.t] [v]=some x) (hy:xs.F x.1 (tzero xs.qs)=some y) (hl:getd (.slice e) (.d xs.u y.1)=some l) :
    OpChg P o st s ann (newRow { st with ob:=frzAll st.ob (cellsOf v) } false e l).1 (newRow { st with ob:=frzAll st.ob (cellsOf v) } false e l).2:=by
  intro B M w0 w fp a H hann hop K Q hK
  have ha:=call_args ho hann hop
  rw [hvs] at ha
  obtain ⟨hF,hno⟩:=frzAll_rel H (cellsOf v)
  generalize frzAll st.ob (cellsOf v)=obF at *
  have ha2:All2 (trep (cxOf B M w obF fp)) (c.args.toList.map a.eval) [v] := ha.imp (fun _ _ h=>trep_map hF.adv h)
  have hrep:TupRep w (imm B M w obF fp) [xs.t] x (c.args.toList.map a.eval):=asTup_rel (J:=imm B M w obF fp) hF.rel (fun _ _ h=>h) hx ha2 (fun u hu=>by
    rw [List.mem_singleton] at hu
    subst hu
    have h1:∀ z∈cellsOf u,cov1 (cxOf B M w obF fp) (imm B M w obF fp) z:=fun z hz=>(hno z hz).cov1
    cases u with
    | agg us=>exact h1
    | own id=>exact h1 (.own id) (by simp [cellsOf])
    | sub id i j=>exact h1 (.sub id i j) (by simp [cellsOf])
    | part id i j=>exact h1 (.part id i j) (by simp [cellsOf])
    | pt id i off=>cases hpt
    | _=>trivial)
  unfold Oper.wp
  rw [call_run ho hf a w hen]
  have hrun:=hcon.run (imm B M w obF fp) x.1 y l w (c.args.map a.eval) hy hl (by simpa using hrep) H.am
  refine hrun.mono ?_
  rintro en w' ⟨v',bs,rfl,hbel,hnd,hbs,hhd,hrow⟩
  have hndup:(fp++[bs]).flatten.Nodup:=by
    rw [List.flatten_append,List.nodup_append]
    refine ⟨H.nd,by simpa using hnd,fun p hp q hq he=>?_⟩
    subst he
    have h1:=(H.ge p hp).2
    have h2:=(hbs p (by simpa using hq)).1
    omega
  obtain ⟨h1,h2⟩:=turn_push (os:=[.row false e l]) (bss:=[bs]) (w':=w') hF.rel (turns_refl _ _) rfl hndup (fun b hb=>.inr (hbs b (by simpa using hb))) hbel.size (fun b hb' _=>hbel.block b hb') (Bel.of hbel H.size)
  have hrel:=h2 (fun k o' q ho' hq=>by
    cases k with
    | succ k=>simp at ho'
    | zero =>
      simp at ho' hq
      subst ho'
      subst hq
      have himp:∀ b,b < w'.heap.size→(imm B M w obF fp b∨(w.heap.size≤b∧b∉bs))→imm B M w' (obF++[.row false e l]) (fp++[bs]) b:=by
        intro b hb hor
        rcases hor with hi | ⟨hge,hnb⟩
        · exact (h1.keep b hi.1 hi).1
        · refine ⟨hb,fun hlt=>by have:=H.size b hlt; omega,fun id o2 bs2 ho2 hf2 hl2 hm=>?_⟩
          by_cases hid:id < obF.length
          · rw [List.getElem?_append_left (by rw [hF.rel.len]; exact hid)] at hf2
            have:=(H.ge b (List.mem_flatten.2 ⟨bs2,List.mem_of_getElem? hf2,hm⟩)).2
            omega
          · have hlt:=lt_of_get hf2
            simp [hF.rel.len] at hlt
            have he:id=fp.length:=by rw [hF.rel.len]; omega
            subst he
            rw [List.getElem?_append_right (Nat.le_refl _)] at hf2
            simp at hf2
            subst hf2
            exact hnb hm
      rcases hrow with h | ⟨b,c',T',h3,h4,h5⟩
      · exact .inl h
      · refine .inr ⟨b,c',T',h3,h4,?_⟩
        simp only [Bool.false_eq_true,if_false] at h5 ⊢
        exact ⟨h5.1,fun i hi=>rep_imp himp (h5.2 i hi)⟩)
  refine hK v' w' (fp++[bs]) hrel (fun cur a v t hg=>grep_map (fun _ _ hu=>h1.crep hF.rel.rows (hF.adv _ _ hu)) hg) ?_
  exact ⟨.row false e l,bs,by simp [newRow,cxOf],by simp [newRow,cxOf,← hF.rel.len],hhd⟩
end
end Go.Vm

namespace Go.Vm
variable [Amb]
open Go.RowKit (Below)
section
variable {P:Program} {T:FuncId→Option Sig} {st:St} {s:Nat} {W:Option Bool} {ann:List (Nat×Bool)} {R:Type}
theorem method_run {k:TypeId} {name:String} {f:FuncId} (h:methodFn P k name=some f) (p:Array Value) (args:Array Value) (w:World) :
    (callMethod (.iface k (.agg p)) name args).run P w=(callFunc f (#[.agg p]++args)).run P w:=by
  unfold methodFn at h
  split at h
  case h_2=>cases h
  rename_i i fs hi hu
  split at h
  case h_2=>cases h
  rename_i m hm
  split at h
  case isFalse=>cases h
  rename_i hpath
  split at h
  case h_2=>cases h
  rename_i f' hf
  have h:=Option.some.inj h
  subst h
  have hp:m.path.toList=[] := by
    have:m.path=#[] := by simpa using hpath
    rw [this]
  have key:∀ n,(method (n + 1) k (.agg p) name).run P w=.ok (f',.agg p) w:=by
    intro n
    simp only [method,Sem.run_bind,Result.andThen_ok,run_typeInfo w hi,hm,hp,follow,Sem.run_pure,hf,receiverAt,run_underlying hu,Place.get]
  have hd:P.types.size + Made.depth=(P.types.size + 99) + 1:=rfl
  simp only [callMethod,Sem.run_bind,run_program,Result.andThen_ok]
  rw [hd,key]
  rfl
theorem icall_le {ob:List Ob} {t:Ty} {x:t.den} {name:String} {us:List V}:∀ {ks:List TypeId} {g:Int} {b:Bool},icall P T ob t x name us ks g=some b→0≤g∧∃ k f sig z y,ks[g.toNat]?=some k∧methodFn P k name=some f∧T f=some sig ∧
    sig.w=none∧sig.fresh=false∧sig.rs.all flat=true∧asTup ob sig.ps (ofTy (.pair t .unit) (x,()) :: us)=some z∧sig.F z=some y∧ofTup sig.rs y=[.d .bool b]
  | [],_,_,h=>by cases h
  | k :: r,g,b,h=>by
    simp only [icall] at h
    split at h
    case h_2=>cases h
    rename_i f hf
    split at h
    case h_2=>cases h
    rename_i sig hsig
    split at h
    case isFalse=>cases h
    rename_i hc
    simp only [Bool.and_eq_true,Option.isNone_iff_eq_none,Bool.not_eq_true'] at hc
    split at h
    case h_2=>cases h
    rename_i z hz
    split at h
    · rename_i hg
      have hg:=of_decide_eq_true hg
      subst hg
      simp only [Option.bind_eq_some_iff] at h
      obtain ⟨y,hy,hb⟩:=h
      refine ⟨Int.le_refl 0,k,f,sig,z,y,rfl,hf,hsig,hc.1.1,hc.1.2,hc.2,hz,hy,?_⟩
      unfold boolOf at hb
      split at hb
      · rename_i b' he
        rw [he,Option.some.inj hb]
      · cases hb
    · rename_i hg
      obtain ⟨h0,k',f',sig',z',y',h1,h2⟩:=icall_le h
      refine ⟨by omega,k',f',sig',z',y',?_,h2⟩
      have:g.toNat=(g - 1).toNat + 1:=by omega
      rw [this]
      exact h1
theorem icallD_le {ob:List Ob} {t:Ty} {x:t.den} {name:String} {us:List V} {rt:Ty}:∀ {ks:List TypeId} {g:Int} {b:rt.den},icallD P T ob t x name us rt ks g=some b→0≤g∧∃ k f sig z y,ks[g.toNat]?=some k∧methodFn P k name=some f∧T f=some sig ∧
    sig.w=none∧asTup ob sig.ps (ofTy (.pair t .unit) (x,()) :: us)=some z∧sig.F z=some y∧aggOf rt sig.rs y=some b
  | [],_,_,h=>by cases h
  | k :: r,g,b,h=>by
    simp only [icallD] at h
    split at h
    case h_2=>cases h
    rename_i f hf
    split at h
    case h_2=>cases h
    rename_i sig hsig
    split at h
    case isFalse=>cases h
    rename_i hc
    simp only [Option.isNone_iff_eq_none] at hc
    split at h
    case h_2=>cases h
    rename_i z hz
    split at h
    · rename_i hg
      have hg:=of_decide_eq_true hg
      subst hg
      simp only [Option.bind_eq_some_iff] at h
      obtain ⟨y,hy,hb⟩:=h
      exact ⟨Int.le_refl 0,k,f,sig,z,y,rfl,hf,hsig,hc,hz,hy,hb⟩
    · rename_i hg
      obtain ⟨h0,k',f',sig',z',y',h1,h2⟩:=icallD_le h
      refine ⟨by omega,k',f',sig',z',y',?_,h2⟩
      have:g.toNat=(g - 1).toNat + 1:=by omega
      rw [this]
      exact h1
theorem aggOf_rel {cx:Cx} {rt:Ty} {rs:List Ty} {y:Tup rs} {b:rt.den} {vs:List Value} (h:aggOf rt rs y=some b) (hr:TupRep cx.w cx.I rs y vs):trep cx (resVal vs) (.agg (dcells rt b)):=by
  unfold aggOf at h
  split at h
  case h_2=>cases h
  rename_i cs hcs
  match rs,y,hcs,hr with
  | [t],y,hcs,hr =>
    obtain ⟨v,r,rfl,hT,hr2⟩:=hr
    have hr2:r=[] := hr2
    subst hr2
    simp only [ofTup,List.cons.injEq,and_true] at hcs
    unfold ofTy at hcs
    split at hcs
    case isFalse=>cases hcs
    rename_i hag
    cases hcs
    obtain ⟨vs',rfl⟩:=hT.2.1 hag
    exact ⟨vs',rfl,all2_crep_dcells (ofcells_rel h (all2_dcells hT.1))⟩
  | [],_,hcs,_=>exact absurd hcs (by simp [ofTup])
  | _ :: _ :: _,_,hcs,_=>exact absurd hcs (by simp [ofTup])
theorem invoke_args {o:Oper} {c:Call} {xo:Operand} {name:String} (ho:o.op=.call c) (hf:c.callee=.invoke xo name) {B:Lim} {M:Nat→Prop} {w:World} {fp:List (List Nat)} {a:Act} (hann:AnnOk a ann)
    (hop:∀ t,Operand.tmp t∈o.op.operands→grep (cxOf B M w st.ob fp) (some s) a (a.tmps.getD t undef) (look t st.tm)):All2 (trep (cxOf B M w st.ob fp)) (c.args.toList.map a.eval) (c.args.toList.map (ev st s ann)):=by
  refine ⟨by simp,fun i v u hv hu=>?_⟩
  simp only [List.getElem?_map,Option.map_eq_some_iff] at hv hu
  obtain ⟨q,hq,rfl⟩:=hv
  obtain ⟨q',hq',rfl⟩:=hu
  rw [hq] at hq'
  have hqq:=Option.some.inj hq'
  subst hqq
  refine ev_rel (fun t ht=>hop t ?_) hann
  have hm:q∈c.args:=by
    have:=List.mem_of_getElem? hq
    simpa using this
  rw [ho,← ht]
  simp [Op.operands,Call.operands,hm]
theorem invoke_run {o:Oper} {c:Call} {xo:Operand} {name:String} (ho:o.op=.call c) (hf:c.callee=.invoke xo name) {a:Act} {w:World} {kk:TypeId} {p:Array Value} {f:FuncId} (hv:a.eval xo=.iface kk (.agg p)) (h2:methodFn P kk name=some f)
    (hen:∀ args w,(callFunc f args).run P w=.ok (.enter f args) w):(execOp a.eval o).run P w=.ok (.enter f (#[.agg p]++c.args.map a.eval)) w:=by
  simp only [execOp,ho,resolve,hf,hv,Sem.run_bind,Sem.run_pure,Result.andThen_ok,invoke]
  generalize c.args.map a.eval=l
  have e:(#[Value.iface kk (.agg p)]++l)[0]?=some (.iface kk (.agg p)):=by
    rw [Array.getElem?_append_left (by simp)]
    rfl
  simp only [e]
  have e2:(#[Value.iface kk (.agg p)]++l).extract 1 (#[Value.iface kk (.agg p)]++l).size=l:=by
    apply Array.ext'
    simp [List.extract]
  rw [e2,method_run h2]
  exact hen _ _
theorem cells_noOwn {t:Ty} {x:t.den}:∀ u∈dcells t x,isOwn u=false:=by
  induction t with
  | unit=>intro u hu; cases hu
  | pair a b iha ihb =>
    intro u hu
    simp only [dcells,List.mem_append] at hu
    exact hu.elim (iha u) (ihb u)
  | _=>intro u hu; simp only [dcells,List.mem_singleton] at hu; subst hu; rfl
theorem cellsFlat (t:Ty) (x:t.den):(isOwn (ofTy t x) || (cellsOf (ofTy t x)).any isOwn)=false:=by
  unfold ofTy
  split
  · simp only [isOwn,cellsOf,Bool.false_or,List.any_eq_false]
    intro u hu
    have:=cells_noOwn u hu
    simpa [isOwn] using this
  · rfl
theorem callX_op (hT:∀ f sig,T f=some sig→Con P f sig) {o:Oper} {c:Call} {k:V→St→Option R} {r:R} {xo:Operand} {name:String} (ho:o.op=.call c) (hf:c.callee=.invoke xo name)
    (h:callX P T st W (ev st s ann xo) name (c.args.toList.map (ev st s ann)) k=some r):∃ v,k v st=some r∧OpSem P o st s W ann v:=by
  unfold callX at h
  split at h
  case h_2=>cases h
  rename_i ks t g x hx
  split at h
  · rename_i ta tb hta
    split at h
    · cases h
    rename_i hno
    simp only [Option.bind_eq_some_iff] at h
    obtain ⟨b,hb,hk⟩:=h
    refine ⟨_,hk,fun hW B M w0 w fp a H hann hop K Q hK=>?_⟩
    have hI:icallD P T st.ob t x name (c.args.toList.map (ev st s ann)) (.pair ta tb) ks g=some b:=by
      cases W with
      | none=>exact hb
      | some y=>have:=hW y rfl; subst this; simpa using hb
    obtain ⟨h0,kk,f,sig,z,y,h1,h2,hsig,hw,hz,hF,hrs⟩:=icallD_le hI
    have hcon:=hT f sig hsig
    have hargs:All2 (trep (cxOf B M w st.ob fp)) (c.args.toList.map a.eval) (c.args.toList.map (ev st s ann)):=invoke_args ho hf hann hop
    have hcv:trep (cxOf B M w st.ob fp) (a.eval xo) (ev st s ann xo):=ev_rel (fun t' ht=>hop t' (by rw [ho,← ht]; simp [Op.operands,Call.operands,hf])) hann
    rw [hx] at hcv
    obtain ⟨_,hcv⟩:crep (cxOf B M w st.ob fp) (a.eval xo) (.ifc ks t g x):=hcv
    obtain ⟨k',p,e1,hv,hr,hag⟩:=hcv h0
    rw [h1] at e1
    have e1:=Option.some.inj e1
    subst e1
    have hTy:TyRep w (imm B M w st.ob fp) (.pair t .unit) (x,()) (.agg p):=⟨⟨p.toList,[],by simp [Value.cells],hr,rfl⟩,fun _=>⟨p,rfl⟩,fun h=>by cases h⟩
    have hall:All2 (trep (cxOf B M w st.ob fp)) (.agg p :: c.args.toList.map a.eval) (ofTy (.pair t .unit) (x,()) :: c.args.toList.map (ev st s ann)):=by
      refine ⟨by simp [hargs.1],fun i v u hv hu=>?_⟩
      cases i with
      | zero=>simp at hv hu; subst hv; subst hu; exact trep_of_vrep (vrep_ofTy (cx:=cxOf B M w st.ob fp) hTy)
      | succ i=>exact hargs.2 i v u (by simpa using hv) (by simpa using hu)
    unfold Oper.wp
    rw [invoke_run ho hf hv h2 hcon.enters]
    have:=hcon.run hw (imm B M w st.ob fp) z y w (#[.agg p]++c.args.map a.eval) hF (by
      have:=asTup_rel (J:=imm B M w st.ob fp) H (fun _ _ h=>h) hz hall (fun u hu=>by
        rcases List.mem_cons.1 hu with rfl | hu
        · exact isOwn_cov (cellsFlat _ _)
        · refine isOwn_cov ?_
          have h3:((c.args.toList.map (ev st s ann)).any fun v=>isOwn v || (cellsOf v).any isOwn)=false:=by simpa using hno
          rw [List.any_eq_false] at h3
          simpa using h3 u hu)
      simpa using this) H.am
    refine this.mono ?_
    rintro e w' ⟨vs,rfl,hbel,hres⟩
    split at hres
    · obtain ⟨bs,hown,_,hnew⟩:=hres
      exact hK _ w' hbel (aggOf_rel (cx:=cxOf B M w' st.ob fp) hrs (hown.rep (fun b hb=>imm_new H hbel (hnew b hb).1 (hnew b hb).2)))
    · refine hK _ w' hbel (aggOf_rel hrs (hres.imp (fun b hb hJ=>?_)))
      rcases hJ with hJ | hJ
      · exact (Ext.of_below hbel).imm hJ
      · exact imm_new H hbel hJ hb
  simp only [Option.bind_eq_some_iff] at h
  obtain ⟨b,hb,hk⟩:=h
  refine ⟨_,hk,fun hW B M w0 w fp a H hann hop K Q hK=>?_⟩
  have hI:icall P T st.ob t x name (c.args.toList.map (ev st s ann)) ks g=some b:=by
    cases W with
    | none=>exact hb
    | some y=>have:=hW y rfl; subst this; simpa using hb
  obtain ⟨h0,kk,f,sig,z,y,h1,h2,hsig,hw,hfr,hfl,hz,hF,hrs⟩:=icall_le hI
  have hcon:=hT f sig hsig
  have hargs:All2 (trep (cxOf B M w st.ob fp)) (c.args.toList.map a.eval) (c.args.toList.map (ev st s ann)):=by
    refine ⟨by simp,fun i v u hv hu=>?_⟩
    simp only [List.getElem?_map,Option.map_eq_some_iff] at hv hu
    obtain ⟨q,hq,rfl⟩:=hv
    obtain ⟨q',hq',rfl⟩:=hu
    rw [hq] at hq'
    have hqq:=Option.some.inj hq'
    subst hqq
    refine ev_rel (fun t ht=>hop t ?_) hann
    have hm:q∈c.args:=by
      have:=List.mem_of_getElem? hq
      simpa using this
    rw [ho,← ht]
    simp [Op.operands,Call.operands,hm]
  have hcv:trep (cxOf B M w st.ob fp) (a.eval xo) (ev st s ann xo):=ev_rel (fun t' ht=>hop t' (by rw [ho,← ht]; simp [Op.operands,Call.operands,hf])) hann
  rw [hx] at hcv
  obtain ⟨_,hcv⟩:crep (cxOf B M w st.ob fp) (a.eval xo) (.ifc ks t g x):=hcv
  obtain ⟨k',p,e1,hv,hr,hag⟩:=hcv h0
  rw [h1] at e1
  have e1:=Option.some.inj e1
  subst e1
  have hTy:TyRep w (imm B M w st.ob fp) (.pair t .unit) (x,()) (.agg p):=⟨⟨p.toList,[],by simp [Value.cells],hr,rfl⟩,fun _=>⟨p,rfl⟩,fun h=>by cases h⟩
  have hall:All2 (trep (cxOf B M w st.ob fp)) (.agg p :: c.args.toList.map a.eval) (ofTy (.pair t .unit) (x,()) :: c.args.toList.map (ev st s ann)):=by
    refine ⟨by simp [hargs.1],fun i v u hv hu=>?_⟩
    cases i with
    | zero=>simp at hv hu; subst hv; subst hu; exact trep_of_vrep (vrep_ofTy (cx:=cxOf B M w st.ob fp) hTy)
    | succ i=>exact hargs.2 i v u (by simpa using hv) (by simpa using hu)
  have hrun:(execOp a.eval o).run P w=.ok (.enter f (#[.agg p]++c.args.map a.eval)) w:=by
    simp only [execOp,ho,resolve,hf,hv,Sem.run_bind,Sem.run_pure,Result.andThen_ok,invoke]
    generalize c.args.map a.eval=l
    have e:(#[Value.iface kk (.agg p)]++l)[0]?=some (.iface kk (.agg p)):=by
      rw [Array.getElem?_append_left (by simp)]
      rfl
    simp only [e]
    have e2:(#[Value.iface kk (.agg p)]++l).extract 1 (#[Value.iface kk (.agg p)]++l).size=l:=by
      apply Array.ext'
      simp [List.extract]
    rw [e2,method_run h2]
    exact hcon.enters _ _
  unfold Oper.wp
  rw [hrun]
  have:=hcon.run hw (fun _=>True) z y w (#[.agg p]++c.args.map a.eval) hF (by
    have:=asTup_rel (J:=fun _=>True) H (fun _ _ _=>trivial) hz hall (fun u _=>cov_all _ u)
    simpa using this) H.am
  refine this.mono ?_
  rintro e w' ⟨vs,rfl,hbel,hres⟩
  rw [hfr] at hres
  simp only [Bool.false_eq_true,if_false] at hres
  have ht:=trep_tupOf (all2_ofTup (cx:=cxOf B M w' st.ob fp) (hres.flat hfl))
  rw [hrs] at ht
  exact hK _ w' hbel ht
theorem callI_op {o:Oper} {c:Call} {f:FuncId} {xs:VSig} {ks:List TypeId} {v:V} {x:Tup [xs.t]} {y:xs.u.den×Tup xs.rs} {g:Int} {ok:Bool} (hen:∀ args w,(callFunc f args).run P w=.ok (.enter f args) w) (hcon:ConI P f xs ks) (ho:o.op=.call c) (hf:c.callee=.value (.func f))
    (hvs:c.args.toList.map (ev st s ann)=[v]) (hno:(isOwn v || (cellsOf v).any isOwn)=false) (hx:asTup st.ob [xs.t] [v]=some x) (hy:xs.F x.1 (tzero xs.qs)=some y) (hr:ofTup xs.rs y.2=[.d (.int .i64) g,.d .bool ok]) :
    OpSem P o st s W ann (.tup [.ifc ks xs.u g y.1,.d .bool ok]):=by
  intro hW B M w0 w fp a H hann hop K Q hK
  have ha:All2 (trep (cxOf B M w st.ob fp)) (c.args.toList.map a.eval) [v] := by
    rw [← hvs]
    refine ⟨by simp,fun i v u hv hu=>?_⟩
    simp only [List.getElem?_map,Option.map_eq_some_iff] at hv hu
    obtain ⟨q,hq,rfl⟩:=hv
    obtain ⟨q',hq',rfl⟩:=hu
    rw [hq] at hq'
    have hqq:=Option.some.inj hq'
    subst hqq
    refine ev_rel (fun t ht=>hop t ?_) hann
    have hm:q∈c.args:=by
      have:=List.mem_of_getElem? hq
      simpa using this
    rw [ho,← ht]
    simp [Op.operands,Call.operands,hm]
  have hrep:=asTup_rel (J:=imm B M w st.ob fp) H (fun _ _ h=>h) hx ha (fun u hu=>by
    rw [List.mem_singleton] at hu
    rw [hu]
    exact isOwn_cov hno)
  obtain ⟨x1,⟨⟩⟩:=x
  unfold Oper.wp
  rw [call_run ho hf a w hen]
  refine (hcon.run _ x1 y g ok w (c.args.map a.eval) hy hr (by simpa using hrep) H.am).mono ?_
  rintro e w' ⟨v',rfl,hb,h1,h2⟩
  refine hK _ w' hb ⟨#[v',.bool ok],rfl,?_⟩
  refine all2_append (all2_one (x:=v') (y:=V.ifc ks xs.u g y.1) ?_) (all2_one (x:=Value.bool ok) (y:=V.d .bool ok) rfl)
  refine ⟨h1,fun hg=>?_⟩
  obtain ⟨k,p,e1,e2,e3,e4⟩:=h2 hg
  refine ⟨k,p,e1,e2,rep_imp (I':=imm B M w' st.ob fp) (fun b hb' hJ=>?_) e3,e4⟩
  rcases hJ with hJ | hJ
  · exact (Ext.of_below hb).imm hJ
  · exact imm_new H hb hJ hb'
end
end Go.Vm

namespace Go.Vm
variable [Amb]
open Go.RowKit (Below)
section
variable {P:Program} {st:St} {s:Nat} {ann:List (Nat×Bool)} {R:Type}
theorem copy_exec {o:Oper} {c:Call} {x y:Operand} {t t':TypeId} (ho:o.op=.call c) (hc:c.callee=.builtin .copy) (ha:c.args.toList=[x,y]) (hty:c.argTypes.toList=[t,t']) {a:Act} {w w':World} {v:Value} (h:(Builtin.copy_ #[t,t'] o.type #[a.eval x,a.eval y]).run P w=.ok v w') {K:Act→World→Prop} {Q:Exit→Act→World→Prop} (hk:K (a.put o.dst v) w'):o.wp P a w K Q:=by
  have e1:c.args=#[x,y] := by apply Array.ext'; simpa using ha
  have e2:c.argTypes=#[t,t'] := by apply Array.ext'; simpa using hty
  unfold Oper.wp
  have:(execOp a.eval o).run P w=.ok (.value v) w':=by
    simp only [execOp,ho,resolve,hc,e1,e2,Sem.run_bind,Sem.run_pure,Result.andThen_ok,invoke,builtin]
    simp [h]
  rw [this]
  exact hk
theorem src_cells {w:World} {J:Nat→Prop} {ys:List ByteArray} {v:Value} (h:rep w J (.slice .str) ys [v]):∃ A cap,v=.slice A ys.length cap∧(A=none→ys=[])∧∀ ad,A=some ad→∀ j u,(ys.map Value.string)[j]?=some u→w.cell? (ad.add j)=some u:=by
  obtain ⟨A,cap,hv,hle,hel⟩:=h
  simp only [List.cons.injEq,and_true] at hv
  refine ⟨A,cap,hv,fun hA=>?_,fun ad hA j u hu=>?_⟩
  · cases ys with
    | nil=>rfl
    | cons z r =>
      obtain ⟨ad,vs,h1,_⟩:=hel 0 (by simp)
      rw [hA] at h1
      cases h1
  · rw [List.getElem?_map,Option.map_eq_some_iff] at hu
    obtain ⟨z,hz,rfl⟩:=hu
    have hj:=lt_of_get hz
    obtain ⟨ad',vs,h1,h2,h3,h4,h5⟩:=hel j hj
    rw [hA] at h1
    cases h1
    have h5:vs=[Value.string ys[j]] := h5
    subst h5
    have hz':ys[j]=z:=by
      rw [List.getElem?_eq_getElem hj] at hz
      exact Option.some.inj hz
    rw [hz'] at h4
    have:=h4.cell (i:=0) (v:=.string z) rfl
    have e:ad.add j=⟨ad.block,ad.off + j * Ty.str.sz + 0,none⟩:=by
      have hs:Ty.str.sz=1:=rfl
      rw [hs]
      cases ad with
      | mk b o sp =>
        simp only at h2
        subst h2
        unfold Addr.add
        split
        · rename_i h0; simp [h0]
        · simp
    rw [e]
    exact this
theorem copy_op {o:Oper} {c:Call} {x y:Operand} {t t':TypeId} {k:V→St→Option R} {r:R} (ho:o.op=.call c) (hc:c.callee=.builtin .copy) (ha:c.args.toList=[x,y]) (hty:c.argTypes.toList=[t,t']) (h:copyV P st t (ev st s ann x) (ev st s ann y) k=some r) :
    ∃ v st1 id,k v (killed id st1)=some r∧st1.tm=st.tm∧st1.dn=st.dn∧OpChg P o st s ann v (killed id st1):=by
  unfold copyV at h
  split at h
  case h_2=>cases h
  rename_i el id hu hx
  rw [getAt_eq] at h
  split at h
  case h_2=>cases h
  rename_i l i ys hob hi hys
  split at h
  case isFalse=>cases h
  rename_i hsz1
  have hsz1:=Nat.eq_of_beq_eq_true hsz1
  split at h
  case isFalse=>cases h
  rename_i hlen
  obtain ⟨hlen,hpos⟩:=of_decide_eq_true hlen
  refine ⟨_,_,_,h,rfl,rfl,?_⟩
  intro B M w0 w fp a H hann hop K Q hK
  have hmem:∀ z,z∈c.args.toList→∀ t,z=.tmp t→Operand.tmp t∈o.op.operands:=by
    intro z hz t ht
    subst ht
    rw [ho]
    simp only [Op.operands,Call.operands]
    exact Array.mem_append.2 (.inr (by simpa using hz))
  have hvx:=ev_rel (x:=x) (fun t ht=>hop t (hmem x (by rw [ha]; simp) t ht)) hann
  have hvy:=ev_rel (x:=y) (fun t ht=>hop t (hmem y (by rw [ha]; simp) t ht)) hann
  rw [hx] at hvx
  obtain ⟨o',bs,ho',hf,hh⟩:crep (cxOf B M w st.ob fp) (a.eval x) (.own id):=hvx
  simp only [cxOf] at ho' hf
  rw [hob] at ho'
  have e1:=Option.some.inj ho'
  subst e1
  have hh:hdr w .str l bs (a.eval x):=hh
  -- what is copied
  have hsrc:rep w (fun _=>True) (.slice .str) ys [a.eval y] := by
    have hvy':TyRep w (fun _=>True) (.slice .str) ys (a.eval y):=by
      refine asTy_rel' (ob:=st.ob) (J:=fun _=>True) H (fun _ _ _=>trivial) hvy (cov_all _ _) ?_
      show asTy st.ob (.slice .str) (ev st s ann y)=some ys
      exact hys
    have h1:=hvy'.1
    rw [cells_one (hvy'.2.2 rfl)] at h1
    exact h1
  obtain ⟨A,cap,hyv,hA0,hcell⟩:=src_cells hsrc
  cases bs with
  | nil =>
    obtain ⟨rfl,hxv⟩:=hh
    simp at hlen
    omega
  | cons b rest =>
    obtain ⟨cc,T,cp,hb,hxv,hle,hcap⟩:=hh
    have hcap:cp * 1=cc.size:=hcap
    have hcsz:List.length ys≤cc.size:=by omega
    have hBb:¬ B.K b:=(H.ge b (List.mem_flatten.2 ⟨_,List.mem_of_getElem? hf,by simp⟩)).1
    obtain ⟨f1,f2,f3,f4⟩:=setRow_facts (c':=(cc.toList.take 0++ys.map Value.string++cc.toList.drop (0 + (ys.map Value.string).length)).toArray) (T:=T) hb hBb
    have hA:∃ ad,A=some ad:=by
      cases A with
      | none=>rw [hA0 rfl] at hpos; exact absurd hpos (by simp)
      | some ad=>exact ⟨ad,rfl⟩
    obtain ⟨ad,rfl⟩:=hA
    have hrun:=run_copy_row P w t t' o.type el b 0 (List.length l) cp ad (List.length ys) cap cc T (ys.map Value.string) hu (by rw [hi]; simp [hsz1]) hb (by simp [hlen]) (fun j u hj=>hcell ad rfl j u hj) (by simp; exact hcsz) (fun u hu=>by
      obtain ⟨z,_,rfl⟩:=List.mem_map.1 hu
      rfl)
    have hnd:=H.nd
    have hset:=set_same hf
    have W:Wr B M w (w.setRow b (cc.toList.take 0++ys.map Value.string++cc.toList.drop (0 + (ys.map Value.string).length)).toArray) st.ob st.ob ((setAt st.ob id (.row true .str ys)).map (onCells (kill1 id))) fp fp id b rest rest (.row true .str l) (.row true .str ys) (kill1 id) cc (cc.toList.take 0++ys.map Value.string++cc.toList.drop (0 + (ys.map Value.string).length)).toArray T T :=
      ⟨turns_refl _ _,hob,hob,hf,hf,trivial,hb,f1,by simp; omega,f2,f3,f4,.inl ⟨true,.str,l,ys,rfl,rfl,hlen.symm⟩,fun q hq=>.inl hq,by rw [hset]; exact hnd,.inr rfl,by rw [setAt_eq,List.map_set]; rfl⟩
    have hnew:orep (cxOf B M (w.setRow b (cc.toList.take 0++ys.map Value.string++cc.toList.drop (0 + (ys.map Value.string).length)).toArray) ((setAt st.ob id (.row true .str ys)).map (onCells (kill1 id))) (fp.set id (b :: rest))) (b :: rest) (.row true .str ys):=by
      rcases H.ob id _ _ hob hf with ⟨_,hx0⟩ | ⟨b',c0,T0,hh0,hsz0,hx0⟩
      · cases hx0
      · simp only [if_true] at hx0
        obtain ⟨bss,e1,e2,e3⟩:=hx0
        simp at e1
        obtain ⟨rfl,rfl⟩:=e1
        refine .inr ⟨b,_,T,f1,by simp; show List.length ys * 1≤_; omega,?_⟩
        simp only [if_true]
        refine ⟨bss,rfl,by rw [e2,hlen],fun i hi'=>?_⟩
        have ho:=e3 i (by rw [hlen]; exact hi')
        have hbs:bss.getD i []=[] := ho.2
        refine ⟨?_,hbs⟩
        show cut (cc.toList.take 0++ys.map Value.string++cc.toList.drop (0 + (ys.map Value.string).length)).toArray.toList (i * 1) 1=[Value.string ys[i]]
        simp only [List.take_zero,List.nil_append,Nat.mul_one,cut]
        rw [List.drop_append_of_le_length (by simp; omega)]
        have:(ys.map Value.string).drop i=Value.string ys[i] :: (ys.map Value.string).drop (i + 1):=by
          rw [List.drop_eq_getElem_cons (by simpa using hi')]
          simp
        rw [this]
        simp
    have hrel:=W.hrel H hnew
    have hcr:=fun v u (h:crep (cxOf B M w st.ob fp) v u)=>W.crep H h
    rw [hset] at hrel hcr
    refine copy_exec ho hc ha hty (v:=goInt (ys.map Value.string).length) ?_ (hK _ _ fp hrel (adv_kill (st1:={ st with ob:=setAt st.ob id (.row true .str ys) }) rfl hcr) ?_)
    · rw [hxv,hyv]
      exact hrun
    · rw [List.length_map]
      rfl
end
end Go.Vm

namespace Go.Vm
variable [Amb]
open Go.RowKit (Below)
section
variable {P:Program} {st:St} {s:Nat} {ann:List (Nat×Bool)}
theorem lax_op {o:Oper} {c:Call} {f:FuncId} {ls:LSig} {v:V} {us:List V} {x:Tup [ls.t]} {q:Tup ls.qs} {y:Tup ls.rs} (hen:∀ args w,(callFunc f args).run P w=.ok (.enter f args) w) (hcon:ConL P f ls) (hh:ls.h=none) (ho:o.op=.call c) (hf:c.callee=.value (.func f))
    (hvs:c.args.toList.map (ev st s ann)=v :: us) (hpt:isPt v=false) (hx:asTup (frzAll st.ob (cellsOf v)) [ls.t] [v]=some x) (hq:asTup (frzAll st.ob (cellsOf v)) ls.qs us=some q) (hy:ls.F x.1 q=some y) :
    OpChg P o st s ann (tupOf (ofTup ls.rs y)) { st with ob:=frzAll st.ob (cellsOf v) } := by
  intro B M w0 w fp a H hann hop K Q hK
  have ha:=call_args ho hann hop
  rw [hvs] at ha
  obtain ⟨hF,hno⟩:=frzAll_rel H (cellsOf v)
  generalize frzAll st.ob (cellsOf v)=obF at *
  have ha2:All2 (trep (cxOf B M w obF fp)) (c.args.toList.map a.eval) (v :: us):=ha.imp (fun _ _ h=>trep_map hF.adv h)
  generalize hargs:c.args.toList.map a.eval=vals at ha2
  match vals,ha2 with
  | [],ha2=>exact absurd ha2.1 (by simp)
  | v0 :: rest,ha2 =>
    obtain ⟨hv0,hrest⟩:=all2_split ha2
    have hrep:TupRep w (imm B M w obF fp) [ls.t] x [v0] := asTup_rel (J:=imm B M w obF fp) hF.rel (fun _ _ h=>h) hx (all2_one hv0) (fun u hu=>by
      rw [List.mem_singleton] at hu
      subst hu
      have h1:∀ z∈cellsOf u,cov1 (cxOf B M w obF fp) (imm B M w obF fp) z:=fun z hz=>(hno z hz).cov1
      cases u with
      | agg us=>exact h1
      | own id=>exact h1 (.own id) (by simp [cellsOf])
      | sub id i j=>exact h1 (.sub id i j) (by simp [cellsOf])
      | part id i j=>exact h1 (.part id i j) (by simp [cellsOf])
      | pt id i off=>cases hpt
      | _=>trivial)
    have hrq:TupRep w (fun _=>True) ls.qs q rest:=asTup_rel (J:=fun _=>True) hF.rel (fun _ _ _=>trivial) hq hrest (fun u _=>cov_all _ u)
    obtain ⟨v1,r1,he,hty,hr1⟩:=hrep
    have hr1:r1=[] := hr1
    subst hr1
    simp only [List.cons.injEq,and_true] at he
    subst he
    unfold Oper.wp
    rw [call_run ho hf a w hen]
    have hrun:=hcon.run hh (imm B M w obF fp) x.1 q y w (c.args.map a.eval) v0 rest hy (by simpa using hargs) hty hrq H.am
    refine hrun.mono ?_
    rintro en w' ⟨vs,rfl,hbel,hres⟩
    have hrel:Hrel B M w0 w' obF fp:=hF.rel.ext hbel
    refine hK (resVal vs) w' fp hrel (fun cur a v t hg=>grep_map (fun _ _ hu=>(Ext.of_below hbel).crep (hF.adv _ _ hu)) hg) (trep_tupOf (all2_ofTup (cx:=cxOf B M w' obF fp) (hres.imp (fun b hb' hJ=>?_))))
    rcases hJ with hJ | hJ
    · exact (Ext.of_below hbel).imm hJ
    · exact imm_new hF.rel hbel hJ hb'
theorem rep_cells {cx:Cx} {t:Ty} {x:t.den} {cs:List Value} (h:rep cx.w cx.I t x cs):All2 (trep cx) cs (dcells t x):=by
  refine ⟨by rw [rep_length h,dcells_length],fun i v u hv hu=>?_⟩
  obtain ⟨v',t',x',hv',rfl,hr⟩:=rep_cell h hu
  rw [hv] at hv'
  cases hv'
  exact trep_of_vrep (vrep_of_crep (u:=.d t' x') hr)
theorem tupRep_below {w w':World} {J:Nat→Prop} {n:Nat} (hb:Below n w w') (hJ:∀ b,J b→b < n):∀ {ts:List Ty} {x:Tup ts} {vs:List Value},TupRep w J ts x vs→TupRep w' J ts x vs
  | [],_,_,h=>h
  | t :: ts,x,_,h=>by
    obtain ⟨v,r,rfl,h1,h2⟩:=h
    exact ⟨v,r,rfl,⟨rep_keep (fun b _ hb'=>⟨hb',hb.block b (hJ b hb')⟩) h1.1,h1.2⟩,tupRep_below hb hJ h2⟩
theorem oneSl_rep {w:World} {J:Nat→Prop} {rs:List Ty} {r:Tup rs} {l:List ByteArray} {vs:List Value} (h:oneSl rs r=some l) (hr:TupRep w J rs r vs):∃ v,vs=[v]∧TyRep w J (.slice .str) l v:=by
  unfold oneSl at h
  split at h
  · cases h
    obtain ⟨v,r3,rfl,hty,hr3⟩:=hr
    have hr3:r3=[] := hr3
    subst hr3
    exact ⟨v,rfl,hty⟩
  · cases h
theorem high_op {T:FuncId→Option Sig} {o:Oper} {c:Call} {f g:FuncId} {hs:HSig} {a0:V} {ty:Ty} {z:ty.den} {sig:Sig} {x:Tup [.slice .str]} {y:Tup hs.rs} (hen:∀ args w,(callFunc f args).run P w=.ok (.enter f args) w) (hcon:ConH P f hs) (hg:Con P g sig) (hgw:sig.w=none) (ho:o.op=.call c) (hf:c.callee=.value (.func f))
    (hvs:c.args.toList.map (ev st s ann)=[a0,.cap g ty z]) (hx:asTup st.ob [.slice .str] [a0]=some x) (hy:hs.F (fun u=>(asTup st.ob sig.ps (.d .str u :: dcells ty z)).bind fun q=>(sig.F q).bind (oneSl sig.rs)) x.1=some y) :
    OpChg P o st s ann (tupOf (instT hs.rs y st.ob).1) { st with ob:=(instT hs.rs y st.ob).2 } := by
  intro B M w0 w fp a H hann hop K Q hK
  have ha:=call_args ho hann hop
  rw [hvs] at ha
  generalize hargs:c.args.toList.map a.eval=vals at ha
  match vals,ha with
  | [],ha=>exact absurd ha.1 (by simp)
  | [_],ha=>exact absurd ha.1 (by simp)
  | _ :: _ :: _ :: _,ha=>exact absurd ha.1 (by simp)
  | [v0,v1],ha =>
    obtain ⟨hv0,hr1⟩:=all2_split ha
    obtain ⟨hv1,_⟩:=all2_split hr1
    obtain ⟨cap,rfl,hcap⟩:∃ cap,v1=.func (.func g) #[] cap∧rep w (imm B M w st.ob fp) ty z cap.toList:=hv1
    have hrep:TupRep w (fun _=>True) [.slice .str] x [v0] := asTup_rel (J:=fun _=>True) H (fun _ _ _=>trivial) hx (all2_one hv0) (fun u _=>cov_all _ u)
    obtain ⟨v2,r2,he,hty,hr2⟩:=hrep
    have hr2:r2=[] := hr2
    subst hr2
    simp only [List.cons.injEq,and_true] at he
    subst he
    have hl:rep w (fun _=>True) (.slice .str) x.1 [v0] := by
      have h1:=hty.1
      have h2:=hty.2.2 rfl
      cases v0<;>first | exact h1 | exact h2.elim
    unfold Oper.wp
    rw [call_run ho hf a w hen]
    have harr:c.args.map a.eval=#[v0,.func (.func g) #[] cap] := by
      apply Array.ext'
      rw [Array.toList_map,hargs]
    rw [harr]
    have hrun:=hcon.run g _ cap w x.1 v0 y hg.enters (fun u ys w' hrd hbel=>by
      simp only [Option.bind_eq_some_iff] at hrd
      obtain ⟨q,hq,r,hr,hone⟩:=hrd
      have hall:All2 (trep (cxOf B M w st.ob fp)) (.string u :: cap.toList) (.d .str u :: dcells ty z):=by
        have h1:=rep_cells (cx:=cxOf B M w st.ob fp) hcap
        refine ⟨by simp [h1.1],fun i v k hv hk=>?_⟩
        cases i with
        | zero=>simp at hv hk; subst hv; subst hk; exact trep_str
        | succ i=>exact h1.2 i v k (by simpa using hv) (by simpa using hk)
      have hrq:TupRep w (imm B M w st.ob fp) sig.ps q (.string u :: cap.toList):=asTup_rel (J:=imm B M w st.ob fp) H (fun _ _ h=>h) hq hall (fun k hk=>by
        rcases List.mem_cons.1 hk with rfl | hk
        · trivial
        · obtain ⟨i,hi⟩:=List.getElem?_of_mem hk
          obtain ⟨t',x',rfl⟩:=dcells_d hi
          trivial)
      have hrq':=tupRep_below hbel (fun b hb=>hb.1) hrq
      have hc:=hg.run hgw (imm B M w st.ob fp) q r w' (#[.string u]++cap) hr (by simpa using hrq') (Amb.below H.am hbel)
      refine hc.mono ?_
      rintro e w2 ⟨vs,rfl,hb2,hres⟩
      have hres:TupRep w2 (fun b=>imm B M w st.ob fp b∨w'.heap.size≤b) sig.rs r vs:=by
        split at hres
        · obtain ⟨bs,hown,_,hbs⟩:=hres
          exact hown.rep (fun b hb=>.inr (hbs b hb).1)
        · exact hres
      obtain ⟨v,rfl,hty3⟩:=oneSl_rep hone hres
      refine ⟨v,rfl,hb2,?_⟩
      have h1:rep w2 (fun b=>imm B M w st.ob fp b∨w'.heap.size≤b) (.slice .str) ys v.cells.toList:=hty3.1
      have h2:=hty3.2.2 rfl
      have h3:rep w2 (fun b=>imm B M w st.ob fp b∨w'.heap.size≤b) (.slice .str) ys [v] := by
        cases v<;>first | exact h1 | exact h2.elim
      exact rep_imp (fun b _ hb=>hb.imp (fun h=>h.1) (fun h=>h)) h3) hl hy H.am
    refine hrun.mono ?_
    rintro e1 w' ⟨vs,rfl,hb,bs,hown,hnd,hbs⟩
    obtain ⟨os,bss,e,i⟩:=instT_rel hown st.ob
    have hnew:∀ b∈bss.flatten,Taken st.ob fp st.ob b∨(w.heap.size≤b∧b < w'.heap.size):=fun b hb'=>.inr (hbs b (by rwa [i.flat] at hb'))
    have hndup:(fp++bss).flatten.Nodup:=by
      rw [List.flatten_append,List.nodup_append]
      refine ⟨H.nd,by rw [i.flat]; exact hnd,fun p hp q hq he=>?_⟩
      subst he
      rw [i.flat] at hq
      have h1:=(H.ge p hp).2
      have h2:=(hbs p hq).1
      omega
    obtain ⟨h1,h2⟩:=turn_push (os:=os) (bss:=bss) (w':=w') H (turns_refl _ _) i.len hndup hnew hb.size (fun b hb' _=>hb.block b hb') (Bel.of hb H.size)
    have hrel:=h2 (fun k o q ho hq=>by
      obtain ⟨e,l,rfl,hrow⟩:=i.rows k o q ho hq
      rcases hrow with h | ⟨b,c,T,h3,h4,h5⟩
      · exact .inl h
      · exact .inr ⟨b,c,T,h3,h4,h5⟩)
    have hv:=i.rel (cxOf B M w' (st.ob++os) (fp++bss)) rfl (fun k o ho=>by
      show (st.ob++os)[st.ob.length + k]?=some o
      rw [List.getElem?_append_right (by omega)]; simpa using ho) (fun k q hq=>by
      show (fp++bss)[st.ob.length + k]?=some q
      rw [List.getElem?_append_right (by rw [H.len]; omega),H.len]; simpa using hq)
    rw [e] at hK
    exact hK _ w' (fp++bss) hrel (Adv.of_mv rfl H.rows h1) (trep_tupOf hv)
end
end Go.Vm

namespace Go.Vm
variable [Amb]
open Go.RowKit (Below)
theorem kcells_rep {w:World} {I:Nat→Prop}:∀ {t:Ty} {x:t.den} {cs:List Value},flat t=true→rep w I t x cs→cs=kcells t x
  | .int _,_,_,_,h=>h
  | .bool,_,_,_,h=>h
  | .str,_,_,_,h=>h
  | .unit,_,_,_,h=>h
  | .pair a b,x,_,hf,h=>by
    simp only [flat,Bool.and_eq_true] at hf
    obtain ⟨c1,c2,rfl,h1,h2⟩:=h
    rw [kcells_rep hf.1 h1,kcells_rep hf.2 h2]
    rfl
  | .slice _,_,_,hf,_=>by simp [flat] at hf
  | .ptr _,_,_,hf,_=>by simp [flat] at hf
  | .ifp _ _,_,_,hf,_=>by simp [flat] at hf
theorem rep_kcells {w:World} {I:Nat→Prop}:∀ {t:Ty} {x:t.den},flat t=true→rep w I t x (kcells t x)
  | .int _,_,_=>rfl
  | .bool,_,_=>rfl
  | .str,_,_=>rfl
  | .unit,_,_=>rfl
  | .pair a b,x,hf=>by
    simp only [flat,Bool.and_eq_true] at hf
    exact ⟨_,_,rfl,rep_kcells hf.1,rep_kcells hf.2⟩
  | .slice _,_,hf=>by simp [flat] at hf
  | .ptr _,_,hf=>by simp [flat] at hf
  | .ifp _ _,_,hf=>by simp [flat] at hf
theorem eqK_eq:∀ {t:Ty} {x y:t.den},eqK t x y=true→x=y
  | .int _,x,y,h=>by
    have h:@BEq.beq Int _ x y=true:=h
    exact (beq_iff_eq (α:=Int)).1 h
  | .bool,x,y,h=>by
    have h:@BEq.beq Bool _ x y=true:=h
    exact (beq_iff_eq (α:=Bool)).1 h
  | .str,x,y,h=>by
    have h:seq x y=true:=h
    unfold seq at h
    rw [ByteArray.toList_eq,ByteArray.toList_eq] at h
    have h:=eq_of_beq h
    exact ByteArray.ext (Array.toList_inj.1 h)
  | .unit,_,_,_=>rfl
  | .pair a b,x,y,h=>by
    simp only [eqK,Bool.and_eq_true] at h
    exact Prod.ext (eqK_eq h.1) (eqK_eq h.2)
  | .slice _,_,_,h=>by cases h
  | .ptr _,_,_,h=>by cases h
  | .ifp _ _,_,_,h=>by cases h
section
variable {P:Program}
theorem scal_cell {t:TypeId} {a:Ty} (h:scal P t a=true) (x:a.den):aggT P t=some false∧∃ v,kcells a x=[v]∧one v:=by
  unfold scal at h
  split at h
  · rename_i hu; exact ⟨by simp [aggT,hu],_,rfl,trivial⟩
  · rename_i hu; exact ⟨by simp [aggT,hu],_,rfl,trivial⟩
  · rename_i hu; exact ⟨by simp [aggT,hu],_,rfl,trivial⟩
  · cases h
theorem scal_eq {t:TypeId} {a:Ty} (h:scal P t a=true) {x y:a.den} {u v:Value} (hu:kcells a x=[u]) (hv:kcells a y=[v]) (d:Nat) (w:World):(Op.equalIn (d + 1) t u v).run P w=.ok (eqK a x y) w:=by
  unfold scal at h
  split at h
  · rename_i hq
    simp [kcells] at hu hv
    subst hu; subst hv
    exact run_equalIn_int w d t _ _ _ _ hq
  · rename_i hq
    simp [kcells] at hu hv
    subst hu; subst hv
    exact run_equalIn_bool' w d t _ _ hq
  · rename_i hq
    simp [kcells] at hu hv
    subst hu; subst hv
    exact run_equalIn_string w d t _ _ hq
  · cases h
theorem cell_of {xs:Array Value} {o:Nat} {v:Value} {r:List Value} (h:xs.toList.drop o=v :: r):xs[o]?=some v∧xs.toList.drop (o + 1)=r:=by
  have h1:(xs.toList.drop o)[0]?=some v:=by rw [h]; rfl
  rw [List.getElem?_drop] at h1
  refine ⟨by simpa using h1,?_⟩
  have:(xs.toList.drop o).drop 1=r:=by rw [h]; rfl
  rw [List.drop_drop] at this
  exact this
theorem eqFields_key {xs ys:Array Value} (d:Nat) (w:World):∀ {fs:List Field} {k:Ty} {o:Nat} {x y:k.den},keyFs P fs k o=true→xs.toList.drop o=kcells k x→ys.toList.drop o=kcells k y→(Op.eqFields (d + 1) xs ys fs).run P w=.ok (eqK k x y) w
  | [],.unit,o,x,y,_,_,_=>by simp [Op.eqFields,eqK]
  | f :: fs,.pair a b,o,x,y,h,hx,hy=>by
    simp only [keyFs,Bool.and_eq_true,Bool.not_eq_true',beq_eq_false_iff_ne,Nat.beq_eq] at h
    obtain ⟨⟨⟨hn,ho⟩,hs⟩,hr⟩:=h
    subst ho
    obtain ⟨hag,u,hu,_⟩:=scal_cell hs x.1
    obtain ⟨_,v,hv,_⟩:=scal_cell hs y.1
    simp only [kcells,hu,List.singleton_append] at hx
    simp only [kcells,hv,List.singleton_append] at hy
    obtain ⟨hx1,hx2⟩:=cell_of hx
    obtain ⟨hy1,hy2⟩:=cell_of hy
    have ih:=eqFields_key d w hr hx2 hy2
    simp only [Op.eqFields,if_pos hn,Sem.run_bind,part_run hag hx1,part_run hag hy1,Result.andThen_ok,scal_eq hs hu hv d w,eqK]
    cases eqK a x.1 y.1 with
    | true=>simpa using ih
    | false=>simp
  | [],.int _,_,_,_,h,_,_=>by cases h
  | [],.bool,_,_,_,h,_,_=>by cases h
  | [],.str,_,_,_,h,_,_=>by cases h
  | [],.slice _,_,_,_,h,_,_=>by cases h
  | [],.ptr _,_,_,_,h,_,_=>by cases h
  | [],.pair _ _,_,_,_,h,_,_=>by cases h
  | _ :: _,.int _,_,_,_,h,_,_=>by cases h
  | _ :: _,.bool,_,_,_,h,_,_=>by cases h
  | _ :: _,.str,_,_,_,h,_,_=>by cases h
  | _ :: _,.slice _,_,_,_,h,_,_=>by cases h
  | _ :: _,.ptr _,_,_,_,h,_,_=>by cases h
  | _ :: _,.unit,_,_,_,h,_,_=>by cases h
theorem KV.agg {k:Ty} {x:k.den} {v:Value} (h:KV k x v) (hk:k.isAgg=true):∃ xs:Array Value,v=.agg xs∧xs.toList=kcells k x:=by
  rcases h with ⟨_,h⟩ | ⟨h,_⟩
  · exact h
  · rw [hk] at h; cases h
theorem KV.str {x:ByteArray} {v:Value} (h:KV .str x v):v=.string x:=by
  rcases h with ⟨h,_⟩ | ⟨_,h⟩
  · cases h
  · simp [kcells] at h
    exact h.symm
theorem keyOk_cases {t:TypeId} {k:Ty} (hk:keyOk P t k=true):(∃ fs,P.underlying t=some (.struct fs)∧P.stoodInHeld t=false∧k.isAgg=true∧keyFs P fs.toList k 0=true)∨(P.underlying t=some .string∧k=.str):=by
  unfold keyOk at hk
  split at hk
  · rename_i fs hq
    simp only [Bool.and_eq_true,Bool.not_eq_true'] at hk
    exact .inl ⟨fs,hq,hk.1,hk.2.1,hk.2.2⟩
  · rename_i hq
    exact .inr ⟨hq,of_decide_eq_true hk⟩
  · cases hk
theorem key_equal {t:TypeId} {k:Ty} {fs:Array Field} (hq:P.underlying t=some (.struct fs)) (hh:P.stoodInHeld t=false) (hag:k.isAgg=true) (hk:keyFs P fs.toList k 0=true) {x y:k.den} {u v:Value} (hu:KV k x u) (hv:KV k y v) (w:World):(Op.equal t u v).run P w=.ok (eqK k x y) w:=by
  obtain ⟨xs,rfl,hx⟩:=hu.agg hag
  obtain ⟨ys,rfl,hy⟩:=hv.agg hag
  have hf:P.fieldsOf t=fs:=by simp [Program.fieldsOf,hq]
  have he:Op.equal t (.agg xs) (.agg ys)=Op.equalIn (9999 + 1) t (.agg xs) (.agg ys):=rfl
  rw [he,run_equalIn_struct (P:=P) w 9999 t xs ys (by rw [hf]; exact hq) hh,hf]
  exact eqFields_key 9998 w hk (by simpa using hx) (by simpa using hy)
theorem scal_check {t:TypeId} {a:Ty} (h:scal P t a=true) (e:Bool) (n:Nat) (u:Value) (w:World):(Instr.checkKey e (n + 1) t u).run P w=.ok () w:=by
  unfold scal at h
  split at h
  · rename_i hq; unfold Instr.checkKey; simp [run_underlying hq]
  · rename_i hq; unfold Instr.checkKey; simp [run_underlying hq]
  · rename_i hq; unfold Instr.checkKey; simp [run_underlying hq]
  · cases h
theorem key_checked {t:TypeId} {k:Ty} (hk:keyOk P t k=true) {x:k.den} {u:Value} (hu:KV k x u) (e:Bool) (w:World):(Instr.checkKey e 10000 t u).run P w=.ok () w:=by
  rcases keyOk_cases hk with ⟨fs,hq,hh,hag,hk2⟩ | ⟨hq,rfl⟩
  rotate_left
  · rw [hu.str]
    have he:Instr.checkKey e 10000 t (.string x)=Instr.checkKey e (9999 + 1) t (.string x):=rfl
    rw [he]
    unfold Instr.checkKey
    simp [run_underlying hq]
  obtain ⟨xs,rfl,hx0⟩:=hu.agg hag
  have he:Instr.checkKey e 10000 t (.agg xs)=Instr.checkKey e (9998 + 1 + 1) t (.agg xs):=rfl
  rw [he]
  have hx:xs.toList.drop 0=kcells k x:=by simpa using hx0
  clear hx0 hag hu hk
  have hk:=hk2
  clear hk2
  unfold Instr.checkKey
  simp only [Sem.run_bind,run_underlying hq,Result.andThen_ok]
  rw [← Array.forIn_toList]
  generalize fs.toList=l at hk ⊢
  generalize (0:Nat)=o at hk hx
  clear hq he
  induction l generalizing k o with
  | nil=>simp
  | cons f l ih =>
    cases k with
    | pair a b =>
      simp only [keyFs,Bool.and_eq_true,Bool.not_eq_true',beq_eq_false_iff_ne,Nat.beq_eq] at hk
      obtain ⟨⟨⟨hn,ho⟩,hs⟩,hr⟩:=hk
      subst ho
      obtain ⟨hag,u,hu,hone⟩:=scal_cell hs x.1
      simp only [kcells,hu,List.singleton_append] at hx
      obtain ⟨hx1,hx2⟩:=cell_of hx
      have hc:(Instr.checkKey e 9999 f.type u).run P w=.ok () w:=scal_check hs e 9998 u w
      simp only [List.forIn_cons,if_pos hn,Sem.run_bind,part_run hag hx1,Result.andThen_ok,hc,Sem.run_pure]
      exact ih _ hr hx2
    | _=>cases hk
end
end Go.Vm

namespace Go.Vm
variable [Amb]
open Go.RowKit (Below)
theorem mat_has {k:Ty}:∀ {l:List (k.den×Int)} {x:k.den},mhas k l x=true→∃ p,l[mat k l x]?=some p∧eqK k x p.1=true∧p.2=mget k l x
  | [],_,h=>by cases h
  | p :: r,x,h=>by
    by_cases hp:eqK k x p.1=true
    · exact ⟨p,by simp [mat,hp],hp,by simp [mget,hp]⟩
    · simp only [mhas,if_neg hp] at h
      obtain ⟨q,h1,h2,h3⟩:=mat_has h
      exact ⟨q,by simp only [mat,if_neg hp,List.getElem?_cons_succ]; exact h1,h2,by simp only [mget,if_neg hp]; exact h3⟩
theorem mat_hasnt {k:Ty}:∀ {l:List (k.den×Int)} {x:k.den},mhas k l x=false→mat k l x=l.length∧mget k l x=0
  | [],_,_=>⟨rfl,rfl⟩
  | p :: r,x,h=>by
    by_cases hp:eqK k x p.1=true
    · simp [mhas,hp] at h
    · simp only [mhas,if_neg hp] at h
      obtain ⟨h1,h2⟩:=mat_hasnt h
      exact ⟨by simp only [mat,if_neg hp,h1,List.length_cons],by simp only [mget,if_neg hp]; exact h2⟩
theorem mput_has {k:Ty}:∀ {l:List (k.den×Int)} {x:k.den} {n:Int} {p:k.den×Int},l[mat k l x]?=some p→mhas k l x=true→mput k l x n=l.set (mat k l x) (p.1,n)
  | [],_,_,_,h,_=>by simp at h
  | q :: r,x,n,p,h,hh=>by
    by_cases hp:eqK k x q.1=true
    · simp only [mat,if_pos hp,List.getElem?_cons_zero,Option.some.injEq] at h
      subst h
      simp [mput,mat,hp]
    · simp only [mat,if_neg hp,List.getElem?_cons_succ] at h
      simp only [mhas,if_neg hp] at hh
      simp only [mput,mat,if_neg hp,List.set_cons_succ]
      rw [mput_has h hh]
theorem mput_hasnt {k:Ty}:∀ {l:List (k.den×Int)} {x:k.den} {n:Int},mhas k l x=false→mput k l x n=l++[(x,n)]
  | [],_,_,_=>rfl
  | q :: r,x,n,h=>by
    by_cases hp:eqK k x q.1=true
    · simp [mhas,hp] at h
    · simp only [mhas,if_neg hp] at h
      simp only [mput,if_neg hp,mput_hasnt h,List.cons_append]
section
variable {P:Program} {kt:TypeId} {k:Ty}
theorem findAsking_run {fs:Array Field} (hq:P.underlying kt=some (.struct fs)) (hh:P.stoodInHeld kt=false) (hag:k.isAgg=true) (hk:keyFs P fs.toList k 0=true) {x:k.den} {v:Value} (hv:KV k x v) (w:World):∀ {es:List MapEntry} {l:List (k.den×Int)} {i:Nat},All2 (EnRep k) es l →
    (Instr.findAsking kt v es i).run P w=.ok (if mhas k l x=true then some (i + mat k l x,.int .i64 (mget k l x)) else none) w
  | [],[],i,_=>by simp [Instr.findAsking,mhas]
  | e :: es,p :: l,i,h=>by
    obtain ⟨h1,h2⟩:EnRep k e p:=h.2 0 e p rfl rfl
    have ha:All2 (EnRep k) es l:=⟨by have:=h.1; simpa using this,fun j a b hx hy=>h.2 (j + 1) a b (by simpa using hx) (by simpa using hy)⟩
    have ih:=findAsking_run hq hh hag hk hv w (i:=i + 1) ha
    simp only [Instr.findAsking,Sem.run_bind,key_equal hq hh hag hk hv h1 w,Result.andThen_ok]
    by_cases hp:eqK k x p.1=true
    · simp [hp,mhas,mat,mget,h2]
    · simp only [hp,mhas,mat,mget,if_false,Bool.false_eq_true]
      rw [ih]
      split
      · rw [show i + 1 + mat k l x=i + (mat k l x + 1) by omega]
      · rfl
  | [],_ :: _,_,h=>absurd h.1 (by simp)
  | _ :: _,[],_,h=>absurd h.1 (by simp)
theorem MapRep.all {es:Array MapEntry} {l:List (k.den×Int)} (h:MapRep k es l):All2 (EnRep k) es.toList l:=⟨by have:=h.len; simpa using this,fun i a b ha hb=>h.at_ i a b (by simpa using ha) hb⟩
theorem findNow_str {x:ByteArray}:∀ {es:List MapEntry} {l:List (ByteArray×Int)} {i:Nat},All2 (EnRep .str) es l →
    Instr.findNow .string (.string x) es i=some (if mhas .str l x=true then some (i + mat .str l x,.int .i64 (mget .str l x)) else none)
  | [],[],i,_=>by simp [Instr.findNow,mhas]
  | e :: es,p :: l,i,h=>by
    obtain ⟨h1,h2⟩:EnRep .str e p:=h.2 0 e p rfl rfl
    have ha:All2 (EnRep .str) es l:=⟨by have:=h.1; simpa using this,fun j a b hx hy=>h.2 (j + 1) a b (by simpa using hx) (by simpa using hy)⟩
    have ih:=findNow_str (x:=x) (i:=i + 1) ha
    have h1:=h1.str
    have hs:Instr.sameNow .string (.string x) (.string p.1)=some (eqK .str x p.1):=by
      simp only [Instr.sameNow,eqK,seq]
      rw [beq_toListBytes]
    simp only [Instr.findNow,h1,hs]
    by_cases hp:eqK .str x p.1=true
    · simp [hp,mhas,mat,mget,h2]
    · have hp:eqK .str x p.1=false:=by simpa using hp
      simp only [hp,mhas,mat,mget,if_false,Bool.false_eq_true,ih]
      split
      · rw [show i + 1 + mat .str l x=i + (mat .str l x + 1) by omega]
      · rfl
  | [],_ :: _,_,h=>absurd h.1 (by simp)
  | _ :: _,[],_,h=>absurd h.1 (by simp)
theorem findKey_run (hk:keyOk P kt k=true) {x:k.den} {v:Value} (hv:KV k x v) {es:Array MapEntry} {l:List (k.den×Int)} (h:MapRep k es l) (w:World) :
    (Instr.findKey kt v es.toList).run P w=.ok (if mhas k l x=true then some (mat k l x,.int .i64 (mget k l x)) else none) w:=by
  rcases keyOk_cases hk with ⟨fs,hq,hh,hag,hk⟩ | ⟨hq,rfl⟩
  · rw [run_findKey_eq w (by rw [hq])]
    have:=findAsking_run hq hh hag hk hv w (i:=0) h.all
    simpa using this
  · have e:=hv.str
    subst e
    exact MapKept.run_findKey hq (by simpa using findNow_str (x:=x) (i:=0) h.all)
theorem lookup_run {T et:TypeId} (hT:P.underlying T=some (.map kt et)) (hk:keyOk P kt k=true) {i:TypeInfo} (hi:P.info? et=some i) (hz:i.zero=some (.int .i64 0)) {x:k.den} {v:Value} (hv:KV k x v) {es:Array MapEntry} {l:List (k.den×Int)} (h:MapRep k es l)
    {w:World} {b clock:Nat} (hb:w.heap[b]?=some (.map es clock)):(Instr.lookup T (.map (some b)) v false).run P w=.ok (.int .i64 (mget k l x)) w:=by
  have hzr:(zeroValue et).run P w=.ok (.int .i64 0) w:=by simp [zeroValue,run_typeInfo w hi,hz]
  simp only [Instr.lookup,Sem.run_bind,run_underlying hT,Result.andThen_ok,MapKept.run_getObj_map hb,Sem.run_pure,key_checked hk hv _ w,findKey_run hk hv h w]
  rcases Bool.eq_false_or_eq_true (mhas k l x) with hh | hh
  · simp [hh]
  · rw [if_neg (by simp [hh])]
    simp only [Sem.run_bind,hzr,Result.andThen_ok,Sem.run_pure,(mat_hasnt hh).2]
    rfl
end
end Go.Vm

namespace Go.Vm
variable [Amb]
open Go.RowKit (Below)
def MapAt (w:World) (b:Nat) (k:Ty) (l:List (k.den×Int)):Prop:=∃ es:Array MapEntry,w.heap[b]?=some (.map es es.size)∧MapRep k es l
def OnlyAt (b:Nat) (w w':World):Prop:=w'.os=w.os∧w'.tape=w.tape∧w'.output=w.output∧w'.heap.size=w.heap.size∧∀ q,q≠b→w'.heap[q]?=w.heap[q]?
theorem onlyAt_set {w:World} {b:Nat} (o:Obj):OnlyAt b w { w with heap:=w.heap.setIfInBounds b o } :=
  ⟨rfl,rfl,rfl,by simp,fun q hq=>by simp [Array.getElem?_setIfInBounds,Ne.symm hq]⟩
theorem heap_set_at {w:World} {b:Nat} {o o':Obj} (h:w.heap[b]?=some o'):({ w with heap:=w.heap.setIfInBounds b o }:World).heap[b]?=some o:=by
  have hlt:b < w.heap.size:=by
    rcases Nat.lt_or_ge b w.heap.size with h' | h'
    · exact h'
    · rw [Array.getElem?_eq_none h'] at h; cases h
  simp [Array.getElem?_setIfInBounds,hlt]
theorem kcells_same:∀ {t:Ty} {x:t.den} {c:Value},c∈kcells t x→∀ n,Instr.sameBits n c c=true
  | .int _,_,_,h,n=>by simp [kcells] at h; subst h; cases n<;>simp [Instr.sameBits]
  | .bool,_,_,h,n=>by simp [kcells] at h; subst h; cases n<;>simp [Instr.sameBits]
  | .str,_,_,h,n=>by simp [kcells] at h; subst h; cases n<;>(simp only [Instr.sameBits]; rw [beq_toListBytes]; simp)
  | .pair a b,x,_,h,n=>by
    simp only [kcells,List.mem_append] at h
    rcases h with h | h
    · exact kcells_same h n
    · exact kcells_same h n
  | .unit,_,_,h,_=>by cases h
  | .slice _,_,_,h,_=>by cases h
  | .ptr _,_,_,h,_=>by cases h
  | .ifp _ _,_,_,h,_=>by cases h
theorem zip_self_all {α:Type} {p:α×α→Bool}:∀ {l:List α},(∀ x∈l,p (x,x)=true)→(l.zip l).all p=true
  | [],_=>rfl
  | x :: l,h=>by
    simp only [List.zip_cons_cons,List.all_cons,Bool.and_eq_true]
    exact ⟨h x (by simp),zip_self_all (fun y hy=>h y (by simp [hy]))⟩
theorem KV.same {k:Ty} {x:k.den} {v:Value} (h:KV k x v):Instr.sameBits 10000 v v=true:=by
  rcases h with ⟨_,xs,rfl,hx⟩ | ⟨_,hx⟩
  · have he:Instr.sameBits 10000 (.agg xs) (.agg xs)=(xs.size == xs.size && (xs.toList.zip xs.toList).all fun (x,y)=>Instr.sameBits 9999 x y):=rfl
    rw [he,Bool.and_eq_true]
    refine ⟨by simp,zip_self_all (fun y hy=>?_)⟩
    rw [hx] at hy
    exact kcells_same hy 9999
  · exact kcells_same (by rw [hx]; simp) 10000
theorem KV.uniq {k:Ty} {x:k.den} {u v:Value} (h:KV k x u) (h':KV k x v):u=v:=by
  rcases h with ⟨hk,xs,rfl,hx⟩ | ⟨hk,hx⟩
  · obtain ⟨ys,rfl,hy⟩:=h'.agg hk
    have:xs=ys:=Array.toList_inj.1 (hx.trans hy.symm)
    rw [this]
  · rcases h' with ⟨hk',_⟩ | ⟨_,hy⟩
    · rw [hk] at hk'; cases hk'
    · rw [hx] at hy
      simpa using hy
section
variable {P:Program} {kt:TypeId} {k:Ty}
theorem mapEntry_run {T et:TypeId} (hT:P.underlying T=some (.map kt et)) (hk:keyOk P kt k=true) {i:TypeInfo} (hi:P.info? et=some i) (hz:i.zero=some (.int .i64 0)) {x:k.den} {v:Value} (hv:KV k x v) {l:List (k.den×Int)} {w:World} {b:Nat} (h:MapAt w b k l) :
    ∃ w',(Instr.mapEntry T (.map (some b)) v).run P w=.ok (.tuple #[.int .i64 (mget k l x),goInt (mat k l x)]) w'∧MapAt w' b k (mtouch k l x)∧OnlyAt b w w':=by
  obtain ⟨es,hb,hr⟩:=h
  have hzr:(zeroValue et).run P w=.ok (.int .i64 0) w:=by simp [zeroValue,run_typeInfo w hi,hz]
  rcases Bool.eq_false_or_eq_true (mhas k l x) with hh | hh
  · obtain ⟨p,h1,h2,h3⟩:=mat_has hh
    have hlt:mat k l x < es.size:=by rw [hr.len]; exact (List.getElem?_eq_some_iff.1 h1).1
    have he:es[mat k l x]?=some es[mat k l x] := Array.getElem?_eq_getElem hlt
    have hen:=hr.at_ _ _ _ he h1
    have hxp:x=p.1:=eqK_eq h2
    have hen1:=hen.1
    rw [← hxp] at hen1
    have hkey:es[mat k l x].key=v:=hen1.uniq hv
    have hst:(Instr.keyThatStays es[mat k l x].key v).run P w=.ok v w:=by
      rw [hkey]
      unfold Instr.keyThatStays
      rw [if_pos hv.same]
      rfl
    refine ⟨{ w with heap:=w.heap.setIfInBounds b (.map (es.modify (mat k l x) fun e=>{ e with key:=v }) es.size) },?_,⟨es.modify (mat k l x) fun e=>{ e with key:=v },?_,?_⟩,onlyAt_set _⟩
    · simp only [Instr.mapEntry,Sem.run_bind,run_underlying hT,Result.andThen_ok,MapKept.run_getObj_map hb,key_checked hk hv _ w,findKey_run hk hv hr w,hh,if_true]
      simp only [he,Option.map_some,Option.getD_some,Sem.run_bind,hst,Result.andThen_ok,MapKept.run_setObj_map _ hb,Sem.run_pure,hr.born _ _ he]
    · rw [heap_set_at hb]
      simp
    · have hmod:(es.modify (mat k l x) fun e=>{ e with key:=v })=es:=by
        apply Array.ext_getElem?
        intro j
        rw [Array.getElem?_modify]
        split
        · rename_i hj
          subst hj
          rw [he,Option.map_some]
          congr 1
          rw [← hkey]
        · rfl
      rw [hmod]
      unfold mtouch
      rw [if_pos hh]
      exact hr
  · obtain ⟨h1,h2⟩:=mat_hasnt hh
    refine ⟨{ w with heap:=w.heap.setIfInBounds b (.map (es.push { key:=v,val:=.int .i64 0,born:=es.size }) (es.size + 1)) },?_,⟨es.push { key:=v,val:=.int .i64 0,born:=es.size },?_,?_⟩,onlyAt_set _⟩
    · simp only [Instr.mapEntry,Sem.run_bind,run_underlying hT,Result.andThen_ok,MapKept.run_getObj_map hb,key_checked hk hv _ w,findKey_run hk hv hr w,hh,Bool.false_eq_true,if_false]
      simp only [Sem.run_bind,hzr,Result.andThen_ok,MapKept.run_setObj_map _ hb,Sem.run_pure,h2,h1,hr.len]
    · rw [heap_set_at hb]
      simp
    · unfold mtouch
      rw [if_neg (by simp [hh])]
      refine ⟨by simp [hr.len],fun j en p hj hp=>?_,fun j en hj=>?_⟩
      · rw [Array.getElem?_push] at hj
        split at hj
        · rename_i he
          cases hj
          rw [he,hr.len,List.getElem?_append_right (Nat.le_refl _)] at hp
          simp at hp
          subst hp
          exact ⟨hv,rfl⟩
        · have hlt:j < es.size:=by
            rcases Nat.lt_or_ge j es.size with h' | h'
            · exact h'
            · rw [Array.getElem?_eq_none h'] at hj; cases hj
          rw [List.getElem?_append_left (by rw [← hr.len]; exact hlt)] at hp
          exact hr.at_ j en p hj hp
      · rw [Array.getElem?_push] at hj
        split at hj
        · rename_i he
          cases hj
          exact he.symm
        · exact hr.born j en hj
theorem entryStore_run {T:TypeId} {l:List (k.den×Int)} {w:World} {b j:Nat} {p:k.den×Int} (h:MapAt w b k l) (hp:l[j]?=some p) (n:Int) :
    ∃ w',(Instr.entryStore T (.map (some b)) (goInt j) (.int .i64 n)).run P w=.ok () w'∧MapAt w' b k (l.set j (p.1,n))∧OnlyAt b w w':=by
  obtain ⟨es,hb,hr⟩:=h
  have hlt:j < es.size:=by rw [hr.len]; exact (List.getElem?_eq_some_iff.1 hp).1
  have he:es[j]?=some es[j] := Array.getElem?_eq_getElem hlt
  have hfind:es.findIdx? (fun e=>(e.born:Int) == (j:Int))=some j:=by
    rw [Array.findIdx?_eq_some_iff_getElem]
    refine ⟨hlt,?_,fun m hm=>?_⟩
    · rw [hr.born j _ he]; simp
    · have:=hr.born m _ (Array.getElem?_eq_getElem (by omega:m < es.size))
      rw [this]
      simp
      omega
  refine ⟨{ w with heap:=w.heap.setIfInBounds b (.map (es.modify j fun e=>{ e with val:=.int .i64 n }) es.size) },?_,⟨es.modify j fun e=>{ e with val:=.int .i64 n },?_,?_⟩,onlyAt_set _⟩
  · simp only [Instr.entryStore,Sem.run_bind,MapKept.run_getObj_map hb,Result.andThen_ok,asInt,asIntOf,goInt,Sem.run_pure,hfind,MapKept.run_setObj_map _ hb]
  · rw [heap_set_at hb]
    simp
  · refine ⟨by simp [hr.len],fun q en r hq hr'=>?_,fun q en hq=>?_⟩
    · rw [Array.getElem?_modify] at hq
      split at hq
      · rename_i hj
        subst hj
        rw [he,Option.map_some] at hq
        cases hq
        rw [List.getElem?_set_self (by rw [← hr.len]; exact hlt)] at hr'
        cases hr'
        exact ⟨(hr.at_ _ _ _ he hp).1,rfl⟩
      · rename_i hj
        rw [List.getElem?_set_ne hj] at hr'
        exact hr.at_ q en r hq hr'
    · rw [Array.getElem?_modify] at hq
      split at hq
      · rename_i hj
        subst hj
        rw [he,Option.map_some] at hq
        cases hq
        have:=hr.born _ _ he
        exact this
      · exact hr.born q en hq
theorem touch_set (l:List (k.den×Int)) (x:k.den) (n:Int):∃ p,(mtouch k l x)[mat k l x]?=some p∧(mtouch k l x).set (mat k l x) (p.1,n)=mput k l x n:=by
  unfold mtouch
  rcases Bool.eq_false_or_eq_true (mhas k l x) with hh | hh
  · rw [if_pos hh]
    obtain ⟨p,h1,_,_⟩:=mat_has hh
    exact ⟨p,h1,(mput_has h1 hh).symm⟩
  · rw [if_neg (by simp [hh])]
    obtain ⟨h1,_⟩:=mat_hasnt hh
    refine ⟨(x,0),by rw [h1]; simp,?_⟩
    rw [h1,mput_hasnt hh]
    simp
theorem touch_get (l:List (k.den×Int)) (x y:k.den):mget k (mtouch k l x) y=mget k l y:=by
  unfold mtouch
  split
  · rfl
  · induction l with
    | nil=>simp only [List.nil_append,mget]; split<;>rfl
    | cons p l ih =>
      simp only [List.cons_append,mget]
      split
      · rfl
      · rename_i hh hp
        have hh':¬ mhas k l x=true:=by
          intro h'
          refine hh ?_
          simp only [mhas]
          split
          · rfl
          · exact h'
        exact ih hh'
end
end Go.Vm

namespace Go.Vm
variable [Amb]
open Go.RowKit (Below)
section
variable {P:Program} {st:St} {s:Nat} {W:Option Bool} {ann:List (Nat×Bool)}
theorem mapKey_eq {t:TypeId} {k:Ty} (h:mapKey P t=some k):∃ (kt et:TypeId) (i:TypeInfo),P.underlying t=some (.map kt et)∧keyOk P kt k=true∧flat k=true∧P.info? et=some i∧i.zero=some (.int .i64 0):=by
  unfold mapKey at h
  split at h
  case h_2=>cases h
  rename_i kt et hu
  split at h
  case h_2=>cases h
  split at h
  case isFalse=>cases h
  rename_i hc
  have h:=Option.some.inj h
  subst h
  simp only [Bool.and_eq_true] at hc
  obtain ⟨⟨h1,h2⟩,h3⟩:=hc
  unfold cntOk at h3
  split at h3
  · rename_i i hi
    split at h3
    · rename_i hz; exact ⟨kt,et,i,hu,h1,h2,hi,hz⟩
    · cases h3
  · cases h3
theorem key_rel {cx:Cx} {v:Value} {u:V} {k:Ty} {x:k.den} (hf:flat k=true) (hv:trep cx v u) (hx:keyC k u=some x):KV k x v:=by
  unfold keyC at hx
  split at hx
  case isFalse=>cases hx
  rename_i hag
  have key:∀ {vs:List Value} {us:List V},All2 (crep cx) vs us→ofcells k us=some x→vs=kcells k x:=by
    intro vs us ha hx
    have hp:All2 (prep cx.w cx.I) vs us:=ha.imp (fun v u hu=>by
      cases u with
      | d t x=>exact hu
      | nil=>exact hu
      | nilp=>exact hu
      | _=>trivial)
    exact kcells_rep hf (ofcells_rel hx hp)
  have single:∀ {u:V},crep cx v u→k.isAgg=false→ofcells k [u]=some x→KV k x v:=by
    intro u hu hag hx
    exact .inr ⟨hag,(key (all2_one hu) hx).symm⟩
  cases u with
  | agg us =>
    obtain ⟨vs,rfl,ha⟩:=hv
    exact .inl ⟨hag,vs,rfl,key ha hx⟩
  | any=>simp only [aggOk,Bool.not_eq_true'] at hag; cases k<;>simp [ofcells,ofc,cellsOf,Ty.isAgg] at hx hag
  | tup us=>simp only [aggOk,Bool.not_eq_true'] at hag; cases k<;>simp [ofcells,ofc,cellsOf,Ty.isAgg] at hx hag
  | g _ _ _ _=>exact hv.elim
  | d t y=>exact single (u:=.d t y) hv (by simpa [aggOk] using hag) hx
  | nil=>exact single (u:=.nil) hv (by simpa [aggOk] using hag) hx
  | nilp=>exact single (u:=.nilp) hv (by simpa [aggOk] using hag) hx
  | own id=>exact single (u:=.own id) hv (by simpa [aggOk] using hag) hx
  | sub id i j=>exact single (u:=.sub id i j) hv (by simpa [aggOk] using hag) hx
  | pt id i o=>exact single (u:=.pt id i o) hv (by simpa [aggOk] using hag) hx
  | rp t y o=>exact single (u:=.rp t y o) hv (by simpa [aggOk] using hag) hx
  | fn f=>exact single (u:=.fn f) hv (by simpa [aggOk] using hag) hx
  | part id lo hi=>exact single (u:=.part id lo hi) hv (by simpa [aggOk] using hag) hx
  | clo f t y=>exact single (u:=.clo f t y) hv (by simpa [aggOk] using hag) hx
  | cap f t y=>exact single (u:=.cap f t y) hv (by simpa [aggOk] using hag) hx
  | capm f t=>exact single (u:=.capm f t) hv (by simpa [aggOk] using hag) hx
  | emp b e=>exact single (u:=.emp b e) hv (by simpa [aggOk] using hag) hx
  | mp id=>exact single (u:=.mp id) hv (by simpa [aggOk] using hag) hx
  | sl m=>exact single (u:=.sl m) hv (by simpa [aggOk] using hag) hx
  | z e=>exact single (u:=.z e) hv (by simpa [aggOk] using hag) hx
  | ifc ks t g y=>exact single (u:=.ifc ks t g y) hv (by simpa [aggOk] using hag) hx
theorem map_at {B:Lim} {M:Nat→Prop} {w0 w:World} {ob:List Ob} {fp:List (List Nat)} (H:Hrel B M w0 w ob fp) {id:Nat} {k:Ty} {l:List (k.den×Int)} {v:Value} (ho:ob[id]?=some (.mp k l)) (hv:crep (cxOf B M w ob fp) v (.mp id)) :
    ∃ b,v=.map (some b)∧fp[id]?=some [b]∧MapAt w b k l:=by
  obtain ⟨o,bs,ho',hf,hv⟩:=hv
  simp only [cxOf] at ho' hf
  rw [ho] at ho'
  have e1:=Option.some.inj ho'
  subst e1
  obtain ⟨b,rfl,rfl⟩:=hv
  obtain ⟨b',es,hb',hh,hm⟩:=H.ob id _ _ ho hf
  simp at hb'
  subst hb'
  exact ⟨b,rfl,hf,es,hh,hm⟩
theorem lookup_op {o:Oper} {t:TypeId} {m x:Operand} {q:Ty} {id:Nat} {n:Int} (ho:o.op=.lookup t m x false) (hq:mapKey P t=some q) (hm:ev st s ann m=.mp id) (h:mlook st.ob q id (ev st s ann x)=some n):OpSem P o st s W ann (.d (.int .i64) n):=by
  obtain ⟨kt,et,i,hu,hk,hf,hi,hz⟩:=mapKey_eq hq
  unfold mlook at h
  rw [getAt_eq] at h
  split at h
  case h_2=>cases h
  rename_i k l hob
  split at h
  case isFalse=>cases h
  rename_i he
  subst he
  split at h
  case h_2=>cases h
  rename_i y hy
  have h:=Option.some.inj h
  subst h
  refine OpSem.of_run fun hW B M w0 w fp a H hann hop=>?_
  have h1:=hop m (by simp [ho,Op.operands])
  have h2:=hop x (by simp [ho,Op.operands])
  rw [hm] at h1
  obtain ⟨b,hb,_,es,hh,hr⟩:=map_at H hob h1
  refine ⟨.int .i64 (mget k l y),?_,trep_int⟩
  simp only [execOp,ho,hb,Sem.run_bind,lookup_run hu hk hi hz (key_rel hf h2 hy) hr hh,Result.andThen_ok]
  rfl
theorem makeMap_op {o:Oper} {t:TypeId} {q:Ty} (ho:o.op=.makeMap t none):OpChg P o st s ann (.mp st.ob.length) { st with ob:=st.ob++[.mp q []] } := by
  intro B M w0 w fp a H hann hop K Q hK
  have hndup:(fp++[[w.heap.size]]).flatten.Nodup:=by
    rw [List.flatten_append,List.nodup_append]
    refine ⟨H.nd,by simp,fun p hp r hr he=>?_⟩
    subst he
    have h1:=(H.ge p hp).2
    simp at hr
    omega
  have hbel:Below w.heap.size w (w.alloc (.map #[] 0)):=(Below.refl _ _).alloc (Nat.le_refl _) _
  obtain ⟨h1,h2⟩:=turn_push (os:=[.mp q []]) (bss:=[[w.heap.size]]) (w':=w.alloc (.map #[] 0)) H (turns_refl _ _) rfl hndup (fun b hb=>.inr (by simp at hb; subst hb; simp)) hbel.size (fun b hb' _=>hbel.block b hb') (Bel.of hbel H.size)
  have hnew:(w.alloc (.map #[] 0)).heap[w.heap.size]?=some (.map #[] 0):=by
    show (w.heap.push (.map #[] 0))[w.heap.size]?=_
    simp
  have hrel:=h2 (fun k o' r ho' hr=>by
    cases k with
    | succ k=>simp at ho'
    | zero =>
      simp at ho' hr
      subst ho'
      subst hr
      exact ⟨w.heap.size,#[],rfl,hnew,rfl,fun i en p hi=>by simp at hi,fun i en hi=>by simp at hi⟩)
  refine wp_to (v:=.map (some w.heap.size)) (w':=w.alloc (.map #[] 0)) ?_ (hK _ _ (fp++[[w.heap.size]]) hrel (fun cur a v t hg=>grep_map (fun _ _ hu=>h1.crep H.rows hu) hg) ?_)
  · have hrun:(Instr.makeMap t none).run P w=.ok (.map (some w.heap.size)) (w.alloc (.map #[] 0)):=rfl
    simp only [execOp,ho,Option.map_none,hrun,Sem.run_bind,Result.andThen_ok]
    rfl
  · exact ⟨.mp q [],[w.heap.size],by simp [cxOf],by simp [cxOf,← H.len],w.heap.size,rfl,rfl⟩
end
end Go.Vm

namespace Go.Vm
variable [Amb]
open Go.RowKit (Below)
section
variable {B:Lim} {M:Nat→Prop} {w0 w w':World} {ob:List Ob} {fp:List (List Nat)}
theorem map_turn (H:Hrel B M w0 w ob fp) {id b:Nat} {k:Ty} {l l':List (k.den×Int)} (ho:ob[id]?=some (.mp k l)) (hf:fp[id]?=some [b]) (hw:OnlyAt b w w') (hm:MapAt w' b k l') :
    Hrel B M w0 w' (setAt ob id (.mp k l')) fp∧Mv (cxOf B M w ob fp) (cxOf B M w' (setAt ob id (.mp k l')) fp):=by
  obtain ⟨g1,g2,g3,g4,g5⟩:=hw
  have hlt:=lt_of_get ho
  have hself:(setAt ob id (.mp k l'))[id]?=some (.mp k l'):=by simp [setAt_eq,hlt]
  have hne:∀ i,id≠i→(setAt ob id (.mp k l'))[i]?=ob[i]? := fun i h=>by simp [setAt_eq,h]
  have hBb:=H.ge b (List.mem_flatten.2 ⟨_,List.mem_of_getElem? hf,by simp⟩)
  have himm:∀ q,q < w.heap.size→Vm.imm B M w ob fp q→Vm.imm B M w' (setAt ob id (.mp k l')) fp q∧w'.heap[q]?=w.heap[q]? := by
    intro q hq hi
    refine ⟨⟨by rw [g4]; exact hq,hi.2.1,fun i o bs ho' hf' hl hmem=>?_⟩,g5 q (fun he=>hi.2.2 id _ _ ho hf trivial (by rw [he]; simp))⟩
    by_cases he:id=i
    · subst he
      exact hi.2.2 id _ bs ho hf' trivial hmem
    · rw [hne i he] at ho'
      exact hi.2.2 i o bs ho' hf' hl hmem
  have hsame:∀ {i:Nat} {bs:List Nat},id≠i→fp[i]?=some bs→Same w w' bs:=by
    intro i bs he hf' q hq
    refine g5 q (fun hqb=>?_)
    subst hqb
    exact he (nodup_index H.nd hf hf' (by simp) hq)
  have m:Mv (cxOf B M w ob fp) (cxOf B M w' (setAt ob id (.mp k l')) fp):=by
    refine ⟨fun q hq hi=>himm q hq hi,fun i o bs ho' hf'=>?_⟩
    by_cases he:id=i
    · subst he
      simp only [cxOf] at ho'
      rw [ho] at ho'
      cases ho'
      exact .inr (.inr (.inr (.inr (.inr ⟨k,l,l',rfl,hself,hf'⟩))))
    · exact .inl ⟨by simp only [cxOf] at ho' ⊢; rw [hne i he]; exact ho',hf',hsame he hf'⟩
  refine ⟨⟨by rw [H.len]; simp [setAt_eq],H.nd,fun q hq=>by rw [g4]; exact H.ge q hq,fun i o bs ho' hf'=>?_,H.below.trans ⟨g1,g2,g3,Nat.le_of_eq g4.symm,fun q hq=>g5 q (fun he=>hBb.1 (he ▸ hq))⟩,(fun q hq=>by rw [g4]; exact H.size q hq),H.amb⟩,m⟩
  by_cases he:id=i
  · subst he
    rw [hself] at ho'
    cases ho'
    rw [hf] at hf'
    cases hf'
    obtain ⟨es,h1,h2⟩:=hm
    exact ⟨b,es,rfl,h1,h2⟩
  · rw [hne i he] at ho'
    exact m.orep H.rows (H.ob i o bs ho' hf') (hsame he hf')
end
section
variable {P:Program} {st:St} {s:Nat} {ann:List (Nat×Bool)}
theorem mapEntry_op {o:Oper} {t:TypeId} {m x:Operand} {q:Ty} {id j:Nat} {n:Int} {o':Ob} (ho:o.op=.mapEntry t m x) (hq:mapKey P t=some q) (hm:ev st s ann m=.mp id) (h:mentry st.ob q id (ev st s ann x)=some (n,j,o')) :
    OpChg P o st s ann (.tup [.d (.int .i64) n,.d (.int .i64) (j:Int)]) { st with ob:=setAt st.ob id o' } := by
  obtain ⟨kt,et,i,hu,hk,hf,hi,hz⟩:=mapKey_eq hq
  unfold mentry at h
  rw [getAt_eq] at h
  split at h
  case h_2=>cases h
  rename_i k l hob
  split at h
  case isFalse=>cases h
  rename_i he
  subst he
  split at h
  case h_2=>cases h
  rename_i y hy
  simp only [Option.some.injEq,Prod.mk.injEq] at h
  obtain ⟨rfl,rfl,rfl⟩:=h
  intro B M w0 w fp a H hann hop K Q hK
  have h1:=ev_rel (x:=m) (fun t ht=>hop t (by simp [ho,Op.operands,ht])) hann
  have h2:=ev_rel (x:=x) (fun t ht=>hop t (by simp [ho,Op.operands,ht])) hann
  rw [hm] at h1
  obtain ⟨b,hb,hfp,hat⟩:=map_at H hob h1
  obtain ⟨w',hrun,hat',hon⟩:=mapEntry_run hu hk hi hz (key_rel hf h2 hy) hat
  obtain ⟨H1,m1⟩:=map_turn H hob hfp hon hat'
  refine wp_to (v:=.tuple #[.int .i64 (mget k l y),goInt (mat k l y)]) (w':=w') ?_ (hK _ w' fp H1 (Adv.of_mv rfl H.rows m1) ?_)
  · simp only [execOp,ho,hb,Sem.run_bind,hrun,Result.andThen_ok]
    rfl
  · exact ⟨_,rfl,all2_append (all2_one (x:=Value.int .i64 (mget k l y)) (y:=V.d (.int .i64) (mget k l y)) rfl) (all2_one (x:=goInt (mat k l y)) (y:=V.d (.int .i64) (mat k l y:Int)) rfl)⟩
theorem entryStore_op {o:Oper} {t:TypeId} {m jx x:Operand} {q:Ty} {id:Nat} {j n:Int} {l:List (q.den×Int)} (ho:o.op=.entryStore t m jx x) (hm:ev st s ann m=.mp id) (hj:ev st s ann jx=.d (.int .i64) j) (hx:ev st s ann x=.d (.int .i64) n) (hob:st.ob[id]?=some (.mp q l)) (hc:0≤j∧j < (l.length:Int)) :
    OpChg P o st s ann .any { st with ob:=setAt st.ob id (.mp q (l.set j.toNat ((l.getD j.toNat (q.zero,0)).1,n))) } := by
  intro B M w0 w fp a H hann hop K Q hK
  have h1:=ev_rel (x:=m) (fun t ht=>hop t (by simp [ho,Op.operands,ht])) hann
  have h2:=ev_rel (x:=jx) (fun t ht=>hop t (by simp [ho,Op.operands,ht])) hann
  have h3:=ev_rel (x:=x) (fun t ht=>hop t (by simp [ho,Op.operands,ht])) hann
  rw [hm] at h1
  rw [hj] at h2
  rw [hx] at h3
  obtain ⟨b,hb,hfp,hat⟩:=map_at H hob h1
  have e2:=crep_int h2
  have e3:=crep_int h3
  have hlt:j.toNat < l.length:=by omega
  have hp:l[j.toNat]?=some (l.getD j.toNat (q.zero,0)):=by rw [getD_of_lt hlt]; exact List.getElem?_eq_getElem hlt
  obtain ⟨w',hrun,hat',hon⟩:=entryStore_run (P:=P) (T:=t) hat hp n
  have hjj:((j.toNat:Nat):Int)=j:=by omega
  rw [hjj] at hrun
  obtain ⟨H1,m1⟩:=map_turn H hob hfp hon hat'
  have hgo:goInt j=.int .i64 j:=rfl
  rw [hgo] at hrun
  unfold Oper.wp
  have hex:(execOp a.eval o).run P w=.ok .skip w':=by
    simp only [execOp,ho,hb,e2,e3,Sem.run_bind,hrun]
    rfl
  rw [hex]
  exact hK undef w' fp H1 (Adv.of_mv rfl H.rows m1) trivial
end
end Go.Vm

namespace Go.Vm
variable [Amb]
open Go.RowKit (Below)
section
variable {P:Program} {kt:TypeId} {k:Ty}
theorem mapUpdate_run {T et:TypeId} (hT:P.underlying T=some (.map kt et)) (hk:keyOk P kt k=true) {x:k.den} {v:Value} (hv:KV k x v) {l:List (k.den×Int)} {w:World} {b:Nat} (h:MapAt w b k l) (n:Int) :
    ∃ w',(Instr.mapUpdate T (.map (some b)) v (.int .i64 n)).run P w=.ok () w'∧MapAt w' b k (mput k l x n)∧OnlyAt b w w':=by
  obtain ⟨es,hb,hr⟩:=h
  rcases Bool.eq_false_or_eq_true (mhas k l x) with hh | hh
  · obtain ⟨p,h1,h2,h3⟩:=mat_has hh
    have hlt:mat k l x < es.size:=by rw [hr.len]; exact (List.getElem?_eq_some_iff.1 h1).1
    have he:es[mat k l x]?=some es[mat k l x] := Array.getElem?_eq_getElem hlt
    have hen:=hr.at_ _ _ _ he h1
    have hxp:x=p.1:=eqK_eq h2
    have hen1:=hen.1
    rw [← hxp] at hen1
    have hkey:es[mat k l x].key=v:=hen1.uniq hv
    have hst:(Instr.keyThatStays es[mat k l x].key v).run P w=.ok v w:=by
      rw [hkey]
      unfold Instr.keyThatStays
      rw [if_pos hv.same]
      rfl
    refine ⟨{ w with heap:=w.heap.setIfInBounds b (.map (es.modify (mat k l x) fun e=>{ e with key:=v,val:=.int .i64 n }) es.size) },?_,⟨es.modify (mat k l x) fun e=>{ e with key:=v,val:=.int .i64 n },?_,?_⟩,onlyAt_set _⟩
    · simp only [Instr.mapUpdate,Sem.run_bind,run_underlying hT,Result.andThen_ok,MapKept.run_getObj_map hb,key_checked hk hv _ w,findKey_run hk hv hr w,hh,if_true]
      simp only [he,Option.map_some,Option.getD_some,Sem.run_bind,hst,Result.andThen_ok,MapKept.run_setObj_map _ hb]
    · rw [heap_set_at hb]
      simp
    · rw [mput_has h1 hh]
      refine ⟨by simp [hr.len],fun j en q hj hq=>?_,fun j en hj=>?_⟩
      · rw [Array.getElem?_modify] at hj
        by_cases hjm:mat k l x=j
        · rw [if_pos hjm,← hjm,he,Option.map_some] at hj
          cases hj
          rw [← hjm,List.getElem?_set_self (by rw [← hr.len]; exact hlt)] at hq
          cases hq
          rw [← hxp]
          exact ⟨hv,rfl⟩
        · rw [if_neg hjm] at hj
          rw [List.getElem?_set_ne hjm] at hq
          exact hr.at_ j en q hj hq
      · rw [Array.getElem?_modify] at hj
        by_cases hjm:mat k l x=j
        · rw [if_pos hjm,← hjm,he,Option.map_some] at hj
          cases hj
          rw [← hjm]
          have:=hr.born (mat k l x) es[mat k l x] he
          exact this
        · rw [if_neg hjm] at hj
          exact hr.born j en hj
  · obtain ⟨h1,h2⟩:=mat_hasnt hh
    refine ⟨{ w with heap:=w.heap.setIfInBounds b (.map (es.push { key:=v,val:=.int .i64 n,born:=es.size }) (es.size + 1)) },?_,⟨es.push { key:=v,val:=.int .i64 n,born:=es.size },?_,?_⟩,onlyAt_set _⟩
    · simp only [Instr.mapUpdate,Sem.run_bind,run_underlying hT,Result.andThen_ok,MapKept.run_getObj_map hb,key_checked hk hv _ w,findKey_run hk hv hr w,hh,Bool.false_eq_true,if_false]
      simp only [MapKept.run_setObj_map _ hb]
    · rw [heap_set_at hb]
      simp
    · rw [mput_hasnt hh]
      refine ⟨by simp [hr.len],fun j en p hj hp=>?_,fun j en hj=>?_⟩
      · rw [Array.getElem?_push] at hj
        split at hj
        · rename_i he
          cases hj
          rw [he,hr.len,List.getElem?_append_right (Nat.le_refl _)] at hp
          simp at hp
          subst hp
          exact ⟨hv,rfl⟩
        · have hlt:j < es.size:=by
            rcases Nat.lt_or_ge j es.size with h' | h'
            · exact h'
            · rw [Array.getElem?_eq_none h'] at hj; cases hj
          rw [List.getElem?_append_left (by rw [← hr.len]; exact hlt)] at hp
          exact hr.at_ j en p hj hp
      · rw [Array.getElem?_push] at hj
        split at hj
        · rename_i he
          cases hj
          exact he.symm
        · exact hr.born j en hj
end
section
variable {P:Program} {st:St} {s:Nat} {ann:List (Nat×Bool)}
theorem mapUpdate_op {o:Oper} {t:TypeId} {m x y:Operand} {q:Ty} {id:Nat} {n:Int} {o':Ob} (ho:o.op=.mapUpdate t m x y) (hq:mapKey P t=some q) (hm:ev st s ann m=.mp id) (hy:ev st s ann y=.d (.int .i64) n) (h:mupd st.ob q id (ev st s ann x) n=some o') :
    OpChg P o st s ann .any { st with ob:=setAt st.ob id o' } := by
  obtain ⟨kt,et,i,hu,hk,hf,hi,hz⟩:=mapKey_eq hq
  unfold mupd at h
  rw [getAt_eq] at h
  split at h
  case h_2=>cases h
  rename_i k l hob
  split at h
  case isFalse=>cases h
  rename_i he
  subst he
  split at h
  case h_2=>cases h
  rename_i z hz'
  have h:=Option.some.inj h
  subst h
  intro B M w0 w fp a H hann hop K Q hK
  have h1:=ev_rel (x:=m) (fun t ht=>hop t (by simp [ho,Op.operands,ht])) hann
  have h2:=ev_rel (x:=x) (fun t ht=>hop t (by simp [ho,Op.operands,ht])) hann
  have h3:=ev_rel (x:=y) (fun t ht=>hop t (by simp [ho,Op.operands,ht])) hann
  rw [hm] at h1
  rw [hy] at h3
  obtain ⟨b,hb,hfp,hat⟩:=map_at H hob h1
  have e3:=crep_int h3
  obtain ⟨w',hrun,hat',hon⟩:=mapUpdate_run hu hk (key_rel hf h2 hz') hat n
  obtain ⟨H1,m1⟩:=map_turn H hob hfp hon hat'
  unfold Oper.wp
  have hex:(execOp a.eval o).run P w=.ok .skip w':=by
    simp only [execOp,ho,hb,e3,Sem.run_bind,hrun]
    rfl
  rw [hex]
  exact hK undef w' fp H1 (Adv.of_mv rfl H.rows m1) trivial
end
end Go.Vm

namespace Go.Vm
variable [Amb]
open Go.RowKit (Below)
section
variable {P:Program} {T:FuncId→Option Sig} {R:Type} {st:St} {s:Nat} {W:Option Bool} {ann:List (Nat×Bool)}
theorem runX_none {k:V→St→Option R}:∀ (tr:Tr),runX st none tr k=(trOut true tr).bind fun p=>match p.2 with | none=>k p.1 st | some q=>k p.1 (killedL q.2 { st with ob:=q.1 }):=by
  intro tr
  induction tr with
  | fail=>rfl
  | leaf v=>rfl
  | chg v ob ids=>rfl
  | ite b x y ihx ihy=>cases b<;>simp [runX,trOut,ihx,ihy]
  | bind t o f ih =>
    simp only [runX,trOut,if_true,Option.bind_assoc]
    cases o with
    | none=>rfl
    | some z=>simp only [Option.bind_some]; exact ih z
theorem runX_some {k:V→St→Option R} {w:Bool}:∀ (tr:Tr),runX st (some w) tr k=(trOut w tr).bind fun p=>match p.2 with | none=>k p.1 st | some _=>none:=by
  intro tr
  induction tr with
  | fail=>rfl
  | leaf v=>rfl
  | chg v ob ids=>rfl
  | ite b x y ihx ihy=>cases b<;>simp [runX,trOut,ihx,ihy]
  | bind t o f ih =>
    simp only [runX,trOut,Option.bind_assoc]
    cases (if w=true then o else some t.zero) with
    | none=>rfl
    | some z=>simp only [Option.bind_some]; exact ih z
theorem runX_told {k:V→St→Option R} {r:R} {tr:Tr} {y:Bool} (h:runX st (some y) tr k=some r):∃ v,trOut y tr=some (v,none)∧k v st=some r:=by
  rw [runX_some] at h
  simp only [Option.bind_eq_some_iff] at h
  obtain ⟨p,h1,h2⟩:=h
  obtain ⟨v,q⟩:=p
  cases q with
  | none=>exact ⟨v,h1,h2⟩
  | some q=>cases h2
def limN (w:World):Lim:=⟨fun b=>b < w.heap.size,[]⟩
theorem hrel_nil {w:World} (hA:Amb.A w):Hrel (limN w) (fun _=>True) w w [] [] := ⟨rfl,List.nodup_nil,(fun b hb=>by cases hb),(fun id o bs h=>by simp at h),Bel.refl _ _,(fun _ h=>h),hA,fun _ hg=>Amb.lt hA hg⟩
theorem TupRep.flat2 {w w':World} {J J':Nat→Prop}:∀ {ts:List Ty} {x:Tup ts} {vs:List Value},ts.all Vm.flat=true→TupRep w J ts x vs→TupRep w' J' ts x vs
  | [],_,_,_,h=>h
  | t :: ts,x,_,hf,h=>by
    obtain ⟨v,r,rfl,h1,h2⟩:=h
    simp only [List.all_cons,Bool.and_eq_true] at hf
    exact ⟨v,r,rfl,⟨rep_flat hf.1 h1.1,h1.2⟩,h2.flat2 hf.2⟩
theorem closF_run (hT:∀ f sig,T f=some sig→Con P f sig) {f:FuncId} {us vs:List V} (h:closF T f us=some vs):(∀ args w,(callFunc f args).run P w=.ok (.enter f args) w) ∧
    ∀ (w:World) (args:Array Value),Amb.A w→All2 (trep (cxOf (limN w) (fun _=>True) w [] [])) args.toList us→Calls P f args w fun e w'=>∃ rs,e=.returned (resVal rs)∧Below w.heap.size w w'∧∀ cx',All2 (vrep cx') rs vs:=by
  unfold closF at h
  split at h
  case h_2=>cases h
  rename_i sig hsig
  split at h
  case isFalse=>cases h
  rename_i hc
  simp only [Bool.and_eq_true,Option.isNone_iff_eq_none,Bool.not_eq_true'] at hc
  obtain ⟨⟨hw,hfr⟩,hfl⟩:=hc
  simp only [Option.bind_eq_some_iff,Option.map_eq_some_iff] at h
  obtain ⟨z,hz,y,hy,rfl⟩:=h
  have hcon:=hT f sig hsig
  refine ⟨hcon.enters,fun w args hA ha=>?_⟩
  have:=hcon.run hw (fun _=>True) z y w args hy (asTup_rel (J:=fun _=>True) (hrel_nil hA) (fun _ _ _=>trivial) hz ha (fun u _=>cov_all _ u)) hA
  refine this.mono ?_
  rintro e w' ⟨rs,rfl,hbel,hres⟩
  rw [hfr] at hres
  simp only [Bool.false_eq_true,if_false] at hres
  exact ⟨rs,rfl,hbel,fun cx'=>all2_ofTup (TupRep.flat2 hfl hres)⟩
theorem args_nil {w:World} {ts:List Ty} {x:Tup ts} {args:List Value} (h:TupRep w (fun _=>True) ts x args):All2 (trep (cxOf (limN w) (fun _=>True) w [] [])) args (ofTup ts x):=by
  have:=all2_ofTup (cx:=cxOf (limN w) (fun _=>True) w [] []) (h.imp (J':=imm (limN w) (fun _=>True) w [] []) (fun b hb _=>⟨hb,fun _=>trivial,fun id o bs h=>by simp at h⟩))
  exact ⟨this.1,fun i v u hv hu=>trep_of_vrep (this.2 i v u hv hu)⟩
theorem rep_nil {cx:Cx} {w:World} (hk:∀ b,b < cx.w.heap.size→cx.I b→w.heap[b]?=cx.w.heap[b]?) (hs:cx.w.heap.size≤w.heap.size) {t:Ty} {x:t.den} {cs:List Value} (h:rep cx.w cx.I t x cs):rep w (imm (limN w) (fun _=>True) w [] []) t x cs :=
  rep_keep (fun b hb hi=>⟨⟨Nat.lt_of_lt_of_le hb hs,fun _=>trivial,fun id o bs h=>by simp at h⟩,hk b hb hi⟩) h
theorem closT_ok (hT:∀ f sig,T f=some sig→Con P f sig) (cx:Cx):ClosOk P cx (closT T):=by
  intro c fv ts x vs hc h
  unfold closT at h
  split at h
  case h_4=>cases h
  · rename_i f
    obtain ⟨hen,hrun⟩:=closF_run hT h
    refine ⟨f,#[],#[],hc,hen,fun w args hs hk ha hA=>?_⟩
    exact hrun w _ hA (by simpa using args_nil ha)
  · rename_i f ty z
    obtain ⟨hen,hrun⟩:=closF_run hT h
    obtain ⟨b,rfl,hr⟩:=hc
    refine ⟨f,#[],b,rfl,hen,fun w args hs hk ha hA=>?_⟩
    refine hrun w _ hA ?_
    have h1:=args_nil ha
    have h2:=all2_crep_dcells (cx:=cxOf (limN w) (fun _=>True) w [] []) (rep_nil hk hs hr)
    simpa using all2_append h1 (⟨h2.1,fun i v u hv hu=>trep_of_vrep (vrep_of_crep (h2.2 i v u hv hu))⟩:All2 (trep (cxOf (limN w) (fun _=>True) w [] [])) b.toList (dcells ty z))
  · rename_i f ty z
    obtain ⟨hen,hrun⟩:=closF_run hT h
    obtain ⟨b,rfl,hr,ha1,ha2⟩:=hc
    refine ⟨f,#[b],#[],rfl,hen,fun w args hs hk ha hA=>?_⟩
    refine hrun w _ hA ?_
    have h1:=args_nil ha
    have hTy:TyRep w (imm (limN w) (fun _=>True) w [] []) ty z b:=⟨rep_nil hk hs hr,ha1,ha2⟩
    have h2:All2 (trep (cxOf (limN w) (fun _=>True) w [] [])) [b] [ofTy ty z] := ⟨rfl,fun i v u hv hu=>by
      match i,hv,hu with
      | 0,hv,hu =>
        simp at hv hu
        subst hv; subst hu
        exact trep_of_vrep (vrep_ofTy (cx:=cxOf (limN w) (fun _=>True) w [] []) hTy)⟩
    simpa using all2_append h2 h1
theorem hand_quiet {o:Oper} {c:Call} {f:FuncId} {X:Clos→List Ob→List V→Tr} (hT:∀ f sig,T f=some sig→Con P f sig) (hen:∀ args w,(callFunc f args).run P w=.ok (.enter f args) w) (hcon:ConX P f X) (ho:o.op=.call c) (hf:c.callee=.value (.func f)) {v:V}
    (h:(∀ y,W=some y→y=true)→trOut true (X (closT T) st.ob (c.args.toList.map (ev st s ann)))=some (v,none)):OpSem P o st s W ann v:=by
  intro hW B M w0 w fp a H hann hop K Q hK
  have ha:=call_args ho hann hop
  unfold Oper.wp
  rw [call_run ho hf a w hen]
  refine (hcon.quiet (h hW) (c.args.map a.eval) H (closT_ok hT _) (by simpa using ha)).mono ?_
  rintro e w' ⟨v',rfl,hb,hv⟩
  exact hK v' w' hb hv
theorem hand_chg {o:Oper} {c:Call} {f:FuncId} {X:Clos→List Ob→List V→Tr} (hT:∀ f sig,T f=some sig→Con P f sig) (hen:∀ args w,(callFunc f args).run P w=.ok (.enter f args) w) (hcon:ConX P f X) (ho:o.op=.call c) (hf:c.callee=.value (.func f)) {v:V} {ob':List Ob} {ids:List Nat}
    (h:trOut true (X (closT T) st.ob (c.args.toList.map (ev st s ann)))=some (v,some (ob',ids))):OpChg P o st s ann v (killedL ids { st with ob:=ob' }):=by
  intro B M w0 w fp a H hann hop K Q hK
  have ha:=call_args ho hann hop
  unfold Oper.wp
  rw [call_run ho hf a w hen]
  refine (hcon.chg h (c.args.map a.eval) H (closT_ok hT _) (by simpa using ha)).mono ?_
  rintro e w' ⟨v',fp',rfl,hH,hcr,hv⟩
  exact hK v' w' fp' hH (adv_killL (st1:={ st with ob:=ob' }) rfl hcr) hv
theorem partsQ_rel {w:World} {J:Nat→Prop} {a:Act} {e:Ty}:∀ {ps:List (Nat×Operand)} {j:Nat} {l:List e.den},
    partsQ st e s ann j ps=some l→(∀ p∈ps,known (ev st s ann p.2)=true→(cellsOf (ev st s ann p.2)).any isOwn=false→All2 (prep w J) (a.eval p.2).cells.toList ((cellsOf (ev st s ann p.2)).map (plain st.ob))) →
    l.length=ps.length∧Dense j ps∧∀ i (h:i < l.length) (h':i < ps.length),rep w J e l[i] (a.eval ps[i].2).cells.toList
  | [],j,l,h,_=>by
    simp only [partsQ,Option.some.injEq] at h
    subst h
    exact ⟨rfl,trivial,fun i h=>by simp at h⟩
  | (i0,x) :: r,j,l,h,hp=>by
    simp only [partsQ] at h
    split at h
    · rename_i hij
      split at h
      · rename_i y hm
        split at hm
        · rename_i hk
          simp only [Bool.and_eq_true,Bool.not_eq_true'] at hk
          split at h
          · rename_i l2 hr
            have h:=Option.some.inj h
            subst h
            obtain ⟨h1,h2,h3⟩:=partsQ_rel hr (fun p hp'=>hp p (by simp [hp']))
            refine ⟨by simp [h1],⟨Nat.eq_of_beq_eq_true hij,h2⟩,fun i h h'=>?_⟩
            rcases i with _ | i
            · simpa using ofcells_rel hm (hp (i0,x) (by simp) hk.1 hk.2)
            · simpa using h3 i (by simpa using h) (by simpa using h')
          · cases h
        · cases hm
      · cases h
    · cases h
theorem litQ_op {o:Oper} {t el:TypeId} {ty:Ty} {n:Nat} {ps:Array (Nat×Operand)} {v:V} (ho:o.op=.buildSlice t n ps) (ht:P.underlying t=some (.slice el)) (hz:zeroIs P el ty=true)
    (hn:ps.toList.length=n) (hsz:∀ i,P.info? el=some i→n * i.size≤1000) (h:litQ st ty s ann ps.toList=some v):OpSem P o st s W ann v:=by
  obtain ⟨i,z,hi,hv,hzv,hszt,hsz1,hb1⟩:=zeroIs_spec hz
  have hzs:z.cells.size=i.size:=by
    have:z.cells.toList.length=ty.sz:=by rw [hzv]; exact rep_length (own_rep (I:=fun _=>True) (own_zero default ty) (fun _ _=>trivial))
    rw [hszt,← this]; simp
  intro hW B M w0 w fp a H hann hop K Q hK
  have hops:∀ p∈ps.toList,trep (cxOf B M w st.ob fp) (a.eval p.2) (ev st s ann p.2):=by
    intro p hp
    refine ev_rel (fun t ht=>hop t ?_) hann
    rw [ho,← ht]
    simp only [Op.operands,List.mem_toArray,List.mem_map]
    exact ⟨p,hp,rfl⟩
  have hrun:Dense 0 ps.toList→(∀ v∈ps.toList.map (fun p=>a.eval p.2),v.cells.size=i.size) →
      (execOp a.eval o).run P w=.ok (.value (.slice (some ⟨w.heap.size,0,none⟩) n n)) (w.alloc (.cells ((ps.toList.map (fun p=>a.eval p.2)).flatMap fun v=>v.cells.toList).toArray el)):=by
    intro hd hc
    have:=buildSlice_run (len:=n) ht hi hv hzs hsz1 (by simpa using hn) (hsz i hi) hc (ps:=ps.map fun (i,x)=>(i,a.eval x)) (by
      rw [Array.toList_map]
      exact dense_zip a.eval ps.toList 0 hd) w
    simp only [execOp,ho,Sem.run_bind,this,Result.andThen_ok,Sem.run_pure]
  have hbel:∀ o',Below w.heap.size w (w.alloc o'):=fun o'=>(Below.refl _ _).alloc (Nat.le_refl _) _
  unfold litQ at h
  split at h
  · rename_i hps
    have h:=Option.some.inj h
    subst h
    have hn0:n=0:=by rw [← hn,hps]; rfl
    have hr:=hrun (by rw [hps]; trivial) (by rw [hps]; intro v hv'; simp at hv')
    refine wp_to hr (hK _ _ (hbel _) ?_)
    rw [hn0]
    exact ⟨_,rfl⟩
  · rename_i p0 ps0 hps
    simp only [Option.map_eq_some_iff] at h
    obtain ⟨l,hl,rfl⟩:=h
    rw [← hps] at hl
    obtain ⟨h2,hd,h4⟩:=partsQ_rel (w:=w) (J:=imm B M w st.ob fp) (a:=a) hl (fun p hp hk hno=>all2_map (cells_of_known (hops p hp) hk) (fun x y hy hr=>plain_rel H (fun _ _ h=>h) hr (by
      have hno':=(List.any_eq_false.1 hno) y hy
      cases y<;>first | trivial | simp [isOwn] at hno')))
    have hc:∀ v∈ps.toList.map (fun p=>a.eval p.2),v.cells.size=i.size:=by
      intro v hv'
      obtain ⟨j,hj,rfl⟩:=List.getElem_of_mem hv'
      simp only [List.length_map] at hj
      have:=rep_length (h4 j (by omega) hj)
      simp only [List.getElem_map]
      rw [hszt,← this]
      simp
    have htot:=cells_total hc
    have hlenl:l.length=n:=by omega
    have hr:=hrun hd hc
    generalize hC:((ps.toList.map (fun p=>a.eval p.2)).flatMap fun v=>v.cells.toList).toArray=C at hr
    have hCl:C.toList=(ps.toList.map (fun p=>a.eval p.2)).flatMap fun v=>v.cells.toList:=by rw [← hC]
    have hcsz:C.size=n * ty.sz:=by
      rw [← hC]
      simp only [List.size_toArray,htot,List.length_map,hn,hszt]
    refine wp_to hr (hK _ _ (hbel _) ?_)
    have hnew:(w.alloc (.cells C el)).heap[w.heap.size]?=some (.cells C el (0,0)):=by
      show (w.heap.push _)[w.heap.size]?=_
      simp
    have hlt:w.heap.size < (w.alloc (.cells C el)).heap.size:=by
      show _ < (w.heap.push _).size
      simp
    show rep _ _ (.slice ty) l [_]
    refine ⟨some ⟨w.heap.size,0,none⟩,n,by rw [hlenl],by omega,fun j hj=>?_⟩
    have hj':j < ps.toList.length:=by omega
    have hcut:cut C.toList (j * ty.sz) ty.sz=(a.eval ps.toList[j].2).cells.toList:=by
      have:=flat_cut ((ps.toList.map (fun p=>a.eval p.2)).map fun v=>v.cells.toList) (s:=ty.sz) (by
        intro q hq
        obtain ⟨v,hv',rfl⟩:=List.mem_map.1 hq
        rw [← hszt,← hc v hv']
        simp) j (by simp; omega)
      rw [hCl]
      simp only [List.flatMap_def]
      rw [this]
      simp
    refine ⟨⟨w.heap.size,0,none⟩,cut C.toList (j * ty.sz) ty.sz,rfl,rfl,imm_new H (hbel _) (Nat.le_refl _) hlt,?_,?_⟩
    · show Mem _ _ (0 + j * ty.sz) _
      rw [Nat.zero_add]
      refine mem_of_getElem?' hnew ?_
      rw [hcsz]
      have h5:(j + 1) * ty.sz≤n * ty.sz:=Nat.mul_le_mul_right _ (by omega)
      rw [Nat.succ_mul] at h5
      exact h5
    · rw [hcut]
      exact rep_keep (Ext.of_below (hbel _)).keep (h4 j hj hj')
theorem sameL_eq:∀ {l m:List TypeId},sameL l m=true→l=m
  | [],[],_=>rfl
  | a :: l,b :: m,h=>by
    simp only [sameL,Bool.and_eq_true] at h
    rw [Nat.eq_of_beq_eq_true h.1,sameL_eq h.2]
  | [],_ :: _,h=>by cases h
  | _ :: _,[],h=>by cases h
theorem tabOk_at {ks:List TypeId}:∀ {cs:List V} {g:Int} {i:Nat} {u:V},tabOk ks g cs=true→cs[i]?=some u→u=.ifc ks .unit (g + i) ()
  | [],_,_,_,_,h=>by simp at h
  | v :: r,g,i,u,h,hu=>by
    simp only [tabOk,Bool.and_eq_true] at h
    obtain ⟨h1,h2⟩:=h
    cases i with
    | zero =>
      simp at hu
      subst hu
      split at h1
      case h_2=>cases h1
      simp only [Bool.and_eq_true,beq_iff_eq] at h1
      rw [sameL_eq h1.1,h1.2]
      simp
    | succ i =>
      have:=tabOk_at (i:=i) h2 (by simpa using hu)
      rw [this]
      congr 1
      push_cast
      omega
theorem tab_op {o:Oper} {t e:TypeId} {n:Nat} {ti:TypeInfo} {x y:Operand} {k:V→Option R} {r:R} (ho:o.op=.index t x y) (ht:P.underlying t=some (.array n e)) (hag:aggT P e=some false) (hi:P.info? e=some ti) (hsz:Nat.beq ti.size 1=true)
    (h:tabIdx W n (ev st s ann x) (ev st s ann y) k=some r):∃ v,k v=some r∧OpSem P o st s W ann v:=by
  unfold tabIdx at h
  split at h
  case h_2=>cases h
  rename_i cs ik i hx hy
  unfold tabIdxI at h
  split at h
  case h_2=>cases h
  rename_i ks g0 u0 r0
  split at h
  case isFalse=>cases h
  rename_i hc
  simp only [Bool.and_eq_true] at hc
  obtain ⟨hk,hchk⟩:=chk_some h
  refine ⟨_,hk,OpSem.of_run fun hW B M w0 w fp a H hann hop=>?_⟩
  have hb:=of_decide_eq_true (hchk hW)
  have hv:=hop y (by simp [ho,Op.operands])
  have hvx:=hop x (by simp [ho,Op.operands])
  rw [hy] at hv
  rw [hx] at hvx
  obtain ⟨vs,hvs,ha⟩:=hvx
  have hlen:vs.toList.length=n:=by rw [ha.1]; exact Nat.eq_of_beq_eq_true hc.2
  have hlt:i.toNat < vs.toList.length:=by omega
  have h1:vs.toList[i.toNat]?=some vs.toList[i.toNat] := List.getElem?_eq_getElem hlt
  have h2:(V.ifc ks .unit g0 u0 :: r0)[i.toNat]?=some (.ifc ks .unit (-1 + (i.toNat:Int)) ()):=by
    have hlt2:i.toNat < (V.ifc ks .unit g0 u0 :: r0).length:=by rw [← ha.1]; exact hlt
    rw [List.getElem?_eq_getElem hlt2]
    exact congrArg some (tabOk_at hc.1 (List.getElem?_eq_getElem hlt2))
  have hcr:=ha.2 _ _ _ h1 h2
  have e1:(-1 + (i.toNat:Int))=i - 1:=by omega
  rw [e1] at hcr
  refine ⟨vs.toList[i.toNat],?_,trep_of_vrep (vrep_of_crep hcr)⟩
  have h3:vs[i.toNat]?=some vs.toList[i.toNat] := by rw [← h1]; simp
  have hp:=part_run (P:=P) (w:=w) hag h3
  have hone:ti.size=1:=Nat.eq_of_beq_eq_true hsz
  simp only [execOp,ho,Instr.index,crep_int hv,hvs,asIntOf,Sem.run_bind,Sem.run_pure,Result.andThen_ok,run_underlying ht]
  rw [if_pos (by omega)]
  simp only [Sem.run_bind,sizeOf_run hi,Result.andThen_ok,hone,Nat.mul_one,hp]
end
end Go.Vm

namespace Go.Vm
variable [Amb]
open Go.RowKit (Below)
def TmOk (st st':St):Prop:=st'.dn=st.dn∧∀ (t s tj:Nat) (w:Bool) (u:V),look t st'.tm=.g s tj w u→∃ u',look t st.tm=.g s tj w u'
theorem TmOk.refl (st:St):TmOk st st:=⟨rfl,fun _ _ _ _ u h=>⟨u,h⟩⟩
theorem TmOk.of_eq {st st':St} (h:st'.tm=st.tm) (hd:st'.dn=st.dn):TmOk st st':=⟨hd,fun _ _ _ _ u hu=>⟨u,by rw [← h]; exact hu⟩⟩
theorem TmOk.kill {st st1:St} (h:st1.tm=st.tm) (hd:st1.dn=st.dn) (id:Nat):TmOk st (killed id st1):=by
  refine ⟨hd,fun t s tj w u hu=>?_⟩
  have e:look t (killed id st1).tm=killSub id (look t st1.tm):=look_map (f:=killSub id) rfl t st1.tm
  rw [e,h] at hu
  cases hl:look t st.tm with
  | g s' tj' w' u' =>
    rw [hl] at hu
    simp only [killSub] at hu
    cases hu
    exact ⟨u',rfl⟩
  | sub k i j =>
    rw [hl] at hu
    simp only [killSub,killT,killA,kill1] at hu
    split at hu<;>cases hu
  | _=>rw [hl] at hu; simp [killSub,killT,killA,kill1] at hu
theorem TmOk.killL {st st1:St} (h:st1.tm=st.tm) (hd:st1.dn=st.dn) (ids:List Nat):TmOk st (killedL ids st1):=by
  refine ⟨hd,fun t s tj w u hu=>?_⟩
  have e:look t (killedL ids st1).tm=killLSub ids (look t st1.tm):=look_map (f:=killLSub ids) rfl t st1.tm
  rw [e,h] at hu
  cases hl:look t st.tm with
  | g s' tj' w' u' =>
    rw [hl] at hu
    simp only [killLSub] at hu
    cases hu
    exact ⟨u',rfl⟩
  | sub k i j =>
    rw [hl] at hu
    simp only [killLSub,killLT,killLA,killL1] at hu
    split at hu<;>cases hu
  | _=>rw [hl] at hu; simp [killLSub,killLT,killLA,killL1] at hu
section
variable {P:Program} {st:St} {s:Nat} {W:Option Bool} {ann:List (Nat×Bool)} {R:Type} {T:FuncId→Option Sig}
theorem store_tm {t:TypeId} {p x:V} {st':St} (h:store P st t p x=some st'):TmOk st st':=by
  unfold store at h
  split at h
  case h_2=>cases h
  split at h
  case isFalse=>cases h
  split at h
  · split at h
    · have h:=Option.some.inj h; subst h; exact TmOk.of_eq rfl rfl
    · cases h
  · split at h
    · split at h
      · have h:=Option.some.inj h; subst h; exact TmOk.kill rfl rfl _
      · cases h
    · cases h
  · split at h
    · split at h
      · split at h
        · have h:=Option.some.inj h; subst h; exact TmOk.kill rfl rfl _
        · cases h
      · cases h
    · split at h
      · split at h
        · split at h
          · have h:=Option.some.inj h; subst h; exact TmOk.kill rfl rfl _
          · cases h
        · cases h
      · cases h
  · cases h
theorem storeP_tm {t:TypeId} {p x:V} {c:Bool} {st':St} (h:storeP P st t p x=some (c,st')):TmOk st st':=by
  unfold storeP at h
  split at h
  case h_2=>cases h
  split at h
  case isFalse=>cases h
  split at h
  case h_2=>cases h
  split at h
  case isFalse=>cases h
  split at h
  case h_2=>cases h
  simp only [Option.some.injEq,Prod.mk.injEq] at h
  obtain ⟨_,rfl⟩:=h
  exact TmOk.kill rfl rfl _
def Step (P:Program) (o:Oper) (st:St) (s:Nat) (W:Option Bool) (ann:List (Nat×Bool)) {R:Type} (k:V→St→Option R) (r:R):Prop :=
  ∃ v st',k v st'=some r∧TmOk st st'∧(W=none→OpChg P o st s ann v st')∧(W≠none→st'=st∧OpSem P o st s W ann v)
theorem Step.quiet {o:Oper} {k:V→St→Option R} {r:R} {v:V} (h:k v st=some r) (hs:OpSem P o st s W ann v):Step P o st s W ann k r :=
  ⟨v,st,h,TmOk.refl st,fun hW=>by subst hW; exact hs.chg,fun _=>⟨rfl,hs⟩⟩
theorem Step.quiet' {o:Oper} {k:V→St→Option R} {r:R} (h:∃ v,k v st=some r∧OpSem P o st s W ann v):Step P o st s W ann k r:=by
  obtain ⟨v,h1,h2⟩:=h
  exact .quiet h1 h2
theorem Step.chg {o:Oper} {k:V→St→Option R} {r:R} {v:V} {st':St} (hW:W=none) (h:k v st'=some r) (ht:TmOk st st') (hs:OpChg P o st s ann v st'):Step P o st s W ann k r :=
  ⟨v,st',h,ht,fun _=>hs,fun hn=>absurd hW hn⟩
theorem len_op {o:Oper} {c:Call} {x:Operand} {t:TypeId} {v:V} (ho:o.op=.call c) (hc:c.callee=.builtin .len) (ha:c.args.toList=[x]) (hty:c.argTypes.toList=[t]) (h:lenT (P.underlying t) (plain st.ob (ev st s ann x))=some v):OpSem P o st s W ann v:=by
  have h1:c.args=#[x] := by rw [← Array.toList_inj]; exact ha
  have h2:c.argTypes=#[t] := by rw [← Array.toList_inj]; exact hty
  refine OpSem.of_run fun hW B M w0 w fp a H hann hop=>?_
  obtain ⟨v',hr,hv⟩:=lenT_sound h H (hop x (by simp [ho,Op.operands,Call.operands,h1])) o.type
  refine ⟨v',?_,hv⟩
  simp only [execOp,ho,Sem.run_bind,resolve,hc,Sem.run_pure,Result.andThen_ok,invoke,builtin,h1,h2]
  have:Array.map a.eval #[x]=#[a.eval x] := by simp
  rw [this,hr]
  rfl
theorem fieldAddr_op2 {o:Oper} {t:TypeId} {x:Operand} {f off n:Nat} {ag:Bool} {e:Ty} {p:Option e.den} (ho:o.op=.fieldAddr t x f) (hf:fieldOf P t f=some (off,n,ag)) (hx:ev st s ann x=.d (.ptr e) p) (h2:(∀ w,W=some w→w=true)→p.isSome=true):OpSem P o st s W ann (.rp e (p.getD e.zero) off):=by
  refine OpSem.of_run fun hW B M w0 w fp a H hann hop=>?_
  obtain ⟨fs,q,i,hu,hq,hag,hi,hn,hn0,rfl⟩:=fieldOf_eq hf
  have hv:=hop x (by simp [ho,Op.operands])
  rw [hx] at hv
  have hs:=h2 hW
  cases p with
  | none=>cases hs
  | some y =>
    obtain ⟨ad,vs,he,hsp,hI,hm,hr⟩:rep w (imm B M w st.ob fp) (.ptr e) (some y) [a.eval x] := hv
    simp at he
    have hsz:¬ i.size=0:=by omega
    refine ⟨_,?_,ad,vs,rfl,hsp,hI,hm,hr⟩
    simp [execOp,ho,Instr.fieldAt,run_underlying hu,hq,he,Instr.sureAddr,fieldPlace,sizeOf_run hi,hsz]
theorem nilCheck_op2 {o:Oper} {x:Operand} {v0 v1:V} (ho:o.op=.nilCheck x) (hx:ev st s ann x=v0) (h:∀ {B:Lim} {M:Nat→Prop} {w:World} {fp:List (List Nat)} (u:Value),(∀ y,W=some y→y=true)→trep (cxOf B M w st.ob fp) u v0→∃ ad:Addr,u=.pointer (some ad)∧trep (cxOf B M w st.ob fp) u v1):OpSem P o st s W ann v1:=by
  refine OpSem.of_run fun hW B M w0 w fp a H hann hop=>?_
  have hv:=hop x (by simp [ho,Op.operands])
  rw [hx] at hv
  obtain ⟨ad,he,hr⟩:=h _ hW hv
  refine ⟨a.eval x,?_,hr⟩
  simp [execOp,ho,he]
theorem mm_op {o:Oper} {c:Call} {x y:Operand} {v:V} {mx:Bool} (ho:o.op=.call c) (hc:c.callee=.builtin (if mx=true then .max else .min)) (ha:c.args.toList=[x,y]) (h:mmI mx (ev st s ann x) (ev st s ann y)=some v):OpSem P o st s W ann v:=by
  have h1:c.args=#[x,y] := by rw [← Array.toList_inj]; exact ha
  refine OpSem.of_run fun hW B M w0 w fp a H hann hop=>?_
  have hvx:=hop x (by simp [ho,Op.operands,Call.operands,h1])
  have hvy:=hop y (by simp [ho,Op.operands,Call.operands,h1])
  unfold mmI at h
  split at h
  · rename_i k1 n k2 m hx hy
    have h:=Option.some.inj h
    subst h
    rw [hx] at hvx
    rw [hy] at hvy
    have e1:=crep_int hvx
    have e2:=crep_int hvy
    refine ⟨_,?_,trep_int⟩
    have:Array.map a.eval #[x,y]=#[a.eval x,a.eval y] := by simp
    cases mx with
    | true =>
      simp only [if_true] at hc
      simp [execOp,ho,resolve,hc,invoke,builtin,h1,e1,e2,Builtin.max_,Builtin.max2]
    | false =>
      simp only [Bool.false_eq_true,if_false] at hc
      simp [execOp,ho,resolve,hc,invoke,builtin,h1,e1,e2,Builtin.min_,Builtin.min2]
  · cases h
theorem sliceBound_run {P:Program} {w:World} {k:IntKind} {i:Int} {y:Nat} {code:BoundsCode} (h0:0≤i) (h1:i≤y):(Instr.sliceBound (.int k i) y code).run P w=.ok i.toNat w:=by
  simp [Instr.sliceBound,asIntOf,h0,h1]
theorem slice_op {o:Oper} {t:TypeId} {x:Operand} {lo hi:Option Operand} {k:V→Option R} {r:R} (ho:o.op=.slice t x lo hi none)
    (h:sliceV st.ob (P.underlying t) W (fun e n=>match P.info? e with | some i=>Nat.beq i.size n | none=>false) (ev st s ann x) (lo.map (ev st s ann)) (hi.map (ev st s ann)) k=some r):∃ v,k v=some r∧OpSem P o st s W ann v:=by
  have bnd:∀ {l u:Int} {z0 z1:Int} (a:Act) {cx:Cx} (c:Nat) (b:Bool) (w:World),intOf z0 (lo.map (ev st s ann))=some l→intOf z1 (hi.map (ev st s ann))=some u→z0=0→0≤l→l≤u→u≤z1→z1≤c →
      (∀ x,x∈o.op.operands→trep cx (a.eval x) (ev st s ann x))→(Instr.sliceBounds b z1.toNat c (lo.map a.eval) (hi.map a.eval) none).run P w=.ok (l.toNat,u.toNat,c) w:=by
    intro l u z0 z1 a cx c b w hl hh hz h0 h1 h2 h3 hop
    have hlv:∀ y,lo=some y→∃ kd,a.eval y=.int kd l:=by
      rintro y rfl
      have hv:=hop y (by simp [ho,Op.operands])
      simp only [Option.map_some] at hl
      cases he:ev st s ann y with
      | d ty n =>
        rw [he] at hl hv
        cases ty<;>simp [intOf] at hl
        subst hl
        exact ⟨_,crep_int hv⟩
      | _=>rw [he] at hl; simp [intOf] at hl
    have hhv:∀ y,hi=some y→∃ kd,a.eval y=.int kd u:=by
      rintro y rfl
      have hv:=hop y (by simp [ho,Op.operands])
      simp only [Option.map_some] at hh
      cases he:ev st s ann y with
      | d ty n =>
        rw [he] at hh hv
        cases ty<;>simp [intOf] at hh
        subst hh
        exact ⟨_,crep_int hv⟩
      | _=>rw [he] at hh; simp [intOf] at hh
    cases lo with
    | none =>
      simp only [Option.map_none,intOf,Option.some.injEq] at hl
      subst hl
      subst hz
      cases hi with
      | none =>
        simp only [Option.map_none,intOf,Option.some.injEq] at hh
        subst hh
        simp [Instr.sliceBounds]
      | some y =>
        obtain ⟨kd,e⟩:=hhv y rfl
        simp [Instr.sliceBounds,e,sliceBound_run (k:=kd) (i:=u) (y:=c) (by omega) (by omega)]
    | some z =>
      obtain ⟨kd,e⟩:=hlv z rfl
      cases hi with
      | none =>
        simp only [Option.map_none,intOf,Option.some.injEq] at hh
        subst hh
        simp [Instr.sliceBounds,e,sliceBound_run (k:=kd) (i:=l) (y:=z1.toNat) (by omega) (by omega)]
      | some y =>
        obtain ⟨kd2,e2⟩:=hhv y rfl
        simp [Instr.sliceBounds,e,e2,sliceBound_run (k:=kd2) (i:=u) (y:=c) (by omega) (by omega),sliceBound_run (k:=kd) (i:=l) (y:=u.toNat) (by omega) (by omega)]
  unfold sliceV at h
  split at h
  · rename_i sx hu hx
    split at h
    · rename_i l hh hl hhi
      obtain ⟨h1,h2⟩:=chk_some h
      refine ⟨_,h1,OpSem.of_run fun hW B M w0 w fp a H hann hop=>?_⟩
      have hb:=h2 hW
      simp only [decide_eq_true_eq] at hb
      have hv:=hop x (by simp [ho,Op.operands])
      rw [hx] at hv
      have e:=crep_str hv
      refine ⟨_,?_,trep_str⟩
      have hr:=bnd (cx:=cxOf B M w st.ob fp) a (ByteArray.size sx) false w hl hhi rfl hb.1 hb.2.1 hb.2.2 (Int.le_refl _) hop
      simp only [Int.toNat_natCast] at hr
      simp [execOp,ho,Instr.sliceAt,Instr.slice,run_underlying hu,e,hr]
    · cases h
  · rename_i e ty sx hu hx
    split at h
    · rename_i hz
      split at h
      · rename_i l hh hl hhi
        obtain ⟨h1,h2⟩:=chk_some h
        refine ⟨_,h1,OpSem.of_run fun hW B M w0 w fp a H hann hop=>?_⟩
        have hb:=h2 hW
        simp only [decide_eq_true_eq] at hb
        have hv:=hop x (by simp [ho,Op.operands])
        rw [hx] at hv
        obtain ⟨A,c,ex,hc,hel⟩:=crep_slice hv
        have hr:=bnd (cx:=cxOf B M w st.ob fp) a c true w hl hhi rfl hb.1 hb.2.1 hb.2.2 (by omega) hop
        simp only [Int.toNat_natCast] at hr
        simp only at hz
        split at hz
        case h_2=>cases hz
        rename_i ti hti
        have hz:=Nat.eq_of_beq_eq_true hz
        refine ⟨_,by simp [execOp,ho,Instr.sliceAt,Instr.slice,run_underlying hu,ex,hr,sizeOf_run hti]; rfl,?_⟩
        have hlen:(cut sx l.toNat (hh.toNat - l.toNat)).length=hh.toNat - l.toNat:=cut_length (by omega)
        show rep w _ (.slice ty) (cut sx l.toNat (hh.toNat - l.toNat)) [_]
        refine ⟨_,_,by rw [hlen],by omega,fun i hi=>?_⟩
        rw [hlen] at hi
        obtain ⟨ad,vs,hA,hs,hI,hm,hre⟩:=hel (l.toNat + i) (by omega)
        have hget:(cut sx l.toNat (hh.toNat - l.toNat))[i]'(by rw [hlen]; exact hi)=sx[l.toNat + i]'(by omega):=by
          have:=cut_get (l:=sx) (o:=l.toNat) (n:=hh.toNat - l.toNat) hi
          rw [List.getElem?_eq_getElem (by rw [hlen]; exact hi),List.getElem?_eq_getElem (by omega)] at this
          exact Option.some.inj this
        rw [hget,hA]
        have hne:¬ c=l.toNat:=by omega
        rw [if_neg hne]
        refine ⟨ad.add (l.toNat * ti.size),vs,rfl,?_,?_,?_,hre⟩
        · unfold Addr.add; split<;>first | exact hs | rfl
        · have:(ad.add (l.toNat * ti.size)).block=ad.block:=by unfold Addr.add; split<;>rfl
          rw [this]
          exact hI
        · have e1:(ad.add (l.toNat * ti.size)).block=ad.block:=by unfold Addr.add; split<;>rfl
          have e2:(ad.add (l.toNat * ti.size)).off=ad.off + l.toNat * ty.sz:=by
            rw [← hz]
            unfold Addr.add
            split
            · rename_i h0; rw [h0]; rfl
            · rfl
          rw [e1,e2]
          have:ad.off + l.toNat * ty.sz + i * ty.sz=ad.off + (l.toNat + i) * ty.sz:=by rw [Nat.add_mul]; omega
          rw [this]
          exact hm
      · cases h
    · cases h
  · rename_i e id hu hx
    rw [getAt_eq] at h
    split at h
    case h_2=>cases h
    rename_i dp ty sx hob
    split at h
    case isFalse=>cases h
    rename_i hz
    simp only [Bool.and_eq_true] at hz
    obtain ⟨hz,_⟩:=hz
    split at h
    case h_2=>cases h
    rename_i l hh hl hhi
    obtain ⟨h1,h2⟩:=chk_some h
    refine ⟨_,h1,OpSem.of_run fun hW B M w0 w fp a H hann hop=>?_⟩
    have hb:=h2 hW
    simp only [decide_eq_true_eq] at hb
    have hv:=hop x (by simp [ho,Op.operands])
    rw [hx] at hv
    obtain ⟨bs,hf,hhd⟩:=crep_own_row hv hob
    obtain ⟨A,c,ex,hc,hA⟩:∃ A c,a.eval x=.slice A sx.length c∧sx.length≤c∧(0 < sx.length→∃ b rest,bs=b :: rest∧A=some ⟨b,0,none⟩):=by
      cases bs with
      | nil =>
        obtain ⟨g1,g2⟩:=hhd
        subst g1
        exact ⟨g2.choose,0,g2.choose_spec,Nat.le_refl _,fun h=>absurd h (by simp)⟩
      | cons b rest =>
        obtain ⟨c,T,cap,_,g2,g3,_⟩:=hhd
        exact ⟨_,cap,g2,g3.1,fun _=>⟨b,rest,rfl,rfl⟩⟩
    have hr:=bnd (cx:=cxOf B M w st.ob fp) a c true w hl hhi rfl hb.1 hb.2.1 hb.2.2 (by omega) hop
    simp only [Int.toNat_natCast] at hr
    split at hz
    case h_2=>cases hz
    rename_i ti hti
    have hz:=Nat.eq_of_beq_eq_true hz
    refine ⟨_,by simp [execOp,ho,Instr.sliceAt,Instr.slice,run_underlying hu,ex,hr,sizeOf_run hti]; rfl,?_⟩
    refine ⟨_,bs,hob,hf,by omega,by omega,_,_,rfl,by omega,fun hlt=>?_⟩
    obtain ⟨b,rest,hbs,rfl⟩:=hA (by omega)
    refine ⟨b,rest,hbs,?_⟩
    have hne:¬ c=l.toNat:=by omega
    rw [← hz]
    simp only [Option.map_some,if_neg hne]
    unfold Addr.add
    split
    · rename_i h0; rw [h0]
    · simp
  · cases h
theorem pack_rep {w:World} {J:Nat→Prop}:∀ {ts:List Ty} {x:Tup ts} {vs:List Value},ts.all (fun t=>!t.isAgg)=true→TupRep w J ts x vs→rep w J (rowT ts) (packT ts x) vs
  | [],_,_,_,h=>h
  | t :: ts,x,_,hf,h=>by
    obtain ⟨v,r,rfl,h1,h2⟩:=h
    simp only [List.all_cons,Bool.and_eq_true,Bool.not_eq_true'] at hf
    refine ⟨[v],r,rfl,?_,pack_rep hf.2 h2⟩
    have h3:=h1.2.2 hf.1
    have h4:=h1.1
    cases v<;>first | exact h4 | exact h3.elim
theorem capB_rel {cx:Cx} {b:Array Value} {ids:List Nat} (h:CapB cx b ids) (hb:ids.all (isBoxB cx.ob)=true):All2 (trep cx) b.toList (ids.map fun id=>.pt id 0 0):=by
  refine ⟨by simpa using h.1,fun i v u hv hu=>?_⟩
  rw [List.getElem?_map,Option.map_eq_some_iff] at hu
  obtain ⟨id,hid,rfl⟩:=hu
  obtain ⟨o,bs,ho,hf,hp⟩:=h.2 i v id (by simpa using hv) hid
  have hbx:=List.all_eq_true.1 hb id (List.mem_of_getElem? hid)
  unfold isBoxB at hbx
  rw [getAt_eq,ho] at hbx
  refine ⟨o,bs,ho,hf,?_⟩
  cases o with
  | box us=>exact ⟨rfl,hp⟩
  | fbox us=>exact ⟨rfl,hp⟩
  | _=>cases hbx
theorem boxIds_rel {cx:Cx}:∀ {us:List V} {ids:List Nat} {vs:List Value},boxIds cx.ob us=some ids→All2 (trep cx) vs us→vs.length=ids.length∧∀ (i:Nat) (c:Value) (id:Nat),vs[i]?=some c→ids[i]?=some id→PtB cx c id
  | [],ids,vs,h,ha=>by
    cases h
    have h1:vs=[] := by simpa using ha.1
    subst h1
    exact ⟨rfl,fun i c id hc _=>by simp at hc⟩
  | u :: us,ids,[],h,ha=>absurd ha.1 (by simp)
  | u :: us,ids,v :: vs,h,ha=>by
    unfold boxIds at h
    split at h
    · rename_i he
      cases he
    · rename_i id r he
      cases he
      split at h
      case isFalse=>cases h
      rename_i hbx
      rw [Option.map_eq_some_iff] at h
      obtain ⟨ids',h1,rfl⟩:=h
      obtain ⟨hv,hr⟩:=all2_split ha
      obtain ⟨h2,h3⟩:=boxIds_rel h1 hr
      refine ⟨by simp [h2],fun i c id' hc hi=>?_⟩
      cases i with
      | zero =>
        simp at hc hi
        subst hc
        subst hi
        obtain ⟨o,bs,ho,hf,hp⟩:crep cx v (.pt id 0 0):=hv
        unfold isBoxB at hbx
        rw [getAt_eq,ho] at hbx
        refine ⟨o,bs,ho,hf,?_⟩
        cases o with
        | box us=>exact hp.2
        | fbox us=>exact hp.2
        | _=>cases hbx
      | succ i=>exact h3 i c id' (by simpa using hc) (by simpa using hi)
    · cases h
theorem callC_quiet (hT:∀ f sig,T f=some sig→Con P f sig) {o:Oper} {c:Call} {t:Tmp} {k:V→St→Option R} {r:R} (ho:o.op=.call c) (hf:c.callee=.value (.tmp t))
    (h:callC T st W (ev st s ann (.tmp t)) (c.args.toList.map (ev st s ann)) k=some r):∃ v,k v st=some r∧OpSem P o st s W ann v:=by
  unfold callC at h
  split at h
  case h_4=>cases h
  · rename_i f ty x hcl
    split at h
    case h_2=>cases h
    rename_i sig hsig
    have hcon:=hT f sig hsig
    split at h
    case isFalse=>cases h
    rename_i hc
    simp only [Bool.and_eq_true,Option.isNone_iff_eq_none,Bool.not_eq_true'] at hc
    obtain ⟨⟨hw,hfr⟩,hfl⟩:=hc
    split at h
    case h_2=>cases h
    rename_i z hz
    simp only [Option.bind_eq_some_iff] at h
    obtain ⟨y,hy,hk⟩:=h
    refine ⟨_,hk,fun hW B M w0 w fp a H hann hop K Q hK=>?_⟩
    have hF:sig.F z=some y:=by
      cases W with
      | none=>exact hy
      | some b=>have:=hW b rfl; subst this; simpa using hy
    have hargs:=call_args ho hann hop
    have hcv:trep (cxOf B M w st.ob fp) (a.eval (.tmp t)) (ev st s ann (.tmp t)):=ev_rel (fun t' ht=>hop t' (by rw [ho,← ht]; simp [Op.operands,Call.operands,hf])) hann
    rw [hcl] at hcv
    obtain ⟨b,hb,hr,ha1,ha2⟩:=hcv
    have hTy:TyRep w (imm B M w st.ob fp) ty x b:=⟨hr,ha1,ha2⟩
    have hall:All2 (trep (cxOf B M w st.ob fp)) (b :: c.args.toList.map a.eval) (ofTy ty x :: c.args.toList.map (ev st s ann)):=by
      refine ⟨by simp [hargs.1],fun i v u hv hu=>?_⟩
      cases i with
      | zero=>simp at hv hu; subst hv; subst hu; exact trep_of_vrep (vrep_ofTy hTy)
      | succ i=>exact hargs.2 i v u (by simpa using hv) (by simpa using hu)
    have hrun:(execOp a.eval o).run P w=.ok (.enter f (#[b]++c.args.map a.eval)) w:=by
      simp only [execOp,ho,resolve,hf,hb,Deferred.ofValue,Sem.run_bind,Sem.run_pure,Result.andThen_ok,invoke]
      rw [hcon.enters]
      congr 2
    unfold Oper.wp
    rw [hrun]
    have:=hcon.run hw (fun _=>True) z y w (#[b]++c.args.map a.eval) hF (by
      have:=asTup_rel (J:=fun _=>True) H (fun _ _ _=>trivial) hz hall (fun u _=>cov_all _ u)
      simpa using this) H.am
    refine this.mono ?_
    rintro e w' ⟨vs,rfl,hbel,hres⟩
    rw [hfr] at hres
    simp only [Bool.false_eq_true,if_false] at hres
    exact hK _ w' hbel (trep_tupOf (all2_ofTup (hres.flat hfl)))
  · rename_i f ty x hcl
    split at h
    case h_2=>cases h
    rename_i sig hsig
    have hcon:=hT f sig hsig
    split at h
    case isFalse=>cases h
    rename_i hc
    simp only [Bool.and_eq_true,Option.isNone_iff_eq_none,Bool.not_eq_true'] at hc
    obtain ⟨⟨hw,hfr⟩,hfl⟩:=hc
    split at h
    case h_2=>cases h
    rename_i z hz
    simp only [Option.bind_eq_some_iff] at h
    obtain ⟨y,hy,hk⟩:=h
    refine ⟨_,hk,fun hW B M w0 w fp a H hann hop K Q hK=>?_⟩
    have hF:sig.F z=some y:=by
      cases W with
      | none=>exact hy
      | some b=>have:=hW b rfl; subst this; simpa using hy
    have hargs:=call_args ho hann hop
    have hcv:trep (cxOf B M w st.ob fp) (a.eval (.tmp t)) (ev st s ann (.tmp t)):=ev_rel (fun t' ht=>hop t' (by rw [ho,← ht]; simp [Op.operands,Call.operands,hf])) hann
    rw [hcl] at hcv
    obtain ⟨b,hb,hr⟩:=hcv
    have hall:All2 (trep (cxOf B M w st.ob fp)) (c.args.toList.map a.eval++b.toList) (c.args.toList.map (ev st s ann)++dcells ty x):=all2_append hargs (rep_cells hr)
    have hrun:(execOp a.eval o).run P w=.ok (.enter f (c.args.map a.eval++b)) w:=by
      simp only [execOp,ho,resolve,hf,hb,Deferred.ofValue,Sem.run_bind,Sem.run_pure,Result.andThen_ok,invoke]
      rw [hcon.enters]
      congr 2
      simp
    unfold Oper.wp
    rw [hrun]
    have:=hcon.run hw (fun _=>True) z y w (c.args.map a.eval++b) hF (by
      have:=asTup_rel (J:=fun _=>True) H (fun _ _ _=>trivial) hz hall (fun u _=>cov_all _ u)
      simpa using this) H.am
    refine this.mono ?_
    rintro e w' ⟨vs,rfl,hbel,hres⟩
    rw [hfr] at hres
    simp only [Bool.false_eq_true,if_false] at hres
    exact hK _ w' hbel (trep_tupOf (all2_ofTup (hres.flat hfl)))
  · rename_i f ids hcl
    split at h
    case h_2=>cases h
    rename_i sig hsig
    have hcon:=hT f sig hsig
    split at h
    case isFalse=>cases h
    rename_i hc
    simp only [Bool.and_eq_true,Option.isNone_iff_eq_none,Bool.not_eq_true'] at hc
    obtain ⟨⟨⟨hw,hfr⟩,hfl⟩,hbx⟩:=hc
    split at h
    case h_2=>cases h
    rename_i z hz
    simp only [Option.bind_eq_some_iff] at h
    obtain ⟨y,hy,hk⟩:=h
    refine ⟨_,hk,fun hW B M w0 w fp a H hann hop K Q hK=>?_⟩
    have hF:sig.F z=some y:=by
      cases W with
      | none=>exact hy
      | some b=>have:=hW b rfl; subst this; simpa using hy
    have hargs:=call_args ho hann hop
    have hcv:trep (cxOf B M w st.ob fp) (a.eval (.tmp t)) (ev st s ann (.tmp t)):=ev_rel (fun t' ht=>hop t' (by rw [ho,← ht]; simp [Op.operands,Call.operands,hf])) hann
    rw [hcl] at hcv
    obtain ⟨b,hb,hcap⟩:∃ b,a.eval (.tmp t)=.func (.func f) #[] b∧CapB (cxOf B M w st.ob fp) b ids:=hcv
    have hall:All2 (trep (cxOf B M w st.ob fp)) (c.args.toList.map a.eval++b.toList) (c.args.toList.map (ev st s ann)++ids.map fun id=>.pt id 0 0):=all2_append hargs (capB_rel hcap hbx)
    have hrun:(execOp a.eval o).run P w=.ok (.enter f (c.args.map a.eval++b)) w:=by
      simp only [execOp,ho,resolve,hf,hb,Deferred.ofValue,Sem.run_bind,Sem.run_pure,Result.andThen_ok,invoke]
      rw [hcon.enters]
      congr 2
      simp
    unfold Oper.wp
    rw [hrun]
    have:=hcon.run hw (fun _=>True) z y w (c.args.map a.eval++b) hF (by
      have:=asTup_rel (J:=fun _=>True) H (fun _ _ _=>trivial) hz hall (fun u _=>cov_all _ u)
      simpa using this) H.am
    refine this.mono ?_
    rintro e w' ⟨vs,rfl,hbel,hres⟩
    rw [hfr] at hres
    simp only [Bool.false_eq_true,if_false] at hres
    exact hK _ w' hbel (trep_tupOf (all2_ofTup (hres.flat hfl)))
theorem ifc_op {o:Oper} {t:TypeId} {x:Operand} {v:V} (ho:o.op=.makeInterface t x) (h:mkIfc P st.ob t (ev st s ann x)=some v):OpSem P o st s W ann v:=by
  unfold mkIfc at h
  split at h
  case h_2=>cases h
  rename_i e hu
  split at h
  case h_2=>cases h
  rename_i ty hty
  split at h
  case h_2=>cases h
  rename_i id i off hx
  split at h
  case isFalse=>cases h
  rename_i hpt
  split at h
  case h_2=>cases h
  rename_i us hus
  simp only [Option.map_eq_some_iff] at h
  obtain ⟨y,hy,rfl⟩:=h
  refine OpSem.of_run fun hW B M w0 w fp a H hann hop=>?_
  have hv:=hop x (by simp [ho,Op.operands])
  rw [hx] at hv
  have hcov:cov (cxOf B M w st.ob fp) (imm B M w st.ob fp) (.pt id i off):=isOwn_cov' (by simp only [cxOf]; rw [hpt]; simp [isPt])
  obtain ⟨ad,vs,he,hs,hJa,hm,ha⟩:=ptCells_rel H (fun _ _ h=>h) (show crep _ _ _ from hv) hcov hus
  refine ⟨.iface t (a.eval x),?_,?_⟩
  · simp only [execOp,ho,Instr.makeInterface,Sem.run_bind,run_underlying hu,Result.andThen_ok,Sem.run_pure]
  · show rep w _ (.ifp t ty) (some y) [.iface t (a.eval x)]
    exact ⟨ad,vs,by rw [he],hs,hJa,hm,ofcells_rel hy ha⟩
theorem clo_op {o:Oper} {fn:Fn} {bs fr:Array Operand} {k:V→St→Option R} {r:R} (ho:o.op=.makeFunc fn bs fr) (h:cloOf T st W fn (bs.toList.map (ev st s ann)) (fr.toList.map (ev st s ann)) k=some r):∃ v,k v st=some r∧OpSem P o st s W ann v:=by
  unfold cloOf at h
  split at h
  case h_3=>cases h
  · rename_i f b hbs hfr
    split at h
    case h_2=>cases h
    rename_i sig hsig
    split at h
    case h_2=>cases h
    rename_i t ts hps
    split at h
    case isFalse=>cases h
    rename_i hc
    simp only [Bool.and_eq_true,Bool.not_eq_true'] at hc
    split at h
    case h_2=>cases h
    rename_i x hx
    refine ⟨_,h,OpSem.of_run fun hW B M w0 w fp a H hann hop=>?_⟩
    obtain ⟨q,hq,hqb⟩:∃ q,bs.toList=[q]∧ev st s ann q=b:=by
      match hl:bs.toList,hbs with
      | [q],h=>simp [hl] at h; exact ⟨q,rfl,h⟩
      | [],h=>simp [hl] at h
      | _ :: _ :: _,h=>simp [hl] at h
    have hbq:bs=#[q] := by
      apply Array.ext'
      rw [hq]
    have hfr0:fr=#[] := by
      apply Array.ext'
      simpa using hfr
    subst hbq
    subst hfr0
    have hv:=hop q (by simp [ho,Op.operands])
    rw [hqb] at hv
    have hrep:=asTup_rel (J:=imm B M w st.ob fp) H (fun _ _ h=>h) hx (all2_one hv) (fun u hu=>by
      rw [List.mem_singleton] at hu
      rw [hu]
      exact isOwn_cov hc.2)
    obtain ⟨v2,r2,he,hty,_⟩:=hrep
    simp only [List.cons.injEq] at he
    obtain ⟨rfl,_⟩:=he
    refine ⟨.func (.func f) #[a.eval q] #[],by simp [execOp,ho,Instr.makeFunc],a.eval q,rfl,hty⟩
  · rename_i f u us hbs hfr
    split at h
    case h_2=>cases h
    rename_i sig hsig
    have hbs0:bs=#[] := by
      apply Array.ext'
      simpa using hbs
    subst hbs0
    have hall:∀ {B:Lim} {M:Nat→Prop} {w:World} {fp:List (List Nat)} {a:Act},(∀ q∈o.op.operands,trep (cxOf B M w st.ob fp) (a.eval q) (ev st s ann q))→All2 (trep (cxOf B M w st.ob fp)) (fr.toList.map a.eval) (u :: us):=by
      intro B M w fp a hop
      rw [← hfr]
      refine ⟨by simp,fun i v z hv hz=>?_⟩
      simp only [List.getElem?_map,Option.map_eq_some_iff] at hv hz
      obtain ⟨q,hq,rfl⟩:=hv
      obtain ⟨q',hq',rfl⟩:=hz
      rw [hq] at hq'
      cases hq'
      refine hop q ?_
      have hm:q∈fr:=by
        have:=List.mem_of_getElem? hq
        simpa using this
      simp [ho,Op.operands,hm]
    split at h
    case isFalse =>
      split at h
      case h_2=>cases h
      rename_i ids hids
      refine ⟨_,h,OpSem.of_run fun hW B M w0 w fp a H hann hop=>?_⟩
      refine ⟨.func (.func f) #[] (fr.map a.eval),by simp [execOp,ho,Instr.makeFunc],fr.map a.eval,rfl,?_⟩
      obtain ⟨h2,h3⟩:=boxIds_rel (cx:=cxOf B M w st.ob fp) hids (hall hop)
      exact ⟨by simpa using h2,fun i c id hc hi=>h3 i c id (by simpa using hc) hi⟩
    rename_i hc
    simp only [Bool.and_eq_true] at hc
    split at h
    case h_2=>cases h
    rename_i x hx
    refine ⟨_,h,OpSem.of_run fun hW B M w0 w fp a H hann hop=>?_⟩
    have hall:=hall hop
    have hrep:=asTup_rel (J:=imm B M w st.ob fp) H (fun _ _ h=>h) hx hall (fun z hz=>by
      refine isOwn_cov' (cx:=cxOf B M w st.ob fp) ?_
      have:=List.all_eq_true.1 hc.2 z hz
      exact (Bool.not_eq_true' _).mp this)
    refine ⟨.func (.func f) #[] (fr.map a.eval),by simp [execOp,ho,Instr.makeFunc],fr.map a.eval,rfl,?_⟩
    rw [Array.toList_map]
    exact pack_rep hc.1 hrep
theorem callF_step (hT:∀ f sig,T f=some sig→Con P f sig) {o:Oper} {c:Call} {f:FuncId} {k:V→St→Option R} {r:R} (ho:o.op=.call c) (hf:c.callee=.value (.func f))
    (h:callF T st W f (c.args.toList.map (ev st s ann)) k=some r):Step P o st s W ann k r:=by
  by_cases hq:W≠none∨∀ sig,T f=some sig→sig.w=none∧sig.fresh=false∧sig.rs.all flat=true
  · exact .quiet' (callF_quiet hT ho hf h hq)
  · have hW:W=none:=by
      by_cases h1:W=none
      · exact h1
      · exact absurd (.inl h1) hq
    have h0:=h
    unfold callF at h
    split at h
    case h_2=>cases h
    rename_i sig hsig
    have hcon:=hT f sig hsig
    have hnq:¬ (sig.w=none∧sig.fresh=false∧sig.rs.all flat=true):=fun hh=>hq (.inr fun sig' h'=>by
      rw [hsig] at h'
      have:=Option.some.inj h'
      subst this
      exact hh)
    split at h
    · rename_i ws hws
      subst hW
      simp only at h
      split at h
      · rename_i xs hxs
        unfold callV at h
        split at h
        case h_1=>cases h
        rename_i v us hvs
        split at h
        · rename_i ks hks
          split at h
          case h_2=>cases h
          rename_i hus
          unfold callI at h
          split at h
          · cases h
          rename_i hno
          split at h
          case h_2=>cases h
          rename_i x hx
          simp only [Option.bind_eq_some_iff] at h
          obtain ⟨y,hy,h⟩:=h
          split at h
          case h_2=>cases h
          rename_i g ok hr
          exact .quiet h (callI_op hcon.enters (hcon.vi ws xs ks hws hxs hks) ho hf hvs (by simpa using hno) hx hy hr)
        rename_i hks
        split at h
        · rename_i e hsh
          split at h
          case h_2=>cases h
          rename_i hus
          unfold callK at h
          split at h
          · cases h
          rename_i hpt
          split at h
          case h_2=>cases h
          rename_i x hx
          simp only [Option.bind_eq_some_iff] at h
          obtain ⟨y,hy,h⟩:=h
          split at h
          case h_2=>cases h
          rename_i l hl
          exact .chg rfl h (TmOk.of_eq rfl rfl) (shallow_op hcon.enters (hcon.vk ws xs e hws hxs hks hsh) ho hf hvs (by simpa using hpt) hx hy hl)
        rename_i hsh
        split at h
        case isFalse=>cases h
        rename_i hc
        simp only [Bool.and_eq_true] at hc
        split at h
        · rename_i hptr
          unfold callP at h
          split at h
          case h_2=>cases h
          rename_i id
          split at h
          case h_2=>cases h
          rename_i cs hob
          split at h
          case h_2=>cases h
          rename_i x ob1 q hmv hu
          split at h
          case isFalse=>cases h
          rename_i hsz
          simp only [Option.bind_eq_some_iff] at h
          obtain ⟨y,hy,hk⟩:=h
          exact .chg rfl hk (TmOk.of_eq rfl rfl) (ptr_op hcon.enters (hcon.vp ws xs hws hxs hks hsh hptr) ho hf hvs hc.2 hob hmv hu (Nat.eq_of_beq_eq_true hsz) hy)
        · rename_i hptr
          unfold callU at h
          split at h
          case isFalse=>cases h
          rename_i hkn
          simp only [Bool.and_eq_true] at hkn
          split at h
          case h_2=>cases h
          rename_i x ob1 q hmv hu
          simp only [Option.bind_eq_some_iff] at h
          obtain ⟨y,hy,hk⟩:=h
          exact .chg rfl hk (TmOk.of_eq rfl rfl) (use_op hcon.enters (hcon.vu ws xs hws hxs hks hsh (by simpa using hptr)) ho hf hvs hkn.1 hkn.2 hmv hu hy)
      split at h
      · rename_i ls hls
        split at h
        · rename_i hs hhs
          unfold callH at h
          split at h
          case h_2=>cases h
          rename_i a0 g ty z hvs
          split at h
          case h_2=>cases h
          rename_i sig2 x hsig2 hx
          split at h
          case isFalse=>cases h
          rename_i hw2
          simp only [Option.bind_eq_some_iff] at h
          obtain ⟨y,hy,hk⟩:=h
          exact .chg rfl hk (TmOk.of_eq rfl rfl) (high_op (T:=T) hcon.enters ((hcon.vl ws ls hws hls).hi hs hhs) (hT g sig2 hsig2) (by simpa using hw2) ho hf hvs hx hy)
        rename_i hh
        unfold callL at h
        split at h
        case h_1=>cases h
        rename_i v us hvs
        split at h
        · cases h
        rename_i hpt
        simp only [Bool.or_eq_true,not_or,Bool.not_eq_true] at hpt
        split at h
        case h_2=>cases h
        rename_i x q hx hq
        simp only [Option.bind_eq_some_iff] at h
        obtain ⟨y,hy,h⟩:=h
        exact .chg rfl h (TmOk.of_eq rfl rfl) (lax_op hcon.enters (hcon.vl ws ls hws hls) hh ho hf hvs hpt.1 hx hq hy)
      unfold callW at h
      split at h
      case h_1=>cases h
      rename_i v us hvs
      split at h
      · rename_i p hp
        have hvp:=subAt_some hp
        rw [hvp] at hvs
        split at h
        case isFalse=>cases h
        rename_i hc
        simp only [Bool.and_eq_true] at hc
        unfold callS at h
        split at h
        case h_2=>cases h
        rename_i e l hob
        split at h
        case h_2=>cases h
        rename_i x q hx hu
        simp only [Option.bind_eq_some_iff] at h
        obtain ⟨y,hy,hk⟩:=h
        split at hk
        case h_2=>cases hk
        rename_i z hz
        exact .chg rfl hk (TmOk.killL rfl rfl _) (sub_op hcon.enters (hcon.wr ws hws) ho hf hvs hc.2 hob hx hu hy hz)
      split at h
      case isFalse=>cases h
      rename_i hc
      simp only [Bool.and_eq_true] at hc
      obtain ⟨⟨⟨hc1,hc2⟩,hc3⟩,hc4⟩:=hc
      split at h
      case h_2=>cases h
      rename_i x q hx hu
      split at h
      case isFalse=>cases h
      rename_i hnd
      simp only [Option.bind_eq_some_iff] at h
      obtain ⟨y,hy,hk⟩:=h
      exact .chg rfl hk (TmOk.killL rfl rfl _) (lent_op hcon.enters (hcon.wr ws hws) ho hf hvs hc1 hc2 hc3 hc4 hx hu hnd hy)
    rename_i hw
    split at h
    case h_2=>cases h
    rename_i x hx
    split at h
    · rename_i hfr
      subst hW
      simp only [Option.bind_eq_some_iff] at h
      obtain ⟨y,hy,hk⟩:=h
      exact .chg rfl hk (TmOk.of_eq rfl rfl) (fresh_op hcon hw ho hf hx hfr hy)
    · rename_i hfr
      have hfr:sig.fresh=false:=by simpa using hfr
      split at h
      · rename_i hfl
        exact absurd ⟨hw,hfr,hfl⟩ hnq
      · subst hW
        simp only at h
        split at h
        · rename_i hpt
          simp only [Option.bind_eq_some_iff] at h
          obtain ⟨y,hy,hk⟩:=h
          exact .chg rfl hk (TmOk.of_eq rfl rfl) (keep_op hcon hw ho hf hx hfr hpt hy)
        · cases h
theorem callO_step (hT:∀ f sig,T f=some sig→Con P f sig) {o:Oper} {c:Call} {k:V→St→Option R} {r:R} (ho:o.op=.call c) (h:callO P T st s W ann c k=some r):Step P o st s W ann k r:=by
  unfold callO at h
  split at h
  · rename_i f hf
    split at h
    · rename_i X hX
      obtain ⟨sig,hsig,hX⟩:∃ sig,T f=some sig∧sig.X=some X:=by
        unfold xOf at hX
        split at hX
        · rename_i sig hsig; exact ⟨sig,hsig,hX⟩
        · cases hX
      have hcon:=hT f sig hsig
      cases W with
      | some y =>
        obtain ⟨v,h1,h2⟩:=runX_told h
        exact .quiet h2 (hand_quiet hT hcon.enters (hcon.xx X hX) ho hf (fun hW=>by have:=hW y rfl; subst this; exact h1))
      | none =>
        rw [runX_none] at h
        simp only [Option.bind_eq_some_iff] at h
        obtain ⟨⟨v,q⟩,h1,h2⟩:=h
        cases q with
        | none=>exact .quiet h2 (hand_quiet hT hcon.enters (hcon.xx X hX) ho hf (fun _=>h1))
        | some q=>exact .chg rfl h2 (TmOk.killL rfl rfl _) (hand_chg hT hcon.enters (hcon.xx X hX) ho hf h1)
    · exact callF_step hT ho hf h
  · rename_i t hf
    exact .quiet' (callC_quiet hT ho hf h)
  · rename_i x name hf
    exact .quiet' (callX_op (k:=fun v st=>k v st) hT ho hf h)
  · rename_i hc
    split at h
    · rename_i x t ha hty
      split at h
      · rename_i v hv
        exact .quiet h (len_op ho hc ha hty hv)
      · cases h
    · cases h
  · rename_i hc
    split at h
    · rename_i x y ha
      split at h
      · rename_i v hv
        exact .quiet h (mm_op (mx:=true) ho hc ha hv)
      · cases h
    · cases h
  · rename_i hc
    split at h
    · rename_i x y ha
      split at h
      · rename_i v hv
        exact .quiet h (mm_op (mx:=false) ho hc ha hv)
      · cases h
    · cases h
  · rename_i hc
    split at h
    · rename_i x y t t' ha hty
      split at h
      · rename_i htt
        have htt:=Nat.eq_of_beq_eq_true htt
        subst htt
        obtain ⟨v,st',h1,⟨h2,h3⟩,h4⟩:=append_op (P:=P) (o:=o) (s:=s) (ann:=ann) ho hc ha hty h
        exact .chg rfl h1 (TmOk.of_eq h2 h3) h4
      · cases h
    · cases h
  · rename_i hc
    split at h
    · rename_i x y t t' ha hty
      obtain ⟨v,st1,id,h1,h2,h3,h4⟩:=copy_op (P:=P) (o:=o) (s:=s) (ann:=ann) ho hc ha hty h
      exact .chg rfl h1 (TmOk.kill h2 h3 id) h4
    · cases h
  · cases h
theorem opStep_sound (hT:∀ f sig,T f=some sig→Con P f sig) {o:Oper} {k:V→St→Option R} {r:R} (h:opStep P T st s W ann o k=some r):Step P o st s W ann k r:=by
  unfold opStep at h
  split at h
  · rename_i x ho
    exact .quiet h (move_sound (.inl ho))
  · rename_i x ho
    split at h
    · unfold ripe at h
      split at h
      · rename_i id hx
        split at h
        · rename_i e l n hob
          rw [getAt_eq] at hob
          split at h
          · rename_i hn
            exact .chg (v:=.own id) (st':={ st with ob:=setAt st.ob id (.row true e l) }) rfl (by rw [← hx]; exact h) (TmOk.of_eq rfl rfl) (ripe_op ho hx hob (Nat.eq_of_beq_eq_true hn))
          · cases h
        · exact .quiet h (move_sound (.inr ho))
      · exact .quiet h (move_sound (.inr ho))
    · exact .quiet h (move_sound (.inr ho))
  · -- pick
    rename_i c x y ho
    split at h
    case h_2=>cases h
    rename_i t
    split at h
    · rename_i b hb
      split at h
      · rename_i b' hb'
        exact .quiet h (pick_and ho hb hb')
      · cases h
    · rename_i b hno hb
      split at h
      · rename_i b' hb'
        exact .quiet h (pick_or ho (by assumption) hb')
      · cases h
    · cases h
  · rename_i t x ho
    exact .quiet' (load_op ho h)
  · rename_i op t x y ty ho
    split at h
    · rename_i v hv
      exact .quiet h (eqS_op ho hv)
    · exact .quiet' (bin_op ho h)
  · rename_i op t x ho
    split at h
    · rename_i v hv
      exact .quiet h (un_op ho hv)
    · cases h
  · rename_i t x f ho
    split at h
    · rename_i off n ag hf
      split at h
      · rename_i v hv
        exact .quiet h (fieldAddr_op ho hf hv)
      · split at h
        case h_2=>cases h
        rename_i e p hx
        obtain ⟨h1,h2⟩:=chk_some h
        exact .quiet h1 (fieldAddr_op2 ho hf hx h2)
    · cases h
  · rename_i t x f ho
    split at h
    · rename_i off n ag cs hf hx
      obtain ⟨h1,h2⟩:=field_op (P:=P) (W:=W) ho hf hx
      split at h
      · rename_i hag
        exact .quiet h (h1 hag)
      · rename_i hag
        split at h
        · rename_i v hv
          exact .quiet h (h2 (by simpa using hag) v hv)
        · cases h
    · cases h
  · rename_i t x y ho
    split at h
    · rename_i e ht
      split at h
      · rename_i ti hi
        split at h
        · rename_i hsz
          exact .quiet' (index_op (k:=fun v=>k v st) ho ht hi hsz h)
        · cases h
      · cases h
    · cases h
  · rename_i t x y ho
    split at h
    · rename_i ht
      exact .quiet' (strIdx_op (k:=fun v=>k v st) ho ht h)
    · rename_i n e ht
      split at h
      · rename_i ti hag hi
        split at h
        · rename_i hsz
          exact .quiet' (tab_op (k:=fun v=>k v st) ho ht hag hi hsz h)
        · cases h
      · cases h
    · cases h
  · rename_i t t' x ho
    exact .quiet' (conv_op (k:=fun v=>k v st) ho h)
  · rename_i t x lo hi ho
    exact .quiet' (slice_op (k:=fun v=>k v st) ho h)
  · -- nilCheck
    rename_i x ho
    split at h
    · rename_i id i off hx
      have key:∀ o',st.ob[id]?=some o'→o'≠.dead→OpSem P o st s W ann (.pt id i off):=by
        intro o' ho' hd
        refine nilCheck_op ho hx fun {B M w fp} u _ hu=>?_
        obtain ⟨o2,bs,h1,h2,h3⟩:crep (cxOf B M w st.ob fp) u (.pt id i off):=hu
        simp only [cxOf] at h1
        rw [ho'] at h1
        have e1:=Option.some.inj h1
        subst e1
        cases o' with
        | dead=>exact absurd rfl hd
        | box us=>obtain ⟨_,b,_,rfl⟩:=h3; exact ⟨_,rfl⟩
        | fbox us=>obtain ⟨_,b,_,rfl⟩:=h3; exact ⟨_,rfl⟩
        | row dp e l=>obtain ⟨_,b,r,_,rfl⟩:=h3; exact ⟨_,rfl⟩
        | frz e l=>obtain ⟨_,b,r,_,rfl⟩:=h3; exact ⟨_,rfl⟩
        | pre e l n=>obtain ⟨_,b,r,_,rfl⟩:=h3; exact ⟨_,rfl⟩
        | mp k l=>exact h3.elim
      rw [getAt_eq] at h
      split at h
      · cases h
      · cases h
      · rename_i hno1 hno2
        cases hob:st.ob[id]? with
        | none=>exact absurd hob hno2
        | some o'=>exact .quiet h (key o' hob (fun he=>hno1 (by rw [hob,he])))
    · rename_i t y off hx
      refine .quiet h (nilCheck_op ho hx fun {B M w fp} u _ hu=>?_)
      obtain ⟨ad,vs,rfl,_⟩:crep (cxOf B M w st.ob fp) u (.rp t y off):=hu
      exact ⟨_,rfl⟩
    · rename_i e p hx
      obtain ⟨h1,h2⟩:=chk_some h
      refine .quiet h1 (nilCheck_op2 ho hx fun {B M w fp} u hW hu=>?_)
      have hs:=h2 hW
      cases p with
      | none=>cases hs
      | some y =>
        obtain ⟨ad,vs,he,hsp,hI,hm,hr⟩:rep w (imm B M w st.ob fp) (.ptr e) (some y) [u] := hu
        simp at he
        exact ⟨ad,he,ad,vs,he,hsp,hI,hm,hr⟩
    · cases h
  · rename_i x i ho
    split at h
    · rename_i cs hx
      rw [getAt_eq] at h
      split at h
      · rename_i v hv
        exact .quiet h (extract_op ho hx hv)
      · cases h
    · cases h
  · rename_i c ho
    exact callO_step hT ho h
  · rename_i t x ho
    split at h
    · rename_i v hv
      exact .quiet h (ifc_op ho hv)
    · cases h
  · rename_i fn bs fr ho
    exact .quiet' (clo_op ho h)
  · -- alloc
    rename_i t ho
    split at h
    · rename_i z hz
      exact .chg rfl h (TmOk.of_eq rfl rfl) (alloc_op ho hz)
    · cases h
  · rename_i t x ho
    split at h
    · rename_i hk
      exact .chg rfl h (TmOk.of_eq rfl rfl) (box_op ho hk)
    · cases h
  · rename_i t p x ho
    split at h
    · rename_i st' hk hst
      exact .chg rfl h (store_tm hst) (store_op ho hk hst)
    · split at h
      · rename_i c st' hst
        split at h
        · rename_i hc
          subst hc
          exact .chg rfl h (storeP_tm hst) (storeP_op ho hst)
        · cases h
      · cases h
    · cases h
  · -- makeSlice
    rename_i t x y ho
    split at h
    · unfold mkSlice at h
      split at h
      · rename_i e n m ht hx hy
        split at h
        · rename_i ty i hty hi
          split at h
          · rename_i hz
            obtain ⟨v,st',h1,⟨h2,h3⟩,h4⟩:=mkRow_op (P:=P) (o:=o) ho ht hi hz hx hy h
            exact .chg rfl h1 (TmOk.of_eq h2 h3) h4
          · cases h
        · cases h
      · cases h
    · cases h
  · -- buildSlice
    rename_i t n ps ho
    split at h
    · rename_i el ht
      split at h
      · rename_i ty i hty hi
        split at h
        · rename_i hc
          simp only [Bool.and_eq_true,Nat.beq_eq,Nat.ble_eq] at hc
          obtain ⟨⟨hz,hn⟩,hsz⟩:=hc
          obtain ⟨v,st',h1,⟨h2,h3⟩,h4⟩:=lit_op (P:=P) (o:=o) (ann:=ann) ho ht hz hn (fun i' hi'=>by
            rw [hi] at hi'
            have e1:=Option.some.inj hi'
            subst e1
            exact hsz) h
          exact .chg rfl h1 (TmOk.of_eq h2 h3) h4
        · cases h
      · cases h
    · rename_i el ht
      split at h
      · rename_i ty i hty hi
        split at h
        · rename_i hc
          simp only [Bool.and_eq_true,Nat.beq_eq,Nat.ble_eq] at hc
          obtain ⟨⟨hz,hn⟩,hsz⟩:=hc
          split at h
          · rename_i v hv
            exact .quiet h (litQ_op (P:=P) (o:=o) ho ht hz hn (fun i' hi'=>by
              rw [hi] at hi'
              have e1:=Option.some.inj hi'
              subst e1
              exact hsz) hv)
          · cases h
        · cases h
      · cases h
    · cases h
  · rename_i t ps ho
    split at h
    · rename_i v hv
      exact .quiet h (build_op ho hv)
    · cases h
  · rename_i t ho
    split at h
    · rename_i q hq
      exact .chg rfl h (TmOk.of_eq rfl rfl) (makeMap_op ho)
    · cases h
  · rename_i t m x ho
    split at h
    · rename_i q id hq hm
      split at h
      · rename_i n hn
        exact .quiet h (lookup_op ho hq hm hn)
      · cases h
    · cases h
  · rename_i t m x ho
    split at h
    · rename_i q id hq hm
      split at h
      · rename_i n j o' hn
        exact .chg rfl h (TmOk.of_eq rfl rfl) (mapEntry_op ho hq hm hn)
      · cases h
    · cases h
  · rename_i t m jx x ho
    split at h
    · rename_i id j n hm hj hx
      rw [getAt_eq] at h
      split at h
      · rename_i q l hob
        split at h
        · rename_i hc
          exact .chg rfl h (TmOk.of_eq rfl rfl) (entryStore_op ho hm hj hx hob (of_decide_eq_true hc))
        · cases h
      · cases h
    · cases h
  · rename_i t m x v ho
    split at h
    · rename_i q id n hq hm hv
      split at h
      · rename_i o' hn
        exact .chg rfl h (TmOk.of_eq rfl rfl) (mapUpdate_op ho hq hm hv hn)
      · cases h
    · cases h
  · cases h
end
end Go.Vm

namespace Go.Vm
variable [Amb]
open Go.RowKit (Below)
structure Rel (B:Lim) (M:Nat→Prop) (w0:World) (N:Fr) (st:St) (w:World) (fp:List (List Nat)) (a:Act):Prop where
  hrel:Hrel B M w0 w st.ob fp
  slots:∀ t,grep (cxOf B M w st.ob fp) none a (a.tmps.getD t undef) (look t st.tm)
  stamps:∀ (t s tj:Nat) (y:Bool) (u:V),look t st.tm=.g s tj y u→s∈st.dn
  size:a.tmps.size=N.n
  defers:a.defers=[]
  pin:∀ t v,t < N.lo→B.pv[t]?=some v→a.tmps.getD t undef=v
theorem grep_not_g {cx:Cx} {cur:Option Nat} {a:Act} {v:Value} {u:V} (h:trep cx v u):grep cx cur a v u:=by
  cases u with
  | g s t w u=>exact False.elim h
  | _=>exact h
theorem grep_none {cx:Cx} {cur:Option Nat} {a:Act} {v:Value} {u:V} (h:grep cx cur a v u):grep cx none a v u:=by
  cases u with
  | g s t w u=>exact fun he=>by cases he
  | _=>exact h
theorem grep_enter {cx:Cx} {s:Nat} {a:Act} {v:Value} {u:V} (h:grep cx none a v u) (hs:∀ s' tj y u',u=.g s' tj y u'→s'≠s):grep cx (some s) a v u:=by
  cases u with
  | g s' t w u=>exact fun he=>absurd (Option.some.inj he).symm (hs s' t w u rfl)
  | _=>exact h
theorem put_getD_ne {a:Act} {d t:Nat} {v:Value} (h:d≠t):(a.put (some d) v).tmps.getD t undef=a.tmps.getD t undef:=by
  simp [Act.put,Array.getD_eq_getD_getElem?,Array.getElem?_setIfInBounds_ne h]
theorem put_get_ne {a:Act} {d t:Nat} {v:Value} (h:d≠t):(a.put (some d) v).tmps[t]?=a.tmps[t]? := by
  simp [Act.put,Array.getElem?_setIfInBounds_ne h]
theorem put_getD_self {a:Act} {d:Nat} {v:Value} (h:d < a.tmps.size):(a.put (some d) v).tmps.getD d undef=v:=by
  simp [Act.put,Array.getD_eq_getD_getElem?,h]
theorem grep_put {cx:Cx} {s:Nat} {a:Act} {v x:Value} {u:V} {d:Nat} (h:grep cx (some s) a v u) (hd:∀ s' tj y u',u=.g s' tj y u'→s'=s→d≠tj):grep cx (some s) (a.put (some d) x) v u:=by
  cases u with
  | g s' t w u =>
    intro he hb
    have hs:=(Option.some.inj he).symm
    rw [put_get_ne (hd s' t w u rfl hs)] at hb
    exact h he hb
  | _=>exact h
section
variable {P:Program} {T:FuncId→Option Sig} {R:Type} {os:Array Oper} {s:Nat} {N:Fr} {dn:List Nat}
def RiOk (a:Act) (ri:List Ri) (q:Ri):Prop :=
  (match q.W with | some false=>∀ t,q.dst=some t→a.tmps.getD t undef=undef | _=>AnnOk a q.ann)∧∀ p∈q.ann,∃ q'∈ri,q'.dst=some p.1
structure Inv (B:Lim) (M:Nat→Prop) (w0:World) (N:Fr) (os:Array Oper) (s:Nat) (dn:List Nat) (st:St) (ri:List Ri) (w:World) (fp:List (List Nat)) (a:Act):Prop where
  hrel:Hrel B M w0 w st.ob fp
  slots:∀ t,grep (cxOf B M w st.ob fp) (some s) a (a.tmps.getD t undef) (look t st.tm)
  stamps:∀ (t s' tj:Nat) (y:Bool) (u:V),look t st.tm=.g s' tj y u→s'∈dn∨(s'=s∧∃ q∈ri,q.dst=some tj)
  size:a.tmps.size=N.n
  defers:a.defers=[]
  pin:∀ t v,t < N.lo→B.pv[t]?=some v→a.tmps.getD t undef=v
  dne:st.dn=dn
  fresh:s∉dn
  rok:∀ q∈ri,RiOk a ri q
  at_:∀ (j:Nat) (q:Ri),ri[j]?=some q→∀ t,q.dst=some t→∃ o,os[j]?=some o∧o.dst=some t
variable {B:Lim} {M:Nat→Prop} {w0 w:World} {st:St} {ri:List Ri} {fp:List (List Nat)} {a:Act}
theorem dstOk_spec {d:Nat} (h:dstOk N ri (some d)=true):(d < N.n∧N.lo≤d)∧∀ q∈ri,∀ t,q.dst=some t→d≠t:=by
  simp only [dstOk,Bool.and_eq_true,Nat.ble_eq,List.all_eq_true] at h
  refine ⟨h.1,fun q hq t ht he=>?_⟩
  have:=h.2 q hq
  rw [ht] at this
  subst he
  simp at this
theorem guard_none {o:Oper} (h:o.guard=none) (y:Nat→Option Bool):Region.wanted o y=true:=by simp [Region.wanted,h]
theorem guard_spec (I:Inv B M w0 N os s dn st ri w fp a) {o:Oper} {W:Option Bool} {ann:List (Nat×Bool)} {gi:Option (Nat×Bool)} (h:guardOf st s ri o.guard=some (W,ann,gi)) :
    (W=none∧ann=[]∧gi=none∧Region.wanted o (yielded os a.tmps)=true) ∨
    ∃ tj y,W=some (Region.wanted o (yielded os a.tmps))∧gi=some (tj,y)∧(∃ q∈ri,q.dst=some tj)∧(∀ p∈ann,∃ q∈ri,q.dst=some p.1) ∧
      (Region.wanted o (yielded os a.tmps)=true→AnnOk a ann)∧(Region.wanted o (yielded os a.tmps)=false→a.tmps[tj]?≠some (.bool y)):=by
  cases hg:o.guard with
  | none =>
    rw [hg] at h
    simp only [guardOf,Option.some.injEq,Prod.mk.injEq] at h
    obtain ⟨rfl,rfl,rfl⟩:=h
    exact .inl ⟨rfl,rfl,rfl,guard_none hg _⟩
  | some g =>
    obtain ⟨j,want⟩:=g
    right
    rw [hg] at h
    simp only [guardOf,getAt_eq] at h
    split at h
    · rename_i tj wj aj hj
      split at h
      · rename_i b hb
        simp only [Option.some.injEq,Prod.mk.injEq] at h
        obtain ⟨rfl,rfl,rfl⟩:=h
        have hq:=List.mem_of_getElem? hj
        obtain ⟨hr1,hr2⟩:=I.rok _ hq
        obtain ⟨oj,ho1,ho2⟩:=I.at_ j _ hj tj rfl
        have hy:yielded os a.tmps j=(match a.tmps[tj]? with | some (.bool b)=>some b | _=>none):=by
          simp only [yielded,ho1,Option.bind_some,ho2]
          cases a.tmps[tj]? with
          | none=>rfl
          | some v=>cases v<;>rfl
        have hw:Region.wanted o (yielded os a.tmps)=(yielded os a.tmps j == some want):=by
          simp [Region.wanted,hg]
        have good:AnnOk a aj→a.tmps[tj]?=some (.bool b):=fun ha=>tmp_bool (crep_bool (by rw [← hb]; exact strip_rel (I.slots tj) ha))
        have ins:∀ p∈(tj,want) :: aj,∃ q∈ri,q.dst=some p.1:=by
          intro p hp
          rcases List.mem_cons.1 hp with rfl | hp
          · exact ⟨_,hq,rfl⟩
          · exact hr2 p hp
        have main:AnnOk a aj→∀ y:Bool,y=(b == want)→Region.wanted o (yielded os a.tmps)=y∧(y=true→AnnOk a ((tj,want) :: aj))∧(y=false→a.tmps[tj]?≠some (.bool want)):=by
          rintro ha y rfl
          have ht:=good ha
          rw [hw,hy,ht]
          refine ⟨by cases want<;>cases b<;>rfl,fun hyt=>annOk_cons ha ?_,fun hyf=>?_⟩
          · rw [ht]
            cases want<;>cases b<;>first | rfl | cases hyt
          · intro he
            cases want<;>cases b<;>first | exact absurd hyf (by decide) | exact absurd he (by simp)
        refine ⟨tj,want,?_⟩
        cases wj with
        | none =>
          simp only at hr1
          obtain ⟨h1,h2,h3⟩:=main hr1 _ rfl
          rw [h1]
          refine ⟨?_,rfl,⟨_,hq,rfl⟩,ins,h2,h3⟩
          cases want<;>cases b<;>rfl
        | some y =>
          cases y with
          | true =>
            simp only at hr1
            obtain ⟨h1,h2,h3⟩:=main hr1 _ rfl
            rw [h1]
            refine ⟨?_,rfl,⟨_,hq,rfl⟩,ins,h2,h3⟩
            cases want<;>cases b<;>rfl
          | false =>
            simp only at hr1
            have hu:=hr1 tj rfl
            have hn:∀ z,a.tmps[tj]?≠some (.bool z):=by
              intro z hz
              rw [Array.getD_eq_getD_getElem?,hz] at hu
              cases hu
            have h1:Region.wanted o (yielded os a.tmps)=false:=by
              rw [hw,hy]
              cases ht:a.tmps[tj]? with
              | none=>rfl
              | some v =>
                cases v with
                | bool z=>exact absurd ht (hn z)
                | _=>rfl
            rw [h1]
            refine ⟨?_,rfl,⟨_,hq,rfl⟩,ins,(fun h=>by cases h),fun _=>hn want⟩
            cases want<;>rfl
      · cases h
    · cases h
end
end Go.Vm

namespace Go.Vm
variable [Amb]
open Go.RowKit (Below)
section
variable {P:Program} {T:FuncId→Option Sig} {R:Type} {os:Array Oper} {s:Nat} {N:Fr} {dn:List Nat}
variable {B:Lim} {M:Nat→Prop} {w0 w w':World} {st st':St} {ri:List Ri} {fp fp':List (List Nat)} {a:Act}
theorem look_cons (t d:Nat) (u:V) (l:List (Nat×V)):look t ((d,u) :: l)=if d=t then u else look t l:=by
  simp only [look,Nat.beq_eq]
def gval (gi:Option (Nat×Bool)) (s:Nat) (v:V):V:=match gi with
  | none=>v
  | some (tj,w)=>.g s tj w v
theorem put1_tm (st:St) (d:Nat) (gi:Option (Nat×Bool)) (s:Nat) (v:V):(put1 st (some d) gi s v).tm=(d,gval gi s v) :: st.tm:=by
  cases gi<;>rfl
theorem annOk_put {d:Nat} {x:Value} {ann:List (Nat×Bool)} (h:AnnOk a ann) (hd:∀ p∈ann,d≠p.1):AnnOk (a.put (some d) x) ann:=fun p hp=>by
  rw [put_get_ne (hd p hp)]
  exact h p hp
theorem Inv.nextR (I:Inv B M w0 N os s dn st ri w fp a) {o:Oper} {W:Option Bool} {ann:List (Nat×Bool)} {gi:Option (Nat×Bool)} {v:V} {v':Value} {ri':List Ri} (hri:match W with | some false=>v'=undef | _=>AnnOk a ann)
    (hd:∀ d,o.dst=some d→(d < N.n∧N.lo≤d)∧∀ q∈ri,∀ t,q.dst=some t→d≠t) (hmem:∀ q∈ri',q∈ri∨q=⟨o.dst,W,ann⟩) (hkeep:∀ q∈ri,q.dst≠none→q∈ri')
    (hH:Hrel B M w0 w' st'.ob fp') (hadv:Adv st st' (cxOf B M w st.ob fp) (cxOf B M w' st'.ob fp')) (htm:TmOk st st')
    (hval:(gi=none∧trep (cxOf B M w' st'.ob fp') v' v)∨∃ tj y,gi=some (tj,y)∧(∃ q∈ri,q.dst=some tj)∧(a.tmps[tj]?=some (.bool y)→trep (cxOf B M w' st'.ob fp') v' v))
    (hann:∀ p∈ann,∃ q∈ri,q.dst=some p.1)
    (hat':∀ (j:Nat) (q:Ri),ri'[j]?=some q→∀ t,q.dst=some t→∃ o',os[j]?=some o'∧o'.dst=some t) :
    Inv B M w0 N os s dn (put1 st' o.dst gi s v) ri' w' fp' (a.put o.dst v'):=by
  have hob:(put1 st' o.dst gi s v).ob=st'.ob:=by cases o.dst<;>rfl
  have hdn:(put1 st' o.dst gi s v).dn=dn:=by
    have:(put1 st' o.dst gi s v).dn=st'.dn:=by cases o.dst<;>rfl
    rw [this,htm.1,I.dne]
  have kp:∀ {t:Nat},(∃ q∈ri,q.dst=some t)→∃ q∈ri',q.dst=some t:=by
    rintro t ⟨q,hq,hqd⟩
    exact ⟨q,hkeep q hq (by rw [hqd]; simp),hqd⟩
  have stamps0:∀ (t s' tj:Nat) (y:Bool) (u:V),look t st'.tm=.g s' tj y u→s'∈dn∨(s'=s∧∃ q∈ri,q.dst=some tj):=by
    intro t s' tj y u h
    obtain ⟨u',hu'⟩:=htm.2 t s' tj y u h
    exact I.stamps t s' tj y u' hu'
  cases hdst:o.dst with
  | none =>
    rw [hdst] at hob hdn hmem
    refine ⟨hob ▸ hH,fun t=>?_,fun t s' tj y u h=>?_,I.size,I.defers,I.pin,hdn,I.fresh,fun q hq=>?_,hat'⟩
    · exact hadv (some s) a _ t (I.slots t)
    · rcases stamps0 t s' tj y u h with h | ⟨h1,h2⟩
      · exact .inl h
      · exact .inr ⟨h1,kp h2⟩
    · rcases hmem q hq with hq | hq
      · obtain ⟨h1,h2⟩:=I.rok q hq
        exact ⟨h1,fun p hp=>kp (h2 p hp)⟩
      · subst hq
        refine ⟨?_,fun p hp=>kp (hann p hp)⟩
        cases W with
        | none=>exact hri
        | some y=>cases y with
          | true=>exact hri
          | false=>exact fun t ht=>by cases ht
  | some d =>
    rw [hdst] at hob hdn hmem
    obtain ⟨⟨hlt,hlo⟩,hne⟩:=hd d hdst
    have hsz:d < a.tmps.size:=by rw [I.size]; exact hlt
    have hput:=put1_tm st' d gi s v
    refine ⟨hob ▸ hH,fun t=>?_,fun t s' tj y u h=>?_,by simp [Act.put,I.size],I.defers,fun t v ht hp=>(put_getD_ne (d:=d) (t:=t) (fun he=>Nat.lt_irrefl t (Nat.lt_of_lt_of_le ht (Nat.le_trans hlo (Nat.le_of_eq he))))).trans (I.pin t v ht hp),hdn,I.fresh,fun q hq=>?_,hat'⟩
    · rw [hob,hput,look_cons]
      by_cases ht:d=t
      · subst ht
        rw [if_pos rfl,put_getD_self hsz]
        rcases hval with ⟨rfl,hv⟩ | ⟨tj,y,rfl,⟨q,hq,hqd⟩,hv⟩
        · exact grep_not_g hv
        · intro _ hb
          rw [put_get_ne (hne q hq tj hqd)] at hb
          exact hv hb
      · rw [if_neg ht,put_getD_ne ht]
        refine grep_put (hadv (some s) a _ t (I.slots t)) (fun s' tj y u' he hs=>?_)
        rcases stamps0 t s' tj y u' he with h | ⟨_,q,hq,hqd⟩
        · subst hs; exact absurd h I.fresh
        · exact hne q hq tj hqd
    · rw [hput,look_cons] at h
      split at h
      · rcases hval with ⟨rfl,hv⟩ | ⟨tj',y',rfl,hq,hv⟩
        · simp only [gval] at h
          rw [h] at hv
          exact False.elim hv
        · simp only [gval,V.g.injEq] at h
          obtain ⟨h1,h2,_,_⟩:=h
          subst h2
          exact .inr ⟨h1.symm,kp hq⟩
      · rcases stamps0 t s' tj y u h with h | ⟨h1,h2⟩
        · exact .inl h
        · exact .inr ⟨h1,kp h2⟩
    · rcases hmem q hq with hq | hq
      · obtain ⟨h1,h2⟩:=I.rok q hq
        refine ⟨?_,fun p hp=>kp (h2 p hp)⟩
        have hAnn:AnnOk a q.ann→AnnOk (a.put (some d) v') q.ann:=fun h=>annOk_put h (fun p hp=>by
          obtain ⟨q',h3,h4⟩:=h2 p hp
          exact hne q' h3 _ h4)
        revert h1
        cases q.W with
        | none=>exact hAnn
        | some y=>cases y with
          | true=>exact hAnn
          | false=>exact fun h t ht=>by rw [put_getD_ne (hne q hq t ht)]; exact h t ht
      · subst hq
        refine ⟨?_,fun p hp=>kp (hann p hp)⟩
        have hAnn:AnnOk a ann→AnnOk (a.put (some d) v') ann:=fun h=>annOk_put h (fun p hp=>by
          obtain ⟨q',h3,h4⟩:=hann p hp
          exact hne q' h3 _ h4)
        cases W with
        | none=>exact hAnn hri
        | some y=>cases y with
          | true=>exact hAnn hri
          | false =>
            intro t ht
            cases ht
            rw [put_getD_self hsz]
            exact hri
theorem Inv.next (I:Inv B M w0 N os s dn st ri w fp a) {o:Oper} {W:Option Bool} {ann:List (Nat×Bool)} {gi:Option (Nat×Bool)} {v:V} {v':Value} (hd:dstOk N ri o.dst=true) (hH:Hrel B M w0 w' st'.ob fp')
    (hadv:Adv st st' (cxOf B M w st.ob fp) (cxOf B M w' st'.ob fp')) (htm:TmOk st st')
    (hval:(gi=none∧trep (cxOf B M w' st'.ob fp') v' v)∨∃ tj y,gi=some (tj,y)∧(∃ q∈ri,q.dst=some tj)∧(a.tmps[tj]?=some (.bool y)→trep (cxOf B M w' st'.ob fp') v' v))
    (hri:match W with | some false=>v'=undef | _=>AnnOk a ann) (hann:∀ p∈ann,∃ q∈ri,q.dst=some p.1) (hat:os[ri.length]?=some o) :
    Inv B M w0 N os s dn (put1 st' o.dst gi s v) (ri++[⟨o.dst,W,ann⟩]) w' fp' (a.put o.dst v'):=by
  refine I.nextR hri (fun d hdd=>dstOk_spec (by rw [hdd] at hd; exact hd)) (fun q hq=>by simpa using hq) (fun q hq _=>by simp [hq]) hH hadv htm hval hann ?_
  intro j q hq t ht
  by_cases hj:j < ri.length
  · rw [List.getElem?_append_left hj] at hq
    exact I.at_ j q hq t ht
  · rw [List.getElem?_append_right (by omega)] at hq
    have hjl:j=ri.length:=by
      have:=lt_of_get hq
      simp at this
      omega
    subst hjl
    simp at hq
    subst hq
    exact ⟨o,hat,ht⟩
theorem Adv.refl (st:St) (cx:Cx):Adv st st cx cx:=fun _ _ _ _ h=>h
theorem preF_spec (T:FuncId→Option Sig) (st:St) (s:Nat) (W:Option Bool) (ann:List (Nat×Bool)) (o:Oper):preF T st s W ann o=st∨∃ cs,preF T st s W ann o={ st with ob:=frzPts st.ob cs } := by
  unfold preF
  split
  · split
    · split
      · split
        · exact .inr ⟨_,rfl⟩
        · exact .inl rfl
      · exact .inl rfl
    · exact .inl rfl
  · split
    · exact .inr ⟨_,rfl⟩
    · exact .inl rfl
  · split
    · exact .inr ⟨_,rfl⟩
    · exact .inl rfl
  · exact .inl rfl
theorem preF_tm (T:FuncId→Option Sig) (st:St) (s:Nat) (W:Option Bool) (ann:List (Nat×Bool)) (o:Oper):(preF T st s W ann o).tm=st.tm:=by
  rcases preF_spec T st s W ann o with h | ⟨cs,h⟩<;>rw [h]
theorem Inv.pre (I:Inv B M w0 N os s dn st ri w fp a) (W:Option Bool) (ann:List (Nat×Bool)) (o:Oper):Inv B M w0 N os s dn (preF T st s W ann o) ri w fp a:=by
  rcases preF_spec T st s W ann o with h | ⟨cs,h⟩
  · rw [h]; exact I
  · rw [h]
    obtain ⟨hF,_⟩:=frzPts_rel I.hrel cs
    exact ⟨hF.rel,fun t=>grep_map hF.adv (I.slots t),I.stamps,I.size,I.defers,I.pin,I.dne,I.fresh,I.rok,I.at_⟩
theorem guardOf_tm {st st':St} (h:st'.tm=st.tm) (s:Nat) (ri:List Ri) (g:Option (Nat×Bool)):guardOf st' s ri g=guardOf st s ri g:=by
  cases g with
  | none=>rfl
  | some p=>simp only [guardOf,h]
theorem ops_sound (hT:∀ f sig,T f=some sig→Con P f sig) {k:St→Option R} {r:R} {Q:Exit→Act→World→Prop}
    (hk:∀ (st':St) (ri':List Ri) (w':World) (fp':List (List Nat)) (a':Act),k st'=some r→Inv B M w0 N os s dn st' ri' w' fp' a'→Q .normal a' w') :
    ∀ (l:List Oper) {st:St} {ri:List Ri} {w:World} {fp:List (List Nat)} {a:Act},ops P T N false s k l ri st=some r→os.toList.drop ri.length=l→Inv B M w0 N os s dn st ri w fp a →
      wpOps P os Q (List.range' ri.length l.length) a w
  | [],st,ri,w,fp,a,h,_,I=>hk st ri w fp a h I
  | o :: l,st,ri,w,fp,a,h,hdrop,I=>by
    have hat:os[ri.length]?=some o:=by
      have:(os.toList.drop ri.length)[0]?=some o:=by rw [hdrop]; rfl
      rw [List.getElem?_drop] at this
      simpa using this
    have hdrop':os.toList.drop (ri.length + 1)=l:=by
      rw [← List.drop_drop,hdrop]
      rfl
    simp only [ops] at h
    split at h
    case isFalse=>cases h
    rename_i hd
    split at h
    case h_2=>cases h
    rename_i W ann gi hg
    simp only [Bool.false_eq_true,if_false] at h
    replace I:=I.pre (T:=T) W ann o
    rw [← guardOf_tm (preF_tm T st s W ann o)] at hg
    generalize preF T st s W ann o=st at h I hg
    obtain ⟨v,st',h1,htm,hchg,hqu⟩:=opStep_sound hT h
    have ih:∀ {w':World} {fp':List (List Nat)} {v':Value},Inv B M w0 N os s dn (put1 st' o.dst gi s v) (ri++[⟨o.dst,W,ann⟩]) w' fp' (a.put o.dst v')→wpOps P os Q (List.range' (ri.length + 1) l.length) (a.put o.dst v') w':=by
      intro w' fp' v' I'
      have:=ops_sound hT hk l h1 (by simpa using hdrop') I'
      simpa using this
    rw [List.length_cons,List.range'_succ,wpOps_cons]
    simp only [wpOp,hat]
    rcases guard_spec I hg with ⟨rfl,rfl,rfl,hw⟩ | ⟨tj,y,hW,rfl,hin,hann,hok,hno⟩
    · rw [if_pos hw]
      left
      refine hchg rfl a I.hrel (fun p hp=>by cases hp) (fun t _=>I.slots t) _ _ (fun v' w' fp' hH hadv hv=>ih (fp':=fp') ?_)
      exact I.next hd hH hadv htm (.inl ⟨rfl,hv⟩) (fun p hp=>by cases hp) (fun p hp=>by cases hp) hat
    · subst hW
      obtain ⟨rfl,hs⟩:=hqu (by simp)
      by_cases hw:Region.wanted o (yielded os a.tmps)=true
      · rw [if_pos hw]
        left
        refine hs (fun y hy=>by have:=Option.some.inj hy; rw [← this]; exact hw) a I.hrel (hok hw) (fun t _=>I.slots t) _ _ (fun v' w' hb hv=>ih (fp':=fp) ?_)
        refine I.next hd (I.hrel.ext hb) (fun _ _ _ _ hg=>grep_map (fun _ _ hu=>(Ext.of_below hb).crep hu) hg) htm (.inr ⟨tj,y,rfl,hin,fun _=>hv⟩) ?_ hann hat
        rw [hw]
        exact hok hw
      · have hw:Region.wanted o (yielded os a.tmps)=false:=by simpa using hw
        rw [if_neg (by rw [hw]; simp)]
        refine ih (w':=w) (fp':=fp) ?_
        refine I.next hd I.hrel (Adv.refl _ _) htm (.inr ⟨tj,y,rfl,hin,fun h=>absurd h (hno hw)⟩) ?_ hann hat
        rw [hw]
theorem Rel.inv {st:St} (I:Rel B M w0 N st w fp a) (hs:s∉st.dn):Inv B M w0 N os s st.dn st [] w fp a:=by
  refine ⟨I.hrel,fun t=>?_,fun t s' tj y u h=>.inl (I.stamps t s' tj y u h),I.size,I.defers,I.pin,rfl,hs,(fun q hq=>by cases hq),(fun j q hq=>by simp at hq)⟩
  exact grep_enter (I.slots t) (fun s' tj y u' he hs'=>by subst hs'; exact hs (I.stamps t _ tj y u' he))
theorem Inv.stop {st:St} (I:Inv B M w0 N os s dn st ri w fp a):Rel B M w0 N { st with dn:=s :: st.dn } w fp a:=by
  refine ⟨I.hrel,fun t=>grep_none (I.slots t),fun t s' tj y u h=>?_,I.size,I.defers,I.pin⟩
  rcases I.stamps t s' tj y u h with h | ⟨rfl,_⟩
  · simp [I.dne,h]
  · simp
theorem region_sound (hT:∀ f sig,T f=some sig→Con P f sig) {k:Exit→St→Option R} {r:R} {Q:Exit→Act→World→Prop} (hs:s∉st.dn) (h:ops P T N false s (fun st=>k .normal { st with dn:=s :: st.dn }) os.toList [] st=some r)
    (I:Rel B M w0 N st w fp a) (hk:∀ (e:Exit) (st':St) (w':World) (fp':List (List Nat)) (a':Act),k e st'=some r→Rel B M w0 N st' w' fp' a'→Q e a' w'):(Code.region s os false).wp P Q a w:=by
  refine wp_region ?_
  have:=ops_sound (os:=os) (dn:=st.dn) hT (Q:=Q) (fun st' ri' w' fp' a' h1 I'=>hk .normal _ w' fp' a' h1 I'.stop) os.toList h (by simp) (I.inv hs)
  simpa [List.range_eq_range'] using this
end
end Go.Vm

namespace Go.Vm
variable [Amb]
open Go.RowKit (Below)
section
variable {P:Program} {os:Array Oper} {Q:Exit→Act→World→Prop}
def open_ (n:Nat) (listed:Array Bool):Nat:=(List.range n).countP fun i=>!listed.getD i true
theorem open_set {n i:Nat} {listed:Array Bool} (hi:i < n) (hsz:listed.size=n) (hl:listed.getD i true=false):open_ n (listed.setIfInBounds i true) + 1=open_ n listed:=by
  unfold open_
  have hget:∀ j,(listed.setIfInBounds i true).getD j true=if i=j then true else listed.getD j true:=by
    intro j
    simp only [Array.getD_eq_getD_getElem?,Array.getElem?_setIfInBounds]
    by_cases h:i=j
    · subst h; simp [hsz,hi]
    · simp [h]
  have key:∀ l:List Nat,l.Nodup→l.countP (fun j=>!(listed.setIfInBounds i true).getD j true) + (if i∈l then 1 else 0)=l.countP fun j=>!listed.getD j true:=by
    intro l
    induction l with
    | nil=>intro _; simp
    | cons x l ih =>
      intro hnd
      obtain ⟨hx,hnd⟩:=List.nodup_cons.1 hnd
      have ih:=ih hnd
      rw [List.countP_cons,List.countP_cons,hget]
      by_cases h:i=x
      · subst h
        rw [if_neg hx] at ih
        simp [hl] at ih ⊢
        omega
      · rw [if_neg h]
        have hm:(i∈x :: l)=(i∈l):=by simp [h]
        simp only [hm]
        omega
  have:=key (List.range n) List.nodup_range
  rw [if_pos (List.mem_range.2 hi)] at this
  exact this
theorem any_sound {I:Array Bool→Act→World→Prop} (hac:∀ (i:Nat) (o:Oper),os[i]?=some o→∀ e∈o.after,Region.binds .any e=true→e.on < i)
    (hstep:∀ (listed:Array Bool) (a:Act) (w:World),listed.size=os.size→I listed a w→∀ (i:Nat) (o:Oper),os[i]?=some o→listed.getD i true=false→(∀ e∈o.after,Region.binds .any e=true→listed.getD e.on false=true)→wpOp P os Q i (I (listed.setIfInBounds i true)) a w)
    (hfin:∀ (listed:Array Bool) (a:Act) (w:World),listed.size=os.size→I listed a w→(∀ i,i < os.size→listed.getD i true=true)→Q .normal a w) :
    ∀ (fuel:Nat) (listed:Array Bool) (a:Act) (w:World),listed.size=os.size→open_ os.size listed=fuel→I listed a w→wpAny P .any os Q fuel listed a w:=by
  have hready:∀ listed:Array Bool,listed.size=os.size→Region.ready .any os listed=[]→∀ i,i < os.size→listed.getD i true=true:=by
    intro listed hsz hr i
    induction i using Nat.strongRecOn with
    | _ i ih =>
      intro hi
      cases hl:listed.getD i true with
      | true=>rfl
      | false =>
        exfalso
        have:i∈Region.ready .any os listed:=by
          refine List.mem_filter.2 ⟨List.mem_range.2 hi,?_⟩
          rw [hl,Array.getElem?_eq_getElem hi]
          simp only [Bool.not_false,Bool.true_and,Option.map_some,Option.getD_some,Array.all_eq_true_iff_forall_mem]
          intro e he
          cases hbd:Region.binds .any e with
          | false=>simp
          | true =>
          have hlt:=hac i _ (Array.getElem?_eq_getElem hi) e he hbd
          have:=ih e.on hlt (by omega)
          have h2:listed.getD e.on false=true:=by
            rw [Array.getD_eq_getD_getElem?] at this ⊢
            rw [Array.getElem?_eq_getElem (by omega)] at this ⊢
            simpa using this
          simp [h2]
        rw [hr] at this
        cases this
  intro fuel
  induction fuel with
  | zero =>
    intro listed a w hsz hop hI
    have hall:∀ i,i < os.size→listed.getD i true=true:=by
      intro i hi
      cases hl:listed.getD i true with
      | true=>rfl
      | false=>have:=open_set hi hsz hl; omega
    refine ⟨?_,hfin listed a w hsz hI hall⟩
    refine List.filter_eq_nil_iff.2 fun i hi=>?_
    simp [hall i (List.mem_range.1 hi)]
  | succ fuel ih =>
    intro listed a w hsz hop hI
    refine ⟨fun hr=>hfin listed a w hsz hI (hready listed hsz hr),fun i hi=>?_⟩
    obtain ⟨h1,h2⟩:=List.mem_filter.1 hi
    have hin:=List.mem_range.1 h1
    simp only [Bool.and_eq_true,Bool.not_eq_true'] at h2
    obtain ⟨h2,h3⟩:=h2
    rw [Array.getElem?_eq_getElem hin] at h3
    simp only [Option.map_some,Option.getD_some,Array.all_eq_true_iff_forall_mem] at h3
    have:=hstep listed a w hsz hI i _ (Array.getElem?_eq_getElem hin) h2 (fun e he hb=>by
      have:=h3 e he
      simpa [hb] using this)
    refine wpOp_mono (fun a' w' hI'=>ih _ a' w' (by simpa using hsz) (by have:=open_set hin hsz h2; omega) hI') this
end
end Go.Vm

namespace Go.Vm
variable [Amb]
open Go.RowKit (Below)
theorem Pre.refl (ob:List Ob):Pre ob ob:=⟨Nat.le_refl _,fun _ _ h _=>.inl h⟩
theorem Pre.get {ob ob2:List Ob} (h:Pre ob ob2) {id:Nat} {o:Ob} (ho:getAt ob id=some o) (hd:o≠.dead) (hm:∀ k l,o≠.mp k l):getAt ob2 id=some o:=by
  rcases h.2 id o ho hd with h | ⟨k,l,l2,h,_⟩
  · exact h
  · exact absurd h (hm k l)
theorem Pre.map {ob ob2:List Ob} (h:Pre ob ob2) {id:Nat} {k:Ty} {l:List (k.den×Int)} (ho:getAt ob id=some (.mp k l)):∃ l2,getAt ob2 id=some (.mp k l2)∧∀ y,mget k l2 y=mget k l y:=by
  rcases h.2 id _ ho (fun e=>by cases e) with h | ⟨k',l',l2,h,h2,h3⟩
  · exact ⟨l,h,fun _=>rfl⟩
  · cases h
    exact ⟨l2,h2,h3⟩
theorem Pre.of_app {ob ob2:List Ob} (h:∃ r,ob2=ob++r):Pre ob ob2:=by
  obtain ⟨r,rfl⟩:=h
  refine ⟨by simp,fun id o ho _=>.inl ?_⟩
  rw [getAt_eq] at ho ⊢
  rw [List.getElem?_append_left (lt_of_get ho)]
  exact ho
def Leq (u u2:V):Prop:=u=.any∨u2=u
theorem Pre.plain {ob ob2:List Ob} (h:Pre ob ob2) (v:V):Leq (plain ob v) (plain ob2 v):=by
  cases v with
  | own id =>
    simp only [Vm.plain]
    cases hg:getAt ob id with
    | none=>exact .inl rfl
    | some o =>
      by_cases hd:o=.dead
      · subst hd; exact .inl rfl
      · by_cases hm:∃ k l,o=.mp k l
        · obtain ⟨k,l,rfl⟩:=hm; exact .inl rfl
        · rw [h.get hg hd (fun k l e=>hm ⟨k,l,e⟩)]; exact .inr rfl
  | sub id i j =>
    simp only [Vm.plain]
    cases hg:getAt ob id with
    | none=>exact .inl rfl
    | some o =>
      by_cases hd:o=.dead
      · subst hd; exact .inl rfl
      · by_cases hm:∃ k l,o=.mp k l
        · obtain ⟨k,l,rfl⟩:=hm; exact .inl rfl
        · rw [h.get hg hd (fun k l e=>hm ⟨k,l,e⟩)]; exact .inr rfl
  | part id i j =>
    simp only [Vm.plain]
    cases hg:getAt ob id with
    | none=>exact .inl rfl
    | some o =>
      by_cases hd:o=.dead
      · subst hd; exact .inl rfl
      · by_cases hm:∃ k l,o=.mp k l
        · obtain ⟨k,l,rfl⟩:=hm; exact .inl rfl
        · rw [h.get hg hd (fun k l e=>hm ⟨k,l,e⟩)]; exact .inr rfl
  | _=>exact .inr rfl
theorem Pre.rowish {ob ob2:List Ob} (h:Pre ob ob2) (v:V):Leq (rowish ob v) (rowish ob2 v):=by
  cases v with
  | own id =>
    simp only [Vm.rowish,Vm.plain]
    cases hg:getAt ob id with
    | none=>exact .inl rfl
    | some o =>
      by_cases hd:o=.dead
      · subst hd; exact .inl rfl
      · by_cases hm:∃ k l,o=.mp k l
        · obtain ⟨k,l,rfl⟩:=hm; exact .inl rfl
        · rw [h.get hg hd (fun k l e=>hm ⟨k,l,e⟩)]; exact .inr rfl
  | _=>simp only [Vm.rowish]; exact h.plain _
theorem Leq.getd {u u2:V} (h:Leq u u2) {t:Ty} {x:t.den} (hg:getd t u=some x):Vm.getd t u2=some x:=by
  rcases h with rfl | rfl
  · simp [Vm.getd] at hg
  · exact hg
theorem Leq.refl (u:V):Leq u u:=.inr rfl
theorem all2_map2 {α β γ:Type} {R:β→γ→Prop} {f:α→β} {g:α→γ} (h:∀ x,R (f x) (g x)) (l:List α):All2 R (l.map f) (l.map g) :=
  ⟨by simp,fun i x y hx hy=>by
    simp only [List.getElem?_map,Option.map_eq_some_iff] at hx hy
    obtain ⟨a,ha,rfl⟩:=hx
    obtain ⟨b,hb,rfl⟩:=hy
    rw [ha] at hb
    cases hb
    exact h a⟩
theorem all2_refl {α:Type} {R:α→α→Prop} (h:∀ x,R x x) (l:List α):All2 R l l :=
  ⟨rfl,fun i x y hx hy=>by rw [hx] at hy; cases hy; exact h x⟩
theorem all2_cons {α β:Type} {R:α→β→Prop} {x:α} {l:List α} {m:List β} (h:All2 R (x :: l) m):∃ y r,m=y :: r∧R x y∧All2 R l r:=by
  cases m with
  | nil=>exact absurd h.1 (by simp)
  | cons y r=>exact ⟨y,r,rfl,h.2 0 x y rfl rfl,by simpa using h.1,fun i a b ha hb=>h.2 (i + 1) a b (by simpa using ha) (by simpa using hb)⟩
theorem ofc_leq:∀ {t:Ty} {us us2:List V} {x:t.den} {rest:List V},ofc t us=some (x,rest)→All2 Leq us us2→∃ rest2,ofc t us2=some (x,rest2)∧All2 Leq rest rest2:=by
  have base:∀ {t:Ty} {us us2:List V} {x:t.den} {rest:List V},(∀ l:List V,ofc t l=match l with | v :: r=>(match getd t v with | some x=>some (x,r) | none=>none) | [] => none)→ofc t us=some (x,rest)→All2 Leq us us2→∃ rest2,ofc t us2=some (x,rest2)∧All2 Leq rest rest2:=by
    intro t us us2 x rest he h ha
    rw [he] at h
    cases us with
    | nil=>cases h
    | cons u r =>
      obtain ⟨y,r2,rfl,h1,h2⟩:=all2_cons ha
      simp only at h
      split at h
      · rename_i z hz
        simp only [Option.some.injEq,Prod.mk.injEq] at h
        obtain ⟨rfl,rfl⟩:=h
        refine ⟨r2,?_,h2⟩
        rw [he]
        simp only [h1.getd hz]
      · cases h
  intro t
  induction t with
  | unit =>
    intro us us2 x rest h ha
    simp only [ofc,Option.some.injEq,Prod.mk.injEq] at h
    obtain ⟨_,rfl⟩:=h
    exact ⟨us2,rfl,ha⟩
  | pair a b iha ihb =>
    intro us us2 x rest h ha
    simp only [ofc] at h
    split at h
    · rename_i x1 r1 h1
      split at h
      · rename_i x2 r2 h2
        simp only [Option.some.injEq,Prod.mk.injEq] at h
        obtain ⟨rfl,rfl⟩:=h
        obtain ⟨q1,e1,a1⟩:=iha h1 ha
        obtain ⟨q2,e2,a2⟩:=ihb h2 a1
        exact ⟨q2,by simp only [ofc,e1,e2],a2⟩
      · cases h
    · cases h
  | int k=>exact base (fun l=>by cases l<;>rfl)
  | bool=>exact base (fun l=>by cases l<;>rfl)
  | str=>exact base (fun l=>by cases l<;>rfl)
  | slice e=>exact base (fun l=>by cases l<;>rfl)
  | ptr e=>exact base (fun l=>by cases l<;>rfl)
  | ifp k0 e=>exact base (fun l=>by cases l<;>rfl)
theorem ofcells_leq {t:Ty} {us us2:List V} {x:t.den} (h:ofcells t us=some x) (ha:All2 Leq us us2):ofcells t us2=some x:=by
  simp only [ofcells] at h
  split at h
  · rename_i y hy
    have h:=Option.some.inj h
    subst h
    obtain ⟨r,e,a⟩:=ofc_leq hy ha
    have:r=[] := by have:=a.1; simpa using this.symm
    subst this
    simp only [ofcells,e]
  · cases h
section
variable {ob ob2:List Ob}
theorem Pre.ptCells (h:Pre ob ob2) {id i off n:Nat} {cs:List V} (hc:ptCells ob id i off n=some cs):∃ cs2,Vm.ptCells ob2 id i off n=some cs2∧All2 Leq cs cs2:=by
  unfold Vm.ptCells at hc
  cases hg:getAt ob id with
  | none=>rw [hg] at hc; cases hc
  | some o =>
    rw [hg] at hc
    have hd:o≠.dead:=by rintro rfl; cases hc
    unfold Vm.ptCells
    have hm:∀ k l,o≠.mp k l:=by rintro k l rfl; cases hc
    rw [h.get hg hd hm]
    cases o with
    | box us =>
      simp only at hc ⊢
      split at hc
      · rename_i hh
        rw [if_pos hh]
        have hc:=Option.some.inj hc
        subst hc
        exact ⟨_,rfl,all2_map2 (fun v=>h.plain v) _⟩
      · cases hc
    | fbox us =>
      simp only at hc ⊢
      split at hc
      · rename_i hh
        rw [if_pos hh]
        have hc:=Option.some.inj hc
        subst hc
        exact ⟨_,rfl,all2_map2 (fun v=>h.plain v) _⟩
      · cases hc
    | row dp e l =>
      simp only at hc ⊢
      exact ⟨cs,hc,all2_refl Leq.refl _⟩
    | pre e l n=>cases hc
    | mp k l=>cases hc
    | frz e l =>
      simp only at hc ⊢
      exact ⟨cs,hc,all2_refl Leq.refl _⟩
    | dead=>cases hc
theorem Pre.asCell (h:Pre ob ob2) {t:Ty} {v:V} {x:t.den} (hx:asCell ob t v=some x):Vm.asCell ob2 t v=some x:=by
  have key:getd t (Vm.plain ob v)=some x→getd t (Vm.plain ob2 v)=some x:=(h.plain v).getd
  cases t with
  | ptr e =>
    cases v with
    | rp t' x' off=>exact hx
    | pt id i off =>
      simp only [Vm.asCell] at hx ⊢
      split at hx
      · rename_i cs hcs
        obtain ⟨cs2,e',a⟩:=h.ptCells hcs
        simp only [e']
        simp only [Option.map_eq_some_iff] at hx ⊢
        obtain ⟨y,hy,rfl⟩:=hx
        exact ⟨y,ofcells_leq hy a,rfl⟩
      · cases hx
    | _=>exact key hx
  | ifp k0 e =>
    cases v with
    | d t' x' =>
      cases t' with
      | ifp k' e'=>exact hx
      | _=>exact key hx
    | _=>exact key hx
  | _=>exact key hx
theorem Pre.asTy (h:Pre ob ob2) {t:Ty} {v:V} {x:t.den} (hx:asTy ob t v=some x):Vm.asTy ob2 t v=some x:=by
  unfold Vm.asTy at hx ⊢
  split
  · rename_i hag
    rw [if_pos hag] at hx
    split at hx
    · exact ofcells_leq hx (all2_map2 (fun v=>h.plain v) _)
    · cases hx
  · rename_i hag
    rw [if_neg hag] at hx
    exact h.asCell hx
theorem Pre.asTup (h:Pre ob ob2):∀ {ts:List Ty} {vs:List V} {x:Tup ts},asTup ob ts vs=some x→Vm.asTup ob2 ts vs=some x
  | [],[],_,hx=>hx
  | t :: ts,v :: vs,x,hx=>by
    simp only [Vm.asTup] at hx ⊢
    split at hx
    · rename_i y r h1 h2
      rw [h.asTy h1,h.asTup h2]
      exact hx
    · cases hx
  | [],_ :: _,_,hx=>by simp [Vm.asTup] at hx
  | _ :: _,[],_,hx=>by simp [Vm.asTup] at hx
theorem Pre.fieldA (h:Pre ob ob2) {v u:V} {off:Nat} (hx:fieldA ob v off=some u):Vm.fieldA ob2 v off=some u:=by
  unfold Vm.fieldA at hx ⊢
  split at hx
  · rename_i id i o
    cases hg:getAt ob id with
    | none=>rw [hg] at hx; cases hx
    | some q =>
      rw [hg] at hx
      have hd:q≠.dead:=by rintro rfl; cases hx
      by_cases hm:∃ k l,q=.mp k l
      · obtain ⟨k,l,rfl⟩:=hm
        obtain ⟨l2,h2,_⟩:=h.map hg
        simp only [h2]; exact hx
      · simp only [h.get hg hd (fun k l e=>hm ⟨k,l,e⟩)]; exact hx
  · exact hx
  · cases hx
end
end Go.Vm

namespace Go.Vm
variable [Amb]
open Go.RowKit (Below)
section
variable {P:Program} {R:Type} {r:R} {W:Option Bool}
theorem chk_told {A:Type} {ok:Bool} {v:A} {k:A→Option R} (h:chk W ok (k v)=some r):k v=some r∧∀ (R2:Type) (k2:A→Option R2),chk W ok (k2 v)=k2 v:=by
  cases W with
  | none =>
    simp only [chk] at h ⊢
    split at h
    · rename_i hc
      exact ⟨h,fun R2 k2=>by rw [if_pos hc]⟩
    · cases h
  | some y =>
    simp only [chk] at h ⊢
    split at h
    · rename_i hc
      exact ⟨h,fun R2 k2=>by rw [if_pos hc]⟩
    · cases h
theorem bin_told {ut:Option TypeDesc} {op:BinOp} {x y:V} {k:V→Option R} (h:bin ut W op x y k=some r):∃ v,k v=some r∧∀ (R2:Type) (k2:V→Option R2),bin ut W op x y k2=k2 v:=by
  unfold bin at h ⊢
  split at h
  · rename_i k1 a k2 b
    split at h
    · obtain ⟨h1,h2⟩:=chk_told h
      exact ⟨_,h1,fun R2 k2=>h2 R2 k2⟩
    · obtain ⟨h1,h2⟩:=chk_told h
      exact ⟨_,h1,fun R2 k2=>h2 R2 k2⟩
    · split at h
      · rename_i hk
        split at h
        · obtain ⟨h1,h2⟩:=chk_told h
          exact ⟨_,h1,fun R2 k2=>by rw [if_pos hk]; exact h2 R2 k2⟩
        · obtain ⟨h1,h2⟩:=chk_told h
          exact ⟨_,h1,fun R2 k2=>by rw [if_pos hk]; exact h2 R2 k2⟩
        · exact ⟨_,h,fun R2 k2=>by rw [if_pos hk]⟩
        · exact ⟨_,h,fun R2 k2=>by rw [if_pos hk]⟩
        · exact ⟨_,h,fun R2 k2=>by rw [if_pos hk]⟩
        · split at h
          · rename_i v hv
            refine ⟨v,h,fun R2 k2=>?_⟩
            rw [if_pos hk]
          · cases h
      · cases h
  · split at h
    · obtain ⟨h1,h2⟩:=chk_told h
      exact ⟨_,h1,fun R2 k2=>h2 R2 k2⟩
    · split at h
      · rename_i v hv
        exact ⟨v,h,fun R2 k2=>rfl⟩
      · cases h
  · split at h
    · exact ⟨_,h,fun _ _=>rfl⟩
    · exact ⟨_,h,fun _ _=>rfl⟩
    · cases h
  · split at h
    · exact ⟨_,h,fun _ _=>rfl⟩
    · exact ⟨_,h,fun _ _=>rfl⟩
    · cases h
  · split at h
    · rename_i hne
      split at h
      · exact ⟨_,h,fun _ _=>by rw [if_pos hne]⟩
      · exact ⟨_,h,fun _ _=>by rw [if_pos hne]⟩
      · cases h
    · cases h
  · split at h
    · exact ⟨_,h,fun _ _=>rfl⟩
    · exact ⟨_,h,fun _ _=>rfl⟩
    · cases h
  · split at h
    · exact ⟨_,h,fun _ _=>rfl⟩
    · exact ⟨_,h,fun _ _=>rfl⟩
    · cases h
  · cases h
theorem sliceV_told {ob:List Ob} {u:Option TypeDesc} {esz:TypeId→Nat→Bool} {x:V} {lo hi:Option V} {k:V→Option R} (h:sliceV ob u W esz x lo hi k=some r):∃ v,k v=some r∧∀ (ob2:List Ob),Pre ob ob2→∀ (R2:Type) (k2:V→Option R2),sliceV ob2 u W esz x lo hi k2=k2 v:=by
  unfold sliceV at h
  split at h
  · split at h
    · rename_i hl hh
      obtain ⟨h1,h2⟩:=chk_told h
      exact ⟨_,h1,fun ob2 _ R2 k2=>by simp only [sliceV,hl,hh]; exact h2 R2 k2⟩
    · cases h
  · split at h
    · rename_i hz
      split at h
      · rename_i hl hh
        obtain ⟨h1,h2⟩:=chk_told h
        refine ⟨_,h1,fun ob2 _ R2 k2=>?_⟩
        simp only [sliceV,hl,hh]
        rw [if_pos hz]
        exact h2 R2 k2
      · cases h
    · cases h
  · split at h
    · rename_i hg
      split at h
      · rename_i hz
        split at h
        · rename_i hl hh
          obtain ⟨h1,h2⟩:=chk_told h
          refine ⟨_,h1,fun ob2 hp R2 k2=>?_⟩
          simp only [sliceV,hp.get hg (fun e=>by cases e) (fun k l e=>by cases e),hl,hh]
          rw [if_pos hz]
          exact h2 R2 k2
        · cases h
      · cases h
    · cases h
  · cases h
theorem Pre.boxes {ob ob2:List Ob} (h:Pre ob ob2) {ids:List Nat} (hb:ids.all (isBoxB ob)=true):ids.all (isBoxB ob2)=true:=by
  rw [List.all_eq_true] at hb ⊢
  intro id hid
  have h1:=hb id hid
  unfold isBoxB at h1 ⊢
  cases hg:getAt ob id with
  | none=>rw [hg] at h1; cases h1
  | some o =>
    rw [hg] at h1
    cases o with
    | box us=>rw [h.get hg (fun e=>by cases e) (fun k l e=>by cases e)]
    | fbox us=>rw [h.get hg (fun e=>by cases e) (fun k l e=>by cases e)]
    | _=>cases h1
theorem callC_told {f:V} {vs:List V} {k:V→St→Option R} {T:FuncId→Option Sig} {st:St} {y:Bool} (h:callC T st (some y) f vs k=some r):∃ v,k v st=some r∧∀ (st2:St),Pre st.ob st2.ob→∀ (R2:Type) (k2:V→St→Option R2),callC T st2 (some y) f vs k2=k2 v st2:=by
  unfold callC at h
  split at h
  case h_4=>cases h
  · rename_i f ty x
    split at h
    case h_2=>cases h
    rename_i sig hsig
    split at h
    case isFalse=>cases h
    rename_i hc
    split at h
    case h_2=>cases h
    rename_i z hz
    simp only [Option.bind_eq_some_iff] at h
    obtain ⟨w,hw,hk⟩:=h
    refine ⟨_,hk,fun st2 hp R2 k2=>?_⟩
    simp only [callC,hsig,if_pos hc,hp.asTup hz,hw,Option.bind_some]
  · rename_i f ty x
    split at h
    case h_2=>cases h
    rename_i sig hsig
    split at h
    case isFalse=>cases h
    rename_i hc
    split at h
    case h_2=>cases h
    rename_i z hz
    simp only [Option.bind_eq_some_iff] at h
    obtain ⟨w,hw,hk⟩:=h
    refine ⟨_,hk,fun st2 hp R2 k2=>?_⟩
    simp only [callC,hsig,if_pos hc,hp.asTup hz,hw,Option.bind_some]
  · rename_i f ids
    split at h
    case h_2=>cases h
    rename_i sig hsig
    split at h
    case isFalse=>cases h
    rename_i hc
    split at h
    case h_2=>cases h
    rename_i z hz
    simp only [Option.bind_eq_some_iff] at h
    obtain ⟨w,hw,hk⟩:=h
    refine ⟨_,hk,fun st2 hp R2 k2=>?_⟩
    have hc2:(sig.w.isNone && !sig.fresh && sig.rs.all flat && ids.all (isBoxB st2.ob))=true:=by
      simp only [Bool.and_eq_true] at hc ⊢
      exact ⟨hc.1,hp.boxes hc.2⟩
    simp only [callC,hsig,if_pos hc2,hp.asTup hz,hw,Option.bind_some]
theorem icall_told {T:FuncId→Option Sig} {ob ob2:List Ob} (hp:Pre ob ob2) {t:Ty} {x:t.den} {name:String} {us:List V}:∀ {ks:List TypeId} {g:Int} {b:Bool},icall P T ob t x name us ks g=some b→icall P T ob2 t x name us ks g=some b
  | [],_,_,h=>by cases h
  | k :: r,g,b,h=>by
    simp only [icall] at h ⊢
    split at h
    case h_2=>cases h
    rename_i f hf
    split at h
    case h_2=>cases h
    rename_i sig hsig
    split at h
    case isFalse=>cases h
    rename_i hc
    split at h
    case h_2=>cases h
    rename_i z hz
    simp only [hsig,if_pos hc,hp.asTup hz]
    split at h
    · rename_i hg
      rw [if_pos hg]
      exact h
    · rename_i hg
      rw [if_neg hg]
      exact icall_told hp h
theorem icallD_told {T:FuncId→Option Sig} {ob ob2:List Ob} (hp:Pre ob ob2) {t:Ty} {x:t.den} {name:String} {us:List V} {rt:Ty}:∀ {ks:List TypeId} {g:Int} {b:rt.den},icallD P T ob t x name us rt ks g=some b→icallD P T ob2 t x name us rt ks g=some b
  | [],_,_,h=>by cases h
  | k :: r,g,b,h=>by
    simp only [icallD] at h ⊢
    split at h
    case h_2=>cases h
    rename_i f hf
    split at h
    case h_2=>cases h
    rename_i sig hsig
    split at h
    case isFalse=>cases h
    rename_i hc
    split at h
    case h_2=>cases h
    rename_i z hz
    simp only [hsig,if_pos hc,hp.asTup hz]
    split at h
    · rename_i hg
      rw [if_pos hg]
      exact h
    · rename_i hg
      rw [if_neg hg]
      exact icallD_told hp h
theorem callX_told {T:FuncId→Option Sig} {st:St} {v:V} {name:String} {us:List V} {k:V→St→Option R} {y:Bool} (h:callX P T st (some y) v name us k=some r):∃ u,k u st=some r∧∀ (st2:St),Pre st.ob st2.ob→∀ (R2:Type) (k2:V→St→Option R2),callX P T st2 (some y) v name us k2=k2 u st2:=by
  unfold callX at h
  split at h
  case h_2=>cases h
  rename_i ks t g x
  split at h
  · rename_i ta tb hta
    split at h
    · cases h
    rename_i hno
    simp only [Option.bind_eq_some_iff] at h
    obtain ⟨b,hb,hk⟩:=h
    refine ⟨_,hk,fun st2 hp R2 k2=>?_⟩
    cases y with
    | true =>
      simp only [if_true] at hb
      simp only [callX,hta,if_neg hno,if_true,icallD_told hp hb,Option.bind_some]
    | false =>
      simp only [Bool.false_eq_true,if_false] at hb
      cases hb
      simp only [callX,hta,if_neg hno,Bool.false_eq_true,if_false,Option.bind_some]
  rename_i hna
  simp only [Option.bind_eq_some_iff] at h
  obtain ⟨b,hb,hk⟩:=h
  refine ⟨_,hk,fun st2 hp R2 k2=>?_⟩
  cases y with
  | true =>
    simp only [if_true] at hb
    cases hA:answerT P T name ks with
    | none=>simp only [callX,hA,if_true,icall_told hp hb,Option.bind_some]
    | some q =>
      cases q with
      | pair ta tb=>exact absurd hA (hna ta tb)
      | _=>simp only [callX,hA,if_true,icall_told hp hb,Option.bind_some]
  | false =>
    simp only [Bool.false_eq_true,if_false] at hb
    cases hb
    cases hA:answerT P T name ks with
    | none=>simp only [callX,hA,Bool.false_eq_true,if_false,Option.bind_some]
    | some q =>
      cases q with
      | pair ta tb=>exact absurd hA (hna ta tb)
      | _=>simp only [callX,hA,Bool.false_eq_true,if_false,Option.bind_some]
theorem cloOf_told {fn:Fn} {bs fr:List V} {k:V→St→Option R} {T:FuncId→Option Sig} {st:St} {y:Bool} (h:cloOf T st (some y) fn bs fr k=some r):∃ v,k v st=some r∧∀ (st2:St),Pre st.ob st2.ob→∀ (R2:Type) (k2:V→St→Option R2),cloOf T st2 (some y) fn bs fr k2=k2 v st2:=by
  unfold cloOf at h
  split at h
  · split at h
    case h_2=>cases h
    rename_i sig hsig
    split at h
    case h_2=>cases h
    rename_i t ts hps
    split at h
    case isFalse=>cases h
    rename_i hc
    split at h
    case h_2=>cases h
    rename_i x hx
    refine ⟨_,h,fun st2 hp R2 k2=>?_⟩
    simp only [cloOf,hsig,hps,if_pos hc,hp.asTup hx]
  · contradiction
  · cases h
theorem readAt_told {ob:List Ob} {n:Nat} {p:V} {k:List V→Option R} (h:readAt W ob n p k=some r):∃ v,k v=some r∧∀ (ob2:List Ob),Pre ob ob2→∀ (R2:Type) (k2:List V→Option R2),readAt W ob2 n p k2=k2 v:=by
  unfold readAt at h
  split at h
  · rename_i id i off
    cases hg:getAt ob id with
    | none=>rw [hg] at h; cases h
    | some o =>
      rw [hg] at h
      have hd:o≠.dead:=by rintro rfl; cases h
      have hm:∀ k l,o≠.mp k l:=by rintro k l rfl; cases h
      have key:∀ ob2,Pre ob ob2→getAt ob2 id=some o:=fun ob2 hp=>hp.get hg hd hm
      cases o with
      | box cs =>
        simp only at h
        split at h
        · rename_i hc
          exact ⟨_,h,fun ob2 hp R2 k2=>by simp only [readAt,key ob2 hp,if_pos hc]⟩
        · cases h
      | fbox cs =>
        simp only at h
        split at h
        · rename_i hc
          exact ⟨_,h,fun ob2 hp R2 k2=>by simp only [readAt,key ob2 hp,if_pos hc]⟩
        · cases h
      | row dp e l =>
        cases dp with
        | true =>
          simp only at h
          split at h
          · rename_i hc
            exact ⟨_,h,fun ob2 hp R2 k2=>by simp only [readAt,key ob2 hp,if_pos hc]⟩
          · cases h
        | false =>
          simp only at h
          split at h
          · rename_i hc
            exact ⟨_,h,fun ob2 hp R2 k2=>by simp only [readAt,key ob2 hp,if_pos hc]⟩
          · cases h
      | frz e l =>
        simp only at h
        split at h
        · rename_i hc
          exact ⟨_,h,fun ob2 hp R2 k2=>by simp only [readAt,key ob2 hp,if_pos hc]⟩
        · cases h
      | pre e l m =>
        simp only at h
        split at h
        · rename_i hc
          obtain ⟨h1,h2⟩:=chk_told h
          refine ⟨_,h1,fun ob2 hp R2 k2=>?_⟩
          simp only [readAt,key ob2 hp,if_pos hc]
          exact h2 R2 k2
        · cases h
      | mp k l=>cases h
      | dead=>cases h
  · split at h
    · rename_i hc
      exact ⟨_,h,fun ob2 _ R2 k2=>by simp only [readAt,if_pos hc]⟩
    · cases h
  · split at h
    · rename_i hc
      have h1:∃ v,chk W _ (k v)=some r:=⟨_,h⟩
      refine ⟨_,(chk_some h).1,fun ob2 _ R2 k2=>?_⟩
      simp only [readAt,if_pos hc]
      cases W with
      | none =>
        simp only [chk] at h ⊢
        split at h
        · rename_i hc; rw [if_pos hc]
        · cases h
      | some y =>
        simp only [chk] at h ⊢
        split at h
        · rename_i hc; rw [if_pos hc]
        · cases h
    · cases h
  · cases h
theorem load_told {ob:List Ob} {t:TypeId} {p:V} {k:V→Option R} (h:load P W ob t p k=some r):∃ v,k v=some r∧∀ (ob2:List Ob),Pre ob ob2→∀ (R2:Type) (k2:V→Option R2),load P W ob2 t p k2=k2 v:=by
  unfold load at h ⊢
  split at h
  · rename_i ag i hag hi
    obtain ⟨cs,h1,h2⟩:=readAt_told h
    split at h1
    · rename_i hh
      refine ⟨_,h1,fun ob2 hp R2 k2=>?_⟩
      rw [h2 ob2 hp]
      rw [if_pos hh]
    · rename_i hh
      split at h1
      · rename_i v
        refine ⟨v,h1,fun ob2 hp R2 k2=>?_⟩
        rw [h2 ob2 hp]
        rw [if_neg hh]
      · cases h1
  · cases h
theorem conv_told {a b:TypeId} {x:V} {k:V→Option R} (h:conv P W a b x k=some r):∃ v,k v=some r∧∀ (x2:V),Leq x x2→∀ (R2:Type) (k2:V→Option R2),conv P W a b x2 k2=k2 v:=by
  have hn:∀ {Q:Type} {y:Q},chk W false (none:Option Q)=some y→False:=by
    intro Q y h
    cases W with
    | none=>simp [chk] at h
    | some y =>
      simp only [chk] at h
      split at h<;>cases h
  have leq:∀ {x2:V},Leq x x2→x≠.any→x2=x:=fun hl hne=>hl.resolve_left hne
  unfold conv at h
  split at h
  · rename_i h1 h2
    exact ⟨_,h,fun x2 hl _ _=>by rw [leq hl (by simp)]; simp only [conv,h1,h2]⟩
  · rename_i h1 h2
    exact ⟨_,h,fun x2 hl _ _=>by rw [leq hl (by simp)]; simp only [conv,h1,h2]⟩
  · rename_i h1 h2
    split at h
    · rename_i h3
      exact ⟨_,h,fun x2 hl _ _=>by rw [leq hl (by simp)]; simp only [conv,h1,h2,h3]⟩
    · cases h
  · exact (hn h).elim
theorem strIdx_told {x i:V} {k:V→Option R} (h:strIdx W x i k=some r):∃ v,k v=some r∧∀ (R2:Type) (k2:V→Option R2),strIdx W x i k2=k2 v:=by
  unfold strIdx at h ⊢
  split at h
  · unfold strIdxI at h ⊢
    obtain ⟨h1,h2⟩:=chk_told h
    exact ⟨_,h1,h2⟩
  · cases h
theorem tabIdx_told {n:Nat} {x i:V} {k:V→Option R} (h:tabIdx W n x i k=some r):∃ v,k v=some r∧∀ (R2:Type) (k2:V→Option R2),tabIdx W n x i k2=k2 v:=by
  unfold tabIdx at h ⊢
  split at h
  · unfold tabIdxI at h ⊢
    split at h
    · split at h
      · rename_i hc
        obtain ⟨h1,h2⟩:=chk_told h
        refine ⟨_,h1,fun R2 k2=>?_⟩
        rw [if_pos hc]
        exact h2 R2 k2
      · cases h
    · cases h
  · cases h
theorem idx_told {st:St} {x i:V} {k:V→Option R} (h:idx W st x i k=some r):∃ v,k v=some r∧∀ (st2:St),Pre st.ob st2.ob→∀ (R2:Type) (k2:V→Option R2),idx W st2 x i k2=k2 v:=by
  unfold idx at h ⊢
  split at h
  · unfold idxI at h ⊢
    split at h
    · obtain ⟨h1,h2⟩:=chk_told h
      exact ⟨_,h1,fun _ _=>h2⟩
    · rename_i id
      cases hg:getAt st.ob id with
      | none=>rw [hg] at h; cases h
      | some o =>
        rw [hg] at h
        have hd:o≠.dead:=by rintro rfl; cases h
        have hm:∀ k l,o≠.mp k l:=by rintro k l rfl; cases h
        have key:∀ st2:St,Pre st.ob st2.ob→getAt st2.ob id=some o:=fun st2 hp=>hp.get hg hd hm
        cases o with
        | row dp e l =>
          obtain ⟨h1,h2⟩:=chk_told h
          refine ⟨_,h1,fun st2 hp R2 k2=>?_⟩
          simp only [key st2 hp]
          exact h2 R2 k2
        | frz e l =>
          obtain ⟨h1,h2⟩:=chk_told h
          refine ⟨_,h1,fun st2 hp R2 k2=>?_⟩
          simp only [key st2 hp]
          exact h2 R2 k2
        | pre e l m =>
          obtain ⟨h1,h2⟩:=chk_told h
          refine ⟨_,h1,fun st2 hp R2 k2=>?_⟩
          simp only [key st2 hp]
          exact h2 R2 k2
        | _=>cases h
    · cases h
  · cases h
end
section
variable {P:Program} {T:FuncId→Option Sig} {R:Type} {r:R} {st:St} {s:Nat} {ann:List (Nat×Bool)} {y:Bool}
theorem map_ev {st2:St} {l:List Operand} (h:∀ x∈l,∀ ann',ev st2 s ann' x=ev st s ann' x):l.map (ev st2 s ann)=l.map (ev st s ann) :=
  List.map_congr_left fun x hx=>h x hx ann
theorem fillV_ev {st2:St} {pl:List (Nat×Nat)}:∀ {ps:List (Nat×Operand)} {z:List V},(∀ p∈ps,∀ ann',ev st2 s ann' p.2=ev st s ann' p.2)→fillV st2 s ann pl z ps=fillV st s ann pl z ps
  | [],_,_=>rfl
  | (i,x) :: r,z,h=>by
    have hx:=h (i,x) (by simp) ann
    simp only at hx
    simp only [fillV]
    split
    · rename_i off n _
      rw [hx]
      split
      · exact fillV_ev (fun p hp=>h p (by simp [hp]))
      · rfl
    · rfl
theorem Pre.ptOk {ob ob2:List Ob} (h:Pre ob ob2) {v:V} (hv:Vm.ptOk ob v=true):Vm.ptOk ob2 v=true:=by
  cases v with
  | pt id i off =>
    simp only [Vm.ptOk] at hv ⊢
    cases hg:getAt ob id with
    | none=>rw [hg] at hv; cases hv
    | some o =>
      rw [hg] at hv
      have hd:o≠.dead:=by rintro rfl; cases hv
      have hm:∀ k l,o≠.mp k l:=by rintro k l rfl; cases hv
      rw [h.get hg hd hm]; exact hv
  | _=>rfl
theorem mkIfc_mono {P:Program} {ob ob2:List Ob} (hp:Pre ob ob2) {t:TypeId} {v u:V} (h:mkIfc P ob t v=some u):mkIfc P ob2 t v=some u:=by
  unfold mkIfc at h ⊢
  split at h
  case h_2=>cases h
  rename_i e hu
  split at h
  case h_2=>cases h
  rename_i ty hty
  split at h
  case h_2=>cases h
  split at h
  case isFalse=>cases h
  rename_i hpt
  split at h
  case h_2=>cases h
  rename_i us hus
  simp only [Option.map_eq_some_iff] at h
  obtain ⟨y,hy,rfl⟩:=h
  obtain ⟨cs2,e1,e2⟩:=hp.ptCells hus
  simp only [hty,hp.ptOk hpt,if_true,e1,ofcells_leq hy e2,Option.map_some]
theorem callF_told {f:FuncId} {vs:List V} {k:V→St→Option R} (h:callF T st (some y) f vs k=some r):∃ v,k v st=some r∧∀ (st2:St),Pre st.ob st2.ob→∀ (R2:Type) (k2:V→St→Option R2),callF T st2 (some y) f vs k2=k2 v st2:=by
  unfold callF at h ⊢
  split at h
  case h_2=>cases h
  rename_i sig hsig
  split at h
  · cases h
  rename_i hw
  split at h
  case h_2=>cases h
  rename_i x hx
  split at h
  · rename_i hf
    simp only [Option.bind_eq_some_iff] at h
    obtain ⟨z,hz,hk⟩:=h
    refine ⟨_,hk,fun st2 hp R2 k2=>?_⟩
    simp only [hp.asTup hx,if_pos hf,hz,Option.bind_some]
  · rename_i hf
    split at h
    · rename_i hfl
      simp only [Option.bind_eq_some_iff] at h
      obtain ⟨z,hz,hk⟩:=h
      refine ⟨_,hk,fun st2 hp R2 k2=>?_⟩
      simp only [hp.asTup hx,if_neg hf,if_pos hfl,hz,Option.bind_some]
    · rename_i hfl
      simp only at h
      split at h
      · cases h
      · rename_i hown
        simp only [Option.bind_eq_some_iff] at h
        obtain ⟨z,hz,hk⟩:=h
        refine ⟨_,hk,fun st2 hp R2 k2=>?_⟩
        have hown2:¬(vs.any fun v=>(isOwn v || (cellsOf v).any isOwn) && !(isPt v && Vm.ptOk st2.ob v))=true:=by
          intro h
          apply hown
          rw [List.any_eq_true] at h ⊢
          obtain ⟨v,hv,hb⟩:=h
          refine ⟨v,hv,?_⟩
          simp only [Bool.and_eq_true,Bool.not_eq_true'] at hb ⊢
          refine ⟨hb.1,Bool.eq_false_iff.2 (fun he=>?_)⟩
          rw [Bool.and_eq_true] at he
          have:=hb.2
          rw [he.1,hp.ptOk he.2] at this
          cases this
        simp only [hp.asTup hx,if_neg hf,if_neg hfl,if_neg hown2,hz,Option.bind_some]
theorem partsQ_told {st2:St} {e:Ty} (hp:Pre st.ob st2.ob):∀ {ps:List (Nat×Operand)} {j:Nat} {l:List e.den},partsQ st e s ann j ps=some l→(∀ p∈ps,∀ ann',ev st2 s ann' p.2=ev st s ann' p.2)→partsQ st2 e s ann j ps=some l
  | [],_,_,h,_=>h
  | (i,x) :: r,j,l,h,he=>by
    have hx:=he (i,x) (by simp) ann
    simp only at hx
    simp only [partsQ] at h ⊢
    split at h
    · rename_i hij
      rw [if_pos hij,hx]
      split at h
      · rename_i y hm
        split at hm
        · rename_i hk
          split at h
          · rename_i l2 hr
            rw [if_pos hk,ofcells_leq hm (all2_map2 (fun v=>hp.plain v) _)]
            simp only [partsQ_told hp hr (fun p hp'=>he p (by simp [hp']))]
            exact h
          · cases h
        · cases hm
      · cases h
    · cases h
theorem litQ_told {st2:St} {e:Ty} {ps:List (Nat×Operand)} {v:V} (h:litQ st e s ann ps=some v) (he:∀ p∈ps,∀ ann',ev st2 s ann' p.2=ev st s ann' p.2) (hp:Pre st.ob st2.ob):litQ st2 e s ann ps=some v:=by
  unfold litQ at h ⊢
  split at h
  · exact h
  · simp only [Option.map_eq_some_iff] at h ⊢
    obtain ⟨l,hl,hv⟩:=h
    exact ⟨l,partsQ_told hp hl he,hv⟩
theorem opStep_told (hT:∀ f sig,T f=some sig→Con P f sig) {o:Oper} {k:V→St→Option R} (h:opStep P T st s (some y) ann o k=some r):∃ v,k v st=some r∧∀ (st2:St),(∀ x∈o.op.operands,∀ ann',ev st2 s ann' x=ev st s ann' x)→Pre st.ob st2.ob →
    ∀ (R2:Type) (k2:V→St→Option R2),opStep P T st2 s (some y) ann o k2=k2 v st2:=by
  unfold opStep at h
  split at h
  · rename_i x ho
    exact ⟨_,h,fun st2 he hp R2 k2=>by simp only [opStep,ho]; rw [he x (by simp [ho,Op.operands])]⟩
  · rename_i x ho
    exact ⟨_,h,fun st2 he hp R2 k2=>by simp only [opStep,ho]; rw [he x (by simp [ho,Op.operands])]⟩
  · -- pick
    rename_i c a b ho
    split at h
    case h_2=>cases h
    rename_i t
    have ht:∀ st2:St,(∀ x∈o.op.operands,∀ ann',ev st2 s ann' x=ev st s ann' x)→ev st2 s ann (.tmp t)=ev st s ann (.tmp t):=fun st2 he=>he _ (by simp [ho,Op.operands]) ann
    have ha:∀ st2:St,(∀ x∈o.op.operands,∀ ann',ev st2 s ann' x=ev st s ann' x)→∀ ann',ev st2 s ann' a=ev st s ann' a:=fun st2 he=>he _ (by simp [ho,Op.operands])
    have hb:∀ st2:St,(∀ x∈o.op.operands,∀ ann',ev st2 s ann' x=ev st s ann' x)→∀ ann',ev st2 s ann' b=ev st s ann' b:=fun st2 he=>he _ (by simp [ho,Op.operands])
    split at h
    · rename_i b0 hb0
      split at h
      · rename_i b' hb'
        refine ⟨_,h,fun st2 he hp R2 k2=>?_⟩
        simp only [opStep,ho,ht st2 he,ha st2 he,hb0,hb']
      · cases h
    · rename_i b0 hb0 hno
      split at h
      · rename_i b' hb'
        refine ⟨_,h,fun st2 he hp R2 k2=>?_⟩
        simp only [opStep,ho,ht st2 he,hb st2 he,hb0,hb']
      · cases h
    · cases h
  · rename_i t x ho
    obtain ⟨v,h1,h2⟩:=load_told (k:=fun v=>k v st) h
    refine ⟨v,h1,fun st2 he hp R2 k2=>?_⟩
    simp only [opStep,ho,he x (by simp [ho,Op.operands])]
    rw [h2 _ hp]
  · rename_i op t x y' ty ho
    split at h
    · rename_i v hv
      refine ⟨v,h,fun st2 he hp R2 k2=>?_⟩
      simp only [opStep,ho,he x (by simp [ho,Op.operands]),he y' (by simp [ho,Op.operands]),hv]
    · rename_i hv
      obtain ⟨v,h1,h2⟩:=bin_told (k:=fun v=>k v st) h
      refine ⟨v,h1,fun st2 he hp R2 k2=>?_⟩
      simp only [opStep,ho,he x (by simp [ho,Op.operands]),he y' (by simp [ho,Op.operands]),hv]
      rw [h2]
  · rename_i op t x ho
    split at h
    · rename_i v hv
      refine ⟨v,h,fun st2 he hp R2 k2=>?_⟩
      simp only [opStep,ho,he x (by simp [ho,Op.operands]),hv]
    · cases h
  · rename_i t x f ho
    split at h
    · rename_i off n ag hf
      split at h
      · rename_i v hv
        refine ⟨v,h,fun st2 he hp R2 k2=>?_⟩
        simp only [opStep,ho,he x (by simp [ho,Op.operands]),hf,hp.fieldA hv]
      · split at h
        case h_2=>cases h
        rename_i e p hx
        obtain ⟨h1,h2⟩:=chk_told (k:=fun v=>k v st) h
        refine ⟨_,h1,fun st2 he hp R2 k2=>?_⟩
        have hn:fieldA st2.ob (.d (.ptr e) p) off=none:=rfl
        simp only [opStep,ho,he x (by simp [ho,Op.operands]),hf,hx,hn]
        exact h2 R2 (fun v=>k2 v st2)
    · cases h
  · rename_i t x f ho
    split at h
    · rename_i off n ag cs hf hx
      split at h
      · rename_i hag
        refine ⟨_,h,fun st2 he hp R2 k2=>?_⟩
        simp only [opStep,ho,he x (by simp [ho,Op.operands]),hf,hx,if_pos hag]
      · rename_i hag
        split at h
        · rename_i v hv
          refine ⟨_,h,fun st2 he hp R2 k2=>?_⟩
          simp only [opStep,ho,he x (by simp [ho,Op.operands]),hf,hx,if_neg hag,hv]
        · cases h
    · cases h
  · rename_i t x i ho
    split at h
    · rename_i e ht
      split at h
      · rename_i ti hi
        split at h
        · rename_i hsz
          obtain ⟨v,h1,h2⟩:=idx_told (k:=fun v=>k v st) h
          refine ⟨v,h1,fun st2 he hp R2 k2=>?_⟩
          have hsz2:szOk (rowish st2.ob (ev st s ann x)) ti.size=true:=by
            rcases hp.rowish (ev st s ann x) with hl | hl
            · rw [hl] at hsz; cases hsz
            · rw [hl]; exact hsz
          simp only [opStep,ho,he x (by simp [ho,Op.operands]),he i (by simp [ho,Op.operands]),ht,hi,if_pos hsz2]
          rw [h2 _ hp]
        · cases h
      · cases h
    · cases h
  · rename_i t x i ho
    split at h
    · rename_i ht
      obtain ⟨v,h1,h2⟩:=strIdx_told (k:=fun v=>k v st) h
      refine ⟨v,h1,fun st2 he hp R2 k2=>?_⟩
      simp only [opStep,ho,he x (by simp [ho,Op.operands]),he i (by simp [ho,Op.operands]),ht]
      rw [h2]
    · rename_i n e ht
      split at h
      · rename_i ti hag hti
        split at h
        · rename_i hsz
          obtain ⟨v,h1,h2⟩:=tabIdx_told (k:=fun v=>k v st) h
          refine ⟨v,h1,fun st2 he hp R2 k2=>?_⟩
          simp only [opStep,ho,he x (by simp [ho,Op.operands]),he i (by simp [ho,Op.operands]),ht,hag,hti,if_pos hsz]
          rw [h2]
        · cases h
      · cases h
    · cases h
  · rename_i a b x ho
    obtain ⟨v,h1,h2⟩:=conv_told (k:=fun v=>k v st) h
    refine ⟨v,h1,fun st2 he hp R2 k2=>?_⟩
    simp only [opStep,ho,he x (by simp [ho,Op.operands])]
    rw [h2 _ (hp.plain _)]
  · rename_i t x lo hi ho
    obtain ⟨v,h1,h2⟩:=sliceV_told (k:=fun v=>k v st) h
    refine ⟨v,h1,fun st2 he hp R2 k2=>?_⟩
    have hlo:lo.map (ev st2 s ann)=lo.map (ev st s ann):=by
      cases lo with
      | none=>rfl
      | some y=>simp only [Option.map_some]; rw [he y (by simp [ho,Op.operands])]
    have hhi:hi.map (ev st2 s ann)=hi.map (ev st s ann):=by
      cases hi with
      | none=>rfl
      | some y=>simp only [Option.map_some]; rw [he y (by simp [ho,Op.operands])]
    simp only [opStep,ho,he x (by simp [ho,Op.operands]),hlo,hhi]
    rw [h2 _ hp]
  · -- nilCheck
    rename_i x ho
    split at h
    · rename_i id i off hx
      split at h
      · cases h
      · cases h
      · rename_i hno1 hno2
        refine ⟨_,h,fun st2 he hp R2 k2=>?_⟩
        cases hg:getAt st.ob id with
        | none=>exact absurd hg hno2
        | some q =>
          have hq:q≠.dead:=fun e=>hno1 (by rw [hg,e])
          have h2:∃ q2,getAt st2.ob id=some q2∧q2≠.dead:=by
            rcases hp.2 id q hg hq with h | ⟨k,l,l2,_,h,_⟩
            · exact ⟨q,h,hq⟩
            · exact ⟨_,h,fun e=>by cases e⟩
          obtain ⟨q2,h2,hq2⟩:=h2
          simp only [opStep,ho,he x (by simp [ho,Op.operands]),hx,h2]
          cases q2<;>first | rfl | exact absurd rfl hq2
    · rename_i t y' off hx
      refine ⟨_,h,fun st2 he hp R2 k2=>?_⟩
      simp only [opStep,ho,he x (by simp [ho,Op.operands]),hx]
    · rename_i e p hx
      obtain ⟨h1,h2⟩:=chk_told (k:=fun v=>k v st) h
      refine ⟨_,h1,fun st2 he hp R2 k2=>?_⟩
      simp only [opStep,ho,he x (by simp [ho,Op.operands]),hx]
      exact h2 R2 (fun v=>k2 v st2)
    · cases h
  · rename_i x i ho
    split at h
    · rename_i cs hx
      split at h
      · rename_i v hv
        refine ⟨_,h,fun st2 he hp R2 k2=>?_⟩
        simp only [opStep,ho,he x (by simp [ho,Op.operands]),hx,hv]
      · cases h
    · cases h
  · -- call
    rename_i c ho
    have hm:∀ st2:St,(∀ x∈o.op.operands,∀ ann',ev st2 s ann' x=ev st s ann' x)→∀ x∈c.args.toList,∀ ann',ev st2 s ann' x=ev st s ann' x :=
      fun st2 he x hx=>he x (by simp only [ho,Op.operands,Call.operands]; exact Array.mem_append.2 (.inr (by simpa using hx)))
    unfold callO at h
    split at h
    · rename_i f hf
      split at h
      · rename_i X hX
        obtain ⟨sig,hsig,hX2⟩:∃ sig,T f=some sig∧sig.X=some X:=by
          unfold xOf at hX
          split at hX
          · rename_i sig hsig; exact ⟨sig,hsig,hX⟩
          · cases hX
        obtain ⟨v,h1,h2⟩:=runX_told h
        refine ⟨v,h2,fun st2 he hp R2 k2=>?_⟩
        simp only [opStep,ho,callO,hf,hX]
        rw [map_ev (hm st2 he),runX_some,((hT f sig hsig).xx X hX2).mono _ hp h1]
        rfl
      · rename_i hX
        obtain ⟨v,h1,h2⟩:=callF_told h
        refine ⟨v,h1,fun st2 he hp R2 k2=>?_⟩
        simp only [opStep,ho,callO,hf,hX]
        rw [map_ev (hm st2 he),h2 _ hp]
    · rename_i t hf
      obtain ⟨v,h1,h2⟩:=callC_told h
      refine ⟨v,h1,fun st2 he hp R2 k2=>?_⟩
      simp only [opStep,ho,callO,hf]
      rw [map_ev (hm st2 he),he (.tmp t) (by simp [ho,Op.operands,Call.operands,hf]),h2 _ hp]
    · rename_i xo name hf
      obtain ⟨v,h1,h2⟩:=callX_told h
      refine ⟨v,h1,fun st2 he hp R2 k2=>?_⟩
      simp only [opStep,ho,callO,hf]
      rw [map_ev (hm st2 he),he xo (by simp [ho,Op.operands,Call.operands,hf]),h2 _ hp]
    · rename_i hc
      split at h
      · rename_i x t ha hty
        split at h
        · rename_i v hv
          refine ⟨v,h,fun st2 he hp R2 k2=>?_⟩
          have hv2:lenT (P.underlying t) (plain st2.ob (ev st s ann x))=some v:=by
            rcases hp.plain (ev st s ann x) with hl | hl
            · rw [hl] at hv; simp [lenT] at hv
            · rw [hl]; exact hv
          simp only [opStep,ho,callO,hc,ha,hty,hm st2 he x (by rw [ha]; simp),hv2]
        · cases h
      · cases h
    · rename_i hc
      split at h
      · rename_i x y' ha
        split at h
        · rename_i v hv
          refine ⟨v,h,fun st2 he hp R2 k2=>?_⟩
          simp only [opStep,ho,callO,hc,ha,hm st2 he x (by rw [ha]; simp),hm st2 he y' (by rw [ha]; simp),hv]
        · cases h
      · cases h
    · rename_i hc
      split at h
      · rename_i x y' ha
        split at h
        · rename_i v hv
          refine ⟨v,h,fun st2 he hp R2 k2=>?_⟩
          simp only [opStep,ho,callO,hc,ha,hm st2 he x (by rw [ha]; simp),hm st2 he y' (by rw [ha]; simp),hv]
        · cases h
      · cases h
    · split at h<;>first | cases h | (rename_i hw _ _; cases hw)
    · split at h<;>first | cases h | (rename_i hw _ _; cases hw)
    · cases h
  · rename_i t x ho
    split at h
    · rename_i v hv
      refine ⟨v,h,fun st2 he hp R2 k2=>?_⟩
      have e1:=he x (by simp [ho,Op.operands]) ann
      simp only [opStep,ho,e1,mkIfc_mono hp hv]
    · cases h
  · rename_i fn bs fr ho
    obtain ⟨v,h1,h2⟩:=cloOf_told h
    refine ⟨v,h1,fun st2 he hp R2 k2=>?_⟩
    simp only [opStep,ho]
    have:bs.toList.map (ev st2 s ann)=bs.toList.map (ev st s ann):=List.map_congr_left (fun x hx=>he x (by simp only [ho,Op.operands]; exact Array.mem_append.2 (.inl (by simpa using hx))) ann)
    have this2:fr.toList.map (ev st2 s ann)=fr.toList.map (ev st s ann):=List.map_congr_left (fun x hx=>he x (by simp only [ho,Op.operands]; exact Array.mem_append.2 (.inr (by simpa using hx))) ann)
    rw [this,this2,h2 _ hp]
  · split at h<;>first | cases h | (rename_i hw _; cases hw)
  · split at h<;>first | cases h | (rename_i hw _; cases hw)
  · split at h<;>first | cases h | (rename_i hw _ _; cases hw)
  · split at h<;>first | cases h | (rename_i hw; cases hw)
  · rename_i t n ps ho
    split at h
    · rename_i hw _; cases hw
    · rename_i w0 el hw ht
      cases hw
      split at h
      · rename_i ty i hty hi
        split at h
        · rename_i hc
          split at h
          · rename_i v hv
            refine ⟨v,h,fun st2 he hp R2 k2=>?_⟩
            have hv2:litQ st2 ty s ann ps.toList=some v:=litQ_told hv (fun p hp'=>he p.2 (by simp only [ho,Op.operands]; simp; exact ⟨p.1,by simpa using hp'⟩)) hp
            simp only [opStep,ho,ht,hty,hi,if_pos hc,hv2]
          · cases h
        · cases h
      · cases h
    · cases h
  · rename_i t ps ho
    split at h
    · rename_i v hv
      refine ⟨v,h,fun st2 he hp R2 k2=>?_⟩
      have:build P st2 s ann t ps.toList=build P st s ann t ps.toList:=by
        unfold build
        split
        · rw [fillV_ev]
          intro p hp'
          exact he p.2 (by simp only [ho,Op.operands]; simp; exact ⟨p.1,by simpa using hp'⟩)
        · rfl
      simp only [opStep,ho,this,hv]
    · cases h
  · split at h<;>first | cases h | contradiction
  · rename_i t m x ho
    split at h
    · rename_i q id hq hm
      split at h
      · rename_i n hn
        refine ⟨_,h,fun st2 he hp R2 k2=>?_⟩
        have hn2:mlook st2.ob q id (ev st s ann x)=some n:=by
          unfold mlook at hn ⊢
          cases hg:getAt st.ob id with
          | none=>rw [hg] at hn; cases hn
          | some o' =>
            rw [hg] at hn
            cases o' with
            | mp k l =>
              obtain ⟨l2,h2,h3⟩:=hp.map hg
              rw [h2]
              simp only at hn ⊢
              split at hn
              · rename_i hk
                rw [if_pos hk]
                split at hn
                · rename_i y hy
                  rw [h3]
                  exact hn
                · cases hn
              · cases hn
            | _=>cases hn
        simp only [opStep,ho,he m (by simp [ho,Op.operands]),he x (by simp [ho,Op.operands]),hq,hm,hn2]
      · cases h
    · cases h
  · split at h<;>first | cases h | contradiction
  · split at h<;>first | cases h | contradiction
  · split at h<;>first | cases h | contradiction
  · cases h
end
end Go.Vm
