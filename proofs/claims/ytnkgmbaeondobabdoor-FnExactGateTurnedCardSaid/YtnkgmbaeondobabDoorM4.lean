/- A verified symbolic evaluator of loaded Go code: what it tells of a function is the function's contract (part 4). No conditions. -/
import Derived.Test.YtnkgmbaeondobabDoorM3
import Derived.WalkKit
import Derived.ProofKit
import Derived.OpenShut
import Derived.ShutString
import Derived.ChangeOld
import Derived.Below
import Derived.Carry
import Derived.SizedLaws
import Derived.OpenVars
import Derived.LaidMore
import Derived.Stop.Joined
set_option linter.unusedVariables false
set_option linter.unusedSimpArgs false
set_option linter.unnecessarySimpa false
set_option linter.unusedSectionVars false
namespace Go.Vm
variable [Amb]
open Go.RowKit (Below)
open Go.ChangeShapes Go.WideShapes Go.ChangeAt
def wfI (k:IntKind) (n:Int):Prop:=(Lit.int k n).wf=true
def wf:(t:Ty)→t.den→Prop
  | .int k,x=>wfI k x
  | .bool,_=>True
  | .str,s=>ByteArray.size s≤maxLen
  | .slice e,l=>List.length l≤maxLen∧∀ x∈l,wf e x
  | .ptr _,_=>False
  | .ifp _ _,_=>False
  | .unit,_=>True
  | .pair a b,x=>wf a x.1∧wf b x.2
def wfT:(ts:List Ty)→Tup ts→Prop
  | [],_=>True
  | t :: ts,x=>wf t x.1∧wfT ts x.2
def goodF (P:Program) (g:TypeId→Ty→Bool):List Field→Nat→Ty→Bool
  | [],_,.unit=>true
  | f :: r,off,.pair a b=>Nat.beq f.offset off && g f.type a && Nat.beq (P.cellsOf f.type) a.sz && goodF P g r (off + a.sz) b
  | _,_,_=>false
def goodT (P:Program):Nat→TypeId→Ty→Bool
  | 0,_,_=>false
  | n + 1,t,ty=>match P.underlying t,ty with
    | some .bool,.bool=>true
    | some (.int k),.int k'=>decide (k=k')
    | some .string,.str=>true
    | some (.slice e),.slice ty'=>goodT P n e ty' && Nat.beq (P.cellsOf e) ty'.sz && Nat.ble 1 ty'.sz
    | some (.struct fs),ty=>ty.isAgg && goodF P (goodT P n) fs.toList 0 ty && Nat.beq (P.cellsOf t) ty.sz
    | _,_=>false
section
variable {H:Type} {enc:TypeId×Value→H} {P:Program} {w:World}
theorem mem_of_cells {a:Addr} {n:Nat} {vs:List Value} (hn:1≤n) (h:w.cells? 0 a n=some vs):vs.length=n∧Mem w a.block a.off vs∧w.cell? a=vs[0]? := by
  unfold World.cells? at h
  rw [if_pos (Nat.zero_le _)] at h
  have hl:vs.length=n:=by simpa using mapM_some_length h
  have hc:∀ i,i < n→w.cell? (a.add i)=vs[i]? := fun i hi=>mapM_some_get h i i (by simp [hi])
  refine ⟨hl,?_,?_⟩
  · have h0:=hc 0 (by omega)
    rw [List.getElem?_eq_getElem (by omega)] at h0
    have e0:a.add 0=a:=rfl
    rw [e0] at h0
    unfold World.cell? at h0
    split at h0
    · rename_i c T fz hb
      have hcell:∀ i,i < n→c[a.off + i]?=vs[i]? := by
        intro i hi
        have:=hc i hi
        unfold Addr.add at this
        split at this
        · rename_i hi0
          subst hi0
          unfold World.cell? at this
          rw [hb] at this
          simp only at this
          split at this
          · rw [List.getElem?_eq_getElem (by omega)] at this; cases this
          · simpa using this
        · unfold World.cell? at this
          simp only [hb] at this
          simpa using this
      have hlast:=hcell (n - 1) (by omega)
      rw [List.getElem?_eq_getElem (by omega)] at hlast
      have hsz:a.off + (n - 1) < c.size:=(Array.getElem?_eq_some_iff.1 hlast).1
      refine ⟨c,T,fz,hb,by omega,?_⟩
      apply List.ext_getElem?
      intro i
      by_cases hi:i < vs.length
      · rw [cut_get hi]
        have:=hcell i (by omega)
        simpa using this
      · rw [List.getElem?_eq_none (by rw [cut_length]; omega; simp; omega),List.getElem?_eq_none (by omega)]
    · cases h0
  · have h0:=hc 0 (by omega)
    exact h0
theorem spot_none {a:Addr} {v:Value} (h:w.cell? a=some v):a.spot=none:=by
  unfold World.cell? at h
  split at h
  · split at h
    · cases h
    · rename_i hs
      simpa using hs
  · cases h
theorem goodF_rep {g:TypeId→Ty→Bool} {n:Nat} (ih:∀ {t:TypeId} {ty:Ty} {cs:List Value} {y:DataW H×List MemPlace},g t ty=true→DataW.trod enc P w 0 (fun _=>true) true n t cs=some y→∃ x:ty.den,rep w (fun _=>True) ty x cs∧wf ty x) :
    ∀ {fs:List Field} {off:Nat} {ty:Ty} {cs:List Value},goodF P g fs off ty=true→off + ty.sz=cs.length→(∀ (i:Nat) (f:Field),fs[i]?=some f→∃ y,DataW.trod enc P w 0 (fun _=>true) true n f.type ((cs.drop f.offset).take (P.cellsOf f.type))=some y) →
      ∃ x:ty.den,rep w (fun _=>True) ty x (cs.drop off)∧wf ty x
  | [],off,ty,cs,h,hs,_=>by
    cases ty<;>simp [goodF] at h
    exact ⟨(),by simp only [rep]; rw [List.drop_eq_nil_iff]; simp [Ty.sz] at hs; omega,trivial⟩
  | f :: fs,off,ty,cs,h,hs,hf=>by
    cases ty with
    | pair a b =>
      simp only [goodF,Bool.and_eq_true] at h
      obtain ⟨⟨⟨h1,h2⟩,h3⟩,h4⟩:=h
      have h1:=Nat.eq_of_beq_eq_true h1
      have h3:=Nat.eq_of_beq_eq_true h3
      obtain ⟨y,hy⟩:=hf 0 f rfl
      rw [h1,h3] at hy
      obtain ⟨x1,r1,w1⟩:=ih h2 hy
      obtain ⟨x2,r2,w2⟩:=goodF_rep ih h4 (by simp only [Ty.sz] at hs; omega) (fun i f' hf'=>hf (i + 1) f' (by simpa using hf'))
      refine ⟨(x1,x2),⟨_,_,?_,r1,r2⟩,w1,w2⟩
      rw [← List.drop_drop,List.take_append_drop]
    | _=>simp [goodF] at h
theorem rep_of_trod:∀ {n:Nat} {t:TypeId} {ty:Ty} {fuel:Nat} {cs:List Value} {y:DataW H×List MemPlace},goodT P n t ty=true→DataW.trod enc P w 0 (fun _=>true) true fuel t cs=some y→∃ x:ty.den,rep w (fun _=>True) ty x cs∧wf ty x
  | 0,t,ty,fuel,cs,y,h,_=>by simp [goodT] at h
  | n + 1,t,ty,fuel,cs,y,h,ht=>by
    simp only [goodT] at h
    split at h
    · rename_i hu
      obtain ⟨b,h1,_⟩:=DataW.trod_bool hu ht
      exact ⟨b,h1,trivial⟩
    · rename_i k k' hu
      have h:k=k':=by simpa using h
      subst h
      obtain ⟨m,h1,_,h2⟩:=DataW.trod_int hu ht
      exact ⟨m,h1,h2⟩
    · rename_i hu
      obtain ⟨s,h1,_,h2⟩:=DataW.trod_string hu ht
      exact ⟨s,h1,h2⟩
    · rename_i e ty' hu
      simp only [Bool.and_eq_true,Nat.ble_eq] at h
      obtain ⟨⟨h1,h2⟩,h3⟩:=h
      have h2:=Nat.eq_of_beq_eq_true h2
      rcases DataW.trod_slice hu ht with ⟨h0,_⟩ | ⟨a,len,cap,elems,rest,m,_,rfl,_,hb,hl,hm,hlen,hel,_⟩
      · exact ⟨[],⟨none,0,h0,Nat.le_refl _,fun i hi=>absurd hi (Nat.not_lt_zero i)⟩,by simp,fun x hx=>by cases hx⟩
      · have each:∀ i,i < len→∃ (x:ty'.den) (vs:List Value),a.spot=none∧Mem w a.block (a.off + i * ty'.sz) vs∧rep w (fun _=>True) ty' x vs∧wf ty' x:=by
          intro i hi
          have key:∀ i,i < len→∃ vs,w.cells? 0 (a.add (i * P.cellsOf e)) (P.cellsOf e)=some vs∧∃ y,DataW.trod enc P w 0 (fun _=>true) true m e vs=some y:=by
            intro i hi
            have h4:=hel i hi
            rw [List.getElem?_eq_getElem (by omega)] at h4
            simp only [Option.bind_eq_some_iff] at h4
            obtain ⟨vs,h5,h6⟩:=h4
            exact ⟨vs,h5,_,h6⟩
          obtain ⟨vs,h5,y,h6⟩:=key i hi
          obtain ⟨vs0,h50,_⟩:=key 0 (by omega)
          have hs:a.spot=none:=by
            obtain ⟨l0,_,c0⟩:=mem_of_cells (by omega) h50
            rw [List.getElem?_eq_getElem (by omega)] at c0
            have:=spot_none c0
            rw [Nat.zero_mul] at this
            exact this
          obtain ⟨x,hr,hwf⟩:=rep_of_trod h1 h6
          refine ⟨x,vs,hs,?_,hr,hwf⟩
          obtain ⟨_,hm',_⟩:=mem_of_cells (by omega) h5
          have e1:(a.add (i * P.cellsOf e)).block=a.block:=by unfold Addr.add; split<;>rfl
          have e2:(a.add (i * P.cellsOf e)).off=a.off + i * ty'.sz:=by
            rw [h2]
            unfold Addr.add
            split
            · rename_i h0; rw [h0]; rfl
            · rfl
          rw [e1,e2] at hm'
          exact hm'
        have hx:∃ l:List ty'.den,l.length=len∧∀ i (h:i < l.length),a.spot=none∧(∃ vs,Mem w a.block (a.off + i * ty'.sz) vs∧rep w (fun _=>True) ty' l[i] vs)∧wf ty' l[i] := by
          classical
          refine ⟨(List.range len).attach.map fun i=>Classical.choose (each i.1 (List.mem_range.1 i.2)),by simp,fun i hi=>?_⟩
          have hi':i < len:=by simpa using hi
          obtain ⟨vs,g1,g2,g3,g4⟩:=Classical.choose_spec (each i hi')
          simp only [List.getElem_map,List.getElem_attach,List.getElem_range]
          exact ⟨g1,⟨vs,g2,g3⟩,g4⟩
        obtain ⟨l,hll,hx⟩:=hx
        refine ⟨l,⟨some a,cap,by rw [hll],by omega,fun i hi=>?_⟩,by omega,fun x hxm=>?_⟩
        · obtain ⟨g1,⟨vs,g2,g3⟩,_⟩:=hx i hi
          exact ⟨a,vs,rfl,g1,trivial,g2,g3⟩
        · obtain ⟨i,hi,rfl⟩:=List.getElem_of_mem hxm
          exact (hx i hi).2.2
    · rename_i fs hu
      simp only [Bool.and_eq_true] at h
      obtain ⟨⟨_,h1⟩,h2⟩:=h
      have h2:=Nat.eq_of_beq_eq_true h2
      obtain ⟨xs,m,rfl,_,hl,hlen,hf⟩:=DataW.trod_struct hu ht
      obtain ⟨x,hr,hw⟩:=goodF_rep (g:=goodT P n) (n:=m) (fun h h'=>rep_of_trod h h') h1 (cs:=cs) (by omega) (fun i f hi=>by
        have hi':fs[i]?=some f:=by simpa using hi
        have:=hf i f hi'
        rw [this,List.getElem?_eq_getElem (by have:=(Array.getElem?_eq_some_iff.1 hi').1; omega)]
        exact ⟨_,rfl⟩)
      exact ⟨x,by simpa using hr,hw⟩
    · cases h
theorem good_agg {n:Nat} {t:TypeId} {ty:Ty} (h:goodT P n t ty=true) {v:Value} {r:Reach} {b0:Nat} (hv:Value.okWide P w r b0 t v):(ty.isAgg=true→∃ vs,v=.agg vs)∧(ty.isAgg=false→one v):=by
  cases n with
  | zero=>simp [goodT] at h
  | succ n =>
    simp only [goodT] at h
    split at h
    · rename_i hu
      obtain ⟨b,rfl⟩:=okWide_bool hu hv
      exact ⟨fun h=>by simp [Ty.isAgg] at h,fun _=>trivial⟩
    · rename_i k k' hu
      obtain ⟨b,rfl⟩:=okWide_int hu hv
      exact ⟨fun h=>by simp [Ty.isAgg] at h,fun _=>trivial⟩
    · rename_i hu
      obtain ⟨b,rfl⟩:=okWide_string hu hv
      exact ⟨fun h=>by simp [Ty.isAgg] at h,fun _=>trivial⟩
    · rename_i e ty' hu
      obtain ⟨a,l,c,rfl⟩:=okWide_slice hu hv
      exact ⟨fun h=>by simp [Ty.isAgg] at h,fun _=>trivial⟩
    · rename_i fs hu
      simp only [Bool.and_eq_true] at h
      obtain ⟨cs,rfl,_⟩:=okWide_struct hu hv
      exact ⟨fun _=>⟨cs,rfl⟩,fun h'=>by rw [h.1.1] at h'; cases h'⟩
    · cases h
def goodTs (P:Program) (n:Nat):List TypeId→List Ty→Bool
  | [],[] => true
  | t :: ts,ty :: tys=>goodT P n t ty && goodTs P n ts tys
  | _,_=>false
theorem args_of {n:Nat} {r:Reach} {b0:Nat}:∀ {ts:List TypeId} {tys:List Ty} {vs:List Value} {ds:List (DataW H)} {ps:List MemPlace},goodTs P n ts tys=true→DataW.TrodAll enc P w 0 (fun _=>true) true ts vs ds ps →
    (∀ (j:Nat) t v,ts[j]?=some t→vs[j]?=some v→Value.okWide P w r b0 t v)→∃ x:Tup tys,TupRep w (fun _=>True) tys x vs∧wfT tys x
  | [],[],[],_,_,_,_,_=>⟨(),rfl,trivial⟩
  | t :: ts,ty :: tys,v :: vs,d :: ds,ps,hg,ht,hv=>by
    simp only [goodTs,Bool.and_eq_true] at hg
    obtain ⟨p,q,⟨fuel,h1⟩,h2,_⟩:=ht
    obtain ⟨x1,r1,w1⟩:=rep_of_trod hg.1 h1
    obtain ⟨x2,r2,w2⟩:=args_of hg.2 h2 (fun j t v hj hv'=>hv (j + 1) t v (by simpa using hj) (by simpa using hv'))
    have ha:=good_agg hg.1 (hv 0 t v rfl rfl)
    exact ⟨(x1,x2),⟨v,vs,rfl,⟨r1,ha⟩,r2⟩,w1,w2⟩
  | [],_ :: _,_,_,_,h,_,_=>by simp [goodTs] at h
  | _ :: _,[],_,_,_,h,_,_=>by simp [goodTs] at h
  | [],[],_ :: _,_,_,_,h,_=>by simp [DataW.TrodAll] at h
  | _ :: _,_,[],_,_,_,h,_=>by simp [DataW.TrodAll] at h
  | _ :: _,_,_ :: _,[],_,_,h,_=>by simp [DataW.TrodAll] at h
theorem args_behind (hl:laidOutB P=true) {w':World} (hb:Below w.heap.size w w'):∀ {ts:List TypeId} {vs:List Value} {ds:List (DataW H)} {ps:List MemPlace},(ts.all fun t=>P.readableRec t && decide (t < P.types.size))=true→DataW.TrodAll enc P w 0 (fun _=>true) true ts vs ds ps→(∀ x∈ps,x.block < w.heap.size) →
    DataW.TrodAll enc P w' 0 (fun b=>decide (b < w.heap.size)) true ts vs ds ps
  | [],[],[],ps,_,h,_=>h
  | t :: ts,v :: vs,d :: ds,ps,hr,h,hlt=>by
    simp only [List.all_cons,Bool.and_eq_true,decide_eq_true_eq] at hr
    obtain ⟨p,q,h1,h2,rfl⟩:=h
    exact ⟨p,q,Below.trod hl hr.1.1 hr.1.2 h1 hb (fun x hx=>hlt x (List.mem_append.2 (.inl hx))),args_behind hl hb hr.2 h2 (fun x hx=>hlt x (List.mem_append.2 (.inr hx))),rfl⟩
  | [],_ :: _,_,_,_,h,_=>by simp [DataW.TrodAll] at h
  | _ :: _,[],_,_,_,h,_=>by simp [DataW.TrodAll] at h
  | _ :: _,_ :: _,[],_,_,h,_=>by simp [DataW.TrodAll] at h
  | [],[],_ :: _,_,_,h,_=>by simp [DataW.TrodAll] at h
end
theorem law_calls {C:Checked} {f:FuncId} {fn:Func} {H:Type} {enc:TypeId×Value→H}
    {s:ChangeSpec} (hvars:RowKit.varsRowed C.prog s.vars=true) {tys:List Ty} {F:Tup tys→Option (Tup [.bool])} (hcon:Con C.prog f ⟨tys,[.bool],false,F,none,none⟩) (hall:∀ x,wfT tys x→F x=some (true,())) {dep:Nat} (hgood:goodTs C.prog dep fn.params.toList tys=true)
    (hlaid:laidOutB C.prog=true) (hread:(fn.params.toList.all fun t=>C.prog.readableRec t && decide (t < C.prog.types.size))=true) {tb:TypeId} (hres:fn.resultTypes=#[tb]) (htb:C.prog.underlying tb=some .bool)
    (hs:∀ ds gs:List (DataW H),ds.length=fn.params.size→gs.length=s.vars.length→s.fn H (ds++gs)={ results:=[.lit (.bool true)],args:=ds,vars:=gs }) {W:World} {base:Nat} {args:Array Value} {ds gs:List (DataW H)} {before:List MemPlace}
    (hval:∀ (j:Nat) t v,fn.params[j]?=some t→args[j]?=some v→Value.okWide C.prog W .any base t v) (hW:DataW.Whole enc C.prog fn.params.toList s.vars false W args.toList ds gs before) (hA0:Amb.A W) :
    Calls C.prog f args W fun e W'=>∃ v,e=.returned v∧s.post enc C.prog fn false true false false W args v W':=by
  have hW':=hW
  obtain ⟨p,q,hA,hV,rfl,hfz,hnd⟩:=hW
  have hglen:gs.length=s.vars.length:=by
    have key:∀ {ns:List String} {gs:List (DataW H)} {ps:List MemPlace},DataW.TrodVars enc C.prog W (fun _=>true) ns gs ps→gs.length=ns.length:=by
      intro ns
      induction ns with
      | nil=>intro gs ps h; cases gs<;>simp_all [DataW.TrodVars]
      | cons n ns ih =>
        intro gs ps h
        cases gs with
        | nil=>simp [DataW.TrodVars] at h
        | cons d gs =>
          obtain ⟨g,t,cs,fuel,p,q,_,_,_,_,h5,_⟩:=h
          simp [ih h5]
    exact key hV
  obtain ⟨x,hx,hwf⟩:=args_of hgood hA (fun j t v hj hv=>hval j t v (by simpa using hj) (by simpa using hv))
  have hlen:ds.length=fn.params.size:=by
    have key:∀ {ts:List TypeId} {vs:List Value} {ds:List (DataW H)} {ps:List MemPlace},DataW.TrodAll enc C.prog W 0 (fun _=>true) true ts vs ds ps→ds.length=ts.length:=by
      intro ts
      induction ts with
      | nil=>intro vs ds ps h; cases vs<;>cases ds<;>simp_all [DataW.TrodAll]
      | cons t ts ih =>
        intro vs ds ps h
        cases vs with
        | nil=>simp [DataW.TrodAll] at h
        | cons v vs =>
          cases ds with
          | nil=>simp [DataW.TrodAll] at h
          | cons d ds =>
            obtain ⟨p,q,_,h2,_⟩:=h
            simp [ih h2]
    simpa using key hA
  refine (hcon.run rfl (fun _=>True) x (true,()) W args (hall x hwf) hx hA0).mono ?_
  rintro e W' ⟨vs,rfl,hb,hr⟩
  simp only [Bool.false_eq_true,if_false] at hr
  obtain ⟨v,r,rfl,⟨hv,_,h1⟩,hr2⟩:=hr
  have hr2:r=[] := hr2
  subst hr2
  have hv1:=h1 rfl
  have hvb:v=.bool true:=by
    have:v.cells.toList=[.bool true] := hv
    rw [cells_one hv1] at this
    simpa using this
  subst hvb
  have hlt:∀ x∈p,x.block < W.heap.size:=fun x hx=>hW'.lt x (List.mem_append.2 (.inl hx))
  refine ⟨_,rfl,ds,gs,_,[],p,q,hW',?_,?_,?_,hb.frame _,fun h=>by cases h⟩
  · rw [hs ds gs hlen hglen,hres]
    exact trodAll_mk1 (RowKit.shut_bool htb true)
  · rw [hs ds gs hlen hglen]
    exact args_behind hlaid hb hread hA hlt
  · rw [hs ds gs hlen hglen]
    exact RowKit.Below.trodVars hlaid hb hvars hV
theorem law_lifted {C:Checked} (own:ownKnob C.prog.godebug=none) {os:Os} (started:os.Started) {f:FuncId} {fn:Func} (hinit:C.prog.inits.idxOf? f=none) (hf:C.prog.funcs[f]?=some fn) {H:Type} {enc:TypeId×Value→H}
    {s:ChangeSpec} (hvars:s.vars=[]) {tys:List Ty} {F:Tup tys→Option (Tup [.bool])} (hcon:Con C.prog f ⟨tys,[.bool],false,F,none,none⟩) (hamb:∀ w,Amb.A w) (hall:∀ x,wfT tys x→F x=some (true,())) {dep:Nat} (hgood:goodTs C.prog dep fn.params.toList tys=true)
    (hlaid:laidOutB C.prog=true) (hread:(fn.params.toList.all fun t=>C.prog.readableRec t && decide (t < C.prog.types.size))=true) {tb:TypeId} (hres:fn.resultTypes=#[tb]) (htb:C.prog.underlying tb=some .bool)
    (hs:∀ ds:List (DataW H),ds.length=fn.params.size→s.fn H ds={ results:=[.lit (.bool true)],args:=ds })
    {dom:List PathCond} (hwit:∃ (w:World) (tape:Nat→Question→Nat) (i:Input),w.os=os∧World.Shaped C.prog (w.forCall tape i)∧i.vars=[]∧Input.okWide C.prog (w.forCall tape i) .any w.heap.size f i∧ChangeSpec.pre6 enc C.prog fn s dom false (w.forCall tape i).memory i.args∧({}:Assume).holds C.prog (lone (Frame.enter C.prog f i.args .normal) [] (w.forCall tape i))) :
    ReturnsInHanded {} C os f .any (s.pre6 enc C.prog fn dom false) (s.post enc C.prog fn false true false false):=by
  refine returnsInHanded_of_change_sized own started hinit hf hwit ?_
  intro W base args ds gs before hval hW _ _ _
  exact law_calls (by rw [hvars]; rfl) hcon hall hgood hlaid hread hres htb (fun ds gs hd hg=>by
    rw [hvars] at hg
    have hg:gs=[] := List.length_eq_zero_iff.1 hg
    subst hg
    rw [List.append_nil]
    exact hs ds hd) hval hW (hamb W)
end Go.Vm

namespace Go.Vm
open Go.RowKit (Below)
@[reducible] def Amb.cells (l:List (Nat×Value)):Amb where
  A w:=∀ p∈l,w.cell? ⟨p.1,0,.none⟩=some p.2
  G b:=∃ p∈l,p.1=b
  lt {w b} h hb:=by
    obtain ⟨p,hp,rfl⟩:=hb
    have hc:=h p hp
    unfold World.cell? at hc
    split at hc
    · rename_i c T fz hb'
      rcases Nat.lt_or_ge p.1 w.heap.size with h' | h'
      · exact h'
      · rw [Array.getElem?_eq_none h'] at hb'; cases hb'
    · cases hc
  keep {w w'} h hk p hp:=by
    have hc:=h p hp
    unfold World.cell? at hc ⊢
    rw [hk p.1 ⟨p,hp,rfl⟩]; exact hc
@[reducible] def Amb.errs (gs:List Nat):Amb where
  A w:=∀ g∈gs,∃ (te:TypeId) (pe:Value),w.cell? ⟨g,0,.none⟩=some (.iface te pe)
  G b:=b∈gs
  lt {w b} h hb:=by
    obtain ⟨te,pe,hc⟩:=h b hb
    unfold World.cell? at hc
    split at hc
    · rename_i c T fz hb'
      rcases Nat.lt_or_ge b w.heap.size with h' | h'
      · exact h'
      · rw [Array.getElem?_eq_none h'] at hb'; cases hb'
    · cases hc
  keep {w w'} h hk g hg:=by
    obtain ⟨te,pe,hc⟩:=h g hg
    refine ⟨te,pe,?_⟩
    unfold World.cell? at hc ⊢
    rw [hk g hg]; exact hc
section
variable [Amb]
theorem law_lifted_laid {C:Checked} (own:ownKnob C.prog.godebug=.none) {os:Os} (started:os.Started) {f:FuncId} {fn:Func} (hinit:C.prog.inits.idxOf? f=.none) (hf:C.prog.funcs[f]?=some fn) {H:Type} {enc:TypeId×Value→H}
    {s:ChangeSpec} (hvars:RowKit.varsRowed C.prog s.vars=true) {tys:List Ty} {F:Tup tys→Option (Tup [.bool])} (hcon:Con C.prog f ⟨tys,[.bool],false,F,.none,.none⟩) {laid:List (String×DataW Unit)} (hamb:∀ w,laidMetH C.prog laid w→Amb.A w) (hall:∀ x,wfT tys x→F x=some (true,())) {dep:Nat} (hgood:goodTs C.prog dep fn.params.toList tys=true)
    (hlaid:laidOutB C.prog=true) (hread:(fn.params.toList.all fun t=>C.prog.readableRec t && decide (t < C.prog.types.size))=true) {tb:TypeId} (hres:fn.resultTypes=#[tb]) (htb:C.prog.underlying tb=some .bool)
    (hs:∀ ds gs:List (DataW H),ds.length=fn.params.size→gs.length=s.vars.length→s.fn H (ds++gs)={ results:=[.lit (.bool true)],args:=ds,vars:=gs })
    {dom:List PathCond} (hwit:∃ (w:World) (tape:Nat→Question→Nat) (i:Input),w.os=os∧World.Shaped C.prog (w.forCall tape i)∧i.vars=[]∧Input.okWide C.prog (w.forCall tape i) .any w.heap.size f i ∧
      ((s.pre enc C.prog fn dom false (w.forCall tape i).memory i.args∧laidMetH C.prog laid (w.forCall tape i).memory)∧sizedMet enc C.prog fn (OpenSpec.ofChange s) false (w.forCall tape i).memory i.args)∧({}:Assume).holds C.prog (lone (Frame.enter C.prog f i.args .normal) [] (w.forCall tape i))) :
    ReturnsInHanded {} C os f .any (fun w args=>(s.pre enc C.prog fn dom false w args∧laidMetH C.prog laid w)∧sizedMet enc C.prog fn (OpenSpec.ofChange s) false w args) (s.post enc C.prog fn false true false false):=by
  refine returnsInHanded_of_change_and (X:=fun w _=>laidMetH C.prog laid w) (fun _ _ _ hh h=>h.of_heap hh) own started hinit hf hwit ?_
  intro W base args ds gs before hval hW _ _ hL _
  exact law_calls hvars hcon hall hgood hlaid hread hres htb hs hval hW (hamb W hL)
theorem laid_err {P:Program} {w:World} {l:List (String×DataW Unit)} (h:laidMet P l w) {n nm:String} {d:DataW Unit} (hm:(n,.iface nm d)∈l) {g:Nat} (hg:P.globalNamed n=some g) {t:TypeId} (ht:(P.globals[g]?).map (·.type)=some t)
    {ms:Array (String×TypeId)} (hi:P.underlying t=some (.interface ms)):∃ (te:TypeId) (pe:Value),w.cell? ⟨g,0,.none⟩=some (.iface te pe):=by
  obtain ⟨ps,hv,_⟩:=h
  have key:∀ {l:List (String×DataW Unit)} {ps:List MemPlace},DataW.LaidVars P w l ps→(n,DataW.iface nm d)∈l→∃ g t cs fuel p,P.globalNamed n=some g∧(P.globals[g]?).map (·.type)=some t∧w.var? P n=some cs∧DataW.trod (fun _=>()) P w 0 (fun _=>true) false fuel t cs.toList=some (.iface nm d,p):=by
    intro l
    induction l with
    | nil=>intro ps _ hm; simp at hm
    | cons x r ih =>
      intro ps hv hm
      obtain ⟨n',d'⟩:=x
      obtain ⟨g,t,cs,fuel,p,q,h1,h2,h3,h4,h5,_⟩:=hv
      rcases List.mem_cons.1 hm with he | hm
      · cases he
        exact ⟨g,t,cs,fuel,p,h1,h2,h3,h4⟩
      · exact ih h5 hm
  obtain ⟨g',t',cs,fuel,p,h1,h2,h3,h4⟩:=key hv hm
  obtain rfl:=Option.some.inj (hg.symm.trans h1)
  obtain rfl:=Option.some.inj (ht.symm.trans h2)
  obtain ⟨_,u,v,hcs,_,_⟩:=iface_of_trod hi h4
  have:=World.var?_cell hg h3 0
  rw [Array.eq_one_of_toList hcs] at this
  exact ⟨u,v,by simpa using this⟩
end
end Go.Vm

namespace Go.Vm
def Big (n:Nat):Prop:=18446744073709551616≤n
theorem wrap_eq {a:Int} (h0:-9223372036854775808≤a) (h1:a < 9223372036854775808):IntKind.i64.wrap a=a:=by
  have h:IntKind.i64.wrap a=if (true && decide (a % 18446744073709551616≥9223372036854775808))=true then a % 18446744073709551616 - 18446744073709551616 else a % 18446744073709551616:=rfl
  rw [h]
  by_cases h:a % 18446744073709551616≥9223372036854775808
  · rw [if_pos (by simpa using h)]
    omega
  · rw [if_neg (by simpa using h)]
    omega
def bulk:(t:Ty)→t.den→Nat
  | .str,s=>ByteArray.size s
  | .slice e,l=>List.length l + (List.map (bulk e) l).sum
  | .pair a b,x=>bulk a x.1 + bulk b x.2
  | _,_=>0
def small (m:Nat):(t:Ty)→t.den→Prop
  | .str,s=>ByteArray.size s≤m
  | .slice e,l=>List.length l≤m∧∀ x∈l,small m e x
  | .pair a b,x=>small m a x.1∧small m b x.2
  | _,_=>True
theorem small_of_bulk {m:Nat}:∀ {t:Ty} {x:t.den},bulk t x≤m→small m t x
  | .str,_,h=>h
  | .slice e,l,h=>by
    simp only [bulk] at h
    refine ⟨by omega,fun x hx=>small_of_bulk ?_⟩
    have:bulk e x≤(List.map (bulk e) l).sum:=by
      clear h
      induction l with
      | nil=>cases hx
      | cons y l ih =>
        simp only [List.map_cons,List.sum_cons]
        rcases List.mem_cons.1 hx with rfl | hx
        · omega
        · have:=ih hx; omega
    omega
  | .pair a b,x,h=>by
    simp only [bulk] at h
    exact ⟨small_of_bulk (by omega),small_of_bulk (by omega)⟩
  | .int _,_,_=>trivial
  | .bool,_,_=>trivial
  | .ptr _,_,_=>trivial
  | .ifp _ _,_,_=>trivial
  | .unit,_,_=>trivial
def eqD:(t:Ty)→t.den→t.den→Bool
  | .int _,a,b=>(a:Int) == b
  | .bool,a,b=>(a:Bool) == b
  | .str,a,b=>seq a b
  | .slice e,a,b=>(List.length a == List.length b) && (List.zip a b).all fun p=>eqD e p.1 p.2
  | .pair s t,a,b=>eqD s a.1 b.1 && eqD t a.2 b.2
  | .ptr _,_,_=>true
  | .ifp _ _,_,_=>true
  | .unit,_,_=>true
theorem eqD_refl:∀ (t:Ty) (a:t.den),eqD t a a=true
  | .int _,a=>by simp [eqD]
  | .bool,a=>by simp [eqD]
  | .str,a=>by simp [eqD,seq]
  | .slice e,a=>by
    simp only [eqD,BEq.rfl,Bool.true_and,List.all_eq_true]
    intro p hp
    obtain ⟨i,hi,rfl⟩:=List.getElem_of_mem hp
    simp only [List.getElem_zip]
    exact eqD_refl e _
  | .pair s t,a=>by simp [eqD,eqD_refl s,eqD_refl t]
  | .ptr _,_=>rfl
  | .ifp _ _,_=>rfl
  | .unit,_=>rfl
theorem runL_succ {S C Q:Type} (B:(S→Option Q)→C→S→Option Q) (cs:C) (k:Nat) (x:S):runL B cs (k + 1) x=B (runL B cs k) cs x:=rfl
theorem runL_pos {S C Q:Type} (B:(S→Option Q)→C→S→Option Q) (cs:C) {k:Nat} (hk:0 < k) (x:S):runL B cs k x=B (runL B cs (k - 1)) cs x:=by
  obtain ⟨m,rfl⟩:∃ m,k=m + 1:=⟨k - 1,by omega⟩
  rfl
def outF {X A E:Type} (g:X→A→A ⊕ E):List X→A→A ⊕ E
  | [],a=>.inl a
  | x :: l,a=>match g x a with
    | .inl a=>outF g l a
    | .inr e=>.inr e
theorem runL_list {S C Q X A E:Type} {B:(S→Option Q)→C→S→Option Q} {cs:C} {l:List X} (st:Nat→A→S) (inv:Nat→A→Prop) (g:X→A→A ⊕ E) (dn:A→Option Q) (ex:E→Option Q)
    (hstep:∀ (next:S→Option Q) (i:Nat) (a:A) (hi:i < l.length),inv i a→(match g l[i] a with | .inl a'=>inv (i + 1) a'∧B next cs (st i a)=next (st (i + 1) a') | .inr e=>B next cs (st i a)=ex e))
    (hend:∀ (next:S→Option Q) (a:A),inv l.length a→B next cs (st l.length a)=dn a) :
    ∀ (d i k:Nat) (a:A),i + d=l.length→d < k→inv i a→runL B cs k (st i a)=Sum.elim dn ex (outF g (l.drop i) a):=by
  intro d
  induction d with
  | zero =>
    intro i k a hi hk ha
    have:i=l.length:=by omega
    subst this
    rw [runL_pos B cs hk,hend _ _ ha,List.drop_length]
    rfl
  | succ d ih =>
    intro i k a hi hk ha
    have hlt:i < l.length:=by omega
    have:=hstep (runL B cs (k - 1)) i a hlt ha
    rw [runL_pos B cs (by omega),List.drop_eq_getElem_cons hlt]
    simp only [outF]
    cases hg:g l[i] a with
    | inl a' =>
      rw [hg] at this
      rw [this.2]
      exact ih (i + 1) (k - 1) a' (by omega) (by omega) this.1
    | inr e =>
      rw [hg] at this
      exact this
def subL (left:Int) (b:Nat):Int:=if (b:Int)≤left then left - b else -1
def KOk (k:Int→Option (Int×Unit)) (b:Nat):Prop:=∀ left,0≤left→left≤1048576→k left=some (subL left b,())
def szStr (s:Nat) (left:Int) (k:Int→Option (Int×Unit)):Option (Int×Unit) :=
  if decide (IntKind.i64.wrap (left - (s:Int)) < 0)=true then some (-1,()) else k (IntKind.i64.wrap (left - (s:Int)))
def szCall (g:Option (Int×Unit)) (k:Int→Option (Int×Unit)):Option (Int×Unit) :=
  g.bind fun y=>if decide (y.1 < 0)=true then some (-1,()) else k y.1
theorem subL_pos {left:Int} {b:Nat} (h:(b:Int)≤left):subL left b=left - b:=if_pos h
theorem subL_neg {left:Int} {b:Nat} (h:¬ (b:Int)≤left):subL left b=-1:=if_neg h
theorem szEnd_ok:KOk (fun left=>some (left,())) 0:=fun left h0 _=>by simp [subL,h0]
theorem szStr_ok {s:Nat} {k:Int→Option (Int×Unit)} {b:Nat} (hs:s≤maxLen) (hk:KOk k b):KOk (fun left=>szStr s left k) (s + b):=by
  intro left h0 h1
  have hm:s≤9223372036854775807:=hs
  simp only [szStr]
  rw [wrap_eq (by omega) (by omega)]
  by_cases hc:left - (s:Int) < 0
  · rw [if_pos (by simpa using hc)]
    simp only [subL]
    rw [if_neg (by omega)]
  · rw [if_neg (by simpa using hc),hk _ (by omega) (by omega)]
    simp only [subL,Option.some.injEq,Prod.mk.injEq,and_true]
    split<;>split<;>omega
theorem szCall_ok {g k:Int→Option (Int×Unit)} {a b:Nat} (hg:KOk g a) (hk:KOk k b):KOk (fun left=>szCall (g left) k) (a + b):=by
  intro left h0 h1
  simp only [szCall]
  rw [hg left h0 h1]
  simp only [Option.bind_some]
  by_cases hc:(a:Int)≤left
  · have:subL left a=left - a:=if_pos hc
    rw [this,if_neg (by simp; omega),hk _ (by omega) (by omega)]
    simp only [subL,Option.some.injEq,Prod.mk.injEq,and_true]
    split<;>split<;>omega
  · have:subL left a=-1:=if_neg hc
    rw [this,if_pos (by decide)]
    simp only [subL]
    rw [if_neg (by omega)]
theorem KOk.congr {k:Int→Option (Int×Unit)} {a b:Nat} (h:KOk k a) (e:a=b):KOk k b:=e ▸ h
def SzOk (t:Ty) (g:t.den→Int→Option (Int×Unit)):Prop:=∀ x,wf t x→KOk (g x) (bulk t x)
abbrev SzConts (R:Type):Type:=((Int×Unit)→Option R)×((Int×Unit)→Option R)×Unit
def patSzB {e:Type} (z:e) (g:e→Int→Option (Int×Unit)) {R:Type} (next:List e×Int×Int×Unit→Option R) (cs:SzConts R) (x:List e×Int×Int×Unit):Option R :=
  if decide (x.2.2.1 < (List.length x.1:Int))=true then
    if decide (0≤x.2.2.1∧x.2.2.1 < (List.length x.1:Int))=true then
      (g (List.getD x.1 (Int.toNat x.2.2.1) z) x.2.1).bind fun y1 =>
      if decide (y1.1 < (0:Int))=true then cs.1 (-1,()) else next (x.1,y1.1,IntKind.i64.wrap (x.2.2.1 + 1),())
    else none
  else cs.2.1 (x.2.1,())
def patSzS {e:Type} (z:e) (g:e→Int→Option (Int×Unit)) (n:Nat) (l:List e) (left:Int):Option (Int×Unit) :=
  if decide (IntKind.i64.wrap (left - (List.length l:Int)) < 0)=true then some (-1,())
  else runL (patSzB z g) ((fun z=>some (z.1,())),(fun z=>some (z.1,())),()) n (l,IntKind.i64.wrap (left - (List.length l:Int)),0,())
theorem patSzB_step {e:Type} {z:e} {g:e→Int→Option (Int×Unit)} {l:List e} {b:e→Nat} (hg:∀ x∈l,KOk (g x) (b x)) (hl:l.length≤maxLen) {k:Nat} {left:Int} (h0:0≤left) (h1:left≤1048576) (hk:l.length < k) {R:Type} (cs:SzConts R) :
    runL (patSzB z g) cs k (l,left,0,())=if ((l.map b).sum:Int)≤left then cs.2.1 (left - (l.map b).sum,()) else cs.1 (-1,()):=by
  have hm:l.length≤9223372036854775807:=hl
  have:=runL_list (B:=patSzB z g) (cs:=cs) (l:=l) (A:=Int) (E:=Unit) (fun i a=>(l,a,(i:Int),())) (fun i a=>0≤a∧a≤1048576) (fun x a=>if (b x:Int)≤a then .inl (a - b x) else .inr ()) (fun a=>cs.2.1 (a,())) (fun _=>cs.1 (-1,()))
    (fun next i a hi ha=>by
      have hb:=hg l[i] (List.getElem_mem hi) a ha.1 ha.2
      have e1:(l.getD (Int.toNat (i:Int)) z)=l[i] := by simp [hi]
      by_cases hc:(b l[i]:Int)≤a
      · simp only [if_pos hc]
        refine ⟨by omega,?_⟩
        simp only [patSzB]
        rw [if_pos (by simpa using hi),if_pos (by simp; omega),e1,hb]
        simp only [Option.bind_some,subL,if_pos hc]
        rw [if_neg (by simp; omega),wrap_eq (by omega) (by omega)]
        simp
      · simp only [if_neg hc]
        simp only [patSzB]
        rw [if_pos (by simpa using hi),if_pos (by simp; omega),e1,hb]
        simp only [Option.bind_some,subL,if_neg hc]
        rw [if_pos (by decide)])
    (fun next a ha=>by
      simp only [patSzB]
      rw [if_neg (by simp)]) l.length 0 k left (by omega) hk ⟨h0,h1⟩
  simp only [List.drop_zero] at this
  refine (show _=_ from this).trans ?_
  clear this hk hm hl hg
  induction l generalizing left with
  | nil=>simp [outF,h0]
  | cons x l ih =>
    simp only [outF,List.map_cons,List.sum_cons]
    by_cases hc:(b x:Int)≤left
    · simp only [if_pos hc]
      rw [ih (by omega) (by omega)]
      have e:((b x + (l.map b).sum:Nat):Int)=(b x:Int) + ((l.map b).sum:Nat):=by omega
      rw [e]
      by_cases h2:(((l.map b).sum:Nat):Int)≤left - b x
      · have e2:left - ((b x:Int) + ((l.map b).sum:Nat))=left - b x - ((l.map b).sum:Nat):=by omega
        rw [if_pos h2,if_pos (by omega),e2]
      · rw [if_neg h2,if_neg (by omega)]
    · simp only [if_neg hc]
      rw [if_neg (by omega)]
      rfl
theorem patSzS_ok {e:Ty} {z:e.den} {g:e.den→Int→Option (Int×Unit)} (hg:SzOk e g) {n:Nat} (hn:Big n):SzOk (.slice e) (patSzS z g n):=by
  rintro l ⟨hl,hx⟩ left h0 h1
  have hm:List.length l≤9223372036854775807:=hl
  have hn:18446744073709551616≤n:=hn
  have hbk:bulk (.slice e) l=List.length l + (List.map (bulk e) l).sum:=rfl
  simp only [patSzS]
  rw [wrap_eq (by omega) (by omega)]
  by_cases hc:left - (List.length l:Int) < 0
  · rw [if_pos (by simpa using hc),subL_neg (by rw [hbk]; omega)]
  · rw [if_neg (by simpa using hc),patSzB_step (b:=bulk e) (fun x hx'=>hg x (hx x hx')) hl (by omega) (by omega) (by omega)]
    by_cases h2:(((List.map (bulk e) l).sum:Nat):Int)≤left - (List.length l:Int)
    · rw [if_pos h2,subL_pos (by rw [hbk]; omega),hbk]
      have e2:left - ((List.length l + (List.map (bulk e) l).sum:Nat):Int)=left - (List.length l:Int) - ((List.map (bulk e) l).sum:Nat):=by omega
      rw [e2]
    · rw [if_neg h2,subL_neg (by rw [hbk]; omega)]
theorem szLen_ok {e:Ty} {g:List e.den→Int→Option (Int×Unit)} (hb:∀ x:e.den,bulk e x=0) (he:∀ l left,g l left=szStr (List.length l) left (fun left=>some (left,()))):SzOk (.slice e) g:=by
  rintro l ⟨hl,_⟩
  have:g l=fun left=>szStr (List.length l) left (fun left=>some (left,())):=funext fun left=>he l left
  rw [this]
  refine (szStr_ok hl szEnd_ok).congr ?_
  simp only [bulk,Nat.add_zero]
  have:List.map (bulk e) l=List.map (fun _=>0) l:=List.map_congr_left fun x _=>hb x
  rw [this]
  have:∀ l:List e.den,(List.map (fun _=>0) l).sum=0:=by
    intro l
    induction l with
    | nil=>rfl
    | cons x l ih=>simp [ih]
  rw [this]
  omega
theorem szStrElem_ok:SzOk .str (fun (s:ByteArray) left=>if decide (IntKind.i64.wrap (left - (ByteArray.size s:Int)) < 0)=true then some (-1,()) else some (IntKind.i64.wrap (left - (ByteArray.size s:Int)),())):=by
  intro s hs
  exact (szStr_ok (s:=ByteArray.size s) hs szEnd_ok).congr (by simp [bulk])
def patSzStrB {R:Type} (next:List ByteArray×Int×Int×Unit→Option R) (cs:SzConts R) (x:List ByteArray×Int×Int×Unit):Option R :=
  if decide (x.2.2.1 < (List.length x.1:Int))=true then
    if decide (0≤x.2.2.1∧x.2.2.1 < (List.length x.1:Int))=true then
      if decide (IntKind.i64.wrap (x.2.1 - (ByteArray.size (List.getD x.1 (Int.toNat x.2.2.1) (⟨#[]⟩:ByteArray)):Int)) < (0:Int))=true then cs.1 (-1,())
      else next (x.1,IntKind.i64.wrap (x.2.1 - (ByteArray.size (List.getD x.1 (Int.toNat x.2.2.1) (⟨#[]⟩:ByteArray)):Int)),IntKind.i64.wrap (x.2.2.1 + 1),())
    else none
  else cs.2.1 (x.2.1,())
def patSzStrS (n:Nat) (l:List ByteArray) (left:Int):Option (Int×Unit) :=
  if decide (IntKind.i64.wrap (left - (List.length l:Int)) < 0)=true then some (-1,())
  else runL patSzStrB ((fun z=>some (z.1,())),(fun z=>some (z.1,())),()) n (l,IntKind.i64.wrap (left - (List.length l:Int)),0,())
def strElem (s:ByteArray) (left:Int):Option (Int×Unit):=if decide (IntKind.i64.wrap (left - (ByteArray.size s:Int)) < 0)=true then some (-1,()) else some (IntKind.i64.wrap (left - (ByteArray.size s:Int)),())
theorem patSzStrB_eq {R:Type}:@patSzStrB R=@patSzB ByteArray (⟨#[]⟩:ByteArray) strElem R:=by
  funext next cs x
  simp only [patSzStrB,patSzB]
  by_cases h1:decide (x.2.2.1 < (List.length x.1:Int))=true
  · rw [if_pos h1,if_pos h1]
    by_cases h2:decide (0≤x.2.2.1∧x.2.2.1 < (List.length x.1:Int))=true
    · rw [if_pos h2,if_pos h2]
      simp only [strElem]
      by_cases h3:decide (IntKind.i64.wrap (x.2.1 - (ByteArray.size (List.getD x.1 (Int.toNat x.2.2.1) (⟨#[]⟩:ByteArray)):Int)) < (0:Int))=true
      · rw [if_pos h3,if_pos h3]
        rfl
      · rw [if_neg h3,if_neg h3]
        simp only [Option.bind_some]
        rw [if_neg h3]
    · rw [if_neg h2,if_neg h2]
  · rw [if_neg h1,if_neg h1]
theorem patSzStrS_ok {n:Nat} (hn:Big n):SzOk (.slice .str) (patSzStrS n):=by
  have:patSzStrS n=patSzS (⟨#[]⟩:ByteArray) strElem n:=by
    funext l left
    simp only [patSzStrS,patSzS,patSzStrB_eq]
  rw [this]
  exact patSzS_ok szStrElem_ok hn
abbrev ToConts (e R:Type):Type:=((List e×Unit)→Option R)×Unit
def patToB {e:Type} (z:e) (g:e→Option (e×Unit)) {R:Type} (next:List e×List e×Int×Unit→Option R) (cs:ToConts e R) (x:List e×List e×Int×Unit):Option R :=
  if decide (x.2.2.1 < (List.length x.1:Int))=true then
    if decide (0≤x.2.2.1∧x.2.2.1 < (List.length x.1:Int))=true then
      (g (List.getD x.1 (Int.toNat x.2.2.1) z)).bind fun y1 =>
      if decide (0≤x.2.2.1∧x.2.2.1 < (List.length x.2.1:Int))=true then
        next (x.1,List.set x.2.1 (Int.toNat x.2.2.1) y1.1,IntKind.i64.wrap (x.2.2.1 + 1),())
      else none
    else none
  else cs.1 (x.2.1,())
def patToS {e:Type} (z:e) (sz:Int) (g:e→Option (e×Unit)) (n:Nat) (l:List e):Option (List e×Unit) :=
  if decide (0≤(List.length l:Int)∧(List.length l:Int)≤(List.length l:Int)∧(List.length l:Int) * sz≤140737488355328)=true then
    runL (patToB z g) ((fun z=>some (z.1,())),()) n (l,List.replicate (Int.toNat (List.length l:Int)) z,0,())
  else none
theorem patToB_all {e:Type} {z:e} {g:e→Option (e×Unit)} {l:List e} (hg:∀ x∈l,g x=some (x,())) (hl:l.length≤1048576) {R:Type} (cs:ToConts e R) :
    ∀ (d i k:Nat) (o:List e),i + d=l.length→d < k→o.length=l.length→o.take i=l.take i→runL (patToB z g) cs k (l,o,(i:Int),())=cs.1 (l,()):=by
  intro d
  induction d with
  | zero =>
    intro i k o hi hk ho ht
    have:i=l.length:=by omega
    subst this
    rw [runL_pos _ _ hk]
    simp only [patToB]
    rw [if_neg (by simp)]
    have:o=l:=by
      rw [← List.take_length (l:=o),ho,ht,List.take_length]
    rw [this]
  | succ d ih =>
    intro i k o hi hk ho ht
    have hlt:i < l.length:=by omega
    rw [runL_pos _ _ (by omega)]
    simp only [patToB]
    have e1:(l.getD (Int.toNat (i:Int)) z)=l[i] := by simp [hlt]
    rw [if_pos (by simpa using hlt),if_pos (by simp; omega),e1,hg _ (List.getElem_mem hlt)]
    simp only [Option.bind_some]
    rw [if_pos (by simp; omega),wrap_eq (by omega) (by omega)]
    have e2:(i:Int) + 1=((i + 1:Nat):Int):=by omega
    rw [e2]
    refine ih (i + 1) (k - 1) _ (by omega) (by omega) (by simp [ho]) ?_
    simp only [Int.toNat_natCast]
    apply List.ext_getElem?
    intro j
    by_cases hj:j < i + 1
    · rw [List.getElem?_take_of_lt hj,List.getElem?_take_of_lt hj]
      by_cases hji:j=i
      · subst hji
        rw [List.getElem?_set_self (by omega),List.getElem?_eq_getElem hlt]
      · rw [List.getElem?_set_ne (by omega)]
        have:(o.take i)[j]?=(l.take i)[j]? := by rw [ht]
        rw [List.getElem?_take_of_lt (by omega),List.getElem?_take_of_lt (by omega)] at this
        exact this
    · rw [List.getElem?_eq_none (by simp; omega),List.getElem?_eq_none (by simp; omega)]
theorem patToS_ok {e:Type} {z:e} {sz:Int} {g:e→Option (e×Unit)} {l:List e} (hg:∀ x∈l,g x=some (x,())) (hl:l.length≤1048576) (h0:0≤sz) (h1:sz≤1000000) {n:Nat} (hn:Big n):patToS z sz g n l=some (l,()):=by
  have hn:18446744073709551616≤n:=hn
  simp only [patToS]
  rw [if_pos]
  · exact patToB_all hg hl _ l.length 0 n _ (by omega) (by omega) (by simp) (by simp)
  · simp only [decide_eq_true_eq]
    refine ⟨by omega,by omega,?_⟩
    have h2:(l.length:Int) * sz≤1048576 * sz:=Int.mul_le_mul_of_nonneg_right (by omega) h0
    have h3:1048576 * sz≤1048576 * 1000000:=Int.mul_le_mul_of_nonneg_left h1 (by omega)
    omega
def eqLeaf (c:Bool) (k:Option (Bool×Unit)):Option (Bool×Unit):=if c=true then some (false,()) else k
def eqCall (g k:Option (Bool×Unit)):Option (Bool×Unit):=g.bind fun y=>if (!y.1)=true then some (false,()) else k
theorem eqLeaf_not (s:Bool) {b:Bool} {k:Option (Bool×Unit)} (hk:k=some (b,())):eqLeaf (!s) k=some (s && b,()):=by
  subst hk
  cases s<;>rfl
theorem eqLeaf_ok {c b:Bool} {k:Option (Bool×Unit)} (hk:k=some (b,())):eqLeaf c k=some (!c && b,()):=by
  subst hk
  cases c<;>rfl
theorem eqCall_ok {g k:Option (Bool×Unit)} {a b:Bool} (hg:g=some (a,())) (hk:k=some (b,())):eqCall g k=some (a && b,()):=by
  subst hg; subst hk
  cases a<;>rfl
abbrev EqConts (R:Type):Type:=((Bool×Unit)→Option R)×(Unit→Option R)×Unit
def patEqB {e:Type} (z:e) (g:e→e→Option (Bool×Unit)) {R:Type} (next:List e×List e×Int×Unit→Option R) (cs:EqConts R) (x:List e×List e×Int×Unit):Option R :=
  if decide (x.2.2.1 < (List.length x.1:Int))=true then
    if (!true || decide (0≤x.2.2.1∧x.2.2.1 < (List.length x.1:Int)))=true then
      if (!true || decide (0≤x.2.2.1∧x.2.2.1 < (List.length x.2.1:Int)))=true then
        (g (List.getD x.1 (Int.toNat x.2.2.1) z) (List.getD x.2.1 (Int.toNat x.2.2.1) z)).bind fun y1 =>
        if (!y1.1)=true then cs.1 (false,()) else next (x.1,x.2.1,IntKind.i64.wrap (x.2.2.1 + 1),())
      else none
    else none
  else cs.2.1 ()
def patEqS {e:Type} (z:e) (g:e→e→Option (Bool×Unit)) (n:Nat) (a b:List e):Option (Bool×Unit) :=
  if ((List.length a:Int) != (List.length b:Int))=true then some (false,())
  else runL (patEqB z g) ((fun z=>some (z.1,())),(fun _=>some (true,())),()) n (a,b,0,())
theorem patEqS_ok {e:Ty} {z:e.den} {g:e.den→e.den→Option (Bool×Unit)} {a b:List e.den} (hg:∀ x∈a,∀ y,g x y=some (eqD e x y,())) (hl:a.length≤1048576) {n:Nat} (hn:Big n):patEqS z g n a b=some (eqD (.slice e) a b,()):=by
  have hn:18446744073709551616≤n:=hn
  simp only [patEqS]
  by_cases hlen:a.length=b.length
  · rw [if_neg (by simp [hlen])]
    have hz:(a.zip b).length=a.length:=by simp [hlen]
    have:=runL_list (B:=patEqB z g) (cs:=((fun z=>some (z.1,())),(fun _=>some (true,())),())) (l:=a.zip b) (A:=Unit) (E:=Unit) (fun i _=>(a,b,(i:Int),())) (fun _ _=>True) (fun p _=>if eqD e p.1 p.2=true then .inl () else .inr ()) (fun _=>some (true,())) (fun _=>some (false,()))
      (fun next i _ hi _=>by
        have hi:i < a.length:=by omega
        have hib:i < b.length:=by omega
        have e1:(a.getD (Int.toNat (i:Int)) z)=a[i] := by simp [hi]
        have e2:(b.getD (Int.toNat (i:Int)) z)=b[i] := by simp [hib]
        have hb:=hg a[i] (List.getElem_mem hi) b[i]
        simp only [List.getElem_zip]
        cases hc:eqD e a[i] b[i] with
        | true =>
          simp only [if_true,true_and]
          simp only [patEqB]
          rw [if_pos (by simpa using hi),if_pos (by simp; omega),if_pos (by simp; omega),e1,e2,hb,hc,wrap_eq (by omega) (by omega)]
          simp
        | false =>
          simp only [Bool.false_eq_true,if_false]
          simp only [patEqB]
          rw [if_pos (by simpa using hi),if_pos (by simp; omega),if_pos (by simp; omega),e1,e2,hb,hc]
          simp)
      (fun next _ _=>by
        simp only [patEqB,hz]
        rw [if_neg (by simp)]) a.length 0 n () (by omega) (by omega) trivial
    simp only [List.drop_zero] at this
    refine (show _=_ from this).trans ?_
    have key:∀ l:List (e.den×e.den),Sum.elim (fun _=>some (true,())) (fun _=>some (false,())) (outF (fun (p:e.den×e.den) (_:Unit)=>if eqD e p.1 p.2=true then (.inl ():Unit ⊕ Unit) else .inr ()) l ())=some (l.all fun p=>eqD e p.1 p.2,()):=by
      intro l
      induction l with
      | nil=>rfl
      | cons p l ih =>
        simp only [outF,List.all_cons]
        cases hc:eqD e p.1 p.2 with
        | true=>simpa using ih
        | false=>simp
    rw [key]
    simp [eqD,hlen]
  · rw [if_pos (by simp; omega)]
    simp [eqD,hlen]
end Go.Vm

namespace Go.Vm
theorem runL_find {S C Q X:Type} {B:(S→Option Q)→C→S→Option Q} {cs:C} {l:List X} (st:Nat→S) (p:X→Bool) (found:Nat→Option Q) (dn:Option Q)
    (hstep:∀ (next:S→Option Q) (i:Nat) (hi:i < l.length),B next cs (st i)=if p l[i]=true then found i else next (st (i + 1)))
    (hend:∀ (next:S→Option Q),B next cs (st l.length)=dn) {k:Nat} (hk:l.length < k):runL B cs k (st 0)=(l.findIdx? p).elim dn found:=by
  have key:∀ (d i k:Nat),i + d=l.length→d < k→runL B cs k (st i)=((l.drop i).findIdx? p).elim dn (fun j=>found (j + i)):=by
    intro d
    induction d with
    | zero =>
      intro i k hi hk
      have:i=l.length:=by omega
      subst this
      rw [runL_pos B cs hk,hend,List.drop_length]
      rfl
    | succ d ih =>
      intro i k hi hk
      have hlt:i < l.length:=by omega
      rw [runL_pos B cs (by omega),hstep _ i hlt,List.drop_eq_getElem_cons hlt,List.findIdx?_cons]
      cases hp:p l[i] with
      | true=>simp
      | false =>
        simp only [Bool.false_eq_true,if_false]
        rw [ih (i + 1) (k - 1) (by omega) (by omega)]
        cases (l.drop (i + 1)).findIdx? p with
        | none=>rfl
        | some j=>simp only [Option.map_some,Option.elim_some]; congr 1; omega
  have:=key l.length 0 k (by omega) hk
  simpa using this
theorem runL_any {S C Q:Type} {B:(S→Option Q)→C→S→Option Q} {cs:C} {len:Nat} (st:Nat→S) (q:Nat→Bool) (bad ok:Option Q)
    (hstep:∀ (next:S→Option Q) (i:Nat) (hi:i < len),B next cs (st i)=if q i=true then bad else next (st (i + 1)))
    (hend:∀ (next:S→Option Q),B next cs (st len)=ok) {k:Nat} (hk:len < k):runL B cs k (st 0)=if (List.range len).any q=true then bad else ok:=by
  have:=runL_find (B:=B) (cs:=cs) (l:=List.range len) st q (fun _=>bad) ok (fun next i hi=>by
    have hi':i < len:=by simpa using hi
    rw [hstep next i hi',List.getElem_range]) (fun next=>by rw [List.length_range]; exact hend next) (k:=k) (by simpa using hk)
  rw [this]
  cases hf:(List.range len).findIdx? q with
  | none =>
    rw [List.findIdx?_eq_none_iff] at hf
    have:(List.range len).any q=false:=by rw [List.any_eq_false]; exact fun x hx=>by simp [hf x hx]
    simp [this]
  | some i =>
    have:(List.range len).any q=true:=by
      rw [List.findIdx?_eq_some_iff_getElem] at hf
      obtain ⟨h,hp,_⟩:=hf
      exact List.any_eq_true.2 ⟨_,List.getElem_mem h,hp⟩
    simp [this]
theorem runL_fold {S C Q A:Type} {B:(S→Option Q)→C→S→Option Q} {cs:C} {len:Nat} (st:Nat→A→S) (inv:Nat→A→Prop) (g:Nat→A→A) (dn:A→Option Q)
    (hstep:∀ (next:S→Option Q) (i:Nat) (a:A),i < len→inv i a→inv (i + 1) (g i a)∧B next cs (st i a)=next (st (i + 1) (g i a)))
    (hend:∀ (next:S→Option Q) (a:A),inv len a→B next cs (st len a)=dn a) {k:Nat} (hk:len < k) {a:A} (ha:inv 0 a):runL B cs k (st 0 a)=dn ((List.range len).foldl (fun a i=>g i a) a):=by
  have:=runL_list (B:=B) (cs:=cs) (l:=List.range len) (E:=Unit) st inv (fun i a=>.inl (g i a)) dn (fun _=>none) (fun next i a hi ha=>by
    have hi':i < len:=by simpa using hi
    simp only [List.getElem_range]
    exact hstep next i a hi' ha) (fun next a ha=>by rw [List.length_range] at ha ⊢; exact hend next a ha) len 0 k a (by simp) hk ha
  rw [this,List.drop_zero]
  have key:∀ (l:List Nat) (a:A),outF (fun i a=>(.inl (g i a):A ⊕ Unit)) l a=.inl (l.foldl (fun a i=>g i a) a):=by
    intro l
    induction l with
    | nil=>intro a; rfl
    | cons x l ih=>intro a; exact ih _
  rw [key]
  rfl
theorem runL_out {S C Q A E:Type} {B:(S→Option Q)→C→S→Option Q} {cs:C} {len:Nat} (st:Nat→A→S) (inv:Nat→A→Prop) (g:Nat→A→A ⊕ E) (dn:A→Option Q) (ex:E→Option Q)
    (hstep:∀ (next:S→Option Q) (i:Nat) (a:A),i < len→inv i a→(match g i a with | .inl a'=>inv (i + 1) a'∧B next cs (st i a)=next (st (i + 1) a') | .inr e=>B next cs (st i a)=ex e))
    (hend:∀ (next:S→Option Q) (a:A),inv len a→B next cs (st len a)=dn a) {k:Nat} (hk:len < k) {a:A} (ha:inv 0 a):runL B cs k (st 0 a)=Sum.elim dn ex (outF g (List.range len) a):=by
  have:=runL_list (B:=B) (cs:=cs) (l:=List.range len) st inv g dn ex (fun next i a hi ha=>by
    have hi':i < len:=by simpa using hi
    simp only [List.getElem_range]
    exact hstep next i a hi' ha) (fun next a ha=>by rw [List.length_range] at ha ⊢; exact hend next a ha) len 0 k a (by simp) hk ha
  rw [this,List.drop_zero]
theorem wrap_u8 {a:Int} (h0:0≤a) (h1:a < 256):IntKind.u8.wrap a=a:=by
  have h:IntKind.u8.wrap a=if (false && decide (a % 256≥128))=true then a % 256 - 256 else a % 256:=rfl
  rw [h]
  simp only [Bool.false_and,Bool.false_eq_true,if_false]
  omega
theorem byteAt_lt (s:ByteArray) (i:Int):0≤byteAt s i∧byteAt s i < 256:=by
  unfold byteAt
  have:=UInt8.toNat_lt (s.data.toList.getD i.toNat 0)
  omega
theorem outF_inv {X A E:Type} {g:X→A→A ⊕ E} {p:A→Prop} {l:List X} (h:∀ x∈l,∀ a,p a→∀ a',g x a=.inl a'→p a'):∀ {a a':A},p a→outF g l a=.inl a'→p a':=by
  induction l with
  | nil=>intro a a' ha h; cases h; exact ha
  | cons x l ih =>
    intro a a' ha he
    simp only [outF] at he
    split at he
    · rename_i a1 h1
      exact ih (fun y hy=>h y (by simp [hy])) (h x (by simp) a ha a1 h1) he
    · cases he
theorem wrap_next {i n:Nat} (hi:i < n) (hn:n≤1048576):IntKind.i64.wrap ((i:Int) + 1)=((i + 1:Nat):Int):=by
  rw [wrap_eq (by omega) (by omega)]
  omega
theorem lt_dec {i n:Nat} (hi:i < n):decide ((i:Int) < (n:Int))=true:=decide_eq_true (by omega)
theorem lt_dec' {n:Nat}:decide ((n:Int) < (n:Int))=false:=decide_eq_false (by omega)
theorem in_dec {i n:Nat} (hi:i < n):decide (0≤(i:Int)∧(i:Int) < (n:Int))=true:=decide_eq_true (by omega)
def fidx {X:Type} (p:X→Bool) (l:List X):Int:=(l.findIdx? p).elim (-1) (fun i=>(i:Int))
theorem findIdx?_lt {X:Type} {p:X→Bool} {l:List X} {i:Nat} (h:l.findIdx? p=some i):i < l.length:=by
  rw [List.findIdx?_eq_some_iff_findIdx_eq] at h
  exact h.1
theorem fidx_some {X:Type} {p:X→Bool} {l:List X} {i:Nat} (h:l.findIdx? p=some i):fidx p l=(i:Int):=by simp [fidx,h]
theorem fidx_none {X:Type} {p:X→Bool} {l:List X} (h:l.findIdx? p=none):fidx p l=-1:=by simp [fidx,h]
theorem getD_nat {X:Type} (l:List X) (i:Nat) (z:X) (h:i < l.length):l.getD (Int.toNat (i:Int)) z=l[i] := by simp [h]
theorem guarded {α:Type} {c:Bool} {a b:α}:(if c=true then some a else some b)=some (if c=true then a else b):=by cases c<;>rfl
theorem bytesLess_irrefl:∀ l:List UInt8,Op.bytesLess l l=false
  | [] => rfl
  | x :: l=>by simp [Op.bytesLess,bytesLess_irrefl l]
theorem bytesLess_trans:∀ {a b c:List UInt8},Op.bytesLess a b=true→Op.bytesLess b c=true→Op.bytesLess a c=true
  | [],_,[],h,h'=>by rename_i b; cases b<;>simp [Op.bytesLess] at h h'
  | [],_,_ :: _,_,_=>rfl
  | _ :: _,[],_,h,_=>by simp [Op.bytesLess] at h
  | _ :: _,_ :: _,[],_,h=>by simp [Op.bytesLess] at h
  | x :: a,y :: b,z :: c,h,h'=>by
    simp only [Op.bytesLess,Bool.or_eq_true,Bool.and_eq_true,decide_eq_true_eq,beq_iff_eq] at h h' ⊢
    rcases h with h | ⟨rfl,h⟩
    · rcases h' with h' | ⟨rfl,h'⟩
      · exact .inl (UInt8.lt_trans h h')
      · exact .inl h
    · rcases h' with h' | ⟨rfl,h'⟩
      · exact .inl h'
      · exact .inr ⟨rfl,bytesLess_trans h h'⟩
theorem slt_trans {a b c:ByteArray} (h:slt a b=true) (h':slt b c=true):slt a c=true:=bytesLess_trans h h'
theorem slt_not_seq {a b:ByteArray} (h:slt a b=true):seq a b=false:=by
  cases hs:seq a b with
  | false=>rfl
  | true =>
    have:a.toList=b.toList:=by simpa [seq] using hs
    simp only [slt,this,bytesLess_irrefl] at h
    cases h
theorem seq_eq {a b:ByteArray} (h:seq a b=true):a.toList=b.toList:=by simpa [seq] using h
theorem seq_trans {a b c:ByteArray} (h:seq a b=true) (h':seq b c=true):seq a c=true:=by
  simp only [seq,beq_iff_eq] at h h' ⊢
  rw [h,h']
theorem seq_iff {a b:ByteArray}:seq a b=true↔a=b:=by
  constructor
  · intro h
    have h1:=seq_eq h
    rw [ByteArray.toList_eq,ByteArray.toList_eq] at h1
    cases a; cases b
    simp only [ByteArray.mk.injEq]
    exact Array.toList_inj.1 h1
  · rintro rfl
    simp [seq]
theorem seq_refl (a:ByteArray):seq a a=true:=by simp [seq]
theorem seq_comm (a b:ByteArray):seq a b=seq b a:=by
  unfold seq
  rw [Bool.eq_iff_iff,beq_iff_eq,beq_iff_eq]
  exact eq_comm
end Go.Vm

namespace Go.Vm
def wt:(t:Ty)→t.den→Nat
  | .slice e,l=>List.length l + (List.map (wt e) l).sum
  | .pair a b,x=>wt a x.1 + wt b x.2
  | .unit,_=>0
  | _,_=>1
theorem wt_int {k:IntKind} {x:Int}:wt (.int k) x=1:=rfl
theorem wt_bool {x:Bool}:wt .bool x=1:=rfl
theorem wt_str {x:ByteArray}:wt .str x=1:=rfl
theorem wt_unit {x:Unit}:wt .unit x=0:=rfl
theorem wt_pair {a b:Ty} {x:a.den×b.den}:wt (.pair a b) x=wt a x.1 + wt b x.2:=rfl
theorem wt_slice {e:Ty} {l:List e.den}:wt (.slice e) l=l.length + (l.map (wt e)).sum:=rfl
def MX:Int:=4611686018427387904
theorem wrapM {a:Int} (h0:0≤a) (h1:a≤4611686018427389000):IntKind.i64.wrap a=a:=wrap_eq (by omega) (by omega)
def MarkOk (t:Ty) (mk:t.den→Int→Option (t.den×Int×Unit)) (hd:t.den→Int→Option (Int×Unit)):Prop :=
  ∀ (x:t.den) (k:Int),1≤k→k + wt t x≤4611686018427387904→∃ (y:t.den) (k':Int),k≤k'∧k'≤k + wt t x∧mk x k=some (y,k',())∧hd y k=some (k',())
def ElOk (e:Ty) {C1 C2 Q1 Q2:Type} (B:(List e.den×Int×Int×Unit→Option Q1)→C1→List e.den×Int×Int×Unit→Option Q1) (cs1:C1) (H:(List e.den×Int×Int×Unit→Option Q2)→C2→List e.den×Int×Int×Unit→Option Q2) (cs2:C2):Prop :=
  ∀ (x:e.den) (k:Int),1≤k→k + wt e x≤4611686018427387904→∃ (y:e.den) (k':Int),k≤k'∧k'≤k + wt e x ∧
    (∀ (next:List e.den×Int×Int×Unit→Option Q1) (l:List e.den) (i:Nat),i < l.length→l.length≤4611686018427387904→(∀ z,l.getD i z=x)→B next cs1 (l,k,(i:Int),())=next (l.set i y,k',((i:Int) + 1),())) ∧
    ∀ (next:List e.den×Int×Int×Unit→Option Q2) (l:List e.den) (i:Nat),i < l.length→l.length≤4611686018427387904→(∀ z,l.getD i z=y)→H next cs2 (l,k,(i:Int),())=next (l,k',((i:Int) + 1),())
theorem getD_pre {α:Type} (pre:List α) (x:α) (s:List α) (z:α):(pre++x :: s).getD pre.length z=x:=by simp
theorem set_pre {α:Type} (pre:List α) (x y:α) (s:List α):(pre++x :: s).set pre.length y=pre++[y]++s:=by simp
theorem marks_run {e:Ty} {C1 C2 Q1 Q2:Type} {B:(List e.den×Int×Int×Unit→Option Q1)→C1→List e.den×Int×Int×Unit→Option Q1} {cs1:C1} {H:(List e.den×Int×Int×Unit→Option Q2)→C2→List e.den×Int×Int×Unit→Option Q2} {cs2:C2}
    {dn:List e.den→Int→Option Q1} {hd:Int→Option Q2} (hel:ElOk e B cs1 H cs2) (h1:∀ next l k,B next cs1 (l,k,(List.length l:Int),())=dn l k) (h2:∀ next l k,H next cs2 (l,k,(List.length l:Int),())=hd k) :
    ∀ (s:List e.den) (k:Int),1≤k→k + wt (.slice e) s≤4611686018427387904→∃ (s':List e.den) (k':Int),k≤k'∧k'≤k + wt (.slice e) s∧s'.length=s.length ∧
      (∀ (pre:List e.den) (m:Nat),pre.length + s.length≤4611686018427387904→s.length < m→runL B cs1 m (pre++s,k,(pre.length:Int),())=dn (pre++s') k') ∧
      ∀ (pre:List e.den) (m:Nat),pre.length + s.length≤4611686018427387904→s.length < m→runL H cs2 m (pre++s',k,(pre.length:Int),())=hd k':=by
  intro s
  induction s with
  | nil =>
    intro k hk hw
    refine ⟨[],k,Int.le_refl _,by omega,rfl,fun pre m _ hm=>?_,fun pre m _ hm=>?_⟩
    · rw [runL_pos _ _ (by simpa using hm),List.append_nil]; exact h1 _ _ _
    · rw [runL_pos _ _ (by simpa using hm),List.append_nil]; exact h2 _ _ _
  | cons x s ih =>
    intro k hk hw
    have e1:(wt (.slice e) (x :: s):Int)=1 + wt e x + wt (.slice e) s:=by
      rw [wt_slice,wt_slice]
      simp only [List.length_cons,List.map_cons,List.sum_cons]
      omega
    rw [e1] at hw
    obtain ⟨y,k1,g1,g2,gB,gH⟩:=hel x k hk (by omega)
    obtain ⟨s',k2,i1,i2,il,iB,iH⟩:=ih k1 (by omega) (by omega)
    refine ⟨y :: s',k2,by omega,by omega,by simp [il],fun pre m hp hm=>?_,fun pre m hp hm=>?_⟩
    · simp only [List.length_cons] at hp hm
      rw [runL_pos _ _ (by omega),gB _ _ _ (by simp) (by simp; omega) (fun z=>getD_pre pre x s z),set_pre]
      have:=iB (pre++[y]) (m - 1) (by simp; omega) (by omega)
      simp only [List.length_append,List.length_cons,List.length_nil,Nat.zero_add,Int.natCast_add,Int.cast_ofNat_Int] at this
      rw [this]
      simp
    · simp only [List.length_cons] at hp hm
      rw [runL_pos _ _ (by omega),gH _ _ _ (by simp) (by simp; omega) (fun z=>getD_pre pre y s' z)]
      have:=iH (pre++[y]) (m - 1) (by simp; omega) (by omega)
      simp only [List.length_append,List.length_cons,List.length_nil,Nat.zero_add,Int.natCast_add,Int.cast_ofNat_Int,List.append_assoc,List.cons_append,List.nil_append] at this
      exact this
theorem markS_ok {e:Ty} {C1 C2:Type} {B:(List e.den×Int×Int×Unit→Option (List e.den×Int×Unit))→C1→List e.den×Int×Int×Unit→Option (List e.den×Int×Unit)} {cs1:C1} {H:(List e.den×Int×Int×Unit→Option (Int×Unit))→C2→List e.den×Int×Int×Unit→Option (Int×Unit)} {cs2:C2}
    {n:Nat} (hn:Big n) (hel:ElOk e B cs1 H cs2) (h1:∀ next l k,B next cs1 (l,k,(List.length l:Int),())=some (l,k,())) (h2:∀ next l k,H next cs2 (l,k,(List.length l:Int),())=some (k,())) :
    MarkOk (.slice e) (fun x k=>runL B cs1 n (x,k,0,())) (fun y k=>runL H cs2 n (y,k,0,())):=by
  intro x k hk hw
  have hn:18446744073709551616≤n:=hn
  obtain ⟨y,k',g1,g2,gl,gB,gH⟩:=marks_run (dn:=fun l k=>some (l,k,())) (hd:=fun k=>some (k,())) hel h1 h2 x k hk hw
  rw [wt_slice] at hw
  have:=gB [] n (by simp only [List.length_nil]; omega) (by omega)
  have:=gH [] n (by simp only [List.length_nil]; omega) (by omega)
  exact ⟨y,k',g1,g2,by assumption,by assumption⟩
theorem seq_same (s:ByteArray):seq s s=true:=by simp [seq]
theorem getD_set_at {α:Type} {l:List α} {i:Nat} (h:i < l.length) (y z:α):(l.set i y).getD i z=y:=by simp [h]
theorem ofBytes_one (a:Int):ByteArray.size (ofBytes [a])=1:=rfl
theorem scat_size (a b:ByteArray):ByteArray.size (scat a b)=ByteArray.size a + ByteArray.size b:=by simp [scat]
theorem markText_run {C Q:Type} {B:(Int×ByteArray×Unit→Option Q)→C→Int×ByteArray×Unit→Option Q} {cs:C} {dn:ByteArray→Option Q}
    (h0:∀ next s,B next cs (0,s,())=dn s) (h1:∀ next (k:Int) (s:ByteArray),1≤k→k + ByteArray.size s≤4611686018427387904→∃ t:ByteArray,ByteArray.size t=ByteArray.size s + 1∧B next cs (k,s,())=next (k.tdiv 10,t,())) :
    ∀ (m:Nat) (k:Nat) (s:ByteArray),k + ByteArray.size s≤4611686018427387904→k < m→∃ t,ByteArray.size t≤k + ByteArray.size s∧runL B cs m ((k:Int),s,())=dn t:=by
  intro m
  induction m with
  | zero=>intro k s _ hm; omega
  | succ m ih =>
    intro k s hk hm
    cases k with
    | zero=>exact ⟨s,by omega,h0 _ _⟩
    | succ k =>
      obtain ⟨t,ht,he⟩:=h1 (runL B cs m) ((k + 1:Nat):Int) s (by omega) (by omega)
      have hd:Int.tdiv ((k + 1:Nat):Int) 10=(((k + 1) / 10:Nat):Int):=by
        rw [Int.tdiv_eq_ediv_of_nonneg (by omega)]
        rfl
      obtain ⟨u,hu,hr⟩:=ih ((k + 1) / 10) t (by omega) (by omega)
      refine ⟨u,by omega,?_⟩
      show B (runL B cs m) cs _=_
      rw [he,hd]
      exact hr
def MarkOk1 (t:Ty) (mk:t.den→Int→Option (t.den×Int×Unit)):Prop :=
  ∀ (x:t.den) (k:Int),1≤k→k + wt t x≤4611686018427387904→∃ (y:t.den) (k':Int),k≤k'∧k'≤k + wt t x∧mk x k=some (y,k',())
def ElOk1 (e:Ty) {C1 Q1:Type} (B:(List e.den×Int×Int×Unit→Option Q1)→C1→List e.den×Int×Int×Unit→Option Q1) (cs1:C1):Prop :=
  ∀ (x:e.den) (k:Int),1≤k→k + wt e x≤4611686018427387904→∃ (y:e.den) (k':Int),k≤k'∧k'≤k + wt e x ∧
    ∀ (next:List e.den×Int×Int×Unit→Option Q1) (l:List e.den) (i:Nat),i < l.length→l.length≤4611686018427387904→(∀ z,l.getD i z=x)→B next cs1 (l,k,(i:Int),())=next (l.set i y,k',((i:Int) + 1),())
theorem marks_run1 {e:Ty} {C1 Q1:Type} {B:(List e.den×Int×Int×Unit→Option Q1)→C1→List e.den×Int×Int×Unit→Option Q1} {cs1:C1}
    {dn:List e.den→Int→Option Q1} (hel:ElOk1 e B cs1) (h1:∀ next l k,B next cs1 (l,k,(List.length l:Int),())=dn l k) :
    ∀ (s:List e.den) (k:Int),1≤k→k + wt (.slice e) s≤4611686018427387904→∃ (s':List e.den) (k':Int),k≤k'∧k'≤k + wt (.slice e) s ∧
      ∀ (pre:List e.den) (m:Nat),pre.length + s.length≤4611686018427387904→s.length < m→runL B cs1 m (pre++s,k,(pre.length:Int),())=dn (pre++s') k':=by
  intro s
  induction s with
  | nil =>
    intro k hk hw
    refine ⟨[],k,Int.le_refl _,by omega,fun pre m _ hm=>?_⟩
    rw [runL_pos _ _ (by simpa using hm),List.append_nil]; exact h1 _ _ _
  | cons x s ih =>
    intro k hk hw
    have e1:(wt (.slice e) (x :: s):Int)=1 + wt e x + wt (.slice e) s:=by
      rw [wt_slice,wt_slice]
      simp only [List.length_cons,List.map_cons,List.sum_cons]
      omega
    rw [e1] at hw
    obtain ⟨y,k1,g1,g2,gB⟩:=hel x k hk (by omega)
    obtain ⟨s',k2,i1,i2,iB⟩:=ih k1 (by omega) (by omega)
    refine ⟨y :: s',k2,by omega,by omega,fun pre m hp hm=>?_⟩
    simp only [List.length_cons] at hp hm
    rw [runL_pos _ _ (by omega),gB _ _ _ (by simp) (by simp; omega) (fun z=>getD_pre pre x s z),set_pre]
    have:=iB (pre++[y]) (m - 1) (by simp; omega) (by omega)
    simp only [List.length_append,List.length_cons,List.length_nil,Nat.zero_add,Int.natCast_add,Int.cast_ofNat_Int] at this
    rw [this]
    simp
theorem markS1_ok {e:Ty} {C1:Type} {B:(List e.den×Int×Int×Unit→Option (List e.den×Int×Unit))→C1→List e.den×Int×Int×Unit→Option (List e.den×Int×Unit)} {cs1:C1}
    {n:Nat} (hn:Big n) (hel:ElOk1 e B cs1) (h1:∀ next l k,B next cs1 (l,k,(List.length l:Int),())=some (l,k,())) :
    MarkOk1 (.slice e) (fun x k=>runL B cs1 n (x,k,0,())):=by
  intro x k hk hw
  have hn:18446744073709551616≤n:=hn
  obtain ⟨y,k',g1,g2,gB⟩:=marks_run1 (dn:=fun l k=>some (l,k,())) hel h1 x k hk hw
  rw [wt_slice] at hw
  have:=gB [] n (by simp only [List.length_nil]; omega) (by omega)
  exact ⟨y,k',g1,g2,by assumption⟩
def wtC:Ty→Nat
  | .slice e=>1 + wtC e
  | .pair a b=>wtC a + wtC b
  | .unit=>0
  | _=>1
theorem wt_bulk:∀ {t:Ty} {x:t.den},wt t x≤wtC t * (bulk t x + 1)
  | .int _,x=>by simp [wt,wtC]
  | .bool,x=>by simp [wt,wtC]
  | .str,x=>by simp [wt,wtC]
  | .ptr _,x=>by simp [wt,wtC]
  | .ifp _ _,x=>by simp [wt,wtC]
  | .unit,x=>by simp [wt,wtC]
  | .pair a b,x=>by
    have h1:=wt_bulk (t:=a) (x:=x.1)
    have h2:=wt_bulk (t:=b) (x:=x.2)
    simp only [wt,wtC,bulk]
    refine Nat.le_trans (Nat.add_le_add h1 h2) ?_
    rw [Nat.add_mul]
    exact Nat.add_le_add (Nat.mul_le_mul_left _ (by omega)) (Nat.mul_le_mul_left _ (by omega))
  | .slice e,l=>by
    have key:∀ l:List e.den,(l.map (wt e)).sum≤wtC e * ((l.map (bulk e)).sum + l.length):=by
      intro l
      induction l with
      | nil=>simp
      | cons x l ih =>
        have h:=wt_bulk (t:=e) (x:=x)
        simp only [List.map_cons,List.sum_cons,List.length_cons]
        refine Nat.le_trans (Nat.add_le_add h ih) ?_
        rw [← Nat.mul_add]
        exact Nat.mul_le_mul_left _ (by omega)
    have h:=key l
    simp only [wt,wtC,bulk]
    rw [Nat.add_mul,Nat.one_mul]
    have h2:wtC e * ((List.map (bulk e) l).sum + List.length l)≤wtC e * (List.length l + (List.map (bulk e) l).sum + 1):=Nat.mul_le_mul_left _ (by omega)
    omega
theorem wt_small {t:Ty} {x:t.den} (hb:(bulk t x:Int)≤1048576) (hc:Nat.ble (wtC t) 1000=true):(wt t x:Int)≤1048577000:=by
  have h:=wt_bulk (t:=t) (x:=x)
  have h1:wtC t≤1000:=Nat.le_of_ble_eq_true hc
  have h2:wtC t * (bulk t x + 1)≤1000 * 1048577:=Nat.mul_le_mul h1 (by omega)
  omega
end Go.Vm
