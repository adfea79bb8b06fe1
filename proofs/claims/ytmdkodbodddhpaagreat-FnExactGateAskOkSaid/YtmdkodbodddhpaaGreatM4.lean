/- A verified symbolic evaluator of loaded Go code: what it tells of a function is the function's contract (part 4). No conditions. -/
import Derived.Test.YtmdkodbodddhpaaGreatM3
import Derived.LoopN
import Derived.WalkKit
import Derived.ProofKit
import Derived.OpenShut
import Derived.ShutString
import Derived.ChangeOld
import Derived.Below
import Derived.Carry
import Derived.SizedLaws
set_option linter.unusedVariables false
set_option linter.unusedSimpArgs false
set_option linter.unnecessarySimpa false
namespace Go.Vm
open Go.RowKit (Below)
set_option linter.unusedSimpArgs false
section
variable {P:Program}
theorem ev_put {a:Act} {d t:Nat} {v:Value} (h:d < a.tmps.size):(a.put (some d) v).eval (.tmp t)=if t=d then v else a.eval (.tmp t):=by
  show (a.tmps.setIfInBounds d v).getD t undef=if t=d then v else a.tmps.getD t undef
  rw [Array.getD_eq_getD_getElem?,Array.getD_eq_getD_getElem?]
  by_cases e:t=d
  · subst e
    rw [if_pos rfl,Array.getElem?_setIfInBounds_self_of_lt h]
    rfl
  · rw [if_neg e,Array.getElem?_setIfInBounds_ne (fun h=>e h.symm)]
theorem sz_put {a:Act} {d:Nat} {v:Value}:(a.put (some d) v).tmps.size=a.tmps.size:=by simp [Act.put]
theorem df_put {a:Act} {d:Option Nat} {v:Value}:(a.put d v).defers=a.defers:=by cases d<;>rfl
theorem wrap_i64 {a:Int} (h0:-9223372036854775808≤a) (h1:a < 9223372036854775808):IntKind.i64.wrap a=a:=by
  have h:IntKind.i64.wrap a=if (true && decide (a % 18446744073709551616≥9223372036854775808))=true then a % 18446744073709551616 - 18446744073709551616 else a % 18446744073709551616:=rfl
  rw [h]
  by_cases h:a % 18446744073709551616≥9223372036854775808
  · rw [if_pos (by simpa using h)]
    omega
  · rw [if_neg (by simpa using h)]
    omega
theorem run_load1 {ρ:Operand→Value} {o:Oper} {t:TypeId} {x:Operand} (ho:o.op=.load t x) {i:TypeInfo} (hag:aggT P t=some false) (hi:P.info? t=some i) (hs:i.size=1) {w:World} {b off:Nat} {v:Value} (hx:ρ x=.pointer (some ⟨b,off,none⟩)) (hm:Mem w b off [v]):(execOp ρ o).run P w=.ok (.value v) w:=by
  simp only [execOp,ho,hx,Instr.loadAt,Instr.sureAddr,Sem.run_bind,Sem.run_pure,Result.andThen_ok,loadVar_run (ad:=⟨b,off,none⟩) hag hi rfl hm (by simp [hs]) (fun h=>rfl)]
  rfl
theorem mem_one {w:World} {b:Nat} {v:Value} {T:TypeId} {fz:Nat×Nat} (h:w.heap[b]?=some (.cells #[v] T fz)):Mem w b 0 [v] := ⟨_,_,_,h,by simp,rfl⟩
theorem run_bin {ρ:Operand→Value} {o:Oper} {op:BinOp} {t t2:TypeId} {x y:Operand} {k:IntKind} {a b:Int} {u:V} (ho:o.op=.binOp op t x y t2) (hu:P.underlying t=some (.int k)) (hop:arith op k a b=some u) (hx:ρ x=.int k a) (hy:ρ y=.int k b) (hb:bin (R:=V) (some (.int k)) none op (.d (.int k) a) (.d (.int k) b) some=some u) (w:World) :
    ∃ v,(execOp ρ o).run P w=.ok (.value v) w∧∀ cx:Cx,trep cx v u:=by
  obtain ⟨v,hv,h⟩:=bin_sound (P:=P) (R:=V) (W:=none) (op:=op) (x:=.d (.int k) a) (y:=.d (.int k) b) (k:=some) (r:=u) (t:=t) (by rw [hu]; exact hb)
  cases hv
  obtain ⟨r,h1,h2⟩:=h (fun w hw=>by cases hw) ⟨w,fun _=>True,[],[]⟩ (.int k a) (.int k b) x y w trep_int trep_int
  refine ⟨r,?_,fun cx=>?_⟩
  · simp only [Sem.run_bind] at h1
    simp only [execOp,ho,hx,hy,Sem.run_bind]
    cases hg:(eqGuard op t x y (.int k a) (.int k b)).run P w with
    | ok q w2 =>
      rw [hg] at h1
      simp only [Result.andThen_ok] at h1 ⊢
      rw [h1]
      rfl
    | _=>rw [hg] at h1; cases h1
  · cases op<;>simp only [arith,Option.some.injEq,reduceCtorEq] at hop<;>subst hop<;>exact h2
theorem run_eqI {ρ:Operand→Value} {o:Oper} {t t2:TypeId} {x y:Operand} {k:IntKind} {a b:Int} (ho:o.op=.binOp .eql t x y t2) (hu:P.underlying t=some (.int k)) (hx:ρ x=.int k a) (hy:ρ y=.int k b) (w:World):(execOp ρ o).run P w=.ok (.value (.bool (a == b))) w:=by
  obtain ⟨v,h1,h2⟩:=run_bin (u:=.d .bool (a == b)) ho hu rfl hx hy (by simp [bin,arith]) w
  rw [h1,crep_bool (h2 ⟨w,fun _=>True,[],[]⟩)]
theorem run_ltI {ρ:Operand→Value} {o:Oper} {t t2:TypeId} {x y:Operand} {k:IntKind} {a b:Int} (ho:o.op=.binOp .lss t x y t2) (hu:P.underlying t=some (.int k)) (hx:ρ x=.int k a) (hy:ρ y=.int k b) (w:World):(execOp ρ o).run P w=.ok (.value (.bool (decide (a < b)))) w:=by
  obtain ⟨v,h1,h2⟩:=run_bin (u:=.d .bool (decide (a < b))) ho hu rfl hx hy (by simp [bin,arith]) w
  rw [h1,crep_bool (h2 ⟨w,fun _=>True,[],[]⟩)]
theorem run_addI {ρ:Operand→Value} {o:Oper} {t t2:TypeId} {x y:Operand} {k:IntKind} {a b:Int} (ho:o.op=.binOp .add t x y t2) (hu:P.underlying t=some (.int k)) (hx:ρ x=.int k a) (hy:ρ y=.int k b) (w:World):(execOp ρ o).run P w=.ok (.value (.int k (k.wrap (a + b)))) w:=by
  obtain ⟨v,h1,h2⟩:=run_bin (u:=.d (.int k) (k.wrap (a + b))) ho hu rfl hx hy (by simp [bin,arith]) w
  rw [h1,crep_int (h2 ⟨w,fun _=>True,[],[]⟩)]
theorem run_len {ρ:Operand→Value} {o:Oper} {x:Operand} {t el:TypeId} {A:Option Addr} {n c:Nat} (ho:o.op=.call ⟨.builtin .len,#[x],#[t]⟩) (hu:P.underlying t=some (.slice el)) (hx:ρ x=.slice A n c) (w:World):(execOp ρ o).run P w=.ok (.value (.int .i64 n)) w:=by
  simp [execOp,ho,resolve,invoke,builtin,hx,Builtin.len_,run_underlying hu,goInt]
theorem run_lookupI {ρ:Operand→Value} {o:Oper} {t kt et:TypeId} {m k:Operand} (ho:o.op=.lookup t m k false) (hT:P.underlying t=some (.map kt et)) (hk:keyOk P kt .str=true) {i:TypeInfo} (hi:P.info? et=some i) (hz:i.zero=some (.int .i64 0)) {w:World} {b:Nat} {l:List (ByteArray×Int)} {x:ByteArray}
    (hm:ρ m=.map (some b)) (hx:ρ k=.string x) (h:MapAt w b .str l):(execOp ρ o).run P w=.ok (.value (.int .i64 (mget .str l x))) w:=by
  obtain ⟨es,hb,hr⟩:=h
  have hv:KV .str x (.string x):=.inr ⟨rfl,rfl⟩
  have:=lookup_run (P:=P) hT hk hi hz hv hr hb
  simp only [execOp,ho,hm,hx,Sem.run_bind,this,Result.andThen_ok]
  rfl
theorem run_mapUpd {ρ:Operand→Value} {o:Oper} {t kt et:TypeId} {m k y:Operand} (ho:o.op=.mapUpdate t m k y) (hT:P.underlying t=some (.map kt et)) (hk:keyOk P kt .str=true) {w:World} {b:Nat} {l:List (ByteArray×Int)} {x:ByteArray} {n:Int}
    (hm:ρ m=.map (some b)) (hx:ρ k=.string x) (hy:ρ y=.int .i64 n) (h:MapAt w b .str l):∃ w',(execOp ρ o).run P w=.ok .skip w'∧MapAt w' b .str (mput .str l x n)∧OnlyAt b w w':=by
  have hv:KV .str x (.string x):=.inr ⟨rfl,rfl⟩
  obtain ⟨w',h1,h2,h3⟩:=mapUpdate_run (P:=P) hT hk hv h n
  refine ⟨w',?_,h2,h3⟩
  simp only [execOp,ho,hm,hx,hy,Sem.run_bind,h1,Result.andThen_ok]
  rfl
theorem run_index {ρ:Operand→Value} {o:Oper} {t el:TypeId} {x i:Operand} (ho:o.op=.indexAddr t x i) (ht:P.underlying t=some (.slice el)) {ti:TypeInfo} (hi:P.info? el=some ti) (hs:ti.size=1) {ad:Addr} {n c j:Nat} (hx:ρ x=.slice (some ad) n c) (hj:ρ i=.int .i64 (j:Int)) (hlt:j < n) (w:World) :
    (execOp ρ o).run P w=.ok (.value (.pointer (some (ad.add j)))) w:=by
  have h0:0≤(j:Int):=by omega
  have h1:(j:Int) < (n:Int):=by omega
  simp [execOp,ho,hx,hj,Instr.indexAt,asIntOf,run_underlying ht,sizeOf_run hi,hs]
  intro h
  omega
theorem run_callV {ρ:Operand→Value} {o:Oper} {x y:Operand} {ts:Array TypeId} {f:FuncId} {cap:Array Value} {v:Value} (ho:o.op=.call ⟨.value x,#[y],ts⟩) (hx:ρ x=.func (.func f) #[] cap) (hy:ρ y=v) (hen:∀ args w,(callFunc f args).run P w=.ok (.enter f args) w) (w:World):(execOp ρ o).run P w=.ok (.enter f (#[v]++cap)) w:=by
  simp only [execOp,ho,resolve,hx,Deferred.ofValue,Sem.run_bind,Sem.run_pure,Result.andThen_ok,invoke,hen]
  simp [hy]
theorem run_alloc {ρ:Operand→Value} {o:Oper} {t:TypeId} (ho:o.op=.alloc t) {i:TypeInfo} (hi:P.info? t=some i) {z:Value} (hz:i.zero=some z) (w:World):(execOp ρ o).run P w=.ok (.value (.pointer (some ⟨w.heap.size,0,none⟩))) (w.alloc (.cells z.cells t)):=by
  simp only [execOp,ho,Instr.alloc,Sem.run_bind,zeroValue_run hi hz,Result.andThen_ok,newVar,newRow,run_newObj,Sem.run_pure]
  rfl
theorem run_box1 {ρ:Operand→Value} {o:Oper} {t:TypeId} {x:Operand} {v:Value} (ho:o.op=.box t x) (hx:ρ x=v) (w:World):(execOp ρ o).run P w=.ok (.value (.pointer (some ⟨w.heap.size,0,none⟩))) (w.alloc (.cells v.cells t)):=by
  simp only [execOp,ho,hx,Instr.box,Sem.run_bind,Result.andThen_ok,newVar,newRow,run_newObj,Sem.run_pure]
  rfl
theorem run_store1 {ρ:Operand→Value} {o:Oper} {t:TypeId} {x y:Operand} (ho:o.op=.store t x y) {i:TypeInfo} (hi:P.info? t=some i) (hs:i.size=1) {w:World} {b:Nat} {v0 v:Value} {T:TypeId} (hx:ρ x=.pointer (some ⟨b,0,none⟩)) (hy:ρ y=v) (h1:one v) (hb:w.heap[b]?=some (.cells #[v0] T (0,0))) :
    ∃ w',(execOp ρ o).run P w=.ok .skip w'∧w'.heap[b]?=some (.cells #[v] T (0,0))∧OnlyAt b w w':=by
  have hc:v.cells=#[v] := by cases v<;>first | rfl | exact h1.elim
  have h:=store_run (P:=P) (o:=0) hi hb (v:=v) (by simp [hc,hs]) (by simp [hs]) (fun z hz=>by rw [hc] at hz; simp at hz; rw [hz]; exact h1)
  have hlt:b < w.heap.size:=lt_of_block hb
  have he:(splice (#[v0]:Array Value).toList 0 i.size v.cells.toList).toArray=#[v] := by rw [hc,hs]; rfl
  rw [he] at h
  refine ⟨w.setRow b #[v],?_,?_,?_⟩
  · simp only [execOp,ho,hx,hy,Sem.run_bind,h,Result.andThen_ok]
    rfl
  · show (w.heap.modify b _)[b]?=_
    rw [Array.getElem?_modify,if_pos rfl,hb]
    rfl
  · refine ⟨rfl,rfl,rfl,by simp [World.setRow],fun q hq=>?_⟩
    show (w.heap.modify b _)[q]?=_
    rw [Array.getElem?_modify,if_neg (fun e=>hq e.symm)]
def StrRow (w:World) (l:List ByteArray) (v:Value) (bs:List Nat):Prop :=
  (l=[]∧v=.slice none 0 0∧bs=[])∨∃ b c T,bs=[b]∧v=.slice (some ⟨b,0,none⟩) l.length c.size∧w.heap[b]?=some (.cells c T (0,0))∧l.length≤c.size∧cut c.toList 0 l.length=l.map Value.string
theorem StrRow.keep {w w':World} {l:List ByteArray} {v:Value} {bs:List Nat} (h:StrRow w l v bs) (hk:∀ b∈bs,w'.heap[b]?=w.heap[b]?):StrRow w' l v bs:=by
  rcases h with h | ⟨b,c,T,rfl,h1,h2,h3,h4⟩
  · exact .inl h
  · exact .inr ⟨b,c,T,rfl,h1,(hk b (by simp)).trans h2,h3,h4⟩
theorem StrRow.one {w:World} {l:List ByteArray} {v:Value} {bs:List Nat} (h:StrRow w l v bs):one v:=by
  rcases h with ⟨_,rfl,_⟩ | ⟨b,c,T,_,rfl,_⟩<;>trivial
theorem StrRow.own {w:World} {l:List ByteArray} {v:Value} {bs:List Nat} (h:StrRow w l v bs):own w (.slice .str) l [v] bs:=by
  rcases h with ⟨rfl,rfl,rfl⟩ | ⟨b,c,T,rfl,rfl,h2,h3,h4⟩
  · exact .inl ⟨rfl,rfl,rfl⟩
  · refine .inr ⟨b,c,T,c.size,List.replicate l.length [],by simp,rfl,h2,by simp [Ty.sz],h3,by simp,fun i hi=>?_⟩
    have e:(List.replicate l.length ([]:List Nat)).getD i []=[] := by simp [List.getD_eq_getElem?_getD,hi]
    rw [e]
    refine ⟨?_,rfl⟩
    have h5:cut c.toList (i * Ty.str.sz) Ty.str.sz=cut (cut c.toList 0 l.length) i 1:=by
      simp only [Ty.sz,Nat.mul_one]
      rw [cut_at (by omega),Nat.zero_add]
    rw [h5,h4]
    simp only [cut]
    rw [List.drop_eq_getElem_cons (by simpa using hi)]
    simp
theorem StrRow.append {w:World} {l:List ByteArray} {v:Value} {bs:List Nat} (h:StrRow w l v bs) {t el:TypeId} (ht:P.underlying t=some (.slice el)) (hz:zeroIs P el .str=true) (hbd:appBound l.length 1 16=true) (h16:∀ i,P.info? el=some i→i.bytes=16) {x:ByteArray} {b0:Nat} {T0:TypeId} {fz:Nat×Nat}
    (hb0:w.heap[b0]?=some (.cells #[.string x] T0 fz)) (ty:TypeId) :
    ∃ v' w' b,(Builtin.append_ #[t,t] ty #[v,.slice (some ⟨b0,0,none⟩) 1 1]).run P w=.ok v' w'∧w'.os=w.os∧w'.tape=w.tape∧w'.output=w.output∧StrRow w' (l++[x]) v' [b]∧w.heap.size≤w'.heap.size∧(b∈bs∨(b=w.heap.size∧b < w'.heap.size))∧∀ q,q < w.heap.size→q∉bs→w'.heap[q]?=w.heap[q]? := by
  obtain ⟨i,z,hi,hiz,hzv,hsz,hs1,hb1⟩:=zeroIs_spec hz
  have hrep:rep w (fun _=>True) (.slice .str) [x] [.slice (some ⟨b0,0,none⟩) 1 1] := ⟨some ⟨b0,0,none⟩,1,rfl,Nat.le_refl _,fun j hj=>by
    have hj:j < 1:=hj
    have:j=0:=by omega
    subst this
    exact ⟨⟨b0,0,none⟩,[.string x],rfl,rfl,trivial,⟨#[.string x],T0,fz,hb0,by simp [Ty.sz],rfl⟩,rfl⟩⟩
  obtain ⟨A,c',news,hv,hsrc,hel⟩:=Src.of_rep hrep
  have hv:Value.slice (some ⟨b0,0,none⟩) 1 1=.slice A 1 c':=hv
  cases hv
  have hsrc:Src w (some ⟨b0,0,none⟩) 1 1 news:=hsrc
  have hhdr:hdr w .str l bs v:=by
    rcases h with ⟨rfl,rfl,rfl⟩ | ⟨b,c,T,rfl,rfl,h2,h3,h4⟩
    · exact ⟨rfl,rfl⟩
    · exact ⟨c,T,c.size,h2,rfl,h3,by simp [Ty.sz]⟩
  have hby:i.bytes=16:=h16 i hi
  obtain ⟨v',w',hr,hos,htp,hout,hres⟩:=append_run (P:=P) ty ht hi hiz (e:=.str) (by show z.cells.size=1; have:=congrArg List.length hzv; simpa [zvals] using this) hsz hb1 hhdr hsrc (m:=1) (c':=1) (by rw [hby]; exact hbd) (fun b c T hb hc=>by
    rcases h with ⟨rfl,rfl,rfl⟩ | ⟨b',c2,T',rfl,rfl,h2,h3,h4⟩
    · cases hb
    · simp at hb
      subst hb
      rw [h2] at hc
      simp at hc
      obtain ⟨rfl,_⟩:=hc
      simpa [Ty.sz] using h3)
  rcases hres with ⟨h0,_⟩ | ⟨hb,cN,TN,cap,rfl,hbN,hle,hcap,hcut,hlen,hold,hwh⟩
  · cases h0
  have hel0:rep w (fun _=>True) .str x (cut news (0 * 1) 1):=hel 0 (by simp)
  have hnews:news=[.string x] := by
    have h1:cut news 0 1=[Value.string x] := hel0
    have h2:news.length=1:=hlen
    match news,h2 with
    | [u],_=>simpa [cut] using h1
  have hcap:cap=cN.size:=by simpa [Ty.sz] using hcap
  refine ⟨_,w',hb,hr,hos,htp,hout,.inr ⟨hb,cN,TN,rfl,by simp [hcap],hbN,by simp; omega,?_⟩,?_,?_,?_⟩
  · have h1:cut cN.toList l.length 1=news:=by simpa [Ty.sz] using hcut
    have h2:cut cN.toList 0 l.length=l.map Value.string:=by
      rcases h with ⟨rfl,rfl,rfl⟩ | ⟨b',c2,T',rfl,rfl,h2,h3,h4⟩
      · rfl
      · have:=hold b' c2 T' rfl h2
        simp only [Ty.sz,Nat.mul_one] at this
        rw [this,h4]
    have h3:cut cN.toList 0 (l++[x]).length=cut cN.toList 0 l.length++cut cN.toList l.length 1:=by
      simp only [cut,List.drop_zero,List.length_append,List.length_cons,List.length_nil,Nat.zero_add]
      rw [List.take_add]
    rw [h3,h2,h1,hnews]
    simp
  · rcases hwh with ⟨_,h1,_⟩ | ⟨_,h1,_⟩<;>omega
  · rcases hwh with ⟨h0,h1,_⟩ | ⟨h0,h1,_⟩
    · exact .inl (List.mem_of_mem_head? h0)
    · exact .inr ⟨h0,by omega⟩
  · intro q hq hqb
    rcases hwh with ⟨h0,h1,h2⟩ | ⟨h0,h1,h2⟩
    · refine h2 q (fun e=>hqb ?_)
      rw [e]
      exact List.mem_of_mem_head? h0
    · exact h2 q hq
abbrev RowS:=List (ByteArray×Int)×List ByteArray
def goP (wk:ByteArray→RowS→Option (Bool×RowS)):List ByteArray→RowS→Option (Bool×RowS)
  | [],s=>some (true,s)
  | y :: ys,s=>(wk y s).bind fun r=>if r.1=true then goP wk ys r.2 else some (false,r.2)
def walkP (rd:ByteArray→Option (List ByteArray)):Nat→ByteArray→RowS→Option (Bool×RowS)
  | 0,_,_=>none
  | k + 1,x,s=>if (mget .str s.1 x == 1)=true then some (false,s) else if (mget .str s.1 x == 2)=true then some (true,s) else
      (rd x).bind fun ys=>if Nat.ble ys.length 4611686018427387904=true then (goP (walkP rd k) ys (mput .str s.1 x 1,s.2)).bind fun r=>if r.1=true then (if appBound r.2.2.length 1 16=true then some (true,mput .str r.2.1 x 2,r.2.2++[x]) else none) else some (false,r.2) else none
def rowP (n:Nat) (rd:ByteArray→Option (List ByteArray)) (all:List ByteArray):Option (Tup [.slice .str,.bool]) :=
  if Nat.ble all.length 4611686018427387904=true then (goP (walkP rd n) all ([],[])).bind fun r=>if r.1=true then some (r.2.2,true,()) else some ([],false,()) else none
section
variable (w0:World) (fw fr:FuncId) (cap:Array Value) (pm bm pr ps po:Nat)
abbrev atP (b:Nat):Value:=.pointer (some ⟨b,0,none⟩)
structure RowSt (w:World) (m:List (ByteArray×Int)) (l:List ByteArray) (bs:List Nat):Prop where
  below:Below w0.heap.size w0 w
  map:MapAt w bm .str m
  cm:∃ T,w.heap[pm]?=some (.cells #[.map (some bm)] T (0,0))
  cr:∃ T,w.heap[pr]?=some (.cells #[.func (.func fr) #[] cap] T (0,0))
  cs:∃ T,w.heap[ps]?=some (.cells #[.func (.func fw) #[] #[atP pm,atP pr,atP ps,atP po]] T (0,0))
  co:∃ T v,w.heap[po]?=some (.cells #[v] T (0,0))∧StrRow w l v bs
  ge:∀ b∈bm :: pm :: pr :: ps :: po :: bs,w0.heap.size≤b∧b < w.heap.size
  nd:(bm :: pm :: pr :: ps :: po :: bs).Nodup
end
structure RChg (bm po:Nat) (bs:List Nat) (w:World) (bs':List Nat) (w':World):Prop where
  os:w'.os=w.os
  tape:w'.tape=w.tape
  output:w'.output=w.output
  size:w.heap.size≤w'.heap.size
  same:∀ b,b < w.heap.size→b≠bm→b≠po→b∉bs→w'.heap[b]?=w.heap[b]?
  sub:∀ b∈bs',b∈bs∨w.heap.size≤b
theorem RChg.trans {bm po:Nat} {bs bs1 bs2:List Nat} {w w1 w2:World} (h:RChg bm po bs w bs1 w1) (k:RChg bm po bs1 w1 bs2 w2):RChg bm po bs w bs2 w2 :=
  ⟨k.os.trans h.os,k.tape.trans h.tape,k.output.trans h.output,Nat.le_trans h.size k.size,fun b hb h1 h2 h3=>(k.same b (Nat.lt_of_lt_of_le hb h.size) h1 h2 (fun hm=>(h.sub b hm).elim h3 (fun hle=>by omega))).trans (h.same b hb h1 h2 h3),
    fun b hb=>(k.sub b hb).elim (fun hm=>h.sub b hm) (fun hle=>.inr (Nat.le_trans h.size hle))⟩
theorem RChg.refl {bm po:Nat} {bs:List Nat} {w:World}:RChg bm po bs w bs w:=⟨rfl,rfl,rfl,Nat.le_refl _,fun _ _ _ _ _=>rfl,fun _ h=>.inl h⟩
section
variable {w0:World} {fw fr:FuncId} {cap:Array Value} {pm bm pr ps po:Nat} {w w':World} {m:List (ByteArray×Int)} {l:List ByteArray} {bs:List Nat}
theorem RowSt.onMap (h:RowSt w0 fw fr cap pm bm pr ps po w m l bs) {m':List (ByteArray×Int)} (hm:MapAt w' bm .str m') (ho:OnlyAt bm w w'):RowSt w0 fw fr cap pm bm pr ps po w' m' l bs∧RChg bm po bs w bs w':=by
  obtain ⟨h1,h2,h3,h4,h5⟩:=ho
  have hge:=h.ge bm (by simp)
  have hnd:=h.nd
  simp only [List.nodup_cons,List.mem_cons,not_or] at hnd
  obtain ⟨⟨n1,n2,n3,n4,n5⟩,_⟩:=hnd
  refine ⟨⟨⟨h1.trans h.below.os,h2.trans h.below.tape,h3.trans h.below.output,by rw [h4]; exact h.below.size,fun k hk=>(h5 k (by omega)).trans (h.below.block k hk)⟩,hm,?_,?_,?_,?_,fun b hb=>by rw [h4]; exact h.ge b hb,h.nd⟩,
    ⟨h1,h2,h3,by omega,fun b _ hb _ _=>h5 b hb,fun b hb=>.inl hb⟩⟩
  · rw [h5 pm (fun e=>n1 e.symm)]; exact h.cm
  · rw [h5 pr (fun e=>n2 e.symm)]; exact h.cr
  · rw [h5 ps (fun e=>n3 e.symm)]; exact h.cs
  · obtain ⟨T,v,hc,hv⟩:=h.co
    exact ⟨T,v,by rw [h5 po (fun e=>n4 e.symm)]; exact hc,hv.keep (fun b hb=>h5 b (fun e=>n5 (e ▸ hb)))⟩
theorem RowSt.onNew (h:RowSt w0 fw fr cap pm bm pr ps po w m l bs) (hb:Below w.heap.size w w'):RowSt w0 fw fr cap pm bm pr ps po w' m l bs∧RChg bm po bs w bs w':=by
  have hk:∀ b∈bm :: pm :: pr :: ps :: po :: bs,w'.heap[b]?=w.heap[b]? := fun b hm=>hb.block b (h.ge b hm).2
  refine ⟨⟨⟨hb.os.trans h.below.os,hb.tape.trans h.below.tape,hb.output.trans h.below.output,Nat.le_trans h.below.size hb.size,fun k hk'=>(hb.block k (Nat.lt_of_lt_of_le hk' h.below.size)).trans (h.below.block k hk')⟩,?_,?_,?_,?_,?_,fun b hm=>⟨(h.ge b hm).1,Nat.lt_of_lt_of_le (h.ge b hm).2 hb.size⟩,h.nd⟩,
    ⟨hb.os,hb.tape,hb.output,hb.size,fun b hlt _ _ _=>hb.block b hlt,fun b hm=>.inl hm⟩⟩
  · obtain ⟨es,h1,h2⟩:=h.map
    exact ⟨es,(hk bm (by simp)).trans h1,h2⟩
  · rw [hk pm (by simp)]; exact h.cm
  · rw [hk pr (by simp)]; exact h.cr
  · rw [hk ps (by simp)]; exact h.cs
  · obtain ⟨T,v,hc,hv⟩:=h.co
    exact ⟨T,v,by rw [hk po (by simp)]; exact hc,hv.keep (fun b hb=>hk b (by simp [hb]))⟩
theorem RowSt.onRow (h:RowSt w0 fw fr cap pm bm pr ps po w m l bs) {w2:World} {v:Value} {l':List ByteArray} {b:Nat} {T:TypeId} (h1:w'.os=w.os) (h2:w'.tape=w.tape) (h3:w'.output=w.output) (h4:w.heap.size≤w'.heap.size) (hr:StrRow w' l' v [b])
    (hb:b∈bs∨(b=w.heap.size∧b < w'.heap.size)) (hs:∀ q,q < w.heap.size→q∉bs→w'.heap[q]?=w.heap[q]?) (ho:OnlyAt po w' w2) (hc:w2.heap[po]?=some (.cells #[v] T (0,0))):RowSt w0 fw fr cap pm bm pr ps po w2 m l' [b]∧RChg bm po bs w [b] w2:=by
  obtain ⟨o1,o2,o3,o4,o5⟩:=ho
  have hnd:=h.nd
  simp only [List.nodup_cons,List.mem_cons,not_or] at hnd
  obtain ⟨⟨n1,n2,n3,n4,n5⟩,⟨p1,p2,p3,p4⟩,⟨q1,q2,q3⟩,⟨r1,r2⟩,s1,hbs⟩:=hnd
  have g1:=h.ge bm (by simp)
  have g2:=h.ge pm (by simp)
  have g3:=h.ge pr (by simp)
  have g4:=h.ge ps (by simp)
  have g5:=h.ge po (by simp)
  have hbne:∀ q,q < w.heap.size→q∉bs→b≠q:=by
    intro q hq hm e
    subst e
    rcases hb with hb | ⟨hb,_⟩
    · exact hm hb
    · omega
  have hk:∀ q,q < w.heap.size→q≠po→q∉bs→w2.heap[q]?=w.heap[q]? := fun q h1 h2 h3=>(o5 q h2).trans (hs q h1 h3)
  have hbge:w0.heap.size≤b∧b < w2.heap.size:=by
    rcases hb with hb | ⟨hb,hb2⟩
    · have:=h.ge b (by simp [hb])
      omega
    · have:=h.below.size
      omega
  have bpo:=hbne po g5.2 s1
  refine ⟨⟨⟨o1.trans (h1.trans h.below.os),o2.trans (h2.trans h.below.tape),o3.trans (h3.trans h.below.output),by rw [o4]; exact Nat.le_trans h.below.size h4,fun k hk'=>(hk k (by have:=h.below.size; omega) (by omega) (fun hm=>by have:=(h.ge k (by simp [hm])).1; omega)).trans (h.below.block k hk')⟩,
      ?_,?_,?_,?_,⟨T,v,hc,hr.keep (fun q hq=>by simp at hq; subst hq; exact o5 _ bpo)⟩,?_,?_⟩,
    ⟨o1.trans h1,o2.trans h2,o3.trans h3,by omega,fun q hq _ h2 h3=>hk q hq h2 h3,fun q hq=>by simp at hq; subst hq; exact hb.imp (fun h=>h) (fun h=>by omega)⟩⟩
  · obtain ⟨es,e1,e2⟩:=h.map
    exact ⟨es,(hk bm g1.2 n4 n5).trans e1,e2⟩
  · rw [hk pm g2.2 p3 p4]; exact h.cm
  · rw [hk pr g3.2 q2 q3]; exact h.cr
  · rw [hk ps g4.2 r1 r2]; exact h.cs
  · intro q hq
    simp only [List.mem_cons,List.not_mem_nil,or_false] at hq
    rcases hq with rfl | rfl | rfl | rfl | rfl | rfl
    · omega
    · omega
    · omega
    · omega
    · omega
    · exact hbge
  · simp only [List.nodup_cons,List.mem_cons,List.not_mem_nil,or_false,not_or,not_false_eq_true,List.nodup_nil,and_true]
    exact ⟨⟨n1,n2,n3,n4,fun e=>hbne bm g1.2 n5 e.symm⟩,⟨p1,p2,p3,fun e=>hbne pm g2.2 p4 e.symm⟩,⟨q1,q2,fun e=>hbne pr g3.2 q3 e.symm⟩,⟨r1,fun e=>hbne ps g4.2 r2 e.symm⟩,fun e=>bpo e.symm⟩
end
theorem step_val {os:Array Oper} {Q:Exit→Act→World→Prop} {i:Nat} {rest:List Nat} {o:Oper} {a:Act} {w w':World} {v:Value} (d:Nat) (hi:os[i]?=some o) (hd:o.dst=some d) (hg:o.guard=none) (hr:(execOp a.eval o).run P w=.ok (.value v) w') (h:wpOps P os Q rest (a.put (some d) v) w'):wpOps P os Q (i :: rest) a w :=
  step_value (a.put (some d) v) (by rw [hd]) hi hg hr h
theorem step_call {os:Array Oper} {Q:Exit→Act→World→Prop} {i:Nat} {rest:List Nat} {o:Oper} {a:Act} {w:World} {f:FuncId} {args:Array Value} (d:Nat) (hi:os[i]?=some o) (hd:o.dst=some d) (hg:o.guard=none) (hr:(execOp a.eval o).run P w=.ok (.enter f args) w) (h:Calls P f args w fun e w'=>∃ v,e=.returned v∧wpOps P os Q rest (a.put (some d) v) w'):wpOps P os Q (i :: rest) a w :=
  step_enter hi hg hr (by rw [hd]; exact h)
section
variable (L:Nat→String×Array Edge) (fw tM tS tI tB tR tW tL:Nat)
@[reducible] def ro (i:Nat) (d:Option Nat) (o:Op) (t:TypeId):Oper:=⟨d,o,t,(L i).1,(L i).2,none⟩
def walkSwitch:Code :=
  (.seq (.region 1 #[ro L 1 (some 9) (.load tM (.tmp 1)) tM,ro L 2 (some 10) (.move (.tmp 0)) tS,ro L 3 (some 11) (.lookup tM (.tmp 9) (.tmp 10) false) tI] false)
      (.block 0 (.seq (.region 2 #[ro L 4 (some 13) (.binOp .eql tI (.tmp 11) (.const (.int .i64 1)) tI) tB,ro L 5 (some 12) (.assign (.tmp 13)) tB] false)
          (.cond (.tmp 12) (.seq (.region 3 #[ro L 6 (some 6) (.assign (.const (.bool false))) tB] false)
              .ret) (.seq (.region 4 #[ro L 7 (some 15) (.binOp .eql tI (.tmp 11) (.const (.int .i64 2)) tI) tB,ro L 8 (some 14) (.assign (.tmp 15)) tB] false)
              (.cond (.tmp 14) (.seq (.region 5 #[ro L 9 (some 6) (.assign (.const (.bool true))) tB] false)
                  .ret) .skip))))))
def walkBody:Code :=
  (.seq (.region 8 #[ro L 18 (some 23) (.binOp .lss tI (.tmp 22) (.tmp 21) tI) 0] false)
                (.seq (.cond (.tmp 23) .skip (.exit 1))
                  (.seq (.block 2 (.seq (.region 9 #[ro L 19 (some 24) (.indexAddr tL (.tmp 20) (.tmp 22)) 0,ro L 20 (some 25) (.load tS (.tmp 24)) tS,ro L 21 (some 8) (.assign (.tmp 25)) tS] false)
                        (.seq (.region 10 #[ro L 22 (some 26) (.load tW (.tmp 3)) tW,ro L 23 (some 27) (.move (.tmp 8)) tS,ro L 24 (some 28) (.call ⟨.value (.tmp 26),#[(.tmp 27)],#[tS]⟩) tB,ro L 25 (some 29) (.unOp .not tB (.tmp 28)) tB] false)
                          (.cond (.tmp 29) (.seq (.region 11 #[ro L 26 (some 6) (.assign (.const (.bool false))) tB] false)
                              .ret) .skip))))
                    (.region 12 #[ro L 27 (some 30) (.binOp .add tI (.tmp 22) (.const (.int .i64 1)) tI) tI,ro L 28 (some 22) (.move (.tmp 30)) tI] false))))
def walkTail:Code :=
  (.seq (.region 13 #[ro L 29 (some 31) (.load tM (.tmp 1)) tM,ro L 30 (some 32) (.move (.tmp 0)) tS,ro L 31 none (.mapUpdate tM (.tmp 31) (.tmp 32) (.const (.int .i64 2))) 0] false)
          (.seq (.region 14 #[ro L 32 (some 33) (.load tL (.tmp 4)) tL,ro L 33 (some 34) (.move (.tmp 0)) tS,ro L 34 (some 35) (.buildSlice tL 1 #[(0,(.tmp 34))]) tL,ro L 35 (some 36) (.call ⟨.builtin .append,#[(.tmp 33),(.tmp 35)],#[tL,tL]⟩) tL,ro L 36 none (.store tL (.tmp 4) (.tmp 36)) 0] false)
            (.seq (.region 15 #[ro L 37 (some 6) (.assign (.const (.bool true))) tB] false)
              .ret)))
def walkCode:Code :=
  (.seq (.region 0 #[ro L 0 (some 6) (.assign (.const (.bool false))) tB] false)
  (.seq (walkSwitch L tM tS tI tB)
    (.seq (.region 6 #[ro L 10 (some 16) (.load tM (.tmp 1)) tM,ro L 11 (some 17) (.move (.tmp 0)) tS,ro L 12 none (.mapUpdate tM (.tmp 16) (.tmp 17) (.const (.int .i64 1))) 0] false)
      (.seq (.seq (.region 7 #[ro L 13 (some 18) (.load tR (.tmp 2)) tR,ro L 14 (some 19) (.move (.tmp 0)) tS,ro L 15 (some 20) (.call ⟨.value (.tmp 18),#[(.tmp 19)],#[tS]⟩) tL,ro L 16 (some 21) (.call ⟨.builtin .len,#[(.tmp 20)],#[tL]⟩) tI,ro L 17 (some 22) (.move (.const (.int .i64 0))) tI] false)
          (.block 1 (.loop (walkBody L tS tI tB tW tL))))
        (walkTail L tM tS tB tL)))))
end
structure RowTy (P:Program) (tM tS tI tR tW tL:TypeId):Prop where
  mapU:∃ kt et i,P.underlying tM=some (.map kt et)∧keyOk P kt .str=true∧P.info? et=some i∧i.zero=some (.int .i64 0)
  one:∀ t,t=tM∨t=tS∨t=tR∨t=tW∨t=tL→aggT P t=some false∧∃ i z,P.info? t=some i∧i.size=1∧(i.zero=some z∧∃ v0,z.cells=#[v0])
  int:P.underlying tI=some (.int .i64)
  sl:P.underlying tL=some (.slice tS)
  str:zeroIs P tS .str=true
  by16:∀ i,P.info? tS=some i→i.bytes=16
  zL:∀ i,P.info? tL=some i→i.zero=some (.slice none 0 0)
structure WAct (pm pr ps po:Nat) (x:ByteArray) (a:Act):Prop where
  sz:a.tmps.size=37
  df:a.defers=[]
  e0:a.eval (.tmp 0)=.string x
  e1:a.eval (.tmp 1)=atP pm
  e2:a.eval (.tmp 2)=atP pr
  e3:a.eval (.tmp 3)=atP ps
  e4:a.eval (.tmp 4)=atP po
theorem WAct.put {pm pr ps po:Nat} {x:ByteArray} {a:Act} (h:WAct pm pr ps po x a) {d:Nat} {v:Value} (h5:5≤d) (h37:d < 37):WAct pm pr ps po x (a.put (some d) v):=by
  have hd:d < a.tmps.size:=by rw [h.sz]; exact h37
  refine ⟨by rw [sz_put]; exact h.sz,by rw [df_put]; exact h.df,?_,?_,?_,?_,?_⟩
  · rw [ev_put hd,if_neg (by omega)]; exact h.e0
  · rw [ev_put hd,if_neg (by omega)]; exact h.e1
  · rw [ev_put hd,if_neg (by omega)]; exact h.e2
  · rw [ev_put hd,if_neg (by omega)]; exact h.e3
  · rw [ev_put hd,if_neg (by omega)]; exact h.e4
section
variable {L:Nat→String×Array Edge} {w0:World} {fw fr:FuncId} {cap:Array Value} {pm bm pr ps po:Nat} {tM tS tI tB tR tW tL:Nat} {x:ByteArray}
theorem walk_tail (ty:RowTy P tM tS tI tR tW tL) {Q:Exit→Act→World→Prop} {a:Act} {w:World} {m:List (ByteArray×Int)} {l:List ByteArray} {bs:List Nat} (hA:WAct pm pr ps po x a) (hS:RowSt w0 fw fr cap pm bm pr ps po w m l bs) (hbd:appBound l.length 1 16=true)
    (hQ:∀ a' w' bs',WAct pm pr ps po x a'→a'.eval (.tmp 6)=.bool true→RowSt w0 fw fr cap pm bm pr ps po w' (mput .str m x 2) (l++[x]) bs'→RChg bm po bs w bs' w'→Q .ret a' w'):(walkTail L tM tS tB tL).wp P Q a w:=by
  obtain ⟨kt,et,i0,hT,hk,hi0,hz0⟩:=ty.mapU
  obtain ⟨aM,iM,zM,hiM,hsM,_⟩:=ty.one tM (by simp)
  obtain ⟨aL,iL,zL,hiL,hsL,_⟩:=ty.one tL (by simp)
  obtain ⟨aS,iS,zS,hiS,hsS,hzS,_⟩:=ty.one tS (by simp)
  obtain ⟨T1,hcm⟩:=hS.cm
  refine wp_seq (wp_region ?_)
  show wpOps P _ _ [0,1,2] _ _
  refine step_val 31 rfl rfl rfl (run_load1 (x:=.tmp 1) rfl aM hiM hsM hA.e1 (mem_one hcm)) ?_
  refine step_val 32 rfl rfl rfl (run_move (x:=.tmp 0) (v:=.string x) rfl (by simp [ev_put,hA.sz,hA.e0]) _) ?_
  obtain ⟨w1,hr1,hm1,ho1⟩:=run_mapUpd (P:=P) (ρ:=((a.put (some 31) (.map (some bm))).put (some 32) (.string x)).eval) (o:=ro L 31 none (.mapUpdate tM (.tmp 31) (.tmp 32) (.const (.int .i64 2))) 0) rfl hT hk (b:=bm) (x:=x) (n:=2) (by simp [ev_put,sz_put,hA.sz]) (by simp [ev_put,sz_put,hA.sz]) rfl hS.map
  refine step_skip rfl rfl rfl hr1 ?_
  obtain ⟨hS1,hC1⟩:=hS.onMap hm1 ho1
  have hA1:=(hA.put (d:=31) (v:=.map (some bm)) (by decide) (by decide)).put (d:=32) (v:=.string x) (by decide) (by decide)
  generalize (a.put (some 31) (.map (some bm))).put (some 32) (.string x)=a1 at hA1
  clear hr1 hm1 ho1 hA
  show Code.wp P _ _ _ _
  obtain ⟨T2,v,hco,hv⟩:=hS1.co
  refine wp_seq (wp_region ?_)
  show wpOps P _ _ [0,1,2,3,4] _ _
  refine step_val 33 rfl rfl rfl (run_load1 (x:=.tmp 4) rfl aL hiL hsL hA1.e4 (mem_one hco)) ?_
  refine step_val 34 rfl rfl rfl (run_move (x:=.tmp 0) (v:=.string x) rfl (by simp [ev_put,hA1.sz,hA1.e0]) _) ?_
  have hbs:∀ ρ:Operand→Value,ρ (.tmp 34)=.string x→(execOp ρ (ro L 34 (some 35) (.buildSlice tL 1 #[(0,(.tmp 34))]) tL)).run P w1=.ok (.value (.slice (some ⟨w1.heap.size,0,none⟩) 1 1)) (w1.alloc (.cells #[.string x] tS)):=by
    intro ρ hρ
    have h1:=buildSlice_run (P:=P) (t:=tL) (el:=tS) (i:=iS) (z:=zS) (len:=1) ty.sl hiS hzS (by
      obtain ⟨i',z',e1,e2,e3,e4,_,_⟩:=zeroIs_spec ty.str
      rw [hiS] at e1
      cases e1
      rw [hzS] at e2
      cases e2
      have:=congrArg List.length e3
      rw [hsS]
      simpa [zvals] using this) (by omega) (vs:=[.string x]) rfl (by omega) (by simp [Value.cells,hsS]) (ps:=#[(0,.string x)]) rfl w1
    have h2:(#[(0,(Operand.tmp 34))]:Array (Nat×Operand)).map (fun (i,x)=>(i,ρ x))=#[(0,.string x)] := by simp [hρ]
    simp only [execOp,h2,Sem.run_bind,h1,Result.andThen_ok]
    rfl
  refine step_val 35 rfl rfl rfl (hbs _ (by simp [ev_put,sz_put,hA1.sz])) ?_
  have hb2:(w1.alloc (.cells #[.string x] tS)).heap[w1.heap.size]?=some (.cells #[.string x] tS (0,0)):=by
    show (w1.heap.push _)[w1.heap.size]?=_
    simp
  have hbel2:Below w1.heap.size w1 (w1.alloc (.cells #[.string x] tS)):=(Below.refl _ _).alloc (Nat.le_refl _) _
  obtain ⟨hS2,hC2⟩:=hS1.onNew hbel2
  have hv2:StrRow (w1.alloc (.cells #[.string x] tS)) l v bs:=hv.keep (fun b hb=>hbel2.block b (hS1.ge b (by simp [hb])).2)
  have hco2:(w1.alloc (.cells #[.string x] tS)).heap[po]?=some (.cells #[v] T2 (0,0)):=(hbel2.block po (hS1.ge po (by simp)).2).trans hco
  generalize w1.alloc (.cells #[.string x] tS)=w2 at hb2 hS2 hC2 hv2 hco2
  obtain ⟨v',w3,b,hr3,o1,o2,o3,hrow,hsz,hbb,hsame⟩:=hv2.append (P:=P) ty.sl ty.str hbd ty.by16 hb2 tL
  refine step_val 36 rfl rfl rfl (append_exec (x:=.tmp 33) (y:=.tmp 35) (t:=tL) rfl rfl rfl rfl _ _ (by
    have e1:Act.eval (((a1.put (some 33) v).put (some 34) (.string x)).put (some 35) (.slice (some ⟨w1.heap.size,0,none⟩) 1 1)) (.tmp 33)=v:=by simp [ev_put,sz_put,hA1.sz]
    have e2:Act.eval (((a1.put (some 33) v).put (some 34) (.string x)).put (some 35) (.slice (some ⟨w1.heap.size,0,none⟩) 1 1)) (.tmp 35)=.slice (some ⟨w1.heap.size,0,none⟩) 1 1:=by simp [ev_put,sz_put,hA1.sz]
    rw [e1,e2]
    exact hr3)) ?_
  have hco3:w3.heap[po]?=some (.cells #[v] T2 (0,0)):=by
    have hnd:=hS2.nd
    simp only [List.nodup_cons,List.mem_cons,not_or] at hnd
    exact (hsame po (hS2.ge po (by simp)).2 hnd.2.2.2.2.1).trans hco2
  obtain ⟨w4,hr4,hc4,ho4⟩:=run_store1 (P:=P) (ρ:=((((a1.put (some 33) v).put (some 34) (.string x)).put (some 35) (.slice (some ⟨w1.heap.size,0,none⟩) 1 1)).put (some 36) v').eval) (o:=ro L 36 none (.store tL (.tmp 4) (.tmp 36)) 0) rfl hiL hsL (b:=po) (v:=v') (by simp [ev_put,sz_put,hA1.sz,hA1.e4]) (by simp [ev_put,sz_put,hA1.sz]) hrow.one hco3
  refine step_skip rfl rfl rfl hr4 ?_
  obtain ⟨hS4,hC4⟩:=hS2.onRow o1 o2 o3 hsz hrow hbb hsame ho4 hc4
  have hA4:=(((hA1.put (d:=33) (v:=v) (by decide) (by decide)).put (d:=34) (v:=.string x) (by decide) (by decide)).put (d:=35) (v:=.slice (some ⟨w1.heap.size,0,none⟩) 1 1) (by decide) (by decide)).put (d:=36) (v:=v') (by decide) (by decide)
  generalize (((a1.put (some 33) v).put (some 34) (.string x)).put (some 35) (.slice (some ⟨w1.heap.size,0,none⟩) 1 1)).put (some 36) v'=a4 at hA4
  show Code.wp P _ _ _ _
  refine wp_seq (wp_region ?_)
  show wpOps P _ _ [0] _ _
  refine step_val 6 rfl rfl rfl (run_assign (x:=.const (.bool true)) rfl rfl _) ?_
  show Code.wp P _ _ _ _
  refine wp_ret ?_
  exact hQ _ _ _ (hA4.put (by decide) (by decide)) (by simp [ev_put,hA4.sz]; rfl) hS4 (hC1.trans (hC2.trans hC4))
theorem walk_switch (ty:RowTy P tM tS tI tR tW tL) {Q:Exit→Act→World→Prop} {a:Act} {w:World} {m:List (ByteArray×Int)} {l:List ByteArray} {bs:List Nat} (hA:WAct pm pr ps po x a) (hS:RowSt w0 fw fr cap pm bm pr ps po w m l bs)
    (hQ:∀ a',WAct pm pr ps po x a'→if (mget .str m x == 1)=true then a'.eval (.tmp 6)=.bool false→Q .ret a' w else if (mget .str m x == 2)=true then a'.eval (.tmp 6)=.bool true→Q .ret a' w else Q .normal a' w):(walkSwitch L tM tS tI tB).wp P Q a w:=by
  obtain ⟨kt,et,i0,hT,hk,hi0,hz0⟩:=ty.mapU
  obtain ⟨aM,iM,zM,hiM,hsM,_⟩:=ty.one tM (by simp)
  obtain ⟨T1,hcm⟩:=hS.cm
  refine wp_seq (wp_region ?_)
  show wpOps P _ _ [0,1,2] _ _
  refine step_val 9 rfl rfl rfl (run_load1 (x:=.tmp 1) rfl aM hiM hsM hA.e1 (mem_one hcm)) ?_
  refine step_val 10 rfl rfl rfl (run_move (x:=.tmp 0) (v:=.string x) rfl (by simp [ev_put,hA.sz,hA.e0]) _) ?_
  refine step_val 11 rfl rfl rfl (run_lookupI (P:=P) (m:=.tmp 9) (k:=.tmp 10) rfl hT hk hi0 hz0 (b:=bm) (x:=x) (by simp [ev_put,sz_put,hA.sz]) (by simp [ev_put,sz_put,hA.sz]) hS.map) ?_
  have hA1:=((hA.put (d:=9) (v:=.map (some bm)) (by decide) (by decide)).put (d:=10) (v:=.string x) (by decide) (by decide)).put (d:=11) (v:=.int .i64 (mget .str m x)) (by decide) (by decide)
  have e11:(((a.put (some 9) (.map (some bm))).put (some 10) (.string x)).put (some 11) (.int .i64 (mget .str m x))).eval (.tmp 11)=.int .i64 (mget .str m x):=by simp [ev_put,sz_put,hA.sz]
  generalize ((a.put (some 9) (.map (some bm))).put (some 10) (.string x)).put (some 11) (.int .i64 (mget .str m x))=a1 at hA1 e11
  show Code.wp P _ _ _ _
  refine wp_block (wp_seq (wp_region ?_))
  show wpOps P _ _ [0,1] _ _
  refine step_val 13 rfl rfl rfl (run_eqI (x:=.tmp 11) (y:=.const (.int .i64 1)) (b:=1) rfl ty.int e11 rfl _) ?_
  refine step_val 12 rfl rfl rfl (run_assign (x:=.tmp 13) (v:=.bool (mget .str m x == 1)) rfl (by simp [ev_put,sz_put,hA1.sz]) _) ?_
  have hA2:=(hA1.put (d:=13) (v:=.bool (mget .str m x == 1)) (by decide) (by decide)).put (d:=12) (v:=.bool (mget .str m x == 1)) (by decide) (by decide)
  have e12:((a1.put (some 13) (.bool (mget .str m x == 1))).put (some 12) (.bool (mget .str m x == 1))).eval (.tmp 12)=.bool (mget .str m x == 1):=by simp [ev_put,sz_put,hA1.sz]
  have e11':((a1.put (some 13) (.bool (mget .str m x == 1))).put (some 12) (.bool (mget .str m x == 1))).eval (.tmp 11)=.int .i64 (mget .str m x):=by simp [ev_put,sz_put,hA1.sz,e11]
  generalize (a1.put (some 13) (.bool (mget .str m x == 1))).put (some 12) (.bool (mget .str m x == 1))=a2 at hA2 e12 e11'
  show Code.wp P _ _ _ _
  rcases Bool.eq_false_or_eq_true (mget .str m x == 1) with c1 | c1
  · rw [c1] at e12
    refine wp_cond_true e12 (wp_seq (wp_region ?_))
    show wpOps P _ _ [0] _ _
    refine step_val 6 rfl rfl rfl (run_assign (x:=.const (.bool false)) (v:=.bool false) rfl rfl _) ?_
    show Code.wp P _ _ _ _
    refine wp_ret ?_
    have:=hQ _ (hA2.put (d:=6) (v:=.bool false) (by decide) (by decide))
    rw [if_pos c1] at this
    exact this (by simp [ev_put,hA2.sz])
  · rw [c1] at e12
    refine wp_cond_false e12 (wp_seq (wp_region ?_))
    show wpOps P _ _ [0,1] _ _
    refine step_val 15 rfl rfl rfl (run_eqI (x:=.tmp 11) (y:=.const (.int .i64 2)) (b:=2) rfl ty.int e11' rfl _) ?_
    refine step_val 14 rfl rfl rfl (run_assign (x:=.tmp 15) (v:=.bool (mget .str m x == 2)) rfl (by simp [ev_put,sz_put,hA2.sz]) _) ?_
    have hA3:=(hA2.put (d:=15) (v:=.bool (mget .str m x == 2)) (by decide) (by decide)).put (d:=14) (v:=.bool (mget .str m x == 2)) (by decide) (by decide)
    have e14:((a2.put (some 15) (.bool (mget .str m x == 2))).put (some 14) (.bool (mget .str m x == 2))).eval (.tmp 14)=.bool (mget .str m x == 2):=by simp [ev_put,sz_put,hA2.sz]
    generalize (a2.put (some 15) (.bool (mget .str m x == 2))).put (some 14) (.bool (mget .str m x == 2))=a3 at hA3 e14
    show Code.wp P _ _ _ _
    rcases Bool.eq_false_or_eq_true (mget .str m x == 2) with c2 | c2
    · rw [c2] at e14
      refine wp_cond_true e14 (wp_seq (wp_region ?_))
      show wpOps P _ _ [0] _ _
      refine step_val 6 rfl rfl rfl (run_assign (x:=.const (.bool true)) (v:=.bool true) rfl rfl _) ?_
      show Code.wp P _ _ _ _
      refine wp_ret ?_
      have:=hQ _ (hA3.put (d:=6) (v:=.bool true) (by decide) (by decide))
      rw [if_neg (by simp [c1]),if_pos c2] at this
      exact this (by simp [ev_put,hA3.sz])
    · rw [c2] at e14
      refine wp_cond_false e14 (wp_skip ?_)
      have:=hQ _ hA3
      rw [if_neg (by simp [c1]),if_neg (by simp [c2])] at this
      exact this
def WalkOk (P:Program) (w0:World) (fw fr:FuncId) (cap:Array Value) (pm bm pr ps po:Nat) (wk:ByteArray→RowS→Option (Bool×RowS)):Prop :=
  ∀ (x:ByteArray) (m:List (ByteArray×Int)) (l:List ByteArray) (bs:List Nat) (w:World) (r:Bool×RowS),wk x (m,l)=some r→RowSt w0 fw fr cap pm bm pr ps po w m l bs →
    Calls P fw #[.string x,atP pm,atP pr,atP ps,atP po] w fun e w'=>e=.returned (.bool r.1)∧∃ bs',RowSt w0 fw fr cap pm bm pr ps po w' r.2.1 r.2.2 bs'∧RChg bm po bs w bs' w'
def Aside (bm po:Nat) (bs:List Nat) (w:World) (ys:List ByteArray) (v:Value):Prop:=rep w (fun b=>b < w.heap.size∧b≠bm∧b≠po∧b∉bs) (.slice .str) ys [v]
theorem Aside.keep {bs bs':List Nat} {w w':World} {ys:List ByteArray} {v:Value} (h:Aside bm po bs w ys v) (hc:RChg bm po bs w bs' w'):Aside bm po bs' w' ys v :=
  rep_keep (fun b _ ⟨h1,h2,h3,h4⟩=>⟨⟨Nat.lt_of_lt_of_le h1 hc.size,h2,h3,fun hm=>(hc.sub b hm).elim h4 (fun hle=>by omega)⟩,hc.same b h1 h2 h3 h4⟩) h
theorem walk_loop (ty:RowTy P tM tS tI tR tW tL) (hen:∀ args w,(callFunc fw args).run P w=.ok (.enter fw args) w) {wk:ByteArray→RowS→Option (Bool×RowS)} (hwk:WalkOk P w0 fw fr cap pm bm pr ps po wk) {Q:Exit→Act→World→Prop} {ys:List ByteArray} {v:Value} (hlen:ys.length≤4611686018427387904) {bs0:List Nat} {wz:World} {r:Bool×RowS}
    (hQ:∀ a' w' bs',WAct pm pr ps po x a'→RowSt w0 fw fr cap pm bm pr ps po w' r.2.1 r.2.2 bs'→RChg bm po bs0 wz bs' w'→if r.1=true then Q (.exit 1) a' w' else a'.eval (.tmp 6)=.bool false→Q .ret a' w') :
    ∀ (k i:Nat) (a:Act) (w:World) (m:List (ByteArray×Int)) (l:List ByteArray) (bs:List Nat),i + k=ys.length→WAct pm pr ps po x a→a.eval (.tmp 20)=v→a.eval (.tmp 21)=.int .i64 ys.length→a.eval (.tmp 22)=.int .i64 i →
      RowSt w0 fw fr cap pm bm pr ps po w m l bs→RChg bm po bs0 wz bs w→Aside bm po bs w ys v→goP wk (ys.drop i) (m,l)=some r→Code.rounds P (walkBody L tS tI tB tW tL) Q (k + 1) a w:=by
  obtain ⟨aS,iS,zS,hiS,hsS,hzS,_⟩:=ty.one tS (by simp)
  obtain ⟨aW,iW,zW,hiW,hsW,_⟩:=ty.one tW (by simp)
  intro k
  induction k with
  | zero =>
    intro i a w m l bs hik hA e20 e21 e22 hS hC hy hg
    have hi:i=ys.length:=by omega
    rw [hi,List.drop_length] at hg
    have hg:some (true,(m,l))=some r:=hg
    cases hg
    rw [rounds_succ]
    refine wp_seq (wp_region ?_)
    show wpOps P _ _ [0] _ _
    refine step_val 23 rfl rfl rfl (run_ltI (x:=.tmp 22) (y:=.tmp 21) rfl ty.int e22 e21 _) ?_
    have hd:decide ((i:Int) < (ys.length:Int))=false:=decide_eq_false (by omega)
    rw [hd]
    show Code.wp P _ _ _ _
    refine wp_seq (wp_cond_false (by simp [ev_put,hA.sz]) (wp_exit ?_))
    have:=hQ _ _ _ (hA.put (d:=23) (v:=.bool false) (by decide) (by decide)) hS hC
    exact this
  | succ k ih =>
    intro i a w m l bs hik hA e20 e21 e22 hS hC hy hg
    have hi:i < ys.length:=by omega
    rw [List.drop_eq_getElem_cons hi] at hg
    simp only [goP,Option.bind_eq_some_iff] at hg
    obtain ⟨r1,hr1,hg⟩:=hg
    rw [rounds_succ]
    refine wp_seq (wp_region ?_)
    show wpOps P _ _ [0] _ _
    refine step_val 23 rfl rfl rfl (run_ltI (x:=.tmp 22) (y:=.tmp 21) rfl ty.int e22 e21 _) ?_
    have hd:decide ((i:Int) < (ys.length:Int))=true:=decide_eq_true (by omega)
    rw [hd]
    have hA1:=hA.put (d:=23) (v:=.bool true) (by decide) (by decide)
    have f20:(a.put (some 23) (.bool true)).eval (.tmp 20)=v:=by simp [ev_put,hA.sz,e20]
    have f21:(a.put (some 23) (.bool true)).eval (.tmp 21)=.int .i64 ys.length:=by simp [ev_put,hA.sz,e21]
    have f22:(a.put (some 23) (.bool true)).eval (.tmp 22)=.int .i64 i:=by simp [ev_put,hA.sz,e22]
    have f23:(a.put (some 23) (.bool true)).eval (.tmp 23)=.bool true:=by simp [ev_put,hA.sz]
    generalize a.put (some 23) (.bool true)=a1 at hA1 f20 f21 f22 f23
    clear hA e20 e21 e22 hd
    show Code.wp P _ _ _ _
    refine wp_seq (wp_cond_true f23 (wp_skip ?_))
    show Code.wp P _ _ _ _
    refine wp_seq (wp_block (wp_seq (wp_region ?_)))
    show wpOps P _ _ [0,1,2] _ _
    obtain ⟨A,c,hv,hc,hel⟩:=hy
    have hv:v=.slice A ys.length c:=by simpa using hv
    obtain ⟨ad,vs,hAd,hsp,hJ,hm,hvs⟩:=hel i hi
    have hvs:vs=[Value.string ys[i]] := hvs
    subst hvs
    subst hAd
    have hm':Mem w (ad.add i).block (ad.add i).off [Value.string ys[i]] := by
      have e1:(ad.add i).block=ad.block:=by unfold Addr.add; split<;>rfl
      have e2:(ad.add i).off=ad.off + i:=by
        unfold Addr.add
        split
        · rename_i h0; simp [h0]
        · rfl
      rw [e1,e2]
      simpa [Ty.sz] using hm
    have hadd:(ad.add i)=⟨(ad.add i).block,(ad.add i).off,none⟩:=by
      have:(ad.add i).spot=none:=by
        unfold Addr.add
        split<;>simp [hsp]
      cases h:ad.add i with
      | mk b o s=>rw [h] at this; cases this; rfl
    refine step_val 24 rfl rfl rfl (run_index (x:=.tmp 20) (i:=.tmp 22) rfl ty.sl hiS hsS (f20.trans hv) f22 hi _) ?_
    refine step_val 25 rfl rfl rfl (run_load1 (x:=.tmp 24) rfl aS hiS hsS (b:=(ad.add i).block) (off:=(ad.add i).off) (by rw [← hadd]; simp [ev_put,hA1.sz]) hm') ?_
    refine step_val 8 rfl rfl rfl (run_assign (x:=.tmp 25) (v:=.string ys[i]) rfl (by simp [ev_put,sz_put,hA1.sz]) _) ?_
    have hA2:=((hA1.put (d:=24) (v:=.pointer (some (ad.add i))) (by decide) (by decide)).put (d:=25) (v:=.string ys[i]) (by decide) (by decide)).put (d:=8) (v:=.string ys[i]) (by decide) (by decide)
    have g20:(((a1.put (some 24) (.pointer (some (ad.add i)))).put (some 25) (.string ys[i])).put (some 8) (.string ys[i])).eval (.tmp 20)=v:=by simp [ev_put,sz_put,hA1.sz,f20]
    have g21:(((a1.put (some 24) (.pointer (some (ad.add i)))).put (some 25) (.string ys[i])).put (some 8) (.string ys[i])).eval (.tmp 21)=.int .i64 ys.length:=by simp [ev_put,sz_put,hA1.sz,f21]
    have g22:(((a1.put (some 24) (.pointer (some (ad.add i)))).put (some 25) (.string ys[i])).put (some 8) (.string ys[i])).eval (.tmp 22)=.int .i64 i:=by simp [ev_put,sz_put,hA1.sz,f22]
    have g8:(((a1.put (some 24) (.pointer (some (ad.add i)))).put (some 25) (.string ys[i])).put (some 8) (.string ys[i])).eval (.tmp 8)=.string ys[i] := by simp [ev_put,sz_put,hA1.sz]
    generalize ((a1.put (some 24) (.pointer (some (ad.add i)))).put (some 25) (.string ys[i])).put (some 8) (.string ys[i])=a2 at hA2 g20 g21 g22 g8
    clear hA1 f20 f21 f22 f23
    show Code.wp P _ _ _ _
    obtain ⟨Ts,hcs⟩:=hS.cs
    refine wp_seq (wp_region ?_)
    show wpOps P _ _ [0,1,2,3] _ _
    refine step_val 26 rfl rfl rfl (run_load1 (x:=.tmp 3) rfl aW hiW hsW hA2.e3 (mem_one hcs)) ?_
    refine step_val 27 rfl rfl rfl (run_move (x:=.tmp 8) (v:=.string ys[i]) rfl (by simp [ev_put,hA2.sz,g8]) _) ?_
    refine step_call 28 rfl rfl rfl (run_callV (f:=fw) (cap:=#[atP pm,atP pr,atP ps,atP po]) (x:=.tmp 26) (y:=.tmp 27) (v:=.string ys[i]) rfl (by simp [ev_put,sz_put,hA2.sz]) (by simp [ev_put,sz_put,hA2.sz]) hen _) ?_
    refine (hwk ys[i] m l bs w r1 hr1 hS).mono ?_
    rintro e w1 ⟨rfl,bs1,hS1,hC1⟩
    refine ⟨_,rfl,?_⟩
    refine step_val 29 rfl rfl rfl (run_notB (x:=.tmp 28) (b:=r1.1) rfl (by simp [ev_put,sz_put,hA2.sz]) rfl _) ?_
    have hA3:=(((hA2.put (d:=26) (v:=.func (.func fw) #[] #[atP pm,atP pr,atP ps,atP po]) (by decide) (by decide)).put (d:=27) (v:=.string ys[i]) (by decide) (by decide)).put (d:=28) (v:=.bool r1.1) (by decide) (by decide)).put (d:=29) (v:=.bool (!r1.1)) (by decide) (by decide)
    have k20:((((a2.put (some 26) (.func (.func fw) #[] #[atP pm,atP pr,atP ps,atP po])).put (some 27) (.string ys[i])).put (some 28) (.bool r1.1)).put (some 29) (.bool (!r1.1))).eval (.tmp 20)=v:=by simp [ev_put,sz_put,hA2.sz,g20]
    have k21:((((a2.put (some 26) (.func (.func fw) #[] #[atP pm,atP pr,atP ps,atP po])).put (some 27) (.string ys[i])).put (some 28) (.bool r1.1)).put (some 29) (.bool (!r1.1))).eval (.tmp 21)=.int .i64 ys.length:=by simp [ev_put,sz_put,hA2.sz,g21]
    have k22:((((a2.put (some 26) (.func (.func fw) #[] #[atP pm,atP pr,atP ps,atP po])).put (some 27) (.string ys[i])).put (some 28) (.bool r1.1)).put (some 29) (.bool (!r1.1))).eval (.tmp 22)=.int .i64 i:=by simp [ev_put,sz_put,hA2.sz,g22]
    have k29:((((a2.put (some 26) (.func (.func fw) #[] #[atP pm,atP pr,atP ps,atP po])).put (some 27) (.string ys[i])).put (some 28) (.bool r1.1)).put (some 29) (.bool (!r1.1))).eval (.tmp 29)=.bool (!r1.1):=by simp [ev_put,sz_put,hA2.sz]
    generalize (((a2.put (some 26) (.func (.func fw) #[] #[atP pm,atP pr,atP ps,atP po])).put (some 27) (.string ys[i])).put (some 28) (.bool r1.1)).put (some 29) (.bool (!r1.1))=a3 at hA3 k20 k21 k22 k29
    clear hA2 g20 g21 g22 g8
    show Code.wp P _ _ _ _
    rcases Bool.eq_false_or_eq_true r1.1 with c1 | c1
    · rw [if_pos c1] at hg
      rw [c1] at k29
      refine wp_cond_false k29 (wp_skip ?_)
      show Code.wp P _ _ _ _
      refine wp_region ?_
      show wpOps P _ _ [0,1] _ _
      refine step_val 30 rfl rfl rfl (run_addI (x:=.tmp 22) (y:=.const (.int .i64 1)) (b:=1) rfl ty.int k22 rfl _) ?_
      have hwr:IntKind.i64.wrap ((i:Int) + 1)=((i + 1:Nat):Int):=by rw [wrap_i64 (by omega) (by omega)]; omega
      rw [hwr]
      refine step_val 22 rfl rfl rfl (run_move (x:=.tmp 30) (v:=.int .i64 ((i + 1:Nat):Int)) rfl (by simp [ev_put,hA3.sz]) _) ?_
      have hA4:=(hA3.put (d:=30) (v:=.int .i64 ((i + 1:Nat):Int)) (by decide) (by decide)).put (d:=22) (v:=.int .i64 ((i + 1:Nat):Int)) (by decide) (by decide)
      exact ih (i + 1) _ w1 r1.2.1 r1.2.2 bs1 (by omega) hA4 (by simp [ev_put,sz_put,hA3.sz,k20]) (by simp [ev_put,sz_put,hA3.sz,k21]) (by simp [ev_put,sz_put,hA3.sz]) hS1 (hC.trans hC1) (Aside.keep ⟨some ad,c,by rw [hv],hc,hel⟩ hC1) hg
    · rw [if_neg (by simp [c1])] at hg
      cases hg
      rw [c1] at k29
      refine wp_cond_true k29 (wp_seq (wp_region ?_))
      show wpOps P _ _ [0] _ _
      refine step_val 6 rfl rfl rfl (run_assign (x:=.const (.bool false)) (v:=.bool false) rfl rfl _) ?_
      show Code.wp P _ _ _ _
      refine wp_ret ?_
      have:=hQ _ _ _ (hA3.put (d:=6) (v:=.bool false) (by decide) (by decide)) hS1 (hC.trans hC1)
      rw [if_neg (by simp)] at this
      exact this (by simp [ev_put,hA3.sz])
theorem goP_ok {wk:ByteArray→RowS→Option (Bool×RowS)}:∀ (ys:List ByteArray) (s:RowS) (r:Bool×RowS),goP wk ys s=some r→r.1=true∨r.1=false:=fun _ _ r _=>(Bool.eq_false_or_eq_true r.1)
def ReadOk (P:Program) (w0:World) (fr:FuncId) (cap:Array Value) (rd:ByteArray→Option (List ByteArray)):Prop :=
  ∀ (x:ByteArray) (ys:List ByteArray) (w':World),rd x=some ys→Below w0.heap.size w0 w'→Calls P fr (#[.string x]++cap) w' fun e w2=>∃ r,e=.returned r∧Below w'.heap.size w' w2∧rep w2 (fun b=>b < w0.heap.size∨w'.heap.size≤b) (.slice .str) ys [r]
theorem walk_ok (ty:RowTy P tM tS tI tR tW tL) {fn:Func} (hfn:P.funcs[fw]?=some fn) (hb:fn.body=some (walkCode L tM tS tI tB tR tW tL)) (hn:fn.ntmps=37) (hres:fn.results=#[.tmp 6]) (hen:∀ args w,(callFunc fw args).run P w=.ok (.enter fw args) w)
    (hrn:∀ args w,(callFunc fr args).run P w=.ok (.enter fr args) w) {rd:ByteArray→Option (List ByteArray)} (hrd:ReadOk P w0 fr cap rd):∀ k,WalkOk P w0 fw fr cap pm bm pr ps po (walkP rd k):=by
  intro k
  induction k with
  | zero=>intro x m l bs w r h; cases h
  | succ k ih =>
    intro x m l bs w r h hS
    obtain ⟨kt,et,i0,hT,hk,hi0,hz0⟩:=ty.mapU
    obtain ⟨aM,iM,zM,hiM,hsM,_⟩:=ty.one tM (by simp)
    obtain ⟨aR,iR,zR,hiR,hsR,_⟩:=ty.one tR (by simp)
    refine calls_of_wp hfn hb ?_
    have hA:WAct pm pr ps po x { tmps:=#[.string x,atP pm,atP pr,atP ps,atP po]++Array.replicate (fn.ntmps - (#[.string x,atP pm,atP pr,atP ps,atP po]:Array Value).size) undef,defers:=[] } := by
      rw [hn]
      exact ⟨by kernel_rfl,rfl,by kernel_rfl,by kernel_rfl,by kernel_rfl,by kernel_rfl,by kernel_rfl⟩
    generalize ({ tmps:=#[.string x,atP pm,atP pr,atP ps,atP po]++Array.replicate (fn.ntmps - (#[.string x,atP pm,atP pr,atP ps,atP po]:Array Value).size) undef,defers:=[] }:Act)=a at hA
    have hret:∀ (b:Bool) (a':Act) (w':World) (bs':List Nat) (m':List (ByteArray×Int)) (l':List ByteArray),r=(b,(m',l'))→WAct pm pr ps po x a'→a'.eval (.tmp 6)=.bool b→RowSt w0 fw fr cap pm bm pr ps po w' m' l' bs'→RChg bm po bs w bs' w' →
        bodyPost P fn (fun e w'=>e=.returned (.bool r.1)∧∃ bs',RowSt w0 fw fr cap pm bm pr ps po w' r.2.1 r.2.2 bs'∧RChg bm po bs w bs' w') .ret a' w':=by
      rintro b a' w' bs' m' l' rfl hA' h6 hS' hC'
      refine ⟨hA'.df,.bool b,?_,rfl,bs',hS',hC'⟩
      refine results_run (vs:=[.bool b]) ?_
      rw [hres]
      have h6':a'.tmps.getD 6 undef=.bool b:=h6
      simp [readRes,h6']
    refine wp_seq (wp_region ?_)
    show wpOps P _ _ [0] _ _
    refine step_val 6 rfl rfl rfl (run_assign (x:=.const (.bool false)) (v:=.bool false) rfl rfl _) ?_
    have hA1:=hA.put (d:=6) (v:=.bool false) (by decide) (by decide)
    generalize a.put (some 6) (.bool false)=a1 at hA1
    show Code.wp P _ _ _ _
    refine wp_seq (walk_switch ty hA1 hS fun a2 hA2=>?_)
    simp only [walkP] at h
    split
    · rename_i c1
      rw [if_pos c1] at h
      cases h
      exact fun h6=>hret false a2 w bs m l rfl hA2 h6 hS RChg.refl
    rename_i c1
    rw [if_neg c1] at h
    split
    · rename_i c2
      rw [if_pos c2] at h
      cases h
      exact fun h6=>hret true a2 w bs m l rfl hA2 h6 hS RChg.refl
    rename_i c2
    rw [if_neg c2] at h
    simp only [Option.bind_eq_some_iff] at h
    obtain ⟨ys,hys,h⟩:=h
    split at h
    case isFalse=>cases h
    rename_i hle
    have hle:=Nat.le_of_ble_eq_true hle
    simp only [Option.bind_eq_some_iff] at h
    obtain ⟨r1,hr1,h⟩:=h
    show Code.wp P _ _ _ _
    obtain ⟨T1,hcm⟩:=hS.cm
    refine wp_seq (wp_region ?_)
    show wpOps P _ _ [0,1,2] _ _
    refine step_val 16 rfl rfl rfl (run_load1 (x:=.tmp 1) rfl aM hiM hsM hA2.e1 (mem_one hcm)) ?_
    refine step_val 17 rfl rfl rfl (run_move (x:=.tmp 0) (v:=.string x) rfl (by simp [ev_put,hA2.sz,hA2.e0]) _) ?_
    obtain ⟨w1,hu1,hm1,ho1⟩:=run_mapUpd (P:=P) (ρ:=((a2.put (some 16) (.map (some bm))).put (some 17) (.string x)).eval) (o:=ro L 12 none (.mapUpdate tM (.tmp 16) (.tmp 17) (.const (.int .i64 1))) 0) rfl hT hk (b:=bm) (x:=x) (n:=1) (by simp [ev_put,sz_put,hA2.sz]) (by simp [ev_put,sz_put,hA2.sz]) rfl hS.map
    refine step_skip rfl rfl rfl hu1 ?_
    obtain ⟨hS1,hC1⟩:=hS.onMap hm1 ho1
    have hA3:=(hA2.put (d:=16) (v:=.map (some bm)) (by decide) (by decide)).put (d:=17) (v:=.string x) (by decide) (by decide)
    generalize (a2.put (some 16) (.map (some bm))).put (some 17) (.string x)=a3 at hA3
    clear hu1 hm1 ho1
    show Code.wp P _ _ _ _
    obtain ⟨T2,hcr⟩:=hS1.cr
    refine wp_seq (wp_seq (wp_region ?_))
    show wpOps P _ _ [0,1,2,3,4] _ _
    refine step_val 18 rfl rfl rfl (run_load1 (x:=.tmp 2) rfl aR hiR hsR hA3.e2 (mem_one hcr)) ?_
    refine step_val 19 rfl rfl rfl (run_move (x:=.tmp 0) (v:=.string x) rfl (by simp [ev_put,hA3.sz,hA3.e0]) _) ?_
    refine step_call 20 rfl rfl rfl (run_callV (f:=fr) (cap:=cap) (x:=.tmp 18) (y:=.tmp 19) (v:=.string x) rfl (by simp [ev_put,sz_put,hA3.sz]) (by simp [ev_put,sz_put,hA3.sz]) hrn _) ?_
    refine (hrd x ys w1 hys hS1.below).mono ?_
    rintro e w2 ⟨v,rfl,hb2,hrep⟩
    refine ⟨v,rfl,?_⟩
    obtain ⟨hS2,hC2⟩:=hS1.onNew hb2
    have hy:Aside bm po bs w2 ys v:=by
      obtain ⟨A,c,hv,hc,hel⟩:=hrep
      refine ⟨A,c,hv,hc,fun i hi=>?_⟩
      obtain ⟨ad,vs,h1,h2,h3,h4,h5⟩:=hel i hi
      refine ⟨ad,vs,h1,h2,⟨h4.lt,?_,?_,?_⟩,h4,h5⟩
      · intro e
        have:=hS1.ge bm (by simp)
        rcases h3 with h3 | h3<;>omega
      · intro e
        have:=hS1.ge po (by simp)
        rcases h3 with h3 | h3<;>omega
      · intro hm
        have:=hS1.ge ad.block (by simp [hm])
        rcases h3 with h3 | h3<;>omega
    obtain ⟨A,c,hv,_⟩:=id hrep
    have hv:v=.slice A ys.length c:=by simpa using hv
    refine step_val 21 rfl rfl rfl (run_len (P:=P) (x:=.tmp 20) (t:=tL) (A:=A) (n:=ys.length) (c:=c) rfl ty.sl (by simp [ev_put,sz_put,hA3.sz,hv]) _) ?_
    refine step_val 22 rfl rfl rfl (run_move (x:=.const (.int .i64 0)) (v:=.int .i64 0) rfl rfl _) ?_
    have hA4:=((((hA3.put (d:=18) (v:=.func (.func fr) #[] cap) (by decide) (by decide)).put (d:=19) (v:=.string x) (by decide) (by decide)).put (d:=20) (v:=v) (by decide) (by decide)).put (d:=21) (v:=.int .i64 ys.length) (by decide) (by decide)).put (d:=22) (v:=.int .i64 0) (by decide) (by decide)
    have k20:(((((a3.put (some 18) (.func (.func fr) #[] cap)).put (some 19) (.string x)).put (some 20) v).put (some 21) (.int .i64 ys.length)).put (some 22) (.int .i64 0)).eval (.tmp 20)=v:=by simp [ev_put,sz_put,hA3.sz]
    have k21:(((((a3.put (some 18) (.func (.func fr) #[] cap)).put (some 19) (.string x)).put (some 20) v).put (some 21) (.int .i64 ys.length)).put (some 22) (.int .i64 0)).eval (.tmp 21)=.int .i64 ys.length:=by simp [ev_put,sz_put,hA3.sz]
    have k22:(((((a3.put (some 18) (.func (.func fr) #[] cap)).put (some 19) (.string x)).put (some 20) v).put (some 21) (.int .i64 ys.length)).put (some 22) (.int .i64 0)).eval (.tmp 22)=.int .i64 ((0:Nat):Int):=by simp [ev_put,sz_put,hA3.sz]
    generalize ((((a3.put (some 18) (.func (.func fr) #[] cap)).put (some 19) (.string x)).put (some 20) v).put (some 21) (.int .i64 ys.length)).put (some 22) (.int .i64 0)=a4 at hA4 k20 k21 k22
    show Code.wp P _ _ _ _
    refine wp_block (wp_loop_rounds (ys.length + 1) ?_)
    refine walk_loop ty hen ih hle (bs0:=bs) (wz:=w) (r:=r1) (fun a' w' bs' hA' hS' hC'=>?_) ys.length 0 a4 w2 _ _ bs (by omega) hA4 k20 k21 k22 hS2 (hC1.trans hC2) hy (by rw [List.drop_zero]; exact hr1)
    split
    · rename_i c3
      rw [if_pos c3] at h
      split at h
      case isFalse=>cases h
      rename_i hbd
      cases h
      show Code.wp P _ _ _ _
      refine walk_tail ty hA' hS' hbd fun a5 w5 bs5 hA5 h6 hS5 hC5=>?_
      exact hret true a5 w5 bs5 _ _ rfl hA5 h6 hS5 (hC'.trans hC5)
    · rename_i c3
      rw [if_neg c3] at h
      cases h
      exact fun h6=>hret false a' w' bs' _ _ rfl hA' h6 hS' hC'
end
section
variable (L:Nat→String×Array Edge) (fw tM tS tI tB tR tW tL:Nat)
def rowBody:Code :=
  (.seq (.region 6 #[ro L 13 (some 16) (.binOp .lss tI (.tmp 15) (.tmp 14) tI) 0] false)
                    (.seq (.cond (.tmp 16) .skip (.exit 0))
                      (.seq (.block 1 (.seq (.region 7 #[ro L 14 (some 17) (.indexAddr tL (.tmp 13) (.tmp 15)) 0,ro L 15 (some 18) (.load tS (.tmp 17)) tS,ro L 16 (some 10) (.assign (.tmp 18)) tS] false)
                            (.seq (.region 8 #[ro L 17 (some 19) (.load tW (.tmp 8)) tW,ro L 18 (some 20) (.move (.tmp 10)) tS,ro L 19 (some 21) (.call ⟨.value (.tmp 19),#[(.tmp 20)],#[tS]⟩) tB,ro L 20 (some 22) (.unOp .not tB (.tmp 21)) tB] false)
                              (.cond (.tmp 22) (.seq (.region 9 #[ro L 21 (some 4) (.assign (.const (.slice none 0 0))) tL,ro L 22 (some 5) (.assign (.const (.bool false))) tB] false)
                                  .ret) .skip))))
                        (.region 10 #[ro L 23 (some 23) (.binOp .add tI (.tmp 15) (.const (.int .i64 1)) tI) tI,ro L 24 (some 15) (.move (.tmp 23)) tI] false))))
def rowEnd:Code :=
  (.seq (.region 11 #[ro L 25 (some 24) (.load tL (.tmp 7)) tL,ro L 26 (some 4) (.assign (.tmp 24)) tL,ro L 27 (some 5) (.assign (.const (.bool true))) tB] false) .ret)
def rowLoop:Code :=
  (.seq (.seq (.region 5 #[ro L 10 (some 13) (.move (.tmp 0)) tL,ro L 11 (some 14) (.call ⟨.builtin .len,#[(.tmp 13)],#[tL]⟩) tI,ro L 12 (some 15) (.move (.const (.int .i64 0))) tI] false)
              (.block 0 (.loop (rowBody L tS tI tB tW tL))))
            (rowEnd L tB tL))
def rowCode:Code :=
  (.seq (.region 0 #[ro L 0 (some 3) (.box tR (.tmp 1)) 0,ro L 1 (some 4) (.assign (.const (.slice none 0 0))) tL,ro L 2 (some 5) (.assign (.const (.bool false))) tB] false)
  (.seq (.region 1 #[ro L 3 (some 11) (.makeMap tM none) tM,ro L 4 (some 6) (.alloc tM) 0,ro L 5 none (.store tM (.tmp 6) (.tmp 11)) 0] false)
    (.seq (.region 2 #[ro L 6 (some 7) (.alloc tL) 0] false)
      (.seq (.region 3 #[ro L 7 (some 8) (.alloc tW) 0] false)
        (.seq (.region 4 #[ro L 8 (some 12) (.makeFunc (.func fw) #[] #[(.tmp 6),(.tmp 3),(.tmp 8),(.tmp 7)]) tW,ro L 9 none (.store tW (.tmp 8) (.tmp 12)) 0] false)
          (rowLoop L tS tI tB tW tL))))))
end
structure RAct (pm pr ps po:Nat) (v:Value) (a:Act):Prop where
  sz:a.tmps.size=25
  df:a.defers=[]
  e0:a.eval (.tmp 0)=v
  e3:a.eval (.tmp 3)=atP pr
  e6:a.eval (.tmp 6)=atP pm
  e7:a.eval (.tmp 7)=atP po
  e8:a.eval (.tmp 8)=atP ps
theorem RAct.put {pm pr ps po:Nat} {z:Value} {a:Act} (h:RAct pm pr ps po z a) {d:Nat} {v:Value} (h5:4≤d) (h6:d≠6) (h7:d≠7) (h8:d≠8) (h37:d < 25):RAct pm pr ps po z (a.put (some d) v):=by
  have hd:d < a.tmps.size:=by rw [h.sz]; exact h37
  refine ⟨by rw [sz_put]; exact h.sz,by rw [df_put]; exact h.df,?_,?_,?_,?_,?_⟩
  · rw [ev_put hd,if_neg (by omega)]; exact h.e0
  · rw [ev_put hd,if_neg (by omega)]; exact h.e3
  · rw [ev_put hd,if_neg (by omega)]; exact h.e6
  · rw [ev_put hd,if_neg (by omega)]; exact h.e7
  · rw [ev_put hd,if_neg (by omega)]; exact h.e8
section
variable {L:Nat→String×Array Edge} {w0:World} {fw fr:FuncId} {cap:Array Value} {pm bm pr ps po:Nat} {tM tS tI tB tR tW tL:Nat} {v:Value}
theorem row_loop (ty:RowTy P tM tS tI tR tW tL) (hen:∀ args w,(callFunc fw args).run P w=.ok (.enter fw args) w) {wk:ByteArray→RowS→Option (Bool×RowS)} (hwk:WalkOk P w0 fw fr cap pm bm pr ps po wk) {Q:Exit→Act→World→Prop} {ys:List ByteArray} (hlen:ys.length≤4611686018427387904) {bs0:List Nat} {wz:World} {r:Bool×RowS}
    (hQ:∀ a' w' bs',RAct pm pr ps po v a'→RowSt w0 fw fr cap pm bm pr ps po w' r.2.1 r.2.2 bs'→RChg bm po bs0 wz bs' w'→if r.1=true then Q (.exit 0) a' w' else a'.eval (.tmp 4)=.slice none 0 0→a'.eval (.tmp 5)=.bool false→Q .ret a' w') :
    ∀ (k i:Nat) (a:Act) (w:World) (m:List (ByteArray×Int)) (l:List ByteArray) (bs:List Nat),i + k=ys.length→RAct pm pr ps po v a→a.eval (.tmp 13)=v→a.eval (.tmp 14)=.int .i64 ys.length→a.eval (.tmp 15)=.int .i64 i →
      RowSt w0 fw fr cap pm bm pr ps po w m l bs→RChg bm po bs0 wz bs w→Aside bm po bs w ys v→goP wk (ys.drop i) (m,l)=some r→Code.rounds P (rowBody L tS tI tB tW tL) Q (k + 1) a w:=by
  obtain ⟨aS,iS,zS,hiS,hsS,hzS,_⟩:=ty.one tS (by simp)
  obtain ⟨aW,iW,zW,hiW,hsW,_⟩:=ty.one tW (by simp)
  intro k
  induction k with
  | zero =>
    intro i a w m l bs hik hA e20 e21 e22 hS hC hy hg
    have hi:i=ys.length:=by omega
    rw [hi,List.drop_length] at hg
    have hg:some (true,(m,l))=some r:=hg
    cases hg
    rw [rounds_succ]
    refine wp_seq (wp_region ?_)
    show wpOps P _ _ [0] _ _
    refine step_val 16 rfl rfl rfl (run_ltI (x:=.tmp 15) (y:=.tmp 14) rfl ty.int e22 e21 _) ?_
    have hd:decide ((i:Int) < (ys.length:Int))=false:=decide_eq_false (by omega)
    rw [hd]
    show Code.wp P _ _ _ _
    refine wp_seq (wp_cond_false (by simp [ev_put,hA.sz]) (wp_exit ?_))
    have:=hQ _ _ _ (hA.put (d:=16) (v:=.bool false) (by decide) (by decide) (by decide) (by decide) (by decide)) hS hC
    exact this
  | succ k ih =>
    intro i a w m l bs hik hA e20 e21 e22 hS hC hy hg
    have hi:i < ys.length:=by omega
    rw [List.drop_eq_getElem_cons hi] at hg
    simp only [goP,Option.bind_eq_some_iff] at hg
    obtain ⟨r1,hr1,hg⟩:=hg
    rw [rounds_succ]
    refine wp_seq (wp_region ?_)
    show wpOps P _ _ [0] _ _
    refine step_val 16 rfl rfl rfl (run_ltI (x:=.tmp 15) (y:=.tmp 14) rfl ty.int e22 e21 _) ?_
    have hd:decide ((i:Int) < (ys.length:Int))=true:=decide_eq_true (by omega)
    rw [hd]
    have hA1:=hA.put (d:=16) (v:=.bool true) (by decide) (by decide) (by decide) (by decide) (by decide)
    have f20:(a.put (some 16) (.bool true)).eval (.tmp 13)=v:=by simp [ev_put,hA.sz,e20]
    have f21:(a.put (some 16) (.bool true)).eval (.tmp 14)=.int .i64 ys.length:=by simp [ev_put,hA.sz,e21]
    have f22:(a.put (some 16) (.bool true)).eval (.tmp 15)=.int .i64 i:=by simp [ev_put,hA.sz,e22]
    have f23:(a.put (some 16) (.bool true)).eval (.tmp 16)=.bool true:=by simp [ev_put,hA.sz]
    generalize a.put (some 16) (.bool true)=a1 at hA1 f20 f21 f22 f23
    clear hA e20 e21 e22 hd
    show Code.wp P _ _ _ _
    refine wp_seq (wp_cond_true f23 (wp_skip ?_))
    show Code.wp P _ _ _ _
    refine wp_seq (wp_block (wp_seq (wp_region ?_)))
    show wpOps P _ _ [0,1,2] _ _
    obtain ⟨A,c,hv,hc,hel⟩:=hy
    have hv:v=.slice A ys.length c:=by simpa using hv
    obtain ⟨ad,vs,hAd,hsp,hJ,hm,hvs⟩:=hel i hi
    have hvs:vs=[Value.string ys[i]] := hvs
    subst hvs
    subst hAd
    have hm':Mem w (ad.add i).block (ad.add i).off [Value.string ys[i]] := by
      have e1:(ad.add i).block=ad.block:=by unfold Addr.add; split<;>rfl
      have e2:(ad.add i).off=ad.off + i:=by
        unfold Addr.add
        split
        · rename_i h0; simp [h0]
        · rfl
      rw [e1,e2]
      simpa [Ty.sz] using hm
    have hadd:(ad.add i)=⟨(ad.add i).block,(ad.add i).off,none⟩:=by
      have:(ad.add i).spot=none:=by
        unfold Addr.add
        split<;>simp [hsp]
      cases h:ad.add i with
      | mk b o s=>rw [h] at this; cases this; rfl
    refine step_val 17 rfl rfl rfl (run_index (x:=.tmp 13) (i:=.tmp 15) rfl ty.sl hiS hsS (f20.trans hv) f22 hi _) ?_
    refine step_val 18 rfl rfl rfl (run_load1 (x:=.tmp 17) rfl aS hiS hsS (b:=(ad.add i).block) (off:=(ad.add i).off) (by rw [← hadd]; simp [ev_put,hA1.sz]) hm') ?_
    refine step_val 10 rfl rfl rfl (run_assign (x:=.tmp 18) (v:=.string ys[i]) rfl (by simp [ev_put,sz_put,hA1.sz]) _) ?_
    have hA2:=((hA1.put (d:=17) (v:=.pointer (some (ad.add i))) (by decide) (by decide) (by decide) (by decide) (by decide)).put (d:=18) (v:=.string ys[i]) (by decide) (by decide) (by decide) (by decide) (by decide)).put (d:=10) (v:=.string ys[i]) (by decide) (by decide) (by decide) (by decide) (by decide)
    have g20:(((a1.put (some 17) (.pointer (some (ad.add i)))).put (some 18) (.string ys[i])).put (some 10) (.string ys[i])).eval (.tmp 13)=v:=by simp [ev_put,sz_put,hA1.sz,f20]
    have g21:(((a1.put (some 17) (.pointer (some (ad.add i)))).put (some 18) (.string ys[i])).put (some 10) (.string ys[i])).eval (.tmp 14)=.int .i64 ys.length:=by simp [ev_put,sz_put,hA1.sz,f21]
    have g22:(((a1.put (some 17) (.pointer (some (ad.add i)))).put (some 18) (.string ys[i])).put (some 10) (.string ys[i])).eval (.tmp 15)=.int .i64 i:=by simp [ev_put,sz_put,hA1.sz,f22]
    have g8:(((a1.put (some 17) (.pointer (some (ad.add i)))).put (some 18) (.string ys[i])).put (some 10) (.string ys[i])).eval (.tmp 10)=.string ys[i] := by simp [ev_put,sz_put,hA1.sz]
    generalize ((a1.put (some 17) (.pointer (some (ad.add i)))).put (some 18) (.string ys[i])).put (some 10) (.string ys[i])=a2 at hA2 g20 g21 g22 g8
    clear hA1 f20 f21 f22 f23
    show Code.wp P _ _ _ _
    obtain ⟨Ts,hcs⟩:=hS.cs
    refine wp_seq (wp_region ?_)
    show wpOps P _ _ [0,1,2,3] _ _
    refine step_val 19 rfl rfl rfl (run_load1 (x:=.tmp 8) rfl aW hiW hsW hA2.e8 (mem_one hcs)) ?_
    refine step_val 20 rfl rfl rfl (run_move (x:=.tmp 10) (v:=.string ys[i]) rfl (by simp [ev_put,hA2.sz,g8]) _) ?_
    refine step_call 21 rfl rfl rfl (run_callV (f:=fw) (cap:=#[atP pm,atP pr,atP ps,atP po]) (x:=.tmp 19) (y:=.tmp 20) (v:=.string ys[i]) rfl (by simp [ev_put,sz_put,hA2.sz]) (by simp [ev_put,sz_put,hA2.sz]) hen _) ?_
    refine (hwk ys[i] m l bs w r1 hr1 hS).mono ?_
    rintro e w1 ⟨rfl,bs1,hS1,hC1⟩
    refine ⟨_,rfl,?_⟩
    refine step_val 22 rfl rfl rfl (run_notB (x:=.tmp 21) (b:=r1.1) rfl (by simp [ev_put,sz_put,hA2.sz]) rfl _) ?_
    have hA3:=(((hA2.put (d:=19) (v:=.func (.func fw) #[] #[atP pm,atP pr,atP ps,atP po]) (by decide) (by decide) (by decide) (by decide) (by decide)).put (d:=20) (v:=.string ys[i]) (by decide) (by decide) (by decide) (by decide) (by decide)).put (d:=21) (v:=.bool r1.1) (by decide) (by decide) (by decide) (by decide) (by decide)).put (d:=22) (v:=.bool (!r1.1)) (by decide) (by decide) (by decide) (by decide) (by decide)
    have k20:((((a2.put (some 19) (.func (.func fw) #[] #[atP pm,atP pr,atP ps,atP po])).put (some 20) (.string ys[i])).put (some 21) (.bool r1.1)).put (some 22) (.bool (!r1.1))).eval (.tmp 13)=v:=by simp [ev_put,sz_put,hA2.sz,g20]
    have k21:((((a2.put (some 19) (.func (.func fw) #[] #[atP pm,atP pr,atP ps,atP po])).put (some 20) (.string ys[i])).put (some 21) (.bool r1.1)).put (some 22) (.bool (!r1.1))).eval (.tmp 14)=.int .i64 ys.length:=by simp [ev_put,sz_put,hA2.sz,g21]
    have k22:((((a2.put (some 19) (.func (.func fw) #[] #[atP pm,atP pr,atP ps,atP po])).put (some 20) (.string ys[i])).put (some 21) (.bool r1.1)).put (some 22) (.bool (!r1.1))).eval (.tmp 15)=.int .i64 i:=by simp [ev_put,sz_put,hA2.sz,g22]
    have k29:((((a2.put (some 19) (.func (.func fw) #[] #[atP pm,atP pr,atP ps,atP po])).put (some 20) (.string ys[i])).put (some 21) (.bool r1.1)).put (some 22) (.bool (!r1.1))).eval (.tmp 22)=.bool (!r1.1):=by simp [ev_put,sz_put,hA2.sz]
    generalize (((a2.put (some 19) (.func (.func fw) #[] #[atP pm,atP pr,atP ps,atP po])).put (some 20) (.string ys[i])).put (some 21) (.bool r1.1)).put (some 22) (.bool (!r1.1))=a3 at hA3 k20 k21 k22 k29
    clear hA2 g20 g21 g22 g8
    show Code.wp P _ _ _ _
    rcases Bool.eq_false_or_eq_true r1.1 with c1 | c1
    · rw [if_pos c1] at hg
      rw [c1] at k29
      refine wp_cond_false k29 (wp_skip ?_)
      show Code.wp P _ _ _ _
      refine wp_region ?_
      show wpOps P _ _ [0,1] _ _
      refine step_val 23 rfl rfl rfl (run_addI (x:=.tmp 15) (y:=.const (.int .i64 1)) (b:=1) rfl ty.int k22 rfl _) ?_
      have hwr:IntKind.i64.wrap ((i:Int) + 1)=((i + 1:Nat):Int):=by rw [wrap_i64 (by omega) (by omega)]; omega
      rw [hwr]
      refine step_val 15 rfl rfl rfl (run_move (x:=.tmp 23) (v:=.int .i64 ((i + 1:Nat):Int)) rfl (by simp [ev_put,hA3.sz]) _) ?_
      have hA4:=(hA3.put (d:=23) (v:=.int .i64 ((i + 1:Nat):Int)) (by decide) (by decide) (by decide) (by decide) (by decide)).put (d:=15) (v:=.int .i64 ((i + 1:Nat):Int)) (by decide) (by decide) (by decide) (by decide) (by decide)
      exact ih (i + 1) _ w1 r1.2.1 r1.2.2 bs1 (by omega) hA4 (by simp [ev_put,sz_put,hA3.sz,k20]) (by simp [ev_put,sz_put,hA3.sz,k21]) (by simp [ev_put,sz_put,hA3.sz]) hS1 (hC.trans hC1) (Aside.keep ⟨some ad,c,by rw [hv],hc,hel⟩ hC1) hg
    · rw [if_neg (by simp [c1])] at hg
      cases hg
      rw [c1] at k29
      refine wp_cond_true k29 (wp_seq (wp_region ?_))
      show wpOps P _ _ [0,1] _ _
      refine step_val 4 rfl rfl rfl (run_assign (x:=.const (.slice none 0 0)) (v:=.slice none 0 0) rfl rfl _) ?_
      refine step_val 5 rfl rfl rfl (run_assign (x:=.const (.bool false)) (v:=.bool false) rfl rfl _) ?_
      show Code.wp P _ _ _ _
      refine wp_ret ?_
      have:=hQ _ _ _ ((hA3.put (d:=4) (v:=.slice none 0 0) (by decide) (by decide) (by decide) (by decide) (by decide)).put (d:=5) (v:=.bool false) (by decide) (by decide) (by decide) (by decide) (by decide)) hS1 (hC.trans hC1)
      rw [if_neg (by simp)] at this
      exact this (by simp [ev_put,sz_put,hA3.sz]) (by simp [ev_put,sz_put,hA3.sz])
theorem row_end (ty:RowTy P tM tS tI tR tW tL) {fn:Func} (hres:fn.results=#[.tmp 4,.tmp 5]) {n:Nat} {rd:ByteArray→Option (List ByteArray)} (hrn:∀ args w,(callFunc fr args).run P w=.ok (.enter fr args) w) (hen:∀ args w,(callFunc fw args).run P w=.ok (.enter fw args) w)
    (hwk:WalkOk P w0 fw fr cap pm bm pr ps po (walkP rd n)) {ys:List ByteArray} (hlen:ys.length≤4611686018427387904) {a:Act} {w:World} {y:Tup [.slice .str,.bool]} (hA:RAct pm pr ps po v a) (hS:RowSt w0 fw fr cap pm bm pr ps po w [] [] []) (hy:Aside bm po [] w ys v)
    (h:((goP (walkP rd n) ys ([],[])).bind fun r=>if r.1=true then some (r.2.2,true,()) else some ([],false,()))=some y) :
    (rowLoop L tS tI tB tW tL).wp P (bodyPost P fn fun e w'=>∃ vs,e=.returned (resVal vs)∧Below w0.heap.size w0 w'∧∃ bs,TupOwn w' [.slice .str,.bool] y vs bs∧bs.Nodup∧∀ b∈bs,w0.heap.size≤b∧b < w'.heap.size) a w:=by
  obtain ⟨aL,iL,zL,hiL,hsL,_⟩:=ty.one tL (by simp)
  simp only [Option.bind_eq_some_iff] at h
  obtain ⟨r,hr,h⟩:=h
  refine wp_seq (wp_seq (wp_region ?_))
  show wpOps P _ _ [0,1,2] _ _
  obtain ⟨A,c,hv,_⟩:=id hy
  have hv:v=.slice A ys.length c:=by simpa using hv
  refine step_val 13 rfl rfl rfl (run_move (x:=.tmp 0) (v:=v) rfl hA.e0 _) ?_
  refine step_val 14 rfl rfl rfl (run_len (P:=P) (x:=.tmp 13) (t:=tL) (A:=A) (n:=ys.length) (c:=c) rfl ty.sl (by simp [ev_put,sz_put,hA.sz,hv]) _) ?_
  refine step_val 15 rfl rfl rfl (run_move (x:=.const (.int .i64 0)) (v:=.int .i64 0) rfl rfl _) ?_
  have hA1:=((hA.put (d:=13) (v:=v) (by decide) (by decide) (by decide) (by decide) (by decide)).put (d:=14) (v:=.int .i64 ys.length) (by decide) (by decide) (by decide) (by decide) (by decide)).put (d:=15) (v:=.int .i64 0) (by decide) (by decide) (by decide) (by decide) (by decide)
  have k20:(((a.put (some 13) v).put (some 14) (.int .i64 ys.length)).put (some 15) (.int .i64 0)).eval (.tmp 13)=v:=by simp [ev_put,sz_put,hA.sz]
  have k21:(((a.put (some 13) v).put (some 14) (.int .i64 ys.length)).put (some 15) (.int .i64 0)).eval (.tmp 14)=.int .i64 ys.length:=by simp [ev_put,sz_put,hA.sz]
  have k22:(((a.put (some 13) v).put (some 14) (.int .i64 ys.length)).put (some 15) (.int .i64 0)).eval (.tmp 15)=.int .i64 ((0:Nat):Int):=by simp [ev_put,sz_put,hA.sz]
  generalize ((a.put (some 13) v).put (some 14) (.int .i64 ys.length)).put (some 15) (.int .i64 0)=a1 at hA1 k20 k21 k22
  show Code.wp P _ _ _ _
  refine wp_block (wp_loop_rounds (ys.length + 1) ?_)
  refine row_loop ty hen hwk hlen (bs0:=[]) (wz:=w) (r:=r) (fun a' w' bs' hA' hS' hC'=>?_) ys.length 0 a1 w [] [] [] (by omega) hA1 k20 k21 k22 hS RChg.refl hy (by rw [List.drop_zero]; exact hr)
  have hfin:∀ (v4:Value) (b5:Bool) (a2:Act),a2.defers=[]→a2.eval (.tmp 4)=v4→a2.eval (.tmp 5)=.bool b5→(results fn a2.tmps).run P w'=.ok (resVal [v4,.bool b5]) w':=by
    intro v4 b5 a2 hdf h4 h5
    refine results_run (vs:=[v4,.bool b5]) ?_
    rw [hres]
    have h4':a2.tmps.getD 4 undef=v4:=h4
    have h5':a2.tmps.getD 5 undef=.bool b5:=h5
    simp [readRes,h4',h5']
  split
  · rename_i c1
    rw [if_pos c1] at h
    cases h
    show Code.wp P _ _ _ _
    obtain ⟨T,vo,hco,hvo⟩:=hS'.co
    refine wp_seq (wp_region ?_)
    show wpOps P _ _ [0,1,2] _ _
    refine step_val 24 rfl rfl rfl (run_load1 (x:=.tmp 7) rfl aL hiL hsL hA'.e7 (mem_one hco)) ?_
    refine step_val 4 rfl rfl rfl (run_assign (x:=.tmp 24) (v:=vo) rfl (by simp [ev_put,hA'.sz]) _) ?_
    refine step_val 5 rfl rfl rfl (run_assign (x:=.const (.bool true)) (v:=.bool true) rfl rfl _) ?_
    show Code.wp P _ _ _ _
    refine wp_ret ?_
    refine ⟨by rw [df_put,df_put,df_put]; exact hA'.df,resVal [vo,.bool true],hfin vo true _ (by rw [df_put,df_put,df_put]; exact hA'.df) (by simp [ev_put,sz_put,hA'.sz]) (by simp [ev_put,sz_put,hA'.sz]),?_⟩
    refine ⟨[vo,.bool true],rfl,hS'.below,bs',⟨vo,[.bool true],bs',[],rfl,by simp,⟨?_,fun h=>(by cases h),fun _=>hvo.one⟩,⟨.bool true,[],[],[],rfl,rfl,⟨⟨rfl,rfl⟩,fun h=>(by cases h),fun _=>trivial⟩,rfl,rfl⟩⟩,?_,fun b hb=>hS'.ge b (by simp [hb])⟩
    · have h1:=hvo.own
      have h2:=hvo.one
      cases vo<;>first | exact h1 | exact h2.elim
    · have hnd:=hS'.nd
      simp only [List.nodup_cons] at hnd
      exact hnd.2.2.2.2.2
  · rename_i c1
    rw [if_neg c1] at h
    cases h
    intro h4 h5
    refine ⟨hA'.df,resVal [.slice none 0 0,.bool false],hfin _ _ a' hA'.df h4 h5,?_⟩
    exact ⟨[.slice none 0 0,.bool false],rfl,hS'.below,[],⟨.slice none 0 0,[.bool false],[],[],rfl,rfl,⟨.inl ⟨rfl,rfl,rfl⟩,fun h=>(by cases h),fun _=>trivial⟩,⟨.bool false,[],[],[],rfl,rfl,⟨⟨rfl,rfl⟩,fun h=>(by cases h),fun _=>trivial⟩,rfl,rfl⟩⟩,List.nodup_nil,fun b hb=>by cases hb⟩
end
theorem alloc_facts (w:World) (o:Obj):(w.alloc o).heap[w.heap.size]?=some o∧(w.alloc o).heap.size=w.heap.size + 1∧(∀ q,q < w.heap.size→(w.alloc o).heap[q]?=w.heap[q]?)∧(w.alloc o).os=w.os∧(w.alloc o).tape=w.tape∧(w.alloc o).output=w.output:=by
  refine ⟨?_,?_,fun q hq=>?_,rfl,rfl,rfl⟩
  · show (w.heap.push _)[w.heap.size]?=_
    simp
  · show (w.heap.push _).size=_
    simp
  · show (w.heap.push _)[q]?=_
    rw [Array.getElem?_push,if_neg (by omega)]
section
variable {L L2:Nat→String×Array Edge} {fw f:FuncId} {tM tS tI tB tR tW tL:Nat}
theorem row_high (ty:RowTy P tM tS tI tR tW tL) {fn fn2:Func} (hfw:P.funcs[fw]?=some fn2) (hb2:fn2.body=some (walkCode L2 tM tS tI tB tR tW tL)) (hn2:fn2.ntmps=37) (hres2:fn2.results=#[.tmp 6]) (hen:∀ args w,(callFunc fw args).run P w=.ok (.enter fw args) w)
    (hf:P.funcs[f]?=some fn) (hb:fn.body=some (rowCode L fw tM tS tI tB tR tW tL)) (hn:fn.ntmps=25) (hres:fn.results=#[.tmp 4,.tmp 5]) (n:Nat):ConH P f ⟨[.slice .str,.bool],fun rd l=>rowP n rd l⟩:=by
  refine ⟨fun fr rd cap w0 ys v y hrn hrd hl hy=>?_⟩
  have hy:rowP n rd ys=some y:=hy
  unfold rowP at hy
  split at hy
  case isFalse=>cases hy
  rename_i hle
  have hle:=Nat.le_of_ble_eq_true hle
  obtain ⟨aM,iM,zM,hiM,hsM,hzM,vM,hcM⟩:=ty.one tM (by simp)
  obtain ⟨aL,iL,zL,hiL,hsL,hzL,vL,hcL⟩:=ty.one tL (by simp)
  obtain ⟨aW,iW,zW,hiW,hsW,hzW,vW,hcW⟩:=ty.one tW (by simp)
  have hzL':=ty.zL iL hiL
  rw [hzL] at hzL'
  cases hzL'
  refine calls_of_wp hf hb ?_
  have hinit:({ tmps:=#[v,.func (.func fr) #[] cap]++Array.replicate (fn.ntmps - (#[v,.func (.func fr) #[] cap]:Array Value).size) undef,defers:=[] }:Act).tmps.size=25∧({ tmps:=#[v,.func (.func fr) #[] cap]++Array.replicate (fn.ntmps - (#[v,.func (.func fr) #[] cap]:Array Value).size) undef,defers:=[] }:Act).eval (.tmp 0)=v∧({ tmps:=#[v,.func (.func fr) #[] cap]++Array.replicate (fn.ntmps - (#[v,.func (.func fr) #[] cap]:Array Value).size) undef,defers:=[] }:Act).eval (.tmp 1)=.func (.func fr) #[] cap:=by
    rw [hn]
    exact ⟨by kernel_rfl,by kernel_rfl,by kernel_rfl⟩
  have hdf:({ tmps:=#[v,.func (.func fr) #[] cap]++Array.replicate (fn.ntmps - (#[v,.func (.func fr) #[] cap]:Array Value).size) undef,defers:=[] }:Act).defers=[] := rfl
  generalize ({ tmps:=#[v,.func (.func fr) #[] cap]++Array.replicate (fn.ntmps - (#[v,.func (.func fr) #[] cap]:Array Value).size) undef,defers:=[] }:Act)=a at hinit hdf
  obtain ⟨hsz,e0,e1⟩:=hinit
  refine wp_seq (wp_region ?_)
  show wpOps P _ _ [0,1,2] _ _
  refine step_val 3 rfl rfl rfl (run_box1 (x:=.tmp 1) rfl e1 _) ?_
  refine step_val 4 rfl rfl rfl (run_assign (x:=.const (.slice none 0 0)) (v:=.slice none 0 0) rfl rfl _) ?_
  refine step_val 5 rfl rfl rfl (run_assign (x:=.const (.bool false)) (v:=.bool false) rfl rfl _) ?_
  obtain ⟨p1,p2,p3,p4,p5,p6⟩:=alloc_facts w0 (.cells (Value.func (.func fr) #[] cap).cells tR)
  generalize w0.alloc (.cells (Value.func (.func fr) #[] cap).cells tR)=w1 at p1 p2 p3 p4 p5 p6
  show Code.wp P _ _ _ _
  refine wp_seq (wp_region ?_)
  show wpOps P _ _ [0,1,2] _ _
  have hmk:∀ (ρ:Operand→Value) (o:Oper),o.op=.makeMap tM none→(execOp ρ o).run P w1=.ok (.value (.map (some w1.heap.size))) (w1.alloc (.map #[] 0)):=by
    intro ρ o ho
    have hrun:(Instr.makeMap tM none).run P w1=.ok (.map (some w1.heap.size)) (w1.alloc (.map #[] 0)):=rfl
    simp only [execOp,ho,Option.map_none,hrun,Sem.run_bind,Result.andThen_ok]
    rfl
  refine step_val 11 rfl rfl rfl (hmk _ _ rfl) ?_
  obtain ⟨q1,q2,q3,q4,q5,q6⟩:=alloc_facts w1 (.map #[] 0)
  generalize w1.alloc (.map #[] 0)=w2 at q1 q2 q3 q4 q5 q6
  refine step_val 6 rfl rfl rfl (run_alloc (P:=P) rfl hiM hzM _) ?_
  obtain ⟨r1,r2,r3,r4,r5,r6⟩:=alloc_facts w2 (.cells zM.cells tM)
  generalize w2.alloc (.cells zM.cells tM)=w3 at r1 r2 r3 r4 r5 r6
  rw [hcM] at r1
  obtain ⟨w4,hs4,s1,⟨s4,s5,s6,s2,s3⟩⟩:=run_store1 (P:=P) (ρ:=(((((a.put (some 3) (atP w0.heap.size)).put (some 4) (.slice none 0 0)).put (some 5) (.bool false)).put (some 11) (.map (some w1.heap.size))).put (some 6) (atP w2.heap.size)).eval) (o:=ro L 5 none (.store tM (.tmp 6) (.tmp 11)) 0) rfl hiM hsM (b:=w2.heap.size) (v:=.map (some w1.heap.size)) (by simp [ev_put,sz_put,hsz]) (by simp [ev_put,sz_put,hsz]) trivial r1
  refine step_skip rfl rfl rfl hs4 ?_
  clear hs4
  show Code.wp P _ _ _ _
  refine wp_seq (wp_region ?_)
  show wpOps P _ _ [0] _ _
  refine step_val 7 rfl rfl rfl (run_alloc (P:=P) rfl hiL hzL _) ?_
  obtain ⟨t1,t2,t3,t4,t5,t6⟩:=alloc_facts w4 (.cells (Value.slice none 0 0).cells tL)
  generalize w4.alloc (.cells (Value.slice none 0 0).cells tL)=w5 at t1 t2 t3 t4 t5 t6
  show Code.wp P _ _ _ _
  refine wp_seq (wp_region ?_)
  show wpOps P _ _ [0] _ _
  refine step_val 8 rfl rfl rfl (run_alloc (P:=P) rfl hiW hzW _) ?_
  obtain ⟨u1,u2,u3,u4,u5,u6⟩:=alloc_facts w5 (.cells zW.cells tW)
  generalize w5.alloc (.cells zW.cells tW)=w6 at u1 u2 u3 u4 u5 u6
  rw [hcW] at u1
  show Code.wp P _ _ _ _
  refine wp_seq (wp_region ?_)
  show wpOps P _ _ [0,1] _ _
  have hmf:∀ (ρ:Operand→Value) (o:Oper),o.op=.makeFunc (.func fw) #[] #[(.tmp 6),(.tmp 3),(.tmp 8),(.tmp 7)]→ρ (.tmp 6)=atP w2.heap.size→ρ (.tmp 3)=atP w0.heap.size→ρ (.tmp 8)=atP w5.heap.size→ρ (.tmp 7)=atP w4.heap.size →
      (execOp ρ o).run P w6=.ok (.value (.func (.func fw) #[] #[atP w2.heap.size,atP w0.heap.size,atP w5.heap.size,atP w4.heap.size])) w6:=by
    intro ρ o ho h1 h2 h3 h4
    simp [execOp,ho,Instr.makeFunc,h1,h2,h3,h4]
  refine step_val 12 rfl rfl rfl (hmf _ _ rfl (by simp [ev_put,sz_put,hsz]) (by simp [ev_put,sz_put,hsz]) (by simp [ev_put,sz_put,hsz]) (by simp [ev_put,sz_put,hsz])) ?_
  obtain ⟨w7,hs7,x1,⟨x4,x5,x6,x2,x3⟩⟩:=run_store1 (P:=P) (ρ:=((((((((a.put (some 3) (atP w0.heap.size)).put (some 4) (.slice none 0 0)).put (some 5) (.bool false)).put (some 11) (.map (some w1.heap.size))).put (some 6) (atP w2.heap.size)).put (some 7) (atP w4.heap.size)).put (some 8) (atP w5.heap.size)).put (some 12) (.func (.func fw) #[] #[atP w2.heap.size,atP w0.heap.size,atP w5.heap.size,atP w4.heap.size])).eval) (o:=ro L 9 none (.store tW (.tmp 8) (.tmp 12)) 0) rfl hiW hsW (b:=w5.heap.size) (v:=.func (.func fw) #[] #[atP w2.heap.size,atP w0.heap.size,atP w5.heap.size,atP w4.heap.size]) (by simp [ev_put,sz_put,hsz]) (by simp [ev_put,sz_put,hsz]) trivial u1
  refine step_skip rfl rfl rfl hs7 ?_
  clear hs7 hmf hmk
  have hA:RAct w2.heap.size w0.heap.size w5.heap.size w4.heap.size v ((((((((a.put (some 3) (atP w0.heap.size)).put (some 4) (.slice none 0 0)).put (some 5) (.bool false)).put (some 11) (.map (some w1.heap.size))).put (some 6) (atP w2.heap.size)).put (some 7) (atP w4.heap.size)).put (some 8) (atP w5.heap.size)).put (some 12) (.func (.func fw) #[] #[atP w2.heap.size,atP w0.heap.size,atP w5.heap.size,atP w4.heap.size])):=by
    refine ⟨by simp [sz_put,hsz],by simp only [df_put]; exact hdf,?_,?_,?_,?_,?_⟩<;>simp [ev_put,sz_put,hsz,e0]
  generalize (((((((a.put (some 3) (atP w0.heap.size)).put (some 4) (.slice none 0 0)).put (some 5) (.bool false)).put (some 11) (.map (some w1.heap.size))).put (some 6) (atP w2.heap.size)).put (some 7) (atP w4.heap.size)).put (some 8) (atP w5.heap.size)).put (some 12) (.func (.func fw) #[] #[atP w2.heap.size,atP w0.heap.size,atP w5.heap.size,atP w4.heap.size])=a7 at hA
  show Code.wp P _ _ _ _
  have hold:∀ q,q < w0.heap.size→w7.heap[q]?=w0.heap[q]? := fun q hq=>by
    rw [x3 q (by omega),u3 q (by omega),t3 q (by omega),s3 q (by omega),r3 q (by omega),q3 q (by omega),p3 q (by omega)]
  have hbel:Below w0.heap.size w0 w7:=⟨by rw [x4,u4,t4,s4,r4,q4,p4],by rw [x5,u5,t5,s5,r5,q5,p5],by rw [x6,u6,t6,s6,r6,q6,p6],by omega,hold⟩
  have hS:RowSt w0 fw fr cap w2.heap.size w1.heap.size w0.heap.size w5.heap.size w4.heap.size w7 [] [] [] := by
    refine ⟨hbel,⟨#[],?_,⟨rfl,fun j en q hj=>by simp at hj,fun j en hj=>by simp at hj⟩⟩,⟨tM,?_⟩,⟨tR,?_⟩,⟨tW,x1⟩,⟨tL,.slice none 0 0,?_,.inl ⟨rfl,rfl,rfl⟩⟩,?_,?_⟩
    · rw [x3 _ (by omega),u3 _ (by omega),t3 _ (by omega),s3 _ (by omega),r3 _ (by omega)]; exact q1
    · rw [x3 _ (by omega),u3 _ (by omega),t3 _ (by omega)]; exact s1
    · rw [x3 _ (by omega),u3 _ (by omega),t3 _ (by omega),s3 _ (by omega),r3 _ (by omega),q3 _ (by omega)]; exact p1
    · rw [x3 _ (by omega),u3 _ (by omega)]; exact t1
    · intro b hb
      simp only [List.mem_cons,List.not_mem_nil,or_false] at hb
      omega
    · simp only [List.nodup_cons,List.mem_cons,List.not_mem_nil,or_false,not_or,not_false_eq_true,List.nodup_nil,and_true]
      omega
  have hys:Aside w1.heap.size w4.heap.size [] w7 ys v:=by
    obtain ⟨A,c,hv,hc,hel⟩:=hl
    refine ⟨A,c,hv,hc,fun i hi=>?_⟩
    obtain ⟨ad,vs,h1,h2,h3,h4,h5⟩:=hel i hi
    have hlt:=h4.lt
    exact ⟨ad,vs,h1,h2,⟨by omega,by omega,by omega,by simp⟩,h4.keep (hold _ hlt),h5⟩
  have hwk:=walk_ok ty hfw hb2 hn2 hres2 hen hrn (w0:=w0) (pm:=w2.heap.size) (bm:=w1.heap.size) (pr:=w0.heap.size) (ps:=w5.heap.size) (po:=w4.heap.size) (rd:=rd) hrd n
  exact row_end ty hres hrn hen hwk hle hA hS hys hy
theorem con_row (ty : RowTy P tM tS tI tR tW tL) {fn fn2 : Func} (hfw : P.funcs[fw]? = some fn2) (hnm2 : (fn2.name == "runtime.NumGoroutine") = false) (hb2 : fn2.body = some (walkCode L2 tM tS tI tB tR tW tL)) (hn2 : fn2.ntmps = 37) (hres2 : fn2.results = #[.tmp 6])
    (hf : P.funcs[f]? = some fn) (hnm : (fn.name == "runtime.NumGoroutine") = false) (hb : fn.body = some (rowCode L fw tM tS tI tB tR tW tL)) (hn : fn.ntmps = 25) (hres : fn.results = #[.tmp 4,.tmp 5]) (n : Nat) :
    Con P f ⟨[],[],false,fun _=>none,some ⟨.unit,[],[],fun _ _=>none,none,some ⟨.unit,[],[],fun _ _=>none,some ⟨[.slice .str,.bool],fun rd l=>rowP n rd l⟩⟩⟩,none⟩:=by
  refine ⟨fun args w=>enters_of hf hnm (by rw [hb]; rfl) args w,fun ws' hws=>?_,fun ws' ys hws hx hs=>?_,fun ws' ys hws hx hs=>?_,fun ws' ys e' hws hx hs=>?_,fun ws' ls hws hx=>?_,fun ws' ys ks hws hx hs=>?_,(fun X hX=>by cases hX),fun hw=>by cases hw⟩
  · cases hws
    exact ⟨fun M x q y w args v rest bs hF=>by cases hF⟩
  · cases hws; cases hx
  · cases hws; cases hx
  · cases hws; cases hx
  · cases hws
    cases hx
    refine ⟨fun hh=>(by cases hh),fun hs hh=>?_⟩
    cases hh
    exact row_high ty hfw hb2 hn2 hres2 (fun args w=>enters_of hfw hnm2 (by rw [hb2]; rfl) args w) hf hb hn hres n
  · cases hws; cases hx
def oneInfo (P:Program) (t:Nat):Bool:=match P.info? t with
  | some i=>(match i.zero with
    | some z=>Nat.beq i.size 1 && Nat.beq z.cells.size 1
    | none=>false)
  | none=>false
def mapB (P:Program) (tM:Nat):Bool:=match P.underlying tM with
  | some (.map kt et)=>keyOk P kt .str && (match P.info? et with
    | some i=>(match i.zero with
      | some (.int .i64 0)=>true
      | _=>false)
    | none=>false)
  | _=>false
def nilB (P:Program) (t:Nat):Bool:=match P.info? t with
  | some i=>(match i.zero with
    | some (.slice none 0 0)=>true
    | _=>false)
  | none=>false
def b16 (P:Program) (t:Nat):Bool:=match P.info? t with
  | some i=>Nat.beq i.bytes 16
  | none=>false
def slB (P:Program) (t u:Nat):Bool:=match P.underlying t with
  | some (.slice e)=>Nat.beq e u
  | _=>false
def intB (P:Program) (t:Nat):Bool:=match P.underlying t with
  | some (.int .i64)=>true
  | _=>false
def rowTyB (P:Program) (tM tS tI tR tW tL:Nat):Bool:=mapB P tM && ([tM,tS,tR,tW,tL].all fun t=>aggB P t false && oneInfo P t) && intB P tI && slB P tL tS && zeroIs P tS .str && b16 P tS && nilB P tL
theorem row_ty {tM tS tI tR tW tL:Nat} (h:rowTyB P tM tS tI tR tW tL=true):RowTy P tM tS tI tR tW tL:=by
  unfold rowTyB at h
  simp only [Bool.and_eq_true] at h
  obtain ⟨⟨⟨⟨⟨⟨h1,h2⟩,h3⟩,h4⟩,h5⟩,h6⟩,h7⟩:=h
  refine ⟨?_,fun t ht=>?_,?_,?_,h5,fun i hi=>?_,fun i hi=>?_⟩
  · unfold mapB at h1
    split at h1
    case h_2=>cases h1
    rename_i kt et hT
    simp only [Bool.and_eq_true] at h1
    obtain ⟨hk,h1⟩:=h1
    split at h1
    case h_2=>cases h1
    rename_i i hi
    split at h1
    case h_2=>cases h1
    rename_i hz
    exact ⟨kt,et,i,hT,hk,hi,hz⟩
  · have h2:=List.all_eq_true.1 h2 t (by simp only [List.mem_cons,List.not_mem_nil,or_false]; exact ht)
    simp only [Bool.and_eq_true] at h2
    refine ⟨aggB_eq h2.1,?_⟩
    have h8:=h2.2
    unfold oneInfo at h8
    split at h8
    case h_2=>cases h8
    rename_i i hi
    split at h8
    case h_2=>cases h8
    rename_i z hz
    simp only [Bool.and_eq_true] at h8
    refine ⟨i,z,hi,Nat.eq_of_beq_eq_true h8.1,hz,?_⟩
    have hs:z.cells.size=1:=Nat.eq_of_beq_eq_true h8.2
    refine ⟨z.cells[0],?_⟩
    apply Array.ext'
    have hl1:z.cells.toList.length=1:=by simpa using hs
    match hl:z.cells.toList,hl1 with
    | [u],_=>simp [← Array.getElem_toList,hl]
  · unfold intB at h3
    split at h3
    · assumption
    · cases h3
  · unfold slB at h4
    split at h4
    · rename_i e he
      rw [he,Nat.eq_of_beq_eq_true h4]
    · cases h4
  · unfold b16 at h6
    rw [hi] at h6
    exact Nat.eq_of_beq_eq_true h6
  · unfold nilB at h7
    rw [hi] at h7
    simp only at h7
    split at h7
    · assumption
    · cases h7
end
end
end Go.Vm

namespace Go.Vm
open Go.RowKit (Below)
open Go.ChangeShapes Go.WideShapes Go.ChangeAt
def wfI (k:IntKind) (n:Int):Prop:=(Lit.int k n).wf=true
def wf:(t:Ty)→t.den→Prop
  | .int k,x=>wfI k x
  | .bool,_=>True
  | .str,s=>ByteArray.size s≤maxLen
  | .slice e,l=>List.length l≤maxLen∧∀ x∈l,wf e x
  | .ptr _,_=>False
  | .unit,_=>True
  | .pair a b,x=>wf a x.1∧wf b x.2
def wfT:(ts:List Ty)→Tup ts→Prop
  | [],_=>True
  | t :: ts,x=>wf t x.1∧wfT ts x.2
def goodF (P:Program) (g:TypeId→Ty→Bool):List Field→Nat→Ty→Bool
  | [],_,.unit=>true
  | f :: r,off,.pair a b=>Nat.beq f.offset off && g f.type a && Nat.beq (P.cellsOf f.type) a.sz && goodF P g r (off + a.sz) b
  | _,_,_=>false
def goodT (P:Program):Nat→TypeId→Ty→Bool
  | 0,_,_=>false
  | n + 1,t,ty=>match P.underlying t,ty with
    | some .bool,.bool=>true
    | some (.int k),.int k'=>decide (k=k')
    | some .string,.str=>true
    | some (.slice e),.slice ty'=>goodT P n e ty' && Nat.beq (P.cellsOf e) ty'.sz && Nat.ble 1 ty'.sz
    | some (.struct fs),ty=>ty.isAgg && goodF P (goodT P n) fs.toList 0 ty && Nat.beq (P.cellsOf t) ty.sz
    | _,_=>false
section
variable {H:Type} {enc:TypeId×Value→H} {P:Program} {w:World}
theorem mem_of_cells {a:Addr} {n:Nat} {vs:List Value} (hn:1≤n) (h:w.cells? 0 a n=some vs):vs.length=n∧Mem w a.block a.off vs∧w.cell? a=vs[0]? := by
  unfold World.cells? at h
  rw [if_pos (Nat.zero_le _)] at h
  have hl:vs.length=n:=by simpa using mapM_some_length h
  have hc:∀ i,i < n→w.cell? (a.add i)=vs[i]? := fun i hi=>mapM_some_get h i i (by simp [hi])
  refine ⟨hl,?_,?_⟩
  · have h0:=hc 0 (by omega)
    rw [List.getElem?_eq_getElem (by omega)] at h0
    have e0:a.add 0=a:=rfl
    rw [e0] at h0
    unfold World.cell? at h0
    split at h0
    · rename_i c T fz hb
      have hcell:∀ i,i < n→c[a.off + i]?=vs[i]? := by
        intro i hi
        have:=hc i hi
        unfold Addr.add at this
        split at this
        · rename_i hi0
          subst hi0
          unfold World.cell? at this
          rw [hb] at this
          simp only at this
          split at this
          · rw [List.getElem?_eq_getElem (by omega)] at this; cases this
          · simpa using this
        · unfold World.cell? at this
          simp only [hb] at this
          simpa using this
      have hlast:=hcell (n - 1) (by omega)
      rw [List.getElem?_eq_getElem (by omega)] at hlast
      have hsz:a.off + (n - 1) < c.size:=(Array.getElem?_eq_some_iff.1 hlast).1
      refine ⟨c,T,fz,hb,by omega,?_⟩
      apply List.ext_getElem?
      intro i
      by_cases hi:i < vs.length
      · rw [cut_get hi]
        have:=hcell i (by omega)
        simpa using this
      · rw [List.getElem?_eq_none (by rw [cut_length]; omega; simp; omega),List.getElem?_eq_none (by omega)]
    · cases h0
  · have h0:=hc 0 (by omega)
    exact h0
theorem spot_none {a:Addr} {v:Value} (h:w.cell? a=some v):a.spot=none:=by
  unfold World.cell? at h
  split at h
  · split at h
    · cases h
    · rename_i hs
      simpa using hs
  · cases h
theorem goodF_rep {g:TypeId→Ty→Bool} {n:Nat} (ih:∀ {t:TypeId} {ty:Ty} {cs:List Value} {y:DataW H×List MemPlace},g t ty=true→DataW.trod enc P w 0 (fun _=>true) true n t cs=some y→∃ x:ty.den,rep w (fun _=>True) ty x cs∧wf ty x) :
    ∀ {fs:List Field} {off:Nat} {ty:Ty} {cs:List Value},goodF P g fs off ty=true→off + ty.sz=cs.length→(∀ (i:Nat) (f:Field),fs[i]?=some f→∃ y,DataW.trod enc P w 0 (fun _=>true) true n f.type ((cs.drop f.offset).take (P.cellsOf f.type))=some y) →
      ∃ x:ty.den,rep w (fun _=>True) ty x (cs.drop off)∧wf ty x
  | [],off,ty,cs,h,hs,_=>by
    cases ty<;>simp [goodF] at h
    exact ⟨(),by simp only [rep]; rw [List.drop_eq_nil_iff]; simp [Ty.sz] at hs; omega,trivial⟩
  | f :: fs,off,ty,cs,h,hs,hf=>by
    cases ty with
    | pair a b =>
      simp only [goodF,Bool.and_eq_true] at h
      obtain ⟨⟨⟨h1,h2⟩,h3⟩,h4⟩:=h
      have h1:=Nat.eq_of_beq_eq_true h1
      have h3:=Nat.eq_of_beq_eq_true h3
      obtain ⟨y,hy⟩:=hf 0 f rfl
      rw [h1,h3] at hy
      obtain ⟨x1,r1,w1⟩:=ih h2 hy
      obtain ⟨x2,r2,w2⟩:=goodF_rep ih h4 (by simp only [Ty.sz] at hs; omega) (fun i f' hf'=>hf (i + 1) f' (by simpa using hf'))
      refine ⟨(x1,x2),⟨_,_,?_,r1,r2⟩,w1,w2⟩
      rw [← List.drop_drop,List.take_append_drop]
    | _=>simp [goodF] at h
theorem rep_of_trod:∀ {n:Nat} {t:TypeId} {ty:Ty} {fuel:Nat} {cs:List Value} {y:DataW H×List MemPlace},goodT P n t ty=true→DataW.trod enc P w 0 (fun _=>true) true fuel t cs=some y→∃ x:ty.den,rep w (fun _=>True) ty x cs∧wf ty x
  | 0,t,ty,fuel,cs,y,h,_=>by simp [goodT] at h
  | n + 1,t,ty,fuel,cs,y,h,ht=>by
    simp only [goodT] at h
    split at h
    · rename_i hu
      obtain ⟨b,h1,_⟩:=DataW.trod_bool hu ht
      exact ⟨b,h1,trivial⟩
    · rename_i k k' hu
      have h:k=k':=by simpa using h
      subst h
      obtain ⟨m,h1,_,h2⟩:=DataW.trod_int hu ht
      exact ⟨m,h1,h2⟩
    · rename_i hu
      obtain ⟨s,h1,_,h2⟩:=DataW.trod_string hu ht
      exact ⟨s,h1,h2⟩
    · rename_i e ty' hu
      simp only [Bool.and_eq_true,Nat.ble_eq] at h
      obtain ⟨⟨h1,h2⟩,h3⟩:=h
      have h2:=Nat.eq_of_beq_eq_true h2
      rcases DataW.trod_slice hu ht with ⟨h0,_⟩ | ⟨a,len,cap,elems,rest,m,_,rfl,_,hb,hl,hm,hlen,hel,_⟩
      · exact ⟨[],⟨none,0,h0,Nat.le_refl _,fun i hi=>absurd hi (Nat.not_lt_zero i)⟩,by simp,fun x hx=>by cases hx⟩
      · have each:∀ i,i < len→∃ (x:ty'.den) (vs:List Value),a.spot=none∧Mem w a.block (a.off + i * ty'.sz) vs∧rep w (fun _=>True) ty' x vs∧wf ty' x:=by
          intro i hi
          have key:∀ i,i < len→∃ vs,w.cells? 0 (a.add (i * P.cellsOf e)) (P.cellsOf e)=some vs∧∃ y,DataW.trod enc P w 0 (fun _=>true) true m e vs=some y:=by
            intro i hi
            have h4:=hel i hi
            rw [List.getElem?_eq_getElem (by omega)] at h4
            simp only [Option.bind_eq_some_iff] at h4
            obtain ⟨vs,h5,h6⟩:=h4
            exact ⟨vs,h5,_,h6⟩
          obtain ⟨vs,h5,y,h6⟩:=key i hi
          obtain ⟨vs0,h50,_⟩:=key 0 (by omega)
          have hs:a.spot=none:=by
            obtain ⟨l0,_,c0⟩:=mem_of_cells (by omega) h50
            rw [List.getElem?_eq_getElem (by omega)] at c0
            have:=spot_none c0
            rw [Nat.zero_mul] at this
            exact this
          obtain ⟨x,hr,hwf⟩:=rep_of_trod h1 h6
          refine ⟨x,vs,hs,?_,hr,hwf⟩
          obtain ⟨_,hm',_⟩:=mem_of_cells (by omega) h5
          have e1:(a.add (i * P.cellsOf e)).block=a.block:=by unfold Addr.add; split<;>rfl
          have e2:(a.add (i * P.cellsOf e)).off=a.off + i * ty'.sz:=by
            rw [h2]
            unfold Addr.add
            split
            · rename_i h0; rw [h0]; rfl
            · rfl
          rw [e1,e2] at hm'
          exact hm'
        have hx:∃ l:List ty'.den,l.length=len∧∀ i (h:i < l.length),a.spot=none∧(∃ vs,Mem w a.block (a.off + i * ty'.sz) vs∧rep w (fun _=>True) ty' l[i] vs)∧wf ty' l[i] := by
          classical
          refine ⟨(List.range len).attach.map fun i=>Classical.choose (each i.1 (List.mem_range.1 i.2)),by simp,fun i hi=>?_⟩
          have hi':i < len:=by simpa using hi
          obtain ⟨vs,g1,g2,g3,g4⟩:=Classical.choose_spec (each i hi')
          simp only [List.getElem_map,List.getElem_attach,List.getElem_range]
          exact ⟨g1,⟨vs,g2,g3⟩,g4⟩
        obtain ⟨l,hll,hx⟩:=hx
        refine ⟨l,⟨some a,cap,by rw [hll],by omega,fun i hi=>?_⟩,by omega,fun x hxm=>?_⟩
        · obtain ⟨g1,⟨vs,g2,g3⟩,_⟩:=hx i hi
          exact ⟨a,vs,rfl,g1,trivial,g2,g3⟩
        · obtain ⟨i,hi,rfl⟩:=List.getElem_of_mem hxm
          exact (hx i hi).2.2
    · rename_i fs hu
      simp only [Bool.and_eq_true] at h
      obtain ⟨⟨_,h1⟩,h2⟩:=h
      have h2:=Nat.eq_of_beq_eq_true h2
      obtain ⟨xs,m,rfl,_,hl,hlen,hf⟩:=DataW.trod_struct hu ht
      obtain ⟨x,hr,hw⟩:=goodF_rep (g:=goodT P n) (n:=m) (fun h h'=>rep_of_trod h h') h1 (cs:=cs) (by omega) (fun i f hi=>by
        have hi':fs[i]?=some f:=by simpa using hi
        have:=hf i f hi'
        rw [this,List.getElem?_eq_getElem (by have:=(Array.getElem?_eq_some_iff.1 hi').1; omega)]
        exact ⟨_,rfl⟩)
      exact ⟨x,by simpa using hr,hw⟩
    · cases h
theorem good_agg {n:Nat} {t:TypeId} {ty:Ty} (h:goodT P n t ty=true) {v:Value} {r:Reach} {b0:Nat} (hv:Value.okWide P w r b0 t v):(ty.isAgg=true→∃ vs,v=.agg vs)∧(ty.isAgg=false→one v):=by
  cases n with
  | zero=>simp [goodT] at h
  | succ n =>
    simp only [goodT] at h
    split at h
    · rename_i hu
      obtain ⟨b,rfl⟩:=okWide_bool hu hv
      exact ⟨fun h=>by simp [Ty.isAgg] at h,fun _=>trivial⟩
    · rename_i k k' hu
      obtain ⟨b,rfl⟩:=okWide_int hu hv
      exact ⟨fun h=>by simp [Ty.isAgg] at h,fun _=>trivial⟩
    · rename_i hu
      obtain ⟨b,rfl⟩:=okWide_string hu hv
      exact ⟨fun h=>by simp [Ty.isAgg] at h,fun _=>trivial⟩
    · rename_i e ty' hu
      obtain ⟨a,l,c,rfl⟩:=okWide_slice hu hv
      exact ⟨fun h=>by simp [Ty.isAgg] at h,fun _=>trivial⟩
    · rename_i fs hu
      simp only [Bool.and_eq_true] at h
      obtain ⟨cs,rfl,_⟩:=okWide_struct hu hv
      exact ⟨fun _=>⟨cs,rfl⟩,fun h'=>by rw [h.1.1] at h'; cases h'⟩
    · cases h
def goodTs (P:Program) (n:Nat):List TypeId→List Ty→Bool
  | [],[] => true
  | t :: ts,ty :: tys=>goodT P n t ty && goodTs P n ts tys
  | _,_=>false
theorem args_of {n:Nat} {r:Reach} {b0:Nat}:∀ {ts:List TypeId} {tys:List Ty} {vs:List Value} {ds:List (DataW H)} {ps:List MemPlace},goodTs P n ts tys=true→DataW.TrodAll enc P w 0 (fun _=>true) true ts vs ds ps →
    (∀ (j:Nat) t v,ts[j]?=some t→vs[j]?=some v→Value.okWide P w r b0 t v)→∃ x:Tup tys,TupRep w (fun _=>True) tys x vs∧wfT tys x
  | [],[],[],_,_,_,_,_=>⟨(),rfl,trivial⟩
  | t :: ts,ty :: tys,v :: vs,d :: ds,ps,hg,ht,hv=>by
    simp only [goodTs,Bool.and_eq_true] at hg
    obtain ⟨p,q,⟨fuel,h1⟩,h2,_⟩:=ht
    obtain ⟨x1,r1,w1⟩:=rep_of_trod hg.1 h1
    obtain ⟨x2,r2,w2⟩:=args_of hg.2 h2 (fun j t v hj hv'=>hv (j + 1) t v (by simpa using hj) (by simpa using hv'))
    have ha:=good_agg hg.1 (hv 0 t v rfl rfl)
    exact ⟨(x1,x2),⟨v,vs,rfl,⟨r1,ha⟩,r2⟩,w1,w2⟩
  | [],_ :: _,_,_,_,h,_,_=>by simp [goodTs] at h
  | _ :: _,[],_,_,_,h,_,_=>by simp [goodTs] at h
  | [],[],_ :: _,_,_,_,h,_=>by simp [DataW.TrodAll] at h
  | _ :: _,_,[],_,_,_,h,_=>by simp [DataW.TrodAll] at h
  | _ :: _,_,_ :: _,[],_,_,h,_=>by simp [DataW.TrodAll] at h
theorem args_behind (hl:laidOutB P=true) {w':World} (hb:Below w.heap.size w w'):∀ {ts:List TypeId} {vs:List Value} {ds:List (DataW H)} {ps:List MemPlace},(ts.all fun t=>P.readableRec t && decide (t < P.types.size))=true→DataW.TrodAll enc P w 0 (fun _=>true) true ts vs ds ps→(∀ x∈ps,x.block < w.heap.size) →
    DataW.TrodAll enc P w' 0 (fun b=>decide (b < w.heap.size)) true ts vs ds ps
  | [],[],[],ps,_,h,_=>h
  | t :: ts,v :: vs,d :: ds,ps,hr,h,hlt=>by
    simp only [List.all_cons,Bool.and_eq_true,decide_eq_true_eq] at hr
    obtain ⟨p,q,h1,h2,rfl⟩:=h
    exact ⟨p,q,Below.trod hl hr.1.1 hr.1.2 h1 hb (fun x hx=>hlt x (List.mem_append.2 (.inl hx))),args_behind hl hb hr.2 h2 (fun x hx=>hlt x (List.mem_append.2 (.inr hx))),rfl⟩
  | [],_ :: _,_,_,_,h,_=>by simp [DataW.TrodAll] at h
  | _ :: _,[],_,_,_,h,_=>by simp [DataW.TrodAll] at h
  | _ :: _,_ :: _,[],_,_,h,_=>by simp [DataW.TrodAll] at h
  | [],[],_ :: _,_,_,h,_=>by simp [DataW.TrodAll] at h
end
theorem law_lifted {C:Checked} (own:ownKnob C.prog.godebug=none) {os:Os} (started:os.Started) {f:FuncId} {fn:Func} (hinit:C.prog.inits.idxOf? f=none) (hf:C.prog.funcs[f]?=some fn) {H:Type} {enc:TypeId×Value→H}
    {s:ChangeSpec} (hvars:s.vars=[]) {tys:List Ty} {F:Tup tys→Option (Tup [.bool])} (hcon:Con C.prog f ⟨tys,[.bool],false,F,none,none⟩) (hall:∀ x,wfT tys x→F x=some (true,())) {dep:Nat} (hgood:goodTs C.prog dep fn.params.toList tys=true)
    (hlaid:laidOutB C.prog=true) (hread:(fn.params.toList.all fun t=>C.prog.readableRec t && decide (t < C.prog.types.size))=true) {tb:TypeId} (hres:fn.resultTypes=#[tb]) (htb:C.prog.underlying tb=some .bool)
    (hs:∀ ds:List (DataW H),ds.length=fn.params.size→s.fn H ds={ results:=[.lit (.bool true)],args:=ds })
    {dom:List PathCond} (hwit:∃ (w:World) (tape:Nat→Question→Nat) (i:Input),w.os=os∧World.Shaped C.prog (w.forCall tape i)∧i.vars=[]∧Input.okWide C.prog (w.forCall tape i) .any w.heap.size f i∧ChangeSpec.pre6 enc C.prog fn s dom false (w.forCall tape i).memory i.args∧({}:Assume).holds C.prog (lone (Frame.enter C.prog f i.args .normal) [] (w.forCall tape i))) :
    ReturnsInHanded {} C os f .any (s.pre6 enc C.prog fn dom false) (s.post enc C.prog fn false true false false):=by
  refine returnsInHanded_of_change_sized own started hinit hf hwit ?_
  intro W base args ds gs before hval hW _ _ _
  have hW':=hW
  obtain ⟨p,q,hA,hV,rfl,hfz,hnd⟩:=hW
  rw [hvars] at hV
  cases gs with
  | cons g gs=>exact absurd hV (by simp [DataW.TrodVars])
  | nil =>
  have hq:q=[] := hV
  subst hq
  obtain ⟨x,hx,hwf⟩:=args_of hgood hA (fun j t v hj hv=>hval j t v (by simpa using hj) (by simpa using hv))
  have hlen:ds.length=fn.params.size:=by
    have key:∀ {ts:List TypeId} {vs:List Value} {ds:List (DataW H)} {ps:List MemPlace},DataW.TrodAll enc C.prog W 0 (fun _=>true) true ts vs ds ps→ds.length=ts.length:=by
      intro ts
      induction ts with
      | nil=>intro vs ds ps h; cases vs<;>cases ds<;>simp_all [DataW.TrodAll]
      | cons t ts ih =>
        intro vs ds ps h
        cases vs with
        | nil=>simp [DataW.TrodAll] at h
        | cons v vs =>
          cases ds with
          | nil=>simp [DataW.TrodAll] at h
          | cons d ds =>
            obtain ⟨p,q,_,h2,_⟩:=h
            simp [ih h2]
    simpa using key hA
  refine (hcon.run rfl (fun _=>True) x (true,()) W args (hall x hwf) hx).mono ?_
  rintro e W' ⟨vs,rfl,hb,hr⟩
  simp only [Bool.false_eq_true,if_false] at hr
  obtain ⟨v,r,rfl,⟨hv,_,h1⟩,hr2⟩:=hr
  have hr2:r=[] := hr2
  subst hr2
  have hv1:=h1 rfl
  have hvb:v=.bool true:=by
    have:v.cells.toList=[.bool true] := hv
    rw [cells_one hv1] at this
    simpa using this
  subst hvb
  have hlt:∀ x∈p,x.block < W.heap.size:=fun x hx=>hW'.lt x (by simpa using hx)
  refine ⟨_,rfl,ds,[],_,[],p,[],hW',?_,?_,?_,hb.frame _,fun h=>by cases h⟩
  · rw [List.append_nil,hs ds hlen,hres]
    exact trodAll_mk1 (RowKit.shut_bool htb true)
  · rw [List.append_nil,hs ds hlen]
    exact args_behind hlaid hb hread hA hlt
  · rw [List.append_nil,hs ds hlen,hvars]
    rfl
end Go.Vm

namespace Go.Vm
def Big (n:Nat):Prop:=18446744073709551616≤n
theorem wrap_eq {a:Int} (h0:-9223372036854775808≤a) (h1:a < 9223372036854775808):IntKind.i64.wrap a=a:=by
  have h:IntKind.i64.wrap a=if (true && decide (a % 18446744073709551616≥9223372036854775808))=true then a % 18446744073709551616 - 18446744073709551616 else a % 18446744073709551616:=rfl
  rw [h]
  by_cases h:a % 18446744073709551616≥9223372036854775808
  · rw [if_pos (by simpa using h)]
    omega
  · rw [if_neg (by simpa using h)]
    omega
def bulk:(t:Ty)→t.den→Nat
  | .str,s=>ByteArray.size s
  | .slice e,l=>List.length l + (List.map (bulk e) l).sum
  | .pair a b,x=>bulk a x.1 + bulk b x.2
  | _,_=>0
def small (m:Nat):(t:Ty)→t.den→Prop
  | .str,s=>ByteArray.size s≤m
  | .slice e,l=>List.length l≤m∧∀ x∈l,small m e x
  | .pair a b,x=>small m a x.1∧small m b x.2
  | _,_=>True
theorem small_of_bulk {m:Nat}:∀ {t:Ty} {x:t.den},bulk t x≤m→small m t x
  | .str,_,h=>h
  | .slice e,l,h=>by
    simp only [bulk] at h
    refine ⟨by omega,fun x hx=>small_of_bulk ?_⟩
    have:bulk e x≤(List.map (bulk e) l).sum:=by
      clear h
      induction l with
      | nil=>cases hx
      | cons y l ih =>
        simp only [List.map_cons,List.sum_cons]
        rcases List.mem_cons.1 hx with rfl | hx
        · omega
        · have:=ih hx; omega
    omega
  | .pair a b,x,h=>by
    simp only [bulk] at h
    exact ⟨small_of_bulk (by omega),small_of_bulk (by omega)⟩
  | .int _,_,_=>trivial
  | .bool,_,_=>trivial
  | .ptr _,_,_=>trivial
  | .unit,_,_=>trivial
def eqD:(t:Ty)→t.den→t.den→Bool
  | .int _,a,b=>(a:Int) == b
  | .bool,a,b=>(a:Bool) == b
  | .str,a,b=>seq a b
  | .slice e,a,b=>(List.length a == List.length b) && (List.zip a b).all fun p=>eqD e p.1 p.2
  | .pair s t,a,b=>eqD s a.1 b.1 && eqD t a.2 b.2
  | .ptr _,_,_=>true
  | .unit,_,_=>true
theorem eqD_refl:∀ (t:Ty) (a:t.den),eqD t a a=true
  | .int _,a=>by simp [eqD]
  | .bool,a=>by simp [eqD]
  | .str,a=>by simp [eqD,seq]
  | .slice e,a=>by
    simp only [eqD,BEq.rfl,Bool.true_and,List.all_eq_true]
    intro p hp
    obtain ⟨i,hi,rfl⟩:=List.getElem_of_mem hp
    simp only [List.getElem_zip]
    exact eqD_refl e _
  | .pair s t,a=>by simp [eqD,eqD_refl s,eqD_refl t]
  | .ptr _,_=>rfl
  | .unit,_=>rfl
theorem runL_succ {S C Q:Type} (B:(S→Option Q)→C→S→Option Q) (cs:C) (k:Nat) (x:S):runL B cs (k + 1) x=B (runL B cs k) cs x:=rfl
theorem runL_pos {S C Q:Type} (B:(S→Option Q)→C→S→Option Q) (cs:C) {k:Nat} (hk:0 < k) (x:S):runL B cs k x=B (runL B cs (k - 1)) cs x:=by
  obtain ⟨m,rfl⟩:∃ m,k=m + 1:=⟨k - 1,by omega⟩
  rfl
def outF {X A E:Type} (g:X→A→A ⊕ E):List X→A→A ⊕ E
  | [],a=>.inl a
  | x :: l,a=>match g x a with
    | .inl a=>outF g l a
    | .inr e=>.inr e
theorem runL_list {S C Q X A E:Type} {B:(S→Option Q)→C→S→Option Q} {cs:C} {l:List X} (st:Nat→A→S) (inv:Nat→A→Prop) (g:X→A→A ⊕ E) (dn:A→Option Q) (ex:E→Option Q)
    (hstep:∀ (next:S→Option Q) (i:Nat) (a:A) (hi:i < l.length),inv i a→(match g l[i] a with | .inl a'=>inv (i + 1) a'∧B next cs (st i a)=next (st (i + 1) a') | .inr e=>B next cs (st i a)=ex e))
    (hend:∀ (next:S→Option Q) (a:A),inv l.length a→B next cs (st l.length a)=dn a) :
    ∀ (d i k:Nat) (a:A),i + d=l.length→d < k→inv i a→runL B cs k (st i a)=Sum.elim dn ex (outF g (l.drop i) a):=by
  intro d
  induction d with
  | zero =>
    intro i k a hi hk ha
    have:i=l.length:=by omega
    subst this
    rw [runL_pos B cs hk,hend _ _ ha,List.drop_length]
    rfl
  | succ d ih =>
    intro i k a hi hk ha
    have hlt:i < l.length:=by omega
    have:=hstep (runL B cs (k - 1)) i a hlt ha
    rw [runL_pos B cs (by omega),List.drop_eq_getElem_cons hlt]
    simp only [outF]
    cases hg:g l[i] a with
    | inl a' =>
      rw [hg] at this
      rw [this.2]
      exact ih (i + 1) (k - 1) a' (by omega) (by omega) this.1
    | inr e =>
      rw [hg] at this
      exact this
def subL (left:Int) (b:Nat):Int:=if (b:Int)≤left then left - b else -1
def KOk (k:Int→Option (Int×Unit)) (b:Nat):Prop:=∀ left,0≤left→left≤1048576→k left=some (subL left b,())
def szStr (s:Nat) (left:Int) (k:Int→Option (Int×Unit)):Option (Int×Unit) :=
  if decide (IntKind.i64.wrap (left - (s:Int)) < 0)=true then some (-1,()) else k (IntKind.i64.wrap (left - (s:Int)))
def szCall (g:Option (Int×Unit)) (k:Int→Option (Int×Unit)):Option (Int×Unit) :=
  g.bind fun y=>if decide (y.1 < 0)=true then some (-1,()) else k y.1
theorem subL_pos {left:Int} {b:Nat} (h:(b:Int)≤left):subL left b=left - b:=if_pos h
theorem subL_neg {left:Int} {b:Nat} (h:¬ (b:Int)≤left):subL left b=-1:=if_neg h
theorem szEnd_ok:KOk (fun left=>some (left,())) 0:=fun left h0 _=>by simp [subL,h0]
theorem szStr_ok {s:Nat} {k:Int→Option (Int×Unit)} {b:Nat} (hs:s≤maxLen) (hk:KOk k b):KOk (fun left=>szStr s left k) (s + b):=by
  intro left h0 h1
  have hm:s≤9223372036854775807:=hs
  simp only [szStr]
  rw [wrap_eq (by omega) (by omega)]
  by_cases hc:left - (s:Int) < 0
  · rw [if_pos (by simpa using hc)]
    simp only [subL]
    rw [if_neg (by omega)]
  · rw [if_neg (by simpa using hc),hk _ (by omega) (by omega)]
    simp only [subL,Option.some.injEq,Prod.mk.injEq,and_true]
    split<;>split<;>omega
theorem szCall_ok {g k:Int→Option (Int×Unit)} {a b:Nat} (hg:KOk g a) (hk:KOk k b):KOk (fun left=>szCall (g left) k) (a + b):=by
  intro left h0 h1
  simp only [szCall]
  rw [hg left h0 h1]
  simp only [Option.bind_some]
  by_cases hc:(a:Int)≤left
  · have:subL left a=left - a:=if_pos hc
    rw [this,if_neg (by simp; omega),hk _ (by omega) (by omega)]
    simp only [subL,Option.some.injEq,Prod.mk.injEq,and_true]
    split<;>split<;>omega
  · have:subL left a=-1:=if_neg hc
    rw [this,if_pos (by decide)]
    simp only [subL]
    rw [if_neg (by omega)]
theorem KOk.congr {k:Int→Option (Int×Unit)} {a b:Nat} (h:KOk k a) (e:a=b):KOk k b:=e ▸ h
def SzOk (t:Ty) (g:t.den→Int→Option (Int×Unit)):Prop:=∀ x,wf t x→KOk (g x) (bulk t x)
abbrev SzConts (R:Type):Type:=((Int×Unit)→Option R)×((Int×Unit)→Option R)×Unit
def patSzB {e:Type} (z:e) (g:e→Int→Option (Int×Unit)) {R:Type} (next:List e×Int×Int×Unit→Option R) (cs:SzConts R) (x:List e×Int×Int×Unit):Option R :=
  if decide (x.2.2.1 < (List.length x.1:Int))=true then
    if decide (0≤x.2.2.1∧x.2.2.1 < (List.length x.1:Int))=true then
      (g (List.getD x.1 (Int.toNat x.2.2.1) z) x.2.1).bind fun y1 =>
      if decide (y1.1 < (0:Int))=true then cs.1 (-1,()) else next (x.1,y1.1,IntKind.i64.wrap (x.2.2.1 + 1),())
    else none
  else cs.2.1 (x.2.1,())
def patSzS {e:Type} (z:e) (g:e→Int→Option (Int×Unit)) (n:Nat) (l:List e) (left:Int):Option (Int×Unit) :=
  if decide (IntKind.i64.wrap (left - (List.length l:Int)) < 0)=true then some (-1,())
  else runL (patSzB z g) ((fun z=>some (z.1,())),(fun z=>some (z.1,())),()) n (l,IntKind.i64.wrap (left - (List.length l:Int)),0,())
theorem patSzB_step {e:Type} {z:e} {g:e→Int→Option (Int×Unit)} {l:List e} {b:e→Nat} (hg:∀ x∈l,KOk (g x) (b x)) (hl:l.length≤maxLen) {k:Nat} {left:Int} (h0:0≤left) (h1:left≤1048576) (hk:l.length < k) {R:Type} (cs:SzConts R) :
    runL (patSzB z g) cs k (l,left,0,())=if ((l.map b).sum:Int)≤left then cs.2.1 (left - (l.map b).sum,()) else cs.1 (-1,()):=by
  have hm:l.length≤9223372036854775807:=hl
  have:=runL_list (B:=patSzB z g) (cs:=cs) (l:=l) (A:=Int) (E:=Unit) (fun i a=>(l,a,(i:Int),())) (fun i a=>0≤a∧a≤1048576) (fun x a=>if (b x:Int)≤a then .inl (a - b x) else .inr ()) (fun a=>cs.2.1 (a,())) (fun _=>cs.1 (-1,()))
    (fun next i a hi ha=>by
      have hb:=hg l[i] (List.getElem_mem hi) a ha.1 ha.2
      have e1:(l.getD (Int.toNat (i:Int)) z)=l[i] := by simp [hi]
      by_cases hc:(b l[i]:Int)≤a
      · simp only [if_pos hc]
        refine ⟨by omega,?_⟩
        simp only [patSzB]
        rw [if_pos (by simpa using hi),if_pos (by simp; omega),e1,hb]
        simp only [Option.bind_some,subL,if_pos hc]
        rw [if_neg (by simp; omega),wrap_eq (by omega) (by omega)]
        simp
      · simp only [if_neg hc]
        simp only [patSzB]
        rw [if_pos (by simpa using hi),if_pos (by simp; omega),e1,hb]
        simp only [Option.bind_some,subL,if_neg hc]
        rw [if_pos (by decide)])
    (fun next a ha=>by
      simp only [patSzB]
      rw [if_neg (by simp)]) l.length 0 k left (by omega) hk ⟨h0,h1⟩
  simp only [List.drop_zero] at this
  refine (show _=_ from this).trans ?_
  clear this hk hm hl hg
  induction l generalizing left with
  | nil=>simp [outF,h0]
  | cons x l ih =>
    simp only [outF,List.map_cons,List.sum_cons]
    by_cases hc:(b x:Int)≤left
    · simp only [if_pos hc]
      rw [ih (by omega) (by omega)]
      have e:((b x + (l.map b).sum:Nat):Int)=(b x:Int) + ((l.map b).sum:Nat):=by omega
      rw [e]
      by_cases h2:(((l.map b).sum:Nat):Int)≤left - b x
      · have e2:left - ((b x:Int) + ((l.map b).sum:Nat))=left - b x - ((l.map b).sum:Nat):=by omega
        rw [if_pos h2,if_pos (by omega),e2]
      · rw [if_neg h2,if_neg (by omega)]
    · simp only [if_neg hc]
      rw [if_neg (by omega)]
      rfl
theorem patSzS_ok {e:Ty} {z:e.den} {g:e.den→Int→Option (Int×Unit)} (hg:SzOk e g) {n:Nat} (hn:Big n):SzOk (.slice e) (patSzS z g n):=by
  rintro l ⟨hl,hx⟩ left h0 h1
  have hm:List.length l≤9223372036854775807:=hl
  have hn:18446744073709551616≤n:=hn
  have hbk:bulk (.slice e) l=List.length l + (List.map (bulk e) l).sum:=rfl
  simp only [patSzS]
  rw [wrap_eq (by omega) (by omega)]
  by_cases hc:left - (List.length l:Int) < 0
  · rw [if_pos (by simpa using hc),subL_neg (by rw [hbk]; omega)]
  · rw [if_neg (by simpa using hc),patSzB_step (b:=bulk e) (fun x hx'=>hg x (hx x hx')) hl (by omega) (by omega) (by omega)]
    by_cases h2:(((List.map (bulk e) l).sum:Nat):Int)≤left - (List.length l:Int)
    · rw [if_pos h2,subL_pos (by rw [hbk]; omega),hbk]
      have e2:left - ((List.length l + (List.map (bulk e) l).sum:Nat):Int)=left - (List.length l:Int) - ((List.map (bulk e) l).sum:Nat):=by omega
      rw [e2]
    · rw [if_neg h2,subL_neg (by rw [hbk]; omega)]
theorem szLen_ok {e:Ty} {g:List e.den→Int→Option (Int×Unit)} (hb:∀ x:e.den,bulk e x=0) (he:∀ l left,g l left=szStr (List.length l) left (fun left=>some (left,()))):SzOk (.slice e) g:=by
  rintro l ⟨hl,_⟩
  have:g l=fun left=>szStr (List.length l) left (fun left=>some (left,())):=funext fun left=>he l left
  rw [this]
  refine (szStr_ok hl szEnd_ok).congr ?_
  simp only [bulk,Nat.add_zero]
  have:List.map (bulk e) l=List.map (fun _=>0) l:=List.map_congr_left fun x _=>hb x
  rw [this]
  have:∀ l:List e.den,(List.map (fun _=>0) l).sum=0:=by
    intro l
    induction l with
    | nil=>rfl
    | cons x l ih=>simp [ih]
  rw [this]
  omega
theorem szStrElem_ok:SzOk .str (fun (s:ByteArray) left=>if decide (IntKind.i64.wrap (left - (ByteArray.size s:Int)) < 0)=true then some (-1,()) else some (IntKind.i64.wrap (left - (ByteArray.size s:Int)),())):=by
  intro s hs
  exact (szStr_ok (s:=ByteArray.size s) hs szEnd_ok).congr (by simp [bulk])
def patSzStrB {R:Type} (next:List ByteArray×Int×Int×Unit→Option R) (cs:SzConts R) (x:List ByteArray×Int×Int×Unit):Option R :=
  if decide (x.2.2.1 < (List.length x.1:Int))=true then
    if decide (0≤x.2.2.1∧x.2.2.1 < (List.length x.1:Int))=true then
      if decide (IntKind.i64.wrap (x.2.1 - (ByteArray.size (List.getD x.1 (Int.toNat x.2.2.1) (⟨#[]⟩:ByteArray)):Int)) < (0:Int))=true then cs.1 (-1,())
      else next (x.1,IntKind.i64.wrap (x.2.1 - (ByteArray.size (List.getD x.1 (Int.toNat x.2.2.1) (⟨#[]⟩:ByteArray)):Int)),IntKind.i64.wrap (x.2.2.1 + 1),())
    else none
  else cs.2.1 (x.2.1,())
def patSzStrS (n:Nat) (l:List ByteArray) (left:Int):Option (Int×Unit) :=
  if decide (IntKind.i64.wrap (left - (List.length l:Int)) < 0)=true then some (-1,())
  else runL patSzStrB ((fun z=>some (z.1,())),(fun z=>some (z.1,())),()) n (l,IntKind.i64.wrap (left - (List.length l:Int)),0,())
def strElem (s:ByteArray) (left:Int):Option (Int×Unit):=if decide (IntKind.i64.wrap (left - (ByteArray.size s:Int)) < 0)=true then some (-1,()) else some (IntKind.i64.wrap (left - (ByteArray.size s:Int)),())
theorem patSzStrB_eq {R:Type}:@patSzStrB R=@patSzB ByteArray (⟨#[]⟩:ByteArray) strElem R:=by
  funext next cs x
  simp only [patSzStrB,patSzB]
  by_cases h1:decide (x.2.2.1 < (List.length x.1:Int))=true
  · rw [if_pos h1,if_pos h1]
    by_cases h2:decide (0≤x.2.2.1∧x.2.2.1 < (List.length x.1:Int))=true
    · rw [if_pos h2,if_pos h2]
      simp only [strElem]
      by_cases h3:decide (IntKind.i64.wrap (x.2.1 - (ByteArray.size (List.getD x.1 (Int.toNat x.2.2.1) (⟨#[]⟩:ByteArray)):Int)) < (0:Int))=true
      · rw [if_pos h3,if_pos h3]
        rfl
      · rw [if_neg h3,if_neg h3]
        simp only [Option.bind_some]
        rw [if_neg h3]
    · rw [if_neg h2,if_neg h2]
  · rw [if_neg h1,if_neg h1]
theorem patSzStrS_ok {n:Nat} (hn:Big n):SzOk (.slice .str) (patSzStrS n):=by
  have:patSzStrS n=patSzS (⟨#[]⟩:ByteArray) strElem n:=by
    funext l left
    simp only [patSzStrS,patSzS,patSzStrB_eq]
  rw [this]
  exact patSzS_ok szStrElem_ok hn
abbrev ToConts (e R:Type):Type:=((List e×Unit)→Option R)×Unit
def patToB {e:Type} (z:e) (g:e→Option (e×Unit)) {R:Type} (next:List e×List e×Int×Unit→Option R) (cs:ToConts e R) (x:List e×List e×Int×Unit):Option R :=
  if decide (x.2.2.1 < (List.length x.1:Int))=true then
    if decide (0≤x.2.2.1∧x.2.2.1 < (List.length x.1:Int))=true then
      (g (List.getD x.1 (Int.toNat x.2.2.1) z)).bind fun y1 =>
      if decide (0≤x.2.2.1∧x.2.2.1 < (List.length x.2.1:Int))=true then
        next (x.1,List.set x.2.1 (Int.toNat x.2.2.1) y1.1,IntKind.i64.wrap (x.2.2.1 + 1),())
      else none
    else none
  else cs.1 (x.2.1,())
def patToS {e:Type} (z:e) (sz:Int) (g:e→Option (e×Unit)) (n:Nat) (l:List e):Option (List e×Unit) :=
  if decide (0≤(List.length l:Int)∧(List.length l:Int)≤(List.length l:Int)∧(List.length l:Int) * sz≤140737488355328)=true then
    runL (patToB z g) ((fun z=>some (z.1,())),()) n (l,List.replicate (Int.toNat (List.length l:Int)) z,0,())
  else none
theorem patToB_all {e:Type} {z:e} {g:e→Option (e×Unit)} {l:List e} (hg:∀ x∈l,g x=some (x,())) (hl:l.length≤1048576) {R:Type} (cs:ToConts e R) :
    ∀ (d i k:Nat) (o:List e),i + d=l.length→d < k→o.length=l.length→o.take i=l.take i→runL (patToB z g) cs k (l,o,(i:Int),())=cs.1 (l,()):=by
  intro d
  induction d with
  | zero =>
    intro i k o hi hk ho ht
    have:i=l.length:=by omega
    subst this
    rw [runL_pos _ _ hk]
    simp only [patToB]
    rw [if_neg (by simp)]
    have:o=l:=by
      rw [← List.take_length (l:=o),ho,ht,List.take_length]
    rw [this]
  | succ d ih =>
    intro i k o hi hk ho ht
    have hlt:i < l.length:=by omega
    rw [runL_pos _ _ (by omega)]
    simp only [patToB]
    have e1:(l.getD (Int.toNat (i:Int)) z)=l[i] := by simp [hlt]
    rw [if_pos (by simpa using hlt),if_pos (by simp; omega),e1,hg _ (List.getElem_mem hlt)]
    simp only [Option.bind_some]
    rw [if_pos (by simp; omega),wrap_eq (by omega) (by omega)]
    have e2:(i:Int) + 1=((i + 1:Nat):Int):=by omega
    rw [e2]
    refine ih (i + 1) (k - 1) _ (by omega) (by omega) (by simp [ho]) ?_
    simp only [Int.toNat_natCast]
    apply List.ext_getElem?
    intro j
    by_cases hj:j < i + 1
    · rw [List.getElem?_take_of_lt hj,List.getElem?_take_of_lt hj]
      by_cases hji:j=i
      · subst hji
        rw [List.getElem?_set_self (by omega),List.getElem?_eq_getElem hlt]
      · rw [List.getElem?_set_ne (by omega)]
        have:(o.take i)[j]?=(l.take i)[j]? := by rw [ht]
        rw [List.getElem?_take_of_lt (by omega),List.getElem?_take_of_lt (by omega)] at this
        exact this
    · rw [List.getElem?_eq_none (by simp; omega),List.getElem?_eq_none (by simp; omega)]
theorem patToS_ok {e:Type} {z:e} {sz:Int} {g:e→Option (e×Unit)} {l:List e} (hg:∀ x∈l,g x=some (x,())) (hl:l.length≤1048576) (h0:0≤sz) (h1:sz≤1000000) {n:Nat} (hn:Big n):patToS z sz g n l=some (l,()):=by
  have hn:18446744073709551616≤n:=hn
  simp only [patToS]
  rw [if_pos]
  · exact patToB_all hg hl _ l.length 0 n _ (by omega) (by omega) (by simp) (by simp)
  · simp only [decide_eq_true_eq]
    refine ⟨by omega,by omega,?_⟩
    have h2:(l.length:Int) * sz≤1048576 * sz:=Int.mul_le_mul_of_nonneg_right (by omega) h0
    have h3:1048576 * sz≤1048576 * 1000000:=Int.mul_le_mul_of_nonneg_left h1 (by omega)
    omega
def eqLeaf (c:Bool) (k:Option (Bool×Unit)):Option (Bool×Unit):=if c=true then some (false,()) else k
def eqCall (g k:Option (Bool×Unit)):Option (Bool×Unit):=g.bind fun y=>if (!y.1)=true then some (false,()) else k
theorem eqLeaf_not (s:Bool) {b:Bool} {k:Option (Bool×Unit)} (hk:k=some (b,())):eqLeaf (!s) k=some (s && b,()):=by
  subst hk
  cases s<;>rfl
theorem eqLeaf_ok {c b:Bool} {k:Option (Bool×Unit)} (hk:k=some (b,())):eqLeaf c k=some (!c && b,()):=by
  subst hk
  cases c<;>rfl
theorem eqCall_ok {g k:Option (Bool×Unit)} {a b:Bool} (hg:g=some (a,())) (hk:k=some (b,())):eqCall g k=some (a && b,()):=by
  subst hg; subst hk
  cases a<;>rfl
abbrev EqConts (R:Type):Type:=((Bool×Unit)→Option R)×(Unit→Option R)×Unit
def patEqB {e:Type} (z:e) (g:e→e→Option (Bool×Unit)) {R:Type} (next:List e×List e×Int×Unit→Option R) (cs:EqConts R) (x:List e×List e×Int×Unit):Option R :=
  if decide (x.2.2.1 < (List.length x.1:Int))=true then
    if (!true || decide (0≤x.2.2.1∧x.2.2.1 < (List.length x.1:Int)))=true then
      if (!true || decide (0≤x.2.2.1∧x.2.2.1 < (List.length x.2.1:Int)))=true then
        (g (List.getD x.1 (Int.toNat x.2.2.1) z) (List.getD x.2.1 (Int.toNat x.2.2.1) z)).bind fun y1 =>
        if (!y1.1)=true then cs.1 (false,()) else next (x.1,x.2.1,IntKind.i64.wrap (x.2.2.1 + 1),())
      else none
    else none
  else cs.2.1 ()
def patEqS {e:Type} (z:e) (g:e→e→Option (Bool×Unit)) (n:Nat) (a b:List e):Option (Bool×Unit) :=
  if ((List.length a:Int) != (List.length b:Int))=true then some (false,())
  else runL (patEqB z g) ((fun z=>some (z.1,())),(fun _=>some (true,())),()) n (a,b,0,())
theorem patEqS_ok {e:Ty} {z:e.den} {g:e.den→e.den→Option (Bool×Unit)} {a b:List e.den} (hg:∀ x∈a,∀ y,g x y=some (eqD e x y,())) (hl:a.length≤1048576) {n:Nat} (hn:Big n):patEqS z g n a b=some (eqD (.slice e) a b,()):=by
  have hn:18446744073709551616≤n:=hn
  simp only [patEqS]
  by_cases hlen:a.length=b.length
  · rw [if_neg (by simp [hlen])]
    have hz:(a.zip b).length=a.length:=by simp [hlen]
    have:=runL_list (B:=patEqB z g) (cs:=((fun z=>some (z.1,())),(fun _=>some (true,())),())) (l:=a.zip b) (A:=Unit) (E:=Unit) (fun i _=>(a,b,(i:Int),())) (fun _ _=>True) (fun p _=>if eqD e p.1 p.2=true then .inl () else .inr ()) (fun _=>some (true,())) (fun _=>some (false,()))
      (fun next i _ hi _=>by
        have hi:i < a.length:=by omega
        have hib:i < b.length:=by omega
        have e1:(a.getD (Int.toNat (i:Int)) z)=a[i] := by simp [hi]
        have e2:(b.getD (Int.toNat (i:Int)) z)=b[i] := by simp [hib]
        have hb:=hg a[i] (List.getElem_mem hi) b[i]
        simp only [List.getElem_zip]
        cases hc:eqD e a[i] b[i] with
        | true =>
          simp only [if_true,true_and]
          simp only [patEqB]
          rw [if_pos (by simpa using hi),if_pos (by simp; omega),if_pos (by simp; omega),e1,e2,hb,hc,wrap_eq (by omega) (by omega)]
          simp
        | false =>
          simp only [Bool.false_eq_true,if_false]
          simp only [patEqB]
          rw [if_pos (by simpa using hi),if_pos (by simp; omega),if_pos (by simp; omega),e1,e2,hb,hc]
          simp)
      (fun next _ _=>by
        simp only [patEqB,hz]
        rw [if_neg (by simp)]) a.length 0 n () (by omega) (by omega) trivial
    simp only [List.drop_zero] at this
    refine (show _=_ from this).trans ?_
    have key:∀ l:List (e.den×e.den),Sum.elim (fun _=>some (true,())) (fun _=>some (false,())) (outF (fun (p:e.den×e.den) (_:Unit)=>if eqD e p.1 p.2=true then (.inl ():Unit ⊕ Unit) else .inr ()) l ())=some (l.all fun p=>eqD e p.1 p.2,()):=by
      intro l
      induction l with
      | nil=>rfl
      | cons p l ih =>
        simp only [outF,List.all_cons]
        cases hc:eqD e p.1 p.2 with
        | true=>simpa using ih
        | false=>simp
    rw [key]
    simp [eqD,hlen]
  · rw [if_pos (by simp; omega)]
    simp [eqD,hlen]
end Go.Vm

namespace Go.Vm
theorem runL_find {S C Q X:Type} {B:(S→Option Q)→C→S→Option Q} {cs:C} {l:List X} (st:Nat→S) (p:X→Bool) (found:Nat→Option Q) (dn:Option Q)
    (hstep:∀ (next:S→Option Q) (i:Nat) (hi:i < l.length),B next cs (st i)=if p l[i]=true then found i else next (st (i + 1)))
    (hend:∀ (next:S→Option Q),B next cs (st l.length)=dn) {k:Nat} (hk:l.length < k):runL B cs k (st 0)=(l.findIdx? p).elim dn found:=by
  have key:∀ (d i k:Nat),i + d=l.length→d < k→runL B cs k (st i)=((l.drop i).findIdx? p).elim dn (fun j=>found (j + i)):=by
    intro d
    induction d with
    | zero =>
      intro i k hi hk
      have:i=l.length:=by omega
      subst this
      rw [runL_pos B cs hk,hend,List.drop_length]
      rfl
    | succ d ih =>
      intro i k hi hk
      have hlt:i < l.length:=by omega
      rw [runL_pos B cs (by omega),hstep _ i hlt,List.drop_eq_getElem_cons hlt,List.findIdx?_cons]
      cases hp:p l[i] with
      | true=>simp
      | false =>
        simp only [Bool.false_eq_true,if_false]
        rw [ih (i + 1) (k - 1) (by omega) (by omega)]
        cases (l.drop (i + 1)).findIdx? p with
        | none=>rfl
        | some j=>simp only [Option.map_some,Option.elim_some]; congr 1; omega
  have:=key l.length 0 k (by omega) hk
  simpa using this
theorem runL_any {S C Q:Type} {B:(S→Option Q)→C→S→Option Q} {cs:C} {len:Nat} (st:Nat→S) (q:Nat→Bool) (bad ok:Option Q)
    (hstep:∀ (next:S→Option Q) (i:Nat) (hi:i < len),B next cs (st i)=if q i=true then bad else next (st (i + 1)))
    (hend:∀ (next:S→Option Q),B next cs (st len)=ok) {k:Nat} (hk:len < k):runL B cs k (st 0)=if (List.range len).any q=true then bad else ok:=by
  have:=runL_find (B:=B) (cs:=cs) (l:=List.range len) st q (fun _=>bad) ok (fun next i hi=>by
    have hi':i < len:=by simpa using hi
    rw [hstep next i hi',List.getElem_range]) (fun next=>by rw [List.length_range]; exact hend next) (k:=k) (by simpa using hk)
  rw [this]
  cases hf:(List.range len).findIdx? q with
  | none =>
    rw [List.findIdx?_eq_none_iff] at hf
    have:(List.range len).any q=false:=by rw [List.any_eq_false]; exact fun x hx=>by simp [hf x hx]
    simp [this]
  | some i =>
    have:(List.range len).any q=true:=by
      rw [List.findIdx?_eq_some_iff_getElem] at hf
      obtain ⟨h,hp,_⟩:=hf
      exact List.any_eq_true.2 ⟨_,List.getElem_mem h,hp⟩
    simp [this]
theorem runL_fold {S C Q A:Type} {B:(S→Option Q)→C→S→Option Q} {cs:C} {len:Nat} (st:Nat→A→S) (inv:Nat→A→Prop) (g:Nat→A→A) (dn:A→Option Q)
    (hstep:∀ (next:S→Option Q) (i:Nat) (a:A),i < len→inv i a→inv (i + 1) (g i a)∧B next cs (st i a)=next (st (i + 1) (g i a)))
    (hend:∀ (next:S→Option Q) (a:A),inv len a→B next cs (st len a)=dn a) {k:Nat} (hk:len < k) {a:A} (ha:inv 0 a):runL B cs k (st 0 a)=dn ((List.range len).foldl (fun a i=>g i a) a):=by
  have:=runL_list (B:=B) (cs:=cs) (l:=List.range len) (E:=Unit) st inv (fun i a=>.inl (g i a)) dn (fun _=>none) (fun next i a hi ha=>by
    have hi':i < len:=by simpa using hi
    simp only [List.getElem_range]
    exact hstep next i a hi' ha) (fun next a ha=>by rw [List.length_range] at ha ⊢; exact hend next a ha) len 0 k a (by simp) hk ha
  rw [this,List.drop_zero]
  have key:∀ (l:List Nat) (a:A),outF (fun i a=>(.inl (g i a):A ⊕ Unit)) l a=.inl (l.foldl (fun a i=>g i a) a):=by
    intro l
    induction l with
    | nil=>intro a; rfl
    | cons x l ih=>intro a; exact ih _
  rw [key]
  rfl
theorem runL_out {S C Q A E:Type} {B:(S→Option Q)→C→S→Option Q} {cs:C} {len:Nat} (st:Nat→A→S) (inv:Nat→A→Prop) (g:Nat→A→A ⊕ E) (dn:A→Option Q) (ex:E→Option Q)
    (hstep:∀ (next:S→Option Q) (i:Nat) (a:A),i < len→inv i a→(match g i a with | .inl a'=>inv (i + 1) a'∧B next cs (st i a)=next (st (i + 1) a') | .inr e=>B next cs (st i a)=ex e))
    (hend:∀ (next:S→Option Q) (a:A),inv len a→B next cs (st len a)=dn a) {k:Nat} (hk:len < k) {a:A} (ha:inv 0 a):runL B cs k (st 0 a)=Sum.elim dn ex (outF g (List.range len) a):=by
  have:=runL_list (B:=B) (cs:=cs) (l:=List.range len) st inv g dn ex (fun next i a hi ha=>by
    have hi':i < len:=by simpa using hi
    simp only [List.getElem_range]
    exact hstep next i a hi' ha) (fun next a ha=>by rw [List.length_range] at ha ⊢; exact hend next a ha) len 0 k a (by simp) hk ha
  rw [this,List.drop_zero]
theorem wrap_u8 {a:Int} (h0:0≤a) (h1:a < 256):IntKind.u8.wrap a=a:=by
  have h:IntKind.u8.wrap a=if (false && decide (a % 256≥128))=true then a % 256 - 256 else a % 256:=rfl
  rw [h]
  simp only [Bool.false_and,Bool.false_eq_true,if_false]
  omega
theorem byteAt_lt (s:ByteArray) (i:Int):0≤byteAt s i∧byteAt s i < 256:=by
  unfold byteAt
  have:=UInt8.toNat_lt (s.data.toList.getD i.toNat 0)
  omega
theorem outF_inv {X A E:Type} {g:X→A→A ⊕ E} {p:A→Prop} {l:List X} (h:∀ x∈l,∀ a,p a→∀ a',g x a=.inl a'→p a'):∀ {a a':A},p a→outF g l a=.inl a'→p a':=by
  induction l with
  | nil=>intro a a' ha h; cases h; exact ha
  | cons x l ih =>
    intro a a' ha he
    simp only [outF] at he
    split at he
    · rename_i a1 h1
      exact ih (fun y hy=>h y (by simp [hy])) (h x (by simp) a ha a1 h1) he
    · cases he
theorem wrap_next {i n:Nat} (hi:i < n) (hn:n≤1048576):IntKind.i64.wrap ((i:Int) + 1)=((i + 1:Nat):Int):=by
  rw [wrap_eq (by omega) (by omega)]
  omega
theorem lt_dec {i n:Nat} (hi:i < n):decide ((i:Int) < (n:Int))=true:=decide_eq_true (by omega)
theorem lt_dec' {n:Nat}:decide ((n:Int) < (n:Int))=false:=decide_eq_false (by omega)
theorem in_dec {i n:Nat} (hi:i < n):decide (0≤(i:Int)∧(i:Int) < (n:Int))=true:=decide_eq_true (by omega)
def fidx {X:Type} (p:X→Bool) (l:List X):Int:=(l.findIdx? p).elim (-1) (fun i=>(i:Int))
theorem findIdx?_lt {X:Type} {p:X→Bool} {l:List X} {i:Nat} (h:l.findIdx? p=some i):i < l.length:=by
  rw [List.findIdx?_eq_some_iff_findIdx_eq] at h
  exact h.1
theorem fidx_some {X:Type} {p:X→Bool} {l:List X} {i:Nat} (h:l.findIdx? p=some i):fidx p l=(i:Int):=by simp [fidx,h]
theorem fidx_none {X:Type} {p:X→Bool} {l:List X} (h:l.findIdx? p=none):fidx p l=-1:=by simp [fidx,h]
theorem getD_nat {X:Type} (l:List X) (i:Nat) (z:X) (h:i < l.length):l.getD (Int.toNat (i:Int)) z=l[i] := by simp [h]
theorem guarded {α:Type} {c:Bool} {a b:α}:(if c=true then some a else some b)=some (if c=true then a else b):=by cases c<;>rfl
theorem bytesLess_irrefl:∀ l:List UInt8,Op.bytesLess l l=false
  | [] => rfl
  | x :: l=>by simp [Op.bytesLess,bytesLess_irrefl l]
theorem bytesLess_trans:∀ {a b c:List UInt8},Op.bytesLess a b=true→Op.bytesLess b c=true→Op.bytesLess a c=true
  | [],_,[],h,h'=>by rename_i b; cases b<;>simp [Op.bytesLess] at h h'
  | [],_,_ :: _,_,_=>rfl
  | _ :: _,[],_,h,_=>by simp [Op.bytesLess] at h
  | _ :: _,_ :: _,[],_,h=>by simp [Op.bytesLess] at h
  | x :: a,y :: b,z :: c,h,h'=>by
    simp only [Op.bytesLess,Bool.or_eq_true,Bool.and_eq_true,decide_eq_true_eq,beq_iff_eq] at h h' ⊢
    rcases h with h | ⟨rfl,h⟩
    · rcases h' with h' | ⟨rfl,h'⟩
      · exact .inl (UInt8.lt_trans h h')
      · exact .inl h
    · rcases h' with h' | ⟨rfl,h'⟩
      · exact .inl h'
      · exact .inr ⟨rfl,bytesLess_trans h h'⟩
theorem slt_trans {a b c:ByteArray} (h:slt a b=true) (h':slt b c=true):slt a c=true:=bytesLess_trans h h'
theorem slt_not_seq {a b:ByteArray} (h:slt a b=true):seq a b=false:=by
  cases hs:seq a b with
  | false=>rfl
  | true =>
    have:a.toList=b.toList:=by simpa [seq] using hs
    simp only [slt,this,bytesLess_irrefl] at h
    cases h
theorem seq_eq {a b:ByteArray} (h:seq a b=true):a.toList=b.toList:=by simpa [seq] using h
theorem seq_trans {a b c:ByteArray} (h:seq a b=true) (h':seq b c=true):seq a c=true:=by
  simp only [seq,beq_iff_eq] at h h' ⊢
  rw [h,h']
theorem seq_iff {a b:ByteArray}:seq a b=true↔a=b:=by
  constructor
  · intro h
    have h1:=seq_eq h
    rw [ByteArray.toList_eq,ByteArray.toList_eq] at h1
    cases a; cases b
    simp only [ByteArray.mk.injEq]
    exact Array.toList_inj.1 h1
  · rintro rfl
    simp [seq]
theorem seq_refl (a:ByteArray):seq a a=true:=by simp [seq]
theorem seq_comm (a b:ByteArray):seq a b=seq b a:=by
  unfold seq
  rw [Bool.eq_iff_iff,beq_iff_eq,beq_iff_eq]
  exact eq_comm
end Go.Vm

namespace Go.Vm
def wt:(t:Ty)→t.den→Nat
  | .slice e,l=>List.length l + (List.map (wt e) l).sum
  | .pair a b,x=>wt a x.1 + wt b x.2
  | .unit,_=>0
  | _,_=>1
theorem wt_int {k:IntKind} {x:Int}:wt (.int k) x=1:=rfl
theorem wt_bool {x:Bool}:wt .bool x=1:=rfl
theorem wt_str {x:ByteArray}:wt .str x=1:=rfl
theorem wt_unit {x:Unit}:wt .unit x=0:=rfl
theorem wt_pair {a b:Ty} {x:a.den×b.den}:wt (.pair a b) x=wt a x.1 + wt b x.2:=rfl
theorem wt_slice {e:Ty} {l:List e.den}:wt (.slice e) l=l.length + (l.map (wt e)).sum:=rfl
def MX:Int:=4611686018427387904
theorem wrapM {a:Int} (h0:0≤a) (h1:a≤4611686018427389000):IntKind.i64.wrap a=a:=wrap_eq (by omega) (by omega)
def MarkOk (t:Ty) (mk:t.den→Int→Option (t.den×Int×Unit)) (hd:t.den→Int→Option (Int×Unit)):Prop :=
  ∀ (x:t.den) (k:Int),1≤k→k + wt t x≤4611686018427387904→∃ (y:t.den) (k':Int),k≤k'∧k'≤k + wt t x∧mk x k=some (y,k',())∧hd y k=some (k',())
def ElOk (e:Ty) {C1 C2 Q1 Q2:Type} (B:(List e.den×Int×Int×Unit→Option Q1)→C1→List e.den×Int×Int×Unit→Option Q1) (cs1:C1) (H:(List e.den×Int×Int×Unit→Option Q2)→C2→List e.den×Int×Int×Unit→Option Q2) (cs2:C2):Prop :=
  ∀ (x:e.den) (k:Int),1≤k→k + wt e x≤4611686018427387904→∃ (y:e.den) (k':Int),k≤k'∧k'≤k + wt e x ∧
    (∀ (next:List e.den×Int×Int×Unit→Option Q1) (l:List e.den) (i:Nat),i < l.length→l.length≤4611686018427387904→(∀ z,l.getD i z=x)→B next cs1 (l,k,(i:Int),())=next (l.set i y,k',((i:Int) + 1),())) ∧
    ∀ (next:List e.den×Int×Int×Unit→Option Q2) (l:List e.den) (i:Nat),i < l.length→l.length≤4611686018427387904→(∀ z,l.getD i z=y)→H next cs2 (l,k,(i:Int),())=next (l,k',((i:Int) + 1),())
theorem getD_pre {α:Type} (pre:List α) (x:α) (s:List α) (z:α):(pre++x :: s).getD pre.length z=x:=by simp
theorem set_pre {α:Type} (pre:List α) (x y:α) (s:List α):(pre++x :: s).set pre.length y=pre++[y]++s:=by simp
theorem marks_run {e:Ty} {C1 C2 Q1 Q2:Type} {B:(List e.den×Int×Int×Unit→Option Q1)→C1→List e.den×Int×Int×Unit→Option Q1} {cs1:C1} {H:(List e.den×Int×Int×Unit→Option Q2)→C2→List e.den×Int×Int×Unit→Option Q2} {cs2:C2}
    {dn:List e.den→Int→Option Q1} {hd:Int→Option Q2} (hel:ElOk e B cs1 H cs2) (h1:∀ next l k,B next cs1 (l,k,(List.length l:Int),())=dn l k) (h2:∀ next l k,H next cs2 (l,k,(List.length l:Int),())=hd k) :
    ∀ (s:List e.den) (k:Int),1≤k→k + wt (.slice e) s≤4611686018427387904→∃ (s':List e.den) (k':Int),k≤k'∧k'≤k + wt (.slice e) s∧s'.length=s.length ∧
      (∀ (pre:List e.den) (m:Nat),pre.length + s.length≤4611686018427387904→s.length < m→runL B cs1 m (pre++s,k,(pre.length:Int),())=dn (pre++s') k') ∧
      ∀ (pre:List e.den) (m:Nat),pre.length + s.length≤4611686018427387904→s.length < m→runL H cs2 m (pre++s',k,(pre.length:Int),())=hd k':=by
  intro s
  induction s with
  | nil =>
    intro k hk hw
    refine ⟨[],k,Int.le_refl _,by omega,rfl,fun pre m _ hm=>?_,fun pre m _ hm=>?_⟩
    · rw [runL_pos _ _ (by simpa using hm),List.append_nil]; exact h1 _ _ _
    · rw [runL_pos _ _ (by simpa using hm),List.append_nil]; exact h2 _ _ _
  | cons x s ih =>
    intro k hk hw
    have e1:(wt (.slice e) (x :: s):Int)=1 + wt e x + wt (.slice e) s:=by
      rw [wt_slice,wt_slice]
      simp only [List.length_cons,List.map_cons,List.sum_cons]
      omega
    rw [e1] at hw
    obtain ⟨y,k1,g1,g2,gB,gH⟩:=hel x k hk (by omega)
    obtain ⟨s',k2,i1,i2,il,iB,iH⟩:=ih k1 (by omega) (by omega)
    refine ⟨y :: s',k2,by omega,by omega,by simp [il],fun pre m hp hm=>?_,fun pre m hp hm=>?_⟩
    · simp only [List.length_cons] at hp hm
      rw [runL_pos _ _ (by omega),gB _ _ _ (by simp) (by simp; omega) (fun z=>getD_pre pre x s z),set_pre]
      have:=iB (pre++[y]) (m - 1) (by simp; omega) (by omega)
      simp only [List.length_append,List.length_cons,List.length_nil,Nat.zero_add,Int.natCast_add,Int.cast_ofNat_Int] at this
      rw [this]
      simp
    · simp only [List.length_cons] at hp hm
      rw [runL_pos _ _ (by omega),gH _ _ _ (by simp) (by simp; omega) (fun z=>getD_pre pre y s' z)]
      have:=iH (pre++[y]) (m - 1) (by simp; omega) (by omega)
      simp only [List.length_append,List.length_cons,List.length_nil,Nat.zero_add,Int.natCast_add,Int.cast_ofNat_Int,List.append_assoc,List.cons_append,List.nil_append] at this
      exact this
theorem markS_ok {e:Ty} {C1 C2:Type} {B:(List e.den×Int×Int×Unit→Option (List e.den×Int×Unit))→C1→List e.den×Int×Int×Unit→Option (List e.den×Int×Unit)} {cs1:C1} {H:(List e.den×Int×Int×Unit→Option (Int×Unit))→C2→List e.den×Int×Int×Unit→Option (Int×Unit)} {cs2:C2}
    {n:Nat} (hn:Big n) (hel:ElOk e B cs1 H cs2) (h1:∀ next l k,B next cs1 (l,k,(List.length l:Int),())=some (l,k,())) (h2:∀ next l k,H next cs2 (l,k,(List.length l:Int),())=some (k,())) :
    MarkOk (.slice e) (fun x k=>runL B cs1 n (x,k,0,())) (fun y k=>runL H cs2 n (y,k,0,())):=by
  intro x k hk hw
  have hn:18446744073709551616≤n:=hn
  obtain ⟨y,k',g1,g2,gl,gB,gH⟩:=marks_run (dn:=fun l k=>some (l,k,())) (hd:=fun k=>some (k,())) hel h1 h2 x k hk hw
  rw [wt_slice] at hw
  have:=gB [] n (by simp only [List.length_nil]; omega) (by omega)
  have:=gH [] n (by simp only [List.length_nil]; omega) (by omega)
  exact ⟨y,k',g1,g2,by assumption,by assumption⟩
theorem seq_same (s:ByteArray):seq s s=true:=by simp [seq]
theorem getD_set_at {α:Type} {l:List α} {i:Nat} (h:i < l.length) (y z:α):(l.set i y).getD i z=y:=by simp [h]
theorem ofBytes_one (a:Int):ByteArray.size (ofBytes [a])=1:=rfl
theorem scat_size (a b:ByteArray):ByteArray.size (scat a b)=ByteArray.size a + ByteArray.size b:=by simp [scat]
theorem markText_run {C Q:Type} {B:(Int×ByteArray×Unit→Option Q)→C→Int×ByteArray×Unit→Option Q} {cs:C} {dn:ByteArray→Option Q}
    (h0:∀ next s,B next cs (0,s,())=dn s) (h1:∀ next (k:Int) (s:ByteArray),1≤k→k + ByteArray.size s≤4611686018427387904→∃ t:ByteArray,ByteArray.size t=ByteArray.size s + 1∧B next cs (k,s,())=next (k.tdiv 10,t,())) :
    ∀ (m:Nat) (k:Nat) (s:ByteArray),k + ByteArray.size s≤4611686018427387904→k < m→∃ t,ByteArray.size t≤k + ByteArray.size s∧runL B cs m ((k:Int),s,())=dn t:=by
  intro m
  induction m with
  | zero=>intro k s _ hm; omega
  | succ m ih =>
    intro k s hk hm
    cases k with
    | zero=>exact ⟨s,by omega,h0 _ _⟩
    | succ k =>
      obtain ⟨t,ht,he⟩:=h1 (runL B cs m) ((k + 1:Nat):Int) s (by omega) (by omega)
      have hd:Int.tdiv ((k + 1:Nat):Int) 10=(((k + 1) / 10:Nat):Int):=by
        rw [Int.tdiv_eq_ediv_of_nonneg (by omega)]
        rfl
      obtain ⟨u,hu,hr⟩:=ih ((k + 1) / 10) t (by omega) (by omega)
      refine ⟨u,by omega,?_⟩
      show B (runL B cs m) cs _=_
      rw [he,hd]
      exact hr
def MarkOk1 (t:Ty) (mk:t.den→Int→Option (t.den×Int×Unit)):Prop :=
  ∀ (x:t.den) (k:Int),1≤k→k + wt t x≤4611686018427387904→∃ (y:t.den) (k':Int),k≤k'∧k'≤k + wt t x∧mk x k=some (y,k',())
def ElOk1 (e:Ty) {C1 Q1:Type} (B:(List e.den×Int×Int×Unit→Option Q1)→C1→List e.den×Int×Int×Unit→Option Q1) (cs1:C1):Prop :=
  ∀ (x:e.den) (k:Int),1≤k→k + wt e x≤4611686018427387904→∃ (y:e.den) (k':Int),k≤k'∧k'≤k + wt e x ∧
    ∀ (next:List e.den×Int×Int×Unit→Option Q1) (l:List e.den) (i:Nat),i < l.length→l.length≤4611686018427387904→(∀ z,l.getD i z=x)→B next cs1 (l,k,(i:Int),())=next (l.set i y,k',((i:Int) + 1),())
theorem marks_run1 {e:Ty} {C1 Q1:Type} {B:(List e.den×Int×Int×Unit→Option Q1)→C1→List e.den×Int×Int×Unit→Option Q1} {cs1:C1}
    {dn:List e.den→Int→Option Q1} (hel:ElOk1 e B cs1) (h1:∀ next l k,B next cs1 (l,k,(List.length l:Int),())=dn l k) :
    ∀ (s:List e.den) (k:Int),1≤k→k + wt (.slice e) s≤4611686018427387904→∃ (s':List e.den) (k':Int),k≤k'∧k'≤k + wt (.slice e) s ∧
      ∀ (pre:List e.den) (m:Nat),pre.length + s.length≤4611686018427387904→s.length < m→runL B cs1 m (pre++s,k,(pre.length:Int),())=dn (pre++s') k':=by
  intro s
  induction s with
  | nil =>
    intro k hk hw
    refine ⟨[],k,Int.le_refl _,by omega,fun pre m _ hm=>?_⟩
    rw [runL_pos _ _ (by simpa using hm),List.append_nil]; exact h1 _ _ _
  | cons x s ih =>
    intro k hk hw
    have e1:(wt (.slice e) (x :: s):Int)=1 + wt e x + wt (.slice e) s:=by
      rw [wt_slice,wt_slice]
      simp only [List.length_cons,List.map_cons,List.sum_cons]
      omega
    rw [e1] at hw
    obtain ⟨y,k1,g1,g2,gB⟩:=hel x k hk (by omega)
    obtain ⟨s',k2,i1,i2,iB⟩:=ih k1 (by omega) (by omega)
    refine ⟨y :: s',k2,by omega,by omega,fun pre m hp hm=>?_⟩
    simp only [List.length_cons] at hp hm
    rw [runL_pos _ _ (by omega),gB _ _ _ (by simp) (by simp; omega) (fun z=>getD_pre pre x s z),set_pre]
    have:=iB (pre++[y]) (m - 1) (by simp; omega) (by omega)
    simp only [List.length_append,List.length_cons,List.length_nil,Nat.zero_add,Int.natCast_add,Int.cast_ofNat_Int] at this
    rw [this]
    simp
theorem markS1_ok {e:Ty} {C1:Type} {B:(List e.den×Int×Int×Unit→Option (List e.den×Int×Unit))→C1→List e.den×Int×Int×Unit→Option (List e.den×Int×Unit)} {cs1:C1}
    {n:Nat} (hn:Big n) (hel:ElOk1 e B cs1) (h1:∀ next l k,B next cs1 (l,k,(List.length l:Int),())=some (l,k,())) :
    MarkOk1 (.slice e) (fun x k=>runL B cs1 n (x,k,0,())):=by
  intro x k hk hw
  have hn:18446744073709551616≤n:=hn
  obtain ⟨y,k',g1,g2,gB⟩:=marks_run1 (dn:=fun l k=>some (l,k,())) hel h1 x k hk hw
  rw [wt_slice] at hw
  have:=gB [] n (by simp only [List.length_nil]; omega) (by omega)
  exact ⟨y,k',g1,g2,by assumption⟩
def wtC:Ty→Nat
  | .slice e=>1 + wtC e
  | .pair a b=>wtC a + wtC b
  | .unit=>0
  | _=>1
theorem wt_bulk:∀ {t:Ty} {x:t.den},wt t x≤wtC t * (bulk t x + 1)
  | .int _,x=>by simp [wt,wtC]
  | .bool,x=>by simp [wt,wtC]
  | .str,x=>by simp [wt,wtC]
  | .ptr _,x=>by simp [wt,wtC]
  | .unit,x=>by simp [wt,wtC]
  | .pair a b,x=>by
    have h1:=wt_bulk (t:=a) (x:=x.1)
    have h2:=wt_bulk (t:=b) (x:=x.2)
    simp only [wt,wtC,bulk]
    refine Nat.le_trans (Nat.add_le_add h1 h2) ?_
    rw [Nat.add_mul]
    exact Nat.add_le_add (Nat.mul_le_mul_left _ (by omega)) (Nat.mul_le_mul_left _ (by omega))
  | .slice e,l=>by
    have key:∀ l:List e.den,(l.map (wt e)).sum≤wtC e * ((l.map (bulk e)).sum + l.length):=by
      intro l
      induction l with
      | nil=>simp
      | cons x l ih =>
        have h:=wt_bulk (t:=e) (x:=x)
        simp only [List.map_cons,List.sum_cons,List.length_cons]
        refine Nat.le_trans (Nat.add_le_add h ih) ?_
        rw [← Nat.mul_add]
        exact Nat.mul_le_mul_left _ (by omega)
    have h:=key l
    simp only [wt,wtC,bulk]
    rw [Nat.add_mul,Nat.one_mul]
    have h2:wtC e * ((List.map (bulk e) l).sum + List.length l)≤wtC e * (List.length l + (List.map (bulk e) l).sum + 1):=Nat.mul_le_mul_left _ (by omega)
    omega
theorem wt_small {t:Ty} {x:t.den} (hb:(bulk t x:Int)≤1048576) (hc:Nat.ble (wtC t) 1000=true):(wt t x:Int)≤1048577000:=by
  have h:=wt_bulk (t:=t) (x:=x)
  have h1:wtC t≤1000:=Nat.le_of_ble_eq_true hc
  have h2:wtC t * (bulk t x + 1)≤1000 * 1048577:=Nat.mul_le_mul h1 (by omega)
  omega
end Go.Vm
