/- A verified symbolic evaluator of loaded Go code: what it tells of a function is the function's contract (part 0). No conditions. -/
import Derived.Calls
import Derived.Laws.StructEq
import Derived.Below
import Derived.Orders
import Derived.Laws.Cells
import Derived.Laws.Entries
import Derived.Laws.CopyRow
import Derived.ChangeKeysEq
import Derived.Laws.BytesArg
set_option linter.unusedVariables false
set_option linter.unusedSimpArgs false
set_option linter.unnecessarySimpa false
set_option linter.unusedSectionVars false
namespace Go.Vm
inductive Ty where
  | int (k:IntKind)
  | bool
  | str
  | slice (e:Ty)
  | ptr (e:Ty)
  | ifp (k:TypeId) (e:Ty)
  | unit
  | pair (a b:Ty)
  deriving DecidableEq
@[reducible] def Ty.den:Ty→Type
  | .int _=>Int
  | .bool=>Bool
  | .str=>ByteArray
  | .slice e=>List e.den
  | .ptr e=>Option e.den
  | .ifp _ e=>Option e.den
  | .unit=>Unit
  | .pair a b=>a.den×b.den
def Ty.sz:Ty→Nat
  | .unit=>0
  | .pair a b=>a.sz + b.sz
  | _=>1
def Ty.zero:(t:Ty)→t.den
  | .int _=>(0:Int)
  | .bool=>false
  | .str=>(⟨#[]⟩:ByteArray)
  | .slice _=>[]
  | .ptr _=>none
  | .ifp _ _=>none
  | .unit=>()
  | .pair a b=>(a.zero,b.zero)
def Ty.isAgg:Ty→Bool
  | .unit | .pair _ _=>true
  | _=>false
inductive V where
  | d (t:Ty) (x:t.den)
  | any
  | nil
  | nilp
  | own (id:Nat)
  | sub (id i j:Nat)
  | pt (id i off:Nat)
  | rp (t:Ty) (x:t.den) (off:Nat)
  | agg (cs:List V)
  | tup (cs:List V)
  | g (s t:Nat) (want:Bool) (v:V)
  | fn (f:FuncId)
  | part (id lo hi:Nat)
  | clo (f:FuncId) (t:Ty) (x:t.den)
  | cap (f:FuncId) (t:Ty) (x:t.den)
  | capm (f:FuncId) (ids:List Nat)
  | emp (b:Bool) (e:Ty)
  | mp (id:Nat)
  | ifc (ks:List TypeId) (t:Ty) (g:Int) (x:t.den)
  | sl (n:Nat)
  | z (e:Ty)
inductive Ob where
  | row (dp:Bool) (e:Ty) (l:List e.den)
  | pre (e:Ty) (l:List e.den) (n:Nat)
  | frz (e:Ty) (l:List e.den)
  | box (cs:List V)
  | fbox (cs:List V)
  | mp (k:Ty) (l:List (k.den×Int))
  | dead
structure St where
  tm:List (Nat×V)
  ob:List Ob
  dn:List Nat:=[]
def look (t:Nat):List (Nat×V)→V
  | [] => .any
  | (u,v) :: r=>if Nat.beq u t=true then v else look t r
def setAt {α:Type}:List α→Nat→α→List α
  | [],_,_=>[]
  | _ :: r,0,y=>y :: r
  | x :: r,n + 1,y=>x :: setAt r n y
def getAt {α:Type}:List α→Nat→Option α
  | [],_=>none
  | x :: _,0=>some x
  | _ :: r,n + 1=>getAt r n
def cut {α:Type} (l:List α) (off n:Nat):List α:=(l.drop off).take n
def dcells:(t:Ty)→t.den→List V
  | .unit,_=>[]
  | .pair a b,x=>dcells a x.1++dcells b x.2
  | t,x=>[.d t x]
def getd (t:Ty):V→Option t.den
  | .d t' x=>if h:t'=t then some (h ▸ x) else none
  | .nil=>match t with
    | .slice _=>some []
    | _=>none
  | .nilp=>match t with
    | .ptr _=>some none
    | _=>none
  | _=>none
def ofc:(t:Ty)→List V→Option (t.den×List V)
  | .unit,r=>some ((),r)
  | .pair a b,r =>
    match ofc a r with
    | some (x,r)=>match ofc b r with
      | some (y,r)=>some ((x,y),r)
      | none=>none
    | none=>none
  | t,v :: r=>match getd t v with
    | some x=>some (x,r)
    | none=>none
  | _,[] => none
def ofcells (t:Ty) (cs:List V):Option t.den :=
  match ofc t cs with
  | some (x,[])=>some x
  | _=>none
def cellsOf:V→List V
  | .agg cs=>cs
  | .any | .tup _ | .g _ _ _ _=>[]
  | v=>[v]
def plain (ob:List Ob):V→V
  | .own id=>match getAt ob id with
    | some (.row _ e l)=>.d (.slice e) l
    | some (.frz e l)=>.d (.slice e) l
    | _=>.any
  | .sub id i j=>match getAt ob id with
    | some (.row _ e l)=>match getAt (dcells e (l.getD i e.zero)) j with
      | some v=>v
      | none=>.any
    | some (.frz e l)=>match getAt (dcells e (l.getD i e.zero)) j with
      | some v=>v
      | none=>.any
    | _=>.any
  | .part id lo hi=>match getAt ob id with
    | some (.row _ e l)=>.d (.slice e) (cut l lo (hi - lo))
    | _=>.any
  | .emp _ e=>.d (.slice e) []
  | .z e=>.d (.slice e) []
  | v=>v
def ptCells (ob:List Ob) (id i off n:Nat):Option (List V):=match getAt ob id with
  | some (.box cs)=>if (Nat.beq i 0 && Nat.ble (off + n) cs.length)=true then some ((cut cs off n).map (plain ob)) else none
  | some (.fbox cs)=>if (Nat.beq i 0 && Nat.ble (off + n) cs.length)=true then some ((cut cs off n).map (plain ob)) else none
  | some (.row _ e l)=>if Nat.ble (off + n) e.sz=true then some (cut (dcells e (l.getD i e.zero)) off n) else none
  | some (.frz e l)=>if Nat.ble (off + n) e.sz=true then some (cut (dcells e (l.getD i e.zero)) off n) else none
  | _=>none
def asCell (ob:List Ob) (t:Ty) (v:V):Option t.den:=match t,v with
  | .ptr e,.rp t' x off=>if Nat.ble (off + e.sz) t'.sz=true then (ofcells e (cut (dcells t' x) off e.sz)).map some else none
  | .ptr e,.pt id i off=>match ptCells ob id i off e.sz with
    | some cs=>(ofcells e cs).map some
    | none=>none
  | .ifp k e,.d (.ifp k' e') x=>if Nat.beq k k'=true then getd (.ifp k e) (.d (.ifp k' e') x) else (match x with
    | none=>some none
    | some _=>none)
  | t,v=>getd t (plain ob v)
def asTy (ob:List Ob) (t:Ty) (v:V):Option t.den :=
  if t.isAgg=true then (match v with | .agg cs=>ofcells t (cs.map (plain ob)) | _=>none) else asCell ob t v
def mvc:(t:Ty)→List Ob→List V→Option (t.den×List V×List Ob)
  | .unit,ob,r=>some ((),r,ob)
  | .pair a b,ob,r=>match mvc a ob r with
    | some (x,r,ob)=>match mvc b ob r with
      | some (y,r,ob)=>some ((x,y),r,ob)
      | none=>none
    | none=>none
  | .slice e,ob,v :: r=>match v with
    | .nil=>some ([],r,ob)
    | .z _=>some ([],r,ob)
    | .own id=>match getAt ob id with
      | some (.row true e' l)=>if h:e'=e then some (h ▸ l,r,setAt ob id .dead) else none
      | _=>none
    | _=>none
  | .ptr _,_,_=>none
  | .ifp _ _,_,_=>none
  | t,ob,v :: r=>match getd t v with
    | some x=>some (x,r,ob)
    | none=>none
  | _,_,[] => none
def moved (t:Ty) (ob:List Ob) (cs:List V):Option (t.den×List Ob):=match mvc t ob cs with
  | some (x,[],ob)=>some (x,ob)
  | _=>none
def frzOb (ob:List Ob):V→List Ob
  | .own id=>match getAt ob id with
    | some (.row _ e l)=>setAt ob id (.frz e l)
    | _=>ob
  | .sub id _ _=>match getAt ob id with
    | some (.row _ e l)=>setAt ob id (.frz e l)
    | _=>ob
  | .part id _ _=>match getAt ob id with
    | some (.row _ e l)=>setAt ob id (.frz e l)
    | _=>ob
  | _=>ob
def frzAll (ob:List Ob) (cs:List V):List Ob:=cs.foldl frzOb ob
def ofTy (t:Ty) (x:t.den):V:=if t.isAgg=true then .agg (dcells t x) else .d t x
def tyOf (P:Program):Nat→TypeId→Option Ty
  | 0,_=>none
  | n + 1,t=>match P.underlying t with
    | some .bool=>some .bool
    | some (.int k)=>some (.int k)
    | some .string=>some .str
    | some (.slice e)=>(tyOf P n e).map .slice
    | some (.pointer e)=>(tyOf P n e).map .ptr
    | some (.struct fs)=>fs.toList.foldr (fun f r=>match tyOf P n f.type,r with | some a,some b=>some (.pair a b) | _,_=>none) (some .unit)
    | _=>none
def depth:Nat:=12
def aggT (P:Program) (t:TypeId):Option Bool:=match P.underlying t with
  | some (.struct _) | some (.array _ _)=>some true
  | some _=>some false
  | none=>none
def ofValue:Value→V
  | .int k n=>.d (.int k) n
  | .bool b=>.d .bool b
  | .string s=>.d .str s
  | .slice none 0 0=>.nil
  | .pointer none=>.nilp
  | .nilIface=>.d (.ifp 0 .unit) none
  | _=>.any
def oneB:Value→Bool
  | .agg _ | .tuple _=>false
  | _=>true
def ofConst:Value→V
  | .agg cs=>if cs.toList.all oneB=true then .agg (cs.toList.map ofValue) else .any
  | v=>ofValue v
def zeroCells (P:Program) (t:TypeId):Option (List V):=match P.info? t with
  | some i=>match i.zero with
    | some v=>if v.cells.toList.all oneB=true then some (v.cells.toList.map ofValue) else none
    | none=>none
  | none=>none
def zvals:Ty→List Value
  | .int k=>[.int k 0]
  | .bool=>[.bool false]
  | .str=>[.string ⟨#[]⟩]
  | .slice _=>[.slice none 0 0]
  | .ptr _=>[.pointer none]
  | .ifp _ _=>[.nilIface]
  | .unit=>[]
  | .pair a b=>zvals a++zvals b
def eqZ:Value→Value→Bool
  | .int k a,.int j b=>decide (k=j) && a == b
  | .bool a,.bool b=>a == b
  | .string a,.string b=>Nat.beq a.size 0 && Nat.beq b.size 0
  | .slice none 0 0,.slice none 0 0=>true
  | .pointer none,.pointer none=>true
  | .nilIface,.nilIface=>true
  | _,_=>false
def allZ:List Value→List Value→Bool
  | [],[] => true
  | a :: l,b :: m=>eqZ a b && allZ l m
  | _,_=>false
def zeroIs (P:Program) (t:TypeId) (ty:Ty):Bool:=match P.info? t with
  | some i=>match i.zero with
    | some v=>allZ v.cells.toList (zvals ty) && Nat.beq i.size ty.sz && Nat.ble 1 i.size && Nat.ble 1 i.bytes
    | none=>false
  | none=>false
def strip (s:Nat) (ann:List (Nat×Bool)):V→V
  | .g s' t w v=>if (Nat.beq s s' && ann.any fun p=>Nat.beq p.1 t && (p.2 == w))=true then v else .any
  | v=>v
def ev (st:St) (s:Nat) (ann:List (Nat×Bool)):Operand→V
  | .tmp t=>strip s ann (look t st.tm)
  | .const v=>ofConst v
  | .func f=>.fn f
  | .global _=>.any
structure Ri where
  dst:Option Nat
  W:Option Bool
  ann:List (Nat×Bool)
def guardOf (st:St) (s:Nat) (ri:List Ri):Option (Nat×Bool)→Option (Option Bool×List (Nat×Bool)×Option (Nat×Bool))
  | none=>some (none,[],none)
  | some (j,want)=>match getAt ri j with
    | some ⟨some tj,wj,aj⟩=>match strip s aj (look tj st.tm) with
      | .d .bool b=>some (some (match wj,want with | none,true=>b | none,false=>!b | some w,true=>w && b | some w,false=>w && !b),(tj,want) :: aj,some (tj,want))
      | _=>none
    | _=>none
def chk {R:Type} (W:Option Bool) (ok:Bool) (k:Option R):Option R:=match W with
  | none=>if ok=true then k else none
  | some w=>if (!w || ok)=true then k else none
@[reducible] def Tup:List Ty→Type
  | [] => Unit
  | t :: ts=>t.den×Tup ts
def tzero:(ts:List Ty)→Tup ts
  | [] => ()
  | t :: ts=>(t.zero,tzero ts)
inductive Tr where
  | fail
  | leaf (v:V)
  | chg (v:V) (ob:List Ob) (ids:List Nat)
  | ite (b:Bool) (x y:Tr)
  | bind (t:Ty) (o:Option t.den) (f:t.den→Tr)
abbrev Clos:=V→(ts:List Ty)→Tup ts→Option (List V)
structure VSig where
  ptr:Bool
  sh:Option Ty
  ks:Option (List TypeId)
  t:Ty
  qs:List Ty
  u:Ty
  rs:List Ty
  F:t.den→Tup qs→Option (u.den×Tup rs)
structure HSig where
  rs:List Ty
  F:(ByteArray→Option (List ByteArray))→List ByteArray→Option (Tup rs)
structure LSig where
  t:Ty
  qs:List Ty
  rs:List Ty
  F:t.den→Tup qs→Option (Tup rs)
  h:Option HSig
structure WSig where
  t:Ty
  qs:List Ty
  rs:List Ty
  F:t.den→Tup qs→Option (t.den×Tup rs)
  v:Option VSig
  l:Option LSig
structure Sig where
  ps:List Ty
  rs:List Ty
  fresh:Bool
  F:Tup ps→Option (Tup rs)
  w:Option WSig
  X:Option (Clos→List Ob→List V→Tr)
def asTup (ob:List Ob):(ts:List Ty)→List V→Option (Tup ts)
  | [],[] => some ()
  | t :: ts,v :: vs=>match asTy ob t v,asTup ob ts vs with
    | some x,some r=>some (x,r)
    | _,_=>none
  | _,_=>none
def ofTup:(ts:List Ty)→Tup ts→List V
  | [],_=>[]
  | t :: ts,x=>ofTy t x.1 :: ofTup ts x.2
def flat:Ty→Bool
  | .slice _ | .ptr _ | .ifp _ _=>false
  | .pair a b=>flat a && flat b
  | _=>true
def known:V→Bool
  | .any | .tup _ | .g _ _ _ _=>false
  | _=>true
def isOwn:V→Bool
  | .own _ | .sub _ _ _ | .pt _ _ _ | .part _ _ _ | .mp _ | .capm _ _=>true
  | _=>false
def isPt:V→Bool
  | .pt _ _ _=>true
  | _=>false
def frzPt (ob:List Ob):V→List Ob
  | .pt id _ _=>match getAt ob id with
    | some (.box cs)=>if cs.any isOwn=true then ob else setAt ob id (.fbox cs)
    | _=>ob
  | _=>ob
def frzPts (ob:List Ob) (cs:List V):List Ob:=cs.foldl frzPt ob
def ptOk (ob:List Ob):V→Bool
  | .pt id _ _=>match getAt ob id with
    | some (.fbox cs)=>!cs.any isOwn
    | _=>false
  | _=>true
def mkIfc (P:Program) (ob:List Ob) (t:TypeId) (v:V):Option V:=match P.underlying t with
  | some (.pointer e)=>match tyOf P depth e with
    | some ty=>match v with
      | .pt id i off=>if ptOk ob (.pt id i off)=true then
          match ptCells ob id i off ty.sz with
          | some cs=>(ofcells ty cs).map fun y=>V.d (.ifp t ty) (some y)
          | none=>none
        else none
      | _=>none
    | none=>none
  | _=>none
def instC:(t:Ty)→t.den→List Ob→List V×List Ob
  | .unit,_,ob=>([],ob)
  | .pair a b,x,ob=>let p:=instC a x.1 ob; let q:=instC b x.2 p.2; (p.1++q.1,q.2)
  | .slice e,l,ob=>([.own ob.length],ob++[.row true e l])
  | t,x,ob=>([.d t x],ob)
def inst1 (t:Ty) (x:t.den) (ob:List Ob):V×List Ob :=
  let p:=instC t x ob
  if t.isAgg=true then (.agg p.1,p.2) else match p.1 with
    | [v] => (v,p.2)
    | _=>(.any,p.2)
def instT:(ts:List Ty)→Tup ts→List Ob→List V×List Ob
  | [],_,ob=>([],ob)
  | t :: ts,x,ob=>let p:=inst1 t x.1 ob; let q:=instT ts x.2 p.2; (p.1 :: q.1,q.2)
def tupOf:List V→V
  | [v] => v
  | vs=>.tup vs
section
variable (P:Program) (T:FuncId→Option Sig) {R:Type}
def wrapI (k:IntKind) (n:Int):Int:=k.wrap n
def seq (a b:ByteArray):Bool:=a.toList == b.toList
def slt (a b:ByteArray):Bool:=Op.bytesLess a.toList b.toList
def arith (op:BinOp) (k:IntKind) (a b:Int):Option V:=match op with
  | .add=>some (.d (.int k) (k.wrap (a + b)))
  | .sub=>some (.d (.int k) (k.wrap (a - b)))
  | .mul=>some (.d (.int k) (k.wrap (a * b)))
  | .eql=>some (.d .bool (a == b))
  | .neq=>some (.d .bool (a != b))
  | .lss=>some (.d .bool (decide (a < b)))
  | .leq=>some (.d .bool (decide (a≤b)))
  | .gtr=>some (.d .bool (decide (a > b)))
  | .geq=>some (.d .bool (decide (a≥b)))
  | _=>none
def strOp (op:BinOp) (a b:ByteArray):Option V:=match op with
  | .eql=>some (.d .bool (seq a b))
  | .neq=>some (.d .bool (!seq a b))
  | .lss=>some (.d .bool (slt a b))
  | .leq=>some (.d .bool (slt a b || seq a b))
  | .gtr=>some (.d .bool (!(slt a b || seq a b)))
  | .geq=>some (.d .bool (!slt a b))
  | _=>none
def bitsI (op:BinOp) (k:IntKind) (a b:Int):Int:=match op with
  | .and=>k.wrap ((BitVec.ofInt k.bits a &&& BitVec.ofInt k.bits b).toNat:Int)
  | .or=>k.wrap ((BitVec.ofInt k.bits a ||| BitVec.ofInt k.bits b).toNat:Int)
  | _=>k.wrap ((BitVec.ofInt k.bits a ^^^ BitVec.ofInt k.bits b).toNat:Int)
def shlI (k:IntKind) (a b:Int):Int:=k.wrap (a * 2 ^ (min b.toNat k.bits))
def shrI (k:IntKind) (a b:Int):Int:=a.fdiv (2 ^ (min b.toNat k.bits))
def scat (a b:ByteArray):ByteArray:=a++b
def nonE {α:Type}:List α→Bool
  | [] => false
  | _ :: _=>true
def bin (ut:Option TypeDesc) (W:Option Bool) (op:BinOp) (x y:V) (k:V→Option R):Option R:=match x,y with
  | .d (.int k1) a,.d (.int k2) b=>match op with
    | .shl=>chk W (decide (0≤b)) (k (.d (.int k1) (shlI k1 a b)))
    | .shr=>chk W (decide (0≤b)) (k (.d (.int k1) (shrI k1 a b)))
    | op=>if k1=k2 then
      match op with
      | .quo=>chk W (b != 0) (k (.d (.int k1) (k1.wrap (Int.tdiv a b))))
      | .rem=>chk W (b != 0) (k (.d (.int k1) (Int.tmod a b)))
      | .and=>k (.d (.int k1) (bitsI .and k1 a b))
      | .or=>k (.d (.int k1) (bitsI .or k1 a b))
      | .xor=>k (.d (.int k1) (bitsI .xor k1 a b))
      | _=>match arith op k1 a b with
        | some v=>k v
        | none=>none
    else none
  | .d .str a,.d .str b=>match op with
    | .add=>chk W (decide ((ByteArray.size a:Int) + (ByteArray.size b:Int)≤9223372036854775807)) (k (.d .str (scat a b)))
    | op=>match strOp op a b with
      | some v=>k v
      | none=>none
  | .d .bool a,.d .bool b=>match ut,op with
    | some .bool,.eql=>k (.d .bool (a == b))
    | some .bool,.neq=>k (.d .bool (!(a == b)))
    | _,_=>none
  | .d (.ptr _) o,.nilp=>match ut,op with
    | some (.pointer _),.eql=>k (.d .bool o.isNone)
    | some (.pointer _),.neq=>k (.d .bool o.isSome)
    | _,_=>none
  | .d (.slice _) l,.nil=>if nonE l=true then (match ut,op with
    | some (.slice _),.eql=>k (.d .bool false)
    | some (.slice _),.neq=>k (.d .bool true)
    | _,_=>none) else none
  | .emp b _,.nil=>match ut,op with
    | some (.slice _),.eql=>k (.d .bool b)
    | some (.slice _),.neq=>k (.d .bool (!b))
    | _,_=>none
  | .rp _ _ _,.nilp=>match ut,op with
    | some (.pointer _),.eql=>k (.d .bool false)
    | some (.pointer _),.neq=>k (.d .bool true)
    | _,_=>none
  | _,_=>none
def eqK:(t:Ty)→t.den→t.den→Bool
  | .int _,a,b=>@BEq.beq Int _ a b
  | .bool,a,b=>@BEq.beq Bool _ a b
  | .str,a,b=>seq a b
  | .unit,_,_=>true
  | .pair s t,a,b=>eqK s a.1 b.1 && eqK t a.2 b.2
  | _,_,_=>false
def mget (k:Ty):List (k.den×Int)→k.den→Int
  | [],_=>0
  | p :: r,x=>if eqK k x p.1=true then p.2 else mget k r x
def mput (k:Ty):List (k.den×Int)→k.den→Int→List (k.den×Int)
  | [],x,n=>[(x,n)]
  | p :: r,x,n=>if eqK k x p.1=true then (p.1,n) :: r else p :: mput k r x n
def mat (k:Ty):List (k.den×Int)→k.den→Nat
  | [],_=>0
  | p :: r,x=>if eqK k x p.1=true then 0 else mat k r x + 1
def mhas (k:Ty):List (k.den×Int)→k.den→Bool
  | [],_=>false
  | p :: r,x=>if eqK k x p.1=true then true else mhas k r x
def mtouch (k:Ty) (l:List (k.den×Int)) (x:k.den):List (k.den×Int):=if mhas k l x=true then l else l++[(x,0)]
def scal (t:TypeId) (ty:Ty):Bool:=match P.underlying t,ty with
  | some (.int _),.int _=>true
  | some .bool,.bool=>true
  | some .string,.str=>true
  | _,_=>false
def keyFs:List Field→Ty→Nat→Bool
  | [],.unit,_=>true
  | f :: r,.pair a b,o=>(!(f.name == "_") && Nat.beq f.offset o && scal P f.type a) && keyFs r b (o + 1)
  | _,_,_=>false
def keyOk (t:TypeId) (k:Ty):Bool:=match P.underlying t with
  | some (.struct fs)=>!P.stoodInHeld t && (k.isAgg && keyFs P fs.toList k 0)
  | some .string=>decide (k=.str)
  | _=>false
def cntOk (et:TypeId):Bool:=match P.info? et with
  | some i=>match i.zero with
    | some (.int .i64 0)=>true
    | _=>false
  | none=>false
def mapKey (t:TypeId):Option Ty:=match P.underlying t with
  | some (.map kt et)=>match tyOf P depth kt with
    | some k=>if (keyOk P kt k && flat k && cntOk P et)=true then some k else none
    | none=>none
  | _=>none
def aggOk (t:Ty):V→Bool
  | .agg _=>t.isAgg
  | _=>!t.isAgg
def keyC (q:Ty) (u:V):Option q.den:=if aggOk q u=true then ofcells q (cellsOf u) else none
def mentry (ob:List Ob) (q:Ty) (id:Nat) (us:V):Option (Int×Nat×Ob):=match getAt ob id with
  | some (.mp k l)=>if k=q then (match keyC k us with
    | some x=>some (mget k l x,mat k l x,.mp k (mtouch k l x))
    | none=>none) else none
  | _=>none
def mlook (ob:List Ob) (q:Ty) (id:Nat) (us:V):Option Int:=match getAt ob id with
  | some (.mp k l)=>if k=q then (match keyC k us with
    | some x=>some (mget k l x)
    | none=>none) else none
  | _=>none
def mupd (ob:List Ob) (q:Ty) (id:Nat) (u:V) (n:Int):Option Ob:=match getAt ob id with
  | some (.mp k l)=>if k=q then (match keyC k u with
    | some x=>some (.mp k (mput k l x n))
    | none=>none) else none
  | _=>none
def eqF1 (f : Field) (us vs : List V) : Option Bool:=if (f.name == "_") = true then none else
  match P.underlying f.type,getAt us f.offset,getAt vs f.offset with
  | some (.int _),some (.d (.int k) a),some (.d (.int k') b)=>if k=k' then some (a == b) else none
  | some .bool,some (.d .bool a),some (.d .bool b)=>some (a == b)
  | some .string,some (.d .str a),some (.d .str b)=>some (seq a b)
  | _,_,_=>none
def eqFs (us vs:List V):List Field→Option Bool
  | [] => some true
  | f :: r=>match eqF1 P f us vs,eqFs us vs r with
    | some a,some b=>some (a && b)
    | _,_=>none
def eqS (t:TypeId) (op:BinOp) (x y:V):Option V:=match x,y with
  | .agg us,.agg vs=>match P.underlying t with
    | some (.struct fs)=>if (P.stoodInHeld t || P.eqGuardType P.depth t)=true then none else
      match eqFs P us vs fs.toList,op with
      | some b,.eql=>some (.d .bool b)
      | some b,.neq=>some (.d .bool (!b))
      | _,_=>none
    | _=>none
  | _,_=>none
def un (op:UnOp) (x:V):Option V:=match op,x with
  | .not,.d .bool b=>some (.d .bool (!b))
  | .neg,.d (.int k) n=>some (.d (.int k) (k.wrap (0 - n)))
  | _,_=>none
def subs (id i:Nat):Nat→List V→List V
  | _,[] => []
  | j,v :: r=>(match v with | .d (.slice _) _=>V.sub id i j | v=>v) :: subs id i (j + 1) r
def readAt (W:Option Bool) (ob:List Ob) (n:Nat) (p:V) (k:List V→Option R):Option R:=match p with
  | .pt id i off=>match getAt ob id with
    | some (.box cs)=>if (Nat.beq i 0 && Nat.ble (off + n) cs.length)=true then k (cut cs off n) else none
    | some (.fbox cs)=>if (Nat.beq i 0 && Nat.ble (off + n) cs.length)=true then k (cut cs off n) else none
    | some (.row true e l)=>if Nat.ble (off + n) e.sz=true then k (cut (subs id i 0 (dcells e (l.getD i e.zero))) off n) else none
    | some (.row false e l)=>if Nat.ble (off + n) e.sz=true then k (cut (dcells e (l.getD i e.zero)) off n) else none
    | some (.pre e l m)=>if Nat.ble (off + n) e.sz=true then chk W (Nat.ble m i) (k (cut (dcells e (l.getD i e.zero)) off n)) else none
    | some (.frz e l)=>if Nat.ble (off + n) e.sz=true then k (cut (dcells e (l.getD i e.zero)) off n) else none
    | _=>none
  | .rp t x off=>if Nat.ble (off + n) t.sz=true then k (cut (dcells t x) off n) else none
  | .d (.ptr e) o=>if Nat.ble n e.sz=true then chk W o.isSome (k (cut (dcells e (o.getD e.zero)) 0 n)) else none
  | _=>none
def load (W:Option Bool) (ob:List Ob) (t:TypeId) (p:V) (k:V→Option R):Option R:=match aggT P t,P.info? t with
  | some ag,some i=>readAt W ob i.size p fun cs=>if ag=true then k (.agg cs) else match cs with
    | [v] => k v
    | _=>none
  | _,_=>none
def put1 (st:St) (d:Option Tmp) (gi:Option (Nat×Bool)) (s:Nat) (v:V):St:=match d with
  | some t=>{ st with tm:=(t,match gi with | none=>v | some (tj,w)=>.g s tj w v) :: st.tm }
  | none=>st
def kill1 (id:Nat):V→V
  | .sub id' i j=>if Nat.beq id id'=true then .any else .sub id' i j
  | v=>v
def killA (id:Nat):V→V
  | .agg cs=>.agg (cs.map (kill1 id))
  | v=>kill1 id v
def killT (id:Nat):V→V
  | .tup cs=>.tup (cs.map (killA id))
  | v=>killA id v
def killSub (id:Nat):V→V
  | .g s t w v=>.g s t w (killT id v)
  | v=>killT id v
def onCells (f:V→V):Ob→Ob
  | .box cs=>.box (cs.map f)
  | .fbox cs=>.fbox (cs.map f)
  | o=>o
def killed (id:Nat) (st:St):St:={ st with tm:=st.tm.map fun q=>(q.1,killSub id q.2),ob:=st.ob.map (onCells (kill1 id)) }
def hasSlice:Ty→Bool
  | .slice _=>true
  | .pair a b=>hasSlice a || hasSlice b
  | _=>false
def splice {α:Type} (bs:List α) (off n:Nat) (cs:List α):List α:=bs.take off++cs++bs.drop (off + n)
def flatC:V→Bool
  | .d t _=>flat t
  | _=>false
def store (st:St) (t:TypeId) (p x:V):Option St:=match P.info? t,p with
  | some i,.pt id e off =>
    if Nat.beq (cellsOf x).length i.size=true then
      match getAt st.ob id with
      | some (.box bs)=>if (Nat.beq e 0 && Nat.ble (off + i.size) bs.length)=true then some { st with ob:=setAt st.ob id (.box (splice bs off i.size (cellsOf x))) } else none
      | some (.row false ty l) =>
        if Nat.ble (off + i.size) ty.sz=true then
          match getAt (frzAll st.ob (cellsOf x)) id,ofcells ty (splice (dcells ty (l.getD e ty.zero)) off i.size ((cellsOf x).map (plain (frzAll st.ob (cellsOf x))))) with
          | some (.row false _ _),some y=>some (killed id { st with ob:=setAt (frzAll st.ob (cellsOf x)) id (.row false ty (l.set e y)) })
          | _,_=>none
        else none
      | some (.row true ty l) =>
        if (cellsOf x).all flatC=true then
          if Nat.ble (off + i.size) ty.sz=true then
            match ofcells ty (splice (dcells ty (l.getD e ty.zero)) off i.size (cellsOf x)) with
            | some y=>some (killed id { st with ob:=setAt st.ob id (.row true ty (l.set e y)) })
            | none=>none
          else none
        else if (Nat.beq off 0 && Nat.beq i.size ty.sz)=true then
          match moved ty st.ob (cellsOf x) with
          | some (y,ob)=>match getAt ob id with
            | some (.row true _ _)=>some (killed id { st with ob:=setAt ob id (.row true ty (l.set e y)) })
            | _=>none
          | none=>none
        else none
      | _=>none
    else none
  | _,_=>none
def getSl (u:Ty):(t:Ty)→t.den→Nat→Option u.den
  | .pair a b,x,j=>if Nat.ble (j + 1) a.sz=true then getSl u a x.1 j else getSl u b x.2 (j - a.sz)
  | .slice e,l,j=>if Nat.beq j 0=true then (if h:Ty.slice e=u then some (h ▸ l) else none) else none
  | _,_,_=>none
def setSl (u:Ty) (y:u.den):(t:Ty)→t.den→Nat→Option t.den
  | .pair a b,x,j=>if Nat.ble (j + 1) a.sz=true then
      match setSl u y a x.1 j with
      | some z=>some (z,x.2)
      | none=>none
    else match setSl u y b x.2 (j - a.sz) with
      | some z=>some (x.1,z)
      | none=>none
  | .slice e,_,j=>if Nat.beq j 0=true then (if h:u=Ty.slice e then some (h ▸ y) else none) else none
  | _,_,_=>none
def loneAt (t:Ty) (off:Nat):List Ty→Bool:=fun l=>(l.take off).all flat && (l.drop (off + 1)).all flat && Nat.beq l.length t.sz
def leaves:Ty→List Ty
  | .unit=>[]
  | .pair a b=>leaves a++leaves b
  | t=>[t]
def storeP (st:St) (t:TypeId) (p x:V):Option (Bool×St):=match P.info? t,p,x with
  | some i,.pt id e off,.own id2=>if (Nat.beq i.size 1 && !Nat.beq id id2)=true then
      match getAt st.ob id,getAt st.ob id2 with
      | some (.pre ty l n),some (.row true e2 l2) =>
        if loneAt ty off (leaves ty)=true then
          match setSl (.slice e2) l2 ty (l.getD e ty.zero) off with
          | some y=>some (Nat.beq e n,killed id { st with ob:=setAt (setAt st.ob id2 .dead) id (.pre ty (l.set e y) (n + 1)) })
          | none=>none
        else none
      | _,_=>none
    else none
  | _,_,_=>none
def ripe (st:St) (v:V) (k:V→St→Option R):Option R:=match v with
  | .own id=>match getAt st.ob id with
    | some (.pre e l n)=>if Nat.beq n l.length=true then k v { st with ob:=setAt st.ob id (.row true e l) } else none
    | _=>k v st
  | _=>k v st
def lenT (u:Option TypeDesc) (v:V):Option V:=match u,v with
  | some .string,.d .str s=>some (.d (.int .i64) (s.size:Int))
  | some (.slice _),.d (.slice _) l=>some (.d (.int .i64) (List.length l:Int))
  | some (.slice _),.nil=>some (.d (.int .i64) 0)
  | some (.slice _),.sl n=>some (.d (.int .i64) (n:Int))
  | _,_=>none
def idxI (W:Option Bool) (st:St) (x:V) (i:Int) (k:V→Option R):Option R:=match x with
  | .d (.slice e) l=>chk W (decide (0≤i∧i < (List.length l:Int))) (k (.rp e (l.getD i.toNat e.zero) 0))
  | .own id=>match getAt st.ob id with
    | some (.row _ _ l)=>chk W (decide (0≤i∧i < (l.length:Int))) (k (.pt id i.toNat 0))
    | some (.pre _ l _)=>chk W (decide (0≤i∧i < (l.length:Int))) (k (.pt id i.toNat 0))
    | some (.frz e l)=>chk W (decide (0≤i∧i < (l.length:Int))) (k (.rp e (l.getD i.toNat e.zero) 0))
    | _=>none
  | _=>none
def idx (W:Option Bool) (st:St) (x i:V) (k:V→Option R):Option R:=match i with
  | .d (.int _) i=>idxI W st x i k
  | _=>none
def intOf (z:Int):Option V→Option Int
  | none=>some z
  | some (.d (.int _) i)=>some i
  | _=>none
def sliceV (ob:List Ob) (u:Option TypeDesc) (W:Option Bool) (esz:TypeId→Nat→Bool) (x:V) (lo hi:Option V) (k:V→Option R):Option R:=match u,x with
  | some .string,.d .str s=>match intOf 0 lo,intOf (ByteArray.size s:Int) hi with
    | some l,some h=>chk W (decide (0≤l∧l≤h∧h≤(ByteArray.size s:Int))) (k (.d .str (ByteArray.extract s l.toNat h.toNat)))
    | _,_=>none
  | some (.slice e),.d (.slice ty) s=>if esz e ty.sz=true then (match intOf 0 lo,intOf (List.length s:Int) hi with
    | some l,some h=>chk W (decide (0≤l∧l≤h∧h≤(List.length s:Int))) (k (.d (.slice ty) (cut s l.toNat (h.toNat - l.toNat))))
    | _,_=>none) else none
  | some (.slice e),.own id=>match getAt ob id with
    | some (.row _ ty s)=>if (esz e ty.sz && Nat.ble 1 ty.sz)=true then (match intOf 0 lo,intOf (List.length s:Int) hi with
      | some l,some h=>chk W (decide (0≤l∧l≤h∧h≤(List.length s:Int))) (k (.part id l.toNat h.toNat))
      | _,_=>none) else none
    | _=>none
  | _,_=>none
def mmI (mx:Bool) (x y:V):Option V:=match x,y with
  | .d (.int k1) a,.d (.int _) b=>some (.d (.int k1) (if mx=true then (if b > a then b else a) else (if b < a then b else a)))
  | _,_=>none
def szOk (v:V) (n:Nat):Bool:=match v with
  | .d (.slice e) _=>Nat.beq e.sz n
  | _=>false
def rowish (ob:List Ob) (v:V):V:=match v with
  | .own id=>match getAt ob id with
    | some (.pre e l _)=>.d (.slice e) l
    | _=>plain ob v
  | _=>plain ob v
def byteAt (s:ByteArray) (i:Int):Int:=((s.data.toList.getD i.toNat 0).toNat:Int)
def strIdxI (W:Option Bool) (s:ByteArray) (i:Int) (k:V→Option R):Option R:=chk W (decide (0≤i∧i < (s.size:Int))) (k (.d (.int .u8) (byteAt s i)))
def strIdx (W:Option Bool) (x i:V) (k:V→Option R):Option R:=match x,i with
  | .d .str s,.d (.int _) i=>strIdxI W s i k
  | _,_=>none
def sameL:List TypeId→List TypeId→Bool
  | [],[] => true
  | a :: l,b :: m=>Nat.beq a b && sameL l m
  | _,_=>false
def tabOk (ks:List TypeId):Int→List V→Bool
  | _,[] => true
  | g,v :: r=>(match v with
    | .ifc ks' .unit g' _=>sameL ks' ks && g' == g
    | _=>false) && tabOk ks (g + 1) r
def tabV (ks:List TypeId):V:=.agg ((List.range (ks.length + 1)).map fun (i:Nat)=>.ifc ks .unit ((i:Int) - 1) ())
def tabIdxI (W:Option Bool) (n:Nat) (cs:List V) (i:Int) (k:V→Option R):Option R:=match cs with
  | .ifc ks .unit _ _ :: _=>if (tabOk ks (-1) cs && Nat.beq cs.length n)=true then chk W (decide (0≤i∧i < (n:Int))) (k (.ifc ks .unit (i - 1) ())) else none
  | _=>none
def tabIdx (W:Option Bool) (n:Nat) (x i:V) (k:V→Option R):Option R:=match x,i with
  | .agg cs,.d (.int _) i=>tabIdxI W n cs i k
  | _,_=>none
def fieldOf (t:TypeId) (f:Nat):Option (Nat×Nat×Bool):=match P.underlying t with
  | some (.struct fs)=>match fs[f]? with
    | some q=>match aggT P q.type,P.info? q.type with
      | some ag,some i=>if i.size=0 then none else some (q.offset,i.size,ag)
      | _,_=>none
    | none=>none
  | _=>none
def fieldA (ob:List Ob) (x:V) (off:Nat):Option V:=match x with
  | .pt id i o=>match getAt ob id with
    | some .dead=>none
    | none=>none
    | _=>some (.pt id i (o + off))
  | .rp t y o=>some (.rp t y (o + off))
  | _=>none
def alloc (st:St) (cs:List V):V×St:=(.pt st.ob.length 0 0,{ st with ob:=st.ob++[.box cs] })
def newRow (st:St) (dp:Bool) (e:Ty) (l:List e.den):V×St:=(.own st.ob.length,{ st with ob:=st.ob++[.row dp e l] })
def ofBytes (l:List Int):ByteArray:=⟨(l.map fun n=>UInt8.ofNat n.toNat).toArray⟩
def conv (W:Option Bool) (src dst:TypeId) (x:V) (k:V→Option R):Option R:=match P.underlying src,P.underlying dst,x with
  | some (.int _),some (.int kd),.d (.int _) n=>k (.d (.int kd) (kd.wrap n))
  | some .string,some .string,.d .str s=>k (.d .str s)
  | some (.slice e),some .string,.d (.slice (.int .u8)) l=>match P.underlying e with
    | some (.int .u8)=>k (.d .str (ofBytes l))
    | _=>none
  | _,_,_=>chk W false none
def mkRow (st:St) (ty:Ty) (bytes:Nat) (n m:Int) (k:V→St→Option R):Option R :=
  if decide (0≤n∧n≤m∧m * (bytes:Int)≤140737488355328)=true then (let r:=newRow st true ty (List.replicate n.toNat ty.zero); k r.1 r.2) else none
def mkSlice (st:St) (t:TypeId) (l c:V) (k:V→St→Option R):Option R:=match P.underlying t,l,c with
  | some (.slice e),.d (.int .i64) n,.d (.int .i64) m=>match tyOf P depth e,P.info? e with
    | some ty,some i=>if zeroIs P e ty=true then mkRow st ty i.bytes n m k else none
    | _,_=>none
  | _,_,_=>none
def partsD (st:St) (e:Ty) (s:Nat):Nat→List Ob→List (Nat×Operand)→Option (List e.den×List Ob)
  | _,ob,[] => some ([],ob)
  | j,ob,(i,x) :: r=>if Nat.beq i j=true then
      match (if known (ev st s [] x)=true then moved e ob (cellsOf (ev st s [] x)) else none) with
      | some (y,ob)=>match partsD st e s (j + 1) ob r with
        | some (l,ob)=>some (y :: l,ob)
        | none=>none
      | none=>none
    else none
def partsS (st:St) (ob:List Ob) (e:Ty) (s:Nat):Nat→List (Nat×Operand)→Option (List e.den)
  | _,[] => some []
  | j,(i,x) :: r=>if Nat.beq i j=true then
      match (if known (ev st s [] x)=true then ofcells e ((cellsOf (ev st s [] x)).map (plain ob)) else none) with
      | some y=>match partsS st ob e s (j + 1) r with
        | some l=>some (y :: l)
        | none=>none
      | none=>none
    else none
def partsQ (st:St) (e:Ty) (s:Nat) (ann:List (Nat×Bool)):Nat→List (Nat×Operand)→Option (List e.den)
  | _,[] => some []
  | j,(i,x) :: r=>if Nat.beq i j=true then
      match (if (known (ev st s ann x) && !(cellsOf (ev st s ann x)).any isOwn)=true then ofcells e ((cellsOf (ev st s ann x)).map (plain st.ob)) else none) with
      | some y=>match partsQ st e s ann (j + 1) r with
        | some l=>some (y :: l)
        | none=>none
      | none=>none
    else none
def litQ (st:St) (e:Ty) (s:Nat) (ann:List (Nat×Bool)):List (Nat×Operand)→Option V
  | [] => some (.z e)
  | p :: ps=>(partsQ st e s ann 0 (p :: ps)).map fun l=>.d (.slice e) l
def partCells (st:St) (s:Nat) (ps:List (Nat×Operand)):List V:=ps.flatMap fun p=>cellsOf (ev st s [] p.2)
def lit (st:St) (e:Ty) (s:Nat) (ps:List (Nat×Operand)) (k:V→St→Option R):Option R:=match partsD st e s 0 st.ob ps with
  | some (l,ob)=>(let r:=newRow { st with ob:=ob } true e l; k r.1 r.2)
  | none=>match partsS st (frzAll st.ob (partCells st s ps)) e s 0 ps with
    | some l=>(let r:=newRow { st with ob:=frzAll st.ob (partCells st s ps) } false e l; k r.1 r.2)
    | none=>none
def placesOf (t:TypeId):Option (List (Nat×Nat)):=match P.underlying t with
  | some (.struct fs)=>fs.toList.mapM fun f=>(P.info? f.type).map fun i=>(f.offset,i.size)
  | _=>none
def fillV (st:St) (s:Nat) (ann:List (Nat×Bool)) (pl:List (Nat×Nat)):List V→List (Nat×Operand)→Option (List V)
  | z,[] => some z
  | z,(i,x) :: r=>match getAt pl i with
    | some (off,n)=>if (known (ev st s ann x) && Nat.beq (cellsOf (ev st s ann x)).length n && Nat.ble (off + n) z.length)=true then fillV st s ann pl (splice z off n (cellsOf (ev st s ann x))) r else none
    | none=>none
def build (st:St) (s:Nat) (ann:List (Nat×Bool)) (t:TypeId) (ps:List (Nat×Operand)):Option V:=match zeroCells P t,placesOf P t with
  | some z,some pl=>(fillV st s ann pl z ps).map .agg
  | _,_=>none
def appSrc (ob:List Ob) (e:Ty) (dp:Bool) (x:V):Option (List e.den×Bool×List Ob) :=
  if flat e=true then (match getd (.slice e) (plain ob x) with
    | some l=>some (l,dp,ob)
    | none=>none)
  else match dp,x with
    | true,.own id=>match getAt ob id with
      | some (.row true e' l)=>if h:e'=e then some (h ▸ l,true,setAt ob id .dead) else none
      | _=>match getd (.slice e) (plain (frzOb ob x) x) with
        | some l=>some (l,false,frzOb ob x)
        | none=>none
    | _,_=>match getd (.slice e) (plain (frzOb ob x) x) with
      | some l=>some (l,false,frzOb ob x)
      | none=>none
def appBound (n m:Nat) (bytes:Nat):Bool:=Nat.ble ((n + m) * bytes) 140737488355328
def append (st:St) (t:TypeId) (s x:V) (k:V→St→Option R):Option R:=match P.underlying t with
  | some (.slice el)=>match tyOf P depth el,P.info? el with
    | some ty,some i=>if zeroIs P el ty=true then
        match s with
        | .nil=>match appSrc st.ob ty true x with
          | some (ys,dp,ob)=>if appBound 0 ys.length i.bytes=true then (let r:=newRow { st with ob:=ob } dp ty ys; k r.1 r.2) else none
          | none=>none
        | .z _=>match appSrc st.ob ty true x with
          | some (ys,dp,ob)=>if appBound 0 ys.length i.bytes=true then (let r:=newRow { st with ob:=ob } dp ty ys; k r.1 r.2) else none
          | none=>none
        | .own id=>match getAt st.ob id with
          | some (.row dp' ty' l)=>if h:ty'=ty then
              match appSrc (setAt st.ob id .dead) ty dp' x with
              | some (ys,dp,ob)=>if appBound l.length ys.length i.bytes=true then (let r:=newRow { st with ob:=ob } dp ty ((h ▸ l)++ys); k r.1 r.2) else none
              | none=>none
            else none
          | _=>none
        | _=>none
      else none
    | _,_=>none
  | _=>none
def partsOf:(t:Ty)→t.den→List V→List (Nat×Ob)×List V
  | .unit,_,r=>([],r)
  | .pair a b,x,r=>((partsOf a x.1 r).1++(partsOf b x.2 (partsOf a x.1 r).2).1,(partsOf b x.2 (partsOf a x.1 r).2).2)
  | .slice e,l,v :: r=>((match v with | .own id=>[(id,.row true e l)] | _=>[]),r)
  | _,_,_ :: r=>([],r)
  | _,_,[] => ([],[])
def takeC (ob:List Ob):(t:Ty)→List V→Option (t.den×List V)
  | .unit,r=>some ((),r)
  | .pair a b,r=>match takeC ob a r with
    | some (x,r)=>match takeC ob b r with
      | some (y,r)=>some ((x,y),r)
      | none=>none
    | none=>none
  | .slice e,v :: r=>match v with
    | .nil=>some ([],r)
    | .z _=>some ([],r)
    | .own id=>match getAt ob id with
      | some (.row true e' l)=>if h:e'=e then (if Nat.ble 1 e.sz=true then some (h ▸ l,r) else none) else none
      | _=>none
    | _=>none
  | .ptr _,_=>none
  | .ifp _ _,_=>none
  | t,v :: r=>match getd t v with
    | some x=>some (x,r)
    | none=>none
  | _,[] => none
def killL1 (ids:List Nat):V→V
  | .sub id i j=>if ids.any (Nat.beq id)=true then .any else .sub id i j
  | v=>v
def killLA (ids:List Nat):V→V
  | .agg cs=>.agg (cs.map (killL1 ids))
  | v=>killL1 ids v
def killLT (ids:List Nat):V→V
  | .tup cs=>.tup (cs.map (killLA ids))
  | v=>killLA ids v
def killLSub (ids:List Nat):V→V
  | .g s t w v=>.g s t w (killLT ids v)
  | v=>killLT ids v
def killedL (ids:List Nat) (st:St):St:={ st with tm:=st.tm.map fun q=>(q.1,killLSub ids q.2),ob:=st.ob.map (onCells (killL1 ids)) }
def pick {α:Type} (ps:List (Nat×α)) (i:Nat) (z:α):α:=match ps with
  | [] => z
  | (j,x) :: r=>if Nat.beq j i=true then x else pick r i z
def putAll {α:Type} (ps:List (Nat×α)) (l:List α):List α:=l.zipIdx.map fun q=>pick ps q.2 q.1
def nodupB:List Nat→Bool
  | [] => true
  | x :: r=>!(r.any (Nat.beq x)) && nodupB r
def callS (st:St) (ws:WSig) (id i j:Nat) (us:List V) (k:V→St→Option R):Option R:=match getAt st.ob id with
  | some (.row true e l)=>match getSl ws.t e (l.getD i e.zero) j,asTup st.ob ws.qs us with
    | some x,some q=>(ws.F x q).bind fun y=>match setSl ws.t y.1 e (l.getD i e.zero) j with
      | some z=>k (tupOf (ofTup ws.rs y.2)) (killedL [id] { st with ob:=setAt st.ob id (.row true e (l.set i z)) })
      | none=>none
    | _,_=>none
  | _=>none
def subAt:V→Option (Nat×Nat×Nat)
  | .sub id i j=>some (id,i,j)
  | _=>none
def callW (st:St) (ws:WSig) (vs:List V) (k:V→St→Option R):Option R:=match vs with
  | [] => none
  | v :: us=>match subAt v with
   | some p=>if (ws.qs.all flat && ws.rs.all flat)=true then callS st ws p.1 p.2.1 p.2.2 us k else none
   | none=>if (ws.qs.all flat && ws.rs.all flat && known v && aggOk ws.t v)=true then
      match takeC st.ob ws.t (cellsOf v),asTup st.ob ws.qs us with
      | some (x,[]),some q=>if nodupB ((partsOf ws.t x (cellsOf v)).1.map Prod.fst)=true then
          (ws.F x q).bind fun y=>k (tupOf (ofTup ws.rs y.2)) (killedL ((partsOf ws.t x (cellsOf v)).1.map Prod.fst) { st with ob:=putAll (partsOf ws.t y.1 (cellsOf v)).1 st.ob })
        else none
      | _,_=>none
    else none
def callP (st:St) (vs:VSig) (v:V) (us:List V) (k:V→St→Option R):Option R:=match v with
  | .pt id 0 0=>match getAt st.ob id with
    | some (.box cs)=>match moved vs.t st.ob cs,asTup st.ob vs.qs us with
      | some (x,ob1),some q=>if Nat.beq vs.t.sz vs.u.sz=true then (vs.F x q).bind fun y=>k (tupOf (ofTup vs.rs y.2)) { st with ob:=setAt (instC vs.u y.1 ob1).2 id (.box (instC vs.u y.1 ob1).1) } else none
      | _,_=>none
    | _=>none
  | _=>none
def callU (st:St) (vs:VSig) (v:V) (us:List V) (k:V→St→Option R):Option R :=
  if (known v && aggOk vs.t v)=true then
    match moved vs.t st.ob (cellsOf v),asTup st.ob vs.qs us with
    | some (x,ob1),some q=>(vs.F x q).bind fun y=>k (inst1 vs.u y.1 ob1).1 { st with ob:=(inst1 vs.u y.1 ob1).2 }
    | _,_=>none
  else none
def callK (st:St) (vs:VSig) (e:Ty) (v:V) (k:V→St→Option R):Option R:=if isPt v=true then none else
  match asTup (frzAll st.ob (cellsOf v)) [vs.t] [v] with
  | some x=>(vs.F x.1 (tzero vs.qs)).bind fun y=>match getd (.slice e) (.d vs.u y.1) with
    | some l=>(let r:=newRow { st with ob:=frzAll st.ob (cellsOf v) } false e l; k r.1 r.2)
    | none=>none
  | none=>none
def callI (st:St) (vs:VSig) (ks:List TypeId) (v:V) (k:V→St→Option R):Option R:=if (isOwn v || (cellsOf v).any isOwn)=true then none else
  match asTup st.ob [vs.t] [v] with
  | some x=>(vs.F x.1 (tzero vs.qs)).bind fun y=>match ofTup vs.rs y.2 with
    | [.d (.int .i64) g,.d .bool ok] => k (.tup [.ifc ks vs.u g y.1,.d .bool ok]) st
    | _=>none
  | none=>none
def callV (st:St) (vs:VSig) (l:List V) (k:V→St→Option R):Option R:=match l with
  | [] => none
  | v :: us=>match vs.ks with
   | some ks=>(match us with | [] => callI st vs ks v k | _=>none)
   | none=>match vs.sh with
    | some e=>(match us with | [] => callK st vs e v k | _=>none)
    | none=>if (vs.qs.all flat && vs.rs.all flat)=true then (if vs.ptr=true then callP st vs v us k else callU st vs v us k) else none
def callL (st:St) (ls:LSig) (l:List V) (k:V→St→Option R):Option R:=match l with
  | [] => none
  | v :: us=>if (isPt v || us.any isPt)=true then none else match asTup (frzAll st.ob (cellsOf v)) [ls.t] [v],asTup (frzAll st.ob (cellsOf v)) ls.qs us with
    | some x,some q=>(ls.F x.1 q).bind fun y=>k (tupOf (ofTup ls.rs y)) { st with ob:=frzAll st.ob (cellsOf v) }
    | _,_=>none
def oneSl:(rs:List Ty)→Tup rs→Option (List ByteArray)
  | [.slice .str],r=>some r.1
  | _,_=>none
def callH (st:St) (hs:HSig) (l:List V) (k:V→St→Option R):Option R:=match l with
  | [a,.cap f ty x] => match T f,asTup st.ob [.slice .str] [a] with
    | some sig,some l=>if sig.w.isNone=true then
        (hs.F (fun y=>(asTup st.ob sig.ps (.d .str y :: dcells ty x)).bind fun z=>(sig.F z).bind (oneSl sig.rs)) l.1).bind fun y=>(let p:=instT hs.rs y st.ob; k (tupOf p.1) { st with ob:=p.2 })
      else none
    | _,_=>none
  | _=>none
def callF (st:St) (W:Option Bool) (f:FuncId) (vs:List V) (k:V→St→Option R):Option R:=match T f with
  | some sig=>match sig.w with
   | some ws=>(match W with | none=>(match ws.v with | some xs=>callV st xs vs k | none=>match ws.l with | some ls=>(match ls.h with | some hs=>callH T st hs vs k | none=>callL st ls vs k) | none=>callW st ws vs k) | some _=>none)
   | none=>match asTup st.ob sig.ps vs with
    | some x =>
      if sig.fresh=true then
        match W with
        | none=>(sig.F x).bind fun y=>(let p:=instT sig.rs y st.ob; k (tupOf p.1) { st with ob:=p.2 })
        | some w=>(if w=true then sig.F x else some (tzero sig.rs)).bind fun y=>k (tupOf (ofTup sig.rs y)) st
      else if sig.rs.all flat=true then
        (match W with | none=>sig.F x | some w=>if w=true then sig.F x else some (tzero sig.rs)).bind fun y=>k (tupOf (ofTup sig.rs y)) st
      else
        match W with
        | none=>if (vs.flatMap cellsOf).all (ptOk (frzPts st.ob (vs.flatMap cellsOf)))=true then (sig.F x).bind fun y=>k (tupOf (ofTup sig.rs y)) { st with ob:=frzAll (frzPts st.ob (vs.flatMap cellsOf)) (vs.flatMap cellsOf) } else none
        | some w=>if vs.any (fun v=>(isOwn v || (cellsOf v).any isOwn) && !(isPt v && ptOk st.ob v))=true then none else
          (if w=true then sig.F x else some (tzero sig.rs)).bind fun y=>k (tupOf (ofTup sig.rs y)) st
    | none=>none
  | none=>none
def isBoxB (ob:List Ob) (id:Nat):Bool:=match getAt ob id with
  | some (.box _)=>true
  | some (.fbox _)=>true
  | _=>false
def boxIds (ob:List Ob):List V→Option (List Nat)
  | [] => some []
  | .pt id 0 0 :: r=>if isBoxB ob id=true then (boxIds ob r).map (id :: ·) else none
  | _=>none
def callC (st:St) (W:Option Bool) (c:V) (vs:List V) (k:V→St→Option R):Option R:=match c with
  | .clo f ty x=>match T f with
    | some sig=>if (sig.w.isNone && !sig.fresh && sig.rs.all flat)=true then
        match asTup st.ob sig.ps (ofTy ty x :: vs) with
        | some z=>(match W with | none=>sig.F z | some w=>if w=true then sig.F z else some (tzero sig.rs)).bind fun y=>k (tupOf (ofTup sig.rs y)) st
        | none=>none
      else none
    | none=>none
  | .cap f ty x=>match T f with
    | some sig=>if (sig.w.isNone && !sig.fresh && sig.rs.all flat)=true then
        match asTup st.ob sig.ps (vs++dcells ty x) with
        | some z=>(match W with | none=>sig.F z | some w=>if w=true then sig.F z else some (tzero sig.rs)).bind fun y=>k (tupOf (ofTup sig.rs y)) st
        | none=>none
      else none
    | none=>none
  | .capm f ids=>match T f with
    | some sig=>if (sig.w.isNone && !sig.fresh && sig.rs.all flat && ids.all (isBoxB st.ob))=true then
        match asTup st.ob sig.ps (vs++ids.map fun id=>.pt id 0 0) with
        | some z=>(match W with | none=>sig.F z | some w=>if w=true then sig.F z else some (tzero sig.rs)).bind fun y=>k (tupOf (ofTup sig.rs y)) st
        | none=>none
      else none
    | none=>none
  | _=>none
def rowT:List Ty→Ty
  | [] => .unit
  | t :: ts=>.pair t (rowT ts)
def packT:(ts:List Ty)→Tup ts→(rowT ts).den
  | [],_=>()
  | _ :: ts,x=>(x.1,packT ts x.2)
def capT (ps:List Ty) (n:Nat):List Ty:=ps.drop (ps.length - n)
def cloOf (st:St) (W:Option Bool) (fn:Fn) (bs:List V) (fr:List V) (k:V→St→Option R):Option R:=match W,fn,bs,fr with
  | _,.func f,[b],[] => match T f with
    | some sig=>match sig.ps with
      | t :: _=>if (known b && !(isOwn b || (cellsOf b).any isOwn))=true then
          match asTup st.ob [t] [b] with
          | some x=>k (.clo f t x.1) st
          | none=>none
        else none
      | [] => none
    | none=>none
  | none,.func f,[],u :: us=>match T f with
    | some sig=>if ((capT sig.ps (us.length + 1)).all (fun t=>!t.isAgg) && (u :: us).all (fun v=>!((isOwn v || (cellsOf v).any isOwn) && !(isPt v && ptOk st.ob v))))=true then
        match asTup st.ob (capT sig.ps (us.length + 1)) (u :: us) with
        | some x=>k (.cap f (rowT (capT sig.ps (us.length + 1))) (packT _ x)) st
        | none=>none
      else match boxIds st.ob (u :: us) with
        | some ids=>k (.capm f ids) st
        | none=>none
    | none=>none
  | _,_,_,_=>none
def methodFn (k:TypeId) (name:String):Option FuncId:=match P.info? k,P.underlying k with
  | some i,some (.struct _)=>match i.methods.find? (·.name == name) with
    | some m=>if m.path.isEmpty=true then (match m.func with
      | some (f,false)=>some f
      | _=>none) else none
    | none=>none
  | _,_=>none
def boolOf (rs:List Ty) (y:Tup rs):Option Bool:=match ofTup rs y with
  | [.d .bool b] => some b
  | _=>none
def icall (ob:List Ob) (t:Ty) (x:t.den) (name:String) (us:List V):List TypeId→Int→Option Bool
  | [],_=>none
  | k :: r,g=>match methodFn P k name with
    | some f=>match T f with
      | some sig=>if (sig.w.isNone && !sig.fresh && sig.rs.all flat)=true then
          match asTup ob sig.ps (ofTy (.pair t .unit) (x,()) :: us) with
          | some z=>if decide (g=0)=true then (sig.F z).bind (boolOf sig.rs) else icall ob t x name us r (g - 1)
          | none=>none
        else none
      | none=>none
    | none=>none
def answerT (name:String):List TypeId→Option Ty
  | [] => none
  | k :: _=>match methodFn P k name with
    | some f=>match T f with
      | some sig=>match sig.rs with
        | [t] => some t
        | _=>none
      | none=>none
    | none=>none
def aggOf (rt:Ty) (rs:List Ty) (y:Tup rs):Option rt.den:=match ofTup rs y with
  | [.agg cs] => ofcells rt cs
  | _=>none
def icallD (ob:List Ob) (t:Ty) (x:t.den) (name:String) (us:List V) (rt:Ty):List TypeId→Int→Option rt.den
  | [],_=>none
  | k :: r,g=>match methodFn P k name with
    | some f=>match T f with
      | some sig=>if sig.w.isNone=true then
          match asTup ob sig.ps (ofTy (.pair t .unit) (x,()) :: us) with
          | some z=>if decide (g=0)=true then (sig.F z).bind (aggOf rt sig.rs) else icallD ob t x name us rt r (g - 1)
          | none=>none
        else none
      | none=>none
    | none=>none
def callX (st:St) (W:Option Bool) (v:V) (name:String) (us:List V) (k:V→St→Option R):Option R:=match v with
  | .ifc ks t g x=>match answerT P T name ks with
    | some (.pair a b)=>if us.any (fun v=>isOwn v || (cellsOf v).any isOwn)=true then none else (match W with
      | none=>icallD P T st.ob t x name us (.pair a b) ks g
      | some w=>if w=true then icallD P T st.ob t x name us (.pair a b) ks g else some (Ty.zero (.pair a b))).bind fun y=>k (.agg (dcells (.pair a b) y)) st
    | _=>(match W with
      | none=>icall P T st.ob t x name us ks g
      | some w=>if w=true then icall P T st.ob t x name us ks g else some false).bind fun b=>k (.d .bool b) st
  | _=>none
def xOf (f:FuncId):Option (Clos→List Ob→List V→Tr):=match T f with
  | some sig=>sig.X
  | none=>none
def closF (f:FuncId) (us:List V):Option (List V):=match T f with
  | some sig=>if (sig.w.isNone && !sig.fresh && sig.rs.all flat)=true then (asTup [] sig.ps us).bind fun z=>(sig.F z).map (ofTup sig.rs) else none
  | none=>none
def closT:Clos:=fun c ts x=>match c with
  | .fn f=>closF T f (ofTup ts x)
  | .cap f ty z=>closF T f (ofTup ts x++dcells ty z)
  | .clo f ty z=>closF T f (ofTy ty z :: ofTup ts x)
  | _=>none
def runX (st:St) (W:Option Bool):Tr→(V→St→Option R)→Option R
  | .fail,_=>none
  | .leaf v,k=>k v st
  | .chg v ob ids,k=>(match W with
    | none=>k v (killedL ids { st with ob:=ob })
    | some _=>none)
  | .ite b x y,k=>if b=true then runX st W x k else runX st W y k
  | .bind t o f,k=>(match W with
    | none=>o
    | some w=>if w=true then o else some t.zero).bind fun z=>runX st W (f z) k
def copyV (st:St) (t:TypeId) (x y:V) (k:V→St→Option R):Option R:=match P.underlying t,x with
  | some (.slice el),.own id=>match getAt st.ob id,P.info? el,getd (.slice .str) (plain st.ob y) with
    | some (.row true .str l),some i,some ys=>if Nat.beq i.size 1=true then
        (if decide (List.length l=List.length ys∧0 < List.length ys)=true then k (.d (.int .i64) (List.length ys:Int)) (killed id { st with ob:=setAt st.ob id (.row true .str ys) }) else none)
      else none
    | _,_,_=>none
  | _,_=>none
def callO (st:St) (s:Nat) (W:Option Bool) (ann:List (Nat×Bool)) (c:Call) (k:V→St→Option R):Option R:=match c.callee with
  | .value (.func f)=>match xOf T f with
    | some X=>runX st W (X (closT T) st.ob (c.args.toList.map (ev st s ann))) k
    | none=>callF T st W f (c.args.toList.map (ev st s ann)) k
  | .value (.tmp t)=>callC T st W (ev st s ann (.tmp t)) (c.args.toList.map (ev st s ann)) k
  | .invoke x name=>callX P T st W (ev st s ann x) name (c.args.toList.map (ev st s ann)) k
  | .builtin .len=>match c.args.toList,c.argTypes.toList with
    | [x],[t] => match lenT (P.underlying t) (plain st.ob (ev st s ann x)) with
      | some v=>k v st
      | none=>none
    | _,_=>none
  | .builtin .max=>match c.args.toList with
    | [x,y] => match mmI true (ev st s ann x) (ev st s ann y) with
      | some v=>k v st
      | none=>none
    | _=>none
  | .builtin .min=>match c.args.toList with
    | [x,y] => match mmI false (ev st s ann x) (ev st s ann y) with
      | some v=>k v st
      | none=>none
    | _=>none
  | .builtin .append=>match W,c.args.toList,c.argTypes.toList with
    | none,[x,y],[t,t'] => if Nat.beq t' t=true then append P st t (ev st s ann x) (ev st s ann y) k else none
    | _,_,_=>none
  | .builtin .copy=>match W,c.args.toList,c.argTypes.toList with
    | none,[x,y],[t,_] => copyV P st t (ev st s ann x) (ev st s ann y) k
    | _,_,_=>none
  | _=>none
def opStep (st:St) (s:Nat) (W:Option Bool) (ann:List (Nat×Bool)) (o:Oper) (k:V→St→Option R):Option R:=match o.op with
  | .move x=>k (ev st s ann x) st
  | .assign x=>match W with
    | none=>ripe st (ev st s ann x) k
    | some _=>k (ev st s ann x) st
  | .pick c a b=>match c with
    | .tmp t=>match ev st s ann (.tmp t),b,a with
      | .d .bool x,.const (.bool false),_=>match ev st s ((t,true) :: ann) a with
        | .d .bool y=>k (.d .bool (x && y)) st
        | _=>none
      | .d .bool x,_,.const (.bool true)=>match ev st s ((t,false) :: ann) b with
        | .d .bool y=>k (.d .bool (x || y)) st
        | _=>none
      | _,_,_=>none
    | _=>none
  | .load t a=>load P W st.ob t (ev st s ann a) fun v=>k v st
  | .binOp op t x y _=>match eqS P t op (ev st s ann x) (ev st s ann y) with
    | some v=>k v st
    | none=>bin (P.underlying t) W op (ev st s ann x) (ev st s ann y) fun v=>k v st
  | .unOp op _ x=>match un op (ev st s ann x) with
    | some v=>k v st
    | none=>none
  | .fieldAddr t x f=>match fieldOf P t f with
    | some (off,_,_)=>match fieldA st.ob (ev st s ann x) off with
      | some v=>k v st
      | none=>match ev st s ann x with
        | .d (.ptr e) o=>chk W o.isSome (k (.rp e (o.getD e.zero) off) st)
        | _=>none
    | none=>none
  | .field t x f=>match fieldOf P t f,ev st s ann x with
    | some (off,n,ag),.agg cs=>if ag=true then k (.agg (cut cs off n)) st else match cut cs off n with
      | [v] => k v st
      | _=>none
    | _,_=>none
  | .indexAddr t x i=>match P.underlying t with
    | some (.slice e)=>match P.info? e with
      | some ti=>if szOk (rowish st.ob (ev st s ann x)) ti.size=true then idx W st (ev st s ann x) (ev st s ann i) fun v=>k v st else none
      | none=>none
    | _=>none
  | .index t x i=>match P.underlying t with
    | some .string=>strIdx W (ev st s ann x) (ev st s ann i) fun v=>k v st
    | some (.array n e)=>match aggT P e,P.info? e with
      | some false,some ti=>if Nat.beq ti.size 1=true then tabIdx W n (ev st s ann x) (ev st s ann i) fun v=>k v st else none
      | _,_=>none
    | _=>none
  | .convert a b x=>conv P W a b (plain st.ob (ev st s ann x)) fun v=>k v st
  | .slice t x lo hi none=>sliceV st.ob (P.underlying t) W (fun e n=>match P.info? e with | some i=>Nat.beq i.size n | none=>false) (ev st s ann x) (lo.map (ev st s ann)) (hi.map (ev st s ann)) fun v=>k v st
  | .nilCheck x=>match ev st s ann x with
    | .pt id i off=>match getAt st.ob id with
      | some .dead=>none
      | none=>none
      | _=>k (.pt id i off) st
    | .rp t y off=>k (.rp t y off) st
    | .d (.ptr e) o=>chk W o.isSome (k (.rp e (o.getD e.zero) 0) st)
    | _=>none
  | .extract x i=>match ev st s ann x with
    | .tup cs=>match getAt cs i with
      | some v=>k v st
      | none=>none
    | _=>none
  | .call c=>callO P T st s W ann c k
  | .makeInterface t x=>match mkIfc P st.ob t (ev st s ann x) with
    | some v=>k v st
    | none=>none
  | .makeFunc fn bs fr=>cloOf T st W fn (bs.toList.map (ev st s ann)) (fr.toList.map (ev st s ann)) k
  | .alloc t=>match W,zeroCells P t with
    | none,some z=>(let r:=alloc st z; k r.1 r.2)
    | _,_=>none
  | .box _ x=>match W,known (ev st s ann x) with
    | none,true=>(let r:=alloc st (cellsOf (ev st s ann x)); k r.1 r.2)
    | _,_=>none
  | .store t a x=>match W,known (ev st s ann x),store P st t (ev st s ann a) (ev st s ann x) with
    | none,true,some st'=>k .any st'
    | none,true,none=>match storeP P st t (ev st s ann a) (ev st s ann x) with
      | some (c,st')=>if c=true then k .any st' else none
      | none=>none
    | _,_,_=>none
  | .makeSlice t l c=>match W with
    | none=>mkSlice P st t (ev st s ann l) (ev st s ann c) k
    | _=>none
  | .buildSlice t n ps=>match W,P.underlying t with
    | none,some (.slice el)=>match tyOf P depth el,P.info? el with
      | some ty,some i=>if (zeroIs P el ty && Nat.beq ps.toList.length n && Nat.ble (n * i.size) 1000)=true then
          lit st ty s ps.toList k
        else none
      | _,_=>none
    | some _,some (.slice el)=>match tyOf P depth el,P.info? el with
      | some ty,some i=>if (zeroIs P el ty && Nat.beq ps.toList.length n && Nat.ble (n * i.size) 1000)=true then
          match litQ st ty s ann ps.toList with
          | some v=>k v st
          | none=>none
        else none
      | _,_=>none
    | _,_=>none
  | .build t ps=>match build P st s ann t ps.toList with
    | some v=>k v st
    | none=>none
  | .makeMap t none=>match W,mapKey P t with
    | none,some q=>k (.mp st.ob.length) { st with ob:=st.ob++[.mp q []] }
    | _,_=>none
  | .lookup t m x false=>match mapKey P t,ev st s ann m,ev st s ann x with
    | some q,.mp id,us=>match mlook st.ob q id us with
      | some n=>k (.d (.int .i64) n) st
      | none=>none
    | _,_,_=>none
  | .mapEntry t m x=>match W,mapKey P t,ev st s ann m,ev st s ann x with
    | none,some q,.mp id,us=>match mentry st.ob q id us with
      | some (n,j,o)=>k (.tup [.d (.int .i64) n,.d (.int .i64) (j:Int)]) { st with ob:=setAt st.ob id o }
      | none=>none
    | _,_,_,_=>none
  | .entryStore t m j x=>match W,ev st s ann m,ev st s ann j,ev st s ann x with
    | none,.mp id,.d (.int .i64) j,.d (.int .i64) n=>match getAt st.ob id with
      | some (.mp q l)=>if decide (0≤j∧j < (l.length:Int))=true then k .any { st with ob:=setAt st.ob id (.mp q (l.set j.toNat ((l.getD j.toNat (q.zero,0)).1,n))) } else none
      | _=>none
    | _,_,_,_=>none
  | .mapUpdate t m x v=>match W,mapKey P t,ev st s ann m,ev st s ann v with
    | none,some q,.mp id,.d (.int .i64) n=>match mupd st.ob q id (ev st s ann x) n with
      | some o=>k .any { st with ob:=setAt st.ob id o }
      | none=>none
    | _,_,_,_=>none
  | _=>none
structure Fr where
  n:Nat
  lo:Nat
def dstOk (N:Fr) (ri:List Ri):Option Tmp→Bool
  | none=>true
  | some t=>(Nat.ble (t + 1) N.n && Nat.ble N.lo t) && ri.all fun q=>match q.dst with
    | some u=>!Nat.beq t u
    | none=>true
def preF (st:St) (s:Nat) (W:Option Bool) (ann:List (Nat×Bool)) (o:Oper):St:=match W,o.op with
  | some _,.call c=>match c.callee with
    | .value (.func f)=>match T f with
      | some sig=>if (!sig.fresh && sig.w.isNone && !sig.rs.all flat)=true then { st with ob:=frzPts st.ob ((c.args.toList.map (ev st s ann)).flatMap cellsOf) } else st
      | none=>st
    | _=>st
  | none,.makeInterface _ x=>if ptOk (frzPts st.ob [ev st s ann x]) (ev st s ann x)=true then { st with ob:=frzPts st.ob [ev st s ann x] } else st
  | none,.makeFunc _ _ fr=>if (fr.toList.map (ev st s ann)).all (fun v=>ptOk (frzPts st.ob (fr.toList.map (ev st s ann))) v)=true then { st with ob:=frzPts st.ob (fr.toList.map (ev st s ann)) } else st
  | _,_=>st
def ops (N:Fr) (q:Bool) (s:Nat) (k:St→Option R):List Oper→List Ri→St→Option R
  | [],_,st=>k st
  | o :: r,ri,st=>if dstOk N ri o.dst=true then
      match guardOf st s ri o.guard with
      | some (W,ann,gi)=>opStep P T (preF T st s W ann o) s (if q=true then some (W.getD true) else W) ann o fun v st'=>ops N q s k r (ri++[⟨o.dst,W,ann⟩]) (put1 st' o.dst gi s v)
      | none=>none
    else none
def edgeBits (acc:List Nat) (e:Edge):Nat:=if Region.binds .any e=true then Nat.lor (2 ^ e.on) ((getAt acc e.on).getD 0) else 0
def afterBits (acc:List Nat) (es:List Edge):Nat:=es.foldl (fun n e=>Nat.lor n (edgeBits acc e)) 0
def befs:List Nat→List Oper→List Nat
  | acc,[] => acc
  | acc,o :: r=>befs (acc++[afterBits acc o.after.toList]) r
def bef (bs:List Nat) (i j:Nat):Bool:=((getAt bs i).getD 0).testBit j
def tailAt:Nat→Nat→List Nat→Nat
  | _,m,[] => m
  | i,m,b :: r=>tailAt (i + 1) (if Nat.beq b (2 ^ i - 1)=true then m else i + 1) r
def fromOn (n:Nat):V→Bool
  | .own id=>Nat.ble n id
  | .sub id _ _=>Nat.ble n id
  | .part id _ _=>Nat.ble n id
  | _=>true
def rootOf (tm:List (Nat×V)) (os:List Oper):Nat→Operand→Option Nat
  | n + 1,.tmp t=>match os.find? fun o=>match o.dst with | some d=>Nat.beq d t | none=>false with
    | some o=>match o.op with
      | .fieldAddr _ x _=>rootOf tm os n x
      | .nilCheck x=>rootOf tm os n x
      | .move x=>rootOf tm os n x
      | _=>none
    | none=>match look t tm with
      | .pt id _ _=>some id
      | _=>none
  | _,_=>none
def hide (tm:List (Nat×V)) (os:List Oper):List Oper→List Ob→List Ob
  | [],ob=>ob
  | o :: r,ob=>match o.op with
    | .store _ a _=>match rootOf tm os os.length a with
      | some id=>hide tm os r (setAt ob id .dead)
      | none=>hide tm os r ob
    | _=>hide tm os r ob
def hidden (ob0 ob:List Ob) (id:Nat):Bool:=(match getAt ob id with
  | some (.box _)=>true
  | _=>false) && (match getAt ob0 id with
  | some .dead=>true
  | some _=>false
  | none=>true)
def turnsNew (ob0:List Ob) (n:Nat) (st:St) (s:Nat) (o:Oper):Bool:=match o.op with
  | .alloc _ | .box _ _ | .makeSlice _ _ _ | .mapEntry _ _ _=>true
  | .store _ a _=>match ev st s [] a with
    | .pt id _ _=>hidden ob0 st.ob id
    | _=>false
  | .buildSlice _ _ ps=>(partCells st s ps.toList).all (fromOn n)
  | .call c=>match c.callee with
    | .value (.func f)=>match T f with
      | some sig=>sig.fresh && sig.w.isNone && sig.X.isNone
      | none=>false
    | .builtin .append=>c.args.toList.all fun x=>fromOn n (ev st s [] x)
    | _=>false
  | _=>false
def Pre (ob ob2:List Ob):Prop:=ob.length≤ob2.length∧∀ (id:Nat) (o:Ob),getAt ob id=some o→o≠.dead→getAt ob2 id=some o∨∃ k l l2,o=.mp k l∧getAt ob2 id=some (.mp k l2)∧∀ y,mget k l2 y=mget k l y
def isMk (o:Oper):Bool:=match o.guard with
  | some _=>false
  | none=>match o.op with
    | .alloc _ | .box _ _ | .makeSlice _ _ _ | .buildSlice _ _ _ | .store _ _ _ | .mapEntry _ _ _=>true
    | .call c=>match c.callee with
      | .value (.func f)=>match T f with
        | some sig=>sig.fresh && !sig.rs.all flat && sig.X.isNone
        | none=>false
      | .builtin .append=>true
      | _=>false
    | _=>false
def mksOf:Nat→List Oper→List Nat
  | _,[] => []
  | i,o :: r=>if isMk T o=true then i :: mksOf (i + 1) r else mksOf (i + 1) r
def tmpsOf (l:List Operand):List Nat:=l.filterMap fun | .tmp t=>some t | _=>none
def slotOk (bs:List Nat) (i:Nat) (ts:List Nat):Nat→List Oper→Bool
  | _,[] => true
  | j,q :: r=>(match q.dst with
    | none=>true
    | some d=>Nat.beq i j || !(ts.any (Nat.beq d)) || (Nat.ble (j + 1) i && bef bs i j) || (Nat.ble (i + 1) j && bef bs j i)) && slotOk bs i ts (j + 1) r
def floats (bs mk:List Nat) (i:Nat):Bool:=!(mk.all fun c=>(Nat.ble (c + 1) i && bef bs i c) || (Nat.ble (i + 1) c && bef bs c i))
def opOk (bs mk:List Nat) (pre:List Oper) (i:Nat) (o:Oper):Bool :=
  slotOk bs i (tmpsOf o.op.operands.toList) 0 pre &&
  (match o.guard with
    | none=>true
    | some (j,_)=>Nat.ble (j + 1) i && bef bs i j) &&
  (if mk.any (Nat.beq i)=true then mk.all fun c=>Nat.ble i c || bef bs i c
    else floats bs mk i || mk.all fun c=>(Nat.ble (c + 1) i && bef bs i c) || (Nat.ble (i + 1) c && bef bs c i))
def preOk (bs mk:List Nat) (pre:List Oper):Nat→List Oper→Bool
  | _,[] => true
  | i,o :: r=>opOk bs mk pre i o && preOk bs mk pre (i + 1) r
def opsD (N:Fr) (s:Nat) (bs mk:List Nat) (ob0:List Ob) (k:List Ri→St→Option R):Nat→List Oper→List Ri→St→Option R
  | _,[],ri,st=>k ri st
  | i,o :: r,ri,st=>if dstOk N ri o.dst=true then
      match guardOf st s ri o.guard with
      | some (W,ann,gi) =>
        if mk.any (Nat.beq i)=true then
          match W,ann,gi with
          | none,[],none=>if turnsNew T ob0 ob0.length st s o=true then opStep P T st s none [] o fun v st'=>opsD N s bs mk ob0 k (i + 1) r (ri++[⟨o.dst,none,[]⟩]) (put1 st' o.dst none s v) else none
          | _,_,_=>none
        else if floats bs mk i=true then
          opStep P T { st with ob:=ob0 } s (some (W.getD true)) ann o fun v _=>opsD N s bs mk ob0 k (i + 1) r (ri++[⟨o.dst,W,ann⟩]) (put1 st o.dst gi s v)
        else opStep P T st s (some (W.getD true)) ann o fun v _=>opsD N s bs mk ob0 k (i + 1) r (ri++[⟨o.dst,W,ann⟩]) (put1 st o.dst gi s v)
      | none=>none
    else none
def drawnAt (N:Fr) (s:Nat) (k:St→Option R) (os:List Oper) (st:St) (bs:List Nat) (m:Nat) (mk:List Nat):Option R :=
  if preOk bs mk (os.take m) 0 (os.take m)=true then opsD P T N s bs mk (hide st.tm (os.take m) (os.take m) st.ob) (fun ri st=>ops P T N false s k (os.drop m) ri st) 0 (os.take m) [] st else none
def lateOp (N:Fr) (st:St) (o:Oper):Bool:=match o.op,o.guard,o.dst with
  | .alloc t,none,some d=>(zeroCells P t).isSome && (Nat.ble (d + 1) N.n && Nat.ble N.lo d) && (match look d st.tm with | .any=>true | _=>false)
  | _,_,_=>false
def lateN (N:Fr) (st:St):List Oper→Nat
  | [] => 0
  | o :: r=>if lateOp P N st o=true then lateN N st r + 1 else 0
def cutAt (N:Fr) (st:St) (os:List Oper) (m:Nat):Nat:=if nodupB ((os.take m).filterMap (·.dst))=true then m - lateN P N st (os.take m).reverse else m
def mkFix (bs:List Nat) (os:List Oper) (mk:List Nat):List Nat:=mk.filter fun i=>match getAt os i with
  | some o=>(match o.op with
    | .buildSlice _ _ _=>mk.all fun c=>Nat.beq c i || (Nat.ble (c + 1) i && bef bs i c) || (Nat.ble (i + 1) c && bef bs c i)
    | _=>true)
  | none=>true
def drawnM (N:Fr) (s:Nat) (k:St→Option R) (os:List Oper) (st:St) (bs:List Nat) (m:Nat):Option R:=drawnAt P T N s k os st bs m (mkFix bs (os.take m) (mksOf T 0 (os.take m)))
def drawnB (N:Fr) (s:Nat) (k:St→Option R) (os:List Oper) (st:St) (bs:List Nat):Option R:=drawnM P T N s k os st bs (cutAt P N st os (tailAt 0 0 bs))
def acOk:Nat→List Oper→Bool
  | _,[] => true
  | i,o :: r=>(o.after.toList.all fun e=>!Region.binds .any e || Nat.ble (e.on + 1) i) && acOk (i + 1) r
def drawn (N:Fr) (s:Nat) (k:St→Option R) (os:List Oper) (st:St):Option R:=if acOk 0 os=true then drawnB P T N s k os st (befs [] os) else none
variable (TL:Nat→(Q:Type)→St→(Exit→St→Option Q)→Option Q)
def firstR:Code→Nat
  | .region id _ _=>id
  | .seq a _=>firstR a
  | .cond _ a _=>firstR a
  | .block _ a=>firstR a
  | .loop a=>firstR a
  | .scope a=>firstR a
  | _=>0
def den (N:Fr):Code→St→(Exit→St→Option R)→Option R
  | .skip,st,k=>k .normal st
  | .region id os draw,st,k=>if st.dn.any (Nat.beq id)=true then none else
      if draw=true then drawn P T N id (fun st=>k .normal { st with dn:=id :: st.dn }) os.toList st
      else ops P T N false id (fun st=>k .normal { st with dn:=id :: st.dn }) os.toList [] st
  | .seq a b,st,k=>den N a st fun e st'=>match e with
    | .normal=>den N b st' k
    | e=>k e st'
  | .cond c a b,st,k=>match ev st 0 [] c with
    | .d .bool x=>if x=true then den N a st k else den N b st k
    | _=>none
  | .block id a,st,k=>den N a st fun e st'=>match e with
    | .exit j=>if Nat.beq j id=true then k .normal st' else k (.exit j) st'
    | e=>k e st'
  | .loop a,st,k=>TL (firstR a) R st k
  | .scope a,st,k=>den N a st fun e st'=>match e with
    | .goto _=>none
    | e=>k e st'
  | .exit id,st,k=>k (.exit id) st
  | .ret,st,k=>k .ret st
  | .label _,st,k=>k .normal st
  | _,_,_=>none
def start (args:List V):St:={ tm:=args.zipIdx.map fun p=>(p.2,p.1),ob:=[] }
def mvT:(ts:List Ty)→List Ob→List V→Option (Tup ts)
  | [],_,[] => some ()
  | t :: ts,ob,v :: vs=>match (if t.isAgg=true then (match v with | .agg cs=>moved t ob cs | _=>none) else moved t ob [v]) with
    | some (x,ob)=>match mvT ts ob vs with
      | some r=>some (x,r)
      | none=>none
    | none=>none
  | _,_,_=>none
def resOf (fresh:Bool) (st:St) (rs:List Ty):List ResultVar→List V→Option (Tup rs)
  | [],acc=>if fresh=true then mvT rs st.ob acc else asTup st.ob rs acc
  | .tmp t :: r,acc=>resOf fresh st rs r (acc++[look t st.tm])
  | .cell a t :: r,acc=>load P none st.ob t (look a st.tm) fun v=>resOf fresh st rs r (acc++[v])
def body (fn:Func) (ps rs:List Ty) (fresh:Bool) (x:Tup ps):Option (Tup rs):=match fn.body with
  | some c=>if Nat.ble ps.length fn.ntmps=true then den P T TL ⟨fn.ntmps,0⟩ c (start (ofTup ps x)) fun e st=>match e with
    | .normal | .ret=>resOf P fresh st rs fn.results.toList []
    | _=>none
    else none
  | none=>none
def opqC:V→V
  | .d (.slice _) l=>.sl (List.length l)
  | .d (.ptr _) _=>.any
  | .d (.ifp _ _) _=>.any
  | v=>v
def opqV (t:Ty) (x:t.den):V:=match ofTy t x with
  | .agg cs=>.agg (cs.map opqC)
  | v=>opqC v
def opqT:(ts:List Ty)→Tup ts→List V
  | [],_=>[]
  | t :: ts,x=>opqV t x.1 :: opqT ts x.2
def bodyV (fn:Func) (us:List V) (rs:List Ty) (fresh:Bool):Option (Tup rs):=match fn.body with
  | some c=>if Nat.ble us.length fn.ntmps=true then den P T TL ⟨fn.ntmps,0⟩ c (start us) fun e st=>match e with
    | .normal | .ret=>resOf P fresh st rs fn.results.toList []
    | _=>none
    else none
  | none=>none
def startW (t:Ty) (x:t.den) (us:List V):St:={ tm:=((inst1 t x []).1 :: us).zipIdx.map fun p=>(p.2,p.1),ob:=(inst1 t x []).2 }
def bodyW (fn:Func) (t:Ty) (qs rs:List Ty) (x:t.den) (q:Tup qs):Option (t.den×Tup rs):=match fn.body with
  | some c=>if (Nat.ble (qs.length + 1) fn.ntmps && qs.all flat && rs.all flat)=true then den P T TL ⟨fn.ntmps,1⟩ c (startW t x (ofTup qs q)) fun e st=>match e with
    | .normal | .ret=>match resOf P false st rs fn.results.toList [],mvT [t] st.ob [look 0 st.tm] with
      | some r,some y=>some (y.1,r)
      | _,_=>none
    | _=>none
    else none
  | none=>none
def startP (t:Ty) (x:t.den) (us:List V):St:={ tm:=(V.pt (instC t x []).2.length 0 0 :: us).zipIdx.map fun p=>(p.2,p.1),ob:=(instC t x []).2++[.box (instC t x []).1] }
def bodyP (fn:Func) (t:Ty) (qs:List Ty) (u:Ty) (rs:List Ty) (x:t.den) (q:Tup qs):Option (u.den×Tup rs):=match fn.body with
  | some c=>if (Nat.ble (qs.length + 1) fn.ntmps && qs.all flat && rs.all flat)=true then den P T TL ⟨fn.ntmps,1⟩ c (startP t x (ofTup qs q)) fun e st=>match e with
    | .normal | .ret=>match look 0 st.tm with
      | .pt id 0 0=>match getAt st.ob id with
        | some (.box cs)=>match resOf P false st rs fn.results.toList [],moved u st.ob cs with
          | some r,some y=>some (y.1,r)
          | _,_=>none
        | _=>none
      | _=>none
    | _=>none
    else none
  | none=>none
def bodyU (fn:Func) (t:Ty) (qs:List Ty) (u:Ty) (x:t.den) (q:Tup qs):Option (u.den×Tup []):=match fn.body with
  | some c=>if (Nat.ble (qs.length + 1) fn.ntmps && qs.all flat)=true then den P T TL ⟨fn.ntmps,0⟩ c (startW t x (ofTup qs q)) fun e st=>match e with
    | .normal | .ret=>resOf P true st [u] fn.results.toList []
    | _=>none
    else none
  | none=>none
end
inductive Kc where
  | d (t:Ty)
  | row (dp:Bool) (e:Ty)
inductive Kn where
  | d (t:Ty)
  | row (dp:Bool) (e:Ty)
  | box (cs:List Kc)
  | rb (e:Ty)
  | pre (e:Ty)
  | mp (k:Ty)
  | cap (f:FuncId) (ss:List Nat)
@[reducible] def Kc.den:Kc→Type
  | .d t=>t.den
  | .row _ e=>List e.den
@[reducible] def kcs:List Kc→Type
  | [] => Unit
  | c :: r=>c.den×kcs r
@[reducible] def Kn.den:Kn→Type
  | .d t=>t.den
  | .row _ e=>List e.den
  | .box cs=>kcs cs
  | .rb e=>e.den
  | .pre e=>List e.den×Nat
  | .mp k=>List (k.den×Int)
  | .cap _ _=>Unit
abbrev Shape:=List (Nat×Kn)
@[reducible] def Sden:Shape→Type
  | [] => Unit
  | p :: r=>p.2.den×Sden r
def data (t:Ty) (v:V):Option t.den:=if t.isAgg=true then (match v with | .agg cs=>ofcells t cs | _=>none) else getd t v
def unf (ob:List Ob):V→V
  | .own id=>match getAt ob id with
    | some (.frz e l)=>.d (.slice e) l
    | _=>.own id
  | .rp t x off=>if Nat.beq off 0=true then .d (.ptr t) (some x) else .rp t x off
  | v=>v
def rowOf (ob:List Ob) (dp:Bool) (e:Ty) (v:V) (used:List Nat):Option (List e.den×List Nat):=match v with
  | .nil=>some ([],used)
  | .z _=>some ([],used)
  | .own id=>if used.any (Nat.beq id)=true then none else match getAt ob id with
    | some (.row dp' e' l)=>if h:e'=e then (if (dp' == dp || dp' || flat e)=true then some (h ▸ l,id :: used) else none) else none
    | _=>none
  | _=>none
def rbOf (ob:List Ob) (e:Ty) (v:V) (used:List Nat):Option (e.den×List Nat):=match v with
  | .rp t x off=>if Nat.beq off 0=true then (if h:t=e then some (h ▸ x,used) else none) else none
  | .pt id 0 0=>if used.any (Nat.beq id)=true then none else match getAt ob id with
    | some (.box cs)=>if cs.any isOwn=true then none else match ofcells e cs with
      | some x=>some (x,id :: used)
      | none=>none
    | _=>none
  | _=>none
def bodyK (P:Program) (T:FuncId→Option Sig) (TL:Nat→(Q:Type)→St→(Exit→St→Option Q)→Option Q) (fn:Func) (us:List V) (e:Ty):Option (List e.den×Tup []):=match fn.body with
  | some c=>if Nat.ble us.length fn.ntmps=true then den P T TL ⟨fn.ntmps,0⟩ c (start us) fun en st=>match en with
    | .normal | .ret=>match fn.results.toList with
      | [.tmp t] => match rowOf st.ob false e (look t st.tm) [] with
        | some (l,_)=>some (l,())
        | none=>none
      | _=>none
    | _=>none
    else none
  | none=>none
def preOf (ob:List Ob) (e:Ty) (v:V) (used:List Nat):Option ((List e.den×Nat)×List Nat):=match v with
  | .own id=>if used.any (Nat.beq id)=true then none else match getAt ob id with
    | some (.row false e' l)=>if h:e'=e then some ((h ▸ l,0),id :: used) else none
    | some (.pre e' l n)=>if h:e'=e then some ((h ▸ l,n),id :: used) else none
    | _=>none
  | _=>none
def mpOf (ob:List Ob) (q:Ty) (v:V) (used:List Nat):Option (List (q.den×Int)×List Nat):=match v with
  | .mp id=>if used.any (Nat.beq id)=true then none else match getAt ob id with
    | some (.mp q' l)=>if h:q'=q then some (h ▸ l,id :: used) else none
    | _=>none
  | _=>none
def decCells (ob:List Ob):(cs:List Kc)→List V→List Nat→Option (kcs cs×List Nat)
  | [],[],u=>some ((),u)
  | .d t :: cs,v :: vs,u=>match data t (unf ob v),decCells ob cs vs u with
    | some x,some (r,u)=>some ((x,r),u)
    | _,_=>none
  | .row dp e :: cs,v :: vs,u=>match rowOf ob dp e v u with
    | some (x,u)=>match decCells ob cs vs u with
      | some (r,u)=>some ((x,r),u)
      | none=>none
    | none=>none
  | _,_,_=>none
def capIs (st:St):List Nat→List Nat→Bool
  | [],[] => true
  | s :: ss,id :: ids=>(match look s st.tm with | .pt i 0 0=>Nat.beq i id | _=>false) && isBoxB st.ob id && capIs st ss ids
  | _,_=>false
def capAt (tm:List (Nat×V)):List Nat→Option (List Nat)
  | [] => some []
  | s :: ss=>match look s tm,capAt tm ss with
    | .pt i 0 0,some r=>some (i :: r)
    | _,_=>none
def dec (st:St):(sh:Shape)→List Nat→Option (Sden sh)
  | [],_=>some ()
  | (t,.d ty) :: r,u=>match data ty (unf st.ob (look t st.tm)),dec st r u with
    | some x,some y=>some (x,y)
    | _,_=>none
  | (t,.row dp e) :: r,u=>match rowOf st.ob dp e (look t st.tm) u with
    | some (x,u)=>match dec st r u with
      | some y=>some (x,y)
      | none=>none
    | none=>none
  | (t,.mp q) :: r,u=>match mpOf st.ob q (look t st.tm) u with
    | some (x,u)=>match dec st r u with
      | some y=>some (x,y)
      | none=>none
    | none=>none
  | (t,.pre e) :: r,u=>match preOf st.ob e (look t st.tm) u with
    | some (x,u)=>match dec st r u with
      | some y=>some (x,y)
      | none=>none
    | none=>none
  | (t,.cap f ss) :: r,u=>match look t st.tm with
    | .capm f' ids=>if (Nat.beq f' f && capIs st ss ids)=true then (match dec st r u with
        | some y=>some ((),y)
        | none=>none) else none
    | _=>none
  | (t,.rb e) :: r,u=>match rbOf st.ob e (look t st.tm) u with
    | some (x,u)=>match dec st r u with
      | some y=>some (x,y)
      | none=>none
    | none=>none
  | (t,.box cs) :: r,u=>match look t st.tm with
    | .pt id 0 0=>if u.any (Nat.beq id)=true then none else match getAt st.ob id with
      | some (.box vs)=>match decCells st.ob cs vs (id :: u) with
        | some (x,u)=>match dec st r u with
          | some y=>some (x,y)
          | none=>none
        | none=>none
      | _=>none
    | _=>none
def encCells (ob:List Ob):(cs:List Kc)→kcs cs→List V×List Ob
  | [],_=>([],ob)
  | .d t :: cs,x=>let r:=encCells ob cs x.2; (ofTy t x.1 :: r.1,r.2)
  | .row dp e :: cs,x=>let r:=encCells (ob++[.row dp e x.1]) cs x.2; (.own ob.length :: r.1,r.2)
def enc (st:St):(sh:Shape)→Sden sh→St
  | [],_=>st
  | (t,.d ty) :: r,x=>enc { st with tm:=(t,ofTy ty x.1) :: st.tm } r x.2
  | (t,.row dp e) :: r,x=>enc { st with tm:=(t,.own st.ob.length) :: st.tm,ob:=st.ob++[.row dp e x.1] } r x.2
  | (t,.mp q) :: r,x=>enc { st with tm:=(t,.mp st.ob.length) :: st.tm,ob:=st.ob++[.mp q x.1] } r x.2
  | (t,.pre e) :: r,x=>enc { st with tm:=(t,.own st.ob.length) :: st.tm,ob:=st.ob++[.pre e x.1.1 x.1.2] } r x.2
  | (t,.cap f ss) :: r,x=>enc { st with tm:=(t,match capAt st.tm ss with | some ids=>.capm f ids | none=>.any) :: st.tm } r x.2
  | (t,.rb e) :: r,x=>enc { st with tm:=(t,.rp e x.1 0) :: st.tm } r x.2
  | (t,.box cs) :: r,x =>
    let b:=encCells st.ob cs x.1
    enc { st with tm:=(t,.pt b.2.length 0 0) :: st.tm,ob:=b.2++[.box b.1] } r x.2
def st0:St:={ tm:=[],ob:=[] }
structure LSpec where
  inS:Shape
  outs:List (Exit×Shape)
@[reducible] def Conts (R:Type):List (Exit×Shape)→Type
  | [] => Unit
  | s :: r=>(Sden s.2→Option R)×Conts R r
def sameExit:Exit→Exit→Bool
  | .exit a,.exit b=>Nat.beq a b
  | .ret,.ret=>true
  | _,_=>false
def contsOf {R:Type} (k:Exit→St→Option R):(os:List (Exit×Shape))→Conts R os
  | [] => ()
  | (e,s) :: r=>(fun y=>k e (enc st0 s y),contsOf k r)
def useConts {R:Type} (st:St) (e:Exit):(os:List (Exit×Shape))→Conts R os→Option R
  | [],_=>none
  | (e',s) :: r,c=>if sameExit e e'=true then (match dec st s [] with | some y=>c.1 y | none=>none) else useConts st e r c.2
def loopIn (j:Nat):Code→Option Code
  | .seq a b=>match loopIn j a with
    | some c=>some c
    | none=>loopIn j b
  | .cond _ a b=>match loopIn j a with
    | some c=>some c
    | none=>loopIn j b
  | .block _ a=>loopIn j a
  | .loop a=>if Nat.beq (firstR a) j=true then some a else loopIn j a
  | .scope a=>loopIn j a
  | _=>none
def loopStep {R:Type} (P:Program) (T:FuncId→Option Sig) (TL:Nat→(Q:Type)→St→(Exit→St→Option Q)→Option Q) (fn:Func) (lo j:Nat) (ls:LSpec)
    (next:Sden ls.inS→Option R) (cs:Conts R ls.outs) (x:Sden ls.inS):Option R:=match fn.body with
  | some c=>match loopIn j c with
    | some b=>den P T TL ⟨fn.ntmps,lo⟩ b (enc st0 ls.inS x) fun e st=>match e with
      | .normal=>match dec st ls.inS [] with
        | some y=>next y
        | none=>none
      | e=>useConts st e ls.outs cs
    | none=>none
  | none=>none
end Go.Vm

namespace Go.Vm
open Go.RowKit (Below)
theorem getAt_eq {α:Type}:∀ (l:List α) (n:Nat),getAt l n=l[n]?
  | [],_=>by simp [getAt]
  | _ :: _,0=>by simp [getAt]
  | _ :: r,n + 1=>by simp [getAt,getAt_eq r n]
theorem setAt_eq {α:Type}:∀ (l:List α) (n:Nat) (x:α),setAt l n x=l.set n x
  | [],_,_=>by simp [setAt]
  | _ :: _,0,_=>by simp [setAt]
  | _ :: r,n + 1,x=>by simp [setAt,setAt_eq r n]
theorem cut_eq {α:Type} (l:List α) (o n:Nat):cut l o n=(l.drop o).take n:=rfl
theorem cut_length {α:Type} {l:List α} {o n:Nat} (h:o + n≤l.length):(cut l o n).length=n:=by
  simp [cut]; omega
theorem cut_get {α:Type} {l:List α} {o n i:Nat} (h:i < n):(cut l o n)[i]?=l[o + i]? := by
  simp [cut,h]
def one:Value→Prop
  | .agg _ | .tuple _=>False
  | _=>True
def Mem (w:World) (b o:Nat) (vs:List Value):Prop:=∃ c T fz,w.heap[b]?=some (.cells c T fz)∧o + vs.length≤c.size∧cut c.toList o vs.length=vs
theorem Mem.lt {w:World} {b o:Nat} {vs:List Value} (h:Mem w b o vs):b < w.heap.size:=by
  obtain ⟨c,T,fz,h,_⟩:=h
  rcases Nat.lt_or_ge b w.heap.size with h' | h'
  · exact h'
  · rw [Array.getElem?_eq_none h'] at h; cases h
theorem Mem.keep {w w':World} {b o:Nat} {vs:List Value} (h:Mem w b o vs) (hk:w'.heap[b]?=w.heap[b]?):Mem w' b o vs:=by
  obtain ⟨c,T,fz,h,h2⟩:=h
  exact ⟨c,T,fz,hk.trans h,h2⟩
theorem Mem.cell {w:World} {b o:Nat} {vs:List Value} (h:Mem w b o vs) {i:Nat} {v:Value} (hv:vs[i]?=some v):w.cell? ⟨b,o + i,none⟩=some v:=by
  obtain ⟨c,T,fz,h,hs,hc⟩:=h
  have hi:i < vs.length:=by
    rcases Nat.lt_or_ge i vs.length with h' | h'
    · exact h'
    · rw [List.getElem?_eq_none h'] at hv; cases hv
  simp only [World.cell?,h]
  have:=cut_get (l:=c.toList) (o:=o) (n:=vs.length) hi
  rw [hc,hv] at this
  simpa using this.symm
theorem Mem.part {w:World} {b o:Nat} {vs:List Value} (h:Mem w b o vs) {i n:Nat} (hi:i + n≤vs.length):Mem w b (o + i) (cut vs i n):=by
  obtain ⟨c,T,fz,h,hs,hc⟩:=h
  refine ⟨c,T,fz,h,?_,?_⟩
  · rw [cut_length hi]; omega
  · rw [cut_length hi]
    conv=>rhs; rw [← hc]
    simp only [cut,List.drop_take,List.drop_drop,List.take_take]
    congr 1
    omega
def rep (w:World) (I:Nat→Prop):(t:Ty)→t.den→List Value→Prop
  | .int k,x,cs=>cs=[.int k x]
  | .bool,x,cs=>cs=[.bool x]
  | .str,x,cs=>cs=[.string x]
  | .slice e,x,cs=>∃ A c,cs=[.slice A x.length c]∧x.length≤c∧∀ i (h:i < x.length),∃ ad vs,A=some ad∧ad.spot=none∧I ad.block∧Mem w ad.block (ad.off + i * e.sz) vs∧rep w I e x[i] vs
  | .ptr e,x,cs=>match x with
    | none=>cs=[.pointer none]
    | some y=>∃ ad vs,cs=[.pointer (some ad)]∧ad.spot=none∧I ad.block∧Mem w ad.block ad.off vs∧rep w I e y vs
  | .ifp k e,x,cs=>match x with
    | none=>cs=[.nilIface]
    | some y=>∃ ad vs,cs=[.iface k (.pointer (some ad))]∧ad.spot=none∧I ad.block∧Mem w ad.block ad.off vs∧rep w I e y vs
  | .unit,_,cs=>cs=[]
  | .pair a b,x,cs=>∃ c1 c2,cs=c1++c2∧rep w I a x.1 c1∧rep w I b x.2 c2
theorem rep_length {w:World} {I:Nat→Prop}:∀ {t:Ty} {x:t.den} {cs:List Value},rep w I t x cs→cs.length=t.sz
  | .int _,_,_,h=>by simp only [rep] at h; subst h; rfl
  | .bool,_,_,h=>by simp only [rep] at h; subst h; rfl
  | .str,_,_,h=>by simp only [rep] at h; subst h; rfl
  | .slice _,_,_,h=>by obtain ⟨A,c,rfl,_⟩:=h; rfl
  | .ptr _,none,_,h=>by simp only [rep] at h; subst h; rfl
  | .ptr _,some _,_,h=>by obtain ⟨ad,vs,rfl,_⟩:=h; rfl
  | .ifp _ _,none,_,h=>by simp only [rep] at h; subst h; rfl
  | .ifp _ _,some _,_,h=>by obtain ⟨ad,vs,rfl,_⟩:=h; rfl
  | .unit,_,_,h=>by simp only [rep] at h; subst h; rfl
  | .pair a b,x,_,h=>by
    obtain ⟨c1,c2,rfl,h1,h2⟩:=h
    simp only [List.length_append,Ty.sz,rep_length h1,rep_length h2]
theorem rep_one {w:World} {I:Nat→Prop}:∀ {t:Ty} {x:t.den} {cs:List Value},rep w I t x cs→∀ v∈cs,one v
  | .int _,_,_,h=>by simp only [rep] at h; subst h; simp [one]
  | .bool,_,_,h=>by simp only [rep] at h; subst h; simp [one]
  | .str,_,_,h=>by simp only [rep] at h; subst h; simp [one]
  | .slice _,_,_,h=>by obtain ⟨A,c,rfl,_⟩:=h; simp [one]
  | .ptr _,none,_,h=>by simp only [rep] at h; subst h; simp [one]
  | .ptr _,some _,_,h=>by obtain ⟨ad,vs,rfl,_⟩:=h; simp [one]
  | .ifp _ _,none,_,h=>by simp only [rep] at h; subst h; simp [one]
  | .ifp _ _,some _,_,h=>by obtain ⟨ad,vs,rfl,_⟩:=h; simp [one]
  | .unit,_,_,h=>by simp only [rep] at h; subst h; simp
  | .pair a b,x,_,h=>by
    obtain ⟨c1,c2,rfl,h1,h2⟩:=h
    intro v hv
    rcases List.mem_append.1 hv with hv | hv
    · exact rep_one h1 v hv
    · exact rep_one h2 v hv
theorem rep_keep {w w':World} {I I':Nat→Prop} (hk:∀ b,b < w.heap.size→I b→I' b∧w'.heap[b]?=w.heap[b]?):∀ {t:Ty} {x:t.den} {cs:List Value},rep w I t x cs→rep w' I' t x cs
  | .int _,_,_,h=>h
  | .bool,_,_,h=>h
  | .str,_,_,h=>h
  | .slice e,_,_,h=>by
    obtain ⟨A,c,rfl,hc,h⟩:=h
    refine ⟨A,c,rfl,hc,fun i hi=>?_⟩
    obtain ⟨ad,vs,rfl,hs,hI,hm,hr⟩:=h i hi
    have:=hk _ hm.lt hI
    exact ⟨ad,vs,rfl,hs,this.1,hm.keep this.2,rep_keep hk hr⟩
  | .ptr _,none,_,h=>h
  | .ptr e,some _,_,h=>by
    obtain ⟨ad,vs,rfl,hs,hI,hm,hr⟩:=h
    have:=hk _ hm.lt hI
    exact ⟨ad,vs,rfl,hs,this.1,hm.keep this.2,rep_keep hk hr⟩
  | .ifp _ _,none,_,h=>h
  | .ifp _ e,some _,_,h=>by
    obtain ⟨ad,vs,rfl,hs,hI,hm,hr⟩:=h
    have:=hk _ hm.lt hI
    exact ⟨ad,vs,rfl,hs,this.1,hm.keep this.2,rep_keep hk hr⟩
  | .unit,_,_,h=>h
  | .pair a b,x,_,h=>by
    obtain ⟨c1,c2,rfl,h1,h2⟩:=h
    exact ⟨c1,c2,rfl,rep_keep hk h1,rep_keep hk h2⟩
theorem rep_imp {w:World} {I I':Nat→Prop} (hk:∀ b,b < w.heap.size→I b→I' b) {t:Ty} {x:t.den} {cs:List Value} (h:rep w I t x cs):rep w I' t x cs :=
  rep_keep (fun b hb hI=>⟨hk b hb hI,rfl⟩) h
theorem rep_flat {w w':World} {I I':Nat→Prop}:∀ {t:Ty} {x:t.den} {cs:List Value},flat t=true→rep w I t x cs→rep w' I' t x cs
  | .int _,_,_,_,h=>h
  | .bool,_,_,_,h=>h
  | .str,_,_,_,h=>h
  | .slice _,_,_,hf,_=>by simp [flat] at hf
  | .ptr _,_,_,hf,_=>by simp [flat] at hf
  | .ifp _ _,_,_,hf,_=>by simp [flat] at hf
  | .unit,_,_,_,h=>h
  | .pair a b,x,_,hf,h=>by
    obtain ⟨c1,c2,rfl,h1,h2⟩:=h
    simp only [flat,Bool.and_eq_true] at hf
    exact ⟨c1,c2,rfl,rep_flat hf.1 h1,rep_flat hf.2 h2⟩
def own (w:World):(t:Ty)→t.den→List Value→List Nat→Prop
  | .int k,x,cs,bs=>cs=[.int k x]∧bs=[]
  | .bool,x,cs,bs=>cs=[.bool x]∧bs=[]
  | .str,x,cs,bs=>cs=[.string x]∧bs=[]
  | .slice e,x,cs,bs=>(x=[]∧(∃ A,cs=[.slice A 0 0])∧bs=[]) ∨
      ∃ b c T cap bss,bs=b :: List.flatten bss∧cs=[.slice (some ⟨b,0,none⟩) x.length cap]∧w.heap[b]?=some (.cells c T (0,0))∧cap * e.sz=c.size∧(x.length≤cap∧0 < cap) ∧
        bss.length=x.length∧∀ i (h:i < x.length),own w e x[i] (cut c.toList (i * e.sz) e.sz) (bss.getD i [])
  | .ptr _,x,cs,bs=>x=none∧cs=[.pointer none]∧bs=[]
  | .ifp _ _,x,cs,bs=>x=none∧cs=[.nilIface]∧bs=[]
  | .unit,_,cs,bs=>cs=[]∧bs=[]
  | .pair a b,x,cs,bs=>∃ c1 c2 b1 b2,cs=c1++c2∧bs=b1++b2∧own w a x.1 c1 b1∧own w b x.2 c2 b2
theorem mem_of_getElem?' {w:World} {b o n:Nat} {c:Array Value} {T:TypeId} {fz:Nat×Nat} (h:w.heap[b]?=some (.cells c T fz)) (hs:o + n≤c.size):Mem w b o (cut c.toList o n):=by
  have hl:(cut c.toList o n).length=n:=cut_length (by simpa using hs)
  exact ⟨c,T,fz,h,by rw [hl]; exact hs,by rw [hl]⟩
theorem mul_le_of_lt {i l s:Nat} (h:i < l):i * s + s≤l * s:=by
  have:=Nat.mul_le_mul_right s (Nat.succ_le_of_lt h)
  rw [Nat.succ_mul] at this
  exact this
theorem own_rep {w:World} {I:Nat→Prop}:∀ {t:Ty} {x:t.den} {cs:List Value} {bs:List Nat},own w t x cs bs→(∀ b∈bs,I b)→rep w I t x cs
  | .int _,_,_,_,h,_=>h.1
  | .bool,_,_,_,h,_=>h.1
  | .str,_,_,_,h,_=>h.1
  | .slice e,x,_,_,h,hI=>by
    rcases h with ⟨rfl,⟨A0,rfl⟩,rfl⟩ | ⟨b,c,T,cap,bss,rfl,rfl,hb,hcap,hle,hlen,hel⟩
    · exact ⟨A0,0,rfl,Nat.le_refl _,fun i h=>absurd h (Nat.not_lt_zero i)⟩
    · refine ⟨_,cap,rfl,hle.1,fun i hi=>?_⟩
      have hsz:i * e.sz + e.sz≤c.size:=by
        have h1:=mul_le_of_lt (s:=e.sz) hi
        have h2:=Nat.mul_le_mul_right e.sz hle.1
        omega
      refine ⟨⟨b,0,none⟩,cut c.toList (i * e.sz) e.sz,rfl,rfl,hI b (by simp),?_,own_rep (hel i hi) (fun q hq=>hI q ?_)⟩
      · simpa using mem_of_getElem?' hb hsz
      · refine List.mem_cons_of_mem _ (List.mem_flatten.2 ⟨bss.getD i [],?_,hq⟩)
        have hb':i < bss.length:=by omega
        rw [List.getD_eq_getElem?_getD,List.getElem?_eq_getElem hb',Option.getD_some]
        exact List.getElem_mem hb'
  | .ptr _,_,_,_,h,_=>by obtain ⟨rfl,h,_⟩:=h; exact h
  | .ifp _ _,_,_,_,h,_=>by obtain ⟨rfl,h,_⟩:=h; exact h
  | .unit,_,_,_,h,_=>h.1
  | .pair a b,x,_,_,h,hI=>by
    obtain ⟨c1,c2,b1,b2,rfl,rfl,h1,h2⟩:=h
    exact ⟨c1,c2,rfl,own_rep h1 (fun q hq=>hI q (List.mem_append.2 (.inl hq))),own_rep h2 (fun q hq=>hI q (List.mem_append.2 (.inr hq)))⟩
theorem own_keep {w w':World}:∀ {t:Ty} {x:t.den} {cs:List Value} {bs:List Nat},own w t x cs bs→(∀ b∈bs,w'.heap[b]?=w.heap[b]?)→own w' t x cs bs
  | .int _,_,_,_,h,_=>h
  | .bool,_,_,_,h,_=>h
  | .str,_,_,_,h,_=>h
  | .slice e,x,_,_,h,hk=>by
    rcases h with h | ⟨b,c,T,cap,bss,rfl,rfl,hb,hcap,hle,hlen,hel⟩
    · exact .inl h
    · refine .inr ⟨b,c,T,cap,bss,rfl,rfl,(hk b (by simp)).trans hb,hcap,hle,hlen,fun i hi=>own_keep (hel i hi) (fun q hq=>hk q ?_)⟩
      refine List.mem_cons_of_mem _ (List.mem_flatten.2 ⟨bss.getD i [],?_,hq⟩)
      have hb':i < bss.length:=by omega
      rw [List.getD_eq_getElem?_getD,List.getElem?_eq_getElem hb',Option.getD_some]
      exact List.getElem_mem hb'
  | .ptr _,_,_,_,h,_=>h
  | .ifp _ _,_,_,_,h,_=>h
  | .unit,_,_,_,h,_=>h
  | .pair a b,x,_,_,h,hk=>by
    obtain ⟨c1,c2,b1,b2,rfl,rfl,h1,h2⟩:=h
    exact ⟨c1,c2,b1,b2,rfl,rfl,own_keep h1 (fun q hq=>hk q (List.mem_append.2 (.inl hq))),own_keep h2 (fun q hq=>hk q (List.mem_append.2 (.inr hq)))⟩
def kcells:(t:Ty)→t.den→List Value
  | .int k,x=>[.int k x]
  | .bool,x=>[.bool x]
  | .str,x=>[.string x]
  | .pair a b,x=>kcells a x.1++kcells b x.2
  | _,_=>[]
def KV (k:Ty) (x:k.den) (v:Value):Prop:=(k.isAgg=true∧∃ xs:Array Value,v=.agg xs∧xs.toList=kcells k x)∨(k.isAgg=false∧kcells k x=[v])
def EnRep (k:Ty) (en:MapEntry) (p:k.den×Int):Prop:=KV k p.1 en.key∧en.val=.int .i64 p.2
structure MapRep (k:Ty) (es:Array MapEntry) (l:List (k.den×Int)):Prop where
  len:es.size=l.length
  at_:∀ (i:Nat) (en:MapEntry) (p:k.den×Int),es[i]?=some en→l[i]?=some p→EnRep k en p
  born:∀ (i:Nat) (en:MapEntry),es[i]?=some en→en.born=i
end Go.Vm

namespace Go.Vm
open Go.RowKit (Below)
structure Cx where
  w:World
  I:Nat→Prop
  ob:List Ob
  fp:List (List Nat)
def hdr (w:World) (e:Ty) (l:List e.den) (bs:List Nat) (v:Value):Prop:=match bs with
  | [] => l=[]∧∃ A,v=.slice A 0 0
  | b :: _=>∃ c T cap,w.heap[b]?=some (.cells c T (0,0))∧v=.slice (some ⟨b,0,none⟩) l.length cap∧(l.length≤cap∧0 < cap)∧cap * e.sz=c.size
def rowRep (w:World) (I:Nat→Prop) (dp:Bool) (e:Ty) (l:List e.den) (bs:List Nat):Prop :=
  (l=[]∧bs=[])∨∃ b c T,w.heap[b]?=some (.cells c T (0,0))∧l.length * e.sz≤c.size ∧
    if dp=true then ∃ bss:List (List Nat),bs=b :: bss.flatten∧bss.length=l.length∧∀ i (h:i < l.length),own w e l[i] (cut c.toList (i * e.sz) e.sz) (bss.getD i [])
    else bs=[b]∧∀ i (h:i < l.length),rep w I e l[i] (cut c.toList (i * e.sz) e.sz)
def frzRep (w:World) (I:Nat→Prop) (e:Ty) (l:List e.den) (bs:List Nat):Prop :=
  (l=[]∧bs=[])∨∃ b c T fz rest,bs=b :: rest∧w.heap[b]?=some (.cells c T fz)∧l.length * e.sz≤c.size∧I b ∧
    ∀ i (h:i < l.length),rep w I e l[i] (cut c.toList (i * e.sz) e.sz)
def PtB (cx:Cx) (v:Value) (id:Nat):Prop:=∃ o bs,cx.ob[id]?=some o∧cx.fp[id]?=some bs∧match o with
  | .box _ | .fbox _=>∃ b,bs=[b]∧v=.pointer (some ⟨b,0,none⟩)
  | _=>True
def CapB (cx:Cx) (b:Array Value) (ids:List Nat):Prop:=b.size=ids.length∧∀ (i:Nat) (c:Value) (id:Nat),b[i]?=some c→ids[i]?=some id→PtB cx c id
theorem CapB.imp {cx cx':Cx} {b:Array Value} {ids:List Nat} (h:CapB cx b ids) (hp:∀ c id,PtB cx c id→PtB cx' c id):CapB cx' b ids:=⟨h.1,fun i c id hc hi=>hp c id (h.2 i c id hc hi)⟩
def crep (cx:Cx) (v:Value):V→Prop
  | .d t x=>rep cx.w cx.I t x [v]
  | .any=>one v
  | .nil=>v=.slice none 0 0
  | .nilp=>v=.pointer none
  | .own id=>∃ o bs,cx.ob[id]?=some o∧cx.fp[id]?=some bs∧match o with
    | .row _ e l=>hdr cx.w e l bs v
    | .pre e l _=>hdr cx.w e l bs v
    | .frz e l=>rep cx.w cx.I (.slice e) l [v]
    | _=>one v
  | .sub id i j=>∃ o bs,cx.ob[id]?=some o∧cx.fp[id]?=some bs∧match o with
    | .row _ e l=>i < l.length∧j < e.sz∧one v∧∃ b rest,bs=b :: rest∧cx.w.cell? ⟨b,i * e.sz + j,none⟩=some v
    | .pre e l _=>i < l.length∧j < e.sz∧one v∧∃ b rest,bs=b :: rest∧cx.w.cell? ⟨b,i * e.sz + j,none⟩=some v
    | .frz e l=>one v∧∀ u,(dcells e (l.getD i e.zero))[j]?=some u→∃ t x,u=.d t x∧rep cx.w cx.I t x [v]
    | _=>one v
  | .pt id i off=>∃ o bs,cx.ob[id]?=some o∧cx.fp[id]?=some bs∧match o with
    | .box _ | .fbox _=>i=0∧∃ b,bs=[b]∧v=.pointer (some ⟨b,off,none⟩)
    | .row _ e l | .frz e l=>i < l.length∧∃ b rest,bs=b :: rest∧v=.pointer (some ⟨b,i * e.sz + off,none⟩)
    | .pre e l _=>i < l.length∧∃ b rest,bs=b :: rest∧v=.pointer (some ⟨b,i * e.sz + off,none⟩)
    | .dead=>one v
    | .mp _ _=>False
  | .rp t x off=>∃ (ad:Addr) (vs:List Value),v=.pointer (some (ad.add off))∧ad.spot=none∧cx.I ad.block∧Mem cx.w ad.block ad.off vs∧rep cx.w cx.I t x vs
  | .fn f=>v=.func (.func f) #[] #[]
  | .part id lo hi=>∃ o bs,cx.ob[id]?=some o∧cx.fp[id]?=some bs∧match o with
    | .row _ e l=>lo≤hi∧hi≤l.length∧∃ A cap,v=.slice A (hi - lo) cap∧hi - lo≤cap∧(lo < hi→∃ b rest,bs=b :: rest∧A=some ⟨b,lo * e.sz,none⟩)
    | .pre e l _=>lo≤hi∧hi≤l.length∧∃ A cap,v=.slice A (hi - lo) cap∧hi - lo≤cap∧(lo < hi→∃ b rest,bs=b :: rest∧A=some ⟨b,lo * e.sz,none⟩)
    | _=>one v
  | .mp id=>∃ o bs,cx.ob[id]?=some o∧cx.fp[id]?=some bs∧match o with
    | .mp _ _=>∃ b,bs=[b]∧v=.map (some b)
    | _=>one v
  | .emp b _=>∃ A c,v=.slice A 0 c∧A.isNone=b
  | .sl n=>∃ A c,v=.slice A n c
  | .z _=>∃ A,v=.slice A 0 0
  | .ifc ks t g x=>one v∧(0≤g→∃ k p,ks[g.toNat]?=some k∧v=.iface k (.agg p)∧rep cx.w cx.I t x p.toList∧t.isAgg=true)
  | .clo f t x=>∃ b,v=.func (.func f) #[b] #[]∧rep cx.w cx.I t x b.cells.toList∧(t.isAgg=true→∃ vs,b=.agg vs)∧(t.isAgg=false→one b)
  | .cap f t x=>∃ b,v=.func (.func f) #[] b∧rep cx.w cx.I t x b.toList
  | .capm f ids=>∃ b,v=.func (.func f) #[] b∧CapB cx b ids
  | _=>False
def All2 {α β:Type} (R:α→β→Prop) (l:List α) (m:List β):Prop:=l.length=m.length∧∀ (i:Nat) (x:α) (y:β),l[i]?=some x→m[i]?=some y→R x y
def vrep (cx:Cx) (v:Value):V→Prop
  | .agg us=>∃ vs:Array Value,v=.agg vs∧All2 (crep cx) vs.toList us
  | .any=>True
  | u=>crep cx v u
def trep (cx:Cx) (v:Value):V→Prop
  | .tup us=>∃ vs:Array Value,v=.tuple vs∧All2 (vrep cx) vs.toList us
  | u=>vrep cx v u
def grep (cx:Cx) (cur:Option Nat) (a:Act) (v:Value):V→Prop
  | .g s t w u=>cur=some s→a.tmps[t]?=some (.bool w)→trep cx v u
  | u=>trep cx v u
def live:Ob→Prop
  | .row _ _ _ | .box _ | .pre _ _ _ | .mp _ _=>True
  | _=>False
def preRep (w:World) (I:Nat→Prop) (e:Ty) (l:List e.den) (n:Nat) (bs:List Nat):Prop :=
  (l=[]∧bs=[]∧n=0)∨∃ b c T,w.heap[b]?=some (.cells c T (0,0))∧l.length * e.sz≤c.size∧∃ bss:List (List Nat),bs=b :: bss.flatten∧bss.length=n∧n≤l.length ∧
    (∀ i (h:i < l.length),i < n→own w e l[i] (cut c.toList (i * e.sz) e.sz) (bss.getD i []))∧∀ i (h:i < l.length),n≤i→rep w I e l[i] (cut c.toList (i * e.sz) e.sz)
def orep (cx:Cx) (bs:List Nat):Ob→Prop
  | .row dp e l=>rowRep cx.w cx.I dp e l bs
  | .pre e l n=>preRep cx.w cx.I e l n bs
  | .frz e l=>frzRep cx.w cx.I e l bs
  | .box us=>∃ b c T,bs=[b]∧cx.w.heap[b]?=some (.cells c T (0,0))∧All2 (crep cx) c.toList us
  | .fbox us=>∃ b c T fz,bs=[b]∧cx.w.heap[b]?=some (.cells c T fz)∧cx.I b∧All2 (crep cx) c.toList us
  | .mp k l=>∃ b es,bs=[b]∧cx.w.heap[b]?=some (.map es es.size)∧MapRep k es l
  | .dead=>bs=[]
structure Lim where
  K:Nat→Prop
  pv:List Value
structure Bel (B:Lim) (w w':World):Prop where
  os:w'.os=w.os
  tape:w'.tape=w.tape
  output:w'.output=w.output
  size:w.heap.size≤w'.heap.size
  block:∀ k,B.K k→w'.heap[k]?=w.heap[k]?
theorem Bel.refl (B:Lim) (w:World):Bel B w w:=⟨rfl,rfl,rfl,Nat.le_refl _,fun _ _=>rfl⟩
theorem Bel.trans {B:Lim} {a b c:World} (h:Bel B a b) (k:Bel B b c):Bel B a c :=
  ⟨k.os.trans h.os,k.tape.trans h.tape,k.output.trans h.output,Nat.le_trans h.size k.size,fun i hi=>(k.block i hi).trans (h.block i hi)⟩
theorem Bel.of {B:Lim} {n:Nat} {w w':World} (h:Below n w w') (hB:∀ b,B.K b→b < n):Bel B w w':=⟨h.os,h.tape,h.output,h.size,fun k hk=>h.block k (hB k hk)⟩
theorem Bel.alloc {B:Lim} {w0 w:World} (h:Bel B w0 w) (hs:∀ b,B.K b→b < w.heap.size) (o:Obj):Bel B w0 (w.alloc o):=h.trans (Bel.of ((Below.refl w.heap.size w).alloc (Nat.le_refl _) o) hs)
theorem Lim.new {B:Lim} {n:Nat} (h:∀ b,B.K b→b < n):¬ B.K n:=fun hk=>Nat.lt_irrefl _ (h _ hk)
def imm (B:Lim) (M:Nat→Prop) (w:World) (ob:List Ob) (fp:List (List Nat)) (b:Nat):Prop :=
  b < w.heap.size∧(B.K b→M b)∧∀ (id:Nat) (o:Ob) (bs:List Nat),ob[id]?=some o→fp[id]?=some bs→live o→b∉bs
def cxOf (B:Lim) (M:Nat→Prop) (w:World) (ob:List Ob) (fp:List (List Nat)):Cx:=⟨w,imm B M w ob fp,ob,fp⟩
class Amb where
  A:World→Prop
  G:Nat→Prop
  lt:∀ {w:World} {b:Nat},A w→G b→b < w.heap.size
  keep:∀ {w w':World},A w→(∀ b,G b→w'.heap[b]?=w.heap[b]?)→A w'
@[reducible] def Amb.none:Amb:=⟨fun _=>True,fun _=>False,fun _ h=>h.elim,fun _ _=>trivial⟩
section
variable [Amb]
structure Hrel (B:Lim) (M:Nat→Prop) (w0 w:World) (ob:List Ob) (fp:List (List Nat)):Prop where
  len:fp.length=ob.length
  nd:fp.flatten.Nodup
  ge:∀ b,b∈fp.flatten→¬ B.K b∧b < w.heap.size
  ob:∀ (id:Nat) (o:Ob) (bs:List Nat),ob[id]?=some o→fp[id]?=some bs→orep (cxOf B M w ob fp) bs o
  below:Bel B w0 w
  size:∀ b,B.K b→b < w.heap.size
  amb:Amb.A w0∧∀ b,Amb.G b→B.K b
theorem Hrel.am {B:Lim} {M:Nat→Prop} {w0 w:World} {ob:List Ob} {fp:List (List Nat)} (H:Hrel B M w0 w ob fp):Amb.A w:=Amb.keep H.amb.1 fun b hb=>H.below.block b (H.amb.2 b hb)
theorem Hrel.gn {B:Lim} {M:Nat→Prop} {w0 w:World} {ob:List Ob} {fp:List (List Nat)} (H:Hrel B M w0 w ob fp) {b:Nat} (hb:b∈fp.flatten):¬ Amb.G b:=fun hg=>(H.ge b hb).1 (H.amb.2 b hg)
theorem Amb.below {w w':World} (h:Amb.A w) (hb:Below w.heap.size w w'):Amb.A w':=Amb.keep h fun b hg=>hb.block b (Amb.lt h hg)
end
theorem rep_cell {w:World} {I:Nat→Prop}:∀ {t:Ty} {x:t.den} {cs:List Value},rep w I t x cs→∀ {j:Nat} {u:V},(dcells t x)[j]?=some u→∃ v t' x',cs[j]?=some v∧u=.d t' x'∧rep w I t' x' [v]
  | .int k,x,_,h,j,u,hj=>by
    simp only [dcells] at hj
    simp only [rep] at h; subst h
    rcases j with _ | j
    · simp at hj; exact ⟨_,.int k,x,rfl,hj.symm,rfl⟩
    · simp at hj
  | .bool,x,_,h,j,u,hj=>by
    simp only [dcells] at hj
    simp only [rep] at h; subst h
    rcases j with _ | j
    · simp at hj; exact ⟨_,.bool,x,rfl,hj.symm,rfl⟩
    · simp at hj
  | .str,x,_,h,j,u,hj=>by
    simp only [dcells] at hj
    simp only [rep] at h; subst h
    rcases j with _ | j
    · simp at hj; exact ⟨_,.str,x,rfl,hj.symm,rfl⟩
    · simp at hj
  | .slice e,x,_,h,j,u,hj=>by
    simp only [dcells] at hj
    obtain ⟨A,c,rfl,h⟩:=h
    rcases j with _ | j
    · simp at hj; exact ⟨_,.slice e,x,rfl,hj.symm,A,c,rfl,h⟩
    · simp at hj
  | .ptr e,none,_,h,j,u,hj=>by
    simp only [dcells] at hj
    simp only [rep] at h; subst h
    rcases j with _ | j
    · simp at hj; exact ⟨_,.ptr e,none,rfl,hj.symm,rfl⟩
    · simp at hj
  | .ptr e,some y,_,h,j,u,hj=>by
    simp only [dcells] at hj
    obtain ⟨ad,vs,rfl,h⟩:=h
    rcases j with _ | j
    · simp at hj; exact ⟨_,.ptr e,some y,rfl,hj.symm,ad,vs,rfl,h⟩
    · simp at hj
  | .ifp k e,none,_,h,j,u,hj=>by
    simp only [dcells] at hj
    simp only [rep] at h; subst h
    rcases j with _ | j
    · simp at hj; exact ⟨_,.ifp k e,none,rfl,hj.symm,rfl⟩
    · simp at hj
  | .ifp k e,some y,_,h,j,u,hj=>by
    simp only [dcells] at hj
    obtain ⟨ad,vs,rfl,h⟩:=h
    rcases j with _ | j
    · simp at hj; exact ⟨_,.ifp k e,some y,rfl,hj.symm,ad,vs,rfl,h⟩
    · simp at hj
  | .unit,_,_,_,j,u,hj=>by simp [dcells] at hj
  | .pair a b,x,_,h,j,u,hj=>by
    obtain ⟨c1,c2,rfl,h1,h2⟩:=h
    have hl:=rep_length h1
    have hd:∀ {t:Ty} {x:t.den},(dcells t x).length=t.sz:=by
      intro t
      induction t with
      | pair a b iha ihb=>intro x; simp [dcells,Ty.sz,iha,ihb]
      | _=>intro x; rfl
    simp only [dcells] at hj
    by_cases hlt:j < (dcells a x.1).length
    · rw [List.getElem?_append_left hlt] at hj
      obtain ⟨v,t',x',hv,r⟩:=rep_cell h1 hj
      refine ⟨v,t',x',?_,r⟩
      rw [List.getElem?_append_left (by rw [hl,← hd (x:=x.1)]; exact hlt)]; exact hv
    · rw [List.getElem?_append_right (by omega)] at hj
      obtain ⟨v,t',x',hv,r⟩:=rep_cell h2 hj
      refine ⟨v,t',x',?_,r⟩
      rw [List.getElem?_append_right (by rw [hl,← hd (x:=x.1)]; omega),hl,← hd (x:=x.1)]; exact hv
theorem dcells_length:∀ {t:Ty} {x:t.den},(dcells t x).length=t.sz:=by
  intro t
  induction t with
  | pair a b iha ihb=>intro x; simp [dcells,Ty.sz,iha,ihb]
  | _=>intro x; rfl
theorem dcells_d {t:Ty} {x:t.den} {j:Nat} {u:V}:(dcells t x)[j]?=some u→∃ t' x',u=.d t' x':=by
  induction t generalizing j with
  | pair a b iha ihb =>
    intro h
    simp only [dcells] at h
    by_cases hlt:j < (dcells a x.1).length
    · rw [List.getElem?_append_left hlt] at h; exact iha h
    · rw [List.getElem?_append_right (by omega)] at h; exact ihb h
  | unit=>intro h; simp [dcells] at h
  | _ =>
    intro h
    simp only [dcells] at h
    rcases j with _ | j
    · simp at h; exact ⟨_,_,h.symm⟩
    · simp at h
theorem own_cell {w:World}:∀ {t:Ty} {x:t.den} {cs:List Value} {bs:List Nat},own w t x cs bs→∀ {j:Nat} {u:V},(dcells t x)[j]?=some u →
    ∃ v t' x' bs',cs[j]?=some v∧u=.d t' x'∧own w t' x' [v] bs'∧∀ b∈bs',b∈bs:=by
  intro t
  induction t with
  | pair a b iha ihb =>
    intro x cs bs h j u hj
    obtain ⟨c1,c2,b1,b2,rfl,rfl,h1,h2⟩:=h
    have hl:=rep_length (own_rep (I:=fun _=>True) h1 (fun _ _=>trivial))
    simp only [dcells] at hj
    by_cases hlt:j < (dcells a x.1).length
    · rw [List.getElem?_append_left hlt] at hj
      obtain ⟨v,t',x',bs',hv,hu,r,hb⟩:=iha h1 hj
      refine ⟨v,t',x',bs',?_,hu,r,fun b hb'=>List.mem_append.2 (.inl (hb b hb'))⟩
      rw [List.getElem?_append_left (by rw [hl,← dcells_length (x:=x.1)]; exact hlt)]; exact hv
    · rw [List.getElem?_append_right (by omega)] at hj
      obtain ⟨v,t',x',bs',hv,hu,r,hb⟩:=ihb h2 hj
      refine ⟨v,t',x',bs',?_,hu,r,fun b hb'=>List.mem_append.2 (.inr (hb b hb'))⟩
      rw [List.getElem?_append_right (by rw [hl,← dcells_length (x:=x.1)]; omega),hl,← dcells_length (x:=x.1)]; exact hv
  | unit=>intro x cs bs _ j u hj; simp [dcells] at hj
  | slice e ih =>
    intro x cs bs h j u hj
    simp only [dcells] at hj
    rcases j with _ | j
    · simp at hj
      refine ⟨cs.headD (.bool false),.slice e,x,bs,?_,hj.symm,?_,fun _ hb=>hb⟩
      · rcases h with ⟨_,⟨A0,rfl⟩,_⟩ | ⟨b,c,T,cap,bss,_,rfl,_⟩<;>rfl
      · rcases h with ⟨rfl,⟨A0,rfl⟩,rfl⟩ | ⟨b,c,T,cap,bss,rfl,rfl,r⟩
        · exact .inl ⟨rfl,⟨A0,rfl⟩,rfl⟩
        · exact .inr ⟨b,c,T,cap,bss,rfl,rfl,r⟩
    · simp at hj
  | ptr e ih =>
    intro x cs bs h j u hj
    simp only [dcells] at hj
    obtain ⟨rfl,rfl,rfl⟩:=h
    rcases j with _ | j
    · simp at hj; exact ⟨_,_,_,[],rfl,hj.symm,⟨rfl,rfl,rfl⟩,fun _ hb=>hb⟩
    · simp at hj
  | ifp k e ih =>
    intro x cs bs h j u hj
    simp only [dcells] at hj
    obtain ⟨rfl,rfl,rfl⟩:=h
    rcases j with _ | j
    · simp at hj; exact ⟨_,_,_,[],rfl,hj.symm,⟨rfl,rfl,rfl⟩,fun _ hb=>hb⟩
    · simp at hj
  | int k =>
    intro x cs bs h j u hj
    simp only [dcells] at hj
    obtain ⟨rfl,rfl⟩:=h
    rcases j with _ | j
    · simp at hj; exact ⟨_,_,_,[],rfl,hj.symm,⟨rfl,rfl⟩,fun _ hb=>hb⟩
    · simp at hj
  | bool =>
    intro x cs bs h j u hj
    simp only [dcells] at hj
    obtain ⟨rfl,rfl⟩:=h
    rcases j with _ | j
    · simp at hj; exact ⟨_,_,_,[],rfl,hj.symm,⟨rfl,rfl⟩,fun _ hb=>hb⟩
    · simp at hj
  | str =>
    intro x cs bs h j u hj
    simp only [dcells] at hj
    obtain ⟨rfl,rfl⟩:=h
    rcases j with _ | j
    · simp at hj; exact ⟨_,_,_,[],rfl,hj.symm,⟨rfl,rfl⟩,fun _ hb=>hb⟩
    · simp at hj
def prep (w:World) (J:Nat→Prop) (v:Value):V→Prop
  | .d t x=>rep w J t x [v]
  | .nil=>v=.slice none 0 0
  | .nilp=>v=.pointer none
  | _=>True
theorem getd_rel {w:World} {J:Nat→Prop} {v:Value} {u:V} {t:Ty} {x:t.den} (h:prep w J v u) (hg:getd t u=some x):rep w J t x [v] := by
  cases u with
  | d t' x' =>
    simp only [getd] at hg
    split at hg
    · rename_i he; subst he; simp at hg; subst hg; exact h
    · cases hg
  | nil =>
    cases t<;>simp [getd] at hg
    subst hg
    exact ⟨none,0,by simp [prep] at h; rw [h]; rfl,Nat.le_refl _,fun i h=>absurd h (Nat.not_lt_zero i)⟩
  | nilp =>
    cases t<;>simp [getd] at hg
    subst hg
    simp [prep] at h
    simp [rep,h]
  | _=>simp [getd] at hg
theorem ofc_rel {w:World} {J:Nat→Prop}:∀ {t:Ty} {us:List V} {x:t.den} {rest:List V} {vs:List Value},ofc t us=some (x,rest)→All2 (prep w J) vs us →
    ∃ c1 c2,vs=c1++c2∧rep w J t x c1∧All2 (prep w J) c2 rest:=by
  have base:∀ {t:Ty} {us:List V} {x:t.den} {rest:List V} {vs:List Value},(∃ v r,us=v :: r∧getd t v=some x∧rest=r)→All2 (prep w J) vs us →
      ∃ c1 c2,vs=c1++c2∧rep w J t x c1∧All2 (prep w J) c2 rest:=by
    rintro t us x rest vs ⟨v,r,rfl,hg,rfl⟩ ⟨hl,h⟩
    cases vs with
    | nil=>simp at hl
    | cons y ys =>
      refine ⟨[y],ys,rfl,getd_rel (h 0 y v rfl rfl) hg,by simpa using hl,fun i a b ha hb=>h (i + 1) a b (by simpa using ha) (by simpa using hb)⟩
  intro t
  induction t with
  | unit =>
    intro us x rest vs ho h
    simp [ofc] at ho
    obtain ⟨rfl,rfl⟩:=ho
    exact ⟨[],vs,rfl,rfl,h⟩
  | pair a b iha ihb =>
    intro us x rest vs ho h
    simp only [ofc] at ho
    split at ho
    · rename_i x1 r1 h1
      split at ho
      · rename_i x2 r2 h2
        simp at ho
        obtain ⟨rfl,rfl⟩:=ho
        obtain ⟨c1,c2,rfl,hr1,ha1⟩:=iha h1 h
        obtain ⟨c3,c4,rfl,hr2,ha2⟩:=ihb h2 ha1
        exact ⟨c1++c3,c4,by simp,⟨c1,c3,rfl,hr1,hr2⟩,ha2⟩
      · cases ho
    · cases ho
  | _ =>
    intro us x rest vs ho h
    refine base ?_ h
    cases us with
    | nil=>simp [ofc] at ho
    | cons v r =>
      simp only [ofc] at ho
      split at ho
      · rename_i y hy
        simp at ho
        obtain ⟨rfl,rfl⟩:=ho
        exact ⟨v,r,rfl,hy,rfl⟩
      · cases ho
theorem ofcells_rel {w:World} {J:Nat→Prop} {t:Ty} {us:List V} {x:t.den} {vs:List Value} (ho:ofcells t us=some x) (h:All2 (prep w J) vs us):rep w J t x vs:=by
  simp only [ofcells] at ho
  split at ho
  · rename_i y hy
    simp at ho
    subst ho
    obtain ⟨c1,c2,rfl,hr,h2⟩:=ofc_rel hy h
    have:c2=[] := by
      have:=h2.1
      simpa using this
    subst this
    simpa using hr
  · cases ho
end Go.Vm

namespace Go.Vm
variable [Amb]
open Go.RowKit (Below)
theorem one_cells {v:Value} (h:one v):v.cells=#[v] := by
  cases v<;>first | rfl | exact h.elim
theorem hdr_one {w:World} {e:Ty} {l:List e.den} {bs:List Nat} {v:Value} (h:hdr w e l bs v):one v:=by
  cases bs with
  | nil=>obtain ⟨_,A0,rfl⟩:=h; trivial
  | cons b r=>obtain ⟨c,T,cap,_,rfl,_⟩:=h; trivial
theorem crep_one {cx:Cx} {v:Value} {u:V} (h:crep cx v u):one v:=by
  cases u with
  | d t x=>exact rep_one h v (by simp)
  | any=>exact h
  | nil=>simp only [crep] at h; subst h; trivial
  | nilp=>simp only [crep] at h; subst h; trivial
  | own id =>
    obtain ⟨o,bs,_,_,h⟩:=h
    cases o with
    | row dp e l=>exact hdr_one h
    | pre e l n=>exact hdr_one h
    | frz e l=>exact rep_one h v (by simp)
    | _=>exact h
  | sub id i j =>
    obtain ⟨o,bs,_,_,h⟩:=h
    cases o with
    | row dp e l=>exact h.2.2.1
    | pre e l n=>exact h.2.2.1
    | frz e l=>exact h.1
    | _=>exact h
  | pt id i off =>
    obtain ⟨o,bs,_,_,h⟩:=h
    cases o with
    | row dp e l=>obtain ⟨_,b,r,_,rfl⟩:=h; trivial
    | pre e l n=>obtain ⟨_,b,r,_,rfl⟩:=h; trivial
    | frz e l=>obtain ⟨_,b,r,_,rfl⟩:=h; trivial
    | box cs=>obtain ⟨_,b,_,rfl⟩:=h; trivial
    | fbox cs=>obtain ⟨_,b,_,rfl⟩:=h; trivial
    | dead=>exact h
    | mp k l=>exact h.elim
  | rp t x off=>obtain ⟨ad,vs,rfl,_⟩:=h; trivial
  | fn f=>simp only [crep] at h; subst h; trivial
  | part id lo hi =>
    obtain ⟨o,bs,_,_,h⟩:=h
    cases o with
    | row dp e l =>
      obtain ⟨_,_,A,cap,rfl,_⟩:=h
      trivial
    | pre e l n =>
      obtain ⟨_,_,A,cap,rfl,_⟩:=h
      trivial
    | _=>exact h
  | clo f t x=>obtain ⟨b,rfl,_⟩:=h; trivial
  | cap f t x=>obtain ⟨b,rfl,_⟩:=h; trivial
  | capm f t=>obtain ⟨b,rfl,_⟩:=h; trivial
  | emp b e=>obtain ⟨A,c,rfl,_⟩:=h; trivial
  | ifc ks t g x=>exact h.1
  | sl n=>obtain ⟨A,c,rfl⟩:=h; trivial
  | z e=>obtain ⟨A,rfl⟩:=h; trivial
  | mp id =>
    obtain ⟨o,bs,_,_,h⟩:=h
    cases o with
    | mp k l=>obtain ⟨b,_,rfl⟩:=h; trivial
    | _=>exact h
  | _=>exact h.elim
theorem getD_of_lt {α:Type} {l:List α} {i:Nat} {z:α} (h:i < l.length):l.getD i z=l[i] := by
  simp [List.getD_eq_getElem?_getD,List.getElem?_eq_getElem h]
theorem bss_mem {bss:List (List Nat)} {i q:Nat} (hi:i < bss.length) (hq:q∈bss.getD i []):q∈bss.flatten:=by
  rw [List.getD_eq_getElem?_getD,List.getElem?_eq_getElem hi,Option.getD_some] at hq
  exact List.mem_flatten.2 ⟨_,List.getElem_mem hi,hq⟩
theorem row_rep {w:World} {I J:Nat→Prop} {dp:Bool} {e:Ty} {l:List e.den} {bs:List Nat} {v:Value} (h:rowRep w I dp e l bs) (hh:hdr w e l bs v)
    (hJ:∀ b∈bs,J b) (hI:∀ b,b < w.heap.size→I b→J b):rep w J (.slice e) l [v] := by
  rcases h with ⟨rfl,rfl⟩ | ⟨b,c,T,hb,hsz,h⟩
  · obtain ⟨_,A0,rfl⟩:=hh
    exact ⟨A0,0,rfl,Nat.le_refl _,fun i h=>absurd h (Nat.not_lt_zero i)⟩
  · have key:∀ i (hi:i < l.length),rep w J e l[i] (cut c.toList (i * e.sz) e.sz):=by
      intro i hi
      cases dp with
      | true =>
        simp only [if_true] at h
        obtain ⟨bss,rfl,hlen,hel⟩:=h
        exact own_rep (hel i hi) (fun q hq=>hJ q (List.mem_cons_of_mem _ (bss_mem (by omega) hq)))
      | false =>
        simp only [Bool.false_eq_true,if_false] at h
        exact rep_imp hI (h.2 i hi)
    have hbs:∃ r,bs=b :: r:=by
      cases dp with
      | true=>simp only [if_true] at h; obtain ⟨bss,rfl,_⟩:=h; exact ⟨_,rfl⟩
      | false=>simp only [Bool.false_eq_true,if_false] at h; exact ⟨_,h.1⟩
    obtain ⟨r,rfl⟩:=hbs
    obtain ⟨c',T',cap,hb',rfl,hle,hcap⟩:=hh
    rw [hb] at hb'
    simp at hb'
    obtain ⟨rfl,rfl⟩:=hb'
    refine ⟨_,cap,rfl,hle.1,fun i hi=>⟨⟨b,0,none⟩,cut c.toList (i * e.sz) e.sz,rfl,rfl,hJ b (by simp),?_,key i hi⟩⟩
    have:=mul_le_of_lt (s:=e.sz) hi
    simpa using mem_of_getElem?' hb (by omega)
theorem row_cell {w:World} {I J:Nat→Prop} {dp:Bool} {e:Ty} {l:List e.den} {b:Nat} {r:List Nat} {v:Value} {i j:Nat} (h:rowRep w I dp e l (b :: r)) (hi:i < l.length) (hj:j < e.sz)
    (hc:w.cell? ⟨b,i * e.sz + j,none⟩=some v) (hJ:∀ q∈b :: r,J q) (hI:∀ q,q < w.heap.size→I q→J q) {u:V} (hu:(dcells e (l.getD i e.zero))[j]?=some u) :
    ∃ t x,u=.d t x∧rep w J t x [v] := by
  rw [getD_of_lt hi] at hu
  rcases h with ⟨rfl,h⟩ | ⟨b',c,T,hb,hsz,h⟩
  · cases h
  · have hm:=mul_le_of_lt (s:=e.sz) hi
    have hcell:(cut c.toList (i * e.sz) e.sz)[j]?=some v∨b'≠b:=by
      by_cases hbb:b'=b
      · left
        subst hbb
        rw [cut_get hj]
        simp only [World.cell?,hb] at hc
        simpa using hc
      · exact .inr hbb
    have hbb:b'=b:=by
      cases dp with
      | true=>simp only [if_true] at h; obtain ⟨bss,h1,_⟩:=h; simp at h1; exact h1.1.symm
      | false=>simp only [Bool.false_eq_true,if_false] at h; have:=h.1; simp at this; exact this.1.symm
    have hcell:=hcell.resolve_right (fun hn=>hn hbb)
    cases dp with
    | true =>
      simp only [if_true] at h
      obtain ⟨bss,h1,hlen,hel⟩:=h
      obtain ⟨v',t',x',bs',hv',rfl,ho,hb'⟩:=own_cell (hel i hi) hu
      rw [hcell] at hv'
      simp at hv'
      subst hv'
      refine ⟨t',x',rfl,own_rep ho (fun q hq=>hJ q ?_)⟩
      rw [h1]
      exact List.mem_cons_of_mem _ (bss_mem (by omega) (hb' q hq))
    | false =>
      simp only [Bool.false_eq_true,if_false] at h
      obtain ⟨v',t',x',hv',rfl,hr⟩:=rep_cell (h.2 i hi) hu
      rw [hcell] at hv'
      simp at hv'
      subst hv'
      exact ⟨t',x',rfl,rep_imp hI hr⟩
def cov1 (cx:Cx) (J:Nat→Prop):V→Prop
  | .own id | .sub id _ _ | .part id _ _=>∀ (dp:Bool) (e:Ty) (l:List e.den) (bs:List Nat),cx.ob[id]?=some (.row dp e l)→cx.fp[id]?=some bs→∀ b∈bs,J b
  | _=>True
def cov (cx:Cx) (J:Nat→Prop):V→Prop
  | .agg us=>∀ u∈us,cov1 cx J u
  | .pt id _ _=>(∀ o bs,cx.ob[id]?=some o→live o→cx.fp[id]?=some bs→∀ b∈bs,J b)∧∀ us,(cx.ob[id]?=some (.box us)∨cx.ob[id]?=some (.fbox us))→∀ u∈us,cov1 cx J u
  | u=>cov1 cx J u
theorem cov1_all (cx:Cx) (u:V):cov1 cx (fun _=>True) u:=by cases u<;>simp [cov1]
theorem cov_all (cx:Cx) (u:V):cov cx (fun _=>True) u:=by
  cases u with
  | agg us=>exact fun u _=>cov1_all cx u
  | pt id i off=>exact ⟨fun _ _ _ _ _ _ _=>trivial,fun us _ u _=>cov1_all cx u⟩
  | own id=>exact cov1_all cx (.own id)
  | sub id i j=>exact cov1_all cx (.sub id i j)
  | part id i j=>exact cov1_all cx (.part id i j)
  | _=>trivial
theorem part_rep {w:World} {I J:Nat→Prop} {dp:Bool} {e:Ty} {l:List e.den} {bs:List Nat} {v:Value} {lo hi:Nat} (h:rowRep w I dp e l bs) (h1:lo≤hi) (h2:hi≤l.length)
    (hh:∃ A cap,v=.slice A (hi - lo) cap∧hi - lo≤cap∧(lo < hi→∃ b rest,bs=b :: rest∧A=some ⟨b,lo * e.sz,none⟩)) (hJ:∀ b∈bs,J b) (hI:∀ b,b < w.heap.size→I b→J b):rep w J (.slice e) (cut l lo (hi - lo)) [v] := by
  have hlen:(cut l lo (hi - lo)).length=hi - lo:=by simp [cut]; omega
  obtain ⟨A,cap,rfl,hcap,hA⟩:=hh
  refine ⟨A,cap,by rw [hlen],by rw [hlen]; exact hcap,fun i hi'=>?_⟩
  have hi'':i < hi - lo:=by rw [hlen] at hi'; exact hi'
  obtain ⟨b,rest,rfl,rfl⟩:=hA (by omega)
  rcases h with ⟨_,h⟩ | ⟨b0,c,T,hb,hsz,h⟩
  · cases h
  · have hb0:b0=b:=by
      cases dp with
      | true=>simp only [if_true] at h; obtain ⟨bss,h,_⟩:=h; exact (List.cons.inj h).1.symm
      | false=>simp only [Bool.false_eq_true,if_false] at h; exact (List.cons.inj h.1).1.symm
    subst hb0
    have key:∀ i (hi:i < l.length),rep w J e l[i] (cut c.toList (i * e.sz) e.sz):=by
      intro i hi
      cases dp with
      | true =>
        simp only [if_true] at h
        obtain ⟨bss,he,hbl,hel⟩:=h
        have he':=(List.cons.inj he).2
        refine own_rep (hel i hi) (fun q hq=>hJ q (List.mem_cons_of_mem _ ?_))
        rw [he']
        exact bss_mem (by omega) hq
      | false =>
        simp only [Bool.false_eq_true,if_false] at h
        exact rep_imp hI (h.2 i hi)
    have hil:lo + i < l.length:=by omega
    have hg:(cut l lo (hi - lo))[i]=l[lo + i] := by
      simp [cut]
    refine ⟨⟨b0,lo * e.sz,none⟩,cut c.toList ((lo + i) * e.sz) e.sz,rfl,rfl,hJ b0 (by simp),?_,by rw [hg]; exact key (lo + i) hil⟩
    have hm:=mul_le_of_lt (s:=e.sz) hil
    have e1:lo * e.sz + i * e.sz=(lo + i) * e.sz:=by rw [Nat.add_mul]
    show Mem w b0 (lo * e.sz + i * e.sz) _
    rw [e1]
    exact mem_of_getElem?' hb (by omega)
section
variable {B:Lim} {M:Nat→Prop} {w0 w:World} {ob:List Ob} {fp:List (List Nat)} {J:Nat→Prop}
theorem plain_rel' {cx:Cx} {J:Nat→Prop} (hro:∀ (id:Nat) (dp:Bool) (e:Ty) (l:List e.den) (bs:List Nat),cx.ob[id]?=some (.row dp e l)→cx.fp[id]?=some bs→rowRep cx.w cx.I dp e l bs) (hI:∀ b,b < cx.w.heap.size→cx.I b→J b)
    {v:Value} {u:V} (h:crep cx v u) (hc:cov1 cx J u):prep cx.w J v (plain cx.ob u):=by
  cases u with
  | d t x=>exact rep_imp hI h
  | nil=>exact h
  | nilp=>exact h
  | own id =>
    obtain ⟨o,bs,ho,hf,h⟩:=h
    simp only [plain,getAt_eq,ho]
    cases o with
    | row dp e l=>exact row_rep (hro id _ _ _ bs ho hf) h (hc _ _ _ bs ho hf) hI
    | frz e l=>exact rep_imp hI h
    | _=>trivial
  | sub id i j =>
    obtain ⟨o,bs,ho,hf,h⟩:=h
    simp only [plain,getAt_eq,ho]
    cases o with
    | row dp e l =>
      obtain ⟨hi,hj,_,b,r,rfl,hcell⟩:=h
      dsimp only
      cases hu:(dcells e (l.getD i e.zero))[j]? with
      | none=>trivial
      | some u =>
        obtain ⟨t,x,rfl,hr⟩:=row_cell (hro id _ _ _ _ ho hf) hi hj hcell (hc _ _ _ _ ho hf) hI hu
        exact hr
    | frz e l =>
      dsimp only
      cases hu:(dcells e (l.getD i e.zero))[j]? with
      | none=>trivial
      | some u =>
        obtain ⟨t,x,rfl,hr⟩:=h.2 u hu
        exact rep_imp hI hr
    | _=>trivial
  | part id lo hi =>
    obtain ⟨o,bs,ho,hf,h⟩:=h
    simp only [plain,getAt_eq,ho]
    cases o with
    | row dp e l=>exact part_rep (hro id _ _ _ bs ho hf) h.1 h.2.1 h.2.2 (hc _ _ _ bs ho hf) hI
    | _=>trivial
  | emp b e=>obtain ⟨A,c,rfl,_⟩:=h; exact ⟨A,c,rfl,Nat.zero_le _,fun i hi=>absurd hi (Nat.not_lt_zero _)⟩
  | z e=>obtain ⟨A,rfl⟩:=h; exact ⟨A,0,rfl,Nat.zero_le _,fun i hi=>absurd hi (Nat.not_lt_zero _)⟩
  | _=>trivial
theorem plain_rel (H:Hrel B M w0 w ob fp) (hI:∀ b,b < w.heap.size→imm B M w ob fp b→J b) {v:Value} {u:V} (h:crep (cxOf B M w ob fp) v u) (hc:cov1 (cxOf B M w ob fp) J u):prep w J v (plain ob u) :=
  plain_rel' (cx:=cxOf B M w ob fp) (fun id _ _ _ bs ho hf=>H.ob id _ bs ho hf) hI h hc
theorem all2_map {α β γ:Type} {R:α→β→Prop} {S:α→γ→Prop} {f:β→γ} {l:List α} {m:List β} (h:All2 R l m) (hf:∀ x y,y∈m→R x y→S x (f y)):All2 S l (m.map f):=by
  refine ⟨by simpa using h.1,fun i x z hx hz=>?_⟩
  simp only [List.getElem?_map,Option.map_eq_some_iff] at hz
  obtain ⟨y,hy,rfl⟩:=hz
  exact hf x y (List.mem_of_getElem? hy) (h.2 i x y hx hy)
theorem all2_cut {α β:Type} {R:α→β→Prop} {l:List α} {m:List β} (h:All2 R l m) (o n:Nat):All2 R (cut l o n) (cut m o n):=by
  refine ⟨by simp [cut,h.1],fun i x y hx hy=>?_⟩
  simp only [cut,List.getElem?_take,List.getElem?_drop] at hx hy
  split at hx
  · rename_i hlt
    rw [if_pos hlt] at hy
    exact h.2 _ x y hx hy
  · cases hx
theorem all2_dcells {t:Ty} {x:t.den} {cs:List Value} (h:rep w J t x cs):All2 (prep w J) cs (dcells t x):=by
  refine ⟨by rw [rep_length h,dcells_length],fun i v u hv hu=>?_⟩
  obtain ⟨v',t',x',hv',rfl,hr⟩:=rep_cell h hu
  rw [hv] at hv'
  simp at hv'
  subst hv'
  exact hr
theorem add_block (a:Addr) (n:Nat):(a.add n).block=a.block:=by unfold Addr.add; split<;>rfl
theorem add_off (a:Addr) (n:Nat):(a.add n).off=a.off + n:=by unfold Addr.add; split<;>simp_all
theorem add_spot {a:Addr} (h:a.spot=none) (n:Nat):(a.add n).spot=none:=by unfold Addr.add; split<;>simp_all
theorem cells_one {v:Value} (h:one v):v.cells.toList=[v] := by rw [one_cells h]
theorem ptCells_rel (H:Hrel B M w0 w ob fp) (hI:∀ b,b < w.heap.size→imm B M w ob fp b→J b) {v:Value} {id i off n:Nat} {us:List V} (h:crep (cxOf B M w ob fp) v (.pt id i off))
    (hc:cov (cxOf B M w ob fp) J (.pt id i off)) (hp:ptCells ob id i off n=some us) :
    ∃ (ad:Addr) (vs:List Value),v=.pointer (some ad)∧ad.spot=none∧J ad.block∧Mem w ad.block ad.off vs∧All2 (prep w J) vs us:=by
  obtain ⟨o,bs,ho,hf,h⟩:=h
  simp only [cxOf] at ho hf
  simp only [ptCells,getAt_eq,ho] at hp
  have hob:=H.ob id o bs ho hf
  cases o with
  | box cs =>
    obtain ⟨rfl,b,rfl,rfl⟩:=h
    dsimp only at hp
    split at hp
    · rename_i hle
      simp at hp hle
      subst hp
      obtain ⟨b',c,T,hb',hh,ha⟩:=hob
      simp at hb'
      subst hb'
      have hlen:c.toList.length=cs.length:=ha.1
      refine ⟨⟨b,off,none⟩,cut c.toList off n,rfl,rfl,hc.1 _ _ ho trivial hf b (by simp),mem_of_getElem?' hh (by show off + n≤_; simp at hlen; omega),?_⟩
      refine all2_map (all2_cut ha off n) (fun x y hy hr=>plain_rel H hI hr (hc.2 cs (.inl ho) y ?_))
      exact List.mem_of_mem_drop (List.mem_of_mem_take hy)
    · cases hp
  | fbox cs =>
    obtain ⟨rfl,b,rfl,rfl⟩:=h
    dsimp only at hp
    split at hp
    · rename_i hle
      simp at hp hle
      subst hp
      obtain ⟨b',c,T,fz,hb',hh,hib,ha⟩:=hob
      simp at hb'
      subst hb'
      have hlen:c.toList.length=cs.length:=ha.1
      refine ⟨⟨b,off,none⟩,cut c.toList off n,rfl,rfl,hI b (H.ge b (List.mem_flatten.2 ⟨_,List.mem_of_getElem? hf,by simp⟩)).2 hib,mem_of_getElem?' hh (by show off + n≤_; simp at hlen; omega),?_⟩
      refine all2_map (all2_cut ha off n) (fun x y hy hr=>plain_rel H hI hr (hc.2 cs (.inr ho) y ?_))
      exact List.mem_of_mem_drop (List.mem_of_mem_take hy)
    · cases hp
  | pre e l n=>cases hp
  | mp k l=>cases hp
  | row dp e l =>
    obtain ⟨hi,b,r,rfl,rfl⟩:=h
    dsimp only at hp
    split at hp
    · rename_i hle
      simp at hp hle
      subst hp
      have hm:=mul_le_of_lt (s:=e.sz) hi
      rcases hob with ⟨rfl,hx⟩ | ⟨b',c,T,hh,hsz,hx⟩
      · cases hx
      · have hbb:b'=b:=by
          cases dp with
          | true=>simp only [if_true] at hx; obtain ⟨bss,h1,_⟩:=hx; simp at h1; exact h1.1.symm
          | false=>simp only [Bool.false_eq_true,if_false] at hx; have:=hx.1; simp at this; exact this.1.symm
        subst hbb
        have key:rep w J e (l.getD i e.zero) (cut c.toList (i * e.sz) e.sz):=by
          rw [getD_of_lt hi]
          cases dp with
          | true =>
            simp only [if_true] at hx
            obtain ⟨bss,h1,hlen,hel⟩:=hx
            refine own_rep (hel i hi) (fun q hq=>hc.1 _ _ ho trivial hf q ?_)
            rw [h1]
            exact List.mem_cons_of_mem _ (bss_mem (by omega) hq)
          | false =>
            simp only [Bool.false_eq_true,if_false] at hx
            exact rep_imp hI (hx.2 i hi)
        refine ⟨⟨b',i * e.sz + off,none⟩,cut (cut c.toList (i * e.sz) e.sz) off n,rfl,rfl,hc.1 _ _ ho trivial hf b' (by simp),?_,all2_cut (all2_dcells key) off n⟩
        exact (mem_of_getElem?' hh (by omega)).part (by rw [cut_length (by simp; omega)]; exact hle)
    · cases hp
  | frz e l =>
    obtain ⟨hi,b,r,rfl,rfl⟩:=h
    dsimp only at hp
    split at hp
    · rename_i hle
      simp at hp hle
      subst hp
      have hm:=mul_le_of_lt (s:=e.sz) hi
      rcases hob with ⟨rfl,hx⟩ | ⟨b',c,T,fz,rest,hbs,hh,hsz,hib,hx⟩
      · cases hx
      · simp at hbs
        obtain ⟨rfl,rfl⟩:=hbs
        have key:rep w J e (l.getD i e.zero) (cut c.toList (i * e.sz) e.sz):=by
          rw [getD_of_lt hi]; exact rep_imp hI (hx i hi)
        refine ⟨⟨b,i * e.sz + off,none⟩,cut (cut c.toList (i * e.sz) e.sz) off n,rfl,rfl,hI b (H.ge b (List.mem_flatten.2 ⟨_,List.mem_of_getElem? hf,by simp⟩)).2 hib,?_,all2_cut (all2_dcells key) off n⟩
        exact (mem_of_getElem?' hh (by omega)).part (by rw [cut_length (by simp; omega)]; exact hle)
    · cases hp
  | dead=>cases hp
theorem asCell_rel (H:Hrel B M w0 w ob fp) (hI:∀ b,b < w.heap.size→imm B M w ob fp b→J b) {v:Value} {u:V} {t:Ty} {x:t.den} (h:crep (cxOf B M w ob fp) v u)
    (hc:cov (cxOf B M w ob fp) J u) (hx:asCell ob t u=some x):rep w J t x [v] := by
  have hc1:cov1 (cxOf B M w ob fp) J u:=by
    cases u<;>first | exact hc | trivial
  have gen:getd t (plain ob u)=some x→rep w J t x [v] := fun hg=>getd_rel (plain_rel H hI h hc1) hg
  cases t with
  | ptr e =>
    cases u with
    | rp t' y off =>
      simp only [asCell] at hx
      split at hx
      · rename_i hle
        simp only [Option.map_eq_some_iff] at hx
        obtain ⟨z,hz,rfl⟩:=hx
        obtain ⟨ad,vs,rfl,hs,hIa,hm,hr⟩:=h
        simp at hle
        refine ⟨ad.add off,cut vs off e.sz,rfl,add_spot hs off,?_,?_,?_⟩
        · rw [add_block]; exact hI _ hm.lt hIa
        · rw [add_block,add_off]; exact hm.part (by rw [rep_length hr]; exact hle)
        · exact ofcells_rel hz (all2_cut (all2_dcells (rep_imp hI hr)) off e.sz)
      · cases hx
    | pt id i off =>
      simp only [asCell] at hx
      split at hx
      · rename_i us hus
        simp only [Option.map_eq_some_iff] at hx
        obtain ⟨z,hz,rfl⟩:=hx
        obtain ⟨ad,vs,rfl,hs,hJa,hm,ha⟩:=ptCells_rel H hI h hc hus
        exact ⟨ad,vs,rfl,hs,hJa,hm,ofcells_rel hz ha⟩
      · cases hx
    | _=>exact gen hx
  | ifp k e =>
    cases u with
    | d t' x' =>
      cases t' with
      | ifp k' e' =>
        simp only [asCell] at hx
        split at hx
        · exact getd_rel (v:=v) (u:=.d (.ifp k' e') x') (show rep w J _ _ _ from rep_imp hI h) hx
        · cases x' with
          | none =>
            simp only [Option.some.injEq] at hx
            subst hx
            exact h
          | some z=>cases hx
      | _=>exact gen hx
    | _=>exact gen hx
  | _=>exact gen hx
theorem asTy_rel (H:Hrel B M w0 w ob fp) (hI:∀ b,b < w.heap.size→imm B M w ob fp b→J b) {v:Value} {u:V} {t:Ty} {x:t.den} (h:vrep (cxOf B M w ob fp) v u)
    (hc:cov (cxOf B M w ob fp) J u) (hx:asTy ob t u=some x):rep w J t x v.cells.toList∧(t.isAgg=true→∃ vs,v=.agg vs)∧(t.isAgg=false→one v):=by
  simp only [asTy] at hx
  split at hx
  · rename_i hag
    split at hx
    · rename_i us
      obtain ⟨vs,rfl,ha⟩:=h
      refine ⟨?_,fun _=>⟨vs,rfl⟩,fun hn=>by rw [hag] at hn; cases hn⟩
      exact ofcells_rel hx (all2_map ha (fun a b hb hr=>plain_rel H hI hr (hc b hb)))
    · cases hx
  · rename_i hag
    have hcell:crep (cxOf B M w ob fp) v u:=by
      cases u with
      | agg us =>
        exfalso
        cases t<;>simp [asCell,plain,getd] at hx
      | any =>
        exfalso
        cases t<;>simp [asCell,plain,getd] at hx
      | _=>exact h
    have h1:=crep_one hcell
    refine ⟨?_,fun ha=>absurd ha hag,fun _=>h1⟩
    rw [cells_one h1]
    exact asCell_rel H hI hcell hc hx
end
end Go.Vm

namespace Go.Vm
variable [Amb]
open Go.RowKit (Below)
def TyRep (w:World) (J:Nat→Prop) (t:Ty) (x:t.den) (v:Value):Prop :=
  rep w J t x v.cells.toList∧(t.isAgg=true→∃ vs,v=.agg vs)∧(t.isAgg=false→one v)
def TupRep (w:World) (J:Nat→Prop):(ts:List Ty)→Tup ts→List Value→Prop
  | [],_,vs=>vs=[]
  | t :: ts,x,vs=>∃ v r,vs=v :: r∧TyRep w J t x.1 v∧TupRep w J ts x.2 r
def TyOwn (w:World) (t:Ty) (x:t.den) (v:Value) (bs:List Nat):Prop :=
  own w t x v.cells.toList bs∧(t.isAgg=true→∃ vs,v=.agg vs)∧(t.isAgg=false→one v)
def TupOwn (w:World):(ts:List Ty)→Tup ts→List Value→List Nat→Prop
  | [],_,vs,bs=>vs=[]∧bs=[]
  | t :: ts,x,vs,bs=>∃ v r b1 b2,vs=v :: r∧bs=b1++b2∧TyOwn w t x.1 v b1∧TupOwn w ts x.2 r b2
def resVal:List Value→Value
  | [v] => v
  | vs=>.tuple vs.toArray
structure ConW (P:Program) (f:FuncId) (ws:WSig):Prop where
  run:∀ (M:Nat→Prop) (x:ws.t.den) (q:Tup ws.qs) (y:ws.t.den×Tup ws.rs) (w:World) (args:Array Value) (v:Value) (rest:List Value) (bs:List Nat),ws.F x q=some y→args.toList=v :: rest →
    TyOwn w ws.t x v bs→bs.Nodup→(∀ b∈bs,b < w.heap.size)→TupRep w M ws.qs q rest→(Amb.A w∧∀ b∈bs,¬ Amb.G b) →
    Calls P f args w fun e w'=>∃ vs,e=.returned (resVal vs)∧w'.os=w.os∧w'.tape=w.tape∧w'.output=w.output∧w.heap.size≤w'.heap.size∧(∀ b,b < w.heap.size→b∉bs→w'.heap[b]?=w.heap[b]?) ∧
      TupRep w' (fun _=>True) ws.rs y.2 vs∧∃ bs',TyOwn w' ws.t y.1 v bs'∧bs'.Nodup∧∀ b∈bs',b∈bs∨(w.heap.size≤b∧b < w'.heap.size)
structure ConP (P:Program) (f:FuncId) (vs:VSig):Prop where
  run:∀ (M:Nat→Prop) (x:vs.t.den) (q:Tup vs.qs) (y:vs.u.den×Tup vs.rs) (w:World) (args:Array Value) (rest:List Value) (b0:Nat) (c:Array Value) (T:TypeId) (bs:List Nat),vs.F x q=some y→args.toList=.pointer (some ⟨b0,0,none⟩) :: rest →
    w.heap[b0]?=some (.cells c T (0,0))→own w vs.t x c.toList bs→(b0 :: bs).Nodup→(∀ b∈bs,b < w.heap.size)→TupRep w M vs.qs q rest→(Amb.A w∧∀ b∈b0 :: bs,¬ Amb.G b) →
    Calls P f args w fun e w'=>∃ vals,e=.returned (resVal vals)∧w'.os=w.os∧w'.tape=w.tape∧w'.output=w.output∧w.heap.size≤w'.heap.size∧(∀ b,b < w.heap.size→b∉b0 :: bs→w'.heap[b]?=w.heap[b]?) ∧
      TupRep w' (fun _=>True) vs.rs y.2 vals∧∃ c' T' bs',w'.heap[b0]?=some (.cells c' T' (0,0))∧own w' vs.u y.1 c'.toList bs'∧(b0 :: bs').Nodup∧∀ b∈bs',b∈bs∨(w.heap.size≤b∧b < w'.heap.size)
structure ConU (P:Program) (f:FuncId) (vs:VSig):Prop where
  run:∀ (M:Nat→Prop) (x:vs.t.den) (q:Tup vs.qs) (y:vs.u.den×Tup vs.rs) (w:World) (args:Array Value) (v:Value) (rest:List Value) (bs:List Nat),vs.F x q=some y→args.toList=v :: rest →
    TyOwn w vs.t x v bs→bs.Nodup→(∀ b∈bs,b < w.heap.size)→TupRep w M vs.qs q rest→(Amb.A w∧∀ b∈bs,¬ Amb.G b) →
    Calls P f args w fun e w'=>∃ r,e=.returned r∧w'.os=w.os∧w'.tape=w.tape∧w'.output=w.output∧w.heap.size≤w'.heap.size∧(∀ b,b < w.heap.size→b∉bs→w'.heap[b]?=w.heap[b]?) ∧
      ∃ bs',TyOwn w' vs.u y.1 r bs'∧bs'.Nodup∧∀ b∈bs',b∈bs∨(w.heap.size≤b∧b < w'.heap.size)
structure ConK (P:Program) (f:FuncId) (vs:VSig) (e:Ty):Prop where
  run:∀ (M:Nat→Prop) (x:vs.t.den) (y:vs.u.den×Tup vs.rs) (l:List e.den) (w:World) (args:Array Value),vs.F x (tzero vs.qs)=some y→getd (.slice e) (.d vs.u y.1)=some l→TupRep w M [vs.t] (x,()) args.toList→Amb.A w →
    Calls P f args w fun en w'=>∃ v bs,en=.returned v∧Below w.heap.size w w'∧bs.Nodup∧(∀ b∈bs,w.heap.size≤b∧b < w'.heap.size)∧hdr w' e l bs v∧rowRep w' (fun b=>M b∨(w.heap.size≤b∧b∉bs)) false e l bs
structure ConI (P:Program) (f:FuncId) (vs:VSig) (ks:List TypeId):Prop where
  run:∀ (M:Nat→Prop) (x:vs.t.den) (y:vs.u.den×Tup vs.rs) (g:Int) (ok:Bool) (w:World) (args:Array Value),vs.F x (tzero vs.qs)=some y→ofTup vs.rs y.2=[.d (.int .i64) g,.d .bool ok]→TupRep w M [vs.t] (x,()) args.toList→Amb.A w →
    Calls P f args w fun en w'=>∃ v,en=.returned (.tuple #[v,.bool ok])∧Below w.heap.size w w'∧one v∧(0≤g→∃ k p,ks[g.toNat]?=some k∧v=.iface k (.agg p)∧rep w' (fun b=>M b∨w.heap.size≤b) vs.u y.1 p.toList∧vs.u.isAgg=true)
structure ConH (P:Program) (f:FuncId) (hs:HSig):Prop where
  run:∀ (g:FuncId) (rd:ByteArray→Option (List ByteArray)) (cap:Array Value) (w:World) (l:List ByteArray) (v:Value) (y:Tup hs.rs),(∀ args w,(callFunc g args).run P w=.ok (.enter g args) w) →
    (∀ (x:ByteArray) (ys:List ByteArray) (w':World),rd x=some ys→Below w.heap.size w w'→Calls P g (#[.string x]++cap) w' fun e w2=>∃ r,e=.returned r∧Below w'.heap.size w' w2∧rep w2 (fun b=>b < w.heap.size∨w'.heap.size≤b) (.slice .str) ys [r]) →
    rep w (fun _=>True) (.slice .str) l [v]→hs.F rd l=some y→Amb.A w →
    Calls P f #[v,.func (.func g) #[] cap] w fun e w'=>∃ vs,e=.returned (resVal vs)∧Below w.heap.size w w'∧∃ bs,TupOwn w' hs.rs y vs bs∧bs.Nodup∧∀ b∈bs,w.heap.size≤b∧b < w'.heap.size
structure ConL (P:Program) (f:FuncId) (ls:LSig):Prop where
  run:ls.h=none→∀ (M:Nat→Prop) (x:ls.t.den) (q:Tup ls.qs) (y:Tup ls.rs) (w:World) (args:Array Value) (v:Value) (rest:List Value),ls.F x q=some y→args.toList=v :: rest→TyRep w M ls.t x v→TupRep w (fun _=>True) ls.qs q rest→Amb.A w →
    Calls P f args w fun e w'=>∃ vs,e=.returned (resVal vs)∧Below w.heap.size w w'∧TupRep w' (fun b=>M b∨w.heap.size≤b) ls.rs y vs
  hi:∀ hs,ls.h=some hs→ConH P f hs
def trOut (w:Bool):Tr→Option (V×Option (List Ob×List Nat))
  | .fail=>none
  | .leaf v=>some (v,none)
  | .chg v ob ids=>some (v,some (ob,ids))
  | .ite b x y=>if b=true then trOut w x else trOut w y
  | .bind t o f=>(if w=true then o else some t.zero).bind fun z=>trOut w (f z)
def ClosOk (P:Program) (cx:Cx) (cl:Clos):Prop:=∀ (c:V) (fv:Value) (ts:List Ty) (x:Tup ts) (vs:List V),crep cx fv c→cl c ts x=some vs →
  ∃ g bs cap,fv=.func (.func g) bs cap∧(∀ args w,(callFunc g args).run P w=.ok (.enter g args) w) ∧
    ∀ (w:World) (args:List Value),cx.w.heap.size≤w.heap.size→(∀ b,b < cx.w.heap.size→cx.I b→w.heap[b]?=cx.w.heap[b]?)→TupRep w (fun _=>True) ts x args→Amb.A w →
      Calls P g (bs++args.toArray++cap) w fun e w'=>∃ rs,e=.returned (resVal rs)∧Below w.heap.size w w'∧∀ cx',All2 (vrep cx') rs vs
structure ConX (P:Program) (f:FuncId) (X:Clos→List Ob→List V→Tr):Prop where
  quiet:∀ {cl:Clos} {ob:List Ob} {vs:List V} {v:V},trOut true (X cl ob vs)=some (v,none)→∀ {B:Lim} {M:Nat→Prop} {w0 w:World} {fp:List (List Nat)} (args:Array Value),Hrel B M w0 w ob fp→ClosOk P (cxOf B M w ob fp) cl →
    All2 (trep (cxOf B M w ob fp)) args.toList vs→Calls P f args w fun e w'=>∃ v',e=.returned v'∧Below w.heap.size w w'∧trep (cxOf B M w' ob fp) v' v
  chg:∀ {cl:Clos} {ob ob':List Ob} {vs:List V} {v:V} {ids:List Nat},trOut true (X cl ob vs)=some (v,some (ob',ids))→∀ {B:Lim} {M:Nat→Prop} {w0 w:World} {fp:List (List Nat)} (args:Array Value),Hrel B M w0 w ob fp→ClosOk P (cxOf B M w ob fp) cl →
    All2 (trep (cxOf B M w ob fp)) args.toList vs→Calls P f args w fun e w'=>∃ v' fp',e=.returned v'∧Hrel B M w0 w' (ob'.map (onCells (killL1 ids))) fp' ∧
      (∀ v u,crep (cxOf B M w ob fp) v u→crep (cxOf B M w' (ob'.map (onCells (killL1 ids))) fp') v (killL1 ids u))∧trep (cxOf B M w' (ob'.map (onCells (killL1 ids))) fp') v' v
  mono:∀ {cl:Clos} {ob ob2:List Ob} {vs:List V} {v:V} (w:Bool),Pre ob ob2→trOut w (X cl ob vs)=some (v,none)→trOut w (X cl ob2 vs)=some (v,none)
structure Con (P:Program) (f:FuncId) (sig:Sig):Prop where
  enters:∀ args w,(callFunc f args).run P w=.ok (.enter f args) w
  wr:∀ ws,sig.w=some ws→ConW P f ws
  vp:∀ ws vs,sig.w=some ws→ws.v=some vs→vs.ks=none→vs.sh=none→vs.ptr=true→ConP P f vs
  vu:∀ ws vs,sig.w=some ws→ws.v=some vs→vs.ks=none→vs.sh=none→vs.ptr=false→ConU P f vs
  vk:∀ ws vs e,sig.w=some ws→ws.v=some vs→vs.ks=none→vs.sh=some e→ConK P f vs e
  vl:∀ ws ls,sig.w=some ws→ws.l=some ls→ConL P f ls
  vi:∀ ws vs ks,sig.w=some ws→ws.v=some vs→vs.ks=some ks→ConI P f vs ks
  xx:∀ X,sig.X=some X→ConX P f X
  run:sig.w=none→∀ (M:Nat→Prop) (x:Tup sig.ps) (y:Tup sig.rs) (w:World) (args:Array Value),sig.F x=some y→TupRep w M sig.ps x args.toList→Amb.A w →
    Calls P f args w fun e w'=>∃ vs,e=.returned (resVal vs)∧Below w.heap.size w w' ∧
      if sig.fresh=true then ∃ bs,TupOwn w' sig.rs y vs bs∧bs.Nodup∧∀ b∈bs,w.heap.size≤b∧b < w'.heap.size
      else TupRep w' (fun b=>M b∨w.heap.size≤b) sig.rs y vs
theorem TupOwn.rep {w:World} {J:Nat→Prop}:∀ {ts:List Ty} {x:Tup ts} {vs:List Value} {bs:List Nat},TupOwn w ts x vs bs→(∀ b∈bs,J b)→TupRep w J ts x vs
  | [],_,_,_,h,_=>h.1
  | t :: ts,x,_,_,h,hJ=>by
    obtain ⟨v,r,b1,b2,rfl,rfl,h1,h2⟩:=h
    exact ⟨v,r,rfl,⟨own_rep h1.1 (fun b hb=>hJ b (List.mem_append.2 (.inl hb))),h1.2⟩,h2.rep (fun b hb=>hJ b (List.mem_append.2 (.inr hb)))⟩
theorem TupRep.imp {w:World} {J J':Nat→Prop} (hJ:∀ b,b < w.heap.size→J b→J' b):∀ {ts:List Ty} {x:Tup ts} {vs:List Value},TupRep w J ts x vs→TupRep w J' ts x vs
  | [],_,_,h=>h
  | t :: ts,x,_,h=>by
    obtain ⟨v,r,rfl,h1,h2⟩:=h
    exact ⟨v,r,rfl,⟨rep_imp hJ h1.1,h1.2⟩,h2.imp hJ⟩
theorem TupRep.flat {w:World} {J J':Nat→Prop}:∀ {ts:List Ty} {x:Tup ts} {vs:List Value},ts.all Vm.flat=true→TupRep w J ts x vs→TupRep w J' ts x vs
  | [],_,_,_,h=>h
  | t :: ts,x,_,hf,h=>by
    obtain ⟨v,r,rfl,h1,h2⟩:=h
    simp only [List.all_cons,Bool.and_eq_true] at hf
    exact ⟨v,r,rfl,⟨rep_flat hf.1 h1.1,h1.2⟩,h2.flat hf.2⟩
def AnnOk (a:Act) (ann:List (Nat×Bool)):Prop:=∀ p,p∈ann→a.tmps[p.1]?=some (.bool p.2)
theorem oneB_iff {v:Value} (h:oneB v=true):one v:=by cases v<;>first | trivial | simp [oneB] at h
theorem ofValue_rel {cx:Cx} {v:Value} (h:one v):crep cx v (ofValue v):=by
  cases v with
  | slice a n c =>
    rcases a with _ | a
    · rcases n with _ | n
      · rcases c with _ | c
        · rfl
        · exact h
      · exact h
    · exact h
  | pointer a =>
    rcases a with _ | a
    · rfl
    · exact h
  | int k n=>rfl
  | bool b=>rfl
  | string s=>rfl
  | nilIface=>rfl
  | _=>exact h
theorem ofValue_any {v:Value} (h:¬ one v):ofValue v=.any:=by cases v<;>first | rfl | exact absurd trivial h
theorem vrep_of_crep {cx:Cx} {v:Value} {u:V} (h:crep cx v u):vrep cx v u:=by
  cases u<;>first | exact h | trivial | exact h.elim
theorem trep_of_vrep {cx:Cx} {v:Value} {u:V} (h:vrep cx v u):trep cx v u:=by
  cases u<;>first | exact h | exact h.elim
theorem ofConst_rel {cx:Cx} (v:Value):vrep cx v (ofConst v):=by
  cases v with
  | agg cs =>
    simp only [ofConst]
    split
    · rename_i ho
      refine ⟨cs,rfl,by simp,fun i x y hx hy=>?_⟩
      simp only [List.getElem?_map,Option.map_eq_some_iff] at hy
      obtain ⟨z,hz,rfl⟩:=hy
      rw [hx] at hz
      simp at hz
      subst hz
      exact ofValue_rel (oneB_iff (List.all_eq_true.1 ho _ (List.mem_of_getElem? hx)))
    · trivial
  | tuple vs=>trivial
  | _=>exact vrep_of_crep (ofValue_rel trivial)
section
variable {cx:Cx} {a:Act} {s:Nat} {ann:List (Nat×Bool)}
theorem strip_rel {v:Value} {u:V} (h:grep cx (some s) a v u) (ha:AnnOk a ann):trep cx v (strip s ann u):=by
  cases u with
  | g s' t w u =>
    simp only [strip]
    split
    · rename_i hc
      simp only [Bool.and_eq_true,Nat.beq_eq,List.any_eq_true,beq_iff_eq] at hc
      obtain ⟨rfl,⟨q,hq⟩,hm,rfl,rfl⟩:=hc
      exact h rfl (ha _ hm)
    · trivial
  | _=>exact h
theorem ev_rel {st:St} {x:Operand} (h:∀ t,x=.tmp t→grep cx (some s) a (a.tmps.getD t undef) (look t st.tm)) (ha:AnnOk a ann):trep cx (a.eval x) (ev st s ann x):=by
  cases x with
  | tmp t=>exact strip_rel (h t rfl) ha
  | const v=>exact trep_of_vrep (ofConst_rel v)
  | global g=>trivial
  | func f=>rfl
end
theorem chk_some {R:Type} {W:Option Bool} {ok:Bool} {k:Option R} {r:R} (h:chk W ok k=some r):k=some r∧((∀ w,W=some w→w=true)→ok=true):=by
  unfold chk at h
  cases W with
  | none =>
    dsimp only at h
    split at h
    · rename_i ho; exact ⟨h,fun _=>ho⟩
    · cases h
  | some w =>
    dsimp only at h
    split at h
    · rename_i ho
      refine ⟨h,fun hw=>?_⟩
      have:=hw w rfl
      subst this
      simpa using ho
    · cases h
theorem wp_value {P:Program} {o:Oper} {a:Act} {w:World} {K:Act→World→Prop} {Q:Exit→Act→World→Prop} {v:Value} (h:(execOp a.eval o).run P w=.ok (.value v) w) (hk:K (a.put o.dst v) w):o.wp P a w K Q:=by
  unfold Oper.wp
  rw [h]
  exact hk
theorem eqGuard_run {P:Program} {w:World} {op:BinOp} {t:TypeId} {x y:Operand} {v u:Value} (h:∀ c d,¬ (v=.agg c∧u=.agg d)) (h2:¬ (v=.nilIface∧u=.nilIface)):(eqGuard op t x y v u).run P w=.ok () w:=by
  have key:∀ op',op'=BinOp.eql∨op'=BinOp.neq→(eqGuard op' t x y v u).run P w=.ok () w:=by
    intro op' ho
    cases v<;>cases u<;>first
      | (rcases ho with rfl | rfl<;>rfl)
      | exact absurd ⟨rfl,rfl⟩ h2
      | exact absurd ⟨rfl,rfl⟩ (h _ _)
  cases op<;>first | rfl | exact key _ (.inl rfl) | exact key _ (.inr rfl)
theorem equal_slice_nil {P:Program} {w:World} {t e:TypeId} (hu:P.underlying t=some (.slice e)) (A:Option Addr) (n c:Nat):(Op.equal t (.slice A n c) (.slice none 0 0)).run P w=.ok A.isNone w:=by
  have:Op.equal t (.slice A n c) (.slice none 0 0)=Op.equalIn (9999 + 1) t (.slice A n c) (.slice none 0 0):=rfl
  rw [this]
  generalize 9999=d
  cases A<;>simp [Op.equalIn,run_underlying hu]
theorem equal_bool {P:Program} {w:World} {t:TypeId} (hu:P.underlying t=some .bool) (a b:Bool):(Op.equal t (.bool a) (.bool b)).run P w=.ok (a == b) w:=by
  have:Op.equal t (.bool a) (.bool b)=Op.equalIn (9999 + 1) t (.bool a) (.bool b):=rfl
  rw [this]
  generalize 9999=d
  simp [Op.equalIn,run_underlying hu]
theorem equal_nil {P:Program} {w:World} {t q:TypeId} (hu:P.underlying t=some (.pointer q)) (p:Option Addr):(Op.equal t (.pointer p) (.pointer none)).run P w=.ok p.isNone w:=by
  have:Op.equal t (.pointer p) (.pointer none)=Op.equalIn (9999 + 1) t (.pointer p) (.pointer none):=rfl
  rw [this]
  generalize 9999=d
  cases p<;>simp [Op.equalIn,run_underlying hu]
theorem crep_int {cx:Cx} {v:Value} {k:IntKind} {n:Int} (h:trep cx v (.d (.int k) n)):v=.int k n:=by
  have:rep cx.w cx.I (.int k) n [v] := h
  simpa [rep] using this
theorem crep_bool {cx:Cx} {v:Value} {b:Bool} (h:trep cx v (.d .bool b)):v=.bool b:=by
  have:rep cx.w cx.I .bool b [v] := h
  simpa [rep] using this
theorem crep_str {cx:Cx} {v:Value} {s:ByteArray} (h:trep cx v (.d .str s)):v=.string s:=by
  have:rep cx.w cx.I .str s [v] := h
  simpa [rep] using this
theorem crep_slice {cx:Cx} {v:Value} {e:Ty} {l:List e.den} (h:trep cx v (.d (.slice e) l)):∃ A c,v=.slice A l.length c∧l.length≤c ∧
    ∀ i (h:i < l.length),∃ ad vs,A=some ad∧ad.spot=none∧cx.I ad.block∧Mem cx.w ad.block (ad.off + i * e.sz) vs∧rep cx.w cx.I e l[i] vs:=by
  have:rep cx.w cx.I (.slice e) l [v] := h
  obtain ⟨A,c,he,r⟩:=this
  simp at he
  exact ⟨A,c,he,r⟩
theorem trep_int {cx:Cx} {k:IntKind} {n:Int}:trep cx (.int k n) (.d (.int k) n):=rfl
theorem trep_bool {cx:Cx} {b:Bool}:trep cx (.bool b) (.d .bool b):=rfl
theorem trep_str {cx:Cx} {s:ByteArray}:trep cx (.string s) (.d .str s):=rfl
theorem bin_sound {P:Program} {R:Type} {W:Option Bool} {op:BinOp} {x y:V} {k:V→Option R} {r:R} {t:TypeId} (h:bin (P.underlying t) W op x y k=some r) :
    ∃ v,k v=some r∧((∀ w,W=some w→w=true)→∀ (cx:Cx) (vx vy:Value) (ox oy:Operand) (w:World),trep cx vx x→trep cx vy y →
      ∃ u,(do eqGuard op t ox oy vx vy; binOp op t vx vy:Sem Value).run P w=.ok u w∧trep cx u v):=by
  unfold bin at h
  split at h
  · rename_i k1 a k2 b
    have hg:∀ (ox oy:Operand) (w:World),(eqGuard op t ox oy (.int k1 a) (.int k2 b)).run P w=.ok () w:=fun ox oy w=>eqGuard_run (by simp) (by simp)
    split at h
    · obtain ⟨h1,h2⟩:=chk_some h
      refine ⟨_,h1,fun hW cx vx vy ox oy w hx hy=>⟨.int k1 (shlI k1 a b),?_,trep_int⟩⟩
      have hb:=h2 hW
      simp only [decide_eq_true_eq] at hb
      rw [crep_int hx,crep_int hy]
      have hb':¬ (@LT.lt Int _ b 0):=Int.not_lt.2 hb
      simp [hg,binOp,Op.shift,shlI,hb']
    · obtain ⟨h1,h2⟩:=chk_some h
      refine ⟨_,h1,fun hW cx vx vy ox oy w hx hy=>⟨.int k1 (shrI k1 a b),?_,trep_int⟩⟩
      have hb:=h2 hW
      simp only [decide_eq_true_eq] at hb
      rw [crep_int hx,crep_int hy]
      have hb':¬ (@LT.lt Int _ b 0):=Int.not_lt.2 hb
      simp [hg,binOp,Op.shift,shrI,hb']
    · rename_i hns1 hns2
      split at h
      case isFalse=>cases h
      rename_i hk; subst hk
      split at h
      · obtain ⟨h1,h2⟩:=chk_some h
        refine ⟨_,h1,fun hW cx vx vy ox oy w hx hy=>⟨.int k1 (k1.wrap (Int.tdiv a b)),?_,trep_int⟩⟩
        have hb:=h2 hW
        simp at hb
        rw [crep_int hx,crep_int hy]
        simp [hg,binOp,Op.intDiv,hb]
      · obtain ⟨h1,h2⟩:=chk_some h
        refine ⟨_,h1,fun hW cx vx vy ox oy w hx hy=>⟨.int k1 (Int.tmod a b),?_,trep_int⟩⟩
        have hb:=h2 hW
        simp at hb
        rw [crep_int hx,crep_int hy]
        simp [hg,binOp,Op.intDiv,hb]
      · refine ⟨_,h,fun hW cx vx vy ox oy w hx hy=>⟨.int k1 (bitsI .and k1 a b),?_,trep_int⟩⟩
        rw [crep_int hx,crep_int hy]
        simp [hg,binOp,Op.intBits,bitsI]
      · refine ⟨_,h,fun hW cx vx vy ox oy w hx hy=>⟨.int k1 (bitsI .or k1 a b),?_,trep_int⟩⟩
        rw [crep_int hx,crep_int hy]
        simp [hg,binOp,Op.intBits,bitsI]
      · refine ⟨_,h,fun hW cx vx vy ox oy w hx hy=>⟨.int k1 (bitsI .xor k1 a b),?_,trep_int⟩⟩
        rw [crep_int hx,crep_int hy]
        simp [hg,binOp,Op.intBits,bitsI]
      · split at h
        · rename_i v hv
          refine ⟨v,h,fun hW cx vx vy ox oy w hx hy=>?_⟩
          rw [crep_int hx,crep_int hy]
          cases op<;>simp [arith] at hv<;>subst hv
          · exact ⟨_,by simp [hg,binOp,Op.intArith],trep_int⟩
          · exact ⟨_,by simp [hg,binOp,Op.intArith],trep_int⟩
          · exact ⟨_,by simp [hg,binOp,Op.intArith],trep_int⟩
          all_goals exact ⟨_,by simp [hg,binOp,Op.intCmp],trep_bool⟩
        · cases h
  · rename_i a b
    have hg:∀ (ox oy:Operand) (w:World),(eqGuard op t ox oy (.string a) (.string b)).run P w=.ok () w:=fun ox oy w=>eqGuard_run (by simp) (by simp)
    split at h
    · obtain ⟨h1,h2⟩:=chk_some h
      refine ⟨_,h1,fun hW cx vx vy ox oy w hx hy=>⟨.string (scat a b),?_,trep_str⟩⟩
      have hb:=h2 hW
      simp only [decide_eq_true_eq] at hb
      rw [crep_str hx,crep_str hy]
      simp [hg,binOp,Op.stringOp,scat]
      exact hb
    · rename_i hna
      split at h
      · rename_i v hv
        refine ⟨v,h,fun hW cx vx vy ox oy w hx hy=>?_⟩
        rw [crep_str hx,crep_str hy]
        cases op<;>simp [strOp] at hv<;>subst hv
        all_goals exact ⟨_,by simp [hg,binOp,Op.stringOp,seq,slt],trep_bool⟩
      · cases h
  · rename_i a b
    have hg:∀ (ox oy:Operand) (w:World),(eqGuard op t ox oy (.bool a) (.bool b)).run P w=.ok () w:=fun ox oy w=>eqGuard_run (by simp) (by simp)
    split at h
    · refine ⟨_,h,fun hW cx vx vy ox oy w hx hy=>?_⟩
      rw [crep_bool hx,crep_bool hy]
      have hu:P.underlying t=some .bool:=by assumption
      exact ⟨_,by simp [hg,binOp,equal_bool hu],trep_bool⟩
    · refine ⟨_,h,fun hW cx vx vy ox oy w hx hy=>?_⟩
      rw [crep_bool hx,crep_bool hy]
      have hu:P.underlying t=some .bool:=by assumption
      exact ⟨_,by simp [hg,binOp,equal_bool hu],trep_bool⟩
    · cases h
  · rename_i e o
    have hp:∀ (cx:Cx) (vx:Value),trep cx vx (.d (.ptr e) o)→∃ p,vx=.pointer p∧p.isNone=o.isNone:=by
      intro cx vx hx
      have:rep cx.w cx.I (.ptr e) o [vx] := hx
      cases o with
      | none=>simp [rep] at this; exact ⟨none,this,rfl⟩
      | some y=>obtain ⟨ad,vs,he,_⟩:=this; simp at he; exact ⟨some ad,he,rfl⟩
    split at h
    · refine ⟨_,h,fun hW cx vx vy ox oy w hx hy=>?_⟩
      obtain ⟨q,hu⟩:∃ q,P.underlying t=some (.pointer q):=⟨_,by assumption⟩
      obtain ⟨p,rfl,hp⟩:=hp cx vx hx
      have hy':vy=.pointer none:=hy
      subst hy'
      rw [← hp]
      cases p with
      | none=>exact ⟨.bool true,by simp [eqGuard_run,binOp,equal_nil hu],trep_bool⟩
      | some ad=>exact ⟨.bool false,by simp [eqGuard_run,binOp,equal_nil hu],trep_bool⟩
    · refine ⟨_,h,fun hW cx vx vy ox oy w hx hy=>?_⟩
      obtain ⟨q,hu⟩:∃ q,P.underlying t=some (.pointer q):=⟨_,by assumption⟩
      obtain ⟨p,rfl,hp⟩:=hp cx vx hx
      have hy':vy=.pointer none:=hy
      subst hy'
      have hn:o.isSome=!p.isNone:=by rw [hp]; cases o<;>rfl
      rw [hn]
      cases p with
      | none=>exact ⟨.bool false,by simp [eqGuard_run,binOp,equal_nil hu],trep_bool⟩
      | some ad=>exact ⟨.bool true,by simp [eqGuard_run,binOp,equal_nil hu],trep_bool⟩
    · cases h
  · rename_i e l
    split at h
    case isFalse=>cases h
    rename_i hne
    have hp:∀ (cx:Cx) (vx:Value),trep cx vx (.d (.slice e) l)→∃ ad n c,vx=.slice (some ad) n c:=by
      intro cx vx hx
      obtain ⟨A,c,rfl,_,hel⟩:=crep_slice hx
      have h0:0 < List.length l:=by
        cases l with
        | nil=>simp [nonE] at hne
        | cons a r=>simp
      obtain ⟨ad,vs,rfl,_⟩:=hel 0 h0
      exact ⟨_,_,_,rfl⟩
    split at h
    · refine ⟨_,h,fun hW cx vx vy ox oy w hx hy=>?_⟩
      obtain ⟨q,hu⟩:∃ q,P.underlying t=some (.slice q):=⟨_,by assumption⟩
      obtain ⟨ad,n,c,rfl⟩:=hp cx vx hx
      have hy':vy=.slice none 0 0:=hy
      subst hy'
      exact ⟨.bool false,by simp [eqGuard_run,binOp,equal_slice_nil hu],trep_bool⟩
    · refine ⟨_,h,fun hW cx vx vy ox oy w hx hy=>?_⟩
      obtain ⟨q,hu⟩:∃ q,P.underlying t=some (.slice q):=⟨_,by assumption⟩
      obtain ⟨ad,n,c,rfl⟩:=hp cx vx hx
      have hy':vy=.slice none 0 0:=hy
      subst hy'
      exact ⟨.bool true,by simp [eqGuard_run,binOp,equal_slice_nil hu],trep_bool⟩
    · cases h
  · rename_i b e
    split at h
    · refine ⟨_,h,fun hW cx vx vy ox oy w hx hy=>?_⟩
      obtain ⟨q,hu⟩:∃ q,P.underlying t=some (.slice q):=⟨_,by assumption⟩
      obtain ⟨A,c,rfl,hA⟩:crep cx vx (.emp b e):=hx
      have hy':vy=.slice none 0 0:=hy
      subst hy'
      rw [← hA]
      exact ⟨.bool A.isNone,by simp [eqGuard_run,binOp,equal_slice_nil hu],trep_bool⟩
    · refine ⟨_,h,fun hW cx vx vy ox oy w hx hy=>?_⟩
      obtain ⟨q,hu⟩:∃ q,P.underlying t=some (.slice q):=⟨_,by assumption⟩
      obtain ⟨A,c,rfl,hA⟩:crep cx vx (.emp b e):=hx
      have hy':vy=.slice none 0 0:=hy
      subst hy'
      rw [← hA]
      exact ⟨.bool !A.isNone,by simp [eqGuard_run,binOp,equal_slice_nil hu],trep_bool⟩
    · cases h
  · rename_i e y o
    have hp:∀ (cx:Cx) (vx:Value),trep cx vx (.rp e y o)→∃ ad,vx=.pointer (some ad):=by
      intro cx vx hx
      obtain ⟨ad,vs,rfl,_⟩:crep cx vx (.rp e y o):=hx
      exact ⟨_,rfl⟩
    split at h
    · refine ⟨_,h,fun hW cx vx vy ox oy w hx hy=>?_⟩
      obtain ⟨q,hu⟩:∃ q,P.underlying t=some (.pointer q):=⟨_,by assumption⟩
      obtain ⟨p,rfl⟩:=hp cx vx hx
      have hy':vy=.pointer none:=hy
      subst hy'
      exact ⟨.bool false,by simp [eqGuard_run,binOp,equal_nil hu],trep_bool⟩
    · refine ⟨_,h,fun hW cx vx vy ox oy w hx hy=>?_⟩
      obtain ⟨q,hu⟩:∃ q,P.underlying t=some (.pointer q):=⟨_,by assumption⟩
      obtain ⟨p,rfl⟩:=hp cx vx hx
      have hy':vy=.pointer none:=hy
      subst hy'
      exact ⟨.bool true,by simp [eqGuard_run,binOp,equal_nil hu],trep_bool⟩
    · cases h
  · cases h
end Go.Vm

namespace Go.Vm
variable [Amb]
open Go.RowKit (Below)
theorem Mem.at {w:World} {ad:Addr} {vs:List Value} (hs:ad.spot=none) (h:Mem w ad.block ad.off vs) (j:Nat) (v:Value) (hv:vs[j]?=some v):w.cell? (ad.add j)=some v:=by
  have:=h.cell hv
  have he:ad.add j=⟨ad.block,ad.off + j,none⟩:=by
    cases ad with
    | mk b o s =>
      simp at hs
      subst hs
      unfold Addr.add
      split
      · rename_i h0; subst h0; rfl
      · rfl
  rw [he]
  exact this
def celly:Ty→Prop
  | .pair _ _=>False
  | .unit=>False
  | _=>True
theorem own_one {w:World} {I:Nat→Prop} {t:Ty} {x:t.den} {v:Value} {bs:List Nat} (h:own w t x [v] bs) (ht:match t with | .slice _=>False | .pair _ _=>False | _=>True):rep w I t x [v] := by
  cases t with
  | slice e=>exact ht.elim
  | pair a b=>exact ht.elim
  | ptr e=>obtain ⟨rfl,h,_⟩:=h; exact h
  | ifp k0 e=>obtain ⟨rfl,h,_⟩:=h; exact h
  | _=>exact h.1
theorem dcells_shape {t:Ty} {x:t.den} {j:Nat} {t':Ty} {x':t'.den} (h:(dcells t x)[j]?=some (.d t' x')):celly t':=by
  induction t generalizing j with
  | pair a b iha ihb =>
    simp only [dcells] at h
    by_cases hlt:j < (dcells a x.1).length
    · rw [List.getElem?_append_left hlt] at h; exact iha h
    · rw [List.getElem?_append_right (by omega)] at h; exact ihb h
  | unit=>simp [dcells] at h
  | _ =>
    simp only [dcells] at h
    rcases j with _ | j
    · simp at h; obtain ⟨rfl,_⟩:=h; trivial
    · simp at h
theorem subs_get (id i:Nat):∀ (us:List V) (j0 j:Nat) (u:V),(subs id i j0 us)[j]?=some u→∃ v,us[j]?=some v∧u=(match v with | .d (.slice _) _=>V.sub id i (j0 + j) | v=>v)
  | [],j0,j,u,h=>by simp [subs] at h
  | v :: r,j0,0,u,h=>by
    simp only [subs] at h
    simp at h
    exact ⟨v,rfl,h.symm⟩
  | v :: r,j0,j + 1,u,h=>by
    simp only [subs] at h
    simp at h
    obtain ⟨v',hv,hu⟩:=subs_get id i r (j0 + 1) j u h
    refine ⟨v',by simpa using hv,?_⟩
    rw [hu,show j0 + 1 + j=j0 + (j + 1) from by omega]
theorem subs_length (id i:Nat):∀ (us:List V) (j0:Nat),(subs id i j0 us).length=us.length
  | [],_=>rfl
  | _ :: r,j0=>by simp [subs,subs_length id i r (j0 + 1)]
section
variable {B:Lim} {M:Nat→Prop} {w0 w:World} {ob:List Ob} {fp:List (List Nat)} {R:Type}
theorem all2_crep_dcells {t:Ty} {x:t.den} {cs:List Value} {cx:Cx} (h:rep cx.w cx.I t x cs):All2 (crep cx) cs (dcells t x):=by
  refine ⟨by rw [rep_length h,dcells_length],fun i v u hv hu=>?_⟩
  obtain ⟨v',t',x',hv',rfl,hr⟩:=rep_cell h hu
  rw [hv] at hv'
  simp at hv'
  subst hv'
  exact hr
theorem readAt_sound {W:Option Bool} {n:Nat} {p:V} {k:List V→Option R} {r:R} (h:readAt W ob n p k=some r) :
    ∃ us,k us=some r∧((∀ x,W=some x→x=true)→∀ {B:Lim} {M:Nat→Prop} {w0 w:World} {fp:List (List Nat)},Hrel B M w0 w ob fp→∀ v,trep (cxOf B M w ob fp) v p →
      ∃ (ad:Addr) (vs:List Value),v=.pointer (some ad)∧ad.spot=none∧vs.length=n∧Mem w ad.block ad.off vs∧All2 (crep (cxOf B M w ob fp)) vs us):=by
  unfold readAt at h
  split at h
  · rename_i id i off
    rw [getAt_eq] at h
    split at h
    · rename_i cs ho
      split at h
      · rename_i hc
        simp at hc
        refine ⟨_,h,fun _ B M w0 w fp H v hv=>?_⟩
        obtain ⟨o,bs,ho',hf,hv⟩:crep (cxOf B M w ob fp) v (.pt id i off):=hv
        simp only [cxOf] at ho' hf
        rw [ho] at ho'; simp at ho'; subst ho'
        obtain ⟨rfl,b,rfl,rfl⟩:=hv
        obtain ⟨b',c,T,hb',hh,ha⟩:=H.ob id _ _ ho hf
        simp at hb'; subst hb'
        have hlen:c.toList.length=cs.length:=ha.1
        have hsz:off + n≤c.size:=by simp at hlen; omega
        exact ⟨⟨b,off,none⟩,cut c.toList off n,rfl,rfl,cut_length (by simpa using hsz),mem_of_getElem?' hh hsz,all2_cut ha off n⟩
      · cases h
    · rename_i cs ho
      split at h
      · rename_i hc
        simp at hc
        refine ⟨_,h,fun _ B M w0 w fp H v hv=>?_⟩
        obtain ⟨o,bs,ho',hf,hv⟩:crep (cxOf B M w ob fp) v (.pt id i off):=hv
        simp only [cxOf] at ho' hf
        rw [ho] at ho'; simp at ho'; subst ho'
        obtain ⟨rfl,b,rfl,rfl⟩:=hv
        obtain ⟨b',c,T,fz,hb',hh,_,ha⟩:=H.ob id _ _ ho hf
        simp at hb'; subst hb'
        have hlen:c.toList.length=cs.length:=ha.1
        have hsz:off + n≤c.size:=by simp at hlen; omega
        exact ⟨⟨b,off,none⟩,cut c.toList off n,rfl,rfl,cut_length (by simpa using hsz),mem_of_getElem?' hh hsz,all2_cut ha off n⟩
      · cases h
    · rename_i e l ho
      split at h
      · rename_i hc
        simp at hc
        refine ⟨_,h,fun _ B M w0 w fp H v hv=>?_⟩
        obtain ⟨o,bs,ho',hf,hv⟩:crep (cxOf B M w ob fp) v (.pt id i off):=hv
        simp only [cxOf] at ho' hf
        rw [ho] at ho'; simp at ho'; subst ho'
        obtain ⟨hi,b,rr,rfl,rfl⟩:=hv
        rcases H.ob id _ _ ho hf with ⟨rfl,hx⟩ | ⟨b',c,T,hh,hsz,hx⟩
        · cases hx
        · simp only [if_true] at hx
          obtain ⟨bss,h1,hlen,hel⟩:=hx
          simp at h1
          obtain ⟨rfl,h1⟩:=h1
          have hm:=mul_le_of_lt (s:=e.sz) hi
          have hcl:(cut c.toList (i * e.sz) e.sz).length=e.sz:=cut_length (by simp; omega)
          refine ⟨⟨b,i * e.sz + off,none⟩,cut (cut c.toList (i * e.sz) e.sz) off n,rfl,rfl,cut_length (by omega),(mem_of_getElem?' hh (by omega)).part (by omega),all2_cut ?_ off n⟩
          refine ⟨by rw [hcl,subs_length,dcells_length],fun j v u hv hu=>?_⟩
          obtain ⟨u',hu',rfl⟩:=subs_get id i _ 0 j u hu
          rw [getD_of_lt hi] at hu'
          obtain ⟨v',t',x',bs',hv',rfl,ho2,_⟩:=own_cell (hel i hi) hu'
          rw [hv] at hv'; simp at hv'; subst hv'
          have hshape:=dcells_shape hu'
          have hj:j < e.sz:=by
            rcases Nat.lt_or_ge j e.sz with h' | h'
            · exact h'
            · rw [List.getElem?_eq_none (by omega)] at hv; cases hv
          cases t' with
          | slice e' =>
            refine ⟨_,_,ho,hf,hi,by simpa using hj,rep_one (own_rep (I:=fun _=>True) ho2 (fun _ _=>trivial)) v (by simp),b,rr,rfl,?_⟩
            rw [cut_get hj] at hv
            show w.cell? ⟨b,i * e.sz + (0 + j),none⟩=some v
            have hh':w.heap[b]?=some (.cells c T (0,0)):=hh
            simp only [World.cell?,hh',Nat.zero_add]
            simpa using hv
          | pair a b=>exact hshape.elim
          | unit=>exact hshape.elim
          | _=>exact own_one ho2 trivial
      · cases h
    · rename_i e l ho
      split at h
      · rename_i hc
        simp at hc
        refine ⟨_,h,fun _ B M w0 w fp H v hv=>?_⟩
        obtain ⟨o,bs,ho',hf,hv⟩:crep (cxOf B M w ob fp) v (.pt id i off):=hv
        simp only [cxOf] at ho' hf
        rw [ho] at ho'; simp at ho'; subst ho'
        obtain ⟨hi,b,rr,rfl,rfl⟩:=hv
        rcases H.ob id _ _ ho hf with ⟨rfl,hx⟩ | ⟨b',c,T,hh,hsz,hx⟩
        · cases hx
        · simp only [Bool.false_eq_true,if_false] at hx
          obtain ⟨h1,hel⟩:=hx
          simp at h1
          obtain ⟨rfl,h1⟩:=h1
          have hm:=mul_le_of_lt (s:=e.sz) hi
          have hcl:(cut c.toList (i * e.sz) e.sz).length=e.sz:=cut_length (by simp; omega)
          refine ⟨⟨b,i * e.sz + off,none⟩,cut (cut c.toList (i * e.sz) e.sz) off n,rfl,rfl,cut_length (by omega),(mem_of_getElem?' hh (by omega)).part (by omega),all2_cut ?_ off n⟩
          rw [getD_of_lt hi]
          exact all2_crep_dcells (hel i hi)
      · cases h
    · rename_i e l m ho
      split at h
      · rename_i hc
        simp at hc
        obtain ⟨h1,h2⟩:=chk_some h
        refine ⟨_,h1,fun hW B M w0 w fp H v hv=>?_⟩
        have hmi:=Nat.le_of_ble_eq_true (h2 hW)
        obtain ⟨o,bs,ho',hf,hv⟩:crep (cxOf B M w ob fp) v (.pt id i off):=hv
        simp only [cxOf] at ho' hf
        rw [ho] at ho'; simp at ho'; subst ho'
        obtain ⟨hi,b,rr,rfl,rfl⟩:=hv
        rcases H.ob id _ _ ho hf with ⟨rfl,hx,_⟩ | ⟨b',c,T,hh,hsz,bss,hbs,_,_,_,hel⟩
        · cases hx
        · simp at hbs
          obtain ⟨rfl,rfl⟩:=hbs
          have hm:=mul_le_of_lt (s:=e.sz) hi
          have hcl:(cut c.toList (i * e.sz) e.sz).length=e.sz:=cut_length (by simp; omega)
          refine ⟨⟨b,i * e.sz + off,none⟩,cut (cut c.toList (i * e.sz) e.sz) off n,rfl,rfl,cut_length (by omega),(mem_of_getElem?' hh (by omega)).part (by omega),all2_cut ?_ off n⟩
          rw [getD_of_lt hi]
          exact all2_crep_dcells (hel i hi hmi)
      · cases h
    · rename_i e l ho
      split at h
      · rename_i hc
        simp at hc
        refine ⟨_,h,fun _ B M w0 w fp H v hv=>?_⟩
        obtain ⟨o,bs,ho',hf,hv⟩:crep (cxOf B M w ob fp) v (.pt id i off):=hv
        simp only [cxOf] at ho' hf
        rw [ho] at ho'; simp at ho'; subst ho'
        obtain ⟨hi,b,rr,rfl,rfl⟩:=hv
        rcases H.ob id _ _ ho hf with ⟨rfl,hx⟩ | ⟨b',c,T,fz,rest,hbs,hh,hsz,_,hel⟩
        · cases hx
        · simp at hbs
          obtain ⟨rfl,rfl⟩:=hbs
          have hm:=mul_le_of_lt (s:=e.sz) hi
          have hcl:(cut c.toList (i * e.sz) e.sz).length=e.sz:=cut_length (by simp; omega)
          refine ⟨⟨b,i * e.sz + off,none⟩,cut (cut c.toList (i * e.sz) e.sz) off n,rfl,rfl,cut_length (by omega),(mem_of_getElem?' hh (by omega)).part (by omega),all2_cut ?_ off n⟩
          rw [getD_of_lt hi]
          exact all2_crep_dcells (hel i hi)
      · cases h
    · cases h
  · rename_i t x off
    split at h
    · rename_i hc
      simp at hc
      refine ⟨_,h,fun _ B M w0 w fp H v hv=>?_⟩
      obtain ⟨ad,vs,rfl,hs,hI,hm,hr⟩:crep (cxOf B M w ob fp) v (.rp t x off):=hv
      have hl:=rep_length hr
      refine ⟨ad.add off,cut vs off n,rfl,add_spot hs off,cut_length (by omega),?_,all2_cut (all2_crep_dcells hr) off n⟩
      rw [add_block,add_off]
      exact hm.part (by omega)
    · cases h
  · rename_i e o
    split at h
    · rename_i hc
      simp at hc
      obtain ⟨h1,h2⟩:=chk_some h
      refine ⟨_,h1,fun hW B M w0 w fp H v hv=>?_⟩
      have hs:=h2 hW
      cases o with
      | none=>cases hs
      | some y =>
        obtain ⟨ad,vs,he,hs,hI,hm,hr⟩:rep w (imm B M w ob fp) (.ptr e) (some y) [v] := hv
        simp at he
        have hl:=rep_length hr
        refine ⟨ad,cut vs 0 n,he,hs,cut_length (by omega),by simpa using hm.part (i:=0) (n:=n) (by omega),all2_cut (all2_crep_dcells hr) 0 n⟩
    · cases h
  · cases h
theorem isAgg_run {P:Program} {t:TypeId} {ag:Bool} (h:aggT P t=some ag) (w:World):(isAgg t).run P w=.ok ag w:=by
  unfold aggT at h
  unfold isAgg
  cases hu:P.underlying t with
  | none=>simp [hu] at h
  | some d =>
    simp only [Sem.run_bind,run_underlying hu,Result.andThen_ok]
    cases d<;>simp [hu] at h<;>subst h<;>rfl
theorem sizeOf_run {P:Program} {t:TypeId} {i:TypeInfo} (h:P.info? t=some i) (w:World):(sizeOf t).run P w=.ok i.size w:=by
  simp [sizeOf,run_typeInfo w h]
theorem loadVar_run {P:Program} {t:TypeId} {ag:Bool} {i:TypeInfo} (h:aggT P t=some ag) (hi:P.info? t=some i) {w:World} {ad:Addr} {vs:List Value} (hs:ad.spot=none) (hm:Mem w ad.block ad.off vs) (hl:vs.length=i.size)
    (h1:ag=false→vs.length=1):(loadVar t ad).run P w=.ok (if ag=true then .agg vs.toArray else vs.headD undef) w:=by
  unfold loadVar
  simp only [Sem.run_bind,isAgg_run h,Result.andThen_ok]
  cases ag with
  | true =>
    simp only [if_true,Sem.run_bind,sizeOf_run hi,Result.andThen_ok]
    rw [← hl,run_loadCells_list w ad vs (fun j v hv=>hm.at hs j v hv)]
    rfl
  | false =>
    have:=h1 rfl
    match vs,this with
    | [v],_ =>
      have hc:=hm.at hs 0 v rfl
      have:ad.add 0=ad:=by simp [Addr.add]
      rw [this] at hc
      simp [hc]
theorem load_sound {P:Program} {W:Option Bool} {t:TypeId} {p:V} {k:V→Option R} {r:R} (h:load P W ob t p k=some r) :
    ∃ u,k u=some r∧((∀ x,W=some x→x=true)→∀ {B:Lim} {M:Nat→Prop} {w0 w:World} {fp:List (List Nat)},Hrel B M w0 w ob fp→∀ v,trep (cxOf B M w ob fp) v p →
      ∃ v',(Instr.loadAt t v).run P w=.ok v' w∧trep (cxOf B M w ob fp) v' u):=by
  unfold load at h
  split at h
  · rename_i ag i hag hi
    obtain ⟨us,hk,hs⟩:=readAt_sound h
    cases ag with
    | true =>
      simp only [if_true] at hk
      refine ⟨_,hk,fun hW B M w0 w fp H v hv=>?_⟩
      obtain ⟨ad,vs,rfl,hsp,hl,hm,ha⟩:=hs hW H v hv
      refine ⟨.agg vs.toArray,?_,⟨vs.toArray,rfl,by simpa using ha⟩⟩
      simp [Instr.loadAt,Instr.sureAddr,loadVar_run hag hi hsp hm hl (by simp)]
    | false =>
      simp only [Bool.false_eq_true,if_false] at hk
      split at hk
      · rename_i u
        refine ⟨u,hk,fun hW B M w0 w fp H v hv=>?_⟩
        obtain ⟨ad,vs,rfl,hsp,hl,hm,ha⟩:=hs hW H v hv
        have h1:vs.length=1:=ha.1
        match vs,h1 with
        | [x],_ =>
          refine ⟨x,?_,trep_of_vrep (vrep_of_crep (ha.2 0 x u rfl rfl))⟩
          simp [Instr.loadAt,Instr.sureAddr,loadVar_run hag hi hsp hm hl (by simp)]
      · cases hk
  · cases h
end
end Go.Vm

namespace Go.Vm
variable [Amb]
open Go.RowKit (Below)
theorem un_sound {op:UnOp} {x v:V} (h:un op x=some v) {P:Program} {cx:Cx} {vx:Value} (hx:trep cx vx x) (w:World):∃ u,(Op.unary op vx).run P w=.ok u w∧trep cx u v:=by
  unfold un at h
  split at h
  · have h:=Option.some.inj h; subst h
    rw [crep_bool hx]
    exact ⟨_,rfl,trep_bool⟩
  · have h:=Option.some.inj h; subst h
    rw [crep_int hx]
    exact ⟨_,rfl,trep_int⟩
  · cases h
section
variable {P:Program} {B:Lim} {M:Nat→Prop} {w0 w:World} {ob:List Ob} {fp:List (List Nat)} {R:Type}
theorem crep_own_row {id:Nat} {v:Value} {dp:Bool} {e:Ty} {l:List e.den} (h:crep (cxOf B M w ob fp) v (.own id)) (ho:ob[id]?=some (.row dp e l)):∃ bs,fp[id]?=some bs∧hdr w e l bs v:=by
  obtain ⟨o',bs,ho',hf,h⟩:=h
  simp only [cxOf] at ho' hf
  rw [ho] at ho'
  simp at ho'
  subst ho'
  exact ⟨bs,hf,h⟩
theorem crep_own_pre {id:Nat} {v:Value} {e:Ty} {l:List e.den} {m:Nat} (h:crep (cxOf B M w ob fp) v (.own id)) (ho:ob[id]?=some (.pre e l m)):∃ bs,fp[id]?=some bs∧hdr w e l bs v:=by
  obtain ⟨o',bs,ho',hf,h⟩:=h
  simp only [cxOf] at ho' hf
  rw [ho] at ho'
  simp at ho'
  subst ho'
  exact ⟨bs,hf,h⟩
theorem crep_own_frz {id:Nat} {v:Value} {e:Ty} {l:List e.den} (h:crep (cxOf B M w ob fp) v (.own id)) (ho:ob[id]?=some (.frz e l)):rep w (imm B M w ob fp) (.slice e) l [v] := by
  obtain ⟨o',bs,ho',hf,h⟩:=h
  simp only [cxOf] at ho' hf
  rw [ho] at ho'
  simp at ho'
  subst ho'
  exact h
theorem plain_crep {u:V} {v:Value} (H:Hrel B M w0 w ob fp) (hv:trep (cxOf B M w ob fp) v u) (hp:match plain ob u with | .d _ _ | .nil | .nilp=>True | _=>False):prep w (fun _=>True) v (plain ob u):=by
  have hc:crep (cxOf B M w ob fp) v u:=by
    cases u with
    | agg us=>exact hp.elim
    | tup us=>exact hp.elim
    | g s t w u=>exact hp.elim
    | any=>exact hp.elim
    | _=>exact hv
  exact plain_rel (J:=fun _=>True) H (fun _ _ _=>trivial) hc (cov1_all _ _)
theorem lenT_sound {u x:V} {t:TypeId} (h:lenT (P.underlying t) (plain ob u)=some x) (H:Hrel B M w0 w ob fp) {v:Value} (hv:trep (cxOf B M w ob fp) v u) (ty:TypeId) :
    ∃ v',(Builtin.len_ #[t] ty #[v]).run P w=.ok v' w∧trep (cxOf B M w ob fp) v' x:=by
  unfold lenT at h
  split at h
  · rename_i s hu he
    have h:=Option.some.inj h; subst h
    have hp:=plain_crep H hv (by rw [he]; trivial)
    rw [he] at hp
    have:v=.string s:=by simpa [prep,rep] using hp
    subst this
    refine ⟨.int .i64 s.size,?_,trep_int⟩
    simp [Builtin.len_,run_underlying hu,goInt]
  · rename_i e0 e l hu he
    have h:=Option.some.inj h; subst h
    have hp:=plain_crep H hv (by rw [he]; trivial)
    rw [he] at hp
    obtain ⟨A,c,hv',_⟩:=hp
    simp at hv'
    subst hv'
    refine ⟨.int .i64 (List.length l),?_,trep_int⟩
    simp [Builtin.len_,run_underlying hu,goInt]
  · rename_i e0 hu he
    have h:=Option.some.inj h; subst h
    have hp:=plain_crep H hv (by rw [he]; trivial)
    rw [he] at hp
    have:v=.slice none 0 0:=hp
    subst this
    refine ⟨.int .i64 0,?_,trep_int⟩
    simp [Builtin.len_,run_underlying hu,goInt]
  · rename_i e0 n hu he
    have h:=Option.some.inj h; subst h
    have hu2:u=.sl n:=by
      cases u with
      | own id =>
        simp only [plain] at he
        split at he<;>cases he
      | sub id i j =>
        simp only [plain] at he
        have nod:∀ {t0:Ty} {x0:t0.den} {j0:Nat},getAt (dcells t0 x0) j0=some (.sl n)→False:=by
          intro t0 x0 j0 hg
          rw [getAt_eq] at hg
          obtain ⟨t',x',hd⟩:=dcells_d hg
          cases hd
        split at he
        · split at he
          · rename_i hg; subst he; exact (nod hg).elim
          · cases he
        · split at he
          · rename_i hg; subst he; exact (nod hg).elim
          · cases he
        · cases he
      | part id i j =>
        simp only [plain] at he
        split at he<;>cases he
      | emp b e=>cases he
      | z e=>cases he
      | _=>exact he
    subst hu2
    obtain ⟨A,c,rfl⟩:=hv
    refine ⟨.int .i64 n,?_,trep_int⟩
    simp [Builtin.len_,run_underlying hu,goInt]
  · cases h
theorem ro_index {J:Nat→Prop} {v:Value} {ty:Ty} {l:List ty.den} {iv:Int} {ti:TypeInfo} {t e:TypeId} {ik:IntKind} (hv:rep w J (.slice ty) l [v]) (ht:P.underlying t=some (.slice e)) (hi:P.info? e=some ti) (hsz:ty.sz=ti.size)
    (h0:0≤iv) (h1:iv < (l.length:Int)):∃ ad vs,(Instr.indexAt t v (.int ik iv)).run P w=.ok (.pointer (some ad)) w∧ad.spot=none∧J ad.block∧Mem w ad.block ad.off vs∧rep w J ty (l.getD iv.toNat ty.zero) vs:=by
  obtain ⟨A,c,hv,hle,hel⟩:=hv
  simp at hv
  subst hv
  obtain ⟨ad,vs,rfl,hs,hI,hm,hr⟩:=hel iv.toNat (by omega)
  refine ⟨ad.add (iv.toNat * ti.size),vs,?_,add_spot hs _,by rw [add_block]; exact hI,by rw [add_block,add_off,← hsz]; exact hm,?_⟩
  · simp [Instr.indexAt,asIntOf,run_underlying ht,sizeOf_run hi,h0,h1]
  · rw [getD_of_lt (by omega)]
    exact hr
theorem idxI_sound {W:Option Bool} {st:St} {x:V} {iv:Int} {k:V→Option R} {r:R} {t:TypeId} {e:TypeId} {ti:TypeInfo} (h:idxI W st x iv k=some r) (ht:P.underlying t=some (.slice e)) (hi:P.info? e=some ti)
    (hsz:∀ ty:Ty,(∃ l:List ty.den,rowish st.ob x=.d (.slice ty) l)→ty.sz=ti.size) :
    ∃ u,k u=some r∧((∀ y,W=some y→y=true)→∀ {B:Lim} {M:Nat→Prop} {w0 w:World} {fp:List (List Nat)},Hrel B M w0 w st.ob fp→∀ v ik,trep (cxOf B M w st.ob fp) v x →
      ∃ v',(Instr.indexAt t v (.int ik iv)).run P w=.ok v' w∧trep (cxOf B M w st.ob fp) v' u):=by
  unfold idxI at h
  split at h
  · rename_i ty l
    obtain ⟨h1,h2⟩:=chk_some h
    refine ⟨_,h1,fun hW B M w0 w fp H v ik hv=>?_⟩
    have hb:=of_decide_eq_true (h2 hW)
    obtain ⟨ad,vs,hrun,hs,hI,hm,hr⟩:=ro_index (P:=P) (t:=t) (ik:=ik) (show rep w (imm B M w st.ob fp) (.slice ty) l [v] from hv) ht hi (hsz ty ⟨l,rfl⟩) hb.1 hb.2
    exact ⟨_,hrun,ad,vs,by simp [Addr.add],hs,hI,hm,hr⟩
  · rename_i id
    rw [getAt_eq] at h
    split at h
    · rename_i dp ty l ho
      obtain ⟨h1,h2⟩:=chk_some h
      refine ⟨_,h1,fun hW B M w0 w fp H v ik hv=>?_⟩
      have hb:=of_decide_eq_true (h2 hW)
      have hsz':=hsz ty ⟨l,by simp [rowish,plain,getAt_eq,ho]⟩
      obtain ⟨bs,hf,hh⟩:=crep_own_row hv ho
      cases bs with
      | nil=>obtain ⟨rfl,_⟩:=hh; have:=hb.2; simp at this; omega
      | cons b rr =>
        obtain ⟨c,T,cap,hb',rfl,hle,hcap⟩:=hh
        refine ⟨.pointer (some ((⟨b,0,none⟩:Addr).add (iv.toNat * ti.size))),?_,?_⟩
        · simp [Instr.indexAt,asIntOf,run_underlying ht,sizeOf_run hi,hb.1,hb.2]
        · refine ⟨_,_,ho,hf,by omega,b,rr,rfl,?_⟩
          rw [hsz']
          unfold Addr.add
          split
          · rename_i h0; simp [h0]
          · simp
    · rename_i ty l m ho
      obtain ⟨h1,h2⟩:=chk_some h
      refine ⟨_,h1,fun hW B M w0 w fp H v ik hv=>?_⟩
      have hb:=of_decide_eq_true (h2 hW)
      have hsz':=hsz ty ⟨l,by simp [rowish,plain,getAt_eq,ho]⟩
      obtain ⟨bs,hf,hh⟩:=crep_own_pre hv ho
      cases bs with
      | nil=>obtain ⟨rfl,_⟩:=hh; have:=hb.2; simp at this; omega
      | cons b rr =>
        obtain ⟨c,T,cap,hb',rfl,hle,hcap⟩:=hh
        refine ⟨.pointer (some ((⟨b,0,none⟩:Addr).add (iv.toNat * ti.size))),?_,?_⟩
        · simp [Instr.indexAt,asIntOf,run_underlying ht,sizeOf_run hi,hb.1,hb.2]
        · refine ⟨_,_,ho,hf,by omega,b,rr,rfl,?_⟩
          rw [hsz']
          unfold Addr.add
          split
          · rename_i h0; simp [h0]
          · simp
    · rename_i ty l ho
      obtain ⟨h1,h2⟩:=chk_some h
      refine ⟨_,h1,fun hW B M w0 w fp H v ik hv=>?_⟩
      have hb:=of_decide_eq_true (h2 hW)
      obtain ⟨ad,vs,hrun,hs,hI,hm,hr⟩:=ro_index (P:=P) (t:=t) (ik:=ik) (crep_own_frz hv ho) ht hi (hsz ty ⟨l,by simp [rowish,plain,getAt_eq,ho]⟩) hb.1 hb.2
      exact ⟨_,hrun,ad,vs,by simp [Addr.add],hs,hI,hm,hr⟩
    · cases h
  · cases h
theorem byteAt_run {s:ByteArray} {i:Int} (h0:0≤i) (h1:i < (s.size:Int)):(if 0≤i then s[i.toNat]? else none)=some (s.data.toList.getD i.toNat 0):=by
  rw [if_pos h0]
  have hl:i.toNat < s.size:=by omega
  have:s[i.toNat]?=some s[i.toNat] := by rw [getElem?_pos]
  rw [this]
  congr 1
  rw [List.getD_eq_getElem?_getD,List.getElem?_eq_getElem (by simpa using hl)]
  rfl
theorem strIdxI_sound {W:Option Bool} {s:ByteArray} {iv:Int} {k:V→Option R} {r:R} {t:TypeId} (h:strIdxI W s iv k=some r) (ht:P.underlying t=some .string) :
    ∃ u,k u=some r∧((∀ y,W=some y→y=true)→∀ (cx:Cx) (w:World) (ik:IntKind),∃ v',(Instr.index t (.string s) (.int ik iv)).run P w=.ok v' w∧trep cx v' u):=by
  obtain ⟨h1,h2⟩:=chk_some h
  refine ⟨_,h1,fun hW cx w ik=>?_⟩
  have hb:=of_decide_eq_true (h2 hW)
  refine ⟨.int .u8 (byteAt s iv),?_,trep_int⟩
  simp only [Instr.index,asIntOf,Sem.run_bind,Sem.run_pure,Result.andThen_ok,run_underlying ht,byteAt_run hb.1 hb.2]
  rfl
end
end Go.Vm

namespace Go.Vm
variable [Amb]
open Go.RowKit (Below)
section
variable {B:Lim} {M:Nat→Prop} {w0 w w':World} {ob:List Ob} {fp:List (List Nat)}
structure Ext (w w':World):Prop where
  size:w.heap.size≤w'.heap.size
  block:∀ b,b < w.heap.size→w'.heap[b]?=w.heap[b]?
theorem Ext.of_below (h:Below w.heap.size w w'):Ext w w':=⟨h.size,h.block⟩
theorem Ext.refl (w:World):Ext w w:=⟨Nat.le_refl _,fun _ _=>rfl⟩
theorem lt_of_block {w:World} {b:Nat} {o:Obj} (h:w.heap[b]?=some o):b < w.heap.size:=by
  rcases Nat.lt_or_ge b w.heap.size with h' | h'
  · exact h'
  · rw [Array.getElem?_eq_none h'] at h; cases h
theorem Ext.at (h:Ext w w') {b:Nat} {o:Obj} (hb:w.heap[b]?=some o):w'.heap[b]?=some o:=(h.block b (lt_of_block hb)).trans hb
theorem Ext.imm (h:Ext w w') {b:Nat} (hb:Vm.imm B M w ob fp b):Vm.imm B M w' ob fp b:=⟨Nat.lt_of_lt_of_le hb.1 h.size,hb.2⟩
theorem Ext.keep (h:Ext w w'):∀ b,b < w.heap.size→Vm.imm B M w ob fp b→Vm.imm B M w' ob fp b∧w'.heap[b]?=w.heap[b]? := fun b hb hi=>⟨h.imm hi,h.block b hb⟩
theorem cell_at {w:World} {b o:Nat} {v:Value} (h:w.cell? ⟨b,o,none⟩=some v):∃ c T fz,w.heap[b]?=some (.cells c T fz)∧c[o]?=some v:=by
  simp only [World.cell?] at h
  split at h
  · rename_i c T fz hb
    simp at h
    exact ⟨c,T,fz,hb,h⟩
  · cases h
theorem Ext.cell (h:Ext w w') {b o:Nat} {v:Value} (hc:w.cell? ⟨b,o,none⟩=some v):w'.cell? ⟨b,o,none⟩=some v:=by
  obtain ⟨c,T,fz,hb,hv⟩:=cell_at hc
  simp only [World.cell?,h.at hb]
  simpa using hv
theorem Ext.hdr (h:Ext w w') {e:Ty} {l:List e.den} {bs:List Nat} {v:Value} (hh:Vm.hdr w e l bs v):Vm.hdr w' e l bs v:=by
  cases bs with
  | nil=>exact hh
  | cons b r=>obtain ⟨c,T,cap,hb,r⟩:=hh; exact ⟨c,T,cap,h.at hb,r⟩
theorem Ext.crep (h:Ext w w') {v:Value} {u:V} (hu:Vm.crep (cxOf B M w ob fp) v u):Vm.crep (cxOf B M w' ob fp) v u:=by
  cases u with
  | d t x=>exact rep_keep h.keep hu
  | own id =>
    obtain ⟨o,bs,ho,hf,hu⟩:=hu
    refine ⟨o,bs,ho,hf,?_⟩
    cases o with
    | row dp e l=>exact h.hdr hu
    | pre e l n=>exact h.hdr hu
    | frz e l=>exact rep_keep h.keep hu
    | _=>exact hu
  | sub id i j =>
    obtain ⟨o,bs,ho,hf,hu⟩:=hu
    refine ⟨o,bs,ho,hf,?_⟩
    cases o with
    | row dp e l =>
      obtain ⟨hi,hj,h1,b,r,rfl,hc⟩:=hu
      exact ⟨hi,hj,h1,b,r,rfl,h.cell hc⟩
    | frz e l =>
      refine ⟨hu.1,fun u' hu'=>?_⟩
      obtain ⟨t,x,rfl,hr⟩:=hu.2 u' hu'
      exact ⟨t,x,rfl,rep_keep h.keep hr⟩
    | pre e l n =>
      obtain ⟨hi,hj,h1,b,r,rfl,hc⟩:=hu
      exact ⟨hi,hj,h1,b,r,rfl,h.cell hc⟩
    | _=>exact hu
  | pt id i off=>exact hu
  | rp t x off =>
    obtain ⟨ad,vs,rfl,hs,hI,hm,hr⟩:=hu
    exact ⟨ad,vs,rfl,hs,h.imm hI,hm.keep (h.block _ hm.lt),rep_keep h.keep hr⟩
  | clo f t x=>obtain ⟨b,rfl,hr,h2⟩:=hu; exact ⟨b,rfl,rep_keep h.keep hr,h2⟩
  | cap f t x=>obtain ⟨b,rfl,hr⟩:=hu; exact ⟨b,rfl,rep_keep h.keep hr⟩
  | ifc ks t g x =>
    refine ⟨hu.1,fun hg=>?_⟩
    obtain ⟨k,p,h1,h2,h3,h4⟩:=hu.2 hg
    exact ⟨k,p,h1,h2,rep_keep h.keep h3,h4⟩
  | mp id=>exact hu
  | _=>exact hu
theorem All2.imp {α β:Type} {R S:α→β→Prop} {l:List α} {m:List β} (h:All2 R l m) (hf:∀ x y,R x y→S x y):All2 S l m:=⟨h.1,fun i x y hx hy=>hf x y (h.2 i x y hx hy)⟩
theorem vrep_map {cx cx':Cx} (h:∀ v u,crep cx v u→crep cx' v u) {v:Value}:∀ {u:V},vrep cx v u→vrep cx' v u
  | .agg _,hu=>by obtain ⟨vs,rfl,ha⟩:=hu; exact ⟨vs,rfl,ha.imp h⟩
  | .any,_=>trivial
  | .d t x,hu=>h v (.d t x) hu
  | .nil,hu=>h v .nil hu
  | .nilp,hu=>h v .nilp hu
  | .own id,hu=>h v (.own id) hu
  | .sub id i j,hu=>h v (.sub id i j) hu
  | .pt id i o,hu=>h v (.pt id i o) hu
  | .rp t x o,hu=>h v (.rp t x o) hu
  | .fn f,hu=>h v (.fn f) hu
  | .part p1 p2 p3,hu=>h v (.part p1 p2 p3) hu
  | .clo p1 p2 p3,hu=>h v (.clo p1 p2 p3) hu
  | .cap p1 p2 p3,hu=>h v (.cap p1 p2 p3) hu
  | .capm p1 p2,hu=>h v (.capm p1 p2) hu
  | .emp p1 p2,hu=>h v (.emp p1 p2) hu
  | .mp p1,hu=>h v (.mp p1) hu
  | .ifc p1 p2 p3 p4,hu=>h v (.ifc p1 p2 p3 p4) hu
  | .sl p1,hu=>h v (.sl p1) hu
  | .z p1,hu=>h v (.z p1) hu
  | .tup _,hu=>False.elim hu
  | .g _ _ _ _,hu=>False.elim hu
theorem trep_map {cx cx':Cx} (h:∀ v u,crep cx v u→crep cx' v u) {v:Value} {u:V} (hu:trep cx v u):trep cx' v u:=by
  cases u with
  | tup us=>obtain ⟨vs,rfl,ha⟩:=hu; exact ⟨vs,rfl,ha.imp (fun _ _=>vrep_map h)⟩
  | agg us=>exact vrep_map (u:=.agg us) h hu
  | any=>trivial
  | d t x=>exact vrep_map (u:=.d t x) h hu
  | nil=>exact vrep_map (u:=.nil) h hu
  | nilp=>exact vrep_map (u:=.nilp) h hu
  | own id=>exact vrep_map (u:=.own id) h hu
  | sub id i j=>exact vrep_map (u:=.sub id i j) h hu
  | pt id i o=>exact vrep_map (u:=.pt id i o) h hu
  | rp t x o=>exact vrep_map (u:=.rp t x o) h hu
  | fn f=>exact vrep_map (u:=.fn f) h hu
  | part p1 p2 p3=>exact vrep_map (u:=.part p1 p2 p3) h hu
  | clo p1 p2 p3=>exact vrep_map (u:=.clo p1 p2 p3) h hu
  | cap p1 p2 p3=>exact vrep_map (u:=.cap p1 p2 p3) h hu
  | capm p1 p2=>exact vrep_map (u:=.capm p1 p2) h hu
  | emp p1 p2=>exact vrep_map (u:=.emp p1 p2) h hu
  | mp p1=>exact vrep_map (u:=.mp p1) h hu
  | ifc p1 p2 p3 p4=>exact vrep_map (u:=.ifc p1 p2 p3 p4) h hu
  | sl p1=>exact vrep_map (u:=.sl p1) h hu
  | z p1=>exact vrep_map (u:=.z p1) h hu
  | g s t w u=>exact False.elim hu
theorem grep_map {cx cx':Cx} (h:∀ v u,crep cx v u→crep cx' v u) {cur:Option Nat} {a:Act} {v:Value} {u:V} (hu:grep cx cur a v u):grep cx' cur a v u:=by
  cases u with
  | g s t b u=>exact fun h1 h2=>trep_map h (hu h1 h2)
  | tup us=>exact trep_map (u:=.tup us) h hu
  | agg us=>exact trep_map (u:=.agg us) h hu
  | any=>trivial
  | d t x=>exact trep_map (u:=.d t x) h hu
  | nil=>exact trep_map (u:=.nil) h hu
  | nilp=>exact trep_map (u:=.nilp) h hu
  | own id=>exact trep_map (u:=.own id) h hu
  | sub id i j=>exact trep_map (u:=.sub id i j) h hu
  | pt id i o=>exact trep_map (u:=.pt id i o) h hu
  | rp t x o=>exact trep_map (u:=.rp t x o) h hu
  | fn f=>exact trep_map (u:=.fn f) h hu
  | part p1 p2 p3=>exact trep_map (u:=.part p1 p2 p3) h hu
  | clo p1 p2 p3=>exact trep_map (u:=.clo p1 p2 p3) h hu
  | cap p1 p2 p3=>exact trep_map (u:=.cap p1 p2 p3) h hu
  | capm p1 p2=>exact trep_map (u:=.capm p1 p2) h hu
  | emp p1 p2=>exact trep_map (u:=.emp p1 p2) h hu
  | mp p1=>exact trep_map (u:=.mp p1) h hu
  | ifc p1 p2 p3 p4=>exact trep_map (u:=.ifc p1 p2 p3 p4) h hu
  | sl p1=>exact trep_map (u:=.sl p1) h hu
  | z p1=>exact trep_map (u:=.z p1) h hu
theorem Hrel.ext (H:Hrel B M w0 w ob fp) (h:Below w.heap.size w w'):Hrel B M w0 w' ob fp:=by
  have he:=Ext.of_below h
  refine ⟨H.len,H.nd,fun b hb=>⟨(H.ge b hb).1,Nat.lt_of_lt_of_le (H.ge b hb).2 h.size⟩,fun id o bs ho hf=>?_,H.below.trans (Bel.of h H.size),(fun b hb=>Nat.lt_of_lt_of_le (H.size b hb) h.size),H.amb⟩
  have:=H.ob id o bs ho hf
  cases o with
  | row dp e l =>
    rcases this with hx | ⟨b,c,T,hb,hsz,hx⟩
    · exact .inl hx
    · refine .inr ⟨b,c,T,he.at hb,hsz,?_⟩
      cases dp with
      | true =>
        simp only [if_true] at hx ⊢
        obtain ⟨bss,rfl,hlen,hel⟩:=hx
        refine ⟨bss,rfl,hlen,fun i hi=>own_keep (hel i hi) (fun q hq=>he.block q ?_)⟩
        exact (H.ge q (List.mem_flatten.2 ⟨_,List.mem_of_getElem? hf,List.mem_cons_of_mem _ (bss_mem (by omega) hq)⟩)).2
      | false =>
        simp only [Bool.false_eq_true,if_false] at hx ⊢
        exact ⟨hx.1,fun i hi=>rep_keep he.keep (hx.2 i hi)⟩
  | pre e l n =>
    rcases this with hx | ⟨b,c,T,hb,hsz,bss,rfl,hlen,hnl,ho,hr⟩
    · exact .inl hx
    · refine .inr ⟨b,c,T,he.at hb,hsz,bss,rfl,hlen,hnl,fun i hi hin=>own_keep (ho i hi hin) (fun q hq=>he.block q ?_),fun i hi hin=>rep_keep he.keep (hr i hi hin)⟩
      exact (H.ge q (List.mem_flatten.2 ⟨_,List.mem_of_getElem? hf,List.mem_cons_of_mem _ (bss_mem (by omega) hq)⟩)).2
  | frz e l =>
    rcases this with hx | ⟨b,c,T,fz,rest,hbs,hb,hsz,hI,hx⟩
    · exact .inl hx
    · exact .inr ⟨b,c,T,fz,rest,hbs,he.at hb,hsz,he.imm hI,fun i hi=>rep_keep he.keep (hx i hi)⟩
  | box us =>
    obtain ⟨b,c,T,hbs,hb,ha⟩:=this
    exact ⟨b,c,T,hbs,he.at hb,ha.imp (fun _ _=>he.crep)⟩
  | fbox us =>
    obtain ⟨b,c,T,fz,hbs,hb,hI,ha⟩:=this
    exact ⟨b,c,T,fz,hbs,he.at hb,he.imm hI,ha.imp (fun _ _=>he.crep)⟩
  | mp k l=>obtain ⟨b,es,hbs,hb,hm⟩:=this; exact ⟨b,es,hbs,(he.block b (H.ge b (List.mem_flatten.2 ⟨_,List.mem_of_getElem? hf,by rw [hbs]; simp⟩)).2).trans hb,hm⟩
  | dead=>exact this
theorem imm_new (H:Hrel B M w0 w ob fp) (h:Below w.heap.size w w') {b:Nat} (hb:w.heap.size≤b) (hb':b < w'.heap.size):imm B M w' ob fp b:=by
  refine ⟨hb',fun hlt=>?_,fun id o bs ho hf _ hm=>?_⟩
  · have:=H.size _ hlt; omega
  · have:=(H.ge b (List.mem_flatten.2 ⟨bs,List.mem_of_getElem? hf,hm⟩)).2
    omega
end
end Go.Vm

namespace Go.Vm
variable [Amb]
open Go.RowKit (Below)
def OpSem (P:Program) (o:Oper) (st:St) (s:Nat) (W:Option Bool) (ann:List (Nat×Bool)) (v:V):Prop :=
  (∀ y,W=some y→y=true)→∀ {B:Lim} {M:Nat→Prop} {w0 w:World} {fp:List (List Nat)} (a:Act),Hrel B M w0 w st.ob fp→AnnOk a ann →
    (∀ t,Operand.tmp t∈o.op.operands→grep (cxOf B M w st.ob fp) (some s) a (a.tmps.getD t undef) (look t st.tm)) →
    ∀ (K:Act→World→Prop) (Q:Exit→Act→World→Prop),(∀ v' w',Below w.heap.size w w'→trep (cxOf B M w' st.ob fp) v' v→K (a.put o.dst v') w')→o.wp P a w K Q
section
variable {P:Program} {st:St} {s:Nat} {W:Option Bool} {ann:List (Nat×Bool)} {R:Type}
theorem OpSem.of_run {o:Oper} {v:V} (h:(∀ y,W=some y→y=true)→∀ {B:Lim} {M:Nat→Prop} {w0 w:World} {fp:List (List Nat)} (a:Act),Hrel B M w0 w st.ob fp→AnnOk a ann →
    (∀ x,x∈o.op.operands→trep (cxOf B M w st.ob fp) (a.eval x) (ev st s ann x)) →
    ∃ v',(execOp a.eval o).run P w=.ok (.value v') w∧trep (cxOf B M w st.ob fp) v' v):OpSem P o st s W ann v:=by
  intro hW B M w0 w fp a H hann hop K Q hK
  obtain ⟨v',hr,hv⟩:=h hW a H hann (fun x hx=>ev_rel (fun t ht=>hop t (ht ▸ hx)) hann)
  exact wp_value hr (hK v' w (Below.refl _ _) hv)
theorem move_sound {o:Oper} {x:Operand} (ho:o.op=.move x∨o.op=.assign x):OpSem P o st s W ann (ev st s ann x) :=
  OpSem.of_run fun _ _ _ _ _ _ a _ _ hop=>⟨a.eval x,by rcases ho with ho | ho<;>simp [execOp,ho],hop x (by rcases ho with ho | ho<;>simp [ho,Op.operands])⟩
theorem load_op {o:Oper} {t:TypeId} {x:Operand} {k:V→Option R} {r:R} (ho:o.op=.load t x) (h:load P W st.ob t (ev st s ann x) k=some r):∃ v,k v=some r∧OpSem P o st s W ann v:=by
  obtain ⟨u,hk,hs⟩:=load_sound h
  refine ⟨u,hk,OpSem.of_run fun hW B M w0 w fp a H hann hop=>?_⟩
  obtain ⟨v',hr,hv⟩:=hs hW H _ (hop x (by simp [ho,Op.operands]))
  exact ⟨v',by simp [execOp,ho,hr],hv⟩
theorem bin_op {o:Oper} {op:BinOp} {t ty:TypeId} {x y:Operand} {k:V→Option R} {r:R} (ho:o.op=.binOp op t x y ty) (h:bin (P.underlying t) W op (ev st s ann x) (ev st s ann y) k=some r):∃ v,k v=some r∧OpSem P o st s W ann v:=by
  obtain ⟨u,hk,hs⟩:=bin_sound h
  refine ⟨u,hk,OpSem.of_run fun hW B M w0 w fp a H hann hop=>?_⟩
  obtain ⟨v',hr,hv⟩:=hs hW _ _ _ x y w (hop x (by simp [ho,Op.operands])) (hop y (by simp [ho,Op.operands]))
  refine ⟨v',?_,hv⟩
  have he:execOp a.eval o=(do let v ← (do eqGuard op t x y (a.eval x) (a.eval y); binOp op t (a.eval x) (a.eval y):Sem Value); pure (.value v)):=by simp only [execOp,ho]
  rw [he,Sem.run_bind,hr]
  rfl
theorem part_run {t:TypeId} {vs:Array Value} {off:Nat} {v:Value} {w:World} (hag:aggT P t=some false) (hv:vs[off]?=some v):(part t vs off).run P w=.ok v w:=by
  simp [part,isAgg_run hag,hv]
theorem eqF1_run {f:Field} {us:List V} {xs:Array Value} {us2:List V} {ys:Array Value} {b:Bool} (h:eqF1 P f us us2=some b) {cx:Cx} (ha:All2 (crep cx) xs.toList us) (ha2:All2 (crep cx) ys.toList us2) (w:World) (d:Nat) :
    f.name ≠ "_" ∧ ∃ u v,(part f.type xs f.offset).run P w = .ok u w ∧ (part f.type ys f.offset).run P w = .ok v w ∧ (Op.equalIn (d + 1) f.type u v).run P w = .ok b w:=by
  unfold eqF1 at h
  split at h
  · cases h
  rename_i hn
  refine ⟨fun he=>hn (by rw [he]; rfl),?_⟩
  have cell:∀ {l:List V} {zs:Array Value} {t:Ty} {z:t.den},All2 (crep cx) zs.toList l→getAt l f.offset=some (.d t z)→∃ v,zs[f.offset]?=some v∧crep cx v (.d t z):=by
    intro l zs t z hz hg
    rw [getAt_eq] at hg
    have hlt:f.offset < zs.toList.length:=by
      rw [hz.1]
      rcases Nat.lt_or_ge f.offset l.length with h' | h'
      · exact h'
      · rw [List.getElem?_eq_none h'] at hg; cases hg
    have h1:zs.toList[f.offset]?=some zs.toList[f.offset] := List.getElem?_eq_getElem hlt
    exact ⟨_,by simpa using h1,hz.2 _ _ _ h1 hg⟩
  split at h
  · rename_i k0 k a k' b' hu h1 h2
    split at h
    case isFalse=>cases h
    rename_i hk
    subst hk
    have h:=Option.some.inj h
    subst h
    obtain ⟨u,hu1,hu2⟩:=cell ha h1
    obtain ⟨v,hv1,hv2⟩:=cell ha2 h2
    have e1:u=.int k a:=crep_int (trep_of_vrep (vrep_of_crep hu2))
    have e2:v=.int k b':=crep_int (trep_of_vrep (vrep_of_crep hv2))
    subst e1; subst e2
    have hag:aggT P f.type=some false:=by simp [aggT,hu]
    exact ⟨_,_,part_run hag hu1,part_run hag hv1,run_equalIn_int w d f.type k k0 a b' hu⟩
  · rename_i a b' hu h1 h2
    have h:=Option.some.inj h
    subst h
    obtain ⟨u,hu1,hu2⟩:=cell ha h1
    obtain ⟨v,hv1,hv2⟩:=cell ha2 h2
    have e1:u=.bool a:=crep_bool (trep_of_vrep (vrep_of_crep hu2))
    have e2:v=.bool b':=crep_bool (trep_of_vrep (vrep_of_crep hv2))
    subst e1; subst e2
    have hag:aggT P f.type=some false:=by simp [aggT,hu]
    exact ⟨_,_,part_run hag hu1,part_run hag hv1,run_equalIn_bool' w d f.type a b' hu⟩
  · rename_i a b' hu h1 h2
    have h:=Option.some.inj h
    subst h
    obtain ⟨u,hu1,hu2⟩:=cell ha h1
    obtain ⟨v,hv1,hv2⟩:=cell ha2 h2
    have e1:u=.string a:=crep_str (trep_of_vrep (vrep_of_crep hu2))
    have e2:v=.string b':=crep_str (trep_of_vrep (vrep_of_crep hv2))
    subst e1; subst e2
    have hag:aggT P f.type=some false:=by simp [aggT,hu]
    exact ⟨_,_,part_run hag hu1,part_run hag hv1,run_equalIn_string w d f.type a b' hu⟩
  · cases h
theorem eqFs_run {us us2:List V} {xs ys:Array Value} {cx:Cx} (ha:All2 (crep cx) xs.toList us) (ha2:All2 (crep cx) ys.toList us2) (w:World) (d:Nat):∀ {fs:List Field} {b:Bool},eqFs P us us2 fs=some b→(Op.eqFields (d + 1) xs ys fs).run P w=.ok b w
  | [],b,h=>by
    have h:=Option.some.inj h
    subst h
    simp [Op.eqFields]
  | f :: fs,b,h=>by
    simp only [eqFs] at h
    split at h
    · rename_i b1 b2 h1 h2
      have h:=Option.some.inj h
      subst h
      obtain ⟨hn,u,v,r1,r2,r3⟩:=eqF1_run h1 ha ha2 w d
      have ih:=eqFs_run ha ha2 w d h2
      simp only [Op.eqFields,if_pos hn,Sem.run_bind,r1,Result.andThen_ok,r2,r3]
      cases b1 with
      | true=>simpa using ih
      | false=>simp
    · cases h
theorem eqS_op {o:Oper} {op:BinOp} {t ty:TypeId} {x y:Operand} {v:V} (ho:o.op=.binOp op t x y ty) (h:eqS P t op (ev st s ann x) (ev st s ann y)=some v):OpSem P o st s W ann v:=by
  unfold eqS at h
  split at h
  case h_2=>cases h
  rename_i us us2 hx hy
  split at h
  case h_2=>cases h
  rename_i fs hu
  split at h
  · cases h
  rename_i hst
  simp only [Bool.or_eq_true,not_or,Bool.not_eq_true] at hst
  refine OpSem.of_run fun hW B M w0 w fp a H hann hop=>?_
  have h1:=hop x (by simp [ho,Op.operands])
  have h2:=hop y (by simp [ho,Op.operands])
  rw [hx] at h1
  rw [hy] at h2
  obtain ⟨xs,he1,ha⟩:=h1
  obtain ⟨ys,he2,ha2⟩:=h2
  have hf:P.fieldsOf t=fs:=by simp [Program.fieldsOf,hu]
  have he:execOp a.eval o=(do let v ← (do eqGuard op t x y (a.eval x) (a.eval y); binOp op t (a.eval x) (a.eval y):Sem Value); pure (.value v)):=by simp only [execOp,ho]
  rw [he,he1,he2]
  have hrun:∀ b,eqFs P us us2 fs.toList=some b→(Op.equalIn 10000 t (.agg xs) (.agg ys)).run P w=.ok b w:=by
    intro b hb
    have:=run_equalIn_struct (P:=P) w 9999 t xs ys (by rw [hf]; exact hu) hst.1
    rw [this,hf]
    exact eqFs_run ha ha2 w 9998 hb
  split at h
  · rename_i b hb
    have h:=Option.some.inj h
    subst h
    refine ⟨.bool b,?_,trep_bool⟩
    simp only [Sem.run_bind,run_eqGuard_agg w .eql t x y xs ys hst.2,Result.andThen_ok,run_eql_struct,hrun b hb]
    rfl
  · rename_i b hb
    have h:=Option.some.inj h
    subst h
    refine ⟨.bool (!b),?_,trep_bool⟩
    simp only [Sem.run_bind,run_eqGuard_agg w .neq t x y xs ys hst.2,Result.andThen_ok,run_neq_struct,hrun b hb]
    rfl
  · cases h
theorem un_op {o:Oper} {op:UnOp} {t:TypeId} {x:Operand} {v:V} (ho:o.op=.unOp op t x) (h:un op (ev st s ann x)=some v):OpSem P o st s W ann v:=by
  refine OpSem.of_run fun hW B M w0 w fp a H hann hop=>?_
  obtain ⟨v',hr,hv⟩:=un_sound (P:=P) h (hop x (by simp [ho,Op.operands])) w
  exact ⟨v',by simp [execOp,ho,hr],hv⟩
theorem fieldOf_eq {t:TypeId} {f off n:Nat} {ag:Bool} (h:fieldOf P t f=some (off,n,ag)):∃ fs q i,P.underlying t=some (.struct fs)∧fs[f]?=some q∧aggT P q.type=some ag∧P.info? q.type=some i∧i.size=n∧n≠0∧q.offset=off:=by
  unfold fieldOf at h
  split at h
  · rename_i fs hu
    split at h
    · rename_i q hq
      split at h
      · rename_i ag' i hag hi
        split at h
        · cases h
        · rename_i hn
          have h:=Option.some.inj h
          simp at h
          obtain ⟨rfl,rfl,rfl⟩:=h
          exact ⟨fs,q,i,hu,hq,hag,hi,rfl,hn,rfl⟩
      · cases h
    · cases h
  · cases h
theorem fieldA_rel {B:Lim} {M:Nat→Prop} {w:World} {fp:List (List Nat)} {x u:V} {off:Nat} (h:fieldA st.ob x off=some u) {v:Value} (hv:trep (cxOf B M w st.ob fp) v x):∃ ad:Addr,v=.pointer (some ad)∧trep (cxOf B M w st.ob fp) (.pointer (some (ad.add off))) u:=by
  unfold fieldA at h
  split at h
  · rename_i id i o
    rw [getAt_eq] at h
    obtain ⟨ob,bs,ho,hf,hv⟩:crep (cxOf B M w st.ob fp) v (.pt id i o):=hv
    simp only [cxOf] at ho
    rw [ho] at h
    have key:∀ (b n:Nat),((⟨b,n,none⟩:Addr).add off)=⟨b,n + off,none⟩:=by
      intro b n; unfold Addr.add; split
      · rename_i h0; simp [h0]
      · rfl
    cases ob with
    | box us=>have h:=Option.some.inj h; subst h; obtain ⟨rfl,b,rfl,rfl⟩:=hv; exact ⟨_,rfl,_,_,ho,hf,rfl,b,rfl,by rw [key]⟩
    | fbox us=>have h:=Option.some.inj h; subst h; obtain ⟨rfl,b,rfl,rfl⟩:=hv; exact ⟨_,rfl,_,_,ho,hf,rfl,b,rfl,by rw [key]⟩
    | row dp e l=>have h:=Option.some.inj h; subst h; obtain ⟨hi,b,rr,rfl,rfl⟩:=hv; exact ⟨_,rfl,_,_,ho,hf,hi,b,rr,rfl,by rw [key,Nat.add_assoc]⟩
    | frz e l=>have h:=Option.some.inj h; subst h; obtain ⟨hi,b,rr,rfl,rfl⟩:=hv; exact ⟨_,rfl,_,_,ho,hf,hi,b,rr,rfl,by rw [key,Nat.add_assoc]⟩
    | pre e l n=>have h:=Option.some.inj h; subst h; obtain ⟨hi,b,rr,rfl,rfl⟩:=hv; exact ⟨_,rfl,_,_,ho,hf,hi,b,rr,rfl,by rw [key,Nat.add_assoc]⟩
    | mp k l=>exact hv.elim
    | dead=>cases h
  · rename_i t y o
    have h:=Option.some.inj h; subst h
    obtain ⟨ad,vs,rfl,hs,hI,hm,hr⟩:crep (cxOf B M w st.ob fp) v (.rp t y o):=hv
    refine ⟨ad.add o,rfl,ad,vs,?_,hs,hI,hm,hr⟩
    congr 2
    unfold Addr.add
    split<;>split<;>split<;>simp_all<;>omega
  · cases h
theorem fieldAddr_op {o:Oper} {t:TypeId} {x:Operand} {f off n:Nat} {ag:Bool} {v:V} (ho:o.op=.fieldAddr t x f) (hf:fieldOf P t f=some (off,n,ag)) (h:fieldA st.ob (ev st s ann x) off=some v):OpSem P o st s W ann v:=by
  refine OpSem.of_run fun hW B M w0 w fp a H hann hop=>?_
  obtain ⟨fs,q,i,hu,hq,hag,hi,hn,hn0,rfl⟩:=fieldOf_eq hf
  obtain ⟨ad,he,hr⟩:=fieldA_rel h (hop x (by simp [ho,Op.operands]))
  refine ⟨_,?_,hr⟩
  have hsz:¬ i.size=0:=by omega
  simp [execOp,ho,Instr.fieldAt,run_underlying hu,hq,he,Instr.sureAddr,fieldPlace,sizeOf_run hi,hsz]
theorem field_op {o:Oper} {t:TypeId} {x:Operand} {f off n:Nat} {ag:Bool} {us:List V} (ho:o.op=.field t x f) (hf:fieldOf P t f=some (off,n,ag)) (hx:ev st s ann x=.agg us) :
    (ag=true→OpSem P o st s W ann (.agg (cut us off n)))∧(ag=false→∀ u,cut us off n=[u]→OpSem P o st s W ann u):=by
  obtain ⟨fs,q,i,hu,hq,hag,hi,hn,hn0,rfl⟩:=fieldOf_eq hf
  constructor
  · rintro rfl
    refine OpSem.of_run fun hW B M w0 w fp a H hann hop=>?_
    have hv:=hop x (by simp [ho,Op.operands])
    rw [hx] at hv
    obtain ⟨vs,he,ha⟩:=hv
    refine ⟨.agg (vs.extract q.offset (q.offset + i.size)),?_,vs.extract q.offset (q.offset + i.size),rfl,?_⟩
    · simp [execOp,ho,Instr.field,run_underlying hu,hq,he,asAgg,part,isAgg_run hag,sizeOf_run hi]
    · have:(vs.extract q.offset (q.offset + i.size)).toList=cut vs.toList q.offset n:=by
        rw [Array.toList_extract,hn]
        simp [cut,List.extract_eq_take_drop]
      rw [this]
      exact all2_cut ha _ _
  · rintro rfl u hu1
    refine OpSem.of_run fun hW B M w0 w fp a H hann hop=>?_
    have hv:=hop x (by simp [ho,Op.operands])
    rw [hx] at hv
    obtain ⟨vs,he,ha⟩:=hv
    have hc:=all2_cut ha q.offset n
    rw [hu1] at hc
    have hl:(cut vs.toList q.offset n).length=1:=hc.1
    match hcv:cut vs.toList q.offset n,hl with
    | [y],_ =>
      rw [hcv] at hc
      have hy:vs[q.offset]?=some y:=by
        have h0:(cut vs.toList q.offset n)[0]?=some y:=by rw [hcv]; rfl
        rw [cut_get (by omega)] at h0
        simpa using h0
      refine ⟨y,?_,trep_of_vrep (vrep_of_crep (hc.2 0 y u rfl rfl))⟩
      simp [execOp,ho,Instr.field,run_underlying hu,hq,he,asAgg,part,isAgg_run hag,hy]
theorem szOk_spec {v:V} {n:Nat} (h:szOk v n=true):∀ ty:Ty,(∃ l:List ty.den,v=.d (.slice ty) l)→ty.sz=n:=by
  rintro ty ⟨l,rfl⟩
  simpa [szOk] using h
theorem index_op {o:Oper} {t e:TypeId} {ti:TypeInfo} {x y:Operand} {k:V→Option R} {r:R} (ho:o.op=.indexAddr t x y) (ht:P.underlying t=some (.slice e)) (hi:P.info? e=some ti)
    (hsz:szOk (rowish st.ob (ev st s ann x)) ti.size=true) (h:idx W st (ev st s ann x) (ev st s ann y) k=some r):∃ v,k v=some r∧OpSem P o st s W ann v:=by
  unfold idx at h
  split at h
  · rename_i ik iv hy
    obtain ⟨u,hk,hs⟩:=idxI_sound (P:=P) h ht hi (szOk_spec hsz)
    refine ⟨u,hk,OpSem.of_run fun hW B M w0 w fp a H hann hop=>?_⟩
    have hv:=hop y (by simp [ho,Op.operands])
    rw [hy] at hv
    obtain ⟨v',hr,hv'⟩:=hs hW H _ ik (hop x (by simp [ho,Op.operands]))
    refine ⟨v',?_,hv'⟩
    simp [execOp,ho,crep_int hv,hr]
  · cases h
theorem strIdx_op {o:Oper} {t:TypeId} {x y:Operand} {k:V→Option R} {r:R} (ho:o.op=.index t x y) (ht:P.underlying t=some .string) (h:strIdx W (ev st s ann x) (ev st s ann y) k=some r):∃ v,k v=some r∧OpSem P o st s W ann v:=by
  unfold strIdx at h
  split at h
  · rename_i ss ik iv hx hy
    obtain ⟨u,hk,hs⟩:=strIdxI_sound (P:=P) h ht
    refine ⟨u,hk,OpSem.of_run fun hW B M w0 w fp a H hann hop=>?_⟩
    have hv:=hop y (by simp [ho,Op.operands])
    have hvx:=hop x (by simp [ho,Op.operands])
    rw [hy] at hv
    rw [hx] at hvx
    obtain ⟨v',hr,hv'⟩:=hs hW (cxOf B M w st.ob fp) w ik
    refine ⟨v',?_,hv'⟩
    simp [execOp,ho,crep_int hv,crep_str hvx,hr]
  · cases h
theorem conv_bytes {t t' e:TypeId} {w:World} {J:Nat→Prop} {l:List Int} {v:Value} (h1:P.underlying t=some (.slice e)) (h2:P.underlying t'=some .string) (h3:P.underlying e=some (.int .u8)) (hp:rep w J (.slice (.int .u8)) l [v]) :
    (convert t t' v).run P w=.ok (.string (ofBytes l)) w:=by
  obtain ⟨A,c,hv,_,hel⟩:=hp
  have hv:v=.slice A l.length c:=by simpa using hv
  subst hv
  cases l with
  | nil =>
    cases A with
    | none=>exact run_convert_bytes_nil w t e h1 h3 _ _ t' h2
    | some ad =>
      have hl:(loadCells ad 0).run P w=.ok (([]:List Int).map (Value.int .u8)).toArray w:=by simp [loadCells,loadCellsFrom]
      have h:=run_convert_bytes_string (P:=P) w t t' e (some ad) 0 c h1 h3 h2
      rw [run_bytesToString w ad 0 c [] hl] at h
      exact h
  | cons x l =>
    obtain ⟨ad,vs,rfl,hs,_,_,_⟩:=hel 0 (by simp)
    obtain ⟨b,off,sp⟩:=ad
    have hs:sp=none:=hs
    subst hs
    refine run_convert_bytes_arg w t e h1 h3 b off _ c (x :: l) rfl (fun i hi=>?_) t' h2
    obtain ⟨ad,vs,he,_,_,hm,hr⟩:=hel i hi
    cases he
    simp only [rep] at hr
    subst hr
    have:=hm.cell (i:=0) (v:=.int .u8 (x :: l)[i]) rfl
    rw [List.getD_eq_getElem?_getD,List.getElem?_eq_getElem hi,Option.getD_some]
    simpa [Ty.sz] using this
theorem conv_op {o:Oper} {t t':TypeId} {x:Operand} {k:V→Option R} {r:R} (ho:o.op=.convert t t' x) (h:conv P W t t' (plain st.ob (ev st s ann x)) k=some r):∃ v,k v=some r∧OpSem P o st s W ann v:=by
  unfold conv at h
  split at h
  · rename_i k1 k2 k3 n h1 h2 hx
    refine ⟨_,h,OpSem.of_run fun hW B M w0 w fp a H hann hop=>?_⟩
    have hp:=plain_crep H (hop x (by simp [ho,Op.operands])) (by rw [hx]; trivial)
    rw [hx] at hp
    have hv:a.eval x=.int k3 n:=by simpa [prep,rep] using hp
    refine ⟨.int k2 (k2.wrap n),?_,trep_int⟩
    simp [execOp,ho,convert,run_underlying h1,run_underlying h2,hv,Conv.intToInt]
  · rename_i ss h1 h2 hx
    refine ⟨_,h,OpSem.of_run fun hW B M w0 w fp a H hann hop=>?_⟩
    have hp:=plain_crep H (hop x (by simp [ho,Op.operands])) (by rw [hx]; trivial)
    rw [hx] at hp
    have hv:a.eval x=.string ss:=by simpa [prep,rep] using hp
    refine ⟨.string ss,?_,trep_str⟩
    simp [execOp,ho,convert,run_underlying h1,run_underlying h2,hv]
  · rename_i e l h1 h2 hx
    split at h
    · rename_i h3
      refine ⟨_,h,OpSem.of_run fun hW B M w0 w fp a H hann hop=>?_⟩
      have hp:=plain_crep H (hop x (by simp [ho,Op.operands])) (by rw [hx]; trivial)
      rw [hx] at hp
      refine ⟨.string (ofBytes l),?_,trep_str⟩
      have hc:=conv_bytes (P:=P) (l:=l) (J:=fun _=>True) (w:=w) (v:=a.eval x) h1 h2 h3 hp
      simp [execOp,ho,hc]
    · cases h
  · have:=(chk_some h).1
    cases this
theorem extract_op {o:Oper} {x:Operand} {i:Nat} {us:List V} {v:V} (ho:o.op=.extract x i) (hx:ev st s ann x=.tup us) (hi:us[i]?=some v):OpSem P o st s W ann v:=by
  refine OpSem.of_run fun hW B M w0 w fp a H hann hop=>?_
  have hv:=hop x (by simp [ho,Op.operands])
  rw [hx] at hv
  obtain ⟨vs,he,ha⟩:=hv
  have hlt:i < us.length:=by
    rcases Nat.lt_or_ge i us.length with h' | h'
    · exact h'
    · rw [List.getElem?_eq_none h'] at hi; cases hi
  have hl:=ha.1
  have hy:vs.toList[i]?=some vs.toList[i] := List.getElem?_eq_getElem (by omega)
  refine ⟨vs.toList[i],?_,trep_of_vrep (ha.2 i _ v hy hi)⟩
  have hy':vs[i]?=some vs.toList[i] := by simpa using hy
  simp only [execOp,ho,he,Instr.extract,hy']
  rfl
theorem nilCheck_op {o:Oper} {x:Operand} {v:V} (ho:o.op=.nilCheck x) (hx:ev st s ann x=v) (hv:∀ {B:Lim} {M:Nat→Prop} {w:World} {fp:List (List Nat)} (u:Value),(∀ y,W=some y→y=true)→trep (cxOf B M w st.ob fp) u v→∃ ad,u=.pointer (some ad)):OpSem P o st s W ann v:=by
  refine OpSem.of_run fun hW B M w0 w fp a H hann hop=>?_
  have hr:=hop x (by simp [ho,Op.operands])
  rw [hx] at hr
  obtain ⟨ad,he⟩:=hv _ hW hr
  refine ⟨a.eval x,?_,hr⟩
  simp [execOp,ho,he]
end
end Go.Vm

namespace Go.Vm
variable [Amb]
open Go.RowKit (Below)
section
variable {B:Lim} {M:Nat→Prop} {w0 w:World} {ob:List Ob} {fp:List (List Nat)} {J:Nat→Prop}
theorem asTy_rel' (H:Hrel B M w0 w ob fp) (hI:∀ b,b < w.heap.size→imm B M w ob fp b→J b) {v:Value} {u:V} {t:Ty} {x:t.den} (h:trep (cxOf B M w ob fp) v u)
    (hc:cov (cxOf B M w ob fp) J u) (hx:asTy ob t u=some x):TyRep w J t x v:=by
  have hv:vrep (cxOf B M w ob fp) v u:=by
    cases u with
    | tup us =>
      exfalso
      simp only [asTy] at hx
      split at hx
      · cases hx
      · cases t<;>simp [asCell,plain,getd] at hx
    | _=>exact h
  exact asTy_rel H hI hv hc hx
theorem asTup_rel (H:Hrel B M w0 w ob fp) (hI:∀ b,b < w.heap.size→imm B M w ob fp b→J b):∀ {ts:List Ty} {us:List V} {x:Tup ts} {vs:List Value},asTup ob ts us=some x →
    All2 (trep (cxOf B M w ob fp)) vs us→(∀ u∈us,cov (cxOf B M w ob fp) J u)→TupRep w J ts x vs
  | [],[],_,vs,_,ha,_=>by
    have:=ha.1
    simpa [TupRep] using this
  | t :: ts,u :: us,x,vs,hx,ha,hc=>by
    simp only [asTup] at hx
    split at hx
    · rename_i y r h1 h2
      have hx:=Option.some.inj hx
      subst hx
      have hl:=ha.1
      cases vs with
      | nil=>simp at hl
      | cons v vs =>
        refine ⟨v,vs,rfl,asTy_rel' H hI (ha.2 0 v u rfl rfl) (hc u (by simp)) h1,asTup_rel H hI h2 ⟨by simpa using hl,fun i a b hx hy=>ha.2 (i + 1) a b (by simpa using hx) (by simpa using hy)⟩ (fun u' hu'=>hc u' (by simp [hu']))⟩
    · cases hx
  | [],_ :: _,_,_,hx,_,_=>by simp [asTup] at hx
  | _ :: _,[],_,_,hx,_,_=>by simp [asTup] at hx
end
theorem vrep_ofTy {cx:Cx} {t:Ty} {x:t.den} {v:Value} (h:TyRep cx.w cx.I t x v):vrep cx v (ofTy t x):=by
  unfold ofTy
  split
  · rename_i hag
    obtain ⟨vs,rfl⟩:=h.2.1 hag
    exact ⟨vs,rfl,all2_crep_dcells h.1⟩
  · rename_i hag
    have h1:=h.2.2 (by simpa using hag)
    have h2:=h.1
    rw [cells_one h1] at h2
    exact h2
theorem all2_ofTup {cx:Cx}:∀ {ts:List Ty} {x:Tup ts} {vs:List Value},TupRep cx.w cx.I ts x vs→All2 (vrep cx) vs (ofTup ts x)
  | [],_,_,h=>by
    have:_=[] := h
    subst this
    exact ⟨rfl,fun i a b ha=>by simp at ha⟩
  | t :: ts,x,_,h=>by
    obtain ⟨v,r,rfl,h1,h2⟩:=h
    have ih:=all2_ofTup h2
    refine ⟨by simp [ofTup,ih.1],fun i a b ha hb=>?_⟩
    cases i with
    | zero =>
      simp [ofTup] at ha hb
      subst ha; subst hb
      exact vrep_ofTy h1
    | succ i =>
      simp [ofTup] at ha hb
      exact ih.2 i a b ha hb
theorem trep_tupOf {cx:Cx} {vs:List Value} {us:List V} (h:All2 (vrep cx) vs us):trep cx (resVal vs) (tupOf us):=by
  match us,vs,h with
  | [],[],h=>exact ⟨#[],rfl,by simpa using h⟩
  | [u],[v],h=>exact trep_of_vrep (h.2 0 v u rfl rfl)
  | u :: u' :: us,v :: v' :: vs,h=>exact ⟨(v :: v' :: vs).toArray,rfl,by simpa using h⟩
  | [],_ :: _,h=>exact absurd h.1 (by simp)
  | [_],[],h=>exact absurd h.1 (by simp)
  | [_],_ :: _ :: _,h=>exact absurd h.1 (by simp)
  | _ :: _ :: _,[],h=>exact absurd h.1 (by simp)
  | _ :: _ :: _,[_],h=>exact absurd h.1 (by simp)
section
variable {P:Program} {st:St} {s:Nat} {W:Option Bool} {ann:List (Nat×Bool)} {R:Type}
theorem call_run {o:Oper} {c:Call} {f:FuncId} (ho:o.op=.call c) (hf:c.callee=.value (.func f)) (a:Act) (w:World) (hc:∀ args w,(callFunc f args).run P w=.ok (.enter f args) w) :
    (execOp a.eval o).run P w=.ok (.enter f (c.args.map a.eval)) w:=by
  simp only [execOp,ho,resolve,hf,Act.eval,Deferred.ofValue,Sem.run_bind,Sem.run_pure,Result.andThen_ok,invoke]
  rw [hc]
  congr 2
  simp
theorem call_wp {o:Oper} {c:Call} {f:FuncId} {sig:Sig} (hcon:Con P f sig) (hw:sig.w=none) (ho:o.op=.call c) (hf:c.callee=.value (.func f)) {a:Act} {w:World} {M':Nat→Prop} {x:Tup sig.ps} {y:Tup sig.rs} (hx:sig.F x=some y)
    (ha:TupRep w M' sig.ps x (c.args.toList.map a.eval)) (hA:Amb.A w) {K:Act→World→Prop} {Q:Exit→Act→World→Prop}
    (hK:∀ vs w',Below w.heap.size w w'→(if sig.fresh=true then ∃ bs,TupOwn w' sig.rs y vs bs∧bs.Nodup∧∀ b∈bs,w.heap.size≤b∧b < w'.heap.size
      else TupRep w' (fun b=>M' b∨w.heap.size≤b) sig.rs y vs)→K (a.put o.dst (resVal vs)) w'):o.wp P a w K Q:=by
  unfold Oper.wp
  rw [call_run ho hf a w hcon.enters]
  have:=hcon.run hw M' x y w (c.args.map a.eval) hx (by simpa using ha) hA
  refine this.mono ?_
  rintro e w' ⟨vs,rfl,hb,hr⟩
  exact hK vs w' hb hr
theorem isOwn_cov {cx:Cx} {J:Nat→Prop} {u:V} (h:(isOwn u || (cellsOf u).any isOwn)=false):cov cx J u:=by
  have key:∀ u,isOwn u=false→cov1 cx J u:=by
    intro u hu
    cases u<;>first | trivial | simp [isOwn] at hu
  cases u with
  | agg us =>
    intro u hu
    simp only [cellsOf,Bool.or_eq_false_iff,List.any_eq_false,Bool.not_eq_true] at h
    exact key u (h.2 u hu)
  | own id=>simp [isOwn] at h
  | sub id i j=>simp [isOwn] at h
  | pt id i off=>simp [isOwn] at h
  | _=>trivial
theorem isOwn_cov' {cx:Cx} {J:Nat→Prop} {u:V} (h:((isOwn u || (cellsOf u).any isOwn) && !(isPt u && ptOk cx.ob u))=false):cov cx J u:=by
  by_cases h1:(isOwn u || (cellsOf u).any isOwn)=false
  · exact isOwn_cov h1
  · have h1:(isOwn u || (cellsOf u).any isOwn)=true:=(Bool.eq_false_or_eq_true _).resolve_right h1
    rw [h1,Bool.true_and,Bool.not_eq_false',Bool.and_eq_true] at h
    obtain ⟨h2,h3⟩:=h
    cases u with
    | pt id i off =>
      simp only [ptOk,getAt_eq] at h3
      split at h3
      case h_2=>cases h3
      rename_i zs hz
      simp only [Bool.not_eq_true',List.any_eq_false] at h3
      refine ⟨fun o bs ho hl=>?_,fun us hus z hzm=>?_⟩
      · rw [hz] at ho; cases ho; exact hl.elim
      · have:zs=us:=by
          rcases hus with h | h
          · rw [hz] at h; cases h
          · rw [hz] at h; cases h; rfl
        subst this
        have hn:=h3 z hzm
        cases z<;>first | trivial | simp [isOwn] at hn
    | _=>simp [isPt] at h2
variable {T:FuncId→Option Sig}
theorem callF_quiet (hT:∀ f sig,T f=some sig→Con P f sig) {o:Oper} {c:Call} {f:FuncId} {k:V→St→Option R} {r:R} (ho:o.op=.call c) (hf:c.callee=.value (.func f))
    (h:callF T st W f (c.args.toList.map (ev st s ann)) k=some r) (hq:W≠none∨∀ sig,T f=some sig→sig.w=none∧sig.fresh=false∧sig.rs.all flat=true):∃ v,k v st=some r∧OpSem P o st s W ann v:=by
  unfold callF at h
  split at h
  case h_2=>cases h
  rename_i sig hsig
  have hcon:=hT f sig hsig
  split at h
  · rename_i ws hws
    split at h
    · rcases hq with hq | hq
      · exact absurd rfl hq
      · have:=(hq sig hsig).1
        rw [hws] at this
        cases this
    · cases h
  rename_i hw
  split at h
  case h_2=>cases h
  rename_i x hx
  have args:∀ {B:Lim} {M:Nat→Prop} {w0 w:World} {fp:List (List Nat)} {a:Act},AnnOk a ann →
      (∀ t,Operand.tmp t∈o.op.operands→grep (cxOf B M w st.ob fp) (some s) a (a.tmps.getD t undef) (look t st.tm))→All2 (trep (cxOf B M w st.ob fp)) (c.args.toList.map a.eval) (c.args.toList.map (ev st s ann)):=by
    intro B M w0 w fp a hann hop
    refine ⟨by simp,fun i v u hv hu=>?_⟩
    simp only [List.getElem?_map,Option.map_eq_some_iff] at hv hu
    obtain ⟨q,hq,rfl⟩:=hv
    obtain ⟨q',hq',rfl⟩:=hu
    rw [hq] at hq'
    have hqq:=Option.some.inj hq'
    subst hqq
    refine ev_rel (fun t ht=>hop t ?_) hann
    have hm:q∈c.args:=by
      have:=List.mem_of_getElem? hq
      simpa using this
    rw [ho,← ht]
    simp [Op.operands,Call.operands,hm]
  have boolW:∀ {y:Tup sig.rs} {w:Bool},(if w=true then sig.F x else some (tzero sig.rs))=some y→(∀ y,some w=some y→y=true)→sig.F x=some y:=by
    intro y w he hW
    have:=hW w rfl
    subst this
    simpa using he
  -- the call itself,once its result is known to be pure data in memory that stays
  have fin:∀ (y:Tup sig.rs),((∀ y,W=some y→y=true)→sig.F x=some y)→(sig.fresh=true∨sig.rs.all flat=true∨(c.args.toList.map (ev st s ann)).any (fun v=>(isOwn v || (cellsOf v).any isOwn) && !(isPt v && ptOk st.ob v))=false) →
      OpSem P o st s W ann (tupOf (ofTup sig.rs y)):=by
    intro y hy hcase hW B M w0 w fp a H hann hop K Q hK
    have ha:=args (w0:=w0) hann hop
    have hF:=hy hW
    by_cases hfresh:sig.fresh=true
    · refine call_wp hcon hw ho hf hF (asTup_rel (J:=fun _=>True) H (fun _ _ _=>trivial) hx ha (fun u _=>cov_all _ u)) H.am fun vs w' hb hr=>?_
      rw [if_pos hfresh] at hr
      obtain ⟨bs,hown,hnd,hbs⟩:=hr
      exact hK _ _ hb (trep_tupOf (all2_ofTup (hown.rep (J:=imm B M w' st.ob fp) (fun b hb'=>imm_new H hb (hbs b hb').1 (hbs b hb').2))))
    · rcases hcase with h1 | h1 | h1
      · exact absurd h1 hfresh
      · refine call_wp hcon hw ho hf hF (asTup_rel (J:=fun _=>True) H (fun _ _ _=>trivial) hx ha (fun u _=>cov_all _ u)) H.am fun vs w' hb hr=>?_
        rw [if_neg hfresh] at hr
        exact hK _ _ hb (trep_tupOf (all2_ofTup (hr.flat h1)))
      · refine call_wp hcon hw ho hf hF (asTup_rel (J:=imm B M w st.ob fp) H (fun _ _ h=>h) hx ha (fun u hu=>isOwn_cov' (cx:=cxOf B M w st.ob fp) ?_)) H.am fun vs w' hb hr=>?_
        · simp only [List.any_eq_false] at h1
          exact Bool.eq_false_iff.2 (h1 u hu)
        · rw [if_neg hfresh] at hr
          refine hK _ _ hb (trep_tupOf (all2_ofTup (hr.imp (J':=imm B M w' st.ob fp) (fun b hb' hJ=>?_))))
          rcases hJ with hJ | hJ
          · exact (Ext.of_below hb).imm hJ
          · exact imm_new H hb hJ hb'
  split at h
  · rename_i hfresh
    split at h
    · rcases hq with hq | hq
      · exact absurd rfl hq
      · have:=(hq sig hsig).2.1
        rw [hfresh] at this; cases this
    · rename_i w
      simp only [Option.bind_eq_some_iff] at h
      obtain ⟨y,hy,hk⟩:=h
      exact ⟨_,hk,fin y (fun hW=>boolW hy hW) (.inl hfresh)⟩
  · rename_i hfresh
    split at h
    · rename_i hflat
      simp only [Option.bind_eq_some_iff] at h
      obtain ⟨y,hy,hk⟩:=h
      refine ⟨_,hk,fin y (fun hW=>?_) (.inr (.inl hflat))⟩
      cases W with
      | none=>exact hy
      | some w=>exact boolW hy hW
    · rename_i hflat
      split at h
      · rcases hq with hq | hq
        · exact absurd rfl hq
        · exact absurd (hq sig hsig).2.2 hflat
      · rename_i w
        split at h
        · cases h
        · rename_i hno
          simp only [Option.bind_eq_some_iff] at h
          obtain ⟨y,hy,hk⟩:=h
          exact ⟨_,hk,fin y (fun hW=>boolW hy hW) (.inr (.inr (by simpa using hno)))⟩
end
end Go.Vm

namespace Go.Vm
variable [Amb]
open Go.RowKit (Below)
section
variable {B:Lim} {M:Nat→Prop} {w0 w w':World} {ob ob':List Ob} {fp fp':List (List Nat)}
def Same (w w':World) (bs:List Nat):Prop:=∀ b∈bs,w'.heap[b]?=w.heap[b]?
def Turn (cx cx':Cx) (id:Nat) (o:Ob) (bs:List Nat):Prop :=
  (cx'.ob[id]?=some o∧cx'.fp[id]?=some bs∧Same cx.w cx'.w bs)∨(∃ bs',cx'.ob[id]?=some .dead∧cx'.fp[id]?=some bs') ∨
  (∃ dp e l,o=.row dp e l∧cx'.ob[id]?=some (.frz e l)∧cx'.fp[id]?=some bs∧Same cx.w cx'.w bs∧∀ b∈bs,cx'.I b) ∨
  (∃ us us',o=.box us∧cx'.ob[id]?=some (.fbox us')∧cx'.fp[id]?=some bs∧Same cx.w cx'.w bs) ∨
  (∃ e l n,o=.pre e l n∧cx'.ob[id]?=some (.row true e l)∧cx'.fp[id]?=some bs∧Same cx.w cx'.w bs) ∨
  (∃ k l l',o=.mp k l∧cx'.ob[id]?=some (.mp k l')∧cx'.fp[id]?=some bs)
def RowsOk (cx:Cx):Prop:=∀ (id:Nat) (dp:Bool) (e:Ty) (l:List e.den) (bs:List Nat),cx.ob[id]?=some (Ob.row dp e l)→cx.fp[id]?=some bs→rowRep cx.w cx.I dp e l bs
structure Mv (cx cx':Cx):Prop where
  keep:∀ b,b < cx.w.heap.size→cx.I b→cx'.I b∧cx'.w.heap[b]?=cx.w.heap[b]?
  turn:∀ (id:Nat) (o:Ob) (bs:List Nat),cx.ob[id]?=some o→cx.fp[id]?=some bs→Turn cx cx' id o bs
theorem hdr_same {w w':World} {e:Ty} {l:List e.den} {bs:List Nat} {v:Value} (h:Same w w' bs) (hh:hdr w e l bs v):hdr w' e l bs v:=by
  cases bs with
  | nil=>exact hh
  | cons b r=>obtain ⟨c,T,cap,hb,r⟩:=hh; exact ⟨c,T,cap,(h b (by simp)).trans hb,r⟩
theorem cell_same {w w':World} {b o:Nat} {v:Value} (hk:w'.heap[b]?=w.heap[b]?) (hc:w.cell? ⟨b,o,none⟩=some v):w'.cell? ⟨b,o,none⟩=some v:=by
  obtain ⟨c,T,fz,hb,hv⟩:=cell_at hc
  simp only [World.cell?,hk.trans hb]
  simpa using hv
theorem rep_same {w w':World} {I' J:Nat→Prop} {t:Ty} {x:t.den} {cs:List Value} (h:rep w J t x cs) (hJ:∀ b,b < w.heap.size→J b→I' b∧w'.heap[b]?=w.heap[b]?):rep w' I' t x cs:=rep_keep hJ h
theorem Mv.crep {cx cx':Cx} (m:Mv cx cx') (hro:RowsOk cx) {v:Value} {u:V} (h:Vm.crep cx v u):Vm.crep cx' v u:=by
  cases u with
  | d t x=>exact rep_keep m.keep h
  | own id =>
    have h1:=crep_one h
    obtain ⟨o,bs,ho,hf,h⟩:=h
    rcases m.turn id o bs ho hf with ⟨ho',hf',hs⟩ | ⟨bs',ho',hf'⟩ | ⟨dp,e,l,rfl,ho',hf',hs,hb⟩ | ⟨us,us',rfl,ho',hf',hs⟩ | ⟨e,l,n,rfl,ho',hf',hs⟩ | ⟨k,l,l',rfl,ho',hf'⟩
    · refine ⟨o,bs,ho',hf',?_⟩
      cases o with
      | row dp e l=>exact hdr_same hs h
      | pre e l n=>exact hdr_same hs h
      | frz e l=>exact rep_keep m.keep h
      | _=>exact h
    · exact ⟨_,_,ho',hf',h1⟩
    · refine ⟨_,_,ho',hf',?_⟩
      have:=row_rep (J:=fun b=>cx'.I b∧cx'.w.heap[b]?=cx.w.heap[b]?) (hro id dp e l bs ho hf) h (fun b hb'=>⟨hb b hb',hs b hb'⟩) m.keep
      exact rep_keep (fun b _ hJ=>hJ) this
    · exact ⟨_,_,ho',hf',h1⟩
    · exact ⟨_,_,ho',hf',hdr_same hs h⟩
    · exact ⟨_,_,ho',hf',h1⟩
  | sub id i j =>
    have h1:=crep_one h
    obtain ⟨o,bs,ho,hf,h⟩:=h
    rcases m.turn id o bs ho hf with ⟨ho',hf',hs⟩ | ⟨bs',ho',hf'⟩ | ⟨dp,e,l,rfl,ho',hf',hs,hb⟩ | ⟨us,us',rfl,ho',hf',hs⟩ | ⟨e,l,n,rfl,ho',hf',hs⟩ | ⟨k,l,l',rfl,ho',hf'⟩
    · refine ⟨o,bs,ho',hf',?_⟩
      cases o with
      | row dp e l=>obtain ⟨hi,hj,ho1,b,r,rfl,hc⟩:=h; exact ⟨hi,hj,ho1,b,r,rfl,cell_same (hs b (by simp)) hc⟩
      | pre e l n=>obtain ⟨hi,hj,ho1,b,r,rfl,hc⟩:=h; exact ⟨hi,hj,ho1,b,r,rfl,cell_same (hs b (by simp)) hc⟩
      | frz e l =>
        refine ⟨h.1,fun u' hu'=>?_⟩
        obtain ⟨t,x,rfl,hr⟩:=h.2 u' hu'
        exact ⟨t,x,rfl,rep_keep m.keep hr⟩
      | _=>exact h
    · exact ⟨_,_,ho',hf',h1⟩
    · refine ⟨_,_,ho',hf',h1,fun u hu=>?_⟩
      obtain ⟨hi,hj,_,b,r,rfl,hc⟩:=h
      obtain ⟨t,x,rfl,hr⟩:=row_cell (J:=fun b=>cx'.I b∧cx'.w.heap[b]?=cx.w.heap[b]?) (hro id dp e l _ ho hf) hi hj hc (fun q hq=>⟨hb q hq,hs q hq⟩) m.keep hu
      exact ⟨t,x,rfl,rep_keep (fun q _ hJ=>hJ) hr⟩
    · exact ⟨_,_,ho',hf',h1⟩
    · obtain ⟨hi,hj,ho1,b,r,rfl,hc⟩:=h; exact ⟨_,_,ho',hf',hi,hj,ho1,b,r,rfl,cell_same (hs b (by simp)) hc⟩
    · exact ⟨_,_,ho',hf',h1⟩
  | pt id i off =>
    have h1:=crep_one h
    obtain ⟨o,bs,ho,hf,h⟩:=h
    rcases m.turn id o bs ho hf with ⟨ho',hf',hs⟩ | ⟨bs',ho',hf'⟩ | ⟨dp,e,l,rfl,ho',hf',hs,hb⟩ | ⟨us,us',rfl,ho',hf',hs⟩ | ⟨e,l,n,rfl,ho',hf',hs⟩ | ⟨k,l,l',rfl,ho',hf'⟩
    · exact ⟨o,bs,ho',hf',h⟩
    · exact ⟨_,_,ho',hf',h1⟩
    · exact ⟨_,_,ho',hf',h⟩
    · exact ⟨_,_,ho',hf',h⟩
    · exact ⟨_,_,ho',hf',h⟩
    · exact h.elim
  | rp t x off =>
    obtain ⟨ad,vs,rfl,hs,hI,hm,hr⟩:=h
    have hk:=m.keep _ hm.lt hI
    exact ⟨ad,vs,rfl,hs,hk.1,hm.keep hk.2,rep_keep m.keep hr⟩
  | any=>exact h
  | nil=>exact h
  | nilp=>exact h
  | fn f=>exact h
  | part id lo hi =>
    have h1:=crep_one h
    obtain ⟨o,bs,ho,hf,h⟩:=h
    rcases m.turn id o bs ho hf with ⟨ho',hf',hs⟩ | ⟨bs',ho',hf'⟩ | ⟨dp,e,l,rfl,ho',hf',hs,hb⟩ | ⟨us,us',rfl,ho',hf',hs⟩ | ⟨e,l,n,rfl,ho',hf',hs⟩ | ⟨k,l,l',rfl,ho',hf'⟩
    · refine ⟨o,bs,ho',hf',?_⟩
      cases o<;>exact h
    · exact ⟨_,_,ho',hf',h1⟩
    · exact ⟨_,_,ho',hf',h1⟩
    · exact ⟨_,_,ho',hf',h1⟩
    · exact ⟨_,_,ho',hf',h⟩
    · exact ⟨_,_,ho',hf',h1⟩
  | mp id =>
    have h1:=crep_one h
    obtain ⟨o,bs,ho,hf,h⟩:=h
    rcases m.turn id o bs ho hf with ⟨ho',hf',hs⟩ | ⟨bs',ho',hf'⟩ | ⟨dp,e,l,rfl,ho',hf',hs,hb⟩ | ⟨us,us',rfl,ho',hf',hs⟩ | ⟨e,l,n,rfl,ho',hf',hs⟩ | ⟨k,l,l',rfl,ho',hf'⟩
    · refine ⟨o,bs,ho',hf',?_⟩
      cases o<;>exact h
    · exact ⟨_,_,ho',hf',h1⟩
    · exact ⟨_,_,ho',hf',h1⟩
    · exact ⟨_,_,ho',hf',h1⟩
    · exact ⟨_,_,ho',hf',h1⟩
    · exact ⟨_,_,ho',hf',h⟩
  | clo f t x =>
    obtain ⟨b,rfl,hr,h2⟩:=h
    exact ⟨b,rfl,rep_keep m.keep hr,h2⟩
  | cap f t x =>
    obtain ⟨b,rfl,hr⟩:=h
    exact ⟨b,rfl,rep_keep m.keep hr⟩
  | capm f ids =>
    obtain ⟨b,rfl,hc⟩:=h
    refine ⟨b,rfl,hc.imp (fun c id hp=>?_)⟩
    obtain ⟨o,bs,ho,hf,h⟩:=hp
    rcases m.turn id o bs ho hf with ⟨ho',hf',hs⟩ | ⟨bs',ho',hf'⟩ | ⟨dp,e,l,rfl,ho',hf',hs,hb⟩ | ⟨us,us',rfl,ho',hf',hs⟩ | ⟨e,l,n,rfl,ho',hf',hs⟩ | ⟨k,l,l',rfl,ho',hf'⟩
    · exact ⟨o,bs,ho',hf',h⟩
    · exact ⟨_,_,ho',hf',trivial⟩
    · exact ⟨_,_,ho',hf',trivial⟩
    · exact ⟨_,_,ho',hf',h⟩
    · exact ⟨_,_,ho',hf',trivial⟩
    · exact ⟨_,_,ho',hf',trivial⟩
  | emp b e=>exact h
  | sl n=>exact h
  | z e=>exact h
  | ifc ks t g x =>
    refine ⟨h.1,fun hg=>?_⟩
    obtain ⟨k,p,h1,h2,h3,h4⟩:=h.2 hg
    exact ⟨k,p,h1,h2,rep_keep m.keep h3,h4⟩
  | _=>exact h.elim
theorem Hrel.rows (H:Hrel B M w0 w ob fp):RowsOk (cxOf B M w ob fp) :=
  fun id _ _ _ bs ho hf=>H.ob id _ bs ho hf
theorem Mv.orep {cx cx':Cx} (m:Mv cx cx') (hro:RowsOk cx) {o:Ob} {bs:List Nat} (h:Vm.orep cx bs o) (hbs:Same cx.w cx'.w bs):Vm.orep cx' bs o:=by
  cases o with
  | row dp e l =>
    rcases h with hx | ⟨b,c,T,hb,hsz,hx⟩
    · exact .inl hx
    · have hbb:b∈bs:=by
        cases dp with
        | true=>simp only [if_true] at hx; obtain ⟨bss,rfl,_⟩:=hx; simp
        | false=>simp only [Bool.false_eq_true,if_false] at hx; rw [hx.1]; simp
      refine .inr ⟨b,c,T,(hbs b hbb).trans hb,hsz,?_⟩
      cases dp with
      | true =>
        simp only [if_true] at hx ⊢
        obtain ⟨bss,rfl,hlen,hel⟩:=hx
        exact ⟨bss,rfl,hlen,fun i hi=>own_keep (hel i hi) (fun q hq=>hbs q (List.mem_cons_of_mem _ (bss_mem (by omega) hq)))⟩
      | false =>
        simp only [Bool.false_eq_true,if_false] at hx ⊢
        exact ⟨hx.1,fun i hi=>rep_keep m.keep (hx.2 i hi)⟩
  | pre e l n =>
    rcases h with hx | ⟨b,c,T,hb,hsz,bss,rfl,hlen,hnl,ho,hr⟩
    · exact .inl hx
    · exact .inr ⟨b,c,T,(hbs b (by simp)).trans hb,hsz,bss,rfl,hlen,hnl,fun i hi hin=>own_keep (ho i hi hin) (fun q hq=>hbs q (List.mem_cons_of_mem _ (bss_mem (by omega) hq))),fun i hi hin=>rep_keep m.keep (hr i hi hin)⟩
  | frz e l =>
    rcases h with hx | ⟨b,c,T,fz,rest,hbs',hb,hsz,hI,hx⟩
    · exact .inl hx
    · exact .inr ⟨b,c,T,fz,rest,hbs',(hbs b (by rw [hbs']; simp)).trans hb,hsz,(m.keep b (lt_of_block hb) hI).1,fun i hi=>rep_keep m.keep (hx i hi)⟩
  | box us =>
    obtain ⟨b,c,T,hbs',hb,ha⟩:=h
    exact ⟨b,c,T,hbs',(hbs b (by rw [hbs']; simp)).trans hb,ha.imp (fun _ _=>m.crep hro)⟩
  | fbox us =>
    obtain ⟨b,c,T,fz,hbs',hb,hI,ha⟩:=h
    exact ⟨b,c,T,fz,hbs',(hbs b (by rw [hbs']; simp)).trans hb,(m.keep b (lt_of_block hb) hI).1,ha.imp (fun _ _=>m.crep hro)⟩
  | mp k l=>obtain ⟨b,es,rfl,hb,hm⟩:=h; exact ⟨b,es,rfl,(hbs b (by simp)).trans hb,hm⟩
  | dead=>exact h
theorem Hrel.lt (H:Hrel B M w0 w ob fp) {id:Nat} {bs:List Nat} (hf:fp[id]?=some bs) {b:Nat} (hb:b∈bs):b < w.heap.size:=(H.ge b (List.mem_flatten.2 ⟨bs,List.mem_of_getElem? hf,hb⟩)).2
theorem get_append_some {α:Type} {l m:List α} {i:Nat} {x:α} (h:l[i]?=some x):(l++m)[i]?=some x:=by
  have hlt:i < l.length:=by
    rcases Nat.lt_or_ge i l.length with h' | h'
    · exact h'
    · rw [List.getElem?_eq_none h'] at h; cases h
  rw [List.getElem?_append_left hlt]; exact h
theorem imm_push (H:Hrel B M w0 w ob fp) {o:Ob} {bs:List Nat} {o':Obj} (hbs:∀ b∈bs,w.heap.size≤b) {b:Nat} (hb:b < w.heap.size) (hi:imm B M w ob fp b):imm B M (w.alloc o') (ob++[o]) (fp++[bs]) b:=by
  refine ⟨by simp; omega,hi.2.1,fun id q cs hq hf hl hm=>?_⟩
  by_cases hlt:id < ob.length
  · rw [List.getElem?_append_left hlt] at hq
    rw [List.getElem?_append_left (by rw [H.len]; exact hlt)] at hf
    exact hi.2.2 id q cs hq hf hl hm
  · by_cases he:id=ob.length
    · subst he
      rw [List.getElem?_append_right (by rw [H.len]; exact Nat.le_refl _),H.len] at hf
      simp at hf
      subst hf
      have:=hbs b hm
      omega
    · rw [List.getElem?_eq_none (by simp; omega)] at hq; cases hq
theorem push_mv (H:Hrel B M w0 w ob fp) {o:Ob} {bs:List Nat} {o':Obj} (hbs:∀ b∈bs,w.heap.size≤b):Mv (cxOf B M w ob fp) (cxOf B M (w.alloc o') (ob++[o]) (fp++[bs])) :=
  ⟨fun b hb hi=>⟨imm_push H hbs hb hi,Below.heap_alloc _ _ _ hb⟩,fun _ _ _ hq hf=>.inl ⟨get_append_some hq,get_append_some hf,fun b hb=>Below.heap_alloc _ _ _ (H.lt hf hb)⟩⟩
theorem push_hrel (H:Hrel B M w0 w ob fp) {o:Ob} {c:Array Value} {T:TypeId} (ho:orep (cxOf B M (w.alloc (.cells c T)) (ob++[o]) (fp++[[w.heap.size]])) [w.heap.size] o):Hrel B M w0 (w.alloc (.cells c T)) (ob++[o]) (fp++[[w.heap.size]]):=by
  have hm:=push_mv H (o:=o) (bs:=[w.heap.size]) (o':=.cells c T) (by simp)
  refine ⟨by simp [H.len],?_,?_,?_,H.below.alloc H.size _,(fun b hb=>by have:=H.size b hb; simp; omega),H.amb⟩
  · simp only [List.flatten_append,List.flatten_cons,List.flatten_nil,List.append_nil]
    rw [List.nodup_append]
    refine ⟨H.nd,by simp,fun a ha b hb he=>?_⟩
    have h1:=(H.ge a ha).2
    have h2:b=w.heap.size:=by simpa using hb
    omega
  · intro b hb
    simp only [List.flatten_append,List.mem_append,List.flatten_cons,List.flatten_nil,List.append_nil,List.mem_singleton] at hb
    rcases hb with hb | rfl
    · have:=H.ge b hb; refine ⟨this.1,?_⟩; simp; omega
    · exact ⟨Lim.new H.size,by simp⟩
  · intro id q bs hq hf
    by_cases hlt:id < ob.length
    · rw [List.getElem?_append_left hlt] at hq
      rw [List.getElem?_append_left (by rw [H.len]; exact hlt)] at hf
      exact hm.orep H.rows (H.ob id q bs hq hf) (fun b hb=>Below.heap_alloc _ _ _ (H.lt hf hb))
    · by_cases he:id=ob.length
      · subst he
        rw [List.getElem?_append_right (by rw [H.len]; exact Nat.le_refl _),H.len] at hf
        rw [List.getElem?_append_right (Nat.le_refl _)] at hq
        simp at hf hq
        subst hf; subst hq
        exact ho
      · rw [List.getElem?_eq_none (by simp; omega)] at hq; cases hq
theorem push_box (H:Hrel B M w0 w ob fp) {us:List V} {c:Array Value} (T:TypeId) (ha:All2 (crep (cxOf B M w ob fp)) c.toList us) :
    Hrel B M w0 (w.alloc (.cells c T)) (ob++[.box us]) (fp++[[w.heap.size]])∧Mv (cxOf B M w ob fp) (cxOf B M (w.alloc (.cells c T)) (ob++[.box us]) (fp++[[w.heap.size]])) ∧
      crep (cxOf B M (w.alloc (.cells c T)) (ob++[.box us]) (fp++[[w.heap.size]])) (.pointer (some ⟨w.heap.size,0,none⟩)) (.pt ob.length 0 0):=by
  have hm:=push_mv H (o:=.box us) (bs:=[w.heap.size]) (o':=.cells c T) (by simp)
  have hnew:(w.alloc (.cells c T)).heap[w.heap.size]?=some (.cells c T (0,0)):=by
    show (w.heap.push (.cells c T))[w.heap.size]?=_
    simp
  refine ⟨push_hrel H ⟨w.heap.size,c,T,rfl,hnew,ha.imp (fun _ _=>hm.crep H.rows)⟩,hm,?_⟩
  refine ⟨.box us,[w.heap.size],?_,?_,rfl,w.heap.size,rfl,rfl⟩
  · simp [cxOf]
  · simp [cxOf,← H.len]
end
end Go.Vm

namespace Go.Vm
variable [Amb]
open Go.RowKit (Below)
theorem nodup_index {fp:List (List Nat)} (hn:fp.flatten.Nodup):∀ {i j:Nat} {bs cs:List Nat} {b:Nat},fp[i]?=some bs→fp[j]?=some cs→b∈bs→b∈cs→i=j:=by
  induction fp with
  | nil=>intro i j bs cs b h; simp at h
  | cons f fp ih =>
    intro i j bs cs b hi hj hb hc
    rw [List.flatten_cons,List.nodup_append] at hn
    obtain ⟨_,hn2,hn3⟩:=hn
    rcases i with _ | i<;>rcases j with _ | j
    · rfl
    · simp at hi hj
      subst hi
      exact absurd rfl (hn3 b hb b (List.mem_flatten.2 ⟨cs,List.mem_of_getElem? hj,hc⟩))
    · simp at hi hj
      subst hj
      exact absurd rfl (hn3 b hc b (List.mem_flatten.2 ⟨bs,List.mem_of_getElem? hi,hb⟩))
    · simp at hi hj
      rw [ih hn2 hi hj hb hc]
section
variable {B:Lim} {M:Nat→Prop} {w0 w w':World} {ob ob1 os:List Ob} {fp fp1 bss:List (List Nat)}
def Turns (ob:List Ob) (fp:List (List Nat)) (ob1:List Ob) (fp1:List (List Nat)):Prop :=
  ob1.length=ob.length∧fp1.length=fp.length∧∀ (id:Nat) (o:Ob) (bs:List Nat),ob[id]?=some o→fp[id]?=some bs →
    (ob1[id]?=some o∧fp1[id]?=some bs)∨(ob1[id]?=some .dead∧fp1[id]?=some []∧∃ dp e l,o=.row dp e l) ∨
    (∃ dp e l,o=.row dp e l∧ob1[id]?=some (.frz e l)∧fp1[id]?=some bs)
def Taken (ob:List Ob) (fp:List (List Nat)) (ob1:List Ob) (b:Nat):Prop:=∃ (id:Nat) (dp:Bool) (e:Ty) (l:List e.den) (bs:List Nat),ob[id]?=some (.row dp e l)∧ob1[id]?=some .dead∧fp[id]?=some bs∧b∈bs
theorem turns_refl (ob:List Ob) (fp:List (List Nat)):Turns ob fp ob fp:=⟨rfl,rfl,fun _ _ _ h1 h2=>.inl ⟨h1,h2⟩⟩
theorem frz_of_row {I J:Nat→Prop} {dp:Bool} {e:Ty} {l:List e.den} {bs:List Nat} (h:rowRep w I dp e l bs) (hs:Same w w' bs) (hJ:∀ b∈bs,J b) (hk:∀ b,b < w.heap.size→I b→J b∧w'.heap[b]?=w.heap[b]?):frzRep w' J e l bs:=by
  rcases h with hx | ⟨b,c,T,hb,hsz,hx⟩
  · exact .inl hx
  · cases dp with
    | true =>
      simp only [if_true] at hx
      obtain ⟨bss,rfl,hlen,hel⟩:=hx
      refine .inr ⟨b,c,T,(0,0),_,rfl,(hs b (by simp)).trans hb,hsz,hJ b (by simp),fun i hi=>?_⟩
      have hmem:∀ q∈bss.getD i [],q∈b :: bss.flatten:=fun q hq=>List.mem_cons_of_mem _ (bss_mem (by omega) hq)
      exact own_rep (own_keep (hel i hi) (fun q hq=>hs q (hmem q hq))) (fun q hq=>hJ q (hmem q hq))
    | false =>
      simp only [Bool.false_eq_true,if_false] at hx
      obtain ⟨rfl,hel⟩:=hx
      exact .inr ⟨b,c,T,(0,0),[],rfl,(hs b (by simp)).trans hb,hsz,hJ b (by simp),fun i hi=>rep_keep hk (hel i hi)⟩
theorem turn_push (H:Hrel B M w0 w ob fp) (ht:Turns ob fp ob1 fp1) (hl:bss.length=os.length) (hnd:(fp1++bss).flatten.Nodup)
    (hnew:∀ b∈bss.flatten,Taken ob fp ob1 b∨(w.heap.size≤b∧b < w'.heap.size)) (hsize:w.heap.size≤w'.heap.size)
    (hblk:∀ b,b < w.heap.size→¬ Taken ob fp ob1 b→w'.heap[b]?=w.heap[b]?) (hbel:Bel B w w') :
    Mv (cxOf B M w ob fp) (cxOf B M w' (ob1++os) (fp1++bss)) ∧
      ((∀ (k:Nat) (o:Ob) (bs:List Nat),os[k]?=some o→bss[k]?=some bs→orep (cxOf B M w' (ob1++os) (fp1++bss)) bs o)→Hrel B M w0 w' (ob1++os) (fp1++bss)):=by
  obtain ⟨ht1,ht2,ht3⟩:=ht
  have hlen1:fp1.length=ob1.length:=by rw [ht1,ht2,H.len]
  have old:∀ {id:Nat} {o:Ob} {bs:List Nat},id < ob.length→(ob1++os)[id]?=some o→(fp1++bss)[id]?=some bs→ob1[id]?=some o∧fp1[id]?=some bs:=by
    intro id o bs hid h1 h2
    rw [List.getElem?_append_left (by omega)] at h1
    rw [List.getElem?_append_left (by omega)] at h2
    exact ⟨h1,h2⟩
  have look:∀ {id:Nat},id < ob.length→∃ o bs,ob[id]?=some o∧fp[id]?=some bs:=fun hid =>
    ⟨_,_,List.getElem?_eq_getElem hid,List.getElem?_eq_getElem (by rw [H.len]; exact hid)⟩
  -- what stays is not taken
  have stays:∀ {id:Nat} {o:Ob} {bs:List Nat},ob[id]?=some o→fp[id]?=some bs→ob1[id]?≠some .dead→Same w w' bs:=by
    intro id o bs ho hf hnd' b hb
    refine hblk b (H.lt hf hb) ?_
    rintro ⟨id',dp,e,l,cs,ho',hd,hf',hb'⟩
    have:=nodup_index H.nd hf hf' hb hb'
    subst this
    exact hnd' hd
  have himm:∀ b,b < w.heap.size→imm B M w ob fp b→imm B M w' (ob1++os) (fp1++bss) b∧w'.heap[b]?=w.heap[b]? := by
    intro b hb hi
    have hnt:¬ Taken ob fp ob1 b:=by
      rintro ⟨id,dp,e,l,bs,ho,_,hf,hbs⟩
      exact hi.2.2 id _ bs ho hf trivial hbs
    refine ⟨⟨Nat.lt_of_lt_of_le hb hsize,hi.2.1,fun id o bs ho hf hlv hm=>?_⟩,hblk b hb hnt⟩
    by_cases hid:id < ob.length
    · obtain ⟨h1,h2⟩:=old hid ho hf
      obtain ⟨o',bs',ho',hf'⟩:=look hid
      rcases ht3 id o' bs' ho' hf' with ⟨h3,h4⟩ | ⟨h3,h4,_⟩ | ⟨dp,e,l,rfl,h3,h4⟩
      · rw [h1] at h3; rw [h2] at h4
        have e1:=Option.some.inj h3; have e2:=Option.some.inj h4
        subst e1; subst e2
        exact hi.2.2 id o bs ho' hf' hlv hm
      · rw [h1] at h3
        have e1:=Option.some.inj h3
        subst e1
        exact hlv
      · rw [h1] at h3
        have e1:=Option.some.inj h3
        subst e1
        exact hlv
    · rw [List.getElem?_append_right (by omega)] at hf
      rcases hnew b (List.mem_flatten.2 ⟨bs,List.mem_of_getElem? hf,hm⟩) with h | h
      · exact hnt h
      · omega
  have hfimm:∀ {id:Nat} {e:Ty} {l:List e.den} {bs:List Nat},(ob1++os)[id]?=some (.frz e l)→(fp1++bss)[id]?=some bs→(∀ b∈bs,¬ B.K b∧b < w'.heap.size)→∀ b∈bs,imm B M w' (ob1++os) (fp1++bss) b:=by
    intro id e l bs ho hf hge b hb
    refine ⟨(hge b hb).2,fun hlt=>absurd hlt (hge b hb).1,fun id' o' bs' ho' hf' hlv hm=>?_⟩
    have:=nodup_index hnd hf hf' hb hm
    subst this
    rw [ho] at ho'
    have e1:=Option.some.inj ho'
    subst e1
    exact hlv
  have hturn:∀ (id:Nat) (o:Ob) (bs:List Nat),ob[id]?=some o→fp[id]?=some bs→Turn (cxOf B M w ob fp) (cxOf B M w' (ob1++os) (fp1++bss)) id o bs:=by
    intro id o bs ho hf
    rcases ht3 id o bs ho hf with ⟨h3,h4⟩ | ⟨h3,h4,_⟩ | ⟨dp,e,l,rfl,h3,h4⟩
    · by_cases hd:o=.dead
      · subst hd
        exact .inr (.inl ⟨_,get_append_some h3,get_append_some h4⟩)
      · refine .inl ⟨get_append_some h3,get_append_some h4,stays ho hf ?_⟩
        rw [h3]
        exact fun he=>hd (Option.some.inj he)
    · exact .inr (.inl ⟨_,get_append_some h3,get_append_some h4⟩)
    · have hs:Same w w' bs:=stays ho hf (by rw [h3]; exact fun he=>by cases he)
      exact .inr (.inr (.inl ⟨dp,e,l,rfl,get_append_some h3,get_append_some h4,hs,hfimm (get_append_some h3) (get_append_some h4) (fun b hb=>⟨(H.ge b (List.mem_flatten.2 ⟨bs,List.mem_of_getElem? hf,hb⟩)).1,Nat.lt_of_lt_of_le (H.lt hf hb) hsize⟩)⟩))
  have mv:Mv (cxOf B M w ob fp) (cxOf B M w' (ob1++os) (fp1++bss)):=⟨himm,hturn⟩
  refine ⟨mv,fun hobs=>⟨by simp [hlen1,hl],hnd,fun b hb=>?_,fun id o bs ho hf=>?_,H.below.trans hbel,(fun b hb=>Nat.lt_of_lt_of_le (H.size b hb) hsize),H.amb⟩⟩
  · rw [List.flatten_append,List.mem_append] at hb
    rcases hb with hb | hb
    · obtain ⟨bs,hbs,hb⟩:=List.mem_flatten.1 hb
      obtain ⟨id,hid⟩:=List.getElem?_of_mem hbs
      have hlt:id < ob.length:=by
        have:id < fp1.length:=by
          rcases Nat.lt_or_ge id fp1.length with h' | h'
          · exact h'
          · rw [List.getElem?_eq_none h'] at hid; cases hid
        omega
      obtain ⟨o',bs',ho',hf'⟩:=look hlt
      have:b∈bs':=by
        rcases ht3 id o' bs' ho' hf' with ⟨_,h4⟩ | ⟨_,h4,_⟩ | ⟨dp,e,l,rfl,_,h4⟩
        · rw [hid] at h4; have e1:=Option.some.inj h4; subst e1; exact hb
        · rw [hid] at h4; have e1:=Option.some.inj h4; subst e1; cases hb
        · rw [hid] at h4; have e1:=Option.some.inj h4; subst e1; exact hb
      have:=H.ge b (List.mem_flatten.2 ⟨bs',List.mem_of_getElem? hf',this⟩)
      exact ⟨this.1,Nat.lt_of_lt_of_le this.2 hsize⟩
    · rcases hnew b hb with ⟨id,dp,e,l,bs,_,_,hf,hbs⟩ | h
      · have:=H.ge b (List.mem_flatten.2 ⟨bs,List.mem_of_getElem? hf,hbs⟩)
        exact ⟨this.1,Nat.lt_of_lt_of_le this.2 hsize⟩
      · exact ⟨fun hk=>by have:=H.size b hk; omega,h.2⟩
  · by_cases hid:id < ob.length
    · obtain ⟨h1,h2⟩:=old hid ho hf
      obtain ⟨o',bs',ho',hf'⟩:=look hid
      rcases ht3 id o' bs' ho' hf' with ⟨h3,h4⟩ | ⟨h3,h4,_⟩ | ⟨dp,e,l,rfl,h3,h4⟩
      · rw [h1] at h3; rw [h2] at h4
        have e1:=Option.some.inj h3; have e2:=Option.some.inj h4
        subst e1; subst e2
        by_cases hd:o=.dead
        · subst hd
          exact H.ob id _ bs ho' hf'
        · refine mv.orep H.rows (H.ob id o bs ho' hf') (stays ho' hf' ?_)
          rw [h1]
          exact fun he=>hd (Option.some.inj he)
      · rw [h1] at h3; rw [h2] at h4
        have e1:=Option.some.inj h3; have e2:=Option.some.inj h4
        subst e1; subst e2
        rfl
      · rw [h1] at h3; rw [h2] at h4
        have e1:=Option.some.inj h3; have e2:=Option.some.inj h4
        subst e1; subst e2
        have hs:Same w w' bs:=stays ho' hf' (by rw [h1]; exact fun he=>by cases he)
        exact frz_of_row (H.ob id _ bs ho' hf') hs (hfimm ho hf (fun b hb=>⟨(H.ge b (List.mem_flatten.2 ⟨bs,List.mem_of_getElem? hf',hb⟩)).1,Nat.lt_of_lt_of_le (H.lt hf' hb) hsize⟩)) himm
    · rw [List.getElem?_append_right (by omega)] at ho hf
      exact hobs (id - ob1.length) o bs ho (by rw [hlen1] at hf; exact hf)
end
end Go.Vm
