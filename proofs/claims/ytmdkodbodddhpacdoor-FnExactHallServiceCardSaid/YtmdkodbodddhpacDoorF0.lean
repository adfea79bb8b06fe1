import Derived.Test.YtmdkodbodddhpacDoorProg
import Derived.Test.YtmdkodbodddhpacDoorM3
import Derived.Below
import Derived.ChangeAlike
import Derived.Handy
import Derived.Lib.SmallJoins
import Derived.RegionTactic
import Derived.Shelf.Lay
import Derived.Shelf.Strconv.AtoiAll
set_option maxRecDepth 100000
set_option linter.unusedVariables false
namespace Go.Proofs.YtmdkodbodddhpacDoor
open Go.Vm
abbrev tGateObject : Ty := (.pair .str (.pair .str (.pair .str (.pair (.slice .str) (.pair .bool (.pair (.slice .str) (.pair (.int .i64) .unit)))))))
abbrev tStewService : Ty := (.pair .str (.pair (.int .i64) (.pair .bool (.pair (.int .i64) (.pair (.int .i64) (.pair (.int .i64) (.pair (.int .i64) (.pair (.int .i64) (.pair (.int .i64) (.pair (.int .i64) (.pair (.int .i64) (.pair (.int .i64) (.pair (.int .i64) .unit)))))))))))))
theorem hMixed : Tryd.prog.follows .mixedOrders = true := by kernel_rfl
instance amb : Amb := Amb.errs [0]
namespace laws_szStringS
@[reducible] def l5 : LSpec := ⟨[(0, .d (.slice .str)), (1, .d (.int .i64)), (5, .d (.int .i64))], [(.ret, [(4, .d (.int .i64))]), (.exit 0, [(1, .d (.int .i64))])]⟩
def B5 (n : Nat) {R : Type} (next : Sden l5.inS → Option R) (cs : Conts R l5.outs) (x : Sden l5.inS) : Option R :=
  if (decide (x.2.2.1 < (List.length x.1 : Int))) = true then
   if (decide (0 ≤ x.2.2.1 ∧ x.2.2.1 < (List.length x.1 : Int))) = true then
   if (decide ((IntKind.i64.wrap (x.2.1 - (ByteArray.size (List.getD x.1 (Int.toNat x.2.2.1) (⟨#[]⟩ : ByteArray)) : Int))) < (0 : Int))) = true then
   cs.1 ((-1 : Int), ())
 else
   next (x.1, (IntKind.i64.wrap (x.2.1 - (ByteArray.size (List.getD x.1 (Int.toNat x.2.2.1) (⟨#[]⟩ : ByteArray)) : Int))), (IntKind.i64.wrap (x.2.2.1 + (1 : Int))), ())
 else
   none
 else
   cs.2.1 (x.2.1, ())
def f (n : Nat) (x : Tup [(.slice .str), (.int .i64)]) : Option (Tup [(.int .i64)]) :=
  if (decide ((IntKind.i64.wrap (x.2.1 - (List.length x.1 : Int))) < (0 : Int))) = true then
   some ((-1 : Int), ())
 else
   runL (B5 n) ((fun z1 =>
     some (z1.1, ())), (fun z2 =>
     some (z2.1, ())), ()) n (x.1, (IntKind.i64.wrap (x.2.1 - (List.length x.1 : Int))), (0 : Int), ())
@[reducible] def sig (n : Nat) : Sig := ⟨[(.slice .str), (.int .i64)], [(.int .i64)], false, f n, none, none⟩
def T (n : Nat) : FuncId → Option Sig := fun g => none
def TL (n : Nat) : Loops := fun j _ st k => if Nat.beq j 5 = true then (match dec st l5.inS [] with | some x => runL (B5 n) (contsOf k l5.outs) n x | none => none) else none
theorem d5 (n : Nat) : LoopDef Tryd.prog (T n) (TL n) Tryd.f12 5 :=
  ⟨l5, fun R => B5 n, n, fun R st k => by kernel_rfl, fun R next cs x => by kernel_rfl⟩
theorem con (n : Nat) : Con Tryd.prog 12 (sig n) :=
  con_print (hsw := rfl) (hsx := rfl) (T := T n) (TL := TL n) (c := Tryd.f12.body.getD .skip) (js := [5]) hMixed conT_none Tryd.func12 (by decide) (by kernel_rfl) (by kernel_rfl) (by decide) (LoopDef.cons (d5 n) LoopDef.nil) (fun x => by kernel_rfl)
end laws_szStringS
namespace laws_szGateObject
def f (n : Nat) (x : Tup [tGateObject, (.int .i64)]) : Option (Tup [(.int .i64)]) :=
  if (decide ((IntKind.i64.wrap (x.2.1 - (ByteArray.size x.1.1 : Int))) < (0 : Int))) = true then
 some ((-1 : Int), ())
 else if (decide ((IntKind.i64.wrap ((IntKind.i64.wrap (x.2.1 - (ByteArray.size x.1.1 : Int))) - (ByteArray.size x.1.2.1 : Int))) < (0 : Int))) = true then
 some ((-1 : Int), ())
 else if (decide ((IntKind.i64.wrap ((IntKind.i64.wrap ((IntKind.i64.wrap (x.2.1 - (ByteArray.size x.1.1 : Int))) - (ByteArray.size x.1.2.1 : Int))) - (ByteArray.size x.1.2.2.1 : Int))) < (0 : Int))) = true then
   some ((-1 : Int), ())
 else
   (laws_szStringS.f n (x.1.2.2.2.1, (IntKind.i64.wrap ((IntKind.i64.wrap ((IntKind.i64.wrap (x.2.1 - (ByteArray.size x.1.1 : Int))) - (ByteArray.size x.1.2.1 : Int))) - (ByteArray.size x.1.2.2.1 : Int))), ())).bind fun y1 =>
 if (decide (y1.1 < (0 : Int))) = true then
   some ((-1 : Int), ())
 else
   (laws_szStringS.f n (x.1.2.2.2.2.2.1, y1.1, ())).bind fun y2 =>
 if (decide (y2.1 < (0 : Int))) = true then
   some ((-1 : Int), ())
 else
   some (y2.1, ())
@[reducible] def sig (n : Nat) : Sig := ⟨[tGateObject, (.int .i64)], [(.int .i64)], false, f n, none, none⟩
def T (n : Nat) : FuncId → Option Sig := fun g => if Nat.beq g 12 = true then some (laws_szStringS.sig n) else none
def TL (n : Nat) : Loops := fun j _ st k => none
theorem con (n : Nat) : Con Tryd.prog 4 (sig n) :=
  con_print (hsw := rfl) (hsx := rfl) (T := T n) (TL := TL n) (c := Tryd.f4.body.getD .skip) (js := []) hMixed (conT_cons (laws_szStringS.con n) conT_none) Tryd.func4 (by decide) (by kernel_rfl) (by kernel_rfl) (by decide) LoopDef.nil (fun x => by kernel_rfl)
end laws_szGateObject
namespace laws_szStewService
def f (n : Nat) (x : Tup [tStewService, (.int .i64)]) : Option (Tup [(.int .i64)]) :=
  if (decide ((IntKind.i64.wrap (x.2.1 - (ByteArray.size x.1.1 : Int))) < (0 : Int))) = true then
   some ((-1 : Int), ())
 else
   some ((IntKind.i64.wrap (x.2.1 - (ByteArray.size x.1.1 : Int))), ())
@[reducible] def sig (n : Nat) : Sig := ⟨[tStewService, (.int .i64)], [(.int .i64)], false, f n, none, none⟩
def T (n : Nat) : FuncId → Option Sig := fun g => none
def TL (n : Nat) : Loops := fun j _ st k => none
theorem con (n : Nat) : Con Tryd.prog 5 (sig n) :=
  con_print (hsw := rfl) (hsx := rfl) (T := T n) (TL := TL n) (c := Tryd.f5.body.getD .skip) (js := []) hMixed conT_none Tryd.func5 (by decide) (by kernel_rfl) (by kernel_rfl) (by decide) LoopDef.nil (fun x => by kernel_rfl)
end laws_szStewService
namespace laws_toStringS
@[reducible] def l3 : LSpec := ⟨[(0, .d (.slice .str)), (3, .row true .str), (4, .d (.int .i64))], [(.exit 0, [(3, .row true .str)])]⟩
def B3 (n : Nat) {R : Type} (next : Sden l3.inS → Option R) (cs : Conts R l3.outs) (x : Sden l3.inS) : Option R :=
  if (decide (x.2.2.1 < (List.length x.1 : Int))) = true then
   if (decide (0 ≤ x.2.2.1 ∧ x.2.2.1 < (List.length x.1 : Int))) = true then
   if (decide (0 ≤ x.2.2.1 ∧ x.2.2.1 < (List.length x.2.1 : Int))) = true then
   next (x.1, (List.set x.2.1 (Int.toNat x.2.2.1) (List.getD x.1 (Int.toNat x.2.2.1) (⟨#[]⟩ : ByteArray))), (IntKind.i64.wrap (x.2.2.1 + (1 : Int))), ())
 else
   none
 else
   none
 else
   cs.1 (x.2.1, ())
def f (n : Nat) (x : Tup [(.slice .str)]) : Option (Tup [(.slice .str)]) :=
  if (decide (0 ≤ (List.length x.1 : Int) ∧ (List.length x.1 : Int) ≤ (List.length x.1 : Int) ∧ (List.length x.1 : Int) * (16 : Int) ≤ 140737488355328)) = true then
   runL (B3 n) ((fun z1 =>
     some (z1.1, ())), ()) n (x.1, (List.replicate (Int.toNat (List.length x.1 : Int)) (⟨#[]⟩ : ByteArray)), (0 : Int), ())
 else
   none
@[reducible] def sig (n : Nat) : Sig := ⟨[(.slice .str)], [(.slice .str)], true, f n, none, none⟩
def T (n : Nat) : FuncId → Option Sig := fun g => none
def TL (n : Nat) : Loops := fun j _ st k => if Nat.beq j 3 = true then (match dec st l3.inS [] with | some x => runL (B3 n) (contsOf k l3.outs) n x | none => none) else none
theorem d3 (n : Nat) : LoopDef Tryd.prog (T n) (TL n) Tryd.f14 3 :=
  ⟨l3, fun R => B3 n, n, fun R st k => by kernel_rfl, fun R next cs x => by kernel_rfl⟩
theorem con (n : Nat) : Con Tryd.prog 14 (sig n) :=
  con_print (hsw := rfl) (hsx := rfl) (T := T n) (TL := TL n) (c := Tryd.f14.body.getD .skip) (js := [3]) hMixed conT_none Tryd.func14 (by decide) (by kernel_rfl) (by kernel_rfl) (by decide) (LoopDef.cons (d3 n) LoopDef.nil) (fun x => by kernel_rfl)
end laws_toStringS
namespace laws_toGateObject
def f (n : Nat) (x : Tup [tGateObject]) : Option (Tup [tGateObject]) :=
  (laws_toStringS.f n (x.1.2.2.2.1, ())).bind fun y1 =>
 (laws_toStringS.f n (x.1.2.2.2.2.2.1, ())).bind fun y2 =>
 some ((x.1.1, x.1.2.1, x.1.2.2.1, y1.1, x.1.2.2.2.2.1, y2.1, x.1.2.2.2.2.2.2), ())
@[reducible] def sig (n : Nat) : Sig := ⟨[tGateObject], [tGateObject], true, f n, none, none⟩
def T (n : Nat) : FuncId → Option Sig := fun g => if Nat.beq g 14 = true then some (laws_toStringS.sig n) else none
def TL (n : Nat) : Loops := fun j _ st k => none
theorem con (n : Nat) : Con Tryd.prog 7 (sig n) :=
  con_print (hsw := rfl) (hsx := rfl) (T := T n) (TL := TL n) (c := Tryd.f7.body.getD .skip) (js := []) hMixed (conT_cons (laws_toStringS.con n) conT_none) Tryd.func7 (by decide) (by kernel_rfl) (by kernel_rfl) (by decide) LoopDef.nil (fun x => by kernel_rfl)
end laws_toGateObject
namespace laws_toStewService
def f (n : Nat) (x : Tup [tStewService]) : Option (Tup [tStewService]) :=
  some (x.1, ())
@[reducible] def sig (n : Nat) : Sig := ⟨[tStewService], [tStewService], false, f n, none, none⟩
def T (n : Nat) : FuncId → Option Sig := fun g => none
def TL (n : Nat) : Loops := fun j _ st k => none
theorem con (n : Nat) : Con Tryd.prog 8 (sig n) :=
  con_print (hsw := rfl) (hsx := rfl) (T := T n) (TL := TL n) (c := Tryd.f8.body.getD .skip) (js := []) hMixed conT_none Tryd.func8 (by decide) (by kernel_rfl) (by kernel_rfl) (by decide) LoopDef.nil (fun x => by kernel_rfl)
end laws_toStewService
namespace spec_l1In
def f (n : Nat) (x : Tup [(.int .i64), (.int .i64), (.int .i64)]) : Option (Tup [.bool]) :=
  some (((decide (x.1 ≥ x.2.1)) && (decide (x.1 ≤ x.2.2.1))), ())
@[reducible] def sig (n : Nat) : Sig := ⟨[(.int .i64), (.int .i64), (.int .i64)], [.bool], false, f n, none, none⟩
def T (n : Nat) : FuncId → Option Sig := fun g => none
def TL (n : Nat) : Loops := fun j _ st k => none
theorem con (n : Nat) : Con Tryd.prog 21 (sig n) :=
  con_print (hsw := rfl) (hsx := rfl) (T := T n) (TL := TL n) (c := Tryd.f21.body.getD .skip) (js := []) hMixed conT_none Tryd.func21 (by decide) (by kernel_rfl) (by kernel_rfl) (by decide) LoopDef.nil (fun x => by kernel_rfl)
end spec_l1In
namespace spec_l1Number
@[reducible] def l5 : LSpec := ⟨[(0, .d .str), (3, .d (.int .i64)), (4, .d (.int .i64))], [(.ret, [(2, .d (.int .i64))]), (.exit 0, [(3, .d (.int .i64))])]⟩
def B5 (n : Nat) {R : Type} (next : Sden l5.inS → Option R) (cs : Conts R l5.outs) (x : Sden l5.inS) : Option R :=
  if (decide (x.2.2.1 < (ByteArray.size x.1 : Int))) = true then
   if (decide (0 ≤ x.2.2.1 ∧ x.2.2.1 < (ByteArray.size x.1 : Int))) = true then
   if (!(!(decide ((byteAt x.1 x.2.2.1) < (48 : Int)))) || (decide (0 ≤ x.2.2.1 ∧ x.2.2.1 < (ByteArray.size x.1 : Int)))) = true then
   if ((decide ((byteAt x.1 x.2.2.1) < (48 : Int))) || (decide ((byteAt x.1 x.2.2.1) > (57 : Int)))) = true then
 cs.1 ((-1 : Int), ())
 else if (decide (0 ≤ x.2.2.1 ∧ x.2.2.1 < (ByteArray.size x.1 : Int))) = true then
   next (x.1, (IntKind.i64.wrap ((IntKind.i64.wrap ((IntKind.i64.wrap (x.2.1 * (10 : Int))) + (IntKind.i64.wrap (byteAt x.1 x.2.2.1)))) - (48 : Int))), (IntKind.i64.wrap (x.2.2.1 + (1 : Int))), ())
 else
   none
 else
   none
 else
   none
 else
   cs.2.1 (x.2.1, ())
def f (n : Nat) (x : Tup [.str]) : Option (Tup [(.int .i64)]) :=
  (spec_l1In.f n ((ByteArray.size x.1 : Int), (1 : Int), (7 : Int), ())).bind fun y1 =>
 if (!((!(!y1.1)) && (decide ((ByteArray.size x.1 : Int) > (1 : Int)))) || (decide (0 ≤ (0 : Int) ∧ (0 : Int) < (ByteArray.size x.1 : Int)))) = true then
   if ((!y1.1) || ((decide ((ByteArray.size x.1 : Int) > (1 : Int))) && ((byteAt x.1 (0 : Int)) == (48 : Int)))) = true then
   some ((-1 : Int), ())
 else
   runL (B5 n) ((fun z2 =>
     some (z2.1, ())), (fun z3 =>
     some (z3.1, ())), ()) n (x.1, (0 : Int), (0 : Int), ())
 else
   none
@[reducible] def sig (n : Nat) : Sig := ⟨[.str], [(.int .i64)], false, f n, none, none⟩
def T (n : Nat) : FuncId → Option Sig := fun g => if Nat.beq g 21 = true then some (spec_l1In.sig n) else none
def TL (n : Nat) : Loops := fun j _ st k => if Nat.beq j 5 = true then (match dec st l5.inS [] with | some x => runL (B5 n) (contsOf k l5.outs) n x | none => none) else none
theorem d5 (n : Nat) : LoopDef Tryd.prog (T n) (TL n) Tryd.f18 5 :=
  ⟨l5, fun R => B5 n, n, fun R st k => by kernel_rfl, fun R next cs x => by kernel_rfl⟩
theorem con (n : Nat) : Con Tryd.prog 18 (sig n) :=
  con_print (hsw := rfl) (hsx := rfl) (T := T n) (TL := TL n) (c := Tryd.f18.body.getD .skip) (js := [5]) hMixed (conT_cons (spec_l1In.con n) conT_none) Tryd.func18 (by decide) (by kernel_rfl) (by kernel_rfl) (by decide) (LoopDef.cons (d5 n) LoopDef.nil) (fun x => by kernel_rfl)
end spec_l1Number
namespace spec_l31Value
def f (n : Nat) (x : Tup [.str]) : Option (Tup [(.int .i64)]) :=
  (spec_l1Number.f n (x.1, ())).bind fun y1 =>
 if (decide (y1.1 < (0 : Int))) = true then
   some ((0 : Int), ())
 else
   some (y1.1, ())
@[reducible] def sig (n : Nat) : Sig := ⟨[.str], [(.int .i64)], false, f n, none, none⟩
def T (n : Nat) : FuncId → Option Sig := fun g => if Nat.beq g 18 = true then some (spec_l1Number.sig n) else none
def TL (n : Nat) : Loops := fun j _ st k => none
theorem con (n : Nat) : Con Tryd.prog 13 (sig n) :=
  con_print (hsw := rfl) (hsx := rfl) (T := T n) (TL := TL n) (c := Tryd.f13.body.getD .skip) (js := []) hMixed (conT_cons (spec_l1Number.con n) conT_none) Tryd.func13 (by decide) (by kernel_rfl) (by kernel_rfl) (by decide) LoopDef.nil (fun x => by kernel_rfl)
end spec_l31Value
namespace spec_HallService
def f (n : Nat) (x : Tup [tGateObject, tStewService]) : Option (Tup [tStewService]) :=
  if ((List.length x.1.2.2.2.1 : Int) != (6 : Int)) = true then
 some (((⟨#[]⟩ : ByteArray), (0 : Int), false, (0 : Int), (0 : Int), (0 : Int), (0 : Int), (0 : Int), (0 : Int), (0 : Int), (0 : Int), (0 : Int), (0 : Int), ()), ())
 else if (!true || (decide (0 ≤ (0 : Int) ∧ (0 : Int) < (List.length x.1.2.2.2.1 : Int)))) = true then
   (if true = true then (spec_l31Value.f n ((List.getD x.1.2.2.2.1 (Int.toNat (0 : Int)) (⟨#[]⟩ : ByteArray)), ())) else some (tzero [(.int .i64)])).bind fun y1 =>
 if (!true || (decide (0 ≤ (1 : Int) ∧ (1 : Int) < (List.length x.1.2.2.2.1 : Int)))) = true then
   (if true = true then (spec_l31Value.f n ((List.getD x.1.2.2.2.1 (Int.toNat (1 : Int)) (⟨#[]⟩ : ByteArray)), ())) else some (tzero [(.int .i64)])).bind fun y2 =>
 if (!true || (decide (0 ≤ (2 : Int) ∧ (2 : Int) < (List.length x.1.2.2.2.1 : Int)))) = true then
   (if true = true then (spec_l31Value.f n ((List.getD x.1.2.2.2.1 (Int.toNat (2 : Int)) (⟨#[]⟩ : ByteArray)), ())) else some (tzero [(.int .i64)])).bind fun y3 =>
 if (!true || (decide (0 ≤ (3 : Int) ∧ (3 : Int) < (List.length x.1.2.2.2.1 : Int)))) = true then
   (if true = true then (spec_l31Value.f n ((List.getD x.1.2.2.2.1 (Int.toNat (3 : Int)) (⟨#[]⟩ : ByteArray)), ())) else some (tzero [(.int .i64)])).bind fun y4 =>
 if (!true || (decide (0 ≤ (4 : Int) ∧ (4 : Int) < (List.length x.1.2.2.2.1 : Int)))) = true then
   (if true = true then (spec_l31Value.f n ((List.getD x.1.2.2.2.1 (Int.toNat (4 : Int)) (⟨#[]⟩ : ByteArray)), ())) else some (tzero [(.int .i64)])).bind fun y5 =>
 if (decide (y5.1 > (0 : Int))) = true then
   if (decide (x.2.1.2.2.2.2.1 < y2.1)) = true then
   some ((x.1.2.1, (0 : Int), x.1.2.2.2.2.1, y1.1, x.2.1.2.2.2.2.1, y3.1, y4.1, (0 : Int), y5.1, (0 : Int), y2.1, x.2.1.2.2.2.2.2.2.2.2.2.2.2.1, (0 : Int), ()), ())
 else
   some ((x.1.2.1, (0 : Int), x.1.2.2.2.2.1, y1.1, y2.1, y3.1, y4.1, (0 : Int), y5.1, (0 : Int), y2.1, x.2.1.2.2.2.2.2.2.2.2.2.2.2.1, (0 : Int), ()), ())
 else
   some ((x.1.2.1, (0 : Int), x.1.2.2.2.2.1, y1.1, y2.1, y3.1, y4.1, (0 : Int), y5.1, (0 : Int), (0 : Int), (0 : Int), (0 : Int), ()), ())
 else
   none
 else
   none
 else
   none
 else
   none
 else
   none
@[reducible] def sig (n : Nat) : Sig := ⟨[tGateObject, tStewService], [tStewService], false, f n, none, none⟩
def T (n : Nat) : FuncId → Option Sig := fun g => if Nat.beq g 13 = true then some (spec_l31Value.sig n) else none
def TL (n : Nat) : Loops := fun j _ st k => none
theorem con (n : Nat) : Con Tryd.prog 6 (sig n) :=
  con_print (hsw := rfl) (hsx := rfl) (T := T n) (TL := TL n) (c := Tryd.f6.body.getD .skip) (js := []) hMixed (conT_cons (spec_l31Value.con n) conT_none) Tryd.func6 (by decide) (by kernel_rfl) (by kernel_rfl) (by decide) LoopDef.nil (fun x => by kernel_rfl)
end spec_HallService
namespace impl_hwIsDecimal
@[reducible] def l4 : LSpec := ⟨[(0, .d .str), (23, .d (.int .i64)), (24, .d (.int .i64))], [(.ret, [(2, .d .bool)]), (.exit 0, [])]⟩
def B4 (n : Nat) {R : Type} (next : Sden l4.inS → Option R) (cs : Conts R l4.outs) (x : Sden l4.inS) : Option R :=
  if (decide (x.2.2.1 < x.2.1)) = true then
   if (decide (0 ≤ x.2.2.1 ∧ x.2.2.1 < (ByteArray.size x.1 : Int))) = true then
   if (!(!(decide ((byteAt x.1 x.2.2.1) < (48 : Int)))) || (decide (0 ≤ x.2.2.1 ∧ x.2.2.1 < (ByteArray.size x.1 : Int)))) = true then
   if ((decide ((byteAt x.1 x.2.2.1) < (48 : Int))) || (decide ((byteAt x.1 x.2.2.1) > (57 : Int)))) = true then
   cs.1 (false, ())
 else
   next (x.1, x.2.1, (IntKind.i64.wrap (x.2.2.1 + (1 : Int))), ())
 else
   none
 else
   none
 else
   cs.2.1 ()
def f (n : Nat) (x : Tup [.str]) : Option (Tup [.bool]) :=
  if (!((!((decide ((ByteArray.size x.1 : Int) < (1 : Int))) || (decide ((ByteArray.size x.1 : Int) > (7 : Int))))) && (decide ((ByteArray.size x.1 : Int) > (1 : Int)))) || (decide (0 ≤ (0 : Int) ∧ (0 : Int) < (ByteArray.size x.1 : Int)))) = true then
   if (((decide ((ByteArray.size x.1 : Int) < (1 : Int))) || (decide ((ByteArray.size x.1 : Int) > (7 : Int)))) || ((decide ((ByteArray.size x.1 : Int) > (1 : Int))) && ((byteAt x.1 (0 : Int)) == (48 : Int)))) = true then
   some (false, ())
 else
   runL (B4 n) ((fun z1 =>
     some (z1.1, ())), (fun z2 =>
     some (true, ())), ()) n (x.1, (ByteArray.size x.1 : Int), (0 : Int), ())
 else
   none
@[reducible] def sig (n : Nat) : Sig := ⟨[.str], [.bool], false, f n, none, none⟩
def T (n : Nat) : FuncId → Option Sig := fun g => none
def TL (n : Nat) : Loops := fun j _ st k => if Nat.beq j 4 = true then (match dec st l4.inS [] with | some x => runL (B4 n) (contsOf k l4.outs) n x | none => none) else none
theorem d4 (n : Nat) : LoopDef Tryd.prog (T n) (TL n) Tryd.f19 4 :=
  ⟨l4, fun R => B4 n, n, fun R st k => by kernel_rfl, fun R next cs x => by kernel_rfl⟩
theorem con (n : Nat) : Con Tryd.prog 19 (sig n) :=
  con_print (hsw := rfl) (hsx := rfl) (T := T n) (TL := TL n) (c := Tryd.f19.body.getD .skip) (js := [4]) hMixed conT_none Tryd.func19 (by decide) (by kernel_rfl) (by kernel_rfl) (by decide) (LoopDef.cons (d4 n) LoopDef.nil) (fun x => by kernel_rfl)
end impl_hwIsDecimal
namespace strconv_lower
def f (n : Nat) (x : Tup [(.int .u8)]) : Option (Tup [(.int .u8)]) :=
  some ((bitsI .or .u8 x.1 (32 : Int)), ())
@[reducible] def sig (n : Nat) : Sig := ⟨[(.int .u8)], [(.int .u8)], false, f n, none, none⟩
def T (n : Nat) : FuncId → Option Sig := fun g => none
def TL (n : Nat) : Loops := fun j _ st k => none
theorem con (n : Nat) : Con Tryd.prog 33 (sig n) :=
  con_print (hsw := rfl) (hsx := rfl) (T := T n) (TL := TL n) (c := Tryd.f33.body.getD .skip) (js := []) hMixed conT_none Tryd.func33 (by decide) (by kernel_rfl) (by kernel_rfl) (by decide) LoopDef.nil (fun x => by kernel_rfl)
end strconv_lower
namespace strconv_underscoreOK
@[reducible] def l10 : LSpec := ⟨[(0, .d .str), (3, .d (.int .i32)), (4, .d (.int .i64)), (5, .d .bool)], [(.ret, [(2, .d .bool)]), (.exit 0, [(3, .d (.int .i32))])]⟩
def B10 (n : Nat) {R : Type} (next : Sden l10.inS → Option R) (cs : Conts R l10.outs) (x : Sden l10.inS) : Option R :=
  if (decide (x.2.2.1 < (ByteArray.size x.1 : Int))) = true then
   if (decide (0 ≤ x.2.2.1 ∧ x.2.2.1 < (ByteArray.size x.1 : Int))) = true then
   if (!(decide ((48 : Int) ≤ (byteAt x.1 x.2.2.1))) || (decide (0 ≤ x.2.2.1 ∧ x.2.2.1 < (ByteArray.size x.1 : Int)))) = true then
   if (!((!((decide ((48 : Int) ≤ (byteAt x.1 x.2.2.1))) && (decide ((byteAt x.1 x.2.2.1) ≤ (57 : Int))))) && x.2.2.2.1) || (decide (0 ≤ x.2.2.1 ∧ x.2.2.1 < (ByteArray.size x.1 : Int)))) = true then
   (if ((!((decide ((48 : Int) ≤ (byteAt x.1 x.2.2.1))) && (decide ((byteAt x.1 x.2.2.1) ≤ (57 : Int))))) && x.2.2.2.1) = true then (strconv_lower.f n ((byteAt x.1 x.2.2.1), ())) else some (tzero [(.int .u8)])).bind fun y5 =>
 if (!((!((decide ((48 : Int) ≤ (byteAt x.1 x.2.2.1))) && (decide ((byteAt x.1 x.2.2.1) ≤ (57 : Int))))) && (x.2.2.2.1 && (decide ((97 : Int) ≤ y5.1)))) || (decide (0 ≤ x.2.2.1 ∧ x.2.2.1 < (ByteArray.size x.1 : Int)))) = true then
   (if ((!((decide ((48 : Int) ≤ (byteAt x.1 x.2.2.1))) && (decide ((byteAt x.1 x.2.2.1) ≤ (57 : Int))))) && (x.2.2.2.1 && (decide ((97 : Int) ≤ y5.1)))) = true then (strconv_lower.f n ((byteAt x.1 x.2.2.1), ())) else some (tzero [(.int .u8)])).bind fun y6 =>
 if (((decide ((48 : Int) ≤ (byteAt x.1 x.2.2.1))) && (decide ((byteAt x.1 x.2.2.1) ≤ (57 : Int)))) || ((x.2.2.2.1 && (decide ((97 : Int) ≤ y5.1))) && (decide (y6.1 ≤ (102 : Int))))) = true then
 next (x.1, (48 : Int), (IntKind.i64.wrap (x.2.2.1 + (1 : Int))), x.2.2.2.1, ())
 else if (decide (0 ≤ x.2.2.1 ∧ x.2.2.1 < (ByteArray.size x.1 : Int))) = true then
   if ((byteAt x.1 x.2.2.1) == (95 : Int)) = true then
 if (x.2.1 != (48 : Int)) = true then
   cs.1 (false, ())
 else
   next (x.1, (95 : Int), (IntKind.i64.wrap (x.2.2.1 + (1 : Int))), x.2.2.2.1, ())
 else if (x.2.1 == (95 : Int)) = true then
   cs.1 (false, ())
 else
   next (x.1, (33 : Int), (IntKind.i64.wrap (x.2.2.1 + (1 : Int))), x.2.2.2.1, ())
 else
   none
 else
   none
 else
   none
 else
   none
 else
   none
 else
   cs.2.1 (x.2.1, ())
def f (n : Nat) (x : Tup [.str]) : Option (Tup [.bool]) :=
  if (!(decide ((ByteArray.size x.1 : Int) ≥ (1 : Int))) || (decide (0 ≤ (0 : Int) ∧ (0 : Int) < (ByteArray.size x.1 : Int)))) = true then
   if (!((decide ((ByteArray.size x.1 : Int) ≥ (1 : Int))) && (!((byteAt x.1 (0 : Int)) == (45 : Int)))) || (decide (0 ≤ (0 : Int) ∧ (0 : Int) < (ByteArray.size x.1 : Int)))) = true then
   if ((decide ((ByteArray.size x.1 : Int) ≥ (1 : Int))) && (((byteAt x.1 (0 : Int)) == (45 : Int)) || ((byteAt x.1 (0 : Int)) == (43 : Int)))) = true then
 if (decide (0 ≤ (1 : Int) ∧ (1 : Int) ≤ (ByteArray.size x.1 : Int) ∧ (ByteArray.size x.1 : Int) ≤ (ByteArray.size x.1 : Int))) = true then
   if (!(decide ((ByteArray.size (ByteArray.extract x.1 (Int.toNat (1 : Int)) (Int.toNat (ByteArray.size x.1 : Int))) : Int) ≥ (2 : Int))) || (decide (0 ≤ (0 : Int) ∧ (0 : Int) < (ByteArray.size (ByteArray.extract x.1 (Int.toNat (1 : Int)) (Int.toNat (ByteArray.size x.1 : Int))) : Int)))) = true then
   if (!((decide ((ByteArray.size (ByteArray.extract x.1 (Int.toNat (1 : Int)) (Int.toNat (ByteArray.size x.1 : Int))) : Int) ≥ (2 : Int))) && ((byteAt (ByteArray.extract x.1 (Int.toNat (1 : Int)) (Int.toNat (ByteArray.size x.1 : Int))) (0 : Int)) == (48 : Int))) || (decide (0 ≤ (1 : Int) ∧ (1 : Int) < (ByteArray.size (ByteArray.extract x.1 (Int.toNat (1 : Int)) (Int.toNat (ByteArray.size x.1 : Int))) : Int)))) = true then
   (if ((decide ((ByteArray.size (ByteArray.extract x.1 (Int.toNat (1 : Int)) (Int.toNat (ByteArray.size x.1 : Int))) : Int) ≥ (2 : Int))) && ((byteAt (ByteArray.extract x.1 (Int.toNat (1 : Int)) (Int.toNat (ByteArray.size x.1 : Int))) (0 : Int)) == (48 : Int))) = true then (strconv_lower.f n ((byteAt (ByteArray.extract x.1 (Int.toNat (1 : Int)) (Int.toNat (ByteArray.size x.1 : Int))) (1 : Int)), ())) else some (tzero [(.int .u8)])).bind fun y1 =>
 if (!(((decide ((ByteArray.size (ByteArray.extract x.1 (Int.toNat (1 : Int)) (Int.toNat (ByteArray.size x.1 : Int))) : Int) ≥ (2 : Int))) && ((byteAt (ByteArray.extract x.1 (Int.toNat (1 : Int)) (Int.toNat (ByteArray.size x.1 : Int))) (0 : Int)) == (48 : Int))) && (!(y1.1 == (98 : Int)))) || (decide (0 ≤ (1 : Int) ∧ (1 : Int) < (ByteArray.size (ByteArray.extract x.1 (Int.toNat (1 : Int)) (Int.toNat (ByteArray.size x.1 : Int))) : Int)))) = true then
   (if (((decide ((ByteArray.size (ByteArray.extract x.1 (Int.toNat (1 : Int)) (Int.toNat (ByteArray.size x.1 : Int))) : Int) ≥ (2 : Int))) && ((byteAt (ByteArray.extract x.1 (Int.toNat (1 : Int)) (Int.toNat (ByteArray.size x.1 : Int))) (0 : Int)) == (48 : Int))) && (!(y1.1 == (98 : Int)))) = true then (strconv_lower.f n ((byteAt (ByteArray.extract x.1 (Int.toNat (1 : Int)) (Int.toNat (ByteArray.size x.1 : Int))) (1 : Int)), ())) else some (tzero [(.int .u8)])).bind fun y2 =>
 if (!(((decide ((ByteArray.size (ByteArray.extract x.1 (Int.toNat (1 : Int)) (Int.toNat (ByteArray.size x.1 : Int))) : Int) ≥ (2 : Int))) && ((byteAt (ByteArray.extract x.1 (Int.toNat (1 : Int)) (Int.toNat (ByteArray.size x.1 : Int))) (0 : Int)) == (48 : Int))) && (!((y1.1 == (98 : Int)) || (y2.1 == (111 : Int))))) || (decide (0 ≤ (1 : Int) ∧ (1 : Int) < (ByteArray.size (ByteArray.extract x.1 (Int.toNat (1 : Int)) (Int.toNat (ByteArray.size x.1 : Int))) : Int)))) = true then
   (if (((decide ((ByteArray.size (ByteArray.extract x.1 (Int.toNat (1 : Int)) (Int.toNat (ByteArray.size x.1 : Int))) : Int) ≥ (2 : Int))) && ((byteAt (ByteArray.extract x.1 (Int.toNat (1 : Int)) (Int.toNat (ByteArray.size x.1 : Int))) (0 : Int)) == (48 : Int))) && (!((y1.1 == (98 : Int)) || (y2.1 == (111 : Int))))) = true then (strconv_lower.f n ((byteAt (ByteArray.extract x.1 (Int.toNat (1 : Int)) (Int.toNat (ByteArray.size x.1 : Int))) (1 : Int)), ())) else some (tzero [(.int .u8)])).bind fun y3 =>
 if (((decide ((ByteArray.size (ByteArray.extract x.1 (Int.toNat (1 : Int)) (Int.toNat (ByteArray.size x.1 : Int))) : Int) ≥ (2 : Int))) && ((byteAt (ByteArray.extract x.1 (Int.toNat (1 : Int)) (Int.toNat (ByteArray.size x.1 : Int))) (0 : Int)) == (48 : Int))) && (((y1.1 == (98 : Int)) || (y2.1 == (111 : Int))) || (y3.1 == (120 : Int)))) = true then
   if (decide (0 ≤ (1 : Int) ∧ (1 : Int) < (ByteArray.size (ByteArray.extract x.1 (Int.toNat (1 : Int)) (Int.toNat (ByteArray.size x.1 : Int))) : Int))) = true then
   (strconv_lower.f n ((byteAt (ByteArray.extract x.1 (Int.toNat (1 : Int)) (Int.toNat (ByteArray.size x.1 : Int))) (1 : Int)), ())).bind fun y4 =>
 runL (B10 n) ((fun z7 =>
     some (z7.1, ())), (fun z8 =>
     some ((z8.1 != (95 : Int)), ())), ()) n ((ByteArray.extract x.1 (Int.toNat (1 : Int)) (Int.toNat (ByteArray.size x.1 : Int))), (48 : Int), (2 : Int), (y4.1 == (120 : Int)), ())
 else
   none
 else
   runL (B10 n) ((fun z9 =>
     some (z9.1, ())), (fun z10 =>
     some ((z10.1 != (95 : Int)), ())), ()) n ((ByteArray.extract x.1 (Int.toNat (1 : Int)) (Int.toNat (ByteArray.size x.1 : Int))), (94 : Int), (0 : Int), false, ())
 else
   none
 else
   none
 else
   none
 else
   none
 else
   none
 else if (!(decide ((ByteArray.size x.1 : Int) ≥ (2 : Int))) || (decide (0 ≤ (0 : Int) ∧ (0 : Int) < (ByteArray.size x.1 : Int)))) = true then
   if (!((decide ((ByteArray.size x.1 : Int) ≥ (2 : Int))) && ((byteAt x.1 (0 : Int)) == (48 : Int))) || (decide (0 ≤ (1 : Int) ∧ (1 : Int) < (ByteArray.size x.1 : Int)))) = true then
   (if ((decide ((ByteArray.size x.1 : Int) ≥ (2 : Int))) && ((byteAt x.1 (0 : Int)) == (48 : Int))) = true then (strconv_lower.f n ((byteAt x.1 (1 : Int)), ())) else some (tzero [(.int .u8)])).bind fun y11 =>
 if (!(((decide ((ByteArray.size x.1 : Int) ≥ (2 : Int))) && ((byteAt x.1 (0 : Int)) == (48 : Int))) && (!(y11.1 == (98 : Int)))) || (decide (0 ≤ (1 : Int) ∧ (1 : Int) < (ByteArray.size x.1 : Int)))) = true then
   (if (((decide ((ByteArray.size x.1 : Int) ≥ (2 : Int))) && ((byteAt x.1 (0 : Int)) == (48 : Int))) && (!(y11.1 == (98 : Int)))) = true then (strconv_lower.f n ((byteAt x.1 (1 : Int)), ())) else some (tzero [(.int .u8)])).bind fun y12 =>
 if (!(((decide ((ByteArray.size x.1 : Int) ≥ (2 : Int))) && ((byteAt x.1 (0 : Int)) == (48 : Int))) && (!((y11.1 == (98 : Int)) || (y12.1 == (111 : Int))))) || (decide (0 ≤ (1 : Int) ∧ (1 : Int) < (ByteArray.size x.1 : Int)))) = true then
   (if (((decide ((ByteArray.size x.1 : Int) ≥ (2 : Int))) && ((byteAt x.1 (0 : Int)) == (48 : Int))) && (!((y11.1 == (98 : Int)) || (y12.1 == (111 : Int))))) = true then (strconv_lower.f n ((byteAt x.1 (1 : Int)), ())) else some (tzero [(.int .u8)])).bind fun y13 =>
 if (((decide ((ByteArray.size x.1 : Int) ≥ (2 : Int))) && ((byteAt x.1 (0 : Int)) == (48 : Int))) && (((y11.1 == (98 : Int)) || (y12.1 == (111 : Int))) || (y13.1 == (120 : Int)))) = true then
   if (decide (0 ≤ (1 : Int) ∧ (1 : Int) < (ByteArray.size x.1 : Int))) = true then
   (strconv_lower.f n ((byteAt x.1 (1 : Int)), ())).bind fun y14 =>
 runL (B10 n) ((fun z15 =>
     some (z15.1, ())), (fun z16 =>
     some ((z16.1 != (95 : Int)), ())), ()) n (x.1, (48 : Int), (2 : Int), (y14.1 == (120 : Int)), ())
 else
   none
 else
   runL (B10 n) ((fun z17 =>
     some (z17.1, ())), (fun z18 =>
     some ((z18.1 != (95 : Int)), ())), ()) n (x.1, (94 : Int), (0 : Int), false, ())
 else
   none
 else
   none
 else
   none
 else
   none
 else
   none
 else
   none
@[reducible] def sig (n : Nat) : Sig := ⟨[.str], [.bool], false, f n, none, none⟩
def T (n : Nat) : FuncId → Option Sig := fun g => if Nat.beq g 33 = true then some (strconv_lower.sig n) else none
def TL (n : Nat) : Loops := fun j _ st k => if Nat.beq j 10 = true then (match dec st l10.inS [] with | some x => runL (B10 n) (contsOf k l10.outs) n x | none => none) else none
theorem d10 (n : Nat) : LoopDef Tryd.prog (T n) (TL n) Tryd.f34 10 :=
  ⟨l10, fun R => B10 n, n, fun R st k => by kernel_rfl, fun R next cs x => by kernel_rfl⟩
theorem con (n : Nat) : Con Tryd.prog 34 (sig n) :=
  con_print (hsw := rfl) (hsx := rfl) (T := T n) (TL := TL n) (c := Tryd.f34.body.getD .skip) (js := [10]) hMixed (conT_cons (strconv_lower.con n) conT_none) Tryd.func34 (by decide) (by kernel_rfl) (by kernel_rfl) (by decide) (LoopDef.cons (d10 n) LoopDef.nil) (fun x => by kernel_rfl)
end strconv_underscoreOK
namespace strconv_small
def f (n : Nat) (x : Tup [(.int .i64)]) : Option (Tup [.str]) :=
  if (decide (x.1 < (10 : Int))) = true then
 if (decide (0 ≤ x.1 ∧ x.1 ≤ (IntKind.i64.wrap (x.1 + (1 : Int))) ∧ (IntKind.i64.wrap (x.1 + (1 : Int))) ≤ (ByteArray.size (⟨#[48, 49, 50, 51, 52, 53, 54, 55, 56, 57, 97, 98, 99, 100, 101, 102, 103, 104, 105, 106, 107, 108, 109, 110, 111, 112, 113, 114, 115, 116, 117, 118, 119, 120, 121, 122]⟩ : ByteArray) : Int))) = true then
   some ((ByteArray.extract (⟨#[48, 49, 50, 51, 52, 53, 54, 55, 56, 57, 97, 98, 99, 100, 101, 102, 103, 104, 105, 106, 107, 108, 109, 110, 111, 112, 113, 114, 115, 116, 117, 118, 119, 120, 121, 122]⟩ : ByteArray) (Int.toNat x.1) (Int.toNat (IntKind.i64.wrap (x.1 + (1 : Int))))), ())
 else
   none
 else if (decide (0 ≤ (IntKind.i64.wrap (x.1 * (2 : Int))) ∧ (IntKind.i64.wrap (x.1 * (2 : Int))) ≤ (IntKind.i64.wrap ((IntKind.i64.wrap (x.1 * (2 : Int))) + (2 : Int))) ∧ (IntKind.i64.wrap ((IntKind.i64.wrap (x.1 * (2 : Int))) + (2 : Int))) ≤ (ByteArray.size (⟨#[48, 48, 48, 49, 48, 50, 48, 51, 48, 52, 48, 53, 48, 54, 48, 55, 48, 56, 48, 57, 49, 48, 49, 49, 49, 50, 49, 51, 49, 52, 49, 53, 49, 54, 49, 55, 49, 56, 49, 57, 50, 48, 50, 49, 50, 50, 50, 51, 50, 52, 50, 53, 50, 54, 50, 55, 50, 56, 50, 57, 51, 48, 51, 49, 51, 50, 51, 51, 51, 52, 51, 53, 51, 54, 51, 55, 51, 56, 51, 57, 52, 48, 52, 49, 52, 50, 52, 51, 52, 52, 52, 53, 52, 54, 52, 55, 52, 56, 52, 57, 53, 48, 53, 49, 53, 50, 53, 51, 53, 52, 53, 53, 53, 54, 53, 55, 53, 56, 53, 57, 54, 48, 54, 49, 54, 50, 54, 51, 54, 52, 54, 53, 54, 54, 54, 55, 54, 56, 54, 57, 55, 48, 55, 49, 55, 50, 55, 51, 55, 52, 55, 53, 55, 54, 55, 55, 55, 56, 55, 57, 56, 48, 56, 49, 56, 50, 56, 51, 56, 52, 56, 53, 56, 54, 56, 55, 56, 56, 56, 57, 57, 48, 57, 49, 57, 50, 57, 51, 57, 52, 57, 53, 57, 54, 57, 55, 57, 56, 57, 57]⟩ : ByteArray) : Int))) = true then
   some ((ByteArray.extract (⟨#[48, 48, 48, 49, 48, 50, 48, 51, 48, 52, 48, 53, 48, 54, 48, 55, 48, 56, 48, 57, 49, 48, 49, 49, 49, 50, 49, 51, 49, 52, 49, 53, 49, 54, 49, 55, 49, 56, 49, 57, 50, 48, 50, 49, 50, 50, 50, 51, 50, 52, 50, 53, 50, 54, 50, 55, 50, 56, 50, 57, 51, 48, 51, 49, 51, 50, 51, 51, 51, 52, 51, 53, 51, 54, 51, 55, 51, 56, 51, 57, 52, 48, 52, 49, 52, 50, 52, 51, 52, 52, 52, 53, 52, 54, 52, 55, 52, 56, 52, 57, 53, 48, 53, 49, 53, 50, 53, 51, 53, 52, 53, 53, 53, 54, 53, 55, 53, 56, 53, 57, 54, 48, 54, 49, 54, 50, 54, 51, 54, 52, 54, 53, 54, 54, 54, 55, 54, 56, 54, 57, 55, 48, 55, 49, 55, 50, 55, 51, 55, 52, 55, 53, 55, 54, 55, 55, 55, 56, 55, 57, 56, 48, 56, 49, 56, 50, 56, 51, 56, 52, 56, 53, 56, 54, 56, 55, 56, 56, 56, 57, 57, 48, 57, 49, 57, 50, 57, 51, 57, 52, 57, 53, 57, 54, 57, 55, 57, 56, 57, 57]⟩ : ByteArray) (Int.toNat (IntKind.i64.wrap (x.1 * (2 : Int)))) (Int.toNat (IntKind.i64.wrap ((IntKind.i64.wrap (x.1 * (2 : Int))) + (2 : Int))))), ())
 else
   none
@[reducible] def sig (n : Nat) : Sig := ⟨[(.int .i64)], [.str], false, f n, none, none⟩
def T (n : Nat) : FuncId → Option Sig := fun g => none
def TL (n : Nat) : Loops := fun j _ st k => none
theorem con (n : Nat) : Con Tryd.prog 37 (sig n) :=
  con_print (hsw := rfl) (hsx := rfl) (T := T n) (TL := TL n) (c := Tryd.f37.body.getD .skip) (js := []) hMixed conT_none Tryd.func37 (by decide) (by kernel_rfl) (by kernel_rfl) (by decide) LoopDef.nil (fun x => by kernel_rfl)
end strconv_small
namespace bits_Len64
def f (n : Nat) (x : Tup [(.int .u64)]) : Option (Tup [(.int .i64)]) :=
  if (decide (x.1 ≥ (4294967296 : Int))) = true then
 if (decide (0 ≤ (32 : Int))) = true then
   if (decide ((shrI .u64 x.1 (32 : Int)) ≥ (65536 : Int))) = true then
 if (decide (0 ≤ (16 : Int))) = true then
   if (decide ((shrI .u64 (shrI .u64 x.1 (32 : Int)) (16 : Int)) ≥ (256 : Int))) = true then
 if (decide (0 ≤ (8 : Int))) = true then
   if (decide (0 ≤ (IntKind.u8.wrap (shrI .u64 (shrI .u64 (shrI .u64 x.1 (32 : Int)) (16 : Int)) (8 : Int))) ∧ (IntKind.u8.wrap (shrI .u64 (shrI .u64 (shrI .u64 x.1 (32 : Int)) (16 : Int)) (8 : Int))) < (ByteArray.size (⟨#[0, 1, 2, 2, 3, 3, 3, 3, 4, 4, 4, 4, 4, 4, 4, 4, 5, 5, 5, 5, 5, 5, 5, 5, 5, 5, 5, 5, 5, 5, 5, 5, 6, 6, 6, 6, 6, 6, 6, 6, 6, 6, 6, 6, 6, 6, 6, 6, 6, 6, 6, 6, 6, 6, 6, 6, 6, 6, 6, 6, 6, 6, 6, 6, 7, 7, 7, 7, 7, 7, 7, 7, 7, 7, 7, 7, 7, 7, 7, 7, 7, 7, 7, 7, 7, 7, 7, 7, 7, 7, 7, 7, 7, 7, 7, 7, 7, 7, 7, 7, 7, 7, 7, 7, 7, 7, 7, 7, 7, 7, 7, 7, 7, 7, 7, 7, 7, 7, 7, 7, 7, 7, 7, 7, 7, 7, 7, 7, 8, 8, 8, 8, 8, 8, 8, 8, 8, 8, 8, 8, 8, 8, 8, 8, 8, 8, 8, 8, 8, 8, 8, 8, 8, 8, 8, 8, 8, 8, 8, 8, 8, 8, 8, 8, 8, 8, 8, 8, 8, 8, 8, 8, 8, 8, 8, 8, 8, 8, 8, 8, 8, 8, 8, 8, 8, 8, 8, 8, 8, 8, 8, 8, 8, 8, 8, 8, 8, 8, 8, 8, 8, 8, 8, 8, 8, 8, 8, 8, 8, 8, 8, 8, 8, 8, 8, 8, 8, 8, 8, 8, 8, 8, 8, 8, 8, 8, 8, 8, 8, 8, 8, 8, 8, 8, 8, 8, 8, 8, 8, 8, 8, 8, 8, 8, 8, 8, 8, 8, 8, 8, 8, 8, 8, 8, 8, 8]⟩ : ByteArray) : Int))) = true then
   some ((IntKind.i64.wrap ((IntKind.i64.wrap ((IntKind.i64.wrap ((32 : Int) + (16 : Int))) + (8 : Int))) + (IntKind.i64.wrap (byteAt (⟨#[0, 1, 2, 2, 3, 3, 3, 3, 4, 4, 4, 4, 4, 4, 4, 4, 5, 5, 5, 5, 5, 5, 5, 5, 5, 5, 5, 5, 5, 5, 5, 5, 6, 6, 6, 6, 6, 6, 6, 6, 6, 6, 6, 6, 6, 6, 6, 6, 6, 6, 6, 6, 6, 6, 6, 6, 6, 6, 6, 6, 6, 6, 6, 6, 7, 7, 7, 7, 7, 7, 7, 7, 7, 7, 7, 7, 7, 7, 7, 7, 7, 7, 7, 7, 7, 7, 7, 7, 7, 7, 7, 7, 7, 7, 7, 7, 7, 7, 7, 7, 7, 7, 7, 7, 7, 7, 7, 7, 7, 7, 7, 7, 7, 7, 7, 7, 7, 7, 7, 7, 7, 7, 7, 7, 7, 7, 7, 7, 8, 8, 8, 8, 8, 8, 8, 8, 8, 8, 8, 8, 8, 8, 8, 8, 8, 8, 8, 8, 8, 8, 8, 8, 8, 8, 8, 8, 8, 8, 8, 8, 8, 8, 8, 8, 8, 8, 8, 8, 8, 8, 8, 8, 8, 8, 8, 8, 8, 8, 8, 8, 8, 8, 8, 8, 8, 8, 8, 8, 8, 8, 8, 8, 8, 8, 8, 8, 8, 8, 8, 8, 8, 8, 8, 8, 8, 8, 8, 8, 8, 8, 8, 8, 8, 8, 8, 8, 8, 8, 8, 8, 8, 8, 8, 8, 8, 8, 8, 8, 8, 8, 8, 8, 8, 8, 8, 8, 8, 8, 8, 8, 8, 8, 8, 8, 8, 8, 8, 8, 8, 8, 8, 8, 8, 8, 8, 8]⟩ : ByteArray) (IntKind.u8.wrap (shrI .u64 (shrI .u64 (shrI .u64 x.1 (32 : Int)) (16 : Int)) (8 : Int))))))), ())
 else
   none
 else
   none
 else if (decide (0 ≤ (IntKind.u8.wrap (shrI .u64 (shrI .u64 x.1 (32 : Int)) (16 : Int))) ∧ (IntKind.u8.wrap (shrI .u64 (shrI .u64 x.1 (32 : Int)) (16 : Int))) < (ByteArray.size (⟨#[0, 1, 2, 2, 3, 3, 3, 3, 4, 4, 4, 4, 4, 4, 4, 4, 5, 5, 5, 5, 5, 5, 5, 5, 5, 5, 5, 5, 5, 5, 5, 5, 6, 6, 6, 6, 6, 6, 6, 6, 6, 6, 6, 6, 6, 6, 6, 6, 6, 6, 6, 6, 6, 6, 6, 6, 6, 6, 6, 6, 6, 6, 6, 6, 7, 7, 7, 7, 7, 7, 7, 7, 7, 7, 7, 7, 7, 7, 7, 7, 7, 7, 7, 7, 7, 7, 7, 7, 7, 7, 7, 7, 7, 7, 7, 7, 7, 7, 7, 7, 7, 7, 7, 7, 7, 7, 7, 7, 7, 7, 7, 7, 7, 7, 7, 7, 7, 7, 7, 7, 7, 7, 7, 7, 7, 7, 7, 7, 8, 8, 8, 8, 8, 8, 8, 8, 8, 8, 8, 8, 8, 8, 8, 8, 8, 8, 8, 8, 8, 8, 8, 8, 8, 8, 8, 8, 8, 8, 8, 8, 8, 8, 8, 8, 8, 8, 8, 8, 8, 8, 8, 8, 8, 8, 8, 8, 8, 8, 8, 8, 8, 8, 8, 8, 8, 8, 8, 8, 8, 8, 8, 8, 8, 8, 8, 8, 8, 8, 8, 8, 8, 8, 8, 8, 8, 8, 8, 8, 8, 8, 8, 8, 8, 8, 8, 8, 8, 8, 8, 8, 8, 8, 8, 8, 8, 8, 8, 8, 8, 8, 8, 8, 8, 8, 8, 8, 8, 8, 8, 8, 8, 8, 8, 8, 8, 8, 8, 8, 8, 8, 8, 8, 8, 8, 8, 8]⟩ : ByteArray) : Int))) = true then
   some ((IntKind.i64.wrap ((IntKind.i64.wrap ((32 : Int) + (16 : Int))) + (IntKind.i64.wrap (byteAt (⟨#[0, 1, 2, 2, 3, 3, 3, 3, 4, 4, 4, 4, 4, 4, 4, 4, 5, 5, 5, 5, 5, 5, 5, 5, 5, 5, 5, 5, 5, 5, 5, 5, 6, 6, 6, 6, 6, 6, 6, 6, 6, 6, 6, 6, 6, 6, 6, 6, 6, 6, 6, 6, 6, 6, 6, 6, 6, 6, 6, 6, 6, 6, 6, 6, 7, 7, 7, 7, 7, 7, 7, 7, 7, 7, 7, 7, 7, 7, 7, 7, 7, 7, 7, 7, 7, 7, 7, 7, 7, 7, 7, 7, 7, 7, 7, 7, 7, 7, 7, 7, 7, 7, 7, 7, 7, 7, 7, 7, 7, 7, 7, 7, 7, 7, 7, 7, 7, 7, 7, 7, 7, 7, 7, 7, 7, 7, 7, 7, 8, 8, 8, 8, 8, 8, 8, 8, 8, 8, 8, 8, 8, 8, 8, 8, 8, 8, 8, 8, 8, 8, 8, 8, 8, 8, 8, 8, 8, 8, 8, 8, 8, 8, 8, 8, 8, 8, 8, 8, 8, 8, 8, 8, 8, 8, 8, 8, 8, 8, 8, 8, 8, 8, 8, 8, 8, 8, 8, 8, 8, 8, 8, 8, 8, 8, 8, 8, 8, 8, 8, 8, 8, 8, 8, 8, 8, 8, 8, 8, 8, 8, 8, 8, 8, 8, 8, 8, 8, 8, 8, 8, 8, 8, 8, 8, 8, 8, 8, 8, 8, 8, 8, 8, 8, 8, 8, 8, 8, 8, 8, 8, 8, 8, 8, 8, 8, 8, 8, 8, 8, 8, 8, 8, 8, 8, 8, 8]⟩ : ByteArray) (IntKind.u8.wrap (shrI .u64 (shrI .u64 x.1 (32 : Int)) (16 : Int))))))), ())
 else
   none
 else
   none
 else if (decide ((shrI .u64 x.1 (32 : Int)) ≥ (256 : Int))) = true then
 if (decide (0 ≤ (8 : Int))) = true then
   if (decide (0 ≤ (IntKind.u8.wrap (shrI .u64 (shrI .u64 x.1 (32 : Int)) (8 : Int))) ∧ (IntKind.u8.wrap (shrI .u64 (shrI .u64 x.1 (32 : Int)) (8 : Int))) < (ByteArray.size (⟨#[0, 1, 2, 2, 3, 3, 3, 3, 4, 4, 4, 4, 4, 4, 4, 4, 5, 5, 5, 5, 5, 5, 5, 5, 5, 5, 5, 5, 5, 5, 5, 5, 6, 6, 6, 6, 6, 6, 6, 6, 6, 6, 6, 6, 6, 6, 6, 6, 6, 6, 6, 6, 6, 6, 6, 6, 6, 6, 6, 6, 6, 6, 6, 6, 7, 7, 7, 7, 7, 7, 7, 7, 7, 7, 7, 7, 7, 7, 7, 7, 7, 7, 7, 7, 7, 7, 7, 7, 7, 7, 7, 7, 7, 7, 7, 7, 7, 7, 7, 7, 7, 7, 7, 7, 7, 7, 7, 7, 7, 7, 7, 7, 7, 7, 7, 7, 7, 7, 7, 7, 7, 7, 7, 7, 7, 7, 7, 7, 8, 8, 8, 8, 8, 8, 8, 8, 8, 8, 8, 8, 8, 8, 8, 8, 8, 8, 8, 8, 8, 8, 8, 8, 8, 8, 8, 8, 8, 8, 8, 8, 8, 8, 8, 8, 8, 8, 8, 8, 8, 8, 8, 8, 8, 8, 8, 8, 8, 8, 8, 8, 8, 8, 8, 8, 8, 8, 8, 8, 8, 8, 8, 8, 8, 8, 8, 8, 8, 8, 8, 8, 8, 8, 8, 8, 8, 8, 8, 8, 8, 8, 8, 8, 8, 8, 8, 8, 8, 8, 8, 8, 8, 8, 8, 8, 8, 8, 8, 8, 8, 8, 8, 8, 8, 8, 8, 8, 8, 8, 8, 8, 8, 8, 8, 8, 8, 8, 8, 8, 8, 8, 8, 8, 8, 8, 8, 8]⟩ : ByteArray) : Int))) = true then
   some ((IntKind.i64.wrap ((IntKind.i64.wrap ((32 : Int) + (8 : Int))) + (IntKind.i64.wrap (byteAt (⟨#[0, 1, 2, 2, 3, 3, 3, 3, 4, 4, 4, 4, 4, 4, 4, 4, 5, 5, 5, 5, 5, 5, 5, 5, 5, 5, 5, 5, 5, 5, 5, 5, 6, 6, 6, 6, 6, 6, 6, 6, 6, 6, 6, 6, 6, 6, 6, 6, 6, 6, 6, 6, 6, 6, 6, 6, 6, 6, 6, 6, 6, 6, 6, 6, 7, 7, 7, 7, 7, 7, 7, 7, 7, 7, 7, 7, 7, 7, 7, 7, 7, 7, 7, 7, 7, 7, 7, 7, 7, 7, 7, 7, 7, 7, 7, 7, 7, 7, 7, 7, 7, 7, 7, 7, 7, 7, 7, 7, 7, 7, 7, 7, 7, 7, 7, 7, 7, 7, 7, 7, 7, 7, 7, 7, 7, 7, 7, 7, 8, 8, 8, 8, 8, 8, 8, 8, 8, 8, 8, 8, 8, 8, 8, 8, 8, 8, 8, 8, 8, 8, 8, 8, 8, 8, 8, 8, 8, 8, 8, 8, 8, 8, 8, 8, 8, 8, 8, 8, 8, 8, 8, 8, 8, 8, 8, 8, 8, 8, 8, 8, 8, 8, 8, 8, 8, 8, 8, 8, 8, 8, 8, 8, 8, 8, 8, 8, 8, 8, 8, 8, 8, 8, 8, 8, 8, 8, 8, 8, 8, 8, 8, 8, 8, 8, 8, 8, 8, 8, 8, 8, 8, 8, 8, 8, 8, 8, 8, 8, 8, 8, 8, 8, 8, 8, 8, 8, 8, 8, 8, 8, 8, 8, 8, 8, 8, 8, 8, 8, 8, 8, 8, 8, 8, 8, 8, 8]⟩ : ByteArray) (IntKind.u8.wrap (shrI .u64 (shrI .u64 x.1 (32 : Int)) (8 : Int))))))), ())
 else
   none
 else
   none
 else if (decide (0 ≤ (IntKind.u8.wrap (shrI .u64 x.1 (32 : Int))) ∧ (IntKind.u8.wrap (shrI .u64 x.1 (32 : Int))) < (ByteArray.size (⟨#[0, 1, 2, 2, 3, 3, 3, 3, 4, 4, 4, 4, 4, 4, 4, 4, 5, 5, 5, 5, 5, 5, 5, 5, 5, 5, 5, 5, 5, 5, 5, 5, 6, 6, 6, 6, 6, 6, 6, 6, 6, 6, 6, 6, 6, 6, 6, 6, 6, 6, 6, 6, 6, 6, 6, 6, 6, 6, 6, 6, 6, 6, 6, 6, 7, 7, 7, 7, 7, 7, 7, 7, 7, 7, 7, 7, 7, 7, 7, 7, 7, 7, 7, 7, 7, 7, 7, 7, 7, 7, 7, 7, 7, 7, 7, 7, 7, 7, 7, 7, 7, 7, 7, 7, 7, 7, 7, 7, 7, 7, 7, 7, 7, 7, 7, 7, 7, 7, 7, 7, 7, 7, 7, 7, 7, 7, 7, 7, 8, 8, 8, 8, 8, 8, 8, 8, 8, 8, 8, 8, 8, 8, 8, 8, 8, 8, 8, 8, 8, 8, 8, 8, 8, 8, 8, 8, 8, 8, 8, 8, 8, 8, 8, 8, 8, 8, 8, 8, 8, 8, 8, 8, 8, 8, 8, 8, 8, 8, 8, 8, 8, 8, 8, 8, 8, 8, 8, 8, 8, 8, 8, 8, 8, 8, 8, 8, 8, 8, 8, 8, 8, 8, 8, 8, 8, 8, 8, 8, 8, 8, 8, 8, 8, 8, 8, 8, 8, 8, 8, 8, 8, 8, 8, 8, 8, 8, 8, 8, 8, 8, 8, 8, 8, 8, 8, 8, 8, 8, 8, 8, 8, 8, 8, 8, 8, 8, 8, 8, 8, 8, 8, 8, 8, 8, 8, 8]⟩ : ByteArray) : Int))) = true then
   some ((IntKind.i64.wrap ((32 : Int) + (IntKind.i64.wrap (byteAt (⟨#[0, 1, 2, 2, 3, 3, 3, 3, 4, 4, 4, 4, 4, 4, 4, 4, 5, 5, 5, 5, 5, 5, 5, 5, 5, 5, 5, 5, 5, 5, 5, 5, 6, 6, 6, 6, 6, 6, 6, 6, 6, 6, 6, 6, 6, 6, 6, 6, 6, 6, 6, 6, 6, 6, 6, 6, 6, 6, 6, 6, 6, 6, 6, 6, 7, 7, 7, 7, 7, 7, 7, 7, 7, 7, 7, 7, 7, 7, 7, 7, 7, 7, 7, 7, 7, 7, 7, 7, 7, 7, 7, 7, 7, 7, 7, 7, 7, 7, 7, 7, 7, 7, 7, 7, 7, 7, 7, 7, 7, 7, 7, 7, 7, 7, 7, 7, 7, 7, 7, 7, 7, 7, 7, 7, 7, 7, 7, 7, 8, 8, 8, 8, 8, 8, 8, 8, 8, 8, 8, 8, 8, 8, 8, 8, 8, 8, 8, 8, 8, 8, 8, 8, 8, 8, 8, 8, 8, 8, 8, 8, 8, 8, 8, 8, 8, 8, 8, 8, 8, 8, 8, 8, 8, 8, 8, 8, 8, 8, 8, 8, 8, 8, 8, 8, 8, 8, 8, 8, 8, 8, 8, 8, 8, 8, 8, 8, 8, 8, 8, 8, 8, 8, 8, 8, 8, 8, 8, 8, 8, 8, 8, 8, 8, 8, 8, 8, 8, 8, 8, 8, 8, 8, 8, 8, 8, 8, 8, 8, 8, 8, 8, 8, 8, 8, 8, 8, 8, 8, 8, 8, 8, 8, 8, 8, 8, 8, 8, 8, 8, 8, 8, 8, 8, 8, 8, 8]⟩ : ByteArray) (IntKind.u8.wrap (shrI .u64 x.1 (32 : Int))))))), ())
 else
   none
 else
   none
 else if (decide (x.1 ≥ (65536 : Int))) = true then
 if (decide (0 ≤ (16 : Int))) = true then
   if (decide ((shrI .u64 x.1 (16 : Int)) ≥ (256 : Int))) = true then
 if (decide (0 ≤ (8 : Int))) = true then
   if (decide (0 ≤ (IntKind.u8.wrap (shrI .u64 (shrI .u64 x.1 (16 : Int)) (8 : Int))) ∧ (IntKind.u8.wrap (shrI .u64 (shrI .u64 x.1 (16 : Int)) (8 : Int))) < (ByteArray.size (⟨#[0, 1, 2, 2, 3, 3, 3, 3, 4, 4, 4, 4, 4, 4, 4, 4, 5, 5, 5, 5, 5, 5, 5, 5, 5, 5, 5, 5, 5, 5, 5, 5, 6, 6, 6, 6, 6, 6, 6, 6, 6, 6, 6, 6, 6, 6, 6, 6, 6, 6, 6, 6, 6, 6, 6, 6, 6, 6, 6, 6, 6, 6, 6, 6, 7, 7, 7, 7, 7, 7, 7, 7, 7, 7, 7, 7, 7, 7, 7, 7, 7, 7, 7, 7, 7, 7, 7, 7, 7, 7, 7, 7, 7, 7, 7, 7, 7, 7, 7, 7, 7, 7, 7, 7, 7, 7, 7, 7, 7, 7, 7, 7, 7, 7, 7, 7, 7, 7, 7, 7, 7, 7, 7, 7, 7, 7, 7, 7, 8, 8, 8, 8, 8, 8, 8, 8, 8, 8, 8, 8, 8, 8, 8, 8, 8, 8, 8, 8, 8, 8, 8, 8, 8, 8, 8, 8, 8, 8, 8, 8, 8, 8, 8, 8, 8, 8, 8, 8, 8, 8, 8, 8, 8, 8, 8, 8, 8, 8, 8, 8, 8, 8, 8, 8, 8, 8, 8, 8, 8, 8, 8, 8, 8, 8, 8, 8, 8, 8, 8, 8, 8, 8, 8, 8, 8, 8, 8, 8, 8, 8, 8, 8, 8, 8, 8, 8, 8, 8, 8, 8, 8, 8, 8, 8, 8, 8, 8, 8, 8, 8, 8, 8, 8, 8, 8, 8, 8, 8, 8, 8, 8, 8, 8, 8, 8, 8, 8, 8, 8, 8, 8, 8, 8, 8, 8, 8]⟩ : ByteArray) : Int))) = true then
   some ((IntKind.i64.wrap ((IntKind.i64.wrap ((IntKind.i64.wrap ((0 : Int) + (16 : Int))) + (8 : Int))) + (IntKind.i64.wrap (byteAt (⟨#[0, 1, 2, 2, 3, 3, 3, 3, 4, 4, 4, 4, 4, 4, 4, 4, 5, 5, 5, 5, 5, 5, 5, 5, 5, 5, 5, 5, 5, 5, 5, 5, 6, 6, 6, 6, 6, 6, 6, 6, 6, 6, 6, 6, 6, 6, 6, 6, 6, 6, 6, 6, 6, 6, 6, 6, 6, 6, 6, 6, 6, 6, 6, 6, 7, 7, 7, 7, 7, 7, 7, 7, 7, 7, 7, 7, 7, 7, 7, 7, 7, 7, 7, 7, 7, 7, 7, 7, 7, 7, 7, 7, 7, 7, 7, 7, 7, 7, 7, 7, 7, 7, 7, 7, 7, 7, 7, 7, 7, 7, 7, 7, 7, 7, 7, 7, 7, 7, 7, 7, 7, 7, 7, 7, 7, 7, 7, 7, 8, 8, 8, 8, 8, 8, 8, 8, 8, 8, 8, 8, 8, 8, 8, 8, 8, 8, 8, 8, 8, 8, 8, 8, 8, 8, 8, 8, 8, 8, 8, 8, 8, 8, 8, 8, 8, 8, 8, 8, 8, 8, 8, 8, 8, 8, 8, 8, 8, 8, 8, 8, 8, 8, 8, 8, 8, 8, 8, 8, 8, 8, 8, 8, 8, 8, 8, 8, 8, 8, 8, 8, 8, 8, 8, 8, 8, 8, 8, 8, 8, 8, 8, 8, 8, 8, 8, 8, 8, 8, 8, 8, 8, 8, 8, 8, 8, 8, 8, 8, 8, 8, 8, 8, 8, 8, 8, 8, 8, 8, 8, 8, 8, 8, 8, 8, 8, 8, 8, 8, 8, 8, 8, 8, 8, 8, 8, 8]⟩ : ByteArray) (IntKind.u8.wrap (shrI .u64 (shrI .u64 x.1 (16 : Int)) (8 : Int))))))), ())
 else
   none
 else
   none
 else if (decide (0 ≤ (IntKind.u8.wrap (shrI .u64 x.1 (16 : Int))) ∧ (IntKind.u8.wrap (shrI .u64 x.1 (16 : Int))) < (ByteArray.size (⟨#[0, 1, 2, 2, 3, 3, 3, 3, 4, 4, 4, 4, 4, 4, 4, 4, 5, 5, 5, 5, 5, 5, 5, 5, 5, 5, 5, 5, 5, 5, 5, 5, 6, 6, 6, 6, 6, 6, 6, 6, 6, 6, 6, 6, 6, 6, 6, 6, 6, 6, 6, 6, 6, 6, 6, 6, 6, 6, 6, 6, 6, 6, 6, 6, 7, 7, 7, 7, 7, 7, 7, 7, 7, 7, 7, 7, 7, 7, 7, 7, 7, 7, 7, 7, 7, 7, 7, 7, 7, 7, 7, 7, 7, 7, 7, 7, 7, 7, 7, 7, 7, 7, 7, 7, 7, 7, 7, 7, 7, 7, 7, 7, 7, 7, 7, 7, 7, 7, 7, 7, 7, 7, 7, 7, 7, 7, 7, 7, 8, 8, 8, 8, 8, 8, 8, 8, 8, 8, 8, 8, 8, 8, 8, 8, 8, 8, 8, 8, 8, 8, 8, 8, 8, 8, 8, 8, 8, 8, 8, 8, 8, 8, 8, 8, 8, 8, 8, 8, 8, 8, 8, 8, 8, 8, 8, 8, 8, 8, 8, 8, 8, 8, 8, 8, 8, 8, 8, 8, 8, 8, 8, 8, 8, 8, 8, 8, 8, 8, 8, 8, 8, 8, 8, 8, 8, 8, 8, 8, 8, 8, 8, 8, 8, 8, 8, 8, 8, 8, 8, 8, 8, 8, 8, 8, 8, 8, 8, 8, 8, 8, 8, 8, 8, 8, 8, 8, 8, 8, 8, 8, 8, 8, 8, 8, 8, 8, 8, 8, 8, 8, 8, 8, 8, 8, 8, 8]⟩ : ByteArray) : Int))) = true then
   some ((IntKind.i64.wrap ((IntKind.i64.wrap ((0 : Int) + (16 : Int))) + (IntKind.i64.wrap (byteAt (⟨#[0, 1, 2, 2, 3, 3, 3, 3, 4, 4, 4, 4, 4, 4, 4, 4, 5, 5, 5, 5, 5, 5, 5, 5, 5, 5, 5, 5, 5, 5, 5, 5, 6, 6, 6, 6, 6, 6, 6, 6, 6, 6, 6, 6, 6, 6, 6, 6, 6, 6, 6, 6, 6, 6, 6, 6, 6, 6, 6, 6, 6, 6, 6, 6, 7, 7, 7, 7, 7, 7, 7, 7, 7, 7, 7, 7, 7, 7, 7, 7, 7, 7, 7, 7, 7, 7, 7, 7, 7, 7, 7, 7, 7, 7, 7, 7, 7, 7, 7, 7, 7, 7, 7, 7, 7, 7, 7, 7, 7, 7, 7, 7, 7, 7, 7, 7, 7, 7, 7, 7, 7, 7, 7, 7, 7, 7, 7, 7, 8, 8, 8, 8, 8, 8, 8, 8, 8, 8, 8, 8, 8, 8, 8, 8, 8, 8, 8, 8, 8, 8, 8, 8, 8, 8, 8, 8, 8, 8, 8, 8, 8, 8, 8, 8, 8, 8, 8, 8, 8, 8, 8, 8, 8, 8, 8, 8, 8, 8, 8, 8, 8, 8, 8, 8, 8, 8, 8, 8, 8, 8, 8, 8, 8, 8, 8, 8, 8, 8, 8, 8, 8, 8, 8, 8, 8, 8, 8, 8, 8, 8, 8, 8, 8, 8, 8, 8, 8, 8, 8, 8, 8, 8, 8, 8, 8, 8, 8, 8, 8, 8, 8, 8, 8, 8, 8, 8, 8, 8, 8, 8, 8, 8, 8, 8, 8, 8, 8, 8, 8, 8, 8, 8, 8, 8, 8, 8]⟩ : ByteArray) (IntKind.u8.wrap (shrI .u64 x.1 (16 : Int))))))), ())
 else
   none
 else
   none
 else if (decide (x.1 ≥ (256 : Int))) = true then
 if (decide (0 ≤ (8 : Int))) = true then
   if (decide (0 ≤ (IntKind.u8.wrap (shrI .u64 x.1 (8 : Int))) ∧ (IntKind.u8.wrap (shrI .u64 x.1 (8 : Int))) < (ByteArray.size (⟨#[0, 1, 2, 2, 3, 3, 3, 3, 4, 4, 4, 4, 4, 4, 4, 4, 5, 5, 5, 5, 5, 5, 5, 5, 5, 5, 5, 5, 5, 5, 5, 5, 6, 6, 6, 6, 6, 6, 6, 6, 6, 6, 6, 6, 6, 6, 6, 6, 6, 6, 6, 6, 6, 6, 6, 6, 6, 6, 6, 6, 6, 6, 6, 6, 7, 7, 7, 7, 7, 7, 7, 7, 7, 7, 7, 7, 7, 7, 7, 7, 7, 7, 7, 7, 7, 7, 7, 7, 7, 7, 7, 7, 7, 7, 7, 7, 7, 7, 7, 7, 7, 7, 7, 7, 7, 7, 7, 7, 7, 7, 7, 7, 7, 7, 7, 7, 7, 7, 7, 7, 7, 7, 7, 7, 7, 7, 7, 7, 8, 8, 8, 8, 8, 8, 8, 8, 8, 8, 8, 8, 8, 8, 8, 8, 8, 8, 8, 8, 8, 8, 8, 8, 8, 8, 8, 8, 8, 8, 8, 8, 8, 8, 8, 8, 8, 8, 8, 8, 8, 8, 8, 8, 8, 8, 8, 8, 8, 8, 8, 8, 8, 8, 8, 8, 8, 8, 8, 8, 8, 8, 8, 8, 8, 8, 8, 8, 8, 8, 8, 8, 8, 8, 8, 8, 8, 8, 8, 8, 8, 8, 8, 8, 8, 8, 8, 8, 8, 8, 8, 8, 8, 8, 8, 8, 8, 8, 8, 8, 8, 8, 8, 8, 8, 8, 8, 8, 8, 8, 8, 8, 8, 8, 8, 8, 8, 8, 8, 8, 8, 8, 8, 8, 8, 8, 8, 8]⟩ : ByteArray) : Int))) = true then
   some ((IntKind.i64.wrap ((IntKind.i64.wrap ((0 : Int) + (8 : Int))) + (IntKind.i64.wrap (byteAt (⟨#[0, 1, 2, 2, 3, 3, 3, 3, 4, 4, 4, 4, 4, 4, 4, 4, 5, 5, 5, 5, 5, 5, 5, 5, 5, 5, 5, 5, 5, 5, 5, 5, 6, 6, 6, 6, 6, 6, 6, 6, 6, 6, 6, 6, 6, 6, 6, 6, 6, 6, 6, 6, 6, 6, 6, 6, 6, 6, 6, 6, 6, 6, 6, 6, 7, 7, 7, 7, 7, 7, 7, 7, 7, 7, 7, 7, 7, 7, 7, 7, 7, 7, 7, 7, 7, 7, 7, 7, 7, 7, 7, 7, 7, 7, 7, 7, 7, 7, 7, 7, 7, 7, 7, 7, 7, 7, 7, 7, 7, 7, 7, 7, 7, 7, 7, 7, 7, 7, 7, 7, 7, 7, 7, 7, 7, 7, 7, 7, 8, 8, 8, 8, 8, 8, 8, 8, 8, 8, 8, 8, 8, 8, 8, 8, 8, 8, 8, 8, 8, 8, 8, 8, 8, 8, 8, 8, 8, 8, 8, 8, 8, 8, 8, 8, 8, 8, 8, 8, 8, 8, 8, 8, 8, 8, 8, 8, 8, 8, 8, 8, 8, 8, 8, 8, 8, 8, 8, 8, 8, 8, 8, 8, 8, 8, 8, 8, 8, 8, 8, 8, 8, 8, 8, 8, 8, 8, 8, 8, 8, 8, 8, 8, 8, 8, 8, 8, 8, 8, 8, 8, 8, 8, 8, 8, 8, 8, 8, 8, 8, 8, 8, 8, 8, 8, 8, 8, 8, 8, 8, 8, 8, 8, 8, 8, 8, 8, 8, 8, 8, 8, 8, 8, 8, 8, 8, 8]⟩ : ByteArray) (IntKind.u8.wrap (shrI .u64 x.1 (8 : Int))))))), ())
 else
   none
 else
   none
 else if (decide (0 ≤ (IntKind.u8.wrap x.1) ∧ (IntKind.u8.wrap x.1) < (ByteArray.size (⟨#[0, 1, 2, 2, 3, 3, 3, 3, 4, 4, 4, 4, 4, 4, 4, 4, 5, 5, 5, 5, 5, 5, 5, 5, 5, 5, 5, 5, 5, 5, 5, 5, 6, 6, 6, 6, 6, 6, 6, 6, 6, 6, 6, 6, 6, 6, 6, 6, 6, 6, 6, 6, 6, 6, 6, 6, 6, 6, 6, 6, 6, 6, 6, 6, 7, 7, 7, 7, 7, 7, 7, 7, 7, 7, 7, 7, 7, 7, 7, 7, 7, 7, 7, 7, 7, 7, 7, 7, 7, 7, 7, 7, 7, 7, 7, 7, 7, 7, 7, 7, 7, 7, 7, 7, 7, 7, 7, 7, 7, 7, 7, 7, 7, 7, 7, 7, 7, 7, 7, 7, 7, 7, 7, 7, 7, 7, 7, 7, 8, 8, 8, 8, 8, 8, 8, 8, 8, 8, 8, 8, 8, 8, 8, 8, 8, 8, 8, 8, 8, 8, 8, 8, 8, 8, 8, 8, 8, 8, 8, 8, 8, 8, 8, 8, 8, 8, 8, 8, 8, 8, 8, 8, 8, 8, 8, 8, 8, 8, 8, 8, 8, 8, 8, 8, 8, 8, 8, 8, 8, 8, 8, 8, 8, 8, 8, 8, 8, 8, 8, 8, 8, 8, 8, 8, 8, 8, 8, 8, 8, 8, 8, 8, 8, 8, 8, 8, 8, 8, 8, 8, 8, 8, 8, 8, 8, 8, 8, 8, 8, 8, 8, 8, 8, 8, 8, 8, 8, 8, 8, 8, 8, 8, 8, 8, 8, 8, 8, 8, 8, 8, 8, 8, 8, 8, 8, 8]⟩ : ByteArray) : Int))) = true then
   some ((IntKind.i64.wrap ((0 : Int) + (IntKind.i64.wrap (byteAt (⟨#[0, 1, 2, 2, 3, 3, 3, 3, 4, 4, 4, 4, 4, 4, 4, 4, 5, 5, 5, 5, 5, 5, 5, 5, 5, 5, 5, 5, 5, 5, 5, 5, 6, 6, 6, 6, 6, 6, 6, 6, 6, 6, 6, 6, 6, 6, 6, 6, 6, 6, 6, 6, 6, 6, 6, 6, 6, 6, 6, 6, 6, 6, 6, 6, 7, 7, 7, 7, 7, 7, 7, 7, 7, 7, 7, 7, 7, 7, 7, 7, 7, 7, 7, 7, 7, 7, 7, 7, 7, 7, 7, 7, 7, 7, 7, 7, 7, 7, 7, 7, 7, 7, 7, 7, 7, 7, 7, 7, 7, 7, 7, 7, 7, 7, 7, 7, 7, 7, 7, 7, 7, 7, 7, 7, 7, 7, 7, 7, 8, 8, 8, 8, 8, 8, 8, 8, 8, 8, 8, 8, 8, 8, 8, 8, 8, 8, 8, 8, 8, 8, 8, 8, 8, 8, 8, 8, 8, 8, 8, 8, 8, 8, 8, 8, 8, 8, 8, 8, 8, 8, 8, 8, 8, 8, 8, 8, 8, 8, 8, 8, 8, 8, 8, 8, 8, 8, 8, 8, 8, 8, 8, 8, 8, 8, 8, 8, 8, 8, 8, 8, 8, 8, 8, 8, 8, 8, 8, 8, 8, 8, 8, 8, 8, 8, 8, 8, 8, 8, 8, 8, 8, 8, 8, 8, 8, 8, 8, 8, 8, 8, 8, 8, 8, 8, 8, 8, 8, 8, 8, 8, 8, 8, 8, 8, 8, 8, 8, 8, 8, 8, 8, 8, 8, 8, 8, 8]⟩ : ByteArray) (IntKind.u8.wrap x.1))))), ())
 else
   none
@[reducible] def sig (n : Nat) : Sig := ⟨[(.int .u64)], [(.int .i64)], false, f n, none, none⟩
def T (n : Nat) : FuncId → Option Sig := fun g => none
def TL (n : Nat) : Loops := fun j _ st k => none
theorem con (n : Nat) : Con Tryd.prog 42 (sig n) :=
  con_print (hsw := rfl) (hsx := rfl) (T := T n) (TL := TL n) (c := Tryd.f42.body.getD .skip) (js := []) hMixed conT_none Tryd.func42 (by decide) (by kernel_rfl) (by kernel_rfl) (by decide) LoopDef.nil (fun x => by kernel_rfl)
end bits_Len64
namespace strconv_log10Pow2
def f (n : Nat) (x : Tup [(.int .i64)]) : Option (Tup [(.int .i64)]) :=
  if (decide (0 ≤ (18 : Int))) = true then
   some ((shrI .i64 (IntKind.i64.wrap (x.1 * (78913 : Int))) (18 : Int)), ())
 else
   none
@[reducible] def sig (n : Nat) : Sig := ⟨[(.int .i64)], [(.int .i64)], false, f n, none, none⟩
def T (n : Nat) : FuncId → Option Sig := fun g => none
def TL (n : Nat) : Loops := fun j _ st k => none
theorem con (n : Nat) : Con Tryd.prog 41 (sig n) :=
  con_print (hsw := rfl) (hsx := rfl) (T := T n) (TL := TL n) (c := Tryd.f41.body.getD .skip) (js := []) hMixed conT_none Tryd.func41 (by decide) (by kernel_rfl) (by kernel_rfl) (by decide) LoopDef.nil (fun x => by kernel_rfl)
end strconv_log10Pow2
namespace strconv_bool2_int
def f (n : Nat) (x : Tup [.bool]) : Option (Tup [(.int .i64)]) :=
  if x.1 = true then
   some ((1 : Int), ())
 else
   some ((0 : Int), ())
@[reducible] def sig (n : Nat) : Sig := ⟨[.bool], [(.int .i64)], false, f n, none, none⟩
def T (n : Nat) : FuncId → Option Sig := fun g => none
def TL (n : Nat) : Loops := fun j _ st k => none
theorem con (n : Nat) : Con Tryd.prog 43 (sig n) :=
  con_print (hsw := rfl) (hsx := rfl) (T := T n) (TL := TL n) (c := Tryd.f43.body.getD .skip) (js := []) hMixed conT_none Tryd.func43 (by decide) (by kernel_rfl) (by kernel_rfl) (by decide) LoopDef.nil (fun x => by kernel_rfl)
end strconv_bool2_int
namespace strconv_isPowerOfTwo
def f (n : Nat) (x : Tup [(.int .i64)]) : Option (Tup [.bool]) :=
  some (((bitsI .and .i64 x.1 (IntKind.i64.wrap (x.1 - (1 : Int)))) == (0 : Int)), ())
@[reducible] def sig (n : Nat) : Sig := ⟨[(.int .i64)], [.bool], false, f n, none, none⟩
def T (n : Nat) : FuncId → Option Sig := fun g => none
def TL (n : Nat) : Loops := fun j _ st k => none
theorem con (n : Nat) : Con Tryd.prog 44 (sig n) :=
  con_print (hsw := rfl) (hsx := rfl) (T := T n) (TL := TL n) (c := Tryd.f44.body.getD .skip) (js := []) hMixed conT_none Tryd.func44 (by decide) (by kernel_rfl) (by kernel_rfl) (by decide) LoopDef.nil (fun x => by kernel_rfl)
end strconv_isPowerOfTwo
namespace impl_HallService_1
def f (n : Nat) (x : Tup [(.int .i64), (.ptr tGateObject)]) : Option (Tup [(.int .i64)]) :=
  match x.2.1 with
  | none => none
  | some o => if decide (0 ≤ x.1 ∧ x.1 < (List.length o.2.2.2.1 : Int)) = true then
      (impl_hwIsDecimal.f n (List.getD o.2.2.2.1 (Int.toNat x.1) ⟨#[]⟩, ())).bind fun r => if r.1 = true then
        (match Go.Lib.atoiAll (List.getD o.2.2.2.1 (Int.toNat x.1) (⟨#[]⟩ : ByteArray)).data.toList with
        | .ok v => if decide (ByteArray.size (List.getD o.2.2.2.1 (Int.toNat x.1) ⟨#[]⟩) ≤ 7) = true then some (v, ()) else none
        | _ => none) else some (0, ())
    else none
@[reducible] def sig (n : Nat) : Sig := ⟨[(.int .i64), (.ptr tGateObject)], [(.int .i64)], false, f n, none, none⟩
open Go Go.RowKit Go.Shelf in
shelf_lay LaysC.n172 Nm 172 at Tryd as laysAtoi
section
open Go Go.RowKit Go.Shelf
theorem atoi_ok (s : ByteArray) (hmax : s.size ≤ 9223372036854775806) (v : Int) (h : Lib.atoiAll s.data.toList = .ok v) (w : World) :
    Calls Tryd.prog 20 #[.string s] w fun e w' => e = .returned (.tuple #[.int .i64 v, .nilIface]) ∧ Below w.heap.size w w' :=
  (Any.strconv_Atoi_ok laysAtoi s hmax v h w).mono fun e w' ⟨h1, h2⟩ => ⟨h1, by
    rcases h2 with rfl | ⟨t, rfl⟩
    · exact Below.refl _ _
    · exact Lib.bytesWorld_below _ _ _⟩
theorem hwDec_calls {s : ByteArray} {b : Bool} {n : Int} {w : World} {te : TypeId} {pe : Value}
    (hD : Calls Tryd.prog 19 #[.string s] w fun e w2 => e = .returned (.bool b) ∧ Below w.heap.size w w2)
    (hA : b = true → ∀ w2 : World, Calls Tryd.prog 20 #[.string s] w2 fun e w3 => e = .returned (.tuple #[.int .i64 n, .nilIface]) ∧ Below w2.heap.size w2 w3)
    (hg : w.cell? ⟨0, 0, none⟩ = some (.iface te pe)) (h0 : 0 < w.heap.size) :
    Calls Tryd.prog 16 #[.string s] w fun e w' => e = .returned (.tuple #[.int .i64 (if b = true then n else 0), if b = true then .nilIface else .iface te pe]) ∧ Below w.heap.size w w' := by
  go_enter Tryd.func16, Tryd.ntmps16
  go_wp2_with fail
  refine hD.mono fun e w1 ⟨he, hb⟩ => ?_
  subst he
  cases b with
  | true =>
    go_wp2_with fail
    refine (hA (by simp) w1).mono fun e w2 ⟨he, hb2⟩ => ?_
    subst he
    go_wp2
    go_returns
    exact ⟨by simp, hb.trans (hb2.mono hb.size)⟩
  | false =>
    have hg1 : w1.cell? ⟨0, 0, none⟩ = some (.iface te pe) := by
      unfold World.cell? at hg ⊢
      rw [hb.block 0 h0]; exact hg
    go_wp2
    go_region
    all_goals (go_wp2; go_returns; exact ⟨by simp, hb.drew⟩)
theorem number_calls {s : ByteArray} {b : Bool} {n : Int} {w : World} {te : TypeId} {pe : Value} {B O : Nat} {A : Addr} {at_ : Int} {m c : Nat}
    (hD : Calls Tryd.prog 19 #[.string s] w fun e w2 => e = .returned (.bool b) ∧ Below w.heap.size w w2)
    (hA : b = true → ∀ w2 : World, Calls Tryd.prog 20 #[.string s] w2 fun e w3 => e = .returned (.tuple #[.int .i64 n, .nilIface]) ∧ Below w2.heap.size w2 w3)
    (hg : w.cell? ⟨0, 0, none⟩ = some (.iface te pe)) (h0 : 0 < w.heap.size)
    (h1 : w.cell? ⟨B, O + 3, none⟩ = some (.slice (some A) m c)) (hat : 0 ≤ at_) (hlt : at_ < m) (h2 : w.cell? (A.add at_.toNat) = some (.string s)) :
    Calls Tryd.prog 15 #[.int .i64 at_, .pointer (some ⟨B, O, none⟩)] w fun e w' => e = .returned (.int .i64 (if b = true then n else 0)) ∧ Below w.heap.size w w' := by
  go_enter Tryd.func15, Tryd.ntmps15
  go_wp2_with fail
  refine (hwDec_calls hD hA hg h0).mono fun e w1 ⟨he, hb⟩ => ?_
  subst he
  cases b with
  | true =>
    simp only [if_true]
    go_wp2
    go_returns
    exact ⟨rfl, hb⟩
  | false =>
    simp only [Bool.false_eq_true, if_false]
    go_wp2
    go_returns
    exact ⟨rfl, hb⟩
end
theorem con (n : Nat) : Con Tryd.prog 15 (sig n) := by
  refine con_walk Tryd.func15 (by decide) (by kernel_rfl) fun M x y w args hF hrep hA => ?_
  obtain ⟨i, o, u⟩ := x
  cases u
  obtain ⟨v1, r1, e1, h1, v2, r2, e2, h2, h3⟩ := hrep
  have h3 : r2 = [] := h3
  subst h3
  subst e2
  have e3 := arg_int h1
  subst e3
  cases o with
  | none => cases hF
  | some o =>
    obtain ⟨b, off, cs, rfl, hM, hm, hr⟩ := arg_ptr h2
    obtain ⟨c1, r1, rfl, a1, k1, r2, rfl, a2, k2, r3, rfl, a3, k3, r4, rfl, a4, hrest⟩ := hr
    have a1 : c1 = [.string o.1] := a1
    have a2 : k1 = [.string o.2.1] := a2
    have a3 : k2 = [.string o.2.2.1] := a3
    subst a1; subst a2; subst a3
    obtain ⟨A, c, rfl, hc, hel⟩ := a4
    have hsl := hm.cell (i := 3) (v := .slice A o.2.2.2.1.length c) rfl
    simp only [f] at hF
    split at hF
    case isFalse => cases hF
    rename_i hb
    have hb := of_decide_eq_true hb
    have hlt : i.toNat < List.length o.2.2.2.1 := (Int.toNat_lt hb.1).2 hb.2
    obtain ⟨ad, vs, rfl, hsp, hMb, hmem, hv⟩ := hel i.toNat hlt
    have hv : vs = [.string (o.2.2.2.1[i.toNat])] := hv
    subst hv
    obtain ⟨ab, ao, asp⟩ := ad
    simp only at hsp
    subst hsp
    have hs : List.getD o.2.2.2.1 i.toNat (⟨#[]⟩ : ByteArray) = o.2.2.2.1[i.toNat] := by rw [List.getD_eq_getElem?_getD, List.getElem?_eq_getElem hlt]; rfl
    simp only [hs, Option.bind_eq_some_iff] at hF
    generalize hse : o.2.2.2.1[i.toNat] = s at hF hmem
    obtain ⟨r, hr, hF⟩ := hF
    obtain ⟨bb, u⟩ := r
    cases u
    obtain ⟨te, pe, hg⟩ := hA 0 (by simp)
    have h0 := Amb.lt hA (b := 0) (by simp [Amb.G])
    have hcell := hmem.cell (i := 0) (v := .string s) rfl
    have hD : Go.Calls Tryd.prog 19 #[.string s] w fun e w2 => e = .returned (.bool bb) ∧ Go.RowKit.Below w.heap.size w w2 := by
      refine ((impl_hwIsDecimal.con n).run rfl (fun _ => True) (s, ()) (bb, ()) w #[.string s] hr ⟨_, _, rfl, ⟨rfl, (fun h => by cases h), fun _ => trivial⟩, rfl⟩ hA).mono ?_
      rintro e w' ⟨vs, rfl, hbel, hres⟩
      simp only [Bool.false_eq_true, if_false] at hres
      obtain ⟨v, r, rfl, hv, hr⟩ := hres
      have hr : r = [] := hr
      subst hr
      have h1 : v.cells.toList = [.bool bb] := hv.1
      rw [cells_one (hv.2.2 rfl)] at h1
      have h1 : v = .bool bb := by simpa using h1
      subst h1
      exact ⟨rfl, hbel⟩
    have key : ∀ nn : Int, (bb = true → ∀ w2 : Go.World, Go.Calls Tryd.prog 20 #[.string s] w2 fun e w3 => e = .returned (.tuple #[.int .i64 nn, .nilIface]) ∧ Go.RowKit.Below w2.heap.size w2 w3) → y = ((if bb = true then nn else 0), ()) →
        Go.Calls Tryd.prog 15 #[.int .i64 i, .pointer (some ⟨b, off, none⟩)] w fun e w' => ∃ vs, e = .returned (resVal vs) ∧ Go.RowKit.Below w.heap.size w w' ∧ TupRep w' (fun q => M q ∨ w.heap.size ≤ q) [.int .i64] y vs := by
      intro nn hA' hy
      refine (number_calls (n := nn) (m := List.length o.2.2.2.1) (c := c) hD hA' hg h0 hsl hb.1 hb.2 (by
        have e : (⟨ab, ao, none⟩ : Go.Addr).add i.toNat = ⟨ab, ao + i.toNat * 1 + 0, none⟩ := by simp [Go.Addr.add]
        rw [e]
        exact hcell)).mono ?_
      rintro e w' ⟨rfl, hbel⟩
      rw [hy]
      exact ⟨_, rfl, hbel, res_int⟩
    have hargs : args = #[.int .i64 i, .pointer (some ⟨b, off, none⟩)] := by
      apply Array.ext'
      rw [e1]
    rw [hargs]
    cases bb with
    | false =>
      simp only [Bool.false_eq_true, if_false, Option.some.injEq] at hF
      exact key 0 (fun h => by cases h) (by simp [← hF])
    | true =>
      simp only [if_true] at hF
      split at hF
      case h_2 => cases hF
      rename_i v hv
      split at hF
      case isFalse => cases hF
      rename_i hsz
      have hsz := of_decide_eq_true hsz
      exact key v (fun _ w2 => atoi_ok s (Nat.le_trans hsz (by decide)) v hv w2) (by simpa using (Option.some.inj hF).symm)
end impl_HallService_1
namespace impl_HallService
def f (n : Nat) (x : Tup [tGateObject, tStewService]) : Option (Tup [tStewService]) :=
  if ((List.length x.1.2.2.2.1 : Int) != (6 : Int)) = true then
   some (((⟨#[]⟩ : ByteArray), (0 : Int), false, (0 : Int), (0 : Int), (0 : Int), (0 : Int), (0 : Int), (0 : Int), (0 : Int), (0 : Int), (0 : Int), (0 : Int), ()), ())
 else
   (if true = true then (impl_HallService_1.f n ((0 : Int), (some x.1), ())) else some (tzero [(.int .i64)])).bind fun y1 =>
 (if true = true then (impl_HallService_1.f n ((2 : Int), (some x.1), ())) else some (tzero [(.int .i64)])).bind fun y2 =>
 (if true = true then (impl_HallService_1.f n ((3 : Int), (some x.1), ())) else some (tzero [(.int .i64)])).bind fun y3 =>
 (if true = true then (impl_HallService_1.f n ((4 : Int), (some x.1), ())) else some (tzero [(.int .i64)])).bind fun y4 =>
 if (y4.1 == (0 : Int)) = true then
   (impl_HallService_1.f n ((1 : Int), (some x.1), ())).bind fun y5 =>
 some ((x.1.2.1, (0 : Int), x.1.2.2.2.2.1, y1.1, y5.1, y2.1, y3.1, (0 : Int), y4.1, (0 : Int), (0 : Int), (0 : Int), (0 : Int), ()), ())
 else
   (impl_HallService_1.f n ((1 : Int), (some x.1), ())).bind fun y6 =>
 some ((x.1.2.1, (0 : Int), x.1.2.2.2.2.1, y1.1, (if y6.1 < x.2.1.2.2.2.2.1 then y6.1 else x.2.1.2.2.2.2.1), y2.1, y3.1, (0 : Int), y4.1, (0 : Int), y6.1, x.2.1.2.2.2.2.2.2.2.2.2.2.2.1, (0 : Int), ()), ())
@[reducible] def sig (n : Nat) : Sig := ⟨[tGateObject, tStewService], [tStewService], false, f n, none, none⟩
def T (n : Nat) : FuncId → Option Sig := fun g => if Nat.beq g 15 = true then some (impl_HallService_1.sig n) else none
def TL (n : Nat) : Loops := fun j _ st k => none
theorem con (n : Nat) : Con Tryd.prog 9 (sig n) :=
  con_print (hsw := rfl) (hsx := rfl) (T := T n) (TL := TL n) (c := Tryd.f9.body.getD .skip) (js := []) hMixed (conT_cons (impl_HallService_1.con n) conT_none) Tryd.func9 (by decide) (by kernel_rfl) (by kernel_rfl) (by decide) LoopDef.nil (fun x => by kernel_rfl)
end impl_HallService
namespace laws_eqStewService
def f (n : Nat) (x : Tup [tStewService, tStewService]) : Option (Tup [.bool]) :=
  if (!seq x.1.1 x.2.1.1) = true then
 some (false, ())
 else if (x.1.2.1 != x.2.1.2.1) = true then
 some (false, ())
 else if (!(x.1.2.2.1 == x.2.1.2.2.1)) = true then
 some (false, ())
 else if (x.1.2.2.2.1 != x.2.1.2.2.2.1) = true then
 some (false, ())
 else if (x.1.2.2.2.2.1 != x.2.1.2.2.2.2.1) = true then
 some (false, ())
 else if (x.1.2.2.2.2.2.1 != x.2.1.2.2.2.2.2.1) = true then
 some (false, ())
 else if (x.1.2.2.2.2.2.2.1 != x.2.1.2.2.2.2.2.2.1) = true then
 some (false, ())
 else if (x.1.2.2.2.2.2.2.2.1 != x.2.1.2.2.2.2.2.2.2.1) = true then
 some (false, ())
 else if (x.1.2.2.2.2.2.2.2.2.1 != x.2.1.2.2.2.2.2.2.2.2.1) = true then
 some (false, ())
 else if (x.1.2.2.2.2.2.2.2.2.2.1 != x.2.1.2.2.2.2.2.2.2.2.2.1) = true then
 some (false, ())
 else if (x.1.2.2.2.2.2.2.2.2.2.2.1 != x.2.1.2.2.2.2.2.2.2.2.2.2.1) = true then
 some (false, ())
 else if (x.1.2.2.2.2.2.2.2.2.2.2.2.1 != x.2.1.2.2.2.2.2.2.2.2.2.2.2.1) = true then
 some (false, ())
 else if (x.1.2.2.2.2.2.2.2.2.2.2.2.2.1 != x.2.1.2.2.2.2.2.2.2.2.2.2.2.2.1) = true then
   some (false, ())
 else
   some (true, ())
@[reducible] def sig (n : Nat) : Sig := ⟨[tStewService, tStewService], [.bool], false, f n, none, none⟩
def T (n : Nat) : FuncId → Option Sig := fun g => none
def TL (n : Nat) : Loops := fun j _ st k => none
theorem con (n : Nat) : Con Tryd.prog 10 (sig n) :=
  con_print (hsw := rfl) (hsx := rfl) (T := T n) (TL := TL n) (c := Tryd.f10.body.getD .skip) (js := []) hMixed conT_none Tryd.func10 (by decide) (by kernel_rfl) (by kernel_rfl) (by decide) LoopDef.nil (fun x => by kernel_rfl)
end laws_eqStewService
namespace laws_eqStringS
@[reducible] def l4 : LSpec := ⟨[(0, .d (.slice .str)), (1, .d (.slice .str)), (5, .d (.int .i64))], [(.ret, [(4, .d .bool)]), (.exit 0, [])]⟩
def B4 (n : Nat) {R : Type} (next : Sden l4.inS → Option R) (cs : Conts R l4.outs) (x : Sden l4.inS) : Option R :=
  if (decide (x.2.2.1 < (List.length x.1 : Int))) = true then
   if (!true || (decide (0 ≤ x.2.2.1 ∧ x.2.2.1 < (List.length x.1 : Int)))) = true then
   if (!true || (decide (0 ≤ x.2.2.1 ∧ x.2.2.1 < (List.length x.2.1 : Int)))) = true then
   if (!seq (List.getD x.1 (Int.toNat x.2.2.1) (⟨#[]⟩ : ByteArray)) (List.getD x.2.1 (Int.toNat x.2.2.1) (⟨#[]⟩ : ByteArray))) = true then
   cs.1 (false, ())
 else
   next (x.1, x.2.1, (IntKind.i64.wrap (x.2.2.1 + (1 : Int))), ())
 else
   none
 else
   none
 else
   cs.2.1 ()
def f (n : Nat) (x : Tup [(.slice .str), (.slice .str)]) : Option (Tup [.bool]) :=
  if ((List.length x.1 : Int) != (List.length x.2.1 : Int)) = true then
   some (false, ())
 else
   runL (B4 n) ((fun z1 =>
     some (z1.1, ())), (fun z2 =>
     some (true, ())), ()) n (x.1, x.2.1, (0 : Int), ())
@[reducible] def sig (n : Nat) : Sig := ⟨[(.slice .str), (.slice .str)], [.bool], false, f n, none, none⟩
def T (n : Nat) : FuncId → Option Sig := fun g => none
def TL (n : Nat) : Loops := fun j _ st k => if Nat.beq j 4 = true then (match dec st l4.inS [] with | some x => runL (B4 n) (contsOf k l4.outs) n x | none => none) else none
theorem d4 (n : Nat) : LoopDef Tryd.prog (T n) (TL n) Tryd.f17 4 :=
  ⟨l4, fun R => B4 n, n, fun R st k => by kernel_rfl, fun R next cs x => by kernel_rfl⟩
theorem con (n : Nat) : Con Tryd.prog 17 (sig n) :=
  con_print (hsw := rfl) (hsx := rfl) (T := T n) (TL := TL n) (c := Tryd.f17.body.getD .skip) (js := [4]) hMixed conT_none Tryd.func17 (by decide) (by kernel_rfl) (by kernel_rfl) (by decide) (LoopDef.cons (d4 n) LoopDef.nil) (fun x => by kernel_rfl)
end laws_eqStringS
namespace laws_eqGateObject
def f (n : Nat) (x : Tup [tGateObject, tGateObject]) : Option (Tup [.bool]) :=
  if (!seq x.1.1 x.2.1.1) = true then
 some (false, ())
 else if (!seq x.1.2.1 x.2.1.2.1) = true then
 some (false, ())
 else if (!seq x.1.2.2.1 x.2.1.2.2.1) = true then
   some (false, ())
 else
   (laws_eqStringS.f n (x.1.2.2.2.1, x.2.1.2.2.2.1, ())).bind fun y1 =>
 if (!y1.1) = true then
 some (false, ())
 else if (!(x.1.2.2.2.2.1 == x.2.1.2.2.2.2.1)) = true then
   some (false, ())
 else
   (laws_eqStringS.f n (x.1.2.2.2.2.2.1, x.2.1.2.2.2.2.2.1, ())).bind fun y2 =>
 if (!y2.1) = true then
 some (false, ())
 else if (x.1.2.2.2.2.2.2.1 != x.2.1.2.2.2.2.2.2.1) = true then
   some (false, ())
 else
   some (true, ())
@[reducible] def sig (n : Nat) : Sig := ⟨[tGateObject, tGateObject], [.bool], false, f n, none, none⟩
def T (n : Nat) : FuncId → Option Sig := fun g => if Nat.beq g 17 = true then some (laws_eqStringS.sig n) else none
def TL (n : Nat) : Loops := fun j _ st k => none
theorem con (n : Nat) : Con Tryd.prog 11 (sig n) :=
  con_print (hsw := rfl) (hsx := rfl) (T := T n) (TL := TL n) (c := Tryd.f11.body.getD .skip) (js := []) hMixed (conT_cons (laws_eqStringS.con n) conT_none) Tryd.func11 (by decide) (by kernel_rfl) (by kernel_rfl) (by decide) LoopDef.nil (fun x => by kernel_rfl)
end laws_eqGateObject
namespace laws_FnExactHallService
def f (n : Nat) (x : Tup [tGateObject, tStewService]) : Option (Tup [.bool]) :=
  (laws_szGateObject.f n (x.1, (1048576 : Int), ())).bind fun y1 =>
 if (decide (y1.1 < (0 : Int))) = true then
   some (true, ())
 else
   (laws_szStewService.f n (x.2.1, y1.1, ())).bind fun y2 =>
 if (decide (y2.1 < (0 : Int))) = true then
   some (true, ())
 else
   (laws_toGateObject.f n (x.1, ())).bind fun y3 =>
 (if true = true then (laws_toStewService.f n (x.2.1, ())) else some (tzero [tStewService])).bind fun y4 =>
 (if true = true then (spec_HallService.f n (y3.1, y4.1, ())) else some (tzero [tStewService])).bind fun y5 =>
 (laws_toGateObject.f n (x.1, ())).bind fun y6 =>
 (if true = true then (laws_toStewService.f n (x.2.1, ())) else some (tzero [tStewService])).bind fun y7 =>
 (if true = true then (impl_HallService.f n (y6.1, y7.1, ())) else some (tzero [tStewService])).bind fun y8 =>
 (laws_eqStewService.f n (y8.1, y5.1, ())).bind fun y9 =>
 if (!y9.1) = true then
   some (false, ())
 else
   (laws_toGateObject.f n (x.1, ())).bind fun y10 =>
 (laws_eqGateObject.f n (y6.1, y10.1, ())).bind fun y11 =>
 if (!y11.1) = true then
   some (false, ())
 else
   some (true, ())
@[reducible] def sig (n : Nat) : Sig := ⟨[tGateObject, tStewService], [.bool], false, f n, none, none⟩
def T (n : Nat) : FuncId → Option Sig := fun g => if Nat.beq g 4 = true then some (laws_szGateObject.sig n) else if Nat.beq g 5 = true then some (laws_szStewService.sig n) else if Nat.beq g 6 = true then some (spec_HallService.sig n) else if Nat.beq g 7 = true then some (laws_toGateObject.sig n) else if Nat.beq g 8 = true then some (laws_toStewService.sig n) else if Nat.beq g 9 = true then some (impl_HallService.sig n) else if Nat.beq g 10 = true then some (laws_eqStewService.sig n) else if Nat.beq g 11 = true then some (laws_eqGateObject.sig n) else none
def TL (n : Nat) : Loops := fun j _ st k => none
theorem con (n : Nat) : Con Tryd.prog 3 (sig n) :=
  con_print (hsw := rfl) (hsx := rfl) (T := T n) (TL := TL n) (c := Tryd.f3.body.getD .skip) (js := []) hMixed (conT_cons (laws_szGateObject.con n) (conT_cons (laws_szStewService.con n) (conT_cons (spec_HallService.con n) (conT_cons (laws_toGateObject.con n) (conT_cons (laws_toStewService.con n) (conT_cons (impl_HallService.con n) (conT_cons (laws_eqStewService.con n) (conT_cons (laws_eqGateObject.con n) conT_none)))))))) Tryd.func3 (by decide) (by kernel_rfl) (by kernel_rfl) (by decide) LoopDef.nil (fun x => by kernel_rfl)
end laws_FnExactHallService
end Go.Proofs.YtmdkodbodddhpacDoor
