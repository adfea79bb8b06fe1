import Derived.Test.YtnkgmbaeondobabDoorProg
import Derived.Test.YtnkgmbaeondobabDoorM4
import Derived.Below
import Derived.BigRegion
import Derived.ChangeAlike
import Derived.Handy
import Derived.LaidEql
import Derived.RegionTactic
import Derived.RowKitTokens
import Derived.Stop.Asserts
set_option maxRecDepth 100000
set_option linter.unusedVariables false
namespace Go.Proofs.YtnkgmbaeondobabDoor
open Go.Vm
abbrev tGateField : Ty := (.pair .str (.pair (.int .i64) (.pair (.int .i64) (.pair (.int .i64) (.pair (.slice .str) (.pair .str (.pair (.int .i64) (.pair .bool (.pair .bool (.pair .str (.pair .str .unit)))))))))))
abbrev tGateShape : Ty := (.pair .str (.pair (.slice tGateField) .unit))
abbrev tGateObject : Ty := (.pair .str (.pair .str (.pair .str (.pair (.slice .str) (.pair .bool (.pair (.slice .str) (.pair (.int .i64) .unit)))))))
abbrev tnumberField : Ty := (.pair tGateField .unit)
abbrev tfault : Ty := (.pair (.int .i64) (.pair (.int .i64) .unit))
abbrev twordField : Ty := tnumberField
abbrev ttextField : Ty := tnumberField
abbrev tlinkField : Ty := tnumberField
theorem hMixed : Tryd.prog.follows .mixedOrders = true := by kernel_rfl
instance amb : Amb := Amb.cells [(0, .iface 111 (.agg #[.pointer (some ⟨1, 62, none⟩)]))]
namespace laws_szStringS
@[reducible] def l5 : LSpec := ⟨[(0, .d (.slice .str)), (1, .d (.int .i64)), (5, .d (.int .i64))], [(.ret, [(4, .d (.int .i64))]), (.exit 0, [(1, .d (.int .i64))])]⟩
def B5 (n : Nat) {R : Type} (next : Sden l5.inS → Option R) (cs : Conts R l5.outs) (x : Sden l5.inS) : Option R :=
  if (decide (x.2.2.1 < (List.length x.1 : Int))) = true then
   if (decide (0 ≤ x.2.2.1 ∧ x.2.2.1 < (List.length x.1 : Int))) = true then
   if (decide ((IntKind.i64.wrap (x.2.1 - (ByteArray.size (List.getD x.1 (Int.toNat x.2.2.1) (⟨#[]⟩ : ByteArray)) : Int))) < (0 : Int))) = true then
   cs.1 ((-1 : Int), ())
 else
   next (x.1, (IntKind.i64.wrap (x.2.1 - (ByteArray.size (List.getD x.1 (Int.toNat x.2.2.1) (⟨#[]⟩ : ByteArray)) : Int))), (IntKind.i64.wrap (x.2.2.1 + (1 : Int))), ())
 else
   none
 else
   cs.2.1 (x.2.1, ())
def f (n : Nat) (x : Tup [(.slice .str), (.int .i64)]) : Option (Tup [(.int .i64)]) :=
  if (decide ((IntKind.i64.wrap (x.2.1 - (List.length x.1 : Int))) < (0 : Int))) = true then
   some ((-1 : Int), ())
 else
   runL (B5 n) ((fun z1 =>
     some (z1.1, ())), (fun z2 =>
     some (z2.1, ())), ()) n (x.1, (IntKind.i64.wrap (x.2.1 - (List.length x.1 : Int))), (0 : Int), ())
@[reducible] def sig (n : Nat) : Sig := ⟨[(.slice .str), (.int .i64)], [(.int .i64)], false, f n, none, none⟩
def T (n : Nat) : FuncId → Option Sig := fun g => none
def TL (n : Nat) : Loops := fun j _ st k => if Nat.beq j 5 = true then (match dec st l5.inS [] with | some x => runL (B5 n) (contsOf k l5.outs) n x | none => none) else none
theorem d5 (n : Nat) : LoopDef Tryd.prog (T n) (TL n) Tryd.f13 5 :=
  ⟨l5, fun R => B5 n, n, fun R st k => by kernel_rfl, fun R next cs x => by kernel_rfl⟩
theorem con (n : Nat) : Con Tryd.prog 13 (sig n) :=
  con_print (hsw := rfl) (hsx := rfl) (T := T n) (TL := TL n) (c := Tryd.f13.body.getD .skip) (js := [5]) hMixed conT_none Tryd.func13 (by decide) (by kernel_rfl) (by kernel_rfl) (by decide) (LoopDef.cons (d5 n) LoopDef.nil) (fun x => by kernel_rfl)
end laws_szStringS
namespace laws_szGateField
def f (n : Nat) (x : Tup [tGateField, (.int .i64)]) : Option (Tup [(.int .i64)]) :=
  if (decide ((IntKind.i64.wrap (x.2.1 - (ByteArray.size x.1.1 : Int))) < (0 : Int))) = true then
   some ((-1 : Int), ())
 else
   (laws_szStringS.f n (x.1.2.2.2.2.1, (IntKind.i64.wrap (x.2.1 - (ByteArray.size x.1.1 : Int))), ())).bind fun y1 =>
 if (decide (y1.1 < (0 : Int))) = true then
 some ((-1 : Int), ())
 else if (decide ((IntKind.i64.wrap (y1.1 - (ByteArray.size x.1.2.2.2.2.2.1 : Int))) < (0 : Int))) = true then
 some ((-1 : Int), ())
 else if (decide ((IntKind.i64.wrap ((IntKind.i64.wrap (y1.1 - (ByteArray.size x.1.2.2.2.2.2.1 : Int))) - (ByteArray.size x.1.2.2.2.2.2.2.2.2.2.1 : Int))) < (0 : Int))) = true then
 some ((-1 : Int), ())
 else if (decide ((IntKind.i64.wrap ((IntKind.i64.wrap ((IntKind.i64.wrap (y1.1 - (ByteArray.size x.1.2.2.2.2.2.1 : Int))) - (ByteArray.size x.1.2.2.2.2.2.2.2.2.2.1 : Int))) - (ByteArray.size x.1.2.2.2.2.2.2.2.2.2.2.1 : Int))) < (0 : Int))) = true then
   some ((-1 : Int), ())
 else
   some ((IntKind.i64.wrap ((IntKind.i64.wrap ((IntKind.i64.wrap (y1.1 - (ByteArray.size x.1.2.2.2.2.2.1 : Int))) - (ByteArray.size x.1.2.2.2.2.2.2.2.2.2.1 : Int))) - (ByteArray.size x.1.2.2.2.2.2.2.2.2.2.2.1 : Int))), ())
@[reducible] def sig (n : Nat) : Sig := ⟨[tGateField, (.int .i64)], [(.int .i64)], false, f n, none, none⟩
def T (n : Nat) : FuncId → Option Sig := fun g => if Nat.beq g 13 = true then some (laws_szStringS.sig n) else none
def TL (n : Nat) : Loops := fun j _ st k => none
theorem con (n : Nat) : Con Tryd.prog 32 (sig n) :=
  con_print (hsw := rfl) (hsx := rfl) (T := T n) (TL := TL n) (c := Tryd.f32.body.getD .skip) (js := []) hMixed (conT_cons (laws_szStringS.con n) conT_none) Tryd.func32 (by decide) (by kernel_rfl) (by kernel_rfl) (by decide) LoopDef.nil (fun x => by kernel_rfl)
end laws_szGateField
namespace laws_szGateFieldS
@[reducible] def l5 : LSpec := ⟨[(0, .d (.slice tGateField)), (1, .d (.int .i64)), (5, .d (.int .i64))], [(.ret, [(4, .d (.int .i64))]), (.exit 0, [(1, .d (.int .i64))])]⟩
def B5 (n : Nat) {R : Type} (next : Sden l5.inS → Option R) (cs : Conts R l5.outs) (x : Sden l5.inS) : Option R :=
  if (decide (x.2.2.1 < (List.length x.1 : Int))) = true then
   if (decide (0 ≤ x.2.2.1 ∧ x.2.2.1 < (List.length x.1 : Int))) = true then
   (laws_szGateField.f n ((List.getD x.1 (Int.toNat x.2.2.1) (Ty.zero tGateField)), x.2.1, ())).bind fun y1 =>
 if (decide (y1.1 < (0 : Int))) = true then
   cs.1 ((-1 : Int), ())
 else
   next (x.1, y1.1, (IntKind.i64.wrap (x.2.2.1 + (1 : Int))), ())
 else
   none
 else
   cs.2.1 (x.2.1, ())
def f (n : Nat) (x : Tup [(.slice tGateField), (.int .i64)]) : Option (Tup [(.int .i64)]) :=
  if (decide ((IntKind.i64.wrap (x.2.1 - (List.length x.1 : Int))) < (0 : Int))) = true then
   some ((-1 : Int), ())
 else
   runL (B5 n) ((fun z2 =>
     some (z2.1, ())), (fun z3 =>
     some (z3.1, ())), ()) n (x.1, (IntKind.i64.wrap (x.2.1 - (List.length x.1 : Int))), (0 : Int), ())
@[reducible] def sig (n : Nat) : Sig := ⟨[(.slice tGateField), (.int .i64)], [(.int .i64)], false, f n, none, none⟩
def T (n : Nat) : FuncId → Option Sig := fun g => if Nat.beq g 32 = true then some (laws_szGateField.sig n) else none
def TL (n : Nat) : Loops := fun j _ st k => if Nat.beq j 5 = true then (match dec st l5.inS [] with | some x => runL (B5 n) (contsOf k l5.outs) n x | none => none) else none
theorem d5 (n : Nat) : LoopDef Tryd.prog (T n) (TL n) Tryd.f22 5 :=
  ⟨l5, fun R => B5 n, n, fun R st k => by kernel_rfl, fun R next cs x => by kernel_rfl⟩
theorem con (n : Nat) : Con Tryd.prog 22 (sig n) :=
  con_print (hsw := rfl) (hsx := rfl) (T := T n) (TL := TL n) (c := Tryd.f22.body.getD .skip) (js := [5]) hMixed (conT_cons (laws_szGateField.con n) conT_none) Tryd.func22 (by decide) (by kernel_rfl) (by kernel_rfl) (by decide) (LoopDef.cons (d5 n) LoopDef.nil) (fun x => by kernel_rfl)
end laws_szGateFieldS
namespace laws_szGateShape
def f (n : Nat) (x : Tup [tGateShape, (.int .i64)]) : Option (Tup [(.int .i64)]) :=
  if (decide ((IntKind.i64.wrap (x.2.1 - (ByteArray.size x.1.1 : Int))) < (0 : Int))) = true then
   some ((-1 : Int), ())
 else
   (laws_szGateFieldS.f n (x.1.2.1, (IntKind.i64.wrap (x.2.1 - (ByteArray.size x.1.1 : Int))), ())).bind fun y1 =>
 if (decide (y1.1 < (0 : Int))) = true then
   some ((-1 : Int), ())
 else
   some (y1.1, ())
@[reducible] def sig (n : Nat) : Sig := ⟨[tGateShape, (.int .i64)], [(.int .i64)], false, f n, none, none⟩
def T (n : Nat) : FuncId → Option Sig := fun g => if Nat.beq g 22 = true then some (laws_szGateFieldS.sig n) else none
def TL (n : Nat) : Loops := fun j _ st k => none
theorem con (n : Nat) : Con Tryd.prog 12 (sig n) :=
  con_print (hsw := rfl) (hsx := rfl) (T := T n) (TL := TL n) (c := Tryd.f12.body.getD .skip) (js := []) hMixed (conT_cons (laws_szGateFieldS.con n) conT_none) Tryd.func12 (by decide) (by kernel_rfl) (by kernel_rfl) (by decide) LoopDef.nil (fun x => by kernel_rfl)
end laws_szGateShape
namespace laws_szGateShapeS
@[reducible] def l5 : LSpec := ⟨[(0, .d (.slice tGateShape)), (1, .d (.int .i64)), (5, .d (.int .i64))], [(.ret, [(4, .d (.int .i64))]), (.exit 0, [(1, .d (.int .i64))])]⟩
def B5 (n : Nat) {R : Type} (next : Sden l5.inS → Option R) (cs : Conts R l5.outs) (x : Sden l5.inS) : Option R :=
  if (decide (x.2.2.1 < (List.length x.1 : Int))) = true then
   if (decide (0 ≤ x.2.2.1 ∧ x.2.2.1 < (List.length x.1 : Int))) = true then
   (laws_szGateShape.f n ((List.getD x.1 (Int.toNat x.2.2.1) (Ty.zero tGateShape)), x.2.1, ())).bind fun y1 =>
 if (decide (y1.1 < (0 : Int))) = true then
   cs.1 ((-1 : Int), ())
 else
   next (x.1, y1.1, (IntKind.i64.wrap (x.2.2.1 + (1 : Int))), ())
 else
   none
 else
   cs.2.1 (x.2.1, ())
def f (n : Nat) (x : Tup [(.slice tGateShape), (.int .i64)]) : Option (Tup [(.int .i64)]) :=
  if (decide ((IntKind.i64.wrap (x.2.1 - (List.length x.1 : Int))) < (0 : Int))) = true then
   some ((-1 : Int), ())
 else
   runL (B5 n) ((fun z2 =>
     some (z2.1, ())), (fun z3 =>
     some (z3.1, ())), ()) n (x.1, (IntKind.i64.wrap (x.2.1 - (List.length x.1 : Int))), (0 : Int), ())
@[reducible] def sig (n : Nat) : Sig := ⟨[(.slice tGateShape), (.int .i64)], [(.int .i64)], false, f n, none, none⟩
def T (n : Nat) : FuncId → Option Sig := fun g => if Nat.beq g 12 = true then some (laws_szGateShape.sig n) else none
def TL (n : Nat) : Loops := fun j _ st k => if Nat.beq j 5 = true then (match dec st l5.inS [] with | some x => runL (B5 n) (contsOf k l5.outs) n x | none => none) else none
theorem d5 (n : Nat) : LoopDef Tryd.prog (T n) (TL n) Tryd.f4 5 :=
  ⟨l5, fun R => B5 n, n, fun R st k => by kernel_rfl, fun R next cs x => by kernel_rfl⟩
theorem con (n : Nat) : Con Tryd.prog 4 (sig n) :=
  con_print (hsw := rfl) (hsx := rfl) (T := T n) (TL := TL n) (c := Tryd.f4.body.getD .skip) (js := [5]) hMixed (conT_cons (laws_szGateShape.con n) conT_none) Tryd.func4 (by decide) (by kernel_rfl) (by kernel_rfl) (by decide) (LoopDef.cons (d5 n) LoopDef.nil) (fun x => by kernel_rfl)
end laws_szGateShapeS
namespace laws_szGateObject
def f (n : Nat) (x : Tup [tGateObject, (.int .i64)]) : Option (Tup [(.int .i64)]) :=
  if (decide ((IntKind.i64.wrap (x.2.1 - (ByteArray.size x.1.1 : Int))) < (0 : Int))) = true then
 some ((-1 : Int), ())
 else if (decide ((IntKind.i64.wrap ((IntKind.i64.wrap (x.2.1 - (ByteArray.size x.1.1 : Int))) - (ByteArray.size x.1.2.1 : Int))) < (0 : Int))) = true then
 some ((-1 : Int), ())
 else if (decide ((IntKind.i64.wrap ((IntKind.i64.wrap ((IntKind.i64.wrap (x.2.1 - (ByteArray.size x.1.1 : Int))) - (ByteArray.size x.1.2.1 : Int))) - (ByteArray.size x.1.2.2.1 : Int))) < (0 : Int))) = true then
   some ((-1 : Int), ())
 else
   (laws_szStringS.f n (x.1.2.2.2.1, (IntKind.i64.wrap ((IntKind.i64.wrap ((IntKind.i64.wrap (x.2.1 - (ByteArray.size x.1.1 : Int))) - (ByteArray.size x.1.2.1 : Int))) - (ByteArray.size x.1.2.2.1 : Int))), ())).bind fun y1 =>
 if (decide (y1.1 < (0 : Int))) = true then
   some ((-1 : Int), ())
 else
   (laws_szStringS.f n (x.1.2.2.2.2.2.1, y1.1, ())).bind fun y2 =>
 if (decide (y2.1 < (0 : Int))) = true then
   some ((-1 : Int), ())
 else
   some (y2.1, ())
@[reducible] def sig (n : Nat) : Sig := ⟨[tGateObject, (.int .i64)], [(.int .i64)], false, f n, none, none⟩
def T (n : Nat) : FuncId → Option Sig := fun g => if Nat.beq g 13 = true then some (laws_szStringS.sig n) else none
def TL (n : Nat) : Loops := fun j _ st k => none
theorem con (n : Nat) : Con Tryd.prog 5 (sig n) :=
  con_print (hsw := rfl) (hsx := rfl) (T := T n) (TL := TL n) (c := Tryd.f5.body.getD .skip) (js := []) hMixed (conT_cons (laws_szStringS.con n) conT_none) Tryd.func5 (by decide) (by kernel_rfl) (by kernel_rfl) (by decide) LoopDef.nil (fun x => by kernel_rfl)
end laws_szGateObject
namespace laws_toStringS
@[reducible] def l3 : LSpec := ⟨[(0, .d (.slice .str)), (3, .row true .str), (4, .d (.int .i64))], [(.exit 0, [(3, .row true .str)])]⟩
def B3 (n : Nat) {R : Type} (next : Sden l3.inS → Option R) (cs : Conts R l3.outs) (x : Sden l3.inS) : Option R :=
  if (decide (x.2.2.1 < (List.length x.1 : Int))) = true then
   if (decide (0 ≤ x.2.2.1 ∧ x.2.2.1 < (List.length x.1 : Int))) = true then
   if (decide (0 ≤ x.2.2.1 ∧ x.2.2.1 < (List.length x.2.1 : Int))) = true then
   next (x.1, (List.set x.2.1 (Int.toNat x.2.2.1) (List.getD x.1 (Int.toNat x.2.2.1) (⟨#[]⟩ : ByteArray))), (IntKind.i64.wrap (x.2.2.1 + (1 : Int))), ())
 else
   none
 else
   none
 else
   cs.1 (x.2.1, ())
def f (n : Nat) (x : Tup [(.slice .str)]) : Option (Tup [(.slice .str)]) :=
  if (decide (0 ≤ (List.length x.1 : Int) ∧ (List.length x.1 : Int) ≤ (List.length x.1 : Int) ∧ (List.length x.1 : Int) * (16 : Int) ≤ 140737488355328)) = true then
   runL (B3 n) ((fun z1 =>
     some (z1.1, ())), ()) n (x.1, (List.replicate (Int.toNat (List.length x.1 : Int)) (⟨#[]⟩ : ByteArray)), (0 : Int), ())
 else
   none
@[reducible] def sig (n : Nat) : Sig := ⟨[(.slice .str)], [(.slice .str)], true, f n, none, none⟩
def T (n : Nat) : FuncId → Option Sig := fun g => none
def TL (n : Nat) : Loops := fun j _ st k => if Nat.beq j 3 = true then (match dec st l3.inS [] with | some x => runL (B3 n) (contsOf k l3.outs) n x | none => none) else none
theorem d3 (n : Nat) : LoopDef Tryd.prog (T n) (TL n) Tryd.f17 3 :=
  ⟨l3, fun R => B3 n, n, fun R st k => by kernel_rfl, fun R next cs x => by kernel_rfl⟩
theorem con (n : Nat) : Con Tryd.prog 17 (sig n) :=
  con_print (hsw := rfl) (hsx := rfl) (T := T n) (TL := TL n) (c := Tryd.f17.body.getD .skip) (js := [3]) hMixed conT_none Tryd.func17 (by decide) (by kernel_rfl) (by kernel_rfl) (by decide) (LoopDef.cons (d3 n) LoopDef.nil) (fun x => by kernel_rfl)
end laws_toStringS
namespace laws_toGateField
def f (n : Nat) (x : Tup [tGateField]) : Option (Tup [tGateField]) :=
  (laws_toStringS.f n (x.1.2.2.2.2.1, ())).bind fun y1 =>
 some ((x.1.1, x.1.2.1, x.1.2.2.1, x.1.2.2.2.1, y1.1, x.1.2.2.2.2.2), ())
@[reducible] def sig (n : Nat) : Sig := ⟨[tGateField], [tGateField], true, f n, none, none⟩
def T (n : Nat) : FuncId → Option Sig := fun g => if Nat.beq g 17 = true then some (laws_toStringS.sig n) else none
def TL (n : Nat) : Loops := fun j _ st k => none
theorem con (n : Nat) : Con Tryd.prog 38 (sig n) :=
  con_print (hsw := rfl) (hsx := rfl) (T := T n) (TL := TL n) (c := Tryd.f38.body.getD .skip) (js := []) hMixed (conT_cons (laws_toStringS.con n) conT_none) Tryd.func38 (by decide) (by kernel_rfl) (by kernel_rfl) (by decide) LoopDef.nil (fun x => by kernel_rfl)
end laws_toGateField
namespace laws_toGateFieldS
@[reducible] def l3 : LSpec := ⟨[(0, .d (.slice tGateField)), (3, .row true tGateField), (4, .d (.int .i64))], [(.exit 0, [(3, .row true tGateField)])]⟩
def B3 (n : Nat) {R : Type} (next : Sden l3.inS → Option R) (cs : Conts R l3.outs) (x : Sden l3.inS) : Option R :=
  if (decide (x.2.2.1 < (List.length x.1 : Int))) = true then
   if (decide (0 ≤ x.2.2.1 ∧ x.2.2.1 < (List.length x.1 : Int))) = true then
   (laws_toGateField.f n ((List.getD x.1 (Int.toNat x.2.2.1) (Ty.zero tGateField)), ())).bind fun y1 =>
 if (decide (0 ≤ x.2.2.1 ∧ x.2.2.1 < (List.length x.2.1 : Int))) = true then
   next (x.1, (List.set x.2.1 (Int.toNat x.2.2.1) y1.1), (IntKind.i64.wrap (x.2.2.1 + (1 : Int))), ())
 else
   none
 else
   none
 else
   cs.1 (x.2.1, ())
def f (n : Nat) (x : Tup [(.slice tGateField)]) : Option (Tup [(.slice tGateField)]) :=
  if (decide (0 ≤ (List.length x.1 : Int) ∧ (List.length x.1 : Int) ≤ (List.length x.1 : Int) ∧ (List.length x.1 : Int) * (128 : Int) ≤ 140737488355328)) = true then
   runL (B3 n) ((fun z2 =>
     some (z2.1, ())), ()) n (x.1, (List.replicate (Int.toNat (List.length x.1 : Int)) (Ty.zero tGateField)), (0 : Int), ())
 else
   none
@[reducible] def sig (n : Nat) : Sig := ⟨[(.slice tGateField)], [(.slice tGateField)], true, f n, none, none⟩
def T (n : Nat) : FuncId → Option Sig := fun g => if Nat.beq g 38 = true then some (laws_toGateField.sig n) else none
def TL (n : Nat) : Loops := fun j _ st k => if Nat.beq j 3 = true then (match dec st l3.inS [] with | some x => runL (B3 n) (contsOf k l3.outs) n x | none => none) else none
theorem d3 (n : Nat) : LoopDef Tryd.prog (T n) (TL n) Tryd.f26 3 :=
  ⟨l3, fun R => B3 n, n, fun R st k => by kernel_rfl, fun R next cs x => by kernel_rfl⟩
theorem con (n : Nat) : Con Tryd.prog 26 (sig n) :=
  con_print (hsw := rfl) (hsx := rfl) (T := T n) (TL := TL n) (c := Tryd.f26.body.getD .skip) (js := [3]) hMixed (conT_cons (laws_toGateField.con n) conT_none) Tryd.func26 (by decide) (by kernel_rfl) (by kernel_rfl) (by decide) (LoopDef.cons (d3 n) LoopDef.nil) (fun x => by kernel_rfl)
end laws_toGateFieldS
namespace laws_toGateShape
def f (n : Nat) (x : Tup [tGateShape]) : Option (Tup [tGateShape]) :=
  (laws_toGateFieldS.f n (x.1.2.1, ())).bind fun y1 =>
 some ((x.1.1, y1.1, ()), ())
@[reducible] def sig (n : Nat) : Sig := ⟨[tGateShape], [tGateShape], true, f n, none, none⟩
def T (n : Nat) : FuncId → Option Sig := fun g => if Nat.beq g 26 = true then some (laws_toGateFieldS.sig n) else none
def TL (n : Nat) : Loops := fun j _ st k => none
theorem con (n : Nat) : Con Tryd.prog 16 (sig n) :=
  con_print (hsw := rfl) (hsx := rfl) (T := T n) (TL := TL n) (c := Tryd.f16.body.getD .skip) (js := []) hMixed (conT_cons (laws_toGateFieldS.con n) conT_none) Tryd.func16 (by decide) (by kernel_rfl) (by kernel_rfl) (by decide) LoopDef.nil (fun x => by kernel_rfl)
end laws_toGateShape
namespace laws_toGateShapeS
@[reducible] def l3 : LSpec := ⟨[(0, .d (.slice tGateShape)), (3, .row true tGateShape), (4, .d (.int .i64))], [(.exit 0, [(3, .row true tGateShape)])]⟩
def B3 (n : Nat) {R : Type} (next : Sden l3.inS → Option R) (cs : Conts R l3.outs) (x : Sden l3.inS) : Option R :=
  if (decide (x.2.2.1 < (List.length x.1 : Int))) = true then
   if (decide (0 ≤ x.2.2.1 ∧ x.2.2.1 < (List.length x.1 : Int))) = true then
   (laws_toGateShape.f n ((List.getD x.1 (Int.toNat x.2.2.1) (Ty.zero tGateShape)), ())).bind fun y1 =>
 if (decide (0 ≤ x.2.2.1 ∧ x.2.2.1 < (List.length x.2.1 : Int))) = true then
   next (x.1, (List.set x.2.1 (Int.toNat x.2.2.1) y1.1), (IntKind.i64.wrap (x.2.2.1 + (1 : Int))), ())
 else
   none
 else
   none
 else
   cs.1 (x.2.1, ())
def f (n : Nat) (x : Tup [(.slice tGateShape)]) : Option (Tup [(.slice tGateShape)]) :=
  if (decide (0 ≤ (List.length x.1 : Int) ∧ (List.length x.1 : Int) ≤ (List.length x.1 : Int) ∧ (List.length x.1 : Int) * (40 : Int) ≤ 140737488355328)) = true then
   runL (B3 n) ((fun z2 =>
     some (z2.1, ())), ()) n (x.1, (List.replicate (Int.toNat (List.length x.1 : Int)) (Ty.zero tGateShape)), (0 : Int), ())
 else
   none
@[reducible] def sig (n : Nat) : Sig := ⟨[(.slice tGateShape)], [(.slice tGateShape)], true, f n, none, none⟩
def T (n : Nat) : FuncId → Option Sig := fun g => if Nat.beq g 16 = true then some (laws_toGateShape.sig n) else none
def TL (n : Nat) : Loops := fun j _ st k => if Nat.beq j 3 = true then (match dec st l3.inS [] with | some x => runL (B3 n) (contsOf k l3.outs) n x | none => none) else none
theorem d3 (n : Nat) : LoopDef Tryd.prog (T n) (TL n) Tryd.f7 3 :=
  ⟨l3, fun R => B3 n, n, fun R st k => by kernel_rfl, fun R next cs x => by kernel_rfl⟩
theorem con (n : Nat) : Con Tryd.prog 7 (sig n) :=
  con_print (hsw := rfl) (hsx := rfl) (T := T n) (TL := TL n) (c := Tryd.f7.body.getD .skip) (js := [3]) hMixed (conT_cons (laws_toGateShape.con n) conT_none) Tryd.func7 (by decide) (by kernel_rfl) (by kernel_rfl) (by decide) (LoopDef.cons (d3 n) LoopDef.nil) (fun x => by kernel_rfl)
end laws_toGateShapeS
namespace laws_toGateObject
def f (n : Nat) (x : Tup [tGateObject]) : Option (Tup [tGateObject]) :=
  (laws_toStringS.f n (x.1.2.2.2.1, ())).bind fun y1 =>
 (laws_toStringS.f n (x.1.2.2.2.2.2.1, ())).bind fun y2 =>
 some ((x.1.1, x.1.2.1, x.1.2.2.1, y1.1, x.1.2.2.2.2.1, y2.1, x.1.2.2.2.2.2.2), ())
@[reducible] def sig (n : Nat) : Sig := ⟨[tGateObject], [tGateObject], true, f n, none, none⟩
def T (n : Nat) : FuncId → Option Sig := fun g => if Nat.beq g 17 = true then some (laws_toStringS.sig n) else none
def TL (n : Nat) : Loops := fun j _ st k => none
theorem con (n : Nat) : Con Tryd.prog 8 (sig n) :=
  con_print (hsw := rfl) (hsx := rfl) (T := T n) (TL := TL n) (c := Tryd.f8.body.getD .skip) (js := []) hMixed (conT_cons (laws_toStringS.con n) conT_none) Tryd.func8 (by decide) (by kernel_rfl) (by kernel_rfl) (by decide) LoopDef.nil (fun x => by kernel_rfl)
end laws_toGateObject
namespace spec_l1In
def f (n : Nat) (x : Tup [(.int .i64), (.int .i64), (.int .i64)]) : Option (Tup [.bool]) :=
  some (((decide (x.1 ≥ x.2.1)) && (decide (x.1 ≤ x.2.2.1))), ())
@[reducible] def sig (n : Nat) : Sig := ⟨[(.int .i64), (.int .i64), (.int .i64)], [.bool], false, f n, none, none⟩
def T (n : Nat) : FuncId → Option Sig := fun g => none
def TL (n : Nat) : Loops := fun j _ st k => none
theorem con (n : Nat) : Con Tryd.prog 36 (sig n) :=
  con_print (hsw := rfl) (hsx := rfl) (T := T n) (TL := TL n) (c := Tryd.f36.body.getD .skip) (js := []) hMixed conT_none Tryd.func36 (by decide) (by kernel_rfl) (by kernel_rfl) (by decide) LoopDef.nil (fun x => by kernel_rfl)
end spec_l1In
namespace spec_l1Byte
def f (n : Nat) (x : Tup [(.int .u8)]) : Option (Tup [.bool]) :=
  some (((((decide (x.1 ≥ (97 : Int))) && (decide (x.1 ≤ (122 : Int)))) || ((decide (x.1 ≥ (48 : Int))) && (decide (x.1 ≤ (57 : Int))))) || (x.1 == (45 : Int))), ())
@[reducible] def sig (n : Nat) : Sig := ⟨[(.int .u8)], [.bool], false, f n, none, none⟩
def T (n : Nat) : FuncId → Option Sig := fun g => none
def TL (n : Nat) : Loops := fun j _ st k => none
theorem con (n : Nat) : Con Tryd.prog 45 (sig n) :=
  con_print (hsw := rfl) (hsx := rfl) (T := T n) (TL := TL n) (c := Tryd.f45.body.getD .skip) (js := []) hMixed conT_none Tryd.func45 (by decide) (by kernel_rfl) (by kernel_rfl) (by decide) LoopDef.nil (fun x => by kernel_rfl)
end spec_l1Byte
namespace spec_l1NameOk
@[reducible] def l4 : LSpec := ⟨[(0, .d .str), (3, .d (.int .i64))], [(.ret, [(2, .d .bool)]), (.exit 0, [])]⟩
def B4 (n : Nat) {R : Type} (next : Sden l4.inS → Option R) (cs : Conts R l4.outs) (x : Sden l4.inS) : Option R :=
  if (decide (x.2.1 < (ByteArray.size x.1 : Int))) = true then
   if (decide (0 ≤ x.2.1 ∧ x.2.1 < (ByteArray.size x.1 : Int))) = true then
   (spec_l1Byte.f n ((byteAt x.1 x.2.1), ())).bind fun y2 =>
 if (!y2.1) = true then
   cs.1 (false, ())
 else
   next (x.1, (IntKind.i64.wrap (x.2.1 + (1 : Int))), ())
 else
   none
 else
   cs.2.1 ()
def f (n : Nat) (x : Tup [.str]) : Option (Tup [.bool]) :=
  (spec_l1In.f n ((ByteArray.size x.1 : Int), (1 : Int), (16 : Int), ())).bind fun y1 =>
 if (!y1.1) = true then
   some (false, ())
 else
   runL (B4 n) ((fun z3 =>
     some (z3.1, ())), (fun z4 =>
     some (true, ())), ()) n (x.1, (0 : Int), ())
@[reducible] def sig (n : Nat) : Sig := ⟨[.str], [.bool], false, f n, none, none⟩
def T (n : Nat) : FuncId → Option Sig := fun g => if Nat.beq g 36 = true then some (spec_l1In.sig n) else if Nat.beq g 45 = true then some (spec_l1Byte.sig n) else none
def TL (n : Nat) : Loops := fun j _ st k => if Nat.beq j 4 = true then (match dec st l4.inS [] with | some x => runL (B4 n) (contsOf k l4.outs) n x | none => none) else none
theorem d4 (n : Nat) : LoopDef Tryd.prog (T n) (TL n) Tryd.f33 4 :=
  ⟨l4, fun R => B4 n, n, fun R st k => by kernel_rfl, fun R next cs x => by kernel_rfl⟩
theorem con (n : Nat) : Con Tryd.prog 33 (sig n) :=
  con_print (hsw := rfl) (hsx := rfl) (T := T n) (TL := TL n) (c := Tryd.f33.body.getD .skip) (js := [4]) hMixed (conT_cons (spec_l1In.con n) (conT_cons (spec_l1Byte.con n) conT_none)) Tryd.func33 (by decide) (by kernel_rfl) (by kernel_rfl) (by decide) (LoopDef.cons (d4 n) LoopDef.nil) (fun x => by kernel_rfl)
end spec_l1NameOk
namespace spec_l1Bare
def f (n : Nat) (x : Tup [tGateField]) : Option (Tup [.bool]) :=
  if (((!((x.1.2.1 == (1 : Int)) || (x.1.2.1 == (3 : Int)))) && ((x.1.2.2.1 != (0 : Int)) || (x.1.2.2.2.1 != (0 : Int)))) || ((x.1.2.1 != (1 : Int)) && (!seq x.1.2.2.2.2.2.2.2.2.2.2.1 (⟨#[]⟩ : ByteArray)))) = true then
 some (false, ())
 else if ((x.1.2.1 != (2 : Int)) && (decide ((List.length x.1.2.2.2.2.1 : Int) > (0 : Int)))) = true then
   some (false, ())
 else
   some (((x.1.2.1 == (4 : Int)) || ((seq x.1.2.2.2.2.2.1 (⟨#[]⟩ : ByteArray)) && (x.1.2.2.2.2.2.2.1 == (0 : Int)))), ())
@[reducible] def sig (n : Nat) : Sig := ⟨[tGateField], [.bool], false, f n, none, none⟩
def T (n : Nat) : FuncId → Option Sig := fun g => none
def TL (n : Nat) : Loops := fun j _ st k => none
theorem con (n : Nat) : Con Tryd.prog 46 (sig n) :=
  con_print (hsw := rfl) (hsx := rfl) (T := T n) (TL := TL n) (c := Tryd.f46.body.getD .skip) (js := []) hMixed conT_none Tryd.func46 (by decide) (by kernel_rfl) (by kernel_rfl) (by decide) LoopDef.nil (fun x => by kernel_rfl)
end spec_l1Bare
namespace spec_l1Number
@[reducible] def l5 : LSpec := ⟨[(0, .d .str), (3, .d (.int .i64)), (4, .d (.int .i64))], [(.ret, [(2, .d (.int .i64))]), (.exit 0, [(3, .d (.int .i64))])]⟩
def B5 (n : Nat) {R : Type} (next : Sden l5.inS → Option R) (cs : Conts R l5.outs) (x : Sden l5.inS) : Option R :=
  if (decide (x.2.2.1 < (ByteArray.size x.1 : Int))) = true then
   if (decide (0 ≤ x.2.2.1 ∧ x.2.2.1 < (ByteArray.size x.1 : Int))) = true then
   if (!(!(decide ((byteAt x.1 x.2.2.1) < (48 : Int)))) || (decide (0 ≤ x.2.2.1 ∧ x.2.2.1 < (ByteArray.size x.1 : Int)))) = true then
   if ((decide ((byteAt x.1 x.2.2.1) < (48 : Int))) || (decide ((byteAt x.1 x.2.2.1) > (57 : Int)))) = true then
 cs.1 ((-1 : Int), ())
 else if (decide (0 ≤ x.2.2.1 ∧ x.2.2.1 < (ByteArray.size x.1 : Int))) = true then
   next (x.1, (IntKind.i64.wrap ((IntKind.i64.wrap ((IntKind.i64.wrap (x.2.1 * (10 : Int))) + (IntKind.i64.wrap (byteAt x.1 x.2.2.1)))) - (48 : Int))), (IntKind.i64.wrap (x.2.2.1 + (1 : Int))), ())
 else
   none
 else
   none
 else
   none
 else
   cs.2.1 (x.2.1, ())
def f (n : Nat) (x : Tup [.str]) : Option (Tup [(.int .i64)]) :=
  (spec_l1In.f n ((ByteArray.size x.1 : Int), (1 : Int), (7 : Int), ())).bind fun y1 =>
 if (!((!(!y1.1)) && (decide ((ByteArray.size x.1 : Int) > (1 : Int)))) || (decide (0 ≤ (0 : Int) ∧ (0 : Int) < (ByteArray.size x.1 : Int)))) = true then
   if ((!y1.1) || ((decide ((ByteArray.size x.1 : Int) > (1 : Int))) && ((byteAt x.1 (0 : Int)) == (48 : Int)))) = true then
   some ((-1 : Int), ())
 else
   runL (B5 n) ((fun z2 =>
     some (z2.1, ())), (fun z3 =>
     some (z3.1, ())), ()) n (x.1, (0 : Int), (0 : Int), ())
 else
   none
@[reducible] def sig (n : Nat) : Sig := ⟨[.str], [(.int .i64)], false, f n, none, none⟩
def T (n : Nat) : FuncId → Option Sig := fun g => if Nat.beq g 36 = true then some (spec_l1In.sig n) else none
def TL (n : Nat) : Loops := fun j _ st k => if Nat.beq j 5 = true then (match dec st l5.inS [] with | some x => runL (B5 n) (contsOf k l5.outs) n x | none => none) else none
theorem d5 (n : Nat) : LoopDef Tryd.prog (T n) (TL n) Tryd.f47 5 :=
  ⟨l5, fun R => B5 n, n, fun R st k => by kernel_rfl, fun R next cs x => by kernel_rfl⟩
theorem con (n : Nat) : Con Tryd.prog 47 (sig n) :=
  con_print (hsw := rfl) (hsx := rfl) (T := T n) (TL := TL n) (c := Tryd.f47.body.getD .skip) (js := [5]) hMixed (conT_cons (spec_l1In.con n) conT_none) Tryd.func47 (by decide) (by kernel_rfl) (by kernel_rfl) (by decide) (LoopDef.cons (d5 n) LoopDef.nil) (fun x => by kernel_rfl)
end spec_l1Number
namespace spec_l1Has
@[reducible] def l2 : LSpec := ⟨[(0, .d (.slice .str)), (1, .d .str), (5, .d (.int .i64))], [(.ret, [(4, .d .bool)]), (.exit 0, [])]⟩
def B2 (n : Nat) {R : Type} (next : Sden l2.inS → Option R) (cs : Conts R l2.outs) (x : Sden l2.inS) : Option R :=
  if (decide (x.2.2.1 < (List.length x.1 : Int))) = true then
   if (decide (0 ≤ x.2.2.1 ∧ x.2.2.1 < (List.length x.1 : Int))) = true then
   if (seq (List.getD x.1 (Int.toNat x.2.2.1) (⟨#[]⟩ : ByteArray)) x.2.1) = true then
   cs.1 (true, ())
 else
   next (x.1, x.2.1, (IntKind.i64.wrap (x.2.2.1 + (1 : Int))), ())
 else
   none
 else
   cs.2.1 ()
def f (n : Nat) (x : Tup [(.slice .str), .str]) : Option (Tup [.bool]) :=
  runL (B2 n) ((fun z1 =>
     some (z1.1, ())), (fun z2 =>
     some (false, ())), ()) n (x.1, x.2.1, (0 : Int), ())
@[reducible] def sig (n : Nat) : Sig := ⟨[(.slice .str), .str], [.bool], false, f n, none, none⟩
def T (n : Nat) : FuncId → Option Sig := fun g => none
def TL (n : Nat) : Loops := fun j _ st k => if Nat.beq j 2 = true then (match dec st l2.inS [] with | some x => runL (B2 n) (contsOf k l2.outs) n x | none => none) else none
theorem d2 (n : Nat) : LoopDef Tryd.prog (T n) (TL n) Tryd.f48 2 :=
  ⟨l2, fun R => B2 n, n, fun R st k => by kernel_rfl, fun R next cs x => by kernel_rfl⟩
theorem con (n : Nat) : Con Tryd.prog 48 (sig n) :=
  con_print (hsw := rfl) (hsx := rfl) (T := T n) (TL := TL n) (c := Tryd.f48.body.getD .skip) (js := [2]) hMixed conT_none Tryd.func48 (by decide) (by kernel_rfl) (by kernel_rfl) (by decide) (LoopDef.cons (d2 n) LoopDef.nil) (fun x => by kernel_rfl)
end spec_l1Has
namespace spec_GateFits
@[reducible] def l9 : LSpec := ⟨[(1, .d .str), (2, .rb tGateField), (6, .d (.int .i64))], [(.ret, [(4, .d .bool)]), (.exit 1, [(1, .d .str), (2, .rb tGateField)])]⟩
def B9 (n : Nat) {R : Type} (next : Sden l9.inS → Option R) (cs : Conts R l9.outs) (x : Sden l9.inS) : Option R :=
  if (decide (x.2.2.1 < (ByteArray.size x.1 : Int))) = true then
   if (decide (0 ≤ x.2.2.1 ∧ x.2.2.1 < (ByteArray.size x.1 : Int))) = true then
   (spec_l1In.f n ((IntKind.i64.wrap (byteAt x.1 x.2.2.1)), (33 : Int), (126 : Int), ())).bind fun y4 =>
 if (!y4.1) = true then
   cs.1 (false, ())
 else
   next (x.1, x.2.1, (IntKind.i64.wrap (x.2.2.1 + (1 : Int))), ())
 else
   none
 else
   cs.2.1 (x.1, x.2.1, ())
def f (n : Nat) (x : Tup [tGateField, .str]) : Option (Tup [.bool]) :=
  if (x.1.2.1 == (1 : Int)) = true then
 (spec_l1Number.f n (x.2.1, ())).bind fun y1 =>
 (if (decide (y1.1 ≥ (0 : Int))) = true then (spec_l1In.f n (y1.1, x.1.2.2.1, x.1.2.2.2.1, ())) else some (tzero [.bool])).bind fun y2 =>
 some (((decide (y1.1 ≥ (0 : Int))) && y2.1), ())
 else if (x.1.2.1 == (2 : Int)) = true then
 (if (!seq x.2.1 (⟨#[]⟩ : ByteArray)) = true then (spec_l1Has.f n (x.1.2.2.2.2.1, x.2.1, ())) else some (tzero [.bool])).bind fun y3 =>
 some (((!seq x.2.1 (⟨#[]⟩ : ByteArray)) && y3.1), ())
 else if (x.1.2.1 == (3 : Int)) = true then
 runL (B9 n) ((fun z5 =>
     some (z5.1, ())), (fun z6 =>
     (if (!seq z6.1 (⟨#[]⟩ : ByteArray)) = true then (spec_l1In.f n ((ByteArray.size z6.1 : Int), z6.2.1.2.2.1, z6.2.1.2.2.2.1, ())) else some (tzero [.bool])).bind fun y7 =>
 some (((!seq z6.1 (⟨#[]⟩ : ByteArray)) && y7.1), ())), ()) n (x.2.1, x.1, (0 : Int), ())
 else if (x.1.2.1 == (4 : Int)) = true then
   (spec_l1NameOk.f n (x.2.1, ())).bind fun y8 =>
 some (y8.1, ())
 else
   some (false, ())
@[reducible] def sig (n : Nat) : Sig := ⟨[tGateField, .str], [.bool], false, f n, none, none⟩
def T (n : Nat) : FuncId → Option Sig := fun g => if Nat.beq g 33 = true then some (spec_l1NameOk.sig n) else if Nat.beq g 36 = true then some (spec_l1In.sig n) else if Nat.beq g 47 = true then some (spec_l1Number.sig n) else if Nat.beq g 48 = true then some (spec_l1Has.sig n) else none
def TL (n : Nat) : Loops := fun j _ st k => if Nat.beq j 9 = true then (match dec st l9.inS [] with | some x => runL (B9 n) (contsOf k l9.outs) n x | none => none) else none
theorem d9 (n : Nat) : LoopDef Tryd.prog (T n) (TL n) Tryd.f37 9 :=
  ⟨l9, fun R => B9 n, n, fun R st k => by kernel_rfl, fun R next cs x => by kernel_rfl⟩
theorem con (n : Nat) : Con Tryd.prog 37 (sig n) :=
  con_print (hsw := rfl) (hsx := rfl) (T := T n) (TL := TL n) (c := Tryd.f37.body.getD .skip) (js := [9]) hMixed (conT_cons (spec_l1NameOk.con n) (conT_cons (spec_l1In.con n) (conT_cons (spec_l1Number.con n) (conT_cons (spec_l1Has.con n) conT_none)))) Tryd.func37 (by decide) (by kernel_rfl) (by kernel_rfl) (by decide) (LoopDef.cons (d9 n) LoopDef.nil) (fun x => by kernel_rfl)
end spec_GateFits
namespace spec_l1Ascending
@[reducible] def l2 : LSpec := ⟨[(0, .d (.slice .str)), (3, .d (.int .i64))], [(.ret, [(2, .d .bool)]), (.exit 0, [])]⟩
def B2 (n : Nat) {R : Type} (next : Sden l2.inS → Option R) (cs : Conts R l2.outs) (x : Sden l2.inS) : Option R :=
  if (decide (x.2.1 < (List.length x.1 : Int))) = true then
   if (!true || (decide (0 ≤ x.2.1 ∧ x.2.1 < (List.length x.1 : Int)))) = true then
   (if true = true then (spec_l1NameOk.f n ((List.getD x.1 (Int.toNat x.2.1) (⟨#[]⟩ : ByteArray)), ())) else some (tzero [.bool])).bind fun y1 =>
 if (!((!(!y1.1)) && (decide (x.2.1 > (0 : Int)))) || (decide (0 ≤ (IntKind.i64.wrap (x.2.1 - (1 : Int))) ∧ (IntKind.i64.wrap (x.2.1 - (1 : Int))) < (List.length x.1 : Int)))) = true then
   if (!((!(!y1.1)) && (decide (x.2.1 > (0 : Int)))) || (decide (0 ≤ x.2.1 ∧ x.2.1 < (List.length x.1 : Int)))) = true then
   if ((!y1.1) || ((decide (x.2.1 > (0 : Int))) && (!slt (List.getD x.1 (Int.toNat (IntKind.i64.wrap (x.2.1 - (1 : Int)))) (⟨#[]⟩ : ByteArray)) (List.getD x.1 (Int.toNat x.2.1) (⟨#[]⟩ : ByteArray))))) = true then
   cs.1 (false, ())
 else
   next (x.1, (IntKind.i64.wrap (x.2.1 + (1 : Int))), ())
 else
   none
 else
   none
 else
   none
 else
   cs.2.1 ()
def f (n : Nat) (x : Tup [(.slice .str)]) : Option (Tup [.bool]) :=
  runL (B2 n) ((fun z2 =>
     some (z2.1, ())), (fun z3 =>
     some (true, ())), ()) n (x.1, (0 : Int), ())
@[reducible] def sig (n : Nat) : Sig := ⟨[(.slice .str)], [.bool], false, f n, none, none⟩
def T (n : Nat) : FuncId → Option Sig := fun g => if Nat.beq g 33 = true then some (spec_l1NameOk.sig n) else none
def TL (n : Nat) : Loops := fun j _ st k => if Nat.beq j 2 = true then (match dec st l2.inS [] with | some x => runL (B2 n) (contsOf k l2.outs) n x | none => none) else none
theorem d2 (n : Nat) : LoopDef Tryd.prog (T n) (TL n) Tryd.f35 2 :=
  ⟨l2, fun R => B2 n, n, fun R st k => by kernel_rfl, fun R next cs x => by kernel_rfl⟩
theorem con (n : Nat) : Con Tryd.prog 35 (sig n) :=
  con_print (hsw := rfl) (hsx := rfl) (T := T n) (TL := TL n) (c := Tryd.f35.body.getD .skip) (js := [2]) hMixed (conT_cons (spec_l1NameOk.con n) conT_none) Tryd.func35 (by decide) (by kernel_rfl) (by kernel_rfl) (by decide) (LoopDef.cons (d2 n) LoopDef.nil) (fun x => by kernel_rfl)
end spec_l1Ascending
namespace spec_l1Shape
@[reducible] def l2 : LSpec := ⟨[(0, .d (.slice tGateShape)), (1, .d .str), (5, .d (.int .i64))], [(.ret, [(4, .d (.int .i64))]), (.exit 0, [])]⟩
def B2 (n : Nat) {R : Type} (next : Sden l2.inS → Option R) (cs : Conts R l2.outs) (x : Sden l2.inS) : Option R :=
  if (decide (x.2.2.1 < (List.length x.1 : Int))) = true then
   if (decide (0 ≤ x.2.2.1 ∧ x.2.2.1 < (List.length x.1 : Int))) = true then
   if (seq (List.getD x.1 (Int.toNat x.2.2.1) (Ty.zero tGateShape)).1 x.2.1) = true then
   cs.1 (x.2.2.1, ())
 else
   next (x.1, x.2.1, (IntKind.i64.wrap (x.2.2.1 + (1 : Int))), ())
 else
   none
 else
   cs.2.1 ()
def f (n : Nat) (x : Tup [(.slice tGateShape), .str]) : Option (Tup [(.int .i64)]) :=
  runL (B2 n) ((fun z1 =>
     some (z1.1, ())), (fun z2 =>
     some ((-1 : Int), ())), ()) n (x.1, x.2.1, (0 : Int), ())
@[reducible] def sig (n : Nat) : Sig := ⟨[(.slice tGateShape), .str], [(.int .i64)], false, f n, none, none⟩
def T (n : Nat) : FuncId → Option Sig := fun g => none
def TL (n : Nat) : Loops := fun j _ st k => if Nat.beq j 2 = true then (match dec st l2.inS [] with | some x => runL (B2 n) (contsOf k l2.outs) n x | none => none) else none
theorem d2 (n : Nat) : LoopDef Tryd.prog (T n) (TL n) Tryd.f25 2 :=
  ⟨l2, fun R => B2 n, n, fun R st k => by kernel_rfl, fun R next cs x => by kernel_rfl⟩
theorem con (n : Nat) : Con Tryd.prog 25 (sig n) :=
  con_print (hsw := rfl) (hsx := rfl) (T := T n) (TL := TL n) (c := Tryd.f25.body.getD .skip) (js := [2]) hMixed conT_none Tryd.func25 (by decide) (by kernel_rfl) (by kernel_rfl) (by decide) (LoopDef.cons (d2 n) LoopDef.nil) (fun x => by kernel_rfl)
end spec_l1Shape
namespace spec_l1FieldOk
def f (n : Nat) (x : Tup [(.slice tGateShape), tGateField]) : Option (Tup [.bool]) :=
  (spec_l1NameOk.f n (x.2.1.1, ())).bind fun y1 =>
 (if (!(!y1.1)) = true then (spec_l1Bare.f n (x.2.1, ())) else some (tzero [.bool])).bind fun y2 =>
 (if ((!((!y1.1) || (!y2.1))) && (!seq x.2.1.2.2.2.2.2.2.2.2.2.1 (⟨#[]⟩ : ByteArray))) = true then (spec_GateFits.f n (x.2.1, x.2.1.2.2.2.2.2.2.2.2.2.1, ())) else some (tzero [.bool])).bind fun y3 =>
 if (((!y1.1) || (!y2.1)) || ((!seq x.2.1.2.2.2.2.2.2.2.2.2.1 (⟨#[]⟩ : ByteArray)) && (!y3.1))) = true then
 some (false, ())
 else if (x.2.1.2.1 == (1 : Int)) = true then
 (if ((((decide (x.2.1.2.2.1 ≥ (0 : Int))) && (decide (x.2.1.2.2.1 ≤ x.2.1.2.2.2.1))) && (decide (x.2.1.2.2.2.1 ≤ (1000000 : Int)))) && (!(seq x.2.1.2.2.2.2.2.2.2.2.2.2.1 (⟨#[]⟩ : ByteArray)))) = true then (spec_l1NameOk.f n (x.2.1.2.2.2.2.2.2.2.2.2.2.1, ())) else some (tzero [.bool])).bind fun y4 =>
 some (((((decide (x.2.1.2.2.1 ≥ (0 : Int))) && (decide (x.2.1.2.2.1 ≤ x.2.1.2.2.2.1))) && (decide (x.2.1.2.2.2.1 ≤ (1000000 : Int)))) && ((seq x.2.1.2.2.2.2.2.2.2.2.2.2.1 (⟨#[]⟩ : ByteArray)) || y4.1)), ())
 else if (x.2.1.2.1 == (2 : Int)) = true then
 (spec_l1In.f n ((List.length x.2.1.2.2.2.2.1 : Int), (1 : Int), (6 : Int), ())).bind fun y5 =>
 (if y5.1 = true then (spec_l1Ascending.f n (x.2.1.2.2.2.2.1, ())) else some (tzero [.bool])).bind fun y6 =>
 some ((y5.1 && y6.1), ())
 else if (x.2.1.2.1 == (3 : Int)) = true then
 some ((((decide (x.2.1.2.2.1 ≥ (1 : Int))) && (decide (x.2.1.2.2.1 ≤ x.2.1.2.2.2.1))) && (decide (x.2.1.2.2.2.1 ≤ (40 : Int)))), ())
 else if (x.2.1.2.1 == (4 : Int)) = true then
   (spec_l1Shape.f n (x.1, x.2.1.2.2.2.2.2.1, ())).bind fun y7 =>
 (if (decide (y7.1 ≥ (0 : Int))) = true then (spec_l1In.f n (x.2.1.2.2.2.2.2.2.1, (1 : Int), (3 : Int), ())) else some (tzero [.bool])).bind fun y8 =>
 some (((((decide (y7.1 ≥ (0 : Int))) && y8.1) && (seq x.2.1.2.2.2.2.2.2.2.2.2.1 (⟨#[]⟩ : ByteArray))) && ((x.2.1.2.2.2.2.2.2.1 != (2 : Int)) || (!x.2.1.2.2.2.2.2.2.2.1))), ())
 else
   some (false, ())
@[reducible] def sig (n : Nat) : Sig := ⟨[(.slice tGateShape), tGateField], [.bool], false, f n, none, none⟩
def T (n : Nat) : FuncId → Option Sig := fun g => if Nat.beq g 25 = true then some (spec_l1Shape.sig n) else if Nat.beq g 33 = true then some (spec_l1NameOk.sig n) else if Nat.beq g 35 = true then some (spec_l1Ascending.sig n) else if Nat.beq g 36 = true then some (spec_l1In.sig n) else if Nat.beq g 37 = true then some (spec_GateFits.sig n) else if Nat.beq g 46 = true then some (spec_l1Bare.sig n) else none
def TL (n : Nat) : Loops := fun j _ st k => none
theorem con (n : Nat) : Con Tryd.prog 34 (sig n) :=
  con_print (hsw := rfl) (hsx := rfl) (T := T n) (TL := TL n) (c := Tryd.f34.body.getD .skip) (js := []) hMixed (conT_cons (spec_l1Shape.con n) (conT_cons (spec_l1NameOk.con n) (conT_cons (spec_l1Ascending.con n) (conT_cons (spec_l1In.con n) (conT_cons (spec_GateFits.con n) (conT_cons (spec_l1Bare.con n) conT_none)))))) Tryd.func34 (by decide) (by kernel_rfl) (by kernel_rfl) (by decide) LoopDef.nil (fun x => by kernel_rfl)
end spec_l1FieldOk
namespace spec_GateShapesOk
@[reducible] def l15 : LSpec := ⟨[(0, .d (.slice tGateShape)), (3, .d (.int .i64)), (4, .box [.d .str, .d (.slice tGateField)]), (5, .d (.int .i64)), (6, .d (.int .i64))], [(.ret, [(2, .d .bool)]), (.exit 4, [(0, .d (.slice tGateShape)), (3, .d (.int .i64)), (4, .box [.d .str, .d (.slice tGateField)]), (5, .d (.int .i64))])]⟩
def B15 (n : Nat) {R : Type} (next : Sden l15.inS → Option R) (cs : Conts R l15.outs) (x : Sden l15.inS) : Option R :=
  if (decide (x.2.2.2.2.1 < x.2.2.2.1)) = true then
   if (!true || (decide (0 ≤ x.2.2.2.2.1 ∧ x.2.2.2.2.1 < (List.length x.2.2.1.2.1 : Int)))) = true then
   if (!true || (decide (0 ≤ x.2.2.2.1 ∧ x.2.2.2.1 < (List.length x.2.2.1.2.1 : Int)))) = true then
   if (seq (List.getD x.2.2.1.2.1 (Int.toNat x.2.2.2.2.1) (Ty.zero tGateField)).1 (List.getD x.2.2.1.2.1 (Int.toNat x.2.2.2.1) (Ty.zero tGateField)).1) = true then
   cs.1 (false, ())
 else
   next (x.1, x.2.1, (x.2.2.1.1, x.2.2.1.2.1, ()), x.2.2.2.1, (IntKind.i64.wrap (x.2.2.2.2.1 + (1 : Int))), ())
 else
   none
 else
   none
 else
   cs.2.1 (x.1, x.2.1, (x.2.2.1.1, x.2.2.1.2.1, ()), x.2.2.2.1, ())
@[reducible] def l10 : LSpec := ⟨[(0, .d (.slice tGateShape)), (3, .d (.int .i64)), (4, .box [.d .str, .d (.slice tGateField)]), (5, .d (.int .i64))], [(.ret, [(2, .d .bool)]), (.exit 2, [(0, .d (.slice tGateShape)), (3, .d (.int .i64))])]⟩
def B10 (n : Nat) {R : Type} (next : Sden l10.inS → Option R) (cs : Conts R l10.outs) (x : Sden l10.inS) : Option R :=
  if (decide (x.2.2.2.1 < (List.length x.2.2.1.2.1 : Int))) = true then
   if (decide (0 ≤ x.2.2.2.1 ∧ x.2.2.2.1 < (List.length x.2.2.1.2.1 : Int))) = true then
   (spec_l1FieldOk.f n (x.1, (List.getD x.2.2.1.2.1 (Int.toNat x.2.2.2.1) (Ty.zero tGateField)), ())).bind fun y2 =>
 if (!y2.1) = true then
   cs.1 (false, ())
 else
   runL (B15 n) ((fun z3 =>
     cs.1 (z3.1, ())), (fun z4 =>
     next (z4.1, z4.2.1, (z4.2.2.1.1, z4.2.2.1.2.1, ()), (IntKind.i64.wrap (z4.2.2.2.1 + (1 : Int))), ())), ()) n (x.1, x.2.1, (x.2.2.1.1, x.2.2.1.2.1, ()), x.2.2.2.1, (0 : Int), ())
 else
   none
 else
   cs.2.1 (x.1, x.2.1, ())
@[reducible] def l4 : LSpec := ⟨[(0, .d (.slice tGateShape)), (3, .d (.int .i64))], [(.ret, [(2, .d .bool)]), (.exit 0, [])]⟩
def B4 (n : Nat) {R : Type} (next : Sden l4.inS → Option R) (cs : Conts R l4.outs) (x : Sden l4.inS) : Option R :=
  if (decide (x.2.1 < (List.length x.1 : Int))) = true then
   if (decide (0 ≤ x.2.1 ∧ x.2.1 < (List.length x.1 : Int))) = true then
   (if true = true then (spec_l1NameOk.f n ((List.getD x.1 (Int.toNat x.2.1) (Ty.zero tGateShape)).1, ())) else some (tzero [.bool])).bind fun y1 =>
 if (!((!(!y1.1)) && (decide (x.2.1 > (0 : Int)))) || (decide (0 ≤ (IntKind.i64.wrap (x.2.1 - (1 : Int))) ∧ (IntKind.i64.wrap (x.2.1 - (1 : Int))) < (List.length x.1 : Int)))) = true then
   if (((!y1.1) || ((decide (x.2.1 > (0 : Int))) && (!slt (List.getD x.1 (Int.toNat (IntKind.i64.wrap (x.2.1 - (1 : Int)))) (Ty.zero tGateShape)).1 (List.getD x.1 (Int.toNat x.2.1) (Ty.zero tGateShape)).1))) || (decide ((List.length (List.getD x.1 (Int.toNat x.2.1) (Ty.zero tGateShape)).2.1 : Int) > (6 : Int)))) = true then
   cs.1 (false, ())
 else
   runL (B10 n) ((fun z5 =>
     cs.1 (z5.1, ())), (fun z6 =>
     next (z6.1, (IntKind.i64.wrap (z6.2.1 + (1 : Int))), ())), ()) n (x.1, x.2.1, ((List.getD x.1 (Int.toNat x.2.1) (Ty.zero tGateShape)).1, (List.getD x.1 (Int.toNat x.2.1) (Ty.zero tGateShape)).2.1, ()), (0 : Int), ())
 else
   none
 else
   none
 else
   cs.2.1 ()
def f (n : Nat) (x : Tup [(.slice tGateShape)]) : Option (Tup [.bool]) :=
  if (decide ((List.length x.1 : Int) > (6 : Int))) = true then
   some (false, ())
 else
   runL (B4 n) ((fun z7 =>
     some (z7.1, ())), (fun z8 =>
     some (true, ())), ()) n (x.1, (0 : Int), ())
@[reducible] def sig (n : Nat) : Sig := ⟨[(.slice tGateShape)], [.bool], false, f n, none, none⟩
def T (n : Nat) : FuncId → Option Sig := fun g => if Nat.beq g 33 = true then some (spec_l1NameOk.sig n) else if Nat.beq g 34 = true then some (spec_l1FieldOk.sig n) else none
def TL (n : Nat) : Loops := fun j _ st k => if Nat.beq j 15 = true then (match dec st l15.inS [] with | some x => runL (B15 n) (contsOf k l15.outs) n x | none => none) else if Nat.beq j 10 = true then (match dec st l10.inS [] with | some x => runL (B10 n) (contsOf k l10.outs) n x | none => none) else if Nat.beq j 4 = true then (match dec st l4.inS [] with | some x => runL (B4 n) (contsOf k l4.outs) n x | none => none) else none
theorem d15 (n : Nat) : LoopDef Tryd.prog (T n) (TL n) Tryd.f23 15 :=
  ⟨l15, fun R => B15 n, n, fun R st k => by kernel_rfl, fun R next cs x => by kernel_rfl⟩
theorem d10 (n : Nat) : LoopDef Tryd.prog (T n) (TL n) Tryd.f23 10 :=
  ⟨l10, fun R => B10 n, n, fun R st k => by kernel_rfl, fun R next cs x => by kernel_rfl⟩
theorem d4 (n : Nat) : LoopDef Tryd.prog (T n) (TL n) Tryd.f23 4 :=
  ⟨l4, fun R => B4 n, n, fun R st k => by kernel_rfl, fun R next cs x => by kernel_rfl⟩
theorem con (n : Nat) : Con Tryd.prog 23 (sig n) :=
  con_print (hsw := rfl) (hsx := rfl) (T := T n) (TL := TL n) (c := Tryd.f23.body.getD .skip) (js := [4, 10, 15]) hMixed (conT_cons (spec_l1NameOk.con n) (conT_cons (spec_l1FieldOk.con n) conT_none)) Tryd.func23 (by decide) (by kernel_rfl) (by kernel_rfl) (by decide) (LoopDef.cons (d4 n) (LoopDef.cons (d10 n) (LoopDef.cons (d15 n) LoopDef.nil))) (fun x => by kernel_rfl)
end spec_GateShapesOk
namespace spec_l2Fields
def f (n : Nat) (x : Tup [(.slice tGateShape), tGateObject]) : Option (Tup [(.slice tGateField), .bool]) :=
  (spec_l1Shape.f n (x.1, x.2.1.1, ())).bind fun y1 =>
 if (!(!(decide (y1.1 < (0 : Int)))) || (decide (0 ≤ y1.1 ∧ y1.1 < (List.length x.1 : Int)))) = true then
   if ((decide (y1.1 < (0 : Int))) || ((List.length (List.getD x.1 (Int.toNat y1.1) (Ty.zero tGateShape)).2.1 : Int) != (List.length x.2.1.2.2.2.1 : Int))) = true then
 some (([] : List (Ty.den tGateField)), false, ())
 else if (decide (0 ≤ y1.1 ∧ y1.1 < (List.length x.1 : Int))) = true then
   some ((List.getD x.1 (Int.toNat y1.1) (Ty.zero tGateShape)).2.1, true, ())
 else
   none
 else
   none
@[reducible] def sig (n : Nat) : Sig := ⟨[(.slice tGateShape), tGateObject], [(.slice tGateField), .bool], false, f n, none, none⟩
def T (n : Nat) : FuncId → Option Sig := fun g => if Nat.beq g 25 = true then some (spec_l1Shape.sig n) else none
def TL (n : Nat) : Loops := fun j _ st k => none
theorem con (n : Nat) : Con Tryd.prog 15 (sig n) :=
  con_print (hsw := rfl) (hsx := rfl) (T := T n) (TL := TL n) (c := Tryd.f15.body.getD .skip) (js := []) hMixed (conT_cons (spec_l1Shape.con n) conT_none) Tryd.func15 (by decide) (by kernel_rfl) (by kernel_rfl) (by decide) LoopDef.nil (fun x => by kernel_rfl)
end spec_l2Fields
namespace spec_l2Check
@[reducible] def l5 : LSpec := ⟨[(3, .rb tGateObject), (6, .d (.slice tGateField)), (8, .d (.int .i64))], [(.ret, [(4, .d (.int .i64)), (5, .d (.int .i64))]), (.exit 0, [])]⟩
def B5 (n : Nat) {R : Type} (next : Sden l5.inS → Option R) (cs : Conts R l5.outs) (x : Sden l5.inS) : Option R :=
  if (decide (x.2.2.1 < (List.length x.2.1 : Int))) = true then
   if (decide (0 ≤ x.2.2.1 ∧ x.2.2.1 < (List.length x.1.2.2.2.1 : Int))) = true then
   if (seq (List.getD x.1.2.2.2.1 (Int.toNat x.2.2.1) (⟨#[]⟩ : ByteArray)) (⟨#[]⟩ : ByteArray)) = true then
 if (decide (0 ≤ x.2.2.1 ∧ x.2.2.1 < (List.length x.2.1 : Int))) = true then
   if (List.getD x.2.1 (Int.toNat x.2.2.1) (Ty.zero tGateField)).2.2.2.2.2.2.2.1 = true then
   cs.1 ((2 : Int), x.2.2.1, ())
 else
   next (x.1, x.2.1, (IntKind.i64.wrap (x.2.2.1 + (1 : Int))), ())
 else
   none
 else if (!true || (decide (0 ≤ x.2.2.1 ∧ x.2.2.1 < (List.length x.2.1 : Int)))) = true then
   if (!true || (decide (0 ≤ x.2.2.1 ∧ x.2.2.1 < (List.length x.1.2.2.2.1 : Int)))) = true then
   (spec_GateFits.f n ((List.getD x.2.1 (Int.toNat x.2.2.1) (Ty.zero tGateField)), (List.getD x.1.2.2.2.1 (Int.toNat x.2.2.1) (⟨#[]⟩ : ByteArray)), ())).bind fun y6 =>
 if (!y6.1) = true then
   cs.1 ((3 : Int), x.2.2.1, ())
 else
   next (x.1, x.2.1, (IntKind.i64.wrap (x.2.2.1 + (1 : Int))), ())
 else
   none
 else
   none
 else
   none
 else
   cs.2.1 ()
def f (n : Nat) (x : Tup [(.slice tGateShape), tGateObject]) : Option (Tup [(.int .i64), (.int .i64)]) :=
  (spec_l2Fields.f n (x.1, x.2.1, ())).bind fun y1 =>
 (if (!(!y1.2.1)) = true then (spec_l1NameOk.f n (x.2.1.2.1, ())) else some (tzero [.bool])).bind fun y2 =>
 (if (!((!y1.2.1) || (!y2.1))) = true then (spec_l1NameOk.f n (x.2.1.2.2.1, ())) else some (tzero [.bool])).bind fun y3 =>
 (if (!((((!y1.2.1) || (!y2.1)) || (!y3.1)) || (decide ((List.length x.2.1.2.2.2.2.2.1 : Int) > (3 : Int))))) = true then (spec_l1Ascending.f n (x.2.1.2.2.2.2.2.1, ())) else some (tzero [.bool])).bind fun y4 =>
 (if (!(((((!y1.2.1) || (!y2.1)) || (!y3.1)) || (decide ((List.length x.2.1.2.2.2.2.2.1 : Int) > (3 : Int)))) || (!y4.1))) = true then (spec_l1In.f n (x.2.1.2.2.2.2.2.2.1, (0 : Int), (1000000 : Int), ())) else some (tzero [.bool])).bind fun y5 =>
 if ((((((!y1.2.1) || (!y2.1)) || (!y3.1)) || (decide ((List.length x.2.1.2.2.2.2.2.1 : Int) > (3 : Int)))) || (!y4.1)) || (!y5.1)) = true then
   some ((1 : Int), (0 : Int), ())
 else
   runL (B5 n) ((fun z7 =>
     some (z7.1, z7.2.1, ())), (fun z8 =>
     some ((0 : Int), (0 : Int), ())), ()) n (x.2.1, y1.1, (0 : Int), ())
@[reducible] def sig (n : Nat) : Sig := ⟨[(.slice tGateShape), tGateObject], [(.int .i64), (.int .i64)], false, f n, none, none⟩
def T (n : Nat) : FuncId → Option Sig := fun g => if Nat.beq g 15 = true then some (spec_l2Fields.sig n) else if Nat.beq g 33 = true then some (spec_l1NameOk.sig n) else if Nat.beq g 35 = true then some (spec_l1Ascending.sig n) else if Nat.beq g 36 = true then some (spec_l1In.sig n) else if Nat.beq g 37 = true then some (spec_GateFits.sig n) else none
def TL (n : Nat) : Loops := fun j _ st k => if Nat.beq j 5 = true then (match dec st l5.inS [] with | some x => runL (B5 n) (contsOf k l5.outs) n x | none => none) else none
theorem d5 (n : Nat) : LoopDef Tryd.prog (T n) (TL n) Tryd.f24 5 :=
  ⟨l5, fun R => B5 n, n, fun R st k => by kernel_rfl, fun R next cs x => by kernel_rfl⟩
theorem con (n : Nat) : Con Tryd.prog 24 (sig n) :=
  con_print (hsw := rfl) (hsx := rfl) (T := T n) (TL := TL n) (c := Tryd.f24.body.getD .skip) (js := [5]) hMixed (conT_cons (spec_l2Fields.con n) (conT_cons (spec_l1NameOk.con n) (conT_cons (spec_l1Ascending.con n) (conT_cons (spec_l1In.con n) (conT_cons (spec_GateFits.con n) conT_none))))) Tryd.func24 (by decide) (by kernel_rfl) (by kernel_rfl) (by decide) (LoopDef.cons (d5 n) LoopDef.nil) (fun x => by kernel_rfl)
end spec_l2Check
namespace spec_GateCheck
def f (n : Nat) (x : Tup [(.slice tGateShape), tGateObject]) : Option (Tup [(.int .i64), (.int .i64)]) :=
  (spec_GateShapesOk.f n (x.1, ())).bind fun y1 =>
 if (!y1.1) = true then
   some ((1 : Int), (0 : Int), ())
 else
   (spec_l2Check.f n (x.1, x.2.1, ())).bind fun y2 =>
 some (y2.1, y2.2.1, ())
@[reducible] def sig (n : Nat) : Sig := ⟨[(.slice tGateShape), tGateObject], [(.int .i64), (.int .i64)], false, f n, none, none⟩
def T (n : Nat) : FuncId → Option Sig := fun g => if Nat.beq g 23 = true then some (spec_GateShapesOk.sig n) else if Nat.beq g 24 = true then some (spec_l2Check.sig n) else none
def TL (n : Nat) : Loops := fun j _ st k => none
theorem con (n : Nat) : Con Tryd.prog 14 (sig n) :=
  con_print (hsw := rfl) (hsx := rfl) (T := T n) (TL := TL n) (c := Tryd.f14.body.getD .skip) (js := []) hMixed (conT_cons (spec_GateShapesOk.con n) (conT_cons (spec_l2Check.con n) conT_none)) Tryd.func14 (by decide) (by kernel_rfl) (by kernel_rfl) (by decide) LoopDef.nil (fun x => by kernel_rfl)
end spec_GateCheck
namespace spec_GateTurned
@[reducible] def l7 : LSpec := ⟨[(4, .rb tGateObject), (5, .rb tGateObject), (12, .d (.slice tGateField)), (14, .d (.int .i64))], [(.ret, [(6, .d (.int .i64)), (7, .d (.int .i64))]), (.exit 0, [])]⟩
def B7 (n : Nat) {R : Type} (next : Sden l7.inS → Option R) (cs : Conts R l7.outs) (x : Sden l7.inS) : Option R :=
  if (decide (x.2.2.2.1 < (List.length x.2.2.1 : Int))) = true then
   if (!true || (decide (0 ≤ x.2.2.2.1 ∧ x.2.2.2.1 < (List.length x.2.2.1 : Int)))) = true then
   if (!(List.getD x.2.2.1 (Int.toNat x.2.2.2.1) (Ty.zero tGateField)).2.2.2.2.2.2.2.2.1 || (decide (0 ≤ x.2.2.2.1 ∧ x.2.2.2.1 < (List.length x.1.2.2.2.1 : Int)))) = true then
   if (!((List.getD x.2.2.1 (Int.toNat x.2.2.2.1) (Ty.zero tGateField)).2.2.2.2.2.2.2.2.1 && (!seq (List.getD x.1.2.2.2.1 (Int.toNat x.2.2.2.1) (⟨#[]⟩ : ByteArray)) (⟨#[]⟩ : ByteArray))) || (decide (0 ≤ x.2.2.2.1 ∧ x.2.2.2.1 < (List.length x.1.2.2.2.1 : Int)))) = true then
   if (!((List.getD x.2.2.1 (Int.toNat x.2.2.2.1) (Ty.zero tGateField)).2.2.2.2.2.2.2.2.1 && (!seq (List.getD x.1.2.2.2.1 (Int.toNat x.2.2.2.1) (⟨#[]⟩ : ByteArray)) (⟨#[]⟩ : ByteArray))) || (decide (0 ≤ x.2.2.2.1 ∧ x.2.2.2.1 < (List.length x.2.1.2.2.2.1 : Int)))) = true then
   if (((List.getD x.2.2.1 (Int.toNat x.2.2.2.1) (Ty.zero tGateField)).2.2.2.2.2.2.2.2.1 && (!seq (List.getD x.1.2.2.2.1 (Int.toNat x.2.2.2.1) (⟨#[]⟩ : ByteArray)) (⟨#[]⟩ : ByteArray))) && (!seq (List.getD x.1.2.2.2.1 (Int.toNat x.2.2.2.1) (⟨#[]⟩ : ByteArray)) (List.getD x.2.1.2.2.2.1 (Int.toNat x.2.2.2.1) (⟨#[]⟩ : ByteArray)))) = true then
   cs.1 ((4 : Int), x.2.2.2.1, ())
 else
   next (x.1, x.2.1, x.2.2.1, (IntKind.i64.wrap (x.2.2.2.1 + (1 : Int))), ())
 else
   none
 else
   none
 else
   none
 else
   none
 else
   cs.2.1 ()
def f (n : Nat) (x : Tup [(.slice tGateShape), tGateObject, tGateObject]) : Option (Tup [(.int .i64), (.int .i64)]) :=
  (spec_GateCheck.f n (x.1, x.2.1, ())).bind fun y1 =>
 (spec_GateCheck.f n (x.1, x.2.2.1, ())).bind fun y2 =>
 if (((((y1.1 != (0 : Int)) || (y2.1 != (0 : Int))) || (!seq x.2.1.1 x.2.2.1.1)) || (!seq x.2.1.2.1 x.2.2.1.2.1)) || (!seq x.2.1.2.2.1 x.2.2.1.2.2.1)) = true then
   some ((1 : Int), (0 : Int), ())
 else
   (spec_l2Fields.f n (x.1, x.2.2.1, ())).bind fun y3 =>
 runL (B7 n) ((fun z4 =>
     some (z4.1, z4.2.1, ())), (fun z5 =>
     some ((0 : Int), (0 : Int), ())), ()) n (x.2.1, x.2.2.1, y3.1, (0 : Int), ())
@[reducible] def sig (n : Nat) : Sig := ⟨[(.slice tGateShape), tGateObject, tGateObject], [(.int .i64), (.int .i64)], false, f n, none, none⟩
def T (n : Nat) : FuncId → Option Sig := fun g => if Nat.beq g 14 = true then some (spec_GateCheck.sig n) else if Nat.beq g 15 = true then some (spec_l2Fields.sig n) else none
def TL (n : Nat) : Loops := fun j _ st k => if Nat.beq j 7 = true then (match dec st l7.inS [] with | some x => runL (B7 n) (contsOf k l7.outs) n x | none => none) else none
theorem d7 (n : Nat) : LoopDef Tryd.prog (T n) (TL n) Tryd.f6 7 :=
  ⟨l7, fun R => B7 n, n, fun R st k => by kernel_rfl, fun R next cs x => by kernel_rfl⟩
theorem con (n : Nat) : Con Tryd.prog 6 (sig n) :=
  con_print (hsw := rfl) (hsx := rfl) (T := T n) (TL := TL n) (c := Tryd.f6.body.getD .skip) (js := [7]) hMixed (conT_cons (spec_GateCheck.con n) (conT_cons (spec_l2Fields.con n) conT_none)) Tryd.func6 (by decide) (by kernel_rfl) (by kernel_rfl) (by decide) (LoopDef.cons (d7 n) LoopDef.nil) (fun x => by kernel_rfl)
end spec_GateTurned
namespace impl_shapeOf
@[reducible] def l2 : LSpec := ⟨[(1, .d .str), (7, .d (.slice tGateShape)), (8, .d (.int .i64)), (9, .d (.int .i64))], [(.ret, [(4, .d (.int .i64))]), (.exit 0, [])]⟩
def B2 (n : Nat) {R : Type} (next : Sden l2.inS → Option R) (cs : Conts R l2.outs) (x : Sden l2.inS) : Option R :=
  if (decide (x.2.2.2.1 < x.2.2.1)) = true then
   if (decide (0 ≤ x.2.2.2.1 ∧ x.2.2.2.1 < (List.length x.2.1 : Int))) = true then
   if (seq (List.getD x.2.1 (Int.toNat x.2.2.2.1) (Ty.zero tGateShape)).1 x.1) = true then
   cs.1 (x.2.2.2.1, ())
 else
   next (x.1, x.2.1, x.2.2.1, (IntKind.i64.wrap (x.2.2.2.1 + (1 : Int))), ())
 else
   none
 else
   cs.2.1 ()
def f (n : Nat) (x : Tup [(.slice tGateShape), .str]) : Option (Tup [(.int .i64)]) :=
  runL (B2 n) ((fun z1 =>
     some (z1.1, ())), (fun z2 =>
     some ((-1 : Int), ())), ()) n (x.2.1, x.1, (List.length x.1 : Int), (0 : Int), ())
@[reducible] def sig (n : Nat) : Sig := ⟨[(.slice tGateShape), .str], [(.int .i64)], false, f n, none, none⟩
def T (n : Nat) : FuncId → Option Sig := fun g => none
def TL (n : Nat) : Loops := fun j _ st k => if Nat.beq j 2 = true then (match dec st l2.inS [] with | some x => runL (B2 n) (contsOf k l2.outs) n x | none => none) else none
theorem d2 (n : Nat) : LoopDef Tryd.prog (T n) (TL n) Tryd.f30 2 :=
  ⟨l2, fun R => B2 n, n, fun R st k => by kernel_rfl, fun R next cs x => by kernel_rfl⟩
theorem con (n : Nat) : Con Tryd.prog 30 (sig n) :=
  con_print (hsw := rfl) (hsx := rfl) (T := T n) (TL := TL n) (c := Tryd.f30.body.getD .skip) (js := [2]) hMixed conT_none Tryd.func30 (by decide) (by kernel_rfl) (by kernel_rfl) (by decide) (LoopDef.cons (d2 n) LoopDef.nil) (fun x => by kernel_rfl)
end impl_shapeOf
namespace impl_fieldsOf
def f (n : Nat) (x : Tup [(.slice tGateShape), tGateObject]) : Option (Tup [(.slice tGateField), .bool]) :=
  (impl_shapeOf.f n (x.1, x.2.1.1, ())).bind fun y1 =>
 if (!(!(decide (y1.1 < (0 : Int)))) || (decide (0 ≤ y1.1 ∧ y1.1 < (List.length x.1 : Int)))) = true then
   if ((decide (y1.1 < (0 : Int))) || ((List.length x.2.1.2.2.2.1 : Int) != (List.length (List.getD x.1 (Int.toNat y1.1) (Ty.zero tGateShape)).2.1 : Int))) = true then
 some ([], false, ())
 else if (decide (0 ≤ y1.1 ∧ y1.1 < (List.length x.1 : Int))) = true then
   some ((List.getD x.1 (Int.toNat y1.1) (Ty.zero tGateShape)).2.1, true, ())
 else
   none
 else
   none
@[reducible] def sig (n : Nat) : Sig := ⟨[(.slice tGateShape), tGateObject], [(.slice tGateField), .bool], false, f n, none, none⟩
def T (n : Nat) : FuncId → Option Sig := fun g => if Nat.beq g 30 = true then some (impl_shapeOf.sig n) else none
def TL (n : Nat) : Loops := fun j _ st k => none
theorem con (n : Nat) : Con Tryd.prog 19 (sig n) :=
  con_print (hsw := rfl) (hsx := rfl) (T := T n) (TL := TL n) (c := Tryd.f19.body.getD .skip) (js := []) hMixed (conT_cons (impl_shapeOf.con n) conT_none) Tryd.func19 (by decide) (by kernel_rfl) (by kernel_rfl) (by decide) LoopDef.nil (fun x => by kernel_rfl)
end impl_fieldsOf
namespace impl_nameByte
def f (n : Nat) (x : Tup [(.int .u8)]) : Option (Tup [.bool]) :=
  some (((((decide (x.1 ≥ (97 : Int))) && (decide (x.1 ≤ (122 : Int)))) || ((decide (x.1 ≥ (48 : Int))) && (decide (x.1 ≤ (57 : Int))))) || (x.1 == (45 : Int))), ())
@[reducible] def sig (n : Nat) : Sig := ⟨[(.int .u8)], [.bool], false, f n, none, none⟩
def T (n : Nat) : FuncId → Option Sig := fun g => none
def TL (n : Nat) : Loops := fun j _ st k => none
theorem con (n : Nat) : Con Tryd.prog 56 (sig n) :=
  con_print (hsw := rfl) (hsx := rfl) (T := T n) (TL := TL n) (c := Tryd.f56.body.getD .skip) (js := []) hMixed conT_none Tryd.func56 (by decide) (by kernel_rfl) (by kernel_rfl) (by decide) LoopDef.nil (fun x => by kernel_rfl)
end impl_nameByte
namespace impl_nameBytes
@[reducible] def l2 : LSpec := ⟨[(0, .d .str), (5, .d (.int .i64)), (6, .d (.int .i64))], [(.ret, [(2, .d .bool)]), (.exit 0, [])]⟩
def B2 (n : Nat) {R : Type} (next : Sden l2.inS → Option R) (cs : Conts R l2.outs) (x : Sden l2.inS) : Option R :=
  if (decide (x.2.2.1 < x.2.1)) = true then
   if (decide (0 ≤ x.2.2.1 ∧ x.2.2.1 < (ByteArray.size x.1 : Int))) = true then
   (impl_nameByte.f n ((byteAt x.1 x.2.2.1), ())).bind fun y1 =>
 if (!y1.1) = true then
   cs.1 (false, ())
 else
   next (x.1, x.2.1, (IntKind.i64.wrap (x.2.2.1 + (1 : Int))), ())
 else
   none
 else
   cs.2.1 ()
def f (n : Nat) (x : Tup [.str]) : Option (Tup [.bool]) :=
  runL (B2 n) ((fun z2 =>
     some (z2.1, ())), (fun z3 =>
     some (true, ())), ()) n (x.1, (ByteArray.size x.1 : Int), (0 : Int), ())
@[reducible] def sig (n : Nat) : Sig := ⟨[.str], [.bool], false, f n, none, none⟩
def T (n : Nat) : FuncId → Option Sig := fun g => if Nat.beq g 56 = true then some (impl_nameByte.sig n) else none
def TL (n : Nat) : Loops := fun j _ st k => if Nat.beq j 2 = true then (match dec st l2.inS [] with | some x => runL (B2 n) (contsOf k l2.outs) n x | none => none) else none
theorem d2 (n : Nat) : LoopDef Tryd.prog (T n) (TL n) Tryd.f50 2 :=
  ⟨l2, fun R => B2 n, n, fun R st k => by kernel_rfl, fun R next cs x => by kernel_rfl⟩
theorem con (n : Nat) : Con Tryd.prog 50 (sig n) :=
  con_print (hsw := rfl) (hsx := rfl) (T := T n) (TL := TL n) (c := Tryd.f50.body.getD .skip) (js := [2]) hMixed (conT_cons (impl_nameByte.con n) conT_none) Tryd.func50 (by decide) (by kernel_rfl) (by kernel_rfl) (by decide) (LoopDef.cons (d2 n) LoopDef.nil) (fun x => by kernel_rfl)
end impl_nameBytes
namespace impl_isName
def f (n : Nat) (x : Tup [.str]) : Option (Tup [.bool]) :=
  (if ((decide ((ByteArray.size x.1 : Int) ≥ (1 : Int))) && (decide ((ByteArray.size x.1 : Int) ≤ (16 : Int)))) = true then (impl_nameBytes.f n (x.1, ())) else some (tzero [.bool])).bind fun y1 =>
 some ((((decide ((ByteArray.size x.1 : Int) ≥ (1 : Int))) && (decide ((ByteArray.size x.1 : Int) ≤ (16 : Int)))) && y1.1), ())
@[reducible] def sig (n : Nat) : Sig := ⟨[.str], [.bool], false, f n, none, none⟩
def T (n : Nat) : FuncId → Option Sig := fun g => if Nat.beq g 50 = true then some (impl_nameBytes.sig n) else none
def TL (n : Nat) : Loops := fun j _ st k => none
theorem con (n : Nat) : Con Tryd.prog 40 (sig n) :=
  con_print (hsw := rfl) (hsx := rfl) (T := T n) (TL := TL n) (c := Tryd.f40.body.getD .skip) (js := []) hMixed (conT_cons (impl_nameBytes.con n) conT_none) Tryd.func40 (by decide) (by kernel_rfl) (by kernel_rfl) (by decide) LoopDef.nil (fun x => by kernel_rfl)
end impl_isName
namespace impl_ascendingNames
@[reducible] def l2 : LSpec := ⟨[(0, .d (.slice .str)), (5, .d (.slice .str)), (6, .d (.int .i64)), (7, .d (.int .i64))], [(.ret, [(2, .d .bool)]), (.exit 0, [])]⟩
def B2 (n : Nat) {R : Type} (next : Sden l2.inS → Option R) (cs : Conts R l2.outs) (x : Sden l2.inS) : Option R :=
  if (decide (x.2.2.2.1 < x.2.2.1)) = true then
   if (decide (0 ≤ x.2.2.2.1 ∧ x.2.2.2.1 < (List.length x.2.1 : Int))) = true then
   (impl_isName.f n ((List.getD x.2.1 (Int.toNat x.2.2.2.1) (⟨#[]⟩ : ByteArray)), ())).bind fun y1 =>
 if (!((!(!y1.1)) && (decide (x.2.2.2.1 > (0 : Int)))) || (decide (0 ≤ (IntKind.i64.wrap (x.2.2.2.1 - (1 : Int))) ∧ (IntKind.i64.wrap (x.2.2.2.1 - (1 : Int))) < (List.length x.1 : Int)))) = true then
   if ((!y1.1) || ((decide (x.2.2.2.1 > (0 : Int))) && (!slt (List.getD x.1 (Int.toNat (IntKind.i64.wrap (x.2.2.2.1 - (1 : Int)))) (⟨#[]⟩ : ByteArray)) (List.getD x.2.1 (Int.toNat x.2.2.2.1) (⟨#[]⟩ : ByteArray))))) = true then
   cs.1 (false, ())
 else
   next (x.1, x.2.1, x.2.2.1, (IntKind.i64.wrap (x.2.2.2.1 + (1 : Int))), ())
 else
   none
 else
   none
 else
   cs.2.1 ()
def f (n : Nat) (x : Tup [(.slice .str)]) : Option (Tup [.bool]) :=
  runL (B2 n) ((fun z2 =>
     some (z2.1, ())), (fun z3 =>
     some (true, ())), ()) n (x.1, x.1, (List.length x.1 : Int), (0 : Int), ())
@[reducible] def sig (n : Nat) : Sig := ⟨[(.slice .str)], [.bool], false, f n, none, none⟩
def T (n : Nat) : FuncId → Option Sig := fun g => if Nat.beq g 40 = true then some (impl_isName.sig n) else none
def TL (n : Nat) : Loops := fun j _ st k => if Nat.beq j 2 = true then (match dec st l2.inS [] with | some x => runL (B2 n) (contsOf k l2.outs) n x | none => none) else none
theorem d2 (n : Nat) : LoopDef Tryd.prog (T n) (TL n) Tryd.f41 2 :=
  ⟨l2, fun R => B2 n, n, fun R st k => by kernel_rfl, fun R next cs x => by kernel_rfl⟩
theorem con (n : Nat) : Con Tryd.prog 41 (sig n) :=
  con_print (hsw := rfl) (hsx := rfl) (T := T n) (TL := TL n) (c := Tryd.f41.body.getD .skip) (js := [2]) hMixed (conT_cons (impl_isName.con n) conT_none) Tryd.func41 (by decide) (by kernel_rfl) (by kernel_rfl) (by decide) (LoopDef.cons (d2 n) LoopDef.nil) (fun x => by kernel_rfl)
end impl_ascendingNames
namespace impl_sortOf
def f (n : Nat) (x : Ty.den tGateField) (q : Tup []) : Option (Ty.den tGateField × Tup [(.int .i64), .bool]) := some (x, (place4 x.2.1, decide (0 ≤ place4 x.2.1), ()))
@[reducible] def sig (n : Nat) : Sig := ⟨[], [], false, fun _ => none, some ⟨.unit, [], [], fun _ _ => none, some ⟨false, none, some [103, 105, 106, 107], tGateField, [], tGateField, [(.int .i64), .bool], f n⟩, none⟩, none⟩
theorem mk0 : MakerOk Tryd.prog 47 103 85 11 57 :=
  maker_of (by kernel_rfl) Tryd.func57 (by kernel_rfl) (by kernel_rfl) (by kernel_rfl) (by decide)
theorem mk1 : MakerOk Tryd.prog 47 105 85 11 58 :=
  maker_of (by kernel_rfl) Tryd.func58 (by kernel_rfl) (by kernel_rfl) (by kernel_rfl) (by decide)
theorem mk2 : MakerOk Tryd.prog 47 106 85 11 59 :=
  maker_of (by kernel_rfl) Tryd.func59 (by kernel_rfl) (by kernel_rfl) (by kernel_rfl) (by decide)
theorem mk3 : MakerOk Tryd.prog 47 107 85 11 60 :=
  maker_of (by kernel_rfl) Tryd.func60 (by kernel_rfl) (by kernel_rfl) (by kernel_rfl) (by decide)
theorem con (n : Nat) : Con Tryd.prog 51 (sig n) :=
  con_pick (tF := 47) (tK := 3) (tM := 108) (tR := 109) (tE := 104) (tI := 85) (tB := 4) (fld := 1) (off := 1) (n := 11) (g := fun j => ([57, 58, 59, 60] : List Nat).getD j 0) (tS := fun j => ([103, 105, 106, 107] : List Nat).getD j 0) (L := posOf (Tryd.f51.body.getD .skip)) (pick_of (by kernel_rfl)) Tryd.func51 (by decide) (by kernel_rfl) (by kernel_rfl) (by kernel_rfl) (fun j hj => match j, hj with | 0, _ => mk0 | 1, _ => mk1 | 2, _ => mk2 | 3, _ => mk3) (t := tGateField) (by kernel_rfl) (by kernel_rfl) (fun x => x.2.1) (fun x => by kernel_rfl)
end impl_sortOf
namespace impl_numberField_clean
def f (n : Nat) (x : Tup [tnumberField]) : Option (Tup [.bool]) :=
  some (((((List.length x.1.1.2.2.2.2.1 : Int) == (0 : Int)) && (seq x.1.1.2.2.2.2.2.1 (⟨#[]⟩ : ByteArray))) && (x.1.1.2.2.2.2.2.2.1 == (0 : Int))), ())
@[reducible] def sig (n : Nat) : Sig := ⟨[tnumberField], [.bool], false, f n, none, none⟩
def T (n : Nat) : FuncId → Option Sig := fun g => none
def TL (n : Nat) : Loops := fun j _ st k => none
theorem con (n : Nat) : Con Tryd.prog 86 (sig n) :=
  con_print (hsw := rfl) (hsx := rfl) (T := T n) (TL := TL n) (c := Tryd.f86.body.getD .skip) (js := []) hMixed conT_none Tryd.func86 (by decide) (by kernel_rfl) (by kernel_rfl) (by decide) LoopDef.nil (fun x => by kernel_rfl)
end impl_numberField_clean
namespace impl_wordField_clean
def f (n : Nat) (x : Tup [tnumberField]) : Option (Tup [.bool]) :=
  some ((((((x.1.1.2.2.1 == (0 : Int)) && (x.1.1.2.2.2.1 == (0 : Int))) && (seq x.1.1.2.2.2.2.2.1 (⟨#[]⟩ : ByteArray))) && (x.1.1.2.2.2.2.2.2.1 == (0 : Int))) && (seq x.1.1.2.2.2.2.2.2.2.2.2.2.1 (⟨#[]⟩ : ByteArray))), ())
@[reducible] def sig (n : Nat) : Sig := ⟨[tnumberField], [.bool], false, f n, none, none⟩
def T (n : Nat) : FuncId → Option Sig := fun g => none
def TL (n : Nat) : Loops := fun j _ st k => none
theorem con (n : Nat) : Con Tryd.prog 90 (sig n) :=
  con_print (hsw := rfl) (hsx := rfl) (T := T n) (TL := TL n) (c := Tryd.f90.body.getD .skip) (js := []) hMixed conT_none Tryd.func90 (by decide) (by kernel_rfl) (by kernel_rfl) (by decide) LoopDef.nil (fun x => by kernel_rfl)
end impl_wordField_clean
namespace impl_textField_clean
def f (n : Nat) (x : Tup [tnumberField]) : Option (Tup [.bool]) :=
  some ((((((List.length x.1.1.2.2.2.2.1 : Int) == (0 : Int)) && (seq x.1.1.2.2.2.2.2.1 (⟨#[]⟩ : ByteArray))) && (x.1.1.2.2.2.2.2.2.1 == (0 : Int))) && (seq x.1.1.2.2.2.2.2.2.2.2.2.2.1 (⟨#[]⟩ : ByteArray))), ())
@[reducible] def sig (n : Nat) : Sig := ⟨[tnumberField], [.bool], false, f n, none, none⟩
def T (n : Nat) : FuncId → Option Sig := fun g => none
def TL (n : Nat) : Loops := fun j _ st k => none
theorem con (n : Nat) : Con Tryd.prog 93 (sig n) :=
  con_print (hsw := rfl) (hsx := rfl) (T := T n) (TL := TL n) (c := Tryd.f93.body.getD .skip) (js := []) hMixed conT_none Tryd.func93 (by decide) (by kernel_rfl) (by kernel_rfl) (by decide) LoopDef.nil (fun x => by kernel_rfl)
end impl_textField_clean
namespace impl_linkField_clean
def f (n : Nat) (x : Tup [tnumberField]) : Option (Tup [.bool]) :=
  some (((((x.1.1.2.2.1 == (0 : Int)) && (x.1.1.2.2.2.1 == (0 : Int))) && ((List.length x.1.1.2.2.2.2.1 : Int) == (0 : Int))) && (seq x.1.1.2.2.2.2.2.2.2.2.2.2.1 (⟨#[]⟩ : ByteArray))), ())
@[reducible] def sig (n : Nat) : Sig := ⟨[tnumberField], [.bool], false, f n, none, none⟩
def T (n : Nat) : FuncId → Option Sig := fun g => none
def TL (n : Nat) : Loops := fun j _ st k => none
theorem con (n : Nat) : Con Tryd.prog 96 (sig n) :=
  con_print (hsw := rfl) (hsx := rfl) (T := T n) (TL := TL n) (c := Tryd.f96.body.getD .skip) (js := []) hMixed conT_none Tryd.func96 (by decide) (by kernel_rfl) (by kernel_rfl) (by decide) LoopDef.nil (fun x => by kernel_rfl)
end impl_linkField_clean
namespace impl_numberField_sound
def f (n : Nat) (x : Tup [tnumberField, (.slice .str)]) : Option (Tup [.bool]) :=
  (if ((((decide (x.1.1.2.2.1 ≥ (0 : Int))) && (decide (x.1.1.2.2.1 ≤ x.1.1.2.2.2.1))) && (decide (x.1.1.2.2.2.1 ≤ (1000000 : Int)))) && (!(seq x.1.1.2.2.2.2.2.2.2.2.2.2.1 (⟨#[]⟩ : ByteArray)))) = true then (impl_isName.f n (x.1.1.2.2.2.2.2.2.2.2.2.2.1, ())) else some (tzero [.bool])).bind fun y1 =>
 some (((((decide (x.1.1.2.2.1 ≥ (0 : Int))) && (decide (x.1.1.2.2.1 ≤ x.1.1.2.2.2.1))) && (decide (x.1.1.2.2.2.1 ≤ (1000000 : Int)))) && ((seq x.1.1.2.2.2.2.2.2.2.2.2.2.1 (⟨#[]⟩ : ByteArray)) || y1.1)), ())
@[reducible] def sig (n : Nat) : Sig := ⟨[tnumberField, (.slice .str)], [.bool], false, f n, none, none⟩
def T (n : Nat) : FuncId → Option Sig := fun g => if Nat.beq g 40 = true then some (impl_isName.sig n) else none
def TL (n : Nat) : Loops := fun j _ st k => none
theorem con (n : Nat) : Con Tryd.prog 88 (sig n) :=
  con_print (hsw := rfl) (hsx := rfl) (T := T n) (TL := TL n) (c := Tryd.f88.body.getD .skip) (js := []) hMixed (conT_cons (impl_isName.con n) conT_none) Tryd.func88 (by decide) (by kernel_rfl) (by kernel_rfl) (by decide) LoopDef.nil (fun x => by kernel_rfl)
end impl_numberField_sound
namespace impl_wordField_sound
def f (n : Nat) (x : Tup [tnumberField, (.slice .str)]) : Option (Tup [.bool]) :=
  (if ((decide ((List.length x.1.1.2.2.2.2.1 : Int) ≥ (1 : Int))) && (decide ((List.length x.1.1.2.2.2.2.1 : Int) ≤ (6 : Int)))) = true then (impl_ascendingNames.f n (x.1.1.2.2.2.2.1, ())) else some (tzero [.bool])).bind fun y1 =>
 some ((((decide ((List.length x.1.1.2.2.2.2.1 : Int) ≥ (1 : Int))) && (decide ((List.length x.1.1.2.2.2.2.1 : Int) ≤ (6 : Int)))) && y1.1), ())
@[reducible] def sig (n : Nat) : Sig := ⟨[tnumberField, (.slice .str)], [.bool], false, f n, none, none⟩
def T (n : Nat) : FuncId → Option Sig := fun g => if Nat.beq g 41 = true then some (impl_ascendingNames.sig n) else none
def TL (n : Nat) : Loops := fun j _ st k => none
theorem con (n : Nat) : Con Tryd.prog 92 (sig n) :=
  con_print (hsw := rfl) (hsx := rfl) (T := T n) (TL := TL n) (c := Tryd.f92.body.getD .skip) (js := []) hMixed (conT_cons (impl_ascendingNames.con n) conT_none) Tryd.func92 (by decide) (by kernel_rfl) (by kernel_rfl) (by decide) LoopDef.nil (fun x => by kernel_rfl)
end impl_wordField_sound
namespace impl_textField_sound
def f (n : Nat) (x : Tup [tnumberField, (.slice .str)]) : Option (Tup [.bool]) :=
  some ((((decide (x.1.1.2.2.1 ≥ (1 : Int))) && (decide (x.1.1.2.2.1 ≤ x.1.1.2.2.2.1))) && (decide (x.1.1.2.2.2.1 ≤ (40 : Int)))), ())
@[reducible] def sig (n : Nat) : Sig := ⟨[tnumberField, (.slice .str)], [.bool], false, f n, none, none⟩
def T (n : Nat) : FuncId → Option Sig := fun g => none
def TL (n : Nat) : Loops := fun j _ st k => none
theorem con (n : Nat) : Con Tryd.prog 95 (sig n) :=
  con_print (hsw := rfl) (hsx := rfl) (T := T n) (TL := TL n) (c := Tryd.f95.body.getD .skip) (js := []) hMixed conT_none Tryd.func95 (by decide) (by kernel_rfl) (by kernel_rfl) (by decide) LoopDef.nil (fun x => by kernel_rfl)
end impl_textField_sound
namespace impl_linkField_sound
@[reducible] def l3 : LSpec := ⟨[(2, .rb tnumberField), (5, .d .bool), (8, .d (.slice .str)), (9, .d (.int .i64)), (10, .d (.int .i64))], [(.exit 0, [(2, .rb tnumberField), (5, .d .bool)])]⟩
def B3 (n : Nat) {R : Type} (next : Sden l3.inS → Option R) (cs : Conts R l3.outs) (x : Sden l3.inS) : Option R :=
  if (decide (x.2.2.2.2.1 < x.2.2.2.1)) = true then
   if (decide (0 ≤ x.2.2.2.2.1 ∧ x.2.2.2.2.1 < (List.length x.2.2.1 : Int))) = true then
   next (x.1, (x.2.1 || (seq (List.getD x.2.2.1 (Int.toNat x.2.2.2.2.1) (⟨#[]⟩ : ByteArray)) x.1.1.2.2.2.2.2.1)), x.2.2.1, x.2.2.2.1, (IntKind.i64.wrap (x.2.2.2.2.1 + (1 : Int))), ())
 else
   none
 else
   cs.1 (x.1, x.2.1, ())
def f (n : Nat) (x : Tup [tnumberField, (.slice .str)]) : Option (Tup [.bool]) :=
  runL (B3 n) ((fun z1 =>
     some (((((z1.2.1 && (decide (z1.1.1.2.2.2.2.2.2.1 ≥ (1 : Int)))) && (decide (z1.1.1.2.2.2.2.2.2.1 ≤ (3 : Int)))) && (seq z1.1.1.2.2.2.2.2.2.2.2.2.1 (⟨#[]⟩ : ByteArray))) && (!((z1.1.1.2.2.2.2.2.2.1 == (2 : Int)) && z1.1.1.2.2.2.2.2.2.2.1))), ())), ()) n (x.1, false, x.2.1, (List.length x.2.1 : Int), (0 : Int), ())
@[reducible] def sig (n : Nat) : Sig := ⟨[tnumberField, (.slice .str)], [.bool], false, f n, none, none⟩
def T (n : Nat) : FuncId → Option Sig := fun g => none
def TL (n : Nat) : Loops := fun j _ st k => if Nat.beq j 3 = true then (match dec st l3.inS [] with | some x => runL (B3 n) (contsOf k l3.outs) n x | none => none) else none
theorem d3 (n : Nat) : LoopDef Tryd.prog (T n) (TL n) Tryd.f98 3 :=
  ⟨l3, fun R => B3 n, n, fun R st k => by kernel_rfl, fun R next cs x => by kernel_rfl⟩
theorem con (n : Nat) : Con Tryd.prog 98 (sig n) :=
  con_print (hsw := rfl) (hsx := rfl) (T := T n) (TL := TL n) (c := Tryd.f98.body.getD .skip) (js := [3]) hMixed conT_none Tryd.func98 (by decide) (by kernel_rfl) (by kernel_rfl) (by decide) (LoopDef.cons (d3 n) LoopDef.nil) (fun x => by kernel_rfl)
end impl_linkField_sound
namespace impl_decimal
@[reducible] def l5 : LSpec := ⟨[(0, .d .str), (4, .d (.int .i64)), (25, .d (.int .i64)), (26, .d (.int .i64))], [(.ret, [(2, .d (.int .i64)), (3, .d .bool)]), (.exit 0, [(4, .d (.int .i64))])]⟩
def B5 (n : Nat) {R : Type} (next : Sden l5.inS → Option R) (cs : Conts R l5.outs) (x : Sden l5.inS) : Option R :=
  if (decide (x.2.2.2.1 < x.2.2.1)) = true then
   if (decide (0 ≤ x.2.2.2.1 ∧ x.2.2.2.1 < (ByteArray.size x.1 : Int))) = true then
   if (!(!(decide ((byteAt x.1 x.2.2.2.1) < (48 : Int)))) || (decide (0 ≤ x.2.2.2.1 ∧ x.2.2.2.1 < (ByteArray.size x.1 : Int)))) = true then
   if ((decide ((byteAt x.1 x.2.2.2.1) < (48 : Int))) || (decide ((byteAt x.1 x.2.2.2.1) > (57 : Int)))) = true then
 cs.1 ((0 : Int), false, ())
 else if (decide (0 ≤ x.2.2.2.1 ∧ x.2.2.2.1 < (ByteArray.size x.1 : Int))) = true then
   next (x.1, (IntKind.i64.wrap ((IntKind.i64.wrap (x.2.1 * (10 : Int))) + (IntKind.i64.wrap (IntKind.u8.wrap ((byteAt x.1 x.2.2.2.1) - (48 : Int)))))), x.2.2.1, (IntKind.i64.wrap (x.2.2.2.1 + (1 : Int))), ())
 else
   none
 else
   none
 else
   none
 else
   cs.2.1 (x.2.1, ())
def f (n : Nat) (x : Tup [.str]) : Option (Tup [(.int .i64), .bool]) :=
  if (!(!((decide ((ByteArray.size x.1 : Int) < (1 : Int))) || (decide ((ByteArray.size x.1 : Int) > (7 : Int))))) || (decide (0 ≤ (0 : Int) ∧ (0 : Int) < (ByteArray.size x.1 : Int)))) = true then
   if (((decide ((ByteArray.size x.1 : Int) < (1 : Int))) || (decide ((ByteArray.size x.1 : Int) > (7 : Int)))) || (((byteAt x.1 (0 : Int)) == (48 : Int)) && (decide ((ByteArray.size x.1 : Int) > (1 : Int))))) = true then
   some ((0 : Int), false, ())
 else
   runL (B5 n) ((fun z1 =>
     some (z1.1, z1.2.1, ())), (fun z2 =>
     some (z2.1, true, ())), ()) n (x.1, (0 : Int), (ByteArray.size x.1 : Int), (0 : Int), ())
 else
   none
@[reducible] def sig (n : Nat) : Sig := ⟨[.str], [(.int .i64), .bool], false, f n, none, none⟩
def T (n : Nat) : FuncId → Option Sig := fun g => none
def TL (n : Nat) : Loops := fun j _ st k => if Nat.beq j 5 = true then (match dec st l5.inS [] with | some x => runL (B5 n) (contsOf k l5.outs) n x | none => none) else none
theorem d5 (n : Nat) : LoopDef Tryd.prog (T n) (TL n) Tryd.f89 5 :=
  ⟨l5, fun R => B5 n, n, fun R st k => by kernel_rfl, fun R next cs x => by kernel_rfl⟩
theorem con (n : Nat) : Con Tryd.prog 89 (sig n) :=
  con_print (hsw := rfl) (hsx := rfl) (T := T n) (TL := TL n) (c := Tryd.f89.body.getD .skip) (js := [5]) hMixed conT_none Tryd.func89 (by decide) (by kernel_rfl) (by kernel_rfl) (by decide) (LoopDef.cons (d5 n) LoopDef.nil) (fun x => by kernel_rfl)
end impl_decimal
namespace impl_numberField_fits
def f (n : Nat) (x : Tup [tnumberField, .str]) : Option (Tup [.bool]) :=
  (impl_decimal.f n (x.2.1, ())).bind fun y1 =>
 some (((y1.2.1 && (decide (y1.1 ≥ x.1.1.2.2.1))) && (decide (y1.1 ≤ x.1.1.2.2.2.1))), ())
@[reducible] def sig (n : Nat) : Sig := ⟨[tnumberField, .str], [.bool], false, f n, none, none⟩
def T (n : Nat) : FuncId → Option Sig := fun g => if Nat.beq g 89 = true then some (impl_decimal.sig n) else none
def TL (n : Nat) : Loops := fun j _ st k => none
theorem con (n : Nat) : Con Tryd.prog 87 (sig n) :=
  con_print (hsw := rfl) (hsx := rfl) (T := T n) (TL := TL n) (c := Tryd.f87.body.getD .skip) (js := []) hMixed (conT_cons (impl_decimal.con n) conT_none) Tryd.func87 (by decide) (by kernel_rfl) (by kernel_rfl) (by decide) LoopDef.nil (fun x => by kernel_rfl)
end impl_numberField_fits
namespace impl_wordField_fits
@[reducible] def l2 : LSpec := ⟨[(1, .d .str), (9, .d (.slice .str)), (10, .d (.int .i64)), (11, .d (.int .i64))], [(.ret, [(4, .d .bool)]), (.exit 0, [])]⟩
def B2 (n : Nat) {R : Type} (next : Sden l2.inS → Option R) (cs : Conts R l2.outs) (x : Sden l2.inS) : Option R :=
  if (decide (x.2.2.2.1 < x.2.2.1)) = true then
   if (decide (0 ≤ x.2.2.2.1 ∧ x.2.2.2.1 < (List.length x.2.1 : Int))) = true then
   if (seq (List.getD x.2.1 (Int.toNat x.2.2.2.1) (⟨#[]⟩ : ByteArray)) x.1) = true then
   cs.1 (true, ())
 else
   next (x.1, x.2.1, x.2.2.1, (IntKind.i64.wrap (x.2.2.2.1 + (1 : Int))), ())
 else
   none
 else
   cs.2.1 ()
def f (n : Nat) (x : Tup [tnumberField, .str]) : Option (Tup [.bool]) :=
  runL (B2 n) ((fun z1 =>
     some (z1.1, ())), (fun z2 =>
     some (false, ())), ()) n (x.2.1, x.1.1.2.2.2.2.1, (List.length x.1.1.2.2.2.2.1 : Int), (0 : Int), ())
@[reducible] def sig (n : Nat) : Sig := ⟨[tnumberField, .str], [.bool], false, f n, none, none⟩
def T (n : Nat) : FuncId → Option Sig := fun g => none
def TL (n : Nat) : Loops := fun j _ st k => if Nat.beq j 2 = true then (match dec st l2.inS [] with | some x => runL (B2 n) (contsOf k l2.outs) n x | none => none) else none
theorem d2 (n : Nat) : LoopDef Tryd.prog (T n) (TL n) Tryd.f91 2 :=
  ⟨l2, fun R => B2 n, n, fun R st k => by kernel_rfl, fun R next cs x => by kernel_rfl⟩
theorem con (n : Nat) : Con Tryd.prog 91 (sig n) :=
  con_print (hsw := rfl) (hsx := rfl) (T := T n) (TL := TL n) (c := Tryd.f91.body.getD .skip) (js := [2]) hMixed conT_none Tryd.func91 (by decide) (by kernel_rfl) (by kernel_rfl) (by decide) (LoopDef.cons (d2 n) LoopDef.nil) (fun x => by kernel_rfl)
end impl_wordField_fits
namespace impl_textField_fits
@[reducible] def l4 : LSpec := ⟨[(1, .d .str), (21, .d (.int .i64)), (22, .d (.int .i64))], [(.ret, [(4, .d .bool)]), (.exit 0, [])]⟩
def B4 (n : Nat) {R : Type} (next : Sden l4.inS → Option R) (cs : Conts R l4.outs) (x : Sden l4.inS) : Option R :=
  if (decide (x.2.2.1 < x.2.1)) = true then
   if (decide (0 ≤ x.2.2.1 ∧ x.2.2.1 < (ByteArray.size x.1 : Int))) = true then
   if (!(!(decide ((byteAt x.1 x.2.2.1) < (33 : Int)))) || (decide (0 ≤ x.2.2.1 ∧ x.2.2.1 < (ByteArray.size x.1 : Int)))) = true then
   if ((decide ((byteAt x.1 x.2.2.1) < (33 : Int))) || (decide ((byteAt x.1 x.2.2.1) > (126 : Int)))) = true then
   cs.1 (false, ())
 else
   next (x.1, x.2.1, (IntKind.i64.wrap (x.2.2.1 + (1 : Int))), ())
 else
   none
 else
   none
 else
   cs.2.1 ()
def f (n : Nat) (x : Tup [tnumberField, .str]) : Option (Tup [.bool]) :=
  if ((decide ((ByteArray.size x.2.1 : Int) < x.1.1.2.2.1)) || (decide ((ByteArray.size x.2.1 : Int) > x.1.1.2.2.2.1))) = true then
   some (false, ())
 else
   runL (B4 n) ((fun z1 =>
     some (z1.1, ())), (fun z2 =>
     some (true, ())), ()) n (x.2.1, (ByteArray.size x.2.1 : Int), (0 : Int), ())
@[reducible] def sig (n : Nat) : Sig := ⟨[tnumberField, .str], [.bool], false, f n, none, none⟩
def T (n : Nat) : FuncId → Option Sig := fun g => none
def TL (n : Nat) : Loops := fun j _ st k => if Nat.beq j 4 = true then (match dec st l4.inS [] with | some x => runL (B4 n) (contsOf k l4.outs) n x | none => none) else none
theorem d4 (n : Nat) : LoopDef Tryd.prog (T n) (TL n) Tryd.f94 4 :=
  ⟨l4, fun R => B4 n, n, fun R st k => by kernel_rfl, fun R next cs x => by kernel_rfl⟩
theorem con (n : Nat) : Con Tryd.prog 94 (sig n) :=
  con_print (hsw := rfl) (hsx := rfl) (T := T n) (TL := TL n) (c := Tryd.f94.body.getD .skip) (js := [4]) hMixed conT_none Tryd.func94 (by decide) (by kernel_rfl) (by kernel_rfl) (by decide) (LoopDef.cons (d4 n) LoopDef.nil) (fun x => by kernel_rfl)
end impl_textField_fits
namespace impl_linkField_fits
def f (n : Nat) (x : Tup [tnumberField, .str]) : Option (Tup [.bool]) :=
  (impl_isName.f n (x.2.1, ())).bind fun y1 =>
 some (y1.1, ())
@[reducible] def sig (n : Nat) : Sig := ⟨[tnumberField, .str], [.bool], false, f n, none, none⟩
def T (n : Nat) : FuncId → Option Sig := fun g => if Nat.beq g 40 = true then some (impl_isName.sig n) else none
def TL (n : Nat) : Loops := fun j _ st k => none
theorem con (n : Nat) : Con Tryd.prog 97 (sig n) :=
  con_print (hsw := rfl) (hsx := rfl) (T := T n) (TL := TL n) (c := Tryd.f97.body.getD .skip) (js := []) hMixed (conT_cons (impl_isName.con n) conT_none) Tryd.func97 (by decide) (by kernel_rfl) (by kernel_rfl) (by decide) LoopDef.nil (fun x => by kernel_rfl)
end impl_linkField_fits
namespace impl_GateFits
def f (n : Nat) (x : Tup [tGateField, .str]) : Option (Tup [.bool]) :=
  (impl_sortOf.f n x.1 ()).bind fun y1 =>
 (if (y1.2.2.1 && (!seq x.2.1 (⟨#[]⟩ : ByteArray))) = true then (if (decide (y1.2.1 = 0)) = true then ((impl_numberField_fits.f n ((y1.1, ()), x.2.1, ())).bind fun r => some r.1) else (if (decide ((y1.2.1 - 1) = 0)) = true then ((impl_wordField_fits.f n ((y1.1, ()), x.2.1, ())).bind fun r => some r.1) else (if (decide (((y1.2.1 - 1) - 1) = 0)) = true then ((impl_textField_fits.f n ((y1.1, ()), x.2.1, ())).bind fun r => some r.1) else (if (decide ((((y1.2.1 - 1) - 1) - 1) = 0)) = true then ((impl_linkField_fits.f n ((y1.1, ()), x.2.1, ())).bind fun r => some r.1) else none)))) else some false).bind fun y2 =>
 some (((y1.2.2.1 && (!seq x.2.1 (⟨#[]⟩ : ByteArray))) && y2), ())
@[reducible] def sig (n : Nat) : Sig := ⟨[tGateField, .str], [.bool], false, f n, none, none⟩
def T (n : Nat) : FuncId → Option Sig := fun g => if Nat.beq g 51 = true then some (impl_sortOf.sig n) else if Nat.beq g 87 = true then some (impl_numberField_fits.sig n) else if Nat.beq g 91 = true then some (impl_wordField_fits.sig n) else if Nat.beq g 94 = true then some (impl_textField_fits.sig n) else if Nat.beq g 97 = true then some (impl_linkField_fits.sig n) else none
def TL (n : Nat) : Loops := fun j _ st k => none
theorem con (n : Nat) : Con Tryd.prog 42 (sig n) :=
  con_print (hsw := rfl) (hsx := rfl) (T := T n) (TL := TL n) (c := Tryd.f42.body.getD .skip) (js := []) hMixed (conT_cons (impl_sortOf.con n) (conT_cons (impl_numberField_fits.con n) (conT_cons (impl_wordField_fits.con n) (conT_cons (impl_textField_fits.con n) (conT_cons (impl_linkField_fits.con n) conT_none))))) Tryd.func42 (by decide) (by kernel_rfl) (by kernel_rfl) (by decide) LoopDef.nil (fun x => by kernel_rfl)
end impl_GateFits
namespace impl_shapeOk
@[reducible] def l5 : LSpec := ⟨[(1, .d (.slice .str)), (5, .mp .str), (16, .d (.slice tGateField)), (17, .d (.int .i64)), (18, .d (.int .i64))], [(.ret, [(4, .d .bool)]), (.exit 0, [])]⟩
def B5 (n : Nat) {R : Type} (next : Sden l5.inS → Option R) (cs : Conts R l5.outs) (x : Sden l5.inS) : Option R :=
  if (decide (x.2.2.2.2.1 < x.2.2.2.1)) = true then
   if (decide (0 ≤ x.2.2.2.2.1 ∧ x.2.2.2.2.1 < (List.length x.2.2.1 : Int))) = true then
   (impl_isName.f n ((List.getD x.2.2.1 (Int.toNat x.2.2.2.2.1) (Ty.zero tGateField)).1, ())).bind fun y1 =>
 if ((!y1.1) || (decide ((mget .str (mput .str x.2.1 (List.getD x.2.2.1 (Int.toNat x.2.2.2.2.1) (Ty.zero tGateField)).1 (IntKind.i64.wrap ((mget .str x.2.1 (List.getD x.2.2.1 (Int.toNat x.2.2.2.2.1) (Ty.zero tGateField)).1) + (1 : Int)))) (List.getD x.2.2.1 (Int.toNat x.2.2.2.2.1) (Ty.zero tGateField)).1) > (1 : Int)))) = true then
   cs.1 (false, ())
 else
   (impl_sortOf.f n (List.getD x.2.2.1 (Int.toNat x.2.2.2.2.1) (Ty.zero tGateField)) ()).bind fun y2 =>
 (if (!(!y2.2.2.1)) = true then (if (decide (y2.2.1 = 0)) = true then ((impl_numberField_clean.f n ((y2.1, ()), ())).bind fun r => some r.1) else (if (decide ((y2.2.1 - 1) = 0)) = true then ((impl_wordField_clean.f n ((y2.1, ()), ())).bind fun r => some r.1) else (if (decide (((y2.2.1 - 1) - 1) = 0)) = true then ((impl_textField_clean.f n ((y2.1, ()), ())).bind fun r => some r.1) else (if (decide ((((y2.2.1 - 1) - 1) - 1) = 0)) = true then ((impl_linkField_clean.f n ((y2.1, ()), ())).bind fun r => some r.1) else none)))) else some false).bind fun y3 =>
 (if (!((!y2.2.2.1) || (!y3))) = true then (if (decide (y2.2.1 = 0)) = true then ((impl_numberField_sound.f n ((y2.1, ()), x.1, ())).bind fun r => some r.1) else (if (decide ((y2.2.1 - 1) = 0)) = true then ((impl_wordField_sound.f n ((y2.1, ()), x.1, ())).bind fun r => some r.1) else (if (decide (((y2.2.1 - 1) - 1) = 0)) = true then ((impl_textField_sound.f n ((y2.1, ()), x.1, ())).bind fun r => some r.1) else (if (decide ((((y2.2.1 - 1) - 1) - 1) = 0)) = true then ((impl_linkField_sound.f n ((y2.1, ()), x.1, ())).bind fun r => some r.1) else none)))) else some false).bind fun y4 =>
 if (((!y2.2.2.1) || (!y3)) || (!y4)) = true then
   cs.1 (false, ())
 else
   (if (!seq (List.getD x.2.2.1 (Int.toNat x.2.2.2.2.1) (Ty.zero tGateField)).2.2.2.2.2.2.2.2.2.1 (⟨#[]⟩ : ByteArray)) = true then (impl_GateFits.f n ((List.getD x.2.2.1 (Int.toNat x.2.2.2.2.1) (Ty.zero tGateField)), (List.getD x.2.2.1 (Int.toNat x.2.2.2.2.1) (Ty.zero tGateField)).2.2.2.2.2.2.2.2.2.1, ())) else some (tzero [.bool])).bind fun y5 =>
 if ((!seq (List.getD x.2.2.1 (Int.toNat x.2.2.2.2.1) (Ty.zero tGateField)).2.2.2.2.2.2.2.2.2.1 (⟨#[]⟩ : ByteArray)) && (!y5.1)) = true then
   cs.1 (false, ())
 else
   next (x.1, (mput .str x.2.1 (List.getD x.2.2.1 (Int.toNat x.2.2.2.2.1) (Ty.zero tGateField)).1 (IntKind.i64.wrap ((mget .str x.2.1 (List.getD x.2.2.1 (Int.toNat x.2.2.2.2.1) (Ty.zero tGateField)).1) + (1 : Int)))), x.2.2.1, x.2.2.2.1, (IntKind.i64.wrap (x.2.2.2.2.1 + (1 : Int))), ())
 else
   none
 else
   cs.2.1 ()
def f (n : Nat) (x : Tup [tGateShape, (.slice .str)]) : Option (Tup [.bool]) :=
  if (decide ((List.length x.1.2.1 : Int) > (6 : Int))) = true then
   some (false, ())
 else
   runL (B5 n) ((fun z6 =>
     some (z6.1, ())), (fun z7 =>
     some (true, ())), ()) n (x.2.1, [], x.1.2.1, (List.length x.1.2.1 : Int), (0 : Int), ())
@[reducible] def sig (n : Nat) : Sig := ⟨[tGateShape, (.slice .str)], [.bool], false, f n, none, none⟩
def T (n : Nat) : FuncId → Option Sig := fun g => if Nat.beq g 40 = true then some (impl_isName.sig n) else if Nat.beq g 42 = true then some (impl_GateFits.sig n) else if Nat.beq g 51 = true then some (impl_sortOf.sig n) else if Nat.beq g 86 = true then some (impl_numberField_clean.sig n) else if Nat.beq g 88 = true then some (impl_numberField_sound.sig n) else if Nat.beq g 90 = true then some (impl_wordField_clean.sig n) else if Nat.beq g 92 = true then some (impl_wordField_sound.sig n) else if Nat.beq g 93 = true then some (impl_textField_clean.sig n) else if Nat.beq g 95 = true then some (impl_textField_sound.sig n) else if Nat.beq g 96 = true then some (impl_linkField_clean.sig n) else if Nat.beq g 98 = true then some (impl_linkField_sound.sig n) else none
def TL (n : Nat) : Loops := fun j _ st k => if Nat.beq j 5 = true then (match dec st l5.inS [] with | some x => runL (B5 n) (contsOf k l5.outs) n x | none => none) else none
theorem d5 (n : Nat) : LoopDef Tryd.prog (T n) (TL n) Tryd.f49 5 :=
  ⟨l5, fun R => B5 n, n, fun R st k => by kernel_rfl, fun R next cs x => by kernel_rfl⟩
theorem con (n : Nat) : Con Tryd.prog 49 (sig n) :=
  con_print (hsw := rfl) (hsx := rfl) (T := T n) (TL := TL n) (c := Tryd.f49.body.getD .skip) (js := [5]) hMixed (conT_cons (impl_isName.con n) (conT_cons (impl_GateFits.con n) (conT_cons (impl_sortOf.con n) (conT_cons (impl_numberField_clean.con n) (conT_cons (impl_numberField_sound.con n) (conT_cons (impl_wordField_clean.con n) (conT_cons (impl_wordField_sound.con n) (conT_cons (impl_textField_clean.con n) (conT_cons (impl_textField_sound.con n) (conT_cons (impl_linkField_clean.con n) (conT_cons (impl_linkField_sound.con n) conT_none))))))))))) Tryd.func49 (by decide) (by kernel_rfl) (by kernel_rfl) (by decide) (LoopDef.cons (d5 n) LoopDef.nil) (fun x => by kernel_rfl)
end impl_shapeOk
namespace impl_GateShapesOk
@[reducible] def l5 : LSpec := ⟨[(0, .d (.slice tGateShape)), (3, .row true .str), (14, .d (.slice tGateShape)), (15, .d (.int .i64)), (16, .d (.int .i64))], [(.exit 0, [(0, .d (.slice tGateShape)), (3, .row true .str)])]⟩
def B5 (n : Nat) {R : Type} (next : Sden l5.inS → Option R) (cs : Conts R l5.outs) (x : Sden l5.inS) : Option R :=
  if (decide (x.2.2.2.2.1 < x.2.2.2.1)) = true then
   if (decide (0 ≤ x.2.2.2.2.1 ∧ x.2.2.2.2.1 < (List.length x.2.2.1 : Int))) = true then
   if (appBound (List.length x.2.1) (List.length [(List.getD x.2.2.1 (Int.toNat x.2.2.2.2.1) (Ty.zero tGateShape)).1]) 16) = true then
   next (x.1, (x.2.1 ++ [(List.getD x.2.2.1 (Int.toNat x.2.2.2.2.1) (Ty.zero tGateShape)).1]), x.2.2.1, x.2.2.2.1, (IntKind.i64.wrap (x.2.2.2.2.1 + (1 : Int))), ())
 else
   none
 else
   none
 else
   cs.1 (x.1, x.2.1, ())
@[reducible] def l12 : LSpec := ⟨[(3, .row true .str), (29, .d (.slice tGateShape)), (30, .d (.int .i64)), (31, .d (.int .i64))], [(.ret, [(2, .d .bool)]), (.exit 2, [])]⟩
def B12 (n : Nat) {R : Type} (next : Sden l12.inS → Option R) (cs : Conts R l12.outs) (x : Sden l12.inS) : Option R :=
  if (decide (x.2.2.2.1 < x.2.2.1)) = true then
   if (decide (0 ≤ x.2.2.2.1 ∧ x.2.2.2.1 < (List.length x.2.1 : Int))) = true then
   (impl_shapeOk.f n ((List.getD x.2.1 (Int.toNat x.2.2.2.1) (Ty.zero tGateShape)), x.1, ())).bind fun y3 =>
 if (!y3.1) = true then
   cs.1 (false, ())
 else
   next (x.1, x.2.1, x.2.2.1, (IntKind.i64.wrap (x.2.2.2.1 + (1 : Int))), ())
 else
   none
 else
   cs.2.1 ()
def f (n : Nat) (x : Tup [(.slice tGateShape)]) : Option (Tup [.bool]) :=
  if (decide ((List.length x.1 : Int) > (6 : Int))) = true then
 some (false, ())
 else if (decide (0 ≤ (0 : Int) ∧ (0 : Int) ≤ (List.length x.1 : Int) ∧ (List.length x.1 : Int) * (16 : Int) ≤ 140737488355328)) = true then
   runL (B5 n) ((fun z1 =>
     (impl_ascendingNames.f n (z1.2.1, ())).bind fun y2 =>
 if (!y2.1) = true then
   some (false, ())
 else
   runL (B12 n) ((fun z4 =>
     some (z4.1, ())), (fun z5 =>
     some (true, ())), ()) n (z1.2.1, z1.1, (List.length z1.1 : Int), (0 : Int), ())), ()) n (x.1, (List.replicate (Int.toNat (0 : Int)) (⟨#[]⟩ : ByteArray)), x.1, (List.length x.1 : Int), (0 : Int), ())
 else
   none
@[reducible] def sig (n : Nat) : Sig := ⟨[(.slice tGateShape)], [.bool], false, f n, none, none⟩
def T (n : Nat) : FuncId → Option Sig := fun g => if Nat.beq g 41 = true then some (impl_ascendingNames.sig n) else if Nat.beq g 49 = true then some (impl_shapeOk.sig n) else none
def TL (n : Nat) : Loops := fun j _ st k => if Nat.beq j 5 = true then (match dec st l5.inS [] with | some x => runL (B5 n) (contsOf k l5.outs) n x | none => none) else if Nat.beq j 12 = true then (match dec st l12.inS [] with | some x => runL (B12 n) (contsOf k l12.outs) n x | none => none) else none
theorem d5 (n : Nat) : LoopDef Tryd.prog (T n) (TL n) Tryd.f39 5 :=
  ⟨l5, fun R => B5 n, n, fun R st k => by kernel_rfl, fun R next cs x => by kernel_rfl⟩
theorem d12 (n : Nat) : LoopDef Tryd.prog (T n) (TL n) Tryd.f39 12 :=
  ⟨l12, fun R => B12 n, n, fun R st k => by kernel_rfl, fun R next cs x => by kernel_rfl⟩
theorem con (n : Nat) : Con Tryd.prog 39 (sig n) :=
  con_print (hsw := rfl) (hsx := rfl) (T := T n) (TL := TL n) (c := Tryd.f39.body.getD .skip) (js := [5, 12]) hMixed (conT_cons (impl_ascendingNames.con n) (conT_cons (impl_shapeOk.con n) conT_none)) Tryd.func39 (by decide) (by kernel_rfl) (by kernel_rfl) (by decide) (LoopDef.cons (d5 n) (LoopDef.cons (d12 n) LoopDef.nil)) (fun x => by kernel_rfl)
end impl_GateShapesOk
namespace impl_checkForm
def f (n : Nat) (x : Tup [(.slice tGateShape), tGateObject]) : Option (Tup [(.ifp 73 tfault)]) :=
  (impl_fieldsOf.f n (x.1, x.2.1, ())).bind fun y1 =>
 (if (!(!y1.2.1)) = true then (impl_GateShapesOk.f n (x.1, ())) else some (tzero [.bool])).bind fun y2 =>
 (if (!((!y1.2.1) || (!y2.1))) = true then (impl_isName.f n (x.2.1.2.1, ())) else some (tzero [.bool])).bind fun y3 =>
 (if (!(((!y1.2.1) || (!y2.1)) || (!y3.1))) = true then (impl_isName.f n (x.2.1.2.2.1, ())) else some (tzero [.bool])).bind fun y4 =>
 (if (!(((((!y1.2.1) || (!y2.1)) || (!y3.1)) || (!y4.1)) || (decide ((List.length x.2.1.2.2.2.2.2.1 : Int) > (3 : Int))))) = true then (impl_ascendingNames.f n (x.2.1.2.2.2.2.2.1, ())) else some (tzero [.bool])).bind fun y5 =>
 if ((((((((!y1.2.1) || (!y2.1)) || (!y3.1)) || (!y4.1)) || (decide ((List.length x.2.1.2.2.2.2.2.1 : Int) > (3 : Int)))) || (!y5.1)) || (decide (x.2.1.2.2.2.2.2.2.1 < (0 : Int)))) || (decide (x.2.1.2.2.2.2.2.2.1 > (1000000 : Int)))) = true then
   some ((some ((1 : Int), (0 : Int), ())), ())
 else
   some (none, ())
@[reducible] def sig (n : Nat) : Sig := ⟨[(.slice tGateShape), tGateObject], [(.ifp 73 tfault)], false, f n, none, none⟩
def T (n : Nat) : FuncId → Option Sig := fun g => if Nat.beq g 19 = true then some (impl_fieldsOf.sig n) else if Nat.beq g 39 = true then some (impl_GateShapesOk.sig n) else if Nat.beq g 40 = true then some (impl_isName.sig n) else if Nat.beq g 41 = true then some (impl_ascendingNames.sig n) else none
def TL (n : Nat) : Loops := fun j _ st k => none
theorem con (n : Nat) : Con Tryd.prog 27 (sig n) :=
  con_print (hsw := rfl) (hsx := rfl) (T := T n) (TL := TL n) (c := Tryd.f27.body.getD .skip) (js := []) hMixed (conT_cons (impl_fieldsOf.con n) (conT_cons (impl_GateShapesOk.con n) (conT_cons (impl_isName.con n) (conT_cons (impl_ascendingNames.con n) conT_none)))) Tryd.func27 (by decide) (by kernel_rfl) (by kernel_rfl) (by decide) LoopDef.nil (fun x => by kernel_rfl)
end impl_checkForm
namespace impl_checkFields
@[reducible] def l3 : LSpec := ⟨[(3, .rb tGateObject), (15, .d (.slice tGateField)), (16, .d (.int .i64)), (17, .d (.int .i64))], [(.ret, [(4, .d (.ifp 73 tfault))]), (.exit 0, [])]⟩
def B3 (n : Nat) {R : Type} (next : Sden l3.inS → Option R) (cs : Conts R l3.outs) (x : Sden l3.inS) : Option R :=
  if (decide (x.2.2.2.1 < x.2.2.1)) = true then
   if (decide (0 ≤ x.2.2.2.1 ∧ x.2.2.2.1 < (List.length x.2.1 : Int))) = true then
   if (!(List.getD x.2.1 (Int.toNat x.2.2.2.1) (Ty.zero tGateField)).2.2.2.2.2.2.2.1 || (decide (0 ≤ x.2.2.2.1 ∧ x.2.2.2.1 < (List.length x.1.2.2.2.1 : Int)))) = true then
   if ((List.getD x.2.1 (Int.toNat x.2.2.2.1) (Ty.zero tGateField)).2.2.2.2.2.2.2.1 && (seq (List.getD x.1.2.2.2.1 (Int.toNat x.2.2.2.1) (⟨#[]⟩ : ByteArray)) (⟨#[]⟩ : ByteArray))) = true then
 cs.1 ((some ((2 : Int), x.2.2.2.1, ())), ())
 else if (!true || (decide (0 ≤ x.2.2.2.1 ∧ x.2.2.2.1 < (List.length x.1.2.2.2.1 : Int)))) = true then
   if (!(!seq (List.getD x.1.2.2.2.1 (Int.toNat x.2.2.2.1) (⟨#[]⟩ : ByteArray)) (⟨#[]⟩ : ByteArray)) || (decide (0 ≤ x.2.2.2.1 ∧ x.2.2.2.1 < (List.length x.1.2.2.2.1 : Int)))) = true then
   (if (!seq (List.getD x.1.2.2.2.1 (Int.toNat x.2.2.2.1) (⟨#[]⟩ : ByteArray)) (⟨#[]⟩ : ByteArray)) = true then (impl_GateFits.f n ((List.getD x.2.1 (Int.toNat x.2.2.2.1) (Ty.zero tGateField)), (List.getD x.1.2.2.2.1 (Int.toNat x.2.2.2.1) (⟨#[]⟩ : ByteArray)), ())) else some (tzero [.bool])).bind fun y2 =>
 if ((!seq (List.getD x.1.2.2.2.1 (Int.toNat x.2.2.2.1) (⟨#[]⟩ : ByteArray)) (⟨#[]⟩ : ByteArray)) && (!y2.1)) = true then
   cs.1 ((some ((3 : Int), x.2.2.2.1, ())), ())
 else
   next (x.1, x.2.1, x.2.2.1, (IntKind.i64.wrap (x.2.2.2.1 + (1 : Int))), ())
 else
   none
 else
   none
 else
   none
 else
   none
 else
   cs.2.1 ()
def f (n : Nat) (x : Tup [(.slice tGateShape), tGateObject]) : Option (Tup [(.ifp 73 tfault)]) :=
  (impl_fieldsOf.f n (x.1, x.2.1, ())).bind fun y1 =>
 runL (B3 n) ((fun z3 =>
     some (z3.1, ())), (fun z4 =>
     some (none, ())), ()) n (x.2.1, y1.1, (List.length y1.1 : Int), (0 : Int), ())
@[reducible] def sig (n : Nat) : Sig := ⟨[(.slice tGateShape), tGateObject], [(.ifp 73 tfault)], false, f n, none, none⟩
def T (n : Nat) : FuncId → Option Sig := fun g => if Nat.beq g 19 = true then some (impl_fieldsOf.sig n) else if Nat.beq g 42 = true then some (impl_GateFits.sig n) else none
def TL (n : Nat) : Loops := fun j _ st k => if Nat.beq j 3 = true then (match dec st l3.inS [] with | some x => runL (B3 n) (contsOf k l3.outs) n x | none => none) else none
theorem d3 (n : Nat) : LoopDef Tryd.prog (T n) (TL n) Tryd.f28 3 :=
  ⟨l3, fun R => B3 n, n, fun R st k => by kernel_rfl, fun R next cs x => by kernel_rfl⟩
theorem con (n : Nat) : Con Tryd.prog 28 (sig n) :=
  con_print (hsw := rfl) (hsx := rfl) (T := T n) (TL := TL n) (c := Tryd.f28.body.getD .skip) (js := [3]) hMixed (conT_cons (impl_fieldsOf.con n) (conT_cons (impl_GateFits.con n) conT_none)) Tryd.func28 (by decide) (by kernel_rfl) (by kernel_rfl) (by decide) (LoopDef.cons (d3 n) LoopDef.nil) (fun x => by kernel_rfl)
end impl_checkFields
namespace impl_GateCheck
def f (n : Nat) (x : Tup [.slice tGateShape, tGateObject]) : Option (Tup [(.int .i64), (.int .i64)]) :=
  (impl_checkForm.f n x).bind fun r1 => match r1.1 with
    | some y => some (y.1, y.2.1, ())
    | none => (impl_checkFields.f n x).bind fun r2 => match r2.1 with
      | some y => some (y.1, y.2.1, ())
      | none => some (0, 0, ())
@[reducible] def sig (n : Nat) : Sig := ⟨[.slice tGateShape, tGateObject], [(.int .i64), (.int .i64)], false, f n, none, none⟩
section
open Go Go.RowKit Go.Extern.Stop Go.Stop Go.Extern
theorem as_nil (t : Value) (w : World) :
    Calls Tryd.prog 43 #[.nilIface, t] w fun e w' => e = .returned (.bool false) ∧ w' = w := by
  go_enter Tryd.func43, Tryd.ntmps43
  go_wp2
  go_ret
  exact ⟨rfl, rfl⟩

theorem q_valueOf27 (t : Addr) (w : World) : (ReflectliteValue.unpack (.iface 77 (.pointer (some t)))).run Tryd.prog w
    = .ok (.agg #[.pointer (some ⟨1, 77, none⟩), .pointer (some ⟨w.heap.size, 0, none⟩), .int .u64 150]) (w.alloc (.cells #[.pointer (some t)] 77)) := by kernel_rfl
theorem q_type27 (a : Addr) (w : World) : (ReflectliteValue.methodAny (ReflectliteValue.valueError "reflectlite.Value.Type" 0) (fun t _ _ _ => ReflectliteType.toType t) #[.agg #[.pointer (some ⟨1, 77, none⟩), .pointer (some a), .int .u64 150]]).run Tryd.prog w
    = .ok (.iface 111 (.agg #[.pointer (some ⟨1, 77, none⟩)])) w := by kernel_rfl
theorem q_methodKind (h : Value) (w : World) : (Go.method 259 111 (.agg #[h]) "Kind").run Tryd.prog w = .ok (78, h) w := by kernel_rfl
theorem q_kind27 (w : World) : ((ReflectliteType.abiMethod fun t => (fun a : Nat => Value.int IntKind.u8 (a : Int)) <$> Rtype.kind t) #[.pointer (some ⟨1, 77, none⟩)]).run Tryd.prog w = .ok (.int .u8 22) w := by kernel_rfl
theorem q_kind25 (w : World) : ((ReflectliteType.abiMethod fun t => (fun a : Nat => Value.int IntKind.u8 (a : Int)) <$> Rtype.kind t) #[.pointer (some ⟨1, 73, none⟩)]).run Tryd.prog w = .ok (.int .u8 22) w := by kernel_rfl

theorem rlm (z : Sem Value) (f : TypeId → Addr → Nat → Nat → Sem Value) (v : Value) :
    ReflectliteValue.method z f #[v] = (do match ← ReflectliteValue.parts v with | none => z | some (t, a, fl) => f t a fl (fl % 32)) := rfl
theorem q_parts27 (a : Addr) (w : World) : (ReflectliteValue.parts (.agg #[.pointer (some ⟨1, 77, none⟩), .pointer (some a), .int .u64 150])).run Tryd.prog w = .ok (some (77, a, 150)) w := by kernel_rfl
theorem q_isNil27 (a p : Addr) (W : World) (ha : W.cell? a = some (.pointer (some p))) :
    (ReflectliteValue.method (ReflectliteValue.valueError "reflectlite.Value.IsNil" 0) ReflectliteValue.isNil #[.agg #[.pointer (some ⟨1, 77, none⟩), .pointer (some a), .int .u64 150]]).run Tryd.prog W = .ok (.bool false) W := by
  rw [rlm]
  simp only [Sem.run_bind, q_parts27, Result.andThen]
  simp [ReflectliteValue.isNil, loadVar, isAgg, underlying, Tryd.underlying77, ha, Result.andThen]

theorem q_methodElem (h : Value) (w : World) : (Go.method 259 111 (.agg #[h]) "Elem").run Tryd.prog w = .ok (102, .agg #[h]) w := by kernel_rfl
theorem q_methodImplements (h : Value) (w : World) : (Go.method 259 111 (.agg #[h]) "Implements").run Tryd.prog w = .ok (103, .agg #[h]) w := by kernel_rfl
theorem q_methodAssignableTo (h : Value) (w : World) : (Go.method 259 111 (.agg #[h]) "AssignableTo").run Tryd.prog w = .ok (100, .agg #[h]) w := by kernel_rfl
theorem q_elem27 (w : World) : (ReflectliteType.method ReflectliteType.elem #[.agg #[.pointer (some ⟨1, 77, none⟩)]]).run Tryd.prog w = .ok (.iface 111 (.agg #[.pointer (some ⟨1, 73, none⟩)])) w := by kernel_rfl
theorem q_implements25 (w : World) : (ReflectliteType.relation "Implements" ReflectliteType.implements_ #[.agg #[.pointer (some ⟨1, 73, none⟩)], .iface 111 (.agg #[.pointer (some ⟨1, 62, none⟩)])]).run Tryd.prog w = .ok (.bool true) w := by kernel_rfl
theorem q_typeOf25 (v : Value) (w : World) : (ReflectliteType.typeOf #[.iface 73 v]).run Tryd.prog w = .ok (.iface 111 (.agg #[.pointer (some ⟨1, 73, none⟩)])) w := by kernel_rfl
theorem q_assignable25 (w : World) : (ReflectliteType.relation "AssignableTo" ReflectliteType.assignableTo #[.agg #[.pointer (some ⟨1, 73, none⟩)], .iface 111 (.agg #[.pointer (some ⟨1, 73, none⟩)])]).run Tryd.prog w = .ok (.bool true) w := by kernel_rfl
theorem q_valueOf25 (e : Addr) (w : World) : (ReflectliteValue.unpack (.iface 73 (.pointer (some e)))).run Tryd.prog w
    = .ok (.agg #[.pointer (some ⟨1, 73, none⟩), .pointer (some ⟨w.heap.size, 0, none⟩), .int .u64 150]) (w.alloc (.cells #[.pointer (some e)] 73)) := by kernel_rfl

theorem q_elemOf27 (w : World) : (Rtype.elem? 77).run Tryd.prog w = .ok (some 73) w := by kernel_rfl
theorem q_mk25 (p : Addr) (w : World) : (ReflectliteValue.mk 73 p ReflectliteValue.flagAddr).run Tryd.prog w = .ok (.agg #[.pointer (some ⟨1, 73, none⟩), .pointer (some p), .int .u64 406]) w := by kernel_rfl
theorem q_elemV27 (a p : Addr) (W : World) (ha : W.cell? a = some (.pointer (some p))) :
    (ReflectliteValue.method (ReflectliteValue.valueError "reflectlite.Value.Elem" 0) ReflectliteValue.elem #[.agg #[.pointer (some ⟨1, 77, none⟩), .pointer (some a), .int .u64 150]]).run Tryd.prog W
      = .ok (.agg #[.pointer (some ⟨1, 73, none⟩), .pointer (some p), .int .u64 406]) W := by
  rw [rlm]
  simp only [Sem.run_bind, q_parts27, Result.andThen]
  simp [ReflectliteValue.elem, loadVar, isAgg, underlying, Tryd.underlying77, ha, Result.andThen, q_elemOf27, q_mk25]
theorem rls (v x : Value) : ReflectliteValue.set #[v, x] = (do
    let (some (dst, a, fl), some (src, b, _)) := (← ReflectliteValue.parts v, ← ReflectliteValue.parts x)
      | unsupported (.noEntry "extern/(internal/reflectlite.Value).Set.zeroValue")
    if fl / ReflectliteValue.flagAddr % 2 == 0 then unsupported (.noEntry "extern/(internal/reflectlite.Value).Set.unaddressable")
    let val ← loadVar src b
    if ← Rtype.directlyAssignable dst src then storeVar dst a val
    else if ← Rtype.implements dst src then
      if (← Rtype.kind src) == 20 then
        match val with
        | .nilIface => unsupported (.noEntry "extern/reflectlite: a nil value of one interface type handed on as a value of another")
        | _ => storeVar dst a val
      else storeVar dst a (.iface src val)
    else panicString ("reflectlite.Set: value of type " ++ (← Rtype.spelt src) ++ " is not assignable to type " ++ (← Rtype.spelt dst))
    pure (.tuple #[])) := rfl
theorem q_parts25a (a : Addr) (w : World) : (ReflectliteValue.parts (.agg #[.pointer (some ⟨1, 73, none⟩), .pointer (some a), .int .u64 406])).run Tryd.prog w = .ok (some (73, a, 406)) w := by kernel_rfl
theorem q_parts25 (a : Addr) (w : World) : (ReflectliteValue.parts (.agg #[.pointer (some ⟨1, 73, none⟩), .pointer (some a), .int .u64 150])).run Tryd.prog w = .ok (some (73, a, 150)) w := by kernel_rfl
theorem q_direct25 (w : World) : (Rtype.directlyAssignable 73 73).run Tryd.prog w = .ok true w := by kernel_rfl
theorem q_size25 (w : World) : (sizeOf 73).run Tryd.prog w = .ok 1 w := by kernel_rfl
theorem q_set25 (ta b e : Addr) (old : Value) (W : World) (hb : W.cell? b = some (.pointer (some e))) (ht : W.cell? ta = some old) (hf : W.frozen? ta = false) :
    (ReflectliteValue.set #[.agg #[.pointer (some ⟨1, 73, none⟩), .pointer (some ta), .int .u64 406], .agg #[.pointer (some ⟨1, 73, none⟩), .pointer (some b), .int .u64 150]]).run Tryd.prog W
      = .ok (.tuple #[]) (W.setCell ta (.pointer (some e))) := by
  rw [rls]
  simp only [Sem.run_bind, q_parts25a, q_parts25, Result.andThen]
  simp [ReflectliteValue.flagAddr, loadVar, isAgg, underlying, Tryd.underlying73, hb, Result.andThen, q_direct25, storeVar, Value.cells, storeCells, Addr.add]
  rw [run_store Tryd.prog W ta _ _ (by rfl)]
  simp [ht, hf]

set_option maxHeartbeats 4000000 in
theorem as_hit (e t : Addr) (old : Value) (w : World) (hg : w.cell? ⟨0, 0, none⟩ = some (.iface 111 (.agg #[.pointer (some ⟨1, 62, none⟩)]))) (ht0 : w.cell? t = some old) (hf0 : w.frozen? t = false) :
    Calls Tryd.prog 43 #[.iface 73 (.pointer (some e)), .iface 77 (.pointer (some t))] w fun ev w' => ev = .returned (.bool true) ∧ w' = ((((w.alloc (.cells #[.pointer (some t)] 77)).alloc (.cells #[.pointer (some ⟨1, 77, none⟩), .pointer (some ⟨w.heap.size, 0, none⟩), .int .u64 150] 91)).alloc (.cells #[.pointer (some ⟨1, 77, none⟩), .pointer (some ⟨w.heap.size, 0, none⟩), .int .u64 150] 91)).alloc (.cells #[.pointer (some e)] 73)).setCell t (.pointer (some e)) := by
  have h6 := @run_callFunc_extern Tryd.prog 52 _ (fun args => ReflectliteValue.unpack (args.getD 0 (.tuple #[]))) Tryd.func52 (by kernel_rfl) (by kernel_rfl) (by kernel_rfl) (by kernel_rfl)
  have h7 := @run_callFunc_extern Tryd.prog 53 _ (ReflectliteValue.methodAny (ReflectliteValue.valueError "reflectlite.Value.Type" 0) (fun t _ _ _ => ReflectliteType.toType t)) Tryd.func53 (by kernel_rfl) (by kernel_rfl) (by kernel_rfl) (by kernel_rfl)
  have h8 := @run_callFunc_extern Tryd.prog 54 _ (ReflectliteValue.method (ReflectliteValue.valueError "reflectlite.Value.IsNil" 0) ReflectliteValue.isNil) Tryd.func54 (by kernel_rfl) (by kernel_rfl) (by kernel_rfl) (by kernel_rfl)
  have h27 := @run_callFunc_extern Tryd.prog 78 _ (ReflectliteType.abiMethod fun t => do pure (.int .u8 (← Rtype.kind t))) Tryd.func78 (by kernel_rfl) (by kernel_rfl) (by kernel_rfl) (by kernel_rfl)
  have h37 := @run_callFunc_extern Tryd.prog 102 _ (ReflectliteType.method ReflectliteType.elem) Tryd.func102 (by kernel_rfl) (by kernel_rfl) (by kernel_rfl) (by kernel_rfl)
  have h38 := @run_callFunc_extern Tryd.prog 103 _ (ReflectliteType.relation "Implements" ReflectliteType.implements_) Tryd.func103 (by kernel_rfl) (by kernel_rfl) (by kernel_rfl) (by kernel_rfl)
  have h10 := @run_callFunc_extern Tryd.prog 61 _ ReflectliteType.typeOf Tryd.func61 (by kernel_rfl) (by kernel_rfl) (by kernel_rfl) (by kernel_rfl)
  have h35 := @run_callFunc_extern Tryd.prog 100 _ (ReflectliteType.relation "AssignableTo" ReflectliteType.assignableTo) Tryd.func100 (by kernel_rfl) (by kernel_rfl) (by kernel_rfl) (by kernel_rfl)
  have h11 := @run_callFunc_extern Tryd.prog 62 _ (ReflectliteValue.method (ReflectliteValue.valueError "reflectlite.Value.Elem" 0) ReflectliteValue.elem) Tryd.func62 (by kernel_rfl) (by kernel_rfl) (by kernel_rfl) (by kernel_rfl)
  have h12 := @run_callFunc_extern Tryd.prog 63 _ ReflectliteValue.set Tryd.func63 (by kernel_rfl) (by kernel_rfl) (by kernel_rfl) (by kernel_rfl)
  have tO := q_typeOf25
  have mA := q_methodAssignableTo
  have a25 := q_assignable25
  have v25 := q_valueOf25
  have f6 := q_valueOf27
  have f7 := q_type27
  have mK := q_methodKind
  have mE := q_methodElem
  have mI := q_methodImplements
  have k27 := q_kind27
  have k25 := q_kind25
  have e27 := q_elem27
  have i25 := q_implements25
  have n8 := q_isNil27 ⟨w.heap.size, 0, none⟩ t ((w.alloc (.cells #[.pointer (some t)] 77)).alloc (.cells #[.pointer (some ⟨1, 77, none⟩), .pointer (some ⟨w.heap.size, 0, none⟩), .int .u64 150] 91)) (by simp)
  have hlt : 0 < w.heap.size := by
    rcases Nat.eq_zero_or_pos w.heap.size with h0 | h
    · simp [World.cell?, h0] at hg
    · exact h
  have hg2 : ((w.alloc (.cells #[.pointer (some t)] 77)).alloc (.cells #[.pointer (some ⟨1, 77, none⟩), .pointer (some ⟨w.heap.size, 0, none⟩), .int .u64 150] 91)).cell? ⟨0, 0, none⟩ = some (.iface 111 (.agg #[.pointer (some ⟨1, 62, none⟩)])) := by
    rw [World.cell?_alloc_lt _ _ ⟨0, 0, none⟩ (by simp), World.cell?_alloc_lt _ _ ⟨0, 0, none⟩ hlt]; exact hg
  have htl : t.block < w.heap.size := by
    rcases Nat.lt_or_ge t.block w.heap.size with h | h
    · exact h
    · simp [World.cell?, Array.getElem?_eq_none h] at ht0
  have el := q_elemV27 ⟨w.heap.size, 0, none⟩ t (((w.alloc (.cells #[.pointer (some t)] 77)).alloc (.cells #[.pointer (some ⟨1, 77, none⟩), .pointer (some ⟨w.heap.size, 0, none⟩), .int .u64 150] 91)).alloc (.cells #[.pointer (some ⟨1, 77, none⟩), .pointer (some ⟨w.heap.size, 0, none⟩), .int .u64 150] 91)) (by rw [World.cell?_alloc_lt _ _ ⟨w.heap.size, 0, none⟩ (by simp; omega)]; simp)
  have st := q_set25 t ⟨w.heap.size + 1 + 1 + 1, 0, none⟩ e old ((((w.alloc (.cells #[.pointer (some t)] 77)).alloc (.cells #[.pointer (some ⟨1, 77, none⟩), .pointer (some ⟨w.heap.size, 0, none⟩), .int .u64 150] 91)).alloc (.cells #[.pointer (some ⟨1, 77, none⟩), .pointer (some ⟨w.heap.size, 0, none⟩), .int .u64 150] 91)).alloc (.cells #[.pointer (some e)] 73))
    (by rw [World.cell?_alloc_at _ _ _ _ (by simp)]; rfl)
    (by rw [World.cell?_alloc_lt _ _ t (by simp; omega), World.cell?_alloc_lt _ _ t (by simp; omega), World.cell?_alloc_lt _ _ t (by simp; omega), World.cell?_alloc_lt _ _ t htl]; exact ht0)
    (by rw [World.frozen?_alloc_old _ _ t (by simp; omega), World.frozen?_alloc_old _ _ t (by simp; omega), World.frozen?_alloc_old _ _ t (by simp; omega), World.frozen?_alloc_old _ _ t (Nat.ne_of_lt htl)]; exact hf0)
  go_enter Tryd.func43, Tryd.ntmps43
  go_wp2
  refine wp_loop_rounds 1 ?_
  rw [rounds_succ]
  go_wp2
  go_ret
  exact ⟨rfl, rfl⟩
theorem below5 (w : World) (o1 o2 o3 o4 o5 : Obj) (v : Value) : Below w.heap.size w ((((((w.alloc o1).alloc o2).alloc o3).alloc o4).alloc o5).setCell ⟨w.heap.size, 0, none⟩ v) := by
  have s : ∀ (u : World) (o : Obj), (u.alloc o).heap.size = u.heap.size + 1 := fun u o => by show (u.heap.push o).size = _; simp
  have b1 := (Below.refl w.heap.size w).alloc (Nat.le_refl _) o1
  have b2 := b1.alloc (by rw [s]; omega) o2
  have b3 := b2.alloc (by rw [s, s]; omega) o3
  have b4 := b3.alloc (by rw [s, s, s]; omega) o4
  have b5 := b4.alloc (by rw [s, s, s, s]; omega) o5
  exact b5.setCell (p := ⟨w.heap.size, 0, none⟩) (Nat.le_refl _) v
theorem cell5 (w : World) (T : TypeId) (o2 o3 o4 o5 : Obj) (v : Value) : ((((((w.alloc (.cells #[.pointer none] T)).alloc o2).alloc o3).alloc o4).alloc o5).setCell ⟨w.heap.size, 0, none⟩ v).cell? ⟨w.heap.size, 0, none⟩ = some v := by
  have s : ∀ (u : World) (o : Obj), (u.alloc o).heap.size = u.heap.size + 1 := fun u o => by show (u.heap.push o).size = _; simp
  refine World.cell?_setCell_same _ _ _ (u := .pointer none) ?_
  rw [World.cell?_alloc_lt _ _ _ (by simp only [s]; omega), World.cell?_alloc_lt _ _ _ (by simp only [s]; omega), World.cell?_alloc_lt _ _ _ (by simp only [s]; omega), World.cell?_alloc_lt _ _ _ (by simp only [s]; omega)]
  simp
theorem as_told (e : Addr) (w : World) (hg : w.cell? ⟨0, 0, none⟩ = some (.iface 111 (.agg #[.pointer (some ⟨1, 62, none⟩)]))) :
    Calls Tryd.prog 43 #[.iface 73 (.pointer (some e)), .iface 77 (.pointer (some ⟨w.heap.size, 0, none⟩))] (w.alloc (.cells #[.pointer none] 73)) fun ev w' => ev = .returned (.bool true) ∧ w'.cell? ⟨w.heap.size, 0, none⟩ = some (.pointer (some e)) ∧ Below w.heap.size w w' := by
  have hlt : 0 < w.heap.size := by
    rcases Nat.eq_zero_or_pos w.heap.size with h0 | h
    · simp [World.cell?, h0] at hg
    · exact h
  refine (as_hit e ⟨w.heap.size, 0, none⟩ (.pointer none) (w.alloc (.cells #[.pointer none] 73)) (by rw [World.cell?_alloc_lt _ _ ⟨0, 0, none⟩ hlt]; exact hg) (by simp) (by simp)).mono ?_
  rintro ev w' ⟨rfl, rfl⟩
  exact ⟨rfl, cell5 _ _ _ _ _ _ _, below5 _ _ _ _ _ _ _⟩
theorem told_calls {N o : Nat} {c p : Int} {w : World} (hg : w.cell? ⟨0, 0, none⟩ = some (.iface 111 (.agg #[.pointer (some ⟨1, 62, none⟩)])))
    (h1 : w.cell? ⟨N, o, none⟩ = some (.int .i64 c)) (h2 : w.cell? ⟨N, o + 1, none⟩ = some (.int .i64 p)) (hN : N < w.heap.size) :
    Calls Tryd.prog 29 #[.iface 73 (.pointer (some ⟨N, o, none⟩))] w fun ev w' => ev = .returned (.tuple #[.int .i64 c, .int .i64 p]) ∧ Below w.heap.size w w' := by
  go_enter Tryd.func29, Tryd.ntmps29
  go_wp2_with fail
  refine (as_told ⟨N, o, none⟩ w hg).mono fun ev w1 ⟨he, hc, hb⟩ => ?_
  subst he
  have h3 : w1.cell? ⟨N, o, none⟩ = some (.int .i64 c) := by rw [hb.cell hN]; exact h1
  have h4 : w1.cell? ⟨N, o + 1, none⟩ = some (.int .i64 p) := by rw [hb.cell hN]; exact h2
  go_wp2
  go_region
  all_goals go_wp2
  all_goals go_returns
  all_goals first | exact ⟨by simp, hb.drew⟩ | exact ⟨by simp, hb⟩
/-- What a check answers. -/
def ErrAt (w' : World) (ev : Value) : Option (Int × Int) → Prop
  | none => ev = .nilIface
  | some x => ∃ N o, ev = .iface 73 (.pointer (some ⟨N, o, none⟩)) ∧ w'.cell? ⟨N, o, none⟩ = some (.int .i64 x.1) ∧ w'.cell? ⟨N, o + 1, none⟩ = some (.int .i64 x.2) ∧ N < w'.heap.size
def codeOf : Option (Int × Int) → Int × Int
  | none => (0, 0)
  | some x => x
theorem check_calls {sh v0 v1 v2 v3 v4 v5 v6 : Value} {r1 r2 : Option (Int × Int)} {w : World}
    (hg : w.cell? ⟨0, 0, none⟩ = some (.iface 111 (.agg #[.pointer (some ⟨1, 62, none⟩)]))) (h0 : 0 < w.heap.size)
    (hF : ∀ w1 : World, Below w.heap.size w w1 → Calls Tryd.prog 27 #[sh, .agg #[v0, v1, v2, v3, v4, v5, v6]] w1 fun e w2 => ∃ ev, e = .returned ev ∧ Below w1.heap.size w1 w2 ∧ ErrAt w2 ev r1)
    (hG : r1 = none → ∀ w1 : World, Below w.heap.size w w1 → Calls Tryd.prog 28 #[sh, .agg #[v0, v1, v2, v3, v4, v5, v6]] w1 fun e w2 => ∃ ev, e = .returned ev ∧ Below w1.heap.size w1 w2 ∧ ErrAt w2 ev r2) :
    Calls Tryd.prog 18 #[sh, .agg #[v0, v1, v2, v3, v4, v5, v6]] w fun e w' => e = .returned (.tuple #[.int .i64 (codeOf (r1.or r2)).1, .int .i64 (codeOf (r1.or r2)).2]) ∧ Below w.heap.size w w' := by
  go_enter Tryd.func18, Tryd.ntmps18
  go_wp2_with fail
  have s : ∀ (u : World) (o : Obj), (u.alloc o).heap.size = u.heap.size + 1 := fun u o => by show (u.heap.push o).size = _; simp
  have hb0 : Below w.heap.size w ((w.alloc (Obj.cells #[v0, v1, v2, v3, v4, v5, v6] 32)).alloc (Obj.cells #[Value.func (Fn.func 27) #[] #[], Value.func (Fn.func 28) #[] #[]] 59)) :=
    ((Below.refl w.heap.size w).alloc (Nat.le_refl _) _).alloc (by rw [s]; omega) _
  have k0 : ((w.alloc (Obj.cells #[v0, v1, v2, v3, v4, v5, v6] 32)).alloc (Obj.cells #[Value.func (Fn.func 27) #[] #[], Value.func (Fn.func 28) #[] #[]] 59)).heap[w.heap.size]? = some (.cells #[v0, v1, v2, v3, v4, v5, v6] 32 (0, 0)) := by
    show ((w.heap.push _).push _)[w.heap.size]? = _
    rw [Array.getElem?_push_lt (by simp)]; simp
  have k1 : ((w.alloc (Obj.cells #[v0, v1, v2, v3, v4, v5, v6] 32)).alloc (Obj.cells #[Value.func (Fn.func 27) #[] #[], Value.func (Fn.func 28) #[] #[]] 59)).heap[w.heap.size + 1]? = some (.cells #[Value.func (Fn.func 27) #[] #[], Value.func (Fn.func 28) #[] #[]] 59 (0, 0)) := by
    show ((w.heap.push (Obj.cells #[v0, v1, v2, v3, v4, v5, v6] 32)).push _)[w.heap.size + 1]? = _
    rw [show w.heap.size + 1 = (w.heap.push (Obj.cells #[v0, v1, v2, v3, v4, v5, v6] 32)).size by simp]
    exact Array.getElem?_push_size
  have told : ∀ (w1 : World) (ev : Value) (x : Int × Int), Below w.heap.size w w1 → ErrAt w1 ev (some x) → Calls Tryd.prog 29 #[ev] w1 fun ev2 w2 => ev2 = .returned (.tuple #[.int .i64 x.1, .int .i64 x.2]) ∧ Below w.heap.size w w2 := by
    rintro w1 ev x hb ⟨N, o, rfl, c1, c2, hN⟩
    refine (told_calls (by rw [hb.cell h0]; exact hg) c1 c2 hN).mono fun e w2 ⟨he, hb2⟩ => ⟨he, hb.trans (hb2.mono hb.size)⟩
  refine wp_loop_rounds 3 ?_
  rw [rounds_succ]
  go_wp2_with fail
  refine (hF _ hb0).mono fun e w1 ⟨ev, he, hb, hE⟩ => ?_
  subst he
  have hb1 : Below w.heap.size w w1 := hb0.trans (hb.mono hb0.size)
  have l0 : w1.heap[w.heap.size]? = some (.cells #[v0, v1, v2, v3, v4, v5, v6] 32 (0, 0)) := (hb.block _ (by rw [s, s]; omega)).trans k0
  have l1 : w1.heap[w.heap.size + 1]? = some (.cells #[Value.func (Fn.func 27) #[] #[], Value.func (Fn.func 28) #[] #[]] 59 (0, 0)) := (hb.block _ (by rw [s, s]; omega)).trans k1
  cases r1 with
  | some x =>
    have ht := told w1 ev x hb1 hE
    obtain ⟨N, o, rfl, c1, c2, hN⟩ := hE
    go_wp2_with fail
    refine ht.mono fun e w2 ⟨he, hb2⟩ => ?_
    subst he
    go_wp2
    go_returns
    exact ⟨rfl, hb2⟩
  | none =>
    have hE : ev = .nilIface := hE
    subst hE
    have m0 : ∀ j : Nat, w1.cell? ⟨w.heap.size, j, none⟩ = #[v0, v1, v2, v3, v4, v5, v6][j]? := fun j => by simp only [World.cell?, l0]; rfl
    have c0 : w1.cell? ⟨w.heap.size, 0, none⟩ = some v0 := m0 0
    have c1 : w1.cell? ⟨w.heap.size, 1, none⟩ = some v1 := m0 1
    have c2 : w1.cell? ⟨w.heap.size, 2, none⟩ = some v2 := m0 2
    have c3 : w1.cell? ⟨w.heap.size, 3, none⟩ = some v3 := m0 3
    have c4 : w1.cell? ⟨w.heap.size, 4, none⟩ = some v4 := m0 4
    have c5 : w1.cell? ⟨w.heap.size, 5, none⟩ = some v5 := m0 5
    have c6 : w1.cell? ⟨w.heap.size, 6, none⟩ = some v6 := m0 6
    have d1 : w1.cell? ⟨w.heap.size + 1, 1, none⟩ = some (Value.func (Fn.func 28) #[] #[]) := by simp only [World.cell?, l1]; rfl
    clear m0
    go_wp2_with fail
    rw [rounds_succ]
    go_wp2_with fail
    refine (hG (by simp) w1 hb1).mono fun e w2 ⟨ev, he, hb2, hE⟩ => ?_
    subst he
    have hb3 : Below w.heap.size w w2 := hb1.trans (hb2.mono hb1.size)
    cases r2 with
    | some x =>
      have ht := told w2 ev x hb3 hE
      obtain ⟨N, o, rfl, c1, c2, hN⟩ := hE
      go_wp2_with fail
      refine ht.mono fun e w3 ⟨he, hb4⟩ => ?_
      subst he
      go_wp2
      go_returns
      exact ⟨rfl, hb4⟩
    | none =>
      have hE : ev = .nilIface := hE
      subst hE
      go_wp2_with fail
      rw [rounds_succ]
      go_wp2
      go_returns
      exact ⟨rfl, hb3⟩
end
def pr (r : Option tfault.den) : Option (Int × Int) := r.map fun y => (y.1, y.2.1)
theorem err_at {w : Go.World} {J : Nat → Prop} {r : Option tfault.den} {v : Go.Value} (h : TyRep w J (.ifp 73 tfault) r v) : ErrAt w v (pr r) := by
  have h1 := h.1
  rw [cells_one (h.2.2 rfl)] at h1
  cases r with
  | none =>
    have h1 : [v] = [.nilIface] := h1
    exact (by simpa using h1 : v = .nilIface)
  | some y =>
    obtain ⟨ad, vs, e1, e2, _, hm, hr⟩ := h1
    obtain ⟨b, o, sp⟩ := ad
    simp only at e2
    subst e2
    obtain ⟨c1, r1, rfl, a1, k1, r2, rfl, a2, a3⟩ := hr
    have a1 : c1 = [.int .i64 y.1] := a1
    have a2 : k1 = [.int .i64 y.2.1] := a2
    subst a1; subst a2
    exact ⟨b, o, by simpa using e1, hm.cell (i := 0) rfl, hm.cell (i := 1) rfl, hm.lt⟩
theorem one_call {fid : Go.FuncId} {F : Tup [.slice tGateShape, tGateObject] → Option (Tup [.ifp 73 tfault])} (hc : Con Tryd.prog fid ⟨[.slice tGateShape, tGateObject], [.ifp 73 tfault], false, F, none, none⟩) {M : Nat → Prop} {x : Tup [.slice tGateShape, tGateObject]} {w : Go.World} {args : Array Go.Value} (hrep : TupRep w M [.slice tGateShape, tGateObject] x args.toList) (hA : Amb.A w) {r : Option tfault.den} (hr : F x = some (r, ()))
    (w1 : Go.World) (hb : Go.RowKit.Below w.heap.size w w1) : Go.Calls Tryd.prog fid args w1 fun e w2 => ∃ ev, e = .returned ev ∧ Go.RowKit.Below w1.heap.size w1 w2 ∧ ErrAt w2 ev (pr r) := by
  have h1 : TupRep w1 (fun b => M b ∧ b < w.heap.size) [.slice tGateShape, tGateObject] x args.toList := tupRep_below hb (fun b hb => hb.2) (hrep.imp (J' := fun b => M b ∧ b < w.heap.size) (fun b hlt h => ⟨h, hlt⟩))
  refine (hc.run rfl _ x (r, ()) w1 args hr h1 (Amb.below hA hb)).mono ?_
  rintro e w2 ⟨vs, rfl, hb2, hres⟩
  simp only [Bool.false_eq_true, if_false] at hres
  obtain ⟨v, q, rfl, hv, hq⟩ := hres
  have hq : q = [] := hq
  subst hq
  exact ⟨v, rfl, hb2, err_at hv⟩
theorem con (n : Nat) : Con Tryd.prog 18 (sig n) := by
  refine con_walk Tryd.func18 (by decide) (by kernel_rfl) fun M x y w args hF hrep hA => ?_
  have hF : (impl_checkForm.f n x).bind _ = some y := hF
  simp only [Option.bind_eq_some_iff] at hF
  obtain ⟨r1, hr1, hF⟩ := hF
  obtain ⟨r1, ⟨⟩⟩ := r1
  have hk := one_call (impl_checkForm.con n) hrep hA hr1
  have hrep0 := hrep
  obtain ⟨v1, q1, e1, h1, v2, q2, e2, h2, h3⟩ := hrep
  have h3 : q2 = [] := h3
  subst h3
  subst e2
  obtain ⟨vs, rfl⟩ := h2.2.1 rfl
  have hl : vs.toList.length = 7 := rep_length h2.1
  obtain ⟨vl⟩ := vs
  match vl, hl with
  | [u0, u1, u2, u3, u4, u5, u6], _ =>
    have hargs : args = #[v1, .agg #[u0, u1, u2, u3, u4, u5, u6]] := by
      apply Array.ext'
      rw [e1]
    rw [hargs] at hk hrep0 ⊢
    have hg : w.cell? ⟨0, 0, none⟩ = some (.iface 111 (.agg #[.pointer (some ⟨1, 62, none⟩)])) := hA _ (List.mem_singleton.2 rfl)
    have h0 : 0 < w.heap.size := Amb.lt hA (b := 0) ⟨_, List.mem_singleton.2 rfl, rfl⟩
    cases r1 with
    | some z =>
      have hy : y = (z.1, z.2.1, ()) := (Option.some.inj hF).symm
      subst hy
      refine (check_calls (r2 := none) hg h0 hk (fun h => by cases h)).mono ?_
      rintro e w' ⟨rfl, hb⟩
      exact ⟨[.int .i64 z.1, .int .i64 z.2.1], rfl, hb, _, _, rfl, ⟨rfl, (fun h => by cases h), fun _ => trivial⟩, _, _, rfl, ⟨rfl, (fun h => by cases h), fun _ => trivial⟩, rfl⟩
    | none =>
      simp only [Option.bind_eq_some_iff] at hF
      obtain ⟨r2, hr2, hF⟩ := hF
      obtain ⟨r2, ⟨⟩⟩ := r2
      have hk2 := one_call (impl_checkFields.con n) hrep0 hA hr2
      have hy : y = ((codeOf (pr r2)).1, (codeOf (pr r2)).2, ()) := by
        cases r2 with
        | none => exact (Option.some.inj hF).symm
        | some z => exact (Option.some.inj hF).symm
      subst hy
      refine (check_calls (r2 := pr r2) hg h0 hk (fun _ => hk2)).mono ?_
      rintro e w' ⟨rfl, hb⟩
      exact ⟨[.int .i64 (codeOf (pr r2)).1, .int .i64 (codeOf (pr r2)).2], rfl, hb, _, _, rfl, ⟨rfl, (fun h => by cases h), fun _ => trivial⟩, _, _, rfl, ⟨rfl, (fun h => by cases h), fun _ => trivial⟩, rfl⟩
end impl_GateCheck
namespace impl_GateTurned
@[reducible] def l2 : LSpec := ⟨[(0, .d (.slice tGateShape)), (4, .rb tGateObject), (5, .rb tGateObject), (18, .row false tGateObject), (19, .d (.int .i64)), (20, .d (.int .i64))], [(.ret, [(6, .d (.int .i64)), (7, .d (.int .i64))]), (.exit 0, [(0, .d (.slice tGateShape)), (4, .rb tGateObject), (5, .rb tGateObject)])]⟩
def B2 (n : Nat) {R : Type} (next : Sden l2.inS → Option R) (cs : Conts R l2.outs) (x : Sden l2.inS) : Option R :=
  if (decide (x.2.2.2.2.2.1 < x.2.2.2.2.1)) = true then
   if (decide (0 ≤ x.2.2.2.2.2.1 ∧ x.2.2.2.2.2.1 < (List.length x.2.2.2.1 : Int))) = true then
   (impl_GateCheck.f n (x.1, (List.getD x.2.2.2.1 (Int.toNat x.2.2.2.2.2.1) (Ty.zero tGateObject)), ())).bind fun y1 =>
 if (y1.1 != (0 : Int)) = true then
   cs.1 ((1 : Int), (0 : Int), ())
 else
   next (x.1, x.2.1, x.2.2.1, x.2.2.2.1, x.2.2.2.2.1, (IntKind.i64.wrap (x.2.2.2.2.2.1 + (1 : Int))), ())
 else
   none
 else
   cs.2.1 (x.1, x.2.1, x.2.2.1, ())
@[reducible] def l12 : LSpec := ⟨[(4, .rb tGateObject), (5, .rb tGateObject), (58, .d (.slice tGateField)), (59, .d (.int .i64)), (60, .d (.int .i64))], [(.ret, [(6, .d (.int .i64)), (7, .d (.int .i64))]), (.exit 2, [])]⟩
def B12 (n : Nat) {R : Type} (next : Sden l12.inS → Option R) (cs : Conts R l12.outs) (x : Sden l12.inS) : Option R :=
  if (decide (x.2.2.2.2.1 < x.2.2.2.1)) = true then
   if (decide (0 ≤ x.2.2.2.2.1 ∧ x.2.2.2.2.1 < (List.length x.2.2.1 : Int))) = true then
   if (!(List.getD x.2.2.1 (Int.toNat x.2.2.2.2.1) (Ty.zero tGateField)).2.2.2.2.2.2.2.2.1 || (decide (0 ≤ x.2.2.2.2.1 ∧ x.2.2.2.2.1 < (List.length x.1.2.2.2.1 : Int)))) = true then
   if (!((List.getD x.2.2.1 (Int.toNat x.2.2.2.2.1) (Ty.zero tGateField)).2.2.2.2.2.2.2.2.1 && (!seq (List.getD x.1.2.2.2.1 (Int.toNat x.2.2.2.2.1) (⟨#[]⟩ : ByteArray)) (⟨#[]⟩ : ByteArray))) || (decide (0 ≤ x.2.2.2.2.1 ∧ x.2.2.2.2.1 < (List.length x.1.2.2.2.1 : Int)))) = true then
   if (!((List.getD x.2.2.1 (Int.toNat x.2.2.2.2.1) (Ty.zero tGateField)).2.2.2.2.2.2.2.2.1 && (!seq (List.getD x.1.2.2.2.1 (Int.toNat x.2.2.2.2.1) (⟨#[]⟩ : ByteArray)) (⟨#[]⟩ : ByteArray))) || (decide (0 ≤ x.2.2.2.2.1 ∧ x.2.2.2.2.1 < (List.length x.2.1.2.2.2.1 : Int)))) = true then
   if (((List.getD x.2.2.1 (Int.toNat x.2.2.2.2.1) (Ty.zero tGateField)).2.2.2.2.2.2.2.2.1 && (!seq (List.getD x.1.2.2.2.1 (Int.toNat x.2.2.2.2.1) (⟨#[]⟩ : ByteArray)) (⟨#[]⟩ : ByteArray))) && (!seq (List.getD x.1.2.2.2.1 (Int.toNat x.2.2.2.2.1) (⟨#[]⟩ : ByteArray)) (List.getD x.2.1.2.2.2.1 (Int.toNat x.2.2.2.2.1) (⟨#[]⟩ : ByteArray)))) = true then
   cs.1 ((4 : Int), x.2.2.2.2.1, ())
 else
   next (x.1, x.2.1, x.2.2.1, x.2.2.2.1, (IntKind.i64.wrap (x.2.2.2.2.1 + (1 : Int))), ())
 else
   none
 else
   none
 else
   none
 else
   none
 else
   cs.2.1 ()
def f (n : Nat) (x : Tup [(.slice tGateShape), tGateObject, tGateObject]) : Option (Tup [(.int .i64), (.int .i64)]) :=
  runL (B2 n) ((fun z2 =>
     some (z2.1, z2.2.1, ())), (fun z3 =>
     if (((!seq z3.2.1.1 z3.2.2.1.1) || (!seq z3.2.1.2.1 z3.2.2.1.2.1)) || (!seq z3.2.1.2.2.1 z3.2.2.1.2.2.1)) = true then
   some ((1 : Int), (0 : Int), ())
 else
   (impl_fieldsOf.f n (z3.1, z3.2.2.1, ())).bind fun y4 =>
 runL (B12 n) ((fun z5 =>
     some (z5.1, z5.2.1, ())), (fun z6 =>
     some ((0 : Int), (0 : Int), ())), ()) n (z3.2.1, z3.2.2.1, y4.1, (List.length y4.1 : Int), (0 : Int), ())), ()) n (x.1, x.2.1, x.2.2.1, [x.2.1, x.2.2.1], (List.length [x.2.1, x.2.2.1] : Int), (0 : Int), ())
@[reducible] def sig (n : Nat) : Sig := ⟨[(.slice tGateShape), tGateObject, tGateObject], [(.int .i64), (.int .i64)], false, f n, none, none⟩
def T (n : Nat) : FuncId → Option Sig := fun g => if Nat.beq g 18 = true then some (impl_GateCheck.sig n) else if Nat.beq g 19 = true then some (impl_fieldsOf.sig n) else none
def TL (n : Nat) : Loops := fun j _ st k => if Nat.beq j 2 = true then (match dec st l2.inS [] with | some x => runL (B2 n) (contsOf k l2.outs) n x | none => none) else if Nat.beq j 12 = true then (match dec st l12.inS [] with | some x => runL (B12 n) (contsOf k l12.outs) n x | none => none) else none
theorem d2 (n : Nat) : LoopDef Tryd.prog (T n) (TL n) Tryd.f9 2 :=
  ⟨l2, fun R => B2 n, n, fun R st k => by kernel_rfl, fun R next cs x => by kernel_rfl⟩
theorem d12 (n : Nat) : LoopDef Tryd.prog (T n) (TL n) Tryd.f9 12 :=
  ⟨l12, fun R => B12 n, n, fun R st k => by kernel_rfl, fun R next cs x => by kernel_rfl⟩
theorem con (n : Nat) : Con Tryd.prog 9 (sig n) :=
  con_print (hsw := rfl) (hsx := rfl) (T := T n) (TL := TL n) (c := Tryd.f9.body.getD .skip) (js := [2, 12]) hMixed (conT_cons (impl_GateCheck.con n) (conT_cons (impl_fieldsOf.con n) conT_none)) Tryd.func9 (by decide) (by kernel_rfl) (by kernel_rfl) (by decide) (LoopDef.cons (d2 n) (LoopDef.cons (d12 n) LoopDef.nil)) (fun x => by kernel_rfl)
end impl_GateTurned
namespace laws_eqStringS
@[reducible] def l4 : LSpec := ⟨[(0, .d (.slice .str)), (1, .d (.slice .str)), (5, .d (.int .i64))], [(.ret, [(4, .d .bool)]), (.exit 0, [])]⟩
def B4 (n : Nat) {R : Type} (next : Sden l4.inS → Option R) (cs : Conts R l4.outs) (x : Sden l4.inS) : Option R :=
  if (decide (x.2.2.1 < (List.length x.1 : Int))) = true then
   if (!true || (decide (0 ≤ x.2.2.1 ∧ x.2.2.1 < (List.length x.1 : Int)))) = true then
   if (!true || (decide (0 ≤ x.2.2.1 ∧ x.2.2.1 < (List.length x.2.1 : Int)))) = true then
   if (!seq (List.getD x.1 (Int.toNat x.2.2.1) (⟨#[]⟩ : ByteArray)) (List.getD x.2.1 (Int.toNat x.2.2.1) (⟨#[]⟩ : ByteArray))) = true then
   cs.1 (false, ())
 else
   next (x.1, x.2.1, (IntKind.i64.wrap (x.2.2.1 + (1 : Int))), ())
 else
   none
 else
   none
 else
   cs.2.1 ()
def f (n : Nat) (x : Tup [(.slice .str), (.slice .str)]) : Option (Tup [.bool]) :=
  if ((List.length x.1 : Int) != (List.length x.2.1 : Int)) = true then
   some (false, ())
 else
   runL (B4 n) ((fun z1 =>
     some (z1.1, ())), (fun z2 =>
     some (true, ())), ()) n (x.1, x.2.1, (0 : Int), ())
@[reducible] def sig (n : Nat) : Sig := ⟨[(.slice .str), (.slice .str)], [.bool], false, f n, none, none⟩
def T (n : Nat) : FuncId → Option Sig := fun g => none
def TL (n : Nat) : Loops := fun j _ st k => if Nat.beq j 4 = true then (match dec st l4.inS [] with | some x => runL (B4 n) (contsOf k l4.outs) n x | none => none) else none
theorem d4 (n : Nat) : LoopDef Tryd.prog (T n) (TL n) Tryd.f21 4 :=
  ⟨l4, fun R => B4 n, n, fun R st k => by kernel_rfl, fun R next cs x => by kernel_rfl⟩
theorem con (n : Nat) : Con Tryd.prog 21 (sig n) :=
  con_print (hsw := rfl) (hsx := rfl) (T := T n) (TL := TL n) (c := Tryd.f21.body.getD .skip) (js := [4]) hMixed conT_none Tryd.func21 (by decide) (by kernel_rfl) (by kernel_rfl) (by decide) (LoopDef.cons (d4 n) LoopDef.nil) (fun x => by kernel_rfl)
end laws_eqStringS
namespace laws_eqGateField
def f (n : Nat) (x : Tup [tGateField, tGateField]) : Option (Tup [.bool]) :=
  if (!seq x.1.1 x.2.1.1) = true then
 some (false, ())
 else if (x.1.2.1 != x.2.1.2.1) = true then
 some (false, ())
 else if (x.1.2.2.1 != x.2.1.2.2.1) = true then
 some (false, ())
 else if (x.1.2.2.2.1 != x.2.1.2.2.2.1) = true then
   some (false, ())
 else
   (laws_eqStringS.f n (x.1.2.2.2.2.1, x.2.1.2.2.2.2.1, ())).bind fun y1 =>
 if (!y1.1) = true then
 some (false, ())
 else if (!seq x.1.2.2.2.2.2.1 x.2.1.2.2.2.2.2.1) = true then
 some (false, ())
 else if (x.1.2.2.2.2.2.2.1 != x.2.1.2.2.2.2.2.2.1) = true then
 some (false, ())
 else if (!(x.1.2.2.2.2.2.2.2.1 == x.2.1.2.2.2.2.2.2.2.1)) = true then
 some (false, ())
 else if (!(x.1.2.2.2.2.2.2.2.2.1 == x.2.1.2.2.2.2.2.2.2.2.1)) = true then
 some (false, ())
 else if (!seq x.1.2.2.2.2.2.2.2.2.2.1 x.2.1.2.2.2.2.2.2.2.2.2.1) = true then
 some (false, ())
 else if (!seq x.1.2.2.2.2.2.2.2.2.2.2.1 x.2.1.2.2.2.2.2.2.2.2.2.2.1) = true then
   some (false, ())
 else
   some (true, ())
@[reducible] def sig (n : Nat) : Sig := ⟨[tGateField, tGateField], [.bool], false, f n, none, none⟩
def T (n : Nat) : FuncId → Option Sig := fun g => if Nat.beq g 21 = true then some (laws_eqStringS.sig n) else none
def TL (n : Nat) : Loops := fun j _ st k => none
theorem con (n : Nat) : Con Tryd.prog 44 (sig n) :=
  con_print (hsw := rfl) (hsx := rfl) (T := T n) (TL := TL n) (c := Tryd.f44.body.getD .skip) (js := []) hMixed (conT_cons (laws_eqStringS.con n) conT_none) Tryd.func44 (by decide) (by kernel_rfl) (by kernel_rfl) (by decide) LoopDef.nil (fun x => by kernel_rfl)
end laws_eqGateField
namespace laws_eqGateFieldS
@[reducible] def l4 : LSpec := ⟨[(0, .d (.slice tGateField)), (1, .d (.slice tGateField)), (5, .d (.int .i64))], [(.ret, [(4, .d .bool)]), (.exit 0, [])]⟩
def B4 (n : Nat) {R : Type} (next : Sden l4.inS → Option R) (cs : Conts R l4.outs) (x : Sden l4.inS) : Option R :=
  if (decide (x.2.2.1 < (List.length x.1 : Int))) = true then
   if (!true || (decide (0 ≤ x.2.2.1 ∧ x.2.2.1 < (List.length x.1 : Int)))) = true then
   if (!true || (decide (0 ≤ x.2.2.1 ∧ x.2.2.1 < (List.length x.2.1 : Int)))) = true then
   (laws_eqGateField.f n ((List.getD x.1 (Int.toNat x.2.2.1) (Ty.zero tGateField)), (List.getD x.2.1 (Int.toNat x.2.2.1) (Ty.zero tGateField)), ())).bind fun y1 =>
 if (!y1.1) = true then
   cs.1 (false, ())
 else
   next (x.1, x.2.1, (IntKind.i64.wrap (x.2.2.1 + (1 : Int))), ())
 else
   none
 else
   none
 else
   cs.2.1 ()
def f (n : Nat) (x : Tup [(.slice tGateField), (.slice tGateField)]) : Option (Tup [.bool]) :=
  if ((List.length x.1 : Int) != (List.length x.2.1 : Int)) = true then
   some (false, ())
 else
   runL (B4 n) ((fun z2 =>
     some (z2.1, ())), (fun z3 =>
     some (true, ())), ()) n (x.1, x.2.1, (0 : Int), ())
@[reducible] def sig (n : Nat) : Sig := ⟨[(.slice tGateField), (.slice tGateField)], [.bool], false, f n, none, none⟩
def T (n : Nat) : FuncId → Option Sig := fun g => if Nat.beq g 44 = true then some (laws_eqGateField.sig n) else none
def TL (n : Nat) : Loops := fun j _ st k => if Nat.beq j 4 = true then (match dec st l4.inS [] with | some x => runL (B4 n) (contsOf k l4.outs) n x | none => none) else none
theorem d4 (n : Nat) : LoopDef Tryd.prog (T n) (TL n) Tryd.f31 4 :=
  ⟨l4, fun R => B4 n, n, fun R st k => by kernel_rfl, fun R next cs x => by kernel_rfl⟩
theorem con (n : Nat) : Con Tryd.prog 31 (sig n) :=
  con_print (hsw := rfl) (hsx := rfl) (T := T n) (TL := TL n) (c := Tryd.f31.body.getD .skip) (js := [4]) hMixed (conT_cons (laws_eqGateField.con n) conT_none) Tryd.func31 (by decide) (by kernel_rfl) (by kernel_rfl) (by decide) (LoopDef.cons (d4 n) LoopDef.nil) (fun x => by kernel_rfl)
end laws_eqGateFieldS
namespace laws_eqGateShape
def f (n : Nat) (x : Tup [tGateShape, tGateShape]) : Option (Tup [.bool]) :=
  if (!seq x.1.1 x.2.1.1) = true then
   some (false, ())
 else
   (laws_eqGateFieldS.f n (x.1.2.1, x.2.1.2.1, ())).bind fun y1 =>
 if (!y1.1) = true then
   some (false, ())
 else
   some (true, ())
@[reducible] def sig (n : Nat) : Sig := ⟨[tGateShape, tGateShape], [.bool], false, f n, none, none⟩
def T (n : Nat) : FuncId → Option Sig := fun g => if Nat.beq g 31 = true then some (laws_eqGateFieldS.sig n) else none
def TL (n : Nat) : Loops := fun j _ st k => none
theorem con (n : Nat) : Con Tryd.prog 20 (sig n) :=
  con_print (hsw := rfl) (hsx := rfl) (T := T n) (TL := TL n) (c := Tryd.f20.body.getD .skip) (js := []) hMixed (conT_cons (laws_eqGateFieldS.con n) conT_none) Tryd.func20 (by decide) (by kernel_rfl) (by kernel_rfl) (by decide) LoopDef.nil (fun x => by kernel_rfl)
end laws_eqGateShape
namespace laws_eqGateShapeS
@[reducible] def l4 : LSpec := ⟨[(0, .d (.slice tGateShape)), (1, .d (.slice tGateShape)), (5, .d (.int .i64))], [(.ret, [(4, .d .bool)]), (.exit 0, [])]⟩
def B4 (n : Nat) {R : Type} (next : Sden l4.inS → Option R) (cs : Conts R l4.outs) (x : Sden l4.inS) : Option R :=
  if (decide (x.2.2.1 < (List.length x.1 : Int))) = true then
   if (!true || (decide (0 ≤ x.2.2.1 ∧ x.2.2.1 < (List.length x.1 : Int)))) = true then
   if (!true || (decide (0 ≤ x.2.2.1 ∧ x.2.2.1 < (List.length x.2.1 : Int)))) = true then
   (laws_eqGateShape.f n ((List.getD x.1 (Int.toNat x.2.2.1) (Ty.zero tGateShape)), (List.getD x.2.1 (Int.toNat x.2.2.1) (Ty.zero tGateShape)), ())).bind fun y1 =>
 if (!y1.1) = true then
   cs.1 (false, ())
 else
   next (x.1, x.2.1, (IntKind.i64.wrap (x.2.2.1 + (1 : Int))), ())
 else
   none
 else
   none
 else
   cs.2.1 ()
def f (n : Nat) (x : Tup [(.slice tGateShape), (.slice tGateShape)]) : Option (Tup [.bool]) :=
  if ((List.length x.1 : Int) != (List.length x.2.1 : Int)) = true then
   some (false, ())
 else
   runL (B4 n) ((fun z2 =>
     some (z2.1, ())), (fun z3 =>
     some (true, ())), ()) n (x.1, x.2.1, (0 : Int), ())
@[reducible] def sig (n : Nat) : Sig := ⟨[(.slice tGateShape), (.slice tGateShape)], [.bool], false, f n, none, none⟩
def T (n : Nat) : FuncId → Option Sig := fun g => if Nat.beq g 20 = true then some (laws_eqGateShape.sig n) else none
def TL (n : Nat) : Loops := fun j _ st k => if Nat.beq j 4 = true then (match dec st l4.inS [] with | some x => runL (B4 n) (contsOf k l4.outs) n x | none => none) else none
theorem d4 (n : Nat) : LoopDef Tryd.prog (T n) (TL n) Tryd.f10 4 :=
  ⟨l4, fun R => B4 n, n, fun R st k => by kernel_rfl, fun R next cs x => by kernel_rfl⟩
theorem con (n : Nat) : Con Tryd.prog 10 (sig n) :=
  con_print (hsw := rfl) (hsx := rfl) (T := T n) (TL := TL n) (c := Tryd.f10.body.getD .skip) (js := [4]) hMixed (conT_cons (laws_eqGateShape.con n) conT_none) Tryd.func10 (by decide) (by kernel_rfl) (by kernel_rfl) (by decide) (LoopDef.cons (d4 n) LoopDef.nil) (fun x => by kernel_rfl)
end laws_eqGateShapeS
namespace laws_eqGateObject
def f (n : Nat) (x : Tup [tGateObject, tGateObject]) : Option (Tup [.bool]) :=
  if (!seq x.1.1 x.2.1.1) = true then
 some (false, ())
 else if (!seq x.1.2.1 x.2.1.2.1) = true then
 some (false, ())
 else if (!seq x.1.2.2.1 x.2.1.2.2.1) = true then
   some (false, ())
 else
   (laws_eqStringS.f n (x.1.2.2.2.1, x.2.1.2.2.2.1, ())).bind fun y1 =>
 if (!y1.1) = true then
 some (false, ())
 else if (!(x.1.2.2.2.2.1 == x.2.1.2.2.2.2.1)) = true then
   some (false, ())
 else
   (laws_eqStringS.f n (x.1.2.2.2.2.2.1, x.2.1.2.2.2.2.2.1, ())).bind fun y2 =>
 if (!y2.1) = true then
 some (false, ())
 else if (x.1.2.2.2.2.2.2.1 != x.2.1.2.2.2.2.2.2.1) = true then
   some (false, ())
 else
   some (true, ())
@[reducible] def sig (n : Nat) : Sig := ⟨[tGateObject, tGateObject], [.bool], false, f n, none, none⟩
def T (n : Nat) : FuncId → Option Sig := fun g => if Nat.beq g 21 = true then some (laws_eqStringS.sig n) else none
def TL (n : Nat) : Loops := fun j _ st k => none
theorem con (n : Nat) : Con Tryd.prog 11 (sig n) :=
  con_print (hsw := rfl) (hsx := rfl) (T := T n) (TL := TL n) (c := Tryd.f11.body.getD .skip) (js := []) hMixed (conT_cons (laws_eqStringS.con n) conT_none) Tryd.func11 (by decide) (by kernel_rfl) (by kernel_rfl) (by decide) LoopDef.nil (fun x => by kernel_rfl)
end laws_eqGateObject
namespace laws_FnExactGateTurned
def f (n : Nat) (x : Tup [(.slice tGateShape), tGateObject, tGateObject]) : Option (Tup [.bool]) :=
  (laws_szGateShapeS.f n (x.1, (1048576 : Int), ())).bind fun y1 =>
 if (decide (y1.1 < (0 : Int))) = true then
   some (true, ())
 else
   (laws_szGateObject.f n (x.2.1, y1.1, ())).bind fun y2 =>
 if (decide (y2.1 < (0 : Int))) = true then
   some (true, ())
 else
   (laws_szGateObject.f n (x.2.2.1, y2.1, ())).bind fun y3 =>
 if (decide (y3.1 < (0 : Int))) = true then
   some (true, ())
 else
   (laws_toGateShapeS.f n (x.1, ())).bind fun y4 =>
 (laws_toGateObject.f n (x.2.1, ())).bind fun y5 =>
 (laws_toGateObject.f n (x.2.2.1, ())).bind fun y6 =>
 (if true = true then (spec_GateTurned.f n (y4.1, y5.1, y6.1, ())) else some (tzero [(.int .i64), (.int .i64)])).bind fun y7 =>
 (laws_toGateShapeS.f n (x.1, ())).bind fun y8 =>
 (laws_toGateObject.f n (x.2.1, ())).bind fun y9 =>
 (laws_toGateObject.f n (x.2.2.1, ())).bind fun y10 =>
 (impl_GateTurned.f n (y8.1, y9.1, y10.1, ())).bind fun y11 =>
 if ((y11.1 != y7.1) || (y11.2.1 != y7.2.1)) = true then
   some (false, ())
 else
   (laws_toGateShapeS.f n (x.1, ())).bind fun y12 =>
 (laws_eqGateShapeS.f n (y8.1, y12.1, ())).bind fun y13 =>
 if (!y13.1) = true then
   some (false, ())
 else
   (laws_toGateObject.f n (x.2.1, ())).bind fun y14 =>
 (laws_eqGateObject.f n (y9.1, y14.1, ())).bind fun y15 =>
 if (!y15.1) = true then
   some (false, ())
 else
   (laws_toGateObject.f n (x.2.2.1, ())).bind fun y16 =>
 (laws_eqGateObject.f n (y10.1, y16.1, ())).bind fun y17 =>
 if (!y17.1) = true then
   some (false, ())
 else
   some (true, ())
@[reducible] def sig (n : Nat) : Sig := ⟨[(.slice tGateShape), tGateObject, tGateObject], [.bool], false, f n, none, none⟩
def T (n : Nat) : FuncId → Option Sig := fun g => if Nat.beq g 4 = true then some (laws_szGateShapeS.sig n) else if Nat.beq g 5 = true then some (laws_szGateObject.sig n) else if Nat.beq g 6 = true then some (spec_GateTurned.sig n) else if Nat.beq g 7 = true then some (laws_toGateShapeS.sig n) else if Nat.beq g 8 = true then some (laws_toGateObject.sig n) else if Nat.beq g 9 = true then some (impl_GateTurned.sig n) else if Nat.beq g 10 = true then some (laws_eqGateShapeS.sig n) else if Nat.beq g 11 = true then some (laws_eqGateObject.sig n) else none
def TL (n : Nat) : Loops := fun j _ st k => none
theorem con (n : Nat) : Con Tryd.prog 3 (sig n) :=
  con_print (hsw := rfl) (hsx := rfl) (T := T n) (TL := TL n) (c := Tryd.f3.body.getD .skip) (js := []) hMixed (conT_cons (laws_szGateShapeS.con n) (conT_cons (laws_szGateObject.con n) (conT_cons (spec_GateTurned.con n) (conT_cons (laws_toGateShapeS.con n) (conT_cons (laws_toGateObject.con n) (conT_cons (impl_GateTurned.con n) (conT_cons (laws_eqGateShapeS.con n) (conT_cons (laws_eqGateObject.con n) conT_none)))))))) Tryd.func3 (by decide) (by kernel_rfl) (by kernel_rfl) (by decide) LoopDef.nil (fun x => by kernel_rfl)
end laws_FnExactGateTurned
end Go.Proofs.YtnkgmbaeondobabDoor
