import Derived.Test.YtmdkodbodddhpaaGreatProg
import Derived.Test.YtmdkodbodddhpaaGreatM4
import Derived.Handy
set_option maxRecDepth 100000
set_option linter.unusedVariables false
namespace Go.Proofs.YtmdkodbodddhpaaGreat
open Go.Vm
abbrev tGateField : Ty := (.pair .str (.pair (.int .i64) (.pair (.int .i64) (.pair (.int .i64) (.pair (.slice .str) (.pair .str (.pair (.int .i64) (.pair .bool (.pair .bool (.pair .str (.pair .str .unit)))))))))))
abbrev tGateShape : Ty := (.pair .str (.pair (.slice tGateField) .unit))
abbrev tGateMend : Ty := (.pair .str (.pair .str (.pair .str (.pair .str (.pair .str (.pair .str .unit))))))
abbrev tGateTeam : Ty := (.pair .str (.pair .str .unit))
abbrev tGateLaw : Ty := (.pair (.slice tGateShape) (.pair (.slice tGateMend) (.pair (.slice tGateTeam) .unit)))
abbrev tGateRule : Ty := (.pair (.slice (.int .i64)) (.pair .str (.pair .str (.pair .str .unit))))
abbrev tGateAsk : Ty := (.pair .str (.pair (.int .i64) (.pair .str (.pair .str (.pair .str (.pair (.slice .str) (.pair (.slice .str) (.pair (.int .i64) (.pair .str (.pair .str (.pair tGateRule (.pair (.int .i64) .unit))))))))))))
abbrev tnumberField : Ty := (.pair tGateField .unit)
abbrev twordField : Ty := tnumberField
abbrev ttextField : Ty := tnumberField
abbrev tlinkField : Ty := tnumberField
theorem hMixed : Tryz.prog.follows .mixedOrders = true := by kernel_rfl
namespace laws_szStringS
@[reducible] def l5 : LSpec := ⟨[(0, .d (.slice .str)), (1, .d (.int .i64)), (5, .d (.int .i64))], [(.ret, [(4, .d (.int .i64))]), (.exit 0, [(1, .d (.int .i64))])]⟩
def B5 (n : Nat) {R : Type} (next : Sden l5.inS → Option R) (cs : Conts R l5.outs) (x : Sden l5.inS) : Option R :=
  if (decide (x.2.2.1 < (List.length x.1 : Int))) = true then
   if (decide (0 ≤ x.2.2.1 ∧ x.2.2.1 < (List.length x.1 : Int))) = true then
   if (decide ((IntKind.i64.wrap (x.2.1 - (ByteArray.size (List.getD x.1 (Int.toNat x.2.2.1) (⟨#[]⟩ : ByteArray)) : Int))) < (0 : Int))) = true then
   cs.1 ((-1 : Int), ())
 else
   next (x.1, (IntKind.i64.wrap (x.2.1 - (ByteArray.size (List.getD x.1 (Int.toNat x.2.2.1) (⟨#[]⟩ : ByteArray)) : Int))), (IntKind.i64.wrap (x.2.2.1 + (1 : Int))), ())
 else
   none
 else
   cs.2.1 (x.2.1, ())
def f (n : Nat) (x : Tup [(.slice .str), (.int .i64)]) : Option (Tup [(.int .i64)]) :=
  if (decide ((IntKind.i64.wrap (x.2.1 - (List.length x.1 : Int))) < (0 : Int))) = true then
   some ((-1 : Int), ())
 else
   runL (B5 n) ((fun z1 =>
     some (z1.1, ())), (fun z2 =>
     some (z2.1, ())), ()) n (x.1, (IntKind.i64.wrap (x.2.1 - (List.length x.1 : Int))), (0 : Int), ())
@[reducible] def sig (n : Nat) : Sig := ⟨[(.slice .str), (.int .i64)], [(.int .i64)], false, f n, none, none⟩
def T (n : Nat) : FuncId → Option Sig := fun g => none
def TL (n : Nat) : Loops := fun j _ st k => if Nat.beq j 5 = true then (match dec st l5.inS [] with | some x => runL (B5 n) (contsOf k l5.outs) n x | none => none) else none
theorem d5 (n : Nat) : LoopDef Tryz.prog (T n) (TL n) Tryz.f15 5 :=
  ⟨l5, fun R => B5 n, n, fun R st k => by kernel_rfl, fun R next cs x => by kernel_rfl⟩
theorem con (n : Nat) : Con Tryz.prog 15 (sig n) :=
  con_print (hsw := rfl) (hsx := rfl) (T := T n) (TL := TL n) (c := Tryz.f15.body.getD .skip) (js := [5]) hMixed conT_none Tryz.func15 (by decide) (by kernel_rfl) (by kernel_rfl) (by decide) (LoopDef.cons (d5 n) LoopDef.nil) (fun x => by kernel_rfl)
end laws_szStringS
namespace laws_szGateField
def f (n : Nat) (x : Tup [tGateField, (.int .i64)]) : Option (Tup [(.int .i64)]) :=
  if (decide ((IntKind.i64.wrap (x.2.1 - (ByteArray.size x.1.1 : Int))) < (0 : Int))) = true then
   some ((-1 : Int), ())
 else
   (laws_szStringS.f n (x.1.2.2.2.2.1, (IntKind.i64.wrap (x.2.1 - (ByteArray.size x.1.1 : Int))), ())).bind fun y1 =>
 if (decide (y1.1 < (0 : Int))) = true then
 some ((-1 : Int), ())
 else if (decide ((IntKind.i64.wrap (y1.1 - (ByteArray.size x.1.2.2.2.2.2.1 : Int))) < (0 : Int))) = true then
 some ((-1 : Int), ())
 else if (decide ((IntKind.i64.wrap ((IntKind.i64.wrap (y1.1 - (ByteArray.size x.1.2.2.2.2.2.1 : Int))) - (ByteArray.size x.1.2.2.2.2.2.2.2.2.2.1 : Int))) < (0 : Int))) = true then
 some ((-1 : Int), ())
 else if (decide ((IntKind.i64.wrap ((IntKind.i64.wrap ((IntKind.i64.wrap (y1.1 - (ByteArray.size x.1.2.2.2.2.2.1 : Int))) - (ByteArray.size x.1.2.2.2.2.2.2.2.2.2.1 : Int))) - (ByteArray.size x.1.2.2.2.2.2.2.2.2.2.2.1 : Int))) < (0 : Int))) = true then
   some ((-1 : Int), ())
 else
   some ((IntKind.i64.wrap ((IntKind.i64.wrap ((IntKind.i64.wrap (y1.1 - (ByteArray.size x.1.2.2.2.2.2.1 : Int))) - (ByteArray.size x.1.2.2.2.2.2.2.2.2.2.1 : Int))) - (ByteArray.size x.1.2.2.2.2.2.2.2.2.2.2.1 : Int))), ())
@[reducible] def sig (n : Nat) : Sig := ⟨[tGateField, (.int .i64)], [(.int .i64)], false, f n, none, none⟩
def T (n : Nat) : FuncId → Option Sig := fun g => if Nat.beq g 15 = true then some (laws_szStringS.sig n) else none
def TL (n : Nat) : Loops := fun j _ st k => none
theorem con (n : Nat) : Con Tryz.prog 73 (sig n) :=
  con_print (hsw := rfl) (hsx := rfl) (T := T n) (TL := TL n) (c := Tryz.f73.body.getD .skip) (js := []) hMixed (conT_cons (laws_szStringS.con n) conT_none) Tryz.func73 (by decide) (by kernel_rfl) (by kernel_rfl) (by decide) LoopDef.nil (fun x => by kernel_rfl)
end laws_szGateField
namespace laws_szGateFieldS
@[reducible] def l5 : LSpec := ⟨[(0, .d (.slice tGateField)), (1, .d (.int .i64)), (5, .d (.int .i64))], [(.ret, [(4, .d (.int .i64))]), (.exit 0, [(1, .d (.int .i64))])]⟩
def B5 (n : Nat) {R : Type} (next : Sden l5.inS → Option R) (cs : Conts R l5.outs) (x : Sden l5.inS) : Option R :=
  if (decide (x.2.2.1 < (List.length x.1 : Int))) = true then
   if (decide (0 ≤ x.2.2.1 ∧ x.2.2.1 < (List.length x.1 : Int))) = true then
   (laws_szGateField.f n ((List.getD x.1 (Int.toNat x.2.2.1) (Ty.zero tGateField)), x.2.1, ())).bind fun y1 =>
 if (decide (y1.1 < (0 : Int))) = true then
   cs.1 ((-1 : Int), ())
 else
   next (x.1, y1.1, (IntKind.i64.wrap (x.2.2.1 + (1 : Int))), ())
 else
   none
 else
   cs.2.1 (x.2.1, ())
def f (n : Nat) (x : Tup [(.slice tGateField), (.int .i64)]) : Option (Tup [(.int .i64)]) :=
  if (decide ((IntKind.i64.wrap (x.2.1 - (List.length x.1 : Int))) < (0 : Int))) = true then
   some ((-1 : Int), ())
 else
   runL (B5 n) ((fun z2 =>
     some (z2.1, ())), (fun z3 =>
     some (z3.1, ())), ()) n (x.1, (IntKind.i64.wrap (x.2.1 - (List.length x.1 : Int))), (0 : Int), ())
@[reducible] def sig (n : Nat) : Sig := ⟨[(.slice tGateField), (.int .i64)], [(.int .i64)], false, f n, none, none⟩
def T (n : Nat) : FuncId → Option Sig := fun g => if Nat.beq g 73 = true then some (laws_szGateField.sig n) else none
def TL (n : Nat) : Loops := fun j _ st k => if Nat.beq j 5 = true then (match dec st l5.inS [] with | some x => runL (B5 n) (contsOf k l5.outs) n x | none => none) else none
theorem d5 (n : Nat) : LoopDef Tryz.prog (T n) (TL n) Tryz.f59 5 :=
  ⟨l5, fun R => B5 n, n, fun R st k => by kernel_rfl, fun R next cs x => by kernel_rfl⟩
theorem con (n : Nat) : Con Tryz.prog 59 (sig n) :=
  con_print (hsw := rfl) (hsx := rfl) (T := T n) (TL := TL n) (c := Tryz.f59.body.getD .skip) (js := [5]) hMixed (conT_cons (laws_szGateField.con n) conT_none) Tryz.func59 (by decide) (by kernel_rfl) (by kernel_rfl) (by decide) (LoopDef.cons (d5 n) LoopDef.nil) (fun x => by kernel_rfl)
end laws_szGateFieldS
namespace laws_szGateShape
def f (n : Nat) (x : Tup [tGateShape, (.int .i64)]) : Option (Tup [(.int .i64)]) :=
  if (decide ((IntKind.i64.wrap (x.2.1 - (ByteArray.size x.1.1 : Int))) < (0 : Int))) = true then
   some ((-1 : Int), ())
 else
   (laws_szGateFieldS.f n (x.1.2.1, (IntKind.i64.wrap (x.2.1 - (ByteArray.size x.1.1 : Int))), ())).bind fun y1 =>
 if (decide (y1.1 < (0 : Int))) = true then
   some ((-1 : Int), ())
 else
   some (y1.1, ())
@[reducible] def sig (n : Nat) : Sig := ⟨[tGateShape, (.int .i64)], [(.int .i64)], false, f n, none, none⟩
def T (n : Nat) : FuncId → Option Sig := fun g => if Nat.beq g 59 = true then some (laws_szGateFieldS.sig n) else none
def TL (n : Nat) : Loops := fun j _ st k => none
theorem con (n : Nat) : Con Tryz.prog 34 (sig n) :=
  con_print (hsw := rfl) (hsx := rfl) (T := T n) (TL := TL n) (c := Tryz.f34.body.getD .skip) (js := []) hMixed (conT_cons (laws_szGateFieldS.con n) conT_none) Tryz.func34 (by decide) (by kernel_rfl) (by kernel_rfl) (by decide) LoopDef.nil (fun x => by kernel_rfl)
end laws_szGateShape
namespace laws_szGateShapeS
@[reducible] def l5 : LSpec := ⟨[(0, .d (.slice tGateShape)), (1, .d (.int .i64)), (5, .d (.int .i64))], [(.ret, [(4, .d (.int .i64))]), (.exit 0, [(1, .d (.int .i64))])]⟩
def B5 (n : Nat) {R : Type} (next : Sden l5.inS → Option R) (cs : Conts R l5.outs) (x : Sden l5.inS) : Option R :=
  if (decide (x.2.2.1 < (List.length x.1 : Int))) = true then
   if (decide (0 ≤ x.2.2.1 ∧ x.2.2.1 < (List.length x.1 : Int))) = true then
   (laws_szGateShape.f n ((List.getD x.1 (Int.toNat x.2.2.1) (Ty.zero tGateShape)), x.2.1, ())).bind fun y1 =>
 if (decide (y1.1 < (0 : Int))) = true then
   cs.1 ((-1 : Int), ())
 else
   next (x.1, y1.1, (IntKind.i64.wrap (x.2.2.1 + (1 : Int))), ())
 else
   none
 else
   cs.2.1 (x.2.1, ())
def f (n : Nat) (x : Tup [(.slice tGateShape), (.int .i64)]) : Option (Tup [(.int .i64)]) :=
  if (decide ((IntKind.i64.wrap (x.2.1 - (List.length x.1 : Int))) < (0 : Int))) = true then
   some ((-1 : Int), ())
 else
   runL (B5 n) ((fun z2 =>
     some (z2.1, ())), (fun z3 =>
     some (z3.1, ())), ()) n (x.1, (IntKind.i64.wrap (x.2.1 - (List.length x.1 : Int))), (0 : Int), ())
@[reducible] def sig (n : Nat) : Sig := ⟨[(.slice tGateShape), (.int .i64)], [(.int .i64)], false, f n, none, none⟩
def T (n : Nat) : FuncId → Option Sig := fun g => if Nat.beq g 34 = true then some (laws_szGateShape.sig n) else none
def TL (n : Nat) : Loops := fun j _ st k => if Nat.beq j 5 = true then (match dec st l5.inS [] with | some x => runL (B5 n) (contsOf k l5.outs) n x | none => none) else none
theorem d5 (n : Nat) : LoopDef Tryz.prog (T n) (TL n) Tryz.f12 5 :=
  ⟨l5, fun R => B5 n, n, fun R st k => by kernel_rfl, fun R next cs x => by kernel_rfl⟩
theorem con (n : Nat) : Con Tryz.prog 12 (sig n) :=
  con_print (hsw := rfl) (hsx := rfl) (T := T n) (TL := TL n) (c := Tryz.f12.body.getD .skip) (js := [5]) hMixed (conT_cons (laws_szGateShape.con n) conT_none) Tryz.func12 (by decide) (by kernel_rfl) (by kernel_rfl) (by decide) (LoopDef.cons (d5 n) LoopDef.nil) (fun x => by kernel_rfl)
end laws_szGateShapeS
namespace laws_szGateMend
def f (n : Nat) (x : Tup [tGateMend, (.int .i64)]) : Option (Tup [(.int .i64)]) :=
  if (decide ((IntKind.i64.wrap (x.2.1 - (ByteArray.size x.1.1 : Int))) < (0 : Int))) = true then
 some ((-1 : Int), ())
 else if (decide ((IntKind.i64.wrap ((IntKind.i64.wrap (x.2.1 - (ByteArray.size x.1.1 : Int))) - (ByteArray.size x.1.2.1 : Int))) < (0 : Int))) = true then
 some ((-1 : Int), ())
 else if (decide ((IntKind.i64.wrap ((IntKind.i64.wrap ((IntKind.i64.wrap (x.2.1 - (ByteArray.size x.1.1 : Int))) - (ByteArray.size x.1.2.1 : Int))) - (ByteArray.size x.1.2.2.1 : Int))) < (0 : Int))) = true then
 some ((-1 : Int), ())
 else if (decide ((IntKind.i64.wrap ((IntKind.i64.wrap ((IntKind.i64.wrap ((IntKind.i64.wrap (x.2.1 - (ByteArray.size x.1.1 : Int))) - (ByteArray.size x.1.2.1 : Int))) - (ByteArray.size x.1.2.2.1 : Int))) - (ByteArray.size x.1.2.2.2.1 : Int))) < (0 : Int))) = true then
 some ((-1 : Int), ())
 else if (decide ((IntKind.i64.wrap ((IntKind.i64.wrap ((IntKind.i64.wrap ((IntKind.i64.wrap ((IntKind.i64.wrap (x.2.1 - (ByteArray.size x.1.1 : Int))) - (ByteArray.size x.1.2.1 : Int))) - (ByteArray.size x.1.2.2.1 : Int))) - (ByteArray.size x.1.2.2.2.1 : Int))) - (ByteArray.size x.1.2.2.2.2.1 : Int))) < (0 : Int))) = true then
 some ((-1 : Int), ())
 else if (decide ((IntKind.i64.wrap ((IntKind.i64.wrap ((IntKind.i64.wrap ((IntKind.i64.wrap ((IntKind.i64.wrap ((IntKind.i64.wrap (x.2.1 - (ByteArray.size x.1.1 : Int))) - (ByteArray.size x.1.2.1 : Int))) - (ByteArray.size x.1.2.2.1 : Int))) - (ByteArray.size x.1.2.2.2.1 : Int))) - (ByteArray.size x.1.2.2.2.2.1 : Int))) - (ByteArray.size x.1.2.2.2.2.2.1 : Int))) < (0 : Int))) = true then
   some ((-1 : Int), ())
 else
   some ((IntKind.i64.wrap ((IntKind.i64.wrap ((IntKind.i64.wrap ((IntKind.i64.wrap ((IntKind.i64.wrap ((IntKind.i64.wrap (x.2.1 - (ByteArray.size x.1.1 : Int))) - (ByteArray.size x.1.2.1 : Int))) - (ByteArray.size x.1.2.2.1 : Int))) - (ByteArray.size x.1.2.2.2.1 : Int))) - (ByteArray.size x.1.2.2.2.2.1 : Int))) - (ByteArray.size x.1.2.2.2.2.2.1 : Int))), ())
@[reducible] def sig (n : Nat) : Sig := ⟨[tGateMend, (.int .i64)], [(.int .i64)], false, f n, none, none⟩
def T (n : Nat) : FuncId → Option Sig := fun g => none
def TL (n : Nat) : Loops := fun j _ st k => none
theorem con (n : Nat) : Con Tryz.prog 35 (sig n) :=
  con_print (hsw := rfl) (hsx := rfl) (T := T n) (TL := TL n) (c := Tryz.f35.body.getD .skip) (js := []) hMixed conT_none Tryz.func35 (by decide) (by kernel_rfl) (by kernel_rfl) (by decide) LoopDef.nil (fun x => by kernel_rfl)
end laws_szGateMend
namespace laws_szGateMendS
@[reducible] def l5 : LSpec := ⟨[(0, .d (.slice tGateMend)), (1, .d (.int .i64)), (5, .d (.int .i64))], [(.ret, [(4, .d (.int .i64))]), (.exit 0, [(1, .d (.int .i64))])]⟩
def B5 (n : Nat) {R : Type} (next : Sden l5.inS → Option R) (cs : Conts R l5.outs) (x : Sden l5.inS) : Option R :=
  if (decide (x.2.2.1 < (List.length x.1 : Int))) = true then
   if (decide (0 ≤ x.2.2.1 ∧ x.2.2.1 < (List.length x.1 : Int))) = true then
   (laws_szGateMend.f n ((List.getD x.1 (Int.toNat x.2.2.1) (Ty.zero tGateMend)), x.2.1, ())).bind fun y1 =>
 if (decide (y1.1 < (0 : Int))) = true then
   cs.1 ((-1 : Int), ())
 else
   next (x.1, y1.1, (IntKind.i64.wrap (x.2.2.1 + (1 : Int))), ())
 else
   none
 else
   cs.2.1 (x.2.1, ())
def f (n : Nat) (x : Tup [(.slice tGateMend), (.int .i64)]) : Option (Tup [(.int .i64)]) :=
  if (decide ((IntKind.i64.wrap (x.2.1 - (List.length x.1 : Int))) < (0 : Int))) = true then
   some ((-1 : Int), ())
 else
   runL (B5 n) ((fun z2 =>
     some (z2.1, ())), (fun z3 =>
     some (z3.1, ())), ()) n (x.1, (IntKind.i64.wrap (x.2.1 - (List.length x.1 : Int))), (0 : Int), ())
@[reducible] def sig (n : Nat) : Sig := ⟨[(.slice tGateMend), (.int .i64)], [(.int .i64)], false, f n, none, none⟩
def T (n : Nat) : FuncId → Option Sig := fun g => if Nat.beq g 35 = true then some (laws_szGateMend.sig n) else none
def TL (n : Nat) : Loops := fun j _ st k => if Nat.beq j 5 = true then (match dec st l5.inS [] with | some x => runL (B5 n) (contsOf k l5.outs) n x | none => none) else none
theorem d5 (n : Nat) : LoopDef Tryz.prog (T n) (TL n) Tryz.f13 5 :=
  ⟨l5, fun R => B5 n, n, fun R st k => by kernel_rfl, fun R next cs x => by kernel_rfl⟩
theorem con (n : Nat) : Con Tryz.prog 13 (sig n) :=
  con_print (hsw := rfl) (hsx := rfl) (T := T n) (TL := TL n) (c := Tryz.f13.body.getD .skip) (js := [5]) hMixed (conT_cons (laws_szGateMend.con n) conT_none) Tryz.func13 (by decide) (by kernel_rfl) (by kernel_rfl) (by decide) (LoopDef.cons (d5 n) LoopDef.nil) (fun x => by kernel_rfl)
end laws_szGateMendS
namespace laws_szGateTeam
def f (n : Nat) (x : Tup [tGateTeam, (.int .i64)]) : Option (Tup [(.int .i64)]) :=
  if (decide ((IntKind.i64.wrap (x.2.1 - (ByteArray.size x.1.1 : Int))) < (0 : Int))) = true then
 some ((-1 : Int), ())
 else if (decide ((IntKind.i64.wrap ((IntKind.i64.wrap (x.2.1 - (ByteArray.size x.1.1 : Int))) - (ByteArray.size x.1.2.1 : Int))) < (0 : Int))) = true then
   some ((-1 : Int), ())
 else
   some ((IntKind.i64.wrap ((IntKind.i64.wrap (x.2.1 - (ByteArray.size x.1.1 : Int))) - (ByteArray.size x.1.2.1 : Int))), ())
@[reducible] def sig (n : Nat) : Sig := ⟨[tGateTeam, (.int .i64)], [(.int .i64)], false, f n, none, none⟩
def T (n : Nat) : FuncId → Option Sig := fun g => none
def TL (n : Nat) : Loops := fun j _ st k => none
theorem con (n : Nat) : Con Tryz.prog 36 (sig n) :=
  con_print (hsw := rfl) (hsx := rfl) (T := T n) (TL := TL n) (c := Tryz.f36.body.getD .skip) (js := []) hMixed conT_none Tryz.func36 (by decide) (by kernel_rfl) (by kernel_rfl) (by decide) LoopDef.nil (fun x => by kernel_rfl)
end laws_szGateTeam
namespace laws_szGateTeamS
@[reducible] def l5 : LSpec := ⟨[(0, .d (.slice tGateTeam)), (1, .d (.int .i64)), (5, .d (.int .i64))], [(.ret, [(4, .d (.int .i64))]), (.exit 0, [(1, .d (.int .i64))])]⟩
def B5 (n : Nat) {R : Type} (next : Sden l5.inS → Option R) (cs : Conts R l5.outs) (x : Sden l5.inS) : Option R :=
  if (decide (x.2.2.1 < (List.length x.1 : Int))) = true then
   if (decide (0 ≤ x.2.2.1 ∧ x.2.2.1 < (List.length x.1 : Int))) = true then
   (laws_szGateTeam.f n ((List.getD x.1 (Int.toNat x.2.2.1) (Ty.zero tGateTeam)), x.2.1, ())).bind fun y1 =>
 if (decide (y1.1 < (0 : Int))) = true then
   cs.1 ((-1 : Int), ())
 else
   next (x.1, y1.1, (IntKind.i64.wrap (x.2.2.1 + (1 : Int))), ())
 else
   none
 else
   cs.2.1 (x.2.1, ())
def f (n : Nat) (x : Tup [(.slice tGateTeam), (.int .i64)]) : Option (Tup [(.int .i64)]) :=
  if (decide ((IntKind.i64.wrap (x.2.1 - (List.length x.1 : Int))) < (0 : Int))) = true then
   some ((-1 : Int), ())
 else
   runL (B5 n) ((fun z2 =>
     some (z2.1, ())), (fun z3 =>
     some (z3.1, ())), ()) n (x.1, (IntKind.i64.wrap (x.2.1 - (List.length x.1 : Int))), (0 : Int), ())
@[reducible] def sig (n : Nat) : Sig := ⟨[(.slice tGateTeam), (.int .i64)], [(.int .i64)], false, f n, none, none⟩
def T (n : Nat) : FuncId → Option Sig := fun g => if Nat.beq g 36 = true then some (laws_szGateTeam.sig n) else none
def TL (n : Nat) : Loops := fun j _ st k => if Nat.beq j 5 = true then (match dec st l5.inS [] with | some x => runL (B5 n) (contsOf k l5.outs) n x | none => none) else none
theorem d5 (n : Nat) : LoopDef Tryz.prog (T n) (TL n) Tryz.f14 5 :=
  ⟨l5, fun R => B5 n, n, fun R st k => by kernel_rfl, fun R next cs x => by kernel_rfl⟩
theorem con (n : Nat) : Con Tryz.prog 14 (sig n) :=
  con_print (hsw := rfl) (hsx := rfl) (T := T n) (TL := TL n) (c := Tryz.f14.body.getD .skip) (js := [5]) hMixed (conT_cons (laws_szGateTeam.con n) conT_none) Tryz.func14 (by decide) (by kernel_rfl) (by kernel_rfl) (by decide) (LoopDef.cons (d5 n) LoopDef.nil) (fun x => by kernel_rfl)
end laws_szGateTeamS
namespace laws_szGateLaw
def f (n : Nat) (x : Tup [tGateLaw, (.int .i64)]) : Option (Tup [(.int .i64)]) :=
  (laws_szGateShapeS.f n (x.1.1, x.2.1, ())).bind fun y1 =>
 if (decide (y1.1 < (0 : Int))) = true then
   some ((-1 : Int), ())
 else
   (laws_szGateMendS.f n (x.1.2.1, y1.1, ())).bind fun y2 =>
 if (decide (y2.1 < (0 : Int))) = true then
   some ((-1 : Int), ())
 else
   (laws_szGateTeamS.f n (x.1.2.2.1, y2.1, ())).bind fun y3 =>
 if (decide (y3.1 < (0 : Int))) = true then
   some ((-1 : Int), ())
 else
   some (y3.1, ())
@[reducible] def sig (n : Nat) : Sig := ⟨[tGateLaw, (.int .i64)], [(.int .i64)], false, f n, none, none⟩
def T (n : Nat) : FuncId → Option Sig := fun g => if Nat.beq g 12 = true then some (laws_szGateShapeS.sig n) else if Nat.beq g 13 = true then some (laws_szGateMendS.sig n) else if Nat.beq g 14 = true then some (laws_szGateTeamS.sig n) else none
def TL (n : Nat) : Loops := fun j _ st k => none
theorem con (n : Nat) : Con Tryz.prog 4 (sig n) :=
  con_print (hsw := rfl) (hsx := rfl) (T := T n) (TL := TL n) (c := Tryz.f4.body.getD .skip) (js := []) hMixed (conT_cons (laws_szGateShapeS.con n) (conT_cons (laws_szGateMendS.con n) (conT_cons (laws_szGateTeamS.con n) conT_none))) Tryz.func4 (by decide) (by kernel_rfl) (by kernel_rfl) (by decide) LoopDef.nil (fun x => by kernel_rfl)
end laws_szGateLaw
namespace laws_szIntS
def f (n : Nat) (x : Tup [(.slice (.int .i64)), (.int .i64)]) : Option (Tup [(.int .i64)]) :=
  if (decide ((IntKind.i64.wrap (x.2.1 - (List.length x.1 : Int))) < (0 : Int))) = true then
   some ((-1 : Int), ())
 else
   some ((IntKind.i64.wrap (x.2.1 - (List.length x.1 : Int))), ())
@[reducible] def sig (n : Nat) : Sig := ⟨[(.slice (.int .i64)), (.int .i64)], [(.int .i64)], false, f n, none, none⟩
def T (n : Nat) : FuncId → Option Sig := fun g => none
def TL (n : Nat) : Loops := fun j _ st k => none
theorem con (n : Nat) : Con Tryz.prog 37 (sig n) :=
  con_print (hsw := rfl) (hsx := rfl) (T := T n) (TL := TL n) (c := Tryz.f37.body.getD .skip) (js := []) hMixed conT_none Tryz.func37 (by decide) (by kernel_rfl) (by kernel_rfl) (by decide) LoopDef.nil (fun x => by kernel_rfl)
end laws_szIntS
namespace laws_szGateRule
def f (n : Nat) (x : Tup [tGateRule, (.int .i64)]) : Option (Tup [(.int .i64)]) :=
  (laws_szIntS.f n (x.1.1, x.2.1, ())).bind fun y1 =>
 if (decide (y1.1 < (0 : Int))) = true then
 some ((-1 : Int), ())
 else if (decide ((IntKind.i64.wrap (y1.1 - (ByteArray.size x.1.2.1 : Int))) < (0 : Int))) = true then
 some ((-1 : Int), ())
 else if (decide ((IntKind.i64.wrap ((IntKind.i64.wrap (y1.1 - (ByteArray.size x.1.2.1 : Int))) - (ByteArray.size x.1.2.2.1 : Int))) < (0 : Int))) = true then
 some ((-1 : Int), ())
 else if (decide ((IntKind.i64.wrap ((IntKind.i64.wrap ((IntKind.i64.wrap (y1.1 - (ByteArray.size x.1.2.1 : Int))) - (ByteArray.size x.1.2.2.1 : Int))) - (ByteArray.size x.1.2.2.2.1 : Int))) < (0 : Int))) = true then
   some ((-1 : Int), ())
 else
   some ((IntKind.i64.wrap ((IntKind.i64.wrap ((IntKind.i64.wrap (y1.1 - (ByteArray.size x.1.2.1 : Int))) - (ByteArray.size x.1.2.2.1 : Int))) - (ByteArray.size x.1.2.2.2.1 : Int))), ())
@[reducible] def sig (n : Nat) : Sig := ⟨[tGateRule, (.int .i64)], [(.int .i64)], false, f n, none, none⟩
def T (n : Nat) : FuncId → Option Sig := fun g => if Nat.beq g 37 = true then some (laws_szIntS.sig n) else none
def TL (n : Nat) : Loops := fun j _ st k => none
theorem con (n : Nat) : Con Tryz.prog 16 (sig n) :=
  con_print (hsw := rfl) (hsx := rfl) (T := T n) (TL := TL n) (c := Tryz.f16.body.getD .skip) (js := []) hMixed (conT_cons (laws_szIntS.con n) conT_none) Tryz.func16 (by decide) (by kernel_rfl) (by kernel_rfl) (by decide) LoopDef.nil (fun x => by kernel_rfl)
end laws_szGateRule
namespace laws_szGateAsk
def f (n : Nat) (x : Tup [tGateAsk, (.int .i64)]) : Option (Tup [(.int .i64)]) :=
  if (decide ((IntKind.i64.wrap (x.2.1 - (ByteArray.size x.1.1 : Int))) < (0 : Int))) = true then
 some ((-1 : Int), ())
 else if (decide ((IntKind.i64.wrap ((IntKind.i64.wrap (x.2.1 - (ByteArray.size x.1.1 : Int))) - (ByteArray.size x.1.2.2.1 : Int))) < (0 : Int))) = true then
 some ((-1 : Int), ())
 else if (decide ((IntKind.i64.wrap ((IntKind.i64.wrap ((IntKind.i64.wrap (x.2.1 - (ByteArray.size x.1.1 : Int))) - (ByteArray.size x.1.2.2.1 : Int))) - (ByteArray.size x.1.2.2.2.1 : Int))) < (0 : Int))) = true then
 some ((-1 : Int), ())
 else if (decide ((IntKind.i64.wrap ((IntKind.i64.wrap ((IntKind.i64.wrap ((IntKind.i64.wrap (x.2.1 - (ByteArray.size x.1.1 : Int))) - (ByteArray.size x.1.2.2.1 : Int))) - (ByteArray.size x.1.2.2.2.1 : Int))) - (ByteArray.size x.1.2.2.2.2.1 : Int))) < (0 : Int))) = true then
   some ((-1 : Int), ())
 else
   (laws_szStringS.f n (x.1.2.2.2.2.2.1, (IntKind.i64.wrap ((IntKind.i64.wrap ((IntKind.i64.wrap ((IntKind.i64.wrap (x.2.1 - (ByteArray.size x.1.1 : Int))) - (ByteArray.size x.1.2.2.1 : Int))) - (ByteArray.size x.1.2.2.2.1 : Int))) - (ByteArray.size x.1.2.2.2.2.1 : Int))), ())).bind fun y1 =>
 if (decide (y1.1 < (0 : Int))) = true then
   some ((-1 : Int), ())
 else
   (laws_szStringS.f n (x.1.2.2.2.2.2.2.1, y1.1, ())).bind fun y2 =>
 if (decide (y2.1 < (0 : Int))) = true then
 some ((-1 : Int), ())
 else if (decide ((IntKind.i64.wrap (y2.1 - (ByteArray.size x.1.2.2.2.2.2.2.2.2.1 : Int))) < (0 : Int))) = true then
 some ((-1 : Int), ())
 else if (decide ((IntKind.i64.wrap ((IntKind.i64.wrap (y2.1 - (ByteArray.size x.1.2.2.2.2.2.2.2.2.1 : Int))) - (ByteArray.size x.1.2.2.2.2.2.2.2.2.2.1 : Int))) < (0 : Int))) = true then
   some ((-1 : Int), ())
 else
   (laws_szGateRule.f n (x.1.2.2.2.2.2.2.2.2.2.2.1, (IntKind.i64.wrap ((IntKind.i64.wrap (y2.1 - (ByteArray.size x.1.2.2.2.2.2.2.2.2.1 : Int))) - (ByteArray.size x.1.2.2.2.2.2.2.2.2.2.1 : Int))), ())).bind fun y3 =>
 if (decide (y3.1 < (0 : Int))) = true then
   some ((-1 : Int), ())
 else
   some (y3.1, ())
@[reducible] def sig (n : Nat) : Sig := ⟨[tGateAsk, (.int .i64)], [(.int .i64)], false, f n, none, none⟩
def T (n : Nat) : FuncId → Option Sig := fun g => if Nat.beq g 15 = true then some (laws_szStringS.sig n) else if Nat.beq g 16 = true then some (laws_szGateRule.sig n) else none
def TL (n : Nat) : Loops := fun j _ st k => none
theorem con (n : Nat) : Con Tryz.prog 5 (sig n) :=
  con_print (hsw := rfl) (hsx := rfl) (T := T n) (TL := TL n) (c := Tryz.f5.body.getD .skip) (js := []) hMixed (conT_cons (laws_szStringS.con n) (conT_cons (laws_szGateRule.con n) conT_none)) Tryz.func5 (by decide) (by kernel_rfl) (by kernel_rfl) (by decide) LoopDef.nil (fun x => by kernel_rfl)
end laws_szGateAsk
namespace laws_toStringS
@[reducible] def l3 : LSpec := ⟨[(0, .d (.slice .str)), (3, .row true .str), (4, .d (.int .i64))], [(.exit 0, [(3, .row true .str)])]⟩
def B3 (n : Nat) {R : Type} (next : Sden l3.inS → Option R) (cs : Conts R l3.outs) (x : Sden l3.inS) : Option R :=
  if (decide (x.2.2.1 < (List.length x.1 : Int))) = true then
   if (decide (0 ≤ x.2.2.1 ∧ x.2.2.1 < (List.length x.1 : Int))) = true then
   if (decide (0 ≤ x.2.2.1 ∧ x.2.2.1 < (List.length x.2.1 : Int))) = true then
   next (x.1, (List.set x.2.1 (Int.toNat x.2.2.1) (List.getD x.1 (Int.toNat x.2.2.1) (⟨#[]⟩ : ByteArray))), (IntKind.i64.wrap (x.2.2.1 + (1 : Int))), ())
 else
   none
 else
   none
 else
   cs.1 (x.2.1, ())
def f (n : Nat) (x : Tup [(.slice .str)]) : Option (Tup [(.slice .str)]) :=
  if (decide (0 ≤ (List.length x.1 : Int) ∧ (List.length x.1 : Int) ≤ (List.length x.1 : Int) ∧ (List.length x.1 : Int) * (16 : Int) ≤ 140737488355328)) = true then
   runL (B3 n) ((fun z1 =>
     some (z1.1, ())), ()) n (x.1, (List.replicate (Int.toNat (List.length x.1 : Int)) (⟨#[]⟩ : ByteArray)), (0 : Int), ())
 else
   none
@[reducible] def sig (n : Nat) : Sig := ⟨[(.slice .str)], [(.slice .str)], true, f n, none, none⟩
def T (n : Nat) : FuncId → Option Sig := fun g => none
def TL (n : Nat) : Loops := fun j _ st k => if Nat.beq j 3 = true then (match dec st l3.inS [] with | some x => runL (B3 n) (contsOf k l3.outs) n x | none => none) else none
theorem d3 (n : Nat) : LoopDef Tryz.prog (T n) (TL n) Tryz.f22 3 :=
  ⟨l3, fun R => B3 n, n, fun R st k => by kernel_rfl, fun R next cs x => by kernel_rfl⟩
theorem con (n : Nat) : Con Tryz.prog 22 (sig n) :=
  con_print (hsw := rfl) (hsx := rfl) (T := T n) (TL := TL n) (c := Tryz.f22.body.getD .skip) (js := [3]) hMixed conT_none Tryz.func22 (by decide) (by kernel_rfl) (by kernel_rfl) (by decide) (LoopDef.cons (d3 n) LoopDef.nil) (fun x => by kernel_rfl)
end laws_toStringS
namespace laws_toGateField
def f (n : Nat) (x : Tup [tGateField]) : Option (Tup [tGateField]) :=
  (laws_toStringS.f n (x.1.2.2.2.2.1, ())).bind fun y1 =>
 some ((x.1.1, x.1.2.1, x.1.2.2.1, x.1.2.2.2.1, y1.1, x.1.2.2.2.2.2), ())
@[reducible] def sig (n : Nat) : Sig := ⟨[tGateField], [tGateField], true, f n, none, none⟩
def T (n : Nat) : FuncId → Option Sig := fun g => if Nat.beq g 22 = true then some (laws_toStringS.sig n) else none
def TL (n : Nat) : Loops := fun j _ st k => none
theorem con (n : Nat) : Con Tryz.prog 80 (sig n) :=
  con_print (hsw := rfl) (hsx := rfl) (T := T n) (TL := TL n) (c := Tryz.f80.body.getD .skip) (js := []) hMixed (conT_cons (laws_toStringS.con n) conT_none) Tryz.func80 (by decide) (by kernel_rfl) (by kernel_rfl) (by decide) LoopDef.nil (fun x => by kernel_rfl)
end laws_toGateField
namespace laws_toGateFieldS
@[reducible] def l3 : LSpec := ⟨[(0, .d (.slice tGateField)), (3, .row true tGateField), (4, .d (.int .i64))], [(.exit 0, [(3, .row true tGateField)])]⟩
def B3 (n : Nat) {R : Type} (next : Sden l3.inS → Option R) (cs : Conts R l3.outs) (x : Sden l3.inS) : Option R :=
  if (decide (x.2.2.1 < (List.length x.1 : Int))) = true then
   if (decide (0 ≤ x.2.2.1 ∧ x.2.2.1 < (List.length x.1 : Int))) = true then
   (laws_toGateField.f n ((List.getD x.1 (Int.toNat x.2.2.1) (Ty.zero tGateField)), ())).bind fun y1 =>
 if (decide (0 ≤ x.2.2.1 ∧ x.2.2.1 < (List.length x.2.1 : Int))) = true then
   next (x.1, (List.set x.2.1 (Int.toNat x.2.2.1) y1.1), (IntKind.i64.wrap (x.2.2.1 + (1 : Int))), ())
 else
   none
 else
   none
 else
   cs.1 (x.2.1, ())
def f (n : Nat) (x : Tup [(.slice tGateField)]) : Option (Tup [(.slice tGateField)]) :=
  if (decide (0 ≤ (List.length x.1 : Int) ∧ (List.length x.1 : Int) ≤ (List.length x.1 : Int) ∧ (List.length x.1 : Int) * (128 : Int) ≤ 140737488355328)) = true then
   runL (B3 n) ((fun z2 =>
     some (z2.1, ())), ()) n (x.1, (List.replicate (Int.toNat (List.length x.1 : Int)) (Ty.zero tGateField)), (0 : Int), ())
 else
   none
@[reducible] def sig (n : Nat) : Sig := ⟨[(.slice tGateField)], [(.slice tGateField)], true, f n, none, none⟩
def T (n : Nat) : FuncId → Option Sig := fun g => if Nat.beq g 80 = true then some (laws_toGateField.sig n) else none
def TL (n : Nat) : Loops := fun j _ st k => if Nat.beq j 3 = true then (match dec st l3.inS [] with | some x => runL (B3 n) (contsOf k l3.outs) n x | none => none) else none
theorem d3 (n : Nat) : LoopDef Tryz.prog (T n) (TL n) Tryz.f65 3 :=
  ⟨l3, fun R => B3 n, n, fun R st k => by kernel_rfl, fun R next cs x => by kernel_rfl⟩
theorem con (n : Nat) : Con Tryz.prog 65 (sig n) :=
  con_print (hsw := rfl) (hsx := rfl) (T := T n) (TL := TL n) (c := Tryz.f65.body.getD .skip) (js := [3]) hMixed (conT_cons (laws_toGateField.con n) conT_none) Tryz.func65 (by decide) (by kernel_rfl) (by kernel_rfl) (by decide) (LoopDef.cons (d3 n) LoopDef.nil) (fun x => by kernel_rfl)
end laws_toGateFieldS
namespace laws_toGateShape
def f (n : Nat) (x : Tup [tGateShape]) : Option (Tup [tGateShape]) :=
  (laws_toGateFieldS.f n (x.1.2.1, ())).bind fun y1 =>
 some ((x.1.1, y1.1, ()), ())
@[reducible] def sig (n : Nat) : Sig := ⟨[tGateShape], [tGateShape], true, f n, none, none⟩
def T (n : Nat) : FuncId → Option Sig := fun g => if Nat.beq g 65 = true then some (laws_toGateFieldS.sig n) else none
def TL (n : Nat) : Loops := fun j _ st k => none
theorem con (n : Nat) : Con Tryz.prog 48 (sig n) :=
  con_print (hsw := rfl) (hsx := rfl) (T := T n) (TL := TL n) (c := Tryz.f48.body.getD .skip) (js := []) hMixed (conT_cons (laws_toGateFieldS.con n) conT_none) Tryz.func48 (by decide) (by kernel_rfl) (by kernel_rfl) (by decide) LoopDef.nil (fun x => by kernel_rfl)
end laws_toGateShape
namespace laws_toGateShapeS
@[reducible] def l3 : LSpec := ⟨[(0, .d (.slice tGateShape)), (3, .row true tGateShape), (4, .d (.int .i64))], [(.exit 0, [(3, .row true tGateShape)])]⟩
def B3 (n : Nat) {R : Type} (next : Sden l3.inS → Option R) (cs : Conts R l3.outs) (x : Sden l3.inS) : Option R :=
  if (decide (x.2.2.1 < (List.length x.1 : Int))) = true then
   if (decide (0 ≤ x.2.2.1 ∧ x.2.2.1 < (List.length x.1 : Int))) = true then
   (laws_toGateShape.f n ((List.getD x.1 (Int.toNat x.2.2.1) (Ty.zero tGateShape)), ())).bind fun y1 =>
 if (decide (0 ≤ x.2.2.1 ∧ x.2.2.1 < (List.length x.2.1 : Int))) = true then
   next (x.1, (List.set x.2.1 (Int.toNat x.2.2.1) y1.1), (IntKind.i64.wrap (x.2.2.1 + (1 : Int))), ())
 else
   none
 else
   none
 else
   cs.1 (x.2.1, ())
def f (n : Nat) (x : Tup [(.slice tGateShape)]) : Option (Tup [(.slice tGateShape)]) :=
  if (decide (0 ≤ (List.length x.1 : Int) ∧ (List.length x.1 : Int) ≤ (List.length x.1 : Int) ∧ (List.length x.1 : Int) * (40 : Int) ≤ 140737488355328)) = true then
   runL (B3 n) ((fun z2 =>
     some (z2.1, ())), ()) n (x.1, (List.replicate (Int.toNat (List.length x.1 : Int)) (Ty.zero tGateShape)), (0 : Int), ())
 else
   none
@[reducible] def sig (n : Nat) : Sig := ⟨[(.slice tGateShape)], [(.slice tGateShape)], true, f n, none, none⟩
def T (n : Nat) : FuncId → Option Sig := fun g => if Nat.beq g 48 = true then some (laws_toGateShape.sig n) else none
def TL (n : Nat) : Loops := fun j _ st k => if Nat.beq j 3 = true then (match dec st l3.inS [] with | some x => runL (B3 n) (contsOf k l3.outs) n x | none => none) else none
theorem d3 (n : Nat) : LoopDef Tryz.prog (T n) (TL n) Tryz.f19 3 :=
  ⟨l3, fun R => B3 n, n, fun R st k => by kernel_rfl, fun R next cs x => by kernel_rfl⟩
theorem con (n : Nat) : Con Tryz.prog 19 (sig n) :=
  con_print (hsw := rfl) (hsx := rfl) (T := T n) (TL := TL n) (c := Tryz.f19.body.getD .skip) (js := [3]) hMixed (conT_cons (laws_toGateShape.con n) conT_none) Tryz.func19 (by decide) (by kernel_rfl) (by kernel_rfl) (by decide) (LoopDef.cons (d3 n) LoopDef.nil) (fun x => by kernel_rfl)
end laws_toGateShapeS
namespace laws_toGateMend
def f (n : Nat) (x : Tup [tGateMend]) : Option (Tup [tGateMend]) :=
  some (x.1, ())
@[reducible] def sig (n : Nat) : Sig := ⟨[tGateMend], [tGateMend], false, f n, none, none⟩
def T (n : Nat) : FuncId → Option Sig := fun g => none
def TL (n : Nat) : Loops := fun j _ st k => none
theorem con (n : Nat) : Con Tryz.prog 49 (sig n) :=
  con_print (hsw := rfl) (hsx := rfl) (T := T n) (TL := TL n) (c := Tryz.f49.body.getD .skip) (js := []) hMixed conT_none Tryz.func49 (by decide) (by kernel_rfl) (by kernel_rfl) (by decide) LoopDef.nil (fun x => by kernel_rfl)
end laws_toGateMend
namespace laws_toGateMendS
@[reducible] def l3 : LSpec := ⟨[(0, .d (.slice tGateMend)), (3, .row true tGateMend), (4, .d (.int .i64))], [(.exit 0, [(3, .row true tGateMend)])]⟩
def B3 (n : Nat) {R : Type} (next : Sden l3.inS → Option R) (cs : Conts R l3.outs) (x : Sden l3.inS) : Option R :=
  if (decide (x.2.2.1 < (List.length x.1 : Int))) = true then
   if (decide (0 ≤ x.2.2.1 ∧ x.2.2.1 < (List.length x.1 : Int))) = true then
   (laws_toGateMend.f n ((List.getD x.1 (Int.toNat x.2.2.1) (Ty.zero tGateMend)), ())).bind fun y1 =>
 if (decide (0 ≤ x.2.2.1 ∧ x.2.2.1 < (List.length x.2.1 : Int))) = true then
   next (x.1, (List.set x.2.1 (Int.toNat x.2.2.1) y1.1), (IntKind.i64.wrap (x.2.2.1 + (1 : Int))), ())
 else
   none
 else
   none
 else
   cs.1 (x.2.1, ())
def f (n : Nat) (x : Tup [(.slice tGateMend)]) : Option (Tup [(.slice tGateMend)]) :=
  if (decide (0 ≤ (List.length x.1 : Int) ∧ (List.length x.1 : Int) ≤ (List.length x.1 : Int) ∧ (List.length x.1 : Int) * (96 : Int) ≤ 140737488355328)) = true then
   runL (B3 n) ((fun z2 =>
     some (z2.1, ())), ()) n (x.1, (List.replicate (Int.toNat (List.length x.1 : Int)) (Ty.zero tGateMend)), (0 : Int), ())
 else
   none
@[reducible] def sig (n : Nat) : Sig := ⟨[(.slice tGateMend)], [(.slice tGateMend)], true, f n, none, none⟩
def T (n : Nat) : FuncId → Option Sig := fun g => if Nat.beq g 49 = true then some (laws_toGateMend.sig n) else none
def TL (n : Nat) : Loops := fun j _ st k => if Nat.beq j 3 = true then (match dec st l3.inS [] with | some x => runL (B3 n) (contsOf k l3.outs) n x | none => none) else none
theorem d3 (n : Nat) : LoopDef Tryz.prog (T n) (TL n) Tryz.f20 3 :=
  ⟨l3, fun R => B3 n, n, fun R st k => by kernel_rfl, fun R next cs x => by kernel_rfl⟩
theorem con (n : Nat) : Con Tryz.prog 20 (sig n) :=
  con_print (hsw := rfl) (hsx := rfl) (T := T n) (TL := TL n) (c := Tryz.f20.body.getD .skip) (js := [3]) hMixed (conT_cons (laws_toGateMend.con n) conT_none) Tryz.func20 (by decide) (by kernel_rfl) (by kernel_rfl) (by decide) (LoopDef.cons (d3 n) LoopDef.nil) (fun x => by kernel_rfl)
end laws_toGateMendS
namespace laws_toGateTeam
def f (n : Nat) (x : Tup [tGateTeam]) : Option (Tup [tGateTeam]) :=
  some (x.1, ())
@[reducible] def sig (n : Nat) : Sig := ⟨[tGateTeam], [tGateTeam], false, f n, none, none⟩
def T (n : Nat) : FuncId → Option Sig := fun g => none
def TL (n : Nat) : Loops := fun j _ st k => none
theorem con (n : Nat) : Con Tryz.prog 50 (sig n) :=
  con_print (hsw := rfl) (hsx := rfl) (T := T n) (TL := TL n) (c := Tryz.f50.body.getD .skip) (js := []) hMixed conT_none Tryz.func50 (by decide) (by kernel_rfl) (by kernel_rfl) (by decide) LoopDef.nil (fun x => by kernel_rfl)
end laws_toGateTeam
namespace laws_toGateTeamS
@[reducible] def l3 : LSpec := ⟨[(0, .d (.slice tGateTeam)), (3, .row true tGateTeam), (4, .d (.int .i64))], [(.exit 0, [(3, .row true tGateTeam)])]⟩
def B3 (n : Nat) {R : Type} (next : Sden l3.inS → Option R) (cs : Conts R l3.outs) (x : Sden l3.inS) : Option R :=
  if (decide (x.2.2.1 < (List.length x.1 : Int))) = true then
   if (decide (0 ≤ x.2.2.1 ∧ x.2.2.1 < (List.length x.1 : Int))) = true then
   (laws_toGateTeam.f n ((List.getD x.1 (Int.toNat x.2.2.1) (Ty.zero tGateTeam)), ())).bind fun y1 =>
 if (decide (0 ≤ x.2.2.1 ∧ x.2.2.1 < (List.length x.2.1 : Int))) = true then
   next (x.1, (List.set x.2.1 (Int.toNat x.2.2.1) y1.1), (IntKind.i64.wrap (x.2.2.1 + (1 : Int))), ())
 else
   none
 else
   none
 else
   cs.1 (x.2.1, ())
def f (n : Nat) (x : Tup [(.slice tGateTeam)]) : Option (Tup [(.slice tGateTeam)]) :=
  if (decide (0 ≤ (List.length x.1 : Int) ∧ (List.length x.1 : Int) ≤ (List.length x.1 : Int) ∧ (List.length x.1 : Int) * (32 : Int) ≤ 140737488355328)) = true then
   runL (B3 n) ((fun z2 =>
     some (z2.1, ())), ()) n (x.1, (List.replicate (Int.toNat (List.length x.1 : Int)) (Ty.zero tGateTeam)), (0 : Int), ())
 else
   none
@[reducible] def sig (n : Nat) : Sig := ⟨[(.slice tGateTeam)], [(.slice tGateTeam)], true, f n, none, none⟩
def T (n : Nat) : FuncId → Option Sig := fun g => if Nat.beq g 50 = true then some (laws_toGateTeam.sig n) else none
def TL (n : Nat) : Loops := fun j _ st k => if Nat.beq j 3 = true then (match dec st l3.inS [] with | some x => runL (B3 n) (contsOf k l3.outs) n x | none => none) else none
theorem d3 (n : Nat) : LoopDef Tryz.prog (T n) (TL n) Tryz.f21 3 :=
  ⟨l3, fun R => B3 n, n, fun R st k => by kernel_rfl, fun R next cs x => by kernel_rfl⟩
theorem con (n : Nat) : Con Tryz.prog 21 (sig n) :=
  con_print (hsw := rfl) (hsx := rfl) (T := T n) (TL := TL n) (c := Tryz.f21.body.getD .skip) (js := [3]) hMixed (conT_cons (laws_toGateTeam.con n) conT_none) Tryz.func21 (by decide) (by kernel_rfl) (by kernel_rfl) (by decide) (LoopDef.cons (d3 n) LoopDef.nil) (fun x => by kernel_rfl)
end laws_toGateTeamS
namespace laws_toGateLaw
def f (n : Nat) (x : Tup [tGateLaw]) : Option (Tup [tGateLaw]) :=
  (laws_toGateShapeS.f n (x.1.1, ())).bind fun y1 =>
 (laws_toGateMendS.f n (x.1.2.1, ())).bind fun y2 =>
 (laws_toGateTeamS.f n (x.1.2.2.1, ())).bind fun y3 =>
 some ((y1.1, y2.1, y3.1, ()), ())
@[reducible] def sig (n : Nat) : Sig := ⟨[tGateLaw], [tGateLaw], true, f n, none, none⟩
def T (n : Nat) : FuncId → Option Sig := fun g => if Nat.beq g 19 = true then some (laws_toGateShapeS.sig n) else if Nat.beq g 20 = true then some (laws_toGateMendS.sig n) else if Nat.beq g 21 = true then some (laws_toGateTeamS.sig n) else none
def TL (n : Nat) : Loops := fun j _ st k => none
theorem con (n : Nat) : Con Tryz.prog 7 (sig n) :=
  con_print (hsw := rfl) (hsx := rfl) (T := T n) (TL := TL n) (c := Tryz.f7.body.getD .skip) (js := []) hMixed (conT_cons (laws_toGateShapeS.con n) (conT_cons (laws_toGateMendS.con n) (conT_cons (laws_toGateTeamS.con n) conT_none))) Tryz.func7 (by decide) (by kernel_rfl) (by kernel_rfl) (by decide) LoopDef.nil (fun x => by kernel_rfl)
end laws_toGateLaw
namespace laws_toIntS
@[reducible] def l3 : LSpec := ⟨[(0, .d (.slice (.int .i64))), (3, .row true (.int .i64)), (4, .d (.int .i64))], [(.exit 0, [(3, .row true (.int .i64))])]⟩
def B3 (n : Nat) {R : Type} (next : Sden l3.inS → Option R) (cs : Conts R l3.outs) (x : Sden l3.inS) : Option R :=
  if (decide (x.2.2.1 < (List.length x.1 : Int))) = true then
   if (decide (0 ≤ x.2.2.1 ∧ x.2.2.1 < (List.length x.1 : Int))) = true then
   if (decide (0 ≤ x.2.2.1 ∧ x.2.2.1 < (List.length x.2.1 : Int))) = true then
   next (x.1, (List.set x.2.1 (Int.toNat x.2.2.1) (List.getD x.1 (Int.toNat x.2.2.1) (0 : Int))), (IntKind.i64.wrap (x.2.2.1 + (1 : Int))), ())
 else
   none
 else
   none
 else
   cs.1 (x.2.1, ())
def f (n : Nat) (x : Tup [(.slice (.int .i64))]) : Option (Tup [(.slice (.int .i64))]) :=
  if (decide (0 ≤ (List.length x.1 : Int) ∧ (List.length x.1 : Int) ≤ (List.length x.1 : Int) ∧ (List.length x.1 : Int) * (8 : Int) ≤ 140737488355328)) = true then
   runL (B3 n) ((fun z1 =>
     some (z1.1, ())), ()) n (x.1, (List.replicate (Int.toNat (List.length x.1 : Int)) (0 : Int)), (0 : Int), ())
 else
   none
@[reducible] def sig (n : Nat) : Sig := ⟨[(.slice (.int .i64))], [(.slice (.int .i64))], true, f n, none, none⟩
def T (n : Nat) : FuncId → Option Sig := fun g => none
def TL (n : Nat) : Loops := fun j _ st k => if Nat.beq j 3 = true then (match dec st l3.inS [] with | some x => runL (B3 n) (contsOf k l3.outs) n x | none => none) else none
theorem d3 (n : Nat) : LoopDef Tryz.prog (T n) (TL n) Tryz.f51 3 :=
  ⟨l3, fun R => B3 n, n, fun R st k => by kernel_rfl, fun R next cs x => by kernel_rfl⟩
theorem con (n : Nat) : Con Tryz.prog 51 (sig n) :=
  con_print (hsw := rfl) (hsx := rfl) (T := T n) (TL := TL n) (c := Tryz.f51.body.getD .skip) (js := [3]) hMixed conT_none Tryz.func51 (by decide) (by kernel_rfl) (by kernel_rfl) (by decide) (LoopDef.cons (d3 n) LoopDef.nil) (fun x => by kernel_rfl)
end laws_toIntS
namespace laws_toGateRule
def f (n : Nat) (x : Tup [tGateRule]) : Option (Tup [tGateRule]) :=
  (laws_toIntS.f n (x.1.1, ())).bind fun y1 =>
 some ((y1.1, x.1.2), ())
@[reducible] def sig (n : Nat) : Sig := ⟨[tGateRule], [tGateRule], true, f n, none, none⟩
def T (n : Nat) : FuncId → Option Sig := fun g => if Nat.beq g 51 = true then some (laws_toIntS.sig n) else none
def TL (n : Nat) : Loops := fun j _ st k => none
theorem con (n : Nat) : Con Tryz.prog 23 (sig n) :=
  con_print (hsw := rfl) (hsx := rfl) (T := T n) (TL := TL n) (c := Tryz.f23.body.getD .skip) (js := []) hMixed (conT_cons (laws_toIntS.con n) conT_none) Tryz.func23 (by decide) (by kernel_rfl) (by kernel_rfl) (by decide) LoopDef.nil (fun x => by kernel_rfl)
end laws_toGateRule
namespace laws_toGateAsk
def f (n : Nat) (x : Tup [tGateAsk]) : Option (Tup [tGateAsk]) :=
  (laws_toStringS.f n (x.1.2.2.2.2.2.1, ())).bind fun y1 =>
 (laws_toStringS.f n (x.1.2.2.2.2.2.2.1, ())).bind fun y2 =>
 (laws_toGateRule.f n (x.1.2.2.2.2.2.2.2.2.2.2.1, ())).bind fun y3 =>
 some ((x.1.1, x.1.2.1, x.1.2.2.1, x.1.2.2.2.1, x.1.2.2.2.2.1, y1.1, y2.1, x.1.2.2.2.2.2.2.2.1, x.1.2.2.2.2.2.2.2.2.1, x.1.2.2.2.2.2.2.2.2.2.1, y3.1, x.1.2.2.2.2.2.2.2.2.2.2.2), ())
@[reducible] def sig (n : Nat) : Sig := ⟨[tGateAsk], [tGateAsk], true, f n, none, none⟩
def T (n : Nat) : FuncId → Option Sig := fun g => if Nat.beq g 22 = true then some (laws_toStringS.sig n) else if Nat.beq g 23 = true then some (laws_toGateRule.sig n) else none
def TL (n : Nat) : Loops := fun j _ st k => none
theorem con (n : Nat) : Con Tryz.prog 8 (sig n) :=
  con_print (hsw := rfl) (hsx := rfl) (T := T n) (TL := TL n) (c := Tryz.f8.body.getD .skip) (js := []) hMixed (conT_cons (laws_toStringS.con n) (conT_cons (laws_toGateRule.con n) conT_none)) Tryz.func8 (by decide) (by kernel_rfl) (by kernel_rfl) (by decide) LoopDef.nil (fun x => by kernel_rfl)
end laws_toGateAsk
namespace spec_l1In
def f (n : Nat) (x : Tup [(.int .i64), (.int .i64), (.int .i64)]) : Option (Tup [.bool]) :=
  some (((decide (x.1 ≥ x.2.1)) && (decide (x.1 ≤ x.2.2.1))), ())
@[reducible] def sig (n : Nat) : Sig := ⟨[(.int .i64), (.int .i64), (.int .i64)], [.bool], false, f n, none, none⟩
def T (n : Nat) : FuncId → Option Sig := fun g => none
def TL (n : Nat) : Loops := fun j _ st k => none
theorem con (n : Nat) : Con Tryz.prog 41 (sig n) :=
  con_print (hsw := rfl) (hsx := rfl) (T := T n) (TL := TL n) (c := Tryz.f41.body.getD .skip) (js := []) hMixed conT_none Tryz.func41 (by decide) (by kernel_rfl) (by kernel_rfl) (by decide) LoopDef.nil (fun x => by kernel_rfl)
end spec_l1In
namespace spec_l1Byte
def f (n : Nat) (x : Tup [(.int .u8)]) : Option (Tup [.bool]) :=
  some (((((decide (x.1 ≥ (97 : Int))) && (decide (x.1 ≤ (122 : Int)))) || ((decide (x.1 ≥ (48 : Int))) && (decide (x.1 ≤ (57 : Int))))) || (x.1 == (45 : Int))), ())
@[reducible] def sig (n : Nat) : Sig := ⟨[(.int .u8)], [.bool], false, f n, none, none⟩
def T (n : Nat) : FuncId → Option Sig := fun g => none
def TL (n : Nat) : Loops := fun j _ st k => none
theorem con (n : Nat) : Con Tryz.prog 64 (sig n) :=
  con_print (hsw := rfl) (hsx := rfl) (T := T n) (TL := TL n) (c := Tryz.f64.body.getD .skip) (js := []) hMixed conT_none Tryz.func64 (by decide) (by kernel_rfl) (by kernel_rfl) (by decide) LoopDef.nil (fun x => by kernel_rfl)
end spec_l1Byte
namespace spec_l1NameOk
@[reducible] def l4 : LSpec := ⟨[(0, .d .str), (3, .d (.int .i64))], [(.ret, [(2, .d .bool)]), (.exit 0, [])]⟩
def B4 (n : Nat) {R : Type} (next : Sden l4.inS → Option R) (cs : Conts R l4.outs) (x : Sden l4.inS) : Option R :=
  if (decide (x.2.1 < (ByteArray.size x.1 : Int))) = true then
   if (decide (0 ≤ x.2.1 ∧ x.2.1 < (ByteArray.size x.1 : Int))) = true then
   (spec_l1Byte.f n ((byteAt x.1 x.2.1), ())).bind fun y2 =>
 if (!y2.1) = true then
   cs.1 (false, ())
 else
   next (x.1, (IntKind.i64.wrap (x.2.1 + (1 : Int))), ())
 else
   none
 else
   cs.2.1 ()
def f (n : Nat) (x : Tup [.str]) : Option (Tup [.bool]) :=
  (spec_l1In.f n ((ByteArray.size x.1 : Int), (1 : Int), (16 : Int), ())).bind fun y1 =>
 if (!y1.1) = true then
   some (false, ())
 else
   runL (B4 n) ((fun z3 =>
     some (z3.1, ())), (fun z4 =>
     some (true, ())), ()) n (x.1, (0 : Int), ())
@[reducible] def sig (n : Nat) : Sig := ⟨[.str], [.bool], false, f n, none, none⟩
def T (n : Nat) : FuncId → Option Sig := fun g => if Nat.beq g 41 = true then some (spec_l1In.sig n) else if Nat.beq g 64 = true then some (spec_l1Byte.sig n) else none
def TL (n : Nat) : Loops := fun j _ st k => if Nat.beq j 4 = true then (match dec st l4.inS [] with | some x => runL (B4 n) (contsOf k l4.outs) n x | none => none) else none
theorem d4 (n : Nat) : LoopDef Tryz.prog (T n) (TL n) Tryz.f40 4 :=
  ⟨l4, fun R => B4 n, n, fun R st k => by kernel_rfl, fun R next cs x => by kernel_rfl⟩
theorem con (n : Nat) : Con Tryz.prog 40 (sig n) :=
  con_print (hsw := rfl) (hsx := rfl) (T := T n) (TL := TL n) (c := Tryz.f40.body.getD .skip) (js := [4]) hMixed (conT_cons (spec_l1In.con n) (conT_cons (spec_l1Byte.con n) conT_none)) Tryz.func40 (by decide) (by kernel_rfl) (by kernel_rfl) (by decide) (LoopDef.cons (d4 n) LoopDef.nil) (fun x => by kernel_rfl)
end spec_l1NameOk
namespace spec_l1Bare
def f (n : Nat) (x : Tup [tGateField]) : Option (Tup [.bool]) :=
  if (((!((x.1.2.1 == (1 : Int)) || (x.1.2.1 == (3 : Int)))) && ((x.1.2.2.1 != (0 : Int)) || (x.1.2.2.2.1 != (0 : Int)))) || ((x.1.2.1 != (1 : Int)) && (!seq x.1.2.2.2.2.2.2.2.2.2.2.1 (⟨#[]⟩ : ByteArray)))) = true then
 some (false, ())
 else if ((x.1.2.1 != (2 : Int)) && (decide ((List.length x.1.2.2.2.2.1 : Int) > (0 : Int)))) = true then
   some (false, ())
 else
   some (((x.1.2.1 == (4 : Int)) || ((seq x.1.2.2.2.2.2.1 (⟨#[]⟩ : ByteArray)) && (x.1.2.2.2.2.2.2.1 == (0 : Int)))), ())
@[reducible] def sig (n : Nat) : Sig := ⟨[tGateField], [.bool], false, f n, none, none⟩
def T (n : Nat) : FuncId → Option Sig := fun g => none
def TL (n : Nat) : Loops := fun j _ st k => none
theorem con (n : Nat) : Con Tryz.prog 89 (sig n) :=
  con_print (hsw := rfl) (hsx := rfl) (T := T n) (TL := TL n) (c := Tryz.f89.body.getD .skip) (js := []) hMixed conT_none Tryz.func89 (by decide) (by kernel_rfl) (by kernel_rfl) (by decide) LoopDef.nil (fun x => by kernel_rfl)
end spec_l1Bare
namespace spec_l1Number
@[reducible] def l5 : LSpec := ⟨[(0, .d .str), (3, .d (.int .i64)), (4, .d (.int .i64))], [(.ret, [(2, .d (.int .i64))]), (.exit 0, [(3, .d (.int .i64))])]⟩
def B5 (n : Nat) {R : Type} (next : Sden l5.inS → Option R) (cs : Conts R l5.outs) (x : Sden l5.inS) : Option R :=
  if (decide (x.2.2.1 < (ByteArray.size x.1 : Int))) = true then
   if (decide (0 ≤ x.2.2.1 ∧ x.2.2.1 < (ByteArray.size x.1 : Int))) = true then
   if (!(!(decide ((byteAt x.1 x.2.2.1) < (48 : Int)))) || (decide (0 ≤ x.2.2.1 ∧ x.2.2.1 < (ByteArray.size x.1 : Int)))) = true then
   if ((decide ((byteAt x.1 x.2.2.1) < (48 : Int))) || (decide ((byteAt x.1 x.2.2.1) > (57 : Int)))) = true then
 cs.1 ((-1 : Int), ())
 else if (decide (0 ≤ x.2.2.1 ∧ x.2.2.1 < (ByteArray.size x.1 : Int))) = true then
   next (x.1, (IntKind.i64.wrap ((IntKind.i64.wrap ((IntKind.i64.wrap (x.2.1 * (10 : Int))) + (IntKind.i64.wrap (byteAt x.1 x.2.2.1)))) - (48 : Int))), (IntKind.i64.wrap (x.2.2.1 + (1 : Int))), ())
 else
   none
 else
   none
 else
   none
 else
   cs.2.1 (x.2.1, ())
def f (n : Nat) (x : Tup [.str]) : Option (Tup [(.int .i64)]) :=
  (spec_l1In.f n ((ByteArray.size x.1 : Int), (1 : Int), (7 : Int), ())).bind fun y1 =>
 if (!((!(!y1.1)) && (decide ((ByteArray.size x.1 : Int) > (1 : Int)))) || (decide (0 ≤ (0 : Int) ∧ (0 : Int) < (ByteArray.size x.1 : Int)))) = true then
   if ((!y1.1) || ((decide ((ByteArray.size x.1 : Int) > (1 : Int))) && ((byteAt x.1 (0 : Int)) == (48 : Int)))) = true then
   some ((-1 : Int), ())
 else
   runL (B5 n) ((fun z2 =>
     some (z2.1, ())), (fun z3 =>
     some (z3.1, ())), ()) n (x.1, (0 : Int), (0 : Int), ())
 else
   none
@[reducible] def sig (n : Nat) : Sig := ⟨[.str], [(.int .i64)], false, f n, none, none⟩
def T (n : Nat) : FuncId → Option Sig := fun g => if Nat.beq g 41 = true then some (spec_l1In.sig n) else none
def TL (n : Nat) : Loops := fun j _ st k => if Nat.beq j 5 = true then (match dec st l5.inS [] with | some x => runL (B5 n) (contsOf k l5.outs) n x | none => none) else none
theorem d5 (n : Nat) : LoopDef Tryz.prog (T n) (TL n) Tryz.f90 5 :=
  ⟨l5, fun R => B5 n, n, fun R st k => by kernel_rfl, fun R next cs x => by kernel_rfl⟩
theorem con (n : Nat) : Con Tryz.prog 90 (sig n) :=
  con_print (hsw := rfl) (hsx := rfl) (T := T n) (TL := TL n) (c := Tryz.f90.body.getD .skip) (js := [5]) hMixed (conT_cons (spec_l1In.con n) conT_none) Tryz.func90 (by decide) (by kernel_rfl) (by kernel_rfl) (by decide) (LoopDef.cons (d5 n) LoopDef.nil) (fun x => by kernel_rfl)
end spec_l1Number
namespace spec_l1Has
@[reducible] def l2 : LSpec := ⟨[(0, .d (.slice .str)), (1, .d .str), (5, .d (.int .i64))], [(.ret, [(4, .d .bool)]), (.exit 0, [])]⟩
def B2 (n : Nat) {R : Type} (next : Sden l2.inS → Option R) (cs : Conts R l2.outs) (x : Sden l2.inS) : Option R :=
  if (decide (x.2.2.1 < (List.length x.1 : Int))) = true then
   if (decide (0 ≤ x.2.2.1 ∧ x.2.2.1 < (List.length x.1 : Int))) = true then
   if (seq (List.getD x.1 (Int.toNat x.2.2.1) (⟨#[]⟩ : ByteArray)) x.2.1) = true then
   cs.1 (true, ())
 else
   next (x.1, x.2.1, (IntKind.i64.wrap (x.2.2.1 + (1 : Int))), ())
 else
   none
 else
   cs.2.1 ()
def f (n : Nat) (x : Tup [(.slice .str), .str]) : Option (Tup [.bool]) :=
  runL (B2 n) ((fun z1 =>
     some (z1.1, ())), (fun z2 =>
     some (false, ())), ()) n (x.1, x.2.1, (0 : Int), ())
@[reducible] def sig (n : Nat) : Sig := ⟨[(.slice .str), .str], [.bool], false, f n, none, none⟩
def T (n : Nat) : FuncId → Option Sig := fun g => none
def TL (n : Nat) : Loops := fun j _ st k => if Nat.beq j 2 = true then (match dec st l2.inS [] with | some x => runL (B2 n) (contsOf k l2.outs) n x | none => none) else none
theorem d2 (n : Nat) : LoopDef Tryz.prog (T n) (TL n) Tryz.f78 2 :=
  ⟨l2, fun R => B2 n, n, fun R st k => by kernel_rfl, fun R next cs x => by kernel_rfl⟩
theorem con (n : Nat) : Con Tryz.prog 78 (sig n) :=
  con_print (hsw := rfl) (hsx := rfl) (T := T n) (TL := TL n) (c := Tryz.f78.body.getD .skip) (js := [2]) hMixed conT_none Tryz.func78 (by decide) (by kernel_rfl) (by kernel_rfl) (by decide) (LoopDef.cons (d2 n) LoopDef.nil) (fun x => by kernel_rfl)
end spec_l1Has
namespace spec_GateFits
@[reducible] def l9 : LSpec := ⟨[(1, .d .str), (2, .rb tGateField), (6, .d (.int .i64))], [(.ret, [(4, .d .bool)]), (.exit 1, [(1, .d .str), (2, .rb tGateField)])]⟩
def B9 (n : Nat) {R : Type} (next : Sden l9.inS → Option R) (cs : Conts R l9.outs) (x : Sden l9.inS) : Option R :=
  if (decide (x.2.2.1 < (ByteArray.size x.1 : Int))) = true then
   if (decide (0 ≤ x.2.2.1 ∧ x.2.2.1 < (ByteArray.size x.1 : Int))) = true then
   (spec_l1In.f n ((IntKind.i64.wrap (byteAt x.1 x.2.2.1)), (33 : Int), (126 : Int), ())).bind fun y4 =>
 if (!y4.1) = true then
   cs.1 (false, ())
 else
   next (x.1, x.2.1, (IntKind.i64.wrap (x.2.2.1 + (1 : Int))), ())
 else
   none
 else
   cs.2.1 (x.1, x.2.1, ())
def f (n : Nat) (x : Tup [tGateField, .str]) : Option (Tup [.bool]) :=
  if (x.1.2.1 == (1 : Int)) = true then
 (spec_l1Number.f n (x.2.1, ())).bind fun y1 =>
 (if (decide (y1.1 ≥ (0 : Int))) = true then (spec_l1In.f n (y1.1, x.1.2.2.1, x.1.2.2.2.1, ())) else some (tzero [.bool])).bind fun y2 =>
 some (((decide (y1.1 ≥ (0 : Int))) && y2.1), ())
 else if (x.1.2.1 == (2 : Int)) = true then
 (if (!seq x.2.1 (⟨#[]⟩ : ByteArray)) = true then (spec_l1Has.f n (x.1.2.2.2.2.1, x.2.1, ())) else some (tzero [.bool])).bind fun y3 =>
 some (((!seq x.2.1 (⟨#[]⟩ : ByteArray)) && y3.1), ())
 else if (x.1.2.1 == (3 : Int)) = true then
 runL (B9 n) ((fun z5 =>
     some (z5.1, ())), (fun z6 =>
     (if (!seq z6.1 (⟨#[]⟩ : ByteArray)) = true then (spec_l1In.f n ((ByteArray.size z6.1 : Int), z6.2.1.2.2.1, z6.2.1.2.2.2.1, ())) else some (tzero [.bool])).bind fun y7 =>
 some (((!seq z6.1 (⟨#[]⟩ : ByteArray)) && y7.1), ())), ()) n (x.2.1, x.1, (0 : Int), ())
 else if (x.1.2.1 == (4 : Int)) = true then
   (spec_l1NameOk.f n (x.2.1, ())).bind fun y8 =>
 some (y8.1, ())
 else
   some (false, ())
@[reducible] def sig (n : Nat) : Sig := ⟨[tGateField, .str], [.bool], false, f n, none, none⟩
def T (n : Nat) : FuncId → Option Sig := fun g => if Nat.beq g 40 = true then some (spec_l1NameOk.sig n) else if Nat.beq g 41 = true then some (spec_l1In.sig n) else if Nat.beq g 78 = true then some (spec_l1Has.sig n) else if Nat.beq g 90 = true then some (spec_l1Number.sig n) else none
def TL (n : Nat) : Loops := fun j _ st k => if Nat.beq j 9 = true then (match dec st l9.inS [] with | some x => runL (B9 n) (contsOf k l9.outs) n x | none => none) else none
theorem d9 (n : Nat) : LoopDef Tryz.prog (T n) (TL n) Tryz.f76 9 :=
  ⟨l9, fun R => B9 n, n, fun R st k => by kernel_rfl, fun R next cs x => by kernel_rfl⟩
theorem con (n : Nat) : Con Tryz.prog 76 (sig n) :=
  con_print (hsw := rfl) (hsx := rfl) (T := T n) (TL := TL n) (c := Tryz.f76.body.getD .skip) (js := [9]) hMixed (conT_cons (spec_l1NameOk.con n) (conT_cons (spec_l1In.con n) (conT_cons (spec_l1Has.con n) (conT_cons (spec_l1Number.con n) conT_none)))) Tryz.func76 (by decide) (by kernel_rfl) (by kernel_rfl) (by decide) (LoopDef.cons (d9 n) LoopDef.nil) (fun x => by kernel_rfl)
end spec_GateFits
namespace spec_l1Ascending
@[reducible] def l2 : LSpec := ⟨[(0, .d (.slice .str)), (3, .d (.int .i64))], [(.ret, [(2, .d .bool)]), (.exit 0, [])]⟩
def B2 (n : Nat) {R : Type} (next : Sden l2.inS → Option R) (cs : Conts R l2.outs) (x : Sden l2.inS) : Option R :=
  if (decide (x.2.1 < (List.length x.1 : Int))) = true then
   if (!true || (decide (0 ≤ x.2.1 ∧ x.2.1 < (List.length x.1 : Int)))) = true then
   (if true = true then (spec_l1NameOk.f n ((List.getD x.1 (Int.toNat x.2.1) (⟨#[]⟩ : ByteArray)), ())) else some (tzero [.bool])).bind fun y1 =>
 if (!((!(!y1.1)) && (decide (x.2.1 > (0 : Int)))) || (decide (0 ≤ (IntKind.i64.wrap (x.2.1 - (1 : Int))) ∧ (IntKind.i64.wrap (x.2.1 - (1 : Int))) < (List.length x.1 : Int)))) = true then
   if (!((!(!y1.1)) && (decide (x.2.1 > (0 : Int)))) || (decide (0 ≤ x.2.1 ∧ x.2.1 < (List.length x.1 : Int)))) = true then
   if ((!y1.1) || ((decide (x.2.1 > (0 : Int))) && (!slt (List.getD x.1 (Int.toNat (IntKind.i64.wrap (x.2.1 - (1 : Int)))) (⟨#[]⟩ : ByteArray)) (List.getD x.1 (Int.toNat x.2.1) (⟨#[]⟩ : ByteArray))))) = true then
   cs.1 (false, ())
 else
   next (x.1, (IntKind.i64.wrap (x.2.1 + (1 : Int))), ())
 else
   none
 else
   none
 else
   none
 else
   cs.2.1 ()
def f (n : Nat) (x : Tup [(.slice .str)]) : Option (Tup [.bool]) :=
  runL (B2 n) ((fun z2 =>
     some (z2.1, ())), (fun z3 =>
     some (true, ())), ()) n (x.1, (0 : Int), ())
@[reducible] def sig (n : Nat) : Sig := ⟨[(.slice .str)], [.bool], false, f n, none, none⟩
def T (n : Nat) : FuncId → Option Sig := fun g => if Nat.beq g 40 = true then some (spec_l1NameOk.sig n) else none
def TL (n : Nat) : Loops := fun j _ st k => if Nat.beq j 2 = true then (match dec st l2.inS [] with | some x => runL (B2 n) (contsOf k l2.outs) n x | none => none) else none
theorem d2 (n : Nat) : LoopDef Tryz.prog (T n) (TL n) Tryz.f46 2 :=
  ⟨l2, fun R => B2 n, n, fun R st k => by kernel_rfl, fun R next cs x => by kernel_rfl⟩
theorem con (n : Nat) : Con Tryz.prog 46 (sig n) :=
  con_print (hsw := rfl) (hsx := rfl) (T := T n) (TL := TL n) (c := Tryz.f46.body.getD .skip) (js := [2]) hMixed (conT_cons (spec_l1NameOk.con n) conT_none) Tryz.func46 (by decide) (by kernel_rfl) (by kernel_rfl) (by decide) (LoopDef.cons (d2 n) LoopDef.nil) (fun x => by kernel_rfl)
end spec_l1Ascending
namespace spec_l1Shape
@[reducible] def l2 : LSpec := ⟨[(0, .d (.slice tGateShape)), (1, .d .str), (5, .d (.int .i64))], [(.ret, [(4, .d (.int .i64))]), (.exit 0, [])]⟩
def B2 (n : Nat) {R : Type} (next : Sden l2.inS → Option R) (cs : Conts R l2.outs) (x : Sden l2.inS) : Option R :=
  if (decide (x.2.2.1 < (List.length x.1 : Int))) = true then
   if (decide (0 ≤ x.2.2.1 ∧ x.2.2.1 < (List.length x.1 : Int))) = true then
   if (seq (List.getD x.1 (Int.toNat x.2.2.1) (Ty.zero tGateShape)).1 x.2.1) = true then
   cs.1 (x.2.2.1, ())
 else
   next (x.1, x.2.1, (IntKind.i64.wrap (x.2.2.1 + (1 : Int))), ())
 else
   none
 else
   cs.2.1 ()
def f (n : Nat) (x : Tup [(.slice tGateShape), .str]) : Option (Tup [(.int .i64)]) :=
  runL (B2 n) ((fun z1 =>
     some (z1.1, ())), (fun z2 =>
     some ((-1 : Int), ())), ()) n (x.1, x.2.1, (0 : Int), ())
@[reducible] def sig (n : Nat) : Sig := ⟨[(.slice tGateShape), .str], [(.int .i64)], false, f n, none, none⟩
def T (n : Nat) : FuncId → Option Sig := fun g => none
def TL (n : Nat) : Loops := fun j _ st k => if Nat.beq j 2 = true then (match dec st l2.inS [] with | some x => runL (B2 n) (contsOf k l2.outs) n x | none => none) else none
theorem d2 (n : Nat) : LoopDef Tryz.prog (T n) (TL n) Tryz.f44 2 :=
  ⟨l2, fun R => B2 n, n, fun R st k => by kernel_rfl, fun R next cs x => by kernel_rfl⟩
theorem con (n : Nat) : Con Tryz.prog 44 (sig n) :=
  con_print (hsw := rfl) (hsx := rfl) (T := T n) (TL := TL n) (c := Tryz.f44.body.getD .skip) (js := [2]) hMixed conT_none Tryz.func44 (by decide) (by kernel_rfl) (by kernel_rfl) (by decide) (LoopDef.cons (d2 n) LoopDef.nil) (fun x => by kernel_rfl)
end spec_l1Shape
namespace spec_l1FieldOk
def f (n : Nat) (x : Tup [(.slice tGateShape), tGateField]) : Option (Tup [.bool]) :=
  (spec_l1NameOk.f n (x.2.1.1, ())).bind fun y1 =>
 (if (!(!y1.1)) = true then (spec_l1Bare.f n (x.2.1, ())) else some (tzero [.bool])).bind fun y2 =>
 (if ((!((!y1.1) || (!y2.1))) && (!seq x.2.1.2.2.2.2.2.2.2.2.2.1 (⟨#[]⟩ : ByteArray))) = true then (spec_GateFits.f n (x.2.1, x.2.1.2.2.2.2.2.2.2.2.2.1, ())) else some (tzero [.bool])).bind fun y3 =>
 if (((!y1.1) || (!y2.1)) || ((!seq x.2.1.2.2.2.2.2.2.2.2.2.1 (⟨#[]⟩ : ByteArray)) && (!y3.1))) = true then
 some (false, ())
 else if (x.2.1.2.1 == (1 : Int)) = true then
 (if ((((decide (x.2.1.2.2.1 ≥ (0 : Int))) && (decide (x.2.1.2.2.1 ≤ x.2.1.2.2.2.1))) && (decide (x.2.1.2.2.2.1 ≤ (1000000 : Int)))) && (!(seq x.2.1.2.2.2.2.2.2.2.2.2.2.1 (⟨#[]⟩ : ByteArray)))) = true then (spec_l1NameOk.f n (x.2.1.2.2.2.2.2.2.2.2.2.2.1, ())) else some (tzero [.bool])).bind fun y4 =>
 some (((((decide (x.2.1.2.2.1 ≥ (0 : Int))) && (decide (x.2.1.2.2.1 ≤ x.2.1.2.2.2.1))) && (decide (x.2.1.2.2.2.1 ≤ (1000000 : Int)))) && ((seq x.2.1.2.2.2.2.2.2.2.2.2.2.1 (⟨#[]⟩ : ByteArray)) || y4.1)), ())
 else if (x.2.1.2.1 == (2 : Int)) = true then
 (spec_l1In.f n ((List.length x.2.1.2.2.2.2.1 : Int), (1 : Int), (6 : Int), ())).bind fun y5 =>
 (if y5.1 = true then (spec_l1Ascending.f n (x.2.1.2.2.2.2.1, ())) else some (tzero [.bool])).bind fun y6 =>
 some ((y5.1 && y6.1), ())
 else if (x.2.1.2.1 == (3 : Int)) = true then
 some ((((decide (x.2.1.2.2.1 ≥ (1 : Int))) && (decide (x.2.1.2.2.1 ≤ x.2.1.2.2.2.1))) && (decide (x.2.1.2.2.2.1 ≤ (40 : Int)))), ())
 else if (x.2.1.2.1 == (4 : Int)) = true then
   (spec_l1Shape.f n (x.1, x.2.1.2.2.2.2.2.1, ())).bind fun y7 =>
 (if (decide (y7.1 ≥ (0 : Int))) = true then (spec_l1In.f n (x.2.1.2.2.2.2.2.2.1, (1 : Int), (3 : Int), ())) else some (tzero [.bool])).bind fun y8 =>
 some (((((decide (y7.1 ≥ (0 : Int))) && y8.1) && (seq x.2.1.2.2.2.2.2.2.2.2.2.1 (⟨#[]⟩ : ByteArray))) && ((x.2.1.2.2.2.2.2.2.1 != (2 : Int)) || (!x.2.1.2.2.2.2.2.2.2.1))), ())
 else
   some (false, ())
@[reducible] def sig (n : Nat) : Sig := ⟨[(.slice tGateShape), tGateField], [.bool], false, f n, none, none⟩
def T (n : Nat) : FuncId → Option Sig := fun g => if Nat.beq g 40 = true then some (spec_l1NameOk.sig n) else if Nat.beq g 41 = true then some (spec_l1In.sig n) else if Nat.beq g 44 = true then some (spec_l1Shape.sig n) else if Nat.beq g 46 = true then some (spec_l1Ascending.sig n) else if Nat.beq g 76 = true then some (spec_GateFits.sig n) else if Nat.beq g 89 = true then some (spec_l1Bare.sig n) else none
def TL (n : Nat) : Loops := fun j _ st k => none
theorem con (n : Nat) : Con Tryz.prog 74 (sig n) :=
  con_print (hsw := rfl) (hsx := rfl) (T := T n) (TL := TL n) (c := Tryz.f74.body.getD .skip) (js := []) hMixed (conT_cons (spec_l1NameOk.con n) (conT_cons (spec_l1In.con n) (conT_cons (spec_l1Shape.con n) (conT_cons (spec_l1Ascending.con n) (conT_cons (spec_GateFits.con n) (conT_cons (spec_l1Bare.con n) conT_none)))))) Tryz.func74 (by decide) (by kernel_rfl) (by kernel_rfl) (by decide) LoopDef.nil (fun x => by kernel_rfl)
end spec_l1FieldOk
namespace spec_GateShapesOk
@[reducible] def l15 : LSpec := ⟨[(0, .d (.slice tGateShape)), (3, .d (.int .i64)), (4, .box [.d .str, .d (.slice tGateField)]), (5, .d (.int .i64)), (6, .d (.int .i64))], [(.ret, [(2, .d .bool)]), (.exit 4, [(0, .d (.slice tGateShape)), (3, .d (.int .i64)), (4, .box [.d .str, .d (.slice tGateField)]), (5, .d (.int .i64))])]⟩
def B15 (n : Nat) {R : Type} (next : Sden l15.inS → Option R) (cs : Conts R l15.outs) (x : Sden l15.inS) : Option R :=
  if (decide (x.2.2.2.2.1 < x.2.2.2.1)) = true then
   if (!true || (decide (0 ≤ x.2.2.2.2.1 ∧ x.2.2.2.2.1 < (List.length x.2.2.1.2.1 : Int)))) = true then
   if (!true || (decide (0 ≤ x.2.2.2.1 ∧ x.2.2.2.1 < (List.length x.2.2.1.2.1 : Int)))) = true then
   if (seq (List.getD x.2.2.1.2.1 (Int.toNat x.2.2.2.2.1) (Ty.zero tGateField)).1 (List.getD x.2.2.1.2.1 (Int.toNat x.2.2.2.1) (Ty.zero tGateField)).1) = true then
   cs.1 (false, ())
 else
   next (x.1, x.2.1, (x.2.2.1.1, x.2.2.1.2.1, ()), x.2.2.2.1, (IntKind.i64.wrap (x.2.2.2.2.1 + (1 : Int))), ())
 else
   none
 else
   none
 else
   cs.2.1 (x.1, x.2.1, (x.2.2.1.1, x.2.2.1.2.1, ()), x.2.2.2.1, ())
@[reducible] def l10 : LSpec := ⟨[(0, .d (.slice tGateShape)), (3, .d (.int .i64)), (4, .box [.d .str, .d (.slice tGateField)]), (5, .d (.int .i64))], [(.ret, [(2, .d .bool)]), (.exit 2, [(0, .d (.slice tGateShape)), (3, .d (.int .i64))])]⟩
def B10 (n : Nat) {R : Type} (next : Sden l10.inS → Option R) (cs : Conts R l10.outs) (x : Sden l10.inS) : Option R :=
  if (decide (x.2.2.2.1 < (List.length x.2.2.1.2.1 : Int))) = true then
   if (decide (0 ≤ x.2.2.2.1 ∧ x.2.2.2.1 < (List.length x.2.2.1.2.1 : Int))) = true then
   (spec_l1FieldOk.f n (x.1, (List.getD x.2.2.1.2.1 (Int.toNat x.2.2.2.1) (Ty.zero tGateField)), ())).bind fun y2 =>
 if (!y2.1) = true then
   cs.1 (false, ())
 else
   runL (B15 n) ((fun z3 =>
     cs.1 (z3.1, ())), (fun z4 =>
     next (z4.1, z4.2.1, (z4.2.2.1.1, z4.2.2.1.2.1, ()), (IntKind.i64.wrap (z4.2.2.2.1 + (1 : Int))), ())), ()) n (x.1, x.2.1, (x.2.2.1.1, x.2.2.1.2.1, ()), x.2.2.2.1, (0 : Int), ())
 else
   none
 else
   cs.2.1 (x.1, x.2.1, ())
@[reducible] def l4 : LSpec := ⟨[(0, .d (.slice tGateShape)), (3, .d (.int .i64))], [(.ret, [(2, .d .bool)]), (.exit 0, [])]⟩
def B4 (n : Nat) {R : Type} (next : Sden l4.inS → Option R) (cs : Conts R l4.outs) (x : Sden l4.inS) : Option R :=
  if (decide (x.2.1 < (List.length x.1 : Int))) = true then
   if (decide (0 ≤ x.2.1 ∧ x.2.1 < (List.length x.1 : Int))) = true then
   (if true = true then (spec_l1NameOk.f n ((List.getD x.1 (Int.toNat x.2.1) (Ty.zero tGateShape)).1, ())) else some (tzero [.bool])).bind fun y1 =>
 if (!((!(!y1.1)) && (decide (x.2.1 > (0 : Int)))) || (decide (0 ≤ (IntKind.i64.wrap (x.2.1 - (1 : Int))) ∧ (IntKind.i64.wrap (x.2.1 - (1 : Int))) < (List.length x.1 : Int)))) = true then
   if (((!y1.1) || ((decide (x.2.1 > (0 : Int))) && (!slt (List.getD x.1 (Int.toNat (IntKind.i64.wrap (x.2.1 - (1 : Int)))) (Ty.zero tGateShape)).1 (List.getD x.1 (Int.toNat x.2.1) (Ty.zero tGateShape)).1))) || (decide ((List.length (List.getD x.1 (Int.toNat x.2.1) (Ty.zero tGateShape)).2.1 : Int) > (6 : Int)))) = true then
   cs.1 (false, ())
 else
   runL (B10 n) ((fun z5 =>
     cs.1 (z5.1, ())), (fun z6 =>
     next (z6.1, (IntKind.i64.wrap (z6.2.1 + (1 : Int))), ())), ()) n (x.1, x.2.1, ((List.getD x.1 (Int.toNat x.2.1) (Ty.zero tGateShape)).1, (List.getD x.1 (Int.toNat x.2.1) (Ty.zero tGateShape)).2.1, ()), (0 : Int), ())
 else
   none
 else
   none
 else
   cs.2.1 ()
def f (n : Nat) (x : Tup [(.slice tGateShape)]) : Option (Tup [.bool]) :=
  if (decide ((List.length x.1 : Int) > (6 : Int))) = true then
   some (false, ())
 else
   runL (B4 n) ((fun z7 =>
     some (z7.1, ())), (fun z8 =>
     some (true, ())), ()) n (x.1, (0 : Int), ())
@[reducible] def sig (n : Nat) : Sig := ⟨[(.slice tGateShape)], [.bool], false, f n, none, none⟩
def T (n : Nat) : FuncId → Option Sig := fun g => if Nat.beq g 40 = true then some (spec_l1NameOk.sig n) else if Nat.beq g 74 = true then some (spec_l1FieldOk.sig n) else none
def TL (n : Nat) : Loops := fun j _ st k => if Nat.beq j 15 = true then (match dec st l15.inS [] with | some x => runL (B15 n) (contsOf k l15.outs) n x | none => none) else if Nat.beq j 10 = true then (match dec st l10.inS [] with | some x => runL (B10 n) (contsOf k l10.outs) n x | none => none) else if Nat.beq j 4 = true then (match dec st l4.inS [] with | some x => runL (B4 n) (contsOf k l4.outs) n x | none => none) else none
theorem d15 (n : Nat) : LoopDef Tryz.prog (T n) (TL n) Tryz.f60 15 :=
  ⟨l15, fun R => B15 n, n, fun R st k => by kernel_rfl, fun R next cs x => by kernel_rfl⟩
theorem d10 (n : Nat) : LoopDef Tryz.prog (T n) (TL n) Tryz.f60 10 :=
  ⟨l10, fun R => B10 n, n, fun R st k => by kernel_rfl, fun R next cs x => by kernel_rfl⟩
theorem d4 (n : Nat) : LoopDef Tryz.prog (T n) (TL n) Tryz.f60 4 :=
  ⟨l4, fun R => B4 n, n, fun R st k => by kernel_rfl, fun R next cs x => by kernel_rfl⟩
theorem con (n : Nat) : Con Tryz.prog 60 (sig n) :=
  con_print (hsw := rfl) (hsx := rfl) (T := T n) (TL := TL n) (c := Tryz.f60.body.getD .skip) (js := [4, 10, 15]) hMixed (conT_cons (spec_l1NameOk.con n) (conT_cons (spec_l1FieldOk.con n) conT_none)) Tryz.func60 (by decide) (by kernel_rfl) (by kernel_rfl) (by decide) (LoopDef.cons (d4 n) (LoopDef.cons (d10 n) (LoopDef.cons (d15 n) LoopDef.nil))) (fun x => by kernel_rfl)
end spec_GateShapesOk
namespace spec_l3Field
@[reducible] def l2 : LSpec := ⟨[(0, .d (.slice tGateField)), (1, .d .str), (5, .d (.int .i64))], [(.ret, [(4, .d (.int .i64))]), (.exit 0, [])]⟩
def B2 (n : Nat) {R : Type} (next : Sden l2.inS → Option R) (cs : Conts R l2.outs) (x : Sden l2.inS) : Option R :=
  if (decide (x.2.2.1 < (List.length x.1 : Int))) = true then
   if (decide (0 ≤ x.2.2.1 ∧ x.2.2.1 < (List.length x.1 : Int))) = true then
   if (seq (List.getD x.1 (Int.toNat x.2.2.1) (Ty.zero tGateField)).1 x.2.1) = true then
   cs.1 (x.2.2.1, ())
 else
   next (x.1, x.2.1, (IntKind.i64.wrap (x.2.2.1 + (1 : Int))), ())
 else
   none
 else
   cs.2.1 ()
def f (n : Nat) (x : Tup [(.slice tGateField), .str]) : Option (Tup [(.int .i64)]) :=
  runL (B2 n) ((fun z1 =>
     some (z1.1, ())), (fun z2 =>
     some ((-1 : Int), ())), ()) n (x.1, x.2.1, (0 : Int), ())
@[reducible] def sig (n : Nat) : Sig := ⟨[(.slice tGateField), .str], [(.int .i64)], false, f n, none, none⟩
def T (n : Nat) : FuncId → Option Sig := fun g => none
def TL (n : Nat) : Loops := fun j _ st k => if Nat.beq j 2 = true then (match dec st l2.inS [] with | some x => runL (B2 n) (contsOf k l2.outs) n x | none => none) else none
theorem d2 (n : Nat) : LoopDef Tryz.prog (T n) (TL n) Tryz.f77 2 :=
  ⟨l2, fun R => B2 n, n, fun R st k => by kernel_rfl, fun R next cs x => by kernel_rfl⟩
theorem con (n : Nat) : Con Tryz.prog 77 (sig n) :=
  con_print (hsw := rfl) (hsx := rfl) (T := T n) (TL := TL n) (c := Tryz.f77.body.getD .skip) (js := [2]) hMixed conT_none Tryz.func77 (by decide) (by kernel_rfl) (by kernel_rfl) (by decide) (LoopDef.cons (d2 n) LoopDef.nil) (fun x => by kernel_rfl)
end spec_l3Field
namespace spec_l3Plain
def f (n : Nat) (x : Tup [(.slice tGateField), .str]) : Option (Tup [.bool]) :=
  (spec_l3Field.f n (x.1, x.2.1, ())).bind fun y1 =>
 if (!(decide (y1.1 ≥ (0 : Int))) || (decide (0 ≤ y1.1 ∧ y1.1 < (List.length x.1 : Int)))) = true then
   some (((decide (y1.1 ≥ (0 : Int))) && ((List.getD x.1 (Int.toNat y1.1) (Ty.zero tGateField)).2.1 != (4 : Int))), ())
 else
   none
@[reducible] def sig (n : Nat) : Sig := ⟨[(.slice tGateField), .str], [.bool], false, f n, none, none⟩
def T (n : Nat) : FuncId → Option Sig := fun g => if Nat.beq g 77 = true then some (spec_l3Field.sig n) else none
def TL (n : Nat) : Loops := fun j _ st k => none
theorem con (n : Nat) : Con Tryz.prog 75 (sig n) :=
  con_print (hsw := rfl) (hsx := rfl) (T := T n) (TL := TL n) (c := Tryz.f75.body.getD .skip) (js := []) hMixed (conT_cons (spec_l3Field.con n) conT_none) Tryz.func75 (by decide) (by kernel_rfl) (by kernel_rfl) (by decide) LoopDef.nil (fun x => by kernel_rfl)
end spec_l3Plain
namespace spec_l3MendOk
def f (n : Nat) (x : Tup [(.slice tGateShape), tGateMend]) : Option (Tup [.bool]) :=
  (spec_l1Shape.f n (x.1, x.2.1.1, ())).bind fun y1 =>
 if (decide (y1.1 < (0 : Int))) = true then
 some (false, ())
 else if (decide (0 ≤ y1.1 ∧ y1.1 < (List.length x.1 : Int))) = true then
   (spec_l3Plain.f n ((List.getD x.1 (Int.toNat y1.1) (Ty.zero tGateShape)).2.1, x.2.1.2.1, ())).bind fun y2 =>
 (if ((!(!y2.1)) && (!seq x.2.1.2.2.1 (⟨#[]⟩ : ByteArray))) = true then (spec_l3Plain.f n ((List.getD x.1 (Int.toNat y1.1) (Ty.zero tGateShape)).2.1, x.2.1.2.2.1, ())) else some (tzero [.bool])).bind fun y3 =>
 (if ((!((!y2.1) || ((!seq x.2.1.2.2.1 (⟨#[]⟩ : ByteArray)) && (!y3.1)))) && (!seq x.2.1.2.2.2.2.2.1 (⟨#[]⟩ : ByteArray))) = true then (spec_l3Plain.f n ((List.getD x.1 (Int.toNat y1.1) (Ty.zero tGateShape)).2.1, x.2.1.2.2.2.2.2.1, ())) else some (tzero [.bool])).bind fun y4 =>
 if (((!y2.1) || ((!seq x.2.1.2.2.1 (⟨#[]⟩ : ByteArray)) && (!y3.1))) || ((!seq x.2.1.2.2.2.2.2.1 (⟨#[]⟩ : ByteArray)) && (!y4.1))) = true then
 some (false, ())
 else if ((((seq x.2.1.2.2.1 x.2.1.2.1) || (seq x.2.1.2.2.2.2.2.1 x.2.1.2.1)) || ((seq x.2.1.2.2.1 (⟨#[]⟩ : ByteArray)) && (!seq x.2.1.2.2.2.1 (⟨#[]⟩ : ByteArray)))) || ((seq x.2.1.2.2.2.2.1 (⟨#[]⟩ : ByteArray)) == (seq x.2.1.2.2.2.2.2.1 (⟨#[]⟩ : ByteArray)))) = true then
   some (false, ())
 else
   (if (!(seq x.2.1.2.2.2.2.1 (⟨#[]⟩ : ByteArray))) = true then (spec_l3Field.f n ((List.getD x.1 (Int.toNat y1.1) (Ty.zero tGateShape)).2.1, x.2.1.2.1, ())) else some (tzero [(.int .i64)])).bind fun y5 =>
 if (!(!(seq x.2.1.2.2.2.2.1 (⟨#[]⟩ : ByteArray))) || (decide (0 ≤ y5.1 ∧ y5.1 < (List.length (List.getD x.1 (Int.toNat y1.1) (Ty.zero tGateShape)).2.1 : Int)))) = true then
   (if (!(seq x.2.1.2.2.2.2.1 (⟨#[]⟩ : ByteArray))) = true then (spec_GateFits.f n ((List.getD (List.getD x.1 (Int.toNat y1.1) (Ty.zero tGateShape)).2.1 (Int.toNat y5.1) (Ty.zero tGateField)), x.2.1.2.2.2.2.1, ())) else some (tzero [.bool])).bind fun y6 =>
 some (((seq x.2.1.2.2.2.2.1 (⟨#[]⟩ : ByteArray)) || y6.1), ())
 else
   none
 else
   none
@[reducible] def sig (n : Nat) : Sig := ⟨[(.slice tGateShape), tGateMend], [.bool], false, f n, none, none⟩
def T (n : Nat) : FuncId → Option Sig := fun g => if Nat.beq g 44 = true then some (spec_l1Shape.sig n) else if Nat.beq g 75 = true then some (spec_l3Plain.sig n) else if Nat.beq g 76 = true then some (spec_GateFits.sig n) else if Nat.beq g 77 = true then some (spec_l3Field.sig n) else none
def TL (n : Nat) : Loops := fun j _ st k => none
theorem con (n : Nat) : Con Tryz.prog 61 (sig n) :=
  con_print (hsw := rfl) (hsx := rfl) (T := T n) (TL := TL n) (c := Tryz.f61.body.getD .skip) (js := []) hMixed (conT_cons (spec_l1Shape.con n) (conT_cons (spec_l3Plain.con n) (conT_cons (spec_GateFits.con n) (conT_cons (spec_l3Field.con n) conT_none)))) Tryz.func61 (by decide) (by kernel_rfl) (by kernel_rfl) (by decide) LoopDef.nil (fun x => by kernel_rfl)
end spec_l3MendOk
namespace spec_l3Ready
@[reducible] def l2 : LSpec := ⟨[(0, .d (.slice tGateMend)), (1, .d .str), (2, .d .str), (3, .d (.slice .str)), (9, .d (.int .i64))], [(.ret, [(8, .d .bool)]), (.exit 0, [])]⟩
def B2 (n : Nat) {R : Type} (next : Sden l2.inS → Option R) (cs : Conts R l2.outs) (x : Sden l2.inS) : Option R :=
  if (decide (x.2.2.2.2.1 < (List.length x.1 : Int))) = true then
   if (decide (0 ≤ x.2.2.2.2.1 ∧ x.2.2.2.2.1 < (List.length x.1 : Int))) = true then
   (if (((seq (List.getD x.1 (Int.toNat x.2.2.2.2.1) (Ty.zero tGateMend)).1 x.2.1) && (seq (List.getD x.1 (Int.toNat x.2.2.2.2.1) (Ty.zero tGateMend)).2.1 x.2.2.1)) && (!seq (List.getD x.1 (Int.toNat x.2.2.2.2.1) (Ty.zero tGateMend)).2.2.1 (⟨#[]⟩ : ByteArray))) = true then (spec_l1Has.f n (x.2.2.2.1, (List.getD x.1 (Int.toNat x.2.2.2.2.1) (Ty.zero tGateMend)).2.2.1, ())) else some (tzero [.bool])).bind fun y1 =>
 (if ((((seq (List.getD x.1 (Int.toNat x.2.2.2.2.1) (Ty.zero tGateMend)).1 x.2.1) && (seq (List.getD x.1 (Int.toNat x.2.2.2.2.1) (Ty.zero tGateMend)).2.1 x.2.2.1)) && (!((!seq (List.getD x.1 (Int.toNat x.2.2.2.2.1) (Ty.zero tGateMend)).2.2.1 (⟨#[]⟩ : ByteArray)) && (!y1.1)))) && (!seq (List.getD x.1 (Int.toNat x.2.2.2.2.1) (Ty.zero tGateMend)).2.2.2.2.2.1 (⟨#[]⟩ : ByteArray))) = true then (spec_l1Has.f n (x.2.2.2.1, (List.getD x.1 (Int.toNat x.2.2.2.2.1) (Ty.zero tGateMend)).2.2.2.2.2.1, ())) else some (tzero [.bool])).bind fun y2 =>
 if (((seq (List.getD x.1 (Int.toNat x.2.2.2.2.1) (Ty.zero tGateMend)).1 x.2.1) && (seq (List.getD x.1 (Int.toNat x.2.2.2.2.1) (Ty.zero tGateMend)).2.1 x.2.2.1)) && (((!seq (List.getD x.1 (Int.toNat x.2.2.2.2.1) (Ty.zero tGateMend)).2.2.1 (⟨#[]⟩ : ByteArray)) && (!y1.1)) || ((!seq (List.getD x.1 (Int.toNat x.2.2.2.2.1) (Ty.zero tGateMend)).2.2.2.2.2.1 (⟨#[]⟩ : ByteArray)) && (!y2.1)))) = true then
   cs.1 (false, ())
 else
   next (x.1, x.2.1, x.2.2.1, x.2.2.2.1, (IntKind.i64.wrap (x.2.2.2.2.1 + (1 : Int))), ())
 else
   none
 else
   cs.2.1 ()
def f (n : Nat) (x : Tup [(.slice tGateMend), .str, .str, (.slice .str)]) : Option (Tup [.bool]) :=
  runL (B2 n) ((fun z3 =>
     some (z3.1, ())), (fun z4 =>
     some (true, ())), ()) n (x.1, x.2.1, x.2.2.1, x.2.2.2.1, (0 : Int), ())
@[reducible] def sig (n : Nat) : Sig := ⟨[(.slice tGateMend), .str, .str, (.slice .str)], [.bool], false, f n, none, none⟩
def T (n : Nat) : FuncId → Option Sig := fun g => if Nat.beq g 78 = true then some (spec_l1Has.sig n) else none
def TL (n : Nat) : Loops := fun j _ st k => if Nat.beq j 2 = true then (match dec st l2.inS [] with | some x => runL (B2 n) (contsOf k l2.outs) n x | none => none) else none
theorem d2 (n : Nat) : LoopDef Tryz.prog (T n) (TL n) Tryz.f79 2 :=
  ⟨l2, fun R => B2 n, n, fun R st k => by kernel_rfl, fun R next cs x => by kernel_rfl⟩
theorem con (n : Nat) : Con Tryz.prog 79 (sig n) :=
  con_print (hsw := rfl) (hsx := rfl) (T := T n) (TL := TL n) (c := Tryz.f79.body.getD .skip) (js := [2]) hMixed (conT_cons (spec_l1Has.con n) conT_none) Tryz.func79 (by decide) (by kernel_rfl) (by kernel_rfl) (by decide) (LoopDef.cons (d2 n) LoopDef.nil) (fun x => by kernel_rfl)
end spec_l3Ready
namespace spec_l3Row
@[reducible] def l6 : LSpec := ⟨[(1, .d (.slice tGateMend)), (2, .rb tGateShape), (5, .row true .str), (6, .d (.int .i64)), (7, .d (.int .i64))], [(.exit 2, [(1, .d (.slice tGateMend)), (2, .rb tGateShape), (5, .row true .str), (6, .d (.int .i64))])]⟩
def B6 (n : Nat) {R : Type} (next : Sden l6.inS → Option R) (cs : Conts R l6.outs) (x : Sden l6.inS) : Option R :=
  if (decide (x.2.2.2.2.1 < (List.length x.2.1.2.1 : Int))) = true then
   if (decide (0 ≤ x.2.2.2.2.1 ∧ x.2.2.2.2.1 < (List.length x.2.1.2.1 : Int))) = true then
   (spec_l1Has.f n (x.2.2.1, (List.getD x.2.1.2.1 (Int.toNat x.2.2.2.2.1) (Ty.zero tGateField)).1, ())).bind fun y1 =>
 (if (!y1.1) = true then (spec_l3Ready.f n (x.1, x.2.1.1, (List.getD x.2.1.2.1 (Int.toNat x.2.2.2.2.1) (Ty.zero tGateField)).1, x.2.2.1, ())) else some (tzero [.bool])).bind fun y2 =>
 if ((!y1.1) && y2.1) = true then
   if (appBound (List.length x.2.2.1) (List.length [(List.getD x.2.1.2.1 (Int.toNat x.2.2.2.2.1) (Ty.zero tGateField)).1]) 16) = true then
   cs.1 (x.1, x.2.1, (x.2.2.1 ++ [(List.getD x.2.1.2.1 (Int.toNat x.2.2.2.2.1) (Ty.zero tGateField)).1]), x.2.2.2.1, ())
 else
   none
 else
   next (x.1, x.2.1, x.2.2.1, x.2.2.2.1, (IntKind.i64.wrap (x.2.2.2.2.1 + (1 : Int))), ())
 else
   none
 else
   cs.1 (x.1, x.2.1, x.2.2.1, x.2.2.2.1, ())
@[reducible] def l3 : LSpec := ⟨[(1, .d (.slice tGateMend)), (2, .rb tGateShape), (5, .row true .str), (6, .d (.int .i64))], [(.exit 0, [(5, .row true .str)])]⟩
def B3 (n : Nat) {R : Type} (next : Sden l3.inS → Option R) (cs : Conts R l3.outs) (x : Sden l3.inS) : Option R :=
  if (decide (x.2.2.2.1 < (List.length x.2.1.2.1 : Int))) = true then
   runL (B6 n) ((fun z3 =>
     next (z3.1, z3.2.1, z3.2.2.1, (IntKind.i64.wrap (z3.2.2.2.1 + (1 : Int))), ())), ()) n (x.1, x.2.1, x.2.2.1, x.2.2.2.1, (0 : Int), ())
 else
   cs.1 (x.2.2.1, ())
def f (n : Nat) (x : Tup [tGateShape, (.slice tGateMend)]) : Option (Tup [(.slice .str)]) :=
  runL (B3 n) ((fun z4 =>
     some (z4.1, ())), ()) n (x.2.1, x.1, ([] : List (Ty.den .str)), (0 : Int), ())
@[reducible] def sig (n : Nat) : Sig := ⟨[tGateShape, (.slice tGateMend)], [(.slice .str)], true, f n, none, none⟩
def T (n : Nat) : FuncId → Option Sig := fun g => if Nat.beq g 78 = true then some (spec_l1Has.sig n) else if Nat.beq g 79 = true then some (spec_l3Ready.sig n) else none
def TL (n : Nat) : Loops := fun j _ st k => if Nat.beq j 6 = true then (match dec st l6.inS [] with | some x => runL (B6 n) (contsOf k l6.outs) n x | none => none) else if Nat.beq j 3 = true then (match dec st l3.inS [] with | some x => runL (B3 n) (contsOf k l3.outs) n x | none => none) else none
theorem d6 (n : Nat) : LoopDef Tryz.prog (T n) (TL n) Tryz.f62 6 :=
  ⟨l6, fun R => B6 n, n, fun R st k => by kernel_rfl, fun R next cs x => by kernel_rfl⟩
theorem d3 (n : Nat) : LoopDef Tryz.prog (T n) (TL n) Tryz.f62 3 :=
  ⟨l3, fun R => B3 n, n, fun R st k => by kernel_rfl, fun R next cs x => by kernel_rfl⟩
theorem con (n : Nat) : Con Tryz.prog 62 (sig n) :=
  con_print (hsw := rfl) (hsx := rfl) (T := T n) (TL := TL n) (c := Tryz.f62.body.getD .skip) (js := [3, 6]) hMixed (conT_cons (spec_l1Has.con n) (conT_cons (spec_l3Ready.con n) conT_none)) Tryz.func62 (by decide) (by kernel_rfl) (by kernel_rfl) (by decide) (LoopDef.cons (d3 n) (LoopDef.cons (d6 n) LoopDef.nil)) (fun x => by kernel_rfl)
end spec_l3Row
namespace spec_GateMendsOk
@[reducible] def l4 : LSpec := ⟨[(0, .d (.slice tGateShape)), (1, .d (.slice tGateMend)), (5, .d (.int .i64))], [(.ret, [(4, .d .bool)]), (.exit 0, [(0, .d (.slice tGateShape)), (1, .d (.slice tGateMend))])]⟩
def B4 (n : Nat) {R : Type} (next : Sden l4.inS → Option R) (cs : Conts R l4.outs) (x : Sden l4.inS) : Option R :=
  if (decide (x.2.2.1 < (List.length x.2.1 : Int))) = true then
   if (decide (0 ≤ x.2.2.1 ∧ x.2.2.1 < (List.length x.2.1 : Int))) = true then
   (spec_l3MendOk.f n (x.1, (List.getD x.2.1 (Int.toNat x.2.2.1) (Ty.zero tGateMend)), ())).bind fun y2 =>
 if (!y2.1) = true then
   cs.1 (false, ())
 else
   next (x.1, x.2.1, (IntKind.i64.wrap (x.2.2.1 + (1 : Int))), ())
 else
   none
 else
   cs.2.1 (x.1, x.2.1, ())
@[reducible] def l9 : LSpec := ⟨[(0, .d (.slice tGateShape)), (1, .d (.slice tGateMend)), (6, .d (.int .i64))], [(.ret, [(4, .d .bool)]), (.exit 2, [])]⟩
def B9 (n : Nat) {R : Type} (next : Sden l9.inS → Option R) (cs : Conts R l9.outs) (x : Sden l9.inS) : Option R :=
  if (decide (x.2.2.1 < (List.length x.1 : Int))) = true then
   if (!true || (decide (0 ≤ x.2.2.1 ∧ x.2.2.1 < (List.length x.1 : Int)))) = true then
   (spec_l3Row.f n ((List.getD x.1 (Int.toNat x.2.2.1) (Ty.zero tGateShape)), x.2.1, ())).bind fun y5 =>
 if (!true || (decide (0 ≤ x.2.2.1 ∧ x.2.2.1 < (List.length x.1 : Int)))) = true then
   if ((List.length y5.1 : Int) != (List.length (List.getD x.1 (Int.toNat x.2.2.1) (Ty.zero tGateShape)).2.1 : Int)) = true then
   cs.1 (false, ())
 else
   next (x.1, x.2.1, (IntKind.i64.wrap (x.2.2.1 + (1 : Int))), ())
 else
   none
 else
   none
 else
   cs.2.1 ()
def f (n : Nat) (x : Tup [(.slice tGateShape), (.slice tGateMend)]) : Option (Tup [.bool]) :=
  (spec_GateShapesOk.f n (x.1, ())).bind fun y1 =>
 if ((!y1.1) || (decide ((List.length x.2.1 : Int) > (12 : Int)))) = true then
   some (false, ())
 else
   runL (B4 n) ((fun z3 =>
     some (z3.1, ())), (fun z4 =>
     runL (B9 n) ((fun z6 =>
     some (z6.1, ())), (fun z7 =>
     some (true, ())), ()) n (z4.1, z4.2.1, (0 : Int), ())), ()) n (x.1, x.2.1, (0 : Int), ())
@[reducible] def sig (n : Nat) : Sig := ⟨[(.slice tGateShape), (.slice tGateMend)], [.bool], false, f n, none, none⟩
def T (n : Nat) : FuncId → Option Sig := fun g => if Nat.beq g 60 = true then some (spec_GateShapesOk.sig n) else if Nat.beq g 61 = true then some (spec_l3MendOk.sig n) else if Nat.beq g 62 = true then some (spec_l3Row.sig n) else none
def TL (n : Nat) : Loops := fun j _ st k => if Nat.beq j 4 = true then (match dec st l4.inS [] with | some x => runL (B4 n) (contsOf k l4.outs) n x | none => none) else if Nat.beq j 9 = true then (match dec st l9.inS [] with | some x => runL (B9 n) (contsOf k l9.outs) n x | none => none) else none
theorem d4 (n : Nat) : LoopDef Tryz.prog (T n) (TL n) Tryz.f38 4 :=
  ⟨l4, fun R => B4 n, n, fun R st k => by kernel_rfl, fun R next cs x => by kernel_rfl⟩
theorem d9 (n : Nat) : LoopDef Tryz.prog (T n) (TL n) Tryz.f38 9 :=
  ⟨l9, fun R => B9 n, n, fun R st k => by kernel_rfl, fun R next cs x => by kernel_rfl⟩
theorem con (n : Nat) : Con Tryz.prog 38 (sig n) :=
  con_print (hsw := rfl) (hsx := rfl) (T := T n) (TL := TL n) (c := Tryz.f38.body.getD .skip) (js := [4, 9]) hMixed (conT_cons (spec_GateShapesOk.con n) (conT_cons (spec_l3MendOk.con n) (conT_cons (spec_l3Row.con n) conT_none))) Tryz.func38 (by decide) (by kernel_rfl) (by kernel_rfl) (by decide) (LoopDef.cons (d4 n) (LoopDef.cons (d9 n) LoopDef.nil)) (fun x => by kernel_rfl)
end spec_GateMendsOk
namespace spec_l4Team
@[reducible] def l2 : LSpec := ⟨[(0, .d (.slice tGateTeam)), (1, .d .str), (5, .d (.int .i64))], [(.ret, [(4, .d .bool)]), (.exit 0, [])]⟩
def B2 (n : Nat) {R : Type} (next : Sden l2.inS → Option R) (cs : Conts R l2.outs) (x : Sden l2.inS) : Option R :=
  if (decide (x.2.2.1 < (List.length x.1 : Int))) = true then
   if (decide (0 ≤ x.2.2.1 ∧ x.2.2.1 < (List.length x.1 : Int))) = true then
   if (seq (List.getD x.1 (Int.toNat x.2.2.1) (Ty.zero tGateTeam)).1 x.2.1) = true then
   cs.1 (true, ())
 else
   next (x.1, x.2.1, (IntKind.i64.wrap (x.2.2.1 + (1 : Int))), ())
 else
   none
 else
   cs.2.1 ()
def f (n : Nat) (x : Tup [(.slice tGateTeam), .str]) : Option (Tup [.bool]) :=
  runL (B2 n) ((fun z1 =>
     some (z1.1, ())), (fun z2 =>
     some (false, ())), ()) n (x.1, x.2.1, (0 : Int), ())
@[reducible] def sig (n : Nat) : Sig := ⟨[(.slice tGateTeam), .str], [.bool], false, f n, none, none⟩
def T (n : Nat) : FuncId → Option Sig := fun g => none
def TL (n : Nat) : Loops := fun j _ st k => if Nat.beq j 2 = true then (match dec st l2.inS [] with | some x => runL (B2 n) (contsOf k l2.outs) n x | none => none) else none
theorem d2 (n : Nat) : LoopDef Tryz.prog (T n) (TL n) Tryz.f45 2 :=
  ⟨l2, fun R => B2 n, n, fun R st k => by kernel_rfl, fun R next cs x => by kernel_rfl⟩
theorem con (n : Nat) : Con Tryz.prog 45 (sig n) :=
  con_print (hsw := rfl) (hsx := rfl) (T := T n) (TL := TL n) (c := Tryz.f45.body.getD .skip) (js := [2]) hMixed conT_none Tryz.func45 (by decide) (by kernel_rfl) (by kernel_rfl) (by decide) (LoopDef.cons (d2 n) LoopDef.nil) (fun x => by kernel_rfl)
end spec_l4Team
namespace spec_l4Over
@[reducible] def l2 : LSpec := ⟨[(0, .d (.slice tGateTeam)), (1, .d .str), (5, .d (.int .i64))], [(.ret, [(4, .d .str)]), (.exit 0, [])]⟩
def B2 (n : Nat) {R : Type} (next : Sden l2.inS → Option R) (cs : Conts R l2.outs) (x : Sden l2.inS) : Option R :=
  if (decide (x.2.2.1 < (List.length x.1 : Int))) = true then
   if (decide (0 ≤ x.2.2.1 ∧ x.2.2.1 < (List.length x.1 : Int))) = true then
   if (seq (List.getD x.1 (Int.toNat x.2.2.1) (Ty.zero tGateTeam)).1 x.2.1) = true then
   if (decide (0 ≤ x.2.2.1 ∧ x.2.2.1 < (List.length x.1 : Int))) = true then
   cs.1 ((List.getD x.1 (Int.toNat x.2.2.1) (Ty.zero tGateTeam)).2.1, ())
 else
   none
 else
   next (x.1, x.2.1, (IntKind.i64.wrap (x.2.2.1 + (1 : Int))), ())
 else
   none
 else
   cs.2.1 ()
def f (n : Nat) (x : Tup [(.slice tGateTeam), .str]) : Option (Tup [.str]) :=
  runL (B2 n) ((fun z1 =>
     some (z1.1, ())), (fun z2 =>
     some ((⟨#[]⟩ : ByteArray), ())), ()) n (x.1, x.2.1, (0 : Int), ())
@[reducible] def sig (n : Nat) : Sig := ⟨[(.slice tGateTeam), .str], [.str], false, f n, none, none⟩
def T (n : Nat) : FuncId → Option Sig := fun g => none
def TL (n : Nat) : Loops := fun j _ st k => if Nat.beq j 2 = true then (match dec st l2.inS [] with | some x => runL (B2 n) (contsOf k l2.outs) n x | none => none) else none
theorem d2 (n : Nat) : LoopDef Tryz.prog (T n) (TL n) Tryz.f63 2 :=
  ⟨l2, fun R => B2 n, n, fun R st k => by kernel_rfl, fun R next cs x => by kernel_rfl⟩
theorem con (n : Nat) : Con Tryz.prog 63 (sig n) :=
  con_print (hsw := rfl) (hsx := rfl) (T := T n) (TL := TL n) (c := Tryz.f63.body.getD .skip) (js := [2]) hMixed conT_none Tryz.func63 (by decide) (by kernel_rfl) (by kernel_rfl) (by decide) (LoopDef.cons (d2 n) LoopDef.nil) (fun x => by kernel_rfl)
end spec_l4Over
namespace spec_GateTeamsOk
@[reducible] def l11 : LSpec := ⟨[(0, .d (.slice tGateTeam)), (3, .d (.int .i64)), (5, .d .str), (6, .d (.int .i64))], [(.exit 2, [(0, .d (.slice tGateTeam)), (3, .d (.int .i64)), (5, .d .str)])]⟩
def B11 (n : Nat) {R : Type} (next : Sden l11.inS → Option R) (cs : Conts R l11.outs) (x : Sden l11.inS) : Option R :=
  if ((decide (x.2.2.2.1 ≤ (4 : Int))) && (!seq x.2.2.1 (⟨#[]⟩ : ByteArray))) = true then
   (spec_l4Over.f n (x.1, x.2.2.1, ())).bind fun y3 =>
 next (x.1, x.2.1, y3.1, (IntKind.i64.wrap (x.2.2.2.1 + (1 : Int))), ())
 else
   cs.1 (x.1, x.2.1, x.2.2.1, ())
@[reducible] def l4 : LSpec := ⟨[(0, .d (.slice tGateTeam)), (3, .d (.int .i64))], [(.ret, [(2, .d .bool)]), (.exit 0, [])]⟩
def B4 (n : Nat) {R : Type} (next : Sden l4.inS → Option R) (cs : Conts R l4.outs) (x : Sden l4.inS) : Option R :=
  if (decide (x.2.1 < (List.length x.1 : Int))) = true then
   if (decide (0 ≤ x.2.1 ∧ x.2.1 < (List.length x.1 : Int))) = true then
   (if true = true then (spec_l1NameOk.f n ((List.getD x.1 (Int.toNat x.2.1) (Ty.zero tGateTeam)).1, ())) else some (tzero [.bool])).bind fun y1 =>
 if (!((!(!y1.1)) && (decide (x.2.1 > (0 : Int)))) || (decide (0 ≤ (IntKind.i64.wrap (x.2.1 - (1 : Int))) ∧ (IntKind.i64.wrap (x.2.1 - (1 : Int))) < (List.length x.1 : Int)))) = true then
   (if ((!((!y1.1) || ((decide (x.2.1 > (0 : Int))) && (!slt (List.getD x.1 (Int.toNat (IntKind.i64.wrap (x.2.1 - (1 : Int)))) (Ty.zero tGateTeam)).1 (List.getD x.1 (Int.toNat x.2.1) (Ty.zero tGateTeam)).1)))) && (!seq (List.getD x.1 (Int.toNat x.2.1) (Ty.zero tGateTeam)).2.1 (⟨#[]⟩ : ByteArray))) = true then (spec_l4Team.f n (x.1, (List.getD x.1 (Int.toNat x.2.1) (Ty.zero tGateTeam)).2.1, ())) else some (tzero [.bool])).bind fun y2 =>
 if (((!y1.1) || ((decide (x.2.1 > (0 : Int))) && (!slt (List.getD x.1 (Int.toNat (IntKind.i64.wrap (x.2.1 - (1 : Int)))) (Ty.zero tGateTeam)).1 (List.getD x.1 (Int.toNat x.2.1) (Ty.zero tGateTeam)).1))) || ((!seq (List.getD x.1 (Int.toNat x.2.1) (Ty.zero tGateTeam)).2.1 (⟨#[]⟩ : ByteArray)) && (!y2.1))) = true then
   cs.1 (false, ())
 else
   runL (B11 n) ((fun z4 =>
     if (!seq z4.2.2.1 (⟨#[]⟩ : ByteArray)) = true then
   cs.1 (false, ())
 else
   next (z4.1, (IntKind.i64.wrap (z4.2.1 + (1 : Int))), ())), ()) n (x.1, x.2.1, (List.getD x.1 (Int.toNat x.2.1) (Ty.zero tGateTeam)).1, (0 : Int), ())
 else
   none
 else
   none
 else
   cs.2.1 ()
def f (n : Nat) (x : Tup [(.slice tGateTeam)]) : Option (Tup [.bool]) :=
  if (decide ((List.length x.1 : Int) > (12 : Int))) = true then
   some (false, ())
 else
   runL (B4 n) ((fun z5 =>
     some (z5.1, ())), (fun z6 =>
     some (true, ())), ()) n (x.1, (0 : Int), ())
@[reducible] def sig (n : Nat) : Sig := ⟨[(.slice tGateTeam)], [.bool], false, f n, none, none⟩
def T (n : Nat) : FuncId → Option Sig := fun g => if Nat.beq g 40 = true then some (spec_l1NameOk.sig n) else if Nat.beq g 45 = true then some (spec_l4Team.sig n) else if Nat.beq g 63 = true then some (spec_l4Over.sig n) else none
def TL (n : Nat) : Loops := fun j _ st k => if Nat.beq j 11 = true then (match dec st l11.inS [] with | some x => runL (B11 n) (contsOf k l11.outs) n x | none => none) else if Nat.beq j 4 = true then (match dec st l4.inS [] with | some x => runL (B4 n) (contsOf k l4.outs) n x | none => none) else none
theorem d11 (n : Nat) : LoopDef Tryz.prog (T n) (TL n) Tryz.f39 11 :=
  ⟨l11, fun R => B11 n, n, fun R st k => by kernel_rfl, fun R next cs x => by kernel_rfl⟩
theorem d4 (n : Nat) : LoopDef Tryz.prog (T n) (TL n) Tryz.f39 4 :=
  ⟨l4, fun R => B4 n, n, fun R st k => by kernel_rfl, fun R next cs x => by kernel_rfl⟩
theorem con (n : Nat) : Con Tryz.prog 39 (sig n) :=
  con_print (hsw := rfl) (hsx := rfl) (T := T n) (TL := TL n) (c := Tryz.f39.body.getD .skip) (js := [4, 11]) hMixed (conT_cons (spec_l1NameOk.con n) (conT_cons (spec_l4Team.con n) (conT_cons (spec_l4Over.con n) conT_none))) Tryz.func39 (by decide) (by kernel_rfl) (by kernel_rfl) (by decide) (LoopDef.cons (d4 n) (LoopDef.cons (d11 n) LoopDef.nil)) (fun x => by kernel_rfl)
end spec_GateTeamsOk
namespace spec_GateLawOk
def f (n : Nat) (x : Tup [tGateLaw]) : Option (Tup [.bool]) :=
  (spec_GateMendsOk.f n (x.1.1, x.1.2.1, ())).bind fun y1 =>
 (if y1.1 = true then (spec_GateTeamsOk.f n (x.1.2.2.1, ())) else some (tzero [.bool])).bind fun y2 =>
 some ((y1.1 && y2.1), ())
@[reducible] def sig (n : Nat) : Sig := ⟨[tGateLaw], [.bool], false, f n, none, none⟩
def T (n : Nat) : FuncId → Option Sig := fun g => if Nat.beq g 38 = true then some (spec_GateMendsOk.sig n) else if Nat.beq g 39 = true then some (spec_GateTeamsOk.sig n) else none
def TL (n : Nat) : Loops := fun j _ st k => none
theorem con (n : Nat) : Con Tryz.prog 17 (sig n) :=
  con_print (hsw := rfl) (hsx := rfl) (T := T n) (TL := TL n) (c := Tryz.f17.body.getD .skip) (js := []) hMixed (conT_cons (spec_GateMendsOk.con n) (conT_cons (spec_GateTeamsOk.con n) conT_none)) Tryz.func17 (by decide) (by kernel_rfl) (by kernel_rfl) (by decide) LoopDef.nil (fun x => by kernel_rfl)
end spec_GateLawOk
namespace spec_l8Rest
def f (n : Nat) (x : Tup [tGateAsk]) : Option (Tup [tGateAsk]) :=
  if (x.1.2.1 == (1 : Int)) = true then
 some (((⟨#[]⟩ : ByteArray), x.1.2.1, (⟨#[]⟩ : ByteArray), (⟨#[]⟩ : ByteArray), (⟨#[]⟩ : ByteArray), [], [], x.1.2.2.2.2.2.2.2), ())
 else if (x.1.2.1 == (2 : Int)) = true then
 some (((⟨#[]⟩ : ByteArray), x.1.2.1, (⟨#[]⟩ : ByteArray), (⟨#[]⟩ : ByteArray), x.1.2.2.2.2.1, [], x.1.2.2.2.2.2.2.1, (0 : Int), x.1.2.2.2.2.2.2.2.2), ())
 else if (x.1.2.1 == (3 : Int)) = true then
 some (((⟨#[]⟩ : ByteArray), x.1.2.1, (⟨#[]⟩ : ByteArray), (⟨#[]⟩ : ByteArray), x.1.2.2.2.2.1, x.1.2.2.2.2.2.1, x.1.2.2.2.2.2.2.1, (0 : Int), x.1.2.2.2.2.2.2.2.2), ())
 else if (x.1.2.1 == (4 : Int)) = true then
 some (((⟨#[]⟩ : ByteArray), x.1.2.1, (⟨#[]⟩ : ByteArray), (⟨#[]⟩ : ByteArray), x.1.2.2.2.2.1, x.1.2.2.2.2.2.1, x.1.2.2.2.2.2.2.1, x.1.2.2.2.2.2.2.2.1, (⟨#[]⟩ : ByteArray), x.1.2.2.2.2.2.2.2.2.2), ())
 else if (x.1.2.1 == (5 : Int)) = true then
 some (((⟨#[]⟩ : ByteArray), x.1.2.1, x.1.2.2.1, x.1.2.2.2.1, x.1.2.2.2.2.1, x.1.2.2.2.2.2.1, x.1.2.2.2.2.2.2.1, x.1.2.2.2.2.2.2.2.1, x.1.2.2.2.2.2.2.2.2.1, (⟨#[]⟩ : ByteArray), ([], (⟨#[]⟩ : ByteArray), (⟨#[]⟩ : ByteArray), (⟨#[]⟩ : ByteArray), ()), x.1.2.2.2.2.2.2.2.2.2.2.2), ())
 else if (x.1.2.1 == (6 : Int)) = true then
   some (((⟨#[]⟩ : ByteArray), x.1.2.1, x.1.2.2.1, x.1.2.2.2.1, x.1.2.2.2.2.1, x.1.2.2.2.2.2.1, x.1.2.2.2.2.2.2.1, x.1.2.2.2.2.2.2.2.1, x.1.2.2.2.2.2.2.2.2.1, x.1.2.2.2.2.2.2.2.2.2.1, x.1.2.2.2.2.2.2.2.2.2.2.1, (0 : Int), ()), ())
 else
   some (((⟨#[]⟩ : ByteArray), x.1.2), ())
@[reducible] def sig (n : Nat) : Sig := ⟨[tGateAsk], [tGateAsk], false, f n, none, none⟩
def T (n : Nat) : FuncId → Option Sig := fun g => none
def TL (n : Nat) : Loops := fun j _ st k => none
theorem con (n : Nat) : Con Tryz.prog 43 (sig n) :=
  con_print (hsw := rfl) (hsx := rfl) (T := T n) (TL := TL n) (c := Tryz.f43.body.getD .skip) (js := []) hMixed conT_none Tryz.func43 (by decide) (by kernel_rfl) (by kernel_rfl) (by decide) LoopDef.nil (fun x => by kernel_rfl)
end spec_l8Rest
namespace spec_l8Nothing
def f (n : Nat) (x : Tup [tGateAsk]) : Option (Tup [.bool]) :=
  some ((((((((((((((seq x.1.2.2.1 (⟨#[]⟩ : ByteArray)) && (seq x.1.2.2.2.1 (⟨#[]⟩ : ByteArray))) && (seq x.1.2.2.2.2.1 (⟨#[]⟩ : ByteArray))) && ((List.length x.1.2.2.2.2.2.1 : Int) == (0 : Int))) && ((List.length x.1.2.2.2.2.2.2.1 : Int) == (0 : Int))) && (x.1.2.2.2.2.2.2.2.1 == (0 : Int))) && (seq x.1.2.2.2.2.2.2.2.2.1 (⟨#[]⟩ : ByteArray))) && (seq x.1.2.2.2.2.2.2.2.2.2.1 (⟨#[]⟩ : ByteArray))) && ((List.length x.1.2.2.2.2.2.2.2.2.2.2.1.1 : Int) == (0 : Int))) && (seq x.1.2.2.2.2.2.2.2.2.2.2.1.2.1 (⟨#[]⟩ : ByteArray))) && (seq x.1.2.2.2.2.2.2.2.2.2.2.1.2.2.1 (⟨#[]⟩ : ByteArray))) && (seq x.1.2.2.2.2.2.2.2.2.2.2.1.2.2.2.1 (⟨#[]⟩ : ByteArray))) && (x.1.2.2.2.2.2.2.2.2.2.2.2.1 == (0 : Int))), ())
@[reducible] def sig (n : Nat) : Sig := ⟨[tGateAsk], [.bool], false, f n, none, none⟩
def T (n : Nat) : FuncId → Option Sig := fun g => none
def TL (n : Nat) : Loops := fun j _ st k => none
theorem con (n : Nat) : Con Tryz.prog 42 (sig n) :=
  con_print (hsw := rfl) (hsx := rfl) (T := T n) (TL := TL n) (c := Tryz.f42.body.getD .skip) (js := []) hMixed conT_none Tryz.func42 (by decide) (by kernel_rfl) (by kernel_rfl) (by decide) LoopDef.nil (fun x => by kernel_rfl)
end spec_l8Nothing
namespace spec_l4RuleOk
@[reducible] def l4 : LSpec := ⟨[(1, .rb tGateRule), (3, .d (.int .i64))], [(.ret, [(2, .d .bool)]), (.exit 0, [(1, .rb tGateRule)])]⟩
def B4 (n : Nat) {R : Type} (next : Sden l4.inS → Option R) (cs : Conts R l4.outs) (x : Sden l4.inS) : Option R :=
  if (decide (x.2.1 < (List.length x.1.1 : Int))) = true then
   if (!true || (decide (0 ≤ x.2.1 ∧ x.2.1 < (List.length x.1.1 : Int)))) = true then
   (if true = true then (spec_l1In.f n ((List.getD x.1.1 (Int.toNat x.2.1) (0 : Int)), (1 : Int), (5 : Int), ())) else some (tzero [.bool])).bind fun y3 =>
 if (!((!(!y3.1)) && (decide (x.2.1 > (0 : Int)))) || (decide (0 ≤ (IntKind.i64.wrap (x.2.1 - (1 : Int))) ∧ (IntKind.i64.wrap (x.2.1 - (1 : Int))) < (List.length x.1.1 : Int)))) = true then
   if (!((!(!y3.1)) && (decide (x.2.1 > (0 : Int)))) || (decide (0 ≤ x.2.1 ∧ x.2.1 < (List.length x.1.1 : Int)))) = true then
   if ((!y3.1) || ((decide (x.2.1 > (0 : Int))) && (decide ((List.getD x.1.1 (Int.toNat (IntKind.i64.wrap (x.2.1 - (1 : Int)))) (0 : Int)) ≥ (List.getD x.1.1 (Int.toNat x.2.1) (0 : Int)))))) = true then
   cs.1 (false, ())
 else
   next (x.1, (IntKind.i64.wrap (x.2.1 + (1 : Int))), ())
 else
   none
 else
   none
 else
   none
 else
   cs.2.1 (x.1, ())
@[reducible] def l9 : LSpec := ⟨[(1, .rb tGateRule), (4, .d (.int .i64))], [(.ret, [(2, .d .bool)]), (.exit 2, [])]⟩
def B9 (n : Nat) {R : Type} (next : Sden l9.inS → Option R) (cs : Conts R l9.outs) (x : Sden l9.inS) : Option R :=
  if (decide (x.2.1 < (ByteArray.size x.1.2.2.2.1 : Int))) = true then
   if (decide (0 ≤ x.2.1 ∧ x.2.1 < (ByteArray.size x.1.2.2.2.1 : Int))) = true then
   (spec_l1Byte.f n ((byteAt x.1.2.2.2.1 x.2.1), ())).bind fun y6 =>
 if (!y6.1) = true then
   cs.1 (false, ())
 else
   next (x.1, (IntKind.i64.wrap (x.2.1 + (1 : Int))), ())
 else
   none
 else
   cs.2.1 ()
def f (n : Nat) (x : Tup [tGateRule]) : Option (Tup [.bool]) :=
  (if ((!(((List.length x.1.1 : Int) == (0 : Int)) || (decide ((ByteArray.size x.1.2.2.2.1 : Int) > (16 : Int))))) && (!seq x.1.2.1 (⟨#[]⟩ : ByteArray))) = true then (spec_l1NameOk.f n (x.1.2.1, ())) else some (tzero [.bool])).bind fun y1 =>
 (if ((!((((List.length x.1.1 : Int) == (0 : Int)) || (decide ((ByteArray.size x.1.2.2.2.1 : Int) > (16 : Int)))) || ((!seq x.1.2.1 (⟨#[]⟩ : ByteArray)) && (!y1.1)))) && (!seq x.1.2.2.1 (⟨#[]⟩ : ByteArray))) = true then (spec_l1NameOk.f n (x.1.2.2.1, ())) else some (tzero [.bool])).bind fun y2 =>
 if (((((List.length x.1.1 : Int) == (0 : Int)) || (decide ((ByteArray.size x.1.2.2.2.1 : Int) > (16 : Int)))) || ((!seq x.1.2.1 (⟨#[]⟩ : ByteArray)) && (!y1.1))) || ((!seq x.1.2.2.1 (⟨#[]⟩ : ByteArray)) && (!y2.1))) = true then
   some (false, ())
 else
   runL (B4 n) ((fun z4 =>
     some (z4.1, ())), (fun z5 =>
     runL (B9 n) ((fun z7 =>
     some (z7.1, ())), (fun z8 =>
     some (true, ())), ()) n (z5.1, (0 : Int), ())), ()) n (x.1, (0 : Int), ())
@[reducible] def sig (n : Nat) : Sig := ⟨[tGateRule], [.bool], false, f n, none, none⟩
def T (n : Nat) : FuncId → Option Sig := fun g => if Nat.beq g 40 = true then some (spec_l1NameOk.sig n) else if Nat.beq g 41 = true then some (spec_l1In.sig n) else if Nat.beq g 64 = true then some (spec_l1Byte.sig n) else none
def TL (n : Nat) : Loops := fun j _ st k => if Nat.beq j 4 = true then (match dec st l4.inS [] with | some x => runL (B4 n) (contsOf k l4.outs) n x | none => none) else if Nat.beq j 9 = true then (match dec st l9.inS [] with | some x => runL (B9 n) (contsOf k l9.outs) n x | none => none) else none
theorem d4 (n : Nat) : LoopDef Tryz.prog (T n) (TL n) Tryz.f47 4 :=
  ⟨l4, fun R => B4 n, n, fun R st k => by kernel_rfl, fun R next cs x => by kernel_rfl⟩
theorem d9 (n : Nat) : LoopDef Tryz.prog (T n) (TL n) Tryz.f47 9 :=
  ⟨l9, fun R => B9 n, n, fun R st k => by kernel_rfl, fun R next cs x => by kernel_rfl⟩
theorem con (n : Nat) : Con Tryz.prog 47 (sig n) :=
  con_print (hsw := rfl) (hsx := rfl) (T := T n) (TL := TL n) (c := Tryz.f47.body.getD .skip) (js := [4, 9]) hMixed (conT_cons (spec_l1NameOk.con n) (conT_cons (spec_l1In.con n) (conT_cons (spec_l1Byte.con n) conT_none))) Tryz.func47 (by decide) (by kernel_rfl) (by kernel_rfl) (by decide) (LoopDef.cons (d4 n) (LoopDef.cons (d9 n) LoopDef.nil)) (fun x => by kernel_rfl)
end spec_l4RuleOk
namespace spec_l8AskOk
def f (n : Nat) (x : Tup [tGateLaw, tGateAsk]) : Option (Tup [.bool]) :=
  (spec_l1NameOk.f n (x.2.1.1, ())).bind fun y1 =>
 (if (!(!y1.1)) = true then (spec_l1In.f n (x.2.1.2.1, (1 : Int), (6 : Int), ())) else some (tzero [.bool])).bind fun y2 =>
 (if (!((!y1.1) || (!y2.1))) = true then (spec_l8Rest.f n (x.2.1, ())) else some (tzero [tGateAsk])).bind fun y3 =>
 (if (!((!y1.1) || (!y2.1))) = true then (spec_l8Nothing.f n (y3.1, ())) else some (tzero [.bool])).bind fun y4 =>
 if (((!y1.1) || (!y2.1)) || (!y4.1)) = true then
   some (false, ())
 else
   (spec_l1Shape.f n (x.1.1, x.2.1.2.2.1, ())).bind fun y5 =>
 (if ((decide (x.2.1.2.1 ≤ (4 : Int))) && (!(decide (y5.1 < (0 : Int))))) = true then (spec_l1NameOk.f n (x.2.1.2.2.2.1, ())) else some (tzero [.bool])).bind fun y6 =>
 if ((decide (x.2.1.2.1 ≤ (4 : Int))) && ((decide (y5.1 < (0 : Int))) || (!y6.1))) = true then
 some (false, ())
 else if (x.2.1.2.1 == (1 : Int)) = true then
 if (!true || (decide (0 ≤ y5.1 ∧ y5.1 < (List.length x.1.1 : Int)))) = true then
   (if ((List.length x.2.1.2.2.2.2.2.1 : Int) == (List.length (List.getD x.1.1 (Int.toNat y5.1) (Ty.zero tGateShape)).2.1 : Int)) = true then (spec_l4Team.f n (x.1.2.2.1, x.2.1.2.2.2.2.1, ())) else some (tzero [.bool])).bind fun y7 =>
 (if ((((List.length x.2.1.2.2.2.2.2.1 : Int) == (List.length (List.getD x.1.1 (Int.toNat y5.1) (Ty.zero tGateShape)).2.1 : Int)) && y7.1) && (decide ((List.length x.2.1.2.2.2.2.2.2.1 : Int) ≤ (3 : Int)))) = true then (spec_l1Ascending.f n (x.2.1.2.2.2.2.2.2.1, ())) else some (tzero [.bool])).bind fun y8 =>
 some ((((((List.length x.2.1.2.2.2.2.2.1 : Int) == (List.length (List.getD x.1.1 (Int.toNat y5.1) (Ty.zero tGateShape)).2.1 : Int)) && y7.1) && (decide ((List.length x.2.1.2.2.2.2.2.2.1 : Int) ≤ (3 : Int)))) && y8.1), ())
 else
   none
 else if (x.2.1.2.1 == (2 : Int)) = true then
 if (!true || (decide (0 ≤ y5.1 ∧ y5.1 < (List.length x.1.1 : Int)))) = true then
   some ((((List.length x.2.1.2.2.2.2.2.1 : Int) == (List.length (List.getD x.1.1 (Int.toNat y5.1) (Ty.zero tGateShape)).2.1 : Int)) && (decide (x.2.1.2.2.2.2.2.2.2.1 ≥ (0 : Int)))), ())
 else
   none
 else if (x.2.1.2.1 == (3 : Int)) = true then
 some ((decide (x.2.1.2.2.2.2.2.2.2.1 ≥ (0 : Int))), ())
 else if (x.2.1.2.1 == (4 : Int)) = true then
 (spec_l1NameOk.f n (x.2.1.2.2.2.2.2.2.2.2.1, ())).bind fun y9 =>
 some (y9.1, ())
 else if (x.2.1.2.1 == (5 : Int)) = true then
   (spec_l1NameOk.f n (x.2.1.2.2.2.2.2.2.2.2.2.1, ())).bind fun y10 =>
 (if y10.1 = true then (spec_l4RuleOk.f n (x.2.1.2.2.2.2.2.2.2.2.2.2.1, ())) else some (tzero [.bool])).bind fun y11 =>
 some ((y10.1 && y11.1), ())
 else
   some ((decide (x.2.1.2.2.2.2.2.2.2.2.2.2.2.1 ≥ (1 : Int))), ())
@[reducible] def sig (n : Nat) : Sig := ⟨[tGateLaw, tGateAsk], [.bool], false, f n, none, none⟩
def T (n : Nat) : FuncId → Option Sig := fun g => if Nat.beq g 40 = true then some (spec_l1NameOk.sig n) else if Nat.beq g 41 = true then some (spec_l1In.sig n) else if Nat.beq g 42 = true then some (spec_l8Nothing.sig n) else if Nat.beq g 43 = true then some (spec_l8Rest.sig n) else if Nat.beq g 44 = true then some (spec_l1Shape.sig n) else if Nat.beq g 45 = true then some (spec_l4Team.sig n) else if Nat.beq g 46 = true then some (spec_l1Ascending.sig n) else if Nat.beq g 47 = true then some (spec_l4RuleOk.sig n) else none
def TL (n : Nat) : Loops := fun j _ st k => none
theorem con (n : Nat) : Con Tryz.prog 18 (sig n) :=
  con_print (hsw := rfl) (hsx := rfl) (T := T n) (TL := TL n) (c := Tryz.f18.body.getD .skip) (js := []) hMixed (conT_cons (spec_l1NameOk.con n) (conT_cons (spec_l1In.con n) (conT_cons (spec_l8Nothing.con n) (conT_cons (spec_l8Rest.con n) (conT_cons (spec_l1Shape.con n) (conT_cons (spec_l4Team.con n) (conT_cons (spec_l1Ascending.con n) (conT_cons (spec_l4RuleOk.con n) conT_none)))))))) Tryz.func18 (by decide) (by kernel_rfl) (by kernel_rfl) (by decide) LoopDef.nil (fun x => by kernel_rfl)
end spec_l8AskOk
namespace spec_GateAskOk
def f (n : Nat) (x : Tup [tGateLaw, tGateAsk]) : Option (Tup [.bool]) :=
  (spec_GateLawOk.f n (x.1, ())).bind fun y1 =>
 (if y1.1 = true then (spec_l8AskOk.f n (x.1, x.2.1, ())) else some (tzero [.bool])).bind fun y2 =>
 some ((y1.1 && y2.1), ())
@[reducible] def sig (n : Nat) : Sig := ⟨[tGateLaw, tGateAsk], [.bool], false, f n, none, none⟩
def T (n : Nat) : FuncId → Option Sig := fun g => if Nat.beq g 17 = true then some (spec_GateLawOk.sig n) else if Nat.beq g 18 = true then some (spec_l8AskOk.sig n) else none
def TL (n : Nat) : Loops := fun j _ st k => none
theorem con (n : Nat) : Con Tryz.prog 6 (sig n) :=
  con_print (hsw := rfl) (hsx := rfl) (T := T n) (TL := TL n) (c := Tryz.f6.body.getD .skip) (js := []) hMixed (conT_cons (spec_GateLawOk.con n) (conT_cons (spec_l8AskOk.con n) conT_none)) Tryz.func6 (by decide) (by kernel_rfl) (by kernel_rfl) (by decide) LoopDef.nil (fun x => by kernel_rfl)
end spec_GateAskOk
namespace impl_nameByte
def f (n : Nat) (x : Tup [(.int .u8)]) : Option (Tup [.bool]) :=
  some (((((decide (x.1 ≥ (97 : Int))) && (decide (x.1 ≤ (122 : Int)))) || ((decide (x.1 ≥ (48 : Int))) && (decide (x.1 ≤ (57 : Int))))) || (x.1 == (45 : Int))), ())
@[reducible] def sig (n : Nat) : Sig := ⟨[(.int .u8)], [.bool], false, f n, none, none⟩
def T (n : Nat) : FuncId → Option Sig := fun g => none
def TL (n : Nat) : Loops := fun j _ st k => none
theorem con (n : Nat) : Con Tryz.prog 71 (sig n) :=
  con_print (hsw := rfl) (hsx := rfl) (T := T n) (TL := TL n) (c := Tryz.f71.body.getD .skip) (js := []) hMixed conT_none Tryz.func71 (by decide) (by kernel_rfl) (by kernel_rfl) (by decide) LoopDef.nil (fun x => by kernel_rfl)
end impl_nameByte
namespace impl_nameBytes
@[reducible] def l2 : LSpec := ⟨[(0, .d .str), (5, .d (.int .i64)), (6, .d (.int .i64))], [(.ret, [(2, .d .bool)]), (.exit 0, [])]⟩
def B2 (n : Nat) {R : Type} (next : Sden l2.inS → Option R) (cs : Conts R l2.outs) (x : Sden l2.inS) : Option R :=
  if (decide (x.2.2.1 < x.2.1)) = true then
   if (decide (0 ≤ x.2.2.1 ∧ x.2.2.1 < (ByteArray.size x.1 : Int))) = true then
   (impl_nameByte.f n ((byteAt x.1 x.2.2.1), ())).bind fun y1 =>
 if (!y1.1) = true then
   cs.1 (false, ())
 else
   next (x.1, x.2.1, (IntKind.i64.wrap (x.2.2.1 + (1 : Int))), ())
 else
   none
 else
   cs.2.1 ()
def f (n : Nat) (x : Tup [.str]) : Option (Tup [.bool]) :=
  runL (B2 n) ((fun z2 =>
     some (z2.1, ())), (fun z3 =>
     some (true, ())), ()) n (x.1, (ByteArray.size x.1 : Int), (0 : Int), ())
@[reducible] def sig (n : Nat) : Sig := ⟨[.str], [.bool], false, f n, none, none⟩
def T (n : Nat) : FuncId → Option Sig := fun g => if Nat.beq g 71 = true then some (impl_nameByte.sig n) else none
def TL (n : Nat) : Loops := fun j _ st k => if Nat.beq j 2 = true then (match dec st l2.inS [] with | some x => runL (B2 n) (contsOf k l2.outs) n x | none => none) else none
theorem d2 (n : Nat) : LoopDef Tryz.prog (T n) (TL n) Tryz.f54 2 :=
  ⟨l2, fun R => B2 n, n, fun R st k => by kernel_rfl, fun R next cs x => by kernel_rfl⟩
theorem con (n : Nat) : Con Tryz.prog 54 (sig n) :=
  con_print (hsw := rfl) (hsx := rfl) (T := T n) (TL := TL n) (c := Tryz.f54.body.getD .skip) (js := [2]) hMixed (conT_cons (impl_nameByte.con n) conT_none) Tryz.func54 (by decide) (by kernel_rfl) (by kernel_rfl) (by decide) (LoopDef.cons (d2 n) LoopDef.nil) (fun x => by kernel_rfl)
end impl_nameBytes
namespace impl_isName
def f (n : Nat) (x : Tup [.str]) : Option (Tup [.bool]) :=
  (if ((decide ((ByteArray.size x.1 : Int) ≥ (1 : Int))) && (decide ((ByteArray.size x.1 : Int) ≤ (16 : Int)))) = true then (impl_nameBytes.f n (x.1, ())) else some (tzero [.bool])).bind fun y1 =>
 some ((((decide ((ByteArray.size x.1 : Int) ≥ (1 : Int))) && (decide ((ByteArray.size x.1 : Int) ≤ (16 : Int)))) && y1.1), ())
@[reducible] def sig (n : Nat) : Sig := ⟨[.str], [.bool], false, f n, none, none⟩
def T (n : Nat) : FuncId → Option Sig := fun g => if Nat.beq g 54 = true then some (impl_nameBytes.sig n) else none
def TL (n : Nat) : Loops := fun j _ st k => none
theorem con (n : Nat) : Con Tryz.prog 25 (sig n) :=
  con_print (hsw := rfl) (hsx := rfl) (T := T n) (TL := TL n) (c := Tryz.f25.body.getD .skip) (js := []) hMixed (conT_cons (impl_nameBytes.con n) conT_none) Tryz.func25 (by decide) (by kernel_rfl) (by kernel_rfl) (by decide) LoopDef.nil (fun x => by kernel_rfl)
end impl_isName
namespace impl_ascendingNames
@[reducible] def l2 : LSpec := ⟨[(0, .d (.slice .str)), (5, .d (.slice .str)), (6, .d (.int .i64)), (7, .d (.int .i64))], [(.ret, [(2, .d .bool)]), (.exit 0, [])]⟩
def B2 (n : Nat) {R : Type} (next : Sden l2.inS → Option R) (cs : Conts R l2.outs) (x : Sden l2.inS) : Option R :=
  if (decide (x.2.2.2.1 < x.2.2.1)) = true then
   if (decide (0 ≤ x.2.2.2.1 ∧ x.2.2.2.1 < (List.length x.2.1 : Int))) = true then
   (impl_isName.f n ((List.getD x.2.1 (Int.toNat x.2.2.2.1) (⟨#[]⟩ : ByteArray)), ())).bind fun y1 =>
 if (!((!(!y1.1)) && (decide (x.2.2.2.1 > (0 : Int)))) || (decide (0 ≤ (IntKind.i64.wrap (x.2.2.2.1 - (1 : Int))) ∧ (IntKind.i64.wrap (x.2.2.2.1 - (1 : Int))) < (List.length x.1 : Int)))) = true then
   if ((!y1.1) || ((decide (x.2.2.2.1 > (0 : Int))) && (!slt (List.getD x.1 (Int.toNat (IntKind.i64.wrap (x.2.2.2.1 - (1 : Int)))) (⟨#[]⟩ : ByteArray)) (List.getD x.2.1 (Int.toNat x.2.2.2.1) (⟨#[]⟩ : ByteArray))))) = true then
   cs.1 (false, ())
 else
   next (x.1, x.2.1, x.2.2.1, (IntKind.i64.wrap (x.2.2.2.1 + (1 : Int))), ())
 else
   none
 else
   none
 else
   cs.2.1 ()
def f (n : Nat) (x : Tup [(.slice .str)]) : Option (Tup [.bool]) :=
  runL (B2 n) ((fun z2 =>
     some (z2.1, ())), (fun z3 =>
     some (true, ())), ()) n (x.1, x.1, (List.length x.1 : Int), (0 : Int), ())
@[reducible] def sig (n : Nat) : Sig := ⟨[(.slice .str)], [.bool], false, f n, none, none⟩
def T (n : Nat) : FuncId → Option Sig := fun g => if Nat.beq g 25 = true then some (impl_isName.sig n) else none
def TL (n : Nat) : Loops := fun j _ st k => if Nat.beq j 2 = true then (match dec st l2.inS [] with | some x => runL (B2 n) (contsOf k l2.outs) n x | none => none) else none
theorem d2 (n : Nat) : LoopDef Tryz.prog (T n) (TL n) Tryz.f81 2 :=
  ⟨l2, fun R => B2 n, n, fun R st k => by kernel_rfl, fun R next cs x => by kernel_rfl⟩
theorem con (n : Nat) : Con Tryz.prog 81 (sig n) :=
  con_print (hsw := rfl) (hsx := rfl) (T := T n) (TL := TL n) (c := Tryz.f81.body.getD .skip) (js := [2]) hMixed (conT_cons (impl_isName.con n) conT_none) Tryz.func81 (by decide) (by kernel_rfl) (by kernel_rfl) (by decide) (LoopDef.cons (d2 n) LoopDef.nil) (fun x => by kernel_rfl)
end impl_ascendingNames
namespace impl_sortOf
def f (n : Nat) (x : Ty.den tGateField) (q : Tup []) : Option (Ty.den tGateField × Tup [(.int .i64), .bool]) := some (x, (place4 x.2.1, decide (0 ≤ place4 x.2.1), ()))
@[reducible] def sig (n : Nat) : Sig := ⟨[], [], false, fun _ => none, some ⟨.unit, [], [], fun _ _ => none, some ⟨false, none, some [146, 148, 149, 150], tGateField, [], tGateField, [(.int .i64), .bool], f n⟩, none⟩, none⟩
theorem mk0 : MakerOk Tryz.prog 126 146 141 11 93 :=
  maker_of (by kernel_rfl) Tryz.func93 (by kernel_rfl) (by kernel_rfl) (by kernel_rfl) (by decide)
theorem mk1 : MakerOk Tryz.prog 126 148 141 11 94 :=
  maker_of (by kernel_rfl) Tryz.func94 (by kernel_rfl) (by kernel_rfl) (by kernel_rfl) (by decide)
theorem mk2 : MakerOk Tryz.prog 126 149 141 11 95 :=
  maker_of (by kernel_rfl) Tryz.func95 (by kernel_rfl) (by kernel_rfl) (by kernel_rfl) (by decide)
theorem mk3 : MakerOk Tryz.prog 126 150 141 11 96 :=
  maker_of (by kernel_rfl) Tryz.func96 (by kernel_rfl) (by kernel_rfl) (by kernel_rfl) (by decide)
theorem con (n : Nat) : Con Tryz.prog 91 (sig n) :=
  con_pick (tF := 126) (tK := 3) (tM := 151) (tR := 152) (tE := 147) (tI := 141) (tB := 4) (fld := 1) (off := 1) (n := 11) (g := fun j => ([93, 94, 95, 96] : List Nat).getD j 0) (tS := fun j => ([146, 148, 149, 150] : List Nat).getD j 0) (L := posOf (Tryz.f91.body.getD .skip)) (pick_of (by kernel_rfl)) Tryz.func91 (by decide) (by kernel_rfl) (by kernel_rfl) (by kernel_rfl) (fun j hj => match j, hj with | 0, _ => mk0 | 1, _ => mk1 | 2, _ => mk2 | 3, _ => mk3) (t := tGateField) (by kernel_rfl) (by kernel_rfl) (fun x => x.2.1) (fun x => by kernel_rfl)
end impl_sortOf
namespace impl_numberField_clean
def f (n : Nat) (x : Tup [tnumberField]) : Option (Tup [.bool]) :=
  some (((((List.length x.1.1.2.2.2.2.1 : Int) == (0 : Int)) && (seq x.1.1.2.2.2.2.2.1 (⟨#[]⟩ : ByteArray))) && (x.1.1.2.2.2.2.2.2.1 == (0 : Int))), ())
@[reducible] def sig (n : Nat) : Sig := ⟨[tnumberField], [.bool], false, f n, none, none⟩
def T (n : Nat) : FuncId → Option Sig := fun g => none
def TL (n : Nat) : Loops := fun j _ st k => none
theorem con (n : Nat) : Con Tryz.prog 134 (sig n) :=
  con_print (hsw := rfl) (hsx := rfl) (T := T n) (TL := TL n) (c := Tryz.f134.body.getD .skip) (js := []) hMixed conT_none Tryz.func134 (by decide) (by kernel_rfl) (by kernel_rfl) (by decide) LoopDef.nil (fun x => by kernel_rfl)
end impl_numberField_clean
namespace impl_wordField_clean
def f (n : Nat) (x : Tup [tnumberField]) : Option (Tup [.bool]) :=
  some ((((((x.1.1.2.2.1 == (0 : Int)) && (x.1.1.2.2.2.1 == (0 : Int))) && (seq x.1.1.2.2.2.2.2.1 (⟨#[]⟩ : ByteArray))) && (x.1.1.2.2.2.2.2.2.1 == (0 : Int))) && (seq x.1.1.2.2.2.2.2.2.2.2.2.2.1 (⟨#[]⟩ : ByteArray))), ())
@[reducible] def sig (n : Nat) : Sig := ⟨[tnumberField], [.bool], false, f n, none, none⟩
def T (n : Nat) : FuncId → Option Sig := fun g => none
def TL (n : Nat) : Loops := fun j _ st k => none
theorem con (n : Nat) : Con Tryz.prog 138 (sig n) :=
  con_print (hsw := rfl) (hsx := rfl) (T := T n) (TL := TL n) (c := Tryz.f138.body.getD .skip) (js := []) hMixed conT_none Tryz.func138 (by decide) (by kernel_rfl) (by kernel_rfl) (by decide) LoopDef.nil (fun x => by kernel_rfl)
end impl_wordField_clean
namespace impl_textField_clean
def f (n : Nat) (x : Tup [tnumberField]) : Option (Tup [.bool]) :=
  some ((((((List.length x.1.1.2.2.2.2.1 : Int) == (0 : Int)) && (seq x.1.1.2.2.2.2.2.1 (⟨#[]⟩ : ByteArray))) && (x.1.1.2.2.2.2.2.2.1 == (0 : Int))) && (seq x.1.1.2.2.2.2.2.2.2.2.2.2.1 (⟨#[]⟩ : ByteArray))), ())
@[reducible] def sig (n : Nat) : Sig := ⟨[tnumberField], [.bool], false, f n, none, none⟩
def T (n : Nat) : FuncId → Option Sig := fun g => none
def TL (n : Nat) : Loops := fun j _ st k => none
theorem con (n : Nat) : Con Tryz.prog 141 (sig n) :=
  con_print (hsw := rfl) (hsx := rfl) (T := T n) (TL := TL n) (c := Tryz.f141.body.getD .skip) (js := []) hMixed conT_none Tryz.func141 (by decide) (by kernel_rfl) (by kernel_rfl) (by decide) LoopDef.nil (fun x => by kernel_rfl)
end impl_textField_clean
namespace impl_linkField_clean
def f (n : Nat) (x : Tup [tnumberField]) : Option (Tup [.bool]) :=
  some (((((x.1.1.2.2.1 == (0 : Int)) && (x.1.1.2.2.2.1 == (0 : Int))) && ((List.length x.1.1.2.2.2.2.1 : Int) == (0 : Int))) && (seq x.1.1.2.2.2.2.2.2.2.2.2.2.1 (⟨#[]⟩ : ByteArray))), ())
@[reducible] def sig (n : Nat) : Sig := ⟨[tnumberField], [.bool], false, f n, none, none⟩
def T (n : Nat) : FuncId → Option Sig := fun g => none
def TL (n : Nat) : Loops := fun j _ st k => none
theorem con (n : Nat) : Con Tryz.prog 144 (sig n) :=
  con_print (hsw := rfl) (hsx := rfl) (T := T n) (TL := TL n) (c := Tryz.f144.body.getD .skip) (js := []) hMixed conT_none Tryz.func144 (by decide) (by kernel_rfl) (by kernel_rfl) (by decide) LoopDef.nil (fun x => by kernel_rfl)
end impl_linkField_clean
namespace impl_numberField_sound
def f (n : Nat) (x : Tup [tnumberField, (.slice .str)]) : Option (Tup [.bool]) :=
  (if ((((decide (x.1.1.2.2.1 ≥ (0 : Int))) && (decide (x.1.1.2.2.1 ≤ x.1.1.2.2.2.1))) && (decide (x.1.1.2.2.2.1 ≤ (1000000 : Int)))) && (!(seq x.1.1.2.2.2.2.2.2.2.2.2.2.1 (⟨#[]⟩ : ByteArray)))) = true then (impl_isName.f n (x.1.1.2.2.2.2.2.2.2.2.2.2.1, ())) else some (tzero [.bool])).bind fun y1 =>
 some (((((decide (x.1.1.2.2.1 ≥ (0 : Int))) && (decide (x.1.1.2.2.1 ≤ x.1.1.2.2.2.1))) && (decide (x.1.1.2.2.2.1 ≤ (1000000 : Int)))) && ((seq x.1.1.2.2.2.2.2.2.2.2.2.2.1 (⟨#[]⟩ : ByteArray)) || y1.1)), ())
@[reducible] def sig (n : Nat) : Sig := ⟨[tnumberField, (.slice .str)], [.bool], false, f n, none, none⟩
def T (n : Nat) : FuncId → Option Sig := fun g => if Nat.beq g 25 = true then some (impl_isName.sig n) else none
def TL (n : Nat) : Loops := fun j _ st k => none
theorem con (n : Nat) : Con Tryz.prog 136 (sig n) :=
  con_print (hsw := rfl) (hsx := rfl) (T := T n) (TL := TL n) (c := Tryz.f136.body.getD .skip) (js := []) hMixed (conT_cons (impl_isName.con n) conT_none) Tryz.func136 (by decide) (by kernel_rfl) (by kernel_rfl) (by decide) LoopDef.nil (fun x => by kernel_rfl)
end impl_numberField_sound
namespace impl_wordField_sound
def f (n : Nat) (x : Tup [tnumberField, (.slice .str)]) : Option (Tup [.bool]) :=
  (if ((decide ((List.length x.1.1.2.2.2.2.1 : Int) ≥ (1 : Int))) && (decide ((List.length x.1.1.2.2.2.2.1 : Int) ≤ (6 : Int)))) = true then (impl_ascendingNames.f n (x.1.1.2.2.2.2.1, ())) else some (tzero [.bool])).bind fun y1 =>
 some ((((decide ((List.length x.1.1.2.2.2.2.1 : Int) ≥ (1 : Int))) && (decide ((List.length x.1.1.2.2.2.2.1 : Int) ≤ (6 : Int)))) && y1.1), ())
@[reducible] def sig (n : Nat) : Sig := ⟨[tnumberField, (.slice .str)], [.bool], false, f n, none, none⟩
def T (n : Nat) : FuncId → Option Sig := fun g => if Nat.beq g 81 = true then some (impl_ascendingNames.sig n) else none
def TL (n : Nat) : Loops := fun j _ st k => none
theorem con (n : Nat) : Con Tryz.prog 140 (sig n) :=
  con_print (hsw := rfl) (hsx := rfl) (T := T n) (TL := TL n) (c := Tryz.f140.body.getD .skip) (js := []) hMixed (conT_cons (impl_ascendingNames.con n) conT_none) Tryz.func140 (by decide) (by kernel_rfl) (by kernel_rfl) (by decide) LoopDef.nil (fun x => by kernel_rfl)
end impl_wordField_sound
namespace impl_textField_sound
def f (n : Nat) (x : Tup [tnumberField, (.slice .str)]) : Option (Tup [.bool]) :=
  some ((((decide (x.1.1.2.2.1 ≥ (1 : Int))) && (decide (x.1.1.2.2.1 ≤ x.1.1.2.2.2.1))) && (decide (x.1.1.2.2.2.1 ≤ (40 : Int)))), ())
@[reducible] def sig (n : Nat) : Sig := ⟨[tnumberField, (.slice .str)], [.bool], false, f n, none, none⟩
def T (n : Nat) : FuncId → Option Sig := fun g => none
def TL (n : Nat) : Loops := fun j _ st k => none
theorem con (n : Nat) : Con Tryz.prog 143 (sig n) :=
  con_print (hsw := rfl) (hsx := rfl) (T := T n) (TL := TL n) (c := Tryz.f143.body.getD .skip) (js := []) hMixed conT_none Tryz.func143 (by decide) (by kernel_rfl) (by kernel_rfl) (by decide) LoopDef.nil (fun x => by kernel_rfl)
end impl_textField_sound
namespace impl_linkField_sound
@[reducible] def l3 : LSpec := ⟨[(2, .rb tnumberField), (5, .d .bool), (8, .d (.slice .str)), (9, .d (.int .i64)), (10, .d (.int .i64))], [(.exit 0, [(2, .rb tnumberField), (5, .d .bool)])]⟩
def B3 (n : Nat) {R : Type} (next : Sden l3.inS → Option R) (cs : Conts R l3.outs) (x : Sden l3.inS) : Option R :=
  if (decide (x.2.2.2.2.1 < x.2.2.2.1)) = true then
   if (decide (0 ≤ x.2.2.2.2.1 ∧ x.2.2.2.2.1 < (List.length x.2.2.1 : Int))) = true then
   next (x.1, (x.2.1 || (seq (List.getD x.2.2.1 (Int.toNat x.2.2.2.2.1) (⟨#[]⟩ : ByteArray)) x.1.1.2.2.2.2.2.1)), x.2.2.1, x.2.2.2.1, (IntKind.i64.wrap (x.2.2.2.2.1 + (1 : Int))), ())
 else
   none
 else
   cs.1 (x.1, x.2.1, ())
def f (n : Nat) (x : Tup [tnumberField, (.slice .str)]) : Option (Tup [.bool]) :=
  runL (B3 n) ((fun z1 =>
     some (((((z1.2.1 && (decide (z1.1.1.2.2.2.2.2.2.1 ≥ (1 : Int)))) && (decide (z1.1.1.2.2.2.2.2.2.1 ≤ (3 : Int)))) && (seq z1.1.1.2.2.2.2.2.2.2.2.2.1 (⟨#[]⟩ : ByteArray))) && (!((z1.1.1.2.2.2.2.2.2.1 == (2 : Int)) && z1.1.1.2.2.2.2.2.2.2.1))), ())), ()) n (x.1, false, x.2.1, (List.length x.2.1 : Int), (0 : Int), ())
@[reducible] def sig (n : Nat) : Sig := ⟨[tnumberField, (.slice .str)], [.bool], false, f n, none, none⟩
def T (n : Nat) : FuncId → Option Sig := fun g => none
def TL (n : Nat) : Loops := fun j _ st k => if Nat.beq j 3 = true then (match dec st l3.inS [] with | some x => runL (B3 n) (contsOf k l3.outs) n x | none => none) else none
theorem d3 (n : Nat) : LoopDef Tryz.prog (T n) (TL n) Tryz.f146 3 :=
  ⟨l3, fun R => B3 n, n, fun R st k => by kernel_rfl, fun R next cs x => by kernel_rfl⟩
theorem con (n : Nat) : Con Tryz.prog 146 (sig n) :=
  con_print (hsw := rfl) (hsx := rfl) (T := T n) (TL := TL n) (c := Tryz.f146.body.getD .skip) (js := [3]) hMixed conT_none Tryz.func146 (by decide) (by kernel_rfl) (by kernel_rfl) (by decide) (LoopDef.cons (d3 n) LoopDef.nil) (fun x => by kernel_rfl)
end impl_linkField_sound
namespace impl_decimal
@[reducible] def l5 : LSpec := ⟨[(0, .d .str), (4, .d (.int .i64)), (25, .d (.int .i64)), (26, .d (.int .i64))], [(.ret, [(2, .d (.int .i64)), (3, .d .bool)]), (.exit 0, [(4, .d (.int .i64))])]⟩
def B5 (n : Nat) {R : Type} (next : Sden l5.inS → Option R) (cs : Conts R l5.outs) (x : Sden l5.inS) : Option R :=
  if (decide (x.2.2.2.1 < x.2.2.1)) = true then
   if (decide (0 ≤ x.2.2.2.1 ∧ x.2.2.2.1 < (ByteArray.size x.1 : Int))) = true then
   if (!(!(decide ((byteAt x.1 x.2.2.2.1) < (48 : Int)))) || (decide (0 ≤ x.2.2.2.1 ∧ x.2.2.2.1 < (ByteArray.size x.1 : Int)))) = true then
   if ((decide ((byteAt x.1 x.2.2.2.1) < (48 : Int))) || (decide ((byteAt x.1 x.2.2.2.1) > (57 : Int)))) = true then
 cs.1 ((0 : Int), false, ())
 else if (decide (0 ≤ x.2.2.2.1 ∧ x.2.2.2.1 < (ByteArray.size x.1 : Int))) = true then
   next (x.1, (IntKind.i64.wrap ((IntKind.i64.wrap (x.2.1 * (10 : Int))) + (IntKind.i64.wrap (IntKind.u8.wrap ((byteAt x.1 x.2.2.2.1) - (48 : Int)))))), x.2.2.1, (IntKind.i64.wrap (x.2.2.2.1 + (1 : Int))), ())
 else
   none
 else
   none
 else
   none
 else
   cs.2.1 (x.2.1, ())
def f (n : Nat) (x : Tup [.str]) : Option (Tup [(.int .i64), .bool]) :=
  if (!(!((decide ((ByteArray.size x.1 : Int) < (1 : Int))) || (decide ((ByteArray.size x.1 : Int) > (7 : Int))))) || (decide (0 ≤ (0 : Int) ∧ (0 : Int) < (ByteArray.size x.1 : Int)))) = true then
   if (((decide ((ByteArray.size x.1 : Int) < (1 : Int))) || (decide ((ByteArray.size x.1 : Int) > (7 : Int)))) || (((byteAt x.1 (0 : Int)) == (48 : Int)) && (decide ((ByteArray.size x.1 : Int) > (1 : Int))))) = true then
   some ((0 : Int), false, ())
 else
   runL (B5 n) ((fun z1 =>
     some (z1.1, z1.2.1, ())), (fun z2 =>
     some (z2.1, true, ())), ()) n (x.1, (0 : Int), (ByteArray.size x.1 : Int), (0 : Int), ())
 else
   none
@[reducible] def sig (n : Nat) : Sig := ⟨[.str], [(.int .i64), .bool], false, f n, none, none⟩
def T (n : Nat) : FuncId → Option Sig := fun g => none
def TL (n : Nat) : Loops := fun j _ st k => if Nat.beq j 5 = true then (match dec st l5.inS [] with | some x => runL (B5 n) (contsOf k l5.outs) n x | none => none) else none
theorem d5 (n : Nat) : LoopDef Tryz.prog (T n) (TL n) Tryz.f137 5 :=
  ⟨l5, fun R => B5 n, n, fun R st k => by kernel_rfl, fun R next cs x => by kernel_rfl⟩
theorem con (n : Nat) : Con Tryz.prog 137 (sig n) :=
  con_print (hsw := rfl) (hsx := rfl) (T := T n) (TL := TL n) (c := Tryz.f137.body.getD .skip) (js := [5]) hMixed conT_none Tryz.func137 (by decide) (by kernel_rfl) (by kernel_rfl) (by decide) (LoopDef.cons (d5 n) LoopDef.nil) (fun x => by kernel_rfl)
end impl_decimal
namespace impl_numberField_fits
def f (n : Nat) (x : Tup [tnumberField, .str]) : Option (Tup [.bool]) :=
  (impl_decimal.f n (x.2.1, ())).bind fun y1 =>
 some (((y1.2.1 && (decide (y1.1 ≥ x.1.1.2.2.1))) && (decide (y1.1 ≤ x.1.1.2.2.2.1))), ())
@[reducible] def sig (n : Nat) : Sig := ⟨[tnumberField, .str], [.bool], false, f n, none, none⟩
def T (n : Nat) : FuncId → Option Sig := fun g => if Nat.beq g 137 = true then some (impl_decimal.sig n) else none
def TL (n : Nat) : Loops := fun j _ st k => none
theorem con (n : Nat) : Con Tryz.prog 135 (sig n) :=
  con_print (hsw := rfl) (hsx := rfl) (T := T n) (TL := TL n) (c := Tryz.f135.body.getD .skip) (js := []) hMixed (conT_cons (impl_decimal.con n) conT_none) Tryz.func135 (by decide) (by kernel_rfl) (by kernel_rfl) (by decide) LoopDef.nil (fun x => by kernel_rfl)
end impl_numberField_fits
namespace impl_wordField_fits
@[reducible] def l2 : LSpec := ⟨[(1, .d .str), (9, .d (.slice .str)), (10, .d (.int .i64)), (11, .d (.int .i64))], [(.ret, [(4, .d .bool)]), (.exit 0, [])]⟩
def B2 (n : Nat) {R : Type} (next : Sden l2.inS → Option R) (cs : Conts R l2.outs) (x : Sden l2.inS) : Option R :=
  if (decide (x.2.2.2.1 < x.2.2.1)) = true then
   if (decide (0 ≤ x.2.2.2.1 ∧ x.2.2.2.1 < (List.length x.2.1 : Int))) = true then
   if (seq (List.getD x.2.1 (Int.toNat x.2.2.2.1) (⟨#[]⟩ : ByteArray)) x.1) = true then
   cs.1 (true, ())
 else
   next (x.1, x.2.1, x.2.2.1, (IntKind.i64.wrap (x.2.2.2.1 + (1 : Int))), ())
 else
   none
 else
   cs.2.1 ()
def f (n : Nat) (x : Tup [tnumberField, .str]) : Option (Tup [.bool]) :=
  runL (B2 n) ((fun z1 =>
     some (z1.1, ())), (fun z2 =>
     some (false, ())), ()) n (x.2.1, x.1.1.2.2.2.2.1, (List.length x.1.1.2.2.2.2.1 : Int), (0 : Int), ())
@[reducible] def sig (n : Nat) : Sig := ⟨[tnumberField, .str], [.bool], false, f n, none, none⟩
def T (n : Nat) : FuncId → Option Sig := fun g => none
def TL (n : Nat) : Loops := fun j _ st k => if Nat.beq j 2 = true then (match dec st l2.inS [] with | some x => runL (B2 n) (contsOf k l2.outs) n x | none => none) else none
theorem d2 (n : Nat) : LoopDef Tryz.prog (T n) (TL n) Tryz.f139 2 :=
  ⟨l2, fun R => B2 n, n, fun R st k => by kernel_rfl, fun R next cs x => by kernel_rfl⟩
theorem con (n : Nat) : Con Tryz.prog 139 (sig n) :=
  con_print (hsw := rfl) (hsx := rfl) (T := T n) (TL := TL n) (c := Tryz.f139.body.getD .skip) (js := [2]) hMixed conT_none Tryz.func139 (by decide) (by kernel_rfl) (by kernel_rfl) (by decide) (LoopDef.cons (d2 n) LoopDef.nil) (fun x => by kernel_rfl)
end impl_wordField_fits
namespace impl_textField_fits
@[reducible] def l4 : LSpec := ⟨[(1, .d .str), (21, .d (.int .i64)), (22, .d (.int .i64))], [(.ret, [(4, .d .bool)]), (.exit 0, [])]⟩
def B4 (n : Nat) {R : Type} (next : Sden l4.inS → Option R) (cs : Conts R l4.outs) (x : Sden l4.inS) : Option R :=
  if (decide (x.2.2.1 < x.2.1)) = true then
   if (decide (0 ≤ x.2.2.1 ∧ x.2.2.1 < (ByteArray.size x.1 : Int))) = true then
   if (!(!(decide ((byteAt x.1 x.2.2.1) < (33 : Int)))) || (decide (0 ≤ x.2.2.1 ∧ x.2.2.1 < (ByteArray.size x.1 : Int)))) = true then
   if ((decide ((byteAt x.1 x.2.2.1) < (33 : Int))) || (decide ((byteAt x.1 x.2.2.1) > (126 : Int)))) = true then
   cs.1 (false, ())
 else
   next (x.1, x.2.1, (IntKind.i64.wrap (x.2.2.1 + (1 : Int))), ())
 else
   none
 else
   none
 else
   cs.2.1 ()
def f (n : Nat) (x : Tup [tnumberField, .str]) : Option (Tup [.bool]) :=
  if ((decide ((ByteArray.size x.2.1 : Int) < x.1.1.2.2.1)) || (decide ((ByteArray.size x.2.1 : Int) > x.1.1.2.2.2.1))) = true then
   some (false, ())
 else
   runL (B4 n) ((fun z1 =>
     some (z1.1, ())), (fun z2 =>
     some (true, ())), ()) n (x.2.1, (ByteArray.size x.2.1 : Int), (0 : Int), ())
@[reducible] def sig (n : Nat) : Sig := ⟨[tnumberField, .str], [.bool], false, f n, none, none⟩
def T (n : Nat) : FuncId → Option Sig := fun g => none
def TL (n : Nat) : Loops := fun j _ st k => if Nat.beq j 4 = true then (match dec st l4.inS [] with | some x => runL (B4 n) (contsOf k l4.outs) n x | none => none) else none
theorem d4 (n : Nat) : LoopDef Tryz.prog (T n) (TL n) Tryz.f142 4 :=
  ⟨l4, fun R => B4 n, n, fun R st k => by kernel_rfl, fun R next cs x => by kernel_rfl⟩
theorem con (n : Nat) : Con Tryz.prog 142 (sig n) :=
  con_print (hsw := rfl) (hsx := rfl) (T := T n) (TL := TL n) (c := Tryz.f142.body.getD .skip) (js := [4]) hMixed conT_none Tryz.func142 (by decide) (by kernel_rfl) (by kernel_rfl) (by decide) (LoopDef.cons (d4 n) LoopDef.nil) (fun x => by kernel_rfl)
end impl_textField_fits
namespace impl_linkField_fits
def f (n : Nat) (x : Tup [tnumberField, .str]) : Option (Tup [.bool]) :=
  (impl_isName.f n (x.2.1, ())).bind fun y1 =>
 some (y1.1, ())
@[reducible] def sig (n : Nat) : Sig := ⟨[tnumberField, .str], [.bool], false, f n, none, none⟩
def T (n : Nat) : FuncId → Option Sig := fun g => if Nat.beq g 25 = true then some (impl_isName.sig n) else none
def TL (n : Nat) : Loops := fun j _ st k => none
theorem con (n : Nat) : Con Tryz.prog 145 (sig n) :=
  con_print (hsw := rfl) (hsx := rfl) (T := T n) (TL := TL n) (c := Tryz.f145.body.getD .skip) (js := []) hMixed (conT_cons (impl_isName.con n) conT_none) Tryz.func145 (by decide) (by kernel_rfl) (by kernel_rfl) (by decide) LoopDef.nil (fun x => by kernel_rfl)
end impl_linkField_fits
namespace impl_GateFits
def f (n : Nat) (x : Tup [tGateField, .str]) : Option (Tup [.bool]) :=
  (impl_sortOf.f n x.1 ()).bind fun y1 =>
 (if (y1.2.2.1 && (!seq x.2.1 (⟨#[]⟩ : ByteArray))) = true then (if (decide (y1.2.1 = 0)) = true then ((impl_numberField_fits.f n ((y1.1, ()), x.2.1, ())).bind fun r => some r.1) else (if (decide ((y1.2.1 - 1) = 0)) = true then ((impl_wordField_fits.f n ((y1.1, ()), x.2.1, ())).bind fun r => some r.1) else (if (decide (((y1.2.1 - 1) - 1) = 0)) = true then ((impl_textField_fits.f n ((y1.1, ()), x.2.1, ())).bind fun r => some r.1) else (if (decide ((((y1.2.1 - 1) - 1) - 1) = 0)) = true then ((impl_linkField_fits.f n ((y1.1, ()), x.2.1, ())).bind fun r => some r.1) else none)))) else some false).bind fun y2 =>
 some (((y1.2.2.1 && (!seq x.2.1 (⟨#[]⟩ : ByteArray))) && y2), ())
@[reducible] def sig (n : Nat) : Sig := ⟨[tGateField, .str], [.bool], false, f n, none, none⟩
def T (n : Nat) : FuncId → Option Sig := fun g => if Nat.beq g 91 = true then some (impl_sortOf.sig n) else if Nat.beq g 135 = true then some (impl_numberField_fits.sig n) else if Nat.beq g 139 = true then some (impl_wordField_fits.sig n) else if Nat.beq g 142 = true then some (impl_textField_fits.sig n) else if Nat.beq g 145 = true then some (impl_linkField_fits.sig n) else none
def TL (n : Nat) : Loops := fun j _ st k => none
theorem con (n : Nat) : Con Tryz.prog 85 (sig n) :=
  con_print (hsw := rfl) (hsx := rfl) (T := T n) (TL := TL n) (c := Tryz.f85.body.getD .skip) (js := []) hMixed (conT_cons (impl_sortOf.con n) (conT_cons (impl_numberField_fits.con n) (conT_cons (impl_wordField_fits.con n) (conT_cons (impl_textField_fits.con n) (conT_cons (impl_linkField_fits.con n) conT_none))))) Tryz.func85 (by decide) (by kernel_rfl) (by kernel_rfl) (by decide) LoopDef.nil (fun x => by kernel_rfl)
end impl_GateFits
namespace impl_shapeOk
@[reducible] def l5 : LSpec := ⟨[(1, .d (.slice .str)), (5, .mp .str), (16, .d (.slice tGateField)), (17, .d (.int .i64)), (18, .d (.int .i64))], [(.ret, [(4, .d .bool)]), (.exit 0, [])]⟩
def B5 (n : Nat) {R : Type} (next : Sden l5.inS → Option R) (cs : Conts R l5.outs) (x : Sden l5.inS) : Option R :=
  if (decide (x.2.2.2.2.1 < x.2.2.2.1)) = true then
   if (decide (0 ≤ x.2.2.2.2.1 ∧ x.2.2.2.2.1 < (List.length x.2.2.1 : Int))) = true then
   (impl_isName.f n ((List.getD x.2.2.1 (Int.toNat x.2.2.2.2.1) (Ty.zero tGateField)).1, ())).bind fun y1 =>
 if ((!y1.1) || (decide ((mget .str (mput .str x.2.1 (List.getD x.2.2.1 (Int.toNat x.2.2.2.2.1) (Ty.zero tGateField)).1 (IntKind.i64.wrap ((mget .str x.2.1 (List.getD x.2.2.1 (Int.toNat x.2.2.2.2.1) (Ty.zero tGateField)).1) + (1 : Int)))) (List.getD x.2.2.1 (Int.toNat x.2.2.2.2.1) (Ty.zero tGateField)).1) > (1 : Int)))) = true then
   cs.1 (false, ())
 else
   (impl_sortOf.f n (List.getD x.2.2.1 (Int.toNat x.2.2.2.2.1) (Ty.zero tGateField)) ()).bind fun y2 =>
 (if (!(!y2.2.2.1)) = true then (if (decide (y2.2.1 = 0)) = true then ((impl_numberField_clean.f n ((y2.1, ()), ())).bind fun r => some r.1) else (if (decide ((y2.2.1 - 1) = 0)) = true then ((impl_wordField_clean.f n ((y2.1, ()), ())).bind fun r => some r.1) else (if (decide (((y2.2.1 - 1) - 1) = 0)) = true then ((impl_textField_clean.f n ((y2.1, ()), ())).bind fun r => some r.1) else (if (decide ((((y2.2.1 - 1) - 1) - 1) = 0)) = true then ((impl_linkField_clean.f n ((y2.1, ()), ())).bind fun r => some r.1) else none)))) else some false).bind fun y3 =>
 (if (!((!y2.2.2.1) || (!y3))) = true then (if (decide (y2.2.1 = 0)) = true then ((impl_numberField_sound.f n ((y2.1, ()), x.1, ())).bind fun r => some r.1) else (if (decide ((y2.2.1 - 1) = 0)) = true then ((impl_wordField_sound.f n ((y2.1, ()), x.1, ())).bind fun r => some r.1) else (if (decide (((y2.2.1 - 1) - 1) = 0)) = true then ((impl_textField_sound.f n ((y2.1, ()), x.1, ())).bind fun r => some r.1) else (if (decide ((((y2.2.1 - 1) - 1) - 1) = 0)) = true then ((impl_linkField_sound.f n ((y2.1, ()), x.1, ())).bind fun r => some r.1) else none)))) else some false).bind fun y4 =>
 if (((!y2.2.2.1) || (!y3)) || (!y4)) = true then
   cs.1 (false, ())
 else
   (if (!seq (List.getD x.2.2.1 (Int.toNat x.2.2.2.2.1) (Ty.zero tGateField)).2.2.2.2.2.2.2.2.2.1 (⟨#[]⟩ : ByteArray)) = true then (impl_GateFits.f n ((List.getD x.2.2.1 (Int.toNat x.2.2.2.2.1) (Ty.zero tGateField)), (List.getD x.2.2.1 (Int.toNat x.2.2.2.2.1) (Ty.zero tGateField)).2.2.2.2.2.2.2.2.2.1, ())) else some (tzero [.bool])).bind fun y5 =>
 if ((!seq (List.getD x.2.2.1 (Int.toNat x.2.2.2.2.1) (Ty.zero tGateField)).2.2.2.2.2.2.2.2.2.1 (⟨#[]⟩ : ByteArray)) && (!y5.1)) = true then
   cs.1 (false, ())
 else
   next (x.1, (mput .str x.2.1 (List.getD x.2.2.1 (Int.toNat x.2.2.2.2.1) (Ty.zero tGateField)).1 (IntKind.i64.wrap ((mget .str x.2.1 (List.getD x.2.2.1 (Int.toNat x.2.2.2.2.1) (Ty.zero tGateField)).1) + (1 : Int)))), x.2.2.1, x.2.2.2.1, (IntKind.i64.wrap (x.2.2.2.2.1 + (1 : Int))), ())
 else
   none
 else
   cs.2.1 ()
def f (n : Nat) (x : Tup [tGateShape, (.slice .str)]) : Option (Tup [.bool]) :=
  if (decide ((List.length x.1.2.1 : Int) > (6 : Int))) = true then
   some (false, ())
 else
   runL (B5 n) ((fun z6 =>
     some (z6.1, ())), (fun z7 =>
     some (true, ())), ()) n (x.2.1, [], x.1.2.1, (List.length x.1.2.1 : Int), (0 : Int), ())
@[reducible] def sig (n : Nat) : Sig := ⟨[tGateShape, (.slice .str)], [.bool], false, f n, none, none⟩
def T (n : Nat) : FuncId → Option Sig := fun g => if Nat.beq g 25 = true then some (impl_isName.sig n) else if Nat.beq g 85 = true then some (impl_GateFits.sig n) else if Nat.beq g 91 = true then some (impl_sortOf.sig n) else if Nat.beq g 134 = true then some (impl_numberField_clean.sig n) else if Nat.beq g 136 = true then some (impl_numberField_sound.sig n) else if Nat.beq g 138 = true then some (impl_wordField_clean.sig n) else if Nat.beq g 140 = true then some (impl_wordField_sound.sig n) else if Nat.beq g 141 = true then some (impl_textField_clean.sig n) else if Nat.beq g 143 = true then some (impl_textField_sound.sig n) else if Nat.beq g 144 = true then some (impl_linkField_clean.sig n) else if Nat.beq g 146 = true then some (impl_linkField_sound.sig n) else none
def TL (n : Nat) : Loops := fun j _ st k => if Nat.beq j 5 = true then (match dec st l5.inS [] with | some x => runL (B5 n) (contsOf k l5.outs) n x | none => none) else none
theorem d5 (n : Nat) : LoopDef Tryz.prog (T n) (TL n) Tryz.f82 5 :=
  ⟨l5, fun R => B5 n, n, fun R st k => by kernel_rfl, fun R next cs x => by kernel_rfl⟩
theorem con (n : Nat) : Con Tryz.prog 82 (sig n) :=
  con_print (hsw := rfl) (hsx := rfl) (T := T n) (TL := TL n) (c := Tryz.f82.body.getD .skip) (js := [5]) hMixed (conT_cons (impl_isName.con n) (conT_cons (impl_GateFits.con n) (conT_cons (impl_sortOf.con n) (conT_cons (impl_numberField_clean.con n) (conT_cons (impl_numberField_sound.con n) (conT_cons (impl_wordField_clean.con n) (conT_cons (impl_wordField_sound.con n) (conT_cons (impl_textField_clean.con n) (conT_cons (impl_textField_sound.con n) (conT_cons (impl_linkField_clean.con n) (conT_cons (impl_linkField_sound.con n) conT_none))))))))))) Tryz.func82 (by decide) (by kernel_rfl) (by kernel_rfl) (by decide) (LoopDef.cons (d5 n) LoopDef.nil) (fun x => by kernel_rfl)
end impl_shapeOk
namespace impl_GateShapesOk
@[reducible] def l5 : LSpec := ⟨[(0, .d (.slice tGateShape)), (3, .row true .str), (14, .d (.slice tGateShape)), (15, .d (.int .i64)), (16, .d (.int .i64))], [(.exit 0, [(0, .d (.slice tGateShape)), (3, .row true .str)])]⟩
def B5 (n : Nat) {R : Type} (next : Sden l5.inS → Option R) (cs : Conts R l5.outs) (x : Sden l5.inS) : Option R :=
  if (decide (x.2.2.2.2.1 < x.2.2.2.1)) = true then
   if (decide (0 ≤ x.2.2.2.2.1 ∧ x.2.2.2.2.1 < (List.length x.2.2.1 : Int))) = true then
   if (appBound (List.length x.2.1) (List.length [(List.getD x.2.2.1 (Int.toNat x.2.2.2.2.1) (Ty.zero tGateShape)).1]) 16) = true then
   next (x.1, (x.2.1 ++ [(List.getD x.2.2.1 (Int.toNat x.2.2.2.2.1) (Ty.zero tGateShape)).1]), x.2.2.1, x.2.2.2.1, (IntKind.i64.wrap (x.2.2.2.2.1 + (1 : Int))), ())
 else
   none
 else
   none
 else
   cs.1 (x.1, x.2.1, ())
@[reducible] def l12 : LSpec := ⟨[(3, .row true .str), (29, .d (.slice tGateShape)), (30, .d (.int .i64)), (31, .d (.int .i64))], [(.ret, [(2, .d .bool)]), (.exit 2, [])]⟩
def B12 (n : Nat) {R : Type} (next : Sden l12.inS → Option R) (cs : Conts R l12.outs) (x : Sden l12.inS) : Option R :=
  if (decide (x.2.2.2.1 < x.2.2.1)) = true then
   if (decide (0 ≤ x.2.2.2.1 ∧ x.2.2.2.1 < (List.length x.2.1 : Int))) = true then
   (impl_shapeOk.f n ((List.getD x.2.1 (Int.toNat x.2.2.2.1) (Ty.zero tGateShape)), x.1, ())).bind fun y3 =>
 if (!y3.1) = true then
   cs.1 (false, ())
 else
   next (x.1, x.2.1, x.2.2.1, (IntKind.i64.wrap (x.2.2.2.1 + (1 : Int))), ())
 else
   none
 else
   cs.2.1 ()
def f (n : Nat) (x : Tup [(.slice tGateShape)]) : Option (Tup [.bool]) :=
  if (decide ((List.length x.1 : Int) > (6 : Int))) = true then
 some (false, ())
 else if (decide (0 ≤ (0 : Int) ∧ (0 : Int) ≤ (List.length x.1 : Int) ∧ (List.length x.1 : Int) * (16 : Int) ≤ 140737488355328)) = true then
   runL (B5 n) ((fun z1 =>
     (impl_ascendingNames.f n (z1.2.1, ())).bind fun y2 =>
 if (!y2.1) = true then
   some (false, ())
 else
   runL (B12 n) ((fun z4 =>
     some (z4.1, ())), (fun z5 =>
     some (true, ())), ()) n (z1.2.1, z1.1, (List.length z1.1 : Int), (0 : Int), ())), ()) n (x.1, (List.replicate (Int.toNat (0 : Int)) (⟨#[]⟩ : ByteArray)), x.1, (List.length x.1 : Int), (0 : Int), ())
 else
   none
@[reducible] def sig (n : Nat) : Sig := ⟨[(.slice tGateShape)], [.bool], false, f n, none, none⟩
def T (n : Nat) : FuncId → Option Sig := fun g => if Nat.beq g 81 = true then some (impl_ascendingNames.sig n) else if Nat.beq g 82 = true then some (impl_shapeOk.sig n) else none
def TL (n : Nat) : Loops := fun j _ st k => if Nat.beq j 5 = true then (match dec st l5.inS [] with | some x => runL (B5 n) (contsOf k l5.outs) n x | none => none) else if Nat.beq j 12 = true then (match dec st l12.inS [] with | some x => runL (B12 n) (contsOf k l12.outs) n x | none => none) else none
theorem d5 (n : Nat) : LoopDef Tryz.prog (T n) (TL n) Tryz.f66 5 :=
  ⟨l5, fun R => B5 n, n, fun R st k => by kernel_rfl, fun R next cs x => by kernel_rfl⟩
theorem d12 (n : Nat) : LoopDef Tryz.prog (T n) (TL n) Tryz.f66 12 :=
  ⟨l12, fun R => B12 n, n, fun R st k => by kernel_rfl, fun R next cs x => by kernel_rfl⟩
theorem con (n : Nat) : Con Tryz.prog 66 (sig n) :=
  con_print (hsw := rfl) (hsx := rfl) (T := T n) (TL := TL n) (c := Tryz.f66.body.getD .skip) (js := [5, 12]) hMixed (conT_cons (impl_ascendingNames.con n) (conT_cons (impl_shapeOk.con n) conT_none)) Tryz.func66 (by decide) (by kernel_rfl) (by kernel_rfl) (by decide) (LoopDef.cons (d5 n) (LoopDef.cons (d12 n) LoopDef.nil)) (fun x => by kernel_rfl)
end impl_GateShapesOk
namespace impl_shapeOf
@[reducible] def l2 : LSpec := ⟨[(1, .d .str), (7, .d (.slice tGateShape)), (8, .d (.int .i64)), (9, .d (.int .i64))], [(.ret, [(4, .d (.int .i64))]), (.exit 0, [])]⟩
def B2 (n : Nat) {R : Type} (next : Sden l2.inS → Option R) (cs : Conts R l2.outs) (x : Sden l2.inS) : Option R :=
  if (decide (x.2.2.2.1 < x.2.2.1)) = true then
   if (decide (0 ≤ x.2.2.2.1 ∧ x.2.2.2.1 < (List.length x.2.1 : Int))) = true then
   if (seq (List.getD x.2.1 (Int.toNat x.2.2.2.1) (Ty.zero tGateShape)).1 x.1) = true then
   cs.1 (x.2.2.2.1, ())
 else
   next (x.1, x.2.1, x.2.2.1, (IntKind.i64.wrap (x.2.2.2.1 + (1 : Int))), ())
 else
   none
 else
   cs.2.1 ()
def f (n : Nat) (x : Tup [(.slice tGateShape), .str]) : Option (Tup [(.int .i64)]) :=
  runL (B2 n) ((fun z1 =>
     some (z1.1, ())), (fun z2 =>
     some ((-1 : Int), ())), ()) n (x.2.1, x.1, (List.length x.1 : Int), (0 : Int), ())
@[reducible] def sig (n : Nat) : Sig := ⟨[(.slice tGateShape), .str], [(.int .i64)], false, f n, none, none⟩
def T (n : Nat) : FuncId → Option Sig := fun g => none
def TL (n : Nat) : Loops := fun j _ st k => if Nat.beq j 2 = true then (match dec st l2.inS [] with | some x => runL (B2 n) (contsOf k l2.outs) n x | none => none) else none
theorem d2 (n : Nat) : LoopDef Tryz.prog (T n) (TL n) Tryz.f67 2 :=
  ⟨l2, fun R => B2 n, n, fun R st k => by kernel_rfl, fun R next cs x => by kernel_rfl⟩
theorem con (n : Nat) : Con Tryz.prog 67 (sig n) :=
  con_print (hsw := rfl) (hsx := rfl) (T := T n) (TL := TL n) (c := Tryz.f67.body.getD .skip) (js := [2]) hMixed conT_none Tryz.func67 (by decide) (by kernel_rfl) (by kernel_rfl) (by decide) (LoopDef.cons (d2 n) LoopDef.nil) (fun x => by kernel_rfl)
end impl_shapeOf
namespace impl_placeOf
@[reducible] def l2 : LSpec := ⟨[(1, .d .str), (7, .d (.slice tGateField)), (8, .d (.int .i64)), (9, .d (.int .i64))], [(.ret, [(4, .d (.int .i64))]), (.exit 0, [])]⟩
def B2 (n : Nat) {R : Type} (next : Sden l2.inS → Option R) (cs : Conts R l2.outs) (x : Sden l2.inS) : Option R :=
  if (decide (x.2.2.2.1 < x.2.2.1)) = true then
   if (decide (0 ≤ x.2.2.2.1 ∧ x.2.2.2.1 < (List.length x.2.1 : Int))) = true then
   if (seq (List.getD x.2.1 (Int.toNat x.2.2.2.1) (Ty.zero tGateField)).1 x.1) = true then
   cs.1 (x.2.2.2.1, ())
 else
   next (x.1, x.2.1, x.2.2.1, (IntKind.i64.wrap (x.2.2.2.1 + (1 : Int))), ())
 else
   none
 else
   cs.2.1 ()
def f (n : Nat) (x : Tup [(.slice tGateField), .str]) : Option (Tup [(.int .i64)]) :=
  runL (B2 n) ((fun z1 =>
     some (z1.1, ())), (fun z2 =>
     some ((-1 : Int), ())), ()) n (x.2.1, x.1, (List.length x.1 : Int), (0 : Int), ())
@[reducible] def sig (n : Nat) : Sig := ⟨[(.slice tGateField), .str], [(.int .i64)], false, f n, none, none⟩
def T (n : Nat) : FuncId → Option Sig := fun g => none
def TL (n : Nat) : Loops := fun j _ st k => if Nat.beq j 2 = true then (match dec st l2.inS [] with | some x => runL (B2 n) (contsOf k l2.outs) n x | none => none) else none
theorem d2 (n : Nat) : LoopDef Tryz.prog (T n) (TL n) Tryz.f84 2 :=
  ⟨l2, fun R => B2 n, n, fun R st k => by kernel_rfl, fun R next cs x => by kernel_rfl⟩
theorem con (n : Nat) : Con Tryz.prog 84 (sig n) :=
  con_print (hsw := rfl) (hsx := rfl) (T := T n) (TL := TL n) (c := Tryz.f84.body.getD .skip) (js := [2]) hMixed conT_none Tryz.func84 (by decide) (by kernel_rfl) (by kernel_rfl) (by decide) (LoopDef.cons (d2 n) LoopDef.nil) (fun x => by kernel_rfl)
end impl_placeOf
namespace impl_mendOk_1
def f (n : Nat) (x : Tup [.str, (.ptr (.slice tGateField))]) : Option (Tup [.bool]) :=
  if (Option.isSome x.2.1) = true then
   (impl_placeOf.f n ((Option.getD x.2.1 (Ty.zero (.slice tGateField))), x.1, ())).bind fun y1 =>
 if (!(decide (y1.1 ≥ (0 : Int))) || (Option.isSome x.2.1)) = true then
   if (!(decide (y1.1 ≥ (0 : Int))) || (decide (0 ≤ y1.1 ∧ y1.1 < (List.length (Option.getD x.2.1 (Ty.zero (.slice tGateField))) : Int)))) = true then
   some (((decide (y1.1 ≥ (0 : Int))) && ((List.getD (Option.getD x.2.1 (Ty.zero (.slice tGateField))) (Int.toNat y1.1) (Ty.zero tGateField)).2.1 != (4 : Int))), ())
 else
   none
 else
   none
 else
   none
@[reducible] def sig (n : Nat) : Sig := ⟨[.str, (.ptr (.slice tGateField))], [.bool], false, f n, none, none⟩
def T (n : Nat) : FuncId → Option Sig := fun g => if Nat.beq g 84 = true then some (impl_placeOf.sig n) else none
def TL (n : Nat) : Loops := fun j _ st k => none
theorem con (n : Nat) : Con Tryz.prog 83 (sig n) :=
  con_print (hsw := rfl) (hsx := rfl) (T := T n) (TL := TL n) (c := Tryz.f83.body.getD .skip) (js := []) hMixed (conT_cons (impl_placeOf.con n) conT_none) Tryz.func83 (by decide) (by kernel_rfl) (by kernel_rfl) (by decide) LoopDef.nil (fun x => by kernel_rfl)
end impl_mendOk_1
namespace impl_mendOk
def f (n : Nat) (x : Tup [(.slice tGateField), tGateMend]) : Option (Tup [.bool]) :=
  (impl_mendOk_1.f n (x.2.1.2.1, (some x.1), ())).bind fun y1 =>
 (if ((!(!y1.1)) && (!seq x.2.1.2.2.1 (⟨#[]⟩ : ByteArray))) = true then (impl_mendOk_1.f n (x.2.1.2.2.1, (some x.1), ())) else some (tzero [.bool])).bind fun y2 =>
 (if ((!((!y1.1) || ((!seq x.2.1.2.2.1 (⟨#[]⟩ : ByteArray)) && (!y2.1)))) && (!seq x.2.1.2.2.2.2.2.1 (⟨#[]⟩ : ByteArray))) = true then (impl_mendOk_1.f n (x.2.1.2.2.2.2.2.1, (some x.1), ())) else some (tzero [.bool])).bind fun y3 =>
 if (((!y1.1) || ((!seq x.2.1.2.2.1 (⟨#[]⟩ : ByteArray)) && (!y2.1))) || ((!seq x.2.1.2.2.2.2.2.1 (⟨#[]⟩ : ByteArray)) && (!y3.1))) = true then
 some (false, ())
 else if ((((seq x.2.1.2.2.1 x.2.1.2.1) || (seq x.2.1.2.2.2.2.2.1 x.2.1.2.1)) || ((seq x.2.1.2.2.1 (⟨#[]⟩ : ByteArray)) && (!seq x.2.1.2.2.2.1 (⟨#[]⟩ : ByteArray)))) || ((seq x.2.1.2.2.2.2.1 (⟨#[]⟩ : ByteArray)) == (seq x.2.1.2.2.2.2.2.1 (⟨#[]⟩ : ByteArray)))) = true then
   some (false, ())
 else
   (if (!(seq x.2.1.2.2.2.2.1 (⟨#[]⟩ : ByteArray))) = true then (impl_placeOf.f n (x.1, x.2.1.2.1, ())) else some (tzero [(.int .i64)])).bind fun y4 =>
 if (!(!(seq x.2.1.2.2.2.2.1 (⟨#[]⟩ : ByteArray))) || (decide (0 ≤ y4.1 ∧ y4.1 < (List.length x.1 : Int)))) = true then
   (if (!(seq x.2.1.2.2.2.2.1 (⟨#[]⟩ : ByteArray))) = true then (impl_GateFits.f n ((List.getD x.1 (Int.toNat y4.1) (Ty.zero tGateField)), x.2.1.2.2.2.2.1, ())) else some (tzero [.bool])).bind fun y5 =>
 some (((seq x.2.1.2.2.2.2.1 (⟨#[]⟩ : ByteArray)) || y5.1), ())
 else
   none
@[reducible] def sig (n : Nat) : Sig := ⟨[(.slice tGateField), tGateMend], [.bool], false, f n, none, none⟩
def T (n : Nat) : FuncId → Option Sig := fun g => if Nat.beq g 83 = true then some (impl_mendOk_1.sig n) else if Nat.beq g 84 = true then some (impl_placeOf.sig n) else if Nat.beq g 85 = true then some (impl_GateFits.sig n) else none
def TL (n : Nat) : Loops := fun j _ st k => none
theorem con (n : Nat) : Con Tryz.prog 68 (sig n) :=
  con_print (hsw := rfl) (hsx := rfl) (T := T n) (TL := TL n) (c := Tryz.f68.body.getD .skip) (js := []) hMixed (conT_cons (impl_mendOk_1.con n) (conT_cons (impl_placeOf.con n) (conT_cons (impl_GateFits.con n) conT_none))) Tryz.func68 (by decide) (by kernel_rfl) (by kernel_rfl) (by decide) LoopDef.nil (fun x => by kernel_rfl)
end impl_mendOk
namespace impl_rowOf_1
@[reducible] def l3 : LSpec := ⟨[(0, .d .str), (2, .d (.ptr tGateShape)), (5, .row true .str), (8, .d (.slice tGateMend)), (9, .d (.int .i64)), (10, .d (.int .i64))], [(.exit 0, [(5, .row true .str)])]⟩
def B3 (n : Nat) {R : Type} (next : Sden l3.inS → Option R) (cs : Conts R l3.outs) (x : Sden l3.inS) : Option R :=
  if (decide (x.2.2.2.2.2.1 < x.2.2.2.2.1)) = true then
   if (decide (0 ≤ x.2.2.2.2.2.1 ∧ x.2.2.2.2.2.1 < (List.length x.2.2.2.1 : Int))) = true then
   if (Option.isSome x.2.1) = true then
   if ((!seq (List.getD x.2.2.2.1 (Int.toNat x.2.2.2.2.2.1) (Ty.zero tGateMend)).1 (Option.getD x.2.1 (Ty.zero tGateShape)).1) || (!seq (List.getD x.2.2.2.1 (Int.toNat x.2.2.2.2.2.1) (Ty.zero tGateMend)).2.1 x.1)) = true then
 next (x.1, x.2.1, x.2.2.1, x.2.2.2.1, x.2.2.2.2.1, (IntKind.i64.wrap (x.2.2.2.2.2.1 + (1 : Int))), ())
 else if (!seq (List.getD x.2.2.2.1 (Int.toNat x.2.2.2.2.2.1) (Ty.zero tGateMend)).2.2.1 (⟨#[]⟩ : ByteArray)) = true then
 if (appBound (List.length x.2.2.1) (List.length [(List.getD x.2.2.2.1 (Int.toNat x.2.2.2.2.2.1) (Ty.zero tGateMend)).2.2.1]) 16) = true then
   if (!seq (List.getD x.2.2.2.1 (Int.toNat x.2.2.2.2.2.1) (Ty.zero tGateMend)).2.2.2.2.2.1 (⟨#[]⟩ : ByteArray)) = true then
   if (appBound (List.length (x.2.2.1 ++ [(List.getD x.2.2.2.1 (Int.toNat x.2.2.2.2.2.1) (Ty.zero tGateMend)).2.2.1])) (List.length [(List.getD x.2.2.2.1 (Int.toNat x.2.2.2.2.2.1) (Ty.zero tGateMend)).2.2.2.2.2.1]) 16) = true then
   next (x.1, x.2.1, ((x.2.2.1 ++ [(List.getD x.2.2.2.1 (Int.toNat x.2.2.2.2.2.1) (Ty.zero tGateMend)).2.2.1]) ++ [(List.getD x.2.2.2.1 (Int.toNat x.2.2.2.2.2.1) (Ty.zero tGateMend)).2.2.2.2.2.1]), x.2.2.2.1, x.2.2.2.2.1, (IntKind.i64.wrap (x.2.2.2.2.2.1 + (1 : Int))), ())
 else
   none
 else
   next (x.1, x.2.1, (x.2.2.1 ++ [(List.getD x.2.2.2.1 (Int.toNat x.2.2.2.2.2.1) (Ty.zero tGateMend)).2.2.1]), x.2.2.2.1, x.2.2.2.2.1, (IntKind.i64.wrap (x.2.2.2.2.2.1 + (1 : Int))), ())
 else
   none
 else if (!seq (List.getD x.2.2.2.1 (Int.toNat x.2.2.2.2.2.1) (Ty.zero tGateMend)).2.2.2.2.2.1 (⟨#[]⟩ : ByteArray)) = true then
   if (appBound (List.length x.2.2.1) (List.length [(List.getD x.2.2.2.1 (Int.toNat x.2.2.2.2.2.1) (Ty.zero tGateMend)).2.2.2.2.2.1]) 16) = true then
   next (x.1, x.2.1, (x.2.2.1 ++ [(List.getD x.2.2.2.1 (Int.toNat x.2.2.2.2.2.1) (Ty.zero tGateMend)).2.2.2.2.2.1]), x.2.2.2.1, x.2.2.2.2.1, (IntKind.i64.wrap (x.2.2.2.2.2.1 + (1 : Int))), ())
 else
   none
 else
   next (x.1, x.2.1, x.2.2.1, x.2.2.2.1, x.2.2.2.2.1, (IntKind.i64.wrap (x.2.2.2.2.2.1 + (1 : Int))), ())
 else
   none
 else
   none
 else
   cs.1 (x.2.2.1, ())
def f (n : Nat) (x : Tup [.str, (.ptr (.slice tGateMend)), (.ptr tGateShape)]) : Option (Tup [(.slice .str)]) :=
  if (Option.isSome x.2.1) = true then
   runL (B3 n) ((fun z1 =>
     some (z1.1, ())), ()) n (x.1, x.2.2.1, [], (Option.getD x.2.1 (Ty.zero (.slice tGateMend))), (List.length (Option.getD x.2.1 (Ty.zero (.slice tGateMend))) : Int), (0 : Int), ())
 else
   none
@[reducible] def sig (n : Nat) : Sig := ⟨[.str, (.ptr (.slice tGateMend)), (.ptr tGateShape)], [(.slice .str)], true, f n, none, none⟩
def T (n : Nat) : FuncId → Option Sig := fun g => none
def TL (n : Nat) : Loops := fun j _ st k => if Nat.beq j 3 = true then (match dec st l3.inS [] with | some x => runL (B3 n) (contsOf k l3.outs) n x | none => none) else none
theorem d3 (n : Nat) : LoopDef Tryz.prog (T n) (TL n) Tryz.f87 3 :=
  ⟨l3, fun R => B3 n, n, fun R st k => by kernel_rfl, fun R next cs x => by kernel_rfl⟩
theorem con (n : Nat) : Con Tryz.prog 87 (sig n) :=
  con_print (hsw := rfl) (hsx := rfl) (T := T n) (TL := TL n) (c := Tryz.f87.body.getD .skip) (js := [3]) hMixed conT_none Tryz.func87 (by decide) (by kernel_rfl) (by kernel_rfl) (by decide) (LoopDef.cons (d3 n) LoopDef.nil) (fun x => by kernel_rfl)
end impl_rowOf_1
namespace impl_row_string
@[reducible] def sig (n : Nat) : Sig := ⟨[], [], false, fun _ => none, some ⟨.unit, [], [], fun _ _ => none, none, some ⟨.unit, [], [], fun _ _ => none, some ⟨[.slice .str, .bool], fun rd l => rowP n rd l⟩⟩⟩, none⟩
theorem con (n : Nat) : Con Tryz.prog 86 (sig n) :=
  con_row (tM := 139) (tS := 9) (tI := 3) (tB := 4) (tR := 135) (tW := 60) (tL := 27) (L := posOf (Tryz.f86.body.getD .skip)) (L2 := posOf (Tryz.f92.body.getD .skip)) (row_ty (by kernel_rfl)) Tryz.func92 (by decide) (by kernel_rfl) (by kernel_rfl) (by kernel_rfl) Tryz.func86 (by decide) (by kernel_rfl) (by kernel_rfl) (by kernel_rfl) n
end impl_row_string
namespace impl_rowOf
@[reducible] def l3 : LSpec := ⟨[(2, .rb tGateShape), (3, .rb (.slice tGateMend)), (6, .row true .str), (10, .d (.slice tGateField)), (11, .d (.int .i64)), (12, .d (.int .i64))], [(.exit 0, [(2, .rb tGateShape), (3, .rb (.slice tGateMend)), (6, .row true .str)])]⟩
def B3 (n : Nat) {R : Type} (next : Sden l3.inS → Option R) (cs : Conts R l3.outs) (x : Sden l3.inS) : Option R :=
  if (decide (x.2.2.2.2.2.1 < x.2.2.2.2.1)) = true then
   if (decide (0 ≤ x.2.2.2.2.2.1 ∧ x.2.2.2.2.2.1 < (List.length x.2.2.2.1 : Int))) = true then
   if (appBound (List.length x.2.2.1) (List.length [(List.getD x.2.2.2.1 (Int.toNat x.2.2.2.2.2.1) (Ty.zero tGateField)).1]) 16) = true then
   next (x.1, x.2.1, (x.2.2.1 ++ [(List.getD x.2.2.2.1 (Int.toNat x.2.2.2.2.2.1) (Ty.zero tGateField)).1]), x.2.2.2.1, x.2.2.2.2.1, (IntKind.i64.wrap (x.2.2.2.2.2.1 + (1 : Int))), ())
 else
   none
 else
   none
 else
   cs.1 (x.1, x.2.1, x.2.2.1, ())
def f (n : Nat) (x : Tup [tGateShape, (.slice tGateMend)]) : Option (Tup [(.slice .str), .bool]) :=
  runL (B3 n) ((fun z1 =>
     (rowP n (fun u2 => (impl_rowOf_1.f n (u2, (some z1.2.1), (some z1.1), ())).bind fun r => some r.1) z1.2.2.1).bind fun y3 =>
 some (y3.1, y3.2.1, ())), ()) n (x.1, x.2.1, [], x.1.2.1, (List.length x.1.2.1 : Int), (0 : Int), ())
@[reducible] def sig (n : Nat) : Sig := ⟨[tGateShape, (.slice tGateMend)], [(.slice .str), .bool], true, f n, none, none⟩
def T (n : Nat) : FuncId → Option Sig := fun g => if Nat.beq g 86 = true then some (impl_row_string.sig n) else if Nat.beq g 87 = true then some (impl_rowOf_1.sig n) else none
def TL (n : Nat) : Loops := fun j _ st k => if Nat.beq j 3 = true then (match dec st l3.inS [] with | some x => runL (B3 n) (contsOf k l3.outs) n x | none => none) else none
theorem d3 (n : Nat) : LoopDef Tryz.prog (T n) (TL n) Tryz.f69 3 :=
  ⟨l3, fun R => B3 n, n, fun R st k => by kernel_rfl, fun R next cs x => by kernel_rfl⟩
theorem con (n : Nat) : Con Tryz.prog 69 (sig n) :=
  con_print (hsw := rfl) (hsx := rfl) (T := T n) (TL := TL n) (c := Tryz.f69.body.getD .skip) (js := [3]) hMixed (conT_cons (impl_row_string.con n) (conT_cons (impl_rowOf_1.con n) conT_none)) Tryz.func69 (by decide) (by kernel_rfl) (by kernel_rfl) (by decide) (LoopDef.cons (d3 n) LoopDef.nil) (fun x => by kernel_rfl)
end impl_rowOf
namespace impl_GateMendsOk
@[reducible] def l4 : LSpec := ⟨[(0, .d (.slice tGateShape)), (1, .d (.slice tGateMend)), (20, .d (.slice tGateMend)), (21, .d (.int .i64)), (22, .d (.int .i64))], [(.ret, [(4, .d .bool)]), (.exit 0, [(0, .d (.slice tGateShape)), (1, .d (.slice tGateMend))])]⟩
def B4 (n : Nat) {R : Type} (next : Sden l4.inS → Option R) (cs : Conts R l4.outs) (x : Sden l4.inS) : Option R :=
  if (decide (x.2.2.2.2.1 < x.2.2.2.1)) = true then
   if (decide (0 ≤ x.2.2.2.2.1 ∧ x.2.2.2.2.1 < (List.length x.2.2.1 : Int))) = true then
   (impl_shapeOf.f n (x.1, (List.getD x.2.2.1 (Int.toNat x.2.2.2.2.1) (Ty.zero tGateMend)).1, ())).bind fun y2 =>
 if (!(!(decide (y2.1 < (0 : Int)))) || (decide (0 ≤ y2.1 ∧ y2.1 < (List.length x.1 : Int)))) = true then
   (if (!(decide (y2.1 < (0 : Int)))) = true then (impl_mendOk.f n ((List.getD x.1 (Int.toNat y2.1) (Ty.zero tGateShape)).2.1, (List.getD x.2.2.1 (Int.toNat x.2.2.2.2.1) (Ty.zero tGateMend)), ())) else some (tzero [.bool])).bind fun y3 =>
 if ((decide (y2.1 < (0 : Int))) || (!y3.1)) = true then
   cs.1 (false, ())
 else
   next (x.1, x.2.1, x.2.2.1, x.2.2.2.1, (IntKind.i64.wrap (x.2.2.2.2.1 + (1 : Int))), ())
 else
   none
 else
   none
 else
   cs.2.1 (x.1, x.2.1, ())
@[reducible] def l11 : LSpec := ⟨[(1, .d (.slice tGateMend)), (43, .d (.slice tGateShape)), (44, .d (.int .i64)), (45, .d (.int .i64))], [(.ret, [(4, .d .bool)]), (.exit 2, [])]⟩
def B11 (n : Nat) {R : Type} (next : Sden l11.inS → Option R) (cs : Conts R l11.outs) (x : Sden l11.inS) : Option R :=
  if (decide (x.2.2.2.1 < x.2.2.1)) = true then
   if (decide (0 ≤ x.2.2.2.1 ∧ x.2.2.2.1 < (List.length x.2.1 : Int))) = true then
   (impl_rowOf.f n ((List.getD x.2.1 (Int.toNat x.2.2.2.1) (Ty.zero tGateShape)), x.1, ())).bind fun y6 =>
 if (!y6.2.1) = true then
   cs.1 (false, ())
 else
   next (x.1, x.2.1, x.2.2.1, (IntKind.i64.wrap (x.2.2.2.1 + (1 : Int))), ())
 else
   none
 else
   cs.2.1 ()
def f (n : Nat) (x : Tup [(.slice tGateShape), (.slice tGateMend)]) : Option (Tup [.bool]) :=
  (impl_GateShapesOk.f n (x.1, ())).bind fun y1 =>
 if ((!y1.1) || (decide ((List.length x.2.1 : Int) > (12 : Int)))) = true then
   some (false, ())
 else
   runL (B4 n) ((fun z4 =>
     some (z4.1, ())), (fun z5 =>
     runL (B11 n) ((fun z7 =>
     some (z7.1, ())), (fun z8 =>
     some (true, ())), ()) n (z5.2.1, z5.1, (List.length z5.1 : Int), (0 : Int), ())), ()) n (x.1, x.2.1, x.2.1, (List.length x.2.1 : Int), (0 : Int), ())
@[reducible] def sig (n : Nat) : Sig := ⟨[(.slice tGateShape), (.slice tGateMend)], [.bool], false, f n, none, none⟩
def T (n : Nat) : FuncId → Option Sig := fun g => if Nat.beq g 66 = true then some (impl_GateShapesOk.sig n) else if Nat.beq g 67 = true then some (impl_shapeOf.sig n) else if Nat.beq g 68 = true then some (impl_mendOk.sig n) else if Nat.beq g 69 = true then some (impl_rowOf.sig n) else none
def TL (n : Nat) : Loops := fun j _ st k => if Nat.beq j 4 = true then (match dec st l4.inS [] with | some x => runL (B4 n) (contsOf k l4.outs) n x | none => none) else if Nat.beq j 11 = true then (match dec st l11.inS [] with | some x => runL (B11 n) (contsOf k l11.outs) n x | none => none) else none
theorem d4 (n : Nat) : LoopDef Tryz.prog (T n) (TL n) Tryz.f52 4 :=
  ⟨l4, fun R => B4 n, n, fun R st k => by kernel_rfl, fun R next cs x => by kernel_rfl⟩
theorem d11 (n : Nat) : LoopDef Tryz.prog (T n) (TL n) Tryz.f52 11 :=
  ⟨l11, fun R => B11 n, n, fun R st k => by kernel_rfl, fun R next cs x => by kernel_rfl⟩
theorem con (n : Nat) : Con Tryz.prog 52 (sig n) :=
  con_print (hsw := rfl) (hsx := rfl) (T := T n) (TL := TL n) (c := Tryz.f52.body.getD .skip) (js := [4, 11]) hMixed (conT_cons (impl_GateShapesOk.con n) (conT_cons (impl_shapeOf.con n) (conT_cons (impl_mendOk.con n) (conT_cons (impl_rowOf.con n) conT_none)))) Tryz.func52 (by decide) (by kernel_rfl) (by kernel_rfl) (by decide) (LoopDef.cons (d4 n) (LoopDef.cons (d11 n) LoopDef.nil)) (fun x => by kernel_rfl)
end impl_GateMendsOk
namespace impl_teamOf
@[reducible] def l2 : LSpec := ⟨[(1, .d .str), (7, .d (.slice tGateTeam)), (8, .d (.int .i64)), (9, .d (.int .i64))], [(.ret, [(4, .d (.int .i64))]), (.exit 0, [])]⟩
def B2 (n : Nat) {R : Type} (next : Sden l2.inS → Option R) (cs : Conts R l2.outs) (x : Sden l2.inS) : Option R :=
  if (decide (x.2.2.2.1 < x.2.2.1)) = true then
   if (decide (0 ≤ x.2.2.2.1 ∧ x.2.2.2.1 < (List.length x.2.1 : Int))) = true then
   if (seq (List.getD x.2.1 (Int.toNat x.2.2.2.1) (Ty.zero tGateTeam)).1 x.1) = true then
   cs.1 (x.2.2.2.1, ())
 else
   next (x.1, x.2.1, x.2.2.1, (IntKind.i64.wrap (x.2.2.2.1 + (1 : Int))), ())
 else
   none
 else
   cs.2.1 ()
def f (n : Nat) (x : Tup [(.slice tGateTeam), .str]) : Option (Tup [(.int .i64)]) :=
  runL (B2 n) ((fun z1 =>
     some (z1.1, ())), (fun z2 =>
     some ((-1 : Int), ())), ()) n (x.2.1, x.1, (List.length x.1 : Int), (0 : Int), ())
@[reducible] def sig (n : Nat) : Sig := ⟨[(.slice tGateTeam), .str], [(.int .i64)], false, f n, none, none⟩
def T (n : Nat) : FuncId → Option Sig := fun g => none
def TL (n : Nat) : Loops := fun j _ st k => if Nat.beq j 2 = true then (match dec st l2.inS [] with | some x => runL (B2 n) (contsOf k l2.outs) n x | none => none) else none
theorem d2 (n : Nat) : LoopDef Tryz.prog (T n) (TL n) Tryz.f70 2 :=
  ⟨l2, fun R => B2 n, n, fun R st k => by kernel_rfl, fun R next cs x => by kernel_rfl⟩
theorem con (n : Nat) : Con Tryz.prog 70 (sig n) :=
  con_print (hsw := rfl) (hsx := rfl) (T := T n) (TL := TL n) (c := Tryz.f70.body.getD .skip) (js := [2]) hMixed conT_none Tryz.func70 (by decide) (by kernel_rfl) (by kernel_rfl) (by decide) (LoopDef.cons (d2 n) LoopDef.nil) (fun x => by kernel_rfl)
end impl_teamOf
namespace impl_GateTeamsOk
@[reducible] def l4 : LSpec := ⟨[(0, .d (.slice tGateTeam)), (12, .d (.slice tGateTeam)), (13, .d (.int .i64)), (14, .d (.int .i64))], [(.ret, [(2, .d .bool)]), (.exit 0, [(0, .d (.slice tGateTeam))])]⟩
def B4 (n : Nat) {R : Type} (next : Sden l4.inS → Option R) (cs : Conts R l4.outs) (x : Sden l4.inS) : Option R :=
  if (decide (x.2.2.2.1 < x.2.2.1)) = true then
   if (decide (0 ≤ x.2.2.2.1 ∧ x.2.2.2.1 < (List.length x.2.1 : Int))) = true then
   (if true = true then (impl_isName.f n ((List.getD x.2.1 (Int.toNat x.2.2.2.1) (Ty.zero tGateTeam)).1, ())) else some (tzero [.bool])).bind fun y1 =>
 if (!((!(!y1.1)) && (decide (x.2.2.2.1 > (0 : Int)))) || (decide (0 ≤ (IntKind.i64.wrap (x.2.2.2.1 - (1 : Int))) ∧ (IntKind.i64.wrap (x.2.2.2.1 - (1 : Int))) < (List.length x.1 : Int)))) = true then
   (if ((!((!y1.1) || ((decide (x.2.2.2.1 > (0 : Int))) && (!slt (List.getD x.1 (Int.toNat (IntKind.i64.wrap (x.2.2.2.1 - (1 : Int)))) (Ty.zero tGateTeam)).1 (List.getD x.2.1 (Int.toNat x.2.2.2.1) (Ty.zero tGateTeam)).1)))) && (!seq (List.getD x.2.1 (Int.toNat x.2.2.2.1) (Ty.zero tGateTeam)).2.1 (⟨#[]⟩ : ByteArray))) = true then (impl_teamOf.f n (x.1, (List.getD x.2.1 (Int.toNat x.2.2.2.1) (Ty.zero tGateTeam)).2.1, ())) else some (tzero [(.int .i64)])).bind fun y2 =>
 if (((!y1.1) || ((decide (x.2.2.2.1 > (0 : Int))) && (!slt (List.getD x.1 (Int.toNat (IntKind.i64.wrap (x.2.2.2.1 - (1 : Int)))) (Ty.zero tGateTeam)).1 (List.getD x.2.1 (Int.toNat x.2.2.2.1) (Ty.zero tGateTeam)).1))) || ((!seq (List.getD x.2.1 (Int.toNat x.2.2.2.1) (Ty.zero tGateTeam)).2.1 (⟨#[]⟩ : ByteArray)) && (decide (y2.1 < (0 : Int))))) = true then
   cs.1 (false, ())
 else
   next (x.1, x.2.1, x.2.2.1, (IntKind.i64.wrap (x.2.2.2.1 + (1 : Int))), ())
 else
   none
 else
   none
 else
   cs.2.1 (x.1, ())
@[reducible] def l14 : LSpec := ⟨[(0, .d (.slice tGateTeam)), (7, .d (.int .i64)), (8, .d .str), (51, .d (.slice tGateTeam)), (52, .d (.int .i64)), (53, .d (.int .i64))], [(.ret, [(2, .d .bool)]), (.exit 4, [(0, .d (.slice tGateTeam)), (51, .d (.slice tGateTeam)), (52, .d (.int .i64)), (53, .d (.int .i64))])]⟩
def B14 (n : Nat) {R : Type} (next : Sden l14.inS → Option R) (cs : Conts R l14.outs) (x : Sden l14.inS) : Option R :=
  if (!seq x.2.2.1 (⟨#[]⟩ : ByteArray)) = true then
   if (decide ((IntKind.i64.wrap (x.2.1 + (1 : Int))) > (4 : Int))) = true then
   cs.1 (false, ())
 else
   (impl_teamOf.f n (x.1, x.2.2.1, ())).bind fun y5 =>
 if (decide (0 ≤ y5.1 ∧ y5.1 < (List.length x.1 : Int))) = true then
   next (x.1, (IntKind.i64.wrap (x.2.1 + (1 : Int))), (List.getD x.1 (Int.toNat y5.1) (Ty.zero tGateTeam)).2.1, x.2.2.2.1, x.2.2.2.2.1, x.2.2.2.2.2.1, ())
 else
   none
 else
   cs.2.1 (x.1, x.2.2.2.1, x.2.2.2.2.1, x.2.2.2.2.2.1, ())
@[reducible] def l10 : LSpec := ⟨[(0, .d (.slice tGateTeam)), (51, .d (.slice tGateTeam)), (52, .d (.int .i64)), (53, .d (.int .i64))], [(.ret, [(2, .d .bool)]), (.exit 2, [])]⟩
def B10 (n : Nat) {R : Type} (next : Sden l10.inS → Option R) (cs : Conts R l10.outs) (x : Sden l10.inS) : Option R :=
  if (decide (x.2.2.2.1 < x.2.2.1)) = true then
   if (decide (0 ≤ x.2.2.2.1 ∧ x.2.2.2.1 < (List.length x.2.1 : Int))) = true then
   runL (B14 n) ((fun z6 =>
     cs.1 (z6.1, ())), (fun z7 =>
     next (z7.1, z7.2.1, z7.2.2.1, (IntKind.i64.wrap (z7.2.2.2.1 + (1 : Int))), ())), ()) n (x.1, (0 : Int), (List.getD x.2.1 (Int.toNat x.2.2.2.1) (Ty.zero tGateTeam)).2.1, x.2.1, x.2.2.1, x.2.2.2.1, ())
 else
   none
 else
   cs.2.1 ()
def f (n : Nat) (x : Tup [(.slice tGateTeam)]) : Option (Tup [.bool]) :=
  if (decide ((List.length x.1 : Int) > (12 : Int))) = true then
   some (false, ())
 else
   runL (B4 n) ((fun z3 =>
     some (z3.1, ())), (fun z4 =>
     runL (B10 n) ((fun z8 =>
     some (z8.1, ())), (fun z9 =>
     some (true, ())), ()) n (z4.1, z4.1, (List.length z4.1 : Int), (0 : Int), ())), ()) n (x.1, x.1, (List.length x.1 : Int), (0 : Int), ())
@[reducible] def sig (n : Nat) : Sig := ⟨[(.slice tGateTeam)], [.bool], false, f n, none, none⟩
def T (n : Nat) : FuncId → Option Sig := fun g => if Nat.beq g 25 = true then some (impl_isName.sig n) else if Nat.beq g 70 = true then some (impl_teamOf.sig n) else none
def TL (n : Nat) : Loops := fun j _ st k => if Nat.beq j 4 = true then (match dec st l4.inS [] with | some x => runL (B4 n) (contsOf k l4.outs) n x | none => none) else if Nat.beq j 14 = true then (match dec st l14.inS [] with | some x => runL (B14 n) (contsOf k l14.outs) n x | none => none) else if Nat.beq j 10 = true then (match dec st l10.inS [] with | some x => runL (B10 n) (contsOf k l10.outs) n x | none => none) else none
theorem d4 (n : Nat) : LoopDef Tryz.prog (T n) (TL n) Tryz.f53 4 :=
  ⟨l4, fun R => B4 n, n, fun R st k => by kernel_rfl, fun R next cs x => by kernel_rfl⟩
theorem d14 (n : Nat) : LoopDef Tryz.prog (T n) (TL n) Tryz.f53 14 :=
  ⟨l14, fun R => B14 n, n, fun R st k => by kernel_rfl, fun R next cs x => by kernel_rfl⟩
theorem d10 (n : Nat) : LoopDef Tryz.prog (T n) (TL n) Tryz.f53 10 :=
  ⟨l10, fun R => B10 n, n, fun R st k => by kernel_rfl, fun R next cs x => by kernel_rfl⟩
theorem con (n : Nat) : Con Tryz.prog 53 (sig n) :=
  con_print (hsw := rfl) (hsx := rfl) (T := T n) (TL := TL n) (c := Tryz.f53.body.getD .skip) (js := [4, 10, 14]) hMixed (conT_cons (impl_isName.con n) (conT_cons (impl_teamOf.con n) conT_none)) Tryz.func53 (by decide) (by kernel_rfl) (by kernel_rfl) (by decide) (LoopDef.cons (d4 n) (LoopDef.cons (d10 n) (LoopDef.cons (d14 n) LoopDef.nil))) (fun x => by kernel_rfl)
end impl_GateTeamsOk
namespace impl_GateLawOk
def f (n : Nat) (x : Tup [tGateLaw]) : Option (Tup [.bool]) :=
  (impl_GateMendsOk.f n (x.1.1, x.1.2.1, ())).bind fun y1 =>
 (if y1.1 = true then (impl_GateTeamsOk.f n (x.1.2.2.1, ())) else some (tzero [.bool])).bind fun y2 =>
 some ((y1.1 && y2.1), ())
@[reducible] def sig (n : Nat) : Sig := ⟨[tGateLaw], [.bool], false, f n, none, none⟩
def T (n : Nat) : FuncId → Option Sig := fun g => if Nat.beq g 52 = true then some (impl_GateMendsOk.sig n) else if Nat.beq g 53 = true then some (impl_GateTeamsOk.sig n) else none
def TL (n : Nat) : Loops := fun j _ st k => none
theorem con (n : Nat) : Con Tryz.prog 24 (sig n) :=
  con_print (hsw := rfl) (hsx := rfl) (T := T n) (TL := TL n) (c := Tryz.f24.body.getD .skip) (js := []) hMixed (conT_cons (impl_GateMendsOk.con n) (conT_cons (impl_GateTeamsOk.con n) conT_none)) Tryz.func24 (by decide) (by kernel_rfl) (by kernel_rfl) (by decide) LoopDef.nil (fun x => by kernel_rfl)
end impl_GateLawOk
namespace impl_verbs
@[reducible] def sig (n : Nat) : Sig := ⟨[], [], false, fun _ => none, none, some fun _ _ vs => match vs with | [] => .leaf (tabV [100, 101, 102, 103, 104, 105]) | _ => .fail⟩
theorem walk (w : World) : Calls Tryz.prog 26 #[] w fun e w' => e = .returned (.agg #[.nilIface, .iface 100 (.agg #[]), .iface 101 (.agg #[]), .iface 102 (.agg #[]), .iface 103 (.agg #[]), .iface 104 (.agg #[]), .iface 105 (.agg #[])]) ∧ Go.RowKit.Below w.heap.size w w' := by
  go_enter Tryz.func26, Tryz.ntmps26
  go_wp2
  go_returns
  exact ⟨rfl, (Go.RowKit.Below.refl _ w).alloc (Nat.le_refl _) _⟩
theorem con (n : Nat) : Con Tryz.prog 26 (sig n) :=
  con_tab [100, 101, 102, 103, 104, 105] Tryz.func26 (by decide) (by kernel_rfl) walk
end impl_verbs
namespace impl_makeVerb_only
def f (n : Nat) (x : Tup [.unit, tGateAsk]) : Option (Tup [tGateAsk]) :=
  some (((⟨#[]⟩ : ByteArray), (0 : Int), x.2.1.2.2.1, x.2.1.2.2.2.1, x.2.1.2.2.2.2.1, x.2.1.2.2.2.2.2.1, x.2.1.2.2.2.2.2.2.1, (0 : Int), (⟨#[]⟩ : ByteArray), (⟨#[]⟩ : ByteArray), ([], (⟨#[]⟩ : ByteArray), (⟨#[]⟩ : ByteArray), (⟨#[]⟩ : ByteArray), ()), (0 : Int), ()), ())
@[reducible] def sig (n : Nat) : Sig := ⟨[.unit, tGateAsk], [tGateAsk], false, f n, none, none⟩
def T (n : Nat) : FuncId → Option Sig := fun g => none
def TL (n : Nat) : Loops := fun j _ st k => none
theorem con (n : Nat) : Con Tryz.prog 116 (sig n) :=
  con_print (hsw := rfl) (hsx := rfl) (T := T n) (TL := TL n) (c := Tryz.f116.body.getD .skip) (js := []) hMixed conT_none Tryz.func116 (by decide) (by kernel_rfl) (by kernel_rfl) (by decide) LoopDef.nil (fun x => by kernel_rfl)
end impl_makeVerb_only
namespace impl_changeVerb_only
def f (n : Nat) (x : Tup [.unit, tGateAsk]) : Option (Tup [tGateAsk]) :=
  some (((⟨#[]⟩ : ByteArray), (0 : Int), x.2.1.2.2.1, x.2.1.2.2.2.1, (⟨#[]⟩ : ByteArray), x.2.1.2.2.2.2.2.1, [], x.2.1.2.2.2.2.2.2.2.1, (⟨#[]⟩ : ByteArray), (⟨#[]⟩ : ByteArray), ([], (⟨#[]⟩ : ByteArray), (⟨#[]⟩ : ByteArray), (⟨#[]⟩ : ByteArray), ()), (0 : Int), ()), ())
@[reducible] def sig (n : Nat) : Sig := ⟨[.unit, tGateAsk], [tGateAsk], false, f n, none, none⟩
def T (n : Nat) : FuncId → Option Sig := fun g => none
def TL (n : Nat) : Loops := fun j _ st k => none
theorem con (n : Nat) : Con Tryz.prog 121 (sig n) :=
  con_print (hsw := rfl) (hsx := rfl) (T := T n) (TL := TL n) (c := Tryz.f121.body.getD .skip) (js := []) hMixed conT_none Tryz.func121 (by decide) (by kernel_rfl) (by kernel_rfl) (by decide) LoopDef.nil (fun x => by kernel_rfl)
end impl_changeVerb_only
namespace impl_endVerb_only
def f (n : Nat) (x : Tup [.unit, tGateAsk]) : Option (Tup [tGateAsk]) :=
  some (((⟨#[]⟩ : ByteArray), (0 : Int), x.2.1.2.2.1, x.2.1.2.2.2.1, (⟨#[]⟩ : ByteArray), [], [], x.2.1.2.2.2.2.2.2.2.1, (⟨#[]⟩ : ByteArray), (⟨#[]⟩ : ByteArray), ([], (⟨#[]⟩ : ByteArray), (⟨#[]⟩ : ByteArray), (⟨#[]⟩ : ByteArray), ()), (0 : Int), ()), ())
@[reducible] def sig (n : Nat) : Sig := ⟨[.unit, tGateAsk], [tGateAsk], true, f n, none, none⟩
def T (n : Nat) : FuncId → Option Sig := fun g => none
def TL (n : Nat) : Loops := fun j _ st k => none
theorem con (n : Nat) : Con Tryz.prog 124 (sig n) :=
  con_print (hsw := rfl) (hsx := rfl) (T := T n) (TL := TL n) (c := Tryz.f124.body.getD .skip) (js := []) hMixed conT_none Tryz.func124 (by decide) (by kernel_rfl) (by kernel_rfl) (by decide) LoopDef.nil (fun x => by kernel_rfl)
end impl_endVerb_only
namespace impl_letGoVerb_only
def f (n : Nat) (x : Tup [.unit, tGateAsk]) : Option (Tup [tGateAsk]) :=
  some (((⟨#[]⟩ : ByteArray), (0 : Int), x.2.1.2.2.1, x.2.1.2.2.2.1, (⟨#[]⟩ : ByteArray), [], [], (0 : Int), x.2.1.2.2.2.2.2.2.2.2.1, (⟨#[]⟩ : ByteArray), ([], (⟨#[]⟩ : ByteArray), (⟨#[]⟩ : ByteArray), (⟨#[]⟩ : ByteArray), ()), (0 : Int), ()), ())
@[reducible] def sig (n : Nat) : Sig := ⟨[.unit, tGateAsk], [tGateAsk], true, f n, none, none⟩
def T (n : Nat) : FuncId → Option Sig := fun g => none
def TL (n : Nat) : Loops := fun j _ st k => none
theorem con (n : Nat) : Con Tryz.prog 127 (sig n) :=
  con_print (hsw := rfl) (hsx := rfl) (T := T n) (TL := TL n) (c := Tryz.f127.body.getD .skip) (js := []) hMixed conT_none Tryz.func127 (by decide) (by kernel_rfl) (by kernel_rfl) (by decide) LoopDef.nil (fun x => by kernel_rfl)
end impl_letGoVerb_only
namespace impl_giveVerb_only
def f (n : Nat) (x : Tup [.unit, tGateAsk]) : Option (Tup [tGateAsk]) :=
  some (((⟨#[]⟩ : ByteArray), (0 : Int), (⟨#[]⟩ : ByteArray), (⟨#[]⟩ : ByteArray), (⟨#[]⟩ : ByteArray), [], [], (0 : Int), (⟨#[]⟩ : ByteArray), x.2.1.2.2.2.2.2.2.2.2.2.1, x.2.1.2.2.2.2.2.2.2.2.2.2.1, (0 : Int), ()), ())
@[reducible] def sig (n : Nat) : Sig := ⟨[.unit, tGateAsk], [tGateAsk], false, f n, none, none⟩
def T (n : Nat) : FuncId → Option Sig := fun g => none
def TL (n : Nat) : Loops := fun j _ st k => none
theorem con (n : Nat) : Con Tryz.prog 130 (sig n) :=
  con_print (hsw := rfl) (hsx := rfl) (T := T n) (TL := TL n) (c := Tryz.f130.body.getD .skip) (js := []) hMixed conT_none Tryz.func130 (by decide) (by kernel_rfl) (by kernel_rfl) (by decide) LoopDef.nil (fun x => by kernel_rfl)
end impl_giveVerb_only
namespace impl_takeVerb_only
def f (n : Nat) (x : Tup [.unit, tGateAsk]) : Option (Tup [tGateAsk]) :=
  some (((⟨#[]⟩ : ByteArray), (0 : Int), (⟨#[]⟩ : ByteArray), (⟨#[]⟩ : ByteArray), (⟨#[]⟩ : ByteArray), [], [], (0 : Int), (⟨#[]⟩ : ByteArray), (⟨#[]⟩ : ByteArray), ([], (⟨#[]⟩ : ByteArray), (⟨#[]⟩ : ByteArray), (⟨#[]⟩ : ByteArray), ()), x.2.1.2.2.2.2.2.2.2.2.2.2.2), ())
@[reducible] def sig (n : Nat) : Sig := ⟨[.unit, tGateAsk], [tGateAsk], true, f n, none, none⟩
def T (n : Nat) : FuncId → Option Sig := fun g => none
def TL (n : Nat) : Loops := fun j _ st k => none
theorem con (n : Nat) : Con Tryz.prog 133 (sig n) :=
  con_print (hsw := rfl) (hsx := rfl) (T := T n) (TL := TL n) (c := Tryz.f133.body.getD .skip) (js := []) hMixed conT_none Tryz.func133 (by decide) (by kernel_rfl) (by kernel_rfl) (by decide) LoopDef.nil (fun x => by kernel_rfl)
end impl_takeVerb_only
namespace impl_equalTexts
@[reducible] def l4 : LSpec := ⟨[(0, .d (.slice .str)), (1, .d (.slice .str)), (12, .d (.int .i64)), (13, .d (.int .i64))], [(.ret, [(4, .d .bool)]), (.exit 0, [])]⟩
def B4 (n : Nat) {R : Type} (next : Sden l4.inS → Option R) (cs : Conts R l4.outs) (x : Sden l4.inS) : Option R :=
  if (decide (x.2.2.2.1 < x.2.2.1)) = true then
   if (!true || (decide (0 ≤ x.2.2.2.1 ∧ x.2.2.2.1 < (List.length x.1 : Int)))) = true then
   if (!true || (decide (0 ≤ x.2.2.2.1 ∧ x.2.2.2.1 < (List.length x.2.1 : Int)))) = true then
   if (!seq (List.getD x.1 (Int.toNat x.2.2.2.1) (⟨#[]⟩ : ByteArray)) (List.getD x.2.1 (Int.toNat x.2.2.2.1) (⟨#[]⟩ : ByteArray))) = true then
   cs.1 (false, ())
 else
   next (x.1, x.2.1, x.2.2.1, (IntKind.i64.wrap (x.2.2.2.1 + (1 : Int))), ())
 else
   none
 else
   none
 else
   cs.2.1 ()
def f (n : Nat) (x : Tup [(.slice .str), (.slice .str)]) : Option (Tup [.bool]) :=
  if ((List.length x.1 : Int) != (List.length x.2.1 : Int)) = true then
   some (false, ())
 else
   runL (B4 n) ((fun z1 =>
     some (z1.1, ())), (fun z2 =>
     some (true, ())), ()) n (x.1, x.2.1, (List.length x.1 : Int), (0 : Int), ())
@[reducible] def sig (n : Nat) : Sig := ⟨[(.slice .str), (.slice .str)], [.bool], false, f n, none, none⟩
def T (n : Nat) : FuncId → Option Sig := fun g => none
def TL (n : Nat) : Loops := fun j _ st k => if Nat.beq j 4 = true then (match dec st l4.inS [] with | some x => runL (B4 n) (contsOf k l4.outs) n x | none => none) else none
theorem d4 (n : Nat) : LoopDef Tryz.prog (T n) (TL n) Tryz.f27 4 :=
  ⟨l4, fun R => B4 n, n, fun R st k => by kernel_rfl, fun R next cs x => by kernel_rfl⟩
theorem con (n : Nat) : Con Tryz.prog 27 (sig n) :=
  con_print (hsw := rfl) (hsx := rfl) (T := T n) (TL := TL n) (c := Tryz.f27.body.getD .skip) (js := [4]) hMixed conT_none Tryz.func27 (by decide) (by kernel_rfl) (by kernel_rfl) (by decide) (LoopDef.cons (d4 n) LoopDef.nil) (fun x => by kernel_rfl)
end impl_equalTexts
namespace impl_sameRule
@[reducible] def l4 : LSpec := ⟨[(2, .rb tGateRule), (3, .rb tGateRule), (36, .d (.int .i64)), (37, .d (.int .i64))], [(.ret, [(4, .d .bool)]), (.exit 0, [])]⟩
def B4 (n : Nat) {R : Type} (next : Sden l4.inS → Option R) (cs : Conts R l4.outs) (x : Sden l4.inS) : Option R :=
  if (decide (x.2.2.2.1 < x.2.2.1)) = true then
   if (!true || (decide (0 ≤ x.2.2.2.1 ∧ x.2.2.2.1 < (List.length x.1.1 : Int)))) = true then
   if (!true || (decide (0 ≤ x.2.2.2.1 ∧ x.2.2.2.1 < (List.length x.2.1.1 : Int)))) = true then
   if ((List.getD x.1.1 (Int.toNat x.2.2.2.1) (0 : Int)) != (List.getD x.2.1.1 (Int.toNat x.2.2.2.1) (0 : Int))) = true then
   cs.1 (false, ())
 else
   next (x.1, x.2.1, x.2.2.1, (IntKind.i64.wrap (x.2.2.2.1 + (1 : Int))), ())
 else
   none
 else
   none
 else
   cs.2.1 ()
def f (n : Nat) (x : Tup [tGateRule, tGateRule]) : Option (Tup [.bool]) :=
  if (((((List.length x.1.1 : Int) != (List.length x.2.1.1 : Int)) || (!seq x.1.2.1 x.2.1.2.1)) || (!seq x.1.2.2.1 x.2.1.2.2.1)) || (!seq x.1.2.2.2.1 x.2.1.2.2.2.1)) = true then
   some (false, ())
 else
   runL (B4 n) ((fun z1 =>
     some (z1.1, ())), (fun z2 =>
     some (true, ())), ()) n (x.1, x.2.1, (List.length x.1.1 : Int), (0 : Int), ())
@[reducible] def sig (n : Nat) : Sig := ⟨[tGateRule, tGateRule], [.bool], false, f n, none, none⟩
def T (n : Nat) : FuncId → Option Sig := fun g => none
def TL (n : Nat) : Loops := fun j _ st k => if Nat.beq j 4 = true then (match dec st l4.inS [] with | some x => runL (B4 n) (contsOf k l4.outs) n x | none => none) else none
theorem d4 (n : Nat) : LoopDef Tryz.prog (T n) (TL n) Tryz.f28 4 :=
  ⟨l4, fun R => B4 n, n, fun R st k => by kernel_rfl, fun R next cs x => by kernel_rfl⟩
theorem con (n : Nat) : Con Tryz.prog 28 (sig n) :=
  con_print (hsw := rfl) (hsx := rfl) (T := T n) (TL := TL n) (c := Tryz.f28.body.getD .skip) (js := [4]) hMixed conT_none Tryz.func28 (by decide) (by kernel_rfl) (by kernel_rfl) (by decide) (LoopDef.cons (d4 n) LoopDef.nil) (fun x => by kernel_rfl)
end impl_sameRule
namespace impl_kindOk
def f (n : Nat) (x : Tup [tGateLaw, tGateAsk]) : Option (Tup [.bool]) :=
  (impl_shapeOf.f n (x.1.1, x.2.1.2.2.1, ())).bind fun y1 =>
 (if (decide (y1.1 ≥ (0 : Int))) = true then (impl_isName.f n (x.2.1.2.2.2.1, ())) else some (tzero [.bool])).bind fun y2 =>
 some (((decide (y1.1 ≥ (0 : Int))) && y2.1), ())
@[reducible] def sig (n : Nat) : Sig := ⟨[tGateLaw, tGateAsk], [.bool], false, f n, none, none⟩
def T (n : Nat) : FuncId → Option Sig := fun g => if Nat.beq g 25 = true then some (impl_isName.sig n) else if Nat.beq g 67 = true then some (impl_shapeOf.sig n) else none
def TL (n : Nat) : Loops := fun j _ st k => none
theorem con (n : Nat) : Con Tryz.prog 117 (sig n) :=
  con_print (hsw := rfl) (hsx := rfl) (T := T n) (TL := TL n) (c := Tryz.f117.body.getD .skip) (js := []) hMixed (conT_cons (impl_isName.con n) (conT_cons (impl_shapeOf.con n) conT_none)) Tryz.func117 (by decide) (by kernel_rfl) (by kernel_rfl) (by decide) LoopDef.nil (fun x => by kernel_rfl)
end impl_kindOk
namespace impl_valuesOk
def f (n : Nat) (x : Tup [tGateLaw, tGateAsk]) : Option (Tup [.bool]) :=
  (impl_shapeOf.f n (x.1.1, x.2.1.2.2.1, ())).bind fun y1 =>
 if (!(decide (y1.1 ≥ (0 : Int))) || (decide (0 ≤ y1.1 ∧ y1.1 < (List.length x.1.1 : Int)))) = true then
   some (((decide (y1.1 ≥ (0 : Int))) && ((List.length x.2.1.2.2.2.2.2.1 : Int) == (List.length (List.getD x.1.1 (Int.toNat y1.1) (Ty.zero tGateShape)).2.1 : Int))), ())
 else
   none
@[reducible] def sig (n : Nat) : Sig := ⟨[tGateLaw, tGateAsk], [.bool], false, f n, none, none⟩
def T (n : Nat) : FuncId → Option Sig := fun g => if Nat.beq g 67 = true then some (impl_shapeOf.sig n) else none
def TL (n : Nat) : Loops := fun j _ st k => none
theorem con (n : Nat) : Con Tryz.prog 118 (sig n) :=
  con_print (hsw := rfl) (hsx := rfl) (T := T n) (TL := TL n) (c := Tryz.f118.body.getD .skip) (js := []) hMixed (conT_cons (impl_shapeOf.con n) conT_none) Tryz.func118 (by decide) (by kernel_rfl) (by kernel_rfl) (by decide) LoopDef.nil (fun x => by kernel_rfl)
end impl_valuesOk
namespace impl_makeVerb_form
def f (n : Nat) (x : Tup [.unit, tGateLaw, tGateAsk]) : Option (Tup [.bool]) :=
  (impl_kindOk.f n (x.2.1, x.2.2.1, ())).bind fun y1 =>
 (if y1.1 = true then (impl_teamOf.f n (x.2.1.2.2.1, x.2.2.1.2.2.2.2.1, ())) else some (tzero [(.int .i64)])).bind fun y2 =>
 (if (y1.1 && (decide (y2.1 ≥ (0 : Int)))) = true then (impl_valuesOk.f n (x.2.1, x.2.2.1, ())) else some (tzero [.bool])).bind fun y3 =>
 (if (((y1.1 && (decide (y2.1 ≥ (0 : Int)))) && y3.1) && (decide ((List.length x.2.2.1.2.2.2.2.2.2.1 : Int) ≤ (3 : Int)))) = true then (impl_ascendingNames.f n (x.2.2.1.2.2.2.2.2.2.1, ())) else some (tzero [.bool])).bind fun y4 =>
 some (((((y1.1 && (decide (y2.1 ≥ (0 : Int)))) && y3.1) && (decide ((List.length x.2.2.1.2.2.2.2.2.2.1 : Int) ≤ (3 : Int)))) && y4.1), ())
@[reducible] def sig (n : Nat) : Sig := ⟨[.unit, tGateLaw, tGateAsk], [.bool], false, f n, none, none⟩
def T (n : Nat) : FuncId → Option Sig := fun g => if Nat.beq g 70 = true then some (impl_teamOf.sig n) else if Nat.beq g 81 = true then some (impl_ascendingNames.sig n) else if Nat.beq g 117 = true then some (impl_kindOk.sig n) else if Nat.beq g 118 = true then some (impl_valuesOk.sig n) else none
def TL (n : Nat) : Loops := fun j _ st k => none
theorem con (n : Nat) : Con Tryz.prog 115 (sig n) :=
  con_print (hsw := rfl) (hsx := rfl) (T := T n) (TL := TL n) (c := Tryz.f115.body.getD .skip) (js := []) hMixed (conT_cons (impl_teamOf.con n) (conT_cons (impl_ascendingNames.con n) (conT_cons (impl_kindOk.con n) (conT_cons (impl_valuesOk.con n) conT_none)))) Tryz.func115 (by decide) (by kernel_rfl) (by kernel_rfl) (by decide) LoopDef.nil (fun x => by kernel_rfl)
end impl_makeVerb_form
namespace impl_changeVerb_form
def f (n : Nat) (x : Tup [.unit, tGateLaw, tGateAsk]) : Option (Tup [.bool]) :=
  (impl_kindOk.f n (x.2.1, x.2.2.1, ())).bind fun y1 =>
 (if y1.1 = true then (impl_valuesOk.f n (x.2.1, x.2.2.1, ())) else some (tzero [.bool])).bind fun y2 =>
 some (((y1.1 && y2.1) && (decide (x.2.2.1.2.2.2.2.2.2.2.1 ≥ (0 : Int)))), ())
@[reducible] def sig (n : Nat) : Sig := ⟨[.unit, tGateLaw, tGateAsk], [.bool], false, f n, none, none⟩
def T (n : Nat) : FuncId → Option Sig := fun g => if Nat.beq g 117 = true then some (impl_kindOk.sig n) else if Nat.beq g 118 = true then some (impl_valuesOk.sig n) else none
def TL (n : Nat) : Loops := fun j _ st k => none
theorem con (n : Nat) : Con Tryz.prog 120 (sig n) :=
  con_print (hsw := rfl) (hsx := rfl) (T := T n) (TL := TL n) (c := Tryz.f120.body.getD .skip) (js := []) hMixed (conT_cons (impl_kindOk.con n) (conT_cons (impl_valuesOk.con n) conT_none)) Tryz.func120 (by decide) (by kernel_rfl) (by kernel_rfl) (by decide) LoopDef.nil (fun x => by kernel_rfl)
end impl_changeVerb_form
namespace impl_endVerb_form
def f (n : Nat) (x : Tup [.unit, tGateLaw, tGateAsk]) : Option (Tup [.bool]) :=
  (impl_kindOk.f n (x.2.1, x.2.2.1, ())).bind fun y1 =>
 some ((y1.1 && (decide (x.2.2.1.2.2.2.2.2.2.2.1 ≥ (0 : Int)))), ())
@[reducible] def sig (n : Nat) : Sig := ⟨[.unit, tGateLaw, tGateAsk], [.bool], false, f n, none, none⟩
def T (n : Nat) : FuncId → Option Sig := fun g => if Nat.beq g 117 = true then some (impl_kindOk.sig n) else none
def TL (n : Nat) : Loops := fun j _ st k => none
theorem con (n : Nat) : Con Tryz.prog 123 (sig n) :=
  con_print (hsw := rfl) (hsx := rfl) (T := T n) (TL := TL n) (c := Tryz.f123.body.getD .skip) (js := []) hMixed (conT_cons (impl_kindOk.con n) conT_none) Tryz.func123 (by decide) (by kernel_rfl) (by kernel_rfl) (by decide) LoopDef.nil (fun x => by kernel_rfl)
end impl_endVerb_form
namespace impl_letGoVerb_form
def f (n : Nat) (x : Tup [.unit, tGateLaw, tGateAsk]) : Option (Tup [.bool]) :=
  (impl_kindOk.f n (x.2.1, x.2.2.1, ())).bind fun y1 =>
 (if y1.1 = true then (impl_isName.f n (x.2.2.1.2.2.2.2.2.2.2.2.1, ())) else some (tzero [.bool])).bind fun y2 =>
 some ((y1.1 && y2.1), ())
@[reducible] def sig (n : Nat) : Sig := ⟨[.unit, tGateLaw, tGateAsk], [.bool], false, f n, none, none⟩
def T (n : Nat) : FuncId → Option Sig := fun g => if Nat.beq g 25 = true then some (impl_isName.sig n) else if Nat.beq g 117 = true then some (impl_kindOk.sig n) else none
def TL (n : Nat) : Loops := fun j _ st k => none
theorem con (n : Nat) : Con Tryz.prog 126 (sig n) :=
  con_print (hsw := rfl) (hsx := rfl) (T := T n) (TL := TL n) (c := Tryz.f126.body.getD .skip) (js := []) hMixed (conT_cons (impl_isName.con n) (conT_cons (impl_kindOk.con n) conT_none)) Tryz.func126 (by decide) (by kernel_rfl) (by kernel_rfl) (by decide) LoopDef.nil (fun x => by kernel_rfl)
end impl_letGoVerb_form
namespace impl_GateRule_ok
@[reducible] def l4 : LSpec := ⟨[(1, .rb tGateRule), (44, .d (.slice (.int .i64))), (45, .d (.int .i64)), (46, .d (.int .i64))], [(.ret, [(2, .d .bool)]), (.exit 0, [])]⟩
def B4 (n : Nat) {R : Type} (next : Sden l4.inS → Option R) (cs : Conts R l4.outs) (x : Sden l4.inS) : Option R :=
  if (decide (x.2.2.2.1 < x.2.2.1)) = true then
   if (decide (0 ≤ x.2.2.2.1 ∧ x.2.2.2.1 < (List.length x.2.1 : Int))) = true then
   if (!((!((decide ((List.getD x.2.1 (Int.toNat x.2.2.2.1) (0 : Int)) < (1 : Int))) || (decide ((List.getD x.2.1 (Int.toNat x.2.2.2.1) (0 : Int)) > (5 : Int))))) && (decide (x.2.2.2.1 > (0 : Int)))) || (decide (0 ≤ (IntKind.i64.wrap (x.2.2.2.1 - (1 : Int))) ∧ (IntKind.i64.wrap (x.2.2.2.1 - (1 : Int))) < (List.length x.1.1 : Int)))) = true then
   if (((decide ((List.getD x.2.1 (Int.toNat x.2.2.2.1) (0 : Int)) < (1 : Int))) || (decide ((List.getD x.2.1 (Int.toNat x.2.2.2.1) (0 : Int)) > (5 : Int)))) || ((decide (x.2.2.2.1 > (0 : Int))) && (decide ((List.getD x.1.1 (Int.toNat (IntKind.i64.wrap (x.2.2.2.1 - (1 : Int)))) (0 : Int)) ≥ (List.getD x.2.1 (Int.toNat x.2.2.2.1) (0 : Int)))))) = true then
   cs.1 (false, ())
 else
   next (x.1, x.2.1, x.2.2.1, (IntKind.i64.wrap (x.2.2.2.1 + (1 : Int))), ())
 else
   none
 else
   none
 else
   cs.2.1 ()
def f (n : Nat) (x : Tup [tGateRule]) : Option (Tup [.bool]) :=
  (if ((!((List.length x.1.1 : Int) == (0 : Int))) && (!seq x.1.2.1 (⟨#[]⟩ : ByteArray))) = true then (impl_isName.f n (x.1.2.1, ())) else some (tzero [.bool])).bind fun y1 =>
 (if ((!(((List.length x.1.1 : Int) == (0 : Int)) || ((!seq x.1.2.1 (⟨#[]⟩ : ByteArray)) && (!y1.1)))) && (!seq x.1.2.2.1 (⟨#[]⟩ : ByteArray))) = true then (impl_isName.f n (x.1.2.2.1, ())) else some (tzero [.bool])).bind fun y2 =>
 (if (!(((((List.length x.1.1 : Int) == (0 : Int)) || ((!seq x.1.2.1 (⟨#[]⟩ : ByteArray)) && (!y1.1))) || ((!seq x.1.2.2.1 (⟨#[]⟩ : ByteArray)) && (!y2.1))) || (decide ((ByteArray.size x.1.2.2.2.1 : Int) > (16 : Int))))) = true then (impl_nameBytes.f n (x.1.2.2.2.1, ())) else some (tzero [.bool])).bind fun y3 =>
 if ((((((List.length x.1.1 : Int) == (0 : Int)) || ((!seq x.1.2.1 (⟨#[]⟩ : ByteArray)) && (!y1.1))) || ((!seq x.1.2.2.1 (⟨#[]⟩ : ByteArray)) && (!y2.1))) || (decide ((ByteArray.size x.1.2.2.2.1 : Int) > (16 : Int)))) || (!y3.1)) = true then
   some (false, ())
 else
   runL (B4 n) ((fun z4 =>
     some (z4.1, ())), (fun z5 =>
     some (true, ())), ()) n (x.1, x.1.1, (List.length x.1.1 : Int), (0 : Int), ())
@[reducible] def sig (n : Nat) : Sig := ⟨[tGateRule], [.bool], false, f n, none, none⟩
def T (n : Nat) : FuncId → Option Sig := fun g => if Nat.beq g 25 = true then some (impl_isName.sig n) else if Nat.beq g 54 = true then some (impl_nameBytes.sig n) else none
def TL (n : Nat) : Loops := fun j _ st k => if Nat.beq j 4 = true then (match dec st l4.inS [] with | some x => runL (B4 n) (contsOf k l4.outs) n x | none => none) else none
theorem d4 (n : Nat) : LoopDef Tryz.prog (T n) (TL n) Tryz.f112 4 :=
  ⟨l4, fun R => B4 n, n, fun R st k => by kernel_rfl, fun R next cs x => by kernel_rfl⟩
theorem con (n : Nat) : Con Tryz.prog 112 (sig n) :=
  con_print (hsw := rfl) (hsx := rfl) (T := T n) (TL := TL n) (c := Tryz.f112.body.getD .skip) (js := [4]) hMixed (conT_cons (impl_isName.con n) (conT_cons (impl_nameBytes.con n) conT_none)) Tryz.func112 (by decide) (by kernel_rfl) (by kernel_rfl) (by decide) (LoopDef.cons (d4 n) LoopDef.nil) (fun x => by kernel_rfl)
end impl_GateRule_ok
namespace impl_giveVerb_form
def f (n : Nat) (x : Tup [.unit, tGateLaw, tGateAsk]) : Option (Tup [.bool]) :=
  (impl_isName.f n (x.2.2.1.2.2.2.2.2.2.2.2.2.1, ())).bind fun y1 =>
 (if y1.1 = true then (impl_GateRule_ok.f n (x.2.2.1.2.2.2.2.2.2.2.2.2.2.1, ())) else some (tzero [.bool])).bind fun y2 =>
 some ((y1.1 && y2.1), ())
@[reducible] def sig (n : Nat) : Sig := ⟨[.unit, tGateLaw, tGateAsk], [.bool], false, f n, none, none⟩
def T (n : Nat) : FuncId → Option Sig := fun g => if Nat.beq g 25 = true then some (impl_isName.sig n) else if Nat.beq g 112 = true then some (impl_GateRule_ok.sig n) else none
def TL (n : Nat) : Loops := fun j _ st k => none
theorem con (n : Nat) : Con Tryz.prog 129 (sig n) :=
  con_print (hsw := rfl) (hsx := rfl) (T := T n) (TL := TL n) (c := Tryz.f129.body.getD .skip) (js := []) hMixed (conT_cons (impl_isName.con n) (conT_cons (impl_GateRule_ok.con n) conT_none)) Tryz.func129 (by decide) (by kernel_rfl) (by kernel_rfl) (by decide) LoopDef.nil (fun x => by kernel_rfl)
end impl_giveVerb_form
namespace impl_takeVerb_form
def f (n : Nat) (x : Tup [.unit, tGateLaw, tGateAsk]) : Option (Tup [.bool]) :=
  some ((decide (x.2.2.1.2.2.2.2.2.2.2.2.2.2.2.1 ≥ (1 : Int))), ())
@[reducible] def sig (n : Nat) : Sig := ⟨[.unit, tGateLaw, tGateAsk], [.bool], false, f n, none, none⟩
def T (n : Nat) : FuncId → Option Sig := fun g => none
def TL (n : Nat) : Loops := fun j _ st k => none
theorem con (n : Nat) : Con Tryz.prog 132 (sig n) :=
  con_print (hsw := rfl) (hsx := rfl) (T := T n) (TL := TL n) (c := Tryz.f132.body.getD .skip) (js := []) hMixed conT_none Tryz.func132 (by decide) (by kernel_rfl) (by kernel_rfl) (by decide) LoopDef.nil (fun x => by kernel_rfl)
end impl_takeVerb_form
namespace impl_GateAskOk
def f (n : Nat) (x : Tup [tGateLaw, tGateAsk]) : Option (Tup [.bool]) :=
  (impl_GateLawOk.f n (x.1, ())).bind fun y1 =>
 (if (!(!y1.1)) = true then (impl_isName.f n (x.2.1.1, ())) else some (tzero [.bool])).bind fun y2 =>
 if ((((!y1.1) || (!y2.1)) || (decide (x.2.1.2.1 < (1 : Int)))) || (decide (x.2.1.2.1 > (6 : Int)))) = true then
 some (false, ())
 else if (decide (0 ≤ x.2.1.2.1 ∧ x.2.1.2.1 < (7 : Int))) = true then
   (if (decide ((x.2.1.2.1 - 1) = 0)) = true then ((impl_makeVerb_only.f n ((), x.2.1, ())).bind fun r => some r.1) else (if (decide (((x.2.1.2.1 - 1) - 1) = 0)) = true then ((impl_changeVerb_only.f n ((), x.2.1, ())).bind fun r => some r.1) else (if (decide ((((x.2.1.2.1 - 1) - 1) - 1) = 0)) = true then ((impl_endVerb_only.f n ((), x.2.1, ())).bind fun r => some r.1) else (if (decide (((((x.2.1.2.1 - 1) - 1) - 1) - 1) = 0)) = true then ((impl_letGoVerb_only.f n ((), x.2.1, ())).bind fun r => some r.1) else (if (decide ((((((x.2.1.2.1 - 1) - 1) - 1) - 1) - 1) = 0)) = true then ((impl_giveVerb_only.f n ((), x.2.1, ())).bind fun r => some r.1) else (if (decide (((((((x.2.1.2.1 - 1) - 1) - 1) - 1) - 1) - 1) = 0)) = true then ((impl_takeVerb_only.f n ((), x.2.1, ())).bind fun r => some r.1) else none)))))).bind fun y3 =>
 (if (((seq y3.2.2.1 x.2.1.2.2.1) && (seq y3.2.2.2.1 x.2.1.2.2.2.1)) && (seq y3.2.2.2.2.1 x.2.1.2.2.2.2.1)) = true then (impl_equalTexts.f n (y3.2.2.2.2.2.1, x.2.1.2.2.2.2.2.1, ())) else some (tzero [.bool])).bind fun y4 =>
 (if ((((seq y3.2.2.1 x.2.1.2.2.1) && (seq y3.2.2.2.1 x.2.1.2.2.2.1)) && (seq y3.2.2.2.2.1 x.2.1.2.2.2.2.1)) && y4.1) = true then (impl_equalTexts.f n (y3.2.2.2.2.2.2.1, x.2.1.2.2.2.2.2.2.1, ())) else some (tzero [.bool])).bind fun y5 =>
 (if ((((((((seq y3.2.2.1 x.2.1.2.2.1) && (seq y3.2.2.2.1 x.2.1.2.2.2.1)) && (seq y3.2.2.2.2.1 x.2.1.2.2.2.2.1)) && y4.1) && y5.1) && (y3.2.2.2.2.2.2.2.1 == x.2.1.2.2.2.2.2.2.2.1)) && (seq y3.2.2.2.2.2.2.2.2.1 x.2.1.2.2.2.2.2.2.2.2.1)) && (seq y3.2.2.2.2.2.2.2.2.2.1 x.2.1.2.2.2.2.2.2.2.2.2.1)) = true then (impl_sameRule.f n (y3.2.2.2.2.2.2.2.2.2.2.1, x.2.1.2.2.2.2.2.2.2.2.2.2.1, ())) else some (tzero [.bool])).bind fun y6 =>
 (if ((((((((((seq y3.2.2.1 x.2.1.2.2.1) && (seq y3.2.2.2.1 x.2.1.2.2.2.1)) && (seq y3.2.2.2.2.1 x.2.1.2.2.2.2.1)) && y4.1) && y5.1) && (y3.2.2.2.2.2.2.2.1 == x.2.1.2.2.2.2.2.2.2.1)) && (seq y3.2.2.2.2.2.2.2.2.1 x.2.1.2.2.2.2.2.2.2.2.1)) && (seq y3.2.2.2.2.2.2.2.2.2.1 x.2.1.2.2.2.2.2.2.2.2.2.1)) && y6.1) && (y3.2.2.2.2.2.2.2.2.2.2.2.1 == x.2.1.2.2.2.2.2.2.2.2.2.2.2.1)) = true then (if (decide ((x.2.1.2.1 - 1) = 0)) = true then ((impl_makeVerb_form.f n ((), x.1, x.2.1, ())).bind fun r => some r.1) else (if (decide (((x.2.1.2.1 - 1) - 1) = 0)) = true then ((impl_changeVerb_form.f n ((), x.1, x.2.1, ())).bind fun r => some r.1) else (if (decide ((((x.2.1.2.1 - 1) - 1) - 1) = 0)) = true then ((impl_endVerb_form.f n ((), x.1, x.2.1, ())).bind fun r => some r.1) else (if (decide (((((x.2.1.2.1 - 1) - 1) - 1) - 1) = 0)) = true then ((impl_letGoVerb_form.f n ((), x.1, x.2.1, ())).bind fun r => some r.1) else (if (decide ((((((x.2.1.2.1 - 1) - 1) - 1) - 1) - 1) = 0)) = true then ((impl_giveVerb_form.f n ((), x.1, x.2.1, ())).bind fun r => some r.1) else (if (decide (((((((x.2.1.2.1 - 1) - 1) - 1) - 1) - 1) - 1) = 0)) = true then ((impl_takeVerb_form.f n ((), x.1, x.2.1, ())).bind fun r => some r.1) else none)))))) else some false).bind fun y7 =>
 some ((((((((((((seq y3.2.2.1 x.2.1.2.2.1) && (seq y3.2.2.2.1 x.2.1.2.2.2.1)) && (seq y3.2.2.2.2.1 x.2.1.2.2.2.2.1)) && y4.1) && y5.1) && (y3.2.2.2.2.2.2.2.1 == x.2.1.2.2.2.2.2.2.2.1)) && (seq y3.2.2.2.2.2.2.2.2.1 x.2.1.2.2.2.2.2.2.2.2.1)) && (seq y3.2.2.2.2.2.2.2.2.2.1 x.2.1.2.2.2.2.2.2.2.2.2.1)) && y6.1) && (y3.2.2.2.2.2.2.2.2.2.2.2.1 == x.2.1.2.2.2.2.2.2.2.2.2.2.2.1)) && y7), ())
 else
   none
@[reducible] def sig (n : Nat) : Sig := ⟨[tGateLaw, tGateAsk], [.bool], false, f n, none, none⟩
def T (n : Nat) : FuncId → Option Sig := fun g => if Nat.beq g 24 = true then some (impl_GateLawOk.sig n) else if Nat.beq g 25 = true then some (impl_isName.sig n) else if Nat.beq g 26 = true then some (impl_verbs.sig n) else if Nat.beq g 27 = true then some (impl_equalTexts.sig n) else if Nat.beq g 28 = true then some (impl_sameRule.sig n) else if Nat.beq g 115 = true then some (impl_makeVerb_form.sig n) else if Nat.beq g 116 = true then some (impl_makeVerb_only.sig n) else if Nat.beq g 120 = true then some (impl_changeVerb_form.sig n) else if Nat.beq g 121 = true then some (impl_changeVerb_only.sig n) else if Nat.beq g 123 = true then some (impl_endVerb_form.sig n) else if Nat.beq g 124 = true then some (impl_endVerb_only.sig n) else if Nat.beq g 126 = true then some (impl_letGoVerb_form.sig n) else if Nat.beq g 127 = true then some (impl_letGoVerb_only.sig n) else if Nat.beq g 129 = true then some (impl_giveVerb_form.sig n) else if Nat.beq g 130 = true then some (impl_giveVerb_only.sig n) else if Nat.beq g 132 = true then some (impl_takeVerb_form.sig n) else if Nat.beq g 133 = true then some (impl_takeVerb_only.sig n) else none
def TL (n : Nat) : Loops := fun j _ st k => none
theorem con (n : Nat) : Con Tryz.prog 9 (sig n) :=
  con_print (hsw := rfl) (hsx := rfl) (T := T n) (TL := TL n) (c := Tryz.f9.body.getD .skip) (js := []) hMixed (conT_cons (impl_GateLawOk.con n) (conT_cons (impl_isName.con n) (conT_cons (impl_verbs.con n) (conT_cons (impl_equalTexts.con n) (conT_cons (impl_sameRule.con n) (conT_cons (impl_makeVerb_form.con n) (conT_cons (impl_makeVerb_only.con n) (conT_cons (impl_changeVerb_form.con n) (conT_cons (impl_changeVerb_only.con n) (conT_cons (impl_endVerb_form.con n) (conT_cons (impl_endVerb_only.con n) (conT_cons (impl_letGoVerb_form.con n) (conT_cons (impl_letGoVerb_only.con n) (conT_cons (impl_giveVerb_form.con n) (conT_cons (impl_giveVerb_only.con n) (conT_cons (impl_takeVerb_form.con n) (conT_cons (impl_takeVerb_only.con n) conT_none))))))))))))))))) Tryz.func9 (by decide) (by kernel_rfl) (by kernel_rfl) (by decide) LoopDef.nil (fun x => by kernel_rfl)
end impl_GateAskOk
namespace laws_eqStringS
@[reducible] def l4 : LSpec := ⟨[(0, .d (.slice .str)), (1, .d (.slice .str)), (5, .d (.int .i64))], [(.ret, [(4, .d .bool)]), (.exit 0, [])]⟩
def B4 (n : Nat) {R : Type} (next : Sden l4.inS → Option R) (cs : Conts R l4.outs) (x : Sden l4.inS) : Option R :=
  if (decide (x.2.2.1 < (List.length x.1 : Int))) = true then
   if (!true || (decide (0 ≤ x.2.2.1 ∧ x.2.2.1 < (List.length x.1 : Int)))) = true then
   if (!true || (decide (0 ≤ x.2.2.1 ∧ x.2.2.1 < (List.length x.2.1 : Int)))) = true then
   if (!seq (List.getD x.1 (Int.toNat x.2.2.1) (⟨#[]⟩ : ByteArray)) (List.getD x.2.1 (Int.toNat x.2.2.1) (⟨#[]⟩ : ByteArray))) = true then
   cs.1 (false, ())
 else
   next (x.1, x.2.1, (IntKind.i64.wrap (x.2.2.1 + (1 : Int))), ())
 else
   none
 else
   none
 else
   cs.2.1 ()
def f (n : Nat) (x : Tup [(.slice .str), (.slice .str)]) : Option (Tup [.bool]) :=
  if ((List.length x.1 : Int) != (List.length x.2.1 : Int)) = true then
   some (false, ())
 else
   runL (B4 n) ((fun z1 =>
     some (z1.1, ())), (fun z2 =>
     some (true, ())), ()) n (x.1, x.2.1, (0 : Int), ())
@[reducible] def sig (n : Nat) : Sig := ⟨[(.slice .str), (.slice .str)], [.bool], false, f n, none, none⟩
def T (n : Nat) : FuncId → Option Sig := fun g => none
def TL (n : Nat) : Loops := fun j _ st k => if Nat.beq j 4 = true then (match dec st l4.inS [] with | some x => runL (B4 n) (contsOf k l4.outs) n x | none => none) else none
theorem d4 (n : Nat) : LoopDef Tryz.prog (T n) (TL n) Tryz.f32 4 :=
  ⟨l4, fun R => B4 n, n, fun R st k => by kernel_rfl, fun R next cs x => by kernel_rfl⟩
theorem con (n : Nat) : Con Tryz.prog 32 (sig n) :=
  con_print (hsw := rfl) (hsx := rfl) (T := T n) (TL := TL n) (c := Tryz.f32.body.getD .skip) (js := [4]) hMixed conT_none Tryz.func32 (by decide) (by kernel_rfl) (by kernel_rfl) (by decide) (LoopDef.cons (d4 n) LoopDef.nil) (fun x => by kernel_rfl)
end laws_eqStringS
namespace laws_eqGateField
def f (n : Nat) (x : Tup [tGateField, tGateField]) : Option (Tup [.bool]) :=
  if (!seq x.1.1 x.2.1.1) = true then
 some (false, ())
 else if (x.1.2.1 != x.2.1.2.1) = true then
 some (false, ())
 else if (x.1.2.2.1 != x.2.1.2.2.1) = true then
 some (false, ())
 else if (x.1.2.2.2.1 != x.2.1.2.2.2.1) = true then
   some (false, ())
 else
   (laws_eqStringS.f n (x.1.2.2.2.2.1, x.2.1.2.2.2.2.1, ())).bind fun y1 =>
 if (!y1.1) = true then
 some (false, ())
 else if (!seq x.1.2.2.2.2.2.1 x.2.1.2.2.2.2.2.1) = true then
 some (false, ())
 else if (x.1.2.2.2.2.2.2.1 != x.2.1.2.2.2.2.2.2.1) = true then
 some (false, ())
 else if (!(x.1.2.2.2.2.2.2.2.1 == x.2.1.2.2.2.2.2.2.2.1)) = true then
 some (false, ())
 else if (!(x.1.2.2.2.2.2.2.2.2.1 == x.2.1.2.2.2.2.2.2.2.2.1)) = true then
 some (false, ())
 else if (!seq x.1.2.2.2.2.2.2.2.2.2.1 x.2.1.2.2.2.2.2.2.2.2.2.1) = true then
 some (false, ())
 else if (!seq x.1.2.2.2.2.2.2.2.2.2.2.1 x.2.1.2.2.2.2.2.2.2.2.2.2.1) = true then
   some (false, ())
 else
   some (true, ())
@[reducible] def sig (n : Nat) : Sig := ⟨[tGateField, tGateField], [.bool], false, f n, none, none⟩
def T (n : Nat) : FuncId → Option Sig := fun g => if Nat.beq g 32 = true then some (laws_eqStringS.sig n) else none
def TL (n : Nat) : Loops := fun j _ st k => none
theorem con (n : Nat) : Con Tryz.prog 88 (sig n) :=
  con_print (hsw := rfl) (hsx := rfl) (T := T n) (TL := TL n) (c := Tryz.f88.body.getD .skip) (js := []) hMixed (conT_cons (laws_eqStringS.con n) conT_none) Tryz.func88 (by decide) (by kernel_rfl) (by kernel_rfl) (by decide) LoopDef.nil (fun x => by kernel_rfl)
end laws_eqGateField
namespace laws_eqGateFieldS
@[reducible] def l4 : LSpec := ⟨[(0, .d (.slice tGateField)), (1, .d (.slice tGateField)), (5, .d (.int .i64))], [(.ret, [(4, .d .bool)]), (.exit 0, [])]⟩
def B4 (n : Nat) {R : Type} (next : Sden l4.inS → Option R) (cs : Conts R l4.outs) (x : Sden l4.inS) : Option R :=
  if (decide (x.2.2.1 < (List.length x.1 : Int))) = true then
   if (!true || (decide (0 ≤ x.2.2.1 ∧ x.2.2.1 < (List.length x.1 : Int)))) = true then
   if (!true || (decide (0 ≤ x.2.2.1 ∧ x.2.2.1 < (List.length x.2.1 : Int)))) = true then
   (laws_eqGateField.f n ((List.getD x.1 (Int.toNat x.2.2.1) (Ty.zero tGateField)), (List.getD x.2.1 (Int.toNat x.2.2.1) (Ty.zero tGateField)), ())).bind fun y1 =>
 if (!y1.1) = true then
   cs.1 (false, ())
 else
   next (x.1, x.2.1, (IntKind.i64.wrap (x.2.2.1 + (1 : Int))), ())
 else
   none
 else
   none
 else
   cs.2.1 ()
def f (n : Nat) (x : Tup [(.slice tGateField), (.slice tGateField)]) : Option (Tup [.bool]) :=
  if ((List.length x.1 : Int) != (List.length x.2.1 : Int)) = true then
   some (false, ())
 else
   runL (B4 n) ((fun z2 =>
     some (z2.1, ())), (fun z3 =>
     some (true, ())), ()) n (x.1, x.2.1, (0 : Int), ())
@[reducible] def sig (n : Nat) : Sig := ⟨[(.slice tGateField), (.slice tGateField)], [.bool], false, f n, none, none⟩
def T (n : Nat) : FuncId → Option Sig := fun g => if Nat.beq g 88 = true then some (laws_eqGateField.sig n) else none
def TL (n : Nat) : Loops := fun j _ st k => if Nat.beq j 4 = true then (match dec st l4.inS [] with | some x => runL (B4 n) (contsOf k l4.outs) n x | none => none) else none
theorem d4 (n : Nat) : LoopDef Tryz.prog (T n) (TL n) Tryz.f72 4 :=
  ⟨l4, fun R => B4 n, n, fun R st k => by kernel_rfl, fun R next cs x => by kernel_rfl⟩
theorem con (n : Nat) : Con Tryz.prog 72 (sig n) :=
  con_print (hsw := rfl) (hsx := rfl) (T := T n) (TL := TL n) (c := Tryz.f72.body.getD .skip) (js := [4]) hMixed (conT_cons (laws_eqGateField.con n) conT_none) Tryz.func72 (by decide) (by kernel_rfl) (by kernel_rfl) (by decide) (LoopDef.cons (d4 n) LoopDef.nil) (fun x => by kernel_rfl)
end laws_eqGateFieldS
namespace laws_eqGateShape
def f (n : Nat) (x : Tup [tGateShape, tGateShape]) : Option (Tup [.bool]) :=
  if (!seq x.1.1 x.2.1.1) = true then
   some (false, ())
 else
   (laws_eqGateFieldS.f n (x.1.2.1, x.2.1.2.1, ())).bind fun y1 =>
 if (!y1.1) = true then
   some (false, ())
 else
   some (true, ())
@[reducible] def sig (n : Nat) : Sig := ⟨[tGateShape, tGateShape], [.bool], false, f n, none, none⟩
def T (n : Nat) : FuncId → Option Sig := fun g => if Nat.beq g 72 = true then some (laws_eqGateFieldS.sig n) else none
def TL (n : Nat) : Loops := fun j _ st k => none
theorem con (n : Nat) : Con Tryz.prog 55 (sig n) :=
  con_print (hsw := rfl) (hsx := rfl) (T := T n) (TL := TL n) (c := Tryz.f55.body.getD .skip) (js := []) hMixed (conT_cons (laws_eqGateFieldS.con n) conT_none) Tryz.func55 (by decide) (by kernel_rfl) (by kernel_rfl) (by decide) LoopDef.nil (fun x => by kernel_rfl)
end laws_eqGateShape
namespace laws_eqGateShapeS
@[reducible] def l4 : LSpec := ⟨[(0, .d (.slice tGateShape)), (1, .d (.slice tGateShape)), (5, .d (.int .i64))], [(.ret, [(4, .d .bool)]), (.exit 0, [])]⟩
def B4 (n : Nat) {R : Type} (next : Sden l4.inS → Option R) (cs : Conts R l4.outs) (x : Sden l4.inS) : Option R :=
  if (decide (x.2.2.1 < (List.length x.1 : Int))) = true then
   if (!true || (decide (0 ≤ x.2.2.1 ∧ x.2.2.1 < (List.length x.1 : Int)))) = true then
   if (!true || (decide (0 ≤ x.2.2.1 ∧ x.2.2.1 < (List.length x.2.1 : Int)))) = true then
   (laws_eqGateShape.f n ((List.getD x.1 (Int.toNat x.2.2.1) (Ty.zero tGateShape)), (List.getD x.2.1 (Int.toNat x.2.2.1) (Ty.zero tGateShape)), ())).bind fun y1 =>
 if (!y1.1) = true then
   cs.1 (false, ())
 else
   next (x.1, x.2.1, (IntKind.i64.wrap (x.2.2.1 + (1 : Int))), ())
 else
   none
 else
   none
 else
   cs.2.1 ()
def f (n : Nat) (x : Tup [(.slice tGateShape), (.slice tGateShape)]) : Option (Tup [.bool]) :=
  if ((List.length x.1 : Int) != (List.length x.2.1 : Int)) = true then
   some (false, ())
 else
   runL (B4 n) ((fun z2 =>
     some (z2.1, ())), (fun z3 =>
     some (true, ())), ()) n (x.1, x.2.1, (0 : Int), ())
@[reducible] def sig (n : Nat) : Sig := ⟨[(.slice tGateShape), (.slice tGateShape)], [.bool], false, f n, none, none⟩
def T (n : Nat) : FuncId → Option Sig := fun g => if Nat.beq g 55 = true then some (laws_eqGateShape.sig n) else none
def TL (n : Nat) : Loops := fun j _ st k => if Nat.beq j 4 = true then (match dec st l4.inS [] with | some x => runL (B4 n) (contsOf k l4.outs) n x | none => none) else none
theorem d4 (n : Nat) : LoopDef Tryz.prog (T n) (TL n) Tryz.f29 4 :=
  ⟨l4, fun R => B4 n, n, fun R st k => by kernel_rfl, fun R next cs x => by kernel_rfl⟩
theorem con (n : Nat) : Con Tryz.prog 29 (sig n) :=
  con_print (hsw := rfl) (hsx := rfl) (T := T n) (TL := TL n) (c := Tryz.f29.body.getD .skip) (js := [4]) hMixed (conT_cons (laws_eqGateShape.con n) conT_none) Tryz.func29 (by decide) (by kernel_rfl) (by kernel_rfl) (by decide) (LoopDef.cons (d4 n) LoopDef.nil) (fun x => by kernel_rfl)
end laws_eqGateShapeS
namespace laws_eqGateMend
def f (n : Nat) (x : Tup [tGateMend, tGateMend]) : Option (Tup [.bool]) :=
  if (!seq x.1.1 x.2.1.1) = true then
 some (false, ())
 else if (!seq x.1.2.1 x.2.1.2.1) = true then
 some (false, ())
 else if (!seq x.1.2.2.1 x.2.1.2.2.1) = true then
 some (false, ())
 else if (!seq x.1.2.2.2.1 x.2.1.2.2.2.1) = true then
 some (false, ())
 else if (!seq x.1.2.2.2.2.1 x.2.1.2.2.2.2.1) = true then
 some (false, ())
 else if (!seq x.1.2.2.2.2.2.1 x.2.1.2.2.2.2.2.1) = true then
   some (false, ())
 else
   some (true, ())
@[reducible] def sig (n : Nat) : Sig := ⟨[tGateMend, tGateMend], [.bool], false, f n, none, none⟩
def T (n : Nat) : FuncId → Option Sig := fun g => none
def TL (n : Nat) : Loops := fun j _ st k => none
theorem con (n : Nat) : Con Tryz.prog 56 (sig n) :=
  con_print (hsw := rfl) (hsx := rfl) (T := T n) (TL := TL n) (c := Tryz.f56.body.getD .skip) (js := []) hMixed conT_none Tryz.func56 (by decide) (by kernel_rfl) (by kernel_rfl) (by decide) LoopDef.nil (fun x => by kernel_rfl)
end laws_eqGateMend
namespace laws_eqGateMendS
@[reducible] def l4 : LSpec := ⟨[(0, .d (.slice tGateMend)), (1, .d (.slice tGateMend)), (5, .d (.int .i64))], [(.ret, [(4, .d .bool)]), (.exit 0, [])]⟩
def B4 (n : Nat) {R : Type} (next : Sden l4.inS → Option R) (cs : Conts R l4.outs) (x : Sden l4.inS) : Option R :=
  if (decide (x.2.2.1 < (List.length x.1 : Int))) = true then
   if (!true || (decide (0 ≤ x.2.2.1 ∧ x.2.2.1 < (List.length x.1 : Int)))) = true then
   if (!true || (decide (0 ≤ x.2.2.1 ∧ x.2.2.1 < (List.length x.2.1 : Int)))) = true then
   (laws_eqGateMend.f n ((List.getD x.1 (Int.toNat x.2.2.1) (Ty.zero tGateMend)), (List.getD x.2.1 (Int.toNat x.2.2.1) (Ty.zero tGateMend)), ())).bind fun y1 =>
 if (!y1.1) = true then
   cs.1 (false, ())
 else
   next (x.1, x.2.1, (IntKind.i64.wrap (x.2.2.1 + (1 : Int))), ())
 else
   none
 else
   none
 else
   cs.2.1 ()
def f (n : Nat) (x : Tup [(.slice tGateMend), (.slice tGateMend)]) : Option (Tup [.bool]) :=
  if ((List.length x.1 : Int) != (List.length x.2.1 : Int)) = true then
   some (false, ())
 else
   runL (B4 n) ((fun z2 =>
     some (z2.1, ())), (fun z3 =>
     some (true, ())), ()) n (x.1, x.2.1, (0 : Int), ())
@[reducible] def sig (n : Nat) : Sig := ⟨[(.slice tGateMend), (.slice tGateMend)], [.bool], false, f n, none, none⟩
def T (n : Nat) : FuncId → Option Sig := fun g => if Nat.beq g 56 = true then some (laws_eqGateMend.sig n) else none
def TL (n : Nat) : Loops := fun j _ st k => if Nat.beq j 4 = true then (match dec st l4.inS [] with | some x => runL (B4 n) (contsOf k l4.outs) n x | none => none) else none
theorem d4 (n : Nat) : LoopDef Tryz.prog (T n) (TL n) Tryz.f30 4 :=
  ⟨l4, fun R => B4 n, n, fun R st k => by kernel_rfl, fun R next cs x => by kernel_rfl⟩
theorem con (n : Nat) : Con Tryz.prog 30 (sig n) :=
  con_print (hsw := rfl) (hsx := rfl) (T := T n) (TL := TL n) (c := Tryz.f30.body.getD .skip) (js := [4]) hMixed (conT_cons (laws_eqGateMend.con n) conT_none) Tryz.func30 (by decide) (by kernel_rfl) (by kernel_rfl) (by decide) (LoopDef.cons (d4 n) LoopDef.nil) (fun x => by kernel_rfl)
end laws_eqGateMendS
namespace laws_eqGateTeam
def f (n : Nat) (x : Tup [tGateTeam, tGateTeam]) : Option (Tup [.bool]) :=
  if (!seq x.1.1 x.2.1.1) = true then
 some (false, ())
 else if (!seq x.1.2.1 x.2.1.2.1) = true then
   some (false, ())
 else
   some (true, ())
@[reducible] def sig (n : Nat) : Sig := ⟨[tGateTeam, tGateTeam], [.bool], false, f n, none, none⟩
def T (n : Nat) : FuncId → Option Sig := fun g => none
def TL (n : Nat) : Loops := fun j _ st k => none
theorem con (n : Nat) : Con Tryz.prog 57 (sig n) :=
  con_print (hsw := rfl) (hsx := rfl) (T := T n) (TL := TL n) (c := Tryz.f57.body.getD .skip) (js := []) hMixed conT_none Tryz.func57 (by decide) (by kernel_rfl) (by kernel_rfl) (by decide) LoopDef.nil (fun x => by kernel_rfl)
end laws_eqGateTeam
namespace laws_eqGateTeamS
@[reducible] def l4 : LSpec := ⟨[(0, .d (.slice tGateTeam)), (1, .d (.slice tGateTeam)), (5, .d (.int .i64))], [(.ret, [(4, .d .bool)]), (.exit 0, [])]⟩
def B4 (n : Nat) {R : Type} (next : Sden l4.inS → Option R) (cs : Conts R l4.outs) (x : Sden l4.inS) : Option R :=
  if (decide (x.2.2.1 < (List.length x.1 : Int))) = true then
   if (!true || (decide (0 ≤ x.2.2.1 ∧ x.2.2.1 < (List.length x.1 : Int)))) = true then
   if (!true || (decide (0 ≤ x.2.2.1 ∧ x.2.2.1 < (List.length x.2.1 : Int)))) = true then
   (laws_eqGateTeam.f n ((List.getD x.1 (Int.toNat x.2.2.1) (Ty.zero tGateTeam)), (List.getD x.2.1 (Int.toNat x.2.2.1) (Ty.zero tGateTeam)), ())).bind fun y1 =>
 if (!y1.1) = true then
   cs.1 (false, ())
 else
   next (x.1, x.2.1, (IntKind.i64.wrap (x.2.2.1 + (1 : Int))), ())
 else
   none
 else
   none
 else
   cs.2.1 ()
def f (n : Nat) (x : Tup [(.slice tGateTeam), (.slice tGateTeam)]) : Option (Tup [.bool]) :=
  if ((List.length x.1 : Int) != (List.length x.2.1 : Int)) = true then
   some (false, ())
 else
   runL (B4 n) ((fun z2 =>
     some (z2.1, ())), (fun z3 =>
     some (true, ())), ()) n (x.1, x.2.1, (0 : Int), ())
@[reducible] def sig (n : Nat) : Sig := ⟨[(.slice tGateTeam), (.slice tGateTeam)], [.bool], false, f n, none, none⟩
def T (n : Nat) : FuncId → Option Sig := fun g => if Nat.beq g 57 = true then some (laws_eqGateTeam.sig n) else none
def TL (n : Nat) : Loops := fun j _ st k => if Nat.beq j 4 = true then (match dec st l4.inS [] with | some x => runL (B4 n) (contsOf k l4.outs) n x | none => none) else none
theorem d4 (n : Nat) : LoopDef Tryz.prog (T n) (TL n) Tryz.f31 4 :=
  ⟨l4, fun R => B4 n, n, fun R st k => by kernel_rfl, fun R next cs x => by kernel_rfl⟩
theorem con (n : Nat) : Con Tryz.prog 31 (sig n) :=
  con_print (hsw := rfl) (hsx := rfl) (T := T n) (TL := TL n) (c := Tryz.f31.body.getD .skip) (js := [4]) hMixed (conT_cons (laws_eqGateTeam.con n) conT_none) Tryz.func31 (by decide) (by kernel_rfl) (by kernel_rfl) (by decide) (LoopDef.cons (d4 n) LoopDef.nil) (fun x => by kernel_rfl)
end laws_eqGateTeamS
namespace laws_eqGateLaw
def f (n : Nat) (x : Tup [tGateLaw, tGateLaw]) : Option (Tup [.bool]) :=
  (laws_eqGateShapeS.f n (x.1.1, x.2.1.1, ())).bind fun y1 =>
 if (!y1.1) = true then
   some (false, ())
 else
   (laws_eqGateMendS.f n (x.1.2.1, x.2.1.2.1, ())).bind fun y2 =>
 if (!y2.1) = true then
   some (false, ())
 else
   (laws_eqGateTeamS.f n (x.1.2.2.1, x.2.1.2.2.1, ())).bind fun y3 =>
 if (!y3.1) = true then
   some (false, ())
 else
   some (true, ())
@[reducible] def sig (n : Nat) : Sig := ⟨[tGateLaw, tGateLaw], [.bool], false, f n, none, none⟩
def T (n : Nat) : FuncId → Option Sig := fun g => if Nat.beq g 29 = true then some (laws_eqGateShapeS.sig n) else if Nat.beq g 30 = true then some (laws_eqGateMendS.sig n) else if Nat.beq g 31 = true then some (laws_eqGateTeamS.sig n) else none
def TL (n : Nat) : Loops := fun j _ st k => none
theorem con (n : Nat) : Con Tryz.prog 10 (sig n) :=
  con_print (hsw := rfl) (hsx := rfl) (T := T n) (TL := TL n) (c := Tryz.f10.body.getD .skip) (js := []) hMixed (conT_cons (laws_eqGateShapeS.con n) (conT_cons (laws_eqGateMendS.con n) (conT_cons (laws_eqGateTeamS.con n) conT_none))) Tryz.func10 (by decide) (by kernel_rfl) (by kernel_rfl) (by decide) LoopDef.nil (fun x => by kernel_rfl)
end laws_eqGateLaw
namespace laws_eqIntS
@[reducible] def l4 : LSpec := ⟨[(0, .d (.slice (.int .i64))), (1, .d (.slice (.int .i64))), (5, .d (.int .i64))], [(.ret, [(4, .d .bool)]), (.exit 0, [])]⟩
def B4 (n : Nat) {R : Type} (next : Sden l4.inS → Option R) (cs : Conts R l4.outs) (x : Sden l4.inS) : Option R :=
  if (decide (x.2.2.1 < (List.length x.1 : Int))) = true then
   if (!true || (decide (0 ≤ x.2.2.1 ∧ x.2.2.1 < (List.length x.1 : Int)))) = true then
   if (!true || (decide (0 ≤ x.2.2.1 ∧ x.2.2.1 < (List.length x.2.1 : Int)))) = true then
   if ((List.getD x.1 (Int.toNat x.2.2.1) (0 : Int)) != (List.getD x.2.1 (Int.toNat x.2.2.1) (0 : Int))) = true then
   cs.1 (false, ())
 else
   next (x.1, x.2.1, (IntKind.i64.wrap (x.2.2.1 + (1 : Int))), ())
 else
   none
 else
   none
 else
   cs.2.1 ()
def f (n : Nat) (x : Tup [(.slice (.int .i64)), (.slice (.int .i64))]) : Option (Tup [.bool]) :=
  if ((List.length x.1 : Int) != (List.length x.2.1 : Int)) = true then
   some (false, ())
 else
   runL (B4 n) ((fun z1 =>
     some (z1.1, ())), (fun z2 =>
     some (true, ())), ()) n (x.1, x.2.1, (0 : Int), ())
@[reducible] def sig (n : Nat) : Sig := ⟨[(.slice (.int .i64)), (.slice (.int .i64))], [.bool], false, f n, none, none⟩
def T (n : Nat) : FuncId → Option Sig := fun g => none
def TL (n : Nat) : Loops := fun j _ st k => if Nat.beq j 4 = true then (match dec st l4.inS [] with | some x => runL (B4 n) (contsOf k l4.outs) n x | none => none) else none
theorem d4 (n : Nat) : LoopDef Tryz.prog (T n) (TL n) Tryz.f58 4 :=
  ⟨l4, fun R => B4 n, n, fun R st k => by kernel_rfl, fun R next cs x => by kernel_rfl⟩
theorem con (n : Nat) : Con Tryz.prog 58 (sig n) :=
  con_print (hsw := rfl) (hsx := rfl) (T := T n) (TL := TL n) (c := Tryz.f58.body.getD .skip) (js := [4]) hMixed conT_none Tryz.func58 (by decide) (by kernel_rfl) (by kernel_rfl) (by decide) (LoopDef.cons (d4 n) LoopDef.nil) (fun x => by kernel_rfl)
end laws_eqIntS
namespace laws_eqGateRule
def f (n : Nat) (x : Tup [tGateRule, tGateRule]) : Option (Tup [.bool]) :=
  (laws_eqIntS.f n (x.1.1, x.2.1.1, ())).bind fun y1 =>
 if (!y1.1) = true then
 some (false, ())
 else if (!seq x.1.2.1 x.2.1.2.1) = true then
 some (false, ())
 else if (!seq x.1.2.2.1 x.2.1.2.2.1) = true then
 some (false, ())
 else if (!seq x.1.2.2.2.1 x.2.1.2.2.2.1) = true then
   some (false, ())
 else
   some (true, ())
@[reducible] def sig (n : Nat) : Sig := ⟨[tGateRule, tGateRule], [.bool], false, f n, none, none⟩
def T (n : Nat) : FuncId → Option Sig := fun g => if Nat.beq g 58 = true then some (laws_eqIntS.sig n) else none
def TL (n : Nat) : Loops := fun j _ st k => none
theorem con (n : Nat) : Con Tryz.prog 33 (sig n) :=
  con_print (hsw := rfl) (hsx := rfl) (T := T n) (TL := TL n) (c := Tryz.f33.body.getD .skip) (js := []) hMixed (conT_cons (laws_eqIntS.con n) conT_none) Tryz.func33 (by decide) (by kernel_rfl) (by kernel_rfl) (by decide) LoopDef.nil (fun x => by kernel_rfl)
end laws_eqGateRule
namespace laws_eqGateAsk
def f (n : Nat) (x : Tup [tGateAsk, tGateAsk]) : Option (Tup [.bool]) :=
  if (!seq x.1.1 x.2.1.1) = true then
 some (false, ())
 else if (x.1.2.1 != x.2.1.2.1) = true then
 some (false, ())
 else if (!seq x.1.2.2.1 x.2.1.2.2.1) = true then
 some (false, ())
 else if (!seq x.1.2.2.2.1 x.2.1.2.2.2.1) = true then
 some (false, ())
 else if (!seq x.1.2.2.2.2.1 x.2.1.2.2.2.2.1) = true then
   some (false, ())
 else
   (laws_eqStringS.f n (x.1.2.2.2.2.2.1, x.2.1.2.2.2.2.2.1, ())).bind fun y1 =>
 if (!y1.1) = true then
   some (false, ())
 else
   (laws_eqStringS.f n (x.1.2.2.2.2.2.2.1, x.2.1.2.2.2.2.2.2.1, ())).bind fun y2 =>
 if (!y2.1) = true then
 some (false, ())
 else if (x.1.2.2.2.2.2.2.2.1 != x.2.1.2.2.2.2.2.2.2.1) = true then
 some (false, ())
 else if (!seq x.1.2.2.2.2.2.2.2.2.1 x.2.1.2.2.2.2.2.2.2.2.1) = true then
 some (false, ())
 else if (!seq x.1.2.2.2.2.2.2.2.2.2.1 x.2.1.2.2.2.2.2.2.2.2.2.1) = true then
   some (false, ())
 else
   (laws_eqGateRule.f n (x.1.2.2.2.2.2.2.2.2.2.2.1, x.2.1.2.2.2.2.2.2.2.2.2.2.1, ())).bind fun y3 =>
 if (!y3.1) = true then
 some (false, ())
 else if (x.1.2.2.2.2.2.2.2.2.2.2.2.1 != x.2.1.2.2.2.2.2.2.2.2.2.2.2.1) = true then
   some (false, ())
 else
   some (true, ())
@[reducible] def sig (n : Nat) : Sig := ⟨[tGateAsk, tGateAsk], [.bool], false, f n, none, none⟩
def T (n : Nat) : FuncId → Option Sig := fun g => if Nat.beq g 32 = true then some (laws_eqStringS.sig n) else if Nat.beq g 33 = true then some (laws_eqGateRule.sig n) else none
def TL (n : Nat) : Loops := fun j _ st k => none
theorem con (n : Nat) : Con Tryz.prog 11 (sig n) :=
  con_print (hsw := rfl) (hsx := rfl) (T := T n) (TL := TL n) (c := Tryz.f11.body.getD .skip) (js := []) hMixed (conT_cons (laws_eqStringS.con n) (conT_cons (laws_eqGateRule.con n) conT_none)) Tryz.func11 (by decide) (by kernel_rfl) (by kernel_rfl) (by decide) LoopDef.nil (fun x => by kernel_rfl)
end laws_eqGateAsk
namespace laws_FnExactGateAskOk
def f (n : Nat) (x : Tup [tGateLaw, tGateAsk]) : Option (Tup [.bool]) :=
  (laws_szGateLaw.f n (x.1, (1048576 : Int), ())).bind fun y1 =>
 if (decide (y1.1 < (0 : Int))) = true then
   some (true, ())
 else
   (laws_szGateAsk.f n (x.2.1, y1.1, ())).bind fun y2 =>
 if (decide (y2.1 < (0 : Int))) = true then
   some (true, ())
 else
   (laws_toGateLaw.f n (x.1, ())).bind fun y3 =>
 (laws_toGateAsk.f n (x.2.1, ())).bind fun y4 =>
 (spec_GateAskOk.f n (y3.1, y4.1, ())).bind fun y5 =>
 (laws_toGateLaw.f n (x.1, ())).bind fun y6 =>
 (laws_toGateAsk.f n (x.2.1, ())).bind fun y7 =>
 (impl_GateAskOk.f n (y6.1, y7.1, ())).bind fun y8 =>
 if (!(y8.1 == y5.1)) = true then
   some (false, ())
 else
   (laws_toGateLaw.f n (x.1, ())).bind fun y9 =>
 (laws_eqGateLaw.f n (y6.1, y9.1, ())).bind fun y10 =>
 if (!y10.1) = true then
   some (false, ())
 else
   (laws_toGateAsk.f n (x.2.1, ())).bind fun y11 =>
 (laws_eqGateAsk.f n (y7.1, y11.1, ())).bind fun y12 =>
 if (!y12.1) = true then
   some (false, ())
 else
   some (true, ())
@[reducible] def sig (n : Nat) : Sig := ⟨[tGateLaw, tGateAsk], [.bool], false, f n, none, none⟩
def T (n : Nat) : FuncId → Option Sig := fun g => if Nat.beq g 4 = true then some (laws_szGateLaw.sig n) else if Nat.beq g 5 = true then some (laws_szGateAsk.sig n) else if Nat.beq g 6 = true then some (spec_GateAskOk.sig n) else if Nat.beq g 7 = true then some (laws_toGateLaw.sig n) else if Nat.beq g 8 = true then some (laws_toGateAsk.sig n) else if Nat.beq g 9 = true then some (impl_GateAskOk.sig n) else if Nat.beq g 10 = true then some (laws_eqGateLaw.sig n) else if Nat.beq g 11 = true then some (laws_eqGateAsk.sig n) else none
def TL (n : Nat) : Loops := fun j _ st k => none
theorem con (n : Nat) : Con Tryz.prog 3 (sig n) :=
  con_print (hsw := rfl) (hsx := rfl) (T := T n) (TL := TL n) (c := Tryz.f3.body.getD .skip) (js := []) hMixed (conT_cons (laws_szGateLaw.con n) (conT_cons (laws_szGateAsk.con n) (conT_cons (spec_GateAskOk.con n) (conT_cons (laws_toGateLaw.con n) (conT_cons (laws_toGateAsk.con n) (conT_cons (impl_GateAskOk.con n) (conT_cons (laws_eqGateLaw.con n) (conT_cons (laws_eqGateAsk.con n) conT_none)))))))) Tryz.func3 (by decide) (by kernel_rfl) (by kernel_rfl) (by decide) LoopDef.nil (fun x => by kernel_rfl)
end laws_FnExactGateAskOk
end Go.Proofs.YtmdkodbodddhpaaGreat
