import Derived.Test.YtbbdkoopiejpiabProg
import Derived.Test.YtbbdkoopiejpiabM4
set_option maxRecDepth 100000
set_option linter.unusedVariables false
namespace Go.Proofs.Ytbbdkoopiejpiab
open Go.Vm
abbrev tGateField : Ty := (.pair .str (.pair (.int .i64) (.pair (.int .i64) (.pair (.int .i64) (.pair (.slice .str) (.pair .str (.pair (.int .i64) (.pair .bool (.pair .bool (.pair .str (.pair .str .unit)))))))))))
abbrev tGateShape : Ty := (.pair .str (.pair (.slice tGateField) .unit))
abbrev tGateMend : Ty := (.pair .str (.pair .str (.pair .str (.pair .str (.pair .str (.pair .str .unit))))))
abbrev tGateObject : Ty := (.pair .str (.pair .str (.pair .str (.pair (.slice .str) (.pair .bool (.pair (.slice .str) (.pair (.int .i64) .unit)))))))
abbrev tnumberField : Ty := (.pair tGateField .unit)
abbrev twordField : Ty := tnumberField
abbrev ttextField : Ty := tnumberField
abbrev tlinkField : Ty := tnumberField
theorem hMixed : Try.prog.follows .mixedOrders = true := by kernel_rfl
namespace laws_szStringS
@[reducible] def l5 : LSpec := ⟨[(0, .d (.slice .str)), (1, .d (.int .i64)), (5, .d (.int .i64))], [(.ret, [(4, .d (.int .i64))]), (.exit 0, [(1, .d (.int .i64))])]⟩
def B5 (n : Nat) {R : Type} (next : Sden l5.inS → Option R) (cs : Conts R l5.outs) (x : Sden l5.inS) : Option R :=
  if (decide (x.2.2.1 < (List.length x.1 : Int))) = true then
    if (decide (0 ≤ x.2.2.1 ∧ x.2.2.1 < (List.length x.1 : Int))) = true then
      if (decide ((IntKind.i64.wrap (x.2.1 - (ByteArray.size (List.getD x.1 (Int.toNat x.2.2.1) (⟨#[]⟩ : ByteArray)) : Int))) < (0 : Int))) = true then
        cs.1 ((-1 : Int), ())
      else
        next (x.1, (IntKind.i64.wrap (x.2.1 - (ByteArray.size (List.getD x.1 (Int.toNat x.2.2.1) (⟨#[]⟩ : ByteArray)) : Int))), (IntKind.i64.wrap (x.2.2.1 + (1 : Int))), ())
    else
      none
  else
    cs.2.1 (x.2.1, ())
def f (n : Nat) (x : Tup [(.slice .str), (.int .i64)]) : Option (Tup [(.int .i64)]) :=
  if (decide ((IntKind.i64.wrap (x.2.1 - (List.length x.1 : Int))) < (0 : Int))) = true then
    some ((-1 : Int), ())
  else
    runL (B5 n) ((fun z1 =>
        some (z1.1, ())), (fun z2 =>
        some (z2.1, ())), ()) n (x.1, (IntKind.i64.wrap (x.2.1 - (List.length x.1 : Int))), (0 : Int), ())
@[reducible] def sig (n : Nat) : Sig := ⟨[(.slice .str), (.int .i64)], [(.int .i64)], false, f n, none⟩
def T (n : Nat) : FuncId → Option Sig := fun g => none
def TL (n : Nat) : Loops := fun j _ st k => if Nat.beq j 5 = true then (match dec st l5.inS [] with | some x => runL (B5 n) (contsOf k l5.outs) n x | none => none) else none
theorem d5 (n : Nat) : LoopDef Try.prog (T n) (TL n) Try.f21 5 :=
  ⟨l5, fun R => B5 n, n, fun R st k => by kernel_rfl, fun R next cs x => by kernel_rfl⟩
theorem con (n : Nat) : Con Try.prog 21 (sig n) :=
  con_print (hsw := rfl) (T := T n) (TL := TL n) (c := Try.f21.body.getD .skip) (js := [5]) hMixed conT_none Try.func21 (by decide) (by kernel_rfl) (by kernel_rfl) (by decide) (LoopDef.cons (d5 n) LoopDef.nil) (fun x => by kernel_rfl)
end laws_szStringS
namespace laws_szGateField
def f (n : Nat) (x : Tup [tGateField, (.int .i64)]) : Option (Tup [(.int .i64)]) :=
  if (decide ((IntKind.i64.wrap (x.2.1 - (ByteArray.size x.1.1 : Int))) < (0 : Int))) = true then
    some ((-1 : Int), ())
  else
    (laws_szStringS.f n (x.1.2.2.2.2.1, (IntKind.i64.wrap (x.2.1 - (ByteArray.size x.1.1 : Int))), ())).bind fun y1 =>
    if (decide (y1.1 < (0 : Int))) = true then
      some ((-1 : Int), ())
    else if (decide ((IntKind.i64.wrap (y1.1 - (ByteArray.size x.1.2.2.2.2.2.1 : Int))) < (0 : Int))) = true then
      some ((-1 : Int), ())
    else if (decide ((IntKind.i64.wrap ((IntKind.i64.wrap (y1.1 - (ByteArray.size x.1.2.2.2.2.2.1 : Int))) - (ByteArray.size x.1.2.2.2.2.2.2.2.2.2.1 : Int))) < (0 : Int))) = true then
      some ((-1 : Int), ())
    else if (decide ((IntKind.i64.wrap ((IntKind.i64.wrap ((IntKind.i64.wrap (y1.1 - (ByteArray.size x.1.2.2.2.2.2.1 : Int))) - (ByteArray.size x.1.2.2.2.2.2.2.2.2.2.1 : Int))) - (ByteArray.size x.1.2.2.2.2.2.2.2.2.2.2.1 : Int))) < (0 : Int))) = true then
      some ((-1 : Int), ())
    else
      some ((IntKind.i64.wrap ((IntKind.i64.wrap ((IntKind.i64.wrap (y1.1 - (ByteArray.size x.1.2.2.2.2.2.1 : Int))) - (ByteArray.size x.1.2.2.2.2.2.2.2.2.2.1 : Int))) - (ByteArray.size x.1.2.2.2.2.2.2.2.2.2.2.1 : Int))), ())
@[reducible] def sig (n : Nat) : Sig := ⟨[tGateField, (.int .i64)], [(.int .i64)], false, f n, none⟩
def T (n : Nat) : FuncId → Option Sig := fun g => if Nat.beq g 21 = true then some (laws_szStringS.sig n) else none
def TL (n : Nat) : Loops := fun j _ st k => none
theorem con (n : Nat) : Con Try.prog 55 (sig n) :=
  con_print (hsw := rfl) (T := T n) (TL := TL n) (c := Try.f55.body.getD .skip) (js := []) hMixed (conT_cons (laws_szStringS.con n) conT_none) Try.func55 (by decide) (by kernel_rfl) (by kernel_rfl) (by decide) LoopDef.nil (fun x => by kernel_rfl)
end laws_szGateField
namespace laws_szGateFieldS
@[reducible] def l5 : LSpec := ⟨[(0, .d (.slice tGateField)), (1, .d (.int .i64)), (5, .d (.int .i64))], [(.ret, [(4, .d (.int .i64))]), (.exit 0, [(1, .d (.int .i64))])]⟩
def B5 (n : Nat) {R : Type} (next : Sden l5.inS → Option R) (cs : Conts R l5.outs) (x : Sden l5.inS) : Option R :=
  if (decide (x.2.2.1 < (List.length x.1 : Int))) = true then
    if (decide (0 ≤ x.2.2.1 ∧ x.2.2.1 < (List.length x.1 : Int))) = true then
      (laws_szGateField.f n ((List.getD x.1 (Int.toNat x.2.2.1) (Ty.zero tGateField)), x.2.1, ())).bind fun y1 =>
      if (decide (y1.1 < (0 : Int))) = true then
        cs.1 ((-1 : Int), ())
      else
        next (x.1, y1.1, (IntKind.i64.wrap (x.2.2.1 + (1 : Int))), ())
    else
      none
  else
    cs.2.1 (x.2.1, ())
def f (n : Nat) (x : Tup [(.slice tGateField), (.int .i64)]) : Option (Tup [(.int .i64)]) :=
  if (decide ((IntKind.i64.wrap (x.2.1 - (List.length x.1 : Int))) < (0 : Int))) = true then
    some ((-1 : Int), ())
  else
    runL (B5 n) ((fun z2 =>
        some (z2.1, ())), (fun z3 =>
        some (z3.1, ())), ()) n (x.1, (IntKind.i64.wrap (x.2.1 - (List.length x.1 : Int))), (0 : Int), ())
@[reducible] def sig (n : Nat) : Sig := ⟨[(.slice tGateField), (.int .i64)], [(.int .i64)], false, f n, none⟩
def T (n : Nat) : FuncId → Option Sig := fun g => if Nat.beq g 55 = true then some (laws_szGateField.sig n) else none
def TL (n : Nat) : Loops := fun j _ st k => if Nat.beq j 5 = true then (match dec st l5.inS [] with | some x => runL (B5 n) (contsOf k l5.outs) n x | none => none) else none
theorem d5 (n : Nat) : LoopDef Try.prog (T n) (TL n) Try.f39 5 :=
  ⟨l5, fun R => B5 n, n, fun R st k => by kernel_rfl, fun R next cs x => by kernel_rfl⟩
theorem con (n : Nat) : Con Try.prog 39 (sig n) :=
  con_print (hsw := rfl) (T := T n) (TL := TL n) (c := Try.f39.body.getD .skip) (js := [5]) hMixed (conT_cons (laws_szGateField.con n) conT_none) Try.func39 (by decide) (by kernel_rfl) (by kernel_rfl) (by decide) (LoopDef.cons (d5 n) LoopDef.nil) (fun x => by kernel_rfl)
end laws_szGateFieldS
namespace laws_szGateShape
def f (n : Nat) (x : Tup [tGateShape, (.int .i64)]) : Option (Tup [(.int .i64)]) :=
  if (decide ((IntKind.i64.wrap (x.2.1 - (ByteArray.size x.1.1 : Int))) < (0 : Int))) = true then
    some ((-1 : Int), ())
  else
    (laws_szGateFieldS.f n (x.1.2.1, (IntKind.i64.wrap (x.2.1 - (ByteArray.size x.1.1 : Int))), ())).bind fun y1 =>
    if (decide (y1.1 < (0 : Int))) = true then
      some ((-1 : Int), ())
    else
      some (y1.1, ())
@[reducible] def sig (n : Nat) : Sig := ⟨[tGateShape, (.int .i64)], [(.int .i64)], false, f n, none⟩
def T (n : Nat) : FuncId → Option Sig := fun g => if Nat.beq g 39 = true then some (laws_szGateFieldS.sig n) else none
def TL (n : Nat) : Loops := fun j _ st k => none
theorem con (n : Nat) : Con Try.prog 19 (sig n) :=
  con_print (hsw := rfl) (T := T n) (TL := TL n) (c := Try.f19.body.getD .skip) (js := []) hMixed (conT_cons (laws_szGateFieldS.con n) conT_none) Try.func19 (by decide) (by kernel_rfl) (by kernel_rfl) (by decide) LoopDef.nil (fun x => by kernel_rfl)
end laws_szGateShape
namespace laws_szGateShapeS
@[reducible] def l5 : LSpec := ⟨[(0, .d (.slice tGateShape)), (1, .d (.int .i64)), (5, .d (.int .i64))], [(.ret, [(4, .d (.int .i64))]), (.exit 0, [(1, .d (.int .i64))])]⟩
def B5 (n : Nat) {R : Type} (next : Sden l5.inS → Option R) (cs : Conts R l5.outs) (x : Sden l5.inS) : Option R :=
  if (decide (x.2.2.1 < (List.length x.1 : Int))) = true then
    if (decide (0 ≤ x.2.2.1 ∧ x.2.2.1 < (List.length x.1 : Int))) = true then
      (laws_szGateShape.f n ((List.getD x.1 (Int.toNat x.2.2.1) (Ty.zero tGateShape)), x.2.1, ())).bind fun y1 =>
      if (decide (y1.1 < (0 : Int))) = true then
        cs.1 ((-1 : Int), ())
      else
        next (x.1, y1.1, (IntKind.i64.wrap (x.2.2.1 + (1 : Int))), ())
    else
      none
  else
    cs.2.1 (x.2.1, ())
def f (n : Nat) (x : Tup [(.slice tGateShape), (.int .i64)]) : Option (Tup [(.int .i64)]) :=
  if (decide ((IntKind.i64.wrap (x.2.1 - (List.length x.1 : Int))) < (0 : Int))) = true then
    some ((-1 : Int), ())
  else
    runL (B5 n) ((fun z2 =>
        some (z2.1, ())), (fun z3 =>
        some (z3.1, ())), ()) n (x.1, (IntKind.i64.wrap (x.2.1 - (List.length x.1 : Int))), (0 : Int), ())
@[reducible] def sig (n : Nat) : Sig := ⟨[(.slice tGateShape), (.int .i64)], [(.int .i64)], false, f n, none⟩
def T (n : Nat) : FuncId → Option Sig := fun g => if Nat.beq g 19 = true then some (laws_szGateShape.sig n) else none
def TL (n : Nat) : Loops := fun j _ st k => if Nat.beq j 5 = true then (match dec st l5.inS [] with | some x => runL (B5 n) (contsOf k l5.outs) n x | none => none) else none
theorem d5 (n : Nat) : LoopDef Try.prog (T n) (TL n) Try.f4 5 :=
  ⟨l5, fun R => B5 n, n, fun R st k => by kernel_rfl, fun R next cs x => by kernel_rfl⟩
theorem con (n : Nat) : Con Try.prog 4 (sig n) :=
  con_print (hsw := rfl) (T := T n) (TL := TL n) (c := Try.f4.body.getD .skip) (js := [5]) hMixed (conT_cons (laws_szGateShape.con n) conT_none) Try.func4 (by decide) (by kernel_rfl) (by kernel_rfl) (by decide) (LoopDef.cons (d5 n) LoopDef.nil) (fun x => by kernel_rfl)
end laws_szGateShapeS
namespace laws_szGateMend
def f (n : Nat) (x : Tup [tGateMend, (.int .i64)]) : Option (Tup [(.int .i64)]) :=
  if (decide ((IntKind.i64.wrap (x.2.1 - (ByteArray.size x.1.1 : Int))) < (0 : Int))) = true then
    some ((-1 : Int), ())
  else if (decide ((IntKind.i64.wrap ((IntKind.i64.wrap (x.2.1 - (ByteArray.size x.1.1 : Int))) - (ByteArray.size x.1.2.1 : Int))) < (0 : Int))) = true then
    some ((-1 : Int), ())
  else if (decide ((IntKind.i64.wrap ((IntKind.i64.wrap ((IntKind.i64.wrap (x.2.1 - (ByteArray.size x.1.1 : Int))) - (ByteArray.size x.1.2.1 : Int))) - (ByteArray.size x.1.2.2.1 : Int))) < (0 : Int))) = true then
    some ((-1 : Int), ())
  else if (decide ((IntKind.i64.wrap ((IntKind.i64.wrap ((IntKind.i64.wrap ((IntKind.i64.wrap (x.2.1 - (ByteArray.size x.1.1 : Int))) - (ByteArray.size x.1.2.1 : Int))) - (ByteArray.size x.1.2.2.1 : Int))) - (ByteArray.size x.1.2.2.2.1 : Int))) < (0 : Int))) = true then
    some ((-1 : Int), ())
  else if (decide ((IntKind.i64.wrap ((IntKind.i64.wrap ((IntKind.i64.wrap ((IntKind.i64.wrap ((IntKind.i64.wrap (x.2.1 - (ByteArray.size x.1.1 : Int))) - (ByteArray.size x.1.2.1 : Int))) - (ByteArray.size x.1.2.2.1 : Int))) - (ByteArray.size x.1.2.2.2.1 : Int))) - (ByteArray.size x.1.2.2.2.2.1 : Int))) < (0 : Int))) = true then
    some ((-1 : Int), ())
  else if (decide ((IntKind.i64.wrap ((IntKind.i64.wrap ((IntKind.i64.wrap ((IntKind.i64.wrap ((IntKind.i64.wrap ((IntKind.i64.wrap (x.2.1 - (ByteArray.size x.1.1 : Int))) - (ByteArray.size x.1.2.1 : Int))) - (ByteArray.size x.1.2.2.1 : Int))) - (ByteArray.size x.1.2.2.2.1 : Int))) - (ByteArray.size x.1.2.2.2.2.1 : Int))) - (ByteArray.size x.1.2.2.2.2.2.1 : Int))) < (0 : Int))) = true then
    some ((-1 : Int), ())
  else
    some ((IntKind.i64.wrap ((IntKind.i64.wrap ((IntKind.i64.wrap ((IntKind.i64.wrap ((IntKind.i64.wrap ((IntKind.i64.wrap (x.2.1 - (ByteArray.size x.1.1 : Int))) - (ByteArray.size x.1.2.1 : Int))) - (ByteArray.size x.1.2.2.1 : Int))) - (ByteArray.size x.1.2.2.2.1 : Int))) - (ByteArray.size x.1.2.2.2.2.1 : Int))) - (ByteArray.size x.1.2.2.2.2.2.1 : Int))), ())
@[reducible] def sig (n : Nat) : Sig := ⟨[tGateMend, (.int .i64)], [(.int .i64)], false, f n, none⟩
def T (n : Nat) : FuncId → Option Sig := fun g => none
def TL (n : Nat) : Loops := fun j _ st k => none
theorem con (n : Nat) : Con Try.prog 20 (sig n) :=
  con_print (hsw := rfl) (T := T n) (TL := TL n) (c := Try.f20.body.getD .skip) (js := []) hMixed conT_none Try.func20 (by decide) (by kernel_rfl) (by kernel_rfl) (by decide) LoopDef.nil (fun x => by kernel_rfl)
end laws_szGateMend
namespace laws_szGateMendS
@[reducible] def l5 : LSpec := ⟨[(0, .d (.slice tGateMend)), (1, .d (.int .i64)), (5, .d (.int .i64))], [(.ret, [(4, .d (.int .i64))]), (.exit 0, [(1, .d (.int .i64))])]⟩
def B5 (n : Nat) {R : Type} (next : Sden l5.inS → Option R) (cs : Conts R l5.outs) (x : Sden l5.inS) : Option R :=
  if (decide (x.2.2.1 < (List.length x.1 : Int))) = true then
    if (decide (0 ≤ x.2.2.1 ∧ x.2.2.1 < (List.length x.1 : Int))) = true then
      (laws_szGateMend.f n ((List.getD x.1 (Int.toNat x.2.2.1) (Ty.zero tGateMend)), x.2.1, ())).bind fun y1 =>
      if (decide (y1.1 < (0 : Int))) = true then
        cs.1 ((-1 : Int), ())
      else
        next (x.1, y1.1, (IntKind.i64.wrap (x.2.2.1 + (1 : Int))), ())
    else
      none
  else
    cs.2.1 (x.2.1, ())
def f (n : Nat) (x : Tup [(.slice tGateMend), (.int .i64)]) : Option (Tup [(.int .i64)]) :=
  if (decide ((IntKind.i64.wrap (x.2.1 - (List.length x.1 : Int))) < (0 : Int))) = true then
    some ((-1 : Int), ())
  else
    runL (B5 n) ((fun z2 =>
        some (z2.1, ())), (fun z3 =>
        some (z3.1, ())), ()) n (x.1, (IntKind.i64.wrap (x.2.1 - (List.length x.1 : Int))), (0 : Int), ())
@[reducible] def sig (n : Nat) : Sig := ⟨[(.slice tGateMend), (.int .i64)], [(.int .i64)], false, f n, none⟩
def T (n : Nat) : FuncId → Option Sig := fun g => if Nat.beq g 20 = true then some (laws_szGateMend.sig n) else none
def TL (n : Nat) : Loops := fun j _ st k => if Nat.beq j 5 = true then (match dec st l5.inS [] with | some x => runL (B5 n) (contsOf k l5.outs) n x | none => none) else none
theorem d5 (n : Nat) : LoopDef Try.prog (T n) (TL n) Try.f5 5 :=
  ⟨l5, fun R => B5 n, n, fun R st k => by kernel_rfl, fun R next cs x => by kernel_rfl⟩
theorem con (n : Nat) : Con Try.prog 5 (sig n) :=
  con_print (hsw := rfl) (T := T n) (TL := TL n) (c := Try.f5.body.getD .skip) (js := [5]) hMixed (conT_cons (laws_szGateMend.con n) conT_none) Try.func5 (by decide) (by kernel_rfl) (by kernel_rfl) (by decide) (LoopDef.cons (d5 n) LoopDef.nil) (fun x => by kernel_rfl)
end laws_szGateMendS
namespace laws_szGateObject
def f (n : Nat) (x : Tup [tGateObject, (.int .i64)]) : Option (Tup [(.int .i64)]) :=
  if (decide ((IntKind.i64.wrap (x.2.1 - (ByteArray.size x.1.1 : Int))) < (0 : Int))) = true then
    some ((-1 : Int), ())
  else if (decide ((IntKind.i64.wrap ((IntKind.i64.wrap (x.2.1 - (ByteArray.size x.1.1 : Int))) - (ByteArray.size x.1.2.1 : Int))) < (0 : Int))) = true then
    some ((-1 : Int), ())
  else if (decide ((IntKind.i64.wrap ((IntKind.i64.wrap ((IntKind.i64.wrap (x.2.1 - (ByteArray.size x.1.1 : Int))) - (ByteArray.size x.1.2.1 : Int))) - (ByteArray.size x.1.2.2.1 : Int))) < (0 : Int))) = true then
    some ((-1 : Int), ())
  else
    (laws_szStringS.f n (x.1.2.2.2.1, (IntKind.i64.wrap ((IntKind.i64.wrap ((IntKind.i64.wrap (x.2.1 - (ByteArray.size x.1.1 : Int))) - (ByteArray.size x.1.2.1 : Int))) - (ByteArray.size x.1.2.2.1 : Int))), ())).bind fun y1 =>
    if (decide (y1.1 < (0 : Int))) = true then
      some ((-1 : Int), ())
    else
      (laws_szStringS.f n (x.1.2.2.2.2.2.1, y1.1, ())).bind fun y2 =>
      if (decide (y2.1 < (0 : Int))) = true then
        some ((-1 : Int), ())
      else
        some (y2.1, ())
@[reducible] def sig (n : Nat) : Sig := ⟨[tGateObject, (.int .i64)], [(.int .i64)], false, f n, none⟩
def T (n : Nat) : FuncId → Option Sig := fun g => if Nat.beq g 21 = true then some (laws_szStringS.sig n) else none
def TL (n : Nat) : Loops := fun j _ st k => none
theorem con (n : Nat) : Con Try.prog 6 (sig n) :=
  con_print (hsw := rfl) (T := T n) (TL := TL n) (c := Try.f6.body.getD .skip) (js := []) hMixed (conT_cons (laws_szStringS.con n) conT_none) Try.func6 (by decide) (by kernel_rfl) (by kernel_rfl) (by decide) LoopDef.nil (fun x => by kernel_rfl)
end laws_szGateObject
namespace laws_toStringS
@[reducible] def l3 : LSpec := ⟨[(0, .d (.slice .str)), (3, .row true .str), (4, .d (.int .i64))], [(.exit 0, [(3, .row true .str)])]⟩
def B3 (n : Nat) {R : Type} (next : Sden l3.inS → Option R) (cs : Conts R l3.outs) (x : Sden l3.inS) : Option R :=
  if (decide (x.2.2.1 < (List.length x.1 : Int))) = true then
    if (decide (0 ≤ x.2.2.1 ∧ x.2.2.1 < (List.length x.1 : Int))) = true then
      if (decide (0 ≤ x.2.2.1 ∧ x.2.2.1 < (List.length x.2.1 : Int))) = true then
        next (x.1, (List.set x.2.1 (Int.toNat x.2.2.1) (List.getD x.1 (Int.toNat x.2.2.1) (⟨#[]⟩ : ByteArray))), (IntKind.i64.wrap (x.2.2.1 + (1 : Int))), ())
      else
        none
    else
      none
  else
    cs.1 (x.2.1, ())
def f (n : Nat) (x : Tup [(.slice .str)]) : Option (Tup [(.slice .str)]) :=
  if (decide (0 ≤ (List.length x.1 : Int) ∧ (List.length x.1 : Int) ≤ (List.length x.1 : Int) ∧ (List.length x.1 : Int) * (16 : Int) ≤ 140737488355328)) = true then
    runL (B3 n) ((fun z1 =>
        some (z1.1, ())), ()) n (x.1, (List.replicate (Int.toNat (List.length x.1 : Int)) (⟨#[]⟩ : ByteArray)), (0 : Int), ())
  else
    none
@[reducible] def sig (n : Nat) : Sig := ⟨[(.slice .str)], [(.slice .str)], true, f n, none⟩
def T (n : Nat) : FuncId → Option Sig := fun g => none
def TL (n : Nat) : Loops := fun j _ st k => if Nat.beq j 3 = true then (match dec st l3.inS [] with | some x => runL (B3 n) (contsOf k l3.outs) n x | none => none) else none
theorem d3 (n : Nat) : LoopDef Try.prog (T n) (TL n) Try.f27 3 :=
  ⟨l3, fun R => B3 n, n, fun R st k => by kernel_rfl, fun R next cs x => by kernel_rfl⟩
theorem con (n : Nat) : Con Try.prog 27 (sig n) :=
  con_print (hsw := rfl) (T := T n) (TL := TL n) (c := Try.f27.body.getD .skip) (js := [3]) hMixed conT_none Try.func27 (by decide) (by kernel_rfl) (by kernel_rfl) (by decide) (LoopDef.cons (d3 n) LoopDef.nil) (fun x => by kernel_rfl)
end laws_toStringS
namespace laws_toGateField
def f (n : Nat) (x : Tup [tGateField]) : Option (Tup [tGateField]) :=
  (laws_toStringS.f n (x.1.2.2.2.2.1, ())).bind fun y1 =>
  some ((x.1.1, x.1.2.1, x.1.2.2.1, x.1.2.2.2.1, y1.1, x.1.2.2.2.2.2), ())
@[reducible] def sig (n : Nat) : Sig := ⟨[tGateField], [tGateField], true, f n, none⟩
def T (n : Nat) : FuncId → Option Sig := fun g => if Nat.beq g 27 = true then some (laws_toStringS.sig n) else none
def TL (n : Nat) : Loops := fun j _ st k => none
theorem con (n : Nat) : Con Try.prog 66 (sig n) :=
  con_print (hsw := rfl) (T := T n) (TL := TL n) (c := Try.f66.body.getD .skip) (js := []) hMixed (conT_cons (laws_toStringS.con n) conT_none) Try.func66 (by decide) (by kernel_rfl) (by kernel_rfl) (by decide) LoopDef.nil (fun x => by kernel_rfl)
end laws_toGateField
namespace laws_toGateFieldS
@[reducible] def l3 : LSpec := ⟨[(0, .d (.slice tGateField)), (3, .row true tGateField), (4, .d (.int .i64))], [(.exit 0, [(3, .row true tGateField)])]⟩
def B3 (n : Nat) {R : Type} (next : Sden l3.inS → Option R) (cs : Conts R l3.outs) (x : Sden l3.inS) : Option R :=
  if (decide (x.2.2.1 < (List.length x.1 : Int))) = true then
    if (decide (0 ≤ x.2.2.1 ∧ x.2.2.1 < (List.length x.1 : Int))) = true then
      (laws_toGateField.f n ((List.getD x.1 (Int.toNat x.2.2.1) (Ty.zero tGateField)), ())).bind fun y1 =>
      if (decide (0 ≤ x.2.2.1 ∧ x.2.2.1 < (List.length x.2.1 : Int))) = true then
        next (x.1, (List.set x.2.1 (Int.toNat x.2.2.1) y1.1), (IntKind.i64.wrap (x.2.2.1 + (1 : Int))), ())
      else
        none
    else
      none
  else
    cs.1 (x.2.1, ())
def f (n : Nat) (x : Tup [(.slice tGateField)]) : Option (Tup [(.slice tGateField)]) :=
  if (decide (0 ≤ (List.length x.1 : Int) ∧ (List.length x.1 : Int) ≤ (List.length x.1 : Int) ∧ (List.length x.1 : Int) * (128 : Int) ≤ 140737488355328)) = true then
    runL (B3 n) ((fun z2 =>
        some (z2.1, ())), ()) n (x.1, (List.replicate (Int.toNat (List.length x.1 : Int)) (Ty.zero tGateField)), (0 : Int), ())
  else
    none
@[reducible] def sig (n : Nat) : Sig := ⟨[(.slice tGateField)], [(.slice tGateField)], true, f n, none⟩
def T (n : Nat) : FuncId → Option Sig := fun g => if Nat.beq g 66 = true then some (laws_toGateField.sig n) else none
def TL (n : Nat) : Loops := fun j _ st k => if Nat.beq j 3 = true then (match dec st l3.inS [] with | some x => runL (B3 n) (contsOf k l3.outs) n x | none => none) else none
theorem d3 (n : Nat) : LoopDef Try.prog (T n) (TL n) Try.f45 3 :=
  ⟨l3, fun R => B3 n, n, fun R st k => by kernel_rfl, fun R next cs x => by kernel_rfl⟩
theorem con (n : Nat) : Con Try.prog 45 (sig n) :=
  con_print (hsw := rfl) (T := T n) (TL := TL n) (c := Try.f45.body.getD .skip) (js := [3]) hMixed (conT_cons (laws_toGateField.con n) conT_none) Try.func45 (by decide) (by kernel_rfl) (by kernel_rfl) (by decide) (LoopDef.cons (d3 n) LoopDef.nil) (fun x => by kernel_rfl)
end laws_toGateFieldS
namespace laws_toGateShape
def f (n : Nat) (x : Tup [tGateShape]) : Option (Tup [tGateShape]) :=
  (laws_toGateFieldS.f n (x.1.2.1, ())).bind fun y1 =>
  some ((x.1.1, y1.1, ()), ())
@[reducible] def sig (n : Nat) : Sig := ⟨[tGateShape], [tGateShape], true, f n, none⟩
def T (n : Nat) : FuncId → Option Sig := fun g => if Nat.beq g 45 = true then some (laws_toGateFieldS.sig n) else none
def TL (n : Nat) : Loops := fun j _ st k => none
theorem con (n : Nat) : Con Try.prog 25 (sig n) :=
  con_print (hsw := rfl) (T := T n) (TL := TL n) (c := Try.f25.body.getD .skip) (js := []) hMixed (conT_cons (laws_toGateFieldS.con n) conT_none) Try.func25 (by decide) (by kernel_rfl) (by kernel_rfl) (by decide) LoopDef.nil (fun x => by kernel_rfl)
end laws_toGateShape
namespace laws_toGateShapeS
@[reducible] def l3 : LSpec := ⟨[(0, .d (.slice tGateShape)), (3, .row true tGateShape), (4, .d (.int .i64))], [(.exit 0, [(3, .row true tGateShape)])]⟩
def B3 (n : Nat) {R : Type} (next : Sden l3.inS → Option R) (cs : Conts R l3.outs) (x : Sden l3.inS) : Option R :=
  if (decide (x.2.2.1 < (List.length x.1 : Int))) = true then
    if (decide (0 ≤ x.2.2.1 ∧ x.2.2.1 < (List.length x.1 : Int))) = true then
      (laws_toGateShape.f n ((List.getD x.1 (Int.toNat x.2.2.1) (Ty.zero tGateShape)), ())).bind fun y1 =>
      if (decide (0 ≤ x.2.2.1 ∧ x.2.2.1 < (List.length x.2.1 : Int))) = true then
        next (x.1, (List.set x.2.1 (Int.toNat x.2.2.1) y1.1), (IntKind.i64.wrap (x.2.2.1 + (1 : Int))), ())
      else
        none
    else
      none
  else
    cs.1 (x.2.1, ())
def f (n : Nat) (x : Tup [(.slice tGateShape)]) : Option (Tup [(.slice tGateShape)]) :=
  if (decide (0 ≤ (List.length x.1 : Int) ∧ (List.length x.1 : Int) ≤ (List.length x.1 : Int) ∧ (List.length x.1 : Int) * (40 : Int) ≤ 140737488355328)) = true then
    runL (B3 n) ((fun z2 =>
        some (z2.1, ())), ()) n (x.1, (List.replicate (Int.toNat (List.length x.1 : Int)) (Ty.zero tGateShape)), (0 : Int), ())
  else
    none
@[reducible] def sig (n : Nat) : Sig := ⟨[(.slice tGateShape)], [(.slice tGateShape)], true, f n, none⟩
def T (n : Nat) : FuncId → Option Sig := fun g => if Nat.beq g 25 = true then some (laws_toGateShape.sig n) else none
def TL (n : Nat) : Loops := fun j _ st k => if Nat.beq j 3 = true then (match dec st l3.inS [] with | some x => runL (B3 n) (contsOf k l3.outs) n x | none => none) else none
theorem d3 (n : Nat) : LoopDef Try.prog (T n) (TL n) Try.f8 3 :=
  ⟨l3, fun R => B3 n, n, fun R st k => by kernel_rfl, fun R next cs x => by kernel_rfl⟩
theorem con (n : Nat) : Con Try.prog 8 (sig n) :=
  con_print (hsw := rfl) (T := T n) (TL := TL n) (c := Try.f8.body.getD .skip) (js := [3]) hMixed (conT_cons (laws_toGateShape.con n) conT_none) Try.func8 (by decide) (by kernel_rfl) (by kernel_rfl) (by decide) (LoopDef.cons (d3 n) LoopDef.nil) (fun x => by kernel_rfl)
end laws_toGateShapeS
namespace laws_toGateMend
def f (n : Nat) (x : Tup [tGateMend]) : Option (Tup [tGateMend]) :=
  some (x.1, ())
@[reducible] def sig (n : Nat) : Sig := ⟨[tGateMend], [tGateMend], false, f n, none⟩
def T (n : Nat) : FuncId → Option Sig := fun g => none
def TL (n : Nat) : Loops := fun j _ st k => none
theorem con (n : Nat) : Con Try.prog 26 (sig n) :=
  con_print (hsw := rfl) (T := T n) (TL := TL n) (c := Try.f26.body.getD .skip) (js := []) hMixed conT_none Try.func26 (by decide) (by kernel_rfl) (by kernel_rfl) (by decide) LoopDef.nil (fun x => by kernel_rfl)
end laws_toGateMend
namespace laws_toGateMendS
@[reducible] def l3 : LSpec := ⟨[(0, .d (.slice tGateMend)), (3, .row true tGateMend), (4, .d (.int .i64))], [(.exit 0, [(3, .row true tGateMend)])]⟩
def B3 (n : Nat) {R : Type} (next : Sden l3.inS → Option R) (cs : Conts R l3.outs) (x : Sden l3.inS) : Option R :=
  if (decide (x.2.2.1 < (List.length x.1 : Int))) = true then
    if (decide (0 ≤ x.2.2.1 ∧ x.2.2.1 < (List.length x.1 : Int))) = true then
      (laws_toGateMend.f n ((List.getD x.1 (Int.toNat x.2.2.1) (Ty.zero tGateMend)), ())).bind fun y1 =>
      if (decide (0 ≤ x.2.2.1 ∧ x.2.2.1 < (List.length x.2.1 : Int))) = true then
        next (x.1, (List.set x.2.1 (Int.toNat x.2.2.1) y1.1), (IntKind.i64.wrap (x.2.2.1 + (1 : Int))), ())
      else
        none
    else
      none
  else
    cs.1 (x.2.1, ())
def f (n : Nat) (x : Tup [(.slice tGateMend)]) : Option (Tup [(.slice tGateMend)]) :=
  if (decide (0 ≤ (List.length x.1 : Int) ∧ (List.length x.1 : Int) ≤ (List.length x.1 : Int) ∧ (List.length x.1 : Int) * (96 : Int) ≤ 140737488355328)) = true then
    runL (B3 n) ((fun z2 =>
        some (z2.1, ())), ()) n (x.1, (List.replicate (Int.toNat (List.length x.1 : Int)) (Ty.zero tGateMend)), (0 : Int), ())
  else
    none
@[reducible] def sig (n : Nat) : Sig := ⟨[(.slice tGateMend)], [(.slice tGateMend)], true, f n, none⟩
def T (n : Nat) : FuncId → Option Sig := fun g => if Nat.beq g 26 = true then some (laws_toGateMend.sig n) else none
def TL (n : Nat) : Loops := fun j _ st k => if Nat.beq j 3 = true then (match dec st l3.inS [] with | some x => runL (B3 n) (contsOf k l3.outs) n x | none => none) else none
theorem d3 (n : Nat) : LoopDef Try.prog (T n) (TL n) Try.f9 3 :=
  ⟨l3, fun R => B3 n, n, fun R st k => by kernel_rfl, fun R next cs x => by kernel_rfl⟩
theorem con (n : Nat) : Con Try.prog 9 (sig n) :=
  con_print (hsw := rfl) (T := T n) (TL := TL n) (c := Try.f9.body.getD .skip) (js := [3]) hMixed (conT_cons (laws_toGateMend.con n) conT_none) Try.func9 (by decide) (by kernel_rfl) (by kernel_rfl) (by decide) (LoopDef.cons (d3 n) LoopDef.nil) (fun x => by kernel_rfl)
end laws_toGateMendS
namespace laws_toGateObject
def f (n : Nat) (x : Tup [tGateObject]) : Option (Tup [tGateObject]) :=
  (laws_toStringS.f n (x.1.2.2.2.1, ())).bind fun y1 =>
  (laws_toStringS.f n (x.1.2.2.2.2.2.1, ())).bind fun y2 =>
  some ((x.1.1, x.1.2.1, x.1.2.2.1, y1.1, x.1.2.2.2.2.1, y2.1, x.1.2.2.2.2.2.2), ())
@[reducible] def sig (n : Nat) : Sig := ⟨[tGateObject], [tGateObject], true, f n, none⟩
def T (n : Nat) : FuncId → Option Sig := fun g => if Nat.beq g 27 = true then some (laws_toStringS.sig n) else none
def TL (n : Nat) : Loops := fun j _ st k => none
theorem con (n : Nat) : Con Try.prog 10 (sig n) :=
  con_print (hsw := rfl) (T := T n) (TL := TL n) (c := Try.f10.body.getD .skip) (js := []) hMixed (conT_cons (laws_toStringS.con n) conT_none) Try.func10 (by decide) (by kernel_rfl) (by kernel_rfl) (by decide) LoopDef.nil (fun x => by kernel_rfl)
end laws_toGateObject
namespace spec_l1In
def f (n : Nat) (x : Tup [(.int .i64), (.int .i64), (.int .i64)]) : Option (Tup [.bool]) :=
  some (((decide (x.1 ≥ x.2.1)) && (decide (x.1 ≤ x.2.2.1))), ())
@[reducible] def sig (n : Nat) : Sig := ⟨[(.int .i64), (.int .i64), (.int .i64)], [.bool], false, f n, none⟩
def T (n : Nat) : FuncId → Option Sig := fun g => none
def TL (n : Nat) : Loops := fun j _ st k => none
theorem con (n : Nat) : Con Try.prog 74 (sig n) :=
  con_print (hsw := rfl) (T := T n) (TL := TL n) (c := Try.f74.body.getD .skip) (js := []) hMixed conT_none Try.func74 (by decide) (by kernel_rfl) (by kernel_rfl) (by decide) LoopDef.nil (fun x => by kernel_rfl)
end spec_l1In
namespace spec_l1Byte
def f (n : Nat) (x : Tup [(.int .u8)]) : Option (Tup [.bool]) :=
  some (((((decide (x.1 ≥ (97 : Int))) && (decide (x.1 ≤ (122 : Int)))) || ((decide (x.1 ≥ (48 : Int))) && (decide (x.1 ≤ (57 : Int))))) || (x.1 == (45 : Int))), ())
@[reducible] def sig (n : Nat) : Sig := ⟨[(.int .u8)], [.bool], false, f n, none⟩
def T (n : Nat) : FuncId → Option Sig := fun g => none
def TL (n : Nat) : Loops := fun j _ st k => none
theorem con (n : Nat) : Con Try.prog 75 (sig n) :=
  con_print (hsw := rfl) (T := T n) (TL := TL n) (c := Try.f75.body.getD .skip) (js := []) hMixed conT_none Try.func75 (by decide) (by kernel_rfl) (by kernel_rfl) (by decide) LoopDef.nil (fun x => by kernel_rfl)
end spec_l1Byte
namespace spec_l1NameOk
@[reducible] def l4 : LSpec := ⟨[(0, .d .str), (3, .d (.int .i64))], [(.ret, [(2, .d .bool)]), (.exit 0, [])]⟩
def B4 (n : Nat) {R : Type} (next : Sden l4.inS → Option R) (cs : Conts R l4.outs) (x : Sden l4.inS) : Option R :=
  if (decide (x.2.1 < (ByteArray.size x.1 : Int))) = true then
    if (decide (0 ≤ x.2.1 ∧ x.2.1 < (ByteArray.size x.1 : Int))) = true then
      (spec_l1Byte.f n ((byteAt x.1 x.2.1), ())).bind fun y2 =>
      if (!y2.1) = true then
        cs.1 (false, ())
      else
        next (x.1, (IntKind.i64.wrap (x.2.1 + (1 : Int))), ())
    else
      none
  else
    cs.2.1 ()
def f (n : Nat) (x : Tup [.str]) : Option (Tup [.bool]) :=
  (spec_l1In.f n ((ByteArray.size x.1 : Int), (1 : Int), (16 : Int), ())).bind fun y1 =>
  if (!y1.1) = true then
    some (false, ())
  else
    runL (B4 n) ((fun z3 =>
        some (z3.1, ())), (fun z4 =>
        some (true, ())), ()) n (x.1, (0 : Int), ())
@[reducible] def sig (n : Nat) : Sig := ⟨[.str], [.bool], false, f n, none⟩
def T (n : Nat) : FuncId → Option Sig := fun g => if Nat.beq g 74 = true then some (spec_l1In.sig n) else if Nat.beq g 75 = true then some (spec_l1Byte.sig n) else none
def TL (n : Nat) : Loops := fun j _ st k => if Nat.beq j 4 = true then (match dec st l4.inS [] with | some x => runL (B4 n) (contsOf k l4.outs) n x | none => none) else none
theorem d4 (n : Nat) : LoopDef Try.prog (T n) (TL n) Try.f56 4 :=
  ⟨l4, fun R => B4 n, n, fun R st k => by kernel_rfl, fun R next cs x => by kernel_rfl⟩
theorem con (n : Nat) : Con Try.prog 56 (sig n) :=
  con_print (hsw := rfl) (T := T n) (TL := TL n) (c := Try.f56.body.getD .skip) (js := [4]) hMixed (conT_cons (spec_l1In.con n) (conT_cons (spec_l1Byte.con n) conT_none)) Try.func56 (by decide) (by kernel_rfl) (by kernel_rfl) (by decide) (LoopDef.cons (d4 n) LoopDef.nil) (fun x => by kernel_rfl)
end spec_l1NameOk
namespace spec_l1Bare
def f (n : Nat) (x : Tup [tGateField]) : Option (Tup [.bool]) :=
  if (((!((x.1.2.1 == (1 : Int)) || (x.1.2.1 == (3 : Int)))) && ((x.1.2.2.1 != (0 : Int)) || (x.1.2.2.2.1 != (0 : Int)))) || ((x.1.2.1 != (1 : Int)) && (!seq x.1.2.2.2.2.2.2.2.2.2.2.1 (⟨#[]⟩ : ByteArray)))) = true then
    some (false, ())
  else if ((x.1.2.1 != (2 : Int)) && (decide ((List.length x.1.2.2.2.2.1 : Int) > (0 : Int)))) = true then
    some (false, ())
  else
    some (((x.1.2.1 == (4 : Int)) || ((seq x.1.2.2.2.2.2.1 (⟨#[]⟩ : ByteArray)) && (x.1.2.2.2.2.2.2.1 == (0 : Int)))), ())
@[reducible] def sig (n : Nat) : Sig := ⟨[tGateField], [.bool], false, f n, none⟩
def T (n : Nat) : FuncId → Option Sig := fun g => none
def TL (n : Nat) : Loops := fun j _ st k => none
theorem con (n : Nat) : Con Try.prog 76 (sig n) :=
  con_print (hsw := rfl) (T := T n) (TL := TL n) (c := Try.f76.body.getD .skip) (js := []) hMixed conT_none Try.func76 (by decide) (by kernel_rfl) (by kernel_rfl) (by decide) LoopDef.nil (fun x => by kernel_rfl)
end spec_l1Bare
namespace spec_l1Number
@[reducible] def l5 : LSpec := ⟨[(0, .d .str), (3, .d (.int .i64)), (4, .d (.int .i64))], [(.ret, [(2, .d (.int .i64))]), (.exit 0, [(3, .d (.int .i64))])]⟩
def B5 (n : Nat) {R : Type} (next : Sden l5.inS → Option R) (cs : Conts R l5.outs) (x : Sden l5.inS) : Option R :=
  if (decide (x.2.2.1 < (ByteArray.size x.1 : Int))) = true then
    if (decide (0 ≤ x.2.2.1 ∧ x.2.2.1 < (ByteArray.size x.1 : Int))) = true then
      if (!(!(decide ((byteAt x.1 x.2.2.1) < (48 : Int)))) || (decide (0 ≤ x.2.2.1 ∧ x.2.2.1 < (ByteArray.size x.1 : Int)))) = true then
        if ((decide ((byteAt x.1 x.2.2.1) < (48 : Int))) || (decide ((byteAt x.1 x.2.2.1) > (57 : Int)))) = true then
          cs.1 ((-1 : Int), ())
        else if (decide (0 ≤ x.2.2.1 ∧ x.2.2.1 < (ByteArray.size x.1 : Int))) = true then
          next (x.1, (IntKind.i64.wrap ((IntKind.i64.wrap ((IntKind.i64.wrap (x.2.1 * (10 : Int))) + (IntKind.i64.wrap (byteAt x.1 x.2.2.1)))) - (48 : Int))), (IntKind.i64.wrap (x.2.2.1 + (1 : Int))), ())
        else
          none
      else
        none
    else
      none
  else
    cs.2.1 (x.2.1, ())
def f (n : Nat) (x : Tup [.str]) : Option (Tup [(.int .i64)]) :=
  (spec_l1In.f n ((ByteArray.size x.1 : Int), (1 : Int), (7 : Int), ())).bind fun y1 =>
  if (!((!(!y1.1)) && (decide ((ByteArray.size x.1 : Int) > (1 : Int)))) || (decide (0 ≤ (0 : Int) ∧ (0 : Int) < (ByteArray.size x.1 : Int)))) = true then
    if ((!y1.1) || ((decide ((ByteArray.size x.1 : Int) > (1 : Int))) && ((byteAt x.1 (0 : Int)) == (48 : Int)))) = true then
      some ((-1 : Int), ())
    else
      runL (B5 n) ((fun z2 =>
          some (z2.1, ())), (fun z3 =>
          some (z3.1, ())), ()) n (x.1, (0 : Int), (0 : Int), ())
  else
    none
@[reducible] def sig (n : Nat) : Sig := ⟨[.str], [(.int .i64)], false, f n, none⟩
def T (n : Nat) : FuncId → Option Sig := fun g => if Nat.beq g 74 = true then some (spec_l1In.sig n) else none
def TL (n : Nat) : Loops := fun j _ st k => if Nat.beq j 5 = true then (match dec st l5.inS [] with | some x => runL (B5 n) (contsOf k l5.outs) n x | none => none) else none
theorem d5 (n : Nat) : LoopDef Try.prog (T n) (TL n) Try.f78 5 :=
  ⟨l5, fun R => B5 n, n, fun R st k => by kernel_rfl, fun R next cs x => by kernel_rfl⟩
theorem con (n : Nat) : Con Try.prog 78 (sig n) :=
  con_print (hsw := rfl) (T := T n) (TL := TL n) (c := Try.f78.body.getD .skip) (js := [5]) hMixed (conT_cons (spec_l1In.con n) conT_none) Try.func78 (by decide) (by kernel_rfl) (by kernel_rfl) (by decide) (LoopDef.cons (d5 n) LoopDef.nil) (fun x => by kernel_rfl)
end spec_l1Number
namespace spec_l1Has
@[reducible] def l2 : LSpec := ⟨[(0, .d (.slice .str)), (1, .d .str), (5, .d (.int .i64))], [(.ret, [(4, .d .bool)]), (.exit 0, [])]⟩
def B2 (n : Nat) {R : Type} (next : Sden l2.inS → Option R) (cs : Conts R l2.outs) (x : Sden l2.inS) : Option R :=
  if (decide (x.2.2.1 < (List.length x.1 : Int))) = true then
    if (decide (0 ≤ x.2.2.1 ∧ x.2.2.1 < (List.length x.1 : Int))) = true then
      if (seq (List.getD x.1 (Int.toNat x.2.2.1) (⟨#[]⟩ : ByteArray)) x.2.1) = true then
        cs.1 (true, ())
      else
        next (x.1, x.2.1, (IntKind.i64.wrap (x.2.2.1 + (1 : Int))), ())
    else
      none
  else
    cs.2.1 ()
def f (n : Nat) (x : Tup [(.slice .str), .str]) : Option (Tup [.bool]) :=
  runL (B2 n) ((fun z1 =>
      some (z1.1, ())), (fun z2 =>
      some (false, ())), ()) n (x.1, x.2.1, (0 : Int), ())
@[reducible] def sig (n : Nat) : Sig := ⟨[(.slice .str), .str], [.bool], false, f n, none⟩
def T (n : Nat) : FuncId → Option Sig := fun g => none
def TL (n : Nat) : Loops := fun j _ st k => if Nat.beq j 2 = true then (match dec st l2.inS [] with | some x => runL (B2 n) (contsOf k l2.outs) n x | none => none) else none
theorem d2 (n : Nat) : LoopDef Try.prog (T n) (TL n) Try.f62 2 :=
  ⟨l2, fun R => B2 n, n, fun R st k => by kernel_rfl, fun R next cs x => by kernel_rfl⟩
theorem con (n : Nat) : Con Try.prog 62 (sig n) :=
  con_print (hsw := rfl) (T := T n) (TL := TL n) (c := Try.f62.body.getD .skip) (js := [2]) hMixed conT_none Try.func62 (by decide) (by kernel_rfl) (by kernel_rfl) (by decide) (LoopDef.cons (d2 n) LoopDef.nil) (fun x => by kernel_rfl)
end spec_l1Has
namespace spec_GateFits
@[reducible] def l9 : LSpec := ⟨[(1, .d .str), (2, .rb tGateField), (6, .d (.int .i64))], [(.ret, [(4, .d .bool)]), (.exit 1, [(1, .d .str), (2, .rb tGateField)])]⟩
def B9 (n : Nat) {R : Type} (next : Sden l9.inS → Option R) (cs : Conts R l9.outs) (x : Sden l9.inS) : Option R :=
  if (decide (x.2.2.1 < (ByteArray.size x.1 : Int))) = true then
    if (decide (0 ≤ x.2.2.1 ∧ x.2.2.1 < (ByteArray.size x.1 : Int))) = true then
      (spec_l1In.f n ((IntKind.i64.wrap (byteAt x.1 x.2.2.1)), (33 : Int), (126 : Int), ())).bind fun y4 =>
      if (!y4.1) = true then
        cs.1 (false, ())
      else
        next (x.1, x.2.1, (IntKind.i64.wrap (x.2.2.1 + (1 : Int))), ())
    else
      none
  else
    cs.2.1 (x.1, x.2.1, ())
def f (n : Nat) (x : Tup [tGateField, .str]) : Option (Tup [.bool]) :=
  if (x.1.2.1 == (1 : Int)) = true then
    (spec_l1Number.f n (x.2.1, ())).bind fun y1 =>
    (if (decide (y1.1 ≥ (0 : Int))) = true then (spec_l1In.f n (y1.1, x.1.2.2.1, x.1.2.2.2.1, ())) else some (tzero [.bool])).bind fun y2 =>
    some (((decide (y1.1 ≥ (0 : Int))) && y2.1), ())
  else if (x.1.2.1 == (2 : Int)) = true then
    (if (!seq x.2.1 (⟨#[]⟩ : ByteArray)) = true then (spec_l1Has.f n (x.1.2.2.2.2.1, x.2.1, ())) else some (tzero [.bool])).bind fun y3 =>
    some (((!seq x.2.1 (⟨#[]⟩ : ByteArray)) && y3.1), ())
  else if (x.1.2.1 == (3 : Int)) = true then
    runL (B9 n) ((fun z5 =>
        some (z5.1, ())), (fun z6 =>
        (if (!seq z6.1 (⟨#[]⟩ : ByteArray)) = true then (spec_l1In.f n ((ByteArray.size z6.1 : Int), z6.2.1.2.2.1, z6.2.1.2.2.2.1, ())) else some (tzero [.bool])).bind fun y7 =>
        some (((!seq z6.1 (⟨#[]⟩ : ByteArray)) && y7.1), ())), ()) n (x.2.1, x.1, (0 : Int), ())
  else if (x.1.2.1 == (4 : Int)) = true then
    (spec_l1NameOk.f n (x.2.1, ())).bind fun y8 =>
    some (y8.1, ())
  else
    some (false, ())
@[reducible] def sig (n : Nat) : Sig := ⟨[tGateField, .str], [.bool], false, f n, none⟩
def T (n : Nat) : FuncId → Option Sig := fun g => if Nat.beq g 56 = true then some (spec_l1NameOk.sig n) else if Nat.beq g 62 = true then some (spec_l1Has.sig n) else if Nat.beq g 74 = true then some (spec_l1In.sig n) else if Nat.beq g 78 = true then some (spec_l1Number.sig n) else none
def TL (n : Nat) : Loops := fun j _ st k => if Nat.beq j 9 = true then (match dec st l9.inS [] with | some x => runL (B9 n) (contsOf k l9.outs) n x | none => none) else none
theorem d9 (n : Nat) : LoopDef Try.prog (T n) (TL n) Try.f60 9 :=
  ⟨l9, fun R => B9 n, n, fun R st k => by kernel_rfl, fun R next cs x => by kernel_rfl⟩
theorem con (n : Nat) : Con Try.prog 60 (sig n) :=
  con_print (hsw := rfl) (T := T n) (TL := TL n) (c := Try.f60.body.getD .skip) (js := [9]) hMixed (conT_cons (spec_l1NameOk.con n) (conT_cons (spec_l1Has.con n) (conT_cons (spec_l1In.con n) (conT_cons (spec_l1Number.con n) conT_none)))) Try.func60 (by decide) (by kernel_rfl) (by kernel_rfl) (by decide) (LoopDef.cons (d9 n) LoopDef.nil) (fun x => by kernel_rfl)
end spec_GateFits
namespace spec_l1Ascending
@[reducible] def l2 : LSpec := ⟨[(0, .d (.slice .str)), (3, .d (.int .i64))], [(.ret, [(2, .d .bool)]), (.exit 0, [])]⟩
def B2 (n : Nat) {R : Type} (next : Sden l2.inS → Option R) (cs : Conts R l2.outs) (x : Sden l2.inS) : Option R :=
  if (decide (x.2.1 < (List.length x.1 : Int))) = true then
    if (!true || (decide (0 ≤ x.2.1 ∧ x.2.1 < (List.length x.1 : Int)))) = true then
      (if true = true then (spec_l1NameOk.f n ((List.getD x.1 (Int.toNat x.2.1) (⟨#[]⟩ : ByteArray)), ())) else some (tzero [.bool])).bind fun y1 =>
      if (!((!(!y1.1)) && (decide (x.2.1 > (0 : Int)))) || (decide (0 ≤ (IntKind.i64.wrap (x.2.1 - (1 : Int))) ∧ (IntKind.i64.wrap (x.2.1 - (1 : Int))) < (List.length x.1 : Int)))) = true then
        if (!((!(!y1.1)) && (decide (x.2.1 > (0 : Int)))) || (decide (0 ≤ x.2.1 ∧ x.2.1 < (List.length x.1 : Int)))) = true then
          if ((!y1.1) || ((decide (x.2.1 > (0 : Int))) && (!slt (List.getD x.1 (Int.toNat (IntKind.i64.wrap (x.2.1 - (1 : Int)))) (⟨#[]⟩ : ByteArray)) (List.getD x.1 (Int.toNat x.2.1) (⟨#[]⟩ : ByteArray))))) = true then
            cs.1 (false, ())
          else
            next (x.1, (IntKind.i64.wrap (x.2.1 + (1 : Int))), ())
        else
          none
      else
        none
    else
      none
  else
    cs.2.1 ()
def f (n : Nat) (x : Tup [(.slice .str)]) : Option (Tup [.bool]) :=
  runL (B2 n) ((fun z2 =>
      some (z2.1, ())), (fun z3 =>
      some (true, ())), ()) n (x.1, (0 : Int), ())
@[reducible] def sig (n : Nat) : Sig := ⟨[(.slice .str)], [.bool], false, f n, none⟩
def T (n : Nat) : FuncId → Option Sig := fun g => if Nat.beq g 56 = true then some (spec_l1NameOk.sig n) else none
def TL (n : Nat) : Loops := fun j _ st k => if Nat.beq j 2 = true then (match dec st l2.inS [] with | some x => runL (B2 n) (contsOf k l2.outs) n x | none => none) else none
theorem d2 (n : Nat) : LoopDef Try.prog (T n) (TL n) Try.f77 2 :=
  ⟨l2, fun R => B2 n, n, fun R st k => by kernel_rfl, fun R next cs x => by kernel_rfl⟩
theorem con (n : Nat) : Con Try.prog 77 (sig n) :=
  con_print (hsw := rfl) (T := T n) (TL := TL n) (c := Try.f77.body.getD .skip) (js := [2]) hMixed (conT_cons (spec_l1NameOk.con n) conT_none) Try.func77 (by decide) (by kernel_rfl) (by kernel_rfl) (by decide) (LoopDef.cons (d2 n) LoopDef.nil) (fun x => by kernel_rfl)
end spec_l1Ascending
namespace spec_l1Shape
@[reducible] def l2 : LSpec := ⟨[(0, .d (.slice tGateShape)), (1, .d .str), (5, .d (.int .i64))], [(.ret, [(4, .d (.int .i64))]), (.exit 0, [])]⟩
def B2 (n : Nat) {R : Type} (next : Sden l2.inS → Option R) (cs : Conts R l2.outs) (x : Sden l2.inS) : Option R :=
  if (decide (x.2.2.1 < (List.length x.1 : Int))) = true then
    if (decide (0 ≤ x.2.2.1 ∧ x.2.2.1 < (List.length x.1 : Int))) = true then
      if (seq (List.getD x.1 (Int.toNat x.2.2.1) (Ty.zero tGateShape)).1 x.2.1) = true then
        cs.1 (x.2.2.1, ())
      else
        next (x.1, x.2.1, (IntKind.i64.wrap (x.2.2.1 + (1 : Int))), ())
    else
      none
  else
    cs.2.1 ()
def f (n : Nat) (x : Tup [(.slice tGateShape), .str]) : Option (Tup [(.int .i64)]) :=
  runL (B2 n) ((fun z1 =>
      some (z1.1, ())), (fun z2 =>
      some ((-1 : Int), ())), ()) n (x.1, x.2.1, (0 : Int), ())
@[reducible] def sig (n : Nat) : Sig := ⟨[(.slice tGateShape), .str], [(.int .i64)], false, f n, none⟩
def T (n : Nat) : FuncId → Option Sig := fun g => none
def TL (n : Nat) : Loops := fun j _ st k => if Nat.beq j 2 = true then (match dec st l2.inS [] with | some x => runL (B2 n) (contsOf k l2.outs) n x | none => none) else none
theorem d2 (n : Nat) : LoopDef Try.prog (T n) (TL n) Try.f58 2 :=
  ⟨l2, fun R => B2 n, n, fun R st k => by kernel_rfl, fun R next cs x => by kernel_rfl⟩
theorem con (n : Nat) : Con Try.prog 58 (sig n) :=
  con_print (hsw := rfl) (T := T n) (TL := TL n) (c := Try.f58.body.getD .skip) (js := [2]) hMixed conT_none Try.func58 (by decide) (by kernel_rfl) (by kernel_rfl) (by decide) (LoopDef.cons (d2 n) LoopDef.nil) (fun x => by kernel_rfl)
end spec_l1Shape
namespace spec_l1FieldOk
def f (n : Nat) (x : Tup [(.slice tGateShape), tGateField]) : Option (Tup [.bool]) :=
  (spec_l1NameOk.f n (x.2.1.1, ())).bind fun y1 =>
  (if (!(!y1.1)) = true then (spec_l1Bare.f n (x.2.1, ())) else some (tzero [.bool])).bind fun y2 =>
  (if ((!((!y1.1) || (!y2.1))) && (!seq x.2.1.2.2.2.2.2.2.2.2.2.1 (⟨#[]⟩ : ByteArray))) = true then (spec_GateFits.f n (x.2.1, x.2.1.2.2.2.2.2.2.2.2.2.1, ())) else some (tzero [.bool])).bind fun y3 =>
  if (((!y1.1) || (!y2.1)) || ((!seq x.2.1.2.2.2.2.2.2.2.2.2.1 (⟨#[]⟩ : ByteArray)) && (!y3.1))) = true then
    some (false, ())
  else if (x.2.1.2.1 == (1 : Int)) = true then
    (if ((((decide (x.2.1.2.2.1 ≥ (0 : Int))) && (decide (x.2.1.2.2.1 ≤ x.2.1.2.2.2.1))) && (decide (x.2.1.2.2.2.1 ≤ (1000000 : Int)))) && (!(seq x.2.1.2.2.2.2.2.2.2.2.2.2.1 (⟨#[]⟩ : ByteArray)))) = true then (spec_l1NameOk.f n (x.2.1.2.2.2.2.2.2.2.2.2.2.1, ())) else some (tzero [.bool])).bind fun y4 =>
    some (((((decide (x.2.1.2.2.1 ≥ (0 : Int))) && (decide (x.2.1.2.2.1 ≤ x.2.1.2.2.2.1))) && (decide (x.2.1.2.2.2.1 ≤ (1000000 : Int)))) && ((seq x.2.1.2.2.2.2.2.2.2.2.2.2.1 (⟨#[]⟩ : ByteArray)) || y4.1)), ())
  else if (x.2.1.2.1 == (2 : Int)) = true then
    (spec_l1In.f n ((List.length x.2.1.2.2.2.2.1 : Int), (1 : Int), (6 : Int), ())).bind fun y5 =>
    (if y5.1 = true then (spec_l1Ascending.f n (x.2.1.2.2.2.2.1, ())) else some (tzero [.bool])).bind fun y6 =>
    some ((y5.1 && y6.1), ())
  else if (x.2.1.2.1 == (3 : Int)) = true then
    some ((((decide (x.2.1.2.2.1 ≥ (1 : Int))) && (decide (x.2.1.2.2.1 ≤ x.2.1.2.2.2.1))) && (decide (x.2.1.2.2.2.1 ≤ (40 : Int)))), ())
  else if (x.2.1.2.1 == (4 : Int)) = true then
    (spec_l1Shape.f n (x.1, x.2.1.2.2.2.2.2.1, ())).bind fun y7 =>
    (if (decide (y7.1 ≥ (0 : Int))) = true then (spec_l1In.f n (x.2.1.2.2.2.2.2.2.1, (1 : Int), (3 : Int), ())) else some (tzero [.bool])).bind fun y8 =>
    some (((((decide (y7.1 ≥ (0 : Int))) && y8.1) && (seq x.2.1.2.2.2.2.2.2.2.2.2.1 (⟨#[]⟩ : ByteArray))) && ((x.2.1.2.2.2.2.2.2.1 != (2 : Int)) || (!x.2.1.2.2.2.2.2.2.2.1))), ())
  else
    some (false, ())
@[reducible] def sig (n : Nat) : Sig := ⟨[(.slice tGateShape), tGateField], [.bool], false, f n, none⟩
def T (n : Nat) : FuncId → Option Sig := fun g => if Nat.beq g 56 = true then some (spec_l1NameOk.sig n) else if Nat.beq g 58 = true then some (spec_l1Shape.sig n) else if Nat.beq g 60 = true then some (spec_GateFits.sig n) else if Nat.beq g 74 = true then some (spec_l1In.sig n) else if Nat.beq g 76 = true then some (spec_l1Bare.sig n) else if Nat.beq g 77 = true then some (spec_l1Ascending.sig n) else none
def TL (n : Nat) : Loops := fun j _ st k => none
theorem con (n : Nat) : Con Try.prog 57 (sig n) :=
  con_print (hsw := rfl) (T := T n) (TL := TL n) (c := Try.f57.body.getD .skip) (js := []) hMixed (conT_cons (spec_l1NameOk.con n) (conT_cons (spec_l1Shape.con n) (conT_cons (spec_GateFits.con n) (conT_cons (spec_l1In.con n) (conT_cons (spec_l1Bare.con n) (conT_cons (spec_l1Ascending.con n) conT_none)))))) Try.func57 (by decide) (by kernel_rfl) (by kernel_rfl) (by decide) LoopDef.nil (fun x => by kernel_rfl)
end spec_l1FieldOk
namespace spec_GateShapesOk
@[reducible] def l15 : LSpec := ⟨[(0, .d (.slice tGateShape)), (3, .d (.int .i64)), (4, .box [.d .str, .d (.slice tGateField)]), (5, .d (.int .i64)), (6, .d (.int .i64))], [(.ret, [(2, .d .bool)]), (.exit 4, [(0, .d (.slice tGateShape)), (3, .d (.int .i64)), (4, .box [.d .str, .d (.slice tGateField)]), (5, .d (.int .i64))])]⟩
def B15 (n : Nat) {R : Type} (next : Sden l15.inS → Option R) (cs : Conts R l15.outs) (x : Sden l15.inS) : Option R :=
  if (decide (x.2.2.2.2.1 < x.2.2.2.1)) = true then
    if (!true || (decide (0 ≤ x.2.2.2.2.1 ∧ x.2.2.2.2.1 < (List.length x.2.2.1.2.1 : Int)))) = true then
      if (!true || (decide (0 ≤ x.2.2.2.1 ∧ x.2.2.2.1 < (List.length x.2.2.1.2.1 : Int)))) = true then
        if (seq (List.getD x.2.2.1.2.1 (Int.toNat x.2.2.2.2.1) (Ty.zero tGateField)).1 (List.getD x.2.2.1.2.1 (Int.toNat x.2.2.2.1) (Ty.zero tGateField)).1) = true then
          cs.1 (false, ())
        else
          next (x.1, x.2.1, (x.2.2.1.1, x.2.2.1.2.1, ()), x.2.2.2.1, (IntKind.i64.wrap (x.2.2.2.2.1 + (1 : Int))), ())
      else
        none
    else
      none
  else
    cs.2.1 (x.1, x.2.1, (x.2.2.1.1, x.2.2.1.2.1, ()), x.2.2.2.1, ())
@[reducible] def l10 : LSpec := ⟨[(0, .d (.slice tGateShape)), (3, .d (.int .i64)), (4, .box [.d .str, .d (.slice tGateField)]), (5, .d (.int .i64))], [(.ret, [(2, .d .bool)]), (.exit 2, [(0, .d (.slice tGateShape)), (3, .d (.int .i64))])]⟩
def B10 (n : Nat) {R : Type} (next : Sden l10.inS → Option R) (cs : Conts R l10.outs) (x : Sden l10.inS) : Option R :=
  if (decide (x.2.2.2.1 < (List.length x.2.2.1.2.1 : Int))) = true then
    if (decide (0 ≤ x.2.2.2.1 ∧ x.2.2.2.1 < (List.length x.2.2.1.2.1 : Int))) = true then
      (spec_l1FieldOk.f n (x.1, (List.getD x.2.2.1.2.1 (Int.toNat x.2.2.2.1) (Ty.zero tGateField)), ())).bind fun y2 =>
      if (!y2.1) = true then
        cs.1 (false, ())
      else
        runL (B15 n) ((fun z3 =>
            cs.1 (z3.1, ())), (fun z4 =>
            next (z4.1, z4.2.1, (z4.2.2.1.1, z4.2.2.1.2.1, ()), (IntKind.i64.wrap (z4.2.2.2.1 + (1 : Int))), ())), ()) n (x.1, x.2.1, (x.2.2.1.1, x.2.2.1.2.1, ()), x.2.2.2.1, (0 : Int), ())
    else
      none
  else
    cs.2.1 (x.1, x.2.1, ())
@[reducible] def l4 : LSpec := ⟨[(0, .d (.slice tGateShape)), (3, .d (.int .i64))], [(.ret, [(2, .d .bool)]), (.exit 0, [])]⟩
def B4 (n : Nat) {R : Type} (next : Sden l4.inS → Option R) (cs : Conts R l4.outs) (x : Sden l4.inS) : Option R :=
  if (decide (x.2.1 < (List.length x.1 : Int))) = true then
    if (decide (0 ≤ x.2.1 ∧ x.2.1 < (List.length x.1 : Int))) = true then
      (if true = true then (spec_l1NameOk.f n ((List.getD x.1 (Int.toNat x.2.1) (Ty.zero tGateShape)).1, ())) else some (tzero [.bool])).bind fun y1 =>
      if (!((!(!y1.1)) && (decide (x.2.1 > (0 : Int)))) || (decide (0 ≤ (IntKind.i64.wrap (x.2.1 - (1 : Int))) ∧ (IntKind.i64.wrap (x.2.1 - (1 : Int))) < (List.length x.1 : Int)))) = true then
        if (((!y1.1) || ((decide (x.2.1 > (0 : Int))) && (!slt (List.getD x.1 (Int.toNat (IntKind.i64.wrap (x.2.1 - (1 : Int)))) (Ty.zero tGateShape)).1 (List.getD x.1 (Int.toNat x.2.1) (Ty.zero tGateShape)).1))) || (decide ((List.length (List.getD x.1 (Int.toNat x.2.1) (Ty.zero tGateShape)).2.1 : Int) > (6 : Int)))) = true then
          cs.1 (false, ())
        else
          runL (B10 n) ((fun z5 =>
              cs.1 (z5.1, ())), (fun z6 =>
              next (z6.1, (IntKind.i64.wrap (z6.2.1 + (1 : Int))), ())), ()) n (x.1, x.2.1, ((List.getD x.1 (Int.toNat x.2.1) (Ty.zero tGateShape)).1, (List.getD x.1 (Int.toNat x.2.1) (Ty.zero tGateShape)).2.1, ()), (0 : Int), ())
      else
        none
    else
      none
  else
    cs.2.1 ()
def f (n : Nat) (x : Tup [(.slice tGateShape)]) : Option (Tup [.bool]) :=
  if (decide ((List.length x.1 : Int) > (6 : Int))) = true then
    some (false, ())
  else
    runL (B4 n) ((fun z7 =>
        some (z7.1, ())), (fun z8 =>
        some (true, ())), ()) n (x.1, (0 : Int), ())
@[reducible] def sig (n : Nat) : Sig := ⟨[(.slice tGateShape)], [.bool], false, f n, none⟩
def T (n : Nat) : FuncId → Option Sig := fun g => if Nat.beq g 56 = true then some (spec_l1NameOk.sig n) else if Nat.beq g 57 = true then some (spec_l1FieldOk.sig n) else none
def TL (n : Nat) : Loops := fun j _ st k => if Nat.beq j 15 = true then (match dec st l15.inS [] with | some x => runL (B15 n) (contsOf k l15.outs) n x | none => none) else if Nat.beq j 10 = true then (match dec st l10.inS [] with | some x => runL (B10 n) (contsOf k l10.outs) n x | none => none) else if Nat.beq j 4 = true then (match dec st l4.inS [] with | some x => runL (B4 n) (contsOf k l4.outs) n x | none => none) else none
theorem d15 (n : Nat) : LoopDef Try.prog (T n) (TL n) Try.f40 15 :=
  ⟨l15, fun R => B15 n, n, fun R st k => by kernel_rfl, fun R next cs x => by kernel_rfl⟩
theorem d10 (n : Nat) : LoopDef Try.prog (T n) (TL n) Try.f40 10 :=
  ⟨l10, fun R => B10 n, n, fun R st k => by kernel_rfl, fun R next cs x => by kernel_rfl⟩
theorem d4 (n : Nat) : LoopDef Try.prog (T n) (TL n) Try.f40 4 :=
  ⟨l4, fun R => B4 n, n, fun R st k => by kernel_rfl, fun R next cs x => by kernel_rfl⟩
theorem con (n : Nat) : Con Try.prog 40 (sig n) :=
  con_print (hsw := rfl) (T := T n) (TL := TL n) (c := Try.f40.body.getD .skip) (js := [4, 10, 15]) hMixed (conT_cons (spec_l1NameOk.con n) (conT_cons (spec_l1FieldOk.con n) conT_none)) Try.func40 (by decide) (by kernel_rfl) (by kernel_rfl) (by decide) (LoopDef.cons (d4 n) (LoopDef.cons (d10 n) (LoopDef.cons (d15 n) LoopDef.nil))) (fun x => by kernel_rfl)
end spec_GateShapesOk
namespace spec_l3Field
@[reducible] def l2 : LSpec := ⟨[(0, .d (.slice tGateField)), (1, .d .str), (5, .d (.int .i64))], [(.ret, [(4, .d (.int .i64))]), (.exit 0, [])]⟩
def B2 (n : Nat) {R : Type} (next : Sden l2.inS → Option R) (cs : Conts R l2.outs) (x : Sden l2.inS) : Option R :=
  if (decide (x.2.2.1 < (List.length x.1 : Int))) = true then
    if (decide (0 ≤ x.2.2.1 ∧ x.2.2.1 < (List.length x.1 : Int))) = true then
      if (seq (List.getD x.1 (Int.toNat x.2.2.1) (Ty.zero tGateField)).1 x.2.1) = true then
        cs.1 (x.2.2.1, ())
      else
        next (x.1, x.2.1, (IntKind.i64.wrap (x.2.2.1 + (1 : Int))), ())
    else
      none
  else
    cs.2.1 ()
def f (n : Nat) (x : Tup [(.slice tGateField), .str]) : Option (Tup [(.int .i64)]) :=
  runL (B2 n) ((fun z1 =>
      some (z1.1, ())), (fun z2 =>
      some ((-1 : Int), ())), ()) n (x.1, x.2.1, (0 : Int), ())
@[reducible] def sig (n : Nat) : Sig := ⟨[(.slice tGateField), .str], [(.int .i64)], false, f n, none⟩
def T (n : Nat) : FuncId → Option Sig := fun g => none
def TL (n : Nat) : Loops := fun j _ st k => if Nat.beq j 2 = true then (match dec st l2.inS [] with | some x => runL (B2 n) (contsOf k l2.outs) n x | none => none) else none
theorem d2 (n : Nat) : LoopDef Try.prog (T n) (TL n) Try.f61 2 :=
  ⟨l2, fun R => B2 n, n, fun R st k => by kernel_rfl, fun R next cs x => by kernel_rfl⟩
theorem con (n : Nat) : Con Try.prog 61 (sig n) :=
  con_print (hsw := rfl) (T := T n) (TL := TL n) (c := Try.f61.body.getD .skip) (js := [2]) hMixed conT_none Try.func61 (by decide) (by kernel_rfl) (by kernel_rfl) (by decide) (LoopDef.cons (d2 n) LoopDef.nil) (fun x => by kernel_rfl)
end spec_l3Field
namespace spec_l3Plain
def f (n : Nat) (x : Tup [(.slice tGateField), .str]) : Option (Tup [.bool]) :=
  (spec_l3Field.f n (x.1, x.2.1, ())).bind fun y1 =>
  if (!(decide (y1.1 ≥ (0 : Int))) || (decide (0 ≤ y1.1 ∧ y1.1 < (List.length x.1 : Int)))) = true then
    some (((decide (y1.1 ≥ (0 : Int))) && ((List.getD x.1 (Int.toNat y1.1) (Ty.zero tGateField)).2.1 != (4 : Int))), ())
  else
    none
@[reducible] def sig (n : Nat) : Sig := ⟨[(.slice tGateField), .str], [.bool], false, f n, none⟩
def T (n : Nat) : FuncId → Option Sig := fun g => if Nat.beq g 61 = true then some (spec_l3Field.sig n) else none
def TL (n : Nat) : Loops := fun j _ st k => none
theorem con (n : Nat) : Con Try.prog 59 (sig n) :=
  con_print (hsw := rfl) (T := T n) (TL := TL n) (c := Try.f59.body.getD .skip) (js := []) hMixed (conT_cons (spec_l3Field.con n) conT_none) Try.func59 (by decide) (by kernel_rfl) (by kernel_rfl) (by decide) LoopDef.nil (fun x => by kernel_rfl)
end spec_l3Plain
namespace spec_l3MendOk
def f (n : Nat) (x : Tup [(.slice tGateShape), tGateMend]) : Option (Tup [.bool]) :=
  (spec_l1Shape.f n (x.1, x.2.1.1, ())).bind fun y1 =>
  if (decide (y1.1 < (0 : Int))) = true then
    some (false, ())
  else if (decide (0 ≤ y1.1 ∧ y1.1 < (List.length x.1 : Int))) = true then
    (spec_l3Plain.f n ((List.getD x.1 (Int.toNat y1.1) (Ty.zero tGateShape)).2.1, x.2.1.2.1, ())).bind fun y2 =>
    (if ((!(!y2.1)) && (!seq x.2.1.2.2.1 (⟨#[]⟩ : ByteArray))) = true then (spec_l3Plain.f n ((List.getD x.1 (Int.toNat y1.1) (Ty.zero tGateShape)).2.1, x.2.1.2.2.1, ())) else some (tzero [.bool])).bind fun y3 =>
    (if ((!((!y2.1) || ((!seq x.2.1.2.2.1 (⟨#[]⟩ : ByteArray)) && (!y3.1)))) && (!seq x.2.1.2.2.2.2.2.1 (⟨#[]⟩ : ByteArray))) = true then (spec_l3Plain.f n ((List.getD x.1 (Int.toNat y1.1) (Ty.zero tGateShape)).2.1, x.2.1.2.2.2.2.2.1, ())) else some (tzero [.bool])).bind fun y4 =>
    if (((!y2.1) || ((!seq x.2.1.2.2.1 (⟨#[]⟩ : ByteArray)) && (!y3.1))) || ((!seq x.2.1.2.2.2.2.2.1 (⟨#[]⟩ : ByteArray)) && (!y4.1))) = true then
      some (false, ())
    else if ((((seq x.2.1.2.2.1 x.2.1.2.1) || (seq x.2.1.2.2.2.2.2.1 x.2.1.2.1)) || ((seq x.2.1.2.2.1 (⟨#[]⟩ : ByteArray)) && (!seq x.2.1.2.2.2.1 (⟨#[]⟩ : ByteArray)))) || ((seq x.2.1.2.2.2.2.1 (⟨#[]⟩ : ByteArray)) == (seq x.2.1.2.2.2.2.2.1 (⟨#[]⟩ : ByteArray)))) = true then
      some (false, ())
    else
      (if (!(seq x.2.1.2.2.2.2.1 (⟨#[]⟩ : ByteArray))) = true then (spec_l3Field.f n ((List.getD x.1 (Int.toNat y1.1) (Ty.zero tGateShape)).2.1, x.2.1.2.1, ())) else some (tzero [(.int .i64)])).bind fun y5 =>
      if (!(!(seq x.2.1.2.2.2.2.1 (⟨#[]⟩ : ByteArray))) || (decide (0 ≤ y5.1 ∧ y5.1 < (List.length (List.getD x.1 (Int.toNat y1.1) (Ty.zero tGateShape)).2.1 : Int)))) = true then
        (if (!(seq x.2.1.2.2.2.2.1 (⟨#[]⟩ : ByteArray))) = true then (spec_GateFits.f n ((List.getD (List.getD x.1 (Int.toNat y1.1) (Ty.zero tGateShape)).2.1 (Int.toNat y5.1) (Ty.zero tGateField)), x.2.1.2.2.2.2.1, ())) else some (tzero [.bool])).bind fun y6 =>
        some (((seq x.2.1.2.2.2.2.1 (⟨#[]⟩ : ByteArray)) || y6.1), ())
      else
        none
  else
    none
@[reducible] def sig (n : Nat) : Sig := ⟨[(.slice tGateShape), tGateMend], [.bool], false, f n, none⟩
def T (n : Nat) : FuncId → Option Sig := fun g => if Nat.beq g 58 = true then some (spec_l1Shape.sig n) else if Nat.beq g 59 = true then some (spec_l3Plain.sig n) else if Nat.beq g 60 = true then some (spec_GateFits.sig n) else if Nat.beq g 61 = true then some (spec_l3Field.sig n) else none
def TL (n : Nat) : Loops := fun j _ st k => none
theorem con (n : Nat) : Con Try.prog 41 (sig n) :=
  con_print (hsw := rfl) (T := T n) (TL := TL n) (c := Try.f41.body.getD .skip) (js := []) hMixed (conT_cons (spec_l1Shape.con n) (conT_cons (spec_l3Plain.con n) (conT_cons (spec_GateFits.con n) (conT_cons (spec_l3Field.con n) conT_none)))) Try.func41 (by decide) (by kernel_rfl) (by kernel_rfl) (by decide) LoopDef.nil (fun x => by kernel_rfl)
end spec_l3MendOk
namespace spec_l3Ready
@[reducible] def l2 : LSpec := ⟨[(0, .d (.slice tGateMend)), (1, .d .str), (2, .d .str), (3, .d (.slice .str)), (9, .d (.int .i64))], [(.ret, [(8, .d .bool)]), (.exit 0, [])]⟩
def B2 (n : Nat) {R : Type} (next : Sden l2.inS → Option R) (cs : Conts R l2.outs) (x : Sden l2.inS) : Option R :=
  if (decide (x.2.2.2.2.1 < (List.length x.1 : Int))) = true then
    if (decide (0 ≤ x.2.2.2.2.1 ∧ x.2.2.2.2.1 < (List.length x.1 : Int))) = true then
      (if (((seq (List.getD x.1 (Int.toNat x.2.2.2.2.1) (Ty.zero tGateMend)).1 x.2.1) && (seq (List.getD x.1 (Int.toNat x.2.2.2.2.1) (Ty.zero tGateMend)).2.1 x.2.2.1)) && (!seq (List.getD x.1 (Int.toNat x.2.2.2.2.1) (Ty.zero tGateMend)).2.2.1 (⟨#[]⟩ : ByteArray))) = true then (spec_l1Has.f n (x.2.2.2.1, (List.getD x.1 (Int.toNat x.2.2.2.2.1) (Ty.zero tGateMend)).2.2.1, ())) else some (tzero [.bool])).bind fun y1 =>
      (if ((((seq (List.getD x.1 (Int.toNat x.2.2.2.2.1) (Ty.zero tGateMend)).1 x.2.1) && (seq (List.getD x.1 (Int.toNat x.2.2.2.2.1) (Ty.zero tGateMend)).2.1 x.2.2.1)) && (!((!seq (List.getD x.1 (Int.toNat x.2.2.2.2.1) (Ty.zero tGateMend)).2.2.1 (⟨#[]⟩ : ByteArray)) && (!y1.1)))) && (!seq (List.getD x.1 (Int.toNat x.2.2.2.2.1) (Ty.zero tGateMend)).2.2.2.2.2.1 (⟨#[]⟩ : ByteArray))) = true then (spec_l1Has.f n (x.2.2.2.1, (List.getD x.1 (Int.toNat x.2.2.2.2.1) (Ty.zero tGateMend)).2.2.2.2.2.1, ())) else some (tzero [.bool])).bind fun y2 =>
      if (((seq (List.getD x.1 (Int.toNat x.2.2.2.2.1) (Ty.zero tGateMend)).1 x.2.1) && (seq (List.getD x.1 (Int.toNat x.2.2.2.2.1) (Ty.zero tGateMend)).2.1 x.2.2.1)) && (((!seq (List.getD x.1 (Int.toNat x.2.2.2.2.1) (Ty.zero tGateMend)).2.2.1 (⟨#[]⟩ : ByteArray)) && (!y1.1)) || ((!seq (List.getD x.1 (Int.toNat x.2.2.2.2.1) (Ty.zero tGateMend)).2.2.2.2.2.1 (⟨#[]⟩ : ByteArray)) && (!y2.1)))) = true then
        cs.1 (false, ())
      else
        next (x.1, x.2.1, x.2.2.1, x.2.2.2.1, (IntKind.i64.wrap (x.2.2.2.2.1 + (1 : Int))), ())
    else
      none
  else
    cs.2.1 ()
def f (n : Nat) (x : Tup [(.slice tGateMend), .str, .str, (.slice .str)]) : Option (Tup [.bool]) :=
  runL (B2 n) ((fun z3 =>
      some (z3.1, ())), (fun z4 =>
      some (true, ())), ()) n (x.1, x.2.1, x.2.2.1, x.2.2.2.1, (0 : Int), ())
@[reducible] def sig (n : Nat) : Sig := ⟨[(.slice tGateMend), .str, .str, (.slice .str)], [.bool], false, f n, none⟩
def T (n : Nat) : FuncId → Option Sig := fun g => if Nat.beq g 62 = true then some (spec_l1Has.sig n) else none
def TL (n : Nat) : Loops := fun j _ st k => if Nat.beq j 2 = true then (match dec st l2.inS [] with | some x => runL (B2 n) (contsOf k l2.outs) n x | none => none) else none
theorem d2 (n : Nat) : LoopDef Try.prog (T n) (TL n) Try.f63 2 :=
  ⟨l2, fun R => B2 n, n, fun R st k => by kernel_rfl, fun R next cs x => by kernel_rfl⟩
theorem con (n : Nat) : Con Try.prog 63 (sig n) :=
  con_print (hsw := rfl) (T := T n) (TL := TL n) (c := Try.f63.body.getD .skip) (js := [2]) hMixed (conT_cons (spec_l1Has.con n) conT_none) Try.func63 (by decide) (by kernel_rfl) (by kernel_rfl) (by decide) (LoopDef.cons (d2 n) LoopDef.nil) (fun x => by kernel_rfl)
end spec_l3Ready
namespace spec_l3Row
@[reducible] def l6 : LSpec := ⟨[(1, .d (.slice tGateMend)), (2, .rb tGateShape), (5, .row true .str), (6, .d (.int .i64)), (7, .d (.int .i64))], [(.exit 2, [(1, .d (.slice tGateMend)), (2, .rb tGateShape), (5, .row true .str), (6, .d (.int .i64))])]⟩
def B6 (n : Nat) {R : Type} (next : Sden l6.inS → Option R) (cs : Conts R l6.outs) (x : Sden l6.inS) : Option R :=
  if (decide (x.2.2.2.2.1 < (List.length x.2.1.2.1 : Int))) = true then
    if (decide (0 ≤ x.2.2.2.2.1 ∧ x.2.2.2.2.1 < (List.length x.2.1.2.1 : Int))) = true then
      (spec_l1Has.f n (x.2.2.1, (List.getD x.2.1.2.1 (Int.toNat x.2.2.2.2.1) (Ty.zero tGateField)).1, ())).bind fun y1 =>
      (if (!y1.1) = true then (spec_l3Ready.f n (x.1, x.2.1.1, (List.getD x.2.1.2.1 (Int.toNat x.2.2.2.2.1) (Ty.zero tGateField)).1, x.2.2.1, ())) else some (tzero [.bool])).bind fun y2 =>
      if ((!y1.1) && y2.1) = true then
        if (appBound (List.length x.2.2.1) (List.length [(List.getD x.2.1.2.1 (Int.toNat x.2.2.2.2.1) (Ty.zero tGateField)).1]) 16) = true then
          cs.1 (x.1, x.2.1, (x.2.2.1 ++ [(List.getD x.2.1.2.1 (Int.toNat x.2.2.2.2.1) (Ty.zero tGateField)).1]), x.2.2.2.1, ())
        else
          none
      else
        next (x.1, x.2.1, x.2.2.1, x.2.2.2.1, (IntKind.i64.wrap (x.2.2.2.2.1 + (1 : Int))), ())
    else
      none
  else
    cs.1 (x.1, x.2.1, x.2.2.1, x.2.2.2.1, ())
@[reducible] def l3 : LSpec := ⟨[(1, .d (.slice tGateMend)), (2, .rb tGateShape), (5, .row true .str), (6, .d (.int .i64))], [(.exit 0, [(5, .row true .str)])]⟩
def B3 (n : Nat) {R : Type} (next : Sden l3.inS → Option R) (cs : Conts R l3.outs) (x : Sden l3.inS) : Option R :=
  if (decide (x.2.2.2.1 < (List.length x.2.1.2.1 : Int))) = true then
    runL (B6 n) ((fun z3 =>
        next (z3.1, z3.2.1, z3.2.2.1, (IntKind.i64.wrap (z3.2.2.2.1 + (1 : Int))), ())), ()) n (x.1, x.2.1, x.2.2.1, x.2.2.2.1, (0 : Int), ())
  else
    cs.1 (x.2.2.1, ())
def f (n : Nat) (x : Tup [tGateShape, (.slice tGateMend)]) : Option (Tup [(.slice .str)]) :=
  runL (B3 n) ((fun z4 =>
      some (z4.1, ())), ()) n (x.2.1, x.1, ([] : List (Ty.den .str)), (0 : Int), ())
@[reducible] def sig (n : Nat) : Sig := ⟨[tGateShape, (.slice tGateMend)], [(.slice .str)], true, f n, none⟩
def T (n : Nat) : FuncId → Option Sig := fun g => if Nat.beq g 62 = true then some (spec_l1Has.sig n) else if Nat.beq g 63 = true then some (spec_l3Ready.sig n) else none
def TL (n : Nat) : Loops := fun j _ st k => if Nat.beq j 6 = true then (match dec st l6.inS [] with | some x => runL (B6 n) (contsOf k l6.outs) n x | none => none) else if Nat.beq j 3 = true then (match dec st l3.inS [] with | some x => runL (B3 n) (contsOf k l3.outs) n x | none => none) else none
theorem d6 (n : Nat) : LoopDef Try.prog (T n) (TL n) Try.f42 6 :=
  ⟨l6, fun R => B6 n, n, fun R st k => by kernel_rfl, fun R next cs x => by kernel_rfl⟩
theorem d3 (n : Nat) : LoopDef Try.prog (T n) (TL n) Try.f42 3 :=
  ⟨l3, fun R => B3 n, n, fun R st k => by kernel_rfl, fun R next cs x => by kernel_rfl⟩
theorem con (n : Nat) : Con Try.prog 42 (sig n) :=
  con_print (hsw := rfl) (T := T n) (TL := TL n) (c := Try.f42.body.getD .skip) (js := [3, 6]) hMixed (conT_cons (spec_l1Has.con n) (conT_cons (spec_l3Ready.con n) conT_none)) Try.func42 (by decide) (by kernel_rfl) (by kernel_rfl) (by decide) (LoopDef.cons (d3 n) (LoopDef.cons (d6 n) LoopDef.nil)) (fun x => by kernel_rfl)
end spec_l3Row
namespace spec_GateMendsOk
@[reducible] def l4 : LSpec := ⟨[(0, .d (.slice tGateShape)), (1, .d (.slice tGateMend)), (5, .d (.int .i64))], [(.ret, [(4, .d .bool)]), (.exit 0, [(0, .d (.slice tGateShape)), (1, .d (.slice tGateMend))])]⟩
def B4 (n : Nat) {R : Type} (next : Sden l4.inS → Option R) (cs : Conts R l4.outs) (x : Sden l4.inS) : Option R :=
  if (decide (x.2.2.1 < (List.length x.2.1 : Int))) = true then
    if (decide (0 ≤ x.2.2.1 ∧ x.2.2.1 < (List.length x.2.1 : Int))) = true then
      (spec_l3MendOk.f n (x.1, (List.getD x.2.1 (Int.toNat x.2.2.1) (Ty.zero tGateMend)), ())).bind fun y2 =>
      if (!y2.1) = true then
        cs.1 (false, ())
      else
        next (x.1, x.2.1, (IntKind.i64.wrap (x.2.2.1 + (1 : Int))), ())
    else
      none
  else
    cs.2.1 (x.1, x.2.1, ())
@[reducible] def l9 : LSpec := ⟨[(0, .d (.slice tGateShape)), (1, .d (.slice tGateMend)), (6, .d (.int .i64))], [(.ret, [(4, .d .bool)]), (.exit 2, [])]⟩
def B9 (n : Nat) {R : Type} (next : Sden l9.inS → Option R) (cs : Conts R l9.outs) (x : Sden l9.inS) : Option R :=
  if (decide (x.2.2.1 < (List.length x.1 : Int))) = true then
    if (!true || (decide (0 ≤ x.2.2.1 ∧ x.2.2.1 < (List.length x.1 : Int)))) = true then
      (spec_l3Row.f n ((List.getD x.1 (Int.toNat x.2.2.1) (Ty.zero tGateShape)), x.2.1, ())).bind fun y5 =>
      if (!true || (decide (0 ≤ x.2.2.1 ∧ x.2.2.1 < (List.length x.1 : Int)))) = true then
        if ((List.length y5.1 : Int) != (List.length (List.getD x.1 (Int.toNat x.2.2.1) (Ty.zero tGateShape)).2.1 : Int)) = true then
          cs.1 (false, ())
        else
          next (x.1, x.2.1, (IntKind.i64.wrap (x.2.2.1 + (1 : Int))), ())
      else
        none
    else
      none
  else
    cs.2.1 ()
def f (n : Nat) (x : Tup [(.slice tGateShape), (.slice tGateMend)]) : Option (Tup [.bool]) :=
  (spec_GateShapesOk.f n (x.1, ())).bind fun y1 =>
  if ((!y1.1) || (decide ((List.length x.2.1 : Int) > (12 : Int)))) = true then
    some (false, ())
  else
    runL (B4 n) ((fun z3 =>
        some (z3.1, ())), (fun z4 =>
        runL (B9 n) ((fun z6 =>
            some (z6.1, ())), (fun z7 =>
            some (true, ())), ()) n (z4.1, z4.2.1, (0 : Int), ())), ()) n (x.1, x.2.1, (0 : Int), ())
@[reducible] def sig (n : Nat) : Sig := ⟨[(.slice tGateShape), (.slice tGateMend)], [.bool], false, f n, none⟩
def T (n : Nat) : FuncId → Option Sig := fun g => if Nat.beq g 40 = true then some (spec_GateShapesOk.sig n) else if Nat.beq g 41 = true then some (spec_l3MendOk.sig n) else if Nat.beq g 42 = true then some (spec_l3Row.sig n) else none
def TL (n : Nat) : Loops := fun j _ st k => if Nat.beq j 4 = true then (match dec st l4.inS [] with | some x => runL (B4 n) (contsOf k l4.outs) n x | none => none) else if Nat.beq j 9 = true then (match dec st l9.inS [] with | some x => runL (B9 n) (contsOf k l9.outs) n x | none => none) else none
theorem d4 (n : Nat) : LoopDef Try.prog (T n) (TL n) Try.f22 4 :=
  ⟨l4, fun R => B4 n, n, fun R st k => by kernel_rfl, fun R next cs x => by kernel_rfl⟩
theorem d9 (n : Nat) : LoopDef Try.prog (T n) (TL n) Try.f22 9 :=
  ⟨l9, fun R => B9 n, n, fun R st k => by kernel_rfl, fun R next cs x => by kernel_rfl⟩
theorem con (n : Nat) : Con Try.prog 22 (sig n) :=
  con_print (hsw := rfl) (T := T n) (TL := TL n) (c := Try.f22.body.getD .skip) (js := [4, 9]) hMixed (conT_cons (spec_GateShapesOk.con n) (conT_cons (spec_l3MendOk.con n) (conT_cons (spec_l3Row.con n) conT_none))) Try.func22 (by decide) (by kernel_rfl) (by kernel_rfl) (by decide) (LoopDef.cons (d4 n) (LoopDef.cons (d9 n) LoopDef.nil)) (fun x => by kernel_rfl)
end spec_GateMendsOk
namespace spec_l2Copy
def f (n : Nat) (x : Tup [tGateObject]) : Option (Tup [tGateObject]) :=
  if (appBound (List.length ([] : List (Ty.den .str))) (List.length x.1.2.2.2.1) 16) = true then
    if (appBound (List.length ([] : List (Ty.den .str))) (List.length x.1.2.2.2.2.2.1) 16) = true then
      some ((x.1.1, x.1.2.1, x.1.2.2.1, (([] : List (Ty.den .str)) ++ x.1.2.2.2.1), x.1.2.2.2.2.1, (([] : List (Ty.den .str)) ++ x.1.2.2.2.2.2.1), x.1.2.2.2.2.2.2), ())
    else
      none
  else
    none
@[reducible] def sig (n : Nat) : Sig := ⟨[tGateObject], [tGateObject], true, f n, none⟩
def T (n : Nat) : FuncId → Option Sig := fun g => none
def TL (n : Nat) : Loops := fun j _ st k => none
theorem con (n : Nat) : Con Try.prog 23 (sig n) :=
  con_print (hsw := rfl) (T := T n) (TL := TL n) (c := Try.f23.body.getD .skip) (js := []) hMixed conT_none Try.func23 (by decide) (by kernel_rfl) (by kernel_rfl) (by decide) LoopDef.nil (fun x => by kernel_rfl)
end spec_l2Copy
namespace spec_l2Fields
def f (n : Nat) (x : Tup [(.slice tGateShape), tGateObject]) : Option (Tup [(.slice tGateField), .bool]) :=
  (spec_l1Shape.f n (x.1, x.2.1.1, ())).bind fun y1 =>
  if (!(!(decide (y1.1 < (0 : Int)))) || (decide (0 ≤ y1.1 ∧ y1.1 < (List.length x.1 : Int)))) = true then
    if ((decide (y1.1 < (0 : Int))) || ((List.length (List.getD x.1 (Int.toNat y1.1) (Ty.zero tGateShape)).2.1 : Int) != (List.length x.2.1.2.2.2.1 : Int))) = true then
      some (([] : List (Ty.den tGateField)), false, ())
    else if (decide (0 ≤ y1.1 ∧ y1.1 < (List.length x.1 : Int))) = true then
      some ((List.getD x.1 (Int.toNat y1.1) (Ty.zero tGateShape)).2.1, true, ())
    else
      none
  else
    none
@[reducible] def sig (n : Nat) : Sig := ⟨[(.slice tGateShape), tGateObject], [(.slice tGateField), .bool], false, f n, none⟩
def T (n : Nat) : FuncId → Option Sig := fun g => if Nat.beq g 58 = true then some (spec_l1Shape.sig n) else none
def TL (n : Nat) : Loops := fun j _ st k => none
theorem con (n : Nat) : Con Try.prog 64 (sig n) :=
  con_print (hsw := rfl) (T := T n) (TL := TL n) (c := Try.f64.body.getD .skip) (js := []) hMixed (conT_cons (spec_l1Shape.con n) conT_none) Try.func64 (by decide) (by kernel_rfl) (by kernel_rfl) (by decide) LoopDef.nil (fun x => by kernel_rfl)
end spec_l2Fields
namespace spec_l2Fill
@[reducible] def l6 : LSpec := ⟨[(4, .box [.d .str, .d .str, .d .str, .row true .str, .d .bool, .row true .str, .d (.int .i64)]), (5, .box [.d .str, .d .str, .d .str, .row true .str, .d .bool, .row true .str, .d (.int .i64)]), (6, .d (.slice tGateField)), (8, .d (.int .i64))], [(.exit 0, [(4, .box [.d .str, .d .str, .d .str, .row true .str, .d .bool, .row true .str, .d (.int .i64)]), (5, .box [.d .str, .d .str, .d .str, .row true .str, .d .bool, .row true .str, .d (.int .i64)])])]⟩
def B6 (n : Nat) {R : Type} (next : Sden l6.inS → Option R) (cs : Conts R l6.outs) (x : Sden l6.inS) : Option R :=
  if (decide (x.2.2.2.1 < (List.length x.2.2.1 : Int))) = true then
    if (decide (0 ≤ x.2.2.2.1 ∧ x.2.2.2.1 < (List.length x.2.1.2.2.2.1 : Int))) = true then
      if (seq (List.getD x.2.1.2.2.2.1 (Int.toNat x.2.2.2.1) (⟨#[]⟩ : ByteArray)) (⟨#[]⟩ : ByteArray)) = true then
        if (!true || (decide (0 ≤ x.2.2.2.1 ∧ x.2.2.2.1 < (List.length x.2.2.1 : Int)))) = true then
          if (decide (0 ≤ x.2.2.2.1 ∧ x.2.2.2.1 < (List.length x.2.1.2.2.2.1 : Int))) = true then
            next ((x.1.1, x.1.2.1, x.1.2.2.1, x.1.2.2.2.1, x.1.2.2.2.2.1, x.1.2.2.2.2.2.1, x.1.2.2.2.2.2.2.1, ()), (x.2.1.1, x.2.1.2.1, x.2.1.2.2.1, (List.set x.2.1.2.2.2.1 (Int.toNat x.2.2.2.1) (List.getD x.2.2.1 (Int.toNat x.2.2.2.1) (Ty.zero tGateField)).2.2.2.2.2.2.2.2.2.1), x.2.1.2.2.2.2.1, x.2.1.2.2.2.2.2.1, x.2.1.2.2.2.2.2.2.1, ()), x.2.2.1, (IntKind.i64.wrap (x.2.2.2.1 + (1 : Int))), ())
          else
            none
        else
          none
      else
        next ((x.1.1, x.1.2.1, x.1.2.2.1, x.1.2.2.2.1, x.1.2.2.2.2.1, x.1.2.2.2.2.2.1, x.1.2.2.2.2.2.2.1, ()), (x.2.1.1, x.2.1.2.1, x.2.1.2.2.1, x.2.1.2.2.2.1, x.2.1.2.2.2.2.1, x.2.1.2.2.2.2.2.1, x.2.1.2.2.2.2.2.2.1, ()), x.2.2.1, (IntKind.i64.wrap (x.2.2.2.1 + (1 : Int))), ())
    else
      none
  else
    cs.1 ((x.1.1, x.1.2.1, x.1.2.2.1, x.1.2.2.2.1, x.1.2.2.2.2.1, x.1.2.2.2.2.2.1, x.1.2.2.2.2.2.2.1, ()), (x.2.1.1, x.2.1.2.1, x.2.1.2.2.1, x.2.1.2.2.2.1, x.2.1.2.2.2.2.1, x.2.1.2.2.2.2.2.1, x.2.1.2.2.2.2.2.2.1, ()), ())
def f (n : Nat) (x : Tup [(.slice tGateShape), tGateObject]) : Option (Tup [tGateObject]) :=
  (spec_l2Copy.f n (x.2.1, ())).bind fun y1 =>
  (spec_l2Fields.f n (x.1, x.2.1, ())).bind fun y2 =>
  if (!y2.2.1) = true then
    some (y1.1, ())
  else
    runL (B6 n) ((fun z3 =>
        some ((z3.2.1.1, z3.2.1.2.1, z3.2.1.2.2.1, z3.2.1.2.2.2.1, z3.2.1.2.2.2.2.1, z3.2.1.2.2.2.2.2.1, z3.2.1.2.2.2.2.2.2.1, ()), ())), ()) n (((⟨#[]⟩ : ByteArray), (⟨#[]⟩ : ByteArray), (⟨#[]⟩ : ByteArray), [], false, [], (0 : Int), ()), (y1.1.1, y1.1.2.1, y1.1.2.2.1, y1.1.2.2.2.1, y1.1.2.2.2.2.1, y1.1.2.2.2.2.2.1, y1.1.2.2.2.2.2.2.1, ()), y2.1, (0 : Int), ())
@[reducible] def sig (n : Nat) : Sig := ⟨[(.slice tGateShape), tGateObject], [tGateObject], true, f n, none⟩
def T (n : Nat) : FuncId → Option Sig := fun g => if Nat.beq g 23 = true then some (spec_l2Copy.sig n) else if Nat.beq g 64 = true then some (spec_l2Fields.sig n) else none
def TL (n : Nat) : Loops := fun j _ st k => if Nat.beq j 6 = true then (match dec st l6.inS [] with | some x => runL (B6 n) (contsOf k l6.outs) n x | none => none) else none
theorem d6 (n : Nat) : LoopDef Try.prog (T n) (TL n) Try.f44 6 :=
  ⟨l6, fun R => B6 n, n, fun R st k => by kernel_rfl, fun R next cs x => by kernel_rfl⟩
theorem con (n : Nat) : Con Try.prog 44 (sig n) :=
  con_print (hsw := rfl) (T := T n) (TL := TL n) (c := Try.f44.body.getD .skip) (js := [6]) hMixed (conT_cons (spec_l2Copy.con n) (conT_cons (spec_l2Fields.con n) conT_none)) Try.func44 (by decide) (by kernel_rfl) (by kernel_rfl) (by decide) (LoopDef.cons (d6 n) LoopDef.nil) (fun x => by kernel_rfl)
end spec_l2Fill
namespace spec_l3Decided
@[reducible] def l2 : LSpec := ⟨[(0, .d (.slice tGateField)), (1, .d (.slice tGateMend)), (3, .d .str), (6, .rb tGateObject), (9, .d (.int .i64))], [(.ret, [(8, .d .str)]), (.exit 0, [(0, .d (.slice tGateField)), (3, .d .str), (6, .rb tGateObject)])]⟩
def B2 (n : Nat) {R : Type} (next : Sden l2.inS → Option R) (cs : Conts R l2.outs) (x : Sden l2.inS) : Option R :=
  if (decide (x.2.2.2.2.1 < (List.length x.2.1 : Int))) = true then
    if (decide (0 ≤ x.2.2.2.2.1 ∧ x.2.2.2.2.1 < (List.length x.2.1 : Int))) = true then
      (if ((!((!seq (List.getD x.2.1 (Int.toNat x.2.2.2.2.1) (Ty.zero tGateMend)).1 x.2.2.2.1.1) || (!seq (List.getD x.2.1 (Int.toNat x.2.2.2.2.1) (Ty.zero tGateMend)).2.1 x.2.2.1))) && (!seq (List.getD x.2.1 (Int.toNat x.2.2.2.2.1) (Ty.zero tGateMend)).2.2.1 (⟨#[]⟩ : ByteArray))) = true then (spec_l3Field.f n (x.1, (List.getD x.2.1 (Int.toNat x.2.2.2.2.1) (Ty.zero tGateMend)).2.2.1, ())) else some (tzero [(.int .i64)])).bind fun y1 =>
      if (!((!((!seq (List.getD x.2.1 (Int.toNat x.2.2.2.2.1) (Ty.zero tGateMend)).1 x.2.2.2.1.1) || (!seq (List.getD x.2.1 (Int.toNat x.2.2.2.2.1) (Ty.zero tGateMend)).2.1 x.2.2.1))) && (!seq (List.getD x.2.1 (Int.toNat x.2.2.2.2.1) (Ty.zero tGateMend)).2.2.1 (⟨#[]⟩ : ByteArray))) || (decide (0 ≤ y1.1 ∧ y1.1 < (List.length x.2.2.2.1.2.2.2.1 : Int)))) = true then
        if (((!seq (List.getD x.2.1 (Int.toNat x.2.2.2.2.1) (Ty.zero tGateMend)).1 x.2.2.2.1.1) || (!seq (List.getD x.2.1 (Int.toNat x.2.2.2.2.1) (Ty.zero tGateMend)).2.1 x.2.2.1)) || ((!seq (List.getD x.2.1 (Int.toNat x.2.2.2.2.1) (Ty.zero tGateMend)).2.2.1 (⟨#[]⟩ : ByteArray)) && (!seq (List.getD x.2.2.2.1.2.2.2.1 (Int.toNat y1.1) (⟨#[]⟩ : ByteArray)) (List.getD x.2.1 (Int.toNat x.2.2.2.2.1) (Ty.zero tGateMend)).2.2.2.1))) = true then
          next (x.1, x.2.1, x.2.2.1, x.2.2.2.1, (IntKind.i64.wrap (x.2.2.2.2.1 + (1 : Int))), ())
        else if (seq (List.getD x.2.1 (Int.toNat x.2.2.2.2.1) (Ty.zero tGateMend)).2.2.2.2.2.1 (⟨#[]⟩ : ByteArray)) = true then
          cs.1 ((List.getD x.2.1 (Int.toNat x.2.2.2.2.1) (Ty.zero tGateMend)).2.2.2.2.1, ())
        else
          (if true = true then (spec_l3Field.f n (x.1, (List.getD x.2.1 (Int.toNat x.2.2.2.2.1) (Ty.zero tGateMend)).2.2.2.2.2.1, ())) else some (tzero [(.int .i64)])).bind fun y2 =>
          if (decide (0 ≤ y2.1 ∧ y2.1 < (List.length x.2.2.2.1.2.2.2.1 : Int))) = true then
            if (!seq (List.getD x.2.2.2.1.2.2.2.1 (Int.toNat y2.1) (⟨#[]⟩ : ByteArray)) (⟨#[]⟩ : ByteArray)) = true then
              cs.1 ((List.getD x.2.2.2.1.2.2.2.1 (Int.toNat y2.1) (⟨#[]⟩ : ByteArray)), ())
            else
              next (x.1, x.2.1, x.2.2.1, x.2.2.2.1, (IntKind.i64.wrap (x.2.2.2.2.1 + (1 : Int))), ())
          else
            none
      else
        none
    else
      none
  else
    cs.2.1 (x.1, x.2.2.1, x.2.2.2.1, ())
def f (n : Nat) (x : Tup [(.slice tGateField), (.slice tGateMend), tGateObject, .str]) : Option (Tup [.str]) :=
  runL (B2 n) ((fun z3 =>
      some (z3.1, ())), (fun z4 =>
      (if true = true then (spec_l3Field.f n (z4.1, z4.2.1, ())) else some (tzero [(.int .i64)])).bind fun y5 =>
      if (decide (0 ≤ y5.1 ∧ y5.1 < (List.length z4.2.2.1.2.2.2.1 : Int))) = true then
        some ((List.getD z4.2.2.1.2.2.2.1 (Int.toNat y5.1) (⟨#[]⟩ : ByteArray)), ())
      else
        none), ()) n (x.1, x.2.1, x.2.2.2.1, x.2.2.1, (0 : Int), ())
@[reducible] def sig (n : Nat) : Sig := ⟨[(.slice tGateField), (.slice tGateMend), tGateObject, .str], [.str], false, f n, none⟩
def T (n : Nat) : FuncId → Option Sig := fun g => if Nat.beq g 61 = true then some (spec_l3Field.sig n) else none
def TL (n : Nat) : Loops := fun j _ st k => if Nat.beq j 2 = true then (match dec st l2.inS [] with | some x => runL (B2 n) (contsOf k l2.outs) n x | none => none) else none
theorem d2 (n : Nat) : LoopDef Try.prog (T n) (TL n) Try.f65 2 :=
  ⟨l2, fun R => B2 n, n, fun R st k => by kernel_rfl, fun R next cs x => by kernel_rfl⟩
theorem con (n : Nat) : Con Try.prog 65 (sig n) :=
  con_print (hsw := rfl) (T := T n) (TL := TL n) (c := Try.f65.body.getD .skip) (js := [2]) hMixed (conT_cons (spec_l3Field.con n) conT_none) Try.func65 (by decide) (by kernel_rfl) (by kernel_rfl) (by decide) (LoopDef.cons (d2 n) LoopDef.nil) (fun x => by kernel_rfl)
end spec_l3Decided
namespace spec_l3Mended
@[reducible] def l7 : LSpec := ⟨[(1, .d (.slice tGateMend)), (6, .box [.d .str, .d .str, .d .str, .row true .str, .d .bool, .row true .str, .d (.int .i64)]), (7, .box [.d .str, .d .str, .d .str, .row true .str, .d .bool, .row true .str, .d (.int .i64)]), (8, .d (.slice tGateField)), (10, .row true .str), (11, .d (.int .i64))], [(.exit 0, [(6, .box [.d .str, .d .str, .d .str, .row true .str, .d .bool, .row true .str, .d (.int .i64)]), (7, .box [.d .str, .d .str, .d .str, .row true .str, .d .bool, .row true .str, .d (.int .i64)])])]⟩
def B7 (n : Nat) {R : Type} (next : Sden l7.inS → Option R) (cs : Conts R l7.outs) (x : Sden l7.inS) : Option R :=
  if (decide (x.2.2.2.2.2.1 < (List.length x.2.2.2.2.1 : Int))) = true then
    if (!true || (decide (0 ≤ x.2.2.2.2.2.1 ∧ x.2.2.2.2.2.1 < (List.length x.2.2.2.2.1 : Int)))) = true then
      (if true = true then (spec_l3Field.f n (x.2.2.2.1, (List.getD x.2.2.2.2.1 (Int.toNat x.2.2.2.2.2.1) (⟨#[]⟩ : ByteArray)), ())) else some (tzero [(.int .i64)])).bind fun y5 =>
      if (!true || (decide (0 ≤ x.2.2.2.2.2.1 ∧ x.2.2.2.2.2.1 < (List.length x.2.2.2.2.1 : Int)))) = true then
        (if true = true then (spec_l3Decided.f n (x.2.2.2.1, x.1, (x.2.2.1.1, x.2.2.1.2.1, x.2.2.1.2.2.1, x.2.2.1.2.2.2.1, x.2.2.1.2.2.2.2.1, x.2.2.1.2.2.2.2.2.1, x.2.2.1.2.2.2.2.2.2.1, ()), (List.getD x.2.2.2.2.1 (Int.toNat x.2.2.2.2.2.1) (⟨#[]⟩ : ByteArray)), ())) else some (tzero [.str])).bind fun y6 =>
        if (decide (0 ≤ y5.1 ∧ y5.1 < (List.length x.2.2.1.2.2.2.1 : Int))) = true then
          next (x.1, (x.2.1.1, x.2.1.2.1, x.2.1.2.2.1, x.2.1.2.2.2.1, x.2.1.2.2.2.2.1, x.2.1.2.2.2.2.2.1, x.2.1.2.2.2.2.2.2.1, ()), (x.2.2.1.1, x.2.2.1.2.1, x.2.2.1.2.2.1, (List.set x.2.2.1.2.2.2.1 (Int.toNat y5.1) y6.1), x.2.2.1.2.2.2.2.1, x.2.2.1.2.2.2.2.2.1, x.2.2.1.2.2.2.2.2.2.1, ()), x.2.2.2.1, x.2.2.2.2.1, (IntKind.i64.wrap (x.2.2.2.2.2.1 + (1 : Int))), ())
        else
          none
      else
        none
    else
      none
  else
    cs.1 ((x.2.1.1, x.2.1.2.1, x.2.1.2.2.1, x.2.1.2.2.2.1, x.2.1.2.2.2.2.1, x.2.1.2.2.2.2.2.1, x.2.1.2.2.2.2.2.2.1, ()), (x.2.2.1.1, x.2.2.1.2.1, x.2.2.1.2.2.1, x.2.2.1.2.2.2.1, x.2.2.1.2.2.2.2.1, x.2.2.1.2.2.2.2.2.1, x.2.2.1.2.2.2.2.2.2.1, ()), ())
def f (n : Nat) (x : Tup [(.slice tGateShape), (.slice tGateMend), tGateObject]) : Option (Tup [tGateObject]) :=
  (spec_l2Copy.f n (x.2.2.1, ())).bind fun y1 =>
  (spec_l2Fields.f n (x.1, x.2.2.1, ())).bind fun y2 =>
  if (!y2.2.1) = true then
    some (y1.1, ())
  else
    (spec_l1Shape.f n (x.1, x.2.2.1.1, ())).bind fun y3 =>
    if (decide (0 ≤ y3.1 ∧ y3.1 < (List.length x.1 : Int))) = true then
      (spec_l3Row.f n ((List.getD x.1 (Int.toNat y3.1) (Ty.zero tGateShape)), x.2.1, ())).bind fun y4 =>
      runL (B7 n) ((fun z7 =>
          some ((z7.2.1.1, z7.2.1.2.1, z7.2.1.2.2.1, z7.2.1.2.2.2.1, z7.2.1.2.2.2.2.1, z7.2.1.2.2.2.2.2.1, z7.2.1.2.2.2.2.2.2.1, ()), ())), ()) n (x.2.1, ((⟨#[]⟩ : ByteArray), (⟨#[]⟩ : ByteArray), (⟨#[]⟩ : ByteArray), [], false, [], (0 : Int), ()), (y1.1.1, y1.1.2.1, y1.1.2.2.1, y1.1.2.2.2.1, y1.1.2.2.2.2.1, y1.1.2.2.2.2.2.1, y1.1.2.2.2.2.2.2.1, ()), y2.1, y4.1, (0 : Int), ())
    else
      none
@[reducible] def sig (n : Nat) : Sig := ⟨[(.slice tGateShape), (.slice tGateMend), tGateObject], [tGateObject], true, f n, none⟩
def T (n : Nat) : FuncId → Option Sig := fun g => if Nat.beq g 23 = true then some (spec_l2Copy.sig n) else if Nat.beq g 42 = true then some (spec_l3Row.sig n) else if Nat.beq g 58 = true then some (spec_l1Shape.sig n) else if Nat.beq g 61 = true then some (spec_l3Field.sig n) else if Nat.beq g 64 = true then some (spec_l2Fields.sig n) else if Nat.beq g 65 = true then some (spec_l3Decided.sig n) else none
def TL (n : Nat) : Loops := fun j _ st k => if Nat.beq j 7 = true then (match dec st l7.inS [] with | some x => runL (B7 n) (contsOf k l7.outs) n x | none => none) else none
theorem d7 (n : Nat) : LoopDef Try.prog (T n) (TL n) Try.f43 7 :=
  ⟨l7, fun R => B7 n, n, fun R st k => by kernel_rfl, fun R next cs x => by kernel_rfl⟩
theorem con (n : Nat) : Con Try.prog 43 (sig n) :=
  con_print (hsw := rfl) (T := T n) (TL := TL n) (c := Try.f43.body.getD .skip) (js := [7]) hMixed (conT_cons (spec_l2Copy.con n) (conT_cons (spec_l3Row.con n) (conT_cons (spec_l1Shape.con n) (conT_cons (spec_l3Field.con n) (conT_cons (spec_l2Fields.con n) (conT_cons (spec_l3Decided.con n) conT_none)))))) Try.func43 (by decide) (by kernel_rfl) (by kernel_rfl) (by decide) (LoopDef.cons (d7 n) LoopDef.nil) (fun x => by kernel_rfl)
end spec_l3Mended
namespace spec_l3Shaped
def f (n : Nat) (x : Tup [(.slice tGateShape), (.slice tGateMend), tGateObject]) : Option (Tup [tGateObject]) :=
  (spec_l2Fill.f n (x.1, x.2.2.1, ())).bind fun y1 =>
  (spec_l3Mended.f n (x.1, x.2.1, y1.1, ())).bind fun y2 =>
  some (y2.1, ())
@[reducible] def sig (n : Nat) : Sig := ⟨[(.slice tGateShape), (.slice tGateMend), tGateObject], [tGateObject], true, f n, none⟩
def T (n : Nat) : FuncId → Option Sig := fun g => if Nat.beq g 43 = true then some (spec_l3Mended.sig n) else if Nat.beq g 44 = true then some (spec_l2Fill.sig n) else none
def TL (n : Nat) : Loops := fun j _ st k => none
theorem con (n : Nat) : Con Try.prog 24 (sig n) :=
  con_print (hsw := rfl) (T := T n) (TL := TL n) (c := Try.f24.body.getD .skip) (js := []) hMixed (conT_cons (spec_l3Mended.con n) (conT_cons (spec_l2Fill.con n) conT_none)) Try.func24 (by decide) (by kernel_rfl) (by kernel_rfl) (by decide) LoopDef.nil (fun x => by kernel_rfl)
end spec_l3Shaped
namespace spec_GateShaped
def f (n : Nat) (x : Tup [(.slice tGateShape), (.slice tGateMend), tGateObject]) : Option (Tup [tGateObject]) :=
  (spec_GateMendsOk.f n (x.1, x.2.1, ())).bind fun y1 =>
  if (!y1.1) = true then
    (spec_l2Copy.f n (x.2.2.1, ())).bind fun y2 =>
    some (y2.1, ())
  else
    (spec_l3Shaped.f n (x.1, x.2.1, x.2.2.1, ())).bind fun y3 =>
    some (y3.1, ())
@[reducible] def sig (n : Nat) : Sig := ⟨[(.slice tGateShape), (.slice tGateMend), tGateObject], [tGateObject], true, f n, none⟩
def T (n : Nat) : FuncId → Option Sig := fun g => if Nat.beq g 22 = true then some (spec_GateMendsOk.sig n) else if Nat.beq g 23 = true then some (spec_l2Copy.sig n) else if Nat.beq g 24 = true then some (spec_l3Shaped.sig n) else none
def TL (n : Nat) : Loops := fun j _ st k => none
theorem con (n : Nat) : Con Try.prog 7 (sig n) :=
  con_print (hsw := rfl) (T := T n) (TL := TL n) (c := Try.f7.body.getD .skip) (js := []) hMixed (conT_cons (spec_GateMendsOk.con n) (conT_cons (spec_l2Copy.con n) (conT_cons (spec_l3Shaped.con n) conT_none))) Try.func7 (by decide) (by kernel_rfl) (by kernel_rfl) (by decide) LoopDef.nil (fun x => by kernel_rfl)
end spec_GateShaped
namespace impl_nameByte
def f (n : Nat) (x : Tup [(.int .u8)]) : Option (Tup [.bool]) :=
  some (((((decide (x.1 ≥ (97 : Int))) && (decide (x.1 ≤ (122 : Int)))) || ((decide (x.1 ≥ (48 : Int))) && (decide (x.1 ≤ (57 : Int))))) || (x.1 == (45 : Int))), ())
@[reducible] def sig (n : Nat) : Sig := ⟨[(.int .u8)], [.bool], false, f n, none⟩
def T (n : Nat) : FuncId → Option Sig := fun g => none
def TL (n : Nat) : Loops := fun j _ st k => none
theorem con (n : Nat) : Con Try.prog 87 (sig n) :=
  con_print (hsw := rfl) (T := T n) (TL := TL n) (c := Try.f87.body.getD .skip) (js := []) hMixed conT_none Try.func87 (by decide) (by kernel_rfl) (by kernel_rfl) (by decide) LoopDef.nil (fun x => by kernel_rfl)
end impl_nameByte
namespace impl_nameBytes
@[reducible] def l2 : LSpec := ⟨[(0, .d .str), (5, .d (.int .i64)), (6, .d (.int .i64))], [(.ret, [(2, .d .bool)]), (.exit 0, [])]⟩
def B2 (n : Nat) {R : Type} (next : Sden l2.inS → Option R) (cs : Conts R l2.outs) (x : Sden l2.inS) : Option R :=
  if (decide (x.2.2.1 < x.2.1)) = true then
    if (decide (0 ≤ x.2.2.1 ∧ x.2.2.1 < (ByteArray.size x.1 : Int))) = true then
      (impl_nameByte.f n ((byteAt x.1 x.2.2.1), ())).bind fun y1 =>
      if (!y1.1) = true then
        cs.1 (false, ())
      else
        next (x.1, x.2.1, (IntKind.i64.wrap (x.2.2.1 + (1 : Int))), ())
    else
      none
  else
    cs.2.1 ()
def f (n : Nat) (x : Tup [.str]) : Option (Tup [.bool]) :=
  runL (B2 n) ((fun z2 =>
      some (z2.1, ())), (fun z3 =>
      some (true, ())), ()) n (x.1, (ByteArray.size x.1 : Int), (0 : Int), ())
@[reducible] def sig (n : Nat) : Sig := ⟨[.str], [.bool], false, f n, none⟩
def T (n : Nat) : FuncId → Option Sig := fun g => if Nat.beq g 87 = true then some (impl_nameByte.sig n) else none
def TL (n : Nat) : Loops := fun j _ st k => if Nat.beq j 2 = true then (match dec st l2.inS [] with | some x => runL (B2 n) (contsOf k l2.outs) n x | none => none) else none
theorem d2 (n : Nat) : LoopDef Try.prog (T n) (TL n) Try.f82 2 :=
  ⟨l2, fun R => B2 n, n, fun R st k => by kernel_rfl, fun R next cs x => by kernel_rfl⟩
theorem con (n : Nat) : Con Try.prog 82 (sig n) :=
  con_print (hsw := rfl) (T := T n) (TL := TL n) (c := Try.f82.body.getD .skip) (js := [2]) hMixed (conT_cons (impl_nameByte.con n) conT_none) Try.func82 (by decide) (by kernel_rfl) (by kernel_rfl) (by decide) (LoopDef.cons (d2 n) LoopDef.nil) (fun x => by kernel_rfl)
end impl_nameBytes
namespace impl_isName
def f (n : Nat) (x : Tup [.str]) : Option (Tup [.bool]) :=
  (if ((decide ((ByteArray.size x.1 : Int) ≥ (1 : Int))) && (decide ((ByteArray.size x.1 : Int) ≤ (16 : Int)))) = true then (impl_nameBytes.f n (x.1, ())) else some (tzero [.bool])).bind fun y1 =>
  some ((((decide ((ByteArray.size x.1 : Int) ≥ (1 : Int))) && (decide ((ByteArray.size x.1 : Int) ≤ (16 : Int)))) && y1.1), ())
@[reducible] def sig (n : Nat) : Sig := ⟨[.str], [.bool], false, f n, none⟩
def T (n : Nat) : FuncId → Option Sig := fun g => if Nat.beq g 82 = true then some (impl_nameBytes.sig n) else none
def TL (n : Nat) : Loops := fun j _ st k => none
theorem con (n : Nat) : Con Try.prog 79 (sig n) :=
  con_print (hsw := rfl) (T := T n) (TL := TL n) (c := Try.f79.body.getD .skip) (js := []) hMixed (conT_cons (impl_nameBytes.con n) conT_none) Try.func79 (by decide) (by kernel_rfl) (by kernel_rfl) (by decide) LoopDef.nil (fun x => by kernel_rfl)
end impl_isName
namespace impl_ascendingNames
@[reducible] def l2 : LSpec := ⟨[(0, .d (.slice .str)), (5, .d (.slice .str)), (6, .d (.int .i64)), (7, .d (.int .i64))], [(.ret, [(2, .d .bool)]), (.exit 0, [])]⟩
def B2 (n : Nat) {R : Type} (next : Sden l2.inS → Option R) (cs : Conts R l2.outs) (x : Sden l2.inS) : Option R :=
  if (decide (x.2.2.2.1 < x.2.2.1)) = true then
    if (decide (0 ≤ x.2.2.2.1 ∧ x.2.2.2.1 < (List.length x.2.1 : Int))) = true then
      (impl_isName.f n ((List.getD x.2.1 (Int.toNat x.2.2.2.1) (⟨#[]⟩ : ByteArray)), ())).bind fun y1 =>
      if (!((!(!y1.1)) && (decide (x.2.2.2.1 > (0 : Int)))) || (decide (0 ≤ (IntKind.i64.wrap (x.2.2.2.1 - (1 : Int))) ∧ (IntKind.i64.wrap (x.2.2.2.1 - (1 : Int))) < (List.length x.1 : Int)))) = true then
        if ((!y1.1) || ((decide (x.2.2.2.1 > (0 : Int))) && (!slt (List.getD x.1 (Int.toNat (IntKind.i64.wrap (x.2.2.2.1 - (1 : Int)))) (⟨#[]⟩ : ByteArray)) (List.getD x.2.1 (Int.toNat x.2.2.2.1) (⟨#[]⟩ : ByteArray))))) = true then
          cs.1 (false, ())
        else
          next (x.1, x.2.1, x.2.2.1, (IntKind.i64.wrap (x.2.2.2.1 + (1 : Int))), ())
      else
        none
    else
      none
  else
    cs.2.1 ()
def f (n : Nat) (x : Tup [(.slice .str)]) : Option (Tup [.bool]) :=
  runL (B2 n) ((fun z2 =>
      some (z2.1, ())), (fun z3 =>
      some (true, ())), ()) n (x.1, x.1, (List.length x.1 : Int), (0 : Int), ())
@[reducible] def sig (n : Nat) : Sig := ⟨[(.slice .str)], [.bool], false, f n, none⟩
def T (n : Nat) : FuncId → Option Sig := fun g => if Nat.beq g 79 = true then some (impl_isName.sig n) else none
def TL (n : Nat) : Loops := fun j _ st k => if Nat.beq j 2 = true then (match dec st l2.inS [] with | some x => runL (B2 n) (contsOf k l2.outs) n x | none => none) else none
theorem d2 (n : Nat) : LoopDef Try.prog (T n) (TL n) Try.f67 2 :=
  ⟨l2, fun R => B2 n, n, fun R st k => by kernel_rfl, fun R next cs x => by kernel_rfl⟩
theorem con (n : Nat) : Con Try.prog 67 (sig n) :=
  con_print (hsw := rfl) (T := T n) (TL := TL n) (c := Try.f67.body.getD .skip) (js := [2]) hMixed (conT_cons (impl_isName.con n) conT_none) Try.func67 (by decide) (by kernel_rfl) (by kernel_rfl) (by decide) (LoopDef.cons (d2 n) LoopDef.nil) (fun x => by kernel_rfl)
end impl_ascendingNames
namespace impl_sortOf
def f (n : Nat) (x : Ty.den tGateField) (q : Tup []) : Option (Ty.den tGateField × Tup [(.int .i64), .bool]) := some (x, (place4 x.2.1, decide (0 ≤ place4 x.2.1), ()))
@[reducible] def sig (n : Nat) : Sig := ⟨[], [], false, fun _ => none, some ⟨.unit, [], [], fun _ _ => none, some ⟨false, none, some [111, 113, 114, 115], tGateField, [], tGateField, [(.int .i64), .bool], f n⟩, none⟩⟩
theorem mk0 : MakerOk Try.prog 82 111 106 11 83 :=
  maker_of (by kernel_rfl) Try.func83 (by kernel_rfl) (by kernel_rfl) (by kernel_rfl) (by decide)
theorem mk1 : MakerOk Try.prog 82 113 106 11 84 :=
  maker_of (by kernel_rfl) Try.func84 (by kernel_rfl) (by kernel_rfl) (by kernel_rfl) (by decide)
theorem mk2 : MakerOk Try.prog 82 114 106 11 85 :=
  maker_of (by kernel_rfl) Try.func85 (by kernel_rfl) (by kernel_rfl) (by kernel_rfl) (by decide)
theorem mk3 : MakerOk Try.prog 82 115 106 11 86 :=
  maker_of (by kernel_rfl) Try.func86 (by kernel_rfl) (by kernel_rfl) (by kernel_rfl) (by decide)
theorem con (n : Nat) : Con Try.prog 80 (sig n) :=
  con_pick (tF := 82) (tK := 3) (tM := 116) (tR := 117) (tE := 112) (tI := 106) (tB := 4) (fld := 1) (off := 1) (n := 11) (g := fun j => ([83, 84, 85, 86] : List Nat).getD j 0) (tS := fun j => ([111, 113, 114, 115] : List Nat).getD j 0) (L := posOf (Try.f80.body.getD .skip)) (pick_of (by kernel_rfl)) Try.func80 (by decide) (by kernel_rfl) (by kernel_rfl) (by kernel_rfl) (fun j hj => match j, hj with | 0, _ => mk0 | 1, _ => mk1 | 2, _ => mk2 | 3, _ => mk3) (t := tGateField) (by kernel_rfl) (by kernel_rfl) (fun x => x.2.1) (fun x => by kernel_rfl)
end impl_sortOf
namespace impl_numberField_clean
def f (n : Nat) (x : Tup [tnumberField]) : Option (Tup [.bool]) :=
  some (((((List.length x.1.1.2.2.2.2.1 : Int) == (0 : Int)) && (seq x.1.1.2.2.2.2.2.1 (⟨#[]⟩ : ByteArray))) && (x.1.1.2.2.2.2.2.2.1 == (0 : Int))), ())
@[reducible] def sig (n : Nat) : Sig := ⟨[tnumberField], [.bool], false, f n, none⟩
def T (n : Nat) : FuncId → Option Sig := fun g => none
def TL (n : Nat) : Loops := fun j _ st k => none
theorem con (n : Nat) : Con Try.prog 104 (sig n) :=
  con_print (hsw := rfl) (T := T n) (TL := TL n) (c := Try.f104.body.getD .skip) (js := []) hMixed conT_none Try.func104 (by decide) (by kernel_rfl) (by kernel_rfl) (by decide) LoopDef.nil (fun x => by kernel_rfl)
end impl_numberField_clean
namespace impl_wordField_clean
def f (n : Nat) (x : Tup [tnumberField]) : Option (Tup [.bool]) :=
  some ((((((x.1.1.2.2.1 == (0 : Int)) && (x.1.1.2.2.2.1 == (0 : Int))) && (seq x.1.1.2.2.2.2.2.1 (⟨#[]⟩ : ByteArray))) && (x.1.1.2.2.2.2.2.2.1 == (0 : Int))) && (seq x.1.1.2.2.2.2.2.2.2.2.2.2.1 (⟨#[]⟩ : ByteArray))), ())
@[reducible] def sig (n : Nat) : Sig := ⟨[tnumberField], [.bool], false, f n, none⟩
def T (n : Nat) : FuncId → Option Sig := fun g => none
def TL (n : Nat) : Loops := fun j _ st k => none
theorem con (n : Nat) : Con Try.prog 108 (sig n) :=
  con_print (hsw := rfl) (T := T n) (TL := TL n) (c := Try.f108.body.getD .skip) (js := []) hMixed conT_none Try.func108 (by decide) (by kernel_rfl) (by kernel_rfl) (by decide) LoopDef.nil (fun x => by kernel_rfl)
end impl_wordField_clean
namespace impl_textField_clean
def f (n : Nat) (x : Tup [tnumberField]) : Option (Tup [.bool]) :=
  some ((((((List.length x.1.1.2.2.2.2.1 : Int) == (0 : Int)) && (seq x.1.1.2.2.2.2.2.1 (⟨#[]⟩ : ByteArray))) && (x.1.1.2.2.2.2.2.2.1 == (0 : Int))) && (seq x.1.1.2.2.2.2.2.2.2.2.2.2.1 (⟨#[]⟩ : ByteArray))), ())
@[reducible] def sig (n : Nat) : Sig := ⟨[tnumberField], [.bool], false, f n, none⟩
def T (n : Nat) : FuncId → Option Sig := fun g => none
def TL (n : Nat) : Loops := fun j _ st k => none
theorem con (n : Nat) : Con Try.prog 111 (sig n) :=
  con_print (hsw := rfl) (T := T n) (TL := TL n) (c := Try.f111.body.getD .skip) (js := []) hMixed conT_none Try.func111 (by decide) (by kernel_rfl) (by kernel_rfl) (by decide) LoopDef.nil (fun x => by kernel_rfl)
end impl_textField_clean
namespace impl_linkField_clean
def f (n : Nat) (x : Tup [tnumberField]) : Option (Tup [.bool]) :=
  some (((((x.1.1.2.2.1 == (0 : Int)) && (x.1.1.2.2.2.1 == (0 : Int))) && ((List.length x.1.1.2.2.2.2.1 : Int) == (0 : Int))) && (seq x.1.1.2.2.2.2.2.2.2.2.2.2.1 (⟨#[]⟩ : ByteArray))), ())
@[reducible] def sig (n : Nat) : Sig := ⟨[tnumberField], [.bool], false, f n, none⟩
def T (n : Nat) : FuncId → Option Sig := fun g => none
def TL (n : Nat) : Loops := fun j _ st k => none
theorem con (n : Nat) : Con Try.prog 114 (sig n) :=
  con_print (hsw := rfl) (T := T n) (TL := TL n) (c := Try.f114.body.getD .skip) (js := []) hMixed conT_none Try.func114 (by decide) (by kernel_rfl) (by kernel_rfl) (by decide) LoopDef.nil (fun x => by kernel_rfl)
end impl_linkField_clean
namespace impl_numberField_sound
def f (n : Nat) (x : Tup [tnumberField, (.slice .str)]) : Option (Tup [.bool]) :=
  (if ((((decide (x.1.1.2.2.1 ≥ (0 : Int))) && (decide (x.1.1.2.2.1 ≤ x.1.1.2.2.2.1))) && (decide (x.1.1.2.2.2.1 ≤ (1000000 : Int)))) && (!(seq x.1.1.2.2.2.2.2.2.2.2.2.2.1 (⟨#[]⟩ : ByteArray)))) = true then (impl_isName.f n (x.1.1.2.2.2.2.2.2.2.2.2.2.1, ())) else some (tzero [.bool])).bind fun y1 =>
  some (((((decide (x.1.1.2.2.1 ≥ (0 : Int))) && (decide (x.1.1.2.2.1 ≤ x.1.1.2.2.2.1))) && (decide (x.1.1.2.2.2.1 ≤ (1000000 : Int)))) && ((seq x.1.1.2.2.2.2.2.2.2.2.2.2.1 (⟨#[]⟩ : ByteArray)) || y1.1)), ())
@[reducible] def sig (n : Nat) : Sig := ⟨[tnumberField, (.slice .str)], [.bool], false, f n, none⟩
def T (n : Nat) : FuncId → Option Sig := fun g => if Nat.beq g 79 = true then some (impl_isName.sig n) else none
def TL (n : Nat) : Loops := fun j _ st k => none
theorem con (n : Nat) : Con Try.prog 106 (sig n) :=
  con_print (hsw := rfl) (T := T n) (TL := TL n) (c := Try.f106.body.getD .skip) (js := []) hMixed (conT_cons (impl_isName.con n) conT_none) Try.func106 (by decide) (by kernel_rfl) (by kernel_rfl) (by decide) LoopDef.nil (fun x => by kernel_rfl)
end impl_numberField_sound
namespace impl_wordField_sound
def f (n : Nat) (x : Tup [tnumberField, (.slice .str)]) : Option (Tup [.bool]) :=
  (if ((decide ((List.length x.1.1.2.2.2.2.1 : Int) ≥ (1 : Int))) && (decide ((List.length x.1.1.2.2.2.2.1 : Int) ≤ (6 : Int)))) = true then (impl_ascendingNames.f n (x.1.1.2.2.2.2.1, ())) else some (tzero [.bool])).bind fun y1 =>
  some ((((decide ((List.length x.1.1.2.2.2.2.1 : Int) ≥ (1 : Int))) && (decide ((List.length x.1.1.2.2.2.2.1 : Int) ≤ (6 : Int)))) && y1.1), ())
@[reducible] def sig (n : Nat) : Sig := ⟨[tnumberField, (.slice .str)], [.bool], false, f n, none⟩
def T (n : Nat) : FuncId → Option Sig := fun g => if Nat.beq g 67 = true then some (impl_ascendingNames.sig n) else none
def TL (n : Nat) : Loops := fun j _ st k => none
theorem con (n : Nat) : Con Try.prog 110 (sig n) :=
  con_print (hsw := rfl) (T := T n) (TL := TL n) (c := Try.f110.body.getD .skip) (js := []) hMixed (conT_cons (impl_ascendingNames.con n) conT_none) Try.func110 (by decide) (by kernel_rfl) (by kernel_rfl) (by decide) LoopDef.nil (fun x => by kernel_rfl)
end impl_wordField_sound
namespace impl_textField_sound
def f (n : Nat) (x : Tup [tnumberField, (.slice .str)]) : Option (Tup [.bool]) :=
  some ((((decide (x.1.1.2.2.1 ≥ (1 : Int))) && (decide (x.1.1.2.2.1 ≤ x.1.1.2.2.2.1))) && (decide (x.1.1.2.2.2.1 ≤ (40 : Int)))), ())
@[reducible] def sig (n : Nat) : Sig := ⟨[tnumberField, (.slice .str)], [.bool], false, f n, none⟩
def T (n : Nat) : FuncId → Option Sig := fun g => none
def TL (n : Nat) : Loops := fun j _ st k => none
theorem con (n : Nat) : Con Try.prog 113 (sig n) :=
  con_print (hsw := rfl) (T := T n) (TL := TL n) (c := Try.f113.body.getD .skip) (js := []) hMixed conT_none Try.func113 (by decide) (by kernel_rfl) (by kernel_rfl) (by decide) LoopDef.nil (fun x => by kernel_rfl)
end impl_textField_sound
namespace impl_linkField_sound
@[reducible] def l3 : LSpec := ⟨[(2, .rb tnumberField), (5, .d .bool), (8, .d (.slice .str)), (9, .d (.int .i64)), (10, .d (.int .i64))], [(.exit 0, [(2, .rb tnumberField), (5, .d .bool)])]⟩
def B3 (n : Nat) {R : Type} (next : Sden l3.inS → Option R) (cs : Conts R l3.outs) (x : Sden l3.inS) : Option R :=
  if (decide (x.2.2.2.2.1 < x.2.2.2.1)) = true then
    if (decide (0 ≤ x.2.2.2.2.1 ∧ x.2.2.2.2.1 < (List.length x.2.2.1 : Int))) = true then
      next (x.1, (x.2.1 || (seq (List.getD x.2.2.1 (Int.toNat x.2.2.2.2.1) (⟨#[]⟩ : ByteArray)) x.1.1.2.2.2.2.2.1)), x.2.2.1, x.2.2.2.1, (IntKind.i64.wrap (x.2.2.2.2.1 + (1 : Int))), ())
    else
      none
  else
    cs.1 (x.1, x.2.1, ())
def f (n : Nat) (x : Tup [tnumberField, (.slice .str)]) : Option (Tup [.bool]) :=
  runL (B3 n) ((fun z1 =>
      some (((((z1.2.1 && (decide (z1.1.1.2.2.2.2.2.2.1 ≥ (1 : Int)))) && (decide (z1.1.1.2.2.2.2.2.2.1 ≤ (3 : Int)))) && (seq z1.1.1.2.2.2.2.2.2.2.2.2.1 (⟨#[]⟩ : ByteArray))) && (!((z1.1.1.2.2.2.2.2.2.1 == (2 : Int)) && z1.1.1.2.2.2.2.2.2.2.1))), ())), ()) n (x.1, false, x.2.1, (List.length x.2.1 : Int), (0 : Int), ())
@[reducible] def sig (n : Nat) : Sig := ⟨[tnumberField, (.slice .str)], [.bool], false, f n, none⟩
def T (n : Nat) : FuncId → Option Sig := fun g => none
def TL (n : Nat) : Loops := fun j _ st k => if Nat.beq j 3 = true then (match dec st l3.inS [] with | some x => runL (B3 n) (contsOf k l3.outs) n x | none => none) else none
theorem d3 (n : Nat) : LoopDef Try.prog (T n) (TL n) Try.f116 3 :=
  ⟨l3, fun R => B3 n, n, fun R st k => by kernel_rfl, fun R next cs x => by kernel_rfl⟩
theorem con (n : Nat) : Con Try.prog 116 (sig n) :=
  con_print (hsw := rfl) (T := T n) (TL := TL n) (c := Try.f116.body.getD .skip) (js := [3]) hMixed conT_none Try.func116 (by decide) (by kernel_rfl) (by kernel_rfl) (by decide) (LoopDef.cons (d3 n) LoopDef.nil) (fun x => by kernel_rfl)
end impl_linkField_sound
namespace impl_decimal
@[reducible] def l5 : LSpec := ⟨[(0, .d .str), (4, .d (.int .i64)), (25, .d (.int .i64)), (26, .d (.int .i64))], [(.ret, [(2, .d (.int .i64)), (3, .d .bool)]), (.exit 0, [(4, .d (.int .i64))])]⟩
def B5 (n : Nat) {R : Type} (next : Sden l5.inS → Option R) (cs : Conts R l5.outs) (x : Sden l5.inS) : Option R :=
  if (decide (x.2.2.2.1 < x.2.2.1)) = true then
    if (decide (0 ≤ x.2.2.2.1 ∧ x.2.2.2.1 < (ByteArray.size x.1 : Int))) = true then
      if (!(!(decide ((byteAt x.1 x.2.2.2.1) < (48 : Int)))) || (decide (0 ≤ x.2.2.2.1 ∧ x.2.2.2.1 < (ByteArray.size x.1 : Int)))) = true then
        if ((decide ((byteAt x.1 x.2.2.2.1) < (48 : Int))) || (decide ((byteAt x.1 x.2.2.2.1) > (57 : Int)))) = true then
          cs.1 ((0 : Int), false, ())
        else if (decide (0 ≤ x.2.2.2.1 ∧ x.2.2.2.1 < (ByteArray.size x.1 : Int))) = true then
          next (x.1, (IntKind.i64.wrap ((IntKind.i64.wrap (x.2.1 * (10 : Int))) + (IntKind.i64.wrap (IntKind.u8.wrap ((byteAt x.1 x.2.2.2.1) - (48 : Int)))))), x.2.2.1, (IntKind.i64.wrap (x.2.2.2.1 + (1 : Int))), ())
        else
          none
      else
        none
    else
      none
  else
    cs.2.1 (x.2.1, ())
def f (n : Nat) (x : Tup [.str]) : Option (Tup [(.int .i64), .bool]) :=
  if (!(!((decide ((ByteArray.size x.1 : Int) < (1 : Int))) || (decide ((ByteArray.size x.1 : Int) > (7 : Int))))) || (decide (0 ≤ (0 : Int) ∧ (0 : Int) < (ByteArray.size x.1 : Int)))) = true then
    if (((decide ((ByteArray.size x.1 : Int) < (1 : Int))) || (decide ((ByteArray.size x.1 : Int) > (7 : Int)))) || (((byteAt x.1 (0 : Int)) == (48 : Int)) && (decide ((ByteArray.size x.1 : Int) > (1 : Int))))) = true then
      some ((0 : Int), false, ())
    else
      runL (B5 n) ((fun z1 =>
          some (z1.1, z1.2.1, ())), (fun z2 =>
          some (z2.1, true, ())), ()) n (x.1, (0 : Int), (ByteArray.size x.1 : Int), (0 : Int), ())
  else
    none
@[reducible] def sig (n : Nat) : Sig := ⟨[.str], [(.int .i64), .bool], false, f n, none⟩
def T (n : Nat) : FuncId → Option Sig := fun g => none
def TL (n : Nat) : Loops := fun j _ st k => if Nat.beq j 5 = true then (match dec st l5.inS [] with | some x => runL (B5 n) (contsOf k l5.outs) n x | none => none) else none
theorem d5 (n : Nat) : LoopDef Try.prog (T n) (TL n) Try.f107 5 :=
  ⟨l5, fun R => B5 n, n, fun R st k => by kernel_rfl, fun R next cs x => by kernel_rfl⟩
theorem con (n : Nat) : Con Try.prog 107 (sig n) :=
  con_print (hsw := rfl) (T := T n) (TL := TL n) (c := Try.f107.body.getD .skip) (js := [5]) hMixed conT_none Try.func107 (by decide) (by kernel_rfl) (by kernel_rfl) (by decide) (LoopDef.cons (d5 n) LoopDef.nil) (fun x => by kernel_rfl)
end impl_decimal
namespace impl_numberField_fits
def f (n : Nat) (x : Tup [tnumberField, .str]) : Option (Tup [.bool]) :=
  (impl_decimal.f n (x.2.1, ())).bind fun y1 =>
  some (((y1.2.1 && (decide (y1.1 ≥ x.1.1.2.2.1))) && (decide (y1.1 ≤ x.1.1.2.2.2.1))), ())
@[reducible] def sig (n : Nat) : Sig := ⟨[tnumberField, .str], [.bool], false, f n, none⟩
def T (n : Nat) : FuncId → Option Sig := fun g => if Nat.beq g 107 = true then some (impl_decimal.sig n) else none
def TL (n : Nat) : Loops := fun j _ st k => none
theorem con (n : Nat) : Con Try.prog 105 (sig n) :=
  con_print (hsw := rfl) (T := T n) (TL := TL n) (c := Try.f105.body.getD .skip) (js := []) hMixed (conT_cons (impl_decimal.con n) conT_none) Try.func105 (by decide) (by kernel_rfl) (by kernel_rfl) (by decide) LoopDef.nil (fun x => by kernel_rfl)
end impl_numberField_fits
namespace impl_wordField_fits
@[reducible] def l2 : LSpec := ⟨[(1, .d .str), (9, .d (.slice .str)), (10, .d (.int .i64)), (11, .d (.int .i64))], [(.ret, [(4, .d .bool)]), (.exit 0, [])]⟩
def B2 (n : Nat) {R : Type} (next : Sden l2.inS → Option R) (cs : Conts R l2.outs) (x : Sden l2.inS) : Option R :=
  if (decide (x.2.2.2.1 < x.2.2.1)) = true then
    if (decide (0 ≤ x.2.2.2.1 ∧ x.2.2.2.1 < (List.length x.2.1 : Int))) = true then
      if (seq (List.getD x.2.1 (Int.toNat x.2.2.2.1) (⟨#[]⟩ : ByteArray)) x.1) = true then
        cs.1 (true, ())
      else
        next (x.1, x.2.1, x.2.2.1, (IntKind.i64.wrap (x.2.2.2.1 + (1 : Int))), ())
    else
      none
  else
    cs.2.1 ()
def f (n : Nat) (x : Tup [tnumberField, .str]) : Option (Tup [.bool]) :=
  runL (B2 n) ((fun z1 =>
      some (z1.1, ())), (fun z2 =>
      some (false, ())), ()) n (x.2.1, x.1.1.2.2.2.2.1, (List.length x.1.1.2.2.2.2.1 : Int), (0 : Int), ())
@[reducible] def sig (n : Nat) : Sig := ⟨[tnumberField, .str], [.bool], false, f n, none⟩
def T (n : Nat) : FuncId → Option Sig := fun g => none
def TL (n : Nat) : Loops := fun j _ st k => if Nat.beq j 2 = true then (match dec st l2.inS [] with | some x => runL (B2 n) (contsOf k l2.outs) n x | none => none) else none
theorem d2 (n : Nat) : LoopDef Try.prog (T n) (TL n) Try.f109 2 :=
  ⟨l2, fun R => B2 n, n, fun R st k => by kernel_rfl, fun R next cs x => by kernel_rfl⟩
theorem con (n : Nat) : Con Try.prog 109 (sig n) :=
  con_print (hsw := rfl) (T := T n) (TL := TL n) (c := Try.f109.body.getD .skip) (js := [2]) hMixed conT_none Try.func109 (by decide) (by kernel_rfl) (by kernel_rfl) (by decide) (LoopDef.cons (d2 n) LoopDef.nil) (fun x => by kernel_rfl)
end impl_wordField_fits
namespace impl_textField_fits
@[reducible] def l4 : LSpec := ⟨[(1, .d .str), (21, .d (.int .i64)), (22, .d (.int .i64))], [(.ret, [(4, .d .bool)]), (.exit 0, [])]⟩
def B4 (n : Nat) {R : Type} (next : Sden l4.inS → Option R) (cs : Conts R l4.outs) (x : Sden l4.inS) : Option R :=
  if (decide (x.2.2.1 < x.2.1)) = true then
    if (decide (0 ≤ x.2.2.1 ∧ x.2.2.1 < (ByteArray.size x.1 : Int))) = true then
      if (!(!(decide ((byteAt x.1 x.2.2.1) < (33 : Int)))) || (decide (0 ≤ x.2.2.1 ∧ x.2.2.1 < (ByteArray.size x.1 : Int)))) = true then
        if ((decide ((byteAt x.1 x.2.2.1) < (33 : Int))) || (decide ((byteAt x.1 x.2.2.1) > (126 : Int)))) = true then
          cs.1 (false, ())
        else
          next (x.1, x.2.1, (IntKind.i64.wrap (x.2.2.1 + (1 : Int))), ())
      else
        none
    else
      none
  else
    cs.2.1 ()
def f (n : Nat) (x : Tup [tnumberField, .str]) : Option (Tup [.bool]) :=
  if ((decide ((ByteArray.size x.2.1 : Int) < x.1.1.2.2.1)) || (decide ((ByteArray.size x.2.1 : Int) > x.1.1.2.2.2.1))) = true then
    some (false, ())
  else
    runL (B4 n) ((fun z1 =>
        some (z1.1, ())), (fun z2 =>
        some (true, ())), ()) n (x.2.1, (ByteArray.size x.2.1 : Int), (0 : Int), ())
@[reducible] def sig (n : Nat) : Sig := ⟨[tnumberField, .str], [.bool], false, f n, none⟩
def T (n : Nat) : FuncId → Option Sig := fun g => none
def TL (n : Nat) : Loops := fun j _ st k => if Nat.beq j 4 = true then (match dec st l4.inS [] with | some x => runL (B4 n) (contsOf k l4.outs) n x | none => none) else none
theorem d4 (n : Nat) : LoopDef Try.prog (T n) (TL n) Try.f112 4 :=
  ⟨l4, fun R => B4 n, n, fun R st k => by kernel_rfl, fun R next cs x => by kernel_rfl⟩
theorem con (n : Nat) : Con Try.prog 112 (sig n) :=
  con_print (hsw := rfl) (T := T n) (TL := TL n) (c := Try.f112.body.getD .skip) (js := [4]) hMixed conT_none Try.func112 (by decide) (by kernel_rfl) (by kernel_rfl) (by decide) (LoopDef.cons (d4 n) LoopDef.nil) (fun x => by kernel_rfl)
end impl_textField_fits
namespace impl_linkField_fits
def f (n : Nat) (x : Tup [tnumberField, .str]) : Option (Tup [.bool]) :=
  (impl_isName.f n (x.2.1, ())).bind fun y1 =>
  some (y1.1, ())
@[reducible] def sig (n : Nat) : Sig := ⟨[tnumberField, .str], [.bool], false, f n, none⟩
def T (n : Nat) : FuncId → Option Sig := fun g => if Nat.beq g 79 = true then some (impl_isName.sig n) else none
def TL (n : Nat) : Loops := fun j _ st k => none
theorem con (n : Nat) : Con Try.prog 115 (sig n) :=
  con_print (hsw := rfl) (T := T n) (TL := TL n) (c := Try.f115.body.getD .skip) (js := []) hMixed (conT_cons (impl_isName.con n) conT_none) Try.func115 (by decide) (by kernel_rfl) (by kernel_rfl) (by decide) LoopDef.nil (fun x => by kernel_rfl)
end impl_linkField_fits
namespace impl_GateFits
def f (n : Nat) (x : Tup [tGateField, .str]) : Option (Tup [.bool]) :=
  (impl_sortOf.f n x.1 ()).bind fun y1 =>
  (if (y1.2.2.1 && (!seq x.2.1 (⟨#[]⟩ : ByteArray))) = true then (if (decide (y1.2.1 = 0)) = true then ((impl_numberField_fits.f n ((y1.1, ()), x.2.1, ())).bind fun r => some r.1) else (if (decide ((y1.2.1 - 1) = 0)) = true then ((impl_wordField_fits.f n ((y1.1, ()), x.2.1, ())).bind fun r => some r.1) else (if (decide (((y1.2.1 - 1) - 1) = 0)) = true then ((impl_textField_fits.f n ((y1.1, ()), x.2.1, ())).bind fun r => some r.1) else (if (decide ((((y1.2.1 - 1) - 1) - 1) = 0)) = true then ((impl_linkField_fits.f n ((y1.1, ()), x.2.1, ())).bind fun r => some r.1) else none)))) else some false).bind fun y2 =>
  some (((y1.2.2.1 && (!seq x.2.1 (⟨#[]⟩ : ByteArray))) && y2), ())
@[reducible] def sig (n : Nat) : Sig := ⟨[tGateField, .str], [.bool], false, f n, none⟩
def T (n : Nat) : FuncId → Option Sig := fun g => if Nat.beq g 80 = true then some (impl_sortOf.sig n) else if Nat.beq g 105 = true then some (impl_numberField_fits.sig n) else if Nat.beq g 109 = true then some (impl_wordField_fits.sig n) else if Nat.beq g 112 = true then some (impl_textField_fits.sig n) else if Nat.beq g 115 = true then some (impl_linkField_fits.sig n) else none
def TL (n : Nat) : Loops := fun j _ st k => none
theorem con (n : Nat) : Con Try.prog 70 (sig n) :=
  con_print (hsw := rfl) (T := T n) (TL := TL n) (c := Try.f70.body.getD .skip) (js := []) hMixed (conT_cons (impl_sortOf.con n) (conT_cons (impl_numberField_fits.con n) (conT_cons (impl_wordField_fits.con n) (conT_cons (impl_textField_fits.con n) (conT_cons (impl_linkField_fits.con n) conT_none))))) Try.func70 (by decide) (by kernel_rfl) (by kernel_rfl) (by decide) LoopDef.nil (fun x => by kernel_rfl)
end impl_GateFits
namespace impl_shapeOk
@[reducible] def l5 : LSpec := ⟨[(1, .d (.slice .str)), (5, .mp .str), (16, .d (.slice tGateField)), (17, .d (.int .i64)), (18, .d (.int .i64))], [(.ret, [(4, .d .bool)]), (.exit 0, [])]⟩
def B5 (n : Nat) {R : Type} (next : Sden l5.inS → Option R) (cs : Conts R l5.outs) (x : Sden l5.inS) : Option R :=
  if (decide (x.2.2.2.2.1 < x.2.2.2.1)) = true then
    if (decide (0 ≤ x.2.2.2.2.1 ∧ x.2.2.2.2.1 < (List.length x.2.2.1 : Int))) = true then
      (impl_isName.f n ((List.getD x.2.2.1 (Int.toNat x.2.2.2.2.1) (Ty.zero tGateField)).1, ())).bind fun y1 =>
      if ((!y1.1) || (decide ((mget .str (mput .str x.2.1 (List.getD x.2.2.1 (Int.toNat x.2.2.2.2.1) (Ty.zero tGateField)).1 (IntKind.i64.wrap ((mget .str x.2.1 (List.getD x.2.2.1 (Int.toNat x.2.2.2.2.1) (Ty.zero tGateField)).1) + (1 : Int)))) (List.getD x.2.2.1 (Int.toNat x.2.2.2.2.1) (Ty.zero tGateField)).1) > (1 : Int)))) = true then
        cs.1 (false, ())
      else
        (impl_sortOf.f n (List.getD x.2.2.1 (Int.toNat x.2.2.2.2.1) (Ty.zero tGateField)) ()).bind fun y2 =>
        (if (!(!y2.2.2.1)) = true then (if (decide (y2.2.1 = 0)) = true then ((impl_numberField_clean.f n ((y2.1, ()), ())).bind fun r => some r.1) else (if (decide ((y2.2.1 - 1) = 0)) = true then ((impl_wordField_clean.f n ((y2.1, ()), ())).bind fun r => some r.1) else (if (decide (((y2.2.1 - 1) - 1) = 0)) = true then ((impl_textField_clean.f n ((y2.1, ()), ())).bind fun r => some r.1) else (if (decide ((((y2.2.1 - 1) - 1) - 1) = 0)) = true then ((impl_linkField_clean.f n ((y2.1, ()), ())).bind fun r => some r.1) else none)))) else some false).bind fun y3 =>
        (if (!((!y2.2.2.1) || (!y3))) = true then (if (decide (y2.2.1 = 0)) = true then ((impl_numberField_sound.f n ((y2.1, ()), x.1, ())).bind fun r => some r.1) else (if (decide ((y2.2.1 - 1) = 0)) = true then ((impl_wordField_sound.f n ((y2.1, ()), x.1, ())).bind fun r => some r.1) else (if (decide (((y2.2.1 - 1) - 1) = 0)) = true then ((impl_textField_sound.f n ((y2.1, ()), x.1, ())).bind fun r => some r.1) else (if (decide ((((y2.2.1 - 1) - 1) - 1) = 0)) = true then ((impl_linkField_sound.f n ((y2.1, ()), x.1, ())).bind fun r => some r.1) else none)))) else some false).bind fun y4 =>
        if (((!y2.2.2.1) || (!y3)) || (!y4)) = true then
          cs.1 (false, ())
        else
          (if (!seq (List.getD x.2.2.1 (Int.toNat x.2.2.2.2.1) (Ty.zero tGateField)).2.2.2.2.2.2.2.2.2.1 (⟨#[]⟩ : ByteArray)) = true then (impl_GateFits.f n ((List.getD x.2.2.1 (Int.toNat x.2.2.2.2.1) (Ty.zero tGateField)), (List.getD x.2.2.1 (Int.toNat x.2.2.2.2.1) (Ty.zero tGateField)).2.2.2.2.2.2.2.2.2.1, ())) else some (tzero [.bool])).bind fun y5 =>
          if ((!seq (List.getD x.2.2.1 (Int.toNat x.2.2.2.2.1) (Ty.zero tGateField)).2.2.2.2.2.2.2.2.2.1 (⟨#[]⟩ : ByteArray)) && (!y5.1)) = true then
            cs.1 (false, ())
          else
            next (x.1, (mput .str x.2.1 (List.getD x.2.2.1 (Int.toNat x.2.2.2.2.1) (Ty.zero tGateField)).1 (IntKind.i64.wrap ((mget .str x.2.1 (List.getD x.2.2.1 (Int.toNat x.2.2.2.2.1) (Ty.zero tGateField)).1) + (1 : Int)))), x.2.2.1, x.2.2.2.1, (IntKind.i64.wrap (x.2.2.2.2.1 + (1 : Int))), ())
    else
      none
  else
    cs.2.1 ()
def f (n : Nat) (x : Tup [tGateShape, (.slice .str)]) : Option (Tup [.bool]) :=
  if (decide ((List.length x.1.2.1 : Int) > (6 : Int))) = true then
    some (false, ())
  else
    runL (B5 n) ((fun z6 =>
        some (z6.1, ())), (fun z7 =>
        some (true, ())), ()) n (x.2.1, [], x.1.2.1, (List.length x.1.2.1 : Int), (0 : Int), ())
@[reducible] def sig (n : Nat) : Sig := ⟨[tGateShape, (.slice .str)], [.bool], false, f n, none⟩
def T (n : Nat) : FuncId → Option Sig := fun g => if Nat.beq g 70 = true then some (impl_GateFits.sig n) else if Nat.beq g 79 = true then some (impl_isName.sig n) else if Nat.beq g 80 = true then some (impl_sortOf.sig n) else if Nat.beq g 104 = true then some (impl_numberField_clean.sig n) else if Nat.beq g 106 = true then some (impl_numberField_sound.sig n) else if Nat.beq g 108 = true then some (impl_wordField_clean.sig n) else if Nat.beq g 110 = true then some (impl_wordField_sound.sig n) else if Nat.beq g 111 = true then some (impl_textField_clean.sig n) else if Nat.beq g 113 = true then some (impl_textField_sound.sig n) else if Nat.beq g 114 = true then some (impl_linkField_clean.sig n) else if Nat.beq g 116 = true then some (impl_linkField_sound.sig n) else none
def TL (n : Nat) : Loops := fun j _ st k => if Nat.beq j 5 = true then (match dec st l5.inS [] with | some x => runL (B5 n) (contsOf k l5.outs) n x | none => none) else none
theorem d5 (n : Nat) : LoopDef Try.prog (T n) (TL n) Try.f68 5 :=
  ⟨l5, fun R => B5 n, n, fun R st k => by kernel_rfl, fun R next cs x => by kernel_rfl⟩
theorem con (n : Nat) : Con Try.prog 68 (sig n) :=
  con_print (hsw := rfl) (T := T n) (TL := TL n) (c := Try.f68.body.getD .skip) (js := [5]) hMixed (conT_cons (impl_GateFits.con n) (conT_cons (impl_isName.con n) (conT_cons (impl_sortOf.con n) (conT_cons (impl_numberField_clean.con n) (conT_cons (impl_numberField_sound.con n) (conT_cons (impl_wordField_clean.con n) (conT_cons (impl_wordField_sound.con n) (conT_cons (impl_textField_clean.con n) (conT_cons (impl_textField_sound.con n) (conT_cons (impl_linkField_clean.con n) (conT_cons (impl_linkField_sound.con n) conT_none))))))))))) Try.func68 (by decide) (by kernel_rfl) (by kernel_rfl) (by decide) (LoopDef.cons (d5 n) LoopDef.nil) (fun x => by kernel_rfl)
end impl_shapeOk
namespace impl_GateShapesOk
@[reducible] def l5 : LSpec := ⟨[(0, .d (.slice tGateShape)), (3, .row true .str), (14, .d (.slice tGateShape)), (15, .d (.int .i64)), (16, .d (.int .i64))], [(.exit 0, [(0, .d (.slice tGateShape)), (3, .row true .str)])]⟩
def B5 (n : Nat) {R : Type} (next : Sden l5.inS → Option R) (cs : Conts R l5.outs) (x : Sden l5.inS) : Option R :=
  if (decide (x.2.2.2.2.1 < x.2.2.2.1)) = true then
    if (decide (0 ≤ x.2.2.2.2.1 ∧ x.2.2.2.2.1 < (List.length x.2.2.1 : Int))) = true then
      if (appBound (List.length x.2.1) (List.length [(List.getD x.2.2.1 (Int.toNat x.2.2.2.2.1) (Ty.zero tGateShape)).1]) 16) = true then
        next (x.1, (x.2.1 ++ [(List.getD x.2.2.1 (Int.toNat x.2.2.2.2.1) (Ty.zero tGateShape)).1]), x.2.2.1, x.2.2.2.1, (IntKind.i64.wrap (x.2.2.2.2.1 + (1 : Int))), ())
      else
        none
    else
      none
  else
    cs.1 (x.1, x.2.1, ())
@[reducible] def l12 : LSpec := ⟨[(3, .row true .str), (29, .d (.slice tGateShape)), (30, .d (.int .i64)), (31, .d (.int .i64))], [(.ret, [(2, .d .bool)]), (.exit 2, [])]⟩
def B12 (n : Nat) {R : Type} (next : Sden l12.inS → Option R) (cs : Conts R l12.outs) (x : Sden l12.inS) : Option R :=
  if (decide (x.2.2.2.1 < x.2.2.1)) = true then
    if (decide (0 ≤ x.2.2.2.1 ∧ x.2.2.2.1 < (List.length x.2.1 : Int))) = true then
      (impl_shapeOk.f n ((List.getD x.2.1 (Int.toNat x.2.2.2.1) (Ty.zero tGateShape)), x.1, ())).bind fun y3 =>
      if (!y3.1) = true then
        cs.1 (false, ())
      else
        next (x.1, x.2.1, x.2.2.1, (IntKind.i64.wrap (x.2.2.2.1 + (1 : Int))), ())
    else
      none
  else
    cs.2.1 ()
def f (n : Nat) (x : Tup [(.slice tGateShape)]) : Option (Tup [.bool]) :=
  if (decide ((List.length x.1 : Int) > (6 : Int))) = true then
    some (false, ())
  else if (decide (0 ≤ (0 : Int) ∧ (0 : Int) ≤ (List.length x.1 : Int) ∧ (List.length x.1 : Int) * (16 : Int) ≤ 140737488355328)) = true then
    runL (B5 n) ((fun z1 =>
        (impl_ascendingNames.f n (z1.2.1, ())).bind fun y2 =>
        if (!y2.1) = true then
          some (false, ())
        else
          runL (B12 n) ((fun z4 =>
              some (z4.1, ())), (fun z5 =>
              some (true, ())), ()) n (z1.2.1, z1.1, (List.length z1.1 : Int), (0 : Int), ())), ()) n (x.1, (List.replicate (Int.toNat (0 : Int)) (⟨#[]⟩ : ByteArray)), x.1, (List.length x.1 : Int), (0 : Int), ())
  else
    none
@[reducible] def sig (n : Nat) : Sig := ⟨[(.slice tGateShape)], [.bool], false, f n, none⟩
def T (n : Nat) : FuncId → Option Sig := fun g => if Nat.beq g 67 = true then some (impl_ascendingNames.sig n) else if Nat.beq g 68 = true then some (impl_shapeOk.sig n) else none
def TL (n : Nat) : Loops := fun j _ st k => if Nat.beq j 5 = true then (match dec st l5.inS [] with | some x => runL (B5 n) (contsOf k l5.outs) n x | none => none) else if Nat.beq j 12 = true then (match dec st l12.inS [] with | some x => runL (B12 n) (contsOf k l12.outs) n x | none => none) else none
theorem d5 (n : Nat) : LoopDef Try.prog (T n) (TL n) Try.f46 5 :=
  ⟨l5, fun R => B5 n, n, fun R st k => by kernel_rfl, fun R next cs x => by kernel_rfl⟩
theorem d12 (n : Nat) : LoopDef Try.prog (T n) (TL n) Try.f46 12 :=
  ⟨l12, fun R => B12 n, n, fun R st k => by kernel_rfl, fun R next cs x => by kernel_rfl⟩
theorem con (n : Nat) : Con Try.prog 46 (sig n) :=
  con_print (hsw := rfl) (T := T n) (TL := TL n) (c := Try.f46.body.getD .skip) (js := [5, 12]) hMixed (conT_cons (impl_ascendingNames.con n) (conT_cons (impl_shapeOk.con n) conT_none)) Try.func46 (by decide) (by kernel_rfl) (by kernel_rfl) (by decide) (LoopDef.cons (d5 n) (LoopDef.cons (d12 n) LoopDef.nil)) (fun x => by kernel_rfl)
end impl_GateShapesOk
namespace impl_shapeOf
@[reducible] def l2 : LSpec := ⟨[(1, .d .str), (7, .d (.slice tGateShape)), (8, .d (.int .i64)), (9, .d (.int .i64))], [(.ret, [(4, .d (.int .i64))]), (.exit 0, [])]⟩
def B2 (n : Nat) {R : Type} (next : Sden l2.inS → Option R) (cs : Conts R l2.outs) (x : Sden l2.inS) : Option R :=
  if (decide (x.2.2.2.1 < x.2.2.1)) = true then
    if (decide (0 ≤ x.2.2.2.1 ∧ x.2.2.2.1 < (List.length x.2.1 : Int))) = true then
      if (seq (List.getD x.2.1 (Int.toNat x.2.2.2.1) (Ty.zero tGateShape)).1 x.1) = true then
        cs.1 (x.2.2.2.1, ())
      else
        next (x.1, x.2.1, x.2.2.1, (IntKind.i64.wrap (x.2.2.2.1 + (1 : Int))), ())
    else
      none
  else
    cs.2.1 ()
def f (n : Nat) (x : Tup [(.slice tGateShape), .str]) : Option (Tup [(.int .i64)]) :=
  runL (B2 n) ((fun z1 =>
      some (z1.1, ())), (fun z2 =>
      some ((-1 : Int), ())), ()) n (x.2.1, x.1, (List.length x.1 : Int), (0 : Int), ())
@[reducible] def sig (n : Nat) : Sig := ⟨[(.slice tGateShape), .str], [(.int .i64)], false, f n, none⟩
def T (n : Nat) : FuncId → Option Sig := fun g => none
def TL (n : Nat) : Loops := fun j _ st k => if Nat.beq j 2 = true then (match dec st l2.inS [] with | some x => runL (B2 n) (contsOf k l2.outs) n x | none => none) else none
theorem d2 (n : Nat) : LoopDef Try.prog (T n) (TL n) Try.f47 2 :=
  ⟨l2, fun R => B2 n, n, fun R st k => by kernel_rfl, fun R next cs x => by kernel_rfl⟩
theorem con (n : Nat) : Con Try.prog 47 (sig n) :=
  con_print (hsw := rfl) (T := T n) (TL := TL n) (c := Try.f47.body.getD .skip) (js := [2]) hMixed conT_none Try.func47 (by decide) (by kernel_rfl) (by kernel_rfl) (by decide) (LoopDef.cons (d2 n) LoopDef.nil) (fun x => by kernel_rfl)
end impl_shapeOf
namespace impl_placeOf
@[reducible] def l2 : LSpec := ⟨[(1, .d .str), (7, .d (.slice tGateField)), (8, .d (.int .i64)), (9, .d (.int .i64))], [(.ret, [(4, .d (.int .i64))]), (.exit 0, [])]⟩
def B2 (n : Nat) {R : Type} (next : Sden l2.inS → Option R) (cs : Conts R l2.outs) (x : Sden l2.inS) : Option R :=
  if (decide (x.2.2.2.1 < x.2.2.1)) = true then
    if (decide (0 ≤ x.2.2.2.1 ∧ x.2.2.2.1 < (List.length x.2.1 : Int))) = true then
      if (seq (List.getD x.2.1 (Int.toNat x.2.2.2.1) (Ty.zero tGateField)).1 x.1) = true then
        cs.1 (x.2.2.2.1, ())
      else
        next (x.1, x.2.1, x.2.2.1, (IntKind.i64.wrap (x.2.2.2.1 + (1 : Int))), ())
    else
      none
  else
    cs.2.1 ()
def f (n : Nat) (x : Tup [(.slice tGateField), .str]) : Option (Tup [(.int .i64)]) :=
  runL (B2 n) ((fun z1 =>
      some (z1.1, ())), (fun z2 =>
      some ((-1 : Int), ())), ()) n (x.2.1, x.1, (List.length x.1 : Int), (0 : Int), ())
@[reducible] def sig (n : Nat) : Sig := ⟨[(.slice tGateField), .str], [(.int .i64)], false, f n, none⟩
def T (n : Nat) : FuncId → Option Sig := fun g => none
def TL (n : Nat) : Loops := fun j _ st k => if Nat.beq j 2 = true then (match dec st l2.inS [] with | some x => runL (B2 n) (contsOf k l2.outs) n x | none => none) else none
theorem d2 (n : Nat) : LoopDef Try.prog (T n) (TL n) Try.f53 2 :=
  ⟨l2, fun R => B2 n, n, fun R st k => by kernel_rfl, fun R next cs x => by kernel_rfl⟩
theorem con (n : Nat) : Con Try.prog 53 (sig n) :=
  con_print (hsw := rfl) (T := T n) (TL := TL n) (c := Try.f53.body.getD .skip) (js := [2]) hMixed conT_none Try.func53 (by decide) (by kernel_rfl) (by kernel_rfl) (by decide) (LoopDef.cons (d2 n) LoopDef.nil) (fun x => by kernel_rfl)
end impl_placeOf
namespace impl_mendOk_1
def f (n : Nat) (x : Tup [.str, (.ptr (.slice tGateField))]) : Option (Tup [.bool]) :=
  if (Option.isSome x.2.1) = true then
    (impl_placeOf.f n ((Option.getD x.2.1 (Ty.zero (.slice tGateField))), x.1, ())).bind fun y1 =>
    if (!(decide (y1.1 ≥ (0 : Int))) || (Option.isSome x.2.1)) = true then
      if (!(decide (y1.1 ≥ (0 : Int))) || (decide (0 ≤ y1.1 ∧ y1.1 < (List.length (Option.getD x.2.1 (Ty.zero (.slice tGateField))) : Int)))) = true then
        some (((decide (y1.1 ≥ (0 : Int))) && ((List.getD (Option.getD x.2.1 (Ty.zero (.slice tGateField))) (Int.toNat y1.1) (Ty.zero tGateField)).2.1 != (4 : Int))), ())
      else
        none
    else
      none
  else
    none
@[reducible] def sig (n : Nat) : Sig := ⟨[.str, (.ptr (.slice tGateField))], [.bool], false, f n, none⟩
def T (n : Nat) : FuncId → Option Sig := fun g => if Nat.beq g 53 = true then some (impl_placeOf.sig n) else none
def TL (n : Nat) : Loops := fun j _ st k => none
theorem con (n : Nat) : Con Try.prog 69 (sig n) :=
  con_print (hsw := rfl) (T := T n) (TL := TL n) (c := Try.f69.body.getD .skip) (js := []) hMixed (conT_cons (impl_placeOf.con n) conT_none) Try.func69 (by decide) (by kernel_rfl) (by kernel_rfl) (by decide) LoopDef.nil (fun x => by kernel_rfl)
end impl_mendOk_1
namespace impl_mendOk
def f (n : Nat) (x : Tup [(.slice tGateField), tGateMend]) : Option (Tup [.bool]) :=
  (impl_mendOk_1.f n (x.2.1.2.1, (some x.1), ())).bind fun y1 =>
  (if ((!(!y1.1)) && (!seq x.2.1.2.2.1 (⟨#[]⟩ : ByteArray))) = true then (impl_mendOk_1.f n (x.2.1.2.2.1, (some x.1), ())) else some (tzero [.bool])).bind fun y2 =>
  (if ((!((!y1.1) || ((!seq x.2.1.2.2.1 (⟨#[]⟩ : ByteArray)) && (!y2.1)))) && (!seq x.2.1.2.2.2.2.2.1 (⟨#[]⟩ : ByteArray))) = true then (impl_mendOk_1.f n (x.2.1.2.2.2.2.2.1, (some x.1), ())) else some (tzero [.bool])).bind fun y3 =>
  if (((!y1.1) || ((!seq x.2.1.2.2.1 (⟨#[]⟩ : ByteArray)) && (!y2.1))) || ((!seq x.2.1.2.2.2.2.2.1 (⟨#[]⟩ : ByteArray)) && (!y3.1))) = true then
    some (false, ())
  else if ((((seq x.2.1.2.2.1 x.2.1.2.1) || (seq x.2.1.2.2.2.2.2.1 x.2.1.2.1)) || ((seq x.2.1.2.2.1 (⟨#[]⟩ : ByteArray)) && (!seq x.2.1.2.2.2.1 (⟨#[]⟩ : ByteArray)))) || ((seq x.2.1.2.2.2.2.1 (⟨#[]⟩ : ByteArray)) == (seq x.2.1.2.2.2.2.2.1 (⟨#[]⟩ : ByteArray)))) = true then
    some (false, ())
  else
    (if (!(seq x.2.1.2.2.2.2.1 (⟨#[]⟩ : ByteArray))) = true then (impl_placeOf.f n (x.1, x.2.1.2.1, ())) else some (tzero [(.int .i64)])).bind fun y4 =>
    if (!(!(seq x.2.1.2.2.2.2.1 (⟨#[]⟩ : ByteArray))) || (decide (0 ≤ y4.1 ∧ y4.1 < (List.length x.1 : Int)))) = true then
      (if (!(seq x.2.1.2.2.2.2.1 (⟨#[]⟩ : ByteArray))) = true then (impl_GateFits.f n ((List.getD x.1 (Int.toNat y4.1) (Ty.zero tGateField)), x.2.1.2.2.2.2.1, ())) else some (tzero [.bool])).bind fun y5 =>
      some (((seq x.2.1.2.2.2.2.1 (⟨#[]⟩ : ByteArray)) || y5.1), ())
    else
      none
@[reducible] def sig (n : Nat) : Sig := ⟨[(.slice tGateField), tGateMend], [.bool], false, f n, none⟩
def T (n : Nat) : FuncId → Option Sig := fun g => if Nat.beq g 53 = true then some (impl_placeOf.sig n) else if Nat.beq g 69 = true then some (impl_mendOk_1.sig n) else if Nat.beq g 70 = true then some (impl_GateFits.sig n) else none
def TL (n : Nat) : Loops := fun j _ st k => none
theorem con (n : Nat) : Con Try.prog 48 (sig n) :=
  con_print (hsw := rfl) (T := T n) (TL := TL n) (c := Try.f48.body.getD .skip) (js := []) hMixed (conT_cons (impl_placeOf.con n) (conT_cons (impl_mendOk_1.con n) (conT_cons (impl_GateFits.con n) conT_none))) Try.func48 (by decide) (by kernel_rfl) (by kernel_rfl) (by decide) LoopDef.nil (fun x => by kernel_rfl)
end impl_mendOk
namespace impl_rowOf_1
@[reducible] def l3 : LSpec := ⟨[(0, .d .str), (2, .d (.ptr tGateShape)), (5, .row true .str), (8, .d (.slice tGateMend)), (9, .d (.int .i64)), (10, .d (.int .i64))], [(.exit 0, [(5, .row true .str)])]⟩
def B3 (n : Nat) {R : Type} (next : Sden l3.inS → Option R) (cs : Conts R l3.outs) (x : Sden l3.inS) : Option R :=
  if (decide (x.2.2.2.2.2.1 < x.2.2.2.2.1)) = true then
    if (decide (0 ≤ x.2.2.2.2.2.1 ∧ x.2.2.2.2.2.1 < (List.length x.2.2.2.1 : Int))) = true then
      if (Option.isSome x.2.1) = true then
        if ((!seq (List.getD x.2.2.2.1 (Int.toNat x.2.2.2.2.2.1) (Ty.zero tGateMend)).1 (Option.getD x.2.1 (Ty.zero tGateShape)).1) || (!seq (List.getD x.2.2.2.1 (Int.toNat x.2.2.2.2.2.1) (Ty.zero tGateMend)).2.1 x.1)) = true then
          next (x.1, x.2.1, x.2.2.1, x.2.2.2.1, x.2.2.2.2.1, (IntKind.i64.wrap (x.2.2.2.2.2.1 + (1 : Int))), ())
        else if (!seq (List.getD x.2.2.2.1 (Int.toNat x.2.2.2.2.2.1) (Ty.zero tGateMend)).2.2.1 (⟨#[]⟩ : ByteArray)) = true then
          if (appBound (List.length x.2.2.1) (List.length [(List.getD x.2.2.2.1 (Int.toNat x.2.2.2.2.2.1) (Ty.zero tGateMend)).2.2.1]) 16) = true then
            if (!seq (List.getD x.2.2.2.1 (Int.toNat x.2.2.2.2.2.1) (Ty.zero tGateMend)).2.2.2.2.2.1 (⟨#[]⟩ : ByteArray)) = true then
              if (appBound (List.length (x.2.2.1 ++ [(List.getD x.2.2.2.1 (Int.toNat x.2.2.2.2.2.1) (Ty.zero tGateMend)).2.2.1])) (List.length [(List.getD x.2.2.2.1 (Int.toNat x.2.2.2.2.2.1) (Ty.zero tGateMend)).2.2.2.2.2.1]) 16) = true then
                next (x.1, x.2.1, ((x.2.2.1 ++ [(List.getD x.2.2.2.1 (Int.toNat x.2.2.2.2.2.1) (Ty.zero tGateMend)).2.2.1]) ++ [(List.getD x.2.2.2.1 (Int.toNat x.2.2.2.2.2.1) (Ty.zero tGateMend)).2.2.2.2.2.1]), x.2.2.2.1, x.2.2.2.2.1, (IntKind.i64.wrap (x.2.2.2.2.2.1 + (1 : Int))), ())
              else
                none
            else
              next (x.1, x.2.1, (x.2.2.1 ++ [(List.getD x.2.2.2.1 (Int.toNat x.2.2.2.2.2.1) (Ty.zero tGateMend)).2.2.1]), x.2.2.2.1, x.2.2.2.2.1, (IntKind.i64.wrap (x.2.2.2.2.2.1 + (1 : Int))), ())
          else
            none
        else if (!seq (List.getD x.2.2.2.1 (Int.toNat x.2.2.2.2.2.1) (Ty.zero tGateMend)).2.2.2.2.2.1 (⟨#[]⟩ : ByteArray)) = true then
          if (appBound (List.length x.2.2.1) (List.length [(List.getD x.2.2.2.1 (Int.toNat x.2.2.2.2.2.1) (Ty.zero tGateMend)).2.2.2.2.2.1]) 16) = true then
            next (x.1, x.2.1, (x.2.2.1 ++ [(List.getD x.2.2.2.1 (Int.toNat x.2.2.2.2.2.1) (Ty.zero tGateMend)).2.2.2.2.2.1]), x.2.2.2.1, x.2.2.2.2.1, (IntKind.i64.wrap (x.2.2.2.2.2.1 + (1 : Int))), ())
          else
            none
        else
          next (x.1, x.2.1, x.2.2.1, x.2.2.2.1, x.2.2.2.2.1, (IntKind.i64.wrap (x.2.2.2.2.2.1 + (1 : Int))), ())
      else
        none
    else
      none
  else
    cs.1 (x.2.2.1, ())
def f (n : Nat) (x : Tup [.str, (.ptr (.slice tGateMend)), (.ptr tGateShape)]) : Option (Tup [(.slice .str)]) :=
  if (Option.isSome x.2.1) = true then
    runL (B3 n) ((fun z1 =>
        some (z1.1, ())), ()) n (x.1, x.2.2.1, [], (Option.getD x.2.1 (Ty.zero (.slice tGateMend))), (List.length (Option.getD x.2.1 (Ty.zero (.slice tGateMend))) : Int), (0 : Int), ())
  else
    none
@[reducible] def sig (n : Nat) : Sig := ⟨[.str, (.ptr (.slice tGateMend)), (.ptr tGateShape)], [(.slice .str)], true, f n, none⟩
def T (n : Nat) : FuncId → Option Sig := fun g => none
def TL (n : Nat) : Loops := fun j _ st k => if Nat.beq j 3 = true then (match dec st l3.inS [] with | some x => runL (B3 n) (contsOf k l3.outs) n x | none => none) else none
theorem d3 (n : Nat) : LoopDef Try.prog (T n) (TL n) Try.f72 3 :=
  ⟨l3, fun R => B3 n, n, fun R st k => by kernel_rfl, fun R next cs x => by kernel_rfl⟩
theorem con (n : Nat) : Con Try.prog 72 (sig n) :=
  con_print (hsw := rfl) (T := T n) (TL := TL n) (c := Try.f72.body.getD .skip) (js := [3]) hMixed conT_none Try.func72 (by decide) (by kernel_rfl) (by kernel_rfl) (by decide) (LoopDef.cons (d3 n) LoopDef.nil) (fun x => by kernel_rfl)
end impl_rowOf_1
namespace impl_row_string
@[reducible] def sig (n : Nat) : Sig := ⟨[], [], false, fun _ => none, some ⟨.unit, [], [], fun _ _ => none, none, some ⟨.unit, [], [], fun _ _ => none, some ⟨[.slice .str, .bool], fun rd l => rowP n rd l⟩⟩⟩⟩
theorem con (n : Nat) : Con Try.prog 71 (sig n) :=
  con_row (tM := 104) (tS := 9) (tI := 3) (tB := 4) (tR := 98) (tW := 87) (tL := 24) (L := posOf (Try.f71.body.getD .skip)) (L2 := posOf (Try.f81.body.getD .skip)) (row_ty (by kernel_rfl)) Try.func81 (by decide) (by kernel_rfl) (by kernel_rfl) (by kernel_rfl) Try.func71 (by decide) (by kernel_rfl) (by kernel_rfl) (by kernel_rfl) n
end impl_row_string
namespace impl_rowOf
@[reducible] def l3 : LSpec := ⟨[(2, .rb tGateShape), (3, .rb (.slice tGateMend)), (6, .row true .str), (10, .d (.slice tGateField)), (11, .d (.int .i64)), (12, .d (.int .i64))], [(.exit 0, [(2, .rb tGateShape), (3, .rb (.slice tGateMend)), (6, .row true .str)])]⟩
def B3 (n : Nat) {R : Type} (next : Sden l3.inS → Option R) (cs : Conts R l3.outs) (x : Sden l3.inS) : Option R :=
  if (decide (x.2.2.2.2.2.1 < x.2.2.2.2.1)) = true then
    if (decide (0 ≤ x.2.2.2.2.2.1 ∧ x.2.2.2.2.2.1 < (List.length x.2.2.2.1 : Int))) = true then
      if (appBound (List.length x.2.2.1) (List.length [(List.getD x.2.2.2.1 (Int.toNat x.2.2.2.2.2.1) (Ty.zero tGateField)).1]) 16) = true then
        next (x.1, x.2.1, (x.2.2.1 ++ [(List.getD x.2.2.2.1 (Int.toNat x.2.2.2.2.2.1) (Ty.zero tGateField)).1]), x.2.2.2.1, x.2.2.2.2.1, (IntKind.i64.wrap (x.2.2.2.2.2.1 + (1 : Int))), ())
      else
        none
    else
      none
  else
    cs.1 (x.1, x.2.1, x.2.2.1, ())
def f (n : Nat) (x : Tup [tGateShape, (.slice tGateMend)]) : Option (Tup [(.slice .str), .bool]) :=
  runL (B3 n) ((fun z1 =>
      (rowP n (fun u2 => (impl_rowOf_1.f n (u2, (some z1.2.1), (some z1.1), ())).bind fun r => some r.1) z1.2.2.1).bind fun y3 =>
      some (y3.1, y3.2.1, ())), ()) n (x.1, x.2.1, [], x.1.2.1, (List.length x.1.2.1 : Int), (0 : Int), ())
@[reducible] def sig (n : Nat) : Sig := ⟨[tGateShape, (.slice tGateMend)], [(.slice .str), .bool], true, f n, none⟩
def T (n : Nat) : FuncId → Option Sig := fun g => if Nat.beq g 71 = true then some (impl_row_string.sig n) else if Nat.beq g 72 = true then some (impl_rowOf_1.sig n) else none
def TL (n : Nat) : Loops := fun j _ st k => if Nat.beq j 3 = true then (match dec st l3.inS [] with | some x => runL (B3 n) (contsOf k l3.outs) n x | none => none) else none
theorem d3 (n : Nat) : LoopDef Try.prog (T n) (TL n) Try.f49 3 :=
  ⟨l3, fun R => B3 n, n, fun R st k => by kernel_rfl, fun R next cs x => by kernel_rfl⟩
theorem con (n : Nat) : Con Try.prog 49 (sig n) :=
  con_print (hsw := rfl) (T := T n) (TL := TL n) (c := Try.f49.body.getD .skip) (js := [3]) hMixed (conT_cons (impl_row_string.con n) (conT_cons (impl_rowOf_1.con n) conT_none)) Try.func49 (by decide) (by kernel_rfl) (by kernel_rfl) (by decide) (LoopDef.cons (d3 n) LoopDef.nil) (fun x => by kernel_rfl)
end impl_rowOf
namespace impl_GateMendsOk
@[reducible] def l4 : LSpec := ⟨[(0, .d (.slice tGateShape)), (1, .d (.slice tGateMend)), (20, .d (.slice tGateMend)), (21, .d (.int .i64)), (22, .d (.int .i64))], [(.ret, [(4, .d .bool)]), (.exit 0, [(0, .d (.slice tGateShape)), (1, .d (.slice tGateMend))])]⟩
def B4 (n : Nat) {R : Type} (next : Sden l4.inS → Option R) (cs : Conts R l4.outs) (x : Sden l4.inS) : Option R :=
  if (decide (x.2.2.2.2.1 < x.2.2.2.1)) = true then
    if (decide (0 ≤ x.2.2.2.2.1 ∧ x.2.2.2.2.1 < (List.length x.2.2.1 : Int))) = true then
      (impl_shapeOf.f n (x.1, (List.getD x.2.2.1 (Int.toNat x.2.2.2.2.1) (Ty.zero tGateMend)).1, ())).bind fun y2 =>
      if (!(!(decide (y2.1 < (0 : Int)))) || (decide (0 ≤ y2.1 ∧ y2.1 < (List.length x.1 : Int)))) = true then
        (if (!(decide (y2.1 < (0 : Int)))) = true then (impl_mendOk.f n ((List.getD x.1 (Int.toNat y2.1) (Ty.zero tGateShape)).2.1, (List.getD x.2.2.1 (Int.toNat x.2.2.2.2.1) (Ty.zero tGateMend)), ())) else some (tzero [.bool])).bind fun y3 =>
        if ((decide (y2.1 < (0 : Int))) || (!y3.1)) = true then
          cs.1 (false, ())
        else
          next (x.1, x.2.1, x.2.2.1, x.2.2.2.1, (IntKind.i64.wrap (x.2.2.2.2.1 + (1 : Int))), ())
      else
        none
    else
      none
  else
    cs.2.1 (x.1, x.2.1, ())
@[reducible] def l11 : LSpec := ⟨[(1, .d (.slice tGateMend)), (43, .d (.slice tGateShape)), (44, .d (.int .i64)), (45, .d (.int .i64))], [(.ret, [(4, .d .bool)]), (.exit 2, [])]⟩
def B11 (n : Nat) {R : Type} (next : Sden l11.inS → Option R) (cs : Conts R l11.outs) (x : Sden l11.inS) : Option R :=
  if (decide (x.2.2.2.1 < x.2.2.1)) = true then
    if (decide (0 ≤ x.2.2.2.1 ∧ x.2.2.2.1 < (List.length x.2.1 : Int))) = true then
      (impl_rowOf.f n ((List.getD x.2.1 (Int.toNat x.2.2.2.1) (Ty.zero tGateShape)), x.1, ())).bind fun y6 =>
      if (!y6.2.1) = true then
        cs.1 (false, ())
      else
        next (x.1, x.2.1, x.2.2.1, (IntKind.i64.wrap (x.2.2.2.1 + (1 : Int))), ())
    else
      none
  else
    cs.2.1 ()
def f (n : Nat) (x : Tup [(.slice tGateShape), (.slice tGateMend)]) : Option (Tup [.bool]) :=
  (impl_GateShapesOk.f n (x.1, ())).bind fun y1 =>
  if ((!y1.1) || (decide ((List.length x.2.1 : Int) > (12 : Int)))) = true then
    some (false, ())
  else
    runL (B4 n) ((fun z4 =>
        some (z4.1, ())), (fun z5 =>
        runL (B11 n) ((fun z7 =>
            some (z7.1, ())), (fun z8 =>
            some (true, ())), ()) n (z5.2.1, z5.1, (List.length z5.1 : Int), (0 : Int), ())), ()) n (x.1, x.2.1, x.2.1, (List.length x.2.1 : Int), (0 : Int), ())
@[reducible] def sig (n : Nat) : Sig := ⟨[(.slice tGateShape), (.slice tGateMend)], [.bool], false, f n, none⟩
def T (n : Nat) : FuncId → Option Sig := fun g => if Nat.beq g 46 = true then some (impl_GateShapesOk.sig n) else if Nat.beq g 47 = true then some (impl_shapeOf.sig n) else if Nat.beq g 48 = true then some (impl_mendOk.sig n) else if Nat.beq g 49 = true then some (impl_rowOf.sig n) else none
def TL (n : Nat) : Loops := fun j _ st k => if Nat.beq j 4 = true then (match dec st l4.inS [] with | some x => runL (B4 n) (contsOf k l4.outs) n x | none => none) else if Nat.beq j 11 = true then (match dec st l11.inS [] with | some x => runL (B11 n) (contsOf k l11.outs) n x | none => none) else none
theorem d4 (n : Nat) : LoopDef Try.prog (T n) (TL n) Try.f28 4 :=
  ⟨l4, fun R => B4 n, n, fun R st k => by kernel_rfl, fun R next cs x => by kernel_rfl⟩
theorem d11 (n : Nat) : LoopDef Try.prog (T n) (TL n) Try.f28 11 :=
  ⟨l11, fun R => B11 n, n, fun R st k => by kernel_rfl, fun R next cs x => by kernel_rfl⟩
theorem con (n : Nat) : Con Try.prog 28 (sig n) :=
  con_print (hsw := rfl) (T := T n) (TL := TL n) (c := Try.f28.body.getD .skip) (js := [4, 11]) hMixed (conT_cons (impl_GateShapesOk.con n) (conT_cons (impl_shapeOf.con n) (conT_cons (impl_mendOk.con n) (conT_cons (impl_rowOf.con n) conT_none)))) Try.func28 (by decide) (by kernel_rfl) (by kernel_rfl) (by decide) (LoopDef.cons (d4 n) (LoopDef.cons (d11 n) LoopDef.nil)) (fun x => by kernel_rfl)
end impl_GateMendsOk
namespace impl_copyTexts
def f (n : Nat) (x : Tup [(.slice .str)]) : Option (Tup [(.slice .str)]) :=
  if ((List.length x.1 : Int) == (0 : Int)) = true then
    some ([], ())
  else if (decide (0 ≤ (List.length x.1 : Int) ∧ (List.length x.1 : Int) ≤ (List.length x.1 : Int) ∧ (List.length x.1 : Int) * (16 : Int) ≤ 140737488355328)) = true then
    if (decide (List.length (List.replicate (Int.toNat (List.length x.1 : Int)) (⟨#[]⟩ : ByteArray)) = List.length x.1 ∧ 0 < List.length x.1)) = true then
      some (x.1, ())
    else
      none
  else
    none
@[reducible] def sig (n : Nat) : Sig := ⟨[(.slice .str)], [(.slice .str)], true, f n, none⟩
def T (n : Nat) : FuncId → Option Sig := fun g => none
def TL (n : Nat) : Loops := fun j _ st k => none
theorem con (n : Nat) : Con Try.prog 50 (sig n) :=
  con_print (hsw := rfl) (T := T n) (TL := TL n) (c := Try.f50.body.getD .skip) (js := []) hMixed conT_none Try.func50 (by decide) (by kernel_rfl) (by kernel_rfl) (by decide) LoopDef.nil (fun x => by kernel_rfl)
end impl_copyTexts
namespace impl_GateObject_twin
def f (n : Nat) (x : Tup [tGateObject]) : Option (Tup [tGateObject]) :=
  (impl_copyTexts.f n (x.1.2.2.2.1, ())).bind fun y1 =>
  (impl_copyTexts.f n (x.1.2.2.2.2.2.1, ())).bind fun y2 =>
  some ((x.1.1, x.1.2.1, x.1.2.2.1, y1.1, x.1.2.2.2.2.1, y2.1, x.1.2.2.2.2.2.2), ())
@[reducible] def sig (n : Nat) : Sig := ⟨[tGateObject], [tGateObject], true, f n, none⟩
def T (n : Nat) : FuncId → Option Sig := fun g => if Nat.beq g 50 = true then some (impl_copyTexts.sig n) else none
def TL (n : Nat) : Loops := fun j _ st k => none
theorem con (n : Nat) : Con Try.prog 29 (sig n) :=
  con_print (hsw := rfl) (T := T n) (TL := TL n) (c := Try.f29.body.getD .skip) (js := []) hMixed (conT_cons (impl_copyTexts.con n) conT_none) Try.func29 (by decide) (by kernel_rfl) (by kernel_rfl) (by decide) LoopDef.nil (fun x => by kernel_rfl)
end impl_GateObject_twin
namespace impl_fieldsOf
def f (n : Nat) (x : Ty.den (.slice tGateShape)) (q : Tup [tGateObject]) : Option (Tup [(.slice tGateField), .bool]) :=
  (impl_shapeOf.f n (x, q.1.1, ())).bind fun y1 =>
  if (!(!(decide (y1.1 < (0 : Int)))) || (decide (0 ≤ y1.1 ∧ y1.1 < (List.length x : Int)))) = true then
    if ((decide (y1.1 < (0 : Int))) || (((List.length q.1.2.2.2.1) : Int) != (List.length (List.getD x (Int.toNat y1.1) (Ty.zero tGateShape)).2.1 : Int))) = true then
      some ([], false, ())
    else if (decide (0 ≤ y1.1 ∧ y1.1 < (List.length x : Int))) = true then
      some ((List.getD x (Int.toNat y1.1) (Ty.zero tGateShape)).2.1, true, ())
    else
      none
  else
    none
@[reducible] def sig (n : Nat) : Sig := ⟨[], [], false, fun _ => none, some ⟨.unit, [], [], fun _ _ => none, none, some ⟨(.slice tGateShape), [tGateObject], [(.slice tGateField), .bool], f n, none⟩⟩⟩
def T (n : Nat) : FuncId → Option Sig := fun g => if Nat.beq g 47 = true then some (impl_shapeOf.sig n) else none
def TL (n : Nat) : Loops := fun j _ st k => none
theorem con (n : Nat) : Con Try.prog 51 (sig n) :=
  con_printL (T := T n) (TL := TL n) (c := Try.f51.body.getD .skip) (js := []) hMixed (conT_cons (impl_shapeOf.con n) conT_none) Try.func51 (by decide) (by kernel_rfl) (by kernel_rfl) (by decide) LoopDef.nil (fun x q => by kernel_rfl)
end impl_fieldsOf
namespace impl_GateFill
@[reducible] def l6 : LSpec := ⟨[(3, .box [.d .str, .d .str, .d .str, .row true .str, .d .bool, .row true .str, .d (.int .i64)]), (4, .box [.d .str, .d .str, .d .str, .row true .str, .d .bool, .row true .str, .d (.int .i64)]), (25, .d (.slice tGateField)), (26, .d (.int .i64)), (27, .d (.int .i64))], [(.exit 0, [(3, .box [.d .str, .d .str, .d .str, .row true .str, .d .bool, .row true .str, .d (.int .i64)]), (4, .box [.d .str, .d .str, .d .str, .row true .str, .d .bool, .row true .str, .d (.int .i64)])])]⟩
def B6 (n : Nat) {R : Type} (next : Sden l6.inS → Option R) (cs : Conts R l6.outs) (x : Sden l6.inS) : Option R :=
  if (decide (x.2.2.2.2.1 < x.2.2.2.1)) = true then
    if (decide (0 ≤ x.2.2.2.2.1 ∧ x.2.2.2.2.1 < (List.length x.2.2.1 : Int))) = true then
      if (decide (0 ≤ x.2.2.2.2.1 ∧ x.2.2.2.2.1 < (List.length x.1.2.2.2.1 : Int))) = true then
        if (seq (List.getD x.1.2.2.2.1 (Int.toNat x.2.2.2.2.1) (⟨#[]⟩ : ByteArray)) (⟨#[]⟩ : ByteArray)) = true then
          if (decide (0 ≤ x.2.2.2.2.1 ∧ x.2.2.2.2.1 < (List.length x.1.2.2.2.1 : Int))) = true then
            next ((x.1.1, x.1.2.1, x.1.2.2.1, (List.set x.1.2.2.2.1 (Int.toNat x.2.2.2.2.1) (List.getD x.2.2.1 (Int.toNat x.2.2.2.2.1) (Ty.zero tGateField)).2.2.2.2.2.2.2.2.2.1), x.1.2.2.2.2.1, x.1.2.2.2.2.2.1, x.1.2.2.2.2.2.2.1, ()), (x.2.1.1, x.2.1.2.1, x.2.1.2.2.1, x.2.1.2.2.2.1, x.2.1.2.2.2.2.1, x.2.1.2.2.2.2.2.1, x.2.1.2.2.2.2.2.2.1, ()), x.2.2.1, x.2.2.2.1, (IntKind.i64.wrap (x.2.2.2.2.1 + (1 : Int))), ())
          else
            none
        else
          next ((x.1.1, x.1.2.1, x.1.2.2.1, x.1.2.2.2.1, x.1.2.2.2.2.1, x.1.2.2.2.2.2.1, x.1.2.2.2.2.2.2.1, ()), (x.2.1.1, x.2.1.2.1, x.2.1.2.2.1, x.2.1.2.2.2.1, x.2.1.2.2.2.2.1, x.2.1.2.2.2.2.2.1, x.2.1.2.2.2.2.2.2.1, ()), x.2.2.1, x.2.2.2.1, (IntKind.i64.wrap (x.2.2.2.2.1 + (1 : Int))), ())
      else
        none
    else
      none
  else
    cs.1 ((x.1.1, x.1.2.1, x.1.2.2.1, x.1.2.2.2.1, x.1.2.2.2.2.1, x.1.2.2.2.2.2.1, x.1.2.2.2.2.2.2.1, ()), (x.2.1.1, x.2.1.2.1, x.2.1.2.2.1, x.2.1.2.2.2.1, x.2.1.2.2.2.2.1, x.2.1.2.2.2.2.2.1, x.2.1.2.2.2.2.2.2.1, ()), ())
def f (n : Nat) (x : Tup [(.slice tGateShape), tGateObject]) : Option (Tup [tGateObject]) :=
  (impl_GateObject_twin.f n (x.2.1, ())).bind fun y1 =>
  (impl_fieldsOf.f n x.1 (y1.1, ())).bind fun y2 =>
  (if (!(!y2.2.1)) = true then (impl_GateShapesOk.f n (x.1, ())) else some (tzero [.bool])).bind fun y3 =>
  if ((!y2.2.1) || (!y3.1)) = true then
    some (y1.1, ())
  else
    runL (B6 n) ((fun z4 =>
        some ((z4.1.1, z4.1.2.1, z4.1.2.2.1, z4.1.2.2.2.1, z4.1.2.2.2.2.1, z4.1.2.2.2.2.2.1, z4.1.2.2.2.2.2.2.1, ()), ())), ()) n ((y1.1.1, y1.1.2.1, y1.1.2.2.1, y1.1.2.2.2.1, y1.1.2.2.2.2.1, y1.1.2.2.2.2.2.1, y1.1.2.2.2.2.2.2.1, ()), ((⟨#[]⟩ : ByteArray), (⟨#[]⟩ : ByteArray), (⟨#[]⟩ : ByteArray), [], false, [], (0 : Int), ()), y2.1, (List.length y2.1 : Int), (0 : Int), ())
@[reducible] def sig (n : Nat) : Sig := ⟨[(.slice tGateShape), tGateObject], [tGateObject], true, f n, none⟩
def T (n : Nat) : FuncId → Option Sig := fun g => if Nat.beq g 29 = true then some (impl_GateObject_twin.sig n) else if Nat.beq g 46 = true then some (impl_GateShapesOk.sig n) else if Nat.beq g 51 = true then some (impl_fieldsOf.sig n) else none
def TL (n : Nat) : Loops := fun j _ st k => if Nat.beq j 6 = true then (match dec st l6.inS [] with | some x => runL (B6 n) (contsOf k l6.outs) n x | none => none) else none
theorem d6 (n : Nat) : LoopDef Try.prog (T n) (TL n) Try.f31 6 :=
  ⟨l6, fun R => B6 n, n, fun R st k => by kernel_rfl, fun R next cs x => by kernel_rfl⟩
theorem con (n : Nat) : Con Try.prog 31 (sig n) :=
  con_print (hsw := rfl) (T := T n) (TL := TL n) (c := Try.f31.body.getD .skip) (js := [6]) hMixed (conT_cons (impl_GateObject_twin.con n) (conT_cons (impl_GateShapesOk.con n) (conT_cons (impl_fieldsOf.con n) conT_none))) Try.func31 (by decide) (by kernel_rfl) (by kernel_rfl) (by decide) (LoopDef.cons (d6 n) LoopDef.nil) (fun x => by kernel_rfl)
end impl_GateFill
namespace impl_GateMended_1
def f (n : Nat) (x : Tup [.str, (.ptr tGateObject), (.ptr (.slice tGateField))]) : Option (Tup [.str]) :=
  if (!true || (Option.isSome x.2.1)) = true then
    if (!true || (Option.isSome x.2.2.1)) = true then
      (if true = true then (impl_placeOf.f n ((Option.getD x.2.2.1 (Ty.zero (.slice tGateField))), x.1, ())) else some (tzero [(.int .i64)])).bind fun y1 =>
      if (decide (0 ≤ y1.1 ∧ y1.1 < (List.length (Option.getD x.2.1 (Ty.zero tGateObject)).2.2.2.1 : Int))) = true then
        some ((List.getD (Option.getD x.2.1 (Ty.zero tGateObject)).2.2.2.1 (Int.toNat y1.1) (⟨#[]⟩ : ByteArray)), ())
      else
        none
    else
      none
  else
    none
@[reducible] def sig (n : Nat) : Sig := ⟨[.str, (.ptr tGateObject), (.ptr (.slice tGateField))], [.str], false, f n, none⟩
def T (n : Nat) : FuncId → Option Sig := fun g => if Nat.beq g 53 = true then some (impl_placeOf.sig n) else none
def TL (n : Nat) : Loops := fun j _ st k => none
theorem con (n : Nat) : Con Try.prog 52 (sig n) :=
  con_print (hsw := rfl) (T := T n) (TL := TL n) (c := Try.f52.body.getD .skip) (js := []) hMixed (conT_cons (impl_placeOf.con n) conT_none) Try.func52 (by decide) (by kernel_rfl) (by kernel_rfl) (by decide) LoopDef.nil (fun x => by kernel_rfl)
end impl_GateMended_1
namespace impl_GateMended
@[reducible] def l11 : LSpec := ⟨[(1, .d (.slice tGateMend)), (5, .box [.d .str, .d .str, .d .str, .row true .str, .d .bool, .row true .str, .d (.int .i64)]), (6, .box [.d .str, .d .str, .d .str, .row true .str, .d .bool, .row true .str, .d (.int .i64)]), (7, .box [.d (.slice tGateField)]), (11, .cap 52 [5, 7]), (13, .d .str), (47, .row true .str), (48, .d (.int .i64)), (49, .d (.int .i64)), (53, .d (.slice tGateMend)), (54, .d (.int .i64)), (55, .d (.int .i64))], [(.exit 1, [(1, .d (.slice tGateMend)), (5, .box [.d .str, .d .str, .d .str, .row true .str, .d .bool, .row true .str, .d (.int .i64)]), (6, .box [.d .str, .d .str, .d .str, .row true .str, .d .bool, .row true .str, .d (.int .i64)]), (7, .box [.d (.slice tGateField)]), (11, .cap 52 [5, 7]), (47, .row true .str), (48, .d (.int .i64)), (49, .d (.int .i64))]), (.exit 2, [(1, .d (.slice tGateMend)), (5, .box [.d .str, .d .str, .d .str, .row true .str, .d .bool, .row true .str, .d (.int .i64)]), (6, .box [.d .str, .d .str, .d .str, .row true .str, .d .bool, .row true .str, .d (.int .i64)]), (7, .box [.d (.slice tGateField)]), (11, .cap 52 [5, 7]), (47, .row true .str), (48, .d (.int .i64)), (49, .d (.int .i64))])]⟩
def B11 (n : Nat) {R : Type} (next : Sden l11.inS → Option R) (cs : Conts R l11.outs) (x : Sden l11.inS) : Option R :=
  if (decide (x.2.2.2.2.2.2.2.2.2.2.2.1 < x.2.2.2.2.2.2.2.2.2.2.1)) = true then
    if (decide (0 ≤ x.2.2.2.2.2.2.2.2.2.2.2.1 ∧ x.2.2.2.2.2.2.2.2.2.2.2.1 < (List.length x.2.2.2.2.2.2.2.2.2.1 : Int))) = true then
      if ((!seq (List.getD x.2.2.2.2.2.2.2.2.2.1 (Int.toNat x.2.2.2.2.2.2.2.2.2.2.2.1) (Ty.zero tGateMend)).1 x.2.1.1) || (!seq (List.getD x.2.2.2.2.2.2.2.2.2.1 (Int.toNat x.2.2.2.2.2.2.2.2.2.2.2.1) (Ty.zero tGateMend)).2.1 x.2.2.2.2.2.1)) = true then
        next (x.1, (x.2.1.1, x.2.1.2.1, x.2.1.2.2.1, x.2.1.2.2.2.1, x.2.1.2.2.2.2.1, x.2.1.2.2.2.2.2.1, x.2.1.2.2.2.2.2.2.1, ()), (x.2.2.1.1, x.2.2.1.2.1, x.2.2.1.2.2.1, x.2.2.1.2.2.2.1, x.2.2.1.2.2.2.2.1, x.2.2.1.2.2.2.2.2.1, x.2.2.1.2.2.2.2.2.2.1, ()), (x.2.2.2.1.1, ()), (), x.2.2.2.2.2.1, x.2.2.2.2.2.2.1, x.2.2.2.2.2.2.2.1, x.2.2.2.2.2.2.2.2.1, x.2.2.2.2.2.2.2.2.2.1, x.2.2.2.2.2.2.2.2.2.2.1, (IntKind.i64.wrap (x.2.2.2.2.2.2.2.2.2.2.2.1 + (1 : Int))), ())
      else
        (if (!seq (List.getD x.2.2.2.2.2.2.2.2.2.1 (Int.toNat x.2.2.2.2.2.2.2.2.2.2.2.1) (Ty.zero tGateMend)).2.2.1 (⟨#[]⟩ : ByteArray)) = true then (impl_GateMended_1.f n ((List.getD x.2.2.2.2.2.2.2.2.2.1 (Int.toNat x.2.2.2.2.2.2.2.2.2.2.2.1) (Ty.zero tGateMend)).2.2.1, (some (x.2.1.1, x.2.1.2.1, x.2.1.2.2.1, x.2.1.2.2.2.1, x.2.1.2.2.2.2.1, x.2.1.2.2.2.2.2.1, x.2.1.2.2.2.2.2.2.1, ())), (some x.2.2.2.1.1), ())) else some (tzero [.str])).bind fun y6 =>
        (if ((!((!seq (List.getD x.2.2.2.2.2.2.2.2.2.1 (Int.toNat x.2.2.2.2.2.2.2.2.2.2.2.1) (Ty.zero tGateMend)).2.2.1 (⟨#[]⟩ : ByteArray)) && (!seq y6.1 (List.getD x.2.2.2.2.2.2.2.2.2.1 (Int.toNat x.2.2.2.2.2.2.2.2.2.2.2.1) (Ty.zero tGateMend)).2.2.2.1))) && (!seq (List.getD x.2.2.2.2.2.2.2.2.2.1 (Int.toNat x.2.2.2.2.2.2.2.2.2.2.2.1) (Ty.zero tGateMend)).2.2.2.2.2.1 (⟨#[]⟩ : ByteArray))) = true then (impl_GateMended_1.f n ((List.getD x.2.2.2.2.2.2.2.2.2.1 (Int.toNat x.2.2.2.2.2.2.2.2.2.2.2.1) (Ty.zero tGateMend)).2.2.2.2.2.1, (some (x.2.1.1, x.2.1.2.1, x.2.1.2.2.1, x.2.1.2.2.2.1, x.2.1.2.2.2.2.1, x.2.1.2.2.2.2.2.1, x.2.1.2.2.2.2.2.2.1, ())), (some x.2.2.2.1.1), ())) else some (tzero [.str])).bind fun y7 =>
        if (((!seq (List.getD x.2.2.2.2.2.2.2.2.2.1 (Int.toNat x.2.2.2.2.2.2.2.2.2.2.2.1) (Ty.zero tGateMend)).2.2.1 (⟨#[]⟩ : ByteArray)) && (!seq y6.1 (List.getD x.2.2.2.2.2.2.2.2.2.1 (Int.toNat x.2.2.2.2.2.2.2.2.2.2.2.1) (Ty.zero tGateMend)).2.2.2.1)) || ((!seq (List.getD x.2.2.2.2.2.2.2.2.2.1 (Int.toNat x.2.2.2.2.2.2.2.2.2.2.2.1) (Ty.zero tGateMend)).2.2.2.2.2.1 (⟨#[]⟩ : ByteArray)) && (seq y7.1 (⟨#[]⟩ : ByteArray)))) = true then
          next (x.1, (x.2.1.1, x.2.1.2.1, x.2.1.2.2.1, x.2.1.2.2.2.1, x.2.1.2.2.2.2.1, x.2.1.2.2.2.2.2.1, x.2.1.2.2.2.2.2.2.1, ()), (x.2.2.1.1, x.2.2.1.2.1, x.2.2.1.2.2.1, x.2.2.1.2.2.2.1, x.2.2.1.2.2.2.2.1, x.2.2.1.2.2.2.2.2.1, x.2.2.1.2.2.2.2.2.2.1, ()), (x.2.2.2.1.1, ()), (), x.2.2.2.2.2.1, x.2.2.2.2.2.2.1, x.2.2.2.2.2.2.2.1, x.2.2.2.2.2.2.2.2.1, x.2.2.2.2.2.2.2.2.2.1, x.2.2.2.2.2.2.2.2.2.2.1, (IntKind.i64.wrap (x.2.2.2.2.2.2.2.2.2.2.2.1 + (1 : Int))), ())
        else if (!seq (List.getD x.2.2.2.2.2.2.2.2.2.1 (Int.toNat x.2.2.2.2.2.2.2.2.2.2.2.1) (Ty.zero tGateMend)).2.2.2.2.2.1 (⟨#[]⟩ : ByteArray)) = true then
          (impl_GateMended_1.f n ((List.getD x.2.2.2.2.2.2.2.2.2.1 (Int.toNat x.2.2.2.2.2.2.2.2.2.2.2.1) (Ty.zero tGateMend)).2.2.2.2.2.1, (some (x.2.1.1, x.2.1.2.1, x.2.1.2.2.1, x.2.1.2.2.2.1, x.2.1.2.2.2.2.1, x.2.1.2.2.2.2.2.1, x.2.1.2.2.2.2.2.2.1, ())), (some x.2.2.2.1.1), ())).bind fun y8 =>
          (if true = true then (impl_placeOf.f n (x.2.2.2.1.1, x.2.2.2.2.2.1, ())) else some (tzero [(.int .i64)])).bind fun y9 =>
          if (decide (0 ≤ y9.1 ∧ y9.1 < (List.length x.2.1.2.2.2.1 : Int))) = true then
            cs.1 (x.1, (x.2.1.1, x.2.1.2.1, x.2.1.2.2.1, (List.set x.2.1.2.2.2.1 (Int.toNat y9.1) y8.1), x.2.1.2.2.2.2.1, x.2.1.2.2.2.2.2.1, x.2.1.2.2.2.2.2.2.1, ()), (x.2.2.1.1, x.2.2.1.2.1, x.2.2.1.2.2.1, x.2.2.1.2.2.2.1, x.2.2.1.2.2.2.2.1, x.2.2.1.2.2.2.2.2.1, x.2.2.1.2.2.2.2.2.2.1, ()), (x.2.2.2.1.1, ()), (), x.2.2.2.2.2.2.1, x.2.2.2.2.2.2.2.1, x.2.2.2.2.2.2.2.2.1, ())
          else
            none
        else
          (if true = true then (impl_placeOf.f n (x.2.2.2.1.1, x.2.2.2.2.2.1, ())) else some (tzero [(.int .i64)])).bind fun y10 =>
          if (decide (0 ≤ y10.1 ∧ y10.1 < (List.length x.2.1.2.2.2.1 : Int))) = true then
            cs.1 (x.1, (x.2.1.1, x.2.1.2.1, x.2.1.2.2.1, (List.set x.2.1.2.2.2.1 (Int.toNat y10.1) (List.getD x.2.2.2.2.2.2.2.2.2.1 (Int.toNat x.2.2.2.2.2.2.2.2.2.2.2.1) (Ty.zero tGateMend)).2.2.2.2.1), x.2.1.2.2.2.2.1, x.2.1.2.2.2.2.2.1, x.2.1.2.2.2.2.2.2.1, ()), (x.2.2.1.1, x.2.2.1.2.1, x.2.2.1.2.2.1, x.2.2.1.2.2.2.1, x.2.2.1.2.2.2.2.1, x.2.2.1.2.2.2.2.2.1, x.2.2.1.2.2.2.2.2.2.1, ()), (x.2.2.2.1.1, ()), (), x.2.2.2.2.2.2.1, x.2.2.2.2.2.2.2.1, x.2.2.2.2.2.2.2.2.1, ())
          else
            none
    else
      none
  else
    cs.2.1 (x.1, (x.2.1.1, x.2.1.2.1, x.2.1.2.2.1, x.2.1.2.2.2.1, x.2.1.2.2.2.2.1, x.2.1.2.2.2.2.2.1, x.2.1.2.2.2.2.2.2.1, ()), (x.2.2.1.1, x.2.2.1.2.1, x.2.2.1.2.2.1, x.2.2.1.2.2.2.1, x.2.2.1.2.2.2.2.1, x.2.2.1.2.2.2.2.2.1, x.2.2.1.2.2.2.2.2.2.1, ()), (x.2.2.2.1.1, ()), (), x.2.2.2.2.2.2.1, x.2.2.2.2.2.2.2.1, x.2.2.2.2.2.2.2.2.1, ())
@[reducible] def l8 : LSpec := ⟨[(1, .d (.slice tGateMend)), (5, .box [.d .str, .d .str, .d .str, .row true .str, .d .bool, .row true .str, .d (.int .i64)]), (6, .box [.d .str, .d .str, .d .str, .row true .str, .d .bool, .row true .str, .d (.int .i64)]), (7, .box [.d (.slice tGateField)]), (11, .cap 52 [5, 7]), (47, .row true .str), (48, .d (.int .i64)), (49, .d (.int .i64))], [(.exit 0, [(5, .box [.d .str, .d .str, .d .str, .row true .str, .d .bool, .row true .str, .d (.int .i64)]), (6, .box [.d .str, .d .str, .d .str, .row true .str, .d .bool, .row true .str, .d (.int .i64)])])]⟩
def B8 (n : Nat) {R : Type} (next : Sden l8.inS → Option R) (cs : Conts R l8.outs) (x : Sden l8.inS) : Option R :=
  if (decide (x.2.2.2.2.2.2.2.1 < x.2.2.2.2.2.2.1)) = true then
    if (decide (0 ≤ x.2.2.2.2.2.2.2.1 ∧ x.2.2.2.2.2.2.2.1 < (List.length x.2.2.2.2.2.1 : Int))) = true then
      runL (B11 n) ((fun z11 =>
          next (z11.1, (z11.2.1.1, z11.2.1.2.1, z11.2.1.2.2.1, z11.2.1.2.2.2.1, z11.2.1.2.2.2.2.1, z11.2.1.2.2.2.2.2.1, z11.2.1.2.2.2.2.2.2.1, ()), (z11.2.2.1.1, z11.2.2.1.2.1, z11.2.2.1.2.2.1, z11.2.2.1.2.2.2.1, z11.2.2.1.2.2.2.2.1, z11.2.2.1.2.2.2.2.2.1, z11.2.2.1.2.2.2.2.2.2.1, ()), (z11.2.2.2.1.1, ()), (), z11.2.2.2.2.2.1, z11.2.2.2.2.2.2.1, (IntKind.i64.wrap (z11.2.2.2.2.2.2.2.1 + (1 : Int))), ())), (fun z12 =>
          next (z12.1, (z12.2.1.1, z12.2.1.2.1, z12.2.1.2.2.1, z12.2.1.2.2.2.1, z12.2.1.2.2.2.2.1, z12.2.1.2.2.2.2.2.1, z12.2.1.2.2.2.2.2.2.1, ()), (z12.2.2.1.1, z12.2.2.1.2.1, z12.2.2.1.2.2.1, z12.2.2.1.2.2.2.1, z12.2.2.1.2.2.2.2.1, z12.2.2.1.2.2.2.2.2.1, z12.2.2.1.2.2.2.2.2.2.1, ()), (z12.2.2.2.1.1, ()), (), z12.2.2.2.2.2.1, z12.2.2.2.2.2.2.1, (IntKind.i64.wrap (z12.2.2.2.2.2.2.2.1 + (1 : Int))), ())), ()) n (x.1, (x.2.1.1, x.2.1.2.1, x.2.1.2.2.1, x.2.1.2.2.2.1, x.2.1.2.2.2.2.1, x.2.1.2.2.2.2.2.1, x.2.1.2.2.2.2.2.2.1, ()), (x.2.2.1.1, x.2.2.1.2.1, x.2.2.1.2.2.1, x.2.2.1.2.2.2.1, x.2.2.1.2.2.2.2.1, x.2.2.1.2.2.2.2.2.1, x.2.2.1.2.2.2.2.2.2.1, ()), (x.2.2.2.1.1, ()), (), (List.getD x.2.2.2.2.2.1 (Int.toNat x.2.2.2.2.2.2.2.1) (⟨#[]⟩ : ByteArray)), x.2.2.2.2.2.1, x.2.2.2.2.2.2.1, x.2.2.2.2.2.2.2.1, x.1, (List.length x.1 : Int), (0 : Int), ())
    else
      none
  else
    cs.1 ((x.2.1.1, x.2.1.2.1, x.2.1.2.2.1, x.2.1.2.2.2.1, x.2.1.2.2.2.2.1, x.2.1.2.2.2.2.2.1, x.2.1.2.2.2.2.2.2.1, ()), (x.2.2.1.1, x.2.2.1.2.1, x.2.2.1.2.2.1, x.2.2.1.2.2.2.1, x.2.2.1.2.2.2.2.1, x.2.2.1.2.2.2.2.2.1, x.2.2.1.2.2.2.2.2.2.1, ()), ())
def f (n : Nat) (x : Tup [(.slice tGateShape), (.slice tGateMend), tGateObject]) : Option (Tup [tGateObject]) :=
  (impl_GateObject_twin.f n (x.2.2.1, ())).bind fun y1 =>
  (impl_fieldsOf.f n x.1 (y1.1, ())).bind fun y2 =>
  (if (!(!y2.2.1)) = true then (impl_GateMendsOk.f n (x.1, x.2.1, ())) else some (tzero [.bool])).bind fun y3 =>
  if ((!y2.2.1) || (!y3.1)) = true then
    some (y1.1, ())
  else
    (impl_shapeOf.f n (x.1, y1.1.1, ())).bind fun y4 =>
    if (decide (0 ≤ y4.1 ∧ y4.1 < (List.length x.1 : Int))) = true then
      (impl_rowOf.f n ((List.getD x.1 (Int.toNat y4.1) (Ty.zero tGateShape)), x.2.1, ())).bind fun y5 =>
      runL (B8 n) ((fun z13 =>
          some ((z13.1.1, z13.1.2.1, z13.1.2.2.1, z13.1.2.2.2.1, z13.1.2.2.2.2.1, z13.1.2.2.2.2.2.1, z13.1.2.2.2.2.2.2.1, ()), ())), ()) n (x.2.1, (y1.1.1, y1.1.2.1, y1.1.2.2.1, y1.1.2.2.2.1, y1.1.2.2.2.2.1, y1.1.2.2.2.2.2.1, y1.1.2.2.2.2.2.2.1, ()), ((⟨#[]⟩ : ByteArray), (⟨#[]⟩ : ByteArray), (⟨#[]⟩ : ByteArray), [], false, [], (0 : Int), ()), (y2.1, ()), (), y5.1, (List.length y5.1 : Int), (0 : Int), ())
    else
      none
@[reducible] def sig (n : Nat) : Sig := ⟨[(.slice tGateShape), (.slice tGateMend), tGateObject], [tGateObject], true, f n, none⟩
def T (n : Nat) : FuncId → Option Sig := fun g => if Nat.beq g 28 = true then some (impl_GateMendsOk.sig n) else if Nat.beq g 29 = true then some (impl_GateObject_twin.sig n) else if Nat.beq g 47 = true then some (impl_shapeOf.sig n) else if Nat.beq g 49 = true then some (impl_rowOf.sig n) else if Nat.beq g 51 = true then some (impl_fieldsOf.sig n) else if Nat.beq g 52 = true then some (impl_GateMended_1.sig n) else if Nat.beq g 53 = true then some (impl_placeOf.sig n) else none
def TL (n : Nat) : Loops := fun j _ st k => if Nat.beq j 11 = true then (match dec st l11.inS [] with | some x => runL (B11 n) (contsOf k l11.outs) n x | none => none) else if Nat.beq j 8 = true then (match dec st l8.inS [] with | some x => runL (B8 n) (contsOf k l8.outs) n x | none => none) else none
theorem d11 (n : Nat) : LoopDef Try.prog (T n) (TL n) Try.f30 11 :=
  ⟨l11, fun R => B11 n, n, fun R st k => by kernel_rfl, fun R next cs x => by kernel_rfl⟩
theorem d8 (n : Nat) : LoopDef Try.prog (T n) (TL n) Try.f30 8 :=
  ⟨l8, fun R => B8 n, n, fun R st k => by kernel_rfl, fun R next cs x => by kernel_rfl⟩
theorem con (n : Nat) : Con Try.prog 30 (sig n) :=
  con_print (hsw := rfl) (T := T n) (TL := TL n) (c := Try.f30.body.getD .skip) (js := [8, 11]) hMixed (conT_cons (impl_GateMendsOk.con n) (conT_cons (impl_GateObject_twin.con n) (conT_cons (impl_shapeOf.con n) (conT_cons (impl_rowOf.con n) (conT_cons (impl_fieldsOf.con n) (conT_cons (impl_GateMended_1.con n) (conT_cons (impl_placeOf.con n) conT_none))))))) Try.func30 (by decide) (by kernel_rfl) (by kernel_rfl) (by decide) (LoopDef.cons (d8 n) (LoopDef.cons (d11 n) LoopDef.nil)) (fun x => by kernel_rfl)
end impl_GateMended
namespace impl_GateShaped
def f (n : Nat) (x : Tup [(.slice tGateShape), (.slice tGateMend), tGateObject]) : Option (Tup [tGateObject]) :=
  (impl_GateMendsOk.f n (x.1, x.2.1, ())).bind fun y1 =>
  if (!y1.1) = true then
    (impl_GateObject_twin.f n (x.2.2.1, ())).bind fun y2 =>
    some (y2.1, ())
  else
    (impl_GateFill.f n (x.1, x.2.2.1, ())).bind fun y3 =>
    (impl_GateMended.f n (x.1, x.2.1, y3.1, ())).bind fun y4 =>
    some (y4.1, ())
@[reducible] def sig (n : Nat) : Sig := ⟨[(.slice tGateShape), (.slice tGateMend), tGateObject], [tGateObject], true, f n, none⟩
def T (n : Nat) : FuncId → Option Sig := fun g => if Nat.beq g 28 = true then some (impl_GateMendsOk.sig n) else if Nat.beq g 29 = true then some (impl_GateObject_twin.sig n) else if Nat.beq g 30 = true then some (impl_GateMended.sig n) else if Nat.beq g 31 = true then some (impl_GateFill.sig n) else none
def TL (n : Nat) : Loops := fun j _ st k => none
theorem con (n : Nat) : Con Try.prog 11 (sig n) :=
  con_print (hsw := rfl) (T := T n) (TL := TL n) (c := Try.f11.body.getD .skip) (js := []) hMixed (conT_cons (impl_GateMendsOk.con n) (conT_cons (impl_GateObject_twin.con n) (conT_cons (impl_GateMended.con n) (conT_cons (impl_GateFill.con n) conT_none)))) Try.func11 (by decide) (by kernel_rfl) (by kernel_rfl) (by decide) LoopDef.nil (fun x => by kernel_rfl)
end impl_GateShaped
namespace laws_eqStringS
@[reducible] def l4 : LSpec := ⟨[(0, .d (.slice .str)), (1, .d (.slice .str)), (5, .d (.int .i64))], [(.ret, [(4, .d .bool)]), (.exit 0, [])]⟩
def B4 (n : Nat) {R : Type} (next : Sden l4.inS → Option R) (cs : Conts R l4.outs) (x : Sden l4.inS) : Option R :=
  if (decide (x.2.2.1 < (List.length x.1 : Int))) = true then
    if (!true || (decide (0 ≤ x.2.2.1 ∧ x.2.2.1 < (List.length x.1 : Int)))) = true then
      if (!true || (decide (0 ≤ x.2.2.1 ∧ x.2.2.1 < (List.length x.2.1 : Int)))) = true then
        if (!seq (List.getD x.1 (Int.toNat x.2.2.1) (⟨#[]⟩ : ByteArray)) (List.getD x.2.1 (Int.toNat x.2.2.1) (⟨#[]⟩ : ByteArray))) = true then
          cs.1 (false, ())
        else
          next (x.1, x.2.1, (IntKind.i64.wrap (x.2.2.1 + (1 : Int))), ())
      else
        none
    else
      none
  else
    cs.2.1 ()
def f (n : Nat) (x : Tup [(.slice .str), (.slice .str)]) : Option (Tup [.bool]) :=
  if ((List.length x.1 : Int) != (List.length x.2.1 : Int)) = true then
    some (false, ())
  else
    runL (B4 n) ((fun z1 =>
        some (z1.1, ())), (fun z2 =>
        some (true, ())), ()) n (x.1, x.2.1, (0 : Int), ())
@[reducible] def sig (n : Nat) : Sig := ⟨[(.slice .str), (.slice .str)], [.bool], false, f n, none⟩
def T (n : Nat) : FuncId → Option Sig := fun g => none
def TL (n : Nat) : Loops := fun j _ st k => if Nat.beq j 4 = true then (match dec st l4.inS [] with | some x => runL (B4 n) (contsOf k l4.outs) n x | none => none) else none
theorem d4 (n : Nat) : LoopDef Try.prog (T n) (TL n) Try.f32 4 :=
  ⟨l4, fun R => B4 n, n, fun R st k => by kernel_rfl, fun R next cs x => by kernel_rfl⟩
theorem con (n : Nat) : Con Try.prog 32 (sig n) :=
  con_print (hsw := rfl) (T := T n) (TL := TL n) (c := Try.f32.body.getD .skip) (js := [4]) hMixed conT_none Try.func32 (by decide) (by kernel_rfl) (by kernel_rfl) (by decide) (LoopDef.cons (d4 n) LoopDef.nil) (fun x => by kernel_rfl)
end laws_eqStringS
namespace laws_eqGateObject
def f (n : Nat) (x : Tup [tGateObject, tGateObject]) : Option (Tup [.bool]) :=
  if (!seq x.1.1 x.2.1.1) = true then
    some (false, ())
  else if (!seq x.1.2.1 x.2.1.2.1) = true then
    some (false, ())
  else if (!seq x.1.2.2.1 x.2.1.2.2.1) = true then
    some (false, ())
  else
    (laws_eqStringS.f n (x.1.2.2.2.1, x.2.1.2.2.2.1, ())).bind fun y1 =>
    if (!y1.1) = true then
      some (false, ())
    else if (!(x.1.2.2.2.2.1 == x.2.1.2.2.2.2.1)) = true then
      some (false, ())
    else
      (laws_eqStringS.f n (x.1.2.2.2.2.2.1, x.2.1.2.2.2.2.2.1, ())).bind fun y2 =>
      if (!y2.1) = true then
        some (false, ())
      else if (x.1.2.2.2.2.2.2.1 != x.2.1.2.2.2.2.2.2.1) = true then
        some (false, ())
      else
        some (true, ())
@[reducible] def sig (n : Nat) : Sig := ⟨[tGateObject, tGateObject], [.bool], false, f n, none⟩
def T (n : Nat) : FuncId → Option Sig := fun g => if Nat.beq g 32 = true then some (laws_eqStringS.sig n) else none
def TL (n : Nat) : Loops := fun j _ st k => none
theorem con (n : Nat) : Con Try.prog 12 (sig n) :=
  con_print (hsw := rfl) (T := T n) (TL := TL n) (c := Try.f12.body.getD .skip) (js := []) hMixed (conT_cons (laws_eqStringS.con n) conT_none) Try.func12 (by decide) (by kernel_rfl) (by kernel_rfl) (by decide) LoopDef.nil (fun x => by kernel_rfl)
end laws_eqGateObject
namespace laws_eqGateField
def f (n : Nat) (x : Tup [tGateField, tGateField]) : Option (Tup [.bool]) :=
  if (!seq x.1.1 x.2.1.1) = true then
    some (false, ())
  else if (x.1.2.1 != x.2.1.2.1) = true then
    some (false, ())
  else if (x.1.2.2.1 != x.2.1.2.2.1) = true then
    some (false, ())
  else if (x.1.2.2.2.1 != x.2.1.2.2.2.1) = true then
    some (false, ())
  else
    (laws_eqStringS.f n (x.1.2.2.2.2.1, x.2.1.2.2.2.2.1, ())).bind fun y1 =>
    if (!y1.1) = true then
      some (false, ())
    else if (!seq x.1.2.2.2.2.2.1 x.2.1.2.2.2.2.2.1) = true then
      some (false, ())
    else if (x.1.2.2.2.2.2.2.1 != x.2.1.2.2.2.2.2.2.1) = true then
      some (false, ())
    else if (!(x.1.2.2.2.2.2.2.2.1 == x.2.1.2.2.2.2.2.2.2.1)) = true then
      some (false, ())
    else if (!(x.1.2.2.2.2.2.2.2.2.1 == x.2.1.2.2.2.2.2.2.2.2.1)) = true then
      some (false, ())
    else if (!seq x.1.2.2.2.2.2.2.2.2.2.1 x.2.1.2.2.2.2.2.2.2.2.2.1) = true then
      some (false, ())
    else if (!seq x.1.2.2.2.2.2.2.2.2.2.2.1 x.2.1.2.2.2.2.2.2.2.2.2.2.1) = true then
      some (false, ())
    else
      some (true, ())
@[reducible] def sig (n : Nat) : Sig := ⟨[tGateField, tGateField], [.bool], false, f n, none⟩
def T (n : Nat) : FuncId → Option Sig := fun g => if Nat.beq g 32 = true then some (laws_eqStringS.sig n) else none
def TL (n : Nat) : Loops := fun j _ st k => none
theorem con (n : Nat) : Con Try.prog 73 (sig n) :=
  con_print (hsw := rfl) (T := T n) (TL := TL n) (c := Try.f73.body.getD .skip) (js := []) hMixed (conT_cons (laws_eqStringS.con n) conT_none) Try.func73 (by decide) (by kernel_rfl) (by kernel_rfl) (by decide) LoopDef.nil (fun x => by kernel_rfl)
end laws_eqGateField
namespace laws_eqGateFieldS
@[reducible] def l4 : LSpec := ⟨[(0, .d (.slice tGateField)), (1, .d (.slice tGateField)), (5, .d (.int .i64))], [(.ret, [(4, .d .bool)]), (.exit 0, [])]⟩
def B4 (n : Nat) {R : Type} (next : Sden l4.inS → Option R) (cs : Conts R l4.outs) (x : Sden l4.inS) : Option R :=
  if (decide (x.2.2.1 < (List.length x.1 : Int))) = true then
    if (!true || (decide (0 ≤ x.2.2.1 ∧ x.2.2.1 < (List.length x.1 : Int)))) = true then
      if (!true || (decide (0 ≤ x.2.2.1 ∧ x.2.2.1 < (List.length x.2.1 : Int)))) = true then
        (laws_eqGateField.f n ((List.getD x.1 (Int.toNat x.2.2.1) (Ty.zero tGateField)), (List.getD x.2.1 (Int.toNat x.2.2.1) (Ty.zero tGateField)), ())).bind fun y1 =>
        if (!y1.1) = true then
          cs.1 (false, ())
        else
          next (x.1, x.2.1, (IntKind.i64.wrap (x.2.2.1 + (1 : Int))), ())
      else
        none
    else
      none
  else
    cs.2.1 ()
def f (n : Nat) (x : Tup [(.slice tGateField), (.slice tGateField)]) : Option (Tup [.bool]) :=
  if ((List.length x.1 : Int) != (List.length x.2.1 : Int)) = true then
    some (false, ())
  else
    runL (B4 n) ((fun z2 =>
        some (z2.1, ())), (fun z3 =>
        some (true, ())), ()) n (x.1, x.2.1, (0 : Int), ())
@[reducible] def sig (n : Nat) : Sig := ⟨[(.slice tGateField), (.slice tGateField)], [.bool], false, f n, none⟩
def T (n : Nat) : FuncId → Option Sig := fun g => if Nat.beq g 73 = true then some (laws_eqGateField.sig n) else none
def TL (n : Nat) : Loops := fun j _ st k => if Nat.beq j 4 = true then (match dec st l4.inS [] with | some x => runL (B4 n) (contsOf k l4.outs) n x | none => none) else none
theorem d4 (n : Nat) : LoopDef Try.prog (T n) (TL n) Try.f54 4 :=
  ⟨l4, fun R => B4 n, n, fun R st k => by kernel_rfl, fun R next cs x => by kernel_rfl⟩
theorem con (n : Nat) : Con Try.prog 54 (sig n) :=
  con_print (hsw := rfl) (T := T n) (TL := TL n) (c := Try.f54.body.getD .skip) (js := [4]) hMixed (conT_cons (laws_eqGateField.con n) conT_none) Try.func54 (by decide) (by kernel_rfl) (by kernel_rfl) (by decide) (LoopDef.cons (d4 n) LoopDef.nil) (fun x => by kernel_rfl)
end laws_eqGateFieldS
namespace laws_eqGateShape
def f (n : Nat) (x : Tup [tGateShape, tGateShape]) : Option (Tup [.bool]) :=
  if (!seq x.1.1 x.2.1.1) = true then
    some (false, ())
  else
    (laws_eqGateFieldS.f n (x.1.2.1, x.2.1.2.1, ())).bind fun y1 =>
    if (!y1.1) = true then
      some (false, ())
    else
      some (true, ())
@[reducible] def sig (n : Nat) : Sig := ⟨[tGateShape, tGateShape], [.bool], false, f n, none⟩
def T (n : Nat) : FuncId → Option Sig := fun g => if Nat.beq g 54 = true then some (laws_eqGateFieldS.sig n) else none
def TL (n : Nat) : Loops := fun j _ st k => none
theorem con (n : Nat) : Con Try.prog 33 (sig n) :=
  con_print (hsw := rfl) (T := T n) (TL := TL n) (c := Try.f33.body.getD .skip) (js := []) hMixed (conT_cons (laws_eqGateFieldS.con n) conT_none) Try.func33 (by decide) (by kernel_rfl) (by kernel_rfl) (by decide) LoopDef.nil (fun x => by kernel_rfl)
end laws_eqGateShape
namespace laws_eqGateShapeS
@[reducible] def l4 : LSpec := ⟨[(0, .d (.slice tGateShape)), (1, .d (.slice tGateShape)), (5, .d (.int .i64))], [(.ret, [(4, .d .bool)]), (.exit 0, [])]⟩
def B4 (n : Nat) {R : Type} (next : Sden l4.inS → Option R) (cs : Conts R l4.outs) (x : Sden l4.inS) : Option R :=
  if (decide (x.2.2.1 < (List.length x.1 : Int))) = true then
    if (!true || (decide (0 ≤ x.2.2.1 ∧ x.2.2.1 < (List.length x.1 : Int)))) = true then
      if (!true || (decide (0 ≤ x.2.2.1 ∧ x.2.2.1 < (List.length x.2.1 : Int)))) = true then
        (laws_eqGateShape.f n ((List.getD x.1 (Int.toNat x.2.2.1) (Ty.zero tGateShape)), (List.getD x.2.1 (Int.toNat x.2.2.1) (Ty.zero tGateShape)), ())).bind fun y1 =>
        if (!y1.1) = true then
          cs.1 (false, ())
        else
          next (x.1, x.2.1, (IntKind.i64.wrap (x.2.2.1 + (1 : Int))), ())
      else
        none
    else
      none
  else
    cs.2.1 ()
def f (n : Nat) (x : Tup [(.slice tGateShape), (.slice tGateShape)]) : Option (Tup [.bool]) :=
  if ((List.length x.1 : Int) != (List.length x.2.1 : Int)) = true then
    some (false, ())
  else
    runL (B4 n) ((fun z2 =>
        some (z2.1, ())), (fun z3 =>
        some (true, ())), ()) n (x.1, x.2.1, (0 : Int), ())
@[reducible] def sig (n : Nat) : Sig := ⟨[(.slice tGateShape), (.slice tGateShape)], [.bool], false, f n, none⟩
def T (n : Nat) : FuncId → Option Sig := fun g => if Nat.beq g 33 = true then some (laws_eqGateShape.sig n) else none
def TL (n : Nat) : Loops := fun j _ st k => if Nat.beq j 4 = true then (match dec st l4.inS [] with | some x => runL (B4 n) (contsOf k l4.outs) n x | none => none) else none
theorem d4 (n : Nat) : LoopDef Try.prog (T n) (TL n) Try.f13 4 :=
  ⟨l4, fun R => B4 n, n, fun R st k => by kernel_rfl, fun R next cs x => by kernel_rfl⟩
theorem con (n : Nat) : Con Try.prog 13 (sig n) :=
  con_print (hsw := rfl) (T := T n) (TL := TL n) (c := Try.f13.body.getD .skip) (js := [4]) hMixed (conT_cons (laws_eqGateShape.con n) conT_none) Try.func13 (by decide) (by kernel_rfl) (by kernel_rfl) (by decide) (LoopDef.cons (d4 n) LoopDef.nil) (fun x => by kernel_rfl)
end laws_eqGateShapeS
namespace laws_eqGateMend
def f (n : Nat) (x : Tup [tGateMend, tGateMend]) : Option (Tup [.bool]) :=
  if (!seq x.1.1 x.2.1.1) = true then
    some (false, ())
  else if (!seq x.1.2.1 x.2.1.2.1) = true then
    some (false, ())
  else if (!seq x.1.2.2.1 x.2.1.2.2.1) = true then
    some (false, ())
  else if (!seq x.1.2.2.2.1 x.2.1.2.2.2.1) = true then
    some (false, ())
  else if (!seq x.1.2.2.2.2.1 x.2.1.2.2.2.2.1) = true then
    some (false, ())
  else if (!seq x.1.2.2.2.2.2.1 x.2.1.2.2.2.2.2.1) = true then
    some (false, ())
  else
    some (true, ())
@[reducible] def sig (n : Nat) : Sig := ⟨[tGateMend, tGateMend], [.bool], false, f n, none⟩
def T (n : Nat) : FuncId → Option Sig := fun g => none
def TL (n : Nat) : Loops := fun j _ st k => none
theorem con (n : Nat) : Con Try.prog 34 (sig n) :=
  con_print (hsw := rfl) (T := T n) (TL := TL n) (c := Try.f34.body.getD .skip) (js := []) hMixed conT_none Try.func34 (by decide) (by kernel_rfl) (by kernel_rfl) (by decide) LoopDef.nil (fun x => by kernel_rfl)
end laws_eqGateMend
namespace laws_eqGateMendS
@[reducible] def l4 : LSpec := ⟨[(0, .d (.slice tGateMend)), (1, .d (.slice tGateMend)), (5, .d (.int .i64))], [(.ret, [(4, .d .bool)]), (.exit 0, [])]⟩
def B4 (n : Nat) {R : Type} (next : Sden l4.inS → Option R) (cs : Conts R l4.outs) (x : Sden l4.inS) : Option R :=
  if (decide (x.2.2.1 < (List.length x.1 : Int))) = true then
    if (!true || (decide (0 ≤ x.2.2.1 ∧ x.2.2.1 < (List.length x.1 : Int)))) = true then
      if (!true || (decide (0 ≤ x.2.2.1 ∧ x.2.2.1 < (List.length x.2.1 : Int)))) = true then
        (laws_eqGateMend.f n ((List.getD x.1 (Int.toNat x.2.2.1) (Ty.zero tGateMend)), (List.getD x.2.1 (Int.toNat x.2.2.1) (Ty.zero tGateMend)), ())).bind fun y1 =>
        if (!y1.1) = true then
          cs.1 (false, ())
        else
          next (x.1, x.2.1, (IntKind.i64.wrap (x.2.2.1 + (1 : Int))), ())
      else
        none
    else
      none
  else
    cs.2.1 ()
def f (n : Nat) (x : Tup [(.slice tGateMend), (.slice tGateMend)]) : Option (Tup [.bool]) :=
  if ((List.length x.1 : Int) != (List.length x.2.1 : Int)) = true then
    some (false, ())
  else
    runL (B4 n) ((fun z2 =>
        some (z2.1, ())), (fun z3 =>
        some (true, ())), ()) n (x.1, x.2.1, (0 : Int), ())
@[reducible] def sig (n : Nat) : Sig := ⟨[(.slice tGateMend), (.slice tGateMend)], [.bool], false, f n, none⟩
def T (n : Nat) : FuncId → Option Sig := fun g => if Nat.beq g 34 = true then some (laws_eqGateMend.sig n) else none
def TL (n : Nat) : Loops := fun j _ st k => if Nat.beq j 4 = true then (match dec st l4.inS [] with | some x => runL (B4 n) (contsOf k l4.outs) n x | none => none) else none
theorem d4 (n : Nat) : LoopDef Try.prog (T n) (TL n) Try.f14 4 :=
  ⟨l4, fun R => B4 n, n, fun R st k => by kernel_rfl, fun R next cs x => by kernel_rfl⟩
theorem con (n : Nat) : Con Try.prog 14 (sig n) :=
  con_print (hsw := rfl) (T := T n) (TL := TL n) (c := Try.f14.body.getD .skip) (js := [4]) hMixed (conT_cons (laws_eqGateMend.con n) conT_none) Try.func14 (by decide) (by kernel_rfl) (by kernel_rfl) (by decide) (LoopDef.cons (d4 n) LoopDef.nil) (fun x => by kernel_rfl)
end laws_eqGateMendS
namespace laws_markText
@[reducible] def l4 : LSpec := ⟨[(0, .d (.int .i64)), (3, .d .str)], [(.exit 0, [(3, .d .str)])]⟩
def B4 (n : Nat) {R : Type} (next : Sden l4.inS → Option R) (cs : Conts R l4.outs) (x : Sden l4.inS) : Option R :=
  if (decide (x.1 > (0 : Int))) = true then
    if ((10 : Int) != 0) = true then
      if (decide ((ByteArray.size (ofBytes [(IntKind.u8.wrap (IntKind.i64.wrap ((48 : Int) + (Int.tmod x.1 (10 : Int)))))]) : Int) + (ByteArray.size x.2.1 : Int) ≤ 9223372036854775807)) = true then
        if ((10 : Int) != 0) = true then
          next ((IntKind.i64.wrap (Int.tdiv x.1 (10 : Int))), (scat (ofBytes [(IntKind.u8.wrap (IntKind.i64.wrap ((48 : Int) + (Int.tmod x.1 (10 : Int)))))]) x.2.1), ())
        else
          none
      else
        none
    else
      none
  else
    cs.1 (x.2.1, ())
def f (n : Nat) (x : Tup [(.int .i64)]) : Option (Tup [.str]) :=
  if (decide (x.1 ≤ (0 : Int))) = true then
    some ((⟨#[109, 48]⟩ : ByteArray), ())
  else
    runL (B4 n) ((fun z1 =>
        if (decide ((ByteArray.size (⟨#[109]⟩ : ByteArray) : Int) + (ByteArray.size z1.1 : Int) ≤ 9223372036854775807)) = true then
          some ((scat (⟨#[109]⟩ : ByteArray) z1.1), ())
        else
          none), ()) n (x.1, (⟨#[]⟩ : ByteArray), ())
@[reducible] def sig (n : Nat) : Sig := ⟨[(.int .i64)], [.str], false, f n, none⟩
def T (n : Nat) : FuncId → Option Sig := fun g => none
def TL (n : Nat) : Loops := fun j _ st k => if Nat.beq j 4 = true then (match dec st l4.inS [] with | some x => runL (B4 n) (contsOf k l4.outs) n x | none => none) else none
theorem d4 (n : Nat) : LoopDef Try.prog (T n) (TL n) Try.f35 4 :=
  ⟨l4, fun R => B4 n, n, fun R st k => by kernel_rfl, fun R next cs x => by kernel_rfl⟩
theorem con (n : Nat) : Con Try.prog 35 (sig n) :=
  con_print (hsw := rfl) (T := T n) (TL := TL n) (c := Try.f35.body.getD .skip) (js := [4]) hMixed conT_none Try.func35 (by decide) (by kernel_rfl) (by kernel_rfl) (by decide) (LoopDef.cons (d4 n) LoopDef.nil) (fun x => by kernel_rfl)
end laws_markText
namespace laws_markStringS
@[reducible] def l2 : LSpec := ⟨[(0, .row true .str), (1, .d (.int .i64)), (5, .d (.int .i64))], [(.exit 0, [(0, .row true .str), (1, .d (.int .i64))])]⟩
def B2 (n : Nat) {R : Type} (next : Sden l2.inS → Option R) (cs : Conts R l2.outs) (x : Sden l2.inS) : Option R :=
  if (decide (x.2.2.1 < (List.length x.1 : Int))) = true then
    (laws_markText.f n (x.2.1, ())).bind fun y1 =>
    if (decide (0 ≤ x.2.2.1 ∧ x.2.2.1 < (List.length x.1 : Int))) = true then
      next ((List.set x.1 (Int.toNat x.2.2.1) y1.1), (IntKind.i64.wrap (x.2.1 + (1 : Int))), (IntKind.i64.wrap (x.2.2.1 + (1 : Int))), ())
    else
      none
  else
    cs.1 (x.1, x.2.1, ())
def f (n : Nat) (x : Ty.den (.slice .str)) (q : Tup [(.int .i64)]) : Option (Ty.den (.slice .str) × Tup [(.int .i64)]) :=
  runL (B2 n) ((fun z2 =>
      some (z2.1, z2.2.1, ())), ()) n (x, q.1, (0 : Int), ())
@[reducible] def sig (n : Nat) : Sig := ⟨[], [], false, fun _ => none, some ⟨(.slice .str), [(.int .i64)], [(.int .i64)], f n, none, none⟩⟩
def T (n : Nat) : FuncId → Option Sig := fun g => if Nat.beq g 35 = true then some (laws_markText.sig n) else none
def TL (n : Nat) : Loops := fun j _ st k => if Nat.beq j 2 = true then (match dec st l2.inS [] with | some x => runL (B2 n) (contsOf k l2.outs) n x | none => none) else none
theorem d2 (n : Nat) : LoopDefL Try.prog (T n) (TL n) Try.f37 1 2 :=
  ⟨l2, fun R => B2 n, n, fun R st k => by kernel_rfl, fun R next cs x => by kernel_rfl⟩
theorem con (n : Nat) : Con Try.prog 37 (sig n) :=
  con_printW (hv := rfl) (hl0 := rfl) (T := T n) (TL := TL n) (c := Try.f37.body.getD .skip) (js := [2]) hMixed (conT_cons (laws_markText.con n) conT_none) Try.func37 (by decide) (by kernel_rfl) (by kernel_rfl) (by decide) (LoopDef.cons (d2 n) LoopDef.nil) (fun x q => by kernel_rfl)
end laws_markStringS
namespace laws_markGateFieldS
@[reducible] def l2 : LSpec := ⟨[(0, .row true tGateField), (1, .d (.int .i64)), (5, .d (.int .i64))], [(.exit 0, [(0, .row true tGateField), (1, .d (.int .i64))])]⟩
def B2 (n : Nat) {R : Type} (next : Sden l2.inS → Option R) (cs : Conts R l2.outs) (x : Sden l2.inS) : Option R :=
  if (decide (x.2.2.1 < (List.length x.1 : Int))) = true then
    (laws_markText.f n (x.2.1, ())).bind fun y1 =>
    if (decide (0 ≤ x.2.2.1 ∧ x.2.2.1 < (List.length x.1 : Int))) = true then
      if (decide (0 ≤ x.2.2.1 ∧ x.2.2.1 < (List.length (List.set x.1 (Int.toNat x.2.2.1) (y1.1, (List.getD x.1 (Int.toNat x.2.2.1) (Ty.zero tGateField)).2)) : Int))) = true then
        ((some (List.set (List.set x.1 (Int.toNat x.2.2.1) (y1.1, (List.getD x.1 (Int.toNat x.2.2.1) (Ty.zero tGateField)).2)) (Int.toNat x.2.2.1) ((List.getD (List.set x.1 (Int.toNat x.2.2.1) (y1.1, (List.getD x.1 (Int.toNat x.2.2.1) (Ty.zero tGateField)).2)) (Int.toNat x.2.2.1) (Ty.zero tGateField)).1, (IntKind.i64.wrap (x.2.1 + (1 : Int))), (List.getD (List.set x.1 (Int.toNat x.2.2.1) (y1.1, (List.getD x.1 (Int.toNat x.2.2.1) (Ty.zero tGateField)).2)) (Int.toNat x.2.2.1) (Ty.zero tGateField)).2.2)) : Option (List (Ty.den tGateField)))).bind fun w2 =>
        if (decide (0 ≤ x.2.2.1 ∧ x.2.2.1 < (List.length w2 : Int))) = true then
          ((some (List.set w2 (Int.toNat x.2.2.1) ((List.getD w2 (Int.toNat x.2.2.1) (Ty.zero tGateField)).1, (List.getD w2 (Int.toNat x.2.2.1) (Ty.zero tGateField)).2.1, (IntKind.i64.wrap ((IntKind.i64.wrap (x.2.1 + (1 : Int))) + (1 : Int))), (List.getD w2 (Int.toNat x.2.2.1) (Ty.zero tGateField)).2.2.2)) : Option (List (Ty.den tGateField)))).bind fun w3 =>
          if (decide (0 ≤ x.2.2.1 ∧ x.2.2.1 < (List.length w3 : Int))) = true then
            ((some (List.set w3 (Int.toNat x.2.2.1) ((List.getD w3 (Int.toNat x.2.2.1) (Ty.zero tGateField)).1, (List.getD w3 (Int.toNat x.2.2.1) (Ty.zero tGateField)).2.1, (List.getD w3 (Int.toNat x.2.2.1) (Ty.zero tGateField)).2.2.1, (IntKind.i64.wrap ((IntKind.i64.wrap ((IntKind.i64.wrap (x.2.1 + (1 : Int))) + (1 : Int))) + (1 : Int))), (List.getD w3 (Int.toNat x.2.2.1) (Ty.zero tGateField)).2.2.2.2)) : Option (List (Ty.den tGateField)))).bind fun w4 =>
            if (decide (0 ≤ x.2.2.1 ∧ x.2.2.1 < (List.length w4 : Int))) = true then
              (laws_markStringS.f n (List.getD w4 (Int.toNat x.2.2.1) (Ty.zero tGateField)).2.2.2.2.1 ((IntKind.i64.wrap ((IntKind.i64.wrap ((IntKind.i64.wrap ((IntKind.i64.wrap (x.2.1 + (1 : Int))) + (1 : Int))) + (1 : Int))) + (1 : Int))), ())).bind fun y5 =>
              ((some (List.set w4 (Int.toNat x.2.2.1) ((List.getD w4 (Int.toNat x.2.2.1) (Ty.zero tGateField)).1, (List.getD w4 (Int.toNat x.2.2.1) (Ty.zero tGateField)).2.1, (List.getD w4 (Int.toNat x.2.2.1) (Ty.zero tGateField)).2.2.1, (List.getD w4 (Int.toNat x.2.2.1) (Ty.zero tGateField)).2.2.2.1, y5.1, (List.getD w4 (Int.toNat x.2.2.1) (Ty.zero tGateField)).2.2.2.2.2)) : Option (List (Ty.den tGateField)))).bind fun w6 =>
              (laws_markText.f n (y5.2.1, ())).bind fun y7 =>
              if (decide (0 ≤ x.2.2.1 ∧ x.2.2.1 < (List.length w6 : Int))) = true then
                ((some (List.set w6 (Int.toNat x.2.2.1) ((List.getD w6 (Int.toNat x.2.2.1) (Ty.zero tGateField)).1, (List.getD w6 (Int.toNat x.2.2.1) (Ty.zero tGateField)).2.1, (List.getD w6 (Int.toNat x.2.2.1) (Ty.zero tGateField)).2.2.1, (List.getD w6 (Int.toNat x.2.2.1) (Ty.zero tGateField)).2.2.2.1, (List.getD w6 (Int.toNat x.2.2.1) (Ty.zero tGateField)).2.2.2.2.1, y7.1, (List.getD w6 (Int.toNat x.2.2.1) (Ty.zero tGateField)).2.2.2.2.2.2)) : Option (List (Ty.den tGateField)))).bind fun w8 =>
                if (decide (0 ≤ x.2.2.1 ∧ x.2.2.1 < (List.length w8 : Int))) = true then
                  ((some (List.set w8 (Int.toNat x.2.2.1) ((List.getD w8 (Int.toNat x.2.2.1) (Ty.zero tGateField)).1, (List.getD w8 (Int.toNat x.2.2.1) (Ty.zero tGateField)).2.1, (List.getD w8 (Int.toNat x.2.2.1) (Ty.zero tGateField)).2.2.1, (List.getD w8 (Int.toNat x.2.2.1) (Ty.zero tGateField)).2.2.2.1, (List.getD w8 (Int.toNat x.2.2.1) (Ty.zero tGateField)).2.2.2.2.1, (List.getD w8 (Int.toNat x.2.2.1) (Ty.zero tGateField)).2.2.2.2.2.1, (IntKind.i64.wrap (y5.2.1 + (1 : Int))), (List.getD w8 (Int.toNat x.2.2.1) (Ty.zero tGateField)).2.2.2.2.2.2.2)) : Option (List (Ty.den tGateField)))).bind fun w9 =>
                  if ((3 : Int) != 0) = true then
                    if (decide (0 ≤ x.2.2.1 ∧ x.2.2.1 < (List.length w9 : Int))) = true then
                      ((some (List.set w9 (Int.toNat x.2.2.1) ((List.getD w9 (Int.toNat x.2.2.1) (Ty.zero tGateField)).1, (List.getD w9 (Int.toNat x.2.2.1) (Ty.zero tGateField)).2.1, (List.getD w9 (Int.toNat x.2.2.1) (Ty.zero tGateField)).2.2.1, (List.getD w9 (Int.toNat x.2.2.1) (Ty.zero tGateField)).2.2.2.1, (List.getD w9 (Int.toNat x.2.2.1) (Ty.zero tGateField)).2.2.2.2.1, (List.getD w9 (Int.toNat x.2.2.1) (Ty.zero tGateField)).2.2.2.2.2.1, (List.getD w9 (Int.toNat x.2.2.1) (Ty.zero tGateField)).2.2.2.2.2.2.1, ((Int.tmod (IntKind.i64.wrap ((IntKind.i64.wrap (y5.2.1 + (1 : Int))) + (1 : Int))) (3 : Int)) == (0 : Int)), (List.getD w9 (Int.toNat x.2.2.1) (Ty.zero tGateField)).2.2.2.2.2.2.2.2)) : Option (List (Ty.den tGateField)))).bind fun w10 =>
                      if ((3 : Int) != 0) = true then
                        if (decide (0 ≤ x.2.2.1 ∧ x.2.2.1 < (List.length w10 : Int))) = true then
                          ((some (List.set w10 (Int.toNat x.2.2.1) ((List.getD w10 (Int.toNat x.2.2.1) (Ty.zero tGateField)).1, (List.getD w10 (Int.toNat x.2.2.1) (Ty.zero tGateField)).2.1, (List.getD w10 (Int.toNat x.2.2.1) (Ty.zero tGateField)).2.2.1, (List.getD w10 (Int.toNat x.2.2.1) (Ty.zero tGateField)).2.2.2.1, (List.getD w10 (Int.toNat x.2.2.1) (Ty.zero tGateField)).2.2.2.2.1, (List.getD w10 (Int.toNat x.2.2.1) (Ty.zero tGateField)).2.2.2.2.2.1, (List.getD w10 (Int.toNat x.2.2.1) (Ty.zero tGateField)).2.2.2.2.2.2.1, (List.getD w10 (Int.toNat x.2.2.1) (Ty.zero tGateField)).2.2.2.2.2.2.2.1, ((Int.tmod (IntKind.i64.wrap ((IntKind.i64.wrap ((IntKind.i64.wrap (y5.2.1 + (1 : Int))) + (1 : Int))) + (1 : Int))) (3 : Int)) == (0 : Int)), (List.getD w10 (Int.toNat x.2.2.1) (Ty.zero tGateField)).2.2.2.2.2.2.2.2.2)) : Option (List (Ty.den tGateField)))).bind fun w11 =>
                          (laws_markText.f n ((IntKind.i64.wrap ((IntKind.i64.wrap ((IntKind.i64.wrap ((IntKind.i64.wrap (y5.2.1 + (1 : Int))) + (1 : Int))) + (1 : Int))) + (1 : Int))), ())).bind fun y12 =>
                          if (decide (0 ≤ x.2.2.1 ∧ x.2.2.1 < (List.length w11 : Int))) = true then
                            ((some (List.set w11 (Int.toNat x.2.2.1) ((List.getD w11 (Int.toNat x.2.2.1) (Ty.zero tGateField)).1, (List.getD w11 (Int.toNat x.2.2.1) (Ty.zero tGateField)).2.1, (List.getD w11 (Int.toNat x.2.2.1) (Ty.zero tGateField)).2.2.1, (List.getD w11 (Int.toNat x.2.2.1) (Ty.zero tGateField)).2.2.2.1, (List.getD w11 (Int.toNat x.2.2.1) (Ty.zero tGateField)).2.2.2.2.1, (List.getD w11 (Int.toNat x.2.2.1) (Ty.zero tGateField)).2.2.2.2.2.1, (List.getD w11 (Int.toNat x.2.2.1) (Ty.zero tGateField)).2.2.2.2.2.2.1, (List.getD w11 (Int.toNat x.2.2.1) (Ty.zero tGateField)).2.2.2.2.2.2.2.1, (List.getD w11 (Int.toNat x.2.2.1) (Ty.zero tGateField)).2.2.2.2.2.2.2.2.1, y12.1, (List.getD w11 (Int.toNat x.2.2.1) (Ty.zero tGateField)).2.2.2.2.2.2.2.2.2.2)) : Option (List (Ty.den tGateField)))).bind fun w13 =>
                            (laws_markText.f n ((IntKind.i64.wrap ((IntKind.i64.wrap ((IntKind.i64.wrap ((IntKind.i64.wrap ((IntKind.i64.wrap (y5.2.1 + (1 : Int))) + (1 : Int))) + (1 : Int))) + (1 : Int))) + (1 : Int))), ())).bind fun y14 =>
                            if (decide (0 ≤ x.2.2.1 ∧ x.2.2.1 < (List.length w13 : Int))) = true then
                              ((some (List.set w13 (Int.toNat x.2.2.1) ((List.getD w13 (Int.toNat x.2.2.1) (Ty.zero tGateField)).1, (List.getD w13 (Int.toNat x.2.2.1) (Ty.zero tGateField)).2.1, (List.getD w13 (Int.toNat x.2.2.1) (Ty.zero tGateField)).2.2.1, (List.getD w13 (Int.toNat x.2.2.1) (Ty.zero tGateField)).2.2.2.1, (List.getD w13 (Int.toNat x.2.2.1) (Ty.zero tGateField)).2.2.2.2.1, (List.getD w13 (Int.toNat x.2.2.1) (Ty.zero tGateField)).2.2.2.2.2.1, (List.getD w13 (Int.toNat x.2.2.1) (Ty.zero tGateField)).2.2.2.2.2.2.1, (List.getD w13 (Int.toNat x.2.2.1) (Ty.zero tGateField)).2.2.2.2.2.2.2.1, (List.getD w13 (Int.toNat x.2.2.1) (Ty.zero tGateField)).2.2.2.2.2.2.2.2.1, (List.getD w13 (Int.toNat x.2.2.1) (Ty.zero tGateField)).2.2.2.2.2.2.2.2.2.1, y14.1, ())) : Option (List (Ty.den tGateField)))).bind fun w15 =>
                              next (w15, (IntKind.i64.wrap ((IntKind.i64.wrap ((IntKind.i64.wrap ((IntKind.i64.wrap ((IntKind.i64.wrap ((IntKind.i64.wrap (y5.2.1 + (1 : Int))) + (1 : Int))) + (1 : Int))) + (1 : Int))) + (1 : Int))) + (1 : Int))), (IntKind.i64.wrap (x.2.2.1 + (1 : Int))), ())
                            else
                              none
                          else
                            none
                        else
                          none
                      else
                        none
                    else
                      none
                  else
                    none
                else
                  none
              else
                none
            else
              none
          else
            none
        else
          none
      else
        none
    else
      none
  else
    cs.1 (x.1, x.2.1, ())
def f (n : Nat) (x : Ty.den (.slice tGateField)) (q : Tup [(.int .i64)]) : Option (Ty.den (.slice tGateField) × Tup [(.int .i64)]) :=
  runL (B2 n) ((fun z16 =>
      some (z16.1, z16.2.1, ())), ()) n (x, q.1, (0 : Int), ())
@[reducible] def sig (n : Nat) : Sig := ⟨[], [], false, fun _ => none, some ⟨(.slice tGateField), [(.int .i64)], [(.int .i64)], f n, none, none⟩⟩
def T (n : Nat) : FuncId → Option Sig := fun g => if Nat.beq g 35 = true then some (laws_markText.sig n) else if Nat.beq g 37 = true then some (laws_markStringS.sig n) else none
def TL (n : Nat) : Loops := fun j _ st k => if Nat.beq j 2 = true then (match dec st l2.inS [] with | some x => runL (B2 n) (contsOf k l2.outs) n x | none => none) else none
theorem d2 (n : Nat) : LoopDefL Try.prog (T n) (TL n) Try.f36 1 2 :=
  ⟨l2, fun R => B2 n, n, fun R st k => by kernel_rfl, fun R next cs x => by kernel_rfl⟩
theorem con (n : Nat) : Con Try.prog 36 (sig n) :=
  con_printW (hv := rfl) (hl0 := rfl) (T := T n) (TL := TL n) (c := Try.f36.body.getD .skip) (js := [2]) hMixed (conT_cons (laws_markText.con n) (conT_cons (laws_markStringS.con n) conT_none)) Try.func36 (by decide) (by kernel_rfl) (by kernel_rfl) (by decide) (LoopDef.cons (d2 n) LoopDef.nil) (fun x q => by kernel_rfl)
end laws_markGateFieldS
namespace laws_markGateShapeS
@[reducible] def l2 : LSpec := ⟨[(0, .row true tGateShape), (1, .d (.int .i64)), (5, .d (.int .i64))], [(.exit 0, [(0, .row true tGateShape), (1, .d (.int .i64))])]⟩
def B2 (n : Nat) {R : Type} (next : Sden l2.inS → Option R) (cs : Conts R l2.outs) (x : Sden l2.inS) : Option R :=
  if (decide (x.2.2.1 < (List.length x.1 : Int))) = true then
    (laws_markText.f n (x.2.1, ())).bind fun y1 =>
    if (decide (0 ≤ x.2.2.1 ∧ x.2.2.1 < (List.length x.1 : Int))) = true then
      if (decide (0 ≤ x.2.2.1 ∧ x.2.2.1 < (List.length (List.set x.1 (Int.toNat x.2.2.1) (y1.1, (List.getD x.1 (Int.toNat x.2.2.1) (Ty.zero tGateShape)).2)) : Int))) = true then
        (laws_markGateFieldS.f n (List.getD (List.set x.1 (Int.toNat x.2.2.1) (y1.1, (List.getD x.1 (Int.toNat x.2.2.1) (Ty.zero tGateShape)).2)) (Int.toNat x.2.2.1) (Ty.zero tGateShape)).2.1 ((IntKind.i64.wrap (x.2.1 + (1 : Int))), ())).bind fun y2 =>
        ((some (List.set (List.set x.1 (Int.toNat x.2.2.1) (y1.1, (List.getD x.1 (Int.toNat x.2.2.1) (Ty.zero tGateShape)).2)) (Int.toNat x.2.2.1) ((List.getD (List.set x.1 (Int.toNat x.2.2.1) (y1.1, (List.getD x.1 (Int.toNat x.2.2.1) (Ty.zero tGateShape)).2)) (Int.toNat x.2.2.1) (Ty.zero tGateShape)).1, y2.1, (List.getD (List.set x.1 (Int.toNat x.2.2.1) (y1.1, (List.getD x.1 (Int.toNat x.2.2.1) (Ty.zero tGateShape)).2)) (Int.toNat x.2.2.1) (Ty.zero tGateShape)).2.2)) : Option (List (Ty.den tGateShape)))).bind fun w3 =>
        next (w3, y2.2.1, (IntKind.i64.wrap (x.2.2.1 + (1 : Int))), ())
      else
        none
    else
      none
  else
    cs.1 (x.1, x.2.1, ())
def f (n : Nat) (x : Ty.den (.slice tGateShape)) (q : Tup [(.int .i64)]) : Option (Ty.den (.slice tGateShape) × Tup [(.int .i64)]) :=
  runL (B2 n) ((fun z4 =>
      some (z4.1, z4.2.1, ())), ()) n (x, q.1, (0 : Int), ())
@[reducible] def sig (n : Nat) : Sig := ⟨[], [], false, fun _ => none, some ⟨(.slice tGateShape), [(.int .i64)], [(.int .i64)], f n, none, none⟩⟩
def T (n : Nat) : FuncId → Option Sig := fun g => if Nat.beq g 35 = true then some (laws_markText.sig n) else if Nat.beq g 36 = true then some (laws_markGateFieldS.sig n) else none
def TL (n : Nat) : Loops := fun j _ st k => if Nat.beq j 2 = true then (match dec st l2.inS [] with | some x => runL (B2 n) (contsOf k l2.outs) n x | none => none) else none
theorem d2 (n : Nat) : LoopDefL Try.prog (T n) (TL n) Try.f15 1 2 :=
  ⟨l2, fun R => B2 n, n, fun R st k => by kernel_rfl, fun R next cs x => by kernel_rfl⟩
theorem con (n : Nat) : Con Try.prog 15 (sig n) :=
  con_printW (hv := rfl) (hl0 := rfl) (T := T n) (TL := TL n) (c := Try.f15.body.getD .skip) (js := [2]) hMixed (conT_cons (laws_markText.con n) (conT_cons (laws_markGateFieldS.con n) conT_none)) Try.func15 (by decide) (by kernel_rfl) (by kernel_rfl) (by decide) (LoopDef.cons (d2 n) LoopDef.nil) (fun x q => by kernel_rfl)
end laws_markGateShapeS
namespace laws_markGateMendS
@[reducible] def l2 : LSpec := ⟨[(0, .row true tGateMend), (1, .d (.int .i64)), (5, .d (.int .i64))], [(.exit 0, [(0, .row true tGateMend), (1, .d (.int .i64))])]⟩
def B2 (n : Nat) {R : Type} (next : Sden l2.inS → Option R) (cs : Conts R l2.outs) (x : Sden l2.inS) : Option R :=
  if (decide (x.2.2.1 < (List.length x.1 : Int))) = true then
    (laws_markText.f n (x.2.1, ())).bind fun y1 =>
    if (decide (0 ≤ x.2.2.1 ∧ x.2.2.1 < (List.length x.1 : Int))) = true then
      (laws_markText.f n ((IntKind.i64.wrap (x.2.1 + (1 : Int))), ())).bind fun y2 =>
      if (decide (0 ≤ x.2.2.1 ∧ x.2.2.1 < (List.length (List.set x.1 (Int.toNat x.2.2.1) (y1.1, (List.getD x.1 (Int.toNat x.2.2.1) (Ty.zero tGateMend)).2)) : Int))) = true then
        ((some (List.set (List.set x.1 (Int.toNat x.2.2.1) (y1.1, (List.getD x.1 (Int.toNat x.2.2.1) (Ty.zero tGateMend)).2)) (Int.toNat x.2.2.1) ((List.getD (List.set x.1 (Int.toNat x.2.2.1) (y1.1, (List.getD x.1 (Int.toNat x.2.2.1) (Ty.zero tGateMend)).2)) (Int.toNat x.2.2.1) (Ty.zero tGateMend)).1, y2.1, (List.getD (List.set x.1 (Int.toNat x.2.2.1) (y1.1, (List.getD x.1 (Int.toNat x.2.2.1) (Ty.zero tGateMend)).2)) (Int.toNat x.2.2.1) (Ty.zero tGateMend)).2.2)) : Option (List (Ty.den tGateMend)))).bind fun w3 =>
        (laws_markText.f n ((IntKind.i64.wrap ((IntKind.i64.wrap (x.2.1 + (1 : Int))) + (1 : Int))), ())).bind fun y4 =>
        if (decide (0 ≤ x.2.2.1 ∧ x.2.2.1 < (List.length w3 : Int))) = true then
          ((some (List.set w3 (Int.toNat x.2.2.1) ((List.getD w3 (Int.toNat x.2.2.1) (Ty.zero tGateMend)).1, (List.getD w3 (Int.toNat x.2.2.1) (Ty.zero tGateMend)).2.1, y4.1, (List.getD w3 (Int.toNat x.2.2.1) (Ty.zero tGateMend)).2.2.2)) : Option (List (Ty.den tGateMend)))).bind fun w5 =>
          (laws_markText.f n ((IntKind.i64.wrap ((IntKind.i64.wrap ((IntKind.i64.wrap (x.2.1 + (1 : Int))) + (1 : Int))) + (1 : Int))), ())).bind fun y6 =>
          if (decide (0 ≤ x.2.2.1 ∧ x.2.2.1 < (List.length w5 : Int))) = true then
            ((some (List.set w5 (Int.toNat x.2.2.1) ((List.getD w5 (Int.toNat x.2.2.1) (Ty.zero tGateMend)).1, (List.getD w5 (Int.toNat x.2.2.1) (Ty.zero tGateMend)).2.1, (List.getD w5 (Int.toNat x.2.2.1) (Ty.zero tGateMend)).2.2.1, y6.1, (List.getD w5 (Int.toNat x.2.2.1) (Ty.zero tGateMend)).2.2.2.2)) : Option (List (Ty.den tGateMend)))).bind fun w7 =>
            (laws_markText.f n ((IntKind.i64.wrap ((IntKind.i64.wrap ((IntKind.i64.wrap ((IntKind.i64.wrap (x.2.1 + (1 : Int))) + (1 : Int))) + (1 : Int))) + (1 : Int))), ())).bind fun y8 =>
            if (decide (0 ≤ x.2.2.1 ∧ x.2.2.1 < (List.length w7 : Int))) = true then
              ((some (List.set w7 (Int.toNat x.2.2.1) ((List.getD w7 (Int.toNat x.2.2.1) (Ty.zero tGateMend)).1, (List.getD w7 (Int.toNat x.2.2.1) (Ty.zero tGateMend)).2.1, (List.getD w7 (Int.toNat x.2.2.1) (Ty.zero tGateMend)).2.2.1, (List.getD w7 (Int.toNat x.2.2.1) (Ty.zero tGateMend)).2.2.2.1, y8.1, (List.getD w7 (Int.toNat x.2.2.1) (Ty.zero tGateMend)).2.2.2.2.2)) : Option (List (Ty.den tGateMend)))).bind fun w9 =>
              (laws_markText.f n ((IntKind.i64.wrap ((IntKind.i64.wrap ((IntKind.i64.wrap ((IntKind.i64.wrap ((IntKind.i64.wrap (x.2.1 + (1 : Int))) + (1 : Int))) + (1 : Int))) + (1 : Int))) + (1 : Int))), ())).bind fun y10 =>
              if (decide (0 ≤ x.2.2.1 ∧ x.2.2.1 < (List.length w9 : Int))) = true then
                ((some (List.set w9 (Int.toNat x.2.2.1) ((List.getD w9 (Int.toNat x.2.2.1) (Ty.zero tGateMend)).1, (List.getD w9 (Int.toNat x.2.2.1) (Ty.zero tGateMend)).2.1, (List.getD w9 (Int.toNat x.2.2.1) (Ty.zero tGateMend)).2.2.1, (List.getD w9 (Int.toNat x.2.2.1) (Ty.zero tGateMend)).2.2.2.1, (List.getD w9 (Int.toNat x.2.2.1) (Ty.zero tGateMend)).2.2.2.2.1, y10.1, ())) : Option (List (Ty.den tGateMend)))).bind fun w11 =>
                next (w11, (IntKind.i64.wrap ((IntKind.i64.wrap ((IntKind.i64.wrap ((IntKind.i64.wrap ((IntKind.i64.wrap ((IntKind.i64.wrap (x.2.1 + (1 : Int))) + (1 : Int))) + (1 : Int))) + (1 : Int))) + (1 : Int))) + (1 : Int))), (IntKind.i64.wrap (x.2.2.1 + (1 : Int))), ())
              else
                none
            else
              none
          else
            none
        else
          none
      else
        none
    else
      none
  else
    cs.1 (x.1, x.2.1, ())
def f (n : Nat) (x : Ty.den (.slice tGateMend)) (q : Tup [(.int .i64)]) : Option (Ty.den (.slice tGateMend) × Tup [(.int .i64)]) :=
  runL (B2 n) ((fun z12 =>
      some (z12.1, z12.2.1, ())), ()) n (x, q.1, (0 : Int), ())
@[reducible] def sig (n : Nat) : Sig := ⟨[], [], false, fun _ => none, some ⟨(.slice tGateMend), [(.int .i64)], [(.int .i64)], f n, none, none⟩⟩
def T (n : Nat) : FuncId → Option Sig := fun g => if Nat.beq g 35 = true then some (laws_markText.sig n) else none
def TL (n : Nat) : Loops := fun j _ st k => if Nat.beq j 2 = true then (match dec st l2.inS [] with | some x => runL (B2 n) (contsOf k l2.outs) n x | none => none) else none
theorem d2 (n : Nat) : LoopDefL Try.prog (T n) (TL n) Try.f16 1 2 :=
  ⟨l2, fun R => B2 n, n, fun R st k => by kernel_rfl, fun R next cs x => by kernel_rfl⟩
theorem con (n : Nat) : Con Try.prog 16 (sig n) :=
  con_printW (hv := rfl) (hl0 := rfl) (T := T n) (TL := TL n) (c := Try.f16.body.getD .skip) (js := [2]) hMixed (conT_cons (laws_markText.con n) conT_none) Try.func16 (by decide) (by kernel_rfl) (by kernel_rfl) (by decide) (LoopDef.cons (d2 n) LoopDef.nil) (fun x q => by kernel_rfl)
end laws_markGateMendS
namespace laws_markGateObject
def f (n : Nat) (x : Ty.den tGateObject) (q : Tup [(.int .i64)]) : Option (Ty.den tGateObject × Tup [(.int .i64)]) :=
  (laws_markStringS.f n x.2.2.2.1 (q.1, ())).bind fun y1 =>
  (laws_markStringS.f n x.2.2.2.2.2.1 (y1.2.1, ())).bind fun y2 =>
  some ((x.1, x.2.1, x.2.2.1, y1.1, x.2.2.2.2.1, y2.1, x.2.2.2.2.2.2), y2.2.1, ())
@[reducible] def sig (n : Nat) : Sig := ⟨[], [], false, fun _ => none, some ⟨tGateObject, [(.int .i64)], [(.int .i64)], f n, none, none⟩⟩
def T (n : Nat) : FuncId → Option Sig := fun g => if Nat.beq g 37 = true then some (laws_markStringS.sig n) else none
def TL (n : Nat) : Loops := fun j _ st k => none
theorem con (n : Nat) : Con Try.prog 17 (sig n) :=
  con_printW (hv := rfl) (hl0 := rfl) (T := T n) (TL := TL n) (c := Try.f17.body.getD .skip) (js := []) hMixed (conT_cons (laws_markStringS.con n) conT_none) Try.func17 (by decide) (by kernel_rfl) (by kernel_rfl) (by decide) LoopDef.nil (fun x q => by kernel_rfl)
end laws_markGateObject
namespace laws_heldStringS
@[reducible] def l2 : LSpec := ⟨[(0, .d (.slice .str)), (1, .d (.int .i64)), (5, .d (.int .i64))], [(.ret, [(4, .d (.int .i64))]), (.exit 0, [(1, .d (.int .i64))])]⟩
def B2 (n : Nat) {R : Type} (next : Sden l2.inS → Option R) (cs : Conts R l2.outs) (x : Sden l2.inS) : Option R :=
  if (decide (x.2.2.1 < (List.length x.1 : Int))) = true then
    if (!true || (decide (0 ≤ x.2.2.1 ∧ x.2.2.1 < (List.length x.1 : Int)))) = true then
      (if true = true then (laws_markText.f n (x.2.1, ())) else some (tzero [.str])).bind fun y1 =>
      if (!seq (List.getD x.1 (Int.toNat x.2.2.1) (⟨#[]⟩ : ByteArray)) y1.1) = true then
        cs.1 ((-1 : Int), ())
      else
        next (x.1, (IntKind.i64.wrap (x.2.1 + (1 : Int))), (IntKind.i64.wrap (x.2.2.1 + (1 : Int))), ())
    else
      none
  else
    cs.2.1 (x.2.1, ())
def f (n : Nat) (x : Tup [(.slice .str), (.int .i64)]) : Option (Tup [(.int .i64)]) :=
  runL (B2 n) ((fun z2 =>
      some (z2.1, ())), (fun z3 =>
      some (z3.1, ())), ()) n (x.1, x.2.1, (0 : Int), ())
@[reducible] def sig (n : Nat) : Sig := ⟨[(.slice .str), (.int .i64)], [(.int .i64)], false, f n, none⟩
def T (n : Nat) : FuncId → Option Sig := fun g => if Nat.beq g 35 = true then some (laws_markText.sig n) else none
def TL (n : Nat) : Loops := fun j _ st k => if Nat.beq j 2 = true then (match dec st l2.inS [] with | some x => runL (B2 n) (contsOf k l2.outs) n x | none => none) else none
theorem d2 (n : Nat) : LoopDef Try.prog (T n) (TL n) Try.f38 2 :=
  ⟨l2, fun R => B2 n, n, fun R st k => by kernel_rfl, fun R next cs x => by kernel_rfl⟩
theorem con (n : Nat) : Con Try.prog 38 (sig n) :=
  con_print (hsw := rfl) (T := T n) (TL := TL n) (c := Try.f38.body.getD .skip) (js := [2]) hMixed (conT_cons (laws_markText.con n) conT_none) Try.func38 (by decide) (by kernel_rfl) (by kernel_rfl) (by decide) (LoopDef.cons (d2 n) LoopDef.nil) (fun x => by kernel_rfl)
end laws_heldStringS
namespace laws_heldGateObject
def f (n : Nat) (x : Tup [tGateObject, (.int .i64)]) : Option (Tup [(.int .i64)]) :=
  (laws_heldStringS.f n (x.1.2.2.2.1, x.2.1, ())).bind fun y1 =>
  if (decide (y1.1 < (0 : Int))) = true then
    some ((-1 : Int), ())
  else
    (laws_heldStringS.f n (x.1.2.2.2.2.2.1, y1.1, ())).bind fun y2 =>
    if (decide (y2.1 < (0 : Int))) = true then
      some ((-1 : Int), ())
    else
      some (y2.1, ())
@[reducible] def sig (n : Nat) : Sig := ⟨[tGateObject, (.int .i64)], [(.int .i64)], false, f n, none⟩
def T (n : Nat) : FuncId → Option Sig := fun g => if Nat.beq g 38 = true then some (laws_heldStringS.sig n) else none
def TL (n : Nat) : Loops := fun j _ st k => none
theorem con (n : Nat) : Con Try.prog 18 (sig n) :=
  con_print (hsw := rfl) (T := T n) (TL := TL n) (c := Try.f18.body.getD .skip) (js := []) hMixed (conT_cons (laws_heldStringS.con n) conT_none) Try.func18 (by decide) (by kernel_rfl) (by kernel_rfl) (by decide) LoopDef.nil (fun x => by kernel_rfl)
end laws_heldGateObject
namespace laws_FnExactGateShaped
def f (n : Nat) (x : Tup [(.slice tGateShape), (.slice tGateMend), tGateObject]) : Option (Tup [.bool]) :=
  (laws_szGateShapeS.f n (x.1, (1048576 : Int), ())).bind fun y1 =>
  if (decide (y1.1 < (0 : Int))) = true then
    some (true, ())
  else
    (laws_szGateMendS.f n (x.2.1, y1.1, ())).bind fun y2 =>
    if (decide (y2.1 < (0 : Int))) = true then
      some (true, ())
    else
      (laws_szGateObject.f n (x.2.2.1, y2.1, ())).bind fun y3 =>
      if (decide (y3.1 < (0 : Int))) = true then
        some (true, ())
      else
        (laws_toGateShapeS.f n (x.1, ())).bind fun y4 =>
        (laws_toGateMendS.f n (x.2.1, ())).bind fun y5 =>
        (laws_toGateObject.f n (x.2.2.1, ())).bind fun y6 =>
        (spec_GateShaped.f n (y4.1, y5.1, y6.1, ())).bind fun y7 =>
        (laws_toGateShapeS.f n (x.1, ())).bind fun y8 =>
        (laws_toGateMendS.f n (x.2.1, ())).bind fun y9 =>
        (laws_toGateObject.f n (x.2.2.1, ())).bind fun y10 =>
        (impl_GateShaped.f n (y8.1, y9.1, y10.1, ())).bind fun y11 =>
        (laws_eqGateObject.f n (y11.1, y7.1, ())).bind fun y12 =>
        if (!y12.1) = true then
          some (false, ())
        else
          (laws_toGateShapeS.f n (x.1, ())).bind fun y13 =>
          (laws_eqGateShapeS.f n (y8.1, y13.1, ())).bind fun y14 =>
          if (!y14.1) = true then
            some (false, ())
          else
            (laws_toGateMendS.f n (x.2.1, ())).bind fun y15 =>
            (laws_eqGateMendS.f n (y9.1, y15.1, ())).bind fun y16 =>
            if (!y16.1) = true then
              some (false, ())
            else
              (laws_toGateObject.f n (x.2.2.1, ())).bind fun y17 =>
              (laws_eqGateObject.f n (y10.1, y17.1, ())).bind fun y18 =>
              if (!y18.1) = true then
                some (false, ())
              else
                (laws_markGateShapeS.f n y8.1 ((1 : Int), ())).bind fun y19 =>
                (laws_markGateMendS.f n y9.1 (y19.2.1, ())).bind fun y20 =>
                (laws_markGateObject.f n y10.1 (y20.2.1, ())).bind fun y21 =>
                (if (!(decide (y21.2.1 < (0 : Int)))) = true then (laws_eqGateObject.f n (y11.1, y7.1, ())) else some (tzero [.bool])).bind fun y22 =>
                if ((decide (y21.2.1 < (0 : Int))) || (!y22.1)) = true then
                  some (false, ())
                else
                  (laws_markGateObject.f n y11.1 ((1 : Int), ())).bind fun y23 =>
                  (laws_heldGateObject.f n ((y11.1.1, y11.1.2.1, y11.1.2.2.1, y23.1.2.2.2.1, y11.1.2.2.2.2.1, y23.1.2.2.2.2.2.1, y11.1.2.2.2.2.2.2), (1 : Int), ())).bind fun y24 =>
                  if (decide (y24.1 < (0 : Int))) = true then
                    some (false, ())
                  else if (y24.1 != y23.2.1) = true then
                    some (false, ())
                  else
                    (laws_toGateShapeS.f n (x.1, ())).bind fun y25 =>
                    (laws_toGateMendS.f n (x.2.1, ())).bind fun y26 =>
                    (laws_toGateObject.f n (x.2.2.1, ())).bind fun y27 =>
                    (impl_GateShaped.f n (y25.1, y26.1, y27.1, ())).bind fun y28 =>
                    (laws_eqGateObject.f n (y28.1, y7.1, ())).bind fun y29 =>
                    if (!y29.1) = true then
                      some (false, ())
                    else
                      (laws_heldGateObject.f n ((y11.1.1, y11.1.2.1, y11.1.2.2.1, y23.1.2.2.2.1, y11.1.2.2.2.2.1, y23.1.2.2.2.2.2.1, y11.1.2.2.2.2.2.2), (1 : Int), ())).bind fun y30 =>
                      if (decide (y30.1 < (0 : Int))) = true then
                        some (false, ())
                      else if (y30.1 != y23.2.1) = true then
                        some (false, ())
                      else
                        some (true, ())
@[reducible] def sig (n : Nat) : Sig := ⟨[(.slice tGateShape), (.slice tGateMend), tGateObject], [.bool], false, f n, none⟩
def T (n : Nat) : FuncId → Option Sig := fun g => if Nat.beq g 4 = true then some (laws_szGateShapeS.sig n) else if Nat.beq g 5 = true then some (laws_szGateMendS.sig n) else if Nat.beq g 6 = true then some (laws_szGateObject.sig n) else if Nat.beq g 7 = true then some (spec_GateShaped.sig n) else if Nat.beq g 8 = true then some (laws_toGateShapeS.sig n) else if Nat.beq g 9 = true then some (laws_toGateMendS.sig n) else if Nat.beq g 10 = true then some (laws_toGateObject.sig n) else if Nat.beq g 11 = true then some (impl_GateShaped.sig n) else if Nat.beq g 12 = true then some (laws_eqGateObject.sig n) else if Nat.beq g 13 = true then some (laws_eqGateShapeS.sig n) else if Nat.beq g 14 = true then some (laws_eqGateMendS.sig n) else if Nat.beq g 15 = true then some (laws_markGateShapeS.sig n) else if Nat.beq g 16 = true then some (laws_markGateMendS.sig n) else if Nat.beq g 17 = true then some (laws_markGateObject.sig n) else if Nat.beq g 18 = true then some (laws_heldGateObject.sig n) else none
def TL (n : Nat) : Loops := fun j _ st k => none
theorem con (n : Nat) : Con Try.prog 3 (sig n) :=
  con_print (hsw := rfl) (T := T n) (TL := TL n) (c := Try.f3.body.getD .skip) (js := []) hMixed (conT_cons (laws_szGateShapeS.con n) (conT_cons (laws_szGateMendS.con n) (conT_cons (laws_szGateObject.con n) (conT_cons (spec_GateShaped.con n) (conT_cons (laws_toGateShapeS.con n) (conT_cons (laws_toGateMendS.con n) (conT_cons (laws_toGateObject.con n) (conT_cons (impl_GateShaped.con n) (conT_cons (laws_eqGateObject.con n) (conT_cons (laws_eqGateShapeS.con n) (conT_cons (laws_eqGateMendS.con n) (conT_cons (laws_markGateShapeS.con n) (conT_cons (laws_markGateMendS.con n) (conT_cons (laws_markGateObject.con n) (conT_cons (laws_heldGateObject.con n) conT_none))))))))))))))) Try.func3 (by decide) (by kernel_rfl) (by kernel_rfl) (by decide) LoopDef.nil (fun x => by kernel_rfl)
end laws_FnExactGateShaped
end Go.Proofs.Ytbbdkoopiejpiab
