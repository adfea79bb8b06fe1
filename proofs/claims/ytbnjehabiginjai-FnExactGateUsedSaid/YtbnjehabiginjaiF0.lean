import Derived.Test.YtbnjehabiginjaiProg
import Derived.Test.YtbnjehabiginjaiM2
set_option maxRecDepth 100000
set_option linter.unusedVariables false
namespace Go.Proofs.Ytbnjehabiginjai
open Go.Vm
abbrev tGateField : Ty := (.pair .str (.pair (.int .i64) (.pair (.int .i64) (.pair (.int .i64) (.pair (.slice .str) (.pair .str (.pair (.int .i64) (.pair .bool (.pair .bool (.pair .str (.pair .str .unit)))))))))))
abbrev tGateShape : Ty := (.pair .str (.pair (.slice tGateField) .unit))
abbrev tGateMend : Ty := (.pair .str (.pair .str (.pair .str (.pair .str (.pair .str (.pair .str .unit))))))
abbrev tGateTeam : Ty := (.pair .str (.pair .str .unit))
abbrev tGateLaw : Ty := (.pair (.slice tGateShape) (.pair (.slice tGateMend) (.pair (.slice tGateTeam) .unit)))
abbrev tGateObject : Ty := (.pair .str (.pair .str (.pair .str (.pair (.slice .str) (.pair .bool (.pair (.slice .str) (.pair (.int .i64) .unit)))))))
abbrev tGateRule : Ty := (.pair (.slice (.int .i64)) (.pair .str (.pair .str (.pair .str .unit))))
abbrev tGateGrant : Ty := (.pair (.int .i64) (.pair .str (.pair .str (.pair tGateRule .unit))))
abbrev tGateLedger : Ty := (.pair .str (.pair .str (.pair (.int .i64) (.pair (.int .i64) .unit))))
abbrev tGatePurse : Ty := (.pair .str (.pair .str (.pair .str (.pair (.int .i64) (.pair (.int .i64) .unit)))))
abbrev tGateBook : Ty := (.pair (.int .i64) (.pair (.int .i64) (.pair (.int .i64) (.pair (.slice tGateObject) (.pair (.slice tGateGrant) (.pair (.slice tGateLedger) (.pair (.slice tGatePurse) .unit)))))))
theorem hMixed : Try.prog.follows .mixedOrders = true := by kernel_rfl
namespace laws_szStringS
@[reducible] def l5 : LSpec := ⟨[(0, .d (.slice .str)), (1, .d (.int .i64)), (5, .d (.int .i64))], [(.ret, [(4, .d (.int .i64))]), (.exit 0, [(1, .d (.int .i64))])]⟩
def B5 (n : Nat) {R : Type} (next : Sden l5.inS → Option R) (cs : Conts R l5.outs) (x : Sden l5.inS) : Option R :=
  if (decide (x.2.2.1 < (List.length x.1 : Int))) = true then
    if (decide (0 ≤ x.2.2.1 ∧ x.2.2.1 < (List.length x.1 : Int))) = true then
      if (decide ((IntKind.i64.wrap (x.2.1 - (ByteArray.size (List.getD x.1 (Int.toNat x.2.2.1) (⟨#[]⟩ : ByteArray)) : Int))) < (0 : Int))) = true then
        cs.1 ((-1 : Int), ())
      else
        next (x.1, (IntKind.i64.wrap (x.2.1 - (ByteArray.size (List.getD x.1 (Int.toNat x.2.2.1) (⟨#[]⟩ : ByteArray)) : Int))), (IntKind.i64.wrap (x.2.2.1 + (1 : Int))), ())
    else
      none
  else
    cs.2.1 (x.2.1, ())
def f (n : Nat) (x : Tup [(.slice .str), (.int .i64)]) : Option (Tup [(.int .i64)]) :=
  if (decide ((IntKind.i64.wrap (x.2.1 - (List.length x.1 : Int))) < (0 : Int))) = true then
    some ((-1 : Int), ())
  else
    runL (B5 n) ((fun z1 =>
        some (z1.1, ())), (fun z2 =>
        some (z2.1, ())), ()) n (x.1, (IntKind.i64.wrap (x.2.1 - (List.length x.1 : Int))), (0 : Int), ())
@[reducible] def sig (n : Nat) : Sig := ⟨[(.slice .str), (.int .i64)], [(.int .i64)], false, f n⟩
def T (n : Nat) : FuncId → Option Sig := fun g => none
def TL (n : Nat) : Loops := fun j _ st k => if Nat.beq j 5 = true then (match dec st l5.inS [] with | some x => runL (B5 n) (contsOf k l5.outs) n x | none => none) else none
theorem d5 (n : Nat) : LoopDef Try.prog (T n) (TL n) Try.f65 5 :=
  ⟨l5, fun R => B5 n, n, fun R st k => by kernel_rfl, fun R next cs x => by kernel_rfl⟩
theorem con (n : Nat) : Con Try.prog 65 (sig n) :=
  con_print (T := T n) (TL := TL n) (c := Try.f65.body.getD .skip) (js := [5]) hMixed conT_none Try.func65 (by decide) (by kernel_rfl) (by kernel_rfl) (by decide) (LoopDef.cons (d5 n) LoopDef.nil) (fun x => by kernel_rfl)
end laws_szStringS
namespace laws_szGateField
def f (n : Nat) (x : Tup [tGateField, (.int .i64)]) : Option (Tup [(.int .i64)]) :=
  if (decide ((IntKind.i64.wrap (x.2.1 - (ByteArray.size x.1.1 : Int))) < (0 : Int))) = true then
    some ((-1 : Int), ())
  else
    (laws_szStringS.f n (x.1.2.2.2.2.1, (IntKind.i64.wrap (x.2.1 - (ByteArray.size x.1.1 : Int))), ())).bind fun y1 =>
    if (decide (y1.1 < (0 : Int))) = true then
      some ((-1 : Int), ())
    else if (decide ((IntKind.i64.wrap (y1.1 - (ByteArray.size x.1.2.2.2.2.2.1 : Int))) < (0 : Int))) = true then
      some ((-1 : Int), ())
    else if (decide ((IntKind.i64.wrap ((IntKind.i64.wrap (y1.1 - (ByteArray.size x.1.2.2.2.2.2.1 : Int))) - (ByteArray.size x.1.2.2.2.2.2.2.2.2.2.1 : Int))) < (0 : Int))) = true then
      some ((-1 : Int), ())
    else if (decide ((IntKind.i64.wrap ((IntKind.i64.wrap ((IntKind.i64.wrap (y1.1 - (ByteArray.size x.1.2.2.2.2.2.1 : Int))) - (ByteArray.size x.1.2.2.2.2.2.2.2.2.2.1 : Int))) - (ByteArray.size x.1.2.2.2.2.2.2.2.2.2.2.1 : Int))) < (0 : Int))) = true then
      some ((-1 : Int), ())
    else
      some ((IntKind.i64.wrap ((IntKind.i64.wrap ((IntKind.i64.wrap (y1.1 - (ByteArray.size x.1.2.2.2.2.2.1 : Int))) - (ByteArray.size x.1.2.2.2.2.2.2.2.2.2.1 : Int))) - (ByteArray.size x.1.2.2.2.2.2.2.2.2.2.2.1 : Int))), ())
@[reducible] def sig (n : Nat) : Sig := ⟨[tGateField, (.int .i64)], [(.int .i64)], false, f n⟩
def T (n : Nat) : FuncId → Option Sig := fun g => if Nat.beq g 65 = true then some (laws_szStringS.sig n) else none
def TL (n : Nat) : Loops := fun j _ st k => none
theorem con (n : Nat) : Con Try.prog 76 (sig n) :=
  con_print (T := T n) (TL := TL n) (c := Try.f76.body.getD .skip) (js := []) hMixed (conT_cons (laws_szStringS.con n) conT_none) Try.func76 (by decide) (by kernel_rfl) (by kernel_rfl) (by decide) LoopDef.nil (fun x => by kernel_rfl)
end laws_szGateField
namespace laws_szGateFieldS
@[reducible] def l5 : LSpec := ⟨[(0, .d (.slice tGateField)), (1, .d (.int .i64)), (5, .d (.int .i64))], [(.ret, [(4, .d (.int .i64))]), (.exit 0, [(1, .d (.int .i64))])]⟩
def B5 (n : Nat) {R : Type} (next : Sden l5.inS → Option R) (cs : Conts R l5.outs) (x : Sden l5.inS) : Option R :=
  if (decide (x.2.2.1 < (List.length x.1 : Int))) = true then
    if (decide (0 ≤ x.2.2.1 ∧ x.2.2.1 < (List.length x.1 : Int))) = true then
      (laws_szGateField.f n ((List.getD x.1 (Int.toNat x.2.2.1) (Ty.zero tGateField)), x.2.1, ())).bind fun y1 =>
      if (decide (y1.1 < (0 : Int))) = true then
        cs.1 ((-1 : Int), ())
      else
        next (x.1, y1.1, (IntKind.i64.wrap (x.2.2.1 + (1 : Int))), ())
    else
      none
  else
    cs.2.1 (x.2.1, ())
def f (n : Nat) (x : Tup [(.slice tGateField), (.int .i64)]) : Option (Tup [(.int .i64)]) :=
  if (decide ((IntKind.i64.wrap (x.2.1 - (List.length x.1 : Int))) < (0 : Int))) = true then
    some ((-1 : Int), ())
  else
    runL (B5 n) ((fun z2 =>
        some (z2.1, ())), (fun z3 =>
        some (z3.1, ())), ()) n (x.1, (IntKind.i64.wrap (x.2.1 - (List.length x.1 : Int))), (0 : Int), ())
@[reducible] def sig (n : Nat) : Sig := ⟨[(.slice tGateField), (.int .i64)], [(.int .i64)], false, f n⟩
def T (n : Nat) : FuncId → Option Sig := fun g => if Nat.beq g 76 = true then some (laws_szGateField.sig n) else none
def TL (n : Nat) : Loops := fun j _ st k => if Nat.beq j 5 = true then (match dec st l5.inS [] with | some x => runL (B5 n) (contsOf k l5.outs) n x | none => none) else none
theorem d5 (n : Nat) : LoopDef Try.prog (T n) (TL n) Try.f64 5 :=
  ⟨l5, fun R => B5 n, n, fun R st k => by kernel_rfl, fun R next cs x => by kernel_rfl⟩
theorem con (n : Nat) : Con Try.prog 64 (sig n) :=
  con_print (T := T n) (TL := TL n) (c := Try.f64.body.getD .skip) (js := [5]) hMixed (conT_cons (laws_szGateField.con n) conT_none) Try.func64 (by decide) (by kernel_rfl) (by kernel_rfl) (by decide) (LoopDef.cons (d5 n) LoopDef.nil) (fun x => by kernel_rfl)
end laws_szGateFieldS
namespace laws_szGateShape
def f (n : Nat) (x : Tup [tGateShape, (.int .i64)]) : Option (Tup [(.int .i64)]) :=
  if (decide ((IntKind.i64.wrap (x.2.1 - (ByteArray.size x.1.1 : Int))) < (0 : Int))) = true then
    some ((-1 : Int), ())
  else
    (laws_szGateFieldS.f n (x.1.2.1, (IntKind.i64.wrap (x.2.1 - (ByteArray.size x.1.1 : Int))), ())).bind fun y1 =>
    if (decide (y1.1 < (0 : Int))) = true then
      some ((-1 : Int), ())
    else
      some (y1.1, ())
@[reducible] def sig (n : Nat) : Sig := ⟨[tGateShape, (.int .i64)], [(.int .i64)], false, f n⟩
def T (n : Nat) : FuncId → Option Sig := fun g => if Nat.beq g 64 = true then some (laws_szGateFieldS.sig n) else none
def TL (n : Nat) : Loops := fun j _ st k => none
theorem con (n : Nat) : Con Try.prog 37 (sig n) :=
  con_print (T := T n) (TL := TL n) (c := Try.f37.body.getD .skip) (js := []) hMixed (conT_cons (laws_szGateFieldS.con n) conT_none) Try.func37 (by decide) (by kernel_rfl) (by kernel_rfl) (by decide) LoopDef.nil (fun x => by kernel_rfl)
end laws_szGateShape
namespace laws_szGateShapeS
@[reducible] def l5 : LSpec := ⟨[(0, .d (.slice tGateShape)), (1, .d (.int .i64)), (5, .d (.int .i64))], [(.ret, [(4, .d (.int .i64))]), (.exit 0, [(1, .d (.int .i64))])]⟩
def B5 (n : Nat) {R : Type} (next : Sden l5.inS → Option R) (cs : Conts R l5.outs) (x : Sden l5.inS) : Option R :=
  if (decide (x.2.2.1 < (List.length x.1 : Int))) = true then
    if (decide (0 ≤ x.2.2.1 ∧ x.2.2.1 < (List.length x.1 : Int))) = true then
      (laws_szGateShape.f n ((List.getD x.1 (Int.toNat x.2.2.1) (Ty.zero tGateShape)), x.2.1, ())).bind fun y1 =>
      if (decide (y1.1 < (0 : Int))) = true then
        cs.1 ((-1 : Int), ())
      else
        next (x.1, y1.1, (IntKind.i64.wrap (x.2.2.1 + (1 : Int))), ())
    else
      none
  else
    cs.2.1 (x.2.1, ())
def f (n : Nat) (x : Tup [(.slice tGateShape), (.int .i64)]) : Option (Tup [(.int .i64)]) :=
  if (decide ((IntKind.i64.wrap (x.2.1 - (List.length x.1 : Int))) < (0 : Int))) = true then
    some ((-1 : Int), ())
  else
    runL (B5 n) ((fun z2 =>
        some (z2.1, ())), (fun z3 =>
        some (z3.1, ())), ()) n (x.1, (IntKind.i64.wrap (x.2.1 - (List.length x.1 : Int))), (0 : Int), ())
@[reducible] def sig (n : Nat) : Sig := ⟨[(.slice tGateShape), (.int .i64)], [(.int .i64)], false, f n⟩
def T (n : Nat) : FuncId → Option Sig := fun g => if Nat.beq g 37 = true then some (laws_szGateShape.sig n) else none
def TL (n : Nat) : Loops := fun j _ st k => if Nat.beq j 5 = true then (match dec st l5.inS [] with | some x => runL (B5 n) (contsOf k l5.outs) n x | none => none) else none
theorem d5 (n : Nat) : LoopDef Try.prog (T n) (TL n) Try.f12 5 :=
  ⟨l5, fun R => B5 n, n, fun R st k => by kernel_rfl, fun R next cs x => by kernel_rfl⟩
theorem con (n : Nat) : Con Try.prog 12 (sig n) :=
  con_print (T := T n) (TL := TL n) (c := Try.f12.body.getD .skip) (js := [5]) hMixed (conT_cons (laws_szGateShape.con n) conT_none) Try.func12 (by decide) (by kernel_rfl) (by kernel_rfl) (by decide) (LoopDef.cons (d5 n) LoopDef.nil) (fun x => by kernel_rfl)
end laws_szGateShapeS
namespace laws_szGateMend
def f (n : Nat) (x : Tup [tGateMend, (.int .i64)]) : Option (Tup [(.int .i64)]) :=
  if (decide ((IntKind.i64.wrap (x.2.1 - (ByteArray.size x.1.1 : Int))) < (0 : Int))) = true then
    some ((-1 : Int), ())
  else if (decide ((IntKind.i64.wrap ((IntKind.i64.wrap (x.2.1 - (ByteArray.size x.1.1 : Int))) - (ByteArray.size x.1.2.1 : Int))) < (0 : Int))) = true then
    some ((-1 : Int), ())
  else if (decide ((IntKind.i64.wrap ((IntKind.i64.wrap ((IntKind.i64.wrap (x.2.1 - (ByteArray.size x.1.1 : Int))) - (ByteArray.size x.1.2.1 : Int))) - (ByteArray.size x.1.2.2.1 : Int))) < (0 : Int))) = true then
    some ((-1 : Int), ())
  else if (decide ((IntKind.i64.wrap ((IntKind.i64.wrap ((IntKind.i64.wrap ((IntKind.i64.wrap (x.2.1 - (ByteArray.size x.1.1 : Int))) - (ByteArray.size x.1.2.1 : Int))) - (ByteArray.size x.1.2.2.1 : Int))) - (ByteArray.size x.1.2.2.2.1 : Int))) < (0 : Int))) = true then
    some ((-1 : Int), ())
  else if (decide ((IntKind.i64.wrap ((IntKind.i64.wrap ((IntKind.i64.wrap ((IntKind.i64.wrap ((IntKind.i64.wrap (x.2.1 - (ByteArray.size x.1.1 : Int))) - (ByteArray.size x.1.2.1 : Int))) - (ByteArray.size x.1.2.2.1 : Int))) - (ByteArray.size x.1.2.2.2.1 : Int))) - (ByteArray.size x.1.2.2.2.2.1 : Int))) < (0 : Int))) = true then
    some ((-1 : Int), ())
  else if (decide ((IntKind.i64.wrap ((IntKind.i64.wrap ((IntKind.i64.wrap ((IntKind.i64.wrap ((IntKind.i64.wrap ((IntKind.i64.wrap (x.2.1 - (ByteArray.size x.1.1 : Int))) - (ByteArray.size x.1.2.1 : Int))) - (ByteArray.size x.1.2.2.1 : Int))) - (ByteArray.size x.1.2.2.2.1 : Int))) - (ByteArray.size x.1.2.2.2.2.1 : Int))) - (ByteArray.size x.1.2.2.2.2.2.1 : Int))) < (0 : Int))) = true then
    some ((-1 : Int), ())
  else
    some ((IntKind.i64.wrap ((IntKind.i64.wrap ((IntKind.i64.wrap ((IntKind.i64.wrap ((IntKind.i64.wrap ((IntKind.i64.wrap (x.2.1 - (ByteArray.size x.1.1 : Int))) - (ByteArray.size x.1.2.1 : Int))) - (ByteArray.size x.1.2.2.1 : Int))) - (ByteArray.size x.1.2.2.2.1 : Int))) - (ByteArray.size x.1.2.2.2.2.1 : Int))) - (ByteArray.size x.1.2.2.2.2.2.1 : Int))), ())
@[reducible] def sig (n : Nat) : Sig := ⟨[tGateMend, (.int .i64)], [(.int .i64)], false, f n⟩
def T (n : Nat) : FuncId → Option Sig := fun g => none
def TL (n : Nat) : Loops := fun j _ st k => none
theorem con (n : Nat) : Con Try.prog 38 (sig n) :=
  con_print (T := T n) (TL := TL n) (c := Try.f38.body.getD .skip) (js := []) hMixed conT_none Try.func38 (by decide) (by kernel_rfl) (by kernel_rfl) (by decide) LoopDef.nil (fun x => by kernel_rfl)
end laws_szGateMend
namespace laws_szGateMendS
@[reducible] def l5 : LSpec := ⟨[(0, .d (.slice tGateMend)), (1, .d (.int .i64)), (5, .d (.int .i64))], [(.ret, [(4, .d (.int .i64))]), (.exit 0, [(1, .d (.int .i64))])]⟩
def B5 (n : Nat) {R : Type} (next : Sden l5.inS → Option R) (cs : Conts R l5.outs) (x : Sden l5.inS) : Option R :=
  if (decide (x.2.2.1 < (List.length x.1 : Int))) = true then
    if (decide (0 ≤ x.2.2.1 ∧ x.2.2.1 < (List.length x.1 : Int))) = true then
      (laws_szGateMend.f n ((List.getD x.1 (Int.toNat x.2.2.1) (Ty.zero tGateMend)), x.2.1, ())).bind fun y1 =>
      if (decide (y1.1 < (0 : Int))) = true then
        cs.1 ((-1 : Int), ())
      else
        next (x.1, y1.1, (IntKind.i64.wrap (x.2.2.1 + (1 : Int))), ())
    else
      none
  else
    cs.2.1 (x.2.1, ())
def f (n : Nat) (x : Tup [(.slice tGateMend), (.int .i64)]) : Option (Tup [(.int .i64)]) :=
  if (decide ((IntKind.i64.wrap (x.2.1 - (List.length x.1 : Int))) < (0 : Int))) = true then
    some ((-1 : Int), ())
  else
    runL (B5 n) ((fun z2 =>
        some (z2.1, ())), (fun z3 =>
        some (z3.1, ())), ()) n (x.1, (IntKind.i64.wrap (x.2.1 - (List.length x.1 : Int))), (0 : Int), ())
@[reducible] def sig (n : Nat) : Sig := ⟨[(.slice tGateMend), (.int .i64)], [(.int .i64)], false, f n⟩
def T (n : Nat) : FuncId → Option Sig := fun g => if Nat.beq g 38 = true then some (laws_szGateMend.sig n) else none
def TL (n : Nat) : Loops := fun j _ st k => if Nat.beq j 5 = true then (match dec st l5.inS [] with | some x => runL (B5 n) (contsOf k l5.outs) n x | none => none) else none
theorem d5 (n : Nat) : LoopDef Try.prog (T n) (TL n) Try.f13 5 :=
  ⟨l5, fun R => B5 n, n, fun R st k => by kernel_rfl, fun R next cs x => by kernel_rfl⟩
theorem con (n : Nat) : Con Try.prog 13 (sig n) :=
  con_print (T := T n) (TL := TL n) (c := Try.f13.body.getD .skip) (js := [5]) hMixed (conT_cons (laws_szGateMend.con n) conT_none) Try.func13 (by decide) (by kernel_rfl) (by kernel_rfl) (by decide) (LoopDef.cons (d5 n) LoopDef.nil) (fun x => by kernel_rfl)
end laws_szGateMendS
namespace laws_szGateTeam
def f (n : Nat) (x : Tup [tGateTeam, (.int .i64)]) : Option (Tup [(.int .i64)]) :=
  if (decide ((IntKind.i64.wrap (x.2.1 - (ByteArray.size x.1.1 : Int))) < (0 : Int))) = true then
    some ((-1 : Int), ())
  else if (decide ((IntKind.i64.wrap ((IntKind.i64.wrap (x.2.1 - (ByteArray.size x.1.1 : Int))) - (ByteArray.size x.1.2.1 : Int))) < (0 : Int))) = true then
    some ((-1 : Int), ())
  else
    some ((IntKind.i64.wrap ((IntKind.i64.wrap (x.2.1 - (ByteArray.size x.1.1 : Int))) - (ByteArray.size x.1.2.1 : Int))), ())
@[reducible] def sig (n : Nat) : Sig := ⟨[tGateTeam, (.int .i64)], [(.int .i64)], false, f n⟩
def T (n : Nat) : FuncId → Option Sig := fun g => none
def TL (n : Nat) : Loops := fun j _ st k => none
theorem con (n : Nat) : Con Try.prog 39 (sig n) :=
  con_print (T := T n) (TL := TL n) (c := Try.f39.body.getD .skip) (js := []) hMixed conT_none Try.func39 (by decide) (by kernel_rfl) (by kernel_rfl) (by decide) LoopDef.nil (fun x => by kernel_rfl)
end laws_szGateTeam
namespace laws_szGateTeamS
@[reducible] def l5 : LSpec := ⟨[(0, .d (.slice tGateTeam)), (1, .d (.int .i64)), (5, .d (.int .i64))], [(.ret, [(4, .d (.int .i64))]), (.exit 0, [(1, .d (.int .i64))])]⟩
def B5 (n : Nat) {R : Type} (next : Sden l5.inS → Option R) (cs : Conts R l5.outs) (x : Sden l5.inS) : Option R :=
  if (decide (x.2.2.1 < (List.length x.1 : Int))) = true then
    if (decide (0 ≤ x.2.2.1 ∧ x.2.2.1 < (List.length x.1 : Int))) = true then
      (laws_szGateTeam.f n ((List.getD x.1 (Int.toNat x.2.2.1) (Ty.zero tGateTeam)), x.2.1, ())).bind fun y1 =>
      if (decide (y1.1 < (0 : Int))) = true then
        cs.1 ((-1 : Int), ())
      else
        next (x.1, y1.1, (IntKind.i64.wrap (x.2.2.1 + (1 : Int))), ())
    else
      none
  else
    cs.2.1 (x.2.1, ())
def f (n : Nat) (x : Tup [(.slice tGateTeam), (.int .i64)]) : Option (Tup [(.int .i64)]) :=
  if (decide ((IntKind.i64.wrap (x.2.1 - (List.length x.1 : Int))) < (0 : Int))) = true then
    some ((-1 : Int), ())
  else
    runL (B5 n) ((fun z2 =>
        some (z2.1, ())), (fun z3 =>
        some (z3.1, ())), ()) n (x.1, (IntKind.i64.wrap (x.2.1 - (List.length x.1 : Int))), (0 : Int), ())
@[reducible] def sig (n : Nat) : Sig := ⟨[(.slice tGateTeam), (.int .i64)], [(.int .i64)], false, f n⟩
def T (n : Nat) : FuncId → Option Sig := fun g => if Nat.beq g 39 = true then some (laws_szGateTeam.sig n) else none
def TL (n : Nat) : Loops := fun j _ st k => if Nat.beq j 5 = true then (match dec st l5.inS [] with | some x => runL (B5 n) (contsOf k l5.outs) n x | none => none) else none
theorem d5 (n : Nat) : LoopDef Try.prog (T n) (TL n) Try.f14 5 :=
  ⟨l5, fun R => B5 n, n, fun R st k => by kernel_rfl, fun R next cs x => by kernel_rfl⟩
theorem con (n : Nat) : Con Try.prog 14 (sig n) :=
  con_print (T := T n) (TL := TL n) (c := Try.f14.body.getD .skip) (js := [5]) hMixed (conT_cons (laws_szGateTeam.con n) conT_none) Try.func14 (by decide) (by kernel_rfl) (by kernel_rfl) (by decide) (LoopDef.cons (d5 n) LoopDef.nil) (fun x => by kernel_rfl)
end laws_szGateTeamS
namespace laws_szGateLaw
def f (n : Nat) (x : Tup [tGateLaw, (.int .i64)]) : Option (Tup [(.int .i64)]) :=
  (laws_szGateShapeS.f n (x.1.1, x.2.1, ())).bind fun y1 =>
  if (decide (y1.1 < (0 : Int))) = true then
    some ((-1 : Int), ())
  else
    (laws_szGateMendS.f n (x.1.2.1, y1.1, ())).bind fun y2 =>
    if (decide (y2.1 < (0 : Int))) = true then
      some ((-1 : Int), ())
    else
      (laws_szGateTeamS.f n (x.1.2.2.1, y2.1, ())).bind fun y3 =>
      if (decide (y3.1 < (0 : Int))) = true then
        some ((-1 : Int), ())
      else
        some (y3.1, ())
@[reducible] def sig (n : Nat) : Sig := ⟨[tGateLaw, (.int .i64)], [(.int .i64)], false, f n⟩
def T (n : Nat) : FuncId → Option Sig := fun g => if Nat.beq g 12 = true then some (laws_szGateShapeS.sig n) else if Nat.beq g 13 = true then some (laws_szGateMendS.sig n) else if Nat.beq g 14 = true then some (laws_szGateTeamS.sig n) else none
def TL (n : Nat) : Loops := fun j _ st k => none
theorem con (n : Nat) : Con Try.prog 4 (sig n) :=
  con_print (T := T n) (TL := TL n) (c := Try.f4.body.getD .skip) (js := []) hMixed (conT_cons (laws_szGateShapeS.con n) (conT_cons (laws_szGateMendS.con n) (conT_cons (laws_szGateTeamS.con n) conT_none))) Try.func4 (by decide) (by kernel_rfl) (by kernel_rfl) (by decide) LoopDef.nil (fun x => by kernel_rfl)
end laws_szGateLaw
namespace laws_szGateObject
def f (n : Nat) (x : Tup [tGateObject, (.int .i64)]) : Option (Tup [(.int .i64)]) :=
  if (decide ((IntKind.i64.wrap (x.2.1 - (ByteArray.size x.1.1 : Int))) < (0 : Int))) = true then
    some ((-1 : Int), ())
  else if (decide ((IntKind.i64.wrap ((IntKind.i64.wrap (x.2.1 - (ByteArray.size x.1.1 : Int))) - (ByteArray.size x.1.2.1 : Int))) < (0 : Int))) = true then
    some ((-1 : Int), ())
  else if (decide ((IntKind.i64.wrap ((IntKind.i64.wrap ((IntKind.i64.wrap (x.2.1 - (ByteArray.size x.1.1 : Int))) - (ByteArray.size x.1.2.1 : Int))) - (ByteArray.size x.1.2.2.1 : Int))) < (0 : Int))) = true then
    some ((-1 : Int), ())
  else
    (laws_szStringS.f n (x.1.2.2.2.1, (IntKind.i64.wrap ((IntKind.i64.wrap ((IntKind.i64.wrap (x.2.1 - (ByteArray.size x.1.1 : Int))) - (ByteArray.size x.1.2.1 : Int))) - (ByteArray.size x.1.2.2.1 : Int))), ())).bind fun y1 =>
    if (decide (y1.1 < (0 : Int))) = true then
      some ((-1 : Int), ())
    else
      (laws_szStringS.f n (x.1.2.2.2.2.2.1, y1.1, ())).bind fun y2 =>
      if (decide (y2.1 < (0 : Int))) = true then
        some ((-1 : Int), ())
      else
        some (y2.1, ())
@[reducible] def sig (n : Nat) : Sig := ⟨[tGateObject, (.int .i64)], [(.int .i64)], false, f n⟩
def T (n : Nat) : FuncId → Option Sig := fun g => if Nat.beq g 65 = true then some (laws_szStringS.sig n) else none
def TL (n : Nat) : Loops := fun j _ st k => none
theorem con (n : Nat) : Con Try.prog 40 (sig n) :=
  con_print (T := T n) (TL := TL n) (c := Try.f40.body.getD .skip) (js := []) hMixed (conT_cons (laws_szStringS.con n) conT_none) Try.func40 (by decide) (by kernel_rfl) (by kernel_rfl) (by decide) LoopDef.nil (fun x => by kernel_rfl)
end laws_szGateObject
namespace laws_szGateObjectS
@[reducible] def l5 : LSpec := ⟨[(0, .d (.slice tGateObject)), (1, .d (.int .i64)), (5, .d (.int .i64))], [(.ret, [(4, .d (.int .i64))]), (.exit 0, [(1, .d (.int .i64))])]⟩
def B5 (n : Nat) {R : Type} (next : Sden l5.inS → Option R) (cs : Conts R l5.outs) (x : Sden l5.inS) : Option R :=
  if (decide (x.2.2.1 < (List.length x.1 : Int))) = true then
    if (decide (0 ≤ x.2.2.1 ∧ x.2.2.1 < (List.length x.1 : Int))) = true then
      (laws_szGateObject.f n ((List.getD x.1 (Int.toNat x.2.2.1) (Ty.zero tGateObject)), x.2.1, ())).bind fun y1 =>
      if (decide (y1.1 < (0 : Int))) = true then
        cs.1 ((-1 : Int), ())
      else
        next (x.1, y1.1, (IntKind.i64.wrap (x.2.2.1 + (1 : Int))), ())
    else
      none
  else
    cs.2.1 (x.2.1, ())
def f (n : Nat) (x : Tup [(.slice tGateObject), (.int .i64)]) : Option (Tup [(.int .i64)]) :=
  if (decide ((IntKind.i64.wrap (x.2.1 - (List.length x.1 : Int))) < (0 : Int))) = true then
    some ((-1 : Int), ())
  else
    runL (B5 n) ((fun z2 =>
        some (z2.1, ())), (fun z3 =>
        some (z3.1, ())), ()) n (x.1, (IntKind.i64.wrap (x.2.1 - (List.length x.1 : Int))), (0 : Int), ())
@[reducible] def sig (n : Nat) : Sig := ⟨[(.slice tGateObject), (.int .i64)], [(.int .i64)], false, f n⟩
def T (n : Nat) : FuncId → Option Sig := fun g => if Nat.beq g 40 = true then some (laws_szGateObject.sig n) else none
def TL (n : Nat) : Loops := fun j _ st k => if Nat.beq j 5 = true then (match dec st l5.inS [] with | some x => runL (B5 n) (contsOf k l5.outs) n x | none => none) else none
theorem d5 (n : Nat) : LoopDef Try.prog (T n) (TL n) Try.f15 5 :=
  ⟨l5, fun R => B5 n, n, fun R st k => by kernel_rfl, fun R next cs x => by kernel_rfl⟩
theorem con (n : Nat) : Con Try.prog 15 (sig n) :=
  con_print (T := T n) (TL := TL n) (c := Try.f15.body.getD .skip) (js := [5]) hMixed (conT_cons (laws_szGateObject.con n) conT_none) Try.func15 (by decide) (by kernel_rfl) (by kernel_rfl) (by decide) (LoopDef.cons (d5 n) LoopDef.nil) (fun x => by kernel_rfl)
end laws_szGateObjectS
namespace laws_szIntS
def f (n : Nat) (x : Tup [(.slice (.int .i64)), (.int .i64)]) : Option (Tup [(.int .i64)]) :=
  if (decide ((IntKind.i64.wrap (x.2.1 - (List.length x.1 : Int))) < (0 : Int))) = true then
    some ((-1 : Int), ())
  else
    some ((IntKind.i64.wrap (x.2.1 - (List.length x.1 : Int))), ())
@[reducible] def sig (n : Nat) : Sig := ⟨[(.slice (.int .i64)), (.int .i64)], [(.int .i64)], false, f n⟩
def T (n : Nat) : FuncId → Option Sig := fun g => none
def TL (n : Nat) : Loops := fun j _ st k => none
theorem con (n : Nat) : Con Try.prog 77 (sig n) :=
  con_print (T := T n) (TL := TL n) (c := Try.f77.body.getD .skip) (js := []) hMixed conT_none Try.func77 (by decide) (by kernel_rfl) (by kernel_rfl) (by decide) LoopDef.nil (fun x => by kernel_rfl)
end laws_szIntS
namespace laws_szGateRule
def f (n : Nat) (x : Tup [tGateRule, (.int .i64)]) : Option (Tup [(.int .i64)]) :=
  (laws_szIntS.f n (x.1.1, x.2.1, ())).bind fun y1 =>
  if (decide (y1.1 < (0 : Int))) = true then
    some ((-1 : Int), ())
  else if (decide ((IntKind.i64.wrap (y1.1 - (ByteArray.size x.1.2.1 : Int))) < (0 : Int))) = true then
    some ((-1 : Int), ())
  else if (decide ((IntKind.i64.wrap ((IntKind.i64.wrap (y1.1 - (ByteArray.size x.1.2.1 : Int))) - (ByteArray.size x.1.2.2.1 : Int))) < (0 : Int))) = true then
    some ((-1 : Int), ())
  else if (decide ((IntKind.i64.wrap ((IntKind.i64.wrap ((IntKind.i64.wrap (y1.1 - (ByteArray.size x.1.2.1 : Int))) - (ByteArray.size x.1.2.2.1 : Int))) - (ByteArray.size x.1.2.2.2.1 : Int))) < (0 : Int))) = true then
    some ((-1 : Int), ())
  else
    some ((IntKind.i64.wrap ((IntKind.i64.wrap ((IntKind.i64.wrap (y1.1 - (ByteArray.size x.1.2.1 : Int))) - (ByteArray.size x.1.2.2.1 : Int))) - (ByteArray.size x.1.2.2.2.1 : Int))), ())
@[reducible] def sig (n : Nat) : Sig := ⟨[tGateRule, (.int .i64)], [(.int .i64)], false, f n⟩
def T (n : Nat) : FuncId → Option Sig := fun g => if Nat.beq g 77 = true then some (laws_szIntS.sig n) else none
def TL (n : Nat) : Loops := fun j _ st k => none
theorem con (n : Nat) : Con Try.prog 66 (sig n) :=
  con_print (T := T n) (TL := TL n) (c := Try.f66.body.getD .skip) (js := []) hMixed (conT_cons (laws_szIntS.con n) conT_none) Try.func66 (by decide) (by kernel_rfl) (by kernel_rfl) (by decide) LoopDef.nil (fun x => by kernel_rfl)
end laws_szGateRule
namespace laws_szGateGrant
def f (n : Nat) (x : Tup [tGateGrant, (.int .i64)]) : Option (Tup [(.int .i64)]) :=
  if (decide ((IntKind.i64.wrap (x.2.1 - (ByteArray.size x.1.2.1 : Int))) < (0 : Int))) = true then
    some ((-1 : Int), ())
  else if (decide ((IntKind.i64.wrap ((IntKind.i64.wrap (x.2.1 - (ByteArray.size x.1.2.1 : Int))) - (ByteArray.size x.1.2.2.1 : Int))) < (0 : Int))) = true then
    some ((-1 : Int), ())
  else
    (laws_szGateRule.f n (x.1.2.2.2.1, (IntKind.i64.wrap ((IntKind.i64.wrap (x.2.1 - (ByteArray.size x.1.2.1 : Int))) - (ByteArray.size x.1.2.2.1 : Int))), ())).bind fun y1 =>
    if (decide (y1.1 < (0 : Int))) = true then
      some ((-1 : Int), ())
    else
      some (y1.1, ())
@[reducible] def sig (n : Nat) : Sig := ⟨[tGateGrant, (.int .i64)], [(.int .i64)], false, f n⟩
def T (n : Nat) : FuncId → Option Sig := fun g => if Nat.beq g 66 = true then some (laws_szGateRule.sig n) else none
def TL (n : Nat) : Loops := fun j _ st k => none
theorem con (n : Nat) : Con Try.prog 41 (sig n) :=
  con_print (T := T n) (TL := TL n) (c := Try.f41.body.getD .skip) (js := []) hMixed (conT_cons (laws_szGateRule.con n) conT_none) Try.func41 (by decide) (by kernel_rfl) (by kernel_rfl) (by decide) LoopDef.nil (fun x => by kernel_rfl)
end laws_szGateGrant
namespace laws_szGateGrantS
@[reducible] def l5 : LSpec := ⟨[(0, .d (.slice tGateGrant)), (1, .d (.int .i64)), (5, .d (.int .i64))], [(.ret, [(4, .d (.int .i64))]), (.exit 0, [(1, .d (.int .i64))])]⟩
def B5 (n : Nat) {R : Type} (next : Sden l5.inS → Option R) (cs : Conts R l5.outs) (x : Sden l5.inS) : Option R :=
  if (decide (x.2.2.1 < (List.length x.1 : Int))) = true then
    if (decide (0 ≤ x.2.2.1 ∧ x.2.2.1 < (List.length x.1 : Int))) = true then
      (laws_szGateGrant.f n ((List.getD x.1 (Int.toNat x.2.2.1) (Ty.zero tGateGrant)), x.2.1, ())).bind fun y1 =>
      if (decide (y1.1 < (0 : Int))) = true then
        cs.1 ((-1 : Int), ())
      else
        next (x.1, y1.1, (IntKind.i64.wrap (x.2.2.1 + (1 : Int))), ())
    else
      none
  else
    cs.2.1 (x.2.1, ())
def f (n : Nat) (x : Tup [(.slice tGateGrant), (.int .i64)]) : Option (Tup [(.int .i64)]) :=
  if (decide ((IntKind.i64.wrap (x.2.1 - (List.length x.1 : Int))) < (0 : Int))) = true then
    some ((-1 : Int), ())
  else
    runL (B5 n) ((fun z2 =>
        some (z2.1, ())), (fun z3 =>
        some (z3.1, ())), ()) n (x.1, (IntKind.i64.wrap (x.2.1 - (List.length x.1 : Int))), (0 : Int), ())
@[reducible] def sig (n : Nat) : Sig := ⟨[(.slice tGateGrant), (.int .i64)], [(.int .i64)], false, f n⟩
def T (n : Nat) : FuncId → Option Sig := fun g => if Nat.beq g 41 = true then some (laws_szGateGrant.sig n) else none
def TL (n : Nat) : Loops := fun j _ st k => if Nat.beq j 5 = true then (match dec st l5.inS [] with | some x => runL (B5 n) (contsOf k l5.outs) n x | none => none) else none
theorem d5 (n : Nat) : LoopDef Try.prog (T n) (TL n) Try.f16 5 :=
  ⟨l5, fun R => B5 n, n, fun R st k => by kernel_rfl, fun R next cs x => by kernel_rfl⟩
theorem con (n : Nat) : Con Try.prog 16 (sig n) :=
  con_print (T := T n) (TL := TL n) (c := Try.f16.body.getD .skip) (js := [5]) hMixed (conT_cons (laws_szGateGrant.con n) conT_none) Try.func16 (by decide) (by kernel_rfl) (by kernel_rfl) (by decide) (LoopDef.cons (d5 n) LoopDef.nil) (fun x => by kernel_rfl)
end laws_szGateGrantS
namespace laws_szGateLedger
def f (n : Nat) (x : Tup [tGateLedger, (.int .i64)]) : Option (Tup [(.int .i64)]) :=
  if (decide ((IntKind.i64.wrap (x.2.1 - (ByteArray.size x.1.1 : Int))) < (0 : Int))) = true then
    some ((-1 : Int), ())
  else if (decide ((IntKind.i64.wrap ((IntKind.i64.wrap (x.2.1 - (ByteArray.size x.1.1 : Int))) - (ByteArray.size x.1.2.1 : Int))) < (0 : Int))) = true then
    some ((-1 : Int), ())
  else
    some ((IntKind.i64.wrap ((IntKind.i64.wrap (x.2.1 - (ByteArray.size x.1.1 : Int))) - (ByteArray.size x.1.2.1 : Int))), ())
@[reducible] def sig (n : Nat) : Sig := ⟨[tGateLedger, (.int .i64)], [(.int .i64)], false, f n⟩
def T (n : Nat) : FuncId → Option Sig := fun g => none
def TL (n : Nat) : Loops := fun j _ st k => none
theorem con (n : Nat) : Con Try.prog 42 (sig n) :=
  con_print (T := T n) (TL := TL n) (c := Try.f42.body.getD .skip) (js := []) hMixed conT_none Try.func42 (by decide) (by kernel_rfl) (by kernel_rfl) (by decide) LoopDef.nil (fun x => by kernel_rfl)
end laws_szGateLedger
namespace laws_szGateLedgerS
@[reducible] def l5 : LSpec := ⟨[(0, .d (.slice tGateLedger)), (1, .d (.int .i64)), (5, .d (.int .i64))], [(.ret, [(4, .d (.int .i64))]), (.exit 0, [(1, .d (.int .i64))])]⟩
def B5 (n : Nat) {R : Type} (next : Sden l5.inS → Option R) (cs : Conts R l5.outs) (x : Sden l5.inS) : Option R :=
  if (decide (x.2.2.1 < (List.length x.1 : Int))) = true then
    if (decide (0 ≤ x.2.2.1 ∧ x.2.2.1 < (List.length x.1 : Int))) = true then
      (laws_szGateLedger.f n ((List.getD x.1 (Int.toNat x.2.2.1) (Ty.zero tGateLedger)), x.2.1, ())).bind fun y1 =>
      if (decide (y1.1 < (0 : Int))) = true then
        cs.1 ((-1 : Int), ())
      else
        next (x.1, y1.1, (IntKind.i64.wrap (x.2.2.1 + (1 : Int))), ())
    else
      none
  else
    cs.2.1 (x.2.1, ())
def f (n : Nat) (x : Tup [(.slice tGateLedger), (.int .i64)]) : Option (Tup [(.int .i64)]) :=
  if (decide ((IntKind.i64.wrap (x.2.1 - (List.length x.1 : Int))) < (0 : Int))) = true then
    some ((-1 : Int), ())
  else
    runL (B5 n) ((fun z2 =>
        some (z2.1, ())), (fun z3 =>
        some (z3.1, ())), ()) n (x.1, (IntKind.i64.wrap (x.2.1 - (List.length x.1 : Int))), (0 : Int), ())
@[reducible] def sig (n : Nat) : Sig := ⟨[(.slice tGateLedger), (.int .i64)], [(.int .i64)], false, f n⟩
def T (n : Nat) : FuncId → Option Sig := fun g => if Nat.beq g 42 = true then some (laws_szGateLedger.sig n) else none
def TL (n : Nat) : Loops := fun j _ st k => if Nat.beq j 5 = true then (match dec st l5.inS [] with | some x => runL (B5 n) (contsOf k l5.outs) n x | none => none) else none
theorem d5 (n : Nat) : LoopDef Try.prog (T n) (TL n) Try.f17 5 :=
  ⟨l5, fun R => B5 n, n, fun R st k => by kernel_rfl, fun R next cs x => by kernel_rfl⟩
theorem con (n : Nat) : Con Try.prog 17 (sig n) :=
  con_print (T := T n) (TL := TL n) (c := Try.f17.body.getD .skip) (js := [5]) hMixed (conT_cons (laws_szGateLedger.con n) conT_none) Try.func17 (by decide) (by kernel_rfl) (by kernel_rfl) (by decide) (LoopDef.cons (d5 n) LoopDef.nil) (fun x => by kernel_rfl)
end laws_szGateLedgerS
namespace laws_szGatePurse
def f (n : Nat) (x : Tup [tGatePurse, (.int .i64)]) : Option (Tup [(.int .i64)]) :=
  if (decide ((IntKind.i64.wrap (x.2.1 - (ByteArray.size x.1.1 : Int))) < (0 : Int))) = true then
    some ((-1 : Int), ())
  else if (decide ((IntKind.i64.wrap ((IntKind.i64.wrap (x.2.1 - (ByteArray.size x.1.1 : Int))) - (ByteArray.size x.1.2.1 : Int))) < (0 : Int))) = true then
    some ((-1 : Int), ())
  else if (decide ((IntKind.i64.wrap ((IntKind.i64.wrap ((IntKind.i64.wrap (x.2.1 - (ByteArray.size x.1.1 : Int))) - (ByteArray.size x.1.2.1 : Int))) - (ByteArray.size x.1.2.2.1 : Int))) < (0 : Int))) = true then
    some ((-1 : Int), ())
  else
    some ((IntKind.i64.wrap ((IntKind.i64.wrap ((IntKind.i64.wrap (x.2.1 - (ByteArray.size x.1.1 : Int))) - (ByteArray.size x.1.2.1 : Int))) - (ByteArray.size x.1.2.2.1 : Int))), ())
@[reducible] def sig (n : Nat) : Sig := ⟨[tGatePurse, (.int .i64)], [(.int .i64)], false, f n⟩
def T (n : Nat) : FuncId → Option Sig := fun g => none
def TL (n : Nat) : Loops := fun j _ st k => none
theorem con (n : Nat) : Con Try.prog 43 (sig n) :=
  con_print (T := T n) (TL := TL n) (c := Try.f43.body.getD .skip) (js := []) hMixed conT_none Try.func43 (by decide) (by kernel_rfl) (by kernel_rfl) (by decide) LoopDef.nil (fun x => by kernel_rfl)
end laws_szGatePurse
namespace laws_szGatePurseS
@[reducible] def l5 : LSpec := ⟨[(0, .d (.slice tGatePurse)), (1, .d (.int .i64)), (5, .d (.int .i64))], [(.ret, [(4, .d (.int .i64))]), (.exit 0, [(1, .d (.int .i64))])]⟩
def B5 (n : Nat) {R : Type} (next : Sden l5.inS → Option R) (cs : Conts R l5.outs) (x : Sden l5.inS) : Option R :=
  if (decide (x.2.2.1 < (List.length x.1 : Int))) = true then
    if (decide (0 ≤ x.2.2.1 ∧ x.2.2.1 < (List.length x.1 : Int))) = true then
      (laws_szGatePurse.f n ((List.getD x.1 (Int.toNat x.2.2.1) (Ty.zero tGatePurse)), x.2.1, ())).bind fun y1 =>
      if (decide (y1.1 < (0 : Int))) = true then
        cs.1 ((-1 : Int), ())
      else
        next (x.1, y1.1, (IntKind.i64.wrap (x.2.2.1 + (1 : Int))), ())
    else
      none
  else
    cs.2.1 (x.2.1, ())
def f (n : Nat) (x : Tup [(.slice tGatePurse), (.int .i64)]) : Option (Tup [(.int .i64)]) :=
  if (decide ((IntKind.i64.wrap (x.2.1 - (List.length x.1 : Int))) < (0 : Int))) = true then
    some ((-1 : Int), ())
  else
    runL (B5 n) ((fun z2 =>
        some (z2.1, ())), (fun z3 =>
        some (z3.1, ())), ()) n (x.1, (IntKind.i64.wrap (x.2.1 - (List.length x.1 : Int))), (0 : Int), ())
@[reducible] def sig (n : Nat) : Sig := ⟨[(.slice tGatePurse), (.int .i64)], [(.int .i64)], false, f n⟩
def T (n : Nat) : FuncId → Option Sig := fun g => if Nat.beq g 43 = true then some (laws_szGatePurse.sig n) else none
def TL (n : Nat) : Loops := fun j _ st k => if Nat.beq j 5 = true then (match dec st l5.inS [] with | some x => runL (B5 n) (contsOf k l5.outs) n x | none => none) else none
theorem d5 (n : Nat) : LoopDef Try.prog (T n) (TL n) Try.f18 5 :=
  ⟨l5, fun R => B5 n, n, fun R st k => by kernel_rfl, fun R next cs x => by kernel_rfl⟩
theorem con (n : Nat) : Con Try.prog 18 (sig n) :=
  con_print (T := T n) (TL := TL n) (c := Try.f18.body.getD .skip) (js := [5]) hMixed (conT_cons (laws_szGatePurse.con n) conT_none) Try.func18 (by decide) (by kernel_rfl) (by kernel_rfl) (by decide) (LoopDef.cons (d5 n) LoopDef.nil) (fun x => by kernel_rfl)
end laws_szGatePurseS
namespace laws_szGateBook
def f (n : Nat) (x : Tup [tGateBook, (.int .i64)]) : Option (Tup [(.int .i64)]) :=
  (laws_szGateObjectS.f n (x.1.2.2.2.1, x.2.1, ())).bind fun y1 =>
  if (decide (y1.1 < (0 : Int))) = true then
    some ((-1 : Int), ())
  else
    (laws_szGateGrantS.f n (x.1.2.2.2.2.1, y1.1, ())).bind fun y2 =>
    if (decide (y2.1 < (0 : Int))) = true then
      some ((-1 : Int), ())
    else
      (laws_szGateLedgerS.f n (x.1.2.2.2.2.2.1, y2.1, ())).bind fun y3 =>
      if (decide (y3.1 < (0 : Int))) = true then
        some ((-1 : Int), ())
      else
        (laws_szGatePurseS.f n (x.1.2.2.2.2.2.2.1, y3.1, ())).bind fun y4 =>
        if (decide (y4.1 < (0 : Int))) = true then
          some ((-1 : Int), ())
        else
          some (y4.1, ())
@[reducible] def sig (n : Nat) : Sig := ⟨[tGateBook, (.int .i64)], [(.int .i64)], false, f n⟩
def T (n : Nat) : FuncId → Option Sig := fun g => if Nat.beq g 15 = true then some (laws_szGateObjectS.sig n) else if Nat.beq g 16 = true then some (laws_szGateGrantS.sig n) else if Nat.beq g 17 = true then some (laws_szGateLedgerS.sig n) else if Nat.beq g 18 = true then some (laws_szGatePurseS.sig n) else none
def TL (n : Nat) : Loops := fun j _ st k => none
theorem con (n : Nat) : Con Try.prog 5 (sig n) :=
  con_print (T := T n) (TL := TL n) (c := Try.f5.body.getD .skip) (js := []) hMixed (conT_cons (laws_szGateObjectS.con n) (conT_cons (laws_szGateGrantS.con n) (conT_cons (laws_szGateLedgerS.con n) (conT_cons (laws_szGatePurseS.con n) conT_none)))) Try.func5 (by decide) (by kernel_rfl) (by kernel_rfl) (by decide) LoopDef.nil (fun x => by kernel_rfl)
end laws_szGateBook
namespace laws_toStringS
@[reducible] def l3 : LSpec := ⟨[(0, .d (.slice .str)), (3, .row true .str), (4, .d (.int .i64))], [(.exit 0, [(3, .row true .str)])]⟩
def B3 (n : Nat) {R : Type} (next : Sden l3.inS → Option R) (cs : Conts R l3.outs) (x : Sden l3.inS) : Option R :=
  if (decide (x.2.2.1 < (List.length x.1 : Int))) = true then
    if (decide (0 ≤ x.2.2.1 ∧ x.2.2.1 < (List.length x.1 : Int))) = true then
      if (decide (0 ≤ x.2.2.1 ∧ x.2.2.1 < (List.length x.2.1 : Int))) = true then
        next (x.1, (List.set x.2.1 (Int.toNat x.2.2.1) (List.getD x.1 (Int.toNat x.2.2.1) (⟨#[]⟩ : ByteArray))), (IntKind.i64.wrap (x.2.2.1 + (1 : Int))), ())
      else
        none
    else
      none
  else
    cs.1 (x.2.1, ())
def f (n : Nat) (x : Tup [(.slice .str)]) : Option (Tup [(.slice .str)]) :=
  if (decide (0 ≤ (List.length x.1 : Int) ∧ (List.length x.1 : Int) ≤ (List.length x.1 : Int) ∧ (List.length x.1 : Int) * (16 : Int) ≤ 140737488355328)) = true then
    runL (B3 n) ((fun z1 =>
        some (z1.1, ())), ()) n (x.1, (List.replicate (Int.toNat (List.length x.1 : Int)) (⟨#[]⟩ : ByteArray)), (0 : Int), ())
  else
    none
@[reducible] def sig (n : Nat) : Sig := ⟨[(.slice .str)], [(.slice .str)], true, f n⟩
def T (n : Nat) : FuncId → Option Sig := fun g => none
def TL (n : Nat) : Loops := fun j _ st k => if Nat.beq j 3 = true then (match dec st l3.inS [] with | some x => runL (B3 n) (contsOf k l3.outs) n x | none => none) else none
theorem d3 (n : Nat) : LoopDef Try.prog (T n) (TL n) Try.f70 3 :=
  ⟨l3, fun R => B3 n, n, fun R st k => by kernel_rfl, fun R next cs x => by kernel_rfl⟩
theorem con (n : Nat) : Con Try.prog 70 (sig n) :=
  con_print (T := T n) (TL := TL n) (c := Try.f70.body.getD .skip) (js := [3]) hMixed conT_none Try.func70 (by decide) (by kernel_rfl) (by kernel_rfl) (by decide) (LoopDef.cons (d3 n) LoopDef.nil) (fun x => by kernel_rfl)
end laws_toStringS
namespace laws_toGateField
def f (n : Nat) (x : Tup [tGateField]) : Option (Tup [tGateField]) :=
  (laws_toStringS.f n (x.1.2.2.2.2.1, ())).bind fun y1 =>
  some ((x.1.1, x.1.2.1, x.1.2.2.1, x.1.2.2.2.1, y1.1, x.1.2.2.2.2.2), ())
@[reducible] def sig (n : Nat) : Sig := ⟨[tGateField], [tGateField], true, f n⟩
def T (n : Nat) : FuncId → Option Sig := fun g => if Nat.beq g 70 = true then some (laws_toStringS.sig n) else none
def TL (n : Nat) : Loops := fun j _ st k => none
theorem con (n : Nat) : Con Try.prog 78 (sig n) :=
  con_print (T := T n) (TL := TL n) (c := Try.f78.body.getD .skip) (js := []) hMixed (conT_cons (laws_toStringS.con n) conT_none) Try.func78 (by decide) (by kernel_rfl) (by kernel_rfl) (by decide) LoopDef.nil (fun x => by kernel_rfl)
end laws_toGateField
namespace laws_toGateFieldS
@[reducible] def l3 : LSpec := ⟨[(0, .d (.slice tGateField)), (3, .row true tGateField), (4, .d (.int .i64))], [(.exit 0, [(3, .row true tGateField)])]⟩
def B3 (n : Nat) {R : Type} (next : Sden l3.inS → Option R) (cs : Conts R l3.outs) (x : Sden l3.inS) : Option R :=
  if (decide (x.2.2.1 < (List.length x.1 : Int))) = true then
    if (decide (0 ≤ x.2.2.1 ∧ x.2.2.1 < (List.length x.1 : Int))) = true then
      (laws_toGateField.f n ((List.getD x.1 (Int.toNat x.2.2.1) (Ty.zero tGateField)), ())).bind fun y1 =>
      if (decide (0 ≤ x.2.2.1 ∧ x.2.2.1 < (List.length x.2.1 : Int))) = true then
        next (x.1, (List.set x.2.1 (Int.toNat x.2.2.1) y1.1), (IntKind.i64.wrap (x.2.2.1 + (1 : Int))), ())
      else
        none
    else
      none
  else
    cs.1 (x.2.1, ())
def f (n : Nat) (x : Tup [(.slice tGateField)]) : Option (Tup [(.slice tGateField)]) :=
  if (decide (0 ≤ (List.length x.1 : Int) ∧ (List.length x.1 : Int) ≤ (List.length x.1 : Int) ∧ (List.length x.1 : Int) * (128 : Int) ≤ 140737488355328)) = true then
    runL (B3 n) ((fun z2 =>
        some (z2.1, ())), ()) n (x.1, (List.replicate (Int.toNat (List.length x.1 : Int)) (Ty.zero tGateField)), (0 : Int), ())
  else
    none
@[reducible] def sig (n : Nat) : Sig := ⟨[(.slice tGateField)], [(.slice tGateField)], true, f n⟩
def T (n : Nat) : FuncId → Option Sig := fun g => if Nat.beq g 78 = true then some (laws_toGateField.sig n) else none
def TL (n : Nat) : Loops := fun j _ st k => if Nat.beq j 3 = true then (match dec st l3.inS [] with | some x => runL (B3 n) (contsOf k l3.outs) n x | none => none) else none
theorem d3 (n : Nat) : LoopDef Try.prog (T n) (TL n) Try.f69 3 :=
  ⟨l3, fun R => B3 n, n, fun R st k => by kernel_rfl, fun R next cs x => by kernel_rfl⟩
theorem con (n : Nat) : Con Try.prog 69 (sig n) :=
  con_print (T := T n) (TL := TL n) (c := Try.f69.body.getD .skip) (js := [3]) hMixed (conT_cons (laws_toGateField.con n) conT_none) Try.func69 (by decide) (by kernel_rfl) (by kernel_rfl) (by decide) (LoopDef.cons (d3 n) LoopDef.nil) (fun x => by kernel_rfl)
end laws_toGateFieldS
namespace laws_toGateShape
def f (n : Nat) (x : Tup [tGateShape]) : Option (Tup [tGateShape]) :=
  (laws_toGateFieldS.f n (x.1.2.1, ())).bind fun y1 =>
  some ((x.1.1, y1), ())
@[reducible] def sig (n : Nat) : Sig := ⟨[tGateShape], [tGateShape], true, f n⟩
def T (n : Nat) : FuncId → Option Sig := fun g => if Nat.beq g 69 = true then some (laws_toGateFieldS.sig n) else none
def TL (n : Nat) : Loops := fun j _ st k => none
theorem con (n : Nat) : Con Try.prog 47 (sig n) :=
  con_print (T := T n) (TL := TL n) (c := Try.f47.body.getD .skip) (js := []) hMixed (conT_cons (laws_toGateFieldS.con n) conT_none) Try.func47 (by decide) (by kernel_rfl) (by kernel_rfl) (by decide) LoopDef.nil (fun x => by kernel_rfl)
end laws_toGateShape
namespace laws_toGateShapeS
@[reducible] def l3 : LSpec := ⟨[(0, .d (.slice tGateShape)), (3, .row true tGateShape), (4, .d (.int .i64))], [(.exit 0, [(3, .row true tGateShape)])]⟩
def B3 (n : Nat) {R : Type} (next : Sden l3.inS → Option R) (cs : Conts R l3.outs) (x : Sden l3.inS) : Option R :=
  if (decide (x.2.2.1 < (List.length x.1 : Int))) = true then
    if (decide (0 ≤ x.2.2.1 ∧ x.2.2.1 < (List.length x.1 : Int))) = true then
      (laws_toGateShape.f n ((List.getD x.1 (Int.toNat x.2.2.1) (Ty.zero tGateShape)), ())).bind fun y1 =>
      if (decide (0 ≤ x.2.2.1 ∧ x.2.2.1 < (List.length x.2.1 : Int))) = true then
        next (x.1, (List.set x.2.1 (Int.toNat x.2.2.1) y1.1), (IntKind.i64.wrap (x.2.2.1 + (1 : Int))), ())
      else
        none
    else
      none
  else
    cs.1 (x.2.1, ())
def f (n : Nat) (x : Tup [(.slice tGateShape)]) : Option (Tup [(.slice tGateShape)]) :=
  if (decide (0 ≤ (List.length x.1 : Int) ∧ (List.length x.1 : Int) ≤ (List.length x.1 : Int) ∧ (List.length x.1 : Int) * (40 : Int) ≤ 140737488355328)) = true then
    runL (B3 n) ((fun z2 =>
        some (z2.1, ())), ()) n (x.1, (List.replicate (Int.toNat (List.length x.1 : Int)) (Ty.zero tGateShape)), (0 : Int), ())
  else
    none
@[reducible] def sig (n : Nat) : Sig := ⟨[(.slice tGateShape)], [(.slice tGateShape)], true, f n⟩
def T (n : Nat) : FuncId → Option Sig := fun g => if Nat.beq g 47 = true then some (laws_toGateShape.sig n) else none
def TL (n : Nat) : Loops := fun j _ st k => if Nat.beq j 3 = true then (match dec st l3.inS [] with | some x => runL (B3 n) (contsOf k l3.outs) n x | none => none) else none
theorem d3 (n : Nat) : LoopDef Try.prog (T n) (TL n) Try.f21 3 :=
  ⟨l3, fun R => B3 n, n, fun R st k => by kernel_rfl, fun R next cs x => by kernel_rfl⟩
theorem con (n : Nat) : Con Try.prog 21 (sig n) :=
  con_print (T := T n) (TL := TL n) (c := Try.f21.body.getD .skip) (js := [3]) hMixed (conT_cons (laws_toGateShape.con n) conT_none) Try.func21 (by decide) (by kernel_rfl) (by kernel_rfl) (by decide) (LoopDef.cons (d3 n) LoopDef.nil) (fun x => by kernel_rfl)
end laws_toGateShapeS
namespace laws_toGateMend
def f (n : Nat) (x : Tup [tGateMend]) : Option (Tup [tGateMend]) :=
  some (x.1, ())
@[reducible] def sig (n : Nat) : Sig := ⟨[tGateMend], [tGateMend], false, f n⟩
def T (n : Nat) : FuncId → Option Sig := fun g => none
def TL (n : Nat) : Loops := fun j _ st k => none
theorem con (n : Nat) : Con Try.prog 48 (sig n) :=
  con_print (T := T n) (TL := TL n) (c := Try.f48.body.getD .skip) (js := []) hMixed conT_none Try.func48 (by decide) (by kernel_rfl) (by kernel_rfl) (by decide) LoopDef.nil (fun x => by kernel_rfl)
end laws_toGateMend
namespace laws_toGateMendS
@[reducible] def l3 : LSpec := ⟨[(0, .d (.slice tGateMend)), (3, .row true tGateMend), (4, .d (.int .i64))], [(.exit 0, [(3, .row true tGateMend)])]⟩
def B3 (n : Nat) {R : Type} (next : Sden l3.inS → Option R) (cs : Conts R l3.outs) (x : Sden l3.inS) : Option R :=
  if (decide (x.2.2.1 < (List.length x.1 : Int))) = true then
    if (decide (0 ≤ x.2.2.1 ∧ x.2.2.1 < (List.length x.1 : Int))) = true then
      (laws_toGateMend.f n ((List.getD x.1 (Int.toNat x.2.2.1) (Ty.zero tGateMend)), ())).bind fun y1 =>
      if (decide (0 ≤ x.2.2.1 ∧ x.2.2.1 < (List.length x.2.1 : Int))) = true then
        next (x.1, (List.set x.2.1 (Int.toNat x.2.2.1) y1.1), (IntKind.i64.wrap (x.2.2.1 + (1 : Int))), ())
      else
        none
    else
      none
  else
    cs.1 (x.2.1, ())
def f (n : Nat) (x : Tup [(.slice tGateMend)]) : Option (Tup [(.slice tGateMend)]) :=
  if (decide (0 ≤ (List.length x.1 : Int) ∧ (List.length x.1 : Int) ≤ (List.length x.1 : Int) ∧ (List.length x.1 : Int) * (96 : Int) ≤ 140737488355328)) = true then
    runL (B3 n) ((fun z2 =>
        some (z2.1, ())), ()) n (x.1, (List.replicate (Int.toNat (List.length x.1 : Int)) (Ty.zero tGateMend)), (0 : Int), ())
  else
    none
@[reducible] def sig (n : Nat) : Sig := ⟨[(.slice tGateMend)], [(.slice tGateMend)], true, f n⟩
def T (n : Nat) : FuncId → Option Sig := fun g => if Nat.beq g 48 = true then some (laws_toGateMend.sig n) else none
def TL (n : Nat) : Loops := fun j _ st k => if Nat.beq j 3 = true then (match dec st l3.inS [] with | some x => runL (B3 n) (contsOf k l3.outs) n x | none => none) else none
theorem d3 (n : Nat) : LoopDef Try.prog (T n) (TL n) Try.f22 3 :=
  ⟨l3, fun R => B3 n, n, fun R st k => by kernel_rfl, fun R next cs x => by kernel_rfl⟩
theorem con (n : Nat) : Con Try.prog 22 (sig n) :=
  con_print (T := T n) (TL := TL n) (c := Try.f22.body.getD .skip) (js := [3]) hMixed (conT_cons (laws_toGateMend.con n) conT_none) Try.func22 (by decide) (by kernel_rfl) (by kernel_rfl) (by decide) (LoopDef.cons (d3 n) LoopDef.nil) (fun x => by kernel_rfl)
end laws_toGateMendS
namespace laws_toGateTeam
def f (n : Nat) (x : Tup [tGateTeam]) : Option (Tup [tGateTeam]) :=
  some (x.1, ())
@[reducible] def sig (n : Nat) : Sig := ⟨[tGateTeam], [tGateTeam], false, f n⟩
def T (n : Nat) : FuncId → Option Sig := fun g => none
def TL (n : Nat) : Loops := fun j _ st k => none
theorem con (n : Nat) : Con Try.prog 49 (sig n) :=
  con_print (T := T n) (TL := TL n) (c := Try.f49.body.getD .skip) (js := []) hMixed conT_none Try.func49 (by decide) (by kernel_rfl) (by kernel_rfl) (by decide) LoopDef.nil (fun x => by kernel_rfl)
end laws_toGateTeam
namespace laws_toGateTeamS
@[reducible] def l3 : LSpec := ⟨[(0, .d (.slice tGateTeam)), (3, .row true tGateTeam), (4, .d (.int .i64))], [(.exit 0, [(3, .row true tGateTeam)])]⟩
def B3 (n : Nat) {R : Type} (next : Sden l3.inS → Option R) (cs : Conts R l3.outs) (x : Sden l3.inS) : Option R :=
  if (decide (x.2.2.1 < (List.length x.1 : Int))) = true then
    if (decide (0 ≤ x.2.2.1 ∧ x.2.2.1 < (List.length x.1 : Int))) = true then
      (laws_toGateTeam.f n ((List.getD x.1 (Int.toNat x.2.2.1) (Ty.zero tGateTeam)), ())).bind fun y1 =>
      if (decide (0 ≤ x.2.2.1 ∧ x.2.2.1 < (List.length x.2.1 : Int))) = true then
        next (x.1, (List.set x.2.1 (Int.toNat x.2.2.1) y1.1), (IntKind.i64.wrap (x.2.2.1 + (1 : Int))), ())
      else
        none
    else
      none
  else
    cs.1 (x.2.1, ())
def f (n : Nat) (x : Tup [(.slice tGateTeam)]) : Option (Tup [(.slice tGateTeam)]) :=
  if (decide (0 ≤ (List.length x.1 : Int) ∧ (List.length x.1 : Int) ≤ (List.length x.1 : Int) ∧ (List.length x.1 : Int) * (32 : Int) ≤ 140737488355328)) = true then
    runL (B3 n) ((fun z2 =>
        some (z2.1, ())), ()) n (x.1, (List.replicate (Int.toNat (List.length x.1 : Int)) (Ty.zero tGateTeam)), (0 : Int), ())
  else
    none
@[reducible] def sig (n : Nat) : Sig := ⟨[(.slice tGateTeam)], [(.slice tGateTeam)], true, f n⟩
def T (n : Nat) : FuncId → Option Sig := fun g => if Nat.beq g 49 = true then some (laws_toGateTeam.sig n) else none
def TL (n : Nat) : Loops := fun j _ st k => if Nat.beq j 3 = true then (match dec st l3.inS [] with | some x => runL (B3 n) (contsOf k l3.outs) n x | none => none) else none
theorem d3 (n : Nat) : LoopDef Try.prog (T n) (TL n) Try.f23 3 :=
  ⟨l3, fun R => B3 n, n, fun R st k => by kernel_rfl, fun R next cs x => by kernel_rfl⟩
theorem con (n : Nat) : Con Try.prog 23 (sig n) :=
  con_print (T := T n) (TL := TL n) (c := Try.f23.body.getD .skip) (js := [3]) hMixed (conT_cons (laws_toGateTeam.con n) conT_none) Try.func23 (by decide) (by kernel_rfl) (by kernel_rfl) (by decide) (LoopDef.cons (d3 n) LoopDef.nil) (fun x => by kernel_rfl)
end laws_toGateTeamS
namespace laws_toGateLaw
def f (n : Nat) (x : Tup [tGateLaw]) : Option (Tup [tGateLaw]) :=
  (laws_toGateShapeS.f n (x.1.1, ())).bind fun y1 =>
  (laws_toGateMendS.f n (x.1.2.1, ())).bind fun y2 =>
  (laws_toGateTeamS.f n (x.1.2.2.1, ())).bind fun y3 =>
  some ((y1.1, y2.1, y3), ())
@[reducible] def sig (n : Nat) : Sig := ⟨[tGateLaw], [tGateLaw], true, f n⟩
def T (n : Nat) : FuncId → Option Sig := fun g => if Nat.beq g 21 = true then some (laws_toGateShapeS.sig n) else if Nat.beq g 22 = true then some (laws_toGateMendS.sig n) else if Nat.beq g 23 = true then some (laws_toGateTeamS.sig n) else none
def TL (n : Nat) : Loops := fun j _ st k => none
theorem con (n : Nat) : Con Try.prog 7 (sig n) :=
  con_print (T := T n) (TL := TL n) (c := Try.f7.body.getD .skip) (js := []) hMixed (conT_cons (laws_toGateShapeS.con n) (conT_cons (laws_toGateMendS.con n) (conT_cons (laws_toGateTeamS.con n) conT_none))) Try.func7 (by decide) (by kernel_rfl) (by kernel_rfl) (by decide) LoopDef.nil (fun x => by kernel_rfl)
end laws_toGateLaw
namespace laws_toGateObject
def f (n : Nat) (x : Tup [tGateObject]) : Option (Tup [tGateObject]) :=
  (laws_toStringS.f n (x.1.2.2.2.1, ())).bind fun y1 =>
  (laws_toStringS.f n (x.1.2.2.2.2.2.1, ())).bind fun y2 =>
  some ((x.1.1, x.1.2.1, x.1.2.2.1, y1.1, x.1.2.2.2.2.1, y2.1, x.1.2.2.2.2.2.2), ())
@[reducible] def sig (n : Nat) : Sig := ⟨[tGateObject], [tGateObject], true, f n⟩
def T (n : Nat) : FuncId → Option Sig := fun g => if Nat.beq g 70 = true then some (laws_toStringS.sig n) else none
def TL (n : Nat) : Loops := fun j _ st k => none
theorem con (n : Nat) : Con Try.prog 50 (sig n) :=
  con_print (T := T n) (TL := TL n) (c := Try.f50.body.getD .skip) (js := []) hMixed (conT_cons (laws_toStringS.con n) conT_none) Try.func50 (by decide) (by kernel_rfl) (by kernel_rfl) (by decide) LoopDef.nil (fun x => by kernel_rfl)
end laws_toGateObject
namespace laws_toGateObjectS
@[reducible] def l3 : LSpec := ⟨[(0, .d (.slice tGateObject)), (3, .row true tGateObject), (4, .d (.int .i64))], [(.exit 0, [(3, .row true tGateObject)])]⟩
def B3 (n : Nat) {R : Type} (next : Sden l3.inS → Option R) (cs : Conts R l3.outs) (x : Sden l3.inS) : Option R :=
  if (decide (x.2.2.1 < (List.length x.1 : Int))) = true then
    if (decide (0 ≤ x.2.2.1 ∧ x.2.2.1 < (List.length x.1 : Int))) = true then
      (laws_toGateObject.f n ((List.getD x.1 (Int.toNat x.2.2.1) (Ty.zero tGateObject)), ())).bind fun y1 =>
      if (decide (0 ≤ x.2.2.1 ∧ x.2.2.1 < (List.length x.2.1 : Int))) = true then
        next (x.1, (List.set x.2.1 (Int.toNat x.2.2.1) y1.1), (IntKind.i64.wrap (x.2.2.1 + (1 : Int))), ())
      else
        none
    else
      none
  else
    cs.1 (x.2.1, ())
def f (n : Nat) (x : Tup [(.slice tGateObject)]) : Option (Tup [(.slice tGateObject)]) :=
  if (decide (0 ≤ (List.length x.1 : Int) ∧ (List.length x.1 : Int) ≤ (List.length x.1 : Int) ∧ (List.length x.1 : Int) * (112 : Int) ≤ 140737488355328)) = true then
    runL (B3 n) ((fun z2 =>
        some (z2.1, ())), ()) n (x.1, (List.replicate (Int.toNat (List.length x.1 : Int)) (Ty.zero tGateObject)), (0 : Int), ())
  else
    none
@[reducible] def sig (n : Nat) : Sig := ⟨[(.slice tGateObject)], [(.slice tGateObject)], true, f n⟩
def T (n : Nat) : FuncId → Option Sig := fun g => if Nat.beq g 50 = true then some (laws_toGateObject.sig n) else none
def TL (n : Nat) : Loops := fun j _ st k => if Nat.beq j 3 = true then (match dec st l3.inS [] with | some x => runL (B3 n) (contsOf k l3.outs) n x | none => none) else none
theorem d3 (n : Nat) : LoopDef Try.prog (T n) (TL n) Try.f24 3 :=
  ⟨l3, fun R => B3 n, n, fun R st k => by kernel_rfl, fun R next cs x => by kernel_rfl⟩
theorem con (n : Nat) : Con Try.prog 24 (sig n) :=
  con_print (T := T n) (TL := TL n) (c := Try.f24.body.getD .skip) (js := [3]) hMixed (conT_cons (laws_toGateObject.con n) conT_none) Try.func24 (by decide) (by kernel_rfl) (by kernel_rfl) (by decide) (LoopDef.cons (d3 n) LoopDef.nil) (fun x => by kernel_rfl)
end laws_toGateObjectS
namespace laws_toIntS
@[reducible] def l3 : LSpec := ⟨[(0, .d (.slice (.int .i64))), (3, .row true (.int .i64)), (4, .d (.int .i64))], [(.exit 0, [(3, .row true (.int .i64))])]⟩
def B3 (n : Nat) {R : Type} (next : Sden l3.inS → Option R) (cs : Conts R l3.outs) (x : Sden l3.inS) : Option R :=
  if (decide (x.2.2.1 < (List.length x.1 : Int))) = true then
    if (decide (0 ≤ x.2.2.1 ∧ x.2.2.1 < (List.length x.1 : Int))) = true then
      if (decide (0 ≤ x.2.2.1 ∧ x.2.2.1 < (List.length x.2.1 : Int))) = true then
        next (x.1, (List.set x.2.1 (Int.toNat x.2.2.1) (List.getD x.1 (Int.toNat x.2.2.1) (0 : Int))), (IntKind.i64.wrap (x.2.2.1 + (1 : Int))), ())
      else
        none
    else
      none
  else
    cs.1 (x.2.1, ())
def f (n : Nat) (x : Tup [(.slice (.int .i64))]) : Option (Tup [(.slice (.int .i64))]) :=
  if (decide (0 ≤ (List.length x.1 : Int) ∧ (List.length x.1 : Int) ≤ (List.length x.1 : Int) ∧ (List.length x.1 : Int) * (8 : Int) ≤ 140737488355328)) = true then
    runL (B3 n) ((fun z1 =>
        some (z1.1, ())), ()) n (x.1, (List.replicate (Int.toNat (List.length x.1 : Int)) (0 : Int)), (0 : Int), ())
  else
    none
@[reducible] def sig (n : Nat) : Sig := ⟨[(.slice (.int .i64))], [(.slice (.int .i64))], true, f n⟩
def T (n : Nat) : FuncId → Option Sig := fun g => none
def TL (n : Nat) : Loops := fun j _ st k => if Nat.beq j 3 = true then (match dec st l3.inS [] with | some x => runL (B3 n) (contsOf k l3.outs) n x | none => none) else none
theorem d3 (n : Nat) : LoopDef Try.prog (T n) (TL n) Try.f79 3 :=
  ⟨l3, fun R => B3 n, n, fun R st k => by kernel_rfl, fun R next cs x => by kernel_rfl⟩
theorem con (n : Nat) : Con Try.prog 79 (sig n) :=
  con_print (T := T n) (TL := TL n) (c := Try.f79.body.getD .skip) (js := [3]) hMixed conT_none Try.func79 (by decide) (by kernel_rfl) (by kernel_rfl) (by decide) (LoopDef.cons (d3 n) LoopDef.nil) (fun x => by kernel_rfl)
end laws_toIntS
namespace laws_toGateRule
def f (n : Nat) (x : Tup [tGateRule]) : Option (Tup [tGateRule]) :=
  (laws_toIntS.f n (x.1.1, ())).bind fun y1 =>
  some ((y1.1, x.1.2), ())
@[reducible] def sig (n : Nat) : Sig := ⟨[tGateRule], [tGateRule], true, f n⟩
def T (n : Nat) : FuncId → Option Sig := fun g => if Nat.beq g 79 = true then some (laws_toIntS.sig n) else none
def TL (n : Nat) : Loops := fun j _ st k => none
theorem con (n : Nat) : Con Try.prog 71 (sig n) :=
  con_print (T := T n) (TL := TL n) (c := Try.f71.body.getD .skip) (js := []) hMixed (conT_cons (laws_toIntS.con n) conT_none) Try.func71 (by decide) (by kernel_rfl) (by kernel_rfl) (by decide) LoopDef.nil (fun x => by kernel_rfl)
end laws_toGateRule
namespace laws_toGateGrant
def f (n : Nat) (x : Tup [tGateGrant]) : Option (Tup [tGateGrant]) :=
  (laws_toGateRule.f n (x.1.2.2.2.1, ())).bind fun y1 =>
  some ((x.1.1, x.1.2.1, x.1.2.2.1, y1), ())
@[reducible] def sig (n : Nat) : Sig := ⟨[tGateGrant], [tGateGrant], true, f n⟩
def T (n : Nat) : FuncId → Option Sig := fun g => if Nat.beq g 71 = true then some (laws_toGateRule.sig n) else none
def TL (n : Nat) : Loops := fun j _ st k => none
theorem con (n : Nat) : Con Try.prog 51 (sig n) :=
  con_print (T := T n) (TL := TL n) (c := Try.f51.body.getD .skip) (js := []) hMixed (conT_cons (laws_toGateRule.con n) conT_none) Try.func51 (by decide) (by kernel_rfl) (by kernel_rfl) (by decide) LoopDef.nil (fun x => by kernel_rfl)
end laws_toGateGrant
namespace laws_toGateGrantS
@[reducible] def l3 : LSpec := ⟨[(0, .d (.slice tGateGrant)), (3, .row true tGateGrant), (4, .d (.int .i64))], [(.exit 0, [(3, .row true tGateGrant)])]⟩
def B3 (n : Nat) {R : Type} (next : Sden l3.inS → Option R) (cs : Conts R l3.outs) (x : Sden l3.inS) : Option R :=
  if (decide (x.2.2.1 < (List.length x.1 : Int))) = true then
    if (decide (0 ≤ x.2.2.1 ∧ x.2.2.1 < (List.length x.1 : Int))) = true then
      (laws_toGateGrant.f n ((List.getD x.1 (Int.toNat x.2.2.1) (Ty.zero tGateGrant)), ())).bind fun y1 =>
      if (decide (0 ≤ x.2.2.1 ∧ x.2.2.1 < (List.length x.2.1 : Int))) = true then
        next (x.1, (List.set x.2.1 (Int.toNat x.2.2.1) y1.1), (IntKind.i64.wrap (x.2.2.1 + (1 : Int))), ())
      else
        none
    else
      none
  else
    cs.1 (x.2.1, ())
def f (n : Nat) (x : Tup [(.slice tGateGrant)]) : Option (Tup [(.slice tGateGrant)]) :=
  if (decide (0 ≤ (List.length x.1 : Int) ∧ (List.length x.1 : Int) ≤ (List.length x.1 : Int) ∧ (List.length x.1 : Int) * (112 : Int) ≤ 140737488355328)) = true then
    runL (B3 n) ((fun z2 =>
        some (z2.1, ())), ()) n (x.1, (List.replicate (Int.toNat (List.length x.1 : Int)) (Ty.zero tGateGrant)), (0 : Int), ())
  else
    none
@[reducible] def sig (n : Nat) : Sig := ⟨[(.slice tGateGrant)], [(.slice tGateGrant)], true, f n⟩
def T (n : Nat) : FuncId → Option Sig := fun g => if Nat.beq g 51 = true then some (laws_toGateGrant.sig n) else none
def TL (n : Nat) : Loops := fun j _ st k => if Nat.beq j 3 = true then (match dec st l3.inS [] with | some x => runL (B3 n) (contsOf k l3.outs) n x | none => none) else none
theorem d3 (n : Nat) : LoopDef Try.prog (T n) (TL n) Try.f25 3 :=
  ⟨l3, fun R => B3 n, n, fun R st k => by kernel_rfl, fun R next cs x => by kernel_rfl⟩
theorem con (n : Nat) : Con Try.prog 25 (sig n) :=
  con_print (T := T n) (TL := TL n) (c := Try.f25.body.getD .skip) (js := [3]) hMixed (conT_cons (laws_toGateGrant.con n) conT_none) Try.func25 (by decide) (by kernel_rfl) (by kernel_rfl) (by decide) (LoopDef.cons (d3 n) LoopDef.nil) (fun x => by kernel_rfl)
end laws_toGateGrantS
namespace laws_toGateLedger
def f (n : Nat) (x : Tup [tGateLedger]) : Option (Tup [tGateLedger]) :=
  some (x.1, ())
@[reducible] def sig (n : Nat) : Sig := ⟨[tGateLedger], [tGateLedger], false, f n⟩
def T (n : Nat) : FuncId → Option Sig := fun g => none
def TL (n : Nat) : Loops := fun j _ st k => none
theorem con (n : Nat) : Con Try.prog 52 (sig n) :=
  con_print (T := T n) (TL := TL n) (c := Try.f52.body.getD .skip) (js := []) hMixed conT_none Try.func52 (by decide) (by kernel_rfl) (by kernel_rfl) (by decide) LoopDef.nil (fun x => by kernel_rfl)
end laws_toGateLedger
namespace laws_toGateLedgerS
@[reducible] def l3 : LSpec := ⟨[(0, .d (.slice tGateLedger)), (3, .row true tGateLedger), (4, .d (.int .i64))], [(.exit 0, [(3, .row true tGateLedger)])]⟩
def B3 (n : Nat) {R : Type} (next : Sden l3.inS → Option R) (cs : Conts R l3.outs) (x : Sden l3.inS) : Option R :=
  if (decide (x.2.2.1 < (List.length x.1 : Int))) = true then
    if (decide (0 ≤ x.2.2.1 ∧ x.2.2.1 < (List.length x.1 : Int))) = true then
      (laws_toGateLedger.f n ((List.getD x.1 (Int.toNat x.2.2.1) (Ty.zero tGateLedger)), ())).bind fun y1 =>
      if (decide (0 ≤ x.2.2.1 ∧ x.2.2.1 < (List.length x.2.1 : Int))) = true then
        next (x.1, (List.set x.2.1 (Int.toNat x.2.2.1) y1.1), (IntKind.i64.wrap (x.2.2.1 + (1 : Int))), ())
      else
        none
    else
      none
  else
    cs.1 (x.2.1, ())
def f (n : Nat) (x : Tup [(.slice tGateLedger)]) : Option (Tup [(.slice tGateLedger)]) :=
  if (decide (0 ≤ (List.length x.1 : Int) ∧ (List.length x.1 : Int) ≤ (List.length x.1 : Int) ∧ (List.length x.1 : Int) * (48 : Int) ≤ 140737488355328)) = true then
    runL (B3 n) ((fun z2 =>
        some (z2.1, ())), ()) n (x.1, (List.replicate (Int.toNat (List.length x.1 : Int)) (Ty.zero tGateLedger)), (0 : Int), ())
  else
    none
@[reducible] def sig (n : Nat) : Sig := ⟨[(.slice tGateLedger)], [(.slice tGateLedger)], true, f n⟩
def T (n : Nat) : FuncId → Option Sig := fun g => if Nat.beq g 52 = true then some (laws_toGateLedger.sig n) else none
def TL (n : Nat) : Loops := fun j _ st k => if Nat.beq j 3 = true then (match dec st l3.inS [] with | some x => runL (B3 n) (contsOf k l3.outs) n x | none => none) else none
theorem d3 (n : Nat) : LoopDef Try.prog (T n) (TL n) Try.f26 3 :=
  ⟨l3, fun R => B3 n, n, fun R st k => by kernel_rfl, fun R next cs x => by kernel_rfl⟩
theorem con (n : Nat) : Con Try.prog 26 (sig n) :=
  con_print (T := T n) (TL := TL n) (c := Try.f26.body.getD .skip) (js := [3]) hMixed (conT_cons (laws_toGateLedger.con n) conT_none) Try.func26 (by decide) (by kernel_rfl) (by kernel_rfl) (by decide) (LoopDef.cons (d3 n) LoopDef.nil) (fun x => by kernel_rfl)
end laws_toGateLedgerS
namespace laws_toGatePurse
def f (n : Nat) (x : Tup [tGatePurse]) : Option (Tup [tGatePurse]) :=
  some (x.1, ())
@[reducible] def sig (n : Nat) : Sig := ⟨[tGatePurse], [tGatePurse], false, f n⟩
def T (n : Nat) : FuncId → Option Sig := fun g => none
def TL (n : Nat) : Loops := fun j _ st k => none
theorem con (n : Nat) : Con Try.prog 53 (sig n) :=
  con_print (T := T n) (TL := TL n) (c := Try.f53.body.getD .skip) (js := []) hMixed conT_none Try.func53 (by decide) (by kernel_rfl) (by kernel_rfl) (by decide) LoopDef.nil (fun x => by kernel_rfl)
end laws_toGatePurse
namespace laws_toGatePurseS
@[reducible] def l3 : LSpec := ⟨[(0, .d (.slice tGatePurse)), (3, .row true tGatePurse), (4, .d (.int .i64))], [(.exit 0, [(3, .row true tGatePurse)])]⟩
def B3 (n : Nat) {R : Type} (next : Sden l3.inS → Option R) (cs : Conts R l3.outs) (x : Sden l3.inS) : Option R :=
  if (decide (x.2.2.1 < (List.length x.1 : Int))) = true then
    if (decide (0 ≤ x.2.2.1 ∧ x.2.2.1 < (List.length x.1 : Int))) = true then
      (laws_toGatePurse.f n ((List.getD x.1 (Int.toNat x.2.2.1) (Ty.zero tGatePurse)), ())).bind fun y1 =>
      if (decide (0 ≤ x.2.2.1 ∧ x.2.2.1 < (List.length x.2.1 : Int))) = true then
        next (x.1, (List.set x.2.1 (Int.toNat x.2.2.1) y1.1), (IntKind.i64.wrap (x.2.2.1 + (1 : Int))), ())
      else
        none
    else
      none
  else
    cs.1 (x.2.1, ())
def f (n : Nat) (x : Tup [(.slice tGatePurse)]) : Option (Tup [(.slice tGatePurse)]) :=
  if (decide (0 ≤ (List.length x.1 : Int) ∧ (List.length x.1 : Int) ≤ (List.length x.1 : Int) ∧ (List.length x.1 : Int) * (64 : Int) ≤ 140737488355328)) = true then
    runL (B3 n) ((fun z2 =>
        some (z2.1, ())), ()) n (x.1, (List.replicate (Int.toNat (List.length x.1 : Int)) (Ty.zero tGatePurse)), (0 : Int), ())
  else
    none
@[reducible] def sig (n : Nat) : Sig := ⟨[(.slice tGatePurse)], [(.slice tGatePurse)], true, f n⟩
def T (n : Nat) : FuncId → Option Sig := fun g => if Nat.beq g 53 = true then some (laws_toGatePurse.sig n) else none
def TL (n : Nat) : Loops := fun j _ st k => if Nat.beq j 3 = true then (match dec st l3.inS [] with | some x => runL (B3 n) (contsOf k l3.outs) n x | none => none) else none
theorem d3 (n : Nat) : LoopDef Try.prog (T n) (TL n) Try.f27 3 :=
  ⟨l3, fun R => B3 n, n, fun R st k => by kernel_rfl, fun R next cs x => by kernel_rfl⟩
theorem con (n : Nat) : Con Try.prog 27 (sig n) :=
  con_print (T := T n) (TL := TL n) (c := Try.f27.body.getD .skip) (js := [3]) hMixed (conT_cons (laws_toGatePurse.con n) conT_none) Try.func27 (by decide) (by kernel_rfl) (by kernel_rfl) (by decide) (LoopDef.cons (d3 n) LoopDef.nil) (fun x => by kernel_rfl)
end laws_toGatePurseS
namespace laws_toGateBook
def f (n : Nat) (x : Tup [tGateBook]) : Option (Tup [tGateBook]) :=
  (laws_toGateObjectS.f n (x.1.2.2.2.1, ())).bind fun y1 =>
  (laws_toGateGrantS.f n (x.1.2.2.2.2.1, ())).bind fun y2 =>
  (laws_toGateLedgerS.f n (x.1.2.2.2.2.2.1, ())).bind fun y3 =>
  (laws_toGatePurseS.f n (x.1.2.2.2.2.2.2.1, ())).bind fun y4 =>
  some ((x.1.1, x.1.2.1, x.1.2.2.1, y1.1, y2.1, y3.1, y4), ())
@[reducible] def sig (n : Nat) : Sig := ⟨[tGateBook], [tGateBook], true, f n⟩
def T (n : Nat) : FuncId → Option Sig := fun g => if Nat.beq g 24 = true then some (laws_toGateObjectS.sig n) else if Nat.beq g 25 = true then some (laws_toGateGrantS.sig n) else if Nat.beq g 26 = true then some (laws_toGateLedgerS.sig n) else if Nat.beq g 27 = true then some (laws_toGatePurseS.sig n) else none
def TL (n : Nat) : Loops := fun j _ st k => none
theorem con (n : Nat) : Con Try.prog 8 (sig n) :=
  con_print (T := T n) (TL := TL n) (c := Try.f8.body.getD .skip) (js := []) hMixed (conT_cons (laws_toGateObjectS.con n) (conT_cons (laws_toGateGrantS.con n) (conT_cons (laws_toGateLedgerS.con n) (conT_cons (laws_toGatePurseS.con n) conT_none)))) Try.func8 (by decide) (by kernel_rfl) (by kernel_rfl) (by decide) LoopDef.nil (fun x => by kernel_rfl)
end laws_toGateBook
namespace spec_l4Over
@[reducible] def l2 : LSpec := ⟨[(0, .d (.slice tGateTeam)), (1, .d .str), (5, .d (.int .i64))], [(.ret, [(4, .d .str)]), (.exit 0, [])]⟩
def B2 (n : Nat) {R : Type} (next : Sden l2.inS → Option R) (cs : Conts R l2.outs) (x : Sden l2.inS) : Option R :=
  if (decide (x.2.2.1 < (List.length x.1 : Int))) = true then
    if (decide (0 ≤ x.2.2.1 ∧ x.2.2.1 < (List.length x.1 : Int))) = true then
      if (seq (List.getD x.1 (Int.toNat x.2.2.1) (Ty.zero tGateTeam)).1 x.2.1) = true then
        if (decide (0 ≤ x.2.2.1 ∧ x.2.2.1 < (List.length x.1 : Int))) = true then
          cs.1 ((List.getD x.1 (Int.toNat x.2.2.1) (Ty.zero tGateTeam)).2.1, ())
        else
          none
      else
        next (x.1, x.2.1, (IntKind.i64.wrap (x.2.2.1 + (1 : Int))), ())
    else
      none
  else
    cs.2.1 ()
def f (n : Nat) (x : Tup [(.slice tGateTeam), .str]) : Option (Tup [.str]) :=
  runL (B2 n) ((fun z1 =>
      some (z1.1, ())), (fun z2 =>
      some ((⟨#[]⟩ : ByteArray), ())), ()) n (x.1, x.2.1, (0 : Int), ())
@[reducible] def sig (n : Nat) : Sig := ⟨[(.slice tGateTeam), .str], [.str], false, f n⟩
def T (n : Nat) : FuncId → Option Sig := fun g => none
def TL (n : Nat) : Loops := fun j _ st k => if Nat.beq j 2 = true then (match dec st l2.inS [] with | some x => runL (B2 n) (contsOf k l2.outs) n x | none => none) else none
theorem d2 (n : Nat) : LoopDef Try.prog (T n) (TL n) Try.f44 2 :=
  ⟨l2, fun R => B2 n, n, fun R st k => by kernel_rfl, fun R next cs x => by kernel_rfl⟩
theorem con (n : Nat) : Con Try.prog 44 (sig n) :=
  con_print (T := T n) (TL := TL n) (c := Try.f44.body.getD .skip) (js := [2]) hMixed conT_none Try.func44 (by decide) (by kernel_rfl) (by kernel_rfl) (by decide) (LoopDef.cons (d2 n) LoopDef.nil) (fun x => by kernel_rfl)
end spec_l4Over
namespace spec_GateUnder
@[reducible] def l4 : LSpec := ⟨[(0, .d (.slice tGateTeam)), (1, .d .str), (2, .d .str), (7, .d (.int .i64))], [(.ret, [(6, .d .bool)]), (.exit 0, [])]⟩
def B4 (n : Nat) {R : Type} (next : Sden l4.inS → Option R) (cs : Conts R l4.outs) (x : Sden l4.inS) : Option R :=
  if (decide (x.2.2.2.1 < (4 : Int))) = true then
    (spec_l4Over.f n (x.1, x.2.1, ())).bind fun y1 =>
    if (seq y1.1 (⟨#[]⟩ : ByteArray)) = true then
      cs.1 (false, ())
    else if (seq y1.1 x.2.2.1) = true then
      cs.1 (true, ())
    else
      next (x.1, y1.1, x.2.2.1, (IntKind.i64.wrap (x.2.2.2.1 + (1 : Int))), ())
  else
    cs.2.1 ()
def f (n : Nat) (x : Tup [(.slice tGateTeam), .str, .str]) : Option (Tup [.bool]) :=
  if (seq x.2.1 x.2.2.1) = true then
    some (true, ())
  else
    runL (B4 n) ((fun z2 =>
        some (z2.1, ())), (fun z3 =>
        some (false, ())), ()) n (x.1, x.2.1, x.2.2.1, (0 : Int), ())
@[reducible] def sig (n : Nat) : Sig := ⟨[(.slice tGateTeam), .str, .str], [.bool], false, f n⟩
def T (n : Nat) : FuncId → Option Sig := fun g => if Nat.beq g 44 = true then some (spec_l4Over.sig n) else none
def TL (n : Nat) : Loops := fun j _ st k => if Nat.beq j 4 = true then (match dec st l4.inS [] with | some x => runL (B4 n) (contsOf k l4.outs) n x | none => none) else none
theorem d4 (n : Nat) : LoopDef Try.prog (T n) (TL n) Try.f19 4 :=
  ⟨l4, fun R => B4 n, n, fun R st k => by kernel_rfl, fun R next cs x => by kernel_rfl⟩
theorem con (n : Nat) : Con Try.prog 19 (sig n) :=
  con_print (T := T n) (TL := TL n) (c := Try.f19.body.getD .skip) (js := [4]) hMixed (conT_cons (spec_l4Over.con n) conT_none) Try.func19 (by decide) (by kernel_rfl) (by kernel_rfl) (by decide) (LoopDef.cons (d4 n) LoopDef.nil) (fun x => by kernel_rfl)
end spec_GateUnder
namespace spec_l1Shape
@[reducible] def l2 : LSpec := ⟨[(0, .d (.slice tGateShape)), (1, .d .str), (5, .d (.int .i64))], [(.ret, [(4, .d (.int .i64))]), (.exit 0, [])]⟩
def B2 (n : Nat) {R : Type} (next : Sden l2.inS → Option R) (cs : Conts R l2.outs) (x : Sden l2.inS) : Option R :=
  if (decide (x.2.2.1 < (List.length x.1 : Int))) = true then
    if (decide (0 ≤ x.2.2.1 ∧ x.2.2.1 < (List.length x.1 : Int))) = true then
      if (seq (List.getD x.1 (Int.toNat x.2.2.1) (Ty.zero tGateShape)).1 x.2.1) = true then
        cs.1 (x.2.2.1, ())
      else
        next (x.1, x.2.1, (IntKind.i64.wrap (x.2.2.1 + (1 : Int))), ())
    else
      none
  else
    cs.2.1 ()
def f (n : Nat) (x : Tup [(.slice tGateShape), .str]) : Option (Tup [(.int .i64)]) :=
  runL (B2 n) ((fun z1 =>
      some (z1.1, ())), (fun z2 =>
      some ((-1 : Int), ())), ()) n (x.1, x.2.1, (0 : Int), ())
@[reducible] def sig (n : Nat) : Sig := ⟨[(.slice tGateShape), .str], [(.int .i64)], false, f n⟩
def T (n : Nat) : FuncId → Option Sig := fun g => none
def TL (n : Nat) : Loops := fun j _ st k => if Nat.beq j 2 = true then (match dec st l2.inS [] with | some x => runL (B2 n) (contsOf k l2.outs) n x | none => none) else none
theorem d2 (n : Nat) : LoopDef Try.prog (T n) (TL n) Try.f67 2 :=
  ⟨l2, fun R => B2 n, n, fun R st k => by kernel_rfl, fun R next cs x => by kernel_rfl⟩
theorem con (n : Nat) : Con Try.prog 67 (sig n) :=
  con_print (T := T n) (TL := TL n) (c := Try.f67.body.getD .skip) (js := [2]) hMixed conT_none Try.func67 (by decide) (by kernel_rfl) (by kernel_rfl) (by decide) (LoopDef.cons (d2 n) LoopDef.nil) (fun x => by kernel_rfl)
end spec_l1Shape
namespace spec_l2Fields
def f (n : Nat) (x : Tup [(.slice tGateShape), tGateObject]) : Option (Tup [(.slice tGateField), .bool]) :=
  (spec_l1Shape.f n (x.1, x.2.1.1, ())).bind fun y1 =>
  if (!(!(decide (y1.1 < (0 : Int)))) || (decide (0 ≤ y1.1 ∧ y1.1 < (List.length x.1 : Int)))) = true then
    if ((decide (y1.1 < (0 : Int))) || ((List.length (List.getD x.1 (Int.toNat y1.1) (Ty.zero tGateShape)).2.1 : Int) != (List.length x.2.1.2.2.2.1 : Int))) = true then
      some ([], false, ())
    else if (decide (0 ≤ y1.1 ∧ y1.1 < (List.length x.1 : Int))) = true then
      some ((List.getD x.1 (Int.toNat y1.1) (Ty.zero tGateShape)).2.1, true, ())
    else
      none
  else
    none
@[reducible] def sig (n : Nat) : Sig := ⟨[(.slice tGateShape), tGateObject], [(.slice tGateField), .bool], false, f n⟩
def T (n : Nat) : FuncId → Option Sig := fun g => if Nat.beq g 67 = true then some (spec_l1Shape.sig n) else none
def TL (n : Nat) : Loops := fun j _ st k => none
theorem con (n : Nat) : Con Try.prog 45 (sig n) :=
  con_print (T := T n) (TL := TL n) (c := Try.f45.body.getD .skip) (js := []) hMixed (conT_cons (spec_l1Shape.con n) conT_none) Try.func45 (by decide) (by kernel_rfl) (by kernel_rfl) (by decide) LoopDef.nil (fun x => by kernel_rfl)
end spec_l2Fields
namespace spec_l1In
def f (n : Nat) (x : Tup [(.int .i64), (.int .i64), (.int .i64)]) : Option (Tup [.bool]) :=
  some (((decide (x.1 ≥ x.2.1)) && (decide (x.1 ≤ x.2.2.1))), ())
@[reducible] def sig (n : Nat) : Sig := ⟨[(.int .i64), (.int .i64), (.int .i64)], [.bool], false, f n⟩
def T (n : Nat) : FuncId → Option Sig := fun g => none
def TL (n : Nat) : Loops := fun j _ st k => none
theorem con (n : Nat) : Con Try.prog 68 (sig n) :=
  con_print (T := T n) (TL := TL n) (c := Try.f68.body.getD .skip) (js := []) hMixed conT_none Try.func68 (by decide) (by kernel_rfl) (by kernel_rfl) (by decide) LoopDef.nil (fun x => by kernel_rfl)
end spec_l1In
namespace spec_l1Number
@[reducible] def l5 : LSpec := ⟨[(0, .d .str), (3, .d (.int .i64)), (4, .d (.int .i64))], [(.ret, [(2, .d (.int .i64))]), (.exit 0, [(3, .d (.int .i64))])]⟩
def B5 (n : Nat) {R : Type} (next : Sden l5.inS → Option R) (cs : Conts R l5.outs) (x : Sden l5.inS) : Option R :=
  if (decide (x.2.2.1 < (ByteArray.size x.1 : Int))) = true then
    if (decide (0 ≤ x.2.2.1 ∧ x.2.2.1 < (ByteArray.size x.1 : Int))) = true then
      if (!(!(decide ((byteAt x.1 x.2.2.1) < (48 : Int)))) || (decide (0 ≤ x.2.2.1 ∧ x.2.2.1 < (ByteArray.size x.1 : Int)))) = true then
        if ((decide ((byteAt x.1 x.2.2.1) < (48 : Int))) || (decide ((byteAt x.1 x.2.2.1) > (57 : Int)))) = true then
          cs.1 ((-1 : Int), ())
        else if (decide (0 ≤ x.2.2.1 ∧ x.2.2.1 < (ByteArray.size x.1 : Int))) = true then
          next (x.1, (IntKind.i64.wrap ((IntKind.i64.wrap ((IntKind.i64.wrap (x.2.1 * (10 : Int))) + (IntKind.i64.wrap (byteAt x.1 x.2.2.1)))) - (48 : Int))), (IntKind.i64.wrap (x.2.2.1 + (1 : Int))), ())
        else
          none
      else
        none
    else
      none
  else
    cs.2.1 (x.2.1, ())
def f (n : Nat) (x : Tup [.str]) : Option (Tup [(.int .i64)]) :=
  (spec_l1In.f n ((ByteArray.size x.1 : Int), (1 : Int), (7 : Int), ())).bind fun y1 =>
  if (!((!(!y1.1)) && (decide ((ByteArray.size x.1 : Int) > (1 : Int)))) || (decide (0 ≤ (0 : Int) ∧ (0 : Int) < (ByteArray.size x.1 : Int)))) = true then
    if ((!y1.1) || ((decide ((ByteArray.size x.1 : Int) > (1 : Int))) && ((byteAt x.1 (0 : Int)) == (48 : Int)))) = true then
      some ((-1 : Int), ())
    else
      runL (B5 n) ((fun z2 =>
          some (z2.1, ())), (fun z3 =>
          some (z3.1, ())), ()) n (x.1, (0 : Int), (0 : Int), ())
  else
    none
@[reducible] def sig (n : Nat) : Sig := ⟨[.str], [(.int .i64)], false, f n⟩
def T (n : Nat) : FuncId → Option Sig := fun g => if Nat.beq g 68 = true then some (spec_l1In.sig n) else none
def TL (n : Nat) : Loops := fun j _ st k => if Nat.beq j 5 = true then (match dec st l5.inS [] with | some x => runL (B5 n) (contsOf k l5.outs) n x | none => none) else none
theorem d5 (n : Nat) : LoopDef Try.prog (T n) (TL n) Try.f46 5 :=
  ⟨l5, fun R => B5 n, n, fun R st k => by kernel_rfl, fun R next cs x => by kernel_rfl⟩
theorem con (n : Nat) : Con Try.prog 46 (sig n) :=
  con_print (T := T n) (TL := TL n) (c := Try.f46.body.getD .skip) (js := [5]) hMixed (conT_cons (spec_l1In.con n) conT_none) Try.func46 (by decide) (by kernel_rfl) (by kernel_rfl) (by decide) (LoopDef.cons (d5 n) LoopDef.nil) (fun x => by kernel_rfl)
end spec_l1Number
namespace spec_GateWeighs
@[reducible] def l8 : LSpec := ⟨[(2, .d .str), (4, .rb tGateObject), (7, .d (.slice tGateField)), (9, .d (.int .i64)), (10, .d (.int .i64))], [(.exit 0, [(9, .d (.int .i64))])]⟩
def B8 (n : Nat) {R : Type} (next : Sden l8.inS → Option R) (cs : Conts R l8.outs) (x : Sden l8.inS) : Option R :=
  if (decide (x.2.2.2.2.1 < (List.length x.2.2.1 : Int))) = true then
    if (decide (0 ≤ x.2.2.2.2.1 ∧ x.2.2.2.2.1 < (List.length x.2.1.2.2.2.1 : Int))) = true then
      (spec_l1Number.f n ((List.getD x.2.1.2.2.2.1 (Int.toNat x.2.2.2.2.1) (⟨#[]⟩ : ByteArray)), ())).bind fun y2 =>
      if (decide (0 ≤ x.2.2.2.2.1 ∧ x.2.2.2.2.1 < (List.length x.2.2.1 : Int))) = true then
        if (!((List.getD x.2.2.1 (Int.toNat x.2.2.2.2.1) (Ty.zero tGateField)).2.1 == (1 : Int)) || (decide (0 ≤ x.2.2.2.2.1 ∧ x.2.2.2.2.1 < (List.length x.2.2.1 : Int)))) = true then
          if ((((List.getD x.2.2.1 (Int.toNat x.2.2.2.2.1) (Ty.zero tGateField)).2.1 == (1 : Int)) && (seq (List.getD x.2.2.1 (Int.toNat x.2.2.2.2.1) (Ty.zero tGateField)).2.2.2.2.2.2.2.2.2.2.1 x.1)) && (decide (y2.1 > (0 : Int)))) = true then
            next (x.1, x.2.1, x.2.2.1, (IntKind.i64.wrap (x.2.2.2.1 + y2.1)), (IntKind.i64.wrap (x.2.2.2.2.1 + (1 : Int))), ())
          else
            next (x.1, x.2.1, x.2.2.1, x.2.2.2.1, (IntKind.i64.wrap (x.2.2.2.2.1 + (1 : Int))), ())
        else
          none
      else
        none
    else
      none
  else
    cs.1 (x.2.2.2.1, ())
def f (n : Nat) (x : Tup [tGateLaw, tGateObject, .str]) : Option (Tup [(.int .i64)]) :=
  (spec_l2Fields.f n (x.1.1, x.2.1, ())).bind fun y1 =>
  if ((!y1.2.1) || (seq x.2.2.1 (⟨#[]⟩ : ByteArray))) = true then
    some ((0 : Int), ())
  else if (seq x.2.2.1 x.2.1.1) = true then
    runL (B8 n) ((fun z3 =>
        some (z3.1, ())), ()) n (x.2.2.1, x.2.1, y1.1, (1 : Int), (0 : Int), ())
  else
    runL (B8 n) ((fun z4 =>
        some (z4.1, ())), ()) n (x.2.2.1, x.2.1, y1.1, (0 : Int), (0 : Int), ())
@[reducible] def sig (n : Nat) : Sig := ⟨[tGateLaw, tGateObject, .str], [(.int .i64)], false, f n⟩
def T (n : Nat) : FuncId → Option Sig := fun g => if Nat.beq g 45 = true then some (spec_l2Fields.sig n) else if Nat.beq g 46 = true then some (spec_l1Number.sig n) else none
def TL (n : Nat) : Loops := fun j _ st k => if Nat.beq j 8 = true then (match dec st l8.inS [] with | some x => runL (B8 n) (contsOf k l8.outs) n x | none => none) else none
theorem d8 (n : Nat) : LoopDef Try.prog (T n) (TL n) Try.f20 8 :=
  ⟨l8, fun R => B8 n, n, fun R st k => by kernel_rfl, fun R next cs x => by kernel_rfl⟩
theorem con (n : Nat) : Con Try.prog 20 (sig n) :=
  con_print (T := T n) (TL := TL n) (c := Try.f20.body.getD .skip) (js := [8]) hMixed (conT_cons (spec_l2Fields.con n) (conT_cons (spec_l1Number.con n) conT_none)) Try.func20 (by decide) (by kernel_rfl) (by kernel_rfl) (by decide) (LoopDef.cons (d8 n) LoopDef.nil) (fun x => by kernel_rfl)
end spec_GateWeighs
namespace spec_GateUsed
@[reducible] def l3 : LSpec := ⟨[(2, .d .str), (3, .d .str), (4, .rb tGateLaw), (5, .rb tGateBook), (9, .d (.int .i64)), (10, .d (.int .i64))], [(.exit 0, [(9, .d (.int .i64))])]⟩
def B3 (n : Nat) {R : Type} (next : Sden l3.inS → Option R) (cs : Conts R l3.outs) (x : Sden l3.inS) : Option R :=
  if (decide (x.2.2.2.2.2.1 < (List.length x.2.2.2.1.2.2.2.1 : Int))) = true then
    if (!true || (decide (0 ≤ x.2.2.2.2.2.1 ∧ x.2.2.2.2.2.1 < (List.length x.2.2.2.1.2.2.2.1 : Int)))) = true then
      (spec_GateUnder.f n (x.2.2.1.2.2.1, (List.getD x.2.2.2.1.2.2.2.1 (Int.toNat x.2.2.2.2.2.1) (Ty.zero tGateObject)).2.2.1, x.1, ())).bind fun y1 =>
      if y1.1 = true then
        if (!true || (decide (0 ≤ x.2.2.2.2.2.1 ∧ x.2.2.2.2.2.1 < (List.length x.2.2.2.1.2.2.2.1 : Int)))) = true then
          (if true = true then (spec_GateWeighs.f n (x.2.2.1, (List.getD x.2.2.2.1.2.2.2.1 (Int.toNat x.2.2.2.2.2.1) (Ty.zero tGateObject)), x.2.1, ())) else some (tzero [(.int .i64)])).bind fun y2 =>
          next (x.1, x.2.1, x.2.2.1, x.2.2.2.1, (IntKind.i64.wrap (x.2.2.2.2.1 + y2.1)), (IntKind.i64.wrap (x.2.2.2.2.2.1 + (1 : Int))), ())
        else
          none
      else
        next (x.1, x.2.1, x.2.2.1, x.2.2.2.1, x.2.2.2.2.1, (IntKind.i64.wrap (x.2.2.2.2.2.1 + (1 : Int))), ())
    else
      none
  else
    cs.1 (x.2.2.2.2.1, ())
def f (n : Nat) (x : Tup [tGateLaw, tGateBook, .str, .str]) : Option (Tup [(.int .i64)]) :=
  runL (B3 n) ((fun z3 =>
      some (z3.1, ())), ()) n (x.2.2.1, x.2.2.2.1, x.1, x.2.1, (0 : Int), (0 : Int), ())
@[reducible] def sig (n : Nat) : Sig := ⟨[tGateLaw, tGateBook, .str, .str], [(.int .i64)], false, f n⟩
def T (n : Nat) : FuncId → Option Sig := fun g => if Nat.beq g 19 = true then some (spec_GateUnder.sig n) else if Nat.beq g 20 = true then some (spec_GateWeighs.sig n) else none
def TL (n : Nat) : Loops := fun j _ st k => if Nat.beq j 3 = true then (match dec st l3.inS [] with | some x => runL (B3 n) (contsOf k l3.outs) n x | none => none) else none
theorem d3 (n : Nat) : LoopDef Try.prog (T n) (TL n) Try.f6 3 :=
  ⟨l3, fun R => B3 n, n, fun R st k => by kernel_rfl, fun R next cs x => by kernel_rfl⟩
theorem con (n : Nat) : Con Try.prog 6 (sig n) :=
  con_print (T := T n) (TL := TL n) (c := Try.f6.body.getD .skip) (js := [3]) hMixed (conT_cons (spec_GateUnder.con n) (conT_cons (spec_GateWeighs.con n) conT_none)) Try.func6 (by decide) (by kernel_rfl) (by kernel_rfl) (by decide) (LoopDef.cons (d3 n) LoopDef.nil) (fun x => by kernel_rfl)
end spec_GateUsed
namespace impl_teamOf
@[reducible] def l2 : LSpec := ⟨[(1, .d .str), (7, .d (.slice tGateTeam)), (8, .d (.int .i64)), (9, .d (.int .i64))], [(.ret, [(4, .d (.int .i64))]), (.exit 0, [])]⟩
def B2 (n : Nat) {R : Type} (next : Sden l2.inS → Option R) (cs : Conts R l2.outs) (x : Sden l2.inS) : Option R :=
  if (decide (x.2.2.2.1 < x.2.2.1)) = true then
    if (decide (0 ≤ x.2.2.2.1 ∧ x.2.2.2.1 < (List.length x.2.1 : Int))) = true then
      if (seq (List.getD x.2.1 (Int.toNat x.2.2.2.1) (Ty.zero tGateTeam)).1 x.1) = true then
        cs.1 (x.2.2.2.1, ())
      else
        next (x.1, x.2.1, x.2.2.1, (IntKind.i64.wrap (x.2.2.2.1 + (1 : Int))), ())
    else
      none
  else
    cs.2.1 ()
def f (n : Nat) (x : Tup [(.slice tGateTeam), .str]) : Option (Tup [(.int .i64)]) :=
  runL (B2 n) ((fun z1 =>
      some (z1.1, ())), (fun z2 =>
      some ((-1 : Int), ())), ()) n (x.2.1, x.1, (List.length x.1 : Int), (0 : Int), ())
@[reducible] def sig (n : Nat) : Sig := ⟨[(.slice tGateTeam), .str], [(.int .i64)], false, f n⟩
def T (n : Nat) : FuncId → Option Sig := fun g => none
def TL (n : Nat) : Loops := fun j _ st k => if Nat.beq j 2 = true then (match dec st l2.inS [] with | some x => runL (B2 n) (contsOf k l2.outs) n x | none => none) else none
theorem d2 (n : Nat) : LoopDef Try.prog (T n) (TL n) Try.f54 2 :=
  ⟨l2, fun R => B2 n, n, fun R st k => by kernel_rfl, fun R next cs x => by kernel_rfl⟩
theorem con (n : Nat) : Con Try.prog 54 (sig n) :=
  con_print (T := T n) (TL := TL n) (c := Try.f54.body.getD .skip) (js := [2]) hMixed conT_none Try.func54 (by decide) (by kernel_rfl) (by kernel_rfl) (by decide) (LoopDef.cons (d2 n) LoopDef.nil) (fun x => by kernel_rfl)
end impl_teamOf
namespace impl_GateUnder
@[reducible] def l2 : LSpec := ⟨[(0, .d (.slice tGateTeam)), (1, .d .str), (2, .d .str), (7, .d (.int .i64))], [(.ret, [(6, .d .bool)]), (.exit 0, [])]⟩
def B2 (n : Nat) {R : Type} (next : Sden l2.inS → Option R) (cs : Conts R l2.outs) (x : Sden l2.inS) : Option R :=
  if (!seq x.2.1 x.2.2.1) = true then
    (impl_teamOf.f n (x.1, x.2.1, ())).bind fun y1 =>
    if (!(!((x.2.2.2.1 == (4 : Int)) || (decide (y1.1 < (0 : Int))))) || (decide (0 ≤ y1.1 ∧ y1.1 < (List.length x.1 : Int)))) = true then
      if (((x.2.2.2.1 == (4 : Int)) || (decide (y1.1 < (0 : Int)))) || (seq (List.getD x.1 (Int.toNat y1.1) (Ty.zero tGateTeam)).2.1 (⟨#[]⟩ : ByteArray))) = true then
        cs.1 (false, ())
      else if (decide (0 ≤ y1.1 ∧ y1.1 < (List.length x.1 : Int))) = true then
        next (x.1, (List.getD x.1 (Int.toNat y1.1) (Ty.zero tGateTeam)).2.1, x.2.2.1, (IntKind.i64.wrap (x.2.2.2.1 + (1 : Int))), ())
      else
        none
    else
      none
  else
    cs.2.1 ()
def f (n : Nat) (x : Tup [(.slice tGateTeam), .str, .str]) : Option (Tup [.bool]) :=
  runL (B2 n) ((fun z2 =>
      some (z2.1, ())), (fun z3 =>
      some (true, ())), ()) n (x.1, x.2.1, x.2.2.1, (0 : Int), ())
@[reducible] def sig (n : Nat) : Sig := ⟨[(.slice tGateTeam), .str, .str], [.bool], false, f n⟩
def T (n : Nat) : FuncId → Option Sig := fun g => if Nat.beq g 54 = true then some (impl_teamOf.sig n) else none
def TL (n : Nat) : Loops := fun j _ st k => if Nat.beq j 2 = true then (match dec st l2.inS [] with | some x => runL (B2 n) (contsOf k l2.outs) n x | none => none) else none
theorem d2 (n : Nat) : LoopDef Try.prog (T n) (TL n) Try.f28 2 :=
  ⟨l2, fun R => B2 n, n, fun R st k => by kernel_rfl, fun R next cs x => by kernel_rfl⟩
theorem con (n : Nat) : Con Try.prog 28 (sig n) :=
  con_print (T := T n) (TL := TL n) (c := Try.f28.body.getD .skip) (js := [2]) hMixed (conT_cons (impl_teamOf.con n) conT_none) Try.func28 (by decide) (by kernel_rfl) (by kernel_rfl) (by decide) (LoopDef.cons (d2 n) LoopDef.nil) (fun x => by kernel_rfl)
end impl_GateUnder
namespace impl_shapeOf
@[reducible] def l2 : LSpec := ⟨[(1, .d .str), (7, .d (.slice tGateShape)), (8, .d (.int .i64)), (9, .d (.int .i64))], [(.ret, [(4, .d (.int .i64))]), (.exit 0, [])]⟩
def B2 (n : Nat) {R : Type} (next : Sden l2.inS → Option R) (cs : Conts R l2.outs) (x : Sden l2.inS) : Option R :=
  if (decide (x.2.2.2.1 < x.2.2.1)) = true then
    if (decide (0 ≤ x.2.2.2.1 ∧ x.2.2.2.1 < (List.length x.2.1 : Int))) = true then
      if (seq (List.getD x.2.1 (Int.toNat x.2.2.2.1) (Ty.zero tGateShape)).1 x.1) = true then
        cs.1 (x.2.2.2.1, ())
      else
        next (x.1, x.2.1, x.2.2.1, (IntKind.i64.wrap (x.2.2.2.1 + (1 : Int))), ())
    else
      none
  else
    cs.2.1 ()
def f (n : Nat) (x : Tup [(.slice tGateShape), .str]) : Option (Tup [(.int .i64)]) :=
  runL (B2 n) ((fun z1 =>
      some (z1.1, ())), (fun z2 =>
      some ((-1 : Int), ())), ()) n (x.2.1, x.1, (List.length x.1 : Int), (0 : Int), ())
@[reducible] def sig (n : Nat) : Sig := ⟨[(.slice tGateShape), .str], [(.int .i64)], false, f n⟩
def T (n : Nat) : FuncId → Option Sig := fun g => none
def TL (n : Nat) : Loops := fun j _ st k => if Nat.beq j 2 = true then (match dec st l2.inS [] with | some x => runL (B2 n) (contsOf k l2.outs) n x | none => none) else none
theorem d2 (n : Nat) : LoopDef Try.prog (T n) (TL n) Try.f72 2 :=
  ⟨l2, fun R => B2 n, n, fun R st k => by kernel_rfl, fun R next cs x => by kernel_rfl⟩
theorem con (n : Nat) : Con Try.prog 72 (sig n) :=
  con_print (T := T n) (TL := TL n) (c := Try.f72.body.getD .skip) (js := [2]) hMixed conT_none Try.func72 (by decide) (by kernel_rfl) (by kernel_rfl) (by decide) (LoopDef.cons (d2 n) LoopDef.nil) (fun x => by kernel_rfl)
end impl_shapeOf
namespace impl_fieldsOf
def f (n : Nat) (x : Tup [(.slice tGateShape), tGateObject]) : Option (Tup [(.slice tGateField), .bool]) :=
  (impl_shapeOf.f n (x.1, x.2.1.1, ())).bind fun y1 =>
  if (!(!(decide (y1.1 < (0 : Int)))) || (decide (0 ≤ y1.1 ∧ y1.1 < (List.length x.1 : Int)))) = true then
    if ((decide (y1.1 < (0 : Int))) || ((List.length x.2.1.2.2.2.1 : Int) != (List.length (List.getD x.1 (Int.toNat y1.1) (Ty.zero tGateShape)).2.1 : Int))) = true then
      some ([], false, ())
    else if (decide (0 ≤ y1.1 ∧ y1.1 < (List.length x.1 : Int))) = true then
      some ((List.getD x.1 (Int.toNat y1.1) (Ty.zero tGateShape)).2.1, true, ())
    else
      none
  else
    none
@[reducible] def sig (n : Nat) : Sig := ⟨[(.slice tGateShape), tGateObject], [(.slice tGateField), .bool], false, f n⟩
def T (n : Nat) : FuncId → Option Sig := fun g => if Nat.beq g 72 = true then some (impl_shapeOf.sig n) else none
def TL (n : Nat) : Loops := fun j _ st k => none
theorem con (n : Nat) : Con Try.prog 55 (sig n) :=
  con_print (T := T n) (TL := TL n) (c := Try.f55.body.getD .skip) (js := []) hMixed (conT_cons (impl_shapeOf.con n) conT_none) Try.func55 (by decide) (by kernel_rfl) (by kernel_rfl) (by decide) LoopDef.nil (fun x => by kernel_rfl)
end impl_fieldsOf
namespace impl_decimal
@[reducible] def l5 : LSpec := ⟨[(0, .d .str), (4, .d (.int .i64)), (25, .d (.int .i64)), (26, .d (.int .i64))], [(.ret, [(2, .d (.int .i64)), (3, .d .bool)]), (.exit 0, [(4, .d (.int .i64))])]⟩
def B5 (n : Nat) {R : Type} (next : Sden l5.inS → Option R) (cs : Conts R l5.outs) (x : Sden l5.inS) : Option R :=
  if (decide (x.2.2.2.1 < x.2.2.1)) = true then
    if (decide (0 ≤ x.2.2.2.1 ∧ x.2.2.2.1 < (ByteArray.size x.1 : Int))) = true then
      if (!(!(decide ((byteAt x.1 x.2.2.2.1) < (48 : Int)))) || (decide (0 ≤ x.2.2.2.1 ∧ x.2.2.2.1 < (ByteArray.size x.1 : Int)))) = true then
        if ((decide ((byteAt x.1 x.2.2.2.1) < (48 : Int))) || (decide ((byteAt x.1 x.2.2.2.1) > (57 : Int)))) = true then
          cs.1 ((0 : Int), false, ())
        else if (decide (0 ≤ x.2.2.2.1 ∧ x.2.2.2.1 < (ByteArray.size x.1 : Int))) = true then
          next (x.1, (IntKind.i64.wrap ((IntKind.i64.wrap (x.2.1 * (10 : Int))) + (IntKind.i64.wrap (IntKind.u8.wrap ((byteAt x.1 x.2.2.2.1) - (48 : Int)))))), x.2.2.1, (IntKind.i64.wrap (x.2.2.2.1 + (1 : Int))), ())
        else
          none
      else
        none
    else
      none
  else
    cs.2.1 (x.2.1, ())
def f (n : Nat) (x : Tup [.str]) : Option (Tup [(.int .i64), .bool]) :=
  if (!(!((decide ((ByteArray.size x.1 : Int) < (1 : Int))) || (decide ((ByteArray.size x.1 : Int) > (7 : Int))))) || (decide (0 ≤ (0 : Int) ∧ (0 : Int) < (ByteArray.size x.1 : Int)))) = true then
    if (((decide ((ByteArray.size x.1 : Int) < (1 : Int))) || (decide ((ByteArray.size x.1 : Int) > (7 : Int)))) || (((byteAt x.1 (0 : Int)) == (48 : Int)) && (decide ((ByteArray.size x.1 : Int) > (1 : Int))))) = true then
      some ((0 : Int), false, ())
    else
      runL (B5 n) ((fun z1 =>
          some (z1.1, z1.2.1, ())), (fun z2 =>
          some (z2.1, true, ())), ()) n (x.1, (0 : Int), (ByteArray.size x.1 : Int), (0 : Int), ())
  else
    none
@[reducible] def sig (n : Nat) : Sig := ⟨[.str], [(.int .i64), .bool], false, f n⟩
def T (n : Nat) : FuncId → Option Sig := fun g => none
def TL (n : Nat) : Loops := fun j _ st k => if Nat.beq j 5 = true then (match dec st l5.inS [] with | some x => runL (B5 n) (contsOf k l5.outs) n x | none => none) else none
theorem d5 (n : Nat) : LoopDef Try.prog (T n) (TL n) Try.f56 5 :=
  ⟨l5, fun R => B5 n, n, fun R st k => by kernel_rfl, fun R next cs x => by kernel_rfl⟩
theorem con (n : Nat) : Con Try.prog 56 (sig n) :=
  con_print (T := T n) (TL := TL n) (c := Try.f56.body.getD .skip) (js := [5]) hMixed conT_none Try.func56 (by decide) (by kernel_rfl) (by kernel_rfl) (by decide) (LoopDef.cons (d5 n) LoopDef.nil) (fun x => by kernel_rfl)
end impl_decimal
namespace impl_GateWeighs
@[reducible] def l8 : LSpec := ⟨[(2, .d .str), (4, .rb tGateObject), (9, .d (.int .i64)), (31, .d (.slice tGateField)), (32, .d (.int .i64)), (33, .d (.int .i64))], [(.exit 0, [(9, .d (.int .i64))])]⟩
def B8 (n : Nat) {R : Type} (next : Sden l8.inS → Option R) (cs : Conts R l8.outs) (x : Sden l8.inS) : Option R :=
  if (decide (x.2.2.2.2.2.1 < x.2.2.2.2.1)) = true then
    if (decide (0 ≤ x.2.2.2.2.2.1 ∧ x.2.2.2.2.2.1 < (List.length x.2.2.2.1 : Int))) = true then
      if (((List.getD x.2.2.2.1 (Int.toNat x.2.2.2.2.2.1) (Ty.zero tGateField)).2.1 != (1 : Int)) || (!seq (List.getD x.2.2.2.1 (Int.toNat x.2.2.2.2.2.1) (Ty.zero tGateField)).2.2.2.2.2.2.2.2.2.2.1 x.1)) = true then
        next (x.1, x.2.1, x.2.2.1, x.2.2.2.1, x.2.2.2.2.1, (IntKind.i64.wrap (x.2.2.2.2.2.1 + (1 : Int))), ())
      else if (decide (0 ≤ x.2.2.2.2.2.1 ∧ x.2.2.2.2.2.1 < (List.length x.2.1.2.2.2.1 : Int))) = true then
        (impl_decimal.f n ((List.getD x.2.1.2.2.2.1 (Int.toNat x.2.2.2.2.2.1) (⟨#[]⟩ : ByteArray)), ())).bind fun y2 =>
        next (x.1, x.2.1, (IntKind.i64.wrap (x.2.2.1 + y2.1)), x.2.2.2.1, x.2.2.2.2.1, (IntKind.i64.wrap (x.2.2.2.2.2.1 + (1 : Int))), ())
      else
        none
    else
      none
  else
    cs.1 (x.2.2.1, ())
def f (n : Nat) (x : Tup [tGateLaw, tGateObject, .str]) : Option (Tup [(.int .i64)]) :=
  (impl_fieldsOf.f n (x.1.1, x.2.1, ())).bind fun y1 =>
  if ((!y1.2.1) || (seq x.2.2.1 (⟨#[]⟩ : ByteArray))) = true then
    some ((0 : Int), ())
  else if (seq x.2.2.1 x.2.1.1) = true then
    runL (B8 n) ((fun z3 =>
        some (z3.1, ())), ()) n (x.2.2.1, x.2.1, (1 : Int), y1.1, (List.length y1.1 : Int), (0 : Int), ())
  else
    runL (B8 n) ((fun z4 =>
        some (z4.1, ())), ()) n (x.2.2.1, x.2.1, (0 : Int), y1.1, (List.length y1.1 : Int), (0 : Int), ())
@[reducible] def sig (n : Nat) : Sig := ⟨[tGateLaw, tGateObject, .str], [(.int .i64)], false, f n⟩
def T (n : Nat) : FuncId → Option Sig := fun g => if Nat.beq g 55 = true then some (impl_fieldsOf.sig n) else if Nat.beq g 56 = true then some (impl_decimal.sig n) else none
def TL (n : Nat) : Loops := fun j _ st k => if Nat.beq j 8 = true then (match dec st l8.inS [] with | some x => runL (B8 n) (contsOf k l8.outs) n x | none => none) else none
theorem d8 (n : Nat) : LoopDef Try.prog (T n) (TL n) Try.f29 8 :=
  ⟨l8, fun R => B8 n, n, fun R st k => by kernel_rfl, fun R next cs x => by kernel_rfl⟩
theorem con (n : Nat) : Con Try.prog 29 (sig n) :=
  con_print (T := T n) (TL := TL n) (c := Try.f29.body.getD .skip) (js := [8]) hMixed (conT_cons (impl_fieldsOf.con n) (conT_cons (impl_decimal.con n) conT_none)) Try.func29 (by decide) (by kernel_rfl) (by kernel_rfl) (by decide) (LoopDef.cons (d8 n) LoopDef.nil) (fun x => by kernel_rfl)
end impl_GateWeighs
namespace impl_GateUsed
@[reducible] def l3 : LSpec := ⟨[(2, .d .str), (3, .d .str), (4, .rb tGateLaw), (9, .d (.int .i64)), (13, .d (.slice tGateObject)), (14, .d (.int .i64)), (15, .d (.int .i64))], [(.exit 0, [(9, .d (.int .i64))])]⟩
def B3 (n : Nat) {R : Type} (next : Sden l3.inS → Option R) (cs : Conts R l3.outs) (x : Sden l3.inS) : Option R :=
  if (decide (x.2.2.2.2.2.2.1 < x.2.2.2.2.2.1)) = true then
    if (decide (0 ≤ x.2.2.2.2.2.2.1 ∧ x.2.2.2.2.2.2.1 < (List.length x.2.2.2.2.1 : Int))) = true then
      (impl_GateUnder.f n (x.2.2.1.2.2.1, (List.getD x.2.2.2.2.1 (Int.toNat x.2.2.2.2.2.2.1) (Ty.zero tGateObject)).2.2.1, x.1, ())).bind fun y1 =>
      if y1.1 = true then
        (impl_GateWeighs.f n (x.2.2.1, (List.getD x.2.2.2.2.1 (Int.toNat x.2.2.2.2.2.2.1) (Ty.zero tGateObject)), x.2.1, ())).bind fun y2 =>
        next (x.1, x.2.1, x.2.2.1, (IntKind.i64.wrap (x.2.2.2.1 + y2.1)), x.2.2.2.2.1, x.2.2.2.2.2.1, (IntKind.i64.wrap (x.2.2.2.2.2.2.1 + (1 : Int))), ())
      else
        next (x.1, x.2.1, x.2.2.1, x.2.2.2.1, x.2.2.2.2.1, x.2.2.2.2.2.1, (IntKind.i64.wrap (x.2.2.2.2.2.2.1 + (1 : Int))), ())
    else
      none
  else
    cs.1 (x.2.2.2.1, ())
def f (n : Nat) (x : Tup [tGateLaw, tGateBook, .str, .str]) : Option (Tup [(.int .i64)]) :=
  runL (B3 n) ((fun z3 =>
      some (z3.1, ())), ()) n (x.2.2.1, x.2.2.2.1, x.1, (0 : Int), x.2.1.2.2.2.1, (List.length x.2.1.2.2.2.1 : Int), (0 : Int), ())
@[reducible] def sig (n : Nat) : Sig := ⟨[tGateLaw, tGateBook, .str, .str], [(.int .i64)], false, f n⟩
def T (n : Nat) : FuncId → Option Sig := fun g => if Nat.beq g 28 = true then some (impl_GateUnder.sig n) else if Nat.beq g 29 = true then some (impl_GateWeighs.sig n) else none
def TL (n : Nat) : Loops := fun j _ st k => if Nat.beq j 3 = true then (match dec st l3.inS [] with | some x => runL (B3 n) (contsOf k l3.outs) n x | none => none) else none
theorem d3 (n : Nat) : LoopDef Try.prog (T n) (TL n) Try.f9 3 :=
  ⟨l3, fun R => B3 n, n, fun R st k => by kernel_rfl, fun R next cs x => by kernel_rfl⟩
theorem con (n : Nat) : Con Try.prog 9 (sig n) :=
  con_print (T := T n) (TL := TL n) (c := Try.f9.body.getD .skip) (js := [3]) hMixed (conT_cons (impl_GateUnder.con n) (conT_cons (impl_GateWeighs.con n) conT_none)) Try.func9 (by decide) (by kernel_rfl) (by kernel_rfl) (by decide) (LoopDef.cons (d3 n) LoopDef.nil) (fun x => by kernel_rfl)
end impl_GateUsed
namespace laws_eqStringS
@[reducible] def l4 : LSpec := ⟨[(0, .d (.slice .str)), (1, .d (.slice .str)), (5, .d (.int .i64))], [(.ret, [(4, .d .bool)]), (.exit 0, [])]⟩
def B4 (n : Nat) {R : Type} (next : Sden l4.inS → Option R) (cs : Conts R l4.outs) (x : Sden l4.inS) : Option R :=
  if (decide (x.2.2.1 < (List.length x.1 : Int))) = true then
    if (!true || (decide (0 ≤ x.2.2.1 ∧ x.2.2.1 < (List.length x.1 : Int)))) = true then
      if (!true || (decide (0 ≤ x.2.2.1 ∧ x.2.2.1 < (List.length x.2.1 : Int)))) = true then
        if (!seq (List.getD x.1 (Int.toNat x.2.2.1) (⟨#[]⟩ : ByteArray)) (List.getD x.2.1 (Int.toNat x.2.2.1) (⟨#[]⟩ : ByteArray))) = true then
          cs.1 (false, ())
        else
          next (x.1, x.2.1, (IntKind.i64.wrap (x.2.2.1 + (1 : Int))), ())
      else
        none
    else
      none
  else
    cs.2.1 ()
def f (n : Nat) (x : Tup [(.slice .str), (.slice .str)]) : Option (Tup [.bool]) :=
  if ((List.length x.1 : Int) != (List.length x.2.1 : Int)) = true then
    some (false, ())
  else
    runL (B4 n) ((fun z1 =>
        some (z1.1, ())), (fun z2 =>
        some (true, ())), ()) n (x.1, x.2.1, (0 : Int), ())
@[reducible] def sig (n : Nat) : Sig := ⟨[(.slice .str), (.slice .str)], [.bool], false, f n⟩
def T (n : Nat) : FuncId → Option Sig := fun g => none
def TL (n : Nat) : Loops := fun j _ st k => if Nat.beq j 4 = true then (match dec st l4.inS [] with | some x => runL (B4 n) (contsOf k l4.outs) n x | none => none) else none
theorem d4 (n : Nat) : LoopDef Try.prog (T n) (TL n) Try.f74 4 :=
  ⟨l4, fun R => B4 n, n, fun R st k => by kernel_rfl, fun R next cs x => by kernel_rfl⟩
theorem con (n : Nat) : Con Try.prog 74 (sig n) :=
  con_print (T := T n) (TL := TL n) (c := Try.f74.body.getD .skip) (js := [4]) hMixed conT_none Try.func74 (by decide) (by kernel_rfl) (by kernel_rfl) (by decide) (LoopDef.cons (d4 n) LoopDef.nil) (fun x => by kernel_rfl)
end laws_eqStringS
namespace laws_eqGateField
def f (n : Nat) (x : Tup [tGateField, tGateField]) : Option (Tup [.bool]) :=
  if (!seq x.1.1 x.2.1.1) = true then
    some (false, ())
  else if (x.1.2.1 != x.2.1.2.1) = true then
    some (false, ())
  else if (x.1.2.2.1 != x.2.1.2.2.1) = true then
    some (false, ())
  else if (x.1.2.2.2.1 != x.2.1.2.2.2.1) = true then
    some (false, ())
  else
    (laws_eqStringS.f n (x.1.2.2.2.2.1, x.2.1.2.2.2.2.1, ())).bind fun y1 =>
    if (!y1.1) = true then
      some (false, ())
    else if (!seq x.1.2.2.2.2.2.1 x.2.1.2.2.2.2.2.1) = true then
      some (false, ())
    else if (x.1.2.2.2.2.2.2.1 != x.2.1.2.2.2.2.2.2.1) = true then
      some (false, ())
    else if (!(x.1.2.2.2.2.2.2.2.1 == x.2.1.2.2.2.2.2.2.2.1)) = true then
      some (false, ())
    else if (!(x.1.2.2.2.2.2.2.2.2.1 == x.2.1.2.2.2.2.2.2.2.2.1)) = true then
      some (false, ())
    else if (!seq x.1.2.2.2.2.2.2.2.2.2.1 x.2.1.2.2.2.2.2.2.2.2.2.1) = true then
      some (false, ())
    else if (!seq x.1.2.2.2.2.2.2.2.2.2.2.1 x.2.1.2.2.2.2.2.2.2.2.2.2.1) = true then
      some (false, ())
    else
      some (true, ())
@[reducible] def sig (n : Nat) : Sig := ⟨[tGateField, tGateField], [.bool], false, f n⟩
def T (n : Nat) : FuncId → Option Sig := fun g => if Nat.beq g 74 = true then some (laws_eqStringS.sig n) else none
def TL (n : Nat) : Loops := fun j _ st k => none
theorem con (n : Nat) : Con Try.prog 80 (sig n) :=
  con_print (T := T n) (TL := TL n) (c := Try.f80.body.getD .skip) (js := []) hMixed (conT_cons (laws_eqStringS.con n) conT_none) Try.func80 (by decide) (by kernel_rfl) (by kernel_rfl) (by decide) LoopDef.nil (fun x => by kernel_rfl)
end laws_eqGateField
namespace laws_eqGateFieldS
@[reducible] def l4 : LSpec := ⟨[(0, .d (.slice tGateField)), (1, .d (.slice tGateField)), (5, .d (.int .i64))], [(.ret, [(4, .d .bool)]), (.exit 0, [])]⟩
def B4 (n : Nat) {R : Type} (next : Sden l4.inS → Option R) (cs : Conts R l4.outs) (x : Sden l4.inS) : Option R :=
  if (decide (x.2.2.1 < (List.length x.1 : Int))) = true then
    if (!true || (decide (0 ≤ x.2.2.1 ∧ x.2.2.1 < (List.length x.1 : Int)))) = true then
      if (!true || (decide (0 ≤ x.2.2.1 ∧ x.2.2.1 < (List.length x.2.1 : Int)))) = true then
        (laws_eqGateField.f n ((List.getD x.1 (Int.toNat x.2.2.1) (Ty.zero tGateField)), (List.getD x.2.1 (Int.toNat x.2.2.1) (Ty.zero tGateField)), ())).bind fun y1 =>
        if (!y1.1) = true then
          cs.1 (false, ())
        else
          next (x.1, x.2.1, (IntKind.i64.wrap (x.2.2.1 + (1 : Int))), ())
      else
        none
    else
      none
  else
    cs.2.1 ()
def f (n : Nat) (x : Tup [(.slice tGateField), (.slice tGateField)]) : Option (Tup [.bool]) :=
  if ((List.length x.1 : Int) != (List.length x.2.1 : Int)) = true then
    some (false, ())
  else
    runL (B4 n) ((fun z2 =>
        some (z2.1, ())), (fun z3 =>
        some (true, ())), ()) n (x.1, x.2.1, (0 : Int), ())
@[reducible] def sig (n : Nat) : Sig := ⟨[(.slice tGateField), (.slice tGateField)], [.bool], false, f n⟩
def T (n : Nat) : FuncId → Option Sig := fun g => if Nat.beq g 80 = true then some (laws_eqGateField.sig n) else none
def TL (n : Nat) : Loops := fun j _ st k => if Nat.beq j 4 = true then (match dec st l4.inS [] with | some x => runL (B4 n) (contsOf k l4.outs) n x | none => none) else none
theorem d4 (n : Nat) : LoopDef Try.prog (T n) (TL n) Try.f73 4 :=
  ⟨l4, fun R => B4 n, n, fun R st k => by kernel_rfl, fun R next cs x => by kernel_rfl⟩
theorem con (n : Nat) : Con Try.prog 73 (sig n) :=
  con_print (T := T n) (TL := TL n) (c := Try.f73.body.getD .skip) (js := [4]) hMixed (conT_cons (laws_eqGateField.con n) conT_none) Try.func73 (by decide) (by kernel_rfl) (by kernel_rfl) (by decide) (LoopDef.cons (d4 n) LoopDef.nil) (fun x => by kernel_rfl)
end laws_eqGateFieldS
namespace laws_eqGateShape
def f (n : Nat) (x : Tup [tGateShape, tGateShape]) : Option (Tup [.bool]) :=
  if (!seq x.1.1 x.2.1.1) = true then
    some (false, ())
  else
    (laws_eqGateFieldS.f n (x.1.2.1, x.2.1.2.1, ())).bind fun y1 =>
    if (!y1.1) = true then
      some (false, ())
    else
      some (true, ())
@[reducible] def sig (n : Nat) : Sig := ⟨[tGateShape, tGateShape], [.bool], false, f n⟩
def T (n : Nat) : FuncId → Option Sig := fun g => if Nat.beq g 73 = true then some (laws_eqGateFieldS.sig n) else none
def TL (n : Nat) : Loops := fun j _ st k => none
theorem con (n : Nat) : Con Try.prog 57 (sig n) :=
  con_print (T := T n) (TL := TL n) (c := Try.f57.body.getD .skip) (js := []) hMixed (conT_cons (laws_eqGateFieldS.con n) conT_none) Try.func57 (by decide) (by kernel_rfl) (by kernel_rfl) (by decide) LoopDef.nil (fun x => by kernel_rfl)
end laws_eqGateShape
namespace laws_eqGateShapeS
@[reducible] def l4 : LSpec := ⟨[(0, .d (.slice tGateShape)), (1, .d (.slice tGateShape)), (5, .d (.int .i64))], [(.ret, [(4, .d .bool)]), (.exit 0, [])]⟩
def B4 (n : Nat) {R : Type} (next : Sden l4.inS → Option R) (cs : Conts R l4.outs) (x : Sden l4.inS) : Option R :=
  if (decide (x.2.2.1 < (List.length x.1 : Int))) = true then
    if (!true || (decide (0 ≤ x.2.2.1 ∧ x.2.2.1 < (List.length x.1 : Int)))) = true then
      if (!true || (decide (0 ≤ x.2.2.1 ∧ x.2.2.1 < (List.length x.2.1 : Int)))) = true then
        (laws_eqGateShape.f n ((List.getD x.1 (Int.toNat x.2.2.1) (Ty.zero tGateShape)), (List.getD x.2.1 (Int.toNat x.2.2.1) (Ty.zero tGateShape)), ())).bind fun y1 =>
        if (!y1.1) = true then
          cs.1 (false, ())
        else
          next (x.1, x.2.1, (IntKind.i64.wrap (x.2.2.1 + (1 : Int))), ())
      else
        none
    else
      none
  else
    cs.2.1 ()
def f (n : Nat) (x : Tup [(.slice tGateShape), (.slice tGateShape)]) : Option (Tup [.bool]) :=
  if ((List.length x.1 : Int) != (List.length x.2.1 : Int)) = true then
    some (false, ())
  else
    runL (B4 n) ((fun z2 =>
        some (z2.1, ())), (fun z3 =>
        some (true, ())), ()) n (x.1, x.2.1, (0 : Int), ())
@[reducible] def sig (n : Nat) : Sig := ⟨[(.slice tGateShape), (.slice tGateShape)], [.bool], false, f n⟩
def T (n : Nat) : FuncId → Option Sig := fun g => if Nat.beq g 57 = true then some (laws_eqGateShape.sig n) else none
def TL (n : Nat) : Loops := fun j _ st k => if Nat.beq j 4 = true then (match dec st l4.inS [] with | some x => runL (B4 n) (contsOf k l4.outs) n x | none => none) else none
theorem d4 (n : Nat) : LoopDef Try.prog (T n) (TL n) Try.f30 4 :=
  ⟨l4, fun R => B4 n, n, fun R st k => by kernel_rfl, fun R next cs x => by kernel_rfl⟩
theorem con (n : Nat) : Con Try.prog 30 (sig n) :=
  con_print (T := T n) (TL := TL n) (c := Try.f30.body.getD .skip) (js := [4]) hMixed (conT_cons (laws_eqGateShape.con n) conT_none) Try.func30 (by decide) (by kernel_rfl) (by kernel_rfl) (by decide) (LoopDef.cons (d4 n) LoopDef.nil) (fun x => by kernel_rfl)
end laws_eqGateShapeS
namespace laws_eqGateMend
def f (n : Nat) (x : Tup [tGateMend, tGateMend]) : Option (Tup [.bool]) :=
  if (!seq x.1.1 x.2.1.1) = true then
    some (false, ())
  else if (!seq x.1.2.1 x.2.1.2.1) = true then
    some (false, ())
  else if (!seq x.1.2.2.1 x.2.1.2.2.1) = true then
    some (false, ())
  else if (!seq x.1.2.2.2.1 x.2.1.2.2.2.1) = true then
    some (false, ())
  else if (!seq x.1.2.2.2.2.1 x.2.1.2.2.2.2.1) = true then
    some (false, ())
  else if (!seq x.1.2.2.2.2.2.1 x.2.1.2.2.2.2.2.1) = true then
    some (false, ())
  else
    some (true, ())
@[reducible] def sig (n : Nat) : Sig := ⟨[tGateMend, tGateMend], [.bool], false, f n⟩
def T (n : Nat) : FuncId → Option Sig := fun g => none
def TL (n : Nat) : Loops := fun j _ st k => none
theorem con (n : Nat) : Con Try.prog 58 (sig n) :=
  con_print (T := T n) (TL := TL n) (c := Try.f58.body.getD .skip) (js := []) hMixed conT_none Try.func58 (by decide) (by kernel_rfl) (by kernel_rfl) (by decide) LoopDef.nil (fun x => by kernel_rfl)
end laws_eqGateMend
namespace laws_eqGateMendS
@[reducible] def l4 : LSpec := ⟨[(0, .d (.slice tGateMend)), (1, .d (.slice tGateMend)), (5, .d (.int .i64))], [(.ret, [(4, .d .bool)]), (.exit 0, [])]⟩
def B4 (n : Nat) {R : Type} (next : Sden l4.inS → Option R) (cs : Conts R l4.outs) (x : Sden l4.inS) : Option R :=
  if (decide (x.2.2.1 < (List.length x.1 : Int))) = true then
    if (!true || (decide (0 ≤ x.2.2.1 ∧ x.2.2.1 < (List.length x.1 : Int)))) = true then
      if (!true || (decide (0 ≤ x.2.2.1 ∧ x.2.2.1 < (List.length x.2.1 : Int)))) = true then
        (laws_eqGateMend.f n ((List.getD x.1 (Int.toNat x.2.2.1) (Ty.zero tGateMend)), (List.getD x.2.1 (Int.toNat x.2.2.1) (Ty.zero tGateMend)), ())).bind fun y1 =>
        if (!y1.1) = true then
          cs.1 (false, ())
        else
          next (x.1, x.2.1, (IntKind.i64.wrap (x.2.2.1 + (1 : Int))), ())
      else
        none
    else
      none
  else
    cs.2.1 ()
def f (n : Nat) (x : Tup [(.slice tGateMend), (.slice tGateMend)]) : Option (Tup [.bool]) :=
  if ((List.length x.1 : Int) != (List.length x.2.1 : Int)) = true then
    some (false, ())
  else
    runL (B4 n) ((fun z2 =>
        some (z2.1, ())), (fun z3 =>
        some (true, ())), ()) n (x.1, x.2.1, (0 : Int), ())
@[reducible] def sig (n : Nat) : Sig := ⟨[(.slice tGateMend), (.slice tGateMend)], [.bool], false, f n⟩
def T (n : Nat) : FuncId → Option Sig := fun g => if Nat.beq g 58 = true then some (laws_eqGateMend.sig n) else none
def TL (n : Nat) : Loops := fun j _ st k => if Nat.beq j 4 = true then (match dec st l4.inS [] with | some x => runL (B4 n) (contsOf k l4.outs) n x | none => none) else none
theorem d4 (n : Nat) : LoopDef Try.prog (T n) (TL n) Try.f31 4 :=
  ⟨l4, fun R => B4 n, n, fun R st k => by kernel_rfl, fun R next cs x => by kernel_rfl⟩
theorem con (n : Nat) : Con Try.prog 31 (sig n) :=
  con_print (T := T n) (TL := TL n) (c := Try.f31.body.getD .skip) (js := [4]) hMixed (conT_cons (laws_eqGateMend.con n) conT_none) Try.func31 (by decide) (by kernel_rfl) (by kernel_rfl) (by decide) (LoopDef.cons (d4 n) LoopDef.nil) (fun x => by kernel_rfl)
end laws_eqGateMendS
namespace laws_eqGateTeam
def f (n : Nat) (x : Tup [tGateTeam, tGateTeam]) : Option (Tup [.bool]) :=
  if (!seq x.1.1 x.2.1.1) = true then
    some (false, ())
  else if (!seq x.1.2.1 x.2.1.2.1) = true then
    some (false, ())
  else
    some (true, ())
@[reducible] def sig (n : Nat) : Sig := ⟨[tGateTeam, tGateTeam], [.bool], false, f n⟩
def T (n : Nat) : FuncId → Option Sig := fun g => none
def TL (n : Nat) : Loops := fun j _ st k => none
theorem con (n : Nat) : Con Try.prog 59 (sig n) :=
  con_print (T := T n) (TL := TL n) (c := Try.f59.body.getD .skip) (js := []) hMixed conT_none Try.func59 (by decide) (by kernel_rfl) (by kernel_rfl) (by decide) LoopDef.nil (fun x => by kernel_rfl)
end laws_eqGateTeam
namespace laws_eqGateTeamS
@[reducible] def l4 : LSpec := ⟨[(0, .d (.slice tGateTeam)), (1, .d (.slice tGateTeam)), (5, .d (.int .i64))], [(.ret, [(4, .d .bool)]), (.exit 0, [])]⟩
def B4 (n : Nat) {R : Type} (next : Sden l4.inS → Option R) (cs : Conts R l4.outs) (x : Sden l4.inS) : Option R :=
  if (decide (x.2.2.1 < (List.length x.1 : Int))) = true then
    if (!true || (decide (0 ≤ x.2.2.1 ∧ x.2.2.1 < (List.length x.1 : Int)))) = true then
      if (!true || (decide (0 ≤ x.2.2.1 ∧ x.2.2.1 < (List.length x.2.1 : Int)))) = true then
        (laws_eqGateTeam.f n ((List.getD x.1 (Int.toNat x.2.2.1) (Ty.zero tGateTeam)), (List.getD x.2.1 (Int.toNat x.2.2.1) (Ty.zero tGateTeam)), ())).bind fun y1 =>
        if (!y1.1) = true then
          cs.1 (false, ())
        else
          next (x.1, x.2.1, (IntKind.i64.wrap (x.2.2.1 + (1 : Int))), ())
      else
        none
    else
      none
  else
    cs.2.1 ()
def f (n : Nat) (x : Tup [(.slice tGateTeam), (.slice tGateTeam)]) : Option (Tup [.bool]) :=
  if ((List.length x.1 : Int) != (List.length x.2.1 : Int)) = true then
    some (false, ())
  else
    runL (B4 n) ((fun z2 =>
        some (z2.1, ())), (fun z3 =>
        some (true, ())), ()) n (x.1, x.2.1, (0 : Int), ())
@[reducible] def sig (n : Nat) : Sig := ⟨[(.slice tGateTeam), (.slice tGateTeam)], [.bool], false, f n⟩
def T (n : Nat) : FuncId → Option Sig := fun g => if Nat.beq g 59 = true then some (laws_eqGateTeam.sig n) else none
def TL (n : Nat) : Loops := fun j _ st k => if Nat.beq j 4 = true then (match dec st l4.inS [] with | some x => runL (B4 n) (contsOf k l4.outs) n x | none => none) else none
theorem d4 (n : Nat) : LoopDef Try.prog (T n) (TL n) Try.f32 4 :=
  ⟨l4, fun R => B4 n, n, fun R st k => by kernel_rfl, fun R next cs x => by kernel_rfl⟩
theorem con (n : Nat) : Con Try.prog 32 (sig n) :=
  con_print (T := T n) (TL := TL n) (c := Try.f32.body.getD .skip) (js := [4]) hMixed (conT_cons (laws_eqGateTeam.con n) conT_none) Try.func32 (by decide) (by kernel_rfl) (by kernel_rfl) (by decide) (LoopDef.cons (d4 n) LoopDef.nil) (fun x => by kernel_rfl)
end laws_eqGateTeamS
namespace laws_eqGateLaw
def f (n : Nat) (x : Tup [tGateLaw, tGateLaw]) : Option (Tup [.bool]) :=
  (laws_eqGateShapeS.f n (x.1.1, x.2.1.1, ())).bind fun y1 =>
  if (!y1.1) = true then
    some (false, ())
  else
    (laws_eqGateMendS.f n (x.1.2.1, x.2.1.2.1, ())).bind fun y2 =>
    if (!y2.1) = true then
      some (false, ())
    else
      (laws_eqGateTeamS.f n (x.1.2.2.1, x.2.1.2.2.1, ())).bind fun y3 =>
      if (!y3.1) = true then
        some (false, ())
      else
        some (true, ())
@[reducible] def sig (n : Nat) : Sig := ⟨[tGateLaw, tGateLaw], [.bool], false, f n⟩
def T (n : Nat) : FuncId → Option Sig := fun g => if Nat.beq g 30 = true then some (laws_eqGateShapeS.sig n) else if Nat.beq g 31 = true then some (laws_eqGateMendS.sig n) else if Nat.beq g 32 = true then some (laws_eqGateTeamS.sig n) else none
def TL (n : Nat) : Loops := fun j _ st k => none
theorem con (n : Nat) : Con Try.prog 10 (sig n) :=
  con_print (T := T n) (TL := TL n) (c := Try.f10.body.getD .skip) (js := []) hMixed (conT_cons (laws_eqGateShapeS.con n) (conT_cons (laws_eqGateMendS.con n) (conT_cons (laws_eqGateTeamS.con n) conT_none))) Try.func10 (by decide) (by kernel_rfl) (by kernel_rfl) (by decide) LoopDef.nil (fun x => by kernel_rfl)
end laws_eqGateLaw
namespace laws_eqGateObject
def f (n : Nat) (x : Tup [tGateObject, tGateObject]) : Option (Tup [.bool]) :=
  if (!seq x.1.1 x.2.1.1) = true then
    some (false, ())
  else if (!seq x.1.2.1 x.2.1.2.1) = true then
    some (false, ())
  else if (!seq x.1.2.2.1 x.2.1.2.2.1) = true then
    some (false, ())
  else
    (laws_eqStringS.f n (x.1.2.2.2.1, x.2.1.2.2.2.1, ())).bind fun y1 =>
    if (!y1.1) = true then
      some (false, ())
    else if (!(x.1.2.2.2.2.1 == x.2.1.2.2.2.2.1)) = true then
      some (false, ())
    else
      (laws_eqStringS.f n (x.1.2.2.2.2.2.1, x.2.1.2.2.2.2.2.1, ())).bind fun y2 =>
      if (!y2.1) = true then
        some (false, ())
      else if (x.1.2.2.2.2.2.2.1 != x.2.1.2.2.2.2.2.2.1) = true then
        some (false, ())
      else
        some (true, ())
@[reducible] def sig (n : Nat) : Sig := ⟨[tGateObject, tGateObject], [.bool], false, f n⟩
def T (n : Nat) : FuncId → Option Sig := fun g => if Nat.beq g 74 = true then some (laws_eqStringS.sig n) else none
def TL (n : Nat) : Loops := fun j _ st k => none
theorem con (n : Nat) : Con Try.prog 60 (sig n) :=
  con_print (T := T n) (TL := TL n) (c := Try.f60.body.getD .skip) (js := []) hMixed (conT_cons (laws_eqStringS.con n) conT_none) Try.func60 (by decide) (by kernel_rfl) (by kernel_rfl) (by decide) LoopDef.nil (fun x => by kernel_rfl)
end laws_eqGateObject
namespace laws_eqGateObjectS
@[reducible] def l4 : LSpec := ⟨[(0, .d (.slice tGateObject)), (1, .d (.slice tGateObject)), (5, .d (.int .i64))], [(.ret, [(4, .d .bool)]), (.exit 0, [])]⟩
def B4 (n : Nat) {R : Type} (next : Sden l4.inS → Option R) (cs : Conts R l4.outs) (x : Sden l4.inS) : Option R :=
  if (decide (x.2.2.1 < (List.length x.1 : Int))) = true then
    if (!true || (decide (0 ≤ x.2.2.1 ∧ x.2.2.1 < (List.length x.1 : Int)))) = true then
      if (!true || (decide (0 ≤ x.2.2.1 ∧ x.2.2.1 < (List.length x.2.1 : Int)))) = true then
        (laws_eqGateObject.f n ((List.getD x.1 (Int.toNat x.2.2.1) (Ty.zero tGateObject)), (List.getD x.2.1 (Int.toNat x.2.2.1) (Ty.zero tGateObject)), ())).bind fun y1 =>
        if (!y1.1) = true then
          cs.1 (false, ())
        else
          next (x.1, x.2.1, (IntKind.i64.wrap (x.2.2.1 + (1 : Int))), ())
      else
        none
    else
      none
  else
    cs.2.1 ()
def f (n : Nat) (x : Tup [(.slice tGateObject), (.slice tGateObject)]) : Option (Tup [.bool]) :=
  if ((List.length x.1 : Int) != (List.length x.2.1 : Int)) = true then
    some (false, ())
  else
    runL (B4 n) ((fun z2 =>
        some (z2.1, ())), (fun z3 =>
        some (true, ())), ()) n (x.1, x.2.1, (0 : Int), ())
@[reducible] def sig (n : Nat) : Sig := ⟨[(.slice tGateObject), (.slice tGateObject)], [.bool], false, f n⟩
def T (n : Nat) : FuncId → Option Sig := fun g => if Nat.beq g 60 = true then some (laws_eqGateObject.sig n) else none
def TL (n : Nat) : Loops := fun j _ st k => if Nat.beq j 4 = true then (match dec st l4.inS [] with | some x => runL (B4 n) (contsOf k l4.outs) n x | none => none) else none
theorem d4 (n : Nat) : LoopDef Try.prog (T n) (TL n) Try.f33 4 :=
  ⟨l4, fun R => B4 n, n, fun R st k => by kernel_rfl, fun R next cs x => by kernel_rfl⟩
theorem con (n : Nat) : Con Try.prog 33 (sig n) :=
  con_print (T := T n) (TL := TL n) (c := Try.f33.body.getD .skip) (js := [4]) hMixed (conT_cons (laws_eqGateObject.con n) conT_none) Try.func33 (by decide) (by kernel_rfl) (by kernel_rfl) (by decide) (LoopDef.cons (d4 n) LoopDef.nil) (fun x => by kernel_rfl)
end laws_eqGateObjectS
namespace laws_eqIntS
@[reducible] def l4 : LSpec := ⟨[(0, .d (.slice (.int .i64))), (1, .d (.slice (.int .i64))), (5, .d (.int .i64))], [(.ret, [(4, .d .bool)]), (.exit 0, [])]⟩
def B4 (n : Nat) {R : Type} (next : Sden l4.inS → Option R) (cs : Conts R l4.outs) (x : Sden l4.inS) : Option R :=
  if (decide (x.2.2.1 < (List.length x.1 : Int))) = true then
    if (!true || (decide (0 ≤ x.2.2.1 ∧ x.2.2.1 < (List.length x.1 : Int)))) = true then
      if (!true || (decide (0 ≤ x.2.2.1 ∧ x.2.2.1 < (List.length x.2.1 : Int)))) = true then
        if ((List.getD x.1 (Int.toNat x.2.2.1) (0 : Int)) != (List.getD x.2.1 (Int.toNat x.2.2.1) (0 : Int))) = true then
          cs.1 (false, ())
        else
          next (x.1, x.2.1, (IntKind.i64.wrap (x.2.2.1 + (1 : Int))), ())
      else
        none
    else
      none
  else
    cs.2.1 ()
def f (n : Nat) (x : Tup [(.slice (.int .i64)), (.slice (.int .i64))]) : Option (Tup [.bool]) :=
  if ((List.length x.1 : Int) != (List.length x.2.1 : Int)) = true then
    some (false, ())
  else
    runL (B4 n) ((fun z1 =>
        some (z1.1, ())), (fun z2 =>
        some (true, ())), ()) n (x.1, x.2.1, (0 : Int), ())
@[reducible] def sig (n : Nat) : Sig := ⟨[(.slice (.int .i64)), (.slice (.int .i64))], [.bool], false, f n⟩
def T (n : Nat) : FuncId → Option Sig := fun g => none
def TL (n : Nat) : Loops := fun j _ st k => if Nat.beq j 4 = true then (match dec st l4.inS [] with | some x => runL (B4 n) (contsOf k l4.outs) n x | none => none) else none
theorem d4 (n : Nat) : LoopDef Try.prog (T n) (TL n) Try.f81 4 :=
  ⟨l4, fun R => B4 n, n, fun R st k => by kernel_rfl, fun R next cs x => by kernel_rfl⟩
theorem con (n : Nat) : Con Try.prog 81 (sig n) :=
  con_print (T := T n) (TL := TL n) (c := Try.f81.body.getD .skip) (js := [4]) hMixed conT_none Try.func81 (by decide) (by kernel_rfl) (by kernel_rfl) (by decide) (LoopDef.cons (d4 n) LoopDef.nil) (fun x => by kernel_rfl)
end laws_eqIntS
namespace laws_eqGateRule
def f (n : Nat) (x : Tup [tGateRule, tGateRule]) : Option (Tup [.bool]) :=
  (laws_eqIntS.f n (x.1.1, x.2.1.1, ())).bind fun y1 =>
  if (!y1.1) = true then
    some (false, ())
  else if (!seq x.1.2.1 x.2.1.2.1) = true then
    some (false, ())
  else if (!seq x.1.2.2.1 x.2.1.2.2.1) = true then
    some (false, ())
  else if (!seq x.1.2.2.2.1 x.2.1.2.2.2.1) = true then
    some (false, ())
  else
    some (true, ())
@[reducible] def sig (n : Nat) : Sig := ⟨[tGateRule, tGateRule], [.bool], false, f n⟩
def T (n : Nat) : FuncId → Option Sig := fun g => if Nat.beq g 81 = true then some (laws_eqIntS.sig n) else none
def TL (n : Nat) : Loops := fun j _ st k => none
theorem con (n : Nat) : Con Try.prog 75 (sig n) :=
  con_print (T := T n) (TL := TL n) (c := Try.f75.body.getD .skip) (js := []) hMixed (conT_cons (laws_eqIntS.con n) conT_none) Try.func75 (by decide) (by kernel_rfl) (by kernel_rfl) (by decide) LoopDef.nil (fun x => by kernel_rfl)
end laws_eqGateRule
namespace laws_eqGateGrant
def f (n : Nat) (x : Tup [tGateGrant, tGateGrant]) : Option (Tup [.bool]) :=
  if (x.1.1 != x.2.1.1) = true then
    some (false, ())
  else if (!seq x.1.2.1 x.2.1.2.1) = true then
    some (false, ())
  else if (!seq x.1.2.2.1 x.2.1.2.2.1) = true then
    some (false, ())
  else
    (laws_eqGateRule.f n (x.1.2.2.2.1, x.2.1.2.2.2.1, ())).bind fun y1 =>
    if (!y1.1) = true then
      some (false, ())
    else
      some (true, ())
@[reducible] def sig (n : Nat) : Sig := ⟨[tGateGrant, tGateGrant], [.bool], false, f n⟩
def T (n : Nat) : FuncId → Option Sig := fun g => if Nat.beq g 75 = true then some (laws_eqGateRule.sig n) else none
def TL (n : Nat) : Loops := fun j _ st k => none
theorem con (n : Nat) : Con Try.prog 61 (sig n) :=
  con_print (T := T n) (TL := TL n) (c := Try.f61.body.getD .skip) (js := []) hMixed (conT_cons (laws_eqGateRule.con n) conT_none) Try.func61 (by decide) (by kernel_rfl) (by kernel_rfl) (by decide) LoopDef.nil (fun x => by kernel_rfl)
end laws_eqGateGrant
namespace laws_eqGateGrantS
@[reducible] def l4 : LSpec := ⟨[(0, .d (.slice tGateGrant)), (1, .d (.slice tGateGrant)), (5, .d (.int .i64))], [(.ret, [(4, .d .bool)]), (.exit 0, [])]⟩
def B4 (n : Nat) {R : Type} (next : Sden l4.inS → Option R) (cs : Conts R l4.outs) (x : Sden l4.inS) : Option R :=
  if (decide (x.2.2.1 < (List.length x.1 : Int))) = true then
    if (!true || (decide (0 ≤ x.2.2.1 ∧ x.2.2.1 < (List.length x.1 : Int)))) = true then
      if (!true || (decide (0 ≤ x.2.2.1 ∧ x.2.2.1 < (List.length x.2.1 : Int)))) = true then
        (laws_eqGateGrant.f n ((List.getD x.1 (Int.toNat x.2.2.1) (Ty.zero tGateGrant)), (List.getD x.2.1 (Int.toNat x.2.2.1) (Ty.zero tGateGrant)), ())).bind fun y1 =>
        if (!y1.1) = true then
          cs.1 (false, ())
        else
          next (x.1, x.2.1, (IntKind.i64.wrap (x.2.2.1 + (1 : Int))), ())
      else
        none
    else
      none
  else
    cs.2.1 ()
def f (n : Nat) (x : Tup [(.slice tGateGrant), (.slice tGateGrant)]) : Option (Tup [.bool]) :=
  if ((List.length x.1 : Int) != (List.length x.2.1 : Int)) = true then
    some (false, ())
  else
    runL (B4 n) ((fun z2 =>
        some (z2.1, ())), (fun z3 =>
        some (true, ())), ()) n (x.1, x.2.1, (0 : Int), ())
@[reducible] def sig (n : Nat) : Sig := ⟨[(.slice tGateGrant), (.slice tGateGrant)], [.bool], false, f n⟩
def T (n : Nat) : FuncId → Option Sig := fun g => if Nat.beq g 61 = true then some (laws_eqGateGrant.sig n) else none
def TL (n : Nat) : Loops := fun j _ st k => if Nat.beq j 4 = true then (match dec st l4.inS [] with | some x => runL (B4 n) (contsOf k l4.outs) n x | none => none) else none
theorem d4 (n : Nat) : LoopDef Try.prog (T n) (TL n) Try.f34 4 :=
  ⟨l4, fun R => B4 n, n, fun R st k => by kernel_rfl, fun R next cs x => by kernel_rfl⟩
theorem con (n : Nat) : Con Try.prog 34 (sig n) :=
  con_print (T := T n) (TL := TL n) (c := Try.f34.body.getD .skip) (js := [4]) hMixed (conT_cons (laws_eqGateGrant.con n) conT_none) Try.func34 (by decide) (by kernel_rfl) (by kernel_rfl) (by decide) (LoopDef.cons (d4 n) LoopDef.nil) (fun x => by kernel_rfl)
end laws_eqGateGrantS
namespace laws_eqGateLedger
def f (n : Nat) (x : Tup [tGateLedger, tGateLedger]) : Option (Tup [.bool]) :=
  if (!seq x.1.1 x.2.1.1) = true then
    some (false, ())
  else if (!seq x.1.2.1 x.2.1.2.1) = true then
    some (false, ())
  else if (x.1.2.2.1 != x.2.1.2.2.1) = true then
    some (false, ())
  else if (x.1.2.2.2.1 != x.2.1.2.2.2.1) = true then
    some (false, ())
  else
    some (true, ())
@[reducible] def sig (n : Nat) : Sig := ⟨[tGateLedger, tGateLedger], [.bool], false, f n⟩
def T (n : Nat) : FuncId → Option Sig := fun g => none
def TL (n : Nat) : Loops := fun j _ st k => none
theorem con (n : Nat) : Con Try.prog 62 (sig n) :=
  con_print (T := T n) (TL := TL n) (c := Try.f62.body.getD .skip) (js := []) hMixed conT_none Try.func62 (by decide) (by kernel_rfl) (by kernel_rfl) (by decide) LoopDef.nil (fun x => by kernel_rfl)
end laws_eqGateLedger
namespace laws_eqGateLedgerS
@[reducible] def l4 : LSpec := ⟨[(0, .d (.slice tGateLedger)), (1, .d (.slice tGateLedger)), (5, .d (.int .i64))], [(.ret, [(4, .d .bool)]), (.exit 0, [])]⟩
def B4 (n : Nat) {R : Type} (next : Sden l4.inS → Option R) (cs : Conts R l4.outs) (x : Sden l4.inS) : Option R :=
  if (decide (x.2.2.1 < (List.length x.1 : Int))) = true then
    if (!true || (decide (0 ≤ x.2.2.1 ∧ x.2.2.1 < (List.length x.1 : Int)))) = true then
      if (!true || (decide (0 ≤ x.2.2.1 ∧ x.2.2.1 < (List.length x.2.1 : Int)))) = true then
        (laws_eqGateLedger.f n ((List.getD x.1 (Int.toNat x.2.2.1) (Ty.zero tGateLedger)), (List.getD x.2.1 (Int.toNat x.2.2.1) (Ty.zero tGateLedger)), ())).bind fun y1 =>
        if (!y1.1) = true then
          cs.1 (false, ())
        else
          next (x.1, x.2.1, (IntKind.i64.wrap (x.2.2.1 + (1 : Int))), ())
      else
        none
    else
      none
  else
    cs.2.1 ()
def f (n : Nat) (x : Tup [(.slice tGateLedger), (.slice tGateLedger)]) : Option (Tup [.bool]) :=
  if ((List.length x.1 : Int) != (List.length x.2.1 : Int)) = true then
    some (false, ())
  else
    runL (B4 n) ((fun z2 =>
        some (z2.1, ())), (fun z3 =>
        some (true, ())), ()) n (x.1, x.2.1, (0 : Int), ())
@[reducible] def sig (n : Nat) : Sig := ⟨[(.slice tGateLedger), (.slice tGateLedger)], [.bool], false, f n⟩
def T (n : Nat) : FuncId → Option Sig := fun g => if Nat.beq g 62 = true then some (laws_eqGateLedger.sig n) else none
def TL (n : Nat) : Loops := fun j _ st k => if Nat.beq j 4 = true then (match dec st l4.inS [] with | some x => runL (B4 n) (contsOf k l4.outs) n x | none => none) else none
theorem d4 (n : Nat) : LoopDef Try.prog (T n) (TL n) Try.f35 4 :=
  ⟨l4, fun R => B4 n, n, fun R st k => by kernel_rfl, fun R next cs x => by kernel_rfl⟩
theorem con (n : Nat) : Con Try.prog 35 (sig n) :=
  con_print (T := T n) (TL := TL n) (c := Try.f35.body.getD .skip) (js := [4]) hMixed (conT_cons (laws_eqGateLedger.con n) conT_none) Try.func35 (by decide) (by kernel_rfl) (by kernel_rfl) (by decide) (LoopDef.cons (d4 n) LoopDef.nil) (fun x => by kernel_rfl)
end laws_eqGateLedgerS
namespace laws_eqGatePurse
def f (n : Nat) (x : Tup [tGatePurse, tGatePurse]) : Option (Tup [.bool]) :=
  if (!seq x.1.1 x.2.1.1) = true then
    some (false, ())
  else if (!seq x.1.2.1 x.2.1.2.1) = true then
    some (false, ())
  else if (!seq x.1.2.2.1 x.2.1.2.2.1) = true then
    some (false, ())
  else if (x.1.2.2.2.1 != x.2.1.2.2.2.1) = true then
    some (false, ())
  else if (x.1.2.2.2.2.1 != x.2.1.2.2.2.2.1) = true then
    some (false, ())
  else
    some (true, ())
@[reducible] def sig (n : Nat) : Sig := ⟨[tGatePurse, tGatePurse], [.bool], false, f n⟩
def T (n : Nat) : FuncId → Option Sig := fun g => none
def TL (n : Nat) : Loops := fun j _ st k => none
theorem con (n : Nat) : Con Try.prog 63 (sig n) :=
  con_print (T := T n) (TL := TL n) (c := Try.f63.body.getD .skip) (js := []) hMixed conT_none Try.func63 (by decide) (by kernel_rfl) (by kernel_rfl) (by decide) LoopDef.nil (fun x => by kernel_rfl)
end laws_eqGatePurse
namespace laws_eqGatePurseS
@[reducible] def l4 : LSpec := ⟨[(0, .d (.slice tGatePurse)), (1, .d (.slice tGatePurse)), (5, .d (.int .i64))], [(.ret, [(4, .d .bool)]), (.exit 0, [])]⟩
def B4 (n : Nat) {R : Type} (next : Sden l4.inS → Option R) (cs : Conts R l4.outs) (x : Sden l4.inS) : Option R :=
  if (decide (x.2.2.1 < (List.length x.1 : Int))) = true then
    if (!true || (decide (0 ≤ x.2.2.1 ∧ x.2.2.1 < (List.length x.1 : Int)))) = true then
      if (!true || (decide (0 ≤ x.2.2.1 ∧ x.2.2.1 < (List.length x.2.1 : Int)))) = true then
        (laws_eqGatePurse.f n ((List.getD x.1 (Int.toNat x.2.2.1) (Ty.zero tGatePurse)), (List.getD x.2.1 (Int.toNat x.2.2.1) (Ty.zero tGatePurse)), ())).bind fun y1 =>
        if (!y1.1) = true then
          cs.1 (false, ())
        else
          next (x.1, x.2.1, (IntKind.i64.wrap (x.2.2.1 + (1 : Int))), ())
      else
        none
    else
      none
  else
    cs.2.1 ()
def f (n : Nat) (x : Tup [(.slice tGatePurse), (.slice tGatePurse)]) : Option (Tup [.bool]) :=
  if ((List.length x.1 : Int) != (List.length x.2.1 : Int)) = true then
    some (false, ())
  else
    runL (B4 n) ((fun z2 =>
        some (z2.1, ())), (fun z3 =>
        some (true, ())), ()) n (x.1, x.2.1, (0 : Int), ())
@[reducible] def sig (n : Nat) : Sig := ⟨[(.slice tGatePurse), (.slice tGatePurse)], [.bool], false, f n⟩
def T (n : Nat) : FuncId → Option Sig := fun g => if Nat.beq g 63 = true then some (laws_eqGatePurse.sig n) else none
def TL (n : Nat) : Loops := fun j _ st k => if Nat.beq j 4 = true then (match dec st l4.inS [] with | some x => runL (B4 n) (contsOf k l4.outs) n x | none => none) else none
theorem d4 (n : Nat) : LoopDef Try.prog (T n) (TL n) Try.f36 4 :=
  ⟨l4, fun R => B4 n, n, fun R st k => by kernel_rfl, fun R next cs x => by kernel_rfl⟩
theorem con (n : Nat) : Con Try.prog 36 (sig n) :=
  con_print (T := T n) (TL := TL n) (c := Try.f36.body.getD .skip) (js := [4]) hMixed (conT_cons (laws_eqGatePurse.con n) conT_none) Try.func36 (by decide) (by kernel_rfl) (by kernel_rfl) (by decide) (LoopDef.cons (d4 n) LoopDef.nil) (fun x => by kernel_rfl)
end laws_eqGatePurseS
namespace laws_eqGateBook
def f (n : Nat) (x : Tup [tGateBook, tGateBook]) : Option (Tup [.bool]) :=
  if (x.1.1 != x.2.1.1) = true then
    some (false, ())
  else if (x.1.2.1 != x.2.1.2.1) = true then
    some (false, ())
  else if (x.1.2.2.1 != x.2.1.2.2.1) = true then
    some (false, ())
  else
    (laws_eqGateObjectS.f n (x.1.2.2.2.1, x.2.1.2.2.2.1, ())).bind fun y1 =>
    if (!y1.1) = true then
      some (false, ())
    else
      (laws_eqGateGrantS.f n (x.1.2.2.2.2.1, x.2.1.2.2.2.2.1, ())).bind fun y2 =>
      if (!y2.1) = true then
        some (false, ())
      else
        (laws_eqGateLedgerS.f n (x.1.2.2.2.2.2.1, x.2.1.2.2.2.2.2.1, ())).bind fun y3 =>
        if (!y3.1) = true then
          some (false, ())
        else
          (laws_eqGatePurseS.f n (x.1.2.2.2.2.2.2.1, x.2.1.2.2.2.2.2.2.1, ())).bind fun y4 =>
          if (!y4.1) = true then
            some (false, ())
          else
            some (true, ())
@[reducible] def sig (n : Nat) : Sig := ⟨[tGateBook, tGateBook], [.bool], false, f n⟩
def T (n : Nat) : FuncId → Option Sig := fun g => if Nat.beq g 33 = true then some (laws_eqGateObjectS.sig n) else if Nat.beq g 34 = true then some (laws_eqGateGrantS.sig n) else if Nat.beq g 35 = true then some (laws_eqGateLedgerS.sig n) else if Nat.beq g 36 = true then some (laws_eqGatePurseS.sig n) else none
def TL (n : Nat) : Loops := fun j _ st k => none
theorem con (n : Nat) : Con Try.prog 11 (sig n) :=
  con_print (T := T n) (TL := TL n) (c := Try.f11.body.getD .skip) (js := []) hMixed (conT_cons (laws_eqGateObjectS.con n) (conT_cons (laws_eqGateGrantS.con n) (conT_cons (laws_eqGateLedgerS.con n) (conT_cons (laws_eqGatePurseS.con n) conT_none)))) Try.func11 (by decide) (by kernel_rfl) (by kernel_rfl) (by decide) LoopDef.nil (fun x => by kernel_rfl)
end laws_eqGateBook
namespace laws_FnExactGateUsed
def f (n : Nat) (x : Tup [tGateLaw, tGateBook, .str, .str]) : Option (Tup [.bool]) :=
  if (decide ((ByteArray.size x.2.2.1 : Int) > (1048576 : Int))) = true then
    some (true, ())
  else if (decide ((ByteArray.size x.2.2.2.1 : Int) > (1048576 : Int))) = true then
    some (true, ())
  else
    (laws_szGateLaw.f n (x.1, (1048576 : Int), ())).bind fun y1 =>
    if (decide (y1.1 < (0 : Int))) = true then
      some (true, ())
    else
      (laws_szGateBook.f n (x.2.1, y1.1, ())).bind fun y2 =>
      if (decide (y2.1 < (0 : Int))) = true then
        some (true, ())
      else
        (laws_toGateLaw.f n (x.1, ())).bind fun y3 =>
        (laws_toGateBook.f n (x.2.1, ())).bind fun y4 =>
        (spec_GateUsed.f n (y3.1, y4.1, x.2.2.1, x.2.2.2.1, ())).bind fun y5 =>
        (laws_toGateLaw.f n (x.1, ())).bind fun y6 =>
        (laws_toGateBook.f n (x.2.1, ())).bind fun y7 =>
        (impl_GateUsed.f n (y6.1, y7.1, x.2.2.1, x.2.2.2.1, ())).bind fun y8 =>
        if (y8.1 != y5.1) = true then
          some (false, ())
        else
          (laws_toGateLaw.f n (x.1, ())).bind fun y9 =>
          (laws_eqGateLaw.f n (y6.1, y9.1, ())).bind fun y10 =>
          if (!y10.1) = true then
            some (false, ())
          else
            (laws_toGateBook.f n (x.2.1, ())).bind fun y11 =>
            (laws_eqGateBook.f n (y7.1, y11.1, ())).bind fun y12 =>
            if (!y12.1) = true then
              some (false, ())
            else
              some (true, ())
@[reducible] def sig (n : Nat) : Sig := ⟨[tGateLaw, tGateBook, .str, .str], [.bool], false, f n⟩
def T (n : Nat) : FuncId → Option Sig := fun g => if Nat.beq g 4 = true then some (laws_szGateLaw.sig n) else if Nat.beq g 5 = true then some (laws_szGateBook.sig n) else if Nat.beq g 6 = true then some (spec_GateUsed.sig n) else if Nat.beq g 7 = true then some (laws_toGateLaw.sig n) else if Nat.beq g 8 = true then some (laws_toGateBook.sig n) else if Nat.beq g 9 = true then some (impl_GateUsed.sig n) else if Nat.beq g 10 = true then some (laws_eqGateLaw.sig n) else if Nat.beq g 11 = true then some (laws_eqGateBook.sig n) else none
def TL (n : Nat) : Loops := fun j _ st k => none
theorem con (n : Nat) : Con Try.prog 3 (sig n) :=
  con_print (T := T n) (TL := TL n) (c := Try.f3.body.getD .skip) (js := []) hMixed (conT_cons (laws_szGateLaw.con n) (conT_cons (laws_szGateBook.con n) (conT_cons (spec_GateUsed.con n) (conT_cons (laws_toGateLaw.con n) (conT_cons (laws_toGateBook.con n) (conT_cons (impl_GateUsed.con n) (conT_cons (laws_eqGateLaw.con n) (conT_cons (laws_eqGateBook.con n) conT_none)))))))) Try.func3 (by decide) (by kernel_rfl) (by kernel_rfl) (by decide) LoopDef.nil (fun x => by kernel_rfl)
end laws_FnExactGateUsed
end Go.Proofs.Ytbnjehabiginjai
