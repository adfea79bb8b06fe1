import Derived.Test.YtakbelofppdkhabProg
import Derived.Test.YtakbelofppdkhabM3
set_option maxRecDepth 100000
set_option linter.unusedVariables false
namespace Go.Proofs.Ytakbelofppdkhab
open Go.Vm
abbrev tStewService : Ty := (.pair .str (.pair (.int .i64) (.pair .bool (.pair (.int .i64) (.pair (.int .i64) (.pair (.int .i64) (.pair (.int .i64) (.pair (.int .i64) (.pair (.int .i64) (.pair (.int .i64) (.pair (.int .i64) (.pair (.int .i64) (.pair (.int .i64) .unit)))))))))))))
abbrev tStewCopy : Ty := (.pair .str (.pair (.int .i64) (.pair (.int .i64) (.pair (.int .i64) (.pair (.int .i64) (.pair .bool (.pair .str .unit)))))))
abbrev tStewBerth : Ty := (.pair .str (.pair .bool .unit))
abbrev tStewBook : Ty := (.pair (.int .i64) (.pair (.slice tStewService) (.pair (.slice tStewCopy) (.pair (.slice tStewBerth) .unit))))
abbrev tStewCount : Ty := (.pair (.int .i64) (.pair (.int .i64) (.pair (.int .i64) (.pair (.int .i64) (.pair (.int .i64) .unit)))))
theorem hMixed : Try.prog.follows .mixedOrders = true := by kernel_rfl
namespace laws_szStewService
def f (n : Nat) (x : Tup [tStewService, (.int .i64)]) : Option (Tup [(.int .i64)]) :=
  if (decide ((IntKind.i64.wrap (x.2.1 - (ByteArray.size x.1.1 : Int))) < (0 : Int))) = true then
    some ((-1 : Int), ())
  else
    some ((IntKind.i64.wrap (x.2.1 - (ByteArray.size x.1.1 : Int))), ())
@[reducible] def sig (n : Nat) : Sig := ⟨[tStewService, (.int .i64)], [(.int .i64)], false, f n, none⟩
def T (n : Nat) : FuncId → Option Sig := fun g => none
def TL (n : Nat) : Loops := fun j _ st k => none
theorem con (n : Nat) : Con Try.prog 24 (sig n) :=
  con_print (hsw := rfl) (T := T n) (TL := TL n) (c := Try.f24.body.getD .skip) (js := []) hMixed conT_none Try.func24 (by decide) (by kernel_rfl) (by kernel_rfl) (by decide) LoopDef.nil (fun x => by kernel_rfl)
end laws_szStewService
namespace laws_szStewServiceS
@[reducible] def l5 : LSpec := ⟨[(0, .d (.slice tStewService)), (1, .d (.int .i64)), (5, .d (.int .i64))], [(.ret, [(4, .d (.int .i64))]), (.exit 0, [(1, .d (.int .i64))])]⟩
def B5 (n : Nat) {R : Type} (next : Sden l5.inS → Option R) (cs : Conts R l5.outs) (x : Sden l5.inS) : Option R :=
  if (decide (x.2.2.1 < (List.length x.1 : Int))) = true then
    if (decide (0 ≤ x.2.2.1 ∧ x.2.2.1 < (List.length x.1 : Int))) = true then
      (laws_szStewService.f n ((List.getD x.1 (Int.toNat x.2.2.1) (Ty.zero tStewService)), x.2.1, ())).bind fun y1 =>
      if (decide (y1.1 < (0 : Int))) = true then
        cs.1 ((-1 : Int), ())
      else
        next (x.1, y1.1, (IntKind.i64.wrap (x.2.2.1 + (1 : Int))), ())
    else
      none
  else
    cs.2.1 (x.2.1, ())
def f (n : Nat) (x : Tup [(.slice tStewService), (.int .i64)]) : Option (Tup [(.int .i64)]) :=
  if (decide ((IntKind.i64.wrap (x.2.1 - (List.length x.1 : Int))) < (0 : Int))) = true then
    some ((-1 : Int), ())
  else
    runL (B5 n) ((fun z2 =>
        some (z2.1, ())), (fun z3 =>
        some (z3.1, ())), ()) n (x.1, (IntKind.i64.wrap (x.2.1 - (List.length x.1 : Int))), (0 : Int), ())
@[reducible] def sig (n : Nat) : Sig := ⟨[(.slice tStewService), (.int .i64)], [(.int .i64)], false, f n, none⟩
def T (n : Nat) : FuncId → Option Sig := fun g => if Nat.beq g 24 = true then some (laws_szStewService.sig n) else none
def TL (n : Nat) : Loops := fun j _ st k => if Nat.beq j 5 = true then (match dec st l5.inS [] with | some x => runL (B5 n) (contsOf k l5.outs) n x | none => none) else none
theorem d5 (n : Nat) : LoopDef Try.prog (T n) (TL n) Try.f9 5 :=
  ⟨l5, fun R => B5 n, n, fun R st k => by kernel_rfl, fun R next cs x => by kernel_rfl⟩
theorem con (n : Nat) : Con Try.prog 9 (sig n) :=
  con_print (hsw := rfl) (T := T n) (TL := TL n) (c := Try.f9.body.getD .skip) (js := [5]) hMixed (conT_cons (laws_szStewService.con n) conT_none) Try.func9 (by decide) (by kernel_rfl) (by kernel_rfl) (by decide) (LoopDef.cons (d5 n) LoopDef.nil) (fun x => by kernel_rfl)
end laws_szStewServiceS
namespace laws_szStewCopy
def f (n : Nat) (x : Tup [tStewCopy, (.int .i64)]) : Option (Tup [(.int .i64)]) :=
  if (decide ((IntKind.i64.wrap (x.2.1 - (ByteArray.size x.1.1 : Int))) < (0 : Int))) = true then
    some ((-1 : Int), ())
  else if (decide ((IntKind.i64.wrap ((IntKind.i64.wrap (x.2.1 - (ByteArray.size x.1.1 : Int))) - (ByteArray.size x.1.2.2.2.2.2.2.1 : Int))) < (0 : Int))) = true then
    some ((-1 : Int), ())
  else
    some ((IntKind.i64.wrap ((IntKind.i64.wrap (x.2.1 - (ByteArray.size x.1.1 : Int))) - (ByteArray.size x.1.2.2.2.2.2.2.1 : Int))), ())
@[reducible] def sig (n : Nat) : Sig := ⟨[tStewCopy, (.int .i64)], [(.int .i64)], false, f n, none⟩
def T (n : Nat) : FuncId → Option Sig := fun g => none
def TL (n : Nat) : Loops := fun j _ st k => none
theorem con (n : Nat) : Con Try.prog 25 (sig n) :=
  con_print (hsw := rfl) (T := T n) (TL := TL n) (c := Try.f25.body.getD .skip) (js := []) hMixed conT_none Try.func25 (by decide) (by kernel_rfl) (by kernel_rfl) (by decide) LoopDef.nil (fun x => by kernel_rfl)
end laws_szStewCopy
namespace laws_szStewCopyS
@[reducible] def l5 : LSpec := ⟨[(0, .d (.slice tStewCopy)), (1, .d (.int .i64)), (5, .d (.int .i64))], [(.ret, [(4, .d (.int .i64))]), (.exit 0, [(1, .d (.int .i64))])]⟩
def B5 (n : Nat) {R : Type} (next : Sden l5.inS → Option R) (cs : Conts R l5.outs) (x : Sden l5.inS) : Option R :=
  if (decide (x.2.2.1 < (List.length x.1 : Int))) = true then
    if (decide (0 ≤ x.2.2.1 ∧ x.2.2.1 < (List.length x.1 : Int))) = true then
      (laws_szStewCopy.f n ((List.getD x.1 (Int.toNat x.2.2.1) (Ty.zero tStewCopy)), x.2.1, ())).bind fun y1 =>
      if (decide (y1.1 < (0 : Int))) = true then
        cs.1 ((-1 : Int), ())
      else
        next (x.1, y1.1, (IntKind.i64.wrap (x.2.2.1 + (1 : Int))), ())
    else
      none
  else
    cs.2.1 (x.2.1, ())
def f (n : Nat) (x : Tup [(.slice tStewCopy), (.int .i64)]) : Option (Tup [(.int .i64)]) :=
  if (decide ((IntKind.i64.wrap (x.2.1 - (List.length x.1 : Int))) < (0 : Int))) = true then
    some ((-1 : Int), ())
  else
    runL (B5 n) ((fun z2 =>
        some (z2.1, ())), (fun z3 =>
        some (z3.1, ())), ()) n (x.1, (IntKind.i64.wrap (x.2.1 - (List.length x.1 : Int))), (0 : Int), ())
@[reducible] def sig (n : Nat) : Sig := ⟨[(.slice tStewCopy), (.int .i64)], [(.int .i64)], false, f n, none⟩
def T (n : Nat) : FuncId → Option Sig := fun g => if Nat.beq g 25 = true then some (laws_szStewCopy.sig n) else none
def TL (n : Nat) : Loops := fun j _ st k => if Nat.beq j 5 = true then (match dec st l5.inS [] with | some x => runL (B5 n) (contsOf k l5.outs) n x | none => none) else none
theorem d5 (n : Nat) : LoopDef Try.prog (T n) (TL n) Try.f10 5 :=
  ⟨l5, fun R => B5 n, n, fun R st k => by kernel_rfl, fun R next cs x => by kernel_rfl⟩
theorem con (n : Nat) : Con Try.prog 10 (sig n) :=
  con_print (hsw := rfl) (T := T n) (TL := TL n) (c := Try.f10.body.getD .skip) (js := [5]) hMixed (conT_cons (laws_szStewCopy.con n) conT_none) Try.func10 (by decide) (by kernel_rfl) (by kernel_rfl) (by decide) (LoopDef.cons (d5 n) LoopDef.nil) (fun x => by kernel_rfl)
end laws_szStewCopyS
namespace laws_szStewBerth
def f (n : Nat) (x : Tup [tStewBerth, (.int .i64)]) : Option (Tup [(.int .i64)]) :=
  if (decide ((IntKind.i64.wrap (x.2.1 - (ByteArray.size x.1.1 : Int))) < (0 : Int))) = true then
    some ((-1 : Int), ())
  else
    some ((IntKind.i64.wrap (x.2.1 - (ByteArray.size x.1.1 : Int))), ())
@[reducible] def sig (n : Nat) : Sig := ⟨[tStewBerth, (.int .i64)], [(.int .i64)], false, f n, none⟩
def T (n : Nat) : FuncId → Option Sig := fun g => none
def TL (n : Nat) : Loops := fun j _ st k => none
theorem con (n : Nat) : Con Try.prog 26 (sig n) :=
  con_print (hsw := rfl) (T := T n) (TL := TL n) (c := Try.f26.body.getD .skip) (js := []) hMixed conT_none Try.func26 (by decide) (by kernel_rfl) (by kernel_rfl) (by decide) LoopDef.nil (fun x => by kernel_rfl)
end laws_szStewBerth
namespace laws_szStewBerthS
@[reducible] def l5 : LSpec := ⟨[(0, .d (.slice tStewBerth)), (1, .d (.int .i64)), (5, .d (.int .i64))], [(.ret, [(4, .d (.int .i64))]), (.exit 0, [(1, .d (.int .i64))])]⟩
def B5 (n : Nat) {R : Type} (next : Sden l5.inS → Option R) (cs : Conts R l5.outs) (x : Sden l5.inS) : Option R :=
  if (decide (x.2.2.1 < (List.length x.1 : Int))) = true then
    if (decide (0 ≤ x.2.2.1 ∧ x.2.2.1 < (List.length x.1 : Int))) = true then
      (laws_szStewBerth.f n ((List.getD x.1 (Int.toNat x.2.2.1) (Ty.zero tStewBerth)), x.2.1, ())).bind fun y1 =>
      if (decide (y1.1 < (0 : Int))) = true then
        cs.1 ((-1 : Int), ())
      else
        next (x.1, y1.1, (IntKind.i64.wrap (x.2.2.1 + (1 : Int))), ())
    else
      none
  else
    cs.2.1 (x.2.1, ())
def f (n : Nat) (x : Tup [(.slice tStewBerth), (.int .i64)]) : Option (Tup [(.int .i64)]) :=
  if (decide ((IntKind.i64.wrap (x.2.1 - (List.length x.1 : Int))) < (0 : Int))) = true then
    some ((-1 : Int), ())
  else
    runL (B5 n) ((fun z2 =>
        some (z2.1, ())), (fun z3 =>
        some (z3.1, ())), ()) n (x.1, (IntKind.i64.wrap (x.2.1 - (List.length x.1 : Int))), (0 : Int), ())
@[reducible] def sig (n : Nat) : Sig := ⟨[(.slice tStewBerth), (.int .i64)], [(.int .i64)], false, f n, none⟩
def T (n : Nat) : FuncId → Option Sig := fun g => if Nat.beq g 26 = true then some (laws_szStewBerth.sig n) else none
def TL (n : Nat) : Loops := fun j _ st k => if Nat.beq j 5 = true then (match dec st l5.inS [] with | some x => runL (B5 n) (contsOf k l5.outs) n x | none => none) else none
theorem d5 (n : Nat) : LoopDef Try.prog (T n) (TL n) Try.f11 5 :=
  ⟨l5, fun R => B5 n, n, fun R st k => by kernel_rfl, fun R next cs x => by kernel_rfl⟩
theorem con (n : Nat) : Con Try.prog 11 (sig n) :=
  con_print (hsw := rfl) (T := T n) (TL := TL n) (c := Try.f11.body.getD .skip) (js := [5]) hMixed (conT_cons (laws_szStewBerth.con n) conT_none) Try.func11 (by decide) (by kernel_rfl) (by kernel_rfl) (by decide) (LoopDef.cons (d5 n) LoopDef.nil) (fun x => by kernel_rfl)
end laws_szStewBerthS
namespace laws_szStewBook
def f (n : Nat) (x : Tup [tStewBook, (.int .i64)]) : Option (Tup [(.int .i64)]) :=
  (laws_szStewServiceS.f n (x.1.2.1, x.2.1, ())).bind fun y1 =>
  if (decide (y1.1 < (0 : Int))) = true then
    some ((-1 : Int), ())
  else
    (laws_szStewCopyS.f n (x.1.2.2.1, y1.1, ())).bind fun y2 =>
    if (decide (y2.1 < (0 : Int))) = true then
      some ((-1 : Int), ())
    else
      (laws_szStewBerthS.f n (x.1.2.2.2.1, y2.1, ())).bind fun y3 =>
      if (decide (y3.1 < (0 : Int))) = true then
        some ((-1 : Int), ())
      else
        some (y3.1, ())
@[reducible] def sig (n : Nat) : Sig := ⟨[tStewBook, (.int .i64)], [(.int .i64)], false, f n, none⟩
def T (n : Nat) : FuncId → Option Sig := fun g => if Nat.beq g 9 = true then some (laws_szStewServiceS.sig n) else if Nat.beq g 10 = true then some (laws_szStewCopyS.sig n) else if Nat.beq g 11 = true then some (laws_szStewBerthS.sig n) else none
def TL (n : Nat) : Loops := fun j _ st k => none
theorem con (n : Nat) : Con Try.prog 4 (sig n) :=
  con_print (hsw := rfl) (T := T n) (TL := TL n) (c := Try.f4.body.getD .skip) (js := []) hMixed (conT_cons (laws_szStewServiceS.con n) (conT_cons (laws_szStewCopyS.con n) (conT_cons (laws_szStewBerthS.con n) conT_none))) Try.func4 (by decide) (by kernel_rfl) (by kernel_rfl) (by decide) LoopDef.nil (fun x => by kernel_rfl)
end laws_szStewBook
namespace laws_toStewService
def f (n : Nat) (x : Tup [tStewService]) : Option (Tup [tStewService]) :=
  some (x.1, ())
@[reducible] def sig (n : Nat) : Sig := ⟨[tStewService], [tStewService], false, f n, none⟩
def T (n : Nat) : FuncId → Option Sig := fun g => none
def TL (n : Nat) : Loops := fun j _ st k => none
theorem con (n : Nat) : Con Try.prog 35 (sig n) :=
  con_print (hsw := rfl) (T := T n) (TL := TL n) (c := Try.f35.body.getD .skip) (js := []) hMixed conT_none Try.func35 (by decide) (by kernel_rfl) (by kernel_rfl) (by decide) LoopDef.nil (fun x => by kernel_rfl)
end laws_toStewService
namespace laws_toStewServiceS
@[reducible] def l3 : LSpec := ⟨[(0, .d (.slice tStewService)), (3, .row true tStewService), (4, .d (.int .i64))], [(.exit 0, [(3, .row true tStewService)])]⟩
def B3 (n : Nat) {R : Type} (next : Sden l3.inS → Option R) (cs : Conts R l3.outs) (x : Sden l3.inS) : Option R :=
  if (decide (x.2.2.1 < (List.length x.1 : Int))) = true then
    if (decide (0 ≤ x.2.2.1 ∧ x.2.2.1 < (List.length x.1 : Int))) = true then
      (laws_toStewService.f n ((List.getD x.1 (Int.toNat x.2.2.1) (Ty.zero tStewService)), ())).bind fun y1 =>
      if (decide (0 ≤ x.2.2.1 ∧ x.2.2.1 < (List.length x.2.1 : Int))) = true then
        next (x.1, (List.set x.2.1 (Int.toNat x.2.2.1) y1.1), (IntKind.i64.wrap (x.2.2.1 + (1 : Int))), ())
      else
        none
    else
      none
  else
    cs.1 (x.2.1, ())
def f (n : Nat) (x : Tup [(.slice tStewService)]) : Option (Tup [(.slice tStewService)]) :=
  if (decide (0 ≤ (List.length x.1 : Int) ∧ (List.length x.1 : Int) ≤ (List.length x.1 : Int) ∧ (List.length x.1 : Int) * (112 : Int) ≤ 140737488355328)) = true then
    runL (B3 n) ((fun z2 =>
        some (z2.1, ())), ()) n (x.1, (List.replicate (Int.toNat (List.length x.1 : Int)) (Ty.zero tStewService)), (0 : Int), ())
  else
    none
@[reducible] def sig (n : Nat) : Sig := ⟨[(.slice tStewService)], [(.slice tStewService)], true, f n, none⟩
def T (n : Nat) : FuncId → Option Sig := fun g => if Nat.beq g 35 = true then some (laws_toStewService.sig n) else none
def TL (n : Nat) : Loops := fun j _ st k => if Nat.beq j 3 = true then (match dec st l3.inS [] with | some x => runL (B3 n) (contsOf k l3.outs) n x | none => none) else none
theorem d3 (n : Nat) : LoopDef Try.prog (T n) (TL n) Try.f14 3 :=
  ⟨l3, fun R => B3 n, n, fun R st k => by kernel_rfl, fun R next cs x => by kernel_rfl⟩
theorem con (n : Nat) : Con Try.prog 14 (sig n) :=
  con_print (hsw := rfl) (T := T n) (TL := TL n) (c := Try.f14.body.getD .skip) (js := [3]) hMixed (conT_cons (laws_toStewService.con n) conT_none) Try.func14 (by decide) (by kernel_rfl) (by kernel_rfl) (by decide) (LoopDef.cons (d3 n) LoopDef.nil) (fun x => by kernel_rfl)
end laws_toStewServiceS
namespace laws_toStewCopy
def f (n : Nat) (x : Tup [tStewCopy]) : Option (Tup [tStewCopy]) :=
  some (x.1, ())
@[reducible] def sig (n : Nat) : Sig := ⟨[tStewCopy], [tStewCopy], false, f n, none⟩
def T (n : Nat) : FuncId → Option Sig := fun g => none
def TL (n : Nat) : Loops := fun j _ st k => none
theorem con (n : Nat) : Con Try.prog 36 (sig n) :=
  con_print (hsw := rfl) (T := T n) (TL := TL n) (c := Try.f36.body.getD .skip) (js := []) hMixed conT_none Try.func36 (by decide) (by kernel_rfl) (by kernel_rfl) (by decide) LoopDef.nil (fun x => by kernel_rfl)
end laws_toStewCopy
namespace laws_toStewCopyS
@[reducible] def l3 : LSpec := ⟨[(0, .d (.slice tStewCopy)), (3, .row true tStewCopy), (4, .d (.int .i64))], [(.exit 0, [(3, .row true tStewCopy)])]⟩
def B3 (n : Nat) {R : Type} (next : Sden l3.inS → Option R) (cs : Conts R l3.outs) (x : Sden l3.inS) : Option R :=
  if (decide (x.2.2.1 < (List.length x.1 : Int))) = true then
    if (decide (0 ≤ x.2.2.1 ∧ x.2.2.1 < (List.length x.1 : Int))) = true then
      (laws_toStewCopy.f n ((List.getD x.1 (Int.toNat x.2.2.1) (Ty.zero tStewCopy)), ())).bind fun y1 =>
      if (decide (0 ≤ x.2.2.1 ∧ x.2.2.1 < (List.length x.2.1 : Int))) = true then
        next (x.1, (List.set x.2.1 (Int.toNat x.2.2.1) y1.1), (IntKind.i64.wrap (x.2.2.1 + (1 : Int))), ())
      else
        none
    else
      none
  else
    cs.1 (x.2.1, ())
def f (n : Nat) (x : Tup [(.slice tStewCopy)]) : Option (Tup [(.slice tStewCopy)]) :=
  if (decide (0 ≤ (List.length x.1 : Int) ∧ (List.length x.1 : Int) ≤ (List.length x.1 : Int) ∧ (List.length x.1 : Int) * (72 : Int) ≤ 140737488355328)) = true then
    runL (B3 n) ((fun z2 =>
        some (z2.1, ())), ()) n (x.1, (List.replicate (Int.toNat (List.length x.1 : Int)) (Ty.zero tStewCopy)), (0 : Int), ())
  else
    none
@[reducible] def sig (n : Nat) : Sig := ⟨[(.slice tStewCopy)], [(.slice tStewCopy)], true, f n, none⟩
def T (n : Nat) : FuncId → Option Sig := fun g => if Nat.beq g 36 = true then some (laws_toStewCopy.sig n) else none
def TL (n : Nat) : Loops := fun j _ st k => if Nat.beq j 3 = true then (match dec st l3.inS [] with | some x => runL (B3 n) (contsOf k l3.outs) n x | none => none) else none
theorem d3 (n : Nat) : LoopDef Try.prog (T n) (TL n) Try.f15 3 :=
  ⟨l3, fun R => B3 n, n, fun R st k => by kernel_rfl, fun R next cs x => by kernel_rfl⟩
theorem con (n : Nat) : Con Try.prog 15 (sig n) :=
  con_print (hsw := rfl) (T := T n) (TL := TL n) (c := Try.f15.body.getD .skip) (js := [3]) hMixed (conT_cons (laws_toStewCopy.con n) conT_none) Try.func15 (by decide) (by kernel_rfl) (by kernel_rfl) (by decide) (LoopDef.cons (d3 n) LoopDef.nil) (fun x => by kernel_rfl)
end laws_toStewCopyS
namespace laws_toStewBerth
def f (n : Nat) (x : Tup [tStewBerth]) : Option (Tup [tStewBerth]) :=
  some (x.1, ())
@[reducible] def sig (n : Nat) : Sig := ⟨[tStewBerth], [tStewBerth], false, f n, none⟩
def T (n : Nat) : FuncId → Option Sig := fun g => none
def TL (n : Nat) : Loops := fun j _ st k => none
theorem con (n : Nat) : Con Try.prog 37 (sig n) :=
  con_print (hsw := rfl) (T := T n) (TL := TL n) (c := Try.f37.body.getD .skip) (js := []) hMixed conT_none Try.func37 (by decide) (by kernel_rfl) (by kernel_rfl) (by decide) LoopDef.nil (fun x => by kernel_rfl)
end laws_toStewBerth
namespace laws_toStewBerthS
@[reducible] def l3 : LSpec := ⟨[(0, .d (.slice tStewBerth)), (3, .row true tStewBerth), (4, .d (.int .i64))], [(.exit 0, [(3, .row true tStewBerth)])]⟩
def B3 (n : Nat) {R : Type} (next : Sden l3.inS → Option R) (cs : Conts R l3.outs) (x : Sden l3.inS) : Option R :=
  if (decide (x.2.2.1 < (List.length x.1 : Int))) = true then
    if (decide (0 ≤ x.2.2.1 ∧ x.2.2.1 < (List.length x.1 : Int))) = true then
      (laws_toStewBerth.f n ((List.getD x.1 (Int.toNat x.2.2.1) (Ty.zero tStewBerth)), ())).bind fun y1 =>
      if (decide (0 ≤ x.2.2.1 ∧ x.2.2.1 < (List.length x.2.1 : Int))) = true then
        next (x.1, (List.set x.2.1 (Int.toNat x.2.2.1) y1.1), (IntKind.i64.wrap (x.2.2.1 + (1 : Int))), ())
      else
        none
    else
      none
  else
    cs.1 (x.2.1, ())
def f (n : Nat) (x : Tup [(.slice tStewBerth)]) : Option (Tup [(.slice tStewBerth)]) :=
  if (decide (0 ≤ (List.length x.1 : Int) ∧ (List.length x.1 : Int) ≤ (List.length x.1 : Int) ∧ (List.length x.1 : Int) * (24 : Int) ≤ 140737488355328)) = true then
    runL (B3 n) ((fun z2 =>
        some (z2.1, ())), ()) n (x.1, (List.replicate (Int.toNat (List.length x.1 : Int)) (Ty.zero tStewBerth)), (0 : Int), ())
  else
    none
@[reducible] def sig (n : Nat) : Sig := ⟨[(.slice tStewBerth)], [(.slice tStewBerth)], true, f n, none⟩
def T (n : Nat) : FuncId → Option Sig := fun g => if Nat.beq g 37 = true then some (laws_toStewBerth.sig n) else none
def TL (n : Nat) : Loops := fun j _ st k => if Nat.beq j 3 = true then (match dec st l3.inS [] with | some x => runL (B3 n) (contsOf k l3.outs) n x | none => none) else none
theorem d3 (n : Nat) : LoopDef Try.prog (T n) (TL n) Try.f16 3 :=
  ⟨l3, fun R => B3 n, n, fun R st k => by kernel_rfl, fun R next cs x => by kernel_rfl⟩
theorem con (n : Nat) : Con Try.prog 16 (sig n) :=
  con_print (hsw := rfl) (T := T n) (TL := TL n) (c := Try.f16.body.getD .skip) (js := [3]) hMixed (conT_cons (laws_toStewBerth.con n) conT_none) Try.func16 (by decide) (by kernel_rfl) (by kernel_rfl) (by decide) (LoopDef.cons (d3 n) LoopDef.nil) (fun x => by kernel_rfl)
end laws_toStewBerthS
namespace laws_toStewBook
def f (n : Nat) (x : Tup [tStewBook]) : Option (Tup [tStewBook]) :=
  (laws_toStewServiceS.f n (x.1.2.1, ())).bind fun y1 =>
  (laws_toStewCopyS.f n (x.1.2.2.1, ())).bind fun y2 =>
  (laws_toStewBerthS.f n (x.1.2.2.2.1, ())).bind fun y3 =>
  some ((x.1.1, y1.1, y2.1, y3.1, ()), ())
@[reducible] def sig (n : Nat) : Sig := ⟨[tStewBook], [tStewBook], true, f n, none⟩
def T (n : Nat) : FuncId → Option Sig := fun g => if Nat.beq g 14 = true then some (laws_toStewServiceS.sig n) else if Nat.beq g 15 = true then some (laws_toStewCopyS.sig n) else if Nat.beq g 16 = true then some (laws_toStewBerthS.sig n) else none
def TL (n : Nat) : Loops := fun j _ st k => none
theorem con (n : Nat) : Con Try.prog 6 (sig n) :=
  con_print (hsw := rfl) (T := T n) (TL := TL n) (c := Try.f6.body.getD .skip) (js := []) hMixed (conT_cons (laws_toStewServiceS.con n) (conT_cons (laws_toStewCopyS.con n) (conT_cons (laws_toStewBerthS.con n) conT_none))) Try.func6 (by decide) (by kernel_rfl) (by kernel_rfl) (by decide) LoopDef.nil (fun x => by kernel_rfl)
end laws_toStewBook
namespace spec_l12In
def f (n : Nat) (x : Tup [(.int .i64), (.int .i64), (.int .i64)]) : Option (Tup [.bool]) :=
  some (((decide (x.1 ≥ x.2.1)) && (decide (x.1 ≤ x.2.2.1))), ())
@[reducible] def sig (n : Nat) : Sig := ⟨[(.int .i64), (.int .i64), (.int .i64)], [.bool], false, f n, none⟩
def T (n : Nat) : FuncId → Option Sig := fun g => none
def TL (n : Nat) : Loops := fun j _ st k => none
theorem con (n : Nat) : Con Try.prog 27 (sig n) :=
  con_print (hsw := rfl) (T := T n) (TL := TL n) (c := Try.f27.body.getD .skip) (js := []) hMixed conT_none Try.func27 (by decide) (by kernel_rfl) (by kernel_rfl) (by decide) LoopDef.nil (fun x => by kernel_rfl)
end spec_l12In
namespace spec_l12NameOk
@[reducible] def l4 : LSpec := ⟨[(0, .d .str), (3, .d (.int .i64))], [(.ret, [(2, .d .bool)]), (.exit 0, [])]⟩
def B4 (n : Nat) {R : Type} (next : Sden l4.inS → Option R) (cs : Conts R l4.outs) (x : Sden l4.inS) : Option R :=
  if (decide (x.2.1 < (ByteArray.size x.1 : Int))) = true then
    if (decide (0 ≤ x.2.1 ∧ x.2.1 < (ByteArray.size x.1 : Int))) = true then
      if (!((((decide ((byteAt x.1 x.2.1) ≥ (97 : Int))) && (decide ((byteAt x.1 x.2.1) ≤ (122 : Int)))) || ((decide ((byteAt x.1 x.2.1) ≥ (48 : Int))) && (decide ((byteAt x.1 x.2.1) ≤ (57 : Int))))) || ((byteAt x.1 x.2.1) == (45 : Int)))) = true then
        cs.1 (false, ())
      else
        next (x.1, (IntKind.i64.wrap (x.2.1 + (1 : Int))), ())
    else
      none
  else
    cs.2.1 ()
def f (n : Nat) (x : Tup [.str]) : Option (Tup [.bool]) :=
  (spec_l12In.f n ((ByteArray.size x.1 : Int), (1 : Int), (20 : Int), ())).bind fun y1 =>
  if (!y1.1) = true then
    some (false, ())
  else
    runL (B4 n) ((fun z2 =>
        some (z2.1, ())), (fun z3 =>
        some (true, ())), ()) n (x.1, (0 : Int), ())
@[reducible] def sig (n : Nat) : Sig := ⟨[.str], [.bool], false, f n, none⟩
def T (n : Nat) : FuncId → Option Sig := fun g => if Nat.beq g 27 = true then some (spec_l12In.sig n) else none
def TL (n : Nat) : Loops := fun j _ st k => if Nat.beq j 4 = true then (match dec st l4.inS [] with | some x => runL (B4 n) (contsOf k l4.outs) n x | none => none) else none
theorem d4 (n : Nat) : LoopDef Try.prog (T n) (TL n) Try.f29 4 :=
  ⟨l4, fun R => B4 n, n, fun R st k => by kernel_rfl, fun R next cs x => by kernel_rfl⟩
theorem con (n : Nat) : Con Try.prog 29 (sig n) :=
  con_print (hsw := rfl) (T := T n) (TL := TL n) (c := Try.f29.body.getD .skip) (js := [4]) hMixed (conT_cons (spec_l12In.con n) conT_none) Try.func29 (by decide) (by kernel_rfl) (by kernel_rfl) (by decide) (LoopDef.cons (d4 n) LoopDef.nil) (fun x => by kernel_rfl)
end spec_l12NameOk
namespace spec_l12ServiceOk
def f (n : Nat) (x : Tup [tStewService, (.int .i64)]) : Option (Tup [.bool]) :=
  (spec_l12NameOk.f n (x.1.1, ())).bind fun y1 =>
  (if (!(!y1.1)) = true then (spec_l12In.f n (x.1.2.1, (1 : Int), x.2.1, ())) else some (tzero [.bool])).bind fun y2 =>
  (if (!((!y1.1) || (!y2.1))) = true then (spec_l12In.f n (x.1.2.2.2.1, (1 : Int), (1000000 : Int), ())) else some (tzero [.bool])).bind fun y3 =>
  (if (!(((!y1.1) || (!y2.1)) || (!y3.1))) = true then (spec_l12In.f n (x.1.2.2.2.2.2.2.2.1, (1 : Int), (1000000 : Int), ())) else some (tzero [.bool])).bind fun y4 =>
  (if (!((((!y1.1) || (!y2.1)) || (!y3.1)) || (!y4.1))) = true then (spec_l12In.f n (x.1.2.2.2.2.1, (0 : Int), (10 : Int), ())) else some (tzero [.bool])).bind fun y5 =>
  (if (!(((((!y1.1) || (!y2.1)) || (!y3.1)) || (!y4.1)) || (!y5.1))) = true then (spec_l12In.f n (x.1.2.2.2.2.2.1, (0 : Int), (10 : Int), ())) else some (tzero [.bool])).bind fun y6 =>
  (if (!((((((!y1.1) || (!y2.1)) || (!y3.1)) || (!y4.1)) || (!y5.1)) || (!y6.1))) = true then (spec_l12In.f n (x.1.2.2.2.2.2.2.1, (0 : Int), (10 : Int), ())) else some (tzero [.bool])).bind fun y7 =>
  if ((((((((!y1.1) || (!y2.1)) || (!y3.1)) || (!y4.1)) || (!y5.1)) || (!y6.1)) || (!y7.1)) || ((IntKind.i64.wrap (x.1.2.2.2.2.2.1 + x.1.2.2.2.2.2.2.1)) == (0 : Int))) = true then
    some (false, ())
  else if (x.1.2.2.2.2.2.2.2.2.1 == (0 : Int)) = true then
    some (((((x.1.2.2.2.2.2.2.2.2.2.1 == (0 : Int)) && (x.1.2.2.2.2.2.2.2.2.2.2.1 == (0 : Int))) && (x.1.2.2.2.2.2.2.2.2.2.2.2.1 == (0 : Int))) && (x.1.2.2.2.2.2.2.2.2.2.2.2.2.1 == (0 : Int))), ())
  else
    (spec_l12In.f n (x.1.2.2.2.2.2.2.2.2.1, (0 : Int), (1000000 : Int), ())).bind fun y8 =>
    (if y8.1 = true then (spec_l12In.f n (x.1.2.2.2.2.2.2.2.2.2.2.2.1, (0 : Int), (1000000 : Int), ())) else some (tzero [.bool])).bind fun y9 =>
    (if (y8.1 && y9.1) = true then (spec_l12In.f n (x.1.2.2.2.2.2.2.2.2.2.1, (0 : Int), (10 : Int), ())) else some (tzero [.bool])).bind fun y10 =>
    (if ((y8.1 && y9.1) && y10.1) = true then (spec_l12In.f n (x.1.2.2.2.2.2.2.2.2.2.2.1, x.1.2.2.2.2.2.2.2.2.2.1, (10 : Int), ())) else some (tzero [.bool])).bind fun y11 =>
    (if (((y8.1 && y9.1) && y10.1) && y11.1) = true then (spec_l12In.f n (x.1.2.2.2.2.2.2.2.2.2.2.2.2.1, (0 : Int), (3 : Int), ())) else some (tzero [.bool])).bind fun y12 =>
    some (((((y8.1 && y9.1) && y10.1) && y11.1) && y12.1), ())
@[reducible] def sig (n : Nat) : Sig := ⟨[tStewService, (.int .i64)], [.bool], false, f n, none⟩
def T (n : Nat) : FuncId → Option Sig := fun g => if Nat.beq g 27 = true then some (spec_l12In.sig n) else if Nat.beq g 29 = true then some (spec_l12NameOk.sig n) else none
def TL (n : Nat) : Loops := fun j _ st k => none
theorem con (n : Nat) : Con Try.prog 28 (sig n) :=
  con_print (hsw := rfl) (T := T n) (TL := TL n) (c := Try.f28.body.getD .skip) (js := []) hMixed (conT_cons (spec_l12In.con n) (conT_cons (spec_l12NameOk.con n) conT_none)) Try.func28 (by decide) (by kernel_rfl) (by kernel_rfl) (by decide) LoopDef.nil (fun x => by kernel_rfl)
end spec_l12ServiceOk
namespace spec_l12Service
@[reducible] def l2 : LSpec := ⟨[(1, .d .str), (2, .rb tStewBook), (5, .d (.int .i64))], [(.ret, [(4, .d (.int .i64))]), (.exit 0, [])]⟩
def B2 (n : Nat) {R : Type} (next : Sden l2.inS → Option R) (cs : Conts R l2.outs) (x : Sden l2.inS) : Option R :=
  if (decide (x.2.2.1 < (List.length x.2.1.2.1 : Int))) = true then
    if (decide (0 ≤ x.2.2.1 ∧ x.2.2.1 < (List.length x.2.1.2.1 : Int))) = true then
      if (seq (List.getD x.2.1.2.1 (Int.toNat x.2.2.1) (Ty.zero tStewService)).1 x.1) = true then
        cs.1 (x.2.2.1, ())
      else
        next (x.1, x.2.1, (IntKind.i64.wrap (x.2.2.1 + (1 : Int))), ())
    else
      none
  else
    cs.2.1 ()
def f (n : Nat) (x : Tup [tStewBook, .str]) : Option (Tup [(.int .i64)]) :=
  runL (B2 n) ((fun z1 =>
      some (z1.1, ())), (fun z2 =>
      some ((-1 : Int), ())), ()) n (x.2.1, x.1, (0 : Int), ())
@[reducible] def sig (n : Nat) : Sig := ⟨[tStewBook, .str], [(.int .i64)], false, f n, none⟩
def T (n : Nat) : FuncId → Option Sig := fun g => none
def TL (n : Nat) : Loops := fun j _ st k => if Nat.beq j 2 = true then (match dec st l2.inS [] with | some x => runL (B2 n) (contsOf k l2.outs) n x | none => none) else none
theorem d2 (n : Nat) : LoopDef Try.prog (T n) (TL n) Try.f33 2 :=
  ⟨l2, fun R => B2 n, n, fun R st k => by kernel_rfl, fun R next cs x => by kernel_rfl⟩
theorem con (n : Nat) : Con Try.prog 33 (sig n) :=
  con_print (hsw := rfl) (T := T n) (TL := TL n) (c := Try.f33.body.getD .skip) (js := [2]) hMixed conT_none Try.func33 (by decide) (by kernel_rfl) (by kernel_rfl) (by decide) (LoopDef.cons (d2 n) LoopDef.nil) (fun x => by kernel_rfl)
end spec_l12Service
namespace spec_l12Berth
@[reducible] def l2 : LSpec := ⟨[(1, .d .str), (2, .rb tStewBook), (5, .d (.int .i64))], [(.ret, [(4, .d (.int .i64))]), (.exit 0, [])]⟩
def B2 (n : Nat) {R : Type} (next : Sden l2.inS → Option R) (cs : Conts R l2.outs) (x : Sden l2.inS) : Option R :=
  if (decide (x.2.2.1 < (List.length x.2.1.2.2.2.1 : Int))) = true then
    if (decide (0 ≤ x.2.2.1 ∧ x.2.2.1 < (List.length x.2.1.2.2.2.1 : Int))) = true then
      if (seq (List.getD x.2.1.2.2.2.1 (Int.toNat x.2.2.1) (Ty.zero tStewBerth)).1 x.1) = true then
        cs.1 (x.2.2.1, ())
      else
        next (x.1, x.2.1, (IntKind.i64.wrap (x.2.2.1 + (1 : Int))), ())
    else
      none
  else
    cs.2.1 ()
def f (n : Nat) (x : Tup [tStewBook, .str]) : Option (Tup [(.int .i64)]) :=
  runL (B2 n) ((fun z1 =>
      some (z1.1, ())), (fun z2 =>
      some ((-1 : Int), ())), ()) n (x.2.1, x.1, (0 : Int), ())
@[reducible] def sig (n : Nat) : Sig := ⟨[tStewBook, .str], [(.int .i64)], false, f n, none⟩
def T (n : Nat) : FuncId → Option Sig := fun g => none
def TL (n : Nat) : Loops := fun j _ st k => if Nat.beq j 2 = true then (match dec st l2.inS [] with | some x => runL (B2 n) (contsOf k l2.outs) n x | none => none) else none
theorem d2 (n : Nat) : LoopDef Try.prog (T n) (TL n) Try.f46 2 :=
  ⟨l2, fun R => B2 n, n, fun R st k => by kernel_rfl, fun R next cs x => by kernel_rfl⟩
theorem con (n : Nat) : Con Try.prog 46 (sig n) :=
  con_print (hsw := rfl) (T := T n) (TL := TL n) (c := Try.f46.body.getD .skip) (js := [2]) hMixed conT_none Try.func46 (by decide) (by kernel_rfl) (by kernel_rfl) (by decide) (LoopDef.cons (d2 n) LoopDef.nil) (fun x => by kernel_rfl)
end spec_l12Berth
namespace spec_l12CopyOk
def f (n : Nat) (x : Tup [tStewBook, tStewCopy]) : Option (Tup [.bool]) :=
  (spec_l12Service.f n (x.1, x.2.1.1, ())).bind fun y1 =>
  if (!(!(decide (y1.1 < (0 : Int)))) || (decide (0 ≤ y1.1 ∧ y1.1 < (List.length x.1.2.1 : Int)))) = true then
    (if (!(decide (y1.1 < (0 : Int)))) = true then (spec_l12In.f n (x.2.1.2.1, (1 : Int), (IntKind.i64.wrap ((List.getD x.1.2.1 (Int.toNat y1.1) (Ty.zero tStewService)).2.2.2.2.2.2.2.1 - (1 : Int))), ())) else some (tzero [.bool])).bind fun y2 =>
    (if (!((decide (y1.1 < (0 : Int))) || (!y2.1))) = true then (spec_l12In.f n (x.2.1.2.2.1, (1 : Int), x.1.1, ())) else some (tzero [.bool])).bind fun y3 =>
    (if (!(((decide (y1.1 < (0 : Int))) || (!y2.1)) || (!y3.1))) = true then (spec_l12In.f n (x.2.1.2.2.2.1, (1 : Int), (1000000 : Int), ())) else some (tzero [.bool])).bind fun y4 =>
    (if (!((((decide (y1.1 < (0 : Int))) || (!y2.1)) || (!y3.1)) || (!y4.1))) = true then (spec_l12In.f n (x.2.1.2.2.2.2.1, (1 : Int), (4 : Int), ())) else some (tzero [.bool])).bind fun y5 =>
    if (((((decide (y1.1 < (0 : Int))) || (!y2.1)) || (!y3.1)) || (!y4.1)) || (!y5.1)) = true then
      some (false, ())
    else if (x.2.1.2.2.2.2.1 == (1 : Int)) = true then
      some ((seq x.2.1.2.2.2.2.2.2.1 (⟨#[]⟩ : ByteArray)), ())
    else
      (spec_l12Berth.f n (x.1, x.2.1.2.2.2.2.2.2.1, ())).bind fun y6 =>
      some ((decide (y6.1 ≥ (0 : Int))), ())
  else
    none
@[reducible] def sig (n : Nat) : Sig := ⟨[tStewBook, tStewCopy], [.bool], false, f n, none⟩
def T (n : Nat) : FuncId → Option Sig := fun g => if Nat.beq g 27 = true then some (spec_l12In.sig n) else if Nat.beq g 33 = true then some (spec_l12Service.sig n) else if Nat.beq g 46 = true then some (spec_l12Berth.sig n) else none
def TL (n : Nat) : Loops := fun j _ st k => none
theorem con (n : Nat) : Con Try.prog 30 (sig n) :=
  con_print (hsw := rfl) (T := T n) (TL := TL n) (c := Try.f30.body.getD .skip) (js := []) hMixed (conT_cons (spec_l12In.con n) (conT_cons (spec_l12Service.con n) (conT_cons (spec_l12Berth.con n) conT_none))) Try.func30 (by decide) (by kernel_rfl) (by kernel_rfl) (by decide) LoopDef.nil (fun x => by kernel_rfl)
end spec_l12CopyOk
namespace spec_l12Ahead
def f (n : Nat) (x : Tup [tStewCopy, tStewCopy]) : Option (Tup [.bool]) :=
  some (((slt x.1.1 x.2.1.1) || ((seq x.1.1 x.2.1.1) && (decide (x.1.2.1 < x.2.1.2.1)))), ())
@[reducible] def sig (n : Nat) : Sig := ⟨[tStewCopy, tStewCopy], [.bool], false, f n, none⟩
def T (n : Nat) : FuncId → Option Sig := fun g => none
def TL (n : Nat) : Loops := fun j _ st k => none
theorem con (n : Nat) : Con Try.prog 31 (sig n) :=
  con_print (hsw := rfl) (T := T n) (TL := TL n) (c := Try.f31.body.getD .skip) (js := []) hMixed conT_none Try.func31 (by decide) (by kernel_rfl) (by kernel_rfl) (by decide) LoopDef.nil (fun x => by kernel_rfl)
end spec_l12Ahead
namespace spec_StewValid
@[reducible] def l4 : LSpec := ⟨[(1, .rb tStewBook), (3, .d (.int .i64))], [(.ret, [(2, .d .bool)]), (.exit 0, [(1, .rb tStewBook)])]⟩
def B4 (n : Nat) {R : Type} (next : Sden l4.inS → Option R) (cs : Conts R l4.outs) (x : Sden l4.inS) : Option R :=
  if (decide (x.2.1 < (List.length x.1.2.1 : Int))) = true then
    if (!true || (decide (0 ≤ x.2.1 ∧ x.2.1 < (List.length x.1.2.1 : Int)))) = true then
      (if true = true then (spec_l12ServiceOk.f n ((List.getD x.1.2.1 (Int.toNat x.2.1) (Ty.zero tStewService)), x.1.1, ())) else some (tzero [.bool])).bind fun y2 =>
      if (!((!(!y2.1)) && (decide (x.2.1 > (0 : Int)))) || (decide (0 ≤ (IntKind.i64.wrap (x.2.1 - (1 : Int))) ∧ (IntKind.i64.wrap (x.2.1 - (1 : Int))) < (List.length x.1.2.1 : Int)))) = true then
        if (!((!(!y2.1)) && (decide (x.2.1 > (0 : Int)))) || (decide (0 ≤ x.2.1 ∧ x.2.1 < (List.length x.1.2.1 : Int)))) = true then
          if ((!y2.1) || ((decide (x.2.1 > (0 : Int))) && (!slt (List.getD x.1.2.1 (Int.toNat (IntKind.i64.wrap (x.2.1 - (1 : Int)))) (Ty.zero tStewService)).1 (List.getD x.1.2.1 (Int.toNat x.2.1) (Ty.zero tStewService)).1))) = true then
            cs.1 (false, ())
          else
            next (x.1, (IntKind.i64.wrap (x.2.1 + (1 : Int))), ())
        else
          none
      else
        none
    else
      none
  else
    cs.2.1 (x.1, ())
@[reducible] def l9 : LSpec := ⟨[(1, .rb tStewBook), (4, .d (.int .i64))], [(.ret, [(2, .d .bool)]), (.exit 2, [(1, .rb tStewBook)])]⟩
def B9 (n : Nat) {R : Type} (next : Sden l9.inS → Option R) (cs : Conts R l9.outs) (x : Sden l9.inS) : Option R :=
  if (decide (x.2.1 < (List.length x.1.2.2.2.1 : Int))) = true then
    if (!true || (decide (0 ≤ x.2.1 ∧ x.2.1 < (List.length x.1.2.2.2.1 : Int)))) = true then
      (if true = true then (spec_l12NameOk.f n ((List.getD x.1.2.2.2.1 (Int.toNat x.2.1) (Ty.zero tStewBerth)).1, ())) else some (tzero [.bool])).bind fun y5 =>
      if (!((!(!y5.1)) && (decide (x.2.1 > (0 : Int)))) || (decide (0 ≤ (IntKind.i64.wrap (x.2.1 - (1 : Int))) ∧ (IntKind.i64.wrap (x.2.1 - (1 : Int))) < (List.length x.1.2.2.2.1 : Int)))) = true then
        if (!((!(!y5.1)) && (decide (x.2.1 > (0 : Int)))) || (decide (0 ≤ x.2.1 ∧ x.2.1 < (List.length x.1.2.2.2.1 : Int)))) = true then
          if ((!y5.1) || ((decide (x.2.1 > (0 : Int))) && (!slt (List.getD x.1.2.2.2.1 (Int.toNat (IntKind.i64.wrap (x.2.1 - (1 : Int)))) (Ty.zero tStewBerth)).1 (List.getD x.1.2.2.2.1 (Int.toNat x.2.1) (Ty.zero tStewBerth)).1))) = true then
            cs.1 (false, ())
          else
            next (x.1, (IntKind.i64.wrap (x.2.1 + (1 : Int))), ())
        else
          none
      else
        none
    else
      none
  else
    cs.2.1 (x.1, ())
@[reducible] def l14 : LSpec := ⟨[(1, .rb tStewBook), (5, .d (.int .i64))], [(.ret, [(2, .d .bool)]), (.exit 4, [])]⟩
def B14 (n : Nat) {R : Type} (next : Sden l14.inS → Option R) (cs : Conts R l14.outs) (x : Sden l14.inS) : Option R :=
  if (decide (x.2.1 < (List.length x.1.2.2.1 : Int))) = true then
    if (!true || (decide (0 ≤ x.2.1 ∧ x.2.1 < (List.length x.1.2.2.1 : Int)))) = true then
      (if true = true then (spec_l12CopyOk.f n (x.1, (List.getD x.1.2.2.1 (Int.toNat x.2.1) (Ty.zero tStewCopy)), ())) else some (tzero [.bool])).bind fun y8 =>
      if (!((!(!y8.1)) && (decide (x.2.1 > (0 : Int)))) || (decide (0 ≤ (IntKind.i64.wrap (x.2.1 - (1 : Int))) ∧ (IntKind.i64.wrap (x.2.1 - (1 : Int))) < (List.length x.1.2.2.1 : Int)))) = true then
        if (!((!(!y8.1)) && (decide (x.2.1 > (0 : Int)))) || (decide (0 ≤ x.2.1 ∧ x.2.1 < (List.length x.1.2.2.1 : Int)))) = true then
          (if ((!(!y8.1)) && (decide (x.2.1 > (0 : Int)))) = true then (spec_l12Ahead.f n ((List.getD x.1.2.2.1 (Int.toNat (IntKind.i64.wrap (x.2.1 - (1 : Int)))) (Ty.zero tStewCopy)), (List.getD x.1.2.2.1 (Int.toNat x.2.1) (Ty.zero tStewCopy)), ())) else some (tzero [.bool])).bind fun y9 =>
          if ((!y8.1) || ((decide (x.2.1 > (0 : Int))) && (!y9.1))) = true then
            cs.1 (false, ())
          else
            next (x.1, (IntKind.i64.wrap (x.2.1 + (1 : Int))), ())
        else
          none
      else
        none
    else
      none
  else
    cs.2.1 ()
def f (n : Nat) (x : Tup [tStewBook]) : Option (Tup [.bool]) :=
  (spec_l12In.f n (x.1.1, (0 : Int), (1000000 : Int), ())).bind fun y1 =>
  if ((((!y1.1) || (decide ((List.length x.1.2.1 : Int) > (8 : Int)))) || (decide ((List.length x.1.2.2.1 : Int) > (200 : Int)))) || (decide ((List.length x.1.2.2.2.1 : Int) > (6 : Int)))) = true then
    some (false, ())
  else
    runL (B4 n) ((fun z3 =>
        some (z3.1, ())), (fun z4 =>
        runL (B9 n) ((fun z6 =>
            some (z6.1, ())), (fun z7 =>
            runL (B14 n) ((fun z10 =>
                some (z10.1, ())), (fun z11 =>
                some (true, ())), ()) n (z7.1, (0 : Int), ())), ()) n (z4.1, (0 : Int), ())), ()) n (x.1, (0 : Int), ())
@[reducible] def sig (n : Nat) : Sig := ⟨[tStewBook], [.bool], false, f n, none⟩
def T (n : Nat) : FuncId → Option Sig := fun g => if Nat.beq g 27 = true then some (spec_l12In.sig n) else if Nat.beq g 28 = true then some (spec_l12ServiceOk.sig n) else if Nat.beq g 29 = true then some (spec_l12NameOk.sig n) else if Nat.beq g 30 = true then some (spec_l12CopyOk.sig n) else if Nat.beq g 31 = true then some (spec_l12Ahead.sig n) else none
def TL (n : Nat) : Loops := fun j _ st k => if Nat.beq j 4 = true then (match dec st l4.inS [] with | some x => runL (B4 n) (contsOf k l4.outs) n x | none => none) else if Nat.beq j 9 = true then (match dec st l9.inS [] with | some x => runL (B9 n) (contsOf k l9.outs) n x | none => none) else if Nat.beq j 14 = true then (match dec st l14.inS [] with | some x => runL (B14 n) (contsOf k l14.outs) n x | none => none) else none
theorem d4 (n : Nat) : LoopDef Try.prog (T n) (TL n) Try.f12 4 :=
  ⟨l4, fun R => B4 n, n, fun R st k => by kernel_rfl, fun R next cs x => by kernel_rfl⟩
theorem d9 (n : Nat) : LoopDef Try.prog (T n) (TL n) Try.f12 9 :=
  ⟨l9, fun R => B9 n, n, fun R st k => by kernel_rfl, fun R next cs x => by kernel_rfl⟩
theorem d14 (n : Nat) : LoopDef Try.prog (T n) (TL n) Try.f12 14 :=
  ⟨l14, fun R => B14 n, n, fun R st k => by kernel_rfl, fun R next cs x => by kernel_rfl⟩
theorem con (n : Nat) : Con Try.prog 12 (sig n) :=
  con_print (hsw := rfl) (T := T n) (TL := TL n) (c := Try.f12.body.getD .skip) (js := [4, 9, 14]) hMixed (conT_cons (spec_l12In.con n) (conT_cons (spec_l12ServiceOk.con n) (conT_cons (spec_l12NameOk.con n) (conT_cons (spec_l12CopyOk.con n) (conT_cons (spec_l12Ahead.con n) conT_none))))) Try.func12 (by decide) (by kernel_rfl) (by kernel_rfl) (by decide) (LoopDef.cons (d4 n) (LoopDef.cons (d9 n) (LoopDef.cons (d14 n) LoopDef.nil))) (fun x => by kernel_rfl)
end spec_StewValid
namespace spec_l12Copy
@[reducible] def l2 : LSpec := ⟨[(1, .d .str), (2, .d (.int .i64)), (3, .rb tStewBook), (7, .d (.int .i64))], [(.ret, [(6, .d (.int .i64))]), (.exit 0, [])]⟩
def B2 (n : Nat) {R : Type} (next : Sden l2.inS → Option R) (cs : Conts R l2.outs) (x : Sden l2.inS) : Option R :=
  if (decide (x.2.2.2.1 < (List.length x.2.2.1.2.2.1 : Int))) = true then
    if (decide (0 ≤ x.2.2.2.1 ∧ x.2.2.2.1 < (List.length x.2.2.1.2.2.1 : Int))) = true then
      if (!(seq (List.getD x.2.2.1.2.2.1 (Int.toNat x.2.2.2.1) (Ty.zero tStewCopy)).1 x.1) || (decide (0 ≤ x.2.2.2.1 ∧ x.2.2.2.1 < (List.length x.2.2.1.2.2.1 : Int)))) = true then
        if ((seq (List.getD x.2.2.1.2.2.1 (Int.toNat x.2.2.2.1) (Ty.zero tStewCopy)).1 x.1) && ((List.getD x.2.2.1.2.2.1 (Int.toNat x.2.2.2.1) (Ty.zero tStewCopy)).2.1 == x.2.1)) = true then
          cs.1 (x.2.2.2.1, ())
        else
          next (x.1, x.2.1, x.2.2.1, (IntKind.i64.wrap (x.2.2.2.1 + (1 : Int))), ())
      else
        none
    else
      none
  else
    cs.2.1 ()
def f (n : Nat) (x : Tup [tStewBook, .str, (.int .i64)]) : Option (Tup [(.int .i64)]) :=
  runL (B2 n) ((fun z1 =>
      some (z1.1, ())), (fun z2 =>
      some ((-1 : Int), ())), ()) n (x.2.1, x.2.2.1, x.1, (0 : Int), ())
@[reducible] def sig (n : Nat) : Sig := ⟨[tStewBook, .str, (.int .i64)], [(.int .i64)], false, f n, none⟩
def T (n : Nat) : FuncId → Option Sig := fun g => none
def TL (n : Nat) : Loops := fun j _ st k => if Nat.beq j 2 = true then (match dec st l2.inS [] with | some x => runL (B2 n) (contsOf k l2.outs) n x | none => none) else none
theorem d2 (n : Nat) : LoopDef Try.prog (T n) (TL n) Try.f32 2 :=
  ⟨l2, fun R => B2 n, n, fun R st k => by kernel_rfl, fun R next cs x => by kernel_rfl⟩
theorem con (n : Nat) : Con Try.prog 32 (sig n) :=
  con_print (hsw := rfl) (T := T n) (TL := TL n) (c := Try.f32.body.getD .skip) (js := [2]) hMixed conT_none Try.func32 (by decide) (by kernel_rfl) (by kernel_rfl) (by decide) (LoopDef.cons (d2 n) LoopDef.nil) (fun x => by kernel_rfl)
end spec_l12Copy
namespace spec_l13Count
@[reducible] def l4 : LSpec := ⟨[(1, .d .str), (2, .rb tStewBook), (4, .box [.d (.int .i64), .d (.int .i64), .d (.int .i64), .d (.int .i64), .d (.int .i64)]), (5, .box [.d (.int .i64), .d (.int .i64), .d (.int .i64), .d (.int .i64), .d (.int .i64)]), (6, .d (.int .i64)), (7, .d (.int .i64))], [(.exit 0, [(4, .box [.d (.int .i64), .d (.int .i64), .d (.int .i64), .d (.int .i64), .d (.int .i64)]), (5, .box [.d (.int .i64), .d (.int .i64), .d (.int .i64), .d (.int .i64), .d (.int .i64)])])]⟩
def B4 (n : Nat) {R : Type} (next : Sden l4.inS → Option R) (cs : Conts R l4.outs) (x : Sden l4.inS) : Option R :=
  if ((decide (x.2.2.2.2.2.1 < (List.length x.2.1.2.2.1 : Int))) && (decide (x.2.2.2.2.1 ≥ (0 : Int)))) = true then
    if (decide (0 ≤ x.2.2.2.2.2.1 ∧ x.2.2.2.2.2.1 < (List.length x.2.1.2.2.1 : Int))) = true then
      if (!seq (List.getD x.2.1.2.2.1 (Int.toNat x.2.2.2.2.2.1) (Ty.zero tStewCopy)).1 x.1) = true then
        next (x.1, x.2.1, (x.2.2.1.1, x.2.2.1.2.1, x.2.2.1.2.2.1, x.2.2.1.2.2.2.1, x.2.2.1.2.2.2.2.1, ()), (x.2.2.2.1.1, x.2.2.2.1.2.1, x.2.2.2.1.2.2.1, x.2.2.2.1.2.2.2.1, x.2.2.2.1.2.2.2.2.1, ()), x.2.2.2.2.1, (IntKind.i64.wrap (x.2.2.2.2.2.1 + (1 : Int))), ())
      else if (List.getD x.2.1.2.2.1 (Int.toNat x.2.2.2.2.2.1) (Ty.zero tStewCopy)).2.2.2.2.2.1 = true then
        next (x.1, x.2.1, (x.2.2.1.1, x.2.2.1.2.1, x.2.2.1.2.2.1, x.2.2.1.2.2.2.1, x.2.2.1.2.2.2.2.1, ()), (x.2.2.2.1.1, x.2.2.2.1.2.1, x.2.2.2.1.2.2.1, x.2.2.2.1.2.2.2.1, (IntKind.i64.wrap (x.2.2.2.1.2.2.2.2.1 + (1 : Int))), ()), x.2.2.2.2.1, (IntKind.i64.wrap (x.2.2.2.2.2.1 + (1 : Int))), ())
      else if ((List.getD x.2.1.2.2.1 (Int.toNat x.2.2.2.2.2.1) (Ty.zero tStewCopy)).2.2.2.2.1 == (3 : Int)) = true then
        if ((List.getD x.2.1.2.2.1 (Int.toNat x.2.2.2.2.2.1) (Ty.zero tStewCopy)).2.2.2.2.1 == (4 : Int)) = true then
          if (!true || (decide (0 ≤ x.2.2.2.2.1 ∧ x.2.2.2.2.1 < (List.length x.2.1.2.1 : Int)))) = true then
            if ((List.getD x.2.1.2.2.1 (Int.toNat x.2.2.2.2.2.1) (Ty.zero tStewCopy)).2.2.2.1 != (List.getD x.2.1.2.1 (Int.toNat x.2.2.2.2.1) (Ty.zero tStewService)).2.2.2.1) = true then
              next (x.1, x.2.1, (x.2.2.1.1, x.2.2.1.2.1, x.2.2.1.2.2.1, x.2.2.1.2.2.2.1, x.2.2.1.2.2.2.2.1, ()), ((IntKind.i64.wrap (x.2.2.2.1.1 + (1 : Int))), (IntKind.i64.wrap (x.2.2.2.1.2.1 + (1 : Int))), (IntKind.i64.wrap (x.2.2.2.1.2.2.1 + (1 : Int))), (IntKind.i64.wrap (x.2.2.2.1.2.2.2.1 + (1 : Int))), x.2.2.2.1.2.2.2.2.1, ()), x.2.2.2.2.1, (IntKind.i64.wrap (x.2.2.2.2.2.1 + (1 : Int))), ())
            else
              next (x.1, x.2.1, (x.2.2.1.1, x.2.2.1.2.1, x.2.2.1.2.2.1, x.2.2.1.2.2.2.1, x.2.2.1.2.2.2.2.1, ()), ((IntKind.i64.wrap (x.2.2.2.1.1 + (1 : Int))), (IntKind.i64.wrap (x.2.2.2.1.2.1 + (1 : Int))), x.2.2.2.1.2.2.1, (IntKind.i64.wrap (x.2.2.2.1.2.2.2.1 + (1 : Int))), x.2.2.2.1.2.2.2.2.1, ()), x.2.2.2.2.1, (IntKind.i64.wrap (x.2.2.2.2.2.1 + (1 : Int))), ())
          else
            none
        else if (!true || (decide (0 ≤ x.2.2.2.2.1 ∧ x.2.2.2.2.1 < (List.length x.2.1.2.1 : Int)))) = true then
          if ((List.getD x.2.1.2.2.1 (Int.toNat x.2.2.2.2.2.1) (Ty.zero tStewCopy)).2.2.2.1 != (List.getD x.2.1.2.1 (Int.toNat x.2.2.2.2.1) (Ty.zero tStewService)).2.2.2.1) = true then
            next (x.1, x.2.1, (x.2.2.1.1, x.2.2.1.2.1, x.2.2.1.2.2.1, x.2.2.1.2.2.2.1, x.2.2.1.2.2.2.2.1, ()), ((IntKind.i64.wrap (x.2.2.2.1.1 + (1 : Int))), (IntKind.i64.wrap (x.2.2.2.1.2.1 + (1 : Int))), (IntKind.i64.wrap (x.2.2.2.1.2.2.1 + (1 : Int))), x.2.2.2.1.2.2.2.1, x.2.2.2.1.2.2.2.2.1, ()), x.2.2.2.2.1, (IntKind.i64.wrap (x.2.2.2.2.2.1 + (1 : Int))), ())
          else
            next (x.1, x.2.1, (x.2.2.1.1, x.2.2.1.2.1, x.2.2.1.2.2.1, x.2.2.1.2.2.2.1, x.2.2.1.2.2.2.2.1, ()), ((IntKind.i64.wrap (x.2.2.2.1.1 + (1 : Int))), (IntKind.i64.wrap (x.2.2.2.1.2.1 + (1 : Int))), x.2.2.2.1.2.2.1, x.2.2.2.1.2.2.2.1, x.2.2.2.1.2.2.2.2.1, ()), x.2.2.2.2.1, (IntKind.i64.wrap (x.2.2.2.2.2.1 + (1 : Int))), ())
        else
          none
      else if ((List.getD x.2.1.2.2.1 (Int.toNat x.2.2.2.2.2.1) (Ty.zero tStewCopy)).2.2.2.2.1 == (4 : Int)) = true then
        if (!true || (decide (0 ≤ x.2.2.2.2.1 ∧ x.2.2.2.2.1 < (List.length x.2.1.2.1 : Int)))) = true then
          if ((List.getD x.2.1.2.2.1 (Int.toNat x.2.2.2.2.2.1) (Ty.zero tStewCopy)).2.2.2.1 != (List.getD x.2.1.2.1 (Int.toNat x.2.2.2.2.1) (Ty.zero tStewService)).2.2.2.1) = true then
            next (x.1, x.2.1, (x.2.2.1.1, x.2.2.1.2.1, x.2.2.1.2.2.1, x.2.2.1.2.2.2.1, x.2.2.1.2.2.2.2.1, ()), ((IntKind.i64.wrap (x.2.2.2.1.1 + (1 : Int))), x.2.2.2.1.2.1, (IntKind.i64.wrap (x.2.2.2.1.2.2.1 + (1 : Int))), (IntKind.i64.wrap (x.2.2.2.1.2.2.2.1 + (1 : Int))), x.2.2.2.1.2.2.2.2.1, ()), x.2.2.2.2.1, (IntKind.i64.wrap (x.2.2.2.2.2.1 + (1 : Int))), ())
          else
            next (x.1, x.2.1, (x.2.2.1.1, x.2.2.1.2.1, x.2.2.1.2.2.1, x.2.2.1.2.2.2.1, x.2.2.1.2.2.2.2.1, ()), ((IntKind.i64.wrap (x.2.2.2.1.1 + (1 : Int))), x.2.2.2.1.2.1, x.2.2.2.1.2.2.1, (IntKind.i64.wrap (x.2.2.2.1.2.2.2.1 + (1 : Int))), x.2.2.2.1.2.2.2.2.1, ()), x.2.2.2.2.1, (IntKind.i64.wrap (x.2.2.2.2.2.1 + (1 : Int))), ())
        else
          none
      else if (!true || (decide (0 ≤ x.2.2.2.2.1 ∧ x.2.2.2.2.1 < (List.length x.2.1.2.1 : Int)))) = true then
        if ((List.getD x.2.1.2.2.1 (Int.toNat x.2.2.2.2.2.1) (Ty.zero tStewCopy)).2.2.2.1 != (List.getD x.2.1.2.1 (Int.toNat x.2.2.2.2.1) (Ty.zero tStewService)).2.2.2.1) = true then
          next (x.1, x.2.1, (x.2.2.1.1, x.2.2.1.2.1, x.2.2.1.2.2.1, x.2.2.1.2.2.2.1, x.2.2.1.2.2.2.2.1, ()), ((IntKind.i64.wrap (x.2.2.2.1.1 + (1 : Int))), x.2.2.2.1.2.1, (IntKind.i64.wrap (x.2.2.2.1.2.2.1 + (1 : Int))), x.2.2.2.1.2.2.2.1, x.2.2.2.1.2.2.2.2.1, ()), x.2.2.2.2.1, (IntKind.i64.wrap (x.2.2.2.2.2.1 + (1 : Int))), ())
        else
          next (x.1, x.2.1, (x.2.2.1.1, x.2.2.1.2.1, x.2.2.1.2.2.1, x.2.2.1.2.2.2.1, x.2.2.1.2.2.2.2.1, ()), ((IntKind.i64.wrap (x.2.2.2.1.1 + (1 : Int))), x.2.2.2.1.2.1, x.2.2.2.1.2.2.1, x.2.2.2.1.2.2.2.1, x.2.2.2.1.2.2.2.2.1, ()), x.2.2.2.2.1, (IntKind.i64.wrap (x.2.2.2.2.2.1 + (1 : Int))), ())
      else
        none
    else
      none
  else
    cs.1 ((x.2.2.1.1, x.2.2.1.2.1, x.2.2.1.2.2.1, x.2.2.1.2.2.2.1, x.2.2.1.2.2.2.2.1, ()), (x.2.2.2.1.1, x.2.2.2.1.2.1, x.2.2.2.1.2.2.1, x.2.2.2.1.2.2.2.1, x.2.2.2.1.2.2.2.2.1, ()), ())
def f (n : Nat) (x : Tup [tStewBook, .str]) : Option (Tup [tStewCount]) :=
  (spec_l12Service.f n (x.1, x.2.1, ())).bind fun y1 =>
  runL (B4 n) ((fun z2 =>
      some ((z2.2.1.1, z2.2.1.2.1, z2.2.1.2.2.1, z2.2.1.2.2.2.1, z2.2.1.2.2.2.2.1, ()), ())), ()) n (x.2.1, x.1, ((0 : Int), (0 : Int), (0 : Int), (0 : Int), (0 : Int), ()), ((0 : Int), (0 : Int), (0 : Int), (0 : Int), (0 : Int), ()), y1.1, (0 : Int), ())
@[reducible] def sig (n : Nat) : Sig := ⟨[tStewBook, .str], [tStewCount], false, f n, none⟩
def T (n : Nat) : FuncId → Option Sig := fun g => if Nat.beq g 33 = true then some (spec_l12Service.sig n) else none
def TL (n : Nat) : Loops := fun j _ st k => if Nat.beq j 4 = true then (match dec st l4.inS [] with | some x => runL (B4 n) (contsOf k l4.outs) n x | none => none) else none
theorem d4 (n : Nat) : LoopDef Try.prog (T n) (TL n) Try.f34 4 :=
  ⟨l4, fun R => B4 n, n, fun R st k => by kernel_rfl, fun R next cs x => by kernel_rfl⟩
theorem con (n : Nat) : Con Try.prog 34 (sig n) :=
  con_print (hsw := rfl) (T := T n) (TL := TL n) (c := Try.f34.body.getD .skip) (js := [4]) hMixed (conT_cons (spec_l12Service.con n) conT_none) Try.func34 (by decide) (by kernel_rfl) (by kernel_rfl) (by decide) (LoopDef.cons (d4 n) LoopDef.nil) (fun x => by kernel_rfl)
end spec_l13Count
namespace spec_l14MayEnd
def f (n : Nat) (x : Tup [tStewBook, .str, (.int .i64)]) : Option (Tup [.bool]) :=
  (spec_l12Copy.f n (x.1, x.2.1, x.2.2.1, ())).bind fun y1 =>
  if (!(!(decide (y1.1 < (0 : Int)))) || (decide (0 ≤ y1.1 ∧ y1.1 < (List.length x.1.2.2.1 : Int)))) = true then
    if ((decide (y1.1 < (0 : Int))) || (List.getD x.1.2.2.1 (Int.toNat y1.1) (Ty.zero tStewCopy)).2.2.2.2.2.1) = true then
      some (false, ())
    else
      (if true = true then (spec_l12Service.f n (x.1, x.2.1, ())) else some (tzero [(.int .i64)])).bind fun y2 =>
      if (!true || (decide (0 ≤ y2.1 ∧ y2.1 < (List.length x.1.2.1 : Int)))) = true then
        if (decide (0 ≤ y1.1 ∧ y1.1 < (List.length x.1.2.2.1 : Int))) = true then
          if (((List.getD x.1.2.2.1 (Int.toNat y1.1) (Ty.zero tStewCopy)).2.2.2.2.1 != (3 : Int)) || (List.getD x.1.2.1 (Int.toNat y2.1) (Ty.zero tStewService)).2.2.1) = true then
            some (true, ())
          else
            (if true = true then (spec_l13Count.f n (x.1, x.2.1, ())) else some (tzero [tStewCount])).bind fun y3 =>
            some ((decide ((IntKind.i64.wrap (y3.1.2.1 - (1 : Int))) ≥ (IntKind.i64.wrap ((List.getD x.1.2.1 (Int.toNat y2.1) (Ty.zero tStewService)).2.2.2.2.1 - (List.getD x.1.2.1 (Int.toNat y2.1) (Ty.zero tStewService)).2.2.2.2.2.1)))), ())
        else
          none
      else
        none
  else
    none
@[reducible] def sig (n : Nat) : Sig := ⟨[tStewBook, .str, (.int .i64)], [.bool], false, f n, none⟩
def T (n : Nat) : FuncId → Option Sig := fun g => if Nat.beq g 32 = true then some (spec_l12Copy.sig n) else if Nat.beq g 33 = true then some (spec_l12Service.sig n) else if Nat.beq g 34 = true then some (spec_l13Count.sig n) else none
def TL (n : Nat) : Loops := fun j _ st k => none
theorem con (n : Nat) : Con Try.prog 13 (sig n) :=
  con_print (hsw := rfl) (T := T n) (TL := TL n) (c := Try.f13.body.getD .skip) (js := []) hMixed (conT_cons (spec_l12Copy.con n) (conT_cons (spec_l12Service.con n) (conT_cons (spec_l13Count.con n) conT_none))) Try.func13 (by decide) (by kernel_rfl) (by kernel_rfl) (by decide) LoopDef.nil (fun x => by kernel_rfl)
end spec_l14MayEnd
namespace spec_StewMayEnd
def f (n : Nat) (x : Tup [tStewBook, .str, (.int .i64)]) : Option (Tup [.bool]) :=
  (spec_StewValid.f n (x.1, ())).bind fun y1 =>
  (if y1.1 = true then (spec_l14MayEnd.f n (x.1, x.2.1, x.2.2.1, ())) else some (tzero [.bool])).bind fun y2 =>
  some ((y1.1 && y2.1), ())
@[reducible] def sig (n : Nat) : Sig := ⟨[tStewBook, .str, (.int .i64)], [.bool], false, f n, none⟩
def T (n : Nat) : FuncId → Option Sig := fun g => if Nat.beq g 12 = true then some (spec_StewValid.sig n) else if Nat.beq g 13 = true then some (spec_l14MayEnd.sig n) else none
def TL (n : Nat) : Loops := fun j _ st k => none
theorem con (n : Nat) : Con Try.prog 5 (sig n) :=
  con_print (hsw := rfl) (T := T n) (TL := TL n) (c := Try.f5.body.getD .skip) (js := []) hMixed (conT_cons (spec_StewValid.con n) (conT_cons (spec_l14MayEnd.con n) conT_none)) Try.func5 (by decide) (by kernel_rfl) (by kernel_rfl) (by decide) LoopDef.nil (fun x => by kernel_rfl)
end spec_StewMayEnd
namespace impl_within
def f (n : Nat) (x : Tup [(.int .i64), (.int .i64), (.int .i64)]) : Option (Tup [.bool]) :=
  some (((decide (x.1 ≥ x.2.1)) && (decide (x.1 ≤ x.2.2.1))), ())
@[reducible] def sig (n : Nat) : Sig := ⟨[(.int .i64), (.int .i64), (.int .i64)], [.bool], false, f n, none⟩
def T (n : Nat) : FuncId → Option Sig := fun g => none
def TL (n : Nat) : Loops := fun j _ st k => none
theorem con (n : Nat) : Con Try.prog 38 (sig n) :=
  con_print (hsw := rfl) (T := T n) (TL := TL n) (c := Try.f38.body.getD .skip) (js := []) hMixed conT_none Try.func38 (by decide) (by kernel_rfl) (by kernel_rfl) (by decide) LoopDef.nil (fun x => by kernel_rfl)
end impl_within
namespace impl_isName_stew
@[reducible] def l4 : LSpec := ⟨[(0, .d .str), (14, .d (.int .i64)), (15, .d (.int .i64))], [(.ret, [(2, .d .bool)]), (.exit 0, [])]⟩
def B4 (n : Nat) {R : Type} (next : Sden l4.inS → Option R) (cs : Conts R l4.outs) (x : Sden l4.inS) : Option R :=
  if (decide (x.2.2.1 < x.2.1)) = true then
    if (decide (0 ≤ x.2.2.1 ∧ x.2.2.1 < (ByteArray.size x.1 : Int))) = true then
      if (!((((decide ((byteAt x.1 x.2.2.1) ≥ (97 : Int))) && (decide ((byteAt x.1 x.2.2.1) ≤ (122 : Int)))) || ((decide ((byteAt x.1 x.2.2.1) ≥ (48 : Int))) && (decide ((byteAt x.1 x.2.2.1) ≤ (57 : Int))))) || ((byteAt x.1 x.2.2.1) == (45 : Int)))) = true then
        cs.1 (false, ())
      else
        next (x.1, x.2.1, (IntKind.i64.wrap (x.2.2.1 + (1 : Int))), ())
    else
      none
  else
    cs.2.1 ()
def f (n : Nat) (x : Tup [.str]) : Option (Tup [.bool]) :=
  if ((decide ((ByteArray.size x.1 : Int) < (1 : Int))) || (decide ((ByteArray.size x.1 : Int) > (20 : Int)))) = true then
    some (false, ())
  else
    runL (B4 n) ((fun z1 =>
        some (z1.1, ())), (fun z2 =>
        some (true, ())), ()) n (x.1, (ByteArray.size x.1 : Int), (0 : Int), ())
@[reducible] def sig (n : Nat) : Sig := ⟨[.str], [.bool], false, f n, none⟩
def T (n : Nat) : FuncId → Option Sig := fun g => none
def TL (n : Nat) : Loops := fun j _ st k => if Nat.beq j 4 = true then (match dec st l4.inS [] with | some x => runL (B4 n) (contsOf k l4.outs) n x | none => none) else none
theorem d4 (n : Nat) : LoopDef Try.prog (T n) (TL n) Try.f40 4 :=
  ⟨l4, fun R => B4 n, n, fun R st k => by kernel_rfl, fun R next cs x => by kernel_rfl⟩
theorem con (n : Nat) : Con Try.prog 40 (sig n) :=
  con_print (hsw := rfl) (T := T n) (TL := TL n) (c := Try.f40.body.getD .skip) (js := [4]) hMixed conT_none Try.func40 (by decide) (by kernel_rfl) (by kernel_rfl) (by decide) (LoopDef.cons (d4 n) LoopDef.nil) (fun x => by kernel_rfl)
end impl_isName_stew
namespace impl_serviceOk
def f (n : Nat) (x : Tup [tStewService, (.int .i64)]) : Option (Tup [.bool]) :=
  (impl_isName_stew.f n (x.1.1, ())).bind fun y1 =>
  (if (!(!y1.1)) = true then (impl_within.f n (x.1.2.1, (1 : Int), x.2.1, ())) else some (tzero [.bool])).bind fun y2 =>
  (if (!((!y1.1) || (!y2.1))) = true then (impl_within.f n (x.1.2.2.2.1, (1 : Int), (1000000 : Int), ())) else some (tzero [.bool])).bind fun y3 =>
  (if (!(((!y1.1) || (!y2.1)) || (!y3.1))) = true then (impl_within.f n (x.1.2.2.2.2.2.2.2.1, (1 : Int), (1000000 : Int), ())) else some (tzero [.bool])).bind fun y4 =>
  (if (!((((!y1.1) || (!y2.1)) || (!y3.1)) || (!y4.1))) = true then (impl_within.f n (x.1.2.2.2.2.1, (0 : Int), (10 : Int), ())) else some (tzero [.bool])).bind fun y5 =>
  (if (!(((((!y1.1) || (!y2.1)) || (!y3.1)) || (!y4.1)) || (!y5.1))) = true then (impl_within.f n (x.1.2.2.2.2.2.1, (0 : Int), (10 : Int), ())) else some (tzero [.bool])).bind fun y6 =>
  (if (!((((((!y1.1) || (!y2.1)) || (!y3.1)) || (!y4.1)) || (!y5.1)) || (!y6.1))) = true then (impl_within.f n (x.1.2.2.2.2.2.2.1, (0 : Int), (10 : Int), ())) else some (tzero [.bool])).bind fun y7 =>
  if ((((((((!y1.1) || (!y2.1)) || (!y3.1)) || (!y4.1)) || (!y5.1)) || (!y6.1)) || (!y7.1)) || ((IntKind.i64.wrap (x.1.2.2.2.2.2.1 + x.1.2.2.2.2.2.2.1)) == (0 : Int))) = true then
    some (false, ())
  else
    (impl_within.f n (x.1.2.2.2.2.2.2.2.2.1, (0 : Int), (1000000 : Int), ())).bind fun y8 =>
    (if (!(!y8.1)) = true then (impl_within.f n (x.1.2.2.2.2.2.2.2.2.2.2.2.1, (0 : Int), (1000000 : Int), ())) else some (tzero [.bool])).bind fun y9 =>
    (if (!((!y8.1) || (!y9.1))) = true then (impl_within.f n (x.1.2.2.2.2.2.2.2.2.2.1, (0 : Int), (10 : Int), ())) else some (tzero [.bool])).bind fun y10 =>
    (if (!(((!y8.1) || (!y9.1)) || (!y10.1))) = true then (impl_within.f n (x.1.2.2.2.2.2.2.2.2.2.2.1, (0 : Int), (10 : Int), ())) else some (tzero [.bool])).bind fun y11 =>
    (if (!(((((!y8.1) || (!y9.1)) || (!y10.1)) || (!y11.1)) || (decide (x.1.2.2.2.2.2.2.2.2.2.1 > x.1.2.2.2.2.2.2.2.2.2.2.1)))) = true then (impl_within.f n (x.1.2.2.2.2.2.2.2.2.2.2.2.2.1, (0 : Int), (3 : Int), ())) else some (tzero [.bool])).bind fun y12 =>
    if ((((((!y8.1) || (!y9.1)) || (!y10.1)) || (!y11.1)) || (decide (x.1.2.2.2.2.2.2.2.2.2.1 > x.1.2.2.2.2.2.2.2.2.2.2.1))) || (!y12.1)) = true then
      some (false, ())
    else
      some (((decide (x.1.2.2.2.2.2.2.2.2.1 > (0 : Int))) || ((((x.1.2.2.2.2.2.2.2.2.2.1 == (0 : Int)) && (x.1.2.2.2.2.2.2.2.2.2.2.1 == (0 : Int))) && (x.1.2.2.2.2.2.2.2.2.2.2.2.1 == (0 : Int))) && (x.1.2.2.2.2.2.2.2.2.2.2.2.2.1 == (0 : Int)))), ())
@[reducible] def sig (n : Nat) : Sig := ⟨[tStewService, (.int .i64)], [.bool], false, f n, none⟩
def T (n : Nat) : FuncId → Option Sig := fun g => if Nat.beq g 38 = true then some (impl_within.sig n) else if Nat.beq g 40 = true then some (impl_isName_stew.sig n) else none
def TL (n : Nat) : Loops := fun j _ st k => none
theorem con (n : Nat) : Con Try.prog 39 (sig n) :=
  con_print (hsw := rfl) (T := T n) (TL := TL n) (c := Try.f39.body.getD .skip) (js := []) hMixed (conT_cons (impl_within.con n) (conT_cons (impl_isName_stew.con n) conT_none)) Try.func39 (by decide) (by kernel_rfl) (by kernel_rfl) (by decide) LoopDef.nil (fun x => by kernel_rfl)
end impl_serviceOk
namespace impl_StewBook_service
@[reducible] def l2 : LSpec := ⟨[(0, .d (.ptr tStewBook)), (1, .d .str), (10, .d (.int .i64)), (11, .d (.int .i64))], [(.ret, [(4, .rb tStewService)]), (.exit 0, [])]⟩
def B2 (n : Nat) {R : Type} (next : Sden l2.inS → Option R) (cs : Conts R l2.outs) (x : Sden l2.inS) : Option R :=
  if (decide (x.2.2.2.1 < x.2.2.1)) = true then
    if (Option.isSome x.1) = true then
      if (decide (0 ≤ x.2.2.2.1 ∧ x.2.2.2.1 < (List.length (Option.getD x.1 (Ty.zero tStewBook)).2.1 : Int))) = true then
        if (seq (List.getD (Option.getD x.1 (Ty.zero tStewBook)).2.1 (Int.toNat x.2.2.2.1) (Ty.zero tStewService)).1 x.2.1) = true then
          if (Option.isSome x.1) = true then
            if (decide (0 ≤ x.2.2.2.1 ∧ x.2.2.2.1 < (List.length (Option.getD x.1 (Ty.zero tStewBook)).2.1 : Int))) = true then
              cs.1 ((List.getD (Option.getD x.1 (Ty.zero tStewBook)).2.1 (Int.toNat x.2.2.2.1) (Ty.zero tStewService)), ())
            else
              none
          else
            none
        else
          next (x.1, x.2.1, x.2.2.1, (IntKind.i64.wrap (x.2.2.2.1 + (1 : Int))), ())
      else
        none
    else
      none
  else
    cs.2.1 ()
def f (n : Nat) (x : Tup [(.ptr tStewBook), .str]) : Option (Tup [(.ptr tStewService)]) :=
  if (Option.isSome x.1) = true then
    runL (B2 n) ((fun z1 =>
        some ((some z1.1), ())), (fun z2 =>
        some (none, ())), ()) n (x.1, x.2.1, (List.length (Option.getD x.1 (Ty.zero tStewBook)).2.1 : Int), (0 : Int), ())
  else
    none
@[reducible] def sig (n : Nat) : Sig := ⟨[(.ptr tStewBook), .str], [(.ptr tStewService)], false, f n, none⟩
def T (n : Nat) : FuncId → Option Sig := fun g => none
def TL (n : Nat) : Loops := fun j _ st k => if Nat.beq j 2 = true then (match dec st l2.inS [] with | some x => runL (B2 n) (contsOf k l2.outs) n x | none => none) else none
theorem d2 (n : Nat) : LoopDef Try.prog (T n) (TL n) Try.f20 2 :=
  ⟨l2, fun R => B2 n, n, fun R st k => by kernel_rfl, fun R next cs x => by kernel_rfl⟩
theorem con (n : Nat) : Con Try.prog 20 (sig n) :=
  con_print (hsw := rfl) (T := T n) (TL := TL n) (c := Try.f20.body.getD .skip) (js := [2]) hMixed conT_none Try.func20 (by decide) (by kernel_rfl) (by kernel_rfl) (by decide) (LoopDef.cons (d2 n) LoopDef.nil) (fun x => by kernel_rfl)
end impl_StewBook_service
namespace impl_StewBook_berth
@[reducible] def l2 : LSpec := ⟨[(0, .d (.ptr tStewBook)), (1, .d .str), (10, .d (.int .i64)), (11, .d (.int .i64))], [(.ret, [(4, .rb tStewBerth)]), (.exit 0, [])]⟩
def B2 (n : Nat) {R : Type} (next : Sden l2.inS → Option R) (cs : Conts R l2.outs) (x : Sden l2.inS) : Option R :=
  if (decide (x.2.2.2.1 < x.2.2.1)) = true then
    if (Option.isSome x.1) = true then
      if (decide (0 ≤ x.2.2.2.1 ∧ x.2.2.2.1 < (List.length (Option.getD x.1 (Ty.zero tStewBook)).2.2.2.1 : Int))) = true then
        if (seq (List.getD (Option.getD x.1 (Ty.zero tStewBook)).2.2.2.1 (Int.toNat x.2.2.2.1) (Ty.zero tStewBerth)).1 x.2.1) = true then
          if (Option.isSome x.1) = true then
            if (decide (0 ≤ x.2.2.2.1 ∧ x.2.2.2.1 < (List.length (Option.getD x.1 (Ty.zero tStewBook)).2.2.2.1 : Int))) = true then
              cs.1 ((List.getD (Option.getD x.1 (Ty.zero tStewBook)).2.2.2.1 (Int.toNat x.2.2.2.1) (Ty.zero tStewBerth)), ())
            else
              none
          else
            none
        else
          next (x.1, x.2.1, x.2.2.1, (IntKind.i64.wrap (x.2.2.2.1 + (1 : Int))), ())
      else
        none
    else
      none
  else
    cs.2.1 ()
def f (n : Nat) (x : Tup [(.ptr tStewBook), .str]) : Option (Tup [(.ptr tStewBerth)]) :=
  if (Option.isSome x.1) = true then
    runL (B2 n) ((fun z1 =>
        some ((some z1.1), ())), (fun z2 =>
        some (none, ())), ()) n (x.1, x.2.1, (List.length (Option.getD x.1 (Ty.zero tStewBook)).2.2.2.1 : Int), (0 : Int), ())
  else
    none
@[reducible] def sig (n : Nat) : Sig := ⟨[(.ptr tStewBook), .str], [(.ptr tStewBerth)], false, f n, none⟩
def T (n : Nat) : FuncId → Option Sig := fun g => none
def TL (n : Nat) : Loops := fun j _ st k => if Nat.beq j 2 = true then (match dec st l2.inS [] with | some x => runL (B2 n) (contsOf k l2.outs) n x | none => none) else none
theorem d2 (n : Nat) : LoopDef Try.prog (T n) (TL n) Try.f41 2 :=
  ⟨l2, fun R => B2 n, n, fun R st k => by kernel_rfl, fun R next cs x => by kernel_rfl⟩
theorem con (n : Nat) : Con Try.prog 41 (sig n) :=
  con_print (hsw := rfl) (T := T n) (TL := TL n) (c := Try.f41.body.getD .skip) (js := [2]) hMixed conT_none Try.func41 (by decide) (by kernel_rfl) (by kernel_rfl) (by decide) (LoopDef.cons (d2 n) LoopDef.nil) (fun x => by kernel_rfl)
end impl_StewBook_berth
namespace impl_StewValid
@[reducible] def l4 : LSpec := ⟨[(1, .rb tStewBook), (34, .d (.slice tStewService)), (35, .d (.int .i64)), (36, .d (.int .i64))], [(.ret, [(2, .d .bool)]), (.exit 0, [(1, .rb tStewBook)])]⟩
def B4 (n : Nat) {R : Type} (next : Sden l4.inS → Option R) (cs : Conts R l4.outs) (x : Sden l4.inS) : Option R :=
  if (decide (x.2.2.2.1 < x.2.2.1)) = true then
    if (decide (0 ≤ x.2.2.2.1 ∧ x.2.2.2.1 < (List.length x.2.1 : Int))) = true then
      (if true = true then (impl_serviceOk.f n ((List.getD x.2.1 (Int.toNat x.2.2.2.1) (Ty.zero tStewService)), x.1.1, ())) else some (tzero [.bool])).bind fun y2 =>
      if (!((!(!y2.1)) && (decide (x.2.2.2.1 > (0 : Int)))) || (decide (0 ≤ (IntKind.i64.wrap (x.2.2.2.1 - (1 : Int))) ∧ (IntKind.i64.wrap (x.2.2.2.1 - (1 : Int))) < (List.length x.1.2.1 : Int)))) = true then
        if ((!y2.1) || ((decide (x.2.2.2.1 > (0 : Int))) && (slt (List.getD x.2.1 (Int.toNat x.2.2.2.1) (Ty.zero tStewService)).1 (List.getD x.1.2.1 (Int.toNat (IntKind.i64.wrap (x.2.2.2.1 - (1 : Int)))) (Ty.zero tStewService)).1 || seq (List.getD x.2.1 (Int.toNat x.2.2.2.1) (Ty.zero tStewService)).1 (List.getD x.1.2.1 (Int.toNat (IntKind.i64.wrap (x.2.2.2.1 - (1 : Int)))) (Ty.zero tStewService)).1))) = true then
          cs.1 (false, ())
        else
          next (x.1, x.2.1, x.2.2.1, (IntKind.i64.wrap (x.2.2.2.1 + (1 : Int))), ())
      else
        none
    else
      none
  else
    cs.2.1 (x.1, ())
@[reducible] def l10 : LSpec := ⟨[(1, .rb tStewBook), (64, .d (.slice tStewBerth)), (65, .d (.int .i64)), (66, .d (.int .i64))], [(.ret, [(2, .d .bool)]), (.exit 2, [(1, .rb tStewBook)])]⟩
def B10 (n : Nat) {R : Type} (next : Sden l10.inS → Option R) (cs : Conts R l10.outs) (x : Sden l10.inS) : Option R :=
  if (decide (x.2.2.2.1 < x.2.2.1)) = true then
    if (decide (0 ≤ x.2.2.2.1 ∧ x.2.2.2.1 < (List.length x.2.1 : Int))) = true then
      (if true = true then (impl_isName_stew.f n ((List.getD x.2.1 (Int.toNat x.2.2.2.1) (Ty.zero tStewBerth)).1, ())) else some (tzero [.bool])).bind fun y5 =>
      if (!((!(!y5.1)) && (decide (x.2.2.2.1 > (0 : Int)))) || (decide (0 ≤ (IntKind.i64.wrap (x.2.2.2.1 - (1 : Int))) ∧ (IntKind.i64.wrap (x.2.2.2.1 - (1 : Int))) < (List.length x.1.2.2.2.1 : Int)))) = true then
        if ((!y5.1) || ((decide (x.2.2.2.1 > (0 : Int))) && (slt (List.getD x.2.1 (Int.toNat x.2.2.2.1) (Ty.zero tStewBerth)).1 (List.getD x.1.2.2.2.1 (Int.toNat (IntKind.i64.wrap (x.2.2.2.1 - (1 : Int)))) (Ty.zero tStewBerth)).1 || seq (List.getD x.2.1 (Int.toNat x.2.2.2.1) (Ty.zero tStewBerth)).1 (List.getD x.1.2.2.2.1 (Int.toNat (IntKind.i64.wrap (x.2.2.2.1 - (1 : Int)))) (Ty.zero tStewBerth)).1))) = true then
          cs.1 (false, ())
        else
          next (x.1, x.2.1, x.2.2.1, (IntKind.i64.wrap (x.2.2.2.1 + (1 : Int))), ())
      else
        none
    else
      none
  else
    cs.2.1 (x.1, ())
@[reducible] def l16 : LSpec := ⟨[(1, .rb tStewBook), (93, .d (.slice tStewCopy)), (94, .d (.int .i64)), (95, .d (.int .i64))], [(.ret, [(2, .d .bool)]), (.exit 4, [])]⟩
def B16 (n : Nat) {R : Type} (next : Sden l16.inS → Option R) (cs : Conts R l16.outs) (x : Sden l16.inS) : Option R :=
  if (decide (x.2.2.2.1 < x.2.2.1)) = true then
    if (decide (0 ≤ x.2.2.2.1 ∧ x.2.2.2.1 < (List.length x.2.1 : Int))) = true then
      (impl_StewBook_service.f n ((some x.1), (List.getD x.2.1 (Int.toNat x.2.2.2.1) (Ty.zero tStewCopy)).1, ())).bind fun y8 =>
      if (!(!(Option.isNone y8.1)) || (Option.isSome y8.1)) = true then
        (if (!(Option.isNone y8.1)) = true then (impl_within.f n ((List.getD x.2.1 (Int.toNat x.2.2.2.1) (Ty.zero tStewCopy)).2.1, (1 : Int), (IntKind.i64.wrap ((Option.getD y8.1 (Ty.zero tStewService)).2.2.2.2.2.2.2.1 - (1 : Int))), ())) else some (tzero [.bool])).bind fun y9 =>
        (if (!((Option.isNone y8.1) || (!y9.1))) = true then (impl_within.f n ((List.getD x.2.1 (Int.toNat x.2.2.2.1) (Ty.zero tStewCopy)).2.2.1, (1 : Int), x.1.1, ())) else some (tzero [.bool])).bind fun y10 =>
        (if (!(((Option.isNone y8.1) || (!y9.1)) || (!y10.1))) = true then (impl_within.f n ((List.getD x.2.1 (Int.toNat x.2.2.2.1) (Ty.zero tStewCopy)).2.2.2.1, (1 : Int), (1000000 : Int), ())) else some (tzero [.bool])).bind fun y11 =>
        (if (!((((Option.isNone y8.1) || (!y9.1)) || (!y10.1)) || (!y11.1))) = true then (impl_within.f n ((List.getD x.2.1 (Int.toNat x.2.2.2.1) (Ty.zero tStewCopy)).2.2.2.2.1, (1 : Int), (4 : Int), ())) else some (tzero [.bool])).bind fun y12 =>
        if (((((Option.isNone y8.1) || (!y9.1)) || (!y10.1)) || (!y11.1)) || (!y12.1)) = true then
          cs.1 (false, ())
        else
          (if ((!(((List.getD x.2.1 (Int.toNat x.2.2.2.1) (Ty.zero tStewCopy)).2.2.2.2.1 == (1 : Int)) && (!seq (List.getD x.2.1 (Int.toNat x.2.2.2.1) (Ty.zero tStewCopy)).2.2.2.2.2.2.1 (⟨#[]⟩ : ByteArray)))) && ((List.getD x.2.1 (Int.toNat x.2.2.2.1) (Ty.zero tStewCopy)).2.2.2.2.1 != (1 : Int))) = true then (impl_StewBook_berth.f n ((some x.1), (List.getD x.2.1 (Int.toNat x.2.2.2.1) (Ty.zero tStewCopy)).2.2.2.2.2.2.1, ())) else some (tzero [(.ptr tStewBerth)])).bind fun y13 =>
          if ((((List.getD x.2.1 (Int.toNat x.2.2.2.1) (Ty.zero tStewCopy)).2.2.2.2.1 == (1 : Int)) && (!seq (List.getD x.2.1 (Int.toNat x.2.2.2.1) (Ty.zero tStewCopy)).2.2.2.2.2.2.1 (⟨#[]⟩ : ByteArray))) || (((List.getD x.2.1 (Int.toNat x.2.2.2.1) (Ty.zero tStewCopy)).2.2.2.2.1 != (1 : Int)) && (Option.isNone y13.1))) = true then
            cs.1 (false, ())
          else if (decide (x.2.2.2.1 > (0 : Int))) = true then
            if (decide (0 ≤ (IntKind.i64.wrap (x.2.2.2.1 - (1 : Int))) ∧ (IntKind.i64.wrap (x.2.2.2.1 - (1 : Int))) < (List.length x.1.2.2.1 : Int))) = true then
              if ((slt (List.getD x.2.1 (Int.toNat x.2.2.2.1) (Ty.zero tStewCopy)).1 (List.getD x.1.2.2.1 (Int.toNat (IntKind.i64.wrap (x.2.2.2.1 - (1 : Int)))) (Ty.zero tStewCopy)).1) || ((seq (List.getD x.2.1 (Int.toNat x.2.2.2.1) (Ty.zero tStewCopy)).1 (List.getD x.1.2.2.1 (Int.toNat (IntKind.i64.wrap (x.2.2.2.1 - (1 : Int)))) (Ty.zero tStewCopy)).1) && (decide ((List.getD x.2.1 (Int.toNat x.2.2.2.1) (Ty.zero tStewCopy)).2.1 ≤ (List.getD x.1.2.2.1 (Int.toNat (IntKind.i64.wrap (x.2.2.2.1 - (1 : Int)))) (Ty.zero tStewCopy)).2.1)))) = true then
                cs.1 (false, ())
              else
                next (x.1, x.2.1, x.2.2.1, (IntKind.i64.wrap (x.2.2.2.1 + (1 : Int))), ())
            else
              none
          else
            next (x.1, x.2.1, x.2.2.1, (IntKind.i64.wrap (x.2.2.2.1 + (1 : Int))), ())
      else
        none
    else
      none
  else
    cs.2.1 ()
def f (n : Nat) (x : Tup [tStewBook]) : Option (Tup [.bool]) :=
  (impl_within.f n (x.1.1, (0 : Int), (1000000 : Int), ())).bind fun y1 =>
  if ((((!y1.1) || (decide ((List.length x.1.2.1 : Int) > (8 : Int)))) || (decide ((List.length x.1.2.2.1 : Int) > (200 : Int)))) || (decide ((List.length x.1.2.2.2.1 : Int) > (6 : Int)))) = true then
    some (false, ())
  else
    runL (B4 n) ((fun z3 =>
        some (z3.1, ())), (fun z4 =>
        runL (B10 n) ((fun z6 =>
            some (z6.1, ())), (fun z7 =>
            runL (B16 n) ((fun z14 =>
                some (z14.1, ())), (fun z15 =>
                some (true, ())), ()) n (z7.1, z7.1.2.2.1, (List.length z7.1.2.2.1 : Int), (0 : Int), ())), ()) n (z4.1, z4.1.2.2.2.1, (List.length z4.1.2.2.2.1 : Int), (0 : Int), ())), ()) n (x.1, x.1.2.1, (List.length x.1.2.1 : Int), (0 : Int), ())
@[reducible] def sig (n : Nat) : Sig := ⟨[tStewBook], [.bool], false, f n, none⟩
def T (n : Nat) : FuncId → Option Sig := fun g => if Nat.beq g 20 = true then some (impl_StewBook_service.sig n) else if Nat.beq g 38 = true then some (impl_within.sig n) else if Nat.beq g 39 = true then some (impl_serviceOk.sig n) else if Nat.beq g 40 = true then some (impl_isName_stew.sig n) else if Nat.beq g 41 = true then some (impl_StewBook_berth.sig n) else none
def TL (n : Nat) : Loops := fun j _ st k => if Nat.beq j 4 = true then (match dec st l4.inS [] with | some x => runL (B4 n) (contsOf k l4.outs) n x | none => none) else if Nat.beq j 10 = true then (match dec st l10.inS [] with | some x => runL (B10 n) (contsOf k l10.outs) n x | none => none) else if Nat.beq j 16 = true then (match dec st l16.inS [] with | some x => runL (B16 n) (contsOf k l16.outs) n x | none => none) else none
theorem d4 (n : Nat) : LoopDef Try.prog (T n) (TL n) Try.f17 4 :=
  ⟨l4, fun R => B4 n, n, fun R st k => by kernel_rfl, fun R next cs x => by kernel_rfl⟩
theorem d10 (n : Nat) : LoopDef Try.prog (T n) (TL n) Try.f17 10 :=
  ⟨l10, fun R => B10 n, n, fun R st k => by kernel_rfl, fun R next cs x => by kernel_rfl⟩
theorem d16 (n : Nat) : LoopDef Try.prog (T n) (TL n) Try.f17 16 :=
  ⟨l16, fun R => B16 n, n, fun R st k => by kernel_rfl, fun R next cs x => by kernel_rfl⟩
theorem con (n : Nat) : Con Try.prog 17 (sig n) :=
  con_print (hsw := rfl) (T := T n) (TL := TL n) (c := Try.f17.body.getD .skip) (js := [4, 10, 16]) hMixed (conT_cons (impl_StewBook_service.con n) (conT_cons (impl_within.con n) (conT_cons (impl_serviceOk.con n) (conT_cons (impl_isName_stew.con n) (conT_cons (impl_StewBook_berth.con n) conT_none))))) Try.func17 (by decide) (by kernel_rfl) (by kernel_rfl) (by decide) (LoopDef.cons (d4 n) (LoopDef.cons (d10 n) (LoopDef.cons (d16 n) LoopDef.nil))) (fun x => by kernel_rfl)
end impl_StewValid
namespace impl_StewBook_copy
@[reducible] def l2 : LSpec := ⟨[(0, .d (.ptr tStewBook)), (1, .d .str), (2, .d (.int .i64)), (12, .d (.int .i64)), (13, .d (.int .i64))], [(.ret, [(6, .rb tStewCopy)]), (.exit 0, [])]⟩
def B2 (n : Nat) {R : Type} (next : Sden l2.inS → Option R) (cs : Conts R l2.outs) (x : Sden l2.inS) : Option R :=
  if (decide (x.2.2.2.2.1 < x.2.2.2.1)) = true then
    if (Option.isSome x.1) = true then
      if (decide (0 ≤ x.2.2.2.2.1 ∧ x.2.2.2.2.1 < (List.length (Option.getD x.1 (Ty.zero tStewBook)).2.2.1 : Int))) = true then
        if (!(seq (List.getD (Option.getD x.1 (Ty.zero tStewBook)).2.2.1 (Int.toNat x.2.2.2.2.1) (Ty.zero tStewCopy)).1 x.2.1) || (Option.isSome x.1)) = true then
          if (!(seq (List.getD (Option.getD x.1 (Ty.zero tStewBook)).2.2.1 (Int.toNat x.2.2.2.2.1) (Ty.zero tStewCopy)).1 x.2.1) || (decide (0 ≤ x.2.2.2.2.1 ∧ x.2.2.2.2.1 < (List.length (Option.getD x.1 (Ty.zero tStewBook)).2.2.1 : Int)))) = true then
            if ((seq (List.getD (Option.getD x.1 (Ty.zero tStewBook)).2.2.1 (Int.toNat x.2.2.2.2.1) (Ty.zero tStewCopy)).1 x.2.1) && ((List.getD (Option.getD x.1 (Ty.zero tStewBook)).2.2.1 (Int.toNat x.2.2.2.2.1) (Ty.zero tStewCopy)).2.1 == x.2.2.1)) = true then
              if (Option.isSome x.1) = true then
                if (decide (0 ≤ x.2.2.2.2.1 ∧ x.2.2.2.2.1 < (List.length (Option.getD x.1 (Ty.zero tStewBook)).2.2.1 : Int))) = true then
                  cs.1 ((List.getD (Option.getD x.1 (Ty.zero tStewBook)).2.2.1 (Int.toNat x.2.2.2.2.1) (Ty.zero tStewCopy)), ())
                else
                  none
              else
                none
            else
              next (x.1, x.2.1, x.2.2.1, x.2.2.2.1, (IntKind.i64.wrap (x.2.2.2.2.1 + (1 : Int))), ())
          else
            none
        else
          none
      else
        none
    else
      none
  else
    cs.2.1 ()
def f (n : Nat) (x : Tup [(.ptr tStewBook), .str, (.int .i64)]) : Option (Tup [(.ptr tStewCopy)]) :=
  if (Option.isSome x.1) = true then
    runL (B2 n) ((fun z1 =>
        some ((some z1.1), ())), (fun z2 =>
        some (none, ())), ()) n (x.1, x.2.1, x.2.2.1, (List.length (Option.getD x.1 (Ty.zero tStewBook)).2.2.1 : Int), (0 : Int), ())
  else
    none
@[reducible] def sig (n : Nat) : Sig := ⟨[(.ptr tStewBook), .str, (.int .i64)], [(.ptr tStewCopy)], false, f n, none⟩
def T (n : Nat) : FuncId → Option Sig := fun g => none
def TL (n : Nat) : Loops := fun j _ st k => if Nat.beq j 2 = true then (match dec st l2.inS [] with | some x => runL (B2 n) (contsOf k l2.outs) n x | none => none) else none
theorem d2 (n : Nat) : LoopDef Try.prog (T n) (TL n) Try.f18 2 :=
  ⟨l2, fun R => B2 n, n, fun R st k => by kernel_rfl, fun R next cs x => by kernel_rfl⟩
theorem con (n : Nat) : Con Try.prog 18 (sig n) :=
  con_print (hsw := rfl) (T := T n) (TL := TL n) (c := Try.f18.body.getD .skip) (js := [2]) hMixed conT_none Try.func18 (by decide) (by kernel_rfl) (by kernel_rfl) (by decide) (LoopDef.cons (d2 n) LoopDef.nil) (fun x => by kernel_rfl)
end impl_StewBook_copy
namespace impl_StewBook_count
@[reducible] def l3 : LSpec := ⟨[(1, .d (.ptr tStewService)), (4, .box [.d (.int .i64), .d (.int .i64), .d (.int .i64), .d (.int .i64), .d (.int .i64)]), (5, .box [.d (.int .i64), .d (.int .i64), .d (.int .i64), .d (.int .i64), .d (.int .i64)]), (11, .d (.slice tStewCopy)), (12, .d (.int .i64)), (13, .d (.int .i64))], [(.exit 0, [(4, .box [.d (.int .i64), .d (.int .i64), .d (.int .i64), .d (.int .i64), .d (.int .i64)]), (5, .box [.d (.int .i64), .d (.int .i64), .d (.int .i64), .d (.int .i64), .d (.int .i64)])])]⟩
def B3 (n : Nat) {R : Type} (next : Sden l3.inS → Option R) (cs : Conts R l3.outs) (x : Sden l3.inS) : Option R :=
  if (decide (x.2.2.2.2.2.1 < x.2.2.2.2.1)) = true then
    if (decide (0 ≤ x.2.2.2.2.2.1 ∧ x.2.2.2.2.2.1 < (List.length x.2.2.2.1 : Int))) = true then
      if (!true || (Option.isSome x.1)) = true then
        if (!seq (List.getD x.2.2.2.1 (Int.toNat x.2.2.2.2.2.1) (Ty.zero tStewCopy)).1 (Option.getD x.1 (Ty.zero tStewService)).1) = true then
          next (x.1, (x.2.1.1, x.2.1.2.1, x.2.1.2.2.1, x.2.1.2.2.2.1, x.2.1.2.2.2.2.1, ()), (x.2.2.1.1, x.2.2.1.2.1, x.2.2.1.2.2.1, x.2.2.1.2.2.2.1, x.2.2.1.2.2.2.2.1, ()), x.2.2.2.1, x.2.2.2.2.1, (IntKind.i64.wrap (x.2.2.2.2.2.1 + (1 : Int))), ())
        else if (List.getD x.2.2.2.1 (Int.toNat x.2.2.2.2.2.1) (Ty.zero tStewCopy)).2.2.2.2.2.1 = true then
          next (x.1, (x.2.1.1, x.2.1.2.1, x.2.1.2.2.1, x.2.1.2.2.2.1, x.2.1.2.2.2.2.1, ()), (x.2.2.1.1, x.2.2.1.2.1, x.2.2.1.2.2.1, x.2.2.1.2.2.2.1, (IntKind.i64.wrap (x.2.2.1.2.2.2.2.1 + (1 : Int))), ()), x.2.2.2.1, x.2.2.2.2.1, (IntKind.i64.wrap (x.2.2.2.2.2.1 + (1 : Int))), ())
        else if ((List.getD x.2.2.2.1 (Int.toNat x.2.2.2.2.2.1) (Ty.zero tStewCopy)).2.2.2.2.1 == (3 : Int)) = true then
          if (!true || (Option.isSome x.1)) = true then
            if ((List.getD x.2.2.2.1 (Int.toNat x.2.2.2.2.2.1) (Ty.zero tStewCopy)).2.2.2.1 != (Option.getD x.1 (Ty.zero tStewService)).2.2.2.1) = true then
              if ((List.getD x.2.2.2.1 (Int.toNat x.2.2.2.2.2.1) (Ty.zero tStewCopy)).2.2.2.2.1 == (4 : Int)) = true then
                next (x.1, (x.2.1.1, x.2.1.2.1, x.2.1.2.2.1, x.2.1.2.2.2.1, x.2.1.2.2.2.2.1, ()), ((IntKind.i64.wrap (x.2.2.1.1 + (1 : Int))), (IntKind.i64.wrap (x.2.2.1.2.1 + (1 : Int))), (IntKind.i64.wrap (x.2.2.1.2.2.1 + (1 : Int))), (IntKind.i64.wrap (x.2.2.1.2.2.2.1 + (1 : Int))), x.2.2.1.2.2.2.2.1, ()), x.2.2.2.1, x.2.2.2.2.1, (IntKind.i64.wrap (x.2.2.2.2.2.1 + (1 : Int))), ())
              else
                next (x.1, (x.2.1.1, x.2.1.2.1, x.2.1.2.2.1, x.2.1.2.2.2.1, x.2.1.2.2.2.2.1, ()), ((IntKind.i64.wrap (x.2.2.1.1 + (1 : Int))), (IntKind.i64.wrap (x.2.2.1.2.1 + (1 : Int))), (IntKind.i64.wrap (x.2.2.1.2.2.1 + (1 : Int))), x.2.2.1.2.2.2.1, x.2.2.1.2.2.2.2.1, ()), x.2.2.2.1, x.2.2.2.2.1, (IntKind.i64.wrap (x.2.2.2.2.2.1 + (1 : Int))), ())
            else if ((List.getD x.2.2.2.1 (Int.toNat x.2.2.2.2.2.1) (Ty.zero tStewCopy)).2.2.2.2.1 == (4 : Int)) = true then
              next (x.1, (x.2.1.1, x.2.1.2.1, x.2.1.2.2.1, x.2.1.2.2.2.1, x.2.1.2.2.2.2.1, ()), ((IntKind.i64.wrap (x.2.2.1.1 + (1 : Int))), (IntKind.i64.wrap (x.2.2.1.2.1 + (1 : Int))), x.2.2.1.2.2.1, (IntKind.i64.wrap (x.2.2.1.2.2.2.1 + (1 : Int))), x.2.2.1.2.2.2.2.1, ()), x.2.2.2.1, x.2.2.2.2.1, (IntKind.i64.wrap (x.2.2.2.2.2.1 + (1 : Int))), ())
            else
              next (x.1, (x.2.1.1, x.2.1.2.1, x.2.1.2.2.1, x.2.1.2.2.2.1, x.2.1.2.2.2.2.1, ()), ((IntKind.i64.wrap (x.2.2.1.1 + (1 : Int))), (IntKind.i64.wrap (x.2.2.1.2.1 + (1 : Int))), x.2.2.1.2.2.1, x.2.2.1.2.2.2.1, x.2.2.1.2.2.2.2.1, ()), x.2.2.2.1, x.2.2.2.2.1, (IntKind.i64.wrap (x.2.2.2.2.2.1 + (1 : Int))), ())
          else
            none
        else if (!true || (Option.isSome x.1)) = true then
          if ((List.getD x.2.2.2.1 (Int.toNat x.2.2.2.2.2.1) (Ty.zero tStewCopy)).2.2.2.1 != (Option.getD x.1 (Ty.zero tStewService)).2.2.2.1) = true then
            if ((List.getD x.2.2.2.1 (Int.toNat x.2.2.2.2.2.1) (Ty.zero tStewCopy)).2.2.2.2.1 == (4 : Int)) = true then
              next (x.1, (x.2.1.1, x.2.1.2.1, x.2.1.2.2.1, x.2.1.2.2.2.1, x.2.1.2.2.2.2.1, ()), ((IntKind.i64.wrap (x.2.2.1.1 + (1 : Int))), x.2.2.1.2.1, (IntKind.i64.wrap (x.2.2.1.2.2.1 + (1 : Int))), (IntKind.i64.wrap (x.2.2.1.2.2.2.1 + (1 : Int))), x.2.2.1.2.2.2.2.1, ()), x.2.2.2.1, x.2.2.2.2.1, (IntKind.i64.wrap (x.2.2.2.2.2.1 + (1 : Int))), ())
            else
              next (x.1, (x.2.1.1, x.2.1.2.1, x.2.1.2.2.1, x.2.1.2.2.2.1, x.2.1.2.2.2.2.1, ()), ((IntKind.i64.wrap (x.2.2.1.1 + (1 : Int))), x.2.2.1.2.1, (IntKind.i64.wrap (x.2.2.1.2.2.1 + (1 : Int))), x.2.2.1.2.2.2.1, x.2.2.1.2.2.2.2.1, ()), x.2.2.2.1, x.2.2.2.2.1, (IntKind.i64.wrap (x.2.2.2.2.2.1 + (1 : Int))), ())
          else if ((List.getD x.2.2.2.1 (Int.toNat x.2.2.2.2.2.1) (Ty.zero tStewCopy)).2.2.2.2.1 == (4 : Int)) = true then
            next (x.1, (x.2.1.1, x.2.1.2.1, x.2.1.2.2.1, x.2.1.2.2.2.1, x.2.1.2.2.2.2.1, ()), ((IntKind.i64.wrap (x.2.2.1.1 + (1 : Int))), x.2.2.1.2.1, x.2.2.1.2.2.1, (IntKind.i64.wrap (x.2.2.1.2.2.2.1 + (1 : Int))), x.2.2.1.2.2.2.2.1, ()), x.2.2.2.1, x.2.2.2.2.1, (IntKind.i64.wrap (x.2.2.2.2.2.1 + (1 : Int))), ())
          else
            next (x.1, (x.2.1.1, x.2.1.2.1, x.2.1.2.2.1, x.2.1.2.2.2.1, x.2.1.2.2.2.2.1, ()), ((IntKind.i64.wrap (x.2.2.1.1 + (1 : Int))), x.2.2.1.2.1, x.2.2.1.2.2.1, x.2.2.1.2.2.2.1, x.2.2.1.2.2.2.2.1, ()), x.2.2.2.1, x.2.2.2.2.1, (IntKind.i64.wrap (x.2.2.2.2.2.1 + (1 : Int))), ())
        else
          none
      else
        none
    else
      none
  else
    cs.1 ((x.2.1.1, x.2.1.2.1, x.2.1.2.2.1, x.2.1.2.2.2.1, x.2.1.2.2.2.2.1, ()), (x.2.2.1.1, x.2.2.1.2.1, x.2.2.1.2.2.1, x.2.2.1.2.2.2.1, x.2.2.1.2.2.2.2.1, ()), ())
def f (n : Nat) (x : Tup [(.ptr tStewBook), (.ptr tStewService)]) : Option (Tup [tStewCount]) :=
  if (Option.isSome x.1) = true then
    runL (B3 n) ((fun z1 =>
        some ((z1.2.1.1, z1.2.1.2.1, z1.2.1.2.2.1, z1.2.1.2.2.2.1, z1.2.1.2.2.2.2.1, ()), ())), ()) n (x.2.1, ((0 : Int), (0 : Int), (0 : Int), (0 : Int), (0 : Int), ()), ((0 : Int), (0 : Int), (0 : Int), (0 : Int), (0 : Int), ()), (Option.getD x.1 (Ty.zero tStewBook)).2.2.1, (List.length (Option.getD x.1 (Ty.zero tStewBook)).2.2.1 : Int), (0 : Int), ())
  else
    none
@[reducible] def sig (n : Nat) : Sig := ⟨[(.ptr tStewBook), (.ptr tStewService)], [tStewCount], false, f n, none⟩
def T (n : Nat) : FuncId → Option Sig := fun g => none
def TL (n : Nat) : Loops := fun j _ st k => if Nat.beq j 3 = true then (match dec st l3.inS [] with | some x => runL (B3 n) (contsOf k l3.outs) n x | none => none) else none
theorem d3 (n : Nat) : LoopDef Try.prog (T n) (TL n) Try.f42 3 :=
  ⟨l3, fun R => B3 n, n, fun R st k => by kernel_rfl, fun R next cs x => by kernel_rfl⟩
theorem con (n : Nat) : Con Try.prog 42 (sig n) :=
  con_print (hsw := rfl) (T := T n) (TL := TL n) (c := Try.f42.body.getD .skip) (js := [3]) hMixed conT_none Try.func42 (by decide) (by kernel_rfl) (by kernel_rfl) (by decide) (LoopDef.cons (d3 n) LoopDef.nil) (fun x => by kernel_rfl)
end impl_StewBook_count
namespace impl_StewBook_mayEnd
def f (n : Nat) (x : Tup [(.ptr tStewBook), (.ptr tStewService), (.ptr tStewCopy)]) : Option (Tup [.bool]) :=
  if (!(!(Option.isNone x.2.2.1)) || (Option.isSome x.2.2.1)) = true then
    if ((Option.isNone x.2.2.1) || (Option.getD x.2.2.1 (Ty.zero tStewCopy)).2.2.2.2.2.1) = true then
      some (false, ())
    else if (!true || (Option.isSome x.2.2.1)) = true then
      if (!(!((Option.getD x.2.2.1 (Ty.zero tStewCopy)).2.2.2.2.1 != (3 : Int))) || (Option.isSome x.2.1)) = true then
        (if (!(((Option.getD x.2.2.1 (Ty.zero tStewCopy)).2.2.2.2.1 != (3 : Int)) || (Option.getD x.2.1 (Ty.zero tStewService)).2.2.1)) = true then (impl_StewBook_count.f n (x.1, x.2.1, ())) else some (tzero [tStewCount])).bind fun y1 =>
        if (!(!(((Option.getD x.2.2.1 (Ty.zero tStewCopy)).2.2.2.2.1 != (3 : Int)) || (Option.getD x.2.1 (Ty.zero tStewService)).2.2.1)) || (Option.isSome x.2.1)) = true then
          if (!(!(((Option.getD x.2.2.1 (Ty.zero tStewCopy)).2.2.2.2.1 != (3 : Int)) || (Option.getD x.2.1 (Ty.zero tStewService)).2.2.1)) || (Option.isSome x.2.1)) = true then
            some (((((Option.getD x.2.2.1 (Ty.zero tStewCopy)).2.2.2.2.1 != (3 : Int)) || (Option.getD x.2.1 (Ty.zero tStewService)).2.2.1) || (decide ((IntKind.i64.wrap (y1.1.2.1 - (1 : Int))) ≥ (IntKind.i64.wrap ((Option.getD x.2.1 (Ty.zero tStewService)).2.2.2.2.1 - (Option.getD x.2.1 (Ty.zero tStewService)).2.2.2.2.2.1))))), ())
          else
            none
        else
          none
      else
        none
    else
      none
  else
    none
@[reducible] def sig (n : Nat) : Sig := ⟨[(.ptr tStewBook), (.ptr tStewService), (.ptr tStewCopy)], [.bool], false, f n, none⟩
def T (n : Nat) : FuncId → Option Sig := fun g => if Nat.beq g 42 = true then some (impl_StewBook_count.sig n) else none
def TL (n : Nat) : Loops := fun j _ st k => none
theorem con (n : Nat) : Con Try.prog 19 (sig n) :=
  con_print (hsw := rfl) (T := T n) (TL := TL n) (c := Try.f19.body.getD .skip) (js := []) hMixed (conT_cons (impl_StewBook_count.con n) conT_none) Try.func19 (by decide) (by kernel_rfl) (by kernel_rfl) (by decide) LoopDef.nil (fun x => by kernel_rfl)
end impl_StewBook_mayEnd
namespace impl_StewMayEnd
def f (n : Nat) (x : Tup [tStewBook, .str, (.int .i64)]) : Option (Tup [.bool]) :=
  (impl_StewValid.f n (x.1, ())).bind fun y1 =>
  (if y1.1 = true then (impl_StewBook_copy.f n ((some x.1), x.2.1, x.2.2.1, ())) else some (tzero [(.ptr tStewCopy)])).bind fun y2 =>
  (if (y1.1 && (Option.isSome y2.1)) = true then (impl_StewBook_service.f n ((some x.1), x.2.1, ())) else some (tzero [(.ptr tStewService)])).bind fun y3 =>
  (if (y1.1 && (Option.isSome y2.1)) = true then (impl_StewBook_copy.f n ((some x.1), x.2.1, x.2.2.1, ())) else some (tzero [(.ptr tStewCopy)])).bind fun y4 =>
  (if (y1.1 && (Option.isSome y2.1)) = true then (impl_StewBook_mayEnd.f n ((some x.1), y3.1, y4.1, ())) else some (tzero [.bool])).bind fun y5 =>
  some (((y1.1 && (Option.isSome y2.1)) && y5.1), ())
@[reducible] def sig (n : Nat) : Sig := ⟨[tStewBook, .str, (.int .i64)], [.bool], false, f n, none⟩
def T (n : Nat) : FuncId → Option Sig := fun g => if Nat.beq g 17 = true then some (impl_StewValid.sig n) else if Nat.beq g 18 = true then some (impl_StewBook_copy.sig n) else if Nat.beq g 19 = true then some (impl_StewBook_mayEnd.sig n) else if Nat.beq g 20 = true then some (impl_StewBook_service.sig n) else none
def TL (n : Nat) : Loops := fun j _ st k => none
theorem con (n : Nat) : Con Try.prog 7 (sig n) :=
  con_print (hsw := rfl) (T := T n) (TL := TL n) (c := Try.f7.body.getD .skip) (js := []) hMixed (conT_cons (impl_StewValid.con n) (conT_cons (impl_StewBook_copy.con n) (conT_cons (impl_StewBook_mayEnd.con n) (conT_cons (impl_StewBook_service.con n) conT_none)))) Try.func7 (by decide) (by kernel_rfl) (by kernel_rfl) (by decide) LoopDef.nil (fun x => by kernel_rfl)
end impl_StewMayEnd
namespace laws_eqStewService
def f (n : Nat) (x : Tup [tStewService, tStewService]) : Option (Tup [.bool]) :=
  if (!seq x.1.1 x.2.1.1) = true then
    some (false, ())
  else if (x.1.2.1 != x.2.1.2.1) = true then
    some (false, ())
  else if (!(x.1.2.2.1 == x.2.1.2.2.1)) = true then
    some (false, ())
  else if (x.1.2.2.2.1 != x.2.1.2.2.2.1) = true then
    some (false, ())
  else if (x.1.2.2.2.2.1 != x.2.1.2.2.2.2.1) = true then
    some (false, ())
  else if (x.1.2.2.2.2.2.1 != x.2.1.2.2.2.2.2.1) = true then
    some (false, ())
  else if (x.1.2.2.2.2.2.2.1 != x.2.1.2.2.2.2.2.2.1) = true then
    some (false, ())
  else if (x.1.2.2.2.2.2.2.2.1 != x.2.1.2.2.2.2.2.2.2.1) = true then
    some (false, ())
  else if (x.1.2.2.2.2.2.2.2.2.1 != x.2.1.2.2.2.2.2.2.2.2.1) = true then
    some (false, ())
  else if (x.1.2.2.2.2.2.2.2.2.2.1 != x.2.1.2.2.2.2.2.2.2.2.2.1) = true then
    some (false, ())
  else if (x.1.2.2.2.2.2.2.2.2.2.2.1 != x.2.1.2.2.2.2.2.2.2.2.2.2.1) = true then
    some (false, ())
  else if (x.1.2.2.2.2.2.2.2.2.2.2.2.1 != x.2.1.2.2.2.2.2.2.2.2.2.2.2.1) = true then
    some (false, ())
  else if (x.1.2.2.2.2.2.2.2.2.2.2.2.2.1 != x.2.1.2.2.2.2.2.2.2.2.2.2.2.2.1) = true then
    some (false, ())
  else
    some (true, ())
@[reducible] def sig (n : Nat) : Sig := ⟨[tStewService, tStewService], [.bool], false, f n, none⟩
def T (n : Nat) : FuncId → Option Sig := fun g => none
def TL (n : Nat) : Loops := fun j _ st k => none
theorem con (n : Nat) : Con Try.prog 43 (sig n) :=
  con_print (hsw := rfl) (T := T n) (TL := TL n) (c := Try.f43.body.getD .skip) (js := []) hMixed conT_none Try.func43 (by decide) (by kernel_rfl) (by kernel_rfl) (by decide) LoopDef.nil (fun x => by kernel_rfl)
end laws_eqStewService
namespace laws_eqStewServiceS
@[reducible] def l4 : LSpec := ⟨[(0, .d (.slice tStewService)), (1, .d (.slice tStewService)), (5, .d (.int .i64))], [(.ret, [(4, .d .bool)]), (.exit 0, [])]⟩
def B4 (n : Nat) {R : Type} (next : Sden l4.inS → Option R) (cs : Conts R l4.outs) (x : Sden l4.inS) : Option R :=
  if (decide (x.2.2.1 < (List.length x.1 : Int))) = true then
    if (!true || (decide (0 ≤ x.2.2.1 ∧ x.2.2.1 < (List.length x.1 : Int)))) = true then
      if (!true || (decide (0 ≤ x.2.2.1 ∧ x.2.2.1 < (List.length x.2.1 : Int)))) = true then
        (laws_eqStewService.f n ((List.getD x.1 (Int.toNat x.2.2.1) (Ty.zero tStewService)), (List.getD x.2.1 (Int.toNat x.2.2.1) (Ty.zero tStewService)), ())).bind fun y1 =>
        if (!y1.1) = true then
          cs.1 (false, ())
        else
          next (x.1, x.2.1, (IntKind.i64.wrap (x.2.2.1 + (1 : Int))), ())
      else
        none
    else
      none
  else
    cs.2.1 ()
def f (n : Nat) (x : Tup [(.slice tStewService), (.slice tStewService)]) : Option (Tup [.bool]) :=
  if ((List.length x.1 : Int) != (List.length x.2.1 : Int)) = true then
    some (false, ())
  else
    runL (B4 n) ((fun z2 =>
        some (z2.1, ())), (fun z3 =>
        some (true, ())), ()) n (x.1, x.2.1, (0 : Int), ())
@[reducible] def sig (n : Nat) : Sig := ⟨[(.slice tStewService), (.slice tStewService)], [.bool], false, f n, none⟩
def T (n : Nat) : FuncId → Option Sig := fun g => if Nat.beq g 43 = true then some (laws_eqStewService.sig n) else none
def TL (n : Nat) : Loops := fun j _ st k => if Nat.beq j 4 = true then (match dec st l4.inS [] with | some x => runL (B4 n) (contsOf k l4.outs) n x | none => none) else none
theorem d4 (n : Nat) : LoopDef Try.prog (T n) (TL n) Try.f21 4 :=
  ⟨l4, fun R => B4 n, n, fun R st k => by kernel_rfl, fun R next cs x => by kernel_rfl⟩
theorem con (n : Nat) : Con Try.prog 21 (sig n) :=
  con_print (hsw := rfl) (T := T n) (TL := TL n) (c := Try.f21.body.getD .skip) (js := [4]) hMixed (conT_cons (laws_eqStewService.con n) conT_none) Try.func21 (by decide) (by kernel_rfl) (by kernel_rfl) (by decide) (LoopDef.cons (d4 n) LoopDef.nil) (fun x => by kernel_rfl)
end laws_eqStewServiceS
namespace laws_eqStewCopy
def f (n : Nat) (x : Tup [tStewCopy, tStewCopy]) : Option (Tup [.bool]) :=
  if (!seq x.1.1 x.2.1.1) = true then
    some (false, ())
  else if (x.1.2.1 != x.2.1.2.1) = true then
    some (false, ())
  else if (x.1.2.2.1 != x.2.1.2.2.1) = true then
    some (false, ())
  else if (x.1.2.2.2.1 != x.2.1.2.2.2.1) = true then
    some (false, ())
  else if (x.1.2.2.2.2.1 != x.2.1.2.2.2.2.1) = true then
    some (false, ())
  else if (!(x.1.2.2.2.2.2.1 == x.2.1.2.2.2.2.2.1)) = true then
    some (false, ())
  else if (!seq x.1.2.2.2.2.2.2.1 x.2.1.2.2.2.2.2.2.1) = true then
    some (false, ())
  else
    some (true, ())
@[reducible] def sig (n : Nat) : Sig := ⟨[tStewCopy, tStewCopy], [.bool], false, f n, none⟩
def T (n : Nat) : FuncId → Option Sig := fun g => none
def TL (n : Nat) : Loops := fun j _ st k => none
theorem con (n : Nat) : Con Try.prog 44 (sig n) :=
  con_print (hsw := rfl) (T := T n) (TL := TL n) (c := Try.f44.body.getD .skip) (js := []) hMixed conT_none Try.func44 (by decide) (by kernel_rfl) (by kernel_rfl) (by decide) LoopDef.nil (fun x => by kernel_rfl)
end laws_eqStewCopy
namespace laws_eqStewCopyS
@[reducible] def l4 : LSpec := ⟨[(0, .d (.slice tStewCopy)), (1, .d (.slice tStewCopy)), (5, .d (.int .i64))], [(.ret, [(4, .d .bool)]), (.exit 0, [])]⟩
def B4 (n : Nat) {R : Type} (next : Sden l4.inS → Option R) (cs : Conts R l4.outs) (x : Sden l4.inS) : Option R :=
  if (decide (x.2.2.1 < (List.length x.1 : Int))) = true then
    if (!true || (decide (0 ≤ x.2.2.1 ∧ x.2.2.1 < (List.length x.1 : Int)))) = true then
      if (!true || (decide (0 ≤ x.2.2.1 ∧ x.2.2.1 < (List.length x.2.1 : Int)))) = true then
        (laws_eqStewCopy.f n ((List.getD x.1 (Int.toNat x.2.2.1) (Ty.zero tStewCopy)), (List.getD x.2.1 (Int.toNat x.2.2.1) (Ty.zero tStewCopy)), ())).bind fun y1 =>
        if (!y1.1) = true then
          cs.1 (false, ())
        else
          next (x.1, x.2.1, (IntKind.i64.wrap (x.2.2.1 + (1 : Int))), ())
      else
        none
    else
      none
  else
    cs.2.1 ()
def f (n : Nat) (x : Tup [(.slice tStewCopy), (.slice tStewCopy)]) : Option (Tup [.bool]) :=
  if ((List.length x.1 : Int) != (List.length x.2.1 : Int)) = true then
    some (false, ())
  else
    runL (B4 n) ((fun z2 =>
        some (z2.1, ())), (fun z3 =>
        some (true, ())), ()) n (x.1, x.2.1, (0 : Int), ())
@[reducible] def sig (n : Nat) : Sig := ⟨[(.slice tStewCopy), (.slice tStewCopy)], [.bool], false, f n, none⟩
def T (n : Nat) : FuncId → Option Sig := fun g => if Nat.beq g 44 = true then some (laws_eqStewCopy.sig n) else none
def TL (n : Nat) : Loops := fun j _ st k => if Nat.beq j 4 = true then (match dec st l4.inS [] with | some x => runL (B4 n) (contsOf k l4.outs) n x | none => none) else none
theorem d4 (n : Nat) : LoopDef Try.prog (T n) (TL n) Try.f22 4 :=
  ⟨l4, fun R => B4 n, n, fun R st k => by kernel_rfl, fun R next cs x => by kernel_rfl⟩
theorem con (n : Nat) : Con Try.prog 22 (sig n) :=
  con_print (hsw := rfl) (T := T n) (TL := TL n) (c := Try.f22.body.getD .skip) (js := [4]) hMixed (conT_cons (laws_eqStewCopy.con n) conT_none) Try.func22 (by decide) (by kernel_rfl) (by kernel_rfl) (by decide) (LoopDef.cons (d4 n) LoopDef.nil) (fun x => by kernel_rfl)
end laws_eqStewCopyS
namespace laws_eqStewBerth
def f (n : Nat) (x : Tup [tStewBerth, tStewBerth]) : Option (Tup [.bool]) :=
  if (!seq x.1.1 x.2.1.1) = true then
    some (false, ())
  else if (!(x.1.2.1 == x.2.1.2.1)) = true then
    some (false, ())
  else
    some (true, ())
@[reducible] def sig (n : Nat) : Sig := ⟨[tStewBerth, tStewBerth], [.bool], false, f n, none⟩
def T (n : Nat) : FuncId → Option Sig := fun g => none
def TL (n : Nat) : Loops := fun j _ st k => none
theorem con (n : Nat) : Con Try.prog 45 (sig n) :=
  con_print (hsw := rfl) (T := T n) (TL := TL n) (c := Try.f45.body.getD .skip) (js := []) hMixed conT_none Try.func45 (by decide) (by kernel_rfl) (by kernel_rfl) (by decide) LoopDef.nil (fun x => by kernel_rfl)
end laws_eqStewBerth
namespace laws_eqStewBerthS
@[reducible] def l4 : LSpec := ⟨[(0, .d (.slice tStewBerth)), (1, .d (.slice tStewBerth)), (5, .d (.int .i64))], [(.ret, [(4, .d .bool)]), (.exit 0, [])]⟩
def B4 (n : Nat) {R : Type} (next : Sden l4.inS → Option R) (cs : Conts R l4.outs) (x : Sden l4.inS) : Option R :=
  if (decide (x.2.2.1 < (List.length x.1 : Int))) = true then
    if (!true || (decide (0 ≤ x.2.2.1 ∧ x.2.2.1 < (List.length x.1 : Int)))) = true then
      if (!true || (decide (0 ≤ x.2.2.1 ∧ x.2.2.1 < (List.length x.2.1 : Int)))) = true then
        (laws_eqStewBerth.f n ((List.getD x.1 (Int.toNat x.2.2.1) (Ty.zero tStewBerth)), (List.getD x.2.1 (Int.toNat x.2.2.1) (Ty.zero tStewBerth)), ())).bind fun y1 =>
        if (!y1.1) = true then
          cs.1 (false, ())
        else
          next (x.1, x.2.1, (IntKind.i64.wrap (x.2.2.1 + (1 : Int))), ())
      else
        none
    else
      none
  else
    cs.2.1 ()
def f (n : Nat) (x : Tup [(.slice tStewBerth), (.slice tStewBerth)]) : Option (Tup [.bool]) :=
  if ((List.length x.1 : Int) != (List.length x.2.1 : Int)) = true then
    some (false, ())
  else
    runL (B4 n) ((fun z2 =>
        some (z2.1, ())), (fun z3 =>
        some (true, ())), ()) n (x.1, x.2.1, (0 : Int), ())
@[reducible] def sig (n : Nat) : Sig := ⟨[(.slice tStewBerth), (.slice tStewBerth)], [.bool], false, f n, none⟩
def T (n : Nat) : FuncId → Option Sig := fun g => if Nat.beq g 45 = true then some (laws_eqStewBerth.sig n) else none
def TL (n : Nat) : Loops := fun j _ st k => if Nat.beq j 4 = true then (match dec st l4.inS [] with | some x => runL (B4 n) (contsOf k l4.outs) n x | none => none) else none
theorem d4 (n : Nat) : LoopDef Try.prog (T n) (TL n) Try.f23 4 :=
  ⟨l4, fun R => B4 n, n, fun R st k => by kernel_rfl, fun R next cs x => by kernel_rfl⟩
theorem con (n : Nat) : Con Try.prog 23 (sig n) :=
  con_print (hsw := rfl) (T := T n) (TL := TL n) (c := Try.f23.body.getD .skip) (js := [4]) hMixed (conT_cons (laws_eqStewBerth.con n) conT_none) Try.func23 (by decide) (by kernel_rfl) (by kernel_rfl) (by decide) (LoopDef.cons (d4 n) LoopDef.nil) (fun x => by kernel_rfl)
end laws_eqStewBerthS
namespace laws_eqStewBook
def f (n : Nat) (x : Tup [tStewBook, tStewBook]) : Option (Tup [.bool]) :=
  if (x.1.1 != x.2.1.1) = true then
    some (false, ())
  else
    (laws_eqStewServiceS.f n (x.1.2.1, x.2.1.2.1, ())).bind fun y1 =>
    if (!y1.1) = true then
      some (false, ())
    else
      (laws_eqStewCopyS.f n (x.1.2.2.1, x.2.1.2.2.1, ())).bind fun y2 =>
      if (!y2.1) = true then
        some (false, ())
      else
        (laws_eqStewBerthS.f n (x.1.2.2.2.1, x.2.1.2.2.2.1, ())).bind fun y3 =>
        if (!y3.1) = true then
          some (false, ())
        else
          some (true, ())
@[reducible] def sig (n : Nat) : Sig := ⟨[tStewBook, tStewBook], [.bool], false, f n, none⟩
def T (n : Nat) : FuncId → Option Sig := fun g => if Nat.beq g 21 = true then some (laws_eqStewServiceS.sig n) else if Nat.beq g 22 = true then some (laws_eqStewCopyS.sig n) else if Nat.beq g 23 = true then some (laws_eqStewBerthS.sig n) else none
def TL (n : Nat) : Loops := fun j _ st k => none
theorem con (n : Nat) : Con Try.prog 8 (sig n) :=
  con_print (hsw := rfl) (T := T n) (TL := TL n) (c := Try.f8.body.getD .skip) (js := []) hMixed (conT_cons (laws_eqStewServiceS.con n) (conT_cons (laws_eqStewCopyS.con n) (conT_cons (laws_eqStewBerthS.con n) conT_none))) Try.func8 (by decide) (by kernel_rfl) (by kernel_rfl) (by decide) LoopDef.nil (fun x => by kernel_rfl)
end laws_eqStewBook
namespace laws_FnExactStewMayEnd
def f (n : Nat) (x : Tup [tStewBook, .str, (.int .i64)]) : Option (Tup [.bool]) :=
  if (decide ((ByteArray.size x.2.1 : Int) > (1048576 : Int))) = true then
    some (true, ())
  else
    (laws_szStewBook.f n (x.1, (1048576 : Int), ())).bind fun y1 =>
    if (decide (y1.1 < (0 : Int))) = true then
      some (true, ())
    else
      (laws_toStewBook.f n (x.1, ())).bind fun y2 =>
      (spec_StewMayEnd.f n (y2.1, x.2.1, x.2.2.1, ())).bind fun y3 =>
      (laws_toStewBook.f n (x.1, ())).bind fun y4 =>
      (impl_StewMayEnd.f n (y4.1, x.2.1, x.2.2.1, ())).bind fun y5 =>
      if (!(y5.1 == y3.1)) = true then
        some (false, ())
      else
        (laws_toStewBook.f n (x.1, ())).bind fun y6 =>
        (laws_eqStewBook.f n (y4.1, y6.1, ())).bind fun y7 =>
        if (!y7.1) = true then
          some (false, ())
        else
          some (true, ())
@[reducible] def sig (n : Nat) : Sig := ⟨[tStewBook, .str, (.int .i64)], [.bool], false, f n, none⟩
def T (n : Nat) : FuncId → Option Sig := fun g => if Nat.beq g 4 = true then some (laws_szStewBook.sig n) else if Nat.beq g 5 = true then some (spec_StewMayEnd.sig n) else if Nat.beq g 6 = true then some (laws_toStewBook.sig n) else if Nat.beq g 7 = true then some (impl_StewMayEnd.sig n) else if Nat.beq g 8 = true then some (laws_eqStewBook.sig n) else none
def TL (n : Nat) : Loops := fun j _ st k => none
theorem con (n : Nat) : Con Try.prog 3 (sig n) :=
  con_print (hsw := rfl) (T := T n) (TL := TL n) (c := Try.f3.body.getD .skip) (js := []) hMixed (conT_cons (laws_szStewBook.con n) (conT_cons (spec_StewMayEnd.con n) (conT_cons (laws_toStewBook.con n) (conT_cons (impl_StewMayEnd.con n) (conT_cons (laws_eqStewBook.con n) conT_none))))) Try.func3 (by decide) (by kernel_rfl) (by kernel_rfl) (by decide) LoopDef.nil (fun x => by kernel_rfl)
end laws_FnExactStewMayEnd
end Go.Proofs.Ytakbelofppdkhab
