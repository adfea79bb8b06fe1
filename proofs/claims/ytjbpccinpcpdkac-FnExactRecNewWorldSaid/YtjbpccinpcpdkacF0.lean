import Derived.Test.YtjbpccinpcpdkacProg
import Derived.Test.YtjbpccinpcpdkacM2
set_option maxRecDepth 100000
set_option linter.unusedVariables false
namespace Go.Proofs.Ytjbpccinpcpdkac
open Go.Vm
abbrev tRecSlot : Ty := (.pair (.int .i64) (.pair .str .unit))
abbrev tRecDisk : Ty := (.pair (.int .i64) (.pair (.int .i64) (.pair (.slice tRecSlot) .unit)))
abbrev tRecMessage : Ty := (.pair (.int .i64) (.pair (.int .i64) (.pair (.int .i64) (.pair (.int .i64) (.pair (.int .i64) (.pair (.int .i64) (.pair .str (.pair (.slice tRecSlot) .unit))))))))
abbrev tRecAck : Ty := (.pair (.int .i64) (.pair (.slice (.int .i64)) .unit))
abbrev tRecorder : Ty := (.pair (.int .i64) (.pair (.int .i64) (.pair .bool (.pair tRecDisk (.pair tRecDisk (.pair (.slice tRecMessage) (.pair (.slice .str) (.pair .bool (.pair .bool (.pair (.int .i64) (.pair (.slice (.int .i64)) (.pair (.slice tRecSlot) (.pair (.slice tRecAck) (.pair (.int .i64) .unit))))))))))))))
abbrev tRecWorld : Ty := (.pair (.slice tRecorder) (.pair (.slice tRecMessage) (.pair (.slice tRecSlot) .unit)))
abbrev tRecFix : Ty := tRecSlot
theorem hMixed : Try.prog.follows .mixedOrders = true := by kernel_rfl
namespace spec_l21In
def f (n : Nat) (x : Tup [(.int .i64), (.int .i64), (.int .i64)]) : Option (Tup [.bool]) :=
  some (((decide (x.1 ≥ x.2.1)) && (decide (x.1 ≤ x.2.2.1))), ())
@[reducible] def sig (n : Nat) : Sig := ⟨[(.int .i64), (.int .i64), (.int .i64)], [.bool], false, f n, none⟩
def T (n : Nat) : FuncId → Option Sig := fun g => none
def TL (n : Nat) : Loops := fun j _ st k => none
theorem con (n : Nat) : Con Try.prog 9 (sig n) :=
  con_print (hsw := rfl) (T := T n) (TL := TL n) (c := Try.f9.body.getD .skip) (js := []) hMixed conT_none Try.func9 (by decide) (by kernel_rfl) (by kernel_rfl) (by decide) LoopDef.nil (fun x => by kernel_rfl)
end spec_l21In
namespace spec_RecNew
def f (n : Nat) (x : Tup [(.int .i64), (.int .i64)]) : Option (Tup [tRecorder]) :=
  (spec_l21In.f n (x.2.1, (1 : Int), (5 : Int), ())).bind fun y1 =>
  (if (!(!y1.1)) = true then (spec_l21In.f n (x.1, (1 : Int), x.2.1, ())) else some (tzero [.bool])).bind fun y2 =>
  if ((!y1.1) || (!y2.1)) = true then
    some (((0 : Int), (0 : Int), false, ((0 : Int), (0 : Int), [], ()), ((0 : Int), (0 : Int), [], ()), [], [], false, false, (0 : Int), [], [], [], (0 : Int), ()), ())
  else
    some ((x.1, x.2.1, true, ((0 : Int), (0 : Int), [], ()), ((0 : Int), (0 : Int), [], ()), [], [], false, false, (0 : Int), [], [], [], (0 : Int), ()), ())
@[reducible] def sig (n : Nat) : Sig := ⟨[(.int .i64), (.int .i64)], [tRecorder], true, f n, none⟩
def T (n : Nat) : FuncId → Option Sig := fun g => if Nat.beq g 9 = true then some (spec_l21In.sig n) else none
def TL (n : Nat) : Loops := fun j _ st k => none
theorem con (n : Nat) : Con Try.prog 10 (sig n) :=
  con_print (hsw := rfl) (T := T n) (TL := TL n) (c := Try.f10.body.getD .skip) (js := []) hMixed (conT_cons (spec_l21In.con n) conT_none) Try.func10 (by decide) (by kernel_rfl) (by kernel_rfl) (by decide) LoopDef.nil (fun x => by kernel_rfl)
end spec_RecNew
namespace spec_RecNewWorld
@[reducible] def l5 : LSpec := ⟨[(0, .d (.int .i64)), (2, .box [.row true tRecorder, .row true tRecMessage, .row true tRecSlot]), (3, .box [.row true tRecorder, .row true tRecMessage, .row true tRecSlot]), (4, .d (.int .i64))], [(.exit 0, [(2, .box [.row true tRecorder, .row true tRecMessage, .row true tRecSlot]), (3, .box [.row true tRecorder, .row true tRecMessage, .row true tRecSlot])])]⟩
def B5 (n : Nat) {R : Type} (next : Sden l5.inS → Option R) (cs : Conts R l5.outs) (x : Sden l5.inS) : Option R :=
  if (decide (x.2.2.2.1 ≤ x.1)) = true then
    (spec_RecNew.f n (x.2.2.2.1, x.1, ())).bind fun y2 =>
    if (appBound (List.length x.2.2.1.1) (List.length [y2.1]) 248) = true then
      next (x.1, (x.2.1.1, x.2.1.2.1, x.2.1.2.2.1, ()), ((x.2.2.1.1 ++ [y2.1]), x.2.2.1.2.1, x.2.2.1.2.2.1, ()), (IntKind.i64.wrap (x.2.2.2.1 + (1 : Int))), ())
    else
      none
  else
    cs.1 ((x.2.1.1, x.2.1.2.1, x.2.1.2.2.1, ()), (x.2.2.1.1, x.2.2.1.2.1, x.2.2.1.2.2.1, ()), ())
def f (n : Nat) (x : Tup [(.int .i64)]) : Option (Tup [tRecWorld]) :=
  (spec_l21In.f n (x.1, (1 : Int), (5 : Int), ())).bind fun y1 =>
  if (!y1.1) = true then
    some (([], [], [], ()), ())
  else
    runL (B5 n) ((fun z3 =>
        some ((z3.2.1.1, z3.2.1.2.1, z3.2.1.2.2.1, ()), ())), ()) n (x.1, ([], [], [], ()), ([], [], [], ()), (1 : Int), ())
@[reducible] def sig (n : Nat) : Sig := ⟨[(.int .i64)], [tRecWorld], true, f n, none⟩
def T (n : Nat) : FuncId → Option Sig := fun g => if Nat.beq g 9 = true then some (spec_l21In.sig n) else if Nat.beq g 10 = true then some (spec_RecNew.sig n) else none
def TL (n : Nat) : Loops := fun j _ st k => if Nat.beq j 5 = true then (match dec st l5.inS [] with | some x => runL (B5 n) (contsOf k l5.outs) n x | none => none) else none
theorem d5 (n : Nat) : LoopDef Try.prog (T n) (TL n) Try.f4 5 :=
  ⟨l5, fun R => B5 n, n, fun R st k => by kernel_rfl, fun R next cs x => by kernel_rfl⟩
theorem con (n : Nat) : Con Try.prog 4 (sig n) :=
  con_print (hsw := rfl) (T := T n) (TL := TL n) (c := Try.f4.body.getD .skip) (js := [5]) hMixed (conT_cons (spec_l21In.con n) (conT_cons (spec_RecNew.con n) conT_none)) Try.func4 (by decide) (by kernel_rfl) (by kernel_rfl) (by decide) (LoopDef.cons (d5 n) LoopDef.nil) (fun x => by kernel_rfl)
end spec_RecNewWorld
namespace impl_within_rec
def f (n : Nat) (x : Tup [(.int .i64), (.int .i64), (.int .i64)]) : Option (Tup [.bool]) :=
  some (((decide (x.1 ≥ x.2.1)) && (decide (x.1 ≤ x.2.2.1))), ())
@[reducible] def sig (n : Nat) : Sig := ⟨[(.int .i64), (.int .i64), (.int .i64)], [.bool], false, f n, none⟩
def T (n : Nat) : FuncId → Option Sig := fun g => none
def TL (n : Nat) : Loops := fun j _ st k => none
theorem con (n : Nat) : Con Try.prog 11 (sig n) :=
  con_print (hsw := rfl) (T := T n) (TL := TL n) (c := Try.f11.body.getD .skip) (js := []) hMixed conT_none Try.func11 (by decide) (by kernel_rfl) (by kernel_rfl) (by decide) LoopDef.nil (fun x => by kernel_rfl)
end impl_within_rec
namespace impl_RecNew
def f (n : Nat) (x : Tup [(.int .i64), (.int .i64)]) : Option (Tup [tRecorder]) :=
  (impl_within_rec.f n (x.2.1, (1 : Int), (5 : Int), ())).bind fun y1 =>
  (if (!(!y1.1)) = true then (impl_within_rec.f n (x.1, (1 : Int), x.2.1, ())) else some (tzero [.bool])).bind fun y2 =>
  if ((!y1.1) || (!y2.1)) = true then
    some (((0 : Int), (0 : Int), false, ((0 : Int), (0 : Int), [], ()), ((0 : Int), (0 : Int), [], ()), [], [], false, false, (0 : Int), [], [], [], (0 : Int), ()), ())
  else
    some ((x.1, x.2.1, true, ((0 : Int), (0 : Int), [], ()), ((0 : Int), (0 : Int), [], ()), [], [], false, false, (0 : Int), [], [], [], (0 : Int), ()), ())
@[reducible] def sig (n : Nat) : Sig := ⟨[(.int .i64), (.int .i64)], [tRecorder], true, f n, none⟩
def T (n : Nat) : FuncId → Option Sig := fun g => if Nat.beq g 11 = true then some (impl_within_rec.sig n) else none
def TL (n : Nat) : Loops := fun j _ st k => none
theorem con (n : Nat) : Con Try.prog 12 (sig n) :=
  con_print (hsw := rfl) (T := T n) (TL := TL n) (c := Try.f12.body.getD .skip) (js := []) hMixed (conT_cons (impl_within_rec.con n) conT_none) Try.func12 (by decide) (by kernel_rfl) (by kernel_rfl) (by decide) LoopDef.nil (fun x => by kernel_rfl)
end impl_RecNew
namespace impl_RecNewWorld
@[reducible] def l4 : LSpec := ⟨[(0, .d (.int .i64)), (2, .box [.row true tRecorder, .row true tRecMessage, .row true tRecSlot]), (3, .box [.row true tRecorder, .row true tRecMessage, .row true tRecSlot]), (4, .d (.int .i64))], [(.exit 0, [(2, .box [.row true tRecorder, .row true tRecMessage, .row true tRecSlot]), (3, .box [.row true tRecorder, .row true tRecMessage, .row true tRecSlot])])]⟩
def B4 (n : Nat) {R : Type} (next : Sden l4.inS → Option R) (cs : Conts R l4.outs) (x : Sden l4.inS) : Option R :=
  if (decide (x.2.2.2.1 ≤ x.1)) = true then
    (impl_RecNew.f n (x.2.2.2.1, x.1, ())).bind fun y2 =>
    if (appBound (List.length x.2.2.1.1) (List.length [y2.1]) 248) = true then
      next (x.1, (x.2.1.1, x.2.1.2.1, x.2.1.2.2.1, ()), ((x.2.2.1.1 ++ [y2.1]), x.2.2.1.2.1, x.2.2.1.2.2.1, ()), (IntKind.i64.wrap (x.2.2.2.1 + (1 : Int))), ())
    else
      none
  else
    cs.1 ((x.2.1.1, x.2.1.2.1, x.2.1.2.2.1, ()), (x.2.2.1.1, x.2.2.1.2.1, x.2.2.1.2.2.1, ()), ())
def f (n : Nat) (x : Tup [(.int .i64)]) : Option (Tup [tRecWorld]) :=
  (impl_within_rec.f n (x.1, (1 : Int), (5 : Int), ())).bind fun y1 =>
  if y1.1 = true then
    runL (B4 n) ((fun z3 =>
        some ((z3.2.1.1, z3.2.1.2.1, z3.2.1.2.2.1, ()), ())), ()) n (x.1, ([], [], [], ()), ([], [], [], ()), (1 : Int), ())
  else
    some (([], [], [], ()), ())
@[reducible] def sig (n : Nat) : Sig := ⟨[(.int .i64)], [tRecWorld], true, f n, none⟩
def T (n : Nat) : FuncId → Option Sig := fun g => if Nat.beq g 11 = true then some (impl_within_rec.sig n) else if Nat.beq g 12 = true then some (impl_RecNew.sig n) else none
def TL (n : Nat) : Loops := fun j _ st k => if Nat.beq j 4 = true then (match dec st l4.inS [] with | some x => runL (B4 n) (contsOf k l4.outs) n x | none => none) else none
theorem d4 (n : Nat) : LoopDef Try.prog (T n) (TL n) Try.f5 4 :=
  ⟨l4, fun R => B4 n, n, fun R st k => by kernel_rfl, fun R next cs x => by kernel_rfl⟩
theorem con (n : Nat) : Con Try.prog 5 (sig n) :=
  con_print (hsw := rfl) (T := T n) (TL := TL n) (c := Try.f5.body.getD .skip) (js := [4]) hMixed (conT_cons (impl_within_rec.con n) (conT_cons (impl_RecNew.con n) conT_none)) Try.func5 (by decide) (by kernel_rfl) (by kernel_rfl) (by decide) (LoopDef.cons (d4 n) LoopDef.nil) (fun x => by kernel_rfl)
end impl_RecNewWorld
namespace laws_eqRecSlot
def f (n : Nat) (x : Tup [tRecSlot, tRecSlot]) : Option (Tup [.bool]) :=
  if (x.1.1 != x.2.1.1) = true then
    some (false, ())
  else if (!seq x.1.2.1 x.2.1.2.1) = true then
    some (false, ())
  else
    some (true, ())
@[reducible] def sig (n : Nat) : Sig := ⟨[tRecSlot, tRecSlot], [.bool], false, f n, none⟩
def T (n : Nat) : FuncId → Option Sig := fun g => none
def TL (n : Nat) : Loops := fun j _ st k => none
theorem con (n : Nat) : Con Try.prog 39 (sig n) :=
  con_print (hsw := rfl) (T := T n) (TL := TL n) (c := Try.f39.body.getD .skip) (js := []) hMixed conT_none Try.func39 (by decide) (by kernel_rfl) (by kernel_rfl) (by decide) LoopDef.nil (fun x => by kernel_rfl)
end laws_eqRecSlot
namespace laws_eqRecSlotS
@[reducible] def l4 : LSpec := ⟨[(0, .d (.slice tRecSlot)), (1, .d (.slice tRecSlot)), (5, .d (.int .i64))], [(.ret, [(4, .d .bool)]), (.exit 0, [])]⟩
def B4 (n : Nat) {R : Type} (next : Sden l4.inS → Option R) (cs : Conts R l4.outs) (x : Sden l4.inS) : Option R :=
  if (decide (x.2.2.1 < (List.length x.1 : Int))) = true then
    if (!true || (decide (0 ≤ x.2.2.1 ∧ x.2.2.1 < (List.length x.1 : Int)))) = true then
      if (!true || (decide (0 ≤ x.2.2.1 ∧ x.2.2.1 < (List.length x.2.1 : Int)))) = true then
        (laws_eqRecSlot.f n ((List.getD x.1 (Int.toNat x.2.2.1) (Ty.zero tRecSlot)), (List.getD x.2.1 (Int.toNat x.2.2.1) (Ty.zero tRecSlot)), ())).bind fun y1 =>
        if (!y1.1) = true then
          cs.1 (false, ())
        else
          next (x.1, x.2.1, (IntKind.i64.wrap (x.2.2.1 + (1 : Int))), ())
      else
        none
    else
      none
  else
    cs.2.1 ()
def f (n : Nat) (x : Tup [(.slice tRecSlot), (.slice tRecSlot)]) : Option (Tup [.bool]) :=
  if ((List.length x.1 : Int) != (List.length x.2.1 : Int)) = true then
    some (false, ())
  else
    runL (B4 n) ((fun z2 =>
        some (z2.1, ())), (fun z3 =>
        some (true, ())), ()) n (x.1, x.2.1, (0 : Int), ())
@[reducible] def sig (n : Nat) : Sig := ⟨[(.slice tRecSlot), (.slice tRecSlot)], [.bool], false, f n, none⟩
def T (n : Nat) : FuncId → Option Sig := fun g => if Nat.beq g 39 = true then some (laws_eqRecSlot.sig n) else none
def TL (n : Nat) : Loops := fun j _ st k => if Nat.beq j 4 = true then (match dec st l4.inS [] with | some x => runL (B4 n) (contsOf k l4.outs) n x | none => none) else none
theorem d4 (n : Nat) : LoopDef Try.prog (T n) (TL n) Try.f37 4 :=
  ⟨l4, fun R => B4 n, n, fun R st k => by kernel_rfl, fun R next cs x => by kernel_rfl⟩
theorem con (n : Nat) : Con Try.prog 37 (sig n) :=
  con_print (hsw := rfl) (T := T n) (TL := TL n) (c := Try.f37.body.getD .skip) (js := [4]) hMixed (conT_cons (laws_eqRecSlot.con n) conT_none) Try.func37 (by decide) (by kernel_rfl) (by kernel_rfl) (by decide) (LoopDef.cons (d4 n) LoopDef.nil) (fun x => by kernel_rfl)
end laws_eqRecSlotS
namespace laws_eqRecDisk
def f (n : Nat) (x : Tup [tRecDisk, tRecDisk]) : Option (Tup [.bool]) :=
  if (x.1.1 != x.2.1.1) = true then
    some (false, ())
  else if (x.1.2.1 != x.2.1.2.1) = true then
    some (false, ())
  else
    (laws_eqRecSlotS.f n (x.1.2.2.1, x.2.1.2.2.1, ())).bind fun y1 =>
    if (!y1.1) = true then
      some (false, ())
    else
      some (true, ())
@[reducible] def sig (n : Nat) : Sig := ⟨[tRecDisk, tRecDisk], [.bool], false, f n, none⟩
def T (n : Nat) : FuncId → Option Sig := fun g => if Nat.beq g 37 = true then some (laws_eqRecSlotS.sig n) else none
def TL (n : Nat) : Loops := fun j _ st k => none
theorem con (n : Nat) : Con Try.prog 34 (sig n) :=
  con_print (hsw := rfl) (T := T n) (TL := TL n) (c := Try.f34.body.getD .skip) (js := []) hMixed (conT_cons (laws_eqRecSlotS.con n) conT_none) Try.func34 (by decide) (by kernel_rfl) (by kernel_rfl) (by decide) LoopDef.nil (fun x => by kernel_rfl)
end laws_eqRecDisk
namespace laws_eqRecMessage
def f (n : Nat) (x : Tup [tRecMessage, tRecMessage]) : Option (Tup [.bool]) :=
  if (x.1.1 != x.2.1.1) = true then
    some (false, ())
  else if (x.1.2.1 != x.2.1.2.1) = true then
    some (false, ())
  else if (x.1.2.2.1 != x.2.1.2.2.1) = true then
    some (false, ())
  else if (x.1.2.2.2.1 != x.2.1.2.2.2.1) = true then
    some (false, ())
  else if (x.1.2.2.2.2.1 != x.2.1.2.2.2.2.1) = true then
    some (false, ())
  else if (x.1.2.2.2.2.2.1 != x.2.1.2.2.2.2.2.1) = true then
    some (false, ())
  else if (!seq x.1.2.2.2.2.2.2.1 x.2.1.2.2.2.2.2.2.1) = true then
    some (false, ())
  else
    (laws_eqRecSlotS.f n (x.1.2.2.2.2.2.2.2.1, x.2.1.2.2.2.2.2.2.2.1, ())).bind fun y1 =>
    if (!y1.1) = true then
      some (false, ())
    else
      some (true, ())
@[reducible] def sig (n : Nat) : Sig := ⟨[tRecMessage, tRecMessage], [.bool], false, f n, none⟩
def T (n : Nat) : FuncId → Option Sig := fun g => if Nat.beq g 37 = true then some (laws_eqRecSlotS.sig n) else none
def TL (n : Nat) : Loops := fun j _ st k => none
theorem con (n : Nat) : Con Try.prog 23 (sig n) :=
  con_print (hsw := rfl) (T := T n) (TL := TL n) (c := Try.f23.body.getD .skip) (js := []) hMixed (conT_cons (laws_eqRecSlotS.con n) conT_none) Try.func23 (by decide) (by kernel_rfl) (by kernel_rfl) (by decide) LoopDef.nil (fun x => by kernel_rfl)
end laws_eqRecMessage
namespace laws_eqRecMessageS
@[reducible] def l4 : LSpec := ⟨[(0, .d (.slice tRecMessage)), (1, .d (.slice tRecMessage)), (5, .d (.int .i64))], [(.ret, [(4, .d .bool)]), (.exit 0, [])]⟩
def B4 (n : Nat) {R : Type} (next : Sden l4.inS → Option R) (cs : Conts R l4.outs) (x : Sden l4.inS) : Option R :=
  if (decide (x.2.2.1 < (List.length x.1 : Int))) = true then
    if (!true || (decide (0 ≤ x.2.2.1 ∧ x.2.2.1 < (List.length x.1 : Int)))) = true then
      if (!true || (decide (0 ≤ x.2.2.1 ∧ x.2.2.1 < (List.length x.2.1 : Int)))) = true then
        (laws_eqRecMessage.f n ((List.getD x.1 (Int.toNat x.2.2.1) (Ty.zero tRecMessage)), (List.getD x.2.1 (Int.toNat x.2.2.1) (Ty.zero tRecMessage)), ())).bind fun y1 =>
        if (!y1.1) = true then
          cs.1 (false, ())
        else
          next (x.1, x.2.1, (IntKind.i64.wrap (x.2.2.1 + (1 : Int))), ())
      else
        none
    else
      none
  else
    cs.2.1 ()
def f (n : Nat) (x : Tup [(.slice tRecMessage), (.slice tRecMessage)]) : Option (Tup [.bool]) :=
  if ((List.length x.1 : Int) != (List.length x.2.1 : Int)) = true then
    some (false, ())
  else
    runL (B4 n) ((fun z2 =>
        some (z2.1, ())), (fun z3 =>
        some (true, ())), ()) n (x.1, x.2.1, (0 : Int), ())
@[reducible] def sig (n : Nat) : Sig := ⟨[(.slice tRecMessage), (.slice tRecMessage)], [.bool], false, f n, none⟩
def T (n : Nat) : FuncId → Option Sig := fun g => if Nat.beq g 23 = true then some (laws_eqRecMessage.sig n) else none
def TL (n : Nat) : Loops := fun j _ st k => if Nat.beq j 4 = true then (match dec st l4.inS [] with | some x => runL (B4 n) (contsOf k l4.outs) n x | none => none) else none
theorem d4 (n : Nat) : LoopDef Try.prog (T n) (TL n) Try.f14 4 :=
  ⟨l4, fun R => B4 n, n, fun R st k => by kernel_rfl, fun R next cs x => by kernel_rfl⟩
theorem con (n : Nat) : Con Try.prog 14 (sig n) :=
  con_print (hsw := rfl) (T := T n) (TL := TL n) (c := Try.f14.body.getD .skip) (js := [4]) hMixed (conT_cons (laws_eqRecMessage.con n) conT_none) Try.func14 (by decide) (by kernel_rfl) (by kernel_rfl) (by decide) (LoopDef.cons (d4 n) LoopDef.nil) (fun x => by kernel_rfl)
end laws_eqRecMessageS
namespace laws_eqStringS
@[reducible] def l4 : LSpec := ⟨[(0, .d (.slice .str)), (1, .d (.slice .str)), (5, .d (.int .i64))], [(.ret, [(4, .d .bool)]), (.exit 0, [])]⟩
def B4 (n : Nat) {R : Type} (next : Sden l4.inS → Option R) (cs : Conts R l4.outs) (x : Sden l4.inS) : Option R :=
  if (decide (x.2.2.1 < (List.length x.1 : Int))) = true then
    if (!true || (decide (0 ≤ x.2.2.1 ∧ x.2.2.1 < (List.length x.1 : Int)))) = true then
      if (!true || (decide (0 ≤ x.2.2.1 ∧ x.2.2.1 < (List.length x.2.1 : Int)))) = true then
        if (!seq (List.getD x.1 (Int.toNat x.2.2.1) (⟨#[]⟩ : ByteArray)) (List.getD x.2.1 (Int.toNat x.2.2.1) (⟨#[]⟩ : ByteArray))) = true then
          cs.1 (false, ())
        else
          next (x.1, x.2.1, (IntKind.i64.wrap (x.2.2.1 + (1 : Int))), ())
      else
        none
    else
      none
  else
    cs.2.1 ()
def f (n : Nat) (x : Tup [(.slice .str), (.slice .str)]) : Option (Tup [.bool]) :=
  if ((List.length x.1 : Int) != (List.length x.2.1 : Int)) = true then
    some (false, ())
  else
    runL (B4 n) ((fun z1 =>
        some (z1.1, ())), (fun z2 =>
        some (true, ())), ()) n (x.1, x.2.1, (0 : Int), ())
@[reducible] def sig (n : Nat) : Sig := ⟨[(.slice .str), (.slice .str)], [.bool], false, f n, none⟩
def T (n : Nat) : FuncId → Option Sig := fun g => none
def TL (n : Nat) : Loops := fun j _ st k => if Nat.beq j 4 = true then (match dec st l4.inS [] with | some x => runL (B4 n) (contsOf k l4.outs) n x | none => none) else none
theorem d4 (n : Nat) : LoopDef Try.prog (T n) (TL n) Try.f35 4 :=
  ⟨l4, fun R => B4 n, n, fun R st k => by kernel_rfl, fun R next cs x => by kernel_rfl⟩
theorem con (n : Nat) : Con Try.prog 35 (sig n) :=
  con_print (hsw := rfl) (T := T n) (TL := TL n) (c := Try.f35.body.getD .skip) (js := [4]) hMixed conT_none Try.func35 (by decide) (by kernel_rfl) (by kernel_rfl) (by decide) (LoopDef.cons (d4 n) LoopDef.nil) (fun x => by kernel_rfl)
end laws_eqStringS
namespace laws_eqIntS
@[reducible] def l4 : LSpec := ⟨[(0, .d (.slice (.int .i64))), (1, .d (.slice (.int .i64))), (5, .d (.int .i64))], [(.ret, [(4, .d .bool)]), (.exit 0, [])]⟩
def B4 (n : Nat) {R : Type} (next : Sden l4.inS → Option R) (cs : Conts R l4.outs) (x : Sden l4.inS) : Option R :=
  if (decide (x.2.2.1 < (List.length x.1 : Int))) = true then
    if (!true || (decide (0 ≤ x.2.2.1 ∧ x.2.2.1 < (List.length x.1 : Int)))) = true then
      if (!true || (decide (0 ≤ x.2.2.1 ∧ x.2.2.1 < (List.length x.2.1 : Int)))) = true then
        if ((List.getD x.1 (Int.toNat x.2.2.1) (0 : Int)) != (List.getD x.2.1 (Int.toNat x.2.2.1) (0 : Int))) = true then
          cs.1 (false, ())
        else
          next (x.1, x.2.1, (IntKind.i64.wrap (x.2.2.1 + (1 : Int))), ())
      else
        none
    else
      none
  else
    cs.2.1 ()
def f (n : Nat) (x : Tup [(.slice (.int .i64)), (.slice (.int .i64))]) : Option (Tup [.bool]) :=
  if ((List.length x.1 : Int) != (List.length x.2.1 : Int)) = true then
    some (false, ())
  else
    runL (B4 n) ((fun z1 =>
        some (z1.1, ())), (fun z2 =>
        some (true, ())), ()) n (x.1, x.2.1, (0 : Int), ())
@[reducible] def sig (n : Nat) : Sig := ⟨[(.slice (.int .i64)), (.slice (.int .i64))], [.bool], false, f n, none⟩
def T (n : Nat) : FuncId → Option Sig := fun g => none
def TL (n : Nat) : Loops := fun j _ st k => if Nat.beq j 4 = true then (match dec st l4.inS [] with | some x => runL (B4 n) (contsOf k l4.outs) n x | none => none) else none
theorem d4 (n : Nat) : LoopDef Try.prog (T n) (TL n) Try.f36 4 :=
  ⟨l4, fun R => B4 n, n, fun R st k => by kernel_rfl, fun R next cs x => by kernel_rfl⟩
theorem con (n : Nat) : Con Try.prog 36 (sig n) :=
  con_print (hsw := rfl) (T := T n) (TL := TL n) (c := Try.f36.body.getD .skip) (js := [4]) hMixed conT_none Try.func36 (by decide) (by kernel_rfl) (by kernel_rfl) (by decide) (LoopDef.cons (d4 n) LoopDef.nil) (fun x => by kernel_rfl)
end laws_eqIntS
namespace laws_eqRecAck
def f (n : Nat) (x : Tup [tRecAck, tRecAck]) : Option (Tup [.bool]) :=
  if (x.1.1 != x.2.1.1) = true then
    some (false, ())
  else
    (laws_eqIntS.f n (x.1.2.1, x.2.1.2.1, ())).bind fun y1 =>
    if (!y1.1) = true then
      some (false, ())
    else
      some (true, ())
@[reducible] def sig (n : Nat) : Sig := ⟨[tRecAck, tRecAck], [.bool], false, f n, none⟩
def T (n : Nat) : FuncId → Option Sig := fun g => if Nat.beq g 36 = true then some (laws_eqIntS.sig n) else none
def TL (n : Nat) : Loops := fun j _ st k => none
theorem con (n : Nat) : Con Try.prog 40 (sig n) :=
  con_print (hsw := rfl) (T := T n) (TL := TL n) (c := Try.f40.body.getD .skip) (js := []) hMixed (conT_cons (laws_eqIntS.con n) conT_none) Try.func40 (by decide) (by kernel_rfl) (by kernel_rfl) (by decide) LoopDef.nil (fun x => by kernel_rfl)
end laws_eqRecAck
namespace laws_eqRecAckS
@[reducible] def l4 : LSpec := ⟨[(0, .d (.slice tRecAck)), (1, .d (.slice tRecAck)), (5, .d (.int .i64))], [(.ret, [(4, .d .bool)]), (.exit 0, [])]⟩
def B4 (n : Nat) {R : Type} (next : Sden l4.inS → Option R) (cs : Conts R l4.outs) (x : Sden l4.inS) : Option R :=
  if (decide (x.2.2.1 < (List.length x.1 : Int))) = true then
    if (!true || (decide (0 ≤ x.2.2.1 ∧ x.2.2.1 < (List.length x.1 : Int)))) = true then
      if (!true || (decide (0 ≤ x.2.2.1 ∧ x.2.2.1 < (List.length x.2.1 : Int)))) = true then
        (laws_eqRecAck.f n ((List.getD x.1 (Int.toNat x.2.2.1) (Ty.zero tRecAck)), (List.getD x.2.1 (Int.toNat x.2.2.1) (Ty.zero tRecAck)), ())).bind fun y1 =>
        if (!y1.1) = true then
          cs.1 (false, ())
        else
          next (x.1, x.2.1, (IntKind.i64.wrap (x.2.2.1 + (1 : Int))), ())
      else
        none
    else
      none
  else
    cs.2.1 ()
def f (n : Nat) (x : Tup [(.slice tRecAck), (.slice tRecAck)]) : Option (Tup [.bool]) :=
  if ((List.length x.1 : Int) != (List.length x.2.1 : Int)) = true then
    some (false, ())
  else
    runL (B4 n) ((fun z2 =>
        some (z2.1, ())), (fun z3 =>
        some (true, ())), ()) n (x.1, x.2.1, (0 : Int), ())
@[reducible] def sig (n : Nat) : Sig := ⟨[(.slice tRecAck), (.slice tRecAck)], [.bool], false, f n, none⟩
def T (n : Nat) : FuncId → Option Sig := fun g => if Nat.beq g 40 = true then some (laws_eqRecAck.sig n) else none
def TL (n : Nat) : Loops := fun j _ st k => if Nat.beq j 4 = true then (match dec st l4.inS [] with | some x => runL (B4 n) (contsOf k l4.outs) n x | none => none) else none
theorem d4 (n : Nat) : LoopDef Try.prog (T n) (TL n) Try.f38 4 :=
  ⟨l4, fun R => B4 n, n, fun R st k => by kernel_rfl, fun R next cs x => by kernel_rfl⟩
theorem con (n : Nat) : Con Try.prog 38 (sig n) :=
  con_print (hsw := rfl) (T := T n) (TL := TL n) (c := Try.f38.body.getD .skip) (js := [4]) hMixed (conT_cons (laws_eqRecAck.con n) conT_none) Try.func38 (by decide) (by kernel_rfl) (by kernel_rfl) (by decide) (LoopDef.cons (d4 n) LoopDef.nil) (fun x => by kernel_rfl)
end laws_eqRecAckS
namespace laws_eqRecorder
def f (n : Nat) (x : Tup [tRecorder, tRecorder]) : Option (Tup [.bool]) :=
  if (x.1.1 != x.2.1.1) = true then
    some (false, ())
  else if (x.1.2.1 != x.2.1.2.1) = true then
    some (false, ())
  else if (!(x.1.2.2.1 == x.2.1.2.2.1)) = true then
    some (false, ())
  else
    (laws_eqRecDisk.f n (x.1.2.2.2.1, x.2.1.2.2.2.1, ())).bind fun y1 =>
    if (!y1.1) = true then
      some (false, ())
    else
      (laws_eqRecDisk.f n (x.1.2.2.2.2.1, x.2.1.2.2.2.2.1, ())).bind fun y2 =>
      if (!y2.1) = true then
        some (false, ())
      else
        (laws_eqRecMessageS.f n (x.1.2.2.2.2.2.1, x.2.1.2.2.2.2.2.1, ())).bind fun y3 =>
        if (!y3.1) = true then
          some (false, ())
        else
          (laws_eqStringS.f n (x.1.2.2.2.2.2.2.1, x.2.1.2.2.2.2.2.2.1, ())).bind fun y4 =>
          if (!y4.1) = true then
            some (false, ())
          else if (!(x.1.2.2.2.2.2.2.2.1 == x.2.1.2.2.2.2.2.2.2.1)) = true then
            some (false, ())
          else if (!(x.1.2.2.2.2.2.2.2.2.1 == x.2.1.2.2.2.2.2.2.2.2.1)) = true then
            some (false, ())
          else if (x.1.2.2.2.2.2.2.2.2.2.1 != x.2.1.2.2.2.2.2.2.2.2.2.1) = true then
            some (false, ())
          else
            (laws_eqIntS.f n (x.1.2.2.2.2.2.2.2.2.2.2.1, x.2.1.2.2.2.2.2.2.2.2.2.2.1, ())).bind fun y5 =>
            if (!y5.1) = true then
              some (false, ())
            else
              (laws_eqRecSlotS.f n (x.1.2.2.2.2.2.2.2.2.2.2.2.1, x.2.1.2.2.2.2.2.2.2.2.2.2.2.1, ())).bind fun y6 =>
              if (!y6.1) = true then
                some (false, ())
              else
                (laws_eqRecAckS.f n (x.1.2.2.2.2.2.2.2.2.2.2.2.2.1, x.2.1.2.2.2.2.2.2.2.2.2.2.2.2.1, ())).bind fun y7 =>
                if (!y7.1) = true then
                  some (false, ())
                else if (x.1.2.2.2.2.2.2.2.2.2.2.2.2.2.1 != x.2.1.2.2.2.2.2.2.2.2.2.2.2.2.2.1) = true then
                  some (false, ())
                else
                  some (true, ())
@[reducible] def sig (n : Nat) : Sig := ⟨[tRecorder, tRecorder], [.bool], false, f n, none⟩
def T (n : Nat) : FuncId → Option Sig := fun g => if Nat.beq g 14 = true then some (laws_eqRecMessageS.sig n) else if Nat.beq g 34 = true then some (laws_eqRecDisk.sig n) else if Nat.beq g 35 = true then some (laws_eqStringS.sig n) else if Nat.beq g 36 = true then some (laws_eqIntS.sig n) else if Nat.beq g 37 = true then some (laws_eqRecSlotS.sig n) else if Nat.beq g 38 = true then some (laws_eqRecAckS.sig n) else none
def TL (n : Nat) : Loops := fun j _ st k => none
theorem con (n : Nat) : Con Try.prog 22 (sig n) :=
  con_print (hsw := rfl) (T := T n) (TL := TL n) (c := Try.f22.body.getD .skip) (js := []) hMixed (conT_cons (laws_eqRecMessageS.con n) (conT_cons (laws_eqRecDisk.con n) (conT_cons (laws_eqStringS.con n) (conT_cons (laws_eqIntS.con n) (conT_cons (laws_eqRecSlotS.con n) (conT_cons (laws_eqRecAckS.con n) conT_none)))))) Try.func22 (by decide) (by kernel_rfl) (by kernel_rfl) (by decide) LoopDef.nil (fun x => by kernel_rfl)
end laws_eqRecorder
namespace laws_eqRecorderS
@[reducible] def l4 : LSpec := ⟨[(0, .d (.slice tRecorder)), (1, .d (.slice tRecorder)), (5, .d (.int .i64))], [(.ret, [(4, .d .bool)]), (.exit 0, [])]⟩
def B4 (n : Nat) {R : Type} (next : Sden l4.inS → Option R) (cs : Conts R l4.outs) (x : Sden l4.inS) : Option R :=
  if (decide (x.2.2.1 < (List.length x.1 : Int))) = true then
    if (!true || (decide (0 ≤ x.2.2.1 ∧ x.2.2.1 < (List.length x.1 : Int)))) = true then
      if (!true || (decide (0 ≤ x.2.2.1 ∧ x.2.2.1 < (List.length x.2.1 : Int)))) = true then
        (laws_eqRecorder.f n ((List.getD x.1 (Int.toNat x.2.2.1) (Ty.zero tRecorder)), (List.getD x.2.1 (Int.toNat x.2.2.1) (Ty.zero tRecorder)), ())).bind fun y1 =>
        if (!y1.1) = true then
          cs.1 (false, ())
        else
          next (x.1, x.2.1, (IntKind.i64.wrap (x.2.2.1 + (1 : Int))), ())
      else
        none
    else
      none
  else
    cs.2.1 ()
def f (n : Nat) (x : Tup [(.slice tRecorder), (.slice tRecorder)]) : Option (Tup [.bool]) :=
  if ((List.length x.1 : Int) != (List.length x.2.1 : Int)) = true then
    some (false, ())
  else
    runL (B4 n) ((fun z2 =>
        some (z2.1, ())), (fun z3 =>
        some (true, ())), ()) n (x.1, x.2.1, (0 : Int), ())
@[reducible] def sig (n : Nat) : Sig := ⟨[(.slice tRecorder), (.slice tRecorder)], [.bool], false, f n, none⟩
def T (n : Nat) : FuncId → Option Sig := fun g => if Nat.beq g 22 = true then some (laws_eqRecorder.sig n) else none
def TL (n : Nat) : Loops := fun j _ st k => if Nat.beq j 4 = true then (match dec st l4.inS [] with | some x => runL (B4 n) (contsOf k l4.outs) n x | none => none) else none
theorem d4 (n : Nat) : LoopDef Try.prog (T n) (TL n) Try.f13 4 :=
  ⟨l4, fun R => B4 n, n, fun R st k => by kernel_rfl, fun R next cs x => by kernel_rfl⟩
theorem con (n : Nat) : Con Try.prog 13 (sig n) :=
  con_print (hsw := rfl) (T := T n) (TL := TL n) (c := Try.f13.body.getD .skip) (js := [4]) hMixed (conT_cons (laws_eqRecorder.con n) conT_none) Try.func13 (by decide) (by kernel_rfl) (by kernel_rfl) (by decide) (LoopDef.cons (d4 n) LoopDef.nil) (fun x => by kernel_rfl)
end laws_eqRecorderS
namespace laws_eqRecFix
def f (n : Nat) (x : Tup [tRecSlot, tRecSlot]) : Option (Tup [.bool]) :=
  if (x.1.1 != x.2.1.1) = true then
    some (false, ())
  else if (!seq x.1.2.1 x.2.1.2.1) = true then
    some (false, ())
  else
    some (true, ())
@[reducible] def sig (n : Nat) : Sig := ⟨[tRecSlot, tRecSlot], [.bool], false, f n, none⟩
def T (n : Nat) : FuncId → Option Sig := fun g => none
def TL (n : Nat) : Loops := fun j _ st k => none
theorem con (n : Nat) : Con Try.prog 24 (sig n) :=
  con_print (hsw := rfl) (T := T n) (TL := TL n) (c := Try.f24.body.getD .skip) (js := []) hMixed conT_none Try.func24 (by decide) (by kernel_rfl) (by kernel_rfl) (by decide) LoopDef.nil (fun x => by kernel_rfl)
end laws_eqRecFix
namespace laws_eqRecFixS
@[reducible] def l4 : LSpec := ⟨[(0, .d (.slice tRecSlot)), (1, .d (.slice tRecSlot)), (5, .d (.int .i64))], [(.ret, [(4, .d .bool)]), (.exit 0, [])]⟩
def B4 (n : Nat) {R : Type} (next : Sden l4.inS → Option R) (cs : Conts R l4.outs) (x : Sden l4.inS) : Option R :=
  if (decide (x.2.2.1 < (List.length x.1 : Int))) = true then
    if (!true || (decide (0 ≤ x.2.2.1 ∧ x.2.2.1 < (List.length x.1 : Int)))) = true then
      if (!true || (decide (0 ≤ x.2.2.1 ∧ x.2.2.1 < (List.length x.2.1 : Int)))) = true then
        (laws_eqRecFix.f n ((List.getD x.1 (Int.toNat x.2.2.1) (Ty.zero tRecSlot)), (List.getD x.2.1 (Int.toNat x.2.2.1) (Ty.zero tRecSlot)), ())).bind fun y1 =>
        if (!y1.1) = true then
          cs.1 (false, ())
        else
          next (x.1, x.2.1, (IntKind.i64.wrap (x.2.2.1 + (1 : Int))), ())
      else
        none
    else
      none
  else
    cs.2.1 ()
def f (n : Nat) (x : Tup [(.slice tRecSlot), (.slice tRecSlot)]) : Option (Tup [.bool]) :=
  if ((List.length x.1 : Int) != (List.length x.2.1 : Int)) = true then
    some (false, ())
  else
    runL (B4 n) ((fun z2 =>
        some (z2.1, ())), (fun z3 =>
        some (true, ())), ()) n (x.1, x.2.1, (0 : Int), ())
@[reducible] def sig (n : Nat) : Sig := ⟨[(.slice tRecSlot), (.slice tRecSlot)], [.bool], false, f n, none⟩
def T (n : Nat) : FuncId → Option Sig := fun g => if Nat.beq g 24 = true then some (laws_eqRecFix.sig n) else none
def TL (n : Nat) : Loops := fun j _ st k => if Nat.beq j 4 = true then (match dec st l4.inS [] with | some x => runL (B4 n) (contsOf k l4.outs) n x | none => none) else none
theorem d4 (n : Nat) : LoopDef Try.prog (T n) (TL n) Try.f15 4 :=
  ⟨l4, fun R => B4 n, n, fun R st k => by kernel_rfl, fun R next cs x => by kernel_rfl⟩
theorem con (n : Nat) : Con Try.prog 15 (sig n) :=
  con_print (hsw := rfl) (T := T n) (TL := TL n) (c := Try.f15.body.getD .skip) (js := [4]) hMixed (conT_cons (laws_eqRecFix.con n) conT_none) Try.func15 (by decide) (by kernel_rfl) (by kernel_rfl) (by decide) (LoopDef.cons (d4 n) LoopDef.nil) (fun x => by kernel_rfl)
end laws_eqRecFixS
namespace laws_eqRecWorld
def f (n : Nat) (x : Tup [tRecWorld, tRecWorld]) : Option (Tup [.bool]) :=
  (laws_eqRecorderS.f n (x.1.1, x.2.1.1, ())).bind fun y1 =>
  if (!y1.1) = true then
    some (false, ())
  else
    (laws_eqRecMessageS.f n (x.1.2.1, x.2.1.2.1, ())).bind fun y2 =>
    if (!y2.1) = true then
      some (false, ())
    else
      (laws_eqRecFixS.f n (x.1.2.2.1, x.2.1.2.2.1, ())).bind fun y3 =>
      if (!y3.1) = true then
        some (false, ())
      else
        some (true, ())
@[reducible] def sig (n : Nat) : Sig := ⟨[tRecWorld, tRecWorld], [.bool], false, f n, none⟩
def T (n : Nat) : FuncId → Option Sig := fun g => if Nat.beq g 13 = true then some (laws_eqRecorderS.sig n) else if Nat.beq g 14 = true then some (laws_eqRecMessageS.sig n) else if Nat.beq g 15 = true then some (laws_eqRecFixS.sig n) else none
def TL (n : Nat) : Loops := fun j _ st k => none
theorem con (n : Nat) : Con Try.prog 6 (sig n) :=
  con_print (hsw := rfl) (T := T n) (TL := TL n) (c := Try.f6.body.getD .skip) (js := []) hMixed (conT_cons (laws_eqRecorderS.con n) (conT_cons (laws_eqRecMessageS.con n) (conT_cons (laws_eqRecFixS.con n) conT_none))) Try.func6 (by decide) (by kernel_rfl) (by kernel_rfl) (by decide) LoopDef.nil (fun x => by kernel_rfl)
end laws_eqRecWorld
namespace laws_markText
@[reducible] def l4 : LSpec := ⟨[(0, .d (.int .i64)), (3, .d .str)], [(.exit 0, [(3, .d .str)])]⟩
def B4 (n : Nat) {R : Type} (next : Sden l4.inS → Option R) (cs : Conts R l4.outs) (x : Sden l4.inS) : Option R :=
  if (decide (x.1 > (0 : Int))) = true then
    if ((10 : Int) != 0) = true then
      if (decide ((ByteArray.size (ofBytes [(IntKind.u8.wrap (IntKind.i64.wrap ((48 : Int) + (Int.tmod x.1 (10 : Int)))))]) : Int) + (ByteArray.size x.2.1 : Int) ≤ 9223372036854775807)) = true then
        if ((10 : Int) != 0) = true then
          next ((IntKind.i64.wrap (Int.tdiv x.1 (10 : Int))), (scat (ofBytes [(IntKind.u8.wrap (IntKind.i64.wrap ((48 : Int) + (Int.tmod x.1 (10 : Int)))))]) x.2.1), ())
        else
          none
      else
        none
    else
      none
  else
    cs.1 (x.2.1, ())
def f (n : Nat) (x : Tup [(.int .i64)]) : Option (Tup [.str]) :=
  if (decide (x.1 ≤ (0 : Int))) = true then
    some ((⟨#[109, 48]⟩ : ByteArray), ())
  else
    runL (B4 n) ((fun z1 =>
        if (decide ((ByteArray.size (⟨#[109]⟩ : ByteArray) : Int) + (ByteArray.size z1.1 : Int) ≤ 9223372036854775807)) = true then
          some ((scat (⟨#[109]⟩ : ByteArray) z1.1), ())
        else
          none), ()) n (x.1, (⟨#[]⟩ : ByteArray), ())
@[reducible] def sig (n : Nat) : Sig := ⟨[(.int .i64)], [.str], false, f n, none⟩
def T (n : Nat) : FuncId → Option Sig := fun g => none
def TL (n : Nat) : Loops := fun j _ st k => if Nat.beq j 4 = true then (match dec st l4.inS [] with | some x => runL (B4 n) (contsOf k l4.outs) n x | none => none) else none
theorem d4 (n : Nat) : LoopDef Try.prog (T n) (TL n) Try.f29 4 :=
  ⟨l4, fun R => B4 n, n, fun R st k => by kernel_rfl, fun R next cs x => by kernel_rfl⟩
theorem con (n : Nat) : Con Try.prog 29 (sig n) :=
  con_print (hsw := rfl) (T := T n) (TL := TL n) (c := Try.f29.body.getD .skip) (js := [4]) hMixed conT_none Try.func29 (by decide) (by kernel_rfl) (by kernel_rfl) (by decide) (LoopDef.cons (d4 n) LoopDef.nil) (fun x => by kernel_rfl)
end laws_markText
namespace laws_markRecSlotS
@[reducible] def l2 : LSpec := ⟨[(0, .row true tRecSlot), (1, .d (.int .i64)), (5, .d (.int .i64))], [(.exit 0, [(0, .row true tRecSlot), (1, .d (.int .i64))])]⟩
def B2 (n : Nat) {R : Type} (next : Sden l2.inS → Option R) (cs : Conts R l2.outs) (x : Sden l2.inS) : Option R :=
  if (decide (x.2.2.1 < (List.length x.1 : Int))) = true then
    if (decide (0 ≤ x.2.2.1 ∧ x.2.2.1 < (List.length x.1 : Int))) = true then
      (laws_markText.f n ((IntKind.i64.wrap (x.2.1 + (1 : Int))), ())).bind fun y1 =>
      if (decide (0 ≤ x.2.2.1 ∧ x.2.2.1 < (List.length (List.set x.1 (Int.toNat x.2.2.1) (x.2.1, (List.getD x.1 (Int.toNat x.2.2.1) (Ty.zero tRecSlot)).2)) : Int))) = true then
        ((some (List.set (List.set x.1 (Int.toNat x.2.2.1) (x.2.1, (List.getD x.1 (Int.toNat x.2.2.1) (Ty.zero tRecSlot)).2)) (Int.toNat x.2.2.1) ((List.getD (List.set x.1 (Int.toNat x.2.2.1) (x.2.1, (List.getD x.1 (Int.toNat x.2.2.1) (Ty.zero tRecSlot)).2)) (Int.toNat x.2.2.1) (Ty.zero tRecSlot)).1, y1.1, ())) : Option (List (Ty.den tRecSlot)))).bind fun w2 =>
        next (w2, (IntKind.i64.wrap ((IntKind.i64.wrap (x.2.1 + (1 : Int))) + (1 : Int))), (IntKind.i64.wrap (x.2.2.1 + (1 : Int))), ())
      else
        none
    else
      none
  else
    cs.1 (x.1, x.2.1, ())
def f (n : Nat) (x : Ty.den (.slice tRecSlot)) (q : Tup [(.int .i64)]) : Option (Ty.den (.slice tRecSlot) × Tup [(.int .i64)]) :=
  runL (B2 n) ((fun z3 =>
      some (z3.1, z3.2.1, ())), ()) n (x, q.1, (0 : Int), ())
@[reducible] def sig (n : Nat) : Sig := ⟨[], [], false, fun _ => none, some ⟨(.slice tRecSlot), [(.int .i64)], [(.int .i64)], f n⟩⟩
def T (n : Nat) : FuncId → Option Sig := fun g => if Nat.beq g 29 = true then some (laws_markText.sig n) else none
def TL (n : Nat) : Loops := fun j _ st k => if Nat.beq j 2 = true then (match dec st l2.inS [] with | some x => runL (B2 n) (contsOf k l2.outs) n x | none => none) else none
theorem d2 (n : Nat) : LoopDefL Try.prog (T n) (TL n) Try.f25 1 2 :=
  ⟨l2, fun R => B2 n, n, fun R st k => by kernel_rfl, fun R next cs x => by kernel_rfl⟩
theorem con (n : Nat) : Con Try.prog 25 (sig n) :=
  con_printW (T := T n) (TL := TL n) (c := Try.f25.body.getD .skip) (js := [2]) hMixed (conT_cons (laws_markText.con n) conT_none) Try.func25 (by decide) (by kernel_rfl) (by kernel_rfl) (by decide) (LoopDef.cons (d2 n) LoopDef.nil) (fun x q => by kernel_rfl)
end laws_markRecSlotS
namespace laws_markRecMessageS
@[reducible] def l2 : LSpec := ⟨[(0, .row true tRecMessage), (1, .d (.int .i64)), (5, .d (.int .i64))], [(.exit 0, [(0, .row true tRecMessage), (1, .d (.int .i64))])]⟩
def B2 (n : Nat) {R : Type} (next : Sden l2.inS → Option R) (cs : Conts R l2.outs) (x : Sden l2.inS) : Option R :=
  if (decide (x.2.2.1 < (List.length x.1 : Int))) = true then
    if (decide (0 ≤ x.2.2.1 ∧ x.2.2.1 < (List.length x.1 : Int))) = true then
      if (decide (0 ≤ x.2.2.1 ∧ x.2.2.1 < (List.length (List.set x.1 (Int.toNat x.2.2.1) (x.2.1, (List.getD x.1 (Int.toNat x.2.2.1) (Ty.zero tRecMessage)).2)) : Int))) = true then
        ((some (List.set (List.set x.1 (Int.toNat x.2.2.1) (x.2.1, (List.getD x.1 (Int.toNat x.2.2.1) (Ty.zero tRecMessage)).2)) (Int.toNat x.2.2.1) ((List.getD (List.set x.1 (Int.toNat x.2.2.1) (x.2.1, (List.getD x.1 (Int.toNat x.2.2.1) (Ty.zero tRecMessage)).2)) (Int.toNat x.2.2.1) (Ty.zero tRecMessage)).1, (IntKind.i64.wrap (x.2.1 + (1 : Int))), (List.getD (List.set x.1 (Int.toNat x.2.2.1) (x.2.1, (List.getD x.1 (Int.toNat x.2.2.1) (Ty.zero tRecMessage)).2)) (Int.toNat x.2.2.1) (Ty.zero tRecMessage)).2.2)) : Option (List (Ty.den tRecMessage)))).bind fun w1 =>
        if (decide (0 ≤ x.2.2.1 ∧ x.2.2.1 < (List.length w1 : Int))) = true then
          ((some (List.set w1 (Int.toNat x.2.2.1) ((List.getD w1 (Int.toNat x.2.2.1) (Ty.zero tRecMessage)).1, (List.getD w1 (Int.toNat x.2.2.1) (Ty.zero tRecMessage)).2.1, (IntKind.i64.wrap ((IntKind.i64.wrap (x.2.1 + (1 : Int))) + (1 : Int))), (List.getD w1 (Int.toNat x.2.2.1) (Ty.zero tRecMessage)).2.2.2)) : Option (List (Ty.den tRecMessage)))).bind fun w2 =>
          if (decide (0 ≤ x.2.2.1 ∧ x.2.2.1 < (List.length w2 : Int))) = true then
            ((some (List.set w2 (Int.toNat x.2.2.1) ((List.getD w2 (Int.toNat x.2.2.1) (Ty.zero tRecMessage)).1, (List.getD w2 (Int.toNat x.2.2.1) (Ty.zero tRecMessage)).2.1, (List.getD w2 (Int.toNat x.2.2.1) (Ty.zero tRecMessage)).2.2.1, (IntKind.i64.wrap ((IntKind.i64.wrap ((IntKind.i64.wrap (x.2.1 + (1 : Int))) + (1 : Int))) + (1 : Int))), (List.getD w2 (Int.toNat x.2.2.1) (Ty.zero tRecMessage)).2.2.2.2)) : Option (List (Ty.den tRecMessage)))).bind fun w3 =>
            if (decide (0 ≤ x.2.2.1 ∧ x.2.2.1 < (List.length w3 : Int))) = true then
              ((some (List.set w3 (Int.toNat x.2.2.1) ((List.getD w3 (Int.toNat x.2.2.1) (Ty.zero tRecMessage)).1, (List.getD w3 (Int.toNat x.2.2.1) (Ty.zero tRecMessage)).2.1, (List.getD w3 (Int.toNat x.2.2.1) (Ty.zero tRecMessage)).2.2.1, (List.getD w3 (Int.toNat x.2.2.1) (Ty.zero tRecMessage)).2.2.2.1, (IntKind.i64.wrap ((IntKind.i64.wrap ((IntKind.i64.wrap ((IntKind.i64.wrap (x.2.1 + (1 : Int))) + (1 : Int))) + (1 : Int))) + (1 : Int))), (List.getD w3 (Int.toNat x.2.2.1) (Ty.zero tRecMessage)).2.2.2.2.2)) : Option (List (Ty.den tRecMessage)))).bind fun w4 =>
              if (decide (0 ≤ x.2.2.1 ∧ x.2.2.1 < (List.length w4 : Int))) = true then
                ((some (List.set w4 (Int.toNat x.2.2.1) ((List.getD w4 (Int.toNat x.2.2.1) (Ty.zero tRecMessage)).1, (List.getD w4 (Int.toNat x.2.2.1) (Ty.zero tRecMessage)).2.1, (List.getD w4 (Int.toNat x.2.2.1) (Ty.zero tRecMessage)).2.2.1, (List.getD w4 (Int.toNat x.2.2.1) (Ty.zero tRecMessage)).2.2.2.1, (List.getD w4 (Int.toNat x.2.2.1) (Ty.zero tRecMessage)).2.2.2.2.1, (IntKind.i64.wrap ((IntKind.i64.wrap ((IntKind.i64.wrap ((IntKind.i64.wrap ((IntKind.i64.wrap (x.2.1 + (1 : Int))) + (1 : Int))) + (1 : Int))) + (1 : Int))) + (1 : Int))), (List.getD w4 (Int.toNat x.2.2.1) (Ty.zero tRecMessage)).2.2.2.2.2.2)) : Option (List (Ty.den tRecMessage)))).bind fun w5 =>
                (laws_markText.f n ((IntKind.i64.wrap ((IntKind.i64.wrap ((IntKind.i64.wrap ((IntKind.i64.wrap ((IntKind.i64.wrap ((IntKind.i64.wrap (x.2.1 + (1 : Int))) + (1 : Int))) + (1 : Int))) + (1 : Int))) + (1 : Int))) + (1 : Int))), ())).bind fun y6 =>
                if (decide (0 ≤ x.2.2.1 ∧ x.2.2.1 < (List.length w5 : Int))) = true then
                  ((some (List.set w5 (Int.toNat x.2.2.1) ((List.getD w5 (Int.toNat x.2.2.1) (Ty.zero tRecMessage)).1, (List.getD w5 (Int.toNat x.2.2.1) (Ty.zero tRecMessage)).2.1, (List.getD w5 (Int.toNat x.2.2.1) (Ty.zero tRecMessage)).2.2.1, (List.getD w5 (Int.toNat x.2.2.1) (Ty.zero tRecMessage)).2.2.2.1, (List.getD w5 (Int.toNat x.2.2.1) (Ty.zero tRecMessage)).2.2.2.2.1, (List.getD w5 (Int.toNat x.2.2.1) (Ty.zero tRecMessage)).2.2.2.2.2.1, y6.1, (List.getD w5 (Int.toNat x.2.2.1) (Ty.zero tRecMessage)).2.2.2.2.2.2.2)) : Option (List (Ty.den tRecMessage)))).bind fun w7 =>
                  if (decide (0 ≤ x.2.2.1 ∧ x.2.2.1 < (List.length w7 : Int))) = true then
                    (laws_markRecSlotS.f n (List.getD w7 (Int.toNat x.2.2.1) (Ty.zero tRecMessage)).2.2.2.2.2.2.2.1 ((IntKind.i64.wrap ((IntKind.i64.wrap ((IntKind.i64.wrap ((IntKind.i64.wrap ((IntKind.i64.wrap ((IntKind.i64.wrap ((IntKind.i64.wrap (x.2.1 + (1 : Int))) + (1 : Int))) + (1 : Int))) + (1 : Int))) + (1 : Int))) + (1 : Int))) + (1 : Int))), ())).bind fun y8 =>
                    ((some (List.set w7 (Int.toNat x.2.2.1) ((List.getD w7 (Int.toNat x.2.2.1) (Ty.zero tRecMessage)).1, (List.getD w7 (Int.toNat x.2.2.1) (Ty.zero tRecMessage)).2.1, (List.getD w7 (Int.toNat x.2.2.1) (Ty.zero tRecMessage)).2.2.1, (List.getD w7 (Int.toNat x.2.2.1) (Ty.zero tRecMessage)).2.2.2.1, (List.getD w7 (Int.toNat x.2.2.1) (Ty.zero tRecMessage)).2.2.2.2.1, (List.getD w7 (Int.toNat x.2.2.1) (Ty.zero tRecMessage)).2.2.2.2.2.1, (List.getD w7 (Int.toNat x.2.2.1) (Ty.zero tRecMessage)).2.2.2.2.2.2.1, y8.1, (List.getD w7 (Int.toNat x.2.2.1) (Ty.zero tRecMessage)).2.2.2.2.2.2.2.2)) : Option (List (Ty.den tRecMessage)))).bind fun w9 =>
                    next (w9, y8.2.1, (IntKind.i64.wrap (x.2.2.1 + (1 : Int))), ())
                  else
                    none
                else
                  none
              else
                none
            else
              none
          else
            none
        else
          none
      else
        none
    else
      none
  else
    cs.1 (x.1, x.2.1, ())
def f (n : Nat) (x : Ty.den (.slice tRecMessage)) (q : Tup [(.int .i64)]) : Option (Ty.den (.slice tRecMessage) × Tup [(.int .i64)]) :=
  runL (B2 n) ((fun z10 =>
      some (z10.1, z10.2.1, ())), ()) n (x, q.1, (0 : Int), ())
@[reducible] def sig (n : Nat) : Sig := ⟨[], [], false, fun _ => none, some ⟨(.slice tRecMessage), [(.int .i64)], [(.int .i64)], f n⟩⟩
def T (n : Nat) : FuncId → Option Sig := fun g => if Nat.beq g 25 = true then some (laws_markRecSlotS.sig n) else if Nat.beq g 29 = true then some (laws_markText.sig n) else none
def TL (n : Nat) : Loops := fun j _ st k => if Nat.beq j 2 = true then (match dec st l2.inS [] with | some x => runL (B2 n) (contsOf k l2.outs) n x | none => none) else none
theorem d2 (n : Nat) : LoopDefL Try.prog (T n) (TL n) Try.f17 1 2 :=
  ⟨l2, fun R => B2 n, n, fun R st k => by kernel_rfl, fun R next cs x => by kernel_rfl⟩
theorem con (n : Nat) : Con Try.prog 17 (sig n) :=
  con_printW (T := T n) (TL := TL n) (c := Try.f17.body.getD .skip) (js := [2]) hMixed (conT_cons (laws_markRecSlotS.con n) (conT_cons (laws_markText.con n) conT_none)) Try.func17 (by decide) (by kernel_rfl) (by kernel_rfl) (by decide) (LoopDef.cons (d2 n) LoopDef.nil) (fun x q => by kernel_rfl)
end laws_markRecMessageS
namespace laws_markStringS
@[reducible] def l2 : LSpec := ⟨[(0, .row true .str), (1, .d (.int .i64)), (5, .d (.int .i64))], [(.exit 0, [(0, .row true .str), (1, .d (.int .i64))])]⟩
def B2 (n : Nat) {R : Type} (next : Sden l2.inS → Option R) (cs : Conts R l2.outs) (x : Sden l2.inS) : Option R :=
  if (decide (x.2.2.1 < (List.length x.1 : Int))) = true then
    (laws_markText.f n (x.2.1, ())).bind fun y1 =>
    if (decide (0 ≤ x.2.2.1 ∧ x.2.2.1 < (List.length x.1 : Int))) = true then
      next ((List.set x.1 (Int.toNat x.2.2.1) y1.1), (IntKind.i64.wrap (x.2.1 + (1 : Int))), (IntKind.i64.wrap (x.2.2.1 + (1 : Int))), ())
    else
      none
  else
    cs.1 (x.1, x.2.1, ())
def f (n : Nat) (x : Ty.den (.slice .str)) (q : Tup [(.int .i64)]) : Option (Ty.den (.slice .str) × Tup [(.int .i64)]) :=
  runL (B2 n) ((fun z2 =>
      some (z2.1, z2.2.1, ())), ()) n (x, q.1, (0 : Int), ())
@[reducible] def sig (n : Nat) : Sig := ⟨[], [], false, fun _ => none, some ⟨(.slice .str), [(.int .i64)], [(.int .i64)], f n⟩⟩
def T (n : Nat) : FuncId → Option Sig := fun g => if Nat.beq g 29 = true then some (laws_markText.sig n) else none
def TL (n : Nat) : Loops := fun j _ st k => if Nat.beq j 2 = true then (match dec st l2.inS [] with | some x => runL (B2 n) (contsOf k l2.outs) n x | none => none) else none
theorem d2 (n : Nat) : LoopDefL Try.prog (T n) (TL n) Try.f26 1 2 :=
  ⟨l2, fun R => B2 n, n, fun R st k => by kernel_rfl, fun R next cs x => by kernel_rfl⟩
theorem con (n : Nat) : Con Try.prog 26 (sig n) :=
  con_printW (T := T n) (TL := TL n) (c := Try.f26.body.getD .skip) (js := [2]) hMixed (conT_cons (laws_markText.con n) conT_none) Try.func26 (by decide) (by kernel_rfl) (by kernel_rfl) (by decide) (LoopDef.cons (d2 n) LoopDef.nil) (fun x q => by kernel_rfl)
end laws_markStringS
namespace laws_markIntS
@[reducible] def l2 : LSpec := ⟨[(0, .row true (.int .i64)), (1, .d (.int .i64)), (5, .d (.int .i64))], [(.exit 0, [(0, .row true (.int .i64)), (1, .d (.int .i64))])]⟩
def B2 (n : Nat) {R : Type} (next : Sden l2.inS → Option R) (cs : Conts R l2.outs) (x : Sden l2.inS) : Option R :=
  if (decide (x.2.2.1 < (List.length x.1 : Int))) = true then
    if (decide (0 ≤ x.2.2.1 ∧ x.2.2.1 < (List.length x.1 : Int))) = true then
      next ((List.set x.1 (Int.toNat x.2.2.1) x.2.1), (IntKind.i64.wrap (x.2.1 + (1 : Int))), (IntKind.i64.wrap (x.2.2.1 + (1 : Int))), ())
    else
      none
  else
    cs.1 (x.1, x.2.1, ())
def f (n : Nat) (x : Ty.den (.slice (.int .i64))) (q : Tup [(.int .i64)]) : Option (Ty.den (.slice (.int .i64)) × Tup [(.int .i64)]) :=
  runL (B2 n) ((fun z1 =>
      some (z1.1, z1.2.1, ())), ()) n (x, q.1, (0 : Int), ())
@[reducible] def sig (n : Nat) : Sig := ⟨[], [], false, fun _ => none, some ⟨(.slice (.int .i64)), [(.int .i64)], [(.int .i64)], f n⟩⟩
def T (n : Nat) : FuncId → Option Sig := fun g => none
def TL (n : Nat) : Loops := fun j _ st k => if Nat.beq j 2 = true then (match dec st l2.inS [] with | some x => runL (B2 n) (contsOf k l2.outs) n x | none => none) else none
theorem d2 (n : Nat) : LoopDefL Try.prog (T n) (TL n) Try.f27 1 2 :=
  ⟨l2, fun R => B2 n, n, fun R st k => by kernel_rfl, fun R next cs x => by kernel_rfl⟩
theorem con (n : Nat) : Con Try.prog 27 (sig n) :=
  con_printW (T := T n) (TL := TL n) (c := Try.f27.body.getD .skip) (js := [2]) hMixed conT_none Try.func27 (by decide) (by kernel_rfl) (by kernel_rfl) (by decide) (LoopDef.cons (d2 n) LoopDef.nil) (fun x q => by kernel_rfl)
end laws_markIntS
namespace laws_markRecAckS
@[reducible] def l2 : LSpec := ⟨[(0, .row true tRecAck), (1, .d (.int .i64)), (5, .d (.int .i64))], [(.exit 0, [(0, .row true tRecAck), (1, .d (.int .i64))])]⟩
def B2 (n : Nat) {R : Type} (next : Sden l2.inS → Option R) (cs : Conts R l2.outs) (x : Sden l2.inS) : Option R :=
  if (decide (x.2.2.1 < (List.length x.1 : Int))) = true then
    if (decide (0 ≤ x.2.2.1 ∧ x.2.2.1 < (List.length x.1 : Int))) = true then
      if (decide (0 ≤ x.2.2.1 ∧ x.2.2.1 < (List.length (List.set x.1 (Int.toNat x.2.2.1) (x.2.1, (List.getD x.1 (Int.toNat x.2.2.1) (Ty.zero tRecAck)).2)) : Int))) = true then
        (laws_markIntS.f n (List.getD (List.set x.1 (Int.toNat x.2.2.1) (x.2.1, (List.getD x.1 (Int.toNat x.2.2.1) (Ty.zero tRecAck)).2)) (Int.toNat x.2.2.1) (Ty.zero tRecAck)).2.1 ((IntKind.i64.wrap (x.2.1 + (1 : Int))), ())).bind fun y1 =>
        ((some (List.set (List.set x.1 (Int.toNat x.2.2.1) (x.2.1, (List.getD x.1 (Int.toNat x.2.2.1) (Ty.zero tRecAck)).2)) (Int.toNat x.2.2.1) ((List.getD (List.set x.1 (Int.toNat x.2.2.1) (x.2.1, (List.getD x.1 (Int.toNat x.2.2.1) (Ty.zero tRecAck)).2)) (Int.toNat x.2.2.1) (Ty.zero tRecAck)).1, y1.1, (List.getD (List.set x.1 (Int.toNat x.2.2.1) (x.2.1, (List.getD x.1 (Int.toNat x.2.2.1) (Ty.zero tRecAck)).2)) (Int.toNat x.2.2.1) (Ty.zero tRecAck)).2.2)) : Option (List (Ty.den tRecAck)))).bind fun w2 =>
        next (w2, y1.2.1, (IntKind.i64.wrap (x.2.2.1 + (1 : Int))), ())
      else
        none
    else
      none
  else
    cs.1 (x.1, x.2.1, ())
def f (n : Nat) (x : Ty.den (.slice tRecAck)) (q : Tup [(.int .i64)]) : Option (Ty.den (.slice tRecAck) × Tup [(.int .i64)]) :=
  runL (B2 n) ((fun z3 =>
      some (z3.1, z3.2.1, ())), ()) n (x, q.1, (0 : Int), ())
@[reducible] def sig (n : Nat) : Sig := ⟨[], [], false, fun _ => none, some ⟨(.slice tRecAck), [(.int .i64)], [(.int .i64)], f n⟩⟩
def T (n : Nat) : FuncId → Option Sig := fun g => if Nat.beq g 27 = true then some (laws_markIntS.sig n) else none
def TL (n : Nat) : Loops := fun j _ st k => if Nat.beq j 2 = true then (match dec st l2.inS [] with | some x => runL (B2 n) (contsOf k l2.outs) n x | none => none) else none
theorem d2 (n : Nat) : LoopDefL Try.prog (T n) (TL n) Try.f28 1 2 :=
  ⟨l2, fun R => B2 n, n, fun R st k => by kernel_rfl, fun R next cs x => by kernel_rfl⟩
theorem con (n : Nat) : Con Try.prog 28 (sig n) :=
  con_printW (T := T n) (TL := TL n) (c := Try.f28.body.getD .skip) (js := [2]) hMixed (conT_cons (laws_markIntS.con n) conT_none) Try.func28 (by decide) (by kernel_rfl) (by kernel_rfl) (by decide) (LoopDef.cons (d2 n) LoopDef.nil) (fun x q => by kernel_rfl)
end laws_markRecAckS
namespace laws_markRecorderS
@[reducible] def l2 : LSpec := ⟨[(0, .row true tRecorder), (1, .d (.int .i64)), (5, .d (.int .i64))], [(.exit 0, [(0, .row true tRecorder), (1, .d (.int .i64))])]⟩
def B2 (n : Nat) {R : Type} (next : Sden l2.inS → Option R) (cs : Conts R l2.outs) (x : Sden l2.inS) : Option R :=
  if (decide (x.2.2.1 < (List.length x.1 : Int))) = true then
    if (decide (0 ≤ x.2.2.1 ∧ x.2.2.1 < (List.length x.1 : Int))) = true then
      if (decide (0 ≤ x.2.2.1 ∧ x.2.2.1 < (List.length (List.set x.1 (Int.toNat x.2.2.1) (x.2.1, (List.getD x.1 (Int.toNat x.2.2.1) (Ty.zero tRecorder)).2)) : Int))) = true then
        ((some (List.set (List.set x.1 (Int.toNat x.2.2.1) (x.2.1, (List.getD x.1 (Int.toNat x.2.2.1) (Ty.zero tRecorder)).2)) (Int.toNat x.2.2.1) ((List.getD (List.set x.1 (Int.toNat x.2.2.1) (x.2.1, (List.getD x.1 (Int.toNat x.2.2.1) (Ty.zero tRecorder)).2)) (Int.toNat x.2.2.1) (Ty.zero tRecorder)).1, (IntKind.i64.wrap (x.2.1 + (1 : Int))), (List.getD (List.set x.1 (Int.toNat x.2.2.1) (x.2.1, (List.getD x.1 (Int.toNat x.2.2.1) (Ty.zero tRecorder)).2)) (Int.toNat x.2.2.1) (Ty.zero tRecorder)).2.2)) : Option (List (Ty.den tRecorder)))).bind fun w1 =>
        if ((3 : Int) != 0) = true then
          if (decide (0 ≤ x.2.2.1 ∧ x.2.2.1 < (List.length w1 : Int))) = true then
            ((some (List.set w1 (Int.toNat x.2.2.1) ((List.getD w1 (Int.toNat x.2.2.1) (Ty.zero tRecorder)).1, (List.getD w1 (Int.toNat x.2.2.1) (Ty.zero tRecorder)).2.1, ((Int.tmod (IntKind.i64.wrap ((IntKind.i64.wrap (x.2.1 + (1 : Int))) + (1 : Int))) (3 : Int)) == (0 : Int)), (List.getD w1 (Int.toNat x.2.2.1) (Ty.zero tRecorder)).2.2.2)) : Option (List (Ty.den tRecorder)))).bind fun w2 =>
            if (decide (0 ≤ x.2.2.1 ∧ x.2.2.1 < (List.length w2 : Int))) = true then
              ((some (List.set w2 (Int.toNat x.2.2.1) ((List.getD w2 (Int.toNat x.2.2.1) (Ty.zero tRecorder)).1, (List.getD w2 (Int.toNat x.2.2.1) (Ty.zero tRecorder)).2.1, (List.getD w2 (Int.toNat x.2.2.1) (Ty.zero tRecorder)).2.2.1, ((IntKind.i64.wrap ((IntKind.i64.wrap ((IntKind.i64.wrap (x.2.1 + (1 : Int))) + (1 : Int))) + (1 : Int))), (List.getD w2 (Int.toNat x.2.2.1) (Ty.zero tRecorder)).2.2.2.1.2), (List.getD w2 (Int.toNat x.2.2.1) (Ty.zero tRecorder)).2.2.2.2)) : Option (List (Ty.den tRecorder)))).bind fun w3 =>
              if (decide (0 ≤ x.2.2.1 ∧ x.2.2.1 < (List.length w3 : Int))) = true then
                ((some (List.set w3 (Int.toNat x.2.2.1) ((List.getD w3 (Int.toNat x.2.2.1) (Ty.zero tRecorder)).1, (List.getD w3 (Int.toNat x.2.2.1) (Ty.zero tRecorder)).2.1, (List.getD w3 (Int.toNat x.2.2.1) (Ty.zero tRecorder)).2.2.1, ((List.getD w3 (Int.toNat x.2.2.1) (Ty.zero tRecorder)).2.2.2.1.1, (IntKind.i64.wrap ((IntKind.i64.wrap ((IntKind.i64.wrap ((IntKind.i64.wrap (x.2.1 + (1 : Int))) + (1 : Int))) + (1 : Int))) + (1 : Int))), (List.getD w3 (Int.toNat x.2.2.1) (Ty.zero tRecorder)).2.2.2.1.2.2), (List.getD w3 (Int.toNat x.2.2.1) (Ty.zero tRecorder)).2.2.2.2)) : Option (List (Ty.den tRecorder)))).bind fun w4 =>
                if (decide (0 ≤ x.2.2.1 ∧ x.2.2.1 < (List.length w4 : Int))) = true then
                  (laws_markRecSlotS.f n (List.getD w4 (Int.toNat x.2.2.1) (Ty.zero tRecorder)).2.2.2.1.2.2.1 ((IntKind.i64.wrap ((IntKind.i64.wrap ((IntKind.i64.wrap ((IntKind.i64.wrap ((IntKind.i64.wrap (x.2.1 + (1 : Int))) + (1 : Int))) + (1 : Int))) + (1 : Int))) + (1 : Int))), ())).bind fun y5 =>
                  ((some (List.set w4 (Int.toNat x.2.2.1) ((List.getD w4 (Int.toNat x.2.2.1) (Ty.zero tRecorder)).1, (List.getD w4 (Int.toNat x.2.2.1) (Ty.zero tRecorder)).2.1, (List.getD w4 (Int.toNat x.2.2.1) (Ty.zero tRecorder)).2.2.1, ((List.getD w4 (Int.toNat x.2.2.1) (Ty.zero tRecorder)).2.2.2.1.1, (List.getD w4 (Int.toNat x.2.2.1) (Ty.zero tRecorder)).2.2.2.1.2.1, y5.1, (List.getD w4 (Int.toNat x.2.2.1) (Ty.zero tRecorder)).2.2.2.1.2.2.2), (List.getD w4 (Int.toNat x.2.2.1) (Ty.zero tRecorder)).2.2.2.2)) : Option (List (Ty.den tRecorder)))).bind fun w6 =>
                  if (decide (0 ≤ x.2.2.1 ∧ x.2.2.1 < (List.length w6 : Int))) = true then
                    ((some (List.set w6 (Int.toNat x.2.2.1) ((List.getD w6 (Int.toNat x.2.2.1) (Ty.zero tRecorder)).1, (List.getD w6 (Int.toNat x.2.2.1) (Ty.zero tRecorder)).2.1, (List.getD w6 (Int.toNat x.2.2.1) (Ty.zero tRecorder)).2.2.1, (List.getD w6 (Int.toNat x.2.2.1) (Ty.zero tRecorder)).2.2.2.1, (y5.2.1, (List.getD w6 (Int.toNat x.2.2.1) (Ty.zero tRecorder)).2.2.2.2.1.2), (List.getD w6 (Int.toNat x.2.2.1) (Ty.zero tRecorder)).2.2.2.2.2)) : Option (List (Ty.den tRecorder)))).bind fun w7 =>
                    if (decide (0 ≤ x.2.2.1 ∧ x.2.2.1 < (List.length w7 : Int))) = true then
                      ((some (List.set w7 (Int.toNat x.2.2.1) ((List.getD w7 (Int.toNat x.2.2.1) (Ty.zero tRecorder)).1, (List.getD w7 (Int.toNat x.2.2.1) (Ty.zero tRecorder)).2.1, (List.getD w7 (Int.toNat x.2.2.1) (Ty.zero tRecorder)).2.2.1, (List.getD w7 (Int.toNat x.2.2.1) (Ty.zero tRecorder)).2.2.2.1, ((List.getD w7 (Int.toNat x.2.2.1) (Ty.zero tRecorder)).2.2.2.2.1.1, (IntKind.i64.wrap (y5.2.1 + (1 : Int))), (List.getD w7 (Int.toNat x.2.2.1) (Ty.zero tRecorder)).2.2.2.2.1.2.2), (List.getD w7 (Int.toNat x.2.2.1) (Ty.zero tRecorder)).2.2.2.2.2)) : Option (List (Ty.den tRecorder)))).bind fun w8 =>
                      if (decide (0 ≤ x.2.2.1 ∧ x.2.2.1 < (List.length w8 : Int))) = true then
                        (laws_markRecSlotS.f n (List.getD w8 (Int.toNat x.2.2.1) (Ty.zero tRecorder)).2.2.2.2.1.2.2.1 ((IntKind.i64.wrap ((IntKind.i64.wrap (y5.2.1 + (1 : Int))) + (1 : Int))), ())).bind fun y9 =>
                        ((some (List.set w8 (Int.toNat x.2.2.1) ((List.getD w8 (Int.toNat x.2.2.1) (Ty.zero tRecorder)).1, (List.getD w8 (Int.toNat x.2.2.1) (Ty.zero tRecorder)).2.1, (List.getD w8 (Int.toNat x.2.2.1) (Ty.zero tRecorder)).2.2.1, (List.getD w8 (Int.toNat x.2.2.1) (Ty.zero tRecorder)).2.2.2.1, ((List.getD w8 (Int.toNat x.2.2.1) (Ty.zero tRecorder)).2.2.2.2.1.1, (List.getD w8 (Int.toNat x.2.2.1) (Ty.zero tRecorder)).2.2.2.2.1.2.1, y9.1, (List.getD w8 (Int.toNat x.2.2.1) (Ty.zero tRecorder)).2.2.2.2.1.2.2.2), (List.getD w8 (Int.toNat x.2.2.1) (Ty.zero tRecorder)).2.2.2.2.2)) : Option (List (Ty.den tRecorder)))).bind fun w10 =>
                        if (decide (0 ≤ x.2.2.1 ∧ x.2.2.1 < (List.length w10 : Int))) = true then
                          (laws_markRecMessageS.f n (List.getD w10 (Int.toNat x.2.2.1) (Ty.zero tRecorder)).2.2.2.2.2.1 (y9.2.1, ())).bind fun y11 =>
                          ((some (List.set w10 (Int.toNat x.2.2.1) ((List.getD w10 (Int.toNat x.2.2.1) (Ty.zero tRecorder)).1, (List.getD w10 (Int.toNat x.2.2.1) (Ty.zero tRecorder)).2.1, (List.getD w10 (Int.toNat x.2.2.1) (Ty.zero tRecorder)).2.2.1, (List.getD w10 (Int.toNat x.2.2.1) (Ty.zero tRecorder)).2.2.2.1, (List.getD w10 (Int.toNat x.2.2.1) (Ty.zero tRecorder)).2.2.2.2.1, y11.1, (List.getD w10 (Int.toNat x.2.2.1) (Ty.zero tRecorder)).2.2.2.2.2.2)) : Option (List (Ty.den tRecorder)))).bind fun w12 =>
                          if (decide (0 ≤ x.2.2.1 ∧ x.2.2.1 < (List.length w12 : Int))) = true then
                            (laws_markStringS.f n (List.getD w12 (Int.toNat x.2.2.1) (Ty.zero tRecorder)).2.2.2.2.2.2.1 (y11.2.1, ())).bind fun y13 =>
                            ((some (List.set w12 (Int.toNat x.2.2.1) ((List.getD w12 (Int.toNat x.2.2.1) (Ty.zero tRecorder)).1, (List.getD w12 (Int.toNat x.2.2.1) (Ty.zero tRecorder)).2.1, (List.getD w12 (Int.toNat x.2.2.1) (Ty.zero tRecorder)).2.2.1, (List.getD w12 (Int.toNat x.2.2.1) (Ty.zero tRecorder)).2.2.2.1, (List.getD w12 (Int.toNat x.2.2.1) (Ty.zero tRecorder)).2.2.2.2.1, (List.getD w12 (Int.toNat x.2.2.1) (Ty.zero tRecorder)).2.2.2.2.2.1, y13.1, (List.getD w12 (Int.toNat x.2.2.1) (Ty.zero tRecorder)).2.2.2.2.2.2.2)) : Option (List (Ty.den tRecorder)))).bind fun w14 =>
                            if ((3 : Int) != 0) = true then
                              if (decide (0 ≤ x.2.2.1 ∧ x.2.2.1 < (List.length w14 : Int))) = true then
                                ((some (List.set w14 (Int.toNat x.2.2.1) ((List.getD w14 (Int.toNat x.2.2.1) (Ty.zero tRecorder)).1, (List.getD w14 (Int.toNat x.2.2.1) (Ty.zero tRecorder)).2.1, (List.getD w14 (Int.toNat x.2.2.1) (Ty.zero tRecorder)).2.2.1, (List.getD w14 (Int.toNat x.2.2.1) (Ty.zero tRecorder)).2.2.2.1, (List.getD w14 (Int.toNat x.2.2.1) (Ty.zero tRecorder)).2.2.2.2.1, (List.getD w14 (Int.toNat x.2.2.1) (Ty.zero tRecorder)).2.2.2.2.2.1, (List.getD w14 (Int.toNat x.2.2.1) (Ty.zero tRecorder)).2.2.2.2.2.2.1, ((Int.tmod y13.2.1 (3 : Int)) == (0 : Int)), (List.getD w14 (Int.toNat x.2.2.1) (Ty.zero tRecorder)).2.2.2.2.2.2.2.2)) : Option (List (Ty.den tRecorder)))).bind fun w15 =>
                                if ((3 : Int) != 0) = true then
                                  if (decide (0 ≤ x.2.2.1 ∧ x.2.2.1 < (List.length w15 : Int))) = true then
                                    ((some (List.set w15 (Int.toNat x.2.2.1) ((List.getD w15 (Int.toNat x.2.2.1) (Ty.zero tRecorder)).1, (List.getD w15 (Int.toNat x.2.2.1) (Ty.zero tRecorder)).2.1, (List.getD w15 (Int.toNat x.2.2.1) (Ty.zero tRecorder)).2.2.1, (List.getD w15 (Int.toNat x.2.2.1) (Ty.zero tRecorder)).2.2.2.1, (List.getD w15 (Int.toNat x.2.2.1) (Ty.zero tRecorder)).2.2.2.2.1, (List.getD w15 (Int.toNat x.2.2.1) (Ty.zero tRecorder)).2.2.2.2.2.1, (List.getD w15 (Int.toNat x.2.2.1) (Ty.zero tRecorder)).2.2.2.2.2.2.1, (List.getD w15 (Int.toNat x.2.2.1) (Ty.zero tRecorder)).2.2.2.2.2.2.2.1, ((Int.tmod (IntKind.i64.wrap (y13.2.1 + (1 : Int))) (3 : Int)) == (0 : Int)), (List.getD w15 (Int.toNat x.2.2.1) (Ty.zero tRecorder)).2.2.2.2.2.2.2.2.2)) : Option (List (Ty.den tRecorder)))).bind fun w16 =>
                                    if (decide (0 ≤ x.2.2.1 ∧ x.2.2.1 < (List.length w16 : Int))) = true then
                                      ((some (List.set w16 (Int.toNat x.2.2.1) ((List.getD w16 (Int.toNat x.2.2.1) (Ty.zero tRecorder)).1, (List.getD w16 (Int.toNat x.2.2.1) (Ty.zero tRecorder)).2.1, (List.getD w16 (Int.toNat x.2.2.1) (Ty.zero tRecorder)).2.2.1, (List.getD w16 (Int.toNat x.2.2.1) (Ty.zero tRecorder)).2.2.2.1, (List.getD w16 (Int.toNat x.2.2.1) (Ty.zero tRecorder)).2.2.2.2.1, (List.getD w16 (Int.toNat x.2.2.1) (Ty.zero tRecorder)).2.2.2.2.2.1, (List.getD w16 (Int.toNat x.2.2.1) (Ty.zero tRecorder)).2.2.2.2.2.2.1, (List.getD w16 (Int.toNat x.2.2.1) (Ty.zero tRecorder)).2.2.2.2.2.2.2.1, (List.getD w16 (Int.toNat x.2.2.1) (Ty.zero tRecorder)).2.2.2.2.2.2.2.2.1, (IntKind.i64.wrap ((IntKind.i64.wrap (y13.2.1 + (1 : Int))) + (1 : Int))), (List.getD w16 (Int.toNat x.2.2.1) (Ty.zero tRecorder)).2.2.2.2.2.2.2.2.2.2)) : Option (List (Ty.den tRecorder)))).bind fun w17 =>
                                      if (decide (0 ≤ x.2.2.1 ∧ x.2.2.1 < (List.length w17 : Int))) = true then
                                        (laws_markIntS.f n (List.getD w17 (Int.toNat x.2.2.1) (Ty.zero tRecorder)).2.2.2.2.2.2.2.2.2.2.1 ((IntKind.i64.wrap ((IntKind.i64.wrap ((IntKind.i64.wrap (y13.2.1 + (1 : Int))) + (1 : Int))) + (1 : Int))), ())).bind fun y18 =>
                                        ((some (List.set w17 (Int.toNat x.2.2.1) ((List.getD w17 (Int.toNat x.2.2.1) (Ty.zero tRecorder)).1, (List.getD w17 (Int.toNat x.2.2.1) (Ty.zero tRecorder)).2.1, (List.getD w17 (Int.toNat x.2.2.1) (Ty.zero tRecorder)).2.2.1, (List.getD w17 (Int.toNat x.2.2.1) (Ty.zero tRecorder)).2.2.2.1, (List.getD w17 (Int.toNat x.2.2.1) (Ty.zero tRecorder)).2.2.2.2.1, (List.getD w17 (Int.toNat x.2.2.1) (Ty.zero tRecorder)).2.2.2.2.2.1, (List.getD w17 (Int.toNat x.2.2.1) (Ty.zero tRecorder)).2.2.2.2.2.2.1, (List.getD w17 (Int.toNat x.2.2.1) (Ty.zero tRecorder)).2.2.2.2.2.2.2.1, (List.getD w17 (Int.toNat x.2.2.1) (Ty.zero tRecorder)).2.2.2.2.2.2.2.2.1, (List.getD w17 (Int.toNat x.2.2.1) (Ty.zero tRecorder)).2.2.2.2.2.2.2.2.2.1, y18.1, (List.getD w17 (Int.toNat x.2.2.1) (Ty.zero tRecorder)).2.2.2.2.2.2.2.2.2.2.2)) : Option (List (Ty.den tRecorder)))).bind fun w19 =>
                                        if (decide (0 ≤ x.2.2.1 ∧ x.2.2.1 < (List.length w19 : Int))) = true then
                                          (laws_markRecSlotS.f n (List.getD w19 (Int.toNat x.2.2.1) (Ty.zero tRecorder)).2.2.2.2.2.2.2.2.2.2.2.1 (y18.2.1, ())).bind fun y20 =>
                                          ((some (List.set w19 (Int.toNat x.2.2.1) ((List.getD w19 (Int.toNat x.2.2.1) (Ty.zero tRecorder)).1, (List.getD w19 (Int.toNat x.2.2.1) (Ty.zero tRecorder)).2.1, (List.getD w19 (Int.toNat x.2.2.1) (Ty.zero tRecorder)).2.2.1, (List.getD w19 (Int.toNat x.2.2.1) (Ty.zero tRecorder)).2.2.2.1, (List.getD w19 (Int.toNat x.2.2.1) (Ty.zero tRecorder)).2.2.2.2.1, (List.getD w19 (Int.toNat x.2.2.1) (Ty.zero tRecorder)).2.2.2.2.2.1, (List.getD w19 (Int.toNat x.2.2.1) (Ty.zero tRecorder)).2.2.2.2.2.2.1, (List.getD w19 (Int.toNat x.2.2.1) (Ty.zero tRecorder)).2.2.2.2.2.2.2.1, (List.getD w19 (Int.toNat x.2.2.1) (Ty.zero tRecorder)).2.2.2.2.2.2.2.2.1, (List.getD w19 (Int.toNat x.2.2.1) (Ty.zero tRecorder)).2.2.2.2.2.2.2.2.2.1, (List.getD w19 (Int.toNat x.2.2.1) (Ty.zero tRecorder)).2.2.2.2.2.2.2.2.2.2.1, y20.1, (List.getD w19 (Int.toNat x.2.2.1) (Ty.zero tRecorder)).2.2.2.2.2.2.2.2.2.2.2.2)) : Option (List (Ty.den tRecorder)))).bind fun w21 =>
                                          if (decide (0 ≤ x.2.2.1 ∧ x.2.2.1 < (List.length w21 : Int))) = true then
                                            (laws_markRecAckS.f n (List.getD w21 (Int.toNat x.2.2.1) (Ty.zero tRecorder)).2.2.2.2.2.2.2.2.2.2.2.2.1 (y20.2.1, ())).bind fun y22 =>
                                            ((some (List.set w21 (Int.toNat x.2.2.1) ((List.getD w21 (Int.toNat x.2.2.1) (Ty.zero tRecorder)).1, (List.getD w21 (Int.toNat x.2.2.1) (Ty.zero tRecorder)).2.1, (List.getD w21 (Int.toNat x.2.2.1) (Ty.zero tRecorder)).2.2.1, (List.getD w21 (Int.toNat x.2.2.1) (Ty.zero tRecorder)).2.2.2.1, (List.getD w21 (Int.toNat x.2.2.1) (Ty.zero tRecorder)).2.2.2.2.1, (List.getD w21 (Int.toNat x.2.2.1) (Ty.zero tRecorder)).2.2.2.2.2.1, (List.getD w21 (Int.toNat x.2.2.1) (Ty.zero tRecorder)).2.2.2.2.2.2.1, (List.getD w21 (Int.toNat x.2.2.1) (Ty.zero tRecorder)).2.2.2.2.2.2.2.1, (List.getD w21 (Int.toNat x.2.2.1) (Ty.zero tRecorder)).2.2.2.2.2.2.2.2.1, (List.getD w21 (Int.toNat x.2.2.1) (Ty.zero tRecorder)).2.2.2.2.2.2.2.2.2.1, (List.getD w21 (Int.toNat x.2.2.1) (Ty.zero tRecorder)).2.2.2.2.2.2.2.2.2.2.1, (List.getD w21 (Int.toNat x.2.2.1) (Ty.zero tRecorder)).2.2.2.2.2.2.2.2.2.2.2.1, y22.1, (List.getD w21 (Int.toNat x.2.2.1) (Ty.zero tRecorder)).2.2.2.2.2.2.2.2.2.2.2.2.2)) : Option (List (Ty.den tRecorder)))).bind fun w23 =>
                                            if (decide (0 ≤ x.2.2.1 ∧ x.2.2.1 < (List.length w23 : Int))) = true then
                                              ((some (List.set w23 (Int.toNat x.2.2.1) ((List.getD w23 (Int.toNat x.2.2.1) (Ty.zero tRecorder)).1, (List.getD w23 (Int.toNat x.2.2.1) (Ty.zero tRecorder)).2.1, (List.getD w23 (Int.toNat x.2.2.1) (Ty.zero tRecorder)).2.2.1, (List.getD w23 (Int.toNat x.2.2.1) (Ty.zero tRecorder)).2.2.2.1, (List.getD w23 (Int.toNat x.2.2.1) (Ty.zero tRecorder)).2.2.2.2.1, (List.getD w23 (Int.toNat x.2.2.1) (Ty.zero tRecorder)).2.2.2.2.2.1, (List.getD w23 (Int.toNat x.2.2.1) (Ty.zero tRecorder)).2.2.2.2.2.2.1, (List.getD w23 (Int.toNat x.2.2.1) (Ty.zero tRecorder)).2.2.2.2.2.2.2.1, (List.getD w23 (Int.toNat x.2.2.1) (Ty.zero tRecorder)).2.2.2.2.2.2.2.2.1, (List.getD w23 (Int.toNat x.2.2.1) (Ty.zero tRecorder)).2.2.2.2.2.2.2.2.2.1, (List.getD w23 (Int.toNat x.2.2.1) (Ty.zero tRecorder)).2.2.2.2.2.2.2.2.2.2.1, (List.getD w23 (Int.toNat x.2.2.1) (Ty.zero tRecorder)).2.2.2.2.2.2.2.2.2.2.2.1, (List.getD w23 (Int.toNat x.2.2.1) (Ty.zero tRecorder)).2.2.2.2.2.2.2.2.2.2.2.2.1, y22.2.1, ())) : Option (List (Ty.den tRecorder)))).bind fun w24 =>
                                              next (w24, (IntKind.i64.wrap (y22.2.1 + (1 : Int))), (IntKind.i64.wrap (x.2.2.1 + (1 : Int))), ())
                                            else
                                              none
                                          else
                                            none
                                        else
                                          none
                                      else
                                        none
                                    else
                                      none
                                  else
                                    none
                                else
                                  none
                              else
                                none
                            else
                              none
                          else
                            none
                        else
                          none
                      else
                        none
                    else
                      none
                  else
                    none
                else
                  none
              else
                none
            else
              none
          else
            none
        else
          none
      else
        none
    else
      none
  else
    cs.1 (x.1, x.2.1, ())
def f (n : Nat) (x : Ty.den (.slice tRecorder)) (q : Tup [(.int .i64)]) : Option (Ty.den (.slice tRecorder) × Tup [(.int .i64)]) :=
  runL (B2 n) ((fun z25 =>
      some (z25.1, z25.2.1, ())), ()) n (x, q.1, (0 : Int), ())
@[reducible] def sig (n : Nat) : Sig := ⟨[], [], false, fun _ => none, some ⟨(.slice tRecorder), [(.int .i64)], [(.int .i64)], f n⟩⟩
def T (n : Nat) : FuncId → Option Sig := fun g => if Nat.beq g 17 = true then some (laws_markRecMessageS.sig n) else if Nat.beq g 25 = true then some (laws_markRecSlotS.sig n) else if Nat.beq g 26 = true then some (laws_markStringS.sig n) else if Nat.beq g 27 = true then some (laws_markIntS.sig n) else if Nat.beq g 28 = true then some (laws_markRecAckS.sig n) else none
def TL (n : Nat) : Loops := fun j _ st k => if Nat.beq j 2 = true then (match dec st l2.inS [] with | some x => runL (B2 n) (contsOf k l2.outs) n x | none => none) else none
theorem d2 (n : Nat) : LoopDefL Try.prog (T n) (TL n) Try.f16 1 2 :=
  ⟨l2, fun R => B2 n, n, fun R st k => by kernel_rfl, fun R next cs x => by kernel_rfl⟩
theorem con (n : Nat) : Con Try.prog 16 (sig n) :=
  con_printW (T := T n) (TL := TL n) (c := Try.f16.body.getD .skip) (js := [2]) hMixed (conT_cons (laws_markRecMessageS.con n) (conT_cons (laws_markRecSlotS.con n) (conT_cons (laws_markStringS.con n) (conT_cons (laws_markIntS.con n) (conT_cons (laws_markRecAckS.con n) conT_none))))) Try.func16 (by decide) (by kernel_rfl) (by kernel_rfl) (by decide) (LoopDef.cons (d2 n) LoopDef.nil) (fun x q => by kernel_rfl)
end laws_markRecorderS
namespace laws_markRecFixS
@[reducible] def l2 : LSpec := ⟨[(0, .row true tRecSlot), (1, .d (.int .i64)), (5, .d (.int .i64))], [(.exit 0, [(0, .row true tRecSlot), (1, .d (.int .i64))])]⟩
def B2 (n : Nat) {R : Type} (next : Sden l2.inS → Option R) (cs : Conts R l2.outs) (x : Sden l2.inS) : Option R :=
  if (decide (x.2.2.1 < (List.length x.1 : Int))) = true then
    if (decide (0 ≤ x.2.2.1 ∧ x.2.2.1 < (List.length x.1 : Int))) = true then
      (laws_markText.f n ((IntKind.i64.wrap (x.2.1 + (1 : Int))), ())).bind fun y1 =>
      if (decide (0 ≤ x.2.2.1 ∧ x.2.2.1 < (List.length (List.set x.1 (Int.toNat x.2.2.1) (x.2.1, (List.getD x.1 (Int.toNat x.2.2.1) (Ty.zero tRecSlot)).2)) : Int))) = true then
        ((some (List.set (List.set x.1 (Int.toNat x.2.2.1) (x.2.1, (List.getD x.1 (Int.toNat x.2.2.1) (Ty.zero tRecSlot)).2)) (Int.toNat x.2.2.1) ((List.getD (List.set x.1 (Int.toNat x.2.2.1) (x.2.1, (List.getD x.1 (Int.toNat x.2.2.1) (Ty.zero tRecSlot)).2)) (Int.toNat x.2.2.1) (Ty.zero tRecSlot)).1, y1.1, ())) : Option (List (Ty.den tRecSlot)))).bind fun w2 =>
        next (w2, (IntKind.i64.wrap ((IntKind.i64.wrap (x.2.1 + (1 : Int))) + (1 : Int))), (IntKind.i64.wrap (x.2.2.1 + (1 : Int))), ())
      else
        none
    else
      none
  else
    cs.1 (x.1, x.2.1, ())
def f (n : Nat) (x : Ty.den (.slice tRecSlot)) (q : Tup [(.int .i64)]) : Option (Ty.den (.slice tRecSlot) × Tup [(.int .i64)]) :=
  runL (B2 n) ((fun z3 =>
      some (z3.1, z3.2.1, ())), ()) n (x, q.1, (0 : Int), ())
@[reducible] def sig (n : Nat) : Sig := ⟨[], [], false, fun _ => none, some ⟨(.slice tRecSlot), [(.int .i64)], [(.int .i64)], f n⟩⟩
def T (n : Nat) : FuncId → Option Sig := fun g => if Nat.beq g 29 = true then some (laws_markText.sig n) else none
def TL (n : Nat) : Loops := fun j _ st k => if Nat.beq j 2 = true then (match dec st l2.inS [] with | some x => runL (B2 n) (contsOf k l2.outs) n x | none => none) else none
theorem d2 (n : Nat) : LoopDefL Try.prog (T n) (TL n) Try.f18 1 2 :=
  ⟨l2, fun R => B2 n, n, fun R st k => by kernel_rfl, fun R next cs x => by kernel_rfl⟩
theorem con (n : Nat) : Con Try.prog 18 (sig n) :=
  con_printW (T := T n) (TL := TL n) (c := Try.f18.body.getD .skip) (js := [2]) hMixed (conT_cons (laws_markText.con n) conT_none) Try.func18 (by decide) (by kernel_rfl) (by kernel_rfl) (by decide) (LoopDef.cons (d2 n) LoopDef.nil) (fun x q => by kernel_rfl)
end laws_markRecFixS
namespace laws_markRecWorld
def f (n : Nat) (x : Ty.den tRecWorld) (q : Tup [(.int .i64)]) : Option (Ty.den tRecWorld × Tup [(.int .i64)]) :=
  (laws_markRecorderS.f n x.1 (q.1, ())).bind fun y1 =>
  (laws_markRecMessageS.f n x.2.1 (y1.2.1, ())).bind fun y2 =>
  (laws_markRecFixS.f n x.2.2.1 (y2.2.1, ())).bind fun y3 =>
  some ((y1.1, y2.1, y3.1, ()), y3.2.1, ())
@[reducible] def sig (n : Nat) : Sig := ⟨[], [], false, fun _ => none, some ⟨tRecWorld, [(.int .i64)], [(.int .i64)], f n⟩⟩
def T (n : Nat) : FuncId → Option Sig := fun g => if Nat.beq g 16 = true then some (laws_markRecorderS.sig n) else if Nat.beq g 17 = true then some (laws_markRecMessageS.sig n) else if Nat.beq g 18 = true then some (laws_markRecFixS.sig n) else none
def TL (n : Nat) : Loops := fun j _ st k => none
theorem con (n : Nat) : Con Try.prog 7 (sig n) :=
  con_printW (T := T n) (TL := TL n) (c := Try.f7.body.getD .skip) (js := []) hMixed (conT_cons (laws_markRecorderS.con n) (conT_cons (laws_markRecMessageS.con n) (conT_cons (laws_markRecFixS.con n) conT_none))) Try.func7 (by decide) (by kernel_rfl) (by kernel_rfl) (by decide) LoopDef.nil (fun x q => by kernel_rfl)
end laws_markRecWorld
namespace laws_heldRecSlotS
@[reducible] def l2 : LSpec := ⟨[(0, .d (.slice tRecSlot)), (1, .d (.int .i64)), (5, .d (.int .i64))], [(.ret, [(4, .d (.int .i64))]), (.exit 0, [(1, .d (.int .i64))])]⟩
def B2 (n : Nat) {R : Type} (next : Sden l2.inS → Option R) (cs : Conts R l2.outs) (x : Sden l2.inS) : Option R :=
  if (decide (x.2.2.1 < (List.length x.1 : Int))) = true then
    if (decide (0 ≤ x.2.2.1 ∧ x.2.2.1 < (List.length x.1 : Int))) = true then
      if ((List.getD x.1 (Int.toNat x.2.2.1) (Ty.zero tRecSlot)).1 != x.2.1) = true then
        cs.1 ((-1 : Int), ())
      else if (!true || (decide (0 ≤ x.2.2.1 ∧ x.2.2.1 < (List.length x.1 : Int)))) = true then
        (if true = true then (laws_markText.f n ((IntKind.i64.wrap (x.2.1 + (1 : Int))), ())) else some (tzero [.str])).bind fun y1 =>
        if (!seq (List.getD x.1 (Int.toNat x.2.2.1) (Ty.zero tRecSlot)).2.1 y1.1) = true then
          cs.1 ((-1 : Int), ())
        else
          next (x.1, (IntKind.i64.wrap ((IntKind.i64.wrap (x.2.1 + (1 : Int))) + (1 : Int))), (IntKind.i64.wrap (x.2.2.1 + (1 : Int))), ())
      else
        none
    else
      none
  else
    cs.2.1 (x.2.1, ())
def f (n : Nat) (x : Tup [(.slice tRecSlot), (.int .i64)]) : Option (Tup [(.int .i64)]) :=
  runL (B2 n) ((fun z2 =>
      some (z2.1, ())), (fun z3 =>
      some (z3.1, ())), ()) n (x.1, x.2.1, (0 : Int), ())
@[reducible] def sig (n : Nat) : Sig := ⟨[(.slice tRecSlot), (.int .i64)], [(.int .i64)], false, f n, none⟩
def T (n : Nat) : FuncId → Option Sig := fun g => if Nat.beq g 29 = true then some (laws_markText.sig n) else none
def TL (n : Nat) : Loops := fun j _ st k => if Nat.beq j 2 = true then (match dec st l2.inS [] with | some x => runL (B2 n) (contsOf k l2.outs) n x | none => none) else none
theorem d2 (n : Nat) : LoopDef Try.prog (T n) (TL n) Try.f30 2 :=
  ⟨l2, fun R => B2 n, n, fun R st k => by kernel_rfl, fun R next cs x => by kernel_rfl⟩
theorem con (n : Nat) : Con Try.prog 30 (sig n) :=
  con_print (hsw := rfl) (T := T n) (TL := TL n) (c := Try.f30.body.getD .skip) (js := [2]) hMixed (conT_cons (laws_markText.con n) conT_none) Try.func30 (by decide) (by kernel_rfl) (by kernel_rfl) (by decide) (LoopDef.cons (d2 n) LoopDef.nil) (fun x => by kernel_rfl)
end laws_heldRecSlotS
namespace laws_heldRecMessageS
@[reducible] def l2 : LSpec := ⟨[(0, .d (.slice tRecMessage)), (1, .d (.int .i64)), (5, .d (.int .i64))], [(.ret, [(4, .d (.int .i64))]), (.exit 0, [(1, .d (.int .i64))])]⟩
def B2 (n : Nat) {R : Type} (next : Sden l2.inS → Option R) (cs : Conts R l2.outs) (x : Sden l2.inS) : Option R :=
  if (decide (x.2.2.1 < (List.length x.1 : Int))) = true then
    if (decide (0 ≤ x.2.2.1 ∧ x.2.2.1 < (List.length x.1 : Int))) = true then
      if ((List.getD x.1 (Int.toNat x.2.2.1) (Ty.zero tRecMessage)).1 != x.2.1) = true then
        cs.1 ((-1 : Int), ())
      else if (decide (0 ≤ x.2.2.1 ∧ x.2.2.1 < (List.length x.1 : Int))) = true then
        if ((List.getD x.1 (Int.toNat x.2.2.1) (Ty.zero tRecMessage)).2.1 != (IntKind.i64.wrap (x.2.1 + (1 : Int)))) = true then
          cs.1 ((-1 : Int), ())
        else if (decide (0 ≤ x.2.2.1 ∧ x.2.2.1 < (List.length x.1 : Int))) = true then
          if ((List.getD x.1 (Int.toNat x.2.2.1) (Ty.zero tRecMessage)).2.2.1 != (IntKind.i64.wrap ((IntKind.i64.wrap (x.2.1 + (1 : Int))) + (1 : Int)))) = true then
            cs.1 ((-1 : Int), ())
          else if (decide (0 ≤ x.2.2.1 ∧ x.2.2.1 < (List.length x.1 : Int))) = true then
            if ((List.getD x.1 (Int.toNat x.2.2.1) (Ty.zero tRecMessage)).2.2.2.1 != (IntKind.i64.wrap ((IntKind.i64.wrap ((IntKind.i64.wrap (x.2.1 + (1 : Int))) + (1 : Int))) + (1 : Int)))) = true then
              cs.1 ((-1 : Int), ())
            else if (decide (0 ≤ x.2.2.1 ∧ x.2.2.1 < (List.length x.1 : Int))) = true then
              if ((List.getD x.1 (Int.toNat x.2.2.1) (Ty.zero tRecMessage)).2.2.2.2.1 != (IntKind.i64.wrap ((IntKind.i64.wrap ((IntKind.i64.wrap ((IntKind.i64.wrap (x.2.1 + (1 : Int))) + (1 : Int))) + (1 : Int))) + (1 : Int)))) = true then
                cs.1 ((-1 : Int), ())
              else if (decide (0 ≤ x.2.2.1 ∧ x.2.2.1 < (List.length x.1 : Int))) = true then
                if ((List.getD x.1 (Int.toNat x.2.2.1) (Ty.zero tRecMessage)).2.2.2.2.2.1 != (IntKind.i64.wrap ((IntKind.i64.wrap ((IntKind.i64.wrap ((IntKind.i64.wrap ((IntKind.i64.wrap (x.2.1 + (1 : Int))) + (1 : Int))) + (1 : Int))) + (1 : Int))) + (1 : Int)))) = true then
                  cs.1 ((-1 : Int), ())
                else if (!true || (decide (0 ≤ x.2.2.1 ∧ x.2.2.1 < (List.length x.1 : Int)))) = true then
                  (if true = true then (laws_markText.f n ((IntKind.i64.wrap ((IntKind.i64.wrap ((IntKind.i64.wrap ((IntKind.i64.wrap ((IntKind.i64.wrap ((IntKind.i64.wrap (x.2.1 + (1 : Int))) + (1 : Int))) + (1 : Int))) + (1 : Int))) + (1 : Int))) + (1 : Int))), ())) else some (tzero [.str])).bind fun y1 =>
                  if (!seq (List.getD x.1 (Int.toNat x.2.2.1) (Ty.zero tRecMessage)).2.2.2.2.2.2.1 y1.1) = true then
                    cs.1 ((-1 : Int), ())
                  else if (decide (0 ≤ x.2.2.1 ∧ x.2.2.1 < (List.length x.1 : Int))) = true then
                    (laws_heldRecSlotS.f n ((List.getD x.1 (Int.toNat x.2.2.1) (Ty.zero tRecMessage)).2.2.2.2.2.2.2.1, (IntKind.i64.wrap ((IntKind.i64.wrap ((IntKind.i64.wrap ((IntKind.i64.wrap ((IntKind.i64.wrap ((IntKind.i64.wrap ((IntKind.i64.wrap (x.2.1 + (1 : Int))) + (1 : Int))) + (1 : Int))) + (1 : Int))) + (1 : Int))) + (1 : Int))) + (1 : Int))), ())).bind fun y2 =>
                    if (decide (y2.1 < (0 : Int))) = true then
                      cs.1 ((-1 : Int), ())
                    else
                      next (x.1, y2.1, (IntKind.i64.wrap (x.2.2.1 + (1 : Int))), ())
                  else
                    none
                else
                  none
              else
                none
            else
              none
          else
            none
        else
          none
      else
        none
    else
      none
  else
    cs.2.1 (x.2.1, ())
def f (n : Nat) (x : Tup [(.slice tRecMessage), (.int .i64)]) : Option (Tup [(.int .i64)]) :=
  runL (B2 n) ((fun z3 =>
      some (z3.1, ())), (fun z4 =>
      some (z4.1, ())), ()) n (x.1, x.2.1, (0 : Int), ())
@[reducible] def sig (n : Nat) : Sig := ⟨[(.slice tRecMessage), (.int .i64)], [(.int .i64)], false, f n, none⟩
def T (n : Nat) : FuncId → Option Sig := fun g => if Nat.beq g 29 = true then some (laws_markText.sig n) else if Nat.beq g 30 = true then some (laws_heldRecSlotS.sig n) else none
def TL (n : Nat) : Loops := fun j _ st k => if Nat.beq j 2 = true then (match dec st l2.inS [] with | some x => runL (B2 n) (contsOf k l2.outs) n x | none => none) else none
theorem d2 (n : Nat) : LoopDef Try.prog (T n) (TL n) Try.f20 2 :=
  ⟨l2, fun R => B2 n, n, fun R st k => by kernel_rfl, fun R next cs x => by kernel_rfl⟩
theorem con (n : Nat) : Con Try.prog 20 (sig n) :=
  con_print (hsw := rfl) (T := T n) (TL := TL n) (c := Try.f20.body.getD .skip) (js := [2]) hMixed (conT_cons (laws_markText.con n) (conT_cons (laws_heldRecSlotS.con n) conT_none)) Try.func20 (by decide) (by kernel_rfl) (by kernel_rfl) (by decide) (LoopDef.cons (d2 n) LoopDef.nil) (fun x => by kernel_rfl)
end laws_heldRecMessageS
namespace laws_heldStringS
@[reducible] def l2 : LSpec := ⟨[(0, .d (.slice .str)), (1, .d (.int .i64)), (5, .d (.int .i64))], [(.ret, [(4, .d (.int .i64))]), (.exit 0, [(1, .d (.int .i64))])]⟩
def B2 (n : Nat) {R : Type} (next : Sden l2.inS → Option R) (cs : Conts R l2.outs) (x : Sden l2.inS) : Option R :=
  if (decide (x.2.2.1 < (List.length x.1 : Int))) = true then
    if (!true || (decide (0 ≤ x.2.2.1 ∧ x.2.2.1 < (List.length x.1 : Int)))) = true then
      (if true = true then (laws_markText.f n (x.2.1, ())) else some (tzero [.str])).bind fun y1 =>
      if (!seq (List.getD x.1 (Int.toNat x.2.2.1) (⟨#[]⟩ : ByteArray)) y1.1) = true then
        cs.1 ((-1 : Int), ())
      else
        next (x.1, (IntKind.i64.wrap (x.2.1 + (1 : Int))), (IntKind.i64.wrap (x.2.2.1 + (1 : Int))), ())
    else
      none
  else
    cs.2.1 (x.2.1, ())
def f (n : Nat) (x : Tup [(.slice .str), (.int .i64)]) : Option (Tup [(.int .i64)]) :=
  runL (B2 n) ((fun z2 =>
      some (z2.1, ())), (fun z3 =>
      some (z3.1, ())), ()) n (x.1, x.2.1, (0 : Int), ())
@[reducible] def sig (n : Nat) : Sig := ⟨[(.slice .str), (.int .i64)], [(.int .i64)], false, f n, none⟩
def T (n : Nat) : FuncId → Option Sig := fun g => if Nat.beq g 29 = true then some (laws_markText.sig n) else none
def TL (n : Nat) : Loops := fun j _ st k => if Nat.beq j 2 = true then (match dec st l2.inS [] with | some x => runL (B2 n) (contsOf k l2.outs) n x | none => none) else none
theorem d2 (n : Nat) : LoopDef Try.prog (T n) (TL n) Try.f31 2 :=
  ⟨l2, fun R => B2 n, n, fun R st k => by kernel_rfl, fun R next cs x => by kernel_rfl⟩
theorem con (n : Nat) : Con Try.prog 31 (sig n) :=
  con_print (hsw := rfl) (T := T n) (TL := TL n) (c := Try.f31.body.getD .skip) (js := [2]) hMixed (conT_cons (laws_markText.con n) conT_none) Try.func31 (by decide) (by kernel_rfl) (by kernel_rfl) (by decide) (LoopDef.cons (d2 n) LoopDef.nil) (fun x => by kernel_rfl)
end laws_heldStringS
namespace laws_heldIntS
@[reducible] def l2 : LSpec := ⟨[(0, .d (.slice (.int .i64))), (1, .d (.int .i64)), (5, .d (.int .i64))], [(.ret, [(4, .d (.int .i64))]), (.exit 0, [(1, .d (.int .i64))])]⟩
def B2 (n : Nat) {R : Type} (next : Sden l2.inS → Option R) (cs : Conts R l2.outs) (x : Sden l2.inS) : Option R :=
  if (decide (x.2.2.1 < (List.length x.1 : Int))) = true then
    if (decide (0 ≤ x.2.2.1 ∧ x.2.2.1 < (List.length x.1 : Int))) = true then
      if ((List.getD x.1 (Int.toNat x.2.2.1) (0 : Int)) != x.2.1) = true then
        cs.1 ((-1 : Int), ())
      else
        next (x.1, (IntKind.i64.wrap (x.2.1 + (1 : Int))), (IntKind.i64.wrap (x.2.2.1 + (1 : Int))), ())
    else
      none
  else
    cs.2.1 (x.2.1, ())
def f (n : Nat) (x : Tup [(.slice (.int .i64)), (.int .i64)]) : Option (Tup [(.int .i64)]) :=
  runL (B2 n) ((fun z1 =>
      some (z1.1, ())), (fun z2 =>
      some (z2.1, ())), ()) n (x.1, x.2.1, (0 : Int), ())
@[reducible] def sig (n : Nat) : Sig := ⟨[(.slice (.int .i64)), (.int .i64)], [(.int .i64)], false, f n, none⟩
def T (n : Nat) : FuncId → Option Sig := fun g => none
def TL (n : Nat) : Loops := fun j _ st k => if Nat.beq j 2 = true then (match dec st l2.inS [] with | some x => runL (B2 n) (contsOf k l2.outs) n x | none => none) else none
theorem d2 (n : Nat) : LoopDef Try.prog (T n) (TL n) Try.f32 2 :=
  ⟨l2, fun R => B2 n, n, fun R st k => by kernel_rfl, fun R next cs x => by kernel_rfl⟩
theorem con (n : Nat) : Con Try.prog 32 (sig n) :=
  con_print (hsw := rfl) (T := T n) (TL := TL n) (c := Try.f32.body.getD .skip) (js := [2]) hMixed conT_none Try.func32 (by decide) (by kernel_rfl) (by kernel_rfl) (by decide) (LoopDef.cons (d2 n) LoopDef.nil) (fun x => by kernel_rfl)
end laws_heldIntS
namespace laws_heldRecAckS
@[reducible] def l2 : LSpec := ⟨[(0, .d (.slice tRecAck)), (1, .d (.int .i64)), (5, .d (.int .i64))], [(.ret, [(4, .d (.int .i64))]), (.exit 0, [(1, .d (.int .i64))])]⟩
def B2 (n : Nat) {R : Type} (next : Sden l2.inS → Option R) (cs : Conts R l2.outs) (x : Sden l2.inS) : Option R :=
  if (decide (x.2.2.1 < (List.length x.1 : Int))) = true then
    if (decide (0 ≤ x.2.2.1 ∧ x.2.2.1 < (List.length x.1 : Int))) = true then
      if ((List.getD x.1 (Int.toNat x.2.2.1) (Ty.zero tRecAck)).1 != x.2.1) = true then
        cs.1 ((-1 : Int), ())
      else if (decide (0 ≤ x.2.2.1 ∧ x.2.2.1 < (List.length x.1 : Int))) = true then
        (laws_heldIntS.f n ((List.getD x.1 (Int.toNat x.2.2.1) (Ty.zero tRecAck)).2.1, (IntKind.i64.wrap (x.2.1 + (1 : Int))), ())).bind fun y1 =>
        if (decide (y1.1 < (0 : Int))) = true then
          cs.1 ((-1 : Int), ())
        else
          next (x.1, y1.1, (IntKind.i64.wrap (x.2.2.1 + (1 : Int))), ())
      else
        none
    else
      none
  else
    cs.2.1 (x.2.1, ())
def f (n : Nat) (x : Tup [(.slice tRecAck), (.int .i64)]) : Option (Tup [(.int .i64)]) :=
  runL (B2 n) ((fun z2 =>
      some (z2.1, ())), (fun z3 =>
      some (z3.1, ())), ()) n (x.1, x.2.1, (0 : Int), ())
@[reducible] def sig (n : Nat) : Sig := ⟨[(.slice tRecAck), (.int .i64)], [(.int .i64)], false, f n, none⟩
def T (n : Nat) : FuncId → Option Sig := fun g => if Nat.beq g 32 = true then some (laws_heldIntS.sig n) else none
def TL (n : Nat) : Loops := fun j _ st k => if Nat.beq j 2 = true then (match dec st l2.inS [] with | some x => runL (B2 n) (contsOf k l2.outs) n x | none => none) else none
theorem d2 (n : Nat) : LoopDef Try.prog (T n) (TL n) Try.f33 2 :=
  ⟨l2, fun R => B2 n, n, fun R st k => by kernel_rfl, fun R next cs x => by kernel_rfl⟩
theorem con (n : Nat) : Con Try.prog 33 (sig n) :=
  con_print (hsw := rfl) (T := T n) (TL := TL n) (c := Try.f33.body.getD .skip) (js := [2]) hMixed (conT_cons (laws_heldIntS.con n) conT_none) Try.func33 (by decide) (by kernel_rfl) (by kernel_rfl) (by decide) (LoopDef.cons (d2 n) LoopDef.nil) (fun x => by kernel_rfl)
end laws_heldRecAckS
namespace laws_heldRecorderS
@[reducible] def l2 : LSpec := ⟨[(0, .d (.slice tRecorder)), (1, .d (.int .i64)), (5, .d (.int .i64))], [(.ret, [(4, .d (.int .i64))]), (.exit 0, [(1, .d (.int .i64))])]⟩
def B2 (n : Nat) {R : Type} (next : Sden l2.inS → Option R) (cs : Conts R l2.outs) (x : Sden l2.inS) : Option R :=
  if (decide (x.2.2.1 < (List.length x.1 : Int))) = true then
    if (decide (0 ≤ x.2.2.1 ∧ x.2.2.1 < (List.length x.1 : Int))) = true then
      if ((List.getD x.1 (Int.toNat x.2.2.1) (Ty.zero tRecorder)).1 != x.2.1) = true then
        cs.1 ((-1 : Int), ())
      else if (decide (0 ≤ x.2.2.1 ∧ x.2.2.1 < (List.length x.1 : Int))) = true then
        if ((List.getD x.1 (Int.toNat x.2.2.1) (Ty.zero tRecorder)).2.1 != (IntKind.i64.wrap (x.2.1 + (1 : Int)))) = true then
          cs.1 ((-1 : Int), ())
        else if (decide (0 ≤ x.2.2.1 ∧ x.2.2.1 < (List.length x.1 : Int))) = true then
          if ((3 : Int) != 0) = true then
            if (!((List.getD x.1 (Int.toNat x.2.2.1) (Ty.zero tRecorder)).2.2.1 == ((Int.tmod (IntKind.i64.wrap ((IntKind.i64.wrap (x.2.1 + (1 : Int))) + (1 : Int))) (3 : Int)) == (0 : Int)))) = true then
              cs.1 ((-1 : Int), ())
            else if (decide (0 ≤ x.2.2.1 ∧ x.2.2.1 < (List.length x.1 : Int))) = true then
              if ((List.getD x.1 (Int.toNat x.2.2.1) (Ty.zero tRecorder)).2.2.2.1.1 != (IntKind.i64.wrap ((IntKind.i64.wrap ((IntKind.i64.wrap (x.2.1 + (1 : Int))) + (1 : Int))) + (1 : Int)))) = true then
                cs.1 ((-1 : Int), ())
              else if (decide (0 ≤ x.2.2.1 ∧ x.2.2.1 < (List.length x.1 : Int))) = true then
                if ((List.getD x.1 (Int.toNat x.2.2.1) (Ty.zero tRecorder)).2.2.2.1.2.1 != (IntKind.i64.wrap ((IntKind.i64.wrap ((IntKind.i64.wrap ((IntKind.i64.wrap (x.2.1 + (1 : Int))) + (1 : Int))) + (1 : Int))) + (1 : Int)))) = true then
                  cs.1 ((-1 : Int), ())
                else if (decide (0 ≤ x.2.2.1 ∧ x.2.2.1 < (List.length x.1 : Int))) = true then
                  (laws_heldRecSlotS.f n ((List.getD x.1 (Int.toNat x.2.2.1) (Ty.zero tRecorder)).2.2.2.1.2.2.1, (IntKind.i64.wrap ((IntKind.i64.wrap ((IntKind.i64.wrap ((IntKind.i64.wrap ((IntKind.i64.wrap (x.2.1 + (1 : Int))) + (1 : Int))) + (1 : Int))) + (1 : Int))) + (1 : Int))), ())).bind fun y1 =>
                  if (decide (y1.1 < (0 : Int))) = true then
                    cs.1 ((-1 : Int), ())
                  else if (decide (0 ≤ x.2.2.1 ∧ x.2.2.1 < (List.length x.1 : Int))) = true then
                    if ((List.getD x.1 (Int.toNat x.2.2.1) (Ty.zero tRecorder)).2.2.2.2.1.1 != y1.1) = true then
                      cs.1 ((-1 : Int), ())
                    else if (decide (0 ≤ x.2.2.1 ∧ x.2.2.1 < (List.length x.1 : Int))) = true then
                      if ((List.getD x.1 (Int.toNat x.2.2.1) (Ty.zero tRecorder)).2.2.2.2.1.2.1 != (IntKind.i64.wrap (y1.1 + (1 : Int)))) = true then
                        cs.1 ((-1 : Int), ())
                      else if (decide (0 ≤ x.2.2.1 ∧ x.2.2.1 < (List.length x.1 : Int))) = true then
                        (laws_heldRecSlotS.f n ((List.getD x.1 (Int.toNat x.2.2.1) (Ty.zero tRecorder)).2.2.2.2.1.2.2.1, (IntKind.i64.wrap ((IntKind.i64.wrap (y1.1 + (1 : Int))) + (1 : Int))), ())).bind fun y2 =>
                        if (decide (y2.1 < (0 : Int))) = true then
                          cs.1 ((-1 : Int), ())
                        else if (decide (0 ≤ x.2.2.1 ∧ x.2.2.1 < (List.length x.1 : Int))) = true then
                          (laws_heldRecMessageS.f n ((List.getD x.1 (Int.toNat x.2.2.1) (Ty.zero tRecorder)).2.2.2.2.2.1, y2.1, ())).bind fun y3 =>
                          if (decide (y3.1 < (0 : Int))) = true then
                            cs.1 ((-1 : Int), ())
                          else if (decide (0 ≤ x.2.2.1 ∧ x.2.2.1 < (List.length x.1 : Int))) = true then
                            (laws_heldStringS.f n ((List.getD x.1 (Int.toNat x.2.2.1) (Ty.zero tRecorder)).2.2.2.2.2.2.1, y3.1, ())).bind fun y4 =>
                            if (decide (y4.1 < (0 : Int))) = true then
                              cs.1 ((-1 : Int), ())
                            else if (decide (0 ≤ x.2.2.1 ∧ x.2.2.1 < (List.length x.1 : Int))) = true then
                              if ((3 : Int) != 0) = true then
                                if (!((List.getD x.1 (Int.toNat x.2.2.1) (Ty.zero tRecorder)).2.2.2.2.2.2.2.1 == ((Int.tmod y4.1 (3 : Int)) == (0 : Int)))) = true then
                                  cs.1 ((-1 : Int), ())
                                else if (decide (0 ≤ x.2.2.1 ∧ x.2.2.1 < (List.length x.1 : Int))) = true then
                                  if ((3 : Int) != 0) = true then
                                    if (!((List.getD x.1 (Int.toNat x.2.2.1) (Ty.zero tRecorder)).2.2.2.2.2.2.2.2.1 == ((Int.tmod (IntKind.i64.wrap (y4.1 + (1 : Int))) (3 : Int)) == (0 : Int)))) = true then
                                      cs.1 ((-1 : Int), ())
                                    else if (decide (0 ≤ x.2.2.1 ∧ x.2.2.1 < (List.length x.1 : Int))) = true then
                                      if ((List.getD x.1 (Int.toNat x.2.2.1) (Ty.zero tRecorder)).2.2.2.2.2.2.2.2.2.1 != (IntKind.i64.wrap ((IntKind.i64.wrap (y4.1 + (1 : Int))) + (1 : Int)))) = true then
                                        cs.1 ((-1 : Int), ())
                                      else if (decide (0 ≤ x.2.2.1 ∧ x.2.2.1 < (List.length x.1 : Int))) = true then
                                        (laws_heldIntS.f n ((List.getD x.1 (Int.toNat x.2.2.1) (Ty.zero tRecorder)).2.2.2.2.2.2.2.2.2.2.1, (IntKind.i64.wrap ((IntKind.i64.wrap ((IntKind.i64.wrap (y4.1 + (1 : Int))) + (1 : Int))) + (1 : Int))), ())).bind fun y5 =>
                                        if (decide (y5.1 < (0 : Int))) = true then
                                          cs.1 ((-1 : Int), ())
                                        else if (decide (0 ≤ x.2.2.1 ∧ x.2.2.1 < (List.length x.1 : Int))) = true then
                                          (laws_heldRecSlotS.f n ((List.getD x.1 (Int.toNat x.2.2.1) (Ty.zero tRecorder)).2.2.2.2.2.2.2.2.2.2.2.1, y5.1, ())).bind fun y6 =>
                                          if (decide (y6.1 < (0 : Int))) = true then
                                            cs.1 ((-1 : Int), ())
                                          else if (decide (0 ≤ x.2.2.1 ∧ x.2.2.1 < (List.length x.1 : Int))) = true then
                                            (laws_heldRecAckS.f n ((List.getD x.1 (Int.toNat x.2.2.1) (Ty.zero tRecorder)).2.2.2.2.2.2.2.2.2.2.2.2.1, y6.1, ())).bind fun y7 =>
                                            if (decide (y7.1 < (0 : Int))) = true then
                                              cs.1 ((-1 : Int), ())
                                            else if (decide (0 ≤ x.2.2.1 ∧ x.2.2.1 < (List.length x.1 : Int))) = true then
                                              if ((List.getD x.1 (Int.toNat x.2.2.1) (Ty.zero tRecorder)).2.2.2.2.2.2.2.2.2.2.2.2.2.1 != y7.1) = true then
                                                cs.1 ((-1 : Int), ())
                                              else
                                                next (x.1, (IntKind.i64.wrap (y7.1 + (1 : Int))), (IntKind.i64.wrap (x.2.2.1 + (1 : Int))), ())
                                            else
                                              none
                                          else
                                            none
                                        else
                                          none
                                      else
                                        none
                                    else
                                      none
                                  else
                                    none
                                else
                                  none
                              else
                                none
                            else
                              none
                          else
                            none
                        else
                          none
                      else
                        none
                    else
                      none
                  else
                    none
                else
                  none
              else
                none
            else
              none
          else
            none
        else
          none
      else
        none
    else
      none
  else
    cs.2.1 (x.2.1, ())
def f (n : Nat) (x : Tup [(.slice tRecorder), (.int .i64)]) : Option (Tup [(.int .i64)]) :=
  runL (B2 n) ((fun z8 =>
      some (z8.1, ())), (fun z9 =>
      some (z9.1, ())), ()) n (x.1, x.2.1, (0 : Int), ())
@[reducible] def sig (n : Nat) : Sig := ⟨[(.slice tRecorder), (.int .i64)], [(.int .i64)], false, f n, none⟩
def T (n : Nat) : FuncId → Option Sig := fun g => if Nat.beq g 20 = true then some (laws_heldRecMessageS.sig n) else if Nat.beq g 30 = true then some (laws_heldRecSlotS.sig n) else if Nat.beq g 31 = true then some (laws_heldStringS.sig n) else if Nat.beq g 32 = true then some (laws_heldIntS.sig n) else if Nat.beq g 33 = true then some (laws_heldRecAckS.sig n) else none
def TL (n : Nat) : Loops := fun j _ st k => if Nat.beq j 2 = true then (match dec st l2.inS [] with | some x => runL (B2 n) (contsOf k l2.outs) n x | none => none) else none
theorem d2 (n : Nat) : LoopDef Try.prog (T n) (TL n) Try.f19 2 :=
  ⟨l2, fun R => B2 n, n, fun R st k => by kernel_rfl, fun R next cs x => by kernel_rfl⟩
theorem con (n : Nat) : Con Try.prog 19 (sig n) :=
  con_print (hsw := rfl) (T := T n) (TL := TL n) (c := Try.f19.body.getD .skip) (js := [2]) hMixed (conT_cons (laws_heldRecMessageS.con n) (conT_cons (laws_heldRecSlotS.con n) (conT_cons (laws_heldStringS.con n) (conT_cons (laws_heldIntS.con n) (conT_cons (laws_heldRecAckS.con n) conT_none))))) Try.func19 (by decide) (by kernel_rfl) (by kernel_rfl) (by decide) (LoopDef.cons (d2 n) LoopDef.nil) (fun x => by kernel_rfl)
end laws_heldRecorderS
namespace laws_heldRecFixS
@[reducible] def l2 : LSpec := ⟨[(0, .d (.slice tRecSlot)), (1, .d (.int .i64)), (5, .d (.int .i64))], [(.ret, [(4, .d (.int .i64))]), (.exit 0, [(1, .d (.int .i64))])]⟩
def B2 (n : Nat) {R : Type} (next : Sden l2.inS → Option R) (cs : Conts R l2.outs) (x : Sden l2.inS) : Option R :=
  if (decide (x.2.2.1 < (List.length x.1 : Int))) = true then
    if (decide (0 ≤ x.2.2.1 ∧ x.2.2.1 < (List.length x.1 : Int))) = true then
      if ((List.getD x.1 (Int.toNat x.2.2.1) (Ty.zero tRecSlot)).1 != x.2.1) = true then
        cs.1 ((-1 : Int), ())
      else if (!true || (decide (0 ≤ x.2.2.1 ∧ x.2.2.1 < (List.length x.1 : Int)))) = true then
        (if true = true then (laws_markText.f n ((IntKind.i64.wrap (x.2.1 + (1 : Int))), ())) else some (tzero [.str])).bind fun y1 =>
        if (!seq (List.getD x.1 (Int.toNat x.2.2.1) (Ty.zero tRecSlot)).2.1 y1.1) = true then
          cs.1 ((-1 : Int), ())
        else
          next (x.1, (IntKind.i64.wrap ((IntKind.i64.wrap (x.2.1 + (1 : Int))) + (1 : Int))), (IntKind.i64.wrap (x.2.2.1 + (1 : Int))), ())
      else
        none
    else
      none
  else
    cs.2.1 (x.2.1, ())
def f (n : Nat) (x : Tup [(.slice tRecSlot), (.int .i64)]) : Option (Tup [(.int .i64)]) :=
  runL (B2 n) ((fun z2 =>
      some (z2.1, ())), (fun z3 =>
      some (z3.1, ())), ()) n (x.1, x.2.1, (0 : Int), ())
@[reducible] def sig (n : Nat) : Sig := ⟨[(.slice tRecSlot), (.int .i64)], [(.int .i64)], false, f n, none⟩
def T (n : Nat) : FuncId → Option Sig := fun g => if Nat.beq g 29 = true then some (laws_markText.sig n) else none
def TL (n : Nat) : Loops := fun j _ st k => if Nat.beq j 2 = true then (match dec st l2.inS [] with | some x => runL (B2 n) (contsOf k l2.outs) n x | none => none) else none
theorem d2 (n : Nat) : LoopDef Try.prog (T n) (TL n) Try.f21 2 :=
  ⟨l2, fun R => B2 n, n, fun R st k => by kernel_rfl, fun R next cs x => by kernel_rfl⟩
theorem con (n : Nat) : Con Try.prog 21 (sig n) :=
  con_print (hsw := rfl) (T := T n) (TL := TL n) (c := Try.f21.body.getD .skip) (js := [2]) hMixed (conT_cons (laws_markText.con n) conT_none) Try.func21 (by decide) (by kernel_rfl) (by kernel_rfl) (by decide) (LoopDef.cons (d2 n) LoopDef.nil) (fun x => by kernel_rfl)
end laws_heldRecFixS
namespace laws_heldRecWorld
def f (n : Nat) (x : Tup [tRecWorld, (.int .i64)]) : Option (Tup [(.int .i64)]) :=
  (laws_heldRecorderS.f n (x.1.1, x.2.1, ())).bind fun y1 =>
  if (decide (y1.1 < (0 : Int))) = true then
    some ((-1 : Int), ())
  else
    (laws_heldRecMessageS.f n (x.1.2.1, y1.1, ())).bind fun y2 =>
    if (decide (y2.1 < (0 : Int))) = true then
      some ((-1 : Int), ())
    else
      (laws_heldRecFixS.f n (x.1.2.2.1, y2.1, ())).bind fun y3 =>
      if (decide (y3.1 < (0 : Int))) = true then
        some ((-1 : Int), ())
      else
        some (y3.1, ())
@[reducible] def sig (n : Nat) : Sig := ⟨[tRecWorld, (.int .i64)], [(.int .i64)], false, f n, none⟩
def T (n : Nat) : FuncId → Option Sig := fun g => if Nat.beq g 19 = true then some (laws_heldRecorderS.sig n) else if Nat.beq g 20 = true then some (laws_heldRecMessageS.sig n) else if Nat.beq g 21 = true then some (laws_heldRecFixS.sig n) else none
def TL (n : Nat) : Loops := fun j _ st k => none
theorem con (n : Nat) : Con Try.prog 8 (sig n) :=
  con_print (hsw := rfl) (T := T n) (TL := TL n) (c := Try.f8.body.getD .skip) (js := []) hMixed (conT_cons (laws_heldRecorderS.con n) (conT_cons (laws_heldRecMessageS.con n) (conT_cons (laws_heldRecFixS.con n) conT_none))) Try.func8 (by decide) (by kernel_rfl) (by kernel_rfl) (by decide) LoopDef.nil (fun x => by kernel_rfl)
end laws_heldRecWorld
namespace laws_FnExactRecNewWorld
def f (n : Nat) (x : Tup [(.int .i64)]) : Option (Tup [.bool]) :=
  (spec_RecNewWorld.f n (x.1, ())).bind fun y1 =>
  (impl_RecNewWorld.f n (x.1, ())).bind fun y2 =>
  (laws_eqRecWorld.f n (y2.1, y1.1, ())).bind fun y3 =>
  if (!y3.1) = true then
    some (false, ())
  else
    (laws_markRecWorld.f n y2.1 ((1 : Int), ())).bind fun y4 =>
    (laws_heldRecWorld.f n (y4.1, (1 : Int), ())).bind fun y5 =>
    if (decide (y5.1 < (0 : Int))) = true then
      some (false, ())
    else if (y5.1 != y4.2.1) = true then
      some (false, ())
    else
      (impl_RecNewWorld.f n (x.1, ())).bind fun y6 =>
      (laws_eqRecWorld.f n (y6.1, y1.1, ())).bind fun y7 =>
      if (!y7.1) = true then
        some (false, ())
      else
        (laws_heldRecWorld.f n (y4.1, (1 : Int), ())).bind fun y8 =>
        if (decide (y8.1 < (0 : Int))) = true then
          some (false, ())
        else if (y8.1 != y4.2.1) = true then
          some (false, ())
        else
          some (true, ())
@[reducible] def sig (n : Nat) : Sig := ⟨[(.int .i64)], [.bool], false, f n, none⟩
def T (n : Nat) : FuncId → Option Sig := fun g => if Nat.beq g 4 = true then some (spec_RecNewWorld.sig n) else if Nat.beq g 5 = true then some (impl_RecNewWorld.sig n) else if Nat.beq g 6 = true then some (laws_eqRecWorld.sig n) else if Nat.beq g 7 = true then some (laws_markRecWorld.sig n) else if Nat.beq g 8 = true then some (laws_heldRecWorld.sig n) else none
def TL (n : Nat) : Loops := fun j _ st k => none
theorem con (n : Nat) : Con Try.prog 3 (sig n) :=
  con_print (hsw := rfl) (T := T n) (TL := TL n) (c := Try.f3.body.getD .skip) (js := []) hMixed (conT_cons (spec_RecNewWorld.con n) (conT_cons (impl_RecNewWorld.con n) (conT_cons (laws_eqRecWorld.con n) (conT_cons (laws_markRecWorld.con n) (conT_cons (laws_heldRecWorld.con n) conT_none))))) Try.func3 (by decide) (by kernel_rfl) (by kernel_rfl) (by decide) LoopDef.nil (fun x => by kernel_rfl)
end laws_FnExactRecNewWorld
end Go.Proofs.Ytjbpccinpcpdkac
