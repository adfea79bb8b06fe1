import Derived.Test.YtemdfahilomeaadProg
import Derived.Test.YtemdfahilomeaadM2
set_option maxRecDepth 100000
set_option linter.unusedVariables false
namespace Go.Proofs.Ytemdfahilomeaad
open Go.Vm
abbrev tRecSlot : Ty := (.pair (.int .i64) (.pair .str .unit))
abbrev tRecMessage : Ty := (.pair (.int .i64) (.pair (.int .i64) (.pair (.int .i64) (.pair (.int .i64) (.pair (.int .i64) (.pair (.int .i64) (.pair .str (.pair (.slice tRecSlot) .unit))))))))
theorem hMixed : Try.prog.follows .mixedOrders = true := by kernel_rfl
namespace laws_szRecSlot
def f (n : Nat) (x : Tup [tRecSlot, (.int .i64)]) : Option (Tup [(.int .i64)]) :=
  if (decide ((IntKind.i64.wrap (x.2.1 - (ByteArray.size x.1.2.1 : Int))) < (0 : Int))) = true then
    some ((-1 : Int), ())
  else
    some ((IntKind.i64.wrap (x.2.1 - (ByteArray.size x.1.2.1 : Int))), ())
@[reducible] def sig (n : Nat) : Sig := ⟨[tRecSlot, (.int .i64)], [(.int .i64)], false, f n⟩
def T (n : Nat) : FuncId → Option Sig := fun g => none
def TL (n : Nat) : Loops := fun j _ st k => none
theorem con (n : Nat) : Con Try.prog 16 (sig n) :=
  con_print (T := T n) (TL := TL n) (c := Try.f16.body.getD .skip) (js := []) hMixed conT_none Try.func16 (by decide) (by kernel_rfl) (by kernel_rfl) (by decide) LoopDef.nil (fun x => by kernel_rfl)
end laws_szRecSlot
namespace laws_szRecSlotS
@[reducible] def l5 : LSpec := ⟨[(0, .d (.slice tRecSlot)), (1, .d (.int .i64)), (5, .d (.int .i64))], [(.ret, [(4, .d (.int .i64))]), (.exit 0, [(1, .d (.int .i64))])]⟩
def B5 (n : Nat) {R : Type} (next : Sden l5.inS → Option R) (cs : Conts R l5.outs) (x : Sden l5.inS) : Option R :=
  if (decide (x.2.2.1 < (List.length x.1 : Int))) = true then
    if (decide (0 ≤ x.2.2.1 ∧ x.2.2.1 < (List.length x.1 : Int))) = true then
      (laws_szRecSlot.f n ((List.getD x.1 (Int.toNat x.2.2.1) (Ty.zero tRecSlot)), x.2.1, ())).bind fun y1 =>
      if (decide (y1.1 < (0 : Int))) = true then
        cs.1 ((-1 : Int), ())
      else
        next (x.1, y1.1, (IntKind.i64.wrap (x.2.2.1 + (1 : Int))), ())
    else
      none
  else
    cs.2.1 (x.2.1, ())
def f (n : Nat) (x : Tup [(.slice tRecSlot), (.int .i64)]) : Option (Tup [(.int .i64)]) :=
  if (decide ((IntKind.i64.wrap (x.2.1 - (List.length x.1 : Int))) < (0 : Int))) = true then
    some ((-1 : Int), ())
  else
    runL (B5 n) ((fun z2 =>
        some (z2.1, ())), (fun z3 =>
        some (z3.1, ())), ()) n (x.1, (IntKind.i64.wrap (x.2.1 - (List.length x.1 : Int))), (0 : Int), ())
@[reducible] def sig (n : Nat) : Sig := ⟨[(.slice tRecSlot), (.int .i64)], [(.int .i64)], false, f n⟩
def T (n : Nat) : FuncId → Option Sig := fun g => if Nat.beq g 16 = true then some (laws_szRecSlot.sig n) else none
def TL (n : Nat) : Loops := fun j _ st k => if Nat.beq j 5 = true then (match dec st l5.inS [] with | some x => runL (B5 n) (contsOf k l5.outs) n x | none => none) else none
theorem d5 (n : Nat) : LoopDef Try.prog (T n) (TL n) Try.f9 5 :=
  ⟨l5, fun R => B5 n, n, fun R st k => by kernel_rfl, fun R next cs x => by kernel_rfl⟩
theorem con (n : Nat) : Con Try.prog 9 (sig n) :=
  con_print (T := T n) (TL := TL n) (c := Try.f9.body.getD .skip) (js := [5]) hMixed (conT_cons (laws_szRecSlot.con n) conT_none) Try.func9 (by decide) (by kernel_rfl) (by kernel_rfl) (by decide) (LoopDef.cons (d5 n) LoopDef.nil) (fun x => by kernel_rfl)
end laws_szRecSlotS
namespace laws_szRecMessage
def f (n : Nat) (x : Tup [tRecMessage, (.int .i64)]) : Option (Tup [(.int .i64)]) :=
  if (decide ((IntKind.i64.wrap (x.2.1 - (ByteArray.size x.1.2.2.2.2.2.2.1 : Int))) < (0 : Int))) = true then
    some ((-1 : Int), ())
  else
    (laws_szRecSlotS.f n (x.1.2.2.2.2.2.2.2.1, (IntKind.i64.wrap (x.2.1 - (ByteArray.size x.1.2.2.2.2.2.2.1 : Int))), ())).bind fun y1 =>
    if (decide (y1.1 < (0 : Int))) = true then
      some ((-1 : Int), ())
    else
      some (y1.1, ())
@[reducible] def sig (n : Nat) : Sig := ⟨[tRecMessage, (.int .i64)], [(.int .i64)], false, f n⟩
def T (n : Nat) : FuncId → Option Sig := fun g => if Nat.beq g 9 = true then some (laws_szRecSlotS.sig n) else none
def TL (n : Nat) : Loops := fun j _ st k => none
theorem con (n : Nat) : Con Try.prog 4 (sig n) :=
  con_print (T := T n) (TL := TL n) (c := Try.f4.body.getD .skip) (js := []) hMixed (conT_cons (laws_szRecSlotS.con n) conT_none) Try.func4 (by decide) (by kernel_rfl) (by kernel_rfl) (by decide) LoopDef.nil (fun x => by kernel_rfl)
end laws_szRecMessage
namespace laws_toRecSlot
def f (n : Nat) (x : Tup [tRecSlot]) : Option (Tup [tRecSlot]) :=
  some (x.1, ())
@[reducible] def sig (n : Nat) : Sig := ⟨[tRecSlot], [tRecSlot], false, f n⟩
def T (n : Nat) : FuncId → Option Sig := fun g => none
def TL (n : Nat) : Loops := fun j _ st k => none
theorem con (n : Nat) : Con Try.prog 17 (sig n) :=
  con_print (T := T n) (TL := TL n) (c := Try.f17.body.getD .skip) (js := []) hMixed conT_none Try.func17 (by decide) (by kernel_rfl) (by kernel_rfl) (by decide) LoopDef.nil (fun x => by kernel_rfl)
end laws_toRecSlot
namespace laws_toRecSlotS
@[reducible] def l3 : LSpec := ⟨[(0, .d (.slice tRecSlot)), (3, .row true tRecSlot), (4, .d (.int .i64))], [(.exit 0, [(3, .row true tRecSlot)])]⟩
def B3 (n : Nat) {R : Type} (next : Sden l3.inS → Option R) (cs : Conts R l3.outs) (x : Sden l3.inS) : Option R :=
  if (decide (x.2.2.1 < (List.length x.1 : Int))) = true then
    if (decide (0 ≤ x.2.2.1 ∧ x.2.2.1 < (List.length x.1 : Int))) = true then
      (laws_toRecSlot.f n ((List.getD x.1 (Int.toNat x.2.2.1) (Ty.zero tRecSlot)), ())).bind fun y1 =>
      if (decide (0 ≤ x.2.2.1 ∧ x.2.2.1 < (List.length x.2.1 : Int))) = true then
        next (x.1, (List.set x.2.1 (Int.toNat x.2.2.1) y1.1), (IntKind.i64.wrap (x.2.2.1 + (1 : Int))), ())
      else
        none
    else
      none
  else
    cs.1 (x.2.1, ())
def f (n : Nat) (x : Tup [(.slice tRecSlot)]) : Option (Tup [(.slice tRecSlot)]) :=
  if (decide (0 ≤ (List.length x.1 : Int) ∧ (List.length x.1 : Int) ≤ (List.length x.1 : Int) ∧ (List.length x.1 : Int) * (24 : Int) ≤ 140737488355328)) = true then
    runL (B3 n) ((fun z2 =>
        some (z2.1, ())), ()) n (x.1, (List.replicate (Int.toNat (List.length x.1 : Int)) (Ty.zero tRecSlot)), (0 : Int), ())
  else
    none
@[reducible] def sig (n : Nat) : Sig := ⟨[(.slice tRecSlot)], [(.slice tRecSlot)], true, f n⟩
def T (n : Nat) : FuncId → Option Sig := fun g => if Nat.beq g 17 = true then some (laws_toRecSlot.sig n) else none
def TL (n : Nat) : Loops := fun j _ st k => if Nat.beq j 3 = true then (match dec st l3.inS [] with | some x => runL (B3 n) (contsOf k l3.outs) n x | none => none) else none
theorem d3 (n : Nat) : LoopDef Try.prog (T n) (TL n) Try.f12 3 :=
  ⟨l3, fun R => B3 n, n, fun R st k => by kernel_rfl, fun R next cs x => by kernel_rfl⟩
theorem con (n : Nat) : Con Try.prog 12 (sig n) :=
  con_print (T := T n) (TL := TL n) (c := Try.f12.body.getD .skip) (js := [3]) hMixed (conT_cons (laws_toRecSlot.con n) conT_none) Try.func12 (by decide) (by kernel_rfl) (by kernel_rfl) (by decide) (LoopDef.cons (d3 n) LoopDef.nil) (fun x => by kernel_rfl)
end laws_toRecSlotS
namespace laws_toRecMessage
def f (n : Nat) (x : Tup [tRecMessage]) : Option (Tup [tRecMessage]) :=
  (laws_toRecSlotS.f n (x.1.2.2.2.2.2.2.2.1, ())).bind fun y1 =>
  some ((x.1.1, x.1.2.1, x.1.2.2.1, x.1.2.2.2.1, x.1.2.2.2.2.1, x.1.2.2.2.2.2.1, x.1.2.2.2.2.2.2.1, y1), ())
@[reducible] def sig (n : Nat) : Sig := ⟨[tRecMessage], [tRecMessage], true, f n⟩
def T (n : Nat) : FuncId → Option Sig := fun g => if Nat.beq g 12 = true then some (laws_toRecSlotS.sig n) else none
def TL (n : Nat) : Loops := fun j _ st k => none
theorem con (n : Nat) : Con Try.prog 6 (sig n) :=
  con_print (T := T n) (TL := TL n) (c := Try.f6.body.getD .skip) (js := []) hMixed (conT_cons (laws_toRecSlotS.con n) conT_none) Try.func6 (by decide) (by kernel_rfl) (by kernel_rfl) (by decide) LoopDef.nil (fun x => by kernel_rfl)
end laws_toRecMessage
namespace spec_l21In
def f (n : Nat) (x : Tup [(.int .i64), (.int .i64), (.int .i64)]) : Option (Tup [.bool]) :=
  some (((decide (x.1 ≥ x.2.1)) && (decide (x.1 ≤ x.2.2.1))), ())
@[reducible] def sig (n : Nat) : Sig := ⟨[(.int .i64), (.int .i64), (.int .i64)], [.bool], false, f n⟩
def T (n : Nat) : FuncId → Option Sig := fun g => none
def TL (n : Nat) : Loops := fun j _ st k => none
theorem con (n : Nat) : Con Try.prog 10 (sig n) :=
  con_print (T := T n) (TL := TL n) (c := Try.f10.body.getD .skip) (js := []) hMixed conT_none Try.func10 (by decide) (by kernel_rfl) (by kernel_rfl) (by decide) LoopDef.nil (fun x => by kernel_rfl)
end spec_l21In
namespace spec_l21SlotsOk
@[reducible] def l4 : LSpec := ⟨[(0, .d (.slice tRecSlot)), (3, .d (.int .i64))], [(.ret, [(2, .d .bool)]), (.exit 0, [])]⟩
def B4 (n : Nat) {R : Type} (next : Sden l4.inS → Option R) (cs : Conts R l4.outs) (x : Sden l4.inS) : Option R :=
  if (decide (x.2.1 < (List.length x.1 : Int))) = true then
    if (decide (0 ≤ x.2.1 ∧ x.2.1 < (List.length x.1 : Int))) = true then
      (spec_l21In.f n ((List.getD x.1 (Int.toNat x.2.1) (Ty.zero tRecSlot)).1, (0 : Int), (1000000 : Int), ())).bind fun y1 =>
      if (!(!(!y1.1)) || (decide (0 ≤ x.2.1 ∧ x.2.1 < (List.length x.1 : Int)))) = true then
        if (!(!((!y1.1) || (decide ((ByteArray.size (List.getD x.1 (Int.toNat x.2.1) (Ty.zero tRecSlot)).2.1 : Int) > (160 : Int))))) || (decide (0 ≤ x.2.1 ∧ x.2.1 < (List.length x.1 : Int)))) = true then
          if (!((!((!y1.1) || (decide ((ByteArray.size (List.getD x.1 (Int.toNat x.2.1) (Ty.zero tRecSlot)).2.1 : Int) > (160 : Int))))) && ((List.getD x.1 (Int.toNat x.2.1) (Ty.zero tRecSlot)).1 == (0 : Int))) || (decide (0 ≤ x.2.1 ∧ x.2.1 < (List.length x.1 : Int)))) = true then
            if (((!y1.1) || (decide ((ByteArray.size (List.getD x.1 (Int.toNat x.2.1) (Ty.zero tRecSlot)).2.1 : Int) > (160 : Int)))) || (((List.getD x.1 (Int.toNat x.2.1) (Ty.zero tRecSlot)).1 == (0 : Int)) && (!seq (List.getD x.1 (Int.toNat x.2.1) (Ty.zero tRecSlot)).2.1 (⟨#[]⟩ : ByteArray)))) = true then
              cs.1 (false, ())
            else
              next (x.1, (IntKind.i64.wrap (x.2.1 + (1 : Int))), ())
          else
            none
        else
          none
      else
        none
    else
      none
  else
    cs.2.1 ()
def f (n : Nat) (x : Tup [(.slice tRecSlot)]) : Option (Tup [.bool]) :=
  if (decide ((List.length x.1 : Int) > (120 : Int))) = true then
    some (false, ())
  else
    runL (B4 n) ((fun z2 =>
        some (z2.1, ())), (fun z3 =>
        some (true, ())), ()) n (x.1, (0 : Int), ())
@[reducible] def sig (n : Nat) : Sig := ⟨[(.slice tRecSlot)], [.bool], false, f n⟩
def T (n : Nat) : FuncId → Option Sig := fun g => if Nat.beq g 10 = true then some (spec_l21In.sig n) else none
def TL (n : Nat) : Loops := fun j _ st k => if Nat.beq j 4 = true then (match dec st l4.inS [] with | some x => runL (B4 n) (contsOf k l4.outs) n x | none => none) else none
theorem d4 (n : Nat) : LoopDef Try.prog (T n) (TL n) Try.f11 4 :=
  ⟨l4, fun R => B4 n, n, fun R st k => by kernel_rfl, fun R next cs x => by kernel_rfl⟩
theorem con (n : Nat) : Con Try.prog 11 (sig n) :=
  con_print (T := T n) (TL := TL n) (c := Try.f11.body.getD .skip) (js := [4]) hMixed (conT_cons (spec_l21In.con n) conT_none) Try.func11 (by decide) (by kernel_rfl) (by kernel_rfl) (by decide) (LoopDef.cons (d4 n) LoopDef.nil) (fun x => by kernel_rfl)
end spec_l21SlotsOk
namespace spec_RecMessageOk
def f (n : Nat) (x : Tup [tRecMessage, (.int .i64)]) : Option (Tup [.bool]) :=
  (spec_l21In.f n (x.1.1, (1 : Int), (9 : Int), ())).bind fun y1 =>
  (if y1.1 = true then (spec_l21In.f n (x.1.2.1, (1 : Int), x.2.1, ())) else some (tzero [.bool])).bind fun y2 =>
  (if (y1.1 && y2.1) = true then (spec_l21In.f n (x.1.2.2.1, (1 : Int), x.2.1, ())) else some (tzero [.bool])).bind fun y3 =>
  (if ((y1.1 && y2.1) && y3.1) = true then (spec_l21In.f n (x.1.2.2.2.1, (0 : Int), (1000000 : Int), ())) else some (tzero [.bool])).bind fun y4 =>
  (if (((y1.1 && y2.1) && y3.1) && y4.1) = true then (spec_l21In.f n (x.1.2.2.2.2.1, (0 : Int), (120 : Int), ())) else some (tzero [.bool])).bind fun y5 =>
  (if ((((y1.1 && y2.1) && y3.1) && y4.1) && y5.1) = true then (spec_l21In.f n (x.1.2.2.2.2.2.1, (0 : Int), (120 : Int), ())) else some (tzero [.bool])).bind fun y6 =>
  (if ((((((y1.1 && y2.1) && y3.1) && y4.1) && y5.1) && y6.1) && (decide ((ByteArray.size x.1.2.2.2.2.2.2.1 : Int) ≤ (160 : Int)))) = true then (spec_l21SlotsOk.f n (x.1.2.2.2.2.2.2.2.1, ())) else some (tzero [.bool])).bind fun y7 =>
  some ((((((((y1.1 && y2.1) && y3.1) && y4.1) && y5.1) && y6.1) && (decide ((ByteArray.size x.1.2.2.2.2.2.2.1 : Int) ≤ (160 : Int)))) && y7.1), ())
@[reducible] def sig (n : Nat) : Sig := ⟨[tRecMessage, (.int .i64)], [.bool], false, f n⟩
def T (n : Nat) : FuncId → Option Sig := fun g => if Nat.beq g 10 = true then some (spec_l21In.sig n) else if Nat.beq g 11 = true then some (spec_l21SlotsOk.sig n) else none
def TL (n : Nat) : Loops := fun j _ st k => none
theorem con (n : Nat) : Con Try.prog 5 (sig n) :=
  con_print (T := T n) (TL := TL n) (c := Try.f5.body.getD .skip) (js := []) hMixed (conT_cons (spec_l21In.con n) (conT_cons (spec_l21SlotsOk.con n) conT_none)) Try.func5 (by decide) (by kernel_rfl) (by kernel_rfl) (by decide) LoopDef.nil (fun x => by kernel_rfl)
end spec_RecMessageOk
namespace impl_within_rec
def f (n : Nat) (x : Tup [(.int .i64), (.int .i64), (.int .i64)]) : Option (Tup [.bool]) :=
  some (((decide (x.1 ≥ x.2.1)) && (decide (x.1 ≤ x.2.2.1))), ())
@[reducible] def sig (n : Nat) : Sig := ⟨[(.int .i64), (.int .i64), (.int .i64)], [.bool], false, f n⟩
def T (n : Nat) : FuncId → Option Sig := fun g => none
def TL (n : Nat) : Loops := fun j _ st k => none
theorem con (n : Nat) : Con Try.prog 13 (sig n) :=
  con_print (T := T n) (TL := TL n) (c := Try.f13.body.getD .skip) (js := []) hMixed conT_none Try.func13 (by decide) (by kernel_rfl) (by kernel_rfl) (by decide) LoopDef.nil (fun x => by kernel_rfl)
end impl_within_rec
namespace impl_slotsOk
@[reducible] def l4 : LSpec := ⟨[(8, .d (.slice tRecSlot)), (9, .d (.int .i64)), (10, .d (.int .i64))], [(.ret, [(2, .d .bool)]), (.exit 0, [])]⟩
def B4 (n : Nat) {R : Type} (next : Sden l4.inS → Option R) (cs : Conts R l4.outs) (x : Sden l4.inS) : Option R :=
  if (decide (x.2.2.1 < x.2.1)) = true then
    if (decide (0 ≤ x.2.2.1 ∧ x.2.2.1 < (List.length x.1 : Int))) = true then
      (impl_within_rec.f n ((List.getD x.1 (Int.toNat x.2.2.1) (Ty.zero tRecSlot)).1, (0 : Int), (1000000 : Int), ())).bind fun y1 =>
      if (((!y1.1) || (decide ((ByteArray.size (List.getD x.1 (Int.toNat x.2.2.1) (Ty.zero tRecSlot)).2.1 : Int) > (160 : Int)))) || (((List.getD x.1 (Int.toNat x.2.2.1) (Ty.zero tRecSlot)).1 == (0 : Int)) && (!seq (List.getD x.1 (Int.toNat x.2.2.1) (Ty.zero tRecSlot)).2.1 (⟨#[]⟩ : ByteArray)))) = true then
        cs.1 (false, ())
      else
        next (x.1, x.2.1, (IntKind.i64.wrap (x.2.2.1 + (1 : Int))), ())
    else
      none
  else
    cs.2.1 ()
def f (n : Nat) (x : Tup [(.slice tRecSlot)]) : Option (Tup [.bool]) :=
  if (decide ((List.length x.1 : Int) > (120 : Int))) = true then
    some (false, ())
  else
    runL (B4 n) ((fun z2 =>
        some (z2.1, ())), (fun z3 =>
        some (true, ())), ()) n (x.1, (List.length x.1 : Int), (0 : Int), ())
@[reducible] def sig (n : Nat) : Sig := ⟨[(.slice tRecSlot)], [.bool], false, f n⟩
def T (n : Nat) : FuncId → Option Sig := fun g => if Nat.beq g 13 = true then some (impl_within_rec.sig n) else none
def TL (n : Nat) : Loops := fun j _ st k => if Nat.beq j 4 = true then (match dec st l4.inS [] with | some x => runL (B4 n) (contsOf k l4.outs) n x | none => none) else none
theorem d4 (n : Nat) : LoopDef Try.prog (T n) (TL n) Try.f14 4 :=
  ⟨l4, fun R => B4 n, n, fun R st k => by kernel_rfl, fun R next cs x => by kernel_rfl⟩
theorem con (n : Nat) : Con Try.prog 14 (sig n) :=
  con_print (T := T n) (TL := TL n) (c := Try.f14.body.getD .skip) (js := [4]) hMixed (conT_cons (impl_within_rec.con n) conT_none) Try.func14 (by decide) (by kernel_rfl) (by kernel_rfl) (by decide) (LoopDef.cons (d4 n) LoopDef.nil) (fun x => by kernel_rfl)
end impl_slotsOk
namespace impl_RecMessageOk
def f (n : Nat) (x : Tup [tRecMessage, (.int .i64)]) : Option (Tup [.bool]) :=
  (impl_within_rec.f n (x.1.1, (1 : Int), (9 : Int), ())).bind fun y1 =>
  (if y1.1 = true then (impl_within_rec.f n (x.1.2.1, (1 : Int), x.2.1, ())) else some (tzero [.bool])).bind fun y2 =>
  (if (y1.1 && y2.1) = true then (impl_within_rec.f n (x.1.2.2.1, (1 : Int), x.2.1, ())) else some (tzero [.bool])).bind fun y3 =>
  (if ((y1.1 && y2.1) && y3.1) = true then (impl_within_rec.f n (x.1.2.2.2.1, (0 : Int), (1000000 : Int), ())) else some (tzero [.bool])).bind fun y4 =>
  (if (((y1.1 && y2.1) && y3.1) && y4.1) = true then (impl_within_rec.f n (x.1.2.2.2.2.1, (0 : Int), (120 : Int), ())) else some (tzero [.bool])).bind fun y5 =>
  (if ((((y1.1 && y2.1) && y3.1) && y4.1) && y5.1) = true then (impl_within_rec.f n (x.1.2.2.2.2.2.1, (0 : Int), (120 : Int), ())) else some (tzero [.bool])).bind fun y6 =>
  (if ((((((y1.1 && y2.1) && y3.1) && y4.1) && y5.1) && y6.1) && (decide ((ByteArray.size x.1.2.2.2.2.2.2.1 : Int) ≤ (160 : Int)))) = true then (impl_slotsOk.f n (x.1.2.2.2.2.2.2.2.1, ())) else some (tzero [.bool])).bind fun y7 =>
  some ((((((((y1.1 && y2.1) && y3.1) && y4.1) && y5.1) && y6.1) && (decide ((ByteArray.size x.1.2.2.2.2.2.2.1 : Int) ≤ (160 : Int)))) && y7.1), ())
@[reducible] def sig (n : Nat) : Sig := ⟨[tRecMessage, (.int .i64)], [.bool], false, f n⟩
def T (n : Nat) : FuncId → Option Sig := fun g => if Nat.beq g 13 = true then some (impl_within_rec.sig n) else if Nat.beq g 14 = true then some (impl_slotsOk.sig n) else none
def TL (n : Nat) : Loops := fun j _ st k => none
theorem con (n : Nat) : Con Try.prog 7 (sig n) :=
  con_print (T := T n) (TL := TL n) (c := Try.f7.body.getD .skip) (js := []) hMixed (conT_cons (impl_within_rec.con n) (conT_cons (impl_slotsOk.con n) conT_none)) Try.func7 (by decide) (by kernel_rfl) (by kernel_rfl) (by decide) LoopDef.nil (fun x => by kernel_rfl)
end impl_RecMessageOk
namespace laws_eqRecSlot
def f (n : Nat) (x : Tup [tRecSlot, tRecSlot]) : Option (Tup [.bool]) :=
  if (x.1.1 != x.2.1.1) = true then
    some (false, ())
  else if (!seq x.1.2.1 x.2.1.2.1) = true then
    some (false, ())
  else
    some (true, ())
@[reducible] def sig (n : Nat) : Sig := ⟨[tRecSlot, tRecSlot], [.bool], false, f n⟩
def T (n : Nat) : FuncId → Option Sig := fun g => none
def TL (n : Nat) : Loops := fun j _ st k => none
theorem con (n : Nat) : Con Try.prog 18 (sig n) :=
  con_print (T := T n) (TL := TL n) (c := Try.f18.body.getD .skip) (js := []) hMixed conT_none Try.func18 (by decide) (by kernel_rfl) (by kernel_rfl) (by decide) LoopDef.nil (fun x => by kernel_rfl)
end laws_eqRecSlot
namespace laws_eqRecSlotS
@[reducible] def l4 : LSpec := ⟨[(0, .d (.slice tRecSlot)), (1, .d (.slice tRecSlot)), (5, .d (.int .i64))], [(.ret, [(4, .d .bool)]), (.exit 0, [])]⟩
def B4 (n : Nat) {R : Type} (next : Sden l4.inS → Option R) (cs : Conts R l4.outs) (x : Sden l4.inS) : Option R :=
  if (decide (x.2.2.1 < (List.length x.1 : Int))) = true then
    if (!true || (decide (0 ≤ x.2.2.1 ∧ x.2.2.1 < (List.length x.1 : Int)))) = true then
      if (!true || (decide (0 ≤ x.2.2.1 ∧ x.2.2.1 < (List.length x.2.1 : Int)))) = true then
        (laws_eqRecSlot.f n ((List.getD x.1 (Int.toNat x.2.2.1) (Ty.zero tRecSlot)), (List.getD x.2.1 (Int.toNat x.2.2.1) (Ty.zero tRecSlot)), ())).bind fun y1 =>
        if (!y1.1) = true then
          cs.1 (false, ())
        else
          next (x.1, x.2.1, (IntKind.i64.wrap (x.2.2.1 + (1 : Int))), ())
      else
        none
    else
      none
  else
    cs.2.1 ()
def f (n : Nat) (x : Tup [(.slice tRecSlot), (.slice tRecSlot)]) : Option (Tup [.bool]) :=
  if ((List.length x.1 : Int) != (List.length x.2.1 : Int)) = true then
    some (false, ())
  else
    runL (B4 n) ((fun z2 =>
        some (z2.1, ())), (fun z3 =>
        some (true, ())), ()) n (x.1, x.2.1, (0 : Int), ())
@[reducible] def sig (n : Nat) : Sig := ⟨[(.slice tRecSlot), (.slice tRecSlot)], [.bool], false, f n⟩
def T (n : Nat) : FuncId → Option Sig := fun g => if Nat.beq g 18 = true then some (laws_eqRecSlot.sig n) else none
def TL (n : Nat) : Loops := fun j _ st k => if Nat.beq j 4 = true then (match dec st l4.inS [] with | some x => runL (B4 n) (contsOf k l4.outs) n x | none => none) else none
theorem d4 (n : Nat) : LoopDef Try.prog (T n) (TL n) Try.f15 4 :=
  ⟨l4, fun R => B4 n, n, fun R st k => by kernel_rfl, fun R next cs x => by kernel_rfl⟩
theorem con (n : Nat) : Con Try.prog 15 (sig n) :=
  con_print (T := T n) (TL := TL n) (c := Try.f15.body.getD .skip) (js := [4]) hMixed (conT_cons (laws_eqRecSlot.con n) conT_none) Try.func15 (by decide) (by kernel_rfl) (by kernel_rfl) (by decide) (LoopDef.cons (d4 n) LoopDef.nil) (fun x => by kernel_rfl)
end laws_eqRecSlotS
namespace laws_eqRecMessage
def f (n : Nat) (x : Tup [tRecMessage, tRecMessage]) : Option (Tup [.bool]) :=
  if (x.1.1 != x.2.1.1) = true then
    some (false, ())
  else if (x.1.2.1 != x.2.1.2.1) = true then
    some (false, ())
  else if (x.1.2.2.1 != x.2.1.2.2.1) = true then
    some (false, ())
  else if (x.1.2.2.2.1 != x.2.1.2.2.2.1) = true then
    some (false, ())
  else if (x.1.2.2.2.2.1 != x.2.1.2.2.2.2.1) = true then
    some (false, ())
  else if (x.1.2.2.2.2.2.1 != x.2.1.2.2.2.2.2.1) = true then
    some (false, ())
  else if (!seq x.1.2.2.2.2.2.2.1 x.2.1.2.2.2.2.2.2.1) = true then
    some (false, ())
  else
    (laws_eqRecSlotS.f n (x.1.2.2.2.2.2.2.2.1, x.2.1.2.2.2.2.2.2.2.1, ())).bind fun y1 =>
    if (!y1.1) = true then
      some (false, ())
    else
      some (true, ())
@[reducible] def sig (n : Nat) : Sig := ⟨[tRecMessage, tRecMessage], [.bool], false, f n⟩
def T (n : Nat) : FuncId → Option Sig := fun g => if Nat.beq g 15 = true then some (laws_eqRecSlotS.sig n) else none
def TL (n : Nat) : Loops := fun j _ st k => none
theorem con (n : Nat) : Con Try.prog 8 (sig n) :=
  con_print (T := T n) (TL := TL n) (c := Try.f8.body.getD .skip) (js := []) hMixed (conT_cons (laws_eqRecSlotS.con n) conT_none) Try.func8 (by decide) (by kernel_rfl) (by kernel_rfl) (by decide) LoopDef.nil (fun x => by kernel_rfl)
end laws_eqRecMessage
namespace laws_FnExactRecMessageOk
def f (n : Nat) (x : Tup [tRecMessage, (.int .i64)]) : Option (Tup [.bool]) :=
  (laws_szRecMessage.f n (x.1, (1048576 : Int), ())).bind fun y1 =>
  if (decide (y1.1 < (0 : Int))) = true then
    some (true, ())
  else
    (laws_toRecMessage.f n (x.1, ())).bind fun y2 =>
    (spec_RecMessageOk.f n (y2.1, x.2.1, ())).bind fun y3 =>
    (laws_toRecMessage.f n (x.1, ())).bind fun y4 =>
    (impl_RecMessageOk.f n (y4.1, x.2.1, ())).bind fun y5 =>
    if (!(y5.1 == y3.1)) = true then
      some (false, ())
    else
      (laws_toRecMessage.f n (x.1, ())).bind fun y6 =>
      (laws_eqRecMessage.f n (y4.1, y6.1, ())).bind fun y7 =>
      if (!y7.1) = true then
        some (false, ())
      else
        some (true, ())
@[reducible] def sig (n : Nat) : Sig := ⟨[tRecMessage, (.int .i64)], [.bool], false, f n⟩
def T (n : Nat) : FuncId → Option Sig := fun g => if Nat.beq g 4 = true then some (laws_szRecMessage.sig n) else if Nat.beq g 5 = true then some (spec_RecMessageOk.sig n) else if Nat.beq g 6 = true then some (laws_toRecMessage.sig n) else if Nat.beq g 7 = true then some (impl_RecMessageOk.sig n) else if Nat.beq g 8 = true then some (laws_eqRecMessage.sig n) else none
def TL (n : Nat) : Loops := fun j _ st k => none
theorem con (n : Nat) : Con Try.prog 3 (sig n) :=
  con_print (T := T n) (TL := TL n) (c := Try.f3.body.getD .skip) (js := []) hMixed (conT_cons (laws_szRecMessage.con n) (conT_cons (spec_RecMessageOk.con n) (conT_cons (laws_toRecMessage.con n) (conT_cons (impl_RecMessageOk.con n) (conT_cons (laws_eqRecMessage.con n) conT_none))))) Try.func3 (by decide) (by kernel_rfl) (by kernel_rfl) (by decide) LoopDef.nil (fun x => by kernel_rfl)
end laws_FnExactRecMessageOk
end Go.Proofs.Ytemdfahilomeaad
