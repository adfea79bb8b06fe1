import Derived.Test.YtjbpccinpcpdkaaProg
import Derived.Test.YtjbpccinpcpdkaaM2
set_option maxRecDepth 100000
set_option linter.unusedVariables false
namespace Go.Proofs.Ytjbpccinpcpdkaa
open Go.Vm
abbrev tRecSlot : Ty := (.pair (.int .i64) (.pair .str .unit))
theorem hMixed : Try.prog.follows .mixedOrders = true := by kernel_rfl
namespace laws_szRecSlot
def f (n : Nat) (x : Tup [tRecSlot, (.int .i64)]) : Option (Tup [(.int .i64)]) :=
  if (decide ((IntKind.i64.wrap (x.2.1 - (ByteArray.size x.1.2.1 : Int))) < (0 : Int))) = true then
    some ((-1 : Int), ())
  else
    some ((IntKind.i64.wrap (x.2.1 - (ByteArray.size x.1.2.1 : Int))), ())
@[reducible] def sig (n : Nat) : Sig := ⟨[tRecSlot, (.int .i64)], [(.int .i64)], false, f n, none⟩
def T (n : Nat) : FuncId → Option Sig := fun g => none
def TL (n : Nat) : Loops := fun j _ st k => none
theorem con (n : Nat) : Con Try.prog 11 (sig n) :=
  con_print (hsw := rfl) (T := T n) (TL := TL n) (c := Try.f11.body.getD .skip) (js := []) hMixed conT_none Try.func11 (by decide) (by kernel_rfl) (by kernel_rfl) (by decide) LoopDef.nil (fun x => by kernel_rfl)
end laws_szRecSlot
namespace laws_szRecSlotS
@[reducible] def l5 : LSpec := ⟨[(0, .d (.slice tRecSlot)), (1, .d (.int .i64)), (5, .d (.int .i64))], [(.ret, [(4, .d (.int .i64))]), (.exit 0, [(1, .d (.int .i64))])]⟩
def B5 (n : Nat) {R : Type} (next : Sden l5.inS → Option R) (cs : Conts R l5.outs) (x : Sden l5.inS) : Option R :=
  if (decide (x.2.2.1 < (List.length x.1 : Int))) = true then
    if (decide (0 ≤ x.2.2.1 ∧ x.2.2.1 < (List.length x.1 : Int))) = true then
      (laws_szRecSlot.f n ((List.getD x.1 (Int.toNat x.2.2.1) (Ty.zero tRecSlot)), x.2.1, ())).bind fun y1 =>
      if (decide (y1.1 < (0 : Int))) = true then
        cs.1 ((-1 : Int), ())
      else
        next (x.1, y1.1, (IntKind.i64.wrap (x.2.2.1 + (1 : Int))), ())
    else
      none
  else
    cs.2.1 (x.2.1, ())
def f (n : Nat) (x : Tup [(.slice tRecSlot), (.int .i64)]) : Option (Tup [(.int .i64)]) :=
  if (decide ((IntKind.i64.wrap (x.2.1 - (List.length x.1 : Int))) < (0 : Int))) = true then
    some ((-1 : Int), ())
  else
    runL (B5 n) ((fun z2 =>
        some (z2.1, ())), (fun z3 =>
        some (z3.1, ())), ()) n (x.1, (IntKind.i64.wrap (x.2.1 - (List.length x.1 : Int))), (0 : Int), ())
@[reducible] def sig (n : Nat) : Sig := ⟨[(.slice tRecSlot), (.int .i64)], [(.int .i64)], false, f n, none⟩
def T (n : Nat) : FuncId → Option Sig := fun g => if Nat.beq g 11 = true then some (laws_szRecSlot.sig n) else none
def TL (n : Nat) : Loops := fun j _ st k => if Nat.beq j 5 = true then (match dec st l5.inS [] with | some x => runL (B5 n) (contsOf k l5.outs) n x | none => none) else none
theorem d5 (n : Nat) : LoopDef Try.prog (T n) (TL n) Try.f4 5 :=
  ⟨l5, fun R => B5 n, n, fun R st k => by kernel_rfl, fun R next cs x => by kernel_rfl⟩
theorem con (n : Nat) : Con Try.prog 4 (sig n) :=
  con_print (hsw := rfl) (T := T n) (TL := TL n) (c := Try.f4.body.getD .skip) (js := [5]) hMixed (conT_cons (laws_szRecSlot.con n) conT_none) Try.func4 (by decide) (by kernel_rfl) (by kernel_rfl) (by decide) (LoopDef.cons (d5 n) LoopDef.nil) (fun x => by kernel_rfl)
end laws_szRecSlotS
namespace laws_toRecSlot
def f (n : Nat) (x : Tup [tRecSlot]) : Option (Tup [tRecSlot]) :=
  some (x.1, ())
@[reducible] def sig (n : Nat) : Sig := ⟨[tRecSlot], [tRecSlot], false, f n, none⟩
def T (n : Nat) : FuncId → Option Sig := fun g => none
def TL (n : Nat) : Loops := fun j _ st k => none
theorem con (n : Nat) : Con Try.prog 13 (sig n) :=
  con_print (hsw := rfl) (T := T n) (TL := TL n) (c := Try.f13.body.getD .skip) (js := []) hMixed conT_none Try.func13 (by decide) (by kernel_rfl) (by kernel_rfl) (by decide) LoopDef.nil (fun x => by kernel_rfl)
end laws_toRecSlot
namespace laws_toRecSlotS
@[reducible] def l3 : LSpec := ⟨[(0, .d (.slice tRecSlot)), (3, .row true tRecSlot), (4, .d (.int .i64))], [(.exit 0, [(3, .row true tRecSlot)])]⟩
def B3 (n : Nat) {R : Type} (next : Sden l3.inS → Option R) (cs : Conts R l3.outs) (x : Sden l3.inS) : Option R :=
  if (decide (x.2.2.1 < (List.length x.1 : Int))) = true then
    if (decide (0 ≤ x.2.2.1 ∧ x.2.2.1 < (List.length x.1 : Int))) = true then
      (laws_toRecSlot.f n ((List.getD x.1 (Int.toNat x.2.2.1) (Ty.zero tRecSlot)), ())).bind fun y1 =>
      if (decide (0 ≤ x.2.2.1 ∧ x.2.2.1 < (List.length x.2.1 : Int))) = true then
        next (x.1, (List.set x.2.1 (Int.toNat x.2.2.1) y1.1), (IntKind.i64.wrap (x.2.2.1 + (1 : Int))), ())
      else
        none
    else
      none
  else
    cs.1 (x.2.1, ())
def f (n : Nat) (x : Tup [(.slice tRecSlot)]) : Option (Tup [(.slice tRecSlot)]) :=
  if (decide (0 ≤ (List.length x.1 : Int) ∧ (List.length x.1 : Int) ≤ (List.length x.1 : Int) ∧ (List.length x.1 : Int) * (24 : Int) ≤ 140737488355328)) = true then
    runL (B3 n) ((fun z2 =>
        some (z2.1, ())), ()) n (x.1, (List.replicate (Int.toNat (List.length x.1 : Int)) (Ty.zero tRecSlot)), (0 : Int), ())
  else
    none
@[reducible] def sig (n : Nat) : Sig := ⟨[(.slice tRecSlot)], [(.slice tRecSlot)], true, f n, none⟩
def T (n : Nat) : FuncId → Option Sig := fun g => if Nat.beq g 13 = true then some (laws_toRecSlot.sig n) else none
def TL (n : Nat) : Loops := fun j _ st k => if Nat.beq j 3 = true then (match dec st l3.inS [] with | some x => runL (B3 n) (contsOf k l3.outs) n x | none => none) else none
theorem d3 (n : Nat) : LoopDef Try.prog (T n) (TL n) Try.f6 3 :=
  ⟨l3, fun R => B3 n, n, fun R st k => by kernel_rfl, fun R next cs x => by kernel_rfl⟩
theorem con (n : Nat) : Con Try.prog 6 (sig n) :=
  con_print (hsw := rfl) (T := T n) (TL := TL n) (c := Try.f6.body.getD .skip) (js := [3]) hMixed (conT_cons (laws_toRecSlot.con n) conT_none) Try.func6 (by decide) (by kernel_rfl) (by kernel_rfl) (by decide) (LoopDef.cons (d3 n) LoopDef.nil) (fun x => by kernel_rfl)
end laws_toRecSlotS
namespace spec_l21Slots
def f (n : Nat) (x : Tup [(.slice tRecSlot)]) : Option (Tup [(.slice tRecSlot)]) :=
  if (appBound (List.length ([] : List (Ty.den tRecSlot))) (List.length x.1) 24) = true then
    some ((([] : List (Ty.den tRecSlot)) ++ x.1), ())
  else
    none
@[reducible] def sig (n : Nat) : Sig := ⟨[(.slice tRecSlot)], [(.slice tRecSlot)], true, f n, none⟩
def T (n : Nat) : FuncId → Option Sig := fun g => none
def TL (n : Nat) : Loops := fun j _ st k => none
theorem con (n : Nat) : Con Try.prog 12 (sig n) :=
  con_print (hsw := rfl) (T := T n) (TL := TL n) (c := Try.f12.body.getD .skip) (js := []) hMixed conT_none Try.func12 (by decide) (by kernel_rfl) (by kernel_rfl) (by decide) LoopDef.nil (fun x => by kernel_rfl)
end spec_l21Slots
namespace spec_RecMerge
@[reducible] def l3 : LSpec := ⟨[(1, .d (.slice tRecSlot)), (5, .row true tRecSlot), (6, .d (.int .i64))], [(.exit 0, [(5, .row true tRecSlot)])]⟩
def B3 (n : Nat) {R : Type} (next : Sden l3.inS → Option R) (cs : Conts R l3.outs) (x : Sden l3.inS) : Option R :=
  if (decide (x.2.2.1 < (List.length x.1 : Int))) = true then
    if (x.2.2.1 == (List.length x.2.1 : Int)) = true then
      if (decide (0 ≤ x.2.2.1 ∧ x.2.2.1 < (List.length x.1 : Int))) = true then
        if (appBound (List.length x.2.1) (List.length [(List.getD x.1 (Int.toNat x.2.2.1) (Ty.zero tRecSlot))]) 24) = true then
          next (x.1, (x.2.1 ++ [(List.getD x.1 (Int.toNat x.2.2.1) (Ty.zero tRecSlot))]), (IntKind.i64.wrap (x.2.2.1 + (1 : Int))), ())
        else
          none
      else
        none
    else if (!true || (decide (0 ≤ x.2.2.1 ∧ x.2.2.1 < (List.length x.1 : Int)))) = true then
      if (!true || (decide (0 ≤ x.2.2.1 ∧ x.2.2.1 < (List.length x.2.1 : Int)))) = true then
        if (decide ((List.getD x.1 (Int.toNat x.2.2.1) (Ty.zero tRecSlot)).1 > (List.getD x.2.1 (Int.toNat x.2.2.1) (Ty.zero tRecSlot)).1)) = true then
          if (decide (0 ≤ x.2.2.1 ∧ x.2.2.1 < (List.length x.1 : Int))) = true then
            if (decide (0 ≤ x.2.2.1 ∧ x.2.2.1 < (List.length x.2.1 : Int))) = true then
              next (x.1, (List.set x.2.1 (Int.toNat x.2.2.1) (List.getD x.1 (Int.toNat x.2.2.1) (Ty.zero tRecSlot))), (IntKind.i64.wrap (x.2.2.1 + (1 : Int))), ())
            else
              none
          else
            none
        else
          next (x.1, x.2.1, (IntKind.i64.wrap (x.2.2.1 + (1 : Int))), ())
      else
        none
    else
      none
  else
    cs.1 (x.2.1, ())
def f (n : Nat) (x : Tup [(.slice tRecSlot), (.slice tRecSlot)]) : Option (Tup [(.slice tRecSlot)]) :=
  (spec_l21Slots.f n (x.1, ())).bind fun y1 =>
  runL (B3 n) ((fun z2 =>
      some (z2.1, ())), ()) n (x.2.1, y1.1, (0 : Int), ())
@[reducible] def sig (n : Nat) : Sig := ⟨[(.slice tRecSlot), (.slice tRecSlot)], [(.slice tRecSlot)], true, f n, none⟩
def T (n : Nat) : FuncId → Option Sig := fun g => if Nat.beq g 12 = true then some (spec_l21Slots.sig n) else none
def TL (n : Nat) : Loops := fun j _ st k => if Nat.beq j 3 = true then (match dec st l3.inS [] with | some x => runL (B3 n) (contsOf k l3.outs) n x | none => none) else none
theorem d3 (n : Nat) : LoopDef Try.prog (T n) (TL n) Try.f5 3 :=
  ⟨l3, fun R => B3 n, n, fun R st k => by kernel_rfl, fun R next cs x => by kernel_rfl⟩
theorem con (n : Nat) : Con Try.prog 5 (sig n) :=
  con_print (hsw := rfl) (T := T n) (TL := TL n) (c := Try.f5.body.getD .skip) (js := [3]) hMixed (conT_cons (spec_l21Slots.con n) conT_none) Try.func5 (by decide) (by kernel_rfl) (by kernel_rfl) (by decide) (LoopDef.cons (d3 n) LoopDef.nil) (fun x => by kernel_rfl)
end spec_RecMerge
namespace impl_RecMerge
@[reducible] def l3 : LSpec := ⟨[(5, .row true tRecSlot), (10, .d (.slice tRecSlot)), (11, .d (.int .i64)), (12, .d (.int .i64))], [(.exit 0, [(5, .row true tRecSlot)])]⟩
def B3 (n : Nat) {R : Type} (next : Sden l3.inS → Option R) (cs : Conts R l3.outs) (x : Sden l3.inS) : Option R :=
  if (decide (x.2.2.2.1 < x.2.2.1)) = true then
    if (decide (0 ≤ x.2.2.2.1 ∧ x.2.2.2.1 < (List.length x.2.1 : Int))) = true then
      if (decide (x.2.2.2.1 ≥ (List.length x.1 : Int))) = true then
        if (appBound (List.length x.1) (List.length [(List.getD x.2.1 (Int.toNat x.2.2.2.1) (Ty.zero tRecSlot))]) 24) = true then
          next ((x.1 ++ [(List.getD x.2.1 (Int.toNat x.2.2.2.1) (Ty.zero tRecSlot))]), x.2.1, x.2.2.1, (IntKind.i64.wrap (x.2.2.2.1 + (1 : Int))), ())
        else
          none
      else if (!true || (decide (0 ≤ x.2.2.2.1 ∧ x.2.2.2.1 < (List.length x.1 : Int)))) = true then
        if (decide ((List.getD x.2.1 (Int.toNat x.2.2.2.1) (Ty.zero tRecSlot)).1 > (List.getD x.1 (Int.toNat x.2.2.2.1) (Ty.zero tRecSlot)).1)) = true then
          if (decide (0 ≤ x.2.2.2.1 ∧ x.2.2.2.1 < (List.length x.1 : Int))) = true then
            next ((List.set x.1 (Int.toNat x.2.2.2.1) (List.getD x.2.1 (Int.toNat x.2.2.2.1) (Ty.zero tRecSlot))), x.2.1, x.2.2.1, (IntKind.i64.wrap (x.2.2.2.1 + (1 : Int))), ())
          else
            none
        else
          next (x.1, x.2.1, x.2.2.1, (IntKind.i64.wrap (x.2.2.2.1 + (1 : Int))), ())
      else
        none
    else
      none
  else
    cs.1 (x.1, ())
def f (n : Nat) (x : Tup [(.slice tRecSlot), (.slice tRecSlot)]) : Option (Tup [(.slice tRecSlot)]) :=
  if (appBound 0 (List.length x.1) 24) = true then
    runL (B3 n) ((fun z1 =>
        some (z1.1, ())), ()) n (x.1, x.2.1, (List.length x.2.1 : Int), (0 : Int), ())
  else
    none
@[reducible] def sig (n : Nat) : Sig := ⟨[(.slice tRecSlot), (.slice tRecSlot)], [(.slice tRecSlot)], true, f n, none⟩
def T (n : Nat) : FuncId → Option Sig := fun g => none
def TL (n : Nat) : Loops := fun j _ st k => if Nat.beq j 3 = true then (match dec st l3.inS [] with | some x => runL (B3 n) (contsOf k l3.outs) n x | none => none) else none
theorem d3 (n : Nat) : LoopDef Try.prog (T n) (TL n) Try.f7 3 :=
  ⟨l3, fun R => B3 n, n, fun R st k => by kernel_rfl, fun R next cs x => by kernel_rfl⟩
theorem con (n : Nat) : Con Try.prog 7 (sig n) :=
  con_print (hsw := rfl) (T := T n) (TL := TL n) (c := Try.f7.body.getD .skip) (js := [3]) hMixed conT_none Try.func7 (by decide) (by kernel_rfl) (by kernel_rfl) (by decide) (LoopDef.cons (d3 n) LoopDef.nil) (fun x => by kernel_rfl)
end impl_RecMerge
namespace laws_eqRecSlot
def f (n : Nat) (x : Tup [tRecSlot, tRecSlot]) : Option (Tup [.bool]) :=
  if (x.1.1 != x.2.1.1) = true then
    some (false, ())
  else if (!seq x.1.2.1 x.2.1.2.1) = true then
    some (false, ())
  else
    some (true, ())
@[reducible] def sig (n : Nat) : Sig := ⟨[tRecSlot, tRecSlot], [.bool], false, f n, none⟩
def T (n : Nat) : FuncId → Option Sig := fun g => none
def TL (n : Nat) : Loops := fun j _ st k => none
theorem con (n : Nat) : Con Try.prog 14 (sig n) :=
  con_print (hsw := rfl) (T := T n) (TL := TL n) (c := Try.f14.body.getD .skip) (js := []) hMixed conT_none Try.func14 (by decide) (by kernel_rfl) (by kernel_rfl) (by decide) LoopDef.nil (fun x => by kernel_rfl)
end laws_eqRecSlot
namespace laws_eqRecSlotS
@[reducible] def l4 : LSpec := ⟨[(0, .d (.slice tRecSlot)), (1, .d (.slice tRecSlot)), (5, .d (.int .i64))], [(.ret, [(4, .d .bool)]), (.exit 0, [])]⟩
def B4 (n : Nat) {R : Type} (next : Sden l4.inS → Option R) (cs : Conts R l4.outs) (x : Sden l4.inS) : Option R :=
  if (decide (x.2.2.1 < (List.length x.1 : Int))) = true then
    if (!true || (decide (0 ≤ x.2.2.1 ∧ x.2.2.1 < (List.length x.1 : Int)))) = true then
      if (!true || (decide (0 ≤ x.2.2.1 ∧ x.2.2.1 < (List.length x.2.1 : Int)))) = true then
        (laws_eqRecSlot.f n ((List.getD x.1 (Int.toNat x.2.2.1) (Ty.zero tRecSlot)), (List.getD x.2.1 (Int.toNat x.2.2.1) (Ty.zero tRecSlot)), ())).bind fun y1 =>
        if (!y1.1) = true then
          cs.1 (false, ())
        else
          next (x.1, x.2.1, (IntKind.i64.wrap (x.2.2.1 + (1 : Int))), ())
      else
        none
    else
      none
  else
    cs.2.1 ()
def f (n : Nat) (x : Tup [(.slice tRecSlot), (.slice tRecSlot)]) : Option (Tup [.bool]) :=
  if ((List.length x.1 : Int) != (List.length x.2.1 : Int)) = true then
    some (false, ())
  else
    runL (B4 n) ((fun z2 =>
        some (z2.1, ())), (fun z3 =>
        some (true, ())), ()) n (x.1, x.2.1, (0 : Int), ())
@[reducible] def sig (n : Nat) : Sig := ⟨[(.slice tRecSlot), (.slice tRecSlot)], [.bool], false, f n, none⟩
def T (n : Nat) : FuncId → Option Sig := fun g => if Nat.beq g 14 = true then some (laws_eqRecSlot.sig n) else none
def TL (n : Nat) : Loops := fun j _ st k => if Nat.beq j 4 = true then (match dec st l4.inS [] with | some x => runL (B4 n) (contsOf k l4.outs) n x | none => none) else none
theorem d4 (n : Nat) : LoopDef Try.prog (T n) (TL n) Try.f8 4 :=
  ⟨l4, fun R => B4 n, n, fun R st k => by kernel_rfl, fun R next cs x => by kernel_rfl⟩
theorem con (n : Nat) : Con Try.prog 8 (sig n) :=
  con_print (hsw := rfl) (T := T n) (TL := TL n) (c := Try.f8.body.getD .skip) (js := [4]) hMixed (conT_cons (laws_eqRecSlot.con n) conT_none) Try.func8 (by decide) (by kernel_rfl) (by kernel_rfl) (by decide) (LoopDef.cons (d4 n) LoopDef.nil) (fun x => by kernel_rfl)
end laws_eqRecSlotS
namespace laws_markText
@[reducible] def l4 : LSpec := ⟨[(0, .d (.int .i64)), (3, .d .str)], [(.exit 0, [(3, .d .str)])]⟩
def B4 (n : Nat) {R : Type} (next : Sden l4.inS → Option R) (cs : Conts R l4.outs) (x : Sden l4.inS) : Option R :=
  if (decide (x.1 > (0 : Int))) = true then
    if ((10 : Int) != 0) = true then
      if (decide ((ByteArray.size (ofBytes [(IntKind.u8.wrap (IntKind.i64.wrap ((48 : Int) + (Int.tmod x.1 (10 : Int)))))]) : Int) + (ByteArray.size x.2.1 : Int) ≤ 9223372036854775807)) = true then
        if ((10 : Int) != 0) = true then
          next ((IntKind.i64.wrap (Int.tdiv x.1 (10 : Int))), (scat (ofBytes [(IntKind.u8.wrap (IntKind.i64.wrap ((48 : Int) + (Int.tmod x.1 (10 : Int)))))]) x.2.1), ())
        else
          none
      else
        none
    else
      none
  else
    cs.1 (x.2.1, ())
def f (n : Nat) (x : Tup [(.int .i64)]) : Option (Tup [.str]) :=
  if (decide (x.1 ≤ (0 : Int))) = true then
    some ((⟨#[109, 48]⟩ : ByteArray), ())
  else
    runL (B4 n) ((fun z1 =>
        if (decide ((ByteArray.size (⟨#[109]⟩ : ByteArray) : Int) + (ByteArray.size z1.1 : Int) ≤ 9223372036854775807)) = true then
          some ((scat (⟨#[109]⟩ : ByteArray) z1.1), ())
        else
          none), ()) n (x.1, (⟨#[]⟩ : ByteArray), ())
@[reducible] def sig (n : Nat) : Sig := ⟨[(.int .i64)], [.str], false, f n, none⟩
def T (n : Nat) : FuncId → Option Sig := fun g => none
def TL (n : Nat) : Loops := fun j _ st k => if Nat.beq j 4 = true then (match dec st l4.inS [] with | some x => runL (B4 n) (contsOf k l4.outs) n x | none => none) else none
theorem d4 (n : Nat) : LoopDef Try.prog (T n) (TL n) Try.f15 4 :=
  ⟨l4, fun R => B4 n, n, fun R st k => by kernel_rfl, fun R next cs x => by kernel_rfl⟩
theorem con (n : Nat) : Con Try.prog 15 (sig n) :=
  con_print (hsw := rfl) (T := T n) (TL := TL n) (c := Try.f15.body.getD .skip) (js := [4]) hMixed conT_none Try.func15 (by decide) (by kernel_rfl) (by kernel_rfl) (by decide) (LoopDef.cons (d4 n) LoopDef.nil) (fun x => by kernel_rfl)
end laws_markText
namespace laws_markRecSlotS
@[reducible] def l2 : LSpec := ⟨[(0, .row true tRecSlot), (1, .d (.int .i64)), (5, .d (.int .i64))], [(.exit 0, [(0, .row true tRecSlot), (1, .d (.int .i64))])]⟩
def B2 (n : Nat) {R : Type} (next : Sden l2.inS → Option R) (cs : Conts R l2.outs) (x : Sden l2.inS) : Option R :=
  if (decide (x.2.2.1 < (List.length x.1 : Int))) = true then
    if (decide (0 ≤ x.2.2.1 ∧ x.2.2.1 < (List.length x.1 : Int))) = true then
      (laws_markText.f n ((IntKind.i64.wrap (x.2.1 + (1 : Int))), ())).bind fun y1 =>
      if (decide (0 ≤ x.2.2.1 ∧ x.2.2.1 < (List.length (List.set x.1 (Int.toNat x.2.2.1) (x.2.1, (List.getD x.1 (Int.toNat x.2.2.1) (Ty.zero tRecSlot)).2)) : Int))) = true then
        let w2 : List (Ty.den tRecSlot) := (List.set (List.set x.1 (Int.toNat x.2.2.1) (x.2.1, (List.getD x.1 (Int.toNat x.2.2.1) (Ty.zero tRecSlot)).2)) (Int.toNat x.2.2.1) ((List.getD (List.set x.1 (Int.toNat x.2.2.1) (x.2.1, (List.getD x.1 (Int.toNat x.2.2.1) (Ty.zero tRecSlot)).2)) (Int.toNat x.2.2.1) (Ty.zero tRecSlot)).1, y1.1, ()))
        next (w2, (IntKind.i64.wrap ((IntKind.i64.wrap (x.2.1 + (1 : Int))) + (1 : Int))), (IntKind.i64.wrap (x.2.2.1 + (1 : Int))), ())
      else
        none
    else
      none
  else
    cs.1 (x.1, x.2.1, ())
def f (n : Nat) (x : Ty.den (.slice tRecSlot)) (q : Tup [(.int .i64)]) : Option (Ty.den (.slice tRecSlot) × Tup [(.int .i64)]) :=
  runL (B2 n) ((fun z3 =>
      some (z3.1, z3.2.1, ())), ()) n (x, q.1, (0 : Int), ())
@[reducible] def sig (n : Nat) : Sig := ⟨[], [], false, fun _ => none, some ⟨(.slice tRecSlot), [(.int .i64)], [(.int .i64)], f n⟩⟩
def T (n : Nat) : FuncId → Option Sig := fun g => if Nat.beq g 15 = true then some (laws_markText.sig n) else none
def TL (n : Nat) : Loops := fun j _ st k => if Nat.beq j 2 = true then (match dec st l2.inS [] with | some x => runL (B2 n) (contsOf k l2.outs) n x | none => none) else none
theorem d2 (n : Nat) : LoopDefL Try.prog (T n) (TL n) Try.f9 1 2 :=
  ⟨l2, fun R => B2 n, n, fun R st k => by kernel_rfl, fun R next cs x => by kernel_rfl⟩
theorem con (n : Nat) : Con Try.prog 9 (sig n) :=
  con_printW (T := T n) (TL := TL n) (c := Try.f9.body.getD .skip) (js := [2]) hMixed (conT_cons (laws_markText.con n) conT_none) Try.func9 (by decide) (by kernel_rfl) (by kernel_rfl) (by decide) (LoopDef.cons (d2 n) LoopDef.nil) (fun x q => by kernel_rfl)
end laws_markRecSlotS
namespace laws_heldRecSlotS
@[reducible] def l2 : LSpec := ⟨[(0, .d (.slice tRecSlot)), (1, .d (.int .i64)), (5, .d (.int .i64))], [(.ret, [(4, .d (.int .i64))]), (.exit 0, [(1, .d (.int .i64))])]⟩
def B2 (n : Nat) {R : Type} (next : Sden l2.inS → Option R) (cs : Conts R l2.outs) (x : Sden l2.inS) : Option R :=
  if (decide (x.2.2.1 < (List.length x.1 : Int))) = true then
    if (decide (0 ≤ x.2.2.1 ∧ x.2.2.1 < (List.length x.1 : Int))) = true then
      if ((List.getD x.1 (Int.toNat x.2.2.1) (Ty.zero tRecSlot)).1 != x.2.1) = true then
        cs.1 ((-1 : Int), ())
      else if (!true || (decide (0 ≤ x.2.2.1 ∧ x.2.2.1 < (List.length x.1 : Int)))) = true then
        (if true = true then (laws_markText.f n ((IntKind.i64.wrap (x.2.1 + (1 : Int))), ())) else some (tzero [.str])).bind fun y1 =>
        if (!seq (List.getD x.1 (Int.toNat x.2.2.1) (Ty.zero tRecSlot)).2.1 y1.1) = true then
          cs.1 ((-1 : Int), ())
        else
          next (x.1, (IntKind.i64.wrap ((IntKind.i64.wrap (x.2.1 + (1 : Int))) + (1 : Int))), (IntKind.i64.wrap (x.2.2.1 + (1 : Int))), ())
      else
        none
    else
      none
  else
    cs.2.1 (x.2.1, ())
def f (n : Nat) (x : Tup [(.slice tRecSlot), (.int .i64)]) : Option (Tup [(.int .i64)]) :=
  runL (B2 n) ((fun z2 =>
      some (z2.1, ())), (fun z3 =>
      some (z3.1, ())), ()) n (x.1, x.2.1, (0 : Int), ())
@[reducible] def sig (n : Nat) : Sig := ⟨[(.slice tRecSlot), (.int .i64)], [(.int .i64)], false, f n, none⟩
def T (n : Nat) : FuncId → Option Sig := fun g => if Nat.beq g 15 = true then some (laws_markText.sig n) else none
def TL (n : Nat) : Loops := fun j _ st k => if Nat.beq j 2 = true then (match dec st l2.inS [] with | some x => runL (B2 n) (contsOf k l2.outs) n x | none => none) else none
theorem d2 (n : Nat) : LoopDef Try.prog (T n) (TL n) Try.f10 2 :=
  ⟨l2, fun R => B2 n, n, fun R st k => by kernel_rfl, fun R next cs x => by kernel_rfl⟩
theorem con (n : Nat) : Con Try.prog 10 (sig n) :=
  con_print (hsw := rfl) (T := T n) (TL := TL n) (c := Try.f10.body.getD .skip) (js := [2]) hMixed (conT_cons (laws_markText.con n) conT_none) Try.func10 (by decide) (by kernel_rfl) (by kernel_rfl) (by decide) (LoopDef.cons (d2 n) LoopDef.nil) (fun x => by kernel_rfl)
end laws_heldRecSlotS
namespace laws_FnExactRecMerge
def f (n : Nat) (x : Tup [(.slice tRecSlot), (.slice tRecSlot)]) : Option (Tup [.bool]) :=
  (laws_szRecSlotS.f n (x.1, (1048576 : Int), ())).bind fun y1 =>
  if (decide (y1.1 < (0 : Int))) = true then
    some (true, ())
  else
    (laws_szRecSlotS.f n (x.2.1, y1.1, ())).bind fun y2 =>
    if (decide (y2.1 < (0 : Int))) = true then
      some (true, ())
    else
      (laws_toRecSlotS.f n (x.1, ())).bind fun y3 =>
      (laws_toRecSlotS.f n (x.2.1, ())).bind fun y4 =>
      (spec_RecMerge.f n (y3.1, y4.1, ())).bind fun y5 =>
      (laws_toRecSlotS.f n (x.1, ())).bind fun y6 =>
      (laws_toRecSlotS.f n (x.2.1, ())).bind fun y7 =>
      (impl_RecMerge.f n (y6.1, y7.1, ())).bind fun y8 =>
      (laws_eqRecSlotS.f n (y8.1, y5.1, ())).bind fun y9 =>
      if (!y9.1) = true then
        some (false, ())
      else
        (laws_toRecSlotS.f n (x.1, ())).bind fun y10 =>
        (laws_eqRecSlotS.f n (y6.1, y10.1, ())).bind fun y11 =>
        if (!y11.1) = true then
          some (false, ())
        else
          (laws_toRecSlotS.f n (x.2.1, ())).bind fun y12 =>
          (laws_eqRecSlotS.f n (y7.1, y12.1, ())).bind fun y13 =>
          if (!y13.1) = true then
            some (false, ())
          else
            (laws_markRecSlotS.f n y6.1 ((1 : Int), ())).bind fun y14 =>
            (laws_markRecSlotS.f n y7.1 (y14.2.1, ())).bind fun y15 =>
            (if (!(decide (y15.2.1 < (0 : Int)))) = true then (laws_eqRecSlotS.f n (y8.1, y5.1, ())) else some (tzero [.bool])).bind fun y16 =>
            if ((decide (y15.2.1 < (0 : Int))) || (!y16.1)) = true then
              some (false, ())
            else
              (laws_markRecSlotS.f n y8.1 ((1 : Int), ())).bind fun y17 =>
              (laws_heldRecSlotS.f n (y17.1, (1 : Int), ())).bind fun y18 =>
              if (decide (y18.1 < (0 : Int))) = true then
                some (false, ())
              else if (y18.1 != y17.2.1) = true then
                some (false, ())
              else
                (laws_toRecSlotS.f n (x.1, ())).bind fun y19 =>
                (laws_toRecSlotS.f n (x.2.1, ())).bind fun y20 =>
                (impl_RecMerge.f n (y19.1, y20.1, ())).bind fun y21 =>
                (laws_eqRecSlotS.f n (y21.1, y5.1, ())).bind fun y22 =>
                if (!y22.1) = true then
                  some (false, ())
                else
                  (laws_heldRecSlotS.f n (y17.1, (1 : Int), ())).bind fun y23 =>
                  if (decide (y23.1 < (0 : Int))) = true then
                    some (false, ())
                  else if (y23.1 != y17.2.1) = true then
                    some (false, ())
                  else
                    some (true, ())
@[reducible] def sig (n : Nat) : Sig := ⟨[(.slice tRecSlot), (.slice tRecSlot)], [.bool], false, f n, none⟩
def T (n : Nat) : FuncId → Option Sig := fun g => if Nat.beq g 4 = true then some (laws_szRecSlotS.sig n) else if Nat.beq g 5 = true then some (spec_RecMerge.sig n) else if Nat.beq g 6 = true then some (laws_toRecSlotS.sig n) else if Nat.beq g 7 = true then some (impl_RecMerge.sig n) else if Nat.beq g 8 = true then some (laws_eqRecSlotS.sig n) else if Nat.beq g 9 = true then some (laws_markRecSlotS.sig n) else if Nat.beq g 10 = true then some (laws_heldRecSlotS.sig n) else none
def TL (n : Nat) : Loops := fun j _ st k => none
theorem con (n : Nat) : Con Try.prog 3 (sig n) :=
  con_print (hsw := rfl) (T := T n) (TL := TL n) (c := Try.f3.body.getD .skip) (js := []) hMixed (conT_cons (laws_szRecSlotS.con n) (conT_cons (spec_RecMerge.con n) (conT_cons (laws_toRecSlotS.con n) (conT_cons (impl_RecMerge.con n) (conT_cons (laws_eqRecSlotS.con n) (conT_cons (laws_markRecSlotS.con n) (conT_cons (laws_heldRecSlotS.con n) conT_none))))))) Try.func3 (by decide) (by kernel_rfl) (by kernel_rfl) (by decide) LoopDef.nil (fun x => by kernel_rfl)
end laws_FnExactRecMerge
end Go.Proofs.Ytjbpccinpcpdkaa
