import Derived.Test.YtjbpccinpcpdkabProg
import Derived.Test.YtjbpccinpcpdkabM2
set_option maxRecDepth 100000
set_option linter.unusedVariables false
namespace Go.Proofs.Ytjbpccinpcpdkab
open Go.Vm
abbrev tRecSlot : Ty := (.pair (.int .i64) (.pair .str .unit))
abbrev tRecDisk : Ty := (.pair (.int .i64) (.pair (.int .i64) (.pair (.slice tRecSlot) .unit)))
abbrev tRecMessage : Ty := (.pair (.int .i64) (.pair (.int .i64) (.pair (.int .i64) (.pair (.int .i64) (.pair (.int .i64) (.pair (.int .i64) (.pair .str (.pair (.slice tRecSlot) .unit))))))))
abbrev tRecAck : Ty := (.pair (.int .i64) (.pair (.slice (.int .i64)) .unit))
abbrev tRecorder : Ty := (.pair (.int .i64) (.pair (.int .i64) (.pair .bool (.pair tRecDisk (.pair tRecDisk (.pair (.slice tRecMessage) (.pair (.slice .str) (.pair .bool (.pair .bool (.pair (.int .i64) (.pair (.slice (.int .i64)) (.pair (.slice tRecSlot) (.pair (.slice tRecAck) (.pair (.int .i64) .unit))))))))))))))
theorem hMixed : Try.prog.follows .mixedOrders = true := by kernel_rfl
namespace spec_l21In
def f (n : Nat) (x : Tup [(.int .i64), (.int .i64), (.int .i64)]) : Option (Tup [.bool]) :=
  some (((decide (x.1 ≥ x.2.1)) && (decide (x.1 ≤ x.2.2.1))), ())
@[reducible] def sig (n : Nat) : Sig := ⟨[(.int .i64), (.int .i64), (.int .i64)], [.bool], false, f n, none⟩
def T (n : Nat) : FuncId → Option Sig := fun g => none
def TL (n : Nat) : Loops := fun j _ st k => none
theorem con (n : Nat) : Con Try.prog 9 (sig n) :=
  con_print (hsw := rfl) (T := T n) (TL := TL n) (c := Try.f9.body.getD .skip) (js := []) hMixed conT_none Try.func9 (by decide) (by kernel_rfl) (by kernel_rfl) (by decide) LoopDef.nil (fun x => by kernel_rfl)
end spec_l21In
namespace spec_RecNew
def f (n : Nat) (x : Tup [(.int .i64), (.int .i64)]) : Option (Tup [tRecorder]) :=
  (spec_l21In.f n (x.2.1, (1 : Int), (5 : Int), ())).bind fun y1 =>
  (if (!(!y1.1)) = true then (spec_l21In.f n (x.1, (1 : Int), x.2.1, ())) else some (tzero [.bool])).bind fun y2 =>
  if ((!y1.1) || (!y2.1)) = true then
    some (((0 : Int), (0 : Int), false, ((0 : Int), (0 : Int), [], ()), ((0 : Int), (0 : Int), [], ()), [], [], false, false, (0 : Int), [], [], [], (0 : Int), ()), ())
  else
    some ((x.1, x.2.1, true, ((0 : Int), (0 : Int), [], ()), ((0 : Int), (0 : Int), [], ()), [], [], false, false, (0 : Int), [], [], [], (0 : Int), ()), ())
@[reducible] def sig (n : Nat) : Sig := ⟨[(.int .i64), (.int .i64)], [tRecorder], true, f n, none⟩
def T (n : Nat) : FuncId → Option Sig := fun g => if Nat.beq g 9 = true then some (spec_l21In.sig n) else none
def TL (n : Nat) : Loops := fun j _ st k => none
theorem con (n : Nat) : Con Try.prog 4 (sig n) :=
  con_print (hsw := rfl) (T := T n) (TL := TL n) (c := Try.f4.body.getD .skip) (js := []) hMixed (conT_cons (spec_l21In.con n) conT_none) Try.func4 (by decide) (by kernel_rfl) (by kernel_rfl) (by decide) LoopDef.nil (fun x => by kernel_rfl)
end spec_RecNew
namespace impl_within_rec
def f (n : Nat) (x : Tup [(.int .i64), (.int .i64), (.int .i64)]) : Option (Tup [.bool]) :=
  some (((decide (x.1 ≥ x.2.1)) && (decide (x.1 ≤ x.2.2.1))), ())
@[reducible] def sig (n : Nat) : Sig := ⟨[(.int .i64), (.int .i64), (.int .i64)], [.bool], false, f n, none⟩
def T (n : Nat) : FuncId → Option Sig := fun g => none
def TL (n : Nat) : Loops := fun j _ st k => none
theorem con (n : Nat) : Con Try.prog 10 (sig n) :=
  con_print (hsw := rfl) (T := T n) (TL := TL n) (c := Try.f10.body.getD .skip) (js := []) hMixed conT_none Try.func10 (by decide) (by kernel_rfl) (by kernel_rfl) (by decide) LoopDef.nil (fun x => by kernel_rfl)
end impl_within_rec
namespace impl_RecNew
def f (n : Nat) (x : Tup [(.int .i64), (.int .i64)]) : Option (Tup [tRecorder]) :=
  (impl_within_rec.f n (x.2.1, (1 : Int), (5 : Int), ())).bind fun y1 =>
  (if (!(!y1.1)) = true then (impl_within_rec.f n (x.1, (1 : Int), x.2.1, ())) else some (tzero [.bool])).bind fun y2 =>
  if ((!y1.1) || (!y2.1)) = true then
    some (((0 : Int), (0 : Int), false, ((0 : Int), (0 : Int), [], ()), ((0 : Int), (0 : Int), [], ()), [], [], false, false, (0 : Int), [], [], [], (0 : Int), ()), ())
  else
    some ((x.1, x.2.1, true, ((0 : Int), (0 : Int), [], ()), ((0 : Int), (0 : Int), [], ()), [], [], false, false, (0 : Int), [], [], [], (0 : Int), ()), ())
@[reducible] def sig (n : Nat) : Sig := ⟨[(.int .i64), (.int .i64)], [tRecorder], true, f n, none⟩
def T (n : Nat) : FuncId → Option Sig := fun g => if Nat.beq g 10 = true then some (impl_within_rec.sig n) else none
def TL (n : Nat) : Loops := fun j _ st k => none
theorem con (n : Nat) : Con Try.prog 5 (sig n) :=
  con_print (hsw := rfl) (T := T n) (TL := TL n) (c := Try.f5.body.getD .skip) (js := []) hMixed (conT_cons (impl_within_rec.con n) conT_none) Try.func5 (by decide) (by kernel_rfl) (by kernel_rfl) (by decide) LoopDef.nil (fun x => by kernel_rfl)
end impl_RecNew
namespace laws_eqRecSlot
def f (n : Nat) (x : Tup [tRecSlot, tRecSlot]) : Option (Tup [.bool]) :=
  if (x.1.1 != x.2.1.1) = true then
    some (false, ())
  else if (!seq x.1.2.1 x.2.1.2.1) = true then
    some (false, ())
  else
    some (true, ())
@[reducible] def sig (n : Nat) : Sig := ⟨[tRecSlot, tRecSlot], [.bool], false, f n, none⟩
def T (n : Nat) : FuncId → Option Sig := fun g => none
def TL (n : Nat) : Loops := fun j _ st k => none
theorem con (n : Nat) : Con Try.prog 30 (sig n) :=
  con_print (hsw := rfl) (T := T n) (TL := TL n) (c := Try.f30.body.getD .skip) (js := []) hMixed conT_none Try.func30 (by decide) (by kernel_rfl) (by kernel_rfl) (by decide) LoopDef.nil (fun x => by kernel_rfl)
end laws_eqRecSlot
namespace laws_eqRecSlotS
@[reducible] def l4 : LSpec := ⟨[(0, .d (.slice tRecSlot)), (1, .d (.slice tRecSlot)), (5, .d (.int .i64))], [(.ret, [(4, .d .bool)]), (.exit 0, [])]⟩
def B4 (n : Nat) {R : Type} (next : Sden l4.inS → Option R) (cs : Conts R l4.outs) (x : Sden l4.inS) : Option R :=
  if (decide (x.2.2.1 < (List.length x.1 : Int))) = true then
    if (!true || (decide (0 ≤ x.2.2.1 ∧ x.2.2.1 < (List.length x.1 : Int)))) = true then
      if (!true || (decide (0 ≤ x.2.2.1 ∧ x.2.2.1 < (List.length x.2.1 : Int)))) = true then
        (laws_eqRecSlot.f n ((List.getD x.1 (Int.toNat x.2.2.1) (Ty.zero tRecSlot)), (List.getD x.2.1 (Int.toNat x.2.2.1) (Ty.zero tRecSlot)), ())).bind fun y1 =>
        if (!y1.1) = true then
          cs.1 (false, ())
        else
          next (x.1, x.2.1, (IntKind.i64.wrap (x.2.2.1 + (1 : Int))), ())
      else
        none
    else
      none
  else
    cs.2.1 ()
def f (n : Nat) (x : Tup [(.slice tRecSlot), (.slice tRecSlot)]) : Option (Tup [.bool]) :=
  if ((List.length x.1 : Int) != (List.length x.2.1 : Int)) = true then
    some (false, ())
  else
    runL (B4 n) ((fun z2 =>
        some (z2.1, ())), (fun z3 =>
        some (true, ())), ()) n (x.1, x.2.1, (0 : Int), ())
@[reducible] def sig (n : Nat) : Sig := ⟨[(.slice tRecSlot), (.slice tRecSlot)], [.bool], false, f n, none⟩
def T (n : Nat) : FuncId → Option Sig := fun g => if Nat.beq g 30 = true then some (laws_eqRecSlot.sig n) else none
def TL (n : Nat) : Loops := fun j _ st k => if Nat.beq j 4 = true then (match dec st l4.inS [] with | some x => runL (B4 n) (contsOf k l4.outs) n x | none => none) else none
theorem d4 (n : Nat) : LoopDef Try.prog (T n) (TL n) Try.f15 4 :=
  ⟨l4, fun R => B4 n, n, fun R st k => by kernel_rfl, fun R next cs x => by kernel_rfl⟩
theorem con (n : Nat) : Con Try.prog 15 (sig n) :=
  con_print (hsw := rfl) (T := T n) (TL := TL n) (c := Try.f15.body.getD .skip) (js := [4]) hMixed (conT_cons (laws_eqRecSlot.con n) conT_none) Try.func15 (by decide) (by kernel_rfl) (by kernel_rfl) (by decide) (LoopDef.cons (d4 n) LoopDef.nil) (fun x => by kernel_rfl)
end laws_eqRecSlotS
namespace laws_eqRecDisk
def f (n : Nat) (x : Tup [tRecDisk, tRecDisk]) : Option (Tup [.bool]) :=
  if (x.1.1 != x.2.1.1) = true then
    some (false, ())
  else if (x.1.2.1 != x.2.1.2.1) = true then
    some (false, ())
  else
    (laws_eqRecSlotS.f n (x.1.2.2.1, x.2.1.2.2.1, ())).bind fun y1 =>
    if (!y1.1) = true then
      some (false, ())
    else
      some (true, ())
@[reducible] def sig (n : Nat) : Sig := ⟨[tRecDisk, tRecDisk], [.bool], false, f n, none⟩
def T (n : Nat) : FuncId → Option Sig := fun g => if Nat.beq g 15 = true then some (laws_eqRecSlotS.sig n) else none
def TL (n : Nat) : Loops := fun j _ st k => none
theorem con (n : Nat) : Con Try.prog 11 (sig n) :=
  con_print (hsw := rfl) (T := T n) (TL := TL n) (c := Try.f11.body.getD .skip) (js := []) hMixed (conT_cons (laws_eqRecSlotS.con n) conT_none) Try.func11 (by decide) (by kernel_rfl) (by kernel_rfl) (by decide) LoopDef.nil (fun x => by kernel_rfl)
end laws_eqRecDisk
namespace laws_eqRecMessage
def f (n : Nat) (x : Tup [tRecMessage, tRecMessage]) : Option (Tup [.bool]) :=
  if (x.1.1 != x.2.1.1) = true then
    some (false, ())
  else if (x.1.2.1 != x.2.1.2.1) = true then
    some (false, ())
  else if (x.1.2.2.1 != x.2.1.2.2.1) = true then
    some (false, ())
  else if (x.1.2.2.2.1 != x.2.1.2.2.2.1) = true then
    some (false, ())
  else if (x.1.2.2.2.2.1 != x.2.1.2.2.2.2.1) = true then
    some (false, ())
  else if (x.1.2.2.2.2.2.1 != x.2.1.2.2.2.2.2.1) = true then
    some (false, ())
  else if (!seq x.1.2.2.2.2.2.2.1 x.2.1.2.2.2.2.2.2.1) = true then
    some (false, ())
  else
    (laws_eqRecSlotS.f n (x.1.2.2.2.2.2.2.2.1, x.2.1.2.2.2.2.2.2.2.1, ())).bind fun y1 =>
    if (!y1.1) = true then
      some (false, ())
    else
      some (true, ())
@[reducible] def sig (n : Nat) : Sig := ⟨[tRecMessage, tRecMessage], [.bool], false, f n, none⟩
def T (n : Nat) : FuncId → Option Sig := fun g => if Nat.beq g 15 = true then some (laws_eqRecSlotS.sig n) else none
def TL (n : Nat) : Loops := fun j _ st k => none
theorem con (n : Nat) : Con Try.prog 29 (sig n) :=
  con_print (hsw := rfl) (T := T n) (TL := TL n) (c := Try.f29.body.getD .skip) (js := []) hMixed (conT_cons (laws_eqRecSlotS.con n) conT_none) Try.func29 (by decide) (by kernel_rfl) (by kernel_rfl) (by decide) LoopDef.nil (fun x => by kernel_rfl)
end laws_eqRecMessage
namespace laws_eqRecMessageS
@[reducible] def l4 : LSpec := ⟨[(0, .d (.slice tRecMessage)), (1, .d (.slice tRecMessage)), (5, .d (.int .i64))], [(.ret, [(4, .d .bool)]), (.exit 0, [])]⟩
def B4 (n : Nat) {R : Type} (next : Sden l4.inS → Option R) (cs : Conts R l4.outs) (x : Sden l4.inS) : Option R :=
  if (decide (x.2.2.1 < (List.length x.1 : Int))) = true then
    if (!true || (decide (0 ≤ x.2.2.1 ∧ x.2.2.1 < (List.length x.1 : Int)))) = true then
      if (!true || (decide (0 ≤ x.2.2.1 ∧ x.2.2.1 < (List.length x.2.1 : Int)))) = true then
        (laws_eqRecMessage.f n ((List.getD x.1 (Int.toNat x.2.2.1) (Ty.zero tRecMessage)), (List.getD x.2.1 (Int.toNat x.2.2.1) (Ty.zero tRecMessage)), ())).bind fun y1 =>
        if (!y1.1) = true then
          cs.1 (false, ())
        else
          next (x.1, x.2.1, (IntKind.i64.wrap (x.2.2.1 + (1 : Int))), ())
      else
        none
    else
      none
  else
    cs.2.1 ()
def f (n : Nat) (x : Tup [(.slice tRecMessage), (.slice tRecMessage)]) : Option (Tup [.bool]) :=
  if ((List.length x.1 : Int) != (List.length x.2.1 : Int)) = true then
    some (false, ())
  else
    runL (B4 n) ((fun z2 =>
        some (z2.1, ())), (fun z3 =>
        some (true, ())), ()) n (x.1, x.2.1, (0 : Int), ())
@[reducible] def sig (n : Nat) : Sig := ⟨[(.slice tRecMessage), (.slice tRecMessage)], [.bool], false, f n, none⟩
def T (n : Nat) : FuncId → Option Sig := fun g => if Nat.beq g 29 = true then some (laws_eqRecMessage.sig n) else none
def TL (n : Nat) : Loops := fun j _ st k => if Nat.beq j 4 = true then (match dec st l4.inS [] with | some x => runL (B4 n) (contsOf k l4.outs) n x | none => none) else none
theorem d4 (n : Nat) : LoopDef Try.prog (T n) (TL n) Try.f12 4 :=
  ⟨l4, fun R => B4 n, n, fun R st k => by kernel_rfl, fun R next cs x => by kernel_rfl⟩
theorem con (n : Nat) : Con Try.prog 12 (sig n) :=
  con_print (hsw := rfl) (T := T n) (TL := TL n) (c := Try.f12.body.getD .skip) (js := [4]) hMixed (conT_cons (laws_eqRecMessage.con n) conT_none) Try.func12 (by decide) (by kernel_rfl) (by kernel_rfl) (by decide) (LoopDef.cons (d4 n) LoopDef.nil) (fun x => by kernel_rfl)
end laws_eqRecMessageS
namespace laws_eqStringS
@[reducible] def l4 : LSpec := ⟨[(0, .d (.slice .str)), (1, .d (.slice .str)), (5, .d (.int .i64))], [(.ret, [(4, .d .bool)]), (.exit 0, [])]⟩
def B4 (n : Nat) {R : Type} (next : Sden l4.inS → Option R) (cs : Conts R l4.outs) (x : Sden l4.inS) : Option R :=
  if (decide (x.2.2.1 < (List.length x.1 : Int))) = true then
    if (!true || (decide (0 ≤ x.2.2.1 ∧ x.2.2.1 < (List.length x.1 : Int)))) = true then
      if (!true || (decide (0 ≤ x.2.2.1 ∧ x.2.2.1 < (List.length x.2.1 : Int)))) = true then
        if (!seq (List.getD x.1 (Int.toNat x.2.2.1) (⟨#[]⟩ : ByteArray)) (List.getD x.2.1 (Int.toNat x.2.2.1) (⟨#[]⟩ : ByteArray))) = true then
          cs.1 (false, ())
        else
          next (x.1, x.2.1, (IntKind.i64.wrap (x.2.2.1 + (1 : Int))), ())
      else
        none
    else
      none
  else
    cs.2.1 ()
def f (n : Nat) (x : Tup [(.slice .str), (.slice .str)]) : Option (Tup [.bool]) :=
  if ((List.length x.1 : Int) != (List.length x.2.1 : Int)) = true then
    some (false, ())
  else
    runL (B4 n) ((fun z1 =>
        some (z1.1, ())), (fun z2 =>
        some (true, ())), ()) n (x.1, x.2.1, (0 : Int), ())
@[reducible] def sig (n : Nat) : Sig := ⟨[(.slice .str), (.slice .str)], [.bool], false, f n, none⟩
def T (n : Nat) : FuncId → Option Sig := fun g => none
def TL (n : Nat) : Loops := fun j _ st k => if Nat.beq j 4 = true then (match dec st l4.inS [] with | some x => runL (B4 n) (contsOf k l4.outs) n x | none => none) else none
theorem d4 (n : Nat) : LoopDef Try.prog (T n) (TL n) Try.f13 4 :=
  ⟨l4, fun R => B4 n, n, fun R st k => by kernel_rfl, fun R next cs x => by kernel_rfl⟩
theorem con (n : Nat) : Con Try.prog 13 (sig n) :=
  con_print (hsw := rfl) (T := T n) (TL := TL n) (c := Try.f13.body.getD .skip) (js := [4]) hMixed conT_none Try.func13 (by decide) (by kernel_rfl) (by kernel_rfl) (by decide) (LoopDef.cons (d4 n) LoopDef.nil) (fun x => by kernel_rfl)
end laws_eqStringS
namespace laws_eqIntS
@[reducible] def l4 : LSpec := ⟨[(0, .d (.slice (.int .i64))), (1, .d (.slice (.int .i64))), (5, .d (.int .i64))], [(.ret, [(4, .d .bool)]), (.exit 0, [])]⟩
def B4 (n : Nat) {R : Type} (next : Sden l4.inS → Option R) (cs : Conts R l4.outs) (x : Sden l4.inS) : Option R :=
  if (decide (x.2.2.1 < (List.length x.1 : Int))) = true then
    if (!true || (decide (0 ≤ x.2.2.1 ∧ x.2.2.1 < (List.length x.1 : Int)))) = true then
      if (!true || (decide (0 ≤ x.2.2.1 ∧ x.2.2.1 < (List.length x.2.1 : Int)))) = true then
        if ((List.getD x.1 (Int.toNat x.2.2.1) (0 : Int)) != (List.getD x.2.1 (Int.toNat x.2.2.1) (0 : Int))) = true then
          cs.1 (false, ())
        else
          next (x.1, x.2.1, (IntKind.i64.wrap (x.2.2.1 + (1 : Int))), ())
      else
        none
    else
      none
  else
    cs.2.1 ()
def f (n : Nat) (x : Tup [(.slice (.int .i64)), (.slice (.int .i64))]) : Option (Tup [.bool]) :=
  if ((List.length x.1 : Int) != (List.length x.2.1 : Int)) = true then
    some (false, ())
  else
    runL (B4 n) ((fun z1 =>
        some (z1.1, ())), (fun z2 =>
        some (true, ())), ()) n (x.1, x.2.1, (0 : Int), ())
@[reducible] def sig (n : Nat) : Sig := ⟨[(.slice (.int .i64)), (.slice (.int .i64))], [.bool], false, f n, none⟩
def T (n : Nat) : FuncId → Option Sig := fun g => none
def TL (n : Nat) : Loops := fun j _ st k => if Nat.beq j 4 = true then (match dec st l4.inS [] with | some x => runL (B4 n) (contsOf k l4.outs) n x | none => none) else none
theorem d4 (n : Nat) : LoopDef Try.prog (T n) (TL n) Try.f14 4 :=
  ⟨l4, fun R => B4 n, n, fun R st k => by kernel_rfl, fun R next cs x => by kernel_rfl⟩
theorem con (n : Nat) : Con Try.prog 14 (sig n) :=
  con_print (hsw := rfl) (T := T n) (TL := TL n) (c := Try.f14.body.getD .skip) (js := [4]) hMixed conT_none Try.func14 (by decide) (by kernel_rfl) (by kernel_rfl) (by decide) (LoopDef.cons (d4 n) LoopDef.nil) (fun x => by kernel_rfl)
end laws_eqIntS
namespace laws_eqRecAck
def f (n : Nat) (x : Tup [tRecAck, tRecAck]) : Option (Tup [.bool]) :=
  if (x.1.1 != x.2.1.1) = true then
    some (false, ())
  else
    (laws_eqIntS.f n (x.1.2.1, x.2.1.2.1, ())).bind fun y1 =>
    if (!y1.1) = true then
      some (false, ())
    else
      some (true, ())
@[reducible] def sig (n : Nat) : Sig := ⟨[tRecAck, tRecAck], [.bool], false, f n, none⟩
def T (n : Nat) : FuncId → Option Sig := fun g => if Nat.beq g 14 = true then some (laws_eqIntS.sig n) else none
def TL (n : Nat) : Loops := fun j _ st k => none
theorem con (n : Nat) : Con Try.prog 31 (sig n) :=
  con_print (hsw := rfl) (T := T n) (TL := TL n) (c := Try.f31.body.getD .skip) (js := []) hMixed (conT_cons (laws_eqIntS.con n) conT_none) Try.func31 (by decide) (by kernel_rfl) (by kernel_rfl) (by decide) LoopDef.nil (fun x => by kernel_rfl)
end laws_eqRecAck
namespace laws_eqRecAckS
@[reducible] def l4 : LSpec := ⟨[(0, .d (.slice tRecAck)), (1, .d (.slice tRecAck)), (5, .d (.int .i64))], [(.ret, [(4, .d .bool)]), (.exit 0, [])]⟩
def B4 (n : Nat) {R : Type} (next : Sden l4.inS → Option R) (cs : Conts R l4.outs) (x : Sden l4.inS) : Option R :=
  if (decide (x.2.2.1 < (List.length x.1 : Int))) = true then
    if (!true || (decide (0 ≤ x.2.2.1 ∧ x.2.2.1 < (List.length x.1 : Int)))) = true then
      if (!true || (decide (0 ≤ x.2.2.1 ∧ x.2.2.1 < (List.length x.2.1 : Int)))) = true then
        (laws_eqRecAck.f n ((List.getD x.1 (Int.toNat x.2.2.1) (Ty.zero tRecAck)), (List.getD x.2.1 (Int.toNat x.2.2.1) (Ty.zero tRecAck)), ())).bind fun y1 =>
        if (!y1.1) = true then
          cs.1 (false, ())
        else
          next (x.1, x.2.1, (IntKind.i64.wrap (x.2.2.1 + (1 : Int))), ())
      else
        none
    else
      none
  else
    cs.2.1 ()
def f (n : Nat) (x : Tup [(.slice tRecAck), (.slice tRecAck)]) : Option (Tup [.bool]) :=
  if ((List.length x.1 : Int) != (List.length x.2.1 : Int)) = true then
    some (false, ())
  else
    runL (B4 n) ((fun z2 =>
        some (z2.1, ())), (fun z3 =>
        some (true, ())), ()) n (x.1, x.2.1, (0 : Int), ())
@[reducible] def sig (n : Nat) : Sig := ⟨[(.slice tRecAck), (.slice tRecAck)], [.bool], false, f n, none⟩
def T (n : Nat) : FuncId → Option Sig := fun g => if Nat.beq g 31 = true then some (laws_eqRecAck.sig n) else none
def TL (n : Nat) : Loops := fun j _ st k => if Nat.beq j 4 = true then (match dec st l4.inS [] with | some x => runL (B4 n) (contsOf k l4.outs) n x | none => none) else none
theorem d4 (n : Nat) : LoopDef Try.prog (T n) (TL n) Try.f16 4 :=
  ⟨l4, fun R => B4 n, n, fun R st k => by kernel_rfl, fun R next cs x => by kernel_rfl⟩
theorem con (n : Nat) : Con Try.prog 16 (sig n) :=
  con_print (hsw := rfl) (T := T n) (TL := TL n) (c := Try.f16.body.getD .skip) (js := [4]) hMixed (conT_cons (laws_eqRecAck.con n) conT_none) Try.func16 (by decide) (by kernel_rfl) (by kernel_rfl) (by decide) (LoopDef.cons (d4 n) LoopDef.nil) (fun x => by kernel_rfl)
end laws_eqRecAckS
namespace laws_eqRecorder
def f (n : Nat) (x : Tup [tRecorder, tRecorder]) : Option (Tup [.bool]) :=
  if (x.1.1 != x.2.1.1) = true then
    some (false, ())
  else if (x.1.2.1 != x.2.1.2.1) = true then
    some (false, ())
  else if (!(x.1.2.2.1 == x.2.1.2.2.1)) = true then
    some (false, ())
  else
    (laws_eqRecDisk.f n (x.1.2.2.2.1, x.2.1.2.2.2.1, ())).bind fun y1 =>
    if (!y1.1) = true then
      some (false, ())
    else
      (laws_eqRecDisk.f n (x.1.2.2.2.2.1, x.2.1.2.2.2.2.1, ())).bind fun y2 =>
      if (!y2.1) = true then
        some (false, ())
      else
        (laws_eqRecMessageS.f n (x.1.2.2.2.2.2.1, x.2.1.2.2.2.2.2.1, ())).bind fun y3 =>
        if (!y3.1) = true then
          some (false, ())
        else
          (laws_eqStringS.f n (x.1.2.2.2.2.2.2.1, x.2.1.2.2.2.2.2.2.1, ())).bind fun y4 =>
          if (!y4.1) = true then
            some (false, ())
          else if (!(x.1.2.2.2.2.2.2.2.1 == x.2.1.2.2.2.2.2.2.2.1)) = true then
            some (false, ())
          else if (!(x.1.2.2.2.2.2.2.2.2.1 == x.2.1.2.2.2.2.2.2.2.2.1)) = true then
            some (false, ())
          else if (x.1.2.2.2.2.2.2.2.2.2.1 != x.2.1.2.2.2.2.2.2.2.2.2.1) = true then
            some (false, ())
          else
            (laws_eqIntS.f n (x.1.2.2.2.2.2.2.2.2.2.2.1, x.2.1.2.2.2.2.2.2.2.2.2.2.1, ())).bind fun y5 =>
            if (!y5.1) = true then
              some (false, ())
            else
              (laws_eqRecSlotS.f n (x.1.2.2.2.2.2.2.2.2.2.2.2.1, x.2.1.2.2.2.2.2.2.2.2.2.2.2.1, ())).bind fun y6 =>
              if (!y6.1) = true then
                some (false, ())
              else
                (laws_eqRecAckS.f n (x.1.2.2.2.2.2.2.2.2.2.2.2.2.1, x.2.1.2.2.2.2.2.2.2.2.2.2.2.2.1, ())).bind fun y7 =>
                if (!y7.1) = true then
                  some (false, ())
                else if (x.1.2.2.2.2.2.2.2.2.2.2.2.2.2.1 != x.2.1.2.2.2.2.2.2.2.2.2.2.2.2.2.1) = true then
                  some (false, ())
                else
                  some (true, ())
@[reducible] def sig (n : Nat) : Sig := ⟨[tRecorder, tRecorder], [.bool], false, f n, none⟩
def T (n : Nat) : FuncId → Option Sig := fun g => if Nat.beq g 11 = true then some (laws_eqRecDisk.sig n) else if Nat.beq g 12 = true then some (laws_eqRecMessageS.sig n) else if Nat.beq g 13 = true then some (laws_eqStringS.sig n) else if Nat.beq g 14 = true then some (laws_eqIntS.sig n) else if Nat.beq g 15 = true then some (laws_eqRecSlotS.sig n) else if Nat.beq g 16 = true then some (laws_eqRecAckS.sig n) else none
def TL (n : Nat) : Loops := fun j _ st k => none
theorem con (n : Nat) : Con Try.prog 6 (sig n) :=
  con_print (hsw := rfl) (T := T n) (TL := TL n) (c := Try.f6.body.getD .skip) (js := []) hMixed (conT_cons (laws_eqRecDisk.con n) (conT_cons (laws_eqRecMessageS.con n) (conT_cons (laws_eqStringS.con n) (conT_cons (laws_eqIntS.con n) (conT_cons (laws_eqRecSlotS.con n) (conT_cons (laws_eqRecAckS.con n) conT_none)))))) Try.func6 (by decide) (by kernel_rfl) (by kernel_rfl) (by decide) LoopDef.nil (fun x => by kernel_rfl)
end laws_eqRecorder
namespace laws_markText
@[reducible] def l4 : LSpec := ⟨[(0, .d (.int .i64)), (3, .d .str)], [(.exit 0, [(3, .d .str)])]⟩
def B4 (n : Nat) {R : Type} (next : Sden l4.inS → Option R) (cs : Conts R l4.outs) (x : Sden l4.inS) : Option R :=
  if (decide (x.1 > (0 : Int))) = true then
    if ((10 : Int) != 0) = true then
      if (decide ((ByteArray.size (ofBytes [(IntKind.u8.wrap (IntKind.i64.wrap ((48 : Int) + (Int.tmod x.1 (10 : Int)))))]) : Int) + (ByteArray.size x.2.1 : Int) ≤ 9223372036854775807)) = true then
        if ((10 : Int) != 0) = true then
          next ((IntKind.i64.wrap (Int.tdiv x.1 (10 : Int))), (scat (ofBytes [(IntKind.u8.wrap (IntKind.i64.wrap ((48 : Int) + (Int.tmod x.1 (10 : Int)))))]) x.2.1), ())
        else
          none
      else
        none
    else
      none
  else
    cs.1 (x.2.1, ())
def f (n : Nat) (x : Tup [(.int .i64)]) : Option (Tup [.str]) :=
  if (decide (x.1 ≤ (0 : Int))) = true then
    some ((⟨#[109, 48]⟩ : ByteArray), ())
  else
    runL (B4 n) ((fun z1 =>
        if (decide ((ByteArray.size (⟨#[109]⟩ : ByteArray) : Int) + (ByteArray.size z1.1 : Int) ≤ 9223372036854775807)) = true then
          some ((scat (⟨#[109]⟩ : ByteArray) z1.1), ())
        else
          none), ()) n (x.1, (⟨#[]⟩ : ByteArray), ())
@[reducible] def sig (n : Nat) : Sig := ⟨[(.int .i64)], [.str], false, f n, none⟩
def T (n : Nat) : FuncId → Option Sig := fun g => none
def TL (n : Nat) : Loops := fun j _ st k => if Nat.beq j 4 = true then (match dec st l4.inS [] with | some x => runL (B4 n) (contsOf k l4.outs) n x | none => none) else none
theorem d4 (n : Nat) : LoopDef Try.prog (T n) (TL n) Try.f32 4 :=
  ⟨l4, fun R => B4 n, n, fun R st k => by kernel_rfl, fun R next cs x => by kernel_rfl⟩
theorem con (n : Nat) : Con Try.prog 32 (sig n) :=
  con_print (hsw := rfl) (T := T n) (TL := TL n) (c := Try.f32.body.getD .skip) (js := [4]) hMixed conT_none Try.func32 (by decide) (by kernel_rfl) (by kernel_rfl) (by decide) (LoopDef.cons (d4 n) LoopDef.nil) (fun x => by kernel_rfl)
end laws_markText
namespace laws_markRecSlotS
@[reducible] def l2 : LSpec := ⟨[(0, .row true tRecSlot), (1, .d (.int .i64)), (5, .d (.int .i64))], [(.exit 0, [(0, .row true tRecSlot), (1, .d (.int .i64))])]⟩
def B2 (n : Nat) {R : Type} (next : Sden l2.inS → Option R) (cs : Conts R l2.outs) (x : Sden l2.inS) : Option R :=
  if (decide (x.2.2.1 < (List.length x.1 : Int))) = true then
    if (decide (0 ≤ x.2.2.1 ∧ x.2.2.1 < (List.length x.1 : Int))) = true then
      (laws_markText.f n ((IntKind.i64.wrap (x.2.1 + (1 : Int))), ())).bind fun y1 =>
      if (decide (0 ≤ x.2.2.1 ∧ x.2.2.1 < (List.length (List.set x.1 (Int.toNat x.2.2.1) (x.2.1, (List.getD x.1 (Int.toNat x.2.2.1) (Ty.zero tRecSlot)).2)) : Int))) = true then
        let w2 : List (Ty.den tRecSlot) := (List.set (List.set x.1 (Int.toNat x.2.2.1) (x.2.1, (List.getD x.1 (Int.toNat x.2.2.1) (Ty.zero tRecSlot)).2)) (Int.toNat x.2.2.1) ((List.getD (List.set x.1 (Int.toNat x.2.2.1) (x.2.1, (List.getD x.1 (Int.toNat x.2.2.1) (Ty.zero tRecSlot)).2)) (Int.toNat x.2.2.1) (Ty.zero tRecSlot)).1, y1.1, ()))
        next (w2, (IntKind.i64.wrap ((IntKind.i64.wrap (x.2.1 + (1 : Int))) + (1 : Int))), (IntKind.i64.wrap (x.2.2.1 + (1 : Int))), ())
      else
        none
    else
      none
  else
    cs.1 (x.1, x.2.1, ())
def f (n : Nat) (x : Ty.den (.slice tRecSlot)) (q : Tup [(.int .i64)]) : Option (Ty.den (.slice tRecSlot) × Tup [(.int .i64)]) :=
  runL (B2 n) ((fun z3 =>
      some (z3.1, z3.2.1, ())), ()) n (x, q.1, (0 : Int), ())
@[reducible] def sig (n : Nat) : Sig := ⟨[], [], false, fun _ => none, some ⟨(.slice tRecSlot), [(.int .i64)], [(.int .i64)], f n⟩⟩
def T (n : Nat) : FuncId → Option Sig := fun g => if Nat.beq g 32 = true then some (laws_markText.sig n) else none
def TL (n : Nat) : Loops := fun j _ st k => if Nat.beq j 2 = true then (match dec st l2.inS [] with | some x => runL (B2 n) (contsOf k l2.outs) n x | none => none) else none
theorem d2 (n : Nat) : LoopDefL Try.prog (T n) (TL n) Try.f21 1 2 :=
  ⟨l2, fun R => B2 n, n, fun R st k => by kernel_rfl, fun R next cs x => by kernel_rfl⟩
theorem con (n : Nat) : Con Try.prog 21 (sig n) :=
  con_printW (T := T n) (TL := TL n) (c := Try.f21.body.getD .skip) (js := [2]) hMixed (conT_cons (laws_markText.con n) conT_none) Try.func21 (by decide) (by kernel_rfl) (by kernel_rfl) (by decide) (LoopDef.cons (d2 n) LoopDef.nil) (fun x q => by kernel_rfl)
end laws_markRecSlotS
namespace laws_markRecDisk
def f (n : Nat) (x : Ty.den tRecDisk) (q : Tup [(.int .i64)]) : Option (Ty.den tRecDisk × Tup [(.int .i64)]) :=
  (laws_markRecSlotS.f n x.2.2.1 (q.1, ())).bind fun y1 =>
  some ((x.1, x.2.1, y1.1, ()), y1.2.1, ())
@[reducible] def sig (n : Nat) : Sig := ⟨[], [], false, fun _ => none, some ⟨tRecDisk, [(.int .i64)], [(.int .i64)], f n⟩⟩
def T (n : Nat) : FuncId → Option Sig := fun g => if Nat.beq g 21 = true then some (laws_markRecSlotS.sig n) else none
def TL (n : Nat) : Loops := fun j _ st k => none
theorem con (n : Nat) : Con Try.prog 17 (sig n) :=
  con_printW (T := T n) (TL := TL n) (c := Try.f17.body.getD .skip) (js := []) hMixed (conT_cons (laws_markRecSlotS.con n) conT_none) Try.func17 (by decide) (by kernel_rfl) (by kernel_rfl) (by decide) LoopDef.nil (fun x q => by kernel_rfl)
end laws_markRecDisk
namespace laws_markRecMessageS
@[reducible] def l2 : LSpec := ⟨[(0, .row true tRecMessage), (1, .d (.int .i64)), (5, .d (.int .i64))], [(.exit 0, [(0, .row true tRecMessage), (1, .d (.int .i64))])]⟩
def B2 (n : Nat) {R : Type} (next : Sden l2.inS → Option R) (cs : Conts R l2.outs) (x : Sden l2.inS) : Option R :=
  if (decide (x.2.2.1 < (List.length x.1 : Int))) = true then
    if (decide (0 ≤ x.2.2.1 ∧ x.2.2.1 < (List.length x.1 : Int))) = true then
      if (decide (0 ≤ x.2.2.1 ∧ x.2.2.1 < (List.length (List.set x.1 (Int.toNat x.2.2.1) (x.2.1, (List.getD x.1 (Int.toNat x.2.2.1) (Ty.zero tRecMessage)).2)) : Int))) = true then
        let w1 : List (Ty.den tRecMessage) := (List.set (List.set x.1 (Int.toNat x.2.2.1) (x.2.1, (List.getD x.1 (Int.toNat x.2.2.1) (Ty.zero tRecMessage)).2)) (Int.toNat x.2.2.1) ((List.getD (List.set x.1 (Int.toNat x.2.2.1) (x.2.1, (List.getD x.1 (Int.toNat x.2.2.1) (Ty.zero tRecMessage)).2)) (Int.toNat x.2.2.1) (Ty.zero tRecMessage)).1, (IntKind.i64.wrap (x.2.1 + (1 : Int))), (List.getD (List.set x.1 (Int.toNat x.2.2.1) (x.2.1, (List.getD x.1 (Int.toNat x.2.2.1) (Ty.zero tRecMessage)).2)) (Int.toNat x.2.2.1) (Ty.zero tRecMessage)).2.2))
        if (decide (0 ≤ x.2.2.1 ∧ x.2.2.1 < (List.length w1 : Int))) = true then
          let w2 : List (Ty.den tRecMessage) := (List.set w1 (Int.toNat x.2.2.1) ((List.getD w1 (Int.toNat x.2.2.1) (Ty.zero tRecMessage)).1, (List.getD w1 (Int.toNat x.2.2.1) (Ty.zero tRecMessage)).2.1, (IntKind.i64.wrap ((IntKind.i64.wrap (x.2.1 + (1 : Int))) + (1 : Int))), (List.getD w1 (Int.toNat x.2.2.1) (Ty.zero tRecMessage)).2.2.2))
          if (decide (0 ≤ x.2.2.1 ∧ x.2.2.1 < (List.length w2 : Int))) = true then
            let w3 : List (Ty.den tRecMessage) := (List.set w2 (Int.toNat x.2.2.1) ((List.getD w2 (Int.toNat x.2.2.1) (Ty.zero tRecMessage)).1, (List.getD w2 (Int.toNat x.2.2.1) (Ty.zero tRecMessage)).2.1, (List.getD w2 (Int.toNat x.2.2.1) (Ty.zero tRecMessage)).2.2.1, (IntKind.i64.wrap ((IntKind.i64.wrap ((IntKind.i64.wrap (x.2.1 + (1 : Int))) + (1 : Int))) + (1 : Int))), (List.getD w2 (Int.toNat x.2.2.1) (Ty.zero tRecMessage)).2.2.2.2))
            if (decide (0 ≤ x.2.2.1 ∧ x.2.2.1 < (List.length w3 : Int))) = true then
              let w4 : List (Ty.den tRecMessage) := (List.set w3 (Int.toNat x.2.2.1) ((List.getD w3 (Int.toNat x.2.2.1) (Ty.zero tRecMessage)).1, (List.getD w3 (Int.toNat x.2.2.1) (Ty.zero tRecMessage)).2.1, (List.getD w3 (Int.toNat x.2.2.1) (Ty.zero tRecMessage)).2.2.1, (List.getD w3 (Int.toNat x.2.2.1) (Ty.zero tRecMessage)).2.2.2.1, (IntKind.i64.wrap ((IntKind.i64.wrap ((IntKind.i64.wrap ((IntKind.i64.wrap (x.2.1 + (1 : Int))) + (1 : Int))) + (1 : Int))) + (1 : Int))), (List.getD w3 (Int.toNat x.2.2.1) (Ty.zero tRecMessage)).2.2.2.2.2))
              if (decide (0 ≤ x.2.2.1 ∧ x.2.2.1 < (List.length w4 : Int))) = true then
                let w5 : List (Ty.den tRecMessage) := (List.set w4 (Int.toNat x.2.2.1) ((List.getD w4 (Int.toNat x.2.2.1) (Ty.zero tRecMessage)).1, (List.getD w4 (Int.toNat x.2.2.1) (Ty.zero tRecMessage)).2.1, (List.getD w4 (Int.toNat x.2.2.1) (Ty.zero tRecMessage)).2.2.1, (List.getD w4 (Int.toNat x.2.2.1) (Ty.zero tRecMessage)).2.2.2.1, (List.getD w4 (Int.toNat x.2.2.1) (Ty.zero tRecMessage)).2.2.2.2.1, (IntKind.i64.wrap ((IntKind.i64.wrap ((IntKind.i64.wrap ((IntKind.i64.wrap ((IntKind.i64.wrap (x.2.1 + (1 : Int))) + (1 : Int))) + (1 : Int))) + (1 : Int))) + (1 : Int))), (List.getD w4 (Int.toNat x.2.2.1) (Ty.zero tRecMessage)).2.2.2.2.2.2))
                (laws_markText.f n ((IntKind.i64.wrap ((IntKind.i64.wrap ((IntKind.i64.wrap ((IntKind.i64.wrap ((IntKind.i64.wrap ((IntKind.i64.wrap (x.2.1 + (1 : Int))) + (1 : Int))) + (1 : Int))) + (1 : Int))) + (1 : Int))) + (1 : Int))), ())).bind fun y6 =>
                if (decide (0 ≤ x.2.2.1 ∧ x.2.2.1 < (List.length w5 : Int))) = true then
                  let w7 : List (Ty.den tRecMessage) := (List.set w5 (Int.toNat x.2.2.1) ((List.getD w5 (Int.toNat x.2.2.1) (Ty.zero tRecMessage)).1, (List.getD w5 (Int.toNat x.2.2.1) (Ty.zero tRecMessage)).2.1, (List.getD w5 (Int.toNat x.2.2.1) (Ty.zero tRecMessage)).2.2.1, (List.getD w5 (Int.toNat x.2.2.1) (Ty.zero tRecMessage)).2.2.2.1, (List.getD w5 (Int.toNat x.2.2.1) (Ty.zero tRecMessage)).2.2.2.2.1, (List.getD w5 (Int.toNat x.2.2.1) (Ty.zero tRecMessage)).2.2.2.2.2.1, y6.1, (List.getD w5 (Int.toNat x.2.2.1) (Ty.zero tRecMessage)).2.2.2.2.2.2.2))
                  if (decide (0 ≤ x.2.2.1 ∧ x.2.2.1 < (List.length w7 : Int))) = true then
                    (laws_markRecSlotS.f n (List.getD w7 (Int.toNat x.2.2.1) (Ty.zero tRecMessage)).2.2.2.2.2.2.2.1 ((IntKind.i64.wrap ((IntKind.i64.wrap ((IntKind.i64.wrap ((IntKind.i64.wrap ((IntKind.i64.wrap ((IntKind.i64.wrap ((IntKind.i64.wrap (x.2.1 + (1 : Int))) + (1 : Int))) + (1 : Int))) + (1 : Int))) + (1 : Int))) + (1 : Int))) + (1 : Int))), ())).bind fun y8 =>
                    let w9 : List (Ty.den tRecMessage) := (List.set w7 (Int.toNat x.2.2.1) ((List.getD w7 (Int.toNat x.2.2.1) (Ty.zero tRecMessage)).1, (List.getD w7 (Int.toNat x.2.2.1) (Ty.zero tRecMessage)).2.1, (List.getD w7 (Int.toNat x.2.2.1) (Ty.zero tRecMessage)).2.2.1, (List.getD w7 (Int.toNat x.2.2.1) (Ty.zero tRecMessage)).2.2.2.1, (List.getD w7 (Int.toNat x.2.2.1) (Ty.zero tRecMessage)).2.2.2.2.1, (List.getD w7 (Int.toNat x.2.2.1) (Ty.zero tRecMessage)).2.2.2.2.2.1, (List.getD w7 (Int.toNat x.2.2.1) (Ty.zero tRecMessage)).2.2.2.2.2.2.1, y8.1, (List.getD w7 (Int.toNat x.2.2.1) (Ty.zero tRecMessage)).2.2.2.2.2.2.2.2))
                    next (w9, y8.2.1, (IntKind.i64.wrap (x.2.2.1 + (1 : Int))), ())
                  else
                    none
                else
                  none
              else
                none
            else
              none
          else
            none
        else
          none
      else
        none
    else
      none
  else
    cs.1 (x.1, x.2.1, ())
def f (n : Nat) (x : Ty.den (.slice tRecMessage)) (q : Tup [(.int .i64)]) : Option (Ty.den (.slice tRecMessage) × Tup [(.int .i64)]) :=
  runL (B2 n) ((fun z10 =>
      some (z10.1, z10.2.1, ())), ()) n (x, q.1, (0 : Int), ())
@[reducible] def sig (n : Nat) : Sig := ⟨[], [], false, fun _ => none, some ⟨(.slice tRecMessage), [(.int .i64)], [(.int .i64)], f n⟩⟩
def T (n : Nat) : FuncId → Option Sig := fun g => if Nat.beq g 21 = true then some (laws_markRecSlotS.sig n) else if Nat.beq g 32 = true then some (laws_markText.sig n) else none
def TL (n : Nat) : Loops := fun j _ st k => if Nat.beq j 2 = true then (match dec st l2.inS [] with | some x => runL (B2 n) (contsOf k l2.outs) n x | none => none) else none
theorem d2 (n : Nat) : LoopDefL Try.prog (T n) (TL n) Try.f18 1 2 :=
  ⟨l2, fun R => B2 n, n, fun R st k => by kernel_rfl, fun R next cs x => by kernel_rfl⟩
theorem con (n : Nat) : Con Try.prog 18 (sig n) :=
  con_printW (T := T n) (TL := TL n) (c := Try.f18.body.getD .skip) (js := [2]) hMixed (conT_cons (laws_markRecSlotS.con n) (conT_cons (laws_markText.con n) conT_none)) Try.func18 (by decide) (by kernel_rfl) (by kernel_rfl) (by decide) (LoopDef.cons (d2 n) LoopDef.nil) (fun x q => by kernel_rfl)
end laws_markRecMessageS
namespace laws_markStringS
@[reducible] def l2 : LSpec := ⟨[(0, .row true .str), (1, .d (.int .i64)), (5, .d (.int .i64))], [(.exit 0, [(0, .row true .str), (1, .d (.int .i64))])]⟩
def B2 (n : Nat) {R : Type} (next : Sden l2.inS → Option R) (cs : Conts R l2.outs) (x : Sden l2.inS) : Option R :=
  if (decide (x.2.2.1 < (List.length x.1 : Int))) = true then
    (laws_markText.f n (x.2.1, ())).bind fun y1 =>
    if (decide (0 ≤ x.2.2.1 ∧ x.2.2.1 < (List.length x.1 : Int))) = true then
      next ((List.set x.1 (Int.toNat x.2.2.1) y1.1), (IntKind.i64.wrap (x.2.1 + (1 : Int))), (IntKind.i64.wrap (x.2.2.1 + (1 : Int))), ())
    else
      none
  else
    cs.1 (x.1, x.2.1, ())
def f (n : Nat) (x : Ty.den (.slice .str)) (q : Tup [(.int .i64)]) : Option (Ty.den (.slice .str) × Tup [(.int .i64)]) :=
  runL (B2 n) ((fun z2 =>
      some (z2.1, z2.2.1, ())), ()) n (x, q.1, (0 : Int), ())
@[reducible] def sig (n : Nat) : Sig := ⟨[], [], false, fun _ => none, some ⟨(.slice .str), [(.int .i64)], [(.int .i64)], f n⟩⟩
def T (n : Nat) : FuncId → Option Sig := fun g => if Nat.beq g 32 = true then some (laws_markText.sig n) else none
def TL (n : Nat) : Loops := fun j _ st k => if Nat.beq j 2 = true then (match dec st l2.inS [] with | some x => runL (B2 n) (contsOf k l2.outs) n x | none => none) else none
theorem d2 (n : Nat) : LoopDefL Try.prog (T n) (TL n) Try.f19 1 2 :=
  ⟨l2, fun R => B2 n, n, fun R st k => by kernel_rfl, fun R next cs x => by kernel_rfl⟩
theorem con (n : Nat) : Con Try.prog 19 (sig n) :=
  con_printW (T := T n) (TL := TL n) (c := Try.f19.body.getD .skip) (js := [2]) hMixed (conT_cons (laws_markText.con n) conT_none) Try.func19 (by decide) (by kernel_rfl) (by kernel_rfl) (by decide) (LoopDef.cons (d2 n) LoopDef.nil) (fun x q => by kernel_rfl)
end laws_markStringS
namespace laws_markIntS
@[reducible] def l2 : LSpec := ⟨[(0, .row true (.int .i64)), (1, .d (.int .i64)), (5, .d (.int .i64))], [(.exit 0, [(0, .row true (.int .i64)), (1, .d (.int .i64))])]⟩
def B2 (n : Nat) {R : Type} (next : Sden l2.inS → Option R) (cs : Conts R l2.outs) (x : Sden l2.inS) : Option R :=
  if (decide (x.2.2.1 < (List.length x.1 : Int))) = true then
    if (decide (0 ≤ x.2.2.1 ∧ x.2.2.1 < (List.length x.1 : Int))) = true then
      next ((List.set x.1 (Int.toNat x.2.2.1) x.2.1), (IntKind.i64.wrap (x.2.1 + (1 : Int))), (IntKind.i64.wrap (x.2.2.1 + (1 : Int))), ())
    else
      none
  else
    cs.1 (x.1, x.2.1, ())
def f (n : Nat) (x : Ty.den (.slice (.int .i64))) (q : Tup [(.int .i64)]) : Option (Ty.den (.slice (.int .i64)) × Tup [(.int .i64)]) :=
  runL (B2 n) ((fun z1 =>
      some (z1.1, z1.2.1, ())), ()) n (x, q.1, (0 : Int), ())
@[reducible] def sig (n : Nat) : Sig := ⟨[], [], false, fun _ => none, some ⟨(.slice (.int .i64)), [(.int .i64)], [(.int .i64)], f n⟩⟩
def T (n : Nat) : FuncId → Option Sig := fun g => none
def TL (n : Nat) : Loops := fun j _ st k => if Nat.beq j 2 = true then (match dec st l2.inS [] with | some x => runL (B2 n) (contsOf k l2.outs) n x | none => none) else none
theorem d2 (n : Nat) : LoopDefL Try.prog (T n) (TL n) Try.f20 1 2 :=
  ⟨l2, fun R => B2 n, n, fun R st k => by kernel_rfl, fun R next cs x => by kernel_rfl⟩
theorem con (n : Nat) : Con Try.prog 20 (sig n) :=
  con_printW (T := T n) (TL := TL n) (c := Try.f20.body.getD .skip) (js := [2]) hMixed conT_none Try.func20 (by decide) (by kernel_rfl) (by kernel_rfl) (by decide) (LoopDef.cons (d2 n) LoopDef.nil) (fun x q => by kernel_rfl)
end laws_markIntS
namespace laws_markRecAckS
@[reducible] def l2 : LSpec := ⟨[(0, .row true tRecAck), (1, .d (.int .i64)), (5, .d (.int .i64))], [(.exit 0, [(0, .row true tRecAck), (1, .d (.int .i64))])]⟩
def B2 (n : Nat) {R : Type} (next : Sden l2.inS → Option R) (cs : Conts R l2.outs) (x : Sden l2.inS) : Option R :=
  if (decide (x.2.2.1 < (List.length x.1 : Int))) = true then
    if (decide (0 ≤ x.2.2.1 ∧ x.2.2.1 < (List.length x.1 : Int))) = true then
      if (decide (0 ≤ x.2.2.1 ∧ x.2.2.1 < (List.length (List.set x.1 (Int.toNat x.2.2.1) (x.2.1, (List.getD x.1 (Int.toNat x.2.2.1) (Ty.zero tRecAck)).2)) : Int))) = true then
        (laws_markIntS.f n (List.getD (List.set x.1 (Int.toNat x.2.2.1) (x.2.1, (List.getD x.1 (Int.toNat x.2.2.1) (Ty.zero tRecAck)).2)) (Int.toNat x.2.2.1) (Ty.zero tRecAck)).2.1 ((IntKind.i64.wrap (x.2.1 + (1 : Int))), ())).bind fun y1 =>
        let w2 : List (Ty.den tRecAck) := (List.set (List.set x.1 (Int.toNat x.2.2.1) (x.2.1, (List.getD x.1 (Int.toNat x.2.2.1) (Ty.zero tRecAck)).2)) (Int.toNat x.2.2.1) ((List.getD (List.set x.1 (Int.toNat x.2.2.1) (x.2.1, (List.getD x.1 (Int.toNat x.2.2.1) (Ty.zero tRecAck)).2)) (Int.toNat x.2.2.1) (Ty.zero tRecAck)).1, y1.1, (List.getD (List.set x.1 (Int.toNat x.2.2.1) (x.2.1, (List.getD x.1 (Int.toNat x.2.2.1) (Ty.zero tRecAck)).2)) (Int.toNat x.2.2.1) (Ty.zero tRecAck)).2.2))
        next (w2, y1.2.1, (IntKind.i64.wrap (x.2.2.1 + (1 : Int))), ())
      else
        none
    else
      none
  else
    cs.1 (x.1, x.2.1, ())
def f (n : Nat) (x : Ty.den (.slice tRecAck)) (q : Tup [(.int .i64)]) : Option (Ty.den (.slice tRecAck) × Tup [(.int .i64)]) :=
  runL (B2 n) ((fun z3 =>
      some (z3.1, z3.2.1, ())), ()) n (x, q.1, (0 : Int), ())
@[reducible] def sig (n : Nat) : Sig := ⟨[], [], false, fun _ => none, some ⟨(.slice tRecAck), [(.int .i64)], [(.int .i64)], f n⟩⟩
def T (n : Nat) : FuncId → Option Sig := fun g => if Nat.beq g 20 = true then some (laws_markIntS.sig n) else none
def TL (n : Nat) : Loops := fun j _ st k => if Nat.beq j 2 = true then (match dec st l2.inS [] with | some x => runL (B2 n) (contsOf k l2.outs) n x | none => none) else none
theorem d2 (n : Nat) : LoopDefL Try.prog (T n) (TL n) Try.f22 1 2 :=
  ⟨l2, fun R => B2 n, n, fun R st k => by kernel_rfl, fun R next cs x => by kernel_rfl⟩
theorem con (n : Nat) : Con Try.prog 22 (sig n) :=
  con_printW (T := T n) (TL := TL n) (c := Try.f22.body.getD .skip) (js := [2]) hMixed (conT_cons (laws_markIntS.con n) conT_none) Try.func22 (by decide) (by kernel_rfl) (by kernel_rfl) (by decide) (LoopDef.cons (d2 n) LoopDef.nil) (fun x q => by kernel_rfl)
end laws_markRecAckS
namespace laws_markRecorder
def f (n : Nat) (x : Ty.den tRecorder) (q : Tup [(.int .i64)]) : Option (Ty.den tRecorder × Tup [(.int .i64)]) :=
  (laws_markRecDisk.f n x.2.2.2.1 (q.1, ())).bind fun y1 =>
  (laws_markRecDisk.f n x.2.2.2.2.1 (y1.2.1, ())).bind fun y2 =>
  (laws_markRecMessageS.f n x.2.2.2.2.2.1 (y2.2.1, ())).bind fun y3 =>
  (laws_markStringS.f n x.2.2.2.2.2.2.1 (y3.2.1, ())).bind fun y4 =>
  (laws_markIntS.f n x.2.2.2.2.2.2.2.2.2.2.1 (y4.2.1, ())).bind fun y5 =>
  (laws_markRecSlotS.f n x.2.2.2.2.2.2.2.2.2.2.2.1 (y5.2.1, ())).bind fun y6 =>
  (laws_markRecAckS.f n x.2.2.2.2.2.2.2.2.2.2.2.2.1 (y6.2.1, ())).bind fun y7 =>
  some ((x.1, x.2.1, x.2.2.1, (x.2.2.2.1.1, x.2.2.2.1.2.1, y1.1.2.2), (x.2.2.2.2.1.1, x.2.2.2.2.1.2.1, y2.1.2.2), y3.1, y4.1, x.2.2.2.2.2.2.2.1, x.2.2.2.2.2.2.2.2.1, x.2.2.2.2.2.2.2.2.2.1, y5.1, y6.1, y7.1, x.2.2.2.2.2.2.2.2.2.2.2.2.2), y7.2.1, ())
@[reducible] def sig (n : Nat) : Sig := ⟨[], [], false, fun _ => none, some ⟨tRecorder, [(.int .i64)], [(.int .i64)], f n⟩⟩
def T (n : Nat) : FuncId → Option Sig := fun g => if Nat.beq g 17 = true then some (laws_markRecDisk.sig n) else if Nat.beq g 18 = true then some (laws_markRecMessageS.sig n) else if Nat.beq g 19 = true then some (laws_markStringS.sig n) else if Nat.beq g 20 = true then some (laws_markIntS.sig n) else if Nat.beq g 21 = true then some (laws_markRecSlotS.sig n) else if Nat.beq g 22 = true then some (laws_markRecAckS.sig n) else none
def TL (n : Nat) : Loops := fun j _ st k => none
theorem con (n : Nat) : Con Try.prog 7 (sig n) :=
  con_printW (T := T n) (TL := TL n) (c := Try.f7.body.getD .skip) (js := []) hMixed (conT_cons (laws_markRecDisk.con n) (conT_cons (laws_markRecMessageS.con n) (conT_cons (laws_markStringS.con n) (conT_cons (laws_markIntS.con n) (conT_cons (laws_markRecSlotS.con n) (conT_cons (laws_markRecAckS.con n) conT_none)))))) Try.func7 (by decide) (by kernel_rfl) (by kernel_rfl) (by decide) LoopDef.nil (fun x q => by kernel_rfl)
end laws_markRecorder
namespace laws_heldRecSlotS
@[reducible] def l2 : LSpec := ⟨[(0, .d (.slice tRecSlot)), (1, .d (.int .i64)), (5, .d (.int .i64))], [(.ret, [(4, .d (.int .i64))]), (.exit 0, [(1, .d (.int .i64))])]⟩
def B2 (n : Nat) {R : Type} (next : Sden l2.inS → Option R) (cs : Conts R l2.outs) (x : Sden l2.inS) : Option R :=
  if (decide (x.2.2.1 < (List.length x.1 : Int))) = true then
    if (decide (0 ≤ x.2.2.1 ∧ x.2.2.1 < (List.length x.1 : Int))) = true then
      if ((List.getD x.1 (Int.toNat x.2.2.1) (Ty.zero tRecSlot)).1 != x.2.1) = true then
        cs.1 ((-1 : Int), ())
      else if (!true || (decide (0 ≤ x.2.2.1 ∧ x.2.2.1 < (List.length x.1 : Int)))) = true then
        (if true = true then (laws_markText.f n ((IntKind.i64.wrap (x.2.1 + (1 : Int))), ())) else some (tzero [.str])).bind fun y1 =>
        if (!seq (List.getD x.1 (Int.toNat x.2.2.1) (Ty.zero tRecSlot)).2.1 y1.1) = true then
          cs.1 ((-1 : Int), ())
        else
          next (x.1, (IntKind.i64.wrap ((IntKind.i64.wrap (x.2.1 + (1 : Int))) + (1 : Int))), (IntKind.i64.wrap (x.2.2.1 + (1 : Int))), ())
      else
        none
    else
      none
  else
    cs.2.1 (x.2.1, ())
def f (n : Nat) (x : Tup [(.slice tRecSlot), (.int .i64)]) : Option (Tup [(.int .i64)]) :=
  runL (B2 n) ((fun z2 =>
      some (z2.1, ())), (fun z3 =>
      some (z3.1, ())), ()) n (x.1, x.2.1, (0 : Int), ())
@[reducible] def sig (n : Nat) : Sig := ⟨[(.slice tRecSlot), (.int .i64)], [(.int .i64)], false, f n, none⟩
def T (n : Nat) : FuncId → Option Sig := fun g => if Nat.beq g 32 = true then some (laws_markText.sig n) else none
def TL (n : Nat) : Loops := fun j _ st k => if Nat.beq j 2 = true then (match dec st l2.inS [] with | some x => runL (B2 n) (contsOf k l2.outs) n x | none => none) else none
theorem d2 (n : Nat) : LoopDef Try.prog (T n) (TL n) Try.f27 2 :=
  ⟨l2, fun R => B2 n, n, fun R st k => by kernel_rfl, fun R next cs x => by kernel_rfl⟩
theorem con (n : Nat) : Con Try.prog 27 (sig n) :=
  con_print (hsw := rfl) (T := T n) (TL := TL n) (c := Try.f27.body.getD .skip) (js := [2]) hMixed (conT_cons (laws_markText.con n) conT_none) Try.func27 (by decide) (by kernel_rfl) (by kernel_rfl) (by decide) (LoopDef.cons (d2 n) LoopDef.nil) (fun x => by kernel_rfl)
end laws_heldRecSlotS
namespace laws_heldRecDisk
def f (n : Nat) (x : Tup [tRecDisk, (.int .i64)]) : Option (Tup [(.int .i64)]) :=
  (laws_heldRecSlotS.f n (x.1.2.2.1, x.2.1, ())).bind fun y1 =>
  if (decide (y1.1 < (0 : Int))) = true then
    some ((-1 : Int), ())
  else
    some (y1.1, ())
@[reducible] def sig (n : Nat) : Sig := ⟨[tRecDisk, (.int .i64)], [(.int .i64)], false, f n, none⟩
def T (n : Nat) : FuncId → Option Sig := fun g => if Nat.beq g 27 = true then some (laws_heldRecSlotS.sig n) else none
def TL (n : Nat) : Loops := fun j _ st k => none
theorem con (n : Nat) : Con Try.prog 23 (sig n) :=
  con_print (hsw := rfl) (T := T n) (TL := TL n) (c := Try.f23.body.getD .skip) (js := []) hMixed (conT_cons (laws_heldRecSlotS.con n) conT_none) Try.func23 (by decide) (by kernel_rfl) (by kernel_rfl) (by decide) LoopDef.nil (fun x => by kernel_rfl)
end laws_heldRecDisk
namespace laws_heldRecMessageS
@[reducible] def l2 : LSpec := ⟨[(0, .d (.slice tRecMessage)), (1, .d (.int .i64)), (5, .d (.int .i64))], [(.ret, [(4, .d (.int .i64))]), (.exit 0, [(1, .d (.int .i64))])]⟩
def B2 (n : Nat) {R : Type} (next : Sden l2.inS → Option R) (cs : Conts R l2.outs) (x : Sden l2.inS) : Option R :=
  if (decide (x.2.2.1 < (List.length x.1 : Int))) = true then
    if (decide (0 ≤ x.2.2.1 ∧ x.2.2.1 < (List.length x.1 : Int))) = true then
      if ((List.getD x.1 (Int.toNat x.2.2.1) (Ty.zero tRecMessage)).1 != x.2.1) = true then
        cs.1 ((-1 : Int), ())
      else if (decide (0 ≤ x.2.2.1 ∧ x.2.2.1 < (List.length x.1 : Int))) = true then
        if ((List.getD x.1 (Int.toNat x.2.2.1) (Ty.zero tRecMessage)).2.1 != (IntKind.i64.wrap (x.2.1 + (1 : Int)))) = true then
          cs.1 ((-1 : Int), ())
        else if (decide (0 ≤ x.2.2.1 ∧ x.2.2.1 < (List.length x.1 : Int))) = true then
          if ((List.getD x.1 (Int.toNat x.2.2.1) (Ty.zero tRecMessage)).2.2.1 != (IntKind.i64.wrap ((IntKind.i64.wrap (x.2.1 + (1 : Int))) + (1 : Int)))) = true then
            cs.1 ((-1 : Int), ())
          else if (decide (0 ≤ x.2.2.1 ∧ x.2.2.1 < (List.length x.1 : Int))) = true then
            if ((List.getD x.1 (Int.toNat x.2.2.1) (Ty.zero tRecMessage)).2.2.2.1 != (IntKind.i64.wrap ((IntKind.i64.wrap ((IntKind.i64.wrap (x.2.1 + (1 : Int))) + (1 : Int))) + (1 : Int)))) = true then
              cs.1 ((-1 : Int), ())
            else if (decide (0 ≤ x.2.2.1 ∧ x.2.2.1 < (List.length x.1 : Int))) = true then
              if ((List.getD x.1 (Int.toNat x.2.2.1) (Ty.zero tRecMessage)).2.2.2.2.1 != (IntKind.i64.wrap ((IntKind.i64.wrap ((IntKind.i64.wrap ((IntKind.i64.wrap (x.2.1 + (1 : Int))) + (1 : Int))) + (1 : Int))) + (1 : Int)))) = true then
                cs.1 ((-1 : Int), ())
              else if (decide (0 ≤ x.2.2.1 ∧ x.2.2.1 < (List.length x.1 : Int))) = true then
                if ((List.getD x.1 (Int.toNat x.2.2.1) (Ty.zero tRecMessage)).2.2.2.2.2.1 != (IntKind.i64.wrap ((IntKind.i64.wrap ((IntKind.i64.wrap ((IntKind.i64.wrap ((IntKind.i64.wrap (x.2.1 + (1 : Int))) + (1 : Int))) + (1 : Int))) + (1 : Int))) + (1 : Int)))) = true then
                  cs.1 ((-1 : Int), ())
                else if (!true || (decide (0 ≤ x.2.2.1 ∧ x.2.2.1 < (List.length x.1 : Int)))) = true then
                  (if true = true then (laws_markText.f n ((IntKind.i64.wrap ((IntKind.i64.wrap ((IntKind.i64.wrap ((IntKind.i64.wrap ((IntKind.i64.wrap ((IntKind.i64.wrap (x.2.1 + (1 : Int))) + (1 : Int))) + (1 : Int))) + (1 : Int))) + (1 : Int))) + (1 : Int))), ())) else some (tzero [.str])).bind fun y1 =>
                  if (!seq (List.getD x.1 (Int.toNat x.2.2.1) (Ty.zero tRecMessage)).2.2.2.2.2.2.1 y1.1) = true then
                    cs.1 ((-1 : Int), ())
                  else if (decide (0 ≤ x.2.2.1 ∧ x.2.2.1 < (List.length x.1 : Int))) = true then
                    (laws_heldRecSlotS.f n ((List.getD x.1 (Int.toNat x.2.2.1) (Ty.zero tRecMessage)).2.2.2.2.2.2.2.1, (IntKind.i64.wrap ((IntKind.i64.wrap ((IntKind.i64.wrap ((IntKind.i64.wrap ((IntKind.i64.wrap ((IntKind.i64.wrap ((IntKind.i64.wrap (x.2.1 + (1 : Int))) + (1 : Int))) + (1 : Int))) + (1 : Int))) + (1 : Int))) + (1 : Int))) + (1 : Int))), ())).bind fun y2 =>
                    if (decide (y2.1 < (0 : Int))) = true then
                      cs.1 ((-1 : Int), ())
                    else
                      next (x.1, y2.1, (IntKind.i64.wrap (x.2.2.1 + (1 : Int))), ())
                  else
                    none
                else
                  none
              else
                none
            else
              none
          else
            none
        else
          none
      else
        none
    else
      none
  else
    cs.2.1 (x.2.1, ())
def f (n : Nat) (x : Tup [(.slice tRecMessage), (.int .i64)]) : Option (Tup [(.int .i64)]) :=
  runL (B2 n) ((fun z3 =>
      some (z3.1, ())), (fun z4 =>
      some (z4.1, ())), ()) n (x.1, x.2.1, (0 : Int), ())
@[reducible] def sig (n : Nat) : Sig := ⟨[(.slice tRecMessage), (.int .i64)], [(.int .i64)], false, f n, none⟩
def T (n : Nat) : FuncId → Option Sig := fun g => if Nat.beq g 27 = true then some (laws_heldRecSlotS.sig n) else if Nat.beq g 32 = true then some (laws_markText.sig n) else none
def TL (n : Nat) : Loops := fun j _ st k => if Nat.beq j 2 = true then (match dec st l2.inS [] with | some x => runL (B2 n) (contsOf k l2.outs) n x | none => none) else none
theorem d2 (n : Nat) : LoopDef Try.prog (T n) (TL n) Try.f24 2 :=
  ⟨l2, fun R => B2 n, n, fun R st k => by kernel_rfl, fun R next cs x => by kernel_rfl⟩
theorem con (n : Nat) : Con Try.prog 24 (sig n) :=
  con_print (hsw := rfl) (T := T n) (TL := TL n) (c := Try.f24.body.getD .skip) (js := [2]) hMixed (conT_cons (laws_heldRecSlotS.con n) (conT_cons (laws_markText.con n) conT_none)) Try.func24 (by decide) (by kernel_rfl) (by kernel_rfl) (by decide) (LoopDef.cons (d2 n) LoopDef.nil) (fun x => by kernel_rfl)
end laws_heldRecMessageS
namespace laws_heldStringS
@[reducible] def l2 : LSpec := ⟨[(0, .d (.slice .str)), (1, .d (.int .i64)), (5, .d (.int .i64))], [(.ret, [(4, .d (.int .i64))]), (.exit 0, [(1, .d (.int .i64))])]⟩
def B2 (n : Nat) {R : Type} (next : Sden l2.inS → Option R) (cs : Conts R l2.outs) (x : Sden l2.inS) : Option R :=
  if (decide (x.2.2.1 < (List.length x.1 : Int))) = true then
    if (!true || (decide (0 ≤ x.2.2.1 ∧ x.2.2.1 < (List.length x.1 : Int)))) = true then
      (if true = true then (laws_markText.f n (x.2.1, ())) else some (tzero [.str])).bind fun y1 =>
      if (!seq (List.getD x.1 (Int.toNat x.2.2.1) (⟨#[]⟩ : ByteArray)) y1.1) = true then
        cs.1 ((-1 : Int), ())
      else
        next (x.1, (IntKind.i64.wrap (x.2.1 + (1 : Int))), (IntKind.i64.wrap (x.2.2.1 + (1 : Int))), ())
    else
      none
  else
    cs.2.1 (x.2.1, ())
def f (n : Nat) (x : Tup [(.slice .str), (.int .i64)]) : Option (Tup [(.int .i64)]) :=
  runL (B2 n) ((fun z2 =>
      some (z2.1, ())), (fun z3 =>
      some (z3.1, ())), ()) n (x.1, x.2.1, (0 : Int), ())
@[reducible] def sig (n : Nat) : Sig := ⟨[(.slice .str), (.int .i64)], [(.int .i64)], false, f n, none⟩
def T (n : Nat) : FuncId → Option Sig := fun g => if Nat.beq g 32 = true then some (laws_markText.sig n) else none
def TL (n : Nat) : Loops := fun j _ st k => if Nat.beq j 2 = true then (match dec st l2.inS [] with | some x => runL (B2 n) (contsOf k l2.outs) n x | none => none) else none
theorem d2 (n : Nat) : LoopDef Try.prog (T n) (TL n) Try.f25 2 :=
  ⟨l2, fun R => B2 n, n, fun R st k => by kernel_rfl, fun R next cs x => by kernel_rfl⟩
theorem con (n : Nat) : Con Try.prog 25 (sig n) :=
  con_print (hsw := rfl) (T := T n) (TL := TL n) (c := Try.f25.body.getD .skip) (js := [2]) hMixed (conT_cons (laws_markText.con n) conT_none) Try.func25 (by decide) (by kernel_rfl) (by kernel_rfl) (by decide) (LoopDef.cons (d2 n) LoopDef.nil) (fun x => by kernel_rfl)
end laws_heldStringS
namespace laws_heldIntS
@[reducible] def l2 : LSpec := ⟨[(0, .d (.slice (.int .i64))), (1, .d (.int .i64)), (5, .d (.int .i64))], [(.ret, [(4, .d (.int .i64))]), (.exit 0, [(1, .d (.int .i64))])]⟩
def B2 (n : Nat) {R : Type} (next : Sden l2.inS → Option R) (cs : Conts R l2.outs) (x : Sden l2.inS) : Option R :=
  if (decide (x.2.2.1 < (List.length x.1 : Int))) = true then
    if (decide (0 ≤ x.2.2.1 ∧ x.2.2.1 < (List.length x.1 : Int))) = true then
      if ((List.getD x.1 (Int.toNat x.2.2.1) (0 : Int)) != x.2.1) = true then
        cs.1 ((-1 : Int), ())
      else
        next (x.1, (IntKind.i64.wrap (x.2.1 + (1 : Int))), (IntKind.i64.wrap (x.2.2.1 + (1 : Int))), ())
    else
      none
  else
    cs.2.1 (x.2.1, ())
def f (n : Nat) (x : Tup [(.slice (.int .i64)), (.int .i64)]) : Option (Tup [(.int .i64)]) :=
  runL (B2 n) ((fun z1 =>
      some (z1.1, ())), (fun z2 =>
      some (z2.1, ())), ()) n (x.1, x.2.1, (0 : Int), ())
@[reducible] def sig (n : Nat) : Sig := ⟨[(.slice (.int .i64)), (.int .i64)], [(.int .i64)], false, f n, none⟩
def T (n : Nat) : FuncId → Option Sig := fun g => none
def TL (n : Nat) : Loops := fun j _ st k => if Nat.beq j 2 = true then (match dec st l2.inS [] with | some x => runL (B2 n) (contsOf k l2.outs) n x | none => none) else none
theorem d2 (n : Nat) : LoopDef Try.prog (T n) (TL n) Try.f26 2 :=
  ⟨l2, fun R => B2 n, n, fun R st k => by kernel_rfl, fun R next cs x => by kernel_rfl⟩
theorem con (n : Nat) : Con Try.prog 26 (sig n) :=
  con_print (hsw := rfl) (T := T n) (TL := TL n) (c := Try.f26.body.getD .skip) (js := [2]) hMixed conT_none Try.func26 (by decide) (by kernel_rfl) (by kernel_rfl) (by decide) (LoopDef.cons (d2 n) LoopDef.nil) (fun x => by kernel_rfl)
end laws_heldIntS
namespace laws_heldRecAckS
@[reducible] def l2 : LSpec := ⟨[(0, .d (.slice tRecAck)), (1, .d (.int .i64)), (5, .d (.int .i64))], [(.ret, [(4, .d (.int .i64))]), (.exit 0, [(1, .d (.int .i64))])]⟩
def B2 (n : Nat) {R : Type} (next : Sden l2.inS → Option R) (cs : Conts R l2.outs) (x : Sden l2.inS) : Option R :=
  if (decide (x.2.2.1 < (List.length x.1 : Int))) = true then
    if (decide (0 ≤ x.2.2.1 ∧ x.2.2.1 < (List.length x.1 : Int))) = true then
      if ((List.getD x.1 (Int.toNat x.2.2.1) (Ty.zero tRecAck)).1 != x.2.1) = true then
        cs.1 ((-1 : Int), ())
      else if (decide (0 ≤ x.2.2.1 ∧ x.2.2.1 < (List.length x.1 : Int))) = true then
        (laws_heldIntS.f n ((List.getD x.1 (Int.toNat x.2.2.1) (Ty.zero tRecAck)).2.1, (IntKind.i64.wrap (x.2.1 + (1 : Int))), ())).bind fun y1 =>
        if (decide (y1.1 < (0 : Int))) = true then
          cs.1 ((-1 : Int), ())
        else
          next (x.1, y1.1, (IntKind.i64.wrap (x.2.2.1 + (1 : Int))), ())
      else
        none
    else
      none
  else
    cs.2.1 (x.2.1, ())
def f (n : Nat) (x : Tup [(.slice tRecAck), (.int .i64)]) : Option (Tup [(.int .i64)]) :=
  runL (B2 n) ((fun z2 =>
      some (z2.1, ())), (fun z3 =>
      some (z3.1, ())), ()) n (x.1, x.2.1, (0 : Int), ())
@[reducible] def sig (n : Nat) : Sig := ⟨[(.slice tRecAck), (.int .i64)], [(.int .i64)], false, f n, none⟩
def T (n : Nat) : FuncId → Option Sig := fun g => if Nat.beq g 26 = true then some (laws_heldIntS.sig n) else none
def TL (n : Nat) : Loops := fun j _ st k => if Nat.beq j 2 = true then (match dec st l2.inS [] with | some x => runL (B2 n) (contsOf k l2.outs) n x | none => none) else none
theorem d2 (n : Nat) : LoopDef Try.prog (T n) (TL n) Try.f28 2 :=
  ⟨l2, fun R => B2 n, n, fun R st k => by kernel_rfl, fun R next cs x => by kernel_rfl⟩
theorem con (n : Nat) : Con Try.prog 28 (sig n) :=
  con_print (hsw := rfl) (T := T n) (TL := TL n) (c := Try.f28.body.getD .skip) (js := [2]) hMixed (conT_cons (laws_heldIntS.con n) conT_none) Try.func28 (by decide) (by kernel_rfl) (by kernel_rfl) (by decide) (LoopDef.cons (d2 n) LoopDef.nil) (fun x => by kernel_rfl)
end laws_heldRecAckS
namespace laws_heldRecorder
def f (n : Nat) (x : Tup [tRecorder, (.int .i64)]) : Option (Tup [(.int .i64)]) :=
  (laws_heldRecDisk.f n (x.1.2.2.2.1, x.2.1, ())).bind fun y1 =>
  if (decide (y1.1 < (0 : Int))) = true then
    some ((-1 : Int), ())
  else
    (laws_heldRecDisk.f n (x.1.2.2.2.2.1, y1.1, ())).bind fun y2 =>
    if (decide (y2.1 < (0 : Int))) = true then
      some ((-1 : Int), ())
    else
      (laws_heldRecMessageS.f n (x.1.2.2.2.2.2.1, y2.1, ())).bind fun y3 =>
      if (decide (y3.1 < (0 : Int))) = true then
        some ((-1 : Int), ())
      else
        (laws_heldStringS.f n (x.1.2.2.2.2.2.2.1, y3.1, ())).bind fun y4 =>
        if (decide (y4.1 < (0 : Int))) = true then
          some ((-1 : Int), ())
        else
          (laws_heldIntS.f n (x.1.2.2.2.2.2.2.2.2.2.2.1, y4.1, ())).bind fun y5 =>
          if (decide (y5.1 < (0 : Int))) = true then
            some ((-1 : Int), ())
          else
            (laws_heldRecSlotS.f n (x.1.2.2.2.2.2.2.2.2.2.2.2.1, y5.1, ())).bind fun y6 =>
            if (decide (y6.1 < (0 : Int))) = true then
              some ((-1 : Int), ())
            else
              (laws_heldRecAckS.f n (x.1.2.2.2.2.2.2.2.2.2.2.2.2.1, y6.1, ())).bind fun y7 =>
              if (decide (y7.1 < (0 : Int))) = true then
                some ((-1 : Int), ())
              else
                some (y7.1, ())
@[reducible] def sig (n : Nat) : Sig := ⟨[tRecorder, (.int .i64)], [(.int .i64)], false, f n, none⟩
def T (n : Nat) : FuncId → Option Sig := fun g => if Nat.beq g 23 = true then some (laws_heldRecDisk.sig n) else if Nat.beq g 24 = true then some (laws_heldRecMessageS.sig n) else if Nat.beq g 25 = true then some (laws_heldStringS.sig n) else if Nat.beq g 26 = true then some (laws_heldIntS.sig n) else if Nat.beq g 27 = true then some (laws_heldRecSlotS.sig n) else if Nat.beq g 28 = true then some (laws_heldRecAckS.sig n) else none
def TL (n : Nat) : Loops := fun j _ st k => none
theorem con (n : Nat) : Con Try.prog 8 (sig n) :=
  con_print (hsw := rfl) (T := T n) (TL := TL n) (c := Try.f8.body.getD .skip) (js := []) hMixed (conT_cons (laws_heldRecDisk.con n) (conT_cons (laws_heldRecMessageS.con n) (conT_cons (laws_heldStringS.con n) (conT_cons (laws_heldIntS.con n) (conT_cons (laws_heldRecSlotS.con n) (conT_cons (laws_heldRecAckS.con n) conT_none)))))) Try.func8 (by decide) (by kernel_rfl) (by kernel_rfl) (by decide) LoopDef.nil (fun x => by kernel_rfl)
end laws_heldRecorder
namespace laws_FnExactRecNew
def f (n : Nat) (x : Tup [(.int .i64), (.int .i64)]) : Option (Tup [.bool]) :=
  (spec_RecNew.f n (x.1, x.2.1, ())).bind fun y1 =>
  (impl_RecNew.f n (x.1, x.2.1, ())).bind fun y2 =>
  (laws_eqRecorder.f n (y2.1, y1.1, ())).bind fun y3 =>
  if (!y3.1) = true then
    some (false, ())
  else
    (laws_markRecorder.f n y2.1 ((1 : Int), ())).bind fun y4 =>
    (laws_heldRecorder.f n ((y2.1.1, y2.1.2.1, y2.1.2.2.1, (y2.1.2.2.2.1.1, y2.1.2.2.2.1.2.1, y4.1.2.2.2.1.2.2), (y2.1.2.2.2.2.1.1, y2.1.2.2.2.2.1.2.1, y4.1.2.2.2.2.1.2.2), y4.1.2.2.2.2.2.1, y4.1.2.2.2.2.2.2.1, y2.1.2.2.2.2.2.2.2.1, y2.1.2.2.2.2.2.2.2.2.1, y2.1.2.2.2.2.2.2.2.2.2.1, y4.1.2.2.2.2.2.2.2.2.2.2.1, y4.1.2.2.2.2.2.2.2.2.2.2.2.1, y4.1.2.2.2.2.2.2.2.2.2.2.2.2.1, y2.1.2.2.2.2.2.2.2.2.2.2.2.2.2), (1 : Int), ())).bind fun y5 =>
    if (decide (y5.1 < (0 : Int))) = true then
      some (false, ())
    else if (y5.1 != y4.2.1) = true then
      some (false, ())
    else
      (impl_RecNew.f n (x.1, x.2.1, ())).bind fun y6 =>
      (laws_eqRecorder.f n (y6.1, y1.1, ())).bind fun y7 =>
      if (!y7.1) = true then
        some (false, ())
      else
        (laws_heldRecorder.f n ((y2.1.1, y2.1.2.1, y2.1.2.2.1, (y2.1.2.2.2.1.1, y2.1.2.2.2.1.2.1, y4.1.2.2.2.1.2.2), (y2.1.2.2.2.2.1.1, y2.1.2.2.2.2.1.2.1, y4.1.2.2.2.2.1.2.2), y4.1.2.2.2.2.2.1, y4.1.2.2.2.2.2.2.1, y2.1.2.2.2.2.2.2.2.1, y2.1.2.2.2.2.2.2.2.2.1, y2.1.2.2.2.2.2.2.2.2.2.1, y4.1.2.2.2.2.2.2.2.2.2.2.1, y4.1.2.2.2.2.2.2.2.2.2.2.2.1, y4.1.2.2.2.2.2.2.2.2.2.2.2.2.1, y2.1.2.2.2.2.2.2.2.2.2.2.2.2.2), (1 : Int), ())).bind fun y8 =>
        if (decide (y8.1 < (0 : Int))) = true then
          some (false, ())
        else if (y8.1 != y4.2.1) = true then
          some (false, ())
        else
          some (true, ())
@[reducible] def sig (n : Nat) : Sig := ⟨[(.int .i64), (.int .i64)], [.bool], false, f n, none⟩
def T (n : Nat) : FuncId → Option Sig := fun g => if Nat.beq g 4 = true then some (spec_RecNew.sig n) else if Nat.beq g 5 = true then some (impl_RecNew.sig n) else if Nat.beq g 6 = true then some (laws_eqRecorder.sig n) else if Nat.beq g 7 = true then some (laws_markRecorder.sig n) else if Nat.beq g 8 = true then some (laws_heldRecorder.sig n) else none
def TL (n : Nat) : Loops := fun j _ st k => none
theorem con (n : Nat) : Con Try.prog 3 (sig n) :=
  con_print (hsw := rfl) (T := T n) (TL := TL n) (c := Try.f3.body.getD .skip) (js := []) hMixed (conT_cons (spec_RecNew.con n) (conT_cons (impl_RecNew.con n) (conT_cons (laws_eqRecorder.con n) (conT_cons (laws_markRecorder.con n) (conT_cons (laws_heldRecorder.con n) conT_none))))) Try.func3 (by decide) (by kernel_rfl) (by kernel_rfl) (by decide) LoopDef.nil (fun x => by kernel_rfl)
end laws_FnExactRecNew
end Go.Proofs.Ytjbpccinpcpdkab
