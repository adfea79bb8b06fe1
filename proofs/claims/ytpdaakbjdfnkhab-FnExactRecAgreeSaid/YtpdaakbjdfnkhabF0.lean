import Derived.Test.YtpdaakbjdfnkhabProg
import Derived.Test.YtpdaakbjdfnkhabM3
set_option maxRecDepth 100000
set_option linter.unusedVariables false
namespace Go.Proofs.Ytpdaakbjdfnkhab
open Go.Vm
abbrev tRecSlot : Ty := (.pair (.int .i64) (.pair .str .unit))
abbrev tRecDisk : Ty := (.pair (.int .i64) (.pair (.int .i64) (.pair (.slice tRecSlot) .unit)))
abbrev tRecMessage : Ty := (.pair (.int .i64) (.pair (.int .i64) (.pair (.int .i64) (.pair (.int .i64) (.pair (.int .i64) (.pair (.int .i64) (.pair .str (.pair (.slice tRecSlot) .unit))))))))
abbrev tRecAck : Ty := (.pair (.int .i64) (.pair (.slice (.int .i64)) .unit))
abbrev tRecorder : Ty := (.pair (.int .i64) (.pair (.int .i64) (.pair .bool (.pair tRecDisk (.pair tRecDisk (.pair (.slice tRecMessage) (.pair (.slice .str) (.pair .bool (.pair .bool (.pair (.int .i64) (.pair (.slice (.int .i64)) (.pair (.slice tRecSlot) (.pair (.slice tRecAck) (.pair (.int .i64) .unit))))))))))))))
abbrev tRecWorld : Ty := (.pair (.slice tRecorder) (.pair (.slice tRecMessage) (.pair (.slice tRecSlot) .unit)))
abbrev tRecFix : Ty := tRecSlot
theorem hMixed : Try.prog.follows .mixedOrders = true := by kernel_rfl
namespace laws_szRecSlot
def f (n : Nat) (x : Tup [tRecSlot, (.int .i64)]) : Option (Tup [(.int .i64)]) :=
  if (decide ((IntKind.i64.wrap (x.2.1 - (ByteArray.size x.1.2.1 : Int))) < (0 : Int))) = true then
    some ((-1 : Int), ())
  else
    some ((IntKind.i64.wrap (x.2.1 - (ByteArray.size x.1.2.1 : Int))), ())
@[reducible] def sig (n : Nat) : Sig := ⟨[tRecSlot, (.int .i64)], [(.int .i64)], false, f n, none⟩
def T (n : Nat) : FuncId → Option Sig := fun g => none
def TL (n : Nat) : Loops := fun j _ st k => none
theorem con (n : Nat) : Con Try.prog 67 (sig n) :=
  con_print (hsw := rfl) (T := T n) (TL := TL n) (c := Try.f67.body.getD .skip) (js := []) hMixed conT_none Try.func67 (by decide) (by kernel_rfl) (by kernel_rfl) (by decide) LoopDef.nil (fun x => by kernel_rfl)
end laws_szRecSlot
namespace laws_szRecSlotS
@[reducible] def l5 : LSpec := ⟨[(0, .d (.slice tRecSlot)), (1, .d (.int .i64)), (5, .d (.int .i64))], [(.ret, [(4, .d (.int .i64))]), (.exit 0, [(1, .d (.int .i64))])]⟩
def B5 (n : Nat) {R : Type} (next : Sden l5.inS → Option R) (cs : Conts R l5.outs) (x : Sden l5.inS) : Option R :=
  if (decide (x.2.2.1 < (List.length x.1 : Int))) = true then
    if (decide (0 ≤ x.2.2.1 ∧ x.2.2.1 < (List.length x.1 : Int))) = true then
      (laws_szRecSlot.f n ((List.getD x.1 (Int.toNat x.2.2.1) (Ty.zero tRecSlot)), x.2.1, ())).bind fun y1 =>
      if (decide (y1.1 < (0 : Int))) = true then
        cs.1 ((-1 : Int), ())
      else
        next (x.1, y1.1, (IntKind.i64.wrap (x.2.2.1 + (1 : Int))), ())
    else
      none
  else
    cs.2.1 (x.2.1, ())
def f (n : Nat) (x : Tup [(.slice tRecSlot), (.int .i64)]) : Option (Tup [(.int .i64)]) :=
  if (decide ((IntKind.i64.wrap (x.2.1 - (List.length x.1 : Int))) < (0 : Int))) = true then
    some ((-1 : Int), ())
  else
    runL (B5 n) ((fun z2 =>
        some (z2.1, ())), (fun z3 =>
        some (z3.1, ())), ()) n (x.1, (IntKind.i64.wrap (x.2.1 - (List.length x.1 : Int))), (0 : Int), ())
@[reducible] def sig (n : Nat) : Sig := ⟨[(.slice tRecSlot), (.int .i64)], [(.int .i64)], false, f n, none⟩
def T (n : Nat) : FuncId → Option Sig := fun g => if Nat.beq g 67 = true then some (laws_szRecSlot.sig n) else none
def TL (n : Nat) : Loops := fun j _ st k => if Nat.beq j 5 = true then (match dec st l5.inS [] with | some x => runL (B5 n) (contsOf k l5.outs) n x | none => none) else none
theorem d5 (n : Nat) : LoopDef Try.prog (T n) (TL n) Try.f45 5 :=
  ⟨l5, fun R => B5 n, n, fun R st k => by kernel_rfl, fun R next cs x => by kernel_rfl⟩
theorem con (n : Nat) : Con Try.prog 45 (sig n) :=
  con_print (hsw := rfl) (T := T n) (TL := TL n) (c := Try.f45.body.getD .skip) (js := [5]) hMixed (conT_cons (laws_szRecSlot.con n) conT_none) Try.func45 (by decide) (by kernel_rfl) (by kernel_rfl) (by decide) (LoopDef.cons (d5 n) LoopDef.nil) (fun x => by kernel_rfl)
end laws_szRecSlotS
namespace laws_szRecDisk
def f (n : Nat) (x : Tup [tRecDisk, (.int .i64)]) : Option (Tup [(.int .i64)]) :=
  (laws_szRecSlotS.f n (x.1.2.2.1, x.2.1, ())).bind fun y1 =>
  if (decide (y1.1 < (0 : Int))) = true then
    some ((-1 : Int), ())
  else
    some (y1.1, ())
@[reducible] def sig (n : Nat) : Sig := ⟨[tRecDisk, (.int .i64)], [(.int .i64)], false, f n, none⟩
def T (n : Nat) : FuncId → Option Sig := fun g => if Nat.beq g 45 = true then some (laws_szRecSlotS.sig n) else none
def TL (n : Nat) : Loops := fun j _ st k => none
theorem con (n : Nat) : Con Try.prog 42 (sig n) :=
  con_print (hsw := rfl) (T := T n) (TL := TL n) (c := Try.f42.body.getD .skip) (js := []) hMixed (conT_cons (laws_szRecSlotS.con n) conT_none) Try.func42 (by decide) (by kernel_rfl) (by kernel_rfl) (by decide) LoopDef.nil (fun x => by kernel_rfl)
end laws_szRecDisk
namespace laws_szRecMessage
def f (n : Nat) (x : Tup [tRecMessage, (.int .i64)]) : Option (Tup [(.int .i64)]) :=
  if (decide ((IntKind.i64.wrap (x.2.1 - (ByteArray.size x.1.2.2.2.2.2.2.1 : Int))) < (0 : Int))) = true then
    some ((-1 : Int), ())
  else
    (laws_szRecSlotS.f n (x.1.2.2.2.2.2.2.2.1, (IntKind.i64.wrap (x.2.1 - (ByteArray.size x.1.2.2.2.2.2.2.1 : Int))), ())).bind fun y1 =>
    if (decide (y1.1 < (0 : Int))) = true then
      some ((-1 : Int), ())
    else
      some (y1.1, ())
@[reducible] def sig (n : Nat) : Sig := ⟨[tRecMessage, (.int .i64)], [(.int .i64)], false, f n, none⟩
def T (n : Nat) : FuncId → Option Sig := fun g => if Nat.beq g 45 = true then some (laws_szRecSlotS.sig n) else none
def TL (n : Nat) : Loops := fun j _ st k => none
theorem con (n : Nat) : Con Try.prog 25 (sig n) :=
  con_print (hsw := rfl) (T := T n) (TL := TL n) (c := Try.f25.body.getD .skip) (js := []) hMixed (conT_cons (laws_szRecSlotS.con n) conT_none) Try.func25 (by decide) (by kernel_rfl) (by kernel_rfl) (by decide) LoopDef.nil (fun x => by kernel_rfl)
end laws_szRecMessage
namespace laws_szRecMessageS
@[reducible] def l5 : LSpec := ⟨[(0, .d (.slice tRecMessage)), (1, .d (.int .i64)), (5, .d (.int .i64))], [(.ret, [(4, .d (.int .i64))]), (.exit 0, [(1, .d (.int .i64))])]⟩
def B5 (n : Nat) {R : Type} (next : Sden l5.inS → Option R) (cs : Conts R l5.outs) (x : Sden l5.inS) : Option R :=
  if (decide (x.2.2.1 < (List.length x.1 : Int))) = true then
    if (decide (0 ≤ x.2.2.1 ∧ x.2.2.1 < (List.length x.1 : Int))) = true then
      (laws_szRecMessage.f n ((List.getD x.1 (Int.toNat x.2.2.1) (Ty.zero tRecMessage)), x.2.1, ())).bind fun y1 =>
      if (decide (y1.1 < (0 : Int))) = true then
        cs.1 ((-1 : Int), ())
      else
        next (x.1, y1.1, (IntKind.i64.wrap (x.2.2.1 + (1 : Int))), ())
    else
      none
  else
    cs.2.1 (x.2.1, ())
def f (n : Nat) (x : Tup [(.slice tRecMessage), (.int .i64)]) : Option (Tup [(.int .i64)]) :=
  if (decide ((IntKind.i64.wrap (x.2.1 - (List.length x.1 : Int))) < (0 : Int))) = true then
    some ((-1 : Int), ())
  else
    runL (B5 n) ((fun z2 =>
        some (z2.1, ())), (fun z3 =>
        some (z3.1, ())), ()) n (x.1, (IntKind.i64.wrap (x.2.1 - (List.length x.1 : Int))), (0 : Int), ())
@[reducible] def sig (n : Nat) : Sig := ⟨[(.slice tRecMessage), (.int .i64)], [(.int .i64)], false, f n, none⟩
def T (n : Nat) : FuncId → Option Sig := fun g => if Nat.beq g 25 = true then some (laws_szRecMessage.sig n) else none
def TL (n : Nat) : Loops := fun j _ st k => if Nat.beq j 5 = true then (match dec st l5.inS [] with | some x => runL (B5 n) (contsOf k l5.outs) n x | none => none) else none
theorem d5 (n : Nat) : LoopDef Try.prog (T n) (TL n) Try.f10 5 :=
  ⟨l5, fun R => B5 n, n, fun R st k => by kernel_rfl, fun R next cs x => by kernel_rfl⟩
theorem con (n : Nat) : Con Try.prog 10 (sig n) :=
  con_print (hsw := rfl) (T := T n) (TL := TL n) (c := Try.f10.body.getD .skip) (js := [5]) hMixed (conT_cons (laws_szRecMessage.con n) conT_none) Try.func10 (by decide) (by kernel_rfl) (by kernel_rfl) (by decide) (LoopDef.cons (d5 n) LoopDef.nil) (fun x => by kernel_rfl)
end laws_szRecMessageS
namespace laws_szStringS
@[reducible] def l5 : LSpec := ⟨[(0, .d (.slice .str)), (1, .d (.int .i64)), (5, .d (.int .i64))], [(.ret, [(4, .d (.int .i64))]), (.exit 0, [(1, .d (.int .i64))])]⟩
def B5 (n : Nat) {R : Type} (next : Sden l5.inS → Option R) (cs : Conts R l5.outs) (x : Sden l5.inS) : Option R :=
  if (decide (x.2.2.1 < (List.length x.1 : Int))) = true then
    if (decide (0 ≤ x.2.2.1 ∧ x.2.2.1 < (List.length x.1 : Int))) = true then
      if (decide ((IntKind.i64.wrap (x.2.1 - (ByteArray.size (List.getD x.1 (Int.toNat x.2.2.1) (⟨#[]⟩ : ByteArray)) : Int))) < (0 : Int))) = true then
        cs.1 ((-1 : Int), ())
      else
        next (x.1, (IntKind.i64.wrap (x.2.1 - (ByteArray.size (List.getD x.1 (Int.toNat x.2.2.1) (⟨#[]⟩ : ByteArray)) : Int))), (IntKind.i64.wrap (x.2.2.1 + (1 : Int))), ())
    else
      none
  else
    cs.2.1 (x.2.1, ())
def f (n : Nat) (x : Tup [(.slice .str), (.int .i64)]) : Option (Tup [(.int .i64)]) :=
  if (decide ((IntKind.i64.wrap (x.2.1 - (List.length x.1 : Int))) < (0 : Int))) = true then
    some ((-1 : Int), ())
  else
    runL (B5 n) ((fun z1 =>
        some (z1.1, ())), (fun z2 =>
        some (z2.1, ())), ()) n (x.1, (IntKind.i64.wrap (x.2.1 - (List.length x.1 : Int))), (0 : Int), ())
@[reducible] def sig (n : Nat) : Sig := ⟨[(.slice .str), (.int .i64)], [(.int .i64)], false, f n, none⟩
def T (n : Nat) : FuncId → Option Sig := fun g => none
def TL (n : Nat) : Loops := fun j _ st k => if Nat.beq j 5 = true then (match dec st l5.inS [] with | some x => runL (B5 n) (contsOf k l5.outs) n x | none => none) else none
theorem d5 (n : Nat) : LoopDef Try.prog (T n) (TL n) Try.f43 5 :=
  ⟨l5, fun R => B5 n, n, fun R st k => by kernel_rfl, fun R next cs x => by kernel_rfl⟩
theorem con (n : Nat) : Con Try.prog 43 (sig n) :=
  con_print (hsw := rfl) (T := T n) (TL := TL n) (c := Try.f43.body.getD .skip) (js := [5]) hMixed conT_none Try.func43 (by decide) (by kernel_rfl) (by kernel_rfl) (by decide) (LoopDef.cons (d5 n) LoopDef.nil) (fun x => by kernel_rfl)
end laws_szStringS
namespace laws_szIntS
def f (n : Nat) (x : Tup [(.slice (.int .i64)), (.int .i64)]) : Option (Tup [(.int .i64)]) :=
  if (decide ((IntKind.i64.wrap (x.2.1 - (List.length x.1 : Int))) < (0 : Int))) = true then
    some ((-1 : Int), ())
  else
    some ((IntKind.i64.wrap (x.2.1 - (List.length x.1 : Int))), ())
@[reducible] def sig (n : Nat) : Sig := ⟨[(.slice (.int .i64)), (.int .i64)], [(.int .i64)], false, f n, none⟩
def T (n : Nat) : FuncId → Option Sig := fun g => none
def TL (n : Nat) : Loops := fun j _ st k => none
theorem con (n : Nat) : Con Try.prog 44 (sig n) :=
  con_print (hsw := rfl) (T := T n) (TL := TL n) (c := Try.f44.body.getD .skip) (js := []) hMixed conT_none Try.func44 (by decide) (by kernel_rfl) (by kernel_rfl) (by decide) LoopDef.nil (fun x => by kernel_rfl)
end laws_szIntS
namespace laws_szRecAck
def f (n : Nat) (x : Tup [tRecAck, (.int .i64)]) : Option (Tup [(.int .i64)]) :=
  (laws_szIntS.f n (x.1.2.1, x.2.1, ())).bind fun y1 =>
  if (decide (y1.1 < (0 : Int))) = true then
    some ((-1 : Int), ())
  else
    some (y1.1, ())
@[reducible] def sig (n : Nat) : Sig := ⟨[tRecAck, (.int .i64)], [(.int .i64)], false, f n, none⟩
def T (n : Nat) : FuncId → Option Sig := fun g => if Nat.beq g 44 = true then some (laws_szIntS.sig n) else none
def TL (n : Nat) : Loops := fun j _ st k => none
theorem con (n : Nat) : Con Try.prog 68 (sig n) :=
  con_print (hsw := rfl) (T := T n) (TL := TL n) (c := Try.f68.body.getD .skip) (js := []) hMixed (conT_cons (laws_szIntS.con n) conT_none) Try.func68 (by decide) (by kernel_rfl) (by kernel_rfl) (by decide) LoopDef.nil (fun x => by kernel_rfl)
end laws_szRecAck
namespace laws_szRecAckS
@[reducible] def l5 : LSpec := ⟨[(0, .d (.slice tRecAck)), (1, .d (.int .i64)), (5, .d (.int .i64))], [(.ret, [(4, .d (.int .i64))]), (.exit 0, [(1, .d (.int .i64))])]⟩
def B5 (n : Nat) {R : Type} (next : Sden l5.inS → Option R) (cs : Conts R l5.outs) (x : Sden l5.inS) : Option R :=
  if (decide (x.2.2.1 < (List.length x.1 : Int))) = true then
    if (decide (0 ≤ x.2.2.1 ∧ x.2.2.1 < (List.length x.1 : Int))) = true then
      (laws_szRecAck.f n ((List.getD x.1 (Int.toNat x.2.2.1) (Ty.zero tRecAck)), x.2.1, ())).bind fun y1 =>
      if (decide (y1.1 < (0 : Int))) = true then
        cs.1 ((-1 : Int), ())
      else
        next (x.1, y1.1, (IntKind.i64.wrap (x.2.2.1 + (1 : Int))), ())
    else
      none
  else
    cs.2.1 (x.2.1, ())
def f (n : Nat) (x : Tup [(.slice tRecAck), (.int .i64)]) : Option (Tup [(.int .i64)]) :=
  if (decide ((IntKind.i64.wrap (x.2.1 - (List.length x.1 : Int))) < (0 : Int))) = true then
    some ((-1 : Int), ())
  else
    runL (B5 n) ((fun z2 =>
        some (z2.1, ())), (fun z3 =>
        some (z3.1, ())), ()) n (x.1, (IntKind.i64.wrap (x.2.1 - (List.length x.1 : Int))), (0 : Int), ())
@[reducible] def sig (n : Nat) : Sig := ⟨[(.slice tRecAck), (.int .i64)], [(.int .i64)], false, f n, none⟩
def T (n : Nat) : FuncId → Option Sig := fun g => if Nat.beq g 68 = true then some (laws_szRecAck.sig n) else none
def TL (n : Nat) : Loops := fun j _ st k => if Nat.beq j 5 = true then (match dec st l5.inS [] with | some x => runL (B5 n) (contsOf k l5.outs) n x | none => none) else none
theorem d5 (n : Nat) : LoopDef Try.prog (T n) (TL n) Try.f46 5 :=
  ⟨l5, fun R => B5 n, n, fun R st k => by kernel_rfl, fun R next cs x => by kernel_rfl⟩
theorem con (n : Nat) : Con Try.prog 46 (sig n) :=
  con_print (hsw := rfl) (T := T n) (TL := TL n) (c := Try.f46.body.getD .skip) (js := [5]) hMixed (conT_cons (laws_szRecAck.con n) conT_none) Try.func46 (by decide) (by kernel_rfl) (by kernel_rfl) (by decide) (LoopDef.cons (d5 n) LoopDef.nil) (fun x => by kernel_rfl)
end laws_szRecAckS
namespace laws_szRecorder
def f (n : Nat) (x : Tup [tRecorder, (.int .i64)]) : Option (Tup [(.int .i64)]) :=
  (laws_szRecDisk.f n (x.1.2.2.2.1, x.2.1, ())).bind fun y1 =>
  if (decide (y1.1 < (0 : Int))) = true then
    some ((-1 : Int), ())
  else
    (laws_szRecDisk.f n (x.1.2.2.2.2.1, y1.1, ())).bind fun y2 =>
    if (decide (y2.1 < (0 : Int))) = true then
      some ((-1 : Int), ())
    else
      (laws_szRecMessageS.f n (x.1.2.2.2.2.2.1, y2.1, ())).bind fun y3 =>
      if (decide (y3.1 < (0 : Int))) = true then
        some ((-1 : Int), ())
      else
        (laws_szStringS.f n (x.1.2.2.2.2.2.2.1, y3.1, ())).bind fun y4 =>
        if (decide (y4.1 < (0 : Int))) = true then
          some ((-1 : Int), ())
        else
          (laws_szIntS.f n (x.1.2.2.2.2.2.2.2.2.2.2.1, y4.1, ())).bind fun y5 =>
          if (decide (y5.1 < (0 : Int))) = true then
            some ((-1 : Int), ())
          else
            (laws_szRecSlotS.f n (x.1.2.2.2.2.2.2.2.2.2.2.2.1, y5.1, ())).bind fun y6 =>
            if (decide (y6.1 < (0 : Int))) = true then
              some ((-1 : Int), ())
            else
              (laws_szRecAckS.f n (x.1.2.2.2.2.2.2.2.2.2.2.2.2.1, y6.1, ())).bind fun y7 =>
              if (decide (y7.1 < (0 : Int))) = true then
                some ((-1 : Int), ())
              else
                some (y7.1, ())
@[reducible] def sig (n : Nat) : Sig := ⟨[tRecorder, (.int .i64)], [(.int .i64)], false, f n, none⟩
def T (n : Nat) : FuncId → Option Sig := fun g => if Nat.beq g 10 = true then some (laws_szRecMessageS.sig n) else if Nat.beq g 42 = true then some (laws_szRecDisk.sig n) else if Nat.beq g 43 = true then some (laws_szStringS.sig n) else if Nat.beq g 44 = true then some (laws_szIntS.sig n) else if Nat.beq g 45 = true then some (laws_szRecSlotS.sig n) else if Nat.beq g 46 = true then some (laws_szRecAckS.sig n) else none
def TL (n : Nat) : Loops := fun j _ st k => none
theorem con (n : Nat) : Con Try.prog 24 (sig n) :=
  con_print (hsw := rfl) (T := T n) (TL := TL n) (c := Try.f24.body.getD .skip) (js := []) hMixed (conT_cons (laws_szRecMessageS.con n) (conT_cons (laws_szRecDisk.con n) (conT_cons (laws_szStringS.con n) (conT_cons (laws_szIntS.con n) (conT_cons (laws_szRecSlotS.con n) (conT_cons (laws_szRecAckS.con n) conT_none)))))) Try.func24 (by decide) (by kernel_rfl) (by kernel_rfl) (by decide) LoopDef.nil (fun x => by kernel_rfl)
end laws_szRecorder
namespace laws_szRecorderS
@[reducible] def l5 : LSpec := ⟨[(0, .d (.slice tRecorder)), (1, .d (.int .i64)), (5, .d (.int .i64))], [(.ret, [(4, .d (.int .i64))]), (.exit 0, [(1, .d (.int .i64))])]⟩
def B5 (n : Nat) {R : Type} (next : Sden l5.inS → Option R) (cs : Conts R l5.outs) (x : Sden l5.inS) : Option R :=
  if (decide (x.2.2.1 < (List.length x.1 : Int))) = true then
    if (decide (0 ≤ x.2.2.1 ∧ x.2.2.1 < (List.length x.1 : Int))) = true then
      (laws_szRecorder.f n ((List.getD x.1 (Int.toNat x.2.2.1) (Ty.zero tRecorder)), x.2.1, ())).bind fun y1 =>
      if (decide (y1.1 < (0 : Int))) = true then
        cs.1 ((-1 : Int), ())
      else
        next (x.1, y1.1, (IntKind.i64.wrap (x.2.2.1 + (1 : Int))), ())
    else
      none
  else
    cs.2.1 (x.2.1, ())
def f (n : Nat) (x : Tup [(.slice tRecorder), (.int .i64)]) : Option (Tup [(.int .i64)]) :=
  if (decide ((IntKind.i64.wrap (x.2.1 - (List.length x.1 : Int))) < (0 : Int))) = true then
    some ((-1 : Int), ())
  else
    runL (B5 n) ((fun z2 =>
        some (z2.1, ())), (fun z3 =>
        some (z3.1, ())), ()) n (x.1, (IntKind.i64.wrap (x.2.1 - (List.length x.1 : Int))), (0 : Int), ())
@[reducible] def sig (n : Nat) : Sig := ⟨[(.slice tRecorder), (.int .i64)], [(.int .i64)], false, f n, none⟩
def T (n : Nat) : FuncId → Option Sig := fun g => if Nat.beq g 24 = true then some (laws_szRecorder.sig n) else none
def TL (n : Nat) : Loops := fun j _ st k => if Nat.beq j 5 = true then (match dec st l5.inS [] with | some x => runL (B5 n) (contsOf k l5.outs) n x | none => none) else none
theorem d5 (n : Nat) : LoopDef Try.prog (T n) (TL n) Try.f9 5 :=
  ⟨l5, fun R => B5 n, n, fun R st k => by kernel_rfl, fun R next cs x => by kernel_rfl⟩
theorem con (n : Nat) : Con Try.prog 9 (sig n) :=
  con_print (hsw := rfl) (T := T n) (TL := TL n) (c := Try.f9.body.getD .skip) (js := [5]) hMixed (conT_cons (laws_szRecorder.con n) conT_none) Try.func9 (by decide) (by kernel_rfl) (by kernel_rfl) (by decide) (LoopDef.cons (d5 n) LoopDef.nil) (fun x => by kernel_rfl)
end laws_szRecorderS
namespace laws_szRecFix
def f (n : Nat) (x : Tup [tRecSlot, (.int .i64)]) : Option (Tup [(.int .i64)]) :=
  if (decide ((IntKind.i64.wrap (x.2.1 - (ByteArray.size x.1.2.1 : Int))) < (0 : Int))) = true then
    some ((-1 : Int), ())
  else
    some ((IntKind.i64.wrap (x.2.1 - (ByteArray.size x.1.2.1 : Int))), ())
@[reducible] def sig (n : Nat) : Sig := ⟨[tRecSlot, (.int .i64)], [(.int .i64)], false, f n, none⟩
def T (n : Nat) : FuncId → Option Sig := fun g => none
def TL (n : Nat) : Loops := fun j _ st k => none
theorem con (n : Nat) : Con Try.prog 26 (sig n) :=
  con_print (hsw := rfl) (T := T n) (TL := TL n) (c := Try.f26.body.getD .skip) (js := []) hMixed conT_none Try.func26 (by decide) (by kernel_rfl) (by kernel_rfl) (by decide) LoopDef.nil (fun x => by kernel_rfl)
end laws_szRecFix
namespace laws_szRecFixS
@[reducible] def l5 : LSpec := ⟨[(0, .d (.slice tRecSlot)), (1, .d (.int .i64)), (5, .d (.int .i64))], [(.ret, [(4, .d (.int .i64))]), (.exit 0, [(1, .d (.int .i64))])]⟩
def B5 (n : Nat) {R : Type} (next : Sden l5.inS → Option R) (cs : Conts R l5.outs) (x : Sden l5.inS) : Option R :=
  if (decide (x.2.2.1 < (List.length x.1 : Int))) = true then
    if (decide (0 ≤ x.2.2.1 ∧ x.2.2.1 < (List.length x.1 : Int))) = true then
      (laws_szRecFix.f n ((List.getD x.1 (Int.toNat x.2.2.1) (Ty.zero tRecSlot)), x.2.1, ())).bind fun y1 =>
      if (decide (y1.1 < (0 : Int))) = true then
        cs.1 ((-1 : Int), ())
      else
        next (x.1, y1.1, (IntKind.i64.wrap (x.2.2.1 + (1 : Int))), ())
    else
      none
  else
    cs.2.1 (x.2.1, ())
def f (n : Nat) (x : Tup [(.slice tRecSlot), (.int .i64)]) : Option (Tup [(.int .i64)]) :=
  if (decide ((IntKind.i64.wrap (x.2.1 - (List.length x.1 : Int))) < (0 : Int))) = true then
    some ((-1 : Int), ())
  else
    runL (B5 n) ((fun z2 =>
        some (z2.1, ())), (fun z3 =>
        some (z3.1, ())), ()) n (x.1, (IntKind.i64.wrap (x.2.1 - (List.length x.1 : Int))), (0 : Int), ())
@[reducible] def sig (n : Nat) : Sig := ⟨[(.slice tRecSlot), (.int .i64)], [(.int .i64)], false, f n, none⟩
def T (n : Nat) : FuncId → Option Sig := fun g => if Nat.beq g 26 = true then some (laws_szRecFix.sig n) else none
def TL (n : Nat) : Loops := fun j _ st k => if Nat.beq j 5 = true then (match dec st l5.inS [] with | some x => runL (B5 n) (contsOf k l5.outs) n x | none => none) else none
theorem d5 (n : Nat) : LoopDef Try.prog (T n) (TL n) Try.f11 5 :=
  ⟨l5, fun R => B5 n, n, fun R st k => by kernel_rfl, fun R next cs x => by kernel_rfl⟩
theorem con (n : Nat) : Con Try.prog 11 (sig n) :=
  con_print (hsw := rfl) (T := T n) (TL := TL n) (c := Try.f11.body.getD .skip) (js := [5]) hMixed (conT_cons (laws_szRecFix.con n) conT_none) Try.func11 (by decide) (by kernel_rfl) (by kernel_rfl) (by decide) (LoopDef.cons (d5 n) LoopDef.nil) (fun x => by kernel_rfl)
end laws_szRecFixS
namespace laws_szRecWorld
def f (n : Nat) (x : Tup [tRecWorld, (.int .i64)]) : Option (Tup [(.int .i64)]) :=
  (laws_szRecorderS.f n (x.1.1, x.2.1, ())).bind fun y1 =>
  if (decide (y1.1 < (0 : Int))) = true then
    some ((-1 : Int), ())
  else
    (laws_szRecMessageS.f n (x.1.2.1, y1.1, ())).bind fun y2 =>
    if (decide (y2.1 < (0 : Int))) = true then
      some ((-1 : Int), ())
    else
      (laws_szRecFixS.f n (x.1.2.2.1, y2.1, ())).bind fun y3 =>
      if (decide (y3.1 < (0 : Int))) = true then
        some ((-1 : Int), ())
      else
        some (y3.1, ())
@[reducible] def sig (n : Nat) : Sig := ⟨[tRecWorld, (.int .i64)], [(.int .i64)], false, f n, none⟩
def T (n : Nat) : FuncId → Option Sig := fun g => if Nat.beq g 9 = true then some (laws_szRecorderS.sig n) else if Nat.beq g 10 = true then some (laws_szRecMessageS.sig n) else if Nat.beq g 11 = true then some (laws_szRecFixS.sig n) else none
def TL (n : Nat) : Loops := fun j _ st k => none
theorem con (n : Nat) : Con Try.prog 4 (sig n) :=
  con_print (hsw := rfl) (T := T n) (TL := TL n) (c := Try.f4.body.getD .skip) (js := []) hMixed (conT_cons (laws_szRecorderS.con n) (conT_cons (laws_szRecMessageS.con n) (conT_cons (laws_szRecFixS.con n) conT_none))) Try.func4 (by decide) (by kernel_rfl) (by kernel_rfl) (by decide) LoopDef.nil (fun x => by kernel_rfl)
end laws_szRecWorld
namespace laws_toRecSlot
def f (n : Nat) (x : Tup [tRecSlot]) : Option (Tup [tRecSlot]) :=
  some (x.1, ())
@[reducible] def sig (n : Nat) : Sig := ⟨[tRecSlot], [tRecSlot], false, f n, none⟩
def T (n : Nat) : FuncId → Option Sig := fun g => none
def TL (n : Nat) : Loops := fun j _ st k => none
theorem con (n : Nat) : Con Try.prog 69 (sig n) :=
  con_print (hsw := rfl) (T := T n) (TL := TL n) (c := Try.f69.body.getD .skip) (js := []) hMixed conT_none Try.func69 (by decide) (by kernel_rfl) (by kernel_rfl) (by decide) LoopDef.nil (fun x => by kernel_rfl)
end laws_toRecSlot
namespace laws_toRecSlotS
@[reducible] def l3 : LSpec := ⟨[(0, .d (.slice tRecSlot)), (3, .row true tRecSlot), (4, .d (.int .i64))], [(.exit 0, [(3, .row true tRecSlot)])]⟩
def B3 (n : Nat) {R : Type} (next : Sden l3.inS → Option R) (cs : Conts R l3.outs) (x : Sden l3.inS) : Option R :=
  if (decide (x.2.2.1 < (List.length x.1 : Int))) = true then
    if (decide (0 ≤ x.2.2.1 ∧ x.2.2.1 < (List.length x.1 : Int))) = true then
      (laws_toRecSlot.f n ((List.getD x.1 (Int.toNat x.2.2.1) (Ty.zero tRecSlot)), ())).bind fun y1 =>
      if (decide (0 ≤ x.2.2.1 ∧ x.2.2.1 < (List.length x.2.1 : Int))) = true then
        next (x.1, (List.set x.2.1 (Int.toNat x.2.2.1) y1.1), (IntKind.i64.wrap (x.2.2.1 + (1 : Int))), ())
      else
        none
    else
      none
  else
    cs.1 (x.2.1, ())
def f (n : Nat) (x : Tup [(.slice tRecSlot)]) : Option (Tup [(.slice tRecSlot)]) :=
  if (decide (0 ≤ (List.length x.1 : Int) ∧ (List.length x.1 : Int) ≤ (List.length x.1 : Int) ∧ (List.length x.1 : Int) * (24 : Int) ≤ 140737488355328)) = true then
    runL (B3 n) ((fun z2 =>
        some (z2.1, ())), ()) n (x.1, (List.replicate (Int.toNat (List.length x.1 : Int)) (Ty.zero tRecSlot)), (0 : Int), ())
  else
    none
@[reducible] def sig (n : Nat) : Sig := ⟨[(.slice tRecSlot)], [(.slice tRecSlot)], true, f n, none⟩
def T (n : Nat) : FuncId → Option Sig := fun g => if Nat.beq g 69 = true then some (laws_toRecSlot.sig n) else none
def TL (n : Nat) : Loops := fun j _ st k => if Nat.beq j 3 = true then (match dec st l3.inS [] with | some x => runL (B3 n) (contsOf k l3.outs) n x | none => none) else none
theorem d3 (n : Nat) : LoopDef Try.prog (T n) (TL n) Try.f56 3 :=
  ⟨l3, fun R => B3 n, n, fun R st k => by kernel_rfl, fun R next cs x => by kernel_rfl⟩
theorem con (n : Nat) : Con Try.prog 56 (sig n) :=
  con_print (hsw := rfl) (T := T n) (TL := TL n) (c := Try.f56.body.getD .skip) (js := [3]) hMixed (conT_cons (laws_toRecSlot.con n) conT_none) Try.func56 (by decide) (by kernel_rfl) (by kernel_rfl) (by decide) (LoopDef.cons (d3 n) LoopDef.nil) (fun x => by kernel_rfl)
end laws_toRecSlotS
namespace laws_toRecDisk
def f (n : Nat) (x : Tup [tRecDisk]) : Option (Tup [tRecDisk]) :=
  (laws_toRecSlotS.f n (x.1.2.2.1, ())).bind fun y1 =>
  some ((x.1.1, x.1.2.1, y1.1, ()), ())
@[reducible] def sig (n : Nat) : Sig := ⟨[tRecDisk], [tRecDisk], true, f n, none⟩
def T (n : Nat) : FuncId → Option Sig := fun g => if Nat.beq g 56 = true then some (laws_toRecSlotS.sig n) else none
def TL (n : Nat) : Loops := fun j _ st k => none
theorem con (n : Nat) : Con Try.prog 53 (sig n) :=
  con_print (hsw := rfl) (T := T n) (TL := TL n) (c := Try.f53.body.getD .skip) (js := []) hMixed (conT_cons (laws_toRecSlotS.con n) conT_none) Try.func53 (by decide) (by kernel_rfl) (by kernel_rfl) (by decide) LoopDef.nil (fun x => by kernel_rfl)
end laws_toRecDisk
namespace laws_toRecMessage
def f (n : Nat) (x : Tup [tRecMessage]) : Option (Tup [tRecMessage]) :=
  (laws_toRecSlotS.f n (x.1.2.2.2.2.2.2.2.1, ())).bind fun y1 =>
  some ((x.1.1, x.1.2.1, x.1.2.2.1, x.1.2.2.2.1, x.1.2.2.2.2.1, x.1.2.2.2.2.2.1, x.1.2.2.2.2.2.2.1, y1.1, ()), ())
@[reducible] def sig (n : Nat) : Sig := ⟨[tRecMessage], [tRecMessage], true, f n, none⟩
def T (n : Nat) : FuncId → Option Sig := fun g => if Nat.beq g 56 = true then some (laws_toRecSlotS.sig n) else none
def TL (n : Nat) : Loops := fun j _ st k => none
theorem con (n : Nat) : Con Try.prog 31 (sig n) :=
  con_print (hsw := rfl) (T := T n) (TL := TL n) (c := Try.f31.body.getD .skip) (js := []) hMixed (conT_cons (laws_toRecSlotS.con n) conT_none) Try.func31 (by decide) (by kernel_rfl) (by kernel_rfl) (by decide) LoopDef.nil (fun x => by kernel_rfl)
end laws_toRecMessage
namespace laws_toRecMessageS
@[reducible] def l3 : LSpec := ⟨[(0, .d (.slice tRecMessage)), (3, .row true tRecMessage), (4, .d (.int .i64))], [(.exit 0, [(3, .row true tRecMessage)])]⟩
def B3 (n : Nat) {R : Type} (next : Sden l3.inS → Option R) (cs : Conts R l3.outs) (x : Sden l3.inS) : Option R :=
  if (decide (x.2.2.1 < (List.length x.1 : Int))) = true then
    if (decide (0 ≤ x.2.2.1 ∧ x.2.2.1 < (List.length x.1 : Int))) = true then
      (laws_toRecMessage.f n ((List.getD x.1 (Int.toNat x.2.2.1) (Ty.zero tRecMessage)), ())).bind fun y1 =>
      if (decide (0 ≤ x.2.2.1 ∧ x.2.2.1 < (List.length x.2.1 : Int))) = true then
        next (x.1, (List.set x.2.1 (Int.toNat x.2.2.1) y1.1), (IntKind.i64.wrap (x.2.2.1 + (1 : Int))), ())
      else
        none
    else
      none
  else
    cs.1 (x.2.1, ())
def f (n : Nat) (x : Tup [(.slice tRecMessage)]) : Option (Tup [(.slice tRecMessage)]) :=
  if (decide (0 ≤ (List.length x.1 : Int) ∧ (List.length x.1 : Int) ≤ (List.length x.1 : Int) ∧ (List.length x.1 : Int) * (88 : Int) ≤ 140737488355328)) = true then
    runL (B3 n) ((fun z2 =>
        some (z2.1, ())), ()) n (x.1, (List.replicate (Int.toNat (List.length x.1 : Int)) (Ty.zero tRecMessage)), (0 : Int), ())
  else
    none
@[reducible] def sig (n : Nat) : Sig := ⟨[(.slice tRecMessage)], [(.slice tRecMessage)], true, f n, none⟩
def T (n : Nat) : FuncId → Option Sig := fun g => if Nat.beq g 31 = true then some (laws_toRecMessage.sig n) else none
def TL (n : Nat) : Loops := fun j _ st k => if Nat.beq j 3 = true then (match dec st l3.inS [] with | some x => runL (B3 n) (contsOf k l3.outs) n x | none => none) else none
theorem d3 (n : Nat) : LoopDef Try.prog (T n) (TL n) Try.f17 3 :=
  ⟨l3, fun R => B3 n, n, fun R st k => by kernel_rfl, fun R next cs x => by kernel_rfl⟩
theorem con (n : Nat) : Con Try.prog 17 (sig n) :=
  con_print (hsw := rfl) (T := T n) (TL := TL n) (c := Try.f17.body.getD .skip) (js := [3]) hMixed (conT_cons (laws_toRecMessage.con n) conT_none) Try.func17 (by decide) (by kernel_rfl) (by kernel_rfl) (by decide) (LoopDef.cons (d3 n) LoopDef.nil) (fun x => by kernel_rfl)
end laws_toRecMessageS
namespace laws_toStringS
@[reducible] def l3 : LSpec := ⟨[(0, .d (.slice .str)), (3, .row true .str), (4, .d (.int .i64))], [(.exit 0, [(3, .row true .str)])]⟩
def B3 (n : Nat) {R : Type} (next : Sden l3.inS → Option R) (cs : Conts R l3.outs) (x : Sden l3.inS) : Option R :=
  if (decide (x.2.2.1 < (List.length x.1 : Int))) = true then
    if (decide (0 ≤ x.2.2.1 ∧ x.2.2.1 < (List.length x.1 : Int))) = true then
      if (decide (0 ≤ x.2.2.1 ∧ x.2.2.1 < (List.length x.2.1 : Int))) = true then
        next (x.1, (List.set x.2.1 (Int.toNat x.2.2.1) (List.getD x.1 (Int.toNat x.2.2.1) (⟨#[]⟩ : ByteArray))), (IntKind.i64.wrap (x.2.2.1 + (1 : Int))), ())
      else
        none
    else
      none
  else
    cs.1 (x.2.1, ())
def f (n : Nat) (x : Tup [(.slice .str)]) : Option (Tup [(.slice .str)]) :=
  if (decide (0 ≤ (List.length x.1 : Int) ∧ (List.length x.1 : Int) ≤ (List.length x.1 : Int) ∧ (List.length x.1 : Int) * (16 : Int) ≤ 140737488355328)) = true then
    runL (B3 n) ((fun z1 =>
        some (z1.1, ())), ()) n (x.1, (List.replicate (Int.toNat (List.length x.1 : Int)) (⟨#[]⟩ : ByteArray)), (0 : Int), ())
  else
    none
@[reducible] def sig (n : Nat) : Sig := ⟨[(.slice .str)], [(.slice .str)], true, f n, none⟩
def T (n : Nat) : FuncId → Option Sig := fun g => none
def TL (n : Nat) : Loops := fun j _ st k => if Nat.beq j 3 = true then (match dec st l3.inS [] with | some x => runL (B3 n) (contsOf k l3.outs) n x | none => none) else none
theorem d3 (n : Nat) : LoopDef Try.prog (T n) (TL n) Try.f54 3 :=
  ⟨l3, fun R => B3 n, n, fun R st k => by kernel_rfl, fun R next cs x => by kernel_rfl⟩
theorem con (n : Nat) : Con Try.prog 54 (sig n) :=
  con_print (hsw := rfl) (T := T n) (TL := TL n) (c := Try.f54.body.getD .skip) (js := [3]) hMixed conT_none Try.func54 (by decide) (by kernel_rfl) (by kernel_rfl) (by decide) (LoopDef.cons (d3 n) LoopDef.nil) (fun x => by kernel_rfl)
end laws_toStringS
namespace laws_toIntS
@[reducible] def l3 : LSpec := ⟨[(0, .d (.slice (.int .i64))), (3, .row true (.int .i64)), (4, .d (.int .i64))], [(.exit 0, [(3, .row true (.int .i64))])]⟩
def B3 (n : Nat) {R : Type} (next : Sden l3.inS → Option R) (cs : Conts R l3.outs) (x : Sden l3.inS) : Option R :=
  if (decide (x.2.2.1 < (List.length x.1 : Int))) = true then
    if (decide (0 ≤ x.2.2.1 ∧ x.2.2.1 < (List.length x.1 : Int))) = true then
      if (decide (0 ≤ x.2.2.1 ∧ x.2.2.1 < (List.length x.2.1 : Int))) = true then
        next (x.1, (List.set x.2.1 (Int.toNat x.2.2.1) (List.getD x.1 (Int.toNat x.2.2.1) (0 : Int))), (IntKind.i64.wrap (x.2.2.1 + (1 : Int))), ())
      else
        none
    else
      none
  else
    cs.1 (x.2.1, ())
def f (n : Nat) (x : Tup [(.slice (.int .i64))]) : Option (Tup [(.slice (.int .i64))]) :=
  if (decide (0 ≤ (List.length x.1 : Int) ∧ (List.length x.1 : Int) ≤ (List.length x.1 : Int) ∧ (List.length x.1 : Int) * (8 : Int) ≤ 140737488355328)) = true then
    runL (B3 n) ((fun z1 =>
        some (z1.1, ())), ()) n (x.1, (List.replicate (Int.toNat (List.length x.1 : Int)) (0 : Int)), (0 : Int), ())
  else
    none
@[reducible] def sig (n : Nat) : Sig := ⟨[(.slice (.int .i64))], [(.slice (.int .i64))], true, f n, none⟩
def T (n : Nat) : FuncId → Option Sig := fun g => none
def TL (n : Nat) : Loops := fun j _ st k => if Nat.beq j 3 = true then (match dec st l3.inS [] with | some x => runL (B3 n) (contsOf k l3.outs) n x | none => none) else none
theorem d3 (n : Nat) : LoopDef Try.prog (T n) (TL n) Try.f55 3 :=
  ⟨l3, fun R => B3 n, n, fun R st k => by kernel_rfl, fun R next cs x => by kernel_rfl⟩
theorem con (n : Nat) : Con Try.prog 55 (sig n) :=
  con_print (hsw := rfl) (T := T n) (TL := TL n) (c := Try.f55.body.getD .skip) (js := [3]) hMixed conT_none Try.func55 (by decide) (by kernel_rfl) (by kernel_rfl) (by decide) (LoopDef.cons (d3 n) LoopDef.nil) (fun x => by kernel_rfl)
end laws_toIntS
namespace laws_toRecAck
def f (n : Nat) (x : Tup [tRecAck]) : Option (Tup [tRecAck]) :=
  (laws_toIntS.f n (x.1.2.1, ())).bind fun y1 =>
  some ((x.1.1, y1.1, ()), ())
@[reducible] def sig (n : Nat) : Sig := ⟨[tRecAck], [tRecAck], true, f n, none⟩
def T (n : Nat) : FuncId → Option Sig := fun g => if Nat.beq g 55 = true then some (laws_toIntS.sig n) else none
def TL (n : Nat) : Loops := fun j _ st k => none
theorem con (n : Nat) : Con Try.prog 70 (sig n) :=
  con_print (hsw := rfl) (T := T n) (TL := TL n) (c := Try.f70.body.getD .skip) (js := []) hMixed (conT_cons (laws_toIntS.con n) conT_none) Try.func70 (by decide) (by kernel_rfl) (by kernel_rfl) (by decide) LoopDef.nil (fun x => by kernel_rfl)
end laws_toRecAck
namespace laws_toRecAckS
@[reducible] def l3 : LSpec := ⟨[(0, .d (.slice tRecAck)), (3, .row true tRecAck), (4, .d (.int .i64))], [(.exit 0, [(3, .row true tRecAck)])]⟩
def B3 (n : Nat) {R : Type} (next : Sden l3.inS → Option R) (cs : Conts R l3.outs) (x : Sden l3.inS) : Option R :=
  if (decide (x.2.2.1 < (List.length x.1 : Int))) = true then
    if (decide (0 ≤ x.2.2.1 ∧ x.2.2.1 < (List.length x.1 : Int))) = true then
      (laws_toRecAck.f n ((List.getD x.1 (Int.toNat x.2.2.1) (Ty.zero tRecAck)), ())).bind fun y1 =>
      if (decide (0 ≤ x.2.2.1 ∧ x.2.2.1 < (List.length x.2.1 : Int))) = true then
        next (x.1, (List.set x.2.1 (Int.toNat x.2.2.1) y1.1), (IntKind.i64.wrap (x.2.2.1 + (1 : Int))), ())
      else
        none
    else
      none
  else
    cs.1 (x.2.1, ())
def f (n : Nat) (x : Tup [(.slice tRecAck)]) : Option (Tup [(.slice tRecAck)]) :=
  if (decide (0 ≤ (List.length x.1 : Int) ∧ (List.length x.1 : Int) ≤ (List.length x.1 : Int) ∧ (List.length x.1 : Int) * (32 : Int) ≤ 140737488355328)) = true then
    runL (B3 n) ((fun z2 =>
        some (z2.1, ())), ()) n (x.1, (List.replicate (Int.toNat (List.length x.1 : Int)) (Ty.zero tRecAck)), (0 : Int), ())
  else
    none
@[reducible] def sig (n : Nat) : Sig := ⟨[(.slice tRecAck)], [(.slice tRecAck)], true, f n, none⟩
def T (n : Nat) : FuncId → Option Sig := fun g => if Nat.beq g 70 = true then some (laws_toRecAck.sig n) else none
def TL (n : Nat) : Loops := fun j _ st k => if Nat.beq j 3 = true then (match dec st l3.inS [] with | some x => runL (B3 n) (contsOf k l3.outs) n x | none => none) else none
theorem d3 (n : Nat) : LoopDef Try.prog (T n) (TL n) Try.f57 3 :=
  ⟨l3, fun R => B3 n, n, fun R st k => by kernel_rfl, fun R next cs x => by kernel_rfl⟩
theorem con (n : Nat) : Con Try.prog 57 (sig n) :=
  con_print (hsw := rfl) (T := T n) (TL := TL n) (c := Try.f57.body.getD .skip) (js := [3]) hMixed (conT_cons (laws_toRecAck.con n) conT_none) Try.func57 (by decide) (by kernel_rfl) (by kernel_rfl) (by decide) (LoopDef.cons (d3 n) LoopDef.nil) (fun x => by kernel_rfl)
end laws_toRecAckS
namespace laws_toRecorder
def f (n : Nat) (x : Tup [tRecorder]) : Option (Tup [tRecorder]) :=
  (laws_toRecDisk.f n (x.1.2.2.2.1, ())).bind fun y1 =>
  (laws_toRecDisk.f n (x.1.2.2.2.2.1, ())).bind fun y2 =>
  (laws_toRecMessageS.f n (x.1.2.2.2.2.2.1, ())).bind fun y3 =>
  (laws_toStringS.f n (x.1.2.2.2.2.2.2.1, ())).bind fun y4 =>
  (laws_toIntS.f n (x.1.2.2.2.2.2.2.2.2.2.2.1, ())).bind fun y5 =>
  (laws_toRecSlotS.f n (x.1.2.2.2.2.2.2.2.2.2.2.2.1, ())).bind fun y6 =>
  (laws_toRecAckS.f n (x.1.2.2.2.2.2.2.2.2.2.2.2.2.1, ())).bind fun y7 =>
  some ((x.1.1, x.1.2.1, x.1.2.2.1, y1.1, y2.1, y3.1, y4.1, x.1.2.2.2.2.2.2.2.1, x.1.2.2.2.2.2.2.2.2.1, x.1.2.2.2.2.2.2.2.2.2.1, y5.1, y6.1, y7.1, x.1.2.2.2.2.2.2.2.2.2.2.2.2.2), ())
@[reducible] def sig (n : Nat) : Sig := ⟨[tRecorder], [tRecorder], true, f n, none⟩
def T (n : Nat) : FuncId → Option Sig := fun g => if Nat.beq g 17 = true then some (laws_toRecMessageS.sig n) else if Nat.beq g 53 = true then some (laws_toRecDisk.sig n) else if Nat.beq g 54 = true then some (laws_toStringS.sig n) else if Nat.beq g 55 = true then some (laws_toIntS.sig n) else if Nat.beq g 56 = true then some (laws_toRecSlotS.sig n) else if Nat.beq g 57 = true then some (laws_toRecAckS.sig n) else none
def TL (n : Nat) : Loops := fun j _ st k => none
theorem con (n : Nat) : Con Try.prog 30 (sig n) :=
  con_print (hsw := rfl) (T := T n) (TL := TL n) (c := Try.f30.body.getD .skip) (js := []) hMixed (conT_cons (laws_toRecMessageS.con n) (conT_cons (laws_toRecDisk.con n) (conT_cons (laws_toStringS.con n) (conT_cons (laws_toIntS.con n) (conT_cons (laws_toRecSlotS.con n) (conT_cons (laws_toRecAckS.con n) conT_none)))))) Try.func30 (by decide) (by kernel_rfl) (by kernel_rfl) (by decide) LoopDef.nil (fun x => by kernel_rfl)
end laws_toRecorder
namespace laws_toRecorderS
@[reducible] def l3 : LSpec := ⟨[(0, .d (.slice tRecorder)), (3, .row true tRecorder), (4, .d (.int .i64))], [(.exit 0, [(3, .row true tRecorder)])]⟩
def B3 (n : Nat) {R : Type} (next : Sden l3.inS → Option R) (cs : Conts R l3.outs) (x : Sden l3.inS) : Option R :=
  if (decide (x.2.2.1 < (List.length x.1 : Int))) = true then
    if (decide (0 ≤ x.2.2.1 ∧ x.2.2.1 < (List.length x.1 : Int))) = true then
      (laws_toRecorder.f n ((List.getD x.1 (Int.toNat x.2.2.1) (Ty.zero tRecorder)), ())).bind fun y1 =>
      if (decide (0 ≤ x.2.2.1 ∧ x.2.2.1 < (List.length x.2.1 : Int))) = true then
        next (x.1, (List.set x.2.1 (Int.toNat x.2.2.1) y1.1), (IntKind.i64.wrap (x.2.2.1 + (1 : Int))), ())
      else
        none
    else
      none
  else
    cs.1 (x.2.1, ())
def f (n : Nat) (x : Tup [(.slice tRecorder)]) : Option (Tup [(.slice tRecorder)]) :=
  if (decide (0 ≤ (List.length x.1 : Int) ∧ (List.length x.1 : Int) ≤ (List.length x.1 : Int) ∧ (List.length x.1 : Int) * (248 : Int) ≤ 140737488355328)) = true then
    runL (B3 n) ((fun z2 =>
        some (z2.1, ())), ()) n (x.1, (List.replicate (Int.toNat (List.length x.1 : Int)) (Ty.zero tRecorder)), (0 : Int), ())
  else
    none
@[reducible] def sig (n : Nat) : Sig := ⟨[(.slice tRecorder)], [(.slice tRecorder)], true, f n, none⟩
def T (n : Nat) : FuncId → Option Sig := fun g => if Nat.beq g 30 = true then some (laws_toRecorder.sig n) else none
def TL (n : Nat) : Loops := fun j _ st k => if Nat.beq j 3 = true then (match dec st l3.inS [] with | some x => runL (B3 n) (contsOf k l3.outs) n x | none => none) else none
theorem d3 (n : Nat) : LoopDef Try.prog (T n) (TL n) Try.f16 3 :=
  ⟨l3, fun R => B3 n, n, fun R st k => by kernel_rfl, fun R next cs x => by kernel_rfl⟩
theorem con (n : Nat) : Con Try.prog 16 (sig n) :=
  con_print (hsw := rfl) (T := T n) (TL := TL n) (c := Try.f16.body.getD .skip) (js := [3]) hMixed (conT_cons (laws_toRecorder.con n) conT_none) Try.func16 (by decide) (by kernel_rfl) (by kernel_rfl) (by decide) (LoopDef.cons (d3 n) LoopDef.nil) (fun x => by kernel_rfl)
end laws_toRecorderS
namespace laws_toRecFix
def f (n : Nat) (x : Tup [tRecSlot]) : Option (Tup [tRecSlot]) :=
  some (x.1, ())
@[reducible] def sig (n : Nat) : Sig := ⟨[tRecSlot], [tRecSlot], false, f n, none⟩
def T (n : Nat) : FuncId → Option Sig := fun g => none
def TL (n : Nat) : Loops := fun j _ st k => none
theorem con (n : Nat) : Con Try.prog 32 (sig n) :=
  con_print (hsw := rfl) (T := T n) (TL := TL n) (c := Try.f32.body.getD .skip) (js := []) hMixed conT_none Try.func32 (by decide) (by kernel_rfl) (by kernel_rfl) (by decide) LoopDef.nil (fun x => by kernel_rfl)
end laws_toRecFix
namespace laws_toRecFixS
@[reducible] def l3 : LSpec := ⟨[(0, .d (.slice tRecSlot)), (3, .row true tRecSlot), (4, .d (.int .i64))], [(.exit 0, [(3, .row true tRecSlot)])]⟩
def B3 (n : Nat) {R : Type} (next : Sden l3.inS → Option R) (cs : Conts R l3.outs) (x : Sden l3.inS) : Option R :=
  if (decide (x.2.2.1 < (List.length x.1 : Int))) = true then
    if (decide (0 ≤ x.2.2.1 ∧ x.2.2.1 < (List.length x.1 : Int))) = true then
      (laws_toRecFix.f n ((List.getD x.1 (Int.toNat x.2.2.1) (Ty.zero tRecSlot)), ())).bind fun y1 =>
      if (decide (0 ≤ x.2.2.1 ∧ x.2.2.1 < (List.length x.2.1 : Int))) = true then
        next (x.1, (List.set x.2.1 (Int.toNat x.2.2.1) y1.1), (IntKind.i64.wrap (x.2.2.1 + (1 : Int))), ())
      else
        none
    else
      none
  else
    cs.1 (x.2.1, ())
def f (n : Nat) (x : Tup [(.slice tRecSlot)]) : Option (Tup [(.slice tRecSlot)]) :=
  if (decide (0 ≤ (List.length x.1 : Int) ∧ (List.length x.1 : Int) ≤ (List.length x.1 : Int) ∧ (List.length x.1 : Int) * (24 : Int) ≤ 140737488355328)) = true then
    runL (B3 n) ((fun z2 =>
        some (z2.1, ())), ()) n (x.1, (List.replicate (Int.toNat (List.length x.1 : Int)) (Ty.zero tRecSlot)), (0 : Int), ())
  else
    none
@[reducible] def sig (n : Nat) : Sig := ⟨[(.slice tRecSlot)], [(.slice tRecSlot)], true, f n, none⟩
def T (n : Nat) : FuncId → Option Sig := fun g => if Nat.beq g 32 = true then some (laws_toRecFix.sig n) else none
def TL (n : Nat) : Loops := fun j _ st k => if Nat.beq j 3 = true then (match dec st l3.inS [] with | some x => runL (B3 n) (contsOf k l3.outs) n x | none => none) else none
theorem d3 (n : Nat) : LoopDef Try.prog (T n) (TL n) Try.f18 3 :=
  ⟨l3, fun R => B3 n, n, fun R st k => by kernel_rfl, fun R next cs x => by kernel_rfl⟩
theorem con (n : Nat) : Con Try.prog 18 (sig n) :=
  con_print (hsw := rfl) (T := T n) (TL := TL n) (c := Try.f18.body.getD .skip) (js := [3]) hMixed (conT_cons (laws_toRecFix.con n) conT_none) Try.func18 (by decide) (by kernel_rfl) (by kernel_rfl) (by decide) (LoopDef.cons (d3 n) LoopDef.nil) (fun x => by kernel_rfl)
end laws_toRecFixS
namespace laws_toRecWorld
def f (n : Nat) (x : Tup [tRecWorld]) : Option (Tup [tRecWorld]) :=
  (laws_toRecorderS.f n (x.1.1, ())).bind fun y1 =>
  (laws_toRecMessageS.f n (x.1.2.1, ())).bind fun y2 =>
  (laws_toRecFixS.f n (x.1.2.2.1, ())).bind fun y3 =>
  some ((y1.1, y2.1, y3.1, ()), ())
@[reducible] def sig (n : Nat) : Sig := ⟨[tRecWorld], [tRecWorld], true, f n, none⟩
def T (n : Nat) : FuncId → Option Sig := fun g => if Nat.beq g 16 = true then some (laws_toRecorderS.sig n) else if Nat.beq g 17 = true then some (laws_toRecMessageS.sig n) else if Nat.beq g 18 = true then some (laws_toRecFixS.sig n) else none
def TL (n : Nat) : Loops := fun j _ st k => none
theorem con (n : Nat) : Con Try.prog 6 (sig n) :=
  con_print (hsw := rfl) (T := T n) (TL := TL n) (c := Try.f6.body.getD .skip) (js := []) hMixed (conT_cons (laws_toRecorderS.con n) (conT_cons (laws_toRecMessageS.con n) (conT_cons (laws_toRecFixS.con n) conT_none))) Try.func6 (by decide) (by kernel_rfl) (by kernel_rfl) (by decide) LoopDef.nil (fun x => by kernel_rfl)
end laws_toRecWorld
namespace spec_l21In
def f (n : Nat) (x : Tup [(.int .i64), (.int .i64), (.int .i64)]) : Option (Tup [.bool]) :=
  some (((decide (x.1 ≥ x.2.1)) && (decide (x.1 ≤ x.2.2.1))), ())
@[reducible] def sig (n : Nat) : Sig := ⟨[(.int .i64), (.int .i64), (.int .i64)], [.bool], false, f n, none⟩
def T (n : Nat) : FuncId → Option Sig := fun g => none
def TL (n : Nat) : Loops := fun j _ st k => none
theorem con (n : Nat) : Con Try.prog 27 (sig n) :=
  con_print (hsw := rfl) (T := T n) (TL := TL n) (c := Try.f27.body.getD .skip) (js := []) hMixed conT_none Try.func27 (by decide) (by kernel_rfl) (by kernel_rfl) (by decide) LoopDef.nil (fun x => by kernel_rfl)
end spec_l21In
namespace spec_l21SlotsOk
@[reducible] def l4 : LSpec := ⟨[(0, .d (.slice tRecSlot)), (3, .d (.int .i64))], [(.ret, [(2, .d .bool)]), (.exit 0, [])]⟩
def B4 (n : Nat) {R : Type} (next : Sden l4.inS → Option R) (cs : Conts R l4.outs) (x : Sden l4.inS) : Option R :=
  if (decide (x.2.1 < (List.length x.1 : Int))) = true then
    if (decide (0 ≤ x.2.1 ∧ x.2.1 < (List.length x.1 : Int))) = true then
      (spec_l21In.f n ((List.getD x.1 (Int.toNat x.2.1) (Ty.zero tRecSlot)).1, (0 : Int), (1000000 : Int), ())).bind fun y1 =>
      if (!(!(!y1.1)) || (decide (0 ≤ x.2.1 ∧ x.2.1 < (List.length x.1 : Int)))) = true then
        if (!(!((!y1.1) || (decide ((ByteArray.size (List.getD x.1 (Int.toNat x.2.1) (Ty.zero tRecSlot)).2.1 : Int) > (160 : Int))))) || (decide (0 ≤ x.2.1 ∧ x.2.1 < (List.length x.1 : Int)))) = true then
          if (!((!((!y1.1) || (decide ((ByteArray.size (List.getD x.1 (Int.toNat x.2.1) (Ty.zero tRecSlot)).2.1 : Int) > (160 : Int))))) && ((List.getD x.1 (Int.toNat x.2.1) (Ty.zero tRecSlot)).1 == (0 : Int))) || (decide (0 ≤ x.2.1 ∧ x.2.1 < (List.length x.1 : Int)))) = true then
            if (((!y1.1) || (decide ((ByteArray.size (List.getD x.1 (Int.toNat x.2.1) (Ty.zero tRecSlot)).2.1 : Int) > (160 : Int)))) || (((List.getD x.1 (Int.toNat x.2.1) (Ty.zero tRecSlot)).1 == (0 : Int)) && (!seq (List.getD x.1 (Int.toNat x.2.1) (Ty.zero tRecSlot)).2.1 (⟨#[]⟩ : ByteArray)))) = true then
              cs.1 (false, ())
            else
              next (x.1, (IntKind.i64.wrap (x.2.1 + (1 : Int))), ())
          else
            none
        else
          none
      else
        none
    else
      none
  else
    cs.2.1 ()
def f (n : Nat) (x : Tup [(.slice tRecSlot)]) : Option (Tup [.bool]) :=
  if (decide ((List.length x.1 : Int) > (120 : Int))) = true then
    some (false, ())
  else
    runL (B4 n) ((fun z2 =>
        some (z2.1, ())), (fun z3 =>
        some (true, ())), ()) n (x.1, (0 : Int), ())
@[reducible] def sig (n : Nat) : Sig := ⟨[(.slice tRecSlot)], [.bool], false, f n, none⟩
def T (n : Nat) : FuncId → Option Sig := fun g => if Nat.beq g 27 = true then some (spec_l21In.sig n) else none
def TL (n : Nat) : Loops := fun j _ st k => if Nat.beq j 4 = true then (match dec st l4.inS [] with | some x => runL (B4 n) (contsOf k l4.outs) n x | none => none) else none
theorem d4 (n : Nat) : LoopDef Try.prog (T n) (TL n) Try.f50 4 :=
  ⟨l4, fun R => B4 n, n, fun R st k => by kernel_rfl, fun R next cs x => by kernel_rfl⟩
theorem con (n : Nat) : Con Try.prog 50 (sig n) :=
  con_print (hsw := rfl) (T := T n) (TL := TL n) (c := Try.f50.body.getD .skip) (js := [4]) hMixed (conT_cons (spec_l21In.con n) conT_none) Try.func50 (by decide) (by kernel_rfl) (by kernel_rfl) (by decide) (LoopDef.cons (d4 n) LoopDef.nil) (fun x => by kernel_rfl)
end spec_l21SlotsOk
namespace spec_RecDiskOk
@[reducible] def l4 : LSpec := ⟨[(1, .rb tRecDisk), (3, .d (.int .i64))], [(.ret, [(2, .d .bool)]), (.exit 0, [])]⟩
def B4 (n : Nat) {R : Type} (next : Sden l4.inS → Option R) (cs : Conts R l4.outs) (x : Sden l4.inS) : Option R :=
  if (decide (x.2.1 < (List.length x.1.2.2.1 : Int))) = true then
    if (!true || (decide (0 ≤ x.2.1 ∧ x.2.1 < (List.length x.1.2.2.1 : Int)))) = true then
      if (!((!(decide ((List.getD x.1.2.2.1 (Int.toNat x.2.1) (Ty.zero tRecSlot)).1 > x.1.1))) && (decide (x.2.1 < x.1.2.1))) || (decide (0 ≤ x.2.1 ∧ x.2.1 < (List.length x.1.2.2.1 : Int)))) = true then
        if ((decide ((List.getD x.1.2.2.1 (Int.toNat x.2.1) (Ty.zero tRecSlot)).1 > x.1.1)) || ((decide (x.2.1 < x.1.2.1)) && ((List.getD x.1.2.2.1 (Int.toNat x.2.1) (Ty.zero tRecSlot)).1 == (0 : Int)))) = true then
          cs.1 (false, ())
        else
          next (x.1, (IntKind.i64.wrap (x.2.1 + (1 : Int))), ())
      else
        none
    else
      none
  else
    cs.2.1 ()
def f (n : Nat) (x : Tup [tRecDisk]) : Option (Tup [.bool]) :=
  (spec_l21In.f n (x.1.1, (0 : Int), (1000000 : Int), ())).bind fun y1 =>
  (if (!(!y1.1)) = true then (spec_l21SlotsOk.f n (x.1.2.2.1, ())) else some (tzero [.bool])).bind fun y2 =>
  (if (!((!y1.1) || (!y2.1))) = true then (spec_l21In.f n (x.1.2.1, (0 : Int), (List.length x.1.2.2.1 : Int), ())) else some (tzero [.bool])).bind fun y3 =>
  if (((!y1.1) || (!y2.1)) || (!y3.1)) = true then
    some (false, ())
  else
    runL (B4 n) ((fun z4 =>
        some (z4.1, ())), (fun z5 =>
        some (true, ())), ()) n (x.1, (0 : Int), ())
@[reducible] def sig (n : Nat) : Sig := ⟨[tRecDisk], [.bool], false, f n, none⟩
def T (n : Nat) : FuncId → Option Sig := fun g => if Nat.beq g 27 = true then some (spec_l21In.sig n) else if Nat.beq g 50 = true then some (spec_l21SlotsOk.sig n) else none
def TL (n : Nat) : Loops := fun j _ st k => if Nat.beq j 4 = true then (match dec st l4.inS [] with | some x => runL (B4 n) (contsOf k l4.outs) n x | none => none) else none
theorem d4 (n : Nat) : LoopDef Try.prog (T n) (TL n) Try.f47 4 :=
  ⟨l4, fun R => B4 n, n, fun R st k => by kernel_rfl, fun R next cs x => by kernel_rfl⟩
theorem con (n : Nat) : Con Try.prog 47 (sig n) :=
  con_print (hsw := rfl) (T := T n) (TL := TL n) (c := Try.f47.body.getD .skip) (js := [4]) hMixed (conT_cons (spec_l21In.con n) (conT_cons (spec_l21SlotsOk.con n) conT_none)) Try.func47 (by decide) (by kernel_rfl) (by kernel_rfl) (by decide) (LoopDef.cons (d4 n) LoopDef.nil) (fun x => by kernel_rfl)
end spec_RecDiskOk
namespace spec_l22WishesOk
@[reducible] def l9 : LSpec := ⟨[(0, .d (.slice .str)), (3, .d (.int .i64)), (4, .d (.int .i64))], [(.ret, [(2, .d .bool)]), (.exit 2, [(0, .d (.slice .str)), (3, .d (.int .i64))])]⟩
def B9 (n : Nat) {R : Type} (next : Sden l9.inS → Option R) (cs : Conts R l9.outs) (x : Sden l9.inS) : Option R :=
  if (decide (x.2.2.1 < x.2.1)) = true then
    if (!true || (decide (0 ≤ x.2.2.1 ∧ x.2.2.1 < (List.length x.1 : Int)))) = true then
      if (!true || (decide (0 ≤ x.2.1 ∧ x.2.1 < (List.length x.1 : Int)))) = true then
        if (seq (List.getD x.1 (Int.toNat x.2.2.1) (⟨#[]⟩ : ByteArray)) (List.getD x.1 (Int.toNat x.2.1) (⟨#[]⟩ : ByteArray))) = true then
          cs.1 (false, ())
        else
          next (x.1, x.2.1, (IntKind.i64.wrap (x.2.2.1 + (1 : Int))), ())
      else
        none
    else
      none
  else
    cs.2.1 (x.1, x.2.1, ())
@[reducible] def l4 : LSpec := ⟨[(0, .d (.slice .str)), (3, .d (.int .i64))], [(.ret, [(2, .d .bool)]), (.exit 0, [])]⟩
def B4 (n : Nat) {R : Type} (next : Sden l4.inS → Option R) (cs : Conts R l4.outs) (x : Sden l4.inS) : Option R :=
  if (decide (x.2.1 < (List.length x.1 : Int))) = true then
    if (decide (0 ≤ x.2.1 ∧ x.2.1 < (List.length x.1 : Int))) = true then
      if (!(!(decide ((ByteArray.size (List.getD x.1 (Int.toNat x.2.1) (⟨#[]⟩ : ByteArray)) : Int) < (1 : Int)))) || (decide (0 ≤ x.2.1 ∧ x.2.1 < (List.length x.1 : Int)))) = true then
        if ((decide ((ByteArray.size (List.getD x.1 (Int.toNat x.2.1) (⟨#[]⟩ : ByteArray)) : Int) < (1 : Int))) || (decide ((ByteArray.size (List.getD x.1 (Int.toNat x.2.1) (⟨#[]⟩ : ByteArray)) : Int) > (160 : Int)))) = true then
          cs.1 (false, ())
        else
          runL (B9 n) ((fun z1 =>
              cs.1 (z1.1, ())), (fun z2 =>
              next (z2.1, (IntKind.i64.wrap (z2.2.1 + (1 : Int))), ())), ()) n (x.1, x.2.1, (0 : Int), ())
      else
        none
    else
      none
  else
    cs.2.1 ()
def f (n : Nat) (x : Tup [(.slice .str)]) : Option (Tup [.bool]) :=
  if (decide ((List.length x.1 : Int) > (20 : Int))) = true then
    some (false, ())
  else
    runL (B4 n) ((fun z3 =>
        some (z3.1, ())), (fun z4 =>
        some (true, ())), ()) n (x.1, (0 : Int), ())
@[reducible] def sig (n : Nat) : Sig := ⟨[(.slice .str)], [.bool], false, f n, none⟩
def T (n : Nat) : FuncId → Option Sig := fun g => none
def TL (n : Nat) : Loops := fun j _ st k => if Nat.beq j 9 = true then (match dec st l9.inS [] with | some x => runL (B9 n) (contsOf k l9.outs) n x | none => none) else if Nat.beq j 4 = true then (match dec st l4.inS [] with | some x => runL (B4 n) (contsOf k l4.outs) n x | none => none) else none
theorem d9 (n : Nat) : LoopDef Try.prog (T n) (TL n) Try.f48 9 :=
  ⟨l9, fun R => B9 n, n, fun R st k => by kernel_rfl, fun R next cs x => by kernel_rfl⟩
theorem d4 (n : Nat) : LoopDef Try.prog (T n) (TL n) Try.f48 4 :=
  ⟨l4, fun R => B4 n, n, fun R st k => by kernel_rfl, fun R next cs x => by kernel_rfl⟩
theorem con (n : Nat) : Con Try.prog 48 (sig n) :=
  con_print (hsw := rfl) (T := T n) (TL := TL n) (c := Try.f48.body.getD .skip) (js := [4, 9]) hMixed conT_none Try.func48 (by decide) (by kernel_rfl) (by kernel_rfl) (by decide) (LoopDef.cons (d4 n) (LoopDef.cons (d9 n) LoopDef.nil)) (fun x => by kernel_rfl)
end spec_l22WishesOk
namespace spec_RecMessageOk
def f (n : Nat) (x : Tup [tRecMessage, (.int .i64)]) : Option (Tup [.bool]) :=
  (spec_l21In.f n (x.1.1, (1 : Int), (9 : Int), ())).bind fun y1 =>
  (if y1.1 = true then (spec_l21In.f n (x.1.2.1, (1 : Int), x.2.1, ())) else some (tzero [.bool])).bind fun y2 =>
  (if (y1.1 && y2.1) = true then (spec_l21In.f n (x.1.2.2.1, (1 : Int), x.2.1, ())) else some (tzero [.bool])).bind fun y3 =>
  (if ((y1.1 && y2.1) && y3.1) = true then (spec_l21In.f n (x.1.2.2.2.1, (0 : Int), (1000000 : Int), ())) else some (tzero [.bool])).bind fun y4 =>
  (if (((y1.1 && y2.1) && y3.1) && y4.1) = true then (spec_l21In.f n (x.1.2.2.2.2.1, (0 : Int), (120 : Int), ())) else some (tzero [.bool])).bind fun y5 =>
  (if ((((y1.1 && y2.1) && y3.1) && y4.1) && y5.1) = true then (spec_l21In.f n (x.1.2.2.2.2.2.1, (0 : Int), (120 : Int), ())) else some (tzero [.bool])).bind fun y6 =>
  (if ((((((y1.1 && y2.1) && y3.1) && y4.1) && y5.1) && y6.1) && (decide ((ByteArray.size x.1.2.2.2.2.2.2.1 : Int) ≤ (160 : Int)))) = true then (spec_l21SlotsOk.f n (x.1.2.2.2.2.2.2.2.1, ())) else some (tzero [.bool])).bind fun y7 =>
  some ((((((((y1.1 && y2.1) && y3.1) && y4.1) && y5.1) && y6.1) && (decide ((ByteArray.size x.1.2.2.2.2.2.2.1 : Int) ≤ (160 : Int)))) && y7.1), ())
@[reducible] def sig (n : Nat) : Sig := ⟨[tRecMessage, (.int .i64)], [.bool], false, f n, none⟩
def T (n : Nat) : FuncId → Option Sig := fun g => if Nat.beq g 27 = true then some (spec_l21In.sig n) else if Nat.beq g 50 = true then some (spec_l21SlotsOk.sig n) else none
def TL (n : Nat) : Loops := fun j _ st k => none
theorem con (n : Nat) : Con Try.prog 29 (sig n) :=
  con_print (hsw := rfl) (T := T n) (TL := TL n) (c := Try.f29.body.getD .skip) (js := []) hMixed (conT_cons (spec_l21In.con n) (conT_cons (spec_l21SlotsOk.con n) conT_none)) Try.func29 (by decide) (by kernel_rfl) (by kernel_rfl) (by decide) LoopDef.nil (fun x => by kernel_rfl)
end spec_RecMessageOk
namespace spec_l22Numbers
@[reducible] def l2 : LSpec := ⟨[(0, .d (.slice (.int .i64))), (1, .d (.int .i64)), (5, .d (.int .i64))], [(.ret, [(4, .d .bool)]), (.exit 0, [])]⟩
def B2 (n : Nat) {R : Type} (next : Sden l2.inS → Option R) (cs : Conts R l2.outs) (x : Sden l2.inS) : Option R :=
  if (decide (x.2.2.1 < (List.length x.1 : Int))) = true then
    if (!true || (decide (0 ≤ x.2.2.1 ∧ x.2.2.1 < (List.length x.1 : Int)))) = true then
      (if true = true then (spec_l21In.f n ((List.getD x.1 (Int.toNat x.2.2.1) (0 : Int)), (1 : Int), x.2.1, ())) else some (tzero [.bool])).bind fun y1 =>
      if (!((!(!y1.1)) && (decide (x.2.2.1 > (0 : Int)))) || (decide (0 ≤ (IntKind.i64.wrap (x.2.2.1 - (1 : Int))) ∧ (IntKind.i64.wrap (x.2.2.1 - (1 : Int))) < (List.length x.1 : Int)))) = true then
        if (!((!(!y1.1)) && (decide (x.2.2.1 > (0 : Int)))) || (decide (0 ≤ x.2.2.1 ∧ x.2.2.1 < (List.length x.1 : Int)))) = true then
          if ((!y1.1) || ((decide (x.2.2.1 > (0 : Int))) && (decide ((List.getD x.1 (Int.toNat (IntKind.i64.wrap (x.2.2.1 - (1 : Int)))) (0 : Int)) ≥ (List.getD x.1 (Int.toNat x.2.2.1) (0 : Int)))))) = true then
            cs.1 (false, ())
          else
            next (x.1, x.2.1, (IntKind.i64.wrap (x.2.2.1 + (1 : Int))), ())
        else
          none
      else
        none
    else
      none
  else
    cs.2.1 ()
def f (n : Nat) (x : Tup [(.slice (.int .i64)), (.int .i64)]) : Option (Tup [.bool]) :=
  runL (B2 n) ((fun z2 =>
      some (z2.1, ())), (fun z3 =>
      some (true, ())), ()) n (x.1, x.2.1, (0 : Int), ())
@[reducible] def sig (n : Nat) : Sig := ⟨[(.slice (.int .i64)), (.int .i64)], [.bool], false, f n, none⟩
def T (n : Nat) : FuncId → Option Sig := fun g => if Nat.beq g 27 = true then some (spec_l21In.sig n) else none
def TL (n : Nat) : Loops := fun j _ st k => if Nat.beq j 2 = true then (match dec st l2.inS [] with | some x => runL (B2 n) (contsOf k l2.outs) n x | none => none) else none
theorem d2 (n : Nat) : LoopDef Try.prog (T n) (TL n) Try.f49 2 :=
  ⟨l2, fun R => B2 n, n, fun R st k => by kernel_rfl, fun R next cs x => by kernel_rfl⟩
theorem con (n : Nat) : Con Try.prog 49 (sig n) :=
  con_print (hsw := rfl) (T := T n) (TL := TL n) (c := Try.f49.body.getD .skip) (js := [2]) hMixed (conT_cons (spec_l21In.con n) conT_none) Try.func49 (by decide) (by kernel_rfl) (by kernel_rfl) (by decide) (LoopDef.cons (d2 n) LoopDef.nil) (fun x => by kernel_rfl)
end spec_l22Numbers
namespace spec_l22AcksOk
@[reducible] def l2 : LSpec := ⟨[(0, .d (.slice tRecAck)), (1, .d (.int .i64)), (5, .d (.int .i64))], [(.ret, [(4, .d .bool)]), (.exit 0, [])]⟩
def B2 (n : Nat) {R : Type} (next : Sden l2.inS → Option R) (cs : Conts R l2.outs) (x : Sden l2.inS) : Option R :=
  if (decide (x.2.2.1 < (List.length x.1 : Int))) = true then
    if (!true || (decide (0 ≤ x.2.2.1 ∧ x.2.2.1 < (List.length x.1 : Int)))) = true then
      (if true = true then (spec_l21In.f n ((List.getD x.1 (Int.toNat x.2.2.1) (Ty.zero tRecAck)).1, (1 : Int), (120 : Int), ())) else some (tzero [.bool])).bind fun y1 =>
      if (!(!(!y1.1)) || (decide (0 ≤ x.2.2.1 ∧ x.2.2.1 < (List.length x.1 : Int)))) = true then
        (if (!(!y1.1)) = true then (spec_l22Numbers.f n ((List.getD x.1 (Int.toNat x.2.2.1) (Ty.zero tRecAck)).2.1, x.2.1, ())) else some (tzero [.bool])).bind fun y2 =>
        if (!((!((!y1.1) || (!y2.1))) && (decide (x.2.2.1 > (0 : Int)))) || (decide (0 ≤ (IntKind.i64.wrap (x.2.2.1 - (1 : Int))) ∧ (IntKind.i64.wrap (x.2.2.1 - (1 : Int))) < (List.length x.1 : Int)))) = true then
          if (!((!((!y1.1) || (!y2.1))) && (decide (x.2.2.1 > (0 : Int)))) || (decide (0 ≤ x.2.2.1 ∧ x.2.2.1 < (List.length x.1 : Int)))) = true then
            if (((!y1.1) || (!y2.1)) || ((decide (x.2.2.1 > (0 : Int))) && (decide ((List.getD x.1 (Int.toNat (IntKind.i64.wrap (x.2.2.1 - (1 : Int)))) (Ty.zero tRecAck)).1 ≥ (List.getD x.1 (Int.toNat x.2.2.1) (Ty.zero tRecAck)).1)))) = true then
              cs.1 (false, ())
            else
              next (x.1, x.2.1, (IntKind.i64.wrap (x.2.2.1 + (1 : Int))), ())
          else
            none
        else
          none
      else
        none
    else
      none
  else
    cs.2.1 ()
def f (n : Nat) (x : Tup [(.slice tRecAck), (.int .i64)]) : Option (Tup [.bool]) :=
  runL (B2 n) ((fun z3 =>
      some (z3.1, ())), (fun z4 =>
      some (true, ())), ()) n (x.1, x.2.1, (0 : Int), ())
@[reducible] def sig (n : Nat) : Sig := ⟨[(.slice tRecAck), (.int .i64)], [.bool], false, f n, none⟩
def T (n : Nat) : FuncId → Option Sig := fun g => if Nat.beq g 27 = true then some (spec_l21In.sig n) else if Nat.beq g 49 = true then some (spec_l22Numbers.sig n) else none
def TL (n : Nat) : Loops := fun j _ st k => if Nat.beq j 2 = true then (match dec st l2.inS [] with | some x => runL (B2 n) (contsOf k l2.outs) n x | none => none) else none
theorem d2 (n : Nat) : LoopDef Try.prog (T n) (TL n) Try.f51 2 :=
  ⟨l2, fun R => B2 n, n, fun R st k => by kernel_rfl, fun R next cs x => by kernel_rfl⟩
theorem con (n : Nat) : Con Try.prog 51 (sig n) :=
  con_print (hsw := rfl) (T := T n) (TL := TL n) (c := Try.f51.body.getD .skip) (js := [2]) hMixed (conT_cons (spec_l21In.con n) (conT_cons (spec_l22Numbers.con n) conT_none)) Try.func51 (by decide) (by kernel_rfl) (by kernel_rfl) (by decide) (LoopDef.cons (d2 n) LoopDef.nil) (fun x => by kernel_rfl)
end spec_l22AcksOk
namespace spec_l22Quiet
def f (n : Nat) (x : Tup [tRecorder]) : Option (Tup [.bool]) :=
  some (((((!x.1.2.2.2.2.2.2.2.1) && (!x.1.2.2.2.2.2.2.2.2.1)) && (x.1.2.2.2.2.2.2.2.2.2.1 == (0 : Int))) && ((IntKind.i64.wrap ((IntKind.i64.wrap ((List.length x.1.2.2.2.2.2.2.2.2.2.2.1 : Int) + (List.length x.1.2.2.2.2.2.2.2.2.2.2.2.1 : Int))) + (List.length x.1.2.2.2.2.2.2.2.2.2.2.2.2.1 : Int))) == (0 : Int))), ())
@[reducible] def sig (n : Nat) : Sig := ⟨[tRecorder], [.bool], false, f n, none⟩
def T (n : Nat) : FuncId → Option Sig := fun g => none
def TL (n : Nat) : Loops := fun j _ st k => none
theorem con (n : Nat) : Con Try.prog 52 (sig n) :=
  con_print (hsw := rfl) (T := T n) (TL := TL n) (c := Try.f52.body.getD .skip) (js := []) hMixed conT_none Try.func52 (by decide) (by kernel_rfl) (by kernel_rfl) (by decide) LoopDef.nil (fun x => by kernel_rfl)
end spec_l22Quiet
namespace spec_RecValid
@[reducible] def l4 : LSpec := ⟨[(1, .rb tRecorder), (3, .d (.int .i64))], [(.ret, [(2, .d .bool)]), (.exit 0, [(1, .rb tRecorder)])]⟩
def B4 (n : Nat) {R : Type} (next : Sden l4.inS → Option R) (cs : Conts R l4.outs) (x : Sden l4.inS) : Option R :=
  if (decide (x.2.1 < (List.length x.1.2.2.2.2.2.1 : Int))) = true then
    if (!true || (decide (0 ≤ x.2.1 ∧ x.2.1 < (List.length x.1.2.2.2.2.2.1 : Int)))) = true then
      (if true = true then (spec_RecMessageOk.f n ((List.getD x.1.2.2.2.2.2.1 (Int.toNat x.2.1) (Ty.zero tRecMessage)), x.1.2.1, ())) else some (tzero [.bool])).bind fun y7 =>
      if (!(!(!y7.1)) || (decide (0 ≤ x.2.1 ∧ x.2.1 < (List.length x.1.2.2.2.2.2.1 : Int)))) = true then
        if ((!y7.1) || ((List.getD x.1.2.2.2.2.2.1 (Int.toNat x.2.1) (Ty.zero tRecMessage)).2.1 != x.1.1)) = true then
          cs.1 (false, ())
        else
          next (x.1, (IntKind.i64.wrap (x.2.1 + (1 : Int))), ())
      else
        none
    else
      none
  else
    cs.2.1 (x.1, ())
def f (n : Nat) (x : Tup [tRecorder]) : Option (Tup [.bool]) :=
  (spec_l21In.f n (x.1.2.1, (1 : Int), (5 : Int), ())).bind fun y1 =>
  (if (!(!y1.1)) = true then (spec_l21In.f n (x.1.1, (1 : Int), x.1.2.1, ())) else some (tzero [.bool])).bind fun y2 =>
  (if (!((!y1.1) || (!y2.1))) = true then (spec_RecDiskOk.f n (x.1.2.2.2.1, ())) else some (tzero [.bool])).bind fun y3 =>
  (if (!(((!y1.1) || (!y2.1)) || (!y3.1))) = true then (spec_RecDiskOk.f n (x.1.2.2.2.2.1, ())) else some (tzero [.bool])).bind fun y4 =>
  (if (!(((((!y1.1) || (!y2.1)) || (!y3.1)) || (!y4.1)) || (decide ((List.length x.1.2.2.2.2.2.1 : Int) > (400 : Int))))) = true then (spec_l22WishesOk.f n (x.1.2.2.2.2.2.2.1, ())) else some (tzero [.bool])).bind fun y5 =>
  (if (!((((((!y1.1) || (!y2.1)) || (!y3.1)) || (!y4.1)) || (decide ((List.length x.1.2.2.2.2.2.1 : Int) > (400 : Int)))) || (!y5.1))) = true then (spec_l21In.f n (x.1.2.2.2.2.2.2.2.2.2.2.2.2.2.1, (0 : Int), (1000000 : Int), ())) else some (tzero [.bool])).bind fun y6 =>
  if (((((((!y1.1) || (!y2.1)) || (!y3.1)) || (!y4.1)) || (decide ((List.length x.1.2.2.2.2.2.1 : Int) > (400 : Int)))) || (!y5.1)) || (!y6.1)) = true then
    some (false, ())
  else
    runL (B4 n) ((fun z8 =>
        some (z8.1, ())), (fun z9 =>
        (spec_l22Numbers.f n (z9.1.2.2.2.2.2.2.2.2.2.2.1, z9.1.2.1, ())).bind fun y10 =>
        (if (!(!y10.1)) = true then (spec_l21SlotsOk.f n (z9.1.2.2.2.2.2.2.2.2.2.2.2.1, ())) else some (tzero [.bool])).bind fun y11 =>
        (if (!((!y10.1) || (!y11.1))) = true then (spec_l22AcksOk.f n (z9.1.2.2.2.2.2.2.2.2.2.2.2.2.1, z9.1.2.1, ())) else some (tzero [.bool])).bind fun y12 =>
        if ((((!y10.1) || (!y11.1)) || (!y12.1)) || (z9.1.2.2.2.2.2.2.2.1 && z9.1.2.2.2.2.2.2.2.2.1)) = true then
          some (false, ())
        else if (z9.1.2.2.2.2.2.2.2.1 || z9.1.2.2.2.2.2.2.2.2.1) = true then
          (spec_l21In.f n (z9.1.2.2.2.2.2.2.2.2.2.1, (1 : Int), z9.1.2.2.2.2.1.1, ())).bind fun y13 =>
          if (((!y13.1) || (z9.1.2.2.2.2.2.2.2.2.1 && (decide ((List.length z9.1.2.2.2.2.2.2.2.2.2.2.2.2.1 : Int) > (0 : Int))))) || (z9.1.2.2.2.2.2.2.2.1 && (decide ((IntKind.i64.wrap ((List.length z9.1.2.2.2.2.2.2.2.2.2.2.1 : Int) + (List.length z9.1.2.2.2.2.2.2.2.2.2.2.2.1 : Int))) > (0 : Int))))) = true then
            some (false, ())
          else
            (if (!z9.1.2.2.1) = true then (spec_l22Quiet.f n (z9.1, ())) else some (tzero [.bool])).bind fun y14 =>
            some ((z9.1.2.2.1 || (y14.1 && ((IntKind.i64.wrap ((IntKind.i64.wrap ((List.length z9.1.2.2.2.2.2.1 : Int) + (List.length z9.1.2.2.2.2.2.2.1 : Int))) + z9.1.2.2.2.2.2.2.2.2.2.2.2.2.2.1)) == (0 : Int)))), ())
        else
          (spec_l22Quiet.f n (z9.1, ())).bind fun y15 =>
          if (!y15.1) = true then
            some (false, ())
          else
            (if (!z9.1.2.2.1) = true then (spec_l22Quiet.f n (z9.1, ())) else some (tzero [.bool])).bind fun y16 =>
            some ((z9.1.2.2.1 || (y16.1 && ((IntKind.i64.wrap ((IntKind.i64.wrap ((List.length z9.1.2.2.2.2.2.1 : Int) + (List.length z9.1.2.2.2.2.2.2.1 : Int))) + z9.1.2.2.2.2.2.2.2.2.2.2.2.2.2.1)) == (0 : Int)))), ())), ()) n (x.1, (0 : Int), ())
@[reducible] def sig (n : Nat) : Sig := ⟨[tRecorder], [.bool], false, f n, none⟩
def T (n : Nat) : FuncId → Option Sig := fun g => if Nat.beq g 27 = true then some (spec_l21In.sig n) else if Nat.beq g 29 = true then some (spec_RecMessageOk.sig n) else if Nat.beq g 47 = true then some (spec_RecDiskOk.sig n) else if Nat.beq g 48 = true then some (spec_l22WishesOk.sig n) else if Nat.beq g 49 = true then some (spec_l22Numbers.sig n) else if Nat.beq g 50 = true then some (spec_l21SlotsOk.sig n) else if Nat.beq g 51 = true then some (spec_l22AcksOk.sig n) else if Nat.beq g 52 = true then some (spec_l22Quiet.sig n) else none
def TL (n : Nat) : Loops := fun j _ st k => if Nat.beq j 4 = true then (match dec st l4.inS [] with | some x => runL (B4 n) (contsOf k l4.outs) n x | none => none) else none
theorem d4 (n : Nat) : LoopDef Try.prog (T n) (TL n) Try.f28 4 :=
  ⟨l4, fun R => B4 n, n, fun R st k => by kernel_rfl, fun R next cs x => by kernel_rfl⟩
theorem con (n : Nat) : Con Try.prog 28 (sig n) :=
  con_print (hsw := rfl) (T := T n) (TL := TL n) (c := Try.f28.body.getD .skip) (js := [4]) hMixed (conT_cons (spec_l21In.con n) (conT_cons (spec_RecMessageOk.con n) (conT_cons (spec_RecDiskOk.con n) (conT_cons (spec_l22WishesOk.con n) (conT_cons (spec_l22Numbers.con n) (conT_cons (spec_l21SlotsOk.con n) (conT_cons (spec_l22AcksOk.con n) (conT_cons (spec_l22Quiet.con n) conT_none)))))))) Try.func28 (by decide) (by kernel_rfl) (by kernel_rfl) (by decide) (LoopDef.cons (d4 n) LoopDef.nil) (fun x => by kernel_rfl)
end spec_RecValid
namespace spec_RecWorldOk
@[reducible] def l5 : LSpec := ⟨[(1, .rb tRecWorld), (3, .d (.int .i64)), (4, .d (.int .i64))], [(.ret, [(2, .d .bool)]), (.exit 0, [(1, .rb tRecWorld), (3, .d (.int .i64))])]⟩
def B5 (n : Nat) {R : Type} (next : Sden l5.inS → Option R) (cs : Conts R l5.outs) (x : Sden l5.inS) : Option R :=
  if (decide (x.2.2.1 < x.2.1)) = true then
    if (decide (0 ≤ x.2.2.1 ∧ x.2.2.1 < (List.length x.1.1 : Int))) = true then
      (spec_RecValid.f n ((List.getD x.1.1 (Int.toNat x.2.2.1) (Ty.zero tRecorder)), ())).bind fun y2 =>
      if (!(!(!y2.1)) || (decide (0 ≤ x.2.2.1 ∧ x.2.2.1 < (List.length x.1.1 : Int)))) = true then
        if (!(!((!y2.1) || ((List.getD x.1.1 (Int.toNat x.2.2.1) (Ty.zero tRecorder)).1 != (IntKind.i64.wrap (x.2.2.1 + (1 : Int)))))) || (decide (0 ≤ x.2.2.1 ∧ x.2.2.1 < (List.length x.1.1 : Int)))) = true then
          if (((!y2.1) || ((List.getD x.1.1 (Int.toNat x.2.2.1) (Ty.zero tRecorder)).1 != (IntKind.i64.wrap (x.2.2.1 + (1 : Int))))) || ((List.getD x.1.1 (Int.toNat x.2.2.1) (Ty.zero tRecorder)).2.1 != x.2.1)) = true then
            cs.1 (false, ())
          else
            next (x.1, x.2.1, (IntKind.i64.wrap (x.2.2.1 + (1 : Int))), ())
        else
          none
      else
        none
    else
      none
  else
    cs.2.1 (x.1, x.2.1, ())
@[reducible] def l10 : LSpec := ⟨[(1, .rb tRecWorld), (3, .d (.int .i64)), (5, .d (.int .i64))], [(.ret, [(2, .d .bool)]), (.exit 2, [(1, .rb tRecWorld)])]⟩
def B10 (n : Nat) {R : Type} (next : Sden l10.inS → Option R) (cs : Conts R l10.outs) (x : Sden l10.inS) : Option R :=
  if (decide (x.2.2.1 < (List.length x.1.2.1 : Int))) = true then
    if (decide (0 ≤ x.2.2.1 ∧ x.2.2.1 < (List.length x.1.2.1 : Int))) = true then
      (spec_RecMessageOk.f n ((List.getD x.1.2.1 (Int.toNat x.2.2.1) (Ty.zero tRecMessage)), x.2.1, ())).bind fun y5 =>
      if (!y5.1) = true then
        cs.1 (false, ())
      else
        next (x.1, x.2.1, (IntKind.i64.wrap (x.2.2.1 + (1 : Int))), ())
    else
      none
  else
    cs.2.1 (x.1, ())
@[reducible] def l15 : LSpec := ⟨[(1, .rb tRecWorld), (6, .d (.int .i64))], [(.ret, [(2, .d .bool)]), (.exit 4, [])]⟩
def B15 (n : Nat) {R : Type} (next : Sden l15.inS → Option R) (cs : Conts R l15.outs) (x : Sden l15.inS) : Option R :=
  if (decide (x.2.1 < (List.length x.1.2.2.1 : Int))) = true then
    if (!true || (decide (0 ≤ x.2.1 ∧ x.2.1 < (List.length x.1.2.2.1 : Int)))) = true then
      (if true = true then (spec_l21In.f n ((List.getD x.1.2.2.1 (Int.toNat x.2.1) (Ty.zero tRecSlot)).1, (1 : Int), (120 : Int), ())) else some (tzero [.bool])).bind fun y8 =>
      if (!(!(!y8.1)) || (decide (0 ≤ x.2.1 ∧ x.2.1 < (List.length x.1.2.2.1 : Int)))) = true then
        if (!((!((!y8.1) || (decide ((ByteArray.size (List.getD x.1.2.2.1 (Int.toNat x.2.1) (Ty.zero tRecSlot)).2.1 : Int) > (160 : Int))))) && (decide (x.2.1 > (0 : Int)))) || (decide (0 ≤ (IntKind.i64.wrap (x.2.1 - (1 : Int))) ∧ (IntKind.i64.wrap (x.2.1 - (1 : Int))) < (List.length x.1.2.2.1 : Int)))) = true then
          if (!((!((!y8.1) || (decide ((ByteArray.size (List.getD x.1.2.2.1 (Int.toNat x.2.1) (Ty.zero tRecSlot)).2.1 : Int) > (160 : Int))))) && (decide (x.2.1 > (0 : Int)))) || (decide (0 ≤ x.2.1 ∧ x.2.1 < (List.length x.1.2.2.1 : Int)))) = true then
            if (((!y8.1) || (decide ((ByteArray.size (List.getD x.1.2.2.1 (Int.toNat x.2.1) (Ty.zero tRecSlot)).2.1 : Int) > (160 : Int)))) || ((decide (x.2.1 > (0 : Int))) && (decide ((List.getD x.1.2.2.1 (Int.toNat (IntKind.i64.wrap (x.2.1 - (1 : Int)))) (Ty.zero tRecSlot)).1 ≥ (List.getD x.1.2.2.1 (Int.toNat x.2.1) (Ty.zero tRecSlot)).1)))) = true then
              cs.1 (false, ())
            else
              next (x.1, (IntKind.i64.wrap (x.2.1 + (1 : Int))), ())
          else
            none
        else
          none
      else
        none
    else
      none
  else
    cs.2.1 ()
def f (n : Nat) (x : Tup [tRecWorld]) : Option (Tup [.bool]) :=
  (spec_l21In.f n ((List.length x.1.1 : Int), (1 : Int), (5 : Int), ())).bind fun y1 =>
  if ((!y1.1) || (decide ((List.length x.1.2.1 : Int) > (600 : Int)))) = true then
    some (false, ())
  else
    runL (B5 n) ((fun z3 =>
        some (z3.1, ())), (fun z4 =>
        runL (B10 n) ((fun z6 =>
            some (z6.1, ())), (fun z7 =>
            runL (B15 n) ((fun z9 =>
                some (z9.1, ())), (fun z10 =>
                some (true, ())), ()) n (z7.1, (0 : Int), ())), ()) n (z4.1, z4.2.1, (0 : Int), ())), ()) n (x.1, (List.length x.1.1 : Int), (0 : Int), ())
@[reducible] def sig (n : Nat) : Sig := ⟨[tRecWorld], [.bool], false, f n, none⟩
def T (n : Nat) : FuncId → Option Sig := fun g => if Nat.beq g 27 = true then some (spec_l21In.sig n) else if Nat.beq g 28 = true then some (spec_RecValid.sig n) else if Nat.beq g 29 = true then some (spec_RecMessageOk.sig n) else none
def TL (n : Nat) : Loops := fun j _ st k => if Nat.beq j 5 = true then (match dec st l5.inS [] with | some x => runL (B5 n) (contsOf k l5.outs) n x | none => none) else if Nat.beq j 10 = true then (match dec st l10.inS [] with | some x => runL (B10 n) (contsOf k l10.outs) n x | none => none) else if Nat.beq j 15 = true then (match dec st l15.inS [] with | some x => runL (B15 n) (contsOf k l15.outs) n x | none => none) else none
theorem d5 (n : Nat) : LoopDef Try.prog (T n) (TL n) Try.f12 5 :=
  ⟨l5, fun R => B5 n, n, fun R st k => by kernel_rfl, fun R next cs x => by kernel_rfl⟩
theorem d10 (n : Nat) : LoopDef Try.prog (T n) (TL n) Try.f12 10 :=
  ⟨l10, fun R => B10 n, n, fun R st k => by kernel_rfl, fun R next cs x => by kernel_rfl⟩
theorem d15 (n : Nat) : LoopDef Try.prog (T n) (TL n) Try.f12 15 :=
  ⟨l15, fun R => B15 n, n, fun R st k => by kernel_rfl, fun R next cs x => by kernel_rfl⟩
theorem con (n : Nat) : Con Try.prog 12 (sig n) :=
  con_print (hsw := rfl) (T := T n) (TL := TL n) (c := Try.f12.body.getD .skip) (js := [5, 10, 15]) hMixed (conT_cons (spec_l21In.con n) (conT_cons (spec_RecValid.con n) (conT_cons (spec_RecMessageOk.con n) conT_none))) Try.func12 (by decide) (by kernel_rfl) (by kernel_rfl) (by decide) (LoopDef.cons (d5 n) (LoopDef.cons (d10 n) (LoopDef.cons (d15 n) LoopDef.nil))) (fun x => by kernel_rfl)
end spec_RecWorldOk
namespace spec_RecBook
@[reducible] def l5 : LSpec := ⟨[(1, .rb tRecorder), (3, .row true .str), (4, .d (.int .i64))], [(.exit 0, [(3, .row true .str)])]⟩
def B5 (n : Nat) {R : Type} (next : Sden l5.inS → Option R) (cs : Conts R l5.outs) (x : Sden l5.inS) : Option R :=
  if (decide (x.2.2.1 < x.1.2.2.2.2.1.2.1)) = true then
    if (decide (0 ≤ x.2.2.1 ∧ x.2.2.1 < (List.length x.1.2.2.2.2.1.2.2.1 : Int))) = true then
      if (appBound (List.length x.2.1) (List.length [(List.getD x.1.2.2.2.2.1.2.2.1 (Int.toNat x.2.2.1) (Ty.zero tRecSlot)).2.1]) 16) = true then
        next (x.1, (x.2.1 ++ [(List.getD x.1.2.2.2.2.1.2.2.1 (Int.toNat x.2.2.1) (Ty.zero tRecSlot)).2.1]), (IntKind.i64.wrap (x.2.2.1 + (1 : Int))), ())
      else
        none
    else
      none
  else
    cs.1 (x.2.1, ())
def f (n : Nat) (x : Tup [tRecorder]) : Option (Tup [(.slice .str)]) :=
  (spec_RecValid.f n (x.1, ())).bind fun y1 =>
  if (!y1.1) = true then
    some (([] : List (Ty.den .str)), ())
  else
    runL (B5 n) ((fun z2 =>
        some (z2.1, ())), ()) n (x.1, ([] : List (Ty.den .str)), (0 : Int), ())
@[reducible] def sig (n : Nat) : Sig := ⟨[tRecorder], [(.slice .str)], true, f n, none⟩
def T (n : Nat) : FuncId → Option Sig := fun g => if Nat.beq g 28 = true then some (spec_RecValid.sig n) else none
def TL (n : Nat) : Loops := fun j _ st k => if Nat.beq j 5 = true then (match dec st l5.inS [] with | some x => runL (B5 n) (contsOf k l5.outs) n x | none => none) else none
theorem d5 (n : Nat) : LoopDef Try.prog (T n) (TL n) Try.f13 5 :=
  ⟨l5, fun R => B5 n, n, fun R st k => by kernel_rfl, fun R next cs x => by kernel_rfl⟩
theorem con (n : Nat) : Con Try.prog 13 (sig n) :=
  con_print (hsw := rfl) (T := T n) (TL := TL n) (c := Try.f13.body.getD .skip) (js := [5]) hMixed (conT_cons (spec_RecValid.con n) conT_none) Try.func13 (by decide) (by kernel_rfl) (by kernel_rfl) (by decide) (LoopDef.cons (d5 n) LoopDef.nil) (fun x => by kernel_rfl)
end spec_RecBook
namespace spec_l27Fixed
@[reducible] def l2 : LSpec := ⟨[(1, .d (.int .i64)), (2, .rb tRecWorld), (6, .d (.int .i64))], [(.ret, [(4, .d .str), (5, .d .bool)]), (.exit 0, [])]⟩
def B2 (n : Nat) {R : Type} (next : Sden l2.inS → Option R) (cs : Conts R l2.outs) (x : Sden l2.inS) : Option R :=
  if (decide (x.2.2.1 < (List.length x.2.1.2.2.1 : Int))) = true then
    if (decide (0 ≤ x.2.2.1 ∧ x.2.2.1 < (List.length x.2.1.2.2.1 : Int))) = true then
      if ((List.getD x.2.1.2.2.1 (Int.toNat x.2.2.1) (Ty.zero tRecSlot)).1 == x.1) = true then
        if (decide (0 ≤ x.2.2.1 ∧ x.2.2.1 < (List.length x.2.1.2.2.1 : Int))) = true then
          cs.1 ((List.getD x.2.1.2.2.1 (Int.toNat x.2.2.1) (Ty.zero tRecSlot)).2.1, true, ())
        else
          none
      else
        next (x.1, x.2.1, (IntKind.i64.wrap (x.2.2.1 + (1 : Int))), ())
    else
      none
  else
    cs.2.1 ()
def f (n : Nat) (x : Tup [tRecWorld, (.int .i64)]) : Option (Tup [.str, .bool]) :=
  runL (B2 n) ((fun z1 =>
      some (z1.1, z1.2.1, ())), (fun z2 =>
      some ((⟨#[]⟩ : ByteArray), false, ())), ()) n (x.2.1, x.1, (0 : Int), ())
@[reducible] def sig (n : Nat) : Sig := ⟨[tRecWorld, (.int .i64)], [.str, .bool], false, f n, none⟩
def T (n : Nat) : FuncId → Option Sig := fun g => none
def TL (n : Nat) : Loops := fun j _ st k => if Nat.beq j 2 = true then (match dec st l2.inS [] with | some x => runL (B2 n) (contsOf k l2.outs) n x | none => none) else none
theorem d2 (n : Nat) : LoopDef Try.prog (T n) (TL n) Try.f14 2 :=
  ⟨l2, fun R => B2 n, n, fun R st k => by kernel_rfl, fun R next cs x => by kernel_rfl⟩
theorem con (n : Nat) : Con Try.prog 14 (sig n) :=
  con_print (hsw := rfl) (T := T n) (TL := TL n) (c := Try.f14.body.getD .skip) (js := [2]) hMixed conT_none Try.func14 (by decide) (by kernel_rfl) (by kernel_rfl) (by decide) (LoopDef.cons (d2 n) LoopDef.nil) (fun x => by kernel_rfl)
end spec_l27Fixed
namespace spec_l27Major
@[reducible] def l8 : LSpec := ⟨[(1, .d (.int .i64)), (2, .rb tRecWorld), (6, .d (.int .i64)), (7, .box [.d (.int .i64), .d (.int .i64), .d (.slice tRecSlot)]), (8, .d (.int .i64)), (9, .d (.int .i64))], [(.exit 2, [(1, .d (.int .i64)), (2, .rb tRecWorld), (6, .d (.int .i64)), (7, .box [.d (.int .i64), .d (.int .i64), .d (.slice tRecSlot)]), (8, .d (.int .i64))])]⟩
def B8 (n : Nat) {R : Type} (next : Sden l8.inS → Option R) (cs : Conts R l8.outs) (x : Sden l8.inS) : Option R :=
  if (decide (x.2.2.2.2.2.1 < (List.length x.2.1.1 : Int))) = true then
    if (decide (0 ≤ x.2.2.2.2.2.1 ∧ x.2.2.2.2.2.1 < (List.length x.2.1.1 : Int))) = true then
      if (!(decide (x.1 ≤ (List.length (List.getD x.2.1.1 (Int.toNat x.2.2.2.2.2.1) (Ty.zero tRecorder)).2.2.2.1.2.2.1 : Int))) || (decide (0 ≤ (IntKind.i64.wrap (x.1 - (1 : Int))) ∧ (IntKind.i64.wrap (x.1 - (1 : Int))) < (List.length (List.getD x.2.1.1 (Int.toNat x.2.2.2.2.2.1) (Ty.zero tRecorder)).2.2.2.1.2.2.1 : Int)))) = true then
        if (!(decide (x.1 ≤ (List.length (List.getD x.2.1.1 (Int.toNat x.2.2.2.2.2.1) (Ty.zero tRecorder)).2.2.2.1.2.2.1 : Int))) || (decide (0 ≤ (IntKind.i64.wrap (x.1 - (1 : Int))) ∧ (IntKind.i64.wrap (x.1 - (1 : Int))) < (List.length x.2.2.2.1.2.2.1 : Int)))) = true then
          if ((decide (x.1 ≤ (List.length (List.getD x.2.1.1 (Int.toNat x.2.2.2.2.2.1) (Ty.zero tRecorder)).2.2.2.1.2.2.1 : Int))) && (((List.getD (List.getD x.2.1.1 (Int.toNat x.2.2.2.2.2.1) (Ty.zero tRecorder)).2.2.2.1.2.2.1 (Int.toNat (IntKind.i64.wrap (x.1 - (1 : Int)))) (Ty.zero tRecSlot)).1 == (List.getD x.2.2.2.1.2.2.1 (Int.toNat (IntKind.i64.wrap (x.1 - (1 : Int)))) (Ty.zero tRecSlot)).1) && ((seq (List.getD (List.getD x.2.1.1 (Int.toNat x.2.2.2.2.2.1) (Ty.zero tRecorder)).2.2.2.1.2.2.1 (Int.toNat (IntKind.i64.wrap (x.1 - (1 : Int)))) (Ty.zero tRecSlot)).2.1 (List.getD x.2.2.2.1.2.2.1 (Int.toNat (IntKind.i64.wrap (x.1 - (1 : Int)))) (Ty.zero tRecSlot)).2.1) && true))) = true then
            next (x.1, x.2.1, x.2.2.1, (x.2.2.2.1.1, x.2.2.2.1.2.1, x.2.2.2.1.2.2.1, ()), (IntKind.i64.wrap (x.2.2.2.2.1 + (1 : Int))), (IntKind.i64.wrap (x.2.2.2.2.2.1 + (1 : Int))), ())
          else
            next (x.1, x.2.1, x.2.2.1, (x.2.2.2.1.1, x.2.2.2.1.2.1, x.2.2.2.1.2.2.1, ()), x.2.2.2.2.1, (IntKind.i64.wrap (x.2.2.2.2.2.1 + (1 : Int))), ())
        else
          none
      else
        none
    else
      none
  else
    cs.1 (x.1, x.2.1, x.2.2.1, (x.2.2.2.1.1, x.2.2.2.1.2.1, x.2.2.2.1.2.2.1, ()), x.2.2.2.2.1, ())
@[reducible] def l2 : LSpec := ⟨[(1, .d (.int .i64)), (2, .rb tRecWorld), (6, .d (.int .i64))], [(.ret, [(4, .d .str), (5, .d .bool)]), (.exit 0, [])]⟩
def B2 (n : Nat) {R : Type} (next : Sden l2.inS → Option R) (cs : Conts R l2.outs) (x : Sden l2.inS) : Option R :=
  if (decide (x.2.2.1 < (List.length x.2.1.1 : Int))) = true then
    if (decide (0 ≤ x.2.2.1 ∧ x.2.2.1 < (List.length x.2.1.1 : Int))) = true then
      if (!(!((decide (x.1 < (1 : Int))) || (decide (x.1 > (List.length (List.getD x.2.1.1 (Int.toNat x.2.2.1) (Ty.zero tRecorder)).2.2.2.1.2.2.1 : Int))))) || (decide (0 ≤ (IntKind.i64.wrap (x.1 - (1 : Int))) ∧ (IntKind.i64.wrap (x.1 - (1 : Int))) < (List.length (List.getD x.2.1.1 (Int.toNat x.2.2.1) (Ty.zero tRecorder)).2.2.2.1.2.2.1 : Int)))) = true then
        if (((decide (x.1 < (1 : Int))) || (decide (x.1 > (List.length (List.getD x.2.1.1 (Int.toNat x.2.2.1) (Ty.zero tRecorder)).2.2.2.1.2.2.1 : Int)))) || ((List.getD (List.getD x.2.1.1 (Int.toNat x.2.2.1) (Ty.zero tRecorder)).2.2.2.1.2.2.1 (Int.toNat (IntKind.i64.wrap (x.1 - (1 : Int)))) (Ty.zero tRecSlot)).1 == (0 : Int))) = true then
          next (x.1, x.2.1, (IntKind.i64.wrap (x.2.2.1 + (1 : Int))), ())
        else
          runL (B8 n) ((fun z1 =>
              if (decide ((IntKind.i64.wrap ((2 : Int) * z1.2.2.2.2.1)) > (List.length z1.2.1.1 : Int))) = true then
                if (decide (0 ≤ (IntKind.i64.wrap (z1.1 - (1 : Int))) ∧ (IntKind.i64.wrap (z1.1 - (1 : Int))) < (List.length z1.2.2.2.1.2.2.1 : Int))) = true then
                  cs.1 ((List.getD z1.2.2.2.1.2.2.1 (Int.toNat (IntKind.i64.wrap (z1.1 - (1 : Int)))) (Ty.zero tRecSlot)).2.1, true, ())
                else
                  none
              else
                next (z1.1, z1.2.1, (IntKind.i64.wrap (z1.2.2.1 + (1 : Int))), ())), ()) n (x.1, x.2.1, x.2.2.1, ((List.getD x.2.1.1 (Int.toNat x.2.2.1) (Ty.zero tRecorder)).2.2.2.1.1, (List.getD x.2.1.1 (Int.toNat x.2.2.1) (Ty.zero tRecorder)).2.2.2.1.2.1, (List.getD x.2.1.1 (Int.toNat x.2.2.1) (Ty.zero tRecorder)).2.2.2.1.2.2.1, ()), (0 : Int), (0 : Int), ())
      else
        none
    else
      none
  else
    cs.2.1 ()
def f (n : Nat) (x : Tup [tRecWorld, (.int .i64)]) : Option (Tup [.str, .bool]) :=
  runL (B2 n) ((fun z2 =>
      some (z2.1, z2.2.1, ())), (fun z3 =>
      some ((⟨#[]⟩ : ByteArray), false, ())), ()) n (x.2.1, x.1, (0 : Int), ())
@[reducible] def sig (n : Nat) : Sig := ⟨[tRecWorld, (.int .i64)], [.str, .bool], false, f n, none⟩
def T (n : Nat) : FuncId → Option Sig := fun g => none
def TL (n : Nat) : Loops := fun j _ st k => if Nat.beq j 8 = true then (match dec st l8.inS [] with | some x => runL (B8 n) (contsOf k l8.outs) n x | none => none) else if Nat.beq j 2 = true then (match dec st l2.inS [] with | some x => runL (B2 n) (contsOf k l2.outs) n x | none => none) else none
theorem d8 (n : Nat) : LoopDef Try.prog (T n) (TL n) Try.f15 8 :=
  ⟨l8, fun R => B8 n, n, fun R st k => by kernel_rfl, fun R next cs x => by kernel_rfl⟩
theorem d2 (n : Nat) : LoopDef Try.prog (T n) (TL n) Try.f15 2 :=
  ⟨l2, fun R => B2 n, n, fun R st k => by kernel_rfl, fun R next cs x => by kernel_rfl⟩
theorem con (n : Nat) : Con Try.prog 15 (sig n) :=
  con_print (hsw := rfl) (T := T n) (TL := TL n) (c := Try.f15.body.getD .skip) (js := [2, 8]) hMixed conT_none Try.func15 (by decide) (by kernel_rfl) (by kernel_rfl) (by decide) (LoopDef.cons (d2 n) (LoopDef.cons (d8 n) LoopDef.nil)) (fun x => by kernel_rfl)
end spec_l27Major
namespace spec_RecAgree
@[reducible] def l8 : LSpec := ⟨[(1, .rb tRecWorld), (3, .d (.int .i64)), (4, .row true .str), (5, .d (.int .i64))], [(.ret, [(2, .d .bool)]), (.exit 2, [(1, .rb tRecWorld), (3, .d (.int .i64))])]⟩
def B8 (n : Nat) {R : Type} (next : Sden l8.inS → Option R) (cs : Conts R l8.outs) (x : Sden l8.inS) : Option R :=
  if (decide (x.2.2.2.1 < (List.length x.2.2.1 : Int))) = true then
    (spec_l27Fixed.f n (x.1, (IntKind.i64.wrap (x.2.2.2.1 + (1 : Int))), ())).bind fun y3 =>
    if (!(!(!y3.2.1)) || (decide (0 ≤ x.2.2.2.1 ∧ x.2.2.2.1 < (List.length x.2.2.1 : Int)))) = true then
      if ((!y3.2.1) || (!seq y3.1 (List.getD x.2.2.1 (Int.toNat x.2.2.2.1) (⟨#[]⟩ : ByteArray)))) = true then
        cs.1 (false, ())
      else
        next (x.1, x.2.1, x.2.2.1, (IntKind.i64.wrap (x.2.2.2.1 + (1 : Int))), ())
    else
      none
  else
    cs.2.1 (x.1, x.2.1, ())
@[reducible] def l4 : LSpec := ⟨[(1, .rb tRecWorld), (3, .d (.int .i64))], [(.ret, [(2, .d .bool)]), (.exit 0, [(1, .rb tRecWorld)])]⟩
def B4 (n : Nat) {R : Type} (next : Sden l4.inS → Option R) (cs : Conts R l4.outs) (x : Sden l4.inS) : Option R :=
  if (decide (x.2.1 < (List.length x.1.1 : Int))) = true then
    if (decide (0 ≤ x.2.1 ∧ x.2.1 < (List.length x.1.1 : Int))) = true then
      (spec_RecBook.f n ((List.getD x.1.1 (Int.toNat x.2.1) (Ty.zero tRecorder)), ())).bind fun y2 =>
      runL (B8 n) ((fun z4 =>
          cs.1 (z4.1, ())), (fun z5 =>
          next (z5.1, (IntKind.i64.wrap (z5.2.1 + (1 : Int))), ())), ()) n (x.1, x.2.1, y2.1, (0 : Int), ())
    else
      none
  else
    cs.2.1 (x.1, ())
@[reducible] def l14 : LSpec := ⟨[(1, .rb tRecWorld), (8, .d (.int .i64))], [(.ret, [(2, .d .bool)]), (.exit 4, [])]⟩
def B14 (n : Nat) {R : Type} (next : Sden l14.inS → Option R) (cs : Conts R l14.outs) (x : Sden l14.inS) : Option R :=
  if (decide (x.2.1 ≤ (120 : Int))) = true then
    (spec_l27Major.f n (x.1, x.2.1, ())).bind fun y8 =>
    (spec_l27Fixed.f n (x.1, x.2.1, ())).bind fun y9 =>
    if (y8.2.1 && ((!y9.2.1) || (!seq y9.1 y8.1))) = true then
      cs.1 (false, ())
    else
      next (x.1, (IntKind.i64.wrap (x.2.1 + (1 : Int))), ())
  else
    cs.2.1 ()
def f (n : Nat) (x : Tup [tRecWorld]) : Option (Tup [.bool]) :=
  (spec_RecWorldOk.f n (x.1, ())).bind fun y1 =>
  if (!y1.1) = true then
    some (false, ())
  else
    runL (B4 n) ((fun z6 =>
        some (z6.1, ())), (fun z7 =>
        runL (B14 n) ((fun z10 =>
            some (z10.1, ())), (fun z11 =>
            some (true, ())), ()) n (z7.1, (1 : Int), ())), ()) n (x.1, (0 : Int), ())
@[reducible] def sig (n : Nat) : Sig := ⟨[tRecWorld], [.bool], false, f n, none⟩
def T (n : Nat) : FuncId → Option Sig := fun g => if Nat.beq g 12 = true then some (spec_RecWorldOk.sig n) else if Nat.beq g 13 = true then some (spec_RecBook.sig n) else if Nat.beq g 14 = true then some (spec_l27Fixed.sig n) else if Nat.beq g 15 = true then some (spec_l27Major.sig n) else none
def TL (n : Nat) : Loops := fun j _ st k => if Nat.beq j 8 = true then (match dec st l8.inS [] with | some x => runL (B8 n) (contsOf k l8.outs) n x | none => none) else if Nat.beq j 4 = true then (match dec st l4.inS [] with | some x => runL (B4 n) (contsOf k l4.outs) n x | none => none) else if Nat.beq j 14 = true then (match dec st l14.inS [] with | some x => runL (B14 n) (contsOf k l14.outs) n x | none => none) else none
theorem d8 (n : Nat) : LoopDef Try.prog (T n) (TL n) Try.f5 8 :=
  ⟨l8, fun R => B8 n, n, fun R st k => by kernel_rfl, fun R next cs x => by kernel_rfl⟩
theorem d4 (n : Nat) : LoopDef Try.prog (T n) (TL n) Try.f5 4 :=
  ⟨l4, fun R => B4 n, n, fun R st k => by kernel_rfl, fun R next cs x => by kernel_rfl⟩
theorem d14 (n : Nat) : LoopDef Try.prog (T n) (TL n) Try.f5 14 :=
  ⟨l14, fun R => B14 n, n, fun R st k => by kernel_rfl, fun R next cs x => by kernel_rfl⟩
theorem con (n : Nat) : Con Try.prog 5 (sig n) :=
  con_print (hsw := rfl) (T := T n) (TL := TL n) (c := Try.f5.body.getD .skip) (js := [4, 8, 14]) hMixed (conT_cons (spec_RecWorldOk.con n) (conT_cons (spec_RecBook.con n) (conT_cons (spec_l27Fixed.con n) (conT_cons (spec_l27Major.con n) conT_none)))) Try.func5 (by decide) (by kernel_rfl) (by kernel_rfl) (by decide) (LoopDef.cons (d4 n) (LoopDef.cons (d8 n) (LoopDef.cons (d14 n) LoopDef.nil))) (fun x => by kernel_rfl)
end spec_RecAgree
namespace impl_within_rec
def f (n : Nat) (x : Tup [(.int .i64), (.int .i64), (.int .i64)]) : Option (Tup [.bool]) :=
  some (((decide (x.1 ≥ x.2.1)) && (decide (x.1 ≤ x.2.2.1))), ())
@[reducible] def sig (n : Nat) : Sig := ⟨[(.int .i64), (.int .i64), (.int .i64)], [.bool], false, f n, none⟩
def T (n : Nat) : FuncId → Option Sig := fun g => none
def TL (n : Nat) : Loops := fun j _ st k => none
theorem con (n : Nat) : Con Try.prog 33 (sig n) :=
  con_print (hsw := rfl) (T := T n) (TL := TL n) (c := Try.f33.body.getD .skip) (js := []) hMixed conT_none Try.func33 (by decide) (by kernel_rfl) (by kernel_rfl) (by decide) LoopDef.nil (fun x => by kernel_rfl)
end impl_within_rec
namespace impl_slotsOk
@[reducible] def l4 : LSpec := ⟨[(8, .d (.slice tRecSlot)), (9, .d (.int .i64)), (10, .d (.int .i64))], [(.ret, [(2, .d .bool)]), (.exit 0, [])]⟩
def B4 (n : Nat) {R : Type} (next : Sden l4.inS → Option R) (cs : Conts R l4.outs) (x : Sden l4.inS) : Option R :=
  if (decide (x.2.2.1 < x.2.1)) = true then
    if (decide (0 ≤ x.2.2.1 ∧ x.2.2.1 < (List.length x.1 : Int))) = true then
      (impl_within_rec.f n ((List.getD x.1 (Int.toNat x.2.2.1) (Ty.zero tRecSlot)).1, (0 : Int), (1000000 : Int), ())).bind fun y1 =>
      if (((!y1.1) || (decide ((ByteArray.size (List.getD x.1 (Int.toNat x.2.2.1) (Ty.zero tRecSlot)).2.1 : Int) > (160 : Int)))) || (((List.getD x.1 (Int.toNat x.2.2.1) (Ty.zero tRecSlot)).1 == (0 : Int)) && (!seq (List.getD x.1 (Int.toNat x.2.2.1) (Ty.zero tRecSlot)).2.1 (⟨#[]⟩ : ByteArray)))) = true then
        cs.1 (false, ())
      else
        next (x.1, x.2.1, (IntKind.i64.wrap (x.2.2.1 + (1 : Int))), ())
    else
      none
  else
    cs.2.1 ()
def f (n : Nat) (x : Tup [(.slice tRecSlot)]) : Option (Tup [.bool]) :=
  if (decide ((List.length x.1 : Int) > (120 : Int))) = true then
    some (false, ())
  else
    runL (B4 n) ((fun z2 =>
        some (z2.1, ())), (fun z3 =>
        some (true, ())), ()) n (x.1, (List.length x.1 : Int), (0 : Int), ())
@[reducible] def sig (n : Nat) : Sig := ⟨[(.slice tRecSlot)], [.bool], false, f n, none⟩
def T (n : Nat) : FuncId → Option Sig := fun g => if Nat.beq g 33 = true then some (impl_within_rec.sig n) else none
def TL (n : Nat) : Loops := fun j _ st k => if Nat.beq j 4 = true then (match dec st l4.inS [] with | some x => runL (B4 n) (contsOf k l4.outs) n x | none => none) else none
theorem d4 (n : Nat) : LoopDef Try.prog (T n) (TL n) Try.f60 4 :=
  ⟨l4, fun R => B4 n, n, fun R st k => by kernel_rfl, fun R next cs x => by kernel_rfl⟩
theorem con (n : Nat) : Con Try.prog 60 (sig n) :=
  con_print (hsw := rfl) (T := T n) (TL := TL n) (c := Try.f60.body.getD .skip) (js := [4]) hMixed (conT_cons (impl_within_rec.con n) conT_none) Try.func60 (by decide) (by kernel_rfl) (by kernel_rfl) (by decide) (LoopDef.cons (d4 n) LoopDef.nil) (fun x => by kernel_rfl)
end impl_slotsOk
namespace impl_RecDiskOk
@[reducible] def l4 : LSpec := ⟨[(1, .rb tRecDisk), (25, .d (.slice tRecSlot)), (26, .d (.int .i64)), (27, .d (.int .i64))], [(.ret, [(2, .d .bool)]), (.exit 0, [])]⟩
def B4 (n : Nat) {R : Type} (next : Sden l4.inS → Option R) (cs : Conts R l4.outs) (x : Sden l4.inS) : Option R :=
  if (decide (x.2.2.2.1 < x.2.2.1)) = true then
    if (decide (0 ≤ x.2.2.2.1 ∧ x.2.2.2.1 < (List.length x.2.1 : Int))) = true then
      if ((decide ((List.getD x.2.1 (Int.toNat x.2.2.2.1) (Ty.zero tRecSlot)).1 > x.1.1)) || ((decide (x.2.2.2.1 < x.1.2.1)) && ((List.getD x.2.1 (Int.toNat x.2.2.2.1) (Ty.zero tRecSlot)).1 == (0 : Int)))) = true then
        cs.1 (false, ())
      else
        next (x.1, x.2.1, x.2.2.1, (IntKind.i64.wrap (x.2.2.2.1 + (1 : Int))), ())
    else
      none
  else
    cs.2.1 ()
def f (n : Nat) (x : Tup [tRecDisk]) : Option (Tup [.bool]) :=
  (impl_within_rec.f n (x.1.1, (0 : Int), (1000000 : Int), ())).bind fun y1 =>
  (if (!(!y1.1)) = true then (impl_slotsOk.f n (x.1.2.2.1, ())) else some (tzero [.bool])).bind fun y2 =>
  (if (!((!y1.1) || (!y2.1))) = true then (impl_within_rec.f n (x.1.2.1, (0 : Int), (List.length x.1.2.2.1 : Int), ())) else some (tzero [.bool])).bind fun y3 =>
  if (((!y1.1) || (!y2.1)) || (!y3.1)) = true then
    some (false, ())
  else
    runL (B4 n) ((fun z4 =>
        some (z4.1, ())), (fun z5 =>
        some (true, ())), ()) n (x.1, x.1.2.2.1, (List.length x.1.2.2.1 : Int), (0 : Int), ())
@[reducible] def sig (n : Nat) : Sig := ⟨[tRecDisk], [.bool], false, f n, none⟩
def T (n : Nat) : FuncId → Option Sig := fun g => if Nat.beq g 33 = true then some (impl_within_rec.sig n) else if Nat.beq g 60 = true then some (impl_slotsOk.sig n) else none
def TL (n : Nat) : Loops := fun j _ st k => if Nat.beq j 4 = true then (match dec st l4.inS [] with | some x => runL (B4 n) (contsOf k l4.outs) n x | none => none) else none
theorem d4 (n : Nat) : LoopDef Try.prog (T n) (TL n) Try.f58 4 :=
  ⟨l4, fun R => B4 n, n, fun R st k => by kernel_rfl, fun R next cs x => by kernel_rfl⟩
theorem con (n : Nat) : Con Try.prog 58 (sig n) :=
  con_print (hsw := rfl) (T := T n) (TL := TL n) (c := Try.f58.body.getD .skip) (js := [4]) hMixed (conT_cons (impl_within_rec.con n) (conT_cons (impl_slotsOk.con n) conT_none)) Try.func58 (by decide) (by kernel_rfl) (by kernel_rfl) (by decide) (LoopDef.cons (d4 n) LoopDef.nil) (fun x => by kernel_rfl)
end impl_RecDiskOk
namespace impl_people
@[reducible] def l2 : LSpec := ⟨[(0, .d (.slice (.int .i64))), (1, .d (.int .i64)), (7, .d (.slice (.int .i64))), (8, .d (.int .i64)), (9, .d (.int .i64))], [(.ret, [(4, .d .bool)]), (.exit 0, [])]⟩
def B2 (n : Nat) {R : Type} (next : Sden l2.inS → Option R) (cs : Conts R l2.outs) (x : Sden l2.inS) : Option R :=
  if (decide (x.2.2.2.2.1 < x.2.2.2.1)) = true then
    if (decide (0 ≤ x.2.2.2.2.1 ∧ x.2.2.2.2.1 < (List.length x.2.2.1 : Int))) = true then
      (impl_within_rec.f n ((List.getD x.2.2.1 (Int.toNat x.2.2.2.2.1) (0 : Int)), (1 : Int), x.2.1, ())).bind fun y1 =>
      if (!((!(!y1.1)) && (decide (x.2.2.2.2.1 > (0 : Int)))) || (decide (0 ≤ (IntKind.i64.wrap (x.2.2.2.2.1 - (1 : Int))) ∧ (IntKind.i64.wrap (x.2.2.2.2.1 - (1 : Int))) < (List.length x.1 : Int)))) = true then
        if ((!y1.1) || ((decide (x.2.2.2.2.1 > (0 : Int))) && (decide ((List.getD x.2.2.1 (Int.toNat x.2.2.2.2.1) (0 : Int)) ≤ (List.getD x.1 (Int.toNat (IntKind.i64.wrap (x.2.2.2.2.1 - (1 : Int)))) (0 : Int)))))) = true then
          cs.1 (false, ())
        else
          next (x.1, x.2.1, x.2.2.1, x.2.2.2.1, (IntKind.i64.wrap (x.2.2.2.2.1 + (1 : Int))), ())
      else
        none
    else
      none
  else
    cs.2.1 ()
def f (n : Nat) (x : Tup [(.slice (.int .i64)), (.int .i64)]) : Option (Tup [.bool]) :=
  runL (B2 n) ((fun z2 =>
      some (z2.1, ())), (fun z3 =>
      some (true, ())), ()) n (x.1, x.2.1, x.1, (List.length x.1 : Int), (0 : Int), ())
@[reducible] def sig (n : Nat) : Sig := ⟨[(.slice (.int .i64)), (.int .i64)], [.bool], false, f n, none⟩
def T (n : Nat) : FuncId → Option Sig := fun g => if Nat.beq g 33 = true then some (impl_within_rec.sig n) else none
def TL (n : Nat) : Loops := fun j _ st k => if Nat.beq j 2 = true then (match dec st l2.inS [] with | some x => runL (B2 n) (contsOf k l2.outs) n x | none => none) else none
theorem d2 (n : Nat) : LoopDef Try.prog (T n) (TL n) Try.f59 2 :=
  ⟨l2, fun R => B2 n, n, fun R st k => by kernel_rfl, fun R next cs x => by kernel_rfl⟩
theorem con (n : Nat) : Con Try.prog 59 (sig n) :=
  con_print (hsw := rfl) (T := T n) (TL := TL n) (c := Try.f59.body.getD .skip) (js := [2]) hMixed (conT_cons (impl_within_rec.con n) conT_none) Try.func59 (by decide) (by kernel_rfl) (by kernel_rfl) (by decide) (LoopDef.cons (d2 n) LoopDef.nil) (fun x => by kernel_rfl)
end impl_people
namespace impl_RecMessageOk
def f (n : Nat) (x : Tup [tRecMessage, (.int .i64)]) : Option (Tup [.bool]) :=
  (impl_within_rec.f n (x.1.1, (1 : Int), (9 : Int), ())).bind fun y1 =>
  (if y1.1 = true then (impl_within_rec.f n (x.1.2.1, (1 : Int), x.2.1, ())) else some (tzero [.bool])).bind fun y2 =>
  (if (y1.1 && y2.1) = true then (impl_within_rec.f n (x.1.2.2.1, (1 : Int), x.2.1, ())) else some (tzero [.bool])).bind fun y3 =>
  (if ((y1.1 && y2.1) && y3.1) = true then (impl_within_rec.f n (x.1.2.2.2.1, (0 : Int), (1000000 : Int), ())) else some (tzero [.bool])).bind fun y4 =>
  (if (((y1.1 && y2.1) && y3.1) && y4.1) = true then (impl_within_rec.f n (x.1.2.2.2.2.1, (0 : Int), (120 : Int), ())) else some (tzero [.bool])).bind fun y5 =>
  (if ((((y1.1 && y2.1) && y3.1) && y4.1) && y5.1) = true then (impl_within_rec.f n (x.1.2.2.2.2.2.1, (0 : Int), (120 : Int), ())) else some (tzero [.bool])).bind fun y6 =>
  (if ((((((y1.1 && y2.1) && y3.1) && y4.1) && y5.1) && y6.1) && (decide ((ByteArray.size x.1.2.2.2.2.2.2.1 : Int) ≤ (160 : Int)))) = true then (impl_slotsOk.f n (x.1.2.2.2.2.2.2.2.1, ())) else some (tzero [.bool])).bind fun y7 =>
  some ((((((((y1.1 && y2.1) && y3.1) && y4.1) && y5.1) && y6.1) && (decide ((ByteArray.size x.1.2.2.2.2.2.2.1 : Int) ≤ (160 : Int)))) && y7.1), ())
@[reducible] def sig (n : Nat) : Sig := ⟨[tRecMessage, (.int .i64)], [.bool], false, f n, none⟩
def T (n : Nat) : FuncId → Option Sig := fun g => if Nat.beq g 33 = true then some (impl_within_rec.sig n) else if Nat.beq g 60 = true then some (impl_slotsOk.sig n) else none
def TL (n : Nat) : Loops := fun j _ st k => none
theorem con (n : Nat) : Con Try.prog 35 (sig n) :=
  con_print (hsw := rfl) (T := T n) (TL := TL n) (c := Try.f35.body.getD .skip) (js := []) hMixed (conT_cons (impl_within_rec.con n) (conT_cons (impl_slotsOk.con n) conT_none)) Try.func35 (by decide) (by kernel_rfl) (by kernel_rfl) (by decide) LoopDef.nil (fun x => by kernel_rfl)
end impl_RecMessageOk
namespace slices_Index_string_string
@[reducible] def l2 : LSpec := ⟨[(0, .d (.slice .str)), (1, .d .str), (7, .d (.int .i64)), (8, .d (.int .i64))], [(.ret, [(4, .d (.int .i64))]), (.exit 0, [])]⟩
def B2 (n : Nat) {R : Type} (next : Sden l2.inS → Option R) (cs : Conts R l2.outs) (x : Sden l2.inS) : Option R :=
  if (decide (x.2.2.2.1 < x.2.2.1)) = true then
    if (decide (0 ≤ x.2.2.2.1 ∧ x.2.2.2.1 < (List.length x.1 : Int))) = true then
      if (seq x.2.1 (List.getD x.1 (Int.toNat x.2.2.2.1) (⟨#[]⟩ : ByteArray))) = true then
        cs.1 (x.2.2.2.1, ())
      else
        next (x.1, x.2.1, x.2.2.1, (IntKind.i64.wrap (x.2.2.2.1 + (1 : Int))), ())
    else
      none
  else
    cs.2.1 ()
def f (n : Nat) (x : Tup [(.slice .str), .str]) : Option (Tup [(.int .i64)]) :=
  runL (B2 n) ((fun z1 =>
      some (z1.1, ())), (fun z2 =>
      some ((-1 : Int), ())), ()) n (x.1, x.2.1, (List.length x.1 : Int), (0 : Int), ())
@[reducible] def sig (n : Nat) : Sig := ⟨[(.slice .str), .str], [(.int .i64)], false, f n, none⟩
def T (n : Nat) : FuncId → Option Sig := fun g => none
def TL (n : Nat) : Loops := fun j _ st k => if Nat.beq j 2 = true then (match dec st l2.inS [] with | some x => runL (B2 n) (contsOf k l2.outs) n x | none => none) else none
theorem d2 (n : Nat) : LoopDef Try.prog (T n) (TL n) Try.f71 2 :=
  ⟨l2, fun R => B2 n, n, fun R st k => by kernel_rfl, fun R next cs x => by kernel_rfl⟩
theorem con (n : Nat) : Con Try.prog 71 (sig n) :=
  con_print (hsw := rfl) (T := T n) (TL := TL n) (c := Try.f71.body.getD .skip) (js := [2]) hMixed conT_none Try.func71 (by decide) (by kernel_rfl) (by kernel_rfl) (by decide) (LoopDef.cons (d2 n) LoopDef.nil) (fun x => by kernel_rfl)
end slices_Index_string_string
namespace slices_Contains_string_string
def f (n : Nat) (x : Tup [(.slice .str), .str]) : Option (Tup [.bool]) :=
  (slices_Index_string_string.f n (x.1, x.2.1, ())).bind fun y1 =>
  some ((decide (y1.1 ≥ (0 : Int))), ())
@[reducible] def sig (n : Nat) : Sig := ⟨[(.slice .str), .str], [.bool], false, f n, none⟩
def T (n : Nat) : FuncId → Option Sig := fun g => if Nat.beq g 71 = true then some (slices_Index_string_string.sig n) else none
def TL (n : Nat) : Loops := fun j _ st k => none
theorem con (n : Nat) : Con Try.prog 61 (sig n) :=
  con_print (hsw := rfl) (T := T n) (TL := TL n) (c := Try.f61.body.getD .skip) (js := []) hMixed (conT_cons (slices_Index_string_string.con n) conT_none) Try.func61 (by decide) (by kernel_rfl) (by kernel_rfl) (by decide) LoopDef.nil (fun x => by kernel_rfl)
end slices_Contains_string_string
namespace impl_RecValid
@[reducible] def l4 : LSpec := ⟨[(1, .rb tRecorder), (66, .d (.slice tRecMessage)), (67, .d (.int .i64)), (68, .d (.int .i64))], [(.ret, [(2, .d .bool)]), (.exit 0, [(1, .rb tRecorder)])]⟩
def B4 (n : Nat) {R : Type} (next : Sden l4.inS → Option R) (cs : Conts R l4.outs) (x : Sden l4.inS) : Option R :=
  if (decide (x.2.2.2.1 < x.2.2.1)) = true then
    if (decide (0 ≤ x.2.2.2.1 ∧ x.2.2.2.1 < (List.length x.2.1 : Int))) = true then
      (impl_RecMessageOk.f n ((List.getD x.2.1 (Int.toNat x.2.2.2.1) (Ty.zero tRecMessage)), x.1.2.1, ())).bind fun y8 =>
      if ((!y8.1) || ((List.getD x.2.1 (Int.toNat x.2.2.2.1) (Ty.zero tRecMessage)).2.1 != x.1.1)) = true then
        cs.1 (false, ())
      else
        next (x.1, x.2.1, x.2.2.1, (IntKind.i64.wrap (x.2.2.2.1 + (1 : Int))), ())
    else
      none
  else
    cs.2.1 (x.1, ())
@[reducible] def l10 : LSpec := ⟨[(1, .rb tRecorder), (86, .d (.slice .str)), (87, .d (.int .i64)), (88, .d (.int .i64))], [(.ret, [(2, .d .bool)]), (.exit 2, [(1, .rb tRecorder)])]⟩
def B10 (n : Nat) {R : Type} (next : Sden l10.inS → Option R) (cs : Conts R l10.outs) (x : Sden l10.inS) : Option R :=
  if (decide (x.2.2.2.1 < x.2.2.1)) = true then
    if (decide (0 ≤ x.2.2.2.1 ∧ x.2.2.2.1 < (List.length x.2.1 : Int))) = true then
      (impl_within_rec.f n ((ByteArray.size (List.getD x.2.1 (Int.toNat x.2.2.2.1) (⟨#[]⟩ : ByteArray)) : Int), (1 : Int), (160 : Int), ())).bind fun y11 =>
      if (!(!(!y11.1)) || (decide (0 ≤ (0 : Int) ∧ (0 : Int) ≤ x.2.2.2.1 ∧ x.2.2.2.1 ≤ (List.length x.1.2.2.2.2.2.2.1 : Int)))) = true then
        (if (!(!y11.1)) = true then (slices_Contains_string_string.f n ((cut x.1.2.2.2.2.2.2.1 (Int.toNat (0 : Int)) (Int.toNat x.2.2.2.1 - Int.toNat (0 : Int))), (List.getD x.2.1 (Int.toNat x.2.2.2.1) (⟨#[]⟩ : ByteArray)), ())) else some (tzero [.bool])).bind fun y12 =>
        if ((!y11.1) || y12.1) = true then
          cs.1 (false, ())
        else
          next (x.1, x.2.1, x.2.2.1, (IntKind.i64.wrap (x.2.2.2.1 + (1 : Int))), ())
      else
        none
    else
      none
  else
    cs.2.1 (x.1, ())
@[reducible] def l16 : LSpec := ⟨[(1, .rb tRecorder), (107, .d (.slice tRecAck)), (108, .d (.int .i64)), (109, .d (.int .i64))], [(.ret, [(2, .d .bool)]), (.exit 4, [(1, .rb tRecorder)])]⟩
def B16 (n : Nat) {R : Type} (next : Sden l16.inS → Option R) (cs : Conts R l16.outs) (x : Sden l16.inS) : Option R :=
  if (decide (x.2.2.2.1 < x.2.2.1)) = true then
    if (decide (0 ≤ x.2.2.2.1 ∧ x.2.2.2.1 < (List.length x.2.1 : Int))) = true then
      (if true = true then (impl_within_rec.f n ((List.getD x.2.1 (Int.toNat x.2.2.2.1) (Ty.zero tRecAck)).1, (1 : Int), (120 : Int), ())) else some (tzero [.bool])).bind fun y15 =>
      (if (!(!y15.1)) = true then (impl_people.f n ((List.getD x.2.1 (Int.toNat x.2.2.2.1) (Ty.zero tRecAck)).2.1, x.1.2.1, ())) else some (tzero [.bool])).bind fun y16 =>
      if (!((!((!y15.1) || (!y16.1))) && (decide (x.2.2.2.1 > (0 : Int)))) || (decide (0 ≤ (IntKind.i64.wrap (x.2.2.2.1 - (1 : Int))) ∧ (IntKind.i64.wrap (x.2.2.2.1 - (1 : Int))) < (List.length x.1.2.2.2.2.2.2.2.2.2.2.2.2.1 : Int)))) = true then
        if (((!y15.1) || (!y16.1)) || ((decide (x.2.2.2.1 > (0 : Int))) && (decide ((List.getD x.2.1 (Int.toNat x.2.2.2.1) (Ty.zero tRecAck)).1 ≤ (List.getD x.1.2.2.2.2.2.2.2.2.2.2.2.2.1 (Int.toNat (IntKind.i64.wrap (x.2.2.2.1 - (1 : Int)))) (Ty.zero tRecAck)).1)))) = true then
          cs.1 (false, ())
        else
          next (x.1, x.2.1, x.2.2.1, (IntKind.i64.wrap (x.2.2.2.1 + (1 : Int))), ())
      else
        none
    else
      none
  else
    cs.2.1 (x.1, ())
def f (n : Nat) (x : Tup [tRecorder]) : Option (Tup [.bool]) :=
  (impl_within_rec.f n (x.1.2.1, (1 : Int), (5 : Int), ())).bind fun y1 =>
  (if (!(!y1.1)) = true then (impl_within_rec.f n (x.1.1, (1 : Int), x.1.2.1, ())) else some (tzero [.bool])).bind fun y2 =>
  (if (!((!y1.1) || (!y2.1))) = true then (impl_RecDiskOk.f n (x.1.2.2.2.1, ())) else some (tzero [.bool])).bind fun y3 =>
  (if (!(((!y1.1) || (!y2.1)) || (!y3.1))) = true then (impl_RecDiskOk.f n (x.1.2.2.2.2.1, ())) else some (tzero [.bool])).bind fun y4 =>
  (if (!((((((!y1.1) || (!y2.1)) || (!y3.1)) || (!y4.1)) || (decide ((List.length x.1.2.2.2.2.2.1 : Int) > (400 : Int)))) || (decide ((List.length x.1.2.2.2.2.2.2.1 : Int) > (20 : Int))))) = true then (impl_within_rec.f n (x.1.2.2.2.2.2.2.2.2.2.2.2.2.2.1, (0 : Int), (1000000 : Int), ())) else some (tzero [.bool])).bind fun y5 =>
  (if (!(((((((!y1.1) || (!y2.1)) || (!y3.1)) || (!y4.1)) || (decide ((List.length x.1.2.2.2.2.2.1 : Int) > (400 : Int)))) || (decide ((List.length x.1.2.2.2.2.2.2.1 : Int) > (20 : Int)))) || (!y5.1))) = true then (impl_people.f n (x.1.2.2.2.2.2.2.2.2.2.2.1, x.1.2.1, ())) else some (tzero [.bool])).bind fun y6 =>
  (if (!((((((((!y1.1) || (!y2.1)) || (!y3.1)) || (!y4.1)) || (decide ((List.length x.1.2.2.2.2.2.1 : Int) > (400 : Int)))) || (decide ((List.length x.1.2.2.2.2.2.2.1 : Int) > (20 : Int)))) || (!y5.1)) || (!y6.1))) = true then (impl_slotsOk.f n (x.1.2.2.2.2.2.2.2.2.2.2.2.1, ())) else some (tzero [.bool])).bind fun y7 =>
  if (((((((((!y1.1) || (!y2.1)) || (!y3.1)) || (!y4.1)) || (decide ((List.length x.1.2.2.2.2.2.1 : Int) > (400 : Int)))) || (decide ((List.length x.1.2.2.2.2.2.2.1 : Int) > (20 : Int)))) || (!y5.1)) || (!y6.1)) || (!y7.1)) = true then
    some (false, ())
  else
    runL (B4 n) ((fun z9 =>
        some (z9.1, ())), (fun z10 =>
        runL (B10 n) ((fun z13 =>
            some (z13.1, ())), (fun z14 =>
            runL (B16 n) ((fun z17 =>
                some (z17.1, ())), (fun z18 =>
                if (z18.1.2.2.2.2.2.2.2.1 && z18.1.2.2.2.2.2.2.2.2.1) = true then
                  some (false, ())
                else if (z18.1.2.2.2.2.2.2.2.1 || z18.1.2.2.2.2.2.2.2.2.1) = true then
                  (impl_within_rec.f n (z18.1.2.2.2.2.2.2.2.2.2.1, (1 : Int), z18.1.2.2.2.2.1.1, ())).bind fun y19 =>
                  if (((!y19.1) || (z18.1.2.2.2.2.2.2.2.2.1 && (decide ((List.length z18.1.2.2.2.2.2.2.2.2.2.2.2.2.1 : Int) > (0 : Int))))) || (z18.1.2.2.2.2.2.2.2.1 && (decide ((IntKind.i64.wrap ((List.length z18.1.2.2.2.2.2.2.2.2.2.2.1 : Int) + (List.length z18.1.2.2.2.2.2.2.2.2.2.2.2.1 : Int))) > (0 : Int))))) = true then
                    some (false, ())
                  else
                    some ((z18.1.2.2.1 || ((((!z18.1.2.2.2.2.2.2.2.1) && (!z18.1.2.2.2.2.2.2.2.2.1)) && ((IntKind.i64.wrap ((List.length z18.1.2.2.2.2.2.1 : Int) + (List.length z18.1.2.2.2.2.2.2.1 : Int))) == (0 : Int))) && (z18.1.2.2.2.2.2.2.2.2.2.2.2.2.2.1 == (0 : Int)))), ())
                else if ((z18.1.2.2.2.2.2.2.2.2.2.1 != (0 : Int)) || (decide ((IntKind.i64.wrap ((IntKind.i64.wrap ((List.length z18.1.2.2.2.2.2.2.2.2.2.2.1 : Int) + (List.length z18.1.2.2.2.2.2.2.2.2.2.2.2.1 : Int))) + (List.length z18.1.2.2.2.2.2.2.2.2.2.2.2.2.1 : Int))) > (0 : Int)))) = true then
                  some (false, ())
                else
                  some ((z18.1.2.2.1 || ((((!z18.1.2.2.2.2.2.2.2.1) && (!z18.1.2.2.2.2.2.2.2.2.1)) && ((IntKind.i64.wrap ((List.length z18.1.2.2.2.2.2.1 : Int) + (List.length z18.1.2.2.2.2.2.2.1 : Int))) == (0 : Int))) && (z18.1.2.2.2.2.2.2.2.2.2.2.2.2.2.1 == (0 : Int)))), ())), ()) n (z14.1, z14.1.2.2.2.2.2.2.2.2.2.2.2.2.1, (List.length z14.1.2.2.2.2.2.2.2.2.2.2.2.2.1 : Int), (0 : Int), ())), ()) n (z10.1, z10.1.2.2.2.2.2.2.1, (List.length z10.1.2.2.2.2.2.2.1 : Int), (0 : Int), ())), ()) n (x.1, x.1.2.2.2.2.2.1, (List.length x.1.2.2.2.2.2.1 : Int), (0 : Int), ())
@[reducible] def sig (n : Nat) : Sig := ⟨[tRecorder], [.bool], false, f n, none⟩
def T (n : Nat) : FuncId → Option Sig := fun g => if Nat.beq g 33 = true then some (impl_within_rec.sig n) else if Nat.beq g 35 = true then some (impl_RecMessageOk.sig n) else if Nat.beq g 58 = true then some (impl_RecDiskOk.sig n) else if Nat.beq g 59 = true then some (impl_people.sig n) else if Nat.beq g 60 = true then some (impl_slotsOk.sig n) else if Nat.beq g 61 = true then some (slices_Contains_string_string.sig n) else none
def TL (n : Nat) : Loops := fun j _ st k => if Nat.beq j 4 = true then (match dec st l4.inS [] with | some x => runL (B4 n) (contsOf k l4.outs) n x | none => none) else if Nat.beq j 10 = true then (match dec st l10.inS [] with | some x => runL (B10 n) (contsOf k l10.outs) n x | none => none) else if Nat.beq j 16 = true then (match dec st l16.inS [] with | some x => runL (B16 n) (contsOf k l16.outs) n x | none => none) else none
theorem d4 (n : Nat) : LoopDef Try.prog (T n) (TL n) Try.f34 4 :=
  ⟨l4, fun R => B4 n, n, fun R st k => by kernel_rfl, fun R next cs x => by kernel_rfl⟩
theorem d10 (n : Nat) : LoopDef Try.prog (T n) (TL n) Try.f34 10 :=
  ⟨l10, fun R => B10 n, n, fun R st k => by kernel_rfl, fun R next cs x => by kernel_rfl⟩
theorem d16 (n : Nat) : LoopDef Try.prog (T n) (TL n) Try.f34 16 :=
  ⟨l16, fun R => B16 n, n, fun R st k => by kernel_rfl, fun R next cs x => by kernel_rfl⟩
theorem con (n : Nat) : Con Try.prog 34 (sig n) :=
  con_print (hsw := rfl) (T := T n) (TL := TL n) (c := Try.f34.body.getD .skip) (js := [4, 10, 16]) hMixed (conT_cons (impl_within_rec.con n) (conT_cons (impl_RecMessageOk.con n) (conT_cons (impl_RecDiskOk.con n) (conT_cons (impl_people.con n) (conT_cons (impl_slotsOk.con n) (conT_cons (slices_Contains_string_string.con n) conT_none)))))) Try.func34 (by decide) (by kernel_rfl) (by kernel_rfl) (by decide) (LoopDef.cons (d4 n) (LoopDef.cons (d10 n) (LoopDef.cons (d16 n) LoopDef.nil))) (fun x => by kernel_rfl)
end impl_RecValid
namespace impl_RecWorldOk
@[reducible] def l5 : LSpec := ⟨[(1, .rb tRecWorld), (3, .d (.int .i64)), (23, .d (.slice tRecorder)), (24, .d (.int .i64)), (25, .d (.int .i64))], [(.ret, [(2, .d .bool)]), (.exit 0, [(1, .rb tRecWorld), (3, .d (.int .i64))])]⟩
def B5 (n : Nat) {R : Type} (next : Sden l5.inS → Option R) (cs : Conts R l5.outs) (x : Sden l5.inS) : Option R :=
  if (decide (x.2.2.2.2.1 < x.2.2.2.1)) = true then
    if (decide (0 ≤ x.2.2.2.2.1 ∧ x.2.2.2.2.1 < (List.length x.2.2.1 : Int))) = true then
      (impl_RecValid.f n ((List.getD x.2.2.1 (Int.toNat x.2.2.2.2.1) (Ty.zero tRecorder)), ())).bind fun y2 =>
      if (((!y2.1) || ((List.getD x.2.2.1 (Int.toNat x.2.2.2.2.1) (Ty.zero tRecorder)).1 != (IntKind.i64.wrap (x.2.2.2.2.1 + (1 : Int))))) || ((List.getD x.2.2.1 (Int.toNat x.2.2.2.2.1) (Ty.zero tRecorder)).2.1 != x.2.1)) = true then
        cs.1 (false, ())
      else
        next (x.1, x.2.1, x.2.2.1, x.2.2.2.1, (IntKind.i64.wrap (x.2.2.2.2.1 + (1 : Int))), ())
    else
      none
  else
    cs.2.1 (x.1, x.2.1, ())
@[reducible] def l11 : LSpec := ⟨[(1, .rb tRecWorld), (3, .d (.int .i64)), (48, .d (.slice tRecMessage)), (49, .d (.int .i64)), (50, .d (.int .i64))], [(.ret, [(2, .d .bool)]), (.exit 2, [(1, .rb tRecWorld)])]⟩
def B11 (n : Nat) {R : Type} (next : Sden l11.inS → Option R) (cs : Conts R l11.outs) (x : Sden l11.inS) : Option R :=
  if (decide (x.2.2.2.2.1 < x.2.2.2.1)) = true then
    if (decide (0 ≤ x.2.2.2.2.1 ∧ x.2.2.2.2.1 < (List.length x.2.2.1 : Int))) = true then
      (impl_RecMessageOk.f n ((List.getD x.2.2.1 (Int.toNat x.2.2.2.2.1) (Ty.zero tRecMessage)), x.2.1, ())).bind fun y5 =>
      if (!y5.1) = true then
        cs.1 (false, ())
      else
        next (x.1, x.2.1, x.2.2.1, x.2.2.2.1, (IntKind.i64.wrap (x.2.2.2.2.1 + (1 : Int))), ())
    else
      none
  else
    cs.2.1 (x.1, ())
@[reducible] def l17 : LSpec := ⟨[(1, .rb tRecWorld), (60, .d (.slice tRecSlot)), (61, .d (.int .i64)), (62, .d (.int .i64))], [(.ret, [(2, .d .bool)]), (.exit 4, [])]⟩
def B17 (n : Nat) {R : Type} (next : Sden l17.inS → Option R) (cs : Conts R l17.outs) (x : Sden l17.inS) : Option R :=
  if (decide (x.2.2.2.1 < x.2.2.1)) = true then
    if (decide (0 ≤ x.2.2.2.1 ∧ x.2.2.2.1 < (List.length x.2.1 : Int))) = true then
      (if true = true then (impl_within_rec.f n ((List.getD x.2.1 (Int.toNat x.2.2.2.1) (Ty.zero tRecSlot)).1, (1 : Int), (120 : Int), ())) else some (tzero [.bool])).bind fun y8 =>
      if (!((!((!y8.1) || (decide ((ByteArray.size (List.getD x.2.1 (Int.toNat x.2.2.2.1) (Ty.zero tRecSlot)).2.1 : Int) > (160 : Int))))) && (decide (x.2.2.2.1 > (0 : Int)))) || (decide (0 ≤ (IntKind.i64.wrap (x.2.2.2.1 - (1 : Int))) ∧ (IntKind.i64.wrap (x.2.2.2.1 - (1 : Int))) < (List.length x.1.2.2.1 : Int)))) = true then
        if (((!y8.1) || (decide ((ByteArray.size (List.getD x.2.1 (Int.toNat x.2.2.2.1) (Ty.zero tRecSlot)).2.1 : Int) > (160 : Int)))) || ((decide (x.2.2.2.1 > (0 : Int))) && (decide ((List.getD x.2.1 (Int.toNat x.2.2.2.1) (Ty.zero tRecSlot)).1 ≤ (List.getD x.1.2.2.1 (Int.toNat (IntKind.i64.wrap (x.2.2.2.1 - (1 : Int)))) (Ty.zero tRecSlot)).1)))) = true then
          cs.1 (false, ())
        else
          next (x.1, x.2.1, x.2.2.1, (IntKind.i64.wrap (x.2.2.2.1 + (1 : Int))), ())
      else
        none
    else
      none
  else
    cs.2.1 ()
def f (n : Nat) (x : Tup [tRecWorld]) : Option (Tup [.bool]) :=
  (impl_within_rec.f n ((List.length x.1.1 : Int), (1 : Int), (5 : Int), ())).bind fun y1 =>
  if ((!y1.1) || (decide ((List.length x.1.2.1 : Int) > (600 : Int)))) = true then
    some (false, ())
  else
    runL (B5 n) ((fun z3 =>
        some (z3.1, ())), (fun z4 =>
        runL (B11 n) ((fun z6 =>
            some (z6.1, ())), (fun z7 =>
            runL (B17 n) ((fun z9 =>
                some (z9.1, ())), (fun z10 =>
                some (true, ())), ()) n (z7.1, z7.1.2.2.1, (List.length z7.1.2.2.1 : Int), (0 : Int), ())), ()) n (z4.1, z4.2.1, z4.1.2.1, (List.length z4.1.2.1 : Int), (0 : Int), ())), ()) n (x.1, (List.length x.1.1 : Int), x.1.1, (List.length x.1.1 : Int), (0 : Int), ())
@[reducible] def sig (n : Nat) : Sig := ⟨[tRecWorld], [.bool], false, f n, none⟩
def T (n : Nat) : FuncId → Option Sig := fun g => if Nat.beq g 33 = true then some (impl_within_rec.sig n) else if Nat.beq g 34 = true then some (impl_RecValid.sig n) else if Nat.beq g 35 = true then some (impl_RecMessageOk.sig n) else none
def TL (n : Nat) : Loops := fun j _ st k => if Nat.beq j 5 = true then (match dec st l5.inS [] with | some x => runL (B5 n) (contsOf k l5.outs) n x | none => none) else if Nat.beq j 11 = true then (match dec st l11.inS [] with | some x => runL (B11 n) (contsOf k l11.outs) n x | none => none) else if Nat.beq j 17 = true then (match dec st l17.inS [] with | some x => runL (B17 n) (contsOf k l17.outs) n x | none => none) else none
theorem d5 (n : Nat) : LoopDef Try.prog (T n) (TL n) Try.f19 5 :=
  ⟨l5, fun R => B5 n, n, fun R st k => by kernel_rfl, fun R next cs x => by kernel_rfl⟩
theorem d11 (n : Nat) : LoopDef Try.prog (T n) (TL n) Try.f19 11 :=
  ⟨l11, fun R => B11 n, n, fun R st k => by kernel_rfl, fun R next cs x => by kernel_rfl⟩
theorem d17 (n : Nat) : LoopDef Try.prog (T n) (TL n) Try.f19 17 :=
  ⟨l17, fun R => B17 n, n, fun R st k => by kernel_rfl, fun R next cs x => by kernel_rfl⟩
theorem con (n : Nat) : Con Try.prog 19 (sig n) :=
  con_print (hsw := rfl) (T := T n) (TL := TL n) (c := Try.f19.body.getD .skip) (js := [5, 11, 17]) hMixed (conT_cons (impl_within_rec.con n) (conT_cons (impl_RecValid.con n) (conT_cons (impl_RecMessageOk.con n) conT_none))) Try.func19 (by decide) (by kernel_rfl) (by kernel_rfl) (by decide) (LoopDef.cons (d5 n) (LoopDef.cons (d11 n) (LoopDef.cons (d17 n) LoopDef.nil))) (fun x => by kernel_rfl)
end impl_RecWorldOk
namespace impl_Recorder_book
@[reducible] def l3 : LSpec := ⟨[(3, .row true .str), (16, .d (.slice tRecSlot)), (17, .d (.int .i64)), (18, .d (.int .i64))], [(.exit 0, [(3, .row true .str)])]⟩
def B3 (n : Nat) {R : Type} (next : Sden l3.inS → Option R) (cs : Conts R l3.outs) (x : Sden l3.inS) : Option R :=
  if (decide (x.2.2.2.1 < x.2.2.1)) = true then
    if (decide (0 ≤ x.2.2.2.1 ∧ x.2.2.2.1 < (List.length x.2.1 : Int))) = true then
      if (appBound (List.length x.1) (List.length [(List.getD x.2.1 (Int.toNat x.2.2.2.1) (Ty.zero tRecSlot)).2.1]) 16) = true then
        next ((x.1 ++ [(List.getD x.2.1 (Int.toNat x.2.2.2.1) (Ty.zero tRecSlot)).2.1]), x.2.1, x.2.2.1, (IntKind.i64.wrap (x.2.2.2.1 + (1 : Int))), ())
      else
        none
    else
      none
  else
    cs.1 (x.1, ())
def f (n : Nat) (x : Tup [(.ptr tRecorder)]) : Option (Tup [(.slice .str)]) :=
  if (!true || (Option.isSome x.1)) = true then
    if (!true || (Option.isSome x.1)) = true then
      if (!true || (decide (0 ≤ (0 : Int) ∧ (0 : Int) ≤ (Option.getD x.1 (Ty.zero tRecorder)).2.2.2.2.1.2.1 ∧ (Option.getD x.1 (Ty.zero tRecorder)).2.2.2.2.1.2.1 ≤ (List.length (Option.getD x.1 (Ty.zero tRecorder)).2.2.2.2.1.2.2.1 : Int)))) = true then
        runL (B3 n) ((fun z1 =>
            some (z1.1, ())), ()) n ([], (cut (Option.getD x.1 (Ty.zero tRecorder)).2.2.2.2.1.2.2.1 (Int.toNat (0 : Int)) (Int.toNat (Option.getD x.1 (Ty.zero tRecorder)).2.2.2.2.1.2.1 - Int.toNat (0 : Int))), (List.length (cut (Option.getD x.1 (Ty.zero tRecorder)).2.2.2.2.1.2.2.1 (Int.toNat (0 : Int)) (Int.toNat (Option.getD x.1 (Ty.zero tRecorder)).2.2.2.2.1.2.1 - Int.toNat (0 : Int))) : Int), (0 : Int), ())
      else
        none
    else
      none
  else
    none
@[reducible] def sig (n : Nat) : Sig := ⟨[(.ptr tRecorder)], [(.slice .str)], true, f n, none⟩
def T (n : Nat) : FuncId → Option Sig := fun g => none
def TL (n : Nat) : Loops := fun j _ st k => if Nat.beq j 3 = true then (match dec st l3.inS [] with | some x => runL (B3 n) (contsOf k l3.outs) n x | none => none) else none
theorem d3 (n : Nat) : LoopDef Try.prog (T n) (TL n) Try.f36 3 :=
  ⟨l3, fun R => B3 n, n, fun R st k => by kernel_rfl, fun R next cs x => by kernel_rfl⟩
theorem con (n : Nat) : Con Try.prog 36 (sig n) :=
  con_print (hsw := rfl) (T := T n) (TL := TL n) (c := Try.f36.body.getD .skip) (js := [3]) hMixed conT_none Try.func36 (by decide) (by kernel_rfl) (by kernel_rfl) (by decide) (LoopDef.cons (d3 n) LoopDef.nil) (fun x => by kernel_rfl)
end impl_Recorder_book
namespace impl_RecWorld_fixed
@[reducible] def l2 : LSpec := ⟨[(1, .d (.int .i64)), (11, .d (.slice tRecSlot)), (12, .d (.int .i64)), (13, .d (.int .i64))], [(.ret, [(4, .d .str), (5, .d .bool)]), (.exit 0, [])]⟩
def B2 (n : Nat) {R : Type} (next : Sden l2.inS → Option R) (cs : Conts R l2.outs) (x : Sden l2.inS) : Option R :=
  if (decide (x.2.2.2.1 < x.2.2.1)) = true then
    if (decide (0 ≤ x.2.2.2.1 ∧ x.2.2.2.1 < (List.length x.2.1 : Int))) = true then
      if ((List.getD x.2.1 (Int.toNat x.2.2.2.1) (Ty.zero tRecSlot)).1 == x.1) = true then
        cs.1 ((List.getD x.2.1 (Int.toNat x.2.2.2.1) (Ty.zero tRecSlot)).2.1, true, ())
      else
        next (x.1, x.2.1, x.2.2.1, (IntKind.i64.wrap (x.2.2.2.1 + (1 : Int))), ())
    else
      none
  else
    cs.2.1 ()
def f (n : Nat) (x : Tup [(.ptr tRecWorld), (.int .i64)]) : Option (Tup [.str, .bool]) :=
  if (Option.isSome x.1) = true then
    runL (B2 n) ((fun z1 =>
        some (z1.1, z1.2.1, ())), (fun z2 =>
        some ((⟨#[]⟩ : ByteArray), false, ())), ()) n (x.2.1, (Option.getD x.1 (Ty.zero tRecWorld)).2.2.1, (List.length (Option.getD x.1 (Ty.zero tRecWorld)).2.2.1 : Int), (0 : Int), ())
  else
    none
@[reducible] def sig (n : Nat) : Sig := ⟨[(.ptr tRecWorld), (.int .i64)], [.str, .bool], false, f n, none⟩
def T (n : Nat) : FuncId → Option Sig := fun g => none
def TL (n : Nat) : Loops := fun j _ st k => if Nat.beq j 2 = true then (match dec st l2.inS [] with | some x => runL (B2 n) (contsOf k l2.outs) n x | none => none) else none
theorem d2 (n : Nat) : LoopDef Try.prog (T n) (TL n) Try.f37 2 :=
  ⟨l2, fun R => B2 n, n, fun R st k => by kernel_rfl, fun R next cs x => by kernel_rfl⟩
theorem con (n : Nat) : Con Try.prog 37 (sig n) :=
  con_print (hsw := rfl) (T := T n) (TL := TL n) (c := Try.f37.body.getD .skip) (js := [2]) hMixed conT_none Try.func37 (by decide) (by kernel_rfl) (by kernel_rfl) (by decide) (LoopDef.cons (d2 n) LoopDef.nil) (fun x => by kernel_rfl)
end impl_RecWorld_fixed
namespace impl_RecWorld_major
@[reducible] def l3 : LSpec := ⟨[(0, .d (.ptr tRecWorld)), (1, .d (.int .i64)), (6, .mp tRecSlot), (14, .d (.slice tRecorder)), (15, .d (.int .i64)), (16, .d (.int .i64))], [(.ret, [(4, .d .str), (5, .d .bool)]), (.exit 0, [])]⟩
def B3 (n : Nat) {R : Type} (next : Sden l3.inS → Option R) (cs : Conts R l3.outs) (x : Sden l3.inS) : Option R :=
  if (decide (x.2.2.2.2.2.1 < x.2.2.2.2.1)) = true then
    if (decide (0 ≤ x.2.2.2.2.2.1 ∧ x.2.2.2.2.2.1 < (List.length x.2.2.2.1 : Int))) = true then
      if ((decide (x.2.1 ≥ (1 : Int))) && (decide (x.2.1 ≤ (List.length (List.getD x.2.2.2.1 (Int.toNat x.2.2.2.2.2.1) (Ty.zero tRecorder)).2.2.2.1.2.2.1 : Int)))) = true then
        if (decide (0 ≤ (IntKind.i64.wrap (x.2.1 - (1 : Int))) ∧ (IntKind.i64.wrap (x.2.1 - (1 : Int))) < (List.length (List.getD x.2.2.2.1 (Int.toNat x.2.2.2.2.2.1) (Ty.zero tRecorder)).2.2.2.1.2.2.1 : Int))) = true then
          if (decide (0 ≤ ((mat tRecSlot x.2.2.1 (List.getD (List.getD x.2.2.2.1 (Int.toNat x.2.2.2.2.2.1) (Ty.zero tRecorder)).2.2.2.1.2.2.1 (Int.toNat (IntKind.i64.wrap (x.2.1 - (1 : Int)))) (Ty.zero tRecSlot)) : Nat) : Int) ∧ ((mat tRecSlot x.2.2.1 (List.getD (List.getD x.2.2.2.1 (Int.toNat x.2.2.2.2.2.1) (Ty.zero tRecorder)).2.2.2.1.2.2.1 (Int.toNat (IntKind.i64.wrap (x.2.1 - (1 : Int)))) (Ty.zero tRecSlot)) : Nat) : Int) < (List.length (mtouch tRecSlot x.2.2.1 (List.getD (List.getD x.2.2.2.1 (Int.toNat x.2.2.2.2.2.1) (Ty.zero tRecorder)).2.2.2.1.2.2.1 (Int.toNat (IntKind.i64.wrap (x.2.1 - (1 : Int)))) (Ty.zero tRecSlot))) : Int))) = true then
            if (!(decide ((List.getD (List.getD x.2.2.2.1 (Int.toNat x.2.2.2.2.2.1) (Ty.zero tRecorder)).2.2.2.1.2.2.1 (Int.toNat (IntKind.i64.wrap (x.2.1 - (1 : Int)))) (Ty.zero tRecSlot)).1 > (0 : Int))) || (Option.isSome x.1)) = true then
              if ((decide ((List.getD (List.getD x.2.2.2.1 (Int.toNat x.2.2.2.2.2.1) (Ty.zero tRecorder)).2.2.2.1.2.2.1 (Int.toNat (IntKind.i64.wrap (x.2.1 - (1 : Int)))) (Ty.zero tRecSlot)).1 > (0 : Int))) && (decide ((IntKind.i64.wrap ((2 : Int) * (mget tRecSlot (List.set (mtouch tRecSlot x.2.2.1 (List.getD (List.getD x.2.2.2.1 (Int.toNat x.2.2.2.2.2.1) (Ty.zero tRecorder)).2.2.2.1.2.2.1 (Int.toNat (IntKind.i64.wrap (x.2.1 - (1 : Int)))) (Ty.zero tRecSlot))) (Int.toNat ((mat tRecSlot x.2.2.1 (List.getD (List.getD x.2.2.2.1 (Int.toNat x.2.2.2.2.2.1) (Ty.zero tRecorder)).2.2.2.1.2.2.1 (Int.toNat (IntKind.i64.wrap (x.2.1 - (1 : Int)))) (Ty.zero tRecSlot)) : Nat) : Int)) ((List.getD (mtouch tRecSlot x.2.2.1 (List.getD (List.getD x.2.2.2.1 (Int.toNat x.2.2.2.2.2.1) (Ty.zero tRecorder)).2.2.2.1.2.2.1 (Int.toNat (IntKind.i64.wrap (x.2.1 - (1 : Int)))) (Ty.zero tRecSlot))) (Int.toNat ((mat tRecSlot x.2.2.1 (List.getD (List.getD x.2.2.2.1 (Int.toNat x.2.2.2.2.2.1) (Ty.zero tRecorder)).2.2.2.1.2.2.1 (Int.toNat (IntKind.i64.wrap (x.2.1 - (1 : Int)))) (Ty.zero tRecSlot)) : Nat) : Int)) ((Ty.zero tRecSlot), 0)).1, (IntKind.i64.wrap ((mget tRecSlot x.2.2.1 (List.getD (List.getD x.2.2.2.1 (Int.toNat x.2.2.2.2.2.1) (Ty.zero tRecorder)).2.2.2.1.2.2.1 (Int.toNat (IntKind.i64.wrap (x.2.1 - (1 : Int)))) (Ty.zero tRecSlot))) + (1 : Int))))) (List.getD (List.getD x.2.2.2.1 (Int.toNat x.2.2.2.2.2.1) (Ty.zero tRecorder)).2.2.2.1.2.2.1 (Int.toNat (IntKind.i64.wrap (x.2.1 - (1 : Int)))) (Ty.zero tRecSlot))))) > (List.length (Option.getD x.1 (Ty.zero tRecWorld)).1 : Int)))) = true then
                cs.1 ((List.getD (List.getD x.2.2.2.1 (Int.toNat x.2.2.2.2.2.1) (Ty.zero tRecorder)).2.2.2.1.2.2.1 (Int.toNat (IntKind.i64.wrap (x.2.1 - (1 : Int)))) (Ty.zero tRecSlot)).2.1, true, ())
              else
                next (x.1, x.2.1, (List.set (mtouch tRecSlot x.2.2.1 (List.getD (List.getD x.2.2.2.1 (Int.toNat x.2.2.2.2.2.1) (Ty.zero tRecorder)).2.2.2.1.2.2.1 (Int.toNat (IntKind.i64.wrap (x.2.1 - (1 : Int)))) (Ty.zero tRecSlot))) (Int.toNat ((mat tRecSlot x.2.2.1 (List.getD (List.getD x.2.2.2.1 (Int.toNat x.2.2.2.2.2.1) (Ty.zero tRecorder)).2.2.2.1.2.2.1 (Int.toNat (IntKind.i64.wrap (x.2.1 - (1 : Int)))) (Ty.zero tRecSlot)) : Nat) : Int)) ((List.getD (mtouch tRecSlot x.2.2.1 (List.getD (List.getD x.2.2.2.1 (Int.toNat x.2.2.2.2.2.1) (Ty.zero tRecorder)).2.2.2.1.2.2.1 (Int.toNat (IntKind.i64.wrap (x.2.1 - (1 : Int)))) (Ty.zero tRecSlot))) (Int.toNat ((mat tRecSlot x.2.2.1 (List.getD (List.getD x.2.2.2.1 (Int.toNat x.2.2.2.2.2.1) (Ty.zero tRecorder)).2.2.2.1.2.2.1 (Int.toNat (IntKind.i64.wrap (x.2.1 - (1 : Int)))) (Ty.zero tRecSlot)) : Nat) : Int)) ((Ty.zero tRecSlot), 0)).1, (IntKind.i64.wrap ((mget tRecSlot x.2.2.1 (List.getD (List.getD x.2.2.2.1 (Int.toNat x.2.2.2.2.2.1) (Ty.zero tRecorder)).2.2.2.1.2.2.1 (Int.toNat (IntKind.i64.wrap (x.2.1 - (1 : Int)))) (Ty.zero tRecSlot))) + (1 : Int))))), x.2.2.2.1, x.2.2.2.2.1, (IntKind.i64.wrap (x.2.2.2.2.2.1 + (1 : Int))), ())
            else
              none
          else
            none
        else
          none
      else
        next (x.1, x.2.1, x.2.2.1, x.2.2.2.1, x.2.2.2.2.1, (IntKind.i64.wrap (x.2.2.2.2.2.1 + (1 : Int))), ())
    else
      none
  else
    cs.2.1 ()
def f (n : Nat) (x : Tup [(.ptr tRecWorld), (.int .i64)]) : Option (Tup [.str, .bool]) :=
  if (Option.isSome x.1) = true then
    runL (B3 n) ((fun z1 =>
        some (z1.1, z1.2.1, ())), (fun z2 =>
        some ((⟨#[]⟩ : ByteArray), false, ())), ()) n (x.1, x.2.1, [], (Option.getD x.1 (Ty.zero tRecWorld)).1, (List.length (Option.getD x.1 (Ty.zero tRecWorld)).1 : Int), (0 : Int), ())
  else
    none
@[reducible] def sig (n : Nat) : Sig := ⟨[(.ptr tRecWorld), (.int .i64)], [.str, .bool], false, f n, none⟩
def T (n : Nat) : FuncId → Option Sig := fun g => none
def TL (n : Nat) : Loops := fun j _ st k => if Nat.beq j 3 = true then (match dec st l3.inS [] with | some x => runL (B3 n) (contsOf k l3.outs) n x | none => none) else none
theorem d3 (n : Nat) : LoopDef Try.prog (T n) (TL n) Try.f38 3 :=
  ⟨l3, fun R => B3 n, n, fun R st k => by kernel_rfl, fun R next cs x => by kernel_rfl⟩
theorem con (n : Nat) : Con Try.prog 38 (sig n) :=
  con_print (hsw := rfl) (T := T n) (TL := TL n) (c := Try.f38.body.getD .skip) (js := [3]) hMixed conT_none Try.func38 (by decide) (by kernel_rfl) (by kernel_rfl) (by decide) (LoopDef.cons (d3 n) LoopDef.nil) (fun x => by kernel_rfl)
end impl_RecWorld_major
namespace impl_RecWorld_agree
@[reducible] def l5 : LSpec := ⟨[(0, .d (.ptr tRecWorld)), (17, .d (.int .i64)), (18, .d (.int .i64)), (27, .row true .str), (28, .d (.int .i64)), (29, .d (.int .i64))], [(.ret, [(2, .d .bool)]), (.exit 2, [(0, .d (.ptr tRecWorld)), (17, .d (.int .i64)), (18, .d (.int .i64))])]⟩
def B5 (n : Nat) {R : Type} (next : Sden l5.inS → Option R) (cs : Conts R l5.outs) (x : Sden l5.inS) : Option R :=
  if (decide (x.2.2.2.2.2.1 < x.2.2.2.2.1)) = true then
    if (decide (0 ≤ x.2.2.2.2.2.1 ∧ x.2.2.2.2.2.1 < (List.length x.2.2.2.1 : Int))) = true then
      (impl_RecWorld_fixed.f n (x.1, (IntKind.i64.wrap (x.2.2.2.2.2.1 + (1 : Int))), ())).bind fun y2 =>
      if ((!y2.2.1) || (!seq y2.1 (List.getD x.2.2.2.1 (Int.toNat x.2.2.2.2.2.1) (⟨#[]⟩ : ByteArray)))) = true then
        cs.1 (false, ())
      else
        next (x.1, x.2.1, x.2.2.1, x.2.2.2.1, x.2.2.2.2.1, (IntKind.i64.wrap (x.2.2.2.2.2.1 + (1 : Int))), ())
    else
      none
  else
    cs.2.1 (x.1, x.2.1, x.2.2.1, ())
@[reducible] def l2 : LSpec := ⟨[(0, .d (.ptr tRecWorld)), (17, .d (.int .i64)), (18, .d (.int .i64))], [(.ret, [(2, .d .bool)]), (.exit 0, [(0, .d (.ptr tRecWorld))])]⟩
def B2 (n : Nat) {R : Type} (next : Sden l2.inS → Option R) (cs : Conts R l2.outs) (x : Sden l2.inS) : Option R :=
  if (decide (x.2.2.1 < x.2.1)) = true then
    if (Option.isSome x.1) = true then
      if (decide (0 ≤ x.2.2.1 ∧ x.2.2.1 < (List.length (Option.getD x.1 (Ty.zero tRecWorld)).1 : Int))) = true then
        (impl_Recorder_book.f n ((some (List.getD (Option.getD x.1 (Ty.zero tRecWorld)).1 (Int.toNat x.2.2.1) (Ty.zero tRecorder))), ())).bind fun y1 =>
        runL (B5 n) ((fun z3 =>
            cs.1 (z3.1, ())), (fun z4 =>
            next (z4.1, z4.2.1, (IntKind.i64.wrap (z4.2.2.1 + (1 : Int))), ())), ()) n (x.1, x.2.1, x.2.2.1, y1.1, (List.length y1.1 : Int), (0 : Int), ())
      else
        none
    else
      none
  else
    cs.2.1 (x.1, ())
@[reducible] def l13 : LSpec := ⟨[(0, .d (.ptr tRecWorld)), (8, .d (.int .i64))], [(.ret, [(2, .d .bool)]), (.exit 4, [])]⟩
def B13 (n : Nat) {R : Type} (next : Sden l13.inS → Option R) (cs : Conts R l13.outs) (x : Sden l13.inS) : Option R :=
  if (decide (x.2.1 ≤ (120 : Int))) = true then
    (impl_RecWorld_major.f n (x.1, x.2.1, ())).bind fun y7 =>
    if y7.2.1 = true then
      (impl_RecWorld_fixed.f n (x.1, x.2.1, ())).bind fun y8 =>
      if ((!y8.2.1) || (!seq y8.1 y7.1)) = true then
        cs.1 (false, ())
      else
        next (x.1, (IntKind.i64.wrap (x.2.1 + (1 : Int))), ())
    else
      next (x.1, (IntKind.i64.wrap (x.2.1 + (1 : Int))), ())
  else
    cs.2.1 ()
def f (n : Nat) (x : Tup [(.ptr tRecWorld)]) : Option (Tup [.bool]) :=
  if (Option.isSome x.1) = true then
    runL (B2 n) ((fun z5 =>
        some (z5.1, ())), (fun z6 =>
        runL (B13 n) ((fun z9 =>
            some (z9.1, ())), (fun z10 =>
            some (true, ())), ()) n (z6.1, (1 : Int), ())), ()) n (x.1, (List.length (Option.getD x.1 (Ty.zero tRecWorld)).1 : Int), (0 : Int), ())
  else
    none
@[reducible] def sig (n : Nat) : Sig := ⟨[(.ptr tRecWorld)], [.bool], false, f n, none⟩
def T (n : Nat) : FuncId → Option Sig := fun g => if Nat.beq g 36 = true then some (impl_Recorder_book.sig n) else if Nat.beq g 37 = true then some (impl_RecWorld_fixed.sig n) else if Nat.beq g 38 = true then some (impl_RecWorld_major.sig n) else none
def TL (n : Nat) : Loops := fun j _ st k => if Nat.beq j 5 = true then (match dec st l5.inS [] with | some x => runL (B5 n) (contsOf k l5.outs) n x | none => none) else if Nat.beq j 2 = true then (match dec st l2.inS [] with | some x => runL (B2 n) (contsOf k l2.outs) n x | none => none) else if Nat.beq j 13 = true then (match dec st l13.inS [] with | some x => runL (B13 n) (contsOf k l13.outs) n x | none => none) else none
theorem d5 (n : Nat) : LoopDef Try.prog (T n) (TL n) Try.f20 5 :=
  ⟨l5, fun R => B5 n, n, fun R st k => by kernel_rfl, fun R next cs x => by kernel_rfl⟩
theorem d2 (n : Nat) : LoopDef Try.prog (T n) (TL n) Try.f20 2 :=
  ⟨l2, fun R => B2 n, n, fun R st k => by kernel_rfl, fun R next cs x => by kernel_rfl⟩
theorem d13 (n : Nat) : LoopDef Try.prog (T n) (TL n) Try.f20 13 :=
  ⟨l13, fun R => B13 n, n, fun R st k => by kernel_rfl, fun R next cs x => by kernel_rfl⟩
theorem con (n : Nat) : Con Try.prog 20 (sig n) :=
  con_print (hsw := rfl) (T := T n) (TL := TL n) (c := Try.f20.body.getD .skip) (js := [2, 5, 13]) hMixed (conT_cons (impl_Recorder_book.con n) (conT_cons (impl_RecWorld_fixed.con n) (conT_cons (impl_RecWorld_major.con n) conT_none))) Try.func20 (by decide) (by kernel_rfl) (by kernel_rfl) (by decide) (LoopDef.cons (d2 n) (LoopDef.cons (d5 n) (LoopDef.cons (d13 n) LoopDef.nil))) (fun x => by kernel_rfl)
end impl_RecWorld_agree
namespace impl_RecAgree
def f (n : Nat) (x : Tup [tRecWorld]) : Option (Tup [.bool]) :=
  (impl_RecWorldOk.f n (x.1, ())).bind fun y1 =>
  (if y1.1 = true then (impl_RecWorld_agree.f n ((some x.1), ())) else some (tzero [.bool])).bind fun y2 =>
  some ((y1.1 && y2.1), ())
@[reducible] def sig (n : Nat) : Sig := ⟨[tRecWorld], [.bool], false, f n, none⟩
def T (n : Nat) : FuncId → Option Sig := fun g => if Nat.beq g 19 = true then some (impl_RecWorldOk.sig n) else if Nat.beq g 20 = true then some (impl_RecWorld_agree.sig n) else none
def TL (n : Nat) : Loops := fun j _ st k => none
theorem con (n : Nat) : Con Try.prog 7 (sig n) :=
  con_print (hsw := rfl) (T := T n) (TL := TL n) (c := Try.f7.body.getD .skip) (js := []) hMixed (conT_cons (impl_RecWorldOk.con n) (conT_cons (impl_RecWorld_agree.con n) conT_none)) Try.func7 (by decide) (by kernel_rfl) (by kernel_rfl) (by decide) LoopDef.nil (fun x => by kernel_rfl)
end impl_RecAgree
namespace laws_eqRecSlot
def f (n : Nat) (x : Tup [tRecSlot, tRecSlot]) : Option (Tup [.bool]) :=
  if (x.1.1 != x.2.1.1) = true then
    some (false, ())
  else if (!seq x.1.2.1 x.2.1.2.1) = true then
    some (false, ())
  else
    some (true, ())
@[reducible] def sig (n : Nat) : Sig := ⟨[tRecSlot, tRecSlot], [.bool], false, f n, none⟩
def T (n : Nat) : FuncId → Option Sig := fun g => none
def TL (n : Nat) : Loops := fun j _ st k => none
theorem con (n : Nat) : Con Try.prog 72 (sig n) :=
  con_print (hsw := rfl) (T := T n) (TL := TL n) (c := Try.f72.body.getD .skip) (js := []) hMixed conT_none Try.func72 (by decide) (by kernel_rfl) (by kernel_rfl) (by decide) LoopDef.nil (fun x => by kernel_rfl)
end laws_eqRecSlot
namespace laws_eqRecSlotS
@[reducible] def l4 : LSpec := ⟨[(0, .d (.slice tRecSlot)), (1, .d (.slice tRecSlot)), (5, .d (.int .i64))], [(.ret, [(4, .d .bool)]), (.exit 0, [])]⟩
def B4 (n : Nat) {R : Type} (next : Sden l4.inS → Option R) (cs : Conts R l4.outs) (x : Sden l4.inS) : Option R :=
  if (decide (x.2.2.1 < (List.length x.1 : Int))) = true then
    if (!true || (decide (0 ≤ x.2.2.1 ∧ x.2.2.1 < (List.length x.1 : Int)))) = true then
      if (!true || (decide (0 ≤ x.2.2.1 ∧ x.2.2.1 < (List.length x.2.1 : Int)))) = true then
        (laws_eqRecSlot.f n ((List.getD x.1 (Int.toNat x.2.2.1) (Ty.zero tRecSlot)), (List.getD x.2.1 (Int.toNat x.2.2.1) (Ty.zero tRecSlot)), ())).bind fun y1 =>
        if (!y1.1) = true then
          cs.1 (false, ())
        else
          next (x.1, x.2.1, (IntKind.i64.wrap (x.2.2.1 + (1 : Int))), ())
      else
        none
    else
      none
  else
    cs.2.1 ()
def f (n : Nat) (x : Tup [(.slice tRecSlot), (.slice tRecSlot)]) : Option (Tup [.bool]) :=
  if ((List.length x.1 : Int) != (List.length x.2.1 : Int)) = true then
    some (false, ())
  else
    runL (B4 n) ((fun z2 =>
        some (z2.1, ())), (fun z3 =>
        some (true, ())), ()) n (x.1, x.2.1, (0 : Int), ())
@[reducible] def sig (n : Nat) : Sig := ⟨[(.slice tRecSlot), (.slice tRecSlot)], [.bool], false, f n, none⟩
def T (n : Nat) : FuncId → Option Sig := fun g => if Nat.beq g 72 = true then some (laws_eqRecSlot.sig n) else none
def TL (n : Nat) : Loops := fun j _ st k => if Nat.beq j 4 = true then (match dec st l4.inS [] with | some x => runL (B4 n) (contsOf k l4.outs) n x | none => none) else none
theorem d4 (n : Nat) : LoopDef Try.prog (T n) (TL n) Try.f65 4 :=
  ⟨l4, fun R => B4 n, n, fun R st k => by kernel_rfl, fun R next cs x => by kernel_rfl⟩
theorem con (n : Nat) : Con Try.prog 65 (sig n) :=
  con_print (hsw := rfl) (T := T n) (TL := TL n) (c := Try.f65.body.getD .skip) (js := [4]) hMixed (conT_cons (laws_eqRecSlot.con n) conT_none) Try.func65 (by decide) (by kernel_rfl) (by kernel_rfl) (by decide) (LoopDef.cons (d4 n) LoopDef.nil) (fun x => by kernel_rfl)
end laws_eqRecSlotS
namespace laws_eqRecDisk
def f (n : Nat) (x : Tup [tRecDisk, tRecDisk]) : Option (Tup [.bool]) :=
  if (x.1.1 != x.2.1.1) = true then
    some (false, ())
  else if (x.1.2.1 != x.2.1.2.1) = true then
    some (false, ())
  else
    (laws_eqRecSlotS.f n (x.1.2.2.1, x.2.1.2.2.1, ())).bind fun y1 =>
    if (!y1.1) = true then
      some (false, ())
    else
      some (true, ())
@[reducible] def sig (n : Nat) : Sig := ⟨[tRecDisk, tRecDisk], [.bool], false, f n, none⟩
def T (n : Nat) : FuncId → Option Sig := fun g => if Nat.beq g 65 = true then some (laws_eqRecSlotS.sig n) else none
def TL (n : Nat) : Loops := fun j _ st k => none
theorem con (n : Nat) : Con Try.prog 62 (sig n) :=
  con_print (hsw := rfl) (T := T n) (TL := TL n) (c := Try.f62.body.getD .skip) (js := []) hMixed (conT_cons (laws_eqRecSlotS.con n) conT_none) Try.func62 (by decide) (by kernel_rfl) (by kernel_rfl) (by decide) LoopDef.nil (fun x => by kernel_rfl)
end laws_eqRecDisk
namespace laws_eqRecMessage
def f (n : Nat) (x : Tup [tRecMessage, tRecMessage]) : Option (Tup [.bool]) :=
  if (x.1.1 != x.2.1.1) = true then
    some (false, ())
  else if (x.1.2.1 != x.2.1.2.1) = true then
    some (false, ())
  else if (x.1.2.2.1 != x.2.1.2.2.1) = true then
    some (false, ())
  else if (x.1.2.2.2.1 != x.2.1.2.2.2.1) = true then
    some (false, ())
  else if (x.1.2.2.2.2.1 != x.2.1.2.2.2.2.1) = true then
    some (false, ())
  else if (x.1.2.2.2.2.2.1 != x.2.1.2.2.2.2.2.1) = true then
    some (false, ())
  else if (!seq x.1.2.2.2.2.2.2.1 x.2.1.2.2.2.2.2.2.1) = true then
    some (false, ())
  else
    (laws_eqRecSlotS.f n (x.1.2.2.2.2.2.2.2.1, x.2.1.2.2.2.2.2.2.2.1, ())).bind fun y1 =>
    if (!y1.1) = true then
      some (false, ())
    else
      some (true, ())
@[reducible] def sig (n : Nat) : Sig := ⟨[tRecMessage, tRecMessage], [.bool], false, f n, none⟩
def T (n : Nat) : FuncId → Option Sig := fun g => if Nat.beq g 65 = true then some (laws_eqRecSlotS.sig n) else none
def TL (n : Nat) : Loops := fun j _ st k => none
theorem con (n : Nat) : Con Try.prog 40 (sig n) :=
  con_print (hsw := rfl) (T := T n) (TL := TL n) (c := Try.f40.body.getD .skip) (js := []) hMixed (conT_cons (laws_eqRecSlotS.con n) conT_none) Try.func40 (by decide) (by kernel_rfl) (by kernel_rfl) (by decide) LoopDef.nil (fun x => by kernel_rfl)
end laws_eqRecMessage
namespace laws_eqRecMessageS
@[reducible] def l4 : LSpec := ⟨[(0, .d (.slice tRecMessage)), (1, .d (.slice tRecMessage)), (5, .d (.int .i64))], [(.ret, [(4, .d .bool)]), (.exit 0, [])]⟩
def B4 (n : Nat) {R : Type} (next : Sden l4.inS → Option R) (cs : Conts R l4.outs) (x : Sden l4.inS) : Option R :=
  if (decide (x.2.2.1 < (List.length x.1 : Int))) = true then
    if (!true || (decide (0 ≤ x.2.2.1 ∧ x.2.2.1 < (List.length x.1 : Int)))) = true then
      if (!true || (decide (0 ≤ x.2.2.1 ∧ x.2.2.1 < (List.length x.2.1 : Int)))) = true then
        (laws_eqRecMessage.f n ((List.getD x.1 (Int.toNat x.2.2.1) (Ty.zero tRecMessage)), (List.getD x.2.1 (Int.toNat x.2.2.1) (Ty.zero tRecMessage)), ())).bind fun y1 =>
        if (!y1.1) = true then
          cs.1 (false, ())
        else
          next (x.1, x.2.1, (IntKind.i64.wrap (x.2.2.1 + (1 : Int))), ())
      else
        none
    else
      none
  else
    cs.2.1 ()
def f (n : Nat) (x : Tup [(.slice tRecMessage), (.slice tRecMessage)]) : Option (Tup [.bool]) :=
  if ((List.length x.1 : Int) != (List.length x.2.1 : Int)) = true then
    some (false, ())
  else
    runL (B4 n) ((fun z2 =>
        some (z2.1, ())), (fun z3 =>
        some (true, ())), ()) n (x.1, x.2.1, (0 : Int), ())
@[reducible] def sig (n : Nat) : Sig := ⟨[(.slice tRecMessage), (.slice tRecMessage)], [.bool], false, f n, none⟩
def T (n : Nat) : FuncId → Option Sig := fun g => if Nat.beq g 40 = true then some (laws_eqRecMessage.sig n) else none
def TL (n : Nat) : Loops := fun j _ st k => if Nat.beq j 4 = true then (match dec st l4.inS [] with | some x => runL (B4 n) (contsOf k l4.outs) n x | none => none) else none
theorem d4 (n : Nat) : LoopDef Try.prog (T n) (TL n) Try.f22 4 :=
  ⟨l4, fun R => B4 n, n, fun R st k => by kernel_rfl, fun R next cs x => by kernel_rfl⟩
theorem con (n : Nat) : Con Try.prog 22 (sig n) :=
  con_print (hsw := rfl) (T := T n) (TL := TL n) (c := Try.f22.body.getD .skip) (js := [4]) hMixed (conT_cons (laws_eqRecMessage.con n) conT_none) Try.func22 (by decide) (by kernel_rfl) (by kernel_rfl) (by decide) (LoopDef.cons (d4 n) LoopDef.nil) (fun x => by kernel_rfl)
end laws_eqRecMessageS
namespace laws_eqStringS
@[reducible] def l4 : LSpec := ⟨[(0, .d (.slice .str)), (1, .d (.slice .str)), (5, .d (.int .i64))], [(.ret, [(4, .d .bool)]), (.exit 0, [])]⟩
def B4 (n : Nat) {R : Type} (next : Sden l4.inS → Option R) (cs : Conts R l4.outs) (x : Sden l4.inS) : Option R :=
  if (decide (x.2.2.1 < (List.length x.1 : Int))) = true then
    if (!true || (decide (0 ≤ x.2.2.1 ∧ x.2.2.1 < (List.length x.1 : Int)))) = true then
      if (!true || (decide (0 ≤ x.2.2.1 ∧ x.2.2.1 < (List.length x.2.1 : Int)))) = true then
        if (!seq (List.getD x.1 (Int.toNat x.2.2.1) (⟨#[]⟩ : ByteArray)) (List.getD x.2.1 (Int.toNat x.2.2.1) (⟨#[]⟩ : ByteArray))) = true then
          cs.1 (false, ())
        else
          next (x.1, x.2.1, (IntKind.i64.wrap (x.2.2.1 + (1 : Int))), ())
      else
        none
    else
      none
  else
    cs.2.1 ()
def f (n : Nat) (x : Tup [(.slice .str), (.slice .str)]) : Option (Tup [.bool]) :=
  if ((List.length x.1 : Int) != (List.length x.2.1 : Int)) = true then
    some (false, ())
  else
    runL (B4 n) ((fun z1 =>
        some (z1.1, ())), (fun z2 =>
        some (true, ())), ()) n (x.1, x.2.1, (0 : Int), ())
@[reducible] def sig (n : Nat) : Sig := ⟨[(.slice .str), (.slice .str)], [.bool], false, f n, none⟩
def T (n : Nat) : FuncId → Option Sig := fun g => none
def TL (n : Nat) : Loops := fun j _ st k => if Nat.beq j 4 = true then (match dec st l4.inS [] with | some x => runL (B4 n) (contsOf k l4.outs) n x | none => none) else none
theorem d4 (n : Nat) : LoopDef Try.prog (T n) (TL n) Try.f63 4 :=
  ⟨l4, fun R => B4 n, n, fun R st k => by kernel_rfl, fun R next cs x => by kernel_rfl⟩
theorem con (n : Nat) : Con Try.prog 63 (sig n) :=
  con_print (hsw := rfl) (T := T n) (TL := TL n) (c := Try.f63.body.getD .skip) (js := [4]) hMixed conT_none Try.func63 (by decide) (by kernel_rfl) (by kernel_rfl) (by decide) (LoopDef.cons (d4 n) LoopDef.nil) (fun x => by kernel_rfl)
end laws_eqStringS
namespace laws_eqIntS
@[reducible] def l4 : LSpec := ⟨[(0, .d (.slice (.int .i64))), (1, .d (.slice (.int .i64))), (5, .d (.int .i64))], [(.ret, [(4, .d .bool)]), (.exit 0, [])]⟩
def B4 (n : Nat) {R : Type} (next : Sden l4.inS → Option R) (cs : Conts R l4.outs) (x : Sden l4.inS) : Option R :=
  if (decide (x.2.2.1 < (List.length x.1 : Int))) = true then
    if (!true || (decide (0 ≤ x.2.2.1 ∧ x.2.2.1 < (List.length x.1 : Int)))) = true then
      if (!true || (decide (0 ≤ x.2.2.1 ∧ x.2.2.1 < (List.length x.2.1 : Int)))) = true then
        if ((List.getD x.1 (Int.toNat x.2.2.1) (0 : Int)) != (List.getD x.2.1 (Int.toNat x.2.2.1) (0 : Int))) = true then
          cs.1 (false, ())
        else
          next (x.1, x.2.1, (IntKind.i64.wrap (x.2.2.1 + (1 : Int))), ())
      else
        none
    else
      none
  else
    cs.2.1 ()
def f (n : Nat) (x : Tup [(.slice (.int .i64)), (.slice (.int .i64))]) : Option (Tup [.bool]) :=
  if ((List.length x.1 : Int) != (List.length x.2.1 : Int)) = true then
    some (false, ())
  else
    runL (B4 n) ((fun z1 =>
        some (z1.1, ())), (fun z2 =>
        some (true, ())), ()) n (x.1, x.2.1, (0 : Int), ())
@[reducible] def sig (n : Nat) : Sig := ⟨[(.slice (.int .i64)), (.slice (.int .i64))], [.bool], false, f n, none⟩
def T (n : Nat) : FuncId → Option Sig := fun g => none
def TL (n : Nat) : Loops := fun j _ st k => if Nat.beq j 4 = true then (match dec st l4.inS [] with | some x => runL (B4 n) (contsOf k l4.outs) n x | none => none) else none
theorem d4 (n : Nat) : LoopDef Try.prog (T n) (TL n) Try.f64 4 :=
  ⟨l4, fun R => B4 n, n, fun R st k => by kernel_rfl, fun R next cs x => by kernel_rfl⟩
theorem con (n : Nat) : Con Try.prog 64 (sig n) :=
  con_print (hsw := rfl) (T := T n) (TL := TL n) (c := Try.f64.body.getD .skip) (js := [4]) hMixed conT_none Try.func64 (by decide) (by kernel_rfl) (by kernel_rfl) (by decide) (LoopDef.cons (d4 n) LoopDef.nil) (fun x => by kernel_rfl)
end laws_eqIntS
namespace laws_eqRecAck
def f (n : Nat) (x : Tup [tRecAck, tRecAck]) : Option (Tup [.bool]) :=
  if (x.1.1 != x.2.1.1) = true then
    some (false, ())
  else
    (laws_eqIntS.f n (x.1.2.1, x.2.1.2.1, ())).bind fun y1 =>
    if (!y1.1) = true then
      some (false, ())
    else
      some (true, ())
@[reducible] def sig (n : Nat) : Sig := ⟨[tRecAck, tRecAck], [.bool], false, f n, none⟩
def T (n : Nat) : FuncId → Option Sig := fun g => if Nat.beq g 64 = true then some (laws_eqIntS.sig n) else none
def TL (n : Nat) : Loops := fun j _ st k => none
theorem con (n : Nat) : Con Try.prog 73 (sig n) :=
  con_print (hsw := rfl) (T := T n) (TL := TL n) (c := Try.f73.body.getD .skip) (js := []) hMixed (conT_cons (laws_eqIntS.con n) conT_none) Try.func73 (by decide) (by kernel_rfl) (by kernel_rfl) (by decide) LoopDef.nil (fun x => by kernel_rfl)
end laws_eqRecAck
namespace laws_eqRecAckS
@[reducible] def l4 : LSpec := ⟨[(0, .d (.slice tRecAck)), (1, .d (.slice tRecAck)), (5, .d (.int .i64))], [(.ret, [(4, .d .bool)]), (.exit 0, [])]⟩
def B4 (n : Nat) {R : Type} (next : Sden l4.inS → Option R) (cs : Conts R l4.outs) (x : Sden l4.inS) : Option R :=
  if (decide (x.2.2.1 < (List.length x.1 : Int))) = true then
    if (!true || (decide (0 ≤ x.2.2.1 ∧ x.2.2.1 < (List.length x.1 : Int)))) = true then
      if (!true || (decide (0 ≤ x.2.2.1 ∧ x.2.2.1 < (List.length x.2.1 : Int)))) = true then
        (laws_eqRecAck.f n ((List.getD x.1 (Int.toNat x.2.2.1) (Ty.zero tRecAck)), (List.getD x.2.1 (Int.toNat x.2.2.1) (Ty.zero tRecAck)), ())).bind fun y1 =>
        if (!y1.1) = true then
          cs.1 (false, ())
        else
          next (x.1, x.2.1, (IntKind.i64.wrap (x.2.2.1 + (1 : Int))), ())
      else
        none
    else
      none
  else
    cs.2.1 ()
def f (n : Nat) (x : Tup [(.slice tRecAck), (.slice tRecAck)]) : Option (Tup [.bool]) :=
  if ((List.length x.1 : Int) != (List.length x.2.1 : Int)) = true then
    some (false, ())
  else
    runL (B4 n) ((fun z2 =>
        some (z2.1, ())), (fun z3 =>
        some (true, ())), ()) n (x.1, x.2.1, (0 : Int), ())
@[reducible] def sig (n : Nat) : Sig := ⟨[(.slice tRecAck), (.slice tRecAck)], [.bool], false, f n, none⟩
def T (n : Nat) : FuncId → Option Sig := fun g => if Nat.beq g 73 = true then some (laws_eqRecAck.sig n) else none
def TL (n : Nat) : Loops := fun j _ st k => if Nat.beq j 4 = true then (match dec st l4.inS [] with | some x => runL (B4 n) (contsOf k l4.outs) n x | none => none) else none
theorem d4 (n : Nat) : LoopDef Try.prog (T n) (TL n) Try.f66 4 :=
  ⟨l4, fun R => B4 n, n, fun R st k => by kernel_rfl, fun R next cs x => by kernel_rfl⟩
theorem con (n : Nat) : Con Try.prog 66 (sig n) :=
  con_print (hsw := rfl) (T := T n) (TL := TL n) (c := Try.f66.body.getD .skip) (js := [4]) hMixed (conT_cons (laws_eqRecAck.con n) conT_none) Try.func66 (by decide) (by kernel_rfl) (by kernel_rfl) (by decide) (LoopDef.cons (d4 n) LoopDef.nil) (fun x => by kernel_rfl)
end laws_eqRecAckS
namespace laws_eqRecorder
def f (n : Nat) (x : Tup [tRecorder, tRecorder]) : Option (Tup [.bool]) :=
  if (x.1.1 != x.2.1.1) = true then
    some (false, ())
  else if (x.1.2.1 != x.2.1.2.1) = true then
    some (false, ())
  else if (!(x.1.2.2.1 == x.2.1.2.2.1)) = true then
    some (false, ())
  else
    (laws_eqRecDisk.f n (x.1.2.2.2.1, x.2.1.2.2.2.1, ())).bind fun y1 =>
    if (!y1.1) = true then
      some (false, ())
    else
      (laws_eqRecDisk.f n (x.1.2.2.2.2.1, x.2.1.2.2.2.2.1, ())).bind fun y2 =>
      if (!y2.1) = true then
        some (false, ())
      else
        (laws_eqRecMessageS.f n (x.1.2.2.2.2.2.1, x.2.1.2.2.2.2.2.1, ())).bind fun y3 =>
        if (!y3.1) = true then
          some (false, ())
        else
          (laws_eqStringS.f n (x.1.2.2.2.2.2.2.1, x.2.1.2.2.2.2.2.2.1, ())).bind fun y4 =>
          if (!y4.1) = true then
            some (false, ())
          else if (!(x.1.2.2.2.2.2.2.2.1 == x.2.1.2.2.2.2.2.2.2.1)) = true then
            some (false, ())
          else if (!(x.1.2.2.2.2.2.2.2.2.1 == x.2.1.2.2.2.2.2.2.2.2.1)) = true then
            some (false, ())
          else if (x.1.2.2.2.2.2.2.2.2.2.1 != x.2.1.2.2.2.2.2.2.2.2.2.1) = true then
            some (false, ())
          else
            (laws_eqIntS.f n (x.1.2.2.2.2.2.2.2.2.2.2.1, x.2.1.2.2.2.2.2.2.2.2.2.2.1, ())).bind fun y5 =>
            if (!y5.1) = true then
              some (false, ())
            else
              (laws_eqRecSlotS.f n (x.1.2.2.2.2.2.2.2.2.2.2.2.1, x.2.1.2.2.2.2.2.2.2.2.2.2.2.1, ())).bind fun y6 =>
              if (!y6.1) = true then
                some (false, ())
              else
                (laws_eqRecAckS.f n (x.1.2.2.2.2.2.2.2.2.2.2.2.2.1, x.2.1.2.2.2.2.2.2.2.2.2.2.2.2.1, ())).bind fun y7 =>
                if (!y7.1) = true then
                  some (false, ())
                else if (x.1.2.2.2.2.2.2.2.2.2.2.2.2.2.1 != x.2.1.2.2.2.2.2.2.2.2.2.2.2.2.2.1) = true then
                  some (false, ())
                else
                  some (true, ())
@[reducible] def sig (n : Nat) : Sig := ⟨[tRecorder, tRecorder], [.bool], false, f n, none⟩
def T (n : Nat) : FuncId → Option Sig := fun g => if Nat.beq g 22 = true then some (laws_eqRecMessageS.sig n) else if Nat.beq g 62 = true then some (laws_eqRecDisk.sig n) else if Nat.beq g 63 = true then some (laws_eqStringS.sig n) else if Nat.beq g 64 = true then some (laws_eqIntS.sig n) else if Nat.beq g 65 = true then some (laws_eqRecSlotS.sig n) else if Nat.beq g 66 = true then some (laws_eqRecAckS.sig n) else none
def TL (n : Nat) : Loops := fun j _ st k => none
theorem con (n : Nat) : Con Try.prog 39 (sig n) :=
  con_print (hsw := rfl) (T := T n) (TL := TL n) (c := Try.f39.body.getD .skip) (js := []) hMixed (conT_cons (laws_eqRecMessageS.con n) (conT_cons (laws_eqRecDisk.con n) (conT_cons (laws_eqStringS.con n) (conT_cons (laws_eqIntS.con n) (conT_cons (laws_eqRecSlotS.con n) (conT_cons (laws_eqRecAckS.con n) conT_none)))))) Try.func39 (by decide) (by kernel_rfl) (by kernel_rfl) (by decide) LoopDef.nil (fun x => by kernel_rfl)
end laws_eqRecorder
namespace laws_eqRecorderS
@[reducible] def l4 : LSpec := ⟨[(0, .d (.slice tRecorder)), (1, .d (.slice tRecorder)), (5, .d (.int .i64))], [(.ret, [(4, .d .bool)]), (.exit 0, [])]⟩
def B4 (n : Nat) {R : Type} (next : Sden l4.inS → Option R) (cs : Conts R l4.outs) (x : Sden l4.inS) : Option R :=
  if (decide (x.2.2.1 < (List.length x.1 : Int))) = true then
    if (!true || (decide (0 ≤ x.2.2.1 ∧ x.2.2.1 < (List.length x.1 : Int)))) = true then
      if (!true || (decide (0 ≤ x.2.2.1 ∧ x.2.2.1 < (List.length x.2.1 : Int)))) = true then
        (laws_eqRecorder.f n ((List.getD x.1 (Int.toNat x.2.2.1) (Ty.zero tRecorder)), (List.getD x.2.1 (Int.toNat x.2.2.1) (Ty.zero tRecorder)), ())).bind fun y1 =>
        if (!y1.1) = true then
          cs.1 (false, ())
        else
          next (x.1, x.2.1, (IntKind.i64.wrap (x.2.2.1 + (1 : Int))), ())
      else
        none
    else
      none
  else
    cs.2.1 ()
def f (n : Nat) (x : Tup [(.slice tRecorder), (.slice tRecorder)]) : Option (Tup [.bool]) :=
  if ((List.length x.1 : Int) != (List.length x.2.1 : Int)) = true then
    some (false, ())
  else
    runL (B4 n) ((fun z2 =>
        some (z2.1, ())), (fun z3 =>
        some (true, ())), ()) n (x.1, x.2.1, (0 : Int), ())
@[reducible] def sig (n : Nat) : Sig := ⟨[(.slice tRecorder), (.slice tRecorder)], [.bool], false, f n, none⟩
def T (n : Nat) : FuncId → Option Sig := fun g => if Nat.beq g 39 = true then some (laws_eqRecorder.sig n) else none
def TL (n : Nat) : Loops := fun j _ st k => if Nat.beq j 4 = true then (match dec st l4.inS [] with | some x => runL (B4 n) (contsOf k l4.outs) n x | none => none) else none
theorem d4 (n : Nat) : LoopDef Try.prog (T n) (TL n) Try.f21 4 :=
  ⟨l4, fun R => B4 n, n, fun R st k => by kernel_rfl, fun R next cs x => by kernel_rfl⟩
theorem con (n : Nat) : Con Try.prog 21 (sig n) :=
  con_print (hsw := rfl) (T := T n) (TL := TL n) (c := Try.f21.body.getD .skip) (js := [4]) hMixed (conT_cons (laws_eqRecorder.con n) conT_none) Try.func21 (by decide) (by kernel_rfl) (by kernel_rfl) (by decide) (LoopDef.cons (d4 n) LoopDef.nil) (fun x => by kernel_rfl)
end laws_eqRecorderS
namespace laws_eqRecFix
def f (n : Nat) (x : Tup [tRecSlot, tRecSlot]) : Option (Tup [.bool]) :=
  if (x.1.1 != x.2.1.1) = true then
    some (false, ())
  else if (!seq x.1.2.1 x.2.1.2.1) = true then
    some (false, ())
  else
    some (true, ())
@[reducible] def sig (n : Nat) : Sig := ⟨[tRecSlot, tRecSlot], [.bool], false, f n, none⟩
def T (n : Nat) : FuncId → Option Sig := fun g => none
def TL (n : Nat) : Loops := fun j _ st k => none
theorem con (n : Nat) : Con Try.prog 41 (sig n) :=
  con_print (hsw := rfl) (T := T n) (TL := TL n) (c := Try.f41.body.getD .skip) (js := []) hMixed conT_none Try.func41 (by decide) (by kernel_rfl) (by kernel_rfl) (by decide) LoopDef.nil (fun x => by kernel_rfl)
end laws_eqRecFix
namespace laws_eqRecFixS
@[reducible] def l4 : LSpec := ⟨[(0, .d (.slice tRecSlot)), (1, .d (.slice tRecSlot)), (5, .d (.int .i64))], [(.ret, [(4, .d .bool)]), (.exit 0, [])]⟩
def B4 (n : Nat) {R : Type} (next : Sden l4.inS → Option R) (cs : Conts R l4.outs) (x : Sden l4.inS) : Option R :=
  if (decide (x.2.2.1 < (List.length x.1 : Int))) = true then
    if (!true || (decide (0 ≤ x.2.2.1 ∧ x.2.2.1 < (List.length x.1 : Int)))) = true then
      if (!true || (decide (0 ≤ x.2.2.1 ∧ x.2.2.1 < (List.length x.2.1 : Int)))) = true then
        (laws_eqRecFix.f n ((List.getD x.1 (Int.toNat x.2.2.1) (Ty.zero tRecSlot)), (List.getD x.2.1 (Int.toNat x.2.2.1) (Ty.zero tRecSlot)), ())).bind fun y1 =>
        if (!y1.1) = true then
          cs.1 (false, ())
        else
          next (x.1, x.2.1, (IntKind.i64.wrap (x.2.2.1 + (1 : Int))), ())
      else
        none
    else
      none
  else
    cs.2.1 ()
def f (n : Nat) (x : Tup [(.slice tRecSlot), (.slice tRecSlot)]) : Option (Tup [.bool]) :=
  if ((List.length x.1 : Int) != (List.length x.2.1 : Int)) = true then
    some (false, ())
  else
    runL (B4 n) ((fun z2 =>
        some (z2.1, ())), (fun z3 =>
        some (true, ())), ()) n (x.1, x.2.1, (0 : Int), ())
@[reducible] def sig (n : Nat) : Sig := ⟨[(.slice tRecSlot), (.slice tRecSlot)], [.bool], false, f n, none⟩
def T (n : Nat) : FuncId → Option Sig := fun g => if Nat.beq g 41 = true then some (laws_eqRecFix.sig n) else none
def TL (n : Nat) : Loops := fun j _ st k => if Nat.beq j 4 = true then (match dec st l4.inS [] with | some x => runL (B4 n) (contsOf k l4.outs) n x | none => none) else none
theorem d4 (n : Nat) : LoopDef Try.prog (T n) (TL n) Try.f23 4 :=
  ⟨l4, fun R => B4 n, n, fun R st k => by kernel_rfl, fun R next cs x => by kernel_rfl⟩
theorem con (n : Nat) : Con Try.prog 23 (sig n) :=
  con_print (hsw := rfl) (T := T n) (TL := TL n) (c := Try.f23.body.getD .skip) (js := [4]) hMixed (conT_cons (laws_eqRecFix.con n) conT_none) Try.func23 (by decide) (by kernel_rfl) (by kernel_rfl) (by decide) (LoopDef.cons (d4 n) LoopDef.nil) (fun x => by kernel_rfl)
end laws_eqRecFixS
namespace laws_eqRecWorld
def f (n : Nat) (x : Tup [tRecWorld, tRecWorld]) : Option (Tup [.bool]) :=
  (laws_eqRecorderS.f n (x.1.1, x.2.1.1, ())).bind fun y1 =>
  if (!y1.1) = true then
    some (false, ())
  else
    (laws_eqRecMessageS.f n (x.1.2.1, x.2.1.2.1, ())).bind fun y2 =>
    if (!y2.1) = true then
      some (false, ())
    else
      (laws_eqRecFixS.f n (x.1.2.2.1, x.2.1.2.2.1, ())).bind fun y3 =>
      if (!y3.1) = true then
        some (false, ())
      else
        some (true, ())
@[reducible] def sig (n : Nat) : Sig := ⟨[tRecWorld, tRecWorld], [.bool], false, f n, none⟩
def T (n : Nat) : FuncId → Option Sig := fun g => if Nat.beq g 21 = true then some (laws_eqRecorderS.sig n) else if Nat.beq g 22 = true then some (laws_eqRecMessageS.sig n) else if Nat.beq g 23 = true then some (laws_eqRecFixS.sig n) else none
def TL (n : Nat) : Loops := fun j _ st k => none
theorem con (n : Nat) : Con Try.prog 8 (sig n) :=
  con_print (hsw := rfl) (T := T n) (TL := TL n) (c := Try.f8.body.getD .skip) (js := []) hMixed (conT_cons (laws_eqRecorderS.con n) (conT_cons (laws_eqRecMessageS.con n) (conT_cons (laws_eqRecFixS.con n) conT_none))) Try.func8 (by decide) (by kernel_rfl) (by kernel_rfl) (by decide) LoopDef.nil (fun x => by kernel_rfl)
end laws_eqRecWorld
namespace laws_FnExactRecAgree
def f (n : Nat) (x : Tup [tRecWorld]) : Option (Tup [.bool]) :=
  (laws_szRecWorld.f n (x.1, (1048576 : Int), ())).bind fun y1 =>
  if (decide (y1.1 < (0 : Int))) = true then
    some (true, ())
  else
    (laws_toRecWorld.f n (x.1, ())).bind fun y2 =>
    (spec_RecAgree.f n (y2.1, ())).bind fun y3 =>
    (laws_toRecWorld.f n (x.1, ())).bind fun y4 =>
    (impl_RecAgree.f n (y4.1, ())).bind fun y5 =>
    if (!(y5.1 == y3.1)) = true then
      some (false, ())
    else
      (laws_toRecWorld.f n (x.1, ())).bind fun y6 =>
      (laws_eqRecWorld.f n (y4.1, y6.1, ())).bind fun y7 =>
      if (!y7.1) = true then
        some (false, ())
      else
        some (true, ())
@[reducible] def sig (n : Nat) : Sig := ⟨[tRecWorld], [.bool], false, f n, none⟩
def T (n : Nat) : FuncId → Option Sig := fun g => if Nat.beq g 4 = true then some (laws_szRecWorld.sig n) else if Nat.beq g 5 = true then some (spec_RecAgree.sig n) else if Nat.beq g 6 = true then some (laws_toRecWorld.sig n) else if Nat.beq g 7 = true then some (impl_RecAgree.sig n) else if Nat.beq g 8 = true then some (laws_eqRecWorld.sig n) else none
def TL (n : Nat) : Loops := fun j _ st k => none
theorem con (n : Nat) : Con Try.prog 3 (sig n) :=
  con_print (hsw := rfl) (T := T n) (TL := TL n) (c := Try.f3.body.getD .skip) (js := []) hMixed (conT_cons (laws_szRecWorld.con n) (conT_cons (spec_RecAgree.con n) (conT_cons (laws_toRecWorld.con n) (conT_cons (impl_RecAgree.con n) (conT_cons (laws_eqRecWorld.con n) conT_none))))) Try.func3 (by decide) (by kernel_rfl) (by kernel_rfl) (by decide) LoopDef.nil (fun x => by kernel_rfl)
end laws_FnExactRecAgree
end Go.Proofs.Ytpdaakbjdfnkhab
