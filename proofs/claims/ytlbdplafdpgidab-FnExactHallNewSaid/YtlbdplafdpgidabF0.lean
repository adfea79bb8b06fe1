import Derived.Test.YtlbdplafdpgidabProg
import Derived.Test.YtlbdplafdpgidabM3
set_option maxRecDepth 100000
set_option linter.unusedVariables false
namespace Go.Proofs.Ytlbdplafdpgidab
open Go.Vm
abbrev tGateTeam : Ty := (.pair .str (.pair .str .unit))
abbrev tGateRule : Ty := (.pair (.slice (.int .i64)) (.pair .str (.pair .str (.pair .str .unit))))
abbrev tGateGrant : Ty := (.pair (.int .i64) (.pair .str (.pair .str (.pair tGateRule .unit))))
abbrev tHallHouse : Ty := (.pair (.slice tGateTeam) (.pair (.slice tGateGrant) .unit))
abbrev tRecSlot : Ty := (.pair (.int .i64) (.pair .str .unit))
abbrev tRecDisk : Ty := (.pair (.int .i64) (.pair (.int .i64) (.pair (.slice tRecSlot) .unit)))
abbrev tRecMessage : Ty := (.pair (.int .i64) (.pair (.int .i64) (.pair (.int .i64) (.pair (.int .i64) (.pair (.int .i64) (.pair (.int .i64) (.pair .str (.pair (.slice tRecSlot) .unit))))))))
abbrev tRecAck : Ty := (.pair (.int .i64) (.pair (.slice (.int .i64)) .unit))
abbrev tRecorder : Ty := (.pair (.int .i64) (.pair (.int .i64) (.pair .bool (.pair tRecDisk (.pair tRecDisk (.pair (.slice tRecMessage) (.pair (.slice .str) (.pair .bool (.pair .bool (.pair (.int .i64) (.pair (.slice (.int .i64)) (.pair (.slice tRecSlot) (.pair (.slice tRecAck) (.pair (.int .i64) .unit))))))))))))))
abbrev tRecWorld : Ty := (.pair (.slice tRecorder) (.pair (.slice tRecMessage) (.pair (.slice tRecSlot) .unit)))
abbrev tGateSaid : Ty := (.pair (.int .i64) (.pair (.int .i64) (.pair (.int .i64) .unit)))
abbrev tHallAsked : Ty := (.pair .str (.pair (.int .i64) (.pair (.int .i64) (.pair tGateSaid .unit))))
abbrev tHallWorld : Ty := (.pair tHallHouse (.pair tRecWorld (.pair (.int .i64) (.pair (.slice tHallAsked) .unit))))
abbrev tRecFix : Ty := tRecSlot
theorem hMixed : Try.prog.follows .mixedOrders = true := by kernel_rfl
namespace laws_szGateTeam
def f (n : Nat) (x : Tup [tGateTeam, (.int .i64)]) : Option (Tup [(.int .i64)]) :=
  if (decide ((IntKind.i64.wrap (x.2.1 - (ByteArray.size x.1.1 : Int))) < (0 : Int))) = true then
    some ((-1 : Int), ())
  else if (decide ((IntKind.i64.wrap ((IntKind.i64.wrap (x.2.1 - (ByteArray.size x.1.1 : Int))) - (ByteArray.size x.1.2.1 : Int))) < (0 : Int))) = true then
    some ((-1 : Int), ())
  else
    some ((IntKind.i64.wrap ((IntKind.i64.wrap (x.2.1 - (ByteArray.size x.1.1 : Int))) - (ByteArray.size x.1.2.1 : Int))), ())
@[reducible] def sig (n : Nat) : Sig := ⟨[tGateTeam, (.int .i64)], [(.int .i64)], false, f n, none⟩
def T (n : Nat) : FuncId → Option Sig := fun g => none
def TL (n : Nat) : Loops := fun j _ st k => none
theorem con (n : Nat) : Con Try.prog 35 (sig n) :=
  con_print (hsw := rfl) (T := T n) (TL := TL n) (c := Try.f35.body.getD .skip) (js := []) hMixed conT_none Try.func35 (by decide) (by kernel_rfl) (by kernel_rfl) (by decide) LoopDef.nil (fun x => by kernel_rfl)
end laws_szGateTeam
namespace laws_szGateTeamS
@[reducible] def l5 : LSpec := ⟨[(0, .d (.slice tGateTeam)), (1, .d (.int .i64)), (5, .d (.int .i64))], [(.ret, [(4, .d (.int .i64))]), (.exit 0, [(1, .d (.int .i64))])]⟩
def B5 (n : Nat) {R : Type} (next : Sden l5.inS → Option R) (cs : Conts R l5.outs) (x : Sden l5.inS) : Option R :=
  if (decide (x.2.2.1 < (List.length x.1 : Int))) = true then
    if (decide (0 ≤ x.2.2.1 ∧ x.2.2.1 < (List.length x.1 : Int))) = true then
      (laws_szGateTeam.f n ((List.getD x.1 (Int.toNat x.2.2.1) (Ty.zero tGateTeam)), x.2.1, ())).bind fun y1 =>
      if (decide (y1.1 < (0 : Int))) = true then
        cs.1 ((-1 : Int), ())
      else
        next (x.1, y1.1, (IntKind.i64.wrap (x.2.2.1 + (1 : Int))), ())
    else
      none
  else
    cs.2.1 (x.2.1, ())
def f (n : Nat) (x : Tup [(.slice tGateTeam), (.int .i64)]) : Option (Tup [(.int .i64)]) :=
  if (decide ((IntKind.i64.wrap (x.2.1 - (List.length x.1 : Int))) < (0 : Int))) = true then
    some ((-1 : Int), ())
  else
    runL (B5 n) ((fun z2 =>
        some (z2.1, ())), (fun z3 =>
        some (z3.1, ())), ()) n (x.1, (IntKind.i64.wrap (x.2.1 - (List.length x.1 : Int))), (0 : Int), ())
@[reducible] def sig (n : Nat) : Sig := ⟨[(.slice tGateTeam), (.int .i64)], [(.int .i64)], false, f n, none⟩
def T (n : Nat) : FuncId → Option Sig := fun g => if Nat.beq g 35 = true then some (laws_szGateTeam.sig n) else none
def TL (n : Nat) : Loops := fun j _ st k => if Nat.beq j 5 = true then (match dec st l5.inS [] with | some x => runL (B5 n) (contsOf k l5.outs) n x | none => none) else none
theorem d5 (n : Nat) : LoopDef Try.prog (T n) (TL n) Try.f13 5 :=
  ⟨l5, fun R => B5 n, n, fun R st k => by kernel_rfl, fun R next cs x => by kernel_rfl⟩
theorem con (n : Nat) : Con Try.prog 13 (sig n) :=
  con_print (hsw := rfl) (T := T n) (TL := TL n) (c := Try.f13.body.getD .skip) (js := [5]) hMixed (conT_cons (laws_szGateTeam.con n) conT_none) Try.func13 (by decide) (by kernel_rfl) (by kernel_rfl) (by decide) (LoopDef.cons (d5 n) LoopDef.nil) (fun x => by kernel_rfl)
end laws_szGateTeamS
namespace laws_szIntS
def f (n : Nat) (x : Tup [(.slice (.int .i64)), (.int .i64)]) : Option (Tup [(.int .i64)]) :=
  if (decide ((IntKind.i64.wrap (x.2.1 - (List.length x.1 : Int))) < (0 : Int))) = true then
    some ((-1 : Int), ())
  else
    some ((IntKind.i64.wrap (x.2.1 - (List.length x.1 : Int))), ())
@[reducible] def sig (n : Nat) : Sig := ⟨[(.slice (.int .i64)), (.int .i64)], [(.int .i64)], false, f n, none⟩
def T (n : Nat) : FuncId → Option Sig := fun g => none
def TL (n : Nat) : Loops := fun j _ st k => none
theorem con (n : Nat) : Con Try.prog 90 (sig n) :=
  con_print (hsw := rfl) (T := T n) (TL := TL n) (c := Try.f90.body.getD .skip) (js := []) hMixed conT_none Try.func90 (by decide) (by kernel_rfl) (by kernel_rfl) (by decide) LoopDef.nil (fun x => by kernel_rfl)
end laws_szIntS
namespace laws_szGateRule
def f (n : Nat) (x : Tup [tGateRule, (.int .i64)]) : Option (Tup [(.int .i64)]) :=
  (laws_szIntS.f n (x.1.1, x.2.1, ())).bind fun y1 =>
  if (decide (y1.1 < (0 : Int))) = true then
    some ((-1 : Int), ())
  else if (decide ((IntKind.i64.wrap (y1.1 - (ByteArray.size x.1.2.1 : Int))) < (0 : Int))) = true then
    some ((-1 : Int), ())
  else if (decide ((IntKind.i64.wrap ((IntKind.i64.wrap (y1.1 - (ByteArray.size x.1.2.1 : Int))) - (ByteArray.size x.1.2.2.1 : Int))) < (0 : Int))) = true then
    some ((-1 : Int), ())
  else if (decide ((IntKind.i64.wrap ((IntKind.i64.wrap ((IntKind.i64.wrap (y1.1 - (ByteArray.size x.1.2.1 : Int))) - (ByteArray.size x.1.2.2.1 : Int))) - (ByteArray.size x.1.2.2.2.1 : Int))) < (0 : Int))) = true then
    some ((-1 : Int), ())
  else
    some ((IntKind.i64.wrap ((IntKind.i64.wrap ((IntKind.i64.wrap (y1.1 - (ByteArray.size x.1.2.1 : Int))) - (ByteArray.size x.1.2.2.1 : Int))) - (ByteArray.size x.1.2.2.2.1 : Int))), ())
@[reducible] def sig (n : Nat) : Sig := ⟨[tGateRule, (.int .i64)], [(.int .i64)], false, f n, none⟩
def T (n : Nat) : FuncId → Option Sig := fun g => if Nat.beq g 90 = true then some (laws_szIntS.sig n) else none
def TL (n : Nat) : Loops := fun j _ st k => none
theorem con (n : Nat) : Con Try.prog 68 (sig n) :=
  con_print (hsw := rfl) (T := T n) (TL := TL n) (c := Try.f68.body.getD .skip) (js := []) hMixed (conT_cons (laws_szIntS.con n) conT_none) Try.func68 (by decide) (by kernel_rfl) (by kernel_rfl) (by decide) LoopDef.nil (fun x => by kernel_rfl)
end laws_szGateRule
namespace laws_szGateGrant
def f (n : Nat) (x : Tup [tGateGrant, (.int .i64)]) : Option (Tup [(.int .i64)]) :=
  if (decide ((IntKind.i64.wrap (x.2.1 - (ByteArray.size x.1.2.1 : Int))) < (0 : Int))) = true then
    some ((-1 : Int), ())
  else if (decide ((IntKind.i64.wrap ((IntKind.i64.wrap (x.2.1 - (ByteArray.size x.1.2.1 : Int))) - (ByteArray.size x.1.2.2.1 : Int))) < (0 : Int))) = true then
    some ((-1 : Int), ())
  else
    (laws_szGateRule.f n (x.1.2.2.2.1, (IntKind.i64.wrap ((IntKind.i64.wrap (x.2.1 - (ByteArray.size x.1.2.1 : Int))) - (ByteArray.size x.1.2.2.1 : Int))), ())).bind fun y1 =>
    if (decide (y1.1 < (0 : Int))) = true then
      some ((-1 : Int), ())
    else
      some (y1.1, ())
@[reducible] def sig (n : Nat) : Sig := ⟨[tGateGrant, (.int .i64)], [(.int .i64)], false, f n, none⟩
def T (n : Nat) : FuncId → Option Sig := fun g => if Nat.beq g 68 = true then some (laws_szGateRule.sig n) else none
def TL (n : Nat) : Loops := fun j _ st k => none
theorem con (n : Nat) : Con Try.prog 36 (sig n) :=
  con_print (hsw := rfl) (T := T n) (TL := TL n) (c := Try.f36.body.getD .skip) (js := []) hMixed (conT_cons (laws_szGateRule.con n) conT_none) Try.func36 (by decide) (by kernel_rfl) (by kernel_rfl) (by decide) LoopDef.nil (fun x => by kernel_rfl)
end laws_szGateGrant
namespace laws_szGateGrantS
@[reducible] def l5 : LSpec := ⟨[(0, .d (.slice tGateGrant)), (1, .d (.int .i64)), (5, .d (.int .i64))], [(.ret, [(4, .d (.int .i64))]), (.exit 0, [(1, .d (.int .i64))])]⟩
def B5 (n : Nat) {R : Type} (next : Sden l5.inS → Option R) (cs : Conts R l5.outs) (x : Sden l5.inS) : Option R :=
  if (decide (x.2.2.1 < (List.length x.1 : Int))) = true then
    if (decide (0 ≤ x.2.2.1 ∧ x.2.2.1 < (List.length x.1 : Int))) = true then
      (laws_szGateGrant.f n ((List.getD x.1 (Int.toNat x.2.2.1) (Ty.zero tGateGrant)), x.2.1, ())).bind fun y1 =>
      if (decide (y1.1 < (0 : Int))) = true then
        cs.1 ((-1 : Int), ())
      else
        next (x.1, y1.1, (IntKind.i64.wrap (x.2.2.1 + (1 : Int))), ())
    else
      none
  else
    cs.2.1 (x.2.1, ())
def f (n : Nat) (x : Tup [(.slice tGateGrant), (.int .i64)]) : Option (Tup [(.int .i64)]) :=
  if (decide ((IntKind.i64.wrap (x.2.1 - (List.length x.1 : Int))) < (0 : Int))) = true then
    some ((-1 : Int), ())
  else
    runL (B5 n) ((fun z2 =>
        some (z2.1, ())), (fun z3 =>
        some (z3.1, ())), ()) n (x.1, (IntKind.i64.wrap (x.2.1 - (List.length x.1 : Int))), (0 : Int), ())
@[reducible] def sig (n : Nat) : Sig := ⟨[(.slice tGateGrant), (.int .i64)], [(.int .i64)], false, f n, none⟩
def T (n : Nat) : FuncId → Option Sig := fun g => if Nat.beq g 36 = true then some (laws_szGateGrant.sig n) else none
def TL (n : Nat) : Loops := fun j _ st k => if Nat.beq j 5 = true then (match dec st l5.inS [] with | some x => runL (B5 n) (contsOf k l5.outs) n x | none => none) else none
theorem d5 (n : Nat) : LoopDef Try.prog (T n) (TL n) Try.f14 5 :=
  ⟨l5, fun R => B5 n, n, fun R st k => by kernel_rfl, fun R next cs x => by kernel_rfl⟩
theorem con (n : Nat) : Con Try.prog 14 (sig n) :=
  con_print (hsw := rfl) (T := T n) (TL := TL n) (c := Try.f14.body.getD .skip) (js := [5]) hMixed (conT_cons (laws_szGateGrant.con n) conT_none) Try.func14 (by decide) (by kernel_rfl) (by kernel_rfl) (by decide) (LoopDef.cons (d5 n) LoopDef.nil) (fun x => by kernel_rfl)
end laws_szGateGrantS
namespace laws_szHallHouse
def f (n : Nat) (x : Tup [tHallHouse, (.int .i64)]) : Option (Tup [(.int .i64)]) :=
  (laws_szGateTeamS.f n (x.1.1, x.2.1, ())).bind fun y1 =>
  if (decide (y1.1 < (0 : Int))) = true then
    some ((-1 : Int), ())
  else
    (laws_szGateGrantS.f n (x.1.2.1, y1.1, ())).bind fun y2 =>
    if (decide (y2.1 < (0 : Int))) = true then
      some ((-1 : Int), ())
    else
      some (y2.1, ())
@[reducible] def sig (n : Nat) : Sig := ⟨[tHallHouse, (.int .i64)], [(.int .i64)], false, f n, none⟩
def T (n : Nat) : FuncId → Option Sig := fun g => if Nat.beq g 13 = true then some (laws_szGateTeamS.sig n) else if Nat.beq g 14 = true then some (laws_szGateGrantS.sig n) else none
def TL (n : Nat) : Loops := fun j _ st k => none
theorem con (n : Nat) : Con Try.prog 4 (sig n) :=
  con_print (hsw := rfl) (T := T n) (TL := TL n) (c := Try.f4.body.getD .skip) (js := []) hMixed (conT_cons (laws_szGateTeamS.con n) (conT_cons (laws_szGateGrantS.con n) conT_none)) Try.func4 (by decide) (by kernel_rfl) (by kernel_rfl) (by decide) LoopDef.nil (fun x => by kernel_rfl)
end laws_szHallHouse
namespace laws_toGateTeam
def f (n : Nat) (x : Tup [tGateTeam]) : Option (Tup [tGateTeam]) :=
  some (x.1, ())
@[reducible] def sig (n : Nat) : Sig := ⟨[tGateTeam], [tGateTeam], false, f n, none⟩
def T (n : Nat) : FuncId → Option Sig := fun g => none
def TL (n : Nat) : Loops := fun j _ st k => none
theorem con (n : Nat) : Con Try.prog 43 (sig n) :=
  con_print (hsw := rfl) (T := T n) (TL := TL n) (c := Try.f43.body.getD .skip) (js := []) hMixed conT_none Try.func43 (by decide) (by kernel_rfl) (by kernel_rfl) (by decide) LoopDef.nil (fun x => by kernel_rfl)
end laws_toGateTeam
namespace laws_toGateTeamS
@[reducible] def l3 : LSpec := ⟨[(0, .d (.slice tGateTeam)), (3, .row true tGateTeam), (4, .d (.int .i64))], [(.exit 0, [(3, .row true tGateTeam)])]⟩
def B3 (n : Nat) {R : Type} (next : Sden l3.inS → Option R) (cs : Conts R l3.outs) (x : Sden l3.inS) : Option R :=
  if (decide (x.2.2.1 < (List.length x.1 : Int))) = true then
    if (decide (0 ≤ x.2.2.1 ∧ x.2.2.1 < (List.length x.1 : Int))) = true then
      (laws_toGateTeam.f n ((List.getD x.1 (Int.toNat x.2.2.1) (Ty.zero tGateTeam)), ())).bind fun y1 =>
      if (decide (0 ≤ x.2.2.1 ∧ x.2.2.1 < (List.length x.2.1 : Int))) = true then
        next (x.1, (List.set x.2.1 (Int.toNat x.2.2.1) y1.1), (IntKind.i64.wrap (x.2.2.1 + (1 : Int))), ())
      else
        none
    else
      none
  else
    cs.1 (x.2.1, ())
def f (n : Nat) (x : Tup [(.slice tGateTeam)]) : Option (Tup [(.slice tGateTeam)]) :=
  if (decide (0 ≤ (List.length x.1 : Int) ∧ (List.length x.1 : Int) ≤ (List.length x.1 : Int) ∧ (List.length x.1 : Int) * (32 : Int) ≤ 140737488355328)) = true then
    runL (B3 n) ((fun z2 =>
        some (z2.1, ())), ()) n (x.1, (List.replicate (Int.toNat (List.length x.1 : Int)) (Ty.zero tGateTeam)), (0 : Int), ())
  else
    none
@[reducible] def sig (n : Nat) : Sig := ⟨[(.slice tGateTeam)], [(.slice tGateTeam)], true, f n, none⟩
def T (n : Nat) : FuncId → Option Sig := fun g => if Nat.beq g 43 = true then some (laws_toGateTeam.sig n) else none
def TL (n : Nat) : Loops := fun j _ st k => if Nat.beq j 3 = true then (match dec st l3.inS [] with | some x => runL (B3 n) (contsOf k l3.outs) n x | none => none) else none
theorem d3 (n : Nat) : LoopDef Try.prog (T n) (TL n) Try.f19 3 :=
  ⟨l3, fun R => B3 n, n, fun R st k => by kernel_rfl, fun R next cs x => by kernel_rfl⟩
theorem con (n : Nat) : Con Try.prog 19 (sig n) :=
  con_print (hsw := rfl) (T := T n) (TL := TL n) (c := Try.f19.body.getD .skip) (js := [3]) hMixed (conT_cons (laws_toGateTeam.con n) conT_none) Try.func19 (by decide) (by kernel_rfl) (by kernel_rfl) (by decide) (LoopDef.cons (d3 n) LoopDef.nil) (fun x => by kernel_rfl)
end laws_toGateTeamS
namespace laws_toIntS
@[reducible] def l3 : LSpec := ⟨[(0, .d (.slice (.int .i64))), (3, .row true (.int .i64)), (4, .d (.int .i64))], [(.exit 0, [(3, .row true (.int .i64))])]⟩
def B3 (n : Nat) {R : Type} (next : Sden l3.inS → Option R) (cs : Conts R l3.outs) (x : Sden l3.inS) : Option R :=
  if (decide (x.2.2.1 < (List.length x.1 : Int))) = true then
    if (decide (0 ≤ x.2.2.1 ∧ x.2.2.1 < (List.length x.1 : Int))) = true then
      if (decide (0 ≤ x.2.2.1 ∧ x.2.2.1 < (List.length x.2.1 : Int))) = true then
        next (x.1, (List.set x.2.1 (Int.toNat x.2.2.1) (List.getD x.1 (Int.toNat x.2.2.1) (0 : Int))), (IntKind.i64.wrap (x.2.2.1 + (1 : Int))), ())
      else
        none
    else
      none
  else
    cs.1 (x.2.1, ())
def f (n : Nat) (x : Tup [(.slice (.int .i64))]) : Option (Tup [(.slice (.int .i64))]) :=
  if (decide (0 ≤ (List.length x.1 : Int) ∧ (List.length x.1 : Int) ≤ (List.length x.1 : Int) ∧ (List.length x.1 : Int) * (8 : Int) ≤ 140737488355328)) = true then
    runL (B3 n) ((fun z1 =>
        some (z1.1, ())), ()) n (x.1, (List.replicate (Int.toNat (List.length x.1 : Int)) (0 : Int)), (0 : Int), ())
  else
    none
@[reducible] def sig (n : Nat) : Sig := ⟨[(.slice (.int .i64))], [(.slice (.int .i64))], true, f n, none⟩
def T (n : Nat) : FuncId → Option Sig := fun g => none
def TL (n : Nat) : Loops := fun j _ st k => if Nat.beq j 3 = true then (match dec st l3.inS [] with | some x => runL (B3 n) (contsOf k l3.outs) n x | none => none) else none
theorem d3 (n : Nat) : LoopDef Try.prog (T n) (TL n) Try.f91 3 :=
  ⟨l3, fun R => B3 n, n, fun R st k => by kernel_rfl, fun R next cs x => by kernel_rfl⟩
theorem con (n : Nat) : Con Try.prog 91 (sig n) :=
  con_print (hsw := rfl) (T := T n) (TL := TL n) (c := Try.f91.body.getD .skip) (js := [3]) hMixed conT_none Try.func91 (by decide) (by kernel_rfl) (by kernel_rfl) (by decide) (LoopDef.cons (d3 n) LoopDef.nil) (fun x => by kernel_rfl)
end laws_toIntS
namespace laws_toGateRule
def f (n : Nat) (x : Tup [tGateRule]) : Option (Tup [tGateRule]) :=
  (laws_toIntS.f n (x.1.1, ())).bind fun y1 =>
  some ((y1.1, x.1.2), ())
@[reducible] def sig (n : Nat) : Sig := ⟨[tGateRule], [tGateRule], true, f n, none⟩
def T (n : Nat) : FuncId → Option Sig := fun g => if Nat.beq g 91 = true then some (laws_toIntS.sig n) else none
def TL (n : Nat) : Loops := fun j _ st k => none
theorem con (n : Nat) : Con Try.prog 72 (sig n) :=
  con_print (hsw := rfl) (T := T n) (TL := TL n) (c := Try.f72.body.getD .skip) (js := []) hMixed (conT_cons (laws_toIntS.con n) conT_none) Try.func72 (by decide) (by kernel_rfl) (by kernel_rfl) (by decide) LoopDef.nil (fun x => by kernel_rfl)
end laws_toGateRule
namespace laws_toGateGrant
def f (n : Nat) (x : Tup [tGateGrant]) : Option (Tup [tGateGrant]) :=
  (laws_toGateRule.f n (x.1.2.2.2.1, ())).bind fun y1 =>
  some ((x.1.1, x.1.2.1, x.1.2.2.1, y1.1, ()), ())
@[reducible] def sig (n : Nat) : Sig := ⟨[tGateGrant], [tGateGrant], true, f n, none⟩
def T (n : Nat) : FuncId → Option Sig := fun g => if Nat.beq g 72 = true then some (laws_toGateRule.sig n) else none
def TL (n : Nat) : Loops := fun j _ st k => none
theorem con (n : Nat) : Con Try.prog 44 (sig n) :=
  con_print (hsw := rfl) (T := T n) (TL := TL n) (c := Try.f44.body.getD .skip) (js := []) hMixed (conT_cons (laws_toGateRule.con n) conT_none) Try.func44 (by decide) (by kernel_rfl) (by kernel_rfl) (by decide) LoopDef.nil (fun x => by kernel_rfl)
end laws_toGateGrant
namespace laws_toGateGrantS
@[reducible] def l3 : LSpec := ⟨[(0, .d (.slice tGateGrant)), (3, .row true tGateGrant), (4, .d (.int .i64))], [(.exit 0, [(3, .row true tGateGrant)])]⟩
def B3 (n : Nat) {R : Type} (next : Sden l3.inS → Option R) (cs : Conts R l3.outs) (x : Sden l3.inS) : Option R :=
  if (decide (x.2.2.1 < (List.length x.1 : Int))) = true then
    if (decide (0 ≤ x.2.2.1 ∧ x.2.2.1 < (List.length x.1 : Int))) = true then
      (laws_toGateGrant.f n ((List.getD x.1 (Int.toNat x.2.2.1) (Ty.zero tGateGrant)), ())).bind fun y1 =>
      if (decide (0 ≤ x.2.2.1 ∧ x.2.2.1 < (List.length x.2.1 : Int))) = true then
        next (x.1, (List.set x.2.1 (Int.toNat x.2.2.1) y1.1), (IntKind.i64.wrap (x.2.2.1 + (1 : Int))), ())
      else
        none
    else
      none
  else
    cs.1 (x.2.1, ())
def f (n : Nat) (x : Tup [(.slice tGateGrant)]) : Option (Tup [(.slice tGateGrant)]) :=
  if (decide (0 ≤ (List.length x.1 : Int) ∧ (List.length x.1 : Int) ≤ (List.length x.1 : Int) ∧ (List.length x.1 : Int) * (112 : Int) ≤ 140737488355328)) = true then
    runL (B3 n) ((fun z2 =>
        some (z2.1, ())), ()) n (x.1, (List.replicate (Int.toNat (List.length x.1 : Int)) (Ty.zero tGateGrant)), (0 : Int), ())
  else
    none
@[reducible] def sig (n : Nat) : Sig := ⟨[(.slice tGateGrant)], [(.slice tGateGrant)], true, f n, none⟩
def T (n : Nat) : FuncId → Option Sig := fun g => if Nat.beq g 44 = true then some (laws_toGateGrant.sig n) else none
def TL (n : Nat) : Loops := fun j _ st k => if Nat.beq j 3 = true then (match dec st l3.inS [] with | some x => runL (B3 n) (contsOf k l3.outs) n x | none => none) else none
theorem d3 (n : Nat) : LoopDef Try.prog (T n) (TL n) Try.f20 3 :=
  ⟨l3, fun R => B3 n, n, fun R st k => by kernel_rfl, fun R next cs x => by kernel_rfl⟩
theorem con (n : Nat) : Con Try.prog 20 (sig n) :=
  con_print (hsw := rfl) (T := T n) (TL := TL n) (c := Try.f20.body.getD .skip) (js := [3]) hMixed (conT_cons (laws_toGateGrant.con n) conT_none) Try.func20 (by decide) (by kernel_rfl) (by kernel_rfl) (by decide) (LoopDef.cons (d3 n) LoopDef.nil) (fun x => by kernel_rfl)
end laws_toGateGrantS
namespace laws_toHallHouse
def f (n : Nat) (x : Tup [tHallHouse]) : Option (Tup [tHallHouse]) :=
  (laws_toGateTeamS.f n (x.1.1, ())).bind fun y1 =>
  (laws_toGateGrantS.f n (x.1.2.1, ())).bind fun y2 =>
  some ((y1.1, y2.1, ()), ())
@[reducible] def sig (n : Nat) : Sig := ⟨[tHallHouse], [tHallHouse], true, f n, none⟩
def T (n : Nat) : FuncId → Option Sig := fun g => if Nat.beq g 19 = true then some (laws_toGateTeamS.sig n) else if Nat.beq g 20 = true then some (laws_toGateGrantS.sig n) else none
def TL (n : Nat) : Loops := fun j _ st k => none
theorem con (n : Nat) : Con Try.prog 6 (sig n) :=
  con_print (hsw := rfl) (T := T n) (TL := TL n) (c := Try.f6.body.getD .skip) (js := []) hMixed (conT_cons (laws_toGateTeamS.con n) (conT_cons (laws_toGateGrantS.con n) conT_none)) Try.func6 (by decide) (by kernel_rfl) (by kernel_rfl) (by decide) LoopDef.nil (fun x => by kernel_rfl)
end laws_toHallHouse
namespace spec_l1In
def f (n : Nat) (x : Tup [(.int .i64), (.int .i64), (.int .i64)]) : Option (Tup [.bool]) :=
  some (((decide (x.1 ≥ x.2.1)) && (decide (x.1 ≤ x.2.2.1))), ())
@[reducible] def sig (n : Nat) : Sig := ⟨[(.int .i64), (.int .i64), (.int .i64)], [.bool], false, f n, none⟩
def T (n : Nat) : FuncId → Option Sig := fun g => none
def TL (n : Nat) : Loops := fun j _ st k => none
theorem con (n : Nat) : Con Try.prog 16 (sig n) :=
  con_print (hsw := rfl) (T := T n) (TL := TL n) (c := Try.f16.body.getD .skip) (js := []) hMixed conT_none Try.func16 (by decide) (by kernel_rfl) (by kernel_rfl) (by decide) LoopDef.nil (fun x => by kernel_rfl)
end spec_l1In
namespace spec_l1Byte
def f (n : Nat) (x : Tup [(.int .u8)]) : Option (Tup [.bool]) :=
  some (((((decide (x.1 ≥ (97 : Int))) && (decide (x.1 ≤ (122 : Int)))) || ((decide (x.1 ≥ (48 : Int))) && (decide (x.1 ≤ (57 : Int))))) || (x.1 == (45 : Int))), ())
@[reducible] def sig (n : Nat) : Sig := ⟨[(.int .u8)], [.bool], false, f n, none⟩
def T (n : Nat) : FuncId → Option Sig := fun g => none
def TL (n : Nat) : Loops := fun j _ st k => none
theorem con (n : Nat) : Con Try.prog 71 (sig n) :=
  con_print (hsw := rfl) (T := T n) (TL := TL n) (c := Try.f71.body.getD .skip) (js := []) hMixed conT_none Try.func71 (by decide) (by kernel_rfl) (by kernel_rfl) (by decide) LoopDef.nil (fun x => by kernel_rfl)
end spec_l1Byte
namespace spec_l1NameOk
@[reducible] def l4 : LSpec := ⟨[(0, .d .str), (3, .d (.int .i64))], [(.ret, [(2, .d .bool)]), (.exit 0, [])]⟩
def B4 (n : Nat) {R : Type} (next : Sden l4.inS → Option R) (cs : Conts R l4.outs) (x : Sden l4.inS) : Option R :=
  if (decide (x.2.1 < (ByteArray.size x.1 : Int))) = true then
    if (decide (0 ≤ x.2.1 ∧ x.2.1 < (ByteArray.size x.1 : Int))) = true then
      (spec_l1Byte.f n ((byteAt x.1 x.2.1), ())).bind fun y2 =>
      if (!y2.1) = true then
        cs.1 (false, ())
      else
        next (x.1, (IntKind.i64.wrap (x.2.1 + (1 : Int))), ())
    else
      none
  else
    cs.2.1 ()
def f (n : Nat) (x : Tup [.str]) : Option (Tup [.bool]) :=
  (spec_l1In.f n ((ByteArray.size x.1 : Int), (1 : Int), (16 : Int), ())).bind fun y1 =>
  if (!y1.1) = true then
    some (false, ())
  else
    runL (B4 n) ((fun z3 =>
        some (z3.1, ())), (fun z4 =>
        some (true, ())), ()) n (x.1, (0 : Int), ())
@[reducible] def sig (n : Nat) : Sig := ⟨[.str], [.bool], false, f n, none⟩
def T (n : Nat) : FuncId → Option Sig := fun g => if Nat.beq g 16 = true then some (spec_l1In.sig n) else if Nat.beq g 71 = true then some (spec_l1Byte.sig n) else none
def TL (n : Nat) : Loops := fun j _ st k => if Nat.beq j 4 = true then (match dec st l4.inS [] with | some x => runL (B4 n) (contsOf k l4.outs) n x | none => none) else none
theorem d4 (n : Nat) : LoopDef Try.prog (T n) (TL n) Try.f38 4 :=
  ⟨l4, fun R => B4 n, n, fun R st k => by kernel_rfl, fun R next cs x => by kernel_rfl⟩
theorem con (n : Nat) : Con Try.prog 38 (sig n) :=
  con_print (hsw := rfl) (T := T n) (TL := TL n) (c := Try.f38.body.getD .skip) (js := [4]) hMixed (conT_cons (spec_l1In.con n) (conT_cons (spec_l1Byte.con n) conT_none)) Try.func38 (by decide) (by kernel_rfl) (by kernel_rfl) (by decide) (LoopDef.cons (d4 n) LoopDef.nil) (fun x => by kernel_rfl)
end spec_l1NameOk
namespace spec_l4Team
@[reducible] def l2 : LSpec := ⟨[(0, .d (.slice tGateTeam)), (1, .d .str), (5, .d (.int .i64))], [(.ret, [(4, .d .bool)]), (.exit 0, [])]⟩
def B2 (n : Nat) {R : Type} (next : Sden l2.inS → Option R) (cs : Conts R l2.outs) (x : Sden l2.inS) : Option R :=
  if (decide (x.2.2.1 < (List.length x.1 : Int))) = true then
    if (decide (0 ≤ x.2.2.1 ∧ x.2.2.1 < (List.length x.1 : Int))) = true then
      if (seq (List.getD x.1 (Int.toNat x.2.2.1) (Ty.zero tGateTeam)).1 x.2.1) = true then
        cs.1 (true, ())
      else
        next (x.1, x.2.1, (IntKind.i64.wrap (x.2.2.1 + (1 : Int))), ())
    else
      none
  else
    cs.2.1 ()
def f (n : Nat) (x : Tup [(.slice tGateTeam), .str]) : Option (Tup [.bool]) :=
  runL (B2 n) ((fun z1 =>
      some (z1.1, ())), (fun z2 =>
      some (false, ())), ()) n (x.1, x.2.1, (0 : Int), ())
@[reducible] def sig (n : Nat) : Sig := ⟨[(.slice tGateTeam), .str], [.bool], false, f n, none⟩
def T (n : Nat) : FuncId → Option Sig := fun g => none
def TL (n : Nat) : Loops := fun j _ st k => if Nat.beq j 2 = true then (match dec st l2.inS [] with | some x => runL (B2 n) (contsOf k l2.outs) n x | none => none) else none
theorem d2 (n : Nat) : LoopDef Try.prog (T n) (TL n) Try.f69 2 :=
  ⟨l2, fun R => B2 n, n, fun R st k => by kernel_rfl, fun R next cs x => by kernel_rfl⟩
theorem con (n : Nat) : Con Try.prog 69 (sig n) :=
  con_print (hsw := rfl) (T := T n) (TL := TL n) (c := Try.f69.body.getD .skip) (js := [2]) hMixed conT_none Try.func69 (by decide) (by kernel_rfl) (by kernel_rfl) (by decide) (LoopDef.cons (d2 n) LoopDef.nil) (fun x => by kernel_rfl)
end spec_l4Team
namespace spec_l4Over
@[reducible] def l2 : LSpec := ⟨[(0, .d (.slice tGateTeam)), (1, .d .str), (5, .d (.int .i64))], [(.ret, [(4, .d .str)]), (.exit 0, [])]⟩
def B2 (n : Nat) {R : Type} (next : Sden l2.inS → Option R) (cs : Conts R l2.outs) (x : Sden l2.inS) : Option R :=
  if (decide (x.2.2.1 < (List.length x.1 : Int))) = true then
    if (decide (0 ≤ x.2.2.1 ∧ x.2.2.1 < (List.length x.1 : Int))) = true then
      if (seq (List.getD x.1 (Int.toNat x.2.2.1) (Ty.zero tGateTeam)).1 x.2.1) = true then
        if (decide (0 ≤ x.2.2.1 ∧ x.2.2.1 < (List.length x.1 : Int))) = true then
          cs.1 ((List.getD x.1 (Int.toNat x.2.2.1) (Ty.zero tGateTeam)).2.1, ())
        else
          none
      else
        next (x.1, x.2.1, (IntKind.i64.wrap (x.2.2.1 + (1 : Int))), ())
    else
      none
  else
    cs.2.1 ()
def f (n : Nat) (x : Tup [(.slice tGateTeam), .str]) : Option (Tup [.str]) :=
  runL (B2 n) ((fun z1 =>
      some (z1.1, ())), (fun z2 =>
      some ((⟨#[]⟩ : ByteArray), ())), ()) n (x.1, x.2.1, (0 : Int), ())
@[reducible] def sig (n : Nat) : Sig := ⟨[(.slice tGateTeam), .str], [.str], false, f n, none⟩
def T (n : Nat) : FuncId → Option Sig := fun g => none
def TL (n : Nat) : Loops := fun j _ st k => if Nat.beq j 2 = true then (match dec st l2.inS [] with | some x => runL (B2 n) (contsOf k l2.outs) n x | none => none) else none
theorem d2 (n : Nat) : LoopDef Try.prog (T n) (TL n) Try.f70 2 :=
  ⟨l2, fun R => B2 n, n, fun R st k => by kernel_rfl, fun R next cs x => by kernel_rfl⟩
theorem con (n : Nat) : Con Try.prog 70 (sig n) :=
  con_print (hsw := rfl) (T := T n) (TL := TL n) (c := Try.f70.body.getD .skip) (js := [2]) hMixed conT_none Try.func70 (by decide) (by kernel_rfl) (by kernel_rfl) (by decide) (LoopDef.cons (d2 n) LoopDef.nil) (fun x => by kernel_rfl)
end spec_l4Over
namespace spec_GateTeamsOk
@[reducible] def l11 : LSpec := ⟨[(0, .d (.slice tGateTeam)), (3, .d (.int .i64)), (5, .d .str), (6, .d (.int .i64))], [(.exit 2, [(0, .d (.slice tGateTeam)), (3, .d (.int .i64)), (5, .d .str)])]⟩
def B11 (n : Nat) {R : Type} (next : Sden l11.inS → Option R) (cs : Conts R l11.outs) (x : Sden l11.inS) : Option R :=
  if ((decide (x.2.2.2.1 ≤ (4 : Int))) && (!seq x.2.2.1 (⟨#[]⟩ : ByteArray))) = true then
    (spec_l4Over.f n (x.1, x.2.2.1, ())).bind fun y3 =>
    next (x.1, x.2.1, y3.1, (IntKind.i64.wrap (x.2.2.2.1 + (1 : Int))), ())
  else
    cs.1 (x.1, x.2.1, x.2.2.1, ())
@[reducible] def l4 : LSpec := ⟨[(0, .d (.slice tGateTeam)), (3, .d (.int .i64))], [(.ret, [(2, .d .bool)]), (.exit 0, [])]⟩
def B4 (n : Nat) {R : Type} (next : Sden l4.inS → Option R) (cs : Conts R l4.outs) (x : Sden l4.inS) : Option R :=
  if (decide (x.2.1 < (List.length x.1 : Int))) = true then
    if (decide (0 ≤ x.2.1 ∧ x.2.1 < (List.length x.1 : Int))) = true then
      (if true = true then (spec_l1NameOk.f n ((List.getD x.1 (Int.toNat x.2.1) (Ty.zero tGateTeam)).1, ())) else some (tzero [.bool])).bind fun y1 =>
      if (!((!(!y1.1)) && (decide (x.2.1 > (0 : Int)))) || (decide (0 ≤ (IntKind.i64.wrap (x.2.1 - (1 : Int))) ∧ (IntKind.i64.wrap (x.2.1 - (1 : Int))) < (List.length x.1 : Int)))) = true then
        (if ((!((!y1.1) || ((decide (x.2.1 > (0 : Int))) && (!slt (List.getD x.1 (Int.toNat (IntKind.i64.wrap (x.2.1 - (1 : Int)))) (Ty.zero tGateTeam)).1 (List.getD x.1 (Int.toNat x.2.1) (Ty.zero tGateTeam)).1)))) && (!seq (List.getD x.1 (Int.toNat x.2.1) (Ty.zero tGateTeam)).2.1 (⟨#[]⟩ : ByteArray))) = true then (spec_l4Team.f n (x.1, (List.getD x.1 (Int.toNat x.2.1) (Ty.zero tGateTeam)).2.1, ())) else some (tzero [.bool])).bind fun y2 =>
        if (((!y1.1) || ((decide (x.2.1 > (0 : Int))) && (!slt (List.getD x.1 (Int.toNat (IntKind.i64.wrap (x.2.1 - (1 : Int)))) (Ty.zero tGateTeam)).1 (List.getD x.1 (Int.toNat x.2.1) (Ty.zero tGateTeam)).1))) || ((!seq (List.getD x.1 (Int.toNat x.2.1) (Ty.zero tGateTeam)).2.1 (⟨#[]⟩ : ByteArray)) && (!y2.1))) = true then
          cs.1 (false, ())
        else
          runL (B11 n) ((fun z4 =>
              if (!seq z4.2.2.1 (⟨#[]⟩ : ByteArray)) = true then
                cs.1 (false, ())
              else
                next (z4.1, (IntKind.i64.wrap (z4.2.1 + (1 : Int))), ())), ()) n (x.1, x.2.1, (List.getD x.1 (Int.toNat x.2.1) (Ty.zero tGateTeam)).1, (0 : Int), ())
      else
        none
    else
      none
  else
    cs.2.1 ()
def f (n : Nat) (x : Tup [(.slice tGateTeam)]) : Option (Tup [.bool]) :=
  if (decide ((List.length x.1 : Int) > (12 : Int))) = true then
    some (false, ())
  else
    runL (B4 n) ((fun z5 =>
        some (z5.1, ())), (fun z6 =>
        some (true, ())), ()) n (x.1, (0 : Int), ())
@[reducible] def sig (n : Nat) : Sig := ⟨[(.slice tGateTeam)], [.bool], false, f n, none⟩
def T (n : Nat) : FuncId → Option Sig := fun g => if Nat.beq g 38 = true then some (spec_l1NameOk.sig n) else if Nat.beq g 69 = true then some (spec_l4Team.sig n) else if Nat.beq g 70 = true then some (spec_l4Over.sig n) else none
def TL (n : Nat) : Loops := fun j _ st k => if Nat.beq j 11 = true then (match dec st l11.inS [] with | some x => runL (B11 n) (contsOf k l11.outs) n x | none => none) else if Nat.beq j 4 = true then (match dec st l4.inS [] with | some x => runL (B4 n) (contsOf k l4.outs) n x | none => none) else none
theorem d11 (n : Nat) : LoopDef Try.prog (T n) (TL n) Try.f37 11 :=
  ⟨l11, fun R => B11 n, n, fun R st k => by kernel_rfl, fun R next cs x => by kernel_rfl⟩
theorem d4 (n : Nat) : LoopDef Try.prog (T n) (TL n) Try.f37 4 :=
  ⟨l4, fun R => B4 n, n, fun R st k => by kernel_rfl, fun R next cs x => by kernel_rfl⟩
theorem con (n : Nat) : Con Try.prog 37 (sig n) :=
  con_print (hsw := rfl) (T := T n) (TL := TL n) (c := Try.f37.body.getD .skip) (js := [4, 11]) hMixed (conT_cons (spec_l1NameOk.con n) (conT_cons (spec_l4Team.con n) (conT_cons (spec_l4Over.con n) conT_none))) Try.func37 (by decide) (by kernel_rfl) (by kernel_rfl) (by decide) (LoopDef.cons (d4 n) (LoopDef.cons (d11 n) LoopDef.nil)) (fun x => by kernel_rfl)
end spec_GateTeamsOk
namespace spec_l4RuleOk
@[reducible] def l4 : LSpec := ⟨[(1, .rb tGateRule), (3, .d (.int .i64))], [(.ret, [(2, .d .bool)]), (.exit 0, [(1, .rb tGateRule)])]⟩
def B4 (n : Nat) {R : Type} (next : Sden l4.inS → Option R) (cs : Conts R l4.outs) (x : Sden l4.inS) : Option R :=
  if (decide (x.2.1 < (List.length x.1.1 : Int))) = true then
    if (!true || (decide (0 ≤ x.2.1 ∧ x.2.1 < (List.length x.1.1 : Int)))) = true then
      (if true = true then (spec_l1In.f n ((List.getD x.1.1 (Int.toNat x.2.1) (0 : Int)), (1 : Int), (5 : Int), ())) else some (tzero [.bool])).bind fun y3 =>
      if (!((!(!y3.1)) && (decide (x.2.1 > (0 : Int)))) || (decide (0 ≤ (IntKind.i64.wrap (x.2.1 - (1 : Int))) ∧ (IntKind.i64.wrap (x.2.1 - (1 : Int))) < (List.length x.1.1 : Int)))) = true then
        if (!((!(!y3.1)) && (decide (x.2.1 > (0 : Int)))) || (decide (0 ≤ x.2.1 ∧ x.2.1 < (List.length x.1.1 : Int)))) = true then
          if ((!y3.1) || ((decide (x.2.1 > (0 : Int))) && (decide ((List.getD x.1.1 (Int.toNat (IntKind.i64.wrap (x.2.1 - (1 : Int)))) (0 : Int)) ≥ (List.getD x.1.1 (Int.toNat x.2.1) (0 : Int)))))) = true then
            cs.1 (false, ())
          else
            next (x.1, (IntKind.i64.wrap (x.2.1 + (1 : Int))), ())
        else
          none
      else
        none
    else
      none
  else
    cs.2.1 (x.1, ())
@[reducible] def l9 : LSpec := ⟨[(1, .rb tGateRule), (4, .d (.int .i64))], [(.ret, [(2, .d .bool)]), (.exit 2, [])]⟩
def B9 (n : Nat) {R : Type} (next : Sden l9.inS → Option R) (cs : Conts R l9.outs) (x : Sden l9.inS) : Option R :=
  if (decide (x.2.1 < (ByteArray.size x.1.2.2.2.1 : Int))) = true then
    if (decide (0 ≤ x.2.1 ∧ x.2.1 < (ByteArray.size x.1.2.2.2.1 : Int))) = true then
      (spec_l1Byte.f n ((byteAt x.1.2.2.2.1 x.2.1), ())).bind fun y6 =>
      if (!y6.1) = true then
        cs.1 (false, ())
      else
        next (x.1, (IntKind.i64.wrap (x.2.1 + (1 : Int))), ())
    else
      none
  else
    cs.2.1 ()
def f (n : Nat) (x : Tup [tGateRule]) : Option (Tup [.bool]) :=
  (if ((!(((List.length x.1.1 : Int) == (0 : Int)) || (decide ((ByteArray.size x.1.2.2.2.1 : Int) > (16 : Int))))) && (!seq x.1.2.1 (⟨#[]⟩ : ByteArray))) = true then (spec_l1NameOk.f n (x.1.2.1, ())) else some (tzero [.bool])).bind fun y1 =>
  (if ((!((((List.length x.1.1 : Int) == (0 : Int)) || (decide ((ByteArray.size x.1.2.2.2.1 : Int) > (16 : Int)))) || ((!seq x.1.2.1 (⟨#[]⟩ : ByteArray)) && (!y1.1)))) && (!seq x.1.2.2.1 (⟨#[]⟩ : ByteArray))) = true then (spec_l1NameOk.f n (x.1.2.2.1, ())) else some (tzero [.bool])).bind fun y2 =>
  if (((((List.length x.1.1 : Int) == (0 : Int)) || (decide ((ByteArray.size x.1.2.2.2.1 : Int) > (16 : Int)))) || ((!seq x.1.2.1 (⟨#[]⟩ : ByteArray)) && (!y1.1))) || ((!seq x.1.2.2.1 (⟨#[]⟩ : ByteArray)) && (!y2.1))) = true then
    some (false, ())
  else
    runL (B4 n) ((fun z4 =>
        some (z4.1, ())), (fun z5 =>
        runL (B9 n) ((fun z7 =>
            some (z7.1, ())), (fun z8 =>
            some (true, ())), ()) n (z5.1, (0 : Int), ())), ()) n (x.1, (0 : Int), ())
@[reducible] def sig (n : Nat) : Sig := ⟨[tGateRule], [.bool], false, f n, none⟩
def T (n : Nat) : FuncId → Option Sig := fun g => if Nat.beq g 16 = true then some (spec_l1In.sig n) else if Nat.beq g 38 = true then some (spec_l1NameOk.sig n) else if Nat.beq g 71 = true then some (spec_l1Byte.sig n) else none
def TL (n : Nat) : Loops := fun j _ st k => if Nat.beq j 4 = true then (match dec st l4.inS [] with | some x => runL (B4 n) (contsOf k l4.outs) n x | none => none) else if Nat.beq j 9 = true then (match dec st l9.inS [] with | some x => runL (B9 n) (contsOf k l9.outs) n x | none => none) else none
theorem d4 (n : Nat) : LoopDef Try.prog (T n) (TL n) Try.f39 4 :=
  ⟨l4, fun R => B4 n, n, fun R st k => by kernel_rfl, fun R next cs x => by kernel_rfl⟩
theorem d9 (n : Nat) : LoopDef Try.prog (T n) (TL n) Try.f39 9 :=
  ⟨l9, fun R => B9 n, n, fun R st k => by kernel_rfl, fun R next cs x => by kernel_rfl⟩
theorem con (n : Nat) : Con Try.prog 39 (sig n) :=
  con_print (hsw := rfl) (T := T n) (TL := TL n) (c := Try.f39.body.getD .skip) (js := [4, 9]) hMixed (conT_cons (spec_l1In.con n) (conT_cons (spec_l1NameOk.con n) (conT_cons (spec_l1Byte.con n) conT_none))) Try.func39 (by decide) (by kernel_rfl) (by kernel_rfl) (by decide) (LoopDef.cons (d4 n) (LoopDef.cons (d9 n) LoopDef.nil)) (fun x => by kernel_rfl)
end spec_l4RuleOk
namespace spec_HallHouseOk
@[reducible] def l4 : LSpec := ⟨[(1, .rb tHallHouse), (3, .d (.int .i64))], [(.ret, [(2, .d .bool)]), (.exit 0, [])]⟩
def B4 (n : Nat) {R : Type} (next : Sden l4.inS → Option R) (cs : Conts R l4.outs) (x : Sden l4.inS) : Option R :=
  if (decide (x.2.1 < (List.length x.1.2.1 : Int))) = true then
    if (decide (0 ≤ x.2.1 ∧ x.2.1 < (List.length x.1.2.1 : Int))) = true then
      (if (!((List.getD x.1.2.1 (Int.toNat x.2.1) (Ty.zero tGateGrant)).1 != (IntKind.i64.wrap (x.2.1 + (1 : Int))))) = true then (spec_l1NameOk.f n ((List.getD x.1.2.1 (Int.toNat x.2.1) (Ty.zero tGateGrant)).2.1, ())) else some (tzero [.bool])).bind fun y2 =>
      (if (!((((List.getD x.1.2.1 (Int.toNat x.2.1) (Ty.zero tGateGrant)).1 != (IntKind.i64.wrap (x.2.1 + (1 : Int)))) || (!y2.1)) || (!seq (List.getD x.1.2.1 (Int.toNat x.2.1) (Ty.zero tGateGrant)).2.2.1 (⟨#[]⟩ : ByteArray)))) = true then (spec_l4RuleOk.f n ((List.getD x.1.2.1 (Int.toNat x.2.1) (Ty.zero tGateGrant)).2.2.2.1, ())) else some (tzero [.bool])).bind fun y3 =>
      if (((((List.getD x.1.2.1 (Int.toNat x.2.1) (Ty.zero tGateGrant)).1 != (IntKind.i64.wrap (x.2.1 + (1 : Int)))) || (!y2.1)) || (!seq (List.getD x.1.2.1 (Int.toNat x.2.1) (Ty.zero tGateGrant)).2.2.1 (⟨#[]⟩ : ByteArray))) || (!y3.1)) = true then
        cs.1 (false, ())
      else
        next (x.1, (IntKind.i64.wrap (x.2.1 + (1 : Int))), ())
    else
      none
  else
    cs.2.1 ()
def f (n : Nat) (x : Tup [tHallHouse]) : Option (Tup [.bool]) :=
  (spec_GateTeamsOk.f n (x.1.1, ())).bind fun y1 =>
  if ((!y1.1) || (decide ((List.length x.1.2.1 : Int) > (24 : Int)))) = true then
    some (false, ())
  else
    runL (B4 n) ((fun z4 =>
        some (z4.1, ())), (fun z5 =>
        some (true, ())), ()) n (x.1, (0 : Int), ())
@[reducible] def sig (n : Nat) : Sig := ⟨[tHallHouse], [.bool], false, f n, none⟩
def T (n : Nat) : FuncId → Option Sig := fun g => if Nat.beq g 37 = true then some (spec_GateTeamsOk.sig n) else if Nat.beq g 38 = true then some (spec_l1NameOk.sig n) else if Nat.beq g 39 = true then some (spec_l4RuleOk.sig n) else none
def TL (n : Nat) : Loops := fun j _ st k => if Nat.beq j 4 = true then (match dec st l4.inS [] with | some x => runL (B4 n) (contsOf k l4.outs) n x | none => none) else none
theorem d4 (n : Nat) : LoopDef Try.prog (T n) (TL n) Try.f15 4 :=
  ⟨l4, fun R => B4 n, n, fun R st k => by kernel_rfl, fun R next cs x => by kernel_rfl⟩
theorem con (n : Nat) : Con Try.prog 15 (sig n) :=
  con_print (hsw := rfl) (T := T n) (TL := TL n) (c := Try.f15.body.getD .skip) (js := [4]) hMixed (conT_cons (spec_GateTeamsOk.con n) (conT_cons (spec_l1NameOk.con n) (conT_cons (spec_l4RuleOk.con n) conT_none))) Try.func15 (by decide) (by kernel_rfl) (by kernel_rfl) (by decide) (LoopDef.cons (d4 n) LoopDef.nil) (fun x => by kernel_rfl)
end spec_HallHouseOk
namespace spec_l5Rule
def f (n : Nat) (x : Tup [tGateRule]) : Option (Tup [tGateRule]) :=
  if (appBound (List.length ([] : List (Ty.den (.int .i64)))) (List.length x.1.1) 8) = true then
    some (((([] : List (Ty.den (.int .i64))) ++ x.1.1), x.1.2), ())
  else
    none
@[reducible] def sig (n : Nat) : Sig := ⟨[tGateRule], [tGateRule], true, f n, none⟩
def T (n : Nat) : FuncId → Option Sig := fun g => none
def TL (n : Nat) : Loops := fun j _ st k => none
theorem con (n : Nat) : Con Try.prog 40 (sig n) :=
  con_print (hsw := rfl) (T := T n) (TL := TL n) (c := Try.f40.body.getD .skip) (js := []) hMixed conT_none Try.func40 (by decide) (by kernel_rfl) (by kernel_rfl) (by decide) LoopDef.nil (fun x => by kernel_rfl)
end spec_l5Rule
namespace spec_l34House
@[reducible] def l3 : LSpec := ⟨[(1, .rb tHallHouse), (2, .box [.row true tGateTeam, .row true tGateGrant]), (3, .box [.row true tGateTeam, .row true tGateGrant]), (4, .d (.int .i64))], [(.exit 0, [(2, .box [.row true tGateTeam, .row true tGateGrant]), (3, .box [.row true tGateTeam, .row true tGateGrant])])]⟩
def B3 (n : Nat) {R : Type} (next : Sden l3.inS → Option R) (cs : Conts R l3.outs) (x : Sden l3.inS) : Option R :=
  if (decide (x.2.2.2.1 < (List.length x.1.2.1 : Int))) = true then
    if (decide (0 ≤ x.2.2.2.1 ∧ x.2.2.2.1 < (List.length x.1.2.1 : Int))) = true then
      (spec_l5Rule.f n ((List.getD x.1.2.1 (Int.toNat x.2.2.2.1) (Ty.zero tGateGrant)).2.2.2.1, ())).bind fun y1 =>
      if (appBound (List.length x.2.2.1.2.1) (List.length [((List.getD x.1.2.1 (Int.toNat x.2.2.2.1) (Ty.zero tGateGrant)).1, (List.getD x.1.2.1 (Int.toNat x.2.2.2.1) (Ty.zero tGateGrant)).2.1, (List.getD x.1.2.1 (Int.toNat x.2.2.2.1) (Ty.zero tGateGrant)).2.2.1, y1.1, ())]) 112) = true then
        next (x.1, (x.2.1.1, x.2.1.2.1, ()), (x.2.2.1.1, (x.2.2.1.2.1 ++ [((List.getD x.1.2.1 (Int.toNat x.2.2.2.1) (Ty.zero tGateGrant)).1, (List.getD x.1.2.1 (Int.toNat x.2.2.2.1) (Ty.zero tGateGrant)).2.1, (List.getD x.1.2.1 (Int.toNat x.2.2.2.1) (Ty.zero tGateGrant)).2.2.1, y1.1, ())]), ()), (IntKind.i64.wrap (x.2.2.2.1 + (1 : Int))), ())
      else
        none
    else
      none
  else
    cs.1 ((x.2.1.1, x.2.1.2.1, ()), (x.2.2.1.1, x.2.2.1.2.1, ()), ())
def f (n : Nat) (x : Tup [tHallHouse]) : Option (Tup [tHallHouse]) :=
  if (appBound (List.length ([] : List (Ty.den tGateTeam))) (List.length x.1.1) 32) = true then
    runL (B3 n) ((fun z2 =>
        some ((z2.2.1.1, z2.2.1.2.1, ()), ())), ()) n (x.1, ([], [], ()), ((([] : List (Ty.den tGateTeam)) ++ x.1.1), [], ()), (0 : Int), ())
  else
    none
@[reducible] def sig (n : Nat) : Sig := ⟨[tHallHouse], [tHallHouse], true, f n, none⟩
def T (n : Nat) : FuncId → Option Sig := fun g => if Nat.beq g 40 = true then some (spec_l5Rule.sig n) else none
def TL (n : Nat) : Loops := fun j _ st k => if Nat.beq j 3 = true then (match dec st l3.inS [] with | some x => runL (B3 n) (contsOf k l3.outs) n x | none => none) else none
theorem d3 (n : Nat) : LoopDef Try.prog (T n) (TL n) Try.f17 3 :=
  ⟨l3, fun R => B3 n, n, fun R st k => by kernel_rfl, fun R next cs x => by kernel_rfl⟩
theorem con (n : Nat) : Con Try.prog 17 (sig n) :=
  con_print (hsw := rfl) (T := T n) (TL := TL n) (c := Try.f17.body.getD .skip) (js := [3]) hMixed (conT_cons (spec_l5Rule.con n) conT_none) Try.func17 (by decide) (by kernel_rfl) (by kernel_rfl) (by decide) (LoopDef.cons (d3 n) LoopDef.nil) (fun x => by kernel_rfl)
end spec_l34House
namespace spec_l21In
def f (n : Nat) (x : Tup [(.int .i64), (.int .i64), (.int .i64)]) : Option (Tup [.bool]) :=
  some (((decide (x.1 ≥ x.2.1)) && (decide (x.1 ≤ x.2.2.1))), ())
@[reducible] def sig (n : Nat) : Sig := ⟨[(.int .i64), (.int .i64), (.int .i64)], [.bool], false, f n, none⟩
def T (n : Nat) : FuncId → Option Sig := fun g => none
def TL (n : Nat) : Loops := fun j _ st k => none
theorem con (n : Nat) : Con Try.prog 41 (sig n) :=
  con_print (hsw := rfl) (T := T n) (TL := TL n) (c := Try.f41.body.getD .skip) (js := []) hMixed conT_none Try.func41 (by decide) (by kernel_rfl) (by kernel_rfl) (by decide) LoopDef.nil (fun x => by kernel_rfl)
end spec_l21In
namespace spec_RecNew
def f (n : Nat) (x : Tup [(.int .i64), (.int .i64)]) : Option (Tup [tRecorder]) :=
  (spec_l21In.f n (x.2.1, (1 : Int), (5 : Int), ())).bind fun y1 =>
  (if (!(!y1.1)) = true then (spec_l21In.f n (x.1, (1 : Int), x.2.1, ())) else some (tzero [.bool])).bind fun y2 =>
  if ((!y1.1) || (!y2.1)) = true then
    some (((0 : Int), (0 : Int), false, ((0 : Int), (0 : Int), [], ()), ((0 : Int), (0 : Int), [], ()), [], [], false, false, (0 : Int), [], [], [], (0 : Int), ()), ())
  else
    some ((x.1, x.2.1, true, ((0 : Int), (0 : Int), [], ()), ((0 : Int), (0 : Int), [], ()), [], [], false, false, (0 : Int), [], [], [], (0 : Int), ()), ())
@[reducible] def sig (n : Nat) : Sig := ⟨[(.int .i64), (.int .i64)], [tRecorder], true, f n, none⟩
def T (n : Nat) : FuncId → Option Sig := fun g => if Nat.beq g 41 = true then some (spec_l21In.sig n) else none
def TL (n : Nat) : Loops := fun j _ st k => none
theorem con (n : Nat) : Con Try.prog 42 (sig n) :=
  con_print (hsw := rfl) (T := T n) (TL := TL n) (c := Try.f42.body.getD .skip) (js := []) hMixed (conT_cons (spec_l21In.con n) conT_none) Try.func42 (by decide) (by kernel_rfl) (by kernel_rfl) (by decide) LoopDef.nil (fun x => by kernel_rfl)
end spec_RecNew
namespace spec_RecNewWorld
@[reducible] def l5 : LSpec := ⟨[(0, .d (.int .i64)), (2, .box [.row true tRecorder, .row true tRecMessage, .row true tRecSlot]), (3, .box [.row true tRecorder, .row true tRecMessage, .row true tRecSlot]), (4, .d (.int .i64))], [(.exit 0, [(2, .box [.row true tRecorder, .row true tRecMessage, .row true tRecSlot]), (3, .box [.row true tRecorder, .row true tRecMessage, .row true tRecSlot])])]⟩
def B5 (n : Nat) {R : Type} (next : Sden l5.inS → Option R) (cs : Conts R l5.outs) (x : Sden l5.inS) : Option R :=
  if (decide (x.2.2.2.1 ≤ x.1)) = true then
    (spec_RecNew.f n (x.2.2.2.1, x.1, ())).bind fun y2 =>
    if (appBound (List.length x.2.2.1.1) (List.length [y2.1]) 248) = true then
      next (x.1, (x.2.1.1, x.2.1.2.1, x.2.1.2.2.1, ()), ((x.2.2.1.1 ++ [y2.1]), x.2.2.1.2.1, x.2.2.1.2.2.1, ()), (IntKind.i64.wrap (x.2.2.2.1 + (1 : Int))), ())
    else
      none
  else
    cs.1 ((x.2.1.1, x.2.1.2.1, x.2.1.2.2.1, ()), (x.2.2.1.1, x.2.2.1.2.1, x.2.2.1.2.2.1, ()), ())
def f (n : Nat) (x : Tup [(.int .i64)]) : Option (Tup [tRecWorld]) :=
  (spec_l21In.f n (x.1, (1 : Int), (5 : Int), ())).bind fun y1 =>
  if (!y1.1) = true then
    some (([], [], [], ()), ())
  else
    runL (B5 n) ((fun z3 =>
        some ((z3.2.1.1, z3.2.1.2.1, z3.2.1.2.2.1, ()), ())), ()) n (x.1, ([], [], [], ()), ([], [], [], ()), (1 : Int), ())
@[reducible] def sig (n : Nat) : Sig := ⟨[(.int .i64)], [tRecWorld], true, f n, none⟩
def T (n : Nat) : FuncId → Option Sig := fun g => if Nat.beq g 41 = true then some (spec_l21In.sig n) else if Nat.beq g 42 = true then some (spec_RecNew.sig n) else none
def TL (n : Nat) : Loops := fun j _ st k => if Nat.beq j 5 = true then (match dec st l5.inS [] with | some x => runL (B5 n) (contsOf k l5.outs) n x | none => none) else none
theorem d5 (n : Nat) : LoopDef Try.prog (T n) (TL n) Try.f18 5 :=
  ⟨l5, fun R => B5 n, n, fun R st k => by kernel_rfl, fun R next cs x => by kernel_rfl⟩
theorem con (n : Nat) : Con Try.prog 18 (sig n) :=
  con_print (hsw := rfl) (T := T n) (TL := TL n) (c := Try.f18.body.getD .skip) (js := [5]) hMixed (conT_cons (spec_l21In.con n) (conT_cons (spec_RecNew.con n) conT_none)) Try.func18 (by decide) (by kernel_rfl) (by kernel_rfl) (by decide) (LoopDef.cons (d5 n) LoopDef.nil) (fun x => by kernel_rfl)
end spec_RecNewWorld
namespace spec_HallNew
def f (n : Nat) (x : Tup [tHallHouse, (.int .i64)]) : Option (Tup [tHallWorld]) :=
  (spec_HallHouseOk.f n (x.1, ())).bind fun y1 =>
  (if (!(!y1.1)) = true then (spec_l1In.f n (x.2.1, (1 : Int), (5 : Int), ())) else some (tzero [.bool])).bind fun y2 =>
  if ((!y1.1) || (!y2.1)) = true then
    some ((([], [], ()), ([], [], [], ()), (0 : Int), [], ()), ())
  else
    (spec_l34House.f n (x.1, ())).bind fun y3 =>
    (spec_RecNewWorld.f n (x.2.1, ())).bind fun y4 =>
    some ((y3.1, y4.1, (0 : Int), [], ()), ())
@[reducible] def sig (n : Nat) : Sig := ⟨[tHallHouse, (.int .i64)], [tHallWorld], true, f n, none⟩
def T (n : Nat) : FuncId → Option Sig := fun g => if Nat.beq g 15 = true then some (spec_HallHouseOk.sig n) else if Nat.beq g 16 = true then some (spec_l1In.sig n) else if Nat.beq g 17 = true then some (spec_l34House.sig n) else if Nat.beq g 18 = true then some (spec_RecNewWorld.sig n) else none
def TL (n : Nat) : Loops := fun j _ st k => none
theorem con (n : Nat) : Con Try.prog 5 (sig n) :=
  con_print (hsw := rfl) (T := T n) (TL := TL n) (c := Try.f5.body.getD .skip) (js := []) hMixed (conT_cons (spec_HallHouseOk.con n) (conT_cons (spec_l1In.con n) (conT_cons (spec_l34House.con n) (conT_cons (spec_RecNewWorld.con n) conT_none)))) Try.func5 (by decide) (by kernel_rfl) (by kernel_rfl) (by decide) LoopDef.nil (fun x => by kernel_rfl)
end spec_HallNew
namespace impl_nameByte
def f (n : Nat) (x : Tup [(.int .u8)]) : Option (Tup [.bool]) :=
  some (((((decide (x.1 ≥ (97 : Int))) && (decide (x.1 ≤ (122 : Int)))) || ((decide (x.1 ≥ (48 : Int))) && (decide (x.1 ≤ (57 : Int))))) || (x.1 == (45 : Int))), ())
@[reducible] def sig (n : Nat) : Sig := ⟨[(.int .u8)], [.bool], false, f n, none⟩
def T (n : Nat) : FuncId → Option Sig := fun g => none
def TL (n : Nat) : Loops := fun j _ st k => none
theorem con (n : Nat) : Con Try.prog 98 (sig n) :=
  con_print (hsw := rfl) (T := T n) (TL := TL n) (c := Try.f98.body.getD .skip) (js := []) hMixed conT_none Try.func98 (by decide) (by kernel_rfl) (by kernel_rfl) (by decide) LoopDef.nil (fun x => by kernel_rfl)
end impl_nameByte
namespace impl_nameBytes
@[reducible] def l2 : LSpec := ⟨[(0, .d .str), (5, .d (.int .i64)), (6, .d (.int .i64))], [(.ret, [(2, .d .bool)]), (.exit 0, [])]⟩
def B2 (n : Nat) {R : Type} (next : Sden l2.inS → Option R) (cs : Conts R l2.outs) (x : Sden l2.inS) : Option R :=
  if (decide (x.2.2.1 < x.2.1)) = true then
    if (decide (0 ≤ x.2.2.1 ∧ x.2.2.1 < (ByteArray.size x.1 : Int))) = true then
      (impl_nameByte.f n ((byteAt x.1 x.2.2.1), ())).bind fun y1 =>
      if (!y1.1) = true then
        cs.1 (false, ())
      else
        next (x.1, x.2.1, (IntKind.i64.wrap (x.2.2.1 + (1 : Int))), ())
    else
      none
  else
    cs.2.1 ()
def f (n : Nat) (x : Tup [.str]) : Option (Tup [.bool]) :=
  runL (B2 n) ((fun z2 =>
      some (z2.1, ())), (fun z3 =>
      some (true, ())), ()) n (x.1, (ByteArray.size x.1 : Int), (0 : Int), ())
@[reducible] def sig (n : Nat) : Sig := ⟨[.str], [.bool], false, f n, none⟩
def T (n : Nat) : FuncId → Option Sig := fun g => if Nat.beq g 98 = true then some (impl_nameByte.sig n) else none
def TL (n : Nat) : Loops := fun j _ st k => if Nat.beq j 2 = true then (match dec st l2.inS [] with | some x => runL (B2 n) (contsOf k l2.outs) n x | none => none) else none
theorem d2 (n : Nat) : LoopDef Try.prog (T n) (TL n) Try.f92 2 :=
  ⟨l2, fun R => B2 n, n, fun R st k => by kernel_rfl, fun R next cs x => by kernel_rfl⟩
theorem con (n : Nat) : Con Try.prog 92 (sig n) :=
  con_print (hsw := rfl) (T := T n) (TL := TL n) (c := Try.f92.body.getD .skip) (js := [2]) hMixed (conT_cons (impl_nameByte.con n) conT_none) Try.func92 (by decide) (by kernel_rfl) (by kernel_rfl) (by decide) (LoopDef.cons (d2 n) LoopDef.nil) (fun x => by kernel_rfl)
end impl_nameBytes
namespace impl_isName
def f (n : Nat) (x : Tup [.str]) : Option (Tup [.bool]) :=
  (if ((decide ((ByteArray.size x.1 : Int) ≥ (1 : Int))) && (decide ((ByteArray.size x.1 : Int) ≤ (16 : Int)))) = true then (impl_nameBytes.f n (x.1, ())) else some (tzero [.bool])).bind fun y1 =>
  some ((((decide ((ByteArray.size x.1 : Int) ≥ (1 : Int))) && (decide ((ByteArray.size x.1 : Int) ≤ (16 : Int)))) && y1.1), ())
@[reducible] def sig (n : Nat) : Sig := ⟨[.str], [.bool], false, f n, none⟩
def T (n : Nat) : FuncId → Option Sig := fun g => if Nat.beq g 92 = true then some (impl_nameBytes.sig n) else none
def TL (n : Nat) : Loops := fun j _ st k => none
theorem con (n : Nat) : Con Try.prog 73 (sig n) :=
  con_print (hsw := rfl) (T := T n) (TL := TL n) (c := Try.f73.body.getD .skip) (js := []) hMixed (conT_cons (impl_nameBytes.con n) conT_none) Try.func73 (by decide) (by kernel_rfl) (by kernel_rfl) (by decide) LoopDef.nil (fun x => by kernel_rfl)
end impl_isName
namespace impl_teamOf
@[reducible] def l2 : LSpec := ⟨[(1, .d .str), (7, .d (.slice tGateTeam)), (8, .d (.int .i64)), (9, .d (.int .i64))], [(.ret, [(4, .d (.int .i64))]), (.exit 0, [])]⟩
def B2 (n : Nat) {R : Type} (next : Sden l2.inS → Option R) (cs : Conts R l2.outs) (x : Sden l2.inS) : Option R :=
  if (decide (x.2.2.2.1 < x.2.2.1)) = true then
    if (decide (0 ≤ x.2.2.2.1 ∧ x.2.2.2.1 < (List.length x.2.1 : Int))) = true then
      if (seq (List.getD x.2.1 (Int.toNat x.2.2.2.1) (Ty.zero tGateTeam)).1 x.1) = true then
        cs.1 (x.2.2.2.1, ())
      else
        next (x.1, x.2.1, x.2.2.1, (IntKind.i64.wrap (x.2.2.2.1 + (1 : Int))), ())
    else
      none
  else
    cs.2.1 ()
def f (n : Nat) (x : Tup [(.slice tGateTeam), .str]) : Option (Tup [(.int .i64)]) :=
  runL (B2 n) ((fun z1 =>
      some (z1.1, ())), (fun z2 =>
      some ((-1 : Int), ())), ()) n (x.2.1, x.1, (List.length x.1 : Int), (0 : Int), ())
@[reducible] def sig (n : Nat) : Sig := ⟨[(.slice tGateTeam), .str], [(.int .i64)], false, f n, none⟩
def T (n : Nat) : FuncId → Option Sig := fun g => none
def TL (n : Nat) : Loops := fun j _ st k => if Nat.beq j 2 = true then (match dec st l2.inS [] with | some x => runL (B2 n) (contsOf k l2.outs) n x | none => none) else none
theorem d2 (n : Nat) : LoopDef Try.prog (T n) (TL n) Try.f74 2 :=
  ⟨l2, fun R => B2 n, n, fun R st k => by kernel_rfl, fun R next cs x => by kernel_rfl⟩
theorem con (n : Nat) : Con Try.prog 74 (sig n) :=
  con_print (hsw := rfl) (T := T n) (TL := TL n) (c := Try.f74.body.getD .skip) (js := [2]) hMixed conT_none Try.func74 (by decide) (by kernel_rfl) (by kernel_rfl) (by decide) (LoopDef.cons (d2 n) LoopDef.nil) (fun x => by kernel_rfl)
end impl_teamOf
namespace impl_GateTeamsOk
@[reducible] def l4 : LSpec := ⟨[(0, .d (.slice tGateTeam)), (12, .d (.slice tGateTeam)), (13, .d (.int .i64)), (14, .d (.int .i64))], [(.ret, [(2, .d .bool)]), (.exit 0, [(0, .d (.slice tGateTeam))])]⟩
def B4 (n : Nat) {R : Type} (next : Sden l4.inS → Option R) (cs : Conts R l4.outs) (x : Sden l4.inS) : Option R :=
  if (decide (x.2.2.2.1 < x.2.2.1)) = true then
    if (decide (0 ≤ x.2.2.2.1 ∧ x.2.2.2.1 < (List.length x.2.1 : Int))) = true then
      (if true = true then (impl_isName.f n ((List.getD x.2.1 (Int.toNat x.2.2.2.1) (Ty.zero tGateTeam)).1, ())) else some (tzero [.bool])).bind fun y1 =>
      if (!((!(!y1.1)) && (decide (x.2.2.2.1 > (0 : Int)))) || (decide (0 ≤ (IntKind.i64.wrap (x.2.2.2.1 - (1 : Int))) ∧ (IntKind.i64.wrap (x.2.2.2.1 - (1 : Int))) < (List.length x.1 : Int)))) = true then
        (if ((!((!y1.1) || ((decide (x.2.2.2.1 > (0 : Int))) && (!slt (List.getD x.1 (Int.toNat (IntKind.i64.wrap (x.2.2.2.1 - (1 : Int)))) (Ty.zero tGateTeam)).1 (List.getD x.2.1 (Int.toNat x.2.2.2.1) (Ty.zero tGateTeam)).1)))) && (!seq (List.getD x.2.1 (Int.toNat x.2.2.2.1) (Ty.zero tGateTeam)).2.1 (⟨#[]⟩ : ByteArray))) = true then (impl_teamOf.f n (x.1, (List.getD x.2.1 (Int.toNat x.2.2.2.1) (Ty.zero tGateTeam)).2.1, ())) else some (tzero [(.int .i64)])).bind fun y2 =>
        if (((!y1.1) || ((decide (x.2.2.2.1 > (0 : Int))) && (!slt (List.getD x.1 (Int.toNat (IntKind.i64.wrap (x.2.2.2.1 - (1 : Int)))) (Ty.zero tGateTeam)).1 (List.getD x.2.1 (Int.toNat x.2.2.2.1) (Ty.zero tGateTeam)).1))) || ((!seq (List.getD x.2.1 (Int.toNat x.2.2.2.1) (Ty.zero tGateTeam)).2.1 (⟨#[]⟩ : ByteArray)) && (decide (y2.1 < (0 : Int))))) = true then
          cs.1 (false, ())
        else
          next (x.1, x.2.1, x.2.2.1, (IntKind.i64.wrap (x.2.2.2.1 + (1 : Int))), ())
      else
        none
    else
      none
  else
    cs.2.1 (x.1, ())
@[reducible] def l14 : LSpec := ⟨[(0, .d (.slice tGateTeam)), (7, .d (.int .i64)), (8, .d .str), (51, .d (.slice tGateTeam)), (52, .d (.int .i64)), (53, .d (.int .i64))], [(.ret, [(2, .d .bool)]), (.exit 4, [(0, .d (.slice tGateTeam)), (51, .d (.slice tGateTeam)), (52, .d (.int .i64)), (53, .d (.int .i64))])]⟩
def B14 (n : Nat) {R : Type} (next : Sden l14.inS → Option R) (cs : Conts R l14.outs) (x : Sden l14.inS) : Option R :=
  if (!seq x.2.2.1 (⟨#[]⟩ : ByteArray)) = true then
    if (decide ((IntKind.i64.wrap (x.2.1 + (1 : Int))) > (4 : Int))) = true then
      cs.1 (false, ())
    else
      (impl_teamOf.f n (x.1, x.2.2.1, ())).bind fun y5 =>
      if (decide (0 ≤ y5.1 ∧ y5.1 < (List.length x.1 : Int))) = true then
        next (x.1, (IntKind.i64.wrap (x.2.1 + (1 : Int))), (List.getD x.1 (Int.toNat y5.1) (Ty.zero tGateTeam)).2.1, x.2.2.2.1, x.2.2.2.2.1, x.2.2.2.2.2.1, ())
      else
        none
  else
    cs.2.1 (x.1, x.2.2.2.1, x.2.2.2.2.1, x.2.2.2.2.2.1, ())
@[reducible] def l10 : LSpec := ⟨[(0, .d (.slice tGateTeam)), (51, .d (.slice tGateTeam)), (52, .d (.int .i64)), (53, .d (.int .i64))], [(.ret, [(2, .d .bool)]), (.exit 2, [])]⟩
def B10 (n : Nat) {R : Type} (next : Sden l10.inS → Option R) (cs : Conts R l10.outs) (x : Sden l10.inS) : Option R :=
  if (decide (x.2.2.2.1 < x.2.2.1)) = true then
    if (decide (0 ≤ x.2.2.2.1 ∧ x.2.2.2.1 < (List.length x.2.1 : Int))) = true then
      runL (B14 n) ((fun z6 =>
          cs.1 (z6.1, ())), (fun z7 =>
          next (z7.1, z7.2.1, z7.2.2.1, (IntKind.i64.wrap (z7.2.2.2.1 + (1 : Int))), ())), ()) n (x.1, (0 : Int), (List.getD x.2.1 (Int.toNat x.2.2.2.1) (Ty.zero tGateTeam)).2.1, x.2.1, x.2.2.1, x.2.2.2.1, ())
    else
      none
  else
    cs.2.1 ()
def f (n : Nat) (x : Tup [(.slice tGateTeam)]) : Option (Tup [.bool]) :=
  if (decide ((List.length x.1 : Int) > (12 : Int))) = true then
    some (false, ())
  else
    runL (B4 n) ((fun z3 =>
        some (z3.1, ())), (fun z4 =>
        runL (B10 n) ((fun z8 =>
            some (z8.1, ())), (fun z9 =>
            some (true, ())), ()) n (z4.1, z4.1, (List.length z4.1 : Int), (0 : Int), ())), ()) n (x.1, x.1, (List.length x.1 : Int), (0 : Int), ())
@[reducible] def sig (n : Nat) : Sig := ⟨[(.slice tGateTeam)], [.bool], false, f n, none⟩
def T (n : Nat) : FuncId → Option Sig := fun g => if Nat.beq g 73 = true then some (impl_isName.sig n) else if Nat.beq g 74 = true then some (impl_teamOf.sig n) else none
def TL (n : Nat) : Loops := fun j _ st k => if Nat.beq j 4 = true then (match dec st l4.inS [] with | some x => runL (B4 n) (contsOf k l4.outs) n x | none => none) else if Nat.beq j 14 = true then (match dec st l14.inS [] with | some x => runL (B14 n) (contsOf k l14.outs) n x | none => none) else if Nat.beq j 10 = true then (match dec st l10.inS [] with | some x => runL (B10 n) (contsOf k l10.outs) n x | none => none) else none
theorem d4 (n : Nat) : LoopDef Try.prog (T n) (TL n) Try.f45 4 :=
  ⟨l4, fun R => B4 n, n, fun R st k => by kernel_rfl, fun R next cs x => by kernel_rfl⟩
theorem d14 (n : Nat) : LoopDef Try.prog (T n) (TL n) Try.f45 14 :=
  ⟨l14, fun R => B14 n, n, fun R st k => by kernel_rfl, fun R next cs x => by kernel_rfl⟩
theorem d10 (n : Nat) : LoopDef Try.prog (T n) (TL n) Try.f45 10 :=
  ⟨l10, fun R => B10 n, n, fun R st k => by kernel_rfl, fun R next cs x => by kernel_rfl⟩
theorem con (n : Nat) : Con Try.prog 45 (sig n) :=
  con_print (hsw := rfl) (T := T n) (TL := TL n) (c := Try.f45.body.getD .skip) (js := [4, 10, 14]) hMixed (conT_cons (impl_isName.con n) (conT_cons (impl_teamOf.con n) conT_none)) Try.func45 (by decide) (by kernel_rfl) (by kernel_rfl) (by decide) (LoopDef.cons (d4 n) (LoopDef.cons (d10 n) (LoopDef.cons (d14 n) LoopDef.nil))) (fun x => by kernel_rfl)
end impl_GateTeamsOk
namespace impl_hwLetters
@[reducible] def l2 : LSpec := ⟨[(0, .d .str), (6, .d (.int .i64)), (7, .d (.int .i64))], [(.ret, [(2, .d .bool)]), (.exit 0, [])]⟩
def B2 (n : Nat) {R : Type} (next : Sden l2.inS → Option R) (cs : Conts R l2.outs) (x : Sden l2.inS) : Option R :=
  if (decide (x.2.2.1 < x.2.1)) = true then
    if (decide (0 ≤ x.2.2.1 ∧ x.2.2.1 < (ByteArray.size x.1 : Int))) = true then
      if ((((decide ((byteAt x.1 x.2.2.1) < (97 : Int))) || (decide ((byteAt x.1 x.2.2.1) > (122 : Int)))) && ((decide ((byteAt x.1 x.2.2.1) < (48 : Int))) || (decide ((byteAt x.1 x.2.2.1) > (57 : Int))))) && ((byteAt x.1 x.2.2.1) != (45 : Int))) = true then
        cs.1 (false, ())
      else
        next (x.1, x.2.1, (IntKind.i64.wrap (x.2.2.1 + (1 : Int))), ())
    else
      none
  else
    cs.2.1 ()
def f (n : Nat) (x : Tup [.str]) : Option (Tup [.bool]) :=
  runL (B2 n) ((fun z1 =>
      some (z1.1, ())), (fun z2 =>
      some (true, ())), ()) n (x.1, (ByteArray.size x.1 : Int), (0 : Int), ())
@[reducible] def sig (n : Nat) : Sig := ⟨[.str], [.bool], false, f n, none⟩
def T (n : Nat) : FuncId → Option Sig := fun g => none
def TL (n : Nat) : Loops := fun j _ st k => if Nat.beq j 2 = true then (match dec st l2.inS [] with | some x => runL (B2 n) (contsOf k l2.outs) n x | none => none) else none
theorem d2 (n : Nat) : LoopDef Try.prog (T n) (TL n) Try.f75 2 :=
  ⟨l2, fun R => B2 n, n, fun R st k => by kernel_rfl, fun R next cs x => by kernel_rfl⟩
theorem con (n : Nat) : Con Try.prog 75 (sig n) :=
  con_print (hsw := rfl) (T := T n) (TL := TL n) (c := Try.f75.body.getD .skip) (js := [2]) hMixed conT_none Try.func75 (by decide) (by kernel_rfl) (by kernel_rfl) (by decide) (LoopDef.cons (d2 n) LoopDef.nil) (fun x => by kernel_rfl)
end impl_hwLetters
namespace impl_hwName
def f (n : Nat) (x : Tup [.str]) : Option (Tup [.bool]) :=
  (if ((decide ((ByteArray.size x.1 : Int) ≥ (1 : Int))) && (decide ((ByteArray.size x.1 : Int) ≤ (16 : Int)))) = true then (impl_hwLetters.f n (x.1, ())) else some (tzero [.bool])).bind fun y1 =>
  some ((((decide ((ByteArray.size x.1 : Int) ≥ (1 : Int))) && (decide ((ByteArray.size x.1 : Int) ≤ (16 : Int)))) && y1.1), ())
@[reducible] def sig (n : Nat) : Sig := ⟨[.str], [.bool], false, f n, none⟩
def T (n : Nat) : FuncId → Option Sig := fun g => if Nat.beq g 75 = true then some (impl_hwLetters.sig n) else none
def TL (n : Nat) : Loops := fun j _ st k => none
theorem con (n : Nat) : Con Try.prog 46 (sig n) :=
  con_print (hsw := rfl) (T := T n) (TL := TL n) (c := Try.f46.body.getD .skip) (js := []) hMixed (conT_cons (impl_hwLetters.con n) conT_none) Try.func46 (by decide) (by kernel_rfl) (by kernel_rfl) (by decide) LoopDef.nil (fun x => by kernel_rfl)
end impl_hwName
namespace impl_hwRuleOk
@[reducible] def l4 : LSpec := ⟨[(1, .rb tGateRule), (22, .d (.slice (.int .i64))), (23, .d (.int .i64)), (24, .d (.int .i64))], [(.ret, [(2, .d .bool)]), (.exit 0, [(1, .rb tGateRule)])]⟩
def B4 (n : Nat) {R : Type} (next : Sden l4.inS → Option R) (cs : Conts R l4.outs) (x : Sden l4.inS) : Option R :=
  if (decide (x.2.2.2.1 < x.2.2.1)) = true then
    if (decide (0 ≤ x.2.2.2.1 ∧ x.2.2.2.1 < (List.length x.2.1 : Int))) = true then
      if (!((!((decide ((List.getD x.2.1 (Int.toNat x.2.2.2.1) (0 : Int)) < (1 : Int))) || (decide ((List.getD x.2.1 (Int.toNat x.2.2.2.1) (0 : Int)) > (5 : Int))))) && (decide (x.2.2.2.1 > (0 : Int)))) || (decide (0 ≤ (IntKind.i64.wrap (x.2.2.2.1 - (1 : Int))) ∧ (IntKind.i64.wrap (x.2.2.2.1 - (1 : Int))) < (List.length x.1.1 : Int)))) = true then
        if (((decide ((List.getD x.2.1 (Int.toNat x.2.2.2.1) (0 : Int)) < (1 : Int))) || (decide ((List.getD x.2.1 (Int.toNat x.2.2.2.1) (0 : Int)) > (5 : Int)))) || ((decide (x.2.2.2.1 > (0 : Int))) && (decide ((List.getD x.1.1 (Int.toNat (IntKind.i64.wrap (x.2.2.2.1 - (1 : Int)))) (0 : Int)) ≥ (List.getD x.2.1 (Int.toNat x.2.2.2.1) (0 : Int)))))) = true then
          cs.1 (false, ())
        else
          next (x.1, x.2.1, x.2.2.1, (IntKind.i64.wrap (x.2.2.2.1 + (1 : Int))), ())
      else
        none
    else
      none
  else
    cs.2.1 (x.1, ())
def f (n : Nat) (x : Tup [tGateRule]) : Option (Tup [.bool]) :=
  (if (!(((List.length x.1.1 : Int) == (0 : Int)) || (decide ((ByteArray.size x.1.2.2.2.1 : Int) > (16 : Int))))) = true then (impl_hwLetters.f n (x.1.2.2.2.1, ())) else some (tzero [.bool])).bind fun y1 =>
  if ((((List.length x.1.1 : Int) == (0 : Int)) || (decide ((ByteArray.size x.1.2.2.2.1 : Int) > (16 : Int)))) || (!y1.1)) = true then
    some (false, ())
  else
    runL (B4 n) ((fun z2 =>
        some (z2.1, ())), (fun z3 =>
        (if (!(seq z3.1.2.1 (⟨#[]⟩ : ByteArray))) = true then (impl_hwName.f n (z3.1.2.1, ())) else some (tzero [.bool])).bind fun y4 =>
        (if (((seq z3.1.2.1 (⟨#[]⟩ : ByteArray)) || y4.1) && (!(seq z3.1.2.2.1 (⟨#[]⟩ : ByteArray)))) = true then (impl_hwName.f n (z3.1.2.2.1, ())) else some (tzero [.bool])).bind fun y5 =>
        some ((((seq z3.1.2.1 (⟨#[]⟩ : ByteArray)) || y4.1) && ((seq z3.1.2.2.1 (⟨#[]⟩ : ByteArray)) || y5.1)), ())), ()) n (x.1, x.1.1, (List.length x.1.1 : Int), (0 : Int), ())
@[reducible] def sig (n : Nat) : Sig := ⟨[tGateRule], [.bool], false, f n, none⟩
def T (n : Nat) : FuncId → Option Sig := fun g => if Nat.beq g 46 = true then some (impl_hwName.sig n) else if Nat.beq g 75 = true then some (impl_hwLetters.sig n) else none
def TL (n : Nat) : Loops := fun j _ st k => if Nat.beq j 4 = true then (match dec st l4.inS [] with | some x => runL (B4 n) (contsOf k l4.outs) n x | none => none) else none
theorem d4 (n : Nat) : LoopDef Try.prog (T n) (TL n) Try.f47 4 :=
  ⟨l4, fun R => B4 n, n, fun R st k => by kernel_rfl, fun R next cs x => by kernel_rfl⟩
theorem con (n : Nat) : Con Try.prog 47 (sig n) :=
  con_print (hsw := rfl) (T := T n) (TL := TL n) (c := Try.f47.body.getD .skip) (js := [4]) hMixed (conT_cons (impl_hwName.con n) (conT_cons (impl_hwLetters.con n) conT_none)) Try.func47 (by decide) (by kernel_rfl) (by kernel_rfl) (by decide) (LoopDef.cons (d4 n) LoopDef.nil) (fun x => by kernel_rfl)
end impl_hwRuleOk
namespace impl_HallHouseOk
@[reducible] def l4 : LSpec := ⟨[(16, .d (.slice tGateGrant)), (17, .d (.int .i64)), (18, .d (.int .i64))], [(.ret, [(2, .d .bool)]), (.exit 0, [])]⟩
def B4 (n : Nat) {R : Type} (next : Sden l4.inS → Option R) (cs : Conts R l4.outs) (x : Sden l4.inS) : Option R :=
  if (decide (x.2.2.1 < x.2.1)) = true then
    if (decide (0 ≤ x.2.2.1 ∧ x.2.2.1 < (List.length x.1 : Int))) = true then
      (if (!((List.getD x.1 (Int.toNat x.2.2.1) (Ty.zero tGateGrant)).1 != (IntKind.i64.wrap (x.2.2.1 + (1 : Int))))) = true then (impl_hwName.f n ((List.getD x.1 (Int.toNat x.2.2.1) (Ty.zero tGateGrant)).2.1, ())) else some (tzero [.bool])).bind fun y2 =>
      (if (!((((List.getD x.1 (Int.toNat x.2.2.1) (Ty.zero tGateGrant)).1 != (IntKind.i64.wrap (x.2.2.1 + (1 : Int)))) || (!y2.1)) || (!seq (List.getD x.1 (Int.toNat x.2.2.1) (Ty.zero tGateGrant)).2.2.1 (⟨#[]⟩ : ByteArray)))) = true then (impl_hwRuleOk.f n ((List.getD x.1 (Int.toNat x.2.2.1) (Ty.zero tGateGrant)).2.2.2.1, ())) else some (tzero [.bool])).bind fun y3 =>
      if (((((List.getD x.1 (Int.toNat x.2.2.1) (Ty.zero tGateGrant)).1 != (IntKind.i64.wrap (x.2.2.1 + (1 : Int)))) || (!y2.1)) || (!seq (List.getD x.1 (Int.toNat x.2.2.1) (Ty.zero tGateGrant)).2.2.1 (⟨#[]⟩ : ByteArray))) || (!y3.1)) = true then
        cs.1 (false, ())
      else
        next (x.1, x.2.1, (IntKind.i64.wrap (x.2.2.1 + (1 : Int))), ())
    else
      none
  else
    cs.2.1 ()
def f (n : Nat) (x : Tup [tHallHouse]) : Option (Tup [.bool]) :=
  (impl_GateTeamsOk.f n (x.1.1, ())).bind fun y1 =>
  if ((!y1.1) || (decide ((List.length x.1.2.1 : Int) > (24 : Int)))) = true then
    some (false, ())
  else
    runL (B4 n) ((fun z4 =>
        some (z4.1, ())), (fun z5 =>
        some (true, ())), ()) n (x.1.2.1, (List.length x.1.2.1 : Int), (0 : Int), ())
@[reducible] def sig (n : Nat) : Sig := ⟨[tHallHouse], [.bool], false, f n, none⟩
def T (n : Nat) : FuncId → Option Sig := fun g => if Nat.beq g 45 = true then some (impl_GateTeamsOk.sig n) else if Nat.beq g 46 = true then some (impl_hwName.sig n) else if Nat.beq g 47 = true then some (impl_hwRuleOk.sig n) else none
def TL (n : Nat) : Loops := fun j _ st k => if Nat.beq j 4 = true then (match dec st l4.inS [] with | some x => runL (B4 n) (contsOf k l4.outs) n x | none => none) else none
theorem d4 (n : Nat) : LoopDef Try.prog (T n) (TL n) Try.f21 4 :=
  ⟨l4, fun R => B4 n, n, fun R st k => by kernel_rfl, fun R next cs x => by kernel_rfl⟩
theorem con (n : Nat) : Con Try.prog 21 (sig n) :=
  con_print (hsw := rfl) (T := T n) (TL := TL n) (c := Try.f21.body.getD .skip) (js := [4]) hMixed (conT_cons (impl_GateTeamsOk.con n) (conT_cons (impl_hwName.con n) (conT_cons (impl_hwRuleOk.con n) conT_none))) Try.func21 (by decide) (by kernel_rfl) (by kernel_rfl) (by decide) (LoopDef.cons (d4 n) LoopDef.nil) (fun x => by kernel_rfl)
end impl_HallHouseOk
namespace slices_Clone_impl_GateTeam_impl_GateTeam
def f (n : Nat) (x : Tup [(.slice tGateTeam)]) : Option (Tup [(.slice tGateTeam)]) :=
  if (appBound (List.length ([] : List (Ty.den tGateTeam))) (List.length x.1) 32) = true then
    some ((([] : List (Ty.den tGateTeam)) ++ x.1), ())
  else
    none
@[reducible] def sig (n : Nat) : Sig := ⟨[(.slice tGateTeam)], [(.slice tGateTeam)], true, f n, none⟩
def T (n : Nat) : FuncId → Option Sig := fun g => none
def TL (n : Nat) : Loops := fun j _ st k => none
theorem con (n : Nat) : Con Try.prog 48 (sig n) :=
  con_printN (T := T n) (TL := TL n) (c := Try.f48.body.getD .skip) hMixed conT_none Try.func48 (by decide) (by kernel_rfl) (by kernel_rfl) (fun b => by cases b <;> kernel_rfl) (fun a r => by kernel_rfl)
end slices_Clone_impl_GateTeam_impl_GateTeam
namespace slices_Clone_impl_GateGrant_impl_GateGrant
def f (n : Nat) (x : Ty.den (.slice tGateGrant)) (q : Tup []) : Option (Ty.den (.slice tGateGrant) × Tup []) :=
  if (appBound (List.length ([] : List (Ty.den tGateGrant))) (List.length x) 112) = true then
    some ((([] : List (Ty.den tGateGrant)) ++ x), ())
  else
    none
@[reducible] def sig (n : Nat) : Sig := ⟨[], [], false, fun _ => none, some ⟨.unit, [], [], fun _ _ => none, some ⟨false, some tGateGrant, (.slice tGateGrant), [], (.slice tGateGrant), [], f n⟩⟩⟩
def T (n : Nat) : FuncId → Option Sig := fun g => none
def TL (n : Nat) : Loops := fun j _ st k => none
theorem con (n : Nat) : Con Try.prog 76 (sig n) :=
  con_printK (T := T n) (TL := TL n) (c := Try.f76.body.getD .skip) hMixed conT_none Try.func76 (by decide) (by kernel_rfl) (by kernel_rfl) (fun b => by cases b <;> kernel_rfl) (fun a r => by kernel_rfl)
end slices_Clone_impl_GateGrant_impl_GateGrant
namespace slices_Clone_int_int
def f (n : Nat) (x : Tup [(.slice (.int .i64))]) : Option (Tup [(.slice (.int .i64))]) :=
  if (appBound (List.length ([] : List (Ty.den (.int .i64)))) (List.length x.1) 8) = true then
    some ((([] : List (Ty.den (.int .i64))) ++ x.1), ())
  else
    none
@[reducible] def sig (n : Nat) : Sig := ⟨[(.slice (.int .i64))], [(.slice (.int .i64))], true, f n, none⟩
def T (n : Nat) : FuncId → Option Sig := fun g => none
def TL (n : Nat) : Loops := fun j _ st k => none
theorem con (n : Nat) : Con Try.prog 77 (sig n) :=
  con_printN (T := T n) (TL := TL n) (c := Try.f77.body.getD .skip) hMixed conT_none Try.func77 (by decide) (by kernel_rfl) (by kernel_rfl) (fun b => by cases b <;> kernel_rfl) (fun a r => by kernel_rfl)
end slices_Clone_int_int
namespace impl_hwGrants
@[reducible] def l3 : LSpec := ⟨[(3, .pre tGateGrant), (8, .d (.int .i64)), (9, .d (.int .i64))], [(.exit 0, [(3, .pre tGateGrant)])]⟩
def B3 (n : Nat) {R : Type} (next : Sden l3.inS → Option R) (cs : Conts R l3.outs) (x : Sden l3.inS) : Option R :=
  if (decide (x.2.2.1 < x.2.1)) = true then
    if (decide (0 ≤ x.2.2.1 ∧ x.2.2.1 < (List.length x.1.1 : Int))) = true then
      if (Nat.ble x.1.2 (Int.toNat x.2.2.1)) = true then
        (slices_Clone_int_int.f n ((List.getD x.1.1 (Int.toNat x.2.2.1) (Ty.zero tGateGrant)).2.2.2.1.1, ())).bind fun y2 =>
        if (decide (0 ≤ x.2.2.1 ∧ x.2.2.1 < (List.length x.1.1 : Int))) = true then
          if (Nat.beq (Int.toNat x.2.2.1) x.1.2) = true then
            next (((List.set x.1.1 (Int.toNat x.2.2.1) ((List.getD x.1.1 (Int.toNat x.2.2.1) (Ty.zero tGateGrant)).1, (List.getD x.1.1 (Int.toNat x.2.2.1) (Ty.zero tGateGrant)).2.1, (List.getD x.1.1 (Int.toNat x.2.2.1) (Ty.zero tGateGrant)).2.2.1, (y2.1, (List.getD x.1.1 (Int.toNat x.2.2.1) (Ty.zero tGateGrant)).2.2.2.1.2), (List.getD x.1.1 (Int.toNat x.2.2.1) (Ty.zero tGateGrant)).2.2.2.2)), (x.1.2 + 1)), x.2.1, (IntKind.i64.wrap (x.2.2.1 + (1 : Int))), ())
          else
            none
        else
          none
      else
        none
    else
      none
  else
    cs.1 ((x.1.1, x.1.2), ())
def f (n : Nat) (x : Tup [(.slice tGateGrant)]) : Option (Tup [(.slice tGateGrant)]) :=
  (slices_Clone_impl_GateGrant_impl_GateGrant.f n x.1 ()).bind fun y1 =>
  runL (B3 n) ((fun z3 =>
      if (Nat.beq z3.1.2 (List.length z3.1.1)) = true then
        some (z3.1.1, ())
      else
        none), ()) n ((y1.1, 0), (List.length y1.1 : Int), (0 : Int), ())
@[reducible] def sig (n : Nat) : Sig := ⟨[(.slice tGateGrant)], [(.slice tGateGrant)], true, f n, none⟩
def T (n : Nat) : FuncId → Option Sig := fun g => if Nat.beq g 76 = true then some (slices_Clone_impl_GateGrant_impl_GateGrant.sig n) else if Nat.beq g 77 = true then some (slices_Clone_int_int.sig n) else none
def TL (n : Nat) : Loops := fun j _ st k => if Nat.beq j 3 = true then (match dec st l3.inS [] with | some x => runL (B3 n) (contsOf k l3.outs) n x | none => none) else none
theorem d3 (n : Nat) : LoopDef Try.prog (T n) (TL n) Try.f49 3 :=
  ⟨l3, fun R => B3 n, n, fun R st k => by kernel_rfl, fun R next cs x => by kernel_rfl⟩
theorem con (n : Nat) : Con Try.prog 49 (sig n) :=
  con_print (hsw := rfl) (T := T n) (TL := TL n) (c := Try.f49.body.getD .skip) (js := [3]) hMixed (conT_cons (slices_Clone_impl_GateGrant_impl_GateGrant.con n) (conT_cons (slices_Clone_int_int.con n) conT_none)) Try.func49 (by decide) (by kernel_rfl) (by kernel_rfl) (by decide) (LoopDef.cons (d3 n) LoopDef.nil) (fun x => by kernel_rfl)
end impl_hwGrants
namespace impl_hwCopyHouse
def f (n : Nat) (x : Tup [tHallHouse]) : Option (Tup [tHallHouse]) :=
  (slices_Clone_impl_GateTeam_impl_GateTeam.f n (x.1.1, ())).bind fun y1 =>
  (impl_hwGrants.f n (x.1.2.1, ())).bind fun y2 =>
  some ((y1.1, y2.1, ()), ())
@[reducible] def sig (n : Nat) : Sig := ⟨[tHallHouse], [tHallHouse], true, f n, none⟩
def T (n : Nat) : FuncId → Option Sig := fun g => if Nat.beq g 48 = true then some (slices_Clone_impl_GateTeam_impl_GateTeam.sig n) else if Nat.beq g 49 = true then some (impl_hwGrants.sig n) else none
def TL (n : Nat) : Loops := fun j _ st k => none
theorem con (n : Nat) : Con Try.prog 22 (sig n) :=
  con_print (hsw := rfl) (T := T n) (TL := TL n) (c := Try.f22.body.getD .skip) (js := []) hMixed (conT_cons (slices_Clone_impl_GateTeam_impl_GateTeam.con n) (conT_cons (impl_hwGrants.con n) conT_none)) Try.func22 (by decide) (by kernel_rfl) (by kernel_rfl) (by decide) LoopDef.nil (fun x => by kernel_rfl)
end impl_hwCopyHouse
namespace impl_within_rec
def f (n : Nat) (x : Tup [(.int .i64), (.int .i64), (.int .i64)]) : Option (Tup [.bool]) :=
  some (((decide (x.1 ≥ x.2.1)) && (decide (x.1 ≤ x.2.2.1))), ())
@[reducible] def sig (n : Nat) : Sig := ⟨[(.int .i64), (.int .i64), (.int .i64)], [.bool], false, f n, none⟩
def T (n : Nat) : FuncId → Option Sig := fun g => none
def TL (n : Nat) : Loops := fun j _ st k => none
theorem con (n : Nat) : Con Try.prog 50 (sig n) :=
  con_print (hsw := rfl) (T := T n) (TL := TL n) (c := Try.f50.body.getD .skip) (js := []) hMixed conT_none Try.func50 (by decide) (by kernel_rfl) (by kernel_rfl) (by decide) LoopDef.nil (fun x => by kernel_rfl)
end impl_within_rec
namespace impl_RecNew
def f (n : Nat) (x : Tup [(.int .i64), (.int .i64)]) : Option (Tup [tRecorder]) :=
  (impl_within_rec.f n (x.2.1, (1 : Int), (5 : Int), ())).bind fun y1 =>
  (if (!(!y1.1)) = true then (impl_within_rec.f n (x.1, (1 : Int), x.2.1, ())) else some (tzero [.bool])).bind fun y2 =>
  if ((!y1.1) || (!y2.1)) = true then
    some (((0 : Int), (0 : Int), false, ((0 : Int), (0 : Int), [], ()), ((0 : Int), (0 : Int), [], ()), [], [], false, false, (0 : Int), [], [], [], (0 : Int), ()), ())
  else
    some ((x.1, x.2.1, true, ((0 : Int), (0 : Int), [], ()), ((0 : Int), (0 : Int), [], ()), [], [], false, false, (0 : Int), [], [], [], (0 : Int), ()), ())
@[reducible] def sig (n : Nat) : Sig := ⟨[(.int .i64), (.int .i64)], [tRecorder], true, f n, none⟩
def T (n : Nat) : FuncId → Option Sig := fun g => if Nat.beq g 50 = true then some (impl_within_rec.sig n) else none
def TL (n : Nat) : Loops := fun j _ st k => none
theorem con (n : Nat) : Con Try.prog 51 (sig n) :=
  con_print (hsw := rfl) (T := T n) (TL := TL n) (c := Try.f51.body.getD .skip) (js := []) hMixed (conT_cons (impl_within_rec.con n) conT_none) Try.func51 (by decide) (by kernel_rfl) (by kernel_rfl) (by decide) LoopDef.nil (fun x => by kernel_rfl)
end impl_RecNew
namespace impl_RecNewWorld
@[reducible] def l4 : LSpec := ⟨[(0, .d (.int .i64)), (2, .box [.row true tRecorder, .row true tRecMessage, .row true tRecSlot]), (3, .box [.row true tRecorder, .row true tRecMessage, .row true tRecSlot]), (4, .d (.int .i64))], [(.exit 0, [(2, .box [.row true tRecorder, .row true tRecMessage, .row true tRecSlot]), (3, .box [.row true tRecorder, .row true tRecMessage, .row true tRecSlot])])]⟩
def B4 (n : Nat) {R : Type} (next : Sden l4.inS → Option R) (cs : Conts R l4.outs) (x : Sden l4.inS) : Option R :=
  if (decide (x.2.2.2.1 ≤ x.1)) = true then
    (impl_RecNew.f n (x.2.2.2.1, x.1, ())).bind fun y2 =>
    if (appBound (List.length x.2.2.1.1) (List.length [y2.1]) 248) = true then
      next (x.1, (x.2.1.1, x.2.1.2.1, x.2.1.2.2.1, ()), ((x.2.2.1.1 ++ [y2.1]), x.2.2.1.2.1, x.2.2.1.2.2.1, ()), (IntKind.i64.wrap (x.2.2.2.1 + (1 : Int))), ())
    else
      none
  else
    cs.1 ((x.2.1.1, x.2.1.2.1, x.2.1.2.2.1, ()), (x.2.2.1.1, x.2.2.1.2.1, x.2.2.1.2.2.1, ()), ())
def f (n : Nat) (x : Tup [(.int .i64)]) : Option (Tup [tRecWorld]) :=
  (impl_within_rec.f n (x.1, (1 : Int), (5 : Int), ())).bind fun y1 =>
  if y1.1 = true then
    runL (B4 n) ((fun z3 =>
        some ((z3.2.1.1, z3.2.1.2.1, z3.2.1.2.2.1, ()), ())), ()) n (x.1, ([], [], [], ()), ([], [], [], ()), (1 : Int), ())
  else
    some (([], [], [], ()), ())
@[reducible] def sig (n : Nat) : Sig := ⟨[(.int .i64)], [tRecWorld], true, f n, none⟩
def T (n : Nat) : FuncId → Option Sig := fun g => if Nat.beq g 50 = true then some (impl_within_rec.sig n) else if Nat.beq g 51 = true then some (impl_RecNew.sig n) else none
def TL (n : Nat) : Loops := fun j _ st k => if Nat.beq j 4 = true then (match dec st l4.inS [] with | some x => runL (B4 n) (contsOf k l4.outs) n x | none => none) else none
theorem d4 (n : Nat) : LoopDef Try.prog (T n) (TL n) Try.f23 4 :=
  ⟨l4, fun R => B4 n, n, fun R st k => by kernel_rfl, fun R next cs x => by kernel_rfl⟩
theorem con (n : Nat) : Con Try.prog 23 (sig n) :=
  con_print (hsw := rfl) (T := T n) (TL := TL n) (c := Try.f23.body.getD .skip) (js := [4]) hMixed (conT_cons (impl_within_rec.con n) (conT_cons (impl_RecNew.con n) conT_none)) Try.func23 (by decide) (by kernel_rfl) (by kernel_rfl) (by decide) (LoopDef.cons (d4 n) LoopDef.nil) (fun x => by kernel_rfl)
end impl_RecNewWorld
namespace impl_HallNew
def f (n : Nat) (x : Tup [tHallHouse, (.int .i64)]) : Option (Tup [tHallWorld]) :=
  (impl_HallHouseOk.f n (x.1, ())).bind fun y1 =>
  if (((!y1.1) || (decide (x.2.1 < (1 : Int)))) || (decide (x.2.1 > (5 : Int)))) = true then
    some ((([], [], ()), ([], [], [], ()), (0 : Int), [], ()), ())
  else
    (impl_hwCopyHouse.f n (x.1, ())).bind fun y2 =>
    (impl_RecNewWorld.f n (x.2.1, ())).bind fun y3 =>
    some ((y2.1, y3.1, (0 : Int), [], ()), ())
@[reducible] def sig (n : Nat) : Sig := ⟨[tHallHouse, (.int .i64)], [tHallWorld], true, f n, none⟩
def T (n : Nat) : FuncId → Option Sig := fun g => if Nat.beq g 21 = true then some (impl_HallHouseOk.sig n) else if Nat.beq g 22 = true then some (impl_hwCopyHouse.sig n) else if Nat.beq g 23 = true then some (impl_RecNewWorld.sig n) else none
def TL (n : Nat) : Loops := fun j _ st k => none
theorem con (n : Nat) : Con Try.prog 7 (sig n) :=
  con_print (hsw := rfl) (T := T n) (TL := TL n) (c := Try.f7.body.getD .skip) (js := []) hMixed (conT_cons (impl_HallHouseOk.con n) (conT_cons (impl_hwCopyHouse.con n) (conT_cons (impl_RecNewWorld.con n) conT_none))) Try.func7 (by decide) (by kernel_rfl) (by kernel_rfl) (by decide) LoopDef.nil (fun x => by kernel_rfl)
end impl_HallNew
namespace laws_eqGateTeam
def f (n : Nat) (x : Tup [tGateTeam, tGateTeam]) : Option (Tup [.bool]) :=
  if (!seq x.1.1 x.2.1.1) = true then
    some (false, ())
  else if (!seq x.1.2.1 x.2.1.2.1) = true then
    some (false, ())
  else
    some (true, ())
@[reducible] def sig (n : Nat) : Sig := ⟨[tGateTeam, tGateTeam], [.bool], false, f n, none⟩
def T (n : Nat) : FuncId → Option Sig := fun g => none
def TL (n : Nat) : Loops := fun j _ st k => none
theorem con (n : Nat) : Con Try.prog 56 (sig n) :=
  con_print (hsw := rfl) (T := T n) (TL := TL n) (c := Try.f56.body.getD .skip) (js := []) hMixed conT_none Try.func56 (by decide) (by kernel_rfl) (by kernel_rfl) (by decide) LoopDef.nil (fun x => by kernel_rfl)
end laws_eqGateTeam
namespace laws_eqGateTeamS
@[reducible] def l4 : LSpec := ⟨[(0, .d (.slice tGateTeam)), (1, .d (.slice tGateTeam)), (5, .d (.int .i64))], [(.ret, [(4, .d .bool)]), (.exit 0, [])]⟩
def B4 (n : Nat) {R : Type} (next : Sden l4.inS → Option R) (cs : Conts R l4.outs) (x : Sden l4.inS) : Option R :=
  if (decide (x.2.2.1 < (List.length x.1 : Int))) = true then
    if (!true || (decide (0 ≤ x.2.2.1 ∧ x.2.2.1 < (List.length x.1 : Int)))) = true then
      if (!true || (decide (0 ≤ x.2.2.1 ∧ x.2.2.1 < (List.length x.2.1 : Int)))) = true then
        (laws_eqGateTeam.f n ((List.getD x.1 (Int.toNat x.2.2.1) (Ty.zero tGateTeam)), (List.getD x.2.1 (Int.toNat x.2.2.1) (Ty.zero tGateTeam)), ())).bind fun y1 =>
        if (!y1.1) = true then
          cs.1 (false, ())
        else
          next (x.1, x.2.1, (IntKind.i64.wrap (x.2.2.1 + (1 : Int))), ())
      else
        none
    else
      none
  else
    cs.2.1 ()
def f (n : Nat) (x : Tup [(.slice tGateTeam), (.slice tGateTeam)]) : Option (Tup [.bool]) :=
  if ((List.length x.1 : Int) != (List.length x.2.1 : Int)) = true then
    some (false, ())
  else
    runL (B4 n) ((fun z2 =>
        some (z2.1, ())), (fun z3 =>
        some (true, ())), ()) n (x.1, x.2.1, (0 : Int), ())
@[reducible] def sig (n : Nat) : Sig := ⟨[(.slice tGateTeam), (.slice tGateTeam)], [.bool], false, f n, none⟩
def T (n : Nat) : FuncId → Option Sig := fun g => if Nat.beq g 56 = true then some (laws_eqGateTeam.sig n) else none
def TL (n : Nat) : Loops := fun j _ st k => if Nat.beq j 4 = true then (match dec st l4.inS [] with | some x => runL (B4 n) (contsOf k l4.outs) n x | none => none) else none
theorem d4 (n : Nat) : LoopDef Try.prog (T n) (TL n) Try.f26 4 :=
  ⟨l4, fun R => B4 n, n, fun R st k => by kernel_rfl, fun R next cs x => by kernel_rfl⟩
theorem con (n : Nat) : Con Try.prog 26 (sig n) :=
  con_print (hsw := rfl) (T := T n) (TL := TL n) (c := Try.f26.body.getD .skip) (js := [4]) hMixed (conT_cons (laws_eqGateTeam.con n) conT_none) Try.func26 (by decide) (by kernel_rfl) (by kernel_rfl) (by decide) (LoopDef.cons (d4 n) LoopDef.nil) (fun x => by kernel_rfl)
end laws_eqGateTeamS
namespace laws_eqIntS
@[reducible] def l4 : LSpec := ⟨[(0, .d (.slice (.int .i64))), (1, .d (.slice (.int .i64))), (5, .d (.int .i64))], [(.ret, [(4, .d .bool)]), (.exit 0, [])]⟩
def B4 (n : Nat) {R : Type} (next : Sden l4.inS → Option R) (cs : Conts R l4.outs) (x : Sden l4.inS) : Option R :=
  if (decide (x.2.2.1 < (List.length x.1 : Int))) = true then
    if (!true || (decide (0 ≤ x.2.2.1 ∧ x.2.2.1 < (List.length x.1 : Int)))) = true then
      if (!true || (decide (0 ≤ x.2.2.1 ∧ x.2.2.1 < (List.length x.2.1 : Int)))) = true then
        if ((List.getD x.1 (Int.toNat x.2.2.1) (0 : Int)) != (List.getD x.2.1 (Int.toNat x.2.2.1) (0 : Int))) = true then
          cs.1 (false, ())
        else
          next (x.1, x.2.1, (IntKind.i64.wrap (x.2.2.1 + (1 : Int))), ())
      else
        none
    else
      none
  else
    cs.2.1 ()
def f (n : Nat) (x : Tup [(.slice (.int .i64)), (.slice (.int .i64))]) : Option (Tup [.bool]) :=
  if ((List.length x.1 : Int) != (List.length x.2.1 : Int)) = true then
    some (false, ())
  else
    runL (B4 n) ((fun z1 =>
        some (z1.1, ())), (fun z2 =>
        some (true, ())), ()) n (x.1, x.2.1, (0 : Int), ())
@[reducible] def sig (n : Nat) : Sig := ⟨[(.slice (.int .i64)), (.slice (.int .i64))], [.bool], false, f n, none⟩
def T (n : Nat) : FuncId → Option Sig := fun g => none
def TL (n : Nat) : Loops := fun j _ st k => if Nat.beq j 4 = true then (match dec st l4.inS [] with | some x => runL (B4 n) (contsOf k l4.outs) n x | none => none) else none
theorem d4 (n : Nat) : LoopDef Try.prog (T n) (TL n) Try.f95 4 :=
  ⟨l4, fun R => B4 n, n, fun R st k => by kernel_rfl, fun R next cs x => by kernel_rfl⟩
theorem con (n : Nat) : Con Try.prog 95 (sig n) :=
  con_print (hsw := rfl) (T := T n) (TL := TL n) (c := Try.f95.body.getD .skip) (js := [4]) hMixed conT_none Try.func95 (by decide) (by kernel_rfl) (by kernel_rfl) (by decide) (LoopDef.cons (d4 n) LoopDef.nil) (fun x => by kernel_rfl)
end laws_eqIntS
namespace laws_eqGateRule
def f (n : Nat) (x : Tup [tGateRule, tGateRule]) : Option (Tup [.bool]) :=
  (laws_eqIntS.f n (x.1.1, x.2.1.1, ())).bind fun y1 =>
  if (!y1.1) = true then
    some (false, ())
  else if (!seq x.1.2.1 x.2.1.2.1) = true then
    some (false, ())
  else if (!seq x.1.2.2.1 x.2.1.2.2.1) = true then
    some (false, ())
  else if (!seq x.1.2.2.2.1 x.2.1.2.2.2.1) = true then
    some (false, ())
  else
    some (true, ())
@[reducible] def sig (n : Nat) : Sig := ⟨[tGateRule, tGateRule], [.bool], false, f n, none⟩
def T (n : Nat) : FuncId → Option Sig := fun g => if Nat.beq g 95 = true then some (laws_eqIntS.sig n) else none
def TL (n : Nat) : Loops := fun j _ st k => none
theorem con (n : Nat) : Con Try.prog 82 (sig n) :=
  con_print (hsw := rfl) (T := T n) (TL := TL n) (c := Try.f82.body.getD .skip) (js := []) hMixed (conT_cons (laws_eqIntS.con n) conT_none) Try.func82 (by decide) (by kernel_rfl) (by kernel_rfl) (by decide) LoopDef.nil (fun x => by kernel_rfl)
end laws_eqGateRule
namespace laws_eqGateGrant
def f (n : Nat) (x : Tup [tGateGrant, tGateGrant]) : Option (Tup [.bool]) :=
  if (x.1.1 != x.2.1.1) = true then
    some (false, ())
  else if (!seq x.1.2.1 x.2.1.2.1) = true then
    some (false, ())
  else if (!seq x.1.2.2.1 x.2.1.2.2.1) = true then
    some (false, ())
  else
    (laws_eqGateRule.f n (x.1.2.2.2.1, x.2.1.2.2.2.1, ())).bind fun y1 =>
    if (!y1.1) = true then
      some (false, ())
    else
      some (true, ())
@[reducible] def sig (n : Nat) : Sig := ⟨[tGateGrant, tGateGrant], [.bool], false, f n, none⟩
def T (n : Nat) : FuncId → Option Sig := fun g => if Nat.beq g 82 = true then some (laws_eqGateRule.sig n) else none
def TL (n : Nat) : Loops := fun j _ st k => none
theorem con (n : Nat) : Con Try.prog 57 (sig n) :=
  con_print (hsw := rfl) (T := T n) (TL := TL n) (c := Try.f57.body.getD .skip) (js := []) hMixed (conT_cons (laws_eqGateRule.con n) conT_none) Try.func57 (by decide) (by kernel_rfl) (by kernel_rfl) (by decide) LoopDef.nil (fun x => by kernel_rfl)
end laws_eqGateGrant
namespace laws_eqGateGrantS
@[reducible] def l4 : LSpec := ⟨[(0, .d (.slice tGateGrant)), (1, .d (.slice tGateGrant)), (5, .d (.int .i64))], [(.ret, [(4, .d .bool)]), (.exit 0, [])]⟩
def B4 (n : Nat) {R : Type} (next : Sden l4.inS → Option R) (cs : Conts R l4.outs) (x : Sden l4.inS) : Option R :=
  if (decide (x.2.2.1 < (List.length x.1 : Int))) = true then
    if (!true || (decide (0 ≤ x.2.2.1 ∧ x.2.2.1 < (List.length x.1 : Int)))) = true then
      if (!true || (decide (0 ≤ x.2.2.1 ∧ x.2.2.1 < (List.length x.2.1 : Int)))) = true then
        (laws_eqGateGrant.f n ((List.getD x.1 (Int.toNat x.2.2.1) (Ty.zero tGateGrant)), (List.getD x.2.1 (Int.toNat x.2.2.1) (Ty.zero tGateGrant)), ())).bind fun y1 =>
        if (!y1.1) = true then
          cs.1 (false, ())
        else
          next (x.1, x.2.1, (IntKind.i64.wrap (x.2.2.1 + (1 : Int))), ())
      else
        none
    else
      none
  else
    cs.2.1 ()
def f (n : Nat) (x : Tup [(.slice tGateGrant), (.slice tGateGrant)]) : Option (Tup [.bool]) :=
  if ((List.length x.1 : Int) != (List.length x.2.1 : Int)) = true then
    some (false, ())
  else
    runL (B4 n) ((fun z2 =>
        some (z2.1, ())), (fun z3 =>
        some (true, ())), ()) n (x.1, x.2.1, (0 : Int), ())
@[reducible] def sig (n : Nat) : Sig := ⟨[(.slice tGateGrant), (.slice tGateGrant)], [.bool], false, f n, none⟩
def T (n : Nat) : FuncId → Option Sig := fun g => if Nat.beq g 57 = true then some (laws_eqGateGrant.sig n) else none
def TL (n : Nat) : Loops := fun j _ st k => if Nat.beq j 4 = true then (match dec st l4.inS [] with | some x => runL (B4 n) (contsOf k l4.outs) n x | none => none) else none
theorem d4 (n : Nat) : LoopDef Try.prog (T n) (TL n) Try.f27 4 :=
  ⟨l4, fun R => B4 n, n, fun R st k => by kernel_rfl, fun R next cs x => by kernel_rfl⟩
theorem con (n : Nat) : Con Try.prog 27 (sig n) :=
  con_print (hsw := rfl) (T := T n) (TL := TL n) (c := Try.f27.body.getD .skip) (js := [4]) hMixed (conT_cons (laws_eqGateGrant.con n) conT_none) Try.func27 (by decide) (by kernel_rfl) (by kernel_rfl) (by decide) (LoopDef.cons (d4 n) LoopDef.nil) (fun x => by kernel_rfl)
end laws_eqGateGrantS
namespace laws_eqHallHouse
def f (n : Nat) (x : Tup [tHallHouse, tHallHouse]) : Option (Tup [.bool]) :=
  (laws_eqGateTeamS.f n (x.1.1, x.2.1.1, ())).bind fun y1 =>
  if (!y1.1) = true then
    some (false, ())
  else
    (laws_eqGateGrantS.f n (x.1.2.1, x.2.1.2.1, ())).bind fun y2 =>
    if (!y2.1) = true then
      some (false, ())
    else
      some (true, ())
@[reducible] def sig (n : Nat) : Sig := ⟨[tHallHouse, tHallHouse], [.bool], false, f n, none⟩
def T (n : Nat) : FuncId → Option Sig := fun g => if Nat.beq g 26 = true then some (laws_eqGateTeamS.sig n) else if Nat.beq g 27 = true then some (laws_eqGateGrantS.sig n) else none
def TL (n : Nat) : Loops := fun j _ st k => none
theorem con (n : Nat) : Con Try.prog 9 (sig n) :=
  con_print (hsw := rfl) (T := T n) (TL := TL n) (c := Try.f9.body.getD .skip) (js := []) hMixed (conT_cons (laws_eqGateTeamS.con n) (conT_cons (laws_eqGateGrantS.con n) conT_none)) Try.func9 (by decide) (by kernel_rfl) (by kernel_rfl) (by decide) LoopDef.nil (fun x => by kernel_rfl)
end laws_eqHallHouse
namespace laws_eqRecSlot
def f (n : Nat) (x : Tup [tRecSlot, tRecSlot]) : Option (Tup [.bool]) :=
  if (x.1.1 != x.2.1.1) = true then
    some (false, ())
  else if (!seq x.1.2.1 x.2.1.2.1) = true then
    some (false, ())
  else
    some (true, ())
@[reducible] def sig (n : Nat) : Sig := ⟨[tRecSlot, tRecSlot], [.bool], false, f n, none⟩
def T (n : Nat) : FuncId → Option Sig := fun g => none
def TL (n : Nat) : Loops := fun j _ st k => none
theorem con (n : Nat) : Con Try.prog 99 (sig n) :=
  con_print (hsw := rfl) (T := T n) (TL := TL n) (c := Try.f99.body.getD .skip) (js := []) hMixed conT_none Try.func99 (by decide) (by kernel_rfl) (by kernel_rfl) (by decide) LoopDef.nil (fun x => by kernel_rfl)
end laws_eqRecSlot
namespace laws_eqRecSlotS
@[reducible] def l4 : LSpec := ⟨[(0, .d (.slice tRecSlot)), (1, .d (.slice tRecSlot)), (5, .d (.int .i64))], [(.ret, [(4, .d .bool)]), (.exit 0, [])]⟩
def B4 (n : Nat) {R : Type} (next : Sden l4.inS → Option R) (cs : Conts R l4.outs) (x : Sden l4.inS) : Option R :=
  if (decide (x.2.2.1 < (List.length x.1 : Int))) = true then
    if (!true || (decide (0 ≤ x.2.2.1 ∧ x.2.2.1 < (List.length x.1 : Int)))) = true then
      if (!true || (decide (0 ≤ x.2.2.1 ∧ x.2.2.1 < (List.length x.2.1 : Int)))) = true then
        (laws_eqRecSlot.f n ((List.getD x.1 (Int.toNat x.2.2.1) (Ty.zero tRecSlot)), (List.getD x.2.1 (Int.toNat x.2.2.1) (Ty.zero tRecSlot)), ())).bind fun y1 =>
        if (!y1.1) = true then
          cs.1 (false, ())
        else
          next (x.1, x.2.1, (IntKind.i64.wrap (x.2.2.1 + (1 : Int))), ())
      else
        none
    else
      none
  else
    cs.2.1 ()
def f (n : Nat) (x : Tup [(.slice tRecSlot), (.slice tRecSlot)]) : Option (Tup [.bool]) :=
  if ((List.length x.1 : Int) != (List.length x.2.1 : Int)) = true then
    some (false, ())
  else
    runL (B4 n) ((fun z2 =>
        some (z2.1, ())), (fun z3 =>
        some (true, ())), ()) n (x.1, x.2.1, (0 : Int), ())
@[reducible] def sig (n : Nat) : Sig := ⟨[(.slice tRecSlot), (.slice tRecSlot)], [.bool], false, f n, none⟩
def T (n : Nat) : FuncId → Option Sig := fun g => if Nat.beq g 99 = true then some (laws_eqRecSlot.sig n) else none
def TL (n : Nat) : Loops := fun j _ st k => if Nat.beq j 4 = true then (match dec st l4.inS [] with | some x => runL (B4 n) (contsOf k l4.outs) n x | none => none) else none
theorem d4 (n : Nat) : LoopDef Try.prog (T n) (TL n) Try.f96 4 :=
  ⟨l4, fun R => B4 n, n, fun R st k => by kernel_rfl, fun R next cs x => by kernel_rfl⟩
theorem con (n : Nat) : Con Try.prog 96 (sig n) :=
  con_print (hsw := rfl) (T := T n) (TL := TL n) (c := Try.f96.body.getD .skip) (js := [4]) hMixed (conT_cons (laws_eqRecSlot.con n) conT_none) Try.func96 (by decide) (by kernel_rfl) (by kernel_rfl) (by decide) (LoopDef.cons (d4 n) LoopDef.nil) (fun x => by kernel_rfl)
end laws_eqRecSlotS
namespace laws_eqRecDisk
def f (n : Nat) (x : Tup [tRecDisk, tRecDisk]) : Option (Tup [.bool]) :=
  if (x.1.1 != x.2.1.1) = true then
    some (false, ())
  else if (x.1.2.1 != x.2.1.2.1) = true then
    some (false, ())
  else
    (laws_eqRecSlotS.f n (x.1.2.2.1, x.2.1.2.2.1, ())).bind fun y1 =>
    if (!y1.1) = true then
      some (false, ())
    else
      some (true, ())
@[reducible] def sig (n : Nat) : Sig := ⟨[tRecDisk, tRecDisk], [.bool], false, f n, none⟩
def T (n : Nat) : FuncId → Option Sig := fun g => if Nat.beq g 96 = true then some (laws_eqRecSlotS.sig n) else none
def TL (n : Nat) : Loops := fun j _ st k => none
theorem con (n : Nat) : Con Try.prog 93 (sig n) :=
  con_print (hsw := rfl) (T := T n) (TL := TL n) (c := Try.f93.body.getD .skip) (js := []) hMixed (conT_cons (laws_eqRecSlotS.con n) conT_none) Try.func93 (by decide) (by kernel_rfl) (by kernel_rfl) (by decide) LoopDef.nil (fun x => by kernel_rfl)
end laws_eqRecDisk
namespace laws_eqRecMessage
def f (n : Nat) (x : Tup [tRecMessage, tRecMessage]) : Option (Tup [.bool]) :=
  if (x.1.1 != x.2.1.1) = true then
    some (false, ())
  else if (x.1.2.1 != x.2.1.2.1) = true then
    some (false, ())
  else if (x.1.2.2.1 != x.2.1.2.2.1) = true then
    some (false, ())
  else if (x.1.2.2.2.1 != x.2.1.2.2.2.1) = true then
    some (false, ())
  else if (x.1.2.2.2.2.1 != x.2.1.2.2.2.2.1) = true then
    some (false, ())
  else if (x.1.2.2.2.2.2.1 != x.2.1.2.2.2.2.2.1) = true then
    some (false, ())
  else if (!seq x.1.2.2.2.2.2.2.1 x.2.1.2.2.2.2.2.2.1) = true then
    some (false, ())
  else
    (laws_eqRecSlotS.f n (x.1.2.2.2.2.2.2.2.1, x.2.1.2.2.2.2.2.2.2.1, ())).bind fun y1 =>
    if (!y1.1) = true then
      some (false, ())
    else
      some (true, ())
@[reducible] def sig (n : Nat) : Sig := ⟨[tRecMessage, tRecMessage], [.bool], false, f n, none⟩
def T (n : Nat) : FuncId → Option Sig := fun g => if Nat.beq g 96 = true then some (laws_eqRecSlotS.sig n) else none
def TL (n : Nat) : Loops := fun j _ st k => none
theorem con (n : Nat) : Con Try.prog 79 (sig n) :=
  con_print (hsw := rfl) (T := T n) (TL := TL n) (c := Try.f79.body.getD .skip) (js := []) hMixed (conT_cons (laws_eqRecSlotS.con n) conT_none) Try.func79 (by decide) (by kernel_rfl) (by kernel_rfl) (by decide) LoopDef.nil (fun x => by kernel_rfl)
end laws_eqRecMessage
namespace laws_eqRecMessageS
@[reducible] def l4 : LSpec := ⟨[(0, .d (.slice tRecMessage)), (1, .d (.slice tRecMessage)), (5, .d (.int .i64))], [(.ret, [(4, .d .bool)]), (.exit 0, [])]⟩
def B4 (n : Nat) {R : Type} (next : Sden l4.inS → Option R) (cs : Conts R l4.outs) (x : Sden l4.inS) : Option R :=
  if (decide (x.2.2.1 < (List.length x.1 : Int))) = true then
    if (!true || (decide (0 ≤ x.2.2.1 ∧ x.2.2.1 < (List.length x.1 : Int)))) = true then
      if (!true || (decide (0 ≤ x.2.2.1 ∧ x.2.2.1 < (List.length x.2.1 : Int)))) = true then
        (laws_eqRecMessage.f n ((List.getD x.1 (Int.toNat x.2.2.1) (Ty.zero tRecMessage)), (List.getD x.2.1 (Int.toNat x.2.2.1) (Ty.zero tRecMessage)), ())).bind fun y1 =>
        if (!y1.1) = true then
          cs.1 (false, ())
        else
          next (x.1, x.2.1, (IntKind.i64.wrap (x.2.2.1 + (1 : Int))), ())
      else
        none
    else
      none
  else
    cs.2.1 ()
def f (n : Nat) (x : Tup [(.slice tRecMessage), (.slice tRecMessage)]) : Option (Tup [.bool]) :=
  if ((List.length x.1 : Int) != (List.length x.2.1 : Int)) = true then
    some (false, ())
  else
    runL (B4 n) ((fun z2 =>
        some (z2.1, ())), (fun z3 =>
        some (true, ())), ()) n (x.1, x.2.1, (0 : Int), ())
@[reducible] def sig (n : Nat) : Sig := ⟨[(.slice tRecMessage), (.slice tRecMessage)], [.bool], false, f n, none⟩
def T (n : Nat) : FuncId → Option Sig := fun g => if Nat.beq g 79 = true then some (laws_eqRecMessage.sig n) else none
def TL (n : Nat) : Loops := fun j _ st k => if Nat.beq j 4 = true then (match dec st l4.inS [] with | some x => runL (B4 n) (contsOf k l4.outs) n x | none => none) else none
theorem d4 (n : Nat) : LoopDef Try.prog (T n) (TL n) Try.f53 4 :=
  ⟨l4, fun R => B4 n, n, fun R st k => by kernel_rfl, fun R next cs x => by kernel_rfl⟩
theorem con (n : Nat) : Con Try.prog 53 (sig n) :=
  con_print (hsw := rfl) (T := T n) (TL := TL n) (c := Try.f53.body.getD .skip) (js := [4]) hMixed (conT_cons (laws_eqRecMessage.con n) conT_none) Try.func53 (by decide) (by kernel_rfl) (by kernel_rfl) (by decide) (LoopDef.cons (d4 n) LoopDef.nil) (fun x => by kernel_rfl)
end laws_eqRecMessageS
namespace laws_eqStringS
@[reducible] def l4 : LSpec := ⟨[(0, .d (.slice .str)), (1, .d (.slice .str)), (5, .d (.int .i64))], [(.ret, [(4, .d .bool)]), (.exit 0, [])]⟩
def B4 (n : Nat) {R : Type} (next : Sden l4.inS → Option R) (cs : Conts R l4.outs) (x : Sden l4.inS) : Option R :=
  if (decide (x.2.2.1 < (List.length x.1 : Int))) = true then
    if (!true || (decide (0 ≤ x.2.2.1 ∧ x.2.2.1 < (List.length x.1 : Int)))) = true then
      if (!true || (decide (0 ≤ x.2.2.1 ∧ x.2.2.1 < (List.length x.2.1 : Int)))) = true then
        if (!seq (List.getD x.1 (Int.toNat x.2.2.1) (⟨#[]⟩ : ByteArray)) (List.getD x.2.1 (Int.toNat x.2.2.1) (⟨#[]⟩ : ByteArray))) = true then
          cs.1 (false, ())
        else
          next (x.1, x.2.1, (IntKind.i64.wrap (x.2.2.1 + (1 : Int))), ())
      else
        none
    else
      none
  else
    cs.2.1 ()
def f (n : Nat) (x : Tup [(.slice .str), (.slice .str)]) : Option (Tup [.bool]) :=
  if ((List.length x.1 : Int) != (List.length x.2.1 : Int)) = true then
    some (false, ())
  else
    runL (B4 n) ((fun z1 =>
        some (z1.1, ())), (fun z2 =>
        some (true, ())), ()) n (x.1, x.2.1, (0 : Int), ())
@[reducible] def sig (n : Nat) : Sig := ⟨[(.slice .str), (.slice .str)], [.bool], false, f n, none⟩
def T (n : Nat) : FuncId → Option Sig := fun g => none
def TL (n : Nat) : Loops := fun j _ st k => if Nat.beq j 4 = true then (match dec st l4.inS [] with | some x => runL (B4 n) (contsOf k l4.outs) n x | none => none) else none
theorem d4 (n : Nat) : LoopDef Try.prog (T n) (TL n) Try.f94 4 :=
  ⟨l4, fun R => B4 n, n, fun R st k => by kernel_rfl, fun R next cs x => by kernel_rfl⟩
theorem con (n : Nat) : Con Try.prog 94 (sig n) :=
  con_print (hsw := rfl) (T := T n) (TL := TL n) (c := Try.f94.body.getD .skip) (js := [4]) hMixed conT_none Try.func94 (by decide) (by kernel_rfl) (by kernel_rfl) (by decide) (LoopDef.cons (d4 n) LoopDef.nil) (fun x => by kernel_rfl)
end laws_eqStringS
namespace laws_eqRecAck
def f (n : Nat) (x : Tup [tRecAck, tRecAck]) : Option (Tup [.bool]) :=
  if (x.1.1 != x.2.1.1) = true then
    some (false, ())
  else
    (laws_eqIntS.f n (x.1.2.1, x.2.1.2.1, ())).bind fun y1 =>
    if (!y1.1) = true then
      some (false, ())
    else
      some (true, ())
@[reducible] def sig (n : Nat) : Sig := ⟨[tRecAck, tRecAck], [.bool], false, f n, none⟩
def T (n : Nat) : FuncId → Option Sig := fun g => if Nat.beq g 95 = true then some (laws_eqIntS.sig n) else none
def TL (n : Nat) : Loops := fun j _ st k => none
theorem con (n : Nat) : Con Try.prog 100 (sig n) :=
  con_print (hsw := rfl) (T := T n) (TL := TL n) (c := Try.f100.body.getD .skip) (js := []) hMixed (conT_cons (laws_eqIntS.con n) conT_none) Try.func100 (by decide) (by kernel_rfl) (by kernel_rfl) (by decide) LoopDef.nil (fun x => by kernel_rfl)
end laws_eqRecAck
namespace laws_eqRecAckS
@[reducible] def l4 : LSpec := ⟨[(0, .d (.slice tRecAck)), (1, .d (.slice tRecAck)), (5, .d (.int .i64))], [(.ret, [(4, .d .bool)]), (.exit 0, [])]⟩
def B4 (n : Nat) {R : Type} (next : Sden l4.inS → Option R) (cs : Conts R l4.outs) (x : Sden l4.inS) : Option R :=
  if (decide (x.2.2.1 < (List.length x.1 : Int))) = true then
    if (!true || (decide (0 ≤ x.2.2.1 ∧ x.2.2.1 < (List.length x.1 : Int)))) = true then
      if (!true || (decide (0 ≤ x.2.2.1 ∧ x.2.2.1 < (List.length x.2.1 : Int)))) = true then
        (laws_eqRecAck.f n ((List.getD x.1 (Int.toNat x.2.2.1) (Ty.zero tRecAck)), (List.getD x.2.1 (Int.toNat x.2.2.1) (Ty.zero tRecAck)), ())).bind fun y1 =>
        if (!y1.1) = true then
          cs.1 (false, ())
        else
          next (x.1, x.2.1, (IntKind.i64.wrap (x.2.2.1 + (1 : Int))), ())
      else
        none
    else
      none
  else
    cs.2.1 ()
def f (n : Nat) (x : Tup [(.slice tRecAck), (.slice tRecAck)]) : Option (Tup [.bool]) :=
  if ((List.length x.1 : Int) != (List.length x.2.1 : Int)) = true then
    some (false, ())
  else
    runL (B4 n) ((fun z2 =>
        some (z2.1, ())), (fun z3 =>
        some (true, ())), ()) n (x.1, x.2.1, (0 : Int), ())
@[reducible] def sig (n : Nat) : Sig := ⟨[(.slice tRecAck), (.slice tRecAck)], [.bool], false, f n, none⟩
def T (n : Nat) : FuncId → Option Sig := fun g => if Nat.beq g 100 = true then some (laws_eqRecAck.sig n) else none
def TL (n : Nat) : Loops := fun j _ st k => if Nat.beq j 4 = true then (match dec st l4.inS [] with | some x => runL (B4 n) (contsOf k l4.outs) n x | none => none) else none
theorem d4 (n : Nat) : LoopDef Try.prog (T n) (TL n) Try.f97 4 :=
  ⟨l4, fun R => B4 n, n, fun R st k => by kernel_rfl, fun R next cs x => by kernel_rfl⟩
theorem con (n : Nat) : Con Try.prog 97 (sig n) :=
  con_print (hsw := rfl) (T := T n) (TL := TL n) (c := Try.f97.body.getD .skip) (js := [4]) hMixed (conT_cons (laws_eqRecAck.con n) conT_none) Try.func97 (by decide) (by kernel_rfl) (by kernel_rfl) (by decide) (LoopDef.cons (d4 n) LoopDef.nil) (fun x => by kernel_rfl)
end laws_eqRecAckS
namespace laws_eqRecorder
def f (n : Nat) (x : Tup [tRecorder, tRecorder]) : Option (Tup [.bool]) :=
  if (x.1.1 != x.2.1.1) = true then
    some (false, ())
  else if (x.1.2.1 != x.2.1.2.1) = true then
    some (false, ())
  else if (!(x.1.2.2.1 == x.2.1.2.2.1)) = true then
    some (false, ())
  else
    (laws_eqRecDisk.f n (x.1.2.2.2.1, x.2.1.2.2.2.1, ())).bind fun y1 =>
    if (!y1.1) = true then
      some (false, ())
    else
      (laws_eqRecDisk.f n (x.1.2.2.2.2.1, x.2.1.2.2.2.2.1, ())).bind fun y2 =>
      if (!y2.1) = true then
        some (false, ())
      else
        (laws_eqRecMessageS.f n (x.1.2.2.2.2.2.1, x.2.1.2.2.2.2.2.1, ())).bind fun y3 =>
        if (!y3.1) = true then
          some (false, ())
        else
          (laws_eqStringS.f n (x.1.2.2.2.2.2.2.1, x.2.1.2.2.2.2.2.2.1, ())).bind fun y4 =>
          if (!y4.1) = true then
            some (false, ())
          else if (!(x.1.2.2.2.2.2.2.2.1 == x.2.1.2.2.2.2.2.2.2.1)) = true then
            some (false, ())
          else if (!(x.1.2.2.2.2.2.2.2.2.1 == x.2.1.2.2.2.2.2.2.2.2.1)) = true then
            some (false, ())
          else if (x.1.2.2.2.2.2.2.2.2.2.1 != x.2.1.2.2.2.2.2.2.2.2.2.1) = true then
            some (false, ())
          else
            (laws_eqIntS.f n (x.1.2.2.2.2.2.2.2.2.2.2.1, x.2.1.2.2.2.2.2.2.2.2.2.2.1, ())).bind fun y5 =>
            if (!y5.1) = true then
              some (false, ())
            else
              (laws_eqRecSlotS.f n (x.1.2.2.2.2.2.2.2.2.2.2.2.1, x.2.1.2.2.2.2.2.2.2.2.2.2.2.1, ())).bind fun y6 =>
              if (!y6.1) = true then
                some (false, ())
              else
                (laws_eqRecAckS.f n (x.1.2.2.2.2.2.2.2.2.2.2.2.2.1, x.2.1.2.2.2.2.2.2.2.2.2.2.2.2.1, ())).bind fun y7 =>
                if (!y7.1) = true then
                  some (false, ())
                else if (x.1.2.2.2.2.2.2.2.2.2.2.2.2.2.1 != x.2.1.2.2.2.2.2.2.2.2.2.2.2.2.2.1) = true then
                  some (false, ())
                else
                  some (true, ())
@[reducible] def sig (n : Nat) : Sig := ⟨[tRecorder, tRecorder], [.bool], false, f n, none⟩
def T (n : Nat) : FuncId → Option Sig := fun g => if Nat.beq g 53 = true then some (laws_eqRecMessageS.sig n) else if Nat.beq g 93 = true then some (laws_eqRecDisk.sig n) else if Nat.beq g 94 = true then some (laws_eqStringS.sig n) else if Nat.beq g 95 = true then some (laws_eqIntS.sig n) else if Nat.beq g 96 = true then some (laws_eqRecSlotS.sig n) else if Nat.beq g 97 = true then some (laws_eqRecAckS.sig n) else none
def TL (n : Nat) : Loops := fun j _ st k => none
theorem con (n : Nat) : Con Try.prog 78 (sig n) :=
  con_print (hsw := rfl) (T := T n) (TL := TL n) (c := Try.f78.body.getD .skip) (js := []) hMixed (conT_cons (laws_eqRecMessageS.con n) (conT_cons (laws_eqRecDisk.con n) (conT_cons (laws_eqStringS.con n) (conT_cons (laws_eqIntS.con n) (conT_cons (laws_eqRecSlotS.con n) (conT_cons (laws_eqRecAckS.con n) conT_none)))))) Try.func78 (by decide) (by kernel_rfl) (by kernel_rfl) (by decide) LoopDef.nil (fun x => by kernel_rfl)
end laws_eqRecorder
namespace laws_eqRecorderS
@[reducible] def l4 : LSpec := ⟨[(0, .d (.slice tRecorder)), (1, .d (.slice tRecorder)), (5, .d (.int .i64))], [(.ret, [(4, .d .bool)]), (.exit 0, [])]⟩
def B4 (n : Nat) {R : Type} (next : Sden l4.inS → Option R) (cs : Conts R l4.outs) (x : Sden l4.inS) : Option R :=
  if (decide (x.2.2.1 < (List.length x.1 : Int))) = true then
    if (!true || (decide (0 ≤ x.2.2.1 ∧ x.2.2.1 < (List.length x.1 : Int)))) = true then
      if (!true || (decide (0 ≤ x.2.2.1 ∧ x.2.2.1 < (List.length x.2.1 : Int)))) = true then
        (laws_eqRecorder.f n ((List.getD x.1 (Int.toNat x.2.2.1) (Ty.zero tRecorder)), (List.getD x.2.1 (Int.toNat x.2.2.1) (Ty.zero tRecorder)), ())).bind fun y1 =>
        if (!y1.1) = true then
          cs.1 (false, ())
        else
          next (x.1, x.2.1, (IntKind.i64.wrap (x.2.2.1 + (1 : Int))), ())
      else
        none
    else
      none
  else
    cs.2.1 ()
def f (n : Nat) (x : Tup [(.slice tRecorder), (.slice tRecorder)]) : Option (Tup [.bool]) :=
  if ((List.length x.1 : Int) != (List.length x.2.1 : Int)) = true then
    some (false, ())
  else
    runL (B4 n) ((fun z2 =>
        some (z2.1, ())), (fun z3 =>
        some (true, ())), ()) n (x.1, x.2.1, (0 : Int), ())
@[reducible] def sig (n : Nat) : Sig := ⟨[(.slice tRecorder), (.slice tRecorder)], [.bool], false, f n, none⟩
def T (n : Nat) : FuncId → Option Sig := fun g => if Nat.beq g 78 = true then some (laws_eqRecorder.sig n) else none
def TL (n : Nat) : Loops := fun j _ st k => if Nat.beq j 4 = true then (match dec st l4.inS [] with | some x => runL (B4 n) (contsOf k l4.outs) n x | none => none) else none
theorem d4 (n : Nat) : LoopDef Try.prog (T n) (TL n) Try.f52 4 :=
  ⟨l4, fun R => B4 n, n, fun R st k => by kernel_rfl, fun R next cs x => by kernel_rfl⟩
theorem con (n : Nat) : Con Try.prog 52 (sig n) :=
  con_print (hsw := rfl) (T := T n) (TL := TL n) (c := Try.f52.body.getD .skip) (js := [4]) hMixed (conT_cons (laws_eqRecorder.con n) conT_none) Try.func52 (by decide) (by kernel_rfl) (by kernel_rfl) (by decide) (LoopDef.cons (d4 n) LoopDef.nil) (fun x => by kernel_rfl)
end laws_eqRecorderS
namespace laws_eqRecFix
def f (n : Nat) (x : Tup [tRecSlot, tRecSlot]) : Option (Tup [.bool]) :=
  if (x.1.1 != x.2.1.1) = true then
    some (false, ())
  else if (!seq x.1.2.1 x.2.1.2.1) = true then
    some (false, ())
  else
    some (true, ())
@[reducible] def sig (n : Nat) : Sig := ⟨[tRecSlot, tRecSlot], [.bool], false, f n, none⟩
def T (n : Nat) : FuncId → Option Sig := fun g => none
def TL (n : Nat) : Loops := fun j _ st k => none
theorem con (n : Nat) : Con Try.prog 80 (sig n) :=
  con_print (hsw := rfl) (T := T n) (TL := TL n) (c := Try.f80.body.getD .skip) (js := []) hMixed conT_none Try.func80 (by decide) (by kernel_rfl) (by kernel_rfl) (by decide) LoopDef.nil (fun x => by kernel_rfl)
end laws_eqRecFix
namespace laws_eqRecFixS
@[reducible] def l4 : LSpec := ⟨[(0, .d (.slice tRecSlot)), (1, .d (.slice tRecSlot)), (5, .d (.int .i64))], [(.ret, [(4, .d .bool)]), (.exit 0, [])]⟩
def B4 (n : Nat) {R : Type} (next : Sden l4.inS → Option R) (cs : Conts R l4.outs) (x : Sden l4.inS) : Option R :=
  if (decide (x.2.2.1 < (List.length x.1 : Int))) = true then
    if (!true || (decide (0 ≤ x.2.2.1 ∧ x.2.2.1 < (List.length x.1 : Int)))) = true then
      if (!true || (decide (0 ≤ x.2.2.1 ∧ x.2.2.1 < (List.length x.2.1 : Int)))) = true then
        (laws_eqRecFix.f n ((List.getD x.1 (Int.toNat x.2.2.1) (Ty.zero tRecSlot)), (List.getD x.2.1 (Int.toNat x.2.2.1) (Ty.zero tRecSlot)), ())).bind fun y1 =>
        if (!y1.1) = true then
          cs.1 (false, ())
        else
          next (x.1, x.2.1, (IntKind.i64.wrap (x.2.2.1 + (1 : Int))), ())
      else
        none
    else
      none
  else
    cs.2.1 ()
def f (n : Nat) (x : Tup [(.slice tRecSlot), (.slice tRecSlot)]) : Option (Tup [.bool]) :=
  if ((List.length x.1 : Int) != (List.length x.2.1 : Int)) = true then
    some (false, ())
  else
    runL (B4 n) ((fun z2 =>
        some (z2.1, ())), (fun z3 =>
        some (true, ())), ()) n (x.1, x.2.1, (0 : Int), ())
@[reducible] def sig (n : Nat) : Sig := ⟨[(.slice tRecSlot), (.slice tRecSlot)], [.bool], false, f n, none⟩
def T (n : Nat) : FuncId → Option Sig := fun g => if Nat.beq g 80 = true then some (laws_eqRecFix.sig n) else none
def TL (n : Nat) : Loops := fun j _ st k => if Nat.beq j 4 = true then (match dec st l4.inS [] with | some x => runL (B4 n) (contsOf k l4.outs) n x | none => none) else none
theorem d4 (n : Nat) : LoopDef Try.prog (T n) (TL n) Try.f54 4 :=
  ⟨l4, fun R => B4 n, n, fun R st k => by kernel_rfl, fun R next cs x => by kernel_rfl⟩
theorem con (n : Nat) : Con Try.prog 54 (sig n) :=
  con_print (hsw := rfl) (T := T n) (TL := TL n) (c := Try.f54.body.getD .skip) (js := [4]) hMixed (conT_cons (laws_eqRecFix.con n) conT_none) Try.func54 (by decide) (by kernel_rfl) (by kernel_rfl) (by decide) (LoopDef.cons (d4 n) LoopDef.nil) (fun x => by kernel_rfl)
end laws_eqRecFixS
namespace laws_eqRecWorld
def f (n : Nat) (x : Tup [tRecWorld, tRecWorld]) : Option (Tup [.bool]) :=
  (laws_eqRecorderS.f n (x.1.1, x.2.1.1, ())).bind fun y1 =>
  if (!y1.1) = true then
    some (false, ())
  else
    (laws_eqRecMessageS.f n (x.1.2.1, x.2.1.2.1, ())).bind fun y2 =>
    if (!y2.1) = true then
      some (false, ())
    else
      (laws_eqRecFixS.f n (x.1.2.2.1, x.2.1.2.2.1, ())).bind fun y3 =>
      if (!y3.1) = true then
        some (false, ())
      else
        some (true, ())
@[reducible] def sig (n : Nat) : Sig := ⟨[tRecWorld, tRecWorld], [.bool], false, f n, none⟩
def T (n : Nat) : FuncId → Option Sig := fun g => if Nat.beq g 52 = true then some (laws_eqRecorderS.sig n) else if Nat.beq g 53 = true then some (laws_eqRecMessageS.sig n) else if Nat.beq g 54 = true then some (laws_eqRecFixS.sig n) else none
def TL (n : Nat) : Loops := fun j _ st k => none
theorem con (n : Nat) : Con Try.prog 24 (sig n) :=
  con_print (hsw := rfl) (T := T n) (TL := TL n) (c := Try.f24.body.getD .skip) (js := []) hMixed (conT_cons (laws_eqRecorderS.con n) (conT_cons (laws_eqRecMessageS.con n) (conT_cons (laws_eqRecFixS.con n) conT_none))) Try.func24 (by decide) (by kernel_rfl) (by kernel_rfl) (by decide) LoopDef.nil (fun x => by kernel_rfl)
end laws_eqRecWorld
namespace laws_eqGateSaid
def f (n : Nat) (x : Tup [tGateSaid, tGateSaid]) : Option (Tup [.bool]) :=
  if (x.1.1 != x.2.1.1) = true then
    some (false, ())
  else if (x.1.2.1 != x.2.1.2.1) = true then
    some (false, ())
  else if (x.1.2.2.1 != x.2.1.2.2.1) = true then
    some (false, ())
  else
    some (true, ())
@[reducible] def sig (n : Nat) : Sig := ⟨[tGateSaid, tGateSaid], [.bool], false, f n, none⟩
def T (n : Nat) : FuncId → Option Sig := fun g => none
def TL (n : Nat) : Loops := fun j _ st k => none
theorem con (n : Nat) : Con Try.prog 81 (sig n) :=
  con_print (hsw := rfl) (T := T n) (TL := TL n) (c := Try.f81.body.getD .skip) (js := []) hMixed conT_none Try.func81 (by decide) (by kernel_rfl) (by kernel_rfl) (by decide) LoopDef.nil (fun x => by kernel_rfl)
end laws_eqGateSaid
namespace laws_eqHallAsked
def f (n : Nat) (x : Tup [tHallAsked, tHallAsked]) : Option (Tup [.bool]) :=
  if (!seq x.1.1 x.2.1.1) = true then
    some (false, ())
  else if (x.1.2.1 != x.2.1.2.1) = true then
    some (false, ())
  else if (x.1.2.2.1 != x.2.1.2.2.1) = true then
    some (false, ())
  else
    (laws_eqGateSaid.f n (x.1.2.2.2.1, x.2.1.2.2.2.1, ())).bind fun y1 =>
    if (!y1.1) = true then
      some (false, ())
    else
      some (true, ())
@[reducible] def sig (n : Nat) : Sig := ⟨[tHallAsked, tHallAsked], [.bool], false, f n, none⟩
def T (n : Nat) : FuncId → Option Sig := fun g => if Nat.beq g 81 = true then some (laws_eqGateSaid.sig n) else none
def TL (n : Nat) : Loops := fun j _ st k => none
theorem con (n : Nat) : Con Try.prog 55 (sig n) :=
  con_print (hsw := rfl) (T := T n) (TL := TL n) (c := Try.f55.body.getD .skip) (js := []) hMixed (conT_cons (laws_eqGateSaid.con n) conT_none) Try.func55 (by decide) (by kernel_rfl) (by kernel_rfl) (by decide) LoopDef.nil (fun x => by kernel_rfl)
end laws_eqHallAsked
namespace laws_eqHallAskedS
@[reducible] def l4 : LSpec := ⟨[(0, .d (.slice tHallAsked)), (1, .d (.slice tHallAsked)), (5, .d (.int .i64))], [(.ret, [(4, .d .bool)]), (.exit 0, [])]⟩
def B4 (n : Nat) {R : Type} (next : Sden l4.inS → Option R) (cs : Conts R l4.outs) (x : Sden l4.inS) : Option R :=
  if (decide (x.2.2.1 < (List.length x.1 : Int))) = true then
    if (!true || (decide (0 ≤ x.2.2.1 ∧ x.2.2.1 < (List.length x.1 : Int)))) = true then
      if (!true || (decide (0 ≤ x.2.2.1 ∧ x.2.2.1 < (List.length x.2.1 : Int)))) = true then
        (laws_eqHallAsked.f n ((List.getD x.1 (Int.toNat x.2.2.1) (Ty.zero tHallAsked)), (List.getD x.2.1 (Int.toNat x.2.2.1) (Ty.zero tHallAsked)), ())).bind fun y1 =>
        if (!y1.1) = true then
          cs.1 (false, ())
        else
          next (x.1, x.2.1, (IntKind.i64.wrap (x.2.2.1 + (1 : Int))), ())
      else
        none
    else
      none
  else
    cs.2.1 ()
def f (n : Nat) (x : Tup [(.slice tHallAsked), (.slice tHallAsked)]) : Option (Tup [.bool]) :=
  if ((List.length x.1 : Int) != (List.length x.2.1 : Int)) = true then
    some (false, ())
  else
    runL (B4 n) ((fun z2 =>
        some (z2.1, ())), (fun z3 =>
        some (true, ())), ()) n (x.1, x.2.1, (0 : Int), ())
@[reducible] def sig (n : Nat) : Sig := ⟨[(.slice tHallAsked), (.slice tHallAsked)], [.bool], false, f n, none⟩
def T (n : Nat) : FuncId → Option Sig := fun g => if Nat.beq g 55 = true then some (laws_eqHallAsked.sig n) else none
def TL (n : Nat) : Loops := fun j _ st k => if Nat.beq j 4 = true then (match dec st l4.inS [] with | some x => runL (B4 n) (contsOf k l4.outs) n x | none => none) else none
theorem d4 (n : Nat) : LoopDef Try.prog (T n) (TL n) Try.f25 4 :=
  ⟨l4, fun R => B4 n, n, fun R st k => by kernel_rfl, fun R next cs x => by kernel_rfl⟩
theorem con (n : Nat) : Con Try.prog 25 (sig n) :=
  con_print (hsw := rfl) (T := T n) (TL := TL n) (c := Try.f25.body.getD .skip) (js := [4]) hMixed (conT_cons (laws_eqHallAsked.con n) conT_none) Try.func25 (by decide) (by kernel_rfl) (by kernel_rfl) (by decide) (LoopDef.cons (d4 n) LoopDef.nil) (fun x => by kernel_rfl)
end laws_eqHallAskedS
namespace laws_eqHallWorld
def f (n : Nat) (x : Tup [tHallWorld, tHallWorld]) : Option (Tup [.bool]) :=
  (laws_eqHallHouse.f n (x.1.1, x.2.1.1, ())).bind fun y1 =>
  if (!y1.1) = true then
    some (false, ())
  else
    (laws_eqRecWorld.f n (x.1.2.1, x.2.1.2.1, ())).bind fun y2 =>
    if (!y2.1) = true then
      some (false, ())
    else if (x.1.2.2.1 != x.2.1.2.2.1) = true then
      some (false, ())
    else
      (laws_eqHallAskedS.f n (x.1.2.2.2.1, x.2.1.2.2.2.1, ())).bind fun y3 =>
      if (!y3.1) = true then
        some (false, ())
      else
        some (true, ())
@[reducible] def sig (n : Nat) : Sig := ⟨[tHallWorld, tHallWorld], [.bool], false, f n, none⟩
def T (n : Nat) : FuncId → Option Sig := fun g => if Nat.beq g 9 = true then some (laws_eqHallHouse.sig n) else if Nat.beq g 24 = true then some (laws_eqRecWorld.sig n) else if Nat.beq g 25 = true then some (laws_eqHallAskedS.sig n) else none
def TL (n : Nat) : Loops := fun j _ st k => none
theorem con (n : Nat) : Con Try.prog 8 (sig n) :=
  con_print (hsw := rfl) (T := T n) (TL := TL n) (c := Try.f8.body.getD .skip) (js := []) hMixed (conT_cons (laws_eqHallHouse.con n) (conT_cons (laws_eqRecWorld.con n) (conT_cons (laws_eqHallAskedS.con n) conT_none))) Try.func8 (by decide) (by kernel_rfl) (by kernel_rfl) (by decide) LoopDef.nil (fun x => by kernel_rfl)
end laws_eqHallWorld
namespace laws_markText
@[reducible] def l4 : LSpec := ⟨[(0, .d (.int .i64)), (3, .d .str)], [(.exit 0, [(3, .d .str)])]⟩
def B4 (n : Nat) {R : Type} (next : Sden l4.inS → Option R) (cs : Conts R l4.outs) (x : Sden l4.inS) : Option R :=
  if (decide (x.1 > (0 : Int))) = true then
    if ((10 : Int) != 0) = true then
      if (decide ((ByteArray.size (ofBytes [(IntKind.u8.wrap (IntKind.i64.wrap ((48 : Int) + (Int.tmod x.1 (10 : Int)))))]) : Int) + (ByteArray.size x.2.1 : Int) ≤ 9223372036854775807)) = true then
        if ((10 : Int) != 0) = true then
          next ((IntKind.i64.wrap (Int.tdiv x.1 (10 : Int))), (scat (ofBytes [(IntKind.u8.wrap (IntKind.i64.wrap ((48 : Int) + (Int.tmod x.1 (10 : Int)))))]) x.2.1), ())
        else
          none
      else
        none
    else
      none
  else
    cs.1 (x.2.1, ())
def f (n : Nat) (x : Tup [(.int .i64)]) : Option (Tup [.str]) :=
  if (decide (x.1 ≤ (0 : Int))) = true then
    some ((⟨#[109, 48]⟩ : ByteArray), ())
  else
    runL (B4 n) ((fun z1 =>
        if (decide ((ByteArray.size (⟨#[109]⟩ : ByteArray) : Int) + (ByteArray.size z1.1 : Int) ≤ 9223372036854775807)) = true then
          some ((scat (⟨#[109]⟩ : ByteArray) z1.1), ())
        else
          none), ()) n (x.1, (⟨#[]⟩ : ByteArray), ())
@[reducible] def sig (n : Nat) : Sig := ⟨[(.int .i64)], [.str], false, f n, none⟩
def T (n : Nat) : FuncId → Option Sig := fun g => none
def TL (n : Nat) : Loops := fun j _ st k => if Nat.beq j 4 = true then (match dec st l4.inS [] with | some x => runL (B4 n) (contsOf k l4.outs) n x | none => none) else none
theorem d4 (n : Nat) : LoopDef Try.prog (T n) (TL n) Try.f58 4 :=
  ⟨l4, fun R => B4 n, n, fun R st k => by kernel_rfl, fun R next cs x => by kernel_rfl⟩
theorem con (n : Nat) : Con Try.prog 58 (sig n) :=
  con_print (hsw := rfl) (T := T n) (TL := TL n) (c := Try.f58.body.getD .skip) (js := [4]) hMixed conT_none Try.func58 (by decide) (by kernel_rfl) (by kernel_rfl) (by decide) (LoopDef.cons (d4 n) LoopDef.nil) (fun x => by kernel_rfl)
end laws_markText
namespace laws_markGateTeamS
@[reducible] def l2 : LSpec := ⟨[(0, .row true tGateTeam), (1, .d (.int .i64)), (5, .d (.int .i64))], [(.exit 0, [(0, .row true tGateTeam), (1, .d (.int .i64))])]⟩
def B2 (n : Nat) {R : Type} (next : Sden l2.inS → Option R) (cs : Conts R l2.outs) (x : Sden l2.inS) : Option R :=
  if (decide (x.2.2.1 < (List.length x.1 : Int))) = true then
    (laws_markText.f n (x.2.1, ())).bind fun y1 =>
    if (decide (0 ≤ x.2.2.1 ∧ x.2.2.1 < (List.length x.1 : Int))) = true then
      (laws_markText.f n ((IntKind.i64.wrap (x.2.1 + (1 : Int))), ())).bind fun y2 =>
      if (decide (0 ≤ x.2.2.1 ∧ x.2.2.1 < (List.length (List.set x.1 (Int.toNat x.2.2.1) (y1.1, (List.getD x.1 (Int.toNat x.2.2.1) (Ty.zero tGateTeam)).2)) : Int))) = true then
        ((some (List.set (List.set x.1 (Int.toNat x.2.2.1) (y1.1, (List.getD x.1 (Int.toNat x.2.2.1) (Ty.zero tGateTeam)).2)) (Int.toNat x.2.2.1) ((List.getD (List.set x.1 (Int.toNat x.2.2.1) (y1.1, (List.getD x.1 (Int.toNat x.2.2.1) (Ty.zero tGateTeam)).2)) (Int.toNat x.2.2.1) (Ty.zero tGateTeam)).1, y2.1, ())) : Option (List (Ty.den tGateTeam)))).bind fun w3 =>
        next (w3, (IntKind.i64.wrap ((IntKind.i64.wrap (x.2.1 + (1 : Int))) + (1 : Int))), (IntKind.i64.wrap (x.2.2.1 + (1 : Int))), ())
      else
        none
    else
      none
  else
    cs.1 (x.1, x.2.1, ())
def f (n : Nat) (x : Ty.den (.slice tGateTeam)) (q : Tup [(.int .i64)]) : Option (Ty.den (.slice tGateTeam) × Tup [(.int .i64)]) :=
  runL (B2 n) ((fun z4 =>
      some (z4.1, z4.2.1, ())), ()) n (x, q.1, (0 : Int), ())
@[reducible] def sig (n : Nat) : Sig := ⟨[], [], false, fun _ => none, some ⟨(.slice tGateTeam), [(.int .i64)], [(.int .i64)], f n, none⟩⟩
def T (n : Nat) : FuncId → Option Sig := fun g => if Nat.beq g 58 = true then some (laws_markText.sig n) else none
def TL (n : Nat) : Loops := fun j _ st k => if Nat.beq j 2 = true then (match dec st l2.inS [] with | some x => runL (B2 n) (contsOf k l2.outs) n x | none => none) else none
theorem d2 (n : Nat) : LoopDefL Try.prog (T n) (TL n) Try.f28 1 2 :=
  ⟨l2, fun R => B2 n, n, fun R st k => by kernel_rfl, fun R next cs x => by kernel_rfl⟩
theorem con (n : Nat) : Con Try.prog 28 (sig n) :=
  con_printW (hv := rfl) (T := T n) (TL := TL n) (c := Try.f28.body.getD .skip) (js := [2]) hMixed (conT_cons (laws_markText.con n) conT_none) Try.func28 (by decide) (by kernel_rfl) (by kernel_rfl) (by decide) (LoopDef.cons (d2 n) LoopDef.nil) (fun x q => by kernel_rfl)
end laws_markGateTeamS
namespace laws_markIntS
@[reducible] def l2 : LSpec := ⟨[(0, .row true (.int .i64)), (1, .d (.int .i64)), (5, .d (.int .i64))], [(.exit 0, [(0, .row true (.int .i64)), (1, .d (.int .i64))])]⟩
def B2 (n : Nat) {R : Type} (next : Sden l2.inS → Option R) (cs : Conts R l2.outs) (x : Sden l2.inS) : Option R :=
  if (decide (x.2.2.1 < (List.length x.1 : Int))) = true then
    if (decide (0 ≤ x.2.2.1 ∧ x.2.2.1 < (List.length x.1 : Int))) = true then
      next ((List.set x.1 (Int.toNat x.2.2.1) x.2.1), (IntKind.i64.wrap (x.2.1 + (1 : Int))), (IntKind.i64.wrap (x.2.2.1 + (1 : Int))), ())
    else
      none
  else
    cs.1 (x.1, x.2.1, ())
def f (n : Nat) (x : Ty.den (.slice (.int .i64))) (q : Tup [(.int .i64)]) : Option (Ty.den (.slice (.int .i64)) × Tup [(.int .i64)]) :=
  runL (B2 n) ((fun z1 =>
      some (z1.1, z1.2.1, ())), ()) n (x, q.1, (0 : Int), ())
@[reducible] def sig (n : Nat) : Sig := ⟨[], [], false, fun _ => none, some ⟨(.slice (.int .i64)), [(.int .i64)], [(.int .i64)], f n, none⟩⟩
def T (n : Nat) : FuncId → Option Sig := fun g => none
def TL (n : Nat) : Loops := fun j _ st k => if Nat.beq j 2 = true then (match dec st l2.inS [] with | some x => runL (B2 n) (contsOf k l2.outs) n x | none => none) else none
theorem d2 (n : Nat) : LoopDefL Try.prog (T n) (TL n) Try.f59 1 2 :=
  ⟨l2, fun R => B2 n, n, fun R st k => by kernel_rfl, fun R next cs x => by kernel_rfl⟩
theorem con (n : Nat) : Con Try.prog 59 (sig n) :=
  con_printW (hv := rfl) (T := T n) (TL := TL n) (c := Try.f59.body.getD .skip) (js := [2]) hMixed conT_none Try.func59 (by decide) (by kernel_rfl) (by kernel_rfl) (by decide) (LoopDef.cons (d2 n) LoopDef.nil) (fun x q => by kernel_rfl)
end laws_markIntS
namespace laws_markGateGrantS
@[reducible] def l2 : LSpec := ⟨[(0, .row true tGateGrant), (1, .d (.int .i64)), (5, .d (.int .i64))], [(.exit 0, [(0, .row true tGateGrant), (1, .d (.int .i64))])]⟩
def B2 (n : Nat) {R : Type} (next : Sden l2.inS → Option R) (cs : Conts R l2.outs) (x : Sden l2.inS) : Option R :=
  if (decide (x.2.2.1 < (List.length x.1 : Int))) = true then
    if (decide (0 ≤ x.2.2.1 ∧ x.2.2.1 < (List.length x.1 : Int))) = true then
      (laws_markText.f n ((IntKind.i64.wrap (x.2.1 + (1 : Int))), ())).bind fun y1 =>
      if (decide (0 ≤ x.2.2.1 ∧ x.2.2.1 < (List.length (List.set x.1 (Int.toNat x.2.2.1) (x.2.1, (List.getD x.1 (Int.toNat x.2.2.1) (Ty.zero tGateGrant)).2)) : Int))) = true then
        ((some (List.set (List.set x.1 (Int.toNat x.2.2.1) (x.2.1, (List.getD x.1 (Int.toNat x.2.2.1) (Ty.zero tGateGrant)).2)) (Int.toNat x.2.2.1) ((List.getD (List.set x.1 (Int.toNat x.2.2.1) (x.2.1, (List.getD x.1 (Int.toNat x.2.2.1) (Ty.zero tGateGrant)).2)) (Int.toNat x.2.2.1) (Ty.zero tGateGrant)).1, y1.1, (List.getD (List.set x.1 (Int.toNat x.2.2.1) (x.2.1, (List.getD x.1 (Int.toNat x.2.2.1) (Ty.zero tGateGrant)).2)) (Int.toNat x.2.2.1) (Ty.zero tGateGrant)).2.2)) : Option (List (Ty.den tGateGrant)))).bind fun w2 =>
        (laws_markText.f n ((IntKind.i64.wrap ((IntKind.i64.wrap (x.2.1 + (1 : Int))) + (1 : Int))), ())).bind fun y3 =>
        if (decide (0 ≤ x.2.2.1 ∧ x.2.2.1 < (List.length w2 : Int))) = true then
          ((some (List.set w2 (Int.toNat x.2.2.1) ((List.getD w2 (Int.toNat x.2.2.1) (Ty.zero tGateGrant)).1, (List.getD w2 (Int.toNat x.2.2.1) (Ty.zero tGateGrant)).2.1, y3.1, (List.getD w2 (Int.toNat x.2.2.1) (Ty.zero tGateGrant)).2.2.2)) : Option (List (Ty.den tGateGrant)))).bind fun w4 =>
          if (decide (0 ≤ x.2.2.1 ∧ x.2.2.1 < (List.length w4 : Int))) = true then
            (laws_markIntS.f n (List.getD w4 (Int.toNat x.2.2.1) (Ty.zero tGateGrant)).2.2.2.1.1 ((IntKind.i64.wrap ((IntKind.i64.wrap ((IntKind.i64.wrap (x.2.1 + (1 : Int))) + (1 : Int))) + (1 : Int))), ())).bind fun y5 =>
            ((some (List.set w4 (Int.toNat x.2.2.1) ((List.getD w4 (Int.toNat x.2.2.1) (Ty.zero tGateGrant)).1, (List.getD w4 (Int.toNat x.2.2.1) (Ty.zero tGateGrant)).2.1, (List.getD w4 (Int.toNat x.2.2.1) (Ty.zero tGateGrant)).2.2.1, (y5.1, (List.getD w4 (Int.toNat x.2.2.1) (Ty.zero tGateGrant)).2.2.2.1.2), (List.getD w4 (Int.toNat x.2.2.1) (Ty.zero tGateGrant)).2.2.2.2)) : Option (List (Ty.den tGateGrant)))).bind fun w6 =>
            (laws_markText.f n (y5.2.1, ())).bind fun y7 =>
            if (decide (0 ≤ x.2.2.1 ∧ x.2.2.1 < (List.length w6 : Int))) = true then
              ((some (List.set w6 (Int.toNat x.2.2.1) ((List.getD w6 (Int.toNat x.2.2.1) (Ty.zero tGateGrant)).1, (List.getD w6 (Int.toNat x.2.2.1) (Ty.zero tGateGrant)).2.1, (List.getD w6 (Int.toNat x.2.2.1) (Ty.zero tGateGrant)).2.2.1, ((List.getD w6 (Int.toNat x.2.2.1) (Ty.zero tGateGrant)).2.2.2.1.1, y7.1, (List.getD w6 (Int.toNat x.2.2.1) (Ty.zero tGateGrant)).2.2.2.1.2.2), ())) : Option (List (Ty.den tGateGrant)))).bind fun w8 =>
              (laws_markText.f n ((IntKind.i64.wrap (y5.2.1 + (1 : Int))), ())).bind fun y9 =>
              if (decide (0 ≤ x.2.2.1 ∧ x.2.2.1 < (List.length w8 : Int))) = true then
                ((some (List.set w8 (Int.toNat x.2.2.1) ((List.getD w8 (Int.toNat x.2.2.1) (Ty.zero tGateGrant)).1, (List.getD w8 (Int.toNat x.2.2.1) (Ty.zero tGateGrant)).2.1, (List.getD w8 (Int.toNat x.2.2.1) (Ty.zero tGateGrant)).2.2.1, ((List.getD w8 (Int.toNat x.2.2.1) (Ty.zero tGateGrant)).2.2.2.1.1, (List.getD w8 (Int.toNat x.2.2.1) (Ty.zero tGateGrant)).2.2.2.1.2.1, y9.1, (List.getD w8 (Int.toNat x.2.2.1) (Ty.zero tGateGrant)).2.2.2.1.2.2.2), ())) : Option (List (Ty.den tGateGrant)))).bind fun w10 =>
                (laws_markText.f n ((IntKind.i64.wrap ((IntKind.i64.wrap (y5.2.1 + (1 : Int))) + (1 : Int))), ())).bind fun y11 =>
                if (decide (0 ≤ x.2.2.1 ∧ x.2.2.1 < (List.length w10 : Int))) = true then
                  ((some (List.set w10 (Int.toNat x.2.2.1) ((List.getD w10 (Int.toNat x.2.2.1) (Ty.zero tGateGrant)).1, (List.getD w10 (Int.toNat x.2.2.1) (Ty.zero tGateGrant)).2.1, (List.getD w10 (Int.toNat x.2.2.1) (Ty.zero tGateGrant)).2.2.1, ((List.getD w10 (Int.toNat x.2.2.1) (Ty.zero tGateGrant)).2.2.2.1.1, (List.getD w10 (Int.toNat x.2.2.1) (Ty.zero tGateGrant)).2.2.2.1.2.1, (List.getD w10 (Int.toNat x.2.2.1) (Ty.zero tGateGrant)).2.2.2.1.2.2.1, y11.1, ()), ())) : Option (List (Ty.den tGateGrant)))).bind fun w12 =>
                  next (w12, (IntKind.i64.wrap ((IntKind.i64.wrap ((IntKind.i64.wrap (y5.2.1 + (1 : Int))) + (1 : Int))) + (1 : Int))), (IntKind.i64.wrap (x.2.2.1 + (1 : Int))), ())
                else
                  none
              else
                none
            else
              none
          else
            none
        else
          none
      else
        none
    else
      none
  else
    cs.1 (x.1, x.2.1, ())
def f (n : Nat) (x : Ty.den (.slice tGateGrant)) (q : Tup [(.int .i64)]) : Option (Ty.den (.slice tGateGrant) × Tup [(.int .i64)]) :=
  runL (B2 n) ((fun z13 =>
      some (z13.1, z13.2.1, ())), ()) n (x, q.1, (0 : Int), ())
@[reducible] def sig (n : Nat) : Sig := ⟨[], [], false, fun _ => none, some ⟨(.slice tGateGrant), [(.int .i64)], [(.int .i64)], f n, none⟩⟩
def T (n : Nat) : FuncId → Option Sig := fun g => if Nat.beq g 58 = true then some (laws_markText.sig n) else if Nat.beq g 59 = true then some (laws_markIntS.sig n) else none
def TL (n : Nat) : Loops := fun j _ st k => if Nat.beq j 2 = true then (match dec st l2.inS [] with | some x => runL (B2 n) (contsOf k l2.outs) n x | none => none) else none
theorem d2 (n : Nat) : LoopDefL Try.prog (T n) (TL n) Try.f29 1 2 :=
  ⟨l2, fun R => B2 n, n, fun R st k => by kernel_rfl, fun R next cs x => by kernel_rfl⟩
theorem con (n : Nat) : Con Try.prog 29 (sig n) :=
  con_printW (hv := rfl) (T := T n) (TL := TL n) (c := Try.f29.body.getD .skip) (js := [2]) hMixed (conT_cons (laws_markText.con n) (conT_cons (laws_markIntS.con n) conT_none)) Try.func29 (by decide) (by kernel_rfl) (by kernel_rfl) (by decide) (LoopDef.cons (d2 n) LoopDef.nil) (fun x q => by kernel_rfl)
end laws_markGateGrantS
namespace laws_markHallHouse
def f (n : Nat) (x : Ty.den tHallHouse) (q : Tup [(.int .i64)]) : Option (Ty.den tHallHouse × Tup [(.int .i64)]) :=
  (laws_markGateTeamS.f n x.1 (q.1, ())).bind fun y1 =>
  (laws_markGateGrantS.f n x.2.1 (y1.2.1, ())).bind fun y2 =>
  some ((y1.1, y2.1, ()), y2.2.1, ())
@[reducible] def sig (n : Nat) : Sig := ⟨[], [], false, fun _ => none, some ⟨tHallHouse, [(.int .i64)], [(.int .i64)], f n, none⟩⟩
def T (n : Nat) : FuncId → Option Sig := fun g => if Nat.beq g 28 = true then some (laws_markGateTeamS.sig n) else if Nat.beq g 29 = true then some (laws_markGateGrantS.sig n) else none
def TL (n : Nat) : Loops := fun j _ st k => none
theorem con (n : Nat) : Con Try.prog 10 (sig n) :=
  con_printW (hv := rfl) (T := T n) (TL := TL n) (c := Try.f10.body.getD .skip) (js := []) hMixed (conT_cons (laws_markGateTeamS.con n) (conT_cons (laws_markGateGrantS.con n) conT_none)) Try.func10 (by decide) (by kernel_rfl) (by kernel_rfl) (by decide) LoopDef.nil (fun x q => by kernel_rfl)
end laws_markHallHouse
namespace laws_markRecSlotS
@[reducible] def l2 : LSpec := ⟨[(0, .row true tRecSlot), (1, .d (.int .i64)), (5, .d (.int .i64))], [(.exit 0, [(0, .row true tRecSlot), (1, .d (.int .i64))])]⟩
def B2 (n : Nat) {R : Type} (next : Sden l2.inS → Option R) (cs : Conts R l2.outs) (x : Sden l2.inS) : Option R :=
  if (decide (x.2.2.1 < (List.length x.1 : Int))) = true then
    if (decide (0 ≤ x.2.2.1 ∧ x.2.2.1 < (List.length x.1 : Int))) = true then
      (laws_markText.f n ((IntKind.i64.wrap (x.2.1 + (1 : Int))), ())).bind fun y1 =>
      if (decide (0 ≤ x.2.2.1 ∧ x.2.2.1 < (List.length (List.set x.1 (Int.toNat x.2.2.1) (x.2.1, (List.getD x.1 (Int.toNat x.2.2.1) (Ty.zero tRecSlot)).2)) : Int))) = true then
        ((some (List.set (List.set x.1 (Int.toNat x.2.2.1) (x.2.1, (List.getD x.1 (Int.toNat x.2.2.1) (Ty.zero tRecSlot)).2)) (Int.toNat x.2.2.1) ((List.getD (List.set x.1 (Int.toNat x.2.2.1) (x.2.1, (List.getD x.1 (Int.toNat x.2.2.1) (Ty.zero tRecSlot)).2)) (Int.toNat x.2.2.1) (Ty.zero tRecSlot)).1, y1.1, ())) : Option (List (Ty.den tRecSlot)))).bind fun w2 =>
        next (w2, (IntKind.i64.wrap ((IntKind.i64.wrap (x.2.1 + (1 : Int))) + (1 : Int))), (IntKind.i64.wrap (x.2.2.1 + (1 : Int))), ())
      else
        none
    else
      none
  else
    cs.1 (x.1, x.2.1, ())
def f (n : Nat) (x : Ty.den (.slice tRecSlot)) (q : Tup [(.int .i64)]) : Option (Ty.den (.slice tRecSlot) × Tup [(.int .i64)]) :=
  runL (B2 n) ((fun z3 =>
      some (z3.1, z3.2.1, ())), ()) n (x, q.1, (0 : Int), ())
@[reducible] def sig (n : Nat) : Sig := ⟨[], [], false, fun _ => none, some ⟨(.slice tRecSlot), [(.int .i64)], [(.int .i64)], f n, none⟩⟩
def T (n : Nat) : FuncId → Option Sig := fun g => if Nat.beq g 58 = true then some (laws_markText.sig n) else none
def TL (n : Nat) : Loops := fun j _ st k => if Nat.beq j 2 = true then (match dec st l2.inS [] with | some x => runL (B2 n) (contsOf k l2.outs) n x | none => none) else none
theorem d2 (n : Nat) : LoopDefL Try.prog (T n) (TL n) Try.f83 1 2 :=
  ⟨l2, fun R => B2 n, n, fun R st k => by kernel_rfl, fun R next cs x => by kernel_rfl⟩
theorem con (n : Nat) : Con Try.prog 83 (sig n) :=
  con_printW (hv := rfl) (T := T n) (TL := TL n) (c := Try.f83.body.getD .skip) (js := [2]) hMixed (conT_cons (laws_markText.con n) conT_none) Try.func83 (by decide) (by kernel_rfl) (by kernel_rfl) (by decide) (LoopDef.cons (d2 n) LoopDef.nil) (fun x q => by kernel_rfl)
end laws_markRecSlotS
namespace laws_markRecMessageS
@[reducible] def l2 : LSpec := ⟨[(0, .row true tRecMessage), (1, .d (.int .i64)), (5, .d (.int .i64))], [(.exit 0, [(0, .row true tRecMessage), (1, .d (.int .i64))])]⟩
def B2 (n : Nat) {R : Type} (next : Sden l2.inS → Option R) (cs : Conts R l2.outs) (x : Sden l2.inS) : Option R :=
  if (decide (x.2.2.1 < (List.length x.1 : Int))) = true then
    if (decide (0 ≤ x.2.2.1 ∧ x.2.2.1 < (List.length x.1 : Int))) = true then
      if (decide (0 ≤ x.2.2.1 ∧ x.2.2.1 < (List.length (List.set x.1 (Int.toNat x.2.2.1) (x.2.1, (List.getD x.1 (Int.toNat x.2.2.1) (Ty.zero tRecMessage)).2)) : Int))) = true then
        ((some (List.set (List.set x.1 (Int.toNat x.2.2.1) (x.2.1, (List.getD x.1 (Int.toNat x.2.2.1) (Ty.zero tRecMessage)).2)) (Int.toNat x.2.2.1) ((List.getD (List.set x.1 (Int.toNat x.2.2.1) (x.2.1, (List.getD x.1 (Int.toNat x.2.2.1) (Ty.zero tRecMessage)).2)) (Int.toNat x.2.2.1) (Ty.zero tRecMessage)).1, (IntKind.i64.wrap (x.2.1 + (1 : Int))), (List.getD (List.set x.1 (Int.toNat x.2.2.1) (x.2.1, (List.getD x.1 (Int.toNat x.2.2.1) (Ty.zero tRecMessage)).2)) (Int.toNat x.2.2.1) (Ty.zero tRecMessage)).2.2)) : Option (List (Ty.den tRecMessage)))).bind fun w1 =>
        if (decide (0 ≤ x.2.2.1 ∧ x.2.2.1 < (List.length w1 : Int))) = true then
          ((some (List.set w1 (Int.toNat x.2.2.1) ((List.getD w1 (Int.toNat x.2.2.1) (Ty.zero tRecMessage)).1, (List.getD w1 (Int.toNat x.2.2.1) (Ty.zero tRecMessage)).2.1, (IntKind.i64.wrap ((IntKind.i64.wrap (x.2.1 + (1 : Int))) + (1 : Int))), (List.getD w1 (Int.toNat x.2.2.1) (Ty.zero tRecMessage)).2.2.2)) : Option (List (Ty.den tRecMessage)))).bind fun w2 =>
          if (decide (0 ≤ x.2.2.1 ∧ x.2.2.1 < (List.length w2 : Int))) = true then
            ((some (List.set w2 (Int.toNat x.2.2.1) ((List.getD w2 (Int.toNat x.2.2.1) (Ty.zero tRecMessage)).1, (List.getD w2 (Int.toNat x.2.2.1) (Ty.zero tRecMessage)).2.1, (List.getD w2 (Int.toNat x.2.2.1) (Ty.zero tRecMessage)).2.2.1, (IntKind.i64.wrap ((IntKind.i64.wrap ((IntKind.i64.wrap (x.2.1 + (1 : Int))) + (1 : Int))) + (1 : Int))), (List.getD w2 (Int.toNat x.2.2.1) (Ty.zero tRecMessage)).2.2.2.2)) : Option (List (Ty.den tRecMessage)))).bind fun w3 =>
            if (decide (0 ≤ x.2.2.1 ∧ x.2.2.1 < (List.length w3 : Int))) = true then
              ((some (List.set w3 (Int.toNat x.2.2.1) ((List.getD w3 (Int.toNat x.2.2.1) (Ty.zero tRecMessage)).1, (List.getD w3 (Int.toNat x.2.2.1) (Ty.zero tRecMessage)).2.1, (List.getD w3 (Int.toNat x.2.2.1) (Ty.zero tRecMessage)).2.2.1, (List.getD w3 (Int.toNat x.2.2.1) (Ty.zero tRecMessage)).2.2.2.1, (IntKind.i64.wrap ((IntKind.i64.wrap ((IntKind.i64.wrap ((IntKind.i64.wrap (x.2.1 + (1 : Int))) + (1 : Int))) + (1 : Int))) + (1 : Int))), (List.getD w3 (Int.toNat x.2.2.1) (Ty.zero tRecMessage)).2.2.2.2.2)) : Option (List (Ty.den tRecMessage)))).bind fun w4 =>
              if (decide (0 ≤ x.2.2.1 ∧ x.2.2.1 < (List.length w4 : Int))) = true then
                ((some (List.set w4 (Int.toNat x.2.2.1) ((List.getD w4 (Int.toNat x.2.2.1) (Ty.zero tRecMessage)).1, (List.getD w4 (Int.toNat x.2.2.1) (Ty.zero tRecMessage)).2.1, (List.getD w4 (Int.toNat x.2.2.1) (Ty.zero tRecMessage)).2.2.1, (List.getD w4 (Int.toNat x.2.2.1) (Ty.zero tRecMessage)).2.2.2.1, (List.getD w4 (Int.toNat x.2.2.1) (Ty.zero tRecMessage)).2.2.2.2.1, (IntKind.i64.wrap ((IntKind.i64.wrap ((IntKind.i64.wrap ((IntKind.i64.wrap ((IntKind.i64.wrap (x.2.1 + (1 : Int))) + (1 : Int))) + (1 : Int))) + (1 : Int))) + (1 : Int))), (List.getD w4 (Int.toNat x.2.2.1) (Ty.zero tRecMessage)).2.2.2.2.2.2)) : Option (List (Ty.den tRecMessage)))).bind fun w5 =>
                (laws_markText.f n ((IntKind.i64.wrap ((IntKind.i64.wrap ((IntKind.i64.wrap ((IntKind.i64.wrap ((IntKind.i64.wrap ((IntKind.i64.wrap (x.2.1 + (1 : Int))) + (1 : Int))) + (1 : Int))) + (1 : Int))) + (1 : Int))) + (1 : Int))), ())).bind fun y6 =>
                if (decide (0 ≤ x.2.2.1 ∧ x.2.2.1 < (List.length w5 : Int))) = true then
                  ((some (List.set w5 (Int.toNat x.2.2.1) ((List.getD w5 (Int.toNat x.2.2.1) (Ty.zero tRecMessage)).1, (List.getD w5 (Int.toNat x.2.2.1) (Ty.zero tRecMessage)).2.1, (List.getD w5 (Int.toNat x.2.2.1) (Ty.zero tRecMessage)).2.2.1, (List.getD w5 (Int.toNat x.2.2.1) (Ty.zero tRecMessage)).2.2.2.1, (List.getD w5 (Int.toNat x.2.2.1) (Ty.zero tRecMessage)).2.2.2.2.1, (List.getD w5 (Int.toNat x.2.2.1) (Ty.zero tRecMessage)).2.2.2.2.2.1, y6.1, (List.getD w5 (Int.toNat x.2.2.1) (Ty.zero tRecMessage)).2.2.2.2.2.2.2)) : Option (List (Ty.den tRecMessage)))).bind fun w7 =>
                  if (decide (0 ≤ x.2.2.1 ∧ x.2.2.1 < (List.length w7 : Int))) = true then
                    (laws_markRecSlotS.f n (List.getD w7 (Int.toNat x.2.2.1) (Ty.zero tRecMessage)).2.2.2.2.2.2.2.1 ((IntKind.i64.wrap ((IntKind.i64.wrap ((IntKind.i64.wrap ((IntKind.i64.wrap ((IntKind.i64.wrap ((IntKind.i64.wrap ((IntKind.i64.wrap (x.2.1 + (1 : Int))) + (1 : Int))) + (1 : Int))) + (1 : Int))) + (1 : Int))) + (1 : Int))) + (1 : Int))), ())).bind fun y8 =>
                    ((some (List.set w7 (Int.toNat x.2.2.1) ((List.getD w7 (Int.toNat x.2.2.1) (Ty.zero tRecMessage)).1, (List.getD w7 (Int.toNat x.2.2.1) (Ty.zero tRecMessage)).2.1, (List.getD w7 (Int.toNat x.2.2.1) (Ty.zero tRecMessage)).2.2.1, (List.getD w7 (Int.toNat x.2.2.1) (Ty.zero tRecMessage)).2.2.2.1, (List.getD w7 (Int.toNat x.2.2.1) (Ty.zero tRecMessage)).2.2.2.2.1, (List.getD w7 (Int.toNat x.2.2.1) (Ty.zero tRecMessage)).2.2.2.2.2.1, (List.getD w7 (Int.toNat x.2.2.1) (Ty.zero tRecMessage)).2.2.2.2.2.2.1, y8.1, (List.getD w7 (Int.toNat x.2.2.1) (Ty.zero tRecMessage)).2.2.2.2.2.2.2.2)) : Option (List (Ty.den tRecMessage)))).bind fun w9 =>
                    next (w9, y8.2.1, (IntKind.i64.wrap (x.2.2.1 + (1 : Int))), ())
                  else
                    none
                else
                  none
              else
                none
            else
              none
          else
            none
        else
          none
      else
        none
    else
      none
  else
    cs.1 (x.1, x.2.1, ())
def f (n : Nat) (x : Ty.den (.slice tRecMessage)) (q : Tup [(.int .i64)]) : Option (Ty.den (.slice tRecMessage) × Tup [(.int .i64)]) :=
  runL (B2 n) ((fun z10 =>
      some (z10.1, z10.2.1, ())), ()) n (x, q.1, (0 : Int), ())
@[reducible] def sig (n : Nat) : Sig := ⟨[], [], false, fun _ => none, some ⟨(.slice tRecMessage), [(.int .i64)], [(.int .i64)], f n, none⟩⟩
def T (n : Nat) : FuncId → Option Sig := fun g => if Nat.beq g 58 = true then some (laws_markText.sig n) else if Nat.beq g 83 = true then some (laws_markRecSlotS.sig n) else none
def TL (n : Nat) : Loops := fun j _ st k => if Nat.beq j 2 = true then (match dec st l2.inS [] with | some x => runL (B2 n) (contsOf k l2.outs) n x | none => none) else none
theorem d2 (n : Nat) : LoopDefL Try.prog (T n) (TL n) Try.f61 1 2 :=
  ⟨l2, fun R => B2 n, n, fun R st k => by kernel_rfl, fun R next cs x => by kernel_rfl⟩
theorem con (n : Nat) : Con Try.prog 61 (sig n) :=
  con_printW (hv := rfl) (T := T n) (TL := TL n) (c := Try.f61.body.getD .skip) (js := [2]) hMixed (conT_cons (laws_markText.con n) (conT_cons (laws_markRecSlotS.con n) conT_none)) Try.func61 (by decide) (by kernel_rfl) (by kernel_rfl) (by decide) (LoopDef.cons (d2 n) LoopDef.nil) (fun x q => by kernel_rfl)
end laws_markRecMessageS
namespace laws_markStringS
@[reducible] def l2 : LSpec := ⟨[(0, .row true .str), (1, .d (.int .i64)), (5, .d (.int .i64))], [(.exit 0, [(0, .row true .str), (1, .d (.int .i64))])]⟩
def B2 (n : Nat) {R : Type} (next : Sden l2.inS → Option R) (cs : Conts R l2.outs) (x : Sden l2.inS) : Option R :=
  if (decide (x.2.2.1 < (List.length x.1 : Int))) = true then
    (laws_markText.f n (x.2.1, ())).bind fun y1 =>
    if (decide (0 ≤ x.2.2.1 ∧ x.2.2.1 < (List.length x.1 : Int))) = true then
      next ((List.set x.1 (Int.toNat x.2.2.1) y1.1), (IntKind.i64.wrap (x.2.1 + (1 : Int))), (IntKind.i64.wrap (x.2.2.1 + (1 : Int))), ())
    else
      none
  else
    cs.1 (x.1, x.2.1, ())
def f (n : Nat) (x : Ty.den (.slice .str)) (q : Tup [(.int .i64)]) : Option (Ty.den (.slice .str) × Tup [(.int .i64)]) :=
  runL (B2 n) ((fun z2 =>
      some (z2.1, z2.2.1, ())), ()) n (x, q.1, (0 : Int), ())
@[reducible] def sig (n : Nat) : Sig := ⟨[], [], false, fun _ => none, some ⟨(.slice .str), [(.int .i64)], [(.int .i64)], f n, none⟩⟩
def T (n : Nat) : FuncId → Option Sig := fun g => if Nat.beq g 58 = true then some (laws_markText.sig n) else none
def TL (n : Nat) : Loops := fun j _ st k => if Nat.beq j 2 = true then (match dec st l2.inS [] with | some x => runL (B2 n) (contsOf k l2.outs) n x | none => none) else none
theorem d2 (n : Nat) : LoopDefL Try.prog (T n) (TL n) Try.f84 1 2 :=
  ⟨l2, fun R => B2 n, n, fun R st k => by kernel_rfl, fun R next cs x => by kernel_rfl⟩
theorem con (n : Nat) : Con Try.prog 84 (sig n) :=
  con_printW (hv := rfl) (T := T n) (TL := TL n) (c := Try.f84.body.getD .skip) (js := [2]) hMixed (conT_cons (laws_markText.con n) conT_none) Try.func84 (by decide) (by kernel_rfl) (by kernel_rfl) (by decide) (LoopDef.cons (d2 n) LoopDef.nil) (fun x q => by kernel_rfl)
end laws_markStringS
namespace laws_markRecAckS
@[reducible] def l2 : LSpec := ⟨[(0, .row true tRecAck), (1, .d (.int .i64)), (5, .d (.int .i64))], [(.exit 0, [(0, .row true tRecAck), (1, .d (.int .i64))])]⟩
def B2 (n : Nat) {R : Type} (next : Sden l2.inS → Option R) (cs : Conts R l2.outs) (x : Sden l2.inS) : Option R :=
  if (decide (x.2.2.1 < (List.length x.1 : Int))) = true then
    if (decide (0 ≤ x.2.2.1 ∧ x.2.2.1 < (List.length x.1 : Int))) = true then
      if (decide (0 ≤ x.2.2.1 ∧ x.2.2.1 < (List.length (List.set x.1 (Int.toNat x.2.2.1) (x.2.1, (List.getD x.1 (Int.toNat x.2.2.1) (Ty.zero tRecAck)).2)) : Int))) = true then
        (laws_markIntS.f n (List.getD (List.set x.1 (Int.toNat x.2.2.1) (x.2.1, (List.getD x.1 (Int.toNat x.2.2.1) (Ty.zero tRecAck)).2)) (Int.toNat x.2.2.1) (Ty.zero tRecAck)).2.1 ((IntKind.i64.wrap (x.2.1 + (1 : Int))), ())).bind fun y1 =>
        ((some (List.set (List.set x.1 (Int.toNat x.2.2.1) (x.2.1, (List.getD x.1 (Int.toNat x.2.2.1) (Ty.zero tRecAck)).2)) (Int.toNat x.2.2.1) ((List.getD (List.set x.1 (Int.toNat x.2.2.1) (x.2.1, (List.getD x.1 (Int.toNat x.2.2.1) (Ty.zero tRecAck)).2)) (Int.toNat x.2.2.1) (Ty.zero tRecAck)).1, y1.1, (List.getD (List.set x.1 (Int.toNat x.2.2.1) (x.2.1, (List.getD x.1 (Int.toNat x.2.2.1) (Ty.zero tRecAck)).2)) (Int.toNat x.2.2.1) (Ty.zero tRecAck)).2.2)) : Option (List (Ty.den tRecAck)))).bind fun w2 =>
        next (w2, y1.2.1, (IntKind.i64.wrap (x.2.2.1 + (1 : Int))), ())
      else
        none
    else
      none
  else
    cs.1 (x.1, x.2.1, ())
def f (n : Nat) (x : Ty.den (.slice tRecAck)) (q : Tup [(.int .i64)]) : Option (Ty.den (.slice tRecAck) × Tup [(.int .i64)]) :=
  runL (B2 n) ((fun z3 =>
      some (z3.1, z3.2.1, ())), ()) n (x, q.1, (0 : Int), ())
@[reducible] def sig (n : Nat) : Sig := ⟨[], [], false, fun _ => none, some ⟨(.slice tRecAck), [(.int .i64)], [(.int .i64)], f n, none⟩⟩
def T (n : Nat) : FuncId → Option Sig := fun g => if Nat.beq g 59 = true then some (laws_markIntS.sig n) else none
def TL (n : Nat) : Loops := fun j _ st k => if Nat.beq j 2 = true then (match dec st l2.inS [] with | some x => runL (B2 n) (contsOf k l2.outs) n x | none => none) else none
theorem d2 (n : Nat) : LoopDefL Try.prog (T n) (TL n) Try.f85 1 2 :=
  ⟨l2, fun R => B2 n, n, fun R st k => by kernel_rfl, fun R next cs x => by kernel_rfl⟩
theorem con (n : Nat) : Con Try.prog 85 (sig n) :=
  con_printW (hv := rfl) (T := T n) (TL := TL n) (c := Try.f85.body.getD .skip) (js := [2]) hMixed (conT_cons (laws_markIntS.con n) conT_none) Try.func85 (by decide) (by kernel_rfl) (by kernel_rfl) (by decide) (LoopDef.cons (d2 n) LoopDef.nil) (fun x q => by kernel_rfl)
end laws_markRecAckS
namespace laws_markRecorderS
@[reducible] def l2 : LSpec := ⟨[(0, .row true tRecorder), (1, .d (.int .i64)), (5, .d (.int .i64))], [(.exit 0, [(0, .row true tRecorder), (1, .d (.int .i64))])]⟩
def B2 (n : Nat) {R : Type} (next : Sden l2.inS → Option R) (cs : Conts R l2.outs) (x : Sden l2.inS) : Option R :=
  if (decide (x.2.2.1 < (List.length x.1 : Int))) = true then
    if (decide (0 ≤ x.2.2.1 ∧ x.2.2.1 < (List.length x.1 : Int))) = true then
      if (decide (0 ≤ x.2.2.1 ∧ x.2.2.1 < (List.length (List.set x.1 (Int.toNat x.2.2.1) (x.2.1, (List.getD x.1 (Int.toNat x.2.2.1) (Ty.zero tRecorder)).2)) : Int))) = true then
        ((some (List.set (List.set x.1 (Int.toNat x.2.2.1) (x.2.1, (List.getD x.1 (Int.toNat x.2.2.1) (Ty.zero tRecorder)).2)) (Int.toNat x.2.2.1) ((List.getD (List.set x.1 (Int.toNat x.2.2.1) (x.2.1, (List.getD x.1 (Int.toNat x.2.2.1) (Ty.zero tRecorder)).2)) (Int.toNat x.2.2.1) (Ty.zero tRecorder)).1, (IntKind.i64.wrap (x.2.1 + (1 : Int))), (List.getD (List.set x.1 (Int.toNat x.2.2.1) (x.2.1, (List.getD x.1 (Int.toNat x.2.2.1) (Ty.zero tRecorder)).2)) (Int.toNat x.2.2.1) (Ty.zero tRecorder)).2.2)) : Option (List (Ty.den tRecorder)))).bind fun w1 =>
        if ((3 : Int) != 0) = true then
          if (decide (0 ≤ x.2.2.1 ∧ x.2.2.1 < (List.length w1 : Int))) = true then
            ((some (List.set w1 (Int.toNat x.2.2.1) ((List.getD w1 (Int.toNat x.2.2.1) (Ty.zero tRecorder)).1, (List.getD w1 (Int.toNat x.2.2.1) (Ty.zero tRecorder)).2.1, ((Int.tmod (IntKind.i64.wrap ((IntKind.i64.wrap (x.2.1 + (1 : Int))) + (1 : Int))) (3 : Int)) == (0 : Int)), (List.getD w1 (Int.toNat x.2.2.1) (Ty.zero tRecorder)).2.2.2)) : Option (List (Ty.den tRecorder)))).bind fun w2 =>
            if (decide (0 ≤ x.2.2.1 ∧ x.2.2.1 < (List.length w2 : Int))) = true then
              ((some (List.set w2 (Int.toNat x.2.2.1) ((List.getD w2 (Int.toNat x.2.2.1) (Ty.zero tRecorder)).1, (List.getD w2 (Int.toNat x.2.2.1) (Ty.zero tRecorder)).2.1, (List.getD w2 (Int.toNat x.2.2.1) (Ty.zero tRecorder)).2.2.1, ((IntKind.i64.wrap ((IntKind.i64.wrap ((IntKind.i64.wrap (x.2.1 + (1 : Int))) + (1 : Int))) + (1 : Int))), (List.getD w2 (Int.toNat x.2.2.1) (Ty.zero tRecorder)).2.2.2.1.2), (List.getD w2 (Int.toNat x.2.2.1) (Ty.zero tRecorder)).2.2.2.2)) : Option (List (Ty.den tRecorder)))).bind fun w3 =>
              if (decide (0 ≤ x.2.2.1 ∧ x.2.2.1 < (List.length w3 : Int))) = true then
                ((some (List.set w3 (Int.toNat x.2.2.1) ((List.getD w3 (Int.toNat x.2.2.1) (Ty.zero tRecorder)).1, (List.getD w3 (Int.toNat x.2.2.1) (Ty.zero tRecorder)).2.1, (List.getD w3 (Int.toNat x.2.2.1) (Ty.zero tRecorder)).2.2.1, ((List.getD w3 (Int.toNat x.2.2.1) (Ty.zero tRecorder)).2.2.2.1.1, (IntKind.i64.wrap ((IntKind.i64.wrap ((IntKind.i64.wrap ((IntKind.i64.wrap (x.2.1 + (1 : Int))) + (1 : Int))) + (1 : Int))) + (1 : Int))), (List.getD w3 (Int.toNat x.2.2.1) (Ty.zero tRecorder)).2.2.2.1.2.2), (List.getD w3 (Int.toNat x.2.2.1) (Ty.zero tRecorder)).2.2.2.2)) : Option (List (Ty.den tRecorder)))).bind fun w4 =>
                if (decide (0 ≤ x.2.2.1 ∧ x.2.2.1 < (List.length w4 : Int))) = true then
                  (laws_markRecSlotS.f n (List.getD w4 (Int.toNat x.2.2.1) (Ty.zero tRecorder)).2.2.2.1.2.2.1 ((IntKind.i64.wrap ((IntKind.i64.wrap ((IntKind.i64.wrap ((IntKind.i64.wrap ((IntKind.i64.wrap (x.2.1 + (1 : Int))) + (1 : Int))) + (1 : Int))) + (1 : Int))) + (1 : Int))), ())).bind fun y5 =>
                  ((some (List.set w4 (Int.toNat x.2.2.1) ((List.getD w4 (Int.toNat x.2.2.1) (Ty.zero tRecorder)).1, (List.getD w4 (Int.toNat x.2.2.1) (Ty.zero tRecorder)).2.1, (List.getD w4 (Int.toNat x.2.2.1) (Ty.zero tRecorder)).2.2.1, ((List.getD w4 (Int.toNat x.2.2.1) (Ty.zero tRecorder)).2.2.2.1.1, (List.getD w4 (Int.toNat x.2.2.1) (Ty.zero tRecorder)).2.2.2.1.2.1, y5.1, (List.getD w4 (Int.toNat x.2.2.1) (Ty.zero tRecorder)).2.2.2.1.2.2.2), (List.getD w4 (Int.toNat x.2.2.1) (Ty.zero tRecorder)).2.2.2.2)) : Option (List (Ty.den tRecorder)))).bind fun w6 =>
                  if (decide (0 ≤ x.2.2.1 ∧ x.2.2.1 < (List.length w6 : Int))) = true then
                    ((some (List.set w6 (Int.toNat x.2.2.1) ((List.getD w6 (Int.toNat x.2.2.1) (Ty.zero tRecorder)).1, (List.getD w6 (Int.toNat x.2.2.1) (Ty.zero tRecorder)).2.1, (List.getD w6 (Int.toNat x.2.2.1) (Ty.zero tRecorder)).2.2.1, (List.getD w6 (Int.toNat x.2.2.1) (Ty.zero tRecorder)).2.2.2.1, (y5.2.1, (List.getD w6 (Int.toNat x.2.2.1) (Ty.zero tRecorder)).2.2.2.2.1.2), (List.getD w6 (Int.toNat x.2.2.1) (Ty.zero tRecorder)).2.2.2.2.2)) : Option (List (Ty.den tRecorder)))).bind fun w7 =>
                    if (decide (0 ≤ x.2.2.1 ∧ x.2.2.1 < (List.length w7 : Int))) = true then
                      ((some (List.set w7 (Int.toNat x.2.2.1) ((List.getD w7 (Int.toNat x.2.2.1) (Ty.zero tRecorder)).1, (List.getD w7 (Int.toNat x.2.2.1) (Ty.zero tRecorder)).2.1, (List.getD w7 (Int.toNat x.2.2.1) (Ty.zero tRecorder)).2.2.1, (List.getD w7 (Int.toNat x.2.2.1) (Ty.zero tRecorder)).2.2.2.1, ((List.getD w7 (Int.toNat x.2.2.1) (Ty.zero tRecorder)).2.2.2.2.1.1, (IntKind.i64.wrap (y5.2.1 + (1 : Int))), (List.getD w7 (Int.toNat x.2.2.1) (Ty.zero tRecorder)).2.2.2.2.1.2.2), (List.getD w7 (Int.toNat x.2.2.1) (Ty.zero tRecorder)).2.2.2.2.2)) : Option (List (Ty.den tRecorder)))).bind fun w8 =>
                      if (decide (0 ≤ x.2.2.1 ∧ x.2.2.1 < (List.length w8 : Int))) = true then
                        (laws_markRecSlotS.f n (List.getD w8 (Int.toNat x.2.2.1) (Ty.zero tRecorder)).2.2.2.2.1.2.2.1 ((IntKind.i64.wrap ((IntKind.i64.wrap (y5.2.1 + (1 : Int))) + (1 : Int))), ())).bind fun y9 =>
                        ((some (List.set w8 (Int.toNat x.2.2.1) ((List.getD w8 (Int.toNat x.2.2.1) (Ty.zero tRecorder)).1, (List.getD w8 (Int.toNat x.2.2.1) (Ty.zero tRecorder)).2.1, (List.getD w8 (Int.toNat x.2.2.1) (Ty.zero tRecorder)).2.2.1, (List.getD w8 (Int.toNat x.2.2.1) (Ty.zero tRecorder)).2.2.2.1, ((List.getD w8 (Int.toNat x.2.2.1) (Ty.zero tRecorder)).2.2.2.2.1.1, (List.getD w8 (Int.toNat x.2.2.1) (Ty.zero tRecorder)).2.2.2.2.1.2.1, y9.1, (List.getD w8 (Int.toNat x.2.2.1) (Ty.zero tRecorder)).2.2.2.2.1.2.2.2), (List.getD w8 (Int.toNat x.2.2.1) (Ty.zero tRecorder)).2.2.2.2.2)) : Option (List (Ty.den tRecorder)))).bind fun w10 =>
                        if (decide (0 ≤ x.2.2.1 ∧ x.2.2.1 < (List.length w10 : Int))) = true then
                          (laws_markRecMessageS.f n (List.getD w10 (Int.toNat x.2.2.1) (Ty.zero tRecorder)).2.2.2.2.2.1 (y9.2.1, ())).bind fun y11 =>
                          ((some (List.set w10 (Int.toNat x.2.2.1) ((List.getD w10 (Int.toNat x.2.2.1) (Ty.zero tRecorder)).1, (List.getD w10 (Int.toNat x.2.2.1) (Ty.zero tRecorder)).2.1, (List.getD w10 (Int.toNat x.2.2.1) (Ty.zero tRecorder)).2.2.1, (List.getD w10 (Int.toNat x.2.2.1) (Ty.zero tRecorder)).2.2.2.1, (List.getD w10 (Int.toNat x.2.2.1) (Ty.zero tRecorder)).2.2.2.2.1, y11.1, (List.getD w10 (Int.toNat x.2.2.1) (Ty.zero tRecorder)).2.2.2.2.2.2)) : Option (List (Ty.den tRecorder)))).bind fun w12 =>
                          if (decide (0 ≤ x.2.2.1 ∧ x.2.2.1 < (List.length w12 : Int))) = true then
                            (laws_markStringS.f n (List.getD w12 (Int.toNat x.2.2.1) (Ty.zero tRecorder)).2.2.2.2.2.2.1 (y11.2.1, ())).bind fun y13 =>
                            ((some (List.set w12 (Int.toNat x.2.2.1) ((List.getD w12 (Int.toNat x.2.2.1) (Ty.zero tRecorder)).1, (List.getD w12 (Int.toNat x.2.2.1) (Ty.zero tRecorder)).2.1, (List.getD w12 (Int.toNat x.2.2.1) (Ty.zero tRecorder)).2.2.1, (List.getD w12 (Int.toNat x.2.2.1) (Ty.zero tRecorder)).2.2.2.1, (List.getD w12 (Int.toNat x.2.2.1) (Ty.zero tRecorder)).2.2.2.2.1, (List.getD w12 (Int.toNat x.2.2.1) (Ty.zero tRecorder)).2.2.2.2.2.1, y13.1, (List.getD w12 (Int.toNat x.2.2.1) (Ty.zero tRecorder)).2.2.2.2.2.2.2)) : Option (List (Ty.den tRecorder)))).bind fun w14 =>
                            if ((3 : Int) != 0) = true then
                              if (decide (0 ≤ x.2.2.1 ∧ x.2.2.1 < (List.length w14 : Int))) = true then
                                ((some (List.set w14 (Int.toNat x.2.2.1) ((List.getD w14 (Int.toNat x.2.2.1) (Ty.zero tRecorder)).1, (List.getD w14 (Int.toNat x.2.2.1) (Ty.zero tRecorder)).2.1, (List.getD w14 (Int.toNat x.2.2.1) (Ty.zero tRecorder)).2.2.1, (List.getD w14 (Int.toNat x.2.2.1) (Ty.zero tRecorder)).2.2.2.1, (List.getD w14 (Int.toNat x.2.2.1) (Ty.zero tRecorder)).2.2.2.2.1, (List.getD w14 (Int.toNat x.2.2.1) (Ty.zero tRecorder)).2.2.2.2.2.1, (List.getD w14 (Int.toNat x.2.2.1) (Ty.zero tRecorder)).2.2.2.2.2.2.1, ((Int.tmod y13.2.1 (3 : Int)) == (0 : Int)), (List.getD w14 (Int.toNat x.2.2.1) (Ty.zero tRecorder)).2.2.2.2.2.2.2.2)) : Option (List (Ty.den tRecorder)))).bind fun w15 =>
                                if ((3 : Int) != 0) = true then
                                  if (decide (0 ≤ x.2.2.1 ∧ x.2.2.1 < (List.length w15 : Int))) = true then
                                    ((some (List.set w15 (Int.toNat x.2.2.1) ((List.getD w15 (Int.toNat x.2.2.1) (Ty.zero tRecorder)).1, (List.getD w15 (Int.toNat x.2.2.1) (Ty.zero tRecorder)).2.1, (List.getD w15 (Int.toNat x.2.2.1) (Ty.zero tRecorder)).2.2.1, (List.getD w15 (Int.toNat x.2.2.1) (Ty.zero tRecorder)).2.2.2.1, (List.getD w15 (Int.toNat x.2.2.1) (Ty.zero tRecorder)).2.2.2.2.1, (List.getD w15 (Int.toNat x.2.2.1) (Ty.zero tRecorder)).2.2.2.2.2.1, (List.getD w15 (Int.toNat x.2.2.1) (Ty.zero tRecorder)).2.2.2.2.2.2.1, (List.getD w15 (Int.toNat x.2.2.1) (Ty.zero tRecorder)).2.2.2.2.2.2.2.1, ((Int.tmod (IntKind.i64.wrap (y13.2.1 + (1 : Int))) (3 : Int)) == (0 : Int)), (List.getD w15 (Int.toNat x.2.2.1) (Ty.zero tRecorder)).2.2.2.2.2.2.2.2.2)) : Option (List (Ty.den tRecorder)))).bind fun w16 =>
                                    if (decide (0 ≤ x.2.2.1 ∧ x.2.2.1 < (List.length w16 : Int))) = true then
                                      ((some (List.set w16 (Int.toNat x.2.2.1) ((List.getD w16 (Int.toNat x.2.2.1) (Ty.zero tRecorder)).1, (List.getD w16 (Int.toNat x.2.2.1) (Ty.zero tRecorder)).2.1, (List.getD w16 (Int.toNat x.2.2.1) (Ty.zero tRecorder)).2.2.1, (List.getD w16 (Int.toNat x.2.2.1) (Ty.zero tRecorder)).2.2.2.1, (List.getD w16 (Int.toNat x.2.2.1) (Ty.zero tRecorder)).2.2.2.2.1, (List.getD w16 (Int.toNat x.2.2.1) (Ty.zero tRecorder)).2.2.2.2.2.1, (List.getD w16 (Int.toNat x.2.2.1) (Ty.zero tRecorder)).2.2.2.2.2.2.1, (List.getD w16 (Int.toNat x.2.2.1) (Ty.zero tRecorder)).2.2.2.2.2.2.2.1, (List.getD w16 (Int.toNat x.2.2.1) (Ty.zero tRecorder)).2.2.2.2.2.2.2.2.1, (IntKind.i64.wrap ((IntKind.i64.wrap (y13.2.1 + (1 : Int))) + (1 : Int))), (List.getD w16 (Int.toNat x.2.2.1) (Ty.zero tRecorder)).2.2.2.2.2.2.2.2.2.2)) : Option (List (Ty.den tRecorder)))).bind fun w17 =>
                                      if (decide (0 ≤ x.2.2.1 ∧ x.2.2.1 < (List.length w17 : Int))) = true then
                                        (laws_markIntS.f n (List.getD w17 (Int.toNat x.2.2.1) (Ty.zero tRecorder)).2.2.2.2.2.2.2.2.2.2.1 ((IntKind.i64.wrap ((IntKind.i64.wrap ((IntKind.i64.wrap (y13.2.1 + (1 : Int))) + (1 : Int))) + (1 : Int))), ())).bind fun y18 =>
                                        ((some (List.set w17 (Int.toNat x.2.2.1) ((List.getD w17 (Int.toNat x.2.2.1) (Ty.zero tRecorder)).1, (List.getD w17 (Int.toNat x.2.2.1) (Ty.zero tRecorder)).2.1, (List.getD w17 (Int.toNat x.2.2.1) (Ty.zero tRecorder)).2.2.1, (List.getD w17 (Int.toNat x.2.2.1) (Ty.zero tRecorder)).2.2.2.1, (List.getD w17 (Int.toNat x.2.2.1) (Ty.zero tRecorder)).2.2.2.2.1, (List.getD w17 (Int.toNat x.2.2.1) (Ty.zero tRecorder)).2.2.2.2.2.1, (List.getD w17 (Int.toNat x.2.2.1) (Ty.zero tRecorder)).2.2.2.2.2.2.1, (List.getD w17 (Int.toNat x.2.2.1) (Ty.zero tRecorder)).2.2.2.2.2.2.2.1, (List.getD w17 (Int.toNat x.2.2.1) (Ty.zero tRecorder)).2.2.2.2.2.2.2.2.1, (List.getD w17 (Int.toNat x.2.2.1) (Ty.zero tRecorder)).2.2.2.2.2.2.2.2.2.1, y18.1, (List.getD w17 (Int.toNat x.2.2.1) (Ty.zero tRecorder)).2.2.2.2.2.2.2.2.2.2.2)) : Option (List (Ty.den tRecorder)))).bind fun w19 =>
                                        if (decide (0 ≤ x.2.2.1 ∧ x.2.2.1 < (List.length w19 : Int))) = true then
                                          (laws_markRecSlotS.f n (List.getD w19 (Int.toNat x.2.2.1) (Ty.zero tRecorder)).2.2.2.2.2.2.2.2.2.2.2.1 (y18.2.1, ())).bind fun y20 =>
                                          ((some (List.set w19 (Int.toNat x.2.2.1) ((List.getD w19 (Int.toNat x.2.2.1) (Ty.zero tRecorder)).1, (List.getD w19 (Int.toNat x.2.2.1) (Ty.zero tRecorder)).2.1, (List.getD w19 (Int.toNat x.2.2.1) (Ty.zero tRecorder)).2.2.1, (List.getD w19 (Int.toNat x.2.2.1) (Ty.zero tRecorder)).2.2.2.1, (List.getD w19 (Int.toNat x.2.2.1) (Ty.zero tRecorder)).2.2.2.2.1, (List.getD w19 (Int.toNat x.2.2.1) (Ty.zero tRecorder)).2.2.2.2.2.1, (List.getD w19 (Int.toNat x.2.2.1) (Ty.zero tRecorder)).2.2.2.2.2.2.1, (List.getD w19 (Int.toNat x.2.2.1) (Ty.zero tRecorder)).2.2.2.2.2.2.2.1, (List.getD w19 (Int.toNat x.2.2.1) (Ty.zero tRecorder)).2.2.2.2.2.2.2.2.1, (List.getD w19 (Int.toNat x.2.2.1) (Ty.zero tRecorder)).2.2.2.2.2.2.2.2.2.1, (List.getD w19 (Int.toNat x.2.2.1) (Ty.zero tRecorder)).2.2.2.2.2.2.2.2.2.2.1, y20.1, (List.getD w19 (Int.toNat x.2.2.1) (Ty.zero tRecorder)).2.2.2.2.2.2.2.2.2.2.2.2)) : Option (List (Ty.den tRecorder)))).bind fun w21 =>
                                          if (decide (0 ≤ x.2.2.1 ∧ x.2.2.1 < (List.length w21 : Int))) = true then
                                            (laws_markRecAckS.f n (List.getD w21 (Int.toNat x.2.2.1) (Ty.zero tRecorder)).2.2.2.2.2.2.2.2.2.2.2.2.1 (y20.2.1, ())).bind fun y22 =>
                                            ((some (List.set w21 (Int.toNat x.2.2.1) ((List.getD w21 (Int.toNat x.2.2.1) (Ty.zero tRecorder)).1, (List.getD w21 (Int.toNat x.2.2.1) (Ty.zero tRecorder)).2.1, (List.getD w21 (Int.toNat x.2.2.1) (Ty.zero tRecorder)).2.2.1, (List.getD w21 (Int.toNat x.2.2.1) (Ty.zero tRecorder)).2.2.2.1, (List.getD w21 (Int.toNat x.2.2.1) (Ty.zero tRecorder)).2.2.2.2.1, (List.getD w21 (Int.toNat x.2.2.1) (Ty.zero tRecorder)).2.2.2.2.2.1, (List.getD w21 (Int.toNat x.2.2.1) (Ty.zero tRecorder)).2.2.2.2.2.2.1, (List.getD w21 (Int.toNat x.2.2.1) (Ty.zero tRecorder)).2.2.2.2.2.2.2.1, (List.getD w21 (Int.toNat x.2.2.1) (Ty.zero tRecorder)).2.2.2.2.2.2.2.2.1, (List.getD w21 (Int.toNat x.2.2.1) (Ty.zero tRecorder)).2.2.2.2.2.2.2.2.2.1, (List.getD w21 (Int.toNat x.2.2.1) (Ty.zero tRecorder)).2.2.2.2.2.2.2.2.2.2.1, (List.getD w21 (Int.toNat x.2.2.1) (Ty.zero tRecorder)).2.2.2.2.2.2.2.2.2.2.2.1, y22.1, (List.getD w21 (Int.toNat x.2.2.1) (Ty.zero tRecorder)).2.2.2.2.2.2.2.2.2.2.2.2.2)) : Option (List (Ty.den tRecorder)))).bind fun w23 =>
                                            if (decide (0 ≤ x.2.2.1 ∧ x.2.2.1 < (List.length w23 : Int))) = true then
                                              ((some (List.set w23 (Int.toNat x.2.2.1) ((List.getD w23 (Int.toNat x.2.2.1) (Ty.zero tRecorder)).1, (List.getD w23 (Int.toNat x.2.2.1) (Ty.zero tRecorder)).2.1, (List.getD w23 (Int.toNat x.2.2.1) (Ty.zero tRecorder)).2.2.1, (List.getD w23 (Int.toNat x.2.2.1) (Ty.zero tRecorder)).2.2.2.1, (List.getD w23 (Int.toNat x.2.2.1) (Ty.zero tRecorder)).2.2.2.2.1, (List.getD w23 (Int.toNat x.2.2.1) (Ty.zero tRecorder)).2.2.2.2.2.1, (List.getD w23 (Int.toNat x.2.2.1) (Ty.zero tRecorder)).2.2.2.2.2.2.1, (List.getD w23 (Int.toNat x.2.2.1) (Ty.zero tRecorder)).2.2.2.2.2.2.2.1, (List.getD w23 (Int.toNat x.2.2.1) (Ty.zero tRecorder)).2.2.2.2.2.2.2.2.1, (List.getD w23 (Int.toNat x.2.2.1) (Ty.zero tRecorder)).2.2.2.2.2.2.2.2.2.1, (List.getD w23 (Int.toNat x.2.2.1) (Ty.zero tRecorder)).2.2.2.2.2.2.2.2.2.2.1, (List.getD w23 (Int.toNat x.2.2.1) (Ty.zero tRecorder)).2.2.2.2.2.2.2.2.2.2.2.1, (List.getD w23 (Int.toNat x.2.2.1) (Ty.zero tRecorder)).2.2.2.2.2.2.2.2.2.2.2.2.1, y22.2.1, ())) : Option (List (Ty.den tRecorder)))).bind fun w24 =>
                                              next (w24, (IntKind.i64.wrap (y22.2.1 + (1 : Int))), (IntKind.i64.wrap (x.2.2.1 + (1 : Int))), ())
                                            else
                                              none
                                          else
                                            none
                                        else
                                          none
                                      else
                                        none
                                    else
                                      none
                                  else
                                    none
                                else
                                  none
                              else
                                none
                            else
                              none
                          else
                            none
                        else
                          none
                      else
                        none
                    else
                      none
                  else
                    none
                else
                  none
              else
                none
            else
              none
          else
            none
        else
          none
      else
        none
    else
      none
  else
    cs.1 (x.1, x.2.1, ())
def f (n : Nat) (x : Ty.den (.slice tRecorder)) (q : Tup [(.int .i64)]) : Option (Ty.den (.slice tRecorder) × Tup [(.int .i64)]) :=
  runL (B2 n) ((fun z25 =>
      some (z25.1, z25.2.1, ())), ()) n (x, q.1, (0 : Int), ())
@[reducible] def sig (n : Nat) : Sig := ⟨[], [], false, fun _ => none, some ⟨(.slice tRecorder), [(.int .i64)], [(.int .i64)], f n, none⟩⟩
def T (n : Nat) : FuncId → Option Sig := fun g => if Nat.beq g 59 = true then some (laws_markIntS.sig n) else if Nat.beq g 61 = true then some (laws_markRecMessageS.sig n) else if Nat.beq g 83 = true then some (laws_markRecSlotS.sig n) else if Nat.beq g 84 = true then some (laws_markStringS.sig n) else if Nat.beq g 85 = true then some (laws_markRecAckS.sig n) else none
def TL (n : Nat) : Loops := fun j _ st k => if Nat.beq j 2 = true then (match dec st l2.inS [] with | some x => runL (B2 n) (contsOf k l2.outs) n x | none => none) else none
theorem d2 (n : Nat) : LoopDefL Try.prog (T n) (TL n) Try.f60 1 2 :=
  ⟨l2, fun R => B2 n, n, fun R st k => by kernel_rfl, fun R next cs x => by kernel_rfl⟩
theorem con (n : Nat) : Con Try.prog 60 (sig n) :=
  con_printW (hv := rfl) (T := T n) (TL := TL n) (c := Try.f60.body.getD .skip) (js := [2]) hMixed (conT_cons (laws_markIntS.con n) (conT_cons (laws_markRecMessageS.con n) (conT_cons (laws_markRecSlotS.con n) (conT_cons (laws_markStringS.con n) (conT_cons (laws_markRecAckS.con n) conT_none))))) Try.func60 (by decide) (by kernel_rfl) (by kernel_rfl) (by decide) (LoopDef.cons (d2 n) LoopDef.nil) (fun x q => by kernel_rfl)
end laws_markRecorderS
namespace laws_markRecFixS
@[reducible] def l2 : LSpec := ⟨[(0, .row true tRecSlot), (1, .d (.int .i64)), (5, .d (.int .i64))], [(.exit 0, [(0, .row true tRecSlot), (1, .d (.int .i64))])]⟩
def B2 (n : Nat) {R : Type} (next : Sden l2.inS → Option R) (cs : Conts R l2.outs) (x : Sden l2.inS) : Option R :=
  if (decide (x.2.2.1 < (List.length x.1 : Int))) = true then
    if (decide (0 ≤ x.2.2.1 ∧ x.2.2.1 < (List.length x.1 : Int))) = true then
      (laws_markText.f n ((IntKind.i64.wrap (x.2.1 + (1 : Int))), ())).bind fun y1 =>
      if (decide (0 ≤ x.2.2.1 ∧ x.2.2.1 < (List.length (List.set x.1 (Int.toNat x.2.2.1) (x.2.1, (List.getD x.1 (Int.toNat x.2.2.1) (Ty.zero tRecSlot)).2)) : Int))) = true then
        ((some (List.set (List.set x.1 (Int.toNat x.2.2.1) (x.2.1, (List.getD x.1 (Int.toNat x.2.2.1) (Ty.zero tRecSlot)).2)) (Int.toNat x.2.2.1) ((List.getD (List.set x.1 (Int.toNat x.2.2.1) (x.2.1, (List.getD x.1 (Int.toNat x.2.2.1) (Ty.zero tRecSlot)).2)) (Int.toNat x.2.2.1) (Ty.zero tRecSlot)).1, y1.1, ())) : Option (List (Ty.den tRecSlot)))).bind fun w2 =>
        next (w2, (IntKind.i64.wrap ((IntKind.i64.wrap (x.2.1 + (1 : Int))) + (1 : Int))), (IntKind.i64.wrap (x.2.2.1 + (1 : Int))), ())
      else
        none
    else
      none
  else
    cs.1 (x.1, x.2.1, ())
def f (n : Nat) (x : Ty.den (.slice tRecSlot)) (q : Tup [(.int .i64)]) : Option (Ty.den (.slice tRecSlot) × Tup [(.int .i64)]) :=
  runL (B2 n) ((fun z3 =>
      some (z3.1, z3.2.1, ())), ()) n (x, q.1, (0 : Int), ())
@[reducible] def sig (n : Nat) : Sig := ⟨[], [], false, fun _ => none, some ⟨(.slice tRecSlot), [(.int .i64)], [(.int .i64)], f n, none⟩⟩
def T (n : Nat) : FuncId → Option Sig := fun g => if Nat.beq g 58 = true then some (laws_markText.sig n) else none
def TL (n : Nat) : Loops := fun j _ st k => if Nat.beq j 2 = true then (match dec st l2.inS [] with | some x => runL (B2 n) (contsOf k l2.outs) n x | none => none) else none
theorem d2 (n : Nat) : LoopDefL Try.prog (T n) (TL n) Try.f62 1 2 :=
  ⟨l2, fun R => B2 n, n, fun R st k => by kernel_rfl, fun R next cs x => by kernel_rfl⟩
theorem con (n : Nat) : Con Try.prog 62 (sig n) :=
  con_printW (hv := rfl) (T := T n) (TL := TL n) (c := Try.f62.body.getD .skip) (js := [2]) hMixed (conT_cons (laws_markText.con n) conT_none) Try.func62 (by decide) (by kernel_rfl) (by kernel_rfl) (by decide) (LoopDef.cons (d2 n) LoopDef.nil) (fun x q => by kernel_rfl)
end laws_markRecFixS
namespace laws_markRecWorld
def f (n : Nat) (x : Ty.den tRecWorld) (q : Tup [(.int .i64)]) : Option (Ty.den tRecWorld × Tup [(.int .i64)]) :=
  (laws_markRecorderS.f n x.1 (q.1, ())).bind fun y1 =>
  (laws_markRecMessageS.f n x.2.1 (y1.2.1, ())).bind fun y2 =>
  (laws_markRecFixS.f n x.2.2.1 (y2.2.1, ())).bind fun y3 =>
  some ((y1.1, y2.1, y3.1, ()), y3.2.1, ())
@[reducible] def sig (n : Nat) : Sig := ⟨[], [], false, fun _ => none, some ⟨tRecWorld, [(.int .i64)], [(.int .i64)], f n, none⟩⟩
def T (n : Nat) : FuncId → Option Sig := fun g => if Nat.beq g 60 = true then some (laws_markRecorderS.sig n) else if Nat.beq g 61 = true then some (laws_markRecMessageS.sig n) else if Nat.beq g 62 = true then some (laws_markRecFixS.sig n) else none
def TL (n : Nat) : Loops := fun j _ st k => none
theorem con (n : Nat) : Con Try.prog 30 (sig n) :=
  con_printW (hv := rfl) (T := T n) (TL := TL n) (c := Try.f30.body.getD .skip) (js := []) hMixed (conT_cons (laws_markRecorderS.con n) (conT_cons (laws_markRecMessageS.con n) (conT_cons (laws_markRecFixS.con n) conT_none))) Try.func30 (by decide) (by kernel_rfl) (by kernel_rfl) (by decide) LoopDef.nil (fun x q => by kernel_rfl)
end laws_markRecWorld
namespace laws_markHallAskedS
@[reducible] def l2 : LSpec := ⟨[(0, .row true tHallAsked), (1, .d (.int .i64)), (5, .d (.int .i64))], [(.exit 0, [(0, .row true tHallAsked), (1, .d (.int .i64))])]⟩
def B2 (n : Nat) {R : Type} (next : Sden l2.inS → Option R) (cs : Conts R l2.outs) (x : Sden l2.inS) : Option R :=
  if (decide (x.2.2.1 < (List.length x.1 : Int))) = true then
    (laws_markText.f n (x.2.1, ())).bind fun y1 =>
    if (decide (0 ≤ x.2.2.1 ∧ x.2.2.1 < (List.length x.1 : Int))) = true then
      if (decide (0 ≤ x.2.2.1 ∧ x.2.2.1 < (List.length (List.set x.1 (Int.toNat x.2.2.1) (y1.1, (List.getD x.1 (Int.toNat x.2.2.1) (Ty.zero tHallAsked)).2)) : Int))) = true then
        ((some (List.set (List.set x.1 (Int.toNat x.2.2.1) (y1.1, (List.getD x.1 (Int.toNat x.2.2.1) (Ty.zero tHallAsked)).2)) (Int.toNat x.2.2.1) ((List.getD (List.set x.1 (Int.toNat x.2.2.1) (y1.1, (List.getD x.1 (Int.toNat x.2.2.1) (Ty.zero tHallAsked)).2)) (Int.toNat x.2.2.1) (Ty.zero tHallAsked)).1, (IntKind.i64.wrap (x.2.1 + (1 : Int))), (List.getD (List.set x.1 (Int.toNat x.2.2.1) (y1.1, (List.getD x.1 (Int.toNat x.2.2.1) (Ty.zero tHallAsked)).2)) (Int.toNat x.2.2.1) (Ty.zero tHallAsked)).2.2)) : Option (List (Ty.den tHallAsked)))).bind fun w2 =>
        if (decide (0 ≤ x.2.2.1 ∧ x.2.2.1 < (List.length w2 : Int))) = true then
          ((some (List.set w2 (Int.toNat x.2.2.1) ((List.getD w2 (Int.toNat x.2.2.1) (Ty.zero tHallAsked)).1, (List.getD w2 (Int.toNat x.2.2.1) (Ty.zero tHallAsked)).2.1, (IntKind.i64.wrap ((IntKind.i64.wrap (x.2.1 + (1 : Int))) + (1 : Int))), (List.getD w2 (Int.toNat x.2.2.1) (Ty.zero tHallAsked)).2.2.2)) : Option (List (Ty.den tHallAsked)))).bind fun w3 =>
          if (decide (0 ≤ x.2.2.1 ∧ x.2.2.1 < (List.length w3 : Int))) = true then
            ((some (List.set w3 (Int.toNat x.2.2.1) ((List.getD w3 (Int.toNat x.2.2.1) (Ty.zero tHallAsked)).1, (List.getD w3 (Int.toNat x.2.2.1) (Ty.zero tHallAsked)).2.1, (List.getD w3 (Int.toNat x.2.2.1) (Ty.zero tHallAsked)).2.2.1, ((IntKind.i64.wrap ((IntKind.i64.wrap ((IntKind.i64.wrap (x.2.1 + (1 : Int))) + (1 : Int))) + (1 : Int))), (List.getD w3 (Int.toNat x.2.2.1) (Ty.zero tHallAsked)).2.2.2.1.2), ())) : Option (List (Ty.den tHallAsked)))).bind fun w4 =>
            if (decide (0 ≤ x.2.2.1 ∧ x.2.2.1 < (List.length w4 : Int))) = true then
              ((some (List.set w4 (Int.toNat x.2.2.1) ((List.getD w4 (Int.toNat x.2.2.1) (Ty.zero tHallAsked)).1, (List.getD w4 (Int.toNat x.2.2.1) (Ty.zero tHallAsked)).2.1, (List.getD w4 (Int.toNat x.2.2.1) (Ty.zero tHallAsked)).2.2.1, ((List.getD w4 (Int.toNat x.2.2.1) (Ty.zero tHallAsked)).2.2.2.1.1, (IntKind.i64.wrap ((IntKind.i64.wrap ((IntKind.i64.wrap ((IntKind.i64.wrap (x.2.1 + (1 : Int))) + (1 : Int))) + (1 : Int))) + (1 : Int))), (List.getD w4 (Int.toNat x.2.2.1) (Ty.zero tHallAsked)).2.2.2.1.2.2), ())) : Option (List (Ty.den tHallAsked)))).bind fun w5 =>
              if (decide (0 ≤ x.2.2.1 ∧ x.2.2.1 < (List.length w5 : Int))) = true then
                ((some (List.set w5 (Int.toNat x.2.2.1) ((List.getD w5 (Int.toNat x.2.2.1) (Ty.zero tHallAsked)).1, (List.getD w5 (Int.toNat x.2.2.1) (Ty.zero tHallAsked)).2.1, (List.getD w5 (Int.toNat x.2.2.1) (Ty.zero tHallAsked)).2.2.1, ((List.getD w5 (Int.toNat x.2.2.1) (Ty.zero tHallAsked)).2.2.2.1.1, (List.getD w5 (Int.toNat x.2.2.1) (Ty.zero tHallAsked)).2.2.2.1.2.1, (IntKind.i64.wrap ((IntKind.i64.wrap ((IntKind.i64.wrap ((IntKind.i64.wrap ((IntKind.i64.wrap (x.2.1 + (1 : Int))) + (1 : Int))) + (1 : Int))) + (1 : Int))) + (1 : Int))), ()), ())) : Option (List (Ty.den tHallAsked)))).bind fun w6 =>
                next (w6, (IntKind.i64.wrap ((IntKind.i64.wrap ((IntKind.i64.wrap ((IntKind.i64.wrap ((IntKind.i64.wrap ((IntKind.i64.wrap (x.2.1 + (1 : Int))) + (1 : Int))) + (1 : Int))) + (1 : Int))) + (1 : Int))) + (1 : Int))), (IntKind.i64.wrap (x.2.2.1 + (1 : Int))), ())
              else
                none
            else
              none
          else
            none
        else
          none
      else
        none
    else
      none
  else
    cs.1 (x.1, x.2.1, ())
def f (n : Nat) (x : Ty.den (.slice tHallAsked)) (q : Tup [(.int .i64)]) : Option (Ty.den (.slice tHallAsked) × Tup [(.int .i64)]) :=
  runL (B2 n) ((fun z7 =>
      some (z7.1, z7.2.1, ())), ()) n (x, q.1, (0 : Int), ())
@[reducible] def sig (n : Nat) : Sig := ⟨[], [], false, fun _ => none, some ⟨(.slice tHallAsked), [(.int .i64)], [(.int .i64)], f n, none⟩⟩
def T (n : Nat) : FuncId → Option Sig := fun g => if Nat.beq g 58 = true then some (laws_markText.sig n) else none
def TL (n : Nat) : Loops := fun j _ st k => if Nat.beq j 2 = true then (match dec st l2.inS [] with | some x => runL (B2 n) (contsOf k l2.outs) n x | none => none) else none
theorem d2 (n : Nat) : LoopDefL Try.prog (T n) (TL n) Try.f31 1 2 :=
  ⟨l2, fun R => B2 n, n, fun R st k => by kernel_rfl, fun R next cs x => by kernel_rfl⟩
theorem con (n : Nat) : Con Try.prog 31 (sig n) :=
  con_printW (hv := rfl) (T := T n) (TL := TL n) (c := Try.f31.body.getD .skip) (js := [2]) hMixed (conT_cons (laws_markText.con n) conT_none) Try.func31 (by decide) (by kernel_rfl) (by kernel_rfl) (by decide) (LoopDef.cons (d2 n) LoopDef.nil) (fun x q => by kernel_rfl)
end laws_markHallAskedS
namespace laws_markHallWorld
def f (n : Nat) (x : Ty.den tHallWorld) (q : Tup [(.int .i64)]) : Option (Ty.den tHallWorld × Tup [(.int .i64)]) :=
  (laws_markHallHouse.f n x.1 (q.1, ())).bind fun y1 =>
  (laws_markRecWorld.f n x.2.1 (y1.2.1, ())).bind fun y2 =>
  (laws_markHallAskedS.f n x.2.2.2.1 (y2.2.1, ())).bind fun y3 =>
  some ((y1.1, y2.1, x.2.2.1, y3.1, ()), y3.2.1, ())
@[reducible] def sig (n : Nat) : Sig := ⟨[], [], false, fun _ => none, some ⟨tHallWorld, [(.int .i64)], [(.int .i64)], f n, none⟩⟩
def T (n : Nat) : FuncId → Option Sig := fun g => if Nat.beq g 10 = true then some (laws_markHallHouse.sig n) else if Nat.beq g 30 = true then some (laws_markRecWorld.sig n) else if Nat.beq g 31 = true then some (laws_markHallAskedS.sig n) else none
def TL (n : Nat) : Loops := fun j _ st k => none
theorem con (n : Nat) : Con Try.prog 11 (sig n) :=
  con_printW (hv := rfl) (T := T n) (TL := TL n) (c := Try.f11.body.getD .skip) (js := []) hMixed (conT_cons (laws_markHallHouse.con n) (conT_cons (laws_markRecWorld.con n) (conT_cons (laws_markHallAskedS.con n) conT_none))) Try.func11 (by decide) (by kernel_rfl) (by kernel_rfl) (by decide) LoopDef.nil (fun x q => by kernel_rfl)
end laws_markHallWorld
namespace laws_heldGateTeamS
@[reducible] def l2 : LSpec := ⟨[(0, .d (.slice tGateTeam)), (1, .d (.int .i64)), (5, .d (.int .i64))], [(.ret, [(4, .d (.int .i64))]), (.exit 0, [(1, .d (.int .i64))])]⟩
def B2 (n : Nat) {R : Type} (next : Sden l2.inS → Option R) (cs : Conts R l2.outs) (x : Sden l2.inS) : Option R :=
  if (decide (x.2.2.1 < (List.length x.1 : Int))) = true then
    if (!true || (decide (0 ≤ x.2.2.1 ∧ x.2.2.1 < (List.length x.1 : Int)))) = true then
      (if true = true then (laws_markText.f n (x.2.1, ())) else some (tzero [.str])).bind fun y1 =>
      if (!seq (List.getD x.1 (Int.toNat x.2.2.1) (Ty.zero tGateTeam)).1 y1.1) = true then
        cs.1 ((-1 : Int), ())
      else if (!true || (decide (0 ≤ x.2.2.1 ∧ x.2.2.1 < (List.length x.1 : Int)))) = true then
        (if true = true then (laws_markText.f n ((IntKind.i64.wrap (x.2.1 + (1 : Int))), ())) else some (tzero [.str])).bind fun y2 =>
        if (!seq (List.getD x.1 (Int.toNat x.2.2.1) (Ty.zero tGateTeam)).2.1 y2.1) = true then
          cs.1 ((-1 : Int), ())
        else
          next (x.1, (IntKind.i64.wrap ((IntKind.i64.wrap (x.2.1 + (1 : Int))) + (1 : Int))), (IntKind.i64.wrap (x.2.2.1 + (1 : Int))), ())
      else
        none
    else
      none
  else
    cs.2.1 (x.2.1, ())
def f (n : Nat) (x : Tup [(.slice tGateTeam), (.int .i64)]) : Option (Tup [(.int .i64)]) :=
  runL (B2 n) ((fun z3 =>
      some (z3.1, ())), (fun z4 =>
      some (z4.1, ())), ()) n (x.1, x.2.1, (0 : Int), ())
@[reducible] def sig (n : Nat) : Sig := ⟨[(.slice tGateTeam), (.int .i64)], [(.int .i64)], false, f n, none⟩
def T (n : Nat) : FuncId → Option Sig := fun g => if Nat.beq g 58 = true then some (laws_markText.sig n) else none
def TL (n : Nat) : Loops := fun j _ st k => if Nat.beq j 2 = true then (match dec st l2.inS [] with | some x => runL (B2 n) (contsOf k l2.outs) n x | none => none) else none
theorem d2 (n : Nat) : LoopDef Try.prog (T n) (TL n) Try.f63 2 :=
  ⟨l2, fun R => B2 n, n, fun R st k => by kernel_rfl, fun R next cs x => by kernel_rfl⟩
theorem con (n : Nat) : Con Try.prog 63 (sig n) :=
  con_print (hsw := rfl) (T := T n) (TL := TL n) (c := Try.f63.body.getD .skip) (js := [2]) hMixed (conT_cons (laws_markText.con n) conT_none) Try.func63 (by decide) (by kernel_rfl) (by kernel_rfl) (by decide) (LoopDef.cons (d2 n) LoopDef.nil) (fun x => by kernel_rfl)
end laws_heldGateTeamS
namespace laws_heldIntS
@[reducible] def l2 : LSpec := ⟨[(0, .d (.slice (.int .i64))), (1, .d (.int .i64)), (5, .d (.int .i64))], [(.ret, [(4, .d (.int .i64))]), (.exit 0, [(1, .d (.int .i64))])]⟩
def B2 (n : Nat) {R : Type} (next : Sden l2.inS → Option R) (cs : Conts R l2.outs) (x : Sden l2.inS) : Option R :=
  if (decide (x.2.2.1 < (List.length x.1 : Int))) = true then
    if (decide (0 ≤ x.2.2.1 ∧ x.2.2.1 < (List.length x.1 : Int))) = true then
      if ((List.getD x.1 (Int.toNat x.2.2.1) (0 : Int)) != x.2.1) = true then
        cs.1 ((-1 : Int), ())
      else
        next (x.1, (IntKind.i64.wrap (x.2.1 + (1 : Int))), (IntKind.i64.wrap (x.2.2.1 + (1 : Int))), ())
    else
      none
  else
    cs.2.1 (x.2.1, ())
def f (n : Nat) (x : Tup [(.slice (.int .i64)), (.int .i64)]) : Option (Tup [(.int .i64)]) :=
  runL (B2 n) ((fun z1 =>
      some (z1.1, ())), (fun z2 =>
      some (z2.1, ())), ()) n (x.1, x.2.1, (0 : Int), ())
@[reducible] def sig (n : Nat) : Sig := ⟨[(.slice (.int .i64)), (.int .i64)], [(.int .i64)], false, f n, none⟩
def T (n : Nat) : FuncId → Option Sig := fun g => none
def TL (n : Nat) : Loops := fun j _ st k => if Nat.beq j 2 = true then (match dec st l2.inS [] with | some x => runL (B2 n) (contsOf k l2.outs) n x | none => none) else none
theorem d2 (n : Nat) : LoopDef Try.prog (T n) (TL n) Try.f86 2 :=
  ⟨l2, fun R => B2 n, n, fun R st k => by kernel_rfl, fun R next cs x => by kernel_rfl⟩
theorem con (n : Nat) : Con Try.prog 86 (sig n) :=
  con_print (hsw := rfl) (T := T n) (TL := TL n) (c := Try.f86.body.getD .skip) (js := [2]) hMixed conT_none Try.func86 (by decide) (by kernel_rfl) (by kernel_rfl) (by decide) (LoopDef.cons (d2 n) LoopDef.nil) (fun x => by kernel_rfl)
end laws_heldIntS
namespace laws_heldGateGrantS
@[reducible] def l2 : LSpec := ⟨[(0, .d (.slice tGateGrant)), (1, .d (.int .i64)), (5, .d (.int .i64))], [(.ret, [(4, .d (.int .i64))]), (.exit 0, [(1, .d (.int .i64))])]⟩
def B2 (n : Nat) {R : Type} (next : Sden l2.inS → Option R) (cs : Conts R l2.outs) (x : Sden l2.inS) : Option R :=
  if (decide (x.2.2.1 < (List.length x.1 : Int))) = true then
    if (decide (0 ≤ x.2.2.1 ∧ x.2.2.1 < (List.length x.1 : Int))) = true then
      if ((List.getD x.1 (Int.toNat x.2.2.1) (Ty.zero tGateGrant)).1 != x.2.1) = true then
        cs.1 ((-1 : Int), ())
      else if (!true || (decide (0 ≤ x.2.2.1 ∧ x.2.2.1 < (List.length x.1 : Int)))) = true then
        (if true = true then (laws_markText.f n ((IntKind.i64.wrap (x.2.1 + (1 : Int))), ())) else some (tzero [.str])).bind fun y1 =>
        if (!seq (List.getD x.1 (Int.toNat x.2.2.1) (Ty.zero tGateGrant)).2.1 y1.1) = true then
          cs.1 ((-1 : Int), ())
        else if (!true || (decide (0 ≤ x.2.2.1 ∧ x.2.2.1 < (List.length x.1 : Int)))) = true then
          (if true = true then (laws_markText.f n ((IntKind.i64.wrap ((IntKind.i64.wrap (x.2.1 + (1 : Int))) + (1 : Int))), ())) else some (tzero [.str])).bind fun y2 =>
          if (!seq (List.getD x.1 (Int.toNat x.2.2.1) (Ty.zero tGateGrant)).2.2.1 y2.1) = true then
            cs.1 ((-1 : Int), ())
          else if (decide (0 ≤ x.2.2.1 ∧ x.2.2.1 < (List.length x.1 : Int))) = true then
            (laws_heldIntS.f n ((List.getD x.1 (Int.toNat x.2.2.1) (Ty.zero tGateGrant)).2.2.2.1.1, (IntKind.i64.wrap ((IntKind.i64.wrap ((IntKind.i64.wrap (x.2.1 + (1 : Int))) + (1 : Int))) + (1 : Int))), ())).bind fun y3 =>
            if (decide (y3.1 < (0 : Int))) = true then
              cs.1 ((-1 : Int), ())
            else if (!true || (decide (0 ≤ x.2.2.1 ∧ x.2.2.1 < (List.length x.1 : Int)))) = true then
              (if true = true then (laws_markText.f n (y3.1, ())) else some (tzero [.str])).bind fun y4 =>
              if (!seq (List.getD x.1 (Int.toNat x.2.2.1) (Ty.zero tGateGrant)).2.2.2.1.2.1 y4.1) = true then
                cs.1 ((-1 : Int), ())
              else if (!true || (decide (0 ≤ x.2.2.1 ∧ x.2.2.1 < (List.length x.1 : Int)))) = true then
                (if true = true then (laws_markText.f n ((IntKind.i64.wrap (y3.1 + (1 : Int))), ())) else some (tzero [.str])).bind fun y5 =>
                if (!seq (List.getD x.1 (Int.toNat x.2.2.1) (Ty.zero tGateGrant)).2.2.2.1.2.2.1 y5.1) = true then
                  cs.1 ((-1 : Int), ())
                else if (!true || (decide (0 ≤ x.2.2.1 ∧ x.2.2.1 < (List.length x.1 : Int)))) = true then
                  (if true = true then (laws_markText.f n ((IntKind.i64.wrap ((IntKind.i64.wrap (y3.1 + (1 : Int))) + (1 : Int))), ())) else some (tzero [.str])).bind fun y6 =>
                  if (!seq (List.getD x.1 (Int.toNat x.2.2.1) (Ty.zero tGateGrant)).2.2.2.1.2.2.2.1 y6.1) = true then
                    cs.1 ((-1 : Int), ())
                  else
                    next (x.1, (IntKind.i64.wrap ((IntKind.i64.wrap ((IntKind.i64.wrap (y3.1 + (1 : Int))) + (1 : Int))) + (1 : Int))), (IntKind.i64.wrap (x.2.2.1 + (1 : Int))), ())
                else
                  none
              else
                none
            else
              none
          else
            none
        else
          none
      else
        none
    else
      none
  else
    cs.2.1 (x.2.1, ())
def f (n : Nat) (x : Tup [(.slice tGateGrant), (.int .i64)]) : Option (Tup [(.int .i64)]) :=
  runL (B2 n) ((fun z7 =>
      some (z7.1, ())), (fun z8 =>
      some (z8.1, ())), ()) n (x.1, x.2.1, (0 : Int), ())
@[reducible] def sig (n : Nat) : Sig := ⟨[(.slice tGateGrant), (.int .i64)], [(.int .i64)], false, f n, none⟩
def T (n : Nat) : FuncId → Option Sig := fun g => if Nat.beq g 58 = true then some (laws_markText.sig n) else if Nat.beq g 86 = true then some (laws_heldIntS.sig n) else none
def TL (n : Nat) : Loops := fun j _ st k => if Nat.beq j 2 = true then (match dec st l2.inS [] with | some x => runL (B2 n) (contsOf k l2.outs) n x | none => none) else none
theorem d2 (n : Nat) : LoopDef Try.prog (T n) (TL n) Try.f64 2 :=
  ⟨l2, fun R => B2 n, n, fun R st k => by kernel_rfl, fun R next cs x => by kernel_rfl⟩
theorem con (n : Nat) : Con Try.prog 64 (sig n) :=
  con_print (hsw := rfl) (T := T n) (TL := TL n) (c := Try.f64.body.getD .skip) (js := [2]) hMixed (conT_cons (laws_markText.con n) (conT_cons (laws_heldIntS.con n) conT_none)) Try.func64 (by decide) (by kernel_rfl) (by kernel_rfl) (by decide) (LoopDef.cons (d2 n) LoopDef.nil) (fun x => by kernel_rfl)
end laws_heldGateGrantS
namespace laws_heldHallHouse
def f (n : Nat) (x : Tup [tHallHouse, (.int .i64)]) : Option (Tup [(.int .i64)]) :=
  (laws_heldGateTeamS.f n (x.1.1, x.2.1, ())).bind fun y1 =>
  if (decide (y1.1 < (0 : Int))) = true then
    some ((-1 : Int), ())
  else
    (laws_heldGateGrantS.f n (x.1.2.1, y1.1, ())).bind fun y2 =>
    if (decide (y2.1 < (0 : Int))) = true then
      some ((-1 : Int), ())
    else
      some (y2.1, ())
@[reducible] def sig (n : Nat) : Sig := ⟨[tHallHouse, (.int .i64)], [(.int .i64)], false, f n, none⟩
def T (n : Nat) : FuncId → Option Sig := fun g => if Nat.beq g 63 = true then some (laws_heldGateTeamS.sig n) else if Nat.beq g 64 = true then some (laws_heldGateGrantS.sig n) else none
def TL (n : Nat) : Loops := fun j _ st k => none
theorem con (n : Nat) : Con Try.prog 32 (sig n) :=
  con_print (hsw := rfl) (T := T n) (TL := TL n) (c := Try.f32.body.getD .skip) (js := []) hMixed (conT_cons (laws_heldGateTeamS.con n) (conT_cons (laws_heldGateGrantS.con n) conT_none)) Try.func32 (by decide) (by kernel_rfl) (by kernel_rfl) (by decide) LoopDef.nil (fun x => by kernel_rfl)
end laws_heldHallHouse
namespace laws_heldRecSlotS
@[reducible] def l2 : LSpec := ⟨[(0, .d (.slice tRecSlot)), (1, .d (.int .i64)), (5, .d (.int .i64))], [(.ret, [(4, .d (.int .i64))]), (.exit 0, [(1, .d (.int .i64))])]⟩
def B2 (n : Nat) {R : Type} (next : Sden l2.inS → Option R) (cs : Conts R l2.outs) (x : Sden l2.inS) : Option R :=
  if (decide (x.2.2.1 < (List.length x.1 : Int))) = true then
    if (decide (0 ≤ x.2.2.1 ∧ x.2.2.1 < (List.length x.1 : Int))) = true then
      if ((List.getD x.1 (Int.toNat x.2.2.1) (Ty.zero tRecSlot)).1 != x.2.1) = true then
        cs.1 ((-1 : Int), ())
      else if (!true || (decide (0 ≤ x.2.2.1 ∧ x.2.2.1 < (List.length x.1 : Int)))) = true then
        (if true = true then (laws_markText.f n ((IntKind.i64.wrap (x.2.1 + (1 : Int))), ())) else some (tzero [.str])).bind fun y1 =>
        if (!seq (List.getD x.1 (Int.toNat x.2.2.1) (Ty.zero tRecSlot)).2.1 y1.1) = true then
          cs.1 ((-1 : Int), ())
        else
          next (x.1, (IntKind.i64.wrap ((IntKind.i64.wrap (x.2.1 + (1 : Int))) + (1 : Int))), (IntKind.i64.wrap (x.2.2.1 + (1 : Int))), ())
      else
        none
    else
      none
  else
    cs.2.1 (x.2.1, ())
def f (n : Nat) (x : Tup [(.slice tRecSlot), (.int .i64)]) : Option (Tup [(.int .i64)]) :=
  runL (B2 n) ((fun z2 =>
      some (z2.1, ())), (fun z3 =>
      some (z3.1, ())), ()) n (x.1, x.2.1, (0 : Int), ())
@[reducible] def sig (n : Nat) : Sig := ⟨[(.slice tRecSlot), (.int .i64)], [(.int .i64)], false, f n, none⟩
def T (n : Nat) : FuncId → Option Sig := fun g => if Nat.beq g 58 = true then some (laws_markText.sig n) else none
def TL (n : Nat) : Loops := fun j _ st k => if Nat.beq j 2 = true then (match dec st l2.inS [] with | some x => runL (B2 n) (contsOf k l2.outs) n x | none => none) else none
theorem d2 (n : Nat) : LoopDef Try.prog (T n) (TL n) Try.f87 2 :=
  ⟨l2, fun R => B2 n, n, fun R st k => by kernel_rfl, fun R next cs x => by kernel_rfl⟩
theorem con (n : Nat) : Con Try.prog 87 (sig n) :=
  con_print (hsw := rfl) (T := T n) (TL := TL n) (c := Try.f87.body.getD .skip) (js := [2]) hMixed (conT_cons (laws_markText.con n) conT_none) Try.func87 (by decide) (by kernel_rfl) (by kernel_rfl) (by decide) (LoopDef.cons (d2 n) LoopDef.nil) (fun x => by kernel_rfl)
end laws_heldRecSlotS
namespace laws_heldRecMessageS
@[reducible] def l2 : LSpec := ⟨[(0, .d (.slice tRecMessage)), (1, .d (.int .i64)), (5, .d (.int .i64))], [(.ret, [(4, .d (.int .i64))]), (.exit 0, [(1, .d (.int .i64))])]⟩
def B2 (n : Nat) {R : Type} (next : Sden l2.inS → Option R) (cs : Conts R l2.outs) (x : Sden l2.inS) : Option R :=
  if (decide (x.2.2.1 < (List.length x.1 : Int))) = true then
    if (decide (0 ≤ x.2.2.1 ∧ x.2.2.1 < (List.length x.1 : Int))) = true then
      if ((List.getD x.1 (Int.toNat x.2.2.1) (Ty.zero tRecMessage)).1 != x.2.1) = true then
        cs.1 ((-1 : Int), ())
      else if (decide (0 ≤ x.2.2.1 ∧ x.2.2.1 < (List.length x.1 : Int))) = true then
        if ((List.getD x.1 (Int.toNat x.2.2.1) (Ty.zero tRecMessage)).2.1 != (IntKind.i64.wrap (x.2.1 + (1 : Int)))) = true then
          cs.1 ((-1 : Int), ())
        else if (decide (0 ≤ x.2.2.1 ∧ x.2.2.1 < (List.length x.1 : Int))) = true then
          if ((List.getD x.1 (Int.toNat x.2.2.1) (Ty.zero tRecMessage)).2.2.1 != (IntKind.i64.wrap ((IntKind.i64.wrap (x.2.1 + (1 : Int))) + (1 : Int)))) = true then
            cs.1 ((-1 : Int), ())
          else if (decide (0 ≤ x.2.2.1 ∧ x.2.2.1 < (List.length x.1 : Int))) = true then
            if ((List.getD x.1 (Int.toNat x.2.2.1) (Ty.zero tRecMessage)).2.2.2.1 != (IntKind.i64.wrap ((IntKind.i64.wrap ((IntKind.i64.wrap (x.2.1 + (1 : Int))) + (1 : Int))) + (1 : Int)))) = true then
              cs.1 ((-1 : Int), ())
            else if (decide (0 ≤ x.2.2.1 ∧ x.2.2.1 < (List.length x.1 : Int))) = true then
              if ((List.getD x.1 (Int.toNat x.2.2.1) (Ty.zero tRecMessage)).2.2.2.2.1 != (IntKind.i64.wrap ((IntKind.i64.wrap ((IntKind.i64.wrap ((IntKind.i64.wrap (x.2.1 + (1 : Int))) + (1 : Int))) + (1 : Int))) + (1 : Int)))) = true then
                cs.1 ((-1 : Int), ())
              else if (decide (0 ≤ x.2.2.1 ∧ x.2.2.1 < (List.length x.1 : Int))) = true then
                if ((List.getD x.1 (Int.toNat x.2.2.1) (Ty.zero tRecMessage)).2.2.2.2.2.1 != (IntKind.i64.wrap ((IntKind.i64.wrap ((IntKind.i64.wrap ((IntKind.i64.wrap ((IntKind.i64.wrap (x.2.1 + (1 : Int))) + (1 : Int))) + (1 : Int))) + (1 : Int))) + (1 : Int)))) = true then
                  cs.1 ((-1 : Int), ())
                else if (!true || (decide (0 ≤ x.2.2.1 ∧ x.2.2.1 < (List.length x.1 : Int)))) = true then
                  (if true = true then (laws_markText.f n ((IntKind.i64.wrap ((IntKind.i64.wrap ((IntKind.i64.wrap ((IntKind.i64.wrap ((IntKind.i64.wrap ((IntKind.i64.wrap (x.2.1 + (1 : Int))) + (1 : Int))) + (1 : Int))) + (1 : Int))) + (1 : Int))) + (1 : Int))), ())) else some (tzero [.str])).bind fun y1 =>
                  if (!seq (List.getD x.1 (Int.toNat x.2.2.1) (Ty.zero tRecMessage)).2.2.2.2.2.2.1 y1.1) = true then
                    cs.1 ((-1 : Int), ())
                  else if (decide (0 ≤ x.2.2.1 ∧ x.2.2.1 < (List.length x.1 : Int))) = true then
                    (laws_heldRecSlotS.f n ((List.getD x.1 (Int.toNat x.2.2.1) (Ty.zero tRecMessage)).2.2.2.2.2.2.2.1, (IntKind.i64.wrap ((IntKind.i64.wrap ((IntKind.i64.wrap ((IntKind.i64.wrap ((IntKind.i64.wrap ((IntKind.i64.wrap ((IntKind.i64.wrap (x.2.1 + (1 : Int))) + (1 : Int))) + (1 : Int))) + (1 : Int))) + (1 : Int))) + (1 : Int))) + (1 : Int))), ())).bind fun y2 =>
                    if (decide (y2.1 < (0 : Int))) = true then
                      cs.1 ((-1 : Int), ())
                    else
                      next (x.1, y2.1, (IntKind.i64.wrap (x.2.2.1 + (1 : Int))), ())
                  else
                    none
                else
                  none
              else
                none
            else
              none
          else
            none
        else
          none
      else
        none
    else
      none
  else
    cs.2.1 (x.2.1, ())
def f (n : Nat) (x : Tup [(.slice tRecMessage), (.int .i64)]) : Option (Tup [(.int .i64)]) :=
  runL (B2 n) ((fun z3 =>
      some (z3.1, ())), (fun z4 =>
      some (z4.1, ())), ()) n (x.1, x.2.1, (0 : Int), ())
@[reducible] def sig (n : Nat) : Sig := ⟨[(.slice tRecMessage), (.int .i64)], [(.int .i64)], false, f n, none⟩
def T (n : Nat) : FuncId → Option Sig := fun g => if Nat.beq g 58 = true then some (laws_markText.sig n) else if Nat.beq g 87 = true then some (laws_heldRecSlotS.sig n) else none
def TL (n : Nat) : Loops := fun j _ st k => if Nat.beq j 2 = true then (match dec st l2.inS [] with | some x => runL (B2 n) (contsOf k l2.outs) n x | none => none) else none
theorem d2 (n : Nat) : LoopDef Try.prog (T n) (TL n) Try.f66 2 :=
  ⟨l2, fun R => B2 n, n, fun R st k => by kernel_rfl, fun R next cs x => by kernel_rfl⟩
theorem con (n : Nat) : Con Try.prog 66 (sig n) :=
  con_print (hsw := rfl) (T := T n) (TL := TL n) (c := Try.f66.body.getD .skip) (js := [2]) hMixed (conT_cons (laws_markText.con n) (conT_cons (laws_heldRecSlotS.con n) conT_none)) Try.func66 (by decide) (by kernel_rfl) (by kernel_rfl) (by decide) (LoopDef.cons (d2 n) LoopDef.nil) (fun x => by kernel_rfl)
end laws_heldRecMessageS
namespace laws_heldStringS
@[reducible] def l2 : LSpec := ⟨[(0, .d (.slice .str)), (1, .d (.int .i64)), (5, .d (.int .i64))], [(.ret, [(4, .d (.int .i64))]), (.exit 0, [(1, .d (.int .i64))])]⟩
def B2 (n : Nat) {R : Type} (next : Sden l2.inS → Option R) (cs : Conts R l2.outs) (x : Sden l2.inS) : Option R :=
  if (decide (x.2.2.1 < (List.length x.1 : Int))) = true then
    if (!true || (decide (0 ≤ x.2.2.1 ∧ x.2.2.1 < (List.length x.1 : Int)))) = true then
      (if true = true then (laws_markText.f n (x.2.1, ())) else some (tzero [.str])).bind fun y1 =>
      if (!seq (List.getD x.1 (Int.toNat x.2.2.1) (⟨#[]⟩ : ByteArray)) y1.1) = true then
        cs.1 ((-1 : Int), ())
      else
        next (x.1, (IntKind.i64.wrap (x.2.1 + (1 : Int))), (IntKind.i64.wrap (x.2.2.1 + (1 : Int))), ())
    else
      none
  else
    cs.2.1 (x.2.1, ())
def f (n : Nat) (x : Tup [(.slice .str), (.int .i64)]) : Option (Tup [(.int .i64)]) :=
  runL (B2 n) ((fun z2 =>
      some (z2.1, ())), (fun z3 =>
      some (z3.1, ())), ()) n (x.1, x.2.1, (0 : Int), ())
@[reducible] def sig (n : Nat) : Sig := ⟨[(.slice .str), (.int .i64)], [(.int .i64)], false, f n, none⟩
def T (n : Nat) : FuncId → Option Sig := fun g => if Nat.beq g 58 = true then some (laws_markText.sig n) else none
def TL (n : Nat) : Loops := fun j _ st k => if Nat.beq j 2 = true then (match dec st l2.inS [] with | some x => runL (B2 n) (contsOf k l2.outs) n x | none => none) else none
theorem d2 (n : Nat) : LoopDef Try.prog (T n) (TL n) Try.f88 2 :=
  ⟨l2, fun R => B2 n, n, fun R st k => by kernel_rfl, fun R next cs x => by kernel_rfl⟩
theorem con (n : Nat) : Con Try.prog 88 (sig n) :=
  con_print (hsw := rfl) (T := T n) (TL := TL n) (c := Try.f88.body.getD .skip) (js := [2]) hMixed (conT_cons (laws_markText.con n) conT_none) Try.func88 (by decide) (by kernel_rfl) (by kernel_rfl) (by decide) (LoopDef.cons (d2 n) LoopDef.nil) (fun x => by kernel_rfl)
end laws_heldStringS
namespace laws_heldRecAckS
@[reducible] def l2 : LSpec := ⟨[(0, .d (.slice tRecAck)), (1, .d (.int .i64)), (5, .d (.int .i64))], [(.ret, [(4, .d (.int .i64))]), (.exit 0, [(1, .d (.int .i64))])]⟩
def B2 (n : Nat) {R : Type} (next : Sden l2.inS → Option R) (cs : Conts R l2.outs) (x : Sden l2.inS) : Option R :=
  if (decide (x.2.2.1 < (List.length x.1 : Int))) = true then
    if (decide (0 ≤ x.2.2.1 ∧ x.2.2.1 < (List.length x.1 : Int))) = true then
      if ((List.getD x.1 (Int.toNat x.2.2.1) (Ty.zero tRecAck)).1 != x.2.1) = true then
        cs.1 ((-1 : Int), ())
      else if (decide (0 ≤ x.2.2.1 ∧ x.2.2.1 < (List.length x.1 : Int))) = true then
        (laws_heldIntS.f n ((List.getD x.1 (Int.toNat x.2.2.1) (Ty.zero tRecAck)).2.1, (IntKind.i64.wrap (x.2.1 + (1 : Int))), ())).bind fun y1 =>
        if (decide (y1.1 < (0 : Int))) = true then
          cs.1 ((-1 : Int), ())
        else
          next (x.1, y1.1, (IntKind.i64.wrap (x.2.2.1 + (1 : Int))), ())
      else
        none
    else
      none
  else
    cs.2.1 (x.2.1, ())
def f (n : Nat) (x : Tup [(.slice tRecAck), (.int .i64)]) : Option (Tup [(.int .i64)]) :=
  runL (B2 n) ((fun z2 =>
      some (z2.1, ())), (fun z3 =>
      some (z3.1, ())), ()) n (x.1, x.2.1, (0 : Int), ())
@[reducible] def sig (n : Nat) : Sig := ⟨[(.slice tRecAck), (.int .i64)], [(.int .i64)], false, f n, none⟩
def T (n : Nat) : FuncId → Option Sig := fun g => if Nat.beq g 86 = true then some (laws_heldIntS.sig n) else none
def TL (n : Nat) : Loops := fun j _ st k => if Nat.beq j 2 = true then (match dec st l2.inS [] with | some x => runL (B2 n) (contsOf k l2.outs) n x | none => none) else none
theorem d2 (n : Nat) : LoopDef Try.prog (T n) (TL n) Try.f89 2 :=
  ⟨l2, fun R => B2 n, n, fun R st k => by kernel_rfl, fun R next cs x => by kernel_rfl⟩
theorem con (n : Nat) : Con Try.prog 89 (sig n) :=
  con_print (hsw := rfl) (T := T n) (TL := TL n) (c := Try.f89.body.getD .skip) (js := [2]) hMixed (conT_cons (laws_heldIntS.con n) conT_none) Try.func89 (by decide) (by kernel_rfl) (by kernel_rfl) (by decide) (LoopDef.cons (d2 n) LoopDef.nil) (fun x => by kernel_rfl)
end laws_heldRecAckS
namespace laws_heldRecorderS
@[reducible] def l2 : LSpec := ⟨[(0, .d (.slice tRecorder)), (1, .d (.int .i64)), (5, .d (.int .i64))], [(.ret, [(4, .d (.int .i64))]), (.exit 0, [(1, .d (.int .i64))])]⟩
def B2 (n : Nat) {R : Type} (next : Sden l2.inS → Option R) (cs : Conts R l2.outs) (x : Sden l2.inS) : Option R :=
  if (decide (x.2.2.1 < (List.length x.1 : Int))) = true then
    if (decide (0 ≤ x.2.2.1 ∧ x.2.2.1 < (List.length x.1 : Int))) = true then
      if ((List.getD x.1 (Int.toNat x.2.2.1) (Ty.zero tRecorder)).1 != x.2.1) = true then
        cs.1 ((-1 : Int), ())
      else if (decide (0 ≤ x.2.2.1 ∧ x.2.2.1 < (List.length x.1 : Int))) = true then
        if ((List.getD x.1 (Int.toNat x.2.2.1) (Ty.zero tRecorder)).2.1 != (IntKind.i64.wrap (x.2.1 + (1 : Int)))) = true then
          cs.1 ((-1 : Int), ())
        else if (decide (0 ≤ x.2.2.1 ∧ x.2.2.1 < (List.length x.1 : Int))) = true then
          if ((3 : Int) != 0) = true then
            if (!((List.getD x.1 (Int.toNat x.2.2.1) (Ty.zero tRecorder)).2.2.1 == ((Int.tmod (IntKind.i64.wrap ((IntKind.i64.wrap (x.2.1 + (1 : Int))) + (1 : Int))) (3 : Int)) == (0 : Int)))) = true then
              cs.1 ((-1 : Int), ())
            else if (decide (0 ≤ x.2.2.1 ∧ x.2.2.1 < (List.length x.1 : Int))) = true then
              if ((List.getD x.1 (Int.toNat x.2.2.1) (Ty.zero tRecorder)).2.2.2.1.1 != (IntKind.i64.wrap ((IntKind.i64.wrap ((IntKind.i64.wrap (x.2.1 + (1 : Int))) + (1 : Int))) + (1 : Int)))) = true then
                cs.1 ((-1 : Int), ())
              else if (decide (0 ≤ x.2.2.1 ∧ x.2.2.1 < (List.length x.1 : Int))) = true then
                if ((List.getD x.1 (Int.toNat x.2.2.1) (Ty.zero tRecorder)).2.2.2.1.2.1 != (IntKind.i64.wrap ((IntKind.i64.wrap ((IntKind.i64.wrap ((IntKind.i64.wrap (x.2.1 + (1 : Int))) + (1 : Int))) + (1 : Int))) + (1 : Int)))) = true then
                  cs.1 ((-1 : Int), ())
                else if (decide (0 ≤ x.2.2.1 ∧ x.2.2.1 < (List.length x.1 : Int))) = true then
                  (laws_heldRecSlotS.f n ((List.getD x.1 (Int.toNat x.2.2.1) (Ty.zero tRecorder)).2.2.2.1.2.2.1, (IntKind.i64.wrap ((IntKind.i64.wrap ((IntKind.i64.wrap ((IntKind.i64.wrap ((IntKind.i64.wrap (x.2.1 + (1 : Int))) + (1 : Int))) + (1 : Int))) + (1 : Int))) + (1 : Int))), ())).bind fun y1 =>
                  if (decide (y1.1 < (0 : Int))) = true then
                    cs.1 ((-1 : Int), ())
                  else if (decide (0 ≤ x.2.2.1 ∧ x.2.2.1 < (List.length x.1 : Int))) = true then
                    if ((List.getD x.1 (Int.toNat x.2.2.1) (Ty.zero tRecorder)).2.2.2.2.1.1 != y1.1) = true then
                      cs.1 ((-1 : Int), ())
                    else if (decide (0 ≤ x.2.2.1 ∧ x.2.2.1 < (List.length x.1 : Int))) = true then
                      if ((List.getD x.1 (Int.toNat x.2.2.1) (Ty.zero tRecorder)).2.2.2.2.1.2.1 != (IntKind.i64.wrap (y1.1 + (1 : Int)))) = true then
                        cs.1 ((-1 : Int), ())
                      else if (decide (0 ≤ x.2.2.1 ∧ x.2.2.1 < (List.length x.1 : Int))) = true then
                        (laws_heldRecSlotS.f n ((List.getD x.1 (Int.toNat x.2.2.1) (Ty.zero tRecorder)).2.2.2.2.1.2.2.1, (IntKind.i64.wrap ((IntKind.i64.wrap (y1.1 + (1 : Int))) + (1 : Int))), ())).bind fun y2 =>
                        if (decide (y2.1 < (0 : Int))) = true then
                          cs.1 ((-1 : Int), ())
                        else if (decide (0 ≤ x.2.2.1 ∧ x.2.2.1 < (List.length x.1 : Int))) = true then
                          (laws_heldRecMessageS.f n ((List.getD x.1 (Int.toNat x.2.2.1) (Ty.zero tRecorder)).2.2.2.2.2.1, y2.1, ())).bind fun y3 =>
                          if (decide (y3.1 < (0 : Int))) = true then
                            cs.1 ((-1 : Int), ())
                          else if (decide (0 ≤ x.2.2.1 ∧ x.2.2.1 < (List.length x.1 : Int))) = true then
                            (laws_heldStringS.f n ((List.getD x.1 (Int.toNat x.2.2.1) (Ty.zero tRecorder)).2.2.2.2.2.2.1, y3.1, ())).bind fun y4 =>
                            if (decide (y4.1 < (0 : Int))) = true then
                              cs.1 ((-1 : Int), ())
                            else if (decide (0 ≤ x.2.2.1 ∧ x.2.2.1 < (List.length x.1 : Int))) = true then
                              if ((3 : Int) != 0) = true then
                                if (!((List.getD x.1 (Int.toNat x.2.2.1) (Ty.zero tRecorder)).2.2.2.2.2.2.2.1 == ((Int.tmod y4.1 (3 : Int)) == (0 : Int)))) = true then
                                  cs.1 ((-1 : Int), ())
                                else if (decide (0 ≤ x.2.2.1 ∧ x.2.2.1 < (List.length x.1 : Int))) = true then
                                  if ((3 : Int) != 0) = true then
                                    if (!((List.getD x.1 (Int.toNat x.2.2.1) (Ty.zero tRecorder)).2.2.2.2.2.2.2.2.1 == ((Int.tmod (IntKind.i64.wrap (y4.1 + (1 : Int))) (3 : Int)) == (0 : Int)))) = true then
                                      cs.1 ((-1 : Int), ())
                                    else if (decide (0 ≤ x.2.2.1 ∧ x.2.2.1 < (List.length x.1 : Int))) = true then
                                      if ((List.getD x.1 (Int.toNat x.2.2.1) (Ty.zero tRecorder)).2.2.2.2.2.2.2.2.2.1 != (IntKind.i64.wrap ((IntKind.i64.wrap (y4.1 + (1 : Int))) + (1 : Int)))) = true then
                                        cs.1 ((-1 : Int), ())
                                      else if (decide (0 ≤ x.2.2.1 ∧ x.2.2.1 < (List.length x.1 : Int))) = true then
                                        (laws_heldIntS.f n ((List.getD x.1 (Int.toNat x.2.2.1) (Ty.zero tRecorder)).2.2.2.2.2.2.2.2.2.2.1, (IntKind.i64.wrap ((IntKind.i64.wrap ((IntKind.i64.wrap (y4.1 + (1 : Int))) + (1 : Int))) + (1 : Int))), ())).bind fun y5 =>
                                        if (decide (y5.1 < (0 : Int))) = true then
                                          cs.1 ((-1 : Int), ())
                                        else if (decide (0 ≤ x.2.2.1 ∧ x.2.2.1 < (List.length x.1 : Int))) = true then
                                          (laws_heldRecSlotS.f n ((List.getD x.1 (Int.toNat x.2.2.1) (Ty.zero tRecorder)).2.2.2.2.2.2.2.2.2.2.2.1, y5.1, ())).bind fun y6 =>
                                          if (decide (y6.1 < (0 : Int))) = true then
                                            cs.1 ((-1 : Int), ())
                                          else if (decide (0 ≤ x.2.2.1 ∧ x.2.2.1 < (List.length x.1 : Int))) = true then
                                            (laws_heldRecAckS.f n ((List.getD x.1 (Int.toNat x.2.2.1) (Ty.zero tRecorder)).2.2.2.2.2.2.2.2.2.2.2.2.1, y6.1, ())).bind fun y7 =>
                                            if (decide (y7.1 < (0 : Int))) = true then
                                              cs.1 ((-1 : Int), ())
                                            else if (decide (0 ≤ x.2.2.1 ∧ x.2.2.1 < (List.length x.1 : Int))) = true then
                                              if ((List.getD x.1 (Int.toNat x.2.2.1) (Ty.zero tRecorder)).2.2.2.2.2.2.2.2.2.2.2.2.2.1 != y7.1) = true then
                                                cs.1 ((-1 : Int), ())
                                              else
                                                next (x.1, (IntKind.i64.wrap (y7.1 + (1 : Int))), (IntKind.i64.wrap (x.2.2.1 + (1 : Int))), ())
                                            else
                                              none
                                          else
                                            none
                                        else
                                          none
                                      else
                                        none
                                    else
                                      none
                                  else
                                    none
                                else
                                  none
                              else
                                none
                            else
                              none
                          else
                            none
                        else
                          none
                      else
                        none
                    else
                      none
                  else
                    none
                else
                  none
              else
                none
            else
              none
          else
            none
        else
          none
      else
        none
    else
      none
  else
    cs.2.1 (x.2.1, ())
def f (n : Nat) (x : Tup [(.slice tRecorder), (.int .i64)]) : Option (Tup [(.int .i64)]) :=
  runL (B2 n) ((fun z8 =>
      some (z8.1, ())), (fun z9 =>
      some (z9.1, ())), ()) n (x.1, x.2.1, (0 : Int), ())
@[reducible] def sig (n : Nat) : Sig := ⟨[(.slice tRecorder), (.int .i64)], [(.int .i64)], false, f n, none⟩
def T (n : Nat) : FuncId → Option Sig := fun g => if Nat.beq g 66 = true then some (laws_heldRecMessageS.sig n) else if Nat.beq g 86 = true then some (laws_heldIntS.sig n) else if Nat.beq g 87 = true then some (laws_heldRecSlotS.sig n) else if Nat.beq g 88 = true then some (laws_heldStringS.sig n) else if Nat.beq g 89 = true then some (laws_heldRecAckS.sig n) else none
def TL (n : Nat) : Loops := fun j _ st k => if Nat.beq j 2 = true then (match dec st l2.inS [] with | some x => runL (B2 n) (contsOf k l2.outs) n x | none => none) else none
theorem d2 (n : Nat) : LoopDef Try.prog (T n) (TL n) Try.f65 2 :=
  ⟨l2, fun R => B2 n, n, fun R st k => by kernel_rfl, fun R next cs x => by kernel_rfl⟩
theorem con (n : Nat) : Con Try.prog 65 (sig n) :=
  con_print (hsw := rfl) (T := T n) (TL := TL n) (c := Try.f65.body.getD .skip) (js := [2]) hMixed (conT_cons (laws_heldRecMessageS.con n) (conT_cons (laws_heldIntS.con n) (conT_cons (laws_heldRecSlotS.con n) (conT_cons (laws_heldStringS.con n) (conT_cons (laws_heldRecAckS.con n) conT_none))))) Try.func65 (by decide) (by kernel_rfl) (by kernel_rfl) (by decide) (LoopDef.cons (d2 n) LoopDef.nil) (fun x => by kernel_rfl)
end laws_heldRecorderS
namespace laws_heldRecFixS
@[reducible] def l2 : LSpec := ⟨[(0, .d (.slice tRecSlot)), (1, .d (.int .i64)), (5, .d (.int .i64))], [(.ret, [(4, .d (.int .i64))]), (.exit 0, [(1, .d (.int .i64))])]⟩
def B2 (n : Nat) {R : Type} (next : Sden l2.inS → Option R) (cs : Conts R l2.outs) (x : Sden l2.inS) : Option R :=
  if (decide (x.2.2.1 < (List.length x.1 : Int))) = true then
    if (decide (0 ≤ x.2.2.1 ∧ x.2.2.1 < (List.length x.1 : Int))) = true then
      if ((List.getD x.1 (Int.toNat x.2.2.1) (Ty.zero tRecSlot)).1 != x.2.1) = true then
        cs.1 ((-1 : Int), ())
      else if (!true || (decide (0 ≤ x.2.2.1 ∧ x.2.2.1 < (List.length x.1 : Int)))) = true then
        (if true = true then (laws_markText.f n ((IntKind.i64.wrap (x.2.1 + (1 : Int))), ())) else some (tzero [.str])).bind fun y1 =>
        if (!seq (List.getD x.1 (Int.toNat x.2.2.1) (Ty.zero tRecSlot)).2.1 y1.1) = true then
          cs.1 ((-1 : Int), ())
        else
          next (x.1, (IntKind.i64.wrap ((IntKind.i64.wrap (x.2.1 + (1 : Int))) + (1 : Int))), (IntKind.i64.wrap (x.2.2.1 + (1 : Int))), ())
      else
        none
    else
      none
  else
    cs.2.1 (x.2.1, ())
def f (n : Nat) (x : Tup [(.slice tRecSlot), (.int .i64)]) : Option (Tup [(.int .i64)]) :=
  runL (B2 n) ((fun z2 =>
      some (z2.1, ())), (fun z3 =>
      some (z3.1, ())), ()) n (x.1, x.2.1, (0 : Int), ())
@[reducible] def sig (n : Nat) : Sig := ⟨[(.slice tRecSlot), (.int .i64)], [(.int .i64)], false, f n, none⟩
def T (n : Nat) : FuncId → Option Sig := fun g => if Nat.beq g 58 = true then some (laws_markText.sig n) else none
def TL (n : Nat) : Loops := fun j _ st k => if Nat.beq j 2 = true then (match dec st l2.inS [] with | some x => runL (B2 n) (contsOf k l2.outs) n x | none => none) else none
theorem d2 (n : Nat) : LoopDef Try.prog (T n) (TL n) Try.f67 2 :=
  ⟨l2, fun R => B2 n, n, fun R st k => by kernel_rfl, fun R next cs x => by kernel_rfl⟩
theorem con (n : Nat) : Con Try.prog 67 (sig n) :=
  con_print (hsw := rfl) (T := T n) (TL := TL n) (c := Try.f67.body.getD .skip) (js := [2]) hMixed (conT_cons (laws_markText.con n) conT_none) Try.func67 (by decide) (by kernel_rfl) (by kernel_rfl) (by decide) (LoopDef.cons (d2 n) LoopDef.nil) (fun x => by kernel_rfl)
end laws_heldRecFixS
namespace laws_heldRecWorld
def f (n : Nat) (x : Tup [tRecWorld, (.int .i64)]) : Option (Tup [(.int .i64)]) :=
  (laws_heldRecorderS.f n (x.1.1, x.2.1, ())).bind fun y1 =>
  if (decide (y1.1 < (0 : Int))) = true then
    some ((-1 : Int), ())
  else
    (laws_heldRecMessageS.f n (x.1.2.1, y1.1, ())).bind fun y2 =>
    if (decide (y2.1 < (0 : Int))) = true then
      some ((-1 : Int), ())
    else
      (laws_heldRecFixS.f n (x.1.2.2.1, y2.1, ())).bind fun y3 =>
      if (decide (y3.1 < (0 : Int))) = true then
        some ((-1 : Int), ())
      else
        some (y3.1, ())
@[reducible] def sig (n : Nat) : Sig := ⟨[tRecWorld, (.int .i64)], [(.int .i64)], false, f n, none⟩
def T (n : Nat) : FuncId → Option Sig := fun g => if Nat.beq g 65 = true then some (laws_heldRecorderS.sig n) else if Nat.beq g 66 = true then some (laws_heldRecMessageS.sig n) else if Nat.beq g 67 = true then some (laws_heldRecFixS.sig n) else none
def TL (n : Nat) : Loops := fun j _ st k => none
theorem con (n : Nat) : Con Try.prog 33 (sig n) :=
  con_print (hsw := rfl) (T := T n) (TL := TL n) (c := Try.f33.body.getD .skip) (js := []) hMixed (conT_cons (laws_heldRecorderS.con n) (conT_cons (laws_heldRecMessageS.con n) (conT_cons (laws_heldRecFixS.con n) conT_none))) Try.func33 (by decide) (by kernel_rfl) (by kernel_rfl) (by decide) LoopDef.nil (fun x => by kernel_rfl)
end laws_heldRecWorld
namespace laws_heldHallAskedS
@[reducible] def l2 : LSpec := ⟨[(0, .d (.slice tHallAsked)), (1, .d (.int .i64)), (5, .d (.int .i64))], [(.ret, [(4, .d (.int .i64))]), (.exit 0, [(1, .d (.int .i64))])]⟩
def B2 (n : Nat) {R : Type} (next : Sden l2.inS → Option R) (cs : Conts R l2.outs) (x : Sden l2.inS) : Option R :=
  if (decide (x.2.2.1 < (List.length x.1 : Int))) = true then
    if (!true || (decide (0 ≤ x.2.2.1 ∧ x.2.2.1 < (List.length x.1 : Int)))) = true then
      (if true = true then (laws_markText.f n (x.2.1, ())) else some (tzero [.str])).bind fun y1 =>
      if (!seq (List.getD x.1 (Int.toNat x.2.2.1) (Ty.zero tHallAsked)).1 y1.1) = true then
        cs.1 ((-1 : Int), ())
      else if (decide (0 ≤ x.2.2.1 ∧ x.2.2.1 < (List.length x.1 : Int))) = true then
        if ((List.getD x.1 (Int.toNat x.2.2.1) (Ty.zero tHallAsked)).2.1 != (IntKind.i64.wrap (x.2.1 + (1 : Int)))) = true then
          cs.1 ((-1 : Int), ())
        else if (decide (0 ≤ x.2.2.1 ∧ x.2.2.1 < (List.length x.1 : Int))) = true then
          if ((List.getD x.1 (Int.toNat x.2.2.1) (Ty.zero tHallAsked)).2.2.1 != (IntKind.i64.wrap ((IntKind.i64.wrap (x.2.1 + (1 : Int))) + (1 : Int)))) = true then
            cs.1 ((-1 : Int), ())
          else if (decide (0 ≤ x.2.2.1 ∧ x.2.2.1 < (List.length x.1 : Int))) = true then
            if ((List.getD x.1 (Int.toNat x.2.2.1) (Ty.zero tHallAsked)).2.2.2.1.1 != (IntKind.i64.wrap ((IntKind.i64.wrap ((IntKind.i64.wrap (x.2.1 + (1 : Int))) + (1 : Int))) + (1 : Int)))) = true then
              cs.1 ((-1 : Int), ())
            else if (decide (0 ≤ x.2.2.1 ∧ x.2.2.1 < (List.length x.1 : Int))) = true then
              if ((List.getD x.1 (Int.toNat x.2.2.1) (Ty.zero tHallAsked)).2.2.2.1.2.1 != (IntKind.i64.wrap ((IntKind.i64.wrap ((IntKind.i64.wrap ((IntKind.i64.wrap (x.2.1 + (1 : Int))) + (1 : Int))) + (1 : Int))) + (1 : Int)))) = true then
                cs.1 ((-1 : Int), ())
              else if (decide (0 ≤ x.2.2.1 ∧ x.2.2.1 < (List.length x.1 : Int))) = true then
                if ((List.getD x.1 (Int.toNat x.2.2.1) (Ty.zero tHallAsked)).2.2.2.1.2.2.1 != (IntKind.i64.wrap ((IntKind.i64.wrap ((IntKind.i64.wrap ((IntKind.i64.wrap ((IntKind.i64.wrap (x.2.1 + (1 : Int))) + (1 : Int))) + (1 : Int))) + (1 : Int))) + (1 : Int)))) = true then
                  cs.1 ((-1 : Int), ())
                else
                  next (x.1, (IntKind.i64.wrap ((IntKind.i64.wrap ((IntKind.i64.wrap ((IntKind.i64.wrap ((IntKind.i64.wrap ((IntKind.i64.wrap (x.2.1 + (1 : Int))) + (1 : Int))) + (1 : Int))) + (1 : Int))) + (1 : Int))) + (1 : Int))), (IntKind.i64.wrap (x.2.2.1 + (1 : Int))), ())
              else
                none
            else
              none
          else
            none
        else
          none
      else
        none
    else
      none
  else
    cs.2.1 (x.2.1, ())
def f (n : Nat) (x : Tup [(.slice tHallAsked), (.int .i64)]) : Option (Tup [(.int .i64)]) :=
  runL (B2 n) ((fun z2 =>
      some (z2.1, ())), (fun z3 =>
      some (z3.1, ())), ()) n (x.1, x.2.1, (0 : Int), ())
@[reducible] def sig (n : Nat) : Sig := ⟨[(.slice tHallAsked), (.int .i64)], [(.int .i64)], false, f n, none⟩
def T (n : Nat) : FuncId → Option Sig := fun g => if Nat.beq g 58 = true then some (laws_markText.sig n) else none
def TL (n : Nat) : Loops := fun j _ st k => if Nat.beq j 2 = true then (match dec st l2.inS [] with | some x => runL (B2 n) (contsOf k l2.outs) n x | none => none) else none
theorem d2 (n : Nat) : LoopDef Try.prog (T n) (TL n) Try.f34 2 :=
  ⟨l2, fun R => B2 n, n, fun R st k => by kernel_rfl, fun R next cs x => by kernel_rfl⟩
theorem con (n : Nat) : Con Try.prog 34 (sig n) :=
  con_print (hsw := rfl) (T := T n) (TL := TL n) (c := Try.f34.body.getD .skip) (js := [2]) hMixed (conT_cons (laws_markText.con n) conT_none) Try.func34 (by decide) (by kernel_rfl) (by kernel_rfl) (by decide) (LoopDef.cons (d2 n) LoopDef.nil) (fun x => by kernel_rfl)
end laws_heldHallAskedS
namespace laws_heldHallWorld
def f (n : Nat) (x : Tup [tHallWorld, (.int .i64)]) : Option (Tup [(.int .i64)]) :=
  (laws_heldHallHouse.f n (x.1.1, x.2.1, ())).bind fun y1 =>
  if (decide (y1.1 < (0 : Int))) = true then
    some ((-1 : Int), ())
  else
    (laws_heldRecWorld.f n (x.1.2.1, y1.1, ())).bind fun y2 =>
    if (decide (y2.1 < (0 : Int))) = true then
      some ((-1 : Int), ())
    else
      (laws_heldHallAskedS.f n (x.1.2.2.2.1, y2.1, ())).bind fun y3 =>
      if (decide (y3.1 < (0 : Int))) = true then
        some ((-1 : Int), ())
      else
        some (y3.1, ())
@[reducible] def sig (n : Nat) : Sig := ⟨[tHallWorld, (.int .i64)], [(.int .i64)], false, f n, none⟩
def T (n : Nat) : FuncId → Option Sig := fun g => if Nat.beq g 32 = true then some (laws_heldHallHouse.sig n) else if Nat.beq g 33 = true then some (laws_heldRecWorld.sig n) else if Nat.beq g 34 = true then some (laws_heldHallAskedS.sig n) else none
def TL (n : Nat) : Loops := fun j _ st k => none
theorem con (n : Nat) : Con Try.prog 12 (sig n) :=
  con_print (hsw := rfl) (T := T n) (TL := TL n) (c := Try.f12.body.getD .skip) (js := []) hMixed (conT_cons (laws_heldHallHouse.con n) (conT_cons (laws_heldRecWorld.con n) (conT_cons (laws_heldHallAskedS.con n) conT_none))) Try.func12 (by decide) (by kernel_rfl) (by kernel_rfl) (by decide) LoopDef.nil (fun x => by kernel_rfl)
end laws_heldHallWorld
namespace laws_FnExactHallNew
def f (n : Nat) (x : Tup [tHallHouse, (.int .i64)]) : Option (Tup [.bool]) :=
  (laws_szHallHouse.f n (x.1, (1048576 : Int), ())).bind fun y1 =>
  if (decide (y1.1 < (0 : Int))) = true then
    some (true, ())
  else
    (laws_toHallHouse.f n (x.1, ())).bind fun y2 =>
    (spec_HallNew.f n (y2.1, x.2.1, ())).bind fun y3 =>
    (laws_toHallHouse.f n (x.1, ())).bind fun y4 =>
    (impl_HallNew.f n (y4.1, x.2.1, ())).bind fun y5 =>
    (laws_eqHallWorld.f n (y5.1, y3.1, ())).bind fun y6 =>
    if (!y6.1) = true then
      some (false, ())
    else
      (laws_toHallHouse.f n (x.1, ())).bind fun y7 =>
      (laws_eqHallHouse.f n (y4.1, y7.1, ())).bind fun y8 =>
      if (!y8.1) = true then
        some (false, ())
      else
        (laws_markHallHouse.f n y4.1 ((1 : Int), ())).bind fun y9 =>
        (if (!(decide (y9.2.1 < (0 : Int)))) = true then (laws_eqHallWorld.f n (y5.1, y3.1, ())) else some (tzero [.bool])).bind fun y10 =>
        if ((decide (y9.2.1 < (0 : Int))) || (!y10.1)) = true then
          some (false, ())
        else
          (laws_markHallWorld.f n y5.1 ((1 : Int), ())).bind fun y11 =>
          (laws_heldHallWorld.f n ((y11.1.1, y11.1.2.1, y5.1.2.2.1, y11.1.2.2.2), (1 : Int), ())).bind fun y12 =>
          if (decide (y12.1 < (0 : Int))) = true then
            some (false, ())
          else if (y12.1 != y11.2.1) = true then
            some (false, ())
          else
            (laws_toHallHouse.f n (x.1, ())).bind fun y13 =>
            (impl_HallNew.f n (y13.1, x.2.1, ())).bind fun y14 =>
            (laws_eqHallWorld.f n (y14.1, y3.1, ())).bind fun y15 =>
            if (!y15.1) = true then
              some (false, ())
            else
              (laws_heldHallWorld.f n ((y11.1.1, y11.1.2.1, y5.1.2.2.1, y11.1.2.2.2), (1 : Int), ())).bind fun y16 =>
              if (decide (y16.1 < (0 : Int))) = true then
                some (false, ())
              else if (y16.1 != y11.2.1) = true then
                some (false, ())
              else
                some (true, ())
@[reducible] def sig (n : Nat) : Sig := ⟨[tHallHouse, (.int .i64)], [.bool], false, f n, none⟩
def T (n : Nat) : FuncId → Option Sig := fun g => if Nat.beq g 4 = true then some (laws_szHallHouse.sig n) else if Nat.beq g 5 = true then some (spec_HallNew.sig n) else if Nat.beq g 6 = true then some (laws_toHallHouse.sig n) else if Nat.beq g 7 = true then some (impl_HallNew.sig n) else if Nat.beq g 8 = true then some (laws_eqHallWorld.sig n) else if Nat.beq g 9 = true then some (laws_eqHallHouse.sig n) else if Nat.beq g 10 = true then some (laws_markHallHouse.sig n) else if Nat.beq g 11 = true then some (laws_markHallWorld.sig n) else if Nat.beq g 12 = true then some (laws_heldHallWorld.sig n) else none
def TL (n : Nat) : Loops := fun j _ st k => none
theorem con (n : Nat) : Con Try.prog 3 (sig n) :=
  con_print (hsw := rfl) (T := T n) (TL := TL n) (c := Try.f3.body.getD .skip) (js := []) hMixed (conT_cons (laws_szHallHouse.con n) (conT_cons (spec_HallNew.con n) (conT_cons (laws_toHallHouse.con n) (conT_cons (impl_HallNew.con n) (conT_cons (laws_eqHallWorld.con n) (conT_cons (laws_eqHallHouse.con n) (conT_cons (laws_markHallHouse.con n) (conT_cons (laws_markHallWorld.con n) (conT_cons (laws_heldHallWorld.con n) conT_none))))))))) Try.func3 (by decide) (by kernel_rfl) (by kernel_rfl) (by decide) LoopDef.nil (fun x => by kernel_rfl)
end laws_FnExactHallNew
end Go.Proofs.Ytlbdplafdpgidab
