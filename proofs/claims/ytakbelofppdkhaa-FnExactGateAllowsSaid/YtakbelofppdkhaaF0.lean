import Derived.Test.YtakbelofppdkhaaProg
import Derived.Test.YtakbelofppdkhaaM3
set_option maxRecDepth 100000
set_option linter.unusedVariables false
namespace Go.Proofs.Ytakbelofppdkhaa
open Go.Vm
abbrev tGateTeam : Ty := (.pair .str (.pair .str .unit))
abbrev tGateRule : Ty := (.pair (.slice (.int .i64)) (.pair .str (.pair .str (.pair .str .unit))))
abbrev tGateAct : Ty := (.pair (.int .i64) (.pair .str (.pair .str (.pair .str .unit))))
theorem hMixed : Try.prog.follows .mixedOrders = true := by kernel_rfl
namespace laws_szGateTeam
def f (n : Nat) (x : Tup [tGateTeam, (.int .i64)]) : Option (Tup [(.int .i64)]) :=
  if (decide ((IntKind.i64.wrap (x.2.1 - (ByteArray.size x.1.1 : Int))) < (0 : Int))) = true then
    some ((-1 : Int), ())
  else if (decide ((IntKind.i64.wrap ((IntKind.i64.wrap (x.2.1 - (ByteArray.size x.1.1 : Int))) - (ByteArray.size x.1.2.1 : Int))) < (0 : Int))) = true then
    some ((-1 : Int), ())
  else
    some ((IntKind.i64.wrap ((IntKind.i64.wrap (x.2.1 - (ByteArray.size x.1.1 : Int))) - (ByteArray.size x.1.2.1 : Int))), ())
@[reducible] def sig (n : Nat) : Sig := ⟨[tGateTeam, (.int .i64)], [(.int .i64)], false, f n, none⟩
def T (n : Nat) : FuncId → Option Sig := fun g => none
def TL (n : Nat) : Loops := fun j _ st k => none
theorem con (n : Nat) : Con Try.prog 14 (sig n) :=
  con_print (hsw := rfl) (T := T n) (TL := TL n) (c := Try.f14.body.getD .skip) (js := []) hMixed conT_none Try.func14 (by decide) (by kernel_rfl) (by kernel_rfl) (by decide) LoopDef.nil (fun x => by kernel_rfl)
end laws_szGateTeam
namespace laws_szGateTeamS
@[reducible] def l5 : LSpec := ⟨[(0, .d (.slice tGateTeam)), (1, .d (.int .i64)), (5, .d (.int .i64))], [(.ret, [(4, .d (.int .i64))]), (.exit 0, [(1, .d (.int .i64))])]⟩
def B5 (n : Nat) {R : Type} (next : Sden l5.inS → Option R) (cs : Conts R l5.outs) (x : Sden l5.inS) : Option R :=
  if (decide (x.2.2.1 < (List.length x.1 : Int))) = true then
    if (decide (0 ≤ x.2.2.1 ∧ x.2.2.1 < (List.length x.1 : Int))) = true then
      (laws_szGateTeam.f n ((List.getD x.1 (Int.toNat x.2.2.1) (Ty.zero tGateTeam)), x.2.1, ())).bind fun y1 =>
      if (decide (y1.1 < (0 : Int))) = true then
        cs.1 ((-1 : Int), ())
      else
        next (x.1, y1.1, (IntKind.i64.wrap (x.2.2.1 + (1 : Int))), ())
    else
      none
  else
    cs.2.1 (x.2.1, ())
def f (n : Nat) (x : Tup [(.slice tGateTeam), (.int .i64)]) : Option (Tup [(.int .i64)]) :=
  if (decide ((IntKind.i64.wrap (x.2.1 - (List.length x.1 : Int))) < (0 : Int))) = true then
    some ((-1 : Int), ())
  else
    runL (B5 n) ((fun z2 =>
        some (z2.1, ())), (fun z3 =>
        some (z3.1, ())), ()) n (x.1, (IntKind.i64.wrap (x.2.1 - (List.length x.1 : Int))), (0 : Int), ())
@[reducible] def sig (n : Nat) : Sig := ⟨[(.slice tGateTeam), (.int .i64)], [(.int .i64)], false, f n, none⟩
def T (n : Nat) : FuncId → Option Sig := fun g => if Nat.beq g 14 = true then some (laws_szGateTeam.sig n) else none
def TL (n : Nat) : Loops := fun j _ st k => if Nat.beq j 5 = true then (match dec st l5.inS [] with | some x => runL (B5 n) (contsOf k l5.outs) n x | none => none) else none
theorem d5 (n : Nat) : LoopDef Try.prog (T n) (TL n) Try.f4 5 :=
  ⟨l5, fun R => B5 n, n, fun R st k => by kernel_rfl, fun R next cs x => by kernel_rfl⟩
theorem con (n : Nat) : Con Try.prog 4 (sig n) :=
  con_print (hsw := rfl) (T := T n) (TL := TL n) (c := Try.f4.body.getD .skip) (js := [5]) hMixed (conT_cons (laws_szGateTeam.con n) conT_none) Try.func4 (by decide) (by kernel_rfl) (by kernel_rfl) (by decide) (LoopDef.cons (d5 n) LoopDef.nil) (fun x => by kernel_rfl)
end laws_szGateTeamS
namespace laws_szIntS
def f (n : Nat) (x : Tup [(.slice (.int .i64)), (.int .i64)]) : Option (Tup [(.int .i64)]) :=
  if (decide ((IntKind.i64.wrap (x.2.1 - (List.length x.1 : Int))) < (0 : Int))) = true then
    some ((-1 : Int), ())
  else
    some ((IntKind.i64.wrap (x.2.1 - (List.length x.1 : Int))), ())
@[reducible] def sig (n : Nat) : Sig := ⟨[(.slice (.int .i64)), (.int .i64)], [(.int .i64)], false, f n, none⟩
def T (n : Nat) : FuncId → Option Sig := fun g => none
def TL (n : Nat) : Loops := fun j _ st k => none
theorem con (n : Nat) : Con Try.prog 15 (sig n) :=
  con_print (hsw := rfl) (T := T n) (TL := TL n) (c := Try.f15.body.getD .skip) (js := []) hMixed conT_none Try.func15 (by decide) (by kernel_rfl) (by kernel_rfl) (by decide) LoopDef.nil (fun x => by kernel_rfl)
end laws_szIntS
namespace laws_szGateRule
def f (n : Nat) (x : Tup [tGateRule, (.int .i64)]) : Option (Tup [(.int .i64)]) :=
  (laws_szIntS.f n (x.1.1, x.2.1, ())).bind fun y1 =>
  if (decide (y1.1 < (0 : Int))) = true then
    some ((-1 : Int), ())
  else if (decide ((IntKind.i64.wrap (y1.1 - (ByteArray.size x.1.2.1 : Int))) < (0 : Int))) = true then
    some ((-1 : Int), ())
  else if (decide ((IntKind.i64.wrap ((IntKind.i64.wrap (y1.1 - (ByteArray.size x.1.2.1 : Int))) - (ByteArray.size x.1.2.2.1 : Int))) < (0 : Int))) = true then
    some ((-1 : Int), ())
  else if (decide ((IntKind.i64.wrap ((IntKind.i64.wrap ((IntKind.i64.wrap (y1.1 - (ByteArray.size x.1.2.1 : Int))) - (ByteArray.size x.1.2.2.1 : Int))) - (ByteArray.size x.1.2.2.2.1 : Int))) < (0 : Int))) = true then
    some ((-1 : Int), ())
  else
    some ((IntKind.i64.wrap ((IntKind.i64.wrap ((IntKind.i64.wrap (y1.1 - (ByteArray.size x.1.2.1 : Int))) - (ByteArray.size x.1.2.2.1 : Int))) - (ByteArray.size x.1.2.2.2.1 : Int))), ())
@[reducible] def sig (n : Nat) : Sig := ⟨[tGateRule, (.int .i64)], [(.int .i64)], false, f n, none⟩
def T (n : Nat) : FuncId → Option Sig := fun g => if Nat.beq g 15 = true then some (laws_szIntS.sig n) else none
def TL (n : Nat) : Loops := fun j _ st k => none
theorem con (n : Nat) : Con Try.prog 5 (sig n) :=
  con_print (hsw := rfl) (T := T n) (TL := TL n) (c := Try.f5.body.getD .skip) (js := []) hMixed (conT_cons (laws_szIntS.con n) conT_none) Try.func5 (by decide) (by kernel_rfl) (by kernel_rfl) (by decide) LoopDef.nil (fun x => by kernel_rfl)
end laws_szGateRule
namespace laws_szGateAct
def f (n : Nat) (x : Tup [tGateAct, (.int .i64)]) : Option (Tup [(.int .i64)]) :=
  if (decide ((IntKind.i64.wrap (x.2.1 - (ByteArray.size x.1.2.1 : Int))) < (0 : Int))) = true then
    some ((-1 : Int), ())
  else if (decide ((IntKind.i64.wrap ((IntKind.i64.wrap (x.2.1 - (ByteArray.size x.1.2.1 : Int))) - (ByteArray.size x.1.2.2.1 : Int))) < (0 : Int))) = true then
    some ((-1 : Int), ())
  else if (decide ((IntKind.i64.wrap ((IntKind.i64.wrap ((IntKind.i64.wrap (x.2.1 - (ByteArray.size x.1.2.1 : Int))) - (ByteArray.size x.1.2.2.1 : Int))) - (ByteArray.size x.1.2.2.2.1 : Int))) < (0 : Int))) = true then
    some ((-1 : Int), ())
  else
    some ((IntKind.i64.wrap ((IntKind.i64.wrap ((IntKind.i64.wrap (x.2.1 - (ByteArray.size x.1.2.1 : Int))) - (ByteArray.size x.1.2.2.1 : Int))) - (ByteArray.size x.1.2.2.2.1 : Int))), ())
@[reducible] def sig (n : Nat) : Sig := ⟨[tGateAct, (.int .i64)], [(.int .i64)], false, f n, none⟩
def T (n : Nat) : FuncId → Option Sig := fun g => none
def TL (n : Nat) : Loops := fun j _ st k => none
theorem con (n : Nat) : Con Try.prog 6 (sig n) :=
  con_print (hsw := rfl) (T := T n) (TL := TL n) (c := Try.f6.body.getD .skip) (js := []) hMixed conT_none Try.func6 (by decide) (by kernel_rfl) (by kernel_rfl) (by decide) LoopDef.nil (fun x => by kernel_rfl)
end laws_szGateAct
namespace laws_toGateTeam
def f (n : Nat) (x : Tup [tGateTeam]) : Option (Tup [tGateTeam]) :=
  some (x.1, ())
@[reducible] def sig (n : Nat) : Sig := ⟨[tGateTeam], [tGateTeam], false, f n, none⟩
def T (n : Nat) : FuncId → Option Sig := fun g => none
def TL (n : Nat) : Loops := fun j _ st k => none
theorem con (n : Nat) : Con Try.prog 19 (sig n) :=
  con_print (hsw := rfl) (T := T n) (TL := TL n) (c := Try.f19.body.getD .skip) (js := []) hMixed conT_none Try.func19 (by decide) (by kernel_rfl) (by kernel_rfl) (by decide) LoopDef.nil (fun x => by kernel_rfl)
end laws_toGateTeam
namespace laws_toGateTeamS
@[reducible] def l3 : LSpec := ⟨[(0, .d (.slice tGateTeam)), (3, .row true tGateTeam), (4, .d (.int .i64))], [(.exit 0, [(3, .row true tGateTeam)])]⟩
def B3 (n : Nat) {R : Type} (next : Sden l3.inS → Option R) (cs : Conts R l3.outs) (x : Sden l3.inS) : Option R :=
  if (decide (x.2.2.1 < (List.length x.1 : Int))) = true then
    if (decide (0 ≤ x.2.2.1 ∧ x.2.2.1 < (List.length x.1 : Int))) = true then
      (laws_toGateTeam.f n ((List.getD x.1 (Int.toNat x.2.2.1) (Ty.zero tGateTeam)), ())).bind fun y1 =>
      if (decide (0 ≤ x.2.2.1 ∧ x.2.2.1 < (List.length x.2.1 : Int))) = true then
        next (x.1, (List.set x.2.1 (Int.toNat x.2.2.1) y1.1), (IntKind.i64.wrap (x.2.2.1 + (1 : Int))), ())
      else
        none
    else
      none
  else
    cs.1 (x.2.1, ())
def f (n : Nat) (x : Tup [(.slice tGateTeam)]) : Option (Tup [(.slice tGateTeam)]) :=
  if (decide (0 ≤ (List.length x.1 : Int) ∧ (List.length x.1 : Int) ≤ (List.length x.1 : Int) ∧ (List.length x.1 : Int) * (32 : Int) ≤ 140737488355328)) = true then
    runL (B3 n) ((fun z2 =>
        some (z2.1, ())), ()) n (x.1, (List.replicate (Int.toNat (List.length x.1 : Int)) (Ty.zero tGateTeam)), (0 : Int), ())
  else
    none
@[reducible] def sig (n : Nat) : Sig := ⟨[(.slice tGateTeam)], [(.slice tGateTeam)], true, f n, none⟩
def T (n : Nat) : FuncId → Option Sig := fun g => if Nat.beq g 19 = true then some (laws_toGateTeam.sig n) else none
def TL (n : Nat) : Loops := fun j _ st k => if Nat.beq j 3 = true then (match dec st l3.inS [] with | some x => runL (B3 n) (contsOf k l3.outs) n x | none => none) else none
theorem d3 (n : Nat) : LoopDef Try.prog (T n) (TL n) Try.f8 3 :=
  ⟨l3, fun R => B3 n, n, fun R st k => by kernel_rfl, fun R next cs x => by kernel_rfl⟩
theorem con (n : Nat) : Con Try.prog 8 (sig n) :=
  con_print (hsw := rfl) (T := T n) (TL := TL n) (c := Try.f8.body.getD .skip) (js := [3]) hMixed (conT_cons (laws_toGateTeam.con n) conT_none) Try.func8 (by decide) (by kernel_rfl) (by kernel_rfl) (by decide) (LoopDef.cons (d3 n) LoopDef.nil) (fun x => by kernel_rfl)
end laws_toGateTeamS
namespace laws_toIntS
@[reducible] def l3 : LSpec := ⟨[(0, .d (.slice (.int .i64))), (3, .row true (.int .i64)), (4, .d (.int .i64))], [(.exit 0, [(3, .row true (.int .i64))])]⟩
def B3 (n : Nat) {R : Type} (next : Sden l3.inS → Option R) (cs : Conts R l3.outs) (x : Sden l3.inS) : Option R :=
  if (decide (x.2.2.1 < (List.length x.1 : Int))) = true then
    if (decide (0 ≤ x.2.2.1 ∧ x.2.2.1 < (List.length x.1 : Int))) = true then
      if (decide (0 ≤ x.2.2.1 ∧ x.2.2.1 < (List.length x.2.1 : Int))) = true then
        next (x.1, (List.set x.2.1 (Int.toNat x.2.2.1) (List.getD x.1 (Int.toNat x.2.2.1) (0 : Int))), (IntKind.i64.wrap (x.2.2.1 + (1 : Int))), ())
      else
        none
    else
      none
  else
    cs.1 (x.2.1, ())
def f (n : Nat) (x : Tup [(.slice (.int .i64))]) : Option (Tup [(.slice (.int .i64))]) :=
  if (decide (0 ≤ (List.length x.1 : Int) ∧ (List.length x.1 : Int) ≤ (List.length x.1 : Int) ∧ (List.length x.1 : Int) * (8 : Int) ≤ 140737488355328)) = true then
    runL (B3 n) ((fun z1 =>
        some (z1.1, ())), ()) n (x.1, (List.replicate (Int.toNat (List.length x.1 : Int)) (0 : Int)), (0 : Int), ())
  else
    none
@[reducible] def sig (n : Nat) : Sig := ⟨[(.slice (.int .i64))], [(.slice (.int .i64))], true, f n, none⟩
def T (n : Nat) : FuncId → Option Sig := fun g => none
def TL (n : Nat) : Loops := fun j _ st k => if Nat.beq j 3 = true then (match dec st l3.inS [] with | some x => runL (B3 n) (contsOf k l3.outs) n x | none => none) else none
theorem d3 (n : Nat) : LoopDef Try.prog (T n) (TL n) Try.f20 3 :=
  ⟨l3, fun R => B3 n, n, fun R st k => by kernel_rfl, fun R next cs x => by kernel_rfl⟩
theorem con (n : Nat) : Con Try.prog 20 (sig n) :=
  con_print (hsw := rfl) (T := T n) (TL := TL n) (c := Try.f20.body.getD .skip) (js := [3]) hMixed conT_none Try.func20 (by decide) (by kernel_rfl) (by kernel_rfl) (by decide) (LoopDef.cons (d3 n) LoopDef.nil) (fun x => by kernel_rfl)
end laws_toIntS
namespace laws_toGateRule
def f (n : Nat) (x : Tup [tGateRule]) : Option (Tup [tGateRule]) :=
  (laws_toIntS.f n (x.1.1, ())).bind fun y1 =>
  some ((y1.1, x.1.2), ())
@[reducible] def sig (n : Nat) : Sig := ⟨[tGateRule], [tGateRule], true, f n, none⟩
def T (n : Nat) : FuncId → Option Sig := fun g => if Nat.beq g 20 = true then some (laws_toIntS.sig n) else none
def TL (n : Nat) : Loops := fun j _ st k => none
theorem con (n : Nat) : Con Try.prog 9 (sig n) :=
  con_print (hsw := rfl) (T := T n) (TL := TL n) (c := Try.f9.body.getD .skip) (js := []) hMixed (conT_cons (laws_toIntS.con n) conT_none) Try.func9 (by decide) (by kernel_rfl) (by kernel_rfl) (by decide) LoopDef.nil (fun x => by kernel_rfl)
end laws_toGateRule
namespace laws_toGateAct
def f (n : Nat) (x : Tup [tGateAct]) : Option (Tup [tGateAct]) :=
  some (x.1, ())
@[reducible] def sig (n : Nat) : Sig := ⟨[tGateAct], [tGateAct], false, f n, none⟩
def T (n : Nat) : FuncId → Option Sig := fun g => none
def TL (n : Nat) : Loops := fun j _ st k => none
theorem con (n : Nat) : Con Try.prog 10 (sig n) :=
  con_print (hsw := rfl) (T := T n) (TL := TL n) (c := Try.f10.body.getD .skip) (js := []) hMixed conT_none Try.func10 (by decide) (by kernel_rfl) (by kernel_rfl) (by decide) LoopDef.nil (fun x => by kernel_rfl)
end laws_toGateAct
namespace spec_l1In
def f (n : Nat) (x : Tup [(.int .i64), (.int .i64), (.int .i64)]) : Option (Tup [.bool]) :=
  some (((decide (x.1 ≥ x.2.1)) && (decide (x.1 ≤ x.2.2.1))), ())
@[reducible] def sig (n : Nat) : Sig := ⟨[(.int .i64), (.int .i64), (.int .i64)], [.bool], false, f n, none⟩
def T (n : Nat) : FuncId → Option Sig := fun g => none
def TL (n : Nat) : Loops := fun j _ st k => none
theorem con (n : Nat) : Con Try.prog 29 (sig n) :=
  con_print (hsw := rfl) (T := T n) (TL := TL n) (c := Try.f29.body.getD .skip) (js := []) hMixed conT_none Try.func29 (by decide) (by kernel_rfl) (by kernel_rfl) (by decide) LoopDef.nil (fun x => by kernel_rfl)
end spec_l1In
namespace spec_l1Byte
def f (n : Nat) (x : Tup [(.int .u8)]) : Option (Tup [.bool]) :=
  some (((((decide (x.1 ≥ (97 : Int))) && (decide (x.1 ≤ (122 : Int)))) || ((decide (x.1 ≥ (48 : Int))) && (decide (x.1 ≤ (57 : Int))))) || (x.1 == (45 : Int))), ())
@[reducible] def sig (n : Nat) : Sig := ⟨[(.int .u8)], [.bool], false, f n, none⟩
def T (n : Nat) : FuncId → Option Sig := fun g => none
def TL (n : Nat) : Loops := fun j _ st k => none
theorem con (n : Nat) : Con Try.prog 30 (sig n) :=
  con_print (hsw := rfl) (T := T n) (TL := TL n) (c := Try.f30.body.getD .skip) (js := []) hMixed conT_none Try.func30 (by decide) (by kernel_rfl) (by kernel_rfl) (by decide) LoopDef.nil (fun x => by kernel_rfl)
end spec_l1Byte
namespace spec_l1NameOk
@[reducible] def l4 : LSpec := ⟨[(0, .d .str), (3, .d (.int .i64))], [(.ret, [(2, .d .bool)]), (.exit 0, [])]⟩
def B4 (n : Nat) {R : Type} (next : Sden l4.inS → Option R) (cs : Conts R l4.outs) (x : Sden l4.inS) : Option R :=
  if (decide (x.2.1 < (ByteArray.size x.1 : Int))) = true then
    if (decide (0 ≤ x.2.1 ∧ x.2.1 < (ByteArray.size x.1 : Int))) = true then
      (spec_l1Byte.f n ((byteAt x.1 x.2.1), ())).bind fun y2 =>
      if (!y2.1) = true then
        cs.1 (false, ())
      else
        next (x.1, (IntKind.i64.wrap (x.2.1 + (1 : Int))), ())
    else
      none
  else
    cs.2.1 ()
def f (n : Nat) (x : Tup [.str]) : Option (Tup [.bool]) :=
  (spec_l1In.f n ((ByteArray.size x.1 : Int), (1 : Int), (16 : Int), ())).bind fun y1 =>
  if (!y1.1) = true then
    some (false, ())
  else
    runL (B4 n) ((fun z3 =>
        some (z3.1, ())), (fun z4 =>
        some (true, ())), ()) n (x.1, (0 : Int), ())
@[reducible] def sig (n : Nat) : Sig := ⟨[.str], [.bool], false, f n, none⟩
def T (n : Nat) : FuncId → Option Sig := fun g => if Nat.beq g 29 = true then some (spec_l1In.sig n) else if Nat.beq g 30 = true then some (spec_l1Byte.sig n) else none
def TL (n : Nat) : Loops := fun j _ st k => if Nat.beq j 4 = true then (match dec st l4.inS [] with | some x => runL (B4 n) (contsOf k l4.outs) n x | none => none) else none
theorem d4 (n : Nat) : LoopDef Try.prog (T n) (TL n) Try.f26 4 :=
  ⟨l4, fun R => B4 n, n, fun R st k => by kernel_rfl, fun R next cs x => by kernel_rfl⟩
theorem con (n : Nat) : Con Try.prog 26 (sig n) :=
  con_print (hsw := rfl) (T := T n) (TL := TL n) (c := Try.f26.body.getD .skip) (js := [4]) hMixed (conT_cons (spec_l1In.con n) (conT_cons (spec_l1Byte.con n) conT_none)) Try.func26 (by decide) (by kernel_rfl) (by kernel_rfl) (by decide) (LoopDef.cons (d4 n) LoopDef.nil) (fun x => by kernel_rfl)
end spec_l1NameOk
namespace spec_l4Team
@[reducible] def l2 : LSpec := ⟨[(0, .d (.slice tGateTeam)), (1, .d .str), (5, .d (.int .i64))], [(.ret, [(4, .d .bool)]), (.exit 0, [])]⟩
def B2 (n : Nat) {R : Type} (next : Sden l2.inS → Option R) (cs : Conts R l2.outs) (x : Sden l2.inS) : Option R :=
  if (decide (x.2.2.1 < (List.length x.1 : Int))) = true then
    if (decide (0 ≤ x.2.2.1 ∧ x.2.2.1 < (List.length x.1 : Int))) = true then
      if (seq (List.getD x.1 (Int.toNat x.2.2.1) (Ty.zero tGateTeam)).1 x.2.1) = true then
        cs.1 (true, ())
      else
        next (x.1, x.2.1, (IntKind.i64.wrap (x.2.2.1 + (1 : Int))), ())
    else
      none
  else
    cs.2.1 ()
def f (n : Nat) (x : Tup [(.slice tGateTeam), .str]) : Option (Tup [.bool]) :=
  runL (B2 n) ((fun z1 =>
      some (z1.1, ())), (fun z2 =>
      some (false, ())), ()) n (x.1, x.2.1, (0 : Int), ())
@[reducible] def sig (n : Nat) : Sig := ⟨[(.slice tGateTeam), .str], [.bool], false, f n, none⟩
def T (n : Nat) : FuncId → Option Sig := fun g => none
def TL (n : Nat) : Loops := fun j _ st k => if Nat.beq j 2 = true then (match dec st l2.inS [] with | some x => runL (B2 n) (contsOf k l2.outs) n x | none => none) else none
theorem d2 (n : Nat) : LoopDef Try.prog (T n) (TL n) Try.f27 2 :=
  ⟨l2, fun R => B2 n, n, fun R st k => by kernel_rfl, fun R next cs x => by kernel_rfl⟩
theorem con (n : Nat) : Con Try.prog 27 (sig n) :=
  con_print (hsw := rfl) (T := T n) (TL := TL n) (c := Try.f27.body.getD .skip) (js := [2]) hMixed conT_none Try.func27 (by decide) (by kernel_rfl) (by kernel_rfl) (by decide) (LoopDef.cons (d2 n) LoopDef.nil) (fun x => by kernel_rfl)
end spec_l4Team
namespace spec_l4Over
@[reducible] def l2 : LSpec := ⟨[(0, .d (.slice tGateTeam)), (1, .d .str), (5, .d (.int .i64))], [(.ret, [(4, .d .str)]), (.exit 0, [])]⟩
def B2 (n : Nat) {R : Type} (next : Sden l2.inS → Option R) (cs : Conts R l2.outs) (x : Sden l2.inS) : Option R :=
  if (decide (x.2.2.1 < (List.length x.1 : Int))) = true then
    if (decide (0 ≤ x.2.2.1 ∧ x.2.2.1 < (List.length x.1 : Int))) = true then
      if (seq (List.getD x.1 (Int.toNat x.2.2.1) (Ty.zero tGateTeam)).1 x.2.1) = true then
        if (decide (0 ≤ x.2.2.1 ∧ x.2.2.1 < (List.length x.1 : Int))) = true then
          cs.1 ((List.getD x.1 (Int.toNat x.2.2.1) (Ty.zero tGateTeam)).2.1, ())
        else
          none
      else
        next (x.1, x.2.1, (IntKind.i64.wrap (x.2.2.1 + (1 : Int))), ())
    else
      none
  else
    cs.2.1 ()
def f (n : Nat) (x : Tup [(.slice tGateTeam), .str]) : Option (Tup [.str]) :=
  runL (B2 n) ((fun z1 =>
      some (z1.1, ())), (fun z2 =>
      some ((⟨#[]⟩ : ByteArray), ())), ()) n (x.1, x.2.1, (0 : Int), ())
@[reducible] def sig (n : Nat) : Sig := ⟨[(.slice tGateTeam), .str], [.str], false, f n, none⟩
def T (n : Nat) : FuncId → Option Sig := fun g => none
def TL (n : Nat) : Loops := fun j _ st k => if Nat.beq j 2 = true then (match dec st l2.inS [] with | some x => runL (B2 n) (contsOf k l2.outs) n x | none => none) else none
theorem d2 (n : Nat) : LoopDef Try.prog (T n) (TL n) Try.f28 2 :=
  ⟨l2, fun R => B2 n, n, fun R st k => by kernel_rfl, fun R next cs x => by kernel_rfl⟩
theorem con (n : Nat) : Con Try.prog 28 (sig n) :=
  con_print (hsw := rfl) (T := T n) (TL := TL n) (c := Try.f28.body.getD .skip) (js := [2]) hMixed conT_none Try.func28 (by decide) (by kernel_rfl) (by kernel_rfl) (by decide) (LoopDef.cons (d2 n) LoopDef.nil) (fun x => by kernel_rfl)
end spec_l4Over
namespace spec_GateTeamsOk
@[reducible] def l11 : LSpec := ⟨[(0, .d (.slice tGateTeam)), (3, .d (.int .i64)), (5, .d .str), (6, .d (.int .i64))], [(.exit 2, [(0, .d (.slice tGateTeam)), (3, .d (.int .i64)), (5, .d .str)])]⟩
def B11 (n : Nat) {R : Type} (next : Sden l11.inS → Option R) (cs : Conts R l11.outs) (x : Sden l11.inS) : Option R :=
  if ((decide (x.2.2.2.1 ≤ (4 : Int))) && (!seq x.2.2.1 (⟨#[]⟩ : ByteArray))) = true then
    (spec_l4Over.f n (x.1, x.2.2.1, ())).bind fun y3 =>
    next (x.1, x.2.1, y3.1, (IntKind.i64.wrap (x.2.2.2.1 + (1 : Int))), ())
  else
    cs.1 (x.1, x.2.1, x.2.2.1, ())
@[reducible] def l4 : LSpec := ⟨[(0, .d (.slice tGateTeam)), (3, .d (.int .i64))], [(.ret, [(2, .d .bool)]), (.exit 0, [])]⟩
def B4 (n : Nat) {R : Type} (next : Sden l4.inS → Option R) (cs : Conts R l4.outs) (x : Sden l4.inS) : Option R :=
  if (decide (x.2.1 < (List.length x.1 : Int))) = true then
    if (decide (0 ≤ x.2.1 ∧ x.2.1 < (List.length x.1 : Int))) = true then
      (if true = true then (spec_l1NameOk.f n ((List.getD x.1 (Int.toNat x.2.1) (Ty.zero tGateTeam)).1, ())) else some (tzero [.bool])).bind fun y1 =>
      if (!((!(!y1.1)) && (decide (x.2.1 > (0 : Int)))) || (decide (0 ≤ (IntKind.i64.wrap (x.2.1 - (1 : Int))) ∧ (IntKind.i64.wrap (x.2.1 - (1 : Int))) < (List.length x.1 : Int)))) = true then
        (if ((!((!y1.1) || ((decide (x.2.1 > (0 : Int))) && (!slt (List.getD x.1 (Int.toNat (IntKind.i64.wrap (x.2.1 - (1 : Int)))) (Ty.zero tGateTeam)).1 (List.getD x.1 (Int.toNat x.2.1) (Ty.zero tGateTeam)).1)))) && (!seq (List.getD x.1 (Int.toNat x.2.1) (Ty.zero tGateTeam)).2.1 (⟨#[]⟩ : ByteArray))) = true then (spec_l4Team.f n (x.1, (List.getD x.1 (Int.toNat x.2.1) (Ty.zero tGateTeam)).2.1, ())) else some (tzero [.bool])).bind fun y2 =>
        if (((!y1.1) || ((decide (x.2.1 > (0 : Int))) && (!slt (List.getD x.1 (Int.toNat (IntKind.i64.wrap (x.2.1 - (1 : Int)))) (Ty.zero tGateTeam)).1 (List.getD x.1 (Int.toNat x.2.1) (Ty.zero tGateTeam)).1))) || ((!seq (List.getD x.1 (Int.toNat x.2.1) (Ty.zero tGateTeam)).2.1 (⟨#[]⟩ : ByteArray)) && (!y2.1))) = true then
          cs.1 (false, ())
        else
          runL (B11 n) ((fun z4 =>
              if (!seq z4.2.2.1 (⟨#[]⟩ : ByteArray)) = true then
                cs.1 (false, ())
              else
                next (z4.1, (IntKind.i64.wrap (z4.2.1 + (1 : Int))), ())), ()) n (x.1, x.2.1, (List.getD x.1 (Int.toNat x.2.1) (Ty.zero tGateTeam)).1, (0 : Int), ())
      else
        none
    else
      none
  else
    cs.2.1 ()
def f (n : Nat) (x : Tup [(.slice tGateTeam)]) : Option (Tup [.bool]) :=
  if (decide ((List.length x.1 : Int) > (12 : Int))) = true then
    some (false, ())
  else
    runL (B4 n) ((fun z5 =>
        some (z5.1, ())), (fun z6 =>
        some (true, ())), ()) n (x.1, (0 : Int), ())
@[reducible] def sig (n : Nat) : Sig := ⟨[(.slice tGateTeam)], [.bool], false, f n, none⟩
def T (n : Nat) : FuncId → Option Sig := fun g => if Nat.beq g 26 = true then some (spec_l1NameOk.sig n) else if Nat.beq g 27 = true then some (spec_l4Team.sig n) else if Nat.beq g 28 = true then some (spec_l4Over.sig n) else none
def TL (n : Nat) : Loops := fun j _ st k => if Nat.beq j 11 = true then (match dec st l11.inS [] with | some x => runL (B11 n) (contsOf k l11.outs) n x | none => none) else if Nat.beq j 4 = true then (match dec st l4.inS [] with | some x => runL (B4 n) (contsOf k l4.outs) n x | none => none) else none
theorem d11 (n : Nat) : LoopDef Try.prog (T n) (TL n) Try.f16 11 :=
  ⟨l11, fun R => B11 n, n, fun R st k => by kernel_rfl, fun R next cs x => by kernel_rfl⟩
theorem d4 (n : Nat) : LoopDef Try.prog (T n) (TL n) Try.f16 4 :=
  ⟨l4, fun R => B4 n, n, fun R st k => by kernel_rfl, fun R next cs x => by kernel_rfl⟩
theorem con (n : Nat) : Con Try.prog 16 (sig n) :=
  con_print (hsw := rfl) (T := T n) (TL := TL n) (c := Try.f16.body.getD .skip) (js := [4, 11]) hMixed (conT_cons (spec_l1NameOk.con n) (conT_cons (spec_l4Team.con n) (conT_cons (spec_l4Over.con n) conT_none))) Try.func16 (by decide) (by kernel_rfl) (by kernel_rfl) (by decide) (LoopDef.cons (d4 n) (LoopDef.cons (d11 n) LoopDef.nil)) (fun x => by kernel_rfl)
end spec_GateTeamsOk
namespace spec_l4RuleOk
@[reducible] def l4 : LSpec := ⟨[(1, .rb tGateRule), (3, .d (.int .i64))], [(.ret, [(2, .d .bool)]), (.exit 0, [(1, .rb tGateRule)])]⟩
def B4 (n : Nat) {R : Type} (next : Sden l4.inS → Option R) (cs : Conts R l4.outs) (x : Sden l4.inS) : Option R :=
  if (decide (x.2.1 < (List.length x.1.1 : Int))) = true then
    if (!true || (decide (0 ≤ x.2.1 ∧ x.2.1 < (List.length x.1.1 : Int)))) = true then
      (if true = true then (spec_l1In.f n ((List.getD x.1.1 (Int.toNat x.2.1) (0 : Int)), (1 : Int), (5 : Int), ())) else some (tzero [.bool])).bind fun y3 =>
      if (!((!(!y3.1)) && (decide (x.2.1 > (0 : Int)))) || (decide (0 ≤ (IntKind.i64.wrap (x.2.1 - (1 : Int))) ∧ (IntKind.i64.wrap (x.2.1 - (1 : Int))) < (List.length x.1.1 : Int)))) = true then
        if (!((!(!y3.1)) && (decide (x.2.1 > (0 : Int)))) || (decide (0 ≤ x.2.1 ∧ x.2.1 < (List.length x.1.1 : Int)))) = true then
          if ((!y3.1) || ((decide (x.2.1 > (0 : Int))) && (decide ((List.getD x.1.1 (Int.toNat (IntKind.i64.wrap (x.2.1 - (1 : Int)))) (0 : Int)) ≥ (List.getD x.1.1 (Int.toNat x.2.1) (0 : Int)))))) = true then
            cs.1 (false, ())
          else
            next (x.1, (IntKind.i64.wrap (x.2.1 + (1 : Int))), ())
        else
          none
      else
        none
    else
      none
  else
    cs.2.1 (x.1, ())
@[reducible] def l9 : LSpec := ⟨[(1, .rb tGateRule), (4, .d (.int .i64))], [(.ret, [(2, .d .bool)]), (.exit 2, [])]⟩
def B9 (n : Nat) {R : Type} (next : Sden l9.inS → Option R) (cs : Conts R l9.outs) (x : Sden l9.inS) : Option R :=
  if (decide (x.2.1 < (ByteArray.size x.1.2.2.2.1 : Int))) = true then
    if (decide (0 ≤ x.2.1 ∧ x.2.1 < (ByteArray.size x.1.2.2.2.1 : Int))) = true then
      (spec_l1Byte.f n ((byteAt x.1.2.2.2.1 x.2.1), ())).bind fun y6 =>
      if (!y6.1) = true then
        cs.1 (false, ())
      else
        next (x.1, (IntKind.i64.wrap (x.2.1 + (1 : Int))), ())
    else
      none
  else
    cs.2.1 ()
def f (n : Nat) (x : Tup [tGateRule]) : Option (Tup [.bool]) :=
  (if ((!(((List.length x.1.1 : Int) == (0 : Int)) || (decide ((ByteArray.size x.1.2.2.2.1 : Int) > (16 : Int))))) && (!seq x.1.2.1 (⟨#[]⟩ : ByteArray))) = true then (spec_l1NameOk.f n (x.1.2.1, ())) else some (tzero [.bool])).bind fun y1 =>
  (if ((!((((List.length x.1.1 : Int) == (0 : Int)) || (decide ((ByteArray.size x.1.2.2.2.1 : Int) > (16 : Int)))) || ((!seq x.1.2.1 (⟨#[]⟩ : ByteArray)) && (!y1.1)))) && (!seq x.1.2.2.1 (⟨#[]⟩ : ByteArray))) = true then (spec_l1NameOk.f n (x.1.2.2.1, ())) else some (tzero [.bool])).bind fun y2 =>
  if (((((List.length x.1.1 : Int) == (0 : Int)) || (decide ((ByteArray.size x.1.2.2.2.1 : Int) > (16 : Int)))) || ((!seq x.1.2.1 (⟨#[]⟩ : ByteArray)) && (!y1.1))) || ((!seq x.1.2.2.1 (⟨#[]⟩ : ByteArray)) && (!y2.1))) = true then
    some (false, ())
  else
    runL (B4 n) ((fun z4 =>
        some (z4.1, ())), (fun z5 =>
        runL (B9 n) ((fun z7 =>
            some (z7.1, ())), (fun z8 =>
            some (true, ())), ()) n (z5.1, (0 : Int), ())), ()) n (x.1, (0 : Int), ())
@[reducible] def sig (n : Nat) : Sig := ⟨[tGateRule], [.bool], false, f n, none⟩
def T (n : Nat) : FuncId → Option Sig := fun g => if Nat.beq g 26 = true then some (spec_l1NameOk.sig n) else if Nat.beq g 29 = true then some (spec_l1In.sig n) else if Nat.beq g 30 = true then some (spec_l1Byte.sig n) else none
def TL (n : Nat) : Loops := fun j _ st k => if Nat.beq j 4 = true then (match dec st l4.inS [] with | some x => runL (B4 n) (contsOf k l4.outs) n x | none => none) else if Nat.beq j 9 = true then (match dec st l9.inS [] with | some x => runL (B9 n) (contsOf k l9.outs) n x | none => none) else none
theorem d4 (n : Nat) : LoopDef Try.prog (T n) (TL n) Try.f17 4 :=
  ⟨l4, fun R => B4 n, n, fun R st k => by kernel_rfl, fun R next cs x => by kernel_rfl⟩
theorem d9 (n : Nat) : LoopDef Try.prog (T n) (TL n) Try.f17 9 :=
  ⟨l9, fun R => B9 n, n, fun R st k => by kernel_rfl, fun R next cs x => by kernel_rfl⟩
theorem con (n : Nat) : Con Try.prog 17 (sig n) :=
  con_print (hsw := rfl) (T := T n) (TL := TL n) (c := Try.f17.body.getD .skip) (js := [4, 9]) hMixed (conT_cons (spec_l1NameOk.con n) (conT_cons (spec_l1In.con n) (conT_cons (spec_l1Byte.con n) conT_none))) Try.func17 (by decide) (by kernel_rfl) (by kernel_rfl) (by decide) (LoopDef.cons (d4 n) (LoopDef.cons (d9 n) LoopDef.nil)) (fun x => by kernel_rfl)
end spec_l4RuleOk
namespace spec_l4Verb
@[reducible] def l2 : LSpec := ⟨[(1, .d (.int .i64)), (2, .rb tGateRule), (5, .d (.int .i64))], [(.ret, [(4, .d .bool)]), (.exit 0, [])]⟩
def B2 (n : Nat) {R : Type} (next : Sden l2.inS → Option R) (cs : Conts R l2.outs) (x : Sden l2.inS) : Option R :=
  if (decide (x.2.2.1 < (List.length x.2.1.1 : Int))) = true then
    if (decide (0 ≤ x.2.2.1 ∧ x.2.2.1 < (List.length x.2.1.1 : Int))) = true then
      if ((List.getD x.2.1.1 (Int.toNat x.2.2.1) (0 : Int)) == x.1) = true then
        cs.1 (true, ())
      else
        next (x.1, x.2.1, (IntKind.i64.wrap (x.2.2.1 + (1 : Int))), ())
    else
      none
  else
    cs.2.1 ()
def f (n : Nat) (x : Tup [tGateRule, (.int .i64)]) : Option (Tup [.bool]) :=
  runL (B2 n) ((fun z1 =>
      some (z1.1, ())), (fun z2 =>
      some (false, ())), ()) n (x.2.1, x.1, (0 : Int), ())
@[reducible] def sig (n : Nat) : Sig := ⟨[tGateRule, (.int .i64)], [.bool], false, f n, none⟩
def T (n : Nat) : FuncId → Option Sig := fun g => none
def TL (n : Nat) : Loops := fun j _ st k => if Nat.beq j 2 = true then (match dec st l2.inS [] with | some x => runL (B2 n) (contsOf k l2.outs) n x | none => none) else none
theorem d2 (n : Nat) : LoopDef Try.prog (T n) (TL n) Try.f31 2 :=
  ⟨l2, fun R => B2 n, n, fun R st k => by kernel_rfl, fun R next cs x => by kernel_rfl⟩
theorem con (n : Nat) : Con Try.prog 31 (sig n) :=
  con_print (hsw := rfl) (T := T n) (TL := TL n) (c := Try.f31.body.getD .skip) (js := [2]) hMixed conT_none Try.func31 (by decide) (by kernel_rfl) (by kernel_rfl) (by decide) (LoopDef.cons (d2 n) LoopDef.nil) (fun x => by kernel_rfl)
end spec_l4Verb
namespace spec_GateUnder
@[reducible] def l4 : LSpec := ⟨[(0, .d (.slice tGateTeam)), (1, .d .str), (2, .d .str), (7, .d (.int .i64))], [(.ret, [(6, .d .bool)]), (.exit 0, [])]⟩
def B4 (n : Nat) {R : Type} (next : Sden l4.inS → Option R) (cs : Conts R l4.outs) (x : Sden l4.inS) : Option R :=
  if (decide (x.2.2.2.1 < (4 : Int))) = true then
    (spec_l4Over.f n (x.1, x.2.1, ())).bind fun y1 =>
    if (seq y1.1 (⟨#[]⟩ : ByteArray)) = true then
      cs.1 (false, ())
    else if (seq y1.1 x.2.2.1) = true then
      cs.1 (true, ())
    else
      next (x.1, y1.1, x.2.2.1, (IntKind.i64.wrap (x.2.2.2.1 + (1 : Int))), ())
  else
    cs.2.1 ()
def f (n : Nat) (x : Tup [(.slice tGateTeam), .str, .str]) : Option (Tup [.bool]) :=
  if (seq x.2.1 x.2.2.1) = true then
    some (true, ())
  else
    runL (B4 n) ((fun z2 =>
        some (z2.1, ())), (fun z3 =>
        some (false, ())), ()) n (x.1, x.2.1, x.2.2.1, (0 : Int), ())
@[reducible] def sig (n : Nat) : Sig := ⟨[(.slice tGateTeam), .str, .str], [.bool], false, f n, none⟩
def T (n : Nat) : FuncId → Option Sig := fun g => if Nat.beq g 28 = true then some (spec_l4Over.sig n) else none
def TL (n : Nat) : Loops := fun j _ st k => if Nat.beq j 4 = true then (match dec st l4.inS [] with | some x => runL (B4 n) (contsOf k l4.outs) n x | none => none) else none
theorem d4 (n : Nat) : LoopDef Try.prog (T n) (TL n) Try.f32 4 :=
  ⟨l4, fun R => B4 n, n, fun R st k => by kernel_rfl, fun R next cs x => by kernel_rfl⟩
theorem con (n : Nat) : Con Try.prog 32 (sig n) :=
  con_print (hsw := rfl) (T := T n) (TL := TL n) (c := Try.f32.body.getD .skip) (js := [4]) hMixed (conT_cons (spec_l4Over.con n) conT_none) Try.func32 (by decide) (by kernel_rfl) (by kernel_rfl) (by decide) (LoopDef.cons (d4 n) LoopDef.nil) (fun x => by kernel_rfl)
end spec_GateUnder
namespace spec_l4Begins
def f (n : Nat) (x : Tup [.str, .str]) : Option (Tup [.bool]) :=
  if (!(decide ((ByteArray.size x.1 : Int) ≥ (ByteArray.size x.2.1 : Int))) || (decide (0 ≤ (0 : Int) ∧ (0 : Int) ≤ (ByteArray.size x.2.1 : Int) ∧ (ByteArray.size x.2.1 : Int) ≤ (ByteArray.size x.1 : Int)))) = true then
    some (((decide ((ByteArray.size x.1 : Int) ≥ (ByteArray.size x.2.1 : Int))) && (seq (ByteArray.extract x.1 (Int.toNat (0 : Int)) (Int.toNat (ByteArray.size x.2.1 : Int))) x.2.1)), ())
  else
    none
@[reducible] def sig (n : Nat) : Sig := ⟨[.str, .str], [.bool], false, f n, none⟩
def T (n : Nat) : FuncId → Option Sig := fun g => none
def TL (n : Nat) : Loops := fun j _ st k => none
theorem con (n : Nat) : Con Try.prog 33 (sig n) :=
  con_print (hsw := rfl) (T := T n) (TL := TL n) (c := Try.f33.body.getD .skip) (js := []) hMixed conT_none Try.func33 (by decide) (by kernel_rfl) (by kernel_rfl) (by decide) LoopDef.nil (fun x => by kernel_rfl)
end spec_l4Begins
namespace spec_l4Allows
def f (n : Nat) (x : Tup [(.slice tGateTeam), tGateRule, tGateAct]) : Option (Tup [.bool]) :=
  (spec_l4Verb.f n (x.2.1, x.2.2.1.1, ())).bind fun y1 =>
  (if ((y1.1 && ((seq x.2.1.2.1 (⟨#[]⟩ : ByteArray)) || (seq x.2.1.2.1 x.2.2.1.2.1))) && (!(seq x.2.1.2.2.1 (⟨#[]⟩ : ByteArray)))) = true then (spec_GateUnder.f n (x.1, x.2.2.1.2.2.1, x.2.1.2.2.1, ())) else some (tzero [.bool])).bind fun y2 =>
  (if ((y1.1 && ((seq x.2.1.2.1 (⟨#[]⟩ : ByteArray)) || (seq x.2.1.2.1 x.2.2.1.2.1))) && ((seq x.2.1.2.2.1 (⟨#[]⟩ : ByteArray)) || y2.1)) = true then (spec_l4Begins.f n (x.2.2.1.2.2.2.1, x.2.1.2.2.2.1, ())) else some (tzero [.bool])).bind fun y3 =>
  some ((((y1.1 && ((seq x.2.1.2.1 (⟨#[]⟩ : ByteArray)) || (seq x.2.1.2.1 x.2.2.1.2.1))) && ((seq x.2.1.2.2.1 (⟨#[]⟩ : ByteArray)) || y2.1)) && y3.1), ())
@[reducible] def sig (n : Nat) : Sig := ⟨[(.slice tGateTeam), tGateRule, tGateAct], [.bool], false, f n, none⟩
def T (n : Nat) : FuncId → Option Sig := fun g => if Nat.beq g 31 = true then some (spec_l4Verb.sig n) else if Nat.beq g 32 = true then some (spec_GateUnder.sig n) else if Nat.beq g 33 = true then some (spec_l4Begins.sig n) else none
def TL (n : Nat) : Loops := fun j _ st k => none
theorem con (n : Nat) : Con Try.prog 18 (sig n) :=
  con_print (hsw := rfl) (T := T n) (TL := TL n) (c := Try.f18.body.getD .skip) (js := []) hMixed (conT_cons (spec_l4Verb.con n) (conT_cons (spec_GateUnder.con n) (conT_cons (spec_l4Begins.con n) conT_none))) Try.func18 (by decide) (by kernel_rfl) (by kernel_rfl) (by decide) LoopDef.nil (fun x => by kernel_rfl)
end spec_l4Allows
namespace spec_GateAllows
def f (n : Nat) (x : Tup [(.slice tGateTeam), tGateRule, tGateAct]) : Option (Tup [.bool]) :=
  (spec_GateTeamsOk.f n (x.1, ())).bind fun y1 =>
  (if y1.1 = true then (spec_l4RuleOk.f n (x.2.1, ())) else some (tzero [.bool])).bind fun y2 =>
  (if (y1.1 && y2.1) = true then (spec_l4Allows.f n (x.1, x.2.1, x.2.2.1, ())) else some (tzero [.bool])).bind fun y3 =>
  some (((y1.1 && y2.1) && y3.1), ())
@[reducible] def sig (n : Nat) : Sig := ⟨[(.slice tGateTeam), tGateRule, tGateAct], [.bool], false, f n, none⟩
def T (n : Nat) : FuncId → Option Sig := fun g => if Nat.beq g 16 = true then some (spec_GateTeamsOk.sig n) else if Nat.beq g 17 = true then some (spec_l4RuleOk.sig n) else if Nat.beq g 18 = true then some (spec_l4Allows.sig n) else none
def TL (n : Nat) : Loops := fun j _ st k => none
theorem con (n : Nat) : Con Try.prog 7 (sig n) :=
  con_print (hsw := rfl) (T := T n) (TL := TL n) (c := Try.f7.body.getD .skip) (js := []) hMixed (conT_cons (spec_GateTeamsOk.con n) (conT_cons (spec_l4RuleOk.con n) (conT_cons (spec_l4Allows.con n) conT_none))) Try.func7 (by decide) (by kernel_rfl) (by kernel_rfl) (by decide) LoopDef.nil (fun x => by kernel_rfl)
end spec_GateAllows
namespace impl_nameByte
def f (n : Nat) (x : Tup [(.int .u8)]) : Option (Tup [.bool]) :=
  some (((((decide (x.1 ≥ (97 : Int))) && (decide (x.1 ≤ (122 : Int)))) || ((decide (x.1 ≥ (48 : Int))) && (decide (x.1 ≤ (57 : Int))))) || (x.1 == (45 : Int))), ())
@[reducible] def sig (n : Nat) : Sig := ⟨[(.int .u8)], [.bool], false, f n, none⟩
def T (n : Nat) : FuncId → Option Sig := fun g => none
def TL (n : Nat) : Loops := fun j _ st k => none
theorem con (n : Nat) : Con Try.prog 41 (sig n) :=
  con_print (hsw := rfl) (T := T n) (TL := TL n) (c := Try.f41.body.getD .skip) (js := []) hMixed conT_none Try.func41 (by decide) (by kernel_rfl) (by kernel_rfl) (by decide) LoopDef.nil (fun x => by kernel_rfl)
end impl_nameByte
namespace impl_nameBytes
@[reducible] def l2 : LSpec := ⟨[(0, .d .str), (5, .d (.int .i64)), (6, .d (.int .i64))], [(.ret, [(2, .d .bool)]), (.exit 0, [])]⟩
def B2 (n : Nat) {R : Type} (next : Sden l2.inS → Option R) (cs : Conts R l2.outs) (x : Sden l2.inS) : Option R :=
  if (decide (x.2.2.1 < x.2.1)) = true then
    if (decide (0 ≤ x.2.2.1 ∧ x.2.2.1 < (ByteArray.size x.1 : Int))) = true then
      (impl_nameByte.f n ((byteAt x.1 x.2.2.1), ())).bind fun y1 =>
      if (!y1.1) = true then
        cs.1 (false, ())
      else
        next (x.1, x.2.1, (IntKind.i64.wrap (x.2.2.1 + (1 : Int))), ())
    else
      none
  else
    cs.2.1 ()
def f (n : Nat) (x : Tup [.str]) : Option (Tup [.bool]) :=
  runL (B2 n) ((fun z2 =>
      some (z2.1, ())), (fun z3 =>
      some (true, ())), ()) n (x.1, (ByteArray.size x.1 : Int), (0 : Int), ())
@[reducible] def sig (n : Nat) : Sig := ⟨[.str], [.bool], false, f n, none⟩
def T (n : Nat) : FuncId → Option Sig := fun g => if Nat.beq g 41 = true then some (impl_nameByte.sig n) else none
def TL (n : Nat) : Loops := fun j _ st k => if Nat.beq j 2 = true then (match dec st l2.inS [] with | some x => runL (B2 n) (contsOf k l2.outs) n x | none => none) else none
theorem d2 (n : Nat) : LoopDef Try.prog (T n) (TL n) Try.f36 2 :=
  ⟨l2, fun R => B2 n, n, fun R st k => by kernel_rfl, fun R next cs x => by kernel_rfl⟩
theorem con (n : Nat) : Con Try.prog 36 (sig n) :=
  con_print (hsw := rfl) (T := T n) (TL := TL n) (c := Try.f36.body.getD .skip) (js := [2]) hMixed (conT_cons (impl_nameByte.con n) conT_none) Try.func36 (by decide) (by kernel_rfl) (by kernel_rfl) (by decide) (LoopDef.cons (d2 n) LoopDef.nil) (fun x => by kernel_rfl)
end impl_nameBytes
namespace impl_isName
def f (n : Nat) (x : Tup [.str]) : Option (Tup [.bool]) :=
  (if ((decide ((ByteArray.size x.1 : Int) ≥ (1 : Int))) && (decide ((ByteArray.size x.1 : Int) ≤ (16 : Int)))) = true then (impl_nameBytes.f n (x.1, ())) else some (tzero [.bool])).bind fun y1 =>
  some ((((decide ((ByteArray.size x.1 : Int) ≥ (1 : Int))) && (decide ((ByteArray.size x.1 : Int) ≤ (16 : Int)))) && y1.1), ())
@[reducible] def sig (n : Nat) : Sig := ⟨[.str], [.bool], false, f n, none⟩
def T (n : Nat) : FuncId → Option Sig := fun g => if Nat.beq g 36 = true then some (impl_nameBytes.sig n) else none
def TL (n : Nat) : Loops := fun j _ st k => none
theorem con (n : Nat) : Con Try.prog 34 (sig n) :=
  con_print (hsw := rfl) (T := T n) (TL := TL n) (c := Try.f34.body.getD .skip) (js := []) hMixed (conT_cons (impl_nameBytes.con n) conT_none) Try.func34 (by decide) (by kernel_rfl) (by kernel_rfl) (by decide) LoopDef.nil (fun x => by kernel_rfl)
end impl_isName
namespace impl_teamOf
@[reducible] def l2 : LSpec := ⟨[(1, .d .str), (7, .d (.slice tGateTeam)), (8, .d (.int .i64)), (9, .d (.int .i64))], [(.ret, [(4, .d (.int .i64))]), (.exit 0, [])]⟩
def B2 (n : Nat) {R : Type} (next : Sden l2.inS → Option R) (cs : Conts R l2.outs) (x : Sden l2.inS) : Option R :=
  if (decide (x.2.2.2.1 < x.2.2.1)) = true then
    if (decide (0 ≤ x.2.2.2.1 ∧ x.2.2.2.1 < (List.length x.2.1 : Int))) = true then
      if (seq (List.getD x.2.1 (Int.toNat x.2.2.2.1) (Ty.zero tGateTeam)).1 x.1) = true then
        cs.1 (x.2.2.2.1, ())
      else
        next (x.1, x.2.1, x.2.2.1, (IntKind.i64.wrap (x.2.2.2.1 + (1 : Int))), ())
    else
      none
  else
    cs.2.1 ()
def f (n : Nat) (x : Tup [(.slice tGateTeam), .str]) : Option (Tup [(.int .i64)]) :=
  runL (B2 n) ((fun z1 =>
      some (z1.1, ())), (fun z2 =>
      some ((-1 : Int), ())), ()) n (x.2.1, x.1, (List.length x.1 : Int), (0 : Int), ())
@[reducible] def sig (n : Nat) : Sig := ⟨[(.slice tGateTeam), .str], [(.int .i64)], false, f n, none⟩
def T (n : Nat) : FuncId → Option Sig := fun g => none
def TL (n : Nat) : Loops := fun j _ st k => if Nat.beq j 2 = true then (match dec st l2.inS [] with | some x => runL (B2 n) (contsOf k l2.outs) n x | none => none) else none
theorem d2 (n : Nat) : LoopDef Try.prog (T n) (TL n) Try.f35 2 :=
  ⟨l2, fun R => B2 n, n, fun R st k => by kernel_rfl, fun R next cs x => by kernel_rfl⟩
theorem con (n : Nat) : Con Try.prog 35 (sig n) :=
  con_print (hsw := rfl) (T := T n) (TL := TL n) (c := Try.f35.body.getD .skip) (js := [2]) hMixed conT_none Try.func35 (by decide) (by kernel_rfl) (by kernel_rfl) (by decide) (LoopDef.cons (d2 n) LoopDef.nil) (fun x => by kernel_rfl)
end impl_teamOf
namespace impl_GateTeamsOk
@[reducible] def l4 : LSpec := ⟨[(0, .d (.slice tGateTeam)), (12, .d (.slice tGateTeam)), (13, .d (.int .i64)), (14, .d (.int .i64))], [(.ret, [(2, .d .bool)]), (.exit 0, [(0, .d (.slice tGateTeam))])]⟩
def B4 (n : Nat) {R : Type} (next : Sden l4.inS → Option R) (cs : Conts R l4.outs) (x : Sden l4.inS) : Option R :=
  if (decide (x.2.2.2.1 < x.2.2.1)) = true then
    if (decide (0 ≤ x.2.2.2.1 ∧ x.2.2.2.1 < (List.length x.2.1 : Int))) = true then
      (if true = true then (impl_isName.f n ((List.getD x.2.1 (Int.toNat x.2.2.2.1) (Ty.zero tGateTeam)).1, ())) else some (tzero [.bool])).bind fun y1 =>
      if (!((!(!y1.1)) && (decide (x.2.2.2.1 > (0 : Int)))) || (decide (0 ≤ (IntKind.i64.wrap (x.2.2.2.1 - (1 : Int))) ∧ (IntKind.i64.wrap (x.2.2.2.1 - (1 : Int))) < (List.length x.1 : Int)))) = true then
        (if ((!((!y1.1) || ((decide (x.2.2.2.1 > (0 : Int))) && (!slt (List.getD x.1 (Int.toNat (IntKind.i64.wrap (x.2.2.2.1 - (1 : Int)))) (Ty.zero tGateTeam)).1 (List.getD x.2.1 (Int.toNat x.2.2.2.1) (Ty.zero tGateTeam)).1)))) && (!seq (List.getD x.2.1 (Int.toNat x.2.2.2.1) (Ty.zero tGateTeam)).2.1 (⟨#[]⟩ : ByteArray))) = true then (impl_teamOf.f n (x.1, (List.getD x.2.1 (Int.toNat x.2.2.2.1) (Ty.zero tGateTeam)).2.1, ())) else some (tzero [(.int .i64)])).bind fun y2 =>
        if (((!y1.1) || ((decide (x.2.2.2.1 > (0 : Int))) && (!slt (List.getD x.1 (Int.toNat (IntKind.i64.wrap (x.2.2.2.1 - (1 : Int)))) (Ty.zero tGateTeam)).1 (List.getD x.2.1 (Int.toNat x.2.2.2.1) (Ty.zero tGateTeam)).1))) || ((!seq (List.getD x.2.1 (Int.toNat x.2.2.2.1) (Ty.zero tGateTeam)).2.1 (⟨#[]⟩ : ByteArray)) && (decide (y2.1 < (0 : Int))))) = true then
          cs.1 (false, ())
        else
          next (x.1, x.2.1, x.2.2.1, (IntKind.i64.wrap (x.2.2.2.1 + (1 : Int))), ())
      else
        none
    else
      none
  else
    cs.2.1 (x.1, ())
@[reducible] def l14 : LSpec := ⟨[(0, .d (.slice tGateTeam)), (7, .d (.int .i64)), (8, .d .str), (51, .d (.slice tGateTeam)), (52, .d (.int .i64)), (53, .d (.int .i64))], [(.ret, [(2, .d .bool)]), (.exit 4, [(0, .d (.slice tGateTeam)), (51, .d (.slice tGateTeam)), (52, .d (.int .i64)), (53, .d (.int .i64))])]⟩
def B14 (n : Nat) {R : Type} (next : Sden l14.inS → Option R) (cs : Conts R l14.outs) (x : Sden l14.inS) : Option R :=
  if (!seq x.2.2.1 (⟨#[]⟩ : ByteArray)) = true then
    if (decide ((IntKind.i64.wrap (x.2.1 + (1 : Int))) > (4 : Int))) = true then
      cs.1 (false, ())
    else
      (impl_teamOf.f n (x.1, x.2.2.1, ())).bind fun y5 =>
      if (decide (0 ≤ y5.1 ∧ y5.1 < (List.length x.1 : Int))) = true then
        next (x.1, (IntKind.i64.wrap (x.2.1 + (1 : Int))), (List.getD x.1 (Int.toNat y5.1) (Ty.zero tGateTeam)).2.1, x.2.2.2.1, x.2.2.2.2.1, x.2.2.2.2.2.1, ())
      else
        none
  else
    cs.2.1 (x.1, x.2.2.2.1, x.2.2.2.2.1, x.2.2.2.2.2.1, ())
@[reducible] def l10 : LSpec := ⟨[(0, .d (.slice tGateTeam)), (51, .d (.slice tGateTeam)), (52, .d (.int .i64)), (53, .d (.int .i64))], [(.ret, [(2, .d .bool)]), (.exit 2, [])]⟩
def B10 (n : Nat) {R : Type} (next : Sden l10.inS → Option R) (cs : Conts R l10.outs) (x : Sden l10.inS) : Option R :=
  if (decide (x.2.2.2.1 < x.2.2.1)) = true then
    if (decide (0 ≤ x.2.2.2.1 ∧ x.2.2.2.1 < (List.length x.2.1 : Int))) = true then
      runL (B14 n) ((fun z6 =>
          cs.1 (z6.1, ())), (fun z7 =>
          next (z7.1, z7.2.1, z7.2.2.1, (IntKind.i64.wrap (z7.2.2.2.1 + (1 : Int))), ())), ()) n (x.1, (0 : Int), (List.getD x.2.1 (Int.toNat x.2.2.2.1) (Ty.zero tGateTeam)).2.1, x.2.1, x.2.2.1, x.2.2.2.1, ())
    else
      none
  else
    cs.2.1 ()
def f (n : Nat) (x : Tup [(.slice tGateTeam)]) : Option (Tup [.bool]) :=
  if (decide ((List.length x.1 : Int) > (12 : Int))) = true then
    some (false, ())
  else
    runL (B4 n) ((fun z3 =>
        some (z3.1, ())), (fun z4 =>
        runL (B10 n) ((fun z8 =>
            some (z8.1, ())), (fun z9 =>
            some (true, ())), ()) n (z4.1, z4.1, (List.length z4.1 : Int), (0 : Int), ())), ()) n (x.1, x.1, (List.length x.1 : Int), (0 : Int), ())
@[reducible] def sig (n : Nat) : Sig := ⟨[(.slice tGateTeam)], [.bool], false, f n, none⟩
def T (n : Nat) : FuncId → Option Sig := fun g => if Nat.beq g 34 = true then some (impl_isName.sig n) else if Nat.beq g 35 = true then some (impl_teamOf.sig n) else none
def TL (n : Nat) : Loops := fun j _ st k => if Nat.beq j 4 = true then (match dec st l4.inS [] with | some x => runL (B4 n) (contsOf k l4.outs) n x | none => none) else if Nat.beq j 14 = true then (match dec st l14.inS [] with | some x => runL (B14 n) (contsOf k l14.outs) n x | none => none) else if Nat.beq j 10 = true then (match dec st l10.inS [] with | some x => runL (B10 n) (contsOf k l10.outs) n x | none => none) else none
theorem d4 (n : Nat) : LoopDef Try.prog (T n) (TL n) Try.f21 4 :=
  ⟨l4, fun R => B4 n, n, fun R st k => by kernel_rfl, fun R next cs x => by kernel_rfl⟩
theorem d14 (n : Nat) : LoopDef Try.prog (T n) (TL n) Try.f21 14 :=
  ⟨l14, fun R => B14 n, n, fun R st k => by kernel_rfl, fun R next cs x => by kernel_rfl⟩
theorem d10 (n : Nat) : LoopDef Try.prog (T n) (TL n) Try.f21 10 :=
  ⟨l10, fun R => B10 n, n, fun R st k => by kernel_rfl, fun R next cs x => by kernel_rfl⟩
theorem con (n : Nat) : Con Try.prog 21 (sig n) :=
  con_print (hsw := rfl) (T := T n) (TL := TL n) (c := Try.f21.body.getD .skip) (js := [4, 10, 14]) hMixed (conT_cons (impl_isName.con n) (conT_cons (impl_teamOf.con n) conT_none)) Try.func21 (by decide) (by kernel_rfl) (by kernel_rfl) (by decide) (LoopDef.cons (d4 n) (LoopDef.cons (d10 n) (LoopDef.cons (d14 n) LoopDef.nil))) (fun x => by kernel_rfl)
end impl_GateTeamsOk
namespace impl_GateRule_ok
@[reducible] def l4 : LSpec := ⟨[(1, .rb tGateRule), (44, .d (.slice (.int .i64))), (45, .d (.int .i64)), (46, .d (.int .i64))], [(.ret, [(2, .d .bool)]), (.exit 0, [])]⟩
def B4 (n : Nat) {R : Type} (next : Sden l4.inS → Option R) (cs : Conts R l4.outs) (x : Sden l4.inS) : Option R :=
  if (decide (x.2.2.2.1 < x.2.2.1)) = true then
    if (decide (0 ≤ x.2.2.2.1 ∧ x.2.2.2.1 < (List.length x.2.1 : Int))) = true then
      if (!((!((decide ((List.getD x.2.1 (Int.toNat x.2.2.2.1) (0 : Int)) < (1 : Int))) || (decide ((List.getD x.2.1 (Int.toNat x.2.2.2.1) (0 : Int)) > (5 : Int))))) && (decide (x.2.2.2.1 > (0 : Int)))) || (decide (0 ≤ (IntKind.i64.wrap (x.2.2.2.1 - (1 : Int))) ∧ (IntKind.i64.wrap (x.2.2.2.1 - (1 : Int))) < (List.length x.1.1 : Int)))) = true then
        if (((decide ((List.getD x.2.1 (Int.toNat x.2.2.2.1) (0 : Int)) < (1 : Int))) || (decide ((List.getD x.2.1 (Int.toNat x.2.2.2.1) (0 : Int)) > (5 : Int)))) || ((decide (x.2.2.2.1 > (0 : Int))) && (decide ((List.getD x.1.1 (Int.toNat (IntKind.i64.wrap (x.2.2.2.1 - (1 : Int)))) (0 : Int)) ≥ (List.getD x.2.1 (Int.toNat x.2.2.2.1) (0 : Int)))))) = true then
          cs.1 (false, ())
        else
          next (x.1, x.2.1, x.2.2.1, (IntKind.i64.wrap (x.2.2.2.1 + (1 : Int))), ())
      else
        none
    else
      none
  else
    cs.2.1 ()
def f (n : Nat) (x : Tup [tGateRule]) : Option (Tup [.bool]) :=
  (if ((!((List.length x.1.1 : Int) == (0 : Int))) && (!seq x.1.2.1 (⟨#[]⟩ : ByteArray))) = true then (impl_isName.f n (x.1.2.1, ())) else some (tzero [.bool])).bind fun y1 =>
  (if ((!(((List.length x.1.1 : Int) == (0 : Int)) || ((!seq x.1.2.1 (⟨#[]⟩ : ByteArray)) && (!y1.1)))) && (!seq x.1.2.2.1 (⟨#[]⟩ : ByteArray))) = true then (impl_isName.f n (x.1.2.2.1, ())) else some (tzero [.bool])).bind fun y2 =>
  (if (!(((((List.length x.1.1 : Int) == (0 : Int)) || ((!seq x.1.2.1 (⟨#[]⟩ : ByteArray)) && (!y1.1))) || ((!seq x.1.2.2.1 (⟨#[]⟩ : ByteArray)) && (!y2.1))) || (decide ((ByteArray.size x.1.2.2.2.1 : Int) > (16 : Int))))) = true then (impl_nameBytes.f n (x.1.2.2.2.1, ())) else some (tzero [.bool])).bind fun y3 =>
  if ((((((List.length x.1.1 : Int) == (0 : Int)) || ((!seq x.1.2.1 (⟨#[]⟩ : ByteArray)) && (!y1.1))) || ((!seq x.1.2.2.1 (⟨#[]⟩ : ByteArray)) && (!y2.1))) || (decide ((ByteArray.size x.1.2.2.2.1 : Int) > (16 : Int)))) || (!y3.1)) = true then
    some (false, ())
  else
    runL (B4 n) ((fun z4 =>
        some (z4.1, ())), (fun z5 =>
        some (true, ())), ()) n (x.1, x.1.1, (List.length x.1.1 : Int), (0 : Int), ())
@[reducible] def sig (n : Nat) : Sig := ⟨[tGateRule], [.bool], false, f n, none⟩
def T (n : Nat) : FuncId → Option Sig := fun g => if Nat.beq g 34 = true then some (impl_isName.sig n) else if Nat.beq g 36 = true then some (impl_nameBytes.sig n) else none
def TL (n : Nat) : Loops := fun j _ st k => if Nat.beq j 4 = true then (match dec st l4.inS [] with | some x => runL (B4 n) (contsOf k l4.outs) n x | none => none) else none
theorem d4 (n : Nat) : LoopDef Try.prog (T n) (TL n) Try.f22 4 :=
  ⟨l4, fun R => B4 n, n, fun R st k => by kernel_rfl, fun R next cs x => by kernel_rfl⟩
theorem con (n : Nat) : Con Try.prog 22 (sig n) :=
  con_print (hsw := rfl) (T := T n) (TL := TL n) (c := Try.f22.body.getD .skip) (js := [4]) hMixed (conT_cons (impl_isName.con n) (conT_cons (impl_nameBytes.con n) conT_none)) Try.func22 (by decide) (by kernel_rfl) (by kernel_rfl) (by decide) (LoopDef.cons (d4 n) LoopDef.nil) (fun x => by kernel_rfl)
end impl_GateRule_ok
namespace impl_setOf
@[reducible] def l3 : LSpec := ⟨[(3, .d (.int .u16)), (6, .d (.slice (.int .i64))), (7, .d (.int .i64)), (8, .d (.int .i64))], [(.exit 0, [(3, .d (.int .u16))])]⟩
def B3 (n : Nat) {R : Type} (next : Sden l3.inS → Option R) (cs : Conts R l3.outs) (x : Sden l3.inS) : Option R :=
  if (decide (x.2.2.2.1 < x.2.2.1)) = true then
    if (decide (0 ≤ x.2.2.2.1 ∧ x.2.2.2.1 < (List.length x.2.1 : Int))) = true then
      if ((decide ((List.getD x.2.1 (Int.toNat x.2.2.2.1) (0 : Int)) ≥ (0 : Int))) && (decide ((List.getD x.2.1 (Int.toNat x.2.2.2.1) (0 : Int)) < (16 : Int)))) = true then
        if (decide (0 ≤ (IntKind.u64.wrap (List.getD x.2.1 (Int.toNat x.2.2.2.1) (0 : Int))))) = true then
          next ((bitsI .or .u16 x.1 (shlI .u16 (1 : Int) (IntKind.u64.wrap (List.getD x.2.1 (Int.toNat x.2.2.2.1) (0 : Int))))), x.2.1, x.2.2.1, (IntKind.i64.wrap (x.2.2.2.1 + (1 : Int))), ())
        else
          none
      else
        next (x.1, x.2.1, x.2.2.1, (IntKind.i64.wrap (x.2.2.2.1 + (1 : Int))), ())
    else
      none
  else
    cs.1 (x.1, ())
def f (n : Nat) (x : Tup [(.slice (.int .i64))]) : Option (Tup [(.int .u16)]) :=
  runL (B3 n) ((fun z1 =>
      some (z1.1, ())), ()) n ((0 : Int), x.1, (List.length x.1 : Int), (0 : Int), ())
@[reducible] def sig (n : Nat) : Sig := ⟨[(.slice (.int .i64))], [(.int .u16)], false, f n, none⟩
def T (n : Nat) : FuncId → Option Sig := fun g => none
def TL (n : Nat) : Loops := fun j _ st k => if Nat.beq j 3 = true then (match dec st l3.inS [] with | some x => runL (B3 n) (contsOf k l3.outs) n x | none => none) else none
theorem d3 (n : Nat) : LoopDef Try.prog (T n) (TL n) Try.f37 3 :=
  ⟨l3, fun R => B3 n, n, fun R st k => by kernel_rfl, fun R next cs x => by kernel_rfl⟩
theorem con (n : Nat) : Con Try.prog 37 (sig n) :=
  con_print (hsw := rfl) (T := T n) (TL := TL n) (c := Try.f37.body.getD .skip) (js := [3]) hMixed conT_none Try.func37 (by decide) (by kernel_rfl) (by kernel_rfl) (by decide) (LoopDef.cons (d3 n) LoopDef.nil) (fun x => by kernel_rfl)
end impl_setOf
namespace impl_verbSet_has
def f (n : Nat) (x : Tup [(.int .u16), (.int .i64)]) : Option (Tup [.bool]) :=
  if (!((decide (x.2.1 ≥ (0 : Int))) && (decide (x.2.1 < (16 : Int)))) || (decide (0 ≤ (IntKind.u64.wrap x.2.1)))) = true then
    some ((((decide (x.2.1 ≥ (0 : Int))) && (decide (x.2.1 < (16 : Int)))) && ((bitsI .and .u16 (shrI .u16 x.1 (IntKind.u64.wrap x.2.1)) (1 : Int)) == (1 : Int))), ())
  else
    none
@[reducible] def sig (n : Nat) : Sig := ⟨[(.int .u16), (.int .i64)], [.bool], false, f n, none⟩
def T (n : Nat) : FuncId → Option Sig := fun g => none
def TL (n : Nat) : Loops := fun j _ st k => none
theorem con (n : Nat) : Con Try.prog 38 (sig n) :=
  con_print (hsw := rfl) (T := T n) (TL := TL n) (c := Try.f38.body.getD .skip) (js := []) hMixed conT_none Try.func38 (by decide) (by kernel_rfl) (by kernel_rfl) (by decide) LoopDef.nil (fun x => by kernel_rfl)
end impl_verbSet_has
namespace impl_GateUnder
@[reducible] def l2 : LSpec := ⟨[(0, .d (.slice tGateTeam)), (1, .d .str), (2, .d .str), (7, .d (.int .i64))], [(.ret, [(6, .d .bool)]), (.exit 0, [])]⟩
def B2 (n : Nat) {R : Type} (next : Sden l2.inS → Option R) (cs : Conts R l2.outs) (x : Sden l2.inS) : Option R :=
  if (!seq x.2.1 x.2.2.1) = true then
    (impl_teamOf.f n (x.1, x.2.1, ())).bind fun y1 =>
    if (!(!((x.2.2.2.1 == (4 : Int)) || (decide (y1.1 < (0 : Int))))) || (decide (0 ≤ y1.1 ∧ y1.1 < (List.length x.1 : Int)))) = true then
      if (((x.2.2.2.1 == (4 : Int)) || (decide (y1.1 < (0 : Int)))) || (seq (List.getD x.1 (Int.toNat y1.1) (Ty.zero tGateTeam)).2.1 (⟨#[]⟩ : ByteArray))) = true then
        cs.1 (false, ())
      else if (decide (0 ≤ y1.1 ∧ y1.1 < (List.length x.1 : Int))) = true then
        next (x.1, (List.getD x.1 (Int.toNat y1.1) (Ty.zero tGateTeam)).2.1, x.2.2.1, (IntKind.i64.wrap (x.2.2.2.1 + (1 : Int))), ())
      else
        none
    else
      none
  else
    cs.2.1 ()
def f (n : Nat) (x : Tup [(.slice tGateTeam), .str, .str]) : Option (Tup [.bool]) :=
  runL (B2 n) ((fun z2 =>
      some (z2.1, ())), (fun z3 =>
      some (true, ())), ()) n (x.1, x.2.1, x.2.2.1, (0 : Int), ())
@[reducible] def sig (n : Nat) : Sig := ⟨[(.slice tGateTeam), .str, .str], [.bool], false, f n, none⟩
def T (n : Nat) : FuncId → Option Sig := fun g => if Nat.beq g 35 = true then some (impl_teamOf.sig n) else none
def TL (n : Nat) : Loops := fun j _ st k => if Nat.beq j 2 = true then (match dec st l2.inS [] with | some x => runL (B2 n) (contsOf k l2.outs) n x | none => none) else none
theorem d2 (n : Nat) : LoopDef Try.prog (T n) (TL n) Try.f39 2 :=
  ⟨l2, fun R => B2 n, n, fun R st k => by kernel_rfl, fun R next cs x => by kernel_rfl⟩
theorem con (n : Nat) : Con Try.prog 39 (sig n) :=
  con_print (hsw := rfl) (T := T n) (TL := TL n) (c := Try.f39.body.getD .skip) (js := [2]) hMixed (conT_cons (impl_teamOf.con n) conT_none) Try.func39 (by decide) (by kernel_rfl) (by kernel_rfl) (by decide) (LoopDef.cons (d2 n) LoopDef.nil) (fun x => by kernel_rfl)
end impl_GateUnder
namespace stringslite_HasPrefix
def f (n : Nat) (x : Tup [.str, .str]) : Option (Tup [.bool]) :=
  if (!(decide ((ByteArray.size x.1 : Int) ≥ (ByteArray.size x.2.1 : Int))) || (decide (0 ≤ (0 : Int) ∧ (0 : Int) ≤ (ByteArray.size x.2.1 : Int) ∧ (ByteArray.size x.2.1 : Int) ≤ (ByteArray.size x.1 : Int)))) = true then
    some (((decide ((ByteArray.size x.1 : Int) ≥ (ByteArray.size x.2.1 : Int))) && (seq (ByteArray.extract x.1 (Int.toNat (0 : Int)) (Int.toNat (ByteArray.size x.2.1 : Int))) x.2.1)), ())
  else
    none
@[reducible] def sig (n : Nat) : Sig := ⟨[.str, .str], [.bool], false, f n, none⟩
def T (n : Nat) : FuncId → Option Sig := fun g => none
def TL (n : Nat) : Loops := fun j _ st k => none
theorem con (n : Nat) : Con Try.prog 42 (sig n) :=
  con_print (hsw := rfl) (T := T n) (TL := TL n) (c := Try.f42.body.getD .skip) (js := []) hMixed conT_none Try.func42 (by decide) (by kernel_rfl) (by kernel_rfl) (by decide) LoopDef.nil (fun x => by kernel_rfl)
end stringslite_HasPrefix
namespace strings_HasPrefix
def f (n : Nat) (x : Tup [.str, .str]) : Option (Tup [.bool]) :=
  (stringslite_HasPrefix.f n (x.1, x.2.1, ())).bind fun y1 =>
  some (y1.1, ())
@[reducible] def sig (n : Nat) : Sig := ⟨[.str, .str], [.bool], false, f n, none⟩
def T (n : Nat) : FuncId → Option Sig := fun g => if Nat.beq g 42 = true then some (stringslite_HasPrefix.sig n) else none
def TL (n : Nat) : Loops := fun j _ st k => none
theorem con (n : Nat) : Con Try.prog 40 (sig n) :=
  con_print (hsw := rfl) (T := T n) (TL := TL n) (c := Try.f40.body.getD .skip) (js := []) hMixed (conT_cons (stringslite_HasPrefix.con n) conT_none) Try.func40 (by decide) (by kernel_rfl) (by kernel_rfl) (by decide) LoopDef.nil (fun x => by kernel_rfl)
end strings_HasPrefix
namespace impl_GateRule_reaches
def f (n : Nat) (x : Tup [tGateRule, (.slice tGateTeam), tGateAct]) : Option (Tup [.bool]) :=
  (if true = true then (impl_setOf.f n (x.1.1, ())) else some (tzero [(.int .u16)])).bind fun y1 =>
  (if true = true then (impl_verbSet_has.f n (y1.1, x.2.2.1.1, ())) else some (tzero [.bool])).bind fun y2 =>
  (if ((y2.1 && ((seq x.1.2.1 (⟨#[]⟩ : ByteArray)) || (seq x.1.2.1 x.2.2.1.2.1))) && (!(seq x.1.2.2.1 (⟨#[]⟩ : ByteArray)))) = true then (impl_GateUnder.f n (x.2.1, x.2.2.1.2.2.1, x.1.2.2.1, ())) else some (tzero [.bool])).bind fun y3 =>
  (if ((y2.1 && ((seq x.1.2.1 (⟨#[]⟩ : ByteArray)) || (seq x.1.2.1 x.2.2.1.2.1))) && ((seq x.1.2.2.1 (⟨#[]⟩ : ByteArray)) || y3.1)) = true then (strings_HasPrefix.f n (x.2.2.1.2.2.2.1, x.1.2.2.2.1, ())) else some (tzero [.bool])).bind fun y4 =>
  some ((((y2.1 && ((seq x.1.2.1 (⟨#[]⟩ : ByteArray)) || (seq x.1.2.1 x.2.2.1.2.1))) && ((seq x.1.2.2.1 (⟨#[]⟩ : ByteArray)) || y3.1)) && y4.1), ())
@[reducible] def sig (n : Nat) : Sig := ⟨[tGateRule, (.slice tGateTeam), tGateAct], [.bool], false, f n, none⟩
def T (n : Nat) : FuncId → Option Sig := fun g => if Nat.beq g 37 = true then some (impl_setOf.sig n) else if Nat.beq g 38 = true then some (impl_verbSet_has.sig n) else if Nat.beq g 39 = true then some (impl_GateUnder.sig n) else if Nat.beq g 40 = true then some (strings_HasPrefix.sig n) else none
def TL (n : Nat) : Loops := fun j _ st k => none
theorem con (n : Nat) : Con Try.prog 23 (sig n) :=
  con_print (hsw := rfl) (T := T n) (TL := TL n) (c := Try.f23.body.getD .skip) (js := []) hMixed (conT_cons (impl_setOf.con n) (conT_cons (impl_verbSet_has.con n) (conT_cons (impl_GateUnder.con n) (conT_cons (strings_HasPrefix.con n) conT_none)))) Try.func23 (by decide) (by kernel_rfl) (by kernel_rfl) (by decide) LoopDef.nil (fun x => by kernel_rfl)
end impl_GateRule_reaches
namespace impl_GateAllows
def f (n : Nat) (x : Tup [(.slice tGateTeam), tGateRule, tGateAct]) : Option (Tup [.bool]) :=
  (impl_GateTeamsOk.f n (x.1, ())).bind fun y1 =>
  (if (!(!y1.1)) = true then (impl_GateRule_ok.f n (x.2.1, ())) else some (tzero [.bool])).bind fun y2 =>
  if ((!y1.1) || (!y2.1)) = true then
    some (false, ())
  else
    (impl_GateRule_reaches.f n (x.2.1, x.1, x.2.2.1, ())).bind fun y3 =>
    some (y3.1, ())
@[reducible] def sig (n : Nat) : Sig := ⟨[(.slice tGateTeam), tGateRule, tGateAct], [.bool], false, f n, none⟩
def T (n : Nat) : FuncId → Option Sig := fun g => if Nat.beq g 21 = true then some (impl_GateTeamsOk.sig n) else if Nat.beq g 22 = true then some (impl_GateRule_ok.sig n) else if Nat.beq g 23 = true then some (impl_GateRule_reaches.sig n) else none
def TL (n : Nat) : Loops := fun j _ st k => none
theorem con (n : Nat) : Con Try.prog 11 (sig n) :=
  con_print (hsw := rfl) (T := T n) (TL := TL n) (c := Try.f11.body.getD .skip) (js := []) hMixed (conT_cons (impl_GateTeamsOk.con n) (conT_cons (impl_GateRule_ok.con n) (conT_cons (impl_GateRule_reaches.con n) conT_none))) Try.func11 (by decide) (by kernel_rfl) (by kernel_rfl) (by decide) LoopDef.nil (fun x => by kernel_rfl)
end impl_GateAllows
namespace laws_eqGateTeam
def f (n : Nat) (x : Tup [tGateTeam, tGateTeam]) : Option (Tup [.bool]) :=
  if (!seq x.1.1 x.2.1.1) = true then
    some (false, ())
  else if (!seq x.1.2.1 x.2.1.2.1) = true then
    some (false, ())
  else
    some (true, ())
@[reducible] def sig (n : Nat) : Sig := ⟨[tGateTeam, tGateTeam], [.bool], false, f n, none⟩
def T (n : Nat) : FuncId → Option Sig := fun g => none
def TL (n : Nat) : Loops := fun j _ st k => none
theorem con (n : Nat) : Con Try.prog 24 (sig n) :=
  con_print (hsw := rfl) (T := T n) (TL := TL n) (c := Try.f24.body.getD .skip) (js := []) hMixed conT_none Try.func24 (by decide) (by kernel_rfl) (by kernel_rfl) (by decide) LoopDef.nil (fun x => by kernel_rfl)
end laws_eqGateTeam
namespace laws_eqGateTeamS
@[reducible] def l4 : LSpec := ⟨[(0, .d (.slice tGateTeam)), (1, .d (.slice tGateTeam)), (5, .d (.int .i64))], [(.ret, [(4, .d .bool)]), (.exit 0, [])]⟩
def B4 (n : Nat) {R : Type} (next : Sden l4.inS → Option R) (cs : Conts R l4.outs) (x : Sden l4.inS) : Option R :=
  if (decide (x.2.2.1 < (List.length x.1 : Int))) = true then
    if (!true || (decide (0 ≤ x.2.2.1 ∧ x.2.2.1 < (List.length x.1 : Int)))) = true then
      if (!true || (decide (0 ≤ x.2.2.1 ∧ x.2.2.1 < (List.length x.2.1 : Int)))) = true then
        (laws_eqGateTeam.f n ((List.getD x.1 (Int.toNat x.2.2.1) (Ty.zero tGateTeam)), (List.getD x.2.1 (Int.toNat x.2.2.1) (Ty.zero tGateTeam)), ())).bind fun y1 =>
        if (!y1.1) = true then
          cs.1 (false, ())
        else
          next (x.1, x.2.1, (IntKind.i64.wrap (x.2.2.1 + (1 : Int))), ())
      else
        none
    else
      none
  else
    cs.2.1 ()
def f (n : Nat) (x : Tup [(.slice tGateTeam), (.slice tGateTeam)]) : Option (Tup [.bool]) :=
  if ((List.length x.1 : Int) != (List.length x.2.1 : Int)) = true then
    some (false, ())
  else
    runL (B4 n) ((fun z2 =>
        some (z2.1, ())), (fun z3 =>
        some (true, ())), ()) n (x.1, x.2.1, (0 : Int), ())
@[reducible] def sig (n : Nat) : Sig := ⟨[(.slice tGateTeam), (.slice tGateTeam)], [.bool], false, f n, none⟩
def T (n : Nat) : FuncId → Option Sig := fun g => if Nat.beq g 24 = true then some (laws_eqGateTeam.sig n) else none
def TL (n : Nat) : Loops := fun j _ st k => if Nat.beq j 4 = true then (match dec st l4.inS [] with | some x => runL (B4 n) (contsOf k l4.outs) n x | none => none) else none
theorem d4 (n : Nat) : LoopDef Try.prog (T n) (TL n) Try.f12 4 :=
  ⟨l4, fun R => B4 n, n, fun R st k => by kernel_rfl, fun R next cs x => by kernel_rfl⟩
theorem con (n : Nat) : Con Try.prog 12 (sig n) :=
  con_print (hsw := rfl) (T := T n) (TL := TL n) (c := Try.f12.body.getD .skip) (js := [4]) hMixed (conT_cons (laws_eqGateTeam.con n) conT_none) Try.func12 (by decide) (by kernel_rfl) (by kernel_rfl) (by decide) (LoopDef.cons (d4 n) LoopDef.nil) (fun x => by kernel_rfl)
end laws_eqGateTeamS
namespace laws_eqIntS
@[reducible] def l4 : LSpec := ⟨[(0, .d (.slice (.int .i64))), (1, .d (.slice (.int .i64))), (5, .d (.int .i64))], [(.ret, [(4, .d .bool)]), (.exit 0, [])]⟩
def B4 (n : Nat) {R : Type} (next : Sden l4.inS → Option R) (cs : Conts R l4.outs) (x : Sden l4.inS) : Option R :=
  if (decide (x.2.2.1 < (List.length x.1 : Int))) = true then
    if (!true || (decide (0 ≤ x.2.2.1 ∧ x.2.2.1 < (List.length x.1 : Int)))) = true then
      if (!true || (decide (0 ≤ x.2.2.1 ∧ x.2.2.1 < (List.length x.2.1 : Int)))) = true then
        if ((List.getD x.1 (Int.toNat x.2.2.1) (0 : Int)) != (List.getD x.2.1 (Int.toNat x.2.2.1) (0 : Int))) = true then
          cs.1 (false, ())
        else
          next (x.1, x.2.1, (IntKind.i64.wrap (x.2.2.1 + (1 : Int))), ())
      else
        none
    else
      none
  else
    cs.2.1 ()
def f (n : Nat) (x : Tup [(.slice (.int .i64)), (.slice (.int .i64))]) : Option (Tup [.bool]) :=
  if ((List.length x.1 : Int) != (List.length x.2.1 : Int)) = true then
    some (false, ())
  else
    runL (B4 n) ((fun z1 =>
        some (z1.1, ())), (fun z2 =>
        some (true, ())), ()) n (x.1, x.2.1, (0 : Int), ())
@[reducible] def sig (n : Nat) : Sig := ⟨[(.slice (.int .i64)), (.slice (.int .i64))], [.bool], false, f n, none⟩
def T (n : Nat) : FuncId → Option Sig := fun g => none
def TL (n : Nat) : Loops := fun j _ st k => if Nat.beq j 4 = true then (match dec st l4.inS [] with | some x => runL (B4 n) (contsOf k l4.outs) n x | none => none) else none
theorem d4 (n : Nat) : LoopDef Try.prog (T n) (TL n) Try.f25 4 :=
  ⟨l4, fun R => B4 n, n, fun R st k => by kernel_rfl, fun R next cs x => by kernel_rfl⟩
theorem con (n : Nat) : Con Try.prog 25 (sig n) :=
  con_print (hsw := rfl) (T := T n) (TL := TL n) (c := Try.f25.body.getD .skip) (js := [4]) hMixed conT_none Try.func25 (by decide) (by kernel_rfl) (by kernel_rfl) (by decide) (LoopDef.cons (d4 n) LoopDef.nil) (fun x => by kernel_rfl)
end laws_eqIntS
namespace laws_eqGateRule
def f (n : Nat) (x : Tup [tGateRule, tGateRule]) : Option (Tup [.bool]) :=
  (laws_eqIntS.f n (x.1.1, x.2.1.1, ())).bind fun y1 =>
  if (!y1.1) = true then
    some (false, ())
  else if (!seq x.1.2.1 x.2.1.2.1) = true then
    some (false, ())
  else if (!seq x.1.2.2.1 x.2.1.2.2.1) = true then
    some (false, ())
  else if (!seq x.1.2.2.2.1 x.2.1.2.2.2.1) = true then
    some (false, ())
  else
    some (true, ())
@[reducible] def sig (n : Nat) : Sig := ⟨[tGateRule, tGateRule], [.bool], false, f n, none⟩
def T (n : Nat) : FuncId → Option Sig := fun g => if Nat.beq g 25 = true then some (laws_eqIntS.sig n) else none
def TL (n : Nat) : Loops := fun j _ st k => none
theorem con (n : Nat) : Con Try.prog 13 (sig n) :=
  con_print (hsw := rfl) (T := T n) (TL := TL n) (c := Try.f13.body.getD .skip) (js := []) hMixed (conT_cons (laws_eqIntS.con n) conT_none) Try.func13 (by decide) (by kernel_rfl) (by kernel_rfl) (by decide) LoopDef.nil (fun x => by kernel_rfl)
end laws_eqGateRule
namespace laws_FnExactGateAllows
def f (n : Nat) (x : Tup [(.slice tGateTeam), tGateRule, tGateAct]) : Option (Tup [.bool]) :=
  (laws_szGateTeamS.f n (x.1, (1048576 : Int), ())).bind fun y1 =>
  if (decide (y1.1 < (0 : Int))) = true then
    some (true, ())
  else
    (laws_szGateRule.f n (x.2.1, y1.1, ())).bind fun y2 =>
    if (decide (y2.1 < (0 : Int))) = true then
      some (true, ())
    else
      (laws_szGateAct.f n (x.2.2.1, y2.1, ())).bind fun y3 =>
      if (decide (y3.1 < (0 : Int))) = true then
        some (true, ())
      else
        (laws_toGateTeamS.f n (x.1, ())).bind fun y4 =>
        (laws_toGateRule.f n (x.2.1, ())).bind fun y5 =>
        (laws_toGateAct.f n (x.2.2.1, ())).bind fun y6 =>
        (spec_GateAllows.f n (y4.1, y5.1, y6.1, ())).bind fun y7 =>
        (laws_toGateTeamS.f n (x.1, ())).bind fun y8 =>
        (laws_toGateRule.f n (x.2.1, ())).bind fun y9 =>
        (if true = true then (laws_toGateAct.f n (x.2.2.1, ())) else some (tzero [tGateAct])).bind fun y10 =>
        (impl_GateAllows.f n (y8.1, y9.1, y10.1, ())).bind fun y11 =>
        if (!(y11.1 == y7.1)) = true then
          some (false, ())
        else
          (laws_toGateTeamS.f n (x.1, ())).bind fun y12 =>
          (laws_eqGateTeamS.f n (y8.1, y12.1, ())).bind fun y13 =>
          if (!y13.1) = true then
            some (false, ())
          else
            (laws_toGateRule.f n (x.2.1, ())).bind fun y14 =>
            (laws_eqGateRule.f n (y9.1, y14.1, ())).bind fun y15 =>
            if (!y15.1) = true then
              some (false, ())
            else
              some (true, ())
@[reducible] def sig (n : Nat) : Sig := ⟨[(.slice tGateTeam), tGateRule, tGateAct], [.bool], false, f n, none⟩
def T (n : Nat) : FuncId → Option Sig := fun g => if Nat.beq g 4 = true then some (laws_szGateTeamS.sig n) else if Nat.beq g 5 = true then some (laws_szGateRule.sig n) else if Nat.beq g 6 = true then some (laws_szGateAct.sig n) else if Nat.beq g 7 = true then some (spec_GateAllows.sig n) else if Nat.beq g 8 = true then some (laws_toGateTeamS.sig n) else if Nat.beq g 9 = true then some (laws_toGateRule.sig n) else if Nat.beq g 10 = true then some (laws_toGateAct.sig n) else if Nat.beq g 11 = true then some (impl_GateAllows.sig n) else if Nat.beq g 12 = true then some (laws_eqGateTeamS.sig n) else if Nat.beq g 13 = true then some (laws_eqGateRule.sig n) else none
def TL (n : Nat) : Loops := fun j _ st k => none
theorem con (n : Nat) : Con Try.prog 3 (sig n) :=
  con_print (hsw := rfl) (T := T n) (TL := TL n) (c := Try.f3.body.getD .skip) (js := []) hMixed (conT_cons (laws_szGateTeamS.con n) (conT_cons (laws_szGateRule.con n) (conT_cons (laws_szGateAct.con n) (conT_cons (spec_GateAllows.con n) (conT_cons (laws_toGateTeamS.con n) (conT_cons (laws_toGateRule.con n) (conT_cons (laws_toGateAct.con n) (conT_cons (impl_GateAllows.con n) (conT_cons (laws_eqGateTeamS.con n) (conT_cons (laws_eqGateRule.con n) conT_none)))))))))) Try.func3 (by decide) (by kernel_rfl) (by kernel_rfl) (by decide) LoopDef.nil (fun x => by kernel_rfl)
end laws_FnExactGateAllows
end Go.Proofs.Ytakbelofppdkhaa
