import Derived.Test.YtahigbajnpdpcaaProg
import Derived.Test.YtahigbajnpdpcaaM4
set_option maxRecDepth 100000
set_option linter.unusedVariables false
namespace Go.Proofs.Ytahigbajnpdpcaa
open Go.Vm
abbrev tGateField : Ty := (.pair .str (.pair (.int .i64) (.pair (.int .i64) (.pair (.int .i64) (.pair (.slice .str) (.pair .str (.pair (.int .i64) (.pair .bool (.pair .bool (.pair .str (.pair .str .unit)))))))))))
abbrev tnumberField : Ty := (.pair tGateField .unit)
abbrev twordField : Ty := tnumberField
abbrev ttextField : Ty := tnumberField
abbrev tlinkField : Ty := tnumberField
theorem hMixed : Try.prog.follows .mixedOrders = true := by kernel_rfl
namespace laws_szStringS
@[reducible] def l5 : LSpec := ⟨[(0, .d (.slice .str)), (1, .d (.int .i64)), (5, .d (.int .i64))], [(.ret, [(4, .d (.int .i64))]), (.exit 0, [(1, .d (.int .i64))])]⟩
def B5 (n : Nat) {R : Type} (next : Sden l5.inS → Option R) (cs : Conts R l5.outs) (x : Sden l5.inS) : Option R :=
  if (decide (x.2.2.1 < (List.length x.1 : Int))) = true then
    if (decide (0 ≤ x.2.2.1 ∧ x.2.2.1 < (List.length x.1 : Int))) = true then
      if (decide ((IntKind.i64.wrap (x.2.1 - (ByteArray.size (List.getD x.1 (Int.toNat x.2.2.1) (⟨#[]⟩ : ByteArray)) : Int))) < (0 : Int))) = true then
        cs.1 ((-1 : Int), ())
      else
        next (x.1, (IntKind.i64.wrap (x.2.1 - (ByteArray.size (List.getD x.1 (Int.toNat x.2.2.1) (⟨#[]⟩ : ByteArray)) : Int))), (IntKind.i64.wrap (x.2.2.1 + (1 : Int))), ())
    else
      none
  else
    cs.2.1 (x.2.1, ())
def f (n : Nat) (x : Tup [(.slice .str), (.int .i64)]) : Option (Tup [(.int .i64)]) :=
  if (decide ((IntKind.i64.wrap (x.2.1 - (List.length x.1 : Int))) < (0 : Int))) = true then
    some ((-1 : Int), ())
  else
    runL (B5 n) ((fun z1 =>
        some (z1.1, ())), (fun z2 =>
        some (z2.1, ())), ()) n (x.1, (IntKind.i64.wrap (x.2.1 - (List.length x.1 : Int))), (0 : Int), ())
@[reducible] def sig (n : Nat) : Sig := ⟨[(.slice .str), (.int .i64)], [(.int .i64)], false, f n, none⟩
def T (n : Nat) : FuncId → Option Sig := fun g => none
def TL (n : Nat) : Loops := fun j _ st k => if Nat.beq j 5 = true then (match dec st l5.inS [] with | some x => runL (B5 n) (contsOf k l5.outs) n x | none => none) else none
theorem d5 (n : Nat) : LoopDef Try.prog (T n) (TL n) Try.f9 5 :=
  ⟨l5, fun R => B5 n, n, fun R st k => by kernel_rfl, fun R next cs x => by kernel_rfl⟩
theorem con (n : Nat) : Con Try.prog 9 (sig n) :=
  con_print (hsw := rfl) (T := T n) (TL := TL n) (c := Try.f9.body.getD .skip) (js := [5]) hMixed conT_none Try.func9 (by decide) (by kernel_rfl) (by kernel_rfl) (by decide) (LoopDef.cons (d5 n) LoopDef.nil) (fun x => by kernel_rfl)
end laws_szStringS
namespace laws_szGateField
def f (n : Nat) (x : Tup [tGateField, (.int .i64)]) : Option (Tup [(.int .i64)]) :=
  if (decide ((IntKind.i64.wrap (x.2.1 - (ByteArray.size x.1.1 : Int))) < (0 : Int))) = true then
    some ((-1 : Int), ())
  else
    (laws_szStringS.f n (x.1.2.2.2.2.1, (IntKind.i64.wrap (x.2.1 - (ByteArray.size x.1.1 : Int))), ())).bind fun y1 =>
    if (decide (y1.1 < (0 : Int))) = true then
      some ((-1 : Int), ())
    else if (decide ((IntKind.i64.wrap (y1.1 - (ByteArray.size x.1.2.2.2.2.2.1 : Int))) < (0 : Int))) = true then
      some ((-1 : Int), ())
    else if (decide ((IntKind.i64.wrap ((IntKind.i64.wrap (y1.1 - (ByteArray.size x.1.2.2.2.2.2.1 : Int))) - (ByteArray.size x.1.2.2.2.2.2.2.2.2.2.1 : Int))) < (0 : Int))) = true then
      some ((-1 : Int), ())
    else if (decide ((IntKind.i64.wrap ((IntKind.i64.wrap ((IntKind.i64.wrap (y1.1 - (ByteArray.size x.1.2.2.2.2.2.1 : Int))) - (ByteArray.size x.1.2.2.2.2.2.2.2.2.2.1 : Int))) - (ByteArray.size x.1.2.2.2.2.2.2.2.2.2.2.1 : Int))) < (0 : Int))) = true then
      some ((-1 : Int), ())
    else
      some ((IntKind.i64.wrap ((IntKind.i64.wrap ((IntKind.i64.wrap (y1.1 - (ByteArray.size x.1.2.2.2.2.2.1 : Int))) - (ByteArray.size x.1.2.2.2.2.2.2.2.2.2.1 : Int))) - (ByteArray.size x.1.2.2.2.2.2.2.2.2.2.2.1 : Int))), ())
@[reducible] def sig (n : Nat) : Sig := ⟨[tGateField, (.int .i64)], [(.int .i64)], false, f n, none⟩
def T (n : Nat) : FuncId → Option Sig := fun g => if Nat.beq g 9 = true then some (laws_szStringS.sig n) else none
def TL (n : Nat) : Loops := fun j _ st k => none
theorem con (n : Nat) : Con Try.prog 4 (sig n) :=
  con_print (hsw := rfl) (T := T n) (TL := TL n) (c := Try.f4.body.getD .skip) (js := []) hMixed (conT_cons (laws_szStringS.con n) conT_none) Try.func4 (by decide) (by kernel_rfl) (by kernel_rfl) (by decide) LoopDef.nil (fun x => by kernel_rfl)
end laws_szGateField
namespace laws_toStringS
@[reducible] def l3 : LSpec := ⟨[(0, .d (.slice .str)), (3, .row true .str), (4, .d (.int .i64))], [(.exit 0, [(3, .row true .str)])]⟩
def B3 (n : Nat) {R : Type} (next : Sden l3.inS → Option R) (cs : Conts R l3.outs) (x : Sden l3.inS) : Option R :=
  if (decide (x.2.2.1 < (List.length x.1 : Int))) = true then
    if (decide (0 ≤ x.2.2.1 ∧ x.2.2.1 < (List.length x.1 : Int))) = true then
      if (decide (0 ≤ x.2.2.1 ∧ x.2.2.1 < (List.length x.2.1 : Int))) = true then
        next (x.1, (List.set x.2.1 (Int.toNat x.2.2.1) (List.getD x.1 (Int.toNat x.2.2.1) (⟨#[]⟩ : ByteArray))), (IntKind.i64.wrap (x.2.2.1 + (1 : Int))), ())
      else
        none
    else
      none
  else
    cs.1 (x.2.1, ())
def f (n : Nat) (x : Tup [(.slice .str)]) : Option (Tup [(.slice .str)]) :=
  if (decide (0 ≤ (List.length x.1 : Int) ∧ (List.length x.1 : Int) ≤ (List.length x.1 : Int) ∧ (List.length x.1 : Int) * (16 : Int) ≤ 140737488355328)) = true then
    runL (B3 n) ((fun z1 =>
        some (z1.1, ())), ()) n (x.1, (List.replicate (Int.toNat (List.length x.1 : Int)) (⟨#[]⟩ : ByteArray)), (0 : Int), ())
  else
    none
@[reducible] def sig (n : Nat) : Sig := ⟨[(.slice .str)], [(.slice .str)], true, f n, none⟩
def T (n : Nat) : FuncId → Option Sig := fun g => none
def TL (n : Nat) : Loops := fun j _ st k => if Nat.beq j 3 = true then (match dec st l3.inS [] with | some x => runL (B3 n) (contsOf k l3.outs) n x | none => none) else none
theorem d3 (n : Nat) : LoopDef Try.prog (T n) (TL n) Try.f14 3 :=
  ⟨l3, fun R => B3 n, n, fun R st k => by kernel_rfl, fun R next cs x => by kernel_rfl⟩
theorem con (n : Nat) : Con Try.prog 14 (sig n) :=
  con_print (hsw := rfl) (T := T n) (TL := TL n) (c := Try.f14.body.getD .skip) (js := [3]) hMixed conT_none Try.func14 (by decide) (by kernel_rfl) (by kernel_rfl) (by decide) (LoopDef.cons (d3 n) LoopDef.nil) (fun x => by kernel_rfl)
end laws_toStringS
namespace laws_toGateField
def f (n : Nat) (x : Tup [tGateField]) : Option (Tup [tGateField]) :=
  (laws_toStringS.f n (x.1.2.2.2.2.1, ())).bind fun y1 =>
  some ((x.1.1, x.1.2.1, x.1.2.2.1, x.1.2.2.2.1, y1.1, x.1.2.2.2.2.2), ())
@[reducible] def sig (n : Nat) : Sig := ⟨[tGateField], [tGateField], true, f n, none⟩
def T (n : Nat) : FuncId → Option Sig := fun g => if Nat.beq g 14 = true then some (laws_toStringS.sig n) else none
def TL (n : Nat) : Loops := fun j _ st k => none
theorem con (n : Nat) : Con Try.prog 6 (sig n) :=
  con_print (hsw := rfl) (T := T n) (TL := TL n) (c := Try.f6.body.getD .skip) (js := []) hMixed (conT_cons (laws_toStringS.con n) conT_none) Try.func6 (by decide) (by kernel_rfl) (by kernel_rfl) (by decide) LoopDef.nil (fun x => by kernel_rfl)
end laws_toGateField
namespace spec_l1In
def f (n : Nat) (x : Tup [(.int .i64), (.int .i64), (.int .i64)]) : Option (Tup [.bool]) :=
  some (((decide (x.1 ≥ x.2.1)) && (decide (x.1 ≤ x.2.2.1))), ())
@[reducible] def sig (n : Nat) : Sig := ⟨[(.int .i64), (.int .i64), (.int .i64)], [.bool], false, f n, none⟩
def T (n : Nat) : FuncId → Option Sig := fun g => none
def TL (n : Nat) : Loops := fun j _ st k => none
theorem con (n : Nat) : Con Try.prog 11 (sig n) :=
  con_print (hsw := rfl) (T := T n) (TL := TL n) (c := Try.f11.body.getD .skip) (js := []) hMixed conT_none Try.func11 (by decide) (by kernel_rfl) (by kernel_rfl) (by decide) LoopDef.nil (fun x => by kernel_rfl)
end spec_l1In
namespace spec_l1Number
@[reducible] def l5 : LSpec := ⟨[(0, .d .str), (3, .d (.int .i64)), (4, .d (.int .i64))], [(.ret, [(2, .d (.int .i64))]), (.exit 0, [(3, .d (.int .i64))])]⟩
def B5 (n : Nat) {R : Type} (next : Sden l5.inS → Option R) (cs : Conts R l5.outs) (x : Sden l5.inS) : Option R :=
  if (decide (x.2.2.1 < (ByteArray.size x.1 : Int))) = true then
    if (decide (0 ≤ x.2.2.1 ∧ x.2.2.1 < (ByteArray.size x.1 : Int))) = true then
      if (!(!(decide ((byteAt x.1 x.2.2.1) < (48 : Int)))) || (decide (0 ≤ x.2.2.1 ∧ x.2.2.1 < (ByteArray.size x.1 : Int)))) = true then
        if ((decide ((byteAt x.1 x.2.2.1) < (48 : Int))) || (decide ((byteAt x.1 x.2.2.1) > (57 : Int)))) = true then
          cs.1 ((-1 : Int), ())
        else if (decide (0 ≤ x.2.2.1 ∧ x.2.2.1 < (ByteArray.size x.1 : Int))) = true then
          next (x.1, (IntKind.i64.wrap ((IntKind.i64.wrap ((IntKind.i64.wrap (x.2.1 * (10 : Int))) + (IntKind.i64.wrap (byteAt x.1 x.2.2.1)))) - (48 : Int))), (IntKind.i64.wrap (x.2.2.1 + (1 : Int))), ())
        else
          none
      else
        none
    else
      none
  else
    cs.2.1 (x.2.1, ())
def f (n : Nat) (x : Tup [.str]) : Option (Tup [(.int .i64)]) :=
  (spec_l1In.f n ((ByteArray.size x.1 : Int), (1 : Int), (7 : Int), ())).bind fun y1 =>
  if (!((!(!y1.1)) && (decide ((ByteArray.size x.1 : Int) > (1 : Int)))) || (decide (0 ≤ (0 : Int) ∧ (0 : Int) < (ByteArray.size x.1 : Int)))) = true then
    if ((!y1.1) || ((decide ((ByteArray.size x.1 : Int) > (1 : Int))) && ((byteAt x.1 (0 : Int)) == (48 : Int)))) = true then
      some ((-1 : Int), ())
    else
      runL (B5 n) ((fun z2 =>
          some (z2.1, ())), (fun z3 =>
          some (z3.1, ())), ()) n (x.1, (0 : Int), (0 : Int), ())
  else
    none
@[reducible] def sig (n : Nat) : Sig := ⟨[.str], [(.int .i64)], false, f n, none⟩
def T (n : Nat) : FuncId → Option Sig := fun g => if Nat.beq g 11 = true then some (spec_l1In.sig n) else none
def TL (n : Nat) : Loops := fun j _ st k => if Nat.beq j 5 = true then (match dec st l5.inS [] with | some x => runL (B5 n) (contsOf k l5.outs) n x | none => none) else none
theorem d5 (n : Nat) : LoopDef Try.prog (T n) (TL n) Try.f10 5 :=
  ⟨l5, fun R => B5 n, n, fun R st k => by kernel_rfl, fun R next cs x => by kernel_rfl⟩
theorem con (n : Nat) : Con Try.prog 10 (sig n) :=
  con_print (hsw := rfl) (T := T n) (TL := TL n) (c := Try.f10.body.getD .skip) (js := [5]) hMixed (conT_cons (spec_l1In.con n) conT_none) Try.func10 (by decide) (by kernel_rfl) (by kernel_rfl) (by decide) (LoopDef.cons (d5 n) LoopDef.nil) (fun x => by kernel_rfl)
end spec_l1Number
namespace spec_l1Has
@[reducible] def l2 : LSpec := ⟨[(0, .d (.slice .str)), (1, .d .str), (5, .d (.int .i64))], [(.ret, [(4, .d .bool)]), (.exit 0, [])]⟩
def B2 (n : Nat) {R : Type} (next : Sden l2.inS → Option R) (cs : Conts R l2.outs) (x : Sden l2.inS) : Option R :=
  if (decide (x.2.2.1 < (List.length x.1 : Int))) = true then
    if (decide (0 ≤ x.2.2.1 ∧ x.2.2.1 < (List.length x.1 : Int))) = true then
      if (seq (List.getD x.1 (Int.toNat x.2.2.1) (⟨#[]⟩ : ByteArray)) x.2.1) = true then
        cs.1 (true, ())
      else
        next (x.1, x.2.1, (IntKind.i64.wrap (x.2.2.1 + (1 : Int))), ())
    else
      none
  else
    cs.2.1 ()
def f (n : Nat) (x : Tup [(.slice .str), .str]) : Option (Tup [.bool]) :=
  runL (B2 n) ((fun z1 =>
      some (z1.1, ())), (fun z2 =>
      some (false, ())), ()) n (x.1, x.2.1, (0 : Int), ())
@[reducible] def sig (n : Nat) : Sig := ⟨[(.slice .str), .str], [.bool], false, f n, none⟩
def T (n : Nat) : FuncId → Option Sig := fun g => none
def TL (n : Nat) : Loops := fun j _ st k => if Nat.beq j 2 = true then (match dec st l2.inS [] with | some x => runL (B2 n) (contsOf k l2.outs) n x | none => none) else none
theorem d2 (n : Nat) : LoopDef Try.prog (T n) (TL n) Try.f12 2 :=
  ⟨l2, fun R => B2 n, n, fun R st k => by kernel_rfl, fun R next cs x => by kernel_rfl⟩
theorem con (n : Nat) : Con Try.prog 12 (sig n) :=
  con_print (hsw := rfl) (T := T n) (TL := TL n) (c := Try.f12.body.getD .skip) (js := [2]) hMixed conT_none Try.func12 (by decide) (by kernel_rfl) (by kernel_rfl) (by decide) (LoopDef.cons (d2 n) LoopDef.nil) (fun x => by kernel_rfl)
end spec_l1Has
namespace spec_l1Byte
def f (n : Nat) (x : Tup [(.int .u8)]) : Option (Tup [.bool]) :=
  some (((((decide (x.1 ≥ (97 : Int))) && (decide (x.1 ≤ (122 : Int)))) || ((decide (x.1 ≥ (48 : Int))) && (decide (x.1 ≤ (57 : Int))))) || (x.1 == (45 : Int))), ())
@[reducible] def sig (n : Nat) : Sig := ⟨[(.int .u8)], [.bool], false, f n, none⟩
def T (n : Nat) : FuncId → Option Sig := fun g => none
def TL (n : Nat) : Loops := fun j _ st k => none
theorem con (n : Nat) : Con Try.prog 17 (sig n) :=
  con_print (hsw := rfl) (T := T n) (TL := TL n) (c := Try.f17.body.getD .skip) (js := []) hMixed conT_none Try.func17 (by decide) (by kernel_rfl) (by kernel_rfl) (by decide) LoopDef.nil (fun x => by kernel_rfl)
end spec_l1Byte
namespace spec_l1NameOk
@[reducible] def l4 : LSpec := ⟨[(0, .d .str), (3, .d (.int .i64))], [(.ret, [(2, .d .bool)]), (.exit 0, [])]⟩
def B4 (n : Nat) {R : Type} (next : Sden l4.inS → Option R) (cs : Conts R l4.outs) (x : Sden l4.inS) : Option R :=
  if (decide (x.2.1 < (ByteArray.size x.1 : Int))) = true then
    if (decide (0 ≤ x.2.1 ∧ x.2.1 < (ByteArray.size x.1 : Int))) = true then
      (spec_l1Byte.f n ((byteAt x.1 x.2.1), ())).bind fun y2 =>
      if (!y2.1) = true then
        cs.1 (false, ())
      else
        next (x.1, (IntKind.i64.wrap (x.2.1 + (1 : Int))), ())
    else
      none
  else
    cs.2.1 ()
def f (n : Nat) (x : Tup [.str]) : Option (Tup [.bool]) :=
  (spec_l1In.f n ((ByteArray.size x.1 : Int), (1 : Int), (16 : Int), ())).bind fun y1 =>
  if (!y1.1) = true then
    some (false, ())
  else
    runL (B4 n) ((fun z3 =>
        some (z3.1, ())), (fun z4 =>
        some (true, ())), ()) n (x.1, (0 : Int), ())
@[reducible] def sig (n : Nat) : Sig := ⟨[.str], [.bool], false, f n, none⟩
def T (n : Nat) : FuncId → Option Sig := fun g => if Nat.beq g 11 = true then some (spec_l1In.sig n) else if Nat.beq g 17 = true then some (spec_l1Byte.sig n) else none
def TL (n : Nat) : Loops := fun j _ st k => if Nat.beq j 4 = true then (match dec st l4.inS [] with | some x => runL (B4 n) (contsOf k l4.outs) n x | none => none) else none
theorem d4 (n : Nat) : LoopDef Try.prog (T n) (TL n) Try.f13 4 :=
  ⟨l4, fun R => B4 n, n, fun R st k => by kernel_rfl, fun R next cs x => by kernel_rfl⟩
theorem con (n : Nat) : Con Try.prog 13 (sig n) :=
  con_print (hsw := rfl) (T := T n) (TL := TL n) (c := Try.f13.body.getD .skip) (js := [4]) hMixed (conT_cons (spec_l1In.con n) (conT_cons (spec_l1Byte.con n) conT_none)) Try.func13 (by decide) (by kernel_rfl) (by kernel_rfl) (by decide) (LoopDef.cons (d4 n) LoopDef.nil) (fun x => by kernel_rfl)
end spec_l1NameOk
namespace spec_GateFits
@[reducible] def l9 : LSpec := ⟨[(1, .d .str), (2, .rb tGateField), (6, .d (.int .i64))], [(.ret, [(4, .d .bool)]), (.exit 1, [(1, .d .str), (2, .rb tGateField)])]⟩
def B9 (n : Nat) {R : Type} (next : Sden l9.inS → Option R) (cs : Conts R l9.outs) (x : Sden l9.inS) : Option R :=
  if (decide (x.2.2.1 < (ByteArray.size x.1 : Int))) = true then
    if (decide (0 ≤ x.2.2.1 ∧ x.2.2.1 < (ByteArray.size x.1 : Int))) = true then
      (spec_l1In.f n ((IntKind.i64.wrap (byteAt x.1 x.2.2.1)), (33 : Int), (126 : Int), ())).bind fun y4 =>
      if (!y4.1) = true then
        cs.1 (false, ())
      else
        next (x.1, x.2.1, (IntKind.i64.wrap (x.2.2.1 + (1 : Int))), ())
    else
      none
  else
    cs.2.1 (x.1, x.2.1, ())
def f (n : Nat) (x : Tup [tGateField, .str]) : Option (Tup [.bool]) :=
  if (x.1.2.1 == (1 : Int)) = true then
    (spec_l1Number.f n (x.2.1, ())).bind fun y1 =>
    (if (decide (y1.1 ≥ (0 : Int))) = true then (spec_l1In.f n (y1.1, x.1.2.2.1, x.1.2.2.2.1, ())) else some (tzero [.bool])).bind fun y2 =>
    some (((decide (y1.1 ≥ (0 : Int))) && y2.1), ())
  else if (x.1.2.1 == (2 : Int)) = true then
    (if (!seq x.2.1 (⟨#[]⟩ : ByteArray)) = true then (spec_l1Has.f n (x.1.2.2.2.2.1, x.2.1, ())) else some (tzero [.bool])).bind fun y3 =>
    some (((!seq x.2.1 (⟨#[]⟩ : ByteArray)) && y3.1), ())
  else if (x.1.2.1 == (3 : Int)) = true then
    runL (B9 n) ((fun z5 =>
        some (z5.1, ())), (fun z6 =>
        (if (!seq z6.1 (⟨#[]⟩ : ByteArray)) = true then (spec_l1In.f n ((ByteArray.size z6.1 : Int), z6.2.1.2.2.1, z6.2.1.2.2.2.1, ())) else some (tzero [.bool])).bind fun y7 =>
        some (((!seq z6.1 (⟨#[]⟩ : ByteArray)) && y7.1), ())), ()) n (x.2.1, x.1, (0 : Int), ())
  else if (x.1.2.1 == (4 : Int)) = true then
    (spec_l1NameOk.f n (x.2.1, ())).bind fun y8 =>
    some (y8.1, ())
  else
    some (false, ())
@[reducible] def sig (n : Nat) : Sig := ⟨[tGateField, .str], [.bool], false, f n, none⟩
def T (n : Nat) : FuncId → Option Sig := fun g => if Nat.beq g 10 = true then some (spec_l1Number.sig n) else if Nat.beq g 11 = true then some (spec_l1In.sig n) else if Nat.beq g 12 = true then some (spec_l1Has.sig n) else if Nat.beq g 13 = true then some (spec_l1NameOk.sig n) else none
def TL (n : Nat) : Loops := fun j _ st k => if Nat.beq j 9 = true then (match dec st l9.inS [] with | some x => runL (B9 n) (contsOf k l9.outs) n x | none => none) else none
theorem d9 (n : Nat) : LoopDef Try.prog (T n) (TL n) Try.f5 9 :=
  ⟨l9, fun R => B9 n, n, fun R st k => by kernel_rfl, fun R next cs x => by kernel_rfl⟩
theorem con (n : Nat) : Con Try.prog 5 (sig n) :=
  con_print (hsw := rfl) (T := T n) (TL := TL n) (c := Try.f5.body.getD .skip) (js := [9]) hMixed (conT_cons (spec_l1Number.con n) (conT_cons (spec_l1In.con n) (conT_cons (spec_l1Has.con n) (conT_cons (spec_l1NameOk.con n) conT_none)))) Try.func5 (by decide) (by kernel_rfl) (by kernel_rfl) (by decide) (LoopDef.cons (d9 n) LoopDef.nil) (fun x => by kernel_rfl)
end spec_GateFits
namespace impl_sortOf
def f (n : Nat) (x : Ty.den tGateField) (q : Tup []) : Option (Ty.den tGateField × Tup [(.int .i64), .bool]) := some (x, (place4 x.2.1, decide (0 ≤ place4 x.2.1), ()))
@[reducible] def sig (n : Nat) : Sig := ⟨[], [], false, fun _ => none, some ⟨.unit, [], [], fun _ _ => none, some ⟨false, none, some [44, 46, 47, 48], tGateField, [], tGateField, [(.int .i64), .bool], f n⟩⟩⟩
theorem mk0 : MakerOk Try.prog 27 44 38 11 18 :=
  maker_of (by kernel_rfl) Try.func18 (by kernel_rfl) (by kernel_rfl) (by kernel_rfl) (by decide)
theorem mk1 : MakerOk Try.prog 27 46 38 11 19 :=
  maker_of (by kernel_rfl) Try.func19 (by kernel_rfl) (by kernel_rfl) (by kernel_rfl) (by decide)
theorem mk2 : MakerOk Try.prog 27 47 38 11 20 :=
  maker_of (by kernel_rfl) Try.func20 (by kernel_rfl) (by kernel_rfl) (by kernel_rfl) (by decide)
theorem mk3 : MakerOk Try.prog 27 48 38 11 21 :=
  maker_of (by kernel_rfl) Try.func21 (by kernel_rfl) (by kernel_rfl) (by kernel_rfl) (by decide)
theorem con (n : Nat) : Con Try.prog 15 (sig n) :=
  con_pick (tF := 27) (tK := 3) (tM := 49) (tR := 50) (tE := 45) (tI := 38) (tB := 4) (fld := 1) (off := 1) (n := 11) (g := fun j => ([18, 19, 20, 21] : List Nat).getD j 0) (tS := fun j => ([44, 46, 47, 48] : List Nat).getD j 0) (L := posOf (Try.f15.body.getD .skip)) (pick_of (by kernel_rfl)) Try.func15 (by decide) (by kernel_rfl) (by kernel_rfl) (by kernel_rfl) (fun j hj => match j, hj with | 0, _ => mk0 | 1, _ => mk1 | 2, _ => mk2 | 3, _ => mk3) (t := tGateField) (by kernel_rfl) (by kernel_rfl) (fun x => x.2.1) (fun x => by kernel_rfl)
end impl_sortOf
namespace impl_decimal
@[reducible] def l5 : LSpec := ⟨[(0, .d .str), (4, .d (.int .i64)), (25, .d (.int .i64)), (26, .d (.int .i64))], [(.ret, [(2, .d (.int .i64)), (3, .d .bool)]), (.exit 0, [(4, .d (.int .i64))])]⟩
def B5 (n : Nat) {R : Type} (next : Sden l5.inS → Option R) (cs : Conts R l5.outs) (x : Sden l5.inS) : Option R :=
  if (decide (x.2.2.2.1 < x.2.2.1)) = true then
    if (decide (0 ≤ x.2.2.2.1 ∧ x.2.2.2.1 < (ByteArray.size x.1 : Int))) = true then
      if (!(!(decide ((byteAt x.1 x.2.2.2.1) < (48 : Int)))) || (decide (0 ≤ x.2.2.2.1 ∧ x.2.2.2.1 < (ByteArray.size x.1 : Int)))) = true then
        if ((decide ((byteAt x.1 x.2.2.2.1) < (48 : Int))) || (decide ((byteAt x.1 x.2.2.2.1) > (57 : Int)))) = true then
          cs.1 ((0 : Int), false, ())
        else if (decide (0 ≤ x.2.2.2.1 ∧ x.2.2.2.1 < (ByteArray.size x.1 : Int))) = true then
          next (x.1, (IntKind.i64.wrap ((IntKind.i64.wrap (x.2.1 * (10 : Int))) + (IntKind.i64.wrap (IntKind.u8.wrap ((byteAt x.1 x.2.2.2.1) - (48 : Int)))))), x.2.2.1, (IntKind.i64.wrap (x.2.2.2.1 + (1 : Int))), ())
        else
          none
      else
        none
    else
      none
  else
    cs.2.1 (x.2.1, ())
def f (n : Nat) (x : Tup [.str]) : Option (Tup [(.int .i64), .bool]) :=
  if (!(!((decide ((ByteArray.size x.1 : Int) < (1 : Int))) || (decide ((ByteArray.size x.1 : Int) > (7 : Int))))) || (decide (0 ≤ (0 : Int) ∧ (0 : Int) < (ByteArray.size x.1 : Int)))) = true then
    if (((decide ((ByteArray.size x.1 : Int) < (1 : Int))) || (decide ((ByteArray.size x.1 : Int) > (7 : Int)))) || (((byteAt x.1 (0 : Int)) == (48 : Int)) && (decide ((ByteArray.size x.1 : Int) > (1 : Int))))) = true then
      some ((0 : Int), false, ())
    else
      runL (B5 n) ((fun z1 =>
          some (z1.1, z1.2.1, ())), (fun z2 =>
          some (z2.1, true, ())), ()) n (x.1, (0 : Int), (ByteArray.size x.1 : Int), (0 : Int), ())
  else
    none
@[reducible] def sig (n : Nat) : Sig := ⟨[.str], [(.int .i64), .bool], false, f n, none⟩
def T (n : Nat) : FuncId → Option Sig := fun g => none
def TL (n : Nat) : Loops := fun j _ st k => if Nat.beq j 5 = true then (match dec st l5.inS [] with | some x => runL (B5 n) (contsOf k l5.outs) n x | none => none) else none
theorem d5 (n : Nat) : LoopDef Try.prog (T n) (TL n) Try.f40 5 :=
  ⟨l5, fun R => B5 n, n, fun R st k => by kernel_rfl, fun R next cs x => by kernel_rfl⟩
theorem con (n : Nat) : Con Try.prog 40 (sig n) :=
  con_print (hsw := rfl) (T := T n) (TL := TL n) (c := Try.f40.body.getD .skip) (js := [5]) hMixed conT_none Try.func40 (by decide) (by kernel_rfl) (by kernel_rfl) (by decide) (LoopDef.cons (d5 n) LoopDef.nil) (fun x => by kernel_rfl)
end impl_decimal
namespace impl_numberField_fits
def f (n : Nat) (x : Tup [tnumberField, .str]) : Option (Tup [.bool]) :=
  (impl_decimal.f n (x.2.1, ())).bind fun y1 =>
  some (((y1.2.1 && (decide (y1.1 ≥ x.1.1.2.2.1))) && (decide (y1.1 ≤ x.1.1.2.2.2.1))), ())
@[reducible] def sig (n : Nat) : Sig := ⟨[tnumberField, .str], [.bool], false, f n, none⟩
def T (n : Nat) : FuncId → Option Sig := fun g => if Nat.beq g 40 = true then some (impl_decimal.sig n) else none
def TL (n : Nat) : Loops := fun j _ st k => none
theorem con (n : Nat) : Con Try.prog 38 (sig n) :=
  con_print (hsw := rfl) (T := T n) (TL := TL n) (c := Try.f38.body.getD .skip) (js := []) hMixed (conT_cons (impl_decimal.con n) conT_none) Try.func38 (by decide) (by kernel_rfl) (by kernel_rfl) (by decide) LoopDef.nil (fun x => by kernel_rfl)
end impl_numberField_fits
namespace impl_wordField_fits
@[reducible] def l2 : LSpec := ⟨[(1, .d .str), (9, .d (.slice .str)), (10, .d (.int .i64)), (11, .d (.int .i64))], [(.ret, [(4, .d .bool)]), (.exit 0, [])]⟩
def B2 (n : Nat) {R : Type} (next : Sden l2.inS → Option R) (cs : Conts R l2.outs) (x : Sden l2.inS) : Option R :=
  if (decide (x.2.2.2.1 < x.2.2.1)) = true then
    if (decide (0 ≤ x.2.2.2.1 ∧ x.2.2.2.1 < (List.length x.2.1 : Int))) = true then
      if (seq (List.getD x.2.1 (Int.toNat x.2.2.2.1) (⟨#[]⟩ : ByteArray)) x.1) = true then
        cs.1 (true, ())
      else
        next (x.1, x.2.1, x.2.2.1, (IntKind.i64.wrap (x.2.2.2.1 + (1 : Int))), ())
    else
      none
  else
    cs.2.1 ()
def f (n : Nat) (x : Tup [tnumberField, .str]) : Option (Tup [.bool]) :=
  runL (B2 n) ((fun z1 =>
      some (z1.1, ())), (fun z2 =>
      some (false, ())), ()) n (x.2.1, x.1.1.2.2.2.2.1, (List.length x.1.1.2.2.2.2.1 : Int), (0 : Int), ())
@[reducible] def sig (n : Nat) : Sig := ⟨[tnumberField, .str], [.bool], false, f n, none⟩
def T (n : Nat) : FuncId → Option Sig := fun g => none
def TL (n : Nat) : Loops := fun j _ st k => if Nat.beq j 2 = true then (match dec st l2.inS [] with | some x => runL (B2 n) (contsOf k l2.outs) n x | none => none) else none
theorem d2 (n : Nat) : LoopDef Try.prog (T n) (TL n) Try.f42 2 :=
  ⟨l2, fun R => B2 n, n, fun R st k => by kernel_rfl, fun R next cs x => by kernel_rfl⟩
theorem con (n : Nat) : Con Try.prog 42 (sig n) :=
  con_print (hsw := rfl) (T := T n) (TL := TL n) (c := Try.f42.body.getD .skip) (js := [2]) hMixed conT_none Try.func42 (by decide) (by kernel_rfl) (by kernel_rfl) (by decide) (LoopDef.cons (d2 n) LoopDef.nil) (fun x => by kernel_rfl)
end impl_wordField_fits
namespace impl_textField_fits
@[reducible] def l4 : LSpec := ⟨[(1, .d .str), (21, .d (.int .i64)), (22, .d (.int .i64))], [(.ret, [(4, .d .bool)]), (.exit 0, [])]⟩
def B4 (n : Nat) {R : Type} (next : Sden l4.inS → Option R) (cs : Conts R l4.outs) (x : Sden l4.inS) : Option R :=
  if (decide (x.2.2.1 < x.2.1)) = true then
    if (decide (0 ≤ x.2.2.1 ∧ x.2.2.1 < (ByteArray.size x.1 : Int))) = true then
      if (!(!(decide ((byteAt x.1 x.2.2.1) < (33 : Int)))) || (decide (0 ≤ x.2.2.1 ∧ x.2.2.1 < (ByteArray.size x.1 : Int)))) = true then
        if ((decide ((byteAt x.1 x.2.2.1) < (33 : Int))) || (decide ((byteAt x.1 x.2.2.1) > (126 : Int)))) = true then
          cs.1 (false, ())
        else
          next (x.1, x.2.1, (IntKind.i64.wrap (x.2.2.1 + (1 : Int))), ())
      else
        none
    else
      none
  else
    cs.2.1 ()
def f (n : Nat) (x : Tup [tnumberField, .str]) : Option (Tup [.bool]) :=
  if ((decide ((ByteArray.size x.2.1 : Int) < x.1.1.2.2.1)) || (decide ((ByteArray.size x.2.1 : Int) > x.1.1.2.2.2.1))) = true then
    some (false, ())
  else
    runL (B4 n) ((fun z1 =>
        some (z1.1, ())), (fun z2 =>
        some (true, ())), ()) n (x.2.1, (ByteArray.size x.2.1 : Int), (0 : Int), ())
@[reducible] def sig (n : Nat) : Sig := ⟨[tnumberField, .str], [.bool], false, f n, none⟩
def T (n : Nat) : FuncId → Option Sig := fun g => none
def TL (n : Nat) : Loops := fun j _ st k => if Nat.beq j 4 = true then (match dec st l4.inS [] with | some x => runL (B4 n) (contsOf k l4.outs) n x | none => none) else none
theorem d4 (n : Nat) : LoopDef Try.prog (T n) (TL n) Try.f45 4 :=
  ⟨l4, fun R => B4 n, n, fun R st k => by kernel_rfl, fun R next cs x => by kernel_rfl⟩
theorem con (n : Nat) : Con Try.prog 45 (sig n) :=
  con_print (hsw := rfl) (T := T n) (TL := TL n) (c := Try.f45.body.getD .skip) (js := [4]) hMixed conT_none Try.func45 (by decide) (by kernel_rfl) (by kernel_rfl) (by decide) (LoopDef.cons (d4 n) LoopDef.nil) (fun x => by kernel_rfl)
end impl_textField_fits
namespace impl_nameByte
def f (n : Nat) (x : Tup [(.int .u8)]) : Option (Tup [.bool]) :=
  some (((((decide (x.1 ≥ (97 : Int))) && (decide (x.1 ≤ (122 : Int)))) || ((decide (x.1 ≥ (48 : Int))) && (decide (x.1 ≤ (57 : Int))))) || (x.1 == (45 : Int))), ())
@[reducible] def sig (n : Nat) : Sig := ⟨[(.int .u8)], [.bool], false, f n, none⟩
def T (n : Nat) : FuncId → Option Sig := fun g => none
def TL (n : Nat) : Loops := fun j _ st k => none
theorem con (n : Nat) : Con Try.prog 52 (sig n) :=
  con_print (hsw := rfl) (T := T n) (TL := TL n) (c := Try.f52.body.getD .skip) (js := []) hMixed conT_none Try.func52 (by decide) (by kernel_rfl) (by kernel_rfl) (by decide) LoopDef.nil (fun x => by kernel_rfl)
end impl_nameByte
namespace impl_nameBytes
@[reducible] def l2 : LSpec := ⟨[(0, .d .str), (5, .d (.int .i64)), (6, .d (.int .i64))], [(.ret, [(2, .d .bool)]), (.exit 0, [])]⟩
def B2 (n : Nat) {R : Type} (next : Sden l2.inS → Option R) (cs : Conts R l2.outs) (x : Sden l2.inS) : Option R :=
  if (decide (x.2.2.1 < x.2.1)) = true then
    if (decide (0 ≤ x.2.2.1 ∧ x.2.2.1 < (ByteArray.size x.1 : Int))) = true then
      (impl_nameByte.f n ((byteAt x.1 x.2.2.1), ())).bind fun y1 =>
      if (!y1.1) = true then
        cs.1 (false, ())
      else
        next (x.1, x.2.1, (IntKind.i64.wrap (x.2.2.1 + (1 : Int))), ())
    else
      none
  else
    cs.2.1 ()
def f (n : Nat) (x : Tup [.str]) : Option (Tup [.bool]) :=
  runL (B2 n) ((fun z2 =>
      some (z2.1, ())), (fun z3 =>
      some (true, ())), ()) n (x.1, (ByteArray.size x.1 : Int), (0 : Int), ())
@[reducible] def sig (n : Nat) : Sig := ⟨[.str], [.bool], false, f n, none⟩
def T (n : Nat) : FuncId → Option Sig := fun g => if Nat.beq g 52 = true then some (impl_nameByte.sig n) else none
def TL (n : Nat) : Loops := fun j _ st k => if Nat.beq j 2 = true then (match dec st l2.inS [] with | some x => runL (B2 n) (contsOf k l2.outs) n x | none => none) else none
theorem d2 (n : Nat) : LoopDef Try.prog (T n) (TL n) Try.f51 2 :=
  ⟨l2, fun R => B2 n, n, fun R st k => by kernel_rfl, fun R next cs x => by kernel_rfl⟩
theorem con (n : Nat) : Con Try.prog 51 (sig n) :=
  con_print (hsw := rfl) (T := T n) (TL := TL n) (c := Try.f51.body.getD .skip) (js := [2]) hMixed (conT_cons (impl_nameByte.con n) conT_none) Try.func51 (by decide) (by kernel_rfl) (by kernel_rfl) (by decide) (LoopDef.cons (d2 n) LoopDef.nil) (fun x => by kernel_rfl)
end impl_nameBytes
namespace impl_isName
def f (n : Nat) (x : Tup [.str]) : Option (Tup [.bool]) :=
  (if ((decide ((ByteArray.size x.1 : Int) ≥ (1 : Int))) && (decide ((ByteArray.size x.1 : Int) ≤ (16 : Int)))) = true then (impl_nameBytes.f n (x.1, ())) else some (tzero [.bool])).bind fun y1 =>
  some ((((decide ((ByteArray.size x.1 : Int) ≥ (1 : Int))) && (decide ((ByteArray.size x.1 : Int) ≤ (16 : Int)))) && y1.1), ())
@[reducible] def sig (n : Nat) : Sig := ⟨[.str], [.bool], false, f n, none⟩
def T (n : Nat) : FuncId → Option Sig := fun g => if Nat.beq g 51 = true then some (impl_nameBytes.sig n) else none
def TL (n : Nat) : Loops := fun j _ st k => none
theorem con (n : Nat) : Con Try.prog 50 (sig n) :=
  con_print (hsw := rfl) (T := T n) (TL := TL n) (c := Try.f50.body.getD .skip) (js := []) hMixed (conT_cons (impl_nameBytes.con n) conT_none) Try.func50 (by decide) (by kernel_rfl) (by kernel_rfl) (by decide) LoopDef.nil (fun x => by kernel_rfl)
end impl_isName
namespace impl_linkField_fits
def f (n : Nat) (x : Tup [tnumberField, .str]) : Option (Tup [.bool]) :=
  (impl_isName.f n (x.2.1, ())).bind fun y1 =>
  some (y1.1, ())
@[reducible] def sig (n : Nat) : Sig := ⟨[tnumberField, .str], [.bool], false, f n, none⟩
def T (n : Nat) : FuncId → Option Sig := fun g => if Nat.beq g 50 = true then some (impl_isName.sig n) else none
def TL (n : Nat) : Loops := fun j _ st k => none
theorem con (n : Nat) : Con Try.prog 48 (sig n) :=
  con_print (hsw := rfl) (T := T n) (TL := TL n) (c := Try.f48.body.getD .skip) (js := []) hMixed (conT_cons (impl_isName.con n) conT_none) Try.func48 (by decide) (by kernel_rfl) (by kernel_rfl) (by decide) LoopDef.nil (fun x => by kernel_rfl)
end impl_linkField_fits
namespace impl_GateFits
def f (n : Nat) (x : Tup [tGateField, .str]) : Option (Tup [.bool]) :=
  (impl_sortOf.f n x.1 ()).bind fun y1 =>
  (if (y1.2.2.1 && (!seq x.2.1 (⟨#[]⟩ : ByteArray))) = true then (if (decide (y1.2.1 = 0)) = true then ((impl_numberField_fits.f n ((y1.1, ()), x.2.1, ())).bind fun r => some r.1) else (if (decide ((y1.2.1 - 1) = 0)) = true then ((impl_wordField_fits.f n ((y1.1, ()), x.2.1, ())).bind fun r => some r.1) else (if (decide (((y1.2.1 - 1) - 1) = 0)) = true then ((impl_textField_fits.f n ((y1.1, ()), x.2.1, ())).bind fun r => some r.1) else (if (decide ((((y1.2.1 - 1) - 1) - 1) = 0)) = true then ((impl_linkField_fits.f n ((y1.1, ()), x.2.1, ())).bind fun r => some r.1) else none)))) else some false).bind fun y2 =>
  some (((y1.2.2.1 && (!seq x.2.1 (⟨#[]⟩ : ByteArray))) && y2), ())
@[reducible] def sig (n : Nat) : Sig := ⟨[tGateField, .str], [.bool], false, f n, none⟩
def T (n : Nat) : FuncId → Option Sig := fun g => if Nat.beq g 15 = true then some (impl_sortOf.sig n) else if Nat.beq g 38 = true then some (impl_numberField_fits.sig n) else if Nat.beq g 42 = true then some (impl_wordField_fits.sig n) else if Nat.beq g 45 = true then some (impl_textField_fits.sig n) else if Nat.beq g 48 = true then some (impl_linkField_fits.sig n) else none
def TL (n : Nat) : Loops := fun j _ st k => none
theorem con (n : Nat) : Con Try.prog 7 (sig n) :=
  con_print (hsw := rfl) (T := T n) (TL := TL n) (c := Try.f7.body.getD .skip) (js := []) hMixed (conT_cons (impl_sortOf.con n) (conT_cons (impl_numberField_fits.con n) (conT_cons (impl_wordField_fits.con n) (conT_cons (impl_textField_fits.con n) (conT_cons (impl_linkField_fits.con n) conT_none))))) Try.func7 (by decide) (by kernel_rfl) (by kernel_rfl) (by decide) LoopDef.nil (fun x => by kernel_rfl)
end impl_GateFits
namespace laws_eqStringS
@[reducible] def l4 : LSpec := ⟨[(0, .d (.slice .str)), (1, .d (.slice .str)), (5, .d (.int .i64))], [(.ret, [(4, .d .bool)]), (.exit 0, [])]⟩
def B4 (n : Nat) {R : Type} (next : Sden l4.inS → Option R) (cs : Conts R l4.outs) (x : Sden l4.inS) : Option R :=
  if (decide (x.2.2.1 < (List.length x.1 : Int))) = true then
    if (!true || (decide (0 ≤ x.2.2.1 ∧ x.2.2.1 < (List.length x.1 : Int)))) = true then
      if (!true || (decide (0 ≤ x.2.2.1 ∧ x.2.2.1 < (List.length x.2.1 : Int)))) = true then
        if (!seq (List.getD x.1 (Int.toNat x.2.2.1) (⟨#[]⟩ : ByteArray)) (List.getD x.2.1 (Int.toNat x.2.2.1) (⟨#[]⟩ : ByteArray))) = true then
          cs.1 (false, ())
        else
          next (x.1, x.2.1, (IntKind.i64.wrap (x.2.2.1 + (1 : Int))), ())
      else
        none
    else
      none
  else
    cs.2.1 ()
def f (n : Nat) (x : Tup [(.slice .str), (.slice .str)]) : Option (Tup [.bool]) :=
  if ((List.length x.1 : Int) != (List.length x.2.1 : Int)) = true then
    some (false, ())
  else
    runL (B4 n) ((fun z1 =>
        some (z1.1, ())), (fun z2 =>
        some (true, ())), ()) n (x.1, x.2.1, (0 : Int), ())
@[reducible] def sig (n : Nat) : Sig := ⟨[(.slice .str), (.slice .str)], [.bool], false, f n, none⟩
def T (n : Nat) : FuncId → Option Sig := fun g => none
def TL (n : Nat) : Loops := fun j _ st k => if Nat.beq j 4 = true then (match dec st l4.inS [] with | some x => runL (B4 n) (contsOf k l4.outs) n x | none => none) else none
theorem d4 (n : Nat) : LoopDef Try.prog (T n) (TL n) Try.f16 4 :=
  ⟨l4, fun R => B4 n, n, fun R st k => by kernel_rfl, fun R next cs x => by kernel_rfl⟩
theorem con (n : Nat) : Con Try.prog 16 (sig n) :=
  con_print (hsw := rfl) (T := T n) (TL := TL n) (c := Try.f16.body.getD .skip) (js := [4]) hMixed conT_none Try.func16 (by decide) (by kernel_rfl) (by kernel_rfl) (by decide) (LoopDef.cons (d4 n) LoopDef.nil) (fun x => by kernel_rfl)
end laws_eqStringS
namespace laws_eqGateField
def f (n : Nat) (x : Tup [tGateField, tGateField]) : Option (Tup [.bool]) :=
  if (!seq x.1.1 x.2.1.1) = true then
    some (false, ())
  else if (x.1.2.1 != x.2.1.2.1) = true then
    some (false, ())
  else if (x.1.2.2.1 != x.2.1.2.2.1) = true then
    some (false, ())
  else if (x.1.2.2.2.1 != x.2.1.2.2.2.1) = true then
    some (false, ())
  else
    (laws_eqStringS.f n (x.1.2.2.2.2.1, x.2.1.2.2.2.2.1, ())).bind fun y1 =>
    if (!y1.1) = true then
      some (false, ())
    else if (!seq x.1.2.2.2.2.2.1 x.2.1.2.2.2.2.2.1) = true then
      some (false, ())
    else if (x.1.2.2.2.2.2.2.1 != x.2.1.2.2.2.2.2.2.1) = true then
      some (false, ())
    else if (!(x.1.2.2.2.2.2.2.2.1 == x.2.1.2.2.2.2.2.2.2.1)) = true then
      some (false, ())
    else if (!(x.1.2.2.2.2.2.2.2.2.1 == x.2.1.2.2.2.2.2.2.2.2.1)) = true then
      some (false, ())
    else if (!seq x.1.2.2.2.2.2.2.2.2.2.1 x.2.1.2.2.2.2.2.2.2.2.2.1) = true then
      some (false, ())
    else if (!seq x.1.2.2.2.2.2.2.2.2.2.2.1 x.2.1.2.2.2.2.2.2.2.2.2.2.1) = true then
      some (false, ())
    else
      some (true, ())
@[reducible] def sig (n : Nat) : Sig := ⟨[tGateField, tGateField], [.bool], false, f n, none⟩
def T (n : Nat) : FuncId → Option Sig := fun g => if Nat.beq g 16 = true then some (laws_eqStringS.sig n) else none
def TL (n : Nat) : Loops := fun j _ st k => none
theorem con (n : Nat) : Con Try.prog 8 (sig n) :=
  con_print (hsw := rfl) (T := T n) (TL := TL n) (c := Try.f8.body.getD .skip) (js := []) hMixed (conT_cons (laws_eqStringS.con n) conT_none) Try.func8 (by decide) (by kernel_rfl) (by kernel_rfl) (by decide) LoopDef.nil (fun x => by kernel_rfl)
end laws_eqGateField
namespace laws_FnExactGateFits
def f (n : Nat) (x : Tup [tGateField, .str]) : Option (Tup [.bool]) :=
  if (decide ((ByteArray.size x.2.1 : Int) > (1048576 : Int))) = true then
    some (true, ())
  else
    (laws_szGateField.f n (x.1, (1048576 : Int), ())).bind fun y1 =>
    if (decide (y1.1 < (0 : Int))) = true then
      some (true, ())
    else
      (laws_toGateField.f n (x.1, ())).bind fun y2 =>
      (spec_GateFits.f n (y2.1, x.2.1, ())).bind fun y3 =>
      (laws_toGateField.f n (x.1, ())).bind fun y4 =>
      (impl_GateFits.f n (y4.1, x.2.1, ())).bind fun y5 =>
      if (!(y5.1 == y3.1)) = true then
        some (false, ())
      else
        (laws_toGateField.f n (x.1, ())).bind fun y6 =>
        (laws_eqGateField.f n (y4.1, y6.1, ())).bind fun y7 =>
        if (!y7.1) = true then
          some (false, ())
        else
          some (true, ())
@[reducible] def sig (n : Nat) : Sig := ⟨[tGateField, .str], [.bool], false, f n, none⟩
def T (n : Nat) : FuncId → Option Sig := fun g => if Nat.beq g 4 = true then some (laws_szGateField.sig n) else if Nat.beq g 5 = true then some (spec_GateFits.sig n) else if Nat.beq g 6 = true then some (laws_toGateField.sig n) else if Nat.beq g 7 = true then some (impl_GateFits.sig n) else if Nat.beq g 8 = true then some (laws_eqGateField.sig n) else none
def TL (n : Nat) : Loops := fun j _ st k => none
theorem con (n : Nat) : Con Try.prog 3 (sig n) :=
  con_print (hsw := rfl) (T := T n) (TL := TL n) (c := Try.f3.body.getD .skip) (js := []) hMixed (conT_cons (laws_szGateField.con n) (conT_cons (spec_GateFits.con n) (conT_cons (laws_toGateField.con n) (conT_cons (impl_GateFits.con n) (conT_cons (laws_eqGateField.con n) conT_none))))) Try.func3 (by decide) (by kernel_rfl) (by kernel_rfl) (by decide) LoopDef.nil (fun x => by kernel_rfl)
end laws_FnExactGateFits
end Go.Proofs.Ytahigbajnpdpcaa
