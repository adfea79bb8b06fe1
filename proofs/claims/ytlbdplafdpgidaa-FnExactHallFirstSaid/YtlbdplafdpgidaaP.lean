import Derived.Test.YtlbdplafdpgidaaF0
import Derived.Test.YtlbdplafdpgidaaM3
set_option linter.unusedVariables false
set_option linter.unusedSimpArgs false
namespace Go.Proofs.Ytlbdplafdpgidaa
open Go.Vm
theorem laws_szGateTeam_ok (n : Nat) (hn : Big n) : SzOk tGateTeam (fun x left => laws_szGateTeam.f n (x, left, ())) := by
  intro x hw
  have e : (fun left => laws_szGateTeam.f n (x, left, ())) = fun left => szStr (ByteArray.size x.1) left fun left => szStr (ByteArray.size x.2.1) left fun left => some (left, ()) := by kernel_rfl
  show KOk (fun left => laws_szGateTeam.f n (x, left, ())) _
  rw [e]
  exact KOk.congr (szStr_ok (s := ByteArray.size x.1) hw.1 (szStr_ok (s := ByteArray.size x.2.1) hw.2.1 szEnd_ok)) (by first | (simp only [bulk]; done) | (simp only [bulk]; omega))
theorem laws_szGateTeamS_ok (n : Nat) (hn : Big n) : SzOk (.slice tGateTeam) (fun l left => laws_szGateTeamS.f n (l, left, ())) := patSzS_ok (g := fun x left => laws_szGateTeam.f n (x, left, ())) (z := Ty.zero tGateTeam) (laws_szGateTeam_ok n hn) hn
theorem laws_szIntS_ok (n : Nat) (hn : Big n) : SzOk (.slice (.int .i64)) (fun l left => laws_szIntS.f n (l, left, ())) := szLen_ok (fun x => by simp [bulk]) (fun l left => rfl)
theorem laws_szGateRule_ok (n : Nat) (hn : Big n) : SzOk tGateRule (fun x left => laws_szGateRule.f n (x, left, ())) := by
  intro x hw
  have e : (fun left => laws_szGateRule.f n (x, left, ())) = fun left => szCall (laws_szIntS.f n (x.1, left, ())) fun left => szStr (ByteArray.size x.2.1) left fun left => szStr (ByteArray.size x.2.2.1) left fun left => szStr (ByteArray.size x.2.2.2.1) left fun left => some (left, ()) := by kernel_rfl
  show KOk (fun left => laws_szGateRule.f n (x, left, ())) _
  rw [e]
  exact KOk.congr (szCall_ok (laws_szIntS_ok n hn _ hw.1) (szStr_ok (s := ByteArray.size x.2.1) hw.2.1 (szStr_ok (s := ByteArray.size x.2.2.1) hw.2.2.1 (szStr_ok (s := ByteArray.size x.2.2.2.1) hw.2.2.2.1 szEnd_ok)))) (by first | (simp only [bulk]; done) | (simp only [bulk]; omega))
theorem laws_szGateGrant_ok (n : Nat) (hn : Big n) : SzOk tGateGrant (fun x left => laws_szGateGrant.f n (x, left, ())) := by
  intro x hw
  have e : (fun left => laws_szGateGrant.f n (x, left, ())) = fun left => szStr (ByteArray.size x.2.1) left fun left => szStr (ByteArray.size x.2.2.1) left fun left => szCall (laws_szGateRule.f n (x.2.2.2.1, left, ())) fun left => some (left, ()) := by kernel_rfl
  show KOk (fun left => laws_szGateGrant.f n (x, left, ())) _
  rw [e]
  exact KOk.congr (szStr_ok (s := ByteArray.size x.2.1) hw.2.1 (szStr_ok (s := ByteArray.size x.2.2.1) hw.2.2.1 (szCall_ok (laws_szGateRule_ok n hn _ hw.2.2.2.1) szEnd_ok))) (by first | (simp only [bulk]; done) | (simp only [bulk]; omega))
theorem laws_szGateGrantS_ok (n : Nat) (hn : Big n) : SzOk (.slice tGateGrant) (fun l left => laws_szGateGrantS.f n (l, left, ())) := patSzS_ok (g := fun x left => laws_szGateGrant.f n (x, left, ())) (z := Ty.zero tGateGrant) (laws_szGateGrant_ok n hn) hn
theorem laws_szHallHouse_ok (n : Nat) (hn : Big n) : SzOk tHallHouse (fun x left => laws_szHallHouse.f n (x, left, ())) := by
  intro x hw
  have e : (fun left => laws_szHallHouse.f n (x, left, ())) = fun left => szCall (laws_szGateTeamS.f n (x.1, left, ())) fun left => szCall (laws_szGateGrantS.f n (x.2.1, left, ())) fun left => some (left, ()) := by kernel_rfl
  show KOk (fun left => laws_szHallHouse.f n (x, left, ())) _
  rw [e]
  exact KOk.congr (szCall_ok (laws_szGateTeamS_ok n hn _ hw.1) (szCall_ok (laws_szGateGrantS_ok n hn _ hw.2.1) szEnd_ok)) (by first | (simp only [bulk]; done) | (simp only [bulk]; omega))
theorem laws_toGateTeam_ok (n : Nat) (hn : Big n) (x : Ty.den tGateTeam) (h : small 1048576 tGateTeam x) : laws_toGateTeam.f n (x, ()) = some (x, ()) := rfl
theorem laws_toGateTeamS_ok (n : Nat) (hn : Big n) (x : Ty.den (.slice tGateTeam)) (h : small 1048576 (.slice tGateTeam) x) : laws_toGateTeamS.f n (x, ()) = some (x, ()) := patToS_ok (z := (Ty.zero tGateTeam)) (g := fun x => laws_toGateTeam.f n (x, ())) (fun x hx => laws_toGateTeam_ok n hn x (h.2 x hx)) h.1 (by decide) (by decide) hn
theorem laws_toIntS_ok (n : Nat) (hn : Big n) (x : Ty.den (.slice (.int .i64))) (h : small 1048576 (.slice (.int .i64)) x) : laws_toIntS.f n (x, ()) = some (x, ()) := patToS_ok (z := (0 : Int)) (g := fun x => some (x, ())) (fun x _ => rfl) h.1 (by decide) (by decide) hn
theorem laws_toGateRule_ok (n : Nat) (hn : Big n) (x : Ty.den tGateRule) (h : small 1048576 tGateRule x) : laws_toGateRule.f n (x, ()) = some (x, ()) := by
  first | (simp only [laws_toGateRule.f, laws_toIntS_ok n hn _ h.1, Option.bind_some]; done) | (simp only [laws_toGateRule.f, laws_toIntS_ok n hn _ h.1, Option.bind_some]; rfl)
theorem laws_toGateGrant_ok (n : Nat) (hn : Big n) (x : Ty.den tGateGrant) (h : small 1048576 tGateGrant x) : laws_toGateGrant.f n (x, ()) = some (x, ()) := by
  first | (simp only [laws_toGateGrant.f, laws_toGateRule_ok n hn _ h.2.2.2.1, Option.bind_some]; done) | (simp only [laws_toGateGrant.f, laws_toGateRule_ok n hn _ h.2.2.2.1, Option.bind_some]; rfl)
theorem laws_toGateGrantS_ok (n : Nat) (hn : Big n) (x : Ty.den (.slice tGateGrant)) (h : small 1048576 (.slice tGateGrant) x) : laws_toGateGrantS.f n (x, ()) = some (x, ()) := patToS_ok (z := (Ty.zero tGateGrant)) (g := fun x => laws_toGateGrant.f n (x, ())) (fun x hx => laws_toGateGrant_ok n hn x (h.2 x hx)) h.1 (by decide) (by decide) hn
theorem laws_toHallHouse_ok (n : Nat) (hn : Big n) (x : Ty.den tHallHouse) (h : small 1048576 tHallHouse x) : laws_toHallHouse.f n (x, ()) = some (x, ()) := by
  first | (simp only [laws_toHallHouse.f, laws_toGateTeamS_ok n hn _ h.1, laws_toGateGrantS_ok n hn _ h.2.1, Option.bind_some]; done) | (simp only [laws_toHallHouse.f, laws_toGateTeamS_ok n hn _ h.1, laws_toGateGrantS_ok n hn _ h.2.1, Option.bind_some]; rfl)
theorem laws_eqStringS_ok (n : Nat) (hn : Big n) (x : Tup [.slice .str, .slice .str]) (h : small 1048576 (.slice .str) x.1) : laws_eqStringS.f n x = some (eqD (.slice .str) x.1 x.2.1, ()) := patEqS_ok (e := .str) (z := (⟨#[]⟩ : ByteArray)) (g := fun x y => some (eqD .str x y, ())) (fun x _ y => rfl) h.1 hn
theorem laws_eqGateObject_ok (n : Nat) (hn : Big n) (x : Tup [tGateObject, tGateObject]) (h : small 1048576 tGateObject x.1) : laws_eqGateObject.f n x = some (eqD tGateObject x.1 x.2.1, ()) :=
  (eqLeaf_not (seq x.1.1 x.2.1.1) (eqLeaf_not (seq x.1.2.1 x.2.1.2.1) (eqLeaf_not (seq x.1.2.2.1 x.2.1.2.2.1) (eqCall_ok (laws_eqStringS_ok n hn _ h.2.2.2.1) (eqLeaf_not ((x.1.2.2.2.2.1 == x.2.1.2.2.2.2.1)) (eqCall_ok (laws_eqStringS_ok n hn _ h.2.2.2.2.2.1) (eqLeaf_not ((x.1.2.2.2.2.2.2.1 == x.2.1.2.2.2.2.2.2.1)) rfl)))))))
theorem laws_eqGateObjectS_ok (n : Nat) (hn : Big n) (x : Tup [.slice tGateObject, .slice tGateObject]) (h : small 1048576 (.slice tGateObject) x.1) : laws_eqGateObjectS.f n x = some (eqD (.slice tGateObject) x.1 x.2.1, ()) := patEqS_ok (e := tGateObject) (z := (Ty.zero tGateObject)) (g := fun x y => laws_eqGateObject.f n (x, y, ())) (fun x hx y => laws_eqGateObject_ok n hn (x, y, ()) (h.2 x hx)) h.1 hn
theorem laws_eqIntS_ok (n : Nat) (hn : Big n) (x : Tup [.slice (.int .i64), .slice (.int .i64)]) (h : small 1048576 (.slice (.int .i64)) x.1) : laws_eqIntS.f n x = some (eqD (.slice (.int .i64)) x.1 x.2.1, ()) := patEqS_ok (e := (.int .i64)) (z := (0 : Int)) (g := fun x y => some (eqD (.int .i64) x y, ())) (fun x _ y => rfl) h.1 hn
theorem laws_eqGateRule_ok (n : Nat) (hn : Big n) (x : Tup [tGateRule, tGateRule]) (h : small 1048576 tGateRule x.1) : laws_eqGateRule.f n x = some (eqD tGateRule x.1 x.2.1, ()) :=
  (eqCall_ok (laws_eqIntS_ok n hn _ h.1) (eqLeaf_not (seq x.1.2.1 x.2.1.2.1) (eqLeaf_not (seq x.1.2.2.1 x.2.1.2.2.1) (eqLeaf_not (seq x.1.2.2.2.1 x.2.1.2.2.2.1) rfl))))
theorem laws_eqGateGrant_ok (n : Nat) (hn : Big n) (x : Tup [tGateGrant, tGateGrant]) (h : small 1048576 tGateGrant x.1) : laws_eqGateGrant.f n x = some (eqD tGateGrant x.1 x.2.1, ()) :=
  (eqLeaf_not ((x.1.1 == x.2.1.1)) (eqLeaf_not (seq x.1.2.1 x.2.1.2.1) (eqLeaf_not (seq x.1.2.2.1 x.2.1.2.2.1) (eqCall_ok (laws_eqGateRule_ok n hn _ h.2.2.2.1) rfl))))
theorem laws_eqGateGrantS_ok (n : Nat) (hn : Big n) (x : Tup [.slice tGateGrant, .slice tGateGrant]) (h : small 1048576 (.slice tGateGrant) x.1) : laws_eqGateGrantS.f n x = some (eqD (.slice tGateGrant) x.1 x.2.1, ()) := patEqS_ok (e := tGateGrant) (z := (Ty.zero tGateGrant)) (g := fun x y => laws_eqGateGrant.f n (x, y, ())) (fun x hx y => laws_eqGateGrant_ok n hn (x, y, ()) (h.2 x hx)) h.1 hn
theorem laws_eqGateLedger_ok (n : Nat) (hn : Big n) (x : Tup [tGateLedger, tGateLedger]) (h : small 1048576 tGateLedger x.1) : laws_eqGateLedger.f n x = some (eqD tGateLedger x.1 x.2.1, ()) :=
  (eqLeaf_not (seq x.1.1 x.2.1.1) (eqLeaf_not (seq x.1.2.1 x.2.1.2.1) (eqLeaf_not ((x.1.2.2.1 == x.2.1.2.2.1)) (eqLeaf_not ((x.1.2.2.2.1 == x.2.1.2.2.2.1)) rfl))))
theorem laws_eqGateLedgerS_ok (n : Nat) (hn : Big n) (x : Tup [.slice tGateLedger, .slice tGateLedger]) (h : small 1048576 (.slice tGateLedger) x.1) : laws_eqGateLedgerS.f n x = some (eqD (.slice tGateLedger) x.1 x.2.1, ()) := patEqS_ok (e := tGateLedger) (z := (Ty.zero tGateLedger)) (g := fun x y => laws_eqGateLedger.f n (x, y, ())) (fun x hx y => laws_eqGateLedger_ok n hn (x, y, ()) (h.2 x hx)) h.1 hn
theorem laws_eqGatePurse_ok (n : Nat) (hn : Big n) (x : Tup [tGatePurse, tGatePurse]) (h : small 1048576 tGatePurse x.1) : laws_eqGatePurse.f n x = some (eqD tGatePurse x.1 x.2.1, ()) :=
  (eqLeaf_not (seq x.1.1 x.2.1.1) (eqLeaf_not (seq x.1.2.1 x.2.1.2.1) (eqLeaf_not (seq x.1.2.2.1 x.2.1.2.2.1) (eqLeaf_not ((x.1.2.2.2.1 == x.2.1.2.2.2.1)) (eqLeaf_not ((x.1.2.2.2.2.1 == x.2.1.2.2.2.2.1)) rfl)))))
theorem laws_eqGatePurseS_ok (n : Nat) (hn : Big n) (x : Tup [.slice tGatePurse, .slice tGatePurse]) (h : small 1048576 (.slice tGatePurse) x.1) : laws_eqGatePurseS.f n x = some (eqD (.slice tGatePurse) x.1 x.2.1, ()) := patEqS_ok (e := tGatePurse) (z := (Ty.zero tGatePurse)) (g := fun x y => laws_eqGatePurse.f n (x, y, ())) (fun x hx y => laws_eqGatePurse_ok n hn (x, y, ()) (h.2 x hx)) h.1 hn
theorem laws_eqGateBook_ok (n : Nat) (hn : Big n) (x : Tup [tGateBook, tGateBook]) (h : small 1048576 tGateBook x.1) : laws_eqGateBook.f n x = some (eqD tGateBook x.1 x.2.1, ()) :=
  (eqLeaf_not ((x.1.1 == x.2.1.1)) (eqLeaf_not ((x.1.2.1 == x.2.1.2.1)) (eqLeaf_not ((x.1.2.2.1 == x.2.1.2.2.1)) (eqCall_ok (laws_eqGateObjectS_ok n hn _ h.2.2.2.1) (eqCall_ok (laws_eqGateGrantS_ok n hn _ h.2.2.2.2.1) (eqCall_ok (laws_eqGateLedgerS_ok n hn _ h.2.2.2.2.2.1) (eqCall_ok (laws_eqGatePurseS_ok n hn _ h.2.2.2.2.2.2.1) rfl)))))))
theorem laws_eqStewService_ok (n : Nat) (hn : Big n) (x : Tup [tStewService, tStewService]) (h : small 1048576 tStewService x.1) : laws_eqStewService.f n x = some (eqD tStewService x.1 x.2.1, ()) :=
  (eqLeaf_not (seq x.1.1 x.2.1.1) (eqLeaf_not ((x.1.2.1 == x.2.1.2.1)) (eqLeaf_not ((x.1.2.2.1 == x.2.1.2.2.1)) (eqLeaf_not ((x.1.2.2.2.1 == x.2.1.2.2.2.1)) (eqLeaf_not ((x.1.2.2.2.2.1 == x.2.1.2.2.2.2.1)) (eqLeaf_not ((x.1.2.2.2.2.2.1 == x.2.1.2.2.2.2.2.1)) (eqLeaf_not ((x.1.2.2.2.2.2.2.1 == x.2.1.2.2.2.2.2.2.1)) (eqLeaf_not ((x.1.2.2.2.2.2.2.2.1 == x.2.1.2.2.2.2.2.2.2.1)) (eqLeaf_not ((x.1.2.2.2.2.2.2.2.2.1 == x.2.1.2.2.2.2.2.2.2.2.1)) (eqLeaf_not ((x.1.2.2.2.2.2.2.2.2.2.1 == x.2.1.2.2.2.2.2.2.2.2.2.1)) (eqLeaf_not ((x.1.2.2.2.2.2.2.2.2.2.2.1 == x.2.1.2.2.2.2.2.2.2.2.2.2.1)) (eqLeaf_not ((x.1.2.2.2.2.2.2.2.2.2.2.2.1 == x.2.1.2.2.2.2.2.2.2.2.2.2.2.1)) (eqLeaf_not ((x.1.2.2.2.2.2.2.2.2.2.2.2.2.1 == x.2.1.2.2.2.2.2.2.2.2.2.2.2.2.1)) rfl)))))))))))))
theorem laws_eqStewServiceS_ok (n : Nat) (hn : Big n) (x : Tup [.slice tStewService, .slice tStewService]) (h : small 1048576 (.slice tStewService) x.1) : laws_eqStewServiceS.f n x = some (eqD (.slice tStewService) x.1 x.2.1, ()) := patEqS_ok (e := tStewService) (z := (Ty.zero tStewService)) (g := fun x y => laws_eqStewService.f n (x, y, ())) (fun x hx y => laws_eqStewService_ok n hn (x, y, ()) (h.2 x hx)) h.1 hn
theorem laws_eqStewCopy_ok (n : Nat) (hn : Big n) (x : Tup [tStewCopy, tStewCopy]) (h : small 1048576 tStewCopy x.1) : laws_eqStewCopy.f n x = some (eqD tStewCopy x.1 x.2.1, ()) :=
  (eqLeaf_not (seq x.1.1 x.2.1.1) (eqLeaf_not ((x.1.2.1 == x.2.1.2.1)) (eqLeaf_not ((x.1.2.2.1 == x.2.1.2.2.1)) (eqLeaf_not ((x.1.2.2.2.1 == x.2.1.2.2.2.1)) (eqLeaf_not ((x.1.2.2.2.2.1 == x.2.1.2.2.2.2.1)) (eqLeaf_not ((x.1.2.2.2.2.2.1 == x.2.1.2.2.2.2.2.1)) (eqLeaf_not (seq x.1.2.2.2.2.2.2.1 x.2.1.2.2.2.2.2.2.1) rfl)))))))
theorem laws_eqStewCopyS_ok (n : Nat) (hn : Big n) (x : Tup [.slice tStewCopy, .slice tStewCopy]) (h : small 1048576 (.slice tStewCopy) x.1) : laws_eqStewCopyS.f n x = some (eqD (.slice tStewCopy) x.1 x.2.1, ()) := patEqS_ok (e := tStewCopy) (z := (Ty.zero tStewCopy)) (g := fun x y => laws_eqStewCopy.f n (x, y, ())) (fun x hx y => laws_eqStewCopy_ok n hn (x, y, ()) (h.2 x hx)) h.1 hn
theorem laws_eqStewBerth_ok (n : Nat) (hn : Big n) (x : Tup [tStewBerth, tStewBerth]) (h : small 1048576 tStewBerth x.1) : laws_eqStewBerth.f n x = some (eqD tStewBerth x.1 x.2.1, ()) :=
  (eqLeaf_not (seq x.1.1 x.2.1.1) (eqLeaf_not ((x.1.2.1 == x.2.1.2.1)) rfl))
theorem laws_eqStewBerthS_ok (n : Nat) (hn : Big n) (x : Tup [.slice tStewBerth, .slice tStewBerth]) (h : small 1048576 (.slice tStewBerth) x.1) : laws_eqStewBerthS.f n x = some (eqD (.slice tStewBerth) x.1 x.2.1, ()) := patEqS_ok (e := tStewBerth) (z := (Ty.zero tStewBerth)) (g := fun x y => laws_eqStewBerth.f n (x, y, ())) (fun x hx y => laws_eqStewBerth_ok n hn (x, y, ()) (h.2 x hx)) h.1 hn
theorem laws_eqStewBook_ok (n : Nat) (hn : Big n) (x : Tup [tStewBook, tStewBook]) (h : small 1048576 tStewBook x.1) : laws_eqStewBook.f n x = some (eqD tStewBook x.1 x.2.1, ()) :=
  (eqLeaf_not ((x.1.1 == x.2.1.1)) (eqCall_ok (laws_eqStewServiceS_ok n hn _ h.2.1) (eqCall_ok (laws_eqStewCopyS_ok n hn _ h.2.2.1) (eqCall_ok (laws_eqStewBerthS_ok n hn _ h.2.2.2.1) rfl))))
theorem laws_eqHallBook_ok (n : Nat) (hn : Big n) (x : Tup [tHallBook, tHallBook]) (h : small 1048576 tHallBook x.1) : laws_eqHallBook.f n x = some (eqD tHallBook x.1 x.2.1, ()) :=
  (eqCall_ok (laws_eqGateBook_ok n hn _ h.1) (eqCall_ok (laws_eqStewBook_ok n hn _ h.2.1) rfl))
theorem laws_eqGateTeam_ok (n : Nat) (hn : Big n) (x : Tup [tGateTeam, tGateTeam]) (h : small 1048576 tGateTeam x.1) : laws_eqGateTeam.f n x = some (eqD tGateTeam x.1 x.2.1, ()) :=
  (eqLeaf_not (seq x.1.1 x.2.1.1) (eqLeaf_not (seq x.1.2.1 x.2.1.2.1) rfl))
theorem laws_eqGateTeamS_ok (n : Nat) (hn : Big n) (x : Tup [.slice tGateTeam, .slice tGateTeam]) (h : small 1048576 (.slice tGateTeam) x.1) : laws_eqGateTeamS.f n x = some (eqD (.slice tGateTeam) x.1 x.2.1, ()) := patEqS_ok (e := tGateTeam) (z := (Ty.zero tGateTeam)) (g := fun x y => laws_eqGateTeam.f n (x, y, ())) (fun x hx y => laws_eqGateTeam_ok n hn (x, y, ()) (h.2 x hx)) h.1 hn
theorem laws_eqHallHouse_ok (n : Nat) (hn : Big n) (x : Tup [tHallHouse, tHallHouse]) (h : small 1048576 tHallHouse x.1) : laws_eqHallHouse.f n x = some (eqD tHallHouse x.1 x.2.1, ()) :=
  (eqCall_ok (laws_eqGateTeamS_ok n hn _ h.1) (eqCall_ok (laws_eqGateGrantS_ok n hn _ h.2.1) rfl))
theorem bind_congr1 {α β : Type} {a b : Option α} {f : α → Option β} (h : a = b) : a.bind f = b.bind f := by rw [h]
attribute [local congr] bind_congr1
theorem laws_markText_ok (n : Nat) (hn : Big n) (k : Int) (hk : 1 ≤ k) (hw : k ≤ 4611686018427387904) : ∃ s, laws_markText.f n (k, ()) = some (s, ()) := by
  have hn : 18446744073709551616 ≤ n := hn
  obtain ⟨m, rfl⟩ : ∃ m : Nat, k = m := ⟨k.toNat, by omega⟩
  unfold laws_markText.f
  rw [if_neg (by rw [decide_eq_true_eq]; show ¬ ((m : Int) ≤ 0); omega)]
  obtain ⟨t, ht, hr⟩ := markText_run (B := laws_markText.B4 n) (cs := ((fun z1 => if (decide ((ByteArray.size (⟨#[109]⟩ : ByteArray) : Int) + (ByteArray.size z1.1 : Int) ≤ 9223372036854775807)) = true then some ((scat (⟨#[109]⟩ : ByteArray) z1.1), ()) else none), ())) (dn := fun s => if (decide ((ByteArray.size (⟨#[109]⟩ : ByteArray) : Int) + (ByteArray.size s : Int) ≤ 9223372036854775807)) = true then some ((scat (⟨#[109]⟩ : ByteArray) s), ()) else none)
    (fun next s => by simp only [laws_markText.B4, show decide ((0 : Int) > 0) = false from rfl, Bool.false_eq_true, if_false])
    (fun next k s h1 h2 => ⟨_, (scat_size _ s).trans (by rw [ofBytes_one]; omega), by
      simp only [laws_markText.B4]
      rw [if_pos (decide_eq_true (show k > 0 by omega)), if_pos (by decide), if_pos (decide_eq_true (by rw [ofBytes_one]; show ((1 : Nat) : Int) + (ByteArray.size s : Int) ≤ 9223372036854775807; omega)), if_pos (by decide), wrapM (Int.tdiv_nonneg (by omega) (by omega)) (by rw [Int.tdiv_eq_ediv_of_nonneg (by omega)]; omega)]⟩)
    n m (⟨#[]⟩ : ByteArray) (by have : ByteArray.size (⟨#[]⟩ : ByteArray) = 0 := rfl; omega) (by omega)
  have h0 : ByteArray.size (⟨#[]⟩ : ByteArray) = 0 := rfl
  have h9 : ByteArray.size (⟨#[109]⟩ : ByteArray) = 1 := rfl
  exact ⟨_, hr.trans (if_pos (decide_eq_true (by rw [h9]; omega)))⟩
theorem laws_markGateTeamS_el (n : Nat) (hn : Big n) {R1 : Type} (cs1 : Conts R1 laws_markGateTeamS.l2.outs) : ElOk1 tGateTeam (laws_markGateTeamS.B2 n (R := R1)) cs1 := by
  intro x k hk hw
  simp only [wt_pair, wt_unit, wt_int, wt_bool, wt_str] at hw
  obtain ⟨t1, m1⟩ := laws_markText_ok n hn k (by omega) (by omega)
  obtain ⟨t2, m2⟩ := laws_markText_ok n hn (k + 1) (by omega) (by omega)
  refine ⟨(t1, (t2, x.2.2)), ((k + 1) + 1), by omega, by simp only [wt_pair, wt_unit, wt_int, wt_bool, wt_str]; omega, fun next l i hi hl hx => ?_⟩
  · simp (disch := omega) only [laws_markGateTeamS.B2, m1, m2, wrapM, lt_dec hi, in_dec hi, Int.toNat_natCast, List.length_set, getD_set_at hi, List.set_set, hx, Option.bind_some, Bool.or_true, Bool.not_true, Bool.not_false, bne_self_eq_false, beq_self_eq_true, seq_same, Bool.false_eq_true, if_true, if_false, show ((3 : Int) != 0) = true from rfl, Bool.true_and, Bool.and_true]
theorem laws_markGateTeamS_ok (n : Nat) (hn : Big n) (x : Ty.den (.slice tGateTeam)) (k : Int) (hk : 1 ≤ k) (hw : k + wt (.slice tGateTeam) x ≤ 4611686018427387904) : ∃ (s1 : Ty.den (.slice tGateTeam)) (k' : Int), k ≤ k' ∧ k' ≤ k + wt (.slice tGateTeam) x ∧ laws_markGateTeamS.f n x (k, ()) = some (s1, k', ()) :=
  markS1_ok hn (laws_markGateTeamS_el n hn _) (fun next l k => by simp only [laws_markGateTeamS.B2, lt_dec', Bool.false_eq_true, if_false]) x k hk hw
theorem laws_markGateTeamS_ok1 (n : Nat) (hn : Big n) (x : Ty.den (.slice tGateTeam)) (k : Int) (hk : 1 ≤ k) (hw : k + wt (.slice tGateTeam) x ≤ 4611686018427387904) : ∃ (s1 : Ty.den (.slice tGateTeam)) (k' : Int), k ≤ k' ∧ k' ≤ k + wt (.slice tGateTeam) x ∧ laws_markGateTeamS.f n x (k, ()) = some (s1, k', ()) :=
  laws_markGateTeamS_ok n hn x k hk hw
theorem laws_markIntS_el (n : Nat) (hn : Big n) {R1 R2 : Type} (cs1 : Conts R1 laws_markIntS.l2.outs) (cs2 : Conts R2 laws_heldIntS.l2.outs) : ElOk (.int .i64) (laws_markIntS.B2 n (R := R1)) cs1 (laws_heldIntS.B2 n (R := R2)) cs2 := by
  intro x k hk hw
  simp only [wt_pair, wt_unit, wt_int, wt_bool, wt_str] at hw
  refine ⟨k, (k + 1), by omega, by simp only [wt_pair, wt_unit, wt_int, wt_bool, wt_str]; omega, fun next l i hi hl hx => ?_, fun next l i hi hl hx => ?_⟩
  · simp (disch := omega) only [laws_markIntS.B2, wrapM, lt_dec hi, in_dec hi, Int.toNat_natCast, List.length_set, getD_set_at hi, List.set_set, hx, Option.bind_some, Bool.or_true, Bool.not_true, Bool.not_false, bne_self_eq_false, beq_self_eq_true, seq_same, Bool.false_eq_true, if_true, if_false, show ((3 : Int) != 0) = true from rfl, Bool.true_and, Bool.and_true]
  · simp (disch := omega) only [laws_heldIntS.B2, wrapM, lt_dec hi, in_dec hi, Int.toNat_natCast, List.length_set, getD_set_at hi, List.set_set, hx, Option.bind_some, Bool.or_true, Bool.not_true, Bool.not_false, bne_self_eq_false, beq_self_eq_true, seq_same, Bool.false_eq_true, if_true, if_false, show ((3 : Int) != 0) = true from rfl, Bool.true_and, Bool.and_true]
theorem laws_markIntS_ok (n : Nat) (hn : Big n) (x : Ty.den (.slice (.int .i64))) (k : Int) (hk : 1 ≤ k) (hw : k + wt (.slice (.int .i64)) x ≤ 4611686018427387904) : ∃ (s1 : Ty.den (.slice (.int .i64))) (k' : Int), k ≤ k' ∧ k' ≤ k + wt (.slice (.int .i64)) x ∧ laws_markIntS.f n x (k, ()) = some (s1, k', ()) ∧ laws_heldIntS.f n (s1, k, ()) = some (k', ()) :=
  markS_ok hn (laws_markIntS_el n hn _ _) (fun next l k => by simp only [laws_markIntS.B2, lt_dec', Bool.false_eq_true, if_false]) (fun next l k => by simp only [laws_heldIntS.B2, lt_dec', Bool.false_eq_true, if_false]) x k hk hw
theorem laws_markIntS_ok1 (n : Nat) (hn : Big n) (x : Ty.den (.slice (.int .i64))) (k : Int) (hk : 1 ≤ k) (hw : k + wt (.slice (.int .i64)) x ≤ 4611686018427387904) : ∃ (s1 : Ty.den (.slice (.int .i64))) (k' : Int), k ≤ k' ∧ k' ≤ k + wt (.slice (.int .i64)) x ∧ laws_markIntS.f n x (k, ()) = some (s1, k', ()) := by
  obtain ⟨s1, k1, p, q, m, _⟩ := laws_markIntS_ok n hn x k hk hw
  exact ⟨s1, k1, p, q, m⟩
theorem laws_markGateGrantS_el (n : Nat) (hn : Big n) {R1 R2 : Type} (cs1 : Conts R1 laws_markGateGrantS.l2.outs) (cs2 : Conts R2 laws_heldGateGrantS.l2.outs) : ElOk tGateGrant (laws_markGateGrantS.B2 n (R := R1)) cs1 (laws_heldGateGrantS.B2 n (R := R2)) cs2 := by
  intro x k hk hw
  simp only [wt_pair, wt_unit, wt_int, wt_bool, wt_str] at hw
  obtain ⟨t1, m1⟩ := laws_markText_ok n hn (k + 1) (by omega) (by omega)
  obtain ⟨t2, m2⟩ := laws_markText_ok n hn ((k + 1) + 1) (by omega) (by omega)
  obtain ⟨t3, k3, p3, q3, m3, h3⟩ := laws_markIntS_ok n hn x.2.2.2.1.1 (((k + 1) + 1) + 1) (by omega) (by omega)
  have d3 : decide (k3 < (0 : Int)) = false := decide_eq_false (by omega)
  obtain ⟨t4, m4⟩ := laws_markText_ok n hn k3 (by omega) (by omega)
  obtain ⟨t5, m5⟩ := laws_markText_ok n hn (k3 + 1) (by omega) (by omega)
  obtain ⟨t6, m6⟩ := laws_markText_ok n hn ((k3 + 1) + 1) (by omega) (by omega)
  refine ⟨(k, (t1, (t2, ((t3, (t4, (t5, (t6, x.2.2.2.1.2.2.2.2)))), x.2.2.2.2)))), (((k3 + 1) + 1) + 1), by omega, by simp only [wt_pair, wt_unit, wt_int, wt_bool, wt_str]; omega, fun next l i hi hl hx => ?_, fun next l i hi hl hx => ?_⟩
  · simp (disch := omega) only [laws_markGateGrantS.B2, m1, m2, m3, m4, m5, m6, wrapM, lt_dec hi, in_dec hi, Int.toNat_natCast, List.length_set, getD_set_at hi, List.set_set, hx, Option.bind_some, Bool.or_true, Bool.not_true, Bool.not_false, bne_self_eq_false, beq_self_eq_true, seq_same, Bool.false_eq_true, if_true, if_false, show ((3 : Int) != 0) = true from rfl, Bool.true_and, Bool.and_true]
  · simp (disch := omega) only [laws_heldGateGrantS.B2, m1, m2, h3, m4, m5, m6, d3, wrapM, lt_dec hi, in_dec hi, Int.toNat_natCast, List.length_set, getD_set_at hi, List.set_set, hx, Option.bind_some, Bool.or_true, Bool.not_true, Bool.not_false, bne_self_eq_false, beq_self_eq_true, seq_same, Bool.false_eq_true, if_true, if_false, show ((3 : Int) != 0) = true from rfl, Bool.true_and, Bool.and_true]
theorem laws_markGateGrantS_ok (n : Nat) (hn : Big n) (x : Ty.den (.slice tGateGrant)) (k : Int) (hk : 1 ≤ k) (hw : k + wt (.slice tGateGrant) x ≤ 4611686018427387904) : ∃ (s1 : Ty.den (.slice tGateGrant)) (k' : Int), k ≤ k' ∧ k' ≤ k + wt (.slice tGateGrant) x ∧ laws_markGateGrantS.f n x (k, ()) = some (s1, k', ()) ∧ laws_heldGateGrantS.f n (s1, k, ()) = some (k', ()) :=
  markS_ok hn (laws_markGateGrantS_el n hn _ _) (fun next l k => by simp only [laws_markGateGrantS.B2, lt_dec', Bool.false_eq_true, if_false]) (fun next l k => by simp only [laws_heldGateGrantS.B2, lt_dec', Bool.false_eq_true, if_false]) x k hk hw
theorem laws_markGateGrantS_ok1 (n : Nat) (hn : Big n) (x : Ty.den (.slice tGateGrant)) (k : Int) (hk : 1 ≤ k) (hw : k + wt (.slice tGateGrant) x ≤ 4611686018427387904) : ∃ (s1 : Ty.den (.slice tGateGrant)) (k' : Int), k ≤ k' ∧ k' ≤ k + wt (.slice tGateGrant) x ∧ laws_markGateGrantS.f n x (k, ()) = some (s1, k', ()) := by
  obtain ⟨s1, k1, p, q, m, _⟩ := laws_markGateGrantS_ok n hn x k hk hw
  exact ⟨s1, k1, p, q, m⟩
theorem laws_markHallHouse_ok (n : Nat) (hn : Big n) (x : Ty.den tHallHouse) (k : Int) (hk : 1 ≤ k) (hw : k + wt tHallHouse x ≤ 4611686018427387904) : ∃ (s1 : Ty.den (.slice tGateTeam)) (s2 : Ty.den (.slice tGateGrant)) (k' : Int), k ≤ k' ∧ k' ≤ k + wt tHallHouse x ∧ laws_markHallHouse.f n x (k, ()) = some ((s1, (s2, x.2.2)), k', ()) := by
  have hw0 := hw
  simp only [wt_pair, wt_unit, wt_int, wt_bool, wt_str] at hw
  obtain ⟨s1, k1, p1, q1, m1⟩ := laws_markGateTeamS_ok n hn x.1 k (by omega) (by first | omega | (simp only [wt_pair, wt_unit, wt_int, wt_bool, wt_str]; omega))
  try simp only [wt_pair, wt_unit, wt_int, wt_bool, wt_str] at q1
  obtain ⟨s2, k2, p2, q2, m2⟩ := laws_markGateGrantS_ok n hn x.2.1 k1 (by omega) (by first | omega | (simp only [wt_pair, wt_unit, wt_int, wt_bool, wt_str]; omega))
  try simp only [wt_pair, wt_unit, wt_int, wt_bool, wt_str] at q2
  refine ⟨s1, s2, k2, by omega, by first | omega | (simp only [wt_pair, wt_unit, wt_int, wt_bool, wt_str]; omega), by simp only [laws_markHallHouse.f, m1, m2, Option.bind_some]⟩
theorem laws_markHallHouse_ok1 (n : Nat) (hn : Big n) (x : Ty.den tHallHouse) (k : Int) (hk : 1 ≤ k) (hw : k + wt tHallHouse x ≤ 4611686018427387904) : ∃ (s1 : Ty.den (.slice tGateTeam)) (s2 : Ty.den (.slice tGateGrant)) (k' : Int), k ≤ k' ∧ k' ≤ k + wt tHallHouse x ∧ laws_markHallHouse.f n x (k, ()) = some ((s1, (s2, x.2.2)), k', ()) :=
  laws_markHallHouse_ok n hn x k hk hw
theorem laws_markStringS_el (n : Nat) (hn : Big n) {R1 R2 : Type} (cs1 : Conts R1 laws_markStringS.l2.outs) (cs2 : Conts R2 laws_heldStringS.l2.outs) : ElOk .str (laws_markStringS.B2 n (R := R1)) cs1 (laws_heldStringS.B2 n (R := R2)) cs2 := by
  intro x k hk hw
  simp only [wt_pair, wt_unit, wt_int, wt_bool, wt_str] at hw
  obtain ⟨t1, m1⟩ := laws_markText_ok n hn k (by omega) (by omega)
  refine ⟨t1, (k + 1), by omega, by simp only [wt_pair, wt_unit, wt_int, wt_bool, wt_str]; omega, fun next l i hi hl hx => ?_, fun next l i hi hl hx => ?_⟩
  · simp (disch := omega) only [laws_markStringS.B2, m1, wrapM, lt_dec hi, in_dec hi, Int.toNat_natCast, List.length_set, getD_set_at hi, List.set_set, hx, Option.bind_some, Bool.or_true, Bool.not_true, Bool.not_false, bne_self_eq_false, beq_self_eq_true, seq_same, Bool.false_eq_true, if_true, if_false, show ((3 : Int) != 0) = true from rfl, Bool.true_and, Bool.and_true]
  · simp (disch := omega) only [laws_heldStringS.B2, m1, wrapM, lt_dec hi, in_dec hi, Int.toNat_natCast, List.length_set, getD_set_at hi, List.set_set, hx, Option.bind_some, Bool.or_true, Bool.not_true, Bool.not_false, bne_self_eq_false, beq_self_eq_true, seq_same, Bool.false_eq_true, if_true, if_false, show ((3 : Int) != 0) = true from rfl, Bool.true_and, Bool.and_true]
theorem laws_markStringS_ok (n : Nat) (hn : Big n) (x : Ty.den (.slice .str)) (k : Int) (hk : 1 ≤ k) (hw : k + wt (.slice .str) x ≤ 4611686018427387904) : ∃ (s1 : Ty.den (.slice .str)) (k' : Int), k ≤ k' ∧ k' ≤ k + wt (.slice .str) x ∧ laws_markStringS.f n x (k, ()) = some (s1, k', ()) ∧ laws_heldStringS.f n (s1, k, ()) = some (k', ()) :=
  markS_ok hn (laws_markStringS_el n hn _ _) (fun next l k => by simp only [laws_markStringS.B2, lt_dec', Bool.false_eq_true, if_false]) (fun next l k => by simp only [laws_heldStringS.B2, lt_dec', Bool.false_eq_true, if_false]) x k hk hw
theorem laws_markStringS_ok1 (n : Nat) (hn : Big n) (x : Ty.den (.slice .str)) (k : Int) (hk : 1 ≤ k) (hw : k + wt (.slice .str) x ≤ 4611686018427387904) : ∃ (s1 : Ty.den (.slice .str)) (k' : Int), k ≤ k' ∧ k' ≤ k + wt (.slice .str) x ∧ laws_markStringS.f n x (k, ()) = some (s1, k', ()) := by
  obtain ⟨s1, k1, p, q, m, _⟩ := laws_markStringS_ok n hn x k hk hw
  exact ⟨s1, k1, p, q, m⟩
theorem laws_markGateObjectS_el (n : Nat) (hn : Big n) {R1 R2 : Type} (cs1 : Conts R1 laws_markGateObjectS.l2.outs) (cs2 : Conts R2 laws_heldGateObjectS.l2.outs) : ElOk tGateObject (laws_markGateObjectS.B2 n (R := R1)) cs1 (laws_heldGateObjectS.B2 n (R := R2)) cs2 := by
  intro x k hk hw
  simp only [wt_pair, wt_unit, wt_int, wt_bool, wt_str] at hw
  obtain ⟨t1, m1⟩ := laws_markText_ok n hn k (by omega) (by omega)
  obtain ⟨t2, m2⟩ := laws_markText_ok n hn (k + 1) (by omega) (by omega)
  obtain ⟨t3, m3⟩ := laws_markText_ok n hn ((k + 1) + 1) (by omega) (by omega)
  obtain ⟨t4, k4, p4, q4, m4, h4⟩ := laws_markStringS_ok n hn x.2.2.2.1 (((k + 1) + 1) + 1) (by omega) (by omega)
  have d4 : decide (k4 < (0 : Int)) = false := decide_eq_false (by omega)
  obtain ⟨t5, k5, p5, q5, m5, h5⟩ := laws_markStringS_ok n hn x.2.2.2.2.2.1 (k4 + 1) (by omega) (by omega)
  have d5 : decide (k5 < (0 : Int)) = false := decide_eq_false (by omega)
  refine ⟨(t1, (t2, (t3, (t4, ((Int.tmod k4 (3 : Int) == (0 : Int)), (t5, (k5, x.2.2.2.2.2.2.2))))))), (k5 + 1), by omega, by simp only [wt_pair, wt_unit, wt_int, wt_bool, wt_str]; omega, fun next l i hi hl hx => ?_, fun next l i hi hl hx => ?_⟩
  · simp (disch := omega) only [laws_markGateObjectS.B2, m1, m2, m3, m4, m5, wrapM, lt_dec hi, in_dec hi, Int.toNat_natCast, List.length_set, getD_set_at hi, List.set_set, hx, Option.bind_some, Bool.or_true, Bool.not_true, Bool.not_false, bne_self_eq_false, beq_self_eq_true, seq_same, Bool.false_eq_true, if_true, if_false, show ((3 : Int) != 0) = true from rfl, Bool.true_and, Bool.and_true]
  · simp (disch := omega) only [laws_heldGateObjectS.B2, m1, m2, m3, h4, h5, d4, d5, wrapM, lt_dec hi, in_dec hi, Int.toNat_natCast, List.length_set, getD_set_at hi, List.set_set, hx, Option.bind_some, Bool.or_true, Bool.not_true, Bool.not_false, bne_self_eq_false, beq_self_eq_true, seq_same, Bool.false_eq_true, if_true, if_false, show ((3 : Int) != 0) = true from rfl, Bool.true_and, Bool.and_true]
theorem laws_markGateObjectS_ok (n : Nat) (hn : Big n) (x : Ty.den (.slice tGateObject)) (k : Int) (hk : 1 ≤ k) (hw : k + wt (.slice tGateObject) x ≤ 4611686018427387904) : ∃ (s1 : Ty.den (.slice tGateObject)) (k' : Int), k ≤ k' ∧ k' ≤ k + wt (.slice tGateObject) x ∧ laws_markGateObjectS.f n x (k, ()) = some (s1, k', ()) ∧ laws_heldGateObjectS.f n (s1, k, ()) = some (k', ()) :=
  markS_ok hn (laws_markGateObjectS_el n hn _ _) (fun next l k => by simp only [laws_markGateObjectS.B2, lt_dec', Bool.false_eq_true, if_false]) (fun next l k => by simp only [laws_heldGateObjectS.B2, lt_dec', Bool.false_eq_true, if_false]) x k hk hw
theorem laws_markGateObjectS_ok1 (n : Nat) (hn : Big n) (x : Ty.den (.slice tGateObject)) (k : Int) (hk : 1 ≤ k) (hw : k + wt (.slice tGateObject) x ≤ 4611686018427387904) : ∃ (s1 : Ty.den (.slice tGateObject)) (k' : Int), k ≤ k' ∧ k' ≤ k + wt (.slice tGateObject) x ∧ laws_markGateObjectS.f n x (k, ()) = some (s1, k', ()) := by
  obtain ⟨s1, k1, p, q, m, _⟩ := laws_markGateObjectS_ok n hn x k hk hw
  exact ⟨s1, k1, p, q, m⟩
theorem laws_markGateLedgerS_el (n : Nat) (hn : Big n) {R1 R2 : Type} (cs1 : Conts R1 laws_markGateLedgerS.l2.outs) (cs2 : Conts R2 laws_heldGateLedgerS.l2.outs) : ElOk tGateLedger (laws_markGateLedgerS.B2 n (R := R1)) cs1 (laws_heldGateLedgerS.B2 n (R := R2)) cs2 := by
  intro x k hk hw
  simp only [wt_pair, wt_unit, wt_int, wt_bool, wt_str] at hw
  obtain ⟨t1, m1⟩ := laws_markText_ok n hn k (by omega) (by omega)
  obtain ⟨t2, m2⟩ := laws_markText_ok n hn (k + 1) (by omega) (by omega)
  refine ⟨(t1, (t2, (((k + 1) + 1), ((((k + 1) + 1) + 1), x.2.2.2.2)))), ((((k + 1) + 1) + 1) + 1), by omega, by simp only [wt_pair, wt_unit, wt_int, wt_bool, wt_str]; omega, fun next l i hi hl hx => ?_, fun next l i hi hl hx => ?_⟩
  · simp (disch := omega) only [laws_markGateLedgerS.B2, m1, m2, wrapM, lt_dec hi, in_dec hi, Int.toNat_natCast, List.length_set, getD_set_at hi, List.set_set, hx, Option.bind_some, Bool.or_true, Bool.not_true, Bool.not_false, bne_self_eq_false, beq_self_eq_true, seq_same, Bool.false_eq_true, if_true, if_false, show ((3 : Int) != 0) = true from rfl, Bool.true_and, Bool.and_true]
  · simp (disch := omega) only [laws_heldGateLedgerS.B2, m1, m2, wrapM, lt_dec hi, in_dec hi, Int.toNat_natCast, List.length_set, getD_set_at hi, List.set_set, hx, Option.bind_some, Bool.or_true, Bool.not_true, Bool.not_false, bne_self_eq_false, beq_self_eq_true, seq_same, Bool.false_eq_true, if_true, if_false, show ((3 : Int) != 0) = true from rfl, Bool.true_and, Bool.and_true]
theorem laws_markGateLedgerS_ok (n : Nat) (hn : Big n) (x : Ty.den (.slice tGateLedger)) (k : Int) (hk : 1 ≤ k) (hw : k + wt (.slice tGateLedger) x ≤ 4611686018427387904) : ∃ (s1 : Ty.den (.slice tGateLedger)) (k' : Int), k ≤ k' ∧ k' ≤ k + wt (.slice tGateLedger) x ∧ laws_markGateLedgerS.f n x (k, ()) = some (s1, k', ()) ∧ laws_heldGateLedgerS.f n (s1, k, ()) = some (k', ()) :=
  markS_ok hn (laws_markGateLedgerS_el n hn _ _) (fun next l k => by simp only [laws_markGateLedgerS.B2, lt_dec', Bool.false_eq_true, if_false]) (fun next l k => by simp only [laws_heldGateLedgerS.B2, lt_dec', Bool.false_eq_true, if_false]) x k hk hw
theorem laws_markGateLedgerS_ok1 (n : Nat) (hn : Big n) (x : Ty.den (.slice tGateLedger)) (k : Int) (hk : 1 ≤ k) (hw : k + wt (.slice tGateLedger) x ≤ 4611686018427387904) : ∃ (s1 : Ty.den (.slice tGateLedger)) (k' : Int), k ≤ k' ∧ k' ≤ k + wt (.slice tGateLedger) x ∧ laws_markGateLedgerS.f n x (k, ()) = some (s1, k', ()) := by
  obtain ⟨s1, k1, p, q, m, _⟩ := laws_markGateLedgerS_ok n hn x k hk hw
  exact ⟨s1, k1, p, q, m⟩
theorem laws_markGatePurseS_el (n : Nat) (hn : Big n) {R1 R2 : Type} (cs1 : Conts R1 laws_markGatePurseS.l2.outs) (cs2 : Conts R2 laws_heldGatePurseS.l2.outs) : ElOk tGatePurse (laws_markGatePurseS.B2 n (R := R1)) cs1 (laws_heldGatePurseS.B2 n (R := R2)) cs2 := by
  intro x k hk hw
  simp only [wt_pair, wt_unit, wt_int, wt_bool, wt_str] at hw
  obtain ⟨t1, m1⟩ := laws_markText_ok n hn k (by omega) (by omega)
  obtain ⟨t2, m2⟩ := laws_markText_ok n hn (k + 1) (by omega) (by omega)
  obtain ⟨t3, m3⟩ := laws_markText_ok n hn ((k + 1) + 1) (by omega) (by omega)
  refine ⟨(t1, (t2, (t3, ((((k + 1) + 1) + 1), (((((k + 1) + 1) + 1) + 1), x.2.2.2.2.2))))), (((((k + 1) + 1) + 1) + 1) + 1), by omega, by simp only [wt_pair, wt_unit, wt_int, wt_bool, wt_str]; omega, fun next l i hi hl hx => ?_, fun next l i hi hl hx => ?_⟩
  · simp (disch := omega) only [laws_markGatePurseS.B2, m1, m2, m3, wrapM, lt_dec hi, in_dec hi, Int.toNat_natCast, List.length_set, getD_set_at hi, List.set_set, hx, Option.bind_some, Bool.or_true, Bool.not_true, Bool.not_false, bne_self_eq_false, beq_self_eq_true, seq_same, Bool.false_eq_true, if_true, if_false, show ((3 : Int) != 0) = true from rfl, Bool.true_and, Bool.and_true]
  · simp (disch := omega) only [laws_heldGatePurseS.B2, m1, m2, m3, wrapM, lt_dec hi, in_dec hi, Int.toNat_natCast, List.length_set, getD_set_at hi, List.set_set, hx, Option.bind_some, Bool.or_true, Bool.not_true, Bool.not_false, bne_self_eq_false, beq_self_eq_true, seq_same, Bool.false_eq_true, if_true, if_false, show ((3 : Int) != 0) = true from rfl, Bool.true_and, Bool.and_true]
theorem laws_markGatePurseS_ok (n : Nat) (hn : Big n) (x : Ty.den (.slice tGatePurse)) (k : Int) (hk : 1 ≤ k) (hw : k + wt (.slice tGatePurse) x ≤ 4611686018427387904) : ∃ (s1 : Ty.den (.slice tGatePurse)) (k' : Int), k ≤ k' ∧ k' ≤ k + wt (.slice tGatePurse) x ∧ laws_markGatePurseS.f n x (k, ()) = some (s1, k', ()) ∧ laws_heldGatePurseS.f n (s1, k, ()) = some (k', ()) :=
  markS_ok hn (laws_markGatePurseS_el n hn _ _) (fun next l k => by simp only [laws_markGatePurseS.B2, lt_dec', Bool.false_eq_true, if_false]) (fun next l k => by simp only [laws_heldGatePurseS.B2, lt_dec', Bool.false_eq_true, if_false]) x k hk hw
theorem laws_markGatePurseS_ok1 (n : Nat) (hn : Big n) (x : Ty.den (.slice tGatePurse)) (k : Int) (hk : 1 ≤ k) (hw : k + wt (.slice tGatePurse) x ≤ 4611686018427387904) : ∃ (s1 : Ty.den (.slice tGatePurse)) (k' : Int), k ≤ k' ∧ k' ≤ k + wt (.slice tGatePurse) x ∧ laws_markGatePurseS.f n x (k, ()) = some (s1, k', ()) := by
  obtain ⟨s1, k1, p, q, m, _⟩ := laws_markGatePurseS_ok n hn x k hk hw
  exact ⟨s1, k1, p, q, m⟩
theorem laws_markGateBook_ok (n : Nat) (hn : Big n) (x : Ty.den tGateBook) (k : Int) (hk : 1 ≤ k) (hw : k + wt tGateBook x ≤ 4611686018427387904) : ∃ (s1 : Ty.den (.slice tGateObject)) (s2 : Ty.den (.slice tGateGrant)) (s3 : Ty.den (.slice tGateLedger)) (s4 : Ty.den (.slice tGatePurse)) (k' : Int), k ≤ k' ∧ k' ≤ k + wt tGateBook x ∧ laws_markGateBook.f n x (k, ()) = some ((x.1, (x.2.1, (x.2.2.1, (s1, (s2, (s3, (s4, x.2.2.2.2.2.2.2))))))), k', ()) ∧ laws_heldGateBook.f n ((x.1, (x.2.1, (x.2.2.1, (s1, (s2, (s3, (s4, x.2.2.2.2.2.2.2))))))), k, ()) = some (k', ()) := by
  have hw0 := hw
  simp only [wt_pair, wt_unit, wt_int, wt_bool, wt_str] at hw
  obtain ⟨s1, k1, p1, q1, m1, h1⟩ := laws_markGateObjectS_ok n hn x.2.2.2.1 k (by omega) (by first | omega | (simp only [wt_pair, wt_unit, wt_int, wt_bool, wt_str]; omega))
  try simp only [wt_pair, wt_unit, wt_int, wt_bool, wt_str] at q1
  have d1 : decide (k1 < (0 : Int)) = false := decide_eq_false (by omega)
  obtain ⟨s2, k2, p2, q2, m2, h2⟩ := laws_markGateGrantS_ok n hn x.2.2.2.2.1 k1 (by omega) (by first | omega | (simp only [wt_pair, wt_unit, wt_int, wt_bool, wt_str]; omega))
  try simp only [wt_pair, wt_unit, wt_int, wt_bool, wt_str] at q2
  have d2 : decide (k2 < (0 : Int)) = false := decide_eq_false (by omega)
  obtain ⟨s3, k3, p3, q3, m3, h3⟩ := laws_markGateLedgerS_ok n hn x.2.2.2.2.2.1 k2 (by omega) (by first | omega | (simp only [wt_pair, wt_unit, wt_int, wt_bool, wt_str]; omega))
  try simp only [wt_pair, wt_unit, wt_int, wt_bool, wt_str] at q3
  have d3 : decide (k3 < (0 : Int)) = false := decide_eq_false (by omega)
  obtain ⟨s4, k4, p4, q4, m4, h4⟩ := laws_markGatePurseS_ok n hn x.2.2.2.2.2.2.1 k3 (by omega) (by first | omega | (simp only [wt_pair, wt_unit, wt_int, wt_bool, wt_str]; omega))
  try simp only [wt_pair, wt_unit, wt_int, wt_bool, wt_str] at q4
  have d4 : decide (k4 < (0 : Int)) = false := decide_eq_false (by omega)
  refine ⟨s1, s2, s3, s4, k4, by omega, by first | omega | (simp only [wt_pair, wt_unit, wt_int, wt_bool, wt_str]; omega), by simp only [laws_markGateBook.f, m1, m2, m3, m4, Option.bind_some], by simp only [laws_heldGateBook.f, h1, h2, h3, h4, d1, d2, d3, d4, Option.bind_some, Bool.false_eq_true, if_false]⟩
theorem laws_markGateBook_ok1 (n : Nat) (hn : Big n) (x : Ty.den tGateBook) (k : Int) (hk : 1 ≤ k) (hw : k + wt tGateBook x ≤ 4611686018427387904) : ∃ (s1 : Ty.den (.slice tGateObject)) (s2 : Ty.den (.slice tGateGrant)) (s3 : Ty.den (.slice tGateLedger)) (s4 : Ty.den (.slice tGatePurse)) (k' : Int), k ≤ k' ∧ k' ≤ k + wt tGateBook x ∧ laws_markGateBook.f n x (k, ()) = some ((x.1, (x.2.1, (x.2.2.1, (s1, (s2, (s3, (s4, x.2.2.2.2.2.2.2))))))), k', ()) := by
  obtain ⟨s1, s2, s3, s4, k1, p, q, m, _⟩ := laws_markGateBook_ok n hn x k hk hw
  exact ⟨s1, s2, s3, s4, k1, p, q, m⟩
set_option maxHeartbeats 4000000 in
theorem laws_markStewServiceS_el (n : Nat) (hn : Big n) {R1 R2 : Type} (cs1 : Conts R1 laws_markStewServiceS.l2.outs) (cs2 : Conts R2 laws_heldStewServiceS.l2.outs) : ElOk tStewService (laws_markStewServiceS.B2 n (R := R1)) cs1 (laws_heldStewServiceS.B2 n (R := R2)) cs2 := by
  intro x k hk hw
  simp only [wt_pair, wt_unit, wt_int, wt_bool, wt_str] at hw
  obtain ⟨t1, m1⟩ := laws_markText_ok n hn k (by omega) (by omega)
  refine ⟨(t1, ((k + 1), ((Int.tmod ((k + 1) + 1) (3 : Int) == (0 : Int)), ((((k + 1) + 1) + 1), (((((k + 1) + 1) + 1) + 1), ((((((k + 1) + 1) + 1) + 1) + 1), (((((((k + 1) + 1) + 1) + 1) + 1) + 1), ((((((((k + 1) + 1) + 1) + 1) + 1) + 1) + 1), (((((((((k + 1) + 1) + 1) + 1) + 1) + 1) + 1) + 1), ((((((((((k + 1) + 1) + 1) + 1) + 1) + 1) + 1) + 1) + 1), (((((((((((k + 1) + 1) + 1) + 1) + 1) + 1) + 1) + 1) + 1) + 1), ((((((((((((k + 1) + 1) + 1) + 1) + 1) + 1) + 1) + 1) + 1) + 1) + 1), (((((((((((((k + 1) + 1) + 1) + 1) + 1) + 1) + 1) + 1) + 1) + 1) + 1) + 1), x.2.2.2.2.2.2.2.2.2.2.2.2.2))))))))))))), (((((((((((((k + 1) + 1) + 1) + 1) + 1) + 1) + 1) + 1) + 1) + 1) + 1) + 1) + 1), by omega, by simp only [wt_pair, wt_unit, wt_int, wt_bool, wt_str]; omega, fun next l i hi hl hx => ?_, fun next l i hi hl hx => ?_⟩
  · simp (disch := omega) only [laws_markStewServiceS.B2, m1, wrapM, lt_dec hi, in_dec hi, Int.toNat_natCast, List.length_set, getD_set_at hi, List.set_set, hx, Option.bind_some, Bool.or_true, Bool.not_true, Bool.not_false, bne_self_eq_false, beq_self_eq_true, seq_same, Bool.false_eq_true, if_true, if_false, show ((3 : Int) != 0) = true from rfl, Bool.true_and, Bool.and_true]
  · simp (disch := omega) only [laws_heldStewServiceS.B2, m1, wrapM, lt_dec hi, in_dec hi, Int.toNat_natCast, List.length_set, getD_set_at hi, List.set_set, hx, Option.bind_some, Bool.or_true, Bool.not_true, Bool.not_false, bne_self_eq_false, beq_self_eq_true, seq_same, Bool.false_eq_true, if_true, if_false, show ((3 : Int) != 0) = true from rfl, Bool.true_and, Bool.and_true]
theorem laws_markStewServiceS_ok (n : Nat) (hn : Big n) (x : Ty.den (.slice tStewService)) (k : Int) (hk : 1 ≤ k) (hw : k + wt (.slice tStewService) x ≤ 4611686018427387904) : ∃ (s1 : Ty.den (.slice tStewService)) (k' : Int), k ≤ k' ∧ k' ≤ k + wt (.slice tStewService) x ∧ laws_markStewServiceS.f n x (k, ()) = some (s1, k', ()) ∧ laws_heldStewServiceS.f n (s1, k, ()) = some (k', ()) :=
  markS_ok hn (laws_markStewServiceS_el n hn _ _) (fun next l k => by simp only [laws_markStewServiceS.B2, lt_dec', Bool.false_eq_true, if_false]) (fun next l k => by simp only [laws_heldStewServiceS.B2, lt_dec', Bool.false_eq_true, if_false]) x k hk hw
theorem laws_markStewServiceS_ok1 (n : Nat) (hn : Big n) (x : Ty.den (.slice tStewService)) (k : Int) (hk : 1 ≤ k) (hw : k + wt (.slice tStewService) x ≤ 4611686018427387904) : ∃ (s1 : Ty.den (.slice tStewService)) (k' : Int), k ≤ k' ∧ k' ≤ k + wt (.slice tStewService) x ∧ laws_markStewServiceS.f n x (k, ()) = some (s1, k', ()) := by
  obtain ⟨s1, k1, p, q, m, _⟩ := laws_markStewServiceS_ok n hn x k hk hw
  exact ⟨s1, k1, p, q, m⟩
theorem laws_markStewCopyS_el (n : Nat) (hn : Big n) {R1 R2 : Type} (cs1 : Conts R1 laws_markStewCopyS.l2.outs) (cs2 : Conts R2 laws_heldStewCopyS.l2.outs) : ElOk tStewCopy (laws_markStewCopyS.B2 n (R := R1)) cs1 (laws_heldStewCopyS.B2 n (R := R2)) cs2 := by
  intro x k hk hw
  simp only [wt_pair, wt_unit, wt_int, wt_bool, wt_str] at hw
  obtain ⟨t1, m1⟩ := laws_markText_ok n hn k (by omega) (by omega)
  obtain ⟨t2, m2⟩ := laws_markText_ok n hn ((((((k + 1) + 1) + 1) + 1) + 1) + 1) (by omega) (by omega)
  refine ⟨(t1, ((k + 1), (((k + 1) + 1), ((((k + 1) + 1) + 1), (((((k + 1) + 1) + 1) + 1), ((Int.tmod (((((k + 1) + 1) + 1) + 1) + 1) (3 : Int) == (0 : Int)), (t2, x.2.2.2.2.2.2.2))))))), (((((((k + 1) + 1) + 1) + 1) + 1) + 1) + 1), by omega, by simp only [wt_pair, wt_unit, wt_int, wt_bool, wt_str]; omega, fun next l i hi hl hx => ?_, fun next l i hi hl hx => ?_⟩
  · simp (disch := omega) only [laws_markStewCopyS.B2, m1, m2, wrapM, lt_dec hi, in_dec hi, Int.toNat_natCast, List.length_set, getD_set_at hi, List.set_set, hx, Option.bind_some, Bool.or_true, Bool.not_true, Bool.not_false, bne_self_eq_false, beq_self_eq_true, seq_same, Bool.false_eq_true, if_true, if_false, show ((3 : Int) != 0) = true from rfl, Bool.true_and, Bool.and_true]
  · simp (disch := omega) only [laws_heldStewCopyS.B2, m1, m2, wrapM, lt_dec hi, in_dec hi, Int.toNat_natCast, List.length_set, getD_set_at hi, List.set_set, hx, Option.bind_some, Bool.or_true, Bool.not_true, Bool.not_false, bne_self_eq_false, beq_self_eq_true, seq_same, Bool.false_eq_true, if_true, if_false, show ((3 : Int) != 0) = true from rfl, Bool.true_and, Bool.and_true]
theorem laws_markStewCopyS_ok (n : Nat) (hn : Big n) (x : Ty.den (.slice tStewCopy)) (k : Int) (hk : 1 ≤ k) (hw : k + wt (.slice tStewCopy) x ≤ 4611686018427387904) : ∃ (s1 : Ty.den (.slice tStewCopy)) (k' : Int), k ≤ k' ∧ k' ≤ k + wt (.slice tStewCopy) x ∧ laws_markStewCopyS.f n x (k, ()) = some (s1, k', ()) ∧ laws_heldStewCopyS.f n (s1, k, ()) = some (k', ()) :=
  markS_ok hn (laws_markStewCopyS_el n hn _ _) (fun next l k => by simp only [laws_markStewCopyS.B2, lt_dec', Bool.false_eq_true, if_false]) (fun next l k => by simp only [laws_heldStewCopyS.B2, lt_dec', Bool.false_eq_true, if_false]) x k hk hw
theorem laws_markStewCopyS_ok1 (n : Nat) (hn : Big n) (x : Ty.den (.slice tStewCopy)) (k : Int) (hk : 1 ≤ k) (hw : k + wt (.slice tStewCopy) x ≤ 4611686018427387904) : ∃ (s1 : Ty.den (.slice tStewCopy)) (k' : Int), k ≤ k' ∧ k' ≤ k + wt (.slice tStewCopy) x ∧ laws_markStewCopyS.f n x (k, ()) = some (s1, k', ()) := by
  obtain ⟨s1, k1, p, q, m, _⟩ := laws_markStewCopyS_ok n hn x k hk hw
  exact ⟨s1, k1, p, q, m⟩
theorem laws_markStewBerthS_el (n : Nat) (hn : Big n) {R1 R2 : Type} (cs1 : Conts R1 laws_markStewBerthS.l2.outs) (cs2 : Conts R2 laws_heldStewBerthS.l2.outs) : ElOk tStewBerth (laws_markStewBerthS.B2 n (R := R1)) cs1 (laws_heldStewBerthS.B2 n (R := R2)) cs2 := by
  intro x k hk hw
  simp only [wt_pair, wt_unit, wt_int, wt_bool, wt_str] at hw
  obtain ⟨t1, m1⟩ := laws_markText_ok n hn k (by omega) (by omega)
  refine ⟨(t1, ((Int.tmod (k + 1) (3 : Int) == (0 : Int)), x.2.2)), ((k + 1) + 1), by omega, by simp only [wt_pair, wt_unit, wt_int, wt_bool, wt_str]; omega, fun next l i hi hl hx => ?_, fun next l i hi hl hx => ?_⟩
  · simp (disch := omega) only [laws_markStewBerthS.B2, m1, wrapM, lt_dec hi, in_dec hi, Int.toNat_natCast, List.length_set, getD_set_at hi, List.set_set, hx, Option.bind_some, Bool.or_true, Bool.not_true, Bool.not_false, bne_self_eq_false, beq_self_eq_true, seq_same, Bool.false_eq_true, if_true, if_false, show ((3 : Int) != 0) = true from rfl, Bool.true_and, Bool.and_true]
  · simp (disch := omega) only [laws_heldStewBerthS.B2, m1, wrapM, lt_dec hi, in_dec hi, Int.toNat_natCast, List.length_set, getD_set_at hi, List.set_set, hx, Option.bind_some, Bool.or_true, Bool.not_true, Bool.not_false, bne_self_eq_false, beq_self_eq_true, seq_same, Bool.false_eq_true, if_true, if_false, show ((3 : Int) != 0) = true from rfl, Bool.true_and, Bool.and_true]
theorem laws_markStewBerthS_ok (n : Nat) (hn : Big n) (x : Ty.den (.slice tStewBerth)) (k : Int) (hk : 1 ≤ k) (hw : k + wt (.slice tStewBerth) x ≤ 4611686018427387904) : ∃ (s1 : Ty.den (.slice tStewBerth)) (k' : Int), k ≤ k' ∧ k' ≤ k + wt (.slice tStewBerth) x ∧ laws_markStewBerthS.f n x (k, ()) = some (s1, k', ()) ∧ laws_heldStewBerthS.f n (s1, k, ()) = some (k', ()) :=
  markS_ok hn (laws_markStewBerthS_el n hn _ _) (fun next l k => by simp only [laws_markStewBerthS.B2, lt_dec', Bool.false_eq_true, if_false]) (fun next l k => by simp only [laws_heldStewBerthS.B2, lt_dec', Bool.false_eq_true, if_false]) x k hk hw
theorem laws_markStewBerthS_ok1 (n : Nat) (hn : Big n) (x : Ty.den (.slice tStewBerth)) (k : Int) (hk : 1 ≤ k) (hw : k + wt (.slice tStewBerth) x ≤ 4611686018427387904) : ∃ (s1 : Ty.den (.slice tStewBerth)) (k' : Int), k ≤ k' ∧ k' ≤ k + wt (.slice tStewBerth) x ∧ laws_markStewBerthS.f n x (k, ()) = some (s1, k', ()) := by
  obtain ⟨s1, k1, p, q, m, _⟩ := laws_markStewBerthS_ok n hn x k hk hw
  exact ⟨s1, k1, p, q, m⟩
theorem laws_markStewBook_ok (n : Nat) (hn : Big n) (x : Ty.den tStewBook) (k : Int) (hk : 1 ≤ k) (hw : k + wt tStewBook x ≤ 4611686018427387904) : ∃ (s1 : Ty.den (.slice tStewService)) (s2 : Ty.den (.slice tStewCopy)) (s3 : Ty.den (.slice tStewBerth)) (k' : Int), k ≤ k' ∧ k' ≤ k + wt tStewBook x ∧ laws_markStewBook.f n x (k, ()) = some ((x.1, (s1, (s2, (s3, x.2.2.2.2)))), k', ()) ∧ laws_heldStewBook.f n ((x.1, (s1, (s2, (s3, x.2.2.2.2)))), k, ()) = some (k', ()) := by
  have hw0 := hw
  simp only [wt_pair, wt_unit, wt_int, wt_bool, wt_str] at hw
  obtain ⟨s1, k1, p1, q1, m1, h1⟩ := laws_markStewServiceS_ok n hn x.2.1 k (by omega) (by first | omega | (simp only [wt_pair, wt_unit, wt_int, wt_bool, wt_str]; omega))
  try simp only [wt_pair, wt_unit, wt_int, wt_bool, wt_str] at q1
  have d1 : decide (k1 < (0 : Int)) = false := decide_eq_false (by omega)
  obtain ⟨s2, k2, p2, q2, m2, h2⟩ := laws_markStewCopyS_ok n hn x.2.2.1 k1 (by omega) (by first | omega | (simp only [wt_pair, wt_unit, wt_int, wt_bool, wt_str]; omega))
  try simp only [wt_pair, wt_unit, wt_int, wt_bool, wt_str] at q2
  have d2 : decide (k2 < (0 : Int)) = false := decide_eq_false (by omega)
  obtain ⟨s3, k3, p3, q3, m3, h3⟩ := laws_markStewBerthS_ok n hn x.2.2.2.1 k2 (by omega) (by first | omega | (simp only [wt_pair, wt_unit, wt_int, wt_bool, wt_str]; omega))
  try simp only [wt_pair, wt_unit, wt_int, wt_bool, wt_str] at q3
  have d3 : decide (k3 < (0 : Int)) = false := decide_eq_false (by omega)
  refine ⟨s1, s2, s3, k3, by omega, by first | omega | (simp only [wt_pair, wt_unit, wt_int, wt_bool, wt_str]; omega), by simp only [laws_markStewBook.f, m1, m2, m3, Option.bind_some], by simp only [laws_heldStewBook.f, h1, h2, h3, d1, d2, d3, Option.bind_some, Bool.false_eq_true, if_false]⟩
theorem laws_markStewBook_ok1 (n : Nat) (hn : Big n) (x : Ty.den tStewBook) (k : Int) (hk : 1 ≤ k) (hw : k + wt tStewBook x ≤ 4611686018427387904) : ∃ (s1 : Ty.den (.slice tStewService)) (s2 : Ty.den (.slice tStewCopy)) (s3 : Ty.den (.slice tStewBerth)) (k' : Int), k ≤ k' ∧ k' ≤ k + wt tStewBook x ∧ laws_markStewBook.f n x (k, ()) = some ((x.1, (s1, (s2, (s3, x.2.2.2.2)))), k', ()) := by
  obtain ⟨s1, s2, s3, k1, p, q, m, _⟩ := laws_markStewBook_ok n hn x k hk hw
  exact ⟨s1, s2, s3, k1, p, q, m⟩
theorem laws_markHallBook_ok (n : Nat) (hn : Big n) (x : Ty.den tHallBook) (k : Int) (hk : 1 ≤ k) (hw : k + wt tHallBook x ≤ 4611686018427387904) : ∃ (s1 : Ty.den (.slice tGateObject)) (s2 : Ty.den (.slice tGateGrant)) (s3 : Ty.den (.slice tGateLedger)) (s4 : Ty.den (.slice tGatePurse)) (s5 : Ty.den (.slice tStewService)) (s6 : Ty.den (.slice tStewCopy)) (s7 : Ty.den (.slice tStewBerth)) (k' : Int), k ≤ k' ∧ k' ≤ k + wt tHallBook x ∧ laws_markHallBook.f n x (k, ()) = some (((x.1.1, (x.1.2.1, (x.1.2.2.1, (s1, (s2, (s3, (s4, x.1.2.2.2.2.2.2.2))))))), ((x.2.1.1, (s5, (s6, (s7, x.2.1.2.2.2.2)))), x.2.2)), k', ()) ∧ laws_heldHallBook.f n (((x.1.1, (x.1.2.1, (x.1.2.2.1, (s1, (s2, (s3, (s4, x.1.2.2.2.2.2.2.2))))))), ((x.2.1.1, (s5, (s6, (s7, x.2.1.2.2.2.2)))), x.2.2)), k, ()) = some (k', ()) := by
  have hw0 := hw
  simp only [wt_pair, wt_unit, wt_int, wt_bool, wt_str] at hw
  obtain ⟨s1, s2, s3, s4, k1, p1, q1, m1, h1⟩ := laws_markGateBook_ok n hn x.1 k (by omega) (by first | omega | (simp only [wt_pair, wt_unit, wt_int, wt_bool, wt_str]; omega))
  try simp only [wt_pair, wt_unit, wt_int, wt_bool, wt_str] at q1
  have d1 : decide (k1 < (0 : Int)) = false := decide_eq_false (by omega)
  obtain ⟨s5, s6, s7, k2, p2, q2, m2, h2⟩ := laws_markStewBook_ok n hn x.2.1 k1 (by omega) (by first | omega | (simp only [wt_pair, wt_unit, wt_int, wt_bool, wt_str]; omega))
  try simp only [wt_pair, wt_unit, wt_int, wt_bool, wt_str] at q2
  have d2 : decide (k2 < (0 : Int)) = false := decide_eq_false (by omega)
  refine ⟨s1, s2, s3, s4, s5, s6, s7, k2, by omega, by first | omega | (simp only [wt_pair, wt_unit, wt_int, wt_bool, wt_str]; omega), by simp only [laws_markHallBook.f, m1, m2, Option.bind_some], by simp only [laws_heldHallBook.f, h1, h2, d1, d2, Option.bind_some, Bool.false_eq_true, if_false]⟩
theorem laws_markHallBook_ok1 (n : Nat) (hn : Big n) (x : Ty.den tHallBook) (k : Int) (hk : 1 ≤ k) (hw : k + wt tHallBook x ≤ 4611686018427387904) : ∃ (s1 : Ty.den (.slice tGateObject)) (s2 : Ty.den (.slice tGateGrant)) (s3 : Ty.den (.slice tGateLedger)) (s4 : Ty.den (.slice tGatePurse)) (s5 : Ty.den (.slice tStewService)) (s6 : Ty.den (.slice tStewCopy)) (s7 : Ty.den (.slice tStewBerth)) (k' : Int), k ≤ k' ∧ k' ≤ k + wt tHallBook x ∧ laws_markHallBook.f n x (k, ()) = some (((x.1.1, (x.1.2.1, (x.1.2.2.1, (s1, (s2, (s3, (s4, x.1.2.2.2.2.2.2.2))))))), ((x.2.1.1, (s5, (s6, (s7, x.2.1.2.2.2.2)))), x.2.2)), k', ()) := by
  obtain ⟨s1, s2, s3, s4, s5, s6, s7, k1, p, q, m, _⟩ := laws_markHallBook_ok n hn x k hk hw
  exact ⟨s1, s2, s3, s4, s5, s6, s7, k1, p, q, m⟩
end Go.Proofs.Ytlbdplafdpgidaa
