import Derived.Test.YtemdfahilomeaaeF0
import Derived.Test.YtemdfahilomeaaeM2
set_option linter.unusedVariables false
namespace Go.Proofs.Ytemdfahilomeaae
open Go.Vm
theorem laws_szGateTeam_ok (n : Nat) (hn : Big n) : SzOk tGateTeam (fun x left => laws_szGateTeam.f n (x, left, ())) := by
  intro x hw
  have e : (fun left => laws_szGateTeam.f n (x, left, ())) = fun left => szStr (ByteArray.size x.1) left fun left => szStr (ByteArray.size x.2.1) left fun left => some (left, ()) := by kernel_rfl
  show KOk (fun left => laws_szGateTeam.f n (x, left, ())) _
  rw [e]
  exact KOk.congr (szStr_ok (s := ByteArray.size x.1) hw.1 (szStr_ok (s := ByteArray.size x.2.1) hw.2.1 szEnd_ok)) (by first | (simp only [bulk]; done) | (simp only [bulk]; omega))
theorem laws_szGateTeamS_ok (n : Nat) (hn : Big n) : SzOk (.slice tGateTeam) (fun l left => laws_szGateTeamS.f n (l, left, ())) := patSzS_ok (g := fun x left => laws_szGateTeam.f n (x, left, ())) (z := Ty.zero tGateTeam) (laws_szGateTeam_ok n hn) hn
theorem laws_toGateTeam_ok (n : Nat) (hn : Big n) (x : Ty.den tGateTeam) (h : small 1048576 tGateTeam x) : laws_toGateTeam.f n (x, ()) = some (x, ()) := rfl
theorem laws_toGateTeamS_ok (n : Nat) (hn : Big n) (x : Ty.den (.slice tGateTeam)) (h : small 1048576 (.slice tGateTeam) x) : laws_toGateTeamS.f n (x, ()) = some (x, ()) := patToS_ok (z := (Ty.zero tGateTeam)) (g := fun x => laws_toGateTeam.f n (x, ())) (fun x hx => laws_toGateTeam_ok n hn x (h.2 x hx)) h.1 (by decide) (by decide) hn
theorem laws_eqGateTeam_ok (n : Nat) (hn : Big n) (x : Tup [tGateTeam, tGateTeam]) (h : small 1048576 tGateTeam x.1) : laws_eqGateTeam.f n x = some (eqD tGateTeam x.1 x.2.1, ()) :=
  (eqLeaf_not (seq x.1.1 x.2.1.1) (eqLeaf_not (seq x.1.2.1 x.2.1.2.1) rfl))
theorem laws_eqGateTeamS_ok (n : Nat) (hn : Big n) (x : Tup [.slice tGateTeam, .slice tGateTeam]) (h : small 1048576 (.slice tGateTeam) x.1) : laws_eqGateTeamS.f n x = some (eqD (.slice tGateTeam) x.1 x.2.1, ()) := patEqS_ok (e := tGateTeam) (z := (Ty.zero tGateTeam)) (g := fun x y => laws_eqGateTeam.f n (x, y, ())) (fun x hx y => laws_eqGateTeam_ok n hn (x, y, ()) (h.2 x hx)) h.1 hn
end Go.Proofs.Ytemdfahilomeaae
