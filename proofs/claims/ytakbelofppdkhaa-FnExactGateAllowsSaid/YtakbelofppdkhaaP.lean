import Derived.Test.YtakbelofppdkhaaF0
import Derived.Test.YtakbelofppdkhaaM3
set_option linter.unusedVariables false
set_option linter.unusedSimpArgs false
namespace Go.Proofs.Ytakbelofppdkhaa
open Go.Vm
theorem laws_szGateTeam_ok (n : Nat) (hn : Big n) : SzOk tGateTeam (fun x left => laws_szGateTeam.f n (x, left, ())) := by
  intro x hw
  have e : (fun left => laws_szGateTeam.f n (x, left, ())) = fun left => szStr (ByteArray.size x.1) left fun left => szStr (ByteArray.size x.2.1) left fun left => some (left, ()) := by kernel_rfl
  show KOk (fun left => laws_szGateTeam.f n (x, left, ())) _
  rw [e]
  exact KOk.congr (szStr_ok (s := ByteArray.size x.1) hw.1 (szStr_ok (s := ByteArray.size x.2.1) hw.2.1 szEnd_ok)) (by first | (simp only [bulk]; done) | (simp only [bulk]; omega))
theorem laws_szGateTeamS_ok (n : Nat) (hn : Big n) : SzOk (.slice tGateTeam) (fun l left => laws_szGateTeamS.f n (l, left, ())) := patSzS_ok (g := fun x left => laws_szGateTeam.f n (x, left, ())) (z := Ty.zero tGateTeam) (laws_szGateTeam_ok n hn) hn
theorem laws_szIntS_ok (n : Nat) (hn : Big n) : SzOk (.slice (.int .i64)) (fun l left => laws_szIntS.f n (l, left, ())) := szLen_ok (fun x => by simp [bulk]) (fun l left => rfl)
theorem laws_szGateRule_ok (n : Nat) (hn : Big n) : SzOk tGateRule (fun x left => laws_szGateRule.f n (x, left, ())) := by
  intro x hw
  have e : (fun left => laws_szGateRule.f n (x, left, ())) = fun left => szCall (laws_szIntS.f n (x.1, left, ())) fun left => szStr (ByteArray.size x.2.1) left fun left => szStr (ByteArray.size x.2.2.1) left fun left => szStr (ByteArray.size x.2.2.2.1) left fun left => some (left, ()) := by kernel_rfl
  show KOk (fun left => laws_szGateRule.f n (x, left, ())) _
  rw [e]
  exact KOk.congr (szCall_ok (laws_szIntS_ok n hn _ hw.1) (szStr_ok (s := ByteArray.size x.2.1) hw.2.1 (szStr_ok (s := ByteArray.size x.2.2.1) hw.2.2.1 (szStr_ok (s := ByteArray.size x.2.2.2.1) hw.2.2.2.1 szEnd_ok)))) (by first | (simp only [bulk]; done) | (simp only [bulk]; omega))
theorem laws_szGateAct_ok (n : Nat) (hn : Big n) : SzOk tGateAct (fun x left => laws_szGateAct.f n (x, left, ())) := by
  intro x hw
  have e : (fun left => laws_szGateAct.f n (x, left, ())) = fun left => szStr (ByteArray.size x.2.1) left fun left => szStr (ByteArray.size x.2.2.1) left fun left => szStr (ByteArray.size x.2.2.2.1) left fun left => some (left, ()) := by kernel_rfl
  show KOk (fun left => laws_szGateAct.f n (x, left, ())) _
  rw [e]
  exact KOk.congr (szStr_ok (s := ByteArray.size x.2.1) hw.2.1 (szStr_ok (s := ByteArray.size x.2.2.1) hw.2.2.1 (szStr_ok (s := ByteArray.size x.2.2.2.1) hw.2.2.2.1 szEnd_ok))) (by first | (simp only [bulk]; done) | (simp only [bulk]; omega))
theorem laws_toGateTeam_ok (n : Nat) (hn : Big n) (x : Ty.den tGateTeam) (h : small 1048576 tGateTeam x) : laws_toGateTeam.f n (x, ()) = some (x, ()) := rfl
theorem laws_toGateTeamS_ok (n : Nat) (hn : Big n) (x : Ty.den (.slice tGateTeam)) (h : small 1048576 (.slice tGateTeam) x) : laws_toGateTeamS.f n (x, ()) = some (x, ()) := patToS_ok (z := (Ty.zero tGateTeam)) (g := fun x => laws_toGateTeam.f n (x, ())) (fun x hx => laws_toGateTeam_ok n hn x (h.2 x hx)) h.1 (by decide) (by decide) hn
theorem laws_toIntS_ok (n : Nat) (hn : Big n) (x : Ty.den (.slice (.int .i64))) (h : small 1048576 (.slice (.int .i64)) x) : laws_toIntS.f n (x, ()) = some (x, ()) := patToS_ok (z := (0 : Int)) (g := fun x => some (x, ())) (fun x _ => rfl) h.1 (by decide) (by decide) hn
theorem laws_toGateRule_ok (n : Nat) (hn : Big n) (x : Ty.den tGateRule) (h : small 1048576 tGateRule x) : laws_toGateRule.f n (x, ()) = some (x, ()) := by
  first | (simp only [laws_toGateRule.f, laws_toIntS_ok n hn _ h.1, Option.bind_some]; done) | (simp only [laws_toGateRule.f, laws_toIntS_ok n hn _ h.1, Option.bind_some]; rfl)
theorem laws_toGateAct_ok (n : Nat) (hn : Big n) (x : Ty.den tGateAct) (h : small 1048576 tGateAct x) : laws_toGateAct.f n (x, ()) = some (x, ()) := rfl
theorem laws_eqGateTeam_ok (n : Nat) (hn : Big n) (x : Tup [tGateTeam, tGateTeam]) (h : small 1048576 tGateTeam x.1) : laws_eqGateTeam.f n x = some (eqD tGateTeam x.1 x.2.1, ()) :=
  (eqLeaf_not (seq x.1.1 x.2.1.1) (eqLeaf_not (seq x.1.2.1 x.2.1.2.1) rfl))
theorem laws_eqGateTeamS_ok (n : Nat) (hn : Big n) (x : Tup [.slice tGateTeam, .slice tGateTeam]) (h : small 1048576 (.slice tGateTeam) x.1) : laws_eqGateTeamS.f n x = some (eqD (.slice tGateTeam) x.1 x.2.1, ()) := patEqS_ok (e := tGateTeam) (z := (Ty.zero tGateTeam)) (g := fun x y => laws_eqGateTeam.f n (x, y, ())) (fun x hx y => laws_eqGateTeam_ok n hn (x, y, ()) (h.2 x hx)) h.1 hn
theorem laws_eqIntS_ok (n : Nat) (hn : Big n) (x : Tup [.slice (.int .i64), .slice (.int .i64)]) (h : small 1048576 (.slice (.int .i64)) x.1) : laws_eqIntS.f n x = some (eqD (.slice (.int .i64)) x.1 x.2.1, ()) := patEqS_ok (e := (.int .i64)) (z := (0 : Int)) (g := fun x y => some (eqD (.int .i64) x y, ())) (fun x _ y => rfl) h.1 hn
theorem laws_eqGateRule_ok (n : Nat) (hn : Big n) (x : Tup [tGateRule, tGateRule]) (h : small 1048576 tGateRule x.1) : laws_eqGateRule.f n x = some (eqD tGateRule x.1 x.2.1, ()) :=
  (eqCall_ok (laws_eqIntS_ok n hn _ h.1) (eqLeaf_not (seq x.1.2.1 x.2.1.2.1) (eqLeaf_not (seq x.1.2.2.1 x.2.1.2.2.1) (eqLeaf_not (seq x.1.2.2.2.1 x.2.1.2.2.2.1) rfl))))
theorem bind_congr1 {α β : Type} {a b : Option α} {f : α → Option β} (h : a = b) : a.bind f = b.bind f := by rw [h]
attribute [local congr] bind_congr1
end Go.Proofs.Ytakbelofppdkhaa
