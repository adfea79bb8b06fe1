import Derived.Test.YtlbdplafdpgidabF0
import Derived.Test.YtlbdplafdpgidabM3
set_option linter.unusedVariables false
set_option linter.unusedSimpArgs false
namespace Go.Proofs.Ytlbdplafdpgidab
open Go.Vm
theorem laws_szGateTeam_ok (n : Nat) (hn : Big n) : SzOk tGateTeam (fun x left => laws_szGateTeam.f n (x, left, ())) := by
  intro x hw
  have e : (fun left => laws_szGateTeam.f n (x, left, ())) = fun left => szStr (ByteArray.size x.1) left fun left => szStr (ByteArray.size x.2.1) left fun left => some (left, ()) := by kernel_rfl
  show KOk (fun left => laws_szGateTeam.f n (x, left, ())) _
  rw [e]
  exact KOk.congr (szStr_ok (s := ByteArray.size x.1) hw.1 (szStr_ok (s := ByteArray.size x.2.1) hw.2.1 szEnd_ok)) (by first | (simp only [bulk]; done) | (simp only [bulk]; omega))
theorem laws_szGateTeamS_ok (n : Nat) (hn : Big n) : SzOk (.slice tGateTeam) (fun l left => laws_szGateTeamS.f n (l, left, ())) := patSzS_ok (g := fun x left => laws_szGateTeam.f n (x, left, ())) (z := Ty.zero tGateTeam) (laws_szGateTeam_ok n hn) hn
theorem laws_szIntS_ok (n : Nat) (hn : Big n) : SzOk (.slice (.int .i64)) (fun l left => laws_szIntS.f n (l, left, ())) := szLen_ok (fun x => by simp [bulk]) (fun l left => rfl)
theorem laws_szGateRule_ok (n : Nat) (hn : Big n) : SzOk tGateRule (fun x left => laws_szGateRule.f n (x, left, ())) := by
  intro x hw
  have e : (fun left => laws_szGateRule.f n (x, left, ())) = fun left => szCall (laws_szIntS.f n (x.1, left, ())) fun left => szStr (ByteArray.size x.2.1) left fun left => szStr (ByteArray.size x.2.2.1) left fun left => szStr (ByteArray.size x.2.2.2.1) left fun left => some (left, ()) := by kernel_rfl
  show KOk (fun left => laws_szGateRule.f n (x, left, ())) _
  rw [e]
  exact KOk.congr (szCall_ok (laws_szIntS_ok n hn _ hw.1) (szStr_ok (s := ByteArray.size x.2.1) hw.2.1 (szStr_ok (s := ByteArray.size x.2.2.1) hw.2.2.1 (szStr_ok (s := ByteArray.size x.2.2.2.1) hw.2.2.2.1 szEnd_ok)))) (by first | (simp only [bulk]; done) | (simp only [bulk]; omega))
theorem laws_szGateGrant_ok (n : Nat) (hn : Big n) : SzOk tGateGrant (fun x left => laws_szGateGrant.f n (x, left, ())) := by
  intro x hw
  have e : (fun left => laws_szGateGrant.f n (x, left, ())) = fun left => szStr (ByteArray.size x.2.1) left fun left => szStr (ByteArray.size x.2.2.1) left fun left => szCall (laws_szGateRule.f n (x.2.2.2.1, left, ())) fun left => some (left, ()) := by kernel_rfl
  show KOk (fun left => laws_szGateGrant.f n (x, left, ())) _
  rw [e]
  exact KOk.congr (szStr_ok (s := ByteArray.size x.2.1) hw.2.1 (szStr_ok (s := ByteArray.size x.2.2.1) hw.2.2.1 (szCall_ok (laws_szGateRule_ok n hn _ hw.2.2.2.1) szEnd_ok))) (by first | (simp only [bulk]; done) | (simp only [bulk]; omega))
theorem laws_szGateGrantS_ok (n : Nat) (hn : Big n) : SzOk (.slice tGateGrant) (fun l left => laws_szGateGrantS.f n (l, left, ())) := patSzS_ok (g := fun x left => laws_szGateGrant.f n (x, left, ())) (z := Ty.zero tGateGrant) (laws_szGateGrant_ok n hn) hn
theorem laws_szHallHouse_ok (n : Nat) (hn : Big n) : SzOk tHallHouse (fun x left => laws_szHallHouse.f n (x, left, ())) := by
  intro x hw
  have e : (fun left => laws_szHallHouse.f n (x, left, ())) = fun left => szCall (laws_szGateTeamS.f n (x.1, left, ())) fun left => szCall (laws_szGateGrantS.f n (x.2.1, left, ())) fun left => some (left, ()) := by kernel_rfl
  show KOk (fun left => laws_szHallHouse.f n (x, left, ())) _
  rw [e]
  exact KOk.congr (szCall_ok (laws_szGateTeamS_ok n hn _ hw.1) (szCall_ok (laws_szGateGrantS_ok n hn _ hw.2.1) szEnd_ok)) (by first | (simp only [bulk]; done) | (simp only [bulk]; omega))
theorem laws_toGateTeam_ok (n : Nat) (hn : Big n) (x : Ty.den tGateTeam) (h : small 1048576 tGateTeam x) : laws_toGateTeam.f n (x, ()) = some (x, ()) := rfl
theorem laws_toGateTeamS_ok (n : Nat) (hn : Big n) (x : Ty.den (.slice tGateTeam)) (h : small 1048576 (.slice tGateTeam) x) : laws_toGateTeamS.f n (x, ()) = some (x, ()) := patToS_ok (z := (Ty.zero tGateTeam)) (g := fun x => laws_toGateTeam.f n (x, ())) (fun x hx => laws_toGateTeam_ok n hn x (h.2 x hx)) h.1 (by decide) (by decide) hn
theorem laws_toIntS_ok (n : Nat) (hn : Big n) (x : Ty.den (.slice (.int .i64))) (h : small 1048576 (.slice (.int .i64)) x) : laws_toIntS.f n (x, ()) = some (x, ()) := patToS_ok (z := (0 : Int)) (g := fun x => some (x, ())) (fun x _ => rfl) h.1 (by decide) (by decide) hn
theorem laws_toGateRule_ok (n : Nat) (hn : Big n) (x : Ty.den tGateRule) (h : small 1048576 tGateRule x) : laws_toGateRule.f n (x, ()) = some (x, ()) := by
  first | (simp only [laws_toGateRule.f, laws_toIntS_ok n hn _ h.1, Option.bind_some]; done) | (simp only [laws_toGateRule.f, laws_toIntS_ok n hn _ h.1, Option.bind_some]; rfl)
theorem laws_toGateGrant_ok (n : Nat) (hn : Big n) (x : Ty.den tGateGrant) (h : small 1048576 tGateGrant x) : laws_toGateGrant.f n (x, ()) = some (x, ()) := by
  first | (simp only [laws_toGateGrant.f, laws_toGateRule_ok n hn _ h.2.2.2.1, Option.bind_some]; done) | (simp only [laws_toGateGrant.f, laws_toGateRule_ok n hn _ h.2.2.2.1, Option.bind_some]; rfl)
theorem laws_toGateGrantS_ok (n : Nat) (hn : Big n) (x : Ty.den (.slice tGateGrant)) (h : small 1048576 (.slice tGateGrant) x) : laws_toGateGrantS.f n (x, ()) = some (x, ()) := patToS_ok (z := (Ty.zero tGateGrant)) (g := fun x => laws_toGateGrant.f n (x, ())) (fun x hx => laws_toGateGrant_ok n hn x (h.2 x hx)) h.1 (by decide) (by decide) hn
theorem laws_toHallHouse_ok (n : Nat) (hn : Big n) (x : Ty.den tHallHouse) (h : small 1048576 tHallHouse x) : laws_toHallHouse.f n (x, ()) = some (x, ()) := by
  first | (simp only [laws_toHallHouse.f, laws_toGateTeamS_ok n hn _ h.1, laws_toGateGrantS_ok n hn _ h.2.1, Option.bind_some]; done) | (simp only [laws_toHallHouse.f, laws_toGateTeamS_ok n hn _ h.1, laws_toGateGrantS_ok n hn _ h.2.1, Option.bind_some]; rfl)
theorem laws_eqGateTeam_ok (n : Nat) (hn : Big n) (x : Tup [tGateTeam, tGateTeam]) (h : small 1048576 tGateTeam x.1) : laws_eqGateTeam.f n x = some (eqD tGateTeam x.1 x.2.1, ()) :=
  (eqLeaf_not (seq x.1.1 x.2.1.1) (eqLeaf_not (seq x.1.2.1 x.2.1.2.1) rfl))
theorem laws_eqGateTeamS_ok (n : Nat) (hn : Big n) (x : Tup [.slice tGateTeam, .slice tGateTeam]) (h : small 1048576 (.slice tGateTeam) x.1) : laws_eqGateTeamS.f n x = some (eqD (.slice tGateTeam) x.1 x.2.1, ()) := patEqS_ok (e := tGateTeam) (z := (Ty.zero tGateTeam)) (g := fun x y => laws_eqGateTeam.f n (x, y, ())) (fun x hx y => laws_eqGateTeam_ok n hn (x, y, ()) (h.2 x hx)) h.1 hn
theorem laws_eqIntS_ok (n : Nat) (hn : Big n) (x : Tup [.slice (.int .i64), .slice (.int .i64)]) (h : small 1048576 (.slice (.int .i64)) x.1) : laws_eqIntS.f n x = some (eqD (.slice (.int .i64)) x.1 x.2.1, ()) := patEqS_ok (e := (.int .i64)) (z := (0 : Int)) (g := fun x y => some (eqD (.int .i64) x y, ())) (fun x _ y => rfl) h.1 hn
theorem laws_eqGateRule_ok (n : Nat) (hn : Big n) (x : Tup [tGateRule, tGateRule]) (h : small 1048576 tGateRule x.1) : laws_eqGateRule.f n x = some (eqD tGateRule x.1 x.2.1, ()) :=
  (eqCall_ok (laws_eqIntS_ok n hn _ h.1) (eqLeaf_not (seq x.1.2.1 x.2.1.2.1) (eqLeaf_not (seq x.1.2.2.1 x.2.1.2.2.1) (eqLeaf_not (seq x.1.2.2.2.1 x.2.1.2.2.2.1) rfl))))
theorem laws_eqGateGrant_ok (n : Nat) (hn : Big n) (x : Tup [tGateGrant, tGateGrant]) (h : small 1048576 tGateGrant x.1) : laws_eqGateGrant.f n x = some (eqD tGateGrant x.1 x.2.1, ()) :=
  (eqLeaf_not ((x.1.1 == x.2.1.1)) (eqLeaf_not (seq x.1.2.1 x.2.1.2.1) (eqLeaf_not (seq x.1.2.2.1 x.2.1.2.2.1) (eqCall_ok (laws_eqGateRule_ok n hn _ h.2.2.2.1) rfl))))
theorem laws_eqGateGrantS_ok (n : Nat) (hn : Big n) (x : Tup [.slice tGateGrant, .slice tGateGrant]) (h : small 1048576 (.slice tGateGrant) x.1) : laws_eqGateGrantS.f n x = some (eqD (.slice tGateGrant) x.1 x.2.1, ()) := patEqS_ok (e := tGateGrant) (z := (Ty.zero tGateGrant)) (g := fun x y => laws_eqGateGrant.f n (x, y, ())) (fun x hx y => laws_eqGateGrant_ok n hn (x, y, ()) (h.2 x hx)) h.1 hn
theorem laws_eqHallHouse_ok (n : Nat) (hn : Big n) (x : Tup [tHallHouse, tHallHouse]) (h : small 1048576 tHallHouse x.1) : laws_eqHallHouse.f n x = some (eqD tHallHouse x.1 x.2.1, ()) :=
  (eqCall_ok (laws_eqGateTeamS_ok n hn _ h.1) (eqCall_ok (laws_eqGateGrantS_ok n hn _ h.2.1) rfl))
theorem laws_eqRecSlot_ok (n : Nat) (hn : Big n) (x : Tup [tRecSlot, tRecSlot]) (h : small 1048576 tRecSlot x.1) : laws_eqRecSlot.f n x = some (eqD tRecSlot x.1 x.2.1, ()) :=
  (eqLeaf_not ((x.1.1 == x.2.1.1)) (eqLeaf_not (seq x.1.2.1 x.2.1.2.1) rfl))
theorem laws_eqRecSlotS_ok (n : Nat) (hn : Big n) (x : Tup [.slice tRecSlot, .slice tRecSlot]) (h : small 1048576 (.slice tRecSlot) x.1) : laws_eqRecSlotS.f n x = some (eqD (.slice tRecSlot) x.1 x.2.1, ()) := patEqS_ok (e := tRecSlot) (z := (Ty.zero tRecSlot)) (g := fun x y => laws_eqRecSlot.f n (x, y, ())) (fun x hx y => laws_eqRecSlot_ok n hn (x, y, ()) (h.2 x hx)) h.1 hn
theorem laws_eqRecDisk_ok (n : Nat) (hn : Big n) (x : Tup [tRecDisk, tRecDisk]) (h : small 1048576 tRecDisk x.1) : laws_eqRecDisk.f n x = some (eqD tRecDisk x.1 x.2.1, ()) :=
  (eqLeaf_not ((x.1.1 == x.2.1.1)) (eqLeaf_not ((x.1.2.1 == x.2.1.2.1)) (eqCall_ok (laws_eqRecSlotS_ok n hn _ h.2.2.1) rfl)))
theorem laws_eqRecMessage_ok (n : Nat) (hn : Big n) (x : Tup [tRecMessage, tRecMessage]) (h : small 1048576 tRecMessage x.1) : laws_eqRecMessage.f n x = some (eqD tRecMessage x.1 x.2.1, ()) :=
  (eqLeaf_not ((x.1.1 == x.2.1.1)) (eqLeaf_not ((x.1.2.1 == x.2.1.2.1)) (eqLeaf_not ((x.1.2.2.1 == x.2.1.2.2.1)) (eqLeaf_not ((x.1.2.2.2.1 == x.2.1.2.2.2.1)) (eqLeaf_not ((x.1.2.2.2.2.1 == x.2.1.2.2.2.2.1)) (eqLeaf_not ((x.1.2.2.2.2.2.1 == x.2.1.2.2.2.2.2.1)) (eqLeaf_not (seq x.1.2.2.2.2.2.2.1 x.2.1.2.2.2.2.2.2.1) (eqCall_ok (laws_eqRecSlotS_ok n hn _ h.2.2.2.2.2.2.2.1) rfl))))))))
theorem laws_eqRecMessageS_ok (n : Nat) (hn : Big n) (x : Tup [.slice tRecMessage, .slice tRecMessage]) (h : small 1048576 (.slice tRecMessage) x.1) : laws_eqRecMessageS.f n x = some (eqD (.slice tRecMessage) x.1 x.2.1, ()) := patEqS_ok (e := tRecMessage) (z := (Ty.zero tRecMessage)) (g := fun x y => laws_eqRecMessage.f n (x, y, ())) (fun x hx y => laws_eqRecMessage_ok n hn (x, y, ()) (h.2 x hx)) h.1 hn
theorem laws_eqStringS_ok (n : Nat) (hn : Big n) (x : Tup [.slice .str, .slice .str]) (h : small 1048576 (.slice .str) x.1) : laws_eqStringS.f n x = some (eqD (.slice .str) x.1 x.2.1, ()) := patEqS_ok (e := .str) (z := (⟨#[]⟩ : ByteArray)) (g := fun x y => some (eqD .str x y, ())) (fun x _ y => rfl) h.1 hn
theorem laws_eqRecAck_ok (n : Nat) (hn : Big n) (x : Tup [tRecAck, tRecAck]) (h : small 1048576 tRecAck x.1) : laws_eqRecAck.f n x = some (eqD tRecAck x.1 x.2.1, ()) :=
  (eqLeaf_not ((x.1.1 == x.2.1.1)) (eqCall_ok (laws_eqIntS_ok n hn _ h.2.1) rfl))
theorem laws_eqRecAckS_ok (n : Nat) (hn : Big n) (x : Tup [.slice tRecAck, .slice tRecAck]) (h : small 1048576 (.slice tRecAck) x.1) : laws_eqRecAckS.f n x = some (eqD (.slice tRecAck) x.1 x.2.1, ()) := patEqS_ok (e := tRecAck) (z := (Ty.zero tRecAck)) (g := fun x y => laws_eqRecAck.f n (x, y, ())) (fun x hx y => laws_eqRecAck_ok n hn (x, y, ()) (h.2 x hx)) h.1 hn
theorem laws_eqRecorder_ok (n : Nat) (hn : Big n) (x : Tup [tRecorder, tRecorder]) (h : small 1048576 tRecorder x.1) : laws_eqRecorder.f n x = some (eqD tRecorder x.1 x.2.1, ()) :=
  (eqLeaf_not ((x.1.1 == x.2.1.1)) (eqLeaf_not ((x.1.2.1 == x.2.1.2.1)) (eqLeaf_not ((x.1.2.2.1 == x.2.1.2.2.1)) (eqCall_ok (laws_eqRecDisk_ok n hn _ h.2.2.2.1) (eqCall_ok (laws_eqRecDisk_ok n hn _ h.2.2.2.2.1) (eqCall_ok (laws_eqRecMessageS_ok n hn _ h.2.2.2.2.2.1) (eqCall_ok (laws_eqStringS_ok n hn _ h.2.2.2.2.2.2.1) (eqLeaf_not ((x.1.2.2.2.2.2.2.2.1 == x.2.1.2.2.2.2.2.2.2.1)) (eqLeaf_not ((x.1.2.2.2.2.2.2.2.2.1 == x.2.1.2.2.2.2.2.2.2.2.1)) (eqLeaf_not ((x.1.2.2.2.2.2.2.2.2.2.1 == x.2.1.2.2.2.2.2.2.2.2.2.1)) (eqCall_ok (laws_eqIntS_ok n hn _ h.2.2.2.2.2.2.2.2.2.2.1) (eqCall_ok (laws_eqRecSlotS_ok n hn _ h.2.2.2.2.2.2.2.2.2.2.2.1) (eqCall_ok (laws_eqRecAckS_ok n hn _ h.2.2.2.2.2.2.2.2.2.2.2.2.1) (eqLeaf_not ((x.1.2.2.2.2.2.2.2.2.2.2.2.2.2.1 == x.2.1.2.2.2.2.2.2.2.2.2.2.2.2.2.1)) rfl))))))))))))))
theorem laws_eqRecorderS_ok (n : Nat) (hn : Big n) (x : Tup [.slice tRecorder, .slice tRecorder]) (h : small 1048576 (.slice tRecorder) x.1) : laws_eqRecorderS.f n x = some (eqD (.slice tRecorder) x.1 x.2.1, ()) := patEqS_ok (e := tRecorder) (z := (Ty.zero tRecorder)) (g := fun x y => laws_eqRecorder.f n (x, y, ())) (fun x hx y => laws_eqRecorder_ok n hn (x, y, ()) (h.2 x hx)) h.1 hn
theorem laws_eqRecFix_ok (n : Nat) (hn : Big n) (x : Tup [tRecSlot, tRecSlot]) (h : small 1048576 tRecSlot x.1) : laws_eqRecFix.f n x = some (eqD tRecSlot x.1 x.2.1, ()) :=
  (eqLeaf_not ((x.1.1 == x.2.1.1)) (eqLeaf_not (seq x.1.2.1 x.2.1.2.1) rfl))
theorem laws_eqRecFixS_ok (n : Nat) (hn : Big n) (x : Tup [.slice tRecSlot, .slice tRecSlot]) (h : small 1048576 (.slice tRecSlot) x.1) : laws_eqRecFixS.f n x = some (eqD (.slice tRecSlot) x.1 x.2.1, ()) := patEqS_ok (e := tRecSlot) (z := (Ty.zero tRecSlot)) (g := fun x y => laws_eqRecFix.f n (x, y, ())) (fun x hx y => laws_eqRecFix_ok n hn (x, y, ()) (h.2 x hx)) h.1 hn
theorem laws_eqRecWorld_ok (n : Nat) (hn : Big n) (x : Tup [tRecWorld, tRecWorld]) (h : small 1048576 tRecWorld x.1) : laws_eqRecWorld.f n x = some (eqD tRecWorld x.1 x.2.1, ()) :=
  (eqCall_ok (laws_eqRecorderS_ok n hn _ h.1) (eqCall_ok (laws_eqRecMessageS_ok n hn _ h.2.1) (eqCall_ok (laws_eqRecFixS_ok n hn _ h.2.2.1) rfl)))
theorem laws_eqGateSaid_ok (n : Nat) (hn : Big n) (x : Tup [tGateSaid, tGateSaid]) (h : small 1048576 tGateSaid x.1) : laws_eqGateSaid.f n x = some (eqD tGateSaid x.1 x.2.1, ()) :=
  (eqLeaf_not ((x.1.1 == x.2.1.1)) (eqLeaf_not ((x.1.2.1 == x.2.1.2.1)) (eqLeaf_not ((x.1.2.2.1 == x.2.1.2.2.1)) rfl)))
theorem laws_eqHallAsked_ok (n : Nat) (hn : Big n) (x : Tup [tHallAsked, tHallAsked]) (h : small 1048576 tHallAsked x.1) : laws_eqHallAsked.f n x = some (eqD tHallAsked x.1 x.2.1, ()) :=
  (eqLeaf_not (seq x.1.1 x.2.1.1) (eqLeaf_not ((x.1.2.1 == x.2.1.2.1)) (eqLeaf_not ((x.1.2.2.1 == x.2.1.2.2.1)) (eqCall_ok (laws_eqGateSaid_ok n hn _ h.2.2.2.1) rfl))))
theorem laws_eqHallAskedS_ok (n : Nat) (hn : Big n) (x : Tup [.slice tHallAsked, .slice tHallAsked]) (h : small 1048576 (.slice tHallAsked) x.1) : laws_eqHallAskedS.f n x = some (eqD (.slice tHallAsked) x.1 x.2.1, ()) := patEqS_ok (e := tHallAsked) (z := (Ty.zero tHallAsked)) (g := fun x y => laws_eqHallAsked.f n (x, y, ())) (fun x hx y => laws_eqHallAsked_ok n hn (x, y, ()) (h.2 x hx)) h.1 hn
theorem laws_eqHallWorld_ok (n : Nat) (hn : Big n) (x : Tup [tHallWorld, tHallWorld]) (h : small 1048576 tHallWorld x.1) : laws_eqHallWorld.f n x = some (eqD tHallWorld x.1 x.2.1, ()) :=
  (eqCall_ok (laws_eqHallHouse_ok n hn _ h.1) (eqCall_ok (laws_eqRecWorld_ok n hn _ h.2.1) (eqLeaf_not ((x.1.2.2.1 == x.2.1.2.2.1)) (eqCall_ok (laws_eqHallAskedS_ok n hn _ h.2.2.2.1) rfl))))
theorem bind_congr1 {α β : Type} {a b : Option α} {f : α → Option β} (h : a = b) : a.bind f = b.bind f := by rw [h]
attribute [local congr] bind_congr1
theorem laws_markText_ok (n : Nat) (hn : Big n) (k : Int) (hk : 1 ≤ k) (hw : k ≤ 4611686018427387904) : ∃ s, laws_markText.f n (k, ()) = some (s, ()) := by
  have hn : 18446744073709551616 ≤ n := hn
  obtain ⟨m, rfl⟩ : ∃ m : Nat, k = m := ⟨k.toNat, by omega⟩
  unfold laws_markText.f
  rw [if_neg (by rw [decide_eq_true_eq]; show ¬ ((m : Int) ≤ 0); omega)]
  obtain ⟨t, ht, hr⟩ := markText_run (B := laws_markText.B4 n) (cs := ((fun z1 => if (decide ((ByteArray.size (⟨#[109]⟩ : ByteArray) : Int) + (ByteArray.size z1.1 : Int) ≤ 9223372036854775807)) = true then some ((scat (⟨#[109]⟩ : ByteArray) z1.1), ()) else none), ())) (dn := fun s => if (decide ((ByteArray.size (⟨#[109]⟩ : ByteArray) : Int) + (ByteArray.size s : Int) ≤ 9223372036854775807)) = true then some ((scat (⟨#[109]⟩ : ByteArray) s), ()) else none)
    (fun next s => by simp only [laws_markText.B4, show decide ((0 : Int) > 0) = false from rfl, Bool.false_eq_true, if_false])
    (fun next k s h1 h2 => ⟨_, (scat_size _ s).trans (by rw [ofBytes_one]; omega), by
      simp only [laws_markText.B4]
      rw [if_pos (decide_eq_true (show k > 0 by omega)), if_pos (by decide), if_pos (decide_eq_true (by rw [ofBytes_one]; show ((1 : Nat) : Int) + (ByteArray.size s : Int) ≤ 9223372036854775807; omega)), if_pos (by decide), wrapM (Int.tdiv_nonneg (by omega) (by omega)) (by rw [Int.tdiv_eq_ediv_of_nonneg (by omega)]; omega)]⟩)
    n m (⟨#[]⟩ : ByteArray) (by have : ByteArray.size (⟨#[]⟩ : ByteArray) = 0 := rfl; omega) (by omega)
  have h0 : ByteArray.size (⟨#[]⟩ : ByteArray) = 0 := rfl
  have h9 : ByteArray.size (⟨#[109]⟩ : ByteArray) = 1 := rfl
  exact ⟨_, hr.trans (if_pos (decide_eq_true (by rw [h9]; omega)))⟩
theorem laws_markGateTeamS_el (n : Nat) (hn : Big n) {R1 R2 : Type} (cs1 : Conts R1 laws_markGateTeamS.l2.outs) (cs2 : Conts R2 laws_heldGateTeamS.l2.outs) : ElOk tGateTeam (laws_markGateTeamS.B2 n (R := R1)) cs1 (laws_heldGateTeamS.B2 n (R := R2)) cs2 := by
  intro x k hk hw
  simp only [wt_pair, wt_unit, wt_int, wt_bool, wt_str] at hw
  obtain ⟨t1, m1⟩ := laws_markText_ok n hn k (by omega) (by omega)
  obtain ⟨t2, m2⟩ := laws_markText_ok n hn (k + 1) (by omega) (by omega)
  refine ⟨(t1, (t2, x.2.2)), ((k + 1) + 1), by omega, by simp only [wt_pair, wt_unit, wt_int, wt_bool, wt_str]; omega, fun next l i hi hl hx => ?_, fun next l i hi hl hx => ?_⟩
  · simp (disch := omega) only [laws_markGateTeamS.B2, m1, m2, wrapM, lt_dec hi, in_dec hi, Int.toNat_natCast, List.length_set, getD_set_at hi, List.set_set, hx, Option.bind_some, Bool.or_true, Bool.not_true, Bool.not_false, bne_self_eq_false, beq_self_eq_true, seq_same, Bool.false_eq_true, if_true, if_false, show ((3 : Int) != 0) = true from rfl, Bool.true_and, Bool.and_true]
  · simp (disch := omega) only [laws_heldGateTeamS.B2, m1, m2, wrapM, lt_dec hi, in_dec hi, Int.toNat_natCast, List.length_set, getD_set_at hi, List.set_set, hx, Option.bind_some, Bool.or_true, Bool.not_true, Bool.not_false, bne_self_eq_false, beq_self_eq_true, seq_same, Bool.false_eq_true, if_true, if_false, show ((3 : Int) != 0) = true from rfl, Bool.true_and, Bool.and_true]
theorem laws_markGateTeamS_ok (n : Nat) (hn : Big n) (x : Ty.den (.slice tGateTeam)) (k : Int) (hk : 1 ≤ k) (hw : k + wt (.slice tGateTeam) x ≤ 4611686018427387904) : ∃ (s1 : Ty.den (.slice tGateTeam)) (k' : Int), k ≤ k' ∧ k' ≤ k + wt (.slice tGateTeam) x ∧ laws_markGateTeamS.f n x (k, ()) = some (s1, k', ()) ∧ laws_heldGateTeamS.f n (s1, k, ()) = some (k', ()) :=
  markS_ok hn (laws_markGateTeamS_el n hn _ _) (fun next l k => by simp only [laws_markGateTeamS.B2, lt_dec', Bool.false_eq_true, if_false]) (fun next l k => by simp only [laws_heldGateTeamS.B2, lt_dec', Bool.false_eq_true, if_false]) x k hk hw
theorem laws_markGateTeamS_ok1 (n : Nat) (hn : Big n) (x : Ty.den (.slice tGateTeam)) (k : Int) (hk : 1 ≤ k) (hw : k + wt (.slice tGateTeam) x ≤ 4611686018427387904) : ∃ (s1 : Ty.den (.slice tGateTeam)) (k' : Int), k ≤ k' ∧ k' ≤ k + wt (.slice tGateTeam) x ∧ laws_markGateTeamS.f n x (k, ()) = some (s1, k', ()) := by
  obtain ⟨s1, k1, p, q, m, _⟩ := laws_markGateTeamS_ok n hn x k hk hw
  exact ⟨s1, k1, p, q, m⟩
theorem laws_markIntS_el (n : Nat) (hn : Big n) {R1 R2 : Type} (cs1 : Conts R1 laws_markIntS.l2.outs) (cs2 : Conts R2 laws_heldIntS.l2.outs) : ElOk (.int .i64) (laws_markIntS.B2 n (R := R1)) cs1 (laws_heldIntS.B2 n (R := R2)) cs2 := by
  intro x k hk hw
  simp only [wt_pair, wt_unit, wt_int, wt_bool, wt_str] at hw
  refine ⟨k, (k + 1), by omega, by simp only [wt_pair, wt_unit, wt_int, wt_bool, wt_str]; omega, fun next l i hi hl hx => ?_, fun next l i hi hl hx => ?_⟩
  · simp (disch := omega) only [laws_markIntS.B2, wrapM, lt_dec hi, in_dec hi, Int.toNat_natCast, List.length_set, getD_set_at hi, List.set_set, hx, Option.bind_some, Bool.or_true, Bool.not_true, Bool.not_false, bne_self_eq_false, beq_self_eq_true, seq_same, Bool.false_eq_true, if_true, if_false, show ((3 : Int) != 0) = true from rfl, Bool.true_and, Bool.and_true]
  · simp (disch := omega) only [laws_heldIntS.B2, wrapM, lt_dec hi, in_dec hi, Int.toNat_natCast, List.length_set, getD_set_at hi, List.set_set, hx, Option.bind_some, Bool.or_true, Bool.not_true, Bool.not_false, bne_self_eq_false, beq_self_eq_true, seq_same, Bool.false_eq_true, if_true, if_false, show ((3 : Int) != 0) = true from rfl, Bool.true_and, Bool.and_true]
theorem laws_markIntS_ok (n : Nat) (hn : Big n) (x : Ty.den (.slice (.int .i64))) (k : Int) (hk : 1 ≤ k) (hw : k + wt (.slice (.int .i64)) x ≤ 4611686018427387904) : ∃ (s1 : Ty.den (.slice (.int .i64))) (k' : Int), k ≤ k' ∧ k' ≤ k + wt (.slice (.int .i64)) x ∧ laws_markIntS.f n x (k, ()) = some (s1, k', ()) ∧ laws_heldIntS.f n (s1, k, ()) = some (k', ()) :=
  markS_ok hn (laws_markIntS_el n hn _ _) (fun next l k => by simp only [laws_markIntS.B2, lt_dec', Bool.false_eq_true, if_false]) (fun next l k => by simp only [laws_heldIntS.B2, lt_dec', Bool.false_eq_true, if_false]) x k hk hw
theorem laws_markIntS_ok1 (n : Nat) (hn : Big n) (x : Ty.den (.slice (.int .i64))) (k : Int) (hk : 1 ≤ k) (hw : k + wt (.slice (.int .i64)) x ≤ 4611686018427387904) : ∃ (s1 : Ty.den (.slice (.int .i64))) (k' : Int), k ≤ k' ∧ k' ≤ k + wt (.slice (.int .i64)) x ∧ laws_markIntS.f n x (k, ()) = some (s1, k', ()) := by
  obtain ⟨s1, k1, p, q, m, _⟩ := laws_markIntS_ok n hn x k hk hw
  exact ⟨s1, k1, p, q, m⟩
theorem laws_markGateGrantS_el (n : Nat) (hn : Big n) {R1 R2 : Type} (cs1 : Conts R1 laws_markGateGrantS.l2.outs) (cs2 : Conts R2 laws_heldGateGrantS.l2.outs) : ElOk tGateGrant (laws_markGateGrantS.B2 n (R := R1)) cs1 (laws_heldGateGrantS.B2 n (R := R2)) cs2 := by
  intro x k hk hw
  simp only [wt_pair, wt_unit, wt_int, wt_bool, wt_str] at hw
  obtain ⟨t1, m1⟩ := laws_markText_ok n hn (k + 1) (by omega) (by omega)
  obtain ⟨t2, m2⟩ := laws_markText_ok n hn ((k + 1) + 1) (by omega) (by omega)
  obtain ⟨t3, k3, p3, q3, m3, h3⟩ := laws_markIntS_ok n hn x.2.2.2.1.1 (((k + 1) + 1) + 1) (by omega) (by omega)
  have d3 : decide (k3 < (0 : Int)) = false := decide_eq_false (by omega)
  obtain ⟨t4, m4⟩ := laws_markText_ok n hn k3 (by omega) (by omega)
  obtain ⟨t5, m5⟩ := laws_markText_ok n hn (k3 + 1) (by omega) (by omega)
  obtain ⟨t6, m6⟩ := laws_markText_ok n hn ((k3 + 1) + 1) (by omega) (by omega)
  refine ⟨(k, (t1, (t2, ((t3, (t4, (t5, (t6, x.2.2.2.1.2.2.2.2)))), x.2.2.2.2)))), (((k3 + 1) + 1) + 1), by omega, by simp only [wt_pair, wt_unit, wt_int, wt_bool, wt_str]; omega, fun next l i hi hl hx => ?_, fun next l i hi hl hx => ?_⟩
  · simp (disch := omega) only [laws_markGateGrantS.B2, m1, m2, m3, m4, m5, m6, wrapM, lt_dec hi, in_dec hi, Int.toNat_natCast, List.length_set, getD_set_at hi, List.set_set, hx, Option.bind_some, Bool.or_true, Bool.not_true, Bool.not_false, bne_self_eq_false, beq_self_eq_true, seq_same, Bool.false_eq_true, if_true, if_false, show ((3 : Int) != 0) = true from rfl, Bool.true_and, Bool.and_true]
  · simp (disch := omega) only [laws_heldGateGrantS.B2, m1, m2, h3, m4, m5, m6, d3, wrapM, lt_dec hi, in_dec hi, Int.toNat_natCast, List.length_set, getD_set_at hi, List.set_set, hx, Option.bind_some, Bool.or_true, Bool.not_true, Bool.not_false, bne_self_eq_false, beq_self_eq_true, seq_same, Bool.false_eq_true, if_true, if_false, show ((3 : Int) != 0) = true from rfl, Bool.true_and, Bool.and_true]
theorem laws_markGateGrantS_ok (n : Nat) (hn : Big n) (x : Ty.den (.slice tGateGrant)) (k : Int) (hk : 1 ≤ k) (hw : k + wt (.slice tGateGrant) x ≤ 4611686018427387904) : ∃ (s1 : Ty.den (.slice tGateGrant)) (k' : Int), k ≤ k' ∧ k' ≤ k + wt (.slice tGateGrant) x ∧ laws_markGateGrantS.f n x (k, ()) = some (s1, k', ()) ∧ laws_heldGateGrantS.f n (s1, k, ()) = some (k', ()) :=
  markS_ok hn (laws_markGateGrantS_el n hn _ _) (fun next l k => by simp only [laws_markGateGrantS.B2, lt_dec', Bool.false_eq_true, if_false]) (fun next l k => by simp only [laws_heldGateGrantS.B2, lt_dec', Bool.false_eq_true, if_false]) x k hk hw
theorem laws_markGateGrantS_ok1 (n : Nat) (hn : Big n) (x : Ty.den (.slice tGateGrant)) (k : Int) (hk : 1 ≤ k) (hw : k + wt (.slice tGateGrant) x ≤ 4611686018427387904) : ∃ (s1 : Ty.den (.slice tGateGrant)) (k' : Int), k ≤ k' ∧ k' ≤ k + wt (.slice tGateGrant) x ∧ laws_markGateGrantS.f n x (k, ()) = some (s1, k', ()) := by
  obtain ⟨s1, k1, p, q, m, _⟩ := laws_markGateGrantS_ok n hn x k hk hw
  exact ⟨s1, k1, p, q, m⟩
theorem laws_markHallHouse_ok (n : Nat) (hn : Big n) (x : Ty.den tHallHouse) (k : Int) (hk : 1 ≤ k) (hw : k + wt tHallHouse x ≤ 4611686018427387904) : ∃ (s1 : Ty.den (.slice tGateTeam)) (s2 : Ty.den (.slice tGateGrant)) (k' : Int), k ≤ k' ∧ k' ≤ k + wt tHallHouse x ∧ laws_markHallHouse.f n x (k, ()) = some ((s1, (s2, x.2.2)), k', ()) ∧ laws_heldHallHouse.f n ((s1, (s2, x.2.2)), k, ()) = some (k', ()) := by
  have hw0 := hw
  simp only [wt_pair, wt_unit, wt_int, wt_bool, wt_str] at hw
  obtain ⟨s1, k1, p1, q1, m1, h1⟩ := laws_markGateTeamS_ok n hn x.1 k (by omega) (by first | omega | (simp only [wt_pair, wt_unit, wt_int, wt_bool, wt_str]; omega))
  try simp only [wt_pair, wt_unit, wt_int, wt_bool, wt_str] at q1
  have d1 : decide (k1 < (0 : Int)) = false := decide_eq_false (by omega)
  obtain ⟨s2, k2, p2, q2, m2, h2⟩ := laws_markGateGrantS_ok n hn x.2.1 k1 (by omega) (by first | omega | (simp only [wt_pair, wt_unit, wt_int, wt_bool, wt_str]; omega))
  try simp only [wt_pair, wt_unit, wt_int, wt_bool, wt_str] at q2
  have d2 : decide (k2 < (0 : Int)) = false := decide_eq_false (by omega)
  refine ⟨s1, s2, k2, by omega, by first | omega | (simp only [wt_pair, wt_unit, wt_int, wt_bool, wt_str]; omega), by simp only [laws_markHallHouse.f, m1, m2, Option.bind_some], by simp only [laws_heldHallHouse.f, h1, h2, d1, d2, Option.bind_some, Bool.false_eq_true, if_false]⟩
theorem laws_markHallHouse_ok1 (n : Nat) (hn : Big n) (x : Ty.den tHallHouse) (k : Int) (hk : 1 ≤ k) (hw : k + wt tHallHouse x ≤ 4611686018427387904) : ∃ (s1 : Ty.den (.slice tGateTeam)) (s2 : Ty.den (.slice tGateGrant)) (k' : Int), k ≤ k' ∧ k' ≤ k + wt tHallHouse x ∧ laws_markHallHouse.f n x (k, ()) = some ((s1, (s2, x.2.2)), k', ()) := by
  obtain ⟨s1, s2, k1, p, q, m, _⟩ := laws_markHallHouse_ok n hn x k hk hw
  exact ⟨s1, s2, k1, p, q, m⟩
theorem laws_markRecSlotS_el (n : Nat) (hn : Big n) {R1 R2 : Type} (cs1 : Conts R1 laws_markRecSlotS.l2.outs) (cs2 : Conts R2 laws_heldRecSlotS.l2.outs) : ElOk tRecSlot (laws_markRecSlotS.B2 n (R := R1)) cs1 (laws_heldRecSlotS.B2 n (R := R2)) cs2 := by
  intro x k hk hw
  simp only [wt_pair, wt_unit, wt_int, wt_bool, wt_str] at hw
  obtain ⟨t1, m1⟩ := laws_markText_ok n hn (k + 1) (by omega) (by omega)
  refine ⟨(k, (t1, x.2.2)), ((k + 1) + 1), by omega, by simp only [wt_pair, wt_unit, wt_int, wt_bool, wt_str]; omega, fun next l i hi hl hx => ?_, fun next l i hi hl hx => ?_⟩
  · simp (disch := omega) only [laws_markRecSlotS.B2, m1, wrapM, lt_dec hi, in_dec hi, Int.toNat_natCast, List.length_set, getD_set_at hi, List.set_set, hx, Option.bind_some, Bool.or_true, Bool.not_true, Bool.not_false, bne_self_eq_false, beq_self_eq_true, seq_same, Bool.false_eq_true, if_true, if_false, show ((3 : Int) != 0) = true from rfl, Bool.true_and, Bool.and_true]
  · simp (disch := omega) only [laws_heldRecSlotS.B2, m1, wrapM, lt_dec hi, in_dec hi, Int.toNat_natCast, List.length_set, getD_set_at hi, List.set_set, hx, Option.bind_some, Bool.or_true, Bool.not_true, Bool.not_false, bne_self_eq_false, beq_self_eq_true, seq_same, Bool.false_eq_true, if_true, if_false, show ((3 : Int) != 0) = true from rfl, Bool.true_and, Bool.and_true]
theorem laws_markRecSlotS_ok (n : Nat) (hn : Big n) (x : Ty.den (.slice tRecSlot)) (k : Int) (hk : 1 ≤ k) (hw : k + wt (.slice tRecSlot) x ≤ 4611686018427387904) : ∃ (s1 : Ty.den (.slice tRecSlot)) (k' : Int), k ≤ k' ∧ k' ≤ k + wt (.slice tRecSlot) x ∧ laws_markRecSlotS.f n x (k, ()) = some (s1, k', ()) ∧ laws_heldRecSlotS.f n (s1, k, ()) = some (k', ()) :=
  markS_ok hn (laws_markRecSlotS_el n hn _ _) (fun next l k => by simp only [laws_markRecSlotS.B2, lt_dec', Bool.false_eq_true, if_false]) (fun next l k => by simp only [laws_heldRecSlotS.B2, lt_dec', Bool.false_eq_true, if_false]) x k hk hw
theorem laws_markRecSlotS_ok1 (n : Nat) (hn : Big n) (x : Ty.den (.slice tRecSlot)) (k : Int) (hk : 1 ≤ k) (hw : k + wt (.slice tRecSlot) x ≤ 4611686018427387904) : ∃ (s1 : Ty.den (.slice tRecSlot)) (k' : Int), k ≤ k' ∧ k' ≤ k + wt (.slice tRecSlot) x ∧ laws_markRecSlotS.f n x (k, ()) = some (s1, k', ()) := by
  obtain ⟨s1, k1, p, q, m, _⟩ := laws_markRecSlotS_ok n hn x k hk hw
  exact ⟨s1, k1, p, q, m⟩
theorem laws_markRecMessageS_el (n : Nat) (hn : Big n) {R1 R2 : Type} (cs1 : Conts R1 laws_markRecMessageS.l2.outs) (cs2 : Conts R2 laws_heldRecMessageS.l2.outs) : ElOk tRecMessage (laws_markRecMessageS.B2 n (R := R1)) cs1 (laws_heldRecMessageS.B2 n (R := R2)) cs2 := by
  intro x k hk hw
  simp only [wt_pair, wt_unit, wt_int, wt_bool, wt_str] at hw
  obtain ⟨t1, m1⟩ := laws_markText_ok n hn ((((((k + 1) + 1) + 1) + 1) + 1) + 1) (by omega) (by omega)
  obtain ⟨t2, k2, p2, q2, m2, h2⟩ := laws_markRecSlotS_ok n hn x.2.2.2.2.2.2.2.1 (((((((k + 1) + 1) + 1) + 1) + 1) + 1) + 1) (by omega) (by omega)
  have d2 : decide (k2 < (0 : Int)) = false := decide_eq_false (by omega)
  refine ⟨(k, ((k + 1), (((k + 1) + 1), ((((k + 1) + 1) + 1), (((((k + 1) + 1) + 1) + 1), ((((((k + 1) + 1) + 1) + 1) + 1), (t1, (t2, x.2.2.2.2.2.2.2.2)))))))), k2, by omega, by simp only [wt_pair, wt_unit, wt_int, wt_bool, wt_str]; omega, fun next l i hi hl hx => ?_, fun next l i hi hl hx => ?_⟩
  · simp (disch := omega) only [laws_markRecMessageS.B2, m1, m2, wrapM, lt_dec hi, in_dec hi, Int.toNat_natCast, List.length_set, getD_set_at hi, List.set_set, hx, Option.bind_some, Bool.or_true, Bool.not_true, Bool.not_false, bne_self_eq_false, beq_self_eq_true, seq_same, Bool.false_eq_true, if_true, if_false, show ((3 : Int) != 0) = true from rfl, Bool.true_and, Bool.and_true]
  · simp (disch := omega) only [laws_heldRecMessageS.B2, m1, h2, d2, wrapM, lt_dec hi, in_dec hi, Int.toNat_natCast, List.length_set, getD_set_at hi, List.set_set, hx, Option.bind_some, Bool.or_true, Bool.not_true, Bool.not_false, bne_self_eq_false, beq_self_eq_true, seq_same, Bool.false_eq_true, if_true, if_false, show ((3 : Int) != 0) = true from rfl, Bool.true_and, Bool.and_true]
theorem laws_markRecMessageS_ok (n : Nat) (hn : Big n) (x : Ty.den (.slice tRecMessage)) (k : Int) (hk : 1 ≤ k) (hw : k + wt (.slice tRecMessage) x ≤ 4611686018427387904) : ∃ (s1 : Ty.den (.slice tRecMessage)) (k' : Int), k ≤ k' ∧ k' ≤ k + wt (.slice tRecMessage) x ∧ laws_markRecMessageS.f n x (k, ()) = some (s1, k', ()) ∧ laws_heldRecMessageS.f n (s1, k, ()) = some (k', ()) :=
  markS_ok hn (laws_markRecMessageS_el n hn _ _) (fun next l k => by simp only [laws_markRecMessageS.B2, lt_dec', Bool.false_eq_true, if_false]) (fun next l k => by simp only [laws_heldRecMessageS.B2, lt_dec', Bool.false_eq_true, if_false]) x k hk hw
theorem laws_markRecMessageS_ok1 (n : Nat) (hn : Big n) (x : Ty.den (.slice tRecMessage)) (k : Int) (hk : 1 ≤ k) (hw : k + wt (.slice tRecMessage) x ≤ 4611686018427387904) : ∃ (s1 : Ty.den (.slice tRecMessage)) (k' : Int), k ≤ k' ∧ k' ≤ k + wt (.slice tRecMessage) x ∧ laws_markRecMessageS.f n x (k, ()) = some (s1, k', ()) := by
  obtain ⟨s1, k1, p, q, m, _⟩ := laws_markRecMessageS_ok n hn x k hk hw
  exact ⟨s1, k1, p, q, m⟩
theorem laws_markStringS_el (n : Nat) (hn : Big n) {R1 R2 : Type} (cs1 : Conts R1 laws_markStringS.l2.outs) (cs2 : Conts R2 laws_heldStringS.l2.outs) : ElOk .str (laws_markStringS.B2 n (R := R1)) cs1 (laws_heldStringS.B2 n (R := R2)) cs2 := by
  intro x k hk hw
  simp only [wt_pair, wt_unit, wt_int, wt_bool, wt_str] at hw
  obtain ⟨t1, m1⟩ := laws_markText_ok n hn k (by omega) (by omega)
  refine ⟨t1, (k + 1), by omega, by simp only [wt_pair, wt_unit, wt_int, wt_bool, wt_str]; omega, fun next l i hi hl hx => ?_, fun next l i hi hl hx => ?_⟩
  · simp (disch := omega) only [laws_markStringS.B2, m1, wrapM, lt_dec hi, in_dec hi, Int.toNat_natCast, List.length_set, getD_set_at hi, List.set_set, hx, Option.bind_some, Bool.or_true, Bool.not_true, Bool.not_false, bne_self_eq_false, beq_self_eq_true, seq_same, Bool.false_eq_true, if_true, if_false, show ((3 : Int) != 0) = true from rfl, Bool.true_and, Bool.and_true]
  · simp (disch := omega) only [laws_heldStringS.B2, m1, wrapM, lt_dec hi, in_dec hi, Int.toNat_natCast, List.length_set, getD_set_at hi, List.set_set, hx, Option.bind_some, Bool.or_true, Bool.not_true, Bool.not_false, bne_self_eq_false, beq_self_eq_true, seq_same, Bool.false_eq_true, if_true, if_false, show ((3 : Int) != 0) = true from rfl, Bool.true_and, Bool.and_true]
theorem laws_markStringS_ok (n : Nat) (hn : Big n) (x : Ty.den (.slice .str)) (k : Int) (hk : 1 ≤ k) (hw : k + wt (.slice .str) x ≤ 4611686018427387904) : ∃ (s1 : Ty.den (.slice .str)) (k' : Int), k ≤ k' ∧ k' ≤ k + wt (.slice .str) x ∧ laws_markStringS.f n x (k, ()) = some (s1, k', ()) ∧ laws_heldStringS.f n (s1, k, ()) = some (k', ()) :=
  markS_ok hn (laws_markStringS_el n hn _ _) (fun next l k => by simp only [laws_markStringS.B2, lt_dec', Bool.false_eq_true, if_false]) (fun next l k => by simp only [laws_heldStringS.B2, lt_dec', Bool.false_eq_true, if_false]) x k hk hw
theorem laws_markStringS_ok1 (n : Nat) (hn : Big n) (x : Ty.den (.slice .str)) (k : Int) (hk : 1 ≤ k) (hw : k + wt (.slice .str) x ≤ 4611686018427387904) : ∃ (s1 : Ty.den (.slice .str)) (k' : Int), k ≤ k' ∧ k' ≤ k + wt (.slice .str) x ∧ laws_markStringS.f n x (k, ()) = some (s1, k', ()) := by
  obtain ⟨s1, k1, p, q, m, _⟩ := laws_markStringS_ok n hn x k hk hw
  exact ⟨s1, k1, p, q, m⟩
theorem laws_markRecAckS_el (n : Nat) (hn : Big n) {R1 R2 : Type} (cs1 : Conts R1 laws_markRecAckS.l2.outs) (cs2 : Conts R2 laws_heldRecAckS.l2.outs) : ElOk tRecAck (laws_markRecAckS.B2 n (R := R1)) cs1 (laws_heldRecAckS.B2 n (R := R2)) cs2 := by
  intro x k hk hw
  simp only [wt_pair, wt_unit, wt_int, wt_bool, wt_str] at hw
  obtain ⟨t1, k1, p1, q1, m1, h1⟩ := laws_markIntS_ok n hn x.2.1 (k + 1) (by omega) (by omega)
  have d1 : decide (k1 < (0 : Int)) = false := decide_eq_false (by omega)
  refine ⟨(k, (t1, x.2.2)), k1, by omega, by simp only [wt_pair, wt_unit, wt_int, wt_bool, wt_str]; omega, fun next l i hi hl hx => ?_, fun next l i hi hl hx => ?_⟩
  · simp (disch := omega) only [laws_markRecAckS.B2, m1, wrapM, lt_dec hi, in_dec hi, Int.toNat_natCast, List.length_set, getD_set_at hi, List.set_set, hx, Option.bind_some, Bool.or_true, Bool.not_true, Bool.not_false, bne_self_eq_false, beq_self_eq_true, seq_same, Bool.false_eq_true, if_true, if_false, show ((3 : Int) != 0) = true from rfl, Bool.true_and, Bool.and_true]
  · simp (disch := omega) only [laws_heldRecAckS.B2, h1, d1, wrapM, lt_dec hi, in_dec hi, Int.toNat_natCast, List.length_set, getD_set_at hi, List.set_set, hx, Option.bind_some, Bool.or_true, Bool.not_true, Bool.not_false, bne_self_eq_false, beq_self_eq_true, seq_same, Bool.false_eq_true, if_true, if_false, show ((3 : Int) != 0) = true from rfl, Bool.true_and, Bool.and_true]
theorem laws_markRecAckS_ok (n : Nat) (hn : Big n) (x : Ty.den (.slice tRecAck)) (k : Int) (hk : 1 ≤ k) (hw : k + wt (.slice tRecAck) x ≤ 4611686018427387904) : ∃ (s1 : Ty.den (.slice tRecAck)) (k' : Int), k ≤ k' ∧ k' ≤ k + wt (.slice tRecAck) x ∧ laws_markRecAckS.f n x (k, ()) = some (s1, k', ()) ∧ laws_heldRecAckS.f n (s1, k, ()) = some (k', ()) :=
  markS_ok hn (laws_markRecAckS_el n hn _ _) (fun next l k => by simp only [laws_markRecAckS.B2, lt_dec', Bool.false_eq_true, if_false]) (fun next l k => by simp only [laws_heldRecAckS.B2, lt_dec', Bool.false_eq_true, if_false]) x k hk hw
theorem laws_markRecAckS_ok1 (n : Nat) (hn : Big n) (x : Ty.den (.slice tRecAck)) (k : Int) (hk : 1 ≤ k) (hw : k + wt (.slice tRecAck) x ≤ 4611686018427387904) : ∃ (s1 : Ty.den (.slice tRecAck)) (k' : Int), k ≤ k' ∧ k' ≤ k + wt (.slice tRecAck) x ∧ laws_markRecAckS.f n x (k, ()) = some (s1, k', ()) := by
  obtain ⟨s1, k1, p, q, m, _⟩ := laws_markRecAckS_ok n hn x k hk hw
  exact ⟨s1, k1, p, q, m⟩
set_option maxHeartbeats 4000000 in
theorem laws_markRecorderS_el (n : Nat) (hn : Big n) {R1 R2 : Type} (cs1 : Conts R1 laws_markRecorderS.l2.outs) (cs2 : Conts R2 laws_heldRecorderS.l2.outs) : ElOk tRecorder (laws_markRecorderS.B2 n (R := R1)) cs1 (laws_heldRecorderS.B2 n (R := R2)) cs2 := by
  intro x k hk hw
  simp only [wt_pair, wt_unit, wt_int, wt_bool, wt_str] at hw
  obtain ⟨t1, k1, p1, q1, m1, h1⟩ := laws_markRecSlotS_ok n hn x.2.2.2.1.2.2.1 (((((k + 1) + 1) + 1) + 1) + 1) (by omega) (by omega)
  have d1 : decide (k1 < (0 : Int)) = false := decide_eq_false (by omega)
  obtain ⟨t2, k2, p2, q2, m2, h2⟩ := laws_markRecSlotS_ok n hn x.2.2.2.2.1.2.2.1 ((k1 + 1) + 1) (by omega) (by omega)
  have d2 : decide (k2 < (0 : Int)) = false := decide_eq_false (by omega)
  obtain ⟨t3, k3, p3, q3, m3, h3⟩ := laws_markRecMessageS_ok n hn x.2.2.2.2.2.1 k2 (by omega) (by omega)
  have d3 : decide (k3 < (0 : Int)) = false := decide_eq_false (by omega)
  obtain ⟨t4, k4, p4, q4, m4, h4⟩ := laws_markStringS_ok n hn x.2.2.2.2.2.2.1 k3 (by omega) (by omega)
  have d4 : decide (k4 < (0 : Int)) = false := decide_eq_false (by omega)
  obtain ⟨t5, k5, p5, q5, m5, h5⟩ := laws_markIntS_ok n hn x.2.2.2.2.2.2.2.2.2.2.1 (((k4 + 1) + 1) + 1) (by omega) (by omega)
  have d5 : decide (k5 < (0 : Int)) = false := decide_eq_false (by omega)
  obtain ⟨t6, k6, p6, q6, m6, h6⟩ := laws_markRecSlotS_ok n hn x.2.2.2.2.2.2.2.2.2.2.2.1 k5 (by omega) (by omega)
  have d6 : decide (k6 < (0 : Int)) = false := decide_eq_false (by omega)
  obtain ⟨t7, k7, p7, q7, m7, h7⟩ := laws_markRecAckS_ok n hn x.2.2.2.2.2.2.2.2.2.2.2.2.1 k6 (by omega) (by omega)
  have d7 : decide (k7 < (0 : Int)) = false := decide_eq_false (by omega)
  refine ⟨(k, ((k + 1), ((Int.tmod ((k + 1) + 1) (3 : Int) == (0 : Int)), (((((k + 1) + 1) + 1), (((((k + 1) + 1) + 1) + 1), (t1, x.2.2.2.1.2.2.2))), ((k1, ((k1 + 1), (t2, x.2.2.2.2.1.2.2.2))), (t3, (t4, ((Int.tmod k4 (3 : Int) == (0 : Int)), ((Int.tmod (k4 + 1) (3 : Int) == (0 : Int)), (((k4 + 1) + 1), (t5, (t6, (t7, (k7, x.2.2.2.2.2.2.2.2.2.2.2.2.2.2)))))))))))))), (k7 + 1), by omega, by simp only [wt_pair, wt_unit, wt_int, wt_bool, wt_str]; omega, fun next l i hi hl hx => ?_, fun next l i hi hl hx => ?_⟩
  · simp (disch := omega) only [laws_markRecorderS.B2, m1, m2, m3, m4, m5, m6, m7, wrapM, lt_dec hi, in_dec hi, Int.toNat_natCast, List.length_set, getD_set_at hi, List.set_set, hx, Option.bind_some, Bool.or_true, Bool.not_true, Bool.not_false, bne_self_eq_false, beq_self_eq_true, seq_same, Bool.false_eq_true, if_true, if_false, show ((3 : Int) != 0) = true from rfl, Bool.true_and, Bool.and_true]
  · simp (disch := omega) only [laws_heldRecorderS.B2, h1, h2, h3, h4, h5, h6, h7, d1, d2, d3, d4, d5, d6, d7, wrapM, lt_dec hi, in_dec hi, Int.toNat_natCast, List.length_set, getD_set_at hi, List.set_set, hx, Option.bind_some, Bool.or_true, Bool.not_true, Bool.not_false, bne_self_eq_false, beq_self_eq_true, seq_same, Bool.false_eq_true, if_true, if_false, show ((3 : Int) != 0) = true from rfl, Bool.true_and, Bool.and_true]
theorem laws_markRecorderS_ok (n : Nat) (hn : Big n) (x : Ty.den (.slice tRecorder)) (k : Int) (hk : 1 ≤ k) (hw : k + wt (.slice tRecorder) x ≤ 4611686018427387904) : ∃ (s1 : Ty.den (.slice tRecorder)) (k' : Int), k ≤ k' ∧ k' ≤ k + wt (.slice tRecorder) x ∧ laws_markRecorderS.f n x (k, ()) = some (s1, k', ()) ∧ laws_heldRecorderS.f n (s1, k, ()) = some (k', ()) :=
  markS_ok hn (laws_markRecorderS_el n hn _ _) (fun next l k => by simp only [laws_markRecorderS.B2, lt_dec', Bool.false_eq_true, if_false]) (fun next l k => by simp only [laws_heldRecorderS.B2, lt_dec', Bool.false_eq_true, if_false]) x k hk hw
theorem laws_markRecorderS_ok1 (n : Nat) (hn : Big n) (x : Ty.den (.slice tRecorder)) (k : Int) (hk : 1 ≤ k) (hw : k + wt (.slice tRecorder) x ≤ 4611686018427387904) : ∃ (s1 : Ty.den (.slice tRecorder)) (k' : Int), k ≤ k' ∧ k' ≤ k + wt (.slice tRecorder) x ∧ laws_markRecorderS.f n x (k, ()) = some (s1, k', ()) := by
  obtain ⟨s1, k1, p, q, m, _⟩ := laws_markRecorderS_ok n hn x k hk hw
  exact ⟨s1, k1, p, q, m⟩
theorem laws_markRecFixS_el (n : Nat) (hn : Big n) {R1 R2 : Type} (cs1 : Conts R1 laws_markRecFixS.l2.outs) (cs2 : Conts R2 laws_heldRecFixS.l2.outs) : ElOk tRecSlot (laws_markRecFixS.B2 n (R := R1)) cs1 (laws_heldRecFixS.B2 n (R := R2)) cs2 := by
  intro x k hk hw
  simp only [wt_pair, wt_unit, wt_int, wt_bool, wt_str] at hw
  obtain ⟨t1, m1⟩ := laws_markText_ok n hn (k + 1) (by omega) (by omega)
  refine ⟨(k, (t1, x.2.2)), ((k + 1) + 1), by omega, by simp only [wt_pair, wt_unit, wt_int, wt_bool, wt_str]; omega, fun next l i hi hl hx => ?_, fun next l i hi hl hx => ?_⟩
  · simp (disch := omega) only [laws_markRecFixS.B2, m1, wrapM, lt_dec hi, in_dec hi, Int.toNat_natCast, List.length_set, getD_set_at hi, List.set_set, hx, Option.bind_some, Bool.or_true, Bool.not_true, Bool.not_false, bne_self_eq_false, beq_self_eq_true, seq_same, Bool.false_eq_true, if_true, if_false, show ((3 : Int) != 0) = true from rfl, Bool.true_and, Bool.and_true]
  · simp (disch := omega) only [laws_heldRecFixS.B2, m1, wrapM, lt_dec hi, in_dec hi, Int.toNat_natCast, List.length_set, getD_set_at hi, List.set_set, hx, Option.bind_some, Bool.or_true, Bool.not_true, Bool.not_false, bne_self_eq_false, beq_self_eq_true, seq_same, Bool.false_eq_true, if_true, if_false, show ((3 : Int) != 0) = true from rfl, Bool.true_and, Bool.and_true]
theorem laws_markRecFixS_ok (n : Nat) (hn : Big n) (x : Ty.den (.slice tRecSlot)) (k : Int) (hk : 1 ≤ k) (hw : k + wt (.slice tRecSlot) x ≤ 4611686018427387904) : ∃ (s1 : Ty.den (.slice tRecSlot)) (k' : Int), k ≤ k' ∧ k' ≤ k + wt (.slice tRecSlot) x ∧ laws_markRecFixS.f n x (k, ()) = some (s1, k', ()) ∧ laws_heldRecFixS.f n (s1, k, ()) = some (k', ()) :=
  markS_ok hn (laws_markRecFixS_el n hn _ _) (fun next l k => by simp only [laws_markRecFixS.B2, lt_dec', Bool.false_eq_true, if_false]) (fun next l k => by simp only [laws_heldRecFixS.B2, lt_dec', Bool.false_eq_true, if_false]) x k hk hw
theorem laws_markRecFixS_ok1 (n : Nat) (hn : Big n) (x : Ty.den (.slice tRecSlot)) (k : Int) (hk : 1 ≤ k) (hw : k + wt (.slice tRecSlot) x ≤ 4611686018427387904) : ∃ (s1 : Ty.den (.slice tRecSlot)) (k' : Int), k ≤ k' ∧ k' ≤ k + wt (.slice tRecSlot) x ∧ laws_markRecFixS.f n x (k, ()) = some (s1, k', ()) := by
  obtain ⟨s1, k1, p, q, m, _⟩ := laws_markRecFixS_ok n hn x k hk hw
  exact ⟨s1, k1, p, q, m⟩
theorem laws_markRecWorld_ok (n : Nat) (hn : Big n) (x : Ty.den tRecWorld) (k : Int) (hk : 1 ≤ k) (hw : k + wt tRecWorld x ≤ 4611686018427387904) : ∃ (s1 : Ty.den (.slice tRecorder)) (s2 : Ty.den (.slice tRecMessage)) (s3 : Ty.den (.slice tRecSlot)) (k' : Int), k ≤ k' ∧ k' ≤ k + wt tRecWorld x ∧ laws_markRecWorld.f n x (k, ()) = some ((s1, (s2, (s3, x.2.2.2))), k', ()) ∧ laws_heldRecWorld.f n ((s1, (s2, (s3, x.2.2.2))), k, ()) = some (k', ()) := by
  have hw0 := hw
  simp only [wt_pair, wt_unit, wt_int, wt_bool, wt_str] at hw
  obtain ⟨s1, k1, p1, q1, m1, h1⟩ := laws_markRecorderS_ok n hn x.1 k (by omega) (by first | omega | (simp only [wt_pair, wt_unit, wt_int, wt_bool, wt_str]; omega))
  try simp only [wt_pair, wt_unit, wt_int, wt_bool, wt_str] at q1
  have d1 : decide (k1 < (0 : Int)) = false := decide_eq_false (by omega)
  obtain ⟨s2, k2, p2, q2, m2, h2⟩ := laws_markRecMessageS_ok n hn x.2.1 k1 (by omega) (by first | omega | (simp only [wt_pair, wt_unit, wt_int, wt_bool, wt_str]; omega))
  try simp only [wt_pair, wt_unit, wt_int, wt_bool, wt_str] at q2
  have d2 : decide (k2 < (0 : Int)) = false := decide_eq_false (by omega)
  obtain ⟨s3, k3, p3, q3, m3, h3⟩ := laws_markRecFixS_ok n hn x.2.2.1 k2 (by omega) (by first | omega | (simp only [wt_pair, wt_unit, wt_int, wt_bool, wt_str]; omega))
  try simp only [wt_pair, wt_unit, wt_int, wt_bool, wt_str] at q3
  have d3 : decide (k3 < (0 : Int)) = false := decide_eq_false (by omega)
  refine ⟨s1, s2, s3, k3, by omega, by first | omega | (simp only [wt_pair, wt_unit, wt_int, wt_bool, wt_str]; omega), by simp only [laws_markRecWorld.f, m1, m2, m3, Option.bind_some], by simp only [laws_heldRecWorld.f, h1, h2, h3, d1, d2, d3, Option.bind_some, Bool.false_eq_true, if_false]⟩
theorem laws_markRecWorld_ok1 (n : Nat) (hn : Big n) (x : Ty.den tRecWorld) (k : Int) (hk : 1 ≤ k) (hw : k + wt tRecWorld x ≤ 4611686018427387904) : ∃ (s1 : Ty.den (.slice tRecorder)) (s2 : Ty.den (.slice tRecMessage)) (s3 : Ty.den (.slice tRecSlot)) (k' : Int), k ≤ k' ∧ k' ≤ k + wt tRecWorld x ∧ laws_markRecWorld.f n x (k, ()) = some ((s1, (s2, (s3, x.2.2.2))), k', ()) := by
  obtain ⟨s1, s2, s3, k1, p, q, m, _⟩ := laws_markRecWorld_ok n hn x k hk hw
  exact ⟨s1, s2, s3, k1, p, q, m⟩
theorem laws_markHallAskedS_el (n : Nat) (hn : Big n) {R1 R2 : Type} (cs1 : Conts R1 laws_markHallAskedS.l2.outs) (cs2 : Conts R2 laws_heldHallAskedS.l2.outs) : ElOk tHallAsked (laws_markHallAskedS.B2 n (R := R1)) cs1 (laws_heldHallAskedS.B2 n (R := R2)) cs2 := by
  intro x k hk hw
  simp only [wt_pair, wt_unit, wt_int, wt_bool, wt_str] at hw
  obtain ⟨t1, m1⟩ := laws_markText_ok n hn k (by omega) (by omega)
  refine ⟨(t1, ((k + 1), (((k + 1) + 1), (((((k + 1) + 1) + 1), (((((k + 1) + 1) + 1) + 1), ((((((k + 1) + 1) + 1) + 1) + 1), x.2.2.2.1.2.2.2))), x.2.2.2.2)))), ((((((k + 1) + 1) + 1) + 1) + 1) + 1), by omega, by simp only [wt_pair, wt_unit, wt_int, wt_bool, wt_str]; omega, fun next l i hi hl hx => ?_, fun next l i hi hl hx => ?_⟩
  · simp (disch := omega) only [laws_markHallAskedS.B2, m1, wrapM, lt_dec hi, in_dec hi, Int.toNat_natCast, List.length_set, getD_set_at hi, List.set_set, hx, Option.bind_some, Bool.or_true, Bool.not_true, Bool.not_false, bne_self_eq_false, beq_self_eq_true, seq_same, Bool.false_eq_true, if_true, if_false, show ((3 : Int) != 0) = true from rfl, Bool.true_and, Bool.and_true]
  · simp (disch := omega) only [laws_heldHallAskedS.B2, m1, wrapM, lt_dec hi, in_dec hi, Int.toNat_natCast, List.length_set, getD_set_at hi, List.set_set, hx, Option.bind_some, Bool.or_true, Bool.not_true, Bool.not_false, bne_self_eq_false, beq_self_eq_true, seq_same, Bool.false_eq_true, if_true, if_false, show ((3 : Int) != 0) = true from rfl, Bool.true_and, Bool.and_true]
theorem laws_markHallAskedS_ok (n : Nat) (hn : Big n) (x : Ty.den (.slice tHallAsked)) (k : Int) (hk : 1 ≤ k) (hw : k + wt (.slice tHallAsked) x ≤ 4611686018427387904) : ∃ (s1 : Ty.den (.slice tHallAsked)) (k' : Int), k ≤ k' ∧ k' ≤ k + wt (.slice tHallAsked) x ∧ laws_markHallAskedS.f n x (k, ()) = some (s1, k', ()) ∧ laws_heldHallAskedS.f n (s1, k, ()) = some (k', ()) :=
  markS_ok hn (laws_markHallAskedS_el n hn _ _) (fun next l k => by simp only [laws_markHallAskedS.B2, lt_dec', Bool.false_eq_true, if_false]) (fun next l k => by simp only [laws_heldHallAskedS.B2, lt_dec', Bool.false_eq_true, if_false]) x k hk hw
theorem laws_markHallAskedS_ok1 (n : Nat) (hn : Big n) (x : Ty.den (.slice tHallAsked)) (k : Int) (hk : 1 ≤ k) (hw : k + wt (.slice tHallAsked) x ≤ 4611686018427387904) : ∃ (s1 : Ty.den (.slice tHallAsked)) (k' : Int), k ≤ k' ∧ k' ≤ k + wt (.slice tHallAsked) x ∧ laws_markHallAskedS.f n x (k, ()) = some (s1, k', ()) := by
  obtain ⟨s1, k1, p, q, m, _⟩ := laws_markHallAskedS_ok n hn x k hk hw
  exact ⟨s1, k1, p, q, m⟩
theorem laws_markHallWorld_ok (n : Nat) (hn : Big n) (x : Ty.den tHallWorld) (k : Int) (hk : 1 ≤ k) (hw : k + wt tHallWorld x ≤ 4611686018427387904) : ∃ (s1 : Ty.den (.slice tGateTeam)) (s2 : Ty.den (.slice tGateGrant)) (s3 : Ty.den (.slice tRecorder)) (s4 : Ty.den (.slice tRecMessage)) (s5 : Ty.den (.slice tRecSlot)) (s6 : Ty.den (.slice tHallAsked)) (k' : Int), k ≤ k' ∧ k' ≤ k + wt tHallWorld x ∧ laws_markHallWorld.f n x (k, ()) = some (((s1, (s2, x.1.2.2)), ((s3, (s4, (s5, x.2.1.2.2.2))), (x.2.2.1, (s6, x.2.2.2.2)))), k', ()) ∧ laws_heldHallWorld.f n (((s1, (s2, x.1.2.2)), ((s3, (s4, (s5, x.2.1.2.2.2))), (x.2.2.1, (s6, x.2.2.2.2)))), k, ()) = some (k', ()) := by
  have hw0 := hw
  simp only [wt_pair, wt_unit, wt_int, wt_bool, wt_str] at hw
  obtain ⟨s1, s2, k1, p1, q1, m1, h1⟩ := laws_markHallHouse_ok n hn x.1 k (by omega) (by first | omega | (simp only [wt_pair, wt_unit, wt_int, wt_bool, wt_str]; omega))
  try simp only [wt_pair, wt_unit, wt_int, wt_bool, wt_str] at q1
  have d1 : decide (k1 < (0 : Int)) = false := decide_eq_false (by omega)
  obtain ⟨s3, s4, s5, k2, p2, q2, m2, h2⟩ := laws_markRecWorld_ok n hn x.2.1 k1 (by omega) (by first | omega | (simp only [wt_pair, wt_unit, wt_int, wt_bool, wt_str]; omega))
  try simp only [wt_pair, wt_unit, wt_int, wt_bool, wt_str] at q2
  have d2 : decide (k2 < (0 : Int)) = false := decide_eq_false (by omega)
  obtain ⟨s6, k3, p3, q3, m3, h3⟩ := laws_markHallAskedS_ok n hn x.2.2.2.1 k2 (by omega) (by first | omega | (simp only [wt_pair, wt_unit, wt_int, wt_bool, wt_str]; omega))
  try simp only [wt_pair, wt_unit, wt_int, wt_bool, wt_str] at q3
  have d3 : decide (k3 < (0 : Int)) = false := decide_eq_false (by omega)
  refine ⟨s1, s2, s3, s4, s5, s6, k3, by omega, by first | omega | (simp only [wt_pair, wt_unit, wt_int, wt_bool, wt_str]; omega), by simp only [laws_markHallWorld.f, m1, m2, m3, Option.bind_some], by simp only [laws_heldHallWorld.f, h1, h2, h3, d1, d2, d3, Option.bind_some, Bool.false_eq_true, if_false]⟩
theorem laws_markHallWorld_ok1 (n : Nat) (hn : Big n) (x : Ty.den tHallWorld) (k : Int) (hk : 1 ≤ k) (hw : k + wt tHallWorld x ≤ 4611686018427387904) : ∃ (s1 : Ty.den (.slice tGateTeam)) (s2 : Ty.den (.slice tGateGrant)) (s3 : Ty.den (.slice tRecorder)) (s4 : Ty.den (.slice tRecMessage)) (s5 : Ty.den (.slice tRecSlot)) (s6 : Ty.den (.slice tHallAsked)) (k' : Int), k ≤ k' ∧ k' ≤ k + wt tHallWorld x ∧ laws_markHallWorld.f n x (k, ()) = some (((s1, (s2, x.1.2.2)), ((s3, (s4, (s5, x.2.1.2.2.2))), (x.2.2.1, (s6, x.2.2.2.2)))), k', ()) := by
  obtain ⟨s1, s2, s3, s4, s5, s6, k1, p, q, m, _⟩ := laws_markHallWorld_ok n hn x k hk hw
  exact ⟨s1, s2, s3, s4, s5, s6, k1, p, q, m⟩
end Go.Proofs.Ytlbdplafdpgidab
