import Derived.Test.YtpdaakbjdfnkhabF0
import Derived.Test.YtpdaakbjdfnkhabM3
set_option linter.unusedVariables false
set_option linter.unusedSimpArgs false
namespace Go.Proofs.Ytpdaakbjdfnkhab
open Go.Vm
theorem laws_szRecSlot_ok (n : Nat) (hn : Big n) : SzOk tRecSlot (fun x left => laws_szRecSlot.f n (x, left, ())) := by
  intro x hw
  have e : (fun left => laws_szRecSlot.f n (x, left, ())) = fun left => szStr (ByteArray.size x.2.1) left fun left => some (left, ()) := by kernel_rfl
  show KOk (fun left => laws_szRecSlot.f n (x, left, ())) _
  rw [e]
  exact KOk.congr (szStr_ok (s := ByteArray.size x.2.1) hw.2.1 szEnd_ok) (by first | (simp only [bulk]; done) | (simp only [bulk]; omega))
theorem laws_szRecSlotS_ok (n : Nat) (hn : Big n) : SzOk (.slice tRecSlot) (fun l left => laws_szRecSlotS.f n (l, left, ())) := patSzS_ok (g := fun x left => laws_szRecSlot.f n (x, left, ())) (z := Ty.zero tRecSlot) (laws_szRecSlot_ok n hn) hn
theorem laws_szRecDisk_ok (n : Nat) (hn : Big n) : SzOk tRecDisk (fun x left => laws_szRecDisk.f n (x, left, ())) := by
  intro x hw
  have e : (fun left => laws_szRecDisk.f n (x, left, ())) = fun left => szCall (laws_szRecSlotS.f n (x.2.2.1, left, ())) fun left => some (left, ()) := by kernel_rfl
  show KOk (fun left => laws_szRecDisk.f n (x, left, ())) _
  rw [e]
  exact KOk.congr (szCall_ok (laws_szRecSlotS_ok n hn _ hw.2.2.1) szEnd_ok) (by first | (simp only [bulk]; done) | (simp only [bulk]; omega))
theorem laws_szRecMessage_ok (n : Nat) (hn : Big n) : SzOk tRecMessage (fun x left => laws_szRecMessage.f n (x, left, ())) := by
  intro x hw
  have e : (fun left => laws_szRecMessage.f n (x, left, ())) = fun left => szStr (ByteArray.size x.2.2.2.2.2.2.1) left fun left => szCall (laws_szRecSlotS.f n (x.2.2.2.2.2.2.2.1, left, ())) fun left => some (left, ()) := by kernel_rfl
  show KOk (fun left => laws_szRecMessage.f n (x, left, ())) _
  rw [e]
  exact KOk.congr (szStr_ok (s := ByteArray.size x.2.2.2.2.2.2.1) hw.2.2.2.2.2.2.1 (szCall_ok (laws_szRecSlotS_ok n hn _ hw.2.2.2.2.2.2.2.1) szEnd_ok)) (by first | (simp only [bulk]; done) | (simp only [bulk]; omega))
theorem laws_szRecMessageS_ok (n : Nat) (hn : Big n) : SzOk (.slice tRecMessage) (fun l left => laws_szRecMessageS.f n (l, left, ())) := patSzS_ok (g := fun x left => laws_szRecMessage.f n (x, left, ())) (z := Ty.zero tRecMessage) (laws_szRecMessage_ok n hn) hn
theorem laws_szStringS_ok (n : Nat) (hn : Big n) : SzOk (.slice .str) (fun l left => laws_szStringS.f n (l, left, ())) := patSzStrS_ok hn
theorem laws_szIntS_ok (n : Nat) (hn : Big n) : SzOk (.slice (.int .i64)) (fun l left => laws_szIntS.f n (l, left, ())) := szLen_ok (fun x => by simp [bulk]) (fun l left => rfl)
theorem laws_szRecAck_ok (n : Nat) (hn : Big n) : SzOk tRecAck (fun x left => laws_szRecAck.f n (x, left, ())) := by
  intro x hw
  have e : (fun left => laws_szRecAck.f n (x, left, ())) = fun left => szCall (laws_szIntS.f n (x.2.1, left, ())) fun left => some (left, ()) := by kernel_rfl
  show KOk (fun left => laws_szRecAck.f n (x, left, ())) _
  rw [e]
  exact KOk.congr (szCall_ok (laws_szIntS_ok n hn _ hw.2.1) szEnd_ok) (by first | (simp only [bulk]; done) | (simp only [bulk]; omega))
theorem laws_szRecAckS_ok (n : Nat) (hn : Big n) : SzOk (.slice tRecAck) (fun l left => laws_szRecAckS.f n (l, left, ())) := patSzS_ok (g := fun x left => laws_szRecAck.f n (x, left, ())) (z := Ty.zero tRecAck) (laws_szRecAck_ok n hn) hn
theorem laws_szRecorder_ok (n : Nat) (hn : Big n) : SzOk tRecorder (fun x left => laws_szRecorder.f n (x, left, ())) := by
  intro x hw
  have e : (fun left => laws_szRecorder.f n (x, left, ())) = fun left => szCall (laws_szRecDisk.f n (x.2.2.2.1, left, ())) fun left => szCall (laws_szRecDisk.f n (x.2.2.2.2.1, left, ())) fun left => szCall (laws_szRecMessageS.f n (x.2.2.2.2.2.1, left, ())) fun left => szCall (laws_szStringS.f n (x.2.2.2.2.2.2.1, left, ())) fun left => szCall (laws_szIntS.f n (x.2.2.2.2.2.2.2.2.2.2.1, left, ())) fun left => szCall (laws_szRecSlotS.f n (x.2.2.2.2.2.2.2.2.2.2.2.1, left, ())) fun left => szCall (laws_szRecAckS.f n (x.2.2.2.2.2.2.2.2.2.2.2.2.1, left, ())) fun left => some (left, ()) := by kernel_rfl
  show KOk (fun left => laws_szRecorder.f n (x, left, ())) _
  rw [e]
  exact KOk.congr (szCall_ok (laws_szRecDisk_ok n hn _ hw.2.2.2.1) (szCall_ok (laws_szRecDisk_ok n hn _ hw.2.2.2.2.1) (szCall_ok (laws_szRecMessageS_ok n hn _ hw.2.2.2.2.2.1) (szCall_ok (laws_szStringS_ok n hn _ hw.2.2.2.2.2.2.1) (szCall_ok (laws_szIntS_ok n hn _ hw.2.2.2.2.2.2.2.2.2.2.1) (szCall_ok (laws_szRecSlotS_ok n hn _ hw.2.2.2.2.2.2.2.2.2.2.2.1) (szCall_ok (laws_szRecAckS_ok n hn _ hw.2.2.2.2.2.2.2.2.2.2.2.2.1) szEnd_ok))))))) (by first | (simp only [bulk]; done) | (simp only [bulk]; omega))
theorem laws_szRecorderS_ok (n : Nat) (hn : Big n) : SzOk (.slice tRecorder) (fun l left => laws_szRecorderS.f n (l, left, ())) := patSzS_ok (g := fun x left => laws_szRecorder.f n (x, left, ())) (z := Ty.zero tRecorder) (laws_szRecorder_ok n hn) hn
theorem laws_szRecFix_ok (n : Nat) (hn : Big n) : SzOk tRecSlot (fun x left => laws_szRecFix.f n (x, left, ())) := by
  intro x hw
  have e : (fun left => laws_szRecFix.f n (x, left, ())) = fun left => szStr (ByteArray.size x.2.1) left fun left => some (left, ()) := by kernel_rfl
  show KOk (fun left => laws_szRecFix.f n (x, left, ())) _
  rw [e]
  exact KOk.congr (szStr_ok (s := ByteArray.size x.2.1) hw.2.1 szEnd_ok) (by first | (simp only [bulk]; done) | (simp only [bulk]; omega))
theorem laws_szRecFixS_ok (n : Nat) (hn : Big n) : SzOk (.slice tRecSlot) (fun l left => laws_szRecFixS.f n (l, left, ())) := patSzS_ok (g := fun x left => laws_szRecFix.f n (x, left, ())) (z := Ty.zero tRecSlot) (laws_szRecFix_ok n hn) hn
theorem laws_szRecWorld_ok (n : Nat) (hn : Big n) : SzOk tRecWorld (fun x left => laws_szRecWorld.f n (x, left, ())) := by
  intro x hw
  have e : (fun left => laws_szRecWorld.f n (x, left, ())) = fun left => szCall (laws_szRecorderS.f n (x.1, left, ())) fun left => szCall (laws_szRecMessageS.f n (x.2.1, left, ())) fun left => szCall (laws_szRecFixS.f n (x.2.2.1, left, ())) fun left => some (left, ()) := by kernel_rfl
  show KOk (fun left => laws_szRecWorld.f n (x, left, ())) _
  rw [e]
  exact KOk.congr (szCall_ok (laws_szRecorderS_ok n hn _ hw.1) (szCall_ok (laws_szRecMessageS_ok n hn _ hw.2.1) (szCall_ok (laws_szRecFixS_ok n hn _ hw.2.2.1) szEnd_ok))) (by first | (simp only [bulk]; done) | (simp only [bulk]; omega))
theorem laws_toRecSlot_ok (n : Nat) (hn : Big n) (x : Ty.den tRecSlot) (h : small 1048576 tRecSlot x) : laws_toRecSlot.f n (x, ()) = some (x, ()) := rfl
theorem laws_toRecSlotS_ok (n : Nat) (hn : Big n) (x : Ty.den (.slice tRecSlot)) (h : small 1048576 (.slice tRecSlot) x) : laws_toRecSlotS.f n (x, ()) = some (x, ()) := patToS_ok (z := (Ty.zero tRecSlot)) (g := fun x => laws_toRecSlot.f n (x, ())) (fun x hx => laws_toRecSlot_ok n hn x (h.2 x hx)) h.1 (by decide) (by decide) hn
theorem laws_toRecDisk_ok (n : Nat) (hn : Big n) (x : Ty.den tRecDisk) (h : small 1048576 tRecDisk x) : laws_toRecDisk.f n (x, ()) = some (x, ()) := by
  first | (simp only [laws_toRecDisk.f, laws_toRecSlotS_ok n hn _ h.2.2.1, Option.bind_some]; done) | (simp only [laws_toRecDisk.f, laws_toRecSlotS_ok n hn _ h.2.2.1, Option.bind_some]; rfl)
theorem laws_toRecMessage_ok (n : Nat) (hn : Big n) (x : Ty.den tRecMessage) (h : small 1048576 tRecMessage x) : laws_toRecMessage.f n (x, ()) = some (x, ()) := by
  first | (simp only [laws_toRecMessage.f, laws_toRecSlotS_ok n hn _ h.2.2.2.2.2.2.2.1, Option.bind_some]; done) | (simp only [laws_toRecMessage.f, laws_toRecSlotS_ok n hn _ h.2.2.2.2.2.2.2.1, Option.bind_some]; rfl)
theorem laws_toRecMessageS_ok (n : Nat) (hn : Big n) (x : Ty.den (.slice tRecMessage)) (h : small 1048576 (.slice tRecMessage) x) : laws_toRecMessageS.f n (x, ()) = some (x, ()) := patToS_ok (z := (Ty.zero tRecMessage)) (g := fun x => laws_toRecMessage.f n (x, ())) (fun x hx => laws_toRecMessage_ok n hn x (h.2 x hx)) h.1 (by decide) (by decide) hn
theorem laws_toStringS_ok (n : Nat) (hn : Big n) (x : Ty.den (.slice .str)) (h : small 1048576 (.slice .str) x) : laws_toStringS.f n (x, ()) = some (x, ()) := patToS_ok (z := (⟨#[]⟩ : ByteArray)) (g := fun x => some (x, ())) (fun x _ => rfl) h.1 (by decide) (by decide) hn
theorem laws_toIntS_ok (n : Nat) (hn : Big n) (x : Ty.den (.slice (.int .i64))) (h : small 1048576 (.slice (.int .i64)) x) : laws_toIntS.f n (x, ()) = some (x, ()) := patToS_ok (z := (0 : Int)) (g := fun x => some (x, ())) (fun x _ => rfl) h.1 (by decide) (by decide) hn
theorem laws_toRecAck_ok (n : Nat) (hn : Big n) (x : Ty.den tRecAck) (h : small 1048576 tRecAck x) : laws_toRecAck.f n (x, ()) = some (x, ()) := by
  first | (simp only [laws_toRecAck.f, laws_toIntS_ok n hn _ h.2.1, Option.bind_some]; done) | (simp only [laws_toRecAck.f, laws_toIntS_ok n hn _ h.2.1, Option.bind_some]; rfl)
theorem laws_toRecAckS_ok (n : Nat) (hn : Big n) (x : Ty.den (.slice tRecAck)) (h : small 1048576 (.slice tRecAck) x) : laws_toRecAckS.f n (x, ()) = some (x, ()) := patToS_ok (z := (Ty.zero tRecAck)) (g := fun x => laws_toRecAck.f n (x, ())) (fun x hx => laws_toRecAck_ok n hn x (h.2 x hx)) h.1 (by decide) (by decide) hn
theorem laws_toRecorder_ok (n : Nat) (hn : Big n) (x : Ty.den tRecorder) (h : small 1048576 tRecorder x) : laws_toRecorder.f n (x, ()) = some (x, ()) := by
  first | (simp only [laws_toRecorder.f, laws_toRecDisk_ok n hn _ h.2.2.2.1, laws_toRecDisk_ok n hn _ h.2.2.2.2.1, laws_toRecMessageS_ok n hn _ h.2.2.2.2.2.1, laws_toStringS_ok n hn _ h.2.2.2.2.2.2.1, laws_toIntS_ok n hn _ h.2.2.2.2.2.2.2.2.2.2.1, laws_toRecSlotS_ok n hn _ h.2.2.2.2.2.2.2.2.2.2.2.1, laws_toRecAckS_ok n hn _ h.2.2.2.2.2.2.2.2.2.2.2.2.1, Option.bind_some]; done) | (simp only [laws_toRecorder.f, laws_toRecDisk_ok n hn _ h.2.2.2.1, laws_toRecDisk_ok n hn _ h.2.2.2.2.1, laws_toRecMessageS_ok n hn _ h.2.2.2.2.2.1, laws_toStringS_ok n hn _ h.2.2.2.2.2.2.1, laws_toIntS_ok n hn _ h.2.2.2.2.2.2.2.2.2.2.1, laws_toRecSlotS_ok n hn _ h.2.2.2.2.2.2.2.2.2.2.2.1, laws_toRecAckS_ok n hn _ h.2.2.2.2.2.2.2.2.2.2.2.2.1, Option.bind_some]; rfl)
theorem laws_toRecorderS_ok (n : Nat) (hn : Big n) (x : Ty.den (.slice tRecorder)) (h : small 1048576 (.slice tRecorder) x) : laws_toRecorderS.f n (x, ()) = some (x, ()) := patToS_ok (z := (Ty.zero tRecorder)) (g := fun x => laws_toRecorder.f n (x, ())) (fun x hx => laws_toRecorder_ok n hn x (h.2 x hx)) h.1 (by decide) (by decide) hn
theorem laws_toRecFix_ok (n : Nat) (hn : Big n) (x : Ty.den tRecSlot) (h : small 1048576 tRecSlot x) : laws_toRecFix.f n (x, ()) = some (x, ()) := rfl
theorem laws_toRecFixS_ok (n : Nat) (hn : Big n) (x : Ty.den (.slice tRecSlot)) (h : small 1048576 (.slice tRecSlot) x) : laws_toRecFixS.f n (x, ()) = some (x, ()) := patToS_ok (z := (Ty.zero tRecSlot)) (g := fun x => laws_toRecFix.f n (x, ())) (fun x hx => laws_toRecFix_ok n hn x (h.2 x hx)) h.1 (by decide) (by decide) hn
theorem laws_toRecWorld_ok (n : Nat) (hn : Big n) (x : Ty.den tRecWorld) (h : small 1048576 tRecWorld x) : laws_toRecWorld.f n (x, ()) = some (x, ()) := by
  first | (simp only [laws_toRecWorld.f, laws_toRecorderS_ok n hn _ h.1, laws_toRecMessageS_ok n hn _ h.2.1, laws_toRecFixS_ok n hn _ h.2.2.1, Option.bind_some]; done) | (simp only [laws_toRecWorld.f, laws_toRecorderS_ok n hn _ h.1, laws_toRecMessageS_ok n hn _ h.2.1, laws_toRecFixS_ok n hn _ h.2.2.1, Option.bind_some]; rfl)
theorem laws_eqRecSlot_ok (n : Nat) (hn : Big n) (x : Tup [tRecSlot, tRecSlot]) (h : small 1048576 tRecSlot x.1) : laws_eqRecSlot.f n x = some (eqD tRecSlot x.1 x.2.1, ()) :=
  (eqLeaf_not ((x.1.1 == x.2.1.1)) (eqLeaf_not (seq x.1.2.1 x.2.1.2.1) rfl))
theorem laws_eqRecSlotS_ok (n : Nat) (hn : Big n) (x : Tup [.slice tRecSlot, .slice tRecSlot]) (h : small 1048576 (.slice tRecSlot) x.1) : laws_eqRecSlotS.f n x = some (eqD (.slice tRecSlot) x.1 x.2.1, ()) := patEqS_ok (e := tRecSlot) (z := (Ty.zero tRecSlot)) (g := fun x y => laws_eqRecSlot.f n (x, y, ())) (fun x hx y => laws_eqRecSlot_ok n hn (x, y, ()) (h.2 x hx)) h.1 hn
theorem laws_eqRecDisk_ok (n : Nat) (hn : Big n) (x : Tup [tRecDisk, tRecDisk]) (h : small 1048576 tRecDisk x.1) : laws_eqRecDisk.f n x = some (eqD tRecDisk x.1 x.2.1, ()) :=
  (eqLeaf_not ((x.1.1 == x.2.1.1)) (eqLeaf_not ((x.1.2.1 == x.2.1.2.1)) (eqCall_ok (laws_eqRecSlotS_ok n hn _ h.2.2.1) rfl)))
theorem laws_eqRecMessage_ok (n : Nat) (hn : Big n) (x : Tup [tRecMessage, tRecMessage]) (h : small 1048576 tRecMessage x.1) : laws_eqRecMessage.f n x = some (eqD tRecMessage x.1 x.2.1, ()) :=
  (eqLeaf_not ((x.1.1 == x.2.1.1)) (eqLeaf_not ((x.1.2.1 == x.2.1.2.1)) (eqLeaf_not ((x.1.2.2.1 == x.2.1.2.2.1)) (eqLeaf_not ((x.1.2.2.2.1 == x.2.1.2.2.2.1)) (eqLeaf_not ((x.1.2.2.2.2.1 == x.2.1.2.2.2.2.1)) (eqLeaf_not ((x.1.2.2.2.2.2.1 == x.2.1.2.2.2.2.2.1)) (eqLeaf_not (seq x.1.2.2.2.2.2.2.1 x.2.1.2.2.2.2.2.2.1) (eqCall_ok (laws_eqRecSlotS_ok n hn _ h.2.2.2.2.2.2.2.1) rfl))))))))
theorem laws_eqRecMessageS_ok (n : Nat) (hn : Big n) (x : Tup [.slice tRecMessage, .slice tRecMessage]) (h : small 1048576 (.slice tRecMessage) x.1) : laws_eqRecMessageS.f n x = some (eqD (.slice tRecMessage) x.1 x.2.1, ()) := patEqS_ok (e := tRecMessage) (z := (Ty.zero tRecMessage)) (g := fun x y => laws_eqRecMessage.f n (x, y, ())) (fun x hx y => laws_eqRecMessage_ok n hn (x, y, ()) (h.2 x hx)) h.1 hn
theorem laws_eqStringS_ok (n : Nat) (hn : Big n) (x : Tup [.slice .str, .slice .str]) (h : small 1048576 (.slice .str) x.1) : laws_eqStringS.f n x = some (eqD (.slice .str) x.1 x.2.1, ()) := patEqS_ok (e := .str) (z := (⟨#[]⟩ : ByteArray)) (g := fun x y => some (eqD .str x y, ())) (fun x _ y => rfl) h.1 hn
theorem laws_eqIntS_ok (n : Nat) (hn : Big n) (x : Tup [.slice (.int .i64), .slice (.int .i64)]) (h : small 1048576 (.slice (.int .i64)) x.1) : laws_eqIntS.f n x = some (eqD (.slice (.int .i64)) x.1 x.2.1, ()) := patEqS_ok (e := (.int .i64)) (z := (0 : Int)) (g := fun x y => some (eqD (.int .i64) x y, ())) (fun x _ y => rfl) h.1 hn
theorem laws_eqRecAck_ok (n : Nat) (hn : Big n) (x : Tup [tRecAck, tRecAck]) (h : small 1048576 tRecAck x.1) : laws_eqRecAck.f n x = some (eqD tRecAck x.1 x.2.1, ()) :=
  (eqLeaf_not ((x.1.1 == x.2.1.1)) (eqCall_ok (laws_eqIntS_ok n hn _ h.2.1) rfl))
theorem laws_eqRecAckS_ok (n : Nat) (hn : Big n) (x : Tup [.slice tRecAck, .slice tRecAck]) (h : small 1048576 (.slice tRecAck) x.1) : laws_eqRecAckS.f n x = some (eqD (.slice tRecAck) x.1 x.2.1, ()) := patEqS_ok (e := tRecAck) (z := (Ty.zero tRecAck)) (g := fun x y => laws_eqRecAck.f n (x, y, ())) (fun x hx y => laws_eqRecAck_ok n hn (x, y, ()) (h.2 x hx)) h.1 hn
theorem laws_eqRecorder_ok (n : Nat) (hn : Big n) (x : Tup [tRecorder, tRecorder]) (h : small 1048576 tRecorder x.1) : laws_eqRecorder.f n x = some (eqD tRecorder x.1 x.2.1, ()) :=
  (eqLeaf_not ((x.1.1 == x.2.1.1)) (eqLeaf_not ((x.1.2.1 == x.2.1.2.1)) (eqLeaf_not ((x.1.2.2.1 == x.2.1.2.2.1)) (eqCall_ok (laws_eqRecDisk_ok n hn _ h.2.2.2.1) (eqCall_ok (laws_eqRecDisk_ok n hn _ h.2.2.2.2.1) (eqCall_ok (laws_eqRecMessageS_ok n hn _ h.2.2.2.2.2.1) (eqCall_ok (laws_eqStringS_ok n hn _ h.2.2.2.2.2.2.1) (eqLeaf_not ((x.1.2.2.2.2.2.2.2.1 == x.2.1.2.2.2.2.2.2.2.1)) (eqLeaf_not ((x.1.2.2.2.2.2.2.2.2.1 == x.2.1.2.2.2.2.2.2.2.2.1)) (eqLeaf_not ((x.1.2.2.2.2.2.2.2.2.2.1 == x.2.1.2.2.2.2.2.2.2.2.2.1)) (eqCall_ok (laws_eqIntS_ok n hn _ h.2.2.2.2.2.2.2.2.2.2.1) (eqCall_ok (laws_eqRecSlotS_ok n hn _ h.2.2.2.2.2.2.2.2.2.2.2.1) (eqCall_ok (laws_eqRecAckS_ok n hn _ h.2.2.2.2.2.2.2.2.2.2.2.2.1) (eqLeaf_not ((x.1.2.2.2.2.2.2.2.2.2.2.2.2.2.1 == x.2.1.2.2.2.2.2.2.2.2.2.2.2.2.2.1)) rfl))))))))))))))
theorem laws_eqRecorderS_ok (n : Nat) (hn : Big n) (x : Tup [.slice tRecorder, .slice tRecorder]) (h : small 1048576 (.slice tRecorder) x.1) : laws_eqRecorderS.f n x = some (eqD (.slice tRecorder) x.1 x.2.1, ()) := patEqS_ok (e := tRecorder) (z := (Ty.zero tRecorder)) (g := fun x y => laws_eqRecorder.f n (x, y, ())) (fun x hx y => laws_eqRecorder_ok n hn (x, y, ()) (h.2 x hx)) h.1 hn
theorem laws_eqRecFix_ok (n : Nat) (hn : Big n) (x : Tup [tRecSlot, tRecSlot]) (h : small 1048576 tRecSlot x.1) : laws_eqRecFix.f n x = some (eqD tRecSlot x.1 x.2.1, ()) :=
  (eqLeaf_not ((x.1.1 == x.2.1.1)) (eqLeaf_not (seq x.1.2.1 x.2.1.2.1) rfl))
theorem laws_eqRecFixS_ok (n : Nat) (hn : Big n) (x : Tup [.slice tRecSlot, .slice tRecSlot]) (h : small 1048576 (.slice tRecSlot) x.1) : laws_eqRecFixS.f n x = some (eqD (.slice tRecSlot) x.1 x.2.1, ()) := patEqS_ok (e := tRecSlot) (z := (Ty.zero tRecSlot)) (g := fun x y => laws_eqRecFix.f n (x, y, ())) (fun x hx y => laws_eqRecFix_ok n hn (x, y, ()) (h.2 x hx)) h.1 hn
theorem laws_eqRecWorld_ok (n : Nat) (hn : Big n) (x : Tup [tRecWorld, tRecWorld]) (h : small 1048576 tRecWorld x.1) : laws_eqRecWorld.f n x = some (eqD tRecWorld x.1 x.2.1, ()) :=
  (eqCall_ok (laws_eqRecorderS_ok n hn _ h.1) (eqCall_ok (laws_eqRecMessageS_ok n hn _ h.2.1) (eqCall_ok (laws_eqRecFixS_ok n hn _ h.2.2.1) rfl)))
theorem bind_congr1 {α β : Type} {a b : Option α} {f : α → Option β} (h : a = b) : a.bind f = b.bind f := by rw [h]
attribute [local congr] bind_congr1
end Go.Proofs.Ytpdaakbjdfnkhab
