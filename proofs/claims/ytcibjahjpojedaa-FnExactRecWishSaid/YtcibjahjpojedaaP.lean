import Derived.Test.YtcibjahjpojedaaF0
import Derived.Test.YtcibjahjpojedaaM3
set_option linter.unusedVariables false
set_option linter.unusedSimpArgs false
namespace Go.Proofs.Ytcibjahjpojedaa
open Go.Vm
theorem laws_szRecSlot_ok (n : Nat) (hn : Big n) : SzOk tRecSlot (fun x left => laws_szRecSlot.f n (x, left, ())) := by
  intro x hw
  have e : (fun left => laws_szRecSlot.f n (x, left, ())) = fun left => szStr (ByteArray.size x.2.1) left fun left => some (left, ()) := by kernel_rfl
  show KOk (fun left => laws_szRecSlot.f n (x, left, ())) _
  rw [e]
  exact KOk.congr (szStr_ok (s := ByteArray.size x.2.1) hw.2.1 szEnd_ok) (by first | (simp only [bulk]; done) | (simp only [bulk]; omega))
theorem laws_szRecSlotS_ok (n : Nat) (hn : Big n) : SzOk (.slice tRecSlot) (fun l left => laws_szRecSlotS.f n (l, left, ())) := patSzS_ok (g := fun x left => laws_szRecSlot.f n (x, left, ())) (z := Ty.zero tRecSlot) (laws_szRecSlot_ok n hn) hn
theorem laws_szRecDisk_ok (n : Nat) (hn : Big n) : SzOk tRecDisk (fun x left => laws_szRecDisk.f n (x, left, ())) := by
  intro x hw
  have e : (fun left => laws_szRecDisk.f n (x, left, ())) = fun left => szCall (laws_szRecSlotS.f n (x.2.2.1, left, ())) fun left => some (left, ()) := by kernel_rfl
  show KOk (fun left => laws_szRecDisk.f n (x, left, ())) _
  rw [e]
  exact KOk.congr (szCall_ok (laws_szRecSlotS_ok n hn _ hw.2.2.1) szEnd_ok) (by first | (simp only [bulk]; done) | (simp only [bulk]; omega))
theorem laws_szRecMessage_ok (n : Nat) (hn : Big n) : SzOk tRecMessage (fun x left => laws_szRecMessage.f n (x, left, ())) := by
  intro x hw
  have e : (fun left => laws_szRecMessage.f n (x, left, ())) = fun left => szStr (ByteArray.size x.2.2.2.2.2.2.1) left fun left => szCall (laws_szRecSlotS.f n (x.2.2.2.2.2.2.2.1, left, ())) fun left => some (left, ()) := by kernel_rfl
  show KOk (fun left => laws_szRecMessage.f n (x, left, ())) _
  rw [e]
  exact KOk.congr (szStr_ok (s := ByteArray.size x.2.2.2.2.2.2.1) hw.2.2.2.2.2.2.1 (szCall_ok (laws_szRecSlotS_ok n hn _ hw.2.2.2.2.2.2.2.1) szEnd_ok)) (by first | (simp only [bulk]; done) | (simp only [bulk]; omega))
theorem laws_szRecMessageS_ok (n : Nat) (hn : Big n) : SzOk (.slice tRecMessage) (fun l left => laws_szRecMessageS.f n (l, left, ())) := patSzS_ok (g := fun x left => laws_szRecMessage.f n (x, left, ())) (z := Ty.zero tRecMessage) (laws_szRecMessage_ok n hn) hn
theorem laws_szStringS_ok (n : Nat) (hn : Big n) : SzOk (.slice .str) (fun l left => laws_szStringS.f n (l, left, ())) := patSzStrS_ok hn
theorem laws_szIntS_ok (n : Nat) (hn : Big n) : SzOk (.slice (.int .i64)) (fun l left => laws_szIntS.f n (l, left, ())) := szLen_ok (fun x => by simp [bulk]) (fun l left => rfl)
theorem laws_szRecAck_ok (n : Nat) (hn : Big n) : SzOk tRecAck (fun x left => laws_szRecAck.f n (x, left, ())) := by
  intro x hw
  have e : (fun left => laws_szRecAck.f n (x, left, ())) = fun left => szCall (laws_szIntS.f n (x.2.1, left, ())) fun left => some (left, ()) := by kernel_rfl
  show KOk (fun left => laws_szRecAck.f n (x, left, ())) _
  rw [e]
  exact KOk.congr (szCall_ok (laws_szIntS_ok n hn _ hw.2.1) szEnd_ok) (by first | (simp only [bulk]; done) | (simp only [bulk]; omega))
theorem laws_szRecAckS_ok (n : Nat) (hn : Big n) : SzOk (.slice tRecAck) (fun l left => laws_szRecAckS.f n (l, left, ())) := patSzS_ok (g := fun x left => laws_szRecAck.f n (x, left, ())) (z := Ty.zero tRecAck) (laws_szRecAck_ok n hn) hn
theorem laws_szRecorder_ok (n : Nat) (hn : Big n) : SzOk tRecorder (fun x left => laws_szRecorder.f n (x, left, ())) := by
  intro x hw
  have e : (fun left => laws_szRecorder.f n (x, left, ())) = fun left => szCall (laws_szRecDisk.f n (x.2.2.2.1, left, ())) fun left => szCall (laws_szRecDisk.f n (x.2.2.2.2.1, left, ())) fun left => szCall (laws_szRecMessageS.f n (x.2.2.2.2.2.1, left, ())) fun left => szCall (laws_szStringS.f n (x.2.2.2.2.2.2.1, left, ())) fun left => szCall (laws_szIntS.f n (x.2.2.2.2.2.2.2.2.2.2.1, left, ())) fun left => szCall (laws_szRecSlotS.f n (x.2.2.2.2.2.2.2.2.2.2.2.1, left, ())) fun left => szCall (laws_szRecAckS.f n (x.2.2.2.2.2.2.2.2.2.2.2.2.1, left, ())) fun left => some (left, ()) := by kernel_rfl
  show KOk (fun left => laws_szRecorder.f n (x, left, ())) _
  rw [e]
  exact KOk.congr (szCall_ok (laws_szRecDisk_ok n hn _ hw.2.2.2.1) (szCall_ok (laws_szRecDisk_ok n hn _ hw.2.2.2.2.1) (szCall_ok (laws_szRecMessageS_ok n hn _ hw.2.2.2.2.2.1) (szCall_ok (laws_szStringS_ok n hn _ hw.2.2.2.2.2.2.1) (szCall_ok (laws_szIntS_ok n hn _ hw.2.2.2.2.2.2.2.2.2.2.1) (szCall_ok (laws_szRecSlotS_ok n hn _ hw.2.2.2.2.2.2.2.2.2.2.2.1) (szCall_ok (laws_szRecAckS_ok n hn _ hw.2.2.2.2.2.2.2.2.2.2.2.2.1) szEnd_ok))))))) (by first | (simp only [bulk]; done) | (simp only [bulk]; omega))
theorem laws_toRecSlot_ok (n : Nat) (hn : Big n) (x : Ty.den tRecSlot) (h : small 1048576 tRecSlot x) : laws_toRecSlot.f n (x, ()) = some (x, ()) := rfl
theorem laws_toRecSlotS_ok (n : Nat) (hn : Big n) (x : Ty.den (.slice tRecSlot)) (h : small 1048576 (.slice tRecSlot) x) : laws_toRecSlotS.f n (x, ()) = some (x, ()) := patToS_ok (z := (Ty.zero tRecSlot)) (g := fun x => laws_toRecSlot.f n (x, ())) (fun x hx => laws_toRecSlot_ok n hn x (h.2 x hx)) h.1 (by decide) (by decide) hn
theorem laws_toRecDisk_ok (n : Nat) (hn : Big n) (x : Ty.den tRecDisk) (h : small 1048576 tRecDisk x) : laws_toRecDisk.f n (x, ()) = some (x, ()) := by
  first | (simp only [laws_toRecDisk.f, laws_toRecSlotS_ok n hn _ h.2.2.1, Option.bind_some]; done) | (simp only [laws_toRecDisk.f, laws_toRecSlotS_ok n hn _ h.2.2.1, Option.bind_some]; rfl)
theorem laws_toRecMessage_ok (n : Nat) (hn : Big n) (x : Ty.den tRecMessage) (h : small 1048576 tRecMessage x) : laws_toRecMessage.f n (x, ()) = some (x, ()) := by
  first | (simp only [laws_toRecMessage.f, laws_toRecSlotS_ok n hn _ h.2.2.2.2.2.2.2.1, Option.bind_some]; done) | (simp only [laws_toRecMessage.f, laws_toRecSlotS_ok n hn _ h.2.2.2.2.2.2.2.1, Option.bind_some]; rfl)
theorem laws_toRecMessageS_ok (n : Nat) (hn : Big n) (x : Ty.den (.slice tRecMessage)) (h : small 1048576 (.slice tRecMessage) x) : laws_toRecMessageS.f n (x, ()) = some (x, ()) := patToS_ok (z := (Ty.zero tRecMessage)) (g := fun x => laws_toRecMessage.f n (x, ())) (fun x hx => laws_toRecMessage_ok n hn x (h.2 x hx)) h.1 (by decide) (by decide) hn
theorem laws_toStringS_ok (n : Nat) (hn : Big n) (x : Ty.den (.slice .str)) (h : small 1048576 (.slice .str) x) : laws_toStringS.f n (x, ()) = some (x, ()) := patToS_ok (z := (⟨#[]⟩ : ByteArray)) (g := fun x => some (x, ())) (fun x _ => rfl) h.1 (by decide) (by decide) hn
theorem laws_toIntS_ok (n : Nat) (hn : Big n) (x : Ty.den (.slice (.int .i64))) (h : small 1048576 (.slice (.int .i64)) x) : laws_toIntS.f n (x, ()) = some (x, ()) := patToS_ok (z := (0 : Int)) (g := fun x => some (x, ())) (fun x _ => rfl) h.1 (by decide) (by decide) hn
theorem laws_toRecAck_ok (n : Nat) (hn : Big n) (x : Ty.den tRecAck) (h : small 1048576 tRecAck x) : laws_toRecAck.f n (x, ()) = some (x, ()) := by
  first | (simp only [laws_toRecAck.f, laws_toIntS_ok n hn _ h.2.1, Option.bind_some]; done) | (simp only [laws_toRecAck.f, laws_toIntS_ok n hn _ h.2.1, Option.bind_some]; rfl)
theorem laws_toRecAckS_ok (n : Nat) (hn : Big n) (x : Ty.den (.slice tRecAck)) (h : small 1048576 (.slice tRecAck) x) : laws_toRecAckS.f n (x, ()) = some (x, ()) := patToS_ok (z := (Ty.zero tRecAck)) (g := fun x => laws_toRecAck.f n (x, ())) (fun x hx => laws_toRecAck_ok n hn x (h.2 x hx)) h.1 (by decide) (by decide) hn
theorem laws_toRecorder_ok (n : Nat) (hn : Big n) (x : Ty.den tRecorder) (h : small 1048576 tRecorder x) : laws_toRecorder.f n (x, ()) = some (x, ()) := by
  first | (simp only [laws_toRecorder.f, laws_toRecDisk_ok n hn _ h.2.2.2.1, laws_toRecDisk_ok n hn _ h.2.2.2.2.1, laws_toRecMessageS_ok n hn _ h.2.2.2.2.2.1, laws_toStringS_ok n hn _ h.2.2.2.2.2.2.1, laws_toIntS_ok n hn _ h.2.2.2.2.2.2.2.2.2.2.1, laws_toRecSlotS_ok n hn _ h.2.2.2.2.2.2.2.2.2.2.2.1, laws_toRecAckS_ok n hn _ h.2.2.2.2.2.2.2.2.2.2.2.2.1, Option.bind_some]; done) | (simp only [laws_toRecorder.f, laws_toRecDisk_ok n hn _ h.2.2.2.1, laws_toRecDisk_ok n hn _ h.2.2.2.2.1, laws_toRecMessageS_ok n hn _ h.2.2.2.2.2.1, laws_toStringS_ok n hn _ h.2.2.2.2.2.2.1, laws_toIntS_ok n hn _ h.2.2.2.2.2.2.2.2.2.2.1, laws_toRecSlotS_ok n hn _ h.2.2.2.2.2.2.2.2.2.2.2.1, laws_toRecAckS_ok n hn _ h.2.2.2.2.2.2.2.2.2.2.2.2.1, Option.bind_some]; rfl)
theorem laws_eqRecSlot_ok (n : Nat) (hn : Big n) (x : Tup [tRecSlot, tRecSlot]) (h : small 1048576 tRecSlot x.1) : laws_eqRecSlot.f n x = some (eqD tRecSlot x.1 x.2.1, ()) :=
  (eqLeaf_not ((x.1.1 == x.2.1.1)) (eqLeaf_not (seq x.1.2.1 x.2.1.2.1) rfl))
theorem laws_eqRecSlotS_ok (n : Nat) (hn : Big n) (x : Tup [.slice tRecSlot, .slice tRecSlot]) (h : small 1048576 (.slice tRecSlot) x.1) : laws_eqRecSlotS.f n x = some (eqD (.slice tRecSlot) x.1 x.2.1, ()) := patEqS_ok (e := tRecSlot) (z := (Ty.zero tRecSlot)) (g := fun x y => laws_eqRecSlot.f n (x, y, ())) (fun x hx y => laws_eqRecSlot_ok n hn (x, y, ()) (h.2 x hx)) h.1 hn
theorem laws_eqRecDisk_ok (n : Nat) (hn : Big n) (x : Tup [tRecDisk, tRecDisk]) (h : small 1048576 tRecDisk x.1) : laws_eqRecDisk.f n x = some (eqD tRecDisk x.1 x.2.1, ()) :=
  (eqLeaf_not ((x.1.1 == x.2.1.1)) (eqLeaf_not ((x.1.2.1 == x.2.1.2.1)) (eqCall_ok (laws_eqRecSlotS_ok n hn _ h.2.2.1) rfl)))
theorem laws_eqRecMessage_ok (n : Nat) (hn : Big n) (x : Tup [tRecMessage, tRecMessage]) (h : small 1048576 tRecMessage x.1) : laws_eqRecMessage.f n x = some (eqD tRecMessage x.1 x.2.1, ()) :=
  (eqLeaf_not ((x.1.1 == x.2.1.1)) (eqLeaf_not ((x.1.2.1 == x.2.1.2.1)) (eqLeaf_not ((x.1.2.2.1 == x.2.1.2.2.1)) (eqLeaf_not ((x.1.2.2.2.1 == x.2.1.2.2.2.1)) (eqLeaf_not ((x.1.2.2.2.2.1 == x.2.1.2.2.2.2.1)) (eqLeaf_not ((x.1.2.2.2.2.2.1 == x.2.1.2.2.2.2.2.1)) (eqLeaf_not (seq x.1.2.2.2.2.2.2.1 x.2.1.2.2.2.2.2.2.1) (eqCall_ok (laws_eqRecSlotS_ok n hn _ h.2.2.2.2.2.2.2.1) rfl))))))))
theorem laws_eqRecMessageS_ok (n : Nat) (hn : Big n) (x : Tup [.slice tRecMessage, .slice tRecMessage]) (h : small 1048576 (.slice tRecMessage) x.1) : laws_eqRecMessageS.f n x = some (eqD (.slice tRecMessage) x.1 x.2.1, ()) := patEqS_ok (e := tRecMessage) (z := (Ty.zero tRecMessage)) (g := fun x y => laws_eqRecMessage.f n (x, y, ())) (fun x hx y => laws_eqRecMessage_ok n hn (x, y, ()) (h.2 x hx)) h.1 hn
theorem laws_eqStringS_ok (n : Nat) (hn : Big n) (x : Tup [.slice .str, .slice .str]) (h : small 1048576 (.slice .str) x.1) : laws_eqStringS.f n x = some (eqD (.slice .str) x.1 x.2.1, ()) := patEqS_ok (e := .str) (z := (⟨#[]⟩ : ByteArray)) (g := fun x y => some (eqD .str x y, ())) (fun x _ y => rfl) h.1 hn
theorem laws_eqIntS_ok (n : Nat) (hn : Big n) (x : Tup [.slice (.int .i64), .slice (.int .i64)]) (h : small 1048576 (.slice (.int .i64)) x.1) : laws_eqIntS.f n x = some (eqD (.slice (.int .i64)) x.1 x.2.1, ()) := patEqS_ok (e := (.int .i64)) (z := (0 : Int)) (g := fun x y => some (eqD (.int .i64) x y, ())) (fun x _ y => rfl) h.1 hn
theorem laws_eqRecAck_ok (n : Nat) (hn : Big n) (x : Tup [tRecAck, tRecAck]) (h : small 1048576 tRecAck x.1) : laws_eqRecAck.f n x = some (eqD tRecAck x.1 x.2.1, ()) :=
  (eqLeaf_not ((x.1.1 == x.2.1.1)) (eqCall_ok (laws_eqIntS_ok n hn _ h.2.1) rfl))
theorem laws_eqRecAckS_ok (n : Nat) (hn : Big n) (x : Tup [.slice tRecAck, .slice tRecAck]) (h : small 1048576 (.slice tRecAck) x.1) : laws_eqRecAckS.f n x = some (eqD (.slice tRecAck) x.1 x.2.1, ()) := patEqS_ok (e := tRecAck) (z := (Ty.zero tRecAck)) (g := fun x y => laws_eqRecAck.f n (x, y, ())) (fun x hx y => laws_eqRecAck_ok n hn (x, y, ()) (h.2 x hx)) h.1 hn
theorem laws_eqRecorder_ok (n : Nat) (hn : Big n) (x : Tup [tRecorder, tRecorder]) (h : small 1048576 tRecorder x.1) : laws_eqRecorder.f n x = some (eqD tRecorder x.1 x.2.1, ()) :=
  (eqLeaf_not ((x.1.1 == x.2.1.1)) (eqLeaf_not ((x.1.2.1 == x.2.1.2.1)) (eqLeaf_not ((x.1.2.2.1 == x.2.1.2.2.1)) (eqCall_ok (laws_eqRecDisk_ok n hn _ h.2.2.2.1) (eqCall_ok (laws_eqRecDisk_ok n hn _ h.2.2.2.2.1) (eqCall_ok (laws_eqRecMessageS_ok n hn _ h.2.2.2.2.2.1) (eqCall_ok (laws_eqStringS_ok n hn _ h.2.2.2.2.2.2.1) (eqLeaf_not ((x.1.2.2.2.2.2.2.2.1 == x.2.1.2.2.2.2.2.2.2.1)) (eqLeaf_not ((x.1.2.2.2.2.2.2.2.2.1 == x.2.1.2.2.2.2.2.2.2.2.1)) (eqLeaf_not ((x.1.2.2.2.2.2.2.2.2.2.1 == x.2.1.2.2.2.2.2.2.2.2.2.1)) (eqCall_ok (laws_eqIntS_ok n hn _ h.2.2.2.2.2.2.2.2.2.2.1) (eqCall_ok (laws_eqRecSlotS_ok n hn _ h.2.2.2.2.2.2.2.2.2.2.2.1) (eqCall_ok (laws_eqRecAckS_ok n hn _ h.2.2.2.2.2.2.2.2.2.2.2.2.1) (eqLeaf_not ((x.1.2.2.2.2.2.2.2.2.2.2.2.2.2.1 == x.2.1.2.2.2.2.2.2.2.2.2.2.2.2.2.1)) rfl))))))))))))))
theorem bind_congr1 {α β : Type} {a b : Option α} {f : α → Option β} (h : a = b) : a.bind f = b.bind f := by rw [h]
attribute [local congr] bind_congr1
theorem laws_markText_ok (n : Nat) (hn : Big n) (k : Int) (hk : 1 ≤ k) (hw : k ≤ 4611686018427387904) : ∃ s, laws_markText.f n (k, ()) = some (s, ()) := by
  have hn : 18446744073709551616 ≤ n := hn
  obtain ⟨m, rfl⟩ : ∃ m : Nat, k = m := ⟨k.toNat, by omega⟩
  unfold laws_markText.f
  rw [if_neg (by rw [decide_eq_true_eq]; show ¬ ((m : Int) ≤ 0); omega)]
  obtain ⟨t, ht, hr⟩ := markText_run (B := laws_markText.B4 n) (cs := ((fun z1 => if (decide ((ByteArray.size (⟨#[109]⟩ : ByteArray) : Int) + (ByteArray.size z1.1 : Int) ≤ 9223372036854775807)) = true then some ((scat (⟨#[109]⟩ : ByteArray) z1.1), ()) else none), ())) (dn := fun s => if (decide ((ByteArray.size (⟨#[109]⟩ : ByteArray) : Int) + (ByteArray.size s : Int) ≤ 9223372036854775807)) = true then some ((scat (⟨#[109]⟩ : ByteArray) s), ()) else none)
    (fun next s => by simp only [laws_markText.B4, show decide ((0 : Int) > 0) = false from rfl, Bool.false_eq_true, if_false])
    (fun next k s h1 h2 => ⟨_, (scat_size _ s).trans (by rw [ofBytes_one]; omega), by
      simp only [laws_markText.B4]
      rw [if_pos (decide_eq_true (show k > 0 by omega)), if_pos (by decide), if_pos (decide_eq_true (by rw [ofBytes_one]; show ((1 : Nat) : Int) + (ByteArray.size s : Int) ≤ 9223372036854775807; omega)), if_pos (by decide), wrapM (Int.tdiv_nonneg (by omega) (by omega)) (by rw [Int.tdiv_eq_ediv_of_nonneg (by omega)]; omega)]⟩)
    n m (⟨#[]⟩ : ByteArray) (by have : ByteArray.size (⟨#[]⟩ : ByteArray) = 0 := rfl; omega) (by omega)
  have h0 : ByteArray.size (⟨#[]⟩ : ByteArray) = 0 := rfl
  have h9 : ByteArray.size (⟨#[109]⟩ : ByteArray) = 1 := rfl
  exact ⟨_, hr.trans (if_pos (decide_eq_true (by rw [h9]; omega)))⟩
theorem laws_markRecSlotS_el (n : Nat) (hn : Big n) {R1 R2 : Type} (cs1 : Conts R1 laws_markRecSlotS.l2.outs) (cs2 : Conts R2 laws_heldRecSlotS.l2.outs) : ElOk tRecSlot (laws_markRecSlotS.B2 n (R := R1)) cs1 (laws_heldRecSlotS.B2 n (R := R2)) cs2 := by
  intro x k hk hw
  simp only [wt_pair, wt_unit, wt_int, wt_bool, wt_str] at hw
  obtain ⟨t1, m1⟩ := laws_markText_ok n hn (k + 1) (by omega) (by omega)
  refine ⟨(k, (t1, x.2.2)), ((k + 1) + 1), by omega, by simp only [wt_pair, wt_unit, wt_int, wt_bool, wt_str]; omega, fun next l i hi hl hx => ?_, fun next l i hi hl hx => ?_⟩
  · simp (disch := omega) only [laws_markRecSlotS.B2, m1, wrapM, lt_dec hi, in_dec hi, Int.toNat_natCast, List.length_set, getD_set_at hi, List.set_set, hx, Option.bind_some, Bool.or_true, Bool.not_true, Bool.not_false, bne_self_eq_false, beq_self_eq_true, seq_same, Bool.false_eq_true, if_true, if_false, show ((3 : Int) != 0) = true from rfl, Bool.true_and, Bool.and_true]
  · simp (disch := omega) only [laws_heldRecSlotS.B2, m1, wrapM, lt_dec hi, in_dec hi, Int.toNat_natCast, List.length_set, getD_set_at hi, List.set_set, hx, Option.bind_some, Bool.or_true, Bool.not_true, Bool.not_false, bne_self_eq_false, beq_self_eq_true, seq_same, Bool.false_eq_true, if_true, if_false, show ((3 : Int) != 0) = true from rfl, Bool.true_and, Bool.and_true]
theorem laws_markRecSlotS_ok (n : Nat) (hn : Big n) (x : Ty.den (.slice tRecSlot)) (k : Int) (hk : 1 ≤ k) (hw : k + wt (.slice tRecSlot) x ≤ 4611686018427387904) : ∃ (s1 : Ty.den (.slice tRecSlot)) (k' : Int), k ≤ k' ∧ k' ≤ k + wt (.slice tRecSlot) x ∧ laws_markRecSlotS.f n x (k, ()) = some (s1, k', ()) ∧ laws_heldRecSlotS.f n (s1, k, ()) = some (k', ()) :=
  markS_ok hn (laws_markRecSlotS_el n hn _ _) (fun next l k => by simp only [laws_markRecSlotS.B2, lt_dec', Bool.false_eq_true, if_false]) (fun next l k => by simp only [laws_heldRecSlotS.B2, lt_dec', Bool.false_eq_true, if_false]) x k hk hw
theorem laws_markRecSlotS_ok1 (n : Nat) (hn : Big n) (x : Ty.den (.slice tRecSlot)) (k : Int) (hk : 1 ≤ k) (hw : k + wt (.slice tRecSlot) x ≤ 4611686018427387904) : ∃ (s1 : Ty.den (.slice tRecSlot)) (k' : Int), k ≤ k' ∧ k' ≤ k + wt (.slice tRecSlot) x ∧ laws_markRecSlotS.f n x (k, ()) = some (s1, k', ()) := by
  obtain ⟨s1, k1, p, q, m, _⟩ := laws_markRecSlotS_ok n hn x k hk hw
  exact ⟨s1, k1, p, q, m⟩
theorem laws_markRecDisk_ok (n : Nat) (hn : Big n) (x : Ty.den tRecDisk) (k : Int) (hk : 1 ≤ k) (hw : k + wt tRecDisk x ≤ 4611686018427387904) : ∃ (s1 : Ty.den (.slice tRecSlot)) (k' : Int), k ≤ k' ∧ k' ≤ k + wt tRecDisk x ∧ laws_markRecDisk.f n x (k, ()) = some ((x.1, (x.2.1, (s1, x.2.2.2))), k', ()) ∧ laws_heldRecDisk.f n ((x.1, (x.2.1, (s1, x.2.2.2))), k, ()) = some (k', ()) := by
  have hw0 := hw
  simp only [wt_pair, wt_unit, wt_int, wt_bool, wt_str] at hw
  obtain ⟨s1, k1, p1, q1, m1, h1⟩ := laws_markRecSlotS_ok n hn x.2.2.1 k (by omega) (by first | omega | (simp only [wt_pair, wt_unit, wt_int, wt_bool, wt_str]; omega))
  try simp only [wt_pair, wt_unit, wt_int, wt_bool, wt_str] at q1
  have d1 : decide (k1 < (0 : Int)) = false := decide_eq_false (by omega)
  refine ⟨s1, k1, by omega, by first | omega | (simp only [wt_pair, wt_unit, wt_int, wt_bool, wt_str]; omega), by simp only [laws_markRecDisk.f, m1, Option.bind_some], by simp only [laws_heldRecDisk.f, h1, d1, Option.bind_some, Bool.false_eq_true, if_false]⟩
theorem laws_markRecDisk_ok1 (n : Nat) (hn : Big n) (x : Ty.den tRecDisk) (k : Int) (hk : 1 ≤ k) (hw : k + wt tRecDisk x ≤ 4611686018427387904) : ∃ (s1 : Ty.den (.slice tRecSlot)) (k' : Int), k ≤ k' ∧ k' ≤ k + wt tRecDisk x ∧ laws_markRecDisk.f n x (k, ()) = some ((x.1, (x.2.1, (s1, x.2.2.2))), k', ()) := by
  obtain ⟨s1, k1, p, q, m, _⟩ := laws_markRecDisk_ok n hn x k hk hw
  exact ⟨s1, k1, p, q, m⟩
theorem laws_markRecMessageS_el (n : Nat) (hn : Big n) {R1 R2 : Type} (cs1 : Conts R1 laws_markRecMessageS.l2.outs) (cs2 : Conts R2 laws_heldRecMessageS.l2.outs) : ElOk tRecMessage (laws_markRecMessageS.B2 n (R := R1)) cs1 (laws_heldRecMessageS.B2 n (R := R2)) cs2 := by
  intro x k hk hw
  simp only [wt_pair, wt_unit, wt_int, wt_bool, wt_str] at hw
  obtain ⟨t1, m1⟩ := laws_markText_ok n hn ((((((k + 1) + 1) + 1) + 1) + 1) + 1) (by omega) (by omega)
  obtain ⟨t2, k2, p2, q2, m2, h2⟩ := laws_markRecSlotS_ok n hn x.2.2.2.2.2.2.2.1 (((((((k + 1) + 1) + 1) + 1) + 1) + 1) + 1) (by omega) (by omega)
  have d2 : decide (k2 < (0 : Int)) = false := decide_eq_false (by omega)
  refine ⟨(k, ((k + 1), (((k + 1) + 1), ((((k + 1) + 1) + 1), (((((k + 1) + 1) + 1) + 1), ((((((k + 1) + 1) + 1) + 1) + 1), (t1, (t2, x.2.2.2.2.2.2.2.2)))))))), k2, by omega, by simp only [wt_pair, wt_unit, wt_int, wt_bool, wt_str]; omega, fun next l i hi hl hx => ?_, fun next l i hi hl hx => ?_⟩
  · simp (disch := omega) only [laws_markRecMessageS.B2, m1, m2, wrapM, lt_dec hi, in_dec hi, Int.toNat_natCast, List.length_set, getD_set_at hi, List.set_set, hx, Option.bind_some, Bool.or_true, Bool.not_true, Bool.not_false, bne_self_eq_false, beq_self_eq_true, seq_same, Bool.false_eq_true, if_true, if_false, show ((3 : Int) != 0) = true from rfl, Bool.true_and, Bool.and_true]
  · simp (disch := omega) only [laws_heldRecMessageS.B2, m1, h2, d2, wrapM, lt_dec hi, in_dec hi, Int.toNat_natCast, List.length_set, getD_set_at hi, List.set_set, hx, Option.bind_some, Bool.or_true, Bool.not_true, Bool.not_false, bne_self_eq_false, beq_self_eq_true, seq_same, Bool.false_eq_true, if_true, if_false, show ((3 : Int) != 0) = true from rfl, Bool.true_and, Bool.and_true]
theorem laws_markRecMessageS_ok (n : Nat) (hn : Big n) (x : Ty.den (.slice tRecMessage)) (k : Int) (hk : 1 ≤ k) (hw : k + wt (.slice tRecMessage) x ≤ 4611686018427387904) : ∃ (s1 : Ty.den (.slice tRecMessage)) (k' : Int), k ≤ k' ∧ k' ≤ k + wt (.slice tRecMessage) x ∧ laws_markRecMessageS.f n x (k, ()) = some (s1, k', ()) ∧ laws_heldRecMessageS.f n (s1, k, ()) = some (k', ()) :=
  markS_ok hn (laws_markRecMessageS_el n hn _ _) (fun next l k => by simp only [laws_markRecMessageS.B2, lt_dec', Bool.false_eq_true, if_false]) (fun next l k => by simp only [laws_heldRecMessageS.B2, lt_dec', Bool.false_eq_true, if_false]) x k hk hw
theorem laws_markRecMessageS_ok1 (n : Nat) (hn : Big n) (x : Ty.den (.slice tRecMessage)) (k : Int) (hk : 1 ≤ k) (hw : k + wt (.slice tRecMessage) x ≤ 4611686018427387904) : ∃ (s1 : Ty.den (.slice tRecMessage)) (k' : Int), k ≤ k' ∧ k' ≤ k + wt (.slice tRecMessage) x ∧ laws_markRecMessageS.f n x (k, ()) = some (s1, k', ()) := by
  obtain ⟨s1, k1, p, q, m, _⟩ := laws_markRecMessageS_ok n hn x k hk hw
  exact ⟨s1, k1, p, q, m⟩
theorem laws_markStringS_el (n : Nat) (hn : Big n) {R1 R2 : Type} (cs1 : Conts R1 laws_markStringS.l2.outs) (cs2 : Conts R2 laws_heldStringS.l2.outs) : ElOk .str (laws_markStringS.B2 n (R := R1)) cs1 (laws_heldStringS.B2 n (R := R2)) cs2 := by
  intro x k hk hw
  simp only [wt_pair, wt_unit, wt_int, wt_bool, wt_str] at hw
  obtain ⟨t1, m1⟩ := laws_markText_ok n hn k (by omega) (by omega)
  refine ⟨t1, (k + 1), by omega, by simp only [wt_pair, wt_unit, wt_int, wt_bool, wt_str]; omega, fun next l i hi hl hx => ?_, fun next l i hi hl hx => ?_⟩
  · simp (disch := omega) only [laws_markStringS.B2, m1, wrapM, lt_dec hi, in_dec hi, Int.toNat_natCast, List.length_set, getD_set_at hi, List.set_set, hx, Option.bind_some, Bool.or_true, Bool.not_true, Bool.not_false, bne_self_eq_false, beq_self_eq_true, seq_same, Bool.false_eq_true, if_true, if_false, show ((3 : Int) != 0) = true from rfl, Bool.true_and, Bool.and_true]
  · simp (disch := omega) only [laws_heldStringS.B2, m1, wrapM, lt_dec hi, in_dec hi, Int.toNat_natCast, List.length_set, getD_set_at hi, List.set_set, hx, Option.bind_some, Bool.or_true, Bool.not_true, Bool.not_false, bne_self_eq_false, beq_self_eq_true, seq_same, Bool.false_eq_true, if_true, if_false, show ((3 : Int) != 0) = true from rfl, Bool.true_and, Bool.and_true]
theorem laws_markStringS_ok (n : Nat) (hn : Big n) (x : Ty.den (.slice .str)) (k : Int) (hk : 1 ≤ k) (hw : k + wt (.slice .str) x ≤ 4611686018427387904) : ∃ (s1 : Ty.den (.slice .str)) (k' : Int), k ≤ k' ∧ k' ≤ k + wt (.slice .str) x ∧ laws_markStringS.f n x (k, ()) = some (s1, k', ()) ∧ laws_heldStringS.f n (s1, k, ()) = some (k', ()) :=
  markS_ok hn (laws_markStringS_el n hn _ _) (fun next l k => by simp only [laws_markStringS.B2, lt_dec', Bool.false_eq_true, if_false]) (fun next l k => by simp only [laws_heldStringS.B2, lt_dec', Bool.false_eq_true, if_false]) x k hk hw
theorem laws_markStringS_ok1 (n : Nat) (hn : Big n) (x : Ty.den (.slice .str)) (k : Int) (hk : 1 ≤ k) (hw : k + wt (.slice .str) x ≤ 4611686018427387904) : ∃ (s1 : Ty.den (.slice .str)) (k' : Int), k ≤ k' ∧ k' ≤ k + wt (.slice .str) x ∧ laws_markStringS.f n x (k, ()) = some (s1, k', ()) := by
  obtain ⟨s1, k1, p, q, m, _⟩ := laws_markStringS_ok n hn x k hk hw
  exact ⟨s1, k1, p, q, m⟩
theorem laws_markIntS_el (n : Nat) (hn : Big n) {R1 R2 : Type} (cs1 : Conts R1 laws_markIntS.l2.outs) (cs2 : Conts R2 laws_heldIntS.l2.outs) : ElOk (.int .i64) (laws_markIntS.B2 n (R := R1)) cs1 (laws_heldIntS.B2 n (R := R2)) cs2 := by
  intro x k hk hw
  simp only [wt_pair, wt_unit, wt_int, wt_bool, wt_str] at hw
  refine ⟨k, (k + 1), by omega, by simp only [wt_pair, wt_unit, wt_int, wt_bool, wt_str]; omega, fun next l i hi hl hx => ?_, fun next l i hi hl hx => ?_⟩
  · simp (disch := omega) only [laws_markIntS.B2, wrapM, lt_dec hi, in_dec hi, Int.toNat_natCast, List.length_set, getD_set_at hi, List.set_set, hx, Option.bind_some, Bool.or_true, Bool.not_true, Bool.not_false, bne_self_eq_false, beq_self_eq_true, seq_same, Bool.false_eq_true, if_true, if_false, show ((3 : Int) != 0) = true from rfl, Bool.true_and, Bool.and_true]
  · simp (disch := omega) only [laws_heldIntS.B2, wrapM, lt_dec hi, in_dec hi, Int.toNat_natCast, List.length_set, getD_set_at hi, List.set_set, hx, Option.bind_some, Bool.or_true, Bool.not_true, Bool.not_false, bne_self_eq_false, beq_self_eq_true, seq_same, Bool.false_eq_true, if_true, if_false, show ((3 : Int) != 0) = true from rfl, Bool.true_and, Bool.and_true]
theorem laws_markIntS_ok (n : Nat) (hn : Big n) (x : Ty.den (.slice (.int .i64))) (k : Int) (hk : 1 ≤ k) (hw : k + wt (.slice (.int .i64)) x ≤ 4611686018427387904) : ∃ (s1 : Ty.den (.slice (.int .i64))) (k' : Int), k ≤ k' ∧ k' ≤ k + wt (.slice (.int .i64)) x ∧ laws_markIntS.f n x (k, ()) = some (s1, k', ()) ∧ laws_heldIntS.f n (s1, k, ()) = some (k', ()) :=
  markS_ok hn (laws_markIntS_el n hn _ _) (fun next l k => by simp only [laws_markIntS.B2, lt_dec', Bool.false_eq_true, if_false]) (fun next l k => by simp only [laws_heldIntS.B2, lt_dec', Bool.false_eq_true, if_false]) x k hk hw
theorem laws_markIntS_ok1 (n : Nat) (hn : Big n) (x : Ty.den (.slice (.int .i64))) (k : Int) (hk : 1 ≤ k) (hw : k + wt (.slice (.int .i64)) x ≤ 4611686018427387904) : ∃ (s1 : Ty.den (.slice (.int .i64))) (k' : Int), k ≤ k' ∧ k' ≤ k + wt (.slice (.int .i64)) x ∧ laws_markIntS.f n x (k, ()) = some (s1, k', ()) := by
  obtain ⟨s1, k1, p, q, m, _⟩ := laws_markIntS_ok n hn x k hk hw
  exact ⟨s1, k1, p, q, m⟩
theorem laws_markRecAckS_el (n : Nat) (hn : Big n) {R1 R2 : Type} (cs1 : Conts R1 laws_markRecAckS.l2.outs) (cs2 : Conts R2 laws_heldRecAckS.l2.outs) : ElOk tRecAck (laws_markRecAckS.B2 n (R := R1)) cs1 (laws_heldRecAckS.B2 n (R := R2)) cs2 := by
  intro x k hk hw
  simp only [wt_pair, wt_unit, wt_int, wt_bool, wt_str] at hw
  obtain ⟨t1, k1, p1, q1, m1, h1⟩ := laws_markIntS_ok n hn x.2.1 (k + 1) (by omega) (by omega)
  have d1 : decide (k1 < (0 : Int)) = false := decide_eq_false (by omega)
  refine ⟨(k, (t1, x.2.2)), k1, by omega, by simp only [wt_pair, wt_unit, wt_int, wt_bool, wt_str]; omega, fun next l i hi hl hx => ?_, fun next l i hi hl hx => ?_⟩
  · simp (disch := omega) only [laws_markRecAckS.B2, m1, wrapM, lt_dec hi, in_dec hi, Int.toNat_natCast, List.length_set, getD_set_at hi, List.set_set, hx, Option.bind_some, Bool.or_true, Bool.not_true, Bool.not_false, bne_self_eq_false, beq_self_eq_true, seq_same, Bool.false_eq_true, if_true, if_false, show ((3 : Int) != 0) = true from rfl, Bool.true_and, Bool.and_true]
  · simp (disch := omega) only [laws_heldRecAckS.B2, h1, d1, wrapM, lt_dec hi, in_dec hi, Int.toNat_natCast, List.length_set, getD_set_at hi, List.set_set, hx, Option.bind_some, Bool.or_true, Bool.not_true, Bool.not_false, bne_self_eq_false, beq_self_eq_true, seq_same, Bool.false_eq_true, if_true, if_false, show ((3 : Int) != 0) = true from rfl, Bool.true_and, Bool.and_true]
theorem laws_markRecAckS_ok (n : Nat) (hn : Big n) (x : Ty.den (.slice tRecAck)) (k : Int) (hk : 1 ≤ k) (hw : k + wt (.slice tRecAck) x ≤ 4611686018427387904) : ∃ (s1 : Ty.den (.slice tRecAck)) (k' : Int), k ≤ k' ∧ k' ≤ k + wt (.slice tRecAck) x ∧ laws_markRecAckS.f n x (k, ()) = some (s1, k', ()) ∧ laws_heldRecAckS.f n (s1, k, ()) = some (k', ()) :=
  markS_ok hn (laws_markRecAckS_el n hn _ _) (fun next l k => by simp only [laws_markRecAckS.B2, lt_dec', Bool.false_eq_true, if_false]) (fun next l k => by simp only [laws_heldRecAckS.B2, lt_dec', Bool.false_eq_true, if_false]) x k hk hw
theorem laws_markRecAckS_ok1 (n : Nat) (hn : Big n) (x : Ty.den (.slice tRecAck)) (k : Int) (hk : 1 ≤ k) (hw : k + wt (.slice tRecAck) x ≤ 4611686018427387904) : ∃ (s1 : Ty.den (.slice tRecAck)) (k' : Int), k ≤ k' ∧ k' ≤ k + wt (.slice tRecAck) x ∧ laws_markRecAckS.f n x (k, ()) = some (s1, k', ()) := by
  obtain ⟨s1, k1, p, q, m, _⟩ := laws_markRecAckS_ok n hn x k hk hw
  exact ⟨s1, k1, p, q, m⟩
theorem laws_markRecorder_ok (n : Nat) (hn : Big n) (x : Ty.den tRecorder) (k : Int) (hk : 1 ≤ k) (hw : k + wt tRecorder x ≤ 4611686018427387904) : ∃ (s1 : Ty.den (.slice tRecSlot)) (s2 : Ty.den (.slice tRecSlot)) (s3 : Ty.den (.slice tRecMessage)) (s4 : Ty.den (.slice .str)) (s5 : Ty.den (.slice (.int .i64))) (s6 : Ty.den (.slice tRecSlot)) (s7 : Ty.den (.slice tRecAck)) (k' : Int), k ≤ k' ∧ k' ≤ k + wt tRecorder x ∧ laws_markRecorder.f n x (k, ()) = some ((x.1, (x.2.1, (x.2.2.1, ((x.2.2.2.1.1, (x.2.2.2.1.2.1, (s1, x.2.2.2.1.2.2.2))), ((x.2.2.2.2.1.1, (x.2.2.2.2.1.2.1, (s2, x.2.2.2.2.1.2.2.2))), (s3, (s4, (x.2.2.2.2.2.2.2.1, (x.2.2.2.2.2.2.2.2.1, (x.2.2.2.2.2.2.2.2.2.1, (s5, (s6, (s7, x.2.2.2.2.2.2.2.2.2.2.2.2.2))))))))))))), k', ()) ∧ laws_heldRecorder.f n ((x.1, (x.2.1, (x.2.2.1, ((x.2.2.2.1.1, (x.2.2.2.1.2.1, (s1, x.2.2.2.1.2.2.2))), ((x.2.2.2.2.1.1, (x.2.2.2.2.1.2.1, (s2, x.2.2.2.2.1.2.2.2))), (s3, (s4, (x.2.2.2.2.2.2.2.1, (x.2.2.2.2.2.2.2.2.1, (x.2.2.2.2.2.2.2.2.2.1, (s5, (s6, (s7, x.2.2.2.2.2.2.2.2.2.2.2.2.2))))))))))))), k, ()) = some (k', ()) := by
  have hw0 := hw
  simp only [wt_pair, wt_unit, wt_int, wt_bool, wt_str] at hw
  obtain ⟨s1, k1, p1, q1, m1, h1⟩ := laws_markRecDisk_ok n hn x.2.2.2.1 k (by omega) (by first | omega | (simp only [wt_pair, wt_unit, wt_int, wt_bool, wt_str]; omega))
  try simp only [wt_pair, wt_unit, wt_int, wt_bool, wt_str] at q1
  have d1 : decide (k1 < (0 : Int)) = false := decide_eq_false (by omega)
  obtain ⟨s2, k2, p2, q2, m2, h2⟩ := laws_markRecDisk_ok n hn x.2.2.2.2.1 k1 (by omega) (by first | omega | (simp only [wt_pair, wt_unit, wt_int, wt_bool, wt_str]; omega))
  try simp only [wt_pair, wt_unit, wt_int, wt_bool, wt_str] at q2
  have d2 : decide (k2 < (0 : Int)) = false := decide_eq_false (by omega)
  obtain ⟨s3, k3, p3, q3, m3, h3⟩ := laws_markRecMessageS_ok n hn x.2.2.2.2.2.1 k2 (by omega) (by first | omega | (simp only [wt_pair, wt_unit, wt_int, wt_bool, wt_str]; omega))
  try simp only [wt_pair, wt_unit, wt_int, wt_bool, wt_str] at q3
  have d3 : decide (k3 < (0 : Int)) = false := decide_eq_false (by omega)
  obtain ⟨s4, k4, p4, q4, m4, h4⟩ := laws_markStringS_ok n hn x.2.2.2.2.2.2.1 k3 (by omega) (by first | omega | (simp only [wt_pair, wt_unit, wt_int, wt_bool, wt_str]; omega))
  try simp only [wt_pair, wt_unit, wt_int, wt_bool, wt_str] at q4
  have d4 : decide (k4 < (0 : Int)) = false := decide_eq_false (by omega)
  obtain ⟨s5, k5, p5, q5, m5, h5⟩ := laws_markIntS_ok n hn x.2.2.2.2.2.2.2.2.2.2.1 k4 (by omega) (by first | omega | (simp only [wt_pair, wt_unit, wt_int, wt_bool, wt_str]; omega))
  try simp only [wt_pair, wt_unit, wt_int, wt_bool, wt_str] at q5
  have d5 : decide (k5 < (0 : Int)) = false := decide_eq_false (by omega)
  obtain ⟨s6, k6, p6, q6, m6, h6⟩ := laws_markRecSlotS_ok n hn x.2.2.2.2.2.2.2.2.2.2.2.1 k5 (by omega) (by first | omega | (simp only [wt_pair, wt_unit, wt_int, wt_bool, wt_str]; omega))
  try simp only [wt_pair, wt_unit, wt_int, wt_bool, wt_str] at q6
  have d6 : decide (k6 < (0 : Int)) = false := decide_eq_false (by omega)
  obtain ⟨s7, k7, p7, q7, m7, h7⟩ := laws_markRecAckS_ok n hn x.2.2.2.2.2.2.2.2.2.2.2.2.1 k6 (by omega) (by first | omega | (simp only [wt_pair, wt_unit, wt_int, wt_bool, wt_str]; omega))
  try simp only [wt_pair, wt_unit, wt_int, wt_bool, wt_str] at q7
  have d7 : decide (k7 < (0 : Int)) = false := decide_eq_false (by omega)
  refine ⟨s1, s2, s3, s4, s5, s6, s7, k7, by omega, by first | omega | (simp only [wt_pair, wt_unit, wt_int, wt_bool, wt_str]; omega), by simp only [laws_markRecorder.f, m1, m2, m3, m4, m5, m6, m7, Option.bind_some], by simp only [laws_heldRecorder.f, h1, h2, h3, h4, h5, h6, h7, d1, d2, d3, d4, d5, d6, d7, Option.bind_some, Bool.false_eq_true, if_false]⟩
theorem laws_markRecorder_ok1 (n : Nat) (hn : Big n) (x : Ty.den tRecorder) (k : Int) (hk : 1 ≤ k) (hw : k + wt tRecorder x ≤ 4611686018427387904) : ∃ (s1 : Ty.den (.slice tRecSlot)) (s2 : Ty.den (.slice tRecSlot)) (s3 : Ty.den (.slice tRecMessage)) (s4 : Ty.den (.slice .str)) (s5 : Ty.den (.slice (.int .i64))) (s6 : Ty.den (.slice tRecSlot)) (s7 : Ty.den (.slice tRecAck)) (k' : Int), k ≤ k' ∧ k' ≤ k + wt tRecorder x ∧ laws_markRecorder.f n x (k, ()) = some ((x.1, (x.2.1, (x.2.2.1, ((x.2.2.2.1.1, (x.2.2.2.1.2.1, (s1, x.2.2.2.1.2.2.2))), ((x.2.2.2.2.1.1, (x.2.2.2.2.1.2.1, (s2, x.2.2.2.2.1.2.2.2))), (s3, (s4, (x.2.2.2.2.2.2.2.1, (x.2.2.2.2.2.2.2.2.1, (x.2.2.2.2.2.2.2.2.2.1, (s5, (s6, (s7, x.2.2.2.2.2.2.2.2.2.2.2.2.2))))))))))))), k', ()) := by
  obtain ⟨s1, s2, s3, s4, s5, s6, s7, k1, p, q, m, _⟩ := laws_markRecorder_ok n hn x k hk hw
  exact ⟨s1, s2, s3, s4, s5, s6, s7, k1, p, q, m⟩
end Go.Proofs.Ytcibjahjpojedaa
