/- The row of the law FnExactHallService, out of the contract of its function and the plain law, and its tied card. Conditions: the row's own ('laid': package-level variables start as the program's text lays them; the card ties them). -/
import Derived.Test.YtmdkodbodddhpacDoorRows
import Derived.Test.YtmdkodbodddhpacDoorCards
import Derived.Test.YtmdkodbodddhpacDoorTie
import Derived.Test.YtmdkodbodddhpacDoorQ
import Derived.LaidMore
import Derived.SevenTiedAt
set_option linter.unusedVariables false
namespace Go.Proofs.YtmdkodbodddhpacDoor.fnExactHallService
open Go Go.Vm
def rounds : Nat := 18446744073709551616
theorem own : ownKnob Tryd.prog.godebug = none := by kernel_rfl
theorem amb_of {w : World} (h : laidMetH Tryd.prog Rows.fnExactHallServiceRow.laid w) : Amb.A w := by
  rw [MakeChecks.laidMetH_plain _ _ _ (by kernel_rfl)] at h
  exact fun g hg => match g, hg with
  | _, .head _ => laid_err h (n := "loop.example/wharfhall/impl.errHwNumber") (.tail _ (.tail _ (.tail _ (.tail _ (.tail _ (.head _)))))) (g := 0) (by kernel_rfl) (t := 41) (by kernel_rfl) Tryd.underlying41
theorem door_met (os : Os) (args : Array Value) : laidMetH Tryd.prog Rows.fnExactHallServiceRow.laid ((World.doorLaid Tryd.prog 4000 os).forCall (fun _ _ => 0) ⟨#[], args, []⟩).memory :=
  laidMetH_of_parts3 (fuel := 8) (laidMet_of_run' 8 (by kernel_rfl) (by kernel_rfl)) (by kernel_rfl) (by kernel_rfl)
set_option maxRecDepth 100000 in
theorem lifted (os : Os) (started : os.Started) (H : Type) (enc : TypeId × Value → H) :
    ReturnsInHanded {} Tryd.checked os 3 .any (fun w args => (Rows.fnExactHallServiceSpec.pre enc Tryd.prog Tryd.f3 Rows.fnExactHallServiceRow.domain false w args ∧ laidMetH Tryd.prog Rows.fnExactHallServiceRow.laid w) ∧ sizedMet enc Tryd.prog Tryd.f3 (OpenSpec.ofChange Rows.fnExactHallServiceSpec) false w args)
      (Rows.fnExactHallServiceSpec.post enc Tryd.prog Tryd.f3 false true false false) :=
  law_lifted_laid (C := Tryd.checked) own started (by kernel_rfl) Tryd.func3 (by kernel_rfl) (laws_FnExactHallService.con rounds) (fun w h => amb_of h) (pure_law rounds (Nat.le_refl _)) (dep := 12) (by kernel_rfl) (by kernel_rfl) (by kernel_rfl) (tb := 4) rfl Tryd.underlying4
    (fun ds gs h h' => by
      match ds, gs, h, h' with
      | [d0, d1], [g0], _, _ => rfl)
    (ChangeSpec.witness_shaped (enc := enc) (C := Tryd.checked) (os := os) (X := fun w _ => laidMetH Tryd.prog Rows.fnExactHallServiceRow.laid w) false (World.doorLaid Tryd.prog 4000 os) #[.agg #[.string ⟨#[]⟩, .string ⟨#[]⟩, .string ⟨#[]⟩, .slice none 0 0, .bool false, .slice none 0 0, .int .i64 (0)], .agg #[.string ⟨#[]⟩, .int .i64 (0), .bool false, .int .i64 (0), .int .i64 (0), .int .i64 (0), .int .i64 (0), .int .i64 (0), .int .i64 (0), .int .i64 (0), .int .i64 (0), .int .i64 (0), .int .i64 (0)]] 16 rfl (World.shaped_of_RefB (by kernel_rfl) (by kernel_rfl)) (by kernel_rfl) (by kernel_rfl) (by kernel_rfl) (door_met os _))
theorem over : Rows.fnExactHallServiceRow.holds Tryd.pinned (OpenSpec.ofChange Rows.fnExactHallServiceSpec) :=
  OpenClaim.holds_of_wide 3 Tryd.f3 rfl rfl rfl rfl rfl rfl rfl ⟨rfl, rfl, rfl, rfl, rfl⟩ rfl rfl rfl rfl rfl (by kernel_rfl) Tryd.func3 (by kernel_rfl)
    (of_decide_eq_true (by kernel_rfl)) (by unfold Func.isWrapper; first | (rw [if_pos (by decide +kernel)]; kernel_rfl) | (rw [if_neg (by decide +kernel)]; exact ⟨rfl, rfl⟩))
    (fun os started H enc _ => lifted os started H enc)
theorem card : Rows.FnExactHallServiceCardSaid :=
  Claim7.holds_tied_plain_at .later [] [.data, .data, .data, .sentinel, .sentinel, .sentinel] true (true, "2a160900bfcf3166581dd6f4225494aaf42aacdc3bfd90b51f6823191ddd77b6") true
    over (fun _ h => by cases h) (by kernel_rfl) (fun _ h => by cases h) fnExactHallService_row_tie rfl ⟨rfl, rfl⟩ (by kernel_rfl) rfl
    (fun f fn hf hfn => by
      obtain rfl : f = 3 := Option.some.inj ((show Tryd.prog.funcNamed Rows.fnExactHallServiceRow.func = some 3 by kernel_rfl).symm.trans hf) |>.symm
      obtain rfl : fn = Tryd.f3 := (Option.some.inj (Tryd.func3.symm.trans hfn)).symm
      exact ⟨by kernel_rfl, fun j t ht => by
        rw [Tryd.params3] at ht
        have hm : t ∈ [24, 26] := by simpa using Array.mem_of_getElem? ht
        have hall : ([24, 26].all fun u => !Tryd.prog.wantsStandIn u) = true := by kernel_rfl
        exact (show Tryd.prog.wantsStandIn t = false by simpa using List.all_eq_true.1 hall t hm)⟩)
    (by kernel_rfl)
end Go.Proofs.YtmdkodbodddhpacDoor.fnExactHallService
namespace Go.Proofs.YtmdkodbodddhpacDoor
/-- The card, under a short name, for the claim. -/
theorem fnExactHallService_holds : Rows.FnExactHallServiceCardSaid := fnExactHallService.card
#print axioms fnExactHallService_holds
end Go.Proofs.YtmdkodbodddhpacDoor
