/- The row of the law FnExactGateTurned, out of the contract of its function and the plain law, and its tied card. Conditions: the row's own ('laid': package-level variables start as the program's text lays them; the card ties them). -/
import Derived.Test.YtnkgmbaeondobabDoorRows
import Derived.Test.YtnkgmbaeondobabDoorCards
import Derived.Test.YtnkgmbaeondobabDoorTie
import Derived.Test.YtnkgmbaeondobabDoorQ
import Derived.LaidMore
import Derived.SevenTiedAt
set_option linter.unusedVariables false
namespace Go.Proofs.YtnkgmbaeondobabDoor.fnExactGateTurned
open Go Go.Vm
def rounds : Nat := 18446744073709551616
theorem own : ownKnob Tryd.prog.godebug = none := by kernel_rfl
theorem amb_of {w : World} (h : laidMetH Tryd.prog Rows.fnExactGateTurnedRow.laid w) : Amb.A w := by
  have h' : laidMet Tryd.prog [] w ∧ handlesMet Tryd.prog Rows.fnExactGateTurnedRow.laid w := h
  obtain ⟨name, u, ty, e1, e2, e3, e4, e5⟩ := h'.2 _ (List.mem_singleton.2 rfl)
  have en : name = [101, 114, 114, 111, 114] := (Option.some.inj e1).symm
  subst en
  obtain rfl := Option.some.inj ((show (Tryd.prog.cutTypes.find? (·.1 == "internal/reflectlite.rtype")).map (·.2) = some 111 by kernel_rfl).symm.trans e2)
  have hm : ty ∈ (List.range 159).filter fun t => Tryd.prog.rowNamed t [101, 114, 114, 111, 114] := List.mem_filter.2 ⟨List.mem_range.2 (by rw [← show Tryd.prog.types.size = 159 by kernel_rfl]; exact e3), e4⟩
  rw [show ((List.range 159).filter fun t => Tryd.prog.rowNamed t [101, 114, 114, 111, 114]) = [62] by kernel_rfl] at hm
  obtain rfl := List.mem_singleton.1 hm
  rw [show typeHandle Tryd.prog 62 = .pointer (some ⟨1, 62, none⟩) by kernel_rfl] at e5
  intro p hp
  obtain rfl := List.mem_singleton.1 hp
  simpa using World.var?_cell (show Tryd.prog.globalNamed "errors.errorType" = some 0 by kernel_rfl) e5 0
theorem door_met (os : Os) (args : Array Value) : laidMetH Tryd.prog Rows.fnExactGateTurnedRow.laid ((World.doorLaid Tryd.prog 4000 os).forCall (fun _ _ => 0) ⟨#[], args, []⟩).memory :=
  laidMetH_of_parts3 (fuel := 8) (laidMet_of_run' 8 (by kernel_rfl) (by kernel_rfl)) (by kernel_rfl) (by kernel_rfl)
set_option maxRecDepth 100000 in
theorem lifted (os : Os) (started : os.Started) (H : Type) (enc : TypeId × Value → H) :
    ReturnsInHanded {} Tryd.checked os 3 .any (fun w args => (Rows.fnExactGateTurnedSpec.pre enc Tryd.prog Tryd.f3 Rows.fnExactGateTurnedRow.domain false w args ∧ laidMetH Tryd.prog Rows.fnExactGateTurnedRow.laid w) ∧ sizedMet enc Tryd.prog Tryd.f3 (OpenSpec.ofChange Rows.fnExactGateTurnedSpec) false w args)
      (Rows.fnExactGateTurnedSpec.post enc Tryd.prog Tryd.f3 false true false false) :=
  law_lifted_laid (C := Tryd.checked) own started (by kernel_rfl) Tryd.func3 (by kernel_rfl) (laws_FnExactGateTurned.con rounds) (fun w h => amb_of h) (pure_law rounds (Nat.le_refl _)) (dep := 12) (by kernel_rfl) (by kernel_rfl) (by kernel_rfl) (tb := 4) rfl Tryd.underlying4
    (fun ds gs h h' => by
      match ds, gs, h, h' with
      | [d0, d1, d2], [], _, _ => rfl)
    (ChangeSpec.witness_shaped (enc := enc) (C := Tryd.checked) (os := os) (X := fun w _ => laidMetH Tryd.prog Rows.fnExactGateTurnedRow.laid w) false (World.doorLaid Tryd.prog 4000 os) #[.slice none 0 0, .agg #[.string ⟨#[]⟩, .string ⟨#[]⟩, .string ⟨#[]⟩, .slice none 0 0, .bool false, .slice none 0 0, .int .i64 (0)], .agg #[.string ⟨#[]⟩, .string ⟨#[]⟩, .string ⟨#[]⟩, .slice none 0 0, .bool false, .slice none 0 0, .int .i64 (0)]] 16 rfl (World.shaped_of_RefB (by kernel_rfl) (by kernel_rfl)) (by kernel_rfl) (by kernel_rfl) (by kernel_rfl) (door_met os _))
theorem over : Rows.fnExactGateTurnedRow.holds Tryd.pinned (OpenSpec.ofChange Rows.fnExactGateTurnedSpec) :=
  OpenClaim.holds_of_wide 3 Tryd.f3 rfl rfl rfl rfl rfl rfl rfl ⟨rfl, rfl, rfl, rfl, rfl⟩ rfl rfl rfl rfl rfl (by kernel_rfl) Tryd.func3 (by kernel_rfl)
    (of_decide_eq_true (by kernel_rfl)) (by unfold Func.isWrapper; first | (rw [if_pos (by decide +kernel)]; kernel_rfl) | (rw [if_neg (by decide +kernel)]; exact ⟨rfl, rfl⟩))
    (fun os started H enc _ => lifted os started H enc)
theorem card : Rows.FnExactGateTurnedCardSaid :=
  Claim7.holds_tied_plain_at .later [] [.handle] true (true, "7f27a4068f8e20ae0187a6209e3426f2a7288adead0ff6565519c3ef56833d6f") true
    over (fun _ h => by cases h) (by kernel_rfl) (fun _ h => by cases h) fnExactGateTurned_row_tie rfl ⟨rfl, rfl⟩ (by kernel_rfl) rfl
    (fun f fn hf hfn => by
      obtain rfl : f = 3 := Option.some.inj ((show Tryd.prog.funcNamed Rows.fnExactGateTurnedRow.func = some 3 by kernel_rfl).symm.trans hf) |>.symm
      obtain rfl : fn = Tryd.f3 := (Option.some.inj (Tryd.func3.symm.trans hfn)).symm
      exact ⟨by kernel_rfl, fun j t ht => by
        rw [Tryd.params3] at ht
        have hm : t ∈ [22, 25, 25] := by simpa using Array.mem_of_getElem? ht
        have hall : ([22, 25, 25].all fun u => !Tryd.prog.wantsStandIn u) = true := by kernel_rfl
        exact (show Tryd.prog.wantsStandIn t = false by simpa using List.all_eq_true.1 hall t hm)⟩)
    (by kernel_rfl)
end Go.Proofs.YtnkgmbaeondobabDoor.fnExactGateTurned
namespace Go.Proofs.YtnkgmbaeondobabDoor
/-- The card, under a short name, for the claim. -/
theorem fnExactGateTurned_holds : Rows.FnExactGateTurnedCardSaid := fnExactGateTurned.card
#print axioms fnExactGateTurned_holds
end Go.Proofs.YtnkgmbaeondobabDoor
