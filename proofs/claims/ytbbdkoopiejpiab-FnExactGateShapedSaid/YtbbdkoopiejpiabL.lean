/- The row of the law FnExactGateShaped, out of the contract of its function and the plain law. No conditions. -/
import Derived.Test.YtbbdkoopiejpiabRows
import Derived.Test.YtbbdkoopiejpiabQ
set_option linter.unusedVariables false
namespace Go.Proofs.Ytbbdkoopiejpiab.fnExactGateShaped
open Go Go.Vm
def rounds : Nat := 18446744073709551616
theorem own : ownKnob Try.prog.godebug = none := by kernel_rfl
set_option maxRecDepth 100000 in
theorem lifted (os : Os) (started : os.Started) (H : Type) (enc : TypeId × Value → H) :
    ReturnsInHanded {} Try.checked os 3 .any (Rows.fnExactGateShapedSpec.pre6 enc Try.prog Try.f3 Rows.fnExactGateShapedRow.domain false) (Rows.fnExactGateShapedSpec.post enc Try.prog Try.f3 false true false false) :=
  law_lifted (C := Try.checked) own started (by kernel_rfl) Try.func3 rfl (laws_FnExactGateShaped.con rounds) (pure_law rounds (Nat.le_refl _)) (dep := 12) (by kernel_rfl) (by kernel_rfl) (by kernel_rfl) (tb := 4) rfl Try.underlying4
    (fun ds h => by
      match ds, h with
      | [d0, d1, d2], _ => rfl)
    (ChangeSpec.witness6 (enc := enc) (C := Try.checked) false ⟨#[], #[.slice none 0 0, .slice none 0 0, .agg #[.string ⟨#[]⟩, .string ⟨#[]⟩, .string ⟨#[]⟩, .slice none 0 0, .bool false, .slice none 0 0, .int .i64 (0)]], []⟩ 16 (by kernel_rfl) (by kernel_rfl) (by kernel_rfl) (by kernel_rfl))
theorem over : Rows.fnExactGateShapedRow.holds Try.pinned (OpenSpec.ofChange Rows.fnExactGateShapedSpec) :=
  OpenClaim.holds_of_wide 3 Try.f3 rfl rfl rfl rfl rfl rfl rfl ⟨rfl, rfl, rfl, rfl, rfl⟩ rfl rfl rfl rfl rfl (by kernel_rfl) Try.func3 (by kernel_rfl)
    (of_decide_eq_true (by kernel_rfl)) (by unfold Func.isWrapper; first | (rw [if_pos (by decide +kernel)]; kernel_rfl) | (rw [if_neg (by decide +kernel)]; exact ⟨rfl, rfl⟩))
    (fun os started H enc _ => lifted os started H enc)
end Go.Proofs.Ytbbdkoopiejpiab.fnExactGateShaped
namespace Go.Proofs.Ytbbdkoopiejpiab
/-- The row, under a short name, for the claim. -/
theorem fnExactGateShaped_holds : Rows.FnExactGateShapedSaid := fnExactGateShaped.over
#print axioms fnExactGateShaped_holds
end Go.Proofs.Ytbbdkoopiejpiab
