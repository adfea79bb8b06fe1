/- The row of the law FnExactRecAgree, out of the contract of its function and the plain law. No conditions. -/
import Derived.Test.YtpdaakbjdfnkhabRows
import Derived.Test.YtpdaakbjdfnkhabQ
set_option linter.unusedVariables false
namespace Go.Proofs.Ytpdaakbjdfnkhab.fnExactRecAgree
open Go Go.Vm
def rounds : Nat := 18446744073709551616
theorem own : ownKnob Try.prog.godebug = none := by kernel_rfl
set_option maxRecDepth 100000 in
theorem lifted (os : Os) (started : os.Started) (H : Type) (enc : TypeId × Value → H) :
    ReturnsInHanded {} Try.checked os 3 .any (Rows.fnExactRecAgreeSpec.pre6 enc Try.prog Try.f3 Rows.fnExactRecAgreeRow.domain false) (Rows.fnExactRecAgreeSpec.post enc Try.prog Try.f3 false true false false) :=
  law_lifted (C := Try.checked) own started (by kernel_rfl) Try.func3 rfl (laws_FnExactRecAgree.con rounds) (pure_law rounds (Nat.le_refl _)) (dep := 12) (by kernel_rfl) (by kernel_rfl) (by kernel_rfl) (tb := 4) rfl Try.underlying4
    (fun ds h => by
      match ds, h with
      | [d0], _ => rfl)
    (ChangeSpec.witness6 (enc := enc) (C := Try.checked) false ⟨#[], #[.agg #[.slice none 0 0, .slice none 0 0, .slice none 0 0]], []⟩ 16 (by kernel_rfl) (by kernel_rfl) (by kernel_rfl) (by kernel_rfl))
theorem over : Rows.fnExactRecAgreeRow.holds Try.pinned (OpenSpec.ofChange Rows.fnExactRecAgreeSpec) :=
  OpenClaim.holds_of_wide 3 Try.f3 rfl rfl rfl rfl rfl rfl rfl ⟨rfl, rfl, rfl, rfl, rfl⟩ rfl rfl rfl rfl rfl (by kernel_rfl) Try.func3 (by kernel_rfl)
    (of_decide_eq_true (by kernel_rfl)) (by unfold Func.isWrapper; first | (rw [if_pos (by decide +kernel)]; kernel_rfl) | (rw [if_neg (by decide +kernel)]; exact ⟨rfl, rfl⟩))
    (fun os started H enc _ => lifted os started H enc)
end Go.Proofs.Ytpdaakbjdfnkhab.fnExactRecAgree
namespace Go.Proofs.Ytpdaakbjdfnkhab
/-- The row, under a short name, for the claim. -/
theorem fnExactRecAgree_holds : Rows.FnExactRecAgreeSaid := fnExactRecAgree.over
#print axioms fnExactRecAgree_holds
end Go.Proofs.Ytpdaakbjdfnkhab
