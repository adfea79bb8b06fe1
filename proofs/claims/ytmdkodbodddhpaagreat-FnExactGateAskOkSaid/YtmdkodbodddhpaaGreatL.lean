/- The row of the law FnExactGateAskOk, out of the contract of its function and the plain law. No conditions. -/
import Derived.Test.YtmdkodbodddhpaaGreatRows
import Derived.Test.YtmdkodbodddhpaaGreatQ
set_option linter.unusedVariables false
namespace Go.Proofs.YtmdkodbodddhpaaGreat.fnExactGateAskOk
open Go Go.Vm
def rounds : Nat := 18446744073709551616
theorem own : ownKnob Tryz.prog.godebug = none := by kernel_rfl
set_option maxRecDepth 100000 in
theorem lifted (os : Os) (started : os.Started) (H : Type) (enc : TypeId × Value → H) :
    ReturnsInHanded {} Tryz.checked os 3 .any (Rows.fnExactGateAskOkSpec.pre6 enc Tryz.prog Tryz.f3 Rows.fnExactGateAskOkRow.domain false) (Rows.fnExactGateAskOkSpec.post enc Tryz.prog Tryz.f3 false true false false) :=
  law_lifted (C := Tryz.checked) own started (by kernel_rfl) Tryz.func3 rfl (laws_FnExactGateAskOk.con rounds) (pure_law rounds (Nat.le_refl _)) (dep := 12) (by kernel_rfl) (by kernel_rfl) (by kernel_rfl) (tb := 4) rfl Tryz.underlying4
    (fun ds h => by
      match ds, h with
      | [d0, d1], _ => rfl)
    (ChangeSpec.witness6 (enc := enc) (C := Tryz.checked) false ⟨#[], #[.agg #[.slice none 0 0, .slice none 0 0, .slice none 0 0], .agg #[.string ⟨#[]⟩, .int .i64 (0), .string ⟨#[]⟩, .string ⟨#[]⟩, .string ⟨#[]⟩, .slice none 0 0, .slice none 0 0, .int .i64 (0), .string ⟨#[]⟩, .string ⟨#[]⟩, .slice none 0 0, .string ⟨#[]⟩, .string ⟨#[]⟩, .string ⟨#[]⟩, .int .i64 (0)]], []⟩ 16 (by kernel_rfl) (by kernel_rfl) (by kernel_rfl) (by kernel_rfl))
theorem over : Rows.fnExactGateAskOkRow.holds Tryz.pinned (OpenSpec.ofChange Rows.fnExactGateAskOkSpec) :=
  OpenClaim.holds_of_wide 3 Tryz.f3 rfl rfl rfl rfl rfl rfl rfl ⟨rfl, rfl, rfl, rfl, rfl⟩ rfl rfl rfl rfl rfl (by kernel_rfl) Tryz.func3 (by kernel_rfl)
    (of_decide_eq_true (by kernel_rfl)) (by unfold Func.isWrapper; first | (rw [if_pos (by decide +kernel)]; kernel_rfl) | (rw [if_neg (by decide +kernel)]; exact ⟨rfl, rfl⟩))
    (fun os started H enc _ => lifted os started H enc)
end Go.Proofs.YtmdkodbodddhpaaGreat.fnExactGateAskOk
namespace Go.Proofs.YtmdkodbodddhpaaGreat
/-- The row, under a short name, for the claim. -/
theorem fnExactGateAskOk_holds : Rows.FnExactGateAskOkSaid := fnExactGateAskOk.over
#print axioms fnExactGateAskOk_holds
end Go.Proofs.YtmdkodbodddhpaaGreat
