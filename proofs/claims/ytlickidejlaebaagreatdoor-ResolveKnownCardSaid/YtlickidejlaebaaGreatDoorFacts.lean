/- Facts on the program that the row of ResolveKnown asks for. -/
import Derived.Test.YtlickidejlaebaaGreatDoorRows
import Derived.JoinedOf
import Derived.ProofKit
namespace Go.Proofs.YtlickidejlaebaaGreatDoor
open Go
theorem fact_named : Tryz.prog.funcNamed Rows.resolveKnownRow.func = some 6 := by kernel_rfl
theorem fact_inst : Tryz.f6.isInstance Tryz.pinned.checked.prog Rows.resolveKnownRow.origin Rows.resolveKnownRow.targs := of_decide_eq_true (by kernel_rfl)
theorem fact_wrap : Tryz.f6.isWrapper Tryz.pinned.checked.prog Rows.resolveKnownRow.wrapper Rows.resolveKnownRow.mainSum := by
  unfold Func.isWrapper; first | (rw [if_pos (by decide +kernel)]; kernel_rfl) | (rw [if_neg (by decide +kernel)]; exact ⟨rfl, rfl⟩)
set_option maxHeartbeats 8000000 in
theorem fact_joined : joinedFacts Tryz.pinned.checked.prog 6 Tryz.f6 Rows.resolveKnownSpec Rows.resolveKnownRow = true := by
  unfold joinedFacts
  repeat' (with_reducible refine (Bool.and_eq_true_iff).2 ⟨?_, ?_⟩)
  all_goals (as_aux_lemma => kernel_rfl)
end Go.Proofs.YtlickidejlaebaaGreatDoor
