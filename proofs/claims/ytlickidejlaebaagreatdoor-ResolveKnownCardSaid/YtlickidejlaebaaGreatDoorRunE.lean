/- ResolveKnown, the rest: reckoned by the kernel. -/
import Derived.KernelRfl
import Derived.Test.YtlickidejlaebaaGreatDoorData
namespace Go.Proofs.YtlickidejlaebaaGreatDoor
open Go Go.Ev
theorem last_run : doneB (runLast Tryz.prog ⟨mk2, gs, os2⟩ 100000000 6 10 S10 kTrue) = true := by kernel_rfl
end Go.Proofs.YtlickidejlaebaaGreatDoor
