/- ResolveKnown, the next five parts: reckoned by the kernel. -/
import Derived.KernelRfl
import Derived.Test.YtlickidejlaebaaGreatDoorData
namespace Go.Proofs.YtlickidejlaebaaGreatDoor
open Go Go.Ev
theorem mid_run : doneB (runMid Tryz.prog ⟨mk2, gs, os2⟩ 100000000 6 5 5 S5 S10 kTrue) = true := by kernel_rfl
end Go.Proofs.YtlickidejlaebaaGreatDoor
