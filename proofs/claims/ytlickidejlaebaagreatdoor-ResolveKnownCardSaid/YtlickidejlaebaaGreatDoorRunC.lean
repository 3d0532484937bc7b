/- ResolveKnown, its first five parts: reckoned by the kernel. -/
import Derived.KernelRfl
import Derived.Test.YtlickidejlaebaaGreatDoorData
namespace Go.Proofs.YtlickidejlaebaaGreatDoor
open Go Go.Ev
theorem first_run : doneB (runFirst Tryz.prog ⟨mk2, gs, os2⟩ 100000000 6 5 S5 kTrue) = true := by kernel_rfl
end Go.Proofs.YtlickidejlaebaaGreatDoor
