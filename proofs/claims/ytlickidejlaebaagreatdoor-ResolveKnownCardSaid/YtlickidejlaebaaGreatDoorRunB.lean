/- works returns true: reckoned by the kernel. -/
import Derived.KernelRfl
import Derived.Test.YtlickidejlaebaaGreatDoorData
namespace Go.Proofs.YtlickidejlaebaaGreatDoor
open Go Go.Ev
theorem works_run : doneB (orcTry Tryz.prog ⟨mk1, gs, [keysO]⟩ 100000000 worksO) = true := by kernel_rfl
end Go.Proofs.YtlickidejlaebaaGreatDoor
