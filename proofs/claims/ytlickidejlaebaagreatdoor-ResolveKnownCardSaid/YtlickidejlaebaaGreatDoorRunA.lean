/- lex.keys gives its list: reckoned by the kernel. -/
import Derived.KernelRfl
import Derived.Test.YtlickidejlaebaaGreatDoorData
namespace Go.Proofs.YtlickidejlaebaaGreatDoor
open Go Go.Ev
theorem keys_run : doneB (orcTry Tryz.prog ⟨0, gs, []⟩ 100000000 keysO) = true := by kernel_rfl
end Go.Proofs.YtlickidejlaebaaGreatDoor
