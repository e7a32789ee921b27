/- FormatDisk of the right sets of members, run. -/
import Derived.Test.YtlnehfgjfmamjaaGreatDoorFdb
namespace Go.Proofs.YtlnehfgjfmamjaaGreatDoor.Fd
open Go Go.Am
set_option linter.unusedVariables false
set_option linter.unusedSimpArgs false
set_option maxRecDepth 100000

theorem run0 : F3 RW ([1], ()) = some (true, ()) := by kernel_rfl
theorem run1 : F3 RW ([2], ()) = some (true, ()) := by kernel_rfl
theorem run2 : F3 RW ([3], ()) = some (true, ()) := by kernel_rfl
theorem run3 : F3 RW ([4], ()) = some (true, ()) := by kernel_rfl
theorem run4 : F3 RW ([1, 2], ()) = some (true, ()) := by kernel_rfl
theorem run5 : F3 RW ([1, 3], ()) = some (true, ()) := by kernel_rfl
theorem run6 : F3 RW ([1, 4], ()) = some (true, ()) := by kernel_rfl
theorem run7 : F3 RW ([2, 3], ()) = some (true, ()) := by kernel_rfl
theorem run8 : F3 RW ([2, 4], ()) = some (true, ()) := by kernel_rfl
theorem run9 : F3 RW ([3, 4], ()) = some (true, ()) := by kernel_rfl
theorem run10 : F3 RW ([1, 2, 3], ()) = some (true, ()) := by kernel_rfl
theorem run11 : F3 RW ([1, 2, 4], ()) = some (true, ()) := by kernel_rfl
theorem run12 : F3 RW ([1, 3, 4], ()) = some (true, ()) := by kernel_rfl
theorem run13 : F3 RW ([2, 3, 4], ()) = some (true, ()) := by kernel_rfl
theorem run14 : F3 RW ([1, 2, 3, 4], ()) = some (true, ()) := by kernel_rfl
theorem runJ : (F20 RW ((0, 0, 0, 0, 0, [], ()), ())).isSome = true := by kernel_rfl
theorem runH : (F22 RW ()).isSome = true := by kernel_rfl
theorem runE : F8 RW (([], ()), ([], ()), ()) = some (true, ()) := by kernel_rfl
theorem runM : F33 RW ([], 1, ()) = some (1, [], ()) := by kernel_rfl
theorem runK : F12 RW (([], ()), 1, ()) = some (1, ()) := by kernel_rfl
end Go.Proofs.YtlnehfgjfmamjaaGreatDoor.Fd
