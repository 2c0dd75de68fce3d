/- The tables that utf8 asks are as the row lists them. -/
import Derived.Test.YthpdpnegbkmbkaaGreatDoorJqu
import Derived.Test.YthpdpnegbkmbkaaGreatDoorTie
import Derived.LaidMore
set_option linter.unusedVariables false
set_option linter.unusedSimpArgs false
namespace Go.Proofs.YthpdpnegbkmbkaaGreatDoor
open Go.RowKit

theorem u8extra : U8Extra Tryz.prog Tryz.lays196_ren := ⟨by kernel_rfl, by kernel_rfl, by kernel_rfl, by kernel_rfl, by kernel_rfl, by kernel_rfl, by kernel_rfl⟩
theorem first_eq : Rows.laid_unicode_utf8_first = Lib.firstData := by kernel_rfl
theorem accept_eq : Rows.laid_unicode_utf8_acceptRanges = Lib.acceptData := by kernel_rfl
theorem tb_of_laid {W : World} (h : laidMetH Tryz.prog Rows.payloadCutsRow.laid W) : Tb W := by
  rw [MakeChecks.laidMetH_plain _ _ _ (by kernel_rfl)] at h
  obtain ⟨ps, hl, _⟩ := h
  refine utf8Tabs_of_readsT (U8Types.of196 Tryz.lays196) u8extra (Lib.LaidVars_reads hl _ _ ?_) (Lib.LaidVars_reads hl _ _ ?_)
  · rw [← first_eq]
    simp [Rows.payloadCutsRow]
  · rw [← accept_eq]
    simp [Rows.payloadCutsRow]

end Go.Proofs.YthpdpnegbkmbkaaGreatDoor
