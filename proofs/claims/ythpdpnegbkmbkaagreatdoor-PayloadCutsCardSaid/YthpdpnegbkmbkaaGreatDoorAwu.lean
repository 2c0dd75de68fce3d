/- The closed case of payload's statements: it answers true. -/
import Derived.Test.YthpdpnegbkmbkaaGreatDoorAwt
set_option linter.unusedVariables false
set_option linter.unusedSimpArgs false
namespace Go.Proofs.YthpdpnegbkmbkaaGreatDoor
open Go.RowKit

theorem msg_new (w : World) : (w.alloc (.cells #[.string stre, .string ⟨#[]⟩, .slice none 0 0, .slice none 0 0, .slice none 0 0] 25)).heap[w.heap.size]? = some (.cells #[.string stre, .string ⟨#[]⟩, .slice none 0 0, .slice none 0 0, .slice none 0 0] 25 (0, 0)) := heap_alloc_new w _

/-- The two arguments of Build, boxed. -/
def Args (a b : Nat) (w : World) : Prop := w.heap[a]? = some (.cells #[.int .u8 1, .string strR, .string strA] 48 (0, 0)) ∧ w.heap[b]? = some (.cells #[.string stre, .string ⟨#[]⟩, .slice none 0 0, .slice none 0 0, .slice none 0 0] 25 (0, 0))
theorem Args.lt {a b : Nat} {w : World} (h : Args a b w) : a < w.heap.size ∧ b < w.heap.size := by
  constructor
  · rcases Nat.lt_or_ge a w.heap.size with h' | h'
    · exact h'
    · simp [Args, Array.getElem?_eq_none h'] at h
  · rcases Nat.lt_or_ge b w.heap.size with h' | h'
    · exact h'
    · simp [Args, Array.getElem?_eq_none h'] at h
theorem Args.below {a b : Nat} {w w' : World} (h : Args a b w) (hb : Below w.heap.size w w') : Args a b w' :=
  ⟨(hb.block a h.lt.1).trans h.1, (hb.block b h.lt.2).trans h.2⟩
theorem Args.new (w : World) : Args w.heap.size (w.heap.size + 1) ((w.alloc (.cells #[.int .u8 1, .string strR, .string strA] 48)).alloc (.cells #[.string stre, .string ⟨#[]⟩, .slice none 0 0, .slice none 0 0, .slice none 0 0] 25)) := by
  refine ⟨(Below.heap_alloc _ _ _ (by simp)).trans (heap_alloc_new w _), ?_⟩
  have := heap_alloc_new (w.alloc (.cells #[.int .u8 1, .string strR, .string strA] 48)) (.cells #[.string stre, .string ⟨#[]⟩, .slice none 0 0, .slice none 0 0, .slice none 0 0] 25)
  simpa using this
theorem Args.cells {a b : Nat} {w : World} (h : Args a b w) : w.cell? ⟨a, 0, none⟩ = some (.int .u8 1) ∧ w.cell? ⟨a, 1, none⟩ = some (.string strR) ∧ w.cell? ⟨a, 2, none⟩ = some (.string strA) ∧
    w.cell? ⟨b, 0, none⟩ = some (.string stre) ∧ w.cell? ⟨b, 1, none⟩ = some (.string ⟨#[]⟩) ∧ w.cell? ⟨b, 2, none⟩ = some (.slice none 0 0) ∧ w.cell? ⟨b, 3, none⟩ = some (.slice none 0 0) ∧ w.cell? ⟨b, 4, none⟩ = some (.slice none 0 0) :=
  ⟨(Lib.cell_of_heap h.1 0).trans rfl, (Lib.cell_of_heap h.1 1).trans rfl, (Lib.cell_of_heap h.1 2).trans rfl, (Lib.cell_of_heap h.2 0).trans rfl, (Lib.cell_of_heap h.2 1).trans rfl, (Lib.cell_of_heap h.2 2).trans rfl, (Lib.cell_of_heap h.2 3).trans rfl, (Lib.cell_of_heap h.2 4).trans rfl⟩

set_option maxHeartbeats 2000000 in
set_option maxRecDepth 100000 in
theorem build_c (w : World) (hm : Mx w) :
    Calls Tryz.prog 24 #[Shp, Msg] w fun e w' => e = .returned (.tuple #[.string ⟨#[42, 114, 42, 10, 97, 38, 108, 116, 59, 98]⟩, .int .i64 0]) ∧ Below w.heap.size w w' := by
  have hb0 : Below w.heap.size w ((w.alloc (.cells #[.int .u8 1, .string strR, .string strA] 48)).alloc (.cells #[.string stre, .string ⟨#[]⟩, .slice none 0 0, .slice none 0 0, .slice none 0 0] 25)) := ((Below.refl _ _).alloc (Nat.le_refl _) _).alloc (by simp) _
  have HB0 := Lib.hid hb0
  have HM0 := Lib.hid (hm.below hb0 (Nat.le_refl _))
  have HA0 := Lib.hid (Args.new w)
  clear hm hb0
  go_enter Tryz.func24, Tryz.ntmps24
  go_wp2_with fail
  refine (pcheck0 _ (by exact HM0.out)).mono ?_
  rintro e w1 ⟨rfl, b1⟩
  have HA1 := Lib.hid (HA0.out.below b1)
  have HM1 := Lib.hid (HM0.out.below b1 (Nat.le_refl _))
  have HB1 := Lib.hid (HB0.out.trans (b1.mono (by simp; omega)))
  have sz1 := HB1.out.size
  clear b1
  obtain ⟨a0, a1, a2, m0, m1, m2, m3, m4⟩ := HA1.out.cells
  go_wp2_with fail
  refine (render_r _ (by exact HM1.out)).mono ?_
  rintro e w2 ⟨rfl, b2⟩
  have HA2 := Lib.hid (HA1.out.below b2)
  have HM2 := Lib.hid (HM1.out.below b2 (Nat.le_refl _))
  have HB2 := Lib.hid (HB1.out.trans (b2.mono sz1))
  have sz2 := HB2.out.size
  clear b2 a0 a1 a2 m0 m1 m2 m3 m4
  obtain ⟨a0, a1, a2, m0, m1, m2, m3, m4⟩ := HA2.out.cells
  go_wp2_with fail
  refine (render_a _ (by exact HM2.out)).mono ?_
  rintro e w3 ⟨rfl, b3⟩
  have HA3 := Lib.hid (HA2.out.below b3)
  have HB3 := Lib.hid (HB2.out.trans (b3.mono sz2))
  have sz3 := HB3.out.size
  clear b3 a0 a1 a2 m0 m1 m2 m3 m4
  obtain ⟨a0, a1, a2, m0, m1, m2, m3, m4⟩ := HA3.out.cells
  go_wp2_with fail
  refine (escape_any stre _ (by decide)).mono ?_
  rintro e w4 ⟨rfl, b4⟩
  have HB4 := Lib.hid (HB3.out.trans (b4.mono sz3))
  have sz4 := HB4.out.size
  clear b4 a0 a1 a2 m0 m1 m2 m3 m4
  rw [show (⟨(escL stre.data.toList).toArray⟩ : ByteArray) = ⟨#[114]⟩ from by kernel_rfl]
  go_wp2_with fail
  refine (escape_any strA _ (by decide)).mono ?_
  rintro e w5 ⟨rfl, b5⟩
  have HB5 := Lib.hid (HB4.out.trans (b5.mono sz4))
  clear b5
  rw [show (⟨(escL strA.data.toList).toArray⟩ : ByteArray) = ⟨#[97, 38, 108, 116, 59, 98]⟩ from by kernel_rfl]
  go_wp2_with fail
  rw [show ((⟨#[42]⟩ : ByteArray) ++ ⟨#[114]⟩ ++ ⟨#[42, 10]⟩ ++ ⟨#[97, 38, 108, 116, 59, 98]⟩) = ⟨#[42, 114, 42, 10, 97, 38, 108, 116, 59, 98]⟩ from by kernel_rfl]
  refine (cut_any ⟨#[42, 114, 42, 10, 97, 38, 108, 116, 59, 98]⟩ 4000 _ (by decide)).mono ?_
  rintro e w6 ⟨rfl, rfl⟩
  rw [show (⟨(cutL (ByteArray.mk #[42, 114, 42, 10, 97, 38, 108, 116, 59, 98]).data.toList 4000).toArray⟩ : ByteArray) = ⟨#[42, 114, 42, 10, 97, 38, 108, 116, 59, 98]⟩ from by kernel_rfl]
  go_wp2_with fail
  go_ret2
  exact ⟨rfl, HB5.out⟩

set_option maxHeartbeats 2000000 in
set_option maxRecDepth 100000 in
theorem awake_any (w : World) (hm : Mx w) :
    Calls Tryz.prog 9 #[] w fun e w' => e = .returned (.bool true) ∧ Below w.heap.size w w' := by
  have HM0 := Lib.hid hm
  clear hm
  go_enter Tryz.func9, Tryz.ntmps9
  go_wp2_with fail
  refine (build_c _ HM0.out).mono ?_
  rintro e w1 ⟨rfl, b1⟩
  have HM1 := Lib.hid (HM0.out.below b1 (Nat.le_refl _))
  have HB1 := Lib.hid b1
  have sz1 := b1.size
  clear b1
  go_wp2_with fail
  refine (quoted_any ⟨#[97, 61, 195, 169]⟩ _ (by decide)).mono ?_
  rintro e w2 ⟨rfl, b2⟩
  have HM2 := Lib.hid (HM1.out.below b2 (Nat.le_refl _))
  have HB2 := Lib.hid (HB1.out.trans (b2.mono sz1))
  have sz2 := HB2.out.size
  clear b2
  rw [show (⟨(quotL (ByteArray.mk #[97, 61, 195, 169]).data.toList).toArray⟩ : ByteArray) = ⟨#[97, 61, 51, 68, 61, 67, 51, 61, 65, 57]⟩ from by kernel_rfl]
  go_wp2_with fail
  refine (header_any ⟨#[195, 169]⟩ _ HM2.out (by decide)).mono ?_
  rintro e w3 ⟨rfl, b3⟩
  have HB3 := Lib.hid (HB2.out.trans (b3.mono sz2))
  clear b3
  rw [show (⟨(headL (ByteArray.mk #[195, 169]).data.toList).toArray⟩ : ByteArray) = ⟨#[61, 63, 117, 116, 102, 45, 56, 63, 113, 63, 61, 67, 51, 61, 65, 57, 63, 61]⟩ from by kernel_rfl]
  go_wp2_with fail
  refine (cut_any ⟨#[97, 98, 99, 100, 101, 102]⟩ 5 _ (by decide)).mono ?_
  rintro e w4 ⟨rfl, rfl⟩
  rw [show (⟨(cutL (ByteArray.mk #[97, 98, 99, 100, 101, 102]).data.toList 5).toArray⟩ : ByteArray) = ⟨#[97, 98, 46, 46, 46]⟩ from by kernel_rfl]
  go_wp2_with fail
  go_ret
  exact ⟨rfl, HB3.out⟩

end Go.Proofs.YthpdpnegbkmbkaaGreatDoor
