/- PayloadTexts: the walk. -/
import Derived.Test.YthpdpnegbkmbkaaGreatDoorAwu
import Derived.Test.YthpdpnegbkmbkaaGreatDoorRth
set_option linter.unusedVariables false
set_option linter.unusedSimpArgs false
namespace Go.Proofs.YthpdpnegbkmbkaaGreatDoor
open Go.RowKit

theorem header_B (s : ByteArray) (w : World) (hm : Mx w) (hs : s.size ≤ 1000000000) :
    Calls Tryz.prog 13 #[.string s] w fun e w' => e = .returned (.string (B (headL s.data.toList))) ∧ Below w.heap.size w w' := header_any s w hm hs
theorem escape_B (s : ByteArray) (w : World) (hs : s.size ≤ 1000000000) :
    Calls Tryz.prog 15 #[.string s] w fun e w' => e = .returned (.string (B (escL s.data.toList))) ∧ Below w.heap.size w w' := escape_any s w hs
theorem cut_B (s : ByteArray) (most : Int) (w : World) (hs : s.size ≤ 1000000000) :
    Calls Tryz.prog 17 #[.string s, .int .i64 most] w fun e w' => e = .returned (.string (B (cutL s.data.toList most))) ∧ w = w' := cut_any s most w hs

set_option maxHeartbeats 2000000 in
set_option maxRecDepth 100000 in
theorem texts_any (s : ByteArray) (most : Int) (w : World) (hm : Mx w) (hs : s.size ≤ maxLen) :
    Calls Tryz.prog 4 #[.string s, .int .i64 most] w fun e w' => e = .returned (.bool true) ∧ Below w.heap.size w w' := by
  have HM0 := Lib.hid hm
  clear hm
  by_cases h1 : (s.size : Int) > 2000
  · go_enter Tryz.func4, Tryz.ntmps4
    go_wp2_with fail
    refine (awake_any _ HM0.out).mono ?_
    rintro e w1 ⟨rfl, b1⟩
    have HB1 := Lib.hid b1
    clear b1
    go_wp2_with fail
    go_ret
    exact ⟨rfl, HB1.out⟩
  · have hs' : s.size ≤ 1000000000 := by omega
    go_enter Tryz.func4, Tryz.ntmps4
    go_wp2_with fail
    refine (header_B s _ HM0.out hs').mono ?_
    rintro e w1 ⟨rfl, b1⟩
    have HM1 := Lib.hid (HM0.out.below b1 (Nat.le_refl _))
    have HB1 := Lib.hid b1
    have sz1 := b1.size
    clear b1
    go_wp2_with fail
    refine (rheader_any s _ hs').mono ?_
    rintro e w2 ⟨rfl, n2, e2⟩
    have HM2 : Hid (Mx w2) := Lib.hid (by rw [e2]; exact HM1.out.drewN n2)
    have HB2 : Hid (Below w.heap.size w w2) := Lib.hid (by rw [e2]; exact below_drewN HB1.out n2)
    have sz2 : w.heap.size ≤ w2.heap.size := HB2.out.size
    clear e2
    generalize B (headL s.data.toList) = hh
    go_wp2_with fail
    refine (escape_B s _ hs').mono ?_
    rintro e w3 ⟨rfl, b3⟩
    have HM3 := Lib.hid (HM2.out.below b3 (Nat.le_refl _))
    have HB3 := Lib.hid (HB2.out.trans (b3.mono sz2))
    have sz3 := HB3.out.size
    clear b3
    go_wp2_with fail
    refine (rescape_any s _ hs').mono ?_
    rintro e w4 ⟨rfl, rfl⟩
    generalize B (escL s.data.toList) = he
    go_wp2_with fail
    refine (cut_B s most _ hs').mono ?_
    rintro e w5 ⟨rfl, rfl⟩
    go_wp2_with fail
    refine (rcut_any s most _ hs').mono ?_
    rintro e w6 ⟨rfl, rfl⟩
    generalize B (cutL s.data.toList most) = hc
    go_wp2_with fail
    refine (awake_any _ HM3.out).mono ?_
    rintro e w7 ⟨rfl, b7⟩
    have HB7 := Lib.hid (HB3.out.trans (b7.mono sz3))
    clear b7
    go_wp2_with fail
    go_ret
    exact ⟨rfl, HB7.out⟩

end Go.Proofs.YthpdpnegbkmbkaaGreatDoor
