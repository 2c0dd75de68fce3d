/- PayloadQuotes: the walk. -/
import Derived.Test.YthpdpnegbkmbkaaGreatDoorAwu
import Derived.Test.YthpdpnegbkmbkaaGreatDoorUnw
set_option linter.unusedVariables false
set_option linter.unusedSimpArgs false
namespace Go.Proofs.YthpdpnegbkmbkaaGreatDoor
open Go.RowKit

theorem unqR_two (l : List UInt8) : ∃ (q : ByteArray) (n : Int), unqR l = #[.string q, .int .i64 n] := by
  unfold unqR
  split
  · exact ⟨_, _, rfl⟩
  · exact ⟨_, _, rfl⟩

theorem quoted_B (s : ByteArray) (w : World) (hs : s.size ≤ 1000000000) :
    Calls Tryz.prog 22 #[.string s] w fun e w' => e = .returned (.string (B (quotL s.data.toList))) ∧ Below w.heap.size w w' := quoted_any s w hs

set_option maxHeartbeats 2000000 in
set_option maxRecDepth 100000 in
theorem quotes_any (s t : ByteArray) (w : World) (hm : Mx w) (h0 : s.size ≤ maxLen) (h1 : t.size ≤ maxLen) :
    Calls Tryz.prog 6 #[.string s, .string t] w fun e w' => e = .returned (.bool true) ∧ Below w.heap.size w w' := by
  have HM0 := Lib.hid hm
  clear hm
  by_cases g1 : (s.size : Int) > 2000
  · go_enter Tryz.func6, Tryz.ntmps6
    go_wp2_with fail
    refine (awake_any _ HM0.out).mono ?_
    rintro e w1 ⟨rfl, b1⟩
    have HB1 := Lib.hid b1
    clear b1
    go_wp2_with fail
    go_ret
    exact ⟨rfl, HB1.out⟩
  · by_cases g2 : (t.size : Int) > 2000
    · go_enter Tryz.func6, Tryz.ntmps6
      go_wp2_with fail
      refine (awake_any _ HM0.out).mono ?_
      rintro e w1 ⟨rfl, b1⟩
      have HB1 := Lib.hid b1
      clear b1
      go_wp2_with fail
      go_ret
      exact ⟨rfl, HB1.out⟩
    · have hs' : s.size ≤ 1000000000 := by omega
      have ht' : t.size ≤ 1000000000 := by omega
      obtain ⟨q, n, hq⟩ := unqR_two t.data.toList
      have HQ := Lib.hid hq
      clear hq
      go_enter Tryz.func6, Tryz.ntmps6
      go_wp2_with fail
      refine (unq_any t _ ht').mono ?_
      rintro e w1 ⟨rfl, b1⟩
      rw [HQ.out]
      have HM1 := Lib.hid (HM0.out.below b1 (Nat.le_refl _))
      have HB1 := Lib.hid b1
      have sz1 := b1.size
      clear b1
      go_wp2_with fail
      refine (runq_any t _ ht').mono ?_
      rintro e w2 ⟨rfl, b2⟩
      rw [HQ.out]
      have HM2 := Lib.hid (HM1.out.below b2 (Nat.le_refl _))
      have HB2 := Lib.hid (HB1.out.trans (b2.mono sz1))
      have sz2 := HB2.out.size
      clear b2
      go_wp2_with fail
      refine (quoted_B s _ hs').mono ?_
      rintro e w3 ⟨rfl, b3⟩
      have HM3 := Lib.hid (HM2.out.below b3 (Nat.le_refl _))
      have HB3 := Lib.hid (HB2.out.trans (b3.mono sz2))
      have sz3 := HB3.out.size
      clear b3
      go_wp2_with fail
      refine (rquoted_any s _ hs').mono ?_
      rintro e w4 ⟨rfl, n4, e4⟩
      have HM4 : Hid (Mx w4) := Lib.hid (by rw [e4]; exact HM3.out.drewN n4)
      have HB4 : Hid (Below w.heap.size w w4) := Lib.hid (by rw [e4]; exact below_drewN HB3.out n4)
      have sz4 : w.heap.size ≤ w4.heap.size := HB4.out.size
      clear e4
      generalize B (quotL s.data.toList) = hh
      go_wp2_with fail
      refine (awake_any _ HM4.out).mono ?_
      rintro e w7 ⟨rfl, b7⟩
      have HB7 := Lib.hid (HB4.out.trans (b7.mono sz4))
      clear b7
      go_wp2_with fail
      go_ret
      exact ⟨rfl, HB7.out⟩

end Go.Proofs.YthpdpnegbkmbkaaGreatDoor
