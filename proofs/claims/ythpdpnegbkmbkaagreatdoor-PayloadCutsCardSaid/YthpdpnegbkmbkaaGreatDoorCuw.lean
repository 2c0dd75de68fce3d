/- PayloadCuts: the walk. -/
import Derived.Test.YthpdpnegbkmbkaaGreatDoorAwu
import Derived.Test.YthpdpnegbkmbkaaGreatDoorJqu
import Derived.Test.YthpdpnegbkmbkaaGreatDoorCup
import Derived.Test.YthpdpnegbkmbkaaGreatDoorRta
set_option linter.unusedVariables false
set_option linter.unusedSimpArgs false
namespace Go.Proofs.YthpdpnegbkmbkaaGreatDoor
open Go.RowKit

theorem cut_C (s : ByteArray) (most : Int) (w : World) (hs : s.size ≤ 1000000000) :
    Calls Tryz.prog 17 #[.string s, .int .i64 most] w fun e w' => e = .returned (.string (B (cutL s.data.toList most))) ∧ w = w' := cut_any s most w hs
theorem u16_in {m : Int} (h : (Lit.int .u16 m).wf = true) : 0 ≤ m ∧ m ≤ 65535 := by
  simp [Lit.wf, IntKind.signed, IntKind.bits, IntKind.min, IntKind.max] at h
  omega
theorem ext_B (l e : List UInt8) (k : Nat) (hk : l.length = k) : (B (l ++ e)).extract 0 k = B l := by
  apply ByteArray.ext
  simp [B, ByteArray.data_extract, ← hk]
theorem ext_E (l e : List UInt8) (k n : Nat) (hk : l.length = k) (hn : n = k + e.length) : (B (l ++ e)).extract k n = B e := by
  apply ByteArray.ext
  rw [ByteArray.data_extract]
  show ((l ++ e).toArray.extract k n) = e.toArray
  apply Array.ext'
  simp [Array.toList_extract, List.extract_eq_take_drop, ← hk, hn]
theorem ext_S (s : ByteArray) (k : Nat) : s.extract 0 k = B (s.data.toList.take k) := by
  apply ByteArray.ext
  rw [ByteArray.data_extract]
  show s.data.extract 0 k = (s.data.toList.take k).toArray
  apply Array.ext'
  simp [Array.toList_extract, List.extract_eq_take_drop]

set_option maxHeartbeats 4000000 in
set_option maxRecDepth 100000 in
theorem cuts_any (s : ByteArray) (m : Int) (w : World) (hm : Mx w) (hT : Tb w) (h0 : s.size ≤ maxLen) (hw : (Lit.int .u16 m).wf = true) :
    Calls Tryz.prog 5 #[.string s, .int .u16 m] w fun e w' => e = .returned (.bool true) ∧ Below w.heap.size w w' := by
  have HM0 := Lib.hid hm
  have HT0 := Lib.hid hT
  obtain ⟨m0, m1⟩ := u16_in hw
  clear hm hT hw
  have q1 : IntKind.i64.wrap m = m := by unfold IntKind.wrap; simp [IntKind.signed, IntKind.bits]; omega
  by_cases g1 : (s.size : Int) > 2000
  · go_enter Tryz.func5, Tryz.ntmps5
    go_wp2_with fail
    refine (awake_any _ HM0.out).mono ?_
    rintro e w1 ⟨rfl, b1⟩
    have HB1 := Lib.hid b1
    clear b1
    go_wp2_with fail
    go_ret
    exact ⟨rfl, HB1.out⟩
  · have hs' : s.size ≤ 1000000000 := by omega
    obtain ⟨z, hv⟩ : ∃ z : Int, (if Lib.validD s.data.toList = true then (0 : Int) else 4) = z := ⟨_, rfl⟩
    have HV := Lib.hid hv
    clear hv
    go_enter Tryz.func5, Tryz.ntmps5
    go_wp2_with fail
    refine (jq_any s _ hs' HT0.out).mono ?_
    rintro e w1 ⟨⟨q, rfl⟩, b1⟩
    rw [HV.out]
    have HM1 := Lib.hid (HM0.out.below b1 (Nat.le_refl _))
    have HT1 := Lib.hid (HT0.out.below b1 (Nat.le_refl _))
    have HB1 := Lib.hid b1
    have sz1 := b1.size
    clear b1
    go_wp2_with fail
    refine (cut_C s m _ hs').mono ?_
    rintro e w2 ⟨rfl, rfl⟩
    by_cases h1 : (s.size : Int) ≤ m
    · have e1 : B (cutL s.data.toList m) = s := by
        unfold cutL
        rw [if_pos (by rw [size_list]; exact h1), B_self]
      rw [e1]
      clear e1
      go_wp2_with fail
      refine (awake_any _ HM1.out).mono ?_
      rintro e w7 ⟨rfl, b7⟩
      have HB7 := Lib.hid (HB1.out.trans (b7.mono sz1))
      clear b7
      go_wp2_with fail
      go_ret
      exact ⟨rfl, HB7.out⟩
    · by_cases h2 : m < 3
      · have e1 : B (cutL s.data.toList m) = ⟨#[]⟩ := by
          unfold cutL
          rw [if_neg (by rw [size_list]; exact h1), if_pos h2]
          rfl
        rw [e1]
        clear e1
        go_wp2_with fail
        refine (awake_any _ HM1.out).mono ?_
        rintro e w7 ⟨rfl, b7⟩
        have HB7 := Lib.hid (HB1.out.trans (b7.mono sz1))
        clear b7
        go_wp2_with fail
        go_ret
        exact ⟨rfl, HB7.out⟩
      · obtain ⟨k, hk⟩ : ∃ k, cutN s.data.toList (m - 3).toNat = k := ⟨_, rfl⟩
        have hkm : (k : Int) ≤ m - 3 := by have := cutN_le s.data.toList (m - 3).toNat; omega
        have hks : k ≤ s.size := by omega
        have hks2 : (k : Int) ≤ (s.size : Int) := by omega
        have e1 : cutL s.data.toList m = s.data.toList.take k ++ [46, 46, 46] := by
          unfold cutL
          rw [if_neg (by rw [size_list]; exact h1), if_neg h2, hk]
        have hlen : (s.data.toList.take k).length = k := by rw [List.length_take, size_list]; omega
        have HC : Hid (z = 0 → Lib.validD (B (cutL s.data.toList m)).data.toList = true) := Lib.hid (fun h => by
          rw [B_list]
          exact cutL_valid _ _ (by rw [size_list]; exact h1) (by omega) (by have e := HV.out; by_cases hh : Lib.validD s.data.toList = true; exact hh; rw [if_neg hh] at e; omega))
        rw [e1] at HC ⊢
        have c1 : (B (s.data.toList.take k ++ [46, 46, 46])).size = k + 3 := by rw [B_size, List.length_append, hlen]; rfl
        have c2 : (B (s.data.toList.take k ++ [46, 46, 46])).extract k (k + 3) = ⟨#[46, 46, 46]⟩ := ext_E _ _ _ _ hlen rfl
        have c3 : (B (s.data.toList.take k ++ [46, 46, 46])).extract 0 k = s.extract 0 k := by rw [ext_B _ _ _ hlen, ext_S]
        generalize B (s.data.toList.take k ++ [46, 46, 46]) = c at *
        have hc9 : c.size ≤ 1000000000 := by omega
        clear e1 hlen hk
        have h3 : m ≥ 3 := by omega
        have h4 : m < (s.size : Int) := by omega
        clear h1 h2
        have hkm2 : (k : Int) + 3 ≤ m := by omega
        have d1 : decide (m < (k : Int) + 3) = false := decide_eq_false (by omega)
        have d2 : decide ((k : Int) + 3 < 3) = false := decide_eq_false (by omega)
        have w3 : IntKind.i64.wrap ((k : Int) + 3 - 3) = (k : Int) := by unfold IntKind.wrap; simp [IntKind.signed, IntKind.bits]; omega
        have w4 : (k : Int) + 3 - 3 = (k : Int) := by omega
        have z1 : (0 : Int) ≤ (k : Int) := by omega
        have z2 : (k : Int) ≤ (k : Int) + 3 := by omega
        by_cases hz : z = 0
        · have HCT := Lib.hid (HC.out hz)
          subst hz
          go_wp2_with fail
          go_quiet (fail)
          go_wp2_with fail
          have HT2 := Lib.hid (show Tb (w1.drewN nq) from HT1.out)
          have HM2 := Lib.hid (HM1.out.drewN nq)
          have HB2 := Lib.hid (below_drewN HB1.out nq)
          refine (jq_any c _ hc9 HT2.out).mono ?_
          rintro e w3 ⟨⟨q3, rfl⟩, b3⟩
          rw [HCT.out]
          have HM3 := Lib.hid (HM2.out.below b3 (Nat.le_refl _))
          have HB3 := Lib.hid (HB2.out.trans (b3.mono sz1))
          have sz3 := HB3.out.size
          clear b3
          go_wp2_with fail
          refine (awake_any _ HM3.out).mono ?_
          rintro e w7 ⟨rfl, b7⟩
          have HB7 := Lib.hid (HB3.out.trans (b7.mono sz3))
          clear b7
          go_wp2_with fail
          go_ret
          exact ⟨rfl, HB7.out⟩
        · have hz4 : (z != 0) = true := by simpa using hz
          clear hz
          go_wp2_with fail
          go_quiet (fail)
          go_wp2_with fail
          have HT2 := Lib.hid (show Tb (w1.drewN nq) from HT1.out)
          have HM2 := Lib.hid (HM1.out.drewN nq)
          have HB2 := Lib.hid (below_drewN HB1.out nq)
          refine (jq_any c _ hc9 HT2.out).mono ?_
          rintro e w3 ⟨⟨q3, rfl⟩, b3⟩
          generalize (if Lib.validD c.data.toList = true then (0 : Int) else 4) = x
          have HM3 := Lib.hid (HM2.out.below b3 (Nat.le_refl _))
          have HB3 := Lib.hid (HB2.out.trans (b3.mono sz1))
          have sz3 := HB3.out.size
          clear b3
          go_wp2_with fail
          refine (awake_any _ HM3.out).mono ?_
          rintro e w7 ⟨rfl, b7⟩
          have HB7 := Lib.hid (HB3.out.trans (b7.mono sz3))
          clear b7
          go_wp2_with fail
          go_ret
          exact ⟨rfl, HB7.out⟩

end Go.Proofs.YthpdpnegbkmbkaaGreatDoor
