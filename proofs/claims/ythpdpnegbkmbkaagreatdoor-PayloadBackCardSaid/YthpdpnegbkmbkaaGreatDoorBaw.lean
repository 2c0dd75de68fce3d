/- PayloadBack: the walk. -/
import Derived.Test.YthpdpnegbkmbkaaGreatDoorQuo
import Derived.Test.YthpdpnegbkmbkaaGreatDoorBak
set_option linter.unusedVariables false
set_option linter.unusedSimpArgs false
namespace Go.Proofs.YthpdpnegbkmbkaaGreatDoor
open Go.RowKit

/-- What the loop over the quotation's bytes keeps. -/
def ChkAt (q : ByteArray) (k L : Nat) : Prop := chk (q.data.toList.take k).reverse L (q.data.toList.drop k) = true
theorem ChkAt.at_ {q : ByteArray} {k L : Nat} (h : ChkAt q k L) (hk : k < q.size) : chk (q.data.toList.take k).reverse L (q[k] :: q.data.toList.drop (k + 1)) = true := by
  rw [← drop_at q k hk]; exact h
theorem take_rev (q : ByteArray) (k : Nat) (hk : k < q.size) : (q.data.toList.take (k + 1)).reverse = q[k] :: (q.data.toList.take k).reverse := by
  rw [take_snoc q k hk, List.reverse_append]; rfl
theorem ChkAt.ten {q : ByteArray} {k L : Nat} (h : ChkAt q k L) (hk : k < q.size) (h10 : q[k].toNat = 10) : endOk (q.data.toList.take k).reverse L = true ∧ ChkAt q (k + 1) 0 := by
  have := h.at_ hk
  rw [chk, if_pos h10, Bool.and_eq_true] at this
  exact ⟨this.1, by unfold ChkAt; rw [take_rev q k hk]; exact this.2⟩
theorem ChkAt.one {q : ByteArray} {k L : Nat} (h : ChkAt q k L) (hk : k < q.size) (h10 : q[k].toNat ≠ 10) : (q[k].toNat ≤ 126 ∧ (32 ≤ q[k].toNat ∨ q[k].toNat = 9 ∨ q[k].toNat = 13)) ∧ ChkAt q (k + 1) (L + 1) := by
  have := h.at_ hk
  rw [chk, if_neg h10, Bool.and_eq_true] at this
  exact ⟨of_decide_eq_true this.1, by unfold ChkAt; rw [take_rev q k hk]; exact this.2⟩
theorem ChkAt.end_ {q : ByteArray} {k L : Nat} (h : ChkAt q k L) (hk : q.size ≤ k) : L ≤ 76 := by
  unfold ChkAt at h
  rw [List.drop_of_length_le (by rw [size_list]; exact hk)] at h
  exact of_decide_eq_true h
theorem end_zero {q : ByteArray} {L : Nat} (h : endOk (q.data.toList.take 0).reverse L = true) : False := by
  rw [List.take_zero] at h
  cases h
theorem end_one {q : ByteArray} {L : Nat} (hk : 1 < q.size) (h : endOk (q.data.toList.take 1).reverse L = true) : q[0].toNat = 13 ∧ L ≤ 77 := by
  rw [take_rev q 0 (by omega), List.take_zero] at h
  exact of_decide_eq_true h
theorem end_two {q : ByteArray} {j L : Nat} (hk : j + 2 < q.size) (h : endOk (q.data.toList.take (j + 2)).reverse L = true) : q[j + 1].toNat = 13 ∧ L ≤ 77 ∧ q[j].toNat ≠ 32 ∧ q[j].toNat ≠ 9 := by
  rw [take_rev q (j + 1) (by omega), take_rev q j (by omega)] at h
  exact of_decide_eq_true h

set_option maxHeartbeats 4000000 in
set_option maxRecDepth 100000 in
theorem back_any (s t : ByteArray) (w : World) (hm : Mx w) (h0 : s.size ≤ maxLen) (h1 : t.size ≤ maxLen) :
    Calls Tryz.prog 7 #[.string s, .string t] w fun e w' => e = .returned (.bool true) ∧ Below w.heap.size w w' := by
  have HM0 := Lib.hid hm
  clear hm
  by_cases g1 : (s.size : Int) > 2000
  · go_enter Tryz.func7, Tryz.ntmps7
    go_wp2_with fail
    refine (awake_any _ HM0.out).mono ?_
    rintro e w1 ⟨rfl, b1⟩
    have HB1 := Lib.hid b1
    clear b1
    go_wp2_with fail
    go_ret
    exact ⟨rfl, HB1.out⟩
  · by_cases g2 : (t.size : Int) > 2000
    · go_enter Tryz.func7, Tryz.ntmps7
      go_wp2_with fail
      refine (awake_any _ HM0.out).mono ?_
      rintro e w1 ⟨rfl, b1⟩
      have HB1 := Lib.hid b1
      clear b1
      go_wp2_with fail
      go_ret
      exact ⟨rfl, HB1.out⟩
    · have hs' : s.size ≤ 1000000000 := by omega
      have ht' : t.size ≤ 1000000000 := by omega
      have hql : (B (quotL s.data.toList)).size ≤ 12000 := by
        have := quotA_le s.data.toList 0
        rw [B_size]
        rw [size_list] at this
        unfold quotL
        omega
      have HC0 : Hid (ChkAt (B (quotL s.data.toList)) 0 0) := Lib.hid (by unfold ChkAt; rw [B_list]; exact chk_start _)
      have HR : Hid (unqR (B (quotL s.data.toList)).data.toList = #[.string s, .int .i64 0]) := Lib.hid (by rw [B_list]; exact unqR_quot s)
      go_enter Tryz.func7, Tryz.ntmps7
      go_wp2_with fail
      refine (quoted_B s _ hs').mono ?_
      rintro e w1 ⟨rfl, b1⟩
      have HM1 := Lib.hid (HM0.out.below b1 (Nat.le_refl _))
      have HB1 := Lib.hid b1
      have sz1 := b1.size
      clear b1
      generalize B (quotL s.data.toList) = q at *
      go_wp2_with fail
      refine (unq_any q _ (by omega)).mono ?_
      rintro e w2 ⟨rfl, b2⟩
      rw [HR.out]
      have HM2 := Lib.hid (HM1.out.below b2 (Nat.le_refl _))
      have HB2 := Lib.hid (HB1.out.trans (b2.mono sz1))
      have sz2 := HB2.out.size
      clear b2
      go_wp2_with fail
      go_loop [8, 9] (fun l i => ∃ k L : Nat, k ≤ q.size ∧ L ≤ k ∧ i = .int .i64 k ∧ l = .int .i64 L ∧ ChkAt q k L) (fun _ i => q.size - (intOf i).toNat)
      case atStart => exact ⟨0, 0, Nat.zero_le _, Nat.zero_le _, rfl, rfl, HC0.out⟩
      case round =>
        obtain ⟨k, L, hk, hL, rfl, rfl, hC⟩ := hrel
        have HC := Lib.hid hC
        clear hC
        by_cases hlt : k < q.size
        · by_cases h10 : q[k].toNat = 10
          · have HN := Lib.hid (HC.out.ten hlt h10)
            have b10 : ((q[k].toNat : Int) == 10) = true := by rw [beq_iff_eq]; omega
            have r1 : (q[k].toNat : Int) ≤ 126 := by omega
            have r2 : (q[k].toNat : Int) < 32 := by omega
            have r3 : ((q[k].toNat : Int) != 9) = true := by simp; omega
            have r4 : ((q[k].toNat : Int) != 10) = false := by simp; omega
            clear h10
            match k, hlt, hk, hL, HC, HN, b10, r1, r2, r3, r4 with
            | 0, hlt, hk, hL, HC, HN, b10, r1, r2, r3, r4 => exact (end_zero HN.out.1).elim
            | 1, hlt, hk, hL, HC, HN, b10, r1, r2, r3, r4 =>
              obtain ⟨e1, e2⟩ := end_one hlt HN.out.1
              have e3 : ((q[0].toNat : Int) != 13) = false := by simp; omega
              clear e1
              go_wp2
              exact ⟨⟨2, 0, by omega, by omega, rfl, rfl, HN.out.2⟩, by simp [intOf]; omega⟩
            | j + 2, hlt, hk, hL, HC, HN, b10, r1, r2, r3, r4 =>
              obtain ⟨e1, e2, e4, e5⟩ := end_two hlt HN.out.1
              have e3 : ((q[j + 1].toNat : Int) != 13) = false := by simp; omega
              have e6 : ((q[j].toNat : Int) == 32) = false := by rw [beq_eq_false_iff_ne]; omega
              have e7 : ((q[j].toNat : Int) == 9) = false := by rw [beq_eq_false_iff_ne]; omega
              have e8 : (((j : Int) + 2) == 0) = false := by rw [beq_eq_false_iff_ne]; omega
              have e9 : (L : Int) ≤ 77 := by omega
              clear e1 e4 e5 e2
              go_wp2
              exact ⟨⟨j + 2 + 1, 0, by omega, by omega, by go_num, rfl, HN.out.2⟩, by simp [intOf]; omega⟩
          · have HN := Lib.hid (HC.out.one hlt h10)
            have b10 : ((q[k].toNat : Int) == 10) = false := by rw [beq_eq_false_iff_ne]; omega
            have r1 : (q[k].toNat : Int) ≤ 126 := by have := HN.out.1.1; omega
            clear h10
            rcases HN.out.1.2 with r2 | r2 | r2
            · have r3 : (32 : Int) ≤ (q[k].toNat : Int) := by omega
              clear r2
              go_wp2
              exact ⟨⟨k + 1, L + 1, by omega, by omega, by go_num, by go_num, HN.out.2⟩, by simp [intOf]; omega⟩
            · have r3 : ((q[k].toNat : Int) != 9) = false := by simp; omega
              have r4 : (q[k].toNat : Int) < 32 := by omega
              clear r2
              go_wp2
              exact ⟨⟨k + 1, L + 1, by omega, by omega, by go_num, by go_num, HN.out.2⟩, by simp [intOf]; omega⟩
            · have r3 : ((q[k].toNat : Int) != 9) = true := by simp; omega
              have r5 : ((q[k].toNat : Int) != 10) = true := by simp; omega
              have r6 : ((q[k].toNat : Int) != 13) = false := by simp; omega
              have r4 : (q[k].toNat : Int) < 32 := by omega
              clear r2
              go_wp2
              exact ⟨⟨k + 1, L + 1, by omega, by omega, by go_num, by go_num, HN.out.2⟩, by simp [intOf]; omega⟩
        · have hend := HC.out.end_ (by omega)
          have hend' : (L : Int) ≤ 76 := by omega
          go_wp2_with fail
          refine (unq_any t _ ht').mono ?_
          rintro e w3 ⟨rfl, b3⟩
          have HM3 := Lib.hid (HM2.out.below b3 (Nat.le_refl _))
          have HB3 := Lib.hid (HB2.out.trans (b3.mono sz2))
          have sz3 := HB3.out.size
          clear b3
          by_cases hq : quotL (unqA t.data.toList) = t.data.toList
          · rw [unqR_yes hq]
            have HQ := Lib.hid hq
            have HZ : Hid ((B (unqA t.data.toList)).size ≤ 1000000000) := Lib.hid (by
              have := (unqA_len t.data.toList)
              rw [B_size]
              rw [size_list] at this
              omega)
            clear hq
            go_wp2_with fail
            refine (quoted_B (B (unqA t.data.toList)) _ HZ.out).mono ?_
            rintro e w4 ⟨rfl, b4⟩
            have HM4 := Lib.hid (HM3.out.below b4 (Nat.le_refl _))
            have HB4 := Lib.hid (HB3.out.trans (b4.mono sz3))
            have sz4 := HB4.out.size
            clear b4
            rw [B_list, HQ.out, B_self]
            go_wp2_with fail
            refine (awake_any _ HM4.out).mono ?_
            rintro e w7 ⟨rfl, b7⟩
            have HB7 := Lib.hid (HB4.out.trans (b7.mono sz4))
            clear b7
            go_wp2_with fail
            go_ret
            exact ⟨rfl, HB7.out⟩
          · rw [unqR_no hq]
            clear hq
            go_wp2_with fail
            refine (awake_any _ HM3.out).mono ?_
            rintro e w7 ⟨rfl, b7⟩
            have HB7 := Lib.hid (HB3.out.trans (b7.mono sz3))
            clear b7
            go_wp2_with fail
            go_ret
            exact ⟨rfl, HB7.out⟩

end Go.Proofs.YthpdpnegbkmbkaaGreatDoor
