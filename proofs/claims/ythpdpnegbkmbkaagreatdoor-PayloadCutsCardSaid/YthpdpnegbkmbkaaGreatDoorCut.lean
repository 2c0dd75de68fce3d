/- What payload.Cut comes to. -/
import Derived.Test.YthpdpnegbkmbkaaGreatDoorPay
set_option linter.unusedVariables false
set_option linter.unusedSimpArgs false
namespace Go.Proofs.YthpdpnegbkmbkaaGreatDoor
open Go.RowKit

def inW (c : UInt8) : Bool := c.toNat / 64 == 2
def cutN (l : List UInt8) : Nat → Nat
  | 0 => 0
  | n + 1 => if inW (l.getD (n + 1) 0) then cutN l n else n + 1
def cutL (l : List UInt8) (most : Int) : List UInt8 := if (l.length : Int) ≤ most then l else if most < 3 then [] else l.take (cutN l (most - 3).toNat) ++ [46, 46, 46]
theorem cutN_le (l : List UInt8) (n : Nat) : cutN l n ≤ n := by
  induction n with
  | zero => simp [cutN]
  | succ n ih => unfold cutN; split <;> omega

set_option maxHeartbeats 1000000 in
theorem within_any (c : Int) (w : World) (h0 : 0 ≤ c) (h1 : c ≤ 255) : Calls Tryz.prog 37 #[.int .u8 c] w fun e w' => e = .returned (.bool (c / 64 == 2)) ∧ w = w' := by
  go_enter Tryz.func37, Tryz.ntmps37
  go_wp2
  go_ret
  exact ⟨rfl, rfl⟩
theorem within_c (c : Int) (u : UInt8) (w : World) (hc : c = u.toNat) (b : Bool) (hb : inW u = b) : Calls Tryz.prog 37 #[.int .u8 c] w fun e w' => e = .returned (.bool b) ∧ w = w' := by
  have hu := u.toNat_lt
  refine (within_any c w (by omega) (by omega)).mono ?_
  rintro e w' ⟨rfl, rfl⟩
  refine ⟨?_, rfl⟩
  subst hb hc
  have : (((u.toNat : Int) / 64 == 2) : Bool) = inW u := by
    unfold inW
    by_cases e : u.toNat / 64 = 2
    · rw [beq_iff_eq.2 e, beq_iff_eq.2 (by omega)]
    · rw [beq_eq_false_iff_ne.2 e, beq_eq_false_iff_ne.2 (by omega)]
  rw [this]

theorem getD_at (s : ByteArray) (k : Nat) (h : k < s.size) : s.data.toList.getD k 0 = s[k] := by
  rw [List.getD_eq_getElem?_getD, List.getElem?_eq_getElem (by simpa using h)]
  rfl
theorem cutN_go {s : ByteArray} {k : Nat} (h : k + 1 < s.size) (hw : inW s[k + 1] = true) : cutN s.data.toList (k + 1) = cutN s.data.toList k := by
  rw [cutN, getD_at s (k + 1) h, if_pos hw]
theorem cutN_stop {s : ByteArray} {k : Nat} (h : k + 1 < s.size) (hw : inW s[k + 1] = false) : cutN s.data.toList (k + 1) = k + 1 := by
  rw [cutN, getD_at s (k + 1) h, if_neg (by simp [hw])]

theorem cut_text {s : ByteArray} {k : Nat} {most : Int} (h1 : ¬ (s.size : Int) ≤ most) (h2 : 3 ≤ most) (hk : cutN s.data.toList (most - 3).toNat = k) :
    (s.extract 0 k ++ ⟨#[46, 46, 46]⟩ : ByteArray) = ⟨(cutL s.data.toList most).toArray⟩ := by
  have e : cutL s.data.toList most = s.data.toList.take k ++ [46, 46, 46] := by
    unfold cutL
    rw [if_neg (by simpa using h1), if_neg (by omega), hk]
  rw [e]
  apply ByteArray.ext
  simp [ByteArray.data_append, ByteArray.data_extract]

set_option maxHeartbeats 1000000 in
set_option maxRecDepth 100000 in
theorem cut_any (s : ByteArray) (most : Int) (w : World) (hs : s.size ≤ 1000000000) :
    Calls Tryz.prog 17 #[.string s, .int .i64 most] w fun e w' => e = .returned (.string ⟨(cutL s.data.toList most).toArray⟩) ∧ w = w' := by
  by_cases h1 : (s.size : Int) ≤ most
  · go_enter Tryz.func17, Tryz.ntmps17
    go_wp2
    go_ret
    refine ⟨?_, rfl⟩
    have e : cutL s.data.toList most = s.data.toList := by unfold cutL; rw [if_pos (by simpa using h1)]
    rw [e]
    rfl
  · by_cases h2 : most < 3
    · go_enter Tryz.func17, Tryz.ntmps17
      go_wp2
      go_ret
      refine ⟨?_, rfl⟩
      have e : cutL s.data.toList most = [] := by unfold cutL; rw [if_neg (by simpa using h1), if_pos h2]
      rw [e]
      rfl
    · obtain ⟨n, rfl⟩ : ∃ n : Nat, most = n + 3 := ⟨(most - 3).toNat, by omega⟩
      have hn : n + 3 < s.size := by omega
      have HT := Lib.hid (fun k => cut_text (s := s) (k := k) (most := (n : Int) + 3) h1 (by omega))
      go_enter Tryz.func17, Tryz.ntmps17
      go_wp2
      go_loop [5] (fun i => ∃ k : Nat, k ≤ n ∧ i = .int .i64 k ∧ cutN s.data.toList n = cutN s.data.toList k) (fun i => (intOf i).toNat)
      case atStart => exact ⟨n, Nat.le_refl _, by go_num, rfl⟩
      case round =>
        obtain ⟨k, hk, rfl, he⟩ := hrel
        have HE := Lib.hid he
        clear he
        cases k with
        | zero =>
          go_wp2_with fail
          go_ret
          refine ⟨?_, rfl⟩
          have e0 : (s.extract 0 0 ++ ⟨#[46, 46, 46]⟩ : ByteArray) = ⟨#[46, 46, 46]⟩ := by apply ByteArray.ext; simp [ByteArray.data_append, ByteArray.data_extract]
          rw [← HT.out 0 (by rw [show ((n : Int) + 3 - 3).toNat = n by omega, HE.out]; rfl), e0]
          rfl
        | succ k =>
          have hks : k + 1 < s.size := by omega
          cases hw : inW s[k + 1] with
          | true =>
            go_wp2_with (go_at_call 37; refine (within_c _ s[k + 1] _ rfl _ hw).mono ?_; rintro e w1 ⟨rfl, rfl⟩)
            exact ⟨⟨k, by omega, rfl, by rw [HE.out]; exact cutN_go hks hw⟩, by simp [intOf]⟩
          | false =>
            go_wp2_with (go_at_call 37; refine (within_c _ s[k + 1] _ rfl _ hw).mono ?_; rintro e w1 ⟨rfl, rfl⟩)
            go_ret
            refine ⟨?_, rfl⟩
            rw [← HT.out (k + 1) (by rw [show ((n : Int) + 3 - 3).toNat = n by omega, HE.out]; exact cutN_stop hks hw)]
            rfl

end Go.Proofs.YthpdpnegbkmbkaaGreatDoor
