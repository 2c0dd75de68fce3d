/- What the document's functions on texts come to: hex, Escape, Cut. -/
import Derived.Test.YthpdpnegbkmbkaaGreatDoorHdr
set_option linter.unusedVariables false
set_option linter.unusedSimpArgs false
namespace Go.Proofs.YthpdpnegbkmbkaaGreatDoor
open Go.RowKit

/-- A text as a string. -/
def B (l : List UInt8) : ByteArray := ⟨l.toArray⟩
theorem B_append (a b : List UInt8) : B a ++ B b = B (a ++ b) := by
  apply ByteArray.ext; simp [B, ByteArray.data_append]
theorem B_self (s : ByteArray) : B s.data.toList = s := rfl
theorem B_list (l : List UInt8) : (B l).data.toList = l := by simp [B]
theorem B_size (l : List UInt8) : (B l).size = l.length := by show l.toArray.size = _; simp
theorem B_one (s : ByteArray) (k : Nat) (h : k < s.size) : s.extract k (k + 1) = B [s[k]] := by
  apply ByteArray.ext
  apply Array.ext'
  simp only [ByteArray.data_extract, Array.toList_extract, B]
  have h' : k < s.data.toList.length := by simpa using h
  rw [List.extract_eq_take_drop] <;> simp
  rw [List.drop_eq_getElem_cons (by simpa using h)]
  rfl
theorem B_inj {a b : List UInt8} (h : B a = B b) : a = b := by
  have := congrArg (fun x : ByteArray => x.data.toList) h
  simpa [B] using this

theorem dig_text (a : Nat) (h : a < 16) : (ByteArray.mk #[48, 49, 50, 51, 52, 53, 54, 55, 56, 57, 65, 66, 67, 68, 69, 70]).extract a (a + 1) = B [hexDig a] := by
  have h' : a < (ByteArray.mk #[48, 49, 50, 51, 52, 53, 54, 55, 56, 57, 65, 66, 67, 68, 69, 70]).size := h
  rw [B_one _ a h', hexD_get a h']

set_option maxHeartbeats 1000000 in
set_option maxRecDepth 100000 in
theorem rhex_any (c : Int) (u : UInt8) (w : World) (hc : c = u.toNat) :
    Calls Tryz.prog 36 #[.int .u8 c] w fun e w' => e = .returned (.string (B (hexB u))) ∧ ∃ n, w' = w.drewN n := by
  have hu := u.toNat_lt
  obtain ⟨a, ha⟩ : ∃ a : Nat, a = u.toNat / 16 := ⟨_, rfl⟩
  obtain ⟨b, hb⟩ : ∃ b : Nat, b = u.toNat % 16 := ⟨_, rfl⟩
  have HA := Lib.hid ha
  have HB := Lib.hid hb
  have e1 : c.tdiv 16 = a := by rw [hc, ha]; rw [Int.tdiv_eq_ediv_of_nonneg (by omega)]; omega
  have e2 : c.tmod 16 = b := by rw [hc, hb]; rw [Int.tmod_eq_emod_of_nonneg (by omega)]; omega
  have a1 : a < 16 := by omega
  have b1 : b < 16 := by omega
  have w1 : IntKind.u8.wrap (a : Int) = a := by unfold IntKind.wrap; simp [IntKind.signed, IntKind.bits]; omega
  have w2 : IntKind.u8.wrap (b : Int) = b := by unfold IntKind.wrap; simp [IntKind.signed, IntKind.bits]; omega
  have w3 : IntKind.u8.wrap ((a : Int) + 1) = a + 1 := by unfold IntKind.wrap; simp [IntKind.signed, IntKind.bits]; omega
  have w4 : IntKind.u8.wrap ((b : Int) + 1) = b + 1 := by unfold IntKind.wrap; simp [IntKind.signed, IntKind.bits]; omega
  have a2 : (a : Int) + 1 ≤ 16 := by omega
  have b2 : (b : Int) + 1 ≤ 16 := by omega
  have a0 : 0 ≤ (a : Int) := by omega
  have b0 : 0 ≤ (b : Int) := by omega
  have a3 : (a : Int) ≤ a + 1 := by omega
  have b3 : (b : Int) ≤ b + 1 := by omega
  have a4 : 0 ≤ (a : Int) + 1 := by omega
  have b4 : 0 ≤ (b : Int) + 1 := by omega
  have d1 := dig_text a a1
  have d2 := dig_text b b1
  have s1 : (B [hexDig a]).size = 1 := by rw [B_size]; rfl
  have s2 : (B [hexDig b]).size = 1 := by rw [B_size]; rfl
  clear ha hb hc hu
  go_enter Tryz.func36, Tryz.ntmps36
  go_wp2
  go_quiet (fail)
  go_wp2
  go_ret
  refine ⟨?_, _, rfl⟩
  show Ending.returned (.string (B [61] ++ B [hexDig a] ++ B [hexDig b])) = _
  rw [B_append, B_append, HA.out, HB.out]
  rfl

theorem esc_str {s : ByteArray} {k : Nat} {x : List UInt8} (hlt : k < s.size) (hx : escB s[k] = x) : Value.string (B (escL (s.data.toList.take k)) ++ B x) = Value.string (B (escL (s.data.toList.take (k + 1)))) := by
  rw [take_snoc s k hlt, escL_snoc, hx, B_append]

set_option maxHeartbeats 1000000 in
set_option maxRecDepth 100000 in
theorem rescape_any (s : ByteArray) (w : World) (hs : s.size ≤ 1000000000) :
    Calls Tryz.prog 16 #[.string s] w fun e w' => e = .returned (.string (B (escL s.data.toList))) ∧ w = w' := by
  go_enter Tryz.func16, Tryz.ntmps16
  go_wp2
  go_loop [3, 4] (fun o i => ∃ k : Nat, k ≤ s.size ∧ i = .int .i64 k ∧ o = .string (B (escL (s.data.toList.take k)))) (fun _ i => s.size - (intOf i).toNat)
  case atStart => exact ⟨0, Nat.zero_le _, rfl, rfl⟩
  case round =>
    obtain ⟨k, hk, rfl, rfl⟩ := hrel
    have hl := escL_le (s.data.toList.take k)
    have hl2 : (s.data.toList.take k).length ≤ k := List.length_take_le _ _
    have hbs : (B (escL (s.data.toList.take k))).size ≤ 5000000000 := by rw [B_size]; omega
    by_cases hlt : k < s.size
    · go_wp2
      · exact ⟨⟨k + 1, by omega, by go_num, esc_str hlt (escB_1 (by assumption))⟩, by simp [intOf]; omega⟩
      · exact ⟨⟨k + 1, by omega, by go_num, esc_str hlt (escB_2 (by assumption) (by assumption))⟩, by simp [intOf]; omega⟩
      · exact ⟨⟨k + 1, by omega, by go_num, esc_str hlt (escB_3 (by assumption) (by assumption) (by assumption))⟩, by simp [intOf]; omega⟩
      · exact ⟨⟨k + 1, by omega, by go_num, esc_str hlt (escB_4 (by assumption) (by assumption) (by assumption) (by assumption) (by assumption))⟩, by simp [intOf]; omega⟩
      all_goals
        rw [B_one s k hlt]
        exact ⟨⟨k + 1, by omega, by go_num, esc_str hlt (escB_5 (by assumption) (by assumption) (by assumption) (by first | exact Or.inr (by assumption) | exact Or.inl (by omega)))⟩, by simp [intOf]; omega⟩
    · have hks : s.size ≤ k := by omega
      go_wp2
      go_ret
      refine ⟨?_, rfl⟩
      rw [List.take_of_length_le (by simpa using hks)]
      rfl

theorem inW_no {c : UInt8} (h : inW c = false) : (c.toNat : Int) < 128 ∨ 191 < (c.toNat : Int) := by
  unfold inW at h
  rw [beq_eq_false_iff_ne] at h
  omega
theorem inW_yes {c : UInt8} (h : inW c = true) : 128 ≤ (c.toNat : Int) ∧ (c.toNat : Int) ≤ 191 := by
  unfold inW at h
  rw [beq_iff_eq] at h
  omega

set_option maxHeartbeats 1000000 in
set_option maxRecDepth 100000 in
theorem rcut_any (s : ByteArray) (most : Int) (w : World) (hs : s.size ≤ 1000000000) :
    Calls Tryz.prog 18 #[.string s, .int .i64 most] w fun e w' => e = .returned (.string (B (cutL s.data.toList most))) ∧ w = w' := by
  by_cases h1 : (s.size : Int) ≤ most
  · go_enter Tryz.func18, Tryz.ntmps18
    go_wp2
    go_ret
    refine ⟨?_, rfl⟩
    have e : cutL s.data.toList most = s.data.toList := by unfold cutL; rw [if_pos (by simpa using h1)]
    rw [e]
    rfl
  · by_cases h2 : most < 3
    · go_enter Tryz.func18, Tryz.ntmps18
      go_wp2
      go_ret
      refine ⟨?_, rfl⟩
      have e : cutL s.data.toList most = [] := by unfold cutL; rw [if_neg (by simpa using h1), if_pos h2]
      rw [e]
      rfl
    · obtain ⟨n, rfl⟩ : ∃ n : Nat, most = n + 3 := ⟨(most - 3).toNat, by omega⟩
      have hn : n + 3 < s.size := by omega
      have HT := Lib.hid (fun k => cut_text (s := s) (k := k) (most := (n : Int) + 3) h1 (by omega))
      go_enter Tryz.func18, Tryz.ntmps18
      go_wp2
      go_loop [5] (fun i => ∃ k : Nat, k ≤ n ∧ i = .int .i64 k ∧ cutN s.data.toList n = cutN s.data.toList k) (fun i => (intOf i).toNat)
      case atStart => exact ⟨n, Nat.le_refl _, by go_num, rfl⟩
      case round =>
        obtain ⟨k, hk, rfl, he⟩ := hrel
        have HE := Lib.hid he
        clear he
        cases k with
        | zero =>
          go_wp2
          go_ret
          refine ⟨?_, rfl⟩
          have e0 : (s.extract 0 0 ++ ⟨#[46, 46, 46]⟩ : ByteArray) = ⟨#[46, 46, 46]⟩ := by apply ByteArray.ext; simp [ByteArray.data_append, ByteArray.data_extract]
          show _ = Ending.returned (Value.string ⟨(cutL s.data.toList ((n : Int) + 3)).toArray⟩)
          rw [← HT.out 0 (by rw [show ((n : Int) + 3 - 3).toNat = n by omega, HE.out]; rfl), e0]
          rfl
        | succ k =>
          have hks : k + 1 < s.size := by omega
          cases hw : inW s[k + 1] with
          | true =>
            obtain ⟨g1, g2⟩ := inW_yes hw
            have HW := Lib.hid hw
            clear hw
            go_wp2
            exact ⟨⟨k, by omega, rfl, by rw [HE.out]; exact cutN_go hks HW.out⟩, by simp [intOf]⟩
          | false =>
            have HW := Lib.hid hw
            rcases inW_no hw with g | g
            all_goals
              clear hw
              go_wp2
              go_ret
              refine ⟨?_, rfl⟩
              show _ = Ending.returned (Value.string ⟨(cutL s.data.toList ((n : Int) + 3)).toArray⟩)
              rw [← HT.out (k + 1) (by rw [show ((n : Int) + 3 - 3).toNat = n by omega, HE.out]; exact cutN_stop hks HW.out)]
              rfl

end Go.Proofs.YthpdpnegbkmbkaaGreatDoor
