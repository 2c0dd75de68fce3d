/- What the document's way and Quoted come to. -/
import Derived.Test.YthpdpnegbkmbkaaGreatDoorRta
set_option linter.unusedVariables false
set_option linter.unusedSimpArgs false
namespace Go.Proofs.YthpdpnegbkmbkaaGreatDoor
open Go.RowKit

set_option maxHeartbeats 1000000 in
set_option maxRecDepth 100000 in
theorem rway_ten (s : ByteArray) (k : Nat) (w : World) (hk : k < s.size) (hs : s.size ≤ 1000000000) (h10 : s[k].toNat = 10) :
    Calls Tryz.prog 46 #[.string s, .int .i64 (k : Int)] w fun e w' => e = .returned (.string (B [13, 10])) ∧ w = w' := by
  have g10 : ((s[k].toNat : Int) == 10) = true := by rw [beq_iff_eq]; omega
  clear h10
  go_enter Tryz.func46, Tryz.ntmps46
  go_wp2
  go_ret
  exact ⟨rfl, rfl⟩

set_option maxHeartbeats 2000000 in
set_option maxRecDepth 100000 in
theorem rway_any (s : ByteArray) (k : Nat) (w : World) (hk : k < s.size) (hs : s.size ≤ 1000000000) (h10 : s[k].toNat ≠ 10) :
    Calls Tryz.prog 46 #[.string s, .int .i64 (k : Int)] w fun e w' => e = .returned (.string (B (wayB s[k] (lastB (s.data.toList.drop (k + 1)))))) ∧ ∃ n, w' = w.drewN n := by
  have hu := (s[k]).toNat_lt
  have g10 : ((s[k].toNat : Int) == 10) = false := by rw [beq_eq_false_iff_ne]; omega
  cases hb : blankI s[k].toNat with
  | true =>
    have hp : plainI s[k].toNat = false := by
      have := of_decide_eq_true hb
      exact decide_eq_false (by omega)
    by_cases hend : k + 1 = s.size
    · have hx : wayB s[k] (lastB (s.data.toList.drop (k + 1))) = hexB s[k] := wayB_3 (asIs_last hp (lastB_end (by omega)))
      have he : (((k : Int) + 1) == (s.size : Int)) = true := by rw [beq_iff_eq]; omega
      rw [hx]
      rcases of_decide_eq_true hb with g | g
      all_goals
        clear hx hp hb h10 hend
        go_enter Tryz.func46, Tryz.ntmps46
        go_wp2_with fail
        refine (rhex_any _ s[k] _ (by first | rfl | omega)).mono ?_
        rintro e w1 ⟨rfl, n, rfl⟩
        go_wp2_with fail
        go_ret
        exact ⟨rfl, n, rfl⟩
    · have he : (((k : Int) + 1) == (s.size : Int)) = false := by rw [beq_eq_false_iff_ne]; omega
      have hk1 : k + 1 < s.size := by omega
      by_cases g11 : s[k + 1].toNat = 10
      · have hx : wayB s[k] (lastB (s.data.toList.drop (k + 1))) = hexB s[k] := wayB_3 (asIs_last hp (by rw [lastB_at hk1, beq_iff_eq]; omega))
        have ge : ((s[k + 1].toNat : Int) == 10) = true := by rw [beq_iff_eq]; omega
        rw [hx]
        rcases of_decide_eq_true hb with g | g
        all_goals
          clear hx hp hb h10 hend g11
          go_enter Tryz.func46, Tryz.ntmps46
          go_wp2_with fail
          refine (rhex_any _ s[k] _ (by first | rfl | omega)).mono ?_
          rintro e w1 ⟨rfl, n, rfl⟩
          go_wp2_with fail
          go_ret
          exact ⟨rfl, n, rfl⟩
      · have hx : wayB s[k] (lastB (s.data.toList.drop (k + 1))) = [s[k]] := wayB_1 (asIs_blank hb (by rw [lastB_at hk1, beq_eq_false_iff_ne]; omega))
        have ge : ((s[k + 1].toNat : Int) == 10) = false := by rw [beq_eq_false_iff_ne]; omega
        rw [hx]
        rcases of_decide_eq_true hb with g | g
        all_goals
          clear hx hp hb h10 hend g11
          go_enter Tryz.func46, Tryz.ntmps46
          go_wp2
          go_ret
          rw [B_one s k hk]
          exact ⟨rfl, 0, rfl⟩
  | false =>
    have hb' := of_decide_eq_false hb
    have b1 : ((s[k].toNat : Int) == 32) = false := by rw [beq_eq_false_iff_ne]; omega
    have b2 : ((s[k].toNat : Int) == 9) = false := by rw [beq_eq_false_iff_ne]; omega
    cases hp : plainI s[k].toNat with
    | true =>
      have hx : wayB s[k] (lastB (s.data.toList.drop (k + 1))) = [s[k]] := wayB_1 (asIs_plain hp)
      obtain ⟨p1, p2, p3⟩ := of_decide_eq_true hp
      have p4 : ((s[k].toNat : Int) != 61) = true := by simpa using p3
      rw [hx]
      clear hx hp hb hb' h10 p3
      go_enter Tryz.func46, Tryz.ntmps46
      go_wp2
      go_ret
      rw [B_one s k hk]
      exact ⟨rfl, 0, rfl⟩
    | false =>
      have hx : wayB s[k] (lastB (s.data.toList.drop (k + 1))) = hexB s[k] := wayB_3 (asIs_no hp hb)
      have hp' := of_decide_eq_false hp
      rw [hx]
      rcases (show (s[k].toNat : Int) < 32 ∨ (s[k].toNat : Int) > 126 ∨ (s[k].toNat : Int) = 61 by omega) with g | g | g
      · clear hx hp hb hb' h10 hp'
        go_enter Tryz.func46, Tryz.ntmps46
        go_wp2_with fail
        refine (rhex_any _ s[k] _ rfl).mono ?_
        rintro e w1 ⟨rfl, n, rfl⟩
        go_wp2_with fail
        go_ret
        exact ⟨rfl, n, rfl⟩
      · clear hx hp hb hb' h10 hp'
        go_enter Tryz.func46, Tryz.ntmps46
        go_wp2_with fail
        refine (rhex_any _ s[k] _ rfl).mono ?_
        rintro e w1 ⟨rfl, n, rfl⟩
        go_wp2_with fail
        go_ret
        exact ⟨rfl, n, rfl⟩
      · have p4 : ((s[k].toNat : Int) != 61) = false := by simpa using g
        clear hx hp hb hb' h10 hp'
        go_enter Tryz.func46, Tryz.ntmps46
        go_wp2_with fail
        refine (rhex_any _ s[k] _ (by first | rfl | omega)).mono ?_
        rintro e w1 ⟨rfl, n, rfl⟩
        go_wp2_with fail
        go_ret
        exact ⟨rfl, n, rfl⟩

theorem B_ne {l : List UInt8} (h : l ≠ [13, 10]) : ((B l).toList == [13, 10]) = false := by
  rw [Lib.toList_data, B_list, beq_eq_false_iff_ne]
  exact h
theorem wayB_ne (c : UInt8) (b : Bool) : wayB c b ≠ [13, 10] := by
  unfold wayB
  split
  · simp
  · simp [hexB]

set_option maxHeartbeats 2000000 in
set_option maxRecDepth 100000 in
theorem rquoted_any (s : ByteArray) (w : World) (hs : s.size ≤ 1000000000) :
    Calls Tryz.prog 23 #[.string s] w fun e w' => e = .returned (.string (B (quotL s.data.toList))) ∧ ∃ n, w' = w.drewN n := by
  go_enter Tryz.func23, Tryz.ntmps23
  go_wp2
  go_loopw [3, 4, 5] (fun o l i wr => ∃ (k : Nat) (out : List UInt8) (line n : Nat), k ≤ s.size ∧ i = .int .i64 k ∧ o = .string (B out) ∧ l = .int .i64 line ∧ QAt s k out line ∧ wr = w.drewN n) (fun _ _ i _ => s.size - (intOf i).toNat)
  case atStart => exact ⟨0, [], 0, 0, Nat.zero_le _, rfl, rfl, rfl, QAt.zero s, rfl⟩
  case round =>
    obtain ⟨k, out, line, n, hk, rfl, rfl, rfl, hQ, rfl⟩ := hrel
    have hl1 := hQ.2.1
    have hl2 := hQ.2.2
    have hbs : (B out).size ≤ 6000000000 := by rw [B_size]; omega
    have HQ := Lib.hid hQ
    clear hQ
    by_cases hlt : k < s.size
    · by_cases h10 : s[k].toNat = 10
      · have HT := Lib.hid h10
        clear h10
        go_wp2_with fail
        refine (rway_ten s k _ hlt hs HT.out).mono ?_
        rintro e w1 ⟨rfl, rfl⟩
        rw [show B [13, 10] = (⟨#[13, 10]⟩ : ByteArray) from rfl]
        go_wp2
        exact ⟨⟨k + 1, out ++ [13, 10], 0, n, by omega, by go_num, by rw [← B_append]; rfl, rfl, HQ.out.ten hlt HT.out, rfl⟩, by simp [intOf]; omega⟩
      · have HT := Lib.hid h10
        clear h10
        go_wp2_with fail
        refine (rway_any s k _ hlt hs HT.out).mono ?_
        rintro e w1 ⟨rfl, m, rfl⟩
        have hw3 := wayB_le s[k] (lastB (s.data.toList.drop (k + 1)))
        have hne := B_ne (wayB_ne s[k] (lastB (s.data.toList.drop (k + 1))))
        have HX : Hid (∃ x, x = wayB s[k] (lastB (s.data.toList.drop (k + 1)))) := Lib.hid ⟨_, rfl⟩
        have hsz := B_size (wayB s[k] (lastB (s.data.toList.drop (k + 1))))
        generalize hx : wayB s[k] (lastB (s.data.toList.drop (k + 1))) = x at *
        have HY := Lib.hid hx
        generalize hq : B x = q at *
        have HZ := Lib.hid hq
        have hqs : q.size ≤ 3 := by omega
        clear hx hq HX
        by_cases h75 : line + x.length > 75
        · have hg : (line : Int) + (q.size : Int) > 75 := by omega
          go_wp2
          refine ⟨⟨k + 1, out ++ roomS line x.length ++ x, roomL line x.length, n + m, by omega, by go_num, ?_, ?_, HQ.out.one hlt HT.out HY.out, rfl⟩, by simp [intOf]; omega⟩
          · rw [show roomS line x.length = [61, 13, 10] from by unfold roomS; rw [if_pos h75], ← B_append, ← B_append, HZ.out]; rfl
          · rw [show roomL line x.length = x.length from by unfold roomL; rw [if_pos h75]]
        · have hg : ¬ (line : Int) + (q.size : Int) > 75 := by omega
          go_wp2
          refine ⟨⟨k + 1, out ++ roomS line x.length ++ x, roomL line x.length, n + m, by omega, by go_num, ?_, ?_, HQ.out.one hlt HT.out HY.out, rfl⟩, by simp [intOf]; omega⟩
          · rw [show roomS line x.length = [] from by unfold roomS; rw [if_neg h75], List.append_nil, ← B_append, HZ.out]
          · rw [show roomL line x.length = line + x.length from by unfold roomL; rw [if_neg h75]]; rfl
    · go_wp2
      go_ret
      refine ⟨?_, n, rfl⟩
      rw [HQ.out.end_ (by omega)]
      rfl

end Go.Proofs.YthpdpnegbkmbkaaGreatDoor
