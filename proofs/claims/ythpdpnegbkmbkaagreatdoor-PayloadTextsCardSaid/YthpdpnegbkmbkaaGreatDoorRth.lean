/- What the document's Header comes to. -/
import Derived.Test.YthpdpnegbkmbkaaGreatDoorRta
set_option linter.unusedVariables false
set_option linter.unusedSimpArgs false
namespace Go.Proofs.YthpdpnegbkmbkaaGreatDoor
open Go.RowKit

def nxt63 : List UInt8 → Bool
  | [] => false
  | d :: _ => d.toNat == 63
def bodyB : List UInt8 → Bool
  | [] => true
  | c :: r => rangeB c && !(c.toNat == 61 && nxt63 r) && bodyB r
def endsB (l : List UInt8) : Bool := l.isEmpty || (l.head? != some 32 && l.getLast? != some 32)

theorem dropW_len (p : UInt8 → Bool) (l : List UInt8) : (l.dropWhile p).length ≤ l.length := (List.dropWhile_sublist p).length_le
theorem trim_ends (l : List UInt8) : (Lib.trimB l 32 == l) = endsB l := by
  cases l with
  | nil => rfl
  | cons c r =>
    have hr : (c :: r) ≠ [] := by simp
    by_cases hl : (c :: r).getLast? = some 32
    · have e : endsB (c :: r) = false := by unfold endsB; rw [hl]; simp
      rw [e, beq_eq_false_iff_ne]
      intro h
      have hlen := congrArg List.length h
      have h1 : (Lib.trimRightB (c :: r) 32).length < (c :: r).length := by
        unfold Lib.trimRightB
        rw [List.length_reverse]
        rw [List.getLast?_eq_head?_reverse] at hl
        cases hrev : (c :: r).reverse with
        | nil => simp at hrev
        | cons x y =>
          rw [hrev] at hl
          simp at hl
          subst hl
          have := dropW_len (· == (32 : UInt8)) y
          have e2 : (c :: r).length = (32 :: y).length := by rw [← hrev, List.length_reverse]
          rw [e2]
          simp [List.dropWhile_cons]
          omega
      have h2 : (Lib.trimB (c :: r) 32).length ≤ (Lib.trimRightB (c :: r) 32).length := dropW_len _ _
      omega
    · have e1 : Lib.trimRightB (c :: r) 32 = c :: r := by
        unfold Lib.trimRightB
        rw [List.getLast?_eq_head?_reverse] at hl
        cases hrev : (c :: r).reverse with
        | nil => simp at hrev
        | cons x y =>
          rw [hrev] at hl
          simp at hl
          rw [List.dropWhile_cons, if_neg (by simpa using hl), ← hrev, List.reverse_reverse]
      have e2 : Lib.trimB (c :: r) 32 = Lib.trimLeftB (c :: r) 32 := by unfold Lib.trimB; rw [e1]
      rw [e2]
      by_cases hc : c = 32
      · subst hc
        have e : endsB (32 :: r) = false := by unfold endsB; simp
        rw [e, beq_eq_false_iff_ne]
        intro h
        have hlen := congrArg List.length h
        have := dropW_len (· == (32 : UInt8)) r
        simp [Lib.trimLeftB, List.dropWhile_cons] at hlen
        omega
      · have e : endsB (c :: r) = true := by
          unfold endsB
          have : ((c :: r).getLast? != some 32) = true := by rw [bne_iff_ne]; exact hl
          rw [this]
          simp [hc]
        rw [e]
        unfold Lib.trimLeftB
        rw [List.dropWhile_cons, if_neg (by simpa using hc)]
        simp

theorem contains_cons (c : UInt8) (r sub : List UInt8) : Lib.contains (c :: r) sub = (sub.isPrefixOf (c :: r) || Lib.contains r sub) := by
  have hg := Lib.index_ge r sub
  unfold Lib.contains
  rw [Lib.index]
  by_cases h1 : sub.isPrefixOf (c :: r) = true
  · rw [if_pos h1, h1]; rfl
  · rw [if_neg h1]
    have h1' : sub.isPrefixOf (c :: r) = false := Bool.eq_false_iff.2 h1
    rw [h1', Bool.false_or]
    by_cases h2 : Lib.index r sub = -1
    · rw [if_pos (by simpa using h2), h2]
    · rw [if_neg (by simpa using h2)]
      apply decide_eq_decide.2
      omega
theorem u8_eq (c : UInt8) (n : Nat) (h : n < 256) : (c == UInt8.ofNat n) = (c.toNat == n) := by
  by_cases e : c.toNat = n
  · have : c = UInt8.ofNat n := by rw [← e]; simp
    rw [this]
    simp [UInt8.toNat_ofNat', Nat.mod_eq_of_lt h]
  · rw [beq_eq_false_iff_ne.2 e, beq_eq_false_iff_ne]
    intro h2
    apply e
    rw [h2]
    simp [UInt8.toNat_ofNat', Nat.mod_eq_of_lt h]
theorem body_print (l : List UInt8) : (!(Lib.contains l [61, 63]) && prB l) = bodyB l := by
  induction l with
  | nil => rfl
  | cons c r ih =>
    have hb : bodyB (c :: r) = (rangeB c && !(c.toNat == 61 && nxt63 r) && bodyB r) := rfl
    rw [contains_cons, hb, ← ih]
    have hp : prB (c :: r) = (rangeB c && prB r) := rfl
    have hx : List.isPrefixOf [61, 63] (c :: r) = (c.toNat == 61 && nxt63 r) := by
      have e1 : ((61 : UInt8) == c) = (c.toNat == 61) := by rw [Bool.beq_comm]; exact u8_eq c 61 (by decide)
      cases r with
      | nil => simp [List.isPrefixOf, nxt63]
      | cons d r =>
        have e2 : ((63 : UInt8) == d) = (d.toNat == 63) := by rw [Bool.beq_comm]; exact u8_eq d 63 (by decide)
        simp only [List.isPrefixOf, e1, e2, Bool.and_true, nxt63]
    rw [hp, hx]
    cases (c.toNat == 61 && nxt63 r) <;> cases rangeB c <;> cases Lib.contains r [61, 63] <;> cases prB r <;> rfl
theorem print_eq (l : List UInt8) : printL l = (endsB l && bodyB l) := by
  unfold printL
  rw [trim_ends, ← body_print, Bool.and_assoc]

theorem body_at (s : ByteArray) (k : Nat) (h : k < s.size) : bodyB (s.data.toList.drop k) = (rangeB s[k] && !(s[k].toNat == 61 && nxt63 (s.data.toList.drop (k + 1))) && bodyB (s.data.toList.drop (k + 1))) := by
  rw [drop_at s k h]; rfl
theorem nxt_end {s : ByteArray} {k : Nat} (h : s.size ≤ k) : nxt63 (s.data.toList.drop k) = false := by
  rw [List.drop_of_length_le (by simpa using h)]; rfl
theorem nxt_at {s : ByteArray} {k : Nat} (h : k < s.size) : nxt63 (s.data.toList.drop k) = (s[k].toNat == 63) := by
  rw [drop_at s k h]; rfl
/-- The flag at the head of round k. -/
def FlagAt (s : ByteArray) (k : Nat) (p : Bool) : Prop := (p && bodyB (s.data.toList.drop k)) = printL s.data.toList
theorem FlagAt.start {s : ByteArray} {p : Bool} (h : endsB s.data.toList = p) : FlagAt s 0 p := by
  unfold FlagAt
  rw [print_eq, h]
  rfl
theorem FlagAt.off {s : ByteArray} {k : Nat} {p : Bool} (h : FlagAt s k p) (hk : k < s.size) (hb : bodyB (s.data.toList.drop k) = false) : FlagAt s (k + 1) false := by
  unfold FlagAt at *
  rw [← h, hb]
  simp
theorem FlagAt.on {s : ByteArray} {k : Nat} {p : Bool} (h : FlagAt s k p) (hk : k < s.size) (h1 : rangeB s[k] = true) (h2 : (s[k].toNat == 61 && nxt63 (s.data.toList.drop (k + 1))) = false) : FlagAt s (k + 1) p := by
  unfold FlagAt at *
  rw [← h, body_at s k hk, h1, h2]
  simp
theorem FlagAt.end_ {s : ByteArray} {k : Nat} {p : Bool} (h : FlagAt s k p) (hk : s.size ≤ k) : printL s.data.toList = p := by
  unfold FlagAt at h
  rw [List.drop_of_length_le (by simpa using hk)] at h
  rw [← h]
  simp [bodyB]
theorem off_range {s : ByteArray} {k : Nat} (hk : k < s.size) (h : (s[k].toNat : Int) < 32 ∨ 126 < (s[k].toNat : Int)) : bodyB (s.data.toList.drop k) = false := by
  rw [body_at s k hk, show rangeB s[k] = false from by unfold rangeB; rw [decide_eq_false]; omega]
  rfl
theorem off_eq {s : ByteArray} {k : Nat} (hk : k < s.size) (h : s[k].toNat = 61) (h2 : nxt63 (s.data.toList.drop (k + 1)) = true) : bodyB (s.data.toList.drop k) = false := by
  rw [body_at s k hk, h2, beq_iff_eq.2 h]
  simp
theorem on_range {s : ByteArray} {k : Nat} (hk : k < s.size) (h1 : 32 ≤ (s[k].toNat : Int)) (h2 : (s[k].toNat : Int) ≤ 126) : rangeB s[k] = true := by
  unfold rangeB; rw [decide_eq_true]; omega
theorem hd_str {s : ByteArray} {k : Nat} {x : List UInt8} (hlt : k < s.size) (hx : hdB s[k] = x) : Value.string (B (hdL (s.data.toList.take k)) ++ B x) = Value.string (B (hdL (s.data.toList.take (k + 1)))) := by
  rw [take_snoc s k hlt, B_append]
  have e : hdL (s.data.toList.take k ++ [s[k]]) = hdL (s.data.toList.take k) ++ x := by simp [hdL, ← hx]
  rw [e]
theorem head_at {s : ByteArray} (h : 0 < s.size) : s.data.toList.head? = some s[0] := by
  have := drop_at s 0 h
  simp only [List.drop_zero] at this
  rw [this]; rfl
theorem last_at {s : ByteArray} (h : 0 < s.size) : s.data.toList.getLast? = some (s[s.size - 1]) := by
  rw [List.getLast?_eq_getElem?, List.getElem?_eq_getElem (by simp; omega)]
  congr 1
theorem ne32 {c : UInt8} : (some c != some (32 : UInt8)) = !(c.toNat == 32) := by
  have := u8_eq c 32 (by decide)
  show (!(some c == some (32 : UInt8))) = _
  rw [← this]
  rfl
theorem ends_some {s : ByteArray} (h : 0 < s.size) : endsB s.data.toList = (!(s[0].toNat == 32) && !(s[s.size - 1].toNat == 32)) := by
  unfold endsB
  rw [head_at h, last_at h, ne32, ne32]
  have : s.data.toList.isEmpty = false := by
    have e := drop_at s 0 h
    rw [List.drop_zero] at e
    rw [e]
    rfl
  rw [this]
  rfl
theorem ends_none {s : ByteArray} (h : s.size = 0) : endsB s.data.toList = true := by
  have : s.data.toList = [] := List.eq_nil_of_length_eq_zero (by simpa using h)
  rw [this]; rfl

set_option maxHeartbeats 4000000 in
set_option maxRecDepth 100000 in
theorem rheader_any (s : ByteArray) (w : World) (hs : s.size ≤ 1000000000) :
    Calls Tryz.prog 14 #[.string s] w fun e w' => e = .returned (.string (B (headL s.data.toList))) ∧ ∃ n, w' = w.drewN n := by
  by_cases h0 : s.size = 0
  · have HE : Hid (endsB s.data.toList = true) := Lib.hid (ends_none h0)
    have hem : s.toList = [] := by rw [Lib.toList_data]; exact List.eq_nil_of_length_eq_zero (by simpa using h0)
    have h0' : s.size ≤ 0 := by omega
    clear h0
    go_enter Tryz.func14, Tryz.ntmps14
    go_wp2
    go_loop [3, 4] (fun q i => ∃ (k : Nat) (f : Bool), k ≤ s.size ∧ i = .int .i64 k ∧ q = .bool f ∧ FlagAt s k f) (fun _ i => s.size - (intOf i).toNat)
    case atStart => exact ⟨0, _, Nat.zero_le _, rfl, rfl, FlagAt.start HE.out⟩
    case round =>
      obtain ⟨k, f, hk, rfl, rfl, hF⟩ := hrel
      have HF := Lib.hid hF
      clear hF
      by_cases hlt : k < s.size
      · exfalso; omega
      · have HP := Lib.hid (HF.out.end_ (by omega))
        clear HE
        cases f with
        | true =>
          go_wp2
          go_ret
          refine ⟨?_, 0, rfl⟩
          have e : headL s.data.toList = s.data.toList := by unfold headL; rw [if_pos HP.out]
          rw [e]
          rfl
        | false =>
          have HQ : Hid (headL s.data.toList = hdL s.data.toList ++ [63, 61]) := Lib.hid (by unfold headL; rw [if_neg (by rw [HP.out]; simp)])
          clear HP HF
          go_wp2
          clear hk hlt
          go_loopw [5, 6] (fun o i wr => ∃ (k n : Nat), k ≤ s.size ∧ i = .int .i64 k ∧ o = .string (B (hdL (s.data.toList.take k))) ∧ wr = w.drewN n) (fun _ i _ => s.size - (intOf i).toNat)
          case atStart => exact ⟨0, 0, Nat.zero_le _, rfl, rfl, rfl⟩
          case round =>
            obtain ⟨k, n, hk, rfl, rfl, rfl⟩ := hrel
            have hl := hdL_le (s.data.toList.take k)
            have hl2 : (s.data.toList.take k).length ≤ k := List.length_take_le _ _
            have hbs : (B (hdL (s.data.toList.take k))).size ≤ 5000000000 := by rw [B_size]; omega
            by_cases hlt : k < s.size
            · exfalso; omega
            · have hks : s.size ≤ k := by omega
              go_wp2
              go_ret
              refine ⟨?_, n, rfl⟩
              rw [HQ.out, ← B_append]
              rw [List.take_of_length_le (by simpa using hks)]
              rfl
  · have hpos : 0 < s.size := by omega
    have hem2 : s.toList.isEmpty = false := by
      rw [Lib.toList_data]
      have e := drop_at s 0 hpos
      rw [List.drop_zero] at e
      rw [e]
      rfl
    have hem : ¬ s.toList = [] := by
      intro e
      rw [e] at hem2
      cases hem2
    have HE0 := Lib.hid (ends_some hpos)
    clear h0
    by_cases q0 : s[0].toNat = 32
    · have HE : Hid (endsB s.data.toList = false) := Lib.hid (by rw [HE0.out, beq_iff_eq.2 q0]; rfl)
      have q0' : ((s[0].toNat : Int) != 32) = false := by simp; omega
      clear q0 HE0
      go_enter Tryz.func14, Tryz.ntmps14
      go_wp2
      go_loop [3, 4] (fun q i => ∃ (k : Nat) (f : Bool), k ≤ s.size ∧ i = .int .i64 k ∧ q = .bool f ∧ FlagAt s k f) (fun _ i => s.size - (intOf i).toNat)
      case atStart => exact ⟨0, _, Nat.zero_le _, rfl, rfl, FlagAt.start HE.out⟩
      case round =>
        obtain ⟨k, f, hk, rfl, rfl, hF⟩ := hrel
        have HF := Lib.hid hF
        clear hF
        by_cases hlt : k < s.size
        · by_cases g1 : (s[k].toNat : Int) < 32
          · go_wp2
            exact ⟨⟨k + 1, _, by omega, by go_num, rfl, HF.out.off hlt (off_range hlt (Or.inl g1))⟩, by simp [intOf]; omega⟩
          · by_cases g2 : 126 < (s[k].toNat : Int)
            · go_wp2
              exact ⟨⟨k + 1, _, by omega, by go_num, rfl, HF.out.off hlt (off_range hlt (Or.inr g2))⟩, by simp [intOf]; omega⟩
            · have HG := Lib.hid (on_range hlt (by omega) (by omega))
              by_cases g3 : s[k].toNat = 61
              · have g3' : ((s[k].toNat : Int) == 61) = true := by rw [beq_iff_eq]; omega
                by_cases g4 : k + 1 < s.size
                · by_cases g5 : s[k + 1].toNat = 63
                  · have g5' : ((s[k + 1].toNat : Int) == 63) = true := by rw [beq_iff_eq]; omega
                    have HO := Lib.hid (off_eq hlt g3 (by rw [nxt_at g4]; exact beq_iff_eq.2 g5))
                    clear g3 g5
                    go_wp2
                    exact ⟨⟨k + 1, _, by omega, by go_num, rfl, HF.out.off hlt HO.out⟩, by simp [intOf]; omega⟩
                  · have g5' : ((s[k + 1].toNat : Int) == 63) = false := by rw [beq_eq_false_iff_ne]; omega
                    have HO : Hid ((s[k].toNat == 61 && nxt63 (s.data.toList.drop (k + 1))) = false) := Lib.hid (by rw [nxt_at g4, beq_eq_false_iff_ne.2 g5]; simp)
                    clear g3 g5
                    go_wp2
                    exact ⟨⟨k + 1, _, by omega, by go_num, rfl, HF.out.on hlt HG.out HO.out⟩, by simp [intOf]; omega⟩
                · have HO : Hid ((s[k].toNat == 61 && nxt63 (s.data.toList.drop (k + 1))) = false) := Lib.hid (by rw [nxt_end (by omega)]; simp)
                  clear g3
                  go_wp2
                  exact ⟨⟨k + 1, _, by omega, by go_num, rfl, HF.out.on hlt HG.out HO.out⟩, by simp [intOf]; omega⟩
              · have g3' : ((s[k].toNat : Int) == 61) = false := by rw [beq_eq_false_iff_ne]; omega
                have HO : Hid ((s[k].toNat == 61 && nxt63 (s.data.toList.drop (k + 1))) = false) := Lib.hid (by rw [beq_eq_false_iff_ne.2 g3]; simp)
                clear g3
                go_wp2
                exact ⟨⟨k + 1, _, by omega, by go_num, rfl, HF.out.on hlt HG.out HO.out⟩, by simp [intOf]; omega⟩
        · have HP := Lib.hid (HF.out.end_ (by omega))
          clear HE
          cases f with
          | true =>
            go_wp2
            go_ret
            refine ⟨?_, 0, rfl⟩
            have e : headL s.data.toList = s.data.toList := by unfold headL; rw [if_pos HP.out]
            rw [e]
            rfl
          | false =>
            have HQ : Hid (headL s.data.toList = hdL s.data.toList ++ [63, 61]) := Lib.hid (by unfold headL; rw [if_neg (by rw [HP.out]; simp)])
            clear HP HF
            go_wp2
            clear hk hlt
            go_loopw [5, 6] (fun o i wr => ∃ (k n : Nat), k ≤ s.size ∧ i = .int .i64 k ∧ o = .string (B (hdL (s.data.toList.take k))) ∧ wr = w.drewN n) (fun _ i _ => s.size - (intOf i).toNat)
            case atStart => exact ⟨0, 0, Nat.zero_le _, rfl, rfl, rfl⟩
            case round =>
              obtain ⟨k, n, hk, rfl, rfl, rfl⟩ := hrel
              have hl := hdL_le (s.data.toList.take k)
              have hl2 : (s.data.toList.take k).length ≤ k := List.length_take_le _ _
              have hbs : (B (hdL (s.data.toList.take k))).size ≤ 5000000000 := by rw [B_size]; omega
              by_cases hlt : k < s.size
              · cases hle : letterB s[k] with
                | true =>
                  have HX : Hid (hdB s[k] = [s[k]]) := Lib.hid (by unfold hdB; rw [if_pos hle])
                  have hle' := of_decide_eq_true hle
                  clear hle
                  rcases hle' with ⟨l1, l2⟩ | ⟨l1, l2⟩ | ⟨l1, l2⟩
                  all_goals
                    have m1 : ((s[k].toNat : Int)) ≥ 48 := by omega
                    go_wp2
                    rw [B_one s k hlt]
                    exact ⟨⟨k + 1, n, by omega, by go_num, hd_str hlt HX.out, rfl⟩, by simp [intOf]; omega⟩
                | false =>
                  have hle' := of_decide_eq_false hle
                  by_cases h32 : s[k].toNat = 32
                  · have HX : Hid (hdB s[k] = [95]) := Lib.hid (by unfold hdB; rw [if_neg (by simp [hle]), if_pos h32])
                    have hb : ((s[k].toNat : Int) == 32) = true := by rw [beq_iff_eq]; omega
                    have m1 : ((s[k].toNat : Int)) < 48 := by omega
                    clear hle h32 hle'
                    go_wp2
                    exact ⟨⟨k + 1, n, by omega, by go_num, hd_str hlt HX.out, rfl⟩, by simp [intOf]; omega⟩
                  · have HX : Hid (hdB s[k] = hexB s[k]) := Lib.hid (by unfold hdB; rw [if_neg (by simp [hle]), if_neg h32])
                    have hb : ((s[k].toNat : Int) == 32) = false := by rw [beq_eq_false_iff_ne]; omega
                    have hcs : (s[k].toNat : Int) < 48 ∨ (57 < (s[k].toNat : Int) ∧ (s[k].toNat : Int) < 65) ∨ (90 < (s[k].toNat : Int) ∧ (s[k].toNat : Int) < 97) ∨ 122 < (s[k].toNat : Int) := by omega
                    have hsz3 : (B (hexB s[k])).size = 3 := by rw [B_size]; rfl
                    clear hle h32 hle'
                    rcases hcs with q | ⟨q, r⟩ | ⟨q, r⟩ | q
                    all_goals
                      go_wp2_with fail
                      refine (rhex_any _ s[k] _ rfl).mono ?_
                      rintro e w3 ⟨rfl, n3, rfl⟩
                      go_wp2_with fail
                      refine ⟨⟨k + 1, n + n3, by omega, by go_num, hd_str hlt HX.out, ?_⟩, by simp [intOf]; omega⟩
                      simp [World.drewN_drewN]
              · have hks : s.size ≤ k := by omega
                go_wp2
                go_ret
                refine ⟨?_, n, rfl⟩
                rw [HQ.out, ← B_append]
                rw [List.take_of_length_le (by simpa using hks)]
                rfl
    · have q0' : ((s[0].toNat : Int) != 32) = true := by rw [bne_iff_ne]; omega
      by_cases q1 : s[s.size - 1].toNat = 32
      · have HE : Hid (endsB s.data.toList = false) := Lib.hid (by rw [HE0.out, beq_iff_eq.2 q1]; simp)
        have q1' : ((s[s.size - 1].toNat : Int) != 32) = false := by simp; omega
        clear q0 q1 HE0
        go_enter Tryz.func14, Tryz.ntmps14
        go_wp2
        go_loop [3, 4] (fun q i => ∃ (k : Nat) (f : Bool), k ≤ s.size ∧ i = .int .i64 k ∧ q = .bool f ∧ FlagAt s k f) (fun _ i => s.size - (intOf i).toNat)
        case atStart => exact ⟨0, _, Nat.zero_le _, rfl, rfl, FlagAt.start HE.out⟩
        case round =>
          obtain ⟨k, f, hk, rfl, rfl, hF⟩ := hrel
          have HF := Lib.hid hF
          clear hF
          by_cases hlt : k < s.size
          · by_cases g1 : (s[k].toNat : Int) < 32
            · go_wp2
              exact ⟨⟨k + 1, _, by omega, by go_num, rfl, HF.out.off hlt (off_range hlt (Or.inl g1))⟩, by simp [intOf]; omega⟩
            · by_cases g2 : 126 < (s[k].toNat : Int)
              · go_wp2
                exact ⟨⟨k + 1, _, by omega, by go_num, rfl, HF.out.off hlt (off_range hlt (Or.inr g2))⟩, by simp [intOf]; omega⟩
              · have HG := Lib.hid (on_range hlt (by omega) (by omega))
                by_cases g3 : s[k].toNat = 61
                · have g3' : ((s[k].toNat : Int) == 61) = true := by rw [beq_iff_eq]; omega
                  by_cases g4 : k + 1 < s.size
                  · by_cases g5 : s[k + 1].toNat = 63
                    · have g5' : ((s[k + 1].toNat : Int) == 63) = true := by rw [beq_iff_eq]; omega
                      have HO := Lib.hid (off_eq hlt g3 (by rw [nxt_at g4]; exact beq_iff_eq.2 g5))
                      clear g3 g5
                      go_wp2
                      exact ⟨⟨k + 1, _, by omega, by go_num, rfl, HF.out.off hlt HO.out⟩, by simp [intOf]; omega⟩
                    · have g5' : ((s[k + 1].toNat : Int) == 63) = false := by rw [beq_eq_false_iff_ne]; omega
                      have HO : Hid ((s[k].toNat == 61 && nxt63 (s.data.toList.drop (k + 1))) = false) := Lib.hid (by rw [nxt_at g4, beq_eq_false_iff_ne.2 g5]; simp)
                      clear g3 g5
                      go_wp2
                      exact ⟨⟨k + 1, _, by omega, by go_num, rfl, HF.out.on hlt HG.out HO.out⟩, by simp [intOf]; omega⟩
                  · have HO : Hid ((s[k].toNat == 61 && nxt63 (s.data.toList.drop (k + 1))) = false) := Lib.hid (by rw [nxt_end (by omega)]; simp)
                    clear g3
                    go_wp2
                    exact ⟨⟨k + 1, _, by omega, by go_num, rfl, HF.out.on hlt HG.out HO.out⟩, by simp [intOf]; omega⟩
                · have g3' : ((s[k].toNat : Int) == 61) = false := by rw [beq_eq_false_iff_ne]; omega
                  have HO : Hid ((s[k].toNat == 61 && nxt63 (s.data.toList.drop (k + 1))) = false) := Lib.hid (by rw [beq_eq_false_iff_ne.2 g3]; simp)
                  clear g3
                  go_wp2
                  exact ⟨⟨k + 1, _, by omega, by go_num, rfl, HF.out.on hlt HG.out HO.out⟩, by simp [intOf]; omega⟩
          · have HP := Lib.hid (HF.out.end_ (by omega))
            clear HE
            cases f with
            | true =>
              go_wp2
              go_ret
              refine ⟨?_, 0, rfl⟩
              have e : headL s.data.toList = s.data.toList := by unfold headL; rw [if_pos HP.out]
              rw [e]
              rfl
            | false =>
              have HQ : Hid (headL s.data.toList = hdL s.data.toList ++ [63, 61]) := Lib.hid (by unfold headL; rw [if_neg (by rw [HP.out]; simp)])
              clear HP HF
              go_wp2
              clear hk hlt
              go_loopw [5, 6] (fun o i wr => ∃ (k n : Nat), k ≤ s.size ∧ i = .int .i64 k ∧ o = .string (B (hdL (s.data.toList.take k))) ∧ wr = w.drewN n) (fun _ i _ => s.size - (intOf i).toNat)
              case atStart => exact ⟨0, 0, Nat.zero_le _, rfl, rfl, rfl⟩
              case round =>
                obtain ⟨k, n, hk, rfl, rfl, rfl⟩ := hrel
                have hl := hdL_le (s.data.toList.take k)
                have hl2 : (s.data.toList.take k).length ≤ k := List.length_take_le _ _
                have hbs : (B (hdL (s.data.toList.take k))).size ≤ 5000000000 := by rw [B_size]; omega
                by_cases hlt : k < s.size
                · cases hle : letterB s[k] with
                  | true =>
                    have HX : Hid (hdB s[k] = [s[k]]) := Lib.hid (by unfold hdB; rw [if_pos hle])
                    have hle' := of_decide_eq_true hle
                    clear hle
                    rcases hle' with ⟨l1, l2⟩ | ⟨l1, l2⟩ | ⟨l1, l2⟩
                    all_goals
                      have m1 : ((s[k].toNat : Int)) ≥ 48 := by omega
                      go_wp2
                      rw [B_one s k hlt]
                      exact ⟨⟨k + 1, n, by omega, by go_num, hd_str hlt HX.out, rfl⟩, by simp [intOf]; omega⟩
                  | false =>
                    have hle' := of_decide_eq_false hle
                    by_cases h32 : s[k].toNat = 32
                    · have HX : Hid (hdB s[k] = [95]) := Lib.hid (by unfold hdB; rw [if_neg (by simp [hle]), if_pos h32])
                      have hb : ((s[k].toNat : Int) == 32) = true := by rw [beq_iff_eq]; omega
                      have m1 : ((s[k].toNat : Int)) < 48 := by omega
                      clear hle h32 hle'
                      go_wp2
                      exact ⟨⟨k + 1, n, by omega, by go_num, hd_str hlt HX.out, rfl⟩, by simp [intOf]; omega⟩
                    · have HX : Hid (hdB s[k] = hexB s[k]) := Lib.hid (by unfold hdB; rw [if_neg (by simp [hle]), if_neg h32])
                      have hb : ((s[k].toNat : Int) == 32) = false := by rw [beq_eq_false_iff_ne]; omega
                      have hcs : (s[k].toNat : Int) < 48 ∨ (57 < (s[k].toNat : Int) ∧ (s[k].toNat : Int) < 65) ∨ (90 < (s[k].toNat : Int) ∧ (s[k].toNat : Int) < 97) ∨ 122 < (s[k].toNat : Int) := by omega
                      have hsz3 : (B (hexB s[k])).size = 3 := by rw [B_size]; rfl
                      clear hle h32 hle'
                      rcases hcs with q | ⟨q, r⟩ | ⟨q, r⟩ | q
                      all_goals
                        go_wp2_with fail
                        refine (rhex_any _ s[k] _ rfl).mono ?_
                        rintro e w3 ⟨rfl, n3, rfl⟩
                        go_wp2_with fail
                        refine ⟨⟨k + 1, n + n3, by omega, by go_num, hd_str hlt HX.out, ?_⟩, by simp [intOf]; omega⟩
                        simp [World.drewN_drewN]
                · have hks : s.size ≤ k := by omega
                  go_wp2
                  go_ret
                  refine ⟨?_, n, rfl⟩
                  rw [HQ.out, ← B_append]
                  rw [List.take_of_length_le (by simpa using hks)]
                  rfl
      · have HE : Hid (endsB s.data.toList = true) := Lib.hid (by rw [HE0.out, beq_eq_false_iff_ne.2 q0, beq_eq_false_iff_ne.2 q1]; rfl)
        have q1' : ((s[s.size - 1].toNat : Int) != 32) = true := by rw [bne_iff_ne]; omega
        clear q0 q1 HE0
        go_enter Tryz.func14, Tryz.ntmps14
        go_wp2
        go_loop [3, 4] (fun q i => ∃ (k : Nat) (f : Bool), k ≤ s.size ∧ i = .int .i64 k ∧ q = .bool f ∧ FlagAt s k f) (fun _ i => s.size - (intOf i).toNat)
        case atStart => exact ⟨0, _, Nat.zero_le _, rfl, rfl, FlagAt.start HE.out⟩
        case round =>
          obtain ⟨k, f, hk, rfl, rfl, hF⟩ := hrel
          have HF := Lib.hid hF
          clear hF
          by_cases hlt : k < s.size
          · by_cases g1 : (s[k].toNat : Int) < 32
            · go_wp2
              exact ⟨⟨k + 1, _, by omega, by go_num, rfl, HF.out.off hlt (off_range hlt (Or.inl g1))⟩, by simp [intOf]; omega⟩
            · by_cases g2 : 126 < (s[k].toNat : Int)
              · go_wp2
                exact ⟨⟨k + 1, _, by omega, by go_num, rfl, HF.out.off hlt (off_range hlt (Or.inr g2))⟩, by simp [intOf]; omega⟩
              · have HG := Lib.hid (on_range hlt (by omega) (by omega))
                by_cases g3 : s[k].toNat = 61
                · have g3' : ((s[k].toNat : Int) == 61) = true := by rw [beq_iff_eq]; omega
                  by_cases g4 : k + 1 < s.size
                  · by_cases g5 : s[k + 1].toNat = 63
                    · have g5' : ((s[k + 1].toNat : Int) == 63) = true := by rw [beq_iff_eq]; omega
                      have HO := Lib.hid (off_eq hlt g3 (by rw [nxt_at g4]; exact beq_iff_eq.2 g5))
                      clear g3 g5
                      go_wp2
                      exact ⟨⟨k + 1, _, by omega, by go_num, rfl, HF.out.off hlt HO.out⟩, by simp [intOf]; omega⟩
                    · have g5' : ((s[k + 1].toNat : Int) == 63) = false := by rw [beq_eq_false_iff_ne]; omega
                      have HO : Hid ((s[k].toNat == 61 && nxt63 (s.data.toList.drop (k + 1))) = false) := Lib.hid (by rw [nxt_at g4, beq_eq_false_iff_ne.2 g5]; simp)
                      clear g3 g5
                      go_wp2
                      exact ⟨⟨k + 1, _, by omega, by go_num, rfl, HF.out.on hlt HG.out HO.out⟩, by simp [intOf]; omega⟩
                  · have HO : Hid ((s[k].toNat == 61 && nxt63 (s.data.toList.drop (k + 1))) = false) := Lib.hid (by rw [nxt_end (by omega)]; simp)
                    clear g3
                    go_wp2
                    exact ⟨⟨k + 1, _, by omega, by go_num, rfl, HF.out.on hlt HG.out HO.out⟩, by simp [intOf]; omega⟩
                · have g3' : ((s[k].toNat : Int) == 61) = false := by rw [beq_eq_false_iff_ne]; omega
                  have HO : Hid ((s[k].toNat == 61 && nxt63 (s.data.toList.drop (k + 1))) = false) := Lib.hid (by rw [beq_eq_false_iff_ne.2 g3]; simp)
                  clear g3
                  go_wp2
                  exact ⟨⟨k + 1, _, by omega, by go_num, rfl, HF.out.on hlt HG.out HO.out⟩, by simp [intOf]; omega⟩
          · have HP := Lib.hid (HF.out.end_ (by omega))
            clear HE
            cases f with
            | true =>
              go_wp2
              go_ret
              refine ⟨?_, 0, rfl⟩
              have e : headL s.data.toList = s.data.toList := by unfold headL; rw [if_pos HP.out]
              rw [e]
              rfl
            | false =>
              have HQ : Hid (headL s.data.toList = hdL s.data.toList ++ [63, 61]) := Lib.hid (by unfold headL; rw [if_neg (by rw [HP.out]; simp)])
              clear HP HF
              go_wp2
              clear hk hlt
              go_loopw [5, 6] (fun o i wr => ∃ (k n : Nat), k ≤ s.size ∧ i = .int .i64 k ∧ o = .string (B (hdL (s.data.toList.take k))) ∧ wr = w.drewN n) (fun _ i _ => s.size - (intOf i).toNat)
              case atStart => exact ⟨0, 0, Nat.zero_le _, rfl, rfl, rfl⟩
              case round =>
                obtain ⟨k, n, hk, rfl, rfl, rfl⟩ := hrel
                have hl := hdL_le (s.data.toList.take k)
                have hl2 : (s.data.toList.take k).length ≤ k := List.length_take_le _ _
                have hbs : (B (hdL (s.data.toList.take k))).size ≤ 5000000000 := by rw [B_size]; omega
                by_cases hlt : k < s.size
                · cases hle : letterB s[k] with
                  | true =>
                    have HX : Hid (hdB s[k] = [s[k]]) := Lib.hid (by unfold hdB; rw [if_pos hle])
                    have hle' := of_decide_eq_true hle
                    clear hle
                    rcases hle' with ⟨l1, l2⟩ | ⟨l1, l2⟩ | ⟨l1, l2⟩
                    all_goals
                      have m1 : ((s[k].toNat : Int)) ≥ 48 := by omega
                      go_wp2
                      rw [B_one s k hlt]
                      exact ⟨⟨k + 1, n, by omega, by go_num, hd_str hlt HX.out, rfl⟩, by simp [intOf]; omega⟩
                  | false =>
                    have hle' := of_decide_eq_false hle
                    by_cases h32 : s[k].toNat = 32
                    · have HX : Hid (hdB s[k] = [95]) := Lib.hid (by unfold hdB; rw [if_neg (by simp [hle]), if_pos h32])
                      have hb : ((s[k].toNat : Int) == 32) = true := by rw [beq_iff_eq]; omega
                      have m1 : ((s[k].toNat : Int)) < 48 := by omega
                      clear hle h32 hle'
                      go_wp2
                      exact ⟨⟨k + 1, n, by omega, by go_num, hd_str hlt HX.out, rfl⟩, by simp [intOf]; omega⟩
                    · have HX : Hid (hdB s[k] = hexB s[k]) := Lib.hid (by unfold hdB; rw [if_neg (by simp [hle]), if_neg h32])
                      have hb : ((s[k].toNat : Int) == 32) = false := by rw [beq_eq_false_iff_ne]; omega
                      have hcs : (s[k].toNat : Int) < 48 ∨ (57 < (s[k].toNat : Int) ∧ (s[k].toNat : Int) < 65) ∨ (90 < (s[k].toNat : Int) ∧ (s[k].toNat : Int) < 97) ∨ 122 < (s[k].toNat : Int) := by omega
                      have hsz3 : (B (hexB s[k])).size = 3 := by rw [B_size]; rfl
                      clear hle h32 hle'
                      rcases hcs with q | ⟨q, r⟩ | ⟨q, r⟩ | q
                      all_goals
                        go_wp2_with fail
                        refine (rhex_any _ s[k] _ rfl).mono ?_
                        rintro e w3 ⟨rfl, n3, rfl⟩
                        go_wp2_with fail
                        refine ⟨⟨k + 1, n + n3, by omega, by go_num, hd_str hlt HX.out, ?_⟩, by simp [intOf]; omega⟩
                        simp [World.drewN_drewN]
                · have hks : s.size ≤ k := by omega
                  go_wp2
                  go_ret
                  refine ⟨?_, n, rfl⟩
                  rw [HQ.out, ← B_append]
                  rw [List.take_of_length_le (by simpa using hks)]
                  rfl

end Go.Proofs.YthpdpnegbkmbkaaGreatDoor
