/- What payload.Header comes to. -/
import Derived.Test.YthpdpnegbkmbkaaGreatDoorCut
import Derived.Test.YthpdpnegbkmbkaaGreatDoorShelf
set_option linter.unusedVariables false
set_option linter.unusedSimpArgs false
namespace Go.Proofs.YthpdpnegbkmbkaaGreatDoor
open Go.RowKit

/-- The variable that strings.Index asks holds an int. -/
def Mx (w : World) : Prop := ∃ m, w.cell? ⟨2, 0, none⟩ = some (.int .i64 m)
theorem cell_lt {w : World} {a : Addr} {v : Value} (h : w.cell? a = some v) : a.block < w.heap.size := by
  rcases Nat.lt_or_ge a.block w.heap.size with h' | h'
  · exact h'
  · simp [World.cell?, Array.getElem?_eq_none h'] at h
theorem cell_keep {w w' : World} {B : Nat} {a : Addr} {v : Value} (h : w.cell? a = some v) (hb : Below B w w') (hB : w.heap.size ≤ B) : w'.cell? a = some v :=
  (hb.cell (p := a) (Nat.lt_of_lt_of_le (cell_lt h) hB)).trans h
theorem Mx.below {w w' : World} {B : Nat} (h : Mx w) (hb : Below B w w') (hB : w.heap.size ≤ B) : Mx w' := by
  obtain ⟨m, h⟩ := h
  exact ⟨m, cell_keep h hb hB⟩
theorem Mx.drewN {w : World} (h : Mx w) (n : Nat) : Mx (w.drewN n) := h
theorem below_drewN {B : Nat} {w w' : World} (h : Below B w w') (n : Nat) : Below B w (w'.drewN n) := ⟨h.os, h.tape, h.output, h.size, h.block⟩

def rangeB (c : UInt8) : Bool := decide (32 ≤ c.toNat ∧ c.toNat ≤ 126)
def prB (l : List UInt8) : Bool := l.all rangeB
def printL (l : List UInt8) : Bool := (Lib.trimB l 32 == l) && !(Lib.contains l [61, 63]) && prB l

theorem prB_take {s : ByteArray} {k : Nat} (hk : k < s.size) (h : prB (s.data.toList.take k) = true) (hr : rangeB s[k] = true) : prB (s.data.toList.take (k + 1)) = true := by
  rw [take_snoc s k hk]
  simp only [prB, List.all_append, List.all_cons, List.all_nil, Bool.and_true] at *
  rw [h, hr]
  rfl
theorem prB_no {s : ByteArray} {k : Nat} (hk : k < s.size) (hr : rangeB s[k] = false) : prB s.data.toList = false := by
  have hm : s[k] ∈ s.data.toList := by
    have : s.data.toList[k]'(by simpa using hk) = s[k] := rfl
    rw [← this]; exact List.getElem_mem _
  cases h : prB s.data.toList with
  | false => rfl
  | true =>
    simp only [prB, List.all_eq_true] at h
    rw [h _ hm] at hr
    exact hr
theorem size_list (s : ByteArray) : s.data.toList.length = s.size := by simp

set_option maxHeartbeats 1000000 in
set_option maxRecDepth 100000 in
theorem printable_any (s : ByteArray) (w : World) (hm : Mx w) (hs : s.size ≤ 1000000000) :
    Calls Tryz.prog 30 #[.string s] w fun e w' => e = .returned (.bool (printL s.data.toList)) ∧ ∃ n, w' = w.drewN n := by
  obtain ⟨m, hm⟩ := hm
  have HM := Lib.hid hm
  clear hm
  have hT : Calls Tryz.prog 52 #[.string s, .string ⟨#[32]⟩] w fun e w' => e = .returned (.string ⟨(Lib.trimB s.data.toList 32).toArray⟩) ∧ ∃ n, w' = w.drewN n := by
    refine (Tryz.strings_Trim_one s 32 (by decide) w (by omega)).mono ?_
    rintro e w' ⟨rfl, h | h⟩
    · exact ⟨rfl, 0, h⟩
    · exact ⟨rfl, 1, h⟩
  have HT := Lib.hid hT
  clear hT
  go_enter Tryz.func30, Tryz.ntmps30
  go_wp2_with fail
  refine HT.out.mono ?_
  rintro e w1 ⟨rfl, n1, rfl⟩
  generalize ht : (⟨(Lib.trimB s.data.toList 32).toArray⟩ : ByteArray) = t
  have Ht := Lib.hid ht
  clear ht
  by_cases hts : t = s
  · subst hts
    have hTr : Lib.trimB t.data.toList 32 = t.data.toList := by
      have := congrArg (fun x : ByteArray => x.data.toList) Ht.out
      simpa using this
    have HTr := Lib.hid hTr
    clear hTr Ht HT
    go_wp2_with fail
    refine (Tryz.strings_Contains t ⟨#[61, 63]⟩ m _ (by omega) (by exact HM.out)).mono ?_
    rintro e w2 ⟨rfl, rfl⟩
    cases hct : Lib.contains t.data.toList [61, 63] with
    | true =>
      have HR : Hid (printL t.data.toList = false) := Lib.hid (by unfold printL; rw [hct]; simp)
      have hct' : Lib.contains t.data.toList (ByteArray.mk #[61, 63]).data.toList = true := hct
      clear hct
      go_wp2_with fail
      go_ret
      exact ⟨by rw [HR.out]; rfl, _, rfl⟩
    | false =>
      have HR : Hid (printL t.data.toList = prB t.data.toList) := Lib.hid (by unfold printL; rw [hct, HTr.out]; simp)
      have hct' : Lib.contains t.data.toList (ByteArray.mk #[61, 63]).data.toList = false := hct
      clear hct
      go_wp2_with fail
      go_loop [14] (fun i => ∃ k : Nat, k ≤ t.size ∧ i = .int .i64 k ∧ prB (t.data.toList.take k) = true) (fun i => t.size - (intOf i).toNat)
      case atStart => exact ⟨0, Nat.zero_le _, rfl, rfl⟩
      case round =>
        obtain ⟨k, hk, rfl, hp⟩ := hrel
        have HP := Lib.hid hp
        clear hp
        by_cases hlt : k < t.size
        · by_cases h1 : ((t[k]).toNat : Int) < 32
          · go_wp2
            go_ret
            refine ⟨?_, n1, rfl⟩
            rw [HR.out, prB_no hlt (by unfold rangeB; rw [decide_eq_false]; omega)]
            rfl
          · by_cases h2 : 126 < ((t[k]).toNat : Int)
            · go_wp2
              go_ret
              refine ⟨?_, n1, rfl⟩
              rw [HR.out, prB_no hlt (by unfold rangeB; rw [decide_eq_false]; omega)]
              rfl
            · go_wp2
              go_round
              case rel => exact ⟨k + 1, by omega, by go_num, prB_take hlt HP.out (by unfold rangeB; rw [decide_eq_true]; omega)⟩
              case measure => simp [intOf]; omega
        · have hks : t.size ≤ k := by omega
          go_wp2
          go_ret
          refine ⟨?_, n1, rfl⟩
          have := HP.out
          rw [List.take_of_length_le (by simpa using hks)] at this
          rw [HR.out, this]
          rfl
  · have hne : ¬ s.data.toList = t.data.toList := fun e => hts (by apply ByteArray.ext; exact Array.ext' e.symm)
    have hTr : (Lib.trimB s.data.toList 32 == s.data.toList) = false := by
      have := congrArg (fun x : ByteArray => x.data.toList) Ht.out
      simp only at this
      rw [beq_eq_false_iff_ne, this]
      exact fun e => hne e.symm
    have HR : Hid (printL s.data.toList = false) := Lib.hid (by unfold printL; rw [hTr]; rfl)
    have hb : ¬ t.toList = s.toList := by rw [Lib.toList_data, Lib.toList_data]; exact fun e => hne e.symm
    clear hts hne hTr Ht HT
    go_wp2_with fail
    go_ret
    exact ⟨by rw [HR.out]; rfl, _, rfl⟩

def letterB (c : UInt8) : Bool := decide ((48 ≤ c.toNat ∧ c.toNat ≤ 57) ∨ (65 ≤ c.toNat ∧ c.toNat ≤ 90) ∨ (97 ≤ c.toNat ∧ c.toNat ≤ 122))

def letterI (c : Int) : Bool := (decide (48 ≤ c) && decide (c ≤ 57)) || (decide (97 ≤ bits .or .u8 c 32) && decide (bits .or .u8 c 32 ≤ 122))
theorem letter_eq (u : UInt8) : letterI u.toNat = letterB u := by
  have h : ∀ n : Fin 256, letterI (n.val : Int) = decide ((48 ≤ n.val ∧ n.val ≤ 57) ∨ (65 ≤ n.val ∧ n.val ≤ 90) ∨ (97 ≤ n.val ∧ n.val ≤ 122)) := by decide +kernel
  exact h ⟨u.toNat, u.toNat_lt⟩

set_option maxHeartbeats 1000000 in
theorem letter_int (c : Int) (w : World) (h0 : 0 ≤ c) (h1 : c ≤ 255) : Calls Tryz.prog 32 #[.int .u8 c] w fun e w' => e = .returned (.bool (letterI c)) ∧ w = w' := by
  go_enter Tryz.func32, Tryz.ntmps32
  go_wp2
  all_goals
    go_ret
    refine ⟨?_, rfl⟩
    refine congrArg (fun b => Ending.returned (.bool b)) ?_
    simp only [letterI]
    simp [*] <;> omega
theorem letter_c (c : Int) (u : UInt8) (w : World) (hc : c = u.toNat) (b : Bool) (hb : letterB u = b) : Calls Tryz.prog 32 #[.int .u8 c] w fun e w' => e = .returned (.bool b) ∧ w = w' := by
  have hu := u.toNat_lt
  refine (letter_int c w (by omega) (by omega)).mono ?_
  rintro e w' ⟨rfl, rfl⟩
  subst hc hb
  rw [letter_eq]
  exact ⟨rfl, rfl⟩

def hdB (c : UInt8) : List UInt8 := if letterB c = true then [c] else if c.toNat = 32 then [95] else hexB c
def hdL (l : List UInt8) : List UInt8 := [61, 63, 117, 116, 102, 45, 56, 63, 113, 63] ++ l.flatMap hdB
def headL (l : List UInt8) : List UInt8 := if printL l = true then l else hdL l ++ [63, 61]
theorem hdB_le (c : UInt8) : (hdB c).length ≤ 3 := by unfold hdB; split <;> (try split) <;> simp [hexB]
theorem hdL_le (l : List UInt8) : (hdL l).length ≤ 10 + 3 * l.length := by
  unfold hdL
  have : (l.flatMap hdB).length ≤ 3 * l.length := by
    induction l with
    | nil => simp
    | cons c l ih => simp only [List.flatMap_cons, List.length_append, List.length_cons] at *; have := hdB_le c; omega
  simp only [List.length_append, List.length_cons, List.length_nil]
  omega
theorem hd_round {s : ByteArray} {k : Nat} {B b : Nat} {w w1 : World} {x : List UInt8} (hlt : k < s.size) (hx : hdB s[k] = x) (h1 : Bv B b (hdL (s.data.toList.take k) ++ x) w1) (hW : Below B w w1) :
    Bv B b (hdL (s.data.toList.take (k + 1))) w1 ∧ Below B w w1 := by
  rw [take_snoc s k hlt]
  have e : hdL (s.data.toList.take k ++ [s[k]]) = hdL (s.data.toList.take k) ++ x := by simp [hdL, ← hx]
  rw [e]
  exact ⟨h1, hW⟩

set_option maxHeartbeats 2000000 in
set_option maxRecDepth 100000 in
theorem header_any (s : ByteArray) (w : World) (hm : Mx w) (hs : s.size ≤ 1000000000) :
    Calls Tryz.prog 13 #[.string s] w fun e w' => e = .returned (.string ⟨(headL s.data.toList).toArray⟩) ∧ Below w.heap.size w w' := by
  have HM := Lib.hid hm
  clear hm
  cases hp : printL s.data.toList with
  | true =>
    have HP : Hid (headL s.data.toList = s.data.toList) := Lib.hid (by unfold headL; rw [if_pos hp])
    have HC : Hid (Calls Tryz.prog 30 #[.string s] w fun e w' => e = .returned (.bool true) ∧ ∃ n, w' = w.drewN n) := Lib.hid (by have := printable_any s w HM.out hs; rw [hp] at this; exact this)
    clear hp
    go_enter Tryz.func13, Tryz.ntmps13
    go_wp2_with fail
    refine HC.out.mono ?_
    rintro e w1 ⟨rfl, n1, rfl⟩
    go_wp2_with fail
    go_ret
    refine ⟨?_, below_drewN (Below.refl _ _) _⟩
    rw [HP.out]
    rfl
  | false =>
    have HP : Hid (headL s.data.toList = hdL s.data.toList ++ [63, 61]) := Lib.hid (by unfold headL; rw [if_neg (by simp [hp])])
    have HC : Hid (Calls Tryz.prog 30 #[.string s] w fun e w' => e = .returned (.bool false) ∧ ∃ n, w' = w.drewN n) := Lib.hid (by have := printable_any s w HM.out hs; rw [hp] at this; exact this)
    clear hp
    go_enter Tryz.func13, Tryz.ntmps13
    go_wp2_with fail
    refine HC.out.mono ?_
    rintro e w1 ⟨rfl, n1, rfl⟩
    have HF := Lib.hid (Bv.fresh (w.drewN n1) w.heap.size (Nat.le_refl _))
    go_wp2_with fail
    refine (bvString w.heap.size w.heap.size [] ⟨#[61, 63, 117, 116, 102, 45, 56, 63, 113, 63]⟩ _ (by exact HF.out) (by decide) (by simp)).mono ?_
    rintro e w2 ⟨rfl, h2, f2⟩
    have HB2 : Hid (Bv w.heap.size w.heap.size (hdL []) w2) := Lib.hid h2
    have hb2 : Below w.heap.size w w2 := ((below_drewN (Below.refl w.heap.size w) n1).alloc (Nat.le_refl _) _).trans f2.below
    have HW2 := Lib.hid hb2
    clear h2 f2 hb2
    go_wp2_with fail
    go_loopw [12] (fun i wr => ∃ k : Nat, k ≤ s.size ∧ i = .int .i64 k ∧ Bv w.heap.size w.heap.size (hdL (s.data.toList.take k)) wr ∧ Below w.heap.size w wr) (fun i _ => s.size - (intOf i).toNat)
    case atStart => exact ⟨0, Nat.zero_le _, rfl, HB2.out, HW2.out⟩
    case round =>
      obtain ⟨k, hk, rfl, hB, hW⟩ := hrel
      have hl := hdL_le (s.data.toList.take k)
      have hl2 : (s.data.toList.take k).length ≤ k := List.length_take_le _ _
      have hsz := hW.size
      have HB := Lib.hid hB
      have HW := Lib.hid hW
      clear hB hW HB2 HW2
      by_cases hlt : k < s.size
      · cases hle : letterB s[k] with
        | true =>
          have HL := Lib.hid hle
          have HX : Hid (hdB s[k] = [s[k]]) := Lib.hid (by unfold hdB; rw [if_pos hle])
          clear hle
          go_wp2_with fail
          refine (letter_c _ s[k] wr rfl true HL.out).mono ?_
          rintro e w3 ⟨rfl, rfl⟩
          go_wp2_with fail
          refine (bvByte _ _ _ _ s[k] wr HB.out rfl (by omega) (by omega)).mono ?_
          rintro e w4 ⟨rfl, h4, f4⟩
          have HR := Lib.hid (hd_round hlt HX.out h4 (HW.out.trans f4.below))
          clear h4 f4
          go_wp2
          go_roundw
          case rel => exact ⟨k + 1, by omega, by go_num, HR.out⟩
          case measure => simp [intOf]; omega
        | false =>
          have HL := Lib.hid hle
          by_cases h32 : s[k].toNat = 32
          · have HX : Hid (hdB s[k] = [95]) := Lib.hid (by unfold hdB; rw [if_neg (by simp [hle]), if_pos h32])
            have hb : ((s[k].toNat : Int) == 32) = true := by rw [beq_iff_eq]; omega
            clear hle h32
            go_wp2_with fail
            refine (letter_c _ s[k] wr rfl false HL.out).mono ?_
            rintro e w3 ⟨rfl, rfl⟩
            go_wp2_with fail
            refine (bvByte _ _ _ _ 95 wr HB.out rfl (by omega) (by omega)).mono ?_
            rintro e w4 ⟨rfl, h4, f4⟩
            have HR := Lib.hid (hd_round hlt HX.out h4 (HW.out.trans f4.below))
            clear h4 f4
            go_wp2
            go_roundw
            case rel => exact ⟨k + 1, by omega, by go_num, HR.out⟩
            case measure => simp [intOf]; omega
          · have HX : Hid (hdB s[k] = hexB s[k]) := Lib.hid (by unfold hdB; rw [if_neg (by simp [hle]), if_neg h32])
            have hb : ((s[k].toNat : Int) == 32) = false := by rw [beq_eq_false_iff_ne]; omega
            clear hle h32
            go_wp2_with fail
            refine (letter_c _ s[k] wr rfl false HL.out).mono ?_
            rintro e w3 ⟨rfl, rfl⟩
            go_wp2_with fail
            refine (hex_any _ _ _ _ s[k] wr HB.out rfl (by omega) (by omega)).mono ?_
            rintro e w4 ⟨rfl, h4, f4⟩
            have HR := Lib.hid (hd_round hlt HX.out h4 (HW.out.trans f4.below))
            clear h4 f4
            go_wp2
            go_roundw
            case rel => exact ⟨k + 1, by omega, by go_num, HR.out⟩
            case measure => simp [intOf]; omega
      · have hks : s.size ≤ k := by omega
        go_wp2_with fail
        refine (bvString _ _ _ ⟨#[63, 61]⟩ wr HB.out (show _ + 2 ≤ _ by omega) (by omega)).mono ?_
        rintro e w4 ⟨rfl, h4, f4⟩
        have HB4 := Lib.hid h4
        have HW4 := Lib.hid (HW.out.trans f4.below)
        have sz4 := HW4.out.size
        clear h4 f4
        go_wp2_with fail
        refine (bvGet _ _ _ w4 HB4.out (by omega)).mono ?_
        rintro e w5 ⟨rfl, b5⟩
        have HW5 := Lib.hid (HW4.out.trans b5)
        clear b5
        go_wp2_with fail
        go_ret
        refine ⟨?_, HW5.out⟩
        rw [HP.out, List.take_of_length_le (by simpa using hks)]
        rfl

end Go.Proofs.YthpdpnegbkmbkaaGreatDoor
