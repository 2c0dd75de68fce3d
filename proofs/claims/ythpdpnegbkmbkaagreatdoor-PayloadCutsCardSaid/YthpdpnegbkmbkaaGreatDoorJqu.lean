/- What json.Quote comes to: an error just where the text is no right text. -/
import Derived.Test.YthpdpnegbkmbkaaGreatDoorHdr
import Derived.Test.YthpdpnegbkmbkaaGreatDoorVsh
import Derived.Lib.LaidU8T
set_option linter.unusedVariables false
set_option linter.unusedSimpArgs false
namespace Go.Proofs.YthpdpnegbkmbkaaGreatDoor
open Go.RowKit

/-- The tables that utf8 asks. -/
def Tb (w : World) : Prop := Lib.Utf8Tabs (Tryz.lays196_ren.g 3) (Tryz.lays196_ren.g 4) w
theorem Tb.below {w w' : World} {H : Nat} (h : Tb w) (hb : Below H w w') (hB : w.heap.size ≤ H) : Tb w' :=
  ⟨fun c hc => cell_keep (h.1 c hc) hb hB, fun i hi => ⟨cell_keep (h.2 i hi).1 hb hB, cell_keep (h.2 i hi).2 hb hB⟩⟩
theorem valid_any (s : ByteArray) (w : World) (hs : s.size ≤ 1000000000) (hT : Tb w) :
    Calls Tryz.prog 38 #[.string s] w fun e w' => e = .returned (.bool (Lib.validD s.data.toList)) ∧ Below w.heap.size w w' :=
  Any.utf8_ValidString Tryz.lays196 s w (by omega) hT

theorem Bv.len {B b : Nat} {l l' : List UInt8} {w : World} (h : Bv B b l w) (e : l = l') : Bv B b l' w := e ▸ h

set_option maxHeartbeats 4000000 in
set_option maxRecDepth 100000 in
theorem jquote_any (B b : Nat) (l : List UInt8) (s : ByteArray) (w : World) (h : Bv B b l w) (hs : s.size ≤ 1000000000) (hlen : l.length ≤ 1000000000) (hBw : B ≤ w.heap.size) :
    Calls Tryz.prog 39 #[.pointer (some ⟨b, 0, none⟩), .string s] w fun e w' => e = .returned (.tuple #[]) ∧ (∃ l', Bv B b l' w') ∧ Fr B b w w' := by
  have H := Lib.hid h
  clear h
  go_enter Tryz.func39, Tryz.ntmps39
  go_wp2_with fail
  refine (bvByte _ _ _ _ 34 w H.out (by rfl) (by omega) (by omega)).mono ?_
  rintro e w1 ⟨rfl, g1, f1⟩
  have HS : Hid (Bv B b (l ++ [34]) w1 ∧ Fr B b w w1) := Lib.hid ⟨g1, f1⟩
  clear g1 f1
  go_wp2_with fail
  go_loopw [10] (fun i wr => ∃ (k : Nat) (l' : List UInt8), k ≤ s.size ∧ i = .int .i64 k ∧ l'.length ≤ l.length + 1 + 6 * k ∧ Bv B b l' wr ∧ Fr B b w wr) (fun i _ => s.size - (intOf i).toNat)
  case atStart => exact ⟨0, _, Nat.zero_le _, rfl, by simp, HS.out.1, HS.out.2⟩
  case round =>
    rename_i wr
    obtain ⟨k, l', hk, rfl, hl, hB, hF⟩ := hrel
    have hsz := hF.below.size
    have HB := Lib.hid hB
    have HF := Lib.hid hF
    clear hB hF HS
    by_cases hlt : k < s.size
    · have hu := s[k].toNat_lt
      go_wp2_with fail
      · refine (bvByte _ _ _ _ 92 wr HB.out (by rfl) (by simp <;> omega) (by omega)).mono ?_
        rintro e w2 ⟨rfl, g2, f2⟩
        have z2 := f2.below.size
        have G2 := Lib.hid g2
        have F2 := Lib.hid (HF.out.trans f2)
        clear g2 f2
        go_wp2_with fail
        refine (bvByte _ _ _ _ 34 w2 G2.out (by rfl) (by simp <;> omega) (by omega)).mono ?_
        rintro e w3 ⟨rfl, g3, f3⟩
        have z3 := f3.below.size
        have G3 := Lib.hid g3
        have F3 := Lib.hid (F2.out.trans f3)
        clear g3 f3
        go_wp2
        go_roundw
        case rel => exact ⟨k + 1, _, by omega, by go_num, by simp; omega, G3.out, F3.out⟩
        case measure => simp [intOf]; omega
      · refine (bvByte _ _ _ _ 92 wr HB.out (by rfl) (by simp <;> omega) (by omega)).mono ?_
        rintro e w2 ⟨rfl, g2, f2⟩
        have z2 := f2.below.size
        have G2 := Lib.hid g2
        have F2 := Lib.hid (HF.out.trans f2)
        clear g2 f2
        go_wp2_with fail
        refine (bvByte _ _ _ _ s[k] w2 G2.out rfl (by simp <;> omega) (by omega)).mono ?_
        rintro e w3 ⟨rfl, g3, f3⟩
        have z3 := f3.below.size
        have G3 := Lib.hid g3
        have F3 := Lib.hid (F2.out.trans f3)
        clear g3 f3
        go_wp2
        go_roundw
        case rel => exact ⟨k + 1, _, by omega, by go_num, by simp; omega, G3.out, F3.out⟩
        case measure => simp [intOf]; omega
      · refine (bvString _ _ _ _ wr HB.out (show _ + 4 ≤ _ by omega) (by omega)).mono ?_
        rintro e w2 ⟨rfl, g2, f2⟩
        have z2 := f2.below.size
        have G2 : Hid (Bv B b (l' ++ [92, 117, 48, 48]) w2) := Lib.hid g2
        have F2 := Lib.hid (HF.out.trans f2)
        clear g2 f2
        go_wp2_with fail
        refine (bvByte _ _ _ _ _ w2 G2.out rfl (by simp <;> omega) (by omega)).mono ?_
        rintro e w3 ⟨rfl, g3, f3⟩
        have z3 := f3.below.size
        have G3 := Lib.hid g3
        have F3 := Lib.hid (F2.out.trans f3)
        clear g3 f3
        go_wp2_with fail
        refine (bvByte _ _ _ _ _ w3 G3.out rfl (by simp <;> omega) (by omega)).mono ?_
        rintro e w4 ⟨rfl, g4, f4⟩
        have z4 := f4.below.size
        have G4 := Lib.hid g4
        have F4 := Lib.hid (F3.out.trans f4)
        clear g4 f4
        go_wp2
        go_roundw
        case rel => exact ⟨k + 1, _, by omega, by go_num, by simp; omega, G4.out, F4.out⟩
        case measure => simp [intOf]; omega
      · refine (bvByte _ _ _ _ s[k] wr HB.out rfl (by simp <;> omega) (by omega)).mono ?_
        rintro e w2 ⟨rfl, g2, f2⟩
        have z2 := f2.below.size
        have G2 := Lib.hid g2
        have F2 := Lib.hid (HF.out.trans f2)
        clear g2 f2
        go_wp2
        go_roundw
        case rel => exact ⟨k + 1, _, by omega, by go_num, by simp; omega, G2.out, F2.out⟩
        case measure => simp [intOf]; omega
    · go_wp2_with fail
      refine (bvByte _ _ _ _ 34 wr HB.out (by rfl) (by omega) (by omega)).mono ?_
      rintro e w2 ⟨rfl, g2, f2⟩
      have HS : Hid (Bv B b (l' ++ [34]) w2 ∧ Fr B b w w2) := Lib.hid ⟨g2, HF.out.trans f2⟩
      clear g2 f2
      go_wp2
      go_end0
      exact ⟨rfl, ⟨_, HS.out.1⟩, HS.out.2⟩

set_option maxHeartbeats 1000000 in
set_option maxRecDepth 100000 in
theorem jq_any (s : ByteArray) (w : World) (hs : s.size ≤ 1000000000) (hT : Tb w) :
    Calls Tryz.prog 19 #[.string s] w fun e w' => (∃ q, e = .returned (.tuple #[.string q, .int .i64 (if Lib.validD s.data.toList then 0 else 4)])) ∧ Below w.heap.size w w' := by
  have HT := Lib.hid hT
  clear hT
  cases hv : Lib.validD s.data.toList with
  | false =>
    have HV := Lib.hid hv
    clear hv
    go_enter Tryz.func19, Tryz.ntmps19
    go_wp2_with fail
    refine (valid_any s _ hs HT.out).mono ?_
    rintro e w1 ⟨rfl, b1⟩
    rw [HV.out]
    have HB := Lib.hid b1
    clear b1
    go_wp2
    go_ret2
    exact ⟨⟨_, rfl⟩, HB.out⟩
  | true =>
    have HV := Lib.hid hv
    clear hv
    go_enter Tryz.func19, Tryz.ntmps19
    go_wp2_with fail
    refine (valid_any s _ hs HT.out).mono ?_
    rintro e w1 ⟨rfl, b1⟩
    rw [HV.out]
    have HB := Lib.hid b1
    have hz := b1.size
    have HF := Lib.hid (Bv.fresh w1 w1.heap.size (Nat.le_refl _))
    clear b1
    go_wp2_with fail
    refine (jquote_any w1.heap.size w1.heap.size [] s _ HF.out hs (by simp) (by simp)).mono ?_
    rintro e w2 ⟨rfl, ⟨l2, g2⟩, f2⟩
    have HG := Lib.hid g2
    have HB2 := Lib.hid (HB.out.trans ((((Below.refl _ _).alloc (Nat.le_refl _) (.cells #[.pointer none, .slice none 0 0] 64)).trans (f2.below.mono (by simp))).mono hz))
    have hz2 := f2.below.size
    simp at hz2
    clear g2 f2
    go_wp2_with fail
    refine (bvGet _ _ _ w2 HG.out (by omega)).mono ?_
    rintro e w3 ⟨rfl, b3⟩
    have HB3 := Lib.hid (HB2.out.trans (b3.mono hz))
    clear b3
    go_wp2
    go_ret2
    exact ⟨⟨_, rfl⟩, HB3.out⟩

end Go.Proofs.YthpdpnegbkmbkaaGreatDoor
