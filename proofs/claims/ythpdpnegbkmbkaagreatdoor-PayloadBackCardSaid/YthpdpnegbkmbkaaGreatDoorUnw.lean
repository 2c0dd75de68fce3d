/- What payload.Unquoted comes to. -/
import Derived.Test.YthpdpnegbkmbkaaGreatDoorUnr
set_option linter.unusedVariables false
set_option linter.unusedSimpArgs false
namespace Go.Proofs.YthpdpnegbkmbkaaGreatDoor
open Go.RowKit

def strSz (v : Value) : Nat := match v with | .string x => x.size | _ => 0
theorem ext_drop (r : ByteArray) (n : Nat) : (r.extract n r.size).data.toList = r.data.toList.drop n := by
  simp only [ByteArray.data_extract, Array.toList_extract, List.extract_eq_take_drop]
  exact List.take_of_length_le (by simp)
theorem ext_size (r : ByteArray) (n : Nat) : (r.extract n r.size).size = r.size - n := by simp
theorem pre_some {l p : List UInt8} (h : Lib.hasPrefix l p = true) : ∃ t, l = p ++ t := by
  obtain ⟨t, ht⟩ := List.isPrefixOf_iff_prefix.1 h
  exact ⟨t, ht.symm⟩
theorem pre_no3 {c a b : UInt8} {t : List UInt8} (h : Lib.hasPrefix (c :: a :: b :: t) [61, 13, 10] = false) : ¬ (c.toNat = 61 ∧ a.toNat = 13 ∧ b.toNat = 10) := by
  rintro ⟨h1, h2, h3⟩
  obtain rfl : c = 61 := UInt8.toNat_inj.1 (by simpa using h1)
  obtain rfl : a = 13 := UInt8.toNat_inj.1 (by simpa using h2)
  obtain rfl : b = 10 := UInt8.toNat_inj.1 (by simpa using h3)
  simp [Lib.hasPrefix] at h
theorem pre_no2 {c a : UInt8} {t : List UInt8} (h : Lib.hasPrefix (c :: a :: t) [13, 10] = false) : ¬ (c.toNat = 13 ∧ a.toNat = 10) := by
  rintro ⟨h1, h2⟩
  obtain rfl : c = 13 := UInt8.toNat_inj.1 (by simpa using h1)
  obtain rfl : a = 10 := UInt8.toNat_inj.1 (by simpa using h2)
  simp [Lib.hasPrefix] at h
/-- The default's step. -/
theorem UAt.last {S : List UInt8} {r : ByteArray} {out : List UInt8} (h : UAt S r.data.toList out) (h0 : 0 < r.size) (h1 : Lib.hasPrefix r.data.toList [61, 13, 10] = false) (h2 : Lib.hasPrefix r.data.toList [13, 10] = false)
    (h3 : ∀ (g : 2 < r.size), r[0].toNat = 61 → ¬ (digN r[1] < 16 ∧ digN r[2] < 16)) : UAt S (r.data.toList.drop 1) (out ++ [r[0]]) := by
  have e := drop_at r 0 h0
  rw [List.drop_zero] at e
  rw [e] at h h1 h2
  refine h.one (fun a b t ht => ?_) (fun a t ht => ?_)
  · have hl : 2 < r.size := by have := congrArg List.length ht; simp at this; omega
    rw [ht] at h1
    refine ⟨pre_no3 h1, fun g => ?_⟩
    rw [drop_at r 1 (by omega), drop_at r 2 hl] at ht
    injection ht with e1 ht
    injection ht with e2 ht
    exact h3 hl g.1 (by rw [e1, e2]; exact g.2)
  · rw [ht] at h2
    exact pre_no2 h2

def hexI (u : UInt8) : Int := if digN u < 16 then (digN u : Int) else -1
theorem hexI_yes {u : UInt8} (h : digN u < 16) : hexI u = (digN u : Int) := by unfold hexI; rw [if_pos h]
theorem hexI_no {u : UInt8} (h : ¬ digN u < 16) : hexI u = -1 := by unfold hexI; rw [if_neg h]
theorem hex_index (c : Int) (u : UInt8) (w : World) (hc : c = u.toNat) :
    Calls Tryz.prog 41 #[.string ⟨#[48, 49, 50, 51, 52, 53, 54, 55, 56, 57, 65, 66, 67, 68, 69, 70]⟩, .int .u8 c] w fun e w' => e = .returned (.int .i64 (hexI u)) ∧ w = w' := by
  refine (Tryz.strings_IndexByte _ c w).mono ?_
  rintro e w1 ⟨rfl, rfl⟩
  refine ⟨?_, rfl⟩
  unfold hexI
  rw [← digN_index, hc]
  simp [hexD]
theorem prefix_any (s p : ByteArray) (b : Bool) (w : World) (h : Lib.hasPrefix s.data.toList p.data.toList = b) :
    Calls Tryz.prog 40 #[.string s, .string p] w fun e w' => e = .returned (.bool b) ∧ w = w' :=
  (Tryz.strings_HasPrefix s p w).mono fun e w' k => ⟨by rw [← h]; exact k.1, k.2.symm⟩
theorem Byr.keep {H : Nat} {v : Value} {l : List UInt8} {w w' : World} (h : Byr H v l w) (hb : Below w.heap.size w w') : Byr H v l w' := by
  refine ⟨h.1, ?_⟩
  rcases h.2 with k | ⟨g, cap, cur, hv, hg, hh, k⟩
  · exact Or.inl k
  · refine Or.inr ⟨g, cap, cur, hv, hg, (hb.block g ?_).trans hh, k⟩
    rcases Nat.lt_or_ge g w.heap.size with h' | h'
    · exact h'
    · simp [Array.getElem?_eq_none h'] at hh
theorem or_hex : ((List.range 16).all fun x => (List.range 16).all fun y => bits .or .i64 (16 * (x : Int)) (y : Int) == 16 * (x : Int) + (y : Int)) = true := by kernel_rfl
theorem or_hex_at {x y : Nat} (hx : x < 16) (hy : y < 16) : bits .or .i64 (16 * (x : Int)) (y : Int) = 16 * (x : Int) + (y : Int) := by
  have := List.all_eq_true.1 (List.all_eq_true.1 or_hex x (List.mem_range.2 hx)) y (List.mem_range.2 hy)
  simpa using this

set_option maxHeartbeats 4000000 in
set_option maxRecDepth 100000 in
theorem unq_any (s : ByteArray) (w : World) (hs : s.size ≤ 1000000000) :
    Calls Tryz.prog 20 #[.string s] w fun e w' => e = .returned (.tuple (unqR s.data.toList)) ∧ Below w.heap.size w w' := by
  obtain ⟨i0, hi, hz0, hz1, hz2⟩ := info_parts byte_info
  go_enter Tryz.func20, Tryz.ntmps20
  go_wp2
  go_loopw [4, 5] (fun o i wr => ∃ (r : ByteArray) (out : List UInt8), i = .string r ∧ Byr w.heap.size o out wr ∧ Below w.heap.size w wr ∧ UAt s.data.toList r.data.toList out) (fun _ i _ => strSz i)
  case atStart => exact ⟨s, [], rfl, Byr.nil _ _, Below.refl _ _, UAt.start _⟩
  case round =>
    rename_i v _ wr
    obtain ⟨r, out, rfl, hO, hW, hU⟩ := hrel
    have hlen : out.length + r.size ≤ s.size := by have := hU.2; simpa using this
    have hsz := hW.size
    have HO := Lib.hid hO
    have HW := Lib.hid hW
    by_cases hlt : 0 < r.size
    · clear hO hW
      have HU := Lib.hid hU
      clear hU
      have hem2 : r.toList.isEmpty = false := by
        rw [Lib.toList_data]
        have e := drop_at r 0 hlt
        rw [List.drop_zero] at e
        rw [e]
        rfl
      have hem : ¬ r.toList = [] := by
        intro e
        rw [e] at hem2
        cases hem2
      cases hp : Lib.hasPrefix r.data.toList [61, 13, 10] with
      | true =>
        go_wp2_with fail
        refine (prefix_any _ _ true _ hp).mono ?_
        rintro e w1 ⟨rfl, rfl⟩
        obtain ⟨t, ht⟩ := pre_some hp
        have h3 : 3 ≤ r.size := by have := congrArg List.length ht; simp at this; omega
        have HN : Hid (UAt s.data.toList (r.extract 3 r.size).data.toList out) := Lib.hid (by
          rw [ext_drop, ht]
          have := HU.out
          rw [ht] at this
          exact UAt.soft this rfl rfl rfl)
        clear ht hp
        go_wp2
        go_roundw
        case rel => exact ⟨_, out, rfl, HO.out, HW.out, HN.out⟩
        case measure => simp [strSz]; omega
      | false =>
        go_wp2_with fail
        refine (prefix_any _ _ false _ hp).mono ?_
        rintro e w1 ⟨rfl, rfl⟩
        have HP := Lib.hid hp
        clear hp
        cases hq : Lib.hasPrefix r.data.toList [13, 10] with
        | true =>
          go_wp2_with fail
          refine (prefix_any _ _ true _ hq).mono ?_
          rintro e w1 ⟨rfl, rfl⟩
          obtain ⟨t, ht⟩ := pre_some hq
          have h2 : 2 ≤ r.size := by have := congrArg List.length ht; simp at this; omega
          have HL : Hid (UAt s.data.toList (r.data.toList.drop 2) (out ++ [10])) := Lib.hid (by
            rw [ht]
            have := HU.out
            rw [ht] at this
            exact UAt.line this rfl rfl)
          have z1 : (0 : Int) ≤ 2 := by omega
          have z2 : (2 : Int) ≤ (r.size : Int) := by omega
          clear ht hq
          go_wp2_with fail
          go_region_held3 (fun _ => True) (trivial) ((refine step_append_lies _ (by rfl) _ _ _ (by rfl) w.heap.size 5 i0 (.int .u8 0) 1 1 Tryz.underlying62 hi hz0 hz1 hz2 rfl (by omega) _ out.length (Lib.byteCells out) (by rfl) ((World.ownsRow.alloc HO.out _).drew) ⟨wr.heap.size, 0, none⟩ 1 1 [.int .u8 (10)] (by rfl) (by rfl) (byte_alloc wr _ _) (byte_one _) (by omega) (by unfold maxLen; omega) (by omega) (by simp; omega) (wr.heap.size + 1) (by simp) ?_; intro g cap w2 hown hgrow hat hlt2))
          all_goals
            have HN := Lib.hid (And.intro (Byr.snoc (u := 10) hown rfl) (And.intro (byte_below_drew HW.out HO.out hsz hgrow) (show UAt s.data.toList (r.extract 2 r.size).data.toList (out ++ [10]) from by rw [ext_drop]; exact HL.out)))
            clear hown hgrow
            go_wp2
            go_roundw
            case rel => exact ⟨_, _, rfl, HN.out.1, HN.out.2.1, HN.out.2.2⟩
            case measure => simp [strSz]; omega
        | false =>
          go_wp2_with fail
          refine (prefix_any _ _ false _ hq).mono ?_
          rintro e w1 ⟨rfl, rfl⟩
          have HQ := Lib.hid hq
          clear hq
          have z0 : (0 : Int) ≤ 1 := by omega
          have z1 : (1 : Int) ≤ (r.size : Int) := by omega
          by_cases c61 : r[0].toNat = 61
          · have C61 := Lib.hid c61
            have b61 : ((r[0].toNat : Int) == 61) = true := by rw [beq_iff_eq]; omega
            clear c61
            by_cases h2 : 2 < r.size
            · have z3 : (3 : Int) ≤ (r.size : Int) := by omega
              have z4 : (1 : Int) < (r.size : Int) := by omega
              have z5 : (2 : Int) < (r.size : Int) := by omega
              by_cases da : digN r[1] < 16
              · obtain ⟨x, hx⟩ : ∃ x, x = digN r[1] := ⟨_, rfl⟩
                have HX : Hid (hexI r[1] = x) := Lib.hid (by rw [hx]; exact hexI_yes da)
                have HX2 := Lib.hid hx
                rw [← hx] at da
                clear hx
                by_cases db : digN r[2] < 16
                · obtain ⟨y, hy⟩ : ∃ y, y = digN r[2] := ⟨_, rfl⟩
                  have HY : Hid (hexI r[2] = y) := Lib.hid (by rw [hy]; exact hexI_yes db)
                  have HY2 := Lib.hid hy
                  rw [← hy] at db
                  clear hy
                  have ho := or_hex_at da db
                  have q1 : IntKind.i64.wrap ((x : Int) * 16) = (x : Int) * 16 := by unfold IntKind.wrap; simp [IntKind.signed, IntKind.bits]; omega
                  have q2 : IntKind.u8.wrap (16 * (x : Int) + (y : Int)) = 16 * (x : Int) + (y : Int) := by unfold IntKind.wrap; simp [IntKind.signed, IntKind.bits]; omega
                  have ho2 : bits .or .i64 ((x : Int) * 16) (y : Int) = 16 * (x : Int) + (y : Int) := by rw [Int.mul_comm]; exact ho
                  have HL : Hid (UAt s.data.toList (r.data.toList.drop 3) (out ++ [UInt8.ofNat (16 * x + y)])) := Lib.hid (by
                    have e := HU.out
                    have e0 := drop_at r 0 hlt
                    rw [List.drop_zero] at e0
                    rw [e0, drop_at r 1 (by omega), drop_at r 2 h2] at e
                    rw [HX2.out, HY2.out]
                    exact e.hexa C61.out (by rw [← HX2.out]; exact da) (by rw [← HY2.out]; exact db))
                  have hval : ((16 * x + y : Nat) : Int) = ((UInt8.ofNat (16 * x + y)).toNat : Int) := by simp; omega
                  have HV := Lib.hid hval
                  clear hval
                  go_wp2_with fail
                  go_region_held3 (fun _ => True) (trivial) ((go_at_call 41; refine (hex_index _ _ _ rfl).mono ?_; rintro e w1 ⟨rfl, rfl⟩; (first | rw [HX.out] | rw [HY.out])))
                  all_goals
                    have HO1 := Lib.hid (show Byr w.heap.size _ out wr.drew from HO.out)
                    have HW1 := Lib.hid (show Below w.heap.size w wr.drew from HW.out.drew)
                    go_wp2_with fail
                    go_region_held3 (fun _ => True) (trivial) ((refine step_append_lies _ (by rfl) _ _ _ (by rfl) w.heap.size 5 i0 (.int .u8 0) 1 1 Tryz.underlying62 hi hz0 hz1 hz2 rfl (by omega) _ out.length (Lib.byteCells out) (by rfl) ((World.ownsRow.alloc HO1.out _).drew) ⟨wr.heap.size, 0, none⟩ 1 1 [.int .u8 (16 * (x : Int) + (y : Int))] (by rfl) (by rfl) (byte_alloc wr.drew _ _) (byte_one _) (by omega) (by unfold maxLen; omega) (by omega) (by simp; omega) (wr.heap.size + 1) (by simp) ?_; intro g cap w2 hown hgrow hat hlt2))
                    all_goals
                      have HN := Lib.hid (And.intro (Byr.snoc (u := UInt8.ofNat (16 * x + y)) hown (by rw [← HV.out]; simp)) (And.intro (byte_below_drew HW1.out HO1.out hsz hgrow) (show UAt s.data.toList (r.extract 3 r.size).data.toList (out ++ [UInt8.ofNat (16 * x + y)]) from by rw [ext_drop]; exact HL.out)))
                      clear hown hgrow
                      go_wp2
                      go_roundw
                      case rel => exact ⟨_, _, rfl, HN.out.1, HN.out.2.1, HN.out.2.2⟩
                      case measure => simp [strSz]; omega
                · have DB := Lib.hid db
                  have HY : Hid (hexI r[2] = -1) := Lib.hid (hexI_no db)
                  clear db
                  go_wp2_with fail
                  go_region_held3 (fun _ => True) (trivial) ((go_at_call 41; refine (hex_index _ _ _ rfl).mono ?_; rintro e w1 ⟨rfl, rfl⟩; (first | rw [HX.out] | rw [HY.out])))
                  all_goals
                    have HO1 := Lib.hid (show Byr w.heap.size _ out wr.drew from HO.out)
                    have HW1 := Lib.hid (show Below w.heap.size w wr.drew from HW.out.drew)
                    go_wp2_with fail
                    go_region_held3 (fun _ => True) (trivial) ((refine step_append_lies _ (by rfl) _ _ _ (by rfl) w.heap.size 5 i0 (.int .u8 0) 1 1 Tryz.underlying62 hi hz0 hz1 hz2 rfl (by omega) _ out.length (Lib.byteCells out) (by rfl) ((World.ownsRow.alloc HO1.out _).drew) ⟨wr.heap.size, 0, none⟩ 1 1 [.int .u8 ((r[0].toNat : Int))] (by rfl) (by rfl) (byte_alloc wr.drew _ _) (byte_one _) (by omega) (by unfold maxLen; omega) (by omega) (by simp; omega) (wr.heap.size + 1) (by simp) ?_; intro g cap w2 hown hgrow hat hlt2))
                    all_goals
                      have HN := Lib.hid (And.intro (Byr.snoc (u := r[0]) hown rfl) (And.intro (byte_below_drew HW1.out HO1.out hsz hgrow) (show UAt s.data.toList (r.extract 1 r.size).data.toList (out ++ [r[0]]) from by rw [ext_drop]; exact UAt.last HU.out hlt HP.out HQ.out (fun _ _ g => DB.out g.2))))
                      clear hown hgrow
                      go_wp2
                      go_roundw
                      case rel => exact ⟨_, _, rfl, HN.out.1, HN.out.2.1, HN.out.2.2⟩
                      case measure => simp [strSz]; omega
              · have DA := Lib.hid da
                have HX : Hid (hexI r[1] = -1) := Lib.hid (hexI_no da)
                obtain ⟨z, hz⟩ : ∃ z, z = hexI r[2] := ⟨_, rfl⟩
                have HY : Hid (hexI r[2] = z) := Lib.hid hz.symm
                clear da hz
                go_wp2_with fail
                go_region_held3 (fun _ => True) (trivial) ((go_at_call 41; refine (hex_index _ _ _ rfl).mono ?_; rintro e w1 ⟨rfl, rfl⟩; (first | rw [HX.out] | rw [HY.out])))
                all_goals
                  have HO1 := Lib.hid (show Byr w.heap.size _ out wr.drew from HO.out)
                  have HW1 := Lib.hid (show Below w.heap.size w wr.drew from HW.out.drew)
                  go_wp2_with fail
                  go_region_held3 (fun _ => True) (trivial) ((refine step_append_lies _ (by rfl) _ _ _ (by rfl) w.heap.size 5 i0 (.int .u8 0) 1 1 Tryz.underlying62 hi hz0 hz1 hz2 rfl (by omega) _ out.length (Lib.byteCells out) (by rfl) ((World.ownsRow.alloc HO1.out _).drew) ⟨wr.heap.size, 0, none⟩ 1 1 [.int .u8 ((r[0].toNat : Int))] (by rfl) (by rfl) (byte_alloc wr.drew _ _) (byte_one _) (by omega) (by unfold maxLen; omega) (by omega) (by simp; omega) (wr.heap.size + 1) (by simp) ?_; intro g cap w2 hown hgrow hat hlt2))
                  all_goals
                    have HN := Lib.hid (And.intro (Byr.snoc (u := r[0]) hown rfl) (And.intro (byte_below_drew HW1.out HO1.out hsz hgrow) (show UAt s.data.toList (r.extract 1 r.size).data.toList (out ++ [r[0]]) from by rw [ext_drop]; exact UAt.last HU.out hlt HP.out HQ.out (fun _ _ g => DA.out g.1))))
                    clear hown hgrow
                    go_wp2
                    go_roundw
                    case rel => exact ⟨_, _, rfl, HN.out.1, HN.out.2.1, HN.out.2.2⟩
                    case measure => simp [strSz]; omega
            · have H2 := Lib.hid h2
              go_wp2_with fail
              go_region_held3 (fun _ => True) (trivial) ((refine step_append_lies _ (by rfl) _ _ _ (by rfl) w.heap.size 5 i0 (.int .u8 0) 1 1 Tryz.underlying62 hi hz0 hz1 hz2 rfl (by omega) _ out.length (Lib.byteCells out) (by rfl) ((World.ownsRow.alloc HO.out _).drew) ⟨wr.heap.size, 0, none⟩ 1 1 [.int .u8 ((r[0].toNat : Int))] (by rfl) (by rfl) (byte_alloc wr _ _) (byte_one _) (by omega) (by unfold maxLen; omega) (by omega) (by simp; omega) (wr.heap.size + 1) (by simp) ?_; intro g cap w2 hown hgrow hat hlt2))
              all_goals
                have HN := Lib.hid (And.intro (Byr.snoc (u := r[0]) hown rfl) (And.intro (byte_below_drew HW.out HO.out hsz hgrow) (show UAt s.data.toList (r.extract 1 r.size).data.toList (out ++ [r[0]]) from by rw [ext_drop]; exact UAt.last HU.out hlt HP.out HQ.out (fun g _ => absurd g H2.out))))
                clear hown hgrow
                go_wp2
                go_roundw
                case rel => exact ⟨_, _, rfl, HN.out.1, HN.out.2.1, HN.out.2.2⟩
                case measure => simp [strSz]; omega
          · have C61 := Lib.hid c61
            have b61 : ((r[0].toNat : Int) == 61) = false := by rw [beq_eq_false_iff_ne]; omega
            clear c61
            go_wp2_with fail
            go_region_held3 (fun _ => True) (trivial) ((refine step_append_lies _ (by rfl) _ _ _ (by rfl) w.heap.size 5 i0 (.int .u8 0) 1 1 Tryz.underlying62 hi hz0 hz1 hz2 rfl (by omega) _ out.length (Lib.byteCells out) (by rfl) ((World.ownsRow.alloc HO.out _).drew) ⟨wr.heap.size, 0, none⟩ 1 1 [.int .u8 ((r[0].toNat : Int))] (by rfl) (by rfl) (byte_alloc wr _ _) (byte_one _) (by omega) (by unfold maxLen; omega) (by omega) (by simp; omega) (wr.heap.size + 1) (by simp) ?_; intro g cap w2 hown hgrow hat hlt2))
            all_goals
              have HN := Lib.hid (And.intro (Byr.snoc (u := r[0]) hown rfl) (And.intro (byte_below_drew HW.out HO.out hsz hgrow) (show UAt s.data.toList (r.extract 1 r.size).data.toList (out ++ [r[0]]) from by rw [ext_drop]; exact UAt.last HU.out hlt HP.out HQ.out (fun _ g => absurd g C61.out))))
              clear hown hgrow
              go_wp2
              go_roundw
              case rel => exact ⟨_, _, rfl, HN.out.1, HN.out.2.1, HN.out.2.2⟩
              case measure => simp [strSz]; omega
    · obtain hr0 : r.data.toList = [] := List.eq_nil_of_length_eq_zero (by rw [size_list]; omega)
      have hem2 : r.toList.isEmpty = true := by rw [Lib.toList_data, hr0]; rfl
      have hem : r.toList = [] := by rw [Lib.toList_data]; exact hr0
      have hend : out = unqA s.data.toList := by
        rw [hr0] at hU
        exact hU.end_
      have hT := hO.text 9 Tryz.underlying9
      have HE := Lib.hid hend
      clear hU hO hW hend
      go_wp2_with fail
      refine (quoted_any (B out) _ (by rw [B_size]; omega)).mono ?_
      rintro e w1 ⟨rfl, b1⟩
      rw [B_list, show (⟨(quotL out).toArray⟩ : ByteArray) = B (quotL out) from rfl]
      have HB := Lib.hid (HW.out.trans (b1.mono hsz))
      have hT2 := (Byr.keep HO.out b1).text 9 Tryz.underlying9
      by_cases hq : quotL out = s.data.toList
      · have hb : ((B (quotL out)).toList == s.toList) = true := by rw [Lib.toList_data, B_list, Lib.toList_data, hq]; simp
        have HR := Lib.hid (unqR_yes (by rw [← HE.out]; exact hq))
        clear hq b1
        generalize B (quotL out) = q at *
        go_wp2
        go_ret2
        exact ⟨by rw [HR.out, ← HE.out]; rfl, HB.out⟩
      · have hb : ((B (quotL out)).toList == s.toList) = false := by rw [Lib.toList_data, B_list, Lib.toList_data, beq_eq_false_iff_ne]; exact hq
        have HR := Lib.hid (unqR_no (by rw [← HE.out]; exact hq))
        clear hq b1
        generalize B (quotL out) = q at *
        go_wp2
        go_ret2
        exact ⟨by rw [HR.out]; rfl, HB.out⟩

end Go.Proofs.YthpdpnegbkmbkaaGreatDoor
