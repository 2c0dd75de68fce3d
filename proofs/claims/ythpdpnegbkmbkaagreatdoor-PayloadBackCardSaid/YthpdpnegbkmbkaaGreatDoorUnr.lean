/- What the document's digit and Unquoted come to. -/
import Derived.Test.YthpdpnegbkmbkaaGreatDoorUnp
import Derived.Test.YthpdpnegbkmbkaaGreatDoorRqt
import Derived.Test.YthpdpnegbkmbkaaGreatDoorHdr
import Derived.Deep.RegionHeld3
import Derived.Deep.AppendLies
import Derived.Deep.DrawnRows
set_option linter.unusedVariables false
set_option linter.unusedSimpArgs false
namespace Go.Proofs.YthpdpnegbkmbkaaGreatDoor
open Go.RowKit

theorem digN_hit {c : UInt8} {k : Nat} (hk : k < 16) (h : hexDig k = c) (hn : ∀ j, j < k → hexDig j ≠ c) : digN c = k := by
  have hlen : hexD.data.toList.length = 16 := rfl
  unfold digN
  rw [List.findIdx_eq (by omega)]
  have hg : ∀ j (hj : j < hexD.data.toList.length), hexD.data.toList[j] = hexDig j := fun j hj => by
    unfold hexDig
    rw [List.getD_eq_getElem?_getD, List.getElem?_eq_getElem hj]
    rfl
  refine ⟨by rw [hg]; simpa using h, fun j hj => ?_⟩
  rw [hg j (by omega)]
  simpa using hn j hj
theorem digN_none {c : UInt8} (hn : ∀ j, j < 16 → hexDig j ≠ c) : digN c = 16 := by
  have hg : ∀ j (hj : j < hexD.data.toList.length), hexD.data.toList[j] = hexDig j := fun j hj => by
    unfold hexDig
    rw [List.getD_eq_getElem?_getD, List.getElem?_eq_getElem hj]
    rfl
  unfold digN
  rw [List.findIdx_eq_length_of_false (fun x hx => ?_)]
  · rfl
  · obtain ⟨j, hj, rfl⟩ := List.getElem_of_mem hx
    rw [hg j hj]
    simpa using hn j hj

set_option maxHeartbeats 1000000 in
set_option maxRecDepth 100000 in
theorem rdigit_any (c : Int) (u : UInt8) (w : World) (hc : c = u.toNat) :
    Calls Tryz.prog 42 #[.int .u8 c] w fun e w' => e = .returned (.int .i64 (digN u : Int)) ∧ w = w' := by
  have HC := Lib.hid hc
  go_enter Tryz.func42, Tryz.ntmps42
  go_wp2
  go_loop [3] (fun i => ∃ k : Nat, k ≤ 16 ∧ i = .int .i64 k ∧ ∀ j, j < k → hexDig j ≠ u) (fun i => 16 - (intOf i).toNat)
  case atStart => exact ⟨0, by omega, rfl, fun j hj => absurd hj (by omega)⟩
  case round =>
    obtain ⟨k, hk, rfl, hn⟩ := hrel
    have HN := Lib.hid hn
    clear hn
    by_cases hlt : k < 16
    · have hsz : k < (ByteArray.mk #[48, 49, 50, 51, 52, 53, 54, 55, 56, 57, 65, 66, 67, 68, 69, 70]).size := hlt
      have hget := hexD_get k hsz
      by_cases hh : hexDig k = u
      · have HH := Lib.hid (digN_hit hlt hh HN.out)
        have hb : (((ByteArray.mk #[48, 49, 50, 51, 52, 53, 54, 55, 56, 57, 65, 66, 67, 68, 69, 70])[k].toNat : Int) == c) = true := by rw [hget, hh, beq_iff_eq]; exact HC.out.symm
        clear hget hh
        go_wp2
        go_ret
        exact ⟨by rw [HH.out]; rfl, rfl⟩
      · have hb : (((ByteArray.mk #[48, 49, 50, 51, 52, 53, 54, 55, 56, 57, 65, 66, 67, 68, 69, 70])[k].toNat : Int) == c) = false := by
          rw [hget, beq_eq_false_iff_ne, HC.out]
          intro e
          exact hh (UInt8.toNat_inj.1 (by omega))
        have HK := Lib.hid hh
        clear hget hh
        go_wp2
        exact ⟨⟨k + 1, by omega, by go_num, fun j hj => by
          rcases Nat.lt_or_ge j k with g | g
          · exact HN.out j g
          · obtain rfl : j = k := by omega
            exact HK.out⟩, by simp [intOf]; omega⟩
    · have hk16 : k = 16 := by omega
      subst hk16
      go_wp2
      go_ret
      exact ⟨by rw [digN_none HN.out]; rfl, rfl⟩

theorem byte_alloc (w : World) (x : Value) (T : TypeId) : ∀ (j : Nat) (u : Value), [x][j]? = some u → (w.alloc (.cells #[x] T)).cell? ((⟨w.heap.size, 0, none⟩ : Addr).add j) = some u := by
  intro j u hj
  match j, hj with
  | 0, hj => simp at hj; subst hj; simp [Addr.add]
theorem byte_one (c : Int) : ∀ u ∈ [Value.int .u8 c], u.oneCell' = true := by
  intro u hu; simp at hu; subst hu; rfl
theorem Byr.snoc {H : Nat} {v : Value} {l : List UInt8} {w : World} {c : Int} {u : UInt8} (h : w.ownsRow H 5 1 v (l.length + 1) (Lib.byteCells l ++ [.int .u8 c])) (hc : c = u.toNat) : Byr H v (l ++ [u]) w := by
  unfold Byr
  rw [List.length_append]
  have e : Lib.byteCells (l ++ [u]) = Lib.byteCells l ++ [.int .u8 c] := by simp [Lib.byteCells, hc]
  rw [e]
  exact h
theorem byte_below {H : Nat} {w w1 w2 : World} {v : Value} {l : List UInt8} {o : Obj} (hb : Below H w w1) (h : Byr H v l w1) (hH : H ≤ w1.heap.size) (hg : (w1.alloc o).grownBy w2 v.ownBlock) : Below H w w2 :=
  (hb.alloc hH o).grown hg (by simp; omega) (fun k hk => (h.lt k hk).1)
theorem byte_below_drew {H : Nat} {w w1 w2 : World} {v : Value} {l : List UInt8} {o : Obj} (hb : Below H w w1) (h : Byr H v l w1) (hH : H ≤ w1.heap.size) (hg : (w1.alloc o).drew.grownBy w2 v.ownBlock) : Below H w w2 :=
  ((hb.alloc hH o).drew).grown hg (by simp; omega) (fun k hk => (h.lt k hk).1)
theorem byte_info : (Tryz.prog.info? 5).map (fun i => (i.zero, i.size, i.bytes)) = some (some (.int .u8 0), 1, 1) := by kernel_rfl
/-- What both say of a quotation. -/
def unqR (l : List UInt8) : Array Value := if quotL (unqA l) = l then #[.string (B (unqA l)), .int .i64 0] else #[.string ⟨#[]⟩, .int .i64 4]
theorem unqR_yes {l : List UInt8} (h : quotL (unqA l) = l) : unqR l = #[.string (B (unqA l)), .int .i64 0] := by unfold unqR; rw [if_pos h]
theorem unqR_no {l : List UInt8} (h : ¬ quotL (unqA l) = l) : unqR l = #[.string ⟨#[]⟩, .int .i64 4] := by unfold unqR; rw [if_neg h]
theorem str_eq {a b : List UInt8} (h : a = b) : ((B a).toList == (B b).toList) = true := by rw [h]; simp

set_option maxHeartbeats 4000000 in
set_option maxRecDepth 100000 in
theorem runq_any (s : ByteArray) (w : World) (hs : s.size ≤ 1000000000) :
    Calls Tryz.prog 21 #[.string s] w fun e w' => e = .returned (.tuple (unqR s.data.toList)) ∧ Below w.heap.size w w' := by
  obtain ⟨i0, hi, hz0, hz1, hz2⟩ := info_parts byte_info
  go_enter Tryz.func21, Tryz.ntmps21
  go_wp2
  go_loopw [4, 5] (fun o i wr => ∃ (k : Nat) (out : List UInt8), k ≤ s.size ∧ i = .int .i64 k ∧ Byr w.heap.size o out wr ∧ Below w.heap.size w wr ∧ UAt s.data.toList (s.data.toList.drop k) out) (fun _ i _ => s.size - (intOf i).toNat)
  case atStart => exact ⟨0, [], Nat.zero_le _, rfl, Byr.nil _ _, Below.refl _ _, UAt.start _⟩
  case round =>
    rename_i v _ wr
    obtain ⟨k, out, hk, rfl, hO, hW, hU⟩ := hrel
    have hlen : out.length ≤ s.size := by have := hU.2; simp at this; omega
    have hsz := hW.size
    have HO := Lib.hid hO
    have HW := Lib.hid hW
    by_cases hlt : k < s.size
    · clear hO hW
      rw [drop_at s k hlt] at hU
      have HU := Lib.hid hU
      clear hU
      by_cases c61 : s[k].toNat = 61
      · have C61 := Lib.hid c61
        have b61 : ((s[k].toNat : Int) == 61) = true := by rw [beq_iff_eq]; omega
        have b13 : ((s[k].toNat : Int) == 13) = false := by rw [beq_eq_false_iff_ne]; omega
        clear c61
        by_cases h2 : k + 2 < s.size
        · have hU2 := HU.out
          rw [drop_at s (k + 1) (by omega), drop_at s (k + 2) h2] at hU2
          have HU2 := Lib.hid hU2
          clear hU2
          by_cases a13 : s[k + 1].toNat = 13
          · have A13 := Lib.hid a13
            have ba : ((s[k + 1].toNat : Int) == 13) = true := by rw [beq_iff_eq]; omega
            clear a13
            by_cases b10 : s[k + 2].toNat = 10
            · have B10 := Lib.hid b10
              have bb : ((s[k + 2].toNat : Int) == 10) = true := by rw [beq_iff_eq]; omega
              clear b10
              have HN := Lib.hid (And.intro HO.out (And.intro HW.out (HU2.out.soft C61.out A13.out B10.out)))
              go_wp2
              go_roundw
              case rel => exact ⟨k + 3, _, by omega, by go_num, HN.out.1, HN.out.2.1, HN.out.2.2⟩
              case measure => simp [intOf]; omega
            · have B10 := Lib.hid b10
              have bb : ((s[k + 2].toNat : Int) == 10) = false := by rw [beq_eq_false_iff_ne]; omega
              have hd := digN_cr A13.out
              clear b10
              go_wp2_with fail
              refine (rdigit_any _ s[k + 1] _ rfl).mono ?_
              rintro e w1 ⟨rfl, rfl⟩
              go_wp2_with (at_builtin; refine wpList_append_own _ rfl _ _ 62 rfl w.heap.size 5 i0 (.int .u8 0) 1 1 Tryz.underlying62 hi hz0 hz1 hz2 rfl (by decide) _ _ _ rfl (World.ownsRow.alloc HO.out _) ⟨wr.heap.size, 0, none⟩ 1 1 [.int .u8 ((s[k].toNat : Int))] rfl rfl (byte_alloc wr _ _) (byte_one _) (by unfold maxLen; omega) (by omega) (by simp; omega) ?_)
              intro v2 w2 hown hgrow _
              have HN := Lib.hid (And.intro (Byr.snoc (u := s[k]) hown rfl) (And.intro (byte_below HW.out HO.out hsz hgrow) (show UAt s.data.toList (s.data.toList.drop (k + 1)) (out ++ [s[k]]) from by rw [drop_at s (k + 1) (by omega), drop_at s (k + 2) h2]; exact HU2.out.nohex C61.out (fun g => B10.out g.2) (fun g => by omega))))
              clear hown hgrow
              go_wp2
              go_roundw
              case rel => exact ⟨k + 1, _, by omega, by go_num, HN.out.1, HN.out.2.1, HN.out.2.2⟩
              case measure => simp [intOf]; omega
          · have A13 := Lib.hid a13
            have ba : ((s[k + 1].toNat : Int) == 13) = false := by rw [beq_eq_false_iff_ne]; omega
            clear a13
            by_cases da : digN s[k + 1] < 16
            · obtain ⟨x, hx⟩ : ∃ x, x = digN s[k + 1] := ⟨_, rfl⟩
              have HX := Lib.hid hx
              rw [← hx] at da
              clear hx
              by_cases db : digN s[k + 2] < 16
              · obtain ⟨y, hy⟩ : ∃ y, y = digN s[k + 2] := ⟨_, rfl⟩
                have HY := Lib.hid hy
                rw [← hy] at db
                clear hy
                have hval : ((16 * x + y : Nat) : Int) = ((UInt8.ofNat (16 * x + y)).toNat : Int) := by simp; omega
                have HV := Lib.hid hval
                clear hval
                go_wp2_with fail
                refine (rdigit_any _ s[k + 1] _ rfl).mono ?_
                rintro e w1 ⟨rfl, rfl⟩
                rw [← HX.out]
                go_wp2_with fail
                refine (rdigit_any _ s[k + 2] _ rfl).mono ?_
                rintro e w1 ⟨rfl, rfl⟩
                rw [← HY.out]
                go_wp2_with fail
                have z1 : (0 : Int) ≤ (k : Int) + 1 := by omega
                have z2 : (k : Int) + 1 < (s.size : Int) := by omega
                have z3 : (0 : Int) ≤ (k : Int) + 2 := by omega
                have z4 : (k : Int) + 2 < (s.size : Int) := by omega
                have q1 : IntKind.i64.wrap ((k : Int) + 1) = (k : Int) + 1 := by unfold IntKind.wrap; simp [IntKind.signed, IntKind.bits]; omega
                have q2 : IntKind.i64.wrap ((k : Int) + 2) = (k : Int) + 2 := by unfold IntKind.wrap; simp [IntKind.signed, IntKind.bits]; omega
                have q3 : IntKind.i64.wrap (16 * (x : Int)) = 16 * (x : Int) := by unfold IntKind.wrap; simp [IntKind.signed, IntKind.bits]; omega
                have q4 : IntKind.i64.wrap (16 * (x : Int) + (y : Int)) = 16 * (x : Int) + (y : Int) := by unfold IntKind.wrap; simp [IntKind.signed, IntKind.bits]; omega
                have q5 : IntKind.u8.wrap (16 * (x : Int) + (y : Int)) = 16 * (x : Int) + (y : Int) := by unfold IntKind.wrap; simp [IntKind.signed, IntKind.bits]; omega
                have HX2 : Hid (x = digN (s[((k : Int) + 1).toNat]'(by omega))) := Lib.hid (by simp only [show ((k : Int) + 1).toNat = k + 1 from by omega]; exact HX.out)
                have HY2 : Hid (y = digN (s[((k : Int) + 2).toNat]'(by omega))) := Lib.hid (by simp only [show ((k : Int) + 2).toNat = k + 2 from by omega]; exact HY.out)
                go_region_held3 (fun _ => True) (trivial) (first
                  | ((go_at_call 42; refine (rdigit_any _ _ _ rfl).mono ?_; rintro e w1 ⟨rfl, rfl⟩; (first | rw [← HX.out] | rw [← HY.out] | rw [← HX2.out] | rw [← HY2.out])))
                  | ((refine step_append_lies _ (by rfl) _ _ _ (by rfl) w.heap.size 5 i0 (.int .u8 0) 1 1 Tryz.underlying62 hi hz0 hz1 hz2 rfl (by omega) _ out.length (Lib.byteCells out) (by rfl) ((World.ownsRow.alloc HO.out _).drew) ⟨wr.heap.size, 0, none⟩ 1 1 [.int .u8 (16 * (x : Int) + (y : Int))] (by rfl) (by rfl) (byte_alloc wr _ _) (byte_one _) (by omega) (by unfold maxLen; omega) (by omega) (by simp; omega) (wr.heap.size + 1) (by simp) ?_; intro g cap w2 hown hgrow hat hlt2)))
                all_goals
                  have HN := Lib.hid (And.intro (Byr.snoc (u := UInt8.ofNat (16 * x + y)) hown (by rw [← HV.out]; simp)) (And.intro (byte_below_drew HW.out HO.out hsz hgrow) (show UAt s.data.toList (s.data.toList.drop (k + 3)) (out ++ [UInt8.ofNat (16 * x + y)]) from by rw [HX.out, HY.out]; exact HU2.out.hexa C61.out (by rw [← HX.out]; exact da) (by rw [← HY.out]; exact db))))
                  clear hown hgrow
                  go_wp2
                  go_roundw
                  case rel => exact ⟨k + 3, _, by omega, by go_num, HN.out.1, HN.out.2.1, HN.out.2.2⟩
                  case measure => simp [intOf]; omega
              · have DB := Lib.hid db
                obtain ⟨y, hy⟩ : ∃ y, y = digN s[k + 2] := ⟨_, rfl⟩
                have HY := Lib.hid hy
                rw [← hy] at db
                clear hy
                go_wp2_with fail
                refine (rdigit_any _ s[k + 1] _ rfl).mono ?_
                rintro e w1 ⟨rfl, rfl⟩
                rw [← HX.out]
                go_wp2_with fail
                refine (rdigit_any _ s[k + 2] _ rfl).mono ?_
                rintro e w1 ⟨rfl, rfl⟩
                rw [← HY.out]
                go_wp2_with (at_builtin; refine wpList_append_own _ rfl _ _ 62 rfl w.heap.size 5 i0 (.int .u8 0) 1 1 Tryz.underlying62 hi hz0 hz1 hz2 rfl (by decide) _ _ _ rfl (World.ownsRow.alloc HO.out _) ⟨wr.heap.size, 0, none⟩ 1 1 [.int .u8 ((s[k].toNat : Int))] rfl rfl (byte_alloc wr _ _) (byte_one _) (by unfold maxLen; omega) (by omega) (by simp; omega) ?_)
                intro v2 w2 hown hgrow _
                have HN := Lib.hid (And.intro (Byr.snoc (u := s[k]) hown rfl) (And.intro (byte_below HW.out HO.out hsz hgrow) (show UAt s.data.toList (s.data.toList.drop (k + 1)) (out ++ [s[k]]) from by rw [drop_at s (k + 1) (by omega), drop_at s (k + 2) h2]; exact HU2.out.nohex C61.out (fun g => A13.out g.1) (fun g => DB.out g.2))))
                clear hown hgrow
                go_wp2
                go_roundw
                case rel => exact ⟨k + 1, _, by omega, by go_num, HN.out.1, HN.out.2.1, HN.out.2.2⟩
                case measure => simp [intOf]; omega
            · have DA := Lib.hid da
              obtain ⟨x, hx⟩ : ∃ x, x = digN s[k + 1] := ⟨_, rfl⟩
              have HX := Lib.hid hx
              rw [← hx] at da
              clear hx
              go_wp2_with fail
              refine (rdigit_any _ s[k + 1] _ rfl).mono ?_
              rintro e w1 ⟨rfl, rfl⟩
              rw [← HX.out]
              go_wp2_with (at_builtin; refine wpList_append_own _ rfl _ _ 62 rfl w.heap.size 5 i0 (.int .u8 0) 1 1 Tryz.underlying62 hi hz0 hz1 hz2 rfl (by decide) _ _ _ rfl (World.ownsRow.alloc HO.out _) ⟨wr.heap.size, 0, none⟩ 1 1 [.int .u8 ((s[k].toNat : Int))] rfl rfl (byte_alloc wr _ _) (byte_one _) (by unfold maxLen; omega) (by omega) (by simp; omega) ?_)
              intro v2 w2 hown hgrow _
              have HN := Lib.hid (And.intro (Byr.snoc (u := s[k]) hown rfl) (And.intro (byte_below HW.out HO.out hsz hgrow) (show UAt s.data.toList (s.data.toList.drop (k + 1)) (out ++ [s[k]]) from by rw [drop_at s (k + 1) (by omega), drop_at s (k + 2) h2]; exact HU2.out.nohex C61.out (fun g => A13.out g.1) (fun g => DA.out g.1))))
              clear hown hgrow
              go_wp2
              go_roundw
              case rel => exact ⟨k + 1, _, by omega, by go_num, HN.out.1, HN.out.2.1, HN.out.2.2⟩
              case measure => simp [intOf]; omega
        · have HS : Hid ((s.data.toList.drop (k + 1)).length < 2) := Lib.hid (by simp; omega)
          go_wp2_with (at_builtin; refine wpList_append_own _ rfl _ _ 62 rfl w.heap.size 5 i0 (.int .u8 0) 1 1 Tryz.underlying62 hi hz0 hz1 hz2 rfl (by decide) _ _ _ rfl (World.ownsRow.alloc HO.out _) ⟨wr.heap.size, 0, none⟩ 1 1 [.int .u8 ((s[k].toNat : Int))] rfl rfl (byte_alloc wr _ _) (byte_one _) (by unfold maxLen; omega) (by omega) (by simp; omega) ?_)
          intro v2 w2 hown hgrow _
          have HN := Lib.hid (And.intro (Byr.snoc (u := s[k]) hown rfl) (And.intro (byte_below HW.out HO.out hsz hgrow) (HU.out.short C61.out HS.out)))
          clear hown hgrow
          go_wp2
          go_roundw
          case rel => exact ⟨k + 1, _, by omega, by go_num, HN.out.1, HN.out.2.1, HN.out.2.2⟩
          case measure => simp [intOf]; omega
      · have b61 : ((s[k].toNat : Int) == 61) = false := by rw [beq_eq_false_iff_ne]; omega
        by_cases c13 : s[k].toNat = 13
        · have C13 := Lib.hid c13
          have b13 : ((s[k].toNat : Int) == 13) = true := by rw [beq_iff_eq]; omega
          clear c61 c13
          by_cases h1 : k + 1 < s.size
          · by_cases a10 : s[k + 1].toNat = 10
            · have A10 := Lib.hid a10
              have ba : ((s[k + 1].toNat : Int) == 10) = true := by rw [beq_iff_eq]; omega
              clear a10
              have hU2 := HU.out
              rw [drop_at s (k + 1) h1] at hU2
              have HU2 := Lib.hid hU2
              clear hU2
              go_wp2_with (at_builtin; refine wpList_append_own _ rfl _ _ 62 rfl w.heap.size 5 i0 (.int .u8 0) 1 1 Tryz.underlying62 hi hz0 hz1 hz2 rfl (by decide) _ _ _ rfl (World.ownsRow.alloc HO.out _) ⟨wr.heap.size, 0, none⟩ 1 1 [.int .u8 (10)] rfl rfl (byte_alloc wr _ _) (byte_one _) (by unfold maxLen; omega) (by omega) (by simp; omega) ?_)
              intro v2 w2 hown hgrow _
              have HN := Lib.hid (And.intro (Byr.snoc (u := 10) hown rfl) (And.intro (byte_below HW.out HO.out hsz hgrow) (HU2.out.line C13.out A10.out)))
              clear hown hgrow
              go_wp2
              go_roundw
              case rel => exact ⟨k + 2, _, by omega, by go_num, HN.out.1, HN.out.2.1, HN.out.2.2⟩
              case measure => simp [intOf]; omega
            · have A10 := Lib.hid a10
              have ba : ((s[k + 1].toNat : Int) == 10) = false := by rw [beq_eq_false_iff_ne]; omega
              clear a10
              go_wp2_with (at_builtin; refine wpList_append_own _ rfl _ _ 62 rfl w.heap.size 5 i0 (.int .u8 0) 1 1 Tryz.underlying62 hi hz0 hz1 hz2 rfl (by decide) _ _ _ rfl (World.ownsRow.alloc HO.out _) ⟨wr.heap.size, 0, none⟩ 1 1 [.int .u8 ((s[k].toNat : Int))] rfl rfl (byte_alloc wr _ _) (byte_one _) (by unfold maxLen; omega) (by omega) (by simp; omega) ?_)
              intro v2 w2 hown hgrow _
              have HN := Lib.hid (And.intro (Byr.snoc (u := s[k]) hown rfl) (And.intro (byte_below HW.out HO.out hsz hgrow) (HU.out.noline C13.out (fun a t e => by rw [drop_at s (k + 1) h1] at e; injection e with e1 _; subst e1; exact A10.out))))
              clear hown hgrow
              go_wp2
              go_roundw
              case rel => exact ⟨k + 1, _, by omega, by go_num, HN.out.1, HN.out.2.1, HN.out.2.2⟩
              case measure => simp [intOf]; omega
          · have HS : Hid (s.data.toList.drop (k + 1) = []) := Lib.hid (List.drop_of_length_le (by simp; omega))
            go_wp2_with (at_builtin; refine wpList_append_own _ rfl _ _ 62 rfl w.heap.size 5 i0 (.int .u8 0) 1 1 Tryz.underlying62 hi hz0 hz1 hz2 rfl (by decide) _ _ _ rfl (World.ownsRow.alloc HO.out _) ⟨wr.heap.size, 0, none⟩ 1 1 [.int .u8 ((s[k].toNat : Int))] rfl rfl (byte_alloc wr _ _) (byte_one _) (by unfold maxLen; omega) (by omega) (by simp; omega) ?_)
            intro v2 w2 hown hgrow _
            have HN := Lib.hid (And.intro (Byr.snoc (u := s[k]) hown rfl) (And.intro (byte_below HW.out HO.out hsz hgrow) (HU.out.noline C13.out (fun a t e => by rw [HS.out] at e; cases e))))
            clear hown hgrow
            go_wp2
            go_roundw
            case rel => exact ⟨k + 1, _, by omega, by go_num, HN.out.1, HN.out.2.1, HN.out.2.2⟩
            case measure => simp [intOf]; omega
        · have C := Lib.hid (And.intro c61 c13)
          have b13 : ((s[k].toNat : Int) == 13) = false := by rw [beq_eq_false_iff_ne]; omega
          clear c61 c13
          go_wp2_with (at_builtin; refine wpList_append_own _ rfl _ _ 62 rfl w.heap.size 5 i0 (.int .u8 0) 1 1 Tryz.underlying62 hi hz0 hz1 hz2 rfl (by decide) _ _ _ rfl (World.ownsRow.alloc HO.out _) ⟨wr.heap.size, 0, none⟩ 1 1 [.int .u8 ((s[k].toNat : Int))] rfl rfl (byte_alloc wr _ _) (byte_one _) (by unfold maxLen; omega) (by omega) (by simp; omega) ?_)
          intro v2 w2 hown hgrow _
          have HN := Lib.hid (And.intro (Byr.snoc (u := s[k]) hown rfl) (And.intro (byte_below HW.out HO.out hsz hgrow) (HU.out.plain C.out.1 C.out.2)))
          clear hown hgrow
          go_wp2
          go_roundw
          case rel => exact ⟨k + 1, _, by omega, by go_num, HN.out.1, HN.out.2.1, HN.out.2.2⟩
          case measure => simp [intOf]; omega
    · have hend : out = unqA s.data.toList := by
        rw [List.drop_of_length_le (by simp; omega)] at hU
        exact hU.end_
      have hT := hO.text 9 Tryz.underlying9
      have HE := Lib.hid hend
      clear hU hO hW hend
      go_wp2_with fail
      refine (rquoted_any (B out) _ (by rw [B_size]; omega)).mono ?_
      rintro e w1 ⟨rfl, n, rfl⟩
      rw [B_list]
      have hT2 := (show Byr w.heap.size _ out (wr.drewN n) from HO.out).text 9 Tryz.underlying9
      by_cases hq : quotL out = s.data.toList
      · have hb : ((B (quotL out)).toList == s.toList) = true := by rw [Lib.toList_data, B_list, Lib.toList_data, hq]; simp
        have HR := Lib.hid (unqR_yes (by rw [← HE.out]; exact hq))
        clear hq
        generalize B (quotL out) = q at *
        go_wp2
        go_ret2
        exact ⟨by rw [HR.out, ← HE.out]; rfl, below_drewN HW.out n⟩
      · have hb : ((B (quotL out)).toList == s.toList) = false := by rw [Lib.toList_data, B_list, Lib.toList_data, beq_eq_false_iff_ne]; exact hq
        have HR := Lib.hid (unqR_no (by rw [← HE.out]; exact hq))
        clear hq
        generalize B (quotL out) = q at *
        go_wp2
        go_ret2
        exact ⟨by rw [HR.out]; rfl, below_drewN HW.out n⟩

end Go.Proofs.YthpdpnegbkmbkaaGreatDoor
