/- The closed case of payload's statements: the template's parser. -/
import Derived.Test.YthpdpnegbkmbkaaGreatDoorAwk
import Derived.Deep.RegionWith
import Derived.BigRegion
set_option linter.unusedVariables false
set_option linter.unusedSimpArgs false
namespace Go.Proofs.YthpdpnegbkmbkaaGreatDoor
open Go.RowKit

set_option maxHeartbeats 1000000 in
set_option maxRecDepth 100000 in
theorem stands_r (h d : Nat) (within : Bool) (w : World) (hc : w.cell? ⟨h, 0, none⟩ = some (.string strW)) :
    Calls Tryz.prog 124 #[.slice (some ⟨h, 0, none⟩) 1 d, .bool within] w fun e w' => e = .returned (.bool true) ∧ w = w' := by
  go_enter Tryz.func124, Tryz.ntmps124
  go_wp2
  go_ret
  exact ⟨rfl, rfl⟩

set_option maxHeartbeats 1000000 in
set_option maxRecDepth 100000 in
theorem contains0 (fa : Option Addr) (fc : Nat) (f : Value) (w : World) :
    Calls Tryz.prog 125 #[.slice fa 0 fc, f] w fun e w' => e = .returned (.bool false) ∧ w = w' := by
  go_enter Tryz.func125, Tryz.ntmps125
  go_wp2
  refine wp_loop_rounds 1 ?_
  rw [rounds_succ]
  go_wp2
  go_ret
  exact ⟨rfl, rfl⟩

theorem idx_r (h d : Nat) (w : World) (hc : w.cell? ⟨h, 0, none⟩ = some (.string strW)) :
    Calls Tryz.prog 121 #[.slice (some ⟨h, 0, none⟩) 1 d, .string ⟨#[124]⟩] w fun e w' => e = .returned (.int .i64 (-1)) ∧ w = w' := by
  refine (Tryz.slices_Index_string h 0 1 d [strW] ⟨#[124]⟩ w (by decide) (by decide) ?_).mono ?_
  · intro j hj
    obtain rfl : j = 0 := by simp at hj; exact hj
    exact hc
  · rintro e w' ⟨rfl, rfl⟩
    exact ⟨by kernel_rfl, rfl⟩

theorem infoStrs : (Tryz.prog.info? 82).map (fun i => (i.zero, i.size, i.bytes)) = some (some (.slice none 0 0), 1, 24) := by kernel_rfl

set_option maxHeartbeats 2000000 in
set_option maxRecDepth 100000 in
theorem read_r (p h d : Nat) (w : World) (hc : w.cell? ⟨h, 0, none⟩ = some (.string strW)) (hp : w.cell? ⟨p, 3, none⟩ = some (.bool false)) :
    Calls Tryz.prog 109 #[.pointer (some ⟨p, 0, none⟩), .slice (some ⟨h, 0, none⟩) 1 d] w fun e w' =>
      ∃ fa fc, e = .returned (.tuple #[.agg #[.slice (some ⟨h, 0, none⟩) 1 d, .slice fa 0 fc], .bool true]) ∧ Below w.heap.size w w' := by
  obtain ⟨i0, hi, hz0, hz1, hz2⟩ := info_parts infoStrs
  have hpl := cell_lt hp
  have hcl := cell_lt hc
  simp only at hpl hcl
  go_enter Tryz.func109, Tryz.ntmps109
  go_wp2_with fail
  refine wp_loop_rounds 1 ?_
  rw [rounds_succ]
  go_wp2_with fail
  refine (idx_r h d _ (cell_keep hc ((Below.refl _ _).alloc (Nat.le_refl _) _) (Nat.le_refl _))).mono ?_
  rintro e w1 ⟨rfl, rfl⟩
  go_wp2_with (at_builtin; refine wpList_append_own _ rfl _ _ 161 rfl w.heap.size 82 i0 _ 1 24 Tryz.underlying161 hi hz0 hz1 hz2 rfl (by decide) _ _ _ rfl (World.ownsRow_nil _ _ _ _) ⟨w.heap.size + 1, 0, none⟩ 1 1 [.slice (some ⟨h, 0, none⟩) 1 d] rfl rfl ?c1 ?c2 ?c3 ?c4 ?c5 ?_)
  case c1 =>
    have := one_alloc (w.alloc (.cells #[.slice none 0 0, .slice none 0 0] 163)) (.slice (some ⟨h, 0, none⟩) 1 d) 82
    simpa using this
  case c2 => intro u hu; simp at hu; subst hu; rfl
  case c3 => decide
  case c4 => decide
  case c5 => simp; omega
  intro v' w2 hown hgrow _
  obtain ⟨g, c, rfl, hg1, hg2, hcg⟩ := row_some hown (by decide)
  have cg : w2.cell? ⟨g, 0, none⟩ = some (.slice (some ⟨h, 0, none⟩) 1 d) := row_cells hown 0 _ rfl
  have hb0 : w2.heap[w.heap.size]? = some (.cells #[.slice none 0 0, .slice none 0 0] 163 (0, 0)) := by
    rw [hgrow.block _ (by simp; omega) (by simp [Value.ownBlock]), Lib.alloc_old _ _ _ (by simp)]
    exact heap_alloc_new w _
  have hB2 := (((Below.refl w.heap.size w).alloc (Nat.le_refl _) (.cells #[.slice none 0 0, .slice none 0 0] 163)).alloc (by simp) (.cells #[.slice (some ⟨h, 0, none⟩) 1 d] 82)).grown hgrow (by simp; omega) (by intro k hk; simp [Value.ownBlock] at hk)
  have e0 : w2.cell? ⟨w.heap.size, 0, none⟩ = some (.slice none 0 0) := by rw [Lib.cell_of_heap hb0]; rfl
  have e1 : w2.cell? ⟨w.heap.size, 1, none⟩ = some (.slice none 0 0) := by rw [Lib.cell_of_heap hb0]; rfl
  have f0 : w2.frozen? ⟨w.heap.size, 0, none⟩ = false := Lib.frozen_of_heap hb0 0
  have f1 : w2.frozen? ⟨w.heap.size, 1, none⟩ = false := Lib.frozen_of_heap hb0 1
  have hp2 := cell_keep hp hB2 (Nat.le_refl _)
  have hc2 := cell_keep hc hB2 (Nat.le_refl _)
  have hlt2 : w.heap.size < w2.heap.size := by
    rcases Nat.lt_or_ge w.heap.size w2.heap.size with h' | h'
    · exact h'
    · simp [Array.getElem?_eq_none h'] at hb0
  have HB2 := Lib.hid hB2
  have HK0 : Hid (∀ x : Value, (w2.setCell ⟨w.heap.size, 0, none⟩ x).cell? ⟨w.heap.size, 0, none⟩ = some x) := Lib.hid fun x => by rw [Lib.cell_of_heap (heap_set hb0 x)]; rfl
  have HK1 : Hid (∀ x y : Value, ((w2.setCell ⟨w.heap.size, 0, none⟩ x).setCell ⟨w.heap.size, 1, none⟩ y).cell? ⟨w.heap.size, 1, none⟩ = some y) := Lib.hid fun x y => by rw [Lib.cell_of_heap (heap_set (heap_set hb0 x) y)]; rfl
  clear hown hgrow hB2 hb0 hp hc
  have HA : Hid (∀ X, (w2.alloc X).cell? ⟨h, 0, none⟩ = some (.string strW)) := Lib.hid fun X => cell_keep hc2 ((Below.refl _ _).alloc (Nat.le_refl _) X) (Nat.le_refl _)
  have hp3 : p < w2.heap.size := by omega
  have hh3 : h < w2.heap.size := by omega
  go_wp2_with fail
  go_region
  generalize (if c = 1 then some (⟨g, 0, none⟩ : Addr) else some ⟨g, 1, none⟩) = fa
  generalize c - 1 = fc
  clear cg hg1 hg2 hcg
  go_wp2_with fail
  go_region_with (first | (go_at_call 124; refine (stands_r h d false _ (by exact HA.out _)).mono ?_; rintro e w1 ⟨rfl, rfl⟩) | (go_at_call 125; refine (contains0 _ _ _ _).mono ?_; rintro e w1 ⟨rfl, rfl⟩))
  all_goals
    go_wp2_with fail
    refine bodyPost_ret (v := .tuple #[.agg #[.slice (some ⟨h, 0, none⟩) 1 d, .slice fa 0 fc], .bool true]) (by simp [results, Tryz.results109, go_sem, hlt2, HK0.out, HK1.out]) rfl ⟨fa, fc, rfl, ?_⟩
    exact ((((HB2.out.setCell (p := ⟨w.heap.size, 0, none⟩) (Nat.le_refl _) _).setCell (p := ⟨w.heap.size, 1, none⟩) (Nat.le_refl _) _).alloc (by simp [World.setCell]; omega) _).drew).drew

end Go.Proofs.YthpdpnegbkmbkaaGreatDoor
