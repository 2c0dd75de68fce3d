/- The closed case of payload's statements: Parse and Render of two texts. -/
import Derived.Test.YthpdpnegbkmbkaaGreatDoorAwq
set_option linter.unusedVariables false
set_option linter.unusedSimpArgs false
namespace Go.Proofs.YthpdpnegbkmbkaaGreatDoor
open Go.RowKit

/-- A template of one node. -/
structure Tpl (t : Nat) (node : Value) (w : World) : Prop where
  ex : ∃ n k, w.cell? ⟨t, 0, none⟩ = some (.slice (some ⟨n, 0, none⟩) 1 k) ∧ w.cell? ⟨n, 0, none⟩ = some node ∧ n < w.heap.size
  lt : t < w.heap.size

theorem tpl_new {b n k : Nat} {toks node : Value} {w W : World} {nq : Nat} (h : End1 b toks node n w W) : Tpl W.heap.size node ((W.drewN nq).alloc (.cells #[.slice (some ⟨n, 0, none⟩) 1 k] 121)) := by
  have hN : ((W.drewN nq).alloc (.cells #[.slice (some ⟨n, 0, none⟩) 1 k] 121)).heap[W.heap.size]? = some (.cells #[.slice (some ⟨n, 0, none⟩) 1 k] 121 (0, 0)) := heap_alloc_new (W.drewN nq) _
  have hl := h.lt
  refine ⟨⟨n, k, (Lib.cell_of_heap hN 0).trans rfl, ?_, by simp; omega⟩, by simp⟩
  exact cell_keep (w := W.drewN nq) h.cell ((Below.refl _ _).alloc (Nat.le_refl _) _) (Nat.le_refl _)

theorem par_new (w : World) (toks : Value) : Par w.heap.size toks 0 0 false (-1) (w.alloc (.cells #[toks, .int .i64 0, .int .i64 0, .bool false, .int .i64 (-1)] 117)) := heap_alloc_new w _

set_option maxHeartbeats 2000000 in
set_option maxRecDepth 100000 in
theorem parse_a (w : World) (hm : Mx w) : Calls Tryz.prog 58 #[.string strA] w fun e w' =>
    ∃ t, e = .returned (.tuple #[.pointer (some ⟨t, 0, none⟩), .int .i64 0, .int .i64 0]) ∧ Tpl t (.iface 157 (.string strA)) w' ∧ Below w.heap.size w w' := by
  have HM := Lib.hid hm
  clear hm
  go_enter Tryz.func58, Tryz.ntmps58
  go_wp2_with fail
  refine (tsplit_a _ HM.out).mono ?_
  rintro e w1 ⟨g, c, rfl, hT, hb1, hg1, hg2⟩
  have HT := Lib.hid hT
  have HB1 := Lib.hid hb1
  have sz1 := hb1.size
  clear hT hb1
  go_wp2_with fail
  refine (nodes_a w1.heap.size g c _ (by exact par_new w1 _) ?_ (by omega)).mono ?_
  · exact HT.out.below ((Below.refl _ _).alloc (Nat.le_refl _) _) hg2
  rintro e w2 ⟨n, k, rfl, hE⟩
  have q0 : w2.cell? ⟨w1.heap.size, 0, none⟩ = some (.slice (some ⟨g, 0, none⟩) 1 c) := by rw [Lib.cell_of_heap hE.par]; rfl
  have q1 : w2.cell? ⟨w1.heap.size, 1, none⟩ = some (.int .i64 1) := by rw [Lib.cell_of_heap hE.par]; rfl
  have q4 : w2.cell? ⟨w1.heap.size, 4, none⟩ = some (.int .i64 (-1)) := by rw [Lib.cell_of_heap hE.par]; rfl
  have HE := Lib.hid hE
  clear hE
  go_wp2_with fail
  go_quiet (fail)
  go_wp2_with fail
  go_ret3
  exact ⟨w2.heap.size, rfl, tpl_new HE.out, (((HB1.out.alloc (by omega) _).trans (HE.out.below.mono (by omega))).trans (below_drewN (Below.refl _ _) _)).alloc (by have := HE.out.size; simp at this; simp; omega) _⟩
set_option maxHeartbeats 2000000 in
set_option maxRecDepth 100000 in
theorem parse_r (w : World) (hm : Mx w) : Calls Tryz.prog 58 #[.string strR] w fun e w' =>
    ∃ t h d fa fc, e = .returned (.tuple #[.pointer (some ⟨t, 0, none⟩), .int .i64 0, .int .i64 0]) ∧ Tpl t (.iface 163 (.agg #[.slice (some ⟨h, 0, none⟩) 1 d, .slice fa 0 fc])) w' ∧ w'.cell? ⟨h, 0, none⟩ = some (.string strW) ∧ Below w.heap.size w w' := by
  have HM := Lib.hid hm
  clear hm
  go_enter Tryz.func58, Tryz.ntmps58
  go_wp2_with fail
  refine (tsplit_r _ HM.out).mono ?_
  rintro e w1 ⟨g, c, h, d, rfl, hT, hc1, hb1, hg1, hg2, hh1, hh2, hcc, hdd⟩
  have HT := Lib.hid hT
  have HB1 := Lib.hid hb1
  have sz1 := hb1.size
  have HC1 := Lib.hid (fun X => cell_keep hc1 ((Below.refl _ w1).alloc (Nat.le_refl _) X) (Nat.le_refl _))
  clear hT hb1 hc1 hcc hdd
  go_wp2_with fail
  refine (nodes_r w1.heap.size g c h d _ (by exact par_new w1 _) ?_ (by exact HC1.out _) (by omega) (by omega)).mono ?_
  · exact HT.out.below ((Below.refl _ _).alloc (Nat.le_refl _) _) hg2
  rintro e w2 ⟨n, k, fa, fc, rfl, hE, hc2⟩
  have q0 : w2.cell? ⟨w1.heap.size, 0, none⟩ = some (.slice (some ⟨g, 0, none⟩) 1 c) := by rw [Lib.cell_of_heap hE.par]; rfl
  have q1 : w2.cell? ⟨w1.heap.size, 1, none⟩ = some (.int .i64 1) := by rw [Lib.cell_of_heap hE.par]; rfl
  have q4 : w2.cell? ⟨w1.heap.size, 4, none⟩ = some (.int .i64 (-1)) := by rw [Lib.cell_of_heap hE.par]; rfl
  have HE := Lib.hid hE
  have HC2 := Lib.hid hc2
  clear hE hc2
  go_wp2_with fail
  go_quiet (fail)
  go_wp2_with fail
  go_ret3
  exact ⟨w2.heap.size, h, d, fa, fc, rfl, tpl_new HE.out, cell_keep (w := w2.drewN _) HC2.out ((Below.refl _ _).alloc (Nat.le_refl _) _) (Nat.le_refl _), (((HB1.out.alloc (by omega) _).trans (HE.out.below.mono (by omega))).trans (below_drewN (Below.refl _ _) _)).alloc (by have := HE.out.size; simp at this; simp; omega) _⟩

end Go.Proofs.YthpdpnegbkmbkaaGreatDoor
