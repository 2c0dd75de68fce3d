/- The closed case of payload's statements: the rendering of two texts, and the chat's text. -/
import Derived.Test.YthpdpnegbkmbkaaGreatDoorAws
set_option linter.unusedVariables false
set_option linter.unusedSimpArgs false
namespace Go.Proofs.YthpdpnegbkmbkaaGreatDoor
open Go.RowKit

set_option maxHeartbeats 1000000 in
set_option maxRecDepth 100000 in
theorem value_r (b h d : Nat) (fa : Option Addr) (fc : Nat) (w : World) (hc : w.cell? ⟨h, 0, none⟩ = some (.string strW)) (hb : w.cell? ⟨b, 0, none⟩ = some (.string stre)) :
    Calls Tryz.prog 114 #[.pointer (some ⟨b, 0, none⟩), .agg #[.slice (some ⟨h, 0, none⟩) 1 d, .slice fa 0 fc]] w fun e w' => e = .returned (.tuple #[.string stre, .int .i64 0]) ∧ Below w.heap.size w w' := by
  have hbl := cell_lt hb
  have hhl := cell_lt hc
  simp only at hbl hhl
  go_enter Tryz.func114, Tryz.ntmps114
  go_wp2_with fail
  refine wp_loop_rounds 1 ?_
  rw [rounds_succ]
  go_wp2_with fail
  go_ret2
  exact ⟨rfl, (Below.refl _ _).alloc (Nat.le_refl _) _⟩

theorem Run.lt {B b : Nat} {l : List UInt8} {w : World} (h : Run B b l w) : b < w.heap.size := by
  obtain ⟨cs, hs, h0, h⟩ := h
  obtain ⟨p, h⟩ := h.any
  exact h.lt
theorem Bd.below {B b o : Nat} {T : TypeId} {cs : Array Value} {l : List Value} {w w' : World} (h : Bd B b o T cs l w) (hb : Below w.heap.size w w') : Bd B b o T cs l w' := by
  have go : ∀ p, BdA B b o T cs p l w → BdA B b o T cs p l w' := by
    rintro p hA
    have hlt := hA.lt
    obtain ⟨hB, hT2, hbk, h0, u, h1, hown⟩ := hA
    refine ⟨hB, hT2, (hb.block b hlt).trans hbk, h0, u, h1, ?_⟩
    exact hown.kept (row := none) ⟨hb.os, hb.tape, hb.output, hb.size, fun k hk _ => hb.block k hk⟩ (by cases hv : u.ownBlock with | none => exact .inl rfl | some x => exact .inr (by simp))
  rcases h with h | h
  · exact .inl (go _ h)
  · exact .inr (go _ h)
theorem Run.below {B b : Nat} {l : List UInt8} {w w' : World} (h : Run B b l w) (hb : Below w.heap.size w w') : Run B b l w' := by
  obtain ⟨cs, hs, h0, h⟩ := h
  exact ⟨cs, hs, h0, h.below hb⟩

set_option maxHeartbeats 1000000 in
set_option maxRecDepth 100000 in
theorem rone_a (B b : Nat) (w : World) (h : Run B b [] w) (hBw : B ≤ w.heap.size) :
    Calls Tryz.prog 93 #[.pointer (some ⟨b, 0, none⟩), .iface 157 (.string strA)] w fun e w' => e = .returned (.int .i64 0) ∧ Run B b [97, 60, 98] w' ∧ Below B w w' := by
  have H := Lib.hid h
  clear h
  have ta : ∀ w, (Instr.typeAssert (.iface 157 (.string strA)) 146 157 true).run Tryz.prog w = .ok (.tuple #[.string strA, .bool true]) w := fun _ => by kernel_rfl
  go_enter Tryz.func93, Tryz.ntmps93
  go_wp2_with fail
  refine (say_any B b [] strA _ H.out (by decide) hBw).mono ?_
  rintro e w1 ⟨rfl, h1, b1⟩
  have H1 := Lib.hid h1
  have HB := Lib.hid b1
  clear h1 b1
  go_wp2_with fail
  go_ret
  exact ⟨rfl, H1.out, HB.out⟩

set_option maxHeartbeats 1000000 in
set_option maxRecDepth 100000 in
theorem rone_r (B b h d : Nat) (fa : Option Addr) (fc : Nat) (w : World) (hR : Run B b [] w) (hc : w.cell? ⟨h, 0, none⟩ = some (.string strW)) (hBw : B ≤ w.heap.size) :
    Calls Tryz.prog 93 #[.pointer (some ⟨b, 0, none⟩), .iface 163 (.agg #[.slice (some ⟨h, 0, none⟩) 1 d, .slice fa 0 fc])] w fun e w' => e = .returned (.int .i64 0) ∧ Run B b [114] w' ∧ Below B w w' := by
  have HN := Lib.hid (fun X => hR.below ((Below.refl _ w).alloc (Nat.le_refl _) X))
  have HC := Lib.hid (fun X => cell_keep hc ((Below.refl _ w).alloc (Nat.le_refl _) X) (Nat.le_refl _))
  clear hR hc
  have ta : ∀ w, (Instr.typeAssert (.iface 163 (.agg #[.slice (some ⟨h, 0, none⟩) 1 d, .slice fa 0 fc])) 146 157 true).run Tryz.prog w = .ok (.tuple #[.string ⟨#[]⟩, .bool false]) w := fun _ => by kernel_rfl
  have tb : ∀ w, (Instr.typeAssert (.iface 163 (.agg #[.slice (some ⟨h, 0, none⟩) 1 d, .slice fa 0 fc])) 146 163 true).run Tryz.prog w = .ok (.tuple #[.agg #[.slice (some ⟨h, 0, none⟩) 1 d, .slice fa 0 fc], .bool true]) w := fun _ => by kernel_rfl
  go_enter Tryz.func93, Tryz.ntmps93
  go_wp2_with fail
  refine (value_r b h d fa fc _ (by exact HC.out _) (by exact (HN.out _).cell)).mono ?_
  rintro e w1 ⟨rfl, b1⟩
  have H1 := Lib.hid ((HN.out _).below b1)
  have HB1 := Lib.hid (((Below.refl B w).alloc hBw _).trans (b1.mono (by simp; omega)))
  have sz := HB1.out.size
  clear b1
  go_wp2_with fail
  refine (say_any B b [] stre _ H1.out (by decide) (by omega)).mono ?_
  rintro e w2 ⟨rfl, h2, b2⟩
  have H2 := Lib.hid h2
  have HB2 := Lib.hid (HB1.out.trans b2)
  clear h2 b2
  go_wp2_with fail
  go_ret
  exact ⟨rfl, H2.out, HB2.out⟩

set_option maxHeartbeats 1000000 in
set_option maxRecDepth 100000 in
theorem rnodes_a (B b n k : Nat) (w : World) (h : Run B b [] w) (hn : w.cell? ⟨n, 0, none⟩ = some (.iface 157 (.string strA))) (hBw : B ≤ w.heap.size) :
    Calls Tryz.prog 78 #[.pointer (some ⟨b, 0, none⟩), .slice (some ⟨n, 0, none⟩) 1 k] w fun e w' => e = .returned (.int .i64 0) ∧ Run B b [97, 60, 98] w' ∧ Below B w w' := by
  have H := Lib.hid h
  clear h
  go_enter Tryz.func78, Tryz.ntmps78
  go_wp2_with fail
  refine wp_loop_rounds 2 ?_
  rw [rounds_succ]
  go_wp2_with fail
  refine (rone_a B b _ H.out hBw).mono ?_
  rintro e w1 ⟨rfl, h1, b1⟩
  have H1 := Lib.hid h1
  have HB := Lib.hid b1
  clear h1 b1
  go_wp2_with fail
  rw [rounds_succ]
  go_wp2_with fail
  go_ret
  exact ⟨rfl, H1.out, HB.out⟩

set_option maxHeartbeats 1000000 in
set_option maxRecDepth 100000 in
theorem rnodes_r (B b n k h d : Nat) (fa : Option Addr) (fc : Nat) (w : World) (hR : Run B b [] w) (hn : w.cell? ⟨n, 0, none⟩ = some (.iface 163 (.agg #[.slice (some ⟨h, 0, none⟩) 1 d, .slice fa 0 fc]))) (hc : w.cell? ⟨h, 0, none⟩ = some (.string strW)) (hBw : B ≤ w.heap.size) :
    Calls Tryz.prog 78 #[.pointer (some ⟨b, 0, none⟩), .slice (some ⟨n, 0, none⟩) 1 k] w fun e w' => e = .returned (.int .i64 0) ∧ Run B b [114] w' ∧ Below B w w' := by
  have H := Lib.hid hR
  have HC := Lib.hid hc
  clear hR hc
  go_enter Tryz.func78, Tryz.ntmps78
  go_wp2_with fail
  refine wp_loop_rounds 2 ?_
  rw [rounds_succ]
  go_wp2_with fail
  refine (rone_r B b h d fa fc _ H.out HC.out hBw).mono ?_
  rintro e w1 ⟨rfl, h1, b1⟩
  have H1 := Lib.hid h1
  have HB := Lib.hid b1
  clear h1 b1
  go_wp2_with fail
  rw [rounds_succ]
  go_wp2_with fail
  go_ret
  exact ⟨rfl, H1.out, HB.out⟩

theorem msg_kept {w w1 : World} (b1 : Below (w.alloc (.cells #[.string stre, .string ⟨#[]⟩, .slice none 0 0, .slice none 0 0, .slice none 0 0] 25)).heap.size (w.alloc (.cells #[.string stre, .string ⟨#[]⟩, .slice none 0 0, .slice none 0 0, .slice none 0 0] 25)) w1) :
    w1.cell? ⟨w.heap.size, 0, none⟩ = some (.string stre) ∧ w1.cell? ⟨w.heap.size, 1, none⟩ = some (.string ⟨#[]⟩) ∧ w1.cell? ⟨w.heap.size, 2, none⟩ = some (.slice none 0 0) ∧ w1.cell? ⟨w.heap.size, 3, none⟩ = some (.slice none 0 0) ∧ w1.cell? ⟨w.heap.size, 4, none⟩ = some (.slice none 0 0) := by
  have hN := (b1.block w.heap.size (by simp)).trans (heap_alloc_new w (.cells #[.string stre, .string ⟨#[]⟩, .slice none 0 0, .slice none 0 0, .slice none 0 0] 25))
  exact ⟨(Lib.cell_of_heap hN 0).trans rfl, (Lib.cell_of_heap hN 1).trans rfl, (Lib.cell_of_heap hN 2).trans rfl, (Lib.cell_of_heap hN 3).trans rfl, (Lib.cell_of_heap hN 4).trans rfl⟩

theorem run_new (w : World) : Run w.heap.size w.heap.size [] (w.alloc (.cells #[.string stre, .string ⟨#[]⟩, .slice none 0 0, .slice none 0 0, .slice none 0 0, .pointer none, .slice none 0 0, .slice none 0 0, .int .i64 0] 125)) :=
  ⟨_, rfl, rfl, .inl ⟨Nat.le_refl _, neRun, heap_alloc_new w _, rfl, _, rfl, World.ownsRow_nil _ _ _ _⟩⟩
theorem run_get (B b : Nat) (l : List UInt8) (w : World) (h : Run B b l w) (hBw : B ≤ w.heap.size) :
    Calls Tryz.prog 35 #[.pointer (some ⟨b, 5, none⟩)] w fun e w' => e = .returned (.string ⟨l.toArray⟩) ∧ Below B w w' := by
  obtain ⟨cs, hs, h0, h⟩ := h
  obtain ⟨p, h⟩ := h.any
  exact builderString_any B b 5 _ cs p l w h hBw

set_option maxHeartbeats 2000000 in
set_option maxRecDepth 100000 in
theorem trender_a (t : Nat) (w : World) (hT : Tpl t (.iface 157 (.string strA)) w) :
    Calls Tryz.prog 59 #[.pointer (some ⟨t, 0, none⟩), Msg] w fun e w' => e = .returned (.tuple #[.string strA, .int .i64 0]) ∧ Below w.heap.size w w' := by
  obtain ⟨⟨n, k, ct, cn, hn⟩, ht⟩ := hT
  go_enter Tryz.func59, Tryz.ntmps59
  go_wp2_with fail
  refine (tcheck0 _).mono ?_
  rintro e w1 ⟨rfl, b1⟩
  obtain ⟨m0, m1, m2, m3, m4⟩ := msg_kept b1
  have HB1 := Lib.hid (((Below.refl w.heap.size w).alloc (Nat.le_refl _) _).trans (b1.mono (by simp)))
  have sz1 := b1.size
  simp at sz1
  replace ct := cell_keep ct HB1.out (Nat.le_refl _)
  have HN := Lib.hid (fun X => cell_keep (cell_keep cn HB1.out (Nat.le_refl _)) ((Below.refl _ w1).alloc (Nat.le_refl _) X) (Nat.le_refl _))
  have ht1 : t < w1.heap.size := by omega
  clear b1 cn
  go_wp2_with fail
  refine (rnodes_a w1.heap.size w1.heap.size n k _ (by exact run_new w1) (by exact HN.out _) (by simp)).mono ?_
  rintro e w2 ⟨rfl, hR, b2⟩
  have HR := Lib.hid hR
  have HB2 := Lib.hid ((HB1.out.alloc (by omega) _).trans (b2.mono (by omega)))
  have sz2 := HB2.out.size
  have sz3 := b2.size
  simp at sz3
  clear hR b2
  go_wp2_with fail
  refine (run_get _ _ _ _ HR.out (by omega)).mono ?_
  rintro e w3 ⟨rfl, b3⟩
  have HB3 := Lib.hid (HB2.out.trans (b3.mono (by omega)))
  clear b3
  go_wp2_with fail
  go_ret2
  exact ⟨rfl, HB3.out⟩
set_option maxHeartbeats 2000000 in
set_option maxRecDepth 100000 in
theorem trender_r (t h d : Nat) (fa : Option Addr) (fc : Nat) (w : World) (hT : Tpl t (.iface 163 (.agg #[.slice (some ⟨h, 0, none⟩) 1 d, .slice fa 0 fc])) w) (hc : w.cell? ⟨h, 0, none⟩ = some (.string strW)) :
    Calls Tryz.prog 59 #[.pointer (some ⟨t, 0, none⟩), Msg] w fun e w' => e = .returned (.tuple #[.string stre, .int .i64 0]) ∧ Below w.heap.size w w' := by
  obtain ⟨⟨n, k, ct, cn, hn⟩, ht⟩ := hT
  go_enter Tryz.func59, Tryz.ntmps59
  go_wp2_with fail
  refine (tcheck0 _).mono ?_
  rintro e w1 ⟨rfl, b1⟩
  obtain ⟨m0, m1, m2, m3, m4⟩ := msg_kept b1
  have HB1 := Lib.hid (((Below.refl w.heap.size w).alloc (Nat.le_refl _) _).trans (b1.mono (by simp)))
  have sz1 := b1.size
  simp at sz1
  replace ct := cell_keep ct HB1.out (Nat.le_refl _)
  have HN := Lib.hid (fun X => cell_keep (cell_keep cn HB1.out (Nat.le_refl _)) ((Below.refl _ w1).alloc (Nat.le_refl _) X) (Nat.le_refl _))
  have HH := Lib.hid (fun X => cell_keep (cell_keep hc HB1.out (Nat.le_refl _)) ((Below.refl _ w1).alloc (Nat.le_refl _) X) (Nat.le_refl _))
  have ht1 : t < w1.heap.size := by omega
  clear b1 cn hc
  go_wp2_with fail
  refine (rnodes_r w1.heap.size w1.heap.size n k h d fa fc _ (by exact run_new w1) (by exact HN.out _) (by exact HH.out _) (by simp)).mono ?_
  rintro e w2 ⟨rfl, hR, b2⟩
  have HR := Lib.hid hR
  have HB2 := Lib.hid ((HB1.out.alloc (by omega) _).trans (b2.mono (by omega)))
  have sz2 := HB2.out.size
  have sz3 := b2.size
  simp at sz3
  clear hR b2
  go_wp2_with fail
  refine (run_get _ _ _ _ HR.out (by omega)).mono ?_
  rintro e w3 ⟨rfl, b3⟩
  have HB3 := Lib.hid (HB2.out.trans (b3.mono (by omega)))
  clear b3
  go_wp2_with fail
  go_ret2
  exact ⟨rfl, HB3.out⟩

set_option maxHeartbeats 2000000 in
set_option maxRecDepth 100000 in
theorem render_a (w : World) (hm : Mx w) :
    Calls Tryz.prog 48 #[.string strA, Msg] w fun e w' => e = .returned (.tuple #[.string strA, .int .i64 0]) ∧ Below w.heap.size w w' := by
  have HM := Lib.hid (fun X => hm.below ((Below.refl _ w).alloc (Nat.le_refl _) X) (Nat.le_refl _))
  clear hm
  go_enter Tryz.func48, Tryz.ntmps48
  go_wp2_with fail
  refine (parse_a _ (by exact HM.out _)).mono ?_
  rintro e w1 ⟨t, rfl, hT, b1⟩
  obtain ⟨m0, m1, m2, m3, m4⟩ := msg_kept b1
  have HT := Lib.hid hT
  have HB1 := Lib.hid (((Below.refl w.heap.size w).alloc (Nat.le_refl _) _).trans (b1.mono (by simp)))
  have sz1 := HB1.out.size
  clear b1 hT
  go_wp2_with fail
  refine (trender_a t _ HT.out).mono ?_
  rintro e w2 ⟨rfl, b2⟩
  have HB2 := Lib.hid (HB1.out.trans (b2.mono sz1))
  clear b2
  go_wp2_with fail
  go_ret2
  exact ⟨rfl, HB2.out⟩

set_option maxHeartbeats 2000000 in
set_option maxRecDepth 100000 in
theorem render_r (w : World) (hm : Mx w) :
    Calls Tryz.prog 48 #[.string strR, Msg] w fun e w' => e = .returned (.tuple #[.string stre, .int .i64 0]) ∧ Below w.heap.size w w' := by
  have HM := Lib.hid (fun X => hm.below ((Below.refl _ w).alloc (Nat.le_refl _) X) (Nat.le_refl _))
  clear hm
  go_enter Tryz.func48, Tryz.ntmps48
  go_wp2_with fail
  refine (parse_r _ (by exact HM.out _)).mono ?_
  rintro e w1 ⟨t, h, d, fa, fc, rfl, hT, hc, b1⟩
  obtain ⟨m0, m1, m2, m3, m4⟩ := msg_kept b1
  have HT := Lib.hid hT
  have HC := Lib.hid hc
  have HB1 := Lib.hid (((Below.refl w.heap.size w).alloc (Nat.le_refl _) _).trans (b1.mono (by simp)))
  have sz1 := HB1.out.size
  clear b1 hT hc
  go_wp2_with fail
  refine (trender_r t h d fa fc _ HT.out HC.out).mono ?_
  rintro e w2 ⟨rfl, b2⟩
  have HB2 := Lib.hid (HB1.out.trans (b2.mono sz1))
  clear b2
  go_wp2_with fail
  go_ret2
  exact ⟨rfl, HB2.out⟩

abbrev Shp : Value := .agg #[.int .u8 1, .string strR, .string strA]

set_option maxHeartbeats 2000000 in
set_option maxRecDepth 100000 in
theorem pcheck0 (w : World) (hm : Mx w) :
    Calls Tryz.prog 47 #[Shp] w fun e w' => e = .returned (.int .i64 0) ∧ Below w.heap.size w w' := by
  have HM := Lib.hid (fun X => hm.below ((Below.refl _ w).alloc (Nat.le_refl _) X) (Nat.le_refl _))
  clear hm
  have i0 : ∀ w, (Instr.index 91 (.agg #[.string strR, .string strA]) (.int .i64 0)).run Tryz.prog w = .ok (.string strR) w := fun _ => by kernel_rfl
  have i1 : ∀ w, (Instr.index 91 (.agg #[.string strR, .string strA]) (.int .i64 1)).run Tryz.prog w = .ok (.string strA) w := fun _ => by kernel_rfl
  go_enter Tryz.func47, Tryz.ntmps47
  go_wp2_with fail
  refine wp_loop_rounds 3 ?_
  rw [rounds_succ]
  go_wp2_with fail
  refine (parse_r _ (by exact HM.out _)).mono ?_
  rintro e w1 ⟨t, h, d, fa, fc, rfl, hT, hc, b1⟩
  have HB1 := Lib.hid (((Below.refl w.heap.size w).alloc (Nat.le_refl _) _).trans (b1.mono (by simp)))
  have HM1 := Lib.hid ((HM.out _).below b1 (Nat.le_refl _))
  have sz1 := HB1.out.size
  clear b1 hT hc
  go_wp2_with fail
  rw [rounds_succ]
  go_wp2_with fail
  refine (parse_a _ (by exact HM1.out)).mono ?_
  rintro e w2 ⟨t2, rfl, hT, b2⟩
  have HB2 := Lib.hid (HB1.out.trans (b2.mono sz1))
  clear b2 hT
  go_wp2_with fail
  rw [rounds_succ]
  go_wp2_with fail
  go_ret
  exact ⟨rfl, HB2.out⟩

end Go.Proofs.YthpdpnegbkmbkaaGreatDoor
