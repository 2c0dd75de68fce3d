/- The closed case of payload's statements: the template's parser: one token, all, Parse. -/
import Derived.Test.YthpdpnegbkmbkaaGreatDoorAwp
set_option linter.unusedVariables false
set_option linter.unusedSimpArgs false
namespace Go.Proofs.YthpdpnegbkmbkaaGreatDoor
open Go.RowKit

theorem Tok.below {g : Nat} {s : ByteArray} {words : Value} {w w' : World} {B : Nat} (h : Tok g s words w) (hb : Below B w w') (hg : g < B) : Tok g s words w' :=
  ⟨(hb.cell (p := ⟨g, 0, none⟩) hg).trans h.1, (hb.cell (p := ⟨g, 1, none⟩) hg).trans h.2.1, (hb.cell (p := ⟨g, 2, none⟩) hg).trans h.2.2⟩

set_option maxHeartbeats 2000000 in
set_option maxRecDepth 100000 in
theorem one_a (p : Value) (i : Int) (w : World) :
    Calls Tryz.prog 90 #[p, .agg #[.string strA, .slice none 0 0, .int .i64 0], .int .i64 i] w fun e w' =>
      e = .returned (.tuple #[.iface 157 (.string strA), .bool true]) ∧ Below w.heap.size w w' := by
  go_enter Tryz.func90, Tryz.ntmps90
  go_wp2_with fail
  go_ret2
  exact ⟨rfl, (Below.refl _ _).alloc (Nat.le_refl _) _⟩

set_option maxHeartbeats 2000000 in
set_option maxRecDepth 100000 in
theorem one_r (p h d : Nat) (i : Int) (w : World) (hc : w.cell? ⟨h, 0, none⟩ = some (.string strW)) (hp : w.cell? ⟨p, 3, none⟩ = some (.bool false)) :
    Calls Tryz.prog 90 #[.pointer (some ⟨p, 0, none⟩), .agg #[.string ⟨#[]⟩, .slice (some ⟨h, 0, none⟩) 1 d, .int .i64 0], .int .i64 i] w fun e w' =>
      ∃ fa fc, e = .returned (.tuple #[.iface 163 (.agg #[.slice (some ⟨h, 0, none⟩) 1 d, .slice fa 0 fc]), .bool true]) ∧ Below w.heap.size w w' := by
  have hpl := cell_lt hp
  have hcl := cell_lt hc
  simp only at hpl hcl
  have HC := Lib.hid (fun X => cell_keep hc ((Below.refl _ w).alloc (Nat.le_refl _) X) (Nat.le_refl _))
  have HP := Lib.hid (fun X => cell_keep hp ((Below.refl _ w).alloc (Nat.le_refl _) X) (Nat.le_refl _))
  go_enter Tryz.func90, Tryz.ntmps90
  go_wp2_with fail
  refine (read_r p h d _ (by exact HC.out _) (by exact HP.out _)).mono ?_
  rintro e w1 ⟨fa, fc, rfl, b1⟩
  have HB := Lib.hid (((Below.refl w.heap.size w).alloc (Nat.le_refl _) _).trans (b1.mono (by simp)))
  have sz1 := b1.size
  clear b1
  go_wp2_with fail
  go_ret2
  exact ⟨fa, fc, rfl, HB.out.alloc (by simp at sz1; omega) _⟩

theorem infoNode : (Tryz.prog.info? 146).map (fun i => (i.zero, i.size, i.bytes)) = some (some .nilIface, 1, 16) := by kernel_rfl

/-- The parser's five cells. -/
def Par (b : Nat) (toks : Value) (at_ deep : Int) (within : Bool) (wrong : Int) (w : World) : Prop := w.heap[b]? = some (.cells #[toks, .int .i64 at_, .int .i64 deep, .bool within, .int .i64 wrong] 117 (0, 0))

/-- What the parser's head of a round leaves. -/
structure Mid (b N : Nat) (toks : Value) (s : ByteArray) (words : Value) (w W : World) : Prop where
  par : Par b toks 1 0 false (-1) W
  tok : Tok N s words W
  lt : N < W.heap.size
  ge : w.heap.size ≤ N
  rest : ∀ k, k < w.heap.size → k ≠ b → W.heap[k]? = w.heap[k]?
  below : Below b w W
theorem mid_of {b : Nat} {toks : Value} {s : ByteArray} {words : Value} {w wq : World} (hq : wq.heap = w.heap) (hqb : Below w.heap.size w wq) (hP : Par b toks 0 0 false (-1) w) :
    Mid b wq.heap.size toks s words w ((wq.setCell ⟨b, 1, none⟩ (.int .i64 1)).alloc (.cells #[.string s, words, .int .i64 0] 144)).drew := by
  have hlt : b < w.heap.size := by
    rcases Nat.lt_or_ge b w.heap.size with h' | h'
    · exact h'
    · simp [Par, Array.getElem?_eq_none h'] at hP
  have hP' : Par b toks 0 0 false (-1) wq := by unfold Par; rw [hq]; exact hP
  have hsz : (wq.setCell ⟨b, 1, none⟩ (.int .i64 1)).heap.size = wq.heap.size := by simp [World.setCell]
  have hs2 : wq.heap.size = w.heap.size := by rw [hq]
  have hN := heap_alloc_new (wq.setCell ⟨b, 1, none⟩ (.int .i64 1)) (.cells #[.string s, words, .int .i64 0] 144)
  rw [hsz] at hN
  refine ⟨?_, ⟨?_, ?_, ?_⟩, ?_, by omega, ?_, ?_⟩
  · have := heap_set (o := 1) hP' (.int .i64 1)
    have h2 := (Below.heap_alloc (wq.setCell ⟨b, 1, none⟩ (.int .i64 1)) (.cells #[.string s, words, .int .i64 0] 144) b (by rw [hsz]; omega)).trans this
    exact h2
  · exact (Lib.cell_of_heap hN 0).trans rfl
  · exact (Lib.cell_of_heap hN 1).trans rfl
  · exact (Lib.cell_of_heap hN 2).trans rfl
  · show wq.heap.size < ((wq.setCell ⟨b, 1, none⟩ (.int .i64 1)).alloc _).heap.size
    simp [World.setCell]
  · intro k hk hne
    show ((wq.setCell ⟨b, 1, none⟩ (.int .i64 1)).alloc _).heap[k]? = _
    rw [Below.heap_alloc _ _ _ (by rw [hsz]; omega), Below.heap_setCell _ _ _ _ hne, hq]
  · exact ((((hqb.mono (B' := b) (Nat.le_of_lt hlt)).setCell (p := ⟨b, 1, none⟩) (Nat.le_refl _) _).alloc (by rw [hsz, hs2]; exact Nat.le_of_lt hlt) _)).drew

/-- What the whole of a round leaves: one node more. -/
structure End1 (b : Nat) (toks : Value) (node : Value) (n : Nat) (w W : World) : Prop where
  cell : W.cell? ⟨n, 0, none⟩ = some node
  ge : w.heap.size ≤ n
  lt : n < W.heap.size
  par : Par b toks 1 0 false (-1) W
  rest : ∀ k, k < w.heap.size → k ≠ b → W.heap[k]? = w.heap[k]?
  below : Below b w W
  size : w.heap.size ≤ W.heap.size
theorem end_of {b N n k : Nat} {toks node : Value} {s : ByteArray} {words : Value} {w W3 w1 w2 : World} (hF : Mid b N toks s words w W3) (hb1 : Below W3.heap.size W3 w1) (hbl : b < w.heap.size)
    (hown : w2.ownsRow w1.heap.size 146 1 (.slice (some ⟨n, 0, none⟩) 1 k) 1 [node]) (hgrow : (w1.alloc (.cells #[node] 146)).grownBy w2 none) (hn : w1.heap.size ≤ n) (hn2 : n < w2.heap.size) : End1 b toks node n w w2 := by
  have s1 := hb1.size
  have s2 := hgrow.size
  simp at s2
  have sF := hF.lt
  have gF := hF.ge
  have hb2 : Below w1.heap.size w1 w2 := (((Below.refl w1.heap.size w1).alloc (Nat.le_refl _) _).grown hgrow (by simp) (by intro k hk; cases hk))
  have hbW : b < W3.heap.size := by omega
  refine ⟨row_cells hown 0 _ rfl, by omega, hn2, ?_, ?_, ?_, by omega⟩
  · exact ((hb2.block b (by omega)).trans (hb1.block b hbW)).trans hF.par
  · intro k hk hne
    exact ((hb2.block k (by omega)).trans (hb1.block k (by omega))).trans (hF.rest k hk hne)
  · exact (hF.below.trans (hb1.mono (by omega))).trans (hb2.mono (by omega))

theorem one_cell (x : Value) (h : x.oneCell' = true) : ∀ u ∈ [x], u.oneCell' = true := by
  intro u hu
  rw [List.mem_singleton.1 hu]
  exact h
theorem End1.draws {b : Nat} {toks node : Value} {n : Nat} {w W : World} (h : End1 b toks node n w W) (m : Nat) : End1 b toks node n w (W.drewN m) :=
  ⟨h.cell, h.ge, h.lt, h.par, h.rest, below_drewN h.below m, h.size⟩

set_option maxHeartbeats 2000000 in
set_option maxRecDepth 100000 in
theorem nodes_a (b g c : Nat) (w : World) (hP : Par b (.slice (some ⟨g, 0, none⟩) 1 c) 0 0 false (-1) w) (hT : Tok g strA (.slice none 0 0) w) (hbg : b ≠ g) :
    Calls Tryz.prog 75 #[.pointer (some ⟨b, 0, none⟩)] w fun e w' =>
      ∃ n k, e = .returned (.slice (some ⟨n, 0, none⟩) 1 k) ∧ End1 b (.slice (some ⟨g, 0, none⟩) 1 c) (.iface 157 (.string strA)) n w w' := by
  obtain ⟨i0, hi, hz0, hz1, hz2⟩ := info_parts infoNode
  have p0 : w.cell? ⟨b, 0, none⟩ = some (.slice (some ⟨g, 0, none⟩) 1 c) := by rw [Lib.cell_of_heap hP]; rfl
  have p1 : w.cell? ⟨b, 1, none⟩ = some (.int .i64 0) := by rw [Lib.cell_of_heap hP]; rfl
  have p3 : w.cell? ⟨b, 3, none⟩ = some (.bool false) := by rw [Lib.cell_of_heap hP]; rfl
  have p4 : w.cell? ⟨b, 4, none⟩ = some (.int .i64 (-1)) := by rw [Lib.cell_of_heap hP]; rfl
  have f1 : w.frozen? ⟨b, 1, none⟩ = false := Lib.frozen_of_heap hP 1
  have hbl := cell_lt p0
  obtain ⟨t0, t1, t2⟩ := hT
  have hgl := cell_lt t0
  simp only at hbl hgl
  have HP := Lib.hid hP
  have HBL := Lib.hid hbl
  clear hP
  go_enter Tryz.func75, Tryz.ntmps75
  go_wp2_with fail
  refine wp_loop_rounds 2 ?_
  rw [rounds_succ]
  go_wp2_with fail
  go_quiet (fail)
  have HQ : Hid (w.drewN nq = w.drewN nq ∧ (w.drewN nq).heap = w.heap ∧ Below w.heap.size w (w.drewN nq)) := Lib.hid ⟨rfl, rfl, below_drewN (Below.refl _ _) nq⟩
  replace p0 : (w.drewN nq).cell? ⟨b, 0, none⟩ = some (.slice (some ⟨g, 0, none⟩) 1 c) := p0
  replace p1 : (w.drewN nq).cell? ⟨b, 1, none⟩ = some (.int .i64 0) := p1
  replace p3 : (w.drewN nq).cell? ⟨b, 3, none⟩ = some (.bool false) := p3
  replace p4 : (w.drewN nq).cell? ⟨b, 4, none⟩ = some (.int .i64 (-1)) := p4
  replace f1 : (w.drewN nq).frozen? ⟨b, 1, none⟩ = false := f1
  replace t0 : (w.drewN nq).cell? ⟨g, 0, none⟩ = some (.string strA) := t0
  replace t1 : (w.drewN nq).cell? ⟨g, 1, none⟩ = some (.slice none 0 0) := t1
  replace t2 : (w.drewN nq).cell? ⟨g, 2, none⟩ = some (.int .i64 0) := t2
  replace hbl : b < (w.drewN nq).heap.size := hbl
  replace hgl : g < (w.drewN nq).heap.size := hgl
  generalize w.drewN nq = wq at *
  go_wp2_with fail
  go_region
  go_wp2_with fail
  have FX := Lib.hid (mid_of (s := strA) (words := .slice none 0 0) HQ.out.2.1 HQ.out.2.2 HP.out)
  generalize ((wq.setCell ⟨b, 1, none⟩ (.int .i64 1)).alloc (.cells #[.string strA, .slice none 0 0, .int .i64 0] 144)).drew = W3 at FX ⊢
  generalize wq.heap.size = N at FX ⊢
  clear p0 p1 p3 p4 f1 t0 t1 t2 hbl hgl
  have q0 : W3.cell? ⟨b, 0, none⟩ = some (.slice (some ⟨g, 0, none⟩) 1 c) := by rw [Lib.cell_of_heap FX.out.par]; rfl
  have q1 : W3.cell? ⟨b, 1, none⟩ = some (.int .i64 1) := by rw [Lib.cell_of_heap FX.out.par]; rfl
  obtain ⟨u0, u1, u2⟩ := FX.out.tok
  go_region_with (first | (go_at_call 90; refine (one_a _ _ _).mono ?_; rintro e w1 ⟨rfl, b1⟩))
  all_goals
    have hb1 : Below W3.heap.size W3 w1 := ⟨b1.os, b1.tape, b1.output, b1.size, b1.block⟩
    have HB1 := Lib.hid hb1
    clear b1 hb1 q0 q1 u0 u1 u2
    go_wp2_with (at_builtin; refine wpList_append_own _ rfl _ _ 118 rfl w1.heap.size 146 i0 _ 1 16 Tryz.underlying118 hi hz0 hz1 hz2 rfl (by decide) _ _ _ rfl (World.ownsRow_nil _ _ _ _) ⟨w1.heap.size, 0, none⟩ 1 1 [.iface 157 (.string strA)] rfl rfl (one_alloc w1 _ _) (one_cell _ rfl) (by decide) (by decide) (by simp) ?_)
    intro v' w2 hown hgrow _
    obtain ⟨n, k, rfl, hn1, hn2, hk⟩ := row_some hown (by decide)
    have HE := Lib.hid (end_of FX.out HB1.out HBL.out hown hgrow hn1 hn2)
    have r0 : w2.cell? ⟨b, 0, none⟩ = some (.slice (some ⟨g, 0, none⟩) 1 c) := by rw [Lib.cell_of_heap HE.out.par]; rfl
    have r1 : w2.cell? ⟨b, 1, none⟩ = some (.int .i64 1) := by rw [Lib.cell_of_heap HE.out.par]; rfl
    have r4 : w2.cell? ⟨b, 4, none⟩ = some (.int .i64 (-1)) := by rw [Lib.cell_of_heap HE.out.par]; rfl
    clear hown hgrow hn1 hn2 hk
    go_wp2_with fail
    rw [rounds_succ]
    go_wp2_with fail
    go_quiet (fail)
    go_wp2_with fail
    go_ret
    exact ⟨n, k, rfl, HE.out.draws _⟩

theorem cell_rest {w W : World} {b h : Nat} {v : Value} (hr : ∀ k, k < w.heap.size → k ≠ b → W.heap[k]? = w.heap[k]?) (hc : w.cell? ⟨h, 0, none⟩ = some v) (hl : h < w.heap.size) (hne : h ≠ b) : W.cell? ⟨h, 0, none⟩ = some v :=
  (World.cell?_of_block (w := w) (a := ⟨h, 0, none⟩) (hr h hl hne)).trans hc

set_option maxHeartbeats 2000000 in
set_option maxRecDepth 100000 in
theorem nodes_r (b g c h d : Nat) (w : World) (hP : Par b (.slice (some ⟨g, 0, none⟩) 1 c) 0 0 false (-1) w) (hT : Tok g ⟨#[]⟩ (.slice (some ⟨h, 0, none⟩) 1 d) w) (hc : w.cell? ⟨h, 0, none⟩ = some (.string strW)) (hbg : b ≠ g) (hbh : b ≠ h) :
    Calls Tryz.prog 75 #[.pointer (some ⟨b, 0, none⟩)] w fun e w' =>
      ∃ n k fa fc, e = .returned (.slice (some ⟨n, 0, none⟩) 1 k) ∧ End1 b (.slice (some ⟨g, 0, none⟩) 1 c) (.iface 163 (.agg #[.slice (some ⟨h, 0, none⟩) 1 d, .slice fa 0 fc])) n w w' ∧ w'.cell? ⟨h, 0, none⟩ = some (.string strW) := by
  obtain ⟨i0, hi, hz0, hz1, hz2⟩ := info_parts infoNode
  have p0 : w.cell? ⟨b, 0, none⟩ = some (.slice (some ⟨g, 0, none⟩) 1 c) := by rw [Lib.cell_of_heap hP]; rfl
  have p1 : w.cell? ⟨b, 1, none⟩ = some (.int .i64 0) := by rw [Lib.cell_of_heap hP]; rfl
  have p3 : w.cell? ⟨b, 3, none⟩ = some (.bool false) := by rw [Lib.cell_of_heap hP]; rfl
  have p4 : w.cell? ⟨b, 4, none⟩ = some (.int .i64 (-1)) := by rw [Lib.cell_of_heap hP]; rfl
  have f1 : w.frozen? ⟨b, 1, none⟩ = false := Lib.frozen_of_heap hP 1
  have hbl := cell_lt p0
  obtain ⟨t0, t1, t2⟩ := hT
  have hgl := cell_lt t0
  have hhl := cell_lt hc
  simp only at hbl hgl hhl
  have HP := Lib.hid hP
  have HBL := Lib.hid hbl
  have HHL := Lib.hid hhl
  have HC := Lib.hid hc
  clear hP
  go_enter Tryz.func75, Tryz.ntmps75
  go_wp2_with fail
  refine wp_loop_rounds 2 ?_
  rw [rounds_succ]
  go_wp2_with fail
  go_quiet (fail)
  have HQ : Hid (w.drewN nq = w.drewN nq ∧ (w.drewN nq).heap = w.heap ∧ Below w.heap.size w (w.drewN nq)) := Lib.hid ⟨rfl, rfl, below_drewN (Below.refl _ _) nq⟩
  replace p0 : (w.drewN nq).cell? ⟨b, 0, none⟩ = some (.slice (some ⟨g, 0, none⟩) 1 c) := p0
  replace p1 : (w.drewN nq).cell? ⟨b, 1, none⟩ = some (.int .i64 0) := p1
  replace p3 : (w.drewN nq).cell? ⟨b, 3, none⟩ = some (.bool false) := p3
  replace p4 : (w.drewN nq).cell? ⟨b, 4, none⟩ = some (.int .i64 (-1)) := p4
  replace f1 : (w.drewN nq).frozen? ⟨b, 1, none⟩ = false := f1
  replace t0 : (w.drewN nq).cell? ⟨g, 0, none⟩ = some (.string ⟨#[]⟩) := t0
  replace t1 : (w.drewN nq).cell? ⟨g, 1, none⟩ = some (.slice (some ⟨h, 0, none⟩) 1 d) := t1
  replace t2 : (w.drewN nq).cell? ⟨g, 2, none⟩ = some (.int .i64 0) := t2
  replace hc : (w.drewN nq).cell? ⟨h, 0, none⟩ = some (.string strW) := hc
  replace hhl : h < (w.drewN nq).heap.size := hhl
  replace hbl : b < (w.drewN nq).heap.size := hbl
  replace hgl : g < (w.drewN nq).heap.size := hgl
  generalize w.drewN nq = wq at *
  go_wp2_with fail
  go_region
  go_wp2_with fail
  have FX := Lib.hid (mid_of (s := ⟨#[]⟩) (words := .slice (some ⟨h, 0, none⟩) 1 d) HQ.out.2.1 HQ.out.2.2 HP.out)
  generalize ((wq.setCell ⟨b, 1, none⟩ (.int .i64 1)).alloc (.cells #[.string ⟨#[]⟩, .slice (some ⟨h, 0, none⟩) 1 d, .int .i64 0] 144)).drew = W3 at FX ⊢
  generalize wq.heap.size = N at FX ⊢
  have HC3 : Hid (W3.cell? ⟨h, 0, none⟩ = some (.string strW)) := Lib.hid (cell_rest FX.out.rest HC.out HHL.out (fun e => hbh e.symm))
  have HP3 : Hid (W3.cell? ⟨b, 3, none⟩ = some (.bool false)) := Lib.hid (by rw [Lib.cell_of_heap FX.out.par]; rfl)
  clear p0 p1 p3 p4 f1 t0 t1 t2 hbl hgl hc hhl
  have q0 : W3.cell? ⟨b, 0, none⟩ = some (.slice (some ⟨g, 0, none⟩) 1 c) := by rw [Lib.cell_of_heap FX.out.par]; rfl
  have q1 : W3.cell? ⟨b, 1, none⟩ = some (.int .i64 1) := by rw [Lib.cell_of_heap FX.out.par]; rfl
  obtain ⟨u0, u1, u2⟩ := FX.out.tok
  go_region_with (first | (go_at_call 90; refine (one_r b h d _ _ (by exact HC3.out) (by exact HP3.out)).mono ?_; rintro e w1 ⟨fa, fc, rfl, b1⟩))
  all_goals
    have hb1 : Below W3.heap.size W3 w1 := ⟨b1.os, b1.tape, b1.output, b1.size, b1.block⟩
    have HB1 := Lib.hid hb1
    clear b1 hb1 q0 q1 u0 u1 u2
    go_wp2_with (at_builtin; refine wpList_append_own _ rfl _ _ 118 rfl w1.heap.size 146 i0 _ 1 16 Tryz.underlying118 hi hz0 hz1 hz2 rfl (by decide) _ _ _ rfl (World.ownsRow_nil _ _ _ _) ⟨w1.heap.size, 0, none⟩ 1 1 [.iface 163 (.agg #[.slice (some ⟨h, 0, none⟩) 1 d, .slice fa 0 fc])] rfl rfl (one_alloc w1 _ _) (one_cell _ rfl) (by decide) (by decide) (by simp) ?_)
    intro v' w2 hown hgrow _
    obtain ⟨n, k, rfl, hn1, hn2, hk⟩ := row_some hown (by decide)
    have HE := Lib.hid (end_of FX.out HB1.out HBL.out hown hgrow hn1 hn2)
    have r0 : w2.cell? ⟨b, 0, none⟩ = some (.slice (some ⟨g, 0, none⟩) 1 c) := by rw [Lib.cell_of_heap HE.out.par]; rfl
    have r1 : w2.cell? ⟨b, 1, none⟩ = some (.int .i64 1) := by rw [Lib.cell_of_heap HE.out.par]; rfl
    have r4 : w2.cell? ⟨b, 4, none⟩ = some (.int .i64 (-1)) := by rw [Lib.cell_of_heap HE.out.par]; rfl
    clear hown hgrow hn1 hn2 hk
    go_wp2_with fail
    rw [rounds_succ]
    go_wp2_with fail
    go_quiet (fail)
    go_wp2_with fail
    go_ret
    exact ⟨n, k, fa, fc, rfl, HE.out.draws _, cell_rest HE.out.rest HC.out HHL.out (fun e => hbh e.symm)⟩

end Go.Proofs.YthpdpnegbkmbkaaGreatDoor
