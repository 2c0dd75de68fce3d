/- What every right program makes of some texts: the closed case of payload's statements: templates. -/
import Derived.Test.YthpdpnegbkmbkaaGreatDoorHdr
import Derived.BigQuiet
import Derived.Deep.QuietTactic
set_option linter.unusedVariables false
set_option linter.unusedSimpArgs false
namespace Go.Proofs.YthpdpnegbkmbkaaGreatDoor
open Go.RowKit

abbrev strR : ByteArray := ⟨#[123, 123, 114, 101, 99, 101, 105, 118, 101, 114, 125, 125]⟩
abbrev strA : ByteArray := ⟨#[97, 60, 98]⟩
abbrev strW : ByteArray := ⟨#[114, 101, 99, 101, 105, 118, 101, 114]⟩

theorem cut_a (w : World) (hm : Mx w) : Calls Tryz.prog 89 #[.string strA, .string ⟨#[123, 123]⟩] w fun e w' => e = .returned (.tuple #[.string strA, .string ⟨#[]⟩, .bool false]) ∧ ∃ n, w' = w.drewN n := by
  obtain ⟨m, hm⟩ := hm
  refine (Tryz.strings_Cut strA ⟨#[123, 123]⟩ m w (by decide) hm).mono ?_
  rintro e w' ⟨rfl, h⟩
  exact ⟨by kernel_rfl, h⟩
theorem cut_r (w : World) (hm : Mx w) : Calls Tryz.prog 89 #[.string strR, .string ⟨#[123, 123]⟩] w fun e w' => e = .returned (.tuple #[.string ⟨#[]⟩, .string ⟨#[114, 101, 99, 101, 105, 118, 101, 114, 125, 125]⟩, .bool true]) ∧ ∃ n, w' = w.drewN n := by
  obtain ⟨m, hm⟩ := hm
  refine (Tryz.strings_Cut strR ⟨#[123, 123]⟩ m w (by decide) hm).mono ?_
  rintro e w' ⟨rfl, h⟩
  exact ⟨by kernel_rfl, h⟩
theorem cut_w (w : World) (hm : Mx w) : Calls Tryz.prog 89 #[.string ⟨#[114, 101, 99, 101, 105, 118, 101, 114, 125, 125]⟩, .string ⟨#[125, 125]⟩] w fun e w' => e = .returned (.tuple #[.string strW, .string ⟨#[]⟩, .bool true]) ∧ ∃ n, w' = w.drewN n := by
  obtain ⟨m, hm⟩ := hm
  refine (Tryz.strings_Cut ⟨#[114, 101, 99, 101, 105, 118, 101, 114, 125, 125]⟩ ⟨#[125, 125]⟩ m w (by decide) hm).mono ?_
  rintro e w' ⟨rfl, h⟩
  exact ⟨by kernel_rfl, h⟩
theorem split_w (w : World) (hm : Mx w) : Calls Tryz.prog 63 #[.string strW, .string ⟨#[32]⟩] w fun e w' =>
    ∃ g, e = .returned (.slice (some ⟨g, 0, none⟩) 1 1) ∧ w'.cell? ⟨g, 0, none⟩ = some (.string strW) ∧ Below w.heap.size w w' ∧ w.heap.size ≤ g ∧ g < w'.heap.size := by
  obtain ⟨m, hm⟩ := hm
  refine (Tryz.strings_Split strW ⟨#[32]⟩ m w (by decide) hm (by decide)).mono ?_
  rintro e w' ⟨rfl, rfl⟩
  refine ⟨w.heap.size, by kernel_rfl, ?_, (Below.refl _ _).alloc (Nat.le_refl _) _, Nat.le_refl _, by simp⟩
  rw [Lib.cell_of_heap (heap_alloc_new w _)]
  kernel_rfl

theorem row_cells {w : World} {B e size n cap g : Nat} {xs : List Value} (h : w.ownsRow B e size (.slice (some ⟨g, 0, none⟩) n cap) n xs) (j : Nat) (u : Value) (hj : xs[j]? = some u) : w.cell? ⟨g, j, none⟩ = some u := by
  have e : ((⟨g, 0, none⟩ : Addr).add j) = ⟨g, j, none⟩ := by simp [Addr.add]; exact fun h => h.symm
  exact e ▸ h.cells (g := g) rfl j u hj
theorem row_some {w : World} {B e size n : Nat} {v : Value} {xs : List Value} (h : w.ownsRow B e size v n xs) (hn : n ≠ 0) : ∃ g cap, v = .slice (some ⟨g, 0, none⟩) n cap ∧ B ≤ g ∧ g < w.heap.size ∧ n ≤ cap := by
  rcases h.2 with ⟨_, h0⟩ | ⟨g, cap, cur, hv, hg, hh, hc, _⟩
  · exact absurd h0 hn
  · refine ⟨g, cap, hv, hg, ?_, hc⟩
    rcases Nat.lt_or_ge g w.heap.size with h' | h'
    · exact h'
    · simp [Array.getElem?_eq_none h'] at hh
theorem infoTok : (Tryz.prog.info? 144).map (fun i => (i.zero, i.size, i.bytes)) = some (some (.agg #[.string ⟨#[]⟩, .slice none 0 0, .int .i64 0]), 3, 48) := by kernel_rfl
theorem infoStr : (Tryz.prog.info? 9).map (fun i => (i.zero, i.size, i.bytes)) = some (some (.string ⟨#[]⟩), 1, 16) := by kernel_rfl

/-- A token's three cells. -/
def Tok (g : Nat) (s : ByteArray) (words : Value) (w : World) : Prop := w.cell? ⟨g, 0, none⟩ = some (.string s) ∧ w.cell? ⟨g, 1, none⟩ = some words ∧ w.cell? ⟨g, 2, none⟩ = some (.int .i64 0)
theorem tok_cells (s : ByteArray) (words : Value) (h : words.oneCell' = true) : ∀ u ∈ [Value.string s, words, Value.int .i64 0], u.oneCell' = true := by
  intro u hu
  simp at hu
  rcases hu with rfl | rfl | rfl
  · rfl
  · exact h
  · rfl
theorem tok_alloc (w : World) (x y z : Value) (T : TypeId) : ∀ (j : Nat) (u : Value), [x, y, z][j]? = some u → (w.alloc (.cells #[x, y, z] T)).cell? ((⟨w.heap.size, 0, none⟩ : Addr).add j) = some u := by
  intro j u hj
  have e : ((⟨w.heap.size, 0, none⟩ : Addr).add j) = ⟨w.heap.size, j, none⟩ := by simp [Addr.add]; exact fun h => h.symm
  rw [e, Lib.cell_of_heap (heap_alloc_new w _)]
  simpa using hj
theorem one_alloc (w : World) (x : Value) (T : TypeId) : ∀ (j : Nat) (u : Value), [x][j]? = some u → (w.alloc (.cells #[x] T)).cell? ((⟨w.heap.size, 0, none⟩ : Addr).add j) = some u := by
  intro j u hj
  have e : ((⟨w.heap.size, 0, none⟩ : Addr).add j) = ⟨w.heap.size, j, none⟩ := by simp [Addr.add]; exact fun h => h.symm
  rw [e, Lib.cell_of_heap (heap_alloc_new w _)]
  simpa using hj

set_option maxHeartbeats 1000000 in
set_option maxRecDepth 100000 in
theorem tsplit_a (w : World) (hm : Mx w) : Calls Tryz.prog 74 #[.string strA] w fun e w' =>
    ∃ g c, e = .returned (.tuple #[.slice (some ⟨g, 0, none⟩) 1 c, .int .i64 0, .int .i64 0]) ∧ Tok g strA (.slice none 0 0) w' ∧ Below w.heap.size w w' ∧ w.heap.size ≤ g ∧ g < w'.heap.size := by
  have Hm := Lib.hid hm
  clear hm
  obtain ⟨i0, hi, hz0, hz1, hz2⟩ := info_parts infoTok
  go_enter Tryz.func74, Tryz.ntmps74
  go_wp2_with fail
  refine wp_loop_rounds 1 ?_
  rw [rounds_succ]
  go_wp2_with fail
  refine (cut_a _ Hm.out).mono ?_
  rintro e w1 ⟨rfl, n1, rfl⟩
  go_wp2_with (at_builtin; refine wpList_append_own _ rfl _ _ 112 rfl w.heap.size 144 i0 _ 3 48 Tryz.underlying112 hi hz0 hz1 hz2 rfl (by decide) _ _ _ rfl (World.ownsRow_nil _ _ _ _) ⟨w.heap.size, 0, none⟩ 1 1 [.string strA, .slice none 0 0, .int .i64 0] rfl rfl ?c1 ?c2 ?c3 ?c4 ?c5 ?_)
  case c1 => exact tok_alloc (w.drewN n1) _ _ _ _
  case c2 => exact tok_cells _ _ rfl
  case c3 => decide
  case c4 => decide
  case c5 => simp
  intro v' w2 hown hgrow _
  obtain ⟨g, c, rfl, hg1, hg2, hc⟩ := row_some hown (by decide)
  have HT : Hid (Tok g strA (.slice none 0 0) w2) := Lib.hid ⟨row_cells hown 0 _ rfl, row_cells hown 1 _ rfl, row_cells hown 2 _ rfl⟩
  have HB := Lib.hid ((((below_drewN (Below.refl w.heap.size w) n1).alloc (by simp) _).grown hgrow (by simp) (by intro k hk; simp [Value.ownBlock] at hk)))
  clear hown hgrow
  go_wp2_with fail
  refine bodyPost_ret (v := .tuple #[.slice (some ⟨g, 0, none⟩) 1 c, .int .i64 0, .int .i64 0]) (by simp [results, Tryz.results74, go_sem]) rfl ⟨g, c, rfl, HT.out, HB.out, hg1, hg2⟩

set_option maxHeartbeats 2000000 in
set_option maxRecDepth 100000 in
theorem tsplit_r (w : World) (hm : Mx w) : Calls Tryz.prog 74 #[.string strR] w fun e w' =>
    ∃ g c h d, e = .returned (.tuple #[.slice (some ⟨g, 0, none⟩) 1 c, .int .i64 0, .int .i64 0]) ∧ Tok g ⟨#[]⟩ (.slice (some ⟨h, 0, none⟩) 1 d) w' ∧ w'.cell? ⟨h, 0, none⟩ = some (.string strW) ∧ Below w.heap.size w w' ∧ w.heap.size ≤ g ∧ g < w'.heap.size ∧ w.heap.size ≤ h ∧ h < w'.heap.size ∧ 1 ≤ c ∧ 1 ≤ d := by
  have Hm := Lib.hid hm
  clear hm
  obtain ⟨i0, hi, hz0, hz1, hz2⟩ := info_parts infoTok
  obtain ⟨i1, ki, kz0, kz1, kz2⟩ := info_parts infoStr
  go_enter Tryz.func74, Tryz.ntmps74
  go_wp2_with fail
  refine wp_loop_rounds 2 ?_
  rw [rounds_succ]
  go_wp2_with fail
  refine (cut_r _ Hm.out).mono ?_
  rintro e w1 ⟨rfl, n1, rfl⟩
  go_wp2_with fail
  refine (cut_w _ (by exact Hm.out)).mono ?_
  rintro e w1 ⟨rfl, n2, rfl⟩
  go_wp2_with fail
  refine (split_w _ (by exact Hm.out)).mono ?_
  rintro e w1 ⟨g1, rfl, c1, b1, l1, l2⟩
  have HB1 : Hid (Below w.heap.size w w1) := Lib.hid ((below_drewN (Below.refl w.heap.size w) _).trans b1)
  have sz1 := HB1.out.size
  clear b1
  go_wp2_with fail
  refine wp_loop_rounds 2 ?_
  rw [rounds_succ]
  go_wp2_with (at_builtin; refine wpList_append_own _ rfl _ _ 82 rfl w.heap.size 9 i1 _ 1 16 Tryz.underlying82 ki kz0 kz1 kz2 rfl (by decide) _ _ _ rfl (World.ownsRow_nil _ _ _ _) ⟨w1.heap.size, 0, none⟩ 1 1 [.string strW] rfl rfl ?c1 ?c2 ?c3 ?c4 ?c5 ?_)
  case c1 => exact one_alloc w1 _ _
  case c2 => intro u hu; simp at hu; subst hu; rfl
  case c3 => decide
  case c4 => decide
  case c5 => simp; omega
  intro v' w2 hown hgrow _
  obtain ⟨h, d, rfl, hh1, hh2, hd⟩ := row_some hown (by decide)
  have HC : Hid (w2.cell? ⟨h, 0, none⟩ = some (.string strW)) := Lib.hid (row_cells hown 0 _ rfl)
  have HB2 : Hid (Below w.heap.size w w2) := Lib.hid ((HB1.out.alloc (by omega) _).grown hgrow (by simp; omega) (by intro k hk; simp [Value.ownBlock] at hk))
  have sz2 := HB2.out.size
  clear hown hgrow c1
  go_wp2_with fail
  rw [rounds_succ]
  go_wp2_with (at_builtin; refine wpList_append_own _ rfl _ _ 112 rfl w.heap.size 144 i0 _ 3 48 Tryz.underlying112 hi hz0 hz1 hz2 rfl (by decide) _ _ _ rfl (World.ownsRow_nil _ _ _ _) ⟨w2.heap.size, 0, none⟩ 1 1 [.string ⟨#[]⟩, .slice (some ⟨h, 0, none⟩) 1 d, .int .i64 0] rfl rfl ?c1 ?c2 ?c3 ?c4 ?c5 ?_)
  case c1 => exact tok_alloc w2 _ _ _ _
  case c2 => exact tok_cells _ _ rfl
  case c3 => decide
  case c4 => decide
  case c5 => simp; omega
  intro v' w3 hown hgrow _
  obtain ⟨g, c, rfl, hg1, hg2, hc⟩ := row_some hown (by decide)
  have HT : Hid (Tok g ⟨#[]⟩ (.slice (some ⟨h, 0, none⟩) 1 d) w3) := Lib.hid ⟨row_cells hown 0 _ rfl, row_cells hown 1 _ rfl, row_cells hown 2 _ rfl⟩
  have hb3 : Below w2.heap.size w2 w3 := (((Below.refl w2.heap.size w2).alloc (Nat.le_refl _) _).grown hgrow (by simp) (by intro k hk; simp [Value.ownBlock] at hk))
  have sz3 := hb3.size
  have HB := Lib.hid (HB2.out.trans (hb3.mono (by omega)))
  have HC3 := Lib.hid (cell_keep HC.out hb3 (Nat.le_refl _))
  clear hown hgrow hb3
  go_wp2_with fail
  rw [rounds_succ]
  go_wp2_with fail
  refine bodyPost_ret (v := .tuple #[.slice (some ⟨g, 0, none⟩) 1 c, .int .i64 0, .int .i64 0]) (by simp [results, Tryz.results74, go_sem]) rfl ⟨g, c, h, d, rfl, HT.out, HC3.out, HB.out, by omega, by omega, by omega, by omega, hc, hd⟩

end Go.Proofs.YthpdpnegbkmbkaaGreatDoor
