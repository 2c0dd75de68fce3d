/- The closed case of payload's statements: the rendering of two texts. -/
import Derived.Test.YthpdpnegbkmbkaaGreatDoorAwr
set_option linter.unusedVariables false
set_option linter.unusedSimpArgs false
namespace Go.Proofs.YthpdpnegbkmbkaaGreatDoor
open Go.RowKit

abbrev stre : ByteArray := ⟨#[114]⟩
abbrev Msg : Value := .agg #[.string stre, .string ⟨#[]⟩, .slice none 0 0, .slice none 0 0, .slice none 0 0]

set_option maxHeartbeats 1000000 in
set_option maxRecDepth 100000 in
theorem name_r (w : World) : Calls Tryz.prog 91 #[.string stre] w fun e w' => e = .returned (.bool true) ∧ w = w' := by
  go_enter Tryz.func91, Tryz.ntmps91
  go_wp2_with fail
  refine wp_loop_rounds 2 ?_
  rw [rounds_succ]
  go_wp2_with fail
  rw [rounds_succ]
  go_wp2_with fail
  go_ret
  exact ⟨rfl, rfl⟩

set_option maxHeartbeats 1000000 in
set_option maxRecDepth 100000 in
theorem pairs0 (f : Value) (w : World) :
    Calls Tryz.prog 128 #[.slice none 0 0, f] w fun e w' => e = .returned (.bool false) ∧ w = w' := by
  go_enter Tryz.func128, Tryz.ntmps128
  go_wp2
  refine wp_loop_rounds 1 ?_
  rw [rounds_succ]
  go_wp2
  go_ret
  exact ⟨rfl, rfl⟩

set_option maxHeartbeats 1000000 in
set_option maxRecDepth 100000 in
theorem lparts0 (w : World) : Calls Tryz.prog 111 #[.slice none 0 0] w fun e w' => e = .returned (.int .i64 0) ∧ w = w' := by
  go_enter Tryz.func111, Tryz.ntmps111
  go_wp2_with fail
  refine (pairs0 _ _).mono ?_
  rintro e w1 ⟨rfl, rfl⟩
  go_wp2_with fail
  refine (pairs0 _ _).mono ?_
  rintro e w1 ⟨rfl, rfl⟩
  go_wp2_with fail
  go_ret
  exact ⟨rfl, rfl⟩

set_option maxHeartbeats 1000000 in
set_option maxRecDepth 100000 in
theorem lcheck0 (w : World) : Calls Tryz.prog 92 #[.slice none 0 0] w fun e w' => e = .returned (.int .i64 0) ∧ w = w' := by
  go_enter Tryz.func92, Tryz.ntmps92
  go_wp2_with fail
  refine (lparts0 _).mono ?_
  rintro e w1 ⟨rfl, rfl⟩
  go_wp2_with fail
  refine wp_loop_rounds 1 ?_
  rw [rounds_succ]
  go_wp2_with fail
  go_ret
  exact ⟨rfl, rfl⟩

set_option maxHeartbeats 1000000 in
set_option maxRecDepth 100000 in
theorem tcheck0 (w : World) : Calls Tryz.prog 77 #[Msg] w fun e w' => e = .returned (.int .i64 0) ∧ Below w.heap.size w w' := by
  have i0 : ∀ w, (Instr.index 150 (.agg #[.slice none 0 0, .slice none 0 0]) (.int .i64 0)).run Tryz.prog w = .ok (.slice none 0 0) w := fun _ => by kernel_rfl
  have i1 : ∀ w, (Instr.index 150 (.agg #[.slice none 0 0, .slice none 0 0]) (.int .i64 1)).run Tryz.prog w = .ok (.slice none 0 0) w := fun _ => by kernel_rfl
  go_enter Tryz.func77, Tryz.ntmps77
  go_wp2_with (first | (go_at_call 91; refine (name_r _).mono ?_; rintro e w1 ⟨rfl, rfl⟩) | (go_at_call 92; refine (lcheck0 _).mono ?_; rintro e w1 ⟨rfl, rfl⟩))
  refine wp_loop_rounds 3 ?_
  rw [rounds_succ]
  go_wp2_with fail
  refine wp_loop_rounds 1 ?_
  rw [rounds_succ]
  go_wp2_with fail
  rw [rounds_succ]
  go_wp2_with fail
  refine wp_loop_rounds 1 ?_
  rw [rounds_succ]
  go_wp2_with fail
  rw [rounds_succ]
  go_wp2_with fail
  go_ret
  exact ⟨rfl, (Below.refl _ _).alloc (Nat.le_refl _) _⟩

/-- The state of a rendering: its message's cells, its builder. -/
def Run (B b : Nat) (l : List UInt8) (w : World) : Prop := ∃ cs, cs.size = 9 ∧ cs[0]? = some (.string stre) ∧ Bd B b 5 125 cs (Lib.byteCells l) w
theorem liesRun : ∀ cs : Array Value, cs.size = 9 → liesAt Tryz.prog Tryz.prog.depth 125 (cs.size / Tryz.prog.cellsOf 125) 5 64 1 = true := by
  intro cs h
  rw [h]
  kernel_rfl
theorem neRun : (125 : TypeId) ≠ 5 := by decide
theorem Run.cell {B b : Nat} {l : List UInt8} {w : World} (h : Run B b l w) : w.cell? ⟨b, 0, none⟩ = some (.string stre) := by
  obtain ⟨cs, hs, h0, h⟩ := h
  obtain ⟨p, _, _, hb, _⟩ := h.any
  rw [Lib.cell_of_heap hb]
  exact h0

set_option maxHeartbeats 1000000 in
set_option maxRecDepth 100000 in
theorem say_any (B b : Nat) (l : List UInt8) (s : ByteArray) (w : World) (h : Run B b l w) (hlen : l.length + s.size ≤ 65536) (hBw : B ≤ w.heap.size) :
    Calls Tryz.prog 113 #[.pointer (some ⟨b, 0, none⟩), .string s] w fun e w' => e = .returned (.int .i64 0) ∧ Run B b (l ++ s.data.toList) w' ∧ Below B w w' := by
  obtain ⟨cs, hs, h0, h⟩ := h
  have H := Lib.hid h
  have HS := Lib.hid hs
  have H0 := Lib.hid h0
  clear h hs h0
  go_enter Tryz.func113, Tryz.ntmps113
  go_wp2_with fail
  refine (writeString_any B b 5 _ cs _ s w H.out (liesRun cs HS.out) (by rw [Lib.byteCells_length]; omega) hBw).mono ?_
  rintro e w1 ⟨rfl, cs', hA, hS⟩
  rw [byteCells_str] at hA
  have HA := Lib.hid hA
  have HT := Lib.hid hS
  clear hA hS
  go_wp2_with fail
  refine (builderLen_any B b 5 _ cs' _ _ w1 HA.out).mono ?_
  rintro e w2 ⟨rfl, rfl⟩
  rw [Lib.byteCells_length]
  have hle : (l ++ s.data.toList).length ≤ 65536 := by simpa using hlen
  go_wp2_with fail
  go_ret
  refine ⟨rfl, ⟨cs', HT.out.size.trans HS.out, (HT.out.rest 0 (by omega) (by omega)).trans H0.out, .inr HA.out⟩, HT.out.below⟩

end Go.Proofs.YthpdpnegbkmbkaaGreatDoor
