/- What payload's functions on texts come to: Escape, hex. -/
import Derived.Test.YthpdpnegbkmbkaaGreatDoorBld
import Derived.LoopTactic
import Derived.Outline
set_option linter.unusedVariables false
set_option linter.unusedSimpArgs false
namespace Go.Proofs.YthpdpnegbkmbkaaGreatDoor
open Go.RowKit

def escB (c : UInt8) : List UInt8 := if c.toNat = 38 then [38, 97, 109, 112, 59] else if c.toNat = 60 then [38, 108, 116, 59] else if c.toNat = 62 then [38, 103, 116, 59] else if c.toNat < 32 ∧ c.toNat ≠ 10 then [32] else [c]
def escL (l : List UInt8) : List UInt8 := l.flatMap escB
theorem escB_le (c : UInt8) : (escB c).length ≤ 5 := by unfold escB; split <;> (try split) <;> (try split) <;> (try split) <;> simp
theorem escL_le (l : List UInt8) : (escL l).length ≤ 5 * l.length := by
  induction l with
  | nil => simp [escL]
  | cons c l ih => simp only [escL, List.flatMap_cons, List.length_append, List.length_cons] at *; have := escB_le c; omega
theorem take_snoc (s : ByteArray) (k : Nat) (h : k < s.size) : s.data.toList.take (k + 1) = s.data.toList.take k ++ [s[k]] := by
  rw [List.take_succ_eq_append_getElem (by simpa using h)]; rfl
theorem escL_snoc (l : List UInt8) (c : UInt8) : escL (l ++ [c]) = escL l ++ escB c := by simp [escL]

theorem escB_1 {c : UInt8} (h : ((c.toNat : Int) == 38) = true) : escB c = [38, 97, 109, 112, 59] := by
  have : c.toNat = 38 := by have := eq_of_beq h; omega
  simp [escB, this]
theorem escB_2 {c : UInt8} (h1 : ((c.toNat : Int) == 38) = false) (h : ((c.toNat : Int) == 60) = true) : escB c = [38, 108, 116, 59] := by
  have : c.toNat = 60 := by have := eq_of_beq h; omega
  simp [escB, this]
theorem escB_3 {c : UInt8} (h1 : ((c.toNat : Int) == 38) = false) (h2 : ((c.toNat : Int) == 60) = false) (h : ((c.toNat : Int) == 62) = true) : escB c = [38, 103, 116, 59] := by
  have : c.toNat = 62 := by have := eq_of_beq h; omega
  simp [escB, this]
theorem ne_of {n : Nat} {m : Nat} (h : ((n : Int) == (m : Int)) = false) : n ≠ m := by
  intro e
  simp [e] at h
theorem escB_4 {c : UInt8} (h1 : ((c.toNat : Int) == 38) = false) (h2 : ((c.toNat : Int) == 60) = false) (h3 : ((c.toNat : Int) == 62) = false) (h4 : (c.toNat : Int) < 32) (h5 : ((c.toNat : Int) != 10) = true) : escB c = [32] := by
  have a1 := ne_of (m := 38) h1; have a2 := ne_of (m := 60) h2; have a3 := ne_of (m := 62) h3
  have a5 : c.toNat ≠ 10 := by intro e; simp [e] at h5
  unfold escB
  rw [if_neg a1, if_neg a2, if_neg a3, if_pos ⟨by omega, a5⟩]
theorem escB_5 {c : UInt8} (h1 : ((c.toNat : Int) == 38) = false) (h2 : ((c.toNat : Int) == 60) = false) (h3 : ((c.toNat : Int) == 62) = false) (h5 : (c.toNat : Int) ≥ 32 ∨ ((c.toNat : Int) != 10) = false) : escB c = [c] := by
  have a1 := ne_of (m := 38) h1; have a2 := ne_of (m := 60) h2; have a3 := ne_of (m := 62) h3
  unfold escB
  rw [if_neg a1, if_neg a2, if_neg a3, if_neg]
  rintro ⟨b1, b2⟩
  rcases h5 with h5 | h5
  · omega
  · simp at h5; omega

/-- What a round leaves. -/
theorem esc_round {s : ByteArray} {k : Nat} {b : Nat} {w w1 : World} {x : List UInt8} (hlt : k < s.size) (hx : escB s[k] = x) (h1 : Bv b b (escL (s.data.toList.take k) ++ x) w1) (hW : Below b w w1) :
    Bv b b (escL (s.data.toList.take (k + 1))) w1 ∧ Below b w w1 := by
  rw [take_snoc s k hlt, escL_snoc, hx]
  exact ⟨h1, hW⟩

set_option maxHeartbeats 1000000 in
set_option maxRecDepth 100000 in
theorem escape_any (s : ByteArray) (w : World) (hs : s.size ≤ 1000000000) :
    Calls Tryz.prog 15 #[.string s] w fun e w' => e = .returned (.string ⟨(escL s.data.toList).toArray⟩) ∧ Below w.heap.size w w' := by
  have hf := Bv.fresh w w.heap.size (Nat.le_refl _)
  have Hf := Lib.hid hf
  clear hf
  go_enter Tryz.func15, Tryz.ntmps15
  go_wp2
  go_loopw [8] (fun i wr => ∃ k : Nat, k ≤ s.size ∧ i = .int .i64 k ∧ Bv w.heap.size w.heap.size (escL (s.data.toList.take k)) wr ∧ Below w.heap.size w wr) (fun i _ => s.size - (intOf i).toNat)
  case atStart => exact ⟨0, Nat.zero_le _, rfl, Hf.out, (Below.refl _ _).alloc (Nat.le_refl _) _⟩
  case round =>
    obtain ⟨k, hk, rfl, hB, hW⟩ := hrel
    have hl := escL_le (s.data.toList.take k)
    have hl2 : (s.data.toList.take k).length ≤ k := List.length_take_le _ _
    have hsz := hW.size
    have HB := Lib.hid hB
    have HW := Lib.hid hW
    clear hB hW
    by_cases hlt : k < s.size
    · go_wp2_with fail
      · have hx := escB_1 (c := s[k]) (by assumption)
        refine (bvString _ _ _ _ wr HB.out (show _ + 5 ≤ _ by omega) (by omega)).mono ?_
        rintro e w1 ⟨rfl, h1, f1⟩
        have HR := Lib.hid (esc_round hlt hx h1 (HW.out.trans f1.below))
        clear h1 f1 hx
        go_wp2
        go_roundw
        case rel => exact ⟨k + 1, by omega, by go_num, HR.out⟩
        case measure => simp [intOf]; omega
      · have hx := escB_2 (c := s[k]) (by assumption) (by assumption)
        refine (bvString _ _ _ _ wr HB.out (show _ + 4 ≤ _ by omega) (by omega)).mono ?_
        rintro e w1 ⟨rfl, h1, f1⟩
        have HR := Lib.hid (esc_round hlt hx h1 (HW.out.trans f1.below))
        clear h1 f1 hx
        go_wp2
        go_roundw
        case rel => exact ⟨k + 1, by omega, by go_num, HR.out⟩
        case measure => simp [intOf]; omega
      · have hx := escB_3 (c := s[k]) (by assumption) (by assumption) (by assumption)
        refine (bvString _ _ _ _ wr HB.out (show _ + 4 ≤ _ by omega) (by omega)).mono ?_
        rintro e w1 ⟨rfl, h1, f1⟩
        have HR := Lib.hid (esc_round hlt hx h1 (HW.out.trans f1.below))
        clear h1 f1 hx
        go_wp2
        go_roundw
        case rel => exact ⟨k + 1, by omega, by go_num, HR.out⟩
        case measure => simp [intOf]; omega
      · have hx := escB_4 (c := s[k]) (by assumption) (by assumption) (by assumption) (by assumption) (by assumption)
        refine (bvByte _ _ _ _ 32 wr HB.out (by rfl) (by omega) (by omega)).mono ?_
        rintro e w1 ⟨rfl, h1, f1⟩
        have HR := Lib.hid (esc_round hlt hx h1 (HW.out.trans f1.below))
        clear h1 f1 hx
        go_wp2
        go_roundw
        case rel => exact ⟨k + 1, by omega, by go_num, HR.out⟩
        case measure => simp [intOf]; omega
      all_goals
        have hx := escB_5 (c := s[k]) (by assumption) (by assumption) (by assumption) (by first | exact Or.inl (by assumption) | exact Or.inr (by assumption))
        refine (bvByte _ _ _ _ s[k] wr HB.out (by rfl) (by omega) (by omega)).mono ?_
        rintro e w1 ⟨rfl, h1, f1⟩
        have HR := Lib.hid (esc_round hlt hx h1 (HW.out.trans f1.below))
        clear h1 f1 hx
        go_wp2
        go_roundw
        case rel => exact ⟨k + 1, by omega, by go_num, HR.out⟩
        case measure => simp [intOf]; omega
    · have hks : s.size ≤ k := by omega
      go_wp2_with fail
      refine (bvGet _ _ _ wr HB.out (by omega)).mono ?_
      rintro e w1 ⟨rfl, h1⟩
      have HE := Lib.hid (HW.out.trans h1)
      clear h1
      go_wp2
      go_ret
      refine ⟨?_, HE.out⟩
      rw [List.take_of_length_le (by simpa using hks)]
      rfl

def hexD : ByteArray := ⟨#[48, 49, 50, 51, 52, 53, 54, 55, 56, 57, 65, 66, 67, 68, 69, 70]⟩
def hexDig (n : Nat) : UInt8 := hexD.data.toList.getD n 0
def hexB (u : UInt8) : List UInt8 := [61, hexDig (u.toNat / 16), hexDig (u.toNat % 16)]
theorem hexD_get (n : Nat) (h : n < (ByteArray.mk #[48, 49, 50, 51, 52, 53, 54, 55, 56, 57, 65, 66, 67, 68, 69, 70]).size) : (ByteArray.mk #[48, 49, 50, 51, 52, 53, 54, 55, 56, 57, 65, 66, 67, 68, 69, 70])[n] = hexDig n := by
  unfold hexDig hexD
  have h' : n < #[48, 49, 50, 51, 52, 53, 54, 55, 56, 57, 65, 66, 67, 68, 69, (70 : UInt8)].toList.length := h
  rw [List.getD_eq_getElem?_getD, List.getElem?_eq_getElem h']
  rfl

set_option maxHeartbeats 1000000 in
set_option maxRecDepth 100000 in
theorem hex_any (B b : Nat) (l : List UInt8) (c : Int) (u : UInt8) (w : World) (h : Bv B b l w) (hc : c = u.toNat) (hlen : l.length + 3 ≤ 140737488355328) (hBw : B ≤ w.heap.size) :
    Calls Tryz.prog 34 #[.pointer (some ⟨b, 0, none⟩), .int .u8 c] w fun e w' => e = .returned (.tuple #[]) ∧ Bv B b (l ++ hexB u) w' ∧ Fr B b w w' := by
  have h0 : 0 ≤ c := by omega
  have h1 : c ≤ 255 := by have := u.toNat_lt; omega
  have Hc := Lib.hid hc
  have H := Lib.hid h
  clear hc h
  go_enter Tryz.func34, Tryz.ntmps34
  go_wp2_with fail
  refine (bvByte _ _ _ _ 61 w H.out (by rfl) (by omega) (by omega)).mono ?_
  rintro e w1 ⟨rfl, g1, f1⟩
  have hs1 := f1.below.size
  have G1 := Lib.hid g1
  have F1 := Lib.hid f1
  clear g1 f1
  go_wp2_with fail
  refine (bvByte _ _ _ _ _ w1 G1.out rfl (by simp; omega) (by omega)).mono ?_
  rintro e w2 ⟨rfl, g2, f2⟩
  have hs2 := f2.below.size
  have G2 := Lib.hid g2
  have F2 := Lib.hid (F1.out.trans f2)
  clear g2 f2 G1 F1
  go_wp2_with fail
  refine (bvByte _ _ _ _ _ w2 G2.out rfl (by simp; omega) (by omega)).mono ?_
  rintro e w3 ⟨rfl, g3, f3⟩
  have G3 := Lib.hid g3
  have F3 := Lib.hid (F2.out.trans f3)
  clear g3 f3 G2 F2
  go_wp2
  go_end0
  refine ⟨rfl, ?_, F3.out⟩
  have g := G3.out
  rw [hexD_get, hexD_get] at g
  have e1 : (c / 16).toNat = u.toNat / 16 := by rw [Hc.out]; omega
  have e2 : (c % 16).toNat = u.toNat % 16 := by rw [Hc.out]; omega
  rw [e1, e2] at g
  simpa [hexB] using g

/-! ### Quoted -/
/-- A variable of another type than bytes beside a builder: the builder stands while it is written. -/
theorem Bv.setVar {B b g : Nat} {l : List UInt8} {w : World} {cs : Array Value} {T : TypeId} {fr : Nat × Nat} (h : Bv B b l w) (hg : w.heap[g]? = some (.cells cs T fr)) (hT : T ≠ 5) (hne : g ≠ b) (j : Nat) (v : Value) : Bv B b l (w.setCell ⟨g, j, none⟩ v) := by
  obtain ⟨c2, hs, h⟩ := h
  refine ⟨c2, hs, ?_⟩
  have go : ∀ p, BdA B b 0 64 c2 p (Lib.byteCells l) w → BdA B b 0 64 c2 p (Lib.byteCells l) (w.setCell ⟨g, j, none⟩ v) := by
    rintro p ⟨hB, hT2, hb, h0, u, h1, hown⟩
    have hno := Lib.ownBlock_ne hown hg hT
    refine ⟨hB, hT2, ?_, h0, u, h1, ?_⟩
    · rw [Below.heap_setCell _ _ _ _ (by simpa using fun e => hne e.symm)]; exact hb
    · exact hown.kept (row := some g) ⟨rfl, rfl, rfl, by simp [World.setCell], fun k _ hk => Below.heap_setCell _ _ _ _ (fun e => hk (by simp [e]))⟩ (Or.inr hno)
  rcases h with h | h
  · exact .inl (go _ h)
  · exact .inr (go _ h)
theorem Bv.alloc {B b : Nat} {l : List UInt8} {w : World} (h : Bv B b l w) (o : Obj) : Bv B b l (w.alloc o) := by
  have hlt := h.lt
  obtain ⟨c2, hs, h⟩ := h
  refine ⟨c2, hs, ?_⟩
  have go : ∀ p, BdA B b 0 64 c2 p (Lib.byteCells l) w → BdA B b 0 64 c2 p (Lib.byteCells l) (w.alloc o) := by
    rintro p ⟨hB, hT2, hb, h0, u, h1, hown⟩
    exact ⟨hB, hT2, (Below.heap_alloc w o b hlt).trans hb, h0, u, h1, hown.alloc o⟩
  rcases h with h | h
  · exact .inl (go _ h)
  · exact .inr (go _ h)

/-- An int variable of the call's own. -/
def Iv (g : Nat) (n : Int) (w : World) : Prop := w.heap[g]? = some (.cells #[.int .i64 n] 3 (0, 0))
theorem Iv.cell {g : Nat} {n : Int} {w : World} (h : Iv g n w) : w.cell? ⟨g, 0, none⟩ = some (.int .i64 n) := by rw [Lib.cell_of_heap h]; rfl
theorem Iv.free {g : Nat} {n : Int} {w : World} (h : Iv g n w) : w.frozen? ⟨g, 0, none⟩ = false := Lib.frozen_of_heap h 0
theorem Iv.set {g : Nat} {n : Int} {w : World} (h : Iv g n w) (m : Int) : Iv g m (w.setCell ⟨g, 0, none⟩ (.int .i64 m)) := by
  have := heap_set (o := 0) h (.int .i64 m)
  simpa [Iv] using this
theorem Iv.keep {g b : Nat} {n : Int} {w w' : World} (h : Iv g n w) (hk : Lib.OthersKept 5 (some b) w w') (hne : g ≠ b) : Iv g n w' :=
  hk g _ h (by simpa using hne) (by intro c fz e; injection e with _ e; exact absurd e (by decide))

def roomS (line n : Nat) : List UInt8 := if line + n > 75 then [61, 13, 10] else []
def roomL (line n : Nat) : Nat := if line + n > 75 then n else line + n

set_option maxHeartbeats 1000000 in
set_option maxRecDepth 100000 in
theorem room_any (B b g : Nat) (l : List UInt8) (line n : Nat) (w : World) (h : Bv B b l w) (hI : Iv g line w) (hne : g ≠ b) (hg : B ≤ g) (hl : line ≤ 1000) (hn : n ≤ 1000) (hlen : l.length + 3 ≤ 140737488355328) (hBw : B ≤ w.heap.size) :
    Calls Tryz.prog 43 #[.int .i64 n, .pointer (some ⟨g, 0, none⟩), .pointer (some ⟨b, 0, none⟩)] w fun e w' => e = .returned (.tuple #[]) ∧ Bv B b (l ++ roomS line n) w' ∧ Iv g (roomL line n) w' ∧ Below B w w' := by
  have c0 := hI.cell
  have f0 := hI.free
  have H := Lib.hid h
  have HI := Lib.hid hI
  clear h hI
  by_cases hgt : 75 < line + n
  · go_enter Tryz.func43, Tryz.ntmps43
    go_wp2_with fail
    refine (bvString B b l ⟨#[61, 13, 10]⟩ w H.out (show _ + 3 ≤ _ by omega) hBw).mono ?_
    rintro e w1 ⟨rfl, h1, f1⟩
    have hI1 := HI.out.keep f1.others hne
    have hI2 := hI1.set 0
    have d0 := hI1.cell
    have g0 := hI1.free
    have d1 := hI2.cell
    have g1 := hI2.free
    have h2 := h1.setVar hI1 (by decide) hne 0 (.int .i64 0)
    have h3 := h2.setVar hI2 (by decide) hne 0 (.int .i64 n)
    have HB3 := Lib.hid h3
    have HI3 := Lib.hid (hI2.set n)
    have HW := Lib.hid ((f1.below.setCell (p := ⟨g, 0, none⟩) hg (.int .i64 0)).setCell (p := ⟨g, 0, none⟩) hg (.int .i64 n))
    clear h1 f1 hI1 hI2 h2 h3
    go_wp2
    go_end0
    have e1 : roomS line n = [61, 13, 10] := by unfold roomS; rw [if_pos (by omega)]
    have e2 : roomL line n = n := by unfold roomL; rw [if_pos (by omega)]
    rw [e1, e2]
    exact ⟨rfl, HB3.out, HI3.out, HW.out⟩
  · go_enter Tryz.func43, Tryz.ntmps43
    have HB3 := Lib.hid (H.out.setVar HI.out (by decide) hne 0 (.int .i64 (line + n)))
    have HI3 := Lib.hid (HI.out.set (line + n))
    have HW := Lib.hid ((Below.refl B w).setCell (p := ⟨g, 0, none⟩) hg (.int .i64 (line + n)))
    go_wp2
    go_end0
    have e1 : roomS line n = [] := by unfold roomS; rw [if_neg (by omega)]
    have e2 : roomL line n = line + n := by unfold roomL; rw [if_neg (by omega)]
    rw [e1, e2, List.append_nil]
    exact ⟨rfl, HB3.out, HI3.out, HW.out⟩

def plainI (c : Int) : Bool := decide (32 < c ∧ c ≤ 126 ∧ c ≠ 61)
def blankI (c : Int) : Bool := decide (c = 32 ∨ c = 9)

set_option maxHeartbeats 1000000 in
theorem plain_yes (c : Int) (w : World) (h : plainI c = true) :
    Calls Tryz.prog 44 #[.int .u8 c] w fun e w' => e = .returned (.bool true) ∧ w = w' := by
  obtain ⟨h1, h2, h3⟩ := of_decide_eq_true h
  have h4 : (c != 61) = true := by simpa using h3
  clear h h3
  go_enter Tryz.func44, Tryz.ntmps44
  go_wp2
  go_ret
  exact ⟨rfl, rfl⟩

set_option maxHeartbeats 1000000 in
theorem plain_no (c : Int) (w : World) (h : plainI c = false) :
    Calls Tryz.prog 44 #[.int .u8 c] w fun e w' => e = .returned (.bool false) ∧ w = w' := by
  have h := of_decide_eq_false h
  by_cases h1 : 32 < c
  · by_cases h2 : c ≤ 126
    · have h3 : (c != 61) = false := by
        by_cases e : c = 61
        · simp [e]
        · exact absurd ⟨h1, h2, e⟩ h
      clear h
      go_enter Tryz.func44, Tryz.ntmps44
      go_wp2
      go_ret
      exact ⟨rfl, rfl⟩
    · have h2' : 126 < c := by omega
      clear h h2
      go_enter Tryz.func44, Tryz.ntmps44
      go_wp2
      go_ret
      exact ⟨rfl, rfl⟩
  · have h1' : c ≤ 32 := by omega
    clear h h1
    go_enter Tryz.func44, Tryz.ntmps44
    go_wp2
    go_ret
    exact ⟨rfl, rfl⟩

set_option maxHeartbeats 1000000 in
theorem blank_yes (c : Int) (w : World) (h : blankI c = true) :
    Calls Tryz.prog 45 #[.int .u8 c] w fun e w' => e = .returned (.bool true) ∧ w = w' := by
  by_cases h1 : c = 32
  · have h1' : (c == 32) = true := by simpa using h1
    clear h h1
    go_enter Tryz.func45, Tryz.ntmps45
    go_wp2
    go_ret
    exact ⟨rfl, rfl⟩
  · have h2 : c = 9 := (of_decide_eq_true h).resolve_left h1
    have h1' : (c == 32) = false := by simpa using h1
    have h2' : (c == 9) = true := by simpa using h2
    clear h h1 h2
    go_enter Tryz.func45, Tryz.ntmps45
    go_wp2
    go_ret
    exact ⟨rfl, rfl⟩

set_option maxHeartbeats 1000000 in
theorem blank_no (c : Int) (w : World) (h : blankI c = false) :
    Calls Tryz.prog 45 #[.int .u8 c] w fun e w' => e = .returned (.bool false) ∧ w = w' := by
  have h := of_decide_eq_false h
  have h1' : (c == 32) = false := by simp; omega
  have h2' : (c == 9) = false := by simp; omega
  clear h
  go_enter Tryz.func45, Tryz.ntmps45
  go_wp2
  go_ret
  exact ⟨rfl, rfl⟩

/-! What Quoted comes to. -/
def asIs (c : UInt8) (last : Bool) : Bool := plainI c.toNat || (blankI c.toNat && !last)
def wayB (c : UInt8) (last : Bool) : List UInt8 := if asIs c last then [c] else hexB c
def lastB (r : List UInt8) : Bool := match r with | [] => true | d :: _ => d.toNat == 10
def quotA : List UInt8 → Nat → List UInt8
  | [], _ => []
  | c :: r, line => if c.toNat = 10 then [13, 10] ++ quotA r 0 else roomS line (wayB c (lastB r)).length ++ wayB c (lastB r) ++ quotA r (roomL line (wayB c (lastB r)).length)
def quotL (l : List UInt8) : List UInt8 := quotA l 0

theorem roomS_le (a b : Nat) : (roomS a b).length ≤ 3 := by unfold roomS; split <;> simp
theorem wayB_le (c : UInt8) (b : Bool) : (wayB c b).length ≤ 3 := by unfold wayB; split <;> simp [hexB]
theorem roomL_le (a b : Nat) (ha : a ≤ 75) (hb : b ≤ 75) : roomL a b ≤ 75 := by unfold roomL; split <;> omega
theorem drop_at (s : ByteArray) (k : Nat) (h : k < s.size) : s.data.toList.drop k = s[k] :: s.data.toList.drop (k + 1) := by
  rw [List.drop_eq_getElem_cons (by simpa using h)]; rfl

/-- The state at the head of round k: what is written, and how long the line is. -/
def QAt (s : ByteArray) (k : Nat) (out : List UInt8) (line : Nat) : Prop := out ++ quotA (s.data.toList.drop k) line = quotL s.data.toList ∧ out.length ≤ 6 * k ∧ line ≤ 75
theorem QAt.zero (s : ByteArray) : QAt s 0 [] 0 := ⟨rfl, by simp, by omega⟩
theorem QAt.ten {s : ByteArray} {k : Nat} {out : List UInt8} {line : Nat} (h : QAt s k out line) (hk : k < s.size) (h10 : s[k].toNat = 10) : QAt s (k + 1) (out ++ [13, 10]) 0 := by
  obtain ⟨h1, h2, h3⟩ := h
  rw [drop_at s k hk, quotA, if_pos h10] at h1
  exact ⟨by rw [← h1]; simp, by simp; omega, by omega⟩
theorem QAt.one {s : ByteArray} {k : Nat} {out : List UInt8} {line : Nat} (h : QAt s k out line) (hk : k < s.size) (h10 : s[k].toNat ≠ 10) {x : List UInt8} (hx : wayB s[k] (lastB (s.data.toList.drop (k + 1))) = x) :
    QAt s (k + 1) (out ++ roomS line x.length ++ x) (roomL line x.length) := by
  obtain ⟨h1, h2, h3⟩ := h
  rw [drop_at s k hk, quotA, if_neg h10, hx] at h1
  have a1 := roomS_le line x.length
  have a2 := wayB_le s[k] (lastB (s.data.toList.drop (k + 1)))
  rw [hx] at a2
  exact ⟨by rw [← h1]; simp, by simp; omega, roomL_le _ _ h3 (by omega)⟩
theorem QAt.end_ {s : ByteArray} {k : Nat} {out : List UInt8} {line : Nat} (h : QAt s k out line) (hk : s.size ≤ k) : out = quotL s.data.toList := by
  have := h.1
  rw [List.drop_of_length_le (by simpa using hk)] at this
  simpa [quotA] using this

theorem lastB_end {s : ByteArray} {k : Nat} (h : s.size ≤ k + 1) : lastB (s.data.toList.drop (k + 1)) = true := by
  rw [List.drop_of_length_le (by simpa using h)]; rfl
theorem lastB_at {s : ByteArray} {k : Nat} (h : k + 1 < s.size) : lastB (s.data.toList.drop (k + 1)) = ((s[k + 1].toNat : Int) == 10) := by
  rw [drop_at s (k + 1) h]
  show (s[k + 1].toNat == 10) = _
  by_cases e : s[k + 1].toNat = 10
  · rw [e]; rfl
  · rw [beq_eq_false_iff_ne.2 e, beq_eq_false_iff_ne.2 (by omega)]
theorem wayB_1 {c : UInt8} {b : Bool} (h : asIs c b = true) : wayB c b = [c] := by unfold wayB; rw [if_pos h]
theorem wayB_3 {c : UInt8} {b : Bool} (h : asIs c b = false) : wayB c b = hexB c := by unfold wayB; rw [if_neg (by simp [h])]
theorem asIs_plain {c : UInt8} {b : Bool} (h : plainI c.toNat = true) : asIs c b = true := by simp [asIs, h]
theorem asIs_no {c : UInt8} {b : Bool} (h : plainI c.toNat = false) (h2 : blankI c.toNat = false) : asIs c b = false := by simp [asIs, h, h2]
theorem asIs_last {c : UInt8} {b : Bool} (h : plainI c.toNat = false) (h2 : b = true) : asIs c b = false := by simp [asIs, h, h2]
theorem asIs_blank {c : UInt8} {b : Bool} (h : blankI c.toNat = true) (h2 : b = false) : asIs c b = true := by simp [asIs, h, h2]

set_option maxHeartbeats 4000000 in
set_option maxRecDepth 100000 in
theorem quoted_any (s : ByteArray) (w : World) (hs : s.size ≤ 1000000000) :
    Calls Tryz.prog 22 #[.string s] w fun e w' => e = .returned (.string ⟨(quotL s.data.toList).toArray⟩) ∧ Below w.heap.size w w' := by
  have Hf := Lib.hid ((Bv.fresh w w.heap.size (Nat.le_refl _)).alloc (.cells #[.int .i64 0] 3))
  have HI0 : Hid (Iv (w.heap.size + 1) 0 ((w.alloc (.cells #[.pointer none, .slice none 0 0] 64)).alloc (.cells #[.int .i64 0] 3))) := by
    have := heap_alloc_new (w.alloc (.cells #[.pointer none, .slice none 0 0] 64)) (.cells #[.int .i64 0] 3)
    have h2 : Iv (w.heap.size + 1) 0 ((w.alloc (.cells #[.pointer none, .slice none 0 0] 64)).alloc (.cells #[.int .i64 0] 3)) := by simpa [Iv] using this
    exact Lib.hid h2
  go_enter Tryz.func22, Tryz.ntmps22
  go_wp2
  go_loopw [12] (fun i wr => ∃ (k : Nat) (out : List UInt8) (line : Nat), k ≤ s.size ∧ i = .int .i64 k ∧ Bv w.heap.size w.heap.size out wr ∧ Iv (w.heap.size + 1) line wr ∧ Below w.heap.size w wr ∧ QAt s k out line) (fun i _ => s.size - (intOf i).toNat)
  case atStart => exact ⟨0, [], 0, Nat.zero_le _, rfl, Hf.out, HI0.out, ((Below.refl _ _).alloc (Nat.le_refl _) _).alloc (by simp) _, QAt.zero s⟩
  case round =>
    obtain ⟨k, out, line, hk, rfl, hB, hI, hW, hQ⟩ := hrel
    have hl1 := hQ.2.1
    have hl2 := hQ.2.2
    have hsz := hW.size
    have HB := Lib.hid hB
    have HI := Lib.hid hI
    have HW := Lib.hid hW
    have HQ := Lib.hid hQ
    have ci := hI.cell
    have fi := hI.free
    clear hB hI hW hQ Hf HI0
    by_cases hlt : k < s.size
    · by_cases hend : k + 1 = s.size
      · have he : (((k : Int) + 1) == (s.size : Int)) = true := by simp; omega
        have HL := Lib.hid (lastB_end (s := s) (k := k) (by omega))
        clear hend

        by_cases h10 : s[k].toNat = 10
        · have h10b : ((s[k].toNat : Int) == 10) = true := by simp; omega
          have HT := Lib.hid h10
          clear h10
          go_wp2_with fail
          refine (bvString _ _ out ⟨#[13, 10]⟩ wr HB.out (show _ + 2 ≤ _ by omega) (by omega)).mono ?_
          rintro e w1 ⟨rfl, h1, f1⟩
          have hI1 := HI.out.keep f1.others (by omega)
          have d0 := hI1.cell
          have g0 := hI1.free
          have HR := Lib.hid (And.intro (h1.setVar hI1 (by decide) (by omega) 0 (.int .i64 0)) (And.intro (hI1.set 0) (And.intro ((HW.out.trans f1.below).setCell (p := ⟨w.heap.size + 1, 0, none⟩) (by simp) (.int .i64 0)) (HQ.out.ten hlt HT.out))))
          clear h1 f1 hI1 ci fi
          go_wp2
          go_roundw
          case rel => exact ⟨k + 1, _, _, by omega, by go_num, HR.out.1, HR.out.2.1, HR.out.2.2.1, HR.out.2.2.2⟩
          case measure => simp [intOf]; omega
        · have h10b : ((s[k].toNat : Int) == 10) = false := by simp; omega
          cases hp : plainI (s[k].toNat : Int)
          case true =>
            have hx : wayB s[k] (lastB (s.data.toList.drop (k + 1))) = [s[k]] := wayB_1 (asIs_plain hp)
            have HX := Lib.hid hx
            clear hx
            have HP := Lib.hid hp
            clear hp
            have HT := Lib.hid h10
            clear h10
            go_wp2_with fail
            refine (plain_yes _ wr HP.out).mono ?_
            rintro e w1 ⟨rfl, rfl⟩
            go_wp2_with fail
            refine (room_any w.heap.size w.heap.size (w.heap.size + 1) out line 1 wr HB.out HI.out (by omega) (by omega) (by omega) (by omega) (by omega) (by omega)).mono ?_
            rintro e w1 ⟨rfl, h1, i1, b1⟩
            have hz := b1.size
            have HI1 := Lib.hid i1
            have H1 := Lib.hid h1
            have HB1 := Lib.hid b1
            have hr := roomS_le line 1
            clear h1 i1 b1 ci fi
            go_wp2_with fail
            refine (bvByte _ _ _ _ s[k] w1 H1.out rfl (by simp <;> omega) (by omega)).mono ?_
            rintro e w2 ⟨rfl, h2, f2⟩
            have HR := Lib.hid (And.intro h2 (And.intro (HI1.out.keep f2.others (by omega)) (And.intro ((HW.out.trans HB1.out).trans f2.below) (HQ.out.one hlt HT.out HX.out))))
            clear h2 f2
            go_wp2
            go_roundw
            case rel => exact ⟨k + 1, _, _, by omega, by go_num, HR.out.1, HR.out.2.1, HR.out.2.2.1, HR.out.2.2.2⟩
            case measure => simp [intOf]; omega
          case false =>
            cases hbl : blankI (s[k].toNat : Int)
            case false =>
              have hx : wayB s[k] (lastB (s.data.toList.drop (k + 1))) = hexB s[k] := wayB_3 (asIs_no hp hbl)
              have HX := Lib.hid hx
              clear hx
              have HP := Lib.hid hp
              clear hp
              have HK := Lib.hid hbl
              clear hbl
              have HT := Lib.hid h10
              clear h10
              go_wp2_with fail
              refine (plain_no _ wr HP.out).mono ?_
              rintro e w1 ⟨rfl, rfl⟩
              go_wp2_with fail
              refine (blank_no _ wr HK.out).mono ?_
              rintro e w1 ⟨rfl, rfl⟩
              go_wp2_with fail
              refine (room_any w.heap.size w.heap.size (w.heap.size + 1) out line 3 wr HB.out HI.out (by omega) (by omega) (by omega) (by omega) (by omega) (by omega)).mono ?_
              rintro e w1 ⟨rfl, h1, i1, b1⟩
              have hz := b1.size
              have HI1 := Lib.hid i1
              have H1 := Lib.hid h1
              have HB1 := Lib.hid b1
              have hr := roomS_le line 3
              clear h1 i1 b1 ci fi
              go_wp2_with fail
              refine (hex_any _ _ _ _ s[k] w1 H1.out rfl (by simp <;> omega) (by omega)).mono ?_
              rintro e w2 ⟨rfl, h2, f2⟩
              have HR := Lib.hid (And.intro h2 (And.intro (HI1.out.keep f2.others (by omega)) (And.intro ((HW.out.trans HB1.out).trans f2.below) (HQ.out.one hlt HT.out HX.out))))
              clear h2 f2
              go_wp2
              go_roundw
              case rel => exact ⟨k + 1, _, _, by omega, by go_num, HR.out.1, HR.out.2.1, HR.out.2.2.1, HR.out.2.2.2⟩
              case measure => simp [intOf]; omega
            case true =>
              have hx : wayB s[k] (lastB (s.data.toList.drop (k + 1))) = hexB s[k] := wayB_3 (asIs_last hp HL.out)
              have HX := Lib.hid hx
              clear hx
              have HP := Lib.hid hp
              clear hp
              have HK := Lib.hid hbl
              clear hbl
              have HT := Lib.hid h10
              clear h10
              go_wp2_with fail
              refine (plain_no _ wr HP.out).mono ?_
              rintro e w1 ⟨rfl, rfl⟩
              go_wp2_with fail
              refine (blank_yes _ wr HK.out).mono ?_
              rintro e w1 ⟨rfl, rfl⟩
              go_wp2_with fail
              refine (room_any w.heap.size w.heap.size (w.heap.size + 1) out line 3 wr HB.out HI.out (by omega) (by omega) (by omega) (by omega) (by omega) (by omega)).mono ?_
              rintro e w1 ⟨rfl, h1, i1, b1⟩
              have hz := b1.size
              have HI1 := Lib.hid i1
              have H1 := Lib.hid h1
              have HB1 := Lib.hid b1
              have hr := roomS_le line 3
              clear h1 i1 b1 ci fi
              go_wp2_with fail
              refine (hex_any _ _ _ _ s[k] w1 H1.out rfl (by simp <;> omega) (by omega)).mono ?_
              rintro e w2 ⟨rfl, h2, f2⟩
              have HR := Lib.hid (And.intro h2 (And.intro (HI1.out.keep f2.others (by omega)) (And.intro ((HW.out.trans HB1.out).trans f2.below) (HQ.out.one hlt HT.out HX.out))))
              clear h2 f2
              go_wp2
              go_roundw
              case rel => exact ⟨k + 1, _, _, by omega, by go_num, HR.out.1, HR.out.2.1, HR.out.2.2.1, HR.out.2.2.2⟩
              case measure => simp [intOf]; omega
      · have he : (((k : Int) + 1) == (s.size : Int)) = false := by simp; omega
        have hk1 : k + 1 < s.size := by omega
        have HL := Lib.hid (lastB_at hk1)
        clear hend

        by_cases h10 : s[k].toNat = 10
        · have h10b : ((s[k].toNat : Int) == 10) = true := by simp; omega
          have HT := Lib.hid h10
          clear h10
          go_wp2_with fail
          refine (bvString _ _ out ⟨#[13, 10]⟩ wr HB.out (show _ + 2 ≤ _ by omega) (by omega)).mono ?_
          rintro e w1 ⟨rfl, h1, f1⟩
          have hI1 := HI.out.keep f1.others (by omega)
          have d0 := hI1.cell
          have g0 := hI1.free
          have HR := Lib.hid (And.intro (h1.setVar hI1 (by decide) (by omega) 0 (.int .i64 0)) (And.intro (hI1.set 0) (And.intro ((HW.out.trans f1.below).setCell (p := ⟨w.heap.size + 1, 0, none⟩) (by simp) (.int .i64 0)) (HQ.out.ten hlt HT.out))))
          clear h1 f1 hI1 ci fi
          go_wp2
          go_roundw
          case rel => exact ⟨k + 1, _, _, by omega, by go_num, HR.out.1, HR.out.2.1, HR.out.2.2.1, HR.out.2.2.2⟩
          case measure => simp [intOf]; omega
        · have h10b : ((s[k].toNat : Int) == 10) = false := by simp; omega
          cases hp : plainI (s[k].toNat : Int)
          case true =>
            have hx : wayB s[k] (lastB (s.data.toList.drop (k + 1))) = [s[k]] := wayB_1 (asIs_plain hp)
            have HX := Lib.hid hx
            clear hx
            have HP := Lib.hid hp
            clear hp
            have HT := Lib.hid h10
            clear h10
            go_wp2_with fail
            refine (plain_yes _ wr HP.out).mono ?_
            rintro e w1 ⟨rfl, rfl⟩
            go_wp2_with fail
            refine (room_any w.heap.size w.heap.size (w.heap.size + 1) out line 1 wr HB.out HI.out (by omega) (by omega) (by omega) (by omega) (by omega) (by omega)).mono ?_
            rintro e w1 ⟨rfl, h1, i1, b1⟩
            have hz := b1.size
            have HI1 := Lib.hid i1
            have H1 := Lib.hid h1
            have HB1 := Lib.hid b1
            have hr := roomS_le line 1
            clear h1 i1 b1 ci fi
            go_wp2_with fail
            refine (bvByte _ _ _ _ s[k] w1 H1.out rfl (by simp <;> omega) (by omega)).mono ?_
            rintro e w2 ⟨rfl, h2, f2⟩
            have HR := Lib.hid (And.intro h2 (And.intro (HI1.out.keep f2.others (by omega)) (And.intro ((HW.out.trans HB1.out).trans f2.below) (HQ.out.one hlt HT.out HX.out))))
            clear h2 f2
            go_wp2
            go_roundw
            case rel => exact ⟨k + 1, _, _, by omega, by go_num, HR.out.1, HR.out.2.1, HR.out.2.2.1, HR.out.2.2.2⟩
            case measure => simp [intOf]; omega
          case false =>
            cases hbl : blankI (s[k].toNat : Int)
            case false =>
              have hx : wayB s[k] (lastB (s.data.toList.drop (k + 1))) = hexB s[k] := wayB_3 (asIs_no hp hbl)
              have HX := Lib.hid hx
              clear hx
              have HP := Lib.hid hp
              clear hp
              have HK := Lib.hid hbl
              clear hbl
              have HT := Lib.hid h10
              clear h10
              go_wp2_with fail
              refine (plain_no _ wr HP.out).mono ?_
              rintro e w1 ⟨rfl, rfl⟩
              go_wp2_with fail
              refine (blank_no _ wr HK.out).mono ?_
              rintro e w1 ⟨rfl, rfl⟩
              go_wp2_with fail
              refine (room_any w.heap.size w.heap.size (w.heap.size + 1) out line 3 wr HB.out HI.out (by omega) (by omega) (by omega) (by omega) (by omega) (by omega)).mono ?_
              rintro e w1 ⟨rfl, h1, i1, b1⟩
              have hz := b1.size
              have HI1 := Lib.hid i1
              have H1 := Lib.hid h1
              have HB1 := Lib.hid b1
              have hr := roomS_le line 3
              clear h1 i1 b1 ci fi
              go_wp2_with fail
              refine (hex_any _ _ _ _ s[k] w1 H1.out rfl (by simp <;> omega) (by omega)).mono ?_
              rintro e w2 ⟨rfl, h2, f2⟩
              have HR := Lib.hid (And.intro h2 (And.intro (HI1.out.keep f2.others (by omega)) (And.intro ((HW.out.trans HB1.out).trans f2.below) (HQ.out.one hlt HT.out HX.out))))
              clear h2 f2
              go_wp2
              go_roundw
              case rel => exact ⟨k + 1, _, _, by omega, by go_num, HR.out.1, HR.out.2.1, HR.out.2.2.1, HR.out.2.2.2⟩
              case measure => simp [intOf]; omega
            case true =>
              cases hlv : ((s[k + 1].toNat : Int) == 10)
              case true =>
                have hx : wayB s[k] (lastB (s.data.toList.drop (k + 1))) = hexB s[k] := wayB_3 (asIs_last hp (by rw [HL.out]; exact hlv))
                have HX := Lib.hid hx
                clear hx
                have HP := Lib.hid hp
                clear hp
                have HK := Lib.hid hbl
                clear hbl
                have HT := Lib.hid h10
                clear h10
                go_wp2_with fail
                refine (plain_no _ wr HP.out).mono ?_
                rintro e w1 ⟨rfl, rfl⟩
                go_wp2_with fail
                refine (blank_yes _ wr HK.out).mono ?_
                rintro e w1 ⟨rfl, rfl⟩
                go_wp2_with fail
                refine (room_any w.heap.size w.heap.size (w.heap.size + 1) out line 3 wr HB.out HI.out (by omega) (by omega) (by omega) (by omega) (by omega) (by omega)).mono ?_
                rintro e w1 ⟨rfl, h1, i1, b1⟩
                have hz := b1.size
                have HI1 := Lib.hid i1
                have H1 := Lib.hid h1
                have HB1 := Lib.hid b1
                have hr := roomS_le line 3
                clear h1 i1 b1 ci fi
                go_wp2_with fail
                refine (hex_any _ _ _ _ s[k] w1 H1.out rfl (by simp <;> omega) (by omega)).mono ?_
                rintro e w2 ⟨rfl, h2, f2⟩
                have HR := Lib.hid (And.intro h2 (And.intro (HI1.out.keep f2.others (by omega)) (And.intro ((HW.out.trans HB1.out).trans f2.below) (HQ.out.one hlt HT.out HX.out))))
                clear h2 f2
                go_wp2
                go_roundw
                case rel => exact ⟨k + 1, _, _, by omega, by go_num, HR.out.1, HR.out.2.1, HR.out.2.2.1, HR.out.2.2.2⟩
                case measure => simp [intOf]; omega
              case false =>
                have hx : wayB s[k] (lastB (s.data.toList.drop (k + 1))) = [s[k]] := wayB_1 (asIs_blank hbl (by rw [HL.out]; exact hlv))
                have HX := Lib.hid hx
                clear hx
                have HP := Lib.hid hp
                clear hp
                have HK := Lib.hid hbl
                clear hbl
                have HT := Lib.hid h10
                clear h10
                go_wp2_with fail
                refine (plain_no _ wr HP.out).mono ?_
                rintro e w1 ⟨rfl, rfl⟩
                go_wp2_with fail
                refine (blank_yes _ wr HK.out).mono ?_
                rintro e w1 ⟨rfl, rfl⟩
                go_wp2_with fail
                refine (room_any w.heap.size w.heap.size (w.heap.size + 1) out line 1 wr HB.out HI.out (by omega) (by omega) (by omega) (by omega) (by omega) (by omega)).mono ?_
                rintro e w1 ⟨rfl, h1, i1, b1⟩
                have hz := b1.size
                have HI1 := Lib.hid i1
                have H1 := Lib.hid h1
                have HB1 := Lib.hid b1
                have hr := roomS_le line 1
                clear h1 i1 b1 ci fi
                go_wp2_with fail
                refine (bvByte _ _ _ _ s[k] w1 H1.out rfl (by simp <;> omega) (by omega)).mono ?_
                rintro e w2 ⟨rfl, h2, f2⟩
                have HR := Lib.hid (And.intro h2 (And.intro (HI1.out.keep f2.others (by omega)) (And.intro ((HW.out.trans HB1.out).trans f2.below) (HQ.out.one hlt HT.out HX.out))))
                clear h2 f2
                go_wp2
                go_roundw
                case rel => exact ⟨k + 1, _, _, by omega, by go_num, HR.out.1, HR.out.2.1, HR.out.2.2.1, HR.out.2.2.2⟩
                case measure => simp [intOf]; omega
    · have hks : s.size ≤ k := by omega
      go_wp2_with fail
      refine (bvGet _ _ _ wr HB.out (by omega)).mono ?_
      rintro e w1 ⟨rfl, h1⟩
      have HE := Lib.hid (HW.out.trans h1)
      clear h1
      go_wp2
      go_ret
      refine ⟨?_, HE.out⟩
      rw [HQ.out.end_ hks]
      rfl


end Go.Proofs.YthpdpnegbkmbkaaGreatDoor
