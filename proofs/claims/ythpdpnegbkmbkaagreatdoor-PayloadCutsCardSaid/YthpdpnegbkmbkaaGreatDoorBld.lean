/- The writing methods of strings.Builder at a builder that lies anywhere in a block of the call's own (a variable, or a field of a struct): what they leave, and that nothing else turns. -/
import Derived.Test.YthpdpnegbkmbkaaGreatDoorProg
import Derived.WalkKit
import Derived.WalkSpells
import Derived.Lib.Builder
import Derived.Lib.OthersKept
import Derived.Lib.Strings
import Derived.Lib.Slices
import Derived.Lib.Walk
import Derived.Lib.Hide
import Derived.Lib.MakeNoZero
import Derived.Laws.Externs
import Derived.Laws.IdiomCopy
import Derived.Laws.BitsLemmas
set_option linter.unusedVariables false
set_option linter.unusedSimpArgs false
namespace Go.Proofs.YthpdpnegbkmbkaaGreatDoor
open Go.RowKit

/-- Block b, of type T, holds the cells cs, and from place o on lies a builder that holds the bytes l. -/
def BdA (B b o : Nat) (T : TypeId) (cs : Array Value) (p : Value) (l : List Value) (w : World) : Prop :=
  B ≤ b ∧ T ≠ 5 ∧ w.heap[b]? = some (.cells cs T (0, 0)) ∧ cs[o]? = some p ∧ ∃ v, cs[o + 1]? = some v ∧ w.ownsRow B 5 1 v l.length l

def Bd (B b o : Nat) (T : TypeId) (cs : Array Value) (l : List Value) (w : World) : Prop :=
  BdA B b o T cs (.pointer none) l w ∨ BdA B b o T cs (.pointer (some ⟨b, o, none⟩)) l w

/-- What a method call leaves: the other cells of the block stand; other blocks stand. -/
structure BdStep (B b o : Nat) (cs cs' : Array Value) (w w' : World) : Prop where
  size : cs'.size = cs.size
  rest : ∀ j, j ≠ o → j ≠ o + 1 → cs'[j]? = cs[j]?
  below : Below B w w'
  others : Lib.OthersKept 5 (some b) w w'

theorem BdStep.refl (B b o : Nat) (cs : Array Value) (w : World) : BdStep B b o cs cs w w := ⟨rfl, fun _ _ _ => rfl, Below.refl _ _, Lib.OthersKept.refl _ _ _⟩
theorem BdStep.trans {B b o : Nat} {c1 c2 c3 : Array Value} {w1 w2 w3 : World} (h : BdStep B b o c1 c2 w1 w2) (k : BdStep B b o c2 c3 w2 w3) : BdStep B b o c1 c3 w1 w3 :=
  ⟨k.size.trans h.size, fun j h0 h1 => (k.rest j h0 h1).trans (h.rest j h0 h1), h.below.trans k.below, h.others.trans k.others⟩

theorem BdA.lt {B b o : Nat} {T : TypeId} {cs : Array Value} {p : Value} {l : List Value} {w : World} (h : BdA B b o T cs p l w) : b < w.heap.size := by
  obtain ⟨_, _, hb, _⟩ := h
  rcases Nat.lt_or_ge b w.heap.size with h' | h'
  · exact h'
  · simp [Array.getElem?_eq_none h'] at hb

theorem Bd.any {B b o : Nat} {T : TypeId} {cs : Array Value} {l : List Value} {w : World} (h : Bd B b o T cs l w) : ∃ p, BdA B b o T cs p l w := by
  rcases h with h | h <;> exact ⟨_, h⟩

theorem set_get {cs : Array Value} {o j : Nat} (v : Value) (h : j ≠ o) : (cs.setIfInBounds o v)[j]? = cs[j]? := by
  rw [Array.getElem?_setIfInBounds, if_neg (fun e => h e.symm)]
theorem set_at {cs : Array Value} {o : Nat} {u : Value} (v : Value) (h : cs[o]? = some u) : (cs.setIfInBounds o v)[o]? = some v := by
  rw [Array.getElem?_setIfInBounds, if_pos rfl, if_pos]
  rcases Nat.lt_or_ge o cs.size with h' | h'
  · exact h'
  · simp [Array.getElem?_eq_none h'] at h

theorem heap_set {w : World} {b o : Nat} {cs : Array Value} {T : TypeId} {fr : Nat × Nat} (hb : w.heap[b]? = some (.cells cs T fr)) (v : Value) : (w.setCell ⟨b, o, none⟩ v).heap[b]? = some (.cells (cs.setIfInBounds o v) T fr) := by
  simp [World.setCell, Array.getElem?_modify, hb]

/-- A store of its own address into 'addr'. -/
theorem BdA.used {B b o : Nat} {T : TypeId} {cs : Array Value} {p : Value} {l : List Value} {w : World} (h : BdA B b o T cs p l w) (q : Value) :
    BdA B b o T (cs.setIfInBounds o q) q l (w.setCell ⟨b, o, none⟩ q) ∧ BdStep B b o cs (cs.setIfInBounds o q) w (w.setCell ⟨b, o, none⟩ q) := by
  have hlt := h.lt
  obtain ⟨hB, hT, hb, h0, v, h1, hown⟩ := h
  have hne := Lib.ownBlock_ne hown hb hT
  refine ⟨⟨hB, hT, heap_set hb q, set_at q h0, v, (set_get q (by omega)).trans h1, ?_⟩, by simp, fun j hj _ => set_get q hj, (Below.refl _ _).setCell (p := ⟨b, o, none⟩) hB _, (Lib.OthersKept.refl _ _ _).setCell ⟨b, o, none⟩ rfl _⟩
  exact hown.kept (row := some b) ⟨rfl, rfl, rfl, by simp [World.setCell], fun k _ hk => Below.heap_setCell _ _ _ _ (fun e => hk (by simp [e]))⟩ (Or.inr hne)

/-- A new buffer laid into 'buf'. -/
theorem BdA.put {B b o : Nat} {T : TypeId} {cs : Array Value} {p v v' : Value} {l' : List Value} {w : World} (hB : B ≤ b) (hT : T ≠ 5) (hb : w.heap[b]? = some (.cells cs T (0, 0))) (h0 : cs[o]? = some p) (h1 : cs[o + 1]? = some v)
    (hown : w.ownsRow B 5 1 v' l'.length l') : BdA B b o T (cs.setIfInBounds (o + 1) v') p l' (w.setCell ⟨b, o + 1, none⟩ v') := by
  have hne := Lib.ownBlock_ne hown hb hT
  refine ⟨hB, hT, heap_set hb v', (set_get v' (by omega)).trans h0, v', set_at v' h1, ?_⟩
  exact hown.kept (row := some b) ⟨rfl, rfl, rfl, by simp [World.setCell], fun k _ hk => Below.heap_setCell _ _ _ _ (fun e => hk (by simp [e]))⟩ (Or.inr hne)

theorem own_row_typed {w : World} {B : Nat} {e : TypeId} {v : Value} {n : Nat} {xs : List Value} (hown : w.ownsRow B e 1 v n xs) : ∀ g, v.ownBlock = some g → ∃ c fz, w.heap[g]? = some (.cells c e fz) := by
  intro g hg
  rcases hown.2 with ⟨rfl, _⟩ | ⟨k, cap, cur, rfl, _, hk, _⟩
  · simp [Value.ownBlock] at hg
  · simp [Value.ownBlock] at hg
    subst hg
    exact ⟨_, _, hk⟩

theorem sizeBld : (Tryz.prog.info? 64).map (·.size) = some 2 := by kernel_rfl
theorem infoByte : (Tryz.prog.info? 5).map (fun i => (i.zero, i.size, i.bytes)) = some (some (.int .u8 0), 1, 1) := by kernel_rfl
theorem cellsByte : Tryz.prog.cellsOf 5 = 1 := by kernel_rfl

set_option maxHeartbeats 1000000 in
set_option maxRecDepth 100000 in
theorem copyCheck_any (B b o : Nat) (T : TypeId) (cs : Array Value) (l : List Value) (w : World) (h : Bd B b o T cs l w) (hL : liesAt Tryz.prog Tryz.prog.depth T (cs.size / Tryz.prog.cellsOf T) o 64 1 = true) :
    Calls Tryz.prog 54 #[.pointer (some ⟨b, o, none⟩)] w fun e w' => e = .returned (.tuple #[]) ∧ ∃ cs', BdA B b o T cs' (.pointer (some ⟨b, o, none⟩)) l w' ∧ BdStep B b o cs cs' w w' := by
  obtain ⟨j, hj, hjs⟩ := Option.map_eq_some_iff.1 sizeBld
  rcases h with h | h
  · have hU := h.used (.pointer (some ⟨b, o, none⟩))
    obtain ⟨hB, hT, hb, h0, v, h1, hown⟩ := h
    have c0 : w.cell? ⟨b, o, none⟩ = some (.pointer none) := by rw [Lib.cell_of_heap hb]; exact h0
    have f0 : w.frozen? ⟨b, o, none⟩ = false := Lib.frozen_of_heap hb o
    have hsh : w.shape? b = some (T, cs.size) := by simp [World.shape?, hb]
    have ho : o < cs.size := by
      rcases Nat.lt_or_ge o cs.size with h' | h'
      · exact h'
      · simp [Array.getElem?_eq_none h'] at h0
    have HU := Lib.hid hU
    have HL := Lib.hid hL
    have Hsh := Lib.hid hsh
    clear hU h1 hown hb h0 hL hsh
    go_enter Tryz.func54, Tryz.ntmps54
    go_wp2
    rw [Lib.run_to_unsafe w ⟨b, o, none⟩ Tryz.underlying61 Tryz.underlying109 hj (by rw [hjs]; decide) Hsh.out ho]
    simp only [Result.andThen]
    rw [Oper.upon_value]
    go_wp2
    rw [run_callFunc_extern Tryz.func72 (by kernel_rfl) (by kernel_rfl) (by kernel_rfl) (e := Extern.AbiNoEscape.same) (by kernel_rfl)]
    rw [Lib.run_noEscape]
    simp only [Result.andThen]
    rw [Oper.upon_value]
    go_wp2
    rw [Lib.run_from_unsafe w ⟨b, o, none⟩ Tryz.underlying109 Tryz.underlying61 hj Hsh.out HL.out]
    simp only [Result.andThen]
    rw [Oper.upon_value]
    go_wp2
    go_end0
    exact ⟨rfl, _, HU.out⟩
  · have hU := h
    obtain ⟨hB, hT, hb, h0, v, h1, hown⟩ := h
    have c0 : w.cell? ⟨b, o, none⟩ = some (.pointer (some ⟨b, o, none⟩)) := by rw [Lib.cell_of_heap hb]; exact h0
    have HU := Lib.hid hU
    clear hU h1 hown hb h0 hL
    go_enter Tryz.func54, Tryz.ntmps54
    go_wp2
    rw [Lib.run_neq_ptr_same w _ Tryz.underlying61 hj]
    go_wp2
    go_end0
    exact ⟨rfl, cs, HU.out, BdStep.refl _ _ _ _ _⟩

set_option maxHeartbeats 2000000 in
set_option maxRecDepth 100000 in
theorem writeByte_any (B b o : Nat) (T : TypeId) (cs : Array Value) (l : List Value) (c : Int) (w : World) (h : Bd B b o T cs l w) (hL : liesAt Tryz.prog Tryz.prog.depth T (cs.size / Tryz.prog.cellsOf T) o 64 1 = true) (hlen : l.length + 1 ≤ 140737488355328) (hBw : B ≤ w.heap.size) :
    Calls Tryz.prog 33 #[.pointer (some ⟨b, o, none⟩), .int .u8 c] w fun e w' => e = .returned .nilIface ∧ ∃ cs', BdA B b o T cs' (.pointer (some ⟨b, o, none⟩)) (l ++ [.int .u8 c]) w' ∧ BdStep B b o cs cs' w w' := by
  obtain ⟨i0, hi, hz0, hz1, hz2⟩ := info_parts infoByte
  have HL := Lib.hid hL
  clear hL
  go_enter Tryz.func33, Tryz.ntmps33
  go_wp2_with (go_at_call 54; refine (copyCheck_any B b o T cs l _ h HL.out).mono ?_)
  rintro e w1 ⟨rfl, cs1, hA, hS⟩
  have hlt := hA.lt
  obtain ⟨hB, hT, hb, h0, v, h1, hown⟩ := hA
  have hne := Lib.ownBlock_ne hown hb hT
  have hty : ∀ g, v.ownBlock = some g → ∃ c fz, w1.heap[g]? = some (.cells c 5 fz) := own_row_typed hown
  have Hty := Lib.hid hty
  clear hty
  have c1 : w1.cell? ⟨b, o + 1, none⟩ = some v := by rw [Lib.cell_of_heap hb]; exact h1
  have hsz := hS.below.size
  have HS := Lib.hid hS
  have HT := Lib.hid hT
  clear hS h hT
  go_wp2_with (at_builtin; refine wpList_append_own _ rfl _ _ 62 rfl B 5 i0 (.int .u8 0) 1 1 Tryz.underlying62 hi hz0 hz1 hz2 rfl (by decide) _ _ _ rfl (hown.alloc _) ⟨w1.heap.size, 0, none⟩ 1 1 [.int .u8 c] rfl rfl ?c1 ?c2 ?c3 ?c4 ?c5 ?_)
  case c1 =>
    intro j u hj
    match j, hj with
    | 0, hj => simp at hj; subst hj; simp [Addr.add]
  case c2 => intro u hu; simp at hu; subst hu; rfl
  case c3 => unfold maxLen; omega
  case c4 => omega
  case c5 => simp; omega
  intro v' w2 hown' hgrow _
  have hb2 : w2.heap[b]? = some (.cells cs1 T (0, 0)) := by
    rw [hgrow.block b (by simp; omega) (fun e => hne e.symm), Lib.alloc_old w1 _ b hlt]
    exact hb
  have d1 : w2.cell? ⟨b, o + 1, none⟩ = some v := by rw [Lib.cell_of_heap hb2]; exact h1
  have f1 : w2.frozen? ⟨b, o + 1, none⟩ = false := Lib.frozen_of_heap hb2 _
  obtain ⟨g, cap, rfl⟩ : ∃ g cap, v' = .slice (some ⟨g, 0, none⟩) (l.length + 1) cap := by
    rcases hown'.2 with ⟨_, h0⟩ | ⟨g, cap, cur, hv, _⟩
    · omega
    · exact ⟨g, cap, hv⟩
  have HH := Lib.hid (And.intro h0 h1)
  clear h0 h1
  go_wp2
  go_ret
  refine ⟨rfl, _, BdA.put (l' := l ++ [.int .u8 c]) hB HT.out hb2 HH.out.1 HH.out.2 (by simpa using hown'), ?_⟩
  refine HS.out.trans ⟨by simp, fun j _ hj => set_get _ hj, ?_, ?_⟩
  · exact (((Below.refl _ _).alloc (by omega) _).grown hgrow (by simp; omega) (fun k hk => (hown.lt k hk).1)).setCell (p := ⟨b, o + 1, none⟩) hB _
  · refine (((Lib.OthersKept.refl _ _ _).alloc _).grown hgrow ?_).setCell ⟨b, o + 1, none⟩ rfl _
    intro g hg
    obtain ⟨c0, fz, hc⟩ := Hty.out g hg
    have hgl := (hown.lt g hg).2
    exact ⟨c0, fz, (Lib.alloc_old w1 _ g hgl).trans hc⟩

set_option maxHeartbeats 2000000 in
set_option maxRecDepth 100000 in
theorem writeString_any (B b o : Nat) (T : TypeId) (cs : Array Value) (l : List Value) (s : ByteArray) (w : World) (h : Bd B b o T cs l w) (hL : liesAt Tryz.prog Tryz.prog.depth T (cs.size / Tryz.prog.cellsOf T) o 64 1 = true) (hlen : l.length + s.size ≤ 140737488355328) (hBw : B ≤ w.heap.size) :
    Calls Tryz.prog 31 #[.pointer (some ⟨b, o, none⟩), .string s] w fun e w' => e = .returned (.tuple #[.int .i64 s.size, .nilIface]) ∧ ∃ cs', BdA B b o T cs' (.pointer (some ⟨b, o, none⟩)) (l ++ Lib.strCells s) w' ∧ BdStep B b o cs cs' w w' := by
  obtain ⟨i0, hi, hz0, hz1, hz2⟩ := info_parts infoByte
  have HL := Lib.hid hL
  clear hL
  go_enter Tryz.func31, Tryz.ntmps31
  go_wp2_with (go_at_call 54; refine (copyCheck_any B b o T cs l _ h HL.out).mono ?_)
  rintro e w1 ⟨rfl, cs1, hA, hS⟩
  have hlt := hA.lt
  obtain ⟨hB, hT, hb, h0, v, h1, hown⟩ := hA
  have hne := Lib.ownBlock_ne hown hb hT
  have hty : ∀ g, v.ownBlock = some g → ∃ c fz, w1.heap[g]? = some (.cells c 5 fz) := own_row_typed hown
  have Hty := Lib.hid hty
  clear hty
  have c1 : w1.cell? ⟨b, o + 1, none⟩ = some v := by rw [Lib.cell_of_heap hb]; exact h1
  have hsz := hS.below.size
  have HS := Lib.hid hS
  have HT := Lib.hid hT
  clear hS h hT
  go_wp2_with (at_builtin; refine Lib.wpList_append_own_string _ rfl _ _ 62 9 rfl B 5 i0 Tryz.underlying62 Tryz.underlying9 hi hz0 hz1 hz2 _ _ _ rfl hown s rfl ?c3 ?c4 ?c5 ?_)
  case c3 => unfold maxLen; omega
  case c4 => omega
  case c5 => omega
  intro v' w2 hown' hgrow _
  have hb2 : w2.heap[b]? = some (.cells cs1 T (0, 0)) := by
    rw [hgrow.block b hlt (fun e => hne e.symm)]
    exact hb
  have d1 : w2.cell? ⟨b, o + 1, none⟩ = some v := by rw [Lib.cell_of_heap hb2]; exact h1
  have f1 : w2.frozen? ⟨b, o + 1, none⟩ = false := Lib.frozen_of_heap hb2 _
  obtain ⟨ao, n', cap, rfl⟩ : ∃ ao n' cap, v' = .slice ao n' cap := by
    rcases hown'.2 with ⟨hv, _⟩ | ⟨g, cap, cur, hv, _⟩
    · exact ⟨_, _, _, hv⟩
    · exact ⟨_, _, _, hv⟩
  have HH := Lib.hid (And.intro h0 h1)
  clear h0 h1
  go_wp2
  go_ret2
  refine ⟨rfl, _, BdA.put (l' := l ++ Lib.strCells s) hB HT.out hb2 HH.out.1 HH.out.2 (by simpa [Lib.strCells_length] using hown'), ?_⟩
  refine HS.out.trans ⟨by simp, fun j _ hj => set_get _ hj, ?_, ?_⟩
  · exact ((Below.refl _ _).grown hgrow (by omega) (fun k hk => (hown.lt k hk).1)).setCell (p := ⟨b, o + 1, none⟩) hB _
  · exact ((Lib.OthersKept.refl _ _ _).grown hgrow Hty.out).setCell ⟨b, o + 1, none⟩ rfl _

set_option maxHeartbeats 1000000 in
set_option maxRecDepth 100000 in
theorem builderLen_any (B b o : Nat) (T : TypeId) (cs : Array Value) (p : Value) (l : List Value) (w : World) (h : BdA B b o T cs p l w) :
    Calls Tryz.prog 130 #[.pointer (some ⟨b, o, none⟩)] w fun e w' => e = .returned (.int .i64 l.length) ∧ w' = w := by
  obtain ⟨hB, hT, hb, h0, v, h1, hown⟩ := h
  obtain ⟨ao, cap, rfl⟩ : ∃ ao cap, v = .slice ao l.length cap := by
    rcases hown.2 with ⟨hv, h0⟩ | ⟨g, cap, cur, hv, _⟩
    · exact ⟨none, 0, by rw [hv, h0]⟩
    · exact ⟨_, _, hv⟩
  have c1 : w.cell? ⟨b, o + 1, none⟩ = some (.slice ao l.length cap) := by rw [Lib.cell_of_heap hb]; exact h1
  clear hB hT hb h0 h1 hown
  go_enter Tryz.func130, Tryz.ntmps130
  go_wp2
  go_ret
  exact ⟨rfl, rfl⟩

theorem unsafeString_none (W : World) (q : Option Addr) : (Builtin.unsafeString_ #[85, 3] 9 #[.pointer q, .int .i64 0]).run Tryz.prog W = .ok (.string .empty) W :=
  Lib.run_unsafeString_none W _ _ _ q

set_option maxHeartbeats 2000000 in
set_option maxRecDepth 100000 in
theorem builderString_nil (B b o : Nat) (w : World) (c1 : w.drew.cell? ⟨b, o + 1, none⟩ = some (.slice none 0 0)) :
    Calls Tryz.prog 35 #[.pointer (some ⟨b, o, none⟩)] w fun e w' => e = .returned (.string ⟨#[]⟩) ∧ Below B w w' := by
  have hUS := unsafeString_none
  have hSD : (Builtin.unsafeSliceData_ #[62] 85 #[.slice none 0 0]).run Tryz.prog w.drew = .ok (.pointer none) w.drew := rfl
  go_enter Tryz.func35, Tryz.ntmps35
  go_wp2
  go_region
  all_goals (go_wp2; go_ret; exact ⟨rfl, Below.drew (Below.refl B w)⟩)

set_option maxHeartbeats 2000000 in
set_option maxRecDepth 100000 in
theorem builderString_noroom (B b o g : Nat) (cur cs : Array Value) (T : TypeId) (w : World) (hBw : B ≤ w.heap.size) (hbk : w.heap[b]? = some (.cells cs T (0, 0))) (h1 : cs[o + 1]? = some (.slice (some ⟨g, 0, none⟩) 0 0)) (hg : w.heap[g]? = some (.cells cur 5 (0, 0))) :
    Calls Tryz.prog 35 #[.pointer (some ⟨b, o, none⟩)] w fun e w' => e = .returned (.string ⟨#[]⟩) ∧ Below B w w' := by
  have hUS := unsafeString_none
  have hlt : b < w.heap.size := by
    rcases Nat.lt_or_ge b w.heap.size with h' | h'
    · exact h'
    · simp [Array.getElem?_eq_none h'] at hbk
  have c1 : w.drew.cell? ⟨b, o + 1, none⟩ = some (.slice (some ⟨g, 0, none⟩) 0 0) := by
    have : w.drew.heap[b]? = some (.cells cs T (0, 0)) := hbk
    rw [Lib.cell_of_heap this]; exact h1
  have hSD : (Builtin.unsafeSliceData_ #[62] 85 #[.slice (some ⟨g, 0, none⟩) 0 0]).run Tryz.prog w.drew = .ok (.pointer (some ⟨w.drew.heap.size, 0, none⟩)) (w.drew.alloc (.view ⟨g, 0, none⟩ 5)) :=
    Lib.run_unsafeSliceData_zero w.drew _ _ 5 Tryz.underlying85 ⟨g, 0, none⟩ 0 (5, cur.size) (by have hg' : w.drew.heap[g]? = some (.cells cur 5 (0, 0)) := hg; simp [World.shape?, hg'])
  have c2 : (w.drew.alloc (.view ⟨g, 0, none⟩ 5)).cell? ⟨b, o + 1, none⟩ = some (.slice (some ⟨g, 0, none⟩) 0 0) := by
    have : (w.drew.alloc (.view ⟨g, 0, none⟩ 5)).heap[b]? = _ := (Lib.alloc_old w.drew _ b hlt).trans hbk
    rw [Lib.cell_of_heap this]; exact h1
  have c3 : (w.alloc (.view ⟨g, 0, none⟩ 5)).drew.cell? ⟨b, o + 1, none⟩ = some (.slice (some ⟨g, 0, none⟩) 0 0) := c2
  have c0 : w.cell? ⟨b, o + 1, none⟩ = some (.slice (some ⟨g, 0, none⟩) 0 0) := c1
  clear hbk h1 hg
  go_enter Tryz.func35, Tryz.ntmps35
  go_wp2
  go_region
  all_goals (go_wp2; go_ret; exact ⟨rfl, (Below.drew (Below.refl B w)).alloc hBw _⟩)

set_option maxHeartbeats 2000000 in
set_option maxRecDepth 100000 in
theorem builderString_room (B b o g cap : Nat) (w : World) (hc0 : cap ≠ 0) (c1 : w.drew.cell? ⟨b, o + 1, none⟩ = some (.slice (some ⟨g, 0, none⟩) 0 cap)) :
    Calls Tryz.prog 35 #[.pointer (some ⟨b, o, none⟩)] w fun e w' => e = .returned (.string ⟨#[]⟩) ∧ Below B w w' := by
  have hUS := unsafeString_none
  have hSD : (Builtin.unsafeSliceData_ #[62] 85 #[.slice (some ⟨g, 0, none⟩) 0 cap]).run Tryz.prog w.drew = .ok (.pointer (some ⟨g, 0, none⟩)) w.drew :=
    Lib.run_unsafeSliceData_row _ _ _ _ _ _ hc0
  clear hc0
  go_enter Tryz.func35, Tryz.ntmps35
  go_wp2
  go_region
  all_goals (go_wp2; go_ret; exact ⟨rfl, Below.drew (Below.refl B w)⟩)

set_option maxHeartbeats 2000000 in
set_option maxRecDepth 100000 in
theorem builderString_some (B b o g cap : Nat) (l : List UInt8) (cur : Array Value) (w : World) (h0 : l ≠ []) (c1 : w.drew.cell? ⟨b, o + 1, none⟩ = some (.slice (some ⟨g, 0, none⟩) l.length cap))
    (hbg : B ≤ g) (hg : w.heap[g]? = some (.cells cur 5 (0, 0))) (hnc : l.length ≤ cap) (hcm : cap ≤ maxLen) (hcs : cur.size = cap * 1) (hown : w.ownsRow B 5 1 (.slice (some ⟨g, 0, none⟩) l.length cap) l.length (Lib.byteCells l)) :
    Calls Tryz.prog 35 #[.pointer (some ⟨b, o, none⟩)] w fun e w' => e = .returned (.string ⟨l.toArray⟩) ∧ Below B w w' := by
  have hl0 : l.length ≠ 0 := by simpa using h0
  have hSD : (Builtin.unsafeSliceData_ #[62] 85 #[.slice (some ⟨g, 0, none⟩) l.length cap]).run Tryz.prog w.drew = .ok (.pointer (some ⟨g, 0, none⟩)) w.drew :=
    Lib.run_unsafeSliceData_row _ _ _ _ _ _ (by omega)
  have hUS : (Builtin.unsafeString_ #[85, 3] 9 #[.pointer (some ⟨g, 0, none⟩), .int .i64 l.length]).run Tryz.prog w.drew = .ok (.string ⟨l.toArray⟩) (w.drew.freeze ⟨g, 0, none⟩ l.length) := by
    refine Lib.run_unsafeString_row w.drew 85 3 9 5 Tryz.underlying85 cellsByte g cur.size (by have hg' : w.drew.heap[g]? = some (.cells cur 5 (0, 0)) := hg; simp [World.shape?, hg']) l h0 (by omega) (by unfold maxLen at hcm; omega) ?_
    intro j x hx
    have := hown.cells (g := g) rfl j (.int .u8 x.toNat) (by simp [Lib.byteCells, hx])
    exact this
  clear hown hg hcs hcm hnc
  go_enter Tryz.func35, Tryz.ntmps35
  go_wp2
  go_region
  all_goals (go_wp2; go_ret; exact ⟨rfl, Lib.below_freeze (Below.drew (Below.refl B w)) (p := ⟨g, 0, none⟩) hbg _⟩)

theorem builderString_any (B b o : Nat) (T : TypeId) (cs : Array Value) (p : Value) (l : List UInt8) (w : World) (h : BdA B b o T cs p (Lib.byteCells l) w) (hBw : B ≤ w.heap.size) :
    Calls Tryz.prog 35 #[.pointer (some ⟨b, o, none⟩)] w fun e w' => e = .returned (.string ⟨l.toArray⟩) ∧ Below B w w' := by
  obtain ⟨hB, hT, hb, h0, v, h1, hown⟩ := h
  rw [Lib.byteCells_length] at hown
  have c1 : w.drew.cell? ⟨b, o + 1, none⟩ = some v := by
    have : w.drew.heap[b]? = some (.cells cs T (0, 0)) := hb
    rw [Lib.cell_of_heap this]; exact h1
  rcases hown.2 with ⟨rfl, hl0⟩ | ⟨g, cap, cur, rfl, hbg, hg, hnc, hcm, hcs, htake⟩
  · obtain rfl : l = [] := List.length_eq_zero_iff.1 hl0
    exact builderString_nil B b o w c1
  · cases l with
    | nil =>
      by_cases hc0 : cap = 0
      · subst hc0
        exact builderString_noroom B b o g cur cs T w hBw hb h1 hg
      · exact builderString_room B b o g cap w hc0 c1
    | cons x r => exact builderString_some B b o g cap (x :: r) cur w (by simp) c1 hbg hg hnc hcm hcs hown

/-! ### A builder in a variable -/
def Bv (B b : Nat) (l : List UInt8) (w : World) : Prop := ∃ cs, cs.size = 2 ∧ Bd B b 0 64 cs (Lib.byteCells l) w
structure Fr (B b : Nat) (w w' : World) : Prop where
  below : Below B w w'
  others : Lib.OthersKept 5 (some b) w w'
theorem Fr.refl (B b : Nat) (w : World) : Fr B b w w := ⟨Below.refl _ _, Lib.OthersKept.refl _ _ _⟩
theorem Fr.trans {B b : Nat} {w1 w2 w3 : World} (h : Fr B b w1 w2) (k : Fr B b w2 w3) : Fr B b w1 w3 := ⟨h.below.trans k.below, h.others.trans k.others⟩
theorem liesBld : ∀ cs : Array Value, cs.size = 2 → liesAt Tryz.prog Tryz.prog.depth 64 (cs.size / Tryz.prog.cellsOf 64) 0 64 1 = true := by
  intro cs h
  rw [h]
  kernel_rfl
theorem neBld : (64 : TypeId) ≠ 5 := by decide
theorem byteCells_one (l : List UInt8) (u : UInt8) : Lib.byteCells l ++ [.int .u8 u.toNat] = Lib.byteCells (l ++ [u]) := by simp [Lib.byteCells]
theorem byteCells_str (l : List UInt8) (s : ByteArray) : Lib.byteCells l ++ Lib.strCells s = Lib.byteCells (l ++ s.data.toList) := by simp [Lib.byteCells, Lib.strCells]
theorem Bv.fresh (w : World) (B : Nat) (hB : B ≤ w.heap.size) : Bv B w.heap.size [] (w.alloc (.cells #[.pointer none, .slice none 0 0] 64)) :=
  ⟨_, rfl, .inl ⟨hB, neBld, heap_alloc_new w _, rfl, _, rfl, World.ownsRow_nil _ _ _ _⟩⟩
theorem Bv.lt {B b : Nat} {l : List UInt8} {w : World} (h : Bv B b l w) : b < w.heap.size := by
  obtain ⟨_, _, h⟩ := h
  obtain ⟨_, h⟩ := h.any
  exact h.lt
theorem Bv.le {B b : Nat} {l : List UInt8} {w : World} (h : Bv B b l w) : B ≤ b := by
  obtain ⟨_, _, h⟩ := h
  obtain ⟨_, h⟩ := h.any
  exact h.1

theorem bvByte (B b : Nat) (l : List UInt8) (c : Int) (u : UInt8) (w : World) (h : Bv B b l w) (hc : c = u.toNat) (hlen : l.length + 1 ≤ 140737488355328) (hBw : B ≤ w.heap.size) :
    Calls Tryz.prog 33 #[.pointer (some ⟨b, 0, none⟩), .int .u8 c] w fun e w' => e = .returned .nilIface ∧ Bv B b (l ++ [u]) w' ∧ Fr B b w w' := by
  obtain ⟨cs, hs, h⟩ := h
  refine (writeByte_any B b 0 _ cs _ c w h (liesBld cs hs) (by rw [Lib.byteCells_length]; exact hlen) hBw).mono ?_
  rintro e w' ⟨rfl, cs', hA, hS⟩
  subst hc
  rw [byteCells_one] at hA
  exact ⟨rfl, ⟨cs', hS.size.trans hs, .inr hA⟩, hS.below, hS.others⟩

theorem bvString (B b : Nat) (l : List UInt8) (s : ByteArray) (w : World) (h : Bv B b l w) (hlen : l.length + s.size ≤ 140737488355328) (hBw : B ≤ w.heap.size) :
    Calls Tryz.prog 31 #[.pointer (some ⟨b, 0, none⟩), .string s] w fun e w' => e = .returned (.tuple #[.int .i64 s.size, .nilIface]) ∧ Bv B b (l ++ s.data.toList) w' ∧ Fr B b w w' := by
  obtain ⟨cs, hs, h⟩ := h
  refine (writeString_any B b 0 _ cs _ s w h (liesBld cs hs) (by rw [Lib.byteCells_length]; exact hlen) hBw).mono ?_
  rintro e w' ⟨rfl, cs', hA, hS⟩
  rw [byteCells_str] at hA
  exact ⟨rfl, ⟨cs', hS.size.trans hs, .inr hA⟩, hS.below, hS.others⟩

theorem bvGet (B b : Nat) (l : List UInt8) (w : World) (h : Bv B b l w) (hBw : B ≤ w.heap.size) :
    Calls Tryz.prog 35 #[.pointer (some ⟨b, 0, none⟩)] w fun e w' => e = .returned (.string ⟨l.toArray⟩) ∧ Below B w w' := by
  obtain ⟨cs, hs, h⟩ := h
  obtain ⟨p, h⟩ := h.any
  exact builderString_any B b 0 _ cs p l w h hBw

end Go.Proofs.YthpdpnegbkmbkaaGreatDoor
