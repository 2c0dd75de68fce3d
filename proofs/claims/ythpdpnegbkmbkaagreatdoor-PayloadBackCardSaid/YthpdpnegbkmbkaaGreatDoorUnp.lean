/- What a quotation stands for, in plain words, with no program in sight; and rows of bytes. -/
import Derived.Test.YthpdpnegbkmbkaaGreatDoorRta
import Derived.Laws.BytesArg
import Derived.Laws.IdiomStrings
import Derived.Lib.Bytealg
set_option linter.unusedVariables false
set_option linter.unusedSimpArgs false
namespace Go.Proofs.YthpdpnegbkmbkaaGreatDoor
open Go.RowKit

/-- A hex digit's number; 16: it is none. -/
def digN (c : UInt8) : Nat := hexD.data.toList.findIdx (· == c)
theorem digN_le (c : UInt8) : digN c ≤ 16 := List.findIdx_le_length
theorem digN_cr {c : UInt8} (h : c.toNat = 13) : digN c = 16 := by
  have e : c = 13 := UInt8.toNat_inj.1 (by simpa using h)
  subst e
  decide
theorem digN_all : ((List.range 256).all fun n => Lib.indexByte hexD.data.toList (UInt8.ofNat n) == (if digN (UInt8.ofNat n) < 16 then (digN (UInt8.ofNat n) : Int) else -1)) = true := by kernel_rfl
theorem digN_index (c : UInt8) : Lib.indexByte hexD.data.toList c = if digN c < 16 then (digN c : Int) else -1 := by
  have := List.all_eq_true.1 digN_all c.toNat (List.mem_range.2 c.toNat_lt)
  simpa using this

def unqA : List UInt8 → List UInt8
  | [] => []
  | [c] => [c]
  | [c, a] => if c.toNat = 13 ∧ a.toNat = 10 then [10] else [c, a]
  | c :: a :: b :: r =>
    if c.toNat = 61 ∧ a.toNat = 13 ∧ b.toNat = 10 then unqA r
    else if c.toNat = 61 ∧ digN a < 16 ∧ digN b < 16 then UInt8.ofNat (16 * digN a + digN b) :: unqA r
    else if c.toNat = 13 ∧ a.toNat = 10 then 10 :: unqA (b :: r)
    else c :: unqA (a :: b :: r)

/-- The state of a reading: what is read, and what is left. -/
def UAt (S r out : List UInt8) : Prop := out ++ unqA r = unqA S ∧ out.length + r.length ≤ S.length
theorem UAt.start (S : List UInt8) : UAt S S [] := ⟨rfl, by simp⟩
theorem UAt.end_ {S out : List UInt8} (h : UAt S [] out) : out = unqA S := by
  have := h.1
  simpa [unqA] using this
theorem UAt.soft {S r out : List UInt8} {c a b : UInt8} (h : UAt S (c :: a :: b :: r) out) (hc : c.toNat = 61) (ha : a.toNat = 13) (hb : b.toNat = 10) : UAt S r out := by
  obtain ⟨h1, h2⟩ := h
  rw [unqA, if_pos ⟨hc, ha, hb⟩] at h1
  exact ⟨h1, by simp at h2; omega⟩
theorem UAt.hexa {S r out : List UInt8} {c a b : UInt8} (h : UAt S (c :: a :: b :: r) out) (hc : c.toNat = 61) (ha : digN a < 16) (hb : digN b < 16) : UAt S r (out ++ [UInt8.ofNat (16 * digN a + digN b)]) := by
  obtain ⟨h1, h2⟩ := h
  have hn : ¬ (c.toNat = 61 ∧ a.toNat = 13 ∧ b.toNat = 10) := by
    rintro ⟨_, g, _⟩
    have := digN_cr g
    omega
  rw [unqA, if_neg hn, if_pos ⟨hc, ha, hb⟩] at h1
  exact ⟨by simpa using h1, by simp at h2 ⊢; omega⟩
theorem UAt.line {S r out : List UInt8} {c a : UInt8} (h : UAt S (c :: a :: r) out) (hc : c.toNat = 13) (ha : a.toNat = 10) : UAt S r (out ++ [10]) := by
  obtain ⟨h1, h2⟩ := h
  refine ⟨?_, by simp at h2 ⊢; omega⟩
  rw [← h1]
  cases r with
  | nil => simp [unqA, hc, ha]
  | cons b r => rw [unqA, if_neg (by omega), if_neg (by omega), if_pos ⟨hc, ha⟩]; simp
theorem UAt.one {S r out : List UInt8} {c : UInt8} (h : UAt S (c :: r) out) (h1 : ∀ a b t, r = a :: b :: t → ¬ (c.toNat = 61 ∧ a.toNat = 13 ∧ b.toNat = 10) ∧ ¬ (c.toNat = 61 ∧ digN a < 16 ∧ digN b < 16)) (h2 : ∀ a t, r = a :: t → ¬ (c.toNat = 13 ∧ a.toNat = 10)) :
    UAt S r (out ++ [c]) := by
  obtain ⟨g1, g2⟩ := h
  refine ⟨?_, by simp at g2 ⊢; omega⟩
  rw [← g1]
  match r, h1, h2 with
  | [], _, _ => simp [unqA]
  | [a], _, h2 => simp [unqA, h2 a [] rfl]
  | a :: b :: t, h1, h2 =>
    obtain ⟨x1, x2⟩ := h1 a b t rfl
    rw [unqA, if_neg x1, if_neg x2, if_neg (h2 a _ rfl)]
    simp
theorem UAt.plain {S r out : List UInt8} {c : UInt8} (h : UAt S (c :: r) out) (h1 : c.toNat ≠ 61) (h2 : c.toNat ≠ 13) : UAt S r (out ++ [c]) :=
  h.one (fun a b t _ => ⟨fun g => h1 g.1, fun g => h1 g.1⟩) (fun a t _ g => h2 g.1)
theorem UAt.short {S r out : List UInt8} {c : UInt8} (h : UAt S (c :: r) out) (h1 : c.toNat = 61) (h2 : r.length < 2) : UAt S r (out ++ [c]) :=
  h.one (fun a b t e => by subst e; simp at h2; omega) (fun a t _ g => by omega)
theorem UAt.nohex {S r out : List UInt8} {c a b : UInt8} (h : UAt S (c :: a :: b :: r) out) (h1 : c.toNat = 61) (h2 : ¬ (a.toNat = 13 ∧ b.toNat = 10)) (h3 : ¬ (digN a < 16 ∧ digN b < 16)) : UAt S (a :: b :: r) (out ++ [c]) :=
  h.one (fun a b t e => by injection e with e1 e; injection e with e2 e; subst e1; subst e2; exact ⟨fun g => h2 g.2, fun g => h3 g.2⟩) (fun a t _ g => by omega)
theorem UAt.noline {S r out : List UInt8} {c : UInt8} (h : UAt S (c :: r) out) (h1 : c.toNat = 13) (h2 : ∀ a t, r = a :: t → a.toNat ≠ 10) : UAt S r (out ++ [c]) :=
  h.one (fun a b t _ => ⟨fun g => by omega, fun g => by omega⟩) (fun a t e g => h2 a t e g.2)

/-- A row of bytes of the call's own. -/
def Byr (B : Nat) (v : Value) (l : List UInt8) (w : World) : Prop := w.ownsRow B 5 1 v l.length (Lib.byteCells l)
theorem Byr.nil (B : Nat) (w : World) : Byr B (.slice none 0 0) [] w := World.ownsRow_nil _ _ _ _
theorem Byr.some {B : Nat} {v : Value} {l : List UInt8} {w : World} (h : Byr B v l w) (hn : l ≠ []) : ∃ g cap, v = .slice (some ⟨g, 0, none⟩) l.length cap := by
  rcases h.2 with ⟨_, h0⟩ | ⟨g, cap, cur, hv, _⟩
  · exact absurd (List.length_eq_zero_iff.1 h0) hn
  · exact ⟨g, cap, hv⟩
theorem Byr.text {H : Nat} {v : Value} {l : List UInt8} {w : World} (h : Byr H v l w) : ∀ dst, Tryz.prog.underlying dst = Option.some TypeDesc.string → (convert 62 dst v).run Tryz.prog w = .ok (.string (B l)) w := by
  intro dst hd
  by_cases hn : l = []
  · subst hn
    rcases h.2 with ⟨rfl, _⟩ | ⟨g, cap, cur, hv, _⟩
    · exact run_convert_bytes_nil w 62 5 Tryz.underlying62 Tryz.underlying5 0 0 dst hd
    · subst hv
      exact run_convert_bytes_back w 62 dst 5 ⟨g, 0, none⟩ cap [] Tryz.underlying62 Tryz.underlying5 hd (fun j hj => by simp at hj)
  · obtain ⟨g, cap, rfl⟩ := h.some hn
    refine run_convert_bytes_back w 62 dst 5 ⟨g, 0, none⟩ cap l Tryz.underlying62 Tryz.underlying5 hd (fun j hj => ?_)
    exact h.cells (g := g) rfl j _ (by simp [Lib.byteCells, hj])

end Go.Proofs.YthpdpnegbkmbkaaGreatDoor
