/- A quotation is read as the text was; and its lines are as they should be: in plain words, with no program in sight. -/
import Derived.Test.YthpdpnegbkmbkaaGreatDoorUnr
set_option linter.unusedVariables false
set_option linter.unusedSimpArgs false
namespace Go.Proofs.YthpdpnegbkmbkaaGreatDoor
open Go.RowKit

theorem unqA_line (X : List UInt8) : unqA (13 :: 10 :: X) = 10 :: unqA X := by
  have := (UAt.line (UAt.start (13 :: 10 :: X)) rfl rfl).1
  simpa using this.symm
theorem unqA_soft (X : List UInt8) : unqA (61 :: 13 :: 10 :: X) = unqA X := by
  have := (UAt.soft (UAt.start (61 :: 13 :: 10 :: X)) rfl rfl rfl).1
  simpa using this.symm
theorem unqA_plain (c : UInt8) (X : List UInt8) (h1 : c.toNat ≠ 61) (h2 : c.toNat ≠ 13) : unqA (c :: X) = c :: unqA X := by
  have := (UAt.plain (UAt.start (c :: X)) h1 h2).1
  simpa using this.symm
theorem dig_hex : ((List.range 16).all fun n => digN (hexDig n) == n) = true := by kernel_rfl
theorem dig_hex_at {n : Nat} (h : n < 16) : digN (hexDig n) = n := by
  have := List.all_eq_true.1 dig_hex n (List.mem_range.2 h)
  simpa using this
theorem unqA_hex (c : UInt8) (X : List UInt8) : unqA (hexB c ++ X) = c :: unqA X := by
  have hc := c.toNat_lt
  have d1 := dig_hex_at (n := c.toNat / 16) (by omega)
  have d2 := dig_hex_at (n := c.toNat % 16) (by omega)
  have := (UAt.hexa (UAt.start (61 :: hexDig (c.toNat / 16) :: hexDig (c.toNat % 16) :: X)) rfl (by omega) (by omega)).1
  rw [d1, d2, show 16 * (c.toNat / 16) + c.toNat % 16 = c.toNat by omega, UInt8.ofNat_toNat] at this
  simpa [hexB] using this.symm
theorem asIs_cases {c : UInt8} {b : Bool} (h : asIs c b = true) : (32 < c.toNat ∧ c.toNat ≤ 126 ∧ c.toNat ≠ 61) ∨ ((c.toNat = 32 ∨ c.toNat = 9) ∧ b = false) := by
  unfold asIs plainI blankI at h
  simp at h
  rcases h with h | h
  · left; omega
  · right; exact ⟨by omega, h.2⟩
theorem unqA_way (c : UInt8) (b : Bool) (X : List UInt8) : unqA (wayB c b ++ X) = c :: unqA X := by
  unfold wayB
  split
  · rename_i h
    have := asIs_cases h
    exact unqA_plain c X (by omega) (by omega)
  · exact unqA_hex c X
theorem unqA_room (a n : Nat) (X : List UInt8) : unqA (roomS a n ++ X) = unqA X := by
  unfold roomS
  split
  · exact unqA_soft X
  · rfl
theorem unq_quot : ∀ (l : List UInt8) (m : Nat), unqA (quotA l m) = l
  | [], _ => rfl
  | c :: r, m => by
    rw [quotA]
    split
    · rename_i h
      obtain rfl : c = 10 := UInt8.toNat_inj.1 (by simpa using h)
      show unqA (13 :: 10 :: quotA r 0) = _
      rw [unqA_line, unq_quot r 0]
    · rw [List.append_assoc, unqA_room, unqA_way, unq_quot r _]
theorem unqR_quot (s : ByteArray) : unqR (quotL s.data.toList) = #[.string s, .int .i64 0] := by
  have e : unqA (quotL s.data.toList) = s.data.toList := unq_quot _ 0
  rw [unqR_yes (by rw [e]), e]
  rfl
theorem quotA_le : ∀ (l : List UInt8) (m : Nat), (quotA l m).length ≤ 6 * l.length
  | [], _ => by simp [quotA]
  | c :: r, m => by
    rw [quotA]
    split
    · have := quotA_le r 0
      simp; omega
    · have h1 := roomS_le m (wayB c (lastB r)).length
      have h2 := wayB_le c (lastB r)
      have h3 := quotA_le r (roomL m (wayB c (lastB r)).length)
      simp; omega

theorem unqA_len : ∀ (l : List UInt8), (unqA l).length ≤ l.length
  | [] => by simp [unqA]
  | [c] => by simp [unqA]
  | [c, a] => by unfold unqA; split <;> simp
  | c :: a :: b :: r => by
    have h1 := unqA_len r
    have h2 := unqA_len (b :: r)
    have h3 := unqA_len (a :: b :: r)
    rw [unqA]
    simp at h2 h3
    split
    · simp; omega
    · split
      · simp; omega
      · split <;> (simp; omega)

/-! ### The lines -/
def okC (c : UInt8) : Bool := decide (c.toNat ≤ 126 ∧ (32 ≤ c.toNat ∨ c.toNat = 9 ∨ c.toNat = 13))
def endOk (pre : List UInt8) (line : Nat) : Bool := match pre with
  | [] => false
  | [p] => decide (p.toNat = 13 ∧ line ≤ 77)
  | p :: q :: _ => decide (p.toNat = 13 ∧ line ≤ 77 ∧ q.toNat ≠ 32 ∧ q.toNat ≠ 9)
def chk : List UInt8 → Nat → List UInt8 → Bool
  | _, line, [] => decide (line ≤ 76)
  | pre, line, c :: r => if c.toNat = 10 then endOk pre line && chk (c :: pre) 0 r else okC c && chk (c :: pre) (line + 1) r
def headOk (pre : List UInt8) : Prop := ∀ p t, pre = p :: t → p.toNat ≠ 32 ∧ p.toNat ≠ 9

theorem chk_one {pre : List UInt8} {line : Nat} {c : UInt8} {r : List UInt8} (h1 : okC c = true) (h2 : c.toNat ≠ 10) (h : chk (c :: pre) (line + 1) r = true) : chk pre line (c :: r) = true := by
  rw [chk, if_neg h2, h1, h]; rfl
theorem chk_end {pre : List UInt8} {line : Nat} {r : List UInt8} (hp : headOk pre) (hl : line + 1 ≤ 77) (h : chk (10 :: 13 :: pre) 0 r = true) : chk pre line (13 :: 10 :: r) = true := by
  refine chk_one rfl (by decide) ?_
  rw [chk, if_pos (show UInt8.toNat 10 = 10 from rfl), h, Bool.and_true]
  cases pre with
  | nil => exact decide_eq_true ⟨rfl, hl⟩
  | cons p t => exact decide_eq_true ⟨rfl, hl, hp p t rfl⟩
theorem hexDig_ok : ((List.range 16).all fun n => okC (hexDig n) && decide ((hexDig n).toNat ≠ 10 ∧ (hexDig n).toNat ≠ 32 ∧ (hexDig n).toNat ≠ 9)) = true := by kernel_rfl
theorem hexDig_at {n : Nat} (h : n < 16) : okC (hexDig n) = true ∧ (hexDig n).toNat ≠ 10 ∧ (hexDig n).toNat ≠ 32 ∧ (hexDig n).toNat ≠ 9 := by
  have := List.all_eq_true.1 hexDig_ok n (List.mem_range.2 h)
  simpa using this
theorem headOk_nil : headOk [] := fun _ _ h => by cases h
theorem headOk_cons {p : UInt8} {t : List UInt8} (h1 : p.toNat ≠ 32) (h2 : p.toNat ≠ 9) : headOk (p :: t) := fun a b e => by
  injection e with e1 e2
  subst e1
  exact ⟨h1, h2⟩
theorem chk_way {pre : List UInt8} {line : Nat} {c : UInt8} {b : Bool} {r : List UInt8} (hc : c.toNat ≠ 10)
    (h : ∀ pre', (b = true → headOk pre') → chk pre' (line + (wayB c b).length) r = true) : chk pre line (wayB c b ++ r) = true := by
  by_cases ha : asIs c b = true
  · have e : wayB c b = [c] := wayB_1 ha
    rw [e] at h ⊢
    have hh := asIs_cases ha
    refine chk_one (decide_eq_true (by omega)) hc (h _ (fun hb => ?_))
    rcases hh with hh | ⟨_, hh⟩
    · exact headOk_cons (by omega) (by omega)
    · rw [hb] at hh; cases hh
  · have ha' : asIs c b = false := by simpa using ha
    have e : wayB c b = hexB c := wayB_3 ha'
    rw [e] at h ⊢
    have hlt := c.toNat_lt
    have d1 := hexDig_at (n := c.toNat / 16) (by omega)
    have d2 := hexDig_at (n := c.toNat % 16) (by omega)
    exact chk_one rfl (by decide) (chk_one d1.1 d1.2.1 (chk_one d2.1 d2.2.1 (h _ (fun _ => headOk_cons d2.2.2.1 d2.2.2.2))))
theorem chk_quot : ∀ (l : List UInt8) (m : Nat) (pre : List UInt8), m ≤ 75 → (lastB l = true → headOk pre) → chk pre m (quotA l m) = true
  | [], m, pre, hm, _ => decide_eq_true (by omega)
  | c :: r, m, pre, hm, hp => by
    rw [quotA]
    split
    · rename_i h
      exact chk_end (hp (by simp [lastB, h])) (by omega) (chk_quot r 0 _ (by omega) (fun _ => headOk_cons (by decide) (by decide)))
    · rename_i h
      have hw := wayB_le c (lastB r)
      rw [List.append_assoc]
      unfold roomS roomL
      split
      · show chk pre m (61 :: 13 :: 10 :: (wayB c (lastB r) ++ quotA r _)) = true
        refine chk_one rfl (by decide) (chk_end (headOk_cons (by decide) (by decide)) (by omega) (chk_way h (fun pre' hp' => ?_)))
        rw [Nat.zero_add]
        exact chk_quot r _ pre' (by omega) hp'
      · exact chk_way h (fun pre' hp' => chk_quot r _ pre' (by omega) hp')
theorem chk_start (l : List UInt8) : chk [] 0 (quotL l) = true := chk_quot l 0 [] (by omega) (fun _ => headOk_nil)

end Go.Proofs.YthpdpnegbkmbkaaGreatDoor
