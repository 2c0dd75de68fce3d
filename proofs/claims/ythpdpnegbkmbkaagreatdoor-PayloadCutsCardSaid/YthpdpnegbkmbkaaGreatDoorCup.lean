/- A right text that is cut is a right text: in plain words, with no program in sight. -/
import Derived.Test.YthpdpnegbkmbkaaGreatDoorCut
import Derived.Lib.ValidLaws
import Derived.Shelf.Unicode.DecodeSlow
set_option linter.unusedVariables false
set_option linter.unusedSimpArgs false
namespace Go.Proofs.YthpdpnegbkmbkaaGreatDoor
open Go.RowKit Go.Lib

theorem cutN_edge (l : List UInt8) : ∀ n, cutN l n = 0 ∨ inW (l.getD (cutN l n) 0) = false
  | 0 => Or.inl rfl
  | n + 1 => by
    unfold cutN
    split
    · exact cutN_edge l n
    · rename_i h
      exact Or.inr (by simpa using h)
theorem check_yes {n b1 b2 b3 sz lo hi k : Nat} (h : checkN n b1 b2 b3 sz lo hi = some k) : k = sz ∧ (k = 2 ∨ k = 3 ∨ k = 4) ∧ k ≤ n ∧ lo ≤ b1 ∧ b1 ≤ hi ∧ (3 ≤ k → 128 ≤ b2 ∧ b2 ≤ 191) ∧ (4 ≤ k → 128 ≤ b3 ∧ b3 ≤ 191) := by
  unfold checkN at h
  repeat' split at h
  all_goals first | (exfalso; cases h; done) | (injection h with h; omega)
theorem check_mk {n b1 b2 b3 sz lo hi : Nat} (h0 : sz = 2 ∨ sz = 3 ∨ sz = 4) (h1 : sz ≤ n) (h2 : lo ≤ b1) (h3 : b1 ≤ hi) (h4 : 3 ≤ sz → 128 ≤ b2 ∧ b2 ≤ 191) (h5 : 4 ≤ sz → 128 ≤ b3 ∧ b3 ≤ 191) : checkN n b1 b2 b3 sz lo hi = some sz := by
  unfold checkN
  rcases h0 with rfl | rfl | rfl
  · simp; omega
  · simp; omega
  · simp; omega
theorem acc_in (b : Nat) (h0 : 128 ≤ b) (h : firstT b % 8 = 2 ∨ firstT b % 8 = 3 ∨ firstT b % 8 = 4) : 128 ≤ accLo (firstT b / 16) ∧ accHi (firstT b / 16) ≤ 191 := by
  rcases firstT_cases b with e | e | e | e | e | e | e | e | e <;> rw [e] at h ⊢ <;> first | (exfalso; omega) | decide
theorem inW_of {u : UInt8} (h1 : 128 ≤ u.toNat) (h2 : u.toNat ≤ 191) : inW u = true := by
  unfold inW
  rw [beq_iff_eq]
  omega
theorem getD_take {l e : List UInt8} {m i : Nat} (hi : i < m) (hm : m ≤ l.length) : (l.take m ++ e).getD i 0 = l.getD i 0 := by
  rw [List.getD_eq_getElem?_getD, List.getD_eq_getElem?_getD, List.getElem?_append_left (by simp; omega), List.getElem?_take, if_pos hi]

theorem cut_valid : ∀ (n : Nat) (l : List UInt8) (m : Nat), l.length ≤ n → m < l.length → validD l = true → (m = 0 ∨ inW (l.getD m 0) = false) → validD (l.take m ++ [46, 46, 46]) = true
  | 0, l, m, hn, hm, _, _ => by omega
  | n + 1, l, m, hn, hm, hv, he => by
    by_cases m0 : m = 0
    · subst m0
      rw [List.take_zero, List.nil_append]
      decide
    have he' : inW (l.getD m 0) = false := he.resolve_left m0
    have hne : l ≠ [] := by intro e; subst e; simp at hm
    by_cases h0 : (l.getD 0 0).toNat < 128
    · match l, m, hne, hm, m0, he', hn, hv, h0 with
      | b :: t, m + 1, hne, hm, m0, he', hn, hv, h0 =>
        have hb : b.toNat < 128 := by simpa using h0
        rw [validD_cons b t hb] at hv
        show validD (b :: (t.take m ++ [46, 46, 46])) = true
        rw [validD_cons b _ hb]
        refine cut_valid n t m (by simp at hn; omega) (by simp at hm; omega) hv ?_
        right
        simpa using he'
    · have h128 : 128 ≤ (l.getD 0 0).toNat := by omega
      rw [validD_lead l hne h128] at hv
      cases hc : checkN l.length (l.getD 1 0).toNat (l.getD 2 0).toNat (l.getD 3 0).toNat (firstT (l.getD 0 0).toNat % 8) (accLo (firstT (l.getD 0 0).toNat / 16)) (accHi (firstT (l.getD 0 0).toNat / 16)) with
      | none => rw [hc] at hv; cases hv
      | some k =>
        rw [hc] at hv
        obtain ⟨k1, k2, k3, k4, k5, k6, k7⟩ := check_yes hc
        have ha := acc_in (l.getD 0 0).toNat h128 (by omega)
        have w1 : inW (l.getD 1 0) = true := inW_of (by omega) (by omega)
        have hkm : k ≤ m := by
          rcases Nat.lt_or_ge m k with hlt | hge
          · exfalso
            rcases (show m = 1 ∨ (m = 2 ∧ 3 ≤ k) ∨ (m = 3 ∧ 4 ≤ k) by omega) with e | ⟨e, e2⟩ | ⟨e, e2⟩
            · rw [e, w1] at he'; cases he'
            · have := k6 e2
              rw [e, inW_of this.1 this.2] at he'; cases he'
            · have := k7 e2
              rw [e, inW_of this.1 this.2] at he'; cases he'
          · exact hge
        have hml : m ≤ l.length := Nat.le_of_lt hm
        have g0 : (l.take m ++ [46, 46, 46]).getD 0 0 = l.getD 0 0 := getD_take (by omega) hml
        have g1 : (l.take m ++ [46, 46, 46]).getD 1 0 = l.getD 1 0 := getD_take (by omega) hml
        have hne' : l.take m ++ [46, 46, 46] ≠ [] := by simp
        have hlen : (l.take m ++ [46, 46, 46]).length = m + 3 := by simp; omega
        rw [validD_lead _ hne' (by rw [g0]; exact h128), g0, g1, hlen]
        rw [check_mk (sz := firstT (l.getD 0 0).toNat % 8) (by omega) (by omega) k4 k5 (fun h => by rw [getD_take (by omega) hml]; exact k6 (by omega)) (fun h => by rw [getD_take (by omega) hml]; exact k7 (by omega))]
        show validD ((l.take m ++ [46, 46, 46]).drop (firstT (l.getD 0 0).toNat % 8)) = true
        rw [← k1, List.drop_append_of_le_length (by simp; omega), List.drop_take]
        refine cut_valid n (l.drop k) (m - k) (by simp; omega) (by simp; omega) hv ?_
        right
        have : (l.drop k).getD (m - k) 0 = l.getD m 0 := by
          rw [List.getD_eq_getElem?_getD, List.getD_eq_getElem?_getD, List.getElem?_drop, show k + (m - k) = m by omega]
        rw [this]
        exact he'

/-- What is cut is right where the text is. -/
theorem cutL_valid (l : List UInt8) (most : Int) (h1 : ¬ (l.length : Int) ≤ most) (h2 : 3 ≤ most) (hv : validD l = true) : validD (cutL l most) = true := by
  unfold cutL
  rw [if_neg h1, if_neg (by omega)]
  have := cutN_le l (most - 3).toNat
  exact cut_valid l.length l _ (Nat.le_refl _) (by omega) hv (cutN_edge l _)

end Go.Proofs.YthpdpnegbkmbkaaGreatDoor
