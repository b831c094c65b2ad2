/-
  Plain mathematics: a greater excess never costs less and is charged by the same or a later tier. No function of the program is named here.
-/
import Derived.Test.YtbkmnoedhilopaaTermsP
namespace Go.Proofs.Ytbkmnoedhilopaa

theorem chg_nonneg (l : List Tier) (hf : ∀ x ∈ l, 0 ≤ x.factor) (ex b : Int) : 0 ≤ chg ex l b := by
  induction l generalizing b with
  | nil => rw [chg_nil]; omega
  | cons x l ih =>
    have h0 : 0 ≤ x.factor := hf x (by simp)
    have ih' := ih (fun y hy => hf y (by simp [hy]))
    by_cases hl : l = []
    · subst hl
      rw [chg_last]
      split
      · exact Int.mul_nonneg (by omega) h0
      · omega
    · rw [chg_cons _ _ _ _ hl]
      split
      · have := Int.mul_nonneg (a := min ex x.upto - b) (b := x.factor) (by omega) h0
        have := ih' (min ex x.upto)
        omega
      · exact ih' b
theorem chg_mono (l : List Tier) (hf : ∀ x ∈ l, 0 ≤ x.factor) {e e' : Int} (he : e ≤ e') (b : Int) : chg e l b ≤ chg e' l b := by
  induction l generalizing b with
  | nil => rw [chg_nil, chg_nil]; omega
  | cons x l ih =>
    have h0 : 0 ≤ x.factor := hf x (by simp)
    have hf' : ∀ y ∈ l, 0 ≤ y.factor := fun y hy => hf y (by simp [hy])
    by_cases hb : e ≤ b
    · rw [chg_done e _ b hb]; exact chg_nonneg _ hf _ _
    by_cases hl : l = []
    · subst hl
      rw [chg_last, chg_last, if_pos (by omega), if_pos (by omega)]
      exact Int.mul_le_mul_of_nonneg_right (by omega) h0
    · rw [chg_cons _ _ _ _ hl, chg_cons _ _ _ _ hl]
      by_cases hu : x.upto ≤ e
      · rw [show min e x.upto = x.upto by omega, show min e' x.upto = x.upto by omega]
        split
        · have := ih hf' x.upto
          omega
        · exact ih hf' b
      · rw [show min e x.upto = e by omega, if_pos (by omega), if_pos (by omega), chg_done e l e (by omega)]
        have h1 := chg_nonneg l hf' e' (min e' x.upto)
        have h2 : (e - b) * x.factor ≤ (min e' x.upto - b) * x.factor := Int.mul_le_mul_of_nonneg_right (by omega) h0
        omega
theorem Valid.fac {band percent price : Int} {ts : List Tier} (V : Valid band percent price ts) : ∀ x ∈ ts, 0 ≤ x.factor := by
  intro x hx
  obtain ⟨i, hi, rfl⟩ := List.mem_iff_getElem.1 hx
  exact (V.at_ i _ (List.getElem?_eq_getElem hi)).2.2.1
theorem chargeF_mono {band percent price : Int} {ts : List Tier} (V : Valid band percent price ts) {e e' : Int} (he : e ≤ e') : chargeF price ts e ≤ chargeF price ts e' := by
  unfold chargeF
  have := Int.mul_le_mul_of_nonneg_left (chg_mono ts V.fac he 0) V.pr0
  omega
theorem chargeF_zero (price : Int) (ts : List Tier) : chargeF price ts 0 = 0 := by
  unfold chargeF
  rw [chg_done 0 ts 0 (by omega)]
  omega
theorem tierF_ge (l : List Tier) (ex : Int) (k : Nat) : (k : Int) - 1 ≤ tierF l ex k := by
  induction l generalizing k with
  | nil => rw [tierF_nil]; omega
  | cons x l ih =>
    rw [tierF_cons]
    split
    · omega
    · have := ih (k + 1)
      omega
theorem tierF_mono (l : List Tier) {e e' : Int} (he : e ≤ e') (k : Nat) : tierF l e k ≤ tierF l e' k := by
  induction l generalizing k with
  | nil => rw [tierF_nil, tierF_nil]; omega
  | cons x l ih =>
    rw [tierF_cons, tierF_cons]
    have := tierF_ge l e' (k + 1)
    have := ih (k + 1)
    split <;> split <;> omega
theorem tierF_pos {l : List Tier} (hl : 1 ≤ l.length) (ex : Int) : 0 ≤ tierF l ex 0 := by
  cases l with
  | nil => simp at hl
  | cons x l =>
    rw [tierF_cons]
    have := tierF_ge l ex (0 + 1)
    split <;> omega
/-- the ways of the law on charges -/
theorem charge_ways (band percent price : Int) (ts : List Tier) (ex : Int) : ∃ C B K : Int, chargeR band percent price ts ex = (C, B) ∧ tierR band percent price ts ex = (K, B) ∧
    ((B != 0) = true ∨ (B = 0 ∧ ex = 0 ∧ C = 0 ∧ K = -1) ∨ (B = 0 ∧ (ex == 0) = false ∧ -1 ≤ ex ∧ ex ≤ 1000000000 ∧ ∃ C' K' : Int, chargeR band percent price ts (ex - 1) = (C', 0) ∧ tierR band percent price ts (ex - 1) = (K', 0) ∧ C' ≤ C ∧ K' ≤ K ∧ 0 ≤ K)) := by
  cases hT : isTermsB band percent price ts with
  | false => exact ⟨0, 1, 0, by simp [chargeR, hT], by simp [tierR, hT], .inl (by decide)⟩
  | true =>
    have V := valid_of hT
    cases hi : inB ex 0 1000000000 with
    | false => exact ⟨0, 2, 0, by simp [chargeR, hT, hi], by simp [tierR, hT, hi], .inl (by decide)⟩
    | true =>
      obtain ⟨h0, h1⟩ := inB_true.1 hi
      by_cases he : ex = 0
      · subst he
        exact ⟨0, 0, -1, by simp [chargeR, hT, hi, chargeF_zero], by simp [tierR, hT, hi], .inr (.inl ⟨rfl, rfl, rfl, rfl⟩)⟩
      · have hi' : inB (ex - 1) 0 1000000000 = true := inB_true.2 ⟨by omega, by omega⟩
        refine ⟨chargeF price ts ex, 0, tierF ts ex 0, by simp [chargeR, hT, hi], by simp [tierR, hT, hi, he], .inr (.inr ⟨rfl, by simpa using he, by omega, h1, chargeF price ts (ex - 1), if ex - 1 = 0 then -1 else tierF ts (ex - 1) 0, by simp [chargeR, hT, hi'], ?_, chargeF_mono V (by omega), ?_, tierF_pos V.len0 ex⟩)⟩
        · simp only [tierR, hT, hi']
          by_cases h : ex - 1 = 0 <;> simp [h]
        · have := tierF_pos V.len0 ex
          have := tierF_mono ts (show ex - 1 ≤ ex by omega) 0
          split <;> omega
end Go.Proofs.Ytbkmnoedhilopaa
