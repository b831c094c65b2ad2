/-
  Plain mathematics: what is cashed out and what remains. No function of the program is named here.
-/
import Derived.Test.YtbkmnoedhilopaaTermsK
namespace Go.Proofs.Ytbkmnoedhilopaa

theorem exc_cases (band percent bal thr : Int) : (tolF band percent thr < bal ∧ excF band percent bal thr = bal - tolF band percent thr) ∨ (¬ tolF band percent thr < bal ∧ bal < -tolF band percent thr ∧ excF band percent bal thr = bal + tolF band percent thr) ∨ (bal ≤ tolF band percent thr ∧ -tolF band percent thr ≤ bal ∧ excF band percent bal thr = 0) := by
  unfold excF
  split
  · exact .inl ⟨by omega, rfl⟩
  · split
    · exact .inr (.inl ⟨by omega, by omega, rfl⟩)
    · exact .inr (.inr ⟨by omega, by omega, rfl⟩)
theorem absI_cases (x : Int) : (x < 0 ∧ absI x = -x) ∨ (0 ≤ x ∧ absI x = x) := by
  unfold absI
  split
  · exact .inl ⟨by omega, rfl⟩
  · exact .inr ⟨by omega, rfl⟩
theorem cash_law (band percent price : Int) (ts : List Tier) (bal thr : Int) : ∃ R C B E : Int, cashR band percent price ts bal thr = (R, C, B) ∧ excR band percent price ts bal thr = (E, B) ∧
    ((B != 0) = true ∨ (B = 0 ∧ -1000000000 ≤ E ∧ E ≤ 1000000000 ∧ -1000000000 ≤ R ∧ R ≤ 1000000000 ∧ (R + E == bal) = true ∧ ∃ T : Int, tolR band percent price ts thr = (T, 0) ∧ chargeR band percent price ts (absI E) = (C, 0) ∧
      ((E == 0) = true ∨ ((E == 0) = false ∧ (absI R == T) = true)) ∧ decide (absI R ≤ T) = true)) := by
  rcases cash_ways band percent price ts bal thr with ⟨k, hk, _, h2, h3⟩ | ⟨_, h2, h3, hT, hb, ht⟩
  · exact ⟨0, 0, k, 0, h3, h2, .inl (by simpa using hk)⟩
  · have V := valid_of hT
    obtain ⟨i0, i1⟩ := inB_true.1 hb
    obtain ⟨j0, j1⟩ := inB_true.1 ht
    have hbd := tolF_bd V.band0 V.band1 V.per0 V.per1 j0 j1
    obtain ⟨he0, he1⟩ := excF_bd (m := 1000000000) hbd.1 i0 i1
    obtain ⟨ha0, ha1⟩ := absI_le he0 he1
    have hin : inB (absI (excF band percent bal thr)) 0 1000000000 = true := inB_true.2 ⟨ha0, ha1⟩
    have hex := exc_cases band percent bal thr
    have hab := absI_cases (bal - excF band percent bal thr)
    have hTr : tolR band percent price ts thr = (tolF band percent thr, 0) := by simp [tolR, hT, ht]
    have hCr : chargeR band percent price ts (absI (excF band percent bal thr)) = (chargeF price ts (absI (excF band percent bal thr)), 0) := by simp [chargeR, hT, hin]
    refine ⟨_, _, 0, _, h3, h2, .inr ⟨rfl, he0, he1, ?_, ?_, ?_, tolF band percent thr, hTr, hCr, ?_, ?_⟩⟩
    · omega
    · omega
    · simp only [beq_iff_eq]; omega
    · simp only [beq_iff_eq, beq_eq_false_iff_ne]; omega
    · simp only [decide_eq_true_eq]; omega
end Go.Proofs.Ytbkmnoedhilopaa
