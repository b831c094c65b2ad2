/-
  Plain laws of ledgers: a ledger and its reverse, a ledger and what settles it. No program in sight.
-/
import Derived.Test.YtclnfjpjmelfpaaLedV
import Derived.Test.YtclnfjpjmelfpaaLedJ
import Derived.Test.YtclnfjpjmelfpaaLedT
import Derived.Test.YtclnfjpjmelfpaaSums
namespace Go.Proofs.Ytclnfjpjmelfpaa
open Go.RowKit

theorem balF_append (sel : Posting → Int) (ps qs : List Posting) (a : Nat) : balF sel (ps ++ qs) a = balF sel ps a + balF sel qs a := by
  induction ps with
  | nil => simp [balF]
  | cons p ps ih => simp only [List.cons_append, balF, ih]; omega
theorem postB_swap (p : Posting) : postB (swapP p) = postB p := by
  simp only [postB, swapP]
  have : (p.credit != p.debit) = (p.debit != p.credit) := by rw [Bool.eq_iff_iff, bne_iff_ne, bne_iff_ne]; exact ⟨fun h e => h e.symm, fun h e => h e.symm⟩
  rw [this]
  cases inB p.credit 0 23 <;> cases inB p.debit 0 23 <;> simp
theorem ledB_rev {ps : List Posting} (h : ledB ps = true) : ledB (revL ps) = true := by
  obtain ⟨h1, h2⟩ := ledB_true h
  simp only [ledB, revL, Bool.and_eq_true, List.all_eq_true]
  refine ⟨by simpa using h1, ?_⟩
  intro q hq
  rw [List.mem_map] at hq
  obtain ⟨p, hp, rfl⟩ := hq
  rw [postB_swap]
  exact h2 p (by simpa using hp)
theorem revL_revL (ps : List Posting) : revL (revL ps) = ps := by
  unfold revL
  rw [← List.map_reverse, List.reverse_reverse, List.map_map]
  have : swapP ∘ swapP = id := by funext p; rfl
  rw [this, List.map_id]
theorem balF_rev {sel : Posting → Int} (hsel : ∀ p, sel (swapP p) = sel p) (ps : List Posting) (a : Nat) : balF sel (revL ps) a = - balF sel ps a := by
  induction ps with
  | nil => rfl
  | cons p ps ih =>
    have : revL (p :: ps) = revL ps ++ [swapP p] := by simp [revL]
    rw [this, balF_snoc, ih]
    simp only [balF]
    have : dlt sel (swapP p) a = - dlt sel p a := by
      unfold dlt
      rw [hsel]
      simp only [swapP]
      omega
    omega
theorem ledB_append {ps qs : List Posting} (h1 : ledB ps = true) (h2 : ledB qs = true) (h : ps.length + qs.length ≤ 300) : ledB (ps ++ qs) = true := by
  have h3 := (ledB_true h1).2
  have h4 := (ledB_true h2).2
  simp only [ledB, Bool.and_eq_true, decide_eq_true_eq, List.all_eq_true, List.length_append]
  refine ⟨h, fun p hp => ?_⟩
  rcases List.mem_append.1 hp with hp | hp
  · exact h3 p hp
  · exact h4 p hp
theorem settled_of {ps : List Posting} (h : ledB ps = true) (h1 : ∀ a, a < 24 → balF Posting.gas ps a = 0) (h2 : ∀ a, a < 24 → balF Posting.money ps a = 0) : settledB ps = true := by
  have key : ∀ F : Nat → Int, (∀ a, a < 24 → F a = 0) → allB (balL F) 0 0 = true := by
    intro F hF
    rw [allB, List.all_eq_true]
    intro z hz
    unfold balL at hz
    rw [List.mem_map] at hz
    obtain ⟨a, ha, rfl⟩ := hz
    rw [hF a (by simpa using ha)]
    rfl
  unfold settledB
  rw [h, key _ h1, key _ h2]; rfl
/-- the law of the reverse -/
theorem rev_law (ps : List Posting) : ∃ (R : List Posting) (B : Int), revR ps = (R, B) ∧ ((B != 0) = true ∨ (B = 0 ∧ R = revL ps ∧ revR (revL ps) = (ps, 0) ∧
    ∃ (J : List Posting) (D : Int), joinR ps (revL ps) = (J, D) ∧ ((D != 0) = true ∨ (D = 0 ∧ settledB J = true ∧ J.length = 2 * ps.length)))) := by
  unfold revR
  split
  · exact ⟨_, _, rfl, .inl (by decide)⟩
  · rename_i h
    have hl : ledB ps = true := by simpa using h
    refine ⟨_, _, rfl, .inr ⟨rfl, rfl, ?_, ?_⟩⟩
    · rw [if_neg (by rw [ledB_rev hl]; decide), revL_revL]
    · rcases join_ways ps (revL ps) with ⟨h1, _⟩ | ⟨_, h1, _⟩ | ⟨_, _, _, hr⟩ | ⟨_, _, h3, hr⟩
      · rw [hl] at h1; cases h1
      · rw [ledB_rev hl] at h1; cases h1
      · exact ⟨_, _, hr, .inl (by decide)⟩
      · refine ⟨_, _, hr, .inr ⟨rfl, settled_of (ledB_append hl (ledB_rev hl) h3) ?_ ?_, ?_⟩⟩
        · intro a _
          rw [balF_append, balF_rev (fun _ => rfl)]; omega
        · intro a _
          rw [balF_append, balF_rev (fun _ => rfl)]; omega
        · simp [revL]; omega

/-! ### what settles a ledger -/
def sumF (F : Nat → Int) : Nat → Nat → Int
  | 0, _ => 0
  | m + 1, k => F k + sumF F m (k + 1)
def sumX (acc : Int) (F : Nat → Int) : Nat → Nat → Int
  | 0, _ => 0
  | m + 1, k => (if (k : Int) = acc then 0 else F k) + sumX acc F m (k + 1)
theorem sumX_sum (acc : Nat) (F : Nat → Int) (m k : Nat) : sumX acc F m k + (if k ≤ acc ∧ acc < k + m then F acc else 0) = sumF F m k := by
  induction m generalizing k with
  | zero => simp only [sumX, sumF]; rw [if_neg (by omega)]; rfl
  | succ m ih =>
    simp only [sumX, sumF]
    rw [← ih (k + 1)]
    by_cases e : k = acc
    · subst e
      rw [if_pos rfl, if_pos (by omega), if_neg (by omega)]; omega
    · rw [if_neg (by omega)]
      by_cases h : k ≤ acc ∧ acc < k + (m + 1)
      · rw [if_pos h, if_pos (by omega)]; omega
      · rw [if_neg h, if_neg (by omega)]; omega
theorem sumF_add (F G : Nat → Int) (m k : Nat) : sumF (fun a => F a + G a) m k = sumF F m k + sumF G m k := by
  induction m generalizing k with
  | zero => rfl
  | succ m ih => simp only [sumF, ih]; omega
theorem sumF_sub (F G : Nat → Int) (m k : Nat) : sumF (fun a => F a - G a) m k = sumF F m k - sumF G m k := by
  induction m generalizing k with
  | zero => rfl
  | succ m ih => simp only [sumF, ih]; omega
theorem sumF_ind (d v : Int) (m k : Nat) : sumF (fun a => if d = (a : Int) then v else 0) m k = if (k : Int) ≤ d ∧ d < (k : Int) + m then v else 0 := by
  induction m generalizing k with
  | zero => simp only [sumF]; rw [if_neg (by omega)]
  | succ m ih =>
    simp only [sumF]
    rw [ih]
    by_cases e : d = (k : Int)
    · rw [if_pos e, if_neg (by omega), if_pos (by omega)]; omega
    · rw [if_neg e]
      by_cases h : (k : Int) ≤ d ∧ d < (k : Int) + ((m + 1 : Nat) : Int)
      · rw [if_pos h, if_pos (by omega)]; omega
      · rw [if_neg h, if_neg (by omega)]; omega
theorem sum_bal {sel : Posting → Int} {ps : List Posting} (h : ∀ p ∈ ps, postB p = true) : sumF (balF sel ps) 24 0 = 0 := by
  induction ps with
  | nil => rfl
  | cons p ps ih =>
    have hp := postB_true (h p (by simp))
    have : balF sel (p :: ps) = fun a => dlt sel p a + balF sel ps a := rfl
    rw [this, sumF_add, ih (fun q hq => h q (by simp [hq]))]
    have : dlt sel p = fun (a : Nat) => (if p.debit = (a : Int) then sel p else 0) - (if p.credit = (a : Int) then sel p else 0) := rfl
    rw [this, sumF_sub, sumF_ind, sumF_ind, if_pos (by omega), if_pos (by omega)]
    omega
theorem setF_bal {acc : Nat} {G M S : Nat → Int} {sel : Posting → Int} (hsel : ∀ k : Nat, sel ⟨acc, k, G k, M k⟩ = S k) (hz : ∀ k, G k = 0 → M k = 0 → S k = 0) (m k : Nat) (l : List Posting) (h : setF acc G M m k = some l) (a : Nat) :
    balF sel l a = (if a = acc then sumX acc S m k else 0) - (if a ≠ acc ∧ k ≤ a ∧ a < k + m then S a else 0) := by
  induction m generalizing k l with
  | zero =>
    simp [setF] at h
    subst h
    simp only [balF, sumX]
    rw [if_neg (show ¬ (a ≠ acc ∧ k ≤ a ∧ a < k + 0) by omega)]
    simp
  | succ m ih =>
    unfold setF at h
    by_cases hc : ((k : Int) == (acc : Int)) = true ∨ ((G k == 0) = true ∧ (M k == 0) = true)
    · rw [if_pos hc] at h
      rw [ih _ _ h]
      simp only [sumX]
      rcases hc with hc | ⟨h1, h2⟩
      · have hk : k = acc := by simp at hc; omega
        subst hk
        rw [if_pos rfl]
        by_cases e : a = k
        · subst e
          rw [if_pos rfl, if_pos rfl, if_neg (by omega), if_neg (by omega)]; omega
        · rw [if_neg e, if_neg e]
          by_cases h3 : a ≠ k ∧ k + 1 ≤ a ∧ a < k + 1 + m
          · rw [if_pos h3, if_pos (by omega)]
          · rw [if_neg h3, if_neg (by omega)]
      · have hS : S k = 0 := hz k (by simpa using h1) (by simpa using h2)
        have e0 : (if (k : Int) = (acc : Int) then 0 else S k) = 0 := by rw [hS]; simp
        rw [e0]
        by_cases e : a = acc
        · rw [if_pos e, if_pos e, if_neg (by omega), if_neg (by omega)]; omega
        · rw [if_neg e, if_neg e]
          by_cases h3 : a ≠ acc ∧ k + 1 ≤ a ∧ a < k + 1 + m
          · rw [if_pos h3, if_pos (by omega)]
          · rw [if_neg h3]
            by_cases h4 : a ≠ acc ∧ k ≤ a ∧ a < k + (m + 1)
            · have : a = k := by omega
              subst this
              rw [if_pos h4, hS]
            · rw [if_neg h4]
    · rw [if_neg hc] at h
      split at h
      · cases h
      · cases hh : setF acc G M m (k + 1) with
        | none => rw [hh] at h; cases h
        | some l' =>
          rw [hh] at h
          simp at h
          subst h
          simp only [balF, sumX]
          rw [ih _ _ hh]
          have hk : ¬ k = acc := by
            intro e
            exact hc (.inl (by simp [e]))
          rw [if_neg (show ¬ (k : Int) = (acc : Int) by omega)]
          unfold dlt
          rw [hsel]
          simp only
          by_cases e : a = acc
          · rw [if_pos e, if_pos e, if_pos (by omega), if_neg (by omega), if_neg (by omega), if_neg (by omega)]; omega
          · rw [if_neg e, if_neg e, if_neg (by omega)]
            by_cases e2 : a = k
            · subst e2
              rw [if_pos rfl, if_neg (by omega), if_pos (by omega)]; omega
            · rw [if_neg (by omega)]
              by_cases h3 : a ≠ acc ∧ k + 1 ≤ a ∧ a < k + 1 + m
              · rw [if_pos h3, if_pos (by omega)]; omega
              · rw [if_neg h3, if_neg (by omega)]; omega
theorem set_settles {acc : Nat} {ps l : List Posting} {sel : Posting → Int} (hps : ∀ p ∈ ps, postB p = true) (hacc : acc ≤ 23) (hsel : ∀ k : Nat, sel ⟨acc, k, balF Posting.gas ps k, balF Posting.money ps k⟩ = balF sel ps k)
    (hz : ∀ k, balF Posting.gas ps k = 0 → balF Posting.money ps k = 0 → balF sel ps k = 0) (h : setF acc (balF Posting.gas ps) (balF Posting.money ps) 24 0 = some l) (a : Nat) (ha : a < 24) : balF sel (ps ++ l) a = 0 := by
  rw [balF_append, setF_bal hsel hz 24 0 l h a]
  have hs := sumX_sum acc (balF sel ps) 24 0
  rw [sum_bal hps, if_pos (by omega)] at hs
  by_cases e : a = acc
  · rw [if_pos e, if_neg (by omega), e]; omega
  · rw [if_neg e, if_pos (by omega)]; omega
/-- the law of what settles a ledger -/
theorem set_law (acc : Int) (ps : List Posting) : ∃ (R : List Posting) (B : Int), setR acc ps = (R, B) ∧ ((B != 0) = true ∨ (B = 0 ∧
    ∃ (J : List Posting) (D : Int), joinR ps R = (J, D) ∧ ((D != 0) = true ∨ (D = 0 ∧ settledB J = true)))) := by
  unfold setR
  split
  · exact ⟨_, _, rfl, .inl (by decide)⟩
  · rename_i h
    have hl : ledB ps = true := by simpa using h
    split
    · exact ⟨_, _, rfl, .inl (by decide)⟩
    · rename_i h2
      have hacc : inB acc 0 23 = true := by simpa using h2
      obtain ⟨ha0, ha1⟩ := inB_true.1 hacc
      split
      · exact ⟨_, _, rfl, .inl (by decide)⟩
      · rename_i l hset
        refine ⟨_, _, rfl, .inr ⟨rfl, ?_⟩⟩
        obtain ⟨ac, rfl⟩ := Int.eq_ofNat_of_zero_le ha0
        have hac : ac ≤ 23 := by omega
        have hps := (ledB_true hl).2
        rcases join_ways ps l with ⟨h1, _⟩ | ⟨_, _, hr⟩ | ⟨_, _, _, hr⟩ | ⟨_, hl2, h3, hr⟩
        · rw [hl] at h1; cases h1
        · exact ⟨_, _, hr, .inl (by decide)⟩
        · exact ⟨_, _, hr, .inl (by decide)⟩
        · refine ⟨_, _, hr, .inr ⟨rfl, settled_of (ledB_append hl hl2 h3) ?_ ?_⟩⟩
          · exact fun a ha => set_settles hps hac (fun _ => rfl) (fun _ h _ => h) hset a ha
          · exact fun a ha => set_settles hps hac (fun _ => rfl) (fun _ _ h => h) hset a ha
theorem sumI_bal (F : Nat → Int) : sumI (balL F) = sumF F 24 0 := rfl
theorem bal_mem {F : Nat → Int} {M : Int} (h : ∀ a, -M ≤ F a ∧ F a ≤ M) : ∀ z ∈ balL F, -M ≤ z ∧ z ≤ M := by
  intro z hz
  unfold balL at hz
  rw [List.mem_map] at hz
  obtain ⟨a, _, rfl⟩ := hz
  exact h a
theorem gas_law (ps : List Posting) : ∃ (R : List Int) (B : Int), gasR ps = (R, B) ∧ R.length ≤ 24 ∧ (∀ z ∈ R, -300000000000000000 ≤ z ∧ z ≤ 300000000000000000) ∧ sumI R = 0 := by
  unfold gasR
  split
  · exact ⟨_, _, rfl, by simp, by simp, rfl⟩
  · rename_i h
    have hl := ledB_true (show ledB ps = true by simpa using h)
    refine ⟨_, _, rfl, by rw [balL_len]; omega, bal_mem (fun a => ?_), by rw [sumI_bal, sum_bal hl.2]⟩
    have := bal_gas_bd hl.2 a
    have := hl.1
    omega
theorem money_law (ps : List Posting) : ∃ (R : List Int) (B : Int), moneyR ps = (R, B) ∧ R.length ≤ 24 ∧ (∀ z ∈ R, -300000000000000000 ≤ z ∧ z ≤ 300000000000000000) ∧ sumI R = 0 := by
  unfold moneyR
  split
  · exact ⟨_, _, rfl, by simp, by simp, rfl⟩
  · rename_i h
    have hl := ledB_true (show ledB ps = true by simpa using h)
    refine ⟨_, _, rfl, by rw [balL_len]; omega, bal_mem (fun a => ?_), by rw [sumI_bal, sum_bal hl.2]⟩
    have := bal_money_bd hl.2 a
    have := hl.1
    omega
end Go.Proofs.Ytclnfjpjmelfpaa
