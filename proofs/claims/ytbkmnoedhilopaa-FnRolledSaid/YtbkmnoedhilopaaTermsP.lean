/-
  Plain mathematics of terms: what valid terms give, the charge, the tier. No function of the program is named here.
-/
import Derived.Test.YtbkmnoedhilopaaTermsB
namespace Go.Proofs.Ytbkmnoedhilopaa

structure Valid (band percent price : Int) (ts : List Tier) : Prop where
  band0 : 0 ≤ band
  band1 : band ≤ 1000000000
  per0 : 0 ≤ percent
  per1 : percent ≤ 100
  pr0 : 0 ≤ price
  pr1 : price ≤ 1000000
  len0 : 1 ≤ ts.length
  len1 : ts.length ≤ 6
  at_ : ∀ (k : Nat) (x : Tier), ts[k]? = some x → 1 ≤ x.upto ∧ x.upto ≤ 1000000000 ∧ 0 ≤ x.factor ∧ x.factor ≤ 1000
  next : ∀ (k : Nat) (x y : Tier), ts[k]? = some x → ts[k + 1]? = some y → x.upto < y.upto ∧ x.factor ≤ y.factor

theorem valid_of {band percent price : Int} {ts : List Tier} (h : isTermsB band percent price ts = true) : Valid band percent price ts := by
  unfold isTermsB at h
  simp only [Bool.and_eq_true, inB_true] at h
  obtain ⟨⟨⟨⟨h1, h2⟩, h3⟩, h4⟩, h5⟩ := h
  have hk : ∀ k, k < ts.length → tierOk ts k = true := fun k hk => List.all_eq_true.1 h5 k (by simpa using hk)
  refine ⟨h1.1, h1.2, h2.1, h2.2, h3.1, h3.2, by omega, by omega, ?_, ?_⟩
  · intro k x hx
    have := hk k (List.getElem?_eq_some_iff.1 hx).1
    unfold tierOk at this
    rw [hx] at this
    simp only [Bool.and_eq_true, inB_true] at this
    omega
  · intro k x y hx hy
    have := hk (k + 1) (List.getElem?_eq_some_iff.1 hy).1
    unfold tierOk at this
    rw [hy] at this
    simp only [hx, stepOk, Bool.and_eq_true, decide_eq_true_eq] at this
    exact this.2

/-- the charge of the tiers that are left, before the price -/
def chg (ex : Int) : List Tier → Int → Int
  | [], _ => 0
  | [x], b => if b < ex then (ex - b) * x.factor else 0
  | x :: y :: r, b => if b < min ex x.upto then (min ex x.upto - b) * x.factor + chg ex (y :: r) (min ex x.upto) else chg ex (y :: r) b
theorem chg_nil (ex b : Int) : chg ex [] b = 0 := rfl
theorem chg_last (ex b : Int) (x : Tier) : chg ex [x] b = if b < ex then (ex - b) * x.factor else 0 := rfl
theorem chg_cons (ex b : Int) (x : Tier) (l : List Tier) (h : l ≠ []) : chg ex (x :: l) b = if b < min ex x.upto then (min ex x.upto - b) * x.factor + chg ex l (min ex x.upto) else chg ex l b := by
  cases l with
  | nil => exact absurd rfl h
  | cons y r => rfl
theorem chg_done (ex : Int) (l : List Tier) (b : Int) (h : ex ≤ b) : chg ex l b = 0 := by
  induction l with
  | nil => rfl
  | cons x l ih =>
    by_cases hl : l = []
    · subst hl; rw [chg_last, if_neg (by omega)]
    · rw [chg_cons _ _ _ _ hl, if_neg (by omega), ih]
theorem drop_at {ts : List Tier} {k : Nat} {x : Tier} (h : ts[k]? = some x) : ts.drop k = x :: ts.drop (k + 1) := by
  obtain ⟨hk, rfl⟩ := List.getElem?_eq_some_iff.1 h
  exact List.drop_eq_getElem_cons hk
def chargeF (price : Int) (ts : List Tier) (ex : Int) : Int := (price * chg ex ts 0 + 99) / 100

theorem charge_spec (s price : Int) : s / 100 * price + (s % 100 * price + 99) / 100 = (price * s + 99) / 100 := by
  have h : price * s + 99 = (s % 100 * price + 99) + 100 * (s / 100 * price) := by
    have e := Int.emod_add_mul_ediv s 100
    calc price * s + 99 = (s % 100 + 100 * (s / 100)) * price + 99 := by rw [e, Int.mul_comm]
      _ = (s % 100 * price + 99) + 100 * (s / 100 * price) := by rw [Int.add_mul, Int.mul_assoc]; omega
  rw [h, Int.add_mul_ediv_left _ _ (by decide)]
  omega

/-- the index of the tier by which the last unit is charged -/
def tierF (ts : List Tier) (ex : Int) (k : Nat) : Int :=
  match ts with
  | [] => (k : Int) - 1
  | x :: r => if ex ≤ x.upto then k else tierF r ex (k + 1)
theorem tierF_nil (ex : Int) (k : Nat) : tierF [] ex k = (k : Int) - 1 := rfl
theorem tierF_cons (x : Tier) (r : List Tier) (ex : Int) (k : Nat) : tierF (x :: r) ex k = if ex ≤ x.upto then (k : Int) else tierF r ex (k + 1) := rfl

/-- what the functions return -/
def tolR (band percent price : Int) (ts : List Tier) (thr : Int) : Int × Int :=
  if isTermsB band percent price ts = false then (0, 1) else if inB thr 0 1000000000 = false then (0, 2) else (tolF band percent thr, 0)
def excR (band percent price : Int) (ts : List Tier) (bal thr : Int) : Int × Int :=
  if isTermsB band percent price ts = false then (0, 1) else if inB bal (-1000000000) 1000000000 = false then (0, 2) else if inB thr 0 1000000000 = false then (0, 2) else (excF band percent bal thr, 0)
def chargeR (band percent price : Int) (ts : List Tier) (ex : Int) : Int × Int :=
  if isTermsB band percent price ts = false then (0, 1) else if inB ex 0 1000000000 = false then (0, 2) else (chargeF price ts ex, 0)
def tierR (band percent price : Int) (ts : List Tier) (ex : Int) : Int × Int :=
  if isTermsB band percent price ts = false then (0, 1) else if inB ex 0 1000000000 = false then (0, 2) else if ex = 0 then (-1, 0) else (tierF ts ex 0, 0)
def cashR (band percent price : Int) (ts : List Tier) (bal thr : Int) : Int × Int × Int :=
  if isTermsB band percent price ts = false then (0, 0, 1) else if inB bal (-1000000000) 1000000000 = false then (0, 0, 2) else if inB thr 0 1000000000 = false then (0, 0, 2)
  else (bal - excF band percent bal thr, chargeF price ts (absI (excF band percent bal thr)), 0)
end Go.Proofs.Ytbkmnoedhilopaa
