/-
  Sharing out a total by weights: the greatest rests first. Plain lists, no program.
-/
import Derived.Test.YtegkeeeohileiaaSa00
namespace Go.Proofs.Ytegkeeeohileiaa
/-- the sum of numbers -/
def sumZ : List Int → Int
  | [] => 0
  | x :: l => x + sumZ l
theorem sumZ_append (a b : List Int) : sumZ (a ++ b) = sumZ a + sumZ b := by
  induction a with
  | nil => simp [sumZ]
  | cons x a ih => simp only [List.cons_append, sumZ, ih]; omega
theorem sumZ_set : ∀ (l : List Int) (b : Nat) (z v : Int), l[b]? = some z → sumZ (l.set b v) = sumZ l - z + v
  | [], b, z, v, h => by simp at h
  | x :: l, 0, z, v, h => by simp at h; subst h; simp only [List.set_cons_zero, sumZ]; omega
  | x :: l, b + 1, z, v, h => by
    have ih := sumZ_set l b z v (by simpa using h)
    simp only [List.set_cons_succ, sumZ, ih]
    omega
theorem sumZ_take {l : List Int} {k : Nat} {z : Int} (h : l[k]? = some z) : sumZ (l.take (k + 1)) = sumZ (l.take k) + z := by
  rw [List.take_add_one, h, sumZ_append]; simp [sumZ]
theorem sumZ_nonneg : ∀ {l : List Int}, (∀ z ∈ l, 0 ≤ z) → 0 ≤ sumZ l
  | [], _ => by simp [sumZ]
  | x :: l, h => by
    have h1 := h x (by simp)
    have h2 := sumZ_nonneg (l := l) (fun z hz => h z (by simp [hz]))
    simp only [sumZ]; omega
/-- b is the place of the first greatest number -/
structure Best (l : List Int) (b : Nat) (z : Int) : Prop where
  at_ : l[b]? = some z
  all : ∀ (j : Nat) (y : Int), l[j]? = some y → y ≤ z
  first : ∀ (j : Nat) (y : Int), j < b → l[j]? = some y → y < z
theorem Best.uniq {l : List Int} {b b' : Nat} {z z' : Int} (h : Best l b z) (h' : Best l b' z') : b = b' ∧ z = z' := by
  have e1 := h.all b' z' h'.at_
  have e2 := h'.all b z h.at_
  obtain rfl : z = z' := by omega
  refine ⟨?_, rfl⟩
  rcases Nat.lt_trichotomy b b' with hlt | rfl | hlt
  · have := h'.first b z hlt h.at_; omega
  · rfl
  · have := h.first b' z hlt h'.at_; omega
/-- the first k of the greatest rests get one more each -/
inductive Dist : Nat → List Int → List Int → List Int → Prop
  | zero (o r : List Int) : Dist 0 o r o
  | step {k : Nat} {o r o' : List Int} {b : Nat} {z y : Int} (hb : Best r b z) (hy : o[b]? = some y) (h : Dist k (o.set b (y + 1)) (r.set b (-1)) o') : Dist (k + 1) o r o'
theorem Dist.uniq {k : Nat} {o r o1 o2 : List Int} (h : Dist k o r o1) (h' : Dist k o r o2) : o1 = o2 := by
  induction h with
  | zero => cases h'; rfl
  | step hb hy h ih =>
    cases h' with
    | step hb' hy' h' =>
      obtain ⟨rfl, rfl⟩ := hb.uniq hb'
      rw [hy] at hy'
      obtain rfl := Option.some.inj hy'
      exact ih h'
theorem Dist.len {k : Nat} {o r o' : List Int} (h : Dist k o r o') : o'.length = o.length := by
  induction h with
  | zero => rfl
  | step _ _ _ ih => rw [ih, List.length_set]
theorem Dist.sum {k : Nat} {o r o' : List Int} (h : Dist k o r o') : sumZ o' = sumZ o + k := by
  induction h with
  | zero => simp
  | step _ hy _ ih => rw [ih, sumZ_set _ _ _ _ hy]; omega
/-- the sum of what is above 0 -/
def sumP : List Int → Int
  | [] => 0
  | x :: l => (if 0 ≤ x then x else 0) + sumP l
theorem sumP_set : ∀ (l : List Int) (b : Nat) (z : Int), l[b]? = some z → 0 ≤ z → sumP (l.set b (-1)) = sumP l - z
  | [], b, z, h, _ => by simp at h
  | x :: l, 0, z, h, h0 => by simp at h; subst h; simp only [List.set_cons_zero, sumP]; rw [if_pos h0, if_neg (by omega)]; omega
  | x :: l, b + 1, z, h, h0 => by
    have ih := sumP_set l b z (by simpa using h) h0
    simp only [List.set_cons_succ, sumP, ih]
    omega
theorem sumP_pos : ∀ {l : List Int}, 0 < sumP l → ∃ (j : Nat) (y : Int), l[j]? = some y ∧ 0 < y
  | [], h => by simp [sumP] at h
  | x :: l, h => by
    by_cases hx : 0 < x
    · exact ⟨0, x, rfl, hx⟩
    · simp only [sumP] at h
      obtain ⟨j, y, hj, hy⟩ := sumP_pos (l := l) (by split at h <;> omega)
      exact ⟨j + 1, y, by simpa using hj, hy⟩
theorem sumP_all : ∀ {l : List Int}, (∀ z ∈ l, 0 ≤ z) → sumP l = sumZ l
  | [], _ => rfl
  | x :: l, h => by
    simp only [sumP, sumZ]
    rw [if_pos (h x (by simp)), sumP_all (l := l) (fun z hz => h z (by simp [hz]))]
/-- there is a best place -/
theorem Best.ex : ∀ {l : List Int}, l ≠ [] → ∃ b z, Best l b z
  | [x], _ => ⟨0, x, rfl, fun j y h => by cases j with | zero => simp at h; omega | succ j => simp at h, fun j y h => absurd h (by omega)⟩
  | x :: x' :: l, _ => by
    obtain ⟨b, z, hb⟩ := Best.ex (l := x' :: l) (by simp)
    by_cases hx : z ≤ x
    · refine ⟨0, x, rfl, fun j y h => ?_, fun j y h => absurd h (by omega)⟩
      cases j with
      | zero => simp at h; omega
      | succ j => have := hb.all j y (by simpa using h); omega
    · refine ⟨b + 1, z, by simpa using hb.at_, fun j y h => ?_, fun j y hj h => ?_⟩
      · cases j with
        | zero => simp at h; omega
        | succ j => exact hb.all j y (by simpa using h)
      · cases j with
        | zero => simp at h; omega
        | succ j => exact hb.first j y (by omega) (by simpa using h)
theorem Best.one {l : List Int} {x : Int} (h : l[0]? = some x) : Best (l.take 1) 0 x := by
  cases l with
  | nil => simp at h
  | cons a l => simp at h; subst h; exact ⟨rfl, fun j y hj => by cases j with | zero => simp at hj; omega | succ j => simp at hj, fun j y hj _ => by omega⟩
theorem take_old {l : List Int} {j i : Nat} {y : Int} (h : (l.take (j + 1))[i]? = some y) : (i < j ∧ (l.take j)[i]? = some y) ∨ (i = j ∧ l[j]? = some y) := by
  rw [List.getElem?_take] at h
  split at h
  · rcases Nat.lt_or_ge i j with hlt | hge
    · exact .inl ⟨hlt, by rw [List.getElem?_take, if_pos hlt]; exact h⟩
    · obtain rfl : i = j := by omega
      exact .inr ⟨rfl, h⟩
  · cases h
theorem Best.take_gt {l : List Int} {j b : Nat} {z y : Int} (h : Best (l.take j) b z) (hy : l[j]? = some y) (hgt : z < y) : Best (l.take (j + 1)) j y := by
  refine ⟨by rw [List.getElem?_take, if_pos (by omega)]; exact hy, fun i v hv => ?_, fun i v hi hv => ?_⟩
  · rcases take_old hv with ⟨_, h1⟩ | ⟨_, h1⟩
    · have := h.all i v h1; omega
    · rw [hy] at h1; have := Option.some.inj h1; omega
  · rcases take_old hv with ⟨_, h1⟩ | ⟨h0, _⟩
    · have := h.all i v h1; omega
    · omega
theorem Best.take_le {l : List Int} {j b : Nat} {z y : Int} (h : Best (l.take j) b z) (hy : l[j]? = some y) (hle : y ≤ z) : Best (l.take (j + 1)) b z := by
  have hb := (List.getElem?_eq_some_iff.1 h.at_).1
  rw [List.length_take] at hb
  have h0 := h.at_
  rw [List.getElem?_take, if_pos (by omega)] at h0
  refine ⟨by rw [List.getElem?_take, if_pos (by omega)]; exact h0, fun i v hv => ?_, fun i v hi hv => ?_⟩
  · rcases take_old hv with ⟨_, h1⟩ | ⟨_, h1⟩
    · exact h.all i v h1
    · rw [hy] at h1; have := Option.some.inj h1; omega
  · rcases take_old hv with ⟨_, h1⟩ | ⟨h2, _⟩
    · exact h.first i v hi h1
    · omega
/-- what is picked of a list -/
def pickM : List Bool → List Int → List Int
  | true :: m, x :: l => x :: pickM m l
  | false :: m, _ :: l => pickM m l
  | _, _ => []
/-- how many are picked before a place -/
def rankM : List Bool → Nat → Nat
  | _, 0 => 0
  | true :: m, b + 1 => rankM m b + 1
  | false :: m, b + 1 => rankM m b
  | [], _ + 1 => 0
theorem pick_at : ∀ {m : List Bool} {l : List Int} {b : Nat}, m[b]? = some true → b < l.length → (pickM m l)[rankM m b]? = l[b]?
  | [], l, b, h, _ => by simp at h
  | m0 :: m, [], b, _, h => by simp at h
  | true :: m, x :: l, 0, _, _ => rfl
  | false :: m, x :: l, 0, h, _ => by simp at h
  | true :: m, x :: l, b + 1, h, hl => by
    have := pick_at (m := m) (l := l) (b := b) (by simpa using h) (by simpa using hl)
    simpa [pickM, rankM] using this
  | false :: m, x :: l, b + 1, h, hl => by
    have := pick_at (m := m) (l := l) (b := b) (by simpa using h) (by simpa using hl)
    simpa [pickM, rankM] using this
theorem pick_set : ∀ {m : List Bool} {l : List Int} {b : Nat} (v : Int), m[b]? = some true → pickM m (l.set b v) = (pickM m l).set (rankM m b) v
  | [], l, b, v, h => by simp at h
  | m0 :: m, [], b, v, _ => by cases m0 <;> simp [pickM]
  | true :: m, x :: l, 0, v, _ => rfl
  | false :: m, x :: l, 0, v, h => by simp at h
  | true :: m, x :: l, b + 1, v, h => by
    have := pick_set (m := m) (l := l) (b := b) v (by simpa using h)
    simp [pickM, rankM, this]
  | false :: m, x :: l, b + 1, v, h => by
    have := pick_set (m := m) (l := l) (b := b) v (by simpa using h)
    simp [pickM, rankM, this]
/-- each picked number stands at a place of the list, in the same order -/
theorem pick_from : ∀ {m : List Bool} {l : List Int} {j : Nat} {y : Int}, (pickM m l)[j]? = some y → ∃ i, m[i]? = some true ∧ l[i]? = some y ∧ rankM m i = j
  | [], l, j, y, h => by simp [pickM] at h
  | m0 :: m, [], j, y, h => by cases m0 <;> simp [pickM] at h
  | true :: m, x :: l, 0, y, h => ⟨0, rfl, by simpa [pickM] using h, rfl⟩
  | true :: m, x :: l, j + 1, y, h => by
    obtain ⟨i, h1, h2, h3⟩ := pick_from (m := m) (l := l) (j := j) (y := y) (by simpa [pickM] using h)
    exact ⟨i + 1, by simpa using h1, by simpa using h2, by simp [rankM, h3]⟩
  | false :: m, x :: l, j, y, h => by
    obtain ⟨i, h1, h2, h3⟩ := pick_from (m := m) (l := l) (j := j) (y := y) (by simpa [pickM] using h)
    exact ⟨i + 1, by simpa using h1, by simpa using h2, by simp [rankM, h3]⟩
theorem rank_lt : ∀ {m : List Bool} {i b : Nat}, m[i]? = some true → rankM m i < rankM m b → i < b
  | [], i, b, h, _ => by simp at h
  | m0 :: m, i, 0, _, h => by simp [rankM] at h
  | m0 :: m, 0, b + 1, _, _ => by omega
  | true :: m, i + 1, b + 1, h, hr => by
    have := rank_lt (m := m) (i := i) (b := b) (by simpa using h) (by simpa [rankM] using hr)
    omega
  | false :: m, i + 1, b + 1, h, hr => by
    have := rank_lt (m := m) (i := i) (b := b) (by simpa using h) (by simpa [rankM] using hr)
    omega
theorem Best.pick {m : List Bool} {l : List Int} {b : Nat} {z : Int} (h : Best l b z) (hm : m[b]? = some true) : Best (pickM m l) (rankM m b) z := by
  have hl := (List.getElem?_eq_some_iff.1 h.at_).1
  refine ⟨by rw [pick_at hm hl]; exact h.at_, fun j y hj => ?_, fun j y hj hy => ?_⟩
  · obtain ⟨i, _, h2, _⟩ := pick_from hj
    exact h.all i y h2
  · obtain ⟨i, h1, h2, h3⟩ := pick_from hy
    exact h.first i y (rank_lt h1 (by rw [h3]; exact hj)) h2
/-- sharing out among all, where only the picked have a rest: the picked share among themselves, the others get nothing -/
theorem Dist.pick {k : Nat} {o r o' : List Int} (h : Dist k o r o') {m : List Bool} {s : Int} (hlen : r.length = m.length) (hz : ∀ (j : Nat) (y : Int), m[j]? = some false → r[j]? = some y → y = 0)
    (hs : ∀ (j : Nat) (y : Int), r[j]? = some y → y < s) (hsum : (k : Int) * s ≤ sumP r) (hs0 : 0 < s) :
    Dist k (pickM m o) (pickM m r) (pickM m o') ∧ ∀ j : Nat, m[j]? = some false → o'[j]? = o[j]? := by
  induction h with
  | zero o r => exact ⟨Dist.zero _ _, fun j _ => rfl⟩
  | @step k o r o' b z y hb hy h ih =>
    have hpos : 0 < sumP r := by
      have : s ≤ ((k + 1 : Nat) : Int) * s := by
        have h1 : (0 : Int) ≤ (k : Int) * s := Int.mul_nonneg (by omega) (by omega)
        rw [Int.natCast_succ, Int.add_mul, Int.one_mul]; omega
      omega
    obtain ⟨j, v, hj, hv⟩ := sumP_pos hpos
    have hzp : 0 < z := by have := hb.all j v hj; omega
    have hbl := (List.getElem?_eq_some_iff.1 hb.at_).1
    have hmb : m[b]? = some true := by
      cases hc : m[b]? with
      | none => rw [List.getElem?_eq_none_iff] at hc; omega
      | some c =>
        cases c with
        | true => rfl
        | false => have := hz b z hc hb.at_; omega
    have hol : b < o.length := (List.getElem?_eq_some_iff.1 hy).1
    obtain ⟨i1, i2⟩ := ih (by rw [List.length_set]; exact hlen) (fun j y hm hr => by
        rw [List.getElem?_set] at hr
        split at hr
        · rename_i e; subst e; rw [hmb] at hm; cases hm
        · exact hz j y hm hr) (fun j y hr => by
        rw [List.getElem?_set] at hr
        split at hr
        · cases hr; omega
        · exact hs j y hr) (by
        rw [sumP_set r b z hb.at_ (by omega)]
        have := hs b z hb.at_
        rw [Int.natCast_succ, Int.add_mul, Int.one_mul] at hsum
        omega)
    refine ⟨?_, fun j hm => ?_⟩
    · rw [pick_set _ hmb, pick_set _ hmb] at i1
      exact Dist.step (hb.pick hmb) (by rw [pick_at hmb hol]; exact hy) i1
    · rw [i2 j hm, List.getElem?_set, if_neg (fun e => by subst e; rw [hmb] at hm; cases hm)]
/-- there is a way to share out -/
theorem Dist.ex : ∀ (k : Nat) (o r : List Int), r ≠ [] → o.length = r.length → ∃ o', Dist k o r o'
  | 0, o, r, _, _ => ⟨o, .zero _ _⟩
  | k + 1, o, r, hr, hl => by
    obtain ⟨b, z, hb⟩ := Best.ex hr
    have hbl := (List.getElem?_eq_some_iff.1 hb.at_).1
    obtain ⟨o', h⟩ := Dist.ex k (o.set b (o[b] + 1)) (r.set b (-1)) (by intro e; have := congrArg List.length e; rw [List.length_set] at this; simp at this; exact hr this) (by rw [List.length_set, List.length_set]; exact hl)
    exact ⟨o', .step hb (List.getElem?_eq_getElem (by omega)) h⟩
def quoL (t s : Int) (ws : List Int) : List Int := ws.map fun w => t * w / s
def remL (t s : Int) (ws : List Int) : List Int := ws.map fun w => t * w % s
theorem quo_rem (t s : Int) : ∀ ws : List Int, t * sumZ ws = s * sumZ (quoL t s ws) + sumZ (remL t s ws)
  | [] => by simp [sumZ, quoL, remL]
  | w :: ws => by
    have ih := quo_rem t s ws
    have h := Int.mul_ediv_add_emod (t * w) s
    simp only [quoL, remL, List.map_cons, sumZ] at *
    rw [Int.mul_add, Int.mul_add, ih]
    omega
/-- the shares of a total -/
def Shares (t : Int) (ws o : List Int) : Prop := Dist (t - sumZ (quoL t (sumZ ws) ws)).toNat (quoL t (sumZ ws) ws) (remL t (sumZ ws) ws) o
theorem rem_nonneg {t s : Int} (hs : 0 < s) (ws : List Int) : ∀ z ∈ remL t s ws, 0 ≤ z ∧ z < s := by
  intro z hz
  obtain ⟨w, _, rfl⟩ := List.mem_map.1 hz
  exact ⟨Int.emod_nonneg _ (by omega), Int.emod_lt_of_pos _ hs⟩
theorem left_facts {t : Int} {ws : List Int} (hs : 0 < sumZ ws) : 0 ≤ t - sumZ (quoL t (sumZ ws) ws) ∧ (t - sumZ (quoL t (sumZ ws) ws)) * sumZ ws = sumZ (remL t (sumZ ws) ws) := by
  have h := quo_rem t (sumZ ws) ws
  have e : (t - sumZ (quoL t (sumZ ws) ws)) * sumZ ws = sumZ (remL t (sumZ ws) ws) := by
    rw [Int.sub_mul, Int.mul_comm (sumZ (quoL t (sumZ ws) ws))]; omega
  refine ⟨?_, e⟩
  have h0 := sumZ_nonneg (l := remL t (sumZ ws) ws) (fun z hz => (rem_nonneg hs ws z hz).1)
  rcases Int.lt_or_le (t - sumZ (quoL t (sumZ ws) ws)) 0 with hlt | hge
  · have : (t - sumZ (quoL t (sumZ ws) ws)) * sumZ ws < 0 := Int.mul_neg_of_neg_of_pos hlt hs
    omega
  · exact hge
theorem Shares.uniq {t : Int} {ws o o' : List Int} (h : Shares t ws o) (h' : Shares t ws o') : o = o' := Dist.uniq h h'
theorem Shares.len {t : Int} {ws o : List Int} (h : Shares t ws o) : o.length = ws.length := by rw [Dist.len h]; simp [quoL]
theorem Shares.sum {t : Int} {ws o : List Int} (h : Shares t ws o) (hs : 0 < sumZ ws) : sumZ o = t := by
  rw [Dist.sum h]; have := (left_facts (t := t) hs).1; omega
theorem Shares.ex (t : Int) {ws : List Int} (hs : 0 < sumZ ws) : ∃ o, Shares t ws o := by
  refine Dist.ex _ _ _ ?_ (by simp [quoL, remL])
  cases ws with
  | nil => simp [sumZ] at hs
  | cons w ws => simp [remL]
theorem pick_map (f : Int → Int) : ∀ (m : List Bool) (l : List Int), pickM m (l.map f) = (pickM m l).map f
  | [], l => by cases l <;> rfl
  | m0 :: m, [] => by cases m0 <;> rfl
  | true :: m, x :: l => by simp [pickM, pick_map f m l]
  | false :: m, x :: l => by simp [pickM, pick_map f m l]
theorem pick_sum : ∀ {m : List Bool} {l : List Int}, l.length = m.length → (∀ (j : Nat) (y : Int), m[j]? = some false → l[j]? = some y → y = 0) → sumZ (pickM m l) = sumZ l
  | [], [], _, _ => rfl
  | [], x :: l, h, _ => by simp at h
  | m0 :: m, [], h, _ => by simp at h
  | true :: m, x :: l, h, hz => by
    simp only [pickM, sumZ]
    rw [pick_sum (m := m) (l := l) (by simpa using h) (fun j y h1 h2 => hz (j + 1) y (by simpa using h1) (by simpa using h2))]
  | false :: m, x :: l, h, hz => by
    simp only [pickM, sumZ]
    rw [pick_sum (m := m) (l := l) (by simpa using h) (fun j y h1 h2 => hz (j + 1) y (by simpa using h1) (by simpa using h2)), hz 0 x rfl rfl]
    omega
/-- the shares among those picked are the shares among all, where the others weigh nothing -/
theorem Shares.pick {t : Int} {ws o : List Int} (h : Shares t ws o) {m : List Bool} (hlen : ws.length = m.length) (hz : ∀ (j : Nat) (y : Int), m[j]? = some false → ws[j]? = some y → y = 0) (hs : 0 < sumZ ws) :
    Shares t (pickM m ws) (pickM m o) ∧ ∀ j : Nat, m[j]? = some false → j < o.length → o[j]? = some 0 := by
  obtain ⟨h0, h1⟩ := left_facts (t := t) hs
  have hzq : ∀ (j : Nat) (y : Int), m[j]? = some false → (quoL t (sumZ ws) ws)[j]? = some y → y = 0 := fun j y hm hj => by
    rw [quoL, List.getElem?_map] at hj
    cases hw : ws[j]? with
    | none => rw [hw] at hj; cases hj
    | some w => rw [hw] at hj; have := hz j w hm hw; subst this; simp at hj; exact hj.symm
  obtain ⟨a, b⟩ := Dist.pick h (m := m) (s := sumZ ws) (by simp [remL, hlen]) (fun j y hm hj => by
      rw [remL, List.getElem?_map] at hj
      cases hw : ws[j]? with
      | none => rw [hw] at hj; cases hj
      | some w => rw [hw] at hj; have := hz j w hm hw; subst this; simp at hj; exact hj.symm)
    (fun j y hj => (rem_nonneg hs ws y (List.mem_of_getElem? hj)).2)
    (by rw [sumP_all (fun z hz => (rem_nonneg hs ws z hz).1), ← h1, Int.toNat_of_nonneg h0]; exact Int.le_refl _) hs
  refine ⟨?_, fun j hm hj => ?_⟩
  · unfold Shares
    have e := pick_sum hlen hz
    rw [e]
    have q1 : pickM m (quoL t (sumZ ws) ws) = quoL t (sumZ ws) (pickM m ws) := pick_map _ m ws
    have q2 : pickM m (remL t (sumZ ws) ws) = remL t (sumZ ws) (pickM m ws) := pick_map _ m ws
    have q3 : sumZ (pickM m (quoL t (sumZ ws) ws)) = sumZ (quoL t (sumZ ws) ws) := pick_sum (by simp [quoL, hlen]) hzq
    rw [← q1, ← q2, q3]
    exact a
  · rw [b j hm]
    have hq : j < (quoL t (sumZ ws) ws).length := by rw [← Dist.len h]; exact hj
    have := hzq j _ hm (List.getElem?_eq_getElem hq)
    rw [List.getElem?_eq_getElem hq, this]
end Go.Proofs.Ytegkeeeohileiaa
