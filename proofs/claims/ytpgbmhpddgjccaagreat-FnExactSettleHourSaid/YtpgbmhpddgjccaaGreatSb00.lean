/-
  Planned readings, in plain Lean: allocating them gives each order its amount.
-/
import Derived.Test.YtpgbmhpddgjccaaGreatSa31
namespace Go.Proofs.YtpgbmhpddgjccaaGreat
theorem Alloc.snoc {os : List Order} {g g' : List Int} {rs : List Reading} (h : Alloc os g rs g') {x : Reading} {sh : List Int} (hs : 0 < sumZ (wts os x)) (hd : Shares (absZ x.amount) (wts os x) sh) : Alloc os g (rs ++ [x]) (addS (sgn x) g' sh) := by
  induction h with
  | nil g => exact .add hs hd (.nil _)
  | skip hz _ ih => exact .skip hz (ih)
  | add hs' hd' _ ih => exact .add hs' hd' (ih)
theorem map_div {T : Int} (hT : 0 < T) : ∀ ws : List Int, quoL T T ws = ws
  | [] => rfl
  | w :: ws => by
    have := map_div hT ws
    unfold quoL at this ⊢
    rw [List.map_cons, this, Int.mul_ediv_cancel_left w (by omega)]
theorem shares_self {ws : List Int} (h : 0 < sumZ ws) : Shares (sumZ ws) ws ws := by
  unfold Shares
  rw [map_div h, Int.sub_self]
  exact .zero _ _
theorem addS_zero {s : Int} : ∀ {g sh : List Int}, sh.length = g.length → (∀ z ∈ sh, z = 0) → addS s g sh = g
  | [], [], _, _ => rfl
  | [], _ :: _, h, _ => by simp at h
  | _ :: _, [], h, _ => by simp at h
  | a :: g, b :: sh, h, h0 => by
    have hb := h0 b (by simp)
    have := addS_zero (s := s) (g := g) (sh := sh) (by simpa using h) (fun z hz => h0 z (by simp [hz]))
    unfold addS at this ⊢
    rw [List.zipWith_cons_cons, this, hb, Int.mul_zero, Int.add_zero]
theorem sum_zero_all : ∀ {l : List Int}, (∀ z ∈ l, 0 ≤ z) → sumZ l ≤ 0 → ∀ z ∈ l, z = 0
  | [], _, _, z, hz => by cases hz
  | a :: l, h, h0, z, hz => by
    have h1 := h a (by simp)
    have h2 := sumZ_nonneg (l := l) (fun y hy => h y (by simp [hy]))
    simp only [sumZ] at h0
    rcases List.mem_cons.1 hz with rfl | hz
    · omega
    · exact sum_zero_all (l := l) (fun y hy => h y (by simp [hy])) (by omega) z hz
theorem sgn_of {i a s : Int} (hs : s = 1 ∨ s = -1) (ha : 0 < a) : sgn ⟨i, s * a⟩ = s ∧ absZ (s * a) = a := by
  unfold sgn absZ
  rcases hs with rfl | rfl
  · rw [if_neg (by simp only; omega), if_neg (by omega)]; exact ⟨rfl, by omega⟩
  · rw [if_pos (by simp only; omega), if_pos (by omega)]; exact ⟨rfl, by omega⟩
theorem sgn_one {i s : Int} (hs : s = 1 ∨ s = -1) : sgn ⟨i, s⟩ = s := by
  unfold sgn
  rcases hs with rfl | rfl <;> rfl
theorem wts_same {os : List Order} {i a s : Int} (hs : s = 1 ∨ s = -1) (ha : 0 < a) : wts os ⟨i, s * a⟩ = wts os ⟨i, s⟩ := by
  unfold wts
  refine List.map_congr_left (fun o _ => ?_)
  unfold wt
  rw [(sgn_of hs ha).1, sgn_one hs]
theorem stepR_alloc {os : List Order} {z g : List Int} {r : List Reading} (h : Alloc os z r g) (hl : g.length = os.length) {s : Int} (hs : s = 1 ∨ s = -1) (i : Nat) : Alloc os z (stepR os i s r) (addS s g (wts os ⟨i, s⟩)) := by
  have hw : (wts os ⟨i, s⟩).length = g.length := by simp [wts, hl]
  unfold stepR
  split
  · rename_i h0
    have hsum : sumZ (wts os ⟨(i : Int), s * rdAt os i s⟩) = rdAt os i s := by rw [wts_same hs h0]; rfl
    have hsh : Shares (absZ (s * rdAt os i s)) (wts os ⟨(i : Int), s * rdAt os i s⟩) (wts os ⟨i, s⟩) := by
      rw [(sgn_of (i := (i : Int)) hs h0).2, wts_same hs h0]
      exact shares_self h0
    have h2 := Alloc.snoc (x := ⟨(i : Int), s * rdAt os i s⟩) h (by rw [hsum]; exact h0) hsh
    rw [(sgn_of (i := (i : Int)) hs h0).1] at h2
    exact h2
  · rename_i h0
    rw [addS_zero hw (sum_zero_all (wts_nonneg os _) (show sumZ (wts os ⟨i, s⟩) ≤ 0 by unfold rdAt at h0; omega))]
    exact h
def gotK (os : List Order) (k : Nat) : List Int := os.map fun o => if o.node < (k : Int) then o.amount else 0
theorem gotK_succ {os : List Order} (hn : ∀ o ∈ os, 0 ≤ o.node) (k : Nat) : addS (-1) (addS 1 (gotK os k) (wts os ⟨k, 1⟩)) (wts os ⟨k, -1⟩) = gotK os (k + 1) := by
  induction os with
  | nil => rfl
  | cons o os ih =>
    have h0 := hn o (by simp)
    have ih := ih (fun y hy => hn y (by simp [hy]))
    unfold gotK wts addS at ih ⊢
    simp only [List.map_cons, List.zipWith_cons_cons]
    rw [ih]
    congr 1
    unfold wt
    rw [sgn_one (.inl rfl), sgn_one (.inr rfl)]
    simp only
    split <;> split <;> split <;> (try split) <;> omega
/-- planned readings give each order its amount -/
theorem rfR_alloc {os : List Order} (hn : ∀ o ∈ os, 0 ≤ o.node) : ∀ {k : Nat} {r : List Reading}, rfR os k = some r → Alloc os (List.replicate os.length 0) r (gotK os k)
  | 0, r, h => by
    simp only [rfR, Option.some.injEq] at h
    subst h
    have : gotK os 0 = List.replicate os.length 0 := by
      unfold gotK
      apply List.eq_replicate_iff.2
      refine ⟨by simp, fun z hz => ?_⟩
      obtain ⟨o, ho, rfl⟩ := List.mem_map.1 hz
      have := hn o ho
      rw [if_neg (by omega)]
    rw [this]
    exact .nil _
  | k + 1, r, h => by
    simp only [rfR] at h
    cases hk : rfR os k with
    | none => rw [hk] at h; cases h
    | some q =>
      rw [hk] at h
      simp only at h
      split at h
      · cases h
      · split at h
        · cases h
        · obtain rfl := Option.some.inj h
          have h1 := stepR_alloc (rfR_alloc hn hk) (by simp [gotK]) (s := 1) (.inl rfl) k
          have h2 := stepR_alloc h1 (by rw [addS_len (by simp [wts, gotK])]; simp [gotK]) (s := -1) (.inr rfl) k
          rw [gotK_succ hn] at h2
          exact h2
theorem planned_alloc {os : List Order} {N : Nat} {r : List Reading} (hn : ∀ o ∈ os, 0 ≤ o.node ∧ o.node < N) (h : rfR os N = some r) : Alloc os (List.replicate os.length 0) r (os.map Order.amount) := by
  have h1 := rfR_alloc (fun o ho => (hn o ho).1) h
  have : gotK os N = os.map Order.amount := by
    unfold gotK
    refine List.map_congr_left (fun o ho => ?_)
    rw [if_pos (hn o ho).2]
  rw [← this]; exact h1
end Go.Proofs.YtpgbmhpddgjccaaGreat
