/-
  The helpers of the laws on Reading: copying, comparing, measuring, marking. Allocating readings to orders. Plain lists, no program.
-/
import Derived.Test.YtegkeeeohileiaaSa23
import Derived.Test.YtegkeeeohileiaaSa02
import Derived.Test.YtegkeeeohileiaaSa28
namespace Go.Proofs.Ytegkeeeohileiaa
open Go.RowKit

structure Reading where
  node : Int
  amount : Int
def Reading.cells (x : Reading) : List Value := [.int .i64 x.node, .int .i64 x.amount]
theorem reading_len (x : Reading) : x.cells.length = 2 := rfl
theorem reading_info : (Try.prog.info? 38).map (fun i => (i.zero, i.size, i.bytes)) = some (some (.agg #[.int .i64 0, .int .i64 0]), 2, 16) := by kernel_rfl










end Go.Proofs.Ytegkeeeohileiaa

namespace Go.Proofs.Ytegkeeeohileiaa
structure Order where
  shipper : Int
  node : Int
  amount : Int
  cls : Int
def Order.cells (x : Order) : List Value := [.int .i64 x.shipper, .int .i64 x.node, .int .i64 x.amount, .int .i64 x.cls]
theorem order_len (x : Order) : x.cells.length = 4 := rfl
theorem order_one (y : Order) : ∀ u ∈ y.cells, u.oneCell' = true := by intro u hu; simp [Order.cells] at hu; rcases hu with rfl | rfl | rfl | rfl <;> rfl
theorem order_info : (Try.prog.info? 51).map (fun i => (i.zero, i.size, i.bytes)) = some (some (.agg #[.int .i64 0, .int .i64 0, .int .i64 0, .int .i64 0]), 4, 32) := by kernel_rfl
/-- the sign of a reading -/
def sgn (x : Reading) : Int := if x.amount < 0 then -1 else 1
def absZ (z : Int) : Int := if z < 0 then -z else z
/-- has an order the node and the sign of a reading? -/
def matchB (x : Reading) (o : Order) : Bool := o.node == x.node && ((decide (0 < o.amount) && decide (0 < x.amount)) || (decide (o.amount < 0) && decide (x.amount < 0)))
/-- what an order weighs for a reading -/
def wt (x : Reading) (o : Order) : Int := if o.node = x.node then (if 0 < sgn x * o.amount then sgn x * o.amount else 0) else 0
def wts (os : List Order) (x : Reading) : List Int := os.map (wt x)
theorem wt_yes {x : Reading} {o : Order} (h : matchB x o = true) : wt x o = absZ o.amount ∧ 0 < wt x o := by
  simp only [matchB, Bool.and_eq_true, Bool.or_eq_true, beq_iff_eq, decide_eq_true_eq] at h
  obtain ⟨h1, h2⟩ := h
  unfold wt absZ
  rw [if_pos h1]
  rcases h2 with ⟨a, b⟩ | ⟨a, b⟩
  · have e : sgn x = 1 := by unfold sgn; rw [if_neg (by omega)]
    rw [e, Int.one_mul, if_pos a, if_neg (by omega)]
    exact ⟨rfl, a⟩
  · have e : sgn x = -1 := by unfold sgn; rw [if_pos b]
    rw [e, if_pos (by omega), if_pos a]
    omega
theorem wt_no {x : Reading} {o : Order} (h : matchB x o = false) (hx : x.amount ≠ 0) : wt x o = 0 := by
  unfold wt
  split
  · rename_i h1
    have h2 : ¬ ((0 < o.amount ∧ 0 < x.amount) ∨ (o.amount < 0 ∧ x.amount < 0)) := by
      intro h3
      have : matchB x o = true := by simp only [matchB, Bool.and_eq_true, Bool.or_eq_true, beq_iff_eq, decide_eq_true_eq]; exact ⟨h1, h3⟩
      rw [this] at h; cases h
    unfold sgn
    split
    · rw [if_neg (by omega)]
    · rw [if_neg (by omega)]
  · rfl
theorem wt_nonneg (x : Reading) (o : Order) : 0 ≤ wt x o := by unfold wt; split <;> (try split) <;> omega
theorem wts_nonneg (os : List Order) (x : Reading) : ∀ z ∈ wts os x, 0 ≤ z := by
  intro z hz
  obtain ⟨o, _, rfl⟩ := List.mem_map.1 hz
  exact wt_nonneg x o
theorem wts_pos {os : List Order} {x : Reading} {o : Order} (ho : o ∈ os) (h : matchB x o = true) : 0 < sumZ (wts os x) := by
  induction os with
  | nil => cases ho
  | cons a os ih =>
    have h0 := sumZ_nonneg (wts_nonneg os x)
    have h1 := wt_nonneg x a
    show 0 < wt x a + sumZ (wts os x)
    rcases List.mem_cons.1 ho with rfl | ho
    · have := (wt_yes h).2; omega
    · have := ih ho; omega
theorem wts_zero {os : List Order} {x : Reading} (hx : x.amount ≠ 0) (h : ∀ o ∈ os, matchB x o = false) : sumZ (wts os x) = 0 := by
  induction os with
  | nil => rfl
  | cons a os ih =>
    show wt x a + sumZ (wts os x) = 0
    rw [wt_no (h a (by simp)) hx, ih (fun o ho => h o (by simp [ho]))]; rfl
/-- a list with shares added or taken -/
def addS (s : Int) (g sh : List Int) : List Int := List.zipWith (fun a b => a + s * b) g sh
theorem addS_len {s : Int} {g sh : List Int} (h : sh.length = g.length) : (addS s g sh).length = g.length := by simp [addS, h]
theorem addS_at {s : Int} {g sh : List Int} {i : Nat} {a b : Int} (ha : g[i]? = some a) (hb : sh[i]? = some b) : (addS s g sh)[i]? = some (a + s * b) := by simp [addS, List.getElem?_zipWith, ha, hb]
theorem addS_sum {s : Int} : ∀ {g sh : List Int}, sh.length = g.length → sumZ (addS s g sh) = sumZ g + s * sumZ sh
  | [], [], _ => by simp [addS, sumZ]
  | [], _ :: _, h => by simp at h
  | _ :: _, [], h => by simp at h
  | a :: g, b :: sh, h => by
    have ih := addS_sum (s := s) (g := g) (sh := sh) (by simpa using h)
    simp only [addS, List.zipWith_cons_cons, sumZ] at *
    rw [ih, Int.mul_add]; omega
/-- what the orders get, one reading after the other -/
inductive Alloc (os : List Order) : List Int → List Reading → List Int → Prop
  | nil (g : List Int) : Alloc os g [] g
  | skip {g g' : List Int} {x : Reading} {rs : List Reading} (hz : sumZ (wts os x) = 0) (h : Alloc os g rs g') : Alloc os g (x :: rs) g'
  | add {g g' sh : List Int} {x : Reading} {rs : List Reading} (hs : 0 < sumZ (wts os x)) (hd : Shares (absZ x.amount) (wts os x) sh) (h : Alloc os (addS (sgn x) g sh) rs g') : Alloc os g (x :: rs) g'
theorem Alloc.uniq {os : List Order} {g g1 g2 : List Int} {rs : List Reading} (h : Alloc os g rs g1) (h' : Alloc os g rs g2) : g1 = g2 := by
  induction h with
  | nil => cases h'; rfl
  | skip hz h ih =>
    cases h' with
    | skip _ h' => exact ih h'
    | add hs _ _ => omega
  | add hs hd h ih =>
    cases h' with
    | skip hz _ => omega
    | add _ hd' h' =>
      obtain rfl := hd.uniq hd'
      exact ih h'
/-- what is allocated of a list of readings -/
def allocd (os : List Order) : List Reading → Int
  | [] => 0
  | x :: rs => (if sumZ (wts os x) = 0 then 0 else x.amount) + allocd os rs
theorem sgn_abs (x : Reading) : sgn x * absZ x.amount = x.amount := by unfold sgn absZ; split <;> omega
theorem Alloc.law {os : List Order} {g g' : List Int} {rs : List Reading} (h : Alloc os g rs g') (hg : g.length = os.length) : g'.length = os.length ∧ sumZ g' = sumZ g + allocd os rs := by
  induction h with
  | nil => exact ⟨hg, by simp [allocd]⟩
  | skip hz h ih =>
    obtain ⟨a, b⟩ := ih hg
    exact ⟨a, by rw [b]; simp only [allocd]; rw [if_pos hz]; omega⟩
  | @add g g' sh x rs hs hd h ih =>
    have hl : sh.length = g.length := by rw [hd.len, hg]; simp [wts]
    obtain ⟨a, b⟩ := ih (by rw [addS_len hl]; exact hg)
    refine ⟨a, ?_⟩
    rw [b, addS_sum hl, hd.sum hs, sgn_abs]
    simp only [allocd]
    rw [if_neg (by omega)]; omega
/-- the places of the readings that no order matches -/
def unalL (os : List Order) : Nat → List Reading → List Int
  | _, [] => []
  | k, x :: rs => if sumZ (wts os x) = 0 then (k : Int) :: unalL os (k + 1) rs else unalL os (k + 1) rs
theorem unal_snoc (os : List Order) (x : Reading) : ∀ (k : Nat) (rs : List Reading), unalL os k (rs ++ [x]) = unalL os k rs ++ if sumZ (wts os x) = 0 then [((k + rs.length : Nat) : Int)] else []
  | k, [] => by simp [unalL]
  | k, y :: rs => by
    have ih := unal_snoc os x (k + 1) rs
    simp only [List.cons_append, unalL, ih, List.length_cons]
    rw [show k + 1 + rs.length = k + (rs.length + 1) by omega]
    split <;> simp
theorem unal_take {os : List Order} {rs : List Reading} {k : Nat} {x : Reading} (h : rs[k]? = some x) : unalL os 0 (rs.take (k + 1)) = unalL os 0 (rs.take k) ++ if sumZ (wts os x) = 0 then [(k : Int)] else [] := by
  have hk := (List.getElem?_eq_some_iff.1 h).1
  rw [List.take_add_one, h]
  have := unal_snoc os x 0 (rs.take k)
  rw [List.length_take, Nat.min_eq_left (by omega), Nat.zero_add] at this
  exact this
theorem unal_len (os : List Order) : ∀ (k : Nat) (rs : List Reading), (unalL os k rs).length ≤ rs.length
  | _, [] => by simp [unalL]
  | k, x :: rs => by
    have := unal_len os (k + 1) rs
    simp only [unalL, List.length_cons]
    split
    · simp; omega
    · omega
def amts (rs : List Reading) : Int := sumZ (rs.map Reading.amount)
/-- what is left: the amounts at the places -/
def restAt (rs : List Reading) (u : List Int) : Int := sumZ (u.map fun z => ((rs[z.toNat]?).map Reading.amount).getD 0)
theorem rest_law (os : List Order) : ∀ (rs pre : List Reading), restAt (pre ++ rs) (unalL os pre.length rs) + allocd os rs = amts rs
  | [], pre => by simp [unalL, restAt, allocd, amts, sumZ]
  | x :: rs, pre => by
    have ih := rest_law os rs (pre ++ [x])
    rw [List.append_assoc, List.length_append] at ih
    simp only [List.singleton_append, List.length_singleton] at ih
    simp only [unalL, allocd, amts, List.map_cons, sumZ] at *
    split
    · simp only [restAt, List.map_cons, sumZ] at *
      have e : ((pre ++ x :: rs)[(pre.length : Int).toNat]?).map Reading.amount = some x.amount := by simp
      rw [e, Option.getD_some]; omega
    · omega
theorem unal_mem (os : List Order) : ∀ (k : Nat) (rs : List Reading), ∀ z ∈ unalL os k rs, ∃ j : Nat, z = j ∧ k ≤ j ∧ j < k + rs.length
  | _, [] => fun z hz => by simp [unalL] at hz
  | k, x :: rs => fun z hz => by
    have ih := unal_mem os (k + 1) rs
    simp only [unalL] at hz
    have key : z ∈ unalL os (k + 1) rs → ∃ j : Nat, z = j ∧ k ≤ j ∧ j < k + (x :: rs).length := fun h => by
      obtain ⟨j, h1, h2, h3⟩ := ih z h
      exact ⟨j, h1, by omega, by simp; omega⟩
    split at hz
    · rcases List.mem_cons.1 hz with rfl | hz
      · exact ⟨k, rfl, Nat.le_refl _, by simp⟩
      · exact key hz
    · exact key hz
/-- whole = allocated and unallocated -/
theorem alloc_whole {os : List Order} {g : List Int} {rs : List Reading} (h : Alloc os (List.replicate os.length 0) rs g) : sumZ g + restAt rs (unalL os 0 rs) = amts rs := by
  obtain ⟨_, h2⟩ := h.law (by simp)
  have h3 := rest_law os rs []
  have h4 : sumZ (List.replicate os.length (0 : Int)) = 0 := by
    induction os.length with
    | zero => rfl
    | succ n ih => rw [List.replicate_succ]; simp only [sumZ]; omega
  rw [List.nil_append] at h3
  simp only [List.length_nil] at h3
  omega
/-- shares that the matching orders share among themselves, laid at their places, are the shares of all -/
theorem alloc_step {os : List Order} {g g2 shf : List Int} {x : Reading} (hx : x.amount ≠ 0) (hg : g.length = os.length) (hg2 : g2.length = os.length) (hs : 0 < sumZ (wts os x))
    (hf : ∀ (i : Nat), (os.map (matchB x))[i]? = some true → g[i]? = some 0)
    (hsh : Shares (absZ x.amount) (pickM (os.map (matchB x)) (wts os x)) shf)
    (h1 : ∀ i : Nat, (os.map (matchB x))[i]? = some false → g2[i]? = g[i]?)
    (h2 : ∀ i : Nat, (os.map (matchB x))[i]? = some true → ∃ v, shf[rankM (os.map (matchB x)) i]? = some v ∧ g2[i]? = some (sgn x * v)) :
    ∃ sh, Shares (absZ x.amount) (wts os x) sh ∧ g2 = addS (sgn x) g sh := by
  obtain ⟨sh, hsh0⟩ := Shares.ex (absZ x.amount) hs
  have hl : sh.length = g.length := by rw [hsh0.len, hg]; simp [wts]
  have hml : (os.map (matchB x)).length = os.length := by simp
  obtain ⟨hp, hz⟩ := hsh0.pick (m := os.map (matchB x)) (by simp [wts]) (fun j y hm hy => by
    rw [List.getElem?_map] at hm
    rw [wts, List.getElem?_map] at hy
    cases ho : os[j]? with
    | none => rw [ho] at hm; cases hm
    | some o =>
      rw [ho] at hm hy
      simp at hm hy
      rw [← hy]; exact wt_no hm hx) hs
  obtain rfl := hp.uniq hsh
  refine ⟨sh, hsh0, List.ext_getElem? fun i => ?_⟩
  by_cases hi : i < os.length
  · have hgi := List.getElem?_eq_getElem (l := g) (i := i) (by omega)
    have hsi := List.getElem?_eq_getElem (l := sh) (i := i) (by omega)
    cases hm : (os.map (matchB x))[i]? with
    | none => rw [List.getElem?_eq_none_iff] at hm; omega
    | some c =>
      cases c with
      | false =>
        have h0 := hz i hm (by omega)
        rw [h1 i hm, addS_at hgi h0, hgi]; simp
      | true =>
        obtain ⟨v, hv, hv2⟩ := h2 i hm
        rw [pick_at hm (by omega)] at hv
        rw [hv2, addS_at (hf i hm) hv]; simp
  · rw [List.getElem?_eq_none (by omega), List.getElem?_eq_none (by rw [addS_len hl]; omega)]
end Go.Proofs.Ytegkeeeohileiaa
