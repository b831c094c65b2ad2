/-
  What an hour is settled to, in plain Lean: changes, throughputs, postings.
-/
import Derived.Test.YtfkpghdmljjegaaGreatVb24
import Derived.Test.YtfkpghdmljjegaaGreatVb20
import Derived.Test.YtfkpghdmljjegaaGreatVb25
namespace Go.Proofs.YtfkpghdmljjegaaGreat
open Go.RowKit
theorem ordL_mem {xs : List Contract} {am : List Int} {o : Order} (h : o ∈ ordL xs am) : ∃ c a, c ∈ xs ∧ a ∈ am ∧ (o = ⟨c.shipper, c.entry, a, c.cls⟩ ∨ o = ⟨c.shipper, c.exit, -a, c.cls⟩) := by
  unfold ordL at h
  obtain ⟨l, hl, ho⟩ := List.mem_flatten.1 h
  obtain ⟨k, hk, rfl⟩ := List.mem_iff_getElem.1 hl
  rw [List.length_zipWith] at hk
  rw [List.getElem_zipWith] at ho
  refine ⟨xs[k]'(by omega), am[k]'(by omega), List.getElem_mem _, List.getElem_mem _, ?_⟩
  simpa [ordC2] using ho
theorem hrOrd_ok {n1 : Nat} {ps : List Pipe} {xs : List Contract} {L : List Nomination} (hb : bookB n1 xs = true) (hn : nomsB xs L = true) (h : Int) : ∀ o ∈ hrOrd ps n1 xs L h, (0 ≤ o.shipper ∧ o.shipper ≤ 15) ∧ (0 ≤ o.node ∧ o.node < n1) ∧ (-30000 ≤ o.amount ∧ o.amount ≤ 30000) ∧ (0 ≤ o.cls ∧ o.cls ≤ 3) := by
  intro o ho
  obtain ⟨c, a, hc, ha, he⟩ := ordL_mem ho
  have h1 := con_facts hb c hc
  obtain ⟨x, hx, rfl⟩ := List.mem_map.1 ha
  have h2 := (less_ok hb hn h x hx).2.2.1
  rcases he with rfl | rfl <;> simp only <;> omega
theorem own_blk {A : Option Addr} {n c b : Nat} (h : blkOf A n = some b) : (Value.slice A n c).ownBlock = some b := by
  unfold blkOf at h
  split at h
  · cases h
  · cases A with
    | none => cases h
    | some a => simpa [Value.ownBlock] using h
def accAt (l : List Int) (k : Nat) (v : Int) : List Int := l.set k (zAt l k + v)
/-- sums by shipper, of the first orders -/
def accL (f : Int → Int) (os : List Order) (g : List Int) : Nat → List Int
  | 0 => List.replicate 16 0
  | j + 1 => match os[j]?, g[j]? with
    | some o, some z => accAt (accL f os g j) o.shipper.toNat (f z)
    | _, _ => accL f os g j
theorem accL_len (f : Int → Int) (os : List Order) (g : List Int) : ∀ j : Nat, (accL f os g j).length = 16
  | 0 => by simp [accL]
  | j + 1 => by
    simp only [accL]
    split
    · rw [accAt, List.length_set]; exact accL_len f os g j
    · exact accL_len f os g j
theorem accL_step {f : Int → Int} {os : List Order} {g : List Int} {j : Nat} {o : Order} {z : Int} (ho : os[j]? = some o) (hg : g[j]? = some z) : accL f os g (j + 1) = accAt (accL f os g j) o.shipper.toNat (f z) := by
  simp only [accL, ho, hg]
theorem accL_bd {f : Int → Int} {os : List Order} {g : List Int} {B : Int} (hB : 0 ≤ B) (hf : ∀ z ∈ g, -B ≤ f z ∧ f z ≤ B) : ∀ j : Nat, ∀ y ∈ accL f os g j, -(B * j) ≤ y ∧ y ≤ B * j
  | 0, y, hy => by
    have := List.eq_of_mem_replicate (show y ∈ List.replicate 16 0 from hy)
    simp; omega
  | j + 1, y, hy => by
    have ih := accL_bd (os := os) hB hf j
    have e : B * ((j + 1 : Nat) : Int) = B * j + B := by rw [Int.natCast_succ, Int.mul_add, Int.mul_one]
    have h0 : 0 ≤ B * (j : Int) := Int.mul_nonneg hB (by omega)
    rw [e]
    simp only [accL] at hy
    split at hy
    · rename_i o z _ hz
      have hz' := hf z (List.mem_of_getElem? hz)
      rcases List.mem_or_eq_of_mem_set hy with hy | rfl
      · have := ih y hy; omega
      · have := zAt_in (by omega) h0 ih o.shipper.toNat; omega
    · have := ih y hy; omega
theorem accL_nn {os : List Order} {g : List Int} : ∀ j : Nat, ∀ y ∈ accL pos0 os g j, 0 ≤ y
  | 0, y, hy => by have := List.eq_of_mem_replicate (show y ∈ List.replicate 16 0 from hy); omega
  | j + 1, y, hy => by
    have ih := accL_nn (os := os) (g := g) j
    simp only [accL] at hy
    split at hy
    · rename_i o z _ hz
      rcases List.mem_or_eq_of_mem_set hy with hy | rfl
      · exact ih y hy
      · have h1 : 0 ≤ pos0 z := by unfold pos0; split <;> omega
        have h2 : 0 ≤ zAt (accL pos0 os g j) o.shipper.toNat := by
          unfold zAt
          cases hq : (accL pos0 os g j)[o.shipper.toNat]? with
          | none => simp
          | some q => exact ih q (List.mem_of_getElem? hq)
        omega
    · exact ih y hy
theorem excS_bd {band percent bal thr m : Int} (h : 0 ≤ tolF band percent thr) (h4 : -m ≤ bal) (h4' : bal ≤ m) : -m ≤ excF band percent bal thr ∧ excF band percent bal thr ≤ m := by
  unfold excF; (repeat' split) <;> omega

/-- the charge of a shipper -/
def feeK (band percent price : Int) (ts : List Tier) (C T : List Int) (k : Nat) : Int := chargeF price ts (absI (excF band percent (zAt C k) (zAt T k)))
/-- the postings of a shipper -/
def postsK (band percent price : Int) (ts : List Tier) (C T : List Int) (k : Nat) : List Posting :=
  (if zAt C k ≠ 0 then [⟨k, 16, zAt C k, 0⟩] else []) ++ (if feeK band percent price ts C T k ≠ 0 then [⟨17, k, 0, feeK band percent price ts C T k⟩] else [])
def postsL (band percent price : Int) (ts : List Tier) (C T : List Int) : Nat → List Posting
  | 0 => []
  | k + 1 => postsL band percent price ts C T k ++ postsK band percent price ts C T k
theorem postsK_len (band percent price : Int) (ts : List Tier) (C T : List Int) (k : Nat) : (postsK band percent price ts C T k).length ≤ 2 := by
  unfold postsK
  split <;> split <;> simp
theorem postsL_len (band percent price : Int) (ts : List Tier) (C T : List Int) : ∀ k : Nat, (postsL band percent price ts C T k).length ≤ 2 * k
  | 0 => by simp [postsL]
  | k + 1 => by
    simp only [postsL, List.length_append]
    have := postsL_len band percent price ts C T k
    have := postsK_len band percent price ts C T k
    omega
open Classical in
/-- what the orders get -/
noncomputable def gotOf (os : List Order) (rs : List Reading) : List Int := if h : ∃ g, Alloc os (List.replicate os.length 0) rs g then Classical.choose h else []
theorem gotOf_eq {os : List Order} {rs : List Reading} {g : List Int} (h : Alloc os (List.replicate os.length 0) rs g) : gotOf os rs = g := by
  have hx : ∃ g, Alloc os (List.replicate os.length 0) rs g := ⟨g, h⟩
  unfold gotOf
  rw [dif_pos hx]
  exact Alloc.uniq (Classical.choose_spec hx) h
/-- a settlement -/
structure Stl where
  sc : List Int
  os : List Order
  got : List Int
  chg : List Int
  psn : List Posting
def stlOf (sc : List Int) (os : List Order) (g : List Int) (band percent price : Int) (ts : List Tier) : Stl :=
  ⟨sc, os, g, accL id os g os.length, postsL band percent price ts (accL id os g os.length) (accL pos0 os g os.length) 16⟩
/-- the settlement of an hour -/
noncomputable def stlH (ps : List Pipe) (N : Nat) (xs : List Contract) (L : List Nomination) (h : Int) (rd : List Reading) (band percent price : Int) (ts : List Tier) : Stl :=
  stlOf (hrSc ps N xs L h) (hrOrd ps N xs L h) (gotOf (hrOrd ps N xs L h) rd) band percent price ts
end Go.Proofs.YtfkpghdmljjegaaGreat
