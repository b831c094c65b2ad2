/-
  The helpers of the laws on Posting: copying, comparing, measuring, marking. What an hour is settled to, in plain Lean: changes, throughputs, postings. Allocating, of the program: matching, and the places that match. A posting's cells are single cells.
-/
import Derived.Test.YtfkpghdmljjegaaGreatVa30
import Derived.Test.YtfkpghdmljjegaaGreatVa01
import Derived.Test.YtfkpghdmljjegaaGreatVa24
import Derived.Test.YtfkpghdmljjegaaGreatVa20
import Derived.Test.YtfkpghdmljjegaaGreatVa06
import Derived.Test.YtfkpghdmljjegaaGreatVa00
import Derived.Test.YtfkpghdmljjegaaGreatVa11
namespace Go.Proofs.YtfkpghdmljjegaaGreat
open Go.RowKit


theorem posting_info : (Tryz.prog.info? 188).map (fun i => (i.zero, i.size, i.bytes)) = some (some (.agg #[.int .i64 0, .int .i64 0, .int .i64 0, .int .i64 0]), 4, 32) := by kernel_rfl


theorem c_eqPosting (x : Posting) (w : World) :
    Calls Tryz.prog 141 #[.agg #[.int .i64 x.debit, .int .i64 x.credit, .int .i64 x.gas, .int .i64 x.money], .agg #[.int .i64 x.debit, .int .i64 x.credit, .int .i64 x.gas, .int .i64 x.money]] w (Ret (.bool true) w) := by
  go_enter Tryz.func141, Tryz.ntmps141
  go_wp2
  go_ret
  exact Ret.bool rfl (((Ext.refl _).and_alloc _).and_alloc _)




set_option maxHeartbeats 1000000 in
theorem c_eqPostingS (A A' : Option Addr) (n c n' c' : Nat) (ts : List Posting) (w : World) (hs : SliceOf w 4 Posting.cells A n c ts) (hs' : SliceOf w 4 Posting.cells A' n' c' ts) :
    Calls Tryz.prog 57 #[.slice A n c, .slice A' n' c'] w (Ret (.bool true) w) := by
  have hl := hs.len
  obtain rfl : n = n' := by rw [hs.len, hs'.len]
  have hm := hs.max
  have hcp := hs.cap
  clear hl
  go_enter Tryz.func57, Tryz.ntmps57
  go_wp2_with fail
  go_loopw [5] (fun i wr => ∃ (k : Nat), k ≤ n ∧ i = .int .i64 k ∧ Ext w wr) (fun i _ => n - (intOf i).toNat)
  case atStart => exact ⟨0, Nat.zero_le _, rfl, Ext.refl _⟩
  case round =>
    obtain ⟨k, hk, rfl, hx⟩ := hrel
    by_cases hlt : k < n
    · obtain ⟨b, off, x, rfl, hb, hxk, hc⟩ := (hs.ext hx).get hlt
      obtain ⟨b', off', x', rfl, hb', hxk', hc'⟩ := (hs'.ext hx).get hlt
      obtain rfl : x = x' := by rw [hxk] at hxk'; injection hxk'
      have hc0 := hc 0 _ rfl
      have hc1 := hc 1 _ rfl
      have hc2 := hc 2 _ rfl
      have hc3 := hc 3 _ rfl
      have hd0 := hc' 0 _ rfl
      have hd1 := hc' 1 _ rfl
      have hd2 := hc' 2 _ rfl
      have hd3 := hc' 3 _ rfl
      clear hc hc' hxk hxk'
      simp only [Nat.add_zero] at hc0 hd0
      go_wp2_with fail
      refine wp_region_later (by kernel_rfl) (by kernel_rfl) ?_
      repeat (go_big_quiet_step ((go_at_call 141; exact quiet_later (c_eqPosting x _))))
      refine wpQuiet_nil ?_
      intro w1 hx1
      go_wp2
      go_roundw
      case rel => exact ⟨k + 1, by omega, by go_num, hx.trans hx1⟩
      case measure => simp [intOf]; omega
    · go_wp2
      go_ret
      exact Ret.bool rfl hx


/-- the marks from a number on -/
def markPosting (a : Int) (n : Nat) : List Posting := (List.range n).map fun (i : Nat) => ⟨a + 4 * (i : Int), a + 4 * (i : Int) + 1, a + 4 * (i : Int) + 2, a + 4 * (i : Int) + 3⟩
theorem markPosting_at (a : Int) (n i : Nat) (h : i < n) : (markPosting a n)[i]? = some ⟨a + 4 * (i : Int), a + 4 * (i : Int) + 1, a + 4 * (i : Int) + 2, a + 4 * (i : Int) + 3⟩ := by
  unfold markPosting; rw [List.getElem?_map, List.getElem?_range h]; rfl
/-- the row is marked; nothing else has turned -/
def MarkedPosting (g : Nat) (A : Option Addr) (n : Nat) (a : Int) (w : World) (e : Ending) (w' : World) : Prop :=
  e = .returned (.int .i64 (a + 4 * n)) ∧ OwnS w' g 188 Posting.cells A n (markPosting a n) ∧ Only g w w'
set_option maxHeartbeats 1000000 in
theorem c_markPostingS (g : Nat) (A : Option Addr) (n c : Nat) (ts : List Posting) (a : Int) (w : World) (hown0 : OwnS w g 188 Posting.cells A n ts) (hn : n ≤ 1000000000) (hcap : n ≤ c) (hmax : c ≤ 9223372036854775807) (ha0 : 0 ≤ a) (ha1 : a ≤ 1000000000000) :
    Calls Tryz.prog 62 #[.slice A n c, .int .i64 a] w (MarkedPosting g A n a w) := by
  go_enter Tryz.func62, Tryz.ntmps62
  go_wp2_with fail
  go_loopw [1, 5] (fun q i wr => ∃ (k : Nat) (K : Int) (L : List Posting), k ≤ n ∧ q = .int .i64 K ∧ i = .int .i64 k ∧ a + 4 * (k : Int) ≤ K ∧ K ≤ a + 4 * (k : Int) ∧ OwnS wr g 188 Posting.cells A n L ∧ Hid (∀ j, j < k → L[j]? = (markPosting a n)[j]?) ∧ Only g w wr) (fun _ i _ => n - (intOf i).toNat)
  case atStart => exact ⟨0, a, ts, Nat.zero_le _, rfl, rfl, by omega, by omega, hown0, hide (fun j hj => absurd hj (by omega)), Only.refl _ _⟩
  case round =>
    obtain ⟨k, K, L, hk, rfl, rfl, hK0, hK1, hown, HK, hx⟩ := hrel
    by_cases hlt : k < n
    · have hn0 : 0 < n := by omega
      obtain ⟨rfl, _⟩ := hown.2 hn0
      obtain ⟨v0, hv0⟩ := hown.there post_len (i := k) hlt (j := 0) (by omega)
      have hf0 := hown.frozen hn0 (k * 4)
      obtain ⟨v1, hv1⟩ := hown.there post_len (i := k) hlt (j := 1) (by omega)
      have hf1 := hown.frozen hn0 (k * 4 + 1)
      obtain ⟨v2, hv2⟩ := hown.there post_len (i := k) hlt (j := 2) (by omega)
      have hf2 := hown.frozen hn0 (k * 4 + 2)
      obtain ⟨v3, hv3⟩ := hown.there post_len (i := k) hlt (j := 3) (by omega)
      have hf3 := hown.frozen hn0 (k * 4 + 3)
      rw [Nat.add_zero] at hv0
      have HL := hide hown.1
      go_wp2_with fail
      go_roundw
      case rel =>
        refine ⟨k + 1, _, L.set k ⟨K, K + 1, K + 1 + 1, K + 1 + 1 + 1⟩, by omega, rfl, by go_num, by omega, by omega, hown.put post_len hlt ⟨K, K + 1, K + 1 + 1, K + 1 + 1 + 1⟩, hide ?_, hx.put (k * 4) (Posting.cells ⟨K, K + 1, K + 1 + 1, K + 1 + 1 + 1⟩)⟩
        intro j hj
        rw [List.getElem?_set]
        by_cases e : k = j
        · subst e
          rw [if_pos rfl, if_pos (by rw [← HL.out]; exact hlt), markPosting_at _ _ _ hlt]
          congr 2 <;> omega
        · rw [if_neg e]; exact HK.out j (by omega)
      case measure => simp [intOf]; omega
    · go_wp2_with fail
      go_ret
      have hLts : L = markPosting a n := by
        apply List.ext_getElem?
        intro j
        by_cases hj : j < n
        · exact HK.out j (by omega)
        · rw [List.getElem?_eq_none (by have := hown.1; omega), List.getElem?_eq_none (by simp [markPosting]; omega)]
      subst hLts
      refine ⟨?_, hown, hx⟩
      obtain rfl : k = n := by omega
      have : K = a + 4 * (k : Int) := by omega
      rw [← this]; rfl

set_option maxHeartbeats 1000000 in
theorem c_heldPostingS (A : Option Addr) (n c : Nat) (a : Int) (w : World) (hs : SliceOf w 4 Posting.cells A n c (markPosting a n)) (hn : n ≤ 1000000000) (ha0 : 0 ≤ a) (ha1 : a ≤ 1000000000000) :
    Calls Tryz.prog 63 #[.slice A n c, .int .i64 a] w fun e w' => e = .returned (.int .i64 (a + 4 * n)) ∧ w = w' := by
  have hcap := hs.cap
  have hmax := hs.max
  go_enter Tryz.func63, Tryz.ntmps63
  go_wp2_with fail
  go_loop [1, 5] (fun q i => ∃ (k : Nat) (K : Int), k ≤ n ∧ q = .int .i64 K ∧ i = .int .i64 k ∧ a + 4 * (k : Int) ≤ K ∧ K ≤ a + 4 * (k : Int)) (fun _ i => n - (intOf i).toNat)
  case atStart => exact ⟨0, a, Nat.zero_le _, rfl, rfl, by omega, by omega⟩
  case round =>
    obtain ⟨k, K, hk, rfl, rfl, hK0, hK1⟩ := hrel
    by_cases hlt : k < n
    · obtain ⟨b, off, x, rfl, hb, hxk, hc⟩ := hs.get hlt
      rw [markPosting_at _ _ _ hlt] at hxk
      obtain rfl : (⟨K, K + 1, K + 1 + 1, K + 1 + 1 + 1⟩ : Posting) = x := by
        injection hxk with hxk
        rw [← hxk]
        congr 1 <;> omega
      clear hxk
      have hc0 := hc 0 _ rfl
      have hc1 := hc 1 _ rfl
      have hc2 := hc 2 _ rfl
      have hc3 := hc 3 _ rfl
      clear hc
      simp only [Nat.add_zero] at hc0
      go_wp2_with fail
      go_round
      case rel => exact ⟨k + 1, _, by omega, rfl, by go_num, by omega, by omega⟩
      case measure => simp [intOf]; omega
    · go_wp2_with fail
      go_ret
      obtain rfl : k = n := by omega
      have : K = a + 4 * (k : Int) := by omega
      exact ⟨by rw [← this]; rfl, rfl⟩

end Go.Proofs.YtfkpghdmljjegaaGreat

namespace Go.Proofs.YtfkpghdmljjegaaGreat
open Go.RowKit
theorem ordL_mem {xs : List Contract} {am : List Int} {o : Order} (h : o ∈ ordL xs am) : ∃ c a, c ∈ xs ∧ a ∈ am ∧ (o = ⟨c.shipper, c.entry, a, c.cls⟩ ∨ o = ⟨c.shipper, c.exit, -a, c.cls⟩) := by
  unfold ordL at h
  obtain ⟨l, hl, ho⟩ := List.mem_flatten.1 h
  obtain ⟨k, hk, rfl⟩ := List.mem_iff_getElem.1 hl
  rw [List.length_zipWith] at hk
  rw [List.getElem_zipWith] at ho
  refine ⟨xs[k]'(by omega), am[k]'(by omega), List.getElem_mem _, List.getElem_mem _, ?_⟩
  simpa [ordC2] using ho
theorem hrOrd_ok {n1 : Nat} {ps : List Pipe} {xs : List Contract} {L : List Nomination} (hb : bookB n1 xs = true) (hn : nomsB xs L = true) (h : Int) : ∀ o ∈ hrOrd ps n1 xs L h, (0 ≤ o.shipper ∧ o.shipper ≤ 15) ∧ (0 ≤ o.node ∧ o.node < n1) ∧ (-30000 ≤ o.amount ∧ o.amount ≤ 30000) ∧ (0 ≤ o.cls ∧ o.cls ≤ 3) := by
  intro o ho
  obtain ⟨c, a, hc, ha, he⟩ := ordL_mem ho
  have h1 := con_facts hb c hc
  obtain ⟨x, hx, rfl⟩ := List.mem_map.1 ha
  have h2 := (less_ok hb hn h x hx).2.2.1
  rcases he with rfl | rfl <;> simp only <;> omega
theorem own_blk {A : Option Addr} {n c b : Nat} (h : blkOf A n = some b) : (Value.slice A n c).ownBlock = some b := by
  unfold blkOf at h
  split at h
  · cases h
  · cases A with
    | none => cases h
    | some a => simpa [Value.ownBlock] using h
def accAt (l : List Int) (k : Nat) (v : Int) : List Int := l.set k (zAt l k + v)
/-- sums by shipper, of the first orders -/
def accL (f : Int → Int) (os : List Order) (g : List Int) : Nat → List Int
  | 0 => List.replicate 16 0
  | j + 1 => match os[j]?, g[j]? with
    | some o, some z => accAt (accL f os g j) o.shipper.toNat (f z)
    | _, _ => accL f os g j
theorem accL_len (f : Int → Int) (os : List Order) (g : List Int) : ∀ j : Nat, (accL f os g j).length = 16
  | 0 => by simp [accL]
  | j + 1 => by
    simp only [accL]
    split
    · rw [accAt, List.length_set]; exact accL_len f os g j
    · exact accL_len f os g j
theorem accL_step {f : Int → Int} {os : List Order} {g : List Int} {j : Nat} {o : Order} {z : Int} (ho : os[j]? = some o) (hg : g[j]? = some z) : accL f os g (j + 1) = accAt (accL f os g j) o.shipper.toNat (f z) := by
  simp only [accL, ho, hg]
theorem accL_bd {f : Int → Int} {os : List Order} {g : List Int} {B : Int} (hB : 0 ≤ B) (hf : ∀ z ∈ g, -B ≤ f z ∧ f z ≤ B) : ∀ j : Nat, ∀ y ∈ accL f os g j, -(B * j) ≤ y ∧ y ≤ B * j
  | 0, y, hy => by
    have := List.eq_of_mem_replicate (show y ∈ List.replicate 16 0 from hy)
    simp; omega
  | j + 1, y, hy => by
    have ih := accL_bd (os := os) hB hf j
    have e : B * ((j + 1 : Nat) : Int) = B * j + B := by rw [Int.natCast_succ, Int.mul_add, Int.mul_one]
    have h0 : 0 ≤ B * (j : Int) := Int.mul_nonneg hB (by omega)
    rw [e]
    simp only [accL] at hy
    split at hy
    · rename_i o z _ hz
      have hz' := hf z (List.mem_of_getElem? hz)
      rcases List.mem_or_eq_of_mem_set hy with hy | rfl
      · have := ih y hy; omega
      · have := zAt_in (by omega) h0 ih o.shipper.toNat; omega
    · have := ih y hy; omega
theorem accL_nn {os : List Order} {g : List Int} : ∀ j : Nat, ∀ y ∈ accL pos0 os g j, 0 ≤ y
  | 0, y, hy => by have := List.eq_of_mem_replicate (show y ∈ List.replicate 16 0 from hy); omega
  | j + 1, y, hy => by
    have ih := accL_nn (os := os) (g := g) j
    simp only [accL] at hy
    split at hy
    · rename_i o z _ hz
      rcases List.mem_or_eq_of_mem_set hy with hy | rfl
      · exact ih y hy
      · have h1 : 0 ≤ pos0 z := by unfold pos0; split <;> omega
        have h2 : 0 ≤ zAt (accL pos0 os g j) o.shipper.toNat := by
          unfold zAt
          cases hq : (accL pos0 os g j)[o.shipper.toNat]? with
          | none => simp
          | some q => exact ih q (List.mem_of_getElem? hq)
        omega
    · exact ih y hy
theorem excS_bd {band percent bal thr m : Int} (h : 0 ≤ tolF band percent thr) (h4 : -m ≤ bal) (h4' : bal ≤ m) : -m ≤ excF band percent bal thr ∧ excF band percent bal thr ≤ m := by
  unfold excF; (repeat' split) <;> omega

/-- the charge of a shipper -/
def feeK (band percent price : Int) (ts : List Tier) (C T : List Int) (k : Nat) : Int := chargeF price ts (absI (excF band percent (zAt C k) (zAt T k)))
/-- the postings of a shipper -/
def postsK (band percent price : Int) (ts : List Tier) (C T : List Int) (k : Nat) : List Posting :=
  (if zAt C k ≠ 0 then [⟨k, 16, zAt C k, 0⟩] else []) ++ (if feeK band percent price ts C T k ≠ 0 then [⟨17, k, 0, feeK band percent price ts C T k⟩] else [])
def postsL (band percent price : Int) (ts : List Tier) (C T : List Int) : Nat → List Posting
  | 0 => []
  | k + 1 => postsL band percent price ts C T k ++ postsK band percent price ts C T k
theorem postsK_len (band percent price : Int) (ts : List Tier) (C T : List Int) (k : Nat) : (postsK band percent price ts C T k).length ≤ 2 := by
  unfold postsK
  split <;> split <;> simp
theorem postsL_len (band percent price : Int) (ts : List Tier) (C T : List Int) : ∀ k : Nat, (postsL band percent price ts C T k).length ≤ 2 * k
  | 0 => by simp [postsL]
  | k + 1 => by
    simp only [postsL, List.length_append]
    have := postsL_len band percent price ts C T k
    have := postsK_len band percent price ts C T k
    omega
open Classical in
/-- what the orders get -/
noncomputable def gotOf (os : List Order) (rs : List Reading) : List Int := if h : ∃ g, Alloc os (List.replicate os.length 0) rs g then Classical.choose h else []
theorem gotOf_eq {os : List Order} {rs : List Reading} {g : List Int} (h : Alloc os (List.replicate os.length 0) rs g) : gotOf os rs = g := by
  have hx : ∃ g, Alloc os (List.replicate os.length 0) rs g := ⟨g, h⟩
  unfold gotOf
  rw [dif_pos hx]
  exact Alloc.uniq (Classical.choose_spec hx) h
/-- a settlement -/
structure Stl where
  sc : List Int
  os : List Order
  got : List Int
  chg : List Int
  psn : List Posting
def stlOf (sc : List Int) (os : List Order) (g : List Int) (band percent price : Int) (ts : List Tier) : Stl :=
  ⟨sc, os, g, accL id os g os.length, postsL band percent price ts (accL id os g os.length) (accL pos0 os g os.length) 16⟩
/-- the settlement of an hour -/
noncomputable def stlH (ps : List Pipe) (N : Nat) (xs : List Contract) (L : List Nomination) (h : Int) (rd : List Reading) (band percent price : Int) (ts : List Tier) : Stl :=
  stlOf (hrSc ps N xs L h) (hrOrd ps N xs L h) (gotOf (hrOrd ps N xs L h) rd) band percent price ts
end Go.Proofs.YtfkpghdmljjegaaGreat

namespace Go.Proofs.YtfkpghdmljjegaaGreat
open Go.RowKit
theorem abs_eq (z : Int) : absI z = absZ z := rfl
theorem match_ways (x : Reading) (o : Order) : ((o.node == x.node) = false ∧ Hid (matchB x o = false)) ∨ ((o.node == x.node) = true ∧ decide (0 < o.amount) = true ∧ decide (0 < x.amount) = true ∧ Hid (matchB x o = true)) ∨
    ((o.node == x.node) = true ∧ decide (0 < o.amount) = true ∧ decide (0 < x.amount) = false ∧ decide (o.amount < 0) = false ∧ Hid (matchB x o = false)) ∨
    ((o.node == x.node) = true ∧ decide (0 < o.amount) = false ∧ decide (o.amount < 0) = true ∧ decide (x.amount < 0) = true ∧ Hid (matchB x o = true)) ∨
    ((o.node == x.node) = true ∧ decide (0 < o.amount) = false ∧ decide (o.amount < 0) = true ∧ decide (x.amount < 0) = false ∧ Hid (matchB x o = false)) ∨
    ((o.node == x.node) = true ∧ decide (0 < o.amount) = false ∧ decide (o.amount < 0) = false ∧ Hid (matchB x o = false)) := by
  unfold matchB Hid
  have h : decide (0 < o.amount) = true → decide (o.amount < 0) = false := by intro h; rw [decide_eq_true_eq] at h; rw [decide_eq_false_iff_not]; omega
  cases ho : decide (0 < o.amount)
  · cases (o.node == x.node) <;> cases decide (0 < x.amount) <;> cases decide (o.amount < 0) <;> cases decide (x.amount < 0) <;> simp
  · rw [h ho]
    cases (o.node == x.node) <;> cases decide (0 < x.amount) <;> cases decide (x.amount < 0) <;> simp
set_option maxHeartbeats 1000000 in
theorem c_matches (o : Order) (x : Reading) (w : World) :
    Calls Tryz.prog 252 #[.agg #[.int .i64 o.shipper, .int .i64 o.node, .int .i64 o.amount, .int .i64 o.cls], .agg #[.int .i64 x.node, .int .i64 x.amount]] w (Ret (.bool (matchB x o)) w) := by
  have hx : Ext w ((w.alloc (.cells o.cells.toArray 199)).alloc (.cells x.cells.toArray 176)) := (Ext.alloc _ _).and_alloc _
  rcases match_ways x o with ⟨h1, H⟩ | ⟨h1, h2, h3, H⟩ | ⟨h1, h2, h3, h4, H⟩ | ⟨h1, h2, h3, h4, H⟩ | ⟨h1, h2, h3, h4, H⟩ | ⟨h1, h2, h3, H⟩ <;>
  · rw [H.out]
    go_enter Tryz.func252, Tryz.ntmps252
    go_wp2_with fail
    go_ret
    exact Ret.bool rfl hx
/-- the places of the picked -/
def posM : Nat → List Bool → List Int
  | _, [] => []
  | k, true :: m => (k : Int) :: posM (k + 1) m
  | k, false :: m => posM (k + 1) m
theorem pos_snoc (b : Bool) : ∀ (k : Nat) (m : List Bool), posM k (m ++ [b]) = posM k m ++ if b = true then [((k + m.length : Nat) : Int)] else []
  | k, [] => by cases b <;> simp [posM]
  | k, true :: m => by
    have ih := pos_snoc b (k + 1) m
    simp only [List.cons_append, posM, ih, List.length_cons]
    rw [show k + 1 + m.length = k + (m.length + 1) by omega]
  | k, false :: m => by
    have ih := pos_snoc b (k + 1) m
    simp only [List.cons_append, posM, ih, List.length_cons]
    rw [show k + 1 + m.length = k + (m.length + 1) by omega]
theorem pick_snoc (b : Bool) (z : Int) : ∀ {m : List Bool} {l : List Int}, m.length = l.length → pickM (m ++ [b]) (l ++ [z]) = pickM m l ++ if b = true then [z] else []
  | [], [], _ => by cases b <;> simp [pickM]
  | [], _ :: _, h => by simp at h
  | _ :: _, [], h => by simp at h
  | true :: m, x :: l, h => by
    have ih := pick_snoc b z (m := m) (l := l) (by simpa using h)
    simp only [List.cons_append, pickM, ih]
  | false :: m, x :: l, h => by
    have ih := pick_snoc b z (m := m) (l := l) (by simpa using h)
    simp only [List.cons_append, pickM, ih]
theorem pos_at : ∀ {m : List Bool} {k j : Nat} {p : Int}, (posM k m)[j]? = some p → ∃ i : Nat, p = ((k + i : Nat) : Int) ∧ m[i]? = some true ∧ rankM m i = j
  | [], k, j, p, h => by simp [posM] at h
  | true :: m, k, 0, p, h => by
    simp [posM] at h
    exact ⟨0, by rw [← h]; simp, rfl, rfl⟩
  | true :: m, k, j + 1, p, h => by
    obtain ⟨i, h1, h2, h3⟩ := pos_at (m := m) (k := k + 1) (j := j) (p := p) (by simpa [posM] using h)
    exact ⟨i + 1, by rw [h1]; congr 1; omega, by simpa using h2, by simp [rankM, h3]⟩
  | false :: m, k, j, p, h => by
    obtain ⟨i, h1, h2, h3⟩ := pos_at (m := m) (k := k + 1) (j := j) (p := p) (by simpa [posM] using h)
    exact ⟨i + 1, by rw [h1]; congr 1; omega, by simpa using h2, by simp [rankM, h3]⟩
theorem pos_len : ∀ {m : List Bool} {l : List Int} {k : Nat}, m.length = l.length → (posM k m).length = (pickM m l).length
  | [], [], _, _ => rfl
  | [], _ :: _, _, h => by simp at h
  | _ :: _, [], _, h => by simp at h
  | true :: m, x :: l, k, h => by simp only [posM, pickM, List.length_cons]; rw [pos_len (k := k + 1) (m := m) (l := l) (by simpa using h)]
  | false :: m, x :: l, k, h => by simp only [posM, pickM]; rw [pos_len (k := k + 1) (m := m) (l := l) (by simpa using h)]
theorem rank_inj {m : List Bool} {i j : Nat} (hi : m[i]? = some true) (hj : m[j]? = some true) (h : rankM m i = rankM m j) : i = j := by
  induction m generalizing i j with
  | nil => simp at hi
  | cons b m ih =>
    cases i with
    | zero =>
      cases j with
      | zero => rfl
      | succ j => cases b <;> simp [rankM] at hi h
    | succ i =>
      cases j with
      | zero => cases b <;> simp [rankM] at hj h
      | succ j =>
        have : i = j := ih (by simpa using hi) (by simpa using hj) (by cases b <;> simpa [rankM] using h)
        omega
def marks (os : List Order) (x : Reading) : List Bool := os.map (matchB x)
theorem marks_len (os : List Order) (x : Reading) : (marks os x).length = os.length := by simp [marks]
theorem marks_at {os : List Order} {x : Reading} {i : Nat} {o : Order} (h : os[i]? = some o) : (marks os x)[i]? = some (matchB x o) := by simp [marks, h]
theorem marks_take {os : List Order} {x : Reading} {k : Nat} {o : Order} (h : os[k]? = some o) : marks (os.take (k + 1)) x = marks (os.take k) x ++ [matchB x o] := by
  unfold marks; rw [List.take_add_one, h, List.map_append]; rfl
theorem places_take {os : List Order} {x : Reading} {k : Nat} {o : Order} (h : os[k]? = some o) : posM 0 (marks (os.take (k + 1)) x) = posM 0 (marks (os.take k) x) ++ if matchB x o = true then [(k : Int)] else [] := by
  have hk := (List.getElem?_eq_some_iff.1 h).1
  rw [marks_take h, pos_snoc, marks_len, List.length_take, Nat.min_eq_left (by omega), Nat.zero_add]
theorem weights_take {os : List Order} {x : Reading} {k : Nat} {o : Order} (h : os[k]? = some o) : pickM (marks (os.take (k + 1)) x) (wts (os.take (k + 1)) x) = pickM (marks (os.take k) x) (wts (os.take k) x) ++ if matchB x o = true then [absI o.amount] else [] := by
  rw [marks_take h, show wts (os.take (k + 1)) x = wts (os.take k) x ++ [wt x o] by unfold wts; rw [List.take_add_one, h, List.map_append]; rfl, pick_snoc _ _ (by simp [marks, wts])]
  cases hm : matchB x o
  · rfl
  · rw [if_pos rfl, if_pos rfl, (wt_yes hm).1]; rfl
/-- no two readings at one node have one sign -/
def Sep (rs : List Reading) : Prop := ∀ (j k : Nat) (y x : Reading), j < k → rs[j]? = some y → rs[k]? = some x → clash y x = false
theorem sep_of {nn : Int} {rs : List Reading} (h : readsB nn rs = true) : Sep rs := by
  intro j k y x hjk hj hk
  unfold readsB at h
  rw [Bool.and_eq_true, List.all_eq_true] at h
  have h1 := h.2 k (List.mem_range.2 (List.getElem?_eq_some_iff.1 hk).1)
  rw [readOk_at hk, Bool.and_eq_true] at h1
  have h2 := h1.2
  simp only [Bool.not_eq_true', hasR, List.any_eq_false] at h2
  have h3 := h2 y (List.mem_of_getElem? (i := j) (by rw [List.getElem?_take, if_pos hjk]; exact hj))
  simpa using h3
theorem reads_mem {nn : Int} {rs : List Reading} (h : readsB nn rs = true) : ∀ x ∈ rs, (-30000 ≤ x.amount ∧ x.amount ≤ 30000) ∧ x.amount ≠ 0 := by
  intro x hx
  obtain ⟨k, hk⟩ := List.getElem?_of_mem hx
  unfold readsB at h
  rw [Bool.and_eq_true, List.all_eq_true] at h
  have h1 := h.2 k (List.mem_range.2 (List.getElem?_eq_some_iff.1 hk).1)
  rw [readOk_at hk, Bool.and_eq_true] at h1
  have h2 := h1.1
  simp only [readB, Bool.and_eq_true, inB_true, Bool.not_eq_true', beq_eq_false_iff_ne] at h2
  exact ⟨h2.1.2, h2.2⟩
theorem match_clash {x y : Reading} {o : Order} (h1 : matchB x o = true) (h2 : matchB y o = true) : clash y x = true := by
  simp only [matchB, clash, Bool.and_eq_true, Bool.or_eq_true, beq_iff_eq, decide_eq_true_eq] at *
  obtain ⟨a, b⟩ := h1
  obtain ⟨c, d⟩ := h2
  refine ⟨by omega, ?_⟩
  rcases b with b | b <;> rcases d with d | d
  · rw [decide_eq_true d.2, decide_eq_true b.2]
  · omega
  · omega
  · rw [decide_eq_false (by omega), decide_eq_false (by omega)]
/-- orders that no reading so far matches have got nothing -/
def Free (os : List Order) (rs : List Reading) (k : Nat) (g : List Int) : Prop := ∀ (i : Nat) (o : Order), os[i]? = some o → (∀ (j : Nat) (y : Reading), j < k → rs[j]? = some y → matchB y o = false) → g[i]? = some 0
theorem Free.hf {os : List Order} {rs : List Reading} {k : Nat} {g : List Int} {x : Reading} (h : Free os rs k g) (hs : Sep rs) (hx : rs[k]? = some x) : ∀ i : Nat, (marks os x)[i]? = some true → g[i]? = some 0 := by
  intro i hi
  unfold marks at hi
  rw [List.getElem?_map] at hi
  cases ho : os[i]? with
  | none => rw [ho] at hi; cases hi
  | some o =>
    rw [ho] at hi
    have hm : matchB x o = true := by simpa using hi
    refine h i o ho fun j y hj hy => ?_
    cases hc : matchB y o with
    | false => rfl
    | true => have := match_clash hm hc; rw [hs j k y x hj hy hx] at this; cases this
/-- some shares laid at their places -/
structure Laid (m : List Bool) (s : Int) (shf g : List Int) (j : Nat) (g2 : List Int) : Prop where
  len : g2.length = g.length
  no : ∀ i : Nat, m[i]? = some false → g2[i]? = g[i]?
  yes : ∀ i : Nat, m[i]? = some true → rankM m i < j → ∃ v, shf[rankM m i]? = some v ∧ g2[i]? = some (s * v)
theorem Laid.start (m : List Bool) (s : Int) (shf g : List Int) : Laid m s shf g 0 g := ⟨rfl, fun _ _ => rfl, fun i _ h => absurd h (by omega)⟩
theorem Laid.next {m : List Bool} {s : Int} {shf g g2 : List Int} {j i : Nat} {v : Int} (h : Laid m s shf g j g2) (hm : m[i]? = some true) (hr : rankM m i = j) (hv : shf[j]? = some v) (hl : i < g.length) : Laid m s shf g (j + 1) (g2.set i (s * v)) := by
  refine ⟨by rw [List.length_set]; exact h.len, fun p hp => ?_, fun p hp hpj => ?_⟩
  · rw [List.getElem?_set, if_neg (fun e => by subst e; rw [hm] at hp; cases hp)]
    exact h.no p hp
  · rw [List.getElem?_set]
    by_cases e : i = p
    · subst e
      rw [if_pos rfl, if_pos (by rw [h.len]; exact hl)]
      exact ⟨v, by rw [hr]; exact hv, rfl⟩
    · rw [if_neg e]
      refine h.yes p hp ?_
      have : rankM m p ≠ j := fun e2 => e (rank_inj hm hp (by rw [hr, e2]))
      omega
theorem rank_count : ∀ {m : List Bool} {l : List Int} {i : Nat}, m.length = l.length → m[i]? = some true → rankM m i < (pickM m l).length
  | [], _, i, _, h => by simp at h
  | _ :: _, [], _, h, _ => by simp at h
  | true :: m, x :: l, 0, _, _ => by simp [rankM, pickM]
  | false :: m, x :: l, 0, _, h => by simp at h
  | true :: m, x :: l, i + 1, hl, h => by
    have := rank_count (m := m) (l := l) (i := i) (by simpa using hl) (by simpa using h)
    simpa [rankM, pickM] using this
  | false :: m, x :: l, i + 1, hl, h => by
    have := rank_count (m := m) (l := l) (i := i) (by simpa using hl) (by simpa using h)
    simpa [rankM, pickM] using this
/-- a whole reading laid: the step of the allocation -/
theorem Laid.step {os : List Order} {rs : List Reading} {k : Nat} {x : Reading} {g g2 shf : List Int} (h : Laid (marks os x) (sgn x) shf g shf.length g2) (hF : Free os rs k g) (hSep : Sep rs) (hx : rs[k]? = some x) (hx0 : x.amount ≠ 0) (hg : g.length = os.length)
    (hs : 0 < sumZ (wts os x)) (hsh : Shares (absZ x.amount) (pickM (marks os x) (wts os x)) shf) :
    (∃ sh, Shares (absZ x.amount) (wts os x) sh ∧ g2 = addS (sgn x) g sh) ∧ Free os rs (k + 1) g2 := by
  have hml : (marks os x).length = (wts os x).length := by simp [marks, wts]
  refine ⟨alloc_step hx0 hg (by rw [h.len, hg]) hs (hF.hf hSep hx) hsh h.no (fun i hi => h.yes i hi (by rw [hsh.len]; exact rank_count hml hi)), ?_⟩
  intro i o ho hno
  rw [h.no i (by rw [marks_at ho, hno k x (by omega) hx])]
  exact hF i o ho fun j y hj hy => hno j y (by omega) hy
theorem Free.skip {os : List Order} {rs : List Reading} {k : Nat} {g : List Int} (h : Free os rs k g) : Free os rs (k + 1) g := fun i o ho hno => h i o ho fun j y hj hy => hno j y (by omega) hy
theorem Free.start (os : List Order) (rs : List Reading) : Free os rs 0 (List.replicate os.length 0) := fun i o ho _ => by
  rw [List.getElem?_replicate, if_pos (List.getElem?_eq_some_iff.1 ho).1]
/-- nothing is picked exactly if the weights are none -/
theorem pos_nil {os : List Order} {x : Reading} (hx : x.amount ≠ 0) (h : posM 0 (marks os x) = []) : sumZ (wts os x) = 0 := by
  refine wts_zero hx fun o ho => ?_
  cases hm : matchB x o with
  | false => rfl
  | true =>
    exfalso
    obtain ⟨i, hi⟩ := List.getElem?_of_mem ho
    have h1 := rank_count (m := marks os x) (l := wts os x) (i := i) (by simp [marks, wts]) (by rw [marks_at hi, hm])
    rw [← pos_len (k := 0) (by simp [marks, wts]), h] at h1
    cases h1
theorem pos_some {os : List Order} {x : Reading} (h : posM 0 (marks os x) ≠ []) : 0 < sumZ (wts os x) ∧ 0 < sumZ (pickM (marks os x) (wts os x)) := by
  obtain ⟨p, hp⟩ : ∃ p, (posM 0 (marks os x))[0]? = some p := by
    cases hc : posM 0 (marks os x) with
    | nil => exact absurd hc h
    | cons a l => exact ⟨a, rfl⟩
  obtain ⟨i, _, hi, _⟩ := pos_at hp
  unfold marks at hi
  rw [List.getElem?_map] at hi
  cases ho : os[i]? with
  | none => rw [ho] at hi; cases hi
  | some o =>
    rw [ho] at hi
    have h1 := wts_pos (List.mem_of_getElem? ho) (by simpa using hi : matchB x o = true)
    refine ⟨h1, ?_⟩
    by_cases hx : x.amount = 0
    · exfalso
      have hm : matchB x o = true := by simpa using hi
      simp only [matchB, Bool.and_eq_true, Bool.or_eq_true, decide_eq_true_eq] at hm
      omega
    rw [pick_sum (by simp [marks, wts]) (fun j y hm hy => ?_)]
    · exact h1
    · unfold marks at hm
      rw [List.getElem?_map] at hm
      rw [wts, List.getElem?_map] at hy
      cases ho : os[j]? with
      | none => rw [ho] at hm; cases hm
      | some o =>
        rw [ho] at hm hy
        simp at hm hy
        rw [← hy]; exact wt_no hm hx
end Go.Proofs.YtfkpghdmljjegaaGreat

namespace Go.Proofs.YtfkpghdmljjegaaGreat
open Go.RowKit
theorem post_one (y : Posting) : ∀ u ∈ y.cells, u.oneCell' = true := by intro u hu; simp [Posting.cells] at hu; rcases hu with rfl | rfl | rfl | rfl <;> rfl
end Go.Proofs.YtfkpghdmljjegaaGreat
