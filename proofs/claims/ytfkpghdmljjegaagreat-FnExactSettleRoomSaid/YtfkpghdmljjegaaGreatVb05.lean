/-
  Components, evenness, transports, scales: in plain Lean. Names, nodes, pipes: validity, of the program and of the reference.
-/
import Derived.Test.YtfkpghdmljjegaaGreatVb03
import Derived.Test.YtfkpghdmljjegaaGreatVb04
import Derived.Test.YtfkpghdmljjegaaGreatVb02
namespace Go.Proofs.YtfkpghdmljjegaaGreat
/-! ### components -/
def setAll (l : List Int) (E : List Int) (v : Int) : List Int := E.foldl (fun l z => l.set z.toNat v) l
theorem setAll_len {E : List Int} {l : List Int} {v : Int} : (setAll l E v).length = l.length := by
  unfold setAll
  induction E generalizing l with
  | nil => rfl
  | cons z E ih => simp only [List.foldl_cons]; rw [ih, List.length_set]
theorem setAll_step {E : List Int} {l : List Int} {v z : Int} {j : Nat} (h : E[j]? = some z) : setAll l (E.take (j + 1)) v = (setAll l (E.take j) v).set z.toNat v := by
  unfold setAll
  rw [List.take_add_one, h, List.foldl_append]; rfl
def srchC (ps : List Pipe) (N i : Nat) : Sst := srch ps anyR N (-1) i
def compStep (ps : List Pipe) (N : Nat) (l : List Int) (i : Nat) : List Int := if zAt l i < 0 then setAll l (srchC ps N i).E (i : Int) else l
def compK (ps : List Pipe) (N k : Nat) : List Int := (List.range k).foldl (compStep ps N) (List.replicate N (-1))
def comps (ps : List Pipe) (N : Nat) : List Int := compK ps N N
theorem compK_succ (ps : List Pipe) (N k : Nat) : compK ps N (k + 1) = compStep ps N (compK ps N k) k := by
  unfold compK; rw [List.range_succ, List.foldl_append]; rfl
theorem compStep_len {ps : List Pipe} {N : Nat} {l : List Int} {i : Nat} : (compStep ps N l i).length = l.length := by
  unfold compStep; split
  · exact setAll_len
  · rfl
theorem compK_len (ps : List Pipe) (N : Nat) : ∀ k : Nat, (compK ps N k).length = N
  | 0 => by simp [compK]
  | k + 1 => by rw [compK_succ, compStep_len, compK_len ps N k]
theorem setAll_mem {E : List Int} {v : Int} : ∀ {l : List Int}, ∀ z ∈ setAll l E v, z ∈ l ∨ z = v := by
  unfold setAll
  induction E with
  | nil => exact fun z hz => .inl hz
  | cons y E ih =>
    intro l z hz
    simp only [List.foldl_cons] at hz
    rcases ih z hz with h | h
    · rcases List.mem_or_eq_of_mem_set h with h | h
      · exact .inl h
      · exact .inr h
    · exact .inr h
theorem setAll_get {E : List Int} {v : Int} (hv : 0 ≤ v) : ∀ {l : List Int} {i : Nat}, i < l.length → (0 ≤ zAt l i ∨ (i : Int) ∈ E) → 0 ≤ zAt (setAll l E v) i := by
  unfold setAll
  induction E with
  | nil => intro l i _ h; rcases h with h | h
           · exact h
           · cases h
  | cons y E ih =>
    intro l i hi h
    simp only [List.foldl_cons]
    refine ih (by rw [List.length_set]; exact hi) ?_
    rcases h with h | h
    · left
      unfold zAt at h ⊢
      rw [List.getElem?_set]
      split
      · rw [if_pos (by omega)]; exact hv
      · exact h
    · rcases List.mem_cons.1 h with rfl | h
      · left
        unfold zAt
        rw [Int.toNat_natCast, List.getElem?_set_self hi]; exact hv
      · exact .inr h
theorem comp_val (ps : List Pipe) (N : Nat) : ∀ k : Nat, ∀ z ∈ compK ps N k, -1 ≤ z ∧ z < max k 1
  | 0, z, hz => by
    have := List.eq_of_mem_replicate (show z ∈ List.replicate N (-1) from hz)
    omega
  | k + 1, z, hz => by
    rw [compK_succ] at hz
    unfold compStep at hz
    split at hz
    · rcases setAll_mem z hz with h | h
      · have := comp_val ps N k z h; omega
      · omega
    · have := comp_val ps N k z hz; omega
theorem srchF_mem {ps : List Pipe} {room : Nat → Int → Bool} {x : Int} : ∀ {f k : Nat} {s : Sst}, x ∈ s.E → x ∈ (srchF ps room f k s).E := by
  have h1 : ∀ {s : Sst} {q z : Int}, x ∈ s.E → x ∈ (visit ps room q s z).E := by
    intro s q z h
    unfold visit
    split
    · exact h
    · split
      · exact List.mem_append_left _ h
      · exact h
  have h2 : ∀ {q : Int} {L : List Int} {s : Sst}, x ∈ s.E → x ∈ (L.foldl (visit ps room q) s).E := by
    intro q L
    induction L with
    | nil => exact fun h => h
    | cons z L ih => exact fun h => ih (h1 h)
  intro f
  induction f with
  | zero => exact fun h => h
  | succ f ih =>
    intro k s h
    simp only [srchF]
    split
    · exact h
    · exact ih (h2 h)
theorem srchC_mem (ps : List Pipe) (N i : Nat) : (i : Int) ∈ (srchC ps N i).E := srchF_mem (by simp [start])
theorem comp_nn (ps : List Pipe) (N : Nat) : ∀ k : Nat, k ≤ N → ∀ i, i < k → 0 ≤ zAt (compK ps N k) i
  | 0, _, i, hi => by omega
  | k + 1, hk, i, hi => by
    have hl := compK_len ps N k
    rw [compK_succ]
    unfold compStep
    split
    · rename_i h0
      refine setAll_get (by omega) (by omega) ?_
      rcases Nat.lt_or_ge i k with h | h
      · exact .inl (comp_nn ps N k (by omega) i h)
      · obtain rfl : i = k := by omega
        exact .inr (srchC_mem ps N i)
    · rename_i h0
      rcases Nat.lt_or_ge i k with h | h
      · exact comp_nn ps N k (by omega) i h
      · obtain rfl : i = k := by omega
        omega
theorem comps_len (ps : List Pipe) (N : Nat) : (comps ps N).length = N := compK_len ps N N
theorem comps_in (ps : List Pipe) (N : Nat) {i : Nat} (hi : i < N) : ∃ c : Nat, (comps ps N)[i]? = some (c : Int) ∧ c < N := by
  have hl := comps_len ps N
  obtain ⟨z, hz⟩ : ∃ z, (comps ps N)[i]? = some z := ⟨_, List.getElem?_eq_getElem (by omega)⟩
  have h1 := comp_nn ps N N (Nat.le_refl _) i hi
  have h2 := comp_val ps N N z (List.mem_of_getElem? hz)
  unfold zAt at h1
  rw [show (compK ps N N)[i]? = some z from hz, Option.getD_some] at h1
  exact ⟨z.toNat, by rw [hz, Int.toNat_of_nonneg h1], by omega⟩
/-! ### evenness -/
def sumStep (cs sup l : List Int) (i : Nat) : List Int := l.set (zAt cs i).toNat (zAt l (zAt cs i).toNat + zAt sup i)
def sumK (cs sup : List Int) (N k : Nat) : List Int := (List.range k).foldl (sumStep cs sup) (List.replicate N 0)
theorem sumK_succ (cs sup : List Int) (N k : Nat) : sumK cs sup N (k + 1) = sumStep cs sup (sumK cs sup N k) k := by
  unfold sumK; rw [List.range_succ, List.foldl_append]; rfl
theorem sumK_len (cs sup : List Int) (N : Nat) : ∀ k : Nat, (sumK cs sup N k).length = N
  | 0 => by simp [sumK]
  | k + 1 => by rw [sumK_succ, sumStep, List.length_set, sumK_len cs sup N k]
theorem zAt_in {l : List Int} {a b : Int} (ha : a ≤ 0) (hb : 0 ≤ b) (h : ∀ z ∈ l, a ≤ z ∧ z ≤ b) (i : Nat) : a ≤ zAt l i ∧ zAt l i ≤ b := by
  unfold zAt
  cases hi : l[i]? with
  | none => simp; omega
  | some z => exact h z (List.mem_of_getElem? hi)
theorem sumK_bd {cs sup : List Int} {N : Nat} (h : ∀ z ∈ sup, -30000 ≤ z ∧ z ≤ 30000) : ∀ k : Nat, ∀ z ∈ sumK cs sup N k, -(30000 * (k : Int)) ≤ z ∧ z ≤ 30000 * k
  | 0, z, hz => by have := List.eq_of_mem_replicate (show z ∈ List.replicate N 0 from hz); omega
  | k + 1, z, hz => by
    rw [sumK_succ] at hz
    have ih := sumK_bd (cs := cs) (N := N) h k
    rcases List.mem_or_eq_of_mem_set hz with hz | rfl
    · have := ih z hz; omega
    · have h1 := zAt_in (by omega) (by omega) ih (zAt cs k).toNat
      have h2 := zAt_in (by omega) (by omega) h k
      omega
theorem zAt_some {l : List Int} {i : Nat} {z : Int} (h : l[i]? = some z) : zAt l i = z := by unfold zAt; rw [h]; rfl
theorem sumK_at {cs sup : List Int} {N k c : Nat} {s a : Int} (hc : cs[k]? = some (c : Int)) (hs : sup[k]? = some s) (ha : (sumK cs sup N k)[c]? = some a) : sumK cs sup N (k + 1) = (sumK cs sup N k).set c (a + s) := by
  rw [sumK_succ, sumStep, zAt_some hc, Int.toNat_natCast, zAt_some ha, zAt_some hs]
def evenB (ps : List Pipe) (N : Nat) (sup : List Int) : Bool := (sumK (comps ps N) sup N N).all fun z => decide (z = 0)
/-! ### routing -/
def supB (sup : List Int) : Bool := sup.all fun z => decide (-30000 ≤ z) && decide (z ≤ 30000)
noncomputable def routB (ps : List Pipe) (N : Nat) (sup : List Int) : Bool := supB sup && evenB ps N sup && (routed ps N sup).lf.all fun z => decide (z = 0)
theorem all_zero_rep (N : Nat) : (List.replicate N (0 : Int)).all (fun z => decide (z = 0)) = true := by
  rw [List.all_eq_true]; intro z hz; rw [List.eq_of_mem_replicate hz]; rfl
theorem zAt_rep (N i : Nat) : zAt (List.replicate N 0) i = 0 := by
  unfold zAt; rw [List.getElem?_replicate]; split <;> rfl
theorem set_zero {N c : Nat} : (List.replicate N (0 : Int)).set c 0 = List.replicate N 0 := by
  apply List.eq_replicate_iff.2
  refine ⟨by simp, fun z hz => ?_⟩
  rcases List.mem_or_eq_of_mem_set hz with hz | rfl
  · exact List.eq_of_mem_replicate hz
  · rfl
theorem sumK_zero (cs : List Int) (N : Nat) : ∀ k : Nat, sumK cs (List.replicate N 0) N k = List.replicate N 0
  | 0 => rfl
  | k + 1 => by rw [sumK_succ, sumK_zero cs N k, sumStep, zAt_rep, zAt_rep]; exact set_zero
theorem routB_zero (ps : List Pipe) (N : Nat) : routB ps N (List.replicate N 0) = true := by
  unfold routB
  have h1 : supB (List.replicate N 0) = true := by unfold supB; rw [List.all_eq_true]; intro z hz; rw [List.eq_of_mem_replicate hz]; rfl
  have h2 : evenB ps N (List.replicate N 0) = true := by unfold evenB; rw [sumK_zero]; exact all_zero_rep N
  have h3 : routed ps N (List.replicate N 0) = rst0 ps (List.replicate N 0) := by
    refine routed_eq (.done ?_)
    unfold oneS
    rw [List.findSome?_eq_none_iff]
    intro i _
    rw [if_neg]
    simp only [rst0, zAt_rep]; omega
  rw [h1, h2, h3]
  exact all_zero_rep N
/-! ### transports -/
structure Trn where
  entry : Int
  exit_ : Int
  amount : Int
  cls : Int
def Trn.cells (x : Trn) : List Value := [.int .i64 x.entry, .int .i64 x.exit_, .int .i64 x.amount, .int .i64 x.cls]
theorem trn_len (x : Trn) : x.cells.length = 4 := rfl
def TrnB (N : Nat) (B : Int) (x : Trn) : Prop := (0 ≤ x.entry ∧ x.entry < N) ∧ (0 ≤ x.exit_ ∧ x.exit_ < N) ∧ (0 ≤ x.amount ∧ x.amount ≤ B) ∧ (0 ≤ x.cls ∧ x.cls < 4)
def supStep (l : List Int) (x : Trn) : List Int := (l.set x.entry.toNat (zAt l x.entry.toNat + x.amount)).set x.exit_.toNat (zAt (l.set x.entry.toNat (zAt l x.entry.toNat + x.amount)) x.exit_.toNat - x.amount)
def supT (N : Nat) (ts : List Trn) : List Int := ts.foldl supStep (List.replicate N 0)
theorem supT_take {N : Nat} {ts : List Trn} {k : Nat} {x : Trn} (h : ts[k]? = some x) : supT N (ts.take (k + 1)) = supStep (supT N (ts.take k)) x := by
  unfold supT; rw [List.take_add_one, h, List.foldl_append]; rfl
theorem supStep_len {l : List Int} {x : Trn} : (supStep l x).length = l.length := by simp [supStep]
theorem supT_len (N : Nat) (ts : List Trn) : (supT N ts).length = N := by
  unfold supT
  have : ∀ (l : List Int), (ts.foldl supStep l).length = l.length := by
    induction ts with
    | nil => exact fun l => rfl
    | cons x ts ih => intro l; rw [List.foldl_cons, ih, supStep_len]
  rw [this]; simp
theorem supStep_bd {l : List Int} {x : Trn} {b : Int} (hb : 0 ≤ b) (hx : 0 ≤ x.amount ∧ x.amount ≤ 30000) (h : ∀ z ∈ l, -b ≤ z ∧ z ≤ b) : ∀ z ∈ supStep l x, -(b + 60000) ≤ z ∧ z ≤ b + 60000 := by
  have h1 : ∀ z ∈ l.set x.entry.toNat (zAt l x.entry.toNat + x.amount), -(b + 30000) ≤ z ∧ z ≤ b + 30000 := by
    intro z hz
    rcases List.mem_or_eq_of_mem_set hz with hz | rfl
    · have := h z hz; omega
    · have := zAt_in (by omega) hb h x.entry.toNat; omega
  intro z hz
  rcases List.mem_or_eq_of_mem_set hz with hz | rfl
  · have := h1 z hz; omega
  · have := zAt_in (by omega) (by omega) h1 x.exit_.toNat; omega
theorem supT_bd {N : Nat} : ∀ (ts : List Trn), (∀ x ∈ ts, 0 ≤ x.amount ∧ x.amount ≤ 30000) → ∀ k : Nat, ∀ z ∈ supT N (ts.take k), -(60000 * (k : Int)) ≤ z ∧ z ≤ 60000 * k
  | ts, h, 0, z, hz => by have := List.eq_of_mem_replicate (show z ∈ List.replicate N 0 from hz); omega
  | ts, h, k + 1, z, hz => by
    have ih := supT_bd (N := N) ts h k
    cases hk : ts[k]? with
    | none =>
      rw [List.take_of_length_le (by have := List.getElem?_eq_none_iff.1 hk; omega)] at hz
      rw [List.take_of_length_le (List.getElem?_eq_none_iff.1 hk)] at ih
      have := ih z hz; omega
    | some x =>
      rw [supT_take hk] at hz
      have := supStep_bd (by omega) (h x (List.mem_of_getElem? hk)) ih z hz
      omega
theorem supT_zero {N : Nat} : ∀ (ts : List Trn), (∀ x ∈ ts, x.amount = 0) → supT N ts = List.replicate N 0 := by
  intro ts
  unfold supT
  induction ts with
  | nil => exact fun _ => rfl
  | cons x ts ih =>
    intro h
    have h0 := h x (by simp)
    rw [List.foldl_cons, show supStep (List.replicate N 0) x = List.replicate N 0 from ?_, ih (fun y hy => h y (by simp [hy]))]
    unfold supStep
    rw [h0, zAt_rep]
    simp only [Int.add_zero, Int.sub_zero]
    rw [set_zero, zAt_rep, set_zero]
def scaleT (sc : List Int) (x : Trn) : Trn := ⟨x.entry, x.exit_, (x.amount * zAt sc x.cls.toNat).tdiv 100, x.cls⟩
def ScaleIn (sc : List Int) : Prop := sc.length = 4 ∧ ∀ z ∈ sc, 0 ≤ z ∧ z ≤ 100
theorem scale_le {a s : Int} (ha : 0 ≤ a ∧ a ≤ 30000) (hs : 0 ≤ s ∧ s ≤ 100) : 0 ≤ a * s ∧ a * s ≤ 3000000 ∧ 0 ≤ (a * s).tdiv 100 ∧ (a * s).tdiv 100 ≤ a := by
  have h1 : 0 ≤ a * s := Int.mul_nonneg ha.1 hs.1
  have h2 : a * s ≤ a * 100 := Int.mul_le_mul_of_nonneg_left hs.2 ha.1
  rw [Int.tdiv_eq_ediv_of_nonneg h1]
  omega
theorem scaleT_ok {sc : List Int} {x : Trn} {N : Nat} (hx : TrnB N 30000 x) (hs : ScaleIn sc) : TrnB N 30000 (scaleT sc x) := by
  obtain ⟨h1, h2, h3, h4⟩ := hx
  have := scale_le h3 (zAt_in (by omega) (by omega) hs.2 x.cls.toNat)
  exact ⟨h1, h2, ⟨this.2.2.1, by simp only [scaleT]; omega⟩, h4⟩
noncomputable def fitB (ps : List Pipe) (N : Nat) (ts : List Trn) : Bool := routB ps N (supT N ts)
noncomputable def fitS (ps : List Pipe) (N : Nat) (ts : List Trn) (sc : List Int) : Bool := fitB ps N (ts.map (scaleT sc))
/-- the greatest scale of a class that fits, at most m -/
noncomputable def bestS (fit : List Int → Bool) (sc : List Int) (k : Nat) : Nat → Nat
  | 0 => 0
  | m + 1 => if fit (sc.set k ((m + 1 : Nat) : Int)) = true then m + 1 else bestS fit sc k m
theorem bestS_le {fit : List Int → Bool} {sc : List Int} {k : Nat} : ∀ m : Nat, bestS fit sc k m ≤ m
  | 0 => Nat.le_refl _
  | m + 1 => by
    simp only [bestS]
    split
    · exact Nat.le_refl _
    · exact Nat.le_trans (bestS_le m) (by omega)
noncomputable def scStep (fit : List Int → Bool) (sc : List Int) (k : Nat) : List Int := sc.set k (bestS fit sc k 100 : Int)
noncomputable def scK (fit : List Int → Bool) (k : Nat) : List Int := (List.range k).foldl (scStep fit) (List.replicate 4 0)
noncomputable def scalesF (fit : List Int → Bool) : List Int := scK fit 4
theorem scK_succ (fit : List Int → Bool) (k : Nat) : scK fit (k + 1) = scStep fit (scK fit k) k := by
  unfold scK; rw [List.range_succ, List.foldl_append]; rfl
theorem scK_in (fit : List Int → Bool) : ∀ k : Nat, ScaleIn (scK fit k)
  | 0 => ⟨by simp [scK], fun z hz => by have := List.eq_of_mem_replicate (show z ∈ List.replicate 4 0 from hz); omega⟩
  | k + 1 => by
    obtain ⟨h1, h2⟩ := scK_in fit k
    rw [scK_succ]
    refine ⟨by rw [scStep, List.length_set, h1], fun z hz => ?_⟩
    rcases List.mem_or_eq_of_mem_set hz with hz | rfl
    · exact h2 z hz
    · have := bestS_le (fit := fit) (sc := scK fit k) (k := k) 100; omega
theorem ScaleIn.set {sc : List Int} (h : ScaleIn sc) (k : Nat) {z : Int} (hz : 0 ≤ z ∧ z ≤ 100) : ScaleIn (sc.set k z) := by
  refine ⟨by rw [List.length_set, h.1], fun y hy => ?_⟩
  rcases List.mem_or_eq_of_mem_set hy with hy | rfl
  · exact h.2 y hy
  · exact hz
theorem scK_zero (fit : List Int → Bool) : ∀ k j : Nat, k ≤ j → j < 4 → (scK fit k)[j]? = some 0
  | 0, j, _, hj => by show (List.replicate 4 (0 : Int))[j]? = some 0; rw [List.getElem?_replicate, if_pos hj]
  | k + 1, j, hk, hj => by rw [scK_succ, scStep, List.getElem?_set_ne (by omega), scK_zero fit k j (by omega) hj]
/-- at 0 it fits, as before -/
theorem scK_set0 (fit : List Int → Bool) {k : Nat} (hk : k < 4) : (scK fit k).set k 0 = scK fit k := by
  apply List.ext_getElem?
  intro j
  rw [List.getElem?_set]
  split
  · rename_i h; subst h
    rw [scK_zero fit k k (Nat.le_refl _) hk, if_pos (by rw [(scK_in fit k).1]; exact hk)]
  · rfl
theorem bestS_fit {fit : List Int → Bool} {sc : List Int} {k : Nat} (h0 : fit (sc.set k 0) = true) : ∀ m : Nat, fit (sc.set k (bestS fit sc k m : Int)) = true
  | 0 => h0
  | m + 1 => by
    simp only [bestS]
    split
    · assumption
    · exact bestS_fit h0 m
theorem scK_fit {fit : List Int → Bool} (h0 : fit (List.replicate 4 0) = true) : ∀ k : Nat, k ≤ 4 → fit (scK fit k) = true
  | 0, _ => h0
  | k + 1, hk => by
    rw [scK_succ, scStep]
    exact bestS_fit (by rw [scK_set0 fit (by omega)]; exact scK_fit h0 k (by omega)) 100
/-- the search downward: at m it fits or m is not the best -/
theorem bestS_at {fit : List Int → Bool} {sc : List Int} {k m : Nat} (h : fit (sc.set k (m : Int)) = true) : bestS fit sc k m = m := by
  cases m with
  | zero => rfl
  | succ m => simp only [bestS]; rw [if_pos h]
theorem bestS_down {fit : List Int → Bool} {sc : List Int} {k m : Nat} (h : fit (sc.set k ((m + 1 : Nat) : Int)) = false) : bestS fit sc k (m + 1) = bestS fit sc k m := by
  simp only [bestS]; rw [if_neg (by rw [h]; decide)]
theorem fitS_zero (ps : List Pipe) (N : Nat) (ts : List Trn) : fitS ps N ts (List.replicate 4 0) = true := by
  unfold fitS fitB
  rw [supT_zero]
  · exact routB_zero ps N
  · intro x hx
    obtain ⟨y, _, rfl⟩ := List.mem_map.1 hx
    simp only [scaleT, zAt_rep, Int.mul_zero]; rfl
/-! ### amounts of an hour -/
def amtStep (h : Int) (l : List Int) (x : Nomination) : List Int := if x.hour = h then l.set x.contract.toNat x.amount else l
def amtL (nb : Nat) (L : List Nomination) (h : Int) : List Int := L.foldl (amtStep h) (List.replicate nb 0)
theorem amtL_take {nb : Nat} {L : List Nomination} {h : Int} {k : Nat} {x : Nomination} (hk : L[k]? = some x) : amtL nb (L.take (k + 1)) h = amtStep h (amtL nb (L.take k) h) x := by
  unfold amtL; rw [List.take_add_one, hk, List.foldl_append]; rfl
theorem amtL_len {nb : Nat} {h : Int} (L : List Nomination) : (amtL nb L h).length = nb := by
  unfold amtL
  have : ∀ l : List Int, (L.foldl (amtStep h) l).length = l.length := by
    induction L with
    | nil => exact fun l => rfl
    | cons x L ih => intro l; rw [List.foldl_cons, ih]; unfold amtStep; split <;> simp
  rw [this]; simp
theorem amtL_in {nb : Nat} {h : Int} {L : List Nomination} (hL : ∀ x ∈ L, 0 ≤ x.amount ∧ x.amount ≤ 30000) : ∀ z ∈ amtL nb L h, 0 ≤ z ∧ z ≤ 30000 := by
  unfold amtL
  have : ∀ l : List Int, (∀ z ∈ l, 0 ≤ z ∧ z ≤ 30000) → ∀ z ∈ L.foldl (amtStep h) l, 0 ≤ z ∧ z ≤ 30000 := by
    induction L with
    | nil => exact fun l h => h
    | cons x L ih =>
      intro l hl
      refine ih (fun y hy => hL y (by simp [hy])) _ (fun z hz => ?_)
      unfold amtStep at hz
      split at hz
      · rcases List.mem_or_eq_of_mem_set hz with hz | rfl
        · exact hl z hz
        · exact hL x (by simp)
      · exact hl z hz
  exact this _ (fun z hz => by have := List.eq_of_mem_replicate hz; omega)
def trnOf (c : Contract) (a : Int) : Trn := ⟨c.entry, c.exit, a, c.cls⟩
def trnL (xs : List Contract) (L : List Nomination) (h : Int) : List Trn := List.zipWith trnOf xs (amtL xs.length L h)
theorem trnL_len (xs : List Contract) (L : List Nomination) (h : Int) : (trnL xs L h).length = xs.length := by simp [trnL, amtL_len]
end Go.Proofs.YtfkpghdmljjegaaGreat

namespace Go.Proofs.YtfkpghdmljjegaaGreat
open Go.RowKit

structure Node where
  name : ByteArray
  low : Int
  high : Int
def Node.cells (x : Node) : List Value := [.string x.name, .int .i64 x.low, .int .i64 x.high]
theorem node_len (x : Node) : x.cells.length = 3 := rfl
def chB (z : Int) : Bool := (decide (97 ≤ z) && decide (z ≤ 122)) || (decide (48 ≤ z) && decide (z ≤ 57))
def chAt (s : ByteArray) (i : Nat) : Int := if h : i < s.size then ((s[i]'h).toNat : Int) else 0
theorem chAt_eq {s : ByteArray} {i : Nat} (h : i < s.size) : ((s[i]'h).toNat : Int) = chAt s i := by rw [chAt, dif_pos h]
def nameB (s : ByteArray) : Bool := decide (1 ≤ s.size) && decide (s.size ≤ 8) && (List.range s.size).all fun i => chB (chAt s i)
def sameN (a b : ByteArray) : Bool := a.toList == b.toList
def nodeB (x : Node) : Bool := nameB x.name && decide (0 ≤ x.low) && decide (x.low ≤ x.high) && decide (x.high ≤ 100000000)
def pipeB (nn : Int) (p : Pipe) : Bool := inB p.src 0 (nn - 1) && inB p.dst 0 (nn - 1) && (p.src != p.dst) && inB p.k 1 1000 && inB p.volume 0 1000000 && inB p.limit 1 30000
theorem ch_ways (z : Int) : (97 ≤ z ∧ z ≤ 122 ∧ decide (97 ≤ z) = true ∧ decide (z ≤ 122) = true ∧ Hid (chB z = true)) ∨ (97 ≤ z ∧ 122 < z ∧ 48 ≤ z ∧ 57 < z ∧ decide (97 ≤ z) = true ∧ decide (z ≤ 122) = false ∧ decide (48 ≤ z) = true ∧ decide (z ≤ 57) = false ∧ Hid (chB z = false)) ∨
    (z < 97 ∧ 48 ≤ z ∧ z ≤ 57 ∧ decide (97 ≤ z) = false ∧ decide (48 ≤ z) = true ∧ decide (z ≤ 57) = true ∧ Hid (chB z = true)) ∨ (z < 97 ∧ 48 ≤ z ∧ 57 < z ∧ decide (97 ≤ z) = false ∧ decide (48 ≤ z) = true ∧ decide (z ≤ 57) = false ∧ Hid (chB z = false)) ∨
    (z < 97 ∧ z < 48 ∧ decide (97 ≤ z) = false ∧ decide (48 ≤ z) = false ∧ Hid (chB z = false)) := by
  simp only [Hid, chB, Bool.or_eq_true, Bool.and_eq_true, Bool.or_eq_false_iff, Bool.and_eq_false_iff, decide_eq_true_eq, decide_eq_false_iff_not]
  omega

theorem name_false {s : ByteArray} {k : Nat} (hk : k < s.size) (h : chB (chAt s k) = false) : nameB s = false := by
  simp only [nameB]; rw [all_range_false hk h]; simp
theorem name_true {s : ByteArray} (h1 : 1 ≤ s.size) (h8 : s.size ≤ 8) (h : ∀ j, j < s.size → chB (chAt s j) = true) : nameB s = true := by
  simp only [nameB]; rw [all_range_true h]; simp [h1, h8]
theorem name_end {s : ByteArray} (h1 : 1 ≤ s.size) (h : ∀ j, j < s.size → chB (chAt s j) = true) : nameB s = decide ((s.size : Int) ≤ 8) := by
  simp only [nameB]; rw [all_range_true h]; simp [h1]; omega

set_option maxHeartbeats 1000000 in
theorem c_isName (s : ByteArray) (w : World) :
    Calls Tryz.prog 237 #[.string s] w fun e w' => e = .returned (.bool (nameB s)) ∧ w = w' := by
  by_cases h1 : s.size < 1
  · have HR := hide (show nameB s = false by simp [nameB]; omega)
    go_enter Tryz.func237, Tryz.ntmps237
    go_wp2_with fail
    go_ret
    exact ⟨by rw [HR.out]; rfl, rfl⟩
  by_cases h8 : 8 < s.size
  · have HR := hide (show nameB s = false by simp [nameB]; omega)
    go_enter Tryz.func237, Tryz.ntmps237
    go_wp2_with fail
    go_ret
    exact ⟨by rw [HR.out]; rfl, rfl⟩
  go_enter Tryz.func237, Tryz.ntmps237
  go_wp2_with fail
  go_loop [3] (fun i => ∃ k : Nat, k ≤ s.size ∧ i = .int .i64 k ∧ Hid (∀ j, j < k → chB (chAt s j) = true)) (fun i => s.size - (intOf i).toNat)
  case atStart => exact ⟨0, Nat.zero_le _, rfl, hide (fun j hj => absurd hj (by omega))⟩
  case round =>
    obtain ⟨k, hk, rfl, HK⟩ := hrel
    by_cases hlt : k < s.size
    · have hch := chAt_eq hlt
      have HF := hide (fun h => name_false hlt h)
      have HNX : chB (chAt s k) = true → Hid (∀ j, j < k + 1 → chB (chAt s j) = true) := fun h => hide (all_upto (p := fun j => chB (chAt s j)) HK.out h)
      generalize chAt s k = z at hch HF HNX
      rcases ch_ways z with ⟨z1, z2, d1, d2, HC⟩ | ⟨z1, z2, z3, z4, d1, d2, d3, d4, HC⟩ | ⟨z1, z2, z3, d1, d2, d3, HC⟩ | ⟨z1, z2, z3, d1, d2, d3, HC⟩ | ⟨z1, z2, d1, d2, HC⟩
      · go_wp2_with fail
        go_round
        case rel => exact ⟨k + 1, by omega, by go_num, HNX HC⟩
        case measure => simp [intOf]; omega
      · go_wp2_with fail
        go_ret
        exact ⟨by rw [HF.out HC]; rfl, rfl⟩
      · go_wp2_with fail
        go_round
        case rel => exact ⟨k + 1, by omega, by go_num, HNX HC⟩
        case measure => simp [intOf]; omega
      · go_wp2_with fail
        go_ret
        exact ⟨by rw [HF.out HC]; rfl, rfl⟩
      · go_wp2_with fail
        go_ret
        exact ⟨by rw [HF.out HC]; rfl, rfl⟩
    · go_wp2_with fail
      go_ret
      exact ⟨by rw [name_true (by omega) (by omega) (fun j hj => HK.out j (by omega))]; rfl, rfl⟩

set_option maxHeartbeats 1000000 in
theorem c_l02Name (s : ByteArray) (w : World) (hs : s.size ≤ 1048576) :
    Calls Tryz.prog 255 #[.string s] w fun e w' => e = .returned (.bool (nameB s)) ∧ w = w' := by
  go_enter Tryz.func255, Tryz.ntmps255
  go_wp2_with fail
  go_loop [3] (fun i => ∃ k : Nat, k ≤ s.size ∧ i = .int .i64 k ∧ Hid (∀ j, j < k → chB (chAt s j) = true)) (fun i => s.size - (intOf i).toNat)
  case atStart => exact ⟨0, Nat.zero_le _, rfl, hide (fun j hj => absurd hj (by omega))⟩
  case round =>
    obtain ⟨k, hk, rfl, HK⟩ := hrel
    by_cases hlt : k < s.size
    · have hch := chAt_eq hlt
      have HF := hide (fun h => name_false hlt h)
      have HNX : chB (chAt s k) = true → Hid (∀ j, j < k + 1 → chB (chAt s j) = true) := fun h => hide (all_upto (p := fun j => chB (chAt s j)) HK.out h)
      generalize chAt s k = z at hch HF HNX
      rcases ch_ways z with ⟨z1, z2, d1, d2, HC⟩ | ⟨z1, z2, z3, z4, d1, d2, d3, d4, HC⟩ | ⟨z1, z2, z3, d1, d2, d3, HC⟩ | ⟨z1, z2, z3, d1, d2, d3, HC⟩ | ⟨z1, z2, d1, d2, HC⟩
      · go_wp2_with fail
        go_round
        case rel => exact ⟨k + 1, by omega, by go_num, HNX HC⟩
        case measure => simp [intOf]; omega
      · go_wp2_with fail
        go_ret
        exact ⟨by rw [HF.out HC]; rfl, rfl⟩
      · go_wp2_with fail
        go_round
        case rel => exact ⟨k + 1, by omega, by go_num, HNX HC⟩
        case measure => simp [intOf]; omega
      · go_wp2_with fail
        go_ret
        exact ⟨by rw [HF.out HC]; rfl, rfl⟩
      · go_wp2_with fail
        go_ret
        exact ⟨by rw [HF.out HC]; rfl, rfl⟩
    · by_cases h1 : s.size < 1
      · have HR := hide (show nameB s = false by simp [nameB]; omega)
        go_wp2_with fail
        go_ret
        exact ⟨by rw [HR.out]; rfl, rfl⟩
      go_wp2_with fail
      go_ret
      exact ⟨by rw [name_end (by omega) (fun j hj => HK.out j (by omega))]; rfl, rfl⟩

theorem node_ways (x : Node) : (nameB x.name = false ∧ Hid (nodeB x = false)) ∨ (nameB x.name = true ∧ x.low < 0 ∧ Hid (nodeB x = false)) ∨ (nameB x.name = true ∧ 0 ≤ x.low ∧ x.high < x.low ∧ Hid (nodeB x = false)) ∨
    (nameB x.name = true ∧ 0 ≤ x.low ∧ x.low ≤ x.high ∧ Hid (nodeB x = decide (x.high ≤ 100000000))) := by
  unfold nodeB Hid
  cases nameB x.name
  · simp
  · simp only [Bool.true_and]
    by_cases h1 : 0 ≤ x.low <;> by_cases h2 : x.low ≤ x.high <;> simp [h1, h2] <;> omega
set_option maxHeartbeats 1000000 in
theorem c_IsNode (x : Node) (w : World) :
    Calls Tryz.prog 184 #[.agg #[.string x.name, .int .i64 x.low, .int .i64 x.high]] w (Ret (.bool (nodeB x)) w) := by
  obtain ⟨s, lo, hi⟩ := x
  rcases node_ways ⟨s, lo, hi⟩ with ⟨h1, HR⟩ | ⟨h1, h2, HR⟩ | ⟨h1, h2, h3, HR⟩ | ⟨h1, h2, h3, HR⟩ <;>
  · simp only at h1
    go_enter Tryz.func184, Tryz.ntmps184
    go_wp2_with (go_at_call 237; refine (c_isName _ _).mono ?_; rintro e w' ⟨rfl, rfl⟩)
    go_ret
    exact Ret.bool HR (Ext.alloc _ _)
set_option maxHeartbeats 1000000 in
theorem c_specIsNode (x : Node) (w : World)(hs : x.name.size ≤ 1048576) :
    Calls Tryz.prog 202 #[.agg #[.string x.name, .int .i64 x.low, .int .i64 x.high]] w (Ret (.bool (nodeB x)) w) := by
  obtain ⟨s, lo, hi⟩ := x
  rcases node_ways ⟨s, lo, hi⟩ with ⟨h1, HR⟩ | ⟨h1, h2, HR⟩ | ⟨h1, h2, h3, HR⟩ | ⟨h1, h2, h3, HR⟩ <;>
  · simp only at h1
    go_enter Tryz.func202, Tryz.ntmps202
    go_wp2_with (go_at_call 255; refine (c_l02Name _ _ hs).mono ?_; rintro e w' ⟨rfl, rfl⟩)
    go_ret
    exact Ret.bool HR (Ext.alloc _ _)
end Go.Proofs.YtfkpghdmljjegaaGreat
