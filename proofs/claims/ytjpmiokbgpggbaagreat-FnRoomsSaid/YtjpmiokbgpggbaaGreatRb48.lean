/-
  A region that draws its order whose last operation stores into cells that earlier ones load: of the world behind the last operation nothing is asked. No function of the program is named here.
-/
import Derived.Test.YtjpmiokbgpggbaaGreatRb03
namespace Go.Proofs.YtjpmiokbgpggbaaGreat
open Go.RowKit
/-- whatever order is picked; S holds behind every operation but z -/
def wpAnyZ (P : Program) (md : Region.Mode) (ops : Array Oper) (Q : Exit → Act → World → Prop) (S : World → Prop) (z : Nat) : Nat → Array Bool → Act → World → Prop
  | 0, listed, a, w => Region.ready md ops listed = [] ∧ Q .normal a w
  | fuel + 1, listed, a, w =>
    (Region.ready md ops listed = [] → Q .normal a w) ∧
    ∀ i ∈ Region.ready md ops listed, wpOp P ops Q i (fun a' w' => (i ≠ z → S w') ∧ wpAnyZ P md ops Q S z fuel (listed.setIfInBounds i true) a' w') a w
section
variable {P : Program} {ops : Array Oper} {Q : Exit → Act → World → Prop} {md : Region.Mode} {S : World → Prop} {z : Nat}
theorem wpAny_of_Z : ∀ (fuel : Nat) (listed : Array Bool) (a : Act) (w : World), wpAnyZ P md ops Q S z fuel listed a w → wpAny P md ops Q fuel listed a w
  | 0, _, _, _, h => h
  | fuel + 1, _, _, _, h => ⟨h.1, fun i hi => wpOp_mono (fun a' w' h' => wpAny_of_Z fuel _ a' w' h'.2) (h.2 i hi)⟩
theorem wpAnyZ_first {i : Nat} {oi : Oper} {v : Value} (hi : ops[i]? = some oi) (hsel : ∀ (j : Nat) (o : Oper) cs b, ops[j]? = some o → o.op ≠ .select cs b)
    (hQ : ∀ c a w, Q (.panic c) (a.put oi.dst v) w → Q (.panic c) a w) (hiz : i ≠ z) {oz : Oper} (hoz : ops[z]? = some oz) (hwz : ∃ e ∈ oz.after, Region.binds md e = true ∧ e.on = i) :
    ∀ (fuel : Nat) (listed : Array Bool) (a : Act) (w : World),
      (∀ j oj, ops[j]? = some oj → j ≠ i → listed.getD j true = false → (∀ e ∈ oj.after, Region.binds md e = true → e.on ≠ i) → oi.apart ops oj = true) →
      i ∈ Region.ready md ops listed → YieldsIf P ops S oi v a → S w →
      wpAnyZ P md ops Q S z fuel (listed.setIfInBounds i true) (a.put oi.dst v) w → wpAnyZ P md ops Q S z (fuel + 1) listed a w := by
  intro fuel
  induction fuel with
  | zero =>
    intro listed a w _ hr hy hS H
    refine ⟨fun h => (by rw [h] at hr; cases hr), fun j hj => ?_⟩
    by_cases hji : j = i
    · subst hji; exact hy.wpOp hi hS ⟨fun _ => hS, H⟩
    · have := ready_mono hj hji
      rw [H.1] at this
      cases this
  | succ fuel ih =>
    intro listed a w hfree hr hy hS H
    refine ⟨fun h => (by rw [h] at hr; cases hr), fun j hj => ?_⟩
    by_cases hji : j = i
    · subst hji; exact hy.wpOp hi hS ⟨fun _ => hS, H⟩
    · have h1 := H.2 j (ready_mono hj hji)
      obtain ⟨hjun, oj, hoj, hall⟩ := mem_ready.1 hj
      have hnot : ∀ e ∈ oj.after, Region.binds md e = true → e.on ≠ i := fun e he hb heq => by
        have h1 := hall e he hb
        have h0 := (mem_ready.1 hr).1
        rw [heq] at h1
        rcases Nat.lt_or_ge i listed.size with h' | h'
        · simp [h'] at h0 h1; rw [h0] at h1; cases h1
        · simp [Array.getElem?_eq_none h'] at h1
      have hjz : j ≠ z := by
        rintro rfl
        rw [hoj] at hoz
        injection hoz with hoz
        subst hoz
        obtain ⟨e, he, hb, heq⟩ := hwz
        exact hnot e he hb heq
      have h2 := wpOp_putIf hoj (hfree j oj hoj hji hjun hnot) (fun cs b => hsel i oi cs b hi) (fun cs b => hsel j oj cs b hoj) hQ hy h1
      have hfree' : ∀ k ok, ops[k]? = some ok → k ≠ i → (listed.setIfInBounds j true).getD k true = false →
          (∀ e ∈ ok.after, Region.binds md e = true → e.on ≠ i) → oi.apart ops ok = true := fun k ok hk hki hun hno => by
        refine hfree k ok hk hki ?_ hno
        by_cases hjk : j = k
        · subst hjk; exact hjun
        · rw [getD_set_ne true hjk] at hun; exact hun
      refine wpOp_mono (fun a' w' h3 => ⟨h3.2.1, ih (listed.setIfInBounds j true) a' w' hfree' (ready_mono hr (Ne.symm hji)) h3.1 (h3.2.1 hjz) ?_⟩) h2
      rw [Array.setIfInBounds_comm _ _ hji]
      exact h3.2.2
end
def waitsZ (md : Region.Mode) (l : List Oper) (z i : Nat) : Bool := decide (i ≠ z) && decide (z < l.length) && (nthO l z).after.any (fun e => Region.binds md e && e.on == i)
theorem wpAnyZ_still {P : Program} {md : Region.Mode} {l : List Oper} {Q : Exit → Act → World → Prop} {bs : List (Nat × Nat)} {w0 w : World} {z : Nat} (hw0 : SameC bs w0 w) (hs : Region.noSelect l.toArray = true) (hQ : ∀ c a w d v, Q (.panic c) (a.put d v) w → Q (.panic c) a w) {fuel : Nat} {listed' : Array Bool} {K : Act → Prop}
    (hK : ∀ a, K a → wpAnyZ P md l.toArray Q (SameC bs w0) z fuel listed' a w) : ∀ (is : List Nat) (listed : Array Bool) (a : Act), goStill md l listed is = some listed' → (∀ i ∈ is, waitsZ md l z i = true) → wpQuiet P l.toArray (GrowC bs w0) K (pickL l is) a →
      wpAnyZ P md l.toArray Q (SameC bs w0) z (fuel + is.length) listed a w := by
  intro is
  induction is with
  | nil =>
    intro listed a hg _ h
    simp only [goStill, Option.some.injEq] at hg
    subst hg
    exact hK a h
  | cons i is ih =>
    intro listed a hg hz h
    unfold goStill at hg
    split at hg
    · rename_i hc
      simp only [Bool.and_eq_true, decide_eq_true_eq] at hc
      obtain ⟨⟨⟨h1, h2⟩, h3⟩, h4⟩ := hc
      have hi : l.toArray[i]? = some (nthO l i) := by simpa using nthO_some h1
      have hzi := hz i (by simp)
      simp only [waitsZ, Bool.and_eq_true, decide_eq_true_eq, Array.any_eq_true'] at hzi
      obtain ⟨⟨hiz, hzl⟩, e, he, hb⟩ := hzi
      have hoz : l.toArray[z]? = some (nthO l z) := by simpa using nthO_some hzl
      have hwz : ∃ e ∈ (nthO l z).after, Region.binds md e = true ∧ e.on = i := by
        simp only [beq_iff_eq] at hb
        exact ⟨e, he, hb⟩
      simp only [pickL, wpQuiet] at h
      by_cases hw : Region.wanted (nthO l i) (yielded l.toArray a.tmps) = true
      · rw [if_pos hw] at h
        obtain ⟨v, hv, hn⟩ := h
        exact wpAnyZ_first hi (Region.noSelect_spec hs) (fun c a w => hQ c a w _ _) hiz hoz hwz (fuel + is.length) listed a w (Region.free_spec hi h3) (by simpa using h4) (yields_of_quietC h2 hw hv) hw0 (ih _ _ hg (fun i hi => hz i (by simp [hi])) hn)
      · rw [if_neg hw] at h
        exact wpAnyZ_first hi (Region.noSelect_spec hs) (fun c a w => hQ c a w _ _) hiz hoz hwz (fuel + is.length) listed a w (Region.free_spec hi h3) (by simpa using h4) (.inr ⟨by simpa using hw, rfl⟩) hw0 (ih _ _ hg (fun i hi => hz i (by simp [hi])) h)
    · cases hg
def wpPhZ (P : Program) (l : List Oper) (Q : Exit → Act → World → Prop) (bs : List (Nat × Nat)) (w0 : World) (z : Nat) : List (List Nat × Nat) → List Nat → Act → World → Prop
  | [], last, a, w => wpQuiet P l.toArray (fun w' => ∃ x, w' = laterC bs w0 x) (fun a' => wpList P l.toArray (Exit.then (fun a'' w'' => Q .normal a'' w'') Q) [nthO l z] a' w) (pickL l last) a
  | (is, j) :: r, last, a, w => wpQuiet P l.toArray (fun w' => ∃ x, w' = laterC bs w0 x) (fun a' => wpList P l.toArray (Exit.then (fun a'' w'' => SameC bs w0 w'' ∧ wpPhZ P l Q bs w0 z r last a'' w'') Q) [nthO l j] a' w) (pickL l is) a
def okPhZ (md : Region.Mode) (l : List Oper) (z : Nat) : Array Bool → List (List Nat × Nat) → List Nat → Bool
  | listed, [], last => match goStill md l listed last with
    | some listed' => decide (z < l.length) && last.all (waitsZ md l z) && (Region.ready md l.toArray listed' == [z]) && (Region.ready md l.toArray (listed'.setIfInBounds z true)).isEmpty
    | none => false
  | listed, (is, j) :: r, last => match goStill md l listed is with
    | some listed' => decide (j < l.length) && is.all (waitsZ md l z) && decide (j ≠ z) && (Region.ready md l.toArray listed' == [j]) && okPhZ md l z (listed'.setIfInBounds j true) r last
    | none => false
theorem wpAnyZ_ph {P : Program} {md : Region.Mode} {l : List Oper} {Q : Exit → Act → World → Prop} {bs : List (Nat × Nat)} {w0 : World} {z : Nat} (hs : Region.noSelect l.toArray = true) (hQ : ∀ c a w d v, Q (.panic c) (a.put d v) w → Q (.panic c) a w) (last : List Nat) :
    ∀ (ph : List (List Nat × Nat)) (listed : Array Bool) (a : Act) (w : World), SameC bs w0 w → okPhZ md l z listed ph last = true → wpPhZ P l Q bs w0 z ph last a w → wpAnyZ P md l.toArray Q (SameC bs w0) z (phLen ph last + 1) listed a w := by
  intro ph
  induction ph with
  | nil =>
    intro listed a w hw0 ho h
    unfold okPhZ at ho
    cases hg : goStill md l listed last with
    | none => rw [hg] at ho; simp at ho
    | some listed' =>
      rw [hg] at ho
      simp only [Bool.and_eq_true, decide_eq_true_eq, beq_iff_eq, List.all_eq_true, List.isEmpty_iff] at ho
      obtain ⟨⟨⟨hz, hw⟩, hr⟩, he⟩ := ho
      have := wpAnyZ_still (fuel := 1) hw0 hs hQ (K := fun a' => wpList P l.toArray (Exit.then (fun a'' w'' => Q .normal a'' w'') Q) [nthO l z] a' w) (fun a' ha => ?_) last listed a hg hw h
      · rw [Nat.add_comm] at this; exact this
      · refine ⟨fun h0 => (by rw [hr] at h0; cases h0), fun i hi => ?_⟩
        rw [hr] at hi
        obtain rfl : i = z := by simpa using hi
        exact wpOp_mono (fun a'' w'' h' => ⟨fun hne => absurd rfl hne, he, h'⟩) (wpOp_one hz ha)
  | cons p r ih =>
    obtain ⟨is, j⟩ := p
    intro listed a w hw0 ho h
    unfold okPhZ at ho
    cases hg : goStill md l listed is with
    | none => rw [hg] at ho; simp at ho
    | some listed' =>
      rw [hg] at ho
      simp only [Bool.and_eq_true, decide_eq_true_eq, beq_iff_eq, List.all_eq_true] at ho
      obtain ⟨⟨⟨⟨hj, hw⟩, hjz⟩, hr⟩, ho⟩ := ho
      have hfu : phLen ((is, j) :: r) last + 1 = (phLen r last + 1 + 1) + is.length := by simp only [phLen]; omega
      rw [hfu]
      refine wpAnyZ_still (fuel := phLen r last + 1 + 1) hw0 hs hQ (fun a' ha => ?_) is listed a hg hw h
      refine ⟨fun h0 => (by rw [hr] at h0; cases h0), fun i hi => ?_⟩
      rw [hr] at hi
      obtain rfl : i = j := by simpa using hi
      exact wpOp_mono (fun a'' w'' h' => ⟨fun _ => h'.1, ih _ a'' w'' h'.1 ho h'.2⟩) (wpOp_one hj ha)
/-- THE RULE: the cells 'bs' stay until the last operation, z; by phases that the kernel checks -/
theorem wp_region_phZ {P : Program} {id : Nat} {Q : Exit → Act → World → Prop} {a : Act} {w : World} {l : List Oper} (bs : List (Nat × Nat)) (ph : List (List Nat × Nat)) (last : List Nat) (z : Nat) (hm : P.follows .mixedOrders = true)
    (hc : (Region.noSelect l.toArray && decide (phLen ph last + 1 = l.length) && okPhZ .any l z (Array.replicate l.length false) ph last) = true) (hQ : ∀ c a w d v, Q (.panic c) (a.put d v) w → Q (.panic c) a w)
    (h : wpPhZ P l Q bs w z ph last a w.drew) : (Code.region id l.toArray true).wp P Q a w := by
  simp only [Bool.and_eq_true, decide_eq_true_eq] at hc
  obtain ⟨⟨hs, hl⟩, ho⟩ := hc
  refine wp_region_any hm (wpAny_of_Z (S := SameC bs w) (z := z) _ _ _ _ ?_)
  have := wpAnyZ_ph (P := P) (md := .any) (w0 := w) (bs := bs) hs hQ last ph _ a w.drew (SameC.refl bs w).drew ho h
  rw [hl] at this
  simpa using this
end Go.Proofs.YtjpmiokbgpggbaaGreat
