/-
  A region that draws its order where two operations may come up: both orders are walked. No function of the program is named here.
-/
import Derived.Test.YtegkeeeohileiaaSa08
namespace Go.Proofs.Ytegkeeeohileiaa
open Go.RowKit

/-- a plan: what only reads first, then the one operation, or the two, that may come up -/
inductive PhT where
  | last (is : List Nat)
  | one (is : List Nat) (j : Nat) (r : PhT)
  | two (is : List Nat) (j : Nat) (r : PhT) (k : Nat) (r' : PhT)
def PhT.len : PhT → Nat
  | .last is => is.length
  | .one is _ r => r.len + 1 + is.length
  | .two is _ r _ _ => r.len + 1 + is.length
def okT (md : Region.Mode) (l : List Oper) : PhT → Array Bool → Bool
  | .last is, listed => match goStill md l listed is with
    | some listed' => (Region.ready md l.toArray listed').isEmpty
    | none => false
  | .one is j r, listed => match goStill md l listed is with
    | some listed' => decide (j < l.length) && (Region.ready md l.toArray listed' == [j]) && okT md l r (listed'.setIfInBounds j true)
    | none => false
  | .two is j r k r', listed => match goStill md l listed is with
    | some listed' => decide (j < l.length) && decide (k < l.length) && (Region.ready md l.toArray listed' == [j, k]) && decide (r'.len = r.len) && okT md l r (listed'.setIfInBounds j true) && okT md l r' (listed'.setIfInBounds k true)
    | none => false
def wpPhT (P : Program) (l : List Oper) (Q : Exit → Act → World → Prop) (bs : List (Nat × Nat)) (w0 : World) : PhT → Act → World → Prop
  | .last is, a, w => wpQuiet P l.toArray (fun w' => ∃ x, w' = laterC bs w0 x) (fun a' => Q .normal a' w) (pickL l is) a
  | .one is j r, a, w => wpQuiet P l.toArray (fun w' => ∃ x, w' = laterC bs w0 x) (fun a' => wpList P l.toArray (Exit.then (fun a'' w'' => SameC bs w0 w'' ∧ wpPhT P l Q bs w0 r a'' w'') Q) [nthO l j] a' w) (pickL l is) a
  | .two is j r k r', a, w => wpQuiet P l.toArray (fun w' => ∃ x, w' = laterC bs w0 x) (fun a' => wpList P l.toArray (Exit.then (fun a'' w'' => SameC bs w0 w'' ∧ wpPhT P l Q bs w0 r a'' w'') Q) [nthO l j] a' w ∧
      wpList P l.toArray (Exit.then (fun a'' w'' => SameC bs w0 w'' ∧ wpPhT P l Q bs w0 r' a'' w'') Q) [nthO l k] a' w) (pickL l is) a
theorem wpAnyC_phT {P : Program} {md : Region.Mode} {l : List Oper} {Q : Exit → Act → World → Prop} {bs : List (Nat × Nat)} {w0 : World} (hs : Region.noSelect l.toArray = true) (hQ : ∀ c a w d v, Q (.panic c) (a.put d v) w → Q (.panic c) a w) :
    ∀ (ph : PhT) (listed : Array Bool) (a : Act) (w : World), SameC bs w0 w → okT md l ph listed = true → wpPhT P l Q bs w0 ph a w → wpAnyH P md l.toArray Q (SameC bs w0) ph.len listed a w := by
  intro ph
  induction ph with
  | last is =>
    intro listed a w hw0 ho h
    unfold okT at ho
    cases hg : goStill md l listed is with
    | none => rw [hg] at ho; simp at ho
    | some listed' =>
      rw [hg] at ho
      have he : Region.ready md l.toArray listed' = [] := by simpa using ho
      have := wpAnyC_still (fuel := 0) hw0 hs hQ (K := fun a' => Q .normal a' w) (fun a' ha => ⟨he, ha⟩) is listed a hg h
      simpa [PhT.len] using this
  | one is j r ih =>
    intro listed a w hw0 ho h
    unfold okT at ho
    cases hg : goStill md l listed is with
    | none => rw [hg] at ho; simp at ho
    | some listed' =>
      rw [hg] at ho
      simp only [Bool.and_eq_true, decide_eq_true_eq, beq_iff_eq] at ho
      obtain ⟨⟨hj, hr⟩, ho⟩ := ho
      refine wpAnyC_still (fuel := r.len + 1) hw0 hs hQ (fun a' ha => ?_) is listed a hg h
      refine ⟨fun h0 => (by rw [hr] at h0; cases h0), fun i hi => ?_⟩
      rw [hr] at hi
      obtain rfl : i = j := by simpa using hi
      exact wpOp_mono (fun a'' w'' h' => ⟨h'.1, ih _ a'' w'' h'.1 ho h'.2⟩) (wpOp_one hj ha)
  | two is j r k r' ih ih' =>
    intro listed a w hw0 ho h
    unfold okT at ho
    cases hg : goStill md l listed is with
    | none => rw [hg] at ho; simp at ho
    | some listed' =>
      rw [hg] at ho
      simp only [Bool.and_eq_true, decide_eq_true_eq, beq_iff_eq] at ho
      obtain ⟨⟨⟨⟨⟨hj, hk⟩, hr⟩, hl⟩, ho⟩, ho'⟩ := ho
      refine wpAnyC_still (fuel := r.len + 1) hw0 hs hQ (fun a' ha => ?_) is listed a hg h
      refine ⟨fun h0 => (by rw [hr] at h0; cases h0), fun i hi => ?_⟩
      rw [hr] at hi
      rcases (show i = j ∨ i = k by simpa using hi) with rfl | rfl
      · exact wpOp_mono (fun a'' w'' h' => ⟨h'.1, ih _ a'' w'' h'.1 ho h'.2⟩) (wpOp_one hj ha.1)
      · exact wpOp_mono (fun a'' w'' h' => ⟨h'.1, hl ▸ ih' _ a'' w'' h'.1 ho' h'.2⟩) (wpOp_one hk ha.2)
/-- THE RULE: the cells 'bs' stay; by a plan that the kernel checks -/
theorem wp_region_phT {P : Program} {id : Nat} {Q : Exit → Act → World → Prop} {a : Act} {w : World} {l : List Oper} (bs : List (Nat × Nat)) (ph : PhT) (hm : P.follows .mixedOrders = true)
    (hc : (Region.noSelect l.toArray && decide (ph.len = l.length) && okT .any l ph (Array.replicate l.length false)) = true) (hQ : ∀ c a w d v, Q (.panic c) (a.put d v) w → Q (.panic c) a w)
    (h : wpPhT P l Q bs w ph a w.drew) : (Code.region id l.toArray true).wp P Q a w := by
  simp only [Bool.and_eq_true, decide_eq_true_eq] at hc
  obtain ⟨⟨hs, hl⟩, ho⟩ := hc
  refine wp_region_any hm (wpAny_of_held _ _ _ _ (S := SameC bs w) ?_)
  have := wpAnyC_phT (P := P) (md := .any) (w0 := w) (bs := bs) hs hQ ph _ a w.drew (SameC.refl bs w).drew ho h
  rw [hl] at this
  simpa using this
end Go.Proofs.Ytegkeeeohileiaa
