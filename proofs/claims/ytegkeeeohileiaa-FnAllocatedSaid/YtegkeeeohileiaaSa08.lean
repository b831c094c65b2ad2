/-
  A region that draws its order and holds loads beside stores and calls that turn memory elsewhere: the cells that are read are named and stay. No function of the program is named here.
-/
import Derived.Test.YtegkeeeohileiaaSa03
import Derived.Test.YtegkeeeohileiaaSa02
namespace Go.Proofs.Ytegkeeeohileiaa
open Go.RowKit

/-- the named cells stay -/
def SameC (cs : List (Nat × Nat)) (w x : World) : Prop := ∀ q ∈ cs, x.cell? ⟨q.1, q.2, none⟩ = w.cell? ⟨q.1, q.2, none⟩
theorem SameC.refl (cs : List (Nat × Nat)) (w : World) : SameC cs w w := fun _ _ => rfl
theorem SameC.trans {cs : List (Nat × Nat)} {a b c : World} (h : SameC cs a b) (k : SameC cs b c) : SameC cs a c := fun i hi => (k i hi).trans (h i hi)
theorem SameC.drew {cs : List (Nat × Nat)} {a b : World} (h : SameC cs a b) : SameC cs a b.drew := h
theorem SameC.of_ext {cs : List (Nat × Nat)} {a b : World} (h : Ext a b) (hb : ∀ q ∈ cs, q.1 < a.heap.size) : SameC cs a b := fun q hq => h.cell q.1 q.2 (hb q hq)
theorem SameC.of_only {cs : List (Nat × Nat)} {g : Nat} {a b : World} (h : Only g a b) (hb : ∀ q ∈ cs, q.1 < a.heap.size ∧ q.1 ≠ g) : SameC cs a b := fun q hq => h.cell (hb q hq).1 (hb q hq).2
theorem SameC.setCell {cs : List (Nat × Nat)} {a b : World} (h : SameC cs a b) {p : Addr} (hp : ∀ q ∈ cs, q.1 ≠ p.block ∨ q.2 ≠ p.off) (u : Value) : SameC cs a (b.setCell p u) := fun q hq => by
  rw [World.cell?_setCell_other _ _ _ _ (fun e => by
    rcases hp q hq with h1 | h1
    · exact h1 (by rw [e])
    · exact h1 (by rw [e]))]
  exact h q hq
open Classical in
noncomputable def laterC (cs : List (Nat × Nat)) (w x : World) : World := if SameC cs w x then x else w
theorem laterC_of {cs : List (Nat × Nat)} {w x : World} (h : SameC cs w x) : laterC cs w x = x := by rw [laterC, if_pos h]
theorem same_laterC (cs : List (Nat × Nat)) (w x : World) : SameC cs w (laterC cs w x) := by
  unfold laterC; split
  · assumption
  · exact SameC.refl _ _
@[go_sem] theorem laterC_cell1 (cs : List (Nat × Nat)) (w x : World) (b o : Nat) : (laterC ((b, o) :: cs) w x).cell? ⟨b, o, none⟩ = w.cell? ⟨b, o, none⟩ := same_laterC _ w x (b, o) (by simp)
@[go_sem] theorem laterC_cell2 (cs : List (Nat × Nat)) (w x : World) (q1 : Nat × Nat) (b o : Nat) : (laterC (q1 :: (b, o) :: cs) w x).cell? ⟨b, o, none⟩ = w.cell? ⟨b, o, none⟩ := same_laterC _ w x (b, o) (by simp)
@[go_sem] theorem laterC_cell3 (cs : List (Nat × Nat)) (w x : World) (q1 q2 : Nat × Nat) (b o : Nat) : (laterC (q1 :: q2 :: (b, o) :: cs) w x).cell? ⟨b, o, none⟩ = w.cell? ⟨b, o, none⟩ := same_laterC _ w x (b, o) (by simp)
@[go_sem] theorem laterC_cell4 (cs : List (Nat × Nat)) (w x : World) (q1 q2 q3 : Nat × Nat) (b o : Nat) : (laterC (q1 :: q2 :: q3 :: (b, o) :: cs) w x).cell? ⟨b, o, none⟩ = w.cell? ⟨b, o, none⟩ := same_laterC _ w x (b, o) (by simp)
@[go_sem] theorem laterC_cell5 (cs : List (Nat × Nat)) (w x : World) (q1 q2 q3 q4 : Nat × Nat) (b o : Nat) : (laterC (q1 :: q2 :: q3 :: q4 :: (b, o) :: cs) w x).cell? ⟨b, o, none⟩ = w.cell? ⟨b, o, none⟩ := same_laterC _ w x (b, o) (by simp)

abbrev GrowC (bs : List (Nat × Nat)) (w : World) : World → Prop := fun w' => ∃ x, w' = laterC bs w x
theorem yields_of_quietC {P : Program} {ops : Array Oper} {o : Oper} {bs : List (Nat × Nat)} (ho : stillOp o.op = true) {a : Act} {w : World} {v : Value} (hw : Region.wanted o (yielded ops a.tmps) = true)
    (h : ∀ w', GrowC bs w w' → o.quietAt P a (GrowC bs w) w' v) : YieldsIf P ops (SameC bs w) o v a := by
  refine .inl ⟨hw, fun w' hx => ?_⟩
  have h1 := h w' ⟨w', (laterC_of hx).symm⟩
  unfold Oper.quietAt at h1
  cases hr : (execOp a.eval o).run P w' with
  | halt x w1 => rw [hr] at h1; simp [Oper.quietUpon] at h1
  | ok n w1 =>
    obtain ⟨u, rfl⟩ := still_value ho hr
    rw [hr] at h1
    simp only [Oper.quietUpon] at h1
    rw [h1.1, h1.2]
theorem wpAnyC_still {P : Program} {md : Region.Mode} {l : List Oper} {Q : Exit → Act → World → Prop} {bs : List (Nat × Nat)} {w0 w : World} (hw0 : SameC bs w0 w) (hs : Region.noSelect l.toArray = true) (hQ : ∀ c a w d v, Q (.panic c) (a.put d v) w → Q (.panic c) a w) {fuel : Nat} {listed' : Array Bool} {K : Act → Prop}
    (hK : ∀ a, K a → wpAnyH P md l.toArray Q (SameC bs w0) fuel listed' a w) : ∀ (is : List Nat) (listed : Array Bool) (a : Act), goStill md l listed is = some listed' → wpQuiet P l.toArray (GrowC bs w0) K (pickL l is) a →
      wpAnyH P md l.toArray Q (SameC bs w0) (fuel + is.length) listed a w := by
  intro is
  induction is with
  | nil =>
    intro listed a hg h
    simp only [goStill, Option.some.injEq] at hg
    subst hg
    exact hK a h
  | cons i is ih =>
    intro listed a hg h
    unfold goStill at hg
    split at hg
    · rename_i hc
      simp only [Bool.and_eq_true, decide_eq_true_eq] at hc
      obtain ⟨⟨⟨h1, h2⟩, h3⟩, h4⟩ := hc
      have hi : l.toArray[i]? = some (nthO l i) := by simpa using nthO_some h1
      simp only [pickL, wpQuiet] at h
      by_cases hw : Region.wanted (nthO l i) (yielded l.toArray a.tmps) = true
      · rw [if_pos hw] at h
        obtain ⟨v, hv, hn⟩ := h
        exact wpAnyH_first hi (Region.noSelect_spec hs) (fun c a w => hQ c a w _ _) (fuel + is.length) listed a w (Region.free_spec hi h3) (by simpa using h4) (yields_of_quietC h2 hw hv) hw0 (ih _ _ hg hn)
      · rw [if_neg hw] at h
        exact wpAnyH_first hi (Region.noSelect_spec hs) (fun c a w => hQ c a w _ _) (fuel + is.length) listed a w (Region.free_spec hi h3) (by simpa using h4) (.inr ⟨by simpa using hw, rfl⟩) hw0 (ih _ _ hg h)
    · cases hg
def wpPhC (P : Program) (l : List Oper) (Q : Exit → Act → World → Prop) (bs : List (Nat × Nat)) (w0 : World) : List (List Nat × Nat) → List Nat → Act → World → Prop
  | [], last, a, w => wpQuiet P l.toArray (fun w' => ∃ x, w' = laterC bs w0 x) (fun a' => Q .normal a' w) (pickL l last) a
  | (is, j) :: r, last, a, w => wpQuiet P l.toArray (fun w' => ∃ x, w' = laterC bs w0 x) (fun a' => wpList P l.toArray (Exit.then (fun a'' w'' => SameC bs w0 w'' ∧ wpPhC P l Q bs w0 r last a'' w'') Q) [nthO l j] a' w) (pickL l is) a
theorem wpAnyC_ph {P : Program} {md : Region.Mode} {l : List Oper} {Q : Exit → Act → World → Prop} {bs : List (Nat × Nat)} {w0 : World} (hs : Region.noSelect l.toArray = true) (hQ : ∀ c a w d v, Q (.panic c) (a.put d v) w → Q (.panic c) a w) (last : List Nat) :
    ∀ (ph : List (List Nat × Nat)) (listed : Array Bool) (a : Act) (w : World), SameC bs w0 w → okPh md l listed ph last = true → wpPhC P l Q bs w0 ph last a w → wpAnyH P md l.toArray Q (SameC bs w0) (phLen ph last) listed a w := by
  intro ph
  induction ph with
  | nil =>
    intro listed a w hw0 ho h
    unfold okPh at ho
    cases hg : goStill md l listed last with
    | none => rw [hg] at ho; simp at ho
    | some listed' =>
      rw [hg] at ho
      have he : Region.ready md l.toArray listed' = [] := by simpa using ho
      have := wpAnyC_still (fuel := 0) hw0 hs hQ (K := fun a' => Q .normal a' w) (fun a' ha => ⟨he, ha⟩) last listed a hg h
      simpa [phLen] using this
  | cons p r ih =>
    obtain ⟨is, j⟩ := p
    intro listed a w hw0 ho h
    unfold okPh at ho
    cases hg : goStill md l listed is with
    | none => rw [hg] at ho; simp at ho
    | some listed' =>
      rw [hg] at ho
      simp only [Bool.and_eq_true, decide_eq_true_eq, beq_iff_eq] at ho
      obtain ⟨⟨hj, hr⟩, ho⟩ := ho
      refine wpAnyC_still (fuel := phLen r last + 1) hw0 hs hQ (fun a' ha => ?_) is listed a hg h
      refine ⟨fun h0 => (by rw [hr] at h0; cases h0), fun i hi => ?_⟩
      rw [hr] at hi
      obtain rfl : i = j := by simpa using hi
      exact wpOp_mono (fun a'' w'' h' => ⟨h'.1, ih _ a'' w'' h'.1 ho h'.2⟩) (wpOp_one hj ha)
/-- THE RULE: the cells 'bs' stay; by phases that the kernel checks -/
theorem wp_region_phC {P : Program} {id : Nat} {Q : Exit → Act → World → Prop} {a : Act} {w : World} {l : List Oper} (bs : List (Nat × Nat)) (ph : List (List Nat × Nat)) (last : List Nat) (hm : P.follows .mixedOrders = true)
    (hc : (Region.noSelect l.toArray && decide (phLen ph last = l.length) && okPh .any l (Array.replicate l.length false) ph last) = true) (hQ : ∀ c a w d v, Q (.panic c) (a.put d v) w → Q (.panic c) a w)
    (h : wpPhC P l Q bs w ph last a w.drew) : (Code.region id l.toArray true).wp P Q a w := by
  simp only [Bool.and_eq_true, decide_eq_true_eq] at hc
  obtain ⟨⟨hs, hl⟩, ho⟩ := hc
  refine wp_region_any hm (wpAny_of_held _ _ _ _ (S := SameC bs w) ?_)
  have := wpAnyC_ph (P := P) (md := .any) (w0 := w) (bs := bs) hs hQ last ph _ a w.drew (SameC.refl bs w).drew ho h
  rw [hl] at this
  simpa using this
end Go.Proofs.Ytegkeeeohileiaa
