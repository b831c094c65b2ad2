/-
  A region that draws its order and holds loads beside calls that turn memory elsewhere: the blocks that are read are named and stay. No function of the program is named here.
-/
import Derived.Test.YtbkmnoedhilopaaSched
import Derived.Test.YtbkmnoedhilopaaOwn
namespace Go.Proofs.Ytbkmnoedhilopaa
open Go.RowKit

/-- the named blocks stay -/
def SameB (bs : List Nat) (w x : World) : Prop := ∀ k ∈ bs, x.heap[k]? = w.heap[k]?
theorem SameB.refl (bs : List Nat) (w : World) : SameB bs w w := fun _ _ => rfl
theorem SameB.trans {bs : List Nat} {a b c : World} (h : SameB bs a b) (k : SameB bs b c) : SameB bs a c := fun i hi => (k i hi).trans (h i hi)
theorem SameB.drew {bs : List Nat} {a b : World} (h : SameB bs a b) : SameB bs a b.drew := h
theorem SameB.of_ext {bs : List Nat} {a b : World} (h : Ext a b) (hb : ∀ k ∈ bs, k < a.heap.size) : SameB bs a b := fun k hk => h.block k (hb k hk)
theorem SameB.of_only {bs : List Nat} {g : Nat} {a b : World} (h : Only g a b) (hb : ∀ k ∈ bs, k < a.heap.size ∧ k ≠ g) : SameB bs a b := fun k hk => h.block k (hb k hk).1 (by simpa using (hb k hk).2)
theorem SameB.setCell {bs : List Nat} {a b : World} (h : SameB bs a b) {p : Addr} (hp : ∀ k ∈ bs, k ≠ p.block) (u : Value) : SameB bs a (b.setCell p u) := fun k hk => (Below.heap_setCell b p u k (hp k hk)).trans (h k hk)
open Classical in
noncomputable def laterB (bs : List Nat) (w x : World) : World := if SameB bs w x then x else w
theorem laterB_of {bs : List Nat} {w x : World} (h : SameB bs w x) : laterB bs w x = x := by rw [laterB, if_pos h]
theorem same_laterB (bs : List Nat) (w x : World) : SameB bs w (laterB bs w x) := by
  unfold laterB; split
  · assumption
  · exact SameB.refl _ _
theorem laterB_cell (bs : List Nat) (w x : World) (b o : Nat) (hb : b ∈ bs) : (laterB bs w x).cell? ⟨b, o, none⟩ = w.cell? ⟨b, o, none⟩ := World.cell?_of_block (w := w) (same_laterB bs w x b hb)
@[go_sem] theorem laterB_cell1 (bs : List Nat) (w x : World) (b o : Nat) : (laterB (b :: bs) w x).cell? ⟨b, o, none⟩ = w.cell? ⟨b, o, none⟩ := laterB_cell _ w x b o (by simp)
@[go_sem] theorem laterB_cell2 (bs : List Nat) (w x : World) (a b o : Nat) : (laterB (a :: b :: bs) w x).cell? ⟨b, o, none⟩ = w.cell? ⟨b, o, none⟩ := laterB_cell _ w x b o (by simp)
@[go_sem] theorem laterB_cell3 (bs : List Nat) (w x : World) (a a' b o : Nat) : (laterB (a :: a' :: b :: bs) w x).cell? ⟨b, o, none⟩ = w.cell? ⟨b, o, none⟩ := laterB_cell _ w x b o (by simp)

abbrev GrowB (bs : List Nat) (w : World) : World → Prop := fun w' => ∃ x, w' = laterB bs w x
theorem yields_of_quietB {P : Program} {ops : Array Oper} {o : Oper} {bs : List Nat} (ho : stillOp o.op = true) {a : Act} {w : World} {v : Value} (hw : Region.wanted o (yielded ops a.tmps) = true)
    (h : ∀ w', GrowB bs w w' → o.quietAt P a (GrowB bs w) w' v) : YieldsIf P ops (SameB bs w) o v a := by
  refine .inl ⟨hw, fun w' hx => ?_⟩
  have h1 := h w' ⟨w', (laterB_of hx).symm⟩
  unfold Oper.quietAt at h1
  cases hr : (execOp a.eval o).run P w' with
  | halt x w1 => rw [hr] at h1; simp [Oper.quietUpon] at h1
  | ok n w1 =>
    obtain ⟨u, rfl⟩ := still_value ho hr
    rw [hr] at h1
    simp only [Oper.quietUpon] at h1
    rw [h1.1, h1.2]
theorem wpAnyB_still {P : Program} {md : Region.Mode} {l : List Oper} {Q : Exit → Act → World → Prop} {bs : List Nat} {w0 w : World} (hw0 : SameB bs w0 w) (hs : Region.noSelect l.toArray = true) (hQ : ∀ c a w d v, Q (.panic c) (a.put d v) w → Q (.panic c) a w) {fuel : Nat} {listed' : Array Bool} {K : Act → Prop}
    (hK : ∀ a, K a → wpAnyH P md l.toArray Q (SameB bs w0) fuel listed' a w) : ∀ (is : List Nat) (listed : Array Bool) (a : Act), goStill md l listed is = some listed' → wpQuiet P l.toArray (GrowB bs w0) K (pickL l is) a →
      wpAnyH P md l.toArray Q (SameB bs w0) (fuel + is.length) listed a w := by
  intro is
  induction is with
  | nil =>
    intro listed a hg h
    simp only [goStill, Option.some.injEq] at hg
    subst hg
    exact hK a h
  | cons i is ih =>
    intro listed a hg h
    unfold goStill at hg
    split at hg
    · rename_i hc
      simp only [Bool.and_eq_true, decide_eq_true_eq] at hc
      obtain ⟨⟨⟨h1, h2⟩, h3⟩, h4⟩ := hc
      have hi : l.toArray[i]? = some (nthO l i) := by simpa using nthO_some h1
      simp only [pickL, wpQuiet] at h
      by_cases hw : Region.wanted (nthO l i) (yielded l.toArray a.tmps) = true
      · rw [if_pos hw] at h
        obtain ⟨v, hv, hn⟩ := h
        exact wpAnyH_first hi (Region.noSelect_spec hs) (fun c a w => hQ c a w _ _) (fuel + is.length) listed a w (Region.free_spec hi h3) (by simpa using h4) (yields_of_quietB h2 hw hv) hw0 (ih _ _ hg hn)
      · rw [if_neg hw] at h
        exact wpAnyH_first hi (Region.noSelect_spec hs) (fun c a w => hQ c a w _ _) (fuel + is.length) listed a w (Region.free_spec hi h3) (by simpa using h4) (.inr ⟨by simpa using hw, rfl⟩) hw0 (ih _ _ hg h)
    · cases hg
def wpPhB (P : Program) (l : List Oper) (Q : Exit → Act → World → Prop) (bs : List Nat) (w0 : World) : List (List Nat × Nat) → List Nat → Act → World → Prop
  | [], last, a, w => wpQuiet P l.toArray (fun w' => ∃ x, w' = laterB bs w0 x) (fun a' => Q .normal a' w) (pickL l last) a
  | (is, j) :: r, last, a, w => wpQuiet P l.toArray (fun w' => ∃ x, w' = laterB bs w0 x) (fun a' => wpList P l.toArray (Exit.then (fun a'' w'' => SameB bs w0 w'' ∧ wpPhB P l Q bs w0 r last a'' w'') Q) [nthO l j] a' w) (pickL l is) a
theorem wpAnyB_ph {P : Program} {md : Region.Mode} {l : List Oper} {Q : Exit → Act → World → Prop} {bs : List Nat} {w0 : World} (hs : Region.noSelect l.toArray = true) (hQ : ∀ c a w d v, Q (.panic c) (a.put d v) w → Q (.panic c) a w) (last : List Nat) :
    ∀ (ph : List (List Nat × Nat)) (listed : Array Bool) (a : Act) (w : World), SameB bs w0 w → okPh md l listed ph last = true → wpPhB P l Q bs w0 ph last a w → wpAnyH P md l.toArray Q (SameB bs w0) (phLen ph last) listed a w := by
  intro ph
  induction ph with
  | nil =>
    intro listed a w hw0 ho h
    unfold okPh at ho
    cases hg : goStill md l listed last with
    | none => rw [hg] at ho; simp at ho
    | some listed' =>
      rw [hg] at ho
      have he : Region.ready md l.toArray listed' = [] := by simpa using ho
      have := wpAnyB_still (fuel := 0) hw0 hs hQ (K := fun a' => Q .normal a' w) (fun a' ha => ⟨he, ha⟩) last listed a hg h
      simpa [phLen] using this
  | cons p r ih =>
    obtain ⟨is, j⟩ := p
    intro listed a w hw0 ho h
    unfold okPh at ho
    cases hg : goStill md l listed is with
    | none => rw [hg] at ho; simp at ho
    | some listed' =>
      rw [hg] at ho
      simp only [Bool.and_eq_true, decide_eq_true_eq, beq_iff_eq] at ho
      obtain ⟨⟨hj, hr⟩, ho⟩ := ho
      refine wpAnyB_still (fuel := phLen r last + 1) hw0 hs hQ (fun a' ha => ?_) is listed a hg h
      refine ⟨fun h0 => (by rw [hr] at h0; cases h0), fun i hi => ?_⟩
      rw [hr] at hi
      obtain rfl : i = j := by simpa using hi
      exact wpOp_mono (fun a'' w'' h' => ⟨h'.1, ih _ a'' w'' h'.1 ho h'.2⟩) (wpOp_one hj ha)
/-- THE RULE: the blocks 'bs' stay; by phases that the kernel checks -/
theorem wp_region_phB {P : Program} {id : Nat} {Q : Exit → Act → World → Prop} {a : Act} {w : World} {l : List Oper} (bs : List Nat) (ph : List (List Nat × Nat)) (last : List Nat) (hm : P.follows .mixedOrders = true)
    (hc : (Region.noSelect l.toArray && decide (phLen ph last = l.length) && okPh .any l (Array.replicate l.length false) ph last) = true) (hQ : ∀ c a w d v, Q (.panic c) (a.put d v) w → Q (.panic c) a w)
    (h : wpPhB P l Q bs w ph last a w.drew) : (Code.region id l.toArray true).wp P Q a w := by
  simp only [Bool.and_eq_true, decide_eq_true_eq] at hc
  obtain ⟨⟨hs, hl⟩, ho⟩ := hc
  refine wp_region_any hm (wpAny_of_held _ _ _ _ (S := SameB bs w) ?_)
  have := wpAnyB_ph (P := P) (md := .any) (w0 := w) (bs := bs) hs hQ last ph _ a w.drew (SameB.refl bs w).drew ho h
  rw [hl] at this
  simpa using this
end Go.Proofs.Ytbkmnoedhilopaa
