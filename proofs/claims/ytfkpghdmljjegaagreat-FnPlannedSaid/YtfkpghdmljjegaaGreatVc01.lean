/-
  A region that draws its order and holds loads beside calls that make memory: what only reads is taken first, the rest is forced by the text's own dependencies. No function of the program is named here. The reference's source of numbers: l01From and l01Next. What is drawn is some number below a bound. The reference's source of numbers is made of the code. append of one structure, and of a whole slice, onto a slice of the call's own. No function of the program is named here.
-/
import Derived.Test.YtfkpghdmljjegaaGreatVc00
import Derived.OrdersHeld
import Derived.StillTail
import Derived.Laws.AppendOwn
import Derived.Lib.AppendZeros
namespace Go.Proofs.YtfkpghdmljjegaaGreat
open Go.RowKit

section
variable {P : Program} {ops : Array Oper} {Q : Exit → Act → World → Prop} {md : Region.Mode}
/-- whatever order is picked from here on, and no operation turns what was there -/
def wpAnyE (P : Program) (md : Region.Mode) (ops : Array Oper) (Q : Exit → Act → World → Prop) : Nat → Array Bool → Act → World → Prop
  | 0, listed, a, w => Region.ready md ops listed = [] ∧ Q .normal a w
  | fuel + 1, listed, a, w =>
    (Region.ready md ops listed = [] → Q .normal a w) ∧
    ∀ i ∈ Region.ready md ops listed, wpOp P ops Q i (fun a' w' => Ext w w' ∧ wpAnyE P md ops Q fuel (listed.setIfInBounds i true) a' w') a w
theorem wpAny_of_E : ∀ (fuel : Nat) (listed : Array Bool) (a : Act) (w : World), wpAnyE P md ops Q fuel listed a w → wpAny P md ops Q fuel listed a w
  | 0, _, _, _, h => h
  | fuel + 1, _, _, _, h => ⟨h.1, fun i hi => wpOp_mono (fun a' w' h' => wpAny_of_E fuel _ a' w' h'.2) (h.2 i hi)⟩
theorem wpAnyE_first {i : Nat} {oi : Oper} {v : Value} {w0 : World} (hi : ops[i]? = some oi) (hsel : ∀ (j : Nat) (o : Oper) cs b, ops[j]? = some o → o.op ≠ .select cs b)
    (hQ : ∀ c a w, Q (.panic c) (a.put oi.dst v) w → Q (.panic c) a w) :
    ∀ (fuel : Nat) (listed : Array Bool) (a : Act) (w : World),
      (∀ j oj, ops[j]? = some oj → j ≠ i → listed.getD j true = false → (∀ e ∈ oj.after, Region.binds md e = true → e.on ≠ i) → oi.apart ops oj = true) →
      i ∈ Region.ready md ops listed → YieldsIf P ops (Ext w0) oi v a → Ext w0 w →
      wpAnyE P md ops Q fuel (listed.setIfInBounds i true) (a.put oi.dst v) w → wpAnyE P md ops Q (fuel + 1) listed a w := by
  intro fuel
  induction fuel with
  | zero =>
    intro listed a w _ hr hy hS H
    refine ⟨fun h => (by rw [h] at hr; cases hr), fun j hj => ?_⟩
    by_cases hji : j = i
    · subst hji; exact hy.wpOp hi hS ⟨Ext.refl _, H⟩
    · have := ready_mono hj hji
      rw [H.1] at this
      cases this
  | succ fuel ih =>
    intro listed a w hfree hr hy hS H
    refine ⟨fun h => (by rw [h] at hr; cases hr), fun j hj => ?_⟩
    by_cases hji : j = i
    · subst hji; exact hy.wpOp hi hS ⟨Ext.refl _, H⟩
    · have h1 := H.2 j (ready_mono hj hji)
      obtain ⟨hjun, oj, hoj, hall⟩ := mem_ready.1 hj
      have hnot : ∀ e ∈ oj.after, Region.binds md e = true → e.on ≠ i := fun e he hb heq => by
        have h1 := hall e he hb
        have h0 := (mem_ready.1 hr).1
        rw [heq] at h1
        rcases Nat.lt_or_ge i listed.size with h' | h'
        · simp [h'] at h0 h1; rw [h0] at h1; cases h1
        · simp [Array.getElem?_eq_none h'] at h1
      have h2 := wpOp_putIf hoj (hfree j oj hoj hji hjun hnot) (fun cs b => hsel i oi cs b hi) (fun cs b => hsel j oj cs b hoj) hQ hy h1
      have hfree' : ∀ k ok, ops[k]? = some ok → k ≠ i → (listed.setIfInBounds j true).getD k true = false →
          (∀ e ∈ ok.after, Region.binds md e = true → e.on ≠ i) → oi.apart ops ok = true := fun k ok hk hki hun hno => by
        refine hfree k ok hk hki ?_ hno
        by_cases hjk : j = k
        · subst hjk; exact hjun
        · rw [getD_set_ne true hjk] at hun; exact hun
      refine wpOp_mono (fun a' w' h3 => ⟨h3.2.1, ih (listed.setIfInBounds j true) a' w' hfree' (ready_mono hr (Ne.symm hji)) h3.1 (hS.trans h3.2.1) ?_⟩) h2
      rw [Array.setIfInBounds_comm _ _ hji]
      exact h3.2.2

/-- operations that hand back a value and leave the world alone, or stop -/
def stillOp : Op → Bool
  | .move _ | .assign _ | .pick .. | .load .. | .binOp .. | .unOp .. | .convert .. | .fieldAddr .. | .field .. | .indexAddr .. | .index .. | .extract .. | .slice .. | .build .. => true
  | .call c => match c.callee with | .builtin b => (match b with | .len | .cap | .min | .max => true | _ => false) | _ => false
  | _ => false
theorem run_val {α : Type} {s : Sem α} {g : α → Value} {w w' : World} {n : Next} (h : (do let x ← s; pure (Next.value (g x)) : Sem Next).run P w = .ok n w') : ∃ v, n = .value v := by
  simp only [Sem.run_bind, Sem.run_pure] at h
  cases hs : s.run P w with
  | ok v w1 => rw [hs] at h; simp at h; exact ⟨g v, h.1.symm⟩
  | halt x w1 => rw [hs] at h; simp at h
theorem still_value {o : Oper} (ho : stillOp o.op = true) {ρ : Operand → Value} {w w' : World} {n : Next} (h : (execOp ρ o).run P w = .ok n w') : ∃ v, n = .value v := by
  unfold execOp at h
  cases hop : o.op <;> rw [hop] at h ho <;> simp only [stillOp, Bool.false_eq_true] at ho
  case call c =>
    obtain ⟨callee, args, argTypes⟩ := c
    cases callee with
    | builtin b =>
      cases b <;> simp only [Bool.false_eq_true] at ho
      all_goals
        simp only [resolve, invoke, builtin, Sem.run_bind, Sem.run_pure, Result.andThen_ok] at h
        exact run_val (P := P) (g := id) (by simpa only [Sem.run_bind, Sem.run_pure, id] using h)
    | invoke r m => simp only [Bool.false_eq_true] at ho
    | value f => simp only [Bool.false_eq_true] at ho
  case pick => exact run_val h
  all_goals first
    | exact run_val (g := id) h
    | (simp only [Sem.run_pure, Result.ok.injEq] at h; exact ⟨_, h.1.symm⟩)
end

/-- the class of worlds of a region that reads: what has grown from w -/
abbrev Grow (w : World) : World → Prop := fun w' => ∃ x, w' = later w x
theorem yields_of_quiet {P : Program} {ops : Array Oper} {o : Oper} (ho : stillOp o.op = true) {a : Act} {w : World} {v : Value} (hw : Region.wanted o (yielded ops a.tmps) = true)
    (h : ∀ w', Grow w w' → o.quietAt P a (Grow w) w' v) : YieldsIf P ops (Ext w) o v a := by
  refine .inl ⟨hw, fun w' hx => ?_⟩
  have h1 := h w' ⟨w', (later_of hx).symm⟩
  unfold Oper.quietAt at h1
  cases hr : (execOp a.eval o).run P w' with
  | halt x w1 => rw [hr] at h1; simp [Oper.quietUpon] at h1
  | ok n w1 =>
    obtain ⟨u, rfl⟩ := still_value ho hr
    rw [hr] at h1
    simp only [Oper.quietUpon] at h1
    rw [h1.1, h1.2]

def nthO : List Oper → Nat → Oper
  | [], _ => default
  | o :: _, 0 => o
  | _ :: l, n + 1 => nthO l n
theorem nthO_some {l : List Oper} {i : Nat} (h : i < l.length) : l[i]? = some (nthO l i) := by
  induction l generalizing i with
  | nil => simp at h
  | cons o l ih =>
    cases i with
    | zero => rfl
    | succ i => simp only [List.getElem?_cons_succ, nthO]; exact ih (by simpa using h)
def pickL (l : List Oper) : List Nat → List Oper
  | [] => []
  | i :: is => nthO l i :: pickL l is
/-- the operations 'is' may be taken first, one behind the other -/
def goStill (md : Region.Mode) (l : List Oper) : Array Bool → List Nat → Option (Array Bool)
  | listed, [] => some listed
  | listed, i :: is => if decide (i < l.length) && stillOp (nthO l i).op && Region.free md l.toArray listed i && (Region.ready md l.toArray listed).contains i then goStill md l (listed.setIfInBounds i true) is else none
theorem wpAnyE_still {P : Program} {md : Region.Mode} {l : List Oper} {Q : Exit → Act → World → Prop} {w : World} (hs : Region.noSelect l.toArray = true) (hQ : ∀ c a w d v, Q (.panic c) (a.put d v) w → Q (.panic c) a w) {fuel : Nat} {listed' : Array Bool} {K : Act → Prop}
    (hK : ∀ a, K a → wpAnyE P md l.toArray Q fuel listed' a w) : ∀ (is : List Nat) (listed : Array Bool) (a : Act), goStill md l listed is = some listed' → wpQuiet P l.toArray (Grow w) K (pickL l is) a →
      wpAnyE P md l.toArray Q (fuel + is.length) listed a w := by
  intro is
  induction is with
  | nil =>
    intro listed a hg h
    simp only [goStill, Option.some.injEq] at hg
    subst hg
    exact hK a h
  | cons i is ih =>
    intro listed a hg h
    unfold goStill at hg
    split at hg
    · rename_i hc
      simp only [Bool.and_eq_true, decide_eq_true_eq] at hc
      obtain ⟨⟨⟨h1, h2⟩, h3⟩, h4⟩ := hc
      have hi : l.toArray[i]? = some (nthO l i) := by simpa using nthO_some h1
      simp only [pickL, wpQuiet] at h
      by_cases hw : Region.wanted (nthO l i) (yielded l.toArray a.tmps) = true
      · rw [if_pos hw] at h
        obtain ⟨v, hv, hn⟩ := h
        exact wpAnyE_first hi (Region.noSelect_spec hs) (fun c a w => hQ c a w _ _) (fuel + is.length) listed a w (Region.free_spec hi h3) (by simpa using h4) (yields_of_quiet h2 hw hv) (Ext.refl w) (ih _ _ hg hn)
      · rw [if_neg hw] at h
        exact wpAnyE_first hi (Region.noSelect_spec hs) (fun c a w => hQ c a w _ _) (fuel + is.length) listed a w (Region.free_spec hi h3) (by simpa using h4) (.inr ⟨by simpa using hw, rfl⟩) (Ext.refl w) (ih _ _ hg h)
    · cases hg

/-- phases: what only reads, then the one operation that may come up -/
def okPh (md : Region.Mode) (l : List Oper) : Array Bool → List (List Nat × Nat) → List Nat → Bool
  | listed, [], last => match goStill md l listed last with
    | some listed' => (Region.ready md l.toArray listed').isEmpty
    | none => false
  | listed, (is, j) :: r, last => match goStill md l listed is with
    | some listed' => decide (j < l.length) && (Region.ready md l.toArray listed' == [j]) && okPh md l (listed'.setIfInBounds j true) r last
    | none => false
def phLen : List (List Nat × Nat) → List Nat → Nat
  | [], last => last.length
  | (is, _) :: r, last => phLen r last + 1 + is.length
/-- what is asked of the phases -/
def wpPh (P : Program) (l : List Oper) (Q : Exit → Act → World → Prop) : List (List Nat × Nat) → List Nat → Act → World → Prop
  | [], last, a, w => wpQuiet P l.toArray (fun w' => ∃ x, w' = later w x) (fun a' => Q .normal a' w) (pickL l last) a
  | (is, j) :: r, last, a, w => wpQuiet P l.toArray (fun w' => ∃ x, w' = later w x) (fun a' => wpList P l.toArray (Exit.then (fun a'' w'' => Ext w w'' ∧ wpPh P l Q r last a'' w'') Q) [nthO l j] a' w) (pickL l is) a
theorem wp_then {P : Program} {o : Oper} {a : Act} {w : World} {K : Act → World → Prop} {Q : Exit → Act → World → Prop} (h : o.wp P a w K (Exit.then K Q)) : o.wp P a w K Q := by
  unfold Oper.wp at *
  generalize (execOp a.eval o).run P w = r at *
  cases r with
  | ok n w' =>
    cases n <;> simp only [Oper.upon] at h ⊢ <;> try exact h
  | halt x w' => cases x <;> simp only [Oper.upon] at h ⊢; exact h
theorem wpOp_one {P : Program} {l : List Oper} {Q : Exit → Act → World → Prop} {j : Nat} {K : Act → World → Prop} {a : Act} {w : World} (hj : j < l.length) (h : wpList P l.toArray (Exit.then K Q) [nthO l j] a w) : wpOp P l.toArray Q j K a w := by
  have hi : l.toArray[j]? = some (nthO l j) := by simpa using nthO_some hj
  unfold wpOp
  simp only [hi]
  unfold wpList at h
  split
  · rename_i hw
    rw [if_pos hw] at h
    rcases h with h | ⟨h1, h2⟩
    · exact .inl (wp_then h)
    · exact .inr ⟨h1, h2⟩
  · rename_i hw
    rw [if_neg hw] at h
    exact h
theorem wpAnyE_ph {P : Program} {md : Region.Mode} {l : List Oper} {Q : Exit → Act → World → Prop} (hs : Region.noSelect l.toArray = true) (hQ : ∀ c a w d v, Q (.panic c) (a.put d v) w → Q (.panic c) a w) (last : List Nat) :
    ∀ (ph : List (List Nat × Nat)) (listed : Array Bool) (a : Act) (w : World), okPh md l listed ph last = true → wpPh P l Q ph last a w → wpAnyE P md l.toArray Q (phLen ph last) listed a w := by
  intro ph
  induction ph with
  | nil =>
    intro listed a w ho h
    unfold okPh at ho
    cases hg : goStill md l listed last with
    | none => rw [hg] at ho; simp at ho
    | some listed' =>
      rw [hg] at ho
      have he : Region.ready md l.toArray listed' = [] := by simpa using ho
      have := wpAnyE_still (fuel := 0) hs hQ (K := fun a' => Q .normal a' w) (fun a' ha => ⟨he, ha⟩) last listed a hg h
      simpa [phLen] using this
  | cons p r ih =>
    obtain ⟨is, j⟩ := p
    intro listed a w ho h
    unfold okPh at ho
    cases hg : goStill md l listed is with
    | none => rw [hg] at ho; simp at ho
    | some listed' =>
      rw [hg] at ho
      simp only [Bool.and_eq_true, decide_eq_true_eq, beq_iff_eq] at ho
      obtain ⟨⟨hj, hr⟩, ho⟩ := ho
      refine wpAnyE_still (fuel := phLen r last + 1) hs hQ (fun a' ha => ?_) is listed a hg h
      refine ⟨fun h0 => (by rw [hr] at h0; cases h0), fun i hi => ?_⟩
      rw [hr] at hi
      obtain rfl : i = j := by simpa using hi
      exact wpOp_mono (fun a'' w'' h' => ⟨h'.1, ih _ a'' w'' ho h'.2⟩) (wpOp_one hj ha)
/-- THE RULE: a region that draws its order, by phases that the kernel checks -/
theorem wp_region_ph {P : Program} {id : Nat} {Q : Exit → Act → World → Prop} {a : Act} {w : World} {l : List Oper} (ph : List (List Nat × Nat)) (last : List Nat) (hm : P.follows .mixedOrders = true)
    (hc : (Region.noSelect l.toArray && decide (phLen ph last = l.length) && okPh .any l (Array.replicate l.length false) ph last) = true) (hQ : ∀ c a w d v, Q (.panic c) (a.put d v) w → Q (.panic c) a w)
    (h : wpPh P l Q ph last a w.drew) : (Code.region id l.toArray true).wp P Q a w := by
  simp only [Bool.and_eq_true, decide_eq_true_eq] at hc
  obtain ⟨⟨hs, hl⟩, ho⟩ := hc
  refine wp_region_any hm (wpAny_of_E _ _ _ _ ?_)
  have := wpAnyE_ph (P := P) (md := .any) hs hQ last ph _ a w.drew ho h
  rw [hl] at this
  simpa using this
/-- what only reads, then the rest in the order of the text: for a store, an append, an allocation behind loads -/
theorem still_of_quiet {P : Program} {ops : Array Oper} {W : World} {Q : Act → Prop} : ∀ (l : List Oper) (a : Act), wpQuiet P ops (fun w' => w' = W) Q l a → wpStill P ops W Q l a := by
  intro l
  induction l with
  | nil => intro a h; exact h
  | cons o rest ih =>
    intro a h
    unfold wpQuiet at h
    unfold wpStill
    split
    · rename_i hw
      rw [if_pos hw] at h
      obtain ⟨v, h1, h2⟩ := h
      have h3 := h1 W rfl
      unfold Oper.quietAt at h3
      unfold Oper.still
      generalize (execOp a.eval o).run P W = r at *
      cases r with
      | ok n w' =>
        cases n <;> simp only [Oper.quietUpon] at h3 <;> simp only [Oper.stillUpon]
        case value u => exact ⟨h3.1, by rw [h3.2]; exact ih _ h2⟩
        case skip => exact ⟨h3.1, by rw [← h3.2]; exact ih _ h2⟩
        case enter f args => exact ⟨h3.1, v, h3.2, ih _ h2⟩
      | halt x w' => simp only [Oper.quietUpon] at h3
    · rename_i hw
      rw [if_neg hw] at h
      exact ih _ h
theorem wp_region_tail {P : Program} {id : Nat} {Q : Exit → Act → World → Prop} {a : Act} {w : World} {l : List Oper} (n : Nat) (hm : P.follows .mixedOrders = true) (hB : Region.lexTailB .any l.toArray n = true)
    (h : wpQuiet P l.toArray (fun w' => w' = w.drew) (fun a' => wpList P l.toArray Q (l.drop n) a' w.drew) (l.take n) a) : (Code.region id l.toArray true).wp P Q a w :=
  wp_region_still_tail n hm hB (still_of_quiet _ _ h)
end Go.Proofs.YtfkpghdmljjegaaGreat

namespace Go.Proofs.YtfkpghdmljjegaaGreat
open Go.RowKit

def byteC (z : Int) : List Value := [.int .u8 z]
/-- a source behind a pointer -/
def SrcAt (w : World) (a : Nat) (A : Option Addr) (n c : Nat) : Prop :=
  ∃ at_ seed : Int, Row w a 213 [.slice A n c, .int .i64 at_, .int .i64 seed] ∧ 0 ≤ at_ ∧ at_ ≤ n ∧ 0 ≤ seed ∧ seed < 2147483647
/-- a number below m (0 where m is 1 or less) -/
def Drawn (m : Int) (a : Nat) (A : Option Addr) (n c : Nat) (w : World) (e : Ending) (w' : World) : Prop :=
  ∃ x : Int, e = .returned (.int .i64 x) ∧ 0 ≤ x ∧ (x < m ∨ x = 0) ∧ SrcAt w' a A n c ∧ Only a w w'
theorem Drawn.of {m x : Int} {a : Nat} {A : Option Addr} {n c : Nat} {w w' : World} (h0 : 0 ≤ x) (h1 : x < m ∨ x = 0) (hs : SrcAt w' a A n c) (hk : Only a w w') : Drawn m a A n c w (.returned (.int .i64 x)) w' := ⟨x, rfl, h0, h1, hs, hk⟩

set_option maxHeartbeats 2000000 in
theorem c_l01Next (a : Nat) (m : Int) (A : Option Addr) (n c : Nat) (bs : List Int) (w0 w : World) (hbs : SliceOf w0 1 byteC A n c bs) (hbd : ∀ z ∈ bs, 0 ≤ z ∧ z ≤ 255) (hx0 : Ext w0 w) (ha : w0.heap.size ≤ a) (hsrc : SrcAt w a A n c) (hn : n ≤ 1048576) (hm1 : -9000000000000000000 ≤ m) (hm2 : m ≤ 9000000000000000000) :
    Calls Tryz.prog 89 #[.pointer (some ⟨a, 0, none⟩), .int .i64 m] w (Drawn m a A n c w) := by
  by_cases hm : m ≤ 1
  · go_enter Tryz.func89, Tryz.ntmps89
    go_wp2_with fail
    go_ret
    exact Drawn.of (by omega) (.inr rfl) hsrc (Only.refl _ _)
  obtain ⟨t, seed, hrow, ht0, ht1, hs0, hs1⟩ := hsrc
  obtain ⟨t, rfl⟩ := Int.eq_ofNat_of_zero_le ht0
  have c0 := hrow.cell 0
  have c1 := hrow.cell 1
  have c2 := hrow.cell 2
  simp at c0 c1 c2
  have f1 := hrow.frozen 1
  have f2 := hrow.frozen 2
  have hal := hrow.lt
  have hsd : 0 ≤ (seed * 48271 + 7) % 2147483647 ∧ (seed * 48271 + 7) % 2147483647 < 2147483647 := by omega
  have hrow2 := hrow.set_ 2 (.int .i64 ((seed * 48271 + 7) % 2147483647))
  simp at hrow2
  have hmod : ∀ x : Int, 0 ≤ x → 0 ≤ x % m ∧ x % m < m := fun x _ => ⟨Int.emod_nonneg _ (by omega), Int.emod_lt_of_pos _ (by omega)⟩
  have HM := hide hmod
  clear hmod
  by_cases hlt : t < n
  · obtain ⟨b, off, z, rfl, hb, hzk, hc⟩ := hbs.get hlt
    have hz : w.cell? ⟨b, off + t, none⟩ = some (.int .u8 z) := by
      rw [hx0.cell _ _ hb]; simpa using hc 0 _ rfl
    obtain ⟨hz0, hz1⟩ := hbd z (List.mem_of_getElem? hzk)
    have hba : b ≠ a := by omega
    have hbl : b < w.heap.size := by have := hx0.size; omega
    have e1 : IntKind.i64.wrap z = z := IntWalk.i64_in _ (by omega)
    have hlt' : decide (t < n) = true := by simpa using hlt
    clear hc hzk hbd
    have hrow3 := hrow2.set_ 1 (.int .i64 ((t : Int) + 1))
    simp at hrow3
    have e2 : IntKind.i64.wrap ((seed * 48271 + 7) % 2147483647 / 19 + z) = (seed * 48271 + 7) % 2147483647 / 19 + z := IntWalk.i64_in _ (by omega)
    have hfin : ∀ (x : Int) (k k' : Nat), 0 ≤ x → Drawn m a (some ⟨b, off, none⟩) n c w (.returned (.int .i64 (x % m))) ((((w.setCell ⟨a, 2, none⟩ (.int .i64 ((seed * 48271 + 7) % 2147483647))).drewN k').setCell ⟨a, 1, none⟩ (.int .i64 ((t : Int) + 1))).drewN k) := by
      intro x k k' hx
      obtain ⟨r0, r1⟩ := HM.out x hx
      exact Drawn.of r0 (.inl r1) ⟨_, _, hrow3, by omega, by omega, hsd.1, hsd.2⟩ (((((Only.refl a w).setCell (p := ⟨a, 2, none⟩) rfl _).drewN _).setCell (p := ⟨a, 1, none⟩) rfl _).drewN _)
    have hfin0 : ∀ (x : Int) (k' : Nat), 0 ≤ x → Drawn m a (some ⟨b, off, none⟩) n c w (.returned (.int .i64 (x % m))) (((w.setCell ⟨a, 2, none⟩ (.int .i64 ((seed * 48271 + 7) % 2147483647))).drewN k').setCell ⟨a, 1, none⟩ (.int .i64 ((t : Int) + 1))) := fun x k' hx => hfin x 0 k' hx
    have HF0 := hide hfin0
    clear hfin0
    have HF := hide hfin
    clear hfin
    have hw : (m ≤ 256 ∧ (((t : Int) + 1) % 2 == 0) = true) ∨ decide (m ≤ 256) = false ∨ (m ≤ 256 ∧ (((t : Int) + 1) % 2 == 0) = false) := by
      by_cases h : m ≤ 256
      · cases h2 : (((t : Int) + 1) % 2 == 0)
        · exact .inr (.inr ⟨h, rfl⟩)
        · exact .inl ⟨h, rfl⟩
      · right; left; simpa using h
    rcases hw with ⟨g1, g2⟩ | g1 | ⟨g1, g2⟩
    · have e3 : IntKind.i64.wrap ((t : Int) + 1 - 1) = (t : Int) + 1 - 1 := IntWalk.i64_in _ (by omega)
      have e4 : (0 : Int) ≤ (t : Int) + 1 - 1 := by omega
      have e5 : ((t : Int) + 1 - 1).toNat = t := by omega
      go_enter Tryz.func89, Tryz.ntmps89
      go_wp2_with fail
      go_quiet (fail)
      go_wp2_with fail
      go_quiet (fail)
      go_wp2_with fail
      go_quiet (fail)
      go_wp2_with fail
      go_ret
      first | exact HF.out z _ _ hz0 | exact HF0.out _ _ (by omega)
    · go_enter Tryz.func89, Tryz.ntmps89
      go_wp2_with fail
      go_quiet (fail)
      go_wp2_with fail
      go_quiet (fail)
      go_wp2_with fail
      go_ret
      first | exact HF.out z _ _ hz0 | exact HF0.out _ _ (by omega)
    · go_enter Tryz.func89, Tryz.ntmps89
      go_wp2_with fail
      go_quiet (fail)
      go_wp2_with fail
      go_quiet (fail)
      go_wp2_with fail
      go_ret
      first | exact HF.out z _ _ hz0 | exact HF0.out _ _ (by omega)
  · have hlt' : decide (t < n) = false := by simpa using hlt
    go_enter Tryz.func89, Tryz.ntmps89
    go_wp2_with fail
    go_quiet (fail)
    go_wp2_with fail
    go_ret
    obtain ⟨r0, r1⟩ := HM.out ((seed * 48271 + 7) % 2147483647 / 19) (by omega)
    exact Drawn.of r0 (.inl r1) ⟨_, _, hrow2, by omega, by omega, hsd.1, hsd.2⟩ (((Only.refl a w).setCell (p := ⟨a, 2, none⟩) rfl _).drewN _)

end Go.Proofs.YtfkpghdmljjegaaGreat

namespace Go.Proofs.YtfkpghdmljjegaaGreat
open Go.RowKit

/-- a new source -/
def NewSrc (A : Option Addr) (n c : Nat) (w : World) (e : Ending) (w' : World) : Prop :=
  ∃ a, e = .returned (.pointer (some ⟨a, 0, none⟩)) ∧ w.heap.size ≤ a ∧ a < w'.heap.size ∧ SrcAt w' a A n c ∧ Ext w w'
theorem NewSrc.of {A : Option Addr} {n c a : Nat} {w w' : World} (h0 : w.heap.size ≤ a) (h1 : a < w'.heap.size) (hs : SrcAt w' a A n c) (hx : Ext w w') : NewSrc A n c w (.returned (.pointer (some ⟨a, 0, none⟩))) w' := ⟨a, rfl, h0, h1, hs, hx⟩

set_option maxHeartbeats 2000000 in
theorem c_l01From (A : Option Addr) (n c : Nat) (bs : List Int) (w : World) (hbs : SliceOf w 1 byteC A n c bs) (hbd : ∀ z ∈ bs, 0 ≤ z ∧ z ≤ 255) :
    Calls Tryz.prog 88 #[.slice A n c] w (NewSrc A n c w) := by
  have hm := hbs.max
  have hcap := hbs.cap
  have hR0 := Row.new w 213 [.slice A n c, .int .i64 0, .int .i64 50311]
  go_enter Tryz.func88, Tryz.ntmps88
  go_wp2_with fail
  go_loopw [4] (fun i wr => ∃ (k : Nat) (s : Int), k ≤ n ∧ i = .int .i64 k ∧ Row wr w.heap.size 213 [.slice A n c, .int .i64 0, .int .i64 s] ∧ 0 ≤ s ∧ s < 2147483647 ∧ Ext w wr) (fun i _ => n - (intOf i).toNat)
  case atStart => exact ⟨0, 50311, Nat.zero_le _, rfl, hR0, by omega, by omega, Ext.alloc _ _⟩
  case round =>
    obtain ⟨k, s, hk, rfl, hrow, hs0, hs1, hx⟩ := hrel
    clear hR0
    have hgs := hrow.lt
    have hfin : NewSrc A n c w (.returned (.pointer (some ⟨w.heap.size, 0, none⟩))) wr := NewSrc.of (Nat.le_refl _) hgs ⟨0, s, hrow, by omega, by omega, hs0, hs1⟩ hx
    by_cases hlt : k < n
    · by_cases h64 : k < 64
      · obtain ⟨b, off, z, rfl, hb, hzk, hc⟩ := hbs.get hlt
        have hz : wr.cell? ⟨b, off + k, none⟩ = some (.int .u8 z) := by
          rw [hx.cell _ _ hb]; simpa using hc 0 _ rfl
        obtain ⟨hz0, hz1⟩ := hbd z (List.mem_of_getElem? hzk)
        have c2 := hrow.cell 2
        simp at c2
        have f2 := hrow.frozen 2
        have hrow2 := hrow.set_ 2 (.int .i64 ((s * 41 + z) % 2147483647))
        simp at hrow2
        have e1 : IntKind.i64.wrap z = z := IntWalk.i64_in _ (by omega)
        clear hc hzk hbd hfin
        go_wp2_with fail
        refine wp_region_tail 15 (by kernel_rfl) (by kernel_rfl) ?_
        simp only [List.take_succ_cons, List.take_zero, List.drop_succ_cons, List.drop_zero]
        repeat (go_big_quiet_step (fail))
        refine wpQuiet_nil ?_
        go_wp2_with fail
        go_round
        case rel =>
          refine ⟨k + 1, _, by omega, by go_num, hrow2, by omega, by omega, ?_⟩
          exact Ext.setCell (Ext.drewN hx _) (Nat.le_refl _) _
        case measure => simp [intOf]; omega
      · go_wp2_with fail
        go_ret
        exact hfin
    · go_wp2_with fail
      go_ret
      exact hfin

end Go.Proofs.YtfkpghdmljjegaaGreat

namespace Go.Proofs.YtfkpghdmljjegaaGreat
open Go.RowKit

/-- a slice of the call's own that append may grow: its blocks lie from base on -/
def OwnL {α : Type} (w : World) (base : Nat) (e : TypeId) (size : Nat) (f : α → List Value) (v : Value) (L : List α) : Prop := w.ownsRow base e size v L.length (L.flatMap f)
section
variable {α : Type} {w w' : World} {base : Nat} {e : TypeId} {size : Nat} {f : α → List Value} {v : Value} {L : List α}
theorem OwnL.nil_ (w : World) (base : Nat) (e : TypeId) (size : Nat) (f : α → List Value) : OwnL w base e size f (.slice none 0 0) [] := ⟨by simp, .inl ⟨rfl, rfl⟩⟩
theorem OwnL.empty (W : World) (base : Nat) (e : TypeId) (size : Nat) (f : α → List Value) (hb : base ≤ W.heap.size) : OwnL (W.alloc (.cells #[] e)) base e size f (.slice (some ⟨W.heap.size, 0, none⟩) 0 0) [] :=
  ⟨by simp, .inr ⟨W.heap.size, 0, #[], rfl, hb, heap_alloc_new W _, by simp, by simp, by simp, by simp⟩⟩
theorem OwnL.block_le (h : OwnL w base e size f v L) {k : Nat} (hk : v.ownBlock = some k) : base ≤ k := by
  rcases h.2 with ⟨rfl, _⟩ | ⟨g, cap, cur, rfl, hb, _⟩
  · simp [Value.ownBlock] at hk
  · simp [Value.ownBlock] at hk; omega
theorem OwnL.ext (h : OwnL w base e size f v L) (hx : Ext w w') : OwnL w' base e size f v L := by
  obtain ⟨h1, h2⟩ := h
  refine ⟨h1, ?_⟩
  rcases h2 with h2 | ⟨g, cap, cur, hv, hb, hh, r⟩
  · exact .inl h2
  · refine .inr ⟨g, cap, cur, hv, hb, ?_, r⟩
    have hlt : g < w.heap.size := by
      rcases Nat.lt_or_ge g w.heap.size with hlt | hge
      · exact hlt
      · rw [Array.getElem?_eq_none hge] at hh; cases hh
    exact (hx.block g hlt).trans hh
theorem OwnL.form (h : OwnL w base e size f v L) : ∃ A c, v = .slice A L.length c ∧ L.length ≤ c ∧ c ≤ 9223372036854775807 := by
  rcases h.2 with ⟨rfl, hn⟩ | ⟨g, cap, cur, rfl, _, _, hnc, hcm, _⟩
  · exact ⟨none, 0, by rw [hn], by omega, by omega⟩
  · exact ⟨_, cap, rfl, hnc, hcm⟩
theorem OwnL.own (h : OwnL w base e size f v L) (hf : ∀ x, (f x).length = size) (hs : 0 < size) :
    ∃ A c g, v = .slice A L.length c ∧ base ≤ g ∧ L.length ≤ c ∧ c ≤ 9223372036854775807 ∧ OwnS w g e f A L.length L := by
  obtain ⟨A, c, g, h1, h2, h3, h4, h5, _⟩ := OwnS.of_owns hf hs h rfl
  exact ⟨A, c, g, h1, h2, h3, h4, h5⟩
end

section
variable {P : Program}
theorem wpList_append_one {α : Type} {ops : Array Oper} {rest : List Oper} {o : Oper} {a : Act} {Q : Exit → Act → World → Prop} {w : World} (hgd : o.guard = none) (s x : Operand) (t : TypeId)
    (ho : o.op = .call { callee := .builtin .append, args := #[s, x], argTypes := #[t, t] }) (base : Nat) (e : TypeId) (z : Value) (size bytes : Nat) (ht : P.underlying t = some (.slice e))
    (hi : (P.info? e).map (fun i => (i.zero, i.size, i.bytes)) = some (some z, size, bytes)) (hzs : z.cells.size = size) (hsz : 0 < size) (f : α → List Value) (hf : ∀ y, (f y).length = size) (h1 : ∀ y, ∀ u ∈ f y, u.oneCell' = true)
    (v : Value) (L : List α) (hs : a.eval s = v) (hown : OwnL w base e size f v L) (W : World) (y : α) (hW : w = W.alloc (.cells (f y).toArray e)) (b : Nat) (hx : a.eval x = .slice (some ⟨b, 0, none⟩) 1 1) (hbW : b = W.heap.size)
    (hlen : L.length ≤ 1000000000) (hb : bytes ≤ 10000) (hbase : base ≤ W.heap.size)
    (h : ∀ v' w', OwnL w' base e size f v' (L ++ [y]) → (∀ w0 : World, w0.heap.size ≤ base → Ext w0 w → Ext w0 w') → wpList P ops Q rest (a.put o.dst v') w') : wpList P ops Q (o :: rest) a w := by
  subst hbW
  obtain ⟨i, hi1, hi2, hi3, hi4⟩ := info_parts hi
  have hnew : Row w W.heap.size e (f y) := by rw [hW]; exact Row.new W e (f y)
  refine wpList_append_own w hgd s x t ho base e i z size bytes ht hi1 hi2 hi3 hi4 hzs hsz v L.length (L.flatMap f) hs hown ⟨W.heap.size, 0, none⟩ 1 1 (f y) hx (by rw [hf, Nat.one_mul]) ?_ (h1 y) (by simp only [maxLen]; omega) ?_ (by rw [hW]; simp; omega) ?_
  · intro j u hu
    have hadd : (Addr.add ⟨W.heap.size, 0, none⟩ j) = ⟨W.heap.size, j, none⟩ := by unfold Addr.add; split <;> simp_all
    rw [hadd, hnew.cell]; exact hu
  · have : (L.length + 1) * bytes ≤ 1000000001 * 10000 := Nat.mul_le_mul (by omega) hb
    omega
  · intro v' w' h2 h3 _
    refine h v' w' ?_ ?_
    · unfold OwnL
      rw [List.length_append, List.length_singleton, List.flatMap_append, List.flatMap_singleton]
      exact h2
    · intro w0 hw0 hx0
      exact hx0.grown h3 (fun k hk => Nat.le_trans hw0 (hown.block_le hk))
theorem wpList_append_many {α : Type} {ops : Array Oper} {rest : List Oper} {o : Oper} {a : Act} {Q : Exit → Act → World → Prop} {w : World} (hgd : o.guard = none) (s x : Operand) (t : TypeId)
    (ho : o.op = .call { callee := .builtin .append, args := #[s, x], argTypes := #[t, t] }) (base : Nat) (e : TypeId) (z : Value) (size bytes : Nat) (ht : P.underlying t = some (.slice e))
    (hi : (P.info? e).map (fun i => (i.zero, i.size, i.bytes)) = some (some z, size, bytes)) (hzs : z.cells.size = size) (hsz : 0 < size) (f : α → List Value) (hf : ∀ y, (f y).length = size) (h1 : ∀ y, ∀ u ∈ f y, u.oneCell' = true)
    (v : Value) (L : List α) (hs : a.eval s = v) (hown : OwnL w base e size f v L) (ad : Addr) (m c : Nat) (ys : List α) (hx : a.eval x = .slice (some ad) m c) (hsrc : SliceOf w size f (some ad) m c ys)
    (hlen : L.length + m ≤ 1000000000) (hb : bytes ≤ 10000) (hbase : base ≤ w.heap.size)
    (h : ∀ v' w', OwnL w' base e size f v' (L ++ ys) → (∀ w0 : World, w0.heap.size ≤ base → Ext w0 w → Ext w0 w') → wpList P ops Q rest (a.put o.dst v') w') : wpList P ops Q (o :: rest) a w := by
  obtain ⟨i, hi1, hi2, hi3, hi4⟩ := info_parts hi
  obtain ⟨hm, hc1, hc2, hc3⟩ := hsrc
  refine wpList_append_own w hgd s x t ho base e i z size bytes ht hi1 hi2 hi3 hi4 hzs hsz v L.length (L.flatMap f) hs hown ad m c (ys.flatMap f) hx (by rw [flat_len hf, hm]) ?_ ?_ (by simp only [maxLen]; omega) ?_ hbase ?_
  · intro j u hu
    have hj : j < (ys.flatMap f).length := (List.getElem?_eq_some_iff.1 hu).1
    rw [flat_len hf] at hj
    have hm0 : 0 < m := by
      rcases Nat.eq_zero_or_pos m with h0 | h0
      · rw [← hm, h0] at hj; omega
      · exact h0
    obtain ⟨b, off, hA, _, hc⟩ := hc3 hm0
    injection hA with hA
    subst hA
    have hadd : (Addr.add ⟨b, off, none⟩ j) = ⟨b, off + j, none⟩ := by unfold Addr.add; split <;> simp_all
    rw [hadd]
    have hq : j / size < ys.length := by
      apply Nat.div_lt_of_lt_mul; rw [Nat.mul_comm]; exact hj
    have hy : ys[j / size]? = some ys[j / size] := List.getElem?_eq_getElem hq
    have hr : j % size < (f ys[j / size]).length := by rw [hf]; exact Nat.mod_lt _ hsz
    have hu' : (f ys[j / size])[j % size]? = some ((f ys[j / size])[j % size]) := List.getElem?_eq_getElem hr
    have hfl := flat_get hf hy hu'
    have hjj : j / size * size + j % size = j := by rw [Nat.mul_comm]; exact Nat.div_add_mod j size
    rw [hjj] at hfl
    rw [hfl] at hu
    injection hu with hu
    rw [← hu]
    have := hc _ _ hy _ _ hu'
    rw [Nat.add_assoc, hjj] at this
    exact this
  · intro u hu
    obtain ⟨y, _, hy⟩ := List.mem_flatMap.1 hu
    exact h1 y u hy
  · have : (L.length + m) * bytes ≤ 1000000000 * 10000 := Nat.mul_le_mul hlen hb
    omega
  · intro v' w' h2 h3 _
    refine h v' w' ?_ ?_
    · unfold OwnL
      rw [List.length_append, List.flatMap_append, ← hm]
      exact h2
    · intro w0 hw0 hx0
      exact hx0.grown h3 (fun k hk => Nat.le_trans hw0 (hown.block_le hk))
theorem run_append_of_nil (w : World) (base : Nat) (t ty e : TypeId) (i : TypeInfo) (size : Nat) (ht : P.underlying t = some (.slice e)) (hi : P.info? e = some i)
    (v : Value) (n : Nat) (xs : List Value) (hown : w.ownsRow base e size v n xs) (c : Nat) : (Builtin.append_ #[t, t] ty #[v, .slice none 0 c]).run P w = .ok v w := by
  rcases hown.2 with ⟨rfl, rfl⟩ | ⟨g, cap, cur, rfl, _, _, hnc, _⟩
  · simp [Builtin.append_, run_underlying ht, sizeOf, typeInfo, hi, Builtin.lenOf, Builtin.firstCells]
  · simp [Builtin.append_, run_underlying ht, sizeOf, typeInfo, hi, Builtin.lenOf, Builtin.firstCells, hnc, storeCells]
theorem SliceOf.none_nil {α : Type} {w : World} {size : Nat} {f : α → List Value} {n c : Nat} {xs : List α} (h : SliceOf w size f none n c xs) : n = 0 ∧ xs = [] := by
  have hn0 : n = 0 := by
    rcases Nat.eq_zero_or_pos n with h0 | h0
    · exact h0
    · obtain ⟨_, _, hA, _⟩ := h.2.2.2 h0; cases hA
  exact ⟨hn0, List.eq_nil_of_length_eq_zero (by rw [← h.1]; exact hn0)⟩
/-- append of a whole slice, nil or not -/
theorem wpList_append_slice {α : Type} {ops : Array Oper} {rest : List Oper} {o : Oper} {a : Act} {Q : Exit → Act → World → Prop} {w : World} (hgd : o.guard = none) (s x : Operand) (t : TypeId)
    (ho : o.op = .call { callee := .builtin .append, args := #[s, x], argTypes := #[t, t] }) (base : Nat) (e : TypeId) (z : Value) (size bytes : Nat) (ht : P.underlying t = some (.slice e))
    (hi : (P.info? e).map (fun i => (i.zero, i.size, i.bytes)) = some (some z, size, bytes)) (hzs : z.cells.size = size) (hsz : 0 < size) (f : α → List Value) (hf : ∀ y, (f y).length = size) (h1 : ∀ y, ∀ u ∈ f y, u.oneCell' = true)
    (v : Value) (L : List α) (hs : a.eval s = v) (hown : OwnL w base e size f v L) (A : Option Addr) (m c : Nat) (ys : List α) (hx : a.eval x = .slice A m c) (hsrc : SliceOf w size f A m c ys)
    (hlen : L.length + m ≤ 1000000000) (hb : bytes ≤ 10000) (hbase : base ≤ w.heap.size)
    (h : ∀ v' w', OwnL w' base e size f v' (L ++ ys) → (∀ w0 : World, w0.heap.size ≤ base → Ext w0 w → Ext w0 w') → wpList P ops Q rest (a.put o.dst v') w') : wpList P ops Q (o :: rest) a w := by
  cases A with
  | some ad => exact wpList_append_many hgd s x t ho base e z size bytes ht hi hzs hsz f hf h1 v L hs hown ad m c ys hx hsrc hlen hb hbase h
  | none =>
    obtain ⟨rfl, rfl⟩ := hsrc.none_nil
    obtain ⟨i, hi1, _⟩ := info_parts hi
    refine Lib.wpList_append_run w hgd s x t t ho v (.slice none 0 c) hs hx v w (run_append_of_nil w base t o.type e i size ht hi1 v L.length (L.flatMap f) hown c) (h v w (by rw [List.append_nil]; exact hown) (fun _ _ hx0 => hx0))
end
end Go.Proofs.YtfkpghdmljjegaaGreat
