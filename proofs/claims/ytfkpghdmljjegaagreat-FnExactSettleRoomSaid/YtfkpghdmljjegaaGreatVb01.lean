/-
  A region that draws its order and holds loads beside calls that make memory: what only reads is taken first, the rest is forced by the text's own dependencies. No function of the program is named here. Contracts of the functions on slices of int64. Slices of the call's own: a block whose first cells are the slice's elements. No function of the program is named here.
-/
import Derived.Test.YtfkpghdmljjegaaGreatVb00
import Derived.OrdersHeld
import Derived.StillTail
import Derived.Laws.AppendOwn
namespace Go.Proofs.YtfkpghdmljjegaaGreat
open Go.RowKit

section
variable {P : Program} {ops : Array Oper} {Q : Exit → Act → World → Prop} {md : Region.Mode}
/-- whatever order is picked from here on, and no operation turns what was there -/
def wpAnyE (P : Program) (md : Region.Mode) (ops : Array Oper) (Q : Exit → Act → World → Prop) : Nat → Array Bool → Act → World → Prop
  | 0, listed, a, w => Region.ready md ops listed = [] ∧ Q .normal a w
  | fuel + 1, listed, a, w =>
    (Region.ready md ops listed = [] → Q .normal a w) ∧
    ∀ i ∈ Region.ready md ops listed, wpOp P ops Q i (fun a' w' => Ext w w' ∧ wpAnyE P md ops Q fuel (listed.setIfInBounds i true) a' w') a w
theorem wpAny_of_E : ∀ (fuel : Nat) (listed : Array Bool) (a : Act) (w : World), wpAnyE P md ops Q fuel listed a w → wpAny P md ops Q fuel listed a w
  | 0, _, _, _, h => h
  | fuel + 1, _, _, _, h => ⟨h.1, fun i hi => wpOp_mono (fun a' w' h' => wpAny_of_E fuel _ a' w' h'.2) (h.2 i hi)⟩
theorem wpAnyE_first {i : Nat} {oi : Oper} {v : Value} {w0 : World} (hi : ops[i]? = some oi) (hsel : ∀ (j : Nat) (o : Oper) cs b, ops[j]? = some o → o.op ≠ .select cs b)
    (hQ : ∀ c a w, Q (.panic c) (a.put oi.dst v) w → Q (.panic c) a w) :
    ∀ (fuel : Nat) (listed : Array Bool) (a : Act) (w : World),
      (∀ j oj, ops[j]? = some oj → j ≠ i → listed.getD j true = false → (∀ e ∈ oj.after, Region.binds md e = true → e.on ≠ i) → oi.apart ops oj = true) →
      i ∈ Region.ready md ops listed → YieldsIf P ops (Ext w0) oi v a → Ext w0 w →
      wpAnyE P md ops Q fuel (listed.setIfInBounds i true) (a.put oi.dst v) w → wpAnyE P md ops Q (fuel + 1) listed a w := by
  intro fuel
  induction fuel with
  | zero =>
    intro listed a w _ hr hy hS H
    refine ⟨fun h => (by rw [h] at hr; cases hr), fun j hj => ?_⟩
    by_cases hji : j = i
    · subst hji; exact hy.wpOp hi hS ⟨Ext.refl _, H⟩
    · have := ready_mono hj hji
      rw [H.1] at this
      cases this
  | succ fuel ih =>
    intro listed a w hfree hr hy hS H
    refine ⟨fun h => (by rw [h] at hr; cases hr), fun j hj => ?_⟩
    by_cases hji : j = i
    · subst hji; exact hy.wpOp hi hS ⟨Ext.refl _, H⟩
    · have h1 := H.2 j (ready_mono hj hji)
      obtain ⟨hjun, oj, hoj, hall⟩ := mem_ready.1 hj
      have hnot : ∀ e ∈ oj.after, Region.binds md e = true → e.on ≠ i := fun e he hb heq => by
        have h1 := hall e he hb
        have h0 := (mem_ready.1 hr).1
        rw [heq] at h1
        rcases Nat.lt_or_ge i listed.size with h' | h'
        · simp [h'] at h0 h1; rw [h0] at h1; cases h1
        · simp [Array.getElem?_eq_none h'] at h1
      have h2 := wpOp_putIf hoj (hfree j oj hoj hji hjun hnot) (fun cs b => hsel i oi cs b hi) (fun cs b => hsel j oj cs b hoj) hQ hy h1
      have hfree' : ∀ k ok, ops[k]? = some ok → k ≠ i → (listed.setIfInBounds j true).getD k true = false →
          (∀ e ∈ ok.after, Region.binds md e = true → e.on ≠ i) → oi.apart ops ok = true := fun k ok hk hki hun hno => by
        refine hfree k ok hk hki ?_ hno
        by_cases hjk : j = k
        · subst hjk; exact hjun
        · rw [getD_set_ne true hjk] at hun; exact hun
      refine wpOp_mono (fun a' w' h3 => ⟨h3.2.1, ih (listed.setIfInBounds j true) a' w' hfree' (ready_mono hr (Ne.symm hji)) h3.1 (hS.trans h3.2.1) ?_⟩) h2
      rw [Array.setIfInBounds_comm _ _ hji]
      exact h3.2.2

/-- operations that hand back a value and leave the world alone, or stop -/
def stillOp : Op → Bool
  | .move _ | .assign _ | .pick .. | .load .. | .binOp .. | .unOp .. | .convert .. | .fieldAddr .. | .field .. | .indexAddr .. | .index .. | .extract .. | .slice .. | .build .. => true
  | .call c => match c.callee with | .builtin b => (match b with | .len | .cap | .min | .max => true | _ => false) | _ => false
  | _ => false
theorem run_val {α : Type} {s : Sem α} {g : α → Value} {w w' : World} {n : Next} (h : (do let x ← s; pure (Next.value (g x)) : Sem Next).run P w = .ok n w') : ∃ v, n = .value v := by
  simp only [Sem.run_bind, Sem.run_pure] at h
  cases hs : s.run P w with
  | ok v w1 => rw [hs] at h; simp at h; exact ⟨g v, h.1.symm⟩
  | halt x w1 => rw [hs] at h; simp at h
theorem still_value {o : Oper} (ho : stillOp o.op = true) {ρ : Operand → Value} {w w' : World} {n : Next} (h : (execOp ρ o).run P w = .ok n w') : ∃ v, n = .value v := by
  unfold execOp at h
  cases hop : o.op <;> rw [hop] at h ho <;> simp only [stillOp, Bool.false_eq_true] at ho
  case call c =>
    obtain ⟨callee, args, argTypes⟩ := c
    cases callee with
    | builtin b =>
      cases b <;> simp only [Bool.false_eq_true] at ho
      all_goals
        simp only [resolve, invoke, builtin, Sem.run_bind, Sem.run_pure, Result.andThen_ok] at h
        exact run_val (P := P) (g := id) (by simpa only [Sem.run_bind, Sem.run_pure, id] using h)
    | invoke r m => simp only [Bool.false_eq_true] at ho
    | value f => simp only [Bool.false_eq_true] at ho
  case pick => exact run_val h
  all_goals first
    | exact run_val (g := id) h
    | (simp only [Sem.run_pure, Result.ok.injEq] at h; exact ⟨_, h.1.symm⟩)
end

/-- the class of worlds of a region that reads: what has grown from w -/
abbrev Grow (w : World) : World → Prop := fun w' => ∃ x, w' = later w x
theorem yields_of_quiet {P : Program} {ops : Array Oper} {o : Oper} (ho : stillOp o.op = true) {a : Act} {w : World} {v : Value} (hw : Region.wanted o (yielded ops a.tmps) = true)
    (h : ∀ w', Grow w w' → o.quietAt P a (Grow w) w' v) : YieldsIf P ops (Ext w) o v a := by
  refine .inl ⟨hw, fun w' hx => ?_⟩
  have h1 := h w' ⟨w', (later_of hx).symm⟩
  unfold Oper.quietAt at h1
  cases hr : (execOp a.eval o).run P w' with
  | halt x w1 => rw [hr] at h1; simp [Oper.quietUpon] at h1
  | ok n w1 =>
    obtain ⟨u, rfl⟩ := still_value ho hr
    rw [hr] at h1
    simp only [Oper.quietUpon] at h1
    rw [h1.1, h1.2]

def nthO : List Oper → Nat → Oper
  | [], _ => default
  | o :: _, 0 => o
  | _ :: l, n + 1 => nthO l n
theorem nthO_some {l : List Oper} {i : Nat} (h : i < l.length) : l[i]? = some (nthO l i) := by
  induction l generalizing i with
  | nil => simp at h
  | cons o l ih =>
    cases i with
    | zero => rfl
    | succ i => simp only [List.getElem?_cons_succ, nthO]; exact ih (by simpa using h)
def pickL (l : List Oper) : List Nat → List Oper
  | [] => []
  | i :: is => nthO l i :: pickL l is
/-- the operations 'is' may be taken first, one behind the other -/
def goStill (md : Region.Mode) (l : List Oper) : Array Bool → List Nat → Option (Array Bool)
  | listed, [] => some listed
  | listed, i :: is => if decide (i < l.length) && stillOp (nthO l i).op && Region.free md l.toArray listed i && (Region.ready md l.toArray listed).contains i then goStill md l (listed.setIfInBounds i true) is else none
theorem wpAnyE_still {P : Program} {md : Region.Mode} {l : List Oper} {Q : Exit → Act → World → Prop} {w : World} (hs : Region.noSelect l.toArray = true) (hQ : ∀ c a w d v, Q (.panic c) (a.put d v) w → Q (.panic c) a w) {fuel : Nat} {listed' : Array Bool} {K : Act → Prop}
    (hK : ∀ a, K a → wpAnyE P md l.toArray Q fuel listed' a w) : ∀ (is : List Nat) (listed : Array Bool) (a : Act), goStill md l listed is = some listed' → wpQuiet P l.toArray (Grow w) K (pickL l is) a →
      wpAnyE P md l.toArray Q (fuel + is.length) listed a w := by
  intro is
  induction is with
  | nil =>
    intro listed a hg h
    simp only [goStill, Option.some.injEq] at hg
    subst hg
    exact hK a h
  | cons i is ih =>
    intro listed a hg h
    unfold goStill at hg
    split at hg
    · rename_i hc
      simp only [Bool.and_eq_true, decide_eq_true_eq] at hc
      obtain ⟨⟨⟨h1, h2⟩, h3⟩, h4⟩ := hc
      have hi : l.toArray[i]? = some (nthO l i) := by simpa using nthO_some h1
      simp only [pickL, wpQuiet] at h
      by_cases hw : Region.wanted (nthO l i) (yielded l.toArray a.tmps) = true
      · rw [if_pos hw] at h
        obtain ⟨v, hv, hn⟩ := h
        exact wpAnyE_first hi (Region.noSelect_spec hs) (fun c a w => hQ c a w _ _) (fuel + is.length) listed a w (Region.free_spec hi h3) (by simpa using h4) (yields_of_quiet h2 hw hv) (Ext.refl w) (ih _ _ hg hn)
      · rw [if_neg hw] at h
        exact wpAnyE_first hi (Region.noSelect_spec hs) (fun c a w => hQ c a w _ _) (fuel + is.length) listed a w (Region.free_spec hi h3) (by simpa using h4) (.inr ⟨by simpa using hw, rfl⟩) (Ext.refl w) (ih _ _ hg h)
    · cases hg

/-- phases: what only reads, then the one operation that may come up -/
def okPh (md : Region.Mode) (l : List Oper) : Array Bool → List (List Nat × Nat) → List Nat → Bool
  | listed, [], last => match goStill md l listed last with
    | some listed' => (Region.ready md l.toArray listed').isEmpty
    | none => false
  | listed, (is, j) :: r, last => match goStill md l listed is with
    | some listed' => decide (j < l.length) && (Region.ready md l.toArray listed' == [j]) && okPh md l (listed'.setIfInBounds j true) r last
    | none => false
def phLen : List (List Nat × Nat) → List Nat → Nat
  | [], last => last.length
  | (is, _) :: r, last => phLen r last + 1 + is.length
/-- what is asked of the phases -/
def wpPh (P : Program) (l : List Oper) (Q : Exit → Act → World → Prop) : List (List Nat × Nat) → List Nat → Act → World → Prop
  | [], last, a, w => wpQuiet P l.toArray (fun w' => ∃ x, w' = later w x) (fun a' => Q .normal a' w) (pickL l last) a
  | (is, j) :: r, last, a, w => wpQuiet P l.toArray (fun w' => ∃ x, w' = later w x) (fun a' => wpList P l.toArray (Exit.then (fun a'' w'' => Ext w w'' ∧ wpPh P l Q r last a'' w'') Q) [nthO l j] a' w) (pickL l is) a
theorem wp_then {P : Program} {o : Oper} {a : Act} {w : World} {K : Act → World → Prop} {Q : Exit → Act → World → Prop} (h : o.wp P a w K (Exit.then K Q)) : o.wp P a w K Q := by
  unfold Oper.wp at *
  generalize (execOp a.eval o).run P w = r at *
  cases r with
  | ok n w' =>
    cases n <;> simp only [Oper.upon] at h ⊢ <;> try exact h
  | halt x w' => cases x <;> simp only [Oper.upon] at h ⊢; exact h
theorem wpOp_one {P : Program} {l : List Oper} {Q : Exit → Act → World → Prop} {j : Nat} {K : Act → World → Prop} {a : Act} {w : World} (hj : j < l.length) (h : wpList P l.toArray (Exit.then K Q) [nthO l j] a w) : wpOp P l.toArray Q j K a w := by
  have hi : l.toArray[j]? = some (nthO l j) := by simpa using nthO_some hj
  unfold wpOp
  simp only [hi]
  unfold wpList at h
  split
  · rename_i hw
    rw [if_pos hw] at h
    rcases h with h | ⟨h1, h2⟩
    · exact .inl (wp_then h)
    · exact .inr ⟨h1, h2⟩
  · rename_i hw
    rw [if_neg hw] at h
    exact h
theorem wpAnyE_ph {P : Program} {md : Region.Mode} {l : List Oper} {Q : Exit → Act → World → Prop} (hs : Region.noSelect l.toArray = true) (hQ : ∀ c a w d v, Q (.panic c) (a.put d v) w → Q (.panic c) a w) (last : List Nat) :
    ∀ (ph : List (List Nat × Nat)) (listed : Array Bool) (a : Act) (w : World), okPh md l listed ph last = true → wpPh P l Q ph last a w → wpAnyE P md l.toArray Q (phLen ph last) listed a w := by
  intro ph
  induction ph with
  | nil =>
    intro listed a w ho h
    unfold okPh at ho
    cases hg : goStill md l listed last with
    | none => rw [hg] at ho; simp at ho
    | some listed' =>
      rw [hg] at ho
      have he : Region.ready md l.toArray listed' = [] := by simpa using ho
      have := wpAnyE_still (fuel := 0) hs hQ (K := fun a' => Q .normal a' w) (fun a' ha => ⟨he, ha⟩) last listed a hg h
      simpa [phLen] using this
  | cons p r ih =>
    obtain ⟨is, j⟩ := p
    intro listed a w ho h
    unfold okPh at ho
    cases hg : goStill md l listed is with
    | none => rw [hg] at ho; simp at ho
    | some listed' =>
      rw [hg] at ho
      simp only [Bool.and_eq_true, decide_eq_true_eq, beq_iff_eq] at ho
      obtain ⟨⟨hj, hr⟩, ho⟩ := ho
      refine wpAnyE_still (fuel := phLen r last + 1) hs hQ (fun a' ha => ?_) is listed a hg h
      refine ⟨fun h0 => (by rw [hr] at h0; cases h0), fun i hi => ?_⟩
      rw [hr] at hi
      obtain rfl : i = j := by simpa using hi
      exact wpOp_mono (fun a'' w'' h' => ⟨h'.1, ih _ a'' w'' ho h'.2⟩) (wpOp_one hj ha)
/-- THE RULE: a region that draws its order, by phases that the kernel checks -/
theorem wp_region_ph {P : Program} {id : Nat} {Q : Exit → Act → World → Prop} {a : Act} {w : World} {l : List Oper} (ph : List (List Nat × Nat)) (last : List Nat) (hm : P.follows .mixedOrders = true)
    (hc : (Region.noSelect l.toArray && decide (phLen ph last = l.length) && okPh .any l (Array.replicate l.length false) ph last) = true) (hQ : ∀ c a w d v, Q (.panic c) (a.put d v) w → Q (.panic c) a w)
    (h : wpPh P l Q ph last a w.drew) : (Code.region id l.toArray true).wp P Q a w := by
  simp only [Bool.and_eq_true, decide_eq_true_eq] at hc
  obtain ⟨⟨hs, hl⟩, ho⟩ := hc
  refine wp_region_any hm (wpAny_of_E _ _ _ _ ?_)
  have := wpAnyE_ph (P := P) (md := .any) hs hQ last ph _ a w.drew ho h
  rw [hl] at this
  simpa using this
end Go.Proofs.YtfkpghdmljjegaaGreat

namespace Go.Proofs.YtfkpghdmljjegaaGreat
open Go.RowKit

def intC (z : Int) : List Value := [.int .i64 z]
theorem intC_len (z : Int) : (intC z).length = 1 := rfl
theorem int_info : (Tryz.prog.info? 2).map (fun i => (i.zero, i.size, i.bytes)) = some (some (.int .i64 0), 1, 8) := by kernel_rfl
section
variable {w : World} {A : Option Addr} {n c : Nat} {xs : List Int}
theorem SliceOf.get1 (h : SliceOf w 1 intC A n c xs) {k : Nat} (hk : k < n) :
    ∃ b off x, A = some ⟨b, off, none⟩ ∧ b < w.heap.size ∧ xs[k]? = some x ∧ w.cell? ⟨b, off + k, none⟩ = some (.int .i64 x) := by
  obtain ⟨b, off, x, hA, hb, hx, hc⟩ := h.get hk
  exact ⟨b, off, x, hA, hb, hx, by simpa using hc 0 _ rfl⟩
end
/-- a new slice of the call's own -/
def NewRow {α : Type} (t : TypeId) (f : α → List Value) (xs : List α) (w : World) (e : Ending) (w' : World) : Prop :=
  ∃ g, e = .returned (.slice (some ⟨g, 0, none⟩) xs.length xs.length) ∧ w.heap.size ≤ g ∧ RowOf w' g t f xs ∧ Ext w w'

def allB (zs : List Int) (lo hi : Int) : Bool := zs.all fun z => inB z lo hi
theorem all_take_false {zs : List Int} {k : Nat} {z lo hi : Int} (hz : zs[k]? = some z) (h : inB z lo hi = false) : allB zs lo hi = false := by
  rw [allB, List.all_eq_false]; exact ⟨z, List.mem_of_getElem? hz, by simp [h]⟩
theorem all_take_true {zs : List Int} {lo hi : Int} (h : ∀ (j : Nat) (z : Int), zs[j]? = some z → inB z lo hi = true) : allB zs lo hi = true := by
  rw [allB, List.all_eq_true]; intro z hz
  obtain ⟨j, hj, rfl⟩ := List.mem_iff_getElem.1 hz
  exact h j _ (List.getElem?_eq_getElem hj)
theorem c_allWithin (A : Option Addr) (n c : Nat) (zs : List Int) (lo hi : Int) (w : World) (hs : SliceOf w 1 intC A n c zs) :
    Calls Tryz.prog 90 #[.slice A n c, .int .i64 lo, .int .i64 hi] w fun e w' => e = .returned (.bool (allB zs lo hi)) ∧ w = w' := by
  have hm := hs.max
  have hcap := hs.cap
  go_enter Tryz.func90, Tryz.ntmps90
  go_wp2_with fail
  go_loop [6, 11] (fun r i => ∃ k : Nat, k ≤ n ∧ r = .bool false ∧ i = .int .i64 k ∧ Hid (∀ (j : Nat) (z : Int), j < k → zs[j]? = some z → inB z lo hi = true)) (fun _ i => n - (intOf i).toNat)
  case atStart => exact ⟨0, Nat.zero_le _, rfl, rfl, hide (fun j z hj => absurd hj (by omega))⟩
  case round =>
    obtain ⟨k, hk, rfl, rfl, HK⟩ := hrel
    by_cases hlt : k < n
    · obtain ⟨b, off, x, rfl, hb, hxk, hc0⟩ := hs.get1 hlt
      have HX := hide hxk
      clear hxk
      cases hi0 : inB x lo hi
      · go_wp2_with (go_at_call 164; refine (c_within _ _ _ _).mono ?_; rintro e w' ⟨rfl, rfl⟩)
        go_ret
        exact ⟨by rw [all_take_false HX.out hi0]; rfl, rfl⟩
      · go_wp2_with (go_at_call 164; refine (c_within _ _ _ _).mono ?_; rintro e w' ⟨rfl, rfl⟩)
        go_round
        case rel =>
          refine ⟨k + 1, by omega, rfl, by go_num, hide fun j z hj hz => ?_⟩
          by_cases e : j = k
          · subst e; rw [HX.out] at hz; injection hz with hz; subst hz; exact hi0
          · exact HK.out j z (by omega) hz
        case measure => simp [intOf]; omega
    · go_wp2_with fail
      go_ret
      refine ⟨?_, rfl⟩
      rw [all_take_true (fun j z hz => HK.out j z (by have := (List.getElem?_eq_some_iff.1 hz).1; have := hs.len; omega) hz)]; rfl


end Go.Proofs.YtfkpghdmljjegaaGreat

namespace Go.Proofs.YtfkpghdmljjegaaGreat
open Go.RowKit

def OwnS {α : Type} (w : World) (g : Nat) (t : TypeId) (f : α → List Value) (A : Option Addr) (n : Nat) (xs : List α) : Prop :=
  n = xs.length ∧ (0 < n → A = some ⟨g, 0, none⟩ ∧ ∃ rest, Row w g t (xs.flatMap f ++ rest))

/-- only block g has turned -/
def Only (g : Nat) (w w' : World) : Prop := w.grownBy w' (some g)
section
variable {w w' w'' : World} {g : Nat}
theorem Only.refl (g : Nat) (w : World) : Only g w w := ⟨rfl, rfl, rfl, Nat.le_refl _, fun _ _ _ => rfl⟩
theorem Only.of_ext (h : Ext w w') (g : Nat) : Only g w w' := ⟨h.os, h.tape, h.output, h.size, fun k hk _ => h.block k hk⟩
theorem Only.trans (h : Only g w w') (k : Only g w' w'') : Only g w w'' :=
  ⟨k.os.trans h.os, k.tape.trans h.tape, k.output.trans h.output, Nat.le_trans h.size k.size, fun i hi hne => (k.block i (Nat.lt_of_lt_of_le hi h.size) hne).trans (h.block i hi hne)⟩
theorem Only.setCell (h : Only g w w') {p : Addr} (hp : p.block = g) (u : Value) : Only g w (w'.setCell p u) :=
  ⟨h.os, h.tape, h.output, by simpa [World.setCell] using h.size, fun i hi hne => (Below.heap_setCell w' p u i (by rintro rfl; exact hne (by rw [hp]))).trans (h.block i hi hne)⟩
theorem Only.put (h : Only g w w') (o : Nat) (vs : List Value) : Only g w (putCells w' g o vs) := by
  induction vs generalizing w' o with
  | nil => exact h
  | cons v vs ih => exact ih (h.setCell (p := ⟨g, o, none⟩) rfl v) (o + 1)
theorem Only.drew (h : Only g w w') : Only g w w'.drew := ⟨h.os, h.tape, h.output, h.size, h.block⟩
theorem Only.drewN (h : Only g w w') (n : Nat) : Only g w (w'.drewN n) := ⟨h.os, h.tape, h.output, h.size, h.block⟩
/-- a block that is new to w0 may turn -/
theorem Ext.only {w0 : World} (h : Ext w0 w) (k : Only g w w') (hg : w0.heap.size ≤ g) : Ext w0 w' :=
  ⟨k.os.trans h.os, k.tape.trans h.tape, k.output.trans h.output, Nat.le_trans h.size k.size, fun i hi => (k.block i (Nat.lt_of_lt_of_le hi h.size) (by simp; omega)).trans (h.block i hi)⟩
theorem Only.cell (h : Only g w w') {b o : Nat} (hb : b < w.heap.size) (hne : b ≠ g) : w'.cell? ⟨b, o, none⟩ = w.cell? ⟨b, o, none⟩ :=
  World.cell?_of_block (w := w) (h.block b hb (by simpa using hne))
theorem Row.only {t : TypeId} {cs : List Value} {g' : Nat} (h : Row w g' t cs) (k : Only g w w') (hne : g' ≠ g) : Row w' g' t cs := (k.block g' h.lt (by simpa using hne)).trans h
end

section
variable {α : Type} {w w' : World} {g : Nat} {t : TypeId} {f : α → List Value} {size : Nat} {A : Option Addr} {n : Nat} {xs : List α}
theorem RowOf.only {g' : Nat} (h : RowOf w g' t f xs) (k : Only g w w') (hne : g' ≠ g) : RowOf w' g' t f xs := Row.only h k hne
theorem OwnS.of_row (h : RowOf w g t f xs) : OwnS w g t f (some ⟨g, 0, none⟩) xs.length xs := ⟨rfl, fun _ => ⟨rfl, [], by rw [List.append_nil]; exact h⟩⟩
theorem OwnS.nil : OwnS w g t f A 0 [] := ⟨rfl, fun h => absurd h (by omega)⟩
theorem OwnS.ext (h : OwnS w g t f A n xs) (hx : Ext w w') : OwnS w' g t f A n xs := ⟨h.1, fun hn => ⟨(h.2 hn).1, let ⟨r, hr⟩ := (h.2 hn).2; ⟨r, hr.ext hx⟩⟩⟩
theorem OwnS.only {g' : Nat} (h : OwnS w g t f A n xs) (k : Only g' w w') (hne : g ≠ g') : OwnS w' g t f A n xs := ⟨h.1, fun hn => ⟨(h.2 hn).1, let ⟨r, hr⟩ := (h.2 hn).2; ⟨r, hr.only k hne⟩⟩⟩
theorem OwnS.lt (h : OwnS w g t f A n xs) (hn : 0 < n) : g < w.heap.size := let ⟨_, hr⟩ := (h.2 hn).2; hr.lt
theorem OwnS.slice (h : OwnS w g t f A n xs) (hf : ∀ x, (f x).length = size) {c : Nat} (hc : n ≤ c) (hm : c ≤ 9223372036854775807) : SliceOf w size f A n c xs := by
  refine ⟨h.1, hc, hm, fun hn => ?_⟩
  obtain ⟨hA, rest, hr⟩ := h.2 hn
  refine ⟨g, 0, hA, hr.lt, fun i x hx j u hu => ?_⟩
  rw [Nat.zero_add, hr.cell]
  have h1 := flat_get hf hx hu
  rw [List.getElem?_append_left (List.getElem?_eq_some_iff.1 h1).1]
  exact h1
theorem OwnS.there (h : OwnS w g t f A n xs) (hf : ∀ x, (f x).length = size) {i : Nat} (hi : i < n) {j : Nat} (hj : j < size) : ∃ u, w.cell? ⟨g, i * size + j, none⟩ = some u := by
  obtain ⟨_, rest, hr⟩ := h.2 (by omega)
  have hi' : i < xs.length := by rw [← h.1]; exact hi
  have hx : xs[i]? = some xs[i] := List.getElem?_eq_getElem hi'
  have hu : (f xs[i])[j]? = some ((f xs[i])[j]'(by rw [hf]; exact hj)) := List.getElem?_eq_getElem _
  have h1 := flat_get hf hx hu
  exact ⟨_, by rw [hr.cell, List.getElem?_append_left (List.getElem?_eq_some_iff.1 h1).1]; exact h1⟩
theorem OwnS.frozen (h : OwnS w g t f A n xs) (hn : 0 < n) (i : Nat) : w.frozen? ⟨g, i, none⟩ = false := let ⟨_, _, hr⟩ := h.2 hn; hr.frozen i
theorem setCells_left (az rest vs : List Value) (o : Nat) (h : o + vs.length ≤ az.length) : setCells (az ++ rest) o vs = setCells az o vs ++ rest := by
  induction vs generalizing az o with
  | nil => rfl
  | cons v vs ih =>
    simp at h
    simp only [setCells]
    rw [List.set_append_left _ _ (by omega), ih _ _ (by simp; omega)]
theorem OwnS.put (h : OwnS w g t f A n xs) (hf : ∀ x, (f x).length = size) {i : Nat} (hi : i < n) (y : α) : OwnS (putCells w g (i * size) (f y)) g t f A n (xs.set i y) := by
  refine ⟨by rw [List.length_set]; exact h.1, fun hn => ?_⟩
  obtain ⟨hA, rest, hr⟩ := h.2 hn
  have hi' : i < xs.length := by rw [← h.1]; exact hi
  refine ⟨hA, rest, ?_⟩
  have h1 := Row.put hr (i * size) (f y)
  rw [setCells_left _ _ _ _ (by
    rw [flat_len hf, hf]
    have : (i + 1) * size ≤ xs.length * size := Nat.mul_le_mul_right _ hi'
    rw [Nat.add_mul] at this; omega), flat_set hf hi'] at h1
  exact h1
/-- what an append leaves -/
theorem OwnS.of_owns {base : Nat} {v : Value} {cs : List Value} (hf : ∀ x, (f x).length = size) (hs : 0 < size) (h : w.ownsRow base t size v n cs) (hcs : cs = xs.flatMap f) :
    ∃ A c g, v = .slice A n c ∧ base ≤ g ∧ n ≤ c ∧ c ≤ 9223372036854775807 ∧ OwnS w g t f A n xs ∧ (v.ownBlock = none ∨ v.ownBlock = some g) := by
  obtain ⟨h1, h2⟩ := h
  subst hcs
  have hl : n = xs.length := by rw [flat_len hf] at h1; exact (Nat.eq_of_mul_eq_mul_right hs h1).symm
  rcases h2 with ⟨rfl, rfl⟩ | ⟨g, cap, cur, rfl, hb, hh, hnc, hcm, hsz, hcur⟩
  · exact ⟨none, 0, base, rfl, Nat.le_refl _, Nat.le_refl _, by omega, ⟨hl, fun h => absurd h (by omega)⟩, .inl rfl⟩
  · refine ⟨_, cap, g, rfl, hb, hnc, hcm, ⟨hl, fun _ => ⟨rfl, cur.toList.drop (n * size), ?_⟩⟩, .inr rfl⟩
    unfold Row
    rw [← hcur, List.take_append_drop]
    simpa using hh
end
end Go.Proofs.YtfkpghdmljjegaaGreat
