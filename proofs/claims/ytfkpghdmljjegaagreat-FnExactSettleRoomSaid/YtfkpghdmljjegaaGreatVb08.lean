/-
  A region that draws its order whose last operation stores into cells that earlier ones load: of the world behind the last operation nothing is asked. No function of the program is named here. The reference's source of numbers: l01From and l01Next. What is drawn is some number below a bound. The reference's source of numbers is made of the code. A source of numbers that is drawn from: the code, the source's block, and what turned. Plain lemmas on texts: a numeral is read as the number that it was written of; words and lines. No function of the program is named here. A region that draws its order where two operations may come up: both orders are walked. No function of the program is named here. A region that draws its order, where operations that only make memory may come up in any order: each of them is walked once, in any world that has grown from the first. No function of the program is named here. The rule for many orders, with operations that only pass values on: these are taken as soon as they may come up. No function of the program is named here. Numbers in decimal, of the reference: l01Dec. The reference's draws of a node and of a pipe.
-/
import Derived.Test.YtfkpghdmljjegaaGreatVb07
import Derived.Test.YtfkpghdmljjegaaGreatVb00
import Derived.Test.YtfkpghdmljjegaaGreatVb01
import Derived.Test.YtfkpghdmljjegaaGreatVb06
import Derived.Lib.ItoaMem
import Derived.Lib.ParseIntBCases
import Derived.Lib.SplitLaws
import Derived.Lib.Join
import Derived.Test.YtfkpghdmljjegaaGreatProg
import Derived.Laws.IdiomStrings
import Derived.Laws.BytesString
import Derived.Test.YtfkpghdmljjegaaGreatVb05
namespace Go.Proofs.YtfkpghdmljjegaaGreat
open Go.RowKit
/-- whatever order is picked; S holds behind every operation but z -/
def wpAnyZ (P : Program) (md : Region.Mode) (ops : Array Oper) (Q : Exit → Act → World → Prop) (S : World → Prop) (z : Nat) : Nat → Array Bool → Act → World → Prop
  | 0, listed, a, w => Region.ready md ops listed = [] ∧ Q .normal a w
  | fuel + 1, listed, a, w =>
    (Region.ready md ops listed = [] → Q .normal a w) ∧
    ∀ i ∈ Region.ready md ops listed, wpOp P ops Q i (fun a' w' => (i ≠ z → S w') ∧ wpAnyZ P md ops Q S z fuel (listed.setIfInBounds i true) a' w') a w
section
variable {P : Program} {ops : Array Oper} {Q : Exit → Act → World → Prop} {md : Region.Mode} {S : World → Prop} {z : Nat}
theorem wpAny_of_Z : ∀ (fuel : Nat) (listed : Array Bool) (a : Act) (w : World), wpAnyZ P md ops Q S z fuel listed a w → wpAny P md ops Q fuel listed a w
  | 0, _, _, _, h => h
  | fuel + 1, _, _, _, h => ⟨h.1, fun i hi => wpOp_mono (fun a' w' h' => wpAny_of_Z fuel _ a' w' h'.2) (h.2 i hi)⟩
theorem wpAnyZ_first {i : Nat} {oi : Oper} {v : Value} (hi : ops[i]? = some oi) (hsel : ∀ (j : Nat) (o : Oper) cs b, ops[j]? = some o → o.op ≠ .select cs b)
    (hQ : ∀ c a w, Q (.panic c) (a.put oi.dst v) w → Q (.panic c) a w) (hiz : i ≠ z) {oz : Oper} (hoz : ops[z]? = some oz) (hwz : ∃ e ∈ oz.after, Region.binds md e = true ∧ e.on = i) :
    ∀ (fuel : Nat) (listed : Array Bool) (a : Act) (w : World),
      (∀ j oj, ops[j]? = some oj → j ≠ i → listed.getD j true = false → (∀ e ∈ oj.after, Region.binds md e = true → e.on ≠ i) → oi.apart ops oj = true) →
      i ∈ Region.ready md ops listed → YieldsIf P ops S oi v a → S w →
      wpAnyZ P md ops Q S z fuel (listed.setIfInBounds i true) (a.put oi.dst v) w → wpAnyZ P md ops Q S z (fuel + 1) listed a w := by
  intro fuel
  induction fuel with
  | zero =>
    intro listed a w _ hr hy hS H
    refine ⟨fun h => (by rw [h] at hr; cases hr), fun j hj => ?_⟩
    by_cases hji : j = i
    · subst hji; exact hy.wpOp hi hS ⟨fun _ => hS, H⟩
    · have := ready_mono hj hji
      rw [H.1] at this
      cases this
  | succ fuel ih =>
    intro listed a w hfree hr hy hS H
    refine ⟨fun h => (by rw [h] at hr; cases hr), fun j hj => ?_⟩
    by_cases hji : j = i
    · subst hji; exact hy.wpOp hi hS ⟨fun _ => hS, H⟩
    · have h1 := H.2 j (ready_mono hj hji)
      obtain ⟨hjun, oj, hoj, hall⟩ := mem_ready.1 hj
      have hnot : ∀ e ∈ oj.after, Region.binds md e = true → e.on ≠ i := fun e he hb heq => by
        have h1 := hall e he hb
        have h0 := (mem_ready.1 hr).1
        rw [heq] at h1
        rcases Nat.lt_or_ge i listed.size with h' | h'
        · simp [h'] at h0 h1; rw [h0] at h1; cases h1
        · simp [Array.getElem?_eq_none h'] at h1
      have hjz : j ≠ z := by
        rintro rfl
        rw [hoj] at hoz
        injection hoz with hoz
        subst hoz
        obtain ⟨e, he, hb, heq⟩ := hwz
        exact hnot e he hb heq
      have h2 := wpOp_putIf hoj (hfree j oj hoj hji hjun hnot) (fun cs b => hsel i oi cs b hi) (fun cs b => hsel j oj cs b hoj) hQ hy h1
      have hfree' : ∀ k ok, ops[k]? = some ok → k ≠ i → (listed.setIfInBounds j true).getD k true = false →
          (∀ e ∈ ok.after, Region.binds md e = true → e.on ≠ i) → oi.apart ops ok = true := fun k ok hk hki hun hno => by
        refine hfree k ok hk hki ?_ hno
        by_cases hjk : j = k
        · subst hjk; exact hjun
        · rw [getD_set_ne true hjk] at hun; exact hun
      refine wpOp_mono (fun a' w' h3 => ⟨h3.2.1, ih (listed.setIfInBounds j true) a' w' hfree' (ready_mono hr (Ne.symm hji)) h3.1 (h3.2.1 hjz) ?_⟩) h2
      rw [Array.setIfInBounds_comm _ _ hji]
      exact h3.2.2
end
def waitsZ (md : Region.Mode) (l : List Oper) (z i : Nat) : Bool := decide (i ≠ z) && decide (z < l.length) && (nthO l z).after.any (fun e => Region.binds md e && e.on == i)
theorem wpAnyZ_still {P : Program} {md : Region.Mode} {l : List Oper} {Q : Exit → Act → World → Prop} {bs : List (Nat × Nat)} {w0 w : World} {z : Nat} (hw0 : SameC bs w0 w) (hs : Region.noSelect l.toArray = true) (hQ : ∀ c a w d v, Q (.panic c) (a.put d v) w → Q (.panic c) a w) {fuel : Nat} {listed' : Array Bool} {K : Act → Prop}
    (hK : ∀ a, K a → wpAnyZ P md l.toArray Q (SameC bs w0) z fuel listed' a w) : ∀ (is : List Nat) (listed : Array Bool) (a : Act), goStill md l listed is = some listed' → (∀ i ∈ is, waitsZ md l z i = true) → wpQuiet P l.toArray (GrowC bs w0) K (pickL l is) a →
      wpAnyZ P md l.toArray Q (SameC bs w0) z (fuel + is.length) listed a w := by
  intro is
  induction is with
  | nil =>
    intro listed a hg _ h
    simp only [goStill, Option.some.injEq] at hg
    subst hg
    exact hK a h
  | cons i is ih =>
    intro listed a hg hz h
    unfold goStill at hg
    split at hg
    · rename_i hc
      simp only [Bool.and_eq_true, decide_eq_true_eq] at hc
      obtain ⟨⟨⟨h1, h2⟩, h3⟩, h4⟩ := hc
      have hi : l.toArray[i]? = some (nthO l i) := by simpa using nthO_some h1
      have hzi := hz i (by simp)
      simp only [waitsZ, Bool.and_eq_true, decide_eq_true_eq, Array.any_eq_true'] at hzi
      obtain ⟨⟨hiz, hzl⟩, e, he, hb⟩ := hzi
      have hoz : l.toArray[z]? = some (nthO l z) := by simpa using nthO_some hzl
      have hwz : ∃ e ∈ (nthO l z).after, Region.binds md e = true ∧ e.on = i := by
        simp only [beq_iff_eq] at hb
        exact ⟨e, he, hb⟩
      simp only [pickL, wpQuiet] at h
      by_cases hw : Region.wanted (nthO l i) (yielded l.toArray a.tmps) = true
      · rw [if_pos hw] at h
        obtain ⟨v, hv, hn⟩ := h
        exact wpAnyZ_first hi (Region.noSelect_spec hs) (fun c a w => hQ c a w _ _) hiz hoz hwz (fuel + is.length) listed a w (Region.free_spec hi h3) (by simpa using h4) (yields_of_quietC h2 hw hv) hw0 (ih _ _ hg (fun i hi => hz i (by simp [hi])) hn)
      · rw [if_neg hw] at h
        exact wpAnyZ_first hi (Region.noSelect_spec hs) (fun c a w => hQ c a w _ _) hiz hoz hwz (fuel + is.length) listed a w (Region.free_spec hi h3) (by simpa using h4) (.inr ⟨by simpa using hw, rfl⟩) hw0 (ih _ _ hg (fun i hi => hz i (by simp [hi])) h)
    · cases hg
def wpPhZ (P : Program) (l : List Oper) (Q : Exit → Act → World → Prop) (bs : List (Nat × Nat)) (w0 : World) (z : Nat) : List (List Nat × Nat) → List Nat → Act → World → Prop
  | [], last, a, w => wpQuiet P l.toArray (fun w' => ∃ x, w' = laterC bs w0 x) (fun a' => wpList P l.toArray (Exit.then (fun a'' w'' => Q .normal a'' w'') Q) [nthO l z] a' w) (pickL l last) a
  | (is, j) :: r, last, a, w => wpQuiet P l.toArray (fun w' => ∃ x, w' = laterC bs w0 x) (fun a' => wpList P l.toArray (Exit.then (fun a'' w'' => SameC bs w0 w'' ∧ wpPhZ P l Q bs w0 z r last a'' w'') Q) [nthO l j] a' w) (pickL l is) a
def okPhZ (md : Region.Mode) (l : List Oper) (z : Nat) : Array Bool → List (List Nat × Nat) → List Nat → Bool
  | listed, [], last => match goStill md l listed last with
    | some listed' => decide (z < l.length) && last.all (waitsZ md l z) && (Region.ready md l.toArray listed' == [z]) && (Region.ready md l.toArray (listed'.setIfInBounds z true)).isEmpty
    | none => false
  | listed, (is, j) :: r, last => match goStill md l listed is with
    | some listed' => decide (j < l.length) && is.all (waitsZ md l z) && decide (j ≠ z) && (Region.ready md l.toArray listed' == [j]) && okPhZ md l z (listed'.setIfInBounds j true) r last
    | none => false
theorem wpAnyZ_ph {P : Program} {md : Region.Mode} {l : List Oper} {Q : Exit → Act → World → Prop} {bs : List (Nat × Nat)} {w0 : World} {z : Nat} (hs : Region.noSelect l.toArray = true) (hQ : ∀ c a w d v, Q (.panic c) (a.put d v) w → Q (.panic c) a w) (last : List Nat) :
    ∀ (ph : List (List Nat × Nat)) (listed : Array Bool) (a : Act) (w : World), SameC bs w0 w → okPhZ md l z listed ph last = true → wpPhZ P l Q bs w0 z ph last a w → wpAnyZ P md l.toArray Q (SameC bs w0) z (phLen ph last + 1) listed a w := by
  intro ph
  induction ph with
  | nil =>
    intro listed a w hw0 ho h
    unfold okPhZ at ho
    cases hg : goStill md l listed last with
    | none => rw [hg] at ho; simp at ho
    | some listed' =>
      rw [hg] at ho
      simp only [Bool.and_eq_true, decide_eq_true_eq, beq_iff_eq, List.all_eq_true, List.isEmpty_iff] at ho
      obtain ⟨⟨⟨hz, hw⟩, hr⟩, he⟩ := ho
      have := wpAnyZ_still (fuel := 1) hw0 hs hQ (K := fun a' => wpList P l.toArray (Exit.then (fun a'' w'' => Q .normal a'' w'') Q) [nthO l z] a' w) (fun a' ha => ?_) last listed a hg hw h
      · rw [Nat.add_comm] at this; exact this
      · refine ⟨fun h0 => (by rw [hr] at h0; cases h0), fun i hi => ?_⟩
        rw [hr] at hi
        obtain rfl : i = z := by simpa using hi
        exact wpOp_mono (fun a'' w'' h' => ⟨fun hne => absurd rfl hne, he, h'⟩) (wpOp_one hz ha)
  | cons p r ih =>
    obtain ⟨is, j⟩ := p
    intro listed a w hw0 ho h
    unfold okPhZ at ho
    cases hg : goStill md l listed is with
    | none => rw [hg] at ho; simp at ho
    | some listed' =>
      rw [hg] at ho
      simp only [Bool.and_eq_true, decide_eq_true_eq, beq_iff_eq, List.all_eq_true] at ho
      obtain ⟨⟨⟨⟨hj, hw⟩, hjz⟩, hr⟩, ho⟩ := ho
      have hfu : phLen ((is, j) :: r) last + 1 = (phLen r last + 1 + 1) + is.length := by simp only [phLen]; omega
      rw [hfu]
      refine wpAnyZ_still (fuel := phLen r last + 1 + 1) hw0 hs hQ (fun a' ha => ?_) is listed a hg hw h
      refine ⟨fun h0 => (by rw [hr] at h0; cases h0), fun i hi => ?_⟩
      rw [hr] at hi
      obtain rfl : i = j := by simpa using hi
      exact wpOp_mono (fun a'' w'' h' => ⟨fun _ => h'.1, ih _ a'' w'' h'.1 ho h'.2⟩) (wpOp_one hj ha)
/-- THE RULE: the cells 'bs' stay until the last operation, z; by phases that the kernel checks -/
theorem wp_region_phZ {P : Program} {id : Nat} {Q : Exit → Act → World → Prop} {a : Act} {w : World} {l : List Oper} (bs : List (Nat × Nat)) (ph : List (List Nat × Nat)) (last : List Nat) (z : Nat) (hm : P.follows .mixedOrders = true)
    (hc : (Region.noSelect l.toArray && decide (phLen ph last + 1 = l.length) && okPhZ .any l z (Array.replicate l.length false) ph last) = true) (hQ : ∀ c a w d v, Q (.panic c) (a.put d v) w → Q (.panic c) a w)
    (h : wpPhZ P l Q bs w z ph last a w.drew) : (Code.region id l.toArray true).wp P Q a w := by
  simp only [Bool.and_eq_true, decide_eq_true_eq] at hc
  obtain ⟨⟨hs, hl⟩, ho⟩ := hc
  refine wp_region_any hm (wpAny_of_Z (S := SameC bs w) (z := z) _ _ _ _ ?_)
  have := wpAnyZ_ph (P := P) (md := .any) (w0 := w) (bs := bs) hs hQ last ph _ a w.drew (SameC.refl bs w).drew ho h
  rw [hl] at this
  simpa using this
end Go.Proofs.YtfkpghdmljjegaaGreat

namespace Go.Proofs.YtfkpghdmljjegaaGreat
open Go.RowKit

def byteC (z : Int) : List Value := [.int .u8 z]
/-- a source behind a pointer -/
def SrcAt (w : World) (a : Nat) (A : Option Addr) (n c : Nat) : Prop :=
  ∃ at_ seed : Int, Row w a 213 [.slice A n c, .int .i64 at_, .int .i64 seed] ∧ 0 ≤ at_ ∧ at_ ≤ n ∧ 0 ≤ seed ∧ seed < 2147483647
/-- a number below m (0 where m is 1 or less) -/
def Drawn (m : Int) (a : Nat) (A : Option Addr) (n c : Nat) (w : World) (e : Ending) (w' : World) : Prop :=
  ∃ x : Int, e = .returned (.int .i64 x) ∧ 0 ≤ x ∧ (x < m ∨ x = 0) ∧ SrcAt w' a A n c ∧ Only a w w'
theorem Drawn.of {m x : Int} {a : Nat} {A : Option Addr} {n c : Nat} {w w' : World} (h0 : 0 ≤ x) (h1 : x < m ∨ x = 0) (hs : SrcAt w' a A n c) (hk : Only a w w') : Drawn m a A n c w (.returned (.int .i64 x)) w' := ⟨x, rfl, h0, h1, hs, hk⟩

end Go.Proofs.YtfkpghdmljjegaaGreat

namespace Go.Proofs.YtfkpghdmljjegaaGreat
open Go.RowKit

/-- a new source -/
def NewSrc (A : Option Addr) (n c : Nat) (w : World) (e : Ending) (w' : World) : Prop :=
  ∃ a, e = .returned (.pointer (some ⟨a, 0, none⟩)) ∧ w.heap.size ≤ a ∧ a < w'.heap.size ∧ SrcAt w' a A n c ∧ Ext w w'
theorem NewSrc.of {A : Option Addr} {n c a : Nat} {w w' : World} (h0 : w.heap.size ≤ a) (h1 : a < w'.heap.size) (hs : SrcAt w' a A n c) (hx : Ext w w') : NewSrc A n c w (.returned (.pointer (some ⟨a, 0, none⟩))) w' := ⟨a, rfl, h0, h1, hs, hx⟩

end Go.Proofs.YtfkpghdmljjegaaGreat

namespace Go.Proofs.YtfkpghdmljjegaaGreat
open Go.RowKit
/-- a source behind a pointer, with the code that it reads -/
structure Src (w0 w : World) (a : Nat) (A : Option Addr) (n c : Nat) : Prop where
  code : ∃ bs, SliceOf w0 1 byteC A n c bs ∧ ∀ z ∈ bs, 0 ≤ z ∧ z ≤ 255
  hn : n ≤ 1048576
  le0 : w0.heap.size ≤ a
  ext : Ext w0 w
  src : SrcAt w a A n c
section
variable {w0 w w' w'' : World} {a n c : Nat} {A : Option Addr}
theorem Src.lt (h : Src w0 w a A n c) : a < w.heap.size := let ⟨_, _, hr, _⟩ := h.src; hr.lt
theorem Src.more (h : Src w0 w a A n c) (hx : Ext w w') : Src w0 w' a A n c :=
  ⟨h.code, h.hn, h.le0, h.ext.trans hx, let ⟨p, s, hr, r⟩ := h.src; ⟨p, s, hr.ext hx, r⟩⟩
theorem Src.draw (h : Src w0 w a A n c) (ho : Only a w w') (hs : SrcAt w' a A n c) : Src w0 w' a A n c := ⟨h.code, h.hn, h.le0, h.ext.only ho h.le0, hs⟩
theorem Only.grown {g : Nat} {row : Option Nat} (h : Only g w w') (hg : w'.grownBy w'' row) (hr : ∀ k, row = some k → w.heap.size ≤ k ∨ k = g) : Only g w w'' := by
  refine ⟨hg.os.trans h.os, hg.tape.trans h.tape, hg.output.trans h.output, Nat.le_trans h.size hg.size, fun k hk hne => ?_⟩
  refine (hg.block k (Nat.lt_of_lt_of_le hk h.size) (fun e => ?_)).trans (h.block k hk hne)
  rcases hr k e.symm with h1 | h1
  · omega
  · subst h1; exact hne rfl
theorem Row.grown {t : TypeId} {cs : List Value} {g : Nat} {row : Option Nat} (h : Row w g t cs) (hg : w.grownBy w' row) (hr : row ≠ some g) : Row w' g t cs := (hg.block g h.lt (Ne.symm hr)).trans h
theorem Src.grow {row : Option Nat} (h : Src w0 w a A n c) (hg : w.grownBy w' row) (hr : ∀ k, row = some k → w0.heap.size ≤ k ∧ k ≠ a) : Src w0 w' a A n c :=
  ⟨h.code, h.hn, h.le0, h.ext.grown hg (fun k hk => (hr k hk).1), let ⟨p, s, hR, r⟩ := h.src; ⟨p, s, hR.grown hg (fun e => (hr a e).2 rfl), r⟩⟩
theorem Src.set (h : Src w0 w a A n c) {p : Addr} (h0 : w0.heap.size ≤ p.block) (h1 : p.block ≠ a) (u : Value) : Src w0 (w.setCell p u) a A n c :=
  ⟨h.code, h.hn, h.le0, h.ext.setCell h0 u, let ⟨q, s, hR, r⟩ := h.src; ⟨q, s, hR.far (Ne.symm h1) u, r⟩⟩
theorem OwnL.apart {α β : Type} {base base' : Nat} {e e' : TypeId} {size size' : Nat} {f : α → List Value} {f' : β → List Value} {v v' : Value} {L : List α} {L' : List β} (h : OwnL w base e size f v L) (h' : OwnL w base' e' size' f' v' L') (hne : e ≠ e') : ∀ k, v'.ownBlock = some k → v.ownBlock ≠ some k := by
  intro k hk hk2
  rcases h.2 with ⟨rfl, _⟩ | ⟨g, cap, cur, rfl, _, hh, _⟩
  · cases hk2
  · rcases h'.2 with ⟨rfl, _⟩ | ⟨g', cap', cur', rfl, _, hh', _⟩
    · cases hk
    · simp [Value.ownBlock] at hk hk2
      subst hk hk2
      rw [hh] at hh'
      simp only [Option.some.injEq, Obj.cells.injEq] at hh'
      exact hne hh'.2.1
theorem OwnL.not_row {α : Type} {base : Nat} {e : TypeId} {size : Nat} {f : α → List Value} {v : Value} {L : List α} {g : Nat} {cs : List Value} {t : TypeId} (h : OwnL w base e size f v L) (hr : Row w g t cs) (ht : t ≠ e) : ∀ k, v.ownBlock = some k → (some g : Option Nat) ≠ some k := by
  intro k hk hg
  simp only [Option.some.injEq] at hg
  subst hg
  rcases h.2 with ⟨rfl, _⟩ | ⟨g', cap, cur, rfl, _, hh, _⟩
  · cases hk
  · simp [Value.ownBlock] at hk
    subst hk
    unfold Row at hr
    rw [hr] at hh
    simp only [Option.some.injEq, Obj.cells.injEq] at hh
    exact ht hh.2.1
theorem OwnL.put {α : Type} {base : Nat} {e : TypeId} {size : Nat} {f : α → List Value} {v : Value} {L : List α} {g : Nat} {cs : List Value} {t : TypeId} (h : OwnL w base e size f v L) (hr : Row w g t cs) (ht : t ≠ e) (o : Nat) (vs : List Value) : OwnL (putCells w g o vs) base e size f v L :=
  h.grown ((Only.refl g w).put o vs) (fun k hk => h.not_row hr ht k hk)
theorem Only.putNew (h : Only a w w') {g : Nat} (hg : w.heap.size ≤ g) (o : Nat) (vs : List Value) : Only a w (putCells w' g o vs) := h.grown ((Only.refl g w').put o vs) (fun k e => by simp at e; omega)
theorem Src.put (h : Src w0 w a A n c) {g : Nat} (h0 : w0.heap.size ≤ g) (h1 : g ≠ a) (o : Nat) (vs : List Value) : Src w0 (putCells w g o vs) a A n c := h.grow ((Only.refl g w).put o vs) (fun k e => by simp at e; omega)
end
end Go.Proofs.YtfkpghdmljjegaaGreat

namespace Go.Proofs.YtfkpghdmljjegaaGreat
open Go.Lib
end Go.Proofs.YtfkpghdmljjegaaGreat

namespace Go.Proofs.YtfkpghdmljjegaaGreat
open Go.RowKit

/-- a plan: what only reads first, then the one operation, or the two, that may come up -/
inductive PhT where
  | last (is : List Nat)
  | one (is : List Nat) (j : Nat) (r : PhT)
  | two (is : List Nat) (j : Nat) (r : PhT) (k : Nat) (r' : PhT)
def PhT.len : PhT → Nat
  | .last is => is.length
  | .one is _ r => r.len + 1 + is.length
  | .two is _ r _ _ => r.len + 1 + is.length
def okT (md : Region.Mode) (l : List Oper) : PhT → Array Bool → Bool
  | .last is, listed => match goStill md l listed is with
    | some listed' => (Region.ready md l.toArray listed').isEmpty
    | none => false
  | .one is j r, listed => match goStill md l listed is with
    | some listed' => decide (j < l.length) && (Region.ready md l.toArray listed' == [j]) && okT md l r (listed'.setIfInBounds j true)
    | none => false
  | .two is j r k r', listed => match goStill md l listed is with
    | some listed' => decide (j < l.length) && decide (k < l.length) && (Region.ready md l.toArray listed' == [j, k]) && decide (r'.len = r.len) && okT md l r (listed'.setIfInBounds j true) && okT md l r' (listed'.setIfInBounds k true)
    | none => false
def wpPhT (P : Program) (l : List Oper) (Q : Exit → Act → World → Prop) (bs : List (Nat × Nat)) (w0 : World) : PhT → Act → World → Prop
  | .last is, a, w => wpQuiet P l.toArray (fun w' => ∃ x, w' = laterC bs w0 x) (fun a' => Q .normal a' w) (pickL l is) a
  | .one is j r, a, w => wpQuiet P l.toArray (fun w' => ∃ x, w' = laterC bs w0 x) (fun a' => wpList P l.toArray (Exit.then (fun a'' w'' => SameC bs w0 w'' ∧ wpPhT P l Q bs w0 r a'' w'') Q) [nthO l j] a' w) (pickL l is) a
  | .two is j r k r', a, w => wpQuiet P l.toArray (fun w' => ∃ x, w' = laterC bs w0 x) (fun a' => wpList P l.toArray (Exit.then (fun a'' w'' => SameC bs w0 w'' ∧ wpPhT P l Q bs w0 r a'' w'') Q) [nthO l j] a' w ∧
      wpList P l.toArray (Exit.then (fun a'' w'' => SameC bs w0 w'' ∧ wpPhT P l Q bs w0 r' a'' w'') Q) [nthO l k] a' w) (pickL l is) a
theorem wpAnyC_phT {P : Program} {md : Region.Mode} {l : List Oper} {Q : Exit → Act → World → Prop} {bs : List (Nat × Nat)} {w0 : World} (hs : Region.noSelect l.toArray = true) (hQ : ∀ c a w d v, Q (.panic c) (a.put d v) w → Q (.panic c) a w) :
    ∀ (ph : PhT) (listed : Array Bool) (a : Act) (w : World), SameC bs w0 w → okT md l ph listed = true → wpPhT P l Q bs w0 ph a w → wpAnyH P md l.toArray Q (SameC bs w0) ph.len listed a w := by
  intro ph
  induction ph with
  | last is =>
    intro listed a w hw0 ho h
    unfold okT at ho
    cases hg : goStill md l listed is with
    | none => rw [hg] at ho; simp at ho
    | some listed' =>
      rw [hg] at ho
      have he : Region.ready md l.toArray listed' = [] := by simpa using ho
      have := wpAnyC_still (fuel := 0) hw0 hs hQ (K := fun a' => Q .normal a' w) (fun a' ha => ⟨he, ha⟩) is listed a hg h
      simpa [PhT.len] using this
  | one is j r ih =>
    intro listed a w hw0 ho h
    unfold okT at ho
    cases hg : goStill md l listed is with
    | none => rw [hg] at ho; simp at ho
    | some listed' =>
      rw [hg] at ho
      simp only [Bool.and_eq_true, decide_eq_true_eq, beq_iff_eq] at ho
      obtain ⟨⟨hj, hr⟩, ho⟩ := ho
      refine wpAnyC_still (fuel := r.len + 1) hw0 hs hQ (fun a' ha => ?_) is listed a hg h
      refine ⟨fun h0 => (by rw [hr] at h0; cases h0), fun i hi => ?_⟩
      rw [hr] at hi
      obtain rfl : i = j := by simpa using hi
      exact wpOp_mono (fun a'' w'' h' => ⟨h'.1, ih _ a'' w'' h'.1 ho h'.2⟩) (wpOp_one hj ha)
  | two is j r k r' ih ih' =>
    intro listed a w hw0 ho h
    unfold okT at ho
    cases hg : goStill md l listed is with
    | none => rw [hg] at ho; simp at ho
    | some listed' =>
      rw [hg] at ho
      simp only [Bool.and_eq_true, decide_eq_true_eq, beq_iff_eq] at ho
      obtain ⟨⟨⟨⟨⟨hj, hk⟩, hr⟩, hl⟩, ho⟩, ho'⟩ := ho
      refine wpAnyC_still (fuel := r.len + 1) hw0 hs hQ (fun a' ha => ?_) is listed a hg h
      refine ⟨fun h0 => (by rw [hr] at h0; cases h0), fun i hi => ?_⟩
      rw [hr] at hi
      rcases (show i = j ∨ i = k by simpa using hi) with rfl | rfl
      · exact wpOp_mono (fun a'' w'' h' => ⟨h'.1, ih _ a'' w'' h'.1 ho h'.2⟩) (wpOp_one hj ha.1)
      · exact wpOp_mono (fun a'' w'' h' => ⟨h'.1, hl ▸ ih' _ a'' w'' h'.1 ho' h'.2⟩) (wpOp_one hk ha.2)
/-- THE RULE: the cells 'bs' stay; by a plan that the kernel checks -/
theorem wp_region_phT {P : Program} {id : Nat} {Q : Exit → Act → World → Prop} {a : Act} {w : World} {l : List Oper} (bs : List (Nat × Nat)) (ph : PhT) (hm : P.follows .mixedOrders = true)
    (hc : (Region.noSelect l.toArray && decide (ph.len = l.length) && okT .any l ph (Array.replicate l.length false)) = true) (hQ : ∀ c a w d v, Q (.panic c) (a.put d v) w → Q (.panic c) a w)
    (h : wpPhT P l Q bs w ph a w.drew) : (Code.region id l.toArray true).wp P Q a w := by
  simp only [Bool.and_eq_true, decide_eq_true_eq] at hc
  obtain ⟨⟨hs, hl⟩, ho⟩ := hc
  refine wp_region_any hm (wpAny_of_held _ _ _ _ (S := SameC bs w) ?_)
  have := wpAnyC_phT (P := P) (md := .any) (w0 := w) (bs := bs) hs hQ ph _ a w.drew (SameC.refl bs w).drew ho h
  rw [hl] at this
  simpa using this
end Go.Proofs.YtfkpghdmljjegaaGreat

namespace Go.Proofs.YtfkpghdmljjegaaGreat
open Go.RowKit

/-- the values that the operations have yielded, put where they belong -/
def putAll (a : Act) : List Oper → List Value → Act
  | o :: os, t :: ts => putAll (a.put o.dst t) os ts
  | _, _ => a
def nthV : List Value → Nat → Value
  | [], _ => undef
  | v :: _, 0 => v
  | _ :: l, n + 1 => nthV l n
def nthD : List (List Nat) → Nat → List Nat
  | [], _ => []
  | v :: _, 0 => v
  | _ :: l, n + 1 => nthD l n
structure InvM (l : List Oper) (K : Nat → Value → World → Prop) (D : List (List Nat)) (M : List Nat) (w0 : World) (a0 : Act) (listed : Array Bool) (a : Act) (w : World) : Prop where
  size : listed.size = l.length
  sub : ∀ i, listed.getD i false = true → i ∈ M
  down : ∀ i, listed.getD i false = true → ∀ d ∈ nthD D i, listed.getD d false = true
  val : ∃ ts : List Value, ts.length = l.length ∧ a = putAll a0 l ts ∧ ∀ i, listed.getD i false = true → K i (nthV ts i) w
  ext : Ext w0 w
section
variable {P : Program} {md : Region.Mode} {l : List Oper} {Q : Exit → Act → World → Prop} {K : Nat → Value → World → Prop} {D : List (List Nat)} {M : List Nat} {tail : PhT} {w0 : World} {a0 : Act} {bs : List (Nat × Nat)}
end
end Go.Proofs.YtfkpghdmljjegaaGreat

namespace Go.Proofs.YtfkpghdmljjegaaGreat
open Go.RowKit
section
variable {P : Program} {md : Region.Mode} {l : List Oper} {Q : Exit → Act → World → Prop} {K : Nat → Value → World → Prop} {D : List (List Nat)} {M Ps : List Nat} {tail : PhT} {w0 : World} {a0 : Act} {bs : List (Nat × Nat)}
end
end Go.Proofs.YtfkpghdmljjegaaGreat

namespace Go.Proofs.YtfkpghdmljjegaaGreat
open Go.RowKit Go.Lib
end Go.Proofs.YtfkpghdmljjegaaGreat

namespace Go.Proofs.YtfkpghdmljjegaaGreat
open Go.RowKit
open Go.Lib (decDigits)
section
variable {w0 w : World} {a n c : Nat} {A : Option Addr}
end
end Go.Proofs.YtfkpghdmljjegaaGreat
