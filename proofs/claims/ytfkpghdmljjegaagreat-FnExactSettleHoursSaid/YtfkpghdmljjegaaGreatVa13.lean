/-
  The rule for many orders, with operations that only pass values on: these are taken as soon as they may come up. No function of the program is named here. Numbers in decimal, of the reference: l01Dec. The reference's draws of a node and of a pipe. The reference's draw of a network. Transports of the reference: supplies, scaling; exactly.
-/
import Derived.Test.YtfkpghdmljjegaaGreatVa12
import Derived.Test.YtfkpghdmljjegaaGreatProg
import Derived.Laws.IdiomStrings
import Derived.Laws.BytesString
import Derived.Test.YtfkpghdmljjegaaGreatVa01
import Derived.Test.YtfkpghdmljjegaaGreatVa06
import Derived.Test.YtfkpghdmljjegaaGreatVa10
import Derived.Test.YtfkpghdmljjegaaGreatVa11
import Derived.Test.YtfkpghdmljjegaaGreatVa08
namespace Go.Proofs.YtfkpghdmljjegaaGreat
open Go.RowKit
/-- what is asked of the operations that only pass values on -/
def stepsP (P : Program) (l : List Oper) (K : Nat → Value → World → Prop) (D : List (List Nat)) (bs : List (Nat × Nat)) (w0 : World) (a0 : Act) : List Nat → Prop
  | [] => True
  | i :: is => (∀ (ts : List Value) (w : World), ts.length = l.length → Ext w0 w → holdsL K ts w (nthD D i) →
      wpQuiet P l.toArray (GrowC bs w0) (fun a' => ∃ v, a' = (putAll a0 l ts).put (nthO l i).dst v ∧ K i v w) [nthO l i] (putAll a0 l ts)) ∧ stepsP P l K D bs w0 a0 is
theorem stepsP_at {P : Program} {l : List Oper} {K : Nat → Value → World → Prop} {D : List (List Nat)} {bs : List (Nat × Nat)} {w0 : World} {a0 : Act} : ∀ {is : List Nat}, stepsP P l K D bs w0 a0 is → ∀ i ∈ is, ∀ (ts : List Value) (w : World), ts.length = l.length → Ext w0 w → holdsL K ts w (nthD D i) →
      wpQuiet P l.toArray (GrowC bs w0) (fun a' => ∃ v, a' = (putAll a0 l ts).put (nthO l i).dst v ∧ K i v w) [nthO l i] (putAll a0 l ts)
  | [], _, i, hi => by cases hi
  | j :: is, h, i, hi => by
    rcases List.mem_cons.1 hi with rfl | hi
    · exact h.1
    · exact stepsP_at h.2 i hi
def okP (md : Region.Mode) (l : List Oper) (M : List Nat) (Ps : List Nat) (D : List (List Nat)) (tail : PhT) : Bool :=
  sepD l && (M ++ Ps).all (fun i => decide (i < l.length) && (bnd md l i).all (fun e => decide (e < i) && (M ++ Ps).contains e))
  && (List.range l.length).all (fun i => (nthD D i).all (fun d => (bnd md l i).any (fun e => e == d || (nthD D e).contains d)) && ((M ++ Ps).contains i || M.all (fun m => (nthD D i).contains m)))
  && decide (M ++ Ps).Nodup && decide ((M ++ Ps).length + tail.len = l.length) && okT md l tail ((List.range l.length).map (fun i => (M ++ Ps).contains i)).toArray
  && Ps.all (fun i => stillOp (nthO l i).op && Region.free md l.toArray ((List.range l.length).map (fun j => (nthD D i).contains j)).toArray i)
section
variable {P : Program} {md : Region.Mode} {l : List Oper} {Q : Exit → Act → World → Prop} {K : Nat → Value → World → Prop} {D : List (List Nat)} {M Ps : List Nat} {tail : PhT} {w0 : World} {a0 : Act} {bs : List (Nat × Nat)}
theorem wpAnyH_P (hs : Region.noSelect l.toArray = true) (hQ : ∀ c a w d v, Q (.panic c) (a.put d v) w → Q (.panic c) a w) (hok : okP md l M Ps D tail = true) (hK : ∀ i v w w', K i v w → Ext w w' → K i v w') (hst : stepsM P l Q K D w0 a0 M) (hsp : stepsP P l K D bs w0 a0 Ps) (hbs : ∀ q ∈ bs, q.1 < w0.heap.size)
    (hend : ∀ (ts : List Value) (w : World), ts.length = l.length → Ext w0 w → holdsL K ts w (M ++ Ps) → wpPhT P l Q bs w0 tail (putAll a0 l ts) w) :
    ∀ (k : Nat) (listed : Array Bool) (a : Act) (w : World), ((M ++ Ps).filter fun i => !listed.getD i true).length = k → InvM l K D (M ++ Ps) w0 a0 listed a w → wpAnyH P md l.toArray Q (SameC bs w0) (k + tail.len) listed a w := by
  have hok' := hok
  simp only [okP, Bool.and_eq_true, List.all_eq_true, List.any_eq_true, decide_eq_true_eq, beq_iff_eq, Bool.or_eq_true, List.contains_iff_mem, List.mem_range] at hok'
  obtain ⟨⟨⟨⟨⟨⟨o1, o2⟩, o3⟩, o4⟩, o5⟩, o6⟩, o7⟩ := hok'
  intro k
  induction k with
  | zero =>
    intro listed a w hk hI
    obtain ⟨ts, ht1, rfl, ht2⟩ := hI.val
    have hall : ∀ i ∈ M ++ Ps, listed.getD i false = true := fun i hi => by
      have h0 := List.length_eq_zero_iff.1 hk
      rw [List.filter_eq_nil_iff] at h0
      have := h0 i hi
      rw [getD_true (by rw [hI.size]; exact (o2 i hi).1)] at this
      simpa using this
    have hl : listed = ((List.range l.length).map (fun i => (M ++ Ps).contains i)).toArray := by
      apply Array.ext
      · simp [hI.size]
      · intro i h1 h2
        have e1 : listed[i] = listed.getD i false := by simp [Array.getD, h1]
        rw [e1]
        simp only [List.getElem_toArray, List.getElem_map, List.getElem_range]
        by_cases hm : i ∈ M ++ Ps
        · rw [hall i hm]; exact (List.contains_iff_mem.2 hm).symm
        · have : listed.getD i false = false := by
            cases hb : listed.getD i false
            · rfl
            · exact absurd (hI.sub i hb) hm
          rw [this]
          cases hc : (M ++ Ps).contains i
          · rfl
          · exact absurd (List.contains_iff_mem.1 hc) hm
    have := wpAnyC_phT (P := P) (md := md) (bs := bs) (w0 := w0) hs hQ tail listed (putAll a0 l ts) w (SameC.of_ext hI.ext hbs) (by rw [hl]; exact o6) (hend ts w ht1 hI.ext (holdsL_of fun d hd => ht2 d (hall d hd)))
    rw [Nat.zero_add]
    exact this
  | succ k ih =>
    intro listed a w hk hI
    have hmiss : ∃ m ∈ M ++ Ps, listed.getD m false = false := by
      have : ((M ++ Ps).filter fun i => !listed.getD i true) ≠ [] := fun h => by rw [h] at hk; simp at hk
      obtain ⟨m, hm⟩ := List.exists_mem_of_ne_nil _ this
      rw [List.mem_filter] at hm
      refine ⟨m, hm.1, ?_⟩
      have h := hm.2
      rw [getD_true (by rw [hI.size]; exact (o2 m hm.1).1)] at h
      simpa using h
    have hmin : ∃ m ∈ M ++ Ps, listed.getD m false = false ∧ m ∈ Region.ready md l.toArray listed := by
      obtain ⟨m, hm, hf⟩ := hmiss
      have go : ∀ (n m : Nat), m < n → m ∈ M ++ Ps → listed.getD m false = false → ∃ m ∈ M ++ Ps, listed.getD m false = false ∧ m ∈ Region.ready md l.toArray listed := by
        intro n
        induction n with
        | zero => intro m h; omega
        | succ n ihn =>
          intro m hmn hm hf
          by_cases hd : ∀ e ∈ bnd md l m, listed.getD e false = true
          · exact ⟨m, hm, hf, (ready_iff (o2 m hm).1).2 ⟨by rw [getD_true (by rw [hI.size]; exact (o2 m hm).1)]; exact hf, hd⟩⟩
          · simp only [Classical.not_forall] at hd
            obtain ⟨e, he, hne⟩ := hd
            have := (o2 m hm).2 e he
            exact ihn e (by omega) this.2 (by simpa using hne)
      exact go (m + 1) m (by omega) hm hf
    have hstep : ∀ (i : Nat) (a' : Act) (w' : World) (v : Value), i ∈ M ++ Ps → listed.getD i true = false → (∀ d ∈ nthD D i, listed.getD d false = true) → (∀ ts : List Value, a = putAll a0 l ts → (∀ i, listed.getD i false = true → K i (nthV ts i) w) → ts.length = l.length → a' = (putAll a0 l ts).put (nthO l i).dst v) → K i v w' → Ext w w' →
        ((M ++ Ps).filter fun j => !(listed.setIfInBounds i true).getD j true).length = k ∧ InvM l K D (M ++ Ps) w0 a0 (listed.setIfInBounds i true) a' w' := by
      intro i a' w' v hiM r1 hdl ha' hv hx
      obtain ⟨ts, ht1, hta, ht2⟩ := hI.val
      have hil := (o2 i hiM).1
      have hsz : i < listed.size := by rw [hI.size]; exact hil
      refine ⟨?_, ⟨by simp [hI.size], ?_, ?_, ⟨ts.set i v, by simp [ht1], by rw [ha' ts hta ht2 ht1]; exact putAll_put v l ts a0 i o1 hil ht1.symm, ?_⟩, hI.ext.trans hx⟩⟩
      · have := filter_less (p := fun j => !listed.getD j true) (p' := fun j => !(listed.setIfInBounds i true).getD j true) o4 hiM (by simpa using r1) (by simp [getD_set hsz]) (fun j hj => by simp only [getD_set hsz, if_neg (Ne.symm hj)])
        omega
      · intro j hj
        rw [getD_set hsz] at hj
        split at hj
        · rename_i e; subst e; exact hiM
        · exact hI.sub j hj
      · intro j hj d hd
        rw [getD_set hsz] at hj ⊢
        split
        · rfl
        · split at hj
          · rename_i e; subst e; exact hdl d hd
          · exact hI.down j hj d hd
      · intro j hj
        rw [getD_set hsz] at hj
        split at hj
        · rename_i e; subst e; rw [nthV_set_same (by rw [ht1]; exact hil)]; exact hv
        · rename_i e; rw [nthV_set_ne e]; exact hK _ _ _ _ (ht2 j hj) hx
    have hdeps : ∀ i, i < l.length → i ∈ Region.ready md l.toArray listed → listed.getD i true = false ∧ ∀ d ∈ nthD D i, listed.getD d false = true := fun i hil hi => by
      obtain ⟨r1, r2⟩ := (ready_iff hil).1 hi
      refine ⟨r1, fun d hd => ?_⟩
      obtain ⟨e, he, h⟩ := (o3 i hil).1 d hd
      rcases h with h | h
      · subst h; exact r2 e he
      · exact hI.down e (r2 e he) d h
    rw [Nat.add_right_comm]
    by_cases hp : ∃ p ∈ Ps, p ∈ Region.ready md l.toArray listed
    · obtain ⟨p, hpP, hpr⟩ := hp
      have hpM : p ∈ M ++ Ps := List.mem_append.2 (.inr hpP)
      have hpl := (o2 p hpM).1
      obtain ⟨r1, hdl⟩ := hdeps p hpl hpr
      obtain ⟨ts, ht1, rfl, ht2⟩ := hI.val
      have hq := stepsP_at hsp p hpP ts w ht1 hI.ext (holdsL_of fun d hd => ht2 d (hdl d hd))
      have hi : l.toArray[p]? = some (nthO l p) := by simpa using nthO_some hpl
      have hfree : ∀ j oj, l.toArray[j]? = some oj → j ≠ p → listed.getD j true = false → (∀ e ∈ oj.after, Region.binds md e = true → e.on ≠ p) → (nthO l p).apart l.toArray oj = true := fun j oj hj hne hun hno => by
        refine Region.free_spec hi (o7 p hpP).2 j oj hj hne ?_ hno
        have hjl : j < l.length := by simpa using (Array.getElem?_eq_some_iff.1 hj).1
        have hnot : (nthD D p).contains j = false := by
          cases hc : (nthD D p).contains j
          · rfl
          · have h1 := hdl j (List.contains_iff_mem.1 hc)
            rw [getD_true (by rw [hI.size]; exact hjl), h1] at hun
            cases hun
        simp [Array.getD, hjl]
        simpa using hnot
      unfold wpQuiet at hq
      by_cases hw : Region.wanted (nthO l p) (yielded l.toArray (putAll a0 l ts).tmps) = true
      · rw [if_pos hw] at hq
        obtain ⟨v, hv, hn⟩ := hq
        obtain ⟨v', hv1, hv2⟩ : ∃ v', (putAll a0 l ts).put (nthO l p).dst v = (putAll a0 l ts).put (nthO l p).dst v' ∧ K p v' w := hn
        obtain ⟨h1, h2⟩ := hstep p ((putAll a0 l ts).put (nthO l p).dst v) w v' hpM r1 hdl (fun ts' he _ _ => by rw [← he]; exact hv1) hv2 (Ext.refl w)
        exact wpAnyH_first hi (Region.noSelect_spec hs) (fun c a w => hQ c a w _ _) (k + tail.len) listed _ w hfree hpr (yields_of_quietC (o7 p hpP).1 hw hv) (SameC.of_ext hI.ext hbs) (ih _ _ w h1 h2)
      · rw [if_neg hw] at hq
        obtain ⟨v', hv1, hv2⟩ : ∃ v', (putAll a0 l ts).put (nthO l p).dst undef = (putAll a0 l ts).put (nthO l p).dst v' ∧ K p v' w := hq
        obtain ⟨h1, h2⟩ := hstep p ((putAll a0 l ts).put (nthO l p).dst undef) w v' hpM r1 hdl (fun ts' he _ _ => by rw [← he]; exact hv1) hv2 (Ext.refl w)
        exact wpAnyH_first hi (Region.noSelect_spec hs) (fun c a w => hQ c a w _ _) (k + tail.len) listed _ w hfree hpr (.inr ⟨by simpa using hw, rfl⟩) (SameC.of_ext hI.ext hbs) (ih _ _ w h1 h2)
    · refine ⟨fun h => ?_, fun i hi => ?_⟩
      · obtain ⟨m, _, _, hmr⟩ := hmin
        rw [h] at hmr
        cases hmr
      · have hil : i < l.length := by
          obtain ⟨_, o, ho, _⟩ := mem_ready.1 hi
          simpa using (Array.getElem?_eq_some_iff.1 ho).1
        obtain ⟨r1, hdl⟩ := hdeps i hil hi
        have hiM : i ∈ M := by
          rcases (o3 i hil).2 with h | h
          · rcases List.mem_append.1 h with h | h
            · exact h
            · exact absurd ⟨i, h, hi⟩ hp
          · obtain ⟨m, hm, hf, hmr⟩ := hmin
            rcases List.mem_append.1 hm with hm | hm
            · rw [hdl m (h m hm)] at hf; cases hf
            · exact absurd ⟨m, hm, hmr⟩ hp
        obtain ⟨ts, ht1, rfl, ht2⟩ := hI.val
        have hst1 := stepsM_at hst i hiM ts w ht1 hI.ext (holdsL_of fun d hd => ht2 d (hdl d hd))
        refine wpOp_mono (fun a' w' h' => ?_) (wpOp_one hil hst1)
        obtain ⟨hx, v, hav, hv⟩ := h'
        obtain ⟨h1, h2⟩ := hstep i a' w' v (List.mem_append.2 (.inl hiM)) r1 hdl (fun ts' he _ _ => by rw [← he]; exact hav) hv hx
        exact ⟨SameC.of_ext (hI.ext.trans hx) hbs, ih _ _ _ h1 h2⟩
/-- THE RULE: the operations M may come up in any order, those of Ps pass values on, the rest by a plan -/
theorem wp_region_KP {id : Nat} {a : Act} {w : World} (Ks : List (Value → World → Prop)) (M Ps : List Nat) (D : List (List Nat)) (bs : List (Nat × Nat)) (tail : PhT) (hm : P.follows .mixedOrders = true) (hc : (Region.noSelect l.toArray && okP .any l M Ps D tail) = true) (hQ : ∀ c a w d v, Q (.panic c) (a.put d v) w → Q (.panic c) a w)
    (hbs : ∀ q ∈ bs, q.1 < w.heap.size) (hK : stabL Ks) (hst : stepsM P l Q (nthK Ks) D w a M) (hsp : stepsP P l (nthK Ks) D bs w a Ps)
    (hend : ∀ (ts : List Value) (w' : World), ts.length = l.length → Ext w w' → holdsL (nthK Ks) ts w' (M ++ Ps) → wpPhT P l Q bs w tail (putAll a l ts) w') : (Code.region id l.toArray true).wp P Q a w := by
  simp only [Bool.and_eq_true] at hc
  have hok := hc.2
  simp only [okP, Bool.and_eq_true, decide_eq_true_eq] at hok
  have hlen := hok.1.1.2
  have hin : ∀ i ∈ M ++ Ps, i < l.length := fun i hi => by
    have := hok.1.1.1.1.1.2
    rw [List.all_eq_true] at this
    have := this i hi
    simp only [Bool.and_eq_true, decide_eq_true_eq] at this
    exact this.1
  refine wp_region_any hm (wpAny_of_held _ _ _ _ (S := SameC bs w) ?_)
  have hf : ((M ++ Ps).filter fun i => !(Array.replicate l.length false).getD i true).length = (M ++ Ps).length := by
    rw [List.filter_eq_self.2]
    intro i hi
    simp [Array.getD, hin i hi]
  have := wpAnyH_P (P := P) (md := .any) (bs := bs) hc.1 hQ hc.2 (fun i v w w' h hx => stabL_at hK i v w w' h hx) hst hsp hbs hend (M ++ Ps).length (Array.replicate l.length false) a w.drew hf ⟨by simp, ?_, ?_, ⟨l.map (ownV a), by simp, (putAll_own a l).symm, ?_⟩, (Ext.refl w).drew⟩
  · rw [hlen] at this
    simpa using this
  all_goals
    intro i hi
    have h1 := getD_lt hi
    simp at h1
    simp [Array.getD, h1] at hi
end
end Go.Proofs.YtfkpghdmljjegaaGreat

namespace Go.Proofs.YtfkpghdmljjegaaGreat
open Go.RowKit Go.Lib
end Go.Proofs.YtfkpghdmljjegaaGreat

namespace Go.Proofs.YtfkpghdmljjegaaGreat
open Go.RowKit
open Go.Lib (decDigits)
section
variable {w0 w : World} {a n c : Nat} {A : Option Addr}
end
end Go.Proofs.YtfkpghdmljjegaaGreat

namespace Go.Proofs.YtfkpghdmljjegaaGreat
open Go.RowKit
theorem new_one {α : Type} {size : Nat} {f : α → List Value} (hf : ∀ x, (f x).length = size) (W : World) (t : TypeId) (x : α) : SliceOf (W.alloc (.cells (f x).toArray t)) size f (some ⟨W.heap.size, 0, none⟩) 1 1 [x] := by
  have h : RowOf (W.alloc (.cells (f x).toArray t)) W.heap.size t f [x] := by
    have h0 := Row.new W t (f x)
    unfold RowOf
    rw [List.flatMap_cons, List.flatMap_nil, List.append_nil]
    exact h0
  exact h.slice hf rfl (by omega)
def Short (ns : List Node) : Prop := ∀ x ∈ ns, x.name.size ≤ 100
theorem Short.snoc {ns : List Node} (h : Short ns) {x : Node} (hx : x.name.size ≤ 100) : Short (ns ++ [x]) := by
  intro y hy
  rcases List.mem_append.1 hy with hy | hy
  · exact h y hy
  · obtain rfl := List.mem_singleton.1 hy; exact hx
/-- a network that is being drawn; its result's block is w's first new one -/
structure NSt (w0 w : World) (a : Nat) (A : Option Addr) (n c : Nat) (v1 v2 : Value) (ns : List Node) (ps : List Pipe) (wr : World) : Prop where
  lt : a < w.heap.size
  src : Src w0 wr a A n c
  only : Only a w wr
  res : Row wr w.heap.size 45 [.slice none 0 0, .slice none 0 0]
  o1 : OwnL wr (w.heap.size + 1) 223 3 Node.cells v1 ns
  o2 : OwnL wr (w.heap.size + 1) 181 5 Pipe.cells v2 ps
  nm : Short ns
/-- a network that was drawn -/
def DrawnNet (w0 : World) (a : Nat) (A : Option Addr) (n c : Nat) (w : World) (e : Ending) (w' : World) : Prop :=
  ∃ (v1 v2 : Value) (ns : List Node) (ps : List Pipe), e = .returned (.agg #[v1, v2]) ∧ Src w0 w' a A n c ∧ Only a w w' ∧ OwnL w' (w.heap.size + 1) 223 3 Node.cells v1 ns ∧ OwnL w' (w.heap.size + 1) 181 5 Pipe.cells v2 ps ∧ 1 ≤ ns.length ∧ ns.length ≤ 7 ∧ ps.length ≤ 12 ∧ Short ns
section
variable {w0 w wr wr' : World} {a n c : Nat} {A : Option Addr} {v1 v2 v' : Value} {ns : List Node} {ps : List Pipe}
theorem NSt.draw (h : NSt w0 w a A n c v1 v2 ns ps wr) (hs : Src w0 wr' a A n c) (ho : Only a wr wr') : NSt w0 w a A n c v1 v2 ns ps wr' :=
  have hl := h.lt
  ⟨h.lt, hs, h.only.trans ho, h.res.only ho (by omega), h.o1.only ho (by omega), h.o2.only ho (by omega), h.nm⟩
theorem NSt.more (h : NSt w0 w a A n c v1 v2 ns ps wr) (hx : Ext wr wr') : NSt w0 w a A n c v1 v2 ns ps wr' := h.draw (h.src.more hx) (Only.of_ext hx a)
theorem NSt.fin (h : NSt w0 w a A n c v1 v2 ns ps wr) (h1 : 1 ≤ ns.length) (h2 : ns.length ≤ 7) (h3 : ps.length ≤ 12) :
    DrawnNet w0 a A n c w (.returned (.agg #[v1, v2])) (putCells wr w.heap.size 0 [v1, v2]) := by
  have hl := h.lt
  have hle := h.src.le0
  exact ⟨v1, v2, ns, ps, rfl, h.src.put (by omega) (by omega) _ _, h.only.putNew (Nat.le_refl _) _ _, h.o1.put h.res (by decide) _ _, h.o2.put h.res (by decide) _ _, h1, h2, h3, h.nm⟩
end
end Go.Proofs.YtfkpghdmljjegaaGreat

namespace Go.Proofs.YtfkpghdmljjegaaGreat
open Go.RowKit
theorem trn_one (y : Trn) : ∀ u ∈ y.cells, u.oneCell' = true := by intro u hu; simp [Trn.cells] at hu; rcases hu with rfl | rfl | rfl | rfl <;> rfl
theorem trn_info : (Tryz.prog.info? 201).map (fun i => (i.zero, i.size, i.bytes)) = some (some (.agg #[.int .i64 0, .int .i64 0, .int .i64 0, .int .i64 0]), 4, 32) := by kernel_rfl
theorem new_trn (W : World) (x : Trn) {g : Nat} (hg : g = W.heap.size) : SliceOf (W.alloc (.cells #[.int .i64 x.entry, .int .i64 x.exit_, .int .i64 x.amount, .int .i64 x.cls] 201)) 4 Trn.cells (some ⟨g, 0, none⟩) 1 1 [x] := by
  subst hg; exact new_one trn_len W 201 x
/-- a list of transports of the call's own -/
def RetT (Q : List Trn → Prop) (w : World) (e : Ending) (w' : World) : Prop :=
  ∃ v E, e = .returned v ∧ OwnL w' w.heap.size 201 4 Trn.cells v E ∧ Hid (Q E) ∧ Ext w w'
set_option maxHeartbeats 1000000 in
theorem c_l24Supplies (A1 A2 : Option Addr) (n1 c1 n2 c2 : Nat) (A : Option Addr) (n c : Nat) (ts : List Trn) (w : World) (hs : SliceOf w 4 Trn.cells A n c ts) (hn1 : n1 ≤ 100000) (hn : n ≤ 100000) (hb : ∀ x ∈ ts, TrnB n1 30000 x) :
    Calls Tryz.prog 103 #[.agg #[.slice A1 n1 c1, .slice A2 n2 c2], .slice A n c] w (RetI (fun E => E = supT n1 ts) w) := by
  have hx0 : Ext w (w.alloc (.cells #[.slice A1 n1 c1, .slice A2 n2 c2] 45)) := Ext.alloc _ _
  have hmk := fun W => run_make_flat (P := Tryz.prog) 24 2 _ _ 1 8 Tryz.underlying24 int_info (f := intC) 0 rfl rfl rfl (by omega) n1 (by omega) (by omega) W
  have HB := hide hb
  clear hb
  go_enter Tryz.func103, Tryz.ntmps103
  go_wp2_with fail
  go_loopw [6] (fun i wr => ∃ k : Nat, k ≤ n ∧ i = .int .i64 k ∧ RowOf wr (w.heap.size + 1) 2 intC (supT n1 (ts.take k)) ∧ Ext (w.alloc (.cells #[.slice A1 n1 c1, .slice A2 n2 c2] 45)) wr) (fun i _ => n - (intOf i).toNat)
  case atStart => exact ⟨0, Nat.zero_le _, rfl, Row.newG _ _ (by simp), Ext.alloc _ _⟩
  case round =>
    obtain ⟨k, hk, rfl, hR, hx⟩ := hrel
    obtain ⟨l, HL⟩ : ∃ l, Hid (supT n1 (ts.take k) = l) := ⟨_, hide rfl⟩
    have hll : l.length = n1 := by rw [← HL.out]; exact supT_len _ _
    rw [HL.out] at hR
    by_cases hlt : k < n
    · obtain ⟨b, off, x, rfl, hb, hxk, hc⟩ := (hs.ext (hx0.trans hx)).get hlt
      have hc0 := hc 0 _ rfl
      have hc1 := hc 1 _ rfl
      have hc2 := hc 2 _ rfl
      clear hc
      simp only [Nat.add_zero] at hc0
      have hxb := HB.out x (List.mem_of_getElem? hxk)
      obtain ⟨⟨he0, he1⟩, ⟨hx0', hx1⟩, ⟨ha0, ha1⟩, -⟩ := hxb
      obtain ⟨y1, hy1⟩ : ∃ y : Nat, x.entry = y := ⟨x.entry.toNat, by omega⟩
      obtain ⟨y2, hy2⟩ : ∃ y : Nat, x.exit_ = y := ⟨x.exit_.toNat, by omega⟩
      have hyn1 : y1 < n1 := by omega
      have hyn2 : y2 < n1 := by omega
      have hbd := supT_bd (N := n1) ts (fun x hx => (HB.out x hx).2.2.1) k
      rw [HL.out] at hbd
      obtain ⟨a1, hl1⟩ : ∃ a, l[y1]? = some a := ⟨_, List.getElem?_eq_getElem (by omega)⟩
      obtain ⟨s1, hs1⟩ : ∃ s1, a1 + x.amount = s1 := ⟨_, rfl⟩
      obtain ⟨a2, hl2⟩ : ∃ a, (l.set y1 s1)[y2]? = some a := ⟨_, List.getElem?_eq_getElem (by rw [List.length_set]; omega)⟩
      obtain ⟨s2, hs2⟩ : ∃ s2, a2 - x.amount = s2 := ⟨_, rfl⟩
      have hb1 := hbd a1 (List.mem_of_getElem? hl1)
      have hb2 : -(60000 * (k : Int) + 30000) ≤ a2 ∧ a2 ≤ 60000 * k + 30000 := by
        rcases List.mem_or_eq_of_mem_set (List.mem_of_getElem? hl2) with h | h
        · have := hbd a2 h; omega
        · omega
      have e1 : IntKind.i64.wrap (a1 + x.amount) = s1 := by rw [← hs1]; exact IntWalk.i64_in _ (by omega)
      have e2 : IntKind.i64.wrap (a2 - x.amount) = s2 := by rw [← hs2]; exact IntWalk.i64_in _ (by omega)
      have HST : Hid (supT n1 (ts.take (k + 1)) = (l.set y1 s1).set y2 s2) := hide (by
        rw [supT_take hxk, HL.out]
        unfold supStep
        rw [hy1, hy2, Int.toNat_natCast, Int.toNat_natCast, zAt_some hl1, hs1, zAt_some hl2, hs2])
      have hcl1 := hR.get intC_len hl1 (j := 0) rfl
      simp only [Nat.mul_one, Nat.add_zero] at hcl1
      have hf := hR.frozen y1
      have hR1 := (RowOf.set0 hR (fun x => ⟨_, rfl⟩) (d := y1) (by omega) s1 (.int .i64 s1) rfl).drew
      have hle := hR.lt
      have hX1 := (hx.setCell (p := ⟨w.heap.size + 1, y1, none⟩) (by simp) (.int .i64 s1)).drew
      have hbw : b < w.heap.size := hs.blk (b := b) (by unfold blkOf; rw [if_neg (by omega)]; rfl)
      rw [hy1] at hc0
      rw [hy2] at hc1
      have hd1 := (hX1.cell b (off + k * 4 + 1) (by simp; omega)).trans ((hx.cell b (off + k * 4 + 1) (by simp; omega)).symm.trans hc1)
      have hd2 := (hX1.cell b (off + k * 4 + 2) (by simp; omega)).trans ((hx.cell b (off + k * 4 + 2) (by simp; omega)).symm.trans hc2)
      have HL2 := hide hl2
      clear hbd hl1 hl2 hs1 hs2 hb1 hb2 hxk HL hx hR
      go_wp2_with fail
      refine wp_region_phZ [(b, off + k * 4), (w.heap.size + 1, y1), (b, off + k * 4 + 2)] [] [0, 1, 2, 3, 4, 5, 6, 7, 8, 9, 10, 11, 12, 13, 14, 15, 16, 17, 18, 19, 20] 21 (by kernel_rfl) (by kernel_rfl) (by intro c a w d v h; cases d <;> exact h) ?_
      simp only [wpPhZ, pickL, nthO]
      repeat (go_big_quiet_step (fail))
      refine wpQuiet_nil ?_
      set_option maxRecDepth 20000 in
      go_wp2_with fail
      generalize (wr.setCell ⟨w.heap.size + 1, y1, none⟩ (.int .i64 s1)).drew = W at *
      have hf2 := hR1.frozen y2
      have hcl2 := hR1.get intC_len HL2.out (j := 0) rfl
      simp only [Nat.mul_one, Nat.add_zero] at hcl2
      have hle2 := hR1.lt
      have hR2 := RowOf.set0 (hR1.ext (Ext.refl _).drew) (fun x => ⟨_, rfl⟩) (d := y2) (by rw [List.length_set]; omega) s2 (.int .i64 s2) rfl
      have hX2 := hX1.drew.setCell (p := ⟨w.heap.size + 1, y2, none⟩) (by simp) (.int .i64 s2)
      clear hR1 hX1
      refine wp_region_phZ [(b, off + k * 4 + 1), (w.heap.size + 1, y2), (b, off + k * 4 + 2)] [] [0, 1, 2, 3, 4, 5, 6, 7, 8, 9, 10, 11, 12, 13, 14, 15, 16, 17, 18, 19, 20] 21 (by kernel_rfl) (by kernel_rfl) (by intro c a w d v h; cases d <;> exact h) ?_
      simp only [wpPhZ, pickL, nthO]
      repeat (go_big_quiet_step (fail))
      refine wpQuiet_nil ?_
      set_option maxRecDepth 20000 in
      go_wp2_with fail
      go_roundw
      case rel => exact ⟨k + 1, by omega, by go_num, by rw [HST.out]; exact hR2, hX2⟩
      case measure => simp [intOf]; omega
    · have HE : Hid (l = supT n1 ts) := hide (by rw [← HL.out, List.take_of_length_le (by rw [← hs.len]; omega)])
      have hle := hR.lt
      go_wp2_with fail
      go_ret
      have hO := OwnL.of_row hR intC_len (base := w.heap.size) (by omega) (by omega)
      rw [hll] at hO
      exact ⟨_, l, rfl, hO, HE, hx0.trans hx⟩
set_option maxHeartbeats 1000000 in
theorem c_l24Scale (A : Option Addr) (n c : Nat) (ts : List Trn) (B : Option Addr) (d : Nat) (sc : List Int) (w : World) (hs : SliceOf w 4 Trn.cells A n c ts) (hsc : SliceOf w 1 intC B 4 d sc) (hn : n ≤ 100000) (N : Nat) (hb : ∀ x ∈ ts, TrnB N 30000 x) (hi : ScaleIn sc) :
    Calls Tryz.prog 104 #[.slice A n c, .slice B 4 d] w (RetT (fun E => E = ts.map (scaleT sc)) w) := by
  have HB := hide hb
  have HI := hide hi
  clear hb hi
  have hO0 : OwnL (w.alloc (.cells #[] 201)) w.heap.size 201 4 Trn.cells (.slice (some ⟨w.heap.size, 0, none⟩) 0 0) [] := own_new w w.heap.size _ _ _ _ rfl (Nat.le_refl _)
  go_enter Tryz.func104, Tryz.ntmps104
  go_wp2_with fail
  go_loopw [5, 6] (fun v i wr => ∃ (k : Nat) (L : List Trn), k ≤ n ∧ i = .int .i64 k ∧ L.length = k ∧ Hid (L = (ts.take k).map (scaleT sc)) ∧ OwnL wr w.heap.size 201 4 Trn.cells v L ∧ Ext w wr) (fun _ i _ => n - (intOf i).toNat)
  case atStart => exact ⟨0, [], Nat.zero_le _, rfl, rfl, hide rfl, hO0, Ext.alloc _ _⟩
  case round =>
    clear hO0
    obtain ⟨k, L, hk, rfl, hLk, HL, ho, hx⟩ := hrel
    by_cases hlt : k < n
    · obtain ⟨b, off, x, hA, hb, hxk, hc⟩ := (hs.ext hx).get hlt
      have hc0 := hc 0 _ rfl
      have hc1 := hc 1 _ rfl
      have hc2 := hc 2 _ rfl
      have hc3 := hc 3 _ rfl
      clear hc
      subst hA
      simp only [Nat.add_zero] at hc0
      have HOB : Hid (∀ j, u5.ownBlock = some j → w.heap.size ≤ j ∧ j < wr.heap.size) := hide (fun j hj => ⟨ho.block_le hj, (ho.ltG hj).2⟩)
      have hxb := HB.out x (List.mem_of_getElem? hxk)
      obtain ⟨-, -, ⟨ha0, ha1⟩, ⟨hk0, hk1⟩⟩ := hxb
      obtain ⟨y, hy⟩ : ∃ y : Nat, x.cls = y := ⟨x.cls.toNat, by omega⟩
      have hyn : y < 4 := by omega
      obtain ⟨bs, os, s, hB, hbs, hsk, hcs⟩ := (hsc.ext hx).get hyn
      have hcs0 := hcs 0 _ rfl
      clear hcs
      subst hB
      have hbsw : bs < w.heap.size := hsc.blk (b := bs) rfl
      simp only [Nat.add_zero, Nat.mul_one] at hcs0
      have hsb := HI.out.2 s (List.mem_of_getElem? hsk)
      obtain ⟨p1, p2, p3, p4⟩ := scale_le ⟨ha0, ha1⟩ hsb
      have e1 : IntKind.i64.wrap (x.amount * s) = x.amount * s := IntWalk.i64_in _ (by omega)
      have HST : Hid ((ts.take (k + 1)).map (scaleT sc) = L ++ [⟨x.entry, x.exit_, (x.amount * s).tdiv 100, y⟩]) := hide (by
        rw [List.take_add_one, hxk, List.map_append, ← HL.out, Option.toList_some, List.map_singleton]
        unfold scaleT
        rw [hy, Int.toNat_natCast, zAt_some hsk])
      rw [hy] at hc3
      clear hxk hsk
      obtain ⟨q, hq⟩ : ∃ q, (x.amount * s).tdiv 100 = q := ⟨_, rfl⟩
      rw [hq] at p3 p4 HST
      have e2 : IntKind.i64.wrap q = q := IntWalk.i64_in _ (by omega)
      go_wp2_with fail
      have hbx := Row.new wr 201 [.int .i64 x.entry, .int .i64 x.exit_, .int .i64 x.amount, .int .i64 y]
      have hx1 : Ext wr (wr.alloc (.cells #[.int .i64 x.entry, .int .i64 x.exit_, .int .i64 x.amount, .int .i64 y] 201)) := Ext.alloc _ _
      generalize (wr.alloc (.cells #[.int .i64 x.entry, .int .i64 x.exit_, .int .i64 x.amount, .int .i64 y] 201)) = W1 at *
      have hcs1 := (hx1.cell _ _ hbs).trans hcs0
      have hbs1 := Nat.lt_of_lt_of_le hbs hx1.size
      have q0 := hbx.cell 0
      have q1 := hbx.cell 1
      have q2 := hbx.cell 2
      have q3 := hbx.cell 3
      simp at q0 q1 q2 q3
      have hbl := hbx.lt
      have hbf := hbx.frozen
      have ho1 := ho.ext hx1
      have hX1 := hx.trans hx1
      clear hx ho hcs0 hbs hx1 hb hc0 hc1 hc2 hc3
      refine wp_region_phC [(wr.heap.size, 0), (wr.heap.size, 1), (wr.heap.size, 2), (wr.heap.size, 3), (bs, os + y)] [([0, 1, 2, 3, 4, 5, 6, 7, 8, 9, 10, 11, 12, 13, 14, 15, 16], 17), ([], 18)] [19] (by kernel_rfl) (by kernel_rfl) (by intro c a w d v h; cases d <;> exact h) ?_
      simp only [wpPhC, pickL, nthO]
      repeat (go_big_quiet_step (fail))
      refine wpQuiet_nil ?_
      go_wp2_with fail
      obtain ⟨W, HW⟩ : ∃ W, Hid ((W1.alloc (.cells #[.int .i64 x.entry, .int .i64 x.exit_, .int .i64 q, .int .i64 y] 201)).drew = W) := ⟨_, hide rfl⟩
      rw [HW.out]
      have hxa : Ext W1 W := by rw [← HW.out]; exact ((Ext.refl W1).and_alloc _).drew
      have hWz : w.heap.size ≤ W.heap.size := by have := hxa.size; have := hX1.size; omega
      have hWn : SliceOf W 4 Trn.cells (some ⟨W1.heap.size, 0, none⟩) 1 1 [⟨x.entry, x.exit_, q, y⟩] := by rw [← HW.out]; exact (new_trn W1 ⟨x.entry, x.exit_, q, y⟩ rfl).ext (Ext.refl _).drew
      refine ⟨SameC.of_ext hxa (by simp; omega), wpQuiet_nil ?_⟩
      go_wp2_with (at_builtin; go_must (refine wpList_append_where rfl _ _ 118 rfl w.heap.size 201 _ 4 32 Tryz.underlying118 trn_info rfl (by decide) Trn.cells trn_len trn_one _ L rfl (ho1.ext hxa) W1.heap.size 0 1 1 [⟨x.entry, x.exit_, q, y⟩] rfl hWn (by omega) (by omega) hWz ?_))
      intro v2 w2 ho2 hg2 _
      have hx2 := (hX1.trans hxa).grown hg2 (fun k hk => ho1.block_le hk)
      have hxz := hxa.size
      have hsm : SameC [(wr.heap.size, 0), (wr.heap.size, 1), (wr.heap.size, 2), (wr.heap.size, 3), (bs, os + y)] W1 w2 := by
        intro p hp
        simp only [List.mem_cons, List.not_mem_nil, or_false] at hp
        have hne : p.1 < W1.heap.size ∧ ∀ j, u5.ownBlock = some j → p.1 ≠ j := by
          rcases hp with rfl | rfl | rfl | rfl | rfl <;> exact ⟨by first | exact hbl | exact hbs1, fun j hj => by have := HOB.out j hj; show _ ≠ j; omega⟩
        exact (World.cell?_of_block (w := W) (hg2.block p.1 (by omega) (fun e => hne.2 p.1 e.symm rfl))).trans (hxa.cell _ _ hne.1)
      rw [← HST.out] at ho2
      clear ho1 hg2 hxa hX1 hbx hbf hcs1 q0 q1 q2 q3
      go_wp2_with fail
      refine ⟨hsm, ?_⟩
      repeat (go_big_quiet_step (fail))
      refine wpQuiet_nil ?_
      go_wp2_with fail
      go_roundw
      case rel => exact ⟨k + 1, _, by omega, by go_num, by rw [List.length_map, List.length_take]; have := hs.len; omega, hide rfl, ho2, hx2⟩
      case measure => simp [intOf]; omega
    · go_wp2_with fail
      go_ret
      exact ⟨_, L, rfl, ho, hide (by rw [HL.out, List.take_of_length_le (by rw [← hs.len]; omega)]), hx⟩
end Go.Proofs.YtfkpghdmljjegaaGreat
