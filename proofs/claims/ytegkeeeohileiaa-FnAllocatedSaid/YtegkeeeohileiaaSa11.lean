/-
  The rule for many orders, with operations that only pass values on: these are taken as soon as they may come up. No function of the program is named here.
-/
import Derived.Test.YtegkeeeohileiaaSa10
namespace Go.Proofs.Ytegkeeeohileiaa
open Go.RowKit
/-- what is asked of the operations that only pass values on -/
def stepsP (P : Program) (l : List Oper) (K : Nat → Value → World → Prop) (D : List (List Nat)) (bs : List (Nat × Nat)) (w0 : World) (a0 : Act) : List Nat → Prop
  | [] => True
  | i :: is => (∀ (ts : List Value) (w : World), ts.length = l.length → Ext w0 w → holdsL K ts w (nthD D i) →
      wpQuiet P l.toArray (GrowC bs w0) (fun a' => ∃ v, a' = (putAll a0 l ts).put (nthO l i).dst v ∧ K i v w) [nthO l i] (putAll a0 l ts)) ∧ stepsP P l K D bs w0 a0 is
theorem stepsP_at {P : Program} {l : List Oper} {K : Nat → Value → World → Prop} {D : List (List Nat)} {bs : List (Nat × Nat)} {w0 : World} {a0 : Act} : ∀ {is : List Nat}, stepsP P l K D bs w0 a0 is → ∀ i ∈ is, ∀ (ts : List Value) (w : World), ts.length = l.length → Ext w0 w → holdsL K ts w (nthD D i) →
      wpQuiet P l.toArray (GrowC bs w0) (fun a' => ∃ v, a' = (putAll a0 l ts).put (nthO l i).dst v ∧ K i v w) [nthO l i] (putAll a0 l ts)
  | [], _, i, hi => by cases hi
  | j :: is, h, i, hi => by
    rcases List.mem_cons.1 hi with rfl | hi
    · exact h.1
    · exact stepsP_at h.2 i hi
def okP (md : Region.Mode) (l : List Oper) (M : List Nat) (Ps : List Nat) (D : List (List Nat)) (tail : PhT) : Bool :=
  sepD l && (M ++ Ps).all (fun i => decide (i < l.length) && (bnd md l i).all (fun e => decide (e < i) && (M ++ Ps).contains e))
  && (List.range l.length).all (fun i => (nthD D i).all (fun d => (bnd md l i).any (fun e => e == d || (nthD D e).contains d)) && ((M ++ Ps).contains i || M.all (fun m => (nthD D i).contains m)))
  && decide (M ++ Ps).Nodup && decide ((M ++ Ps).length + tail.len = l.length) && okT md l tail ((List.range l.length).map (fun i => (M ++ Ps).contains i)).toArray
  && Ps.all (fun i => stillOp (nthO l i).op && Region.free md l.toArray ((List.range l.length).map (fun j => (nthD D i).contains j)).toArray i)
section
variable {P : Program} {md : Region.Mode} {l : List Oper} {Q : Exit → Act → World → Prop} {K : Nat → Value → World → Prop} {D : List (List Nat)} {M Ps : List Nat} {tail : PhT} {w0 : World} {a0 : Act} {bs : List (Nat × Nat)}
theorem wpAnyH_P (hs : Region.noSelect l.toArray = true) (hQ : ∀ c a w d v, Q (.panic c) (a.put d v) w → Q (.panic c) a w) (hok : okP md l M Ps D tail = true) (hK : ∀ i v w w', K i v w → Ext w w' → K i v w') (hst : stepsM P l Q K D w0 a0 M) (hsp : stepsP P l K D bs w0 a0 Ps) (hbs : ∀ q ∈ bs, q.1 < w0.heap.size)
    (hend : ∀ (ts : List Value) (w : World), ts.length = l.length → Ext w0 w → holdsL K ts w (M ++ Ps) → wpPhT P l Q bs w0 tail (putAll a0 l ts) w) :
    ∀ (k : Nat) (listed : Array Bool) (a : Act) (w : World), ((M ++ Ps).filter fun i => !listed.getD i true).length = k → InvM l K D (M ++ Ps) w0 a0 listed a w → wpAnyH P md l.toArray Q (SameC bs w0) (k + tail.len) listed a w := by
  have hok' := hok
  simp only [okP, Bool.and_eq_true, List.all_eq_true, List.any_eq_true, decide_eq_true_eq, beq_iff_eq, Bool.or_eq_true, List.contains_iff_mem, List.mem_range] at hok'
  obtain ⟨⟨⟨⟨⟨⟨o1, o2⟩, o3⟩, o4⟩, o5⟩, o6⟩, o7⟩ := hok'
  intro k
  induction k with
  | zero =>
    intro listed a w hk hI
    obtain ⟨ts, ht1, rfl, ht2⟩ := hI.val
    have hall : ∀ i ∈ M ++ Ps, listed.getD i false = true := fun i hi => by
      have h0 := List.length_eq_zero_iff.1 hk
      rw [List.filter_eq_nil_iff] at h0
      have := h0 i hi
      rw [getD_true (by rw [hI.size]; exact (o2 i hi).1)] at this
      simpa using this
    have hl : listed = ((List.range l.length).map (fun i => (M ++ Ps).contains i)).toArray := by
      apply Array.ext
      · simp [hI.size]
      · intro i h1 h2
        have e1 : listed[i] = listed.getD i false := by simp [Array.getD, h1]
        rw [e1]
        simp only [List.getElem_toArray, List.getElem_map, List.getElem_range]
        by_cases hm : i ∈ M ++ Ps
        · rw [hall i hm]; exact (List.contains_iff_mem.2 hm).symm
        · have : listed.getD i false = false := by
            cases hb : listed.getD i false
            · rfl
            · exact absurd (hI.sub i hb) hm
          rw [this]
          cases hc : (M ++ Ps).contains i
          · rfl
          · exact absurd (List.contains_iff_mem.1 hc) hm
    have := wpAnyC_phT (P := P) (md := md) (bs := bs) (w0 := w0) hs hQ tail listed (putAll a0 l ts) w (SameC.of_ext hI.ext hbs) (by rw [hl]; exact o6) (hend ts w ht1 hI.ext (holdsL_of fun d hd => ht2 d (hall d hd)))
    rw [Nat.zero_add]
    exact this
  | succ k ih =>
    intro listed a w hk hI
    have hmiss : ∃ m ∈ M ++ Ps, listed.getD m false = false := by
      have : ((M ++ Ps).filter fun i => !listed.getD i true) ≠ [] := fun h => by rw [h] at hk; simp at hk
      obtain ⟨m, hm⟩ := List.exists_mem_of_ne_nil _ this
      rw [List.mem_filter] at hm
      refine ⟨m, hm.1, ?_⟩
      have h := hm.2
      rw [getD_true (by rw [hI.size]; exact (o2 m hm.1).1)] at h
      simpa using h
    have hmin : ∃ m ∈ M ++ Ps, listed.getD m false = false ∧ m ∈ Region.ready md l.toArray listed := by
      obtain ⟨m, hm, hf⟩ := hmiss
      have go : ∀ (n m : Nat), m < n → m ∈ M ++ Ps → listed.getD m false = false → ∃ m ∈ M ++ Ps, listed.getD m false = false ∧ m ∈ Region.ready md l.toArray listed := by
        intro n
        induction n with
        | zero => intro m h; omega
        | succ n ihn =>
          intro m hmn hm hf
          by_cases hd : ∀ e ∈ bnd md l m, listed.getD e false = true
          · exact ⟨m, hm, hf, (ready_iff (o2 m hm).1).2 ⟨by rw [getD_true (by rw [hI.size]; exact (o2 m hm).1)]; exact hf, hd⟩⟩
          · simp only [Classical.not_forall] at hd
            obtain ⟨e, he, hne⟩ := hd
            have := (o2 m hm).2 e he
            exact ihn e (by omega) this.2 (by simpa using hne)
      exact go (m + 1) m (by omega) hm hf
    have hstep : ∀ (i : Nat) (a' : Act) (w' : World) (v : Value), i ∈ M ++ Ps → listed.getD i true = false → (∀ d ∈ nthD D i, listed.getD d false = true) → (∀ ts : List Value, a = putAll a0 l ts → (∀ i, listed.getD i false = true → K i (nthV ts i) w) → ts.length = l.length → a' = (putAll a0 l ts).put (nthO l i).dst v) → K i v w' → Ext w w' →
        ((M ++ Ps).filter fun j => !(listed.setIfInBounds i true).getD j true).length = k ∧ InvM l K D (M ++ Ps) w0 a0 (listed.setIfInBounds i true) a' w' := by
      intro i a' w' v hiM r1 hdl ha' hv hx
      obtain ⟨ts, ht1, hta, ht2⟩ := hI.val
      have hil := (o2 i hiM).1
      have hsz : i < listed.size := by rw [hI.size]; exact hil
      refine ⟨?_, ⟨by simp [hI.size], ?_, ?_, ⟨ts.set i v, by simp [ht1], by rw [ha' ts hta ht2 ht1]; exact putAll_put v l ts a0 i o1 hil ht1.symm, ?_⟩, hI.ext.trans hx⟩⟩
      · have := filter_less (p := fun j => !listed.getD j true) (p' := fun j => !(listed.setIfInBounds i true).getD j true) o4 hiM (by simpa using r1) (by simp [getD_set hsz]) (fun j hj => by simp only [getD_set hsz, if_neg (Ne.symm hj)])
        omega
      · intro j hj
        rw [getD_set hsz] at hj
        split at hj
        · rename_i e; subst e; exact hiM
        · exact hI.sub j hj
      · intro j hj d hd
        rw [getD_set hsz] at hj ⊢
        split
        · rfl
        · split at hj
          · rename_i e; subst e; exact hdl d hd
          · exact hI.down j hj d hd
      · intro j hj
        rw [getD_set hsz] at hj
        split at hj
        · rename_i e; subst e; rw [nthV_set_same (by rw [ht1]; exact hil)]; exact hv
        · rename_i e; rw [nthV_set_ne e]; exact hK _ _ _ _ (ht2 j hj) hx
    have hdeps : ∀ i, i < l.length → i ∈ Region.ready md l.toArray listed → listed.getD i true = false ∧ ∀ d ∈ nthD D i, listed.getD d false = true := fun i hil hi => by
      obtain ⟨r1, r2⟩ := (ready_iff hil).1 hi
      refine ⟨r1, fun d hd => ?_⟩
      obtain ⟨e, he, h⟩ := (o3 i hil).1 d hd
      rcases h with h | h
      · subst h; exact r2 e he
      · exact hI.down e (r2 e he) d h
    rw [Nat.add_right_comm]
    by_cases hp : ∃ p ∈ Ps, p ∈ Region.ready md l.toArray listed
    · obtain ⟨p, hpP, hpr⟩ := hp
      have hpM : p ∈ M ++ Ps := List.mem_append.2 (.inr hpP)
      have hpl := (o2 p hpM).1
      obtain ⟨r1, hdl⟩ := hdeps p hpl hpr
      obtain ⟨ts, ht1, rfl, ht2⟩ := hI.val
      have hq := stepsP_at hsp p hpP ts w ht1 hI.ext (holdsL_of fun d hd => ht2 d (hdl d hd))
      have hi : l.toArray[p]? = some (nthO l p) := by simpa using nthO_some hpl
      have hfree : ∀ j oj, l.toArray[j]? = some oj → j ≠ p → listed.getD j true = false → (∀ e ∈ oj.after, Region.binds md e = true → e.on ≠ p) → (nthO l p).apart l.toArray oj = true := fun j oj hj hne hun hno => by
        refine Region.free_spec hi (o7 p hpP).2 j oj hj hne ?_ hno
        have hjl : j < l.length := by simpa using (Array.getElem?_eq_some_iff.1 hj).1
        have hnot : (nthD D p).contains j = false := by
          cases hc : (nthD D p).contains j
          · rfl
          · have h1 := hdl j (List.contains_iff_mem.1 hc)
            rw [getD_true (by rw [hI.size]; exact hjl), h1] at hun
            cases hun
        simp [Array.getD, hjl]
        simpa using hnot
      unfold wpQuiet at hq
      by_cases hw : Region.wanted (nthO l p) (yielded l.toArray (putAll a0 l ts).tmps) = true
      · rw [if_pos hw] at hq
        obtain ⟨v, hv, hn⟩ := hq
        obtain ⟨v', hv1, hv2⟩ : ∃ v', (putAll a0 l ts).put (nthO l p).dst v = (putAll a0 l ts).put (nthO l p).dst v' ∧ K p v' w := hn
        obtain ⟨h1, h2⟩ := hstep p ((putAll a0 l ts).put (nthO l p).dst v) w v' hpM r1 hdl (fun ts' he _ _ => by rw [← he]; exact hv1) hv2 (Ext.refl w)
        exact wpAnyH_first hi (Region.noSelect_spec hs) (fun c a w => hQ c a w _ _) (k + tail.len) listed _ w hfree hpr (yields_of_quietC (o7 p hpP).1 hw hv) (SameC.of_ext hI.ext hbs) (ih _ _ w h1 h2)
      · rw [if_neg hw] at hq
        obtain ⟨v', hv1, hv2⟩ : ∃ v', (putAll a0 l ts).put (nthO l p).dst undef = (putAll a0 l ts).put (nthO l p).dst v' ∧ K p v' w := hq
        obtain ⟨h1, h2⟩ := hstep p ((putAll a0 l ts).put (nthO l p).dst undef) w v' hpM r1 hdl (fun ts' he _ _ => by rw [← he]; exact hv1) hv2 (Ext.refl w)
        exact wpAnyH_first hi (Region.noSelect_spec hs) (fun c a w => hQ c a w _ _) (k + tail.len) listed _ w hfree hpr (.inr ⟨by simpa using hw, rfl⟩) (SameC.of_ext hI.ext hbs) (ih _ _ w h1 h2)
    · refine ⟨fun h => ?_, fun i hi => ?_⟩
      · obtain ⟨m, _, _, hmr⟩ := hmin
        rw [h] at hmr
        cases hmr
      · have hil : i < l.length := by
          obtain ⟨_, o, ho, _⟩ := mem_ready.1 hi
          simpa using (Array.getElem?_eq_some_iff.1 ho).1
        obtain ⟨r1, hdl⟩ := hdeps i hil hi
        have hiM : i ∈ M := by
          rcases (o3 i hil).2 with h | h
          · rcases List.mem_append.1 h with h | h
            · exact h
            · exact absurd ⟨i, h, hi⟩ hp
          · obtain ⟨m, hm, hf, hmr⟩ := hmin
            rcases List.mem_append.1 hm with hm | hm
            · rw [hdl m (h m hm)] at hf; cases hf
            · exact absurd ⟨m, hm, hmr⟩ hp
        obtain ⟨ts, ht1, rfl, ht2⟩ := hI.val
        have hst1 := stepsM_at hst i hiM ts w ht1 hI.ext (holdsL_of fun d hd => ht2 d (hdl d hd))
        refine wpOp_mono (fun a' w' h' => ?_) (wpOp_one hil hst1)
        obtain ⟨hx, v, hav, hv⟩ := h'
        obtain ⟨h1, h2⟩ := hstep i a' w' v (List.mem_append.2 (.inl hiM)) r1 hdl (fun ts' he _ _ => by rw [← he]; exact hav) hv hx
        exact ⟨SameC.of_ext (hI.ext.trans hx) hbs, ih _ _ _ h1 h2⟩
/-- THE RULE: the operations M may come up in any order, those of Ps pass values on, the rest by a plan -/
theorem wp_region_KP {id : Nat} {a : Act} {w : World} (Ks : List (Value → World → Prop)) (M Ps : List Nat) (D : List (List Nat)) (bs : List (Nat × Nat)) (tail : PhT) (hm : P.follows .mixedOrders = true) (hc : (Region.noSelect l.toArray && okP .any l M Ps D tail) = true) (hQ : ∀ c a w d v, Q (.panic c) (a.put d v) w → Q (.panic c) a w)
    (hbs : ∀ q ∈ bs, q.1 < w.heap.size) (hK : stabL Ks) (hst : stepsM P l Q (nthK Ks) D w a M) (hsp : stepsP P l (nthK Ks) D bs w a Ps)
    (hend : ∀ (ts : List Value) (w' : World), ts.length = l.length → Ext w w' → holdsL (nthK Ks) ts w' (M ++ Ps) → wpPhT P l Q bs w tail (putAll a l ts) w') : (Code.region id l.toArray true).wp P Q a w := by
  simp only [Bool.and_eq_true] at hc
  have hok := hc.2
  simp only [okP, Bool.and_eq_true, decide_eq_true_eq] at hok
  have hlen := hok.1.1.2
  have hin : ∀ i ∈ M ++ Ps, i < l.length := fun i hi => by
    have := hok.1.1.1.1.1.2
    rw [List.all_eq_true] at this
    have := this i hi
    simp only [Bool.and_eq_true, decide_eq_true_eq] at this
    exact this.1
  refine wp_region_any hm (wpAny_of_held _ _ _ _ (S := SameC bs w) ?_)
  have hf : ((M ++ Ps).filter fun i => !(Array.replicate l.length false).getD i true).length = (M ++ Ps).length := by
    rw [List.filter_eq_self.2]
    intro i hi
    simp [Array.getD, hin i hi]
  have := wpAnyH_P (P := P) (md := .any) (bs := bs) hc.1 hQ hc.2 (fun i v w w' h hx => stabL_at hK i v w w' h hx) hst hsp hbs hend (M ++ Ps).length (Array.replicate l.length false) a w.drew hf ⟨by simp, ?_, ?_, ⟨l.map (ownV a), by simp, (putAll_own a l).symm, ?_⟩, (Ext.refl w).drew⟩
  · rw [hlen] at this
    simpa using this
  all_goals
    intro i hi
    have h1 := getD_lt hi
    simp at h1
    simp [Array.getD, h1] at hi
end
end Go.Proofs.Ytegkeeeohileiaa
