/-
  Plain lemmas: what append and a source's draw keep. No function of the program is named here. Plain lemmas: a world of which some blocks have turned; slices of the call's own, by their address; blocks that are apart. No function of the program is named here. append of a whole slice: which block alone may turn. No function of the program is named here. A source of numbers that is drawn from: the code, the source's block, and what turned. Plain lemmas on texts: a numeral is read as the number that it was written of; words and lines. No function of the program is named here. A region that draws its order and holds loads beside stores and calls that turn memory elsewhere: the cells that are read are named and stay. No function of the program is named here. A region that draws its order where two operations may come up: both orders are walked. No function of the program is named here.
-/
import Derived.Test.YtfkpghdmljjegaaGreatVc01
import Derived.Test.YtfkpghdmljjegaaGreatVc00
import Derived.Lib.ItoaMem
import Derived.Lib.ParseIntBCases
import Derived.Lib.SplitLaws
import Derived.Lib.Join
namespace Go.Proofs.YtfkpghdmljjegaaGreat
open Go.RowKit

/-- the blocks below base stayed -/
structure Kept (base : Nat) (w w' : World) : Prop where
  os : w'.os = w.os
  tape : w'.tape = w.tape
  output : w'.output = w.output
  size : base ≤ w'.heap.size
  block : ∀ k, k < base → w'.heap[k]? = w.heap[k]?
section
variable {α : Type} {w w' : World} {base g : Nat} {e : TypeId} {size : Nat} {f : α → List Value} {v : Value} {L : List α}
theorem OwnL.only (h : OwnL w base e size f v L) (hx : Only g w w') (hg : g < base) : OwnL w' base e size f v L := by
  obtain ⟨h1, h2⟩ := h
  refine ⟨h1, ?_⟩
  rcases h2 with h2 | ⟨k, cap, cur, hv, hb, hh, r⟩
  · exact .inl h2
  · refine .inr ⟨k, cap, cur, hv, hb, ?_, r⟩
    have hlt : k < w.heap.size := by
      rcases Nat.lt_or_ge k w.heap.size with hlt | hge
      · exact hlt
      · rw [Array.getElem?_eq_none hge] at hh; cases hh
    exact (hx.block k hlt (by simp; omega)).trans hh
end
end Go.Proofs.YtfkpghdmljjegaaGreat

namespace Go.Proofs.YtfkpghdmljjegaaGreat
open Go.RowKit

/-- only blocks of S have turned -/
structure Turn (S : Nat → Prop) (w w' : World) : Prop where
  os : w'.os = w.os
  tape : w'.tape = w.tape
  output : w'.output = w.output
  size : w.heap.size ≤ w'.heap.size
  block : ∀ k, k < w.heap.size → ¬ S k → w'.heap[k]? = w.heap[k]?
section
variable {S S' : Nat → Prop} {w w' w'' : World}
theorem Turn.of_ext (h : Ext w w') : Turn S w w' := ⟨h.os, h.tape, h.output, h.size, fun k hk _ => h.block k hk⟩
theorem Turn.refl (w : World) : Turn S w w := Turn.of_ext (Ext.refl _)
theorem Turn.of_only {g : Nat} (h : Only g w w') (hg : g < w.heap.size → S g) : Turn S w w' :=
  ⟨h.os, h.tape, h.output, h.size, fun k hk hne => h.block k hk (by intro e; simp at e; subst e; exact hne (hg hk))⟩
theorem Turn.trans (h : Turn S w w') (k : Turn S w' w'') : Turn S w w'' :=
  ⟨k.os.trans h.os, k.tape.trans h.tape, k.output.trans h.output, Nat.le_trans h.size k.size, fun i hi hne => (k.block i (Nat.lt_of_lt_of_le hi h.size) hne).trans (h.block i hi hne)⟩
theorem Turn.mono (h : Turn S w w') (hs : ∀ k, S k → S' k) : Turn S' w w' := ⟨h.os, h.tape, h.output, h.size, fun k hk hne => h.block k hk (fun h' => hne (hs k h'))⟩
theorem Ext.turn {w0 : World} (h : Ext w0 w) (k : Turn S w w') (hs : ∀ b, S b → w0.heap.size ≤ b) : Ext w0 w' :=
  ⟨k.os.trans h.os, k.tape.trans h.tape, k.output.trans h.output, Nat.le_trans h.size k.size, fun i hi => (k.block i (Nat.lt_of_lt_of_le hi h.size) (fun h' => by have := hs i h'; omega)).trans (h.block i hi)⟩
theorem Turn.cell (h : Turn S w w') {b o : Nat} (hb : b < w.heap.size) (hne : ¬ S b) : w'.cell? ⟨b, o, none⟩ = w.cell? ⟨b, o, none⟩ := World.cell?_of_block (w := w) (h.block b hb hne)
theorem Row.turn {t : TypeId} {cs : List Value} {g : Nat} (h : Row w g t cs) (k : Turn S w w') (hne : ¬ S g) : Row w' g t cs := (k.block g h.lt hne).trans h
end
/-- the block of a slice that is not empty -/
def blkOf (A : Option Addr) (n : Nat) : Option Nat := if n = 0 then none else A.map Addr.block
/-- a slice of the call's own, by its address -/
def OwnA {α : Type} (w : World) (t : TypeId) (f : α → List Value) (A : Option Addr) (n c : Nat) (xs : List α) : Prop :=
  n = xs.length ∧ n ≤ c ∧ c ≤ 9223372036854775807 ∧ (0 < n → ∃ g, A = some ⟨g, 0, none⟩ ∧ ∃ rest, Row w g t (xs.flatMap f ++ rest))
section
variable {α : Type} {S : Nat → Prop} {w w' : World} {t : TypeId} {f : α → List Value} {size : Nat} {A : Option Addr} {n c g : Nat} {xs : List α}
theorem OwnS.toA (h : OwnS w g t f A n xs) (hc : n ≤ c) (hm : c ≤ 9223372036854775807) : OwnA w t f A n c xs := ⟨h.1, hc, hm, fun hn => ⟨g, h.2 hn⟩⟩
theorem OwnS.blk (h : OwnS w g t f A n xs) {b : Nat} (hb : blkOf A n = some b) : b = g ∧ 0 < n := by
  unfold blkOf at hb
  split at hb
  · cases hb
  · have hn : 0 < n := by omega
    rw [(h.2 hn).1] at hb
    simp at hb
    exact ⟨hb.symm, hn⟩
theorem RowOf.toA (h : RowOf w g t f xs) (hn : n = xs.length) (hc : n ≤ c) (hm : c ≤ 9223372036854775807) : OwnA w t f (some ⟨g, 0, none⟩) n c xs := by
  subst hn
  exact (OwnS.of_row h).toA hc hm
theorem OwnA.ext (h : OwnA w t f A n c xs) (hx : Ext w w') : OwnA w' t f A n c xs := ⟨h.1, h.2.1, h.2.2.1, fun hn => let ⟨g, hA, r, hr⟩ := h.2.2.2 hn; ⟨g, hA, r, hr.ext hx⟩⟩
theorem OwnA.turn (h : OwnA w t f A n c xs) (k : Turn S w w') (hne : ∀ b, blkOf A n = some b → ¬ S b) : OwnA w' t f A n c xs :=
  ⟨h.1, h.2.1, h.2.2.1, fun hn => let ⟨g, hA, r, hr⟩ := h.2.2.2 hn; ⟨g, hA, r, hr.turn k (hne g (by unfold blkOf; rw [if_neg (by omega), hA]; rfl))⟩⟩
theorem OwnA.own (h : OwnA w t f A n c xs) : ∃ g, OwnS w g t f A n xs ∧ (g < w.heap.size → blkOf A n = some g) := by
  by_cases hn : 0 < n
  · obtain ⟨g, hA, r, hr⟩ := h.2.2.2 hn
    exact ⟨g, ⟨h.1, fun _ => ⟨hA, r, hr⟩⟩, fun _ => by unfold blkOf; rw [if_neg (by omega), hA]; rfl⟩
  · exact ⟨w.heap.size, ⟨h.1, fun h0 => absurd h0 hn⟩, fun h0 => absurd h0 (Nat.lt_irrefl _)⟩
theorem OwnA.slice (h : OwnA w t f A n c xs) (hf : ∀ x, (f x).length = size) : SliceOf w size f A n c xs := by
  obtain ⟨g, ho, _⟩ := h.own
  exact ho.slice hf h.2.1 h.2.2.1
theorem OwnA.lt (h : OwnA w t f A n c xs) {b : Nat} (hb : blkOf A n = some b) : b < w.heap.size := by
  obtain ⟨g, ho, _⟩ := h.own
  obtain ⟨rfl, hn⟩ := ho.blk hb
  exact ho.lt hn
theorem SliceOf.turn (h : SliceOf w size f A n c xs) (k : Turn S w w') (hne : ∀ b, blkOf A n = some b → ¬ S b) : SliceOf w' size f A n c xs := by
  obtain ⟨h1, h2, h3, h4⟩ := h
  refine ⟨h1, h2, h3, fun hn => ?_⟩
  obtain ⟨b, off, hA, hb, hc⟩ := h4 hn
  exact ⟨b, off, hA, Nat.lt_of_lt_of_le hb k.size, fun i x hx j u hu => (k.cell hb (hne b (by unfold blkOf; rw [if_neg (by omega), hA]; rfl))).trans (hc i x hx j u hu)⟩
theorem SliceOf.blk (h : SliceOf w size f A n c xs) {b : Nat} (hb : blkOf A n = some b) : b < w.heap.size := by
  unfold blkOf at hb
  split at hb
  · cases hb
  · obtain ⟨b', off, hA, hlt, _⟩ := h.2.2.2 (by omega)
    rw [hA] at hb
    simp at hb
    omega
end
/-- blocks that are apart -/
def SepL (l : List (Option Nat)) : Prop := ∀ (i j b : Nat), i ≠ j → l[i]? = some (some b) → l[j]? ≠ some (some b)
end Go.Proofs.YtfkpghdmljjegaaGreat

namespace Go.Proofs.YtfkpghdmljjegaaGreat
open Go.RowKit
section
variable {P : Program}
theorem OwnL.grown {α : Type} {w w' : World} {base : Nat} {e : TypeId} {size : Nat} {f : α → List Value} {v : Value} {L : List α} {row : Option Nat} (h : OwnL w base e size f v L) (hx : w.grownBy w' row) (hne : ∀ k, v.ownBlock = some k → row ≠ some k) : OwnL w' base e size f v L := by
  obtain ⟨h1, h2⟩ := h
  refine ⟨h1, ?_⟩
  rcases h2 with h2 | ⟨k, cap, cur, hv, hb, hh, r⟩
  · exact .inl h2
  · refine .inr ⟨k, cap, cur, hv, hb, ?_, r⟩
    have hlt : k < w.heap.size := by
      rcases Nat.lt_or_ge k w.heap.size with hlt | hge
      · exact hlt
      · rw [Array.getElem?_eq_none hge] at hh; cases hh
    exact (hx.block k hlt (fun e => hne k (by rw [hv]; rfl) e.symm)).trans hh
theorem wpList_append_grow {α : Type} {ops : Array Oper} {rest : List Oper} {o : Oper} {a : Act} {Q : Exit → Act → World → Prop} {w : World} (hgd : o.guard = none) (s x : Operand) (t : TypeId)
    (ho : o.op = .call { callee := .builtin .append, args := #[s, x], argTypes := #[t, t] }) (base : Nat) (e : TypeId) (z : Value) (size bytes : Nat) (ht : P.underlying t = some (.slice e))
    (hi : (P.info? e).map (fun i => (i.zero, i.size, i.bytes)) = some (some z, size, bytes)) (hzs : z.cells.size = size) (hsz : 0 < size) (f : α → List Value) (hf : ∀ y, (f y).length = size) (h1 : ∀ y, ∀ u ∈ f y, u.oneCell' = true)
    (v : Value) (L : List α) (hs : a.eval s = v) (hown : OwnL w base e size f v L) (A : Option Addr) (m c : Nat) (ys : List α) (hx : a.eval x = .slice A m c) (hsrc : SliceOf w size f A m c ys)
    (hlen : L.length + m ≤ 1000000000) (hb : bytes ≤ 10000) (hbase : base ≤ w.heap.size)
    (h : ∀ v' w', OwnL w' base e size f v' (L ++ ys) → w.grownBy w' v.ownBlock → wpList P ops Q rest (a.put o.dst v') w') : wpList P ops Q (o :: rest) a w := by
  cases A with
  | none =>
    obtain ⟨rfl, rfl⟩ := hsrc.none_nil
    obtain ⟨i, hi1, _⟩ := info_parts hi
    refine Lib.wpList_append_run w hgd s x t t ho v (.slice none 0 c) hs hx v w (run_append_of_nil w base t o.type e i size ht hi1 v L.length (L.flatMap f) hown c) (h v w (by rw [List.append_nil]; exact hown) ⟨rfl, rfl, rfl, Nat.le_refl _, fun _ _ _ => rfl⟩)
  | some ad =>
    obtain ⟨i, hi1, hi2, hi3, hi4⟩ := info_parts hi
    obtain ⟨hm, hc1, hc2, hc3⟩ := hsrc
    refine wpList_append_own w hgd s x t ho base e i z size bytes ht hi1 hi2 hi3 hi4 hzs hsz v L.length (L.flatMap f) hs hown ad m c (ys.flatMap f) hx (by rw [flat_len hf, hm]) ?_ ?_ (by simp only [maxLen]; omega) ?_ hbase ?_
    · intro j u hu
      have hj : j < (ys.flatMap f).length := (List.getElem?_eq_some_iff.1 hu).1
      rw [flat_len hf] at hj
      have hm0 : 0 < m := by
        rcases Nat.eq_zero_or_pos m with h0 | h0
        · rw [← hm, h0] at hj; omega
        · exact h0
      obtain ⟨b, off, hA, _, hc⟩ := hc3 hm0
      injection hA with hA
      subst hA
      have hadd : (Addr.add ⟨b, off, none⟩ j) = ⟨b, off + j, none⟩ := by unfold Addr.add; split <;> simp_all
      rw [hadd]
      have hq : j / size < ys.length := by
        apply Nat.div_lt_of_lt_mul; rw [Nat.mul_comm]; exact hj
      have hy : ys[j / size]? = some ys[j / size] := List.getElem?_eq_getElem hq
      have hr : j % size < (f ys[j / size]).length := by rw [hf]; exact Nat.mod_lt _ hsz
      have hu' : (f ys[j / size])[j % size]? = some ((f ys[j / size])[j % size]) := List.getElem?_eq_getElem hr
      have hfl := flat_get hf hy hu'
      have hjj : j / size * size + j % size = j := by rw [Nat.mul_comm]; exact Nat.div_add_mod j size
      rw [hjj] at hfl
      rw [hfl] at hu
      injection hu with hu
      rw [← hu]
      have := hc _ _ hy _ _ hu'
      rw [Nat.add_assoc, hjj] at this
      exact this
    · intro u hu
      obtain ⟨y, _, hy⟩ := List.mem_flatMap.1 hu
      exact h1 y u hy
    · have : (L.length + m) * bytes ≤ 1000000000 * 10000 := Nat.mul_le_mul hlen hb
      omega
    · intro v' w' h2 h3 _
      refine h v' w' ?_ h3
      unfold OwnL
      rw [List.length_append, List.flatMap_append, ← hm]
      exact h2
end
end Go.Proofs.YtfkpghdmljjegaaGreat

namespace Go.Proofs.YtfkpghdmljjegaaGreat
open Go.RowKit
/-- a source behind a pointer, with the code that it reads -/
structure Src (w0 w : World) (a : Nat) (A : Option Addr) (n c : Nat) : Prop where
  code : ∃ bs, SliceOf w0 1 byteC A n c bs ∧ ∀ z ∈ bs, 0 ≤ z ∧ z ≤ 255
  hn : n ≤ 1048576
  le0 : w0.heap.size ≤ a
  ext : Ext w0 w
  src : SrcAt w a A n c
section
variable {w0 w w' w'' : World} {a n c : Nat} {A : Option Addr}
theorem Src.lt (h : Src w0 w a A n c) : a < w.heap.size := let ⟨_, _, hr, _⟩ := h.src; hr.lt
theorem Src.more (h : Src w0 w a A n c) (hx : Ext w w') : Src w0 w' a A n c :=
  ⟨h.code, h.hn, h.le0, h.ext.trans hx, let ⟨p, s, hr, r⟩ := h.src; ⟨p, s, hr.ext hx, r⟩⟩
theorem Src.draw (h : Src w0 w a A n c) (ho : Only a w w') (hs : SrcAt w' a A n c) : Src w0 w' a A n c := ⟨h.code, h.hn, h.le0, h.ext.only ho h.le0, hs⟩
theorem Only.grown {g : Nat} {row : Option Nat} (h : Only g w w') (hg : w'.grownBy w'' row) (hr : ∀ k, row = some k → w.heap.size ≤ k ∨ k = g) : Only g w w'' := by
  refine ⟨hg.os.trans h.os, hg.tape.trans h.tape, hg.output.trans h.output, Nat.le_trans h.size hg.size, fun k hk hne => ?_⟩
  refine (hg.block k (Nat.lt_of_lt_of_le hk h.size) (fun e => ?_)).trans (h.block k hk hne)
  rcases hr k e.symm with h1 | h1
  · omega
  · subst h1; exact hne rfl
theorem Row.grown {t : TypeId} {cs : List Value} {g : Nat} {row : Option Nat} (h : Row w g t cs) (hg : w.grownBy w' row) (hr : row ≠ some g) : Row w' g t cs := (hg.block g h.lt (Ne.symm hr)).trans h
theorem Src.grow {row : Option Nat} (h : Src w0 w a A n c) (hg : w.grownBy w' row) (hr : ∀ k, row = some k → w0.heap.size ≤ k ∧ k ≠ a) : Src w0 w' a A n c :=
  ⟨h.code, h.hn, h.le0, h.ext.grown hg (fun k hk => (hr k hk).1), let ⟨p, s, hR, r⟩ := h.src; ⟨p, s, hR.grown hg (fun e => (hr a e).2 rfl), r⟩⟩
theorem Src.set (h : Src w0 w a A n c) {p : Addr} (h0 : w0.heap.size ≤ p.block) (h1 : p.block ≠ a) (u : Value) : Src w0 (w.setCell p u) a A n c :=
  ⟨h.code, h.hn, h.le0, h.ext.setCell h0 u, let ⟨q, s, hR, r⟩ := h.src; ⟨q, s, hR.far (Ne.symm h1) u, r⟩⟩
/-- a number below m (0 where m is 1 or less) -/
def NextN (m : Int) (w0 : World) (a : Nat) (A : Option Addr) (n c : Nat) (w : World) (e : Ending) (w' : World) : Prop :=
  ∃ x : Int, e = .returned (.int .i64 x) ∧ 0 ≤ x ∧ (x < m ∨ x = 0) ∧ Src w0 w' a A n c ∧ Only a w w'
theorem c_next (m : Int) (h : Src w0 w a A n c) (h1 : -9000000000000000000 ≤ m) (h2 : m ≤ 9000000000000000000) :
    Calls Tryz.prog 89 #[.pointer (some ⟨a, 0, none⟩), .int .i64 m] w (NextN m w0 a A n c w) := by
  obtain ⟨bs, hbs, hbd⟩ := h.code
  refine (c_l01Next a m A n c bs w0 w hbs hbd h.ext h.le0 h.src h.hn h1 h2).mono ?_
  rintro e w' ⟨x, rfl, hx0, hx1, hs, ho⟩
  exact ⟨x, rfl, hx0, hx1, h.draw ho hs, ho⟩
theorem OwnL.apart {α β : Type} {base base' : Nat} {e e' : TypeId} {size size' : Nat} {f : α → List Value} {f' : β → List Value} {v v' : Value} {L : List α} {L' : List β} (h : OwnL w base e size f v L) (h' : OwnL w base' e' size' f' v' L') (hne : e ≠ e') : ∀ k, v'.ownBlock = some k → v.ownBlock ≠ some k := by
  intro k hk hk2
  rcases h.2 with ⟨rfl, _⟩ | ⟨g, cap, cur, rfl, _, hh, _⟩
  · cases hk2
  · rcases h'.2 with ⟨rfl, _⟩ | ⟨g', cap', cur', rfl, _, hh', _⟩
    · cases hk
    · simp [Value.ownBlock] at hk hk2
      subst hk hk2
      rw [hh] at hh'
      simp only [Option.some.injEq, Obj.cells.injEq] at hh'
      exact hne hh'.2.1
theorem OwnL.not_row {α : Type} {base : Nat} {e : TypeId} {size : Nat} {f : α → List Value} {v : Value} {L : List α} {g : Nat} {cs : List Value} {t : TypeId} (h : OwnL w base e size f v L) (hr : Row w g t cs) (ht : t ≠ e) : ∀ k, v.ownBlock = some k → (some g : Option Nat) ≠ some k := by
  intro k hk hg
  simp only [Option.some.injEq] at hg
  subst hg
  rcases h.2 with ⟨rfl, _⟩ | ⟨g', cap, cur, rfl, _, hh, _⟩
  · cases hk
  · simp [Value.ownBlock] at hk
    subst hk
    unfold Row at hr
    rw [hr] at hh
    simp only [Option.some.injEq, Obj.cells.injEq] at hh
    exact ht hh.2.1
theorem OwnL.put {α : Type} {base : Nat} {e : TypeId} {size : Nat} {f : α → List Value} {v : Value} {L : List α} {g : Nat} {cs : List Value} {t : TypeId} (h : OwnL w base e size f v L) (hr : Row w g t cs) (ht : t ≠ e) (o : Nat) (vs : List Value) : OwnL (putCells w g o vs) base e size f v L :=
  h.grown ((Only.refl g w).put o vs) (fun k hk => h.not_row hr ht k hk)
theorem Only.putNew (h : Only a w w') {g : Nat} (hg : w.heap.size ≤ g) (o : Nat) (vs : List Value) : Only a w (putCells w' g o vs) := h.grown ((Only.refl g w').put o vs) (fun k e => by simp at e; omega)
theorem Src.put (h : Src w0 w a A n c) {g : Nat} (h0 : w0.heap.size ≤ g) (h1 : g ≠ a) (o : Nat) (vs : List Value) : Src w0 (putCells w g o vs) a A n c := h.grow ((Only.refl g w).put o vs) (fun k e => by simp at e; omega)
end
end Go.Proofs.YtfkpghdmljjegaaGreat

namespace Go.Proofs.YtfkpghdmljjegaaGreat
open Go.Lib
end Go.Proofs.YtfkpghdmljjegaaGreat

namespace Go.Proofs.YtfkpghdmljjegaaGreat
open Go.RowKit

/-- the named cells stay -/
def SameC (cs : List (Nat × Nat)) (w x : World) : Prop := ∀ q ∈ cs, x.cell? ⟨q.1, q.2, none⟩ = w.cell? ⟨q.1, q.2, none⟩
theorem SameC.refl (cs : List (Nat × Nat)) (w : World) : SameC cs w w := fun _ _ => rfl
theorem SameC.trans {cs : List (Nat × Nat)} {a b c : World} (h : SameC cs a b) (k : SameC cs b c) : SameC cs a c := fun i hi => (k i hi).trans (h i hi)
theorem SameC.drew {cs : List (Nat × Nat)} {a b : World} (h : SameC cs a b) : SameC cs a b.drew := h
theorem SameC.of_ext {cs : List (Nat × Nat)} {a b : World} (h : Ext a b) (hb : ∀ q ∈ cs, q.1 < a.heap.size) : SameC cs a b := fun q hq => h.cell q.1 q.2 (hb q hq)
theorem SameC.of_only {cs : List (Nat × Nat)} {g : Nat} {a b : World} (h : Only g a b) (hb : ∀ q ∈ cs, q.1 < a.heap.size ∧ q.1 ≠ g) : SameC cs a b := fun q hq => h.cell (hb q hq).1 (hb q hq).2
theorem SameC.setCell {cs : List (Nat × Nat)} {a b : World} (h : SameC cs a b) {p : Addr} (hp : ∀ q ∈ cs, q.1 ≠ p.block ∨ q.2 ≠ p.off) (u : Value) : SameC cs a (b.setCell p u) := fun q hq => by
  rw [World.cell?_setCell_other _ _ _ _ (fun e => by
    rcases hp q hq with h1 | h1
    · exact h1 (by rw [e])
    · exact h1 (by rw [e]))]
  exact h q hq
open Classical in
noncomputable def laterC (cs : List (Nat × Nat)) (w x : World) : World := if SameC cs w x then x else w
theorem laterC_of {cs : List (Nat × Nat)} {w x : World} (h : SameC cs w x) : laterC cs w x = x := by rw [laterC, if_pos h]
theorem same_laterC (cs : List (Nat × Nat)) (w x : World) : SameC cs w (laterC cs w x) := by
  unfold laterC; split
  · assumption
  · exact SameC.refl _ _
@[go_sem] theorem laterC_cell1 (cs : List (Nat × Nat)) (w x : World) (b o : Nat) : (laterC ((b, o) :: cs) w x).cell? ⟨b, o, none⟩ = w.cell? ⟨b, o, none⟩ := same_laterC _ w x (b, o) (by simp)
@[go_sem] theorem laterC_cell2 (cs : List (Nat × Nat)) (w x : World) (q1 : Nat × Nat) (b o : Nat) : (laterC (q1 :: (b, o) :: cs) w x).cell? ⟨b, o, none⟩ = w.cell? ⟨b, o, none⟩ := same_laterC _ w x (b, o) (by simp)
@[go_sem] theorem laterC_cell3 (cs : List (Nat × Nat)) (w x : World) (q1 q2 : Nat × Nat) (b o : Nat) : (laterC (q1 :: q2 :: (b, o) :: cs) w x).cell? ⟨b, o, none⟩ = w.cell? ⟨b, o, none⟩ := same_laterC _ w x (b, o) (by simp)
@[go_sem] theorem laterC_cell4 (cs : List (Nat × Nat)) (w x : World) (q1 q2 q3 : Nat × Nat) (b o : Nat) : (laterC (q1 :: q2 :: q3 :: (b, o) :: cs) w x).cell? ⟨b, o, none⟩ = w.cell? ⟨b, o, none⟩ := same_laterC _ w x (b, o) (by simp)
@[go_sem] theorem laterC_cell5 (cs : List (Nat × Nat)) (w x : World) (q1 q2 q3 q4 : Nat × Nat) (b o : Nat) : (laterC (q1 :: q2 :: q3 :: q4 :: (b, o) :: cs) w x).cell? ⟨b, o, none⟩ = w.cell? ⟨b, o, none⟩ := same_laterC _ w x (b, o) (by simp)

abbrev GrowC (bs : List (Nat × Nat)) (w : World) : World → Prop := fun w' => ∃ x, w' = laterC bs w x
theorem yields_of_quietC {P : Program} {ops : Array Oper} {o : Oper} {bs : List (Nat × Nat)} (ho : stillOp o.op = true) {a : Act} {w : World} {v : Value} (hw : Region.wanted o (yielded ops a.tmps) = true)
    (h : ∀ w', GrowC bs w w' → o.quietAt P a (GrowC bs w) w' v) : YieldsIf P ops (SameC bs w) o v a := by
  refine .inl ⟨hw, fun w' hx => ?_⟩
  have h1 := h w' ⟨w', (laterC_of hx).symm⟩
  unfold Oper.quietAt at h1
  cases hr : (execOp a.eval o).run P w' with
  | halt x w1 => rw [hr] at h1; simp [Oper.quietUpon] at h1
  | ok n w1 =>
    obtain ⟨u, rfl⟩ := still_value ho hr
    rw [hr] at h1
    simp only [Oper.quietUpon] at h1
    rw [h1.1, h1.2]
theorem wpAnyC_still {P : Program} {md : Region.Mode} {l : List Oper} {Q : Exit → Act → World → Prop} {bs : List (Nat × Nat)} {w0 w : World} (hw0 : SameC bs w0 w) (hs : Region.noSelect l.toArray = true) (hQ : ∀ c a w d v, Q (.panic c) (a.put d v) w → Q (.panic c) a w) {fuel : Nat} {listed' : Array Bool} {K : Act → Prop}
    (hK : ∀ a, K a → wpAnyH P md l.toArray Q (SameC bs w0) fuel listed' a w) : ∀ (is : List Nat) (listed : Array Bool) (a : Act), goStill md l listed is = some listed' → wpQuiet P l.toArray (GrowC bs w0) K (pickL l is) a →
      wpAnyH P md l.toArray Q (SameC bs w0) (fuel + is.length) listed a w := by
  intro is
  induction is with
  | nil =>
    intro listed a hg h
    simp only [goStill, Option.some.injEq] at hg
    subst hg
    exact hK a h
  | cons i is ih =>
    intro listed a hg h
    unfold goStill at hg
    split at hg
    · rename_i hc
      simp only [Bool.and_eq_true, decide_eq_true_eq] at hc
      obtain ⟨⟨⟨h1, h2⟩, h3⟩, h4⟩ := hc
      have hi : l.toArray[i]? = some (nthO l i) := by simpa using nthO_some h1
      simp only [pickL, wpQuiet] at h
      by_cases hw : Region.wanted (nthO l i) (yielded l.toArray a.tmps) = true
      · rw [if_pos hw] at h
        obtain ⟨v, hv, hn⟩ := h
        exact wpAnyH_first hi (Region.noSelect_spec hs) (fun c a w => hQ c a w _ _) (fuel + is.length) listed a w (Region.free_spec hi h3) (by simpa using h4) (yields_of_quietC h2 hw hv) hw0 (ih _ _ hg hn)
      · rw [if_neg hw] at h
        exact wpAnyH_first hi (Region.noSelect_spec hs) (fun c a w => hQ c a w _ _) (fuel + is.length) listed a w (Region.free_spec hi h3) (by simpa using h4) (.inr ⟨by simpa using hw, rfl⟩) hw0 (ih _ _ hg h)
    · cases hg
def wpPhC (P : Program) (l : List Oper) (Q : Exit → Act → World → Prop) (bs : List (Nat × Nat)) (w0 : World) : List (List Nat × Nat) → List Nat → Act → World → Prop
  | [], last, a, w => wpQuiet P l.toArray (fun w' => ∃ x, w' = laterC bs w0 x) (fun a' => Q .normal a' w) (pickL l last) a
  | (is, j) :: r, last, a, w => wpQuiet P l.toArray (fun w' => ∃ x, w' = laterC bs w0 x) (fun a' => wpList P l.toArray (Exit.then (fun a'' w'' => SameC bs w0 w'' ∧ wpPhC P l Q bs w0 r last a'' w'') Q) [nthO l j] a' w) (pickL l is) a
theorem wpAnyC_ph {P : Program} {md : Region.Mode} {l : List Oper} {Q : Exit → Act → World → Prop} {bs : List (Nat × Nat)} {w0 : World} (hs : Region.noSelect l.toArray = true) (hQ : ∀ c a w d v, Q (.panic c) (a.put d v) w → Q (.panic c) a w) (last : List Nat) :
    ∀ (ph : List (List Nat × Nat)) (listed : Array Bool) (a : Act) (w : World), SameC bs w0 w → okPh md l listed ph last = true → wpPhC P l Q bs w0 ph last a w → wpAnyH P md l.toArray Q (SameC bs w0) (phLen ph last) listed a w := by
  intro ph
  induction ph with
  | nil =>
    intro listed a w hw0 ho h
    unfold okPh at ho
    cases hg : goStill md l listed last with
    | none => rw [hg] at ho; simp at ho
    | some listed' =>
      rw [hg] at ho
      have he : Region.ready md l.toArray listed' = [] := by simpa using ho
      have := wpAnyC_still (fuel := 0) hw0 hs hQ (K := fun a' => Q .normal a' w) (fun a' ha => ⟨he, ha⟩) last listed a hg h
      simpa [phLen] using this
  | cons p r ih =>
    obtain ⟨is, j⟩ := p
    intro listed a w hw0 ho h
    unfold okPh at ho
    cases hg : goStill md l listed is with
    | none => rw [hg] at ho; simp at ho
    | some listed' =>
      rw [hg] at ho
      simp only [Bool.and_eq_true, decide_eq_true_eq, beq_iff_eq] at ho
      obtain ⟨⟨hj, hr⟩, ho⟩ := ho
      refine wpAnyC_still (fuel := phLen r last + 1) hw0 hs hQ (fun a' ha => ?_) is listed a hg h
      refine ⟨fun h0 => (by rw [hr] at h0; cases h0), fun i hi => ?_⟩
      rw [hr] at hi
      obtain rfl : i = j := by simpa using hi
      exact wpOp_mono (fun a'' w'' h' => ⟨h'.1, ih _ a'' w'' h'.1 ho h'.2⟩) (wpOp_one hj ha)
/-- THE RULE: the cells 'bs' stay; by phases that the kernel checks -/
theorem wp_region_phC {P : Program} {id : Nat} {Q : Exit → Act → World → Prop} {a : Act} {w : World} {l : List Oper} (bs : List (Nat × Nat)) (ph : List (List Nat × Nat)) (last : List Nat) (hm : P.follows .mixedOrders = true)
    (hc : (Region.noSelect l.toArray && decide (phLen ph last = l.length) && okPh .any l (Array.replicate l.length false) ph last) = true) (hQ : ∀ c a w d v, Q (.panic c) (a.put d v) w → Q (.panic c) a w)
    (h : wpPhC P l Q bs w ph last a w.drew) : (Code.region id l.toArray true).wp P Q a w := by
  simp only [Bool.and_eq_true, decide_eq_true_eq] at hc
  obtain ⟨⟨hs, hl⟩, ho⟩ := hc
  refine wp_region_any hm (wpAny_of_held _ _ _ _ (S := SameC bs w) ?_)
  have := wpAnyC_ph (P := P) (md := .any) (w0 := w) (bs := bs) hs hQ last ph _ a w.drew (SameC.refl bs w).drew ho h
  rw [hl] at this
  simpa using this
end Go.Proofs.YtfkpghdmljjegaaGreat

namespace Go.Proofs.YtfkpghdmljjegaaGreat
open Go.RowKit

/-- a plan: what only reads first, then the one operation, or the two, that may come up -/
inductive PhT where
  | last (is : List Nat)
  | one (is : List Nat) (j : Nat) (r : PhT)
  | two (is : List Nat) (j : Nat) (r : PhT) (k : Nat) (r' : PhT)
def PhT.len : PhT → Nat
  | .last is => is.length
  | .one is _ r => r.len + 1 + is.length
  | .two is _ r _ _ => r.len + 1 + is.length
def okT (md : Region.Mode) (l : List Oper) : PhT → Array Bool → Bool
  | .last is, listed => match goStill md l listed is with
    | some listed' => (Region.ready md l.toArray listed').isEmpty
    | none => false
  | .one is j r, listed => match goStill md l listed is with
    | some listed' => decide (j < l.length) && (Region.ready md l.toArray listed' == [j]) && okT md l r (listed'.setIfInBounds j true)
    | none => false
  | .two is j r k r', listed => match goStill md l listed is with
    | some listed' => decide (j < l.length) && decide (k < l.length) && (Region.ready md l.toArray listed' == [j, k]) && decide (r'.len = r.len) && okT md l r (listed'.setIfInBounds j true) && okT md l r' (listed'.setIfInBounds k true)
    | none => false
def wpPhT (P : Program) (l : List Oper) (Q : Exit → Act → World → Prop) (bs : List (Nat × Nat)) (w0 : World) : PhT → Act → World → Prop
  | .last is, a, w => wpQuiet P l.toArray (fun w' => ∃ x, w' = laterC bs w0 x) (fun a' => Q .normal a' w) (pickL l is) a
  | .one is j r, a, w => wpQuiet P l.toArray (fun w' => ∃ x, w' = laterC bs w0 x) (fun a' => wpList P l.toArray (Exit.then (fun a'' w'' => SameC bs w0 w'' ∧ wpPhT P l Q bs w0 r a'' w'') Q) [nthO l j] a' w) (pickL l is) a
  | .two is j r k r', a, w => wpQuiet P l.toArray (fun w' => ∃ x, w' = laterC bs w0 x) (fun a' => wpList P l.toArray (Exit.then (fun a'' w'' => SameC bs w0 w'' ∧ wpPhT P l Q bs w0 r a'' w'') Q) [nthO l j] a' w ∧
      wpList P l.toArray (Exit.then (fun a'' w'' => SameC bs w0 w'' ∧ wpPhT P l Q bs w0 r' a'' w'') Q) [nthO l k] a' w) (pickL l is) a
theorem wpAnyC_phT {P : Program} {md : Region.Mode} {l : List Oper} {Q : Exit → Act → World → Prop} {bs : List (Nat × Nat)} {w0 : World} (hs : Region.noSelect l.toArray = true) (hQ : ∀ c a w d v, Q (.panic c) (a.put d v) w → Q (.panic c) a w) :
    ∀ (ph : PhT) (listed : Array Bool) (a : Act) (w : World), SameC bs w0 w → okT md l ph listed = true → wpPhT P l Q bs w0 ph a w → wpAnyH P md l.toArray Q (SameC bs w0) ph.len listed a w := by
  intro ph
  induction ph with
  | last is =>
    intro listed a w hw0 ho h
    unfold okT at ho
    cases hg : goStill md l listed is with
    | none => rw [hg] at ho; simp at ho
    | some listed' =>
      rw [hg] at ho
      have he : Region.ready md l.toArray listed' = [] := by simpa using ho
      have := wpAnyC_still (fuel := 0) hw0 hs hQ (K := fun a' => Q .normal a' w) (fun a' ha => ⟨he, ha⟩) is listed a hg h
      simpa [PhT.len] using this
  | one is j r ih =>
    intro listed a w hw0 ho h
    unfold okT at ho
    cases hg : goStill md l listed is with
    | none => rw [hg] at ho; simp at ho
    | some listed' =>
      rw [hg] at ho
      simp only [Bool.and_eq_true, decide_eq_true_eq, beq_iff_eq] at ho
      obtain ⟨⟨hj, hr⟩, ho⟩ := ho
      refine wpAnyC_still (fuel := r.len + 1) hw0 hs hQ (fun a' ha => ?_) is listed a hg h
      refine ⟨fun h0 => (by rw [hr] at h0; cases h0), fun i hi => ?_⟩
      rw [hr] at hi
      obtain rfl : i = j := by simpa using hi
      exact wpOp_mono (fun a'' w'' h' => ⟨h'.1, ih _ a'' w'' h'.1 ho h'.2⟩) (wpOp_one hj ha)
  | two is j r k r' ih ih' =>
    intro listed a w hw0 ho h
    unfold okT at ho
    cases hg : goStill md l listed is with
    | none => rw [hg] at ho; simp at ho
    | some listed' =>
      rw [hg] at ho
      simp only [Bool.and_eq_true, decide_eq_true_eq, beq_iff_eq] at ho
      obtain ⟨⟨⟨⟨⟨hj, hk⟩, hr⟩, hl⟩, ho⟩, ho'⟩ := ho
      refine wpAnyC_still (fuel := r.len + 1) hw0 hs hQ (fun a' ha => ?_) is listed a hg h
      refine ⟨fun h0 => (by rw [hr] at h0; cases h0), fun i hi => ?_⟩
      rw [hr] at hi
      rcases (show i = j ∨ i = k by simpa using hi) with rfl | rfl
      · exact wpOp_mono (fun a'' w'' h' => ⟨h'.1, ih _ a'' w'' h'.1 ho h'.2⟩) (wpOp_one hj ha.1)
      · exact wpOp_mono (fun a'' w'' h' => ⟨h'.1, hl ▸ ih' _ a'' w'' h'.1 ho' h'.2⟩) (wpOp_one hk ha.2)
/-- THE RULE: the cells 'bs' stay; by a plan that the kernel checks -/
theorem wp_region_phT {P : Program} {id : Nat} {Q : Exit → Act → World → Prop} {a : Act} {w : World} {l : List Oper} (bs : List (Nat × Nat)) (ph : PhT) (hm : P.follows .mixedOrders = true)
    (hc : (Region.noSelect l.toArray && decide (ph.len = l.length) && okT .any l ph (Array.replicate l.length false)) = true) (hQ : ∀ c a w d v, Q (.panic c) (a.put d v) w → Q (.panic c) a w)
    (h : wpPhT P l Q bs w ph a w.drew) : (Code.region id l.toArray true).wp P Q a w := by
  simp only [Bool.and_eq_true, decide_eq_true_eq] at hc
  obtain ⟨⟨hs, hl⟩, ho⟩ := hc
  refine wp_region_any hm (wpAny_of_held _ _ _ _ (S := SameC bs w) ?_)
  have := wpAnyC_phT (P := P) (md := .any) (w0 := w) (bs := bs) hs hQ ph _ a w.drew (SameC.refl bs w).drew ho h
  rw [hl] at this
  simpa using this
end Go.Proofs.YtfkpghdmljjegaaGreat
