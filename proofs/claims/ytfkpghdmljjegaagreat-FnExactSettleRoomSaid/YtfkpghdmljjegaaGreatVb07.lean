/-
  append onto an empty slice that was just made: nothing that was there turns. No function of the program is named here. A new empty slice that may be appended to. The pipes at a node, the other end of a pipe, a look into a list: of the reference. Plain lemmas: what append and a source's draw keep. No function of the program is named here. The search through a network, of the reference. A region that draws its order and holds loads beside stores and calls that turn memory elsewhere: the cells that are read are named and stay. No function of the program is named here.
-/
import Derived.Test.YtfkpghdmljjegaaGreatVb06
import Derived.Test.YtfkpghdmljjegaaGreatVb01
namespace Go.Proofs.YtfkpghdmljjegaaGreat
open Go.RowKit
section
variable {P : Program}
theorem run_append_zero (w : World) (t ty e : TypeId) (i : TypeInfo) (ht : P.underlying t = some (.slice e)) (hi : P.info? e = some i) (g : Nat) (A : Option Addr) (c : Nat) :
    (Builtin.append_ #[t, t] ty #[.slice (some ⟨g, 0, none⟩) 0 0, .slice A 0 c]).run P w = .ok (.slice (some ⟨g, 0, none⟩) 0 0) w := by
  cases A <;> simp [Builtin.append_, run_underlying ht, sizeOf, typeInfo, hi, Builtin.lenOf, Builtin.firstCells, storeCells, loadCells, loadCellsFrom]
/-- append of a whole slice onto an empty one -/
theorem wpList_append_fresh {α : Type} {ops : Array Oper} {rest : List Oper} {o : Oper} {a : Act} {Q : Exit → Act → World → Prop} {w : World} (hgd : o.guard = none) (s x : Operand) (t : TypeId)
    (ho : o.op = .call { callee := .builtin .append, args := #[s, x], argTypes := #[t, t] }) (base : Nat) (e : TypeId) (z : Value) (size bytes : Nat) (ht : P.underlying t = some (.slice e))
    (hi : (P.info? e).map (fun i => (i.zero, i.size, i.bytes)) = some (some z, size, bytes)) (hzs : z.cells.size = size) (hsz : 0 < size) (f : α → List Value) (hf : ∀ y, (f y).length = size) (_ : ∀ y, ∀ u ∈ f y, u.oneCell' = true)
    (g : Nat) (hs : a.eval s = .slice (some ⟨g, 0, none⟩) 0 0) (hr : Row w g e []) (hbg : base ≤ g) (A : Option Addr) (m c : Nat) (ys : List α) (hx : a.eval x = .slice A m c) (hsrc : SliceOf w size f A m c ys)
    (hlen : m ≤ 1000000000) (hb : bytes ≤ 10000) (hbase : base ≤ w.heap.size)
    (h : ∀ v' w', OwnL w' base e size f v' ys → Ext w w' → wpList P ops Q rest (a.put o.dst v') w') : wpList P ops Q (o :: rest) a w := by
  have hown : OwnL w base e size f (.slice (some ⟨g, 0, none⟩) 0 0) [] := ⟨by simp, .inr ⟨g, 0, #[], rfl, hbg, hr, by simp, by simp, by simp, by simp⟩⟩
  by_cases hm : m = 0
  · subst hm
    have hys : ys = [] := List.eq_nil_of_length_eq_zero hsrc.1.symm
    subst hys
    obtain ⟨i, hi1, _⟩ := info_parts hi
    exact Lib.wpList_append_run w hgd s x t t ho _ (.slice A 0 c) hs hx _ w (run_append_zero w t o.type e i ht hi1 g A c) (h _ w hown (Ext.refl _))
  · obtain ⟨i, hi1, hi2, hi3, hi4⟩ := info_parts hi
    obtain ⟨hm1, hc1, hc2, hc3⟩ := hsrc
    obtain ⟨b, off, rfl, hbl, hc⟩ := hc3 (by omega)
    have hnews : ∀ j u, (ys.flatMap f)[j]? = some u → w.cell? ((⟨b, off, none⟩ : Addr).add j) = some u := by
      intro j u hu
      have hj : j < (ys.flatMap f).length := (List.getElem?_eq_some_iff.1 hu).1
      rw [flat_len hf] at hj
      have hadd : (Addr.add ⟨b, off, none⟩ j) = ⟨b, off + j, none⟩ := by unfold Addr.add; split <;> simp_all
      rw [hadd]
      have hq : j / size < ys.length := by
        apply Nat.div_lt_of_lt_mul; rw [Nat.mul_comm]; exact hj
      have hy : ys[j / size]? = some ys[j / size] := List.getElem?_eq_getElem hq
      have hr : j % size < (f ys[j / size]).length := by rw [hf]; exact Nat.mod_lt _ hsz
      have hu' : (f ys[j / size])[j % size]? = some ((f ys[j / size])[j % size]) := List.getElem?_eq_getElem hr
      have hfl := flat_get hf hy hu'
      have hjj : j / size * size + j % size = j := by rw [Nat.mul_comm]; exact Nat.div_add_mod j size
      rw [hjj] at hfl
      rw [hfl] at hu
      injection hu with hu
      rw [← hu]
      have := hc _ _ hy _ _ hu'
      rw [Nat.add_assoc, hjj] at this
      exact this
    have hl : (ys.flatMap f).length = m * i.size := by rw [flat_len hf, hm1, hi3]
    have hmm : m * i.bytes ≤ 1000000000 * 10000 := Nat.mul_le_mul hlen (by rw [hi4]; exact hb)
    have hge := grownCap_ge w m 0 e
    have hcm := grownCap_le_maxLen w m 0 e (by simp only [maxLen]; omega)
    have hr := run_append_grow (P := P) w t o.type e i z ht hi1 hi2 ⟨g, 0, none⟩ 0 0 [] (by simp) (by intro j u hu; simp at hu) ⟨b, off, none⟩ m c (ys.flatMap f) hl hnews (by omega) (by omega) (growslice_fits (by omega) (by rw [Nat.zero_add]; omega))
    simp only [Nat.zero_add] at hr
    refine Lib.wpList_append_run w hgd s x t t ho _ (.slice (some ⟨b, off, none⟩) m c) hs hx _ _ hr (h _ _ ⟨by rw [hl, hi3, hm1], .inr ⟨w.heap.size, _, _, by rw [← hm1], hbase, heap_alloc_new w.drew _, by omega, hcm, ?_, ?_⟩⟩ ((Ext.refl w).drew.and_alloc _))
    · simp only [Array.size_append, List.size_toArray, size_zeroCells, hzs, hl, hi3, List.length_nil, Nat.zero_add, ← Nat.add_mul]
      congr 1
      omega
    · simp only [Array.toList_append, List.nil_append]
      rw [← hm1, ← hi3, ← hl]
      exact List.take_left
theorem src_cells {α : Type} {w : World} {size : Nat} {f : α → List Value} {b off m c : Nat} {ys : List α} (hf : ∀ y, (f y).length = size) (hsz : 0 < size) (hsrc : SliceOf w size f (some ⟨b, off, none⟩) m c ys) :
    ∀ j u, (ys.flatMap f)[j]? = some u → w.cell? ((⟨b, off, none⟩ : Addr).add j) = some u := by
  intro j u hu
  have hj : j < (ys.flatMap f).length := (List.getElem?_eq_some_iff.1 hu).1
  rw [flat_len hf] at hj
  have hadd : (Addr.add ⟨b, off, none⟩ j) = ⟨b, off + j, none⟩ := by unfold Addr.add; split <;> simp_all
  rw [hadd]
  have hq : j / size < ys.length := by
    apply Nat.div_lt_of_lt_mul; rw [Nat.mul_comm]; exact hj
  have hy : ys[j / size]? = some ys[j / size] := List.getElem?_eq_getElem hq
  have hr : j % size < (f ys[j / size]).length := by rw [hf]; exact Nat.mod_lt _ hsz
  have hu' : (f ys[j / size])[j % size]? = some ((f ys[j / size])[j % size]) := List.getElem?_eq_getElem hr
  have hfl := flat_get hf hy hu'
  have hjj : j / size * size + j % size = j := by rw [Nat.mul_comm]; exact Nat.div_add_mod j size
  rw [hjj] at hfl
  rw [hfl] at hu
  injection hu with hu
  rw [← hu]
  obtain ⟨x, hx, hc⟩ := hsrc.at_ (k := j / size) (by rw [hsrc.1]; exact hq)
  rw [hy] at hx
  injection hx with hx
  subst hx
  have := hc _ _ hu'
  rw [Nat.add_assoc, hjj] at this
  exact this
/-- where the result of append lies: in the old block, or in a new one -/
theorem run_append_where (w : World) (base : Nat) (t ty e : TypeId) (i : TypeInfo) (z : Value) (ht : P.underlying t = some (.slice e)) (hi : P.info? e = some i) (hz : i.zero = some z)
    (v : Value) (n : Nat) (xs : List Value) (hown : w.ownsRow base e i.size v n xs) (a : Addr) (m c : Nat) (news : List Value) (hl : news.length = m * i.size) (hnews : ∀ j u, news[j]? = some u → w.cell? (a.add j) = some u) (h1 : ∀ u ∈ news, u.oneCell' = true)
    (h63 : n + m ≤ maxLen) (hbytes : (n + m) * i.bytes ≤ 140737488355328) (v' : Value) (w' : World) (h : (Builtin.append_ #[t, t] ty #[v, .slice (some a) m c]).run P w = .ok v' w') :
    ∀ k, v'.ownBlock = some k → v.ownBlock = some k ∨ w.heap.size ≤ k := by
  have hsmall : n + m ≤ 9223372036854775807 := by simp only [maxLen] at h63; omega
  intro k hk
  rcases hown.2 with ⟨rfl, rfl⟩ | ⟨g, cap, cur, rfl, hbg, hg, hnc, hcm, hcs, htake⟩
  · by_cases hm : m = 0
    · subst hm
      have hr : (Builtin.append_ #[t, t] ty #[.slice none 0 0, .slice (some a) 0 c]).run P w = .ok (.slice none 0 0) w := by
        simp [Builtin.append_, run_underlying ht, sizeOf, typeInfo, hi, Builtin.lenOf, Builtin.firstCells, loadCells, loadCellsFrom]
      rw [hr] at h
      injection h with h _
      subst h
      cases hk
    · have hr := run_append_nil (P := P) w t ty e i z ht hi hz a m c news hl hnews (by omega) (by omega) (by have hb := hbytes; simp only [Nat.zero_add] at hb; omega)
      rw [hr] at h
      injection h with h _
      subst h
      simp [Value.ownBlock] at hk
      right; omega
  · by_cases hroom : n + m ≤ cap
    · have hfit : n * i.size + news.length ≤ cur.size := by rw [hl, hcs, ← Nat.add_mul]; exact Nat.mul_le_mul_right _ hroom
      have hr := run_append_room (P := P) w t ty e i ht hi g n cap cur hg a m c news hl hnews h1 hroom hfit
      rw [hr] at h
      injection h with h _
      subst h
      left; exact hk
    · have holds : ∀ j u, xs[j]? = some u → w.cell? ((⟨g, 0, none⟩ : Addr).add j) = some u := hown.cells (g := g) rfl
      have hr := run_append_grow (P := P) w t ty e i z ht hi hz ⟨g, 0, none⟩ n cap xs hown.1 holds a m c news hl hnews (by omega) (by omega) (growslice_fits (by omega) hbytes)
      rw [hr] at h
      injection h with h _
      subst h
      simp [Value.ownBlock] at hk
      right; omega
theorem wpList_append_where {α : Type} {ops : Array Oper} {rest : List Oper} {o : Oper} {a : Act} {Q : Exit → Act → World → Prop} {w : World} (hgd : o.guard = none) (s x : Operand) (t : TypeId)
    (ho : o.op = .call { callee := .builtin .append, args := #[s, x], argTypes := #[t, t] }) (base : Nat) (e : TypeId) (z : Value) (size bytes : Nat) (ht : P.underlying t = some (.slice e))
    (hi : (P.info? e).map (fun i => (i.zero, i.size, i.bytes)) = some (some z, size, bytes)) (hzs : z.cells.size = size) (hsz : 0 < size) (f : α → List Value) (hf : ∀ y, (f y).length = size) (h1 : ∀ y, ∀ u ∈ f y, u.oneCell' = true)
    (v : Value) (L : List α) (hs : a.eval s = v) (hown : OwnL w base e size f v L) (b off m c : Nat) (ys : List α) (hx : a.eval x = .slice (some ⟨b, off, none⟩) m c) (hsrc : SliceOf w size f (some ⟨b, off, none⟩) m c ys)
    (hlen : L.length + m ≤ 1000000000) (hb : bytes ≤ 10000) (hbase : base ≤ w.heap.size)
    (h : ∀ v' w', OwnL w' base e size f v' (L ++ ys) → w.grownBy w' v.ownBlock → (∀ k, v'.ownBlock = some k → v.ownBlock = some k ∨ w.heap.size ≤ k) → wpList P ops Q rest (a.put o.dst v') w') : wpList P ops Q (o :: rest) a w := by
  obtain ⟨i, hi1, hi2, hi3, hi4⟩ := info_parts hi
  have hnews := src_cells hf hsz hsrc
  have hl : (ys.flatMap f).length = m * size := by rw [flat_len hf, hsrc.1]
  have hone : ∀ u ∈ ys.flatMap f, u.oneCell' = true := fun u hu => by
    obtain ⟨y, _, hy⟩ := List.mem_flatMap.1 hu
    exact h1 y u hy
  have hby : (L.length + m) * bytes ≤ 140737488355328 := by
    have : (L.length + m) * bytes ≤ 1000000000 * 10000 := Nat.mul_le_mul hlen hb
    omega
  have h63 : L.length + m ≤ maxLen := by simp only [maxLen]; omega
  obtain ⟨v', w', hr, h2, h3, _⟩ := run_append_own (P := P) w base t o.type e i z size bytes ht hi1 hi2 hi3 hi4 hzs hsz v L.length (L.flatMap f) hown ⟨b, off, none⟩ m c (ys.flatMap f) hl hnews hone h63 hby hbase
  refine Lib.wpList_append_run w hgd s x t t ho v (.slice (some ⟨b, off, none⟩) m c) hs hx v' w' hr (h v' w' ?_ h3 (run_append_where w base t o.type e i z ht hi1 hi2 v L.length (L.flatMap f) (by rw [hi3]; exact hown) ⟨b, off, none⟩ m c (ys.flatMap f) (by rw [hi3]; exact hl) hnews hone h63 (by rw [hi4]; exact hby) v' w' hr))
  unfold OwnL
  rw [List.length_append, List.flatMap_append, ← hsrc.1]
  exact h2
end
end Go.Proofs.YtfkpghdmljjegaaGreat

namespace Go.Proofs.YtfkpghdmljjegaaGreat
open Go.RowKit
theorem own_new {α : Type} (W : World) (base : Nat) (t : TypeId) (size : Nat) (f : α → List Value) (g : Nat) (hg : g = W.heap.size) (hb : base ≤ g) : OwnL (W.alloc (.cells #[] t)) base t size f (.slice (some ⟨g, 0, none⟩) 0 0) [] := by
  subst hg; exact OwnL.empty W base t size f hb
end Go.Proofs.YtfkpghdmljjegaaGreat

namespace Go.Proofs.YtfkpghdmljjegaaGreat
open Go.RowKit
theorem int_one' (y : Int) : ∀ u ∈ intC y, u.oneCell' = true := by intro u hu; simp [intC] at hu; subst hu; rfl
/-- the ends of the pipes are among the nodes -/
def EndsIn (N : Nat) (ps : List Pipe) : Prop := ∀ p ∈ ps, 0 ≤ p.src ∧ p.src < N ∧ 0 ≤ p.dst ∧ p.dst < N
/-- indices of pipes at a node -/
def AtB (ps : List Pipe) (x : Int) (E : List Int) : Prop := ∀ z ∈ E, ∃ (k : Nat) (p : Pipe), z = k ∧ ps[k]? = some p ∧ (p.src = x ∨ p.dst = x)
theorem AtB.nil {ps : List Pipe} {x : Int} : AtB ps x [] := fun z hz => by cases hz
theorem AtB.snoc {ps : List Pipe} {x : Int} {E : List Int} (h : AtB ps x E) {k : Nat} {p : Pipe} (hk : ps[k]? = some p) (hp : p.src = x ∨ p.dst = x) : AtB ps x (E ++ [(k : Int)]) := by
  intro z hz
  rcases List.mem_append.1 hz with hz | hz
  · exact h z hz
  · obtain rfl := List.mem_singleton.1 hz; exact ⟨k, p, rfl, hk, hp⟩
/-- a list of numbers in a block of its own -/
def RetI (Q : List Int → Prop) (w : World) (e : Ending) (w' : World) : Prop :=
  ∃ v E, e = .returned v ∧ OwnL w' w.heap.size 2 1 intC v E ∧ Hid (Q E) ∧ Ext w w'
theorem OwnL.lowG {α : Type} {w : World} {base base' : Nat} {e : TypeId} {size : Nat} {f : α → List Value} {v : Value} {L : List α} (h : OwnL w base e size f v L) (hb : base' ≤ base) : OwnL w base' e size f v L := by
  obtain ⟨h1, h2⟩ := h
  refine ⟨h1, ?_⟩
  rcases h2 with h2 | ⟨k, cap, cur, hv, hb', r⟩
  · exact .inl h2
  · exact .inr ⟨k, cap, cur, hv, by omega, r⟩
end Go.Proofs.YtfkpghdmljjegaaGreat

namespace Go.Proofs.YtfkpghdmljjegaaGreat
open Go.RowKit

/-- the blocks below base stayed -/
structure Kept (base : Nat) (w w' : World) : Prop where
  os : w'.os = w.os
  tape : w'.tape = w.tape
  output : w'.output = w.output
  size : base ≤ w'.heap.size
  block : ∀ k, k < base → w'.heap[k]? = w.heap[k]?
section
variable {α : Type} {w w' : World} {base g : Nat} {e : TypeId} {size : Nat} {f : α → List Value} {v : Value} {L : List α}
theorem OwnL.only (h : OwnL w base e size f v L) (hx : Only g w w') (hg : g < base) : OwnL w' base e size f v L := by
  obtain ⟨h1, h2⟩ := h
  refine ⟨h1, ?_⟩
  rcases h2 with h2 | ⟨k, cap, cur, hv, hb, hh, r⟩
  · exact .inl h2
  · refine .inr ⟨k, cap, cur, hv, hb, ?_, r⟩
    have hlt : k < w.heap.size := by
      rcases Nat.lt_or_ge k w.heap.size with hlt | hge
      · exact hlt
      · rw [Array.getElem?_eq_none hge] at hh; cases hh
    exact (hx.block k hlt (by simp; omega)).trans hh
end
end Go.Proofs.YtfkpghdmljjegaaGreat

namespace Go.Proofs.YtfkpghdmljjegaaGreat
open Go.RowKit
theorem Row.newG {W : World} {g : Nat} (t : TypeId) (cs : List Value) (hg : g = W.heap.size) : Row (W.alloc (.cells cs.toArray t)) g t cs := by subst hg; exact Row.new W t cs
def boolC (b : Bool) : List Value := [.bool b]
theorem boolC_len (b : Bool) : (boolC b).length = 1 := rfl
theorem bool_info : (Tryz.prog.info? 4).map (fun i => (i.zero, i.size, i.bytes)) = some (some (.bool false), 1, 1) := by kernel_rfl
theorem OwnL.of_row {α : Type} {w : World} {base g : Nat} {t : TypeId} {size : Nat} {f : α → List Value} {xs : List α} (h : RowOf w g t f xs) (hf : ∀ x, (f x).length = size) (hb : base ≤ g) (hm : xs.length ≤ 1048576) : OwnL w base t size f (.slice (some ⟨g, 0, none⟩) xs.length xs.length) xs := by
  have hl := flat_len (xs := xs) hf
  refine ⟨hl, .inr ⟨g, xs.length, _, rfl, hb, h, Nat.le_refl _, by simp [maxLen]; omega, by simp [hl], ?_⟩⟩
  rw [List.toList_toArray, List.take_of_length_le (by rw [hl]; exact Nat.le_refl _)]
theorem OwnL.sl {α : Type} {w : World} {base : Nat} {t : TypeId} {size : Nat} {f : α → List Value} {v : Value} {L : List α} (h : OwnL w base t size f v L) (hf : ∀ x, (f x).length = size) (hs : 0 < size) : ∃ A c, v = .slice A L.length c ∧ SliceOf w size f A L.length c L := by
  obtain ⟨A, c, g, hv, _, hn, hc, ho⟩ := h.own hf hs
  exact ⟨A, c, hv, ho.slice hf hn hc⟩
theorem RowOf.set0 {α : Type} {w : World} {g : Nat} {t : TypeId} {f : α → List Value} {L : List α} (h : RowOf w g t f L) (hf : ∀ x, ∃ u, f x = [u]) {d : Nat} (hd : d < L.length) (y : α) (u : Value) (hu : f y = [u]) : RowOf (w.setCell ⟨g, d, none⟩ u) g t f (L.set d y) := by
  have hl : ∀ x, (f x).length = 1 := fun x => by obtain ⟨u, hu⟩ := hf x; rw [hu]; rfl
  have h1 := RowOf.put h hl hd y
  rw [hu, Nat.mul_one] at h1
  exact h1
theorem OwnL.farK {α : Type} {w : World} {base : Nat} {e : TypeId} {size : Nat} {f : α → List Value} {v : Value} {L : List α} (h : OwnL w base e size f v L) {p : Addr} (hp : p.block < base) (u : Value) : OwnL (w.setCell p u) base e size f v L :=
  h.only ((Only.refl p.block w).setCell rfl u) hp
/-- numbers of nodes -/
def InN (N : Nat) (E : List Int) : Prop := ∀ z ∈ E, ∃ k : Nat, z = k ∧ k < N
theorem InN.snoc {N : Nat} {E : List Int} (h : InN N E) {k : Nat} (hk : k < N) : InN N (E ++ [(k : Int)]) := by
  intro z hz
  rcases List.mem_append.1 hz with hz | hz
  · exact h z hz
  · obtain rfl := List.mem_singleton.1 hz; exact ⟨k, rfl, hk⟩
def EntB (P : Nat) (en : List Int) : Prop := ∀ z ∈ en, -1 ≤ z ∧ z < P
theorem EntB.set {P : Nat} {en : List Int} (h : EntB P en) (d : Nat) {z : Int} (h1 : -1 ≤ z) (h2 : z < P) : EntB P (en.set d z) := by
  intro y hy
  rcases List.mem_or_eq_of_mem_set hy with hy | rfl
  · exact h y hy
  · exact ⟨h1, h2⟩
/-- a search on its way -/
structure Sch (N P lo : Nat) (w0 wr : World) (gs ge : Nat) (l : List Bool) (en : List Int) (v : Value) (E : List Int) : Prop where
  seen : RowOf wr gs 4 boolC l
  ent : RowOf wr ge 2 intC en
  own : OwnL wr lo 2 1 intC v E
  ext : Ext w0 wr
  l0 : w0.heap.size ≤ ge
  l1 : ge < gs
  l2 : gs < lo
  ll : l.length = N
  el : en.length = N
  cnt : E.length = l.count true
  inn : InN N E
  enb : EntB P en
theorem count_set_true {l : List Bool} {d : Nat} (hd : l[d]? = some false) : (l.set d true).count true = l.count true + 1 := by
  obtain ⟨h, he⟩ := List.getElem?_eq_some_iff.1 hd
  rw [List.count_set h, he]
  simp
section
variable {N P lo gs ge : Nat} {w0 wr wr' : World} {l : List Bool} {en : List Int} {v v' : Value} {E : List Int}
theorem Sch.more (h : Sch N P lo w0 wr gs ge l en v E) (hx : Ext wr wr') : Sch N P lo w0 wr' gs ge l en v E :=
  ⟨h.seen.ext hx, h.ent.ext hx, h.own.ext hx, h.ext.trans hx, h.l0, h.l1, h.l2, h.ll, h.el, h.cnt, h.inn, h.enb⟩
theorem Sch.le (h : Sch N P lo w0 wr gs ge l en v E) : E.length ≤ N := by rw [h.cnt, ← h.ll]; exact List.count_le_length
theorem Sch.add (h : Sch N P lo w0 wr gs ge l en v E) {d : Nat} (hd : l[d]? = some false) (hdN : d < N) {z : Int} (h1 : -1 ≤ z) (h2 : z < P)
    {W3 : World} (hx3 : Ext ((wr.setCell ⟨gs, d, none⟩ (.bool true)).setCell ⟨ge, d, none⟩ (.int .i64 z)) W3) (hg : W3.grownBy wr' v.ownBlock)
    (ho : OwnL wr' lo 2 1 intC v' (E ++ [(d : Int)])) : Sch N P lo w0 wr' gs ge (l.set d true) (en.set d z) v' (E ++ [(d : Int)]) := by
  have hl1 := h.l1
  have hl2 := h.l2
  have hl0 := h.l0
  have hb := fun k (hk : v.ownBlock = some k) => h.own.block_le hk
  have s1 := RowOf.set0 h.seen (fun x => ⟨_, rfl⟩) (d := d) (by rw [h.ll]; exact hdN) true (.bool true) rfl
  have s2 := s1.far (p := ⟨ge, d, none⟩) (by show gs ≠ ge; omega) (.int .i64 z)
  have e1 := h.ent.far (p := ⟨gs, d, none⟩) (by show ge ≠ gs; omega) (.bool true)
  have e2 := RowOf.set0 e1 (fun x => ⟨_, rfl⟩) (d := d) (by rw [h.el]; exact hdN) z (.int .i64 z) rfl
  have hx2 := (h.ext.setCell (p := ⟨gs, d, none⟩) (by show w0.heap.size ≤ gs; omega) (.bool true)).setCell (p := ⟨ge, d, none⟩) (by show w0.heap.size ≤ ge; omega) (.int .i64 z)
  refine ⟨?_, ?_, ho, (hx2.trans hx3).grown hg (fun k hk => by have := hb k hk; have := hx2.size; omega), hl0, hl1, hl2, by rw [List.length_set]; exact h.ll, by rw [List.length_set]; exact h.el, ?_, h.inn.snoc hdN, h.enb.set d h1 h2⟩
  · have s3 := s2.ext hx3
    exact (hg.block gs s3.lt (fun e => by have := hb gs e.symm; omega)).trans s3
  · have e3 := e2.ext hx3
    exact (hg.block ge e3.lt (fun e => by have := hb ge e.symm; omega)).trans e3
  · rw [List.length_append, h.cnt, count_set_true hd]; rfl
end
theorem InN.at {N : Nat} {E : List Int} (h : InN N E) {k : Nat} {z : Int} (hk : E[k]? = some z) : ∃ j : Nat, z = j ∧ j < N := h z (List.mem_of_getElem? hk)
theorem start_ent {en : List Int} {N P : Nat} (hl : en.length = N) (h : ∀ (j : Nat) (z : Int), j < N → en[j]? = some z → z = -1) : EntB P en := by
  intro z hz
  obtain ⟨j, hj⟩ := List.getElem?_of_mem hz
  have := h j z (by rw [← hl]; exact (List.getElem?_eq_some_iff.1 hj).1) hj
  omega
theorem step_ent {en : List Int} {k : Nat} (h : ∀ (j : Nat) (z : Int), j < k → en[j]? = some z → z = -1) : ∀ (j : Nat) (z : Int), j < k + 1 → (en.set k (-1))[j]? = some z → z = -1 := by
  intro j z hj hz
  rw [List.getElem?_set] at hz
  split at hz
  · split at hz
    · exact (Option.some.inj hz).symm
    · cases hz
  · exact h j z (by omega) hz
theorem start_seen {N k : Nat} (hk : k < N) : ((List.replicate N false).set k true).count true = 1 := by
  rw [count_set_true (by rw [List.getElem?_replicate, if_pos hk])]
  simp [List.count_replicate]
theorem new_int (W : World) (g : Nat) (y : Int) (hg : g = W.heap.size) : SliceOf (W.alloc (.cells #[.int .i64 y] 2)) 1 intC (some ⟨g, 0, none⟩) 1 1 [y] := by
  subst hg
  have h : RowOf (W.alloc (.cells #[.int .i64 y] 2)) W.heap.size 2 intC [y] := Row.new W 2 [.int .i64 y]
  exact h.slice intC_len rfl (by omega)
theorem OwnL.ltG {α : Type} {w : World} {base : Nat} {e : TypeId} {size : Nat} {f : α → List Value} {v : Value} {L : List α} (h : OwnL w base e size f v L) {k : Nat} (hk : v.ownBlock = some k) : base ≤ k ∧ k < w.heap.size := by
  rcases h.2 with ⟨rfl, _⟩ | ⟨g, cap, cur, rfl, hb, hh, _⟩
  · cases hk
  · simp [Value.ownBlock] at hk
    subst hk
    refine ⟨hb, ?_⟩
    rcases Nat.lt_or_ge g w.heap.size with hlt | hge
    · exact hlt
    · rw [Array.getElem?_eq_none hge] at hh; cases hh
theorem OwnL.slE {α : Type} {w : World} {base : Nat} {t : TypeId} {size : Nat} {f : α → List Value} {A : Option Addr} {n c : Nat} {L : List α} (h : OwnL w base t size f (.slice A n c) L) (hf : ∀ x, (f x).length = size) (hs : 0 < size) : SliceOf w size f A n c L := by
  obtain ⟨A', c', he, h1⟩ := h.sl hf hs
  cases he
  exact h1
/-- two slices that do not share a block -/
def Apt (v v' : Value) : Prop := ∀ k, v.ownBlock = some k → v'.ownBlock ≠ some k
end Go.Proofs.YtfkpghdmljjegaaGreat

namespace Go.Proofs.YtfkpghdmljjegaaGreat
open Go.RowKit

/-- the named cells stay -/
def SameC (cs : List (Nat × Nat)) (w x : World) : Prop := ∀ q ∈ cs, x.cell? ⟨q.1, q.2, none⟩ = w.cell? ⟨q.1, q.2, none⟩
theorem SameC.refl (cs : List (Nat × Nat)) (w : World) : SameC cs w w := fun _ _ => rfl
theorem SameC.trans {cs : List (Nat × Nat)} {a b c : World} (h : SameC cs a b) (k : SameC cs b c) : SameC cs a c := fun i hi => (k i hi).trans (h i hi)
theorem SameC.drew {cs : List (Nat × Nat)} {a b : World} (h : SameC cs a b) : SameC cs a b.drew := h
theorem SameC.of_ext {cs : List (Nat × Nat)} {a b : World} (h : Ext a b) (hb : ∀ q ∈ cs, q.1 < a.heap.size) : SameC cs a b := fun q hq => h.cell q.1 q.2 (hb q hq)
theorem SameC.of_only {cs : List (Nat × Nat)} {g : Nat} {a b : World} (h : Only g a b) (hb : ∀ q ∈ cs, q.1 < a.heap.size ∧ q.1 ≠ g) : SameC cs a b := fun q hq => h.cell (hb q hq).1 (hb q hq).2
theorem SameC.setCell {cs : List (Nat × Nat)} {a b : World} (h : SameC cs a b) {p : Addr} (hp : ∀ q ∈ cs, q.1 ≠ p.block ∨ q.2 ≠ p.off) (u : Value) : SameC cs a (b.setCell p u) := fun q hq => by
  rw [World.cell?_setCell_other _ _ _ _ (fun e => by
    rcases hp q hq with h1 | h1
    · exact h1 (by rw [e])
    · exact h1 (by rw [e]))]
  exact h q hq
open Classical in
noncomputable def laterC (cs : List (Nat × Nat)) (w x : World) : World := if SameC cs w x then x else w
theorem laterC_of {cs : List (Nat × Nat)} {w x : World} (h : SameC cs w x) : laterC cs w x = x := by rw [laterC, if_pos h]
theorem same_laterC (cs : List (Nat × Nat)) (w x : World) : SameC cs w (laterC cs w x) := by
  unfold laterC; split
  · assumption
  · exact SameC.refl _ _
@[go_sem] theorem laterC_cell1 (cs : List (Nat × Nat)) (w x : World) (b o : Nat) : (laterC ((b, o) :: cs) w x).cell? ⟨b, o, none⟩ = w.cell? ⟨b, o, none⟩ := same_laterC _ w x (b, o) (by simp)
@[go_sem] theorem laterC_cell2 (cs : List (Nat × Nat)) (w x : World) (q1 : Nat × Nat) (b o : Nat) : (laterC (q1 :: (b, o) :: cs) w x).cell? ⟨b, o, none⟩ = w.cell? ⟨b, o, none⟩ := same_laterC _ w x (b, o) (by simp)
@[go_sem] theorem laterC_cell3 (cs : List (Nat × Nat)) (w x : World) (q1 q2 : Nat × Nat) (b o : Nat) : (laterC (q1 :: q2 :: (b, o) :: cs) w x).cell? ⟨b, o, none⟩ = w.cell? ⟨b, o, none⟩ := same_laterC _ w x (b, o) (by simp)
@[go_sem] theorem laterC_cell4 (cs : List (Nat × Nat)) (w x : World) (q1 q2 q3 : Nat × Nat) (b o : Nat) : (laterC (q1 :: q2 :: q3 :: (b, o) :: cs) w x).cell? ⟨b, o, none⟩ = w.cell? ⟨b, o, none⟩ := same_laterC _ w x (b, o) (by simp)
@[go_sem] theorem laterC_cell5 (cs : List (Nat × Nat)) (w x : World) (q1 q2 q3 q4 : Nat × Nat) (b o : Nat) : (laterC (q1 :: q2 :: q3 :: q4 :: (b, o) :: cs) w x).cell? ⟨b, o, none⟩ = w.cell? ⟨b, o, none⟩ := same_laterC _ w x (b, o) (by simp)

abbrev GrowC (bs : List (Nat × Nat)) (w : World) : World → Prop := fun w' => ∃ x, w' = laterC bs w x
theorem yields_of_quietC {P : Program} {ops : Array Oper} {o : Oper} {bs : List (Nat × Nat)} (ho : stillOp o.op = true) {a : Act} {w : World} {v : Value} (hw : Region.wanted o (yielded ops a.tmps) = true)
    (h : ∀ w', GrowC bs w w' → o.quietAt P a (GrowC bs w) w' v) : YieldsIf P ops (SameC bs w) o v a := by
  refine .inl ⟨hw, fun w' hx => ?_⟩
  have h1 := h w' ⟨w', (laterC_of hx).symm⟩
  unfold Oper.quietAt at h1
  cases hr : (execOp a.eval o).run P w' with
  | halt x w1 => rw [hr] at h1; simp [Oper.quietUpon] at h1
  | ok n w1 =>
    obtain ⟨u, rfl⟩ := still_value ho hr
    rw [hr] at h1
    simp only [Oper.quietUpon] at h1
    rw [h1.1, h1.2]
theorem wpAnyC_still {P : Program} {md : Region.Mode} {l : List Oper} {Q : Exit → Act → World → Prop} {bs : List (Nat × Nat)} {w0 w : World} (hw0 : SameC bs w0 w) (hs : Region.noSelect l.toArray = true) (hQ : ∀ c a w d v, Q (.panic c) (a.put d v) w → Q (.panic c) a w) {fuel : Nat} {listed' : Array Bool} {K : Act → Prop}
    (hK : ∀ a, K a → wpAnyH P md l.toArray Q (SameC bs w0) fuel listed' a w) : ∀ (is : List Nat) (listed : Array Bool) (a : Act), goStill md l listed is = some listed' → wpQuiet P l.toArray (GrowC bs w0) K (pickL l is) a →
      wpAnyH P md l.toArray Q (SameC bs w0) (fuel + is.length) listed a w := by
  intro is
  induction is with
  | nil =>
    intro listed a hg h
    simp only [goStill, Option.some.injEq] at hg
    subst hg
    exact hK a h
  | cons i is ih =>
    intro listed a hg h
    unfold goStill at hg
    split at hg
    · rename_i hc
      simp only [Bool.and_eq_true, decide_eq_true_eq] at hc
      obtain ⟨⟨⟨h1, h2⟩, h3⟩, h4⟩ := hc
      have hi : l.toArray[i]? = some (nthO l i) := by simpa using nthO_some h1
      simp only [pickL, wpQuiet] at h
      by_cases hw : Region.wanted (nthO l i) (yielded l.toArray a.tmps) = true
      · rw [if_pos hw] at h
        obtain ⟨v, hv, hn⟩ := h
        exact wpAnyH_first hi (Region.noSelect_spec hs) (fun c a w => hQ c a w _ _) (fuel + is.length) listed a w (Region.free_spec hi h3) (by simpa using h4) (yields_of_quietC h2 hw hv) hw0 (ih _ _ hg hn)
      · rw [if_neg hw] at h
        exact wpAnyH_first hi (Region.noSelect_spec hs) (fun c a w => hQ c a w _ _) (fuel + is.length) listed a w (Region.free_spec hi h3) (by simpa using h4) (.inr ⟨by simpa using hw, rfl⟩) hw0 (ih _ _ hg h)
    · cases hg
def wpPhC (P : Program) (l : List Oper) (Q : Exit → Act → World → Prop) (bs : List (Nat × Nat)) (w0 : World) : List (List Nat × Nat) → List Nat → Act → World → Prop
  | [], last, a, w => wpQuiet P l.toArray (fun w' => ∃ x, w' = laterC bs w0 x) (fun a' => Q .normal a' w) (pickL l last) a
  | (is, j) :: r, last, a, w => wpQuiet P l.toArray (fun w' => ∃ x, w' = laterC bs w0 x) (fun a' => wpList P l.toArray (Exit.then (fun a'' w'' => SameC bs w0 w'' ∧ wpPhC P l Q bs w0 r last a'' w'') Q) [nthO l j] a' w) (pickL l is) a
theorem wpAnyC_ph {P : Program} {md : Region.Mode} {l : List Oper} {Q : Exit → Act → World → Prop} {bs : List (Nat × Nat)} {w0 : World} (hs : Region.noSelect l.toArray = true) (hQ : ∀ c a w d v, Q (.panic c) (a.put d v) w → Q (.panic c) a w) (last : List Nat) :
    ∀ (ph : List (List Nat × Nat)) (listed : Array Bool) (a : Act) (w : World), SameC bs w0 w → okPh md l listed ph last = true → wpPhC P l Q bs w0 ph last a w → wpAnyH P md l.toArray Q (SameC bs w0) (phLen ph last) listed a w := by
  intro ph
  induction ph with
  | nil =>
    intro listed a w hw0 ho h
    unfold okPh at ho
    cases hg : goStill md l listed last with
    | none => rw [hg] at ho; simp at ho
    | some listed' =>
      rw [hg] at ho
      have he : Region.ready md l.toArray listed' = [] := by simpa using ho
      have := wpAnyC_still (fuel := 0) hw0 hs hQ (K := fun a' => Q .normal a' w) (fun a' ha => ⟨he, ha⟩) last listed a hg h
      simpa [phLen] using this
  | cons p r ih =>
    obtain ⟨is, j⟩ := p
    intro listed a w hw0 ho h
    unfold okPh at ho
    cases hg : goStill md l listed is with
    | none => rw [hg] at ho; simp at ho
    | some listed' =>
      rw [hg] at ho
      simp only [Bool.and_eq_true, decide_eq_true_eq, beq_iff_eq] at ho
      obtain ⟨⟨hj, hr⟩, ho⟩ := ho
      refine wpAnyC_still (fuel := phLen r last + 1) hw0 hs hQ (fun a' ha => ?_) is listed a hg h
      refine ⟨fun h0 => (by rw [hr] at h0; cases h0), fun i hi => ?_⟩
      rw [hr] at hi
      obtain rfl : i = j := by simpa using hi
      exact wpOp_mono (fun a'' w'' h' => ⟨h'.1, ih _ a'' w'' h'.1 ho h'.2⟩) (wpOp_one hj ha)
/-- THE RULE: the cells 'bs' stay; by phases that the kernel checks -/
theorem wp_region_phC {P : Program} {id : Nat} {Q : Exit → Act → World → Prop} {a : Act} {w : World} {l : List Oper} (bs : List (Nat × Nat)) (ph : List (List Nat × Nat)) (last : List Nat) (hm : P.follows .mixedOrders = true)
    (hc : (Region.noSelect l.toArray && decide (phLen ph last = l.length) && okPh .any l (Array.replicate l.length false) ph last) = true) (hQ : ∀ c a w d v, Q (.panic c) (a.put d v) w → Q (.panic c) a w)
    (h : wpPhC P l Q bs w ph last a w.drew) : (Code.region id l.toArray true).wp P Q a w := by
  simp only [Bool.and_eq_true, decide_eq_true_eq] at hc
  obtain ⟨⟨hs, hl⟩, ho⟩ := hc
  refine wp_region_any hm (wpAny_of_held _ _ _ _ (S := SameC bs w) ?_)
  have := wpAnyC_ph (P := P) (md := .any) (w0 := w) (bs := bs) hs hQ last ph _ a w.drew (SameC.refl bs w).drew ho h
  rw [hl] at this
  simpa using this
end Go.Proofs.YtfkpghdmljjegaaGreat
