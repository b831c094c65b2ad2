/-
  append onto an empty slice that was just made: nothing that was there turns. No function of the program is named here. A new empty slice that may be appended to. The pipes at a node, the other end of a pipe, a look into a list: of the reference. Plain lemmas: what append and a source's draw keep. No function of the program is named here.
-/
import Derived.Test.YtpgbmhpddgjccaaGreatSa13
import Derived.Test.YtpgbmhpddgjccaaGreatSa02
import Derived.Test.YtpgbmhpddgjccaaGreatSa01
namespace Go.Proofs.YtpgbmhpddgjccaaGreat
open Go.RowKit
section
variable {P : Program}
theorem run_append_zero (w : World) (t ty e : TypeId) (i : TypeInfo) (ht : P.underlying t = some (.slice e)) (hi : P.info? e = some i) (g : Nat) (A : Option Addr) (c : Nat) :
    (Builtin.append_ #[t, t] ty #[.slice (some ⟨g, 0, none⟩) 0 0, .slice A 0 c]).run P w = .ok (.slice (some ⟨g, 0, none⟩) 0 0) w := by
  cases A <;> simp [Builtin.append_, run_underlying ht, sizeOf, typeInfo, hi, Builtin.lenOf, Builtin.firstCells, storeCells, loadCells, loadCellsFrom]
/-- append of a whole slice onto an empty one -/
theorem wpList_append_fresh {α : Type} {ops : Array Oper} {rest : List Oper} {o : Oper} {a : Act} {Q : Exit → Act → World → Prop} {w : World} (hgd : o.guard = none) (s x : Operand) (t : TypeId)
    (ho : o.op = .call { callee := .builtin .append, args := #[s, x], argTypes := #[t, t] }) (base : Nat) (e : TypeId) (z : Value) (size bytes : Nat) (ht : P.underlying t = some (.slice e))
    (hi : (P.info? e).map (fun i => (i.zero, i.size, i.bytes)) = some (some z, size, bytes)) (hzs : z.cells.size = size) (hsz : 0 < size) (f : α → List Value) (hf : ∀ y, (f y).length = size) (_ : ∀ y, ∀ u ∈ f y, u.oneCell' = true)
    (g : Nat) (hs : a.eval s = .slice (some ⟨g, 0, none⟩) 0 0) (hr : Row w g e []) (hbg : base ≤ g) (A : Option Addr) (m c : Nat) (ys : List α) (hx : a.eval x = .slice A m c) (hsrc : SliceOf w size f A m c ys)
    (hlen : m ≤ 1000000000) (hb : bytes ≤ 10000) (hbase : base ≤ w.heap.size)
    (h : ∀ v' w', OwnL w' base e size f v' ys → Ext w w' → wpList P ops Q rest (a.put o.dst v') w') : wpList P ops Q (o :: rest) a w := by
  have hown : OwnL w base e size f (.slice (some ⟨g, 0, none⟩) 0 0) [] := ⟨by simp, .inr ⟨g, 0, #[], rfl, hbg, hr, by simp, by simp, by simp, by simp⟩⟩
  by_cases hm : m = 0
  · subst hm
    have hys : ys = [] := List.eq_nil_of_length_eq_zero hsrc.1.symm
    subst hys
    obtain ⟨i, hi1, _⟩ := info_parts hi
    exact Lib.wpList_append_run w hgd s x t t ho _ (.slice A 0 c) hs hx _ w (run_append_zero w t o.type e i ht hi1 g A c) (h _ w hown (Ext.refl _))
  · obtain ⟨i, hi1, hi2, hi3, hi4⟩ := info_parts hi
    obtain ⟨hm1, hc1, hc2, hc3⟩ := hsrc
    obtain ⟨b, off, rfl, hbl, hc⟩ := hc3 (by omega)
    have hnews : ∀ j u, (ys.flatMap f)[j]? = some u → w.cell? ((⟨b, off, none⟩ : Addr).add j) = some u := by
      intro j u hu
      have hj : j < (ys.flatMap f).length := (List.getElem?_eq_some_iff.1 hu).1
      rw [flat_len hf] at hj
      have hadd : (Addr.add ⟨b, off, none⟩ j) = ⟨b, off + j, none⟩ := by unfold Addr.add; split <;> simp_all
      rw [hadd]
      have hq : j / size < ys.length := by
        apply Nat.div_lt_of_lt_mul; rw [Nat.mul_comm]; exact hj
      have hy : ys[j / size]? = some ys[j / size] := List.getElem?_eq_getElem hq
      have hr : j % size < (f ys[j / size]).length := by rw [hf]; exact Nat.mod_lt _ hsz
      have hu' : (f ys[j / size])[j % size]? = some ((f ys[j / size])[j % size]) := List.getElem?_eq_getElem hr
      have hfl := flat_get hf hy hu'
      have hjj : j / size * size + j % size = j := by rw [Nat.mul_comm]; exact Nat.div_add_mod j size
      rw [hjj] at hfl
      rw [hfl] at hu
      injection hu with hu
      rw [← hu]
      have := hc _ _ hy _ _ hu'
      rw [Nat.add_assoc, hjj] at this
      exact this
    have hl : (ys.flatMap f).length = m * i.size := by rw [flat_len hf, hm1, hi3]
    have hmm : m * i.bytes ≤ 1000000000 * 10000 := Nat.mul_le_mul hlen (by rw [hi4]; exact hb)
    have hge := grownCap_ge w m 0 e
    have hcm := grownCap_le_maxLen w m 0 e (by simp only [maxLen]; omega)
    have hr := run_append_grow (P := P) w t o.type e i z ht hi1 hi2 ⟨g, 0, none⟩ 0 0 [] (by simp) (by intro j u hu; simp at hu) ⟨b, off, none⟩ m c (ys.flatMap f) hl hnews (by omega) (by omega) (growslice_fits (by omega) (by rw [Nat.zero_add]; omega))
    simp only [Nat.zero_add] at hr
    refine Lib.wpList_append_run w hgd s x t t ho _ (.slice (some ⟨b, off, none⟩) m c) hs hx _ _ hr (h _ _ ⟨by rw [hl, hi3, hm1], .inr ⟨w.heap.size, _, _, by rw [← hm1], hbase, heap_alloc_new w.drew _, by omega, hcm, ?_, ?_⟩⟩ ((Ext.refl w).drew.and_alloc _))
    · simp only [Array.size_append, List.size_toArray, size_zeroCells, hzs, hl, hi3, List.length_nil, Nat.zero_add, ← Nat.add_mul]
      congr 1
      omega
    · simp only [Array.toList_append, List.nil_append]
      rw [← hm1, ← hi3, ← hl]
      exact List.take_left
theorem src_cells {α : Type} {w : World} {size : Nat} {f : α → List Value} {b off m c : Nat} {ys : List α} (hf : ∀ y, (f y).length = size) (hsz : 0 < size) (hsrc : SliceOf w size f (some ⟨b, off, none⟩) m c ys) :
    ∀ j u, (ys.flatMap f)[j]? = some u → w.cell? ((⟨b, off, none⟩ : Addr).add j) = some u := by
  intro j u hu
  have hj : j < (ys.flatMap f).length := (List.getElem?_eq_some_iff.1 hu).1
  rw [flat_len hf] at hj
  have hadd : (Addr.add ⟨b, off, none⟩ j) = ⟨b, off + j, none⟩ := by unfold Addr.add; split <;> simp_all
  rw [hadd]
  have hq : j / size < ys.length := by
    apply Nat.div_lt_of_lt_mul; rw [Nat.mul_comm]; exact hj
  have hy : ys[j / size]? = some ys[j / size] := List.getElem?_eq_getElem hq
  have hr : j % size < (f ys[j / size]).length := by rw [hf]; exact Nat.mod_lt _ hsz
  have hu' : (f ys[j / size])[j % size]? = some ((f ys[j / size])[j % size]) := List.getElem?_eq_getElem hr
  have hfl := flat_get hf hy hu'
  have hjj : j / size * size + j % size = j := by rw [Nat.mul_comm]; exact Nat.div_add_mod j size
  rw [hjj] at hfl
  rw [hfl] at hu
  injection hu with hu
  rw [← hu]
  obtain ⟨x, hx, hc⟩ := hsrc.at_ (k := j / size) (by rw [hsrc.1]; exact hq)
  rw [hy] at hx
  injection hx with hx
  subst hx
  have := hc _ _ hu'
  rw [Nat.add_assoc, hjj] at this
  exact this
/-- where the result of append lies: in the old block, or in a new one -/
theorem run_append_where (w : World) (base : Nat) (t ty e : TypeId) (i : TypeInfo) (z : Value) (ht : P.underlying t = some (.slice e)) (hi : P.info? e = some i) (hz : i.zero = some z)
    (v : Value) (n : Nat) (xs : List Value) (hown : w.ownsRow base e i.size v n xs) (a : Addr) (m c : Nat) (news : List Value) (hl : news.length = m * i.size) (hnews : ∀ j u, news[j]? = some u → w.cell? (a.add j) = some u) (h1 : ∀ u ∈ news, u.oneCell' = true)
    (h63 : n + m ≤ maxLen) (hbytes : (n + m) * i.bytes ≤ 140737488355328) (v' : Value) (w' : World) (h : (Builtin.append_ #[t, t] ty #[v, .slice (some a) m c]).run P w = .ok v' w') :
    ∀ k, v'.ownBlock = some k → v.ownBlock = some k ∨ w.heap.size ≤ k := by
  have hsmall : n + m ≤ 9223372036854775807 := by simp only [maxLen] at h63; omega
  intro k hk
  rcases hown.2 with ⟨rfl, rfl⟩ | ⟨g, cap, cur, rfl, hbg, hg, hnc, hcm, hcs, htake⟩
  · by_cases hm : m = 0
    · subst hm
      have hr : (Builtin.append_ #[t, t] ty #[.slice none 0 0, .slice (some a) 0 c]).run P w = .ok (.slice none 0 0) w := by
        simp [Builtin.append_, run_underlying ht, sizeOf, typeInfo, hi, Builtin.lenOf, Builtin.firstCells, loadCells, loadCellsFrom]
      rw [hr] at h
      injection h with h _
      subst h
      cases hk
    · have hr := run_append_nil (P := P) w t ty e i z ht hi hz a m c news hl hnews (by omega) (by omega) (by have hb := hbytes; simp only [Nat.zero_add] at hb; omega)
      rw [hr] at h
      injection h with h _
      subst h
      simp [Value.ownBlock] at hk
      right; omega
  · by_cases hroom : n + m ≤ cap
    · have hfit : n * i.size + news.length ≤ cur.size := by rw [hl, hcs, ← Nat.add_mul]; exact Nat.mul_le_mul_right _ hroom
      have hr := run_append_room (P := P) w t ty e i ht hi g n cap cur hg a m c news hl hnews h1 hroom hfit
      rw [hr] at h
      injection h with h _
      subst h
      left; exact hk
    · have holds : ∀ j u, xs[j]? = some u → w.cell? ((⟨g, 0, none⟩ : Addr).add j) = some u := hown.cells (g := g) rfl
      have hr := run_append_grow (P := P) w t ty e i z ht hi hz ⟨g, 0, none⟩ n cap xs hown.1 holds a m c news hl hnews (by omega) (by omega) (growslice_fits (by omega) hbytes)
      rw [hr] at h
      injection h with h _
      subst h
      simp [Value.ownBlock] at hk
      right; omega
theorem wpList_append_where {α : Type} {ops : Array Oper} {rest : List Oper} {o : Oper} {a : Act} {Q : Exit → Act → World → Prop} {w : World} (hgd : o.guard = none) (s x : Operand) (t : TypeId)
    (ho : o.op = .call { callee := .builtin .append, args := #[s, x], argTypes := #[t, t] }) (base : Nat) (e : TypeId) (z : Value) (size bytes : Nat) (ht : P.underlying t = some (.slice e))
    (hi : (P.info? e).map (fun i => (i.zero, i.size, i.bytes)) = some (some z, size, bytes)) (hzs : z.cells.size = size) (hsz : 0 < size) (f : α → List Value) (hf : ∀ y, (f y).length = size) (h1 : ∀ y, ∀ u ∈ f y, u.oneCell' = true)
    (v : Value) (L : List α) (hs : a.eval s = v) (hown : OwnL w base e size f v L) (b off m c : Nat) (ys : List α) (hx : a.eval x = .slice (some ⟨b, off, none⟩) m c) (hsrc : SliceOf w size f (some ⟨b, off, none⟩) m c ys)
    (hlen : L.length + m ≤ 1000000000) (hb : bytes ≤ 10000) (hbase : base ≤ w.heap.size)
    (h : ∀ v' w', OwnL w' base e size f v' (L ++ ys) → w.grownBy w' v.ownBlock → (∀ k, v'.ownBlock = some k → v.ownBlock = some k ∨ w.heap.size ≤ k) → wpList P ops Q rest (a.put o.dst v') w') : wpList P ops Q (o :: rest) a w := by
  obtain ⟨i, hi1, hi2, hi3, hi4⟩ := info_parts hi
  have hnews := src_cells hf hsz hsrc
  have hl : (ys.flatMap f).length = m * size := by rw [flat_len hf, hsrc.1]
  have hone : ∀ u ∈ ys.flatMap f, u.oneCell' = true := fun u hu => by
    obtain ⟨y, _, hy⟩ := List.mem_flatMap.1 hu
    exact h1 y u hy
  have hby : (L.length + m) * bytes ≤ 140737488355328 := by
    have : (L.length + m) * bytes ≤ 1000000000 * 10000 := Nat.mul_le_mul hlen hb
    omega
  have h63 : L.length + m ≤ maxLen := by simp only [maxLen]; omega
  obtain ⟨v', w', hr, h2, h3, _⟩ := run_append_own (P := P) w base t o.type e i z size bytes ht hi1 hi2 hi3 hi4 hzs hsz v L.length (L.flatMap f) hown ⟨b, off, none⟩ m c (ys.flatMap f) hl hnews hone h63 hby hbase
  refine Lib.wpList_append_run w hgd s x t t ho v (.slice (some ⟨b, off, none⟩) m c) hs hx v' w' hr (h v' w' ?_ h3 (run_append_where w base t o.type e i z ht hi1 hi2 v L.length (L.flatMap f) (by rw [hi3]; exact hown) ⟨b, off, none⟩ m c (ys.flatMap f) (by rw [hi3]; exact hl) hnews hone h63 (by rw [hi4]; exact hby) v' w' hr))
  unfold OwnL
  rw [List.length_append, List.flatMap_append, ← hsrc.1]
  exact h2
end
end Go.Proofs.YtpgbmhpddgjccaaGreat

namespace Go.Proofs.YtpgbmhpddgjccaaGreat
open Go.RowKit
theorem own_new {α : Type} (W : World) (base : Nat) (t : TypeId) (size : Nat) (f : α → List Value) (g : Nat) (hg : g = W.heap.size) (hb : base ≤ g) : OwnL (W.alloc (.cells #[] t)) base t size f (.slice (some ⟨g, 0, none⟩) 0 0) [] := by
  subst hg; exact OwnL.empty W base t size f hb
end Go.Proofs.YtpgbmhpddgjccaaGreat

namespace Go.Proofs.YtpgbmhpddgjccaaGreat
open Go.RowKit
theorem int_one' (y : Int) : ∀ u ∈ intC y, u.oneCell' = true := by intro u hu; simp [intC] at hu; subst hu; rfl
/-- the ends of the pipes are among the nodes -/
def EndsIn (N : Nat) (ps : List Pipe) : Prop := ∀ p ∈ ps, 0 ≤ p.src ∧ p.src < N ∧ 0 ≤ p.dst ∧ p.dst < N
theorem netB_facts {ns : List Node} {ps : List Pipe} (h : netB ns ps = true) : EndsIn ns.length ps ∧ 1 ≤ ns.length ∧ ns.length ≤ 24 ∧ ps.length ≤ 40 := by
  simp only [netB, Bool.and_eq_true, decide_eq_true_eq] at h
  obtain ⟨⟨⟨⟨h1, h2⟩, h3⟩, -⟩, h5⟩ := h
  refine ⟨fun p hp => ?_, h1, h2, h3⟩
  have := List.all_eq_true.1 h5 p hp
  simp only [pipeB, Bool.and_eq_true, inB_true] at this
  omega
/-- indices of pipes at a node -/
def AtB (ps : List Pipe) (x : Int) (E : List Int) : Prop := ∀ z ∈ E, ∃ (k : Nat) (p : Pipe), z = k ∧ ps[k]? = some p ∧ (p.src = x ∨ p.dst = x)
theorem AtB.nil {ps : List Pipe} {x : Int} : AtB ps x [] := fun z hz => by cases hz
theorem AtB.snoc {ps : List Pipe} {x : Int} {E : List Int} (h : AtB ps x E) {k : Nat} {p : Pipe} (hk : ps[k]? = some p) (hp : p.src = x ∨ p.dst = x) : AtB ps x (E ++ [(k : Int)]) := by
  intro z hz
  rcases List.mem_append.1 hz with hz | hz
  · exact h z hz
  · obtain rfl := List.mem_singleton.1 hz; exact ⟨k, p, rfl, hk, hp⟩
/-- a list of numbers in a block of its own -/
def RetI (Q : List Int → Prop) (w : World) (e : Ending) (w' : World) : Prop :=
  ∃ v E, e = .returned v ∧ OwnL w' w.heap.size 2 1 intC v E ∧ Hid (Q E) ∧ Ext w w'
theorem OwnL.lowG {α : Type} {w : World} {base base' : Nat} {e : TypeId} {size : Nat} {f : α → List Value} {v : Value} {L : List α} (h : OwnL w base e size f v L) (hb : base' ≤ base) : OwnL w base' e size f v L := by
  obtain ⟨h1, h2⟩ := h
  refine ⟨h1, ?_⟩
  rcases h2 with h2 | ⟨k, cap, cur, hv, hb', r⟩
  · exact .inl h2
  · exact .inr ⟨k, cap, cur, hv, by omega, r⟩
/-- yes or no -/
def RetB (w : World) (e : Ending) (w' : World) : Prop := ∃ b : Bool, e = .returned (.bool b) ∧ Ext w w'
/-- a number of a node -/
def RetN (N : Nat) (w : World) (e : Ending) (w' : World) : Prop := ∃ y : Nat, e = .returned (.int .i64 (y : Int)) ∧ y < N ∧ Ext w w'
set_option maxHeartbeats 1000000 in
theorem c_l02At (A1 A2 : Option Addr) (n1 c1 n2 c2 : Nat) (ps : List Pipe) (w : World) (hs2 : SliceOf w 5 Pipe.cells A2 n2 c2 ps) (x : Int) (m2 : n2 ≤ 1048576) :
    Calls Tryz.prog 282 #[.agg #[.slice A1 n1 c1, .slice A2 n2 c2], .int .i64 x] w (RetI (fun E => AtB ps x E ∧ E.length ≤ n2) w) := by
  have hB := Row.new w 45 [.slice A1 n1 c1, .slice A2 n2 c2]
  have hx0 : Ext w (w.alloc (.cells #[.slice A1 n1 c1, .slice A2 n2 c2] 45)) := Ext.alloc _ _
  go_enter Tryz.func282, Tryz.ntmps282
  go_wp2_with fail
  go_loopw [5, 6] (fun v i wr => ∃ (k : Nat) (E : List Int), k ≤ n2 ∧ i = .int .i64 k ∧ E.length ≤ k ∧ Hid (AtB ps x E) ∧ OwnL wr (w.heap.size + 1) 2 1 intC v E ∧ Ext (w.alloc (.cells #[.slice A1 n1 c1, .slice A2 n2 c2] 45)) wr) (fun _ i _ => n2 - (intOf i).toNat)
  case atStart => exact ⟨0, [], Nat.zero_le _, rfl, by simp, hide AtB.nil, own_new (w.alloc (.cells #[.slice A1 n1 c1, .slice A2 n2 c2] 45)) (w.heap.size + 1) _ _ _ _ (by simp) (by omega), Ext.alloc _ _⟩
  case round =>
    obtain ⟨k, E, hk, rfl, hE, HE, hown, hx⟩ := hrel
    have hxz := hx.size
    have hbl := (hB.ext hx).lt
    have hb1 := (hB.ext hx).cell 1
    simp at hb1 hxz
    by_cases hlt : k < n2
    · obtain ⟨b, off, p, rfl, hb, hxk, hc⟩ := (hs2.ext (hx0.trans hx)).get hlt
      have HK := hide hxk
      clear hxk
      have hc0 := hc 0 _ rfl
      have hc1 := hc 1 _ rfl
      clear hc
      simp only [Nat.add_zero] at hc0
      cases e0 : (p.src == x)
      · cases e1 : (p.dst == x)
        · go_wp2_with fail
          go_roundw
          case rel => exact ⟨k + 1, E, by omega, by go_num, by omega, HE, hown, hx⟩
          case measure => simp [intOf]; omega
        · have HN := hide (AtB.snoc HE.out HK.out (.inr (by simpa using e1)))
          go_wp2_with (at_builtin; go_must (refine wpList_append_one rfl _ _ 24 rfl (w.heap.size + 1) 2 _ 1 8 Tryz.underlying24 int_info rfl (by decide) intC intC_len int_one' _ _ rfl (hown.ext (Ext.alloc _ _)) _ (k : Int) rfl _ rfl (by first | rfl | simp) (by omega) (by omega) (by omega) ?_))
          intro v1 w4 hown4 hext4
          have hx4 := hext4 _ (by simp) (hx.and_alloc _)
          go_wp2_with fail
          go_roundw
          case rel => exact ⟨k + 1, _, by omega, by go_num, by simp; omega, HN, hown4, hx4⟩
          case measure => simp [intOf]; omega
      · have HN := hide (AtB.snoc HE.out HK.out (.inl (by simpa using e0)))
        go_wp2_with (at_builtin; go_must (refine wpList_append_one rfl _ _ 24 rfl (w.heap.size + 1) 2 _ 1 8 Tryz.underlying24 int_info rfl (by decide) intC intC_len int_one' _ _ rfl (hown.ext (Ext.alloc _ _)) _ (k : Int) rfl _ rfl (by first | rfl | simp) (by omega) (by omega) (by omega) ?_))
        intro v1 w4 hown4 hext4
        have hx4 := hext4 _ (by simp) (hx.and_alloc _)
        go_wp2_with fail
        go_roundw
        case rel => exact ⟨k + 1, _, by omega, by go_num, by simp; omega, HN, hown4, hx4⟩
        case measure => simp [intOf]; omega
    · obtain rfl : n2 = k := by omega
      go_wp2_with fail
      go_ret
      exact ⟨_, E, rfl, hown.lowG (by omega), hide ⟨HE.out, hE⟩, hx0.trans hx⟩
set_option maxHeartbeats 1000000 in
theorem c_l02Other (A1 A2 : Option Addr) (n1 c1 n2 c2 : Nat) (ps : List Pipe) (w : World) (hs2 : SliceOf w 5 Pipe.cells A2 n2 c2 ps) (N : Nat) (hN : N ≤ 1048576) (he : EndsIn N ps) (k : Nat) (p : Pipe) (hk : ps[k]? = some p) (x : Int) (hx : p.src = x ∨ p.dst = x) :
    Calls Tryz.prog 259 #[.agg #[.slice A1 n1 c1, .slice A2 n2 c2], .int .i64 k, .int .i64 x] w (RetN N w) := by
  obtain ⟨W, HW⟩ : ∃ W, Hid ((w.alloc (.cells #[.slice A1 n1 c1, .slice A2 n2 c2] 45)) = W) := ⟨_, hide rfl⟩
  have hB : Row W w.heap.size 45 [.slice A1 n1 c1, .slice A2 n2 c2] := by rw [← HW.out]; exact Row.new w 45 [.slice A1 n1 c1, .slice A2 n2 c2]
  have hx0 : Ext w W := by rw [← HW.out]; exact Ext.alloc _ _
  have hkl : k < n2 := by rw [hs2.len]; exact (List.getElem?_eq_some_iff.1 hk).1
  obtain ⟨b, off, p', rfl, hb, hk', hc⟩ := (hs2.ext hx0).get hkl
  have hb1 := hB.cell 1
  simp at hb1
  have hbl := hB.lt
  obtain rfl : p' = p := by rw [hk] at hk'; exact (Option.some.inj hk').symm
  have hc0 := hc 0 _ rfl
  have hc1 := hc 1 _ rfl
  clear hc hk'
  simp only [Nat.add_zero] at hc0
  obtain ⟨h1, h2, h3, h4⟩ := he _ (List.mem_of_getElem? hk)
  clear hk
  have e1 : IntKind.i64.wrap (p'.src + p'.dst) = p'.src + p'.dst := IntWalk.i64_in _ (by omega)
  have e2 : IntKind.i64.wrap (p'.src + p'.dst - x) = p'.src + p'.dst - x := IntWalk.i64_in _ (by rcases hx with h | h <;> omega)
  have HX := hide hx
  clear hx
  go_enter Tryz.func259, Tryz.ntmps259
  go_wp2_with fail
  rw [HW.out]
  refine wp_region_later (by kernel_rfl) (by kernel_rfl) ?_
  repeat (go_big_quiet_step (fail))
  refine wpQuiet_nil ?_
  intro w1 hx1
  go_wp2_with fail
  go_ret
  refine ⟨(p'.src + p'.dst - x).toNat, ?_, by rcases HX.out with h | h <;> omega, hx0.trans hx1⟩
  rw [Int.toNat_of_nonneg (by rcases HX.out with h | h <;> omega)]; rfl
set_option maxHeartbeats 1000000 in
theorem c_l02Has (A : Option Addr) (n c : Nat) (L : List Int) (x : Int) (w : World) (hL : SliceOf w 1 intC A n c L) (hn : n ≤ 1048576) :
    Calls Tryz.prog 294 #[.slice A n c, .int .i64 x] w (RetB w) := by
  go_enter Tryz.func294, Tryz.ntmps294
  go_wp2_with fail
  go_loop [5] (fun i => ∃ k : Nat, k ≤ n ∧ i = .int .i64 k) (fun i => n - (intOf i).toNat)
  case atStart => exact ⟨0, Nat.zero_le _, rfl⟩
  case round =>
    obtain ⟨k, hk, rfl⟩ := hrel
    by_cases hlt : k < n
    · obtain ⟨b, off, z, rfl, hb, hxk, hc⟩ := hL.get hlt
      have hc0 := hc 0 _ rfl
      clear hc hxk
      simp only [Nat.add_zero, Nat.mul_one] at hc0
      cases e0 : (z == x)
      · go_wp2_with fail
        go_round
        case rel => exact ⟨k + 1, by omega, by go_num⟩
        case measure => simp [intOf]; omega
      · go_wp2_with fail
        go_ret
        exact ⟨true, rfl, Ext.refl _⟩
    · obtain rfl : n = k := by omega
      go_wp2_with fail
      go_ret
      exact ⟨false, rfl, Ext.refl _⟩
end Go.Proofs.YtpgbmhpddgjccaaGreat

namespace Go.Proofs.YtpgbmhpddgjccaaGreat
open Go.RowKit

/-- the blocks below base stayed -/
structure Kept (base : Nat) (w w' : World) : Prop where
  os : w'.os = w.os
  tape : w'.tape = w.tape
  output : w'.output = w.output
  size : base ≤ w'.heap.size
  block : ∀ k, k < base → w'.heap[k]? = w.heap[k]?
theorem kept_append {w w' : World} {base : Nat} (hb : base ≤ w.heap.size) (h : ∀ w0 : World, w0.heap.size ≤ base → Ext w0 w → Ext w0 w') : Kept base w w' := by
  have hT : Ext { w with heap := w.heap.extract 0 base } w := by
    refine ⟨rfl, rfl, rfl, by simp; omega, fun k hk => ?_⟩
    simp at hk
    simp [Array.getElem?_extract]
    omega
  have h2 := h _ (by simp; omega) hT
  refine ⟨h2.os, h2.tape, h2.output, ?_, fun k hk => ?_⟩
  · have := h2.size
    simp at this
    omega
  · have := h2.block k (by simp; omega)
    rw [this]
    simp [Array.getElem?_extract]
    omega
section
variable {α : Type} {w w' : World} {base g : Nat} {e : TypeId} {size : Nat} {f : α → List Value} {v : Value} {L : List α}
theorem Row.kept {cs : List Value} (h : Row w g e cs) (hx : Kept base w w') (hg : g < base) : Row w' g e cs := (hx.block g hg).trans h
theorem Only.kept {w0 : World} (h : Only g w0 w) (hx : Kept base w w') (hb : w0.heap.size ≤ base) : Only g w0 w' :=
  ⟨hx.os.trans h.os, hx.tape.trans h.tape, hx.output.trans h.output, Nat.le_trans hb hx.size, fun k hk hne => (hx.block k (by omega)).trans (h.block k hk hne)⟩
theorem OwnL.only (h : OwnL w base e size f v L) (hx : Only g w w') (hg : g < base) : OwnL w' base e size f v L := by
  obtain ⟨h1, h2⟩ := h
  refine ⟨h1, ?_⟩
  rcases h2 with h2 | ⟨k, cap, cur, hv, hb, hh, r⟩
  · exact .inl h2
  · refine .inr ⟨k, cap, cur, hv, hb, ?_, r⟩
    have hlt : k < w.heap.size := by
      rcases Nat.lt_or_ge k w.heap.size with hlt | hge
      · exact hlt
      · rw [Array.getElem?_eq_none hge] at hh; cases hh
    exact (hx.block k hlt (by simp; omega)).trans hh
end
end Go.Proofs.YtpgbmhpddgjccaaGreat
