/-
  The helpers of the laws on Pipe: copying, comparing, measuring, marking. A search through a network, in plain Lean: the pipes at a node, the other end, the visits in order.
-/
import Derived.Test.YtfkpghdmljjegaaGreatVb01
namespace Go.Proofs.YtfkpghdmljjegaaGreat
open Go.RowKit

structure Pipe where
  src : Int
  dst : Int
  k : Int
  volume : Int
  limit : Int
def Pipe.cells (x : Pipe) : List Value := [.int .i64 x.src, .int .i64 x.dst, .int .i64 x.k, .int .i64 x.volume, .int .i64 x.limit]
theorem pipe_len (x : Pipe) : x.cells.length = 5 := rfl
theorem pipe_info : (Tryz.prog.info? 181).map (fun i => (i.zero, i.size, i.bytes)) = some (some (.agg #[.int .i64 0, .int .i64 0, .int .i64 0, .int .i64 0, .int .i64 0]), 5, 40) := by kernel_rfl

theorem c_toPipe (x : Pipe) (w : World) :
    Calls Tryz.prog 183 #[.agg #[.int .i64 x.src, .int .i64 x.dst, .int .i64 x.k, .int .i64 x.volume, .int .i64 x.limit]] w (Ret (.agg #[.int .i64 x.src, .int .i64 x.dst, .int .i64 x.k, .int .i64 x.volume, .int .i64 x.limit]) w) := by
  go_enter Tryz.func183, Tryz.ntmps183
  go_wp2
  exact bodyPost_ret (v := .agg #[.int .i64 x.src, .int .i64 x.dst, .int .i64 x.k, .int .i64 x.volume, .int .i64 x.limit]) (by simp [results, Tryz.results183, go_sem]) rfl ⟨rfl, (((Ext.refl _).and_alloc _).and_alloc _).and_alloc _⟩

theorem c_eqPipe (x : Pipe) (w : World) :
    Calls Tryz.prog 192 #[.agg #[.int .i64 x.src, .int .i64 x.dst, .int .i64 x.k, .int .i64 x.volume, .int .i64 x.limit], .agg #[.int .i64 x.src, .int .i64 x.dst, .int .i64 x.k, .int .i64 x.volume, .int .i64 x.limit]] w (Ret (.bool true) w) := by
  go_enter Tryz.func192, Tryz.ntmps192
  go_wp2
  go_ret
  exact Ret.bool rfl (((Ext.refl _).and_alloc _).and_alloc _)

theorem c_szPipeS (A : Option Addr) (n c : Nat) (left : Int) (w : World) (hn : n ≤ c) (hc : c ≤ 9223372036854775807) (h0 : 0 ≤ left) (h1 : left ≤ 1048576) :
    Calls Tryz.prog 99 #[.slice A n c, .int .i64 left] w fun e w' => e = .returned (.int .i64 (if left < n then -1 else left - n)) ∧ w = w' := by
  go_enter Tryz.func99, Tryz.ntmps99
  go_wp2
  all_goals
    go_ret
    simp <;> omega


set_option maxHeartbeats 1000000 in
theorem c_toPipeS (A : Option Addr) (n c : Nat) (ts : List Pipe) (w : World) (hs : SliceOf w 5 Pipe.cells A n c ts) (hn : n ≤ 1048576) :
    Calls Tryz.prog 107 #[.slice A n c] w (NewRow 181 Pipe.cells ts w) := by
  have hmk := fun W => run_make_flat (P := Tryz.prog) 43 181 _ _ 5 40 Tryz.underlying43 pipe_info (f := Pipe.cells) ⟨0, 0, 0, 0, 0⟩ rfl rfl rfl (by omega) n (by omega) (by omega) W
  have hR0 := Row.new w 181 ((List.replicate n (⟨0, 0, 0, 0, 0⟩ : Pipe)).flatMap Pipe.cells)
  go_enter Tryz.func107, Tryz.ntmps107
  go_wp2_with fail
  go_loopw [4] (fun i wr => ∃ (k : Nat) (L : List Pipe), k ≤ n ∧ i = .int .i64 k ∧ L.length = n ∧ RowOf wr w.heap.size 181 Pipe.cells L ∧ Hid (∀ j, j < k → L[j]? = ts[j]?) ∧ Ext w wr) (fun i _ => n - (intOf i).toNat)
  case atStart => exact ⟨0, _, Nat.zero_le _, rfl, List.length_replicate, hR0, hide (fun j hj => absurd hj (by omega)), Ext.alloc _ _⟩
  case round =>
    obtain ⟨k, L, hk, rfl, hL, hrow, HK, hx⟩ := hrel
    clear hR0 hmk
    have hgs := hrow.lt
    by_cases hlt : k < n
    · obtain ⟨b, off, x, rfl, hb, hxk, hc⟩ := (hs.ext hx).get hlt
      have hc0 := hc 0 _ rfl
      have hc1 := hc 1 _ rfl
      have hc2 := hc 2 _ rfl
      have hc3 := hc 3 _ rfl
      have hc4 := hc 4 _ rfl
      clear hc
      simp only [Nat.add_zero] at hc0
      have Hx := hide hxk
      have HL := hide hL
      clear hxk hL
      go_wp2_with (go_at_call 183; refine (c_toPipe x _).mono ?_; rintro e w1 ⟨rfl, hx1⟩; have hrow1 := hrow.ext hx1; obtain ⟨v0, hv0⟩ := hrow1.there pipe_len (i := k) (by rw [HL.out]; exact hlt) (j := 0) (by omega); have hf0 := hrow1.frozen (k * 5); obtain ⟨v1, hv1⟩ := hrow1.there pipe_len (i := k) (by rw [HL.out]; exact hlt) (j := 1) (by omega); have hf1 := hrow1.frozen (k * 5 + 1); obtain ⟨v2, hv2⟩ := hrow1.there pipe_len (i := k) (by rw [HL.out]; exact hlt) (j := 2) (by omega); have hf2 := hrow1.frozen (k * 5 + 2); obtain ⟨v3, hv3⟩ := hrow1.there pipe_len (i := k) (by rw [HL.out]; exact hlt) (j := 3) (by omega); have hf3 := hrow1.frozen (k * 5 + 3); obtain ⟨v4, hv4⟩ := hrow1.there pipe_len (i := k) (by rw [HL.out]; exact hlt) (j := 4) (by omega); have hf4 := hrow1.frozen (k * 5 + 4); rw [Nat.add_zero] at hv0)
      go_roundw
      case rel =>
        refine ⟨k + 1, L.set k x, by omega, by go_num, by simpa using HL.out, hrow1.put pipe_len (by rw [HL.out]; exact hlt) x, hide ?_, (hx.trans hx1).put (Nat.le_refl _) (k * 5) x.cells⟩
        intro j hj
        rw [List.getElem?_set]
        by_cases e : k = j
        · subst e; rw [if_pos rfl, if_pos (by rw [HL.out]; exact hlt), Hx.out]
        · rw [if_neg e]; exact HK.out j (by omega)
      case measure => simp [intOf]; omega
    · go_wp2
      go_ret
      have hLts : L = ts := by
        apply List.ext_getElem?
        intro j
        by_cases hj : j < n
        · exact HK.out j (by omega)
        · rw [List.getElem?_eq_none (by omega), List.getElem?_eq_none (by have := hs.len; omega)]
      subst hLts
      refine ⟨w.heap.size, ?_, Nat.le_refl _, hrow, hx⟩
      rw [hL]; rfl

set_option maxHeartbeats 1000000 in
theorem c_eqPipeS (A A' : Option Addr) (n c n' c' : Nat) (ts : List Pipe) (w : World) (hs : SliceOf w 5 Pipe.cells A n c ts) (hs' : SliceOf w 5 Pipe.cells A' n' c' ts) :
    Calls Tryz.prog 116 #[.slice A n c, .slice A' n' c'] w (Ret (.bool true) w) := by
  have hl := hs.len
  obtain rfl : n = n' := by rw [hs.len, hs'.len]
  have hm := hs.max
  have hcp := hs.cap
  clear hl
  go_enter Tryz.func116, Tryz.ntmps116
  go_wp2_with fail
  go_loopw [5] (fun i wr => ∃ (k : Nat), k ≤ n ∧ i = .int .i64 k ∧ Ext w wr) (fun i _ => n - (intOf i).toNat)
  case atStart => exact ⟨0, Nat.zero_le _, rfl, Ext.refl _⟩
  case round =>
    obtain ⟨k, hk, rfl, hx⟩ := hrel
    by_cases hlt : k < n
    · obtain ⟨b, off, x, rfl, hb, hxk, hc⟩ := (hs.ext hx).get hlt
      obtain ⟨b', off', x', rfl, hb', hxk', hc'⟩ := (hs'.ext hx).get hlt
      obtain rfl : x = x' := by rw [hxk] at hxk'; injection hxk'
      have hc0 := hc 0 _ rfl
      have hc1 := hc 1 _ rfl
      have hc2 := hc 2 _ rfl
      have hc3 := hc 3 _ rfl
      have hc4 := hc 4 _ rfl
      have hd0 := hc' 0 _ rfl
      have hd1 := hc' 1 _ rfl
      have hd2 := hc' 2 _ rfl
      have hd3 := hc' 3 _ rfl
      have hd4 := hc' 4 _ rfl
      clear hc hc' hxk hxk'
      simp only [Nat.add_zero] at hc0 hd0
      go_wp2_with fail
      refine wp_region_later (by kernel_rfl) (by kernel_rfl) ?_
      repeat (go_big_quiet_step ((go_at_call 192; exact quiet_later (c_eqPipe x _))))
      refine wpQuiet_nil ?_
      intro w1 hx1
      go_wp2
      go_roundw
      case rel => exact ⟨k + 1, by omega, by go_num, hx.trans hx1⟩
      case measure => simp [intOf]; omega
    · go_wp2
      go_ret
      exact Ret.bool rfl hx


/-- the marks from a number on -/
def markPipe (a : Int) (n : Nat) : List Pipe := (List.range n).map fun (i : Nat) => ⟨a + 5 * (i : Int), a + 5 * (i : Int) + 1, a + 5 * (i : Int) + 2, a + 5 * (i : Int) + 3, a + 5 * (i : Int) + 4⟩
theorem markPipe_at (a : Int) (n i : Nat) (h : i < n) : (markPipe a n)[i]? = some ⟨a + 5 * (i : Int), a + 5 * (i : Int) + 1, a + 5 * (i : Int) + 2, a + 5 * (i : Int) + 3, a + 5 * (i : Int) + 4⟩ := by
  unfold markPipe; rw [List.getElem?_map, List.getElem?_range h]; rfl
/-- the row is marked; nothing else has turned -/
def MarkedPipe (g : Nat) (A : Option Addr) (n : Nat) (a : Int) (w : World) (e : Ending) (w' : World) : Prop :=
  e = .returned (.int .i64 (a + 5 * n)) ∧ OwnS w' g 181 Pipe.cells A n (markPipe a n) ∧ Only g w w'
set_option maxHeartbeats 1000000 in
theorem c_markPipeS (g : Nat) (A : Option Addr) (n c : Nat) (ts : List Pipe) (a : Int) (w : World) (hown0 : OwnS w g 181 Pipe.cells A n ts) (hn : n ≤ 1000000000) (hcap : n ≤ c) (hmax : c ≤ 9223372036854775807) (ha0 : 0 ≤ a) (ha1 : a ≤ 1000000000000) :
    Calls Tryz.prog 120 #[.slice A n c, .int .i64 a] w (MarkedPipe g A n a w) := by
  go_enter Tryz.func120, Tryz.ntmps120
  go_wp2_with fail
  go_loopw [1, 5] (fun q i wr => ∃ (k : Nat) (K : Int) (L : List Pipe), k ≤ n ∧ q = .int .i64 K ∧ i = .int .i64 k ∧ a + 5 * (k : Int) ≤ K ∧ K ≤ a + 5 * (k : Int) ∧ OwnS wr g 181 Pipe.cells A n L ∧ Hid (∀ j, j < k → L[j]? = (markPipe a n)[j]?) ∧ Only g w wr) (fun _ i _ => n - (intOf i).toNat)
  case atStart => exact ⟨0, a, ts, Nat.zero_le _, rfl, rfl, by omega, by omega, hown0, hide (fun j hj => absurd hj (by omega)), Only.refl _ _⟩
  case round =>
    obtain ⟨k, K, L, hk, rfl, rfl, hK0, hK1, hown, HK, hx⟩ := hrel
    by_cases hlt : k < n
    · have hn0 : 0 < n := by omega
      obtain ⟨rfl, _⟩ := hown.2 hn0
      obtain ⟨v0, hv0⟩ := hown.there pipe_len (i := k) hlt (j := 0) (by omega)
      have hf0 := hown.frozen hn0 (k * 5)
      obtain ⟨v1, hv1⟩ := hown.there pipe_len (i := k) hlt (j := 1) (by omega)
      have hf1 := hown.frozen hn0 (k * 5 + 1)
      obtain ⟨v2, hv2⟩ := hown.there pipe_len (i := k) hlt (j := 2) (by omega)
      have hf2 := hown.frozen hn0 (k * 5 + 2)
      obtain ⟨v3, hv3⟩ := hown.there pipe_len (i := k) hlt (j := 3) (by omega)
      have hf3 := hown.frozen hn0 (k * 5 + 3)
      obtain ⟨v4, hv4⟩ := hown.there pipe_len (i := k) hlt (j := 4) (by omega)
      have hf4 := hown.frozen hn0 (k * 5 + 4)
      rw [Nat.add_zero] at hv0
      have HL := hide hown.1
      go_wp2_with fail
      go_roundw
      case rel =>
        refine ⟨k + 1, _, L.set k ⟨K, K + 1, K + 1 + 1, K + 1 + 1 + 1, K + 1 + 1 + 1 + 1⟩, by omega, rfl, by go_num, by omega, by omega, hown.put pipe_len hlt ⟨K, K + 1, K + 1 + 1, K + 1 + 1 + 1, K + 1 + 1 + 1 + 1⟩, hide ?_, hx.put (k * 5) (Pipe.cells ⟨K, K + 1, K + 1 + 1, K + 1 + 1 + 1, K + 1 + 1 + 1 + 1⟩)⟩
        intro j hj
        rw [List.getElem?_set]
        by_cases e : k = j
        · subst e
          rw [if_pos rfl, if_pos (by rw [← HL.out]; exact hlt), markPipe_at _ _ _ hlt]
          congr 2 <;> omega
        · rw [if_neg e]; exact HK.out j (by omega)
      case measure => simp [intOf]; omega
    · go_wp2_with fail
      go_ret
      have hLts : L = markPipe a n := by
        apply List.ext_getElem?
        intro j
        by_cases hj : j < n
        · exact HK.out j (by omega)
        · rw [List.getElem?_eq_none (by have := hown.1; omega), List.getElem?_eq_none (by simp [markPipe]; omega)]
      subst hLts
      refine ⟨?_, hown, hx⟩
      obtain rfl : k = n := by omega
      have : K = a + 5 * (k : Int) := by omega
      rw [← this]; rfl


end Go.Proofs.YtfkpghdmljjegaaGreat

namespace Go.Proofs.YtfkpghdmljjegaaGreat
/-- does a pipe end at a node? -/
def endB (ps : List Pipe) (x : Int) (i : Nat) : Bool := match ps[i]? with | some p => p.src == x || p.dst == x | none => false
/-- the pipes at a node, among the first k -/
def atN (ps : List Pipe) (x : Int) (k : Nat) : List Nat := (List.range k).filter (endB ps x)
def atI (ps : List Pipe) (x : Int) (k : Nat) : List Int := (atN ps x k).map fun i : Nat => (i : Int)
def atL (ps : List Pipe) (x : Int) : List Int := atI ps x ps.length
theorem atN_succ (ps : List Pipe) (x : Int) (k : Nat) : atN ps x (k + 1) = atN ps x k ++ if endB ps x k = true then [k] else [] := by
  unfold atN
  rw [List.range_succ, List.filter_append]
  cases h : endB ps x k <;> simp [h]
theorem atI_yes {ps : List Pipe} {x : Int} {k : Nat} (h : endB ps x k = true) : atI ps x (k + 1) = atI ps x k ++ [(k : Int)] := by
  unfold atI; rw [atN_succ, if_pos h, List.map_append]; rfl
theorem atI_no {ps : List Pipe} {x : Int} {k : Nat} (h : endB ps x k = false) : atI ps x (k + 1) = atI ps x k := by
  unfold atI; rw [atN_succ, if_neg (by rw [h]; decide), List.append_nil]
theorem atL_mem {ps : List Pipe} {x z : Int} (h : z ∈ atL ps x) : ∃ (k : Nat) (p : Pipe), z = k ∧ ps[k]? = some p ∧ (p.src = x ∨ p.dst = x) := by
  obtain ⟨k, hk, rfl⟩ := List.mem_map.1 h
  have h2 := (List.mem_filter.1 hk).2
  unfold endB at h2
  split at h2
  · rename_i p hp
    refine ⟨k, p, rfl, hp, ?_⟩
    simpa using h2
  · cases h2
/-- the other end -/
def othE (p : Pipe) (x : Int) : Int := if p.src = x then p.dst else p.src
theorem oth_sum {p : Pipe} {x : Int} (h : p.src = x ∨ p.dst = x) : othE p x = p.src + p.dst - x := by
  unfold othE; split <;> omega
theorem oth_end (p : Pipe) (x : Int) : p.src = othE p x ∨ p.dst = othE p x := by
  unfold othE; split <;> omega
theorem oth_oth {p : Pipe} {x : Int} (h : p.src = x ∨ p.dst = x) : othE p (othE p x) = x := by
  have h1 := oth_sum h
  have h2 := oth_sum (oth_end p x)
  omega
/-- the ends of the pipes are among the nodes, and differ -/
def EndsN (N : Nat) (ps : List Pipe) : Prop := ∀ p ∈ ps, (0 ≤ p.src ∧ p.src < N) ∧ (0 ≤ p.dst ∧ p.dst < N) ∧ p.src ≠ p.dst
theorem EndsN.oth {N : Nat} {ps : List Pipe} (he : EndsN N ps) {k : Nat} {p : Pipe} (hk : ps[k]? = some p) (x : Int) : ∃ y : Nat, othE p x = y ∧ y < N := by
  have := he p (List.mem_of_getElem? hk)
  unfold othE
  split
  · exact ⟨p.dst.toNat, by omega, by omega⟩
  · exact ⟨p.src.toNat, by omega, by omega⟩
/-- every pipe may be taken -/
def anyR (_ : Nat) (_ : Int) : Bool := true
/-- a search on its way: who was seen, by which pipe, in which order -/
structure Sst where
  seen : List Bool
  en : List Int
  E : List Int
/-- a visit over one pipe -/
def visit (ps : List Pipe) (room : Nat → Int → Bool) (q : Int) (s : Sst) (z : Int) : Sst :=
  match ps[z.toNat]? with
  | none => s
  | some p => if s.seen[(othE p q).toNat]? = some false ∧ room z.toNat q = true then ⟨s.seen.set (othE p q).toNat true, s.en.set (othE p q).toNat z, s.E ++ [othE p q]⟩ else s
def visits (ps : List Pipe) (room : Nat → Int → Bool) (q : Int) (s : Sst) : Sst := (atL ps q).foldl (visit ps room q) s
/-- the visits from the node at place k of the order on -/
def srchF (ps : List Pipe) (room : Nat → Int → Bool) : Nat → Nat → Sst → Sst
  | 0, _, s => s
  | f + 1, k, s => match s.E[k]? with | none => s | some q => srchF ps room f (k + 1) (visits ps room q s)
/-- a search that has gone as it should -/
structure Okay (N P : Nat) (s : Sst) : Prop where
  sl : s.seen.length = N
  el : s.en.length = N
  cnt : s.E.length = s.seen.count true
  inn : ∀ z ∈ s.E, ∃ k : Nat, z = k ∧ k < N
  enb : ∀ z ∈ s.en, -1 ≤ z ∧ z < P
theorem count_set_T {l : List Bool} {d : Nat} (hd : l[d]? = some false) : (l.set d true).count true = l.count true + 1 := by
  obtain ⟨h, he⟩ := List.getElem?_eq_some_iff.1 hd
  rw [List.count_set h, he]
  simp
theorem Okay.le {N P : Nat} {s : Sst} (h : Okay N P s) : s.E.length ≤ N := by rw [h.cnt, ← h.sl]; exact List.count_le_length
theorem Okay.visit1 {N P : Nat} {ps : List Pipe} {room : Nat → Int → Bool} {q z : Int} {s : Sst} (h : Okay N P s) (he : EndsN N ps) (hP : ps.length ≤ P) (hz : z ∈ atL ps q) : Okay N P (visit ps room q s z) := by
  obtain ⟨k, p, rfl, hk, hq⟩ := atL_mem hz
  unfold visit
  rw [Int.toNat_natCast, hk]
  obtain ⟨y, hy, hyN⟩ := he.oth hk q
  simp only [hy, Int.toNat_natCast]
  have hkl := (List.getElem?_eq_some_iff.1 hk).1
  split
  · rename_i hc
    refine ⟨by simp [h.sl], by simp [h.el], ?_, fun z hz => ?_, fun z hz => ?_⟩
    · rw [List.length_append, h.cnt, count_set_T hc.1]; rfl
    · rcases List.mem_append.1 hz with hz | hz
      · exact h.inn z hz
      · obtain rfl := List.mem_singleton.1 hz; exact ⟨y, rfl, hyN⟩
    · rcases List.mem_or_eq_of_mem_set hz with hz | rfl
      · exact h.enb z hz
      · omega
  · exact h
theorem Okay.folds {N P : Nat} {ps : List Pipe} {room : Nat → Int → Bool} {q : Int} (he : EndsN N ps) (hP : ps.length ≤ P) : ∀ {L : List Int} {s : Sst}, Okay N P s → (∀ z ∈ L, z ∈ atL ps q) → Okay N P (L.foldl (visit ps room q) s)
  | [], _, h, _ => h
  | z :: L, s, h, hL => by
    rw [List.foldl_cons]
    exact Okay.folds he hP (h.visit1 he hP (hL z (by simp))) (fun y hy => hL y (by simp [hy]))
theorem Okay.visitA {N P : Nat} {ps : List Pipe} {room : Nat → Int → Bool} {q : Int} {s : Sst} (h : Okay N P s) (he : EndsN N ps) (hP : ps.length ≤ P) : Okay N P (visits ps room q s) := Okay.folds he hP h (fun _ hz => hz)
theorem Okay.srchA {N P : Nat} {ps : List Pipe} {room : Nat → Int → Bool} (he : EndsN N ps) (hP : ps.length ≤ P) : ∀ {f k : Nat} {s : Sst}, Okay N P s → Okay N P (srchF ps room f k s)
  | 0, _, _, h => h
  | f + 1, k, s, h => by
    simp only [srchF]
    split
    · exact h
    · exact Okay.srchA he hP (h.visitA he hP)
theorem visit_no {ps : List Pipe} {room : Nat → Int → Bool} {q : Int} {s : Sst} {k : Nat} {p : Pipe} (hk : ps[k]? = some p) (h : ¬ (s.seen[(othE p q).toNat]? = some false ∧ room k q = true)) : visit ps room q s k = s := by
  unfold visit; rw [Int.toNat_natCast, hk]; simp only; rw [if_neg h]
theorem visit_yes {ps : List Pipe} {room : Nat → Int → Bool} {q : Int} {s : Sst} {k : Nat} {p : Pipe} (hk : ps[k]? = some p) (h : s.seen[(othE p q).toNat]? = some false) (hr : room k q = true) : visit ps room q s k = ⟨s.seen.set (othE p q).toNat true, s.en.set (othE p q).toNat k, s.E ++ [othE p q]⟩ := by
  unfold visit; rw [Int.toNat_natCast, hk]; simp only; rw [if_pos ⟨h, hr⟩]
theorem srchF_step {ps : List Pipe} {room : Nat → Int → Bool} {f k : Nat} {s : Sst} {q : Int} (hk : s.E[k]? = some q) (hf : k < f) : srchF ps room (f - k) k s = srchF ps room (f - (k + 1)) (k + 1) (visits ps room q s) := by
  obtain ⟨m, hm⟩ : ∃ m, f - k = m + 1 := ⟨f - k - 1, by omega⟩
  rw [hm, show f - (k + 1) = m by omega]
  simp only [srchF, hk]
theorem srchF_end {ps : List Pipe} {room : Nat → Int → Bool} {f k : Nat} {s : Sst} (hk : s.E.length ≤ k) : srchF ps room f k s = s := by
  cases f with
  | zero => rfl
  | succ f => simp only [srchF, List.getElem?_eq_none hk]
theorem fold_step {ps : List Pipe} {room : Nat → Int → Bool} {q z : Int} {s : Sst} {L : List Int} {j : Nat} (h : L[j]? = some z) : (L.take (j + 1)).foldl (visit ps room q) s = visit ps room q ((L.take j).foldl (visit ps room q) s) z := by
  rw [List.take_add_one, h, List.foldl_append]; rfl
/-- where a search begins -/
def start (N : Nat) (e : Int) (q : Nat) : Sst := ⟨(List.replicate N false).set q true, List.replicate N e, [(q : Int)]⟩
theorem start_ok {N P q : Nat} {e : Int} (h : q < N) (he : -1 ≤ e ∧ e < P) : Okay N P (start N e q) := by
  refine ⟨by simp [start], by simp [start], ?_, fun z hz => ?_, fun z hz => ?_⟩
  · simp only [start, List.length_singleton]
    rw [count_set_T (by rw [List.getElem?_replicate, if_pos h])]
    simp [List.count_replicate]
  · obtain rfl := List.mem_singleton.1 hz; exact ⟨q, rfl, h⟩
  · have := List.eq_of_mem_replicate hz; omega
/-- the whole search from a node -/
def srch (ps : List Pipe) (room : Nat → Int → Bool) (N : Nat) (e : Int) (q : Nat) : Sst := srchF ps room N 0 (start N e q)
theorem srch_ok {ps : List Pipe} {room : Nat → Int → Bool} {N P q : Nat} {e : Int} (h : q < N) (he : -1 ≤ e ∧ e < P) (hE : EndsN N ps) (hP : ps.length ≤ P) : Okay N P (srch ps room N e q) := (start_ok h he).srchA hE hP
end Go.Proofs.YtfkpghdmljjegaaGreat
