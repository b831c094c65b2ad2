/-
  Rooms: validity, of the reference; the current hour, of both. The helpers of the laws on Node: copying, comparing, measuring, marking. The reference's draw of a network. Transports of the reference: supplies, scaling; exactly.
-/
import Derived.Test.YtfkpghdmljjegaaGreatVb12
import Derived.Test.YtfkpghdmljjegaaGreatVb05
import Derived.Test.YtfkpghdmljjegaaGreatVb01
import Derived.Test.YtfkpghdmljjegaaGreatVb08
import Derived.Test.YtfkpghdmljjegaaGreatVb07
import Derived.Test.YtfkpghdmljjegaaGreatVb06
namespace Go.Proofs.YtfkpghdmljjegaaGreat
open Go.RowKit
set_option maxHeartbeats 4000000 in
theorem c_specIsRoom (A1 A2 A3 A4 A5 : Option Addr) (n1 c1 n2 c2 n3 c3 n4 c4 n5 c5 : Nat) (r : Room) (w : World) (hat : RoomAt w A1 A2 A3 A4 A5 n1 c1 n2 c2 n3 c3 n4 c4 n5 c5 r) (hnm : ∀ x ∈ r.ns, x.name.size ≤ 1048576) :
    Calls Tryz.prog 87 #[.agg #[.slice A1 n1 c1, .slice A2 n2 c2, .slice A3 n3 c3, .slice A4 n4 c4, .slice A5 n5 c5]] w (Ret (.bool (roomB n1 r)) w) := by
  have hL := hat.s5.len
  have hm1 := hat.s1.max
  have hc1 := hat.s1.cap
  have hm5 := hat.s5.max
  have hc5 := hat.s5.cap
  have hin := RoomIn.new w A1 A2 A3 A4 A5 n1 c1 n2 c2 n3 c3 n4 c4 n5 c5 82
  have HNM := hide hnm
  clear hnm
  cases h1 : nomsOk n1 r.ns r.ps r.xs r.L
  · have HR := hide (show roomB n1 r = false by simp [roomB, h1])
    clear hL
    go_enter Tryz.func87, Tryz.ntmps87
    go_wp2_with fail
    refine (c_specAreNominations A1 A2 n1 c1 n2 c2 r.ns r.ps A3 n3 c3 r.xs A4 n4 c4 r.L _ (hat.s1.ext (Ext.alloc _ _)) (hat.s2.ext (Ext.alloc _ _)) (hat.s3.ext (Ext.alloc _ _)) (hat.s4.ext (Ext.alloc _ _)) HNM.out).mono ?_
    rw [h1]
    rintro e w1 ⟨rfl, hx1⟩
    go_wp2_with fail
    go_ret
    exact Ret.bool HR.out hx1.box
  cases h2 : inB (n5 : Int) 1 48
  · have HR := hide (show roomB n1 r = false by unfold roomB; rw [← hL, h1, h2]; rfl)
    clear hL
    go_enter Tryz.func87, Tryz.ntmps87
    go_wp2_with fail
    refine (c_specAreNominations A1 A2 n1 c1 n2 c2 r.ns r.ps A3 n3 c3 r.xs A4 n4 c4 r.L _ (hat.s1.ext (Ext.alloc _ _)) (hat.s2.ext (Ext.alloc _ _)) (hat.s3.ext (Ext.alloc _ _)) (hat.s4.ext (Ext.alloc _ _)) HNM.out).mono ?_
    rw [h1]
    rintro e w1 ⟨rfl, hx1⟩
    obtain ⟨hlt, x0, x1, x2, x3, x4⟩ := hin.ext hx1
    go_wp2_with (go_at_call 169; refine (c_l01In _ _ _ _).mono ?_; rintro e w' ⟨rfl, rfl⟩)
    go_ret
    exact Ret.bool HR.out hx1.box
  have HR := hide (show roomB n1 r = r.rs.all (fun q => readsB n1 q.xs) by unfold roomB; rw [← hL, h1, h2]; rfl)
  have HLN := hide hL
  clear hL
  go_enter Tryz.func87, Tryz.ntmps87
  go_wp2_with fail
  refine (c_specAreNominations A1 A2 n1 c1 n2 c2 r.ns r.ps A3 n3 c3 r.xs A4 n4 c4 r.L _ (hat.s1.ext (Ext.alloc _ _)) (hat.s2.ext (Ext.alloc _ _)) (hat.s3.ext (Ext.alloc _ _)) (hat.s4.ext (Ext.alloc _ _)) HNM.out).mono ?_
  rw [h1]
  rintro e w1 ⟨rfl, hx1⟩
  clear h1
  obtain ⟨hlt, x0, x1, x2, x3, x4⟩ := hin.ext hx1
  go_wp2_with (go_at_call 169; refine (c_l01In _ _ _ _).mono ?_; rintro e w' ⟨rfl, rfl⟩)
  clear hlt x0 x1 x2 x3 x4 h2
  go_loopw [3] (fun i wr => ∃ k : Nat, k ≤ n5 ∧ i = .int .i64 k ∧ Hid (∀ (j : Nat) (p : RS), j < k → r.rs[j]? = some p → readsB n1 p.xs = true) ∧ Ext w1 wr) (fun i _ => n5 - (intOf i).toNat)
  case atStart => exact ⟨0, Nat.zero_le _, rfl, hide (fun j p hj => absurd hj (by omega)), Ext.refl _⟩
  case round =>
    obtain ⟨k, hk, rfl, HK, hx⟩ := hrel
    have hxw := hx1.box.trans hx
    obtain ⟨hlt', x0, x1, x2, x3, x4⟩ := hin.ext (hx1.trans hx)
    by_cases hlt : k < n5
    · obtain ⟨bb, off, p, rfl, hbb, hxk, t⟩ := (hat.s5.ext hxw).get hlt
      have t0 := t 0 _ rfl
      simp only [Nat.add_zero, Nat.mul_one] at t0
      have HX := hide hxk
      have HP := hide (List.mem_of_getElem? hxk)
      clear hxk t
      go_wp2_with fail
      refine wp_region_ph [([0, 1, 2, 3, 4, 5, 6], 7)] [8] (by kernel_rfl) (by kernel_rfl) (by intro c a w d v h; cases d <;> exact h) ?_
      simp only [wpPh, pickL, nthO]
      repeat (go_big_quiet_step (fail))
      refine wpQuiet_nil ?_
      go_wp2_with fail
      refine (c_l28List A1 A2 n1 c1 n2 c2 p.A p.n p.c p.xs _ (by omega) ((hat.s6 p HP.out).ext hxw.drew)).mono ?_
      cases hp : readsB n1 p.xs
      · have HF := hide (show roomB n1 r = false by rw [HR.out, List.all_eq_false]; exact ⟨p, HP.out, by simp [hp]⟩)
        rintro e w2 ⟨rfl, hx2⟩
        go_wp2_with fail
        refine ⟨hx2, ?_⟩
        repeat (go_big_quiet_step (fail))
        refine wpQuiet_nil ?_
        go_wp2_with fail
        go_ret
        exact Ret.bool HF.out (hxw.drew.trans hx2)
      · rintro e w2 ⟨rfl, hx2⟩
        go_wp2_with fail
        refine ⟨hx2, ?_⟩
        repeat (go_big_quiet_step (fail))
        refine wpQuiet_nil ?_
        go_wp2_with fail
        go_roundw
        case rel =>
          refine ⟨k + 1, by omega, by go_num, hide fun j q hj hq => ?_, hx.drew.trans hx2⟩
          by_cases e : j = k
          · subst e; rw [HX.out] at hq; injection hq with hq; subst hq; exact hp
          · exact HK.out j q (by omega) hq
        case measure => simp [intOf]; omega
    · have HF := hide (show roomB n1 r = true by
        rw [HR.out, List.all_eq_true]; intro q hq
        obtain ⟨j, hj, rfl⟩ := List.mem_iff_getElem.1 hq
        exact HK.out j _ (by have := HLN.out; omega) (List.getElem?_eq_getElem hj))
      go_wp2_with fail
      go_ret
      exact Ret.bool HF.out hxw

end Go.Proofs.YtfkpghdmljjegaaGreat

namespace Go.Proofs.YtfkpghdmljjegaaGreat
open Go.RowKit

theorem node_info : (Tryz.prog.info? 223).map (fun i => (i.zero, i.size, i.bytes)) = some (some (.agg #[.string ByteArray.empty, .int .i64 0, .int .i64 0]), 3, 32) := by kernel_rfl

theorem c_toNode (x : Node) (w : World) :
    Calls Tryz.prog 182 #[.agg #[.string x.name, .int .i64 x.low, .int .i64 x.high]] w (Ret (.agg #[.string x.name, .int .i64 x.low, .int .i64 x.high]) w) := by
  go_enter Tryz.func182, Tryz.ntmps182
  go_wp2
  exact bodyPost_ret (v := .agg #[.string x.name, .int .i64 x.low, .int .i64 x.high]) (by simp [results, Tryz.results182, go_sem]) rfl ⟨rfl, (((Ext.refl _).and_alloc _).and_alloc _).and_alloc _⟩

theorem c_eqNode (x : Node) (w : World) :
    Calls Tryz.prog 191 #[.agg #[.string x.name, .int .i64 x.low, .int .i64 x.high], .agg #[.string x.name, .int .i64 x.low, .int .i64 x.high]] w (Ret (.bool true) w) := by
  go_enter Tryz.func191, Tryz.ntmps191
  go_wp2
  go_ret
  exact Ret.bool rfl (((Ext.refl _).and_alloc _).and_alloc _)



set_option maxHeartbeats 1000000 in
theorem c_toNodeS (A : Option Addr) (n c : Nat) (ts : List Node) (w : World) (hs : SliceOf w 3 Node.cells A n c ts) (hn : n ≤ 1048576) :
    Calls Tryz.prog 106 #[.slice A n c] w (NewRow 223 Node.cells ts w) := by
  have hmk := fun W => run_make_flat (P := Tryz.prog) 42 223 _ _ 3 32 Tryz.underlying42 node_info (f := Node.cells) ⟨ByteArray.empty, 0, 0⟩ rfl rfl rfl (by omega) n (by omega) (by omega) W
  have hR0 := Row.new w 223 ((List.replicate n (⟨ByteArray.empty, 0, 0⟩ : Node)).flatMap Node.cells)
  go_enter Tryz.func106, Tryz.ntmps106
  go_wp2_with fail
  go_loopw [4] (fun i wr => ∃ (k : Nat) (L : List Node), k ≤ n ∧ i = .int .i64 k ∧ L.length = n ∧ RowOf wr w.heap.size 223 Node.cells L ∧ Hid (∀ j, j < k → L[j]? = ts[j]?) ∧ Ext w wr) (fun i _ => n - (intOf i).toNat)
  case atStart => exact ⟨0, _, Nat.zero_le _, rfl, List.length_replicate, hR0, hide (fun j hj => absurd hj (by omega)), Ext.alloc _ _⟩
  case round =>
    obtain ⟨k, L, hk, rfl, hL, hrow, HK, hx⟩ := hrel
    clear hR0 hmk
    have hgs := hrow.lt
    by_cases hlt : k < n
    · obtain ⟨b, off, x, rfl, hb, hxk, hc⟩ := (hs.ext hx).get hlt
      have hc0 := hc 0 _ rfl
      have hc1 := hc 1 _ rfl
      have hc2 := hc 2 _ rfl
      clear hc
      simp only [Nat.add_zero] at hc0
      have Hx := hide hxk
      have HL := hide hL
      clear hxk hL
      go_wp2_with (go_at_call 182; refine (c_toNode x _).mono ?_; rintro e w1 ⟨rfl, hx1⟩; have hrow1 := hrow.ext hx1; obtain ⟨v0, hv0⟩ := hrow1.there node_len (i := k) (by rw [HL.out]; exact hlt) (j := 0) (by omega); have hf0 := hrow1.frozen (k * 3); obtain ⟨v1, hv1⟩ := hrow1.there node_len (i := k) (by rw [HL.out]; exact hlt) (j := 1) (by omega); have hf1 := hrow1.frozen (k * 3 + 1); obtain ⟨v2, hv2⟩ := hrow1.there node_len (i := k) (by rw [HL.out]; exact hlt) (j := 2) (by omega); have hf2 := hrow1.frozen (k * 3 + 2); rw [Nat.add_zero] at hv0)
      go_roundw
      case rel =>
        refine ⟨k + 1, L.set k x, by omega, by go_num, by simpa using HL.out, hrow1.put node_len (by rw [HL.out]; exact hlt) x, hide ?_, (hx.trans hx1).put (Nat.le_refl _) (k * 3) x.cells⟩
        intro j hj
        rw [List.getElem?_set]
        by_cases e : k = j
        · subst e; rw [if_pos rfl, if_pos (by rw [HL.out]; exact hlt), Hx.out]
        · rw [if_neg e]; exact HK.out j (by omega)
      case measure => simp [intOf]; omega
    · go_wp2
      go_ret
      have hLts : L = ts := by
        apply List.ext_getElem?
        intro j
        by_cases hj : j < n
        · exact HK.out j (by omega)
        · rw [List.getElem?_eq_none (by omega), List.getElem?_eq_none (by have := hs.len; omega)]
      subst hLts
      refine ⟨w.heap.size, ?_, Nat.le_refl _, hrow, hx⟩
      rw [hL]; rfl

set_option maxHeartbeats 1000000 in
theorem c_eqNodeS (A A' : Option Addr) (n c n' c' : Nat) (ts : List Node) (w : World) (hs : SliceOf w 3 Node.cells A n c ts) (hs' : SliceOf w 3 Node.cells A' n' c' ts) :
    Calls Tryz.prog 115 #[.slice A n c, .slice A' n' c'] w (Ret (.bool true) w) := by
  have hl := hs.len
  obtain rfl : n = n' := by rw [hs.len, hs'.len]
  have hm := hs.max
  have hcp := hs.cap
  clear hl
  go_enter Tryz.func115, Tryz.ntmps115
  go_wp2_with fail
  go_loopw [5] (fun i wr => ∃ (k : Nat), k ≤ n ∧ i = .int .i64 k ∧ Ext w wr) (fun i _ => n - (intOf i).toNat)
  case atStart => exact ⟨0, Nat.zero_le _, rfl, Ext.refl _⟩
  case round =>
    obtain ⟨k, hk, rfl, hx⟩ := hrel
    by_cases hlt : k < n
    · obtain ⟨b, off, x, rfl, hb, hxk, hc⟩ := (hs.ext hx).get hlt
      obtain ⟨b', off', x', rfl, hb', hxk', hc'⟩ := (hs'.ext hx).get hlt
      obtain rfl : x = x' := by rw [hxk] at hxk'; injection hxk'
      have hc0 := hc 0 _ rfl
      have hc1 := hc 1 _ rfl
      have hc2 := hc 2 _ rfl
      have hd0 := hc' 0 _ rfl
      have hd1 := hc' 1 _ rfl
      have hd2 := hc' 2 _ rfl
      clear hc hc' hxk hxk'
      simp only [Nat.add_zero] at hc0 hd0
      go_wp2_with fail
      refine wp_region_later (by kernel_rfl) (by kernel_rfl) ?_
      repeat (go_big_quiet_step ((go_at_call 191; exact quiet_later (c_eqNode x _))))
      refine wpQuiet_nil ?_
      intro w1 hx1
      go_wp2
      go_roundw
      case rel => exact ⟨k + 1, by omega, by go_num, hx.trans hx1⟩
      case measure => simp [intOf]; omega
    · go_wp2
      go_ret
      exact Ret.bool rfl hx




end Go.Proofs.YtfkpghdmljjegaaGreat

namespace Go.Proofs.YtfkpghdmljjegaaGreat
open Go.RowKit
theorem new_one {α : Type} {size : Nat} {f : α → List Value} (hf : ∀ x, (f x).length = size) (W : World) (t : TypeId) (x : α) : SliceOf (W.alloc (.cells (f x).toArray t)) size f (some ⟨W.heap.size, 0, none⟩) 1 1 [x] := by
  have h : RowOf (W.alloc (.cells (f x).toArray t)) W.heap.size t f [x] := by
    have h0 := Row.new W t (f x)
    unfold RowOf
    rw [List.flatMap_cons, List.flatMap_nil, List.append_nil]
    exact h0
  exact h.slice hf rfl (by omega)
def Short (ns : List Node) : Prop := ∀ x ∈ ns, x.name.size ≤ 100
theorem Short.snoc {ns : List Node} (h : Short ns) {x : Node} (hx : x.name.size ≤ 100) : Short (ns ++ [x]) := by
  intro y hy
  rcases List.mem_append.1 hy with hy | hy
  · exact h y hy
  · obtain rfl := List.mem_singleton.1 hy; exact hx
/-- a network that is being drawn; its result's block is w's first new one -/
structure NSt (w0 w : World) (a : Nat) (A : Option Addr) (n c : Nat) (v1 v2 : Value) (ns : List Node) (ps : List Pipe) (wr : World) : Prop where
  lt : a < w.heap.size
  src : Src w0 wr a A n c
  only : Only a w wr
  res : Row wr w.heap.size 45 [.slice none 0 0, .slice none 0 0]
  o1 : OwnL wr (w.heap.size + 1) 223 3 Node.cells v1 ns
  o2 : OwnL wr (w.heap.size + 1) 181 5 Pipe.cells v2 ps
  nm : Short ns
/-- a network that was drawn -/
def DrawnNet (w0 : World) (a : Nat) (A : Option Addr) (n c : Nat) (w : World) (e : Ending) (w' : World) : Prop :=
  ∃ (v1 v2 : Value) (ns : List Node) (ps : List Pipe), e = .returned (.agg #[v1, v2]) ∧ Src w0 w' a A n c ∧ Only a w w' ∧ OwnL w' (w.heap.size + 1) 223 3 Node.cells v1 ns ∧ OwnL w' (w.heap.size + 1) 181 5 Pipe.cells v2 ps ∧ 1 ≤ ns.length ∧ ns.length ≤ 7 ∧ ps.length ≤ 12 ∧ Short ns
section
variable {w0 w wr wr' : World} {a n c : Nat} {A : Option Addr} {v1 v2 v' : Value} {ns : List Node} {ps : List Pipe}
theorem NSt.draw (h : NSt w0 w a A n c v1 v2 ns ps wr) (hs : Src w0 wr' a A n c) (ho : Only a wr wr') : NSt w0 w a A n c v1 v2 ns ps wr' :=
  have hl := h.lt
  ⟨h.lt, hs, h.only.trans ho, h.res.only ho (by omega), h.o1.only ho (by omega), h.o2.only ho (by omega), h.nm⟩
theorem NSt.more (h : NSt w0 w a A n c v1 v2 ns ps wr) (hx : Ext wr wr') : NSt w0 w a A n c v1 v2 ns ps wr' := h.draw (h.src.more hx) (Only.of_ext hx a)
theorem NSt.fin (h : NSt w0 w a A n c v1 v2 ns ps wr) (h1 : 1 ≤ ns.length) (h2 : ns.length ≤ 7) (h3 : ps.length ≤ 12) :
    DrawnNet w0 a A n c w (.returned (.agg #[v1, v2])) (putCells wr w.heap.size 0 [v1, v2]) := by
  have hl := h.lt
  have hle := h.src.le0
  exact ⟨v1, v2, ns, ps, rfl, h.src.put (by omega) (by omega) _ _, h.only.putNew (Nat.le_refl _) _ _, h.o1.put h.res (by decide) _ _, h.o2.put h.res (by decide) _ _, h1, h2, h3, h.nm⟩
end
end Go.Proofs.YtfkpghdmljjegaaGreat

namespace Go.Proofs.YtfkpghdmljjegaaGreat
open Go.RowKit
theorem trn_one (y : Trn) : ∀ u ∈ y.cells, u.oneCell' = true := by intro u hu; simp [Trn.cells] at hu; rcases hu with rfl | rfl | rfl | rfl <;> rfl
theorem trn_info : (Tryz.prog.info? 201).map (fun i => (i.zero, i.size, i.bytes)) = some (some (.agg #[.int .i64 0, .int .i64 0, .int .i64 0, .int .i64 0]), 4, 32) := by kernel_rfl
theorem new_trn (W : World) (x : Trn) {g : Nat} (hg : g = W.heap.size) : SliceOf (W.alloc (.cells #[.int .i64 x.entry, .int .i64 x.exit_, .int .i64 x.amount, .int .i64 x.cls] 201)) 4 Trn.cells (some ⟨g, 0, none⟩) 1 1 [x] := by
  subst hg; exact new_one trn_len W 201 x
/-- a list of transports of the call's own -/
def RetT (Q : List Trn → Prop) (w : World) (e : Ending) (w' : World) : Prop :=
  ∃ v E, e = .returned v ∧ OwnL w' w.heap.size 201 4 Trn.cells v E ∧ Hid (Q E) ∧ Ext w w'
set_option maxHeartbeats 1000000 in
theorem c_l24Supplies (A1 A2 : Option Addr) (n1 c1 n2 c2 : Nat) (A : Option Addr) (n c : Nat) (ts : List Trn) (w : World) (hs : SliceOf w 4 Trn.cells A n c ts) (hn1 : n1 ≤ 100000) (hn : n ≤ 100000) (hb : ∀ x ∈ ts, TrnB n1 30000 x) :
    Calls Tryz.prog 103 #[.agg #[.slice A1 n1 c1, .slice A2 n2 c2], .slice A n c] w (RetI (fun E => E = supT n1 ts) w) := by
  have hx0 : Ext w (w.alloc (.cells #[.slice A1 n1 c1, .slice A2 n2 c2] 45)) := Ext.alloc _ _
  have hmk := fun W => run_make_flat (P := Tryz.prog) 24 2 _ _ 1 8 Tryz.underlying24 int_info (f := intC) 0 rfl rfl rfl (by omega) n1 (by omega) (by omega) W
  have HB := hide hb
  clear hb
  go_enter Tryz.func103, Tryz.ntmps103
  go_wp2_with fail
  go_loopw [6] (fun i wr => ∃ k : Nat, k ≤ n ∧ i = .int .i64 k ∧ RowOf wr (w.heap.size + 1) 2 intC (supT n1 (ts.take k)) ∧ Ext (w.alloc (.cells #[.slice A1 n1 c1, .slice A2 n2 c2] 45)) wr) (fun i _ => n - (intOf i).toNat)
  case atStart => exact ⟨0, Nat.zero_le _, rfl, Row.newG _ _ (by simp), Ext.alloc _ _⟩
  case round =>
    obtain ⟨k, hk, rfl, hR, hx⟩ := hrel
    obtain ⟨l, HL⟩ : ∃ l, Hid (supT n1 (ts.take k) = l) := ⟨_, hide rfl⟩
    have hll : l.length = n1 := by rw [← HL.out]; exact supT_len _ _
    rw [HL.out] at hR
    by_cases hlt : k < n
    · obtain ⟨b, off, x, rfl, hb, hxk, hc⟩ := (hs.ext (hx0.trans hx)).get hlt
      have hc0 := hc 0 _ rfl
      have hc1 := hc 1 _ rfl
      have hc2 := hc 2 _ rfl
      clear hc
      simp only [Nat.add_zero] at hc0
      have hxb := HB.out x (List.mem_of_getElem? hxk)
      obtain ⟨⟨he0, he1⟩, ⟨hx0', hx1⟩, ⟨ha0, ha1⟩, -⟩ := hxb
      obtain ⟨y1, hy1⟩ : ∃ y : Nat, x.entry = y := ⟨x.entry.toNat, by omega⟩
      obtain ⟨y2, hy2⟩ : ∃ y : Nat, x.exit_ = y := ⟨x.exit_.toNat, by omega⟩
      have hyn1 : y1 < n1 := by omega
      have hyn2 : y2 < n1 := by omega
      have hbd := supT_bd (N := n1) ts (fun x hx => (HB.out x hx).2.2.1) k
      rw [HL.out] at hbd
      obtain ⟨a1, hl1⟩ : ∃ a, l[y1]? = some a := ⟨_, List.getElem?_eq_getElem (by omega)⟩
      obtain ⟨s1, hs1⟩ : ∃ s1, a1 + x.amount = s1 := ⟨_, rfl⟩
      obtain ⟨a2, hl2⟩ : ∃ a, (l.set y1 s1)[y2]? = some a := ⟨_, List.getElem?_eq_getElem (by rw [List.length_set]; omega)⟩
      obtain ⟨s2, hs2⟩ : ∃ s2, a2 - x.amount = s2 := ⟨_, rfl⟩
      have hb1 := hbd a1 (List.mem_of_getElem? hl1)
      have hb2 : -(60000 * (k : Int) + 30000) ≤ a2 ∧ a2 ≤ 60000 * k + 30000 := by
        rcases List.mem_or_eq_of_mem_set (List.mem_of_getElem? hl2) with h | h
        · have := hbd a2 h; omega
        · omega
      have e1 : IntKind.i64.wrap (a1 + x.amount) = s1 := by rw [← hs1]; exact IntWalk.i64_in _ (by omega)
      have e2 : IntKind.i64.wrap (a2 - x.amount) = s2 := by rw [← hs2]; exact IntWalk.i64_in _ (by omega)
      have HST : Hid (supT n1 (ts.take (k + 1)) = (l.set y1 s1).set y2 s2) := hide (by
        rw [supT_take hxk, HL.out]
        unfold supStep
        rw [hy1, hy2, Int.toNat_natCast, Int.toNat_natCast, zAt_some hl1, hs1, zAt_some hl2, hs2])
      have hcl1 := hR.get intC_len hl1 (j := 0) rfl
      simp only [Nat.mul_one, Nat.add_zero] at hcl1
      have hf := hR.frozen y1
      have hR1 := (RowOf.set0 hR (fun x => ⟨_, rfl⟩) (d := y1) (by omega) s1 (.int .i64 s1) rfl).drew
      have hle := hR.lt
      have hX1 := (hx.setCell (p := ⟨w.heap.size + 1, y1, none⟩) (by simp) (.int .i64 s1)).drew
      have hbw : b < w.heap.size := hs.blk (b := b) (by unfold blkOf; rw [if_neg (by omega)]; rfl)
      rw [hy1] at hc0
      rw [hy2] at hc1
      have hd1 := (hX1.cell b (off + k * 4 + 1) (by simp; omega)).trans ((hx.cell b (off + k * 4 + 1) (by simp; omega)).symm.trans hc1)
      have hd2 := (hX1.cell b (off + k * 4 + 2) (by simp; omega)).trans ((hx.cell b (off + k * 4 + 2) (by simp; omega)).symm.trans hc2)
      have HL2 := hide hl2
      clear hbd hl1 hl2 hs1 hs2 hb1 hb2 hxk HL hx hR
      go_wp2_with fail
      refine wp_region_phZ [(b, off + k * 4), (w.heap.size + 1, y1), (b, off + k * 4 + 2)] [] [0, 1, 2, 3, 4, 5, 6, 7, 8, 9, 10, 11, 12, 13, 14, 15, 16, 17, 18, 19, 20] 21 (by kernel_rfl) (by kernel_rfl) (by intro c a w d v h; cases d <;> exact h) ?_
      simp only [wpPhZ, pickL, nthO]
      repeat (go_big_quiet_step (fail))
      refine wpQuiet_nil ?_
      set_option maxRecDepth 20000 in
      go_wp2_with fail
      generalize (wr.setCell ⟨w.heap.size + 1, y1, none⟩ (.int .i64 s1)).drew = W at *
      have hf2 := hR1.frozen y2
      have hcl2 := hR1.get intC_len HL2.out (j := 0) rfl
      simp only [Nat.mul_one, Nat.add_zero] at hcl2
      have hle2 := hR1.lt
      have hR2 := RowOf.set0 (hR1.ext (Ext.refl _).drew) (fun x => ⟨_, rfl⟩) (d := y2) (by rw [List.length_set]; omega) s2 (.int .i64 s2) rfl
      have hX2 := hX1.drew.setCell (p := ⟨w.heap.size + 1, y2, none⟩) (by simp) (.int .i64 s2)
      clear hR1 hX1
      refine wp_region_phZ [(b, off + k * 4 + 1), (w.heap.size + 1, y2), (b, off + k * 4 + 2)] [] [0, 1, 2, 3, 4, 5, 6, 7, 8, 9, 10, 11, 12, 13, 14, 15, 16, 17, 18, 19, 20] 21 (by kernel_rfl) (by kernel_rfl) (by intro c a w d v h; cases d <;> exact h) ?_
      simp only [wpPhZ, pickL, nthO]
      repeat (go_big_quiet_step (fail))
      refine wpQuiet_nil ?_
      set_option maxRecDepth 20000 in
      go_wp2_with fail
      go_roundw
      case rel => exact ⟨k + 1, by omega, by go_num, by rw [HST.out]; exact hR2, hX2⟩
      case measure => simp [intOf]; omega
    · have HE : Hid (l = supT n1 ts) := hide (by rw [← HL.out, List.take_of_length_le (by rw [← hs.len]; omega)])
      have hle := hR.lt
      go_wp2_with fail
      go_ret
      have hO := OwnL.of_row hR intC_len (base := w.heap.size) (by omega) (by omega)
      rw [hll] at hO
      exact ⟨_, l, rfl, hO, HE, hx0.trans hx⟩
set_option maxHeartbeats 1000000 in
theorem c_l24Scale (A : Option Addr) (n c : Nat) (ts : List Trn) (B : Option Addr) (d : Nat) (sc : List Int) (w : World) (hs : SliceOf w 4 Trn.cells A n c ts) (hsc : SliceOf w 1 intC B 4 d sc) (hn : n ≤ 100000) (N : Nat) (hb : ∀ x ∈ ts, TrnB N 30000 x) (hi : ScaleIn sc) :
    Calls Tryz.prog 104 #[.slice A n c, .slice B 4 d] w (RetT (fun E => E = ts.map (scaleT sc)) w) := by
  have HB := hide hb
  have HI := hide hi
  clear hb hi
  have hO0 : OwnL (w.alloc (.cells #[] 201)) w.heap.size 201 4 Trn.cells (.slice (some ⟨w.heap.size, 0, none⟩) 0 0) [] := own_new w w.heap.size _ _ _ _ rfl (Nat.le_refl _)
  go_enter Tryz.func104, Tryz.ntmps104
  go_wp2_with fail
  go_loopw [5, 6] (fun v i wr => ∃ (k : Nat) (L : List Trn), k ≤ n ∧ i = .int .i64 k ∧ L.length = k ∧ Hid (L = (ts.take k).map (scaleT sc)) ∧ OwnL wr w.heap.size 201 4 Trn.cells v L ∧ Ext w wr) (fun _ i _ => n - (intOf i).toNat)
  case atStart => exact ⟨0, [], Nat.zero_le _, rfl, rfl, hide rfl, hO0, Ext.alloc _ _⟩
  case round =>
    clear hO0
    obtain ⟨k, L, hk, rfl, hLk, HL, ho, hx⟩ := hrel
    by_cases hlt : k < n
    · obtain ⟨b, off, x, hA, hb, hxk, hc⟩ := (hs.ext hx).get hlt
      have hc0 := hc 0 _ rfl
      have hc1 := hc 1 _ rfl
      have hc2 := hc 2 _ rfl
      have hc3 := hc 3 _ rfl
      clear hc
      subst hA
      simp only [Nat.add_zero] at hc0
      have HOB : Hid (∀ j, u5.ownBlock = some j → w.heap.size ≤ j ∧ j < wr.heap.size) := hide (fun j hj => ⟨ho.block_le hj, (ho.ltG hj).2⟩)
      have hxb := HB.out x (List.mem_of_getElem? hxk)
      obtain ⟨-, -, ⟨ha0, ha1⟩, ⟨hk0, hk1⟩⟩ := hxb
      obtain ⟨y, hy⟩ : ∃ y : Nat, x.cls = y := ⟨x.cls.toNat, by omega⟩
      have hyn : y < 4 := by omega
      obtain ⟨bs, os, s, hB, hbs, hsk, hcs⟩ := (hsc.ext hx).get hyn
      have hcs0 := hcs 0 _ rfl
      clear hcs
      subst hB
      have hbsw : bs < w.heap.size := hsc.blk (b := bs) rfl
      simp only [Nat.add_zero, Nat.mul_one] at hcs0
      have hsb := HI.out.2 s (List.mem_of_getElem? hsk)
      obtain ⟨p1, p2, p3, p4⟩ := scale_le ⟨ha0, ha1⟩ hsb
      have e1 : IntKind.i64.wrap (x.amount * s) = x.amount * s := IntWalk.i64_in _ (by omega)
      have HST : Hid ((ts.take (k + 1)).map (scaleT sc) = L ++ [⟨x.entry, x.exit_, (x.amount * s).tdiv 100, y⟩]) := hide (by
        rw [List.take_add_one, hxk, List.map_append, ← HL.out, Option.toList_some, List.map_singleton]
        unfold scaleT
        rw [hy, Int.toNat_natCast, zAt_some hsk])
      rw [hy] at hc3
      clear hxk hsk
      obtain ⟨q, hq⟩ : ∃ q, (x.amount * s).tdiv 100 = q := ⟨_, rfl⟩
      rw [hq] at p3 p4 HST
      have e2 : IntKind.i64.wrap q = q := IntWalk.i64_in _ (by omega)
      go_wp2_with fail
      have hbx := Row.new wr 201 [.int .i64 x.entry, .int .i64 x.exit_, .int .i64 x.amount, .int .i64 y]
      have hx1 : Ext wr (wr.alloc (.cells #[.int .i64 x.entry, .int .i64 x.exit_, .int .i64 x.amount, .int .i64 y] 201)) := Ext.alloc _ _
      generalize (wr.alloc (.cells #[.int .i64 x.entry, .int .i64 x.exit_, .int .i64 x.amount, .int .i64 y] 201)) = W1 at *
      have hcs1 := (hx1.cell _ _ hbs).trans hcs0
      have hbs1 := Nat.lt_of_lt_of_le hbs hx1.size
      have q0 := hbx.cell 0
      have q1 := hbx.cell 1
      have q2 := hbx.cell 2
      have q3 := hbx.cell 3
      simp at q0 q1 q2 q3
      have hbl := hbx.lt
      have hbf := hbx.frozen
      have ho1 := ho.ext hx1
      have hX1 := hx.trans hx1
      clear hx ho hcs0 hbs hx1 hb hc0 hc1 hc2 hc3
      refine wp_region_phC [(wr.heap.size, 0), (wr.heap.size, 1), (wr.heap.size, 2), (wr.heap.size, 3), (bs, os + y)] [([0, 1, 2, 3, 4, 5, 6, 7, 8, 9, 10, 11, 12, 13, 14, 15, 16], 17), ([], 18)] [19] (by kernel_rfl) (by kernel_rfl) (by intro c a w d v h; cases d <;> exact h) ?_
      simp only [wpPhC, pickL, nthO]
      repeat (go_big_quiet_step (fail))
      refine wpQuiet_nil ?_
      go_wp2_with fail
      obtain ⟨W, HW⟩ : ∃ W, Hid ((W1.alloc (.cells #[.int .i64 x.entry, .int .i64 x.exit_, .int .i64 q, .int .i64 y] 201)).drew = W) := ⟨_, hide rfl⟩
      rw [HW.out]
      have hxa : Ext W1 W := by rw [← HW.out]; exact ((Ext.refl W1).and_alloc _).drew
      have hWz : w.heap.size ≤ W.heap.size := by have := hxa.size; have := hX1.size; omega
      have hWn : SliceOf W 4 Trn.cells (some ⟨W1.heap.size, 0, none⟩) 1 1 [⟨x.entry, x.exit_, q, y⟩] := by rw [← HW.out]; exact (new_trn W1 ⟨x.entry, x.exit_, q, y⟩ rfl).ext (Ext.refl _).drew
      refine ⟨SameC.of_ext hxa (by simp; omega), wpQuiet_nil ?_⟩
      go_wp2_with (at_builtin; go_must (refine wpList_append_where rfl _ _ 118 rfl w.heap.size 201 _ 4 32 Tryz.underlying118 trn_info rfl (by decide) Trn.cells trn_len trn_one _ L rfl (ho1.ext hxa) W1.heap.size 0 1 1 [⟨x.entry, x.exit_, q, y⟩] rfl hWn (by omega) (by omega) hWz ?_))
      intro v2 w2 ho2 hg2 _
      have hx2 := (hX1.trans hxa).grown hg2 (fun k hk => ho1.block_le hk)
      have hxz := hxa.size
      have hsm : SameC [(wr.heap.size, 0), (wr.heap.size, 1), (wr.heap.size, 2), (wr.heap.size, 3), (bs, os + y)] W1 w2 := by
        intro p hp
        simp only [List.mem_cons, List.not_mem_nil, or_false] at hp
        have hne : p.1 < W1.heap.size ∧ ∀ j, u5.ownBlock = some j → p.1 ≠ j := by
          rcases hp with rfl | rfl | rfl | rfl | rfl <;> exact ⟨by first | exact hbl | exact hbs1, fun j hj => by have := HOB.out j hj; show _ ≠ j; omega⟩
        exact (World.cell?_of_block (w := W) (hg2.block p.1 (by omega) (fun e => hne.2 p.1 e.symm rfl))).trans (hxa.cell _ _ hne.1)
      rw [← HST.out] at ho2
      clear ho1 hg2 hxa hX1 hbx hbf hcs1 q0 q1 q2 q3
      go_wp2_with fail
      refine ⟨hsm, ?_⟩
      repeat (go_big_quiet_step (fail))
      refine wpQuiet_nil ?_
      go_wp2_with fail
      go_roundw
      case rel => exact ⟨k + 1, _, by omega, by go_num, by rw [List.length_map, List.length_take]; have := hs.len; omega, hide rfl, ho2, hx2⟩
      case measure => simp [intOf]; omega
    · go_wp2_with fail
      go_ret
      exact ⟨_, L, rfl, ho, hide (by rw [HL.out, List.take_of_length_le (by rw [← hs.len]; omega)]), hx⟩
end Go.Proofs.YtfkpghdmljjegaaGreat
