/-
  What is settled in an hour, of the program: its code, its amounts and its transports; exactly. SettleHour of the reference, exactly. The balances of all accounts, of the program and of the reference. The balances of the reference; IsSettled of both. The helpers of the laws on Order: copying, comparing, measuring, marking. IsConserved of the program and of the reference. A settlement of an hour is conserved, in plain Lean. No function of the program is named here. Planned readings, settled, leave no change for any shipper: in plain Lean. No function of the program is named here.
-/
import Derived.Test.YtfkpghdmljjegaaGreatVc31
import Derived.Test.YtfkpghdmljjegaaGreatVc07
import Derived.Test.YtfkpghdmljjegaaGreatVc21
import Derived.Test.YtfkpghdmljjegaaGreatVc40
import Derived.Test.YtfkpghdmljjegaaGreatVc32
import Derived.Test.YtfkpghdmljjegaaGreatVc25
import Derived.Test.YtfkpghdmljjegaaGreatVc00
import Derived.Test.YtfkpghdmljjegaaGreatVc18
import Derived.Test.YtfkpghdmljjegaaGreatVc27
namespace Go.Proofs.YtfkpghdmljjegaaGreat
open Go.RowKit
theorem c_isHour (h : Int) (w : World) : Calls Tryz.prog 188 #[.int .i64 h] w fun e w' => e = .returned (.bool (inB h 0 47)) ∧ w = w' := by
  go_enter Tryz.func188, Tryz.ntmps188
  go_wp2_with (go_at_call 164; refine (c_within _ _ _ _).mono ?_; rintro e w' ⟨rfl, rfl⟩)
  go_ret
  exact ⟨rfl, rfl⟩
/-- the code of an hour and readings, for a valid network -/
def setV (n1 : Int) (xs : List Contract) (rd : Bool) (L : List Nomination) (h : Int) : Int :=
  if bookB n1 xs = false then 3 else if rd = false then 3 else if nomsB xs L = false then 5 else if inB h 0 47 = false then 2 else if 20 < xs.length then 7 else 0
theorem setV_C {n1 : Int} {ns : List Node} {ps : List Pipe} {xs : List Contract} {L : List Nomination} {h : Int} (hn : netB ns ps = true) : setV n1 xs true L h = setC n1 ns ps xs L h := by
  unfold setV setC nomC bookC
  rw [hn]
  cases bookB n1 xs <;> cases nomsB xs L <;> simp
theorem setC_net {n1 : Int} {ns : List Node} {ps : List Pipe} {xs : List Contract} {L : List Nomination} {h : Int} (hn : netB ns ps = false) : setC n1 ns ps xs L h = 1 := by
  unfold setC nomC bookC
  rw [hn]; simp
def rdB (n1 : Int) (rs : List RS) : Bool := rs.all (fun q => readsB n1 q.xs)
set_option maxHeartbeats 2000000 in
theorem c_checkSettle (A1 A2 : Option Addr) (n1 c1 n2 c2 : Nat) (ns : List Node) (ps : List Pipe) (A : Option Addr) (n c : Nat) (xs : List Contract) (B : Option Addr) (m d : Nat) (L : List Nomination) (h : Int) (w : World) (hs1 : SliceOf w 3 Node.cells A1 n1 c1 ns) (hs2 : SliceOf w 5 Pipe.cells A2 n2 c2 ps) (hs : SliceOf w 8 Contract.cells A n c xs) (hL : SliceOf w 4 Nomination.cells B m d L) (hnet : netB ns ps = true) (R : Option Addr) (nr cr : Nat) (rs : List RS) (hsr : SliceOf w 1 RS.cells R nr cr rs) (hrs : ∀ q ∈ rs, SliceOf w 2 Reading.cells q.A q.n q.c q.xs) :
    Calls Tryz.prog 111 #[.agg #[.slice A1 n1 c1, .slice A2 n2 c2], .slice A n c, .slice B m d, .int .i64 h, .slice R nr cr] w (Ret (.int .i64 (setV n1 xs (rdB n1 rs) L h)) w) := by
  have hB := Row.new w 45 [.slice A1 n1 c1, .slice A2 n2 c2]
  have hx0 : Ext w (w.alloc (.cells #[.slice A1 n1 c1, .slice A2 n2 c2] 45)) := Ext.alloc _ _
  have HLN := hide hs.len
  have hmx := hs.max
  have hcp := hs.cap
  have hrm := hsr.max
  have hrc := hsr.cap
  have HNT := hide hnet
  have HRS := hide hrs
  have hm1 : n1 ≤ 9223372036854775807 := Nat.le_trans hs1.cap hs1.max
  clear hnet hrs
  go_enter Tryz.func111, Tryz.ntmps111
  go_wp2_with fail
  refine (c_isBook A1 A2 n1 c1 n2 c2 A n c xs _ hm1 (hs.ext hx0)).mono ?_
  cases hb : bookB n1 xs
  · rintro e w1 ⟨rfl, hx1⟩
    have HR : Hid (setV n1 xs (rdB n1 rs) L h = 3) := hide (by unfold setV; rw [if_pos hb])
    clear hb
    go_wp2_with fail
    go_ret
    exact Ret.int HR.out (hx0.trans hx1)
  rintro e w1 ⟨rfl, hx1⟩
  have HBK := hide hb
  have HR0 : Hid (setV n1 xs (rdB n1 rs) L h = if rdB n1 rs = false then 3 else if nomsB xs L = false then 5 else if inB h 0 47 = false then 2 else if 20 < xs.length then 7 else 0) := hide (by unfold setV; rw [if_neg (by rw [hb]; decide)])
  have hn32 : n ≤ 32 := by
    simp only [bookB, Bool.and_eq_true, decide_eq_true_eq] at hb
    rw [HLN.out]; exact hb.1
  clear hb
  go_wp2_with fail
  go_loopw [10, 19] (fun r i wr => ∃ k : Nat, k ≤ nr ∧ r = .int .i64 0 ∧ i = .int .i64 k ∧ Hid (∀ (j : Nat) (p : RS), j < k → rs[j]? = some p → readsB n1 p.xs = true) ∧ Ext (w.alloc (.cells #[.slice A1 n1 c1, .slice A2 n2 c2] 45)) wr) (fun _ i _ => nr - (intOf i).toNat)
  case atStart => exact ⟨0, Nat.zero_le _, rfl, rfl, hide (fun j p hj => absurd hj (by omega)), hx1⟩
  case round =>
    clear hx1
    obtain ⟨k, hk, rfl, rfl, HK, hx⟩ := hrel
    have hX := hx0.trans hx
    have hb0 := (hB.ext hx).cell 0
    have hb1 := (hB.ext hx).cell 1
    simp at hb0 hb1
    have hbl := (hB.ext hx).lt
    by_cases hlt : k < nr
    · obtain ⟨bb, off, p, hA, hbb, hxk, t⟩ := (hsr.ext hX).get hlt
      have t0 := t 0 _ rfl
      simp only [Nat.add_zero, Nat.mul_one] at t0
      have HX := hide hxk
      have HP := hide (List.mem_of_getElem? hxk)
      clear hxk t
      subst hA
      go_wp2_with fail
      refine (c_areReadings A1 A2 n1 c1 n2 c2 ns ps p.A p.n p.c p.xs _ (hs1.ext hX) (hs2.ext hX) ((HRS.out p HP.out).ext hX) HNT.out).mono ?_
      cases hp : readsB n1 p.xs
      · have HR : Hid (setV n1 xs (rdB n1 rs) L h = 3) := hide (by rw [HR0.out, if_pos (by unfold rdB; rw [List.all_eq_false]; exact ⟨p, HP.out, by simp [hp]⟩)])
        clear hp
        rintro e w2 ⟨rfl, hx2⟩
        go_wp2_with fail
        go_ret
        exact Ret.int HR.out (hX.trans hx2)
      · have HPP := hide hp
        clear hp
        rintro e w2 ⟨rfl, hx2⟩
        go_wp2_with fail
        go_roundw
        case rel =>
          refine ⟨k + 1, by omega, rfl, by go_num, hide fun j q hj hq => ?_, hx.trans hx2⟩
          by_cases e : j = k
          · subst e; rw [HX.out] at hq; injection hq with hq; subst hq; exact HPP.out
          · exact HK.out j q (by omega) hq
        case measure => simp [intOf]; omega
    · have hrd : rdB n1 rs = true := by
        unfold rdB
        rw [List.all_eq_true]; intro q hq
        obtain ⟨j, hj, rfl⟩ := List.mem_iff_getElem.1 hq
        exact HK.out j _ (by have := hsr.len; omega) (List.getElem?_eq_getElem hj)
      have HR1 : Hid (setV n1 xs (rdB n1 rs) L h = if nomsB xs L = false then 5 else if inB h 0 47 = false then 2 else if 20 < xs.length then 7 else 0) := hide (by rw [HR0.out, if_neg (by rw [hrd]; decide)])
      clear hrd
      go_wp2_with fail
      refine (c_AreNominations A1 A2 n1 c1 n2 c2 ns ps A n c xs B m d L _ (hs1.ext hX) (hs2.ext hX) (hs.ext hX) (hL.ext hX)).mono ?_
      have HOK : Hid (nomsOk n1 ns ps xs L = nomsB xs L) := hide (by unfold nomsOk; rw [HNT.out, HBK.out]; simp)
      rw [HOK.out]
      cases hnm : nomsB xs L
      · have HR : Hid (setV n1 xs (rdB n1 rs) L h = 5) := hide (by rw [HR1.out, if_pos hnm])
        clear hnm
        rintro e w2 ⟨rfl, hx2⟩
        go_wp2_with fail
        go_ret
        exact Ret.int HR.out (hX.trans hx2)
      · have HR2 : Hid (setV n1 xs (rdB n1 rs) L h = if inB h 0 47 = false then 2 else if 20 < xs.length then 7 else 0) := hide (by rw [HR1.out, if_neg (by rw [hnm]; decide)])
        clear hnm
        rintro e w2 ⟨rfl, hx2⟩
        have e1 : IntKind.i64.wrap (2 * (n : Int)) = 2 * n := IntWalk.i64_in _ (by omega)
        cases hh : inB h 0 47
        · have HR : Hid (setV n1 xs (rdB n1 rs) L h = 2) := hide (by rw [HR2.out, if_pos hh])
          go_wp2_with (go_at_call 188; refine (c_isHour h _).mono ?_; rw [hh]; rintro e w' ⟨rfl, rfl⟩)
          go_ret
          exact Ret.int HR.out (hX.trans hx2)
        · by_cases h20 : 20 < n
          · have HR : Hid (setV n1 xs (rdB n1 rs) L h = 7) := hide (by rw [HR2.out, if_neg (by rw [hh]; decide), if_pos (by rw [← HLN.out]; exact h20)])
            have hd : decide (40 < 2 * (n : Int)) = true := decide_eq_true (by omega)
            go_wp2_with (go_at_call 188; refine (c_isHour h _).mono ?_; rw [hh]; rintro e w' ⟨rfl, rfl⟩)
            go_ret
            exact Ret.int HR.out (hX.trans hx2)
          · have HR : Hid (setV n1 xs (rdB n1 rs) L h = 0) := hide (by rw [HR2.out, if_neg (by rw [hh]; decide), if_neg (by rw [← HLN.out]; exact h20)])
            have hd : decide (40 < 2 * (n : Int)) = false := decide_eq_false (by omega)
            go_wp2_with (go_at_call 188; refine (c_isHour h _).mono ?_; rw [hh]; rintro e w' ⟨rfl, rfl⟩)
            go_ret
            exact Ret.int HR.out (hX.trans hx2)
/-- a list of the call's own and a code -/
def RetOC {α : Type} (t : TypeId) (size : Nat) (f : α → List Value) (p : List α × Int) (w : World) (e : Ending) (w' : World) : Prop :=
  ∃ v l z, e = .returned (.tuple #[v, .int .i64 z]) ∧ OwnL w' w.heap.size t size f v l ∧ Ext w w' ∧ Hid ((l, z) = p)
theorem RetOC.nil0 {α : Type} {t : TypeId} {size : Nat} {f : α → List Value} {p : List α × Int} {w w' : World} {z : Int} (hx : Ext w w') (h : ([], z) = p) : RetOC t size f p w (.returned (.tuple #[.slice none 0 0, .int .i64 z])) w' :=
  ⟨_, [], z, rfl, OwnL.nil_ _ _ _ _ _, hx, hide h⟩
/-- the code of the amounts of an hour -/
def amC (n1 : Int) (ns : List Node) (ps : List Pipe) (xs : List Contract) (L : List Nomination) (h : Int) : Int :=
  if nomC n1 ns ps xs L = 0 then (if inB h 0 47 = false then 2 else 0) else nomC n1 ns ps xs L
def amV (n1 : Int) (ns : List Node) (ps : List Pipe) (xs : List Contract) (L : List Nomination) (h : Int) : List Int × Int :=
  if amC n1 ns ps xs L h = 0 then (amtL xs.length L h, 0) else ([], amC n1 ns ps xs L h)
def fnV (n1 : Int) (ns : List Node) (ps : List Pipe) (xs : List Contract) (L : List Nomination) (h : Int) : List Trn × Int :=
  if amC n1 ns ps xs L h = 0 then (trnL xs L h, 0) else ([], amC n1 ns ps xs L h)
theorem amC_set {n1 : Nat} {ns : List Node} {ps : List Pipe} {xs : List Contract} {L : List Nomination} {h : Int} (hk : HrOk n1 ns ps xs L h) : amC n1 ns ps xs L h = 0 := by
  unfold amC nomC bookC
  rw [hk.net, hk.bk, hk.nm, hk.hr]; rfl
set_option maxHeartbeats 1000000 in
theorem c_AmountsIn (A1 A2 : Option Addr) (n1 c1 n2 c2 : Nat) (ns : List Node) (ps : List Pipe) (A : Option Addr) (n c : Nat) (xs : List Contract) (B : Option Addr) (m d : Nat) (L : List Nomination) (h : Int) (w : World) (hs1 : SliceOf w 3 Node.cells A1 n1 c1 ns) (hs2 : SliceOf w 5 Pipe.cells A2 n2 c2 ps) (hs : SliceOf w 8 Contract.cells A n c xs) (hL : SliceOf w 4 Nomination.cells B m d L) (hn32 : n ≤ 100000) : Calls Tryz.prog 148 #[.agg #[.slice A1 n1 c1, .slice A2 n2 c2], .slice A n c, .slice B m d, .int .i64 h] w (RetOC 2 1 intC (amV n1 ns ps xs L h) w) := by
  have hx0 : Ext w (w.alloc (.cells #[.slice A1 n1 c1, .slice A2 n2 c2] 45)) := Ext.alloc _ _
  have HLN := hide hs.len
  obtain ⟨z, HZ⟩ : ∃ z, Hid (nomC n1 ns ps xs L = z) := ⟨_, hide rfl⟩
  go_enter Tryz.func148, Tryz.ntmps148
  go_wp2_with fail
  refine (c_checkNominations A1 A2 n1 c1 n2 c2 ns ps A n c xs B m d L _ (hs1.ext hx0) (hs2.ext hx0) (hs.ext hx0) (hL.ext hx0)).mono ?_
  rw [HZ.out]
  rintro e w1 ⟨rfl, hx1⟩
  have hX1 := hx0.trans hx1
  by_cases h0 : z = 0
  · subst h0
    have HK := hide (nomC_ok3 HZ.out)
    cases hh : inB h 0 47
    · have HC : Hid (amC n1 ns ps xs L h = 2) := hide (by unfold amC; rw [if_pos HZ.out, if_pos hh])
      have HR : Hid (amV n1 ns ps xs L h = ([], 2)) := hide (by unfold amV; rw [if_neg (by rw [HC.out]; decide), HC.out])
      go_wp2_with (go_at_call 188; refine (c_isHour h _).mono ?_; rw [hh]; rintro e w' ⟨rfl, rfl⟩)
      go_ret2
      exact RetOC.nil0 hX1 HR.out.symm
    · have HC : Hid (amC n1 ns ps xs L h = 0) := hide (by unfold amC; rw [if_pos HZ.out, if_neg (by rw [hh]; decide)])
      have HR : Hid (amV n1 ns ps xs L h = (amtL xs.length L h, 0)) := hide (by unfold amV; rw [if_pos HC.out])
      have HIN := hide (fun x hx => ((nom_facts HK.out.2.1 HK.out.2.2).2 x hx).1)
      go_wp2_with (go_at_call 188; refine (c_isHour h _).mono ?_; rw [hh]; rintro e w' ⟨rfl, rfl⟩)
      refine (c_amountsIn A n c B m d L _ (hL.ext hX1) hn32 (by rw [HLN.out]; exact HIN.out) h).mono ?_
      rintro e w2 ⟨v, E, rfl, ho, HE, hx2⟩
      have hz := hX1.size
      go_wp2_with fail
      go_ret2
      exact ⟨v, E, 0, rfl, ho.lowG hz, hX1.trans hx2, hide (by rw [HR.out, HE.out, HLN.out])⟩
  · have HC : Hid (amC n1 ns ps xs L h = z) := hide (by unfold amC; rw [if_neg (by rw [HZ.out]; exact h0), HZ.out])
    have HR : Hid (amV n1 ns ps xs L h = ([], z)) := hide (by unfold amV; rw [if_neg (by rw [HC.out]; exact h0), HC.out])
    have hb : (z != 0) = true := by rw [bne_iff_ne]; exact h0
    go_wp2_with fail
    go_ret2
    exact RetOC.nil0 hX1 HR.out.symm
set_option maxHeartbeats 2000000 in
theorem c_FromNominations (A1 A2 : Option Addr) (n1 c1 n2 c2 : Nat) (ns : List Node) (ps : List Pipe) (A : Option Addr) (n c : Nat) (xs : List Contract) (B : Option Addr) (m d : Nat) (L : List Nomination) (h : Int) (w : World) (hs1 : SliceOf w 3 Node.cells A1 n1 c1 ns) (hs2 : SliceOf w 5 Pipe.cells A2 n2 c2 ps) (hs : SliceOf w 8 Contract.cells A n c xs) (hL : SliceOf w 4 Nomination.cells B m d L) (hn32 : n ≤ 100000) : Calls Tryz.prog 76 #[.agg #[.slice A1 n1 c1, .slice A2 n2 c2], .slice A n c, .slice B m d, .int .i64 h] w (RetOC 201 4 Trn.cells (fnV n1 ns ps xs L h) w) := by
  have hx0 : Ext w (w.alloc (.cells #[.slice A1 n1 c1, .slice A2 n2 c2] 45)) := Ext.alloc _ _
  have HLN := hide hs.len
  have hmx := hs.max
  have hcp := hs.cap
  obtain ⟨z, HZ⟩ : ∃ z, Hid (amC n1 ns ps xs L h = z) := ⟨_, hide rfl⟩
  go_enter Tryz.func76, Tryz.ntmps76
  go_wp2_with fail
  refine (c_AmountsIn A1 A2 n1 c1 n2 c2 ns ps A n c xs B m d L h _ (hs1.ext hx0) (hs2.ext hx0) (hs.ext hx0) (hL.ext hx0) hn32).mono ?_
  rintro e w1 ⟨v1, am, zz, rfl, ho1, hx1, HP⟩
  by_cases h0 : z = 0
  · subst h0
    have hp : (am, zz) = (amtL xs.length L h, 0) := by rw [HP.out]; unfold amV; rw [if_pos HZ.out]
    injection hp with hp1 hp2
    subst hp2
    have HE := hide hp1
    clear hp1 HP
    have hal : am.length = n := by rw [HE.out, amtL_len, ← HLN.out]
    obtain ⟨A4, c4, rfl, hs4⟩ := ho1.sl intC_len (by omega)
    rw [hal] at hs4
    rw [hal]
    have HTL : Hid (List.zipWith trnOf xs am = trnL xs L h) := hide (by unfold trnL; rw [HE.out])
    have HR : Hid (fnV n1 ns ps xs L h = (trnL xs L h, 0)) := hide (by unfold fnV; rw [if_pos HZ.out])
    have hX1 := hx0.trans hx1
    have hs1' := hs.ext hX1
    have hw1 := hX1.size
    clear ho1 hs hL hs1 hs2
    go_wp2_with fail
    go_loopw [12, 28] (fun v i wr => ∃ (k : Nat) (T : List Trn), k ≤ n ∧ i = .int .i64 k ∧ T.length = k ∧ Hid (T = (List.zipWith trnOf xs am).take k) ∧ OwnL wr w1.heap.size 201 4 Trn.cells v T ∧ Ext w1 wr) (fun _ i _ => n - (intOf i).toNat)
    case atStart => exact ⟨0, [], Nat.zero_le _, rfl, rfl, hide rfl, OwnL.nil_ _ _ _ _ _, Ext.refl _⟩
    case round =>
      obtain ⟨k, T, hk, rfl, hTk, HT, ho, hx⟩ := hrel
      by_cases hlt : k < n
      · obtain ⟨b, off, x, hA, hb, hxk, hc⟩ := (hs1'.ext hx).get hlt
        have hc0 := hc 0 _ rfl
        have hc1 := hc 1 _ rfl
        have hc2 := hc 2 _ rfl
        have hc3 := hc 3 _ rfl
        have hc4 := hc 4 _ rfl
        have hc5 := hc 5 _ rfl
        have hc6 := hc 6 _ rfl
        have hc7 := hc 7 _ rfl
        clear hc
        subst hA
        obtain ⟨ba, oa, a, hB, hba, hak, hca⟩ := (hs4.ext hx).get hlt
        have hca0 := hca 0 _ rfl
        clear hca
        subst hB
        simp only [Nat.add_zero, Nat.mul_one] at hca0 hc0
        have hbaw : ba < w1.heap.size := hs4.blk (b := ba) (by unfold blkOf; rw [if_neg (by omega)]; rfl)
        have hxw := hx.size
        have HST : Hid ((List.zipWith trnOf xs am).take (k + 1) = T ++ [⟨x.entry, x.exit, a, x.cls⟩]) := hide (by rw [zip_step hxk hak, ← HT.out]; rfl)
        have HOB : Hid (∀ j, u12.ownBlock = some j → w1.heap.size ≤ j ∧ j < wr.heap.size) := hide (fun j hj => ⟨ho.block_le hj, (ho.ltG hj).2⟩)
        clear hxk hak
        go_wp2_with fail
        have hbx := Row.new wr 153 x.cells
        have hx1' : Ext wr (wr.alloc (.cells x.cells.toArray 153)) := Ext.alloc _ _
        rw [show (Obj.cells #[.int .i64 x.shipper, .int .i64 x.entry, .int .i64 x.exit, .int .i64 x.amount, .int .i64 x.cls, .int .i64 x.start, .int .i64 x.stop, .int .i64 x.price] 153) = .cells x.cells.toArray 153 from rfl]
        obtain ⟨g, hg⟩ : ∃ g, wr.heap.size = g := ⟨_, rfl⟩
        generalize (wr.alloc (.cells x.cells.toArray 153)) = W1 at *
        have hca1 := (hx1'.cell _ _ hba).trans hca0
        have q1 := hbx.cell 1
        have q2 := hbx.cell 2
        have q4 := hbx.cell 4
        simp [Contract.cells] at q1 q2 q4
        have hbl := hbx.lt
        have ho1 := ho.ext hx1'
        have hX2 := hx.trans hx1'
        have hbaW : ba < W1.heap.size := Nat.lt_of_lt_of_le hba hx1'.size
        rw [hg] at hbl q1 q2 q4 HOB hxw ⊢
        clear hx ho hca0 hba hx1' hb hc0 hc1 hc2 hc3 hc4 hc5 hc6 hc7 hbx
        refine wp_region_phC [(g, 1), (g, 2), (ba, oa + k), (g, 4)] [([0, 1, 2, 3, 4, 5, 6, 7, 8, 9, 10, 11], 12), ([], 13)] [14] (by kernel_rfl) (by kernel_rfl) (by intro c a w d v h; cases d <;> exact h) ?_
        simp only [wpPhC, pickL, nthO]
        repeat (go_big_quiet_step (fail))
        refine wpQuiet_nil ?_
        go_wp2_with fail
        obtain ⟨W, HW⟩ : ∃ W, Hid ((W1.alloc (.cells #[.int .i64 x.entry, .int .i64 x.exit, .int .i64 a, .int .i64 x.cls] 201)).drew = W) := ⟨_, hide rfl⟩
        rw [HW.out]
        have hxa : Ext W1 W := by rw [← HW.out]; exact ((Ext.refl W1).and_alloc _).drew
        have hxz := hxa.size
        have hxz1 := hX2.size
        have hWn : SliceOf W 4 Trn.cells (some ⟨W1.heap.size, 0, none⟩) 1 1 [⟨x.entry, x.exit, a, x.cls⟩] := by rw [← HW.out]; exact (new_trn W1 ⟨x.entry, x.exit, a, x.cls⟩ rfl).ext (Ext.refl _).drew
        refine ⟨SameC.of_ext hxa (by simp; omega), wpQuiet_nil ?_⟩
        go_wp2_with (at_builtin; go_must (refine wpList_append_where rfl _ _ 118 rfl w1.heap.size 201 _ 4 32 Tryz.underlying118 trn_info rfl (by decide) Trn.cells trn_len trn_one _ T rfl (ho1.ext hxa) W1.heap.size 0 1 1 [⟨x.entry, x.exit, a, x.cls⟩] rfl hWn (by omega) (by omega) (by omega) ?_))
        intro v2 w2 ho2 hg2 _
        have hx2 := (hX2.trans hxa).grown hg2 (fun k hk => ho1.block_le hk)
        have hsm := same_grown (bs := [(g, 1), (g, 2), (ba, oa + k), (g, 4)]) hxa hg2 (by
          intro p hp
          simp only [List.mem_cons, List.not_mem_nil, or_false] at hp
          rcases hp with rfl | rfl | rfl | rfl <;> exact ⟨by show _ < _; omega, fun j hj => by have := HOB.out j hj; show _ ≠ j; omega⟩)
        rw [← HST.out] at ho2
        clear ho1 hg2 hxa q1 q2 q4 hca1
        go_wp2_with fail
        refine ⟨hsm, ?_⟩
        repeat (go_big_quiet_step (fail))
        refine wpQuiet_nil ?_
        go_wp2_with fail
        go_roundw
        case rel => exact ⟨k + 1, _, by omega, by go_num, by rw [HST.out]; simp; omega, hide rfl, ho2, hx2⟩
        case measure => simp [intOf]; omega
      · go_wp2_with fail
        go_ret2
        refine ⟨_, T, 0, rfl, ho.lowG hw1, hX1.trans hx, hide ?_⟩
        rw [HR.out, HT.out, List.take_of_length_le (by rw [List.length_zipWith, ← HLN.out, hal]; omega), HTL.out]
  · have hp : (am, zz) = ([], z) := by rw [HP.out]; unfold amV; rw [if_neg (by rw [HZ.out]; exact h0), HZ.out]
    injection hp with hp1 hp2
    subst hp1 hp2
    have HR : Hid (fnV n1 ns ps xs L h = ([], zz)) := hide (by unfold fnV; rw [if_neg (by rw [HZ.out]; exact h0), HZ.out])
    have hb : (zz != 0) = true := by rw [bne_iff_ne]; exact h0
    go_wp2_with fail
    go_ret2
    exact RetOC.nil0 (hx0.trans hx1) HR.out.symm
end Go.Proofs.YtfkpghdmljjegaaGreat

namespace Go.Proofs.YtfkpghdmljjegaaGreat
open Go.RowKit
/-- the code of settling an hour -/
def shC (n1 : Nat) (ns : List Node) (ps : List Pipe) (xs : List Contract) (L : List Nomination) (h : Int) (rd : List Reading) (band percent price : Int) (ts : List Tier) : Int :=
  if netB ns ps = false then 1 else if isTermsB band percent price ts = false then 1 else setV n1 xs (readsB n1 rd) L h
noncomputable def shV (n1 : Nat) (ns : List Node) (ps : List Pipe) (xs : List Contract) (L : List Nomination) (h : Int) (rd : List Reading) (band percent price : Int) (ts : List Tier) : Stl × Int :=
  if shC n1 ns ps xs L h rd band percent price ts = 0 then (stlH ps n1 xs L h rd band percent price ts, 0) else (zeroS, shC n1 ns ps xs L h rd band percent price ts)
theorem setV_ok {n1 : Nat} {ns : List Node} {ps : List Pipe} {xs : List Contract} {L : List Nomination} {h : Int} {b : Bool} (hn : netB ns ps = true) (hz : setV n1 xs b L h = 0) : b = true ∧ HrOk n1 ns ps xs L h := by
  cases b
  · exfalso
    unfold setV at hz
    split at hz
    · cases hz
    · rw [if_pos rfl] at hz; cases hz
  · exact ⟨rfl, setC_ok (by rw [← setV_C hn]; exact hz)⟩
end Go.Proofs.YtfkpghdmljjegaaGreat

namespace Go.Proofs.YtfkpghdmljjegaaGreat
open Go.RowKit

end Go.Proofs.YtfkpghdmljjegaaGreat

namespace Go.Proofs.YtfkpghdmljjegaaGreat
open Go.RowKit

end Go.Proofs.YtfkpghdmljjegaaGreat

namespace Go.Proofs.YtfkpghdmljjegaaGreat
open Go.RowKit


end Go.Proofs.YtfkpghdmljjegaaGreat

namespace Go.Proofs.YtfkpghdmljjegaaGreat
open Go.RowKit

end Go.Proofs.YtfkpghdmljjegaaGreat

namespace Go.Proofs.YtfkpghdmljjegaaGreat
open Go.RowKit
theorem Dist.low {k : Nat} {o r o' : List Int} (h : Dist k o r o') {lo : Int} (ho : ∀ z ∈ o, lo ≤ z) : ∀ z ∈ o', lo ≤ z := by
  induction h with
  | zero => exact ho
  | step hb hy h ih =>
    refine ih (fun z hz => ?_)
    rcases List.mem_or_eq_of_mem_set hz with hz | rfl
    · exact ho z hz
    · have := ho _ (List.mem_of_getElem? hy); omega
theorem Shares.nn {t : Int} {ws o : List Int} (h : Shares t ws o) (ht : 0 ≤ t) (hw : ∀ z ∈ ws, 0 ≤ z) (hs : 0 < sumZ ws) : ∀ z ∈ o, 0 ≤ z := by
  refine Dist.low h (fun z hz => ?_)
  obtain ⟨w, hwm, rfl⟩ := List.mem_map.1 hz
  exact Int.ediv_nonneg (Int.mul_nonneg ht (hw w hwm)) (by omega)
theorem le_sumZ : ∀ {l : List Int}, (∀ z ∈ l, 0 ≤ z) → ∀ z ∈ l, z ≤ sumZ l
  | [], _, z, hz => by cases hz
  | x :: l, h, z, hz => by
    have h1 := h x (by simp)
    have h2 := sumZ_nonneg (l := l) (fun y hy => h y (by simp [hy]))
    simp only [sumZ]
    rcases List.mem_cons.1 hz with rfl | hz
    · omega
    · have := le_sumZ (l := l) (fun y hy => h y (by simp [hy])) z hz; omega
theorem Shares.bd {t : Int} {ws o : List Int} (h : Shares t ws o) (ht : 0 ≤ t) (hw : ∀ z ∈ ws, 0 ≤ z) (hs : 0 < sumZ ws) : ∀ z ∈ o, 0 ≤ z ∧ z ≤ t := fun z hz => by
  have h1 := h.nn ht hw hs
  have h2 := le_sumZ h1 z hz
  rw [h.sum hs] at h2
  exact ⟨h1 z hz, h2⟩
theorem Alloc.ex (os : List Order) : ∀ (rs : List Reading) (g : List Int), ∃ g', Alloc os g rs g'
  | [], g => ⟨g, .nil g⟩
  | x :: rs, g => by
    by_cases hz : sumZ (wts os x) = 0
    · obtain ⟨g', h⟩ := Alloc.ex os rs g
      exact ⟨g', .skip hz h⟩
    · have hs : 0 < sumZ (wts os x) := by have := sumZ_nonneg (wts_nonneg os x); omega
      obtain ⟨sh, hsh⟩ := Shares.ex (absZ x.amount) hs
      obtain ⟨g', h⟩ := Alloc.ex os rs (addS (sgn x) g sh)
      exact ⟨g', .add hs hsh h⟩
theorem addS_bdC {B t s : Int} (hs : s = 1 ∨ s = -1) : ∀ {g sh : List Int}, (∀ z ∈ g, -B ≤ z ∧ z ≤ B) → (∀ z ∈ sh, 0 ≤ z ∧ z ≤ t) → ∀ z ∈ addS s g sh, -(B + t) ≤ z ∧ z ≤ B + t
  | [], sh, _, _, z, hz => by simp [addS] at hz
  | a :: g, [], _, _, z, hz => by simp [addS] at hz
  | a :: g, b :: sh, hg, hb, z, hz => by
    simp only [addS, List.zipWith_cons_cons, List.mem_cons] at hz
    rcases hz with rfl | hz
    · have h1 := hg a (by simp)
      have h2 := hb b (by simp)
      rcases hs with rfl | rfl <;> omega
    · exact addS_bdC hs (g := g) (sh := sh) (fun y hy => hg y (by simp [hy])) (fun y hy => hb y (by simp [hy])) z hz
theorem sgn_ways (x : Reading) : sgn x = 1 ∨ sgn x = -1 := by unfold sgn; split <;> omega
theorem absZ_le {z m : Int} (h : -m ≤ z ∧ z ≤ m) : 0 ≤ absZ z ∧ absZ z ≤ m := by unfold absZ; split <;> omega
theorem Alloc.bd {os : List Order} {g g' : List Int} {rs : List Reading} (h : Alloc os g rs g') : ∀ {B : Int}, (∀ x ∈ rs, -30000 ≤ x.amount ∧ x.amount ≤ 30000) → (∀ z ∈ g, -B ≤ z ∧ z ≤ B) → ∀ z ∈ g', -(B + 30000 * (rs.length : Int)) ≤ z ∧ z ≤ B + 30000 * (rs.length : Int) := by
  induction h with
  | nil => intro B _ hg z hz; have := hg z hz; simp; omega
  | skip _ _ ih =>
    intro B hr hg z hz
    have := ih (B := B) (fun y hy => hr y (by simp [hy])) hg z hz
    simp only [List.length_cons]; omega
  | @add g g' sh x rs hs hd h ih =>
    intro B hr hg z hz
    have h1 := absZ_le (hr x (by simp))
    have h2 := addS_bdC (B := B) (t := 30000) (sgn_ways x) hg (fun y hy => by have := hd.bd h1.1 (wts_nonneg os x) hs y hy; omega)
    have := ih (B := B + 30000) (fun y hy => hr y (by simp [hy])) h2 z hz
    simp only [List.length_cons]; omega
end Go.Proofs.YtfkpghdmljjegaaGreat

namespace Go.Proofs.YtfkpghdmljjegaaGreat
open Go.RowKit
theorem ordL_cons (x : Contract) (a : Int) (xs : List Contract) (am : List Int) : ordL (x :: xs) (a :: am) = ordC2 x a ++ ordL xs am := by simp [ordL]
theorem ordL_get {x : Contract} {a : Int} : ∀ {xs : List Contract} {am : List Int} {k : Nat}, xs[k]? = some x → am[k]? = some a → (ordL xs am)[2 * k]? = some ⟨x.shipper, x.entry, a, x.cls⟩ ∧ (ordL xs am)[2 * k + 1]? = some ⟨x.shipper, x.exit, -a, x.cls⟩
  | [], am, k, h, _ => by simp at h
  | y :: xs, [], k, _, h => by simp at h
  | y :: xs, b :: am, 0, h, h' => by
    simp at h h'
    subst h h'
    rw [ordL_cons]
    exact ⟨rfl, rfl⟩
  | y :: xs, b :: am, k + 1, h, h' => by
    have ih := ordL_get (xs := xs) (am := am) (k := k) (by simpa using h) (by simpa using h')
    rw [ordL_cons]
    rw [List.getElem?_append_right (by simp [ordC2]; omega), List.getElem?_append_right (by simp [ordC2]; omega)]
    have e1 : 2 * (k + 1) - (ordC2 y b).length = 2 * k := by simp [ordC2]; omega
    have e2 : 2 * (k + 1) + 1 - (ordC2 y b).length = 2 * k + 1 := by simp [ordC2]; omega
    rw [e1, e2]
    exact ih
theorem accAt_pair {s : Nat} (hs : s < 16) (a : Int) : accAt (accAt (List.replicate 16 0) s a) s (-a) = List.replicate 16 0 := by
  unfold accAt
  rw [zAt_rep, Int.zero_add, List.set_set]
  have h1 : zAt ((List.replicate 16 (0 : Int)).set s a) s = a := by
    unfold zAt
    rw [List.getElem?_set_self (by simpa using hs)]; rfl
  rw [h1, show a + -a = 0 by omega]
  exact set_zero
theorem acc_zero {xs : List Contract} {am : List Int} (hl : am.length = xs.length) (hc : ∀ x ∈ xs, 0 ≤ x.shipper ∧ x.shipper ≤ 15) : ∀ k : Nat, k ≤ xs.length → accL id (ordL xs am) ((ordL xs am).map Order.amount) (2 * k) = List.replicate 16 0
  | 0, _ => rfl
  | k + 1, hk => by
    have ih := acc_zero hl hc k (by omega)
    have hx := List.getElem?_eq_getElem (l := xs) (i := k) (by omega)
    have ha := List.getElem?_eq_getElem (l := am) (i := k) (by omega)
    obtain ⟨h1, h2⟩ := ordL_get hx ha
    have h3 := hc _ (List.mem_of_getElem? hx)
    rw [show 2 * (k + 1) = 2 * k + 1 + 1 by omega]
    rw [accL_step h2 (by rw [List.getElem?_map, h2]; rfl), accL_step h1 (by rw [List.getElem?_map, h1]; rfl), ih]
    exact accAt_pair (s := (xs[k]'(by omega)).shipper.toNat) (by omega) _
theorem charge_none (price : Int) (ts : List Tier) : chargeF price ts 0 = 0 := by
  unfold chargeF
  rw [chg_done 0 ts 0 (by omega)]; simp
theorem exc_none (thr : Int) : excF 0 0 0 thr = 0 := by
  have : tolF 0 0 thr = 0 := by unfold tolF; simp
  unfold excF
  rw [this]; rfl
theorem posts_none {price : Int} {ts : List Tier} (T : List Int) : ∀ k : Nat, postsL 0 0 price ts (List.replicate 16 0) T k = []
  | 0 => rfl
  | k + 1 => by
    simp only [postsL]
    rw [posts_none T k]
    have h1 : feeK 0 0 price ts (List.replicate 16 0) T k = 0 := by
      unfold feeK
      rw [zAt_rep, exc_none]
      exact charge_none price ts
    unfold postsK
    rw [h1, zAt_rep]; rfl
/-! ### planned readings are readings -/
def rOk (nn : Int) (r : List Reading) : Prop := ∀ j, j < r.length → readOkB nn r j = true
theorem rOk_snoc {nn : Int} {r : List Reading} {x : Reading} (h : rOk nn r) (hx : readB nn x = true) (hn : ∀ y ∈ r, clash y x = false) : rOk nn (r ++ [x]) := by
  intro j hj
  rw [List.length_append, List.length_singleton] at hj
  rcases Nat.lt_or_ge j r.length with h1 | h1
  · have h2 := h j h1
    have e1 := List.getElem?_eq_getElem (l := r) (i := j) h1
    rw [readOk_at e1] at h2
    rw [readOk_at (by rw [List.getElem?_append_left h1]; exact e1), List.take_append_of_le_length (by omega)]
    exact h2
  · obtain rfl : j = r.length := by omega
    rw [readOk_at (r := x) (by simp), hx]
    have : hasR ((r ++ [x]).take r.length) x = false := by
      rw [List.take_left]
      unfold hasR
      rw [List.any_eq_false]
      intro y hy
      rw [hn y hy]; decide
    rw [this]; rfl
theorem rfR_ok {os : List Order} {nn : Int} : ∀ {k : Nat} {r : List Reading}, rfR os k = some r → (k : Int) ≤ nn → rOk nn r ∧ ∀ x ∈ r, x.node < k
  | 0, r, h, _ => by
    simp only [rfR, Option.some.injEq] at h
    subst h
    exact ⟨fun j hj => absurd hj (by simp), fun x hx => by cases hx⟩
  | k + 1, r, h, hk => by
    simp only [rfR] at h
    cases hq : rfR os k with
    | none => rw [hq] at h; cases h
    | some q =>
      rw [hq] at h
      simp only at h
      split at h
      · cases h
      · rename_i b1
        split at h
        · cases h
        · rename_i b2
          obtain rfl := Option.some.inj h
          obtain ⟨h1, h2⟩ := rfR_ok (nn := nn) hq (by omega)
          have s1 : rOk nn (stepR os k 1 q) ∧ ∀ x ∈ stepR os k 1 q, x.node < k ∨ (x.node = k ∧ 0 < x.amount) := by
            unfold stepR
            split
            · refine ⟨rOk_snoc h1 ?_ (fun y hy => ?_), fun x hx => ?_⟩
              · simp only [readB, Bool.and_eq_true, inB_true, Bool.not_eq_true', beq_eq_false_iff_ne, ne_eq]
                omega
              · have := h2 y hy
                unfold clash
                rw [Bool.and_eq_false_iff]
                left
                rw [beq_eq_false_iff_ne]; simp only; omega
              · rcases List.mem_append.1 hx with hx | hx
                · exact .inl (h2 x hx)
                · obtain rfl := List.mem_singleton.1 hx
                  exact .inr ⟨rfl, by simp only; omega⟩
            · exact ⟨h1, fun x hx => .inl (h2 x hx)⟩
          generalize stepR os k 1 q = q1 at s1
          obtain ⟨g1, g2⟩ := s1
          unfold stepR
          split
          · refine ⟨rOk_snoc g1 ?_ (fun y hy => ?_), fun x hx => ?_⟩
            · simp only [readB, Bool.and_eq_true, inB_true, Bool.not_eq_true', beq_eq_false_iff_ne, ne_eq]
              omega
            · unfold clash
              rw [Bool.and_eq_false_iff]
              rcases g2 y hy with h3 | ⟨_, h3⟩
              · left
                rw [beq_eq_false_iff_ne]; simp only; omega
              · right
                rw [beq_eq_false_iff_ne, decide_eq_true h3, decide_eq_false (by simp only; omega)]; decide
            · rcases List.mem_append.1 hx with hx | hx
              · rcases g2 x hx with h3 | ⟨h3, _⟩ <;> omega
              · obtain rfl := List.mem_singleton.1 hx
                simp only; omega
          · exact ⟨g1, fun x hx => by rcases g2 x hx with h3 | ⟨h3, _⟩ <;> omega⟩
theorem rfR_reads {os : List Order} {N : Nat} {r : List Reading} (h : rfR os N = some r) (hN : N ≤ 24) : readsB N r = true := by
  have h1 := (rfR_ok h (Int.le_refl _)).1
  have h2 := rfR_len h
  exact reads_yes rfl (by omega) h1
/-- the plain terms of the law -/
theorem plain_terms : isTermsB 0 0 9 [⟨1, 100⟩] = true := by decide
theorem prV_ok {n1 : Nat} {ns : List Node} {ps : List Pipe} {xs : List Contract} {L : List Nomination} {h : Int} {r : List Reading} (hz : prV n1 ns ps xs L h = (r, 0)) : HrOk n1 ns ps xs L h ∧ setC n1 ns ps xs L h = 0 ∧ rfR (hrOrd ps n1 xs L h) n1 = some r := by
  unfold prV at hz
  split at hz
  · rename_i h0
    refine ⟨setC_ok h0, h0, ?_⟩
    unfold rfV at hz
    split at hz
    · split at hz
      · rename_i q hq
        injection hz with hz1 _
        subst hz1; exact hq
      · injection hz with _ hz2; cases hz2
    · rename_i hb
      injection hz with _ hz2
      exact absurd hz2 hb
  · rename_i hb
    injection hz with _ hz2
    exact absurd hz2 hb
/-- planned readings, settled at plain terms: no change, no posting -/
theorem planned_sh {n1 : Nat} {ns : List Node} {ps : List Pipe} {xs : List Contract} {L : List Nomination} {h : Int} {r : List Reading} (hN : n1 = ns.length) (hz : prV n1 ns ps xs L h = (r, 0)) :
    (shV n1 ns ps xs L h r 0 0 9 [⟨1, 100⟩]).2 = 0 ∧ (shV n1 ns ps xs L h r 0 0 9 [⟨1, 100⟩]).1.chg = List.replicate 16 0 ∧ (shV n1 ns ps xs L h r 0 0 9 [⟨1, 100⟩]).1.psn = [] := by
  obtain ⟨hk, hc, hr⟩ := prV_ok hz
  have hrd : readsB n1 r = true := rfR_reads hr (by
    have := hk.net
    simp only [netB, Bool.and_eq_true, decide_eq_true_eq] at this
    omega)
  have hsh : shC n1 ns ps xs L h r 0 0 9 [⟨1, 100⟩] = 0 := by
    unfold shC
    rw [if_neg (by rw [hk.net]; decide), if_neg (by rw [plain_terms]; decide), hrd, setV_C hk.net]
    exact hc
  unfold shV
  rw [if_pos hsh]
  refine ⟨rfl, ?_⟩
  have hos := hrOrd_ok (ps := ps) hk.bk hk.nm h
  have hg : gotOf (hrOrd ps n1 xs L h) r = (hrOrd ps n1 xs L h).map Order.amount := gotOf_eq (planned_alloc (fun o ho => (hos o ho).2.1) hr)
  have hz0 : accL id (hrOrd ps n1 xs L h) ((hrOrd ps n1 xs L h).map Order.amount) (hrOrd ps n1 xs L h).length = List.replicate 16 0 := by
    rw [hrOrd_len]
    exact acc_zero (by rw [List.length_map, lessT_len]) (fun x hx => (con_facts hk.bk x hx).1) _ (Nat.le_refl _)
  unfold stlH
  rw [hg]
  show accL id _ _ _ = _ ∧ postsL 0 0 9 _ (accL id _ _ _) _ 16 = []
  rw [hz0]
  exact ⟨rfl, posts_none _ 16⟩
end Go.Proofs.YtfkpghdmljjegaaGreat
