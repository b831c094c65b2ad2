/-
  Numbers in decimal, of the reference: l01Dec. The reference's draws of a node and of a pipe. The reference's draw of a network.
-/
import Derived.Test.YtpgbmhpddgjccaaGreatSa16
import Derived.Test.YtpgbmhpddgjccaaGreatProg
import Derived.Test.YtpgbmhpddgjccaaGreatSa17
import Derived.Laws.IdiomStrings
import Derived.Laws.BytesString
import Derived.Test.YtpgbmhpddgjccaaGreatSa02
import Derived.Test.YtpgbmhpddgjccaaGreatSa08
namespace Go.Proofs.YtpgbmhpddgjccaaGreat
open Go.RowKit Go.Lib
def mkB (l : List UInt8) : ByteArray := ⟨l.toArray⟩
theorem mkB_of (b : ByteArray) : mkB b.data.toList = b := rfl
theorem mkB_list (l : List UInt8) : (mkB l).data.toList = l := rfl
theorem mkB_inj {a b : List UInt8} (h : mkB a = mkB b) : a = b := by
  have := congrArg (fun x => x.data.toList) h
  exact this
theorem mkB_append (a b : List UInt8) : mkB a ++ mkB b = mkB (a ++ b) := by
  apply ByteArray.ext
  simp [mkB, ByteArray.data_append]
theorem mkB_size (l : List UInt8) : (mkB l).size = l.length := rfl
theorem decDigits_len : ∀ (k u : Nat), u < k → (decDigits u).length ≤ u + 1 := by
  intro k
  induction k with
  | zero => intro u h; omega
  | succ k ih =>
    intro u hk
    rw [decDigits]
    split
    · simp
    · have := ih (u / 10) (by omega)
      rw [List.length_append]
      simp
      omega
def dig (r : Nat) : UInt8 := UInt8.ofNat (48 + r)
theorem dig_conv (W : World) (g m : Nat) (hm : m < 10) (h : W.cell? ⟨g, 0, none⟩ = some (.int .u8 (48 + (m : Int)))) : (convert 22 9 (.slice (some ⟨g, 0, none⟩) 1 1)).run Tryz.prog W = .ok (.string (mkB [dig m])) W := by
  have h := run_convert_bytes_back (P := Tryz.prog) W 22 9 5 ⟨g, 0, none⟩ 1 [UInt8.ofNat (48 + m)] Tryz.underlying22 Tryz.underlying5 Tryz.underlying9 (fun j hj => by
    obtain rfl : j = 0 := by simp at hj; omega
    have : (Addr.add ⟨g, 0, none⟩ 0) = ⟨g, 0, none⟩ := rfl
    rw [this, h]
    simp
    omega)
  exact h
/-- a slice of one byte that was just made -/
def KB (c : Int) : Value → World → Prop := fun v w => ∃ g, v = .slice (some ⟨g, 0, none⟩) 1 1 ∧ Row w g 5 [.int .u8 c]
theorem stKB (c : Int) : stK (KB c) := fun _ _ _ ⟨g, h1, h2⟩ hx => ⟨g, h1, h2.ext hx⟩
set_option maxHeartbeats 2000000 in
set_option maxRecDepth 8000 in
theorem c_l01Dec (n : Nat) (hn : n ≤ 4611686018427387904) (w : World) :
    Calls Tryz.prog 295 #[.int .i64 n] w (Ret (.string (mkB (decDigits n))) w) := by
  induction n using Nat.strongRecOn generalizing w with
  | _ n ih =>
  by_cases h : n < 10
  · have e3 : IntKind.i64.wrap (48 + (n : Int)) = 48 + (n : Int) := IntWalk.i64_in _ (by omega)
    have e4 : IntKind.u8.wrap (48 + (n : Int)) = 48 + (n : Int) := by simp [IntKind.wrap, IntKind.signed, IntKind.bits]; omega
    have hcv := dig_conv (w.alloc (.cells #[.int .u8 (48 + (n : Int))] 5)) w.heap.size n h (by simp [World.cell?_alloc_mark])
    have HD := hide (show decDigits n = [dig n] from decDigits_one h)
    go_enter Tryz.func295, Tryz.ntmps295
    go_wp2_with fail
    go_ret
    exact Ret.of (by rw [HD.out]; rfl) (Ext.alloc _ _)
  · have HD := hide (show decDigits n = decDigits (n / 10) ++ [dig (n % 10)] by rw [decDigits, dif_neg h]; rfl)
    have hl := decDigits_len (n / 10 + 1) (n / 10) (Nat.lt_succ_self _)
    have hsz : ¬ 9223372036854775807 < (mkB (decDigits (n / 10))).size + (mkB [dig (n % 10)]).size := by rw [mkB_size, mkB_size]; simp; omega
    have e1 : (n : Int).tmod 10 = ((n % 10 : Nat) : Int) := by rw [Int.tmod_eq_emod_of_nonneg (by omega)]; omega
    have e2 : (n : Int).tdiv 10 = ((n / 10 : Nat) : Int) := by rw [Int.tdiv_eq_ediv_of_nonneg (by omega)]; omega
    have e3 : IntKind.i64.wrap (48 + ((n % 10 : Nat) : Int)) = 48 + ((n % 10 : Nat) : Int) := IntWalk.i64_in _ (by omega)
    have e4 : IntKind.u8.wrap (48 + ((n % 10 : Nat) : Int)) = 48 + ((n % 10 : Nat) : Int) := by simp [IntKind.wrap, IntKind.signed, IntKind.bits]; omega
    generalize hq : n / 10 = q at *
    generalize hr : n % 10 = r at *
    have hr10 : r < 10 := by omega
    go_enter Tryz.func295, Tryz.ntmps295
    go_wp2_with fail
    refine wp_region_K [KC (.int .i64 n), KC (.int .i64 q), KC (.string (mkB (decDigits q))), KC (.int .i64 n), KC (.int .i64 r), KC (.int .i64 (48 + (r : Int))), KC (.int .u8 (48 + (r : Int))), KB (48 + (r : Int)), KC (.string (mkB [dig r])), KC (.string (mkB (decDigits n)))]
      [0, 1, 2, 3, 4, 5, 6, 7, 8, 9] [[], [0], [0, 1], [], [3], [3, 4], [3, 4, 5], [3, 4, 5, 6], [3, 4, 5, 6, 7], [0, 1, 2, 3, 4, 5, 6, 7, 8], [0, 1, 2, 3, 4, 5, 6, 7, 8, 9]] [] (.last [10]) (by kernel_rfl) (by kernel_rfl) (by intro c a w d v h; cases d <;> exact h) (by simp) ⟨stKC _, stKC _, stKC _, stKC _, stKC _, stKC _, stKC _, stKB _, stKC _, stKC _, trivial⟩ ?_ ?_
    · refine ⟨?_, ?_, ?_, ?_, ?_, ?_, ?_, ?_, ?_, ?_, trivial⟩
      · intro ts wx hts hX hd
        obtain ⟨t0, ts0, rfl, hts0⟩ := vcons hts
        obtain ⟨t1, ts1, rfl, hts1⟩ := vcons hts0
        obtain ⟨t2, ts2, rfl, hts2⟩ := vcons hts1
        obtain ⟨t3, ts3, rfl, hts3⟩ := vcons hts2
        obtain ⟨t4, ts4, rfl, hts4⟩ := vcons hts3
        obtain ⟨t5, ts5, rfl, hts5⟩ := vcons hts4
        obtain ⟨t6, ts6, rfl, hts6⟩ := vcons hts5
        obtain ⟨t7, ts7, rfl, hts7⟩ := vcons hts6
        obtain ⟨t8, ts8, rfl, hts8⟩ := vcons hts7
        obtain ⟨t9, ts9, rfl, hts9⟩ := vcons hts8
        obtain ⟨t10, ts10, rfl, hts10⟩ := vcons hts9
        obtain rfl := vnil hts10
        clear hts hts0 hts1 hts2 hts3 hts4 hts5 hts6 hts7 hts8 hts9 hts10
        simp only [putAll, nthO, Act.put, List.setIfInBounds_toArray, List.set_cons_succ, List.set_cons_zero]
        go_wp2_with fail
        exact ⟨Ext.refl _, _, rfl, rfl⟩
      · intro ts wx hts hX hd
        obtain ⟨t0, ts0, rfl, hts0⟩ := vcons hts
        obtain ⟨t1, ts1, rfl, hts1⟩ := vcons hts0
        obtain ⟨t2, ts2, rfl, hts2⟩ := vcons hts1
        obtain ⟨t3, ts3, rfl, hts3⟩ := vcons hts2
        obtain ⟨t4, ts4, rfl, hts4⟩ := vcons hts3
        obtain ⟨t5, ts5, rfl, hts5⟩ := vcons hts4
        obtain ⟨t6, ts6, rfl, hts6⟩ := vcons hts5
        obtain ⟨t7, ts7, rfl, hts7⟩ := vcons hts6
        obtain ⟨t8, ts8, rfl, hts8⟩ := vcons hts7
        obtain ⟨t9, ts9, rfl, hts9⟩ := vcons hts8
        obtain ⟨t10, ts10, rfl, hts10⟩ := vcons hts9
        obtain rfl := vnil hts10
        clear hts hts0 hts1 hts2 hts3 hts4 hts5 hts6 hts7 hts8 hts9 hts10
        simp only [putAll, nthO, Act.put, List.setIfInBounds_toArray, List.set_cons_succ, List.set_cons_zero]
        obtain ⟨rfl, _⟩ := hd
        go_wp2_with fail
        exact ⟨Ext.refl _, _, rfl, rfl⟩
      · intro ts wx hts hX hd
        obtain ⟨t0, ts0, rfl, hts0⟩ := vcons hts
        obtain ⟨t1, ts1, rfl, hts1⟩ := vcons hts0
        obtain ⟨t2, ts2, rfl, hts2⟩ := vcons hts1
        obtain ⟨t3, ts3, rfl, hts3⟩ := vcons hts2
        obtain ⟨t4, ts4, rfl, hts4⟩ := vcons hts3
        obtain ⟨t5, ts5, rfl, hts5⟩ := vcons hts4
        obtain ⟨t6, ts6, rfl, hts6⟩ := vcons hts5
        obtain ⟨t7, ts7, rfl, hts7⟩ := vcons hts6
        obtain ⟨t8, ts8, rfl, hts8⟩ := vcons hts7
        obtain ⟨t9, ts9, rfl, hts9⟩ := vcons hts8
        obtain ⟨t10, ts10, rfl, hts10⟩ := vcons hts9
        obtain rfl := vnil hts10
        clear hts hts0 hts1 hts2 hts3 hts4 hts5 hts6 hts7 hts8 hts9 hts10
        simp only [putAll, nthO, Act.put, List.setIfInBounds_toArray, List.set_cons_succ, List.set_cons_zero]
        obtain ⟨_, rfl, _⟩ := hd
        go_wp2_with fail
        refine (ih q (by omega) (by omega) _).mono ?_
        rintro e w2 ⟨rfl, hx2⟩
        go_wp2_with fail
        exact ⟨hx2, _, rfl, rfl⟩
      · intro ts wx hts hX hd
        obtain ⟨t0, ts0, rfl, hts0⟩ := vcons hts
        obtain ⟨t1, ts1, rfl, hts1⟩ := vcons hts0
        obtain ⟨t2, ts2, rfl, hts2⟩ := vcons hts1
        obtain ⟨t3, ts3, rfl, hts3⟩ := vcons hts2
        obtain ⟨t4, ts4, rfl, hts4⟩ := vcons hts3
        obtain ⟨t5, ts5, rfl, hts5⟩ := vcons hts4
        obtain ⟨t6, ts6, rfl, hts6⟩ := vcons hts5
        obtain ⟨t7, ts7, rfl, hts7⟩ := vcons hts6
        obtain ⟨t8, ts8, rfl, hts8⟩ := vcons hts7
        obtain ⟨t9, ts9, rfl, hts9⟩ := vcons hts8
        obtain ⟨t10, ts10, rfl, hts10⟩ := vcons hts9
        obtain rfl := vnil hts10
        clear hts hts0 hts1 hts2 hts3 hts4 hts5 hts6 hts7 hts8 hts9 hts10
        simp only [putAll, nthO, Act.put, List.setIfInBounds_toArray, List.set_cons_succ, List.set_cons_zero]
        go_wp2_with fail
        exact ⟨Ext.refl _, _, rfl, rfl⟩
      · intro ts wx hts hX hd
        obtain ⟨t0, ts0, rfl, hts0⟩ := vcons hts
        obtain ⟨t1, ts1, rfl, hts1⟩ := vcons hts0
        obtain ⟨t2, ts2, rfl, hts2⟩ := vcons hts1
        obtain ⟨t3, ts3, rfl, hts3⟩ := vcons hts2
        obtain ⟨t4, ts4, rfl, hts4⟩ := vcons hts3
        obtain ⟨t5, ts5, rfl, hts5⟩ := vcons hts4
        obtain ⟨t6, ts6, rfl, hts6⟩ := vcons hts5
        obtain ⟨t7, ts7, rfl, hts7⟩ := vcons hts6
        obtain ⟨t8, ts8, rfl, hts8⟩ := vcons hts7
        obtain ⟨t9, ts9, rfl, hts9⟩ := vcons hts8
        obtain ⟨t10, ts10, rfl, hts10⟩ := vcons hts9
        obtain rfl := vnil hts10
        clear hts hts0 hts1 hts2 hts3 hts4 hts5 hts6 hts7 hts8 hts9 hts10
        simp only [putAll, nthO, Act.put, List.setIfInBounds_toArray, List.set_cons_succ, List.set_cons_zero]
        obtain ⟨rfl, _⟩ := hd
        go_wp2_with fail
        exact ⟨Ext.refl _, _, rfl, rfl⟩
      · intro ts wx hts hX hd
        obtain ⟨t0, ts0, rfl, hts0⟩ := vcons hts
        obtain ⟨t1, ts1, rfl, hts1⟩ := vcons hts0
        obtain ⟨t2, ts2, rfl, hts2⟩ := vcons hts1
        obtain ⟨t3, ts3, rfl, hts3⟩ := vcons hts2
        obtain ⟨t4, ts4, rfl, hts4⟩ := vcons hts3
        obtain ⟨t5, ts5, rfl, hts5⟩ := vcons hts4
        obtain ⟨t6, ts6, rfl, hts6⟩ := vcons hts5
        obtain ⟨t7, ts7, rfl, hts7⟩ := vcons hts6
        obtain ⟨t8, ts8, rfl, hts8⟩ := vcons hts7
        obtain ⟨t9, ts9, rfl, hts9⟩ := vcons hts8
        obtain ⟨t10, ts10, rfl, hts10⟩ := vcons hts9
        obtain rfl := vnil hts10
        clear hts hts0 hts1 hts2 hts3 hts4 hts5 hts6 hts7 hts8 hts9 hts10
        simp only [putAll, nthO, Act.put, List.setIfInBounds_toArray, List.set_cons_succ, List.set_cons_zero]
        obtain ⟨_, rfl, _⟩ := hd
        go_wp2_with fail
        exact ⟨Ext.refl _, _, rfl, rfl⟩
      · intro ts wx hts hX hd
        obtain ⟨t0, ts0, rfl, hts0⟩ := vcons hts
        obtain ⟨t1, ts1, rfl, hts1⟩ := vcons hts0
        obtain ⟨t2, ts2, rfl, hts2⟩ := vcons hts1
        obtain ⟨t3, ts3, rfl, hts3⟩ := vcons hts2
        obtain ⟨t4, ts4, rfl, hts4⟩ := vcons hts3
        obtain ⟨t5, ts5, rfl, hts5⟩ := vcons hts4
        obtain ⟨t6, ts6, rfl, hts6⟩ := vcons hts5
        obtain ⟨t7, ts7, rfl, hts7⟩ := vcons hts6
        obtain ⟨t8, ts8, rfl, hts8⟩ := vcons hts7
        obtain ⟨t9, ts9, rfl, hts9⟩ := vcons hts8
        obtain ⟨t10, ts10, rfl, hts10⟩ := vcons hts9
        obtain rfl := vnil hts10
        clear hts hts0 hts1 hts2 hts3 hts4 hts5 hts6 hts7 hts8 hts9 hts10
        simp only [putAll, nthO, Act.put, List.setIfInBounds_toArray, List.set_cons_succ, List.set_cons_zero]
        obtain ⟨_, _, rfl, _⟩ := hd
        go_wp2_with fail
        exact ⟨Ext.refl _, _, rfl, rfl⟩
      · intro ts wx hts hX hd
        obtain ⟨t0, ts0, rfl, hts0⟩ := vcons hts
        obtain ⟨t1, ts1, rfl, hts1⟩ := vcons hts0
        obtain ⟨t2, ts2, rfl, hts2⟩ := vcons hts1
        obtain ⟨t3, ts3, rfl, hts3⟩ := vcons hts2
        obtain ⟨t4, ts4, rfl, hts4⟩ := vcons hts3
        obtain ⟨t5, ts5, rfl, hts5⟩ := vcons hts4
        obtain ⟨t6, ts6, rfl, hts6⟩ := vcons hts5
        obtain ⟨t7, ts7, rfl, hts7⟩ := vcons hts6
        obtain ⟨t8, ts8, rfl, hts8⟩ := vcons hts7
        obtain ⟨t9, ts9, rfl, hts9⟩ := vcons hts8
        obtain ⟨t10, ts10, rfl, hts10⟩ := vcons hts9
        obtain rfl := vnil hts10
        clear hts hts0 hts1 hts2 hts3 hts4 hts5 hts6 hts7 hts8 hts9 hts10
        simp only [putAll, nthO, Act.put, List.setIfInBounds_toArray, List.set_cons_succ, List.set_cons_zero]
        obtain ⟨_, _, _, rfl, _⟩ := hd
        go_wp2_with fail
        exact ⟨Ext.alloc _ _, _, rfl, ⟨_, rfl, Row.new _ _ _⟩⟩
      · intro ts wx hts hX hd
        obtain ⟨t0, ts0, rfl, hts0⟩ := vcons hts
        obtain ⟨t1, ts1, rfl, hts1⟩ := vcons hts0
        obtain ⟨t2, ts2, rfl, hts2⟩ := vcons hts1
        obtain ⟨t3, ts3, rfl, hts3⟩ := vcons hts2
        obtain ⟨t4, ts4, rfl, hts4⟩ := vcons hts3
        obtain ⟨t5, ts5, rfl, hts5⟩ := vcons hts4
        obtain ⟨t6, ts6, rfl, hts6⟩ := vcons hts5
        obtain ⟨t7, ts7, rfl, hts7⟩ := vcons hts6
        obtain ⟨t8, ts8, rfl, hts8⟩ := vcons hts7
        obtain ⟨t9, ts9, rfl, hts9⟩ := vcons hts8
        obtain ⟨t10, ts10, rfl, hts10⟩ := vcons hts9
        obtain rfl := vnil hts10
        clear hts hts0 hts1 hts2 hts3 hts4 hts5 hts6 hts7 hts8 hts9 hts10
        simp only [putAll, nthO, Act.put, List.setIfInBounds_toArray, List.set_cons_succ, List.set_cons_zero]
        obtain ⟨_, _, _, _, ⟨g, rfl, hg⟩, _⟩ := hd
        have hcv := dig_conv wx g r hr10 (by have := hg.cell 0; simpa using this)
        go_wp2_with fail
        exact ⟨Ext.refl _, _, rfl, rfl⟩
      · intro ts wx hts hX hd
        obtain ⟨t0, ts0, rfl, hts0⟩ := vcons hts
        obtain ⟨t1, ts1, rfl, hts1⟩ := vcons hts0
        obtain ⟨t2, ts2, rfl, hts2⟩ := vcons hts1
        obtain ⟨t3, ts3, rfl, hts3⟩ := vcons hts2
        obtain ⟨t4, ts4, rfl, hts4⟩ := vcons hts3
        obtain ⟨t5, ts5, rfl, hts5⟩ := vcons hts4
        obtain ⟨t6, ts6, rfl, hts6⟩ := vcons hts5
        obtain ⟨t7, ts7, rfl, hts7⟩ := vcons hts6
        obtain ⟨t8, ts8, rfl, hts8⟩ := vcons hts7
        obtain ⟨t9, ts9, rfl, hts9⟩ := vcons hts8
        obtain ⟨t10, ts10, rfl, hts10⟩ := vcons hts9
        obtain rfl := vnil hts10
        clear hts hts0 hts1 hts2 hts3 hts4 hts5 hts6 hts7 hts8 hts9 hts10
        simp only [putAll, nthO, Act.put, List.setIfInBounds_toArray, List.set_cons_succ, List.set_cons_zero]
        obtain ⟨_, _, rfl, _, _, _, _, _, rfl, _⟩ := hd
        go_wp2_with fail
        exact ⟨Ext.refl _, _, rfl, by rw [mkB_append, HD.out]; rfl⟩
    · intro ts wx hts hX hd
      obtain ⟨t0, ts0, rfl, hts0⟩ := vcons hts
      obtain ⟨t1, ts1, rfl, hts1⟩ := vcons hts0
      obtain ⟨t2, ts2, rfl, hts2⟩ := vcons hts1
      obtain ⟨t3, ts3, rfl, hts3⟩ := vcons hts2
      obtain ⟨t4, ts4, rfl, hts4⟩ := vcons hts3
      obtain ⟨t5, ts5, rfl, hts5⟩ := vcons hts4
      obtain ⟨t6, ts6, rfl, hts6⟩ := vcons hts5
      obtain ⟨t7, ts7, rfl, hts7⟩ := vcons hts6
      obtain ⟨t8, ts8, rfl, hts8⟩ := vcons hts7
      obtain ⟨t9, ts9, rfl, hts9⟩ := vcons hts8
      obtain ⟨t10, ts10, rfl, hts10⟩ := vcons hts9
      obtain rfl := vnil hts10
      clear hts hts0 hts1 hts2 hts3 hts4 hts5 hts6 hts7 hts8 hts9 hts10
      simp only [putAll, Act.put, List.setIfInBounds_toArray, List.set_cons_succ, List.set_cons_zero]
      obtain ⟨-, -, -, -, -, -, -, -, -, rfl, -⟩ := hd
      simp only [wpPhT, pickL, nthO]
      repeat (go_big_quiet_step (fail))
      refine wpQuiet_nil ?_
      go_wp2_with fail
      go_ret
      exact Ret.of rfl hX
end Go.Proofs.YtpgbmhpddgjccaaGreat

namespace Go.Proofs.YtpgbmhpddgjccaaGreat
open Go.RowKit
open Go.Lib (decDigits)
section
variable {w0 w : World} {a n c : Nat} {A : Option Addr}
/-- some node, its name short -/
def DrawnNode (w0 : World) (a : Nat) (A : Option Addr) (n c : Nat) (w : World) (e : Ending) (w' : World) : Prop :=
  ∃ x : Node, e = .returned (.agg #[.string x.name, .int .i64 x.low, .int .i64 x.high]) ∧ x.name.size ≤ 100 ∧ Src w0 w' a A n c ∧ Only a w w'
set_option maxHeartbeats 1000000 in
theorem c_l02DrawNode (i : Nat) (hi : i ≤ 50) (h : Src w0 w a A n c) :
    Calls Tryz.prog 292 #[.pointer (some ⟨a, 0, none⟩), .int .i64 i] w (DrawnNode w0 a A n c w) := by
  have hal := h.lt
  have hle := h.le0
  have hR := Row.new w 210 [.string ⟨#[]⟩, .int .i64 0, .int .i64 0]
  go_enter Tryz.func292, Tryz.ntmps292
  go_wp2_with fail
  refine (c_next 4000 (h.more (Ext.alloc _ _)) (by omega) (by omega)).mono ?_
  rintro e w1 ⟨x1, rfl, hx1, hx1', hs1, ho1⟩
  have hR1 := hR.only ho1 (by omega)
  have hO1 := (Only.of_ext (Ext.alloc w (.cells #[.string ⟨#[]⟩, .int .i64 0, .int .i64 0] 210)) a).trans ho1
  clear hR
  go_wp2_with fail
  refine (c_l01Dec i (by omega) _).mono ?_
  rintro e w2 ⟨rfl, hx2⟩
  have hl := decDigits_len (i + 1) i (Nat.lt_succ_self _)
  have hsz : ¬ 9223372036854775807 < (ByteArray.mk #[110]).size + (mkB (decDigits i)).size := by rw [mkB_size]; show ¬ _ < 1 + _; omega
  have hsz2 : ((ByteArray.mk #[110]) ++ mkB (decDigits i)).size ≤ 100 := by rw [ByteArray.size_append, mkB_size]; show 1 + _ ≤ 100; omega
  have hs2 := hs1.more hx2
  have hR2 := hR1.ext hx2
  have hO2 := hO1.trans (Only.of_ext hx2 a)
  clear hs1 hR1 hO1
  go_wp2_with fail
  refine (c_next 60000 hs2 (by omega) (by omega)).mono ?_
  rintro e w3 ⟨x3, rfl, hx3, hx3', hs3, ho3⟩
  have hR3 := hR2.only ho3 (by omega)
  have hO3 := hO2.trans ho3
  clear hs2 hR2 hO2
  have q0 := hR3.cell 0
  have q1 := hR3.cell 1
  have q2 := hR3.cell 2
  simp at q0 q1 q2
  have f0 := hR3.frozen 0
  have f1 := hR3.frozen 1
  have f2 := hR3.frozen 2
  have hl3 := hR3.lt
  have hf : DrawnNode w0 a A n c w (.returned (.agg #[.string ((ByteArray.mk #[110]) ++ mkB (decDigits i)), .int .i64 x1, .int .i64 (x1 + 2000 + x3)])) (putCells w3 w.heap.size 0 [.string ((ByteArray.mk #[110]) ++ mkB (decDigits i)), .int .i64 x1, .int .i64 (x1 + 2000 + x3)]) :=
    ⟨⟨_, _, _⟩, rfl, hsz2, hs3.put (by have := h.ext.size; omega) (by omega) _ _, hO3.putNew (Nat.le_refl _) _ _⟩
  have HF := hide hf
  clear hf hs3 hO3 hR3
  go_wp2_with fail
  refine bodyPost_ret (v := .agg #[.string ((ByteArray.mk #[110]) ++ mkB (decDigits i)), .int .i64 x1, .int .i64 (x1 + 2000 + x3)]) (by simp [results, Tryz.results292, go_sem, q0, q1, q2]) rfl ?_
  exact HF.out
/-- some pipe -/
def DrawnPipe (w0 : World) (a : Nat) (A : Option Addr) (n c : Nat) (w : World) (e : Ending) (w' : World) : Prop :=
  ∃ x : Pipe, e = .returned (.agg #[.int .i64 x.src, .int .i64 x.dst, .int .i64 x.k, .int .i64 x.volume, .int .i64 x.limit]) ∧ Src w0 w' a A n c ∧ Only a w w'
set_option maxHeartbeats 1000000 in
theorem c_l02DrawPipe (y z : Int) (h : Src w0 w a A n c) :
    Calls Tryz.prog 289 #[.pointer (some ⟨a, 0, none⟩), .int .i64 y, .int .i64 z] w (DrawnPipe w0 a A n c w) := by
  have hal := h.lt
  have hle := h.le0
  have hR := Row.new w 174 [.int .i64 0, .int .i64 0, .int .i64 0, .int .i64 0, .int .i64 0]
  go_enter Tryz.func289, Tryz.ntmps289
  go_wp2_with fail
  refine (c_next 2 (h.more (Ext.alloc _ _)) (by omega) (by omega)).mono ?_
  rintro e w1 ⟨x1, rfl, hx1, hx1', hs1, ho1⟩
  have hR1 := hR.only ho1 (by omega)
  have hO1 := (Only.of_ext (Ext.alloc w (.cells ([.int .i64 0, .int .i64 0, .int .i64 0, .int .i64 0, .int .i64 0]).toArray 174)) a).trans ho1
  clear hR
  by_cases h0 : x1 = 0
  · subst h0
    go_wp2_with fail
    refine (c_next 9 hs1 (by omega) (by omega)).mono ?_
    rintro e w3 ⟨x3, rfl, hx3, hx3', hs3, ho3⟩
    go_wp2_with fail
    refine (c_next 100 hs3 (by omega) (by omega)).mono ?_
    rintro e w4 ⟨x4, rfl, hx4, hx4', hs4, ho4⟩
    go_wp2_with fail
    refine (c_next 200 hs4 (by omega) (by omega)).mono ?_
    rintro e w5 ⟨x5, rfl, hx5, hx5', hs5, ho5⟩
    have hR5 := ((hR1.only ho3 (by omega)).only ho4 (by omega)).only ho5 (by omega)
    have hO5 := ((hO1.trans ho3).trans ho4).trans ho5
    have q0 := hR5.cell 0
    have q1 := hR5.cell 1
    have q2 := hR5.cell 2
    have q3 := hR5.cell 3
    have q4 := hR5.cell 4
    simp at q0 q1 q2 q3 q4
    have f0 := hR5.frozen 0
    have f1 := hR5.frozen 1
    have f2 := hR5.frozen 2
    have f3 := hR5.frozen 3
    have f4 := hR5.frozen 4
    have hl5 := hR5.lt
    have hf : DrawnPipe w0 a A n c w (.returned (.agg #[.int .i64 z, .int .i64 y, .int .i64 (1 + x3), .int .i64 x4, .int .i64 (1 + x5)])) (putCells w5 w.heap.size 0 [.int .i64 z, .int .i64 y, .int .i64 (1 + x3), .int .i64 x4, .int .i64 (1 + x5)]) := ⟨⟨_, _, _, _, _⟩, rfl, hs5.put (by have := h.ext.size; omega) (by omega) _ _, hO5.putNew (Nat.le_refl _) _ _⟩
    have HF := hide hf
    clear hf hs5 hO5 hR5 hs1 hs3 hs4 hR1 hO1
    go_wp2_with fail
    refine bodyPost_ret (v := .agg #[.int .i64 z, .int .i64 y, .int .i64 (1 + x3), .int .i64 x4, .int .i64 (1 + x5)]) (by simp [results, Tryz.results289, go_sem, q0, q1, q2, q3, q4]) rfl ?_
    exact HF.out
  · have b0 : (x1 == 0) = false := by rw [beq_eq_false_iff_ne]; exact h0
    go_wp2_with fail
    refine (c_next 9 hs1 (by omega) (by omega)).mono ?_
    rintro e w3 ⟨x3, rfl, hx3, hx3', hs3, ho3⟩
    go_wp2_with fail
    refine (c_next 100 hs3 (by omega) (by omega)).mono ?_
    rintro e w4 ⟨x4, rfl, hx4, hx4', hs4, ho4⟩
    go_wp2_with fail
    refine (c_next 200 hs4 (by omega) (by omega)).mono ?_
    rintro e w5 ⟨x5, rfl, hx5, hx5', hs5, ho5⟩
    have hR5 := ((hR1.only ho3 (by omega)).only ho4 (by omega)).only ho5 (by omega)
    have hO5 := ((hO1.trans ho3).trans ho4).trans ho5
    have q0 := hR5.cell 0
    have q1 := hR5.cell 1
    have q2 := hR5.cell 2
    have q3 := hR5.cell 3
    have q4 := hR5.cell 4
    simp at q0 q1 q2 q3 q4
    have f0 := hR5.frozen 0
    have f1 := hR5.frozen 1
    have f2 := hR5.frozen 2
    have f3 := hR5.frozen 3
    have f4 := hR5.frozen 4
    have hl5 := hR5.lt
    have hf : DrawnPipe w0 a A n c w (.returned (.agg #[.int .i64 y, .int .i64 z, .int .i64 (1 + x3), .int .i64 x4, .int .i64 (1 + x5)])) (putCells w5 w.heap.size 0 [.int .i64 y, .int .i64 z, .int .i64 (1 + x3), .int .i64 x4, .int .i64 (1 + x5)]) := ⟨⟨_, _, _, _, _⟩, rfl, hs5.put (by have := h.ext.size; omega) (by omega) _ _, hO5.putNew (Nat.le_refl _) _ _⟩
    have HF := hide hf
    clear hf hs5 hO5 hR5 hs1 hs3 hs4 hR1 hO1
    go_wp2_with fail
    refine bodyPost_ret (v := .agg #[.int .i64 y, .int .i64 z, .int .i64 (1 + x3), .int .i64 x4, .int .i64 (1 + x5)]) (by simp [results, Tryz.results289, go_sem, q0, q1, q2, q3, q4]) rfl ?_
    exact HF.out
end
end Go.Proofs.YtpgbmhpddgjccaaGreat

namespace Go.Proofs.YtpgbmhpddgjccaaGreat
open Go.RowKit
theorem node_one' (y : Node) : ∀ u ∈ y.cells, u.oneCell' = true := by intro u hu; simp [Node.cells] at hu; rcases hu with rfl | rfl | rfl <;> rfl
theorem pipe_one' (y : Pipe) : ∀ u ∈ y.cells, u.oneCell' = true := by intro u hu; simp [Pipe.cells] at hu; rcases hu with rfl | rfl | rfl | rfl | rfl <;> rfl
theorem new_one {α : Type} {size : Nat} {f : α → List Value} (hf : ∀ x, (f x).length = size) (W : World) (t : TypeId) (x : α) : SliceOf (W.alloc (.cells (f x).toArray t)) size f (some ⟨W.heap.size, 0, none⟩) 1 1 [x] := by
  have h : RowOf (W.alloc (.cells (f x).toArray t)) W.heap.size t f [x] := by
    have h0 := Row.new W t (f x)
    unfold RowOf
    rw [List.flatMap_cons, List.flatMap_nil, List.append_nil]
    exact h0
  exact h.slice hf rfl (by omega)
def Short (ns : List Node) : Prop := ∀ x ∈ ns, x.name.size ≤ 100
theorem Short.snoc {ns : List Node} (h : Short ns) {x : Node} (hx : x.name.size ≤ 100) : Short (ns ++ [x]) := by
  intro y hy
  rcases List.mem_append.1 hy with hy | hy
  · exact h y hy
  · obtain rfl := List.mem_singleton.1 hy; exact hx
/-- a network that is being drawn; its result's block is w's first new one -/
structure NSt (w0 w : World) (a : Nat) (A : Option Addr) (n c : Nat) (v1 v2 : Value) (ns : List Node) (ps : List Pipe) (wr : World) : Prop where
  lt : a < w.heap.size
  src : Src w0 wr a A n c
  only : Only a w wr
  res : Row wr w.heap.size 45 [.slice none 0 0, .slice none 0 0]
  o1 : OwnL wr (w.heap.size + 1) 210 3 Node.cells v1 ns
  o2 : OwnL wr (w.heap.size + 1) 174 5 Pipe.cells v2 ps
  nm : Short ns
/-- a network that was drawn -/
def DrawnNet (w0 : World) (a : Nat) (A : Option Addr) (n c : Nat) (w : World) (e : Ending) (w' : World) : Prop :=
  ∃ (v1 v2 : Value) (ns : List Node) (ps : List Pipe), e = .returned (.agg #[v1, v2]) ∧ Src w0 w' a A n c ∧ Only a w w' ∧ OwnL w' (w.heap.size + 1) 210 3 Node.cells v1 ns ∧ OwnL w' (w.heap.size + 1) 174 5 Pipe.cells v2 ps ∧ 1 ≤ ns.length ∧ ns.length ≤ 7 ∧ ps.length ≤ 12 ∧ Short ns
section
variable {w0 w wr wr' : World} {a n c : Nat} {A : Option Addr} {v1 v2 v' : Value} {ns : List Node} {ps : List Pipe}
theorem OwnL.onlyA {α : Type} {base g : Nat} {e : TypeId} {size : Nat} {f : α → List Value} {v : Value} {L : List α} (h : OwnL w base e size f v L) (hx : Only g w wr) (hg : g < base) : OwnL wr base e size f v L := h.only hx hg
theorem NSt.draw (h : NSt w0 w a A n c v1 v2 ns ps wr) (hs : Src w0 wr' a A n c) (ho : Only a wr wr') : NSt w0 w a A n c v1 v2 ns ps wr' :=
  have hl := h.lt
  ⟨h.lt, hs, h.only.trans ho, h.res.only ho (by omega), h.o1.only ho (by omega), h.o2.only ho (by omega), h.nm⟩
theorem NSt.more (h : NSt w0 w a A n c v1 v2 ns ps wr) (hx : Ext wr wr') : NSt w0 w a A n c v1 v2 ns ps wr' := h.draw (h.src.more hx) (Only.of_ext hx a)
theorem NSt.app1 (h : NSt w0 w a A n c v1 v2 ns ps wr) (hg : wr.grownBy wr' v1.ownBlock) {ns' : List Node} (ho : OwnL wr' (w.heap.size + 1) 210 3 Node.cells v' ns') (hn : Short ns') : NSt w0 w a A n c v' v2 ns' ps wr' := by
  have hl := h.lt
  have hle := h.src.le0
  have hb := fun k (hk : v1.ownBlock = some k) => h.o1.block_le hk
  refine ⟨h.lt, h.src.grow hg (fun k hk => by have := hb k hk; omega), h.only.grown hg (fun k hk => .inl (by have := hb k hk; omega)), h.res.grown hg (fun e => by have := hb _ e; omega), ho, h.o2.grown hg (fun k hk => ?_), hn⟩
  exact fun e => OwnL.apart h.o1 h.o2 (by decide) k hk e
theorem NSt.app2 (h : NSt w0 w a A n c v1 v2 ns ps wr) (hg : wr.grownBy wr' v2.ownBlock) {ps' : List Pipe} (ho : OwnL wr' (w.heap.size + 1) 174 5 Pipe.cells v' ps') : NSt w0 w a A n c v1 v' ns ps' wr' := by
  have hl := h.lt
  have hle := h.src.le0
  have hb := fun k (hk : v2.ownBlock = some k) => h.o2.block_le hk
  refine ⟨h.lt, h.src.grow hg (fun k hk => by have := hb k hk; omega), h.only.grown hg (fun k hk => .inl (by have := hb k hk; omega)), h.res.grown hg (fun e => by have := hb _ e; omega), h.o1.grown hg (fun k hk => ?_), ho, h.nm⟩
  exact fun e => OwnL.apart h.o2 h.o1 (by decide) k hk e
theorem NSt.fin (h : NSt w0 w a A n c v1 v2 ns ps wr) (h1 : 1 ≤ ns.length) (h2 : ns.length ≤ 7) (h3 : ps.length ≤ 12) :
    DrawnNet w0 a A n c w (.returned (.agg #[v1, v2])) (putCells wr w.heap.size 0 [v1, v2]) := by
  have hl := h.lt
  have hle := h.src.le0
  exact ⟨v1, v2, ns, ps, rfl, h.src.put (by omega) (by omega) _ _, h.only.putNew (Nat.le_refl _) _ _, h.o1.put h.res (by decide) _ _, h.o2.put h.res (by decide) _ _, h1, h2, h3, h.nm⟩
set_option maxHeartbeats 2000000 in
theorem c_l02Draw (h : Src w0 w a A n c) :
    Calls Tryz.prog 288 #[.pointer (some ⟨a, 0, none⟩)] w (DrawnNet w0 a A n c w) := by
  have hal := h.lt
  have hle := h.le0
  have hR := Row.new w 45 [.slice none 0 0, .slice none 0 0]
  go_enter Tryz.func288, Tryz.ntmps288
  go_wp2_with fail
  refine (c_next 7 (h.more (Ext.alloc _ _)) (by omega) (by omega)).mono ?_
  rintro e w1 ⟨x1, rfl, hx1, hx1', hs1, ho1⟩
  obtain ⟨q, rfl⟩ := Int.eq_ofNat_of_zero_le hx1
  have hq : q ≤ 6 := by omega
  have hz1 := ho1.size
  simp at hz1
  have hD1 : NSt w0 w a A n c (.slice (some ⟨w1.heap.size, 0, none⟩) 0 0) (.slice (some ⟨w1.heap.size + 1, 0, none⟩) 0 0) [] [] ((w1.alloc (.cells #[] 210)).alloc (.cells #[] 174)) := by
    refine ⟨hal, (hs1.more (Ext.alloc _ _)).more (Ext.alloc _ _), ((((Only.of_ext (Ext.alloc w _) a).trans ho1).trans (Only.of_ext (Ext.alloc _ _) a)).trans (Only.of_ext (Ext.alloc _ _) a)), ((hR.only ho1 (by omega)).ext (Ext.alloc _ _)).ext (Ext.alloc _ _), (OwnL.empty w1 _ _ _ _ (by omega)).ext (Ext.alloc _ _), ?_, by intro x hx; cases hx⟩
    have h2 := OwnL.empty (w1.alloc (.cells #[] 210)) (w.heap.size + 1) 174 5 Pipe.cells (by simp; omega)
    rw [World.size_alloc] at h2
    exact h2
  clear hR hs1 ho1
  have e1 : (1 : Int) + (q : Int) = ((q + 1 : Nat) : Int) := by omega
  go_wp2_with fail
  go_loopw [4, 5, 6] (fun u1 u2 i wr => ∃ (k : Nat) (ns : List Node) (ps : List Pipe), k ≤ q + 1 ∧ i = .int .i64 k ∧ ns.length = k ∧ ps.length ≤ k ∧ NSt w0 w a A n c u1 u2 ns ps wr) (fun _ _ i _ => q + 1 - (intOf i).toNat)
  case atStart => exact ⟨0, [], [], Nat.zero_le _, rfl, rfl, Nat.le_refl _, hD1⟩
  case round =>
    obtain ⟨k, ns, ps, hk, rfl, hns, hps, hD⟩ := hrel
    clear hD1
    have hszr := hD.res.lt
    by_cases hlt : k < q + 1
    · have d1 : decide ((k : Int) < (q : Int) + 1) = true := decide_eq_true (by omega)
      go_wp2_with fail
      refine (c_l02DrawNode k (by omega) hD.src).mono ?_
      rintro e w2 ⟨x, rfl, hxn, hs2, ho2⟩
      have hD2 := hD.draw hs2 ho2
      have hsz2 := hD2.res.lt
      clear hD hs2 ho2
      go_wp2_with (at_builtin; go_must (refine wpList_append_grow rfl _ _ 42 rfl (w.heap.size + 1) 210 _ 3 32 Tryz.underlying42 node_info rfl (by decide) Node.cells node_len node_one' _ _ rfl (hD2.o1.ext (Ext.alloc _ _)) _ 1 1 [x] rfl (new_one node_len w2 210 x) (by simp; omega) (by omega) (by first | exact Nat.le_refl _ | omega | (simp; done) | (simp; omega)) ?_))
      intro v3 w3 hown3 hg3
      have hD3 := (hD2.more (Ext.alloc w2 (.cells #[.string x.name, .int .i64 x.low, .int .i64 x.high] 210))).app1 hg3 hown3 (hD2.nm.snoc hxn)
      clear hD2 hown3 hg3
      by_cases h0 : k = 0
      · subst h0
        go_wp2_with fail
        go_roundw
        case rel => exact ⟨1, _, _, by omega, by go_num, by rw [List.length_append, hns]; rfl, by omega, hD3⟩
        case measure => simp [intOf]
      · have d2 : decide ((0 : Int) < (k : Int)) = true := decide_eq_true (by omega)
        go_wp2_with fail
        refine (c_next 16 hD3.src (by omega) (by omega)).mono ?_
        rintro e w4 ⟨x4, rfl, hx4, hx4', hs4, ho4⟩
        have hD4 := hD3.draw hs4 ho4
        clear hD3 hs4 ho4
        by_cases h4 : 0 < x4
        · have d4 : decide (0 < x4) = true := decide_eq_true h4
          go_wp2_with fail
          refine (c_next (k : Int) hD4.src (by omega) (by omega)).mono ?_
          rintro e w5 ⟨x5, rfl, hx5, hx5', hs5, ho5⟩
          have hD5 := hD4.draw hs5 ho5
          clear hD4 hs5 ho5
          go_wp2_with fail
          refine (c_l02DrawPipe x5 k hD5.src).mono ?_
          rintro e w6 ⟨p, rfl, hs6, ho6⟩
          have hD6 := hD5.draw hs6 ho6
          have hsz6 := hD6.res.lt
          clear hD5 hs6 ho6
          go_wp2_with (at_builtin; go_must (refine wpList_append_grow rfl _ _ 43 rfl (w.heap.size + 1) 174 _ 5 40 Tryz.underlying43 pipe_info rfl (by decide) Pipe.cells pipe_len pipe_one' _ _ rfl (hD6.o2.ext (Ext.alloc _ _)) _ 1 1 [p] rfl (new_one pipe_len w6 174 p) (by simp; omega) (by omega) (by first | exact Nat.le_refl _ | omega | (simp; done) | (simp; omega)) ?_))
          intro v7 w7 hown7 hg7
          have hD7 := (hD6.more (Ext.alloc w6 (.cells #[.int .i64 p.src, .int .i64 p.dst, .int .i64 p.k, .int .i64 p.volume, .int .i64 p.limit] 174))).app2 hg7 hown7
          clear hD6 hown7 hg7
          go_wp2_with fail
          go_roundw
          case rel => exact ⟨k + 1, _, _, by omega, by go_num, by simp; omega, by simp; omega, hD7⟩
          case measure => simp [intOf]; omega
        · have d4 : decide (0 < x4) = false := decide_eq_false h4
          go_wp2_with fail
          go_roundw
          case rel => exact ⟨k + 1, _, _, by omega, by go_num, by simp; omega, by omega, hD4⟩
          case measure => simp [intOf]; omega
    · obtain rfl : k = q + 1 := by omega
      have d1 : decide (((q + 1 : Nat) : Int) < (q : Int) + 1) = false := decide_eq_false (by omega)
      go_wp2_with fail
      refine (c_next 3 hD.src (by omega) (by omega)).mono ?_
      rintro e w2 ⟨x2, rfl, hx2, hx2', hs2, ho2⟩
      have hD2 := hD.draw hs2 ho2
      clear hD hs2 ho2
      go_wp2_with fail
      go_loopw [5, 7] (fun u2 i wr => ∃ (j : Nat) (ps : List Pipe), j ≤ 2 ∧ i = .int .i64 j ∧ ps.length + j ≤ 9 ∧ NSt w0 w a A n c u4 u2 ns ps wr) (fun _ i _ => (intOf i).toNat)
      case atStart =>
        refine ⟨x2.toNat, ps, by omega, by rw [Int.toNat_of_nonneg hx2], by omega, hD2⟩
      case round =>
        obtain ⟨j, ps, hj, rfl, hps, hD⟩ := hrel
        clear hD2
        have hszr := hD.res.lt
        by_cases hgo : 0 < j ∧ 1 ≤ q
        · obtain ⟨hj0, hq1⟩ := hgo
          have d2 : decide ((0 : Int) < (j : Int)) = true := decide_eq_true (by omega)
          have d3 : decide ((1 : Int) < (q : Int) + 1) = true := decide_eq_true (by omega)
          go_wp2_with fail
          refine (c_next ((q : Int) + 1) hD.src (by omega) (by omega)).mono ?_
          rintro e w3 ⟨x3, rfl, hx3, hx3', hs3, ho3⟩
          have hD3 := hD.draw hs3 ho3
          clear hD hs3 ho3
          have e2 : IntKind.i64.wrap ((q : Int) + 1 - 1) = (q : Int) := by rw [IntWalk.i64_in _ (by omega)]; omega
          go_wp2_with fail
          refine (c_next _ hD3.src (by omega) (by omega)).mono ?_
          rintro e w4 ⟨x4, rfl, hx4, hx4', hs4, ho4⟩
          have hD4 := hD3.draw hs4 ho4
          clear hD3 hs4 ho4
          go_wp2_with fail
          refine (c_l02DrawPipe _ _ hD4.src).mono ?_
          rintro e w6 ⟨p, rfl, hs6, ho6⟩
          have hD6 := hD4.draw hs6 ho6
          have hsz6 := hD6.res.lt
          clear hD4 hs6 ho6
          go_wp2_with (at_builtin; go_must (refine wpList_append_grow rfl _ _ 43 rfl (w.heap.size + 1) 174 _ 5 40 Tryz.underlying43 pipe_info rfl (by decide) Pipe.cells pipe_len pipe_one' _ _ rfl (hD6.o2.ext (Ext.alloc _ _)) _ 1 1 [p] rfl (new_one pipe_len w6 174 p) (by simp; omega) (by omega) (by first | exact Nat.le_refl _ | omega | (simp; done) | (simp; omega)) ?_))
          intro v7 w7 hown7 hg7
          have hD7 := (hD6.more (Ext.alloc w6 (.cells #[.int .i64 p.src, .int .i64 p.dst, .int .i64 p.k, .int .i64 p.volume, .int .i64 p.limit] 174))).app2 hg7 hown7
          clear hD6 hown7 hg7
          go_wp2_with fail
          go_roundw
          case rel => exact ⟨j - 1, _, by omega, by go_num, by simp; omega, hD7⟩
          case measure => simp [intOf]; omega
        · obtain ⟨A1, c1, e4, _, _⟩ := hD.o1.form
          rw [hns] at e4
          subst e4
          obtain ⟨A2, c2, rfl, _, _⟩ := hD.o2.form
          have hF := hide (hD.fin (by omega) (by omega) (by omega))
          have r0 := hD.res.cell 0
          have r1 := hD.res.cell 1
          simp at r0 r1
          have f0 := hD.res.frozen 0
          have f1 := hD.res.frozen 1
          clear hD
          by_cases hj0 : j = 0
          · subst hj0
            go_wp2_with fail
            refine bodyPost_ret (v := .agg #[.slice A1 (q + 1) c1, .slice A2 ps.length c2]) (by simp [results, Tryz.results288, go_sem, r0, r1]) rfl ?_
            exact hF.out
          · have d2 : decide ((0 : Int) < (j : Int)) = true := decide_eq_true (by omega)
            have d3 : decide ((1 : Int) < (q : Int) + 1) = false := decide_eq_false (by omega)
            go_wp2_with fail
            refine bodyPost_ret (v := .agg #[.slice A1 (q + 1) c1, .slice A2 ps.length c2]) (by simp [results, Tryz.results288, go_sem, r0, r1]) rfl ?_
            exact hF.out
end
end Go.Proofs.YtpgbmhpddgjccaaGreat
