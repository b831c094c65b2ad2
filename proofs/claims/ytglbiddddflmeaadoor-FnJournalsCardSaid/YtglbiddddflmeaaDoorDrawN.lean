

/-
  The reference's draw of a journal's text.
-/
import Derived.Test.YtglbiddddflmeaaDoorDrawM
import Derived.Test.YtglbiddddflmeaaDoorJovD
import Derived.Lib.ItoaMem
namespace Go.Proofs.YtglbiddddflmeaaDoor
open Go.RowKit
open Go.Lib hiding intOf
theorem textL_len : ∀ (es : List Event) (x : Int), (∀ e ∈ es, evB e = true) → 0 ≤ x → x < 99991 → (textL es x).length ≤ 49 * es.length
  | [], _, _, _, _ => by simp [textL]
  | e :: es, x, h, h0, h1 => by
    have hs := sumE_bound e x h0 h1
    have ih := textL_len es (sumE e x) (fun f hf => h f (by simp [hf])) hs.1 hs.2
    have hl := lineL_small e x (h e (by simp)) h0 h1
    simp only [textL, List.length_append, List.length_cons]
    omega
theorem jourR_len (es : List Event) : (jourR es).1.length ≤ 14700 := by
  unfold jourR
  split
  · simp
  · split
    · simp
    · rename_i h1 h2
      have hall : es.all evB = true := by simpa using h2
      have := textL_len es 1 (List.all_eq_true.1 hall) (by omega) (by omega)
      show (textL es 1).length ≤ 14700
      omega
def zerosL (n : Nat) : List UInt8 := List.replicate n 0
set_option maxHeartbeats 1000000 in
set_option maxRecDepth 8000 in
theorem c_l32DrawText (a : Nat) (A : Option Addr) (n c : Nat) (bs : List Int) (w0 w : World) (hbs : SliceOf w0 1 byteC A n c bs) (hbd : ∀ z ∈ bs, 0 ≤ z ∧ z ≤ 255) (hx0 : Ext w0 w) (ha : w0.heap.size ≤ a) (hsrc : SrcAt w a A n c) (hn : n ≤ 1048576) :
    Calls Tryd.prog 51 #[.pointer (some ⟨a, 0, none⟩)] w (DrawnTxt 20001 a A n c w) := by
  have nxt := fun (m : Int) (w : World) hx0 hsrc => c_l01Next a m A n c bs w0 w hbs hbd hx0 ha hsrc hn
  have NX := hide nxt
  clear nxt
  go_enter Tryd.func51, Tryd.ntmps51
  go_wp2_with fail
  refine (c_l32DrawList a A n c bs w0 w hbs hbd hx0 ha hsrc hn).mono ?_
  rintro e w1 ⟨v, es, rfl, hes, ho, hs1, ho1⟩
  obtain ⟨B, d, rfl, hoA, _⟩ := ho.toOwn event_len (by omega)
  have hE1 := hx0.only ho1 ha
  go_wp2_with fail
  refine (c_specJournalOf B es.length d es _ (hoA.slice event_len)).mono ?_
  rintro e w2 ⟨rfl, hx2⟩
  have hE2 := hE1.trans hx2
  have hs2 := hs1.ext hx2
  have hO2 := ho1.trans (Only.of_ext hx2 a)
  have hjl := jourR_len es
  generalize (jourR es).1 = t at *
  generalize (jourR es).2 = cd at *
  clear ho hoA ho1 hs1 hE1 hx2
  have hsz : (mkB t).size = t.length := rfl
  by_cases hc : cd = 0
  · subst hc
    go_wp2_with fail
    refine (NX.out 5 _ hE2 hs2 (by omega) (by omega)).mono ?_
    rintro e w3 ⟨x3, rfl, hx3, hx3', hs3, ho3⟩
    have hE3 := hE2.only ho3 ha
    have hO3 := hO2.trans ho3
    by_cases h0 : x3 = 0
    · subst h0
      go_wp2_with fail
      refine (NX.out ((t.length : Int) + 1) _ hE3 hs3 (by omega) (by omega)).mono ?_
      rintro e w4 ⟨x4, rfl, hx4, hx4', hs4, ho4⟩
      obtain ⟨k, rfl⟩ := Int.eq_ofNat_of_zero_le hx4
      have hk : k ≤ t.length := by omega
      have hcl := cut_low t k
      go_wp2_with fail
      go_ret
      exact ⟨t.take k, rfl, by rw [List.length_take]; omega, hs4, hO3.trans ho4⟩
    · have b0 : (x3 == 0) = false := by rw [beq_eq_false_iff_ne]; exact h0
      by_cases h1 : x3 = 1
      · subst h1
        go_wp2_with fail
        refine (c_l01Damage t (by omega) a A n c bs w0 _ hbs hbd hE3 ha hs3 hn).mono ?_
        rintro e w4 ⟨t', rfl, ht', hs4, ho4⟩
        go_wp2_with fail
        go_ret
        exact ⟨t', rfl, by omega, hs4, hO3.trans ho4⟩
      · have b1 : (x3 == 1) = false := by rw [beq_eq_false_iff_ne]; exact h1
        go_wp2_with fail
        refine (NX.out 60 _ hE3 hs3 (by omega) (by omega)).mono ?_
        rintro e w4 ⟨x4, rfl, hx4, hx4', hs4, ho4⟩
        have hE4 := hE3.only ho4 ha
        have hO4 := hO3.trans ho4
        by_cases h4 : x4 = 0
        · subst h4
          go_wp2_with fail
          refine (NX.out 2 _ hE4 hs4 (by omega) (by omega)).mono ?_
          rintro e w5 ⟨x5, rfl, hx5, hx5', hs5, ho5⟩
          obtain ⟨j, rfl⟩ := Int.eq_ofNat_of_zero_le hx5
          have hmk := run_make_flat (P := Tryd.prog) 44 5 _ _ 1 1 Tryd.underlying44 byte_info (f := bytC) 0 rfl rfl rfl (by omega) (20000 + j) (by omega) (by omega) w5
          rw [show ((20000 + j : Nat) : Int) = 20000 + (j : Int) by omega] at hmk
          have hr : RowOf (w5.alloc (.cells ((List.replicate (20000 + j) (0 : UInt8)).flatMap bytC).toArray 5)) w5.heap.size 5 bytC (zerosL (20000 + j)) := Row.new w5 _ _
          have hcv := run_convert_bytes_back (P := Tryd.prog) (w5.alloc (.cells ((List.replicate (20000 + j) (0 : UInt8)).flatMap bytC).toArray 5)) 44 9 5 ⟨w5.heap.size, 0, none⟩ (20000 + j) (zerosL (20000 + j)) Tryd.underlying44 Tryd.underlying5 Tryd.underlying9 (fun i hi => by
            have := hr.get bytC_len (i := i) (List.getElem?_eq_getElem hi) (j := 0) rfl
            rw [add_plain]
            simpa using this)
          rw [show (zerosL (20000 + j)).length = 20000 + j from List.length_replicate] at hcv
          have hx6 := Ext.alloc w5 (.cells ((List.replicate (20000 + j) (0 : UInt8)).flatMap bytC).toArray 5)
          clear hr
          generalize (w5.alloc (.cells ((List.replicate (20000 + j) (0 : UInt8)).flatMap bytC).toArray 5)) = w6 at *
          go_wp2_with fail
          go_ret
          exact ⟨zerosL (20000 + j), rfl, by simp [zerosL]; omega, hs5.ext hx6, (hO4.trans ho5).trans (Only.of_ext hx6 a)⟩
        · have b4 : (x4 == 0) = false := by rw [beq_eq_false_iff_ne]; exact h4
          go_wp2_with fail
          go_ret
          exact ⟨t, rfl, by omega, hs4, hO4⟩
  · have hcb : (cd != 0) = true := by rw [bne_iff_ne]; exact hc
    go_wp2_with fail
    go_ret
    exact ⟨[99, 108, 111, 115, 101, 32, 49, 32, 48, 32, 48, 32, 48, 32, 53, 10], rfl, by decide, hs2, hO2⟩
end Go.Proofs.YtglbiddddflmeaaDoor
