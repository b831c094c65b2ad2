
/-
  ToleranceFor, ExcessOf, checkBalance of the program and of the reference.
-/
import Derived.Test.YtbkmnoedhilopaaTermsP
import Derived.Test.YtbkmnoedhilopaaTermsC
namespace Go.Proofs.Ytbkmnoedhilopaa
open Go.RowKit
def Ret2 (r : Int × Int) (w : World) (e : Ending) (w' : World) : Prop := e = .returned (.tuple #[.int .i64 r.1, .int .i64 r.2]) ∧ Ext w w'
theorem Ret2.of {r : Int × Int} {a b : Int} {w w' : World} (h : r = (a, b)) (hx : Ext w w') : Ret2 r w (.returned (.tuple #[.int .i64 a, .int .i64 b])) w' := by subst h; exact ⟨rfl, hx⟩
def Ret3 (r : Int × Int × Int) (w : World) (e : Ending) (w' : World) : Prop := e = .returned (.tuple #[.int .i64 r.1, .int .i64 r.2.1, .int .i64 r.2.2]) ∧ Ext w w'
theorem Ret3.of {r : Int × Int × Int} {a b c : Int} {w w' : World} (h : r = (a, b, c)) (hx : Ext w w') : Ret3 r w (.returned (.tuple #[.int .i64 a, .int .i64 b, .int .i64 c])) w' := by subst h; exact ⟨rfl, hx⟩


theorem c_ToleranceFor (band percent price thr : Int) (A : Option Addr) (n c : Nat) (ts : List Tier) (w : World) (hs : SliceOf w 2 Tier.cells A n c ts) :
    Calls Try.prog 19 #[.agg #[.int .i64 band, .int .i64 percent, .int .i64 price, .slice A n c], .int .i64 thr] w (Ret2 (tolR band percent price ts thr) w) := by
  cases hT : isTermsB band percent price ts
  · have HR := hide (show tolR band percent price ts thr = (0, 1) by simp [tolR, hT])
    go_enter Try.func19, Try.ntmps19
    go_wp2_with fail
    refine (c_isTerms band percent price A n c ts _ (hs.ext (Ext.alloc _ _))).mono ?_
    rw [hT]
    rintro e w1 ⟨rfl, hx1⟩
    have hcl1 := hx1.cell
    go_wp2_with fail
    go_ret2
    exact Ret2.of HR.out hx1.box
  · have V := valid_of hT
    cases hi : inB thr 0 1000000000
    · have HR := hide (show tolR band percent price ts thr = (0, 2) by simp [tolR, hT, hi])
      go_enter Try.func19, Try.ntmps19
      go_wp2_with fail
      refine (c_isTerms band percent price A n c ts _ (hs.ext (Ext.alloc _ _))).mono ?_
      rw [hT]
      rintro e w1 ⟨rfl, hx1⟩
      have hcl1 := hx1.cell
      go_wp2_with (go_at_call 40; refine (c_within _ _ _ _).mono ?_; rintro e w' ⟨rfl, rfl⟩)
      go_ret2
      exact Ret2.of HR.out hx1.box
    · have HR := hide (show tolR band percent price ts thr = (tolF band percent thr, 0) by simp [tolR, hT, hi])
      obtain ⟨i0, i1⟩ := inB_true.1 hi
      go_enter Try.func19, Try.ntmps19
      go_wp2_with fail
      refine (c_isTerms band percent price A n c ts _ (hs.ext (Ext.alloc _ _))).mono ?_
      rw [hT]
      rintro e w1 ⟨rfl, hx1⟩
      have hcl1 := hx1.cell
      go_wp2_with (first | (go_at_call 40; refine (c_within _ _ _ _).mono ?_; rintro e w' ⟨rfl, rfl⟩) | (go_at_call 44; refine (c_toleranceFor band percent price thr A n c _ V.per0 V.per1 i0 i1).mono ?_; rintro e w2 ⟨rfl, hx2⟩))
      go_ret2
      exact Ret2.of HR.out (hx1.trans hx2).box

theorem c_specToleranceFor (band percent price thr : Int) (A : Option Addr) (n c : Nat) (ts : List Tier) (w : World) (hs : SliceOf w 2 Tier.cells A n c ts) :
    Calls Try.prog 18 #[.agg #[.int .i64 band, .int .i64 percent, .int .i64 price, .slice A n c], .int .i64 thr] w (Ret2 (tolR band percent price ts thr) w) := by
  cases hT : isTermsB band percent price ts
  · have HR := hide (show tolR band percent price ts thr = (0, 1) by simp [tolR, hT])
    go_enter Try.func18, Try.ntmps18
    go_wp2_with fail
    refine (c_specIsTerms band percent price A n c ts _ (hs.ext (Ext.alloc _ _))).mono ?_
    rw [hT]
    rintro e w1 ⟨rfl, hx1⟩
    have hcl1 := hx1.cell
    go_wp2_with fail
    go_ret2
    exact Ret2.of HR.out hx1.box
  · have V := valid_of hT
    cases hi : inB thr 0 1000000000
    · have HR := hide (show tolR band percent price ts thr = (0, 2) by simp [tolR, hT, hi])
      go_enter Try.func18, Try.ntmps18
      go_wp2_with fail
      refine (c_specIsTerms band percent price A n c ts _ (hs.ext (Ext.alloc _ _))).mono ?_
      rw [hT]
      rintro e w1 ⟨rfl, hx1⟩
      have hcl1 := hx1.cell
      go_wp2_with (go_at_call 42; refine (c_l29Through _ _).mono ?_; rintro e w' ⟨rfl, rfl⟩)
      go_ret2
      exact Ret2.of HR.out hx1.box
    · have HR := hide (show tolR band percent price ts thr = (tolF band percent thr, 0) by simp [tolR, hT, hi])
      obtain ⟨i0, i1⟩ := inB_true.1 hi
      go_enter Try.func18, Try.ntmps18
      go_wp2_with fail
      refine (c_specIsTerms band percent price A n c ts _ (hs.ext (Ext.alloc _ _))).mono ?_
      rw [hT]
      rintro e w1 ⟨rfl, hx1⟩
      have hcl1 := hx1.cell
      go_wp2_with (first | (go_at_call 42; refine (c_l29Through _ _).mono ?_; rintro e w' ⟨rfl, rfl⟩) | (go_at_call 43; refine (c_l29Tolerance band percent price thr A n c _ V.per0 V.per1 i0 i1).mono ?_; rintro e w2 ⟨rfl, hx2⟩))
      go_ret2
      exact Ret2.of HR.out (hx1.trans hx2).box

/-- the code of terms, a balance and a throughput -/
def balC (band percent price : Int) (ts : List Tier) (bal thr : Int) : Int :=
  if isTermsB band percent price ts = false then 1 else if inB bal (-1000000000) 1000000000 = false then 2 else if inB thr 0 1000000000 = false then 2 else 0
theorem c_checkBalance (band percent price bal thr : Int) (A : Option Addr) (n c : Nat) (ts : List Tier) (w : World) (hs : SliceOf w 2 Tier.cells A n c ts) :
    Calls Try.prog 49 #[.agg #[.int .i64 band, .int .i64 percent, .int .i64 price, .slice A n c], .int .i64 bal, .int .i64 thr] w (Ret (.int .i64 (balC band percent price ts bal thr)) w) := by
  cases hT : isTermsB band percent price ts
  · have HR := hide (show balC band percent price ts bal thr = 1 by simp [balC, hT])
    go_enter Try.func49, Try.ntmps49
    go_wp2_with fail
    refine (c_isTerms band percent price A n c ts _ (hs.ext (Ext.alloc _ _))).mono ?_
    rw [hT]
    rintro e w1 ⟨rfl, hx1⟩
    have hcl1 := hx1.cell
    go_wp2_with fail
    go_ret
    exact Ret.int HR.out hx1.box
  · have hw : inB bal (-1000000000) 1000000000 = false ∨ (inB bal (-1000000000) 1000000000 = true ∧ inB thr 0 1000000000 = false) ∨ (inB bal (-1000000000) 1000000000 = true ∧ inB thr 0 1000000000 = true) := by
      cases inB bal (-1000000000) 1000000000 <;> cases inB thr 0 1000000000 <;> simp
    rcases hw with h1 | ⟨h1, h2⟩ | ⟨h1, h2⟩
    · have HR := hide (show balC band percent price ts bal thr = 2 by simp [balC, hT, h1])
      go_enter Try.func49, Try.ntmps49
      go_wp2_with fail
      refine (c_isTerms band percent price A n c ts _ (hs.ext (Ext.alloc _ _))).mono ?_
      rw [hT]
      rintro e w1 ⟨rfl, hx1⟩
      have hcl1 := hx1.cell
      go_wp2_with (go_at_call 40; refine (c_within _ _ _ _).mono ?_; rintro e w' ⟨rfl, rfl⟩)
      go_ret
      exact Ret.int HR.out hx1.box
    · have HR := hide (show balC band percent price ts bal thr = 2 by simp [balC, hT, h1, h2])
      go_enter Try.func49, Try.ntmps49
      go_wp2_with fail
      refine (c_isTerms band percent price A n c ts _ (hs.ext (Ext.alloc _ _))).mono ?_
      rw [hT]
      rintro e w1 ⟨rfl, hx1⟩
      have hcl1 := hx1.cell
      go_wp2_with (go_at_call 40; refine (c_within _ _ _ _).mono ?_; rintro e w' ⟨rfl, rfl⟩)
      go_ret
      exact Ret.int HR.out hx1.box
    · have HR := hide (show balC band percent price ts bal thr = 0 by simp [balC, hT, h1, h2])
      go_enter Try.func49, Try.ntmps49
      go_wp2_with fail
      refine (c_isTerms band percent price A n c ts _ (hs.ext (Ext.alloc _ _))).mono ?_
      rw [hT]
      rintro e w1 ⟨rfl, hx1⟩
      have hcl1 := hx1.cell
      go_wp2_with (go_at_call 40; refine (c_within _ _ _ _).mono ?_; rintro e w' ⟨rfl, rfl⟩)
      go_ret
      exact Ret.int HR.out hx1.box

theorem c_ExcessOf (band percent price bal thr : Int) (A : Option Addr) (n c : Nat) (ts : List Tier) (w : World) (hs : SliceOf w 2 Tier.cells A n c ts) :
    Calls Try.prog 25 #[.agg #[.int .i64 band, .int .i64 percent, .int .i64 price, .slice A n c], .int .i64 bal, .int .i64 thr] w (Ret2 (excR band percent price ts bal thr) w) := by
  have h0 : balC band percent price ts bal thr = 1 ∧ excR band percent price ts bal thr = (0, 1) ∨ balC band percent price ts bal thr = 2 ∧ excR band percent price ts bal thr = (0, 2) ∨
      balC band percent price ts bal thr = 0 ∧ excR band percent price ts bal thr = (excF band percent bal thr, 0) ∧ isTermsB band percent price ts = true ∧ inB bal (-1000000000) 1000000000 = true ∧ inB thr 0 1000000000 = true := by
    unfold balC excR
    cases isTermsB band percent price ts <;> cases inB bal (-1000000000) 1000000000 <;> cases inB thr 0 1000000000 <;> simp
  rcases h0 with ⟨hc, hr⟩ | ⟨hc, hr⟩ | ⟨hc, hr, hT, h1, h2⟩
  · have HR := hide hr
    clear hr
    go_enter Try.func25, Try.ntmps25
    go_wp2_with fail
    refine (c_checkBalance band percent price bal thr A n c ts _ (hs.ext (Ext.alloc _ _))).mono ?_
    rw [hc]
    rintro e w1 ⟨rfl, hx1⟩
    go_wp2_with fail
    go_ret2
    exact Ret2.of HR.out hx1.box
  · have HR := hide hr
    clear hr
    go_enter Try.func25, Try.ntmps25
    go_wp2_with fail
    refine (c_checkBalance band percent price bal thr A n c ts _ (hs.ext (Ext.alloc _ _))).mono ?_
    rw [hc]
    rintro e w1 ⟨rfl, hx1⟩
    go_wp2_with fail
    go_ret2
    exact Ret2.of HR.out hx1.box
  · have HR := hide hr
    clear hr
    have V := valid_of hT
    obtain ⟨i0, i1⟩ := inB_true.1 h1
    obtain ⟨j0, j1⟩ := inB_true.1 h2
    go_enter Try.func25, Try.ntmps25
    go_wp2_with fail
    refine (c_checkBalance band percent price bal thr A n c ts _ (hs.ext (Ext.alloc _ _))).mono ?_
    rw [hc]
    rintro e w1 ⟨rfl, hx1⟩
    have hcl1 := hx1.cell
    go_wp2_with fail
    refine (c_excessOf band percent price bal thr A n c _ V.band0 V.band1 V.per0 V.per1 j0 j1 (by omega) (by omega)).mono ?_
    rintro e w2 ⟨rfl, hx2⟩
    go_wp2_with fail
    go_ret2
    exact Ret2.of HR.out (hx1.trans hx2).box

theorem c_specExcessOf (band percent price bal thr : Int) (A : Option Addr) (n c : Nat) (ts : List Tier) (w : World) (hs : SliceOf w 2 Tier.cells A n c ts) :
    Calls Try.prog 24 #[.agg #[.int .i64 band, .int .i64 percent, .int .i64 price, .slice A n c], .int .i64 bal, .int .i64 thr] w (Ret2 (excR band percent price ts bal thr) w) := by
  cases hT : isTermsB band percent price ts
  · have HR := hide (show excR band percent price ts bal thr = (0, 1) by simp [excR, hT])
    go_enter Try.func24, Try.ntmps24
    go_wp2_with fail
    refine (c_specIsTerms band percent price A n c ts _ (hs.ext (Ext.alloc _ _))).mono ?_
    rw [hT]
    rintro e w1 ⟨rfl, hx1⟩
    have hcl1 := hx1.cell
    go_wp2_with fail
    go_ret2
    exact Ret2.of HR.out hx1.box
  · have V := valid_of hT
    have hw : inB bal (-1000000000) 1000000000 = false ∨ (inB bal (-1000000000) 1000000000 = true ∧ inB thr 0 1000000000 = false) ∨ (inB bal (-1000000000) 1000000000 = true ∧ inB thr 0 1000000000 = true) := by
      cases inB bal (-1000000000) 1000000000 <;> cases inB thr 0 1000000000 <;> simp
    rcases hw with h1 | ⟨h1, h2⟩ | ⟨h1, h2⟩
    · have HR := hide (show excR band percent price ts bal thr = (0, 2) by simp [excR, hT, h1])
      go_enter Try.func24, Try.ntmps24
      go_wp2_with fail
      refine (c_specIsTerms band percent price A n c ts _ (hs.ext (Ext.alloc _ _))).mono ?_
      rw [hT]
      rintro e w1 ⟨rfl, hx1⟩
      have hcl1 := hx1.cell
      go_wp2_with (first | (go_at_call 47; refine (c_l29Balance _ _).mono ?_; rintro e w' ⟨rfl, rfl⟩) | (go_at_call 42; refine (c_l29Through _ _).mono ?_; rintro e w' ⟨rfl, rfl⟩))
      go_ret2
      exact Ret2.of HR.out hx1.box
    · have HR := hide (show excR band percent price ts bal thr = (0, 2) by simp [excR, hT, h1, h2])
      go_enter Try.func24, Try.ntmps24
      go_wp2_with fail
      refine (c_specIsTerms band percent price A n c ts _ (hs.ext (Ext.alloc _ _))).mono ?_
      rw [hT]
      rintro e w1 ⟨rfl, hx1⟩
      have hcl1 := hx1.cell
      go_wp2_with (first | (go_at_call 47; refine (c_l29Balance _ _).mono ?_; rintro e w' ⟨rfl, rfl⟩) | (go_at_call 42; refine (c_l29Through _ _).mono ?_; rintro e w' ⟨rfl, rfl⟩))
      go_ret2
      exact Ret2.of HR.out hx1.box
    · have HR := hide (show excR band percent price ts bal thr = (excF band percent bal thr, 0) by simp [excR, hT, h1, h2])
      obtain ⟨i0, i1⟩ := inB_true.1 h1
      obtain ⟨j0, j1⟩ := inB_true.1 h2
      go_enter Try.func24, Try.ntmps24
      go_wp2_with fail
      refine (c_specIsTerms band percent price A n c ts _ (hs.ext (Ext.alloc _ _))).mono ?_
      rw [hT]
      rintro e w1 ⟨rfl, hx1⟩
      have hcl1 := hx1.cell
      go_wp2_with (first | (go_at_call 47; refine (c_l29Balance _ _).mono ?_; rintro e w' ⟨rfl, rfl⟩) | (go_at_call 42; refine (c_l29Through _ _).mono ?_; rintro e w' ⟨rfl, rfl⟩) | (go_at_call 48; refine (c_l29Excess band percent price bal thr A n c _ V.band0 V.band1 V.per0 V.per1 j0 j1 (by omega) (by omega)).mono ?_; rintro e w2 ⟨rfl, hx2⟩))
      go_ret2
      exact Ret2.of HR.out (hx1.trans hx2).box

end Go.Proofs.Ytbkmnoedhilopaa
