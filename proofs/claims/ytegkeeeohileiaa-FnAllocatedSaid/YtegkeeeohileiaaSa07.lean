/-
  A source of numbers that is drawn from: the code, the source's block, and what turned. Plain lemmas on texts: a numeral is read as the number that it was written of; words and lines. No function of the program is named here.
-/
import Derived.Test.YtegkeeeohileiaaSa04
import Derived.Test.YtegkeeeohileiaaSa05
import Derived.Test.YtegkeeeohileiaaSa06
import Derived.Lib.ItoaMem
import Derived.Lib.ParseIntBCases
import Derived.Lib.SplitLaws
import Derived.Lib.Join
namespace Go.Proofs.Ytegkeeeohileiaa
open Go.RowKit
/-- a source behind a pointer, with the code that it reads -/
structure Src (w0 w : World) (a : Nat) (A : Option Addr) (n c : Nat) : Prop where
  code : ∃ bs, SliceOf w0 1 byteC A n c bs ∧ ∀ z ∈ bs, 0 ≤ z ∧ z ≤ 255
  hn : n ≤ 1048576
  le0 : w0.heap.size ≤ a
  ext : Ext w0 w
  src : SrcAt w a A n c
section
variable {w0 w w' w'' : World} {a n c : Nat} {A : Option Addr}
theorem Src.lt (h : Src w0 w a A n c) : a < w.heap.size := let ⟨_, _, hr, _⟩ := h.src; hr.lt
theorem Src.more (h : Src w0 w a A n c) (hx : Ext w w') : Src w0 w' a A n c :=
  ⟨h.code, h.hn, h.le0, h.ext.trans hx, let ⟨p, s, hr, r⟩ := h.src; ⟨p, s, hr.ext hx, r⟩⟩
theorem Src.draw (h : Src w0 w a A n c) (ho : Only a w w') (hs : SrcAt w' a A n c) : Src w0 w' a A n c := ⟨h.code, h.hn, h.le0, h.ext.only ho h.le0, hs⟩
theorem Only.grown {g : Nat} {row : Option Nat} (h : Only g w w') (hg : w'.grownBy w'' row) (hr : ∀ k, row = some k → w.heap.size ≤ k ∨ k = g) : Only g w w'' := by
  refine ⟨hg.os.trans h.os, hg.tape.trans h.tape, hg.output.trans h.output, Nat.le_trans h.size hg.size, fun k hk hne => ?_⟩
  refine (hg.block k (Nat.lt_of_lt_of_le hk h.size) (fun e => ?_)).trans (h.block k hk hne)
  rcases hr k e.symm with h1 | h1
  · omega
  · subst h1; exact hne rfl
theorem Row.grown {t : TypeId} {cs : List Value} {g : Nat} {row : Option Nat} (h : Row w g t cs) (hg : w.grownBy w' row) (hr : row ≠ some g) : Row w' g t cs := (hg.block g h.lt (Ne.symm hr)).trans h
theorem Src.grow {row : Option Nat} (h : Src w0 w a A n c) (hg : w.grownBy w' row) (hr : ∀ k, row = some k → w0.heap.size ≤ k ∧ k ≠ a) : Src w0 w' a A n c :=
  ⟨h.code, h.hn, h.le0, h.ext.grown hg (fun k hk => (hr k hk).1), let ⟨p, s, hR, r⟩ := h.src; ⟨p, s, hR.grown hg (fun e => (hr a e).2 rfl), r⟩⟩
theorem Src.set (h : Src w0 w a A n c) {p : Addr} (h0 : w0.heap.size ≤ p.block) (h1 : p.block ≠ a) (u : Value) : Src w0 (w.setCell p u) a A n c :=
  ⟨h.code, h.hn, h.le0, h.ext.setCell h0 u, let ⟨q, s, hR, r⟩ := h.src; ⟨q, s, hR.far (Ne.symm h1) u, r⟩⟩
/-- a number below m (0 where m is 1 or less) -/
def NextN (m : Int) (w0 : World) (a : Nat) (A : Option Addr) (n c : Nat) (w : World) (e : Ending) (w' : World) : Prop :=
  ∃ x : Int, e = .returned (.int .i64 x) ∧ 0 ≤ x ∧ (x < m ∨ x = 0) ∧ Src w0 w' a A n c ∧ Only a w w'
theorem c_next (m : Int) (h : Src w0 w a A n c) (h1 : -9000000000000000000 ≤ m) (h2 : m ≤ 9000000000000000000) :
    Calls Try.prog 29 #[.pointer (some ⟨a, 0, none⟩), .int .i64 m] w (NextN m w0 a A n c w) := by
  obtain ⟨bs, hbs, hbd⟩ := h.code
  refine (c_l01Next a m A n c bs w0 w hbs hbd h.ext h.le0 h.src h.hn h1 h2).mono ?_
  rintro e w' ⟨x, rfl, hx0, hx1, hs, ho⟩
  exact ⟨x, rfl, hx0, hx1, h.draw ho hs, ho⟩
theorem OwnL.apart {α β : Type} {base base' : Nat} {e e' : TypeId} {size size' : Nat} {f : α → List Value} {f' : β → List Value} {v v' : Value} {L : List α} {L' : List β} (h : OwnL w base e size f v L) (h' : OwnL w base' e' size' f' v' L') (hne : e ≠ e') : ∀ k, v'.ownBlock = some k → v.ownBlock ≠ some k := by
  intro k hk hk2
  rcases h.2 with ⟨rfl, _⟩ | ⟨g, cap, cur, rfl, _, hh, _⟩
  · cases hk2
  · rcases h'.2 with ⟨rfl, _⟩ | ⟨g', cap', cur', rfl, _, hh', _⟩
    · cases hk
    · simp [Value.ownBlock] at hk hk2
      subst hk hk2
      rw [hh] at hh'
      simp only [Option.some.injEq, Obj.cells.injEq] at hh'
      exact hne hh'.2.1
theorem OwnL.not_row {α : Type} {base : Nat} {e : TypeId} {size : Nat} {f : α → List Value} {v : Value} {L : List α} {g : Nat} {cs : List Value} {t : TypeId} (h : OwnL w base e size f v L) (hr : Row w g t cs) (ht : t ≠ e) : ∀ k, v.ownBlock = some k → (some g : Option Nat) ≠ some k := by
  intro k hk hg
  simp only [Option.some.injEq] at hg
  subst hg
  rcases h.2 with ⟨rfl, _⟩ | ⟨g', cap, cur, rfl, _, hh, _⟩
  · cases hk
  · simp [Value.ownBlock] at hk
    subst hk
    unfold Row at hr
    rw [hr] at hh
    simp only [Option.some.injEq, Obj.cells.injEq] at hh
    exact ht hh.2.1
theorem OwnL.put {α : Type} {base : Nat} {e : TypeId} {size : Nat} {f : α → List Value} {v : Value} {L : List α} {g : Nat} {cs : List Value} {t : TypeId} (h : OwnL w base e size f v L) (hr : Row w g t cs) (ht : t ≠ e) (o : Nat) (vs : List Value) : OwnL (putCells w g o vs) base e size f v L :=
  h.grown ((Only.refl g w).put o vs) (fun k hk => h.not_row hr ht k hk)
theorem Only.putNew (h : Only a w w') {g : Nat} (hg : w.heap.size ≤ g) (o : Nat) (vs : List Value) : Only a w (putCells w' g o vs) := h.grown ((Only.refl g w').put o vs) (fun k e => by simp at e; omega)
theorem Src.put (h : Src w0 w a A n c) {g : Nat} (h0 : w0.heap.size ≤ g) (h1 : g ≠ a) (o : Nat) (vs : List Value) : Src w0 (putCells w g o vs) a A n c := h.grow ((Only.refl g w).put o vs) (fun k e => by simp at e; omega)
end
end Go.Proofs.Ytegkeeeohileiaa

namespace Go.Proofs.Ytegkeeeohileiaa
open Go.Lib
theorem parseUintM_append (M : Nat) : ∀ (l r : List UInt8) (acc : Nat), parseUintM M acc (l ++ r) = match parseUintM M acc l with | .ok a => parseUintM M a r | .syntax => .syntax | .range => .range
  | [], r, acc => rfl
  | c :: l, r, acc => by
    simp only [List.cons_append, parseUintM]
    split
    · split
      · rfl
      · split
        · rfl
        · exact parseUintM_append M l r _
    · rfl
theorem digit_toNat {d : Nat} (h : d < 10) : (UInt8.ofNat (48 + d)).toNat = 48 + d := by
  rw [UInt8.toNat_ofNat']
  exact Nat.mod_eq_of_lt (by omega)
theorem parse_digits (M : Nat) : ∀ (k u : Nat), u < k → u ≤ M → u < 1844674407370955162 → parseUintM M 0 (decDigits u) = .ok u := by
  intro k
  induction k with
  | zero => intro u h; omega
  | succ k ih =>
    intro u hk hM hu
    by_cases h : u < 10
    · rw [decDigits_one h]
      simp only [parseUintM, digit_toNat h]
      rw [if_pos (by omega), if_neg (by omega), if_neg (by omega)]
      congr 1
      omega
    · rw [decDigits, dif_neg h, parseUintM_append, ih (u / 10) (by omega) (by omega) (by omega)]
      simp only [parseUintM, digit_toNat (Nat.mod_lt u (by omega : 10 > 0))]
      rw [if_pos (by omega), if_neg (by omega), if_neg (by omega)]
      congr 1
      omega
theorem decDigits_ne (u : Nat) : decDigits u ≠ [] := by
  rw [decDigits]; split <;> simp
theorem decDigits_digit : ∀ (k u : Nat), u < k → ∀ c ∈ decDigits u, 48 ≤ c.toNat ∧ c.toNat ≤ 57 := by
  intro k
  induction k with
  | zero => intro u h; omega
  | succ k ih =>
    intro u hk c hc
    rw [decDigits] at hc
    split at hc
    · rename_i h
      simp only [List.mem_singleton] at hc
      subst hc
      rw [digit_toNat h]; omega
    · rename_i h
      rcases List.mem_append.1 hc with hc | hc
      · exact ih (u / 10) (by omega) c hc
      · simp only [List.mem_singleton] at hc
        subst hc
        rw [digit_toNat (Nat.mod_lt u (by omega))]
        have := Nat.mod_lt u (show 10 > 0 by omega)
        omega
/-- a numeral is read as its number -/
theorem parse_itoa (n : Int) (h0 : -1000000000 ≤ n) (h1 : n ≤ 1000000000) : parseIntB 64 (itoa n) = .ok n := by
  by_cases h : n < 0
  · have e : itoa n = 45 :: decDigits n.natAbs := by unfold itoa; rw [if_pos h]
    rw [e, parseIntB_minus]
    unfold parseUintB
    rw [if_neg (decDigits_ne _), parse_digits _ (n.natAbs + 1) n.natAbs (by omega) (by omega) (by omega)]
    simp only [signedC]
    rw [if_neg (by omega)]
    congr 1
    omega
  · have e : itoa n = decDigits n.toNat := by unfold itoa; rw [if_neg h]
    rw [e]
    cases hd : decDigits n.toNat with
    | nil => exact absurd hd (decDigits_ne _)
    | cons c r =>
      have hc := decDigits_digit (n.toNat + 1) n.toNat (by omega) c (by rw [hd]; simp)
      rw [parseIntB_plain 64 c r (by omega) (by omega), ← hd]
      unfold parseUintB
      rw [if_neg (decDigits_ne _), parse_digits _ (n.toNat + 1) n.toNat (by omega) (by omega) (by omega)]
      simp only [signlessC]
      rw [if_neg (by omega)]
      congr 1
      omega
end Go.Proofs.Ytegkeeeohileiaa
