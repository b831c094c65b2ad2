/-
  Plain lemmas on worlds, slices and lists that every later text of this seat uses. No function of the program is named here. Contracts of the small functions on numbers.
-/
import Derived.WalkKit
import Derived.WalkSpells
import Derived.WalkLawsBesides
import Derived.Deep.QuietTactic
import Derived.BigQuiet
import Derived.IntWalk
import Derived.Test.YtegkeeeohileiaaRows
namespace Go.Proofs.Ytegkeeeohileiaa
open Go.RowKit

theorem hide {p : Prop} (h : p) : Hid p := h

/-! ### worlds that have only grown -/
def Ext (w w' : World) : Prop := Below w.heap.size w w'
theorem Ext.refl (w : World) : Ext w w := Below.refl _ _
theorem Ext.trans {a b c : World} (h : Ext a b) (k : Ext b c) : Ext a c := Below.trans h (Below.mono k h.size)
theorem Ext.alloc (w : World) (o : Obj) : Ext w (w.alloc o) := (Below.refl _ _).alloc (Nat.le_refl _) o
theorem Ext.and_alloc {w w' : World} (h : Ext w w') (o : Obj) : Ext w (w'.alloc o) := h.trans (Ext.alloc _ _)
theorem Ext.drew {w w' : World} (h : Ext w w') : Ext w w'.drew := Below.drew h
theorem Ext.drewN {w w' : World} (h : Ext w w') (n : Nat) : Ext w (w'.drewN n) := ⟨h.os, h.tape, h.output, h.size, h.block⟩
theorem Ext.setCell {w w' : World} (h : Ext w w') {p : Addr} (hp : w.heap.size ≤ p.block) (u : Value) : Ext w (w'.setCell p u) := Below.setCell h hp u
theorem Ext.grown {w w' w'' : World} {row : Option Nat} (h : Ext w w') (hg : w'.grownBy w'' row) (hr : ∀ k, row = some k → w.heap.size ≤ k) : Ext w w'' := Below.grown h hg h.size hr
theorem Ext.cell {w w' : World} (h : Ext w w') : ∀ b o, b < w.heap.size → w'.cell? ⟨b, o, none⟩ = w.cell? ⟨b, o, none⟩ := fun b o hb => Below.cell (p := ⟨b, o, none⟩) h hb
theorem Ext.frozen {w w' : World} (h : Ext w w') : ∀ b o, b < w.heap.size → w'.frozen? ⟨b, o, none⟩ = w.frozen? ⟨b, o, none⟩ := fun b o hb => Below.frozen (p := ⟨b, o, none⟩) h hb
theorem Ext.size {w w' : World} (h : Ext w w') : w.heap.size ≤ w'.heap.size := Below.size h
theorem Ext.after {w w' w'' : World} (h : Ext w w') {o : Obj} (h' : Ext (w'.alloc o) w'') : Ext w w'' := (h.and_alloc o).trans h'
theorem Ext.box {w w' : World} {o : Obj} (h : Ext (w.alloc o) w') : Ext w w' := (Ext.alloc w o).trans h

/-! ### a region that draws its order, whose callees may make memory but return plain values -/
open Classical in
noncomputable def later (w x : World) : World := if Ext w x then x else w
theorem later_of {w x : World} (h : Ext w x) : later w x = x := by rw [later, if_pos h]
theorem ext_later (w x : World) : Ext w (later w x) := by
  unfold later; split
  · assumption
  · exact Ext.refl _
@[go_sem] theorem later_cell (w x : World) (b o : Nat) (hb : b < w.heap.size) : (later w x).cell? ⟨b, o, none⟩ = w.cell? ⟨b, o, none⟩ := (ext_later w x).cell b o hb
@[go_sem] theorem later_cell_drew (w x : World) (b o : Nat) (hb : b < w.heap.size) : (later w.drew x).cell? ⟨b, o, none⟩ = w.cell? ⟨b, o, none⟩ := (ext_later w.drew x).cell b o hb
@[go_sem] theorem later_cell_drewN (w x : World) (n b o : Nat) (hb : b < w.heap.size) : (later (w.drewN n) x).cell? ⟨b, o, none⟩ = w.cell? ⟨b, o, none⟩ := (ext_later (w.drewN n) x).cell b o hb
theorem wp_region_later {P : Program} {id : Nat} {Q : Exit → Act → World → Prop} {a : Act} {w : World} {l : List Oper} (hm : P.follows .mixedOrders = true) (hB : Region.lexB .any l.toArray = true)
    (h : wpQuiet P l.toArray (fun w' => ∃ x, w' = later w x) (fun a' => ∀ w', Ext w w' → Q .normal a' w') l a) : (Code.region id l.toArray true).wp P Q a w := by
  refine wp_region_quiet (C := fun w' => ∃ x, w' = later w x) hm hB ⟨w.drew, ?_⟩ ?_
  · rw [later_of (Ext.refl w).drew]; rfl
  · have hh : ∀ (l' : List Oper) (a : Act), wpQuiet P l.toArray (fun w' => ∃ x, w' = later w x) (fun a' => ∀ w', Ext w w' → Q .normal a' w') l' a →
        wpQuiet P l.toArray (fun w' => ∃ x, w' = later w x) (fun a' => ∀ w', (∃ x, w' = later w x) → Q .normal a' w') l' a := by
      intro l'
      induction l' with
      | nil => intro a h; exact fun w' ⟨x, hx⟩ => h w' (by rw [hx]; exact ext_later w x)
      | cons o rest ih =>
        intro a h
        unfold wpQuiet at h ⊢
        split
        · rename_i hw; rw [if_pos hw] at h; exact Oper.quiet_mono ih h
        · rename_i hw; rw [if_neg hw] at h; exact ih _ h
    simpa using hh l a h
theorem quiet_later {P : Program} {f : FuncId} {args : Array Value} {W x : World} {v : Value}
    (h : Calls P f args (later W x) fun e w' => e = .returned v ∧ Ext (later W x) w') : Calls P f args (later W x) fun e w'' => e = .returned v ∧ ∃ x', w'' = later W x' :=
  h.mono fun _ w'' ⟨he, hx⟩ => ⟨he, w'', (later_of ((ext_later W x).trans hx)).symm⟩
theorem quiet_later_same {P : Program} {f : FuncId} {args : Array Value} {W x : World} {v : Value}
    (h : Calls P f args (later W x) fun e w' => e = .returned v ∧ later W x = w') : Calls P f args (later W x) fun e w'' => e = .returned v ∧ ∃ x', w'' = later W x' :=
  h.mono fun _ _ ⟨he, hx⟩ => ⟨he, x, hx.symm⟩
theorem quiet_left {P : Program} {f : FuncId} {args : Array Value} {w : World} {n : Nat} {v : Value}
    (h : Calls P f args (w.drewN n) fun e w' => e = .returned v ∧ w.drewN n = w') : Calls P f args (w.drewN n) fun e w'' => e = .returned v ∧ ∃ m, w'' = w.drewN m :=
  h.mono fun _ _ ⟨he, hm⟩ => ⟨he, n, hm.symm⟩

/-! ### what a call returns -/
def Ret (v : Value) (w : World) (e : Ending) (w' : World) : Prop := e = .returned v ∧ Ext w w'
theorem Ret.of {v v' : Value} {w w' : World} (h : v = v') (hx : Ext w w') : Ret v w (.returned v') w' := ⟨by rw [h], hx⟩
theorem Ret.bool {b b' : Bool} {w w' : World} (h : b = b') (hx : Ext w w') : Ret (.bool b) w (.returned (.bool b')) w' := ⟨by rw [h], hx⟩
theorem Ret.int {k : IntKind} {a b : Int} {w w' : World} (h : a = b) (hx : Ext w w') : Ret (.int k a) w (.returned (.int k b)) w' := ⟨by rw [h], hx⟩

/-! ### slices -/
def SliceOf {α : Type} (w : World) (size : Nat) (f : α → List Value) (A : Option Addr) (n c : Nat) (xs : List α) : Prop :=
  n = xs.length ∧ n ≤ c ∧ c ≤ maxLen ∧ (0 < n → ∃ b off, A = some ⟨b, off, none⟩ ∧ b < w.heap.size ∧ ∀ i x, xs[i]? = some x → ∀ j u, (f x)[j]? = some u → w.cell? ⟨b, off + i * size + j, none⟩ = some u)
section
variable {α : Type} {w w' : World} {size : Nat} {f : α → List Value} {A : Option Addr} {n c : Nat} {xs : List α}
theorem SliceOf.len (h : SliceOf w size f A n c xs) : n = xs.length := h.1
theorem SliceOf.cap (h : SliceOf w size f A n c xs) : n ≤ c := h.2.1
theorem SliceOf.max (h : SliceOf w size f A n c xs) : c ≤ 9223372036854775807 := h.2.2.1
theorem SliceOf.ext (h : SliceOf w size f A n c xs) (he : Ext w w') : SliceOf w' size f A n c xs := by
  obtain ⟨h1, h2, h3, h4⟩ := h
  refine ⟨h1, h2, h3, fun hn => ?_⟩
  obtain ⟨b, off, hA, hb, hc⟩ := h4 hn
  exact ⟨b, off, hA, Nat.lt_of_lt_of_le hb he.size, fun i x hx j u hu => (he.cell b _ hb).trans (hc i x hx j u hu)⟩
theorem SliceOf.get (h : SliceOf w size f A n c xs) {k : Nat} (hk : k < n) :
    ∃ b off x, A = some ⟨b, off, none⟩ ∧ b < w.heap.size ∧ xs[k]? = some x ∧ ∀ j u, (f x)[j]? = some u → w.cell? ⟨b, off + k * size + j, none⟩ = some u := by
  obtain ⟨h1, h2, h3, h4⟩ := h
  obtain ⟨b, off, hA, hb, hc⟩ := h4 (by omega)
  have hx : xs[k]? = some (xs[k]'(by omega)) := List.getElem?_eq_getElem (by omega)
  exact ⟨b, off, _, hA, hb, hx, hc k _ hx⟩
theorem SliceOf.nil : SliceOf w size f A 0 c [] ↔ c ≤ maxLen := by simp [SliceOf]
end
/-- the element at a place whose slice's address is known already -/
theorem SliceOf.at_ {α : Type} {w : World} {size : Nat} {f : α → List Value} {b off : Nat} {n c : Nat} {xs : List α} (h : SliceOf w size f (some ⟨b, off, none⟩) n c xs) {k : Nat} (hk : k < n) :
    ∃ x, xs[k]? = some x ∧ ∀ j u, (f x)[j]? = some u → w.cell? ⟨b, off + k * size + j, none⟩ = some u := by
  obtain ⟨b', off', x, hA, _, hx, hc⟩ := h.get hk
  simp only [Option.some.injEq, Addr.mk.injEq] at hA
  obtain ⟨rfl, rfl, -⟩ := hA
  exact ⟨x, hx, hc⟩

/-! ### lists and numbers -/
def inB (n lo hi : Int) : Bool := decide (lo ≤ n) && decide (n ≤ hi)
theorem inB_true {n lo hi : Int} : inB n lo hi = true ↔ lo ≤ n ∧ n ≤ hi := by simp [inB]
theorem inB_false {n lo hi : Int} : inB n lo hi = false ↔ ¬ (lo ≤ n ∧ n ≤ hi) := by rw [← inB_true]; simp
theorem all_range_false {p : Nat → Bool} {n k : Nat} (hk : k < n) (h : p k = false) : (List.range n).all p = false := by
  rw [List.all_eq_false]; exact ⟨k, by simpa using hk, by simp [h]⟩
theorem all_range_true {p : Nat → Bool} {n : Nat} (h : ∀ j, j < n → p j = true) : (List.range n).all p = true := by
  rw [List.all_eq_true]; intro j hj; exact h j (by simpa using hj)
theorem all_upto {p : Nat → Bool} {k : Nat} (h : ∀ j, j < k → p j = true) (hk : p k = true) : ∀ j, j < k + 1 → p j = true := by
  intro j hj; by_cases e : j = k
  · rw [e]; exact hk
  · exact h j (by omega)

end Go.Proofs.Ytegkeeeohileiaa

namespace Go.Proofs.Ytegkeeeohileiaa
open Go.RowKit

theorem c_within (n lo hi : Int) (w : World) :
    Calls Try.prog 32 #[.int .i64 n, .int .i64 lo, .int .i64 hi] w fun e w' => e = .returned (.bool (inB n lo hi)) ∧ w = w' := by
  go_enter Try.func32, Try.ntmps32
  go_wp2
  all_goals
    go_ret
    simp [inB, *] <;> omega

theorem c_l01In (n lo hi : Int) (w : World) :
    Calls Try.prog 56 #[.int .i64 n, .int .i64 lo, .int .i64 hi] w fun e w' => e = .returned (.bool (inB n lo hi)) ∧ w = w' := by
  go_enter Try.func56, Try.ntmps56
  go_wp2
  all_goals
    go_ret
    simp [inB, *] <;> omega

def absI (n : Int) : Int := if n < 0 then -n else n
theorem absI_le {n : Int} {m : Int} (h1 : -m ≤ n) (h2 : n ≤ m) : 0 ≤ absI n ∧ absI n ≤ m := by unfold absI; split <;> omega

theorem c_absOf (n : Int) (w : World) (h : -9223372036854775807 ≤ n) (h' : n ≤ 9223372036854775807) :
    Calls Try.prog 35 #[.int .i64 n] w fun e w' => e = .returned (.int .i64 (absI n)) ∧ w = w' := by
  go_enter Try.func35, Try.ntmps35
  go_wp2
  all_goals
    go_ret
    simp [absI, *] <;> omega


end Go.Proofs.Ytegkeeeohileiaa
