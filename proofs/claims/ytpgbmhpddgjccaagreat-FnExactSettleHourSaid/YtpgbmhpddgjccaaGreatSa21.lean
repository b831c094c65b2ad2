/-
  Looking for a target and sending along a path, step by step, in plain Lean; what RouteSupplies returns. The memory of a routing: flows and what is left, each in a block of its own.
-/
import Derived.Test.YtpgbmhpddgjccaaGreatSa13
import Derived.Test.YtpgbmhpddgjccaaGreatSa10
import Derived.Test.YtpgbmhpddgjccaaGreatSa20
namespace Go.Proofs.YtpgbmhpddgjccaaGreat
/-! ### looking for a target from the end -/
def wantB (lf : List Int) (z : Int) : Bool := decide ((lf[z.toNat]?).getD 0 < 0)
def tgtK (lf E : List Int) (k : Nat) : Int := ((E.drop k).find? (wantB lf)).getD (-1)
theorem tgt_eq (lf E : List Int) : tgt lf E = E.find? (wantB lf) := rfl
theorem tgtK_end {lf E : List Int} {k : Nat} (h : E.length ≤ k) : tgtK lf E k = -1 := by
  unfold tgtK; rw [List.drop_of_length_le h]; rfl
theorem tgtK_step {lf E : List Int} {k : Nat} {z : Int} (h : E[k]? = some z) : tgtK lf E k = if zAt lf z.toNat < 0 then z else tgtK lf E (k + 1) := by
  obtain ⟨hk, he⟩ := List.getElem?_eq_some_iff.1 h
  unfold tgtK
  rw [List.drop_eq_getElem_cons hk, he, List.find?_cons]
  unfold wantB zAt
  by_cases h0 : (lf[z.toNat]?).getD 0 < 0
  · simp only [h0, decide_true, if_true]; rfl
  · simp only [h0, decide_false, if_false]
theorem tgtK_one {lf E : List Int} {q : Int} (h0 : E[0]? = some q) (hq : ¬ zAt lf q.toNat < 0) (hn : ∀ z ∈ E, 0 ≤ z) :
    (tgtK lf E 1 < 0 ∧ tgt lf E = none) ∨ (0 ≤ tgtK lf E 1 ∧ tgt lf E = some (tgtK lf E 1)) := by
  have e0 : tgtK lf E 0 = tgtK lf E 1 := by rw [tgtK_step h0, if_neg hq]
  rw [← e0]
  unfold tgtK
  rw [List.drop_zero, ← tgt_eq]
  cases ht : tgt lf E with
  | none => left; exact ⟨by simp, rfl⟩
  | some z => right; exact ⟨by rw [Option.getD_some]; exact hn z (find_tgt ht).1, rfl⟩
/-! ### a path, step by step -/
theorem Pth.next {ps : List Pipe} {en : List Int} {q x : Int} {L : List Stp} (h : Pth ps en q x L) (hne : x ≠ q) : ∃ (k : Nat) (p : Pipe) (L' : List Stp), L = ⟨k, othE p x, x⟩ :: L' ∧ en[x.toNat]? = some (k : Int) ∧ ps[k]? = some p ∧ Pth ps en q (othE p x) L' := by
  cases h with
  | nil => exact absurd rfl hne
  | cons _ he hp h => exact ⟨_, _, _, rfl, he, hp, h⟩
theorem Pth.last {ps : List Pipe} {en : List Int} {q : Int} {L : List Stp} (h : Pth ps en q q L) : L = [] := by
  cases h with
  | nil => rfl
  | cons hne _ _ _ => exact absurd rfl hne
theorem minA_cons {ps : List Pipe} {fl : List Int} {a : Int} {e : Stp} {L : List Stp} : minA ps fl a (e :: L) = minA ps fl (if roomZ ps fl e.pipe e.up < a then roomZ ps fl e.pipe e.up else a) L := rfl
/-- all flows at most b -/
def FlB (b : Int) (fl : List Int) : Prop := ∀ z ∈ fl, -b ≤ z ∧ z ≤ b
theorem FlB.set {b a : Int} {fl : List Int} (h : FlB b fl) (ha : 0 ≤ a) {k : Nat} {v : Int} (hv : -(b + a) ≤ v ∧ v ≤ b + a) : FlB (b + a) (fl.set k v) := by
  intro z hz
  rcases List.mem_or_eq_of_mem_set hz with hz | rfl
  · have := h z hz; omega
  · exact hv
theorem turnS_at {ps : List Pipe} {k : Nat} {p : Pipe} (h : ps[k]? = some p) (a f u x : Int) : turnS ps a ⟨k, u, x⟩ f = if p.src = u then f + a else f - a := by
  unfold turnS; simp only; rw [h]
/-- the two ways to look at the direction of a pipe -/
theorem dst_src {p : Pipe} {x : Int} (hx : p.src = x ∨ p.dst = x) (hne : p.src ≠ p.dst) : (p.src = othE p x) ↔ (p.dst = x) := by
  unfold othE; split <;> omega
/-- the rest of a path: all its steps may be taken -/
structure Rest (ps : List Pipe) (N : Nat) (L : List Stp) : Prop where
  ok : ∀ e ∈ L, ∃ p, ps[e.pipe]? = some p ∧ (p.src = e.to ∨ p.dst = e.to) ∧ othE p e.to = e.up ∧ (∃ u : Nat, e.up = u ∧ u < N)
theorem Rest.tail {ps : List Pipe} {N : Nat} {e : Stp} {L : List Stp} (h : Rest ps N (e :: L)) : Rest ps N L := ⟨fun y hy => h.ok y (by simp [hy])⟩
theorem Tgt.rest {ps : List Pipe} {N q t : Nat} {s : Rst} {lq lt : Int} {L : List Stp} (h : Tgt ps N q s t lq lt L) (hP : EndsN N ps) : Rest ps N L := by
  refine ⟨fun e he => ?_⟩
  obtain ⟨p, h1, h2, h3⟩ := (h.good e he).pip
  obtain ⟨y, hy, hyN⟩ := hP.oth h1 e.to
  exact ⟨p, h1, h2, h3, y, by rw [← h3, hy], hyN⟩
/-! ### what RouteSupplies returns -/
noncomputable def routR (ps : List Pipe) (N : Nat) (sup : List Int) : List Int × Int :=
  if supB sup = false then ([], 3) else if evenB ps N sup = false then ([], 5) else if ((routed ps N sup).lf.all fun z => decide (z = 0)) = false then ([], 7) else ((routed ps N sup).fl, 0)
theorem supB_bd {sup : List Int} (h : supB sup = true) : ∀ z ∈ sup, -30000 ≤ z ∧ z ≤ 30000 := by
  intro z hz
  have := List.all_eq_true.1 h z hz
  simpa using this
theorem routR_code (ps : List Pipe) (N : Nat) (sup : List Int) : ((routR ps N sup).2 == 0) = routB ps N sup := by
  unfold routR routB
  cases supB sup <;> cases evenB ps N sup <;> cases ((routed ps N sup).lf.all fun z => decide (z = 0)) <;> rfl
/-- numbers of a list in memory -/
def readI (w : World) (g N : Nat) : List Int := (List.range N).map fun i => match w.cell? ⟨g, i, none⟩ with | some (.int _ z) => z | _ => 0
end Go.Proofs.YtpgbmhpddgjccaaGreat

namespace Go.Proofs.YtpgbmhpddgjccaaGreat
open Go.RowKit
theorem OwnS.setI {w : World} {g : Nat} {t : TypeId} {A : Option Addr} {n : Nat} {L : List Int} (h : OwnS w g t intC A n L) {i : Nat} (hi : i < n) (y : Int) : OwnS (w.setCell ⟨g, i, none⟩ (.int .i64 y)) g t intC A n (L.set i y) := by
  have h1 := h.put intC_len hi y
  rw [Nat.mul_one] at h1
  exact h1
theorem OwnS.farO {α : Type} {w : World} {g : Nat} {t : TypeId} {f : α → List Value} {A : Option Addr} {n : Nat} {L : List α} (h : OwnS w g t f A n L) {p : Addr} (hp : g ≠ p.block) (u : Value) : OwnS (w.setCell p u) g t f A n L :=
  h.only ((Only.refl p.block w).setCell rfl u) hp
theorem OwnS.getI {w : World} {g : Nat} {t : TypeId} {A : Option Addr} {n : Nat} {L : List Int} (h : OwnS w g t intC A n L) {i : Nat} {z : Int} (hz : L[i]? = some z) : w.cell? ⟨g, i, none⟩ = some (.int .i64 z) ∧ w.frozen? ⟨g, i, none⟩ = false ∧ g < w.heap.size := by
  have hi : i < n := by rw [h.1]; exact (List.getElem?_eq_some_iff.1 hz).1
  obtain ⟨hA, rest, hr⟩ := h.2 (by omega)
  have h1 := flat_get intC_len hz (j := 0) (u := .int .i64 z) rfl
  simp only [Nat.mul_one, Nat.add_zero] at h1
  refine ⟨?_, h.frozen (by omega) i, hr.lt⟩
  rw [hr.cell, List.getElem?_append_left (List.getElem?_eq_some_iff.1 h1).1]
  exact h1
theorem OwnS.turn {α : Type} {S : Nat → Prop} {w w' : World} {g : Nat} {t : TypeId} {f : α → List Value} {A : Option Addr} {n : Nat} {xs : List α} (h : OwnS w g t f A n xs) (k : Turn S w w') (hne : ¬ S g) : OwnS w' g t f A n xs :=
  ⟨h.1, fun hn => ⟨(h.2 hn).1, let ⟨r, hr⟩ := (h.2 hn).2; ⟨r, hr.turn k hne⟩⟩⟩
theorem readI_eq {w : World} {g : Nat} {t : TypeId} {A : Option Addr} {n : Nat} {L : List Int} (h : OwnS w g t intC A n L) : readI w g n = L := by
  apply List.ext_getElem?
  intro i
  unfold readI
  rw [List.getElem?_map]
  rcases Nat.lt_or_ge i n with hi | hi
  · obtain ⟨z, hz⟩ : ∃ z, L[i]? = some z := ⟨_, List.getElem?_eq_getElem (by rw [← h.1]; exact hi)⟩
    rw [List.getElem?_range hi, Option.map_some, (h.getI hz).1, hz]
  · rw [List.getElem?_eq_none (by simpa using hi), List.getElem?_eq_none (by rw [← h.1]; exact hi)]; rfl
structure RtM (w : World) (gf gl nf nl : Nat) (s : Rst) : Prop where
  f : OwnS w gf 2 intC (some ⟨gf, 0, none⟩) nf s.fl
  l : OwnS w gl 2 intC (some ⟨gl, 0, none⟩) nl s.lf
  ne : gf ≠ gl
section
variable {w w' : World} {gf gl nf nl : Nat} {s : Rst}
theorem RtM.ext (h : RtM w gf gl nf nl s) (hx : Ext w w') : RtM w' gf gl nf nl s := ⟨h.f.ext hx, h.l.ext hx, h.ne⟩
theorem RtM.setF (h : RtM w gf gl nf nl s) {i : Nat} (hi : i < nf) (y : Int) : RtM (w.setCell ⟨gf, i, none⟩ (.int .i64 y)) gf gl nf nl ⟨s.fl.set i y, s.lf⟩ :=
  ⟨h.f.setI hi y, h.l.farO (p := ⟨gf, i, none⟩) (Ne.symm h.ne) _, h.ne⟩
theorem RtM.setL (h : RtM w gf gl nf nl s) {i : Nat} (hi : i < nl) (y : Int) : RtM (w.setCell ⟨gl, i, none⟩ (.int .i64 y)) gf gl nf nl ⟨s.fl, s.lf.set i y⟩ :=
  ⟨h.f.farO (p := ⟨gl, i, none⟩) h.ne _, h.l.setI hi y, h.ne⟩
end
/-- the blocks of a routing -/
def Rtb (gf gl : Nat) (b : Nat) : Prop := b = gf ∨ b = gl
theorem Turn.setF {gf gl i : Nat} {w w' : World} (h : Turn (Rtb gf gl) w w') (u : Value) : Turn (Rtb gf gl) w (w'.setCell ⟨gf, i, none⟩ u) :=
  h.trans (Turn.of_only (g := gf) ((Only.refl gf w').setCell rfl u) (fun _ => .inl rfl))
theorem Turn.setL {gf gl i : Nat} {w w' : World} (h : Turn (Rtb gf gl) w w') (u : Value) : Turn (Rtb gf gl) w (w'.setCell ⟨gl, i, none⟩ u) :=
  h.trans (Turn.of_only (g := gl) ((Only.refl gl w').setCell rfl u) (fun _ => .inr rfl))
theorem Turn.more {S : Nat → Prop} {w w' w'' : World} (h : Turn S w w') (hx : Ext w' w'') : Turn S w w'' := h.trans (Turn.of_ext hx)
end Go.Proofs.YtpgbmhpddgjccaaGreat
