/-
  The reference's draw of a network, orders and readings.
-/
import Derived.Test.YtegkeeeohileiaaSa30
import Derived.Test.YtegkeeeohileiaaSa41
import Derived.Test.YtegkeeeohileiaaSa43
namespace Go.Proofs.Ytegkeeeohileiaa
open Go.RowKit
/-- a network, orders and readings that are being drawn -/
structure RSt (w0 w : World) (a : Nat) (A : Option Addr) (n c g : Nat) (v1 v2 v3 v4 : Value) (ns : List Node) (ps : List Pipe) (xs : List Order) (rs : List Reading) (wr : World) : Prop where
  st : OSt w0 w a A n c g v1 v2 v3 ns ps xs wr
  o4 : OwnL wr (w.heap.size + 1) 38 2 Reading.cells v4 rs
/-- what was drawn -/
def DrawnAl (w0 : World) (a : Nat) (A : Option Addr) (n c : Nat) (w : World) (e : Ending) (w' : World) : Prop :=
  ∃ (v1 v2 v3 : Value) (A4 : Option Addr) (n4 c4 : Nat) (ns : List Node) (ps : List Pipe) (xs : List Order) (rs : List Reading), e = .returned (.tuple #[.agg #[v1, v2], v3, .slice A4 n4 c4]) ∧ Src w0 w' a A n c ∧ Only a w w' ∧ OwnL w' (w.heap.size + 1) 75 3 Node.cells v1 ns ∧ OwnL w' (w.heap.size + 1) 78 5 Pipe.cells v2 ps ∧ OwnL w' (w.heap.size + 1) 51 4 Order.cells v3 xs ∧ SliceOf w' 2 Reading.cells A4 n4 c4 rs ∧ ns.length ≤ 7 ∧ ps.length ≤ 30 ∧ xs.length ≤ 41 ∧ n4 ≤ 50 ∧ Short ns ∧ ∀ b, blkOf A4 n4 = some b → w.heap.size < b
section
variable {w0 w wr wr' : World} {a n c g : Nat} {A : Option Addr} {v1 v2 v3 v4 v' : Value} {ns : List Node} {ps : List Pipe} {xs : List Order} {rs : List Reading}
theorem RSt.draw (h : RSt w0 w a A n c g v1 v2 v3 v4 ns ps xs rs wr) (hs : Src w0 wr' a A n c) (ho : Only a wr wr') : RSt w0 w a A n c g v1 v2 v3 v4 ns ps xs rs wr' :=
  have hl := h.st.net.lt
  ⟨h.st.draw hs ho, h.o4.only ho (by omega)⟩
theorem RSt.more (h : RSt w0 w a A n c g v1 v2 v3 v4 ns ps xs rs wr) (hx : Ext wr wr') : RSt w0 w a A n c g v1 v2 v3 v4 ns ps xs rs wr' := h.draw (h.st.net.src.more hx) (Only.of_ext hx a)
theorem RSt.app (h : RSt w0 w a A n c g v1 v2 v3 v4 ns ps xs rs wr) (hgr : wr.grownBy wr' v4.ownBlock) {rs' : List Reading} (ho : OwnL wr' (w.heap.size + 1) 38 2 Reading.cells v' rs') : RSt w0 w a A n c g v1 v2 v3 v' ns ps xs rs' wr' := by
  have hl := h.st.net.lt
  have hle := h.st.net.src.le0
  have hb := fun k (hk : v4.ownBlock = some k) => h.o4.block_le hk
  refine ⟨⟨⟨hl, h.st.net.src.grow hgr (fun k hk => by have := hb k hk; omega), h.st.net.only.grown hgr (fun k hk => .inl (by have := hb k hk; omega)), h.st.net.res.grown hgr (fun e => by have := hb _ e; omega), h.st.net.var.grown hgr (fun e => h.o4.not_row h.st.net.var (by decide) g e rfl), h.st.net.hg, h.st.net.o1.grown hgr (fun k hk => ?_), h.st.net.o2.grown hgr (fun k hk => ?_), h.st.net.nm⟩, h.st.o3.grown hgr (fun k hk => ?_)⟩, ho⟩
  · exact fun e => OwnL.apart h.o4 h.st.net.o1 (by decide) k hk e
  · exact fun e => OwnL.apart h.o4 h.st.net.o2 (by decide) k hk e
  · exact fun e => OwnL.apart h.o4 h.st.o3 (by decide) k hk e
theorem RSt.set (h : RSt w0 w a A n c g v1 v2 v3 v4 ns ps xs rs wr) {k j : Nat} {x y : Reading} {u : Value} (hk : rs[k]? = some x) (hj : j < 2) (hy : y.cells = x.cells.set j u) :
    ∃ b c', v4 = .slice (some ⟨b, 0, none⟩) rs.length c' ∧ b < wr.heap.size ∧ w.heap.size < b ∧ b ≠ g ∧ (∀ i, wr.frozen? ⟨b, i, none⟩ = false) ∧ (∀ i v, x.cells[i]? = some v → wr.cell? ⟨b, k * 2 + i, none⟩ = some v) ∧ RSt w0 w a A n c g v1 v2 v3 v4 ns ps xs (rs.set k y) (wr.setCell ⟨b, k * 2 + j, none⟩ u) := by
  obtain ⟨A1, c1, rfl, _⟩ := h.o4.form
  obtain ⟨b, rfl, _, hb, hlt, hf, hc, ho⟩ := h.o4.setOne reading_len hk hj hy
  have hne : b ≠ g := fun e => h.o4.not_row h.st.net.var (by decide) b rfl (by rw [e])
  obtain ⟨hs, hon⟩ := h.st.net.setCellA (p := ⟨b, k * 2 + j, none⟩) (by show w.heap.size ≤ b; omega) u
  have far : ∀ {α : Type} {base : Nat} {e : TypeId} {size : Nat} {f : α → List Value} {v : Value} {L : List α}, OwnL wr base e size f v L → e ≠ 38 → OwnL (wr.setCell ⟨b, k * 2 + j, none⟩ u) base e size f v L := fun {α base e size f v L} ho he =>
    ho.grown ((Only.refl b wr).setCell rfl u) (fun q hq e2 => OwnL.apart h.o4 ho (fun e3 => he e3.symm) q hq (by rw [← e2]; rfl))
  exact ⟨b, c1, rfl, hlt, by omega, hne, hf, hc, ⟨⟨h.st.net.lt, hs, hon, h.st.net.res.far (by show w.heap.size ≠ b; omega) u, h.st.net.var.far (by show g ≠ b; omega) u, h.st.net.hg, far h.st.net.o1 (by decide), far h.st.net.o2 (by decide), h.st.net.nm⟩, far h.st.o3 (by decide)⟩, ho⟩
theorem OSt.finR (h : OSt w0 w a A n c g v1 v2 v3 ns ps xs wr) {A4 : Option Addr} {n4 c4 : Nat} (hs4 : SliceOf wr 2 Reading.cells A4 n4 c4 rs) (hb : ∀ b, blkOf A4 n4 = some b → w.heap.size < b) (h2 : ns.length ≤ 7) (h3 : ps.length ≤ 30) (h4 : xs.length ≤ 41) (h5 : n4 ≤ 50) :
    DrawnAl w0 a A n c w (.returned (.tuple #[.agg #[v1, v2], v3, .slice A4 n4 c4])) (putCells wr w.heap.size 0 [v1, v2]) := by
  have hl := h.net.lt
  have hle := h.net.src.le0
  refine ⟨v1, v2, v3, A4, n4, c4, ns, ps, xs, rs, rfl, h.net.src.put (by omega) (by omega) _ _, h.net.only.putNew (Nat.le_refl _) _ _, h.net.o1.put h.net.res (by decide) _ _, h.net.o2.put h.net.res (by decide) _ _, h.o3.put h.net.res (by decide) _ _, ?_, h2, h3, h4, h5, h.net.nm, hb⟩
  show SliceOf ((wr.setCell ⟨w.heap.size, 0, none⟩ v1).setCell ⟨w.heap.size, 0 + 1, none⟩ v2) 2 Reading.cells A4 n4 c4 rs
  exact (hs4.farG (p := ⟨w.heap.size, 0, none⟩) hb v1).farG (p := ⟨w.heap.size, 0 + 1, none⟩) hb v2
end
end Go.Proofs.Ytegkeeeohileiaa
