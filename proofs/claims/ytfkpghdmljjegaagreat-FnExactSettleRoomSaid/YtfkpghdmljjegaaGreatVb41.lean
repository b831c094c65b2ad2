/-
  SettleHour of the program, exactly.
-/
import Derived.Test.YtfkpghdmljjegaaGreatVb40
import Derived.Test.YtfkpghdmljjegaaGreatVb36
import Derived.Test.YtfkpghdmljjegaaGreatVb24
namespace Go.Proofs.YtfkpghdmljjegaaGreat
open Go.RowKit
theorem OwnA.nil0 {α : Type} {w : World} {t : TypeId} {f : α → List Value} : OwnA w t f none 0 0 ([] : List α) := ⟨rfl, Nat.le_refl _, by omega, fun h => absurd h (by omega)⟩
theorem StlOwn.low {w : World} {lo lo' : Nat} {A0 A1 A2 A3 A4 : Option Addr} {n0 c0 n1 c1 n2 c2 n3 c3 n4 c4 : Nat} {X : Stl} (h : StlOwn w lo A0 A1 A2 A3 A4 n0 c0 n1 c1 n2 c2 n3 c3 n4 c4 X) (hl : lo' ≤ lo) : StlOwn w lo' A0 A1 A2 A3 A4 n0 c0 n1 c1 n2 c2 n3 c3 n4 c4 X :=
  ⟨h.o0, h.o1, h.o2, h.o3, h.o4, fun b hb => Nat.le_trans hl (h.lo b hb), h.sep⟩
end Go.Proofs.YtfkpghdmljjegaaGreat
