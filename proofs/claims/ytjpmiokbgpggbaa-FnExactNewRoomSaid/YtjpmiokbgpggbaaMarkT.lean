
/-
  markText of the laws: a text for each number.
-/
import Derived.Test.YtjpmiokbgpggbaaBase
import Derived.Laws.IdiomStrings
import Derived.Laws.BytesString
import Derived.Test.YtjpmiokbgpggbaaProg
namespace Go.Proofs.Ytjpmiokbgpggbaa
open Go.RowKit
def mtGo (k : Nat) (out : ByteArray) : ByteArray := if _h : k = 0 then out else mtGo (k / 10) (⟨#[48 + UInt8.ofNat (k % 10)]⟩ ++ out)
termination_by k
decreasing_by omega
theorem mt_step {k : Nat} {out : ByteArray} (h : 0 < k) : mtGo k out = mtGo (k / 10) (⟨#[48 + UInt8.ofNat (k % 10)]⟩ ++ out) := by
  conv => lhs; unfold mtGo
  rw [dif_neg (by omega)]
theorem mt_end (out : ByteArray) : mtGo 0 out = out := by
  unfold mtGo
  rw [dif_pos rfl]
def mtext (k : Int) : ByteArray := if k ≤ 0 then ⟨#[109, 48]⟩ else ⟨#[109]⟩ ++ mtGo k.toNat ByteArray.empty
theorem digit_conv (W : World) (m : Nat) (z : Int) (hz : z = (m : Int)) (hm : m < 10) : (convert 59 9 (.slice (some ⟨W.heap.size, 0, none⟩) 1 1)).run Try.prog (W.alloc (.cells #[.int .u8 (48 + z)] 5)) = .ok (.string ⟨#[48 + UInt8.ofNat m]⟩) (W.alloc (.cells #[.int .u8 (48 + z)] 5)) := by
  have h := run_convert_bytes_back (P := Try.prog) (W.alloc (.cells #[.int .u8 (48 + z)] 5)) 59 9 5 ⟨W.heap.size, 0, none⟩ 1 [48 + UInt8.ofNat m] Try.underlying59 Try.underlying5 Try.underlying9 (fun j hj => by
    obtain rfl : j = 0 := by simp at hj; omega
    have : (Addr.add ⟨W.heap.size, 0, none⟩ 0) = ⟨W.heap.size, 0, none⟩ := rfl
    rw [this, World.cell?_alloc_mark]
    subst hz
    simp
    omega)
  exact h
set_option maxRecDepth 8000 in
theorem c_markText (k : Int) (w : World) (hk : k ≤ 1000000000000000) :
    Calls Try.prog 104 #[.int .i64 k] w (Ret (.string (mtext k)) w) := by
  by_cases h0 : k ≤ 0
  · have HR := hide (show mtext k = ⟨#[109, 48]⟩ by unfold mtext; rw [if_pos h0])
    go_enter Try.func104, Try.ntmps104
    go_wp2_with fail
    go_ret
    rw [HR.out]
    exact ⟨rfl, Ext.refl _⟩
  · obtain ⟨K, rfl⟩ : ∃ K : Nat, k = K := ⟨k.toNat, by omega⟩
    have HR := hide (show mtext K = ⟨#[109]⟩ ++ mtGo K ByteArray.empty by unfold mtext; rw [if_neg h0]; rfl)
    go_enter Try.func104, Try.ntmps104
    go_wp2_with fail
    go_loopw [0, 3] (fun i s wr => ∃ (j : Nat) (o : ByteArray), j ≤ 1000000000000000 ∧ i = .int .i64 j ∧ s = .string o ∧ o.size + j ≤ 1000000000000000 ∧ Hid (mtGo j o = mtGo K ByteArray.empty) ∧ Ext w wr) (fun i _ _ => (intOf i).toNat)
    case atStart => exact ⟨K, _, by omega, rfl, rfl, by show 0 + K ≤ _; omega, hide rfl, Ext.refl _⟩
    case round =>
      obtain ⟨j, o, hj, rfl, rfl, hos, HJ, hx⟩ := hrel
      by_cases hlt : 0 < j
      · have e1 : (j : Int).tmod 10 = (j : Int) % 10 := Int.tmod_eq_emod_of_nonneg (by omega)
        have e2 : (j : Int).tdiv 10 = (j : Int) / 10 := Int.tdiv_eq_ediv_of_nonneg (by omega)
        have e3 : IntKind.i64.wrap (48 + (j : Int) % 10) = 48 + (j : Int) % 10 := IntWalk.i64_in _ (by omega)
        have e4 : IntKind.u8.wrap (48 + (j : Int) % 10) = 48 + (j : Int) % 10 := by simp [IntKind.wrap, IntKind.signed, IntKind.bits]; omega
        have hcv := digit_conv wr (j % 10) ((j : Int) % 10) (by omega) (by omega)
        have hsz : ¬ 9223372036854775807 < 1 + o.size := by omega
        go_wp2_with fail
        go_roundw
        case rel => exact ⟨j / 10, _, by omega, by simp, rfl, by rw [ByteArray.size_append]; show 1 + o.size + j / 10 ≤ _; omega, hide (by rw [← HJ.out, mt_step hlt]), hx.and_alloc _⟩
        case measure => simp [intOf]; omega
      · obtain rfl : j = 0 := by omega
        have hsz : ¬ 9223372036854775807 < 1 + o.size := by omega
        have HE := hide (show o = mtGo K ByteArray.empty by rw [← HJ.out, mt_end])
        go_wp2_with fail
        go_ret
        rw [HR.out, ← HE.out]
        exact ⟨rfl, hx⟩
end Go.Proofs.Ytjpmiokbgpggbaa
