/-
  Plain: what is recovered of a journal's text, whole or cut off anywhere. No function of the program is named here.
-/
import Derived.Test.YtglbiddddflmeaaDoorJouW
namespace Go.Proofs.YtglbiddddflmeaaDoor
open Go.Lib
/-- the lines of events -/
def linesE : List Event → Int → List (List UInt8)
  | [], _ => []
  | e :: es, x => lineL e x :: linesE es (sumE e x)
theorem splitL_text (p : List UInt8) (hp : (10 : UInt8) ∉ p) : ∀ (es : List Event) (x : Int), splitL 10 (textL es x ++ p) = linesE es x ++ [p]
  | [], _ => splitL_no 10 p hp
  | e :: es, x => by
    rw [textL, List.append_assoc, List.cons_append, splitL_app 10 _ _ (lineL_no e x), splitL_text p hp es, linesE, List.cons_append]
theorem recL_lines : ∀ (es : List Event) (k : Nat) (x : Int), (∀ e ∈ es, evB e = true) → es.length ≤ k → 0 ≤ x → x < 99991 → recL (linesE es x) k x = es
  | [], k, x, _, _, _, _ => by cases k <;> rfl
  | e :: es, 0, x, _, h, _, _ => by simp at h
  | e :: es, k + 1, x, h, hk, h0, h1 => by
    have hs := sumE_bound e x h0 h1
    rw [linesE, recL, next_line e x (h e (by simp)) h0 h1]
    simp only
    rw [recL_lines es k _ (fun f hf => h f (by simp [hf])) (by simpa using hk) hs.1 hs.2]
theorem recS_app (es : List Event) (p : List UInt8) (hv : ∀ e ∈ es, evB e = true) (hl : es.length ≤ 300) (hp : (10 : UInt8) ∉ p) : recS (textL es 1 ++ p) = es := by
  unfold recS
  rw [splitL_text p hp es 1, List.dropLast_concat]
  exact recL_lines es maxEv 1 hv hl (by omega) (by omega)
theorem recS_whole (es : List Event) (hv : ∀ e ∈ es, evB e = true) (hl : es.length ≤ 300) : recS (textL es 1) = es := by
  have := recS_app es [] hv hl (by simp)
  rwa [List.append_nil] at this
theorem cut_text : ∀ (es : List Event) (x : Int) (cut : Nat), ∃ k p, k ≤ es.length ∧ (10 : UInt8) ∉ p ∧ (textL es x).take cut = textL (es.take k) x ++ p
  | [], _, _ => ⟨0, [], Nat.le_refl _, by simp, by simp [textL]⟩
  | e :: es, x, cut => by
    rcases Nat.lt_or_ge (lineL e x).length cut with h | h
    · obtain ⟨k, p, hk, hp, ht⟩ := cut_text es (sumE e x) (cut - (lineL e x).length - 1)
      refine ⟨k + 1, p, by simpa using hk, hp, ?_⟩
      rw [textL, List.take_append, List.take_of_length_le (by omega), List.take_succ_cons, textL, List.append_assoc, List.cons_append, ← ht]
      obtain ⟨m, hm⟩ : ∃ m, cut - (lineL e x).length = m + 1 := ⟨cut - (lineL e x).length - 1, by omega⟩
      rw [hm, List.take_succ_cons]
      rfl
    · refine ⟨0, (lineL e x).take cut, Nat.zero_le _, fun h2 => lineL_no e x (List.mem_of_mem_take h2), ?_⟩
      rw [textL, List.take_append, Nat.sub_eq_zero_of_le h]
      simp [textL]
theorem count_no (p : List UInt8) (hp : (10 : UInt8) ∉ p) : p.count 10 = 0 := List.count_eq_zero.2 hp
theorem count_text : ∀ (es : List Event) (x : Int), (textL es x).count 10 = es.length
  | [], _ => rfl
  | e :: es, x => by
    rw [textL, List.count_append, count_no _ (lineL_no e x), List.count_cons_self, count_text es]
    simp
/-- a journal's text cut off: the events whose lines are complete -/
theorem cut_rec (es : List Event) (hv : ∀ e ∈ es, evB e = true) (hl : es.length ≤ 300) (cut : Nat) :
    recS ((textL es 1).take cut) = es.take (((textL es 1).take cut).count 10) ∧ ((textL es 1).take cut).count 10 ≤ es.length := by
  obtain ⟨k, p, hk, hp, ht⟩ := cut_text es 1 cut
  have hlen : (es.take k).length = k := by rw [List.length_take]; omega
  have hc : ((textL es 1).take cut).count 10 = k := by rw [ht, List.count_append, count_text, count_no p hp, hlen]; rfl
  rw [hc]
  refine ⟨?_, hk⟩
  rw [ht]
  exact recS_app (es.take k) p (fun e he => hv e (List.mem_of_mem_take he)) (by omega) hp
theorem count_snoc (s : List UInt8) (i : Nat) (c : UInt8) (h : s[i]? = some c) : (s.take (i + 1)).count 10 = (s.take i).count 10 + (if c = 10 then 1 else 0) := by
  rw [List.take_add_one, h, List.count_append]
  by_cases hc : c = 10
  · subst hc; simp
  · simp [hc]
/-- appending a valid event to what a string begins with -/
theorem recS_more (s : List UInt8) (e : Event) (he : evB e = true) (hl : (recS s).length < 300) : recS (textL (recS s ++ [e]) 1) = recS s ++ [e] := by
  refine recS_whole _ (fun f hf => ?_) (by simp; omega)
  rcases List.mem_append.1 hf with hf | hf
  · exact recL_valid _ _ _ f hf
  · obtain rfl := List.mem_singleton.1 hf; exact he
theorem recS_again (s : List UInt8) : recS (textL (recS s) 1) = recS s := recS_whole _ (recL_valid _ _ _) (recL_len _ _ _)
end Go.Proofs.YtglbiddddflmeaaDoor
