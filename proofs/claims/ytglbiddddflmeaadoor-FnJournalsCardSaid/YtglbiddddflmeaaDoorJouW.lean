/-
  Plain lemmas on texts: words and lines; the line of an event and how it is read. No function of the program is named here.
-/
import Derived.Test.YtglbiddddflmeaaDoorJouP
import Derived.Test.YtglbiddddflmeaaDoorEvD
import Derived.Lib.SlicesS
namespace Go.Proofs.YtglbiddddflmeaaDoor
open Go.Lib
/-- the pieces of a text, cut at every occurrence of a byte -/
def splitL (c : UInt8) : List UInt8 → List (List UInt8)
  | [] => [[]]
  | b :: l => if b = c then [] :: splitL c l else (match splitL c l with | x :: xs => (b :: x) :: xs | [] => [])
theorem splitL_ne (c : UInt8) : ∀ s, splitL c s ≠ []
  | [] => by simp [splitL]
  | b :: l => by
    rw [splitL]
    split
    · simp
    · have h := splitL_ne c l
      split
      · simp
      · rename_i h0; exact absurd h0 h
theorem index_cons_ne (b c : UInt8) (l : List UInt8) (h : b ≠ c) : index (b :: l) [c] = if index l [c] == -1 then -1 else index l [c] + 1 := by
  have hp : ([c] : List UInt8).isPrefixOf (b :: l) = false := by simp [List.isPrefixOf, Ne.symm h]
  rw [index, hp]; simp
theorem splitK_one (c : UInt8) : ∀ s : List UInt8, splitK [c] 0 (count s [c]) s = splitL c s
  | [] => by rw [count_miss (by simp [index])]; rfl
  | b :: l => by
    have ih := splitK_one c l
    by_cases h : b = c
    · subst h
      have hix : index (b :: l) [b] = ((0 : Nat) : Int) := by rw [index]; simp [List.isPrefixOf]
      rw [count_cons_eq, Nat.add_comm, splitL, if_pos rfl, splitK, hix, ← ih]
      simp
    · rw [count_cons_ne b c l h, splitL, if_neg h, ← ih]
      by_cases hm : index l [c] = -1
      · rw [count_miss hm]; rfl
      · have hge := index_ge l [c]
        obtain ⟨j, hj⟩ : ∃ j : Nat, index l [c] = j := ⟨(index l [c]).toNat, by omega⟩
        have hix' : index (b :: l) [c] = ((j + 1 : Nat) : Int) := by rw [index_cons_ne b c l h, if_neg (fun e => hm (beq_iff_eq.1 e)), hj]; omega
        rw [count_hit (by simp) hj, Nat.add_comm 1]
        rw [splitK, splitK, hix', hj]
        have e1 : ((((j + 1 : Nat) : Int)) == -1) = false := by rw [beq_eq_false_iff_ne]; omega
        have e2 : (((j : Nat) : Int) == -1) = false := by rw [beq_eq_false_iff_ne]; omega
        rw [e1, e2]
        simp only [Bool.false_eq_true, if_false, Int.toNat_natCast, Nat.add_zero, List.take_succ_cons, List.length_singleton]
        rw [show j + 1 + 1 = (j + 1) + 1 from rfl, List.drop_succ_cons]
theorem splitL_no (c : UInt8) : ∀ p : List UInt8, c ∉ p → splitL c p = [p]
  | [], _ => rfl
  | b :: l, h => by
    rw [List.mem_cons, not_or] at h
    rw [splitL, if_neg (Ne.symm h.1), splitL_no c l h.2]
theorem splitL_app (c : UInt8) (r : List UInt8) : ∀ p : List UInt8, c ∉ p → splitL c (p ++ c :: r) = p :: splitL c r
  | [], _ => by rw [List.nil_append, splitL, if_pos rfl]
  | b :: l, h => by
    rw [List.mem_cons, not_or] at h
    rw [List.cons_append, splitL, if_neg (Ne.symm h.1), splitL_app c r l h.2]
theorem joinTail_cons (sep : List UInt8) (y : List UInt8) (r : List (List UInt8)) : joinTail sep (y :: r) = sep ++ y ++ joinTail sep r := by
  simp [joinTail]
theorem splitL_join (c : UInt8) : ∀ (ws : List (List UInt8)) (x : List UInt8), c ∉ x → (∀ w ∈ ws, c ∉ w) → splitL c (join (x :: ws) [c]) = x :: ws
  | [], x, hx, _ => by rw [join_one, splitL_no c x hx]
  | y :: ws, x, hx, h => by
    rw [join_cons, joinTail_cons, List.append_assoc, ← join_cons, List.singleton_append, splitL_app c _ x hx, splitL_join c ws y (h y (by simp)) (fun w hw => h w (by simp [hw]))]
/-- lines, each with its newline -/
def unl (c : UInt8) (ls : List (List UInt8)) : List UInt8 := ls.flatMap fun l => l ++ [c]
theorem unl_cons (c : UInt8) (l : List UInt8) (ls : List (List UInt8)) : unl c (l :: ls) = l ++ c :: unl c ls := by simp [unl]
theorem unl_split (c : UInt8) : ∀ s : List UInt8, ∃ p, c ∉ p ∧ splitL c s = (splitL c s).dropLast ++ [p] ∧ s = unl c (splitL c s).dropLast ++ p
  | [] => ⟨[], by simp, rfl, rfl⟩
  | b :: l => by
    obtain ⟨p, hp, h1, h2⟩ := unl_split c l
    by_cases h : b = c
    · subst h
      refine ⟨p, hp, ?_, ?_⟩
      · rw [splitL, if_pos rfl, List.dropLast_cons_of_ne_nil (splitL_ne b l), List.cons_append, ← h1]
      · rw [splitL, if_pos rfl, List.dropLast_cons_of_ne_nil (splitL_ne b l), unl_cons, List.nil_append, List.cons_append, ← h2]
    · rw [splitL, if_neg h]
      cases hs : splitL c l with
      | nil => exact absurd hs (splitL_ne c l)
      | cons x xs =>
        rw [hs] at h1 h2
        simp only
        cases xs with
        | nil =>
          simp at h1 h2
          refine ⟨b :: p, by simp [hp, Ne.symm h], ?_, ?_⟩
          · simp [h1]
          · rw [h2]; rfl
        | cons y ys =>
          rw [List.dropLast_cons_of_ne_nil (by simp)] at h1 h2
          refine ⟨p, hp, ?_, ?_⟩
          · rw [List.dropLast_cons_of_ne_nil (by simp)]
            simp only [List.cons_append, List.cons.injEq] at h1 ⊢
            exact ⟨trivial, h1.2⟩
          · rw [List.dropLast_cons_of_ne_nil (by simp), unl_cons]
            rw [unl_cons] at h2
            rw [h2]; simp
/-- the words of the kinds -/
def wNom : List UInt8 := [110, 111, 109, 105, 110, 97, 116, 101]
def wRead : List UInt8 := [114, 101, 97, 100]
def wClose : List UInt8 := [99, 108, 111, 115, 101]
def evWord (k : Int) : List UInt8 := if k = 1 then wNom else if k = 2 then wRead else wClose
def headL (e : Event) : List UInt8 := evWord e.kind ++ 32 :: join [itoa e.a, itoa e.b, itoa e.c, itoa e.d] [32]
def sumL (x : Int) (l : List UInt8) : Int := l.foldl (fun x c => (257 * x + (c.toNat : Int) + 1) % 99991) x
def sumE (e : Event) (x : Int) : Int := sumL x (headL e)
def lineL (e : Event) (x : Int) : List UInt8 := headL e ++ 32 :: itoa (sumE e x)
theorem sumL_bound : ∀ (l : List UInt8) (x : Int), 0 ≤ x → x < 99991 → 0 ≤ sumL x l ∧ sumL x l < 99991
  | [], _, h0, h1 => ⟨h0, h1⟩
  | c :: l, x, h0, h1 => sumL_bound l _ (Int.emod_nonneg _ (by omega)) (Int.emod_lt_of_pos _ (by omega))
theorem sumL_append (l r : List UInt8) (x : Int) : sumL x (l ++ r) = sumL (sumL x l) r := by simp [sumL]
theorem itoa_mem (n : Int) : ∀ c ∈ itoa n, c.toNat = 45 ∨ 48 ≤ c.toNat ∧ c.toNat ≤ 57 := by
  intro c hc
  unfold itoa at hc
  split at hc
  · rcases List.mem_cons.1 hc with rfl | hc
    · left; rfl
    · exact .inr (decDigits_digit _ _ (Nat.lt_succ_self _) c hc)
  · exact .inr (decDigits_digit _ _ (Nat.lt_succ_self _) c hc)
theorem itoa_no (n : Int) (c : UInt8) (h : c.toNat < 45) : c ∉ itoa n := fun hc => by have := itoa_mem n c hc; omega
theorem evWord_no (k : Int) (c : UInt8) (h : c.toNat < 45) : c ∉ evWord k := by
  intro hc
  have : ∀ c ∈ evWord k, 45 ≤ c.toNat := by
    unfold evWord
    split
    · decide
    · split <;> decide
  have := this c hc
  omega
theorem join_four (a b c d : List UInt8) : join [a, b, c, d] [32] = a ++ 32 :: (b ++ 32 :: (c ++ 32 :: d)) := by
  simp [join_cons, joinTail]
theorem lineL_join (e : Event) (x : Int) : lineL e x = join [evWord e.kind, itoa e.a, itoa e.b, itoa e.c, itoa e.d, itoa (sumE e x)] [32] := by
  simp [lineL, headL, join_cons, joinTail]
theorem lineL_split (e : Event) (x : Int) : splitL 32 (lineL e x) = [evWord e.kind, itoa e.a, itoa e.b, itoa e.c, itoa e.d, itoa (sumE e x)] := by
  rw [lineL_join]
  refine splitL_join 32 _ _ (evWord_no _ _ (by decide)) ?_
  intro w hw
  simp only [List.mem_cons, List.not_mem_nil, or_false] at hw
  rcases hw with rfl | rfl | rfl | rfl | rfl <;> exact itoa_no _ _ (by decide)
theorem lineL_no (e : Event) (x : Int) : (10 : UInt8) ∉ lineL e x := by
  have h1 : (10 : UInt8) ∉ evWord e.kind := evWord_no _ _ (by decide)
  have h2 : ∀ n, (10 : UInt8) ∉ itoa n := fun n => itoa_no n _ (by decide)
  simp only [lineL, headL, join_four, List.mem_append, List.mem_cons, not_or]
  simp [h1, h2]
def mkB (l : List UInt8) : ByteArray := ⟨l.toArray⟩
theorem mkB_of (b : ByteArray) : mkB b.data.toList = b := rfl
theorem mkB_list (l : List UInt8) : (mkB l).data.toList = l := rfl
theorem mkB_inj {a b : List UInt8} (h : mkB a = mkB b) : a = b := by
  have := congrArg (fun x => x.data.toList) h
  exact this
theorem mkB_append (a b : List UInt8) : mkB a ++ mkB b = mkB (a ++ b) := by
  apply ByteArray.ext
  simp [mkB, ByteArray.data_append]
theorem mkB_size (l : List UInt8) : (mkB l).size = l.length := rfl
/-- what strings.Split yields at a separator of one byte -/
theorem splitB_mkB (c : UInt8) (l : List UInt8) : splitB (mkB [c]) 0 (countB (mkB l) (mkB [c])) (mkB l) = (splitL c l).map mkB := by
  have h := splitB_data (mkB [c]) 0 (countB (mkB l) (mkB [c])) (mkB l)
  have hc : countB (mkB l) (mkB [c]) = count l [c] := rfl
  rw [hc, mkB_list, mkB_list, splitK_one] at h
  rw [hc, ← h, List.map_map]
  simp only [Function.comp_def, mkB_of, List.map_id']
theorem countB_mkB (c : UInt8) (l : List UInt8) : countB (mkB l) (mkB [c]) + 1 = (splitL c l).length := by
  have h := splitB_all (mkB [c]) (show 1 ≤ 1 by decide) 0 _ (mkB l) rfl
  rw [splitB_mkB] at h
  rw [← h, List.length_map]
def numP (w : List UInt8) : Option Int := match parseIntB 64 w with | .ok n => if itoa n = w then some n else none | _ => none
theorem numP_itoa (n : Int) (h0 : -1000000000 ≤ n) (h1 : n ≤ 1000000000) : numP (itoa n) = some n := by
  simp [numP, parse_itoa n h0 h1]
def kindP (w : List UInt8) : Int := idxOfS [mkB [], mkB wNom, mkB wRead, mkB wClose] (mkB w)
theorem kindP_evWord (k : Int) (h : inB k 1 3 = true) : kindP (evWord k) = k := by
  rw [inB_true] at h
  have : k = 1 ∨ k = 2 ∨ k = 3 := by omega
  rcases this with rfl | rfl | rfl <;> decide
def noEv : Event := ⟨0, 0, 0, 0, 0⟩
def evOf (w : List UInt8) : Option (List Int) → Event
  | some [a, b, c, d, _] => ⟨kindP w, a, b, c, d⟩
  | _ => noEv
def readP (line : List UInt8) : Event := match splitL 32 line with
  | w :: ws => evOf w (ws.mapM numP)
  | [] => noEv
theorem evB_bounds {e : Event} (h : evB e = true) : inB e.kind 1 3 = true ∧ (-30000 ≤ e.a ∧ e.a ≤ 30000) ∧ (-30000 ≤ e.b ∧ e.b ≤ 30000) ∧ (-30000 ≤ e.c ∧ e.c ≤ 30000) ∧ (-30000 ≤ e.d ∧ e.d ≤ 30000) := by
  simp only [evB, flowB, Bool.and_eq_true, inB_true] at h
  refine ⟨inB_true.2 h.1.1.1.1, h.1.1.1.2, h.1.1.2, h.1.2, h.2⟩
theorem readP_lineL (e : Event) (x : Int) (he : evB e = true) (h0 : 0 ≤ x) (h1 : x < 99991) : readP (lineL e x) = e := by
  obtain ⟨hk, ha, hb, hc, hd⟩ := evB_bounds he
  have hs := sumL_bound (headL e) x h0 h1
  unfold readP
  rw [lineL_split]
  simp only [List.mapM_cons, List.mapM_nil]
  rw [numP_itoa _ (by omega) (by omega), numP_itoa _ (by omega) (by omega), numP_itoa _ (by omega) (by omega), numP_itoa _ (by omega) (by omega), numP_itoa (sumE e x) (by unfold sumE; omega) (by unfold sumE; omega)]
  simp only [Option.bind_eq_bind, Option.bind_some, Option.pure_def, evOf, kindP_evWord _ hk]
theorem noEv_not : evB noEv = false := by decide
/-- which event a line is the line of, behind a sum -/
def next (line : List UInt8) (x : Int) : Option Event := if evB (readP line) = true ∧ lineL (readP line) x = line then some (readP line) else none
theorem next_some {line : List UInt8} {x : Int} {e : Event} (h : next line x = some e) : evB e = true ∧ lineL e x = line := by
  unfold next at h
  split at h
  · rename_i h2; obtain rfl := Option.some.inj h; exact h2
  · cases h
theorem next_line (e : Event) (x : Int) (he : evB e = true) (h0 : 0 ≤ x) (h1 : x < 99991) : next (lineL e x) x = some e := by
  unfold next
  rw [readP_lineL e x he h0 h1, if_pos ⟨he, rfl⟩]
/-- the events of the longest journal in lines -/
def recL : List (List UInt8) → Nat → Int → List Event
  | [], _, _ => []
  | _ :: _, 0, _ => []
  | l :: ls, k + 1, x => match next l x with | some e => e :: recL ls k (sumE e x) | none => []
def sumEs : List Event → Int → Int
  | [], x => x
  | e :: es, x => sumEs es (sumE e x)
def textL : List Event → Int → List UInt8
  | [], _ => []
  | e :: es, x => lineL e x ++ 10 :: textL es (sumE e x)
theorem sumE_bound (e : Event) (x : Int) (h0 : 0 ≤ x) (h1 : x < 99991) : 0 ≤ sumE e x ∧ sumE e x < 99991 := sumL_bound _ _ h0 h1
theorem sumEs_bound : ∀ (es : List Event) (x : Int), 0 ≤ x → x < 99991 → 0 ≤ sumEs es x ∧ sumEs es x < 99991
  | [], _, h0, h1 => ⟨h0, h1⟩
  | e :: es, x, h0, h1 => sumEs_bound es _ (sumE_bound e x h0 h1).1 (sumE_bound e x h0 h1).2
theorem sumEs_append : ∀ (es fs : List Event) (x : Int), sumEs (es ++ fs) x = sumEs fs (sumEs es x)
  | [], _, _ => rfl
  | _ :: es, fs, _ => sumEs_append es fs _
theorem textL_append : ∀ (es fs : List Event) (x : Int), textL (es ++ fs) x = textL es x ++ textL fs (sumEs es x)
  | [], _, _ => rfl
  | _ :: es, fs, _ => by simp [textL, sumEs, textL_append es fs]
theorem recL_valid : ∀ (ls : List (List UInt8)) (k : Nat) (x : Int), ∀ e ∈ recL ls k x, evB e = true
  | [], _, _ => by simp [recL]
  | _ :: _, 0, _ => by simp [recL]
  | l :: ls, k + 1, _ => by
    unfold recL
    split
    · rename_i e he
      intro f hf
      rcases List.mem_cons.1 hf with rfl | hf
      · exact (next_some he).1
      · exact recL_valid ls k _ f hf
    · simp
theorem recL_len : ∀ (ls : List (List UInt8)) (k : Nat) (x : Int), (recL ls k x).length ≤ k
  | [], _, _ => by simp [recL]
  | _ :: _, 0, _ => by simp [recL]
  | l :: ls, k + 1, x => by
    unfold recL
    split
    · rename_i e _; have := recL_len ls k (sumE e x); simp; omega
    · simp
theorem recL_text : ∀ (ls : List (List UInt8)) (k : Nat) (x : Int), ∃ rs, unl 10 ls = textL (recL ls k x) x ++ unl 10 rs
  | [], _, _ => ⟨[], rfl⟩
  | l :: ls, 0, _ => ⟨l :: ls, by simp [recL, textL]⟩
  | l :: ls, k + 1, x => by
    unfold recL
    split
    · rename_i e he
      obtain ⟨rs, h⟩ := recL_text ls k (sumE e x)
      refine ⟨rs, ?_⟩
      rw [unl_cons, h, textL, (next_some he).2]
      simp
    · exact ⟨l :: ls, by simp [textL]⟩
def maxEv : Nat := 300
/-- the events of the longest journal with which a string begins -/
def recS (s : List UInt8) : List Event := recL (splitL 10 s).dropLast maxEv 1
theorem recS_text (s : List UInt8) : ∃ r, s = textL (recS s) 1 ++ r := by
  obtain ⟨p, _, _, h⟩ := unl_split 10 s
  obtain ⟨rs, h2⟩ := recL_text (splitL 10 s).dropLast maxEv 1
  refine ⟨unl 10 rs ++ p, ?_⟩
  rw [h2, List.append_assoc] at h
  exact h
theorem recS_take (s : List UInt8) : s.take (textL (recS s) 1).length = textL (recS s) 1 := by
  obtain ⟨r, h⟩ := recS_text s
  conv => lhs; arg 2; rw [h]
  simp
theorem recS_le (s : List UInt8) : (textL (recS s) 1).length ≤ s.length := by
  obtain ⟨r, h⟩ := recS_text s
  have := congrArg List.length h
  rw [List.length_append] at this
  omega
end Go.Proofs.YtglbiddddflmeaaDoor
