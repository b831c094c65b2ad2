/-
  ApplyEvent of both on a copy of a room, as the law meets it.
-/
import Derived.Test.YtjpmiokbgpggbaaGreatQa45
import Derived.Test.YtjpmiokbgpggbaaGreatQa46
import Derived.Test.YtjpmiokbgpggbaaGreatQa47
namespace Go.Proofs.YtjpmiokbgpggbaaGreat
open Go.RowKit
theorem like_len {r r' : Room} (hl : r'.Like r) : r'.rs.length = r.rs.length := by have h := congrArg List.length hl.2.2.2.2; simpa using h
theorem lastXs_like {r r' : Room} (hl : r'.Like r) : lastXs r' = lastXs r := by
  unfold lastXs
  rw [← List.getElem?_map, ← List.getElem?_map, hl.2.2.2.2, like_len hl]
theorem appB_like {r r' : Room} (hl : r'.Like r) (n : Int) (x : Event) : appB n r' x = appB n r x := by
  unfold appB hourOf
  rw [lastXs_like hl, like_len hl, hl.1, hl.2.1, hl.2.2.1, hl.2.2.2.1]
theorem appR_like {r r' : Room} (hl : r'.Like r) (x : Event) : (appR r' x).Like (appR r x) := by
  unfold appR
  split
  · exact ⟨hl.1, hl.2.1, hl.2.2.1, by show r'.L ++ _ = r.L ++ _; rw [hl.2.2.2.1], hl.2.2.2.2⟩
  · split
    · refine ⟨hl.1, hl.2.1, hl.2.2.1, hl.2.2.2.1, ?_⟩
      show (r'.rs.set _ _).map RS.xs = (r.rs.set _ _).map RS.xs
      rw [List.map_set, List.map_set, hl.2.2.2.2, like_len hl, lastXs_like hl]
    · refine ⟨hl.1, hl.2.1, hl.2.2.1, hl.2.2.2.1, ?_⟩
      show (r'.rs ++ _).map RS.xs = (r.rs ++ _).map RS.xs
      rw [List.map_append, List.map_append, hl.2.2.2.2]
theorem like_refl (r : Room) : r.Like r := ⟨rfl, rfl, rfl, rfl, rfl⟩
theorem applyRR_like {r r' : Room} {n1 : Int} (hn : n1 = r.ns.length) (hok : roomB n1 r' = roomOk r) (hl : r'.Like r) (x : Event) : (applyRR n1 r' x).2 = (applyRR r.ns.length r x).2 ∧ (applyRR n1 r' x).1.Like (applyRR r.ns.length r x).1 := by
  subst hn
  unfold applyRR
  rw [show roomB (r.ns.length : Int) r' = roomB (r.ns.length : Int) r from hok, appB_like hl]
  split
  · exact ⟨rfl, like_refl _⟩
  · split
    · exact ⟨rfl, like_refl _⟩
    · split
      · exact ⟨rfl, like_refl _⟩
      · exact ⟨rfl, appR_like hl x⟩
/-- a room in blocks of its own -/
def KRoom (lo : Nat) (R : Room) : Value → World → Prop := fun v w => ∃ (A1 A2 A3 A4 A5 : Option Addr) (n1 c1 n2 c2 n3 c3 n4 c4 n5 c5 : Nat) (r' : Room) (lo' hi : Nat), v = .agg #[.slice A1 n1 c1, .slice A2 n2 c2, .slice A3 n3 c3, .slice A4 n4 c4, .slice A5 n5 c5] ∧ lo ≤ lo' ∧ hi ≤ w.heap.size ∧ ROwn w lo' hi A1 A2 A3 A4 A5 n1 c1 n2 c2 n3 c3 n4 c4 n5 c5 r' ∧ r'.Like R
theorem stKRoom (lo : Nat) (R : Room) : stK (KRoom lo R) := fun _ _ _ ⟨A1, A2, A3, A4, A5, n1, c1, n2, c2, n3, c3, n4, c4, n5, c5, r', lo', hi, h1, h2, h3, h4, h5⟩ hx => ⟨A1, A2, A3, A4, A5, n1, c1, n2, c2, n3, c3, n4, c4, n5, c5, r', lo', hi, h1, h2, Nat.le_trans h3 hx.size, h4.ext hx, h5⟩
/-- a room and a code -/
def KRC (lo : Nat) (R : Room × Int) : Value → World → Prop := fun v w => ∃ a, v = .tuple #[a, .int .i64 R.2] ∧ KRoom lo R.1 a w
theorem stKRC (lo : Nat) (R : Room × Int) : stK (KRC lo R) := fun _ _ _ ⟨a, h1, h2⟩ hx => ⟨a, h1, stKRoom _ _ _ _ _ h2 hx⟩
theorem KRoom.le {lo lo' : Nat} {R : Room} {v : Value} {w : World} (h : KRoom lo R v w) (hl : lo' ≤ lo) : KRoom lo' R v w := by
  obtain ⟨A1, A2, A3, A4, A5, n1, c1, n2, c2, n3, c3, n4, c4, n5, c5, r', l, hi, h1, h2, h3⟩ := h
  exact ⟨A1, A2, A3, A4, A5, n1, c1, n2, c2, n3, c3, n4, c4, n5, c5, r', l, hi, h1, by omega, h3⟩
theorem KRC.le {lo lo' : Nat} {R : Room × Int} {v : Value} {w : World} (h : KRC lo R v w) (hl : lo' ≤ lo) : KRC lo' R v w := let ⟨a, h1, h2⟩ := h; ⟨a, h1, h2.le hl⟩
theorem KRC.of {R R' : Room × Int} {w w' : World} {e : Ending} (h : RetRC R w e w') (h2 : R.2 = R'.2) (hl : R.1.Like R'.1) : ∃ v, e = .returned v ∧ KRC w.heap.size R' v w' ∧ Ext w w' := by
  obtain ⟨A1, A2, A3, A4, A5, n1, c1, n2, c2, n3, c3, n4, c4, n5, c5, r', rfl, ho, hlk, hx⟩ := h
  exact ⟨_, rfl, ⟨_, by rw [h2], A1, A2, A3, A4, A5, n1, c1, n2, c2, n3, c3, n4, c4, n5, c5, r', _, _, rfl, Nat.le_refl _, Nat.le_refl _, ho, hlk.trans hl⟩, hx⟩
theorem k_toRoom (A1 A2 A3 A4 A5 : Option Addr) (n1 c1 n2 c2 n3 c3 n4 c4 n5 c5 : Nat) (r : Room) (w : World) (hat : RoomAt w A1 A2 A3 A4 A5 n1 c1 n2 c2 n3 c3 n4 c4 n5 c5 r) (hz : RoomSz r n1 n2 n3 n4 n5) (hl : RoomLen r) :
    Calls Tryz.prog 16 #[.agg #[.slice A1 n1 c1, .slice A2 n2 c2, .slice A3 n3 c3, .slice A4 n4 c4, .slice A5 n5 c5]] w (fun e w' => ∃ v, e = .returned v ∧ KRoom w.heap.size r v w' ∧ Ext w w') := by
  refine (c_toRoom A1 A2 A3 A4 A5 n1 c1 n2 c2 n3 c3 n4 c4 n5 c5 r w hat hz).mono fun e w' hcp => ?_
  obtain ⟨C1, C2, C3, C4, C5, q1, f1, q2, f2, q3, f3, q4, f4, q5, f5, r4, rfl, hown4, hl4, hsm4, hx4⟩ := hcp.new hl
  exact ⟨_, rfl, ⟨C1, C2, C3, C4, C5, q1, f1, q2, f2, q3, f3, q4, f4, q5, f5, r4, _, _, rfl, Nat.le_refl _, Nat.le_refl _, hown4, hl4⟩, hx4⟩
theorem k_ApplyEvent {lo : Nat} {r : Room} {a : Value} {w : World} (h : KRoom lo r a w) (x : Event) :
    Calls Tryz.prog 8 #[a, .agg #[.int .i64 x.kind, .int .i64 x.a, .int .i64 x.b, .int .i64 x.c, .int .i64 x.d]] w (fun e w' => ∃ v, e = .returned v ∧ KRC w.heap.size (applyRR r.ns.length r x) v w' ∧ Ext w w') := by
  obtain ⟨C1, C2, C3, C4, C5, q1, f1, q2, f2, q3, f3, q4, f4, q5, f5, r4, lo', hi, rfl, _, _, ho, hlk⟩ := h
  have hat := ho.at_
  obtain ⟨h1, h2⟩ := applyRR_like (by rw [hat.s1.len, hlk.1]) (hat.ok hlk) hlk x
  exact (c_ApplyEvent C1 C2 C3 C4 C5 q1 f1 q2 f2 q3 f3 q4 f4 q5 f5 r4 x w hat).mono fun e w' h => KRC.of h h1 h2
theorem k_specApplyEvent {lo : Nat} {r : Room} {a : Value} {w : World} (h : KRoom lo r a w)(hl : RoomLen r) (x : Event) :
    Calls Tryz.prog 9 #[a, .agg #[.int .i64 x.kind, .int .i64 x.a, .int .i64 x.b, .int .i64 x.c, .int .i64 x.d]] w (fun e w' => ∃ v, e = .returned v ∧ KRC w.heap.size (applyRR r.ns.length r x) v w' ∧ Ext w w') := by
  obtain ⟨C1, C2, C3, C4, C5, q1, f1, q2, f2, q3, f3, q4, f4, q5, f5, r4, lo', hi, rfl, _, _, ho, hlk⟩ := h
  have hat := ho.at_
  obtain ⟨h1, h2⟩ := applyRR_like (by rw [hat.s1.len, hlk.1]) (hat.ok hlk) hlk x
  exact (c_specApplyEvent C1 C2 C3 C4 C5 q1 f1 q2 f2 q3 f3 q4 f4 q5 f5 r4 x w hat (by rw [hlk.1]; exact hl.2.1)).mono fun e w' h => KRC.of h h1 h2
theorem sum_le {L : List (List Reading)} {k : Nat} (h : ∀ q ∈ L, q.length ≤ k) : (L.map List.length).sum ≤ k * L.length := by
  induction L with
  | nil => simp
  | cons a L ih =>
    have h1 := h a (by simp)
    have h2 := ih (fun q hq => h q (by simp [hq]))
    simp only [List.map_cons, List.sum_cons, List.length_cons, Nat.mul_succ]
    omega
theorem zeroR_len : RoomLen zeroR := by
  refine ⟨by simp [zeroR], ?_, by simp [zeroR], by simp [zeroR], by simp [zeroR], by simp [zeroR], by simp [zeroR], by simp [zeroR]⟩
  intro x hx
  simp [zeroR] at hx
theorem applyRR_len {r : Room} (hl : RoomLen r) (x : Event) : RoomLen (applyRR r.ns.length r x).1 := by
  unfold applyRR
  split
  · exact zeroR_len
  · rename_i hb
    have hf := roomFits (r := r) (n1 := r.ns.length) (by simpa using hb)
    split
    · exact zeroR_len
    · split
      · exact zeroR_len
      · obtain ⟨k1, k2, k3, k4, k5, k6, k7, k8⟩ := hl
        have hL := hf.L
        have hrs := hf.rs
        have hxs := hf.xs
        have key : ∀ rs : List RS, rs.length ≤ 49 → (∀ q ∈ rs, q.xs.length ≤ 49) → rs.length ≤ 1048576 ∧ (∀ q ∈ rs, q.xs.length ≤ 1048576) ∧ ((rs.map RS.xs).map List.length).sum ≤ 1048576 := fun rs h1 h2 => by
          refine ⟨by omega, fun q hq => by have := h2 q hq; omega, ?_⟩
          have := sum_le (L := rs.map RS.xs) (k := 49) (fun q hq => by obtain ⟨q', hq', rfl⟩ := List.mem_map.1 hq; exact h2 q' hq')
          simp only [List.length_map] at this
          have h3 : 49 * rs.length ≤ 49 * 49 := Nat.mul_le_mul_left _ h1
          omega
        have hlast : (lastXs r).length ≤ 48 := by
          unfold lastXs
          cases hq : r.rs[r.rs.length - 1]? with
          | none => simp
          | some q => exact hxs q (List.mem_of_getElem? hq)
        unfold appR
        split
        · obtain ⟨a1, a2, a3⟩ := key r.rs (by omega) (fun q hq => by have := hxs q hq; omega)
          exact ⟨k1, k2, k3, k4, by simp; omega, a1, a2, a3⟩
        · split
          · obtain ⟨a1, a2, a3⟩ := key (r.rs.set (r.rs.length - 1) ⟨none, 0, 0, lastXs r ++ [evRead x]⟩) (by simp; omega) (fun q hq => by
              rcases List.mem_or_eq_of_mem_set hq with h | h
              · have := hxs q h; omega
              · subst h; simp; omega)
            exact ⟨k1, k2, k3, k4, k5, a1, a2, a3⟩
          · obtain ⟨a1, a2, a3⟩ := key (r.rs ++ [⟨none, 0, 0, []⟩]) (by simp; omega) (fun q hq => by
              rcases List.mem_append.1 hq with h | h
              · have := hxs q h; omega
              · simp at h; subst h; simp)
            exact ⟨k1, k2, k3, k4, k5, a1, a2, a3⟩
theorem own_sm {w : World} {lo hi : Nat} {A1 A2 A3 A4 A5 : Option Addr} {n1 c1 n2 c2 n3 c3 n4 c4 n5 c5 : Nat} {r' R : Room} (h : ROwn w lo hi A1 A2 A3 A4 A5 n1 c1 n2 c2 n3 c3 n4 c4 n5 c5 r') (hl : r'.Like R) (hR : RoomLen R) : RoomSm n1 n2 n3 n4 r'.rs := by
  obtain ⟨k1, _, k2, k3, k4, k5, _, k8⟩ := hR.like hl
  refine ⟨by rw [h.o1.1]; exact k1, by rw [h.o2.1]; exact k2, by rw [h.o3.1]; exact k3, by rw [h.o4.1]; exact k4, ?_⟩
  have : r'.rs.map RS.n = (r'.rs.map RS.xs).map List.length := by rw [List.map_map]; exact List.map_congr_left (fun q hq => (h.o6 q hq).1)
  rw [this]; exact k8
end Go.Proofs.YtjpmiokbgpggbaaGreat
