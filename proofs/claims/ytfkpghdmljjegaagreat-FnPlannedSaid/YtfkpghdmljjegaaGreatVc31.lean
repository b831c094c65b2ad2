/-
  What is settled in an hour, in plain Lean: its code, its transports, its orders. What flows out of a node, in plain Lean: a sending turns it at its two ends alone; what routing leaves and what flows out add up to the supplies. Planned flows of an hour, in plain Lean: they can be routed, keep the limits and carry the supplies. No function of the program is named here. KeepsLimits of the program, for flows that keep them. Planned readings, in plain Lean: allocating them gives each order its amount. Contracts of the small functions on numbers and on terms (no loops).
-/
import Derived.Test.YtfkpghdmljjegaaGreatVc27
import Derived.Test.YtfkpghdmljjegaaGreatVc21
import Derived.Test.YtfkpghdmljjegaaGreatVc07
import Derived.Test.YtfkpghdmljjegaaGreatVc30
import Derived.Test.YtfkpghdmljjegaaGreatVc23
import Derived.Test.YtfkpghdmljjegaaGreatVc04
import Derived.Test.YtfkpghdmljjegaaGreatVc00
namespace Go.Proofs.YtfkpghdmljjegaaGreat
open Go.RowKit
/-- the code of an hour -/
def setC (n1 : Int) (ns : List Node) (ps : List Pipe) (xs : List Contract) (L : List Nomination) (h : Int) : Int :=
  if nomC n1 ns ps xs L = 0 then (if inB h 0 47 = false then 2 else if 20 < xs.length then 7 else 0) else nomC n1 ns ps xs L
/-- an hour that may be settled -/
structure HrOk (n1 : Nat) (ns : List Node) (ps : List Pipe) (xs : List Contract) (L : List Nomination) (h : Int) : Prop where
  net : netB ns ps = true
  bk : bookB n1 xs = true
  nm : nomsB xs L = true
  hr : inB h 0 47 = true
  le : xs.length ≤ 20
theorem nomC_ok3 {n1 : Int} {ns : List Node} {ps : List Pipe} {xs : List Contract} {L : List Nomination} (h : nomC n1 ns ps xs L = 0) : netB ns ps = true ∧ bookB n1 xs = true ∧ nomsB xs L = true := by
  unfold nomC at h
  split at h
  · rename_i h0
    obtain ⟨h1, h2⟩ := book_zero h0
    split at h
    · cases h
    · exact ⟨h1, h2, by simp_all⟩
  · exact absurd h (by assumption)
theorem setC_ok {n1 : Nat} {ns : List Node} {ps : List Pipe} {xs : List Contract} {L : List Nomination} {h : Int} (hz : setC n1 ns ps xs L h = 0) : HrOk n1 ns ps xs L h := by
  unfold setC at hz
  split at hz
  · rename_i h0
    obtain ⟨a, b, c⟩ := nomC_ok3 h0
    split at hz
    · cases hz
    · split at hz
      · cases hz
      · exact ⟨a, b, c, by simp_all, by omega⟩
  · exact absurd hz (by assumption)
theorem con_facts {nn : Int} {xs : List Contract} (h : bookB nn xs = true) : ∀ x ∈ xs, (0 ≤ x.shipper ∧ x.shipper ≤ 15) ∧ (0 ≤ x.entry ∧ x.entry < nn) ∧ (0 ≤ x.exit ∧ x.exit < nn) ∧ x.entry ≠ x.exit ∧ (1 ≤ x.amount ∧ x.amount ≤ 30000) ∧ (0 ≤ x.cls ∧ x.cls ≤ 3) := by
  intro x hx
  simp only [bookB, Bool.and_eq_true, List.all_eq_true] at h
  have := h.2 x hx
  simp only [conB, Bool.and_eq_true, inB_true, bne_iff_ne, ne_eq, decide_eq_true_eq] at this
  omega
theorem nom_facts {nn : Int} {xs : List Contract} {L : List Nomination} (hb : bookB nn xs = true) (h : nomsB xs L = true) : L.length ≤ 200 ∧ ∀ x ∈ L, (0 ≤ x.contract ∧ x.contract < xs.length) ∧ (0 ≤ x.amount ∧ x.amount ≤ 30000) := by
  simp only [nomsB, Bool.and_eq_true, decide_eq_true_eq, List.all_eq_true] at h
  refine ⟨h.1, fun x hx => ?_⟩
  obtain ⟨k, hk, rfl⟩ := List.mem_iff_getElem.1 hx
  have h1 := h.2 k (by simpa using hk)
  rw [nomOk_at (List.getElem?_eq_getElem hk), Bool.and_eq_true] at h1
  have h2 := h1.1
  unfold nomB at h2
  split at h2
  · rename_i p hp
    have hpc := (con_facts hb p (List.mem_of_getElem? hp)).2.2.2.2.1
    simp only [Bool.and_eq_true, inB_true] at h2
    omega
  · cases h2
section
variable {n1 : Nat} {xs : List Contract} {L : List Nomination}
theorem trn_ok (hb : bookB n1 xs = true) (hn : nomsB xs L = true) (h : Int) : ∀ x ∈ trnL xs L h, TrnB n1 30000 x := by
  intro x hx
  have ha := amtL_in (nb := xs.length) (h := h) (fun y hy => ((nom_facts hb hn).2 y hy).2)
  obtain ⟨k, hk, rfl⟩ := List.mem_iff_getElem.1 hx
  unfold trnL at hk ⊢
  rw [List.length_zipWith] at hk
  rw [List.getElem_zipWith]
  have h1 := con_facts hb (xs[k]'(by omega)) (List.getElem_mem _)
  have h2 := ha ((amtL xs.length L h)[k]'(by omega)) (List.getElem_mem _)
  unfold trnOf
  exact ⟨h1.2.1, h1.2.2.1, h2, ⟨h1.2.2.2.2.2.1, by have := h1.2.2.2.2.2.2; show (xs[k]'(by omega)).cls < 4; omega⟩⟩
end
/-- the curtailed transports of an hour -/
noncomputable def lessT (ps : List Pipe) (N : Nat) (xs : List Contract) (L : List Nomination) (h : Int) : List Trn := (trnL xs L h).map (scaleT (scalesF (fitS ps N (trnL xs L h))))
/-- the scales of an hour -/
noncomputable def hrSc (ps : List Pipe) (N : Nat) (xs : List Contract) (L : List Nomination) (h : Int) : List Int := scalesF (fitS ps N (trnL xs L h))
theorem hrSc_in (ps : List Pipe) (N : Nat) (xs : List Contract) (L : List Nomination) (h : Int) : ScaleIn (hrSc ps N xs L h) := scK_in _ 4
theorem hrSc_len (ps : List Pipe) (N : Nat) (xs : List Contract) (L : List Nomination) (h : Int) : (hrSc ps N xs L h).length = 4 := (hrSc_in ps N xs L h).1
theorem lessT_len (ps : List Pipe) (N : Nat) (xs : List Contract) (L : List Nomination) (h : Int) : (lessT ps N xs L h).length = xs.length := by
  unfold lessT; rw [List.length_map, trnL_len]
theorem less_ok {n1 : Nat} {ps : List Pipe} {xs : List Contract} {L : List Nomination} (hb : bookB n1 xs = true) (hn : nomsB xs L = true) (h : Int) : ∀ x ∈ lessT ps n1 xs L h, TrnB n1 30000 x := by
  intro x hx
  obtain ⟨y, hy, rfl⟩ := List.mem_map.1 hx
  exact scaleT_ok (trn_ok hb hn h y hy) (hrSc_in ps n1 xs L h)
/-- the orders of an hour -/
noncomputable def hrOrd (ps : List Pipe) (N : Nat) (xs : List Contract) (L : List Nomination) (h : Int) : List Order := ordL xs ((lessT ps N xs L h).map Trn.amount)
theorem hrOrd_len (ps : List Pipe) (N : Nat) (xs : List Contract) (L : List Nomination) (h : Int) : (hrOrd ps N xs L h).length = 2 * xs.length := ordL_len _ _ (by rw [List.length_map, lessT_len])
/-- what planned flows are -/
noncomputable def pfV (n1 : Nat) (ns : List Node) (ps : List Pipe) (xs : List Contract) (L : List Nomination) (h : Int) : List Int × Int :=
  if setC n1 ns ps xs L h = 0 then routR ps n1 (supT n1 (lessT ps n1 xs L h)) else ([], setC n1 ns ps xs L h)
/-- what planned readings are -/
noncomputable def prV (n1 : Nat) (ns : List Node) (ps : List Pipe) (xs : List Contract) (L : List Nomination) (h : Int) : List Reading × Int :=
  if setC n1 ns ps xs L h = 0 then rfV n1 ns ps (hrOrd ps n1 xs L h) else ([], setC n1 ns ps xs L h)
end Go.Proofs.YtfkpghdmljjegaaGreat

namespace Go.Proofs.YtfkpghdmljjegaaGreat
/-- what a pipe takes out of a node -/
def outC (p : Pipe) (f : Int) (i : Int) : Int := (if p.src = i then f else 0) - (if p.dst = i then f else 0)
/-- what flows out of a node -/
def outF : List Pipe → List Int → Int → Int
  | p :: ps, f :: fl, i => outC p f i + outF ps fl i
  | _, _, _ => 0
theorem outF_set : ∀ {ps : List Pipe} {fl : List Int} {k : Nat} {p : Pipe} {f : Int} (g i : Int), ps[k]? = some p → fl[k]? = some f → outF ps (fl.set k g) i = outF ps fl i - outC p f i + outC p g i
  | [], fl, k, p, f, g, i, hp, hf => by simp at hp
  | q :: ps, [], k, p, f, g, i, hp, hf => by simp at hf
  | q :: ps, e :: fl, 0, p, f, g, i, hp, hf => by
    simp at hp hf
    subst hp; subst hf
    simp only [List.set_cons_zero, outF]; omega
  | q :: ps, e :: fl, k + 1, p, f, g, i, hp, hf => by
    simp only [List.set_cons_succ, outF]
    rw [outF_set (ps := ps) (fl := fl) g i (by simpa using hp) (by simpa using hf)]; omega
theorem outF_zero : ∀ (ps : List Pipe) (n : Nat) (i : Int), outF ps (List.replicate n 0) i = 0
  | [], n, i => by cases n <;> rfl
  | p :: ps, 0, i => rfl
  | p :: ps, n + 1, i => by
    rw [List.replicate_succ, outF, outF_zero ps n i]
    unfold outC; split <;> split <;> rfl
def atZ (i q a : Int) : Int := if q = i then a else 0
theorem outC_turn {p : Pipe} {a f up to i : Int} (hx : p.src = to ∨ p.dst = to) (hu : othE p to = up) (hne : p.src ≠ p.dst) : outC p (if p.src = up then f + a else f - a) i = outC p f i + atZ i up a - atZ i to a := by
  unfold othE at hu
  unfold outC atZ
  by_cases h1 : p.src = to
  · rw [if_pos h1] at hu
    subst hu; subst h1
    rw [if_neg hne]
    by_cases a1 : p.src = i <;> by_cases a2 : p.dst = i <;> simp [a1, a2] <;> omega
  · rw [if_neg h1] at hu
    have h2 : p.dst = to := by omega
    subst hu; subst h2
    rw [if_pos rfl]
    by_cases a1 : p.src = i <;> by_cases a2 : p.dst = i <;> simp [a1, a2] <;> omega
theorem outF_path {ps : List Pipe} {N : Nat} {en : List Int} {q : Int} (he : EndsN N ps) (a i : Int) : ∀ {L : List Stp} {x : Int} {fl : List Int}, Pth ps en q x L → Rest ps N L → fl.length = ps.length → outF ps (addA ps a fl L) i = outF ps fl i + atZ i q a - atZ i x a
  | [], x, fl, h, hr, hl => by
    cases h
    show outF ps fl i = _
    omega
  | e :: L, x, fl, h, hr, hl => by
    cases h with
    | @cons _ k p _ hne hen hp h =>
      obtain ⟨p', h1, h2, h3, _⟩ := hr.ok _ List.mem_cons_self
      simp only at h1 h2 h3
      rw [hp] at h1
      obtain rfl := Option.some.inj h1
      obtain ⟨f, hf⟩ : ∃ f, fl[k]? = some f := ⟨_, List.getElem?_eq_getElem (by rw [hl]; exact (List.getElem?_eq_some_iff.1 hp).1)⟩
      rw [addA_cons, outF_path he a i h hr.tail (by rw [List.length_set]; exact hl)]
      simp only
      rw [outF_set _ i hp hf, hf, Option.getD_some, turnS_at hp, outC_turn h2 rfl (he _ (List.mem_of_getElem? hp)).2.2]
      omega
/-- what flows out and what is left are the supplies -/
def Bal (ps : List Pipe) (N : Nat) (sup : List Int) (s : Rst) : Prop := ∀ i : Nat, i < N → outF ps s.fl i + zAt s.lf i = zAt sup i
theorem zAt_set {l : List Int} {k : Nat} (hk : k < l.length) (v : Int) (i : Nat) : zAt (l.set k v) i = if k = i then v else zAt l i := by
  unfold zAt
  by_cases h : k = i
  · subst h; rw [List.getElem?_set_self hk, if_pos rfl]; rfl
  · rw [List.getElem?_set_ne h, if_neg h]
section
variable {ps : List Pipe} {N : Nat} {sup : List Int} {s s' t : Rst}
theorem Bal.send {q x : Nat} {lq lt : Int} {L : List Stp} (h : Bal ps N sup s) (hI : RInv ps N s) (hP : PipesN N ps) (hq : q < N) (hT : Tgt ps N q s x lq lt L) : Bal ps N sup (sendZ ps N q s x) := by
  intro i hi
  rw [hT.send]
  simp only
  rw [outF_path hP.ends _ _ hT.path (hT.rest hP.ends) hI.fl]
  have h1 := h i hi
  have hx := hT.tN
  rw [zAt_set (by rw [List.length_set, hI.lf]; exact hx), zAt_set (by rw [hI.lf]; exact hq)]
  have e1 := zAt_some hT.fq
  have e2 := zAt_some hT.ft
  have hne := hT.ne
  unfold atZ
  by_cases c1 : x = i
  · subst c1
    rw [if_pos rfl, if_pos rfl, if_neg (by omega)]
    omega
  · rw [if_neg c1, if_neg (show ¬ (x : Int) = i by omega)]
    by_cases c2 : q = i
    · subst c2; rw [if_pos rfl, if_pos rfl]; omega
    · rw [if_neg c2, if_neg (by omega)]; omega
theorem Bal.route (r : Route ps N s t) (hP : PipesN N ps) : RInv ps N s → Bal ps N sup s → Bal ps N sup t := by
  induction r with
  | done _ => exact fun _ h => h
  | step h1 _ ih =>
    intro hI h
    have hk := (oneS_keeps h1 hI hP).1
    obtain ⟨q, x, lq, lt, L, hq, h0, hT, rfl⟩ := oneS_of h1 hI hP
    exact ih hk (h.send hI hP hq hT)
end
/-- routing to the end carries the supplies -/
theorem routed_bal {ps : List Pipe} {N : Nat} {sup : List Int} (hP : PipesN N ps) (hl : sup.length = N) (hb : ∀ z ∈ sup, -30000 ≤ z ∧ z ≤ 30000) (hz : ∀ z ∈ (routed ps N sup).lf, z = 0) (i : Nat) (hi : i < N) : outF ps (routed ps N sup).fl i = zAt sup i := by
  have hr := routed_route hP hl hb
  have h0 : Bal ps N sup (rst0 ps sup) := fun j hj => by simp only [rst0]; rw [outF_zero]; omega
  have h1 := Bal.route hr hP (rst0_inv hP hl hb) h0 i hi
  have h2 : zAt (routed ps N sup).lf i = 0 := by
    have hI := (hr.inv (rst0_inv hP hl hb) hP).1
    obtain ⟨z, hz'⟩ : ∃ z, (routed ps N sup).lf[i]? = some z := ⟨_, List.getElem?_eq_getElem (by rw [hI.lf]; exact hi)⟩
    rw [zAt_some hz', hz z (List.mem_of_getElem? hz')]
  omega
end Go.Proofs.YtfkpghdmljjegaaGreat

namespace Go.Proofs.YtfkpghdmljjegaaGreat
open Go.RowKit
theorem hr_fit (ps : List Pipe) (N : Nat) (xs : List Contract) (L : List Nomination) (h : Int) : routB ps N (supT N (lessT ps N xs L h)) = true := scK_fit (fitS_zero ps N (trnL xs L h)) 4 (Nat.le_refl _)
/-- flows that keep the limits and carry supplies -/
structure Flows (ps : List Pipe) (N : Nat) (sup f : List Int) : Prop where
  len : f.length = ps.length
  lim : ∀ (k : Nat) (p : Pipe) (z : Int), ps[k]? = some p → f[k]? = some z → -p.limit ≤ z ∧ z ≤ p.limit
  bd : ∀ z ∈ f, -30000 ≤ z ∧ z ≤ 30000
  sb : ∀ z ∈ sup, -30000 ≤ z ∧ z ≤ 30000
  bal : ∀ i : Nat, i < N → outF ps f i = zAt sup i
theorem rout_flows {ps : List Pipe} {N : Nat} {sup : List Int} (hP : PipesN N ps) (hl : sup.length = N) (h : routB ps N sup = true) : routR ps N sup = ((routed ps N sup).fl, 0) ∧ Flows ps N sup (routed ps N sup).fl := by
  unfold routB at h
  rw [Bool.and_eq_true, Bool.and_eq_true] at h
  obtain ⟨⟨h1, h2⟩, h3⟩ := h
  have hb := supB_bd h1
  have hI := ((routed_route hP hl hb).inv (rst0_inv hP hl hb) hP).1
  have hz : ∀ z ∈ (routed ps N sup).lf, z = 0 := fun z hz => by
    have := List.all_eq_true.1 h3 z hz
    simpa using this
  refine ⟨?_, hI.fl, hI.bd, fun z hz => ?_, hb, fun i hi => routed_bal hP hl hb hz i hi⟩
  · unfold routR
    rw [h1, h2, h3]; rfl
  · obtain ⟨k, hk, rfl⟩ := List.mem_iff_getElem.1 hz
    have hkp : k < ps.length := by have := hI.fl; omega
    have hp := List.getElem?_eq_getElem (l := ps) hkp
    have h4 := hI.bd k _ _ hp (List.getElem?_eq_getElem hk)
    have h5 := hP.lim _ (List.mem_of_getElem? hp)
    omega
theorem hr_flows {n1 : Nat} {ns : List Node} {ps : List Pipe} {xs : List Contract} {L : List Nomination} {h : Int} (hN : n1 = ns.length) (hk : HrOk n1 ns ps xs L h) :
    routR ps n1 (supT n1 (lessT ps n1 xs L h)) = ((routed ps n1 (supT n1 (lessT ps n1 xs L h))).fl, 0) ∧ Flows ps n1 (supT n1 (lessT ps n1 xs L h)) (routed ps n1 (supT n1 (lessT ps n1 xs L h))).fl :=
  rout_flows (by rw [hN]; exact (net_pipes hk.net).1) (supT_len _ _) (hr_fit ps n1 xs L h)
theorem pfV_flows {n1 : Nat} {ns : List Node} {ps : List Pipe} {xs : List Contract} {L : List Nomination} {h : Int} (hN : n1 = ns.length) (hz : setC n1 ns ps xs L h = 0) :
    ∃ f, pfV n1 ns ps xs L h = (f, 0) ∧ Flows ps n1 (supT n1 (lessT ps n1 xs L h)) f := by
  obtain ⟨h1, h2⟩ := hr_flows hN (setC_ok hz)
  refine ⟨_, ?_, h2⟩
  unfold pfV
  rw [if_pos hz, h1]
end Go.Proofs.YtfkpghdmljjegaaGreat

namespace Go.Proofs.YtfkpghdmljjegaaGreat
open Go.RowKit
theorem c_isFlowList (A1 A2 : Option Addr) (n1 c1 n2 c2 : Nat) (A : Option Addr) (n c : Nat) (f : List Int) (w : World) (hf : SliceOf w 1 intC A n c f) (hn : n = n2) (hm : n2 ≤ 1000000) (hb : ∀ z ∈ f, -30000 ≤ z ∧ z ≤ 30000) :
    Calls Tryz.prog 129 #[.agg #[.slice A1 n1 c1, .slice A2 n2 c2], .slice A n c] w (Ret (.bool true) w) := by
  have hall : allB f (-30000) 30000 = true := List.all_eq_true.2 (fun z hz => inB_true.2 (hb z hz))
  subst hn
  go_enter Tryz.func129, Tryz.ntmps129
  go_wp2_with fail
  refine (c_allWithin A n c f (-30000) 30000 _ (hf.ext (Ext.alloc _ _))).mono ?_
  rw [hall]
  rintro e w' ⟨rfl, rfl⟩
  go_wp2_with fail
  go_ret
  exact Ret.bool rfl (Ext.alloc _ _)
set_option maxHeartbeats 2000000 in
theorem c_KeepsLimits (A1 A2 : Option Addr) (n1 c1 n2 c2 : Nat) (ns : List Node) (ps : List Pipe) (A : Option Addr) (n c : Nat) (sup f : List Int) (N : Nat) (w : World) (hs1 : SliceOf w 3 Node.cells A1 n1 c1 ns) (hs2 : SliceOf w 5 Pipe.cells A2 n2 c2 ps) (hf : SliceOf w 1 intC A n c f) (hnet : netB ns ps = true) (hF : Flows ps N sup f) :
    Calls Tryz.prog 44 #[.agg #[.slice A1 n1 c1, .slice A2 n2 c2], .slice A n c] w (Ret (.bool true) w) := by
  have hx0 : Ext w (w.alloc (.cells #[.slice A1 n1 c1, .slice A2 n2 c2] 45)) := Ext.alloc _ _
  have hB := Row.new w 45 [.slice A1 n1 c1, .slice A2 n2 c2]
  have h40 : ps.length ≤ 40 := (net_pipes hnet).1.p40
  have hn2 : n2 = ps.length := hs2.len
  have hnn : n = n2 := by rw [hf.len, hF.len, ← hn2]
  have h40' : n2 ≤ 40 := by rw [hn2]; exact h40
  have HF := hide hF
  have HLF := hide hf.len
  have HN2 := hide hn2
  have HNN := hide hnn
  have HNET := hide hnet
  clear hF hnet h40 hn2 hnn
  go_enter Tryz.func44, Tryz.ntmps44
  go_wp2_with fail
  refine (c_IsNetwork A1 A2 n1 c1 n2 c2 ns ps _ (hs1.ext hx0) (hs2.ext hx0)).mono ?_
  rw [HNET.out]
  rintro e w1 ⟨rfl, hx1⟩
  have b0 := (hB.ext hx1).cell 0
  have b1 := (hB.ext hx1).cell 1
  simp at b0 b1
  have bl := (hB.ext hx1).lt
  go_wp2_with fail
  refine (c_isFlowList A1 A2 n1 c1 n2 c2 A n c f _ (hf.ext (hx0.trans hx1)) HNN.out (by omega) HF.out.bd).mono ?_
  rintro e w2 ⟨rfl, hx2⟩
  have hx12 := hx1.trans hx2
  clear b0 b1 bl
  have b0 := (hB.ext hx12).cell 0
  have b1 := (hB.ext hx12).cell 1
  simp at b0 b1
  have bl := (hB.ext hx12).lt
  go_wp2_with fail
  go_loopw [19] (fun i wr => ∃ k : Nat, k ≤ n2 ∧ i = .int .i64 k ∧ Ext (w.alloc (.cells #[.slice A1 n1 c1, .slice A2 n2 c2] 45)) wr) (fun i _ => n2 - (intOf i).toNat)
  case atStart => exact ⟨0, Nat.zero_le _, rfl, hx12⟩
  case round =>
    clear hx1 hx2 hx12 b0 b1 bl
    obtain ⟨k, hk, rfl, hx⟩ := hrel
    have hX := hx0.trans hx
    by_cases hlt : k < n2
    · obtain ⟨bb, off, p, hA, hbb, hxk, t⟩ := (hs2.ext hX).get hlt
      have t0 := t 0 _ rfl
      have t1 := t 1 _ rfl
      have t2 := t 2 _ rfl
      have t3 := t 3 _ rfl
      have t4 := t 4 _ rfl
      simp only [Nat.add_zero] at t0
      subst hA
      obtain ⟨bf, off2, z, hA2, hbf, hzk, hzc⟩ := (hf.ext hX).get1 (k := k) (by have := HNN.out; omega)
      subst hA2
      have hlim := HF.out.lim k p z hxk hzk
      have hbz := HF.out.bd z (List.mem_of_getElem? hzk)
      have habs := absI_le (n := z) (m := p.limit) (by omega) (by omega)
      have hd : decide (p.limit < absI z) = false := decide_eq_false (by omega)
      have hkn : k < n := by have := HNN.out; omega
      have hzc1 : ∀ W, Ext wr W → W.cell? ⟨bf, off2 + k, none⟩ = some (.int .i64 z) := fun W hW => (hW.cell _ _ hbf).trans hzc
      clear hxk hzk t hlim
      go_wp2_with fail
      have hbx := Row.new wr 181 p.cells
      have hx1' : Ext wr (wr.alloc (.cells p.cells.toArray 181)) := Ext.alloc _ _
      rw [show (Obj.cells #[.int .i64 p.src, .int .i64 p.dst, .int .i64 p.k, .int .i64 p.volume, .int .i64 p.limit] 181) = .cells p.cells.toArray 181 from rfl]
      obtain ⟨g, hg⟩ : ∃ g, wr.heap.size = g := ⟨_, rfl⟩
      have hzc2 := hzc1 _ hx1'
      have hbfl : bf < (wr.alloc (.cells p.cells.toArray 181)).heap.size := Nat.lt_of_lt_of_le hbf hx1'.size
      generalize (wr.alloc (.cells p.cells.toArray 181)) = W1 at *
      have q4 := hbx.cell 4
      simp [Pipe.cells] at q4
      have hbl := hbx.lt
      have hX2 := hx.trans hx1'
      rw [hg] at hbl q4 ⊢
      clear hzc1 hbx hzc t0 t1 t2 t3 t4
      refine wp_region_ph [([0, 1, 2, 3, 5, 6], 4)] [7] (by kernel_rfl) (by kernel_rfl) (by intro c a w d v h; cases d <;> exact h) ?_
      simp only [wpPh, pickL, nthO]
      repeat (go_big_quiet_step (fail))
      refine wpQuiet_nil ?_
      go_wp2_with fail
      refine (c_absOf z _ (by omega) (by omega)).mono ?_
      rintro e w' ⟨rfl, rfl⟩
      go_wp2_with fail
      refine ⟨Ext.refl _, ?_⟩
      repeat (go_big_quiet_step (fail))
      refine wpQuiet_nil ?_
      go_wp2_with fail
      go_roundw
      case rel => exact ⟨k + 1, by omega, by go_num, hX2.drew⟩
      case measure => simp [intOf]; omega
    · go_wp2_with fail
      go_ret
      exact Ret.bool rfl hX
end Go.Proofs.YtfkpghdmljjegaaGreat

namespace Go.Proofs.YtfkpghdmljjegaaGreat
theorem Alloc.snoc {os : List Order} {g g' : List Int} {rs : List Reading} (h : Alloc os g rs g') {x : Reading} {sh : List Int} (hs : 0 < sumZ (wts os x)) (hd : Shares (absZ x.amount) (wts os x) sh) : Alloc os g (rs ++ [x]) (addS (sgn x) g' sh) := by
  induction h with
  | nil g => exact .add hs hd (.nil _)
  | skip hz _ ih => exact .skip hz (ih)
  | add hs' hd' _ ih => exact .add hs' hd' (ih)
theorem map_div {T : Int} (hT : 0 < T) : ∀ ws : List Int, quoL T T ws = ws
  | [] => rfl
  | w :: ws => by
    have := map_div hT ws
    unfold quoL at this ⊢
    rw [List.map_cons, this, Int.mul_ediv_cancel_left w (by omega)]
theorem shares_self {ws : List Int} (h : 0 < sumZ ws) : Shares (sumZ ws) ws ws := by
  unfold Shares
  rw [map_div h, Int.sub_self]
  exact .zero _ _
theorem addS_zero {s : Int} : ∀ {g sh : List Int}, sh.length = g.length → (∀ z ∈ sh, z = 0) → addS s g sh = g
  | [], [], _, _ => rfl
  | [], _ :: _, h, _ => by simp at h
  | _ :: _, [], h, _ => by simp at h
  | a :: g, b :: sh, h, h0 => by
    have hb := h0 b (by simp)
    have := addS_zero (s := s) (g := g) (sh := sh) (by simpa using h) (fun z hz => h0 z (by simp [hz]))
    unfold addS at this ⊢
    rw [List.zipWith_cons_cons, this, hb, Int.mul_zero, Int.add_zero]
theorem sum_zero_all : ∀ {l : List Int}, (∀ z ∈ l, 0 ≤ z) → sumZ l ≤ 0 → ∀ z ∈ l, z = 0
  | [], _, _, z, hz => by cases hz
  | a :: l, h, h0, z, hz => by
    have h1 := h a (by simp)
    have h2 := sumZ_nonneg (l := l) (fun y hy => h y (by simp [hy]))
    simp only [sumZ] at h0
    rcases List.mem_cons.1 hz with rfl | hz
    · omega
    · exact sum_zero_all (l := l) (fun y hy => h y (by simp [hy])) (by omega) z hz
theorem sgn_of {i a s : Int} (hs : s = 1 ∨ s = -1) (ha : 0 < a) : sgn ⟨i, s * a⟩ = s ∧ absZ (s * a) = a := by
  unfold sgn absZ
  rcases hs with rfl | rfl
  · rw [if_neg (by simp only; omega), if_neg (by omega)]; exact ⟨rfl, by omega⟩
  · rw [if_pos (by simp only; omega), if_pos (by omega)]; exact ⟨rfl, by omega⟩
theorem sgn_one {i s : Int} (hs : s = 1 ∨ s = -1) : sgn ⟨i, s⟩ = s := by
  unfold sgn
  rcases hs with rfl | rfl <;> rfl
theorem wts_same {os : List Order} {i a s : Int} (hs : s = 1 ∨ s = -1) (ha : 0 < a) : wts os ⟨i, s * a⟩ = wts os ⟨i, s⟩ := by
  unfold wts
  refine List.map_congr_left (fun o _ => ?_)
  unfold wt
  rw [(sgn_of hs ha).1, sgn_one hs]
theorem stepR_alloc {os : List Order} {z g : List Int} {r : List Reading} (h : Alloc os z r g) (hl : g.length = os.length) {s : Int} (hs : s = 1 ∨ s = -1) (i : Nat) : Alloc os z (stepR os i s r) (addS s g (wts os ⟨i, s⟩)) := by
  have hw : (wts os ⟨i, s⟩).length = g.length := by simp [wts, hl]
  unfold stepR
  split
  · rename_i h0
    have hsum : sumZ (wts os ⟨(i : Int), s * rdAt os i s⟩) = rdAt os i s := by rw [wts_same hs h0]; rfl
    have hsh : Shares (absZ (s * rdAt os i s)) (wts os ⟨(i : Int), s * rdAt os i s⟩) (wts os ⟨i, s⟩) := by
      rw [(sgn_of (i := (i : Int)) hs h0).2, wts_same hs h0]
      exact shares_self h0
    have h2 := Alloc.snoc (x := ⟨(i : Int), s * rdAt os i s⟩) h (by rw [hsum]; exact h0) hsh
    rw [(sgn_of (i := (i : Int)) hs h0).1] at h2
    exact h2
  · rename_i h0
    rw [addS_zero hw (sum_zero_all (wts_nonneg os _) (show sumZ (wts os ⟨i, s⟩) ≤ 0 by unfold rdAt at h0; omega))]
    exact h
def gotK (os : List Order) (k : Nat) : List Int := os.map fun o => if o.node < (k : Int) then o.amount else 0
theorem gotK_succ {os : List Order} (hn : ∀ o ∈ os, 0 ≤ o.node) (k : Nat) : addS (-1) (addS 1 (gotK os k) (wts os ⟨k, 1⟩)) (wts os ⟨k, -1⟩) = gotK os (k + 1) := by
  induction os with
  | nil => rfl
  | cons o os ih =>
    have h0 := hn o (by simp)
    have ih := ih (fun y hy => hn y (by simp [hy]))
    unfold gotK wts addS at ih ⊢
    simp only [List.map_cons, List.zipWith_cons_cons]
    rw [ih]
    congr 1
    unfold wt
    rw [sgn_one (.inl rfl), sgn_one (.inr rfl)]
    simp only
    split <;> split <;> split <;> (try split) <;> omega
/-- planned readings give each order its amount -/
theorem rfR_alloc {os : List Order} (hn : ∀ o ∈ os, 0 ≤ o.node) : ∀ {k : Nat} {r : List Reading}, rfR os k = some r → Alloc os (List.replicate os.length 0) r (gotK os k)
  | 0, r, h => by
    simp only [rfR, Option.some.injEq] at h
    subst h
    have : gotK os 0 = List.replicate os.length 0 := by
      unfold gotK
      apply List.eq_replicate_iff.2
      refine ⟨by simp, fun z hz => ?_⟩
      obtain ⟨o, ho, rfl⟩ := List.mem_map.1 hz
      have := hn o ho
      rw [if_neg (by omega)]
    rw [this]
    exact .nil _
  | k + 1, r, h => by
    simp only [rfR] at h
    cases hk : rfR os k with
    | none => rw [hk] at h; cases h
    | some q =>
      rw [hk] at h
      simp only at h
      split at h
      · cases h
      · split at h
        · cases h
        · obtain rfl := Option.some.inj h
          have h1 := stepR_alloc (rfR_alloc hn hk) (by simp [gotK]) (s := 1) (.inl rfl) k
          have h2 := stepR_alloc h1 (by rw [addS_len (by simp [wts, gotK])]; simp [gotK]) (s := -1) (.inr rfl) k
          rw [gotK_succ hn] at h2
          exact h2
theorem planned_alloc {os : List Order} {N : Nat} {r : List Reading} (hn : ∀ o ∈ os, 0 ≤ o.node ∧ o.node < N) (h : rfR os N = some r) : Alloc os (List.replicate os.length 0) r (os.map Order.amount) := by
  have h1 := rfR_alloc (fun o ho => (hn o ho).1) h
  have : gotK os N = os.map Order.amount := by
    unfold gotK
    refine List.map_congr_left (fun o ho => ?_)
    rw [if_pos (hn o ho).2]
  rw [← this]; exact h1
end Go.Proofs.YtfkpghdmljjegaaGreat

namespace Go.Proofs.YtfkpghdmljjegaaGreat
open Go.RowKit

def tolF (band percent thr : Int) : Int := max band (thr * percent / 100)
theorem mul_bd {a b : Int} (x y : Int) (ha : 0 ≤ a) (ha' : a ≤ x) (hb : 0 ≤ b) (hb' : b ≤ y) : 0 ≤ a * b ∧ a * b ≤ x * y :=
  ⟨Int.mul_nonneg ha hb, Int.mul_le_mul ha' hb' hb (by omega)⟩
theorem tolF_bd {band percent thr : Int} (h1 : 0 ≤ band) (h1' : band ≤ 1000000000) (h2 : 0 ≤ percent) (h2' : percent ≤ 100) (h3 : 0 ≤ thr) (h3' : thr ≤ 1000000000) : 0 ≤ tolF band percent thr ∧ tolF band percent thr ≤ 1000000000 := by
  have := mul_bd 1000000000 100 h3 h3' h2 h2'
  unfold tolF; omega

theorem c_toleranceFor (band percent price thr : Int) (A : Option Addr) (n c : Nat) (w : World) (h2 : 0 ≤ percent) (h2' : percent ≤ 100) (h3 : 0 ≤ thr) (h3' : thr ≤ 1000000000) :
    Calls Tryz.prog 254 #[.agg #[.int .i64 band, .int .i64 percent, .int .i64 price, .slice A n c], .int .i64 thr] w (Ret (.int .i64 (tolF band percent thr)) w) := by
  obtain ⟨hm, hm'⟩ := mul_bd 1000000000 100 h3 h3' h2 h2'
  go_enter Tryz.func254, Tryz.ntmps254
  go_wp2
  all_goals
    go_ret
    refine Ret.int ?_ (Ext.alloc _ _)
    unfold tolF; omega

def excF (band percent bal thr : Int) : Int :=
  if tolF band percent thr < bal then bal - tolF band percent thr else if bal < -tolF band percent thr then bal + tolF band percent thr else 0

theorem c_excessOf (band percent price bal thr : Int) (A : Option Addr) (n c : Nat) (w : World) (h1 : 0 ≤ band) (h1' : band ≤ 1000000000) (h2 : 0 ≤ percent) (h2' : percent ≤ 100) (h3 : 0 ≤ thr) (h3' : thr ≤ 1000000000)
    (h4 : -2000000000 ≤ bal) (h4' : bal ≤ 2000000000) :
    Calls Tryz.prog 201 #[.agg #[.int .i64 band, .int .i64 percent, .int .i64 price, .slice A n c], .int .i64 bal, .int .i64 thr] w (Ret (.int .i64 (excF band percent bal thr)) w) := by
  have ht := tolF_bd h1 h1' h2 h2' h3 h3'
  have HE := hide (show excF band percent bal thr = if tolF band percent thr < bal then bal - tolF band percent thr else if bal < -tolF band percent thr then bal + tolF band percent thr else 0 from rfl)
  generalize excF band percent bal thr = R at HE ⊢
  go_enter Tryz.func201, Tryz.ntmps201
  go_wp2_with fail
  refine (c_toleranceFor _ _ _ _ _ _ _ _ h2 h2' h3 h3').mono ?_
  generalize tolF band percent thr = T at ht HE ⊢
  obtain ⟨ht0, ht1⟩ := ht
  rintro e w1 ⟨rfl, hx⟩
  go_wp2
  all_goals
    go_ret
    refine Ret.int ?_ hx.box
    rw [HE.out]
    (repeat' split) <;> omega

end Go.Proofs.YtfkpghdmljjegaaGreat
