/-
  The settlement of hours, in plain Lean: its postings and its code.
-/
import Derived.Test.YtfkpghdmljjegaaGreatVe43
import Derived.Test.YtfkpghdmljjegaaGreatVe36
namespace Go.Proofs.YtfkpghdmljjegaaGreat
open Go.RowKit
def rdK (rs:List RS) (k:Nat):List Reading:=(rs[k]?.map RS.xs).getD []
noncomputable def hsL (ps:List Pipe) (n1:Nat) (xs:List Contract) (L:List Nomination) (h:Int) (rs:List RS) (band percent price:Int) (ts:List Tier):Nat→List Posting
 | 0=>[]
 | k+1=>hsL ps n1 xs L h rs band percent price ts k++(stlH ps n1 xs L (h+k) (rdK rs k) band percent price ts).psn
def hsC (n1:Nat) (ns:List Node) (ps:List Pipe) (xs:List Contract) (L:List Nomination) (h:Int) (rs:List RS) (band percent price:Int) (ts:List Tier):Int:=
 if netB ns ps=false then 1 else if isTermsB band percent price ts=false then 1 else if 48<rs.length then 3 else
  if (setV n1 xs (rdB n1 rs) L h=0∨setV n1 xs (rdB n1 rs) L h=7)∧48<h+rs.length then 2 else setV n1 xs (rdB n1 rs) L h
noncomputable def hsV (n1:Nat) (ns:List Node) (ps:List Pipe) (xs:List Contract) (L:List Nomination) (h:Int) (rs:List RS) (band percent price:Int) (ts:List Tier):List Posting×Int:=
 if hsC n1 ns ps xs L h rs band percent price ts=0 then
  (if 300<(hsL ps n1 xs L h rs band percent price ts rs.length).length then ([],3) else (hsL ps n1 xs L h rs band percent price ts rs.length,0))
 else ([],hsC n1 ns ps xs L h rs band percent price ts)
theorem stlH_psn (ps:List Pipe) (n1:Nat) (xs:List Contract) (L:List Nomination) (h:Int) (rd:List Reading) (band percent price:Int) (ts:List Tier):(stlH ps n1 xs L h rd band percent price ts).psn.length≤32:=
 Nat.le_trans (postsL_len band percent price ts _ _ 16) (by omega)
theorem hsC_ok {n1:Nat} {ns:List Node} {ps:List Pipe} {xs:List Contract} {L:List Nomination} {h:Int} {rs:List RS} {band percent price:Int} {ts:List Tier} (hz:hsC n1 ns ps xs L h rs band percent price ts=0):
  netB ns ps=true∧isTermsB band percent price ts=true∧rdB n1 rs=true∧HrOk n1 ns ps xs L h∧rs.length≤48∧h+rs.length≤48:=by
 unfold hsC at hz
 split at hz
 ·cases hz
 ·rename_i h1
  split at hz
  ·cases hz
  ·rename_i h2
   split at hz
   ·cases hz
   ·rename_i h3
    split at hz
    ·cases hz
    ·rename_i h4
     have hn:netB ns ps=true:=by simpa using h1
     obtain ⟨a,b⟩:=setV_ok hn hz
     refine ⟨hn,by simpa using h2,a,b,by omega,?_⟩
     by_cases h5:(48:Int)<h+rs.length
     ·exact absurd ⟨.inl hz,h5⟩ h4
     ·omega
theorem HrOk.at_hour {n1:Nat} {ns:List Node} {ps:List Pipe} {xs:List Contract} {L:List Nomination} {h:Int} (hk:HrOk n1 ns ps xs L h) {k:Nat} (hl:h+k≤47):HrOk n1 ns ps xs L (h+k):=
 ⟨hk.net,hk.bk,hk.nm,by have:=inB_true.1 hk.hr; exact inB_true.2 ⟨by omega,by omega⟩,hk.le⟩
theorem setC_ways {n1:Nat} {ns:List Node} {ps:List Pipe} {xs:List Contract} {L:List Nomination} {h:Int} (hn:netB ns ps=true) (hb:bookB n1 xs=true):
  setC n1 ns ps xs L h=5∨(setC n1 ns ps xs L h=2∧inB h 0 47=false)∨((setC n1 ns ps xs L h=0∨setC n1 ns ps xs L h=7)∧inB h 0 47=true):=by
 rw [←setV_C hn]
 unfold setV
 rw [if_neg (by rw [hb]; decide),if_neg (by decide)]
 cases nomsB xs L
 ·left; rfl
 ·right
  rw [if_neg (by decide)]
  cases inB h 0 47
  ·left; exact ⟨rfl,rfl⟩
  ·right
   rw [if_neg (by decide)]
   refine ⟨?_,rfl⟩
   split
   ·exact .inr rfl
   ·exact .inl rfl
theorem setV_hour {n1:Nat} {xs:List Contract} {b:Bool} {L:List Nomination} {h:Int} (hz:setV n1 xs b L h=0∨setV n1 xs b L h=7):inB h 0 47=true:=by
 unfold setV at hz
 split at hz
 ·omega
 ·split at hz
  ·omega
  ·split at hz
   ·omega
   ·split at hz
    ·omega
    ·simp_all
theorem hsV_len {n1:Nat} {ns:List Node} {ps:List Pipe} {xs:List Contract} {L:List Nomination} {h:Int} {rs:List RS} {band percent price:Int} {ts:List Tier}:(hsV n1 ns ps xs L h rs band percent price ts).1.length≤300:=by
 unfold hsV
 split
 ·split
  ·simp
  ·simp only; omega
 ·simp
theorem fld4 (A0 A1 A2 A3 A4:Option Addr) (n0 c0 n1 c1 n2 c2 n3 c3 n4 c4:Nat) (W:World):(Instr.field 28 (.agg #[.slice A0 n0 c0,.slice A1 n1 c1,.slice A2 n2 c2,.slice A3 n3 c3,.slice A4 n4 c4]) 4).run Tryz.prog W= .ok (.slice A4 n4 c4) W:=by kernel_rfl
end Go.Proofs.YtfkpghdmljjegaaGreat
