/-
  Accepting a nomination: what is acceptable; the history of a contract and an hour, of the reference.
-/
import Derived.Test.YtinindjjapblcaaGreatDoorWa22
import Derived.Test.YtinindjjapblcaaGreatDoorWa05
import Derived.Test.YtinindjjapblcaaGreatDoorWa17
namespace Go.Proofs.YtinindjjapblcaaGreatDoor
open Go.RowKit
def hits (L:List Nomination) (x:Nomination):List Nomination:=L.filter (hitN x.contract x.hour)
theorem lastN_hits (L:List Nomination) (ct h:Int):(lastN ct h L= -1∧L.filter (hitN ct h)=[])∨∃(k:Nat) (q:Nomination),lastN ct h L=k∧L[k]? =some q∧(L.filter (hitN ct h)).getLast? =some q:=by
 have key:∀r,r≤L.length→((∀p∈bwL L r,hitN ct h p.2=false)∧(L.drop r).filter (hitN ct h)=[])∨(∃(k:Nat) (q:Nomination) (ini:List (Nat×Nomination)) (r':Nat),r≤r'∧bwL L r'=ini++[(k,q)]∧(∀p∈ini,hitN ct h p.2=false)∧hitN ct h q=true∧L[k]? =some q∧((L.drop r).filter (hitN ct h)).getLast? =some q):=by
  intro r
  generalize hd:L.length-r=d
  induction d generalizing r with
  | zero=>
   intro hr
   obtain rfl:r=L.length:=by omega
   left
   rw [bwL_all,List.drop_length]
   exact ⟨by simp,rfl⟩
  | succ d ih=>
   intro hr
   have hlt:r<L.length:=by omega
   have hx:L[r]? =some L[r]:=List.getElem?_eq_getElem hlt
   have hdr:L.drop r=L[r]::L.drop (r+1):=List.drop_eq_getElem_cons hlt
   rcases ih (r+1) (by omega) (by omega) with ⟨h1,h2⟩ | ⟨k,q,ini,r',h1,h2,h3,h4,h5,h6⟩
   ·cases hh:hitN ct h L[r]
    ·left
     rw [bwL_step hx,hdr,List.filter_cons_of_neg (by simp [hh]),h2]
     refine ⟨fun p hp=> ?_,rfl⟩
     rcases List.mem_append.1 hp with hp | hp
     ·exact h1 p hp
     ·simp at hp; subst hp; exact hh
    ·right
     refine ⟨r,L[r],bwL L (r+1),r,Nat.le_refl _,bwL_step hx,h1,hh,hx,?_⟩
     rw [hdr,List.filter_cons_of_pos hh,h2]; rfl
   ·right
    refine ⟨k,q,ini,r',by omega,h2,h3,h4,h5,?_⟩
    rw [hdr]
    cases hh:hitN ct h L[r]
    ·rw [List.filter_cons_of_neg (by simp [hh])]; exact h6
    ·rw [List.filter_cons_of_pos hh,List.getLast?_cons,h6]; rfl
 rcases key 0 (Nat.zero_le _) with ⟨h1,h2⟩ | ⟨k,q,ini,r',_,h2,h3,h4,h5,h6⟩
 ·left
  exact ⟨lastN_none h1,by simpa using h2⟩
 ·right
  exact ⟨k,q,lastN_some h2 h3 h4,h5,by simpa using h6⟩
def accB (xs:List Contract) (L:List Nomination) (x:Nomination):Bool:=
 (match L.getLast? with | none=>true | some y=> !decide (x.sent<y.sent))&&
 (match (hits L x).getLast? with | none=>true | some q=> !(decide (x.hour-6<x.sent)&&decide ((match xs[x.contract.toNat]? with | some p=>p.amount.tdiv 2 | none=>0)<absI (x.amount-q.amount))))
def accR (n1:Int) (ns:List Node) (ps:List Pipe) (xs:List Contract) (L:List Nomination) (x:Nomination):List Nomination×Int:=
 if nomC n1 ns ps xs L≠0 then ([],nomC n1 ns ps xs L) else if nomB xs x=false then ([],2) else if accB xs L x=false then ([],7) else if L.length=200 then ([],3) else (L++[x],0)
end Go.Proofs.YtinindjjapblcaaGreatDoor
