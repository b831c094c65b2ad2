/-
  The reference's draws of a node and of a pipe.
-/
import Derived.Test.YtfkpghdmljjegaaGreatVe01
import Derived.Test.YtfkpghdmljjegaaGreatVe03
import Derived.Test.YtfkpghdmljjegaaGreatVe00
namespace Go.Proofs.YtfkpghdmljjegaaGreat
open Go.RowKit
open Go.Lib (decDigits)
section
variable {w0 w:World} {a n c:Nat} {A:Option Addr}
def DrawnNode (w0:World) (a:Nat) (A:Option Addr) (n c:Nat) (w:World) (e:Ending) (w':World):Prop:=
 ∃x:Node,e= .returned (.agg #[.string x.name,.int .i64 x.low,.int .i64 x.high])∧x.name.size≤100∧Src w0 w' a A n c∧Only a w w'
set_option maxHeartbeats 1000000 in
theorem c_l02DrawNode (i:Nat) (hi:i≤50) (h:Src w0 w a A n c):
  Calls Tryz.prog 311 #[.pointer (some ⟨a,0,none⟩),.int .i64 i] w (DrawnNode w0 a A n c w):=by
 have hal:=h.lt
 have hle:=h.le0
 have hR:=Row.new w 223 [.string ⟨#[]⟩,.int .i64 0,.int .i64 0]
 go_enter Tryz.func311,Tryz.ntmps311
 go_wp2_with fail
 refine (c_next 4000 (h.more (Ext.alloc _ _)) (by omega) (by omega)).mono ?_
 rintro e w1 ⟨x1,rfl,hx1,hx1',hs1,ho1⟩
 have hR1:=hR.only ho1 (by omega)
 have hO1:=(Only.of_ext (Ext.alloc w (.cells #[.string ⟨#[]⟩,.int .i64 0,.int .i64 0] 223)) a).trans ho1
 clear hR
 go_wp2_with fail
 refine (c_l01Dec i (by omega) _).mono ?_
 rintro e w2 ⟨rfl,hx2⟩
 have hl:=decDigits_len (i+1) i (Nat.lt_succ_self _)
 have hsz:¬9223372036854775807<(ByteArray.mk #[110]).size+(mkB (decDigits i)).size:=by rw [mkB_size]; show ¬_<1+_; omega
 have hsz2:((ByteArray.mk #[110])++mkB (decDigits i)).size≤100:=by rw [ByteArray.size_append,mkB_size]; show 1+_≤100; omega
 have hs2:=hs1.more hx2
 have hR2:=hR1.ext hx2
 have hO2:=hO1.trans (Only.of_ext hx2 a)
 clear hs1 hR1 hO1
 go_wp2_with fail
 refine (c_next 60000 hs2 (by omega) (by omega)).mono ?_
 rintro e w3 ⟨x3,rfl,hx3,hx3',hs3,ho3⟩
 have hR3:=hR2.only ho3 (by omega)
 have hO3:=hO2.trans ho3
 clear hs2 hR2 hO2
 have q0:=hR3.cell 0
 have q1:=hR3.cell 1
 have q2:=hR3.cell 2
 simp at q0 q1 q2
 have f0:=hR3.frozen 0
 have f1:=hR3.frozen 1
 have f2:=hR3.frozen 2
 have hl3:=hR3.lt
 have hf:DrawnNode w0 a A n c w (.returned (.agg #[.string ((ByteArray.mk #[110])++mkB (decDigits i)),.int .i64 x1,.int .i64 (x1+2000+x3)])) (putCells w3 w.heap.size 0 [.string ((ByteArray.mk #[110])++mkB (decDigits i)),.int .i64 x1,.int .i64 (x1+2000+x3)]):=
  ⟨⟨_,_,_⟩,rfl,hsz2,hs3.put (by have:=h.ext.size; omega) (by omega) _ _,hO3.putNew (Nat.le_refl _) _ _⟩
 have HF:=hide hf
 clear hf hs3 hO3 hR3
 go_wp2_with fail
 refine bodyPost_ret (v:= .agg #[.string ((ByteArray.mk #[110])++mkB (decDigits i)),.int .i64 x1,.int .i64 (x1+2000+x3)]) (by simp [results,Tryz.results311,go_sem,q0,q1,q2]) rfl ?_
 exact HF.out
def DrawnPipe (w0:World) (a:Nat) (A:Option Addr) (n c:Nat) (w:World) (e:Ending) (w':World):Prop:=
 ∃x:Pipe,e= .returned (.agg #[.int .i64 x.src,.int .i64 x.dst,.int .i64 x.k,.int .i64 x.volume,.int .i64 x.limit])∧Src w0 w' a A n c∧Only a w w'
set_option maxHeartbeats 1000000 in
theorem c_l02DrawPipe (y z:Int) (h:Src w0 w a A n c):
  Calls Tryz.prog 308 #[.pointer (some ⟨a,0,none⟩),.int .i64 y,.int .i64 z] w (DrawnPipe w0 a A n c w):=by
 have hal:=h.lt
 have hle:=h.le0
 have hR:=Row.new w 181 [.int .i64 0,.int .i64 0,.int .i64 0,.int .i64 0,.int .i64 0]
 go_enter Tryz.func308,Tryz.ntmps308
 go_wp2_with fail
 refine (c_next 2 (h.more (Ext.alloc _ _)) (by omega) (by omega)).mono ?_
 rintro e w1 ⟨x1,rfl,hx1,hx1',hs1,ho1⟩
 have hR1:=hR.only ho1 (by omega)
 have hO1:=(Only.of_ext (Ext.alloc w (.cells ([.int .i64 0,.int .i64 0,.int .i64 0,.int .i64 0,.int .i64 0]).toArray 181)) a).trans ho1
 clear hR
 by_cases h0:x1=0
 ·subst h0
  go_wp2_with fail
  refine (c_next 9 hs1 (by omega) (by omega)).mono ?_
  rintro e w3 ⟨x3,rfl,hx3,hx3',hs3,ho3⟩
  go_wp2_with fail
  refine (c_next 100 hs3 (by omega) (by omega)).mono ?_
  rintro e w4 ⟨x4,rfl,hx4,hx4',hs4,ho4⟩
  go_wp2_with fail
  refine (c_next 200 hs4 (by omega) (by omega)).mono ?_
  rintro e w5 ⟨x5,rfl,hx5,hx5',hs5,ho5⟩
  have hR5:=((hR1.only ho3 (by omega)).only ho4 (by omega)).only ho5 (by omega)
  have hO5:=((hO1.trans ho3).trans ho4).trans ho5
  have q0:=hR5.cell 0
  have q1:=hR5.cell 1
  have q2:=hR5.cell 2
  have q3:=hR5.cell 3
  have q4:=hR5.cell 4
  simp at q0 q1 q2 q3 q4
  have f0:=hR5.frozen 0
  have f1:=hR5.frozen 1
  have f2:=hR5.frozen 2
  have f3:=hR5.frozen 3
  have f4:=hR5.frozen 4
  have hl5:=hR5.lt
  have hf:DrawnPipe w0 a A n c w (.returned (.agg #[.int .i64 z,.int .i64 y,.int .i64 (1+x3),.int .i64 x4,.int .i64 (1+x5)])) (putCells w5 w.heap.size 0 [.int .i64 z,.int .i64 y,.int .i64 (1+x3),.int .i64 x4,.int .i64 (1+x5)]):=⟨⟨_,_,_,_,_⟩,rfl,hs5.put (by have:=h.ext.size; omega) (by omega) _ _,hO5.putNew (Nat.le_refl _) _ _⟩
  have HF:=hide hf
  clear hf hs5 hO5 hR5 hs1 hs3 hs4 hR1 hO1
  go_wp2_with fail
  refine bodyPost_ret (v:= .agg #[.int .i64 z,.int .i64 y,.int .i64 (1+x3),.int .i64 x4,.int .i64 (1+x5)]) (by simp [results,Tryz.results308,go_sem,q0,q1,q2,q3,q4]) rfl ?_
  exact HF.out
 ·have b0:(x1==0)=false:=by rw [beq_eq_false_iff_ne]; exact h0
  go_wp2_with fail
  refine (c_next 9 hs1 (by omega) (by omega)).mono ?_
  rintro e w3 ⟨x3,rfl,hx3,hx3',hs3,ho3⟩
  go_wp2_with fail
  refine (c_next 100 hs3 (by omega) (by omega)).mono ?_
  rintro e w4 ⟨x4,rfl,hx4,hx4',hs4,ho4⟩
  go_wp2_with fail
  refine (c_next 200 hs4 (by omega) (by omega)).mono ?_
  rintro e w5 ⟨x5,rfl,hx5,hx5',hs5,ho5⟩
  have hR5:=((hR1.only ho3 (by omega)).only ho4 (by omega)).only ho5 (by omega)
  have hO5:=((hO1.trans ho3).trans ho4).trans ho5
  have q0:=hR5.cell 0
  have q1:=hR5.cell 1
  have q2:=hR5.cell 2
  have q3:=hR5.cell 3
  have q4:=hR5.cell 4
  simp at q0 q1 q2 q3 q4
  have f0:=hR5.frozen 0
  have f1:=hR5.frozen 1
  have f2:=hR5.frozen 2
  have f3:=hR5.frozen 3
  have f4:=hR5.frozen 4
  have hl5:=hR5.lt
  have hf:DrawnPipe w0 a A n c w (.returned (.agg #[.int .i64 y,.int .i64 z,.int .i64 (1+x3),.int .i64 x4,.int .i64 (1+x5)])) (putCells w5 w.heap.size 0 [.int .i64 y,.int .i64 z,.int .i64 (1+x3),.int .i64 x4,.int .i64 (1+x5)]):=⟨⟨_,_,_,_,_⟩,rfl,hs5.put (by have:=h.ext.size; omega) (by omega) _ _,hO5.putNew (Nat.le_refl _) _ _⟩
  have HF:=hide hf
  clear hf hs5 hO5 hR5 hs1 hs3 hs4 hR1 hO1
  go_wp2_with fail
  refine bodyPost_ret (v:= .agg #[.int .i64 y,.int .i64 z,.int .i64 (1+x3),.int .i64 x4,.int .i64 (1+x5)]) (by simp [results,Tryz.results308,go_sem,q0,q1,q2,q3,q4]) rfl ?_
  exact HF.out
end
end Go.Proofs.YtfkpghdmljjegaaGreat
namespace Go.Proofs.YtfkpghdmljjegaaGreat
open Go.RowKit
theorem SliceOf.take {α:Type} {w:World} {size:Nat} {f:α→List Value} {A:Option Addr} {n c:Nat} {xs:List α} (h:SliceOf w size f A n c xs) {k:Nat} (hk:k≤n):SliceOf w size f A k c (xs.take k):=by
 obtain ⟨h1,h2,h3,h4⟩:=h
 refine ⟨by rw [List.length_take]; omega,by omega,h3,fun hk0=> ?_⟩
 obtain ⟨b,off,hA,hb,hc⟩:=h4 (by omega)
 refine ⟨b,off,hA,hb,fun i x hx j u hu=> ?_⟩
 rw [List.getElem?_take] at hx
 split at hx
 ·exact hc i x hx j u hu
 ·cases hx
theorem sameN_comm (a b:ByteArray):sameN a b=sameN b a:=by
 unfold sameN
 rw [Bool.eq_iff_iff]
 simp only [beq_iff_eq]
 exact ⟨fun h=>h.symm,fun h=>h.symm⟩
def hasN (ns:List Node) (s:ByteArray):Bool:=ns.any fun y=>sameN y.name s
def nodeOkB (ns:List Node) (i:Nat):Bool:=match ns[i]? with
 | some x=>nodeB x&& !hasN (ns.take i) x.name
 | none=>true
def netB (ns:List Node) (ps:List Pipe):Bool:=decide (1≤ns.length)&&decide (ns.length≤24)&&decide (ps.length≤40)&&(List.range ns.length).all (nodeOkB ns)&&ps.all (pipeB ns.length)
theorem c_isNodeOf (A1 A2:Option Addr) (n1 c1 n2 c2:Nat) (z:Int) (w:World) (hn:n1≤9223372036854775807):
  Calls Tryz.prog 186 #[.agg #[.slice A1 n1 c1,.slice A2 n2 c2],.int .i64 z] w (Ret (.bool (inB z 0 ((n1:Int)-1))) w):=by
 go_enter Tryz.func186,Tryz.ntmps186
 go_wp2_with (go_at_call 164; refine (c_within _ _ _ _).mono ?_; rintro e w' ⟨rfl,rfl⟩)
 go_ret
 exact Ret.bool rfl (Ext.alloc _ _)
theorem c_l02Node (A1 A2:Option Addr) (n1 c1 n2 c2:Nat) (z:Int) (w:World) (hn:n1≤9223372036854775807):
  Calls Tryz.prog 205 #[.agg #[.slice A1 n1 c1,.slice A2 n2 c2],.int .i64 z] w (Ret (.bool (inB z 0 ((n1:Int)-1))) w):=by
 go_enter Tryz.func205,Tryz.ntmps205
 go_wp2_with (go_at_call 169; refine (c_l01In _ _ _ _).mono ?_; rintro e w' ⟨rfl,rfl⟩)
 go_ret
 exact Ret.bool rfl (Ext.alloc _ _)
set_option maxHeartbeats 2000000 in
theorem c_l02Pipe (p:Pipe) (nn:Nat) (w:World) (hn:nn≤1048576):
  Calls Tryz.prog 203 #[.agg #[.int .i64 p.src,.int .i64 p.dst,.int .i64 p.k,.int .i64 p.volume,.int .i64 p.limit],.int .i64 nn] w (Ret (.bool (pipeB nn p)) w):=by
 obtain ⟨a,b,c,d,e⟩:=p
 go_enter Tryz.func203,Tryz.ntmps203
 go_wp2_with (go_at_call 169; refine (c_l01In _ _ _ _).mono ?_; rintro e w' ⟨rfl,rfl⟩)
 all_goals
  go_ret
  refine Ret.bool ?_ (Ext.alloc _ _)
  simp_all [pipeB]
theorem c_nodeSame (x:Node) (b:Nat) (s:ByteArray) (w:World) (hb:b<w.heap.size) (hc:w.cell? ⟨b,0,none⟩=some (.string s)):
  Calls Tryz.prog 239 #[.agg #[.string x.name,.int .i64 x.low,.int .i64 x.high],.pointer (some ⟨b,0,none⟩)] w (Ret (.bool (sameN x.name s)) w):=by
 go_enter Tryz.func239,Tryz.ntmps239
 go_wp2_with fail
 go_ret
 exact Ret.bool rfl (Ext.alloc _ _)
def FoundN (b:Bool) (w:World) (e:Ending) (w':World):Prop:=∃r:Int,e= .returned (.int .i64 r)∧decide (0≤r)=b∧Ext w w'
set_option maxHeartbeats 1000000 in
theorem c_IndexNode (A:Option Addr) (n c:Nat) (ns:List Node) (b:Nat) (s:ByteArray) (w:World) (hs:SliceOf w 3 Node.cells A n c ns) (hb:b<w.heap.size) (hcb:w.cell? ⟨b,0,none⟩=some (.string s)):
  Calls Tryz.prog 238 #[.slice A n c,.func (.func 239) #[] #[.pointer (some ⟨b,0,none⟩)]] w (FoundN (hasN ns s) w):=by
 have hm:=hs.max
 have hcap:=hs.cap
 go_enter Tryz.func238,Tryz.ntmps238
 go_wp2_with fail
 go_loopw [4,8] (fun r i wr=>∃k:Nat,k≤n∧r= .int .i64 0∧i= .int .i64 k∧Hid (∀(j:Nat) (p:Node),j<k→ns[j]? =some p→sameN p.name s=false)∧Ext w wr) (fun _ i _=>n-(intOf i).toNat)
 case atStart=>exact ⟨0,Nat.zero_le _,rfl,rfl,hide (fun j p hj=>absurd hj (by omega)),Ext.refl _⟩
 case round=>
  obtain ⟨k,hk,rfl,rfl,HK,hx⟩:=hrel
  by_cases hlt:k<n
  ·obtain ⟨bb,off,p,rfl,hbb,hxk,hc⟩:=(hs.ext hx).get hlt
   have hc0:=hc 0 _ rfl
   have hc1:=hc 1 _ rfl
   have hc2:=hc 2 _ rfl
   clear hc
   simp only [Nat.add_zero] at hc0
   have HX:=hide hxk
   clear hxk
   have hcb':=(hx.cell b 0 hb).trans hcb
   have hb':=Nat.lt_of_lt_of_le hb hx.size
   cases hp:sameN p.name s
   ·go_wp2_with (go_at_call 239; refine (c_nodeSame p b s _ hb' hcb').mono ?_; rw [hp]; rintro e w1 ⟨rfl,hx1⟩)
    go_roundw
    case rel=>
     refine ⟨k+1,by omega,rfl,by go_num,hide fun j q hj hq=> ?_,hx.trans hx1⟩
     by_cases e:j=k
     ·subst e; rw [HX.out] at hq; injection hq with hq; subst hq; exact hp
     ·exact HK.out j q (by omega) hq
    case measure=>simp [intOf]; omega
   ·go_wp2_with (go_at_call 239; refine (c_nodeSame p b s _ hb' hcb').mono ?_; rw [hp]; rintro e w1 ⟨rfl,hx1⟩)
    go_ret
    refine ⟨k,rfl,?_,hx.trans hx1⟩
    have:hasN ns s=true:=by rw [hasN,List.any_eq_true]; exact ⟨p,List.mem_of_getElem? HX.out,hp⟩
    rw [this]; simp
  ·go_wp2_with fail
   go_ret
   refine ⟨-1,rfl,?_,hx⟩
   have:hasN ns s=false:=by
    rw [hasN,List.any_eq_false]; intro q hq
    obtain ⟨j,hj,rfl⟩:=List.mem_iff_getElem.1 hq
    simp [HK.out j _ (by have:=hs.len; omega) (List.getElem?_eq_getElem hj)]
   rw [this]; simp
theorem c_nodeIndex (A1 A2:Option Addr) (n1 c1 n2 c2:Nat) (ns:List Node) (s:ByteArray) (w:World) (hs:SliceOf w 3 Node.cells A1 n1 c1 ns):
  Calls Tryz.prog 185 #[.agg #[.slice A1 n1 c1,.slice A2 n2 c2],.string s] w (FoundN (hasN ns s) w):=by
 go_enter Tryz.func185,Tryz.ntmps185
 go_wp2_with fail
 refine (c_IndexNode A1 n1 c1 ns _ s _ (hs.ext ((Ext.alloc _ _).and_alloc _)) (by simp) (by simp [go_sem])).mono ?_
 rintro e w1 ⟨r,rfl,hr,hx1⟩
 go_wp2_with fail
 go_ret
 exact ⟨r,rfl,hr,((Ext.alloc _ _).and_alloc _).trans hx1⟩
end Go.Proofs.YtfkpghdmljjegaaGreat
namespace Go.Proofs.YtfkpghdmljjegaaGreat
open Go.RowKit
theorem nodeOk_at {ns:List Node} {k:Nat} {p:Node} (h:ns[k]? =some p):nodeOkB ns k=(nodeB p&& !hasN (ns.take k) p.name):=by
 unfold nodeOkB; rw [h]
theorem net_len1 {ns:List Node} {ps:List Pipe} {n:Nat} (hn:n=ns.length) (h:inB (n:Int) 1 24=false):netB ns ps=false:=by
 have:=inB_false.1 h
 unfold netB
 by_cases h1:1≤ns.length
 ·have:¬ns.length≤24:=by omega
  simp [this]
 ·simp [h1]
theorem net_len2 {ns:List Node} {ps:List Pipe} (h:40<ps.length):netB ns ps=false:=by
 unfold netB
 have:¬ps.length≤40:=by omega
 simp [this]
theorem net_node {ns:List Node} {ps:List Pipe} {k:Nat} (hk:k<ns.length) (h:nodeOkB ns k=false):netB ns ps=false:=by
 unfold netB
 rw [all_range_false hk h]; simp
theorem net_pipe {ns:List Node} {ps:List Pipe} {p:Pipe} (hp:p∈ps) (h:pipeB ns.length p=false):netB ns ps=false:=by
 unfold netB
 have:ps.all (pipeB ns.length)=false:=by rw [List.all_eq_false]; exact ⟨p,hp,by simp [h]⟩
 rw [this]; simp
theorem net_true {ns:List Node} {ps:List Pipe} (h1:inB (ns.length:Int) 1 24=true) (h2:ps.length≤40) (h3:∀j,j<ns.length→nodeOkB ns j=true) (h4:∀(j:Nat) (p:Pipe),ps[j]? =some p→pipeB ns.length p=true):netB ns ps=true:=by
 obtain ⟨h5,h6⟩:=inB_true.1 h1
 unfold netB
 rw [all_range_true h3]
 have:ps.all (pipeB ns.length)=true:=by
  rw [List.all_eq_true]; intro p hp
  obtain ⟨j,hj,rfl⟩:=List.mem_iff_getElem.1 hp
  exact h4 j _ (List.getElem?_eq_getElem hj)
 rw [this]
 simp
 omega
theorem pipe_ways (nn:Int) (p:Pipe):(inB p.src 0 (nn-1)=false∧Hid (pipeB nn p=false))∨(inB p.src 0 (nn-1)=true∧inB p.dst 0 (nn-1)=false∧Hid (pipeB nn p=false))∨
  (inB p.src 0 (nn-1)=true∧inB p.dst 0 (nn-1)=true∧(p.src==p.dst)=true∧Hid (pipeB nn p=false))∨(inB p.src 0 (nn-1)=true∧inB p.dst 0 (nn-1)=true∧(p.src==p.dst)=false∧inB p.k 1 1000=false∧Hid (pipeB nn p=false))∨
  (inB p.src 0 (nn-1)=true∧inB p.dst 0 (nn-1)=true∧(p.src==p.dst)=false∧inB p.k 1 1000=true∧inB p.volume 0 1000000=false∧Hid (pipeB nn p=false))∨
  (inB p.src 0 (nn-1)=true∧inB p.dst 0 (nn-1)=true∧(p.src==p.dst)=false∧inB p.k 1 1000=true∧inB p.volume 0 1000000=true∧inB p.limit 1 30000=false∧Hid (pipeB nn p=false))∨
  (inB p.src 0 (nn-1)=true∧inB p.dst 0 (nn-1)=true∧(p.src==p.dst)=false∧inB p.k 1 1000=true∧inB p.volume 0 1000000=true∧inB p.limit 1 30000=true∧Hid (pipeB nn p=true)):=by
 unfold pipeB Hid
 rw [show (p.src != p.dst)= !(p.src==p.dst) from rfl]
 cases inB p.src 0 (nn-1) <;> cases inB p.dst 0 (nn-1) <;> cases (p.src==p.dst) <;> cases inB p.k 1 1000 <;> cases inB p.volume 0 1000000 <;> cases inB p.limit 1 30000 <;> simp
structure NetBox (w:World) (A1 A2:Option Addr) (n1 c1 n2 c2:Nat) (wr:World):Prop where
 ext:Ext (w.alloc (.cells #[.slice A1 n1 c1,.slice A2 n2 c2] 45)) wr
theorem NetBox.cell {w wr:World} {A1 A2:Option Addr} {n1 c1 n2 c2:Nat} (h:NetBox w A1 A2 n1 c1 n2 c2 wr):wr.cell? ⟨w.heap.size,0,none⟩=some (.slice A1 n1 c1)∧wr.cell? ⟨w.heap.size,1,none⟩=some (.slice A2 n2 c2)∧w.heap.size<wr.heap.size:=by
 have hz:=h.ext.size
 simp at hz
 refine ⟨(h.ext.cell _ _ (by simp)).trans (by simp [go_sem]),(h.ext.cell _ _ (by simp)).trans (by simp [go_sem]),by omega⟩
set_option maxHeartbeats 4000000 in
theorem c_IsNetwork (A1 A2:Option Addr) (n1 c1 n2 c2:Nat) (ns:List Node) (ps:List Pipe) (w:World) (hs1:SliceOf w 3 Node.cells A1 n1 c1 ns) (hs2:SliceOf w 5 Pipe.cells A2 n2 c2 ps):
  Calls Tryz.prog 110 #[.agg #[.slice A1 n1 c1,.slice A2 n2 c2]] w (Ret (.bool (netB ns ps)) w):=by
 have hm1:=hs1.max
 have hp1:=hs1.cap
 have hm2:=hs2.max
 have hp2:=hs2.cap
 have HL1:=hide hs1.len
 have HL2:=hide hs2.len
 cases hN:inB (n1:Int) 1 24
 ·have HR:=hide (net_len1 (ps:=ps) HL1.out hN)
  go_enter Tryz.func110,Tryz.ntmps110
  go_wp2_with (go_at_call 164; refine (c_within _ _ _ _).mono ?_; rintro e w' ⟨rfl,rfl⟩)
  go_ret
  exact Ret.bool HR.out (Ext.alloc _ _)
 obtain ⟨hN0,hN1⟩:=inB_true.1 hN
 by_cases hM:40<n2
 ·have HR:=hide (net_len2 (ns:=ns) (ps:=ps) (by rw [←HL2.out]; exact hM))
  go_enter Tryz.func110,Tryz.ntmps110
  go_wp2_with (go_at_call 164; refine (c_within _ _ _ _).mono ?_; rintro e w' ⟨rfl,rfl⟩)
  go_ret
  exact Ret.bool HR.out (Ext.alloc _ _)
 go_enter Tryz.func110,Tryz.ntmps110
 go_wp2_with (go_at_call 164; refine (c_within _ _ _ _).mono ?_; rintro e w' ⟨rfl,rfl⟩)
 have HN:=hide hN
 clear hN
 go_loopw [21] (fun i wr=>∃k:Nat,k≤n1∧i= .int .i64 k∧Hid (∀j,j<k→nodeOkB ns j=true)∧NetBox w A1 A2 n1 c1 n2 c2 wr) (fun i _=>n1-(intOf i).toNat)
 case atStart=>exact ⟨0,Nat.zero_le _,rfl,hide (fun j hj=>absurd hj (by omega)),⟨Ext.refl _⟩⟩
 case round=>
  obtain ⟨k,hk,rfl,HK,hX⟩:=hrel
  have hx:=hX.ext.box
  obtain ⟨x0,x1,hz⟩:=hX.cell
  by_cases hlt:k<n1
  ·obtain ⟨bb,off,p,rfl,hbb,hxk,hc⟩:=(hs1.ext hx).get hlt
   have hc0:=hc 0 _ rfl
   have hc1:=hc 1 _ rfl
   have hc2:=hc 2 _ rfl
   clear hc
   simp only [Nat.add_zero] at hc0
   have hok:=nodeOk_at hxk
   have HX:=hide hok
   clear hxk hok
   have hR:=Row.new wr 223 [.string p.name,.int .i64 p.low,.int .i64 p.high]
   have hRl:=hR.lt
   have r0:=hR.cell 0
   have r1:=hR.cell 1
   have r2:=hR.cell 2
   simp at r0 r1 r2
   have hXa:NetBox w (some ⟨bb,off,none⟩) A2 n1 c1 n2 c2 (wr.alloc (.cells #[.string p.name,.int .i64 p.low,.int .i64 p.high] 223)):=⟨hX.ext.and_alloc _⟩
   obtain ⟨y0,y1,hy⟩:=hXa.cell
   cases hp:nodeB p
   ·rw [hp] at HX
    have HR:=hide (net_node (ps:=ps) (ns:=ns) (k:=k) (by rw [←HL1.out]; exact hlt) HX.out)
    go_wp2_with fail
    refine wp_region_ph [([0],1),([2,3,4,5,6,7,8,9,10],11)] [12,13] (by kernel_rfl) (by kernel_rfl) (by intro c a w d v h; cases d <;> exact h) ?_
    simp only [wpPh,pickL,nthO]
    repeat (go_big_quiet_step (fail))
    refine wpQuiet_nil ?_
    go_wp2_with fail
    refine (c_IsNode p _).mono ?_
    rw [hp]
    rintro e w1 ⟨rfl,hx1⟩
    go_wp2_with fail
    refine ⟨hx1,?_⟩
    repeat (go_big_quiet_step (fail))
    refine wpQuiet_nil ?_
    go_wp2_with fail
    refine ⟨Ext.refl _,?_⟩
    repeat (go_big_quiet_step (fail))
    refine wpQuiet_nil ?_
    go_wp2_with fail
    go_ret
    exact Ret.bool HR.out (((hx.and_alloc _).drew).trans hx1)
   ·rw [hp] at HX
    have hs1k:=(hs1.take (show k≤n1 by omega))
    go_wp2_with fail
    refine wp_region_ph [([0],1),([2,3,4,5,6,7,8,9,10],11)] [12,13] (by kernel_rfl) (by kernel_rfl) (by intro c a w d v h; cases d <;> exact h) ?_
    simp only [wpPh,pickL,nthO]
    repeat (go_big_quiet_step (fail))
    refine wpQuiet_nil ?_
    go_wp2_with fail
    refine (c_IsNode p _).mono ?_
    rw [hp]
    rintro e w1 ⟨rfl,hx1⟩
    have hx1':=(Ext.refl _).drew.trans hx1
    have hXb:NetBox w (some ⟨bb,off,none⟩) A2 n1 c1 n2 c2 w1:=⟨hXa.ext.trans hx1'⟩
    obtain ⟨u0,u1,hu⟩:=hXb.cell
    have hR1:=hR.ext hx1'
    have v0:=hR1.cell 0
    simp at v0
    have hv:=hR1.lt
    go_wp2_with fail
    refine ⟨hx1,?_⟩
    repeat (go_big_quiet_step (fail))
    refine wpQuiet_nil ?_
    go_wp2_with fail
    refine (c_nodeIndex _ none k c1 0 0 (ns.take k) p.name _ (hs1k.ext hXb.ext.box)).mono ?_
    rintro e w2 ⟨r,rfl,hr,hx2⟩
    have hxe:Ext w w2:=(hXb.ext.box).trans hx2
    cases hh:hasN (ns.take k) p.name
    ·rw [hh] at hr HX
     have HO:=hide (all_upto HK.out HX.out)
     go_wp2_with fail
     refine ⟨hx2,?_⟩
     repeat (go_big_quiet_step (fail))
     refine wpQuiet_nil ?_
     go_wp2_with fail
     go_roundw
     case rel=>exact ⟨k+1,by omega,by go_num,HO,⟨hXb.ext.trans hx2⟩⟩
     case measure=>simp [intOf]; omega
    ·rw [hh] at hr HX
     have HR:=hide (net_node (ps:=ps) (ns:=ns) (k:=k) (by rw [←HL1.out]; exact hlt) HX.out)
     go_wp2_with fail
     refine ⟨hx2,?_⟩
     repeat (go_big_quiet_step (fail))
     refine wpQuiet_nil ?_
     go_wp2_with fail
     go_ret
     exact Ret.bool HR.out hxe
  ·have HALL:Hid (∀j,j<ns.length→nodeOkB ns j=true):=hide (fun j hj=>HK.out j (by rw [←HL1.out] at hj; omega))
   have hnn:(n1:Int)-1=(ns.length:Int)-1:=by rw [HL1.out]
   have HNN:=hide hnn
   clear hnn HK
   go_wp2_with fail
   have hX0:=hX
   clear x0 x1 hz hx hX
   go_loopw [44] (fun i wr=>∃k:Nat,k≤n2∧i= .int .i64 k∧Hid (∀(j:Nat) (p:Pipe),j<k→ps[j]? =some p→pipeB ns.length p=true)∧NetBox w A1 A2 n1 c1 n2 c2 wr) (fun i _=>n2-(intOf i).toNat)
   case atStart=>exact ⟨0,Nat.zero_le _,rfl,hide (fun j p hj=>absurd hj (by omega)),hX0⟩
   case round=>
    obtain ⟨k,hk,rfl,HK,hX⟩:=hrel
    have hx:=hX.ext.box
    obtain ⟨x0,x1,hz⟩:=hX.cell
    by_cases hlt:k<n2
    ·obtain ⟨bb,off,p,rfl,hbb,hxk,hc⟩:=(hs2.ext hx).get hlt
     have hc0:=hc 0 _ rfl
     have hc1:=hc 1 _ rfl
     have hc2:=hc 2 _ rfl
     have hc3:=hc 3 _ rfl
     have hc4:=hc 4 _ rfl
     clear hc
     simp only [Nat.add_zero] at hc0
     have HX:=hide hxk
     clear hxk
     have hways:=pipe_ways ns.length p
     rw [←HNN.out] at hways
     have HF:=hide (fun h=>net_pipe (ns:=ns) (List.mem_of_getElem? HX.out) h)
     have hR:=Row.new wr 181 [.int .i64 p.src,.int .i64 p.dst,.int .i64 p.k,.int .i64 p.volume,.int .i64 p.limit]
     have hXa:NetBox w A1 (some ⟨bb,off,none⟩) n1 c1 n2 c2 (wr.alloc (.cells #[.int .i64 p.src,.int .i64 p.dst,.int .i64 p.k,.int .i64 p.volume,.int .i64 p.limit] 181)):=⟨hX.ext.and_alloc _⟩
     rcases hways with ⟨h1,HR⟩ | hways
     ·go_wp2_with fail
      refine (c_isNodeOf A1 (some ⟨bb,off,none⟩) n1 c1 n2 c2 p.src _ (by omega)).mono ?_
      rw [h1]
      rintro e w1 ⟨rfl,hx1⟩
      go_wp2_with fail
      go_ret
      exact Ret.bool (HF.out HR) ((hx.and_alloc _).trans hx1)
     have h1:inB p.src 0 ((n1:Int)-1)=true:=by rcases hways with ⟨h,_⟩ | ⟨h,_⟩ | ⟨h,_⟩ | ⟨h,_⟩ | ⟨h,_⟩ | ⟨h,_⟩ <;> exact h
     have HWY:=hide hways
     clear hways
     go_wp2_with fail
     refine (c_isNodeOf A1 (some ⟨bb,off,none⟩) n1 c1 n2 c2 p.src _ (by omega)).mono ?_
     rw [h1]
     rintro e w1 ⟨rfl,hx1⟩
     clear h1
     have hXb:NetBox w A1 (some ⟨bb,off,none⟩) n1 c1 n2 c2 w1:=⟨hXa.ext.trans hx1⟩
     obtain ⟨u0,u1,hu⟩:=hXb.cell
     have hR1:=hR.ext hx1
     have t0:=hR1.cell 0
     have t1:=hR1.cell 1
     have t2:=hR1.cell 2
     have t3:=hR1.cell 3
     have t4:=hR1.cell 4
     simp at t0 t1 t2 t3 t4
     have hl1:=hR1.lt
     rcases HWY.out with ⟨_,h2,HR⟩ | hways
     ·go_wp2_with fail
      refine (c_isNodeOf A1 (some ⟨bb,off,none⟩) n1 c1 n2 c2 p.dst _ (by omega)).mono ?_
      rw [h2]
      rintro e w2 ⟨rfl,hx2⟩
      go_wp2_with fail
      go_ret
      exact Ret.bool (HF.out HR) (hXb.ext.box.trans hx2)
     have h2:inB p.dst 0 ((n1:Int)-1)=true:=by rcases hways with ⟨_,h,_⟩ | ⟨_,h,_⟩ | ⟨_,h,_⟩ | ⟨_,h,_⟩ | ⟨_,h,_⟩ <;> exact h
     have HWZ:=hide hways
     clear hways HWY
     go_wp2_with fail
     refine (c_isNodeOf A1 (some ⟨bb,off,none⟩) n1 c1 n2 c2 p.dst _ (by omega)).mono ?_
     rw [h2]
     rintro e w2 ⟨rfl,hx2⟩
     clear h2
     have hXc:NetBox w A1 (some ⟨bb,off,none⟩) n1 c1 n2 c2 w2:=⟨hXb.ext.trans hx2⟩
     have hR2:=hR1.ext hx2
     have s0:=hR2.cell 0
     have s1:=hR2.cell 1
     have s2:=hR2.cell 2
     have s3:=hR2.cell 3
     have s4:=hR2.cell 4
     simp at s0 s1 s2 s3 s4
     have hl2:=hR2.lt
     rcases HWZ.out with ⟨_,_,h3,HR⟩ | ⟨_,_,h3,h4,HR⟩ | ⟨_,_,h3,h4,h5,HR⟩ | ⟨_,_,h3,h4,h5,h6,HR⟩ | ⟨_,_,h3,h4,h5,h6,HR⟩
     ·go_wp2_with (go_at_call 164; refine (c_within _ _ _ _).mono ?_; rintro e w' ⟨rfl,rfl⟩)
      go_ret
      exact Ret.bool (HF.out HR) hXc.ext.box
     ·go_wp2_with (go_at_call 164; refine (c_within _ _ _ _).mono ?_; rintro e w' ⟨rfl,rfl⟩)
      go_ret
      exact Ret.bool (HF.out HR) hXc.ext.box
     ·go_wp2_with (go_at_call 164; refine (c_within _ _ _ _).mono ?_; rintro e w' ⟨rfl,rfl⟩)
      go_ret
      exact Ret.bool (HF.out HR) hXc.ext.box
     ·go_wp2_with (go_at_call 164; refine (c_within _ _ _ _).mono ?_; rintro e w' ⟨rfl,rfl⟩)
      go_ret
      exact Ret.bool (HF.out HR) hXc.ext.box
     ·go_wp2_with (go_at_call 164; refine (c_within _ _ _ _).mono ?_; rintro e w' ⟨rfl,rfl⟩)
      go_roundw
      case rel=>
       refine ⟨k+1,by omega,by go_num,hide fun j q hj hq=> ?_,hXc⟩
       by_cases e:j=k
       ·subst e; rw [HX.out] at hq; injection hq with hq; subst hq; exact HR
       ·exact HK.out j q (by omega) hq
      case measure=>simp [intOf]; omega
    ·have HR:=hide (net_true (by rw [←HL1.out]; exact HN.out) (by rw [←HL2.out]; omega) HALL.out (fun j p hp=>HK.out j p (by have:=(List.getElem?_eq_some_iff.1 hp).1; rw [←HL2.out] at this; omega) hp))
     go_wp2_with fail
     go_ret
     exact Ret.bool HR.out hx
end Go.Proofs.YtfkpghdmljjegaaGreat
namespace Go.Proofs.YtfkpghdmljjegaaGreat
open Go.RowKit
theorem has_true {ns:List Node} {k m:Nat} {s:ByteArray} {q:Node} (hm:m<k) (hq:ns[m]? =some q) (h:sameN s q.name=true):hasN (ns.take k) s=true:=by
 rw [hasN,List.any_eq_true]
 refine ⟨q,?_,by rw [sameN_comm]; exact h⟩
 exact List.mem_of_getElem? (i:=m) (by rw [List.getElem?_take,if_pos hm]; exact hq)
theorem has_false {ns:List Node} {k:Nat} {s:ByteArray} (h:∀(j:Nat) (q:Node),j<k→ns[j]? =some q→sameN s q.name=false):hasN (ns.take k) s=false:=by
 rw [hasN,List.any_eq_false]
 intro q hq
 obtain ⟨j,hj,hje⟩:=List.mem_iff_getElem.1 hq
 have h1:(ns.take k)[j]? =some q:=by rw [List.getElem?_eq_getElem hj,hje]
 rw [List.getElem?_take] at h1
 split at h1
 ·rename_i hjk
  rw [sameN_comm,h j q hjk h1]; simp
 ·cases h1
set_option maxHeartbeats 4000000 in
theorem c_specIsNetwork (A1 A2:Option Addr) (n1 c1 n2 c2:Nat) (ns:List Node) (ps:List Pipe) (w:World) (hs1:SliceOf w 3 Node.cells A1 n1 c1 ns) (hs2:SliceOf w 5 Pipe.cells A2 n2 c2 ps) (hnm:∀x∈ns,x.name.size≤1048576):
  Calls Tryz.prog 132 #[.agg #[.slice A1 n1 c1,.slice A2 n2 c2]] w (Ret (.bool (netB ns ps)) w):=by
 have hm1:=hs1.max
 have hp1:=hs1.cap
 have hm2:=hs2.max
 have hp2:=hs2.cap
 have HL1:=hide hs1.len
 have HL2:=hide hs2.len
 have HNM:=hide hnm
 clear hnm
 by_cases hN0:n1<1
 ·have HR:=hide (net_len1 (ps:=ps) HL1.out (inB_false.2 (by omega)))
  go_enter Tryz.func132,Tryz.ntmps132
  go_wp2_with fail
  go_ret
  exact Ret.bool HR.out (Ext.alloc _ _)
 by_cases hN1:24<n1
 ·have HR:=hide (net_len1 (ps:=ps) HL1.out (inB_false.2 (by omega)))
  go_enter Tryz.func132,Tryz.ntmps132
  go_wp2_with fail
  go_ret
  exact Ret.bool HR.out (Ext.alloc _ _)
 have HN:=hide (inB_true.2 ⟨show (1:Int)≤(n1:Int) by omega,show (n1:Int)≤24 by omega⟩)
 by_cases hM:40<n2
 ·have HR:=hide (net_len2 (ns:=ns) (ps:=ps) (by rw [←HL2.out]; exact hM))
  go_enter Tryz.func132,Tryz.ntmps132
  go_wp2_with fail
  go_ret
  exact Ret.bool HR.out (Ext.alloc _ _)
 go_enter Tryz.func132,Tryz.ntmps132
 go_wp2_with fail
 go_loopw [3] (fun i wr=>∃k:Nat,k≤n1∧i= .int .i64 k∧Hid (∀j,j<k→nodeOkB ns j=true)∧NetBox w A1 A2 n1 c1 n2 c2 wr) (fun i _=>n1-(intOf i).toNat)
 case atStart=>exact ⟨0,Nat.zero_le _,rfl,hide (fun j hj=>absurd hj (by omega)),⟨Ext.refl _⟩⟩
 case round=>
  obtain ⟨k,hk,rfl,HK,hX⟩:=hrel
  have hx:=hX.ext.box
  obtain ⟨x0,x1,hz⟩:=hX.cell
  by_cases hlt:k<n1
  ·obtain ⟨bb,off,p,rfl,hbb,hxk,hc⟩:=(hs1.ext hx).get hlt
   have hc0:=hc 0 _ rfl
   have hc1:=hc 1 _ rfl
   have hc2:=hc 2 _ rfl
   simp only [Nat.add_zero] at hc0
   have hpn:=HNM.out p (List.mem_of_getElem? hxk)
   have HX:=hide (nodeOk_at hxk)
   have HXK:=hide hxk
   clear hxk hc
   cases hp:nodeB p
   ·rw [hp] at HX
    have HR:=hide (net_node (ps:=ps) (ns:=ns) (k:=k) (by rw [←HL1.out]; exact hlt) HX.out)
    go_wp2_with fail
    refine (c_specIsNode p _ hpn).mono ?_
    rw [hp]
    rintro e w1 ⟨rfl,hx1⟩
    go_wp2_with fail
    go_ret
    exact Ret.bool HR.out (hx.trans hx1)
   ·rw [hp] at HX
    go_wp2_with fail
    refine (c_specIsNode p _ hpn).mono ?_
    rw [hp]
    rintro e w1 ⟨rfl,hx1⟩
    have hX1:NetBox w (some ⟨bb,off,none⟩) A2 n1 c1 n2 c2 w1:=⟨hX.ext.trans hx1⟩
    clear hp x0 x1 hz hx hX hx1 hc0 hc1 hc2 hbb
    go_wp2_with fail
    go_loopw [4] (fun i wr=>∃m:Nat,m≤k∧i= .int .i64 m∧Hid (∀(j:Nat) (q:Node),j<m→ns[j]? =some q→sameN p.name q.name=false)∧NetBox w (some ⟨bb,off,none⟩) A2 n1 c1 n2 c2 wr) (fun i _=>k-(intOf i).toNat)
    case atStart=>exact ⟨0,Nat.zero_le _,rfl,hide (fun j q hj=>absurd hj (by omega)),hX1⟩
    case round=>
     obtain ⟨m,hm,rfl,HM,hX⟩:=hrel
     clear hX1
     have hx:=hX.ext.box
     obtain ⟨x0,x1,hz⟩:=hX.cell
     by_cases hlt2:m<k
     ·have hmn:m<n1:=by omega
      obtain ⟨b1,off1,p',hA1,hbb,hxk',hc⟩:=(hs1.ext hx).get hlt
      simp only [Option.some.injEq,Addr.mk.injEq] at hA1
      obtain ⟨rfl,rfl,-⟩:=hA1
      obtain rfl:p=p':=by rw [HXK.out] at hxk'; injection hxk'
      have hc0:=hc 0 _ rfl
      obtain ⟨q,hqm,hd⟩:=(hs1.ext hx).at_ hmn
      have hd0:=hd 0 _ rfl
      simp only [Nat.add_zero] at hc0 hd0
      have HQ:=hide hqm
      clear hc hd hqm hxk'
      cases hsm:(p.name.toList==q.name.toList)
      ·go_wp2_with fail
       refine wp_region_later (by kernel_rfl) (by kernel_rfl) ?_
       repeat (go_big_quiet_step (fail))
       refine wpQuiet_nil ?_
       intro w2 hx2
       go_wp2_with fail
       go_roundw
       case rel=>
        refine ⟨m+1,by omega,by go_num,hide fun j q' hj hq'=> ?_,⟨hX.ext.trans hx2⟩⟩
        by_cases e:j=m
        ·subst e; rw [HQ.out] at hq'; injection hq' with hq'; subst hq'; exact hsm
        ·exact HM.out j q' (by omega) hq'
       case measure=>simp [intOf]; omega
      ·have hh:=has_true hlt2 HQ.out hsm
       rw [hh] at HX
       have HR:=hide (net_node (ps:=ps) (ns:=ns) (k:=k) (by rw [←HL1.out]; exact hlt) HX.out)
       clear hh
       go_wp2_with fail
       refine wp_region_later (by kernel_rfl) (by kernel_rfl) ?_
       repeat (go_big_quiet_step (fail))
       refine wpQuiet_nil ?_
       intro w2 hx2
       go_wp2_with fail
       go_ret
       exact Ret.bool HR.out (hx.trans hx2)
     ·have hh:=has_false (k:=k) (fun j q hj hq=>HM.out j q (by omega) hq)
      rw [hh] at HX
      have HO:=hide (all_upto HK.out HX.out)
      clear hh
      go_wp2_with fail
      go_roundw
      case rel=>exact ⟨k+1,by omega,by go_num,HO,hX⟩
      case measure=>simp [intOf]; omega
  ·have HALL:Hid (∀j,j<ns.length→nodeOkB ns j=true):=hide (fun j hj=>HK.out j (by rw [←HL1.out] at hj; omega))
   have hX0:=hX
   clear hX hx HK
   go_wp2_with fail
   clear x0 x1 hz
   go_loopw [5] (fun i wr=>∃k:Nat,k≤n2∧i= .int .i64 k∧Hid (∀(j:Nat) (p:Pipe),j<k→ps[j]? =some p→pipeB ns.length p=true)∧NetBox w A1 A2 n1 c1 n2 c2 wr) (fun i _=>n2-(intOf i).toNat)
   case atStart=>exact ⟨0,Nat.zero_le _,rfl,hide (fun j p hj=>absurd hj (by omega)),hX0⟩
   case round=>
    obtain ⟨k,hk,rfl,HK,hX⟩:=hrel
    clear hX0
    have hx:=hX.ext.box
    obtain ⟨x0,x1,hz⟩:=hX.cell
    by_cases hlt:k<n2
    ·obtain ⟨bb,off,p,rfl,hbb,hxk,hc⟩:=(hs2.ext hx).get hlt
     have hc0:=hc 0 _ rfl
     have hc1:=hc 1 _ rfl
     have hc2:=hc 2 _ rfl
     have hc3:=hc 3 _ rfl
     have hc4:=hc 4 _ rfl
     clear hc
     simp only [Nat.add_zero] at hc0
     have HX:=hide hxk
     clear hxk
     have HPB:=hide (show pipeB (n1:Int) p=pipeB ns.length p by rw [HL1.out])
     go_wp2_with fail
     refine wp_region_ph [([0,1,2,3,4,5,6,7],8)] [9] (by kernel_rfl) (by kernel_rfl) (by intro c a w d v h; cases d <;> exact h) ?_
     simp only [wpPh,pickL,nthO]
     repeat (go_big_quiet_step (fail))
     refine wpQuiet_nil ?_
     go_wp2_with fail
     refine (c_l02Pipe p n1 _ (by omega)).mono ?_
     rw [HPB.out]
     cases hpb:pipeB ns.length p
     ·have HR:=hide (net_pipe (ns:=ns) (List.mem_of_getElem? HX.out) hpb)
      rintro e w1 ⟨rfl,hx1⟩
      go_wp2_with fail
      refine ⟨hx1,?_⟩
      repeat (go_big_quiet_step (fail))
      refine wpQuiet_nil ?_
      go_wp2_with fail
      go_ret
      exact Ret.bool HR.out (hx.drew.trans hx1)
     ·rintro e w1 ⟨rfl,hx1⟩
      go_wp2_with fail
      refine ⟨hx1,?_⟩
      repeat (go_big_quiet_step (fail))
      refine wpQuiet_nil ?_
      go_wp2_with fail
      go_roundw
      case rel=>
       refine ⟨k+1,by omega,by go_num,hide fun j q hj hq=> ?_,⟨hX.ext.trans ((Ext.refl _).drew.trans hx1)⟩⟩
       by_cases e:j=k
       ·subst e; rw [HX.out] at hq; injection hq with hq; subst hq; exact hpb
       ·exact HK.out j q (by omega) hq
      case measure=>simp [intOf]; omega
    ·have HR:=hide (net_true (by rw [←HL1.out]; exact HN.out) (by rw [←HL2.out]; omega) HALL.out (fun j p hp=>HK.out j p (by have:=(List.getElem?_eq_some_iff.1 hp).1; rw [←HL2.out] at this; omega) hp))
     go_wp2_with fail
     go_ret
     exact Ret.bool HR.out hx
end Go.Proofs.YtfkpghdmljjegaaGreat
namespace Go.Proofs.YtfkpghdmljjegaaGreat
open Go.RowKit
structure Contract where
 shipper:Int
 entry:Int
 exit:Int
 amount:Int
 cls:Int
 start:Int
 stop:Int
 price:Int
def Contract.cells (x:Contract):List Value:=[.int .i64 x.shipper,.int .i64 x.entry,.int .i64 x.exit,.int .i64 x.amount,.int .i64 x.cls,.int .i64 x.start,.int .i64 x.stop,.int .i64 x.price]
theorem contract_len (x:Contract):x.cells.length=8:=rfl
theorem contract_info:(Tryz.prog.info? 153).map (fun i=>(i.zero,i.size,i.bytes))=some (some (.agg #[.int .i64 0,.int .i64 0,.int .i64 0,.int .i64 0,.int .i64 0,.int .i64 0,.int .i64 0,.int .i64 0]),8,64):=by kernel_rfl
def markContract (a:Int) (n:Nat):List Contract:=(List.range n).map fun (i:Nat)=>⟨a+8*(i:Int),a+8*(i:Int)+1,a+8*(i:Int)+2,a+8*(i:Int)+3,a+8*(i:Int)+4,a+8*(i:Int)+5,a+8*(i:Int)+6,a+8*(i:Int)+7⟩
end Go.Proofs.YtfkpghdmljjegaaGreat
