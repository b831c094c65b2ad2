/-
  A region that draws its order whose last operation stores into cells that earlier ones load: of the world behind the last operation nothing is asked.
-/
import Derived.Test.YtfkpghdmljjegaaGreatVe02
import Derived.Test.YtfkpghdmljjegaaGreatVe15
import Derived.Test.YtfkpghdmljjegaaGreatVe10
namespace Go.Proofs.YtfkpghdmljjegaaGreat
open Go.RowKit
def wpAnyZ (P:Program) (md:Region.Mode) (ops:Array Oper) (Q:Exit→Act→World→Prop) (S:World→Prop) (z:Nat):Nat→Array Bool→Act→World→Prop
 | 0,listed,a,w=>Region.ready md ops listed=[]∧Q .normal a w
 | fuel+1,listed,a,w=>
  (Region.ready md ops listed=[]→Q .normal a w)∧
  ∀i∈Region.ready md ops listed,wpOp P ops Q i (fun a' w'=>(i≠z→S w')∧wpAnyZ P md ops Q S z fuel (listed.setIfInBounds i true) a' w') a w
section
variable {P:Program} {ops:Array Oper} {Q:Exit→Act→World→Prop} {md:Region.Mode} {S:World→Prop} {z:Nat}
theorem wpAny_of_Z:∀(fuel:Nat) (listed:Array Bool) (a:Act) (w:World),wpAnyZ P md ops Q S z fuel listed a w→wpAny P md ops Q fuel listed a w
 | 0,_,_,_,h=>h
 | fuel+1,_,_,_,h=>⟨h.1,fun i hi=>wpOp_mono (fun a' w' h'=>wpAny_of_Z fuel _ a' w' h'.2) (h.2 i hi)⟩
theorem wpAnyZ_first {i:Nat} {oi:Oper} {v:Value} (hi:ops[i]? =some oi) (hsel:∀(j:Nat) (o:Oper) cs b,ops[j]? =some o→o.op≠ .select cs b)
  (hQ:∀c a w,Q (.panic c) (a.put oi.dst v) w→Q (.panic c) a w) (hiz:i≠z) {oz:Oper} (hoz:ops[z]? =some oz) (hwz:∃e∈oz.after,Region.binds md e=true∧e.on=i):
  ∀(fuel:Nat) (listed:Array Bool) (a:Act) (w:World),
   (∀j oj,ops[j]? =some oj→j≠i→listed.getD j true=false→(∀e∈oj.after,Region.binds md e=true→e.on≠i)→oi.apart ops oj=true)→
   i∈Region.ready md ops listed→YieldsIf P ops S oi v a→S w→
   wpAnyZ P md ops Q S z fuel (listed.setIfInBounds i true) (a.put oi.dst v) w→wpAnyZ P md ops Q S z (fuel+1) listed a w:=by
 intro fuel
 induction fuel with
 | zero=>
  intro listed a w _ hr hy hS H
  refine ⟨fun h=>(by rw [h] at hr; cases hr),fun j hj=> ?_⟩
  by_cases hji:j=i
  ·subst hji; exact hy.wpOp hi hS ⟨fun _=>hS,H⟩
  ·have:=ready_mono hj hji
   rw [H.1] at this
   cases this
 | succ fuel ih=>
  intro listed a w hfree hr hy hS H
  refine ⟨fun h=>(by rw [h] at hr; cases hr),fun j hj=> ?_⟩
  by_cases hji:j=i
  ·subst hji; exact hy.wpOp hi hS ⟨fun _=>hS,H⟩
  ·have h1:=H.2 j (ready_mono hj hji)
   obtain ⟨hjun,oj,hoj,hall⟩:=mem_ready.1 hj
   have hnot:∀e∈oj.after,Region.binds md e=true→e.on≠i:=fun e he hb heq=>by
    have h1:=hall e he hb
    have h0:=(mem_ready.1 hr).1
    rw [heq] at h1
    rcases Nat.lt_or_ge i listed.size with h' | h'
    ·simp [h'] at h0 h1; rw [h0] at h1; cases h1
    ·simp [Array.getElem?_eq_none h'] at h1
   have hjz:j≠z:=by
    rintro rfl
    rw [hoj] at hoz
    injection hoz with hoz
    subst hoz
    obtain ⟨e,he,hb,heq⟩:=hwz
    exact hnot e he hb heq
   have h2:=wpOp_putIf hoj (hfree j oj hoj hji hjun hnot) (fun cs b=>hsel i oi cs b hi) (fun cs b=>hsel j oj cs b hoj) hQ hy h1
   have hfree':∀k ok,ops[k]? =some ok→k≠i→(listed.setIfInBounds j true).getD k true=false→
     (∀e∈ok.after,Region.binds md e=true→e.on≠i)→oi.apart ops ok=true:=fun k ok hk hki hun hno=>by
    refine hfree k ok hk hki ?_ hno
    by_cases hjk:j=k
    ·subst hjk; exact hjun
    ·rw [getD_set_ne true hjk] at hun; exact hun
   refine wpOp_mono (fun a' w' h3=>⟨h3.2.1,ih (listed.setIfInBounds j true) a' w' hfree' (ready_mono hr (Ne.symm hji)) h3.1 (h3.2.1 hjz) ?_⟩) h2
   rw [Array.setIfInBounds_comm _ _ hji]
   exact h3.2.2
end
def waitsZ (md:Region.Mode) (l:List Oper) (z i:Nat):Bool:=decide (i≠z)&&decide (z<l.length)&&(nthO l z).after.any (fun e=>Region.binds md e&&e.on==i)
theorem wpAnyZ_still {P:Program} {md:Region.Mode} {l:List Oper} {Q:Exit→Act→World→Prop} {bs:List (Nat×Nat)} {w0 w:World} {z:Nat} (hw0:SameC bs w0 w) (hs:Region.noSelect l.toArray=true) (hQ:∀c a w d v,Q (.panic c) (a.put d v) w→Q (.panic c) a w) {fuel:Nat} {listed':Array Bool} {K:Act→Prop}
  (hK:∀a,K a→wpAnyZ P md l.toArray Q (SameC bs w0) z fuel listed' a w):∀(is:List Nat) (listed:Array Bool) (a:Act),goStill md l listed is=some listed'→(∀i∈is,waitsZ md l z i=true)→wpQuiet P l.toArray (GrowC bs w0) K (pickL l is) a→
   wpAnyZ P md l.toArray Q (SameC bs w0) z (fuel+is.length) listed a w:=by
 intro is
 induction is with
 | nil=>
  intro listed a hg _ h
  simp only [goStill,Option.some.injEq] at hg
  subst hg
  exact hK a h
 | cons i is ih=>
  intro listed a hg hz h
  unfold goStill at hg
  split at hg
  ·rename_i hc
   simp only [Bool.and_eq_true,decide_eq_true_eq] at hc
   obtain ⟨⟨⟨h1,h2⟩,h3⟩,h4⟩:=hc
   have hi:l.toArray[i]? =some (nthO l i):=by simpa using nthO_some h1
   have hzi:=hz i (by simp)
   simp only [waitsZ,Bool.and_eq_true,decide_eq_true_eq,Array.any_eq_true'] at hzi
   obtain ⟨⟨hiz,hzl⟩,e,he,hb⟩:=hzi
   have hoz:l.toArray[z]? =some (nthO l z):=by simpa using nthO_some hzl
   have hwz:∃e∈(nthO l z).after,Region.binds md e=true∧e.on=i:=by
    simp only [beq_iff_eq] at hb
    exact ⟨e,he,hb⟩
   simp only [pickL,wpQuiet] at h
   by_cases hw:Region.wanted (nthO l i) (yielded l.toArray a.tmps)=true
   ·rw [if_pos hw] at h
    obtain ⟨v,hv,hn⟩:=h
    exact wpAnyZ_first hi (Region.noSelect_spec hs) (fun c a w=>hQ c a w _ _) hiz hoz hwz (fuel+is.length) listed a w (Region.free_spec hi h3) (by simpa using h4) (yields_of_quietC h2 hw hv) hw0 (ih _ _ hg (fun i hi=>hz i (by simp [hi])) hn)
   ·rw [if_neg hw] at h
    exact wpAnyZ_first hi (Region.noSelect_spec hs) (fun c a w=>hQ c a w _ _) hiz hoz hwz (fuel+is.length) listed a w (Region.free_spec hi h3) (by simpa using h4) (.inr ⟨by simpa using hw,rfl⟩) hw0 (ih _ _ hg (fun i hi=>hz i (by simp [hi])) h)
  ·cases hg
def wpPhZ (P:Program) (l:List Oper) (Q:Exit→Act→World→Prop) (bs:List (Nat×Nat)) (w0:World) (z:Nat):List (List Nat×Nat)→List Nat→Act→World→Prop
 | [],last,a,w=>wpQuiet P l.toArray (fun w'=>∃x,w'=laterC bs w0 x) (fun a'=>wpList P l.toArray (Exit.then (fun a'' w''=>Q .normal a'' w'') Q) [nthO l z] a' w) (pickL l last) a
 | (is,j)::r,last,a,w=>wpQuiet P l.toArray (fun w'=>∃x,w'=laterC bs w0 x) (fun a'=>wpList P l.toArray (Exit.then (fun a'' w''=>SameC bs w0 w''∧wpPhZ P l Q bs w0 z r last a'' w'') Q) [nthO l j] a' w) (pickL l is) a
def okPhZ (md:Region.Mode) (l:List Oper) (z:Nat):Array Bool→List (List Nat×Nat)→List Nat→Bool
 | listed,[],last=>match goStill md l listed last with
  | some listed'=>decide (z<l.length)&&last.all (waitsZ md l z)&&(Region.ready md l.toArray listed'==[z])&&(Region.ready md l.toArray (listed'.setIfInBounds z true)).isEmpty
  | none=>false
 | listed,(is,j)::r,last=>match goStill md l listed is with
  | some listed'=>decide (j<l.length)&&is.all (waitsZ md l z)&&decide (j≠z)&&(Region.ready md l.toArray listed'==[j])&&okPhZ md l z (listed'.setIfInBounds j true) r last
  | none=>false
theorem wpAnyZ_ph {P:Program} {md:Region.Mode} {l:List Oper} {Q:Exit→Act→World→Prop} {bs:List (Nat×Nat)} {w0:World} {z:Nat} (hs:Region.noSelect l.toArray=true) (hQ:∀c a w d v,Q (.panic c) (a.put d v) w→Q (.panic c) a w) (last:List Nat):
  ∀(ph:List (List Nat×Nat)) (listed:Array Bool) (a:Act) (w:World),SameC bs w0 w→okPhZ md l z listed ph last=true→wpPhZ P l Q bs w0 z ph last a w→wpAnyZ P md l.toArray Q (SameC bs w0) z (phLen ph last+1) listed a w:=by
 intro ph
 induction ph with
 | nil=>
  intro listed a w hw0 ho h
  unfold okPhZ at ho
  cases hg:goStill md l listed last with
  | none=>rw [hg] at ho; simp at ho
  | some listed'=>
   rw [hg] at ho
   simp only [Bool.and_eq_true,decide_eq_true_eq,beq_iff_eq,List.all_eq_true,List.isEmpty_iff] at ho
   obtain ⟨⟨⟨hz,hw⟩,hr⟩,he⟩:=ho
   have:=wpAnyZ_still (fuel:=1) hw0 hs hQ (K:=fun a'=>wpList P l.toArray (Exit.then (fun a'' w''=>Q .normal a'' w'') Q) [nthO l z] a' w) (fun a' ha=> ?_) last listed a hg hw h
   ·rw [Nat.add_comm] at this; exact this
   ·refine ⟨fun h0=>(by rw [hr] at h0; cases h0),fun i hi=> ?_⟩
    rw [hr] at hi
    obtain rfl:i=z:=by simpa using hi
    exact wpOp_mono (fun a'' w'' h'=>⟨fun hne=>absurd rfl hne,he,h'⟩) (wpOp_one hz ha)
 | cons p r ih=>
  obtain ⟨is,j⟩:=p
  intro listed a w hw0 ho h
  unfold okPhZ at ho
  cases hg:goStill md l listed is with
  | none=>rw [hg] at ho; simp at ho
  | some listed'=>
   rw [hg] at ho
   simp only [Bool.and_eq_true,decide_eq_true_eq,beq_iff_eq,List.all_eq_true] at ho
   obtain ⟨⟨⟨⟨hj,hw⟩,hjz⟩,hr⟩,ho⟩:=ho
   have hfu:phLen ((is,j)::r) last+1=(phLen r last+1+1)+is.length:=by simp only [phLen]; omega
   rw [hfu]
   refine wpAnyZ_still (fuel:=phLen r last+1+1) hw0 hs hQ (fun a' ha=> ?_) is listed a hg hw h
   refine ⟨fun h0=>(by rw [hr] at h0; cases h0),fun i hi=> ?_⟩
   rw [hr] at hi
   obtain rfl:i=j:=by simpa using hi
   exact wpOp_mono (fun a'' w'' h'=>⟨fun _=>h'.1,ih _ a'' w'' h'.1 ho h'.2⟩) (wpOp_one hj ha)
theorem wp_region_phZ {P:Program} {id:Nat} {Q:Exit→Act→World→Prop} {a:Act} {w:World} {l:List Oper} (bs:List (Nat×Nat)) (ph:List (List Nat×Nat)) (last:List Nat) (z:Nat) (hm:P.follows .mixedOrders=true)
  (hc:(Region.noSelect l.toArray&&decide (phLen ph last+1=l.length)&&okPhZ .any l z (Array.replicate l.length false) ph last)=true) (hQ:∀c a w d v,Q (.panic c) (a.put d v) w→Q (.panic c) a w)
  (h:wpPhZ P l Q bs w z ph last a w.drew):(Code.region id l.toArray true).wp P Q a w:=by
 simp only [Bool.and_eq_true,decide_eq_true_eq] at hc
 obtain ⟨⟨hs,hl⟩,ho⟩:=hc
 refine wp_region_any hm (wpAny_of_Z (S:=SameC bs w) (z:=z) _ _ _ _ ?_)
 have:=wpAnyZ_ph (P:=P) (md:= .any) (w0:=w) (bs:=bs) hs hQ last ph _ a w.drew (SameC.refl bs w).drew ho h
 rw [hl] at this
 simpa using this
end Go.Proofs.YtfkpghdmljjegaaGreat
namespace Go.Proofs.YtfkpghdmljjegaaGreat
open Go.RowKit
structure XOut (w0 w:World) (a:Nat) (A:Option Addr) (n c:Nat) (v1 v2 v3 v4:Value) (ns:List Node) (ps:List Pipe) (xs:List Contract) (L:List Nomination) (w':World):Prop where
 src:Src w0 w' a A n c
 only:Only a w w'
 o1:OwnL w' (w.heap.size+1) 223 3 Node.cells v1 ns
 o2:OwnL w' (w.heap.size+1) 181 5 Pipe.cells v2 ps
 o3:OwnL w' (w.heap.size+1) 153 8 Contract.cells v3 xs
 o4:OwnL w' (w.heap.size+1) 157 4 Nomination.cells v4 L
 b1:ns.length≤7
 b2:ps.length≤30
 b3:xs.length≤40
 b4:L.length≤210
 nm:Short ns
 cs:∀x∈xs,CSm x
def DrawnAsk (w0:World) (a:Nat) (A:Option Addr) (n c:Nat) (w:World) (e:Ending) (w':World):Prop:=
 ∃(v1 v2 v3 v4:Value) (ns:List Node) (ps:List Pipe) (xs:List Contract) (L:List Nomination) (q h:Int),e= .returned (.tuple #[.agg #[v1,v2],v3,v4,.int .i64 q,.int .i64 h])∧XOut w0 w a A n c v1 v2 v3 v4 ns ps xs L w'
def DrawnHr (w0:World) (a:Nat) (A:Option Addr) (n c:Nat) (w:World) (e:Ending) (w':World):Prop:=
 ∃(v1 v2 v3 v4:Value) (ns:List Node) (ps:List Pipe) (xs:List Contract) (L:List Nomination) (h:Int),e= .returned (.tuple #[.agg #[v1,v2],v3,v4,.int .i64 h])∧XOut w0 w a A n c v1 v2 v3 v4 ns ps xs L w'
section
variable {w0 w wr wr':World} {a n c g:Nat} {A:Option Addr} {v1 v2 v3 v4 v':Value} {ns:List Node} {ps:List Pipe} {xs:List Contract} {L:List Nomination}
theorem XSt.out (h:XSt w0 w a A n c g v1 v2 v3 v4 ns ps xs L wr) (h2:ns.length≤7) (h3:ps.length≤30) (h4:xs.length≤40) (h5:L.length≤210):
  XOut w0 w a A n c v1 v2 v3 v4 ns ps xs L (putCells wr w.heap.size 0 [v1,v2]):=by
 have hl:=h.bk.net.lt
 have hle:=h.bk.net.src.le0
 exact ⟨h.bk.net.src.put (by omega) (by omega) _ _,h.bk.net.only.putNew (Nat.le_refl _) _ _,h.bk.net.o1.put h.bk.net.res (by decide) _ _,h.bk.net.o2.put h.bk.net.res (by decide) _ _,h.bk.o3.put h.bk.net.res (by decide) _ _,h.o4.put h.bk.net.res (by decide) _ _,h2,h3,h4,h5,h.bk.net.nm,h.bk.cs⟩
theorem XSt.setPipe (h:XSt w0 w a A n c g v1 v2 v3 v4 ns ps xs L wr) {k j:Nat} {x y:Pipe} {u:Value} (hk:ps[k]? =some x) (hj:j<5) (hy:y.cells=x.cells.set j u):
  ∃b c',v2= .slice (some ⟨b,0,none⟩) ps.length c'∧b<wr.heap.size∧b≠g∧(∀i,wr.frozen? ⟨b,i,none⟩=false)∧(∀i v,x.cells[i]? =some v→wr.cell? ⟨b,k*5+i,none⟩=some v)∧XSt w0 w a A n c g v1 v2 v3 v4 ns (ps.set k y) xs L (wr.setCell ⟨b,k*5+j,none⟩ u):=by
 obtain ⟨b,c',hv,hb,hg,hf,hc,hn⟩:=h.bk.net.setPipe hk hj hy
 refine ⟨b,c',hv,hb,hg,hf,hc,⟨hn,?_,h.bk.cs⟩,?_⟩
 ·refine h.bk.o3.grown ((Only.refl b wr).setCell rfl u) (fun q hq e=> ?_)
  exact OwnL.apart h.bk.net.o2 h.bk.o3 (by decide) q hq (by rw [hv]; exact e)
 ·refine h.o4.grown ((Only.refl b wr).setCell rfl u) (fun q hq e=> ?_)
  exact OwnL.apart h.bk.net.o2 h.o4 (by decide) q hq (by rw [hv]; exact e)
theorem XSt.of {w1:World} (hal:a<w.heap.size) (hs:Src w0 w1 a A n c) (ho:Only a (w.alloc (.cells #[.slice none 0 0,.slice none 0 0] 45)) w1)
  (o1:OwnL w1 ((w.alloc (.cells #[.slice none 0 0,.slice none 0 0] 45)).heap.size+1) 223 3 Node.cells v1 ns) (o2:OwnL w1 ((w.alloc (.cells #[.slice none 0 0,.slice none 0 0] 45)).heap.size+1) 181 5 Pipe.cells v2 ps)
  (o3:OwnL w1 ((w.alloc (.cells #[.slice none 0 0,.slice none 0 0] 45)).heap.size+1) 153 8 Contract.cells v3 xs) (o4:OwnL w1 ((w.alloc (.cells #[.slice none 0 0,.slice none 0 0] 45)).heap.size+1) 157 4 Nomination.cells v4 L)
  (hnm:Short ns) (hcs:∀x∈xs,CSm x):XSt w0 w a A n c w1.heap.size v1 v2 v3 v4 ns ps xs L (w1.alloc (.cells #[v1,v2] 45)):=
 ⟨⟨ASt.new hal hs ho (o1.lowG (by simp)) (o2.lowG (by simp)) hnm,(o3.lowG (by simp)).ext (Ext.alloc _ _),hcs⟩,(o4.lowG (by simp)).ext (Ext.alloc _ _)⟩
set_option maxHeartbeats 1000000 in
theorem c_l20DrawHour (h:Src w0 w a A n c):Calls Tryz.prog 251 #[.pointer (some ⟨a,0,none⟩)] w (DrawnN w0 a A n c w):=by
 go_enter Tryz.func251,Tryz.ntmps251
 go_wp2_with fail
 refine (c_next 20 h (by omega) (by omega)).mono ?_
 rintro e w1 ⟨x1,rfl,hx1,hx1',hs1,ho1⟩
 by_cases h0:x1=0
 ·subst h0
  have hs2:=hs1.more (Ext.alloc w1 (.cells #[.int .i64 (-1),.int .i64 47,.int .i64 48] 2))
  have ha1:=hs1.lt
  go_wp2_with fail
  refine (c_next 3 hs2 (by omega) (by omega)).mono ?_
  rintro e w3 ⟨jj,rfl,hy0,hy1,hs3,ho3⟩
  have hR:=(Row.new w1 2 [.int .i64 (-1),.int .i64 47,.int .i64 48]).only ho3 (by omega)
  obtain ⟨j,rfl⟩:=Int.eq_ofNat_of_zero_le hy0
  have hj:j<3:=by omega
  obtain ⟨z,hz⟩:∃z:Int,w3.cell? ⟨w1.heap.size,j,none⟩=some (.int .i64 z):=by
   rw [hR.cell]; rcases (show j=0∨j=1∨j=2 by omega) with rfl | rfl | rfl <;> exact ⟨_,rfl⟩
  have hrl:=hR.lt
  go_wp2_with fail
  go_ret
  exact ⟨z,rfl,hs3,(ho1.trans (Only.of_ext (Ext.alloc _ _) a)).trans ho3⟩
 ·have b0:(x1==0)=false:=by rw [beq_eq_false_iff_ne]; exact h0
  go_wp2_with fail
  refine (c_next 14 hs1 (by omega) (by omega)).mono ?_
  rintro e w2 ⟨x2,rfl,hx2,hx2',hs2,ho2⟩
  go_wp2_with fail
  go_ret
  exact ⟨x2,rfl,hs2,ho1.trans ho2⟩
set_option maxHeartbeats 4000000 in
theorem c_l21DrawAsk (h:Src w0 w a A n c):Calls Tryz.prog 198 #[.pointer (some ⟨a,0,none⟩)] w (DrawnAsk w0 a A n c w):=by
 have hal:=h.lt
 have hle:=h.le0
 go_enter Tryz.func198,Tryz.ntmps198
 go_wp2_with fail
 refine (c_l21Draw (h.more (Ext.alloc _ _))).mono ?_
 rintro e w1 ⟨v1,v2,v3,v4,ns,ps,xs,L,rfl,hs1,ho1,o1,o2,o3,o4,hn7,hp30,hx40,hL210,hnm,hcs⟩
 have hD1:=XSt.of hal hs1 ho1 o1 o2 o3 o4 hnm hcs
 have hz1:=ho1.size
 simp at hz1
 obtain ⟨A1,c1,rfl,-⟩:=o1.sl node_len (by omega)
 obtain ⟨A2,c2,rfl,-⟩:=o2.sl pipe_len (by omega)
 obtain ⟨A3,c3,rfl,-⟩:=o3.sl contract_len (by omega)
 obtain ⟨A4,c4,rfl,-⟩:=o4.sl nomination_len (by omega)
 clear hs1 ho1 o1 o2 o3 o4 hnm hcs
 obtain ⟨W2,HW2⟩:∃W2,Hid (w1.alloc (.cells #[.slice A1 ns.length c1,.slice A2 ps.length c2] 45)=W2):=⟨_,hide rfl⟩
 rw [HW2.out] at hD1
 by_cases hL0:0<L.length
 ·have hd:decide ((0:Int)<(L.length:Int))=true:=decide_eq_true (by omega)
  go_wp2_with fail
  rw [HW2.out]
  refine (c_next 3 hD1.bk.net.src (by omega) (by omega)).mono ?_
  rintro e W3 ⟨x3,rfl,hx3,hx3',hs3,ho3⟩
  have hD3:=hD1.draw hs3 ho3
  clear hD1 hs3 ho3 hd
  by_cases h3:0<x3
  ·have hd3:decide (0<x3)=true:=decide_eq_true h3
   go_wp2_with fail
   refine (c_next L.length hD3.bk.net.src (by omega) (by omega)).mono ?_
   rintro e w4 ⟨k,rfl,hk0,hk1,hs4,ho4⟩
   obtain ⟨k,rfl⟩:=Int.eq_ofNat_of_zero_le hk0
   have hD4:=hD3.draw hs4 ho4
   obtain ⟨b3,o3,y,rfl,hb3,hy,hyc⟩:=(hD4.o4.slE nomination_len (by omega)).get (k:=k) (by omega)
   have k0:=hyc 0 _ rfl
   have k1:=hyc 1 _ rfl
   have k2:=hyc 2 _ rfl
   have k3:=hyc 3 _ rfl
   simp only [Nat.add_zero] at k0
   have hD:=hD4.more (Ext.alloc w4 (.cells y.cells.toArray 157))
   have hC:=Row.new w4 157 y.cells
   have hvl4:=hD4.bk.net.var.lt
   have hgg4:=hD4.bk.net.hg
   clear hD3 hD4 hs4 ho4 hy hyc hd3
   go_wp2_with fail
   obtain ⟨W4,HW4⟩:∃W4,Hid (w4.alloc (.cells y.cells.toArray 157)=W4):=⟨_,hide rfl⟩
   have HW4':Hid (w4.alloc (.cells #[.int .i64 y.contract,.int .i64 y.hour,.int .i64 y.sent,.int .i64 y.amount] 157)=W4):=HW4
   rw [HW4'.out]
   rw [HW4.out] at hD hC
   have r0:=hC.cell 0
   have r1:=hC.cell 1
   have r2:=hC.cell 2
   have r3:=hC.cell 3
   simp [Nomination.cells] at r0 r1 r2 r3
   have rl:=hC.lt
   have p0:=hD.bk.net.var.cell 0
   have p1:=hD.bk.net.var.cell 1
   simp at p0 p1
   have pf:=hD.bk.net.var.frozen
   have pl:=hD.bk.net.var.lt
   have q0:=hD.bk.net.res.cell 0
   have q1:=hD.bk.net.res.cell 1
   simp at q0 q1
   have qf:=hD.bk.net.res.frozen
   have ql:=hD.bk.net.res.lt
   clear k0 k1 k2 k3
   have hD:=hD.more (Ext.refl W4).drew
   refine wp_region_phC [(w1.heap.size,0),(w1.heap.size,1),(w4.heap.size,0),(w4.heap.size,1)] [([0,1,2,3,4,5,6],7)] [8,9,10,11] (by kernel_rfl) (by kernel_rfl) (by intro c a w d v h; cases d <;> exact h) ?_
   simp only [wpPhC,pickL,nthO]
   repeat (go_big_quiet_step (fail))
   refine wpQuiet_nil ?_
   have hsm:=(SameC.refl [(w1.heap.size,0),(w1.heap.size,1),(w4.heap.size,0),(w4.heap.size,1)] W4).drew
   have HF:=hide (hD.out hn7 hp30 hx40 hL210)
   clear hD
   go_wp2_with fail
   refine ⟨(hsm.setCell (by simp; omega) _).setCell (by simp; omega) _,?_⟩
   repeat (go_big_quiet_step (fail))
   refine wpQuiet_nil ?_
   go_wp2_with fail
   refine bodyPost_ret (v:= .tuple #[.agg #[.slice A1 ns.length c1,.slice A2 ps.length c2],.slice A3 xs.length c3,.slice (some ⟨b3,o3,none⟩) L.length c4,.int .i64 y.contract,.int .i64 y.hour]) (by simp [results,Tryz.results198,go_sem,q0,q1]) rfl ?_
   exact ⟨_,_,_,_,ns,ps,xs,L,y.contract,y.hour,rfl,HF.out⟩
  ·have hd3:decide (0<x3)=false:=decide_eq_false h3
   go_wp2_with fail
   have hD:=hD3
   clear hD3 hd3
   have p0:=hD.bk.net.var.cell 0
   have p1:=hD.bk.net.var.cell 1
   simp at p0 p1
   have pf:=hD.bk.net.var.frozen
   have pl:=hD.bk.net.var.lt
   have q0:=hD.bk.net.res.cell 0
   have q1:=hD.bk.net.res.cell 1
   simp at q0 q1
   have qf:=hD.bk.net.res.frozen
   have ql:=hD.bk.net.res.lt
   go_wp2_with fail
   refine wp_region_phC [(w1.heap.size,0),(w1.heap.size,1)] [([0,1,2,3,4,5,7],6),([],8),([],9)] [10,11,12,13] (by kernel_rfl) (by kernel_rfl) (by intro c a w d v h; cases d <;> exact h) ?_
   simp only [wpPhC,pickL,nthO]
   repeat (go_big_quiet_step (fail))
   refine wpQuiet_nil ?_
   clear p0 p1 pf pl q0 q1 qf ql
   go_wp2_with fail
   refine (c_l02DrawIndex xs.length (by omega) (hD.bk.net.src.more (Ext.refl _).drew)).mono ?_
   rintro e w5 ⟨z5,rfl,hs5,ho5⟩
   have hO5:=(Only.refl a W3).drew.trans ho5
   have hvl:=hD.bk.net.var.lt
   have hgg:=hD.bk.net.hg
   have hal5:=hD.bk.net.lt
   have hsm:=SameC.of_only (cs:=[(w1.heap.size,0),(w1.heap.size,1)]) hO5 (by simp; omega)
   have hD5:=hD.draw hs5 hO5
   clear hD hs5
   go_wp2_with fail
   refine ⟨hsm,?_⟩
   repeat (go_big_quiet_step (fail))
   refine wpQuiet_nil ?_
   go_wp2_with fail
   refine (c_l20DrawHour hD5.bk.net.src).mono ?_
   rintro e w6 ⟨z6,rfl,hs6,ho6⟩
   have hvl5:=hD5.bk.net.var.lt
   have hsm:=hsm.trans (SameC.of_only (cs:=[(w1.heap.size,0),(w1.heap.size,1)]) ho6 (by simp; omega))
   have hD:=hD5.draw hs6 ho6
   clear hD5 hs6 ho5 ho6 hO5
   go_wp2_with fail
   refine ⟨hsm,?_⟩
   repeat (go_big_quiet_step (fail))
   refine wpQuiet_nil ?_
   have p0:=hD.bk.net.var.cell 0
   have p1:=hD.bk.net.var.cell 1
   simp at p0 p1
   have pf:=hD.bk.net.var.frozen
   have pl:=hD.bk.net.var.lt
   have q0:=hD.bk.net.res.cell 0
   have q1:=hD.bk.net.res.cell 1
   simp at q0 q1
   have qf:=hD.bk.net.res.frozen
   have ql:=hD.bk.net.res.lt
   have HF:=hide (hD.out hn7 hp30 hx40 hL210)
   clear hD
   go_wp2_with fail
   refine ⟨(hsm.setCell (by simp; omega) _).setCell (by simp; omega) _,?_⟩
   repeat (go_big_quiet_step (fail))
   refine wpQuiet_nil ?_
   go_wp2_with fail
   refine bodyPost_ret (v:= .tuple #[.agg #[.slice A1 ns.length c1,.slice A2 ps.length c2],.slice A3 xs.length c3,.slice A4 L.length c4,.int .i64 z5,.int .i64 z6]) (by simp [results,Tryz.results198,go_sem,q0,q1]) rfl ?_
   exact ⟨_,_,_,_,ns,ps,xs,L,z5,z6,rfl,HF.out⟩
 ·have hd:decide ((0:Int)<(L.length:Int))=false:=decide_eq_false (by omega)
  have hd1:decide (0<L.length)=false:=decide_eq_false hL0
  clear hL0
  go_wp2_with fail
  rw [HW2.out]
  obtain ⟨W3,HW3⟩:∃W3,W3=W2:=⟨_,rfl⟩
  subst HW3
  have hD:=hD1
  clear hD1 hd hd1
  have p0:=hD.bk.net.var.cell 0
  have p1:=hD.bk.net.var.cell 1
  simp at p0 p1
  have pf:=hD.bk.net.var.frozen
  have pl:=hD.bk.net.var.lt
  have q0:=hD.bk.net.res.cell 0
  have q1:=hD.bk.net.res.cell 1
  simp at q0 q1
  have qf:=hD.bk.net.res.frozen
  have ql:=hD.bk.net.res.lt
  go_wp2_with fail
  refine wp_region_phC [(w1.heap.size,0),(w1.heap.size,1)] [([0,1,2,3,4,5,7],6),([],8),([],9)] [10,11,12,13] (by kernel_rfl) (by kernel_rfl) (by intro c a w d v h; cases d <;> exact h) ?_
  simp only [wpPhC,pickL,nthO]
  repeat (go_big_quiet_step (fail))
  refine wpQuiet_nil ?_
  clear p0 p1 pf pl q0 q1 qf ql
  go_wp2_with fail
  refine (c_l02DrawIndex xs.length (by omega) (hD.bk.net.src.more (Ext.refl _).drew)).mono ?_
  rintro e w5 ⟨z5,rfl,hs5,ho5⟩
  have hO5:=(Only.refl a W3).drew.trans ho5
  have hvl:=hD.bk.net.var.lt
  have hgg:=hD.bk.net.hg
  have hal5:=hD.bk.net.lt
  have hsm:=SameC.of_only (cs:=[(w1.heap.size,0),(w1.heap.size,1)]) hO5 (by simp; omega)
  have hD5:=hD.draw hs5 hO5
  clear hD hs5
  go_wp2_with fail
  refine ⟨hsm,?_⟩
  repeat (go_big_quiet_step (fail))
  refine wpQuiet_nil ?_
  go_wp2_with fail
  refine (c_l20DrawHour hD5.bk.net.src).mono ?_
  rintro e w6 ⟨z6,rfl,hs6,ho6⟩
  have hvl5:=hD5.bk.net.var.lt
  have hsm:=hsm.trans (SameC.of_only (cs:=[(w1.heap.size,0),(w1.heap.size,1)]) ho6 (by simp; omega))
  have hD:=hD5.draw hs6 ho6
  clear hD5 hs6 ho5 ho6 hO5
  go_wp2_with fail
  refine ⟨hsm,?_⟩
  repeat (go_big_quiet_step (fail))
  refine wpQuiet_nil ?_
  have p0:=hD.bk.net.var.cell 0
  have p1:=hD.bk.net.var.cell 1
  simp at p0 p1
  have pf:=hD.bk.net.var.frozen
  have pl:=hD.bk.net.var.lt
  have q0:=hD.bk.net.res.cell 0
  have q1:=hD.bk.net.res.cell 1
  simp at q0 q1
  have qf:=hD.bk.net.res.frozen
  have ql:=hD.bk.net.res.lt
  have HF:=hide (hD.out hn7 hp30 hx40 hL210)
  clear hD
  go_wp2_with fail
  refine ⟨(hsm.setCell (by simp; omega) _).setCell (by simp; omega) _,?_⟩
  repeat (go_big_quiet_step (fail))
  refine wpQuiet_nil ?_
  go_wp2_with fail
  refine bodyPost_ret (v:= .tuple #[.agg #[.slice A1 ns.length c1,.slice A2 ps.length c2],.slice A3 xs.length c3,.slice A4 L.length c4,.int .i64 z5,.int .i64 z6]) (by simp [results,Tryz.results198,go_sem,q0,q1]) rfl ?_
  exact ⟨_,_,_,_,ns,ps,xs,L,z5,z6,rfl,HF.out⟩
set_option maxHeartbeats 4000000 in
theorem c_l31Draw (h:Src w0 w a A n c):Calls Tryz.prog 126 #[.pointer (some ⟨a,0,none⟩)] w (DrawnHr w0 a A n c w):=by
 have hal:=h.lt
 have hle:=h.le0
 go_enter Tryz.func126,Tryz.ntmps126
 go_wp2_with fail
 refine (c_l21DrawAsk (h.more (Ext.alloc _ _))).mono ?_
 rintro e w1 ⟨v1,v2,v3,v4,ns,ps,xs,L,qq,hh,rfl,hO⟩
 have hD1:=XSt.of hal hO.src hO.only hO.o1 hO.o2 hO.o3 hO.o4 hO.nm hO.cs
 have hz1:=hO.only.size
 simp at hz1
 obtain ⟨A1,c1,rfl,-⟩:=hO.o1.sl node_len (by have:=hO.b1; omega)
 obtain ⟨A2,c2,rfl,-⟩:=hO.o2.sl pipe_len (by have:=hO.b2; omega)
 obtain ⟨A3,c3,rfl,-⟩:=hO.o3.sl contract_len (by have:=hO.b3; omega)
 obtain ⟨A4,c4,rfl,-⟩:=hO.o4.sl nomination_len (by have:=hO.b4; omega)
 have hn7:=hO.b1
 have hp30:=hO.b2
 have hx40:=hO.b3
 have hL210:=hO.b4
 clear hO
 obtain ⟨W2,HW2⟩:∃W2,Hid (w1.alloc (.cells #[.slice A1 ns.length c1,.slice A2 ps.length c2] 45)=W2):=⟨_,hide rfl⟩
 rw [HW2.out] at hD1
 go_wp2_with fail
 rw [HW2.out]
 go_loopw [11] (fun i wr=>∃(k:Nat) (qs:List Pipe),k≤ps.length∧i= .int .i64 k∧Hid (qs.length=ps.length)∧XSt w0 w a A n c w1.heap.size (.slice A1 ns.length c1) (.slice A2 ps.length c2) (.slice A3 xs.length c3) (.slice A4 L.length c4) ns qs xs L wr) (fun i _=>ps.length-(intOf i).toNat)
 case atStart=>exact ⟨0,ps,Nat.zero_le _,rfl,hide rfl,hD1⟩
 case round=>
  clear hD1
  obtain ⟨k,qs,hk,rfl,HQL,hD⟩:=hrel
  by_cases hlt:k<ps.length
  ·have p0:=hD.bk.net.var.cell 0
   have p1:=hD.bk.net.var.cell 1
   simp at p0 p1
   have pf:=hD.bk.net.var.frozen
   have pl:=hD.bk.net.var.lt
   go_wp2_with fail
   refine (c_next 3 hD.bk.net.src (by omega) (by omega)).mono ?_
   rintro e w3 ⟨x3,rfl,hx3,hx3',hs3,ho3⟩
   have hD3:=hD.draw hs3 ho3
   clear hD hs3 ho3 p0 p1 pf pl
   by_cases h3:x3=0
   ·subst h3
    obtain ⟨x,hxk⟩:∃x,qs[k]? =some x:=⟨_,List.getElem?_eq_getElem (by have:=HQL.out; omega)⟩
    obtain ⟨q,hq⟩:∃q:Int,wrap64 (x.limit.tdiv 5)=q:=⟨_,rfl⟩
    obtain ⟨m1,hm1⟩:∃m1:Int,(if q<30000 then q else 30000)=m1:=⟨_,rfl⟩
    obtain ⟨lm,hlm⟩:∃lm:Int,(if 1<m1 then m1 else 1)=lm:=⟨_,rfl⟩
    obtain ⟨b,c',hv2,hb,hbg,hbf,hbc,hD4⟩:=(hD3.more (Ext.refl w3).drew).setPipe (j:=4) (y:=⟨x.src,x.dst,x.k,x.volume,lm⟩) (u:= .int .i64 lm) hxk (by omega) rfl
    injection hv2 with hA2 hnn hcc
    clear hnn
    subst hA2 hcc
    have k4:w3.cell? ⟨b,k*5+4,none⟩=some (.int .i64 x.limit):=hbc 4 _ rfl
    have hb4:w3.frozen? ⟨b,k*5+4,none⟩=false:=hbf (k*5+4)
    have hb:b<w3.heap.size:=hb
    clear hbc hbf hxk
    have p0:=hD3.bk.net.var.cell 0
    have p1:=hD3.bk.net.var.cell 1
    simp at p0 p1
    have pf:=hD3.bk.net.var.frozen
    have pl:=hD3.bk.net.var.lt
    clear hD3
    go_wp2_with fail
    refine wp_region_phC [(w1.heap.size,1)] [([0,1,2,3,4,5,6,7],8),([9,10,11,12,13],14)] [] (by kernel_rfl) (by kernel_rfl) (by intro c a w d v h; cases d <;> exact h) ?_
    simp only [wpPhC,pickL,nthO]
    repeat (go_big_quiet_step (fail))
    refine wpQuiet_nil ?_
    have hsm:=(SameC.refl [(w1.heap.size,1)] w3).drew
    go_wp2_with fail
    refine ⟨hsm,?_⟩
    repeat (go_big_quiet_step (fail))
    refine wpQuiet_nil ?_
    go_wp2_with fail
    refine ⟨(hsm.setCell (p:=⟨b,k*5+4,none⟩) (by first | (simp; done) | (simp; omega)) (.int .i64 lm)),?_⟩
    repeat (go_big_quiet_step (fail))
    refine wpQuiet_nil ?_
    clear p0 p1 pf pl hsm
    go_wp2_with fail
    go_roundw
    case rel=>exact ⟨k+1,qs.set k ⟨x.src,x.dst,x.k,x.volume,lm⟩,by omega,by go_num,hide (by rw [List.length_set]; exact HQL.out),hD4⟩
    case measure=>simp [intOf]; omega
   ·have b3:(x3==0)=false:=by rw [beq_eq_false_iff_ne]; exact h3
    go_wp2_with fail
    go_roundw
    case rel=>exact ⟨k+1,qs,by omega,by go_num,HQL,hD3⟩
    case measure=>simp [intOf]; omega
  ·have p0:=hD.bk.net.var.cell 0
   have p1:=hD.bk.net.var.cell 1
   simp at p0 p1
   have pf:=hD.bk.net.var.frozen
   have pl:=hD.bk.net.var.lt
   have q0:=hD.bk.net.res.cell 0
   have q1:=hD.bk.net.res.cell 1
   simp at q0 q1
   have qf:=hD.bk.net.res.frozen
   have ql:=hD.bk.net.res.lt
   have HF:=hide (hD.out hn7 (by have:=HQL.out; omega) hx40 hL210)
   clear hD
   go_wp2_with fail
   refine bodyPost_ret (v:= .tuple #[.agg #[.slice A1 ns.length c1,.slice A2 ps.length c2],.slice A3 xs.length c3,.slice A4 L.length c4,.int .i64 hh]) (by simp [results,Tryz.results126,go_sem,q0,q1]) rfl ?_
   exact ⟨_,_,_,_,ns,qs,xs,L,hh,rfl,HF.out⟩
end
end Go.Proofs.YtfkpghdmljjegaaGreat
