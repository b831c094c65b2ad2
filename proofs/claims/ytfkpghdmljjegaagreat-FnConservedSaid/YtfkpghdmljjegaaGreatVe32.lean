/-
  The search through a network, of the program, exactly.
-/
import Derived.Test.YtfkpghdmljjegaaGreatVe25
import Derived.Deep.CutRange
namespace Go.Proofs.YtfkpghdmljjegaaGreat
open Go.RowKit
structure Mk4 (W wr:World) (n1 x go gd ge gv:Nat):Prop where
 o:RowOf wr go 2 intC [(x:Int)]
 d:RowOf wr gd 2 intC (List.replicate n1 0)
 e:RowOf wr ge 2 intC (List.replicate n1 0)
 v:Row wr gv 301 [.slice (some ⟨go,0,none⟩) 1 1,.slice (some ⟨gd,0,none⟩) n1 n1,.slice (some ⟨ge,0,none⟩) n1 n1]
 ext:Ext W wr
 lo:W.heap.size≤go∧W.heap.size≤gd∧W.heap.size≤ge∧W.heap.size≤gv
 ne:go≠gd∧go≠ge∧go≠gv∧gd≠ge∧gd≠gv∧ge≠gv
def nnB (z:Int):Bool:=decide (0≤z)
structure SchF (N P:Nat) (W wr:World) (gr gd ge gv:Nat) (D en:List Int) (v:Value) (E:List Int):Prop where
 dist:RowOf wr gd 2 intC D
 ent:RowOf wr ge 2 intC en
 var:Row wr gv 301 [v,.slice (some ⟨gd,0,none⟩) N N,.slice (some ⟨ge,0,none⟩) N N]
 res:Row wr gr 301 [.slice none 0 0,.slice none 0 0,.slice none 0 0]
 own:OwnL wr W.heap.size 2 1 intC v E
 ap:∀k,v.ownBlock=some k→k≠gd∧k≠ge∧k≠gv
 ext:Ext W wr
 dl:D.length=N
 el:en.length=N
 db:∀z∈D,-1≤z∧z<E.length
 cnt:E.length=(D.map nnB).count true
 inn:InN N E
 enb:EntB P en
structure Blk4 (W:World) (gr gd ge gv:Nat):Prop where
 lo:W.heap.size≤gd∧W.heap.size≤ge∧W.heap.size≤gv∧gr<W.heap.size
 ne:gd≠ge∧gd≠gv∧ge≠gv
section
variable {N P gr gd ge gv:Nat} {W wr wr':World} {D en:List Int} {v v':Value} {E:List Int}
theorem SchF.more (h:SchF N P W wr gr gd ge gv D en v E) (hx:Ext wr wr'):SchF N P W wr' gr gd ge gv D en v E:=
 ⟨h.dist.ext hx,h.ent.ext hx,h.var.ext hx,h.res.ext hx,h.own.ext hx,h.ap,h.ext.trans hx,h.dl,h.el,h.db,h.cnt,h.inn,h.enb⟩
theorem SchF.le (h:SchF N P W wr gr gd ge gv D en v E):E.length≤N:=by
 rw [h.cnt, ←h.dl, ←List.length_map (f:=nnB)]; exact List.count_le_length
theorem SchF.add (h:SchF N P W wr gr gd ge gv D en v E) (hb4:Blk4 W gr gd ge gv) {d:Nat} {t:Int} (hd:D[d]? =some t) (ht:t<0) {u:Int} (hu:0≤u∧u≤E.length) {z:Int} (h1: -1≤z) (h2:z<P)
  {W3:World} (hx3:Ext ((wr.setCell ⟨gd,d,none⟩ (.int .i64 u)).setCell ⟨ge,d,none⟩ (.int .i64 z)) W3) (hg:W3.grownBy wr' v.ownBlock)
  (ho:OwnL wr' W.heap.size 2 1 intC v' (E++[(d:Int)])) (hb5:∀k,v'.ownBlock=some k→v.ownBlock=some k∨wr.heap.size≤k):
  Row wr' gv 301 [v,.slice (some ⟨gd,0,none⟩) N N,.slice (some ⟨ge,0,none⟩) N N]∧SchF N P W (wr'.setCell ⟨gv,0,none⟩ v') gr gd ge gv (D.set d u) (en.set d z) v' (E++[(d:Int)]):=by
 obtain ⟨⟨l1,l2,l3,l4⟩,n1,n2,n3⟩:=hb4
 have hb:=fun k (hk:v.ownBlock=some k)=>h.ap k hk
 have hdN:d<N:=by rw [←h.dl]; exact (List.getElem?_eq_some_iff.1 hd).1
 have hgd:=h.dist.lt
 have hge:=h.ent.lt
 have hgv:=h.var.lt
 have s1:=RowOf.set0 h.dist (fun x=>⟨_,rfl⟩) (d:=d) (by rw [h.dl]; exact hdN) u (.int .i64 u) rfl
 have s2:=s1.far (p:=⟨ge,d,none⟩) n1 (.int .i64 z)
 have e1:=h.ent.far (p:=⟨gd,d,none⟩) (Ne.symm n1) (.int .i64 u)
 have e2:=RowOf.set0 e1 (fun x=>⟨_,rfl⟩) (d:=d) (by rw [h.el]; exact hdN) z (.int .i64 z) rfl
 have v1:=h.var.far (p:=⟨gd,d,none⟩) (Ne.symm n2) (.int .i64 u)
 have v2:=v1.far (p:=⟨ge,d,none⟩) (Ne.symm n3) (.int .i64 z)
 have r1:=h.res.far (p:=⟨gd,d,none⟩) (by show gr≠gd; omega) (.int .i64 u)
 have r2:=r1.far (p:=⟨ge,d,none⟩) (by show gr≠ge; omega) (.int .i64 z)
 have hx2:=(h.ext.setCell (p:=⟨gd,d,none⟩) l1 (.int .i64 u)).setCell (p:=⟨ge,d,none⟩) l2 (.int .i64 z)
 have s3:=s2.ext hx3
 have e3:=e2.ext hx3
 have v3:=v2.ext hx3
 have r3:=r2.ext hx3
 have s4:RowOf wr' gd 2 intC (D.set d u):=(hg.block _ s3.lt (fun e=>(hb _ e.symm).1 rfl)).trans s3
 have e4:RowOf wr' ge 2 intC (en.set d z):=(hg.block _ e3.lt (fun e=>(hb _ e.symm).2.1 rfl)).trans e3
 have v4:Row wr' gv 301 [v,.slice (some ⟨gd,0,none⟩) N N,.slice (some ⟨ge,0,none⟩) N N]:=(hg.block _ v3.lt (fun e=>(hb _ e.symm).2.2 rfl)).trans v3
 have r4:Row wr' gr 301 [.slice none 0 0,.slice none 0 0,.slice none 0 0]:=(hg.block _ r3.lt (fun e=>by have:=h.own.block_le e.symm; omega)).trans r3
 have ap':∀k,v'.ownBlock=some k→k≠gd∧k≠ge∧k≠gv:=fun k hk=>by
  rcases hb5 k hk with h5 | h5
  ·exact hb k h5
  ·omega
 have hx4:=(hx2.trans hx3).grown hg (fun k hk=>h.own.block_le hk)
 refine ⟨v4,s4.far (p:=⟨gv,0,none⟩) n2 _,e4.far (p:=⟨gv,0,none⟩) n3 _,v4.set_ 0 v',r4.far (p:=⟨gv,0,none⟩) (by show gr≠gv; omega) _,?_,ap',hx4.setCell (p:=⟨gv,0,none⟩) l3 _,by rw [List.length_set]; exact h.dl,by rw [List.length_set]; exact h.el,fun y hy=> ?_,?_,h.inn.snoc hdN,h.enb.set d h1 h2⟩
 ·exact ho.farX (p:=⟨gv,0,none⟩) (fun k hk=>(ap' k hk).2.2) _
 ·rw [List.length_append]
  rcases List.mem_or_eq_of_mem_set hy with hy | rfl
  ·have:=h.db y hy; simp; omega
  ·simp; omega
 ·have hf:(D.map nnB)[d]? =some false:=by rw [List.getElem?_map,hd,Option.map_some]; unfold nnB; rw [decide_eq_false (by omega)]
  have ht':nnB u=true:=decide_eq_true hu.1
  rw [List.length_append,h.cnt,List.map_set,ht',count_set_T hf]; rfl
end
theorem mk4_ex {W wr:World} {n1 x go gd ge gv:Nat} (hv:Row wr gv 301 [.slice (some ⟨go,0,none⟩) 1 1,.slice (some ⟨gd,0,none⟩) n1 n1,.slice (some ⟨ge,0,none⟩) n1 n1])
  (ho:RowOf wr go 2 intC [(x:Int)]) (hd:RowOf wr gd 2 intC (List.replicate n1 0)) (he:RowOf wr ge 2 intC (List.replicate n1 0)) (hx:Ext W wr)
  (hl:W.heap.size≤go∧W.heap.size≤gd∧W.heap.size≤ge∧W.heap.size≤gv) (hn:go≠gd∧go≠ge∧go≠gv∧gd≠ge∧gd≠gv∧ge≠gv):
  ∃go gd' ge' gv':Nat,Value.pointer (some ⟨gv,0,none⟩)= .pointer (some ⟨gv',0,none⟩)∧Mk4 W wr n1 x go gd' ge' gv':=⟨go,gd,ge,gv,rfl,ho,hd,he,hv,hx,hl,hn⟩
theorem map_start {N x:Nat}:((List.replicate N (-1:Int)).set x 0).map nnB=(List.replicate N false).set x true:=by
 rw [List.map_set,List.map_replicate]; rfl
def RetSF (R:Sst) (w:World) (e:Ending) (w':World):Prop:=
 ∃vo D n d ve,e= .returned (.agg #[vo,.slice D n d,ve])∧OwnL w' w.heap.size 2 1 intC vo R.E∧OwnL w' w.heap.size 2 1 intC ve R.en∧Ext w w'
set_option maxHeartbeats 4000000 in
theorem c_searchFrom (A1 A2:Option Addr) (n1 c1 n2 c2:Nat) (ps:List Pipe) (w:World) (hs2:SliceOf w 5 Pipe.cells A2 n2 c2 ps) (m1:n1≤100000) (m2:n2≤100000) (he:EndsN n1 ps) (x:Nat) (hxN:x<n1):
  Calls Tryz.prog 303 #[.agg #[.slice A1 n1 c1,.slice A2 n2 c2],.int .i64 x] w (RetSF (srch ps anyR n1 (-1) x) w):=by
 have hB:=(Row.new w 45 [.slice A1 n1 c1,.slice A2 n2 c2]).ext (Ext.alloc _ (.cells #[.slice none 0 0,.slice none 0 0,.slice none 0 0] 301))
 have hmkI:=fun W=>run_make_flat (P:=Tryz.prog) 24 2 _ _ 1 8 Tryz.underlying24 int_info (f:=intC) 0 rfl rfl rfl (by omega) n1 (by omega) (by omega) W
 have HE:=hide he
 clear he
 obtain ⟨R,HR⟩:∃R,Hid (srch ps anyR n1 (-1) x=R):=⟨_,hide rfl⟩
 rw [HR.out]
 go_enter Tryz.func303,Tryz.ntmps303
 go_wp2_with fail
 go_cut [5] from 12 to 22 (fun s wx=>∃go gd ge gv:Nat,s= .pointer (some ⟨gv,0,none⟩)∧Mk4 ((w.alloc (.cells #[.slice A1 n1 c1,.slice A2 n2 c2] 45)).alloc (.cells #[.slice none 0 0,.slice none 0 0,.slice none 0 0] 301)) wx n1 x go gd ge gv)
 case first=>
  clear HE HR hB
  go_region
  all_goals
   go_wp2_with fail
   go_meet
  all_goals
   apply mk4_ex
   case hv=>(refine Row.drew ?_; repeat (first | (refine Row.newG _ _ ?_; simp; done) | refine Row.ext ?_ (Ext.alloc _ _)))
   case ho=>(refine RowOf.drew ?_; repeat (first | (refine Row.newG _ _ ?_; simp; done) | refine RowOf.ext ?_ (Ext.alloc _ _)))
   case hd=>(refine RowOf.drew ?_; repeat (first | (refine Row.newG _ _ ?_; simp; done) | refine RowOf.ext ?_ (Ext.alloc _ _)))
   case he=>(refine RowOf.drew ?_; repeat (first | (refine Row.newG _ _ ?_; simp; done) | refine RowOf.ext ?_ (Ext.alloc _ _)))
   case hx=>
    refine Ext.drew ?_
    repeat (first | exact Ext.refl _ | refine Ext.and_alloc ?_ _)
   case hl=>
    have hz:(((w.alloc (.cells #[.slice A1 n1 c1,.slice A2 n2 c2] 45)).alloc (.cells #[.slice none 0 0,.slice none 0 0,.slice none 0 0] 301))).heap.size=w.heap.size+1+1:=by simp
    omega
   case hn=>omega
 case rest=>
  obtain ⟨go,gd,ge,gv,rfl,hM⟩:=hcut
  clear hmkI
  have hb4:Blk4 ((w.alloc (.cells #[.slice A1 n1 c1,.slice A2 n2 c2] 45)).alloc (.cells #[.slice none 0 0,.slice none 0 0,.slice none 0 0] 301)) (w.heap.size+1) gd ge gv:=⟨⟨hM.lo.2.1,hM.lo.2.2.1,hM.lo.2.2.2,by simp⟩,hM.ne.2.2.2.1,hM.ne.2.2.2.2.1,hM.ne.2.2.2.2.2⟩
  have hRes:Row wc (w.heap.size+1) 301 [.slice none 0 0,.slice none 0 0,.slice none 0 0]:=(Row.newG _ _ (by simp)).ext hM.ext
  have hBc:=hB.ext hM.ext
  have hlo:=hM.lo
  have hne:=hM.ne
  simp at hlo
  have hnx1:go≠gd∧go≠ge∧go≠gv:=⟨hne.1,hne.2.1,hne.2.2.1⟩
  have hn1:=hb4.ne.1
  have hn2:=hb4.ne.2.1
  have hn3:=hb4.ne.2.2
  have hb0:=hBc.cell 0
  simp at hb0
  clear hb4
  have hE0:=hM.e
  have hD0:=hM.d
  have hV0:=hM.v
  have hO0:=hM.o
  have hX0:=hM.ext
  clear hM hne hBc
  go_wp2_with fail
  go_loopw [26] (fun i wr=>∃(k:Nat) (D en:List Int),k≤n1∧i= .int .i64 k∧RowOf wr gd 2 intC D∧D.length=n1∧Hid (∀(j:Nat) (z:Int),j<k→D[j]? =some z→z= -1)∧RowOf wr ge 2 intC en∧en.length=n1∧Hid (∀(j:Nat) (z:Int),j<k→en[j]? =some z→z= -1)∧Row wr gv 301 [.slice (some ⟨go,0,none⟩) 1 1,.slice (some ⟨gd,0,none⟩) n1 n1,.slice (some ⟨ge,0,none⟩) n1 n1]∧RowOf wr go 2 intC [(x:Int)]∧Row wr (w.heap.size+1) 301 [.slice none 0 0,.slice none 0 0,.slice none 0 0]∧Ext ((w.alloc (.cells #[.slice A1 n1 c1,.slice A2 n2 c2] 45)).alloc (.cells #[.slice none 0 0,.slice none 0 0,.slice none 0 0] 301)) wr) (fun i _=>n1-(intOf i).toNat)
  case atStart=>exact ⟨0,_,_,Nat.zero_le _,rfl,hD0,by simp,hide (fun j z hj=>absurd hj (by omega)),hE0,by simp,hide (fun j z hj=>absurd hj (by omega)),hV0,hO0,hRes,hX0⟩
  case round=>
   clear hE0 hD0 hV0 hO0 hX0 hRes hb0
   obtain ⟨k,D,en,hk,rfl,hD,hdl,HDN,hEn,hel,HEN,hV,hO,hRes,hx⟩:=hrel
   have hgd:=hD.lt
   have hge:=hEn.lt
   have hgv:=hV.lt
   have hv1:=hV.cell 1
   have hv2:=hV.cell 2
   simp at hv1 hv2
   by_cases hlt:k<n1
   ·obtain ⟨u,hu⟩:=hD.there intC_len (i:=k) (by omega) (j:=0) (by omega)
    obtain ⟨u2,hu2⟩:=hEn.there intC_len (i:=k) (by omega) (j:=0) (by omega)
    simp only [Nat.mul_one,Nat.add_zero] at hu hu2
    have hf:=hD.frozen k
    have hf2:=hEn.frozen k
    have hN1:=(RowOf.set0 hD (fun x=>⟨_,rfl⟩) (d:=k) (by omega) (-1) (.int .i64 (-1)) rfl).far (p:=⟨ge,k,none⟩) hn1 (.int .i64 (-1))
    have hN2:=RowOf.set0 (hEn.far (p:=⟨gd,k,none⟩) (Ne.symm hn1) (.int .i64 (-1))) (fun x=>⟨_,rfl⟩) (d:=k) (by omega) (-1) (.int .i64 (-1)) rfl
    have hV2:=(hV.far (p:=⟨gd,k,none⟩) (Ne.symm hn2) (.int .i64 (-1))).far (p:=⟨ge,k,none⟩) (Ne.symm hn3) (.int .i64 (-1))
    have hO2:=(hO.far (p:=⟨gd,k,none⟩) hnx1.1 (.int .i64 (-1))).far (p:=⟨ge,k,none⟩) hnx1.2.1 (.int .i64 (-1))
    have hR2:=(hRes.far (p:=⟨gd,k,none⟩) (by show w.heap.size+1≠gd; omega) (.int .i64 (-1))).far (p:=⟨ge,k,none⟩) (by show w.heap.size+1≠ge; omega) (.int .i64 (-1))
    have hx2:=(hx.setCell (p:=⟨gd,k,none⟩) (by simp; omega) (.int .i64 (-1))).setCell (p:=⟨ge,k,none⟩) (by simp; omega) (.int .i64 (-1))
    have HN1:=hide (step_ent HDN.out)
    have HN2:=hide (step_ent HEN.out)
    have hm1:gv≠gd:=Ne.symm hn2
    have hm2:gv≠ge:=Ne.symm hn3
    have hm3:ge≠gd:=Ne.symm hn1
    clear hx hD hEn hV hO hRes HDN HEN
    go_wp2_with fail
    refine wp_region_phC [(gv,1),(gv,2)] [([0,1,2,3,4,5,6],7),([8],9)] [] (by kernel_rfl) (by kernel_rfl) (by intro c a w d v h; cases d <;> exact h) ?_
    simp only [wpPhC,pickL,nthO]
    repeat (go_big_quiet_step (fail))
    refine wpQuiet_nil ?_
    go_wp2_with fail
    have hsm:=(SameC.refl [(gv,1),(gv,2)] wr).drew.setCell (p:=⟨gd,k,none⟩) (by intro q hq; simp only [List.mem_cons,List.not_mem_nil,or_false] at hq; rcases hq with rfl | rfl <;> exact .inl hm1) (.int .i64 (-1))
    refine ⟨hsm,?_⟩
    repeat (go_big_quiet_step (fail))
    refine wpQuiet_nil ?_
    go_wp2_with fail
    refine ⟨hsm.setCell (p:=⟨ge,k,none⟩) (by intro q hq; simp only [List.mem_cons,List.not_mem_nil,or_false] at hq; rcases hq with rfl | rfl <;> exact .inl hm2) _,wpQuiet_nil ?_⟩
    go_wp2_with fail
    go_roundw
    case rel=>exact ⟨k+1,_,_,by omega,by go_num,hN1,by rw [List.length_set]; exact hdl,HN1,hN2,by rw [List.length_set]; exact hel,HN2,hV2,hO2,hR2,hx2.drew⟩
    case measure=>simp [intOf]; omega
   ·obtain rfl:n1=k:=by omega
    obtain ⟨u,hu⟩:=hD.there intC_len (i:=x) (by omega) (j:=0) (by omega)
    simp only [Nat.mul_one,Nat.add_zero] at hu
    have hf:=hD.frozen x
    have hDe:=all_rep hdl HDN.out
    have hEe:=all_rep hel HEN.out
    subst hDe
    subst hEe
    have hSD:SchF n1 (n2+1) ((w.alloc (.cells #[.slice A1 n1 c1,.slice A2 n2 c2] 45)).alloc (.cells #[.slice none 0 0,.slice none 0 0,.slice none 0 0] 301)) (wr.setCell ⟨gd,x,none⟩ (.int .i64 0)) (w.heap.size+1) gd ge gv ((List.replicate n1 (-1)).set x 0) (List.replicate n1 (-1)) (.slice (some ⟨go,0,none⟩) 1 1) [(x:Int)]:=by
     refine ⟨RowOf.set0 hD (fun x=>⟨_,rfl⟩) (d:=x) (by simp; omega) 0 (.int .i64 0) rfl,hEn.far (p:=⟨gd,x,none⟩) (Ne.symm hn1) _,hV.far (p:=⟨gd,x,none⟩) (Ne.symm hn2) _,hRes.far (p:=⟨gd,x,none⟩) (by show w.heap.size+1≠gd; omega) _,OwnL.of_row (xs:=[(x:Int)]) (hO.far (p:=⟨gd,x,none⟩) hnx1.1 _) intC_len (by simp; omega) (by simp),?_,hx.setCell (p:=⟨gd,x,none⟩) (by simp; omega) _,by simp,by simp,?_,?_,?_,?_⟩
     ·intro k hk; simp [Value.ownBlock] at hk; subst hk; exact hnx1
     ·intro z hz
      rcases List.mem_or_eq_of_mem_set hz with hz | rfl
      ·have:=List.eq_of_mem_replicate hz; simp; omega
      ·simp
     ·rw [map_start,start_seen hxN]; rfl
     ·intro z hz; obtain rfl:=List.mem_singleton.1 hz; exact ⟨x,rfl,hxN⟩
     ·intro z hz; have:=List.eq_of_mem_replicate hz; omega
    have HST:Hid (srchF ps anyR (n1-0) 0 ⟨((List.replicate n1 (-1)).set x 0).map nnB,List.replicate n1 (-1),[(x:Int)]⟩=R):=hide (by rw [←HR.out,map_start]; rfl)
    clear hD hEn hV hO hRes hx HDN HEN hdl hel
    go_wp2_with fail
    go_loopw [7] (fun i wr=>∃(k:Nat) (D en E:List Int) (v:Value),i= .int .i64 k∧k≤E.length∧Hid (srchF ps anyR (n1-k) k ⟨D.map nnB,en,E⟩=R)∧SchF n1 (n2+1) ((w.alloc (.cells #[.slice A1 n1 c1,.slice A2 n2 c2] 45)).alloc (.cells #[.slice none 0 0,.slice none 0 0,.slice none 0 0] 301)) wr (w.heap.size+1) gd ge gv D en v E) (fun i _=>n1-(intOf i).toNat)
    case atStart=>exact ⟨0,_,_,_,_,rfl,Nat.zero_le _,HST,hSD⟩
    case round=>
     clear hSD HST hu hf hv1 hv2 hgd hge hgv
     obtain ⟨k,D,en,E,v,rfl,hk,HS,hD⟩:=hrel
     have hEn:=hD.le
     have hszr:=hD.dist.lt
     have hsze:=hD.ent.lt
     have hvl:=hD.var.lt
     have hxs:=hD.ext.size
     simp at hxs
     obtain ⟨Ao,co,rfl,hsl⟩:=hD.own.sl intC_len (by omega)
     have hv0:=hD.var.cell 0
     have hv1:=hD.var.cell 1
     have hv2:=hD.var.cell 2
     simp at hv0 hv1 hv2
     have hBr:=hB.ext hD.ext
     have hb0:=hBr.cell 0
     have hb1:=hBr.cell 1
     have hbl:=hBr.lt
     simp at hb0 hb1
     clear hBr
     by_cases hlt:k<E.length
     ·obtain ⟨bo,oo,zo,rfl,hbo,hok,hco⟩:=hsl.get hlt
      have hc0:=hco 0 _ rfl
      simp only [Nat.add_zero,Nat.mul_one] at hc0
      obtain ⟨q,rfl,hq⟩:=hD.inn.at hok
      have HOK:=hide hok
      obtain ⟨s0,hs0⟩:∃s0:Sst,Hid (s0=⟨D.map nnB,en,E⟩):=⟨_,hide rfl⟩
      have HNX:Hid (srchF ps anyR (n1-(k+1)) (k+1) (visits ps anyR q s0)=R):=hide (by rw [←HS.out,hs0.out]; exact (srchF_step hok (by omega)).symm)
      clear hco hok hsl HS
      go_wp2_with fail
      refine (c_pipesAt A1 A2 n1 c1 n2 c2 ps _ (hs2.ext ((Ext.alloc _ _).trans ((Ext.alloc _ _).trans hD.ext))) q (by omega)).mono ?_
      rintro e w2 ⟨va,Ea,rfl,hoa,HA,hx2⟩
      have hDr:=hD.more hx2
      clear hD hc0 hv0 hv1 hv2 hb0 hb1
      obtain ⟨wb,hwb⟩:∃wb,wr.heap.size=wb:=⟨_,rfl⟩
      rw [hwb] at hoa
      have hwd:gd<wb:=by rw [←hwb]; exact hszr
      have hwe:ge<wb:=by rw [←hwb]; exact hsze
      have hwv:gv<wb:=by rw [←hwb]; exact hvl
      have hwz:w.heap.size+1+1≤wb:=by rw [←hwb]; exact hxs
      have HAP:Apt va (.slice (some ⟨bo,oo,none⟩) E.length co):=fun k hk h2=>by
       have h3:=hoa.block_le hk
       have h4:bo<wb:=by rw [←hwb]; exact hbo
       simp [Value.ownBlock] at h2
       omega
      obtain ⟨Aa,ca,rfl,_⟩:=hoa.sl intC_len (by omega)
      clear hwb hx2 hszr hsze hvl hbo hxs hbl
      go_wp2_with fail
      go_loopw [58] (fun i wr=>∃(j:Nat) (D en E:List Int) (v:Value),i= .int .i64 j∧j≤Ea.length∧k<E.length∧Hid (E[k]? =some (q:Int))∧Hid ((⟨D.map nnB,en,E⟩:Sst)=(Ea.take j).foldl (visit ps anyR q) s0)∧SchF n1 (n2+1) ((w.alloc (.cells #[.slice A1 n1 c1,.slice A2 n2 c2] 45)).alloc (.cells #[.slice none 0 0,.slice none 0 0,.slice none 0 0] 301)) wr (w.heap.size+1) gd ge gv D en v E∧OwnL wr wb 2 1 intC (.slice Aa Ea.length ca) Ea∧Apt (.slice Aa Ea.length ca) v) (fun i _=>Ea.length-(intOf i).toNat)
      case atStart=>exact ⟨0,D,en,E,_,rfl,Nat.zero_le _,hlt,HOK,hide hs0.out.symm,hDr,hoa,HAP⟩
      case round=>
       clear HAP hoa hDr HOK hEn hlt hk hs0
       obtain ⟨j,D,en,E,v,rfl,hj,hkE,HOK,HF,hD,hoa,hap⟩:=hrel
       have hEn:=hD.le
       have hEa:=HA.out.2
       by_cases hjl:j<Ea.length
       ·obtain ⟨bo',oo',zo',co',hve,hbo',_⟩:∃bo oo zo co,v= .slice (some ⟨bo,oo,none⟩) E.length co∧bo<wr.heap.size∧E[k]? =some zo:=by
         obtain ⟨Ao,co,rfl,hsl⟩:=hD.own.sl intC_len (by omega)
         obtain ⟨bo,oo,zo,rfl,hbo,hok,hco⟩:=hsl.get hkE
         exact ⟨bo,oo,zo,co,rfl,hbo,hok⟩
        subst hve
        obtain ⟨ba,oa,za,rfl,hba,hak,hca⟩:=(hoa.slE intC_len (by omega)).get hjl
        obtain ⟨ka,p,rfl,hpk,hpe⟩:=atL_mem (HA.out.1 ▸ List.mem_of_getElem? hak)
        have hd0:=hca 0 _ rfl
        simp only [Nat.add_zero,Nat.mul_one] at hd0
        have hkl:ka<n2:=by rw [hs2.len]; exact (List.getElem?_eq_some_iff.1 hpk).1
        obtain ⟨bp,op,p',rfl,hbp,hpk',hcp⟩:=(hs2.ext ((Ext.alloc _ _).trans ((Ext.alloc _ _).trans hD.ext))).get hkl
        obtain rfl:p'=p:=by rw [hpk] at hpk'; exact (Option.some.inj hpk').symm
        have hp0:=hcp 0 _ rfl
        have hp1:=hcp 1 _ rfl
        have hp2:=hcp 2 _ rfl
        have hp3:=hcp 3 _ rfl
        have hp4:=hcp 4 _ rfl
        simp only [Nat.add_zero] at hp0
        have HPK:=hide hpk
        have HPE:=hide hpe
        have HAK:=hide hak
        obtain ⟨y,hyq,hy⟩:=HE.out.oth hpk q
        have hyne:y≠q:=by
         obtain ⟨_,_,h3⟩:=HE.out p' (List.mem_of_getElem? hpk)
         unfold othE at hyq
         split at hyq <;> omega
        have HYQ:=hide hyq
        clear hyq hca hpk hpe hak hcp hpk'
        have hb1:=(hB.ext hD.ext).cell 1
        have hbl:=(hB.ext hD.ext).lt
        simp at hb1
        obtain ⟨t,ht⟩:∃t,D[y]? =some t:=⟨_,List.getElem?_eq_getElem (by rw [hD.dl]; exact hy)⟩
        obtain ⟨tq,htq⟩:∃t,D[q]? =some t:=⟨_,List.getElem?_eq_getElem (by rw [hD.dl]; exact hq)⟩
        have hbt:=hD.db tq (List.mem_of_getElem? htq)
        have HT:=hide ht
        have HTQ:=hide htq
        clear ht htq
        go_wp2_with fail
        refine (c_otherEnd p' q _).mono ?_
        rintro e w2 ⟨rfl,hx2⟩
        rw [HYQ.out]
        have hDr:=hD.more hx2
        have hor:=hoa.ext hx2
        have hbo2:=Nat.lt_of_lt_of_le hbo' hx2.size
        have hba2:=Nat.lt_of_lt_of_le hba hx2.size
        have hszd:=hDr.dist.lt
        have hsc:=hDr.dist.get intC_len HT.out (j:=0) rfl
        have hsq:=hDr.dist.get intC_len HTQ.out (j:=0) rfl
        simp only [Nat.mul_one,Nat.add_zero] at hsc hsq
        have hsf:=hDr.dist.frozen y
        have hvl:=hDr.var.lt
        have hvf:=hDr.var.frozen 0
        have hv0:=hDr.var.cell 0
        have hv1:=hDr.var.cell 1
        have hv2:=hDr.var.cell 2
        simp at hv0 hv1 hv2
        clear hD hoa hx2 hp0 hp1 hp2 hp3 hp4 hb1 hbl hd0 hba hbp hbo'
        by_cases ht0:t<0
        ·obtain ⟨u,hu⟩:=hDr.ent.there intC_len (i:=y) (by rw [hDr.el]; exact hy) (j:=0) (by omega)
         simp only [Nat.mul_one,Nat.add_zero] at hu
         have hel:=hDr.ent.lt
         have hef:=hDr.ent.frozen y
         have e1:IntKind.i64.wrap (tq+1)=tq+1:=IntWalk.i64_in _ (by omega)
         have hm1:gv≠gd:=Ne.symm hn2
         have hm2:gv≠ge:=Ne.symm hn3
         have hm3:ge≠gd:=Ne.symm hn1
         have hqy:q≠y:=Ne.symm hyne
         go_wp2_with fail
         refine wp_region_phC [(gv,1),(gv,2),(gd,q)] [([0,1,2,3,4,5,6,7,8,9,10,11,12,13],14),([15],16)] [] (by kernel_rfl) (by kernel_rfl) (by intro c a w d v h; cases d <;> exact h) ?_
         simp only [wpPhC,pickL,nthO]
         repeat (go_big_quiet_step (fail))
         refine wpQuiet_nil ?_
         go_wp2_with fail
         have hsm:=(SameC.refl [(gv,1),(gv,2),(gd,q)] w2).drew.setCell (p:=⟨gd,y,none⟩) (by
          intro q hq
          simp only [List.mem_cons,List.not_mem_nil,or_false] at hq
          rcases hq with rfl | rfl | rfl
          ·exact .inl hm1
          ·exact .inl hm1
          ·exact .inr hqy) (.int .i64 (tq+1))
         refine ⟨hsm,?_⟩
         repeat (go_big_quiet_step (fail))
         refine wpQuiet_nil ?_
         go_wp2_with fail
         refine ⟨hsm.setCell (p:=⟨ge,y,none⟩) (by
          intro q hq
          simp only [List.mem_cons,List.not_mem_nil,or_false] at hq
          rcases hq with rfl | rfl | rfl
          ·exact .inl hm2
          ·exact .inl hm2
          ·exact .inl (Ne.symm hm3)) _,wpQuiet_nil ?_⟩
         have hDd:=hDr.more (Ext.refl _).drew
         have hord:=hor.ext (Ext.refl _).drew
         have hapk:=hDr.ap
         have hown2:=hDr.own.ltG (k:=bo') rfl
         simp at hown2
         have hszx:=hDr.ext.size
         simp at hszx
         have ho3:OwnL ((w2.drew.setCell ⟨gd,y,none⟩ (.int .i64 (tq+1))).setCell ⟨ge,y,none⟩ (.int .i64 ka)) _ 2 1 intC (.slice (some ⟨bo',oo',none⟩) E.length co') E:=(hDd.own.farX (p:=⟨gd,y,none⟩) (fun k hk=>(hapk k hk).1) _).farX (p:=⟨ge,y,none⟩) (fun k hk=>(hapk k hk).2.1) _
         have hr3:OwnL ((w2.drew.setCell ⟨gd,y,none⟩ (.int .i64 (tq+1))).setCell ⟨ge,y,none⟩ (.int .i64 ka)) wb 2 1 intC (.slice (some ⟨ba,oa,none⟩) Ea.length ca) Ea:=(hord.farK (p:=⟨gd,y,none⟩) hwd _).farK (p:=⟨ge,y,none⟩) hwe _
         go_wp2_with (at_builtin; go_must (refine wpList_append_where rfl _ _ 24 rfl _ 2 _ 1 8 Tryz.underlying24 int_info rfl (by decide) intC intC_len int_one' (.slice (some ⟨bo',oo',none⟩) E.length co') E rfl (ho3.ext (Ext.alloc _ _)) (w2.heap.size) 0 1 1 [(y:Int)] rfl (new_int ((w2.drew.setCell ⟨gd,y,none⟩ (.int .i64 (tq+1))).setCell ⟨ge,y,none⟩ (.int .i64 ka)) _ _ (by simp)) (by omega) (by omega) (by first | omega | (simp; omega)) ?_))
         intro v5 w5 ho5 hg5 hb5
         obtain ⟨A5,n5,c5,rfl⟩:∃A n c,v5= .slice A n c:=by
          obtain ⟨A,c,h,_⟩:=ho5.sl intC_len (by omega)
          exact ⟨_,_,_,h⟩
         have hnf:(D.map nnB)[y]? =some false:=by rw [List.getElem?_map,HT.out,Option.map_some]; unfold nnB; rw [decide_eq_false (by omega)]
         have hnt:nnB (tq+1)=true:=decide_eq_true (by omega)
         have HF5:Hid ((⟨(D.set y (tq+1)).map nnB,en.set y (ka:Int),E++[(y:Int)]⟩:Sst)=(Ea.take (j+1)).foldl (visit ps anyR q) s0):=hide (by rw [fold_step HAK.out, ←HF.out,visit_yes HPK.out (by rw [HYQ.out,Int.toNat_natCast]; exact hnf) rfl,HYQ.out,Int.toNat_natCast,List.map_set,hnt])
         obtain ⟨hv5,hD5⟩:=hDd.add ⟨⟨by simp; omega,by simp; omega,by simp; omega,by simp⟩,hn1,hn2,hn3⟩ HT.out ht0 (u:=tq+1) (by omega) (z:=(ka:Int)) (by omega) (by omega) (Ext.alloc _ _) hg5 (ho5.lowG (by simp)) (fun k hk=>by
          rcases hb5 k hk with h5 | h5
          ·exact .inl h5
          ·right; show w2.heap.size≤k; omega)
         have hr5:=(hr3.ext (Ext.alloc _ (.cells #[.int .i64 y] 2))).grown hg5 (fun k hk=>hap k hk)
         have hr6:=hr5.farK (p:=⟨gv,0,none⟩) hwv (.slice A5 n5 c5)
         have hap5:Apt (.slice (some ⟨ba,oa,none⟩) Ea.length ca) (.slice A5 n5 c5):=fun k hk h2=>by
          rcases hb5 k h2 with h3 | h3
          ·exact hap k hk h3
          ·obtain rfl:ba=k:=by simpa [Value.ownBlock] using hk
           omega
         have hvl5:=hv5.lt
         have hvf5:=hv5.frozen 0
         have hvc5:=hv5.cell 0
         simp at hvc5
         clear hDr hDd hord ho3 hr3 hr5 hg5 ho5 hb5 hor e1 hsm
         go_wp2_with fail
         go_roundw
         case rel=>exact ⟨j+1,_,_,_,_,by go_num,by omega,by simp; omega,hide (by rw [List.getElem?_append_left hkE]; exact HOK.out),HF5,hD5,hr6,hap5⟩
         case measure=>simp [intOf]; omega
        ·have hnf:(D.map nnB)[y]? =some true:=by rw [List.getElem?_map,HT.out,Option.map_some]; unfold nnB; rw [decide_eq_true (by omega)]
         have HNF:=hide hnf
         clear hnf
         go_wp2_with fail
         go_roundw
         case rel=>exact ⟨j+1,D,en,E,_,by go_num,by omega,hkE,HOK,hide (by rw [fold_step HAK.out, ←HF.out,visit_no HPK.out (by rw [HYQ.out,Int.toNat_natCast]; simp only; rw [HNF.out]; simp)]),hDr,hor,hap⟩
         case measure=>simp [intOf]; omega
       ·go_wp2_with fail
        go_roundw
        case rel=>exact ⟨k+1,D,en,E,_,by go_num,by omega,hide (by rw [←HNX.out,HF.out,visits, ←HA.out.1,List.take_of_length_le (by omega)]),hD⟩
        case measure=>simp [intOf]; omega
     ·have hres0:=hD.res.lt
      have hsf:=hD.res.frozen
      have hr1:=hD.res.cell 0
      have hr2:=hD.res.cell 1
      have hr3:=hD.res.cell 2
      simp at hr1 hr2 hr3
      have hRF:=((hD.res.set_ 0 (.slice Ao E.length co)).set_ 1 (.slice (some ⟨gd,0,none⟩) n1 n1)).set_ 2 (.slice (some ⟨ge,0,none⟩) n1 n1)
      have hf0:=hRF.cell 0
      have hf1:=hRF.cell 1
      have hf2:=hRF.cell 2
      simp at hf0 hf1 hf2
      go_wp2_with fail
      have HR2:Hid (R=⟨D.map nnB,en,E⟩):=hide (by rw [←HS.out]; exact srchF_end (by show E.length≤k; omega))
      rw [HR2.out]
      refine bodyPost_ret (v:= .agg #[.slice Ao E.length co,.slice (some ⟨gd,0,none⟩) n1 n1,.slice (some ⟨ge,0,none⟩) n1 n1]) (by simp [results,Tryz.results303,go_sem,hf0,hf1,hf2]) rfl ?_
      have hX:Ext w wr:=(Ext.alloc _ _).trans ((Ext.alloc _ _).trans hD.ext)
      refine ⟨_,_,_,_,_,rfl,?_,?_,((hX.setCell (p:=⟨w.heap.size+1,0,none⟩) (by show w.heap.size≤w.heap.size+1; omega) _).setCell (p:=⟨w.heap.size+1,1,none⟩) (by show w.heap.size≤w.heap.size+1; omega) _).setCell (p:=⟨w.heap.size+1,2,none⟩) (by show w.heap.size≤w.heap.size+1; omega) _⟩
      ·have hap:∀k,(Value.slice Ao E.length co).ownBlock=some k→k≠w.heap.size+1:=fun k hk=>by have:=hD.own.block_le hk; simp at this; omega
       exact (((hD.own.farX (p:=⟨w.heap.size+1,0,none⟩) hap _).farX (p:=⟨w.heap.size+1,1,none⟩) hap _).farX (p:=⟨w.heap.size+1,2,none⟩) hap _).lowG (by simp; omega)
      ·have hge:ge≠w.heap.size+1:=by omega
       have hE3:=((hD.ent.far (p:=⟨w.heap.size+1,0,none⟩) hge (.slice Ao E.length co)).far (p:=⟨w.heap.size+1,1,none⟩) hge (.slice (some ⟨gd,0,none⟩) n1 n1)).far (p:=⟨w.heap.size+1,2,none⟩) hge (.slice (some ⟨ge,0,none⟩) n1 n1)
       have:=OwnL.of_row hE3 intC_len (base:=w.heap.size) (by omega) (by rw [hD.el]; omega)
       rw [hD.el] at this
       exact this
end Go.Proofs.YtfkpghdmljjegaaGreat
