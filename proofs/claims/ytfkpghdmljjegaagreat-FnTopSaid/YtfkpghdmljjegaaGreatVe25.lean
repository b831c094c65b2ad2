/-
  The search of a routing over pipes with room, of the program, exactly.
-/
import Derived.Test.YtfkpghdmljjegaaGreatVe24
import Derived.Test.YtfkpghdmljjegaaGreatVe22
import Derived.Test.YtfkpghdmljjegaaGreatVe02
namespace Go.Proofs.YtfkpghdmljjegaaGreat
open Go.RowKit
theorem OwnL.farX {α:Type} {w:World} {base:Nat} {e:TypeId} {size:Nat} {f:α→List Value} {v:Value} {L:List α} (h:OwnL w base e size f v L) {p:Addr} (hp:∀k,v.ownBlock=some k→k≠p.block) (u:Value):OwnL (w.setCell p u) base e size f v L:=
 h.grown ((Only.refl p.block w).setCell rfl u) (fun k hk e=>hp k hk (by simpa using e.symm))
structure SchI (N P:Nat) (w wr:World) (l:List Bool) (en:List Int) (v:Value) (E:List Int):Prop where
 seen:RowOf wr (w.heap.size+1+1+1+1) 4 boolC l
 ent:RowOf wr (w.heap.size+1+1) 2 intC en
 var:Row wr (w.heap.size+1+1+1) 301 [v,.slice none 0 0,.slice (some ⟨(w.heap.size+1+1),0,none⟩) N N]
 res:Row wr w.heap.size 301 [.slice none 0 0,.slice none 0 0,.slice none 0 0]
 own:OwnL wr (w.heap.size+1) 2 1 intC v E
 ap:∀k,v.ownBlock=some k→k=w.heap.size+1∨(w.heap.size+1+1+1+1)<k
 ext:Ext w wr
 ll:l.length=N
 el:en.length=N
 cnt:E.length=l.count true
 inn:InN N E
 enb:EntB P en
section
variable {N P:Nat} {w wr wr':World} {l:List Bool} {en:List Int} {v v':Value} {E:List Int}
theorem SchI.more (h:SchI N P w wr l en v E) (hx:Ext wr wr'):SchI N P w wr' l en v E:=
 ⟨h.seen.ext hx,h.ent.ext hx,h.var.ext hx,h.res.ext hx,h.own.ext hx,h.ap,h.ext.trans hx,h.ll,h.el,h.cnt,h.inn,h.enb⟩
theorem SchI.le (h:SchI N P w wr l en v E):E.length≤N:=by rw [h.cnt, ←h.ll]; exact List.count_le_length
theorem SchI.add (h:SchI N P w wr l en v E) {d:Nat} (hd:l[d]? =some false) (hdN:d<N) {z:Int} (h1: -1≤z) (h2:z<P)
  {W3:World} (hx3:Ext ((wr.setCell ⟨(w.heap.size+1+1+1+1),d,none⟩ (.bool true)).setCell ⟨(w.heap.size+1+1),d,none⟩ (.int .i64 z)) W3) (hg:W3.grownBy wr' v.ownBlock)
  (ho:OwnL wr' (w.heap.size+1) 2 1 intC v' (E++[(d:Int)])) (hb5:∀k,v'.ownBlock=some k→v.ownBlock=some k∨wr.heap.size≤k):
  Row wr' (w.heap.size+1+1+1) 301 [v,.slice none 0 0,.slice (some ⟨(w.heap.size+1+1),0,none⟩) N N]∧SchI N P w (wr'.setCell ⟨(w.heap.size+1+1+1),0,none⟩ v') (l.set d true) (en.set d z) v' (E++[(d:Int)]):=by
 have hb:=fun k (hk:v.ownBlock=some k)=>h.ap k hk
 have hsl:=h.seen.lt
 have s1:=RowOf.set0 h.seen (fun x=>⟨_,rfl⟩) (d:=d) (by rw [h.ll]; exact hdN) true (.bool true) rfl
 have s2:=s1.far (p:=⟨(w.heap.size+1+1),d,none⟩) (by show (w.heap.size+1+1+1+1)≠(w.heap.size+1+1); omega) (.int .i64 z)
 have e1:=h.ent.far (p:=⟨(w.heap.size+1+1+1+1),d,none⟩) (by show (w.heap.size+1+1)≠(w.heap.size+1+1+1+1); omega) (.bool true)
 have e2:=RowOf.set0 e1 (fun x=>⟨_,rfl⟩) (d:=d) (by rw [h.el]; exact hdN) z (.int .i64 z) rfl
 have v1:=h.var.far (p:=⟨(w.heap.size+1+1+1+1),d,none⟩) (by show (w.heap.size+1+1+1)≠(w.heap.size+1+1+1+1); omega) (.bool true)
 have v2:=v1.far (p:=⟨(w.heap.size+1+1),d,none⟩) (by show (w.heap.size+1+1+1)≠(w.heap.size+1+1); omega) (.int .i64 z)
 have r1:=h.res.far (p:=⟨(w.heap.size+1+1+1+1),d,none⟩) (by show w.heap.size≠(w.heap.size+1+1+1+1); omega) (.bool true)
 have r2:=r1.far (p:=⟨(w.heap.size+1+1),d,none⟩) (by show w.heap.size≠(w.heap.size+1+1); omega) (.int .i64 z)
 have hx2:=(h.ext.setCell (p:=⟨(w.heap.size+1+1+1+1),d,none⟩) (by show w.heap.size≤(w.heap.size+1+1+1+1); omega) (.bool true)).setCell (p:=⟨(w.heap.size+1+1),d,none⟩) (by show w.heap.size≤(w.heap.size+1+1); omega) (.int .i64 z)
 have s3:=s2.ext hx3
 have e3:=e2.ext hx3
 have v3:=v2.ext hx3
 have r3:=r2.ext hx3
 have s4:RowOf wr' (w.heap.size+1+1+1+1) 4 boolC (l.set d true):=(hg.block _ s3.lt (fun e=>by have:=hb _ e.symm; omega)).trans s3
 have e4:RowOf wr' (w.heap.size+1+1) 2 intC (en.set d z):=(hg.block _ e3.lt (fun e=>by have:=hb _ e.symm; omega)).trans e3
 have v4:Row wr' (w.heap.size+1+1+1) 301 [v,.slice none 0 0,.slice (some ⟨(w.heap.size+1+1),0,none⟩) N N]:=(hg.block _ v3.lt (fun e=>by have:=hb _ e.symm; omega)).trans v3
 have r4:Row wr' w.heap.size 301 [.slice none 0 0,.slice none 0 0,.slice none 0 0]:=(hg.block _ r3.lt (fun e=>by have:=hb _ e.symm; omega)).trans r3
 have ap':∀k,v'.ownBlock=some k→k=w.heap.size+1∨(w.heap.size+1+1+1+1)<k:=fun k hk=>by
  rcases hb5 k hk with h5 | h5
  ·exact hb k h5
  ·exact .inr (by omega)
 have hx4:=(hx2.trans hx3).grown hg (fun k hk=>by have:=hb k hk; omega)
 refine ⟨v4,s4.far (p:=⟨(w.heap.size+1+1+1),0,none⟩) (by show (w.heap.size+1+1+1+1)≠(w.heap.size+1+1+1); omega) _,e4.far (p:=⟨(w.heap.size+1+1+1),0,none⟩) (by show (w.heap.size+1+1)≠(w.heap.size+1+1+1); omega) _,v4.set_ 0 v',r4.far (p:=⟨(w.heap.size+1+1+1),0,none⟩) (by show w.heap.size≠(w.heap.size+1+1+1); omega) _,?_,ap',hx4.setCell (p:=⟨(w.heap.size+1+1+1),0,none⟩) (by show w.heap.size≤(w.heap.size+1+1+1); omega) _,by rw [List.length_set]; exact h.ll,by rw [List.length_set]; exact h.el,?_,h.inn.snoc hdN,h.enb.set d h1 h2⟩
 ·exact ho.farX (p:=⟨(w.heap.size+1+1+1),0,none⟩) (fun k hk=>by have:=ap' k hk; show k≠(w.heap.size+1+1+1); omega) _
 ·rw [List.length_append,h.cnt,count_set_T hd]; rfl
end
def RetSI (R:Sst) (w:World) (e:Ending) (w':World):Prop:=
 ∃vo ve,e= .returned (.agg #[vo,.slice none 0 0,ve])∧OwnL w' w.heap.size 2 1 intC vo R.E∧OwnL w' w.heap.size 2 1 intC ve R.en∧Ext w w'
set_option maxHeartbeats 4000000 in
theorem c_search (A1 A2 A3 A4:Option Addr) (n1 c1 n2 c2 c3 n4 c4:Nat) (g:Nat) (ps:List Pipe) (fl:List Int) (w:World) (hR:Row w g 233 [.slice A1 n1 c1,.slice A2 n2 c2,.slice A3 n2 c3,.slice A4 n4 c4]) (hs2:SliceOf w 5 Pipe.cells A2 n2 c2 ps) (hs3:SliceOf w 1 intC A3 n2 c3 fl) (hfl:FlowIn ps fl) (m1:n1≤100000) (m2:n2≤100000) (he:EndsN n1 ps) (x:Nat) (hxN:x<n1):
  Calls Tryz.prog 282 #[.pointer (some ⟨g,0,none⟩),.int .i64 x] w (RetSI (srch ps (hasRm ps fl) n1 0 x) w):=by
 have hg0:=hR.cell 0
 have hg1:=hR.cell 1
 have hg2:=hR.cell 2
 simp at hg0 hg1 hg2
 have hgl:=hR.lt
 obtain ⟨fI,HfI⟩:∃f:World→World,Hid (∀W:World,W.alloc (.cells ((List.replicate n1 (0:Int)).flatMap intC).toArray 2)=f W):=⟨fun W=>_,hide fun _=>rfl⟩
 obtain ⟨fB,HfB⟩:∃f:World→World,Hid (∀W:World,W.alloc (.cells ((List.replicate n1 false).flatMap boolC).toArray 4)=f W):=⟨fun W=>_,hide fun _=>rfl⟩
 have hmkI:∀W:World,(Instr.makeSlice 24 (.int .i64 n1) (.int .i64 n1)).run Tryz.prog W= .ok (.slice (some ⟨W.heap.size,0,none⟩) n1 n1) (fI W):=fun W=>by rw [←HfI.out W]; exact run_make_flat (P:=Tryz.prog) 24 2 _ _ 1 8 Tryz.underlying24 int_info (f:=intC) 0 rfl rfl rfl (by omega) n1 (by omega) (by omega) W
 have hmkB:∀W:World,(Instr.makeSlice 318 (.int .i64 n1) (.int .i64 n1)).run Tryz.prog W= .ok (.slice (some ⟨W.heap.size,0,none⟩) n1 n1) (fB W):=fun W=>by rw [←HfB.out W]; exact run_make_flat (P:=Tryz.prog) 318 4 _ _ 1 1 Tryz.underlying318 bool_info (f:=boolC) false rfl rfl rfl (by omega) n1 (by omega) (by omega) W
 have hszI:∀W:World,(fI W).heap.size=W.heap.size+1:=fun W=>by rw [←HfI.out W]; simp
 have hszB:∀W:World,(fB W).heap.size=W.heap.size+1:=fun W=>by rw [←HfB.out W]; simp
 have hcI:∀(W:World) (b o:Nat),b<W.heap.size→(fI W).cell? ⟨b,o,none⟩=W.cell? ⟨b,o,none⟩:=fun W b o hb=>by rw [←HfI.out W]; exact (Ext.alloc _ _).cell _ _ hb
 have hcB:∀(W:World) (b o:Nat),b<W.heap.size→(fB W).cell? ⟨b,o,none⟩=W.cell? ⟨b,o,none⟩:=fun W b o hb=>by rw [←HfB.out W]; exact (Ext.alloc _ _).cell _ _ hb
 have hgW:∀k:Nat,g<w.heap.size+k:=fun k=>by omega
 have HE:=hide he
 have HFL:=hide hfl
 clear he hfl
 obtain ⟨R,HR⟩:∃R,Hid (srch ps (hasRm ps fl) n1 0 x=R):=⟨_,hide rfl⟩
 rw [HR.out]
 obtain ⟨wr,HW⟩:∃wr,Hid ((fB ((fI ((w.alloc (.cells #[.slice none 0 0,.slice none 0 0,.slice none 0 0] 301)).alloc (.cells #[.int .i64 x] 2))).alloc (.cells #[.slice (some ⟨w.heap.size+1,0,none⟩) 1 1,.slice none 0 0,.slice (some ⟨w.heap.size+1+1,0,none⟩) n1 n1] 301)))=wr):=⟨_,hide rfl⟩
 have hEn:RowOf wr (w.heap.size+1+1) 2 intC (List.replicate n1 0):=by
  rw [←HW.out, ←HfB.out, ←HfI.out]
  exact ((Row.newG _ _ (by simp)).ext (Ext.alloc _ _)).ext (Ext.alloc _ _)
 have hS:RowOf wr (w.heap.size+1+1+1+1) 4 boolC (List.replicate n1 false):=by
  rw [←HW.out, ←HfB.out]; exact Row.newG _ _ (by simp [hszI])
 have hV:Row wr (w.heap.size+1+1+1) 301 [.slice (some ⟨w.heap.size+1,0,none⟩) 1 1,.slice none 0 0,.slice (some ⟨(w.heap.size+1+1),0,none⟩) n1 n1]:=by
  rw [←HW.out, ←HfB.out]; exact (Row.newG _ _ (by simp [hszI])).ext (Ext.alloc _ _)
 have hRes:Row wr w.heap.size 301 [.slice none 0 0,.slice none 0 0,.slice none 0 0]:=by
  rw [←HW.out, ←HfB.out, ←HfI.out]; exact (Row.newG _ _ rfl).ext ((((Ext.alloc _ _).and_alloc _).and_alloc _).and_alloc _)
 have hO:RowOf wr (w.heap.size+1) 2 intC [(x:Int)]:=by
  rw [←HW.out, ←HfB.out, ←HfI.out]; exact (Row.newG _ [.int .i64 x] (by simp)).ext (((Ext.alloc _ _).and_alloc _).and_alloc _)
 have hx:Ext w wr:=by rw [←HW.out, ←HfB.out, ←HfI.out]; exact ((((Ext.alloc _ _).and_alloc _).and_alloc _).and_alloc _).and_alloc _
 obtain ⟨u,hu⟩:=hS.there boolC_len (i:=x) (by simp; omega) (j:=0) (by omega)
 simp only [Nat.mul_one,Nat.add_zero] at hu
 have hf:=hS.frozen x
 have hsl:=hS.lt
 have hS2:=RowOf.set0 hS (fun x=>⟨_,rfl⟩) (d:=x) (by simp; omega) true (.bool true) rfl
 have hD:SchI n1 (n2+1) w (wr.setCell ⟨(w.heap.size+1+1+1+1),x,none⟩ (.bool true)) ((List.replicate n1 false).set x true) (List.replicate n1 0) (.slice (some ⟨w.heap.size+1,0,none⟩) 1 1) [(x:Int)]:=by
  refine ⟨hS2,hEn.far (p:=⟨(w.heap.size+1+1+1+1),x,none⟩) (by show (w.heap.size+1+1)≠(w.heap.size+1+1+1+1); omega) _,hV.far (p:=⟨(w.heap.size+1+1+1+1),x,none⟩) (by show (w.heap.size+1+1+1)≠(w.heap.size+1+1+1+1); omega) _,hRes.far (p:=⟨(w.heap.size+1+1+1+1),x,none⟩) (by show w.heap.size≠(w.heap.size+1+1+1+1); omega) _,OwnL.of_row (xs:=[(x:Int)]) (hO.far (p:=⟨(w.heap.size+1+1+1+1),x,none⟩) (by show w.heap.size+1≠(w.heap.size+1+1+1+1); omega) _) intC_len (by omega) (by simp),?_,hx.setCell (p:=⟨(w.heap.size+1+1+1+1),x,none⟩) (by show w.heap.size≤(w.heap.size+1+1+1+1); omega) _,by simp,by simp,?_,?_,?_⟩
  ·intro k hk; left; simp [Value.ownBlock] at hk; exact hk.symm
  ·rw [start_seen hxN]; rfl
  ·intro z hz; obtain rfl:=List.mem_singleton.1 hz; exact ⟨x,rfl,hxN⟩
  ·intro z hz; have:=List.eq_of_mem_replicate hz; omega
 have HST:Hid (srchF ps (hasRm ps fl) (n1-0) 0 ⟨(List.replicate n1 false).set x true,List.replicate n1 0,[(x:Int)]⟩=R):=hide HR.out
 clear hS2 hEn hS hV hRes hO hx
 have hwr:=HW.out
 clear HW
 subst hwr
 go_enter Tryz.func282,Tryz.ntmps282
 go_wp2_with fail
 go_loopw [7] (fun i wr=>∃(k:Nat) (l:List Bool) (en E:List Int) (v:Value),i= .int .i64 k∧k≤E.length∧Hid (srchF ps (hasRm ps fl) (n1-k) k ⟨l,en,E⟩=R)∧SchI n1 (n2+1) w wr l en v E) (fun i _=>n1-(intOf i).toNat)
 case atStart=>exact ⟨0,_,_,_,_,rfl,Nat.zero_le _,HST,hD⟩
 case round=>
  clear hD HST hu hf hsl
  obtain ⟨k,l,en,E,v,rfl,hk,HS,hD⟩:=hrel
  have hEn:=hD.le
  have hszr:=hD.seen.lt
  have hvl:=hD.var.lt
  obtain ⟨Ao,co,rfl,hsl⟩:=hD.own.sl intC_len (by omega)
  have hv0:=hD.var.cell 0
  have hv1:=hD.var.cell 1
  have hv2:=hD.var.cell 2
  simp at hv0 hv1 hv2
  have hr0:=hD.ext.cell g 0 hgl
  have hr1:=hD.ext.cell g 1 hgl
  have hr2:=hD.ext.cell g 2 hgl
  rw [hg0] at hr0
  rw [hg1] at hr1
  rw [hg2] at hr2
  by_cases hlt:k<E.length
  ·obtain ⟨bo,oo,zo,rfl,hbo,hok,hco⟩:=hsl.get hlt
   have hc0:=hco 0 _ rfl
   simp only [Nat.add_zero,Nat.mul_one] at hc0
   obtain ⟨q,rfl,hq⟩:=hD.inn.at hok
   have HOK:=hide hok
   obtain ⟨s0,hs0⟩:∃s0:Sst,Hid (s0=⟨l,en,E⟩):=⟨_,hide rfl⟩
   have HNX:Hid (srchF ps (hasRm ps fl) (n1-(k+1)) (k+1) (visits ps (hasRm ps fl) q s0)=R):=hide (by rw [←HS.out,hs0.out]; exact (srchF_step hok (by omega)).symm)
   clear hco hok hsl HS
   go_wp2_with fail
   refine (c_pipesAt A1 A2 n1 c1 n2 c2 ps _ (hs2.ext hD.ext) q (by omega)).mono ?_
   rintro e w2 ⟨va,Ea,rfl,hoa,HA,hx2⟩
   have hDr:=hD.more hx2
   clear hD hc0 hv0 hv1 hv2 hr0 hr1 hr2
   obtain ⟨wb,hwb⟩:∃wb,wr.heap.size=wb:=⟨_,rfl⟩
   rw [hwb] at hoa
   have hwb':(w.heap.size+1+1+1+1)<wb:=by rw [←hwb]; exact hszr
   have HAP:Apt va (.slice (some ⟨bo,oo,none⟩) E.length co):=fun k hk h2=>by
    have h3:=hoa.block_le hk
    have h4:bo<wb:=by rw [←hwb]; exact hbo
    simp [Value.ownBlock] at h2
    omega
   obtain ⟨Aa,ca,rfl,_⟩:=hoa.sl intC_len (by omega)
   clear hwb hx2 hszr hvl hbo
   go_wp2_with fail
   go_loopw [51] (fun i wr=>∃(j:Nat) (l:List Bool) (en E:List Int) (v:Value),i= .int .i64 j∧j≤Ea.length∧k<E.length∧Hid (E[k]? =some (q:Int))∧Hid ((⟨l,en,E⟩:Sst)=(Ea.take j).foldl (visit ps (hasRm ps fl) q) s0)∧SchI n1 (n2+1) w wr l en v E∧OwnL wr wb 2 1 intC (.slice Aa Ea.length ca) Ea∧Apt (.slice Aa Ea.length ca) v) (fun i _=>Ea.length-(intOf i).toNat)
   case atStart=>exact ⟨0,l,en,E,_,rfl,Nat.zero_le _,hlt,HOK,hide hs0.out.symm,hDr,hoa,HAP⟩
   case round=>
    clear HAP hoa hDr HOK hEn hlt hk hs0
    obtain ⟨j,l,en,E,v,rfl,hj,hkE,HOK,HF,hD,hoa,hap⟩:=hrel
    have hEn:=hD.le
    have hEa:=HA.out.2
    by_cases hjl:j<Ea.length
    ·obtain ⟨Ao,co',rfl,hsl⟩:=hD.own.sl intC_len (by omega)
     obtain ⟨ba,oa,za,rfl,hba,hak,hca⟩:=(hoa.slE intC_len (by omega)).get hjl
     obtain ⟨ka,p,rfl,hpk,hpe⟩:=atL_mem (HA.out.1 ▸ List.mem_of_getElem? hak)
     have hd0:=hca 0 _ rfl
     simp only [Nat.add_zero,Nat.mul_one] at hd0
     have hkl:ka<n2:=by rw [hs2.len]; exact (List.getElem?_eq_some_iff.1 hpk).1
     obtain ⟨bp,op,p',rfl,hbp,hpk',hcp⟩:=(hs2.ext hD.ext).get hkl
     obtain rfl:p'=p:=by rw [hpk] at hpk'; exact (Option.some.inj hpk').symm
     have hp0:=hcp 0 _ rfl
     have hp1:=hcp 1 _ rfl
     have hp2:=hcp 2 _ rfl
     have hp3:=hcp 3 _ rfl
     have hp4:=hcp 4 _ rfl
     simp only [Nat.add_zero] at hp0
     have HPK:=hide hpk
     have HPE:=hide hpe
     have HAK:=hide hak
     obtain ⟨y,hyq,hy⟩:=HE.out.oth hpk q
     have HYQ:=hide hyq
     clear hyq hca hsl hpk hpe hak hcp hpk'
     have hr1:=hD.ext.cell g 1 hgl
     rw [hg1] at hr1
     have hyl:y<l.length:=by rw [hD.ll]; exact hy
     obtain ⟨bb,hbb⟩:∃bb,l[y]? =some bb:=⟨_,List.getElem?_eq_getElem hyl⟩
     obtain ⟨fz,hfz⟩:∃z,fl[ka]? =some z:=⟨_,List.getElem?_eq_getElem (by rw [←hs3.len]; exact hkl)⟩
     have HFZ:=hide hfz
     have HBB:=hide hbb
     clear hbb hfz
     go_wp2_with fail
     refine (c_otherEnd p' q _).mono ?_
     rintro e w2 ⟨rfl,hx2⟩
     rw [HYQ.out]
     have hDr:=hD.more hx2
     have hor:=hoa.ext hx2
     have hszd:=hDr.seen.lt
     have hsc:=hDr.seen.get boolC_len HBB.out (j:=0) rfl
     simp only [Nat.mul_one,Nat.add_zero] at hsc
     have hsf:=hDr.seen.frozen y
     clear hD hoa hx2 hp0 hp1 hp2 hp3 hp4 hr1 hd0 hba hbp
     cases bb
     ·go_wp2_with fail
      refine (c_room A1 _ A3 A4 n1 c1 n2 c2 n2 c3 n4 c4 g ps fl _ (hR.ext hDr.ext) (hs2.ext hDr.ext) (hs3.ext hDr.ext) HFL.out ka p' fz HPK.out HFZ.out q).mono ?_
      rintro e w3 ⟨rfl,hx3⟩
      have hDr3:=hDr.more hx3
      have hor3:=hor.ext hx3
      obtain ⟨rz,hrz⟩:∃rz,roomZ ps fl ka q=rz:=⟨_,rfl⟩
      rw [hrz]
      have HRZ:=hide hrz
      clear hrz hsc hsf hszd hDr hor hx3
      have hszd:=hDr3.seen.lt
      have hsf:=hDr3.seen.frozen y
      have hsc:=hDr3.seen.get boolC_len HBB.out (j:=0) rfl
      simp only [Nat.mul_one,Nat.add_zero] at hsc
      by_cases hrp:0<rz
      ·obtain ⟨bo',oo',zo',rfl,hbo',_,hco'⟩:=(hDr3.own.slE intC_len (by omega)).get hkE
       clear hco' hbo'
       obtain ⟨u,hu⟩:=hDr3.ent.there intC_len (i:=y) (by rw [hDr3.el]; exact hy) (j:=0) (by omega)
       simp only [Nat.mul_one,Nat.add_zero] at hu
       have hel:=hDr3.ent.lt
       have hef:=hDr3.ent.frozen y
       have hvl:=hDr3.var.lt
       have hvf:=hDr3.var.frozen 0
       have hv0:=hDr3.var.cell 0
       have hv2:=hDr3.var.cell 2
       simp at hv0 hv2
       go_wp2_with fail
       have hne1:(w.heap.size+1+1+1)≠(w.heap.size+1+1+1+1):=by omega
       have hne2:(w.heap.size+1+1+1)≠(w.heap.size+1+1):=by omega
       have hne3:(w.heap.size+1+1)≠(w.heap.size+1+1+1+1):=by omega
       refine wp_region_phC [((w.heap.size+1+1+1),2)] [([0,1,2,3,4,5,6],7),([8],9)] [] (by kernel_rfl) (by kernel_rfl) (by intro c a w d v h; cases d <;> exact h) ?_
       simp only [wpPhC,pickL,nthO]
       repeat (go_big_quiet_step (fail))
       refine wpQuiet_nil ?_
       go_wp2_with fail
       refine ⟨(SameC.refl [((w.heap.size+1+1+1),2)] w3).drew.setCell (p:=⟨(w.heap.size+1+1+1+1),y,none⟩) (by intro q hq; simp only [List.mem_singleton] at hq; subst hq; exact .inl hne1) _,?_⟩
       repeat (go_big_quiet_step (fail))
       refine wpQuiet_nil ?_
       go_wp2_with fail
       refine ⟨((SameC.refl [((w.heap.size+1+1+1),2)] w3).drew.setCell (p:=⟨(w.heap.size+1+1+1+1),y,none⟩) (by intro q hq; simp only [List.mem_singleton] at hq; subst hq; exact .inl hne1) _).setCell (p:=⟨(w.heap.size+1+1),y,none⟩) (by intro q hq; simp only [List.mem_singleton] at hq; subst hq; exact .inl hne2) _,wpQuiet_nil ?_⟩
       have hDd:=hDr3.more (Ext.refl _).drew
       have hord:=hor3.ext (Ext.refl _).drew
       have hapk:=hDr3.ap
       have hbo3:=hDr3.own.ltG (k:=bo') rfl
       have hba3:=hor3.ltG (k:=ba) rfl
       have ho3:OwnL ((w3.drew.setCell ⟨(w.heap.size+1+1+1+1),y,none⟩ (.bool true)).setCell ⟨(w.heap.size+1+1),y,none⟩ (.int .i64 ka)) (w.heap.size+1) 2 1 intC (.slice (some ⟨bo',oo',none⟩) E.length co') E:=(hDd.own.farX (p:=⟨(w.heap.size+1+1+1+1),y,none⟩) (fun k hk=>by have:=hapk k hk; show k≠(w.heap.size+1+1+1+1); omega) _).farX (p:=⟨(w.heap.size+1+1),y,none⟩) (fun k hk=>by have:=hapk k hk; show k≠(w.heap.size+1+1); omega) _
       have hr3:OwnL ((w3.drew.setCell ⟨(w.heap.size+1+1+1+1),y,none⟩ (.bool true)).setCell ⟨(w.heap.size+1+1),y,none⟩ (.int .i64 ka)) wb 2 1 intC (.slice (some ⟨ba,oa,none⟩) Ea.length ca) Ea:=(hord.farK (p:=⟨(w.heap.size+1+1+1+1),y,none⟩) (by show (w.heap.size+1+1+1+1)<wb; omega) _).farK (p:=⟨(w.heap.size+1+1),y,none⟩) (by show (w.heap.size+1+1)<wb; omega) _
       go_wp2_with (at_builtin; go_must (refine wpList_append_where rfl _ _ 24 rfl (w.heap.size+1) 2 _ 1 8 Tryz.underlying24 int_info rfl (by decide) intC intC_len int_one' (.slice (some ⟨bo',oo',none⟩) E.length co') E rfl (ho3.ext (Ext.alloc _ _)) (w3.heap.size) 0 1 1 [(y:Int)] rfl (new_int ((w3.drew.setCell ⟨(w.heap.size+1+1+1+1),y,none⟩ (.bool true)).setCell ⟨(w.heap.size+1+1),y,none⟩ (.int .i64 ka)) _ _ (by simp)) (by omega) (by omega) (by first | omega | (simp; omega)) ?_))
       intro v5 w5 ho5 hg5 hb5
       obtain ⟨A5,n5,c5,rfl⟩:∃A n c,v5= .slice A n c:=by
        obtain ⟨A,c,h,_⟩:=ho5.sl intC_len (by omega)
        exact ⟨_,_,_,h⟩
       have HF5:Hid ((⟨l.set y true,en.set y (ka:Int),E++[(y:Int)]⟩:Sst)=(Ea.take (j+1)).foldl (visit ps (hasRm ps fl) q) s0):=hide (by rw [fold_step HAK.out, ←HF.out,visit_yes HPK.out (by rw [HYQ.out,Int.toNat_natCast]; exact HBB.out) (by unfold hasRm; rw [HRZ.out]; simpa using hrp),HYQ.out,Int.toNat_natCast])
       obtain ⟨hv5,hD5⟩:=hDd.add HBB.out hy (z:=(ka:Int)) (by omega) (by omega) (Ext.alloc _ _) hg5 ho5 (fun k hk=>by
        rcases hb5 k hk with h5 | h5
        ·exact .inl h5
        ·right; show w3.heap.size≤k; omega)
       have hr5:=(hr3.ext (Ext.alloc _ (.cells #[.int .i64 y] 2))).grown hg5 (fun k hk=>hap k hk)
       have hr6:=hr5.farK (p:=⟨(w.heap.size+1+1+1),0,none⟩) (by show (w.heap.size+1+1+1)<wb; omega) (.slice A5 n5 c5)
       have hap5:Apt (.slice (some ⟨ba,oa,none⟩) Ea.length ca) (.slice A5 n5 c5):=fun k hk h2=>by
        rcases hb5 k h2 with h3 | h3
        ·exact hap k hk h3
        ·obtain rfl:ba=k:=by simpa [Value.ownBlock] using hk
         omega
       have hvl5:=hv5.lt
       have hvf5:=hv5.frozen 0
       have hvc5:=hv5.cell 0
       simp at hvc5
       clear hDr3 hDd hord ho3 hr3 hr5 hg5 ho5 hb5 hor3
       go_wp2_with fail
       go_roundw
       case rel=>exact ⟨j+1,_,_,_,_,by go_num,by omega,by simp; omega,hide (by rw [List.getElem?_append_left hkE]; exact HOK.out),HF5,hD5,hr6,hap5⟩
       case measure=>simp [intOf]; omega
      ·go_wp2_with fail
       go_roundw
       case rel=>exact ⟨j+1,l,en,E,_,by go_num,by omega,hkE,HOK,hide (by rw [fold_step HAK.out, ←HF.out,visit_no HPK.out (by unfold hasRm; rw [HRZ.out]; simp only [decide_eq_true_eq]; exact fun h=>by have:=h.2; omega)]),hDr3,hor3,hap⟩
       case measure=>simp [intOf]; omega
     ·go_wp2_with fail
      go_roundw
      case rel=>exact ⟨j+1,l,en,E,_,by go_num,by omega,hkE,HOK,hide (by rw [fold_step HAK.out, ←HF.out,visit_no HPK.out (by rw [HYQ.out,Int.toNat_natCast]; simp only; rw [HBB.out]; simp)]),hDr,hor,hap⟩
      case measure=>simp [intOf]; omega
    ·go_wp2_with fail
     go_roundw
     case rel=>exact ⟨k+1,l,en,E,_,by go_num,by omega,hide (by rw [←HNX.out,HF.out,visits, ←HA.out.1,List.take_of_length_le (by omega)]),hD⟩
     case measure=>simp [intOf]; omega
  ·have hs0:=hD.res.lt
   have hs1:=hD.res.cell 0
   have hs2':=hD.res.cell 1
   have hs3':=hD.res.cell 2
   have hsf:=hD.res.frozen
   simp at hs1 hs2' hs3'
   have hRF:=((hD.res.set_ 0 (.slice Ao E.length co)).set_ 1 (.slice none 0 0)).set_ 2 (.slice (some ⟨(w.heap.size+1+1),0,none⟩) n1 n1)
   have hf0:=hRF.cell 0
   have hf1:=hRF.cell 1
   have hf2:=hRF.cell 2
   have hfl:=hRF.lt
   simp at hf0 hf1 hf2 hfl
   go_wp2_with fail
   have HR2:Hid (R=⟨l,en,E⟩):=hide (by rw [←HS.out]; exact srchF_end (by show E.length≤k; omega))
   rw [HR2.out]
   refine bodyPost_ret (v:= .agg #[.slice Ao E.length co,.slice none 0 0,.slice (some ⟨(w.heap.size+1+1),0,none⟩) n1 n1]) (by simp [results,Tryz.results282,go_sem,hf0,hf1,hf2]) rfl ?_
   refine ⟨_,_,rfl,?_,?_,((hD.ext.setCell (p:=⟨w.heap.size,0,none⟩) (Nat.le_refl _) _).setCell (p:=⟨w.heap.size,1,none⟩) (Nat.le_refl _) _).setCell (p:=⟨w.heap.size,2,none⟩) (Nat.le_refl _) _⟩
   ·have hap:=fun k hk=>hD.ap k hk
    exact (((hD.own.farX (p:=⟨w.heap.size,0,none⟩) (fun k hk=>by have:=hap k hk; show k≠w.heap.size; omega) _).farX (p:=⟨w.heap.size,1,none⟩) (fun k hk=>by have:=hap k hk; show k≠w.heap.size; omega) _).farX (p:=⟨w.heap.size,2,none⟩) (fun k hk=>by have:=hap k hk; show k≠w.heap.size; omega) _).lowG (by omega)
   ·have hE3:=((hD.ent.far (p:=⟨w.heap.size,0,none⟩) (by show (w.heap.size+1+1)≠w.heap.size; omega) (.slice Ao E.length co)).far (p:=⟨w.heap.size,1,none⟩) (by show (w.heap.size+1+1)≠w.heap.size; omega) (.slice none 0 0)).far (p:=⟨w.heap.size,2,none⟩) (by show (w.heap.size+1+1)≠w.heap.size; omega) (.slice (some ⟨(w.heap.size+1+1),0,none⟩) n1 n1)
    have:=OwnL.of_row hE3 intC_len (base:=w.heap.size) (by omega) (by rw [hD.el]; omega)
    rw [hD.el] at this
    exact this
end Go.Proofs.YtfkpghdmljjegaaGreat
