/-
  Transports of the program: supplies, whether they fit, scaling; exactly.
-/
import Derived.Test.YtfkpghdmljjegaaGreatVe26
import Derived.Test.YtfkpghdmljjegaaGreatVe33
import Derived.Test.YtfkpghdmljjegaaGreatVe08
import Derived.Test.YtfkpghdmljjegaaGreatVe29
import Derived.Test.YtfkpghdmljjegaaGreatVe06
import Derived.Test.YtfkpghdmljjegaaGreatVe19
import Derived.Test.YtfkpghdmljjegaaGreatVe20
namespace Go.Proofs.YtfkpghdmljjegaaGreat
open Go.RowKit
set_option maxHeartbeats 1000000 in
theorem c_transportSupplies (A1 A2:Option Addr) (n1 c1 n2 c2:Nat) (A:Option Addr) (n c:Nat) (ts:List Trn) (w:World) (hs:SliceOf w 4 Trn.cells A n c ts) (hn1:n1≤100000) (hn:n≤100000) (hb:∀x∈ts,TrnB n1 30000 x):
  Calls Tryz.prog 114 #[.agg #[.slice A1 n1 c1,.slice A2 n2 c2],.slice A n c] w (RetI (fun E=>E=supT n1 ts) w):=by
 have hx0:Ext w (w.alloc (.cells #[.slice A1 n1 c1,.slice A2 n2 c2] 45)):=Ext.alloc _ _
 have hmk:=fun W=>run_make_flat (P:=Tryz.prog) 24 2 _ _ 1 8 Tryz.underlying24 int_info (f:=intC) 0 rfl rfl rfl (by omega) n1 (by omega) (by omega) W
 have HB:=hide hb
 clear hb
 go_enter Tryz.func114,Tryz.ntmps114
 go_wp2_with fail
 go_loopw [14] (fun i wr=>∃k:Nat,k≤n∧i= .int .i64 k∧RowOf wr (w.heap.size+1) 2 intC (supT n1 (ts.take k))∧Ext (w.alloc (.cells #[.slice A1 n1 c1,.slice A2 n2 c2] 45)) wr) (fun i _=>n-(intOf i).toNat)
 case atStart=>exact ⟨0,Nat.zero_le _,rfl,Row.newG _ _ (by simp),Ext.alloc _ _⟩
 case round=>
  obtain ⟨k,hk,rfl,hR,hx⟩:=hrel
  obtain ⟨l,HL⟩:∃l,Hid (supT n1 (ts.take k)=l):=⟨_,hide rfl⟩
  have hll:l.length=n1:=by rw [←HL.out]; exact supT_len _ _
  rw [HL.out] at hR
  by_cases hlt:k<n
  ·obtain ⟨b,off,x,hA,hb,hxk,hc⟩:=(hs.ext (hx0.trans hx)).get hlt
   have HA:=hide hA
   subst hA
   have hc0:=hc 0 _ rfl
   have hc1:=hc 1 _ rfl
   have hc2:=hc 2 _ rfl
   have hc3:=hc 3 _ rfl
   clear hc
   simp only [Nat.add_zero] at hc0
   have hxb:=HB.out x (List.mem_of_getElem? hxk)
   obtain ⟨⟨he0,he1⟩,⟨hx0',hx1⟩,⟨ha0,ha1⟩,-⟩:=hxb
   obtain ⟨y1,hy1⟩:∃y:Nat,x.entry=y:=⟨x.entry.toNat,by omega⟩
   obtain ⟨y2,hy2⟩:∃y:Nat,x.exit_=y:=⟨x.exit_.toNat,by omega⟩
   have hyn1:y1<n1:=by omega
   have hyn2:y2<n1:=by omega
   have hbd:=supT_bd (N:=n1) ts (fun x hx=>(HB.out x hx).2.2.1) k
   rw [HL.out] at hbd
   obtain ⟨a1,hl1⟩:∃a,l[y1]? =some a:=⟨_,List.getElem?_eq_getElem (by omega)⟩
   obtain ⟨s1,hs1⟩:∃s1,a1+x.amount=s1:=⟨_,rfl⟩
   obtain ⟨a2,hl2⟩:∃a,(l.set y1 s1)[y2]? =some a:=⟨_,List.getElem?_eq_getElem (by rw [List.length_set]; omega)⟩
   obtain ⟨s2,hs2⟩:∃s2,a2-x.amount=s2:=⟨_,rfl⟩
   have hb1:=hbd a1 (List.mem_of_getElem? hl1)
   have hb2: -(60000*(k:Int)+30000)≤a2∧a2≤60000*k+30000:=by
    rcases List.mem_or_eq_of_mem_set (List.mem_of_getElem? hl2) with h | h
    ·have:=hbd a2 h; omega
    ·omega
   have e1:IntKind.i64.wrap (a1+x.amount)=s1:=by rw [←hs1]; exact IntWalk.i64_in _ (by omega)
   have e2:IntKind.i64.wrap (a2-x.amount)=s2:=by rw [←hs2]; exact IntWalk.i64_in _ (by omega)
   have HST:Hid (supT n1 (ts.take (k+1))=(l.set y1 s1).set y2 s2):=hide (by
    rw [supT_take hxk,HL.out]
    unfold supStep
    rw [hy1,hy2,Int.toNat_natCast,Int.toNat_natCast,zAt_some hl1,hs1,zAt_some hl2,hs2])
   have hle:=hR.lt
   have HL1:=hide hl1
   have HL2:=hide hl2
   rw [hy1] at hc0
   rw [hy2] at hc1
   have HX:=hide hx
   have HR:=hide hR
   clear hbd hl1 hl2 hs1 hs2 hb1 hb2 hxk HL hx hR
   go_wp2_with fail
   obtain ⟨W1,HW1⟩:∃W1,Hid ((wr.alloc (.cells #[.int .i64 y1,.int .i64 y2,.int .i64 x.amount,.int .i64 x.cls] 201))=W1):=⟨_,hide rfl⟩
   rw [HW1.out]
   have hbx:Row W1 wr.heap.size 201 [.int .i64 y1,.int .i64 y2,.int .i64 x.amount,.int .i64 x.cls]:=by rw [←HW1.out]; exact Row.new wr 201 [.int .i64 y1,.int .i64 y2,.int .i64 x.amount,.int .i64 x.cls]
   have hx1':Ext wr W1:=by rw [←HW1.out]; exact Ext.alloc _ _
   obtain ⟨g,hg⟩:∃g,wr.heap.size=g:=⟨_,rfl⟩
   rw [hg] at hbx hle
   have q0:=hbx.cell 0
   have q1:=hbx.cell 1
   have q2:=hbx.cell 2
   simp at q0 q1 q2
   have hbl:=hbx.lt
   have hne:g≠w.heap.size+1:=by omega
   have hR1:=(HR.out.ext hx1')
   have hX1:=HX.out.trans hx1'
   have hcl1:=hR1.get intC_len HL1.out (j:=0) rfl
   simp only [Nat.mul_one,Nat.add_zero] at hcl1
   have hf:=hR1.frozen y1
   have hl1:=hR1.lt
   have hR2:=(RowOf.set0 hR1 (fun x=>⟨_,rfl⟩) (d:=y1) (by omega) s1 (.int .i64 s1) rfl).drew
   have hX2:=(hX1.setCell (p:=⟨w.heap.size+1,y1,none⟩) (by simp) (.int .i64 s1)).drew
   have hbx2:=hbx.far (p:=⟨w.heap.size+1,y1,none⟩) hne (.int .i64 s1)
   clear hc0 hc1 hc2 hc3 hb hbx hx1'
   refine wp_region_phZ [(g,0),(w.heap.size+1,y1),(g,2)] [] [0,1,2,3,4,5,6,7,8] 9 (by kernel_rfl) (by kernel_rfl) (by intro c a w d v h; cases d <;> exact h) ?_
   simp only [wpPhZ,pickL,nthO]
   repeat (go_big_quiet_step (fail))
   refine wpQuiet_nil ?_
   set_option maxRecDepth 20000 in
   go_wp2_with fail
   obtain ⟨W2,HW2⟩:∃W2,Hid ((W1.setCell ⟨w.heap.size+1,y1,none⟩ (.int .i64 s1)).drew=W2):=⟨_,hide rfl⟩
   have hbx3:Row W2 g 201 [.int .i64 y1,.int .i64 y2,.int .i64 x.amount,.int .i64 x.cls]:=by rw [←HW2.out]; exact hbx2.drew
   rw [HW2.out] at hR2 hX2
   generalize (W1.setCell ⟨w.heap.size+1,y1,none⟩ (.int .i64 s1)).drew=W3 at *
   obtain rfl:W3=W2:=HW2.out
   have r1:=hbx3.cell 1
   have r2:=hbx3.cell 2
   simp at r1 r2
   have hbl2:=hbx3.lt
   have hf2:=hR2.frozen y2
   have hcl2:=hR2.get intC_len HL2.out (j:=0) rfl
   simp only [Nat.mul_one,Nat.add_zero] at hcl2
   have hle2:=hR2.lt
   have hR3:=RowOf.set0 (hR2.ext (Ext.refl _).drew) (fun x=>⟨_,rfl⟩) (d:=y2) (by rw [List.length_set]; omega) s2 (.int .i64 s2) rfl
   have hX3:=hX2.drew.setCell (p:=⟨w.heap.size+1,y2,none⟩) (by simp) (.int .i64 s2)
   clear hR1 hX1 hR2 hX2 hbx2 hbx3 q0 q1 q2 hcl1 hf hbl
   refine wp_region_phZ [(g,1),(w.heap.size+1,y2),(g,2)] [] [0,1,2,3,4,5,6,7,8] 9 (by kernel_rfl) (by kernel_rfl) (by intro c a w d v h; cases d <;> exact h) ?_
   simp only [wpPhZ,pickL,nthO]
   repeat (go_big_quiet_step (fail))
   refine wpQuiet_nil ?_
   set_option maxRecDepth 20000 in
   go_wp2_with fail
   go_roundw
   case rel=>exact ⟨k+1,by omega,by go_num,by rw [HST.out]; exact hR3,hX3⟩
   case measure=>simp [intOf]; omega
  ·have HE:Hid (l=supT n1 ts):=hide (by rw [←HL.out,List.take_of_length_le (by rw [←hs.len]; omega)])
   have hle:=hR.lt
   go_wp2_with fail
   go_ret
   have hO:=OwnL.of_row hR intC_len (base:=w.heap.size) (by omega) (by omega)
   rw [hll] at hO
   exact ⟨_,l,rfl,hO,HE,hx0.trans hx⟩
set_option maxHeartbeats 1000000 in
theorem c_doFit (A1 A2:Option Addr) (n1 c1 n2 c2:Nat) (ns:List Node) (ps:List Pipe) (w:World) (hs1:SliceOf w 3 Node.cells A1 n1 c1 ns) (hs2:SliceOf w 5 Pipe.cells A2 n2 c2 ps) (hnet:netB ns ps=true) (A:Option Addr) (n c:Nat) (ts:List Trn) (hs:SliceOf w 4 Trn.cells A n c ts) (hn:n≤100000) (hb:∀x∈ts,TrnB n1 30000 x):
  Calls Tryz.prog 154 #[.agg #[.slice A1 n1 c1,.slice A2 n2 c2],.slice A n c] w (Ret (.bool (fitB ps n1 ts)) w):=by
 obtain ⟨W,HW⟩:∃W,Hid ((w.alloc (.cells #[.slice A1 n1 c1,.slice A2 n2 c2] 45))=W):=⟨_,hide rfl⟩
 have hB:Row W w.heap.size 45 [.slice A1 n1 c1,.slice A2 n2 c2]:=by rw [←HW.out]; exact Row.new w 45 [.slice A1 n1 c1,.slice A2 n2 c2]
 have hx0:Ext w W:=by rw [←HW.out]; exact Ext.alloc _ _
 have hb0:=hB.cell 0
 have hb1:=hB.cell 1
 simp at hb0 hb1
 have hbl:=hB.lt
 have HNT:=hide hnet
 have HB:=hide hb
 have hn1:n1≤24:=by rw [hs1.len]; exact (net_pipes hnet).1.n24
 clear hnet hb hB
 go_enter Tryz.func154,Tryz.ntmps154
 go_wp2_with fail
 rw [HW.out]
 refine wp_region_ph [([0,1,2],3),([],4)] [5] (by kernel_rfl) (by kernel_rfl) (by intro c a w d v h; cases d <;> exact h) ?_
 simp only [wpPh,pickL,nthO]
 repeat (go_big_quiet_step (fail))
 refine wpQuiet_nil ?_
 go_wp2_with fail
 have hxd:Ext w W.drew:=hx0.drew
 refine (c_transportSupplies A1 A2 n1 c1 n2 c2 A n c ts _ (hs.ext hxd) (by omega) hn HB.out).mono ?_
 rintro e w2 ⟨v2,E,rfl,ho2,HE,hx2⟩
 have hel:E.length=n1:=by rw [HE.out]; exact supT_len _ _
 obtain ⟨A3,c3,rfl,hs3⟩:=ho2.sl intC_len (by omega)
 rw [hel] at hs3
 rw [hel]
 go_wp2_with fail
 refine ⟨hx2,?_⟩
 repeat (go_big_quiet_step (fail))
 refine wpQuiet_nil ?_
 have hX2:=hxd.trans hx2
 go_wp2_with fail
 refine (c_IsRoutable A1 A2 n1 c1 n2 c2 ns ps _ (hs1.ext hX2) (hs2.ext hX2) HNT.out A3 c3 E hs3).mono ?_
 rintro e w3 ⟨rfl,hx3⟩
 go_wp2_with fail
 refine ⟨hx3,?_⟩
 repeat (go_big_quiet_step (fail))
 refine wpQuiet_nil ?_
 go_wp2_with fail
 go_ret
 exact Ret.of (by unfold fitB; rw [←HE.out]; rfl) (hX2.trans hx3)
set_option maxRecDepth 8000 in
set_option maxHeartbeats 1000000 in
theorem c_cloneT (A:Option Addr) (n c:Nat) (xs:List Trn) (w:World) (hs:SliceOf w 4 Trn.cells A n c xs) (hn:n≤1048576):
  Calls Tryz.prog 218 #[.slice A n c] w (RetT (fun E=>E=xs) w):=by
 cases A with
 | none=>
  obtain ⟨rfl,rfl⟩:=hs.none_nil
  have hnil:∀W,(binOp .eql 118 (.slice none 0 c) (.slice none 0 0)).run Tryz.prog W= .ok (.bool true) W:=fun W=>run_eql_nil_slice W _ _ none 0 c 0 0 Tryz.underlying118
  go_enter Tryz.func218,Tryz.ntmps218
  go_wp2_with fail
  go_ret
  exact ⟨_,[],rfl,OwnL.nil_ _ _ _ _ _,hide rfl,Ext.refl _⟩
 | some ad=>
  have hnil:∀W,(binOp .eql 118 (.slice (some ad) n c) (.slice none 0 0)).run Tryz.prog W= .ok (.bool false) W:=fun W=>run_eql_nil_slice W _ _ (some ad) n c 0 0 Tryz.underlying118
  go_enter Tryz.func218,Tryz.ntmps218
  go_wp2_with (at_builtin; go_must (refine wpList_append_slice rfl _ _ 118 rfl w.heap.size 201 _ 4 32 Tryz.underlying118 trn_info rfl (by decide) Trn.cells trn_len trn_one _ [] rfl (OwnL.empty w _ _ _ _ (Nat.le_refl _)) (some ad) n c xs rfl (hs.ext (Ext.alloc _ _)) (by first | omega | (simp; omega)) (by omega) (by first | exact Nat.le_refl _ | omega | (simp; done) | (simp; omega)) ?_))
  intro v w1 hown hext
  have hx:=hext w (Nat.le_refl _) (Ext.alloc _ _)
  go_wp2_with fail
  go_ret
  exact ⟨v,xs,rfl,hown,hide rfl,hx⟩
theorem map_step {α:Type} {f:α→α} {xs:List α} {k:Nat} {x:α} (h:xs[k]? =some x):(xs.take (k+1)).map f++xs.drop (k+1)=((xs.take k).map f++xs.drop k).set k (f x):=by
 obtain ⟨hk,he⟩:=List.getElem?_eq_some_iff.1 h
 rw [List.take_add_one,h,Option.toList_some,List.map_append,List.map_singleton,List.append_assoc,List.set_append_right _ _ (by simp; omega),List.length_map,List.length_take,Nat.min_eq_left (by omega),Nat.sub_self,List.drop_eq_getElem_cons hk,List.set_cons_zero]
 rfl
theorem map_mid {α:Type} {f:α→α} {xs:List α} {k:Nat} {x:α} (h:xs[k]? =some x):((xs.take k).map f++xs.drop k)[k]? =some x:=by
 obtain ⟨hk,he⟩:=List.getElem?_eq_some_iff.1 h
 rw [List.getElem?_append_right (by simp; omega),List.length_map,List.length_take,Nat.min_eq_left (by omega),Nat.sub_self,List.getElem?_drop,Nat.add_zero,h]
set_option maxHeartbeats 1000000 in
theorem c_scaledTransports (A:Option Addr) (n c:Nat) (ts:List Trn) (B:Option Addr) (d:Nat) (sc:List Int) (w:World) (hs:SliceOf w 4 Trn.cells A n c ts) (hsc:SliceOf w 1 intC B 4 d sc) (hn:n≤100000) (N:Nat) (hb:∀x∈ts,TrnB N 30000 x) (hi:ScaleIn sc):
  Calls Tryz.prog 152 #[.slice A n c,.slice B 4 d] w (RetT (fun E=>E=ts.map (scaleT sc)) w):=by
 have HB:=hide hb
 have HI:=hide hi
 have HLN:=hide hs.len
 clear hb hi
 go_enter Tryz.func152,Tryz.ntmps152
 go_wp2_with fail
 refine (c_cloneT A n c ts _ hs (by omega)).mono ?_
 rintro e w1 ⟨v1,E,rfl,ho1,HE,hx1⟩
 have hel:E.length=n:=by rw [HE.out]; exact HLN.out.symm
 obtain ⟨A4,c4,rfl,-⟩:=ho1.sl trn_len (by omega)
 rw [hel] at ho1
 rw [hel]
 have HE0:Hid (E=(ts.take 0).map (scaleT sc)++ts.drop 0):=hide (by rw [HE.out]; simp)
 go_wp2_with fail
 go_loopw [11] (fun i wr=>∃(k:Nat) (L:List Trn),k≤n∧i= .int .i64 k∧L.length=n∧Hid (L=(ts.take k).map (scaleT sc)++ts.drop k)∧OwnL wr w.heap.size 201 4 Trn.cells (.slice A4 n c4) L∧Ext w wr) (fun i _=>n-(intOf i).toNat)
 case atStart=>exact ⟨0,E,Nat.zero_le _,rfl,hel,HE0,ho1,hx1⟩
 case round=>
  clear ho1 hx1 HE0 HE hel
  obtain ⟨k,L,hk,rfl,hLk,HL,ho,hx⟩:=hrel
  by_cases hlt:k<n
  ·obtain ⟨x,hxk⟩:∃x,ts[k]? =some x:=⟨_,List.getElem?_eq_getElem (by rw [←HLN.out]; exact hlt)⟩
   have hLx:L[k]? =some x:=by rw [HL.out]; exact map_mid hxk
   have hxb:=HB.out x (List.mem_of_getElem? hxk)
   obtain ⟨-,-,⟨ha0,ha1⟩,⟨hk0,hk1⟩⟩:=hxb
   obtain ⟨y,hy⟩:∃y:Nat,x.cls=y:=⟨x.cls.toNat,by omega⟩
   have hyn:y<4:=by omega
   obtain ⟨bs,os,s,hB,hbs,hsk,hcs⟩:=(hsc.ext hx).get hyn
   have hcs0:=hcs 0 _ rfl
   clear hcs
   subst hB
   have hbsw:bs<w.heap.size:=hsc.blk (b:=bs) rfl
   simp only [Nat.add_zero,Nat.mul_one] at hcs0
   have hsb:=HI.out.2 s (List.mem_of_getElem? hsk)
   obtain ⟨p1,p2,p3,p4⟩:=scale_le ⟨ha0,ha1⟩ hsb
   have e1:IntKind.i64.wrap (x.amount*s)=x.amount*s:=IntWalk.i64_in _ (by omega)
   obtain ⟨q,hq⟩:∃q,(x.amount*s).tdiv 100=q:=⟨_,rfl⟩
   have HSC:Hid (scaleT sc x=⟨x.entry,x.exit_,q,x.cls⟩):=hide (by unfold scaleT; rw [hy,Int.toNat_natCast,zAt_some hsk,hq])
   have HST:Hid ((ts.take (k+1)).map (scaleT sc)++ts.drop (k+1)=L.set k (scaleT sc x)):=hide (by rw [map_step hxk, ←HL.out])
   rw [hq] at p3 p4
   have e2:IntKind.i64.wrap q=q:=IntWalk.i64_in _ (by omega)
   obtain ⟨g,hA4,hn4,hgb,hgl,hgf,hgc,ho2⟩:=(ho.ext (Ext.refl _).drew).setOne trn_len (k:=k) (j:=2) (x:=x) (y:=scaleT sc x) (u:= .int .i64 q) hLx (by omega) (by rw [HSC.out]; rfl)
   subst hA4
   have hg2:wr.cell? ⟨g,k*4+2,none⟩=some (.int .i64 x.amount):=hgc 2 _ rfl
   have hg3:wr.cell? ⟨g,k*4+3,none⟩=some (.int .i64 x.cls):=hgc 3 _ rfl
   have hf2:wr.frozen? ⟨g,k*4+2,none⟩=false:=hgf (k*4+2)
   rw [hy] at hg3
   have hx2:=hx.drew.setCell (p:=⟨g,k*4+2,none⟩) hgb (.int .i64 q)
   have hgl':g<wr.heap.size:=hgl
   clear hxk hsk hLx hgc hgf ho hx hgl hn4
   go_wp2_with fail
   refine wp_region_phZ [(g,k*4+2),(g,k*4+3),(bs,os+y)] [([0,1,2,3,4,5,6,7,8,9,10,11,12,13,14,15,16],17)] [18] 19 (by kernel_rfl) (by kernel_rfl) (by intro c a w d v h; cases d <;> exact h) ?_
   simp only [wpPhZ,pickL,nthO]
   repeat (go_big_quiet_step (fail))
   refine wpQuiet_nil ?_
   set_option maxRecDepth 20000 in
   go_wp2_with fail
   refine ⟨(SameC.refl _ _).drew,?_⟩
   repeat (go_big_quiet_step (fail))
   refine wpQuiet_nil ?_
   set_option maxRecDepth 20000 in
   go_wp2_with fail
   go_roundw
   case rel=>exact ⟨k+1,L.set k (scaleT sc x),by omega,by go_num,by rw [List.length_set]; exact hLk,hide HST.out.symm,ho2,hx2⟩
   case measure=>simp [intOf]; omega
  ·obtain rfl:k=n:=by omega
   go_wp2_with fail
   go_ret
   exact ⟨_,L,rfl,ho,hide (by rw [HL.out,HLN.out,List.take_length,List.drop_length,List.append_nil]),hx⟩
end Go.Proofs.YtfkpghdmljjegaaGreat
namespace Go.Proofs.YtfkpghdmljjegaaGreat
open Go.RowKit
set_option maxHeartbeats 2000000 in
theorem c_curtailScales (A1 A2:Option Addr) (n1 c1 n2 c2:Nat) (ns:List Node) (ps:List Pipe) (w:World) (hs1:SliceOf w 3 Node.cells A1 n1 c1 ns) (hs2:SliceOf w 5 Pipe.cells A2 n2 c2 ps) (hnet:netB ns ps=true) (A:Option Addr) (n c:Nat) (ts:List Trn) (hs:SliceOf w 4 Trn.cells A n c ts) (hn:n≤100000) (hb:∀x∈ts,TrnB n1 30000 x):
  Calls Tryz.prog 151 #[.agg #[.slice A1 n1 c1,.slice A2 n2 c2],.slice A n c] w (RetI (fun E=>E=scalesF (fitS ps n1 ts)) w):=by
 have hB:=Row.new w 45 [.slice A1 n1 c1,.slice A2 n2 c2]
 have hx0:Ext w (w.alloc (.cells #[.slice A1 n1 c1,.slice A2 n2 c2] 45)):=Ext.alloc _ _
 have HNT:=hide hnet
 have HB:=hide hb
 obtain ⟨z4,HZ4⟩:∃z4,Hid (List.replicate 4 (0:Int)=z4):=⟨_,hide rfl⟩
 have hmk:∀W:World,(Instr.makeSlice 24 (.int .i64 4) (.int .i64 4)).run Tryz.prog W= .ok (.slice (some ⟨W.heap.size,0,none⟩) 4 4) (W.alloc (.cells (z4.flatMap intC).toArray 2)):=fun W=>by rw [←HZ4.out]; exact run_make_flat (P:=Tryz.prog) 24 2 _ _ 1 8 Tryz.underlying24 int_info (f:=intC) 0 rfl rfl rfl (by omega) 4 (by omega) (by omega) W
 clear hnet hb
 obtain ⟨F,HF⟩:∃F,Hid (fitS ps n1 ts=F):=⟨_,hide rfl⟩
 have HF0:Hid (F (List.replicate 4 0)=true):=hide (by rw [←HF.out]; exact fitS_zero ps n1 ts)
 rw [HF.out]
 go_enter Tryz.func151,Tryz.ntmps151
 go_wp2_with fail
 go_loopw [10] (fun i wr=>∃k:Nat,k≤4∧i= .int .i64 k∧RowOf wr (w.heap.size+1) 2 intC (scK F k)∧Ext (w.alloc (.cells #[.slice A1 n1 c1,.slice A2 n2 c2] 45)) wr) (fun i _=>4-(intOf i).toNat)
 case atStart=>exact ⟨0,Nat.zero_le _,rfl,by rw [show scK F 0=z4 from HZ4.out]; exact Row.newG _ _ (by simp),Ext.alloc _ _⟩
 case round=>
  obtain ⟨k,hk,rfl,hR,hx⟩:=hrel
  have hlen:(scK F k).length=4:=(scK_in F k).1
  have hle:=hR.lt
  by_cases hlt:k<4
  ·have HSI:=hide (scK_in F k)
   have HS0:Hid (F ((scK F k).set k 0)=true):=hide (by rw [scK_set0 F hlt]; exact scK_fit HF0.out k (by omega))
   have HSC:Hid (scK F (k+1)=(scK F k).set k (bestS F (scK F k) k 100:Int)):=hide (by rw [scK_succ]; rfl)
   obtain ⟨sc,hsc⟩:∃sc,scK F k=sc:=⟨_,rfl⟩
   rw [hsc] at hR HS0 HSC hlen HSI
   have hkd:decide ((k:Int)<4)=true:=decide_eq_true (by omega)
   obtain ⟨u,hu⟩:=hR.there intC_len (i:=k) (by omega) (j:=0) (by omega)
   simp only [Nat.mul_one,Nat.add_zero] at hu
   have hf:=hR.frozen k
   have hR0:=RowOf.set0 hR (fun x=>⟨_,rfl⟩) (d:=k) (by omega) (100:Int) (.int .i64 100) rfl
   have hx1:=hx.setCell (p:=⟨w.heap.size+1,k,none⟩) (by simp) (.int .i64 100)
   clear hR hsc hx
   go_wp2_with fail
   go_loopw [] (fun wr'=>∃m:Nat,m≤100∧RowOf wr' (w.heap.size+1) 2 intC (sc.set k (m:Int))∧Hid (bestS F sc k 100=bestS F sc k m)∧Ext (w.alloc (.cells #[.slice A1 n1 c1,.slice A2 n2 c2] 45)) wr') (fun wr'=>((readI wr' (w.heap.size+1) 4)[k]?.getD 0).toNat)
   case atStart=>exact ⟨100,Nat.le_refl _,hR0,hide rfl,hx1⟩
   case round=>
    clear hR0 hx1 hu hf
    obtain ⟨m,hm,hR1,HBS,hx1⟩:=hrel
    have hsl:(sc.set k (m:Int)).length=4:=by rw [List.length_set]; exact hlen
    have HSI2:Hid (ScaleIn (sc.set k (m:Int))):=hide (HSI.out.set k (by omega))
    have hS:=hR1.slice intC_len hsl.symm (by omega)
    have hb0:=(hB.ext hx1).cell 0
    have hb1:=(hB.ext hx1).cell 1
    simp at hb0 hb1
    have hbl:=(hB.ext hx1).lt
    have hX1:=hx0.trans hx1
    have hme:∀(W:World) (j:Nat),RowOf W (w.heap.size+1) 2 intC (sc.set k (j:Int))→((readI W (w.heap.size+1) 4)[k]?.getD 0).toNat=j:=fun W j hW=>by
     have h1:=OwnS.of_row hW
     rw [List.length_set,hlen] at h1
     rw [readI_eq h1,List.getElem?_set_self (by omega)]; simp
    have HME:=hide hme
    have HM1:=hide (hme _ m hR1)
    clear hme
    go_wp2_with fail
    refine wp_region_ph [([0,1,2],3),([],4)] [5] (by kernel_rfl) (by kernel_rfl) (by intro c a w d v h; cases d <;> exact h) ?_
    simp only [wpPh,pickL,nthO]
    repeat (go_big_quiet_step (fail))
    refine wpQuiet_nil ?_
    go_wp2_with fail
    refine (c_scaledTransports A n c ts (some ⟨w.heap.size+1,0,none⟩) 4 (sc.set k (m:Int)) _ (hs.ext hX1.drew) (hS.ext (Ext.refl _).drew) hn n1 HB.out HSI2.out).mono ?_
    rintro e w2 ⟨v2,E,rfl,ho2,HE,hx2⟩
    obtain ⟨A4,c4,rfl,hs4⟩:=ho2.sl trn_len (by omega)
    have hel:E.length=n:=by rw [HE.out,List.length_map,hs.len]
    rw [hel] at hs4
    rw [hel]
    have hX2:=hX1.drew.trans hx2
    go_wp2_with fail
    refine ⟨hx2,?_⟩
    repeat (go_big_quiet_step (fail))
    refine wpQuiet_nil ?_
    go_wp2_with fail
    refine (c_doFit A1 A2 n1 c1 n2 c2 ns ps _ (hs1.ext hX2) (hs2.ext hX2) HNT.out A4 n c4 E hs4 hn (by
     rw [HE.out]
     intro x hx
     obtain ⟨y,hy,rfl⟩:=List.mem_map.1 hx
     exact scaleT_ok (HB.out y hy) HSI2.out)).mono ?_
    have hfe:fitB ps n1 E=F (sc.set k (m:Int)):=by rw [HE.out, ←HF.out]; rfl
    rw [hfe]
    have hRw:∀W',Ext w2 W'→RowOf W' (w.heap.size+1) 2 intC (sc.set k (m:Int)):=fun W' h=>(hR1.ext (Ext.refl _).drew).ext (hx2.trans h)
    have hxw:∀W',Ext w2 W'→Ext (w.alloc (.cells #[.slice A1 n1 c1,.slice A2 n2 c2] 45)) W':=fun W' h=>(hx1.drew.trans hx2).trans h
    cases hfit:F (sc.set k (m:Int))
    ·obtain ⟨m,rfl⟩:∃j,m=j+1:=by
      cases m with
      | zero=>rw [show ((0:Nat):Int)=0 from rfl,HS0.out] at hfit; cases hfit
      | succ j=>exact ⟨j,rfl⟩
     have HBS2:Hid (bestS F sc k 100=bestS F sc k m):=hide (by rw [HBS.out,bestS_down hfit])
     clear hfit hfe
     rintro e w3 ⟨rfl,hx3⟩
     have hR3:=hRw _ hx3
     have hX3:=hxw _ hx3
     have hk2:(sc.set k ((m+1:Nat):Int))[k]? =some ((m+1:Nat):Int):=by rw [List.getElem?_set_self (by omega)]
     have hcl:=hR3.get intC_len hk2 (j:=0) rfl
     simp only [Nat.mul_one,Nat.add_zero] at hcl
     have hf3:=hR3.frozen k
     have hl3:=hR3.lt
     have hR4:=RowOf.set0 hR3 (fun x=>⟨_,rfl⟩) (d:=k) (by rw [List.length_set]; omega) (m:Int) (.int .i64 m) rfl
     rw [List.set_set] at hR4
     have hx4:=hX3.setCell (p:=⟨w.heap.size+1,k,none⟩) (by simp) (.int .i64 m)
     have e1:IntKind.i64.wrap (((m+1:Nat):Int)-1)=m:=by rw [IntWalk.i64_in _ (by omega)]; omega
     have HM2:=hide (HME.out _ m hR4)
     clear hk2 hR3 hX3 hb0 hb1 hbl hRw hxw hR1 hS
     go_wp2_with fail
     refine ⟨hx3,?_⟩
     repeat (go_big_quiet_step (fail))
     refine wpQuiet_nil ?_
     go_wp2_with fail
     go_roundw
     case rel=>exact ⟨m,by omega,hR4,HBS2,hx4⟩
     case measure=>rw [HM1.out,HM2.out]; omega
    ·have HSE:Hid (scK F (k+1)=sc.set k (m:Int)):=hide (by rw [HSC.out,HBS.out,bestS_at hfit])
     clear hfit hfe
     rintro e w3 ⟨rfl,hx3⟩
     go_wp2_with fail
     refine ⟨hx3,?_⟩
     repeat (go_big_quiet_step (fail))
     refine wpQuiet_nil ?_
     go_wp2_with fail
     go_roundw
     case rel=>exact ⟨k+1,by omega,by go_num,by rw [HSE.out]; exact hRw _ hx3,hxw _ hx3⟩
     case measure=>simp [intOf]; omega
  ·obtain rfl:k=4:=by omega
   go_wp2_with fail
   go_ret
   have hO:=OwnL.of_row hR intC_len (base:=w.heap.size) (by omega) (by omega)
   rw [hlen] at hO
   exact ⟨_,_,rfl,hO,hide rfl,hx0.trans hx⟩
end Go.Proofs.YtfkpghdmljjegaaGreat
namespace Go.Proofs.YtfkpghdmljjegaaGreat
open Go.RowKit
theorem c_isHour (h:Int) (w:World):Calls Tryz.prog 188 #[.int .i64 h] w fun e w'=>e= .returned (.bool (inB h 0 47))∧w=w':=by
 go_enter Tryz.func188,Tryz.ntmps188
 go_wp2_with (go_at_call 164; refine (c_within _ _ _ _).mono ?_; rintro e w' ⟨rfl,rfl⟩)
 go_ret
 exact ⟨rfl,rfl⟩
def setV (n1:Int) (xs:List Contract) (rd:Bool) (L:List Nomination) (h:Int):Int:=
 if bookB n1 xs=false then 3 else if rd=false then 3 else if nomsB xs L=false then 5 else if inB h 0 47=false then 2 else if 20<xs.length then 7 else 0
theorem setV_C {n1:Int} {ns:List Node} {ps:List Pipe} {xs:List Contract} {L:List Nomination} {h:Int} (hn:netB ns ps=true):setV n1 xs true L h=setC n1 ns ps xs L h:=by
 unfold setV setC nomC bookC
 rw [hn]
 cases bookB n1 xs <;> cases nomsB xs L <;> simp
theorem setC_net {n1:Int} {ns:List Node} {ps:List Pipe} {xs:List Contract} {L:List Nomination} {h:Int} (hn:netB ns ps=false):setC n1 ns ps xs L h=1:=by
 unfold setC nomC bookC
 rw [hn]; simp
def rdB (n1:Int) (rs:List RS):Bool:=rs.all (fun q=>readsB n1 q.xs)
set_option maxHeartbeats 2000000 in
theorem c_checkSettle (A1 A2:Option Addr) (n1 c1 n2 c2:Nat) (ns:List Node) (ps:List Pipe) (A:Option Addr) (n c:Nat) (xs:List Contract) (B:Option Addr) (m d:Nat) (L:List Nomination) (h:Int) (w:World) (hs1:SliceOf w 3 Node.cells A1 n1 c1 ns) (hs2:SliceOf w 5 Pipe.cells A2 n2 c2 ps) (hs:SliceOf w 8 Contract.cells A n c xs) (hL:SliceOf w 4 Nomination.cells B m d L) (hnet:netB ns ps=true) (R:Option Addr) (nr cr:Nat) (rs:List RS) (hsr:SliceOf w 1 RS.cells R nr cr rs) (hrs:∀q∈rs,SliceOf w 2 Reading.cells q.A q.n q.c q.xs):
  Calls Tryz.prog 111 #[.agg #[.slice A1 n1 c1,.slice A2 n2 c2],.slice A n c,.slice B m d,.int .i64 h,.slice R nr cr] w (Ret (.int .i64 (setV n1 xs (rdB n1 rs) L h)) w):=by
 have hB:=Row.new w 45 [.slice A1 n1 c1,.slice A2 n2 c2]
 have hx0:Ext w (w.alloc (.cells #[.slice A1 n1 c1,.slice A2 n2 c2] 45)):=Ext.alloc _ _
 have HLN:=hide hs.len
 have hmx:=hs.max
 have hcp:=hs.cap
 have hrm:=hsr.max
 have hrc:=hsr.cap
 have HNT:=hide hnet
 have HRS:=hide hrs
 have hm1:n1≤9223372036854775807:=Nat.le_trans hs1.cap hs1.max
 clear hnet hrs
 go_enter Tryz.func111,Tryz.ntmps111
 go_wp2_with fail
 refine (c_isBook A1 A2 n1 c1 n2 c2 A n c xs _ hm1 (hs.ext hx0)).mono ?_
 cases hb:bookB n1 xs
 ·rintro e w1 ⟨rfl,hx1⟩
  have HR:Hid (setV n1 xs (rdB n1 rs) L h=3):=hide (by unfold setV; rw [if_pos hb])
  clear hb
  go_wp2_with fail
  go_ret
  exact Ret.int HR.out (hx0.trans hx1)
 rintro e w1 ⟨rfl,hx1⟩
 have HBK:=hide hb
 have HR0:Hid (setV n1 xs (rdB n1 rs) L h=if rdB n1 rs=false then 3 else if nomsB xs L=false then 5 else if inB h 0 47=false then 2 else if 20<xs.length then 7 else 0):=hide (by unfold setV; rw [if_neg (by rw [hb]; decide)])
 have hn32:n≤32:=by
  simp only [bookB,Bool.and_eq_true,decide_eq_true_eq] at hb
  rw [HLN.out]; exact hb.1
 clear hb
 go_wp2_with fail
 go_loopw [10,19] (fun r i wr=>∃k:Nat,k≤nr∧r= .int .i64 0∧i= .int .i64 k∧Hid (∀(j:Nat) (p:RS),j<k→rs[j]? =some p→readsB n1 p.xs=true)∧Ext (w.alloc (.cells #[.slice A1 n1 c1,.slice A2 n2 c2] 45)) wr) (fun _ i _=>nr-(intOf i).toNat)
 case atStart=>exact ⟨0,Nat.zero_le _,rfl,rfl,hide (fun j p hj=>absurd hj (by omega)),hx1⟩
 case round=>
  clear hx1
  obtain ⟨k,hk,rfl,rfl,HK,hx⟩:=hrel
  have hX:=hx0.trans hx
  have hb0:=(hB.ext hx).cell 0
  have hb1:=(hB.ext hx).cell 1
  simp at hb0 hb1
  have hbl:=(hB.ext hx).lt
  by_cases hlt:k<nr
  ·obtain ⟨bb,off,p,hA,hbb,hxk,t⟩:=(hsr.ext hX).get hlt
   have t0:=t 0 _ rfl
   simp only [Nat.add_zero,Nat.mul_one] at t0
   have HX:=hide hxk
   have HP:=hide (List.mem_of_getElem? hxk)
   clear hxk t
   subst hA
   go_wp2_with fail
   refine (c_areReadings A1 A2 n1 c1 n2 c2 ns ps p.A p.n p.c p.xs _ (hs1.ext hX) (hs2.ext hX) ((HRS.out p HP.out).ext hX) HNT.out).mono ?_
   cases hp:readsB n1 p.xs
   ·have HR:Hid (setV n1 xs (rdB n1 rs) L h=3):=hide (by rw [HR0.out,if_pos (by unfold rdB; rw [List.all_eq_false]; exact ⟨p,HP.out,by simp [hp]⟩)])
    clear hp
    rintro e w2 ⟨rfl,hx2⟩
    go_wp2_with fail
    go_ret
    exact Ret.int HR.out (hX.trans hx2)
   ·have HPP:=hide hp
    clear hp
    rintro e w2 ⟨rfl,hx2⟩
    go_wp2_with fail
    go_roundw
    case rel=>
     refine ⟨k+1,by omega,rfl,by go_num,hide fun j q hj hq=> ?_,hx.trans hx2⟩
     by_cases e:j=k
     ·subst e; rw [HX.out] at hq; injection hq with hq; subst hq; exact HPP.out
     ·exact HK.out j q (by omega) hq
    case measure=>simp [intOf]; omega
  ·have hrd:rdB n1 rs=true:=by
    unfold rdB
    rw [List.all_eq_true]; intro q hq
    obtain ⟨j,hj,rfl⟩:=List.mem_iff_getElem.1 hq
    exact HK.out j _ (by have:=hsr.len; omega) (List.getElem?_eq_getElem hj)
   have HR1:Hid (setV n1 xs (rdB n1 rs) L h=if nomsB xs L=false then 5 else if inB h 0 47=false then 2 else if 20<xs.length then 7 else 0):=hide (by rw [HR0.out,if_neg (by rw [hrd]; decide)])
   clear hrd
   go_wp2_with fail
   refine (c_AreNominations A1 A2 n1 c1 n2 c2 ns ps A n c xs B m d L _ (hs1.ext hX) (hs2.ext hX) (hs.ext hX) (hL.ext hX)).mono ?_
   have HOK:Hid (nomsOk n1 ns ps xs L=nomsB xs L):=hide (by unfold nomsOk; rw [HNT.out,HBK.out]; simp)
   rw [HOK.out]
   cases hnm:nomsB xs L
   ·have HR:Hid (setV n1 xs (rdB n1 rs) L h=5):=hide (by rw [HR1.out,if_pos hnm])
    clear hnm
    rintro e w2 ⟨rfl,hx2⟩
    go_wp2_with fail
    go_ret
    exact Ret.int HR.out (hX.trans hx2)
   ·have HR2:Hid (setV n1 xs (rdB n1 rs) L h=if inB h 0 47=false then 2 else if 20<xs.length then 7 else 0):=hide (by rw [HR1.out,if_neg (by rw [hnm]; decide)])
    clear hnm
    rintro e w2 ⟨rfl,hx2⟩
    have e1:IntKind.i64.wrap (2*(n:Int))=2*n:=IntWalk.i64_in _ (by omega)
    cases hh:inB h 0 47
    ·have HR:Hid (setV n1 xs (rdB n1 rs) L h=2):=hide (by rw [HR2.out,if_pos hh])
     go_wp2_with (go_at_call 188; refine (c_isHour h _).mono ?_; rw [hh]; rintro e w' ⟨rfl,rfl⟩)
     go_ret
     exact Ret.int HR.out (hX.trans hx2)
    ·by_cases h20:20<n
     ·have HR:Hid (setV n1 xs (rdB n1 rs) L h=7):=hide (by rw [HR2.out,if_neg (by rw [hh]; decide),if_pos (by rw [←HLN.out]; exact h20)])
      have hd:decide (40<2*(n:Int))=true:=decide_eq_true (by omega)
      go_wp2_with (go_at_call 188; refine (c_isHour h _).mono ?_; rw [hh]; rintro e w' ⟨rfl,rfl⟩)
      go_ret
      exact Ret.int HR.out (hX.trans hx2)
     ·have HR:Hid (setV n1 xs (rdB n1 rs) L h=0):=hide (by rw [HR2.out,if_neg (by rw [hh]; decide),if_neg (by rw [←HLN.out]; exact h20)])
      have hd:decide (40<2*(n:Int))=false:=decide_eq_false (by omega)
      go_wp2_with (go_at_call 188; refine (c_isHour h _).mono ?_; rw [hh]; rintro e w' ⟨rfl,rfl⟩)
      go_ret
      exact Ret.int HR.out (hX.trans hx2)
def RetOC {α:Type} (t:TypeId) (size:Nat) (f:α→List Value) (p:List α×Int) (w:World) (e:Ending) (w':World):Prop:=
 ∃v l z,e= .returned (.tuple #[v,.int .i64 z])∧OwnL w' w.heap.size t size f v l∧Ext w w'∧Hid ((l,z)=p)
theorem RetOC.nil0 {α:Type} {t:TypeId} {size:Nat} {f:α→List Value} {p:List α×Int} {w w':World} {z:Int} (hx:Ext w w') (h:([],z)=p):RetOC t size f p w (.returned (.tuple #[.slice none 0 0,.int .i64 z])) w':=
 ⟨_,[],z,rfl,OwnL.nil_ _ _ _ _ _,hx,hide h⟩
def amC (n1:Int) (ns:List Node) (ps:List Pipe) (xs:List Contract) (L:List Nomination) (h:Int):Int:=
 if nomC n1 ns ps xs L=0 then (if inB h 0 47=false then 2 else 0) else nomC n1 ns ps xs L
def amV (n1:Int) (ns:List Node) (ps:List Pipe) (xs:List Contract) (L:List Nomination) (h:Int):List Int×Int:=
 if amC n1 ns ps xs L h=0 then (amtL xs.length L h,0) else ([],amC n1 ns ps xs L h)
def fnV (n1:Int) (ns:List Node) (ps:List Pipe) (xs:List Contract) (L:List Nomination) (h:Int):List Trn×Int:=
 if amC n1 ns ps xs L h=0 then (trnL xs L h,0) else ([],amC n1 ns ps xs L h)
theorem amC_set {n1:Nat} {ns:List Node} {ps:List Pipe} {xs:List Contract} {L:List Nomination} {h:Int} (hk:HrOk n1 ns ps xs L h):amC n1 ns ps xs L h=0:=by
 unfold amC nomC bookC
 rw [hk.net,hk.bk,hk.nm,hk.hr]; rfl
set_option maxHeartbeats 1000000 in
theorem c_AmountsIn (A1 A2:Option Addr) (n1 c1 n2 c2:Nat) (ns:List Node) (ps:List Pipe) (A:Option Addr) (n c:Nat) (xs:List Contract) (B:Option Addr) (m d:Nat) (L:List Nomination) (h:Int) (w:World) (hs1:SliceOf w 3 Node.cells A1 n1 c1 ns) (hs2:SliceOf w 5 Pipe.cells A2 n2 c2 ps) (hs:SliceOf w 8 Contract.cells A n c xs) (hL:SliceOf w 4 Nomination.cells B m d L) (hn32:n≤100000):Calls Tryz.prog 148 #[.agg #[.slice A1 n1 c1,.slice A2 n2 c2],.slice A n c,.slice B m d,.int .i64 h] w (RetOC 2 1 intC (amV n1 ns ps xs L h) w):=by
 have hx0:Ext w (w.alloc (.cells #[.slice A1 n1 c1,.slice A2 n2 c2] 45)):=Ext.alloc _ _
 have HLN:=hide hs.len
 obtain ⟨z,HZ⟩:∃z,Hid (nomC n1 ns ps xs L=z):=⟨_,hide rfl⟩
 go_enter Tryz.func148,Tryz.ntmps148
 go_wp2_with fail
 refine (c_checkNominations A1 A2 n1 c1 n2 c2 ns ps A n c xs B m d L _ (hs1.ext hx0) (hs2.ext hx0) (hs.ext hx0) (hL.ext hx0)).mono ?_
 rw [HZ.out]
 rintro e w1 ⟨rfl,hx1⟩
 have hX1:=hx0.trans hx1
 by_cases h0:z=0
 ·subst h0
  have HK:=hide (nomC_ok3 HZ.out)
  cases hh:inB h 0 47
  ·have HC:Hid (amC n1 ns ps xs L h=2):=hide (by unfold amC; rw [if_pos HZ.out,if_pos hh])
   have HR:Hid (amV n1 ns ps xs L h=([],2)):=hide (by unfold amV; rw [if_neg (by rw [HC.out]; decide),HC.out])
   go_wp2_with (go_at_call 188; refine (c_isHour h _).mono ?_; rw [hh]; rintro e w' ⟨rfl,rfl⟩)
   go_ret2
   exact RetOC.nil0 hX1 HR.out.symm
  ·have HC:Hid (amC n1 ns ps xs L h=0):=hide (by unfold amC; rw [if_pos HZ.out,if_neg (by rw [hh]; decide)])
   have HR:Hid (amV n1 ns ps xs L h=(amtL xs.length L h,0)):=hide (by unfold amV; rw [if_pos HC.out])
   have HIN:=hide (fun x hx=>((nom_facts HK.out.2.1 HK.out.2.2).2 x hx).1)
   go_wp2_with (go_at_call 188; refine (c_isHour h _).mono ?_; rw [hh]; rintro e w' ⟨rfl,rfl⟩)
   refine (c_amountsIn A n c B m d L _ (hL.ext hX1) hn32 (by rw [HLN.out]; exact HIN.out) h).mono ?_
   rintro e w2 ⟨v,E,rfl,ho,HE,hx2⟩
   have hz:=hX1.size
   go_wp2_with fail
   go_ret2
   exact ⟨v,E,0,rfl,ho.lowG hz,hX1.trans hx2,hide (by rw [HR.out,HE.out,HLN.out])⟩
 ·have HC:Hid (amC n1 ns ps xs L h=z):=hide (by unfold amC; rw [if_neg (by rw [HZ.out]; exact h0),HZ.out])
  have HR:Hid (amV n1 ns ps xs L h=([],z)):=hide (by unfold amV; rw [if_neg (by rw [HC.out]; exact h0),HC.out])
  have hb:(z != 0)=true:=by rw [bne_iff_ne]; exact h0
  go_wp2_with fail
  go_ret2
  exact RetOC.nil0 hX1 HR.out.symm
set_option maxHeartbeats 2000000 in
theorem c_FromNominations (A1 A2:Option Addr) (n1 c1 n2 c2:Nat) (ns:List Node) (ps:List Pipe) (A:Option Addr) (n c:Nat) (xs:List Contract) (B:Option Addr) (m d:Nat) (L:List Nomination) (h:Int) (w:World) (hs1:SliceOf w 3 Node.cells A1 n1 c1 ns) (hs2:SliceOf w 5 Pipe.cells A2 n2 c2 ps) (hs:SliceOf w 8 Contract.cells A n c xs) (hL:SliceOf w 4 Nomination.cells B m d L) (hn32:n≤100000):Calls Tryz.prog 76 #[.agg #[.slice A1 n1 c1,.slice A2 n2 c2],.slice A n c,.slice B m d,.int .i64 h] w (RetOC 201 4 Trn.cells (fnV n1 ns ps xs L h) w):=by
 have hx0:Ext w (w.alloc (.cells #[.slice A1 n1 c1,.slice A2 n2 c2] 45)):=Ext.alloc _ _
 have HLN:=hide hs.len
 have hmx:=hs.max
 have hcp:=hs.cap
 obtain ⟨z,HZ⟩:∃z,Hid (amC n1 ns ps xs L h=z):=⟨_,hide rfl⟩
 go_enter Tryz.func76,Tryz.ntmps76
 go_wp2_with fail
 refine (c_AmountsIn A1 A2 n1 c1 n2 c2 ns ps A n c xs B m d L h _ (hs1.ext hx0) (hs2.ext hx0) (hs.ext hx0) (hL.ext hx0) hn32).mono ?_
 rintro e w1 ⟨v1,am,zz,rfl,ho1,hx1,HP⟩
 by_cases h0:z=0
 ·subst h0
  have hp:(am,zz)=(amtL xs.length L h,0):=by rw [HP.out]; unfold amV; rw [if_pos HZ.out]
  injection hp with hp1 hp2
  subst hp2
  have HE:=hide hp1
  clear hp1 HP
  have hal:am.length=n:=by rw [HE.out,amtL_len, ←HLN.out]
  obtain ⟨A4,c4,rfl,hs4⟩:=ho1.sl intC_len (by omega)
  rw [hal] at hs4
  rw [hal]
  have HTL:Hid (List.zipWith trnOf xs am=trnL xs L h):=hide (by unfold trnL; rw [HE.out])
  have HR:Hid (fnV n1 ns ps xs L h=(trnL xs L h,0)):=hide (by unfold fnV; rw [if_pos HZ.out])
  have hX1:=hx0.trans hx1
  have hs1':=hs.ext hX1
  have hw1:=hX1.size
  clear ho1 hs hL hs1 hs2
  go_wp2_with fail
  go_loopw [12,28] (fun v i wr=>∃(k:Nat) (T:List Trn),k≤n∧i= .int .i64 k∧T.length=k∧Hid (T=(List.zipWith trnOf xs am).take k)∧OwnL wr w1.heap.size 201 4 Trn.cells v T∧Ext w1 wr) (fun _ i _=>n-(intOf i).toNat)
  case atStart=>exact ⟨0,[],Nat.zero_le _,rfl,rfl,hide rfl,OwnL.nil_ _ _ _ _ _,Ext.refl _⟩
  case round=>
   obtain ⟨k,T,hk,rfl,hTk,HT,ho,hx⟩:=hrel
   by_cases hlt:k<n
   ·obtain ⟨b,off,x,hA,hb,hxk,hc⟩:=(hs1'.ext hx).get hlt
    have hc0:=hc 0 _ rfl
    have hc1:=hc 1 _ rfl
    have hc2:=hc 2 _ rfl
    have hc3:=hc 3 _ rfl
    have hc4:=hc 4 _ rfl
    have hc5:=hc 5 _ rfl
    have hc6:=hc 6 _ rfl
    have hc7:=hc 7 _ rfl
    clear hc
    subst hA
    obtain ⟨ba,oa,a,hB,hba,hak,hca⟩:=(hs4.ext hx).get hlt
    have hca0:=hca 0 _ rfl
    clear hca
    subst hB
    simp only [Nat.add_zero,Nat.mul_one] at hca0 hc0
    have hbaw:ba<w1.heap.size:=hs4.blk (b:=ba) (by unfold blkOf; rw [if_neg (by omega)]; rfl)
    have hxw:=hx.size
    have HST:Hid ((List.zipWith trnOf xs am).take (k+1)=T++[⟨x.entry,x.exit,a,x.cls⟩]):=hide (by rw [zip_step hxk hak, ←HT.out]; rfl)
    have HOB:Hid (∀j,u12.ownBlock=some j→w1.heap.size≤j∧j<wr.heap.size):=hide (fun j hj=>⟨ho.block_le hj,(ho.ltG hj).2⟩)
    clear hxk hak
    go_wp2_with fail
    have hbx:=Row.new wr 153 x.cells
    have hx1':Ext wr (wr.alloc (.cells x.cells.toArray 153)):=Ext.alloc _ _
    rw [show (Obj.cells #[.int .i64 x.shipper,.int .i64 x.entry,.int .i64 x.exit,.int .i64 x.amount,.int .i64 x.cls,.int .i64 x.start,.int .i64 x.stop,.int .i64 x.price] 153)= .cells x.cells.toArray 153 from rfl]
    obtain ⟨g,hg⟩:∃g,wr.heap.size=g:=⟨_,rfl⟩
    generalize (wr.alloc (.cells x.cells.toArray 153))=W1 at *
    have hca1:=(hx1'.cell _ _ hba).trans hca0
    have q1:=hbx.cell 1
    have q2:=hbx.cell 2
    have q4:=hbx.cell 4
    simp [Contract.cells] at q1 q2 q4
    have hbl:=hbx.lt
    have ho1:=ho.ext hx1'
    have hX2:=hx.trans hx1'
    have hbaW:ba<W1.heap.size:=Nat.lt_of_lt_of_le hba hx1'.size
    rw [hg] at hbl q1 q2 q4 HOB hxw ⊢
    clear hx ho hca0 hba hx1' hb hc0 hc1 hc2 hc3 hc4 hc5 hc6 hc7 hbx
    refine wp_region_phC [(g,1),(g,2),(ba,oa+k),(g,4)] [([0,1,2,3,4,5,6,7,8,9,10,11],12),([],13)] [14] (by kernel_rfl) (by kernel_rfl) (by intro c a w d v h; cases d <;> exact h) ?_
    simp only [wpPhC,pickL,nthO]
    repeat (go_big_quiet_step (fail))
    refine wpQuiet_nil ?_
    go_wp2_with fail
    obtain ⟨W,HW⟩:∃W,Hid ((W1.alloc (.cells #[.int .i64 x.entry,.int .i64 x.exit,.int .i64 a,.int .i64 x.cls] 201)).drew=W):=⟨_,hide rfl⟩
    rw [HW.out]
    have hxa:Ext W1 W:=by rw [←HW.out]; exact ((Ext.refl W1).and_alloc _).drew
    have hxz:=hxa.size
    have hxz1:=hX2.size
    have hWn:SliceOf W 4 Trn.cells (some ⟨W1.heap.size,0,none⟩) 1 1 [⟨x.entry,x.exit,a,x.cls⟩]:=by rw [←HW.out]; exact (new_trn W1 ⟨x.entry,x.exit,a,x.cls⟩ rfl).ext (Ext.refl _).drew
    refine ⟨SameC.of_ext hxa (by simp; omega),wpQuiet_nil ?_⟩
    go_wp2_with (at_builtin; go_must (refine wpList_append_where rfl _ _ 118 rfl w1.heap.size 201 _ 4 32 Tryz.underlying118 trn_info rfl (by decide) Trn.cells trn_len trn_one _ T rfl (ho1.ext hxa) W1.heap.size 0 1 1 [⟨x.entry,x.exit,a,x.cls⟩] rfl hWn (by omega) (by omega) (by omega) ?_))
    intro v2 w2 ho2 hg2 _
    have hx2:=(hX2.trans hxa).grown hg2 (fun k hk=>ho1.block_le hk)
    have hsm:=same_grown (bs:=[(g,1),(g,2),(ba,oa+k),(g,4)]) hxa hg2 (by
     intro p hp
     simp only [List.mem_cons,List.not_mem_nil,or_false] at hp
     rcases hp with rfl | rfl | rfl | rfl <;> exact ⟨by show _<_; omega,fun j hj=>by have:=HOB.out j hj; show _≠j; omega⟩)
    rw [←HST.out] at ho2
    clear ho1 hg2 hxa q1 q2 q4 hca1
    go_wp2_with fail
    refine ⟨hsm,?_⟩
    repeat (go_big_quiet_step (fail))
    refine wpQuiet_nil ?_
    go_wp2_with fail
    go_roundw
    case rel=>exact ⟨k+1,_,by omega,by go_num,by rw [HST.out]; simp; omega,hide rfl,ho2,hx2⟩
    case measure=>simp [intOf]; omega
   ·go_wp2_with fail
    go_ret2
    refine ⟨_,T,0,rfl,ho.lowG hw1,hX1.trans hx,hide ?_⟩
    rw [HR.out,HT.out,List.take_of_length_le (by rw [List.length_zipWith, ←HLN.out,hal]; omega),HTL.out]
 ·have hp:(am,zz)=([],z):=by rw [HP.out]; unfold amV; rw [if_neg (by rw [HZ.out]; exact h0),HZ.out]
  injection hp with hp1 hp2
  subst hp1 hp2
  have HR:Hid (fnV n1 ns ps xs L h=([],zz)):=hide (by unfold fnV; rw [if_neg (by rw [HZ.out]; exact h0),HZ.out])
  have hb:(zz != 0)=true:=by rw [bne_iff_ne]; exact h0
  go_wp2_with fail
  go_ret2
  exact RetOC.nil0 (hx0.trans hx1) HR.out.symm
end Go.Proofs.YtfkpghdmljjegaaGreat
