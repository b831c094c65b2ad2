/-
  One sending of a routing, and routing to the end, of the program; exactly.
-/
import Derived.Test.YtfkpghdmljjegaaGreatVe30
import Derived.Test.YtfkpghdmljjegaaGreatVe24
namespace Go.Proofs.YtfkpghdmljjegaaGreat
open Go.RowKit
@[go_sem] theorem laterC_at6 (cs:List (Nat×Nat)) (w x:World) (q1 q2 q3 q4 q5:Nat×Nat) (b o:Nat):(laterC (q1::q2::q3::q4::q5::(b,o)::cs) w x).cell? ⟨b,o,none⟩=w.cell? ⟨b,o,none⟩:=same_laterC _ w x (b,o) (by simp)
structure LfIn (w:World) (b g gl n1 c4:Nat) (lf:List Int):Prop where
 box:w.cell? ⟨b,0,none⟩=some (.pointer (some ⟨g,0,none⟩))
 bl:b<w.heap.size
 c3:w.cell? ⟨g,3,none⟩=some (.slice (some ⟨gl,0,none⟩) n1 c4)
 gg:g<w.heap.size
 o:OwnS w gl 2 intC (some ⟨gl,0,none⟩) n1 lf
theorem LfIn.ext {w w':World} {b g gl n1 c4:Nat} {lf:List Int} (h:LfIn w b g gl n1 c4 lf) (hx:Ext w w'):LfIn w' b g gl n1 c4 lf:=
 ⟨(hx.cell _ _ h.bl).trans h.box,Nat.lt_of_lt_of_le h.bl hx.size,(hx.cell _ _ h.gg).trans h.c3,Nat.lt_of_lt_of_le h.gg hx.size,h.o.ext hx⟩
theorem c_negIn (b g gl n1 c4:Nat) (lf:List Int) (x:Nat) (hx:x<n1) (w:World) (h:LfIn w b g gl n1 c4 lf):
  Calls Tryz.prog 284 #[.int .i64 x,.pointer (some ⟨b,0,none⟩)] w (fun e w'=>e= .returned (.bool (wantB lf x))∧w=w'):=by
 obtain ⟨z,hz⟩:∃z,lf[x]? =some z:=⟨_,List.getElem?_eq_getElem (by rw [←h.o.1]; exact hx)⟩
 obtain ⟨h1,_,h3⟩:=h.o.getI hz
 obtain ⟨p1,p2,p3,p4,_⟩:=h
 have HW:Hid (wantB lf (x:Int)=decide (z<0)):=hide (by unfold wantB; rw [Int.toNat_natCast,hz,Option.getD_some])
 clear hz
 go_enter Tryz.func284,Tryz.ntmps284
 go_wp2_with fail
 go_ret
 exact ⟨by rw [HW.out]; rfl,rfl⟩
def FoundT (lf E:List Int) (w:World) (e:Ending) (w':World):Prop:=
 ∃q:Int,e= .returned (.int .i64 q)∧Ext w w'∧((q= -1∧tgt lf E=none)∨(∃(k:Nat) (z:Int),q=k∧E[k]? =some z∧tgt lf E=some z))
theorem tgt_at {lf E:List Int} {k:Nat} {z:Int} (hn:∀(j:Nat) (p:Int),j<k→E[j]? =some p→wantB lf p=false) (hz:E[k]? =some z) (hw:wantB lf z=true):tgt lf E=some z:=by
 rw [tgt_eq]
 induction k generalizing E with
 | zero=>
  cases E with
  | nil=>simp at hz
  | cons y E=>simp at hz; subst hz; rw [List.find?_cons,hw]
 | succ k ih=>
  cases E with
  | nil=>simp at hz
  | cons y E=>
   rw [List.find?_cons,hn 0 y (by omega) rfl]
   exact ih (fun j p hj hp=>hn (j+1) p (by omega) (by simpa using hp)) (by simpa using hz)
theorem tgt_no {lf E:List Int} (hn:∀(j:Nat) (p:Int),j<E.length→E[j]? =some p→wantB lf p=false):tgt lf E=none:=by
 rw [tgt_eq,List.find?_eq_none]
 intro x hx
 obtain ⟨j,hj,rfl⟩:=List.mem_iff_getElem.1 hx
 rw [hn j _ hj (List.getElem?_eq_getElem hj)]; decide
set_option maxHeartbeats 1000000 in
theorem c_IndexNeg (A:Option Addr) (n c:Nat) (E:List Int) (b g gl n1 c4:Nat) (lf:List Int) (w:World) (hs:SliceOf w 1 intC A n c E) (hin:∀z∈E,∃k:Nat,z=k∧k<n1) (h:LfIn w b g gl n1 c4 lf):
  Calls Tryz.prog 283 #[.slice A n c,.func (.func 284) #[] #[.pointer (some ⟨b,0,none⟩)]] w (FoundT lf E w):=by
 have hm:=hs.max
 have hcap:=hs.cap
 have HIN:=hide hin
 clear hin
 go_enter Tryz.func283,Tryz.ntmps283
 go_wp2_with fail
 go_loopw [4,8] (fun q i wr=>∃k:Nat,k≤n∧q= .int .i64 0∧i= .int .i64 k∧Hid (∀(j:Nat) (p:Int),j<k→E[j]? =some p→wantB lf p=false)∧Ext w wr) (fun _ i _=>n-(intOf i).toNat)
 case atStart=>exact ⟨0,Nat.zero_le _,rfl,rfl,hide (fun j p hj=>absurd hj (by omega)),Ext.refl _⟩
 case round=>
  obtain ⟨k,hk,rfl,rfl,HK,hx⟩:=hrel
  by_cases hlt:k<n
  ·obtain ⟨bb,off,p,rfl,hbb,hxk,hc⟩:=(hs.ext hx).get hlt
   have hc0:=hc 0 _ rfl
   clear hc
   simp only [Nat.add_zero,Nat.mul_one] at hc0
   obtain ⟨y,rfl,hy⟩:=HIN.out p (List.mem_of_getElem? hxk)
   have HX:=hide hxk
   clear hxk
   have hbx:=h.ext hx
   cases hp:wantB lf (y:Int)
   ·go_wp2_with (go_at_call 284; refine (c_negIn b g gl n1 c4 lf y hy _ hbx).mono ?_; rw [hp]; rintro e w1 ⟨rfl,rfl⟩)
    go_roundw
    case rel=>
     refine ⟨k+1,by omega,rfl,by go_num,hide fun j q hj hq=> ?_,hx⟩
     by_cases e:j=k
     ·subst e; rw [HX.out] at hq; injection hq with hq; subst hq; exact hp
     ·exact HK.out j q (by omega) hq
    case measure=>simp [intOf]; omega
   ·go_wp2_with (go_at_call 284; refine (c_negIn b g gl n1 c4 lf y hy _ hbx).mono ?_; rw [hp]; rintro e w1 ⟨rfl,rfl⟩)
    go_ret
    exact ⟨k,rfl,hx,.inr ⟨k,y,rfl,HX.out,tgt_at HK.out HX.out hp⟩⟩
  ·go_wp2_with fail
   go_ret
   exact ⟨-1,rfl,hx,.inl ⟨rfl,tgt_no (fun j p hj hp=>HK.out j p (by have:=hs.len; omega) hp)⟩⟩
set_option maxHeartbeats 4000000 in
theorem c_sendOne (A1 A2:Option Addr) (n1 c1 n2 c2 c3 c4 g gf gl:Nat) (ps:List Pipe) (w:World) (hR:Row w g 233 [.slice A1 n1 c1,.slice A2 n2 c2,.slice (some ⟨gf,0,none⟩) n2 c3,.slice (some ⟨gl,0,none⟩) n1 c4]) (hs2:SliceOf w 5 Pipe.cells A2 n2 c2 ps) (m1:n1≤100000) (m2:n2≤100000) (hP:PipesN n1 ps) (hc3:n2≤c3) (hc3':c3≤100000) (s:Rst) (hM:RtM w gf gl n2 n1 s) (hgf:gf<w.heap.size) (hgl:gl<w.heap.size) (hI:RInv ps n1 s) (hsep:∀b,blkOf A2 n2=some b→¬Rtb gf gl b) (hg:¬Rtb gf gl g):
  Calls Tryz.prog 246 #[.pointer (some ⟨g,0,none⟩)] w (RetSend (oneS ps n1 s) gf gl n2 n1 w):=by
 have hx0:Ext w (w.alloc (.cells #[.pointer (some ⟨g,0,none⟩)] 230)):=Ext.alloc _ _
 have hB:=Row.new w 230 [.pointer (some ⟨g,0,none⟩)]
 have hgw:=hR.lt
 have hg1:g≠gf:=fun e=>hg (.inl e)
 have hg2:g≠gl:=fun e=>hg (.inr e)
 have HP:=hide hP
 have HI:=hide hI
 have HSEP:=hide hsep
 have HG:=hide hg
 have HLL:=hide hI.lf
 have hr3:=hR.cell 3
 have hbb:=hB.cell 0
 simp at hr3 hbb
 have hbl:=hB.lt
 clear hP hI hsep hg
 go_enter Tryz.func246,Tryz.ntmps246
 go_wp2_with fail
 clear hbb hbl
 go_loopw [2,14] (fun r i wr=>∃k:Nat,k≤n1∧r= .bool false∧i= .int .i64 k∧Hid (∀j,j<k→oneK ps n1 s j=none)∧Ext (w.alloc (.cells #[.pointer (some ⟨g,0,none⟩)] 230)) wr) (fun _ i _=>n1-(intOf i).toNat)
 case atStart=>exact ⟨0,Nat.zero_le _,rfl,rfl,hide (fun j hj=>absurd hj (by omega)),Ext.refl _⟩
 case round=>
  obtain ⟨k,hk,rfl,rfl,HN,hx⟩:=hrel
  have hX:=hx0.trans hx
  have hMr:=hM.ext hX
  by_cases hlt:k<n1
  ·obtain ⟨l,hl⟩:∃l,s.lf[k]? =some l:=⟨_,List.getElem?_eq_getElem (by rw [HLL.out]; exact hlt)⟩
   obtain ⟨hl1,hl2,hl3⟩:=hMr.l.getI hl
   have HL:=hide hl
   have HOK:Hid (oneK ps n1 s k=if 0<l then sendN ps n1 k s else none):=hide (by unfold oneK; rw [zAt_some hl])
   clear hl
   by_cases hl0:0<l
   ·rw [if_pos hl0] at HOK
    have hld:decide (l≤0)=false:=decide_eq_false (by omega)
    have hbl:=(hB.ext hx).lt
    have hbb:=(hB.ext hx).cell 0
    simp at hbb
    go_wp2_with fail
    refine (c_search A1 A2 (some ⟨gf,0,none⟩) (some ⟨gl,0,none⟩) n1 c1 n2 c2 c3 n1 c4 g ps s.fl _ (hR.ext hX) (hs2.ext hX) (hMr.f.slice intC_len hc3 (by omega)) (HI.out.flow HP.out) m1 m2 HP.out.ends k hlt).mono ?_
    rintro e w2 ⟨vo,ve,rfl,ho1,ho2,hx2⟩
    have hok:=rs_ok1 (s:=s) HP.out hlt
    obtain ⟨R,HRE⟩:∃R,Hid (rs ps n1 k s=R):=⟨_,hide rfl⟩
    rw [HRE.out] at hok
    rw [show srch ps (hasRm ps s.fl) n1 0 k=R from HRE.out] at ho1 ho2
    have hel:R.en.length=n1:=hok.el
    have hE24:R.E.length≤n1:=hok.le
    have HIN:=hide hok.inn
    obtain ⟨Ao,co,rfl,-⟩:=ho1.sl intC_len (by omega)
    obtain ⟨Ae,ce,rfl,-⟩:=ho2.sl intC_len (by omega)
    rw [hel] at ho2
    rw [hel]
    have HT1:Hid (∀z,tgt s.lf (rs ps n1 k s).E=some z→∃(t:Nat) (lt:Int) (L:List Stp),z=t∧Tgt ps n1 k s t l lt L):=hide (fun z hz=>tgt_of HI.out HP.out hlt HL.out hl0 hz)
    have HSN:Hid (sendN ps n1 k s=(tgt s.lf R.E).map (sendZ ps n1 k s)):=hide (by rw [←HRE.out]; rfl)
    clear hok hl1 hl2 hl3 hbb hbl hld
    obtain ⟨W2,HW2⟩:∃W2,Hid ((w2.alloc (.cells #[.slice Ao R.E.length co,.slice none 0 0,.slice Ae n1 ce] 301))=W2):=⟨_,hide rfl⟩
    have hV:Row W2 w2.heap.size 301 [.slice Ao R.E.length co,.slice none 0 0,.slice Ae n1 ce]:=by rw [←HW2.out]; exact Row.new w2 301 [.slice Ao R.E.length co,.slice none 0 0,.slice Ae n1 ce]
    have hx2':Ext w2 W2:=by rw [←HW2.out]; exact Ext.alloc _ _
    obtain ⟨gv,hgv⟩:∃gv,w2.heap.size=gv:=⟨_,rfl⟩
    have hgv2:wr.heap.size≤gv:=by rw [←hgv]; exact hx2.size
    go_wp2_with fail
    rw [HW2.out]
    rw [hgv] at hV
    have hx3:=hx.trans (hx2.trans hx2')
    have hX3:=hx0.trans hx3
    have ho1':=(ho1.ext hx2').slE intC_len (by omega)
    have ho2':=ho2.ext hx2'
    have hB3:=hB.ext hx3
    have hwz:=hx.size
    simp at hwz
    have hLI:LfIn W2 w.heap.size g gl n1 c4 s.lf:=by
     have h1:=hB3.cell 0
     have h2:=(hR.ext hX3).cell 3
     exact ⟨h1,hB3.lt,h2,(hR.ext hX3).lt,(hM.ext hX3).l⟩
    refine (c_IndexNeg Ao R.E.length co R.E w.heap.size g gl n1 c4 s.lf W2 ho1' HIN.out hLI).mono ?_
    rintro e w4 ⟨qi,rfl,hx4,⟨rfl,hno⟩ | ⟨kk,z,rfl,hkz,hyes⟩⟩
    ·have HO2:Hid (oneK ps n1 s k=none):=hide (by rw [HOK.out,HSN.out,hno]; rfl)
     clear hno
     go_wp2_with fail
     go_roundw
     case rel=>exact ⟨k+1,by omega,rfl,by go_num,hide (fun j hj=>by
      rcases Nat.lt_or_ge j k with h | h
      ·exact HN.out j h
      ·obtain rfl:j=k:=by omega
       exact HO2.out),hx3.trans hx4⟩
     case measure=>simp [intOf]; omega
    ·obtain ⟨t,lt,L,rfl,hTg⟩:=HT1.out z (by rw [HRE.out]; exact hyes)
     have HTG:=hide hTg
     have HYES:=hide hyes
     have htN:=hTg.tN
     have hlt0:=hTg.neg
     have hlb:=HI.out.lb lt (List.mem_of_getElem? hTg.ft)
     have hlbq:=HI.out.lb l (List.mem_of_getElem? HL.out)
     obtain ⟨am,HAM⟩:∃am,Hid (amtS ps s l lt L=am):=⟨_,hide rfl⟩
     have hab:=amtS_bd hTg HI.out hl0
     rw [HAM.out] at hab
     obtain ⟨a0,ha0⟩:∃a0,(if -lt<l then -lt else l)=a0:=⟨_,rfl⟩
     have e1:IntKind.i64.wrap (-lt)= -lt:=IntWalk.i64_in _ (by omega)
     have hX4:=hX3.trans hx4
     have hV4:=hV.ext hx4
     have hR4:=hR.ext hX4
     have hM4:=hM.ext hX4
     have hB4:=hB3.ext hx4
     have hS4:=hs2.ext hX4
     have ho4:=ho2'.ext hx4
     have hkl:kk<R.E.length:=(List.getElem?_eq_some_iff.1 hkz).1
     obtain ⟨bo,oo,zz,hAo,hbo,hok',hco⟩:=(ho1'.ext hx4).get hkl
     obtain rfl:zz=(t:Int):=by rw [hkz] at hok'; exact (Option.some.inj hok').symm
     have hco0:=hco 0 _ rfl
     simp only [Nat.add_zero,Nat.mul_one] at hco0
     obtain ⟨ht1,ht2,ht3⟩:=hM4.l.getI hTg.ft
     subst hAo
     have hq0:=hR4.cell 3
     have hq1:=hB4.cell 0
     have hv0:=hV4.cell 0
     have hv1:=hV4.cell 1
     have hv2:=hV4.cell 2
     simp at hq0 hq1 hv0 hv1 hv2
     have hgl4:=hR4.lt
     have hbl4:=hB4.lt
     have hvl4:=hV4.lt
     have hnk:decide ((kk:Int)<0)=false:=decide_eq_false (by omega)
     clear hTg hyes hok' hkz hco hLI hB3 hR hM ho1' ho2' hx4 hx3 hX3 hV hMr
     go_wp2_with fail
     refine wp_region_phC [(w.heap.size,0),(gv,0),(gv,1),(gv,2),(g,3),(gl,t)] [([0,1,2,3,4,5,9],6),([7,8,10,11,12,13],14)] [15] (by kernel_rfl) (by kernel_rfl) (by intro c a w d v h; cases d <;> exact h) ?_
     simp only [wpPhC,pickL,nthO]
     repeat (go_big_quiet_step (fail))
     refine wpQuiet_nil ?_
     go_wp2_with fail
     refine ⟨(SameC.refl _ _).drew,?_⟩
     repeat (go_big_quiet_step (fail))
     refine wpQuiet_nil ?_
     go_wp2_with fail
     have hxd:Ext w4 w4.drew:=(Ext.refl _).drew
     refine (c_send A1 A2 n1 c1 n2 c2 c3 c4 g gf gl ps _ (hR4.ext hxd) (hS4.ext hxd) HP.out hc3 hc3' s (hM4.ext hxd) HI.out HSEP.out HG.out (some ⟨bo,oo,none⟩) Ae R.E.length co ce wr.heap.size (by omega) (by omega) (show wr.heap.size≤w4.heap.size by omega) k t l lt a0 L hl0 HTG.out ha0 (by rw [HRE.out]; exact ho4.ext hxd)).mono ?_
     rw [HAM.out]
     rintro e w5 ⟨rfl,ht5,hM5⟩
     have htk:t≠k:=HTG.out.ne
     have hkt:k≠t:=fun h=>htk h.symm
     have hfn:∀b,b=w.heap.size∨b=gv∨b=g→b<w4.heap.size∧¬Rtb gf gl b:=by
      intro b hb
      refine ⟨by omega,?_⟩
      rintro (h | h) <;> omega
     have hsm:SameC [(w.heap.size,0),(gv,0),(gv,1),(gv,2),(g,3),(gl,t)] w4 w5:=by
      intro p hp
      simp only [List.mem_cons,List.not_mem_nil,or_false] at hp
      rcases hp with rfl | rfl | rfl | rfl | rfl | rfl
      ·exact ht5.cell (hfn _ (.inl rfl)).1 (hfn _ (.inl rfl)).2
      ·exact ht5.cell (hfn _ (.inr (.inl rfl))).1 (hfn _ (.inr (.inl rfl))).2
      ·exact ht5.cell (hfn _ (.inr (.inl rfl))).1 (hfn _ (.inr (.inl rfl))).2
      ·exact ht5.cell (hfn _ (.inr (.inl rfl))).1 (hfn _ (.inr (.inl rfl))).2
      ·exact ht5.cell (hfn _ (.inr (.inr rfl))).1 (hfn _ (.inr (.inr rfl))).2
      ·exact (hM5.l.getI HTG.out.ft).1.trans ht1.symm
     have HSM:=hide hsm
     have HONE:Hid (oneS ps n1 s=some ⟨addA ps am s.fl L,(s.lf.set k (l-am)).set t (lt+am)⟩):=hide (by
      rw [oneS_eq]
      exact find_some HN.out hlt (by rw [HOK.out,HSN.out,HYES.out,Option.map_some,HTG.out.send,HAM.out]))
     have b5:=(HSM.out (w.heap.size,0) (by simp)).trans hq1
     have g5:=(HSM.out (g,3) (by simp)).trans hq0
     have t5:=(HSM.out (gl,t) (by simp)).trans ht1
     simp only at b5 g5 t5
     obtain ⟨k5,f5,l5⟩:=hM5.l.getI HL.out
     obtain ⟨-,f6,-⟩:=hM5.l.getI HTG.out.ft
     have hz5:=ht5.size
     have hb5l:w.heap.size<w5.heap.size:=by have:=(hfn _ (.inl rfl)).1; exact Nat.lt_of_lt_of_le this hz5
     have hg5l:g<w5.heap.size:=by have:=(hfn _ (.inr (.inr rfl))).1; exact Nat.lt_of_lt_of_le this hz5
     have e2:IntKind.i64.wrap (l-am)=l-am:=IntWalk.i64_in _ (by omega)
     have e3:IntKind.i64.wrap (lt+am)=lt+am:=IntWalk.i64_in _ (by omega)
     have hne3:w.heap.size≠gl:=by omega
     have hM6:=(hM5.setL hlt (l-am)).setL htN (lt+am)
     have hT6:=(((Turn.of_ext (hX4.trans hxd)).trans ht5).setL (i:=k) (.int .i64 (l-am))).setL (i:=t) (.int .i64 (lt+am))
     clear hM5 ht5 hsm hq0 hq1 hv0 hv1 hv2 hgl4 hbl4 hvl4 ht1 ht2 ht3 hco0 hfn hR4 hM4 hB4 hS4 ho4 hV4 hbo ha0
     go_wp2_with fail
     refine ⟨HSM.out,?_⟩
     repeat (go_big_quiet_step (fail))
     refine wpQuiet_nil ?_
     go_wp2_with fail
     go_ret
     exact .inr ⟨_,HONE.out,rfl,hT6,hM6⟩
   ·rw [if_neg hl0] at HOK
    have hld:decide (l≤0)=true:=decide_eq_true (by omega)
    go_wp2_with fail
    go_roundw
    case rel=>exact ⟨k+1,by omega,rfl,by go_num,hide (fun j hj=>by
     rcases Nat.lt_or_ge j k with h | h
     ·exact HN.out j h
     ·obtain rfl:j=k:=by omega
      exact HOK.out),hx⟩
    case measure=>simp [intOf]; omega
  ·obtain rfl:k=n1:=by omega
   have hno:oneS ps k s=none:=by rw [oneS_eq]; exact find_none HN.out
   have HNO:=hide hno
   clear hno
   go_wp2_with fail
   go_ret
   exact .inl ⟨HNO.out,rfl,hX⟩
end Go.Proofs.YtfkpghdmljjegaaGreat
