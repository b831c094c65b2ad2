/-
  Allocating, of the program.
-/
import Derived.Test.YtfkpghdmljjegaaGreatVe40
import Derived.Test.YtfkpghdmljjegaaGreatVe28
import Derived.Test.YtfkpghdmljjegaaGreatVe01
namespace Go.Proofs.YtfkpghdmljjegaaGreat
open Go.RowKit
theorem intw_info:(Tryz.prog.info? 3).map (fun i=>(i.zero,i.size,i.bytes))=some (some (.int .i64 0),1,8):=by kernel_rfl
theorem new_intw (W:World) (g:Nat) (y:Int) (hg:g=W.heap.size):SliceOf (W.alloc (.cells #[.int .i64 y] 3)) 1 intC (some ⟨g,0,none⟩) 1 1 [y]:=by
 subst hg
 have h:RowOf (W.alloc (.cells #[.int .i64 y] 3)) W.heap.size 3 intC [y]:=Row.new W 3 [.int .i64 y]
 exact h.slice intC_len rfl (by omega)
theorem SliceOf.farG {α:Type} {w:World} {size:Nat} {f:α→List Value} {A:Option Addr} {n c:Nat} {xs:List α} (h:SliceOf w size f A n c xs) {p:Addr} (hp:∀b,blkOf A n=some b→p.block<b) (u:Value):SliceOf (w.setCell p u) size f A n c xs:=by
 refine h.turn (S:=fun b=>b=p.block) ⟨rfl,rfl,rfl,by simp,fun k _ hk=>Below.heap_setCell w p u k hk⟩ (fun b hb e=>by have:=hp b hb; omega)
theorem OwnL.blkG {α:Type} {w:World} {base:Nat} {e:TypeId} {size:Nat} {f:α→List Value} {A:Option Addr} {n c:Nat} {L:List α} (h:OwnL w base e size f (.slice A n c) L):∀b,blkOf A n=some b→base≤b:=by
 intro b hb
 unfold blkOf at hb
 split at hb
 ·cases hb
 ·cases A with
  | none=>cases hb
  | some a=>exact h.block_le (k:=b) (by simpa [Value.ownBlock] using hb)
theorem pick_mem {m:List Bool} {l:List Int} {z:Int} (h:z∈pickM m l):z∈l:=by
 obtain ⟨j,hj⟩:=List.getElem?_of_mem h
 obtain ⟨i,_,h2,_⟩:=pick_from hj
 exact List.mem_of_getElem? h2
structure PwSt (w wr:World) (vp vw:Value) (p ws:List Int):Prop where
 op:OwnL wr w.heap.size 3 1 intC vp p
 ow:OwnL wr w.heap.size 2 1 intC vw ws
 ext:Ext w wr
section
variable {w wr wr' W:World} {vp vw v':Value} {p ws:List Int}
theorem PwSt.more (h:PwSt w wr vp vw p ws) (hx:Ext wr wr'):PwSt w wr' vp vw p ws:=⟨h.op.ext hx,h.ow.ext hx,h.ext.trans hx⟩
theorem PwSt.appP (h:PwSt w wr vp vw p ws) (hx:Ext wr W) {p':List Int} (ho:OwnL wr' w.heap.size 3 1 intC v' p') (hg:W.grownBy wr' vp.ownBlock):PwSt w wr' v' vw p' ws:=
 ⟨ho,(h.ow.ext hx).grown hg (fun k hk=>(h.op.apart h.ow (by decide)) k hk),(h.ext.trans hx).grown hg (fun k hk=>h.op.block_le hk)⟩
theorem PwSt.appW (h:PwSt w wr vp vw p ws) (hx:Ext wr W) {ws':List Int} (ho:OwnL wr' w.heap.size 2 1 intC v' ws') (hg:W.grownBy wr' vw.ownBlock):PwSt w wr' vp v' p ws':=
 ⟨(h.op.ext hx).grown hg (fun k hk=>(h.ow.apart h.op (by decide)) k hk),ho,(h.ext.trans hx).grown hg (fun k hk=>h.ow.block_le hk)⟩
end
def RetAg (os:List Order) (rs:List Reading) (w:World) (e:Ending) (w':World):Prop:=
 ∃v g,e= .returned v∧OwnL w' w.heap.size 2 1 intC v g∧Hid (Alloc os (List.replicate os.length 0) rs g∧Bd 60000 g∧g.length=os.length)∧Ext w w'
theorem Laid.bd {os:List Order} {x:Reading} {s:Int} {shf g g2:List Int} (h:Laid (marks os x) s shf g shf.length g2) (hg:g.length=os.length) (hl:shf.length=(pickM (marks os x) (wts os x)).length) (hb:Bd 60000 g) (hsb:∀y∈shf,0≤y∧y≤60000) (hs:s=1∨s= -1):Bd 60000 g2:=by
 intro y hy
 obtain ⟨i,hi⟩:=List.getElem?_of_mem hy
 have hil:i<os.length:=by have:=(List.getElem?_eq_some_iff.1 hi).1; rw [h.len,hg] at this; exact this
 cases hm:(marks os x)[i]? with
 | none=>rw [List.getElem?_eq_none_iff,marks_len] at hm; omega
 | some c=>
  cases c with
  | false=>rw [h.no i hm] at hi; exact hb y (List.mem_of_getElem? hi)
  | true=>
   obtain ⟨v,hv,h2⟩:=h.yes i hm (by rw [hl]; exact rank_count (by simp [marks,wts]) hm)
   rw [h2] at hi
   obtain rfl:=Option.some.inj hi
   have:=hsb v (List.mem_of_getElem? hv)
   rcases hs with rfl | rfl <;> omega
set_option maxHeartbeats 1000000 in
theorem c_allocated (A:Option Addr) (n c:Nat) (os:List Order) (B:Option Addr) (m d:Nat) (rs:List Reading) (w:World) (hs:SliceOf w 4 Order.cells A n c os) (hr:SliceOf w 2 Reading.cells B m d rs) (hn:n≤40) (hm:m≤48) (ha:Amt os) (hrd:Rdg rs) (hsep:Sep rs):
  Calls Tryz.prog 199 #[.slice A n c,.slice B m d] w (RetAg os rs w):=by
 have HL:=hide hs.len
 have HM:=hide hr.len
 have HA:=hide ha
 have HR:=hide hrd
 have HSEP:=hide hsep
 clear ha hrd hsep
 have hmk:=fun W=>run_make_flat (P:=Tryz.prog) 24 2 _ _ 1 8 Tryz.underlying24 int_info (f:=intC) 0 rfl rfl rfl (by omega) n (by omega) (by omega) W
 have hG0:OwnL (w.alloc (.cells ((List.replicate n (0:Int)).flatMap intC).toArray 2)) w.heap.size 2 1 intC (.slice (some ⟨w.heap.size,0,none⟩) n n) (List.replicate n 0):=own_rep w w.heap.size _ n rfl (Nat.le_refl _) (by omega)
 have hx00:Ext w (w.alloc (.cells ((List.replicate n (0:Int)).flatMap intC).toArray 2)):=Ext.alloc _ _
 have hb0:Bd 0 (List.replicate n 0):=fun y hy=>by have:=List.eq_of_mem_replicate hy; omega
 go_enter Tryz.func199,Tryz.ntmps199
 go_wp2_with fail
 clear hmk
 go_loopw [20] (fun i wr=>∃(k:Nat) (g:List Int),k≤m∧i= .int .i64 k∧g.length=n∧OwnL wr w.heap.size 2 1 intC (.slice (some ⟨w.heap.size,0,none⟩) n n) g∧Ext w wr∧Hid (∀g',Alloc os g (rs.drop k) g'→Alloc os (List.replicate os.length 0) rs g')∧Hid (Free os rs k g)∧Hid (Bd 60000 g)) (fun i _=>m-(intOf i).toNat)
 case atStart=>exact ⟨0,List.replicate n 0,Nat.zero_le _,rfl,by simp,hG0,hx00,hide (fun g' h=>by rw [←HL.out]; exact h),hide (by rw [HL.out]; exact Free.start os rs),hide (hb0.mono (by omega))⟩
 case round=>
  clear hG0 hb0 hx00
  obtain ⟨k,g,hk,rfl,hgl,hG,hx,HAl,HFr,HBd⟩:=hrel
  have hwz:=hx.size
  by_cases hlt:k<m
  ·obtain ⟨b,off,x,rfl,hbb,hxk,hc⟩:=hr.get hlt
   have j0w:=hc 0 _ rfl
   have j1w:=hc 1 _ rfl
   simp only [Nat.add_zero] at j0w
   have HX:=hide hxk
   have hxb:=HR.out x (List.mem_of_getElem? hxk)
   clear hc hxk
   have j0:=(hx.cell _ _ hbb).trans j0w
   have j1:=(hx.cell _ _ hbb).trans j1w
   have hbw:b<wr.heap.size:=by omega
   have hXB:=Row.new wr 176 [.int .i64 x.node,.int .i64 x.amount]
   obtain ⟨w1,HW1⟩:∃w1,Hid (wr.alloc (.cells #[.int .i64 x.node,.int .i64 x.amount] 176)=w1):=⟨_,hide rfl⟩
   rw [HW1.out] at hXB
   have hx1:Ext wr w1:=by rw [←HW1.out]; exact Ext.alloc _ _
   have hxw1:=hx.trans hx1
   have hG1:=hG.ext hx1
   clear hG
   go_wp2_with fail
   rw [HW1.out]
   generalize wr.heap.size=XB at *
   have hP0:PwSt w1 w1 (.slice none 0 0) (.slice none 0 0) [] []:=⟨OwnL.nil_ _ _ _ _ _,OwnL.nil_ _ _ _ _ _,Ext.refl _⟩
   have hb7:XB<w1.heap.size:=hXB.lt
   go_loopw [8,9,26] (fun u v i w2=>∃(q:Nat) (p ws:List Int),q≤n∧i= .int .i64 q∧PwSt w1 w2 u v p ws∧p.length≤q∧ws.length≤q∧Hid (p=posM 0 (marks (os.take q) x))∧Hid (ws=pickM (marks (os.take q) x) (wts (os.take q) x))) (fun _ _ i _=>n-(intOf i).toNat)
   case atStart=>exact ⟨0,[],[],Nat.zero_le _,rfl,hP0,Nat.le_refl _,Nat.le_refl _,hide rfl,hide rfl⟩
   case round=>
    clear hP0
    obtain ⟨q,p,ws,hq,rfl,hP,hpl,hwl,HP,HWS⟩:=hrel
    have hwz2:=hP.ext.size
    by_cases hlq:q<n
    ·obtain ⟨b2,off2,o,rfl,hbb2,hoq,hc⟩:=hs.get hlq
     have o0w:=hc 0 _ rfl
     have o1w:=hc 1 _ rfl
     have o2w:=hc 2 _ rfl
     have o3w:=hc 3 _ rfl
     simp only [Nat.add_zero] at o0w
     have hxx:=hxw1.trans hP.ext
     have o0:=(hxx.cell _ _ hbb2).trans o0w
     have o1:=(hxx.cell _ _ hbb2).trans o1w
     have o2:=(hxx.cell _ _ hbb2).trans o2w
     have o3:=(hxx.cell _ _ hbb2).trans o3w
     have x0:=(hXB.ext hP.ext).cell 0
     have x1:=(hXB.ext hP.ext).cell 1
     simp at x0 x1
     have hb7':XB<wr.heap.size:=by omega
     have hob:=HA.out o (List.mem_of_getElem? hoq)
     have HPT:=hide (places_take (x:=x) hoq)
     have HWT:=hide (weights_take (x:=x) hoq)
     clear o0w o1w o2w o3w hc hoq
     go_wp2_with fail
     have hOB:=Row.new wr 199 [.int .i64 o.shipper,.int .i64 o.node,.int .i64 o.amount,.int .i64 o.cls]
     have hx2:Ext wr (wr.alloc (.cells #[.int .i64 o.shipper,.int .i64 o.node,.int .i64 o.amount,.int .i64 o.cls] 199)):=Ext.alloc _ _
     refine (c_matches o x _).mono ?_
     cases hmt:matchB x o
     ·rintro e w3 ⟨rfl,hx3⟩
      rw [hmt] at HPT HWT
      have hP3:=(hP.more hx2).more hx3
      have HP3:=hide (show p=posM 0 (marks (os.take (q+1)) x) by rw [HPT.out,if_neg (by decide),List.append_nil]; exact HP.out)
      have HW3:=hide (show ws=pickM (marks (os.take (q+1)) x) (wts (os.take (q+1)) x) by rw [HWT.out,if_neg (by decide),List.append_nil]; exact HWS.out)
      go_wp2_with fail
      go_roundw
      case rel=>exact ⟨q+1,p,ws,by omega,by go_num,hP3,by omega,by omega,HP3,HW3⟩
      case measure=>simp [intOf]; omega
     ·rintro e w3 ⟨rfl,hx3⟩
      rw [hmt] at HPT HWT
      have hP3:=(hP.more hx2).more hx3
      have hOB3:=hOB.ext hx3
      have hOBl:=hOB3.lt
      have hne8:∀k,u8.ownBlock=some k→k≠wr.heap.size:=fun k hk=>by have:=(hP.op.ltG hk).2; omega
      have hwz3:=hP3.ext.size
      rw [if_pos rfl] at HPT HWT
      generalize wr.heap.size=OB at *
      clear hP hOB hXB o0 o1 o2 o3 x0 x1
      go_wp2_with (at_builtin; go_must (refine wpList_append_where rfl _ _ 278 rfl w1.heap.size 3 _ 1 8 Tryz.underlying278 intw_info rfl (by decide) intC intC_len int_one' _ p rfl (hP3.op.ext (Ext.alloc _ _)) w3.heap.size 0 1 1 [(q:Int)] rfl (new_intw w3 _ _ rfl) (by omega) (by omega) (by have:=hP3.ext.size; simp; omega) ?_))
      intro v4 w4 ho4 hg4 hb4
      have hP4:=hP3.appP (Ext.alloc _ _) ho4 hg4
      have c2:=((hOB3.ext (Ext.alloc _ _)).grown hg4 (fun e=>hne8 _ e rfl)).cell 2
      simp at c2
      have hOB4:OB<w4.heap.size:=((hOB3.ext (Ext.alloc _ _)).grown hg4 (fun e=>hne8 _ e rfl)).lt
      rw [←HP.out] at HPT
      rw [←HWS.out] at HWT
      rw [←HPT.out] at hP4
      clear hP3 ho4 hg4 hb4 hOB3
      go_wp2_with fail
      refine (c_absOf o.amount w4 (by omega) (by omega)).mono ?_
      rintro e w' ⟨rfl,rfl⟩
      have HABS:=hide (absI_le hob.1 hob.2)
      generalize absI o.amount=ao at *
      go_wp2_with (at_builtin; go_must (refine wpList_append_where rfl _ _ 24 rfl w1.heap.size 2 _ 1 8 Tryz.underlying24 int_info rfl (by decide) intC intC_len int_one' _ ws rfl (hP4.ow.ext (Ext.alloc _ _)) w4.heap.size 0 1 1 [ao] rfl (new_int w4 _ _ rfl) (by omega) (by omega) (by have:=hP4.ext.size; simp; omega) ?_))
      intro v5 w5 ho5 hg5 hb5
      have hP5:=hP4.appW (Ext.alloc _ _) ho5 hg5
      rw [←HWT.out] at hP5
      clear hP4 ho5 hg5 hb5
      have hl1:(posM 0 (marks (os.take (q+1)) x)).length≤q+1:=by rw [HPT.out]; simp; omega
      have hl2:(pickM (marks (os.take (q+1)) x) (wts (os.take (q+1)) x)).length≤q+1:=by rw [HWT.out]; simp; omega
      have HL1:=hide hl1
      have HL2:=hide hl2
      clear hl1 hl2
      go_wp2_with fail
      go_roundw
      case rel=>exact ⟨q+1,_,_,by omega,by go_num,hP5,HL1.out,HL2.out,hide rfl,hide rfl⟩
      case measure=>simp [intOf]; omega
    ·obtain rfl:n=q:=by omega
     have HTK:=hide (show os.take n=os by rw [HL.out,List.take_length])
     rw [HTK.out] at HP HWS
     have hxx:=hxw1.trans hP.ext
     have hG2:=hG1.ext hP.ext
     have x1:=(hXB.ext hP.ext).cell 1
     simp at x1
     have hb7':XB<wr.heap.size:=by omega
     obtain ⟨Ap,cp,rfl,hsp⟩:=hP.op.sl intC_len (by omega)
     obtain ⟨Aw,cw,rfl,hsw⟩:=hP.ow.sl intC_len (by omega)
     have HBP:=hide (show ∀b,blkOf Ap p.length=some b→w.heap.size<b from fun b hb=>by have:=hP.op.blkG b hb; omega)
     clear hG1 hXB hP
     rcases Nat.eq_zero_or_pos p.length with hp0 | hp0
     ·have hpe:((p.length:Int)==0)=true:=by rw [beq_iff_eq]; omega
      have HZ:=hide (pos_nil (os:=os) hxb.2 (by rw [←HP.out]; exact List.length_eq_zero_iff.1 hp0))
      go_wp2_with fail
      case roundEnd=>
       refine ⟨⟨k+1,g,by omega,by go_num,hgl,hG2,hxx,hide (fun g' h=>HAl.out g' (by rw [drop_atA HX.out]; exact Alloc.skip HZ.out h)),hide HFr.out.skip,HBd⟩,?_⟩
       simp [intOf]; omega
     ·have hpe:((p.length:Int)==0)=false:=by rw [beq_eq_false_iff_ne]; omega
      have HPS:=hide (pos_some (os:=os) (x:=x) (by rw [←HP.out]; intro h; rw [h] at hp0; exact absurd hp0 (Nat.lt_irrefl 0)))
      rw [←HWS.out] at HPS
      have HWB:=hide (show ∀z∈ws,0≤z∧z≤30000 from fun z hz=>by
       rw [HWS.out] at hz
       obtain ⟨o,ho,rfl⟩:=List.mem_map.1 (pick_mem hz)
       exact wt_bd (HA.out o ho))
      have HPW:=hide (show p.length=ws.length by rw [HP.out,HWS.out]; exact pos_len (by simp [marks,wts]))
      have hta:0≤absI x.amount∧absI x.amount≤30000:=absI_le hxb.1.1 hxb.1.2
      have HTA:=hide (abs_eq x.amount)
      by_cases hneg:x.amount<0
      ·have HSG:=hide (show sgn x= -1 by unfold sgn; rw [if_pos hneg])
       go_wp2_with fail
       refine (c_absOf x.amount _ (by omega) (by omega)).mono ?_
       rintro e w' ⟨rfl,rfl⟩
       generalize absI x.amount=t at *
       go_wp2_with fail
       refine (c_sharesOf Aw ws.length cw ws t _ hsw ⟨hta,HWB.out,by omega,HPS.out.2⟩).mono ?_
       rintro e w6 ⟨v6,sh,rfl,ho6,HSH,hx6⟩
       obtain ⟨A6,c6,rfl,hs6⟩:=ho6.sl intC_len (by omega)
       have hb6:∀b,blkOf A6 sh.length=some b→w.heap.size<b:=fun b hb=>by have:=ho6.blkG b hb; omega
       have hsp6:=hsp.ext hx6
       have hG6:=hG2.ext hx6
       have hxx6:=hxx.trans hx6
       clear hG2 ho6
       have HSL:=hide (show sh.length=p.length by rw [HSH.out.1.len]; exact HPW.out.symm)
       go_wp2_with fail
       go_loopw [57] (fun i w7=>∃(j:Nat) (g2:List Int),j≤sh.length∧i= .int .i64 j∧g2.length=n∧OwnL w7 w.heap.size 2 1 intC (.slice (some ⟨w.heap.size,0,none⟩) n n) g2∧SliceOf w7 1 intC Ap p.length cp p∧SliceOf w7 1 intC A6 sh.length c6 sh∧Ext w w7∧Hid (Laid (marks os x) (-1) sh g j g2)) (fun i _=>sh.length-(intOf i).toNat)
       case atStart=>exact ⟨0,g,Nat.zero_le _,rfl,hgl,hG6,hsp6,hs6,hxx6,hide (Laid.start _ _ _ _)⟩
       case round=>
        clear hG6 hsp6 hs6 hxx6
        obtain ⟨j,g2,hj,rfl,hg2,hG7,hp7,hs7,hx7,HLD⟩:=hrel
        have hwz7:=hx7.size
        by_cases hj7:j<sh.length
        ·have hjp:j<p.length:=by rw [←HSL.out]; exact hj7
         obtain ⟨pb,pf,pz,hAp,hpb,hpz,hpc⟩:=hp7.get hjp
         have hpc0:=hpc 0 _ rfl
         obtain ⟨sb,sf,y,hA6,hsb7,hyz,hyc⟩:=hs7.get hj7
         have hyc0:=hyc 0 _ rfl
         simp only [Nat.add_zero,Nat.mul_one] at hpc0 hyc0
         have hyb:=HSH.out.2 y (List.mem_of_getElem? hyz)
         obtain ⟨pn,hpe2,hpm,hpr⟩:=pos_at (by rw [←HP.out]; exact hpz)
         rw [Nat.zero_add] at hpe2
         subst hpe2
         have hpn:pn<n:=by have:=(List.getElem?_eq_some_iff.1 hpm).1; rw [marks_len, ←HL.out] at this; exact this
         have HN:=hide (HLD.out.next hpm hpr hyz (by omega))
         obtain ⟨y0,hy0⟩:∃y0,g2[pn]? =some y0:=⟨_,List.getElem?_eq_getElem (by omega)⟩
         obtain ⟨G,hGA,hnn,hGb,hGl,hGf,hGc,hG8⟩:=hG7.setOne intC_len (k:=pn) (j:=0) (y:=(-1)*y) (u:= .int .i64 ((-1)*y)) hy0 (by omega) rfl
         injection hGA with hGA
         injection hGA with hGA _ _
         subst hGA
         have hgc0:=hGc 0 _ rfl
         simp only [Nat.add_zero,Nat.mul_one] at hgc0 hG8
         have e1:IntKind.i64.wrap ((-1)*y)=(-1)*y:=IntWalk.i64_in _ (by omega)
         have HB6:=hide hb6
         have HSW:=hide hsw
         have HG8:=hide hG8
         have hvl:(-1)*y= -y:=by omega
         rw [hvl] at HG8 HN
         have hp8:=hp7.farG (p:=⟨w.heap.size,pn,none⟩) HBP.out (.int .i64 (-y))
         have hs8:=hs7.farG (p:=⟨w.heap.size,pn,none⟩) hb6 (.int .i64 (-y))
         have hx8:=hx7.setCell (p:=⟨w.heap.size,pn,none⟩) (Nat.le_refl _) (.int .i64 (-y))
         have HP8:=hide hp8
         have HS8:=hide hs8
         have HX8:=hide hx8
         clear hp8 hs8 hx8 hvl
         have HSP:=hide hsp
         clear hpc hyc hpz hyz hpm hpr hGc hb6 hsw hG8 hsp hy0 hGb hpe hq hlq x1 hG7 hnn
         subst hAp hA6
         go_wp2_with fail
         case roundEnd=>
          refine ⟨⟨j+1,_,by omega,by go_num,by rw [List.length_set]; exact hg2,HG8.out,HP8.out,HS8.out,HX8.out,HN⟩,?_⟩
          simp [intOf]; omega
        ·obtain rfl:sh.length=j:=by omega
         rw [←HSG.out] at HLD
         have HST:=hide (HLD.out.step HFr.out HSEP.out HX.out hxb.2 (by rw [hgl]; exact HL.out) HPS.out.1 (by rw [←HTA.out, ←HWS.out]; exact HSH.out.1))
         have HB3:=hide (HLD.out.bd (by rw [hgl]; exact HL.out) (by rw [←HWS.out]; exact HSH.out.1.len) HBd.out HSH.out.2 (by rw [HSG.out]; decide))
         have HA3:=hide (fun (g':List Int) (h:Alloc os g2 (rs.drop (k+1)) g')=>HAl.out g' (by obtain ⟨⟨s0,hs0,he0⟩,_⟩:=HST.out; rw [drop_atA HX.out]; exact Alloc.add HPS.out.1 hs0 (by rw [←he0]; exact h)))
         have HG7:=hide hG7
         have HX7:=hide hx7
         clear hsp hsw hp7 hs7 hx7 hG7 hb6
         go_wp2_with fail
         case roundEnd=>
          refine ⟨⟨k+1,g2,by omega,by go_num,hg2,HG7.out,HX7.out,HA3,hide HST.out.2,HB3⟩,?_⟩
          simp [intOf]; omega
      ·have HSG:=hide (show sgn x=1 by unfold sgn; rw [if_neg hneg])
       go_wp2_with fail
       refine (c_absOf x.amount _ (by omega) (by omega)).mono ?_
       rintro e w' ⟨rfl,rfl⟩
       generalize absI x.amount=t at *
       go_wp2_with fail
       refine (c_sharesOf Aw ws.length cw ws t _ hsw ⟨hta,HWB.out,by omega,HPS.out.2⟩).mono ?_
       rintro e w6 ⟨v6,sh,rfl,ho6,HSH,hx6⟩
       obtain ⟨A6,c6,rfl,hs6⟩:=ho6.sl intC_len (by omega)
       have hb6:∀b,blkOf A6 sh.length=some b→w.heap.size<b:=fun b hb=>by have:=ho6.blkG b hb; omega
       have hsp6:=hsp.ext hx6
       have hG6:=hG2.ext hx6
       have hxx6:=hxx.trans hx6
       clear hG2 ho6
       have HSL:=hide (show sh.length=p.length by rw [HSH.out.1.len]; exact HPW.out.symm)
       go_wp2_with fail
       go_loopw [57] (fun i w7=>∃(j:Nat) (g2:List Int),j≤sh.length∧i= .int .i64 j∧g2.length=n∧OwnL w7 w.heap.size 2 1 intC (.slice (some ⟨w.heap.size,0,none⟩) n n) g2∧SliceOf w7 1 intC Ap p.length cp p∧SliceOf w7 1 intC A6 sh.length c6 sh∧Ext w w7∧Hid (Laid (marks os x) (1) sh g j g2)) (fun i _=>sh.length-(intOf i).toNat)
       case atStart=>exact ⟨0,g,Nat.zero_le _,rfl,hgl,hG6,hsp6,hs6,hxx6,hide (Laid.start _ _ _ _)⟩
       case round=>
        clear hG6 hsp6 hs6 hxx6
        obtain ⟨j,g2,hj,rfl,hg2,hG7,hp7,hs7,hx7,HLD⟩:=hrel
        have hwz7:=hx7.size
        by_cases hj7:j<sh.length
        ·have hjp:j<p.length:=by rw [←HSL.out]; exact hj7
         obtain ⟨pb,pf,pz,hAp,hpb,hpz,hpc⟩:=hp7.get hjp
         have hpc0:=hpc 0 _ rfl
         obtain ⟨sb,sf,y,hA6,hsb7,hyz,hyc⟩:=hs7.get hj7
         have hyc0:=hyc 0 _ rfl
         simp only [Nat.add_zero,Nat.mul_one] at hpc0 hyc0
         have hyb:=HSH.out.2 y (List.mem_of_getElem? hyz)
         obtain ⟨pn,hpe2,hpm,hpr⟩:=pos_at (by rw [←HP.out]; exact hpz)
         rw [Nat.zero_add] at hpe2
         subst hpe2
         have hpn:pn<n:=by have:=(List.getElem?_eq_some_iff.1 hpm).1; rw [marks_len, ←HL.out] at this; exact this
         have HN:=hide (HLD.out.next hpm hpr hyz (by omega))
         obtain ⟨y0,hy0⟩:∃y0,g2[pn]? =some y0:=⟨_,List.getElem?_eq_getElem (by omega)⟩
         obtain ⟨G,hGA,hnn,hGb,hGl,hGf,hGc,hG8⟩:=hG7.setOne intC_len (k:=pn) (j:=0) (y:=(1)*y) (u:= .int .i64 ((1)*y)) hy0 (by omega) rfl
         injection hGA with hGA
         injection hGA with hGA _ _
         subst hGA
         have hgc0:=hGc 0 _ rfl
         simp only [Nat.add_zero,Nat.mul_one] at hgc0 hG8
         have e1:IntKind.i64.wrap ((1)*y)=(1)*y:=IntWalk.i64_in _ (by omega)
         have HB6:=hide hb6
         have HSW:=hide hsw
         have HG8:=hide hG8
         have hvl:(1)*y=y:=by omega
         rw [hvl] at HG8 HN
         have hp8:=hp7.farG (p:=⟨w.heap.size,pn,none⟩) HBP.out (.int .i64 (y))
         have hs8:=hs7.farG (p:=⟨w.heap.size,pn,none⟩) hb6 (.int .i64 (y))
         have hx8:=hx7.setCell (p:=⟨w.heap.size,pn,none⟩) (Nat.le_refl _) (.int .i64 (y))
         have HP8:=hide hp8
         have HS8:=hide hs8
         have HX8:=hide hx8
         clear hp8 hs8 hx8 hvl
         have HSP:=hide hsp
         clear hpc hyc hpz hyz hpm hpr hGc hb6 hsw hG8 hsp hy0 hGb hpe hq hlq x1 hG7 hnn
         subst hAp hA6
         go_wp2_with fail
         case roundEnd=>
          refine ⟨⟨j+1,_,by omega,by go_num,by rw [List.length_set]; exact hg2,HG8.out,HP8.out,HS8.out,HX8.out,HN⟩,?_⟩
          simp [intOf]; omega
        ·obtain rfl:sh.length=j:=by omega
         rw [←HSG.out] at HLD
         have HST:=hide (HLD.out.step HFr.out HSEP.out HX.out hxb.2 (by rw [hgl]; exact HL.out) HPS.out.1 (by rw [←HTA.out, ←HWS.out]; exact HSH.out.1))
         have HB3:=hide (HLD.out.bd (by rw [hgl]; exact HL.out) (by rw [←HWS.out]; exact HSH.out.1.len) HBd.out HSH.out.2 (by rw [HSG.out]; decide))
         have HA3:=hide (fun (g':List Int) (h:Alloc os g2 (rs.drop (k+1)) g')=>HAl.out g' (by obtain ⟨⟨s0,hs0,he0⟩,_⟩:=HST.out; rw [drop_atA HX.out]; exact Alloc.add HPS.out.1 hs0 (by rw [←he0]; exact h)))
         have HG7:=hide hG7
         have HX7:=hide hx7
         clear hsp hsw hp7 hs7 hx7 hG7 hb6
         go_wp2_with fail
         case roundEnd=>
          refine ⟨⟨k+1,g2,by omega,by go_num,hg2,HG7.out,HX7.out,HA3,hide HST.out.2,HB3⟩,?_⟩
          simp [intOf]; omega
  ·obtain rfl:m=k:=by omega
   have HDr:=hide (show rs.drop m=[] by rw [HM.out,List.drop_length])
   have HF:=hide (HAl.out g (by rw [HDr.out]; exact Alloc.nil g))
   go_wp2_with fail
   go_ret
   exact ⟨_,g,rfl,hG,hide ⟨HF.out,HBd.out,by rw [←HL.out]; exact hgl⟩,hx⟩
end Go.Proofs.YtfkpghdmljjegaaGreat
