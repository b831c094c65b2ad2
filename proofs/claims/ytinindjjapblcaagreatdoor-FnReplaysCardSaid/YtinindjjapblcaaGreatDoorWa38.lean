/-
  Reading an event, of the reference.
-/
import Derived.Test.YtinindjjapblcaaGreatDoorWa36
import Derived.Test.YtinindjjapblcaaGreatDoorWa37
namespace Go.Proofs.YtinindjjapblcaaGreatDoor
open Go.RowKit
open Go.Lib hiding intOf
def LineOf (l:List UInt8) (K:Event→Prop):Prop:=∀e x,evB e=true→0≤x→x<99991→l=lineL e x→K e
def ReadPost (l:List UInt8) (w:World) (e:Ending) (w':World):Prop:=∃p:Event,e= .returned (.agg #[.int .i64 p.kind,.int .i64 p.a,.int .i64 p.b,.int .i64 p.c,.int .i64 p.d])∧LineOf l (fun q=>p=q)∧Ext w w'
theorem intC_one (y:Int):∀u∈intC y,u.oneCell'=true:=by intro u hu; simp [intC] at hu; subst hu; rfl
def valsE (e:Event):List Int:=[e.a,e.b,e.c,e.d]
theorem line_words {l:List UInt8} {e:Event} {x:Int} (h:l=lineL e x):splitL 32 l=evWord e.kind::((valsE e).map itoa++[itoa (sumE e x)]):=by
 rw [h,lineL_split]; rfl
theorem word_num {wd:List UInt8} {z:Int} (h:wd=itoa z):(z<0∧wd=45::decDigits z.natAbs)∨(0≤z∧wd=decDigits z.toNat):=by
 unfold itoa at h
 split at h
 ·exact .inl ⟨by assumption,h⟩
 ·exact .inr ⟨by omega,h⟩
theorem head_not (z:Nat) (r:List UInt8):decDigits z≠45::r:=by
 intro h
 have:=decDigits_digit (z+1) z (Nat.lt_succ_self _) 45 (by rw [h]; simp)
 have e:(45:UInt8).toNat=45:=rfl
 omega
theorem num_minus {r:List UInt8} {n:Int} (hv:∀m:Nat,m≤30000→r=decDigits m→n=m) {z:Int} (h0: -30000≤z) (h1:z≤30000) (h:45::r=itoa z): -n=z:=by
 rcases word_num h with ⟨hz,hw⟩ | ⟨hz,hw⟩
 ·have h3:=hv z.natAbs (by omega) (by injection hw)
  omega
 ·exact absurd hw.symm (head_not _ _)
theorem no_minus {r:List UInt8} (hv:∀m:Nat,m≤30000→r≠decDigits m) {z:Int} (h0: -30000≤z) (h:45::r=itoa z):False:=by
 rcases word_num h with ⟨hz,hw⟩ | ⟨hz,hw⟩
 ·exact hv z.natAbs (by omega) (by injection hw)
 ·exact absurd hw.symm (head_not _ _)
theorem num_plus {wd:List UInt8} {n:Int} (hne:∀r,wd≠45::r) (hv:∀m:Nat,m≤30000→wd=decDigits m→n=m) {z:Int} (h1:z≤30000) (h:wd=itoa z):n=z:=by
 rcases word_num h with ⟨hz,hw⟩ | ⟨hz,hw⟩
 ·exact absurd hw (hne _)
 ·have h3:=hv z.toNat (by omega) hw
  omega
theorem no_plus {wd:List UInt8} (hne:∀r,wd≠45::r) (hv:∀m:Nat,m≤30000→wd≠decDigits m) {z:Int} (h1:z≤30000) (h:wd=itoa z):False:=by
 rcases word_num h with ⟨hz,hw⟩ | ⟨hz,hw⟩
 ·exact absurd hw (hne _)
 ·exact hv z.toNat (by omega) hw
theorem vals_bound {e:Event} (he:evB e=true) {j:Nat} {z:Int} (h:(valsE e)[j]? =some z): -30000≤z∧z≤30000:=by
 obtain ⟨_,ha,hb,hc,hd⟩:=evB_bounds he
 have:=List.mem_of_getElem? h
 simp only [valsE,List.mem_cons,List.not_mem_nil,or_false] at this
 rcases this with rfl | rfl | rfl | rfl <;> assumption
theorem line_word {l:List UInt8} {e:Event} {x:Int} (h:l=lineL e x) {j:Nat} (hj:j<4) {wd:List UInt8} (hw:(splitL 32 l)[j+1]? =some wd):∃z,(valsE e)[j]? =some z∧wd=itoa z:=by
 rw [line_words h,List.getElem?_cons_succ] at hw
 have:j=0∨j=1∨j=2∨j=3:=by omega
 rcases this with rfl | rfl | rfl | rfl <;> (simp [valsE] at hw ⊢; exact hw.symm)
theorem evWord_inj {a b:Int} (ha:inB a 1 3=true) (hb:inB b 1 3=true) (h:evWord a=evWord b):a=b:=by
 rw [←kindP_evWord a ha, ←kindP_evWord b hb,h]
set_option maxHeartbeats 4000000 in
set_option maxRecDepth 8000 in
theorem c_l32Read (l:List UInt8) (hl:l.length≤1048576) (w:World):
  Calls Tryz.prog 116 #[.string (mkB l)] w (ReadPost l w):=by
 obtain ⟨W0,HW⟩:∃W0,Hid (w.alloc (.cells #[(.int .i64 0),(.int .i64 0),(.int .i64 0),(.int .i64 0),(.int .i64 0)] 54)=W0):=⟨_,hide rfl⟩
 have hx0:Ext w W0:=by rw [←HW.out]; exact Ext.alloc _ _
 have hR:Row W0 w.heap.size 54 [(.int .i64 0),(.int .i64 0),(.int .i64 0),(.int .i64 0),(.int .i64 0)]:=by rw [←HW.out]; exact Row.new _ _ _
 have hpc:=hide (splitL_piece 32 l)
 have hn:=splitL_len 32 l
 go_enter Tryz.func116,Tryz.ntmps116
 go_wp2_with fail
 rw [HW.out]
 refine (c_l01Split l 32 32 rfl hl _).mono ?_
 rintro e w1 ⟨v,rfl,hoS,hx1⟩
 obtain ⟨A,c,rfl,hoA,_⟩:=hoS.toOwn strC_len (by omega)
 have hsl:=hoA.slice strC_len
 have HLW:=hide (show ∀(e:Event) (x:Int),l=lineL e x→∀(j:Nat),j<4→∀wd,(splitL 32 l)[j+1]? =some wd→∃z,(valsE e)[j]? =some z∧wd=itoa z from fun e x h j hj wd hw=>line_word h hj hw)
 have HLS:=hide (show ∀(e:Event) (x:Int),l=lineL e x→splitL 32 l=evWord e.kind::((valsE e).map itoa++[itoa (sumE e x)]) from fun e x h=>line_words h)
 have HSP:=hide (show ∀x∈splitL 32 l,x.length≤1048576 from fun x hx=>by have:=hpc.out x hx; omega)
 generalize hS:splitL 32 l=S at *
 have hX1:=hx0.trans hx1
 have hR1:=hR.ext hx1
 have hx3:Ext w1 (w1.alloc (.cells #[(.int .i64 0),(.int .i64 0),(.int .i64 0),(.int .i64 0),(.int .i64 0)] 54)):=Ext.alloc _ _
 have hE3:Row (w1.alloc (.cells #[(.int .i64 0),(.int .i64 0),(.int .i64 0),(.int .i64 0),(.int .i64 0)] 54)) w1.heap.size 54 [(.int .i64 0),(.int .i64 0),(.int .i64 0),(.int .i64 0),(.int .i64 0)]:=Row.new _ _ _
 have hR3:=hR1.ext hx3
 have hX3:=hX1.trans hx3
 have hsl3:=hsl.ext hx3
 have hltR:=hR.lt
 have hz01:=hx1.size
 clear hoS hoA hsl hS hR hR1 hx0 hx1 hX1 hx3 hpc
 obtain ⟨n,hn6⟩:∃n,S.length=n:=⟨_,rfl⟩
 rw [hn6] at hsl3 hn ⊢
 have HN6:=hide hn6
 clear hn6
 by_cases h6:n=6
 ·subst h6
  have hzle:((w1.alloc (.cells #[(.int .i64 0),(.int .i64 0),(.int .i64 0),(.int .i64 0),(.int .i64 0)] 54))).heap.size≤w1.heap.size+1:=by simp
  have ho4:OwnL ((w1.alloc (.cells #[(.int .i64 0),(.int .i64 0),(.int .i64 0),(.int .i64 0),(.int .i64 0)] 54)).alloc (.cells #[] 2)) (w1.heap.size+1) 2 1 intC (.slice (some ⟨w1.heap.size+1,0,none⟩) 0 0) []:=by
   have:=OwnL.empty (w1.alloc (.cells #[(.int .i64 0),(.int .i64 0),(.int .i64 0),(.int .i64 0),(.int .i64 0)] 54)) ((w1.alloc (.cells #[(.int .i64 0),(.int .i64 0),(.int .i64 0),(.int .i64 0),(.int .i64 0)] 54))).heap.size 2 1 intC (Nat.le_refl _)
   rwa [show ((w1.alloc (.cells #[(.int .i64 0),(.int .i64 0),(.int .i64 0),(.int .i64 0),(.int .i64 0)] 54))).heap.size=w1.heap.size+1 by simp] at this
  go_wp2_with fail
  have hE3l:=hE3.lt
  generalize (w1.alloc (.cells #[(.int .i64 0),(.int .i64 0),(.int .i64 0),(.int .i64 0),(.int .i64 0)] 54))=W3 at *
  have hbase:w1.heap.size+1≤W3.heap.size:=hE3l
  go_loopw [5,6,7,8,9,10] (fun v i _ _ _ _ wr=>∃(k:Nat) (L:List Int),k≤5∧1≤k∧i= .int .i64 k∧L.length+1=k∧Hid (LineOf l (fun q=>L=(valsE q).take (k-1)))∧OwnL wr (w1.heap.size+1) 2 1 intC v L∧Ext W3 wr) (fun _ i _ _ _ _ _=>5-(intOf i).toNat)
  case atStart=>exact ⟨1,[],by omega,by omega,rfl,rfl,hide (fun _ _ _ _ _ _=>rfl),ho4,Ext.alloc _ _⟩
  case round=>
   clear ho4
   obtain ⟨k,L,hk5,hk1,rfl,hkl,HL,ho,hx⟩:=hrel
   have hzx:=hx.size
   by_cases hlt:k<5
   ·obtain ⟨b,off,wd,rfl,hb,hwd,hc0⟩:=(hsl3.ext hx).getStr (k:=k) (by omega)
    have hwl:=HSP.out wd (List.mem_of_getElem? hwd)
    have HWD:=hide hwd
    clear hwd
    by_cases hm:∃r,wd=45::r
    ·obtain ⟨r,rfl⟩:=hm
     have hat:(Instr.index 9 (.string (mkB (45::r))) (.int .i64 0)).run Tryz.prog wr= .ok (.int .u8 45) wr:=str_at (45::r) 0 45 rfl wr
     have hs:(mkB (45::r)).size=r.length+1:=rfl
     have hrl:r.length≤1048576:=by simp at hwl; omega
     have hex:(mkB (45::r)).extract 1 (r.length+1)=mkB r:=by rw [mkB_extract]; simp
     go_wp2_with fail
     refine (c_l01Value r hrl _).mono ?_
     rintro e w5 ⟨n,ok,rfl,hv,⟨hn0,hn1⟩,hx5⟩
     have HV:=hide hv
     clear hv hat hs hex
     cases ok with
     | false=>
      have HV2:=hide (show ∀m:Nat,m≤30000→r≠decDigits m from fun m h1 h2=>by have:=(HV.out m h1 h2).1; cases this)
      have HNO:=hide (show ∀e x,evB e=true→0≤x→x<99991→l≠lineL e x from fun e x he h0 h1 h=>by
       obtain ⟨z,hz,hwz⟩:=HLW.out e x h (k-1) (by omega) _ (by rw [show k-1+1=k by omega]; exact HWD.out)
       have hzb:=vals_bound he hz
       exact no_minus HV2.out hzb.1 hwz)
      have hRw:=hR3.ext (hx.trans hx5)
      have hEw:=hE3.ext (hx.trans hx5)
      have x0:=hRw.cell 0
      have x1:=hRw.cell 1
      have x2:=hRw.cell 2
      have x3:=hRw.cell 3
      have x4:=hRw.cell 4
      have xl:=hRw.lt
      have xf:=hRw.frozen
      have e0:=hEw.cell 0
      have e1:=hEw.cell 1
      have e2:=hEw.cell 2
      have e3:=hEw.cell 3
      have e4:=hEw.cell 4
      have el:=hEw.lt
      simp only [List.getElem?_cons_zero,List.getElem?_cons_succ] at x0 x1 x2 x3 x4 e0 e1 e2 e3 e4
      go_wp2_with fail
      have rS:=five_set hRw (.int .i64 0) (.int .i64 0) (.int .i64 0) (.int .i64 0) (.int .i64 0)
      have hXS:=five_ext (hX3.trans (hx.trans hx5)) (g:=w.heap.size) (Nat.le_refl _) (.int .i64 0) (.int .i64 0) (.int .i64 0) (.int .i64 0) (.int .i64 0)
      generalize (((((w5.setCell ⟨w.heap.size,0,none⟩ (.int .i64 0)).setCell ⟨w.heap.size,1,none⟩ (.int .i64 0)).setCell ⟨w.heap.size,2,none⟩ (.int .i64 0)).setCell ⟨w.heap.size,3,none⟩ (.int .i64 0)).setCell ⟨w.heap.size,4,none⟩ (.int .i64 0))=W5 at *
      have y0:=rS.cell 0
      have y1:=rS.cell 1
      have y2:=rS.cell 2
      have y3:=rS.cell 3
      have y4:=rS.cell 4
      simp only [List.getElem?_cons_zero,List.getElem?_cons_succ] at y0 y1 y2 y3 y4
      exact bodyPost_ret (v:= .agg #[(.int .i64 0),(.int .i64 0),(.int .i64 0),(.int .i64 0),(.int .i64 0)]) (by simp [results,Tryz.results116,go_sem,y0,y1,y2,y3,y4]) rfl ⟨noEv,rfl,fun e x h1 h2 h3 h4=>absurd h4 (HNO.out e x h1 h2 h3),hXS⟩
     | true=>
      have HV2:=hide (show ∀m:Nat,m≤30000→r=decDigits m→n=m from fun m h1 h2=>(HV.out m h1 h2).2)
      have hzx5:=hx5.size
      go_wp2_with (at_builtin; go_must (refine wpList_append_one rfl _ _ 137 rfl (w1.heap.size+1) 2 _ 1 8 Tryz.underlying137 int_info rfl (by decide) intC intC_len intC_one _ _ rfl ((ho.ext hx5).ext (Ext.alloc _ _)) _ _ rfl _ rfl (by first | rfl | simp) (by omega) (by omega) (by first | omega | (simp; omega)) ?_))
      intro v6 w6 ho6 hext6
      have hx6:=hext6 W3 (by omega) ((hx.trans hx5).and_alloc _)
      go_wp2_with fail
      go_roundw
      case rel=>
       refine ⟨k+1,_,by omega,by omega,by go_num,by simp; omega,hide (fun e x he h0 h1 h=> ?_),ho6,hx6⟩
       obtain ⟨z,hz,hwz⟩:=HLW.out e x h (k-1) (by omega) _ (by rw [show k-1+1=k by omega]; exact HWD.out)
       have hzb:=vals_bound he hz
       rw [show k+1-1=(k-1)+1 by omega,List.take_add_one,hz,HL.out e x he h0 h1 h,num_minus HV2.out hzb.1 hzb.2 hwz]
       rfl
      case measure=>simp [intOf]; omega
    ·have hm2:∀r,wd≠45::r:=fun r h=>hm ⟨r,h⟩
     have HM:=hide hm2
     clear hm
     cases wd with
     | nil=>
      have hs:(mkB []).size=0:=rfl
      go_wp2_with fail
      refine (c_l01Value [] (by simp) _).mono ?_
      rintro e w5 ⟨n,ok,rfl,hv,⟨hn0,hn1⟩,hx5⟩
      have HV:=hide hv
      clear hv hs hm2
      cases ok with
      | false=>
       have HV2:=hide (show ∀m:Nat,m≤30000→([]:List UInt8)≠decDigits m from fun m h1 h2=>by have:=(HV.out m h1 h2).1; cases this)
       have HNO:=hide (show ∀e x,evB e=true→0≤x→x<99991→l≠lineL e x from fun e x he h0 h1 h=>by
        obtain ⟨z,hz,hwz⟩:=HLW.out e x h (k-1) (by omega) _ (by rw [show k-1+1=k by omega]; exact HWD.out)
        have hzb:=vals_bound he hz
        exact no_plus HM.out HV2.out hzb.2 hwz)
       have hRw:=hR3.ext (hx.trans hx5)
       have hEw:=hE3.ext (hx.trans hx5)
       have x0:=hRw.cell 0
       have x1:=hRw.cell 1
       have x2:=hRw.cell 2
       have x3:=hRw.cell 3
       have x4:=hRw.cell 4
       have xl:=hRw.lt
       have xf:=hRw.frozen
       have e0:=hEw.cell 0
       have e1:=hEw.cell 1
       have e2:=hEw.cell 2
       have e3:=hEw.cell 3
       have e4:=hEw.cell 4
       have el:=hEw.lt
       simp only [List.getElem?_cons_zero,List.getElem?_cons_succ] at x0 x1 x2 x3 x4 e0 e1 e2 e3 e4
       go_wp2_with fail
       have rS:=five_set hRw (.int .i64 0) (.int .i64 0) (.int .i64 0) (.int .i64 0) (.int .i64 0)
       have hXS:=five_ext (hX3.trans (hx.trans hx5)) (g:=w.heap.size) (Nat.le_refl _) (.int .i64 0) (.int .i64 0) (.int .i64 0) (.int .i64 0) (.int .i64 0)
       generalize (((((w5.setCell ⟨w.heap.size,0,none⟩ (.int .i64 0)).setCell ⟨w.heap.size,1,none⟩ (.int .i64 0)).setCell ⟨w.heap.size,2,none⟩ (.int .i64 0)).setCell ⟨w.heap.size,3,none⟩ (.int .i64 0)).setCell ⟨w.heap.size,4,none⟩ (.int .i64 0))=W5 at *
       have y0:=rS.cell 0
       have y1:=rS.cell 1
       have y2:=rS.cell 2
       have y3:=rS.cell 3
       have y4:=rS.cell 4
       simp only [List.getElem?_cons_zero,List.getElem?_cons_succ] at y0 y1 y2 y3 y4
       exact bodyPost_ret (v:= .agg #[(.int .i64 0),(.int .i64 0),(.int .i64 0),(.int .i64 0),(.int .i64 0)]) (by simp [results,Tryz.results116,go_sem,y0,y1,y2,y3,y4]) rfl ⟨noEv,rfl,fun e x h1 h2 h3 h4=>absurd h4 (HNO.out e x h1 h2 h3),hXS⟩
      | true=>
       have HV2:=hide (show ∀m:Nat,m≤30000→([]:List UInt8)=decDigits m→n=m from fun m h1 h2=>(HV.out m h1 h2).2)
       have hzx5:=hx5.size
       go_wp2_with (at_builtin; go_must (refine wpList_append_one rfl _ _ 137 rfl (w1.heap.size+1) 2 _ 1 8 Tryz.underlying137 int_info rfl (by decide) intC intC_len intC_one _ _ rfl ((ho.ext hx5).ext (Ext.alloc _ _)) _ _ rfl _ rfl (by first | rfl | simp) (by omega) (by omega) (by first | omega | (simp; omega)) ?_))
       intro v6 w6 ho6 hext6
       have hx6:=hext6 W3 (by omega) ((hx.trans hx5).and_alloc _)
       go_wp2_with fail
       go_roundw
       case rel=>
        refine ⟨k+1,_,by omega,by omega,by go_num,by simp; omega,hide (fun e x he h0 h1 h=> ?_),ho6,hx6⟩
        obtain ⟨z,hz,hwz⟩:=HLW.out e x h (k-1) (by omega) _ (by rw [show k-1+1=k by omega]; exact HWD.out)
        have hzb:=vals_bound he hz
        rw [show k+1-1=(k-1)+1 by omega,List.take_add_one,hz,HL.out e x he h0 h1 h,num_plus HM.out HV2.out hzb.2 hwz]
        rfl
       case measure=>simp [intOf]; omega
     | cons ch r=>
      have hs:(mkB (ch::r)).size=r.length+1:=rfl
      have hat:(Instr.index 9 (.string (mkB (ch::r))) (.int .i64 0)).run Tryz.prog wr= .ok (.int .u8 (ch.toNat:Int)) wr:=str_at (ch::r) 0 ch rfl wr
      have hne:((ch.toNat:Int)==45)=false:=by
       rw [beq_eq_false_iff_ne]
       intro h
       exact hm2 r (by rw [show ch=45 from UInt8.toNat_inj.1 (by have e:(45:UInt8).toNat=45:=rfl; omega)])
      clear hm2
      go_wp2_with fail
      refine (c_l01Value (ch::r) hwl _).mono ?_
      rintro e w5 ⟨n,ok,rfl,hv,⟨hn0,hn1⟩,hx5⟩
      have HV:=hide hv
      clear hv hs hat hne
      cases ok with
      | false=>
       have HV2:=hide (show ∀m:Nat,m≤30000→ch::r≠decDigits m from fun m h1 h2=>by have:=(HV.out m h1 h2).1; cases this)
       have HNO:=hide (show ∀e x,evB e=true→0≤x→x<99991→l≠lineL e x from fun e x he h0 h1 h=>by
        obtain ⟨z,hz,hwz⟩:=HLW.out e x h (k-1) (by omega) _ (by rw [show k-1+1=k by omega]; exact HWD.out)
        have hzb:=vals_bound he hz
        exact no_plus HM.out HV2.out hzb.2 hwz)
       have hRw:=hR3.ext (hx.trans hx5)
       have hEw:=hE3.ext (hx.trans hx5)
       have x0:=hRw.cell 0
       have x1:=hRw.cell 1
       have x2:=hRw.cell 2
       have x3:=hRw.cell 3
       have x4:=hRw.cell 4
       have xl:=hRw.lt
       have xf:=hRw.frozen
       have e0:=hEw.cell 0
       have e1:=hEw.cell 1
       have e2:=hEw.cell 2
       have e3:=hEw.cell 3
       have e4:=hEw.cell 4
       have el:=hEw.lt
       simp only [List.getElem?_cons_zero,List.getElem?_cons_succ] at x0 x1 x2 x3 x4 e0 e1 e2 e3 e4
       go_wp2_with fail
       have rS:=five_set hRw (.int .i64 0) (.int .i64 0) (.int .i64 0) (.int .i64 0) (.int .i64 0)
       have hXS:=five_ext (hX3.trans (hx.trans hx5)) (g:=w.heap.size) (Nat.le_refl _) (.int .i64 0) (.int .i64 0) (.int .i64 0) (.int .i64 0) (.int .i64 0)
       generalize (((((w5.setCell ⟨w.heap.size,0,none⟩ (.int .i64 0)).setCell ⟨w.heap.size,1,none⟩ (.int .i64 0)).setCell ⟨w.heap.size,2,none⟩ (.int .i64 0)).setCell ⟨w.heap.size,3,none⟩ (.int .i64 0)).setCell ⟨w.heap.size,4,none⟩ (.int .i64 0))=W5 at *
       have y0:=rS.cell 0
       have y1:=rS.cell 1
       have y2:=rS.cell 2
       have y3:=rS.cell 3
       have y4:=rS.cell 4
       simp only [List.getElem?_cons_zero,List.getElem?_cons_succ] at y0 y1 y2 y3 y4
       exact bodyPost_ret (v:= .agg #[(.int .i64 0),(.int .i64 0),(.int .i64 0),(.int .i64 0),(.int .i64 0)]) (by simp [results,Tryz.results116,go_sem,y0,y1,y2,y3,y4]) rfl ⟨noEv,rfl,fun e x h1 h2 h3 h4=>absurd h4 (HNO.out e x h1 h2 h3),hXS⟩
      | true=>
       have HV2:=hide (show ∀m:Nat,m≤30000→ch::r=decDigits m→n=m from fun m h1 h2=>(HV.out m h1 h2).2)
       have hzx5:=hx5.size
       go_wp2_with (at_builtin; go_must (refine wpList_append_one rfl _ _ 137 rfl (w1.heap.size+1) 2 _ 1 8 Tryz.underlying137 int_info rfl (by decide) intC intC_len intC_one _ _ rfl ((ho.ext hx5).ext (Ext.alloc _ _)) _ _ rfl _ rfl (by first | rfl | simp) (by omega) (by omega) (by first | omega | (simp; omega)) ?_))
       intro v6 w6 ho6 hext6
       have hx6:=hext6 W3 (by omega) ((hx.trans hx5).and_alloc _)
       go_wp2_with fail
       go_roundw
       case rel=>
        refine ⟨k+1,_,by omega,by omega,by go_num,by simp; omega,hide (fun e x he h0 h1 h=> ?_),ho6,hx6⟩
        obtain ⟨z,hz,hwz⟩:=HLW.out e x h (k-1) (by omega) _ (by rw [show k-1+1=k by omega]; exact HWD.out)
        have hzb:=vals_bound he hz
        rw [show k+1-1=(k-1)+1 by omega,List.take_add_one,hz,HL.out e x he h0 h1 h,num_plus HM.out HV2.out hzb.2 hwz]
        rfl
       case measure=>simp [intOf]; omega
   ·have HK5:=hide (show k=5 by omega)
    obtain ⟨b0,off0,wd0,rfl,hb0,hwd0,hc0⟩:=hsl3.getStr (k:=0) (by omega)
    have HW0:=hide hwd0
    clear hwd0
    rw [Nat.add_zero] at hc0
    obtain ⟨n0,n1,n2,n3,rfl⟩:∃n0 n1 n2 n3,L=[n0,n1,n2,n3]:=by
     have h4:L.length=4:=by have:=HK5.out; omega
     match L,h4 with
     | [a,b,c,d],_=>exact ⟨a,b,c,d,rfl⟩
    have HKW:=hide (show LineOf l (fun q=>wd0=evWord q.kind) from fun e x _ _ _ h=>by
     have h1:=HW0.out
     rw [HLS.out e x h] at h1
     simpa using h1.symm)
    clear hkl hk1 hk5
    go_wp2_with fail
    go_loopw [11,12] (fun kd j wr2=>∃(m:Nat) (z:Int),m≤3∧j= .int .i64 m∧kd= .int .i64 z∧Hid (LineOf l (fun q=>z=if q.kind≤m then q.kind else 0))∧Ext wr wr2) (fun _ j _=>3-(intOf j).toNat)
    case atStart=>exact ⟨0,0,by omega,rfl,rfl,hide (fun e x he _ _ _=>by have:=(evB_bounds he).1; rw [inB_true] at this; show (0:Int)=if e.kind≤((0:Nat):Int) then e.kind else 0; rw [if_neg (by omega)]),Ext.refl _⟩
    case round=>
     obtain ⟨m,z,hm,rfl,rfl,HK,hx2⟩:=hrel
     have hx32:=hx.trans hx2
     by_cases hm3:m<3
     ·have hc2:=(hx32.cell b0 off0 hb0).trans hc0
      have hb2:b0<wr.heap.size:=Nat.lt_of_lt_of_le hb0 hx32.size
      by_cases heq:evWord ((m:Int)+1)=wd0
      ·have HEQ:=hide heq
       go_wp2_with fail
       refine wp_region_ph [([1,4,5,6],0)] [2,3,7] (by kernel_rfl) (by kernel_rfl) (by intro c a w d v h; cases d <;> exact h) ?_
       simp only [wpPh,pickL,nthO]
       repeat (go_big_quiet_step (fail))
       refine wpQuiet_nil ?_
       go_wp2_with fail
       refine (c_l32Words _).mono ?_
       rintro e w7 ⟨rfl,rfl⟩
       obtain ⟨W8,HW8⟩:∃W8,Hid (W8=(wr.alloc (.cells #[.string (mkB wNom),.string (mkB wRead),.string (mkB wClose)] 9)).drew):=⟨_,hide rfl⟩
       have hwr:Row W8 wr.heap.size 9 [.string (mkB wNom),.string (mkB wRead),.string (mkB wClose)]:=by rw [HW8.out]; exact (Row.new wr _ _).drew
       have hx8:Ext wr W8:=by rw [HW8.out]; exact (Ext.alloc _ _).drew
       have hx8d:Ext wr.drew W8:=by rw [HW8.out]; exact Ext.alloc wr.drew _
       have hwc:=words_cell hwr m hm3
       have hwlt:=hwr.lt
       have hbq:((mkB (evWord ((m:Int)+1))).toList==(mkB wd0).toList)=true:=by rw [mkB_toList,mkB_toList,heq]; simp
       go_wp2_with fail
       rw [←HW8.out]
       refine ⟨hx8d,?_⟩
       repeat (go_big_quiet_step (fail))
       refine wpQuiet_nil ?_
       go_wp2_with fail
       go_roundw
       case rel=>
        refine ⟨m+1,(m:Int)+1,by omega,by go_num,by go_num,hide (fun e x he h0 h1 h=> ?_),hx2.trans hx8⟩
        have hk:=(evB_bounds he).1
        have h2:=evWord_inj (a:=(m:Int)+1) (by rw [inB_true]; omega) hk (HEQ.out.trans (HKW.out e x he h0 h1 h))
        show (m:Int)+1=if e.kind≤((m+1:Nat):Int) then e.kind else 0
        rw [if_pos (by omega)]
        exact h2
       case measure=>simp [intOf]; omega
      ·have HEQ:=hide heq
       go_wp2_with fail
       refine wp_region_ph [([1,4,5,6],0)] [2,3,7] (by kernel_rfl) (by kernel_rfl) (by intro c a w d v h; cases d <;> exact h) ?_
       simp only [wpPh,pickL,nthO]
       repeat (go_big_quiet_step (fail))
       refine wpQuiet_nil ?_
       go_wp2_with fail
       refine (c_l32Words _).mono ?_
       rintro e w7 ⟨rfl,rfl⟩
       obtain ⟨W8,HW8⟩:∃W8,Hid (W8=(wr.alloc (.cells #[.string (mkB wNom),.string (mkB wRead),.string (mkB wClose)] 9)).drew):=⟨_,hide rfl⟩
       have hwr:Row W8 wr.heap.size 9 [.string (mkB wNom),.string (mkB wRead),.string (mkB wClose)]:=by rw [HW8.out]; exact (Row.new wr _ _).drew
       have hx8:Ext wr W8:=by rw [HW8.out]; exact (Ext.alloc _ _).drew
       have hx8d:Ext wr.drew W8:=by rw [HW8.out]; exact Ext.alloc wr.drew _
       have hwc:=words_cell hwr m hm3
       have hwlt:=hwr.lt
       have hbq:((mkB (evWord ((m:Int)+1))).toList==(mkB wd0).toList)=false:=by rw [mkB_toList,mkB_toList,beq_eq_false_iff_ne]; exact heq
       go_wp2_with fail
       rw [←HW8.out]
       refine ⟨hx8d,?_⟩
       repeat (go_big_quiet_step (fail))
       refine wpQuiet_nil ?_
       go_wp2_with fail
       go_roundw
       case rel=>
        refine ⟨m+1,z,by omega,by go_num,rfl,hide (fun e x he h0 h1 h=> ?_),hx2.trans hx8⟩
        have h3:e.kind≠(m:Int)+1:=fun h4=>HEQ.out (by rw [←h4]; exact (HKW.out e x he h0 h1 h).symm)
        show z=if e.kind≤((m+1:Nat):Int) then e.kind else 0
        have h6:z=if e.kind≤(m:Int) then e.kind else 0:=HK.out e x he h0 h1 h
        rw [h6]
        by_cases h5:e.kind≤(m:Int)
        ·rw [if_pos h5,if_pos (by omega)]
        ·rw [if_neg h5,if_neg (by omega)]
       case measure=>simp [intOf]; omega
     ·obtain rfl:m=3:=by omega
      have HKD:=hide (show LineOf l (fun q=>(⟨z,n0,n1,n2,n3⟩:Event)=q) from fun e x he h0 h1 h=>by
       have h2:z=if e.kind≤((3:Nat):Int) then e.kind else 0:=HK.out e x he h0 h1 h
       have h3:[n0,n1,n2,n3]=(valsE e).take (k-1):=HL.out e x he h0 h1 h
       rw [HK5.out] at h3
       have hk:=(evB_bounds he).1
       rw [inB_true] at hk
       rw [if_pos (by omega)] at h2
       obtain ⟨a1,a2,a3,a4,a5⟩:=e
       simp [valsE] at h3
       simp at h2
       show (⟨z,n0,n1,n2,n3⟩:Event)=_
       simp [h2,h3])
      have hoq:=ho.ext hx2
      have hcl:=fun (g:Nat) (he:Value.ownBlock _=some g)=>World.ownsRow.cells (g:=g) hoq he
      rcases hoq.2 with ⟨_,h0⟩ | ⟨g,cap,cur,rfl,hgb,hgh,hgc,hgm,_⟩
      ·cases h0
      ·have hc:=hcl g rfl
       have c0:wr.cell? ⟨g,0,none⟩=some (.int .i64 n0):=hc 0 _ rfl
       have c1:wr.cell? ⟨g,1,none⟩=some (.int .i64 n1):=hc 1 _ rfl
       have c2:wr.cell? ⟨g,2,none⟩=some (.int .i64 n2):=hc 2 _ rfl
       have c3:wr.cell? ⟨g,3,none⟩=some (.int .i64 n3):=hc 3 _ rfl
       have hgl:g<wr.heap.size:=(World.ownsRow.lt hoq g rfl).2
       have hRw:=hR3.ext hx32
       have x0:=hRw.cell 0
       have x1:=hRw.cell 1
       have x2:=hRw.cell 2
       have x3:=hRw.cell 3
       have x4:=hRw.cell 4
       have xl:=hRw.lt
       have xf:=hRw.frozen
       simp only [List.getElem?_cons_zero,List.getElem?_cons_succ] at x0 x1 x2 x3 x4
       clear hc hcl hoq hgh ho hc0
       simp only [List.length_cons,List.length_nil,Nat.zero_add] at hgc
       go_wp2_with fail
       refine wp_region_phZ [(g,0),(g,1),(g,2),(g,3)] [] [0,1,2,3,4,5,6,7,8,9,10,11,12,13] 14 (by kernel_rfl) (by kernel_rfl) (by intro c a w d v h; cases d <;> exact h) ?_
       simp only [wpPhZ,pickL,nthO]
       repeat (go_big_quiet_step (fail))
       refine wpQuiet_nil ?_
       go_wp2_with fail
       have rS:=five_set hRw (.int .i64 z) (.int .i64 n0) (.int .i64 n1) (.int .i64 n2) (.int .i64 n3)
       have hXS:=five_ext (hX3.trans hx32) (g:=w.heap.size) (Nat.le_refl _) (.int .i64 z) (.int .i64 n0) (.int .i64 n1) (.int .i64 n2) (.int .i64 n3)
       generalize (((((wr.setCell ⟨w.heap.size,0,none⟩ (.int .i64 z)).setCell ⟨w.heap.size,1,none⟩ (.int .i64 n0)).setCell ⟨w.heap.size,2,none⟩ (.int .i64 n1)).setCell ⟨w.heap.size,3,none⟩ (.int .i64 n2)).setCell ⟨w.heap.size,4,none⟩ (.int .i64 n3))=W5 at *
       have y0:=rS.drew.cell 0
       have y1:=rS.drew.cell 1
       have y2:=rS.drew.cell 2
       have y3:=rS.drew.cell 3
       have y4:=rS.drew.cell 4
       simp only [List.getElem?_cons_zero,List.getElem?_cons_succ] at y0 y1 y2 y3 y4
       exact bodyPost_ret (v:= .agg #[.int .i64 z,.int .i64 n0,.int .i64 n1,.int .i64 n2,.int .i64 n3]) (by simp [results,Tryz.results116,go_sem,y0,y1,y2,y3,y4]) rfl ⟨⟨z,n0,n1,n2,n3⟩,rfl,HKD.out,hXS.drew⟩
 ·have HNO:=hide (show ∀e x,evB e=true→0≤x→x<99991→l≠lineL e x from fun e x _ _ _ h=>h6 (by rw [←HN6.out,HLS.out e x h]; rfl))
  have h6b:((n:Int) != 6)=true:=by rw [bne_iff_ne]; omega
  have hRw:=hR3.ext (Ext.refl (w1.alloc (.cells #[(.int .i64 0),(.int .i64 0),(.int .i64 0),(.int .i64 0),(.int .i64 0)] 54)))
  have hEw:=hE3.ext (Ext.refl (w1.alloc (.cells #[(.int .i64 0),(.int .i64 0),(.int .i64 0),(.int .i64 0),(.int .i64 0)] 54)))
  have x0:=hRw.cell 0
  have x1:=hRw.cell 1
  have x2:=hRw.cell 2
  have x3:=hRw.cell 3
  have x4:=hRw.cell 4
  have xl:=hRw.lt
  have xf:=hRw.frozen
  have e0:=hEw.cell 0
  have e1:=hEw.cell 1
  have e2:=hEw.cell 2
  have e3:=hEw.cell 3
  have e4:=hEw.cell 4
  have el:=hEw.lt
  simp only [List.getElem?_cons_zero,List.getElem?_cons_succ] at x0 x1 x2 x3 x4 e0 e1 e2 e3 e4
  go_wp2_with fail
  have rS:=five_set hRw (.int .i64 0) (.int .i64 0) (.int .i64 0) (.int .i64 0) (.int .i64 0)
  have hXS:=five_ext (hX3.trans (Ext.refl (w1.alloc (.cells #[(.int .i64 0),(.int .i64 0),(.int .i64 0),(.int .i64 0),(.int .i64 0)] 54)))) (g:=w.heap.size) (Nat.le_refl _) (.int .i64 0) (.int .i64 0) (.int .i64 0) (.int .i64 0) (.int .i64 0)
  generalize ((((((w1.alloc (.cells #[(.int .i64 0),(.int .i64 0),(.int .i64 0),(.int .i64 0),(.int .i64 0)] 54)).setCell ⟨w.heap.size,0,none⟩ (.int .i64 0)).setCell ⟨w.heap.size,1,none⟩ (.int .i64 0)).setCell ⟨w.heap.size,2,none⟩ (.int .i64 0)).setCell ⟨w.heap.size,3,none⟩ (.int .i64 0)).setCell ⟨w.heap.size,4,none⟩ (.int .i64 0))=W5 at *
  have y0:=rS.cell 0
  have y1:=rS.cell 1
  have y2:=rS.cell 2
  have y3:=rS.cell 3
  have y4:=rS.cell 4
  simp only [List.getElem?_cons_zero,List.getElem?_cons_succ] at y0 y1 y2 y3 y4
  exact bodyPost_ret (v:= .agg #[(.int .i64 0),(.int .i64 0),(.int .i64 0),(.int .i64 0),(.int .i64 0)]) (by simp [results,Tryz.results116,go_sem,y0,y1,y2,y3,y4]) rfl ⟨noEv,rfl,fun e x h1 h2 h3 h4=>absurd h4 (HNO.out e x h1 h2 h3),hXS⟩
end Go.Proofs.YtinindjjapblcaaGreatDoor
namespace Go.Proofs.YtinindjjapblcaaGreatDoor
open Go.RowKit
open Go.Lib hiding intOf
theorem next_none {line:List UInt8} {x:Int} (h:∀e,evB e=true→lineL e x≠line):next line x=none:=by
 cases hn:next line x with
 | none=>rfl
 | some e=>
  obtain ⟨h1,h2⟩:=next_some hn
  exact absurd h2 (h e h1)
def RecPost (l:List UInt8) (w:World) (e:Ending) (w':World):Prop:=
 ∃A c,e= .returned (.tuple #[.slice A (recS l).length c,.int .i64 ((textL (recS l) 1).length:Int)])∧OwnA w' 54 Event.cells A (recS l).length c (recS l)∧((∀b,blkOf A (recS l).length=some b→w.heap.size≤b)∧OwnL w' w.heap.size 54 5 Event.cells (.slice A (recS l).length c) (recS l))∧Ext w w'
theorem OwnL.low {α:Type} {w:World} {base base':Nat} {e:TypeId} {size:Nat} {f:α→List Value} {v:Value} {L:List α} (h:OwnL w base e size f v L) (hb:base'≤base):OwnL w base' e size f v L:=by
 obtain ⟨h1,h2⟩:=h
 refine ⟨h1,?_⟩
 rcases h2 with h2 | ⟨k,cap,cur,hv,hb',r⟩
 ·exact .inl h2
 ·exact .inr ⟨k,cap,cur,hv,by omega,r⟩
set_option maxHeartbeats 4000000 in
set_option maxRecDepth 8000 in
theorem c_l32Recover (l:List UInt8) (hl:l.length≤1048576) (w:World):
  Calls Tryz.prog 63 #[.string (mkB l)] w (RecPost l w):=by
 have HREC0:=hide (show recS l=recL (splitL 10 l).dropLast 300 1 from rfl)
 have HPC:=hide (show ∀x∈splitL 10 l,x.length≤1048576 from fun x hx=>by have:=splitL_piece 10 l x hx; omega)
 have hn:=splitL_len 10 l
 have hne:=splitL_ne 10 l
 go_enter Tryz.func63,Tryz.ntmps63
 go_wp2_with fail
 refine (c_l01Split l 10 10 rfl hl _).mono ?_
 rintro e W3 ⟨vs,rfl,hoS,hX3⟩
 obtain ⟨A,c,rfl,hoA,_⟩:=hoS.toOwn strC_len (by omega)
 have hsl:=hoA.slice strC_len
 clear hoS hoA
 generalize splitL 10 l=S at *
 obtain ⟨N,hN⟩:∃N,S.length=N+1:=by
  cases S with
  | nil=>exact absurd rfl hne
  | cons x xs=>exact ⟨xs.length,rfl⟩
 rw [hN] at hsl hn ⊢
 have HN:=hide hN
 clear hN hne
 have ho4:OwnL (W3.alloc (.cells #[] 54)) W3.heap.size 54 5 Event.cells (.slice (some ⟨W3.heap.size,0,none⟩) 0 0) []:=OwnL.empty W3 _ _ _ _ (Nat.le_refl _)
 go_wp2_with fail
 go_loopw [5,6,7,8,9,10,11] (fun v x z i _ _ _ wr=>∃(k:Nat) (es:List Event) (sm sz:Int),k≤N∧i= .int .i64 k∧x= .int .i64 sm∧z= .int .i64 sz∧es.length≤300∧0≤sz∧sz≤49*es.length∧0≤sm∧sm<99991∧Hid (((textL es 1).length:Int)=sz)∧Hid (sumEs es 1=sm)∧Hid (es++recL (S.dropLast.drop k) (300-es.length) sm=recS l)∧
  OwnL wr W3.heap.size 54 5 Event.cells v es∧Ext W3 wr) (fun _ _ _ i _ _ _ _=>N-(intOf i).toNat)
 case atStart=>exact ⟨0,[],1,0,Nat.zero_le _,rfl,rfl,rfl,by simp,by omega,by simp,by omega,by omega,hide rfl,hide rfl,hide (by rw [HREC0.out]; rfl),ho4,Ext.alloc _ _⟩
 case round=>
  obtain ⟨k,es,sm,sz,hk,rfl,rfl,rfl,hes,hz0,hz1,hs0,hs1,HSZ,HSUM,HREC,ho,hx⟩:=hrel
  clear ho4
  have hzx:=hx.size
  obtain ⟨VA,vc,hv,hvc,hvm⟩:=ho.form
  subst hv
  obtain ⟨n,hn1⟩:∃n,es.length=n:=⟨_,rfl⟩
  rw [hn1] at hes hz1 hvc ho ⊢
  have HN1:=hide hn1
  clear hn1
  by_cases hkN:k<N
  ·by_cases h300:n=300
   ·have HSTOP:=hide (show es++recL (S.dropLast.drop k) (300-es.length) sm=es by rw [HN1.out,h300,Nat.sub_self,recL_zero,List.append_nil])
    subst h300
    have HREC2:=hide (show recS l=es by rw [←HREC.out]; exact HSTOP.out)
    go_wp2_with fail
    obtain ⟨A',c',hv',hoA,hbA⟩:=OwnL.toOwn ho event_len (by omega)
    refine bodyPost_ret (v:= .tuple #[.slice VA 300 vc,.int .i64 sz]) (by simp [results,Tryz.results63,go_sem]) rfl ?_
    exact ⟨A',c',by rw [HREC2.out,HSZ.out,hv'],by rw [HREC2.out]; exact hoA,⟨by rw [HREC2.out]; exact fun b hb=>Nat.le_trans hX3.size (hbA b hb),by rw [HREC2.out, ←hv']; exact OwnL.low ho hX3.size⟩,hX3.trans hx⟩
   ·obtain ⟨b,off,line,rfl,hb,hxk,hc0⟩:=(hsl.ext hx).getStr (k:=k) (by omega)
    have HXK:=hide (show S.dropLast[k]? =some line by rw [List.getElem?_dropLast,if_pos (by rw [HN.out]; omega)]; exact hxk)
    have hll:=HPC.out line (List.mem_of_getElem? hxk)
    clear hxk
    go_wp2_with fail
    refine (c_l32Read line hll _).mono ?_
    rintro e w4 ⟨p,rfl,hLO,hx4⟩
    have HLO:=hide hLO
    clear hLO
    have hx5:Ext wr (w4.alloc (.cells #[.int .i64 p.kind,.int .i64 p.a,.int .i64 p.b,.int .i64 p.c,.int .i64 p.d] 54)):=hx4.and_alloc _
    have hE:=Row.new w4 54 [.int .i64 p.kind,.int .i64 p.a,.int .i64 p.b,.int .i64 p.c,.int .i64 p.d]
    go_wp2_with fail
    refine (c_specIsEvent p _).mono ?_
    rintro e w6 ⟨rfl,hx6⟩
    have hE6:=hE.ext hx6
    have hx36:=hx.trans (hx5.trans hx6)
    have ho6:=(ho.ext hx5).ext hx6
    have hc6:=(((hx5.trans hx6).cell b (off+k) hb)).trans hc0
    have hb6:b<w6.heap.size:=Nat.lt_of_lt_of_le hb (hx5.trans hx6).size
    clear hE hx5 hx6 hc0 hb ho hx4
    generalize w4.heap.size=bE at *
    cases hev:evB p with
    | false=>
     have HSTOP:=hide (show es++recL (S.dropLast.drop k) (300-es.length) sm=es by rw [recL_stop HXK.out (next_none (fun e he h=>by have:=HLO.out e sm he hs0 hs1 h.symm; rw [←this,hev] at he; cases he)),List.append_nil])
     clear hev
     have HREC2:=hide (show recS l=es by rw [←HREC.out]; exact HSTOP.out)
     go_wp2_with fail
     obtain ⟨A',c',hv',hoA,hbA⟩:=OwnL.toOwn ho6 event_len (by omega)
     refine bodyPost_ret (v:= .tuple #[.slice VA n vc,.int .i64 sz]) (by simp [results,Tryz.results63,go_sem]) rfl ?_
     exact ⟨A',c',by rw [HREC2.out,HSZ.out,hv'],by rw [HREC2.out]; exact hoA,⟨by rw [HREC2.out]; exact fun b hb=>Nat.le_trans hX3.size (hbA b hb),by rw [HREC2.out, ←hv']; exact OwnL.low ho6 hX3.size⟩,hX3.trans hx36⟩
    | true=>
     have HEV:=hide hev
     clear hev
     have e0:=hE6.cell 0
     have e1:=hE6.cell 1
     have e2:=hE6.cell 2
     have e3:=hE6.cell 3
     have e4:=hE6.cell 4
     have el:=hE6.lt
     simp only [List.getElem?_cons_zero,List.getElem?_cons_succ] at e0 e1 e2 e3 e4
     go_wp2_with fail
     refine (c_l32Line p sm _ HEV.out hs0 hs1).mono ?_
     rintro e w7 ⟨rfl,hx7⟩
     have hx37:=hx36.trans hx7
     have ho7:=ho6.ext hx7
     have hc7:=(hx7.cell b (off+k) hb6).trans hc6
     have hb7:b<w7.heap.size:=Nat.lt_of_lt_of_le hb6 hx7.size
     have hE7:=hE6.ext hx7
     have hz37:=hx37.size
     have e0:=hE7.cell 0
     have e1:=hE7.cell 1
     have e2:=hE7.cell 2
     have e3:=hE7.cell 3
     have e4:=hE7.cell 4
     have el:=hE7.lt
     simp only [List.getElem?_cons_zero,List.getElem?_cons_succ] at e0 e1 e2 e3 e4
     clear hE6 hc6 hb6 ho6 hx36
     have hls:=lineL_small p sm HEV.out hs0 hs1
     have hsb:=sumE_bound p sm hs0 hs1
     by_cases heq:lineL p sm=line
     ·have hbq:((mkB (lineL p sm)).toList==(mkB line).toList)=true:=by rw [mkB_toList,mkB_toList,heq]; simp
      have HEQ:=hide heq
      have HNX:=hide (show next line sm=some p by rw [←heq]; exact next_line p sm HEV.out hs0 hs1)
      clear heq
      have hsz2:(mkB (lineL p sm)).size=(lineL p sm).length:=rfl
      have hlen2:es.length≤1000000000:=by have:=HN1.out; omega
      go_wp2_with (at_builtin; go_must (refine wpList_append_one rfl _ _ 34 rfl W3.heap.size 54 _ 5 40 Tryz.underlying34 event_info rfl (by decide) Event.cells event_len event_oneJ _ _ rfl (ho7.ext (Ext.alloc _ _)) _ p rfl _ rfl (by first | rfl | simp) (by omega) (by omega) (by first | omega | (simp; omega)) ?_))
      intro v8 w8 ho8 hext8
      have hx8:=hext8 W3 (Nat.le_refl _) (hx37.and_alloc _)
      go_wp2_with fail
      have hlen:=HN1.out
      go_roundw
      case rel=>
       refine ⟨k+1,es++[p],_,_,by omega,by go_num,rfl,rfl,by simp; omega,by omega,by simp; omega,hsb.1,hsb.2,hide ?_,hide ?_,hide ?_,ho8,hx8⟩
       ·rw [textL_append,HSUM.out, ←HSZ.out]; simp [textL]; omega
       ·rw [sumEs_append,HSUM.out]; rfl
       ·rw [←HREC.out,recL_go HXK.out HNX.out (by omega),List.append_assoc,List.length_append,List.length_singleton,Nat.sub_sub]; rfl
      case measure=>simp [intOf]; omega
     ·have hbq:((mkB (lineL p sm)).toList==(mkB line).toList)=false:=by rw [mkB_toList,mkB_toList,beq_eq_false_iff_ne]; exact heq
      have HSTOP:=hide (show es++recL (S.dropLast.drop k) (300-es.length) sm=es by rw [recL_stop HXK.out (next_none (fun e he h=>heq (by have:=HLO.out e sm he hs0 hs1 h.symm; rw [this]; exact h))),List.append_nil])
      clear heq
      have HREC2:=hide (show recS l=es by rw [←HREC.out]; exact HSTOP.out)
      go_wp2_with fail
      obtain ⟨A',c',hv',hoA,hbA⟩:=OwnL.toOwn ho7 event_len (by omega)
      refine bodyPost_ret (v:= .tuple #[.slice VA n vc,.int .i64 sz]) (by simp [results,Tryz.results63,go_sem]) rfl ?_
      exact ⟨A',c',by rw [HREC2.out,HSZ.out,hv'],by rw [HREC2.out]; exact hoA,⟨by rw [HREC2.out]; exact fun b hb=>Nat.le_trans hX3.size (hbA b hb),by rw [HREC2.out, ←hv']; exact OwnL.low ho7 hX3.size⟩,hX3.trans hx37⟩
  ·have HSTOP:=hide (show es++recL (S.dropLast.drop k) (300-es.length) sm=es by rw [List.drop_of_length_le (by rw [List.length_dropLast,HN.out]; omega)]; simp [recL])
   have HREC2:=hide (show recS l=es by rw [←HREC.out]; exact HSTOP.out)
   go_wp2_with fail
   obtain ⟨A',c',hv',hoA,hbA⟩:=OwnL.toOwn ho event_len (by omega)
   refine bodyPost_ret (v:= .tuple #[.slice VA n vc,.int .i64 sz]) (by simp [results,Tryz.results63,go_sem]) rfl ?_
   exact ⟨A',c',by rw [HREC2.out,HSZ.out,hv'],by rw [HREC2.out]; exact hoA,⟨by rw [HREC2.out]; exact fun b hb=>Nat.le_trans hX3.size (hbA b hb),by rw [HREC2.out, ←hv']; exact OwnL.low ho hX3.size⟩,hX3.trans hx⟩
end Go.Proofs.YtinindjjapblcaaGreatDoor
namespace Go.Proofs.YtinindjjapblcaaGreatDoor
open Go.RowKit
open Go.Lib hiding intOf
def longL (l:List UInt8):Nat:=(textL (recS l) 1).length
def recR (l:List UInt8):List Event×Int×Int:=if 20000<l.length then ([],0,3) else (recS l,(l.length:Int)-longL l,0)
def RetRec (l:List UInt8) (w:World) (e:Ending) (w':World):Prop:=
 ∃A c,e= .returned (.tuple #[.slice A (recR l).1.length c,.int .i64 (recR l).2.1,.int .i64 (recR l).2.2])∧OwnA w' 54 Event.cells A (recR l).1.length c (recR l).1∧(∀b,blkOf A (recR l).1.length=some b→w.heap.size≤b)∧Ext w w'
theorem OwnA.none_ {α:Type} {w:World} {t:TypeId} {f:α→List Value}:OwnA w t f none 0 0 ([]:List α):=⟨rfl,Nat.le_refl _,by omega,fun h=>absurd h (by omega)⟩
set_option maxHeartbeats 1000000 in
set_option maxRecDepth 8000 in
theorem c_specRecoverEvents (l:List UInt8) (hl:l.length≤1048576) (w:World):
  Calls Tryz.prog 17 #[.string (mkB l)] w (RetRec l w):=by
 have hsz:(mkB l).size=l.length:=rfl
 by_cases h:20000<l.length
 ·have HR:=hide (show recR l=([],0,3) by unfold recR; rw [if_pos h])
  go_enter Tryz.func17,Tryz.ntmps17
  go_wp2_with fail
  exact bodyPost_ret (v:= .tuple #[.slice none 0 0,.int .i64 0,.int .i64 3]) (by simp [results,Tryz.results17,go_sem]) rfl ⟨none,0,by rw [HR.out]; rfl,by rw [HR.out]; exact OwnA.none_,(by rw [HR.out]; exact fun b hb=>by cases hb),Ext.refl _⟩
 ·have HR:=hide (show recR l=(recS l,(l.length:Int)-longL l,0) by unfold recR; rw [if_neg h])
  have hle:=recS_le l
  have HLL:=hide (show longL l=(textL (recS l) 1).length from rfl)
  generalize (textL (recS l) 1).length=tl at *
  go_enter Tryz.func17,Tryz.ntmps17
  go_wp2_with fail
  refine (c_l32Recover l hl _).mono ?_
  rintro e w1 ⟨A,c,rfl,hoA,⟨hb,_⟩,hx⟩
  rw [show (textL (recS l) 1).length=tl from HLL.out]
  go_wp2_with fail
  exact bodyPost_ret (v:= .tuple #[.slice A (recS l).length c,.int .i64 ((l.length:Int)-tl),.int .i64 0]) (by simp [results,Tryz.results17,go_sem]) rfl ⟨A,c,by rw [HR.out,HLL.out],by rw [HR.out]; exact hoA,by rw [HR.out]; exact hb,hx⟩
end Go.Proofs.YtinindjjapblcaaGreatDoor
namespace Go.Proofs.YtinindjjapblcaaGreatDoor
open Go.RowKit
open Go.Lib hiding intOf
set_option maxHeartbeats 1000000 in
set_option maxRecDepth 8000 in
theorem c_RecoverEvents (l:List UInt8) (hl:l.length≤1048576) (w:World) (hg:Glob w):
  Calls Tryz.prog 54 #[.string (mkB l)] w (RetRec l w):=by
 have hsz:(mkB l).size=l.length:=rfl
 by_cases h:20000<l.length
 ·have HR:=hide (show recR l=([],0,3) by unfold recR; rw [if_pos h])
  go_enter Tryz.func54,Tryz.ntmps54
  go_wp2_with fail
  exact bodyPost_ret (v:= .tuple #[.slice none 0 0,.int .i64 0,.int .i64 3]) (by simp [results,Tryz.results54,go_sem]) rfl ⟨none,0,by rw [HR.out]; rfl,by rw [HR.out]; exact OwnA.none_,(by rw [HR.out]; exact fun b hb=>by cases hb),Ext.refl _⟩
 ·have HR:=hide (show recR l=(recS l,(l.length:Int)-longL l,0) by unfold recR; rw [if_neg h])
  have hle:=recS_le l
  have HLL:=hide (show longL l=(textL (recS l) 1).length from rfl)
  go_enter Tryz.func54,Tryz.ntmps54
  go_wp2_with fail
  refine (c_readJournal l hl _ hg).mono ?_
  rintro e w1 ⟨A,c,rfl,hoA,hb,hx⟩
  generalize htl:(textL (recS l) 1).length=tl at *
  generalize hsm:sumEs (recS l) 1=sm at *
  obtain ⟨n,hn⟩:∃n,(recS l).length=n:=⟨_,rfl⟩
  have HN:=hide hn
  rw [hn]
  clear hn htl hsm
  have hx2:=hx.and_alloc (.cells #[.slice A n c,.int .i64 (tl:Int),.int .i64 sm] 144)
  have hJ:=Row.new w1 144 [.slice A n c,.int .i64 (tl:Int),.int .i64 sm]
  have hoA2:=hoA.ext (Ext.alloc w1 (.cells #[.slice A n c,.int .i64 (tl:Int),.int .i64 sm] 144))
  have j0:=hJ.cell 0
  have j1:=hJ.cell 1
  have j2:=hJ.cell 2
  have jl:=hJ.lt
  simp only [List.getElem?_cons_zero,List.getElem?_cons_succ] at j0 j1 j2
  go_wp2_with fail
  refine wp_region_ph [] [0,1,2,3,4,5,6,7,8,9] (by kernel_rfl) (by kernel_rfl) (by intro c a w d v h; cases d <;> exact h) ?_
  simp only [wpPh,pickL,nthO]
  repeat (go_big_quiet_step (fail))
  refine wpQuiet_nil ?_
  go_wp2_with fail
  exact bodyPost_ret (v:= .tuple #[.slice A n c,.int .i64 ((l.length:Int)-tl),.int .i64 0]) (by simp [results,Tryz.results54,go_sem]) rfl ⟨A,c,by rw [HR.out,HLL.out,HN.out],by rw [HR.out]; exact hoA2.ext (Ext.refl _).drew,by rw [HR.out]; exact hb,hx2.drew⟩
end Go.Proofs.YtinindjjapblcaaGreatDoor
