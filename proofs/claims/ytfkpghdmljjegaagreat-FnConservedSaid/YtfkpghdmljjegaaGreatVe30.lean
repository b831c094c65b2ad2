/-
  A sending along the path of a search, of the program: how much, and the flows behind it; exactly.
-/
import Derived.Test.YtfkpghdmljjegaaGreatVe25
import Derived.Test.YtfkpghdmljjegaaGreatVe23
namespace Go.Proofs.YtfkpghdmljjegaaGreat
open Go.RowKit
def RetAm (ps:List Pipe) (s:Rst) (L:List Stp) (am:Int) (gf gl n2 n1:Nat) (w:World) (e:Ending) (w':World):Prop:=
 e= .returned (.int .i64 am)∧Turn (Rtb gf gl) w w'∧RtM w' gf gl n2 n1 ⟨addA ps am s.fl L,s.lf⟩
set_option maxHeartbeats 4000000 in
theorem c_send (A1 A2:Option Addr) (n1 c1 n2 c2 c3 c4 g gf gl:Nat) (ps:List Pipe) (w:World) (hR:Row w g 233 [.slice A1 n1 c1,.slice A2 n2 c2,.slice (some ⟨gf,0,none⟩) n2 c3,.slice (some ⟨gl,0,none⟩) n1 c4]) (hs2:SliceOf w 5 Pipe.cells A2 n2 c2 ps) (hP:PipesN n1 ps) (hc3:n2≤c3) (hc3':c3≤100000) (s:Rst) (hM:RtM w gf gl n2 n1 s) (hI:RInv ps n1 s) (hsep:∀b,blkOf A2 n2=some b→¬Rtb gf gl b) (hg:¬Rtb gf gl g)
  (Ao Ae:Option Addr) (no co ce bs:Nat) (hgf:gf<bs) (hgl:gl<bs) (hbs:bs≤w.heap.size) (q t:Nat) (lq lt a0:Int) (L:List Stp) (h0:0<lq) (hT:Tgt ps n1 q s t lq lt L) (ha0:(if -lt<lq then -lt else lq)=a0) (ho:OwnL w bs 2 1 intC (.slice Ae n1 ce) (rs ps n1 q s).en):
  Calls Tryz.prog 285 #[.pointer (some ⟨g,0,none⟩),.agg #[.slice Ao no co,.slice none 0 0,.slice Ae n1 ce],.int .i64 q,.int .i64 t,.int .i64 a0] w (RetAm ps s L (amtS ps s lq lt L) gf gl n2 n1 w):=by
 have hB:=Row.new w 301 [.slice Ao no co,.slice none 0 0,.slice Ae n1 ce]
 have hx0:Ext w (w.alloc (.cells #[.slice Ao no co,.slice none 0 0,.slice Ae n1 ce] 301)):=Ext.alloc _ _
 have HP:=hide hP
 have HI:=hide hI
 have HTG:=hide hT
 have htN:=hT.tN
 have hah:=hT.ahd hP
 obtain ⟨am,HAM⟩:∃am,Hid (amtS ps s lq lt L=am):=⟨_,hide rfl⟩
 have hab:=amtS_bd hT hI h0
 rw [HAM.out] at hab ⊢
 have HA0:Hid (minA ps s.fl a0 L=am):=hide (by rw [←ha0]; exact HAM.out)
 obtain ⟨R,HR⟩:∃R,Hid (rs ps n1 q s=R):=⟨_,hide rfl⟩
 rw [HR.out] at hah ho
 have HAH:=hide hah
 have HB2:=hide (show ∀W:World,Turn (Rtb gf gl) (w.alloc (.cells #[.slice Ao no co,.slice none 0 0,.slice Ae n1 ce] 301)) W→Row W w.heap.size 301 [.slice Ao no co,.slice none 0 0,.slice Ae n1 ce] from fun _ h=>hB.turn h (by rintro (h | h) <;> omega))
 have HR2:=hide (show ∀W:World,Turn (Rtb gf gl) (w.alloc (.cells #[.slice Ao no co,.slice none 0 0,.slice Ae n1 ce] 301)) W→Row W g 233 [.slice A1 n1 c1,.slice A2 n2 c2,.slice (some ⟨gf,0,none⟩) n2 c3,.slice (some ⟨gl,0,none⟩) n1 c4] from fun _ h=>(hR.ext hx0).turn h hg)
 have HS2:=hide (show ∀W:World,Turn (Rtb gf gl) (w.alloc (.cells #[.slice Ao no co,.slice none 0 0,.slice Ae n1 ce] 301)) W→SliceOf W 5 Pipe.cells A2 n2 c2 ps from fun _ h=>(hs2.ext hx0).turn h hsep)
 have hsm:SM (w.alloc (.cells #[.slice Ao no co,.slice none 0 0,.slice Ae n1 ce] 301)) (w.alloc (.cells #[.slice Ao no co,.slice none 0 0,.slice Ae n1 ce] 301)) gf gl n1 n2 bs Ae ce R.en s.fl s.lf:=⟨Turn.refl _,ho.ext hx0,hM.ext hx0⟩
 have hgw:=hR.lt
 have hg1:g≠gf:=fun e=>hg (.inl e)
 have hg2:g≠gl:=fun e=>hg (.inr e)
 have hb1:w.heap.size≠gf:=by omega
 have hb2:w.heap.size≠gl:=by omega
 have HSEP:=hide hsep
 clear hT hah ha0 hI hP hB hR ho hM hg hsep hs2
 go_enter Tryz.func285,Tryz.ntmps285
 go_wp2_with fail
 go_loopw [4,11] (fun v i wr'=>∃(x:Nat) (a:Int) (L':List Stp),i= .int .i64 x∧v= .int .i64 a∧Hid (Ahd ps n1 q R.en x L')∧Hid (minA ps s.fl a L'=am)∧SM (w.alloc (.cells #[.slice Ao no co,.slice none 0 0,.slice Ae n1 ce] 301)) wr' gf gl n1 n2 bs Ae ce R.en s.fl s.lf) (fun _ i _=>(pathF ps R.en q n1 (intOf i)).length)
 case atStart=>exact ⟨t,a0,L,rfl,rfl,HAH,HA0,hsm⟩
 case round=>
  clear hsm HA0
  obtain ⟨x,a,L',rfl,rfl,HAX,HA0,hsm⟩:=hrel
  have hbl:=(HB2.out _ hsm.tn).lt
  have hbx0:=(HB2.out _ hsm.tn).cell 0
  have hbx1:=(HB2.out _ hsm.tn).cell 1
  have hbx2:=(HB2.out _ hsm.tn).cell 2
  simp at hbx0 hbx1 hbx2
  have hRr:=HR2.out _ hsm.tn
  have hrl:=hRr.lt
  have hr0:=hRr.cell 0
  have hr1:=hRr.cell 1
  have hr2:=hRr.cell 2
  have hr3:=hRr.cell 3
  simp at hr0 hr1 hr2 hr3
  by_cases hxq:x=q
  ·obtain rfl:q=x:=hxq.symm
   obtain rfl:L'=[]:=HAX.out.done
   obtain rfl:a=am:=HA0.out
   clear hbl hbx0 hbx1 hbx2 hRr hrl hr0 hr1 hr2 hr3
   go_wp2_with fail
   go_loopw [14] (fun i wr'=>∃(x:Nat) (L1 L2:List Stp),i= .int .i64 x∧Hid (L=L1++L2)∧Hid (Ahd ps n1 q R.en x L2)∧SM (w.alloc (.cells #[.slice Ao no co,.slice none 0 0,.slice Ae n1 ce] 301)) wr' gf gl n1 n2 bs Ae ce R.en (addA ps a s.fl L1) s.lf) (fun i _=>(pathF ps R.en q n1 (intOf i)).length)
   case atStart=>exact ⟨t,[],L,rfl,hide rfl,HAH,hsm⟩
   case round=>
    clear hsm
    obtain ⟨x,L1,L2,rfl,HLL2,HAX,hsm⟩:=hrel
    have hbl:=(HB2.out _ hsm.tn).lt
    have hbx0:=(HB2.out _ hsm.tn).cell 0
    have hbx1:=(HB2.out _ hsm.tn).cell 1
    have hbx2:=(HB2.out _ hsm.tn).cell 2
    simp at hbx0 hbx1 hbx2
    have hRr:=HR2.out _ hsm.tn
    have hrl:=hRr.lt
    have hr0:=hRr.cell 0
    have hr1:=hRr.cell 1
    have hr2:=hRr.cell 2
    have hr3:=hRr.cell 3
    simp at hr0 hr1 hr2 hr3
    obtain ⟨F,hF⟩:∃F,addA ps a s.fl L1=F:=⟨_,rfl⟩
    rw [hF] at hsm
    by_cases hxq:x=q
    ·obtain rfl:q=x:=hxq.symm
     obtain rfl:L2=[]:=HAX.out.done
     have hFE:F=addA ps a s.fl L:=by rw [←hF,HLL2.out,List.append_nil]
     have HFE:=hide hFE
     clear hF hFE
     go_wp2_with fail
     go_ret
     exact ⟨rfl,(Turn.of_ext hx0).trans hsm.tn,by rw [←HFE.out]; exact hsm.rt⟩
    ·obtain ⟨k,y,p,L3,rfl,hek,hpk,hpx,hoy,hah2⟩:=HAX.out.next hxq
     obtain ⟨be,oe,hAe,hce,hbe,hbe2⟩:=hsm.entry HAX.out.x hek
     have hxn:=HAX.out.x
     have HAE:=hide hAe
     rw [hAe] at hbx2
     have HPK:=hide hpk
     have HPX:=hide hpx
     have HAH2:=hide hah2
     have HOY:=hide hoy
     obtain ⟨f,-,hf,hf3,hf4⟩:=step_flow (a:=a) HI.out (L1:=L1) (L2:=L3) (e:=⟨k,y,x⟩) (by rw [←HLL2.out]; exact HTG.out.nod) hpk HP.out
     rw [hF] at hf
     have hkn:k<n2:=by rw [(HS2.out _ hsm.tn).len]; exact (List.getElem?_eq_some_iff.1 hpk).1
     have HNX:Hid (addA ps a s.fl (L1++[⟨k,y,x⟩])=F.set k (if p.src=(y:Int) then f+a else f-a)):=hide (by rw [←hF] at hf ⊢; exact addA_next hpk hf)
     have HL3:Hid (L=(L1++[⟨k,y,x⟩])++L3):=hide (by rw [HLL2.out]; simp)
     have hme:(pathF ps R.en q n1 (x:Int)).length=(pathF ps R.en q n1 (y:Int)).length+1:=by rw [HAX.out.mea,HAH2.out.mea]; rfl
     have HF:=hide hf
     obtain ⟨bp,op,p',hAp,hbp,hpk',hcp⟩:=(HS2.out _ hsm.tn).get hkn
     obtain rfl:p'=p:=by rw [hpk] at hpk'; exact (Option.some.inj hpk').symm
     have hbpb:blkOf A2 n2=some bp:=by unfold blkOf; rw [if_neg (by omega),hAp]; rfl
     have hne1:bp≠gf:=fun e=>HSEP.out bp hbpb (.inl e)
     rw [hAp] at hr1
     have hcp0:=hcp 0 _ rfl
     have hcp1:=hcp 1 _ rfl
     have hcp2:=hcp 2 _ rfl
     have hcp3:=hcp 3 _ rfl
     have hcp4:=hcp 4 _ rfl
     simp only [Nat.add_zero] at hcp0
     obtain ⟨hf1,hf2,hf5⟩:=hsm.rt.f.getI hf
     have e2:IntKind.i64.wrap (f+a)=f+a:=IntWalk.i64_in _ (by omega)
     have e3:IntKind.i64.wrap (f-a)=f-a:=IntWalk.i64_in _ (by omega)
     have hne:p'.src≠p'.dst:=(HP.out.ends p' (List.mem_of_getElem? hpk)).2.2
     have hds:=dst_src hpx hne
     rw [hoy] at hds
     have HDS:=hide hds
     clear hpk hpx hah2 hoy hek hF hf hcp hpk' hRr hne hds hAe hAp hbpb
     cases e0:(p'.dst==(x:Int))
     ·have HNY:Hid (addA ps a s.fl (L1++[⟨k,y,x⟩])=F.set k (f-a)):=hide (by rw [HNX.out,if_neg (by rw [HDS.out]; simpa using e0)])
      have hs4:=hsm.setF (by omega) hkn (f-a)
      go_wp2_with fail
      refine (c_otherEnd p' x _).mono ?_
      rw [HOY.out]
      rintro e w3 ⟨rfl,hx3⟩
      have hs5:=hs4.ext hx3
      rw [←HNY.out] at hs5
      go_wp2_with fail
      go_roundw
      case rel=>exact ⟨y,_,L3,rfl,HL3,HAH2,hs5⟩
      case measure=>simp [intOf]; omega
     ·have HNY:Hid (addA ps a s.fl (L1++[⟨k,y,x⟩])=F.set k (f+a)):=hide (by rw [HNX.out,if_pos (by rw [HDS.out]; simpa using e0)])
      have hs4:=hsm.setF (by omega) hkn (f+a)
      go_wp2_with fail
      refine (c_otherEnd p' x _).mono ?_
      rw [HOY.out]
      rintro e w3 ⟨rfl,hx3⟩
      have hs5:=hs4.ext hx3
      rw [←HNY.out] at hs5
      go_wp2_with fail
      go_roundw
      case rel=>exact ⟨y,_,L3,rfl,HL3,HAH2,hs5⟩
      case measure=>simp [intOf]; omega
  ·obtain ⟨k,y,p,L2,rfl,hek,hpk,hpx,hoy,hah2⟩:=HAX.out.next hxq
   obtain ⟨be,oe,hAe,hce,hbe,hbe2⟩:=hsm.entry HAX.out.x hek
   have hxn:=HAX.out.x
   rw [hAe] at hbx2
   have HAE:=hide hAe
   have HPK:=hide hpk
   have HAH2:=hide hah2
   have HOY:=hide hoy
   obtain ⟨f,hf⟩:∃f,s.fl[k]? =some f:=⟨_,List.getElem?_eq_getElem (by rw [HI.out.fl]; exact (List.getElem?_eq_some_iff.1 hpk).1)⟩
   have HF:=hide hf
   have hkn:k<n2:=by rw [(HS2.out _ hsm.tn).len]; exact (List.getElem?_eq_some_iff.1 hpk).1
   have hme:(pathF ps R.en q n1 (x:Int)).length=(pathF ps R.en q n1 (y:Int)).length+1:=by rw [HAX.out.mea,HAH2.out.mea]; rfl
   obtain ⟨rm,hrm⟩:∃rm,roomZ ps s.fl k y=rm:=⟨_,rfl⟩
   obtain ⟨a1,ha1⟩:∃a1,(if rm<a then rm else a)=a1:=⟨_,rfl⟩
   have HRM:=hide hrm
   have HA1:Hid (minA ps s.fl a1 L2=am):=hide (by rw [←ha1, ←hrm]; exact HA0.out)
   obtain ⟨bp,op,p',hAp,hbp,hpk',hcp⟩:=(HS2.out _ hsm.tn).get hkn
   obtain rfl:p'=p:=by rw [hpk] at hpk'; exact (Option.some.inj hpk').symm
   rw [hAp] at hr1
   have hcp0:=hcp 0 _ rfl
   have hcp1:=hcp 1 _ rfl
   have hcp2:=hcp 2 _ rfl
   have hcp3:=hcp 3 _ rfl
   have hcp4:=hcp 4 _ rfl
   simp only [Nat.add_zero] at hcp0
   clear hpk hpx hah2 hoy hf hek hrm HA0 hcp hpk' hRr hAe hAp
   go_wp2_with fail
   refine (c_otherEnd p' x _).mono ?_
   rw [HOY.out]
   rintro e w3 ⟨rfl,hx3⟩
   have hs3:=hsm.ext hx3
   clear hsm hx3 hbl hbx0 hbx1 hbx2 hrl hr0 hr1 hr2 hr3 hcp0 hcp1 hcp2 hcp3 hcp4 hce hbe hbp
   go_wp2_with fail
   refine (c_room A1 A2 _ _ n1 c1 n2 c2 n2 c3 n1 c4 g ps s.fl _ (HR2.out _ hs3.tn) (HS2.out _ hs3.tn) (hs3.rt.f.slice intC_len hc3 (by omega)) (HI.out.flow HP.out) k p' f HPK.out HF.out y).mono ?_
   rw [HRM.out]
   rintro e w4 ⟨rfl,hx4⟩
   have hs4:=hs3.ext hx4
   clear hs3 hx4
   go_wp2_with fail
   go_roundw
   case rel=>exact ⟨y,a1,L2,rfl,rfl,HAH2,HA1,hs4⟩
   case measure=>simp [intOf]; omega
end Go.Proofs.YtfkpghdmljjegaaGreat
