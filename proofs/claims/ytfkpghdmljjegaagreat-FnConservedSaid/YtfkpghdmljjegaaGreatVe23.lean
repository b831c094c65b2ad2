/-
  A sending of the reference: a search, its first target, the path back twice; exactly.
-/
import Derived.Test.YtfkpghdmljjegaaGreatVe22
import Derived.Test.YtfkpghdmljjegaaGreatVe16
namespace Go.Proofs.YtfkpghdmljjegaaGreat
open Go.RowKit
def RetSend (R:Option Rst) (gf gl nf nl:Nat) (w:World) (e:Ending) (w':World):Prop:=
 (R=none∧e= .returned (.bool false)∧Ext w w')∨(∃s',R=some s'∧e= .returned (.bool true)∧Turn (Rtb gf gl) w w'∧RtM w' gf gl nf nl s')
theorem RInv.flow {ps:List Pipe} {N:Nat} {s:Rst} (h:RInv ps N s) (hP:PipesN N ps):FlowIn ps s.fl:=fun k p f hp hf=>by
 have h1:=h.bd k p f hp hf
 have h2:=hP.lim p (List.mem_of_getElem? hp)
 omega
theorem amtS_bd {ps:List Pipe} {N q t:Nat} {s:Rst} {lq lt:Int} {L:List Stp} (h:Tgt ps N q s t lq lt L) (hI:RInv ps N s) (h0:0<lq):0<amtS ps s lq lt L∧amtS ps s lq lt L≤30000∧amtS ps s lq lt L≤lq∧amtS ps s lq lt L≤ -lt:=by
 have h1:=h.amt h0
 have h2:=hI.lb lq (List.mem_of_getElem? h.fq)
 omega
theorem step_flow {ps:List Pipe} {N:Nat} {s:Rst} (hI:RInv ps N s) {a:Int} {L1 L2:List Stp} {e:Stp} (hn:((L1++e::L2).map Stp.pipe).Nodup) {p:Pipe} (hp:ps[e.pipe]? =some p) (hP:PipesN N ps):
  ∃f,s.fl[e.pipe]? =some f∧(addA ps a s.fl L1)[e.pipe]? =some f∧ -30000≤f∧f≤30000:=by
 obtain ⟨f,hf⟩:∃f,s.fl[e.pipe]? =some f:=⟨_,List.getElem?_eq_getElem (by rw [hI.fl]; exact (List.getElem?_eq_some_iff.1 hp).1)⟩
 have h1:=hI.flow hP e.pipe p f hp hf
 refine ⟨f,hf,?_,by omega,by omega⟩
 rw [addA_far,hf]
 rw [List.map_append,List.map_cons] at hn
 intro hm
 exact (List.nodup_append.1 hn).2.2 _ hm _ (by simp) rfl
theorem addA_next {ps:List Pipe} {a f:Int} {fl:List Int} {L:List Stp} {k:Nat} {p:Pipe} {u x:Int} (hp:ps[k]? =some p) (hf:(addA ps a fl L)[k]? =some f):addA ps a fl (L++[⟨k,u,x⟩])=(addA ps a fl L).set k (if p.src=u then f+a else f-a):=by
 rw [addA_snoc]; simp only; rw [hf,Option.getD_some,turnS_at hp]
structure SM (w0 wr:World) (gf gl n1 n2 bs:Nat) (Ae:Option Addr) (ce:Nat) (en fl lf:List Int):Prop where
 tn:Turn (Rtb gf gl) w0 wr
 ow:OwnL wr bs 2 1 intC (.slice Ae n1 ce) en
 rt:RtM wr gf gl n2 n1 ⟨fl,lf⟩
section
variable {w0 wr wr':World} {gf gl n1 n2 bs ce:Nat} {Ae:Option Addr} {en fl lf:List Int}
theorem SM.ext (h:SM w0 wr gf gl n1 n2 bs Ae ce en fl lf) (hx:Ext wr wr'):SM w0 wr' gf gl n1 n2 bs Ae ce en fl lf:=⟨h.tn.more hx,h.ow.ext hx,h.rt.ext hx⟩
theorem SM.setF (h:SM w0 wr gf gl n1 n2 bs Ae ce en fl lf) (hg:gf<bs) {k:Nat} (hk:k<n2) (y:Int):SM w0 (wr.setCell ⟨gf,k,none⟩ (.int .i64 y)) gf gl n1 n2 bs Ae ce en (fl.set k y) lf:=
 ⟨h.tn.setF _,h.ow.farK (p:=⟨gf,k,none⟩) hg _,h.rt.setF hk y⟩
theorem SM.setL (h:SM w0 wr gf gl n1 n2 bs Ae ce en fl lf) (hg:gl<bs) {k:Nat} (hk:k<n1) (y:Int):SM w0 (wr.setCell ⟨gl,k,none⟩ (.int .i64 y)) gf gl n1 n2 bs Ae ce en fl (lf.set k y):=
 ⟨h.tn.setL _,h.ow.farK (p:=⟨gl,k,none⟩) hg _,h.rt.setL hk y⟩
theorem SM.entry (h:SM w0 wr gf gl n1 n2 bs Ae ce en fl lf) {x:Nat} {z:Int} (hx:x<n1) (hz:en[x]? =some z):∃be oe,Ae=some ⟨be,oe,none⟩∧wr.cell? ⟨be,oe+x,none⟩=some (.int .i64 z)∧be<wr.heap.size∧bs≤be:=by
 obtain ⟨be,oe,z',rfl,hb,hk,hc⟩:=(h.ow.slE intC_len (by omega)).get hx
 obtain rfl:z'=z:=by rw [hz] at hk; exact (Option.some.inj hk).symm
 have hc0:=hc 0 _ rfl
 simp only [Nat.add_zero,Nat.mul_one] at hc0
 exact ⟨be,oe,rfl,hc0,hb,h.ow.block_le rfl⟩
end
structure Ahd (ps:List Pipe) (n1 q:Nat) (en:List Int) (x:Nat) (L:List Stp):Prop where
 p:Pth ps en q x L
 r:Rest ps n1 L
 n:L.length≤n1
 x:x<n1
theorem Ahd.next {ps:List Pipe} {n1 q x:Nat} {en:List Int} {L:List Stp} (h:Ahd ps n1 q en x L) (hne:x≠q):∃(k y:Nat) (p:Pipe) (L':List Stp),L=⟨k,y,x⟩::L'∧en[x]? =some (k:Int)∧ps[k]? =some p∧(p.src=(x:Int)∨p.dst=(x:Int))∧othE p x=y∧Ahd ps n1 q en y L':=by
 obtain ⟨k,p,L',rfl,he,hp,hP⟩:=h.p.next (fun e=>hne (by omega))
 obtain ⟨p',h1,h2,h3,u,hu,huN⟩:=h.r.ok _ List.mem_cons_self
 simp only at h1 h2 h3 hu
 obtain rfl:p'=p:=by rw [hp] at h1; exact (Option.some.inj h1).symm
 rw [Int.toNat_natCast] at he
 rw [hu] at hP
 exact ⟨k,u,p',L',by rw [hu],he,hp,h2,hu,hP,h.r.tail,by have:=h.n; simp at this; omega,huN⟩
theorem Ahd.done {ps:List Pipe} {n1 q:Nat} {en:List Int} {L:List Stp} (h:Ahd ps n1 q en q L):L=[]:=h.p.last
theorem Ahd.mea {ps:List Pipe} {n1 q x:Nat} {en:List Int} {L:List Stp} (h:Ahd ps n1 q en x L):(pathF ps en q n1 (x:Int)).length=L.length:=by rw [h.p.eq h.n]
theorem Tgt.ahd {ps:List Pipe} {n1 q t:Nat} {s:Rst} {lq lt:Int} {L:List Stp} (h:Tgt ps n1 q s t lq lt L) (hP:PipesN n1 ps):Ahd ps n1 q (rs ps n1 q s).en t L:=⟨h.path,h.rest hP.ends,Nat.le_of_lt h.len,h.tN⟩
set_option maxHeartbeats 4000000 in
theorem c_l23Send (A1 A2:Option Addr) (n1 c1 n2 c2:Nat) (ps:List Pipe) (w:World) (hs2:SliceOf w 5 Pipe.cells A2 n2 c2 ps) (m1:n1≤100000) (m2:n2≤100000) (hP:PipesN n1 ps) (gf gl cf cl:Nat) (hcf:n2≤cf) (hcf2:cf≤100000) (s:Rst) (hM:RtM w gf gl n2 n1 s) (hgf:gf<w.heap.size) (hgl:gl<w.heap.size) (hI:RInv ps n1 s) (hsep:∀b,blkOf A2 n2=some b→¬Rtb gf gl b) (q:Nat) (hq:q<n1) (lq:Int) (hlq:s.lf[q]? =some lq) (h0:0<lq):
  Calls Tryz.prog 235 #[.agg #[.slice A1 n1 c1,.slice A2 n2 c2],.slice (some ⟨gf,0,none⟩) n2 cf,.slice (some ⟨gl,0,none⟩) n1 cl,.int .i64 q] w (RetSend (sendN ps n1 q s) gf gl n2 n1 w):=by
 have hB:=Row.new w 45 [.slice A1 n1 c1,.slice A2 n2 c2]
 have hx0:Ext w (w.alloc (.cells #[.slice A1 n1 c1,.slice A2 n2 c2] 45)):=Ext.alloc _ _
 have HP:=hide hP
 have HI:=hide hI
 have HQ:=hide hlq
 have hok:=rs_ok1 (s:=s) hP hq
 have htr:=rs_tree (s:=s) hP hq
 have hE0:(rs ps n1 q s).E[0]? =some (q:Int):=htr.hd
 have HT0:Hid (∀z,tgt s.lf (rs ps n1 q s).E=some z→∃(t:Nat) (lt:Int) (L:List Stp),z=t∧Tgt ps n1 q s t lq lt L):=hide (fun z hz=>tgt_of hI hP hq hlq h0 hz)
 have HSN:Hid (sendN ps n1 q s=(tgt s.lf (rs ps n1 q s).E).map (sendZ ps n1 q s)):=hide rfl
 have hrt0:=hM.ext hx0
 have hB2:∀W:World,Turn (Rtb gf gl) (w.alloc (.cells #[.slice A1 n1 c1,.slice A2 n2 c2] 45)) W→Row W w.heap.size 45 [.slice A1 n1 c1,.slice A2 n2 c2]:=fun _ h=>hB.turn h (by rintro (h | h) <;> omega)
 have hS2:∀W:World,Turn (Rtb gf gl) (w.alloc (.cells #[.slice A1 n1 c1,.slice A2 n2 c2] 45)) W→SliceOf W 5 Pipe.cells A2 n2 c2 ps:=fun _ h=>(hs2.ext hx0).turn h hsep
 have HB2:=hide hB2
 have HS2:=hide hS2
 obtain ⟨bs,hbs⟩:∃bs,(w.alloc (.cells #[.slice A1 n1 c1,.slice A2 n2 c2] 45)).heap.size=bs:=⟨_,rfl⟩
 have hbs1:w.heap.size<bs:=by rw [←hbs]; simp
 obtain ⟨R,HR⟩:∃R,Hid (rs ps n1 q s=R):=⟨_,hide rfl⟩
 rw [HR.out] at hok hE0
 have hel:R.en.length=n1:=hok.el
 have hE24:R.E.length≤n1:=hok.le
 have hEp:0<R.E.length:=(List.getElem?_eq_some_iff.1 hE0).1
 have HE0:=hide hE0
 have hnn:∀z∈R.E,0≤z:=fun z hz=>by obtain ⟨t,rfl,_⟩:=hok.inn z hz; omega
 have HNN:=hide hnn
 have HIN:=hide hok.inn
 have HLL:=hide hI.lf
 clear hlq hok htr hE0 hnn hB2 hS2 hI hP
 go_enter Tryz.func235,Tryz.ntmps235
 go_wp2_with fail
 refine (c_l23Search A1 A2 n1 c1 n2 c2 ps _ (hs2.ext hx0) (by omega) (by omega) HP.out.ends (some ⟨gf,0,none⟩) cf s.fl (hrt0.f.slice intC_len hcf (by omega)) (HI.out.flow HP.out) q hq).mono ?_
 rintro e w2 ⟨v1,v2,rfl,ho1,ho2,hx2⟩
 rw [show srch ps (hasRm ps s.fl) n1 0 q=R from HR.out,hbs] at ho1 ho2
 obtain ⟨Ae,ce,rfl,-⟩:=ho1.sl intC_len (by omega)
 obtain ⟨Ao,co,rfl,-⟩:=ho2.sl intC_len (by omega)
 rw [hel] at ho1
 go_wp2_with fail
 go_loopw [11,12] (fun v i wr=>∃(k:Nat) (T:Int),k<R.E.length∧i= .int .i64 k∧v= .int .i64 T∧Hid (tgtK s.lf R.E (k+1)=T)∧Ext (w.alloc (.cells #[.slice A1 n1 c1,.slice A2 n2 c2] 45)) wr∧OwnL wr bs 2 1 intC (.slice Ae n1 ce) R.en∧OwnL wr bs 2 1 intC (.slice Ao R.E.length co) R.E) (fun _ i _=>(intOf i).toNat)
 case atStart=>exact ⟨R.E.length-1,-1,by omega,by go_num,rfl,hide (tgtK_end (by omega)),hx2,ho1,ho2⟩
 case round=>
  clear ho1 ho2 hx2
  obtain ⟨k,T,hk,rfl,rfl,HT,hx2,ho1,ho2⟩:=hrel
  have hrt:=hrt0.ext hx2
  rcases k with _ | k
  ·have ht:=tgtK_one HE0.out (by rw [Int.toNat_natCast,zAt_some HQ.out]; omega) HNN.out
   rw [HT.out] at ht
   by_cases hT:T<0
   ·have hno:tgt s.lf R.E=none:=by
     rcases ht with ⟨_,h⟩ | ⟨h,_⟩
     ·exact h
     ·omega
    go_wp2_with fail
    go_ret
    exact .inl ⟨by rw [HSN.out,HR.out,hno]; rfl,rfl,hx0.trans hx2⟩
   ·have hyes:tgt s.lf R.E=some T:=by
     rcases ht with ⟨h,_⟩ | ⟨_,h⟩
     ·omega
     ·exact h
    obtain ⟨t,lt,L,rfl,hTg⟩:=HT0.out T (by rw [HR.out]; exact hyes)
    have HTG:=hide hTg
    have HYES:=hide hyes
    have htN:=hTg.tN
    have hlt0:=hTg.neg
    have hah:=hTg.ahd HP.out
    rw [HR.out] at hah
    have HAH:=hide hah
    obtain ⟨am,HAM⟩:∃am,Hid (amtS ps s lq lt L=am):=⟨_,hide rfl⟩
    have hab:=amtS_bd hTg HI.out h0
    rw [HAM.out] at hab
    have hlb:=HI.out.lb lt (List.mem_of_getElem? hTg.ft)
    have hlbq:=HI.out.lb lq (List.mem_of_getElem? HQ.out)
    obtain ⟨a0,ha0⟩:∃a0,(if -lt<lq then -lt else lq)=a0:=⟨_,rfl⟩
    have HA0:Hid (minA ps s.fl a0 L=am):=hide (by rw [←ha0]; exact HAM.out)
    have e1:IntKind.i64.wrap (-lt)= -lt:=IntWalk.i64_in _ (by omega)
    obtain ⟨hq1,hq2,_⟩:=hrt.l.getI HQ.out
    obtain ⟨ht1,ht2,_⟩:=hrt.l.getI hTg.ft
    have hsm:SM (w.alloc (.cells #[.slice A1 n1 c1,.slice A2 n2 c2] 45)) wr gf gl n1 n2 bs Ae ce R.en s.fl s.lf:=⟨Turn.of_ext hx2,ho1,hrt⟩
    clear hTg hah hyes ht ho1 ho2
    go_wp2_with fail
    refine wp_region_ph [] [0,1,2,3,4,5,6,7,8,9,10] (by kernel_rfl) (by kernel_rfl) (by intro c a w d v h; cases d <;> exact h) ?_
    simp only [wpPh,pickL,nthO]
    repeat (go_big_quiet_step (fail))
    refine wpQuiet_nil ?_
    clear hq1 hq2 ht1 ht2 ha0
    have hsm:=hsm.ext (Ext.refl _).drew
    go_wp2_with fail
    go_loopw [13,14] (fun v i wr'=>∃(x:Nat) (a:Int) (L':List Stp),i= .int .i64 x∧v= .int .i64 a∧Hid (Ahd ps n1 q R.en x L')∧Hid (minA ps s.fl a L'=am)∧SM (w.alloc (.cells #[.slice A1 n1 c1,.slice A2 n2 c2] 45)) wr' gf gl n1 n2 bs Ae ce R.en s.fl s.lf) (fun _ i _=>(pathF ps R.en q n1 (intOf i)).length)
    case atStart=>exact ⟨t,a0,L,rfl,rfl,HAH,HA0,hsm⟩
    case round=>
     clear hsm HA0 hx2 hrt
     obtain ⟨x,a,L',rfl,rfl,HAX,HA0,hsm⟩:=hrel
     have hfl:=(HB2.out _ hsm.tn).lt
     have hb0:=(HB2.out _ hsm.tn).cell 0
     have hb1:=(HB2.out _ hsm.tn).cell 1
     simp at hb0 hb1
     by_cases hxq:x=q
     ·obtain rfl:q=x:=hxq.symm
      obtain rfl:L'=[]:=HAX.out.done
      obtain rfl:a=am:=HA0.out
      go_wp2_with fail
      go_loopw [16] (fun i wr'=>∃(x:Nat) (L1 L2:List Stp),i= .int .i64 x∧Hid (L=L1++L2)∧Hid (Ahd ps n1 q R.en x L2)∧SM (w.alloc (.cells #[.slice A1 n1 c1,.slice A2 n2 c2] 45)) wr' gf gl n1 n2 bs Ae ce R.en (addA ps a s.fl L1) s.lf) (fun i _=>(pathF ps R.en q n1 (intOf i)).length)
      case atStart=>exact ⟨t,[],L,rfl,hide rfl,HAH,hsm⟩
      case round=>
       clear hsm hfl hb0 hb1
       obtain ⟨x,L1,L2,rfl,HLL2,HAX,hsm⟩:=hrel
       have hfl:=(HB2.out _ hsm.tn).lt
       have hb0:=(HB2.out _ hsm.tn).cell 0
       have hb1:=(HB2.out _ hsm.tn).cell 1
       simp at hb0 hb1
       obtain ⟨F,hF⟩:∃F,addA ps a s.fl L1=F:=⟨_,rfl⟩
       rw [hF] at hsm
       by_cases hxq:x=q
       ·obtain rfl:q=x:=hxq.symm
        obtain rfl:L2=[]:=HAX.out.done
        have HLe:Hid (sendN ps n1 q s=some ⟨F,(s.lf.set q (lq-a)).set t (lt+a)⟩):=hide (by rw [HSN.out,HR.out,HYES.out,Option.map_some,HTG.out.send,HAM.out, ←hF,show L=L1 by rw [HLL2.out,List.append_nil]])
        obtain ⟨hq1,hq2,hq3⟩:=hsm.rt.l.getI HQ.out
        have hqt:t≠q:=HTG.out.ne
        have hqt2:q≠t:=fun h=>hqt h.symm
        have hs1:=hsm.setL (by omega) hq (lq-a)
        have hft:(s.lf.set q (lq-a))[t]? =some lt:=by rw [List.getElem?_set_ne hqt2]; exact HTG.out.ft
        obtain ⟨ht0,ht2,ht3⟩:=hsm.rt.l.getI HTG.out.ft
        have hs2':=hs1.setL (by omega) htN (lt+a)
        have e2:IntKind.i64.wrap (lq-a)=lq-a:=IntWalk.i64_in _ (by omega)
        have e3:IntKind.i64.wrap (lt+a)=lt+a:=IntWalk.i64_in _ (by omega)
        clear hF hs1 hft
        go_wp2_with fail
        go_ret
        exact .inr ⟨_,HLe.out,rfl,(Turn.of_ext hx0).trans hs2'.tn,hs2'.rt⟩
       ·obtain ⟨k,y,p,L3,rfl,hek,hpk,hpx,hoy,hah2⟩:=HAX.out.next hxq
        obtain ⟨be,oe,hAe,hce,hbe,hbe2⟩:=hsm.entry HAX.out.x hek
        have hxn:=HAX.out.x
        subst hAe
        have HPK:=hide hpk
        have HPX:=hide hpx
        have HAH2:=hide hah2
        have HOY:=hide hoy
        obtain ⟨f,-,hf,hf3,hf4⟩:=step_flow (a:=a) HI.out (L1:=L1) (L2:=L3) (e:=⟨k,y,x⟩) (by rw [←HLL2.out]; exact HTG.out.nod) hpk HP.out
        rw [hF] at hf
        have hkn:k<n2:=by rw [(HS2.out _ hsm.tn).len]; exact (List.getElem?_eq_some_iff.1 hpk).1
        have HNX:Hid (addA ps a s.fl (L1++[⟨k,y,x⟩])=F.set k (if p.src=(y:Int) then f+a else f-a)):=hide (by rw [←hF] at hf ⊢; exact addA_next hpk hf)
        have HL3:Hid (L=(L1++[⟨k,y,x⟩])++L3):=hide (by rw [HLL2.out]; simp)
        have hme:(pathF ps R.en q n1 (x:Int)).length=(pathF ps R.en q n1 (y:Int)).length+1:=by rw [HAX.out.mea,HAH2.out.mea]; rfl
        have HF:=hide hf
        clear hpk hpx hah2 hoy hek hF hf
        go_wp2_with fail
        refine wp_region_ph [([0,1,2,3,4,5],6)] [7] (by kernel_rfl) (by kernel_rfl) (by intro c a w d v h; cases d <;> exact h) ?_
        simp only [wpPh,pickL,nthO]
        repeat (go_big_quiet_step (fail))
        refine wpQuiet_nil ?_
        go_wp2_with fail
        refine (c_l02OtherX A1 A2 n1 c1 n2 c2 ps _ (HS2.out _ (hsm.tn.more (Ext.refl _).drew)) n1 (by omega) HP.out.ends k p HPK.out x HPX.out).mono ?_
        rw [HOY.out]
        rintro e w3 ⟨rfl,hx3⟩
        go_wp2_with fail
        refine ⟨hx3,?_⟩
        repeat (go_big_quiet_step (fail))
        refine wpQuiet_nil ?_
        have hxd:=(Ext.refl _).drew.trans hx3
        have hs3:=hsm.ext hxd
        have hce3:=(hxd.cell _ _ hbe).trans hce
        have hbe3:=Nat.lt_of_lt_of_le hbe hxd.size
        clear hsm hce hbe hfl hb0 hb1 hxd hx3
        have hfl:=(HB2.out _ hs3.tn).lt
        have hb0:=(HB2.out _ hs3.tn).cell 0
        have hb1:=(HB2.out _ hs3.tn).cell 1
        simp at hb0 hb1
        obtain ⟨bp,op,p',hAp,hbp,hpk',hcp⟩:=(HS2.out _ hs3.tn).get hkn
        obtain rfl:p'=p:=by have:=HPK.out; rw [this] at hpk'; exact (Option.some.inj hpk').symm
        subst hAp
        have hcp0:=hcp 0 _ rfl
        simp only [Nat.add_zero] at hcp0
        clear hcp hpk'
        have e2:IntKind.i64.wrap (f+a)=f+a:=IntWalk.i64_in _ (by omega)
        have e3:IntKind.i64.wrap (f-a)=f-a:=IntWalk.i64_in _ (by omega)
        cases e0:(p'.src==(y:Int))
        ·have HNY:Hid (addA ps a s.fl (L1++[⟨k,y,x⟩])=F.set k (f-a)):=hide (by rw [HNX.out,if_neg (by simpa using e0)])
         go_wp2_with fail
         refine wp_region_later (by kernel_rfl) (by kernel_rfl) ?_
         repeat (go_big_quiet_step (fail))
         refine wpQuiet_nil ?_
         intro w5 hx5
         have hce5:=(hx5.cell _ _ hbe3).trans hce3
         have hbe5:=Nat.lt_of_lt_of_le hbe3 hx5.size
         have hs5:=hs3.ext hx5
         obtain ⟨hf1,hf2,hf5⟩:=hs5.rt.f.getI HF.out
         have hs4:=(hs5.ext (Ext.refl _).drew).setF (by omega) hkn (f-a)
         clear hs3 hs5 hce3 hbe3 hb0 hb1 hfl hx5
         go_wp2_with fail
         refine wp_region_phZ [(be,oe+x),(gf,k)] [] [0,1,2,3,4,5,6,7,8,9,10,11,12,13,14] 15 (by kernel_rfl) (by kernel_rfl) (by intro c a w d v h; cases d <;> exact h) ?_
         simp only [wpPhZ,pickL,nthO]
         repeat (go_big_quiet_step (fail))
         refine wpQuiet_nil ?_
         set_option maxRecDepth 20000 in
         go_wp2_with fail
         go_roundw
         case rel=>exact ⟨y,_,L3,rfl,HL3,HAH2,by rw [HNY.out]; exact hs4⟩
         case measure=>simp [intOf]; omega
        ·have HNY:Hid (addA ps a s.fl (L1++[⟨k,y,x⟩])=F.set k (f+a)):=hide (by rw [HNX.out,if_pos (by simpa using e0)])
         go_wp2_with fail
         refine wp_region_later (by kernel_rfl) (by kernel_rfl) ?_
         repeat (go_big_quiet_step (fail))
         refine wpQuiet_nil ?_
         intro w5 hx5
         have hce5:=(hx5.cell _ _ hbe3).trans hce3
         have hbe5:=Nat.lt_of_lt_of_le hbe3 hx5.size
         have hs5:=hs3.ext hx5
         obtain ⟨hf1,hf2,hf5⟩:=hs5.rt.f.getI HF.out
         have hs4:=(hs5.ext (Ext.refl _).drew).setF (by omega) hkn (f+a)
         clear hs3 hs5 hce3 hbe3 hb0 hb1 hfl hx5
         go_wp2_with fail
         refine wp_region_phZ [(be,oe+x),(gf,k)] [] [0,1,2,3,4,5,6,7,8,9,10,11,12,13,14] 15 (by kernel_rfl) (by kernel_rfl) (by intro c a w d v h; cases d <;> exact h) ?_
         simp only [wpPhZ,pickL,nthO]
         repeat (go_big_quiet_step (fail))
         refine wpQuiet_nil ?_
         set_option maxRecDepth 20000 in
         go_wp2_with fail
         go_roundw
         case rel=>exact ⟨y,_,L3,rfl,HL3,HAH2,by rw [HNY.out]; exact hs4⟩
         case measure=>simp [intOf]; omega
     ·obtain ⟨k,y,p,L2,rfl,hek,hpk,hpx,hoy,hah2⟩:=HAX.out.next hxq
      obtain ⟨be,oe,hAe,hce,hbe,hbe2⟩:=hsm.entry HAX.out.x hek
      have hxn:=HAX.out.x
      subst hAe
      have HPK:=hide hpk
      have HPX:=hide hpx
      have HAH2:=hide hah2
      have HOY:=hide hoy
      obtain ⟨f,hf⟩:∃f,s.fl[k]? =some f:=⟨_,List.getElem?_eq_getElem (by rw [HI.out.fl]; exact (List.getElem?_eq_some_iff.1 hpk).1)⟩
      have HF:=hide hf
      have hme:(pathF ps R.en q n1 (x:Int)).length=(pathF ps R.en q n1 (y:Int)).length+1:=by rw [HAX.out.mea,HAH2.out.mea]; rfl
      obtain ⟨rm,hrm⟩:∃rm,roomZ ps s.fl k y=rm:=⟨_,rfl⟩
      obtain ⟨a1,ha1⟩:∃a1,(if rm<a then rm else a)=a1:=⟨_,rfl⟩
      have HRM:=hide hrm
      have HA1:Hid (minA ps s.fl a1 L2=am):=hide (by rw [←ha1, ←hrm]; exact HA0.out)
      clear hpk hpx hah2 hoy hf hek hrm HA0
      go_wp2_with fail
      refine wp_region_ph [([0,1,2,3,4,5],6)] [7] (by kernel_rfl) (by kernel_rfl) (by intro c a w d v h; cases d <;> exact h) ?_
      simp only [wpPh,pickL,nthO]
      repeat (go_big_quiet_step (fail))
      refine wpQuiet_nil ?_
      go_wp2_with fail
      refine (c_l02OtherX A1 A2 n1 c1 n2 c2 ps _ (HS2.out _ (hsm.tn.more (Ext.refl _).drew)) n1 (by omega) HP.out.ends k p HPK.out x HPX.out).mono ?_
      rw [HOY.out]
      rintro e w3 ⟨rfl,hx3⟩
      go_wp2_with fail
      refine ⟨hx3,?_⟩
      repeat (go_big_quiet_step (fail))
      refine wpQuiet_nil ?_
      have hxd:=(Ext.refl _).drew.trans hx3
      have hs3:=hsm.ext hxd
      have hce3:=(hxd.cell _ _ hbe).trans hce
      have hbe3:=Nat.lt_of_lt_of_le hbe hxd.size
      clear hsm hce hbe hfl hb0 hb1
      have hfl:=(HB2.out _ hs3.tn).lt
      have hb0:=(HB2.out _ hs3.tn).cell 0
      have hb1:=(HB2.out _ hs3.tn).cell 1
      simp at hb0 hb1
      go_wp2_with fail
      refine wp_region_ph [([0,1,2,3,4,5,6,7],8)] [9,10] (by kernel_rfl) (by kernel_rfl) (by intro c a w d v h; cases d <;> exact h) ?_
      simp only [wpPh,pickL,nthO]
      repeat (go_big_quiet_step (fail))
      refine wpQuiet_nil ?_
      go_wp2_with fail
      refine (c_l23Room A1 A2 n1 c1 n2 c2 ps _ (HS2.out _ (hs3.tn.more (Ext.refl _).drew)) (some ⟨gf,0,none⟩) n2 cf s.fl ((hs3.rt.ext (Ext.refl _).drew).f.slice intC_len hcf (by omega)) (HI.out.flow HP.out) k p f HPK.out HF.out y).mono ?_
      rw [HRM.out]
      rintro e w4 ⟨rfl,hx4⟩
      go_wp2_with fail
      refine ⟨hx4,?_⟩
      repeat (go_big_quiet_step (fail))
      refine wpQuiet_nil ?_
      clear ha1
      have hs4:=hs3.ext ((Ext.refl _).drew.trans hx4)
      clear hs3 hce3 hbe3 hfl hb0 hb1 hx3 hx4
      go_wp2_with fail
      go_roundw
      case rel=>exact ⟨y,a1,L2,rfl,rfl,HAH2,HA1,hs4⟩
      case measure=>simp [intOf]; omega
  ·obtain ⟨bo,oo,z,hAo,hbo,hzk,hco⟩:=(ho2.slE intC_len (by omega)).get (k:=k+1) hk
   subst hAo
   have hco0:=hco 0 _ rfl
   simp only [Nat.add_zero,Nat.mul_one] at hco0
   obtain ⟨y,rfl,hy⟩:=HIN.out z (List.mem_of_getElem? hzk)
   obtain ⟨l,hl⟩:∃l,s.lf[y]? =some l:=⟨_,List.getElem?_eq_getElem (by rw [HLL.out]; exact hy)⟩
   obtain ⟨hl1,hl2,hl3⟩:=hrt.l.getI hl
   have HST:Hid (tgtK s.lf R.E (k+1)=if l<0 then (y:Int) else T):=hide (by rw [tgtK_step hzk,Int.toNat_natCast,zAt_some hl,HT.out])
   clear hzk hl hco
   by_cases hl0:l<0
   ·rw [if_pos hl0] at HST
    go_wp2_with fail
    go_roundw
    case rel=>exact ⟨k,y,by omega,by go_num,rfl,HST,hx2,ho1,ho2⟩
    case measure=>simp [intOf]
   ·rw [if_neg hl0] at HST
    go_wp2_with fail
    go_roundw
    case rel=>exact ⟨k,T,by omega,by go_num,rfl,HST,hx2,ho1,ho2⟩
    case measure=>simp [intOf]
end Go.Proofs.YtfkpghdmljjegaaGreat
