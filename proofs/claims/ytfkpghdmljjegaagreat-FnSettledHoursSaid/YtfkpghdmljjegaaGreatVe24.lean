/-
  Routing, of the reference, exactly.
-/
import Derived.Test.YtfkpghdmljjegaaGreatVe23
import Derived.Test.YtfkpghdmljjegaaGreatVe07
import Derived.Test.YtfkpghdmljjegaaGreatVe19
import Derived.Test.YtfkpghdmljjegaaGreatVe22
import Derived.Test.YtfkpghdmljjegaaGreatVe03
import Derived.Test.YtfkpghdmljjegaaGreatVe00
namespace Go.Proofs.YtfkpghdmljjegaaGreat
open Go.RowKit
def RetRT (R:Rst) (n1 n2:Nat) (w:World) (e:Ending) (w':World):Prop:=
 ∃A1 c1 A2 c2,e= .returned (.tuple #[.slice A1 n2 c1,.slice A2 n1 c2])∧SliceOf w' 1 intC A1 n2 c1 R.fl∧SliceOf w' 1 intC A2 n1 c2 R.lf∧Ext w w'
def oneK (ps:List Pipe) (N:Nat) (s:Rst) (i:Nat):Option Rst:=if 0<zAt s.lf i then sendN ps N i s else none
theorem oneS_eq (ps:List Pipe) (N:Nat) (s:Rst):oneS ps N s=(List.range N).findSome? (oneK ps N s):=rfl
theorem find_none {α:Type} {f:Nat→Option α} {N:Nat} (h:∀j,j<N→f j=none):(List.range N).findSome? f=none:=by
 rw [List.findSome?_eq_none_iff]
 intro j hj
 exact h j (by simpa using hj)
theorem find_some {α:Type} {f:Nat→Option α} {N k:Nat} {x:α} (h:∀j,j<k→f j=none) (hk:k<N) (hx:f k=some x):(List.range N).findSome? f=some x:=by
 rw [show N=k+(1+(N-k-1)) by omega,List.range_add,List.findSome?_append,find_none h,Option.none_or,List.range_add,List.map_append,List.findSome?_append]
 simp [hx]
theorem Route.fin {ps:List Pipe} {N:Nat} {s t:Rst} (h:Route ps N s t) (h0:oneS ps N s=none):t=s:=by
 cases h with
 | done=>rfl
 | step h1 _=>rw [h0] at h1; cases h1
theorem Route.nxt {ps:List Pipe} {N:Nat} {s s' t:Rst} (h:Route ps N s t) (h0:oneS ps N s=some s'):Route ps N s' t:=by
 cases h with
 | done h1=>rw [h0] at h1; cases h1
 | step h1 r=>rw [h0] at h1; obtain rfl:=Option.some.inj h1; exact r
structure Rtg (ps:List Pipe) (n1 n2:Nat) (T:Rst) (w0 wr:World) (gf gl:Nat) (s:Rst):Prop where
 m:RtM wr gf gl n2 n1 s
 t:Turn (Rtb gf gl) w0 wr
 i:RInv ps n1 s
 r:Route ps n1 s T
def meaR (wr:World) (gl n1:Nat):Value→Nat
 | .bool true=>(posS (readI wr gl n1)).toNat+1
 | _=>0
theorem meaR_t {wr:World} {gf gl n1 n2:Nat} {s:Rst} (h:RtM wr gf gl n2 n1 s):meaR wr gl n1 (.bool true)=(posS s.lf).toNat+1:=by
 unfold meaR; rw [readI_eq h.l]
theorem meaR_f (wr:World) (gl n1:Nat):meaR wr gl n1 (.bool false)=0:=rfl
theorem own_of {w:World} {base:Nat} {v:Value} {L:List Int} (h:OwnL w base 2 1 intC v L) (h0:0<L.length):∃g c,v= .slice (some ⟨g,0,none⟩) L.length c∧base≤g∧g<w.heap.size∧L.length≤c∧c≤9223372036854775807∧OwnS w g 2 intC (some ⟨g,0,none⟩) L.length L:=by
 obtain ⟨A,c,g,rfl,h1,h2,h3,h4,_⟩:=OwnS.of_owns (f:=intC) (xs:=L) intC_len (by omega) h rfl
 have hA:=(h4.2 h0).1
 subst hA
 exact ⟨g,c,rfl,h1,h4.lt h0,h2,h3,h4⟩
set_option maxHeartbeats 4000000 in
theorem c_l23Route (A1 A2:Option Addr) (n1 c1 n2 c2:Nat) (ps:List Pipe) (w:World) (hs2:SliceOf w 5 Pipe.cells A2 n2 c2 ps) (hP:PipesN n1 ps) (h1:1≤n1) (A3:Option Addr) (c3:Nat) (sup:List Int) (hs3:SliceOf w 1 intC A3 n1 c3 sup) (hb:∀z∈sup,-30000≤z∧z≤30000):
  Calls Tryz.prog 179 #[.agg #[.slice A1 n1 c1,.slice A2 n2 c2],.slice A3 n1 c3] w (RetRT (routed ps n1 sup) n1 n2 w):=by
 have hB:=Row.new w 45 [.slice A1 n1 c1,.slice A2 n2 c2]
 have hx0:Ext w (w.alloc (.cells #[.slice A1 n1 c1,.slice A2 n2 c2] 45)):=Ext.alloc _ _
 have hn1:=hP.n24
 have hn2:n2≤40:=by rw [hs2.len]; exact hP.p40
 have hmk:=fun W=>run_make_flat (P:=Tryz.prog) 24 2 _ _ 1 8 Tryz.underlying24 int_info (f:=intC) 0 rfl rfl rfl (by omega) n2 (by omega) (by omega) W
 have HP:=hide hP
 have HRT:=hide (routed_route hP hs3.len.symm hb)
 have HI0:=hide (rst0_inv hP hs3.len.symm hb)
 have HLEN:=hide hs3.len
 have HLP:=hide hs2.len
 obtain ⟨T,HT⟩:∃T,Hid (routed ps n1 sup=T):=⟨_,hide rfl⟩
 rw [HT.out] at HRT ⊢
 clear hP hb
 have hb1:=hB.cell 1
 simp at hb1
 go_enter Tryz.func179,Tryz.ntmps179
 go_wp2_with (at_builtin; go_must (refine wpList_append_fresh rfl _ _ 24 rfl (w.heap.size+2) 2 _ 1 8 Tryz.underlying24 int_info rfl (by decide) intC intC_len int_one' (w.heap.size+2) rfl (Row.newG _ _ (by simp)) (Nat.le_refl _) A3 n1 c3 sup rfl ((hs3.ext hx0).ext ((Ext.alloc _ _).and_alloc _)) (by omega) (by omega) (by simp) ?_))
 intro v' w' ho hx
 have hq:=own_of ho (by rw [←HLEN.out]; omega)
 rw [←HLEN.out] at hq
 obtain ⟨gl,cl,rfl,hgl,hgl2,hcl,hcl2,hOl⟩:=hq
 have hxw:Ext (w.alloc (.cells #[.slice A1 n1 c1,.slice A2 n2 c2] 45)) w':=((Ext.alloc _ _).and_alloc _).trans hx
 have hF:RowOf w' (w.heap.size+1) 2 intC (List.replicate n2 0):=((Row.newG _ _ (by simp)).ext (Ext.alloc _ _)).ext hx
 have hM0:RtM w' (w.heap.size+1) gl n2 n1 (rst0 ps sup):=by
  refine ⟨?_,hOl,by omega⟩
  have:=OwnS.of_row hF
  rw [List.length_replicate,HLP.out] at this
  unfold rst0
  rw [HLP.out]
  exact this
 have hR0:Rtg ps n1 n2 T w' w' (w.heap.size+1) gl (rst0 ps sup):=⟨hM0,Turn.refl _,HI0.out,HRT.out⟩
 have hfl:=hF.lt
 have hw'z:w.heap.size+3≤w'.heap.size:=by have:=hx.size; simp at this; omega
 have HS2:=hide (fun (W:World) (h:Turn (Rtb (w.heap.size+1) gl) w' W)=>(hs2.ext (hx0.trans hxw)).turn h (fun b hb=>by have:=hs2.blk hb; rintro (h | h) <;> omega))
 have HB2:=hide (fun (W:World) (h:Turn (Rtb (w.heap.size+1) gl) w' W)=>(hB.ext hxw).turn h (by rintro (h | h) <;> omega))
 have HSEP:=hide (fun (b:Nat) (hb:blkOf A2 n2=some b)=>show ¬Rtb (w.heap.size+1) gl b by have:=hs2.blk hb; rintro (h | h) <;> omega)
 have HX:=hide (fun (W:World) (h:Turn (Rtb (w.heap.size+1) gl) w' W)=>(hx0.trans hxw).turn h (by rintro b (h | h) <;> omega))
 clear hM0 hF hOl ho hx hxw hb1 hmk hB HI0 HRT
 go_wp2_with fail
 go_loopw [8] (fun v wr=>(v= .bool true∧∃s,Rtg ps n1 n2 T w' wr (w.heap.size+1) gl s)∨(v= .bool false∧Rtg ps n1 n2 T w' wr (w.heap.size+1) gl T)) (fun v wr=>meaR wr gl n1 v)
 case atStart=>exact .inl ⟨rfl,_,hR0⟩
 case round=>
  clear hR0
  rcases hrel with ⟨rfl,s,hR⟩ | ⟨rfl,hR⟩
  ·go_wp2_with fail
   go_loopw [8,9] (fun v i wr'=>∃k:Nat,k≤n1∧i= .int .i64 k∧((v= .bool false∧Rtg ps n1 n2 T w' wr' (w.heap.size+1) gl s∧Hid (∀j,j<k→oneK ps n1 s j=none))∨(v= .bool true∧∃s',Hid (oneS ps n1 s=some s')∧Rtg ps n1 n2 T w' wr' (w.heap.size+1) gl s'))) (fun _ i _=>n1-(intOf i).toNat)
   case atStart=>exact ⟨0,Nat.zero_le _,rfl,.inl ⟨rfl,hR,hide (fun j hj=>absurd hj (by omega))⟩⟩
   case round=>
    obtain ⟨k,hk,rfl,hD⟩:=hrel
    rcases hD with ⟨rfl,hR2,HN⟩ | ⟨rfl,s',HS,hR2⟩
    ·by_cases hlt:k<n1
     ·obtain ⟨l,hl⟩:∃l,s.lf[k]? =some l:=⟨_,List.getElem?_eq_getElem (by rw [hR2.i.lf]; exact hlt)⟩
      obtain ⟨hl1,hl2,hl3⟩:=hR2.m.l.getI hl
      have hfl:=(HB2.out _ hR2.t).lt
      have hb0:=(HB2.out _ hR2.t).cell 0
      have hb1:=(HB2.out _ hR2.t).cell 1
      simp at hb0 hb1
      have HL:=hide hl
      have hz2:=hR2.t.size
      have HOK:Hid (oneK ps n1 s k=if 0<l then sendN ps n1 k s else none):=hide (by unfold oneK; rw [zAt_some hl])
      clear hl
      by_cases hl0:0<l
      ·rw [if_pos hl0] at HOK
       go_wp2_with fail
       refine (c_l23Send A1 A2 n1 c1 n2 c2 ps _ (HS2.out _ hR2.t) (by omega) (by omega) HP.out (w.heap.size+1) gl n2 cl (by omega) (by omega) s hR2.m (by omega) (by omega) hR2.i HSEP.out k hlt l HL.out hl0).mono ?_
       rintro e w2 (⟨hn,rfl,hx2⟩ | ⟨s',hn,rfl,ht2,hm2⟩)
       ·have HN2:=hide hn
        have hR3:Rtg ps n1 n2 T w' w2 (w.heap.size+1) gl s:=⟨hR2.m.ext hx2,hR2.t.more hx2,hR2.i,hR2.r⟩
        clear hn
        go_wp2_with fail
        go_roundw
        case rel=>exact ⟨k+1,by omega,by go_num,.inl ⟨rfl,hR3,hide (fun j hj=>by
         rcases Nat.lt_or_ge j k with h | h
         ·exact HN.out j h
         ·obtain rfl:j=k:=by omega
          rw [HOK.out]; exact HN2.out)⟩⟩
        case measure=>simp [intOf]; omega
       ·have hone:oneS ps n1 s=some s':=by rw [oneS_eq]; exact find_some HN.out hlt (by rw [HOK.out]; exact hn)
        have hR3:Rtg ps n1 n2 T w' w2 (w.heap.size+1) gl s':=⟨hm2,hR2.t.trans ht2,(oneS_keeps hone hR2.i HP.out).1,hR2.r.nxt hone⟩
        have HONE:=hide hone
        clear hn hone
        go_wp2_with fail
        go_roundw
        case rel=>exact ⟨k+1,by omega,by go_num,.inr ⟨rfl,s',HONE,hR3⟩⟩
        case measure=>simp [intOf]; omega
      ·rw [if_neg hl0] at HOK
       go_wp2_with fail
       go_roundw
       case rel=>exact ⟨k+1,by omega,by go_num,.inl ⟨rfl,hR2,hide (fun j hj=>by
        rcases Nat.lt_or_ge j k with h | h
        ·exact HN.out j h
        ·obtain rfl:j=k:=by omega
         exact HOK.out)⟩⟩
       case measure=>simp [intOf]; omega
     ·obtain rfl:k=n1:=by omega
      have hno:oneS ps k s=none:=by rw [oneS_eq]; exact find_none HN.out
      have hTs:=hR2.r.fin hno
      have hme:=meaR_t hR.m
      go_wp2_with fail
      go_roundw
      case rel=>exact .inr ⟨rfl,by rw [hTs]; rw [hTs] at hR2; exact hR2⟩
      case measure=>rw [hme,meaR_f]; omega
    ·have hmv:=(oneS_keeps HS.out hR.i HP.out).2
     have hpn:=posS_nn s'.lf
     have hme:=meaR_t hR.m
     have hme2:=meaR_t hR2.m
     by_cases hlt:k<n1
     ·go_wp2_with fail
      go_roundw
      case rel=>exact .inl ⟨rfl,s',hR2⟩
      case measure=>rw [hme,hme2]; omega
     ·go_wp2_with fail
      go_roundw
      case rel=>exact .inl ⟨rfl,s',hR2⟩
      case measure=>rw [hme,hme2]; omega
  ·go_wp2_with fail
   go_ret2
   exact ⟨_,_,_,_,rfl,hR.m.f.slice intC_len (Nat.le_refl _) (by omega),hR.m.l.slice intC_len hcl (by omega),HX.out _ hR.t⟩
end Go.Proofs.YtfkpghdmljjegaaGreat
namespace Go.Proofs.YtfkpghdmljjegaaGreat
open Go.RowKit
set_option maxHeartbeats 4000000 in
theorem c_l04ComponentsX (A1 A2:Option Addr) (n1 c1 n2 c2:Nat) (ps:List Pipe) (w:World) (hs2:SliceOf w 5 Pipe.cells A2 n2 c2 ps) (m1:n1≤100000) (m2:n2≤100000) (he:EndsN n1 ps):
  Calls Tryz.prog 276 #[.agg #[.slice A1 n1 c1,.slice A2 n2 c2]] w (RetI (fun E=>E=comps ps n1) w):=by
 have hB:=Row.new w 45 [.slice A1 n1 c1,.slice A2 n2 c2]
 have hx0:Ext w (w.alloc (.cells #[.slice A1 n1 c1,.slice A2 n2 c2] 45)):=Ext.alloc _ _
 have hmkI:=fun W=>run_make_flat (P:=Tryz.prog) 24 2 _ _ 1 8 Tryz.underlying24 int_info (f:=intC) 0 rfl rfl rfl (by omega) n1 (by omega) (by omega) W
 have HE:=hide he
 clear he
 go_enter Tryz.func276,Tryz.ntmps276
 go_wp2_with fail
 go_loopw [4] (fun i wr=>∃(k:Nat) (E:List Int),k≤n1∧i= .int .i64 k∧RowOf wr (w.heap.size+1) 2 intC E∧E.length=n1∧Hid (∀(j:Nat) (z:Int),j<k→E[j]? =some z→z= -1)∧Ext (w.alloc (.cells #[.slice A1 n1 c1,.slice A2 n2 c2] 45)) wr) (fun i _=>n1-(intOf i).toNat)
 case atStart=>exact ⟨0,List.replicate n1 0,Nat.zero_le _,rfl,Row.newG _ _ (by simp),by simp,hide (fun j z hj=>absurd hj (by omega)),Ext.alloc _ _⟩
 case round=>
  obtain ⟨k,E,hk,rfl,hEn,hel,HEN,hx⟩:=hrel
  have hle:=hEn.lt
  by_cases hlt:k<n1
  ·obtain ⟨u,hu⟩:=hEn.there intC_len (i:=k) (by omega) (j:=0) (by omega)
   simp only [Nat.mul_one,Nat.add_zero] at hu
   have hf:=hEn.frozen k
   have hN:=RowOf.set0 hEn (fun x=>⟨_,rfl⟩) (d:=k) (by omega) (-1) (.int .i64 (-1)) rfl
   have hx2:=hx.setCell (p:=⟨w.heap.size+1,k,none⟩) (by simp) (.int .i64 (-1))
   clear hx hEn
   go_wp2_with fail
   go_roundw
   case rel=>exact ⟨k+1,_,by omega,by go_num,hN,by rw [List.length_set]; exact hel,hide (step_ent HEN.out),hx2⟩
   case measure=>simp [intOf]; omega
  ·obtain rfl:n1=k:=by omega
   have hE0:E=compK ps n1 0:=all_rep hel HEN.out
   subst hE0
   clear hmkI HEN
   go_wp2_with fail
   go_loopw [5] (fun i wr=>∃(k:Nat) (E:List Int),k≤n1∧i= .int .i64 k∧RowOf wr (w.heap.size+1) 2 intC E∧E.length=n1∧Hid (E=compK ps n1 k)∧Ext (w.alloc (.cells #[.slice A1 n1 c1,.slice A2 n2 c2] 45)) wr) (fun i _=>n1-(intOf i).toNat)
   case atStart=>exact ⟨0,_,Nat.zero_le _,rfl,hEn,hel,hide rfl,hx⟩
   case round=>
    clear hx hEn hel hle hlt hk
    obtain ⟨k,E,hk,rfl,hEn,hel,HC,hx⟩:=hrel
    have hle:=hEn.lt
    by_cases hlt:k<n1
    ·obtain ⟨z,hz⟩:∃z,E[k]? =some z:=⟨_,List.getElem?_eq_getElem (by omega)⟩
     have hu:=hEn.get intC_len hz (j:=0) rfl
     simp only [Nat.mul_one,Nat.add_zero] at hu
     have hf:=hEn.frozen k
     have hza:=zAt_some hz
     by_cases h0:0≤z
     ·have HC1:Hid (E=compK ps n1 (k+1)):=hide (by rw [compK_succ, ←HC.out,compStep,if_neg (by omega)])
      clear hz hza
      go_wp2_with fail
      go_roundw
      case rel=>exact ⟨k+1,_,by omega,by go_num,hEn,hel,HC1,hx⟩
      case measure=>simp [intOf]; omega
     ·obtain ⟨Eo,HEO⟩:∃Eo,Hid ((srchC ps n1 k).E=Eo):=⟨_,hide rfl⟩
      have HC1:Hid (setAll E Eo (k:Int)=compK ps n1 (k+1)):=hide (by rw [compK_succ, ←HC.out,compStep,if_pos (by omega),HEO.out])
      have hok:=srch_ok (room:=anyR) (e:= -1) (P:=n2+1) hlt (by omega) HE.out (by rw [←hs2.len]; omega)
      have hin:∀z∈Eo,∃k:Nat,z=k∧k<n1:=by rw [←HEO.out]; exact hok.inn
      have ho3:Eo.length≤n1:=by rw [←HEO.out]; exact hok.le
      have HIN:=hide hin
      clear hz hza hok hin
      have hb0:=(hB.ext hx).cell 0
      have hb1:=(hB.ext hx).cell 1
      simp at hb0 hb1
      have hbl:=(hB.ext hx).lt
      go_wp2_with fail
      refine (c_l04SearchX A1 A2 n1 c1 n2 c2 ps _ (hs2.ext (hx0.trans hx)) m1 m2 HE.out k hlt).mono ?_
      rintro e w2 ⟨v1,v2,rfl,ho1,ho2,hx2⟩
      rw [show (srch ps anyR n1 (-1) k).E=Eo from HEO.out] at ho2
      obtain ⟨Ao,co,rfl,_⟩:=ho2.sl intC_len (by omega)
      have hE2:=hEn.ext hx2
      have hX2:=hx.trans hx2
      clear hu hf hb0 hb1 hbl hEn hx ho1
      go_wp2_with fail
      go_loopw [8] (fun i wr'=>∃(j:Nat) (E':List Int),j≤Eo.length∧i= .int .i64 j∧RowOf wr' (w.heap.size+1) 2 intC E'∧E'.length=n1∧Hid (E'=setAll E (Eo.take j) (k:Int))∧OwnL wr' wr.heap.size 2 1 intC (.slice Ao Eo.length co) Eo∧Ext (w.alloc (.cells #[.slice A1 n1 c1,.slice A2 n2 c2] 45)) wr') (fun i _=>Eo.length-(intOf i).toNat)
      case atStart=>exact ⟨0,E,Nat.zero_le _,rfl,hE2,hel,hide rfl,ho2,hX2⟩
      case round=>
       clear ho2 hE2 hX2 hel hx2
       obtain ⟨j,E',hj,rfl,hE2,hel,HS,ho2,hX2⟩:=hrel
       have hl2:=hE2.lt
       by_cases hjl:j<Eo.length
       ·obtain ⟨bo,oo,zo,rfl,hbo,hok,hco⟩:=(ho2.slE intC_len (by omega)).get hjl
        have hc0:=hco 0 _ rfl
        simp only [Nat.add_zero,Nat.mul_one] at hc0
        obtain ⟨y,rfl,hy⟩:=HIN.out _ (List.mem_of_getElem? hok)
        obtain ⟨u,hu⟩:=hE2.there intC_len (i:=y) (by omega) (j:=0) (by omega)
        simp only [Nat.mul_one,Nat.add_zero] at hu
        have hf:=hE2.frozen y
        have hN:=RowOf.set0 hE2 (fun x=>⟨_,rfl⟩) (d:=y) (by omega) (k:Int) (.int .i64 k) rfl
        have hx3:=hX2.setCell (p:=⟨w.heap.size+1,y,none⟩) (by simp) (.int .i64 k)
        have ho3:=ho2.farK (p:=⟨w.heap.size+1,y,none⟩) hle (.int .i64 k)
        have HS1:Hid (E'.set y (k:Int)=setAll E (Eo.take (j+1)) (k:Int)):=hide (by rw [setAll_step hok, ←HS.out,Int.toNat_natCast])
        clear hok hco hE2 hX2 ho2
        go_wp2_with fail
        go_roundw
        case rel=>exact ⟨j+1,_,by omega,by go_num,hN,by rw [List.length_set]; exact hel,HS1,ho3,hx3⟩
        case measure=>simp [intOf]; omega
       ·go_wp2_with fail
        go_roundw
        case rel=>exact ⟨k+1,E',by omega,by go_num,hE2,hel,hide (by rw [HS.out,List.take_of_length_le (by omega),HC1.out]),hX2⟩
        case measure=>simp [intOf]; omega
    ·go_wp2_with fail
     go_ret
     have hO:=OwnL.of_row hEn intC_len (base:=w.heap.size) (by omega) (by omega)
     rw [hel] at hO
     obtain rfl:k=n1:=by omega
     exact ⟨_,E,rfl,hO,hide HC.out,hx0.trans hx⟩
end Go.Proofs.YtfkpghdmljjegaaGreat
namespace Go.Proofs.YtfkpghdmljjegaaGreat
open Go.RowKit
def RetS {α:Type} (t:TypeId) (f:α→List Value) (r:List α×Int) (w:World) (e:Ending) (w':World):Prop:=
 ∃A n c g,e= .returned (.tuple #[.slice A n c,.int .i64 r.2])∧n≤c∧c≤9223372036854775807∧w.heap.size≤g∧OwnS w' g t f A n r.1∧Ext w w'
theorem RetS.nil_ {α:Type} {t:TypeId} {f:α→List Value} {r:List α×Int} {k:Int} {w w':World} (h:r=([],k)) (hx:Ext w w'):RetS t f r w (.returned (.tuple #[.slice none 0 0,.int .i64 k])) w':=by
 subst h
 exact ⟨none,0,0,w.heap.size,rfl,Nat.le_refl _,by omega,Nat.le_refl _,OwnS.nil,hx⟩
theorem RetS.row {α:Type} {t:TypeId} {f:α→List Value} {r:List α×Int} {xs:List α} {k:Int} {w w':World} {g n:Nat} (h:r=(xs,k)) (hn:n=xs.length) (hm:n≤9223372036854775807) (hg:w.heap.size≤g) (hr:RowOf w' g t f xs) (hx:Ext w w'):
  RetS t f r w (.returned (.tuple #[.slice (some ⟨g,0,none⟩) n n,.int .i64 k])) w':=by
 subst h
 subst hn
 exact ⟨_,_,_,g,rfl,Nat.le_refl _,hm,hg,OwnS.of_row hr,hx⟩
end Go.Proofs.YtfkpghdmljjegaaGreat
namespace Go.Proofs.YtfkpghdmljjegaaGreat
open Go.RowKit
set_option maxHeartbeats 1000000 in
theorem c_pipesAt (A1 A2:Option Addr) (n1 c1 n2 c2:Nat) (ps:List Pipe) (w:World) (hs2:SliceOf w 5 Pipe.cells A2 n2 c2 ps) (x:Int) (m2:n2≤1048576):
  Calls Tryz.prog 304 #[.agg #[.slice A1 n1 c1,.slice A2 n2 c2],.int .i64 x] w (RetI (fun E=>E=atL ps x∧E.length≤n2) w):=by
 have hB:=Row.new w 45 [.slice A1 n1 c1,.slice A2 n2 c2]
 have hx0:Ext w (w.alloc (.cells #[.slice A1 n1 c1,.slice A2 n2 c2] 45)):=Ext.alloc _ _
 go_enter Tryz.func304,Tryz.ntmps304
 go_wp2_with fail
 go_loopw [5,11] (fun v i wr=>∃(k:Nat) (E:List Int),k≤n2∧i= .int .i64 k∧E.length≤k∧Hid (E=atI ps x k)∧OwnL wr (w.heap.size+1) 2 1 intC v E∧Ext (w.alloc (.cells #[.slice A1 n1 c1,.slice A2 n2 c2] 45)) wr) (fun _ i _=>n2-(intOf i).toNat)
 case atStart=>exact ⟨0,[],Nat.zero_le _,rfl,by simp,hide rfl,OwnL.nil_ _ _ _ _ _,Ext.refl _⟩
 case round=>
  obtain ⟨k,E,hk,rfl,hE,HE,hown,hx⟩:=hrel
  have hxz:=hx.size
  simp at hxz
  by_cases hlt:k<n2
  ·obtain ⟨b,off,p,rfl,hb,hxk,hc⟩:=(hs2.ext (hx0.trans hx)).get hlt
   have HK:=hide hxk
   clear hxk
   have hc0:=hc 0 _ rfl
   have hc1:=hc 1 _ rfl
   have hc2:=hc 2 _ rfl
   have hc3:=hc 3 _ rfl
   have hc4:=hc 4 _ rfl
   clear hc
   simp only [Nat.add_zero] at hc0
   cases e0:(p.src==x)
   ·cases e1:(p.dst==x)
    ·go_wp2_with fail
     go_roundw
     case rel=>exact ⟨k+1,E,by omega,by go_num,by omega,hide (by rw [HE.out,atI_no (by unfold endB; rw [HK.out]; simp only [e0,e1]; rfl)]),hown.ext (Ext.alloc _ _),hx.and_alloc _⟩
     case measure=>simp [intOf]; omega
    ·have HN:Hid (E++[(k:Int)]=atI ps x (k+1)):=hide (by rw [HE.out,atI_yes (by unfold endB; rw [HK.out]; simp only [e0,e1]; rfl)])
     go_wp2_with (at_builtin; go_must (refine wpList_append_one rfl _ _ 24 rfl (w.heap.size+1) 2 _ 1 8 Tryz.underlying24 int_info rfl (by decide) intC intC_len int_one' _ _ rfl (hown.ext ((Ext.alloc _ _).and_alloc _)) (wr.alloc _) (k:Int) rfl _ rfl (by first | rfl | simp) (by omega) (by omega) (by first | omega | (simp; omega)) ?_))
     intro v1 w4 hown4 hext4
     have hx4:=hext4 _ (by simp) ((hx.and_alloc _).and_alloc _)
     go_wp2_with fail
     go_roundw
     case rel=>exact ⟨k+1,_,by omega,by go_num,by simp; omega,HN,hown4,hx4⟩
     case measure=>simp [intOf]; omega
   ·have HN:Hid (E++[(k:Int)]=atI ps x (k+1)):=hide (by rw [HE.out,atI_yes (by unfold endB; rw [HK.out]; simp only [e0]; rfl)])
    go_wp2_with (at_builtin; go_must (refine wpList_append_one rfl _ _ 24 rfl (w.heap.size+1) 2 _ 1 8 Tryz.underlying24 int_info rfl (by decide) intC intC_len int_one' _ _ rfl (hown.ext ((Ext.alloc _ _).and_alloc _)) (wr.alloc _) (k:Int) rfl _ rfl (by first | rfl | simp) (by omega) (by omega) (by first | omega | (simp; omega)) ?_))
    intro v1 w4 hown4 hext4
    have hx4:=hext4 _ (by simp) ((hx.and_alloc _).and_alloc _)
    go_wp2_with fail
    go_roundw
    case rel=>exact ⟨k+1,_,by omega,by go_num,by simp; omega,HN,hown4,hx4⟩
    case measure=>simp [intOf]; omega
  ·obtain rfl:n2=k:=by omega
   go_wp2_with fail
   go_ret
   exact ⟨_,E,rfl,hown.lowG (by omega),hide ⟨by rw [HE.out,atL,hs2.len],hE⟩,hx0.trans hx⟩
theorem c_otherEnd (p:Pipe) (x:Int) (w:World):Calls Tryz.prog 305 #[.agg #[.int .i64 p.src,.int .i64 p.dst,.int .i64 p.k,.int .i64 p.volume,.int .i64 p.limit],.int .i64 x] w (Ret (.int .i64 (othE p x)) w):=by
 cases e0:(p.src==x)
 ·have HR:Hid (othE p x=p.src):=hide (by unfold othE; rw [if_neg (by simpa using e0)])
  go_enter Tryz.func305,Tryz.ntmps305
  go_wp2_with fail
  go_ret
  exact Ret.of (by rw [HR.out]; rfl) (Ext.alloc _ _)
 ·have HR:Hid (othE p x=p.dst):=hide (by unfold othE; rw [if_pos (by simpa using e0)])
  go_enter Tryz.func305,Tryz.ntmps305
  go_wp2_with fail
  go_ret
  exact Ret.of (by rw [HR.out]; rfl) (Ext.alloc _ _)
set_option maxHeartbeats 1000000 in
theorem c_room (A1 A2 A3 A4:Option Addr) (n1 c1 n2 c2 n3 c3 n4 c4:Nat) (g:Nat) (ps:List Pipe) (fl:List Int) (w:World) (hR:Row w g 233 [.slice A1 n1 c1,.slice A2 n2 c2,.slice A3 n3 c3,.slice A4 n4 c4]) (hs2:SliceOf w 5 Pipe.cells A2 n2 c2 ps) (hs3:SliceOf w 1 intC A3 n3 c3 fl) (hb:FlowIn ps fl) (k:Nat) (p:Pipe) (f:Int) (hk:ps[k]? =some p) (hf:fl[k]? =some f) (x:Int):
  Calls Tryz.prog 306 #[.pointer (some ⟨g,0,none⟩),.int .i64 k,.int .i64 x] w (Ret (.int .i64 (roomZ ps fl k x)) w):=by
 have hkl:k<n2:=by rw [hs2.len]; exact (List.getElem?_eq_some_iff.1 hk).1
 have hkf:k<n3:=by rw [hs3.len]; exact (List.getElem?_eq_some_iff.1 hf).1
 obtain ⟨b,off,p',rfl,hbb,hk',hc⟩:=hs2.get hkl
 obtain ⟨b3,off3,f',rfl,hb3,hf',hc3⟩:=hs3.get hkf
 have hg1:=hR.cell 1
 have hg2:=hR.cell 2
 simp at hg1 hg2
 have hgl:=hR.lt
 obtain rfl:p'=p:=by rw [hk] at hk'; exact (Option.some.inj hk').symm
 obtain rfl:f'=f:=by rw [hf] at hf'; exact (Option.some.inj hf').symm
 have hc0:=hc 0 _ rfl
 have hc1:=hc 1 _ rfl
 have hc2:=hc 2 _ rfl
 have hc4:=hc 4 _ rfl
 have hcc:=hc 3 _ rfl
 have hd0:=hc3 0 _ rfl
 clear hc hc3 hk' hf'
 simp only [Nat.add_zero,Nat.mul_one] at hc0 hd0
 obtain ⟨e1,e2⟩:=hb.rooms hk hf
 have HR:=hide (roomZ_at hk hf x)
 clear hk hf hb
 go_enter Tryz.func306,Tryz.ntmps306
 cases e0:(p'.src==x)
 ·have e3:¬p'.src=x:=by simpa using e0
  have HR2:Hid (roomZ ps fl k x=p'.limit+f'):=hide (by rw [HR.out,if_neg e3])
  go_wp2_with fail
  refine wp_region_later (by kernel_rfl) (by kernel_rfl) ?_
  repeat (go_big_quiet_step (fail))
  refine wpQuiet_nil ?_
  intro w1 hx1
  go_wp2_with fail
  go_ret
  exact Ret.of (by rw [HR2.out]; rfl) ((Ext.alloc _ _).trans hx1)
 ·have e3:p'.src=x:=by simpa using e0
  have HR2:Hid (roomZ ps fl k x=p'.limit-f'):=hide (by rw [HR.out,if_pos e3])
  go_wp2_with fail
  refine wp_region_later (by kernel_rfl) (by kernel_rfl) ?_
  repeat (go_big_quiet_step (fail))
  refine wpQuiet_nil ?_
  intro w1 hx1
  go_wp2_with fail
  go_ret
  exact Ret.of (by rw [HR2.out]; rfl) ((Ext.alloc _ _).trans hx1)
end Go.Proofs.YtfkpghdmljjegaaGreat
