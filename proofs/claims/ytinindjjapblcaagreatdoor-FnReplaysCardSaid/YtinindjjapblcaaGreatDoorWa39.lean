/-
  ReplayEvents of the program.
-/
import Derived.Test.YtinindjjapblcaaGreatDoorWa33
import Derived.Test.YtinindjjapblcaaGreatDoorWa31
import Derived.Test.YtinindjjapblcaaGreatDoorWa19
import Derived.Test.YtinindjjapblcaaGreatDoorWa38
import Derived.Test.YtinindjjapblcaaGreatDoorWa09
namespace Go.Proofs.YtinindjjapblcaaGreatDoor
open Go.RowKit
def repV (n1:Int) (ns:List Node) (ps:List Pipe) (xs:List Contract) (l:List UInt8):Room×Int×Int:=
 if (netB ns ps&&bookB n1 xs)=true then (if 20000<l.length then (zeroR,0,3) else ((replR n1 (newR ns ps xs) (recS l)).1,((replR n1 (newR ns ps xs) (recS l)).2:Int),0)) else (zeroR,0,1)
def RetRp (R:Room×Int×Int) (w:World) (e:Ending) (w':World):Prop:=
 ∃(A1 A2 A3 A4 A5:Option Addr) (n1 c1 n2 c2 n3 c3 n4 c4 n5 c5:Nat) (r':Room),e= .returned (.tuple #[.agg #[.slice A1 n1 c1,.slice A2 n2 c2,.slice A3 n3 c3,.slice A4 n4 c4,.slice A5 n5 c5],.int .i64 R.2.1,.int .i64 R.2.2])∧ROwn w' w.heap.size w'.heap.size A1 A2 A3 A4 A5 n1 c1 n2 c2 n3 c3 n4 c4 n5 c5 r'∧r'.Like R.1∧Ext w w'
structure LoopP (n:Int) (R0:Room) (es:List Event) (lo:Nat) (Wg wr:World) (gO k m:Nat):Prop where
 turn:Turn (fun b=>b=gO) Wg wr
 ex:∃(O1 O2 O3 O4 O5:Option Addr) (o1 e1 o2 e2 o3 e3 o4 e4 o5 e5:Nat) (R:Room),Row wr gO 32 [.slice O1 o1 e1,.slice O2 o2 e2,.slice O3 o3 e3,.slice O4 o4 e4,.slice O5 o5 e5]∧ROwn wr lo wr.heap.size O1 O2 O3 O4 O5 o1 e1 o2 e2 o3 e3 o4 e4 o5 e5 R∧(∀b,RBlk O1 O2 O3 O4 O5 o1 o2 o3 o4 o5 R b→b≠gO)∧R.Like (replR n R0 (es.take k)).1∧m=(replR n R0 (es.take k)).2
set_option maxHeartbeats 8000000 in
theorem c_ReplayEvents (A1 A2:Option Addr) (n1 c1 n2 c2:Nat) (ns:List Node) (ps:List Pipe) (A:Option Addr) (n c:Nat) (xs:List Contract) (w:World) (h1:SliceOf w 3 Node.cells A1 n1 c1 ns) (h2:SliceOf w 5 Pipe.cells A2 n2 c2 ps) (hs:SliceOf w 8 Contract.cells A n c xs) (m1:n1≤1048576) (m2:n2≤1048576) (m3:n≤1048576) (l:List UInt8) (hl:l.length≤1048576) (hg:Glob w):
  Calls Tryz.prog 13 #[.agg #[.slice A1 n1 c1,.slice A2 n2 c2],.slice A n c,.string (mkB l)] w (RetRp (repV n1 ns ps xs l) w):=by
 have x0:Ext w ((w.alloc (.cells #[.slice A1 n1 c1,.slice A2 n2 c2] 27)).alloc (.cells #[.slice none 0 0,.slice none 0 0,.slice none 0 0,.slice none 0 0,.slice none 0 0] 32)):=(Ext.alloc _ _).and_alloc _
 cases hb:(netB ns ps&&bookB n1 xs)
 ·have HR:=hide (show repV n1 ns ps xs l=(zeroR,0,1) by unfold repV; rw [if_neg (by rw [hb]; decide)])
  go_enter Tryz.func13,Tryz.ntmps13
  go_wp2_with fail
  refine (c_IsBook A1 A2 n1 c1 n2 c2 ns ps A n c xs _ (h1.ext x0) (h2.ext x0) (hs.ext x0)).mono ?_
  rw [hb]
  rintro e w1 ⟨rfl,hx1⟩
  have hcl:=hx1.cell
  have hfr:=hx1.frozen
  have hz1:=hx1.size
  simp at hz1
  have hz2:w.heap.size+1<w1.heap.size:=by omega
  go_wp2
  rw [HR.out]
  refine bodyPost_ret (v:= .tuple #[.agg #[.slice none 0 0,.slice none 0 0,.slice none 0 0,.slice none 0 0,.slice none 0 0],.int .i64 0,.int .i64 1]) (by simp [results,Tryz.results13,go_sem,hcl]) rfl
   ⟨_,_,_,_,_,_,_,_,_,_,_,_,_,_,_,zeroR,rfl,zero_own _ _ _,⟨rfl,rfl,rfl,rfl,rfl⟩,?_⟩
  repeat (refine Ext.setCell ?_ (by first | (simp; done) | (simp; omega) | omega) _)
  exact x0.trans hx1
 have hRes:Row ((w.alloc (.cells #[.slice A1 n1 c1,.slice A2 n2 c2] 27)).alloc (.cells #[.slice none 0 0,.slice none 0 0,.slice none 0 0,.slice none 0 0,.slice none 0 0] 32)) (w.heap.size+1) 32 [.slice none 0 0,.slice none 0 0,.slice none 0 0,.slice none 0 0,.slice none 0 0]:=Row.newG (W:=(w.alloc (.cells #[.slice A1 n1 c1,.slice A2 n2 c2] 27))) 32 [.slice none 0 0,.slice none 0 0,.slice none 0 0,.slice none 0 0,.slice none 0 0] (by simp)
 go_enter Tryz.func13,Tryz.ntmps13
 go_wp2_with fail
 refine (c_IsBook A1 A2 n1 c1 n2 c2 ns ps A n c xs _ (h1.ext x0) (h2.ext x0) (hs.ext x0)).mono ?_
 rw [hb]
 rintro e w1 ⟨rfl,hx1⟩
 have X1:=x0.trans hx1
 have hz1:=hx1.size
 simp at hz1
 go_wp2_with fail
 refine (c_RecoverEvents l hl _ (hg.ext X1)).mono ?_
 rintro e w2 ⟨EA,ec,rfl,heo,heb,hx2⟩
 have X2:=X1.trans hx2
 have hx12:=hx1.trans hx2
 by_cases hlong:20000<l.length
 ·have hE:recR l=([],0,3):=by unfold recR; rw [if_pos hlong]
  have HR:=hide (show repV n1 ns ps xs l=(zeroR,0,3) by unfold repV; rw [if_pos hb,if_pos hlong])
  rw [hE] at heo ⊢
  have hcl:=hx12.cell
  have hfr:=hx12.frozen
  have hz2:w.heap.size+1<w2.heap.size:=by have:=hx2.size; omega
  go_wp2
  rw [HR.out]
  refine bodyPost_ret (v:= .tuple #[.agg #[.slice none 0 0,.slice none 0 0,.slice none 0 0,.slice none 0 0,.slice none 0 0],.int .i64 0,.int .i64 3]) (by simp [results,Tryz.results13,go_sem,hcl]) rfl
   ⟨_,_,_,_,_,_,_,_,_,_,_,_,_,_,_,zeroR,rfl,zero_own _ _ _,⟨rfl,rfl,rfl,rfl,rfl⟩,?_⟩
  repeat (refine Ext.setCell ?_ (by first | (simp; done) | (simp; omega) | omega) _)
  exact X2
 have hE:recR l=(recS l,(l.length:Int)-longL l,0):=by unfold recR; rw [if_neg hlong]
 rw [hE] at heo heb ⊢
 simp only at heo heb
 have HR:=hide (show repV n1 ns ps xs l=((replR n1 (newR ns ps xs) (recS l)).1,((replR n1 (newR ns ps xs) (recS l)).2:Int),0) by unfold repV; rw [if_pos hb,if_neg hlong])
 have HB:=hide (newR_val (k:=n1) hb)
 have HEV:=hide (show ∀e∈recS l,evB e=true from recL_valid _ _ _)
 have h300:(recS l).length≤300:=recL_len (splitL 10 l).dropLast maxEv 1
 generalize recS l=es at *
 have hes:=heo.slice event_len
 have hblkE:=fun b hb=>hes.blk (b:=b) hb
 have hcl:=hx12.cell
 have hnl:=hx12.size
 simp at hnl
 go_wp2_with fail
 refine (c_newRoom A1 A2 n1 c1 n2 c2 ns ps A n c xs _ (h1.ext X2) (h2.ext X2) (hs.ext X2) m1 m2 m3).mono ?_
 rintro e w3 ⟨B1,B2,B3,B4,B5,k1,d1,k2,d2,k3,d3,k4,d4,k5,d5,r',rfl,hO,hOl,hx3⟩
 clear hcl
 go_wp2_with fail
 have rB:=Row.new w3 32 [.slice B1 k1 d1,.slice B2 k2 d2,.slice B3 k3 d3,.slice B4 k4 d4,.slice B5 k5 d5]
 have hxg:Ext w3 (w3.alloc (.cells #[.slice B1 k1 d1,.slice B2 k2 d2,.slice B3 k3 d3,.slice B4 k4 d4,.slice B5 k5 d5] 32)):=Ext.alloc _ _
 generalize w3.alloc (.cells #[.slice B1 k1 d1,.slice B2 k2 d2,.slice B3 k3 d3,.slice B4 k4 d4,.slice B5 k5 d5] 32)=Wg at *
 have X3:=X2.trans (hx3.trans hxg)
 have hresg:=hRes.ext ((hx12.trans hx3).trans hxg)
 have hesg:=(hes.ext hx3).ext hxg
 have hz3:=hx3.size
 have hgE:∀b,blkOf EA es.length=some b→b≠w3.heap.size:=fun b hb=>by have:=hblkE b hb; omega
 have hR0:roomB n1 (newR ns ps xs)=true:=HB.out
 obtain ⟨R0,HR0⟩:∃R0,Hid (newR ns ps xs=R0):=⟨_,hide rfl⟩
 have HNS:Hid (R0.ns=ns):=hide (by rw [←HR0.out]; rfl)
 have HN1:=hide h1.len
 rw [HR0.out] at hR0 hOl HR
 have HVR:=hide hR0
 clear hR0 hes hblkE
 go_loopw [13,38] (fun v i wr=>∃k m:Nat,k≤es.length∧v= .int .i64 m∧i= .int .i64 k∧LoopP n1 R0 es w.heap.size Wg wr w3.heap.size k m) (fun _ i _=>es.length-(intOf i).toNat)
 case atStart=>exact ⟨0,0,Nat.zero_le _,rfl,rfl,⟨Turn.refl _,⟨B1,B2,B3,B4,B5,k1,d1,k2,d2,k3,d3,k4,d4,k5,d5,r',rB,(hO.ext hxg).wider (by omega) hxg.size,fun b hb=>by have:=(hO.rblk hb).2; omega,hOl,rfl⟩⟩⟩
 case round=>
  obtain ⟨k,m,hk,rfl,rfl,⟨htn,O1,O2,O3,O4,O5,o1,q1,o2,q2,o3,q3,o4,q4,o5,q5,R,hrow,hRo,hne,hLk,hmm⟩⟩:=hrel
  have XR:=X3.turn htn (fun b hb=>by omega)
  have hm3:m≤300:=by
               have:=replR_count (n:=(n1:Int)) (es.take k) (R0,0); have h2:(es.take k).length≤es.length:=by rw [List.length_take]; omega
               rw [hmm]; unfold replR; omega
  have p0:=hrow.cell 0
  have p1:=hrow.cell 1
  have p2:=hrow.cell 2
  have p3:=hrow.cell 3
  have p4:=hrow.cell 4
  have pf:=hrow.frozen
  have pl:=hrow.lt
  simp only [List.getElem?_cons_zero,List.getElem?_cons_succ] at p0 p1 p2 p3 p4
  have HLK:=hide hLk
  have HMM:=hide hmm
  clear hLk hmm
  by_cases hklt:k<es.length
  ·obtain ⟨b,off,x,hA,hbb,hxk,hc⟩:=(hesg.turn htn (fun b hb hS=>hgE b hb hS)).get hklt
   have t0:=hc 0 _ rfl
   have t1:=hc 1 _ rfl
   have t2:=hc 2 _ rfl
   have t3:=hc 3 _ rfl
   have t4:=hc 4 _ rfl
   simp only [Nat.add_zero] at t0
   subst hA
   have hev:=HEV.out x (List.mem_of_getElem? hxk)
   have HX:=hide hxk
   have hokR:roomB n1 R=true:=by rw [roomB_like HLK.out]; exact replR_ok HVR.out _
   have ho1:o1=n1:=by rw [hRo.at_.s1.len,HLK.out.1,replR_ns,HNS.out]; exact HN1.out.symm
   subst ho1
   have e1:IntKind.i64.wrap ((m:Int)+1)=((m+1:Nat):Int):=by rw [IntWalk.i64_in _ (by omega)]; omega
   clear hxk hc
   go_wp2_with fail
   refine (c_applied O1 O2 O3 O4 O5 o1 q1 o2 q2 o3 q3 o4 q4 o5 q5 R x _ (hRo.at_.ext (Ext.alloc _ _)) hokR hev).mono ?_
   rintro e w5 ⟨C1,C2,C3,C4,C5,j1,f1,j2,f2,j3,f3,j4,f4,j5,f5,r'',rfl,himp,hx5⟩
   have hx45:=(Ext.alloc wr (.cells #[.int .i64 x.kind,.int .i64 x.a,.int .i64 x.b,.int .i64 x.c,.int .i64 x.d] 54)).trans hx5
   have hrow5:=hrow.ext hx45
   have hz45:=hx45.size
   have hzw:w.heap.size≤wr.heap.size:=XR.size
   cases hab:appB (o1:Int) R x
   ·have HST:Hid (replR (o1:Int) R0 (es.take (k+1))=((replR (o1:Int) R0 (es.take k)).1,(replR (o1:Int) R0 (es.take k)).2+1)):=hide (by
     rw [replR_take HX.out]; unfold stepE
     rw [←appB_like HLK.out,if_neg (by rw [hab]; decide)])
    clear himp
    go_wp2_with fail
    go_roundw
    case rel=>
     refine ⟨k+1,m+1,by omega,by first | rfl | (rw [e1]) | go_num,by go_num,⟨(htn.trans (Turn.of_ext hx45)).trans (Turn.of_ext (Ext.alloc _ _)),⟨O1,O2,O3,O4,O5,o1,q1,o2,q2,o3,q3,o4,q4,o5,q5,R,hrow5.ext (Ext.alloc _ _),((hRo.ext hx45).ext (Ext.alloc _ _)).wider (Nat.le_refl _) (by simp; omega),hne,by rw [HST.out]; exact HLK.out,by rw [HST.out]; exact congrArg (· +1) HMM.out⟩⟩⟩
    case measure=>simp [intOf]; omega
   ·obtain ⟨hO5,hl5⟩:=himp hab
    have HST:Hid (replR (o1:Int) R0 (es.take (k+1))=(appR (replR (o1:Int) R0 (es.take k)).1 x,(replR (o1:Int) R0 (es.take k)).2)):=hide (by
     rw [replR_take HX.out]; unfold stepE
     rw [←appB_like HLK.out,if_pos hab])
    have HO5:=hide hO5
    have HL5:=hide hl5
    clear himp hO5 hl5 p0 p1 p2 p3 p4 pf pl
    have p0:=hrow5.cell 0
    have p1:=hrow5.cell 1
    have p2:=hrow5.cell 2
    have p3:=hrow5.cell 3
    have p4:=hrow5.cell 4
    have pf:=hrow5.frozen
    have pl:=hrow5.lt
    simp only [List.getElem?_cons_zero,List.getElem?_cons_succ] at p0 p1 p2 p3 p4
    go_wp2_with fail
    go_roundw
    case rel=>
     have t5:=(Turn.refl (S:=fun b=>b=w3.heap.size) w5).five (g:=w3.heap.size) rfl (.slice C1 j1 f1) (.slice C2 j2 f2) (.slice C3 j3 f3) (.slice C4 j4 f4) (.slice C5 j5 f5)
     refine ⟨k+1,m,by omega,rfl,by go_num,⟨(htn.trans (Turn.of_ext hx45)).trans (t5.allocT _),⟨C1,C2,C3,C4,C5,j1,f1,j2,f2,j3,f3,j4,f4,j5,f5,r'',(five_row hrow5).ext (Ext.alloc _ _),((HO5.out.turnR t5 (fun b hb=>by subst hb; exact ⟨_,hrow5⟩)).ext (Ext.alloc _ _)).wider (by simp; omega) (by simp),fun b hb=> ?_,by rw [HST.out]; exact HL5.out.trans (appR_like HLK.out x),by rw [HST.out]; exact HMM.out⟩⟩⟩
     have hq1:=HO5.out.rblk hb
     have hq2:=hrow.lt
     simp at hq1
     omega
    case measure=>simp [intOf]; omega
  ·obtain rfl:es.length=k:=by omega
   have hres:=hresg.turn htn (fun (e:w.heap.size+1=w3.heap.size)=>by omega)
   have r0:=hres.cell 0
   have r1:=hres.cell 1
   have r2:=hres.cell 2
   have r3:=hres.cell 3
   have r4:=hres.cell 4
   have rf:=hres.frozen
   have rl:=hres.lt
   simp only [List.getElem?_cons_zero,List.getElem?_cons_succ] at r0 r1 r2 r3 r4
   have hRF:=five_row (u0:= .slice O1 o1 q1) (u1:= .slice O2 o2 q2) (u2:= .slice O3 o3 q3) (u3:= .slice O4 o4 q4) (u4:= .slice O5 o5 q5) hres
   have z0:=hRF.cell 0
   have z1:=hRF.cell 1
   have z2:=hRF.cell 2
   have z3:=hRF.cell 3
   have z4:=hRF.cell 4
   simp only [List.getElem?_cons_zero,List.getElem?_cons_succ] at z0 z1 z2 z3 z4
   have t5:=(Turn.refl (S:=fun b=>b=w.heap.size+1) wr).five (g:=w.heap.size+1) rfl (.slice O1 o1 q1) (.slice O2 o2 q2) (.slice O3 o3 q3) (.slice O4 o4 q4) (.slice O5 o5 q5)
   have HF:=hide (show RetRp ((replR (n1:Int) R0 es).1,((replR (n1:Int) R0 es).2:Int),0) w (.returned (.tuple #[.agg #[.slice O1 o1 q1,.slice O2 o2 q2,.slice O3 o3 q3,.slice O4 o4 q4,.slice O5 o5 q5],.int .i64 m,.int .i64 0])) _ from
    ⟨O1,O2,O3,O4,O5,o1,q1,o2,q2,o3,q3,o4,q4,o5,q5,R,by have e:=HMM.out; rw [List.take_length] at e; rw [e],(hRo.turnR t5 (fun b hb=>by subst hb; exact ⟨_,hres⟩)).wider (Nat.le_refl _) (by simp),by have e:=HLK.out; rw [List.take_length] at e; exact e,XR.turn t5 (fun b hb=>by omega)⟩)
   clear hRF hres
   go_wp2_with fail
   rw [HR.out]
   refine bodyPost_ret (v:= .tuple #[.agg #[.slice O1 o1 q1,.slice O2 o2 q2,.slice O3 o3 q3,.slice O4 o4 q4,.slice O5 o5 q5],.int .i64 m,.int .i64 0]) (by simp [results,Tryz.results13,go_sem,z0,z1,z2,z3,z4]) rfl ?_
   exact HF.out
end Go.Proofs.YtinindjjapblcaaGreatDoor
