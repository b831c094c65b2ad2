/-
  SettleHour of the program, exactly.
-/
import Derived.Test.YtfkpghdmljjegaaGreatVe45
import Derived.Test.YtfkpghdmljjegaaGreatVe43
import Derived.Test.YtfkpghdmljjegaaGreatVe20
import Derived.Test.YtfkpghdmljjegaaGreatVe03
import Derived.Test.YtfkpghdmljjegaaGreatVe40
import Derived.Test.YtfkpghdmljjegaaGreatVe41
import Derived.Test.YtfkpghdmljjegaaGreatVe01
import Derived.Test.YtfkpghdmljjegaaGreatVe00
import Derived.JoinedOf
namespace Go.Proofs.YtfkpghdmljjegaaGreat
open Go.RowKit
def RetSK (p:Stl×Int) (w:World) (e:Ending) (w':World):Prop:=
 ∃(A0 A1 A2 A3 A4:Option Addr) (n0 c0 n1 c1 n2 c2 n3 c3 n4 c4:Nat) (X:Stl) (z:Int),e= .returned (.tuple #[.agg #[.slice A0 n0 c0,.slice A1 n1 c1,.slice A2 n2 c2,.slice A3 n3 c3,.slice A4 n4 c4],.int .i64 z])∧StlOwn w' w.heap.size A0 A1 A2 A3 A4 n0 c0 n1 c1 n2 c2 n3 c3 n4 c4 X∧Ext w w'∧Hid ((X,z)=p)
theorem OwnA.nil0 {α:Type} {w:World} {t:TypeId} {f:α→List Value}:OwnA w t f none 0 0 ([]:List α):=⟨rfl,Nat.le_refl _,by omega,fun h=>absurd h (by omega)⟩
theorem own_zero (w:World) (lo:Nat):StlOwn w lo none none none none none 0 0 0 0 0 0 0 0 0 0 zeroS:=
 ⟨OwnA.nil0,OwnA.nil0,OwnA.nil0,OwnA.nil0,OwnA.nil0,fun b hb=>by simp [blkOf] at hb,fun i j b _ hi _=>by
  match i,hi with
  | 0,h=>simp [blkOf] at h
  | 1,h=>simp [blkOf] at h
  | 2,h=>simp [blkOf] at h
  | 3,h=>simp [blkOf] at h
  | 4,h=>simp [blkOf] at h
  | n+5,h=>simp at h⟩
theorem rdB_one {n1:Nat} {R:Option Addr} {nr cr:Nat} {rd:List Reading}:rdB n1 [⟨R,nr,cr,rd⟩]=readsB n1 rd:=by simp [rdB]
theorem StlOwn.low {w:World} {lo lo':Nat} {A0 A1 A2 A3 A4:Option Addr} {n0 c0 n1 c1 n2 c2 n3 c3 n4 c4:Nat} {X:Stl} (h:StlOwn w lo A0 A1 A2 A3 A4 n0 c0 n1 c1 n2 c2 n3 c3 n4 c4 X) (hl:lo'≤lo):StlOwn w lo' A0 A1 A2 A3 A4 n0 c0 n1 c1 n2 c2 n3 c3 n4 c4 X:=
 ⟨h.o0,h.o1,h.o2,h.o3,h.o4,fun b hb=>Nat.le_trans hl (h.lo b hb),h.sep⟩
set_option maxHeartbeats 2000000 in
theorem c_SettleHour (A1 A2:Option Addr) (n1 c1 n2 c2:Nat) (ns:List Node) (ps:List Pipe) (A:Option Addr) (n c:Nat) (xs:List Contract) (B:Option Addr) (m d:Nat) (L:List Nomination) (h:Int) (R:Option Addr) (nr cr:Nat) (rd:List Reading) (band percent price:Int) (K:Option Addr) (kn kc:Nat) (ts:List Tier) (w:World) (hs1:SliceOf w 3 Node.cells A1 n1 c1 ns) (hs2:SliceOf w 5 Pipe.cells A2 n2 c2 ps) (hs:SliceOf w 8 Contract.cells A n c xs) (hL:SliceOf w 4 Nomination.cells B m d L) (hR:SliceOf w 2 Reading.cells R nr cr rd) (hK:SliceOf w 2 Tier.cells K kn kc ts):Calls Tryz.prog 43 #[.agg #[.slice A1 n1 c1,.slice A2 n2 c2],.slice A n c,.slice B m d,.int .i64 h,.slice R nr cr,.agg #[.int .i64 band,.int .i64 percent,.int .i64 price,.slice K kn kc]] w (RetSK (shV n1 ns ps xs L h rd band percent price ts) w):=by
 obtain ⟨W0,HW0⟩:∃W0,Hid ((((w.alloc (.cells #[.slice A1 n1 c1,.slice A2 n2 c2] 45)).alloc (.cells #[.int .i64 band,.int .i64 percent,.int .i64 price,.slice K kn kc] 73)).alloc (.cells #[.slice none 0 0,.slice none 0 0,.slice none 0 0,.slice none 0 0,.slice none 0 0] 28))=W0):=⟨_,hide rfl⟩
 have hN:Row W0 w.heap.size 45 [.slice A1 n1 c1,.slice A2 n2 c2]:=by rw [←HW0.out]; exact ((Row.new w 45 [.slice A1 n1 c1,.slice A2 n2 c2]).ext (Ext.alloc _ _)).ext (Ext.alloc _ _)
 have hT:Row W0 (w.heap.size+1) 73 [.int .i64 band,.int .i64 percent,.int .i64 price,.slice K kn kc]:=by rw [←HW0.out]; exact (Row.newG (W:=(w.alloc (.cells #[.slice A1 n1 c1,.slice A2 n2 c2] 45))) _ [.int .i64 band,.int .i64 percent,.int .i64 price,.slice K kn kc] (by simp)).ext (Ext.alloc _ _)
 have hS:Row W0 (w.heap.size+2) 28 [.slice none 0 0,.slice none 0 0,.slice none 0 0,.slice none 0 0,.slice none 0 0]:=by rw [←HW0.out]; exact Row.newG (W:=((w.alloc (.cells #[.slice A1 n1 c1,.slice A2 n2 c2] 45)).alloc (.cells #[.int .i64 band,.int .i64 percent,.int .i64 price,.slice K kn kc] 73))) _ [.slice none 0 0,.slice none 0 0,.slice none 0 0,.slice none 0 0,.slice none 0 0] (by simp)
 have hx0:Ext w W0:=by rw [←HW0.out]; exact ((Ext.alloc _ _).and_alloc _).and_alloc _
 have hz0:w.heap.size+3=W0.heap.size:=by rw [←HW0.out]; simp
 have hm1:n1≤9223372036854775807:=Nat.le_trans hs1.cap hs1.max
 have hb0:=hN.cell 0
 have hb1:=hN.cell 1
 simp at hb0 hb1
 have hbl:=hN.lt
 obtain ⟨Z,HZ⟩:∃Z,Hid (shC n1 ns ps xs L h rd band percent price ts=Z):=⟨_,hide rfl⟩
 have HBAD:Hid (Z≠0→shV n1 ns ps xs L h rd band percent price ts=(zeroS,Z)):=hide (fun h=>by unfold shV; rw [HZ.out,if_neg h])
 go_enter Tryz.func43,Tryz.ntmps43
 go_wp2_with fail
 rw [HW0.out]
 refine (c_IsNetwork A1 A2 n1 c1 n2 c2 ns ps _ (hs1.ext hx0) (hs2.ext hx0)).mono ?_
 cases hnet:netB ns ps
 ·have hZ1:Z=1:=by rw [←HZ.out]; unfold shC; rw [if_pos hnet]
  have HR:Hid (shV n1 ns ps xs L h rd band percent price ts=(zeroS,1)):=hide (by rw [HBAD.out (by omega),hZ1])
  clear hnet hZ1
  rintro e w1 ⟨rfl,hx1⟩
  have hSr:=hS.ext hx1
  have r0:=hSr.cell 0
  have r1:=hSr.cell 1
  have r2:=hSr.cell 2
  have r3:=hSr.cell 3
  have r4:=hSr.cell 4
  simp at r0 r1 r2 r3 r4
  have rf:=hSr.frozen
  have rl:=hSr.lt
  have hRF:=five_rowS (u0:= .slice none 0 0) (u1:= .slice none 0 0) (u2:= .slice none 0 0) (u3:= .slice none 0 0) (u4:= .slice none 0 0) hSr
  have tS:=Turn.fiveS (g:=w.heap.size+2) w1 (.slice none 0 0) (.slice none 0 0) (.slice none 0 0) (.slice none 0 0) (.slice none 0 0)
  have f0:=hRF.cell 0
  have f1:=hRF.cell 1
  have f2:=hRF.cell 2
  have f3:=hRF.cell 3
  have f4:=hRF.cell 4
  simp at f0 f1 f2 f3 f4
  have HXF:=hide ((hx0.trans hx1).turn tS (fun b hb=>by omega))
  clear hRF tS hSr
  go_wp2_with fail
  refine bodyPost_ret (v:= .tuple #[.agg #[.slice none 0 0,.slice none 0 0,.slice none 0 0,.slice none 0 0,.slice none 0 0],.int .i64 1]) (by simp [results,Tryz.results43,go_sem,f0,f1,f2,f3,f4]) rfl ?_
  exact ⟨_,_,_,_,_,_,_,_,_,_,_,_,_,_,_,zeroS,_,rfl,own_zero _ _,HXF.out,hide HR.out.symm⟩
 rintro e w1 ⟨rfl,hx1⟩
 have HNT:=hide hnet
 have HZ2:Hid ((if isTermsB band percent price ts=false then 1 else setV n1 xs (readsB n1 rd) L h)=Z):=hide (by rw [←HZ.out]; unfold shC; rw [hnet]; rfl)
 clear hnet hb0 hb1 hbl
 have hTr:=hT.ext hx1
 have y0:=hTr.cell 0
 have y1:=hTr.cell 1
 have y2:=hTr.cell 2
 have y3:=hTr.cell 3
 simp at y0 y1 y2 y3
 have hyl:=hTr.lt
 have hX1:=hx0.trans hx1
 go_wp2_with fail
 refine (c_isTerms band percent price K kn kc ts _ (hK.ext hX1)).mono ?_
 cases hte:isTermsB band percent price ts
 ·have hZ1:Z=1:=by rw [←HZ2.out,if_pos hte]
  have HR:Hid (shV n1 ns ps xs L h rd band percent price ts=(zeroS,1)):=hide (by rw [HBAD.out (by omega),hZ1])
  clear hte hZ1 y0 y1 y2 y3 hyl hTr
  rintro e w2 ⟨rfl,hx2⟩
  have hx02:=hx1.trans hx2
  have hSr:=hS.ext hx02
  have r0:=hSr.cell 0
  have r1:=hSr.cell 1
  have r2:=hSr.cell 2
  have r3:=hSr.cell 3
  have r4:=hSr.cell 4
  simp at r0 r1 r2 r3 r4
  have rf:=hSr.frozen
  have rl:=hSr.lt
  have hRF:=five_rowS (u0:= .slice none 0 0) (u1:= .slice none 0 0) (u2:= .slice none 0 0) (u3:= .slice none 0 0) (u4:= .slice none 0 0) hSr
  have tS:=Turn.fiveS (g:=w.heap.size+2) w2 (.slice none 0 0) (.slice none 0 0) (.slice none 0 0) (.slice none 0 0) (.slice none 0 0)
  have f0:=hRF.cell 0
  have f1:=hRF.cell 1
  have f2:=hRF.cell 2
  have f3:=hRF.cell 3
  have f4:=hRF.cell 4
  simp at f0 f1 f2 f3 f4
  have HXF:=hide ((hx0.trans hx02).turn tS (fun b hb=>by omega))
  clear hRF tS hSr
  go_wp2_with fail
  refine bodyPost_ret (v:= .tuple #[.agg #[.slice none 0 0,.slice none 0 0,.slice none 0 0,.slice none 0 0,.slice none 0 0],.int .i64 1]) (by simp [results,Tryz.results43,go_sem,f0,f1,f2,f3,f4]) rfl ?_
  exact ⟨_,_,_,_,_,_,_,_,_,_,_,_,_,_,_,zeroS,_,rfl,own_zero _ _,HXF.out,hide HR.out.symm⟩
 rintro e w2 ⟨rfl,hx2⟩
 have HTE:=hide hte
 have HZ3:Hid (setV n1 xs (readsB n1 rd) L h=Z):=hide (by rw [←HZ2.out,if_neg (by rw [hte]; decide)])
 clear hte y0 y1 y2 y3 hyl hTr
 have hx02:=hx1.trans hx2
 have hX2:=hx0.trans hx02
 have hNr:=hN.ext hx02
 have hb0:=hNr.cell 0
 have hb1:=hNr.cell 1
 simp at hb0 hb1
 have hbl:=hNr.lt
 obtain ⟨W3,HW3⟩:∃W3,Hid (w2.alloc (.cells #[.slice R nr cr] 60)=W3):=⟨_,hide rfl⟩
 have hx3:Ext w2 W3:=by rw [←HW3.out]; exact Ext.alloc _ _
 have hX3:=hX2.trans hx3
 have hsr:SliceOf W3 1 RS.cells (some ⟨w2.heap.size,0,none⟩) 1 1 [⟨R,nr,cr,rd⟩]:=by rw [←HW3.out]; exact new_one rs_len w2 60 _
 have HRS:Hid (∀q∈([⟨R,nr,cr,rd⟩]:List RS),SliceOf W3 2 Reading.cells q.A q.n q.c q.xs):=hide (fun q hq=>by rw [List.mem_singleton] at hq; subst hq; exact hR.ext hX3)
 go_wp2_with fail
 rw [HW3.out]
 refine (c_checkSettle A1 A2 n1 c1 n2 c2 ns ps A n c xs B m d L h _ (hs1.ext hX3) (hs2.ext hX3) (hs.ext hX3) (hL.ext hX3) HNT.out (some ⟨w2.heap.size,0,none⟩) 1 1 _ hsr HRS.out).mono ?_
 rw [rdB_one,HZ3.out]
 rintro e w5 ⟨rfl,hx5⟩
 clear hb0 hb1 hbl hNr hsr
 have hx05:=(hx02.trans hx3).trans hx5
 have hX5:=hx0.trans hx05
 by_cases h0:Z=0
 ·subst h0
  have HKR:=hide (setV_ok HNT.out HZ3.out)
  have HR:Hid (shV n1 ns ps xs L h rd band percent price ts=(stlH ps n1 xs L h rd band percent price ts,0)):=hide (by unfold shV; rw [if_pos HZ.out])
  have hNr:=hN.ext hx05
  have hb0:=hNr.cell 0
  have hb1:=hNr.cell 1
  simp at hb0 hb1
  have hbl:=hNr.lt
  have hTr:=hT.ext hx05
  have y0:=hTr.cell 0
  have y1:=hTr.cell 1
  have y2:=hTr.cell 2
  have y3:=hTr.cell 3
  simp at y0 y1 y2 y3
  have hyl:=hTr.lt
  go_wp2_with fail
  refine (c_settleHour A1 A2 n1 c1 n2 c2 ns ps A n c xs B m d L h R nr cr rd band percent price K kn kc ts _ (hs1.ext hX5) (hs2.ext hX5) (hs.ext hX5) (hL.ext hX5) (hR.ext hX5) (hK.ext hX5) HKR.out.2 HKR.out.1 (valid_of HTE.out)).mono ?_
  rintro e w6 ⟨A0,A1',A2',A3,A4,m0,d0,m1,d1,m2,d2,m3,d3,m4,d4,rfl,hX,hx6⟩
  clear hb0 hb1 hbl hNr y0 y1 y2 y3 hyl hTr
  have hz5:=hX5.size
  have hz05:=hx05.size
  have hSr:=hS.ext (hx05.trans hx6)
  have r0:=hSr.cell 0
  have r1:=hSr.cell 1
  have r2:=hSr.cell 2
  have r3:=hSr.cell 3
  have r4:=hSr.cell 4
  simp at r0 r1 r2 r3 r4
  have rf:=hSr.frozen
  have rl:=hSr.lt
  have hRF:=five_rowS (u0:= .slice A0 m0 d0) (u1:= .slice A1' m1 d1) (u2:= .slice A2' m2 d2) (u3:= .slice A3 m3 d3) (u4:= .slice A4 m4 d4) hSr
  have tS:=Turn.fiveS (g:=w.heap.size+2) w6 (.slice A0 m0 d0) (.slice A1' m1 d1) (.slice A2' m2 d2) (.slice A3 m3 d3) (.slice A4 m4 d4)
  have f0:=hRF.cell 0
  have f1:=hRF.cell 1
  have f2:=hRF.cell 2
  have f3:=hRF.cell 3
  have f4:=hRF.cell 4
  simp at f0 f1 f2 f3 f4
  have HXF:=hide ((hX5.trans hx6).turn tS (fun b hb=>by omega))
  have HXA:=hide ((hX.turn tS (fun b hb=>by omega)).low hz5)
  clear hRF tS hSr hX
  go_wp2_with fail
  refine bodyPost_ret (v:= .tuple #[.agg #[.slice A0 m0 d0,.slice A1' m1 d1,.slice A2' m2 d2,.slice A3 m3 d3,.slice A4 m4 d4],.int .i64 0]) (by simp [results,Tryz.results43,go_sem,f0,f1,f2,f3,f4]) rfl ?_
  exact ⟨_,_,_,_,_,_,_,_,_,_,_,_,_,_,_,_,_,rfl,HXA.out,HXF.out,hide HR.out.symm⟩
 ·have HR:Hid (shV n1 ns ps xs L h rd band percent price ts=(zeroS,Z)):=hide (HBAD.out h0)
  have hb:(Z != 0)=true:=by rw [bne_iff_ne]; exact h0
  have hSr:=hS.ext hx05
  have r0:=hSr.cell 0
  have r1:=hSr.cell 1
  have r2:=hSr.cell 2
  have r3:=hSr.cell 3
  have r4:=hSr.cell 4
  simp at r0 r1 r2 r3 r4
  have rf:=hSr.frozen
  have rl:=hSr.lt
  have hRF:=five_rowS (u0:= .slice none 0 0) (u1:= .slice none 0 0) (u2:= .slice none 0 0) (u3:= .slice none 0 0) (u4:= .slice none 0 0) hSr
  have tS:=Turn.fiveS (g:=w.heap.size+2) w5 (.slice none 0 0) (.slice none 0 0) (.slice none 0 0) (.slice none 0 0) (.slice none 0 0)
  have f0:=hRF.cell 0
  have f1:=hRF.cell 1
  have f2:=hRF.cell 2
  have f3:=hRF.cell 3
  have f4:=hRF.cell 4
  simp at f0 f1 f2 f3 f4
  have HXF:=hide ((hx0.trans hx05).turn tS (fun b hb=>by omega))
  clear hRF tS hSr
  go_wp2_with fail
  refine bodyPost_ret (v:= .tuple #[.agg #[.slice none 0 0,.slice none 0 0,.slice none 0 0,.slice none 0 0,.slice none 0 0],.int .i64 Z]) (by simp [results,Tryz.results43,go_sem,f0,f1,f2,f3,f4]) rfl ?_
  exact ⟨_,_,_,_,_,_,_,_,_,_,_,_,_,_,_,zeroS,_,rfl,own_zero _ _,HXF.out,hide HR.out.symm⟩
end Go.Proofs.YtfkpghdmljjegaaGreat
namespace Go.Proofs.YtfkpghdmljjegaaGreat
open Go.RowKit
theorem smApart5 {α:Type} {w:World} {g size:Nat} {t:TypeId} {f:α→List Value} {A:Option Addr} {n c:Nat} {xs:List α} (h:SliceOf w size f A n c xs) (hr:Row w g t [.slice none 0 0,.slice none 0 0,.slice none 0 0,.slice none 0 0,.slice none 0 0]) (hf:∀x,∃k,(f x)[0]? =some (.int .i64 k)) (b:Nat) (hb:blkOf A n=some b):b≠g:=by
 intro e
 subst e
 unfold blkOf at hb
 split at hb
 ·cases hb
 ·obtain ⟨h1,h2,h3,h4⟩:=h
  obtain ⟨b',off,hA,hlt,hc⟩:=h4 (by omega)
  rw [hA] at hb
  simp at hb
  subst hb
  obtain ⟨x,hx⟩:∃x,xs[0]? =some x:=⟨_,List.getElem?_eq_getElem (by omega)⟩
  obtain ⟨k,hk⟩:=hf x
  have:=hc 0 x hx 0 _ hk
  rw [hr.cell] at this
  match off+0*size+0,this with
  | 0,h=>simp at h
  | 1,h=>simp at h
  | 2,h=>simp at h
  | 3,h=>simp at h
  | 4,h=>simp at h
  | q+5,h=>simp at h
theorem smFar {w w':World} {g:Nat} {A0 A1 A2 A3 A4:Option Addr} {n0 c0 n1 c1 n2 c2 n3 c3 n4 c4:Nat} {X:Stl} (h:StlAt w A0 A1 A2 A3 A4 n0 c0 n1 c1 n2 c2 n3 c3 n4 c4 X) (hr:Row w g 28 [.slice none 0 0,.slice none 0 0,.slice none 0 0,.slice none 0 0,.slice none 0 0]) (k:Turn (fun b=>b=g) w w'):StlAt w' A0 A1 A2 A3 A4 n0 c0 n1 c1 n2 c2 n3 c3 n4 c4 X:=
 ⟨h.s0.turn k (smApart5 h.s0 hr (fun _=>⟨_,rfl⟩)),h.s1.turn k (smApart5 h.s1 hr (fun _=>⟨_,rfl⟩)),h.s2.turn k (smApart5 h.s2 hr (fun _=>⟨_,rfl⟩)),h.s3.turn k (smApart5 h.s3 hr (fun _=>⟨_,rfl⟩)),h.s4.turn k (smApart5 h.s4 hr (fun _=>⟨_,rfl⟩))⟩
def KStl (X:Stl):Value→World→Prop:=fun v w=>∃(A0 A1 A2 A3 A4:Option Addr) (n0 c0 n1 c1 n2 c2 n3 c3 n4 c4:Nat),v= .agg #[.slice A0 n0 c0,.slice A1 n1 c1,.slice A2 n2 c2,.slice A3 n3 c3,.slice A4 n4 c4]∧StlAt w A0 A1 A2 A3 A4 n0 c0 n1 c1 n2 c2 n3 c3 n4 c4 X
def KSC (R:Stl×Int):Value→World→Prop:=fun v w=>∃a,v= .tuple #[a,.int .i64 R.2]∧KStl R.1 a w
theorem stKStl (X:Stl):stK (KStl X):=fun _ _ _ ⟨A0,A1,A2,A3,A4,n0,c0,n1,c1,n2,c2,n3,c3,n4,c4,h,h1⟩ hx=>⟨A0,A1,A2,A3,A4,n0,c0,n1,c1,n2,c2,n3,c3,n4,c4,h,h1.ext hx⟩
theorem stKSC (R:Stl×Int):stK (KSC R):=fun _ _ _ ⟨a,h,h1⟩ hx=>⟨a,h,stKStl _ _ _ _ h1 hx⟩
theorem HrOk.code {n1:Nat} {ns:List Node} {ps:List Pipe} {xs:List Contract} {L:List Nomination} {h:Int} (hk:HrOk n1 ns ps xs L h):setC n1 ns ps xs L h=0:=by
 unfold setC nomC bookC
 rw [hk.net,hk.bk,hk.nm,hk.hr]
 have:=hk.le
 simp
 omega
theorem shV_ok {n1:Nat} {ns:List Node} {ps:List Pipe} {xs:List Contract} {L:List Nomination} {h:Int} {rd:List Reading} {band percent price:Int} {ts:List Tier} (hk:HrOk n1 ns ps xs L h) (ht:isTermsB band percent price ts=true) (hrd:readsB n1 rd=true):shV n1 ns ps xs L h rd band percent price ts=(stlH ps n1 xs L h rd band percent price ts,0):=by
 unfold shV
 rw [if_pos]
 unfold shC
 rw [hk.net,if_neg (by decide),ht,if_neg (by decide),hrd,setV_C hk.net,hk.code]
end Go.Proofs.YtfkpghdmljjegaaGreat
namespace Go.Proofs.YtfkpghdmljjegaaGreat
open Go.RowKit Go.ChangeShapes Go.WideShapes Go.ChangeAt Go.Deep Go.Joins
set_option maxRecDepth 100000 in
theorem open_bytes {H:Type} {enc:TypeId×Value→H} {w:World} {base b0:Nat} {spare:Nat→Bool} {held:Bool} {r:Reach} {v:Value} {d:DataW H} {p:List MemPlace}
  (hv:Value.okWide Tryz.prog w r b0 22 v) (h:DataW.Trod enc Tryz.prog w base spare held 22 v d p):
  ∃(A:Option Addr) (n c:Nat) (bs:List Int),v= .slice A n c∧SliceOf w 1 byteC A n c bs∧∀z∈bs,0≤z∧z≤255:=by
 obtain ⟨a0,len,cap,rfl⟩:=okWide_slice Tryz.underlying22 hv
 obtain ⟨fuel,hf⟩:=h
 obtain ⟨A,n,c,zs,e,hl,hs⟩:=open_nums Tryz.underlying22 Tryz.underlying5 (by kernel_rfl) hf
 refine ⟨A,n,c,zs,e,hs,fun z hz=> ?_⟩
 have:=hl z hz
 simp [Lit.wf,IntKind.min,IntKind.max,IntKind.signed,IntKind.bits] at this
 omega
set_option maxRecDepth 100000 in
theorem c_big (A:Option Addr) (n c:Nat) (w:World):Calls Tryz.prog 14 #[.slice A n c] w fun e w'=>e= .returned (.bool (decide ((4096:Int)<n)))∧w=w':=by
 go_enter Tryz.func14,Tryz.ntmps14
 go_wp2_with fail
 go_ret
 exact ⟨rfl,rfl⟩
end Go.Proofs.YtfkpghdmljjegaaGreat
namespace Go.Proofs.YtfkpghdmljjegaaGreat
open Go.RowKit
def jA (P:Program) (fn:Func) (s:ChangeSpec) (c:OpenClaim):Bool:=
 c.wf (OpenSpec.ofChange s)&&laidOutB P&&mapsRowed P&&fn.params.all (P.readableRec ·)&&namedTie P c.named s.vars&&(c.stops==[])&&(P.stops==[])&&(c.knobs==[])&&(P.stopKnobs==[])
def jB (P:Program) (f:FuncId) (c:OpenClaim):Bool:=(c.inPlace==P.inPlace f)&&(c.unfollowed==P.unfollowed f)
def jC (P:Program) (f:FuncId) (c:OpenClaim):Bool:=(c.recurses==P.recurses f)&&(c.named==P.varsNamed f)
def jD (P:Program) (fn:Func) (s:ChangeSpec) (c:OpenClaim):Bool:=
 (c.maps==(fn.params.toList++s.plain.varTypes P).any (P.mapsRec ·))&&(c.ifaces==(fn.params.toList++s.plain.varTypes P).any (P.ifacesRec ·))&&(c.mapsOut==P.mapsAmong fn.resultTypes.toList)&&
 (c.loops==(fn.params.toList++s.plain.varTypes P).any (P.loopsFrom ·))&&(c.wideKeys==(fn.params.toList++s.plain.varTypes P++fn.resultTypes.toList).any (P.wideKeysFrom ·))&&
 s.vars.all (P.varReadable ·)&&fn.resultTypes.all (fun t=>P.readableRec t&&decide (t<P.types.size))&&(c.ifacesOut==fn.resultTypes.toList.any (P.ifacesRec ·))&&(c.loopsOut==fn.resultTypes.toList.any (P.loopsFrom ·))
def jE (P:Program) (c:OpenClaim):Bool:=(c.plainKeys==P.plainKeys)&&c.shortTexts.isNone&&P.stopsHeard&&P.mayEnter
def jF (P:Program) (fn:Func) (s:ChangeSpec) (c:OpenClaim):Bool:=
 (c.lifted==P.liftsFinal)&&(P.make==some c.make)&&(c.kinds==(if c.domain.isEmpty then [] else fn.params.toList.map fun t=>match P.underlying t with | some (.int k)=>some k | _=>none))&&(c.pinned==c.pinnedBy)&&
 (c.veiled==(fn.params.toList++s.plain.varTypes P++fn.resultTypes.toList).any (P.veiledRec ·))&&c.veiledFits P fn.params.toList (fn.params.toList++s.plain.varTypes P++fn.resultTypes.toList)
theorem joined_of {P:Program} {f:FuncId} {fn:Func} {s:ChangeSpec} {c:OpenClaim} (hA:jA P fn s c=true) (hB:jB P f c=true) (hC:jC P f c=true) (hD:jD P fn s c=true) (hE:jE P c=true) (hF:jF P fn s c=true):joinedFacts P f fn s c=true:=by
 unfold jA at hA
 unfold jB at hB
 unfold jC at hC
 unfold jD at hD
 unfold jE at hE
 unfold jF at hF
 unfold joinedFacts
 simp only [Bool.and_eq_true] at hA hB hC hD hE hF ⊢
 obtain ⟨⟨⟨⟨⟨⟨⟨⟨a1,a2⟩,a3⟩,a4⟩,a5⟩,a6⟩,a7⟩,a8⟩,a9⟩:=hA
 obtain ⟨⟨⟨⟨⟨⟨⟨⟨d1,d2⟩,d3⟩,d4⟩,d5⟩,d6⟩,d7⟩,d8⟩,d9⟩:=hD
 obtain ⟨⟨⟨e1,e2⟩,e3⟩,e4⟩:=hE
 obtain ⟨⟨⟨⟨⟨f1,f2⟩,f3⟩,f4⟩,f5⟩,f6⟩:=hF
 exact ⟨⟨⟨⟨⟨⟨⟨⟨⟨⟨⟨⟨⟨⟨⟨⟨⟨⟨⟨⟨⟨⟨⟨⟨⟨⟨⟨⟨⟨⟨⟨a1,a2⟩,a3⟩,a4⟩,a5⟩,a6⟩,a7⟩,a8⟩,a9⟩,hB.1⟩,hB.2⟩,hC.1⟩,hC.2⟩,d1⟩,d2⟩,d3⟩,d4⟩,d5⟩,d6⟩,d7⟩,d8⟩,d9⟩,e1⟩,e2⟩,e3⟩,e4⟩,f1⟩,f2⟩,f3⟩,f4⟩,f5⟩,f6⟩
end Go.Proofs.YtfkpghdmljjegaaGreat
