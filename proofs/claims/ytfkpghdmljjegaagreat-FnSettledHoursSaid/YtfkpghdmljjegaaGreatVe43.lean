/-
  SettleHour of the reference, exactly.
-/
import Derived.Test.YtfkpghdmljjegaaGreatVe42
import Derived.Test.YtfkpghdmljjegaaGreatVe36
import Derived.Test.YtfkpghdmljjegaaGreatVe38
import Derived.Test.YtfkpghdmljjegaaGreatVe29
namespace Go.Proofs.YtfkpghdmljjegaaGreat
open Go.RowKit
def shC (n1:Nat) (ns:List Node) (ps:List Pipe) (xs:List Contract) (L:List Nomination) (h:Int) (rd:List Reading) (band percent price:Int) (ts:List Tier):Int:=
 if netB ns ps=false then 1 else if isTermsB band percent price ts=false then 1 else setV n1 xs (readsB n1 rd) L h
noncomputable def shV (n1:Nat) (ns:List Node) (ps:List Pipe) (xs:List Contract) (L:List Nomination) (h:Int) (rd:List Reading) (band percent price:Int) (ts:List Tier):Stl×Int:=
 if shC n1 ns ps xs L h rd band percent price ts=0 then (stlH ps n1 xs L h rd band percent price ts,0) else (zeroS,shC n1 ns ps xs L h rd band percent price ts)
theorem setV_ok {n1:Nat} {ns:List Node} {ps:List Pipe} {xs:List Contract} {L:List Nomination} {h:Int} {b:Bool} (hn:netB ns ps=true) (hz:setV n1 xs b L h=0):b=true∧HrOk n1 ns ps xs L h:=by
 cases b
 ·exfalso
  unfold setV at hz
  split at hz
  ·cases hz
  ·rw [if_pos rfl] at hz; cases hz
 ·exact ⟨rfl,setC_ok (by rw [←setV_C hn]; exact hz)⟩
theorem shC_ok {n1:Nat} {ns:List Node} {ps:List Pipe} {xs:List Contract} {L:List Nomination} {h:Int} {rd:List Reading} {band percent price:Int} {ts:List Tier} (hz:shC n1 ns ps xs L h rd band percent price ts=0):netB ns ps=true∧isTermsB band percent price ts=true∧readsB n1 rd=true∧HrOk n1 ns ps xs L h:=by
 unfold shC at hz
 split at hz
 ·cases hz
 ·rename_i h1
  split at hz
  ·cases hz
  ·rename_i h2
   have hn:netB ns ps=true:=by simpa using h1
   obtain ⟨a,b⟩:=setV_ok hn hz
   exact ⟨hn,by simpa using h2,a,b⟩
def RetSC (p:Stl×Int) (w:World) (e:Ending) (w':World):Prop:=
 ∃(A0 A1 A2 A3 A4:Option Addr) (n0 c0 n1 c1 n2 c2 n3 c3 n4 c4:Nat) (X:Stl) (z:Int),e= .returned (.tuple #[.agg #[.slice A0 n0 c0,.slice A1 n1 c1,.slice A2 n2 c2,.slice A3 n3 c3,.slice A4 n4 c4],.int .i64 z])∧StlAt w' A0 A1 A2 A3 A4 n0 c0 n1 c1 n2 c2 n3 c3 n4 c4 X∧Ext w w'∧Hid ((X,z)=p)∧StlLo w.heap.size A0 A1 A2 A3 A4 n0 n1 n2 n3 n4∧StlW w' A2 A3 A4 n2 n3 n4
theorem stl_zeroLo (lo:Nat):StlLo lo none none none none none 0 0 0 0 0:=fun b hb=>by simp [blkOf] at hb
theorem stl_zeroW (w:World):StlW w none none none 0 0 0:=⟨fun b hb=>by simp [blkOf] at hb,fun b hb=>by simp [blkOf] at hb,fun b hb=>by simp [blkOf] at hb,fun b hb=>by simp [blkOf] at hb,fun b hb=>by simp [blkOf] at hb⟩
theorem stl_zero (w:World):StlAt w none none none none none 0 0 0 0 0 0 0 0 0 0 zeroS:=
 ⟨SliceOf.nil.2 (by decide),SliceOf.nil.2 (by decide),SliceOf.nil.2 (by decide),SliceOf.nil.2 (by decide),SliceOf.nil.2 (by decide)⟩
set_option maxHeartbeats 2000000 in
theorem c_specSettleHour (A1 A2:Option Addr) (n1 c1 n2 c2:Nat) (ns:List Node) (ps:List Pipe) (A:Option Addr) (n c:Nat) (xs:List Contract) (B:Option Addr) (m d:Nat) (L:List Nomination) (h:Int) (R:Option Addr) (nr cr:Nat) (rd:List Reading) (band percent price:Int) (K:Option Addr) (kn kc:Nat) (ts:List Tier) (w:World) (hs1:SliceOf w 3 Node.cells A1 n1 c1 ns) (hs2:SliceOf w 5 Pipe.cells A2 n2 c2 ps) (hs:SliceOf w 8 Contract.cells A n c xs) (hL:SliceOf w 4 Nomination.cells B m d L) (hR:SliceOf w 2 Reading.cells R nr cr rd) (hK:SliceOf w 2 Tier.cells K kn kc ts) (hnm:∀x∈ns,x.name.size≤1048576):Calls Tryz.prog 65 #[.agg #[.slice A1 n1 c1,.slice A2 n2 c2],.slice A n c,.slice B m d,.int .i64 h,.slice R nr cr,.agg #[.int .i64 band,.int .i64 percent,.int .i64 price,.slice K kn kc]] w (RetSC (shV n1 ns ps xs L h rd band percent price ts) w):=by
 obtain ⟨W0,HW0⟩:∃W0,Hid ((((w.alloc (.cells #[.slice A1 n1 c1,.slice A2 n2 c2] 45)).alloc (.cells #[.int .i64 band,.int .i64 percent,.int .i64 price,.slice K kn kc] 73)).alloc (.cells #[.slice none 0 0,.slice none 0 0,.slice none 0 0,.slice none 0 0,.slice none 0 0] 28))=W0):=⟨_,hide rfl⟩
 have hN:Row W0 w.heap.size 45 [.slice A1 n1 c1,.slice A2 n2 c2]:=by rw [←HW0.out]; exact ((Row.new w 45 [.slice A1 n1 c1,.slice A2 n2 c2]).ext (Ext.alloc _ _)).ext (Ext.alloc _ _)
 have hT:Row W0 (w.heap.size+1) 73 [.int .i64 band,.int .i64 percent,.int .i64 price,.slice K kn kc]:=by rw [←HW0.out]; exact (Row.newG (W:=(w.alloc (.cells #[.slice A1 n1 c1,.slice A2 n2 c2] 45))) _ [.int .i64 band,.int .i64 percent,.int .i64 price,.slice K kn kc] (by simp)).ext (Ext.alloc _ _)
 have hS:Row W0 (w.heap.size+2) 28 [.slice none 0 0,.slice none 0 0,.slice none 0 0,.slice none 0 0,.slice none 0 0]:=by rw [←HW0.out]; exact Row.newG (W:=((w.alloc (.cells #[.slice A1 n1 c1,.slice A2 n2 c2] 45)).alloc (.cells #[.int .i64 band,.int .i64 percent,.int .i64 price,.slice K kn kc] 73))) _ [.slice none 0 0,.slice none 0 0,.slice none 0 0,.slice none 0 0,.slice none 0 0] (by simp)
 have hx0:Ext w W0:=by rw [←HW0.out]; exact ((Ext.alloc _ _).and_alloc _).and_alloc _
 have hz0:w.heap.size+3=W0.heap.size:=by rw [←HW0.out]; simp
 have HNM:=hide hnm
 have hm1:n1≤9223372036854775807:=Nat.le_trans hs1.cap hs1.max
 have hb0:=hN.cell 0
 have hb1:=hN.cell 1
 simp at hb0 hb1
 have hbl:=hN.lt
 obtain ⟨Z,HZ⟩:∃Z,Hid (shC n1 ns ps xs L h rd band percent price ts=Z):=⟨_,hide rfl⟩
 have HBAD:Hid (Z≠0→shV n1 ns ps xs L h rd band percent price ts=(zeroS,Z)):=hide (fun h=>by unfold shV; rw [HZ.out,if_neg h])
 clear hnm
 go_enter Tryz.func65,Tryz.ntmps65
 go_wp2_with fail
 rw [HW0.out]
 refine (c_specIsNetwork A1 A2 n1 c1 n2 c2 ns ps _ (hs1.ext hx0) (hs2.ext hx0) HNM.out).mono ?_
 cases hnet:netB ns ps
 ·have hZ1:Z=1:=by rw [←HZ.out]; unfold shC; rw [if_pos hnet]
  have HR:Hid (shV n1 ns ps xs L h rd band percent price ts=(zeroS,1)):=hide (by rw [HBAD.out (by omega),hZ1])
  clear hnet hZ1
  rintro e w1 ⟨rfl,hx1⟩
  have hSr:=hS.ext hx1
  have r0:=hSr.cell 0
  have r1:=hSr.cell 1
  have r2:=hSr.cell 2
  have r3:=hSr.cell 3
  have r4:=hSr.cell 4
  simp at r0 r1 r2 r3 r4
  have rf:=hSr.frozen
  have rl:=hSr.lt
  have hRF:=five_rowS (u0:= .slice none 0 0) (u1:= .slice none 0 0) (u2:= .slice none 0 0) (u3:= .slice none 0 0) (u4:= .slice none 0 0) hSr
  have tS:=Turn.fiveS (g:=w.heap.size+2) w1 (.slice none 0 0) (.slice none 0 0) (.slice none 0 0) (.slice none 0 0) (.slice none 0 0)
  have f0:=hRF.cell 0
  have f1:=hRF.cell 1
  have f2:=hRF.cell 2
  have f3:=hRF.cell 3
  have f4:=hRF.cell 4
  simp at f0 f1 f2 f3 f4
  have HXF:=hide ((hx0.trans hx1).turn tS (fun b hb=>by omega))
  clear hRF tS hSr
  go_wp2_with fail
  refine bodyPost_ret (v:= .tuple #[.agg #[.slice none 0 0,.slice none 0 0,.slice none 0 0,.slice none 0 0,.slice none 0 0],.int .i64 1]) (by simp [results,Tryz.results65,go_sem,f0,f1,f2,f3,f4]) rfl ?_
  exact ⟨_,_,_,_,_,_,_,_,_,_,_,_,_,_,_,zeroS,_,rfl,stl_zero _,HXF.out,hide HR.out.symm,stl_zeroLo _,stl_zeroW _⟩
 rintro e w1 ⟨rfl,hx1⟩
 have HNT:=hide hnet
 have HZ2:Hid ((if isTermsB band percent price ts=false then 1 else setV n1 xs (readsB n1 rd) L h)=Z):=hide (by rw [←HZ.out]; unfold shC; rw [hnet]; rfl)
 clear hnet hb0 hb1 hbl
 have hTr:=hT.ext hx1
 have y0:=hTr.cell 0
 have y1:=hTr.cell 1
 have y2:=hTr.cell 2
 have y3:=hTr.cell 3
 simp at y0 y1 y2 y3
 have hyl:=hTr.lt
 have hX1:=hx0.trans hx1
 go_wp2_with fail
 refine (c_specIsTerms band percent price K kn kc ts _ (hK.ext hX1)).mono ?_
 cases hte:isTermsB band percent price ts
 ·have hZ1:Z=1:=by rw [←HZ2.out,if_pos hte]
  have HR:Hid (shV n1 ns ps xs L h rd band percent price ts=(zeroS,1)):=hide (by rw [HBAD.out (by omega),hZ1])
  clear hte hZ1 y0 y1 y2 y3 hyl hTr
  rintro e w2 ⟨rfl,hx2⟩
  have hx02:=hx1.trans hx2
  have hSr:=hS.ext hx02
  have r0:=hSr.cell 0
  have r1:=hSr.cell 1
  have r2:=hSr.cell 2
  have r3:=hSr.cell 3
  have r4:=hSr.cell 4
  simp at r0 r1 r2 r3 r4
  have rf:=hSr.frozen
  have rl:=hSr.lt
  have hRF:=five_rowS (u0:= .slice none 0 0) (u1:= .slice none 0 0) (u2:= .slice none 0 0) (u3:= .slice none 0 0) (u4:= .slice none 0 0) hSr
  have tS:=Turn.fiveS (g:=w.heap.size+2) w2 (.slice none 0 0) (.slice none 0 0) (.slice none 0 0) (.slice none 0 0) (.slice none 0 0)
  have f0:=hRF.cell 0
  have f1:=hRF.cell 1
  have f2:=hRF.cell 2
  have f3:=hRF.cell 3
  have f4:=hRF.cell 4
  simp at f0 f1 f2 f3 f4
  have HXF:=hide ((hx0.trans hx02).turn tS (fun b hb=>by omega))
  clear hRF tS hSr
  go_wp2_with fail
  refine bodyPost_ret (v:= .tuple #[.agg #[.slice none 0 0,.slice none 0 0,.slice none 0 0,.slice none 0 0,.slice none 0 0],.int .i64 1]) (by simp [results,Tryz.results65,go_sem,f0,f1,f2,f3,f4]) rfl ?_
  exact ⟨_,_,_,_,_,_,_,_,_,_,_,_,_,_,_,zeroS,_,rfl,stl_zero _,HXF.out,hide HR.out.symm,stl_zeroLo _,stl_zeroW _⟩
 rintro e w2 ⟨rfl,hx2⟩
 have HTE:=hide hte
 have HZ3:Hid (setV n1 xs (readsB n1 rd) L h=Z):=hide (by rw [←HZ2.out,if_neg (by rw [hte]; decide)])
 clear hte y0 y1 y2 y3 hyl hTr
 have hx02:=hx1.trans hx2
 have hX2:=hx0.trans hx02
 have hNr:=hN.ext hx02
 have hb0:=hNr.cell 0
 have hb1:=hNr.cell 1
 simp at hb0 hb1
 have hbl:=hNr.lt
 go_wp2_with fail
 refine (c_l20Book A1 A2 n1 c1 n2 c2 A n c xs _ hm1 (hs.ext hX2)).mono ?_
 cases hbk:bookB n1 xs
 ·have hZ1:Z=3:=by rw [←HZ3.out]; unfold setV; rw [if_pos hbk]
  have HR:Hid (shV n1 ns ps xs L h rd band percent price ts=(zeroS,3)):=hide (by rw [HBAD.out (by omega),hZ1])
  clear hbk hZ1 hb0 hb1 hbl hNr
  rintro e w3 ⟨rfl,hx3⟩
  have hx03:=hx02.trans hx3
  have hSr:=hS.ext hx03
  have r0:=hSr.cell 0
  have r1:=hSr.cell 1
  have r2:=hSr.cell 2
  have r3:=hSr.cell 3
  have r4:=hSr.cell 4
  simp at r0 r1 r2 r3 r4
  have rf:=hSr.frozen
  have rl:=hSr.lt
  have hRF:=five_rowS (u0:= .slice none 0 0) (u1:= .slice none 0 0) (u2:= .slice none 0 0) (u3:= .slice none 0 0) (u4:= .slice none 0 0) hSr
  have tS:=Turn.fiveS (g:=w.heap.size+2) w3 (.slice none 0 0) (.slice none 0 0) (.slice none 0 0) (.slice none 0 0) (.slice none 0 0)
  have f0:=hRF.cell 0
  have f1:=hRF.cell 1
  have f2:=hRF.cell 2
  have f3:=hRF.cell 3
  have f4:=hRF.cell 4
  simp at f0 f1 f2 f3 f4
  have HXF:=hide ((hx0.trans hx03).turn tS (fun b hb=>by omega))
  clear hRF tS hSr
  go_wp2_with fail
  refine bodyPost_ret (v:= .tuple #[.agg #[.slice none 0 0,.slice none 0 0,.slice none 0 0,.slice none 0 0,.slice none 0 0],.int .i64 3]) (by simp [results,Tryz.results65,go_sem,f0,f1,f2,f3,f4]) rfl ?_
  exact ⟨_,_,_,_,_,_,_,_,_,_,_,_,_,_,_,zeroS,_,rfl,stl_zero _,HXF.out,hide HR.out.symm,stl_zeroLo _,stl_zeroW _⟩
 rintro e w3 ⟨rfl,hx3⟩
 have HBK:=hide hbk
 clear hbk hb0 hb1 hbl hNr
 have hx03:=hx02.trans hx3
 have hX3:=hx0.trans hx03
 have hNr:=hN.ext hx03
 have hb0:=hNr.cell 0
 have hb1:=hNr.cell 1
 simp at hb0 hb1
 have hbl:=hNr.lt
 go_wp2_with fail
 refine (c_l28List A1 A2 n1 c1 n2 c2 R nr cr rd _ hm1 (hR.ext hX3)).mono ?_
 cases hrd:readsB n1 rd
 ·have hZ1:Z=3:=by rw [←HZ3.out]; unfold setV; rw [if_neg (by rw [HBK.out]; decide),if_pos hrd]
  have HR:Hid (shV n1 ns ps xs L h rd band percent price ts=(zeroS,3)):=hide (by rw [HBAD.out (by omega),hZ1])
  clear hrd hZ1 hb0 hb1 hbl hNr
  rintro e w4 ⟨rfl,hx4⟩
  have hx04:=hx03.trans hx4
  have hSr:=hS.ext hx04
  have r0:=hSr.cell 0
  have r1:=hSr.cell 1
  have r2:=hSr.cell 2
  have r3:=hSr.cell 3
  have r4:=hSr.cell 4
  simp at r0 r1 r2 r3 r4
  have rf:=hSr.frozen
  have rl:=hSr.lt
  have hRF:=five_rowS (u0:= .slice none 0 0) (u1:= .slice none 0 0) (u2:= .slice none 0 0) (u3:= .slice none 0 0) (u4:= .slice none 0 0) hSr
  have tS:=Turn.fiveS (g:=w.heap.size+2) w4 (.slice none 0 0) (.slice none 0 0) (.slice none 0 0) (.slice none 0 0) (.slice none 0 0)
  have f0:=hRF.cell 0
  have f1:=hRF.cell 1
  have f2:=hRF.cell 2
  have f3:=hRF.cell 3
  have f4:=hRF.cell 4
  simp at f0 f1 f2 f3 f4
  have HXF:=hide ((hx0.trans hx04).turn tS (fun b hb=>by omega))
  clear hRF tS hSr
  go_wp2_with fail
  refine bodyPost_ret (v:= .tuple #[.agg #[.slice none 0 0,.slice none 0 0,.slice none 0 0,.slice none 0 0,.slice none 0 0],.int .i64 3]) (by simp [results,Tryz.results65,go_sem,f0,f1,f2,f3,f4]) rfl ?_
  exact ⟨_,_,_,_,_,_,_,_,_,_,_,_,_,_,_,zeroS,_,rfl,stl_zero _,HXF.out,hide HR.out.symm,stl_zeroLo _,stl_zeroW _⟩
 rintro e w4 ⟨rfl,hx4⟩
 have HRD:=hide hrd
 have HZ4:Hid (setC n1 ns ps xs L h=Z):=hide (by rw [←HZ3.out,hrd,setV_C HNT.out])
 clear hrd hb0 hb1 hbl hNr
 have hx04:=hx03.trans hx4
 have hX4:=hx0.trans hx04
 have hNr:=hN.ext hx04
 have hb0:=hNr.cell 0
 have hb1:=hNr.cell 1
 simp at hb0 hb1
 have hbl:=hNr.lt
 go_wp2_with fail
 refine (c_l31Code A1 A2 n1 c1 n2 c2 ns ps A n c xs B m d L h _ (hs1.ext hX4) (hs2.ext hX4) (hs.ext hX4) (hL.ext hX4) HNM.out).mono ?_
 rw [HZ4.out]
 rintro e w5 ⟨rfl,hx5⟩
 clear hb0 hb1 hbl hNr
 have hx05:=hx04.trans hx5
 have hX5:=hx0.trans hx05
 by_cases h0:Z=0
 ·subst h0
  have HK:=hide (setC_ok HZ4.out)
  have HR:Hid (shV n1 ns ps xs L h rd band percent price ts=(stlH ps n1 xs L h rd band percent price ts,0)):=hide (by unfold shV; rw [if_pos HZ.out])
  have hNr:=hN.ext hx05
  have hb0:=hNr.cell 0
  have hb1:=hNr.cell 1
  simp at hb0 hb1
  have hbl:=hNr.lt
  have hTr:=hT.ext hx05
  have y0:=hTr.cell 0
  have y1:=hTr.cell 1
  have y2:=hTr.cell 2
  have y3:=hTr.cell 3
  simp at y0 y1 y2 y3
  have hyl:=hTr.lt
  go_wp2_with fail
  refine (c_l31Settle A1 A2 n1 c1 n2 c2 ns ps A n c xs B m d L h R nr cr rd band percent price K kn kc ts _ (hs1.ext hX5) (hs2.ext hX5) (hs.ext hX5) (hL.ext hX5) (hR.ext hX5) (hK.ext hX5) HNM.out HK.out HRD.out (valid_of HTE.out)).mono ?_
  rintro e w6 ⟨A0,A1',A2',A3,A4,m0,d0,m1,d1,m2,d2,m3,d3,m4,d4,rfl,hX,hx6,hlo,hW⟩
  clear hb0 hb1 hbl hNr y0 y1 y2 y3 hyl hTr
  have hz5:=hX5.size
  have hz05:=hx05.size
  have hSr:=hS.ext (hx05.trans hx6)
  have r0:=hSr.cell 0
  have r1:=hSr.cell 1
  have r2:=hSr.cell 2
  have r3:=hSr.cell 3
  have r4:=hSr.cell 4
  simp at r0 r1 r2 r3 r4
  have rf:=hSr.frozen
  have rl:=hSr.lt
  have hRF:=five_rowS (u0:= .slice A0 m0 d0) (u1:= .slice A1' m1 d1) (u2:= .slice A2' m2 d2) (u3:= .slice A3 m3 d3) (u4:= .slice A4 m4 d4) hSr
  have tS:=Turn.fiveS (g:=w.heap.size+2) w6 (.slice A0 m0 d0) (.slice A1' m1 d1) (.slice A2' m2 d2) (.slice A3 m3 d3) (.slice A4 m4 d4)
  have f0:=hRF.cell 0
  have f1:=hRF.cell 1
  have f2:=hRF.cell 2
  have f3:=hRF.cell 3
  have f4:=hRF.cell 4
  simp at f0 f1 f2 f3 f4
  have HXF:=hide ((hX5.trans hx6).turn tS (fun b hb=>by omega))
  have HXA:=hide (hX.turn hlo tS (fun b hb=>by omega))
  have HLW:=hide (show StlLo w.heap.size A0 A1' A2' A3 A4 m0 m1 m2 m3 m4 from fun b hb=>by have:=hlo b hb; omega)
  have HW6:=hide (hW.turn tS (fun b hb (e:b=w.heap.size+2)=>by have:=hlo b (.inr (.inr (.inl hb))); omega) (fun b hb (e:b=w.heap.size+2)=>by have:=hlo b (.inr (.inr (.inr (.inl hb)))); omega))
  clear hRF tS hSr hX hlo hW
  go_wp2_with fail
  refine bodyPost_ret (v:= .tuple #[.agg #[.slice A0 m0 d0,.slice A1' m1 d1,.slice A2' m2 d2,.slice A3 m3 d3,.slice A4 m4 d4],.int .i64 0]) (by simp [results,Tryz.results65,go_sem,f0,f1,f2,f3,f4]) rfl ?_
  exact ⟨_,_,_,_,_,_,_,_,_,_,_,_,_,_,_,_,_,rfl,HXA.out,HXF.out,hide HR.out.symm,HLW.out,HW6.out⟩
 ·have HR:Hid (shV n1 ns ps xs L h rd band percent price ts=(zeroS,Z)):=hide (HBAD.out h0)
  have hb:(Z != 0)=true:=by rw [bne_iff_ne]; exact h0
  have hSr:=hS.ext hx05
  have r0:=hSr.cell 0
  have r1:=hSr.cell 1
  have r2:=hSr.cell 2
  have r3:=hSr.cell 3
  have r4:=hSr.cell 4
  simp at r0 r1 r2 r3 r4
  have rf:=hSr.frozen
  have rl:=hSr.lt
  have hRF:=five_rowS (u0:= .slice none 0 0) (u1:= .slice none 0 0) (u2:= .slice none 0 0) (u3:= .slice none 0 0) (u4:= .slice none 0 0) hSr
  have tS:=Turn.fiveS (g:=w.heap.size+2) w5 (.slice none 0 0) (.slice none 0 0) (.slice none 0 0) (.slice none 0 0) (.slice none 0 0)
  have f0:=hRF.cell 0
  have f1:=hRF.cell 1
  have f2:=hRF.cell 2
  have f3:=hRF.cell 3
  have f4:=hRF.cell 4
  simp at f0 f1 f2 f3 f4
  have HXF:=hide ((hx0.trans hx05).turn tS (fun b hb=>by omega))
  clear hRF tS hSr
  go_wp2_with fail
  refine bodyPost_ret (v:= .tuple #[.agg #[.slice none 0 0,.slice none 0 0,.slice none 0 0,.slice none 0 0,.slice none 0 0],.int .i64 Z]) (by simp [results,Tryz.results65,go_sem,f0,f1,f2,f3,f4]) rfl ?_
  exact ⟨_,_,_,_,_,_,_,_,_,_,_,_,_,_,_,zeroS,_,rfl,stl_zero _,HXF.out,hide HR.out.symm,stl_zeroLo _,stl_zeroW _⟩
end Go.Proofs.YtfkpghdmljjegaaGreat
namespace Go.Proofs.YtfkpghdmljjegaaGreat
open Go.RowKit
theorem new_ord2 (W:World) (x y:Order) {g:Nat} (hg:g=W.heap.size):SliceOf (W.alloc (.cells #[.int .i64 x.shipper,.int .i64 x.node,.int .i64 x.amount,.int .i64 x.cls,.int .i64 y.shipper,.int .i64 y.node,.int .i64 y.amount,.int .i64 y.cls] 199)) 4 Order.cells (some ⟨g,0,none⟩) 2 2 [x,y]:=by
 subst hg
 exact RowOf.slice (xs:=[x,y]) (Row.new W 199 ([x,y].flatMap Order.cells)) order_len rfl (by simp)
def RetTS (T:List Trn) (E:List Int) (w:World) (e:Ending) (w':World):Prop:=
 ∃v1 v2,e= .returned (.tuple #[v1,v2])∧OwnL w' w.heap.size 201 4 Trn.cells v1 T∧OwnL w' w.heap.size 2 1 intC v2 E∧Ext w w'
set_option maxHeartbeats 1000000 in
theorem c_curtailedIn (A1 A2:Option Addr) (n1 c1 n2 c2:Nat) (ns:List Node) (ps:List Pipe) (A:Option Addr) (n c:Nat) (xs:List Contract) (B:Option Addr) (m d:Nat) (L:List Nomination) (h:Int) (w:World) (hs1:SliceOf w 3 Node.cells A1 n1 c1 ns) (hs2:SliceOf w 5 Pipe.cells A2 n2 c2 ps) (hs:SliceOf w 8 Contract.cells A n c xs) (hL:SliceOf w 4 Nomination.cells B m d L) (hk:HrOk n1 ns ps xs L h):Calls Tryz.prog 112 #[.agg #[.slice A1 n1 c1,.slice A2 n2 c2],.slice A n c,.slice B m d,.int .i64 h] w (RetTS (lessT ps n1 xs L h) (hrSc ps n1 xs L h) w):=by
 have hB:=Row.new w 45 [.slice A1 n1 c1,.slice A2 n2 c2]
 have hx0:Ext w (w.alloc (.cells #[.slice A1 n1 c1,.slice A2 n2 c2] 45)):=Ext.alloc _ _
 have HLN:=hide hs.len
 have HK:=hide hk
 have hn20:n≤20:=by rw [hs.len]; exact hk.le
 have HTO:=hide (trn_ok hk.bk hk.nm h)
 clear hk
 go_enter Tryz.func112,Tryz.ntmps112
 go_wp2_with fail
 refine (c_FromNominations A1 A2 n1 c1 n2 c2 ns ps A n c xs B m d L h _ (hs1.ext hx0) (hs2.ext hx0) (hs.ext hx0) (hL.ext hx0) (by omega)).mono ?_
 rintro e w1 ⟨v1,E1,z1,rfl,ho1,hx1,HP⟩
 have hp:(E1,z1)=(trnL xs L h,0):=by rw [HP.out]; unfold fnV; rw [if_pos (amC_set HK.out)]
 injection hp with hp1 hp2
 subst hp2
 have HE1:=hide hp1
 rw [←HE1.out] at HTO
 have htl:E1.length=n:=by rw [HE1.out,trnL_len,HLN.out]
 obtain ⟨A4,c4,rfl,hs4⟩:=ho1.sl trn_len (by omega)
 rw [htl] at hs4
 rw [htl]
 clear HP hp1 ho1
 have hX1:=hx0.trans hx1
 have hb0:=(hB.ext hx1).cell 0
 have hb1:=(hB.ext hx1).cell 1
 simp at hb0 hb1
 have hbl:=(hB.ext hx1).lt
 go_wp2_with fail
 refine (c_curtailScales A1 A2 n1 c1 n2 c2 ns ps _ (hs1.ext hX1) (hs2.ext hX1) HK.out.net A4 n c4 E1 hs4 (by omega) HTO.out).mono ?_
 rintro e w2 ⟨v2,E2,rfl,ho2,HE2,hx2⟩
 have HSC:Hid (E2=hrSc ps n1 xs L h):=hide (by rw [HE2.out,HE1.out]; rfl)
 have hscl:E2.length=4:=by rw [HSC.out]; exact hrSc_len _ _ _ _ _
 obtain ⟨A5,c5,rfl,hs5⟩:=ho2.sl intC_len (by omega)
 rw [hscl] at hs5 ho2
 rw [hscl]
 have hX2:=hX1.trans hx2
 go_wp2_with fail
 refine (c_scaledTransports A4 n c4 E1 A5 c5 E2 _ (hs4.ext hx2) hs5 (by omega) n1 HTO.out (by rw [HSC.out]; exact hrSc_in _ _ _ _ _)).mono ?_
 rintro e w3 ⟨v3,E3,rfl,ho3,HE3,hx3⟩
 have HLE:Hid (E3=lessT ps n1 xs L h):=hide (by rw [HE3.out,HE1.out,HSC.out]; rfl)
 have hz1:=hX1.size
 have hz2:=hX2.size
 have ho23:=ho2.ext hx3
 go_wp2_with fail
 go_ret2
 refine ⟨_,_,rfl,?_,?_,hX2.trans hx3⟩
 ·rw [←HLE.out]; exact ho3.lowG hz2
 ·rw [←HSC.out]; exact ho23.lowG hz1
set_option maxHeartbeats 2000000 in
theorem c_hourOrders (A:Option Addr) (n c:Nat) (xs:List Contract) (B:Option Addr) (d:Nat) (ts:List Trn) (w:World) (hs:SliceOf w 8 Contract.cells A n c xs) (hst:SliceOf w 4 Trn.cells B n d ts) (hn:n≤100000) (hb:∀x∈ts,0≤x.amount∧x.amount≤30000):
  Calls Tryz.prog 124 #[.slice A n c,.slice B n d] w (RetO (fun E=>E=ordL xs (ts.map Trn.amount)) w):=by
 have HB:=hide hb
 have HLX:=hide hs.len
 have HLA:=hide hst.len
 clear hb
 obtain ⟨am,ham⟩:∃am,ts.map Trn.amount=am:=⟨_,rfl⟩
 have HAM:=hide ham
 rw [ham]
 clear ham
 go_enter Tryz.func124,Tryz.ntmps124
 go_wp2_with fail
 go_loopw [5,11] (fun v i wr=>∃(k:Nat) (T:List Order),k≤n∧i= .int .i64 k∧T.length=2*k∧Hid (T=ordL (xs.take k) (am.take k))∧OwnL wr w.heap.size 199 4 Order.cells v T∧Ext w wr) (fun _ i _=>n-(intOf i).toNat)
 case atStart=>exact ⟨0,[],Nat.zero_le _,rfl,rfl,hide (by simp [ordL]),OwnL.nil_ _ _ _ _ _,Ext.refl _⟩
 case round=>
  obtain ⟨k,T,hk,rfl,hTk,HT,ho,hx⟩:=hrel
  by_cases hlt:k<n
  ·obtain ⟨b,off,x,hA,hb,hxk,hc⟩:=(hs.ext hx).get hlt
   have hc0:=hc 0 _ rfl
   have hc1:=hc 1 _ rfl
   have hc2:=hc 2 _ rfl
   have hc3:=hc 3 _ rfl
   have hc4:=hc 4 _ rfl
   have hc5:=hc 5 _ rfl
   have hc6:=hc 6 _ rfl
   have hc7:=hc 7 _ rfl
   clear hc
   subst hA
   obtain ⟨ba,oa,t,hB,hba,htk,hct⟩:=(hst.ext hx).get hlt
   have hct2:=hct 2 _ rfl
   clear hct
   subst hB
   simp only [Nat.add_zero] at hc0
   obtain ⟨a,ha⟩:∃a,t.amount=a:=⟨_,rfl⟩
   have hab:=HB.out t (List.mem_of_getElem? htk)
   rw [ha] at hct2 hab
   have hak:am[k]? =some a:=by rw [←HAM.out,List.getElem?_map,htk,Option.map_some,ha]
   have e1:=ord_bd hab
   have HST:Hid (ordL (xs.take (k+1)) (am.take (k+1))=T++[⟨x.shipper,x.entry,a,x.cls⟩,⟨x.shipper,x.exit,-a,x.cls⟩]):=hide (by rw [ordL_step hxk hak, ←HT.out]; rfl)
   have hxz:=hx.size
   obtain ⟨W,HW⟩:∃W,Hid (wr.alloc (.cells #[.int .i64 x.shipper,.int .i64 x.entry,.int .i64 x.exit,.int .i64 x.amount,.int .i64 x.cls,.int .i64 x.start,.int .i64 x.stop,.int .i64 x.price] 153)=W):=⟨_,hide rfl⟩
   have hxW:Ext wr W:=by rw [←HW.out]; exact Ext.alloc _ _
   have hWz:wr.heap.size+1=W.heap.size:=by rw [←HW.out]; simp
   clear hxk hak htk ha
   go_wp2_with (at_builtin; go_must (refine wpList_append_where rfl _ _ 25 rfl w.heap.size 199 _ 4 32 Tryz.underlying25 order_info rfl (by decide) Order.cells order_len order_one _ T rfl (by rw [HW.out]; exact ho.ext (hxW.and_alloc _)) W.heap.size 0 2 2 [⟨x.shipper,x.entry,a,x.cls⟩,⟨x.shipper,x.exit,-a,x.cls⟩] rfl (by rw [HW.out]; exact new_ord2 W ⟨x.shipper,x.entry,a,x.cls⟩ ⟨x.shipper,x.exit,-a,x.cls⟩ rfl) (by omega) (by omega) (by rw [HW.out]; simp; omega) ?_))
   intro v2 w2 ho2 hg2 _
   rw [HW.out] at hg2
   have hx2:=(hx.trans (hxW.and_alloc _)).grown hg2 (fun k hk=>ho.block_le hk)
   clear hg2 ho
   go_wp2_with fail
   go_roundw
   case rel=>exact ⟨k+1,T++[⟨x.shipper,x.entry,a,x.cls⟩,⟨x.shipper,x.exit,-a,x.cls⟩],by omega,by go_num,by simp; omega,hide HST.out.symm,ho2,hx2⟩
   case measure=>simp [intOf]; omega
  ·have hal:am.length=n:=by rw [←HAM.out,List.length_map,HLA.out]
   go_wp2_with fail
   go_ret
   refine ⟨_,T,rfl,ho,hide ?_,hx⟩
   rw [HT.out,List.take_of_length_le (by rw [←HLX.out]; omega),List.take_of_length_le (by omega)]
set_option maxHeartbeats 1000000 in
theorem c_PlannedFlows (A1 A2:Option Addr) (n1 c1 n2 c2:Nat) (ns:List Node) (ps:List Pipe) (A:Option Addr) (n c:Nat) (xs:List Contract) (B:Option Addr) (m d:Nat) (L:List Nomination) (h:Int) (w:World) (hs1:SliceOf w 3 Node.cells A1 n1 c1 ns) (hs2:SliceOf w 5 Pipe.cells A2 n2 c2 ps) (hs:SliceOf w 8 Contract.cells A n c xs) (hL:SliceOf w 4 Nomination.cells B m d L):Calls Tryz.prog 25 #[.agg #[.slice A1 n1 c1,.slice A2 n2 c2],.slice A n c,.slice B m d,.int .i64 h] w (RetLS 2 intC (pfV n1 ns ps xs L h) w):=by
 have hB:=Row.new w 45 [.slice A1 n1 c1,.slice A2 n2 c2]
 have hx0:Ext w (w.alloc (.cells #[.slice A1 n1 c1,.slice A2 n2 c2] 45)):=Ext.alloc _ _
 have HLN:=hide hs.len
 obtain ⟨z,HZ⟩:∃z,Hid (setC n1 ns ps xs L h=z):=⟨_,hide rfl⟩
 go_enter Tryz.func25,Tryz.ntmps25
 go_wp2_with fail
 refine (c_IsNetwork A1 A2 n1 c1 n2 c2 ns ps _ (hs1.ext hx0) (hs2.ext hx0)).mono ?_
 cases hnet:netB ns ps
 ·have HR:Hid (pfV n1 ns ps xs L h=([],1)):=hide (by unfold pfV; rw [if_neg (by rw [setC_net hnet]; decide),setC_net hnet])
  clear hnet
  rintro e w1 ⟨rfl,hx1⟩
  go_wp2_with fail
  go_ret2
  exact RetLS.nil0 (hx0.trans hx1) HR.out.symm
 rintro e w1 ⟨rfl,hx1⟩
 have HNT:=hide hnet
 clear hnet
 have hX1:=hx0.trans hx1
 have hb0:=(hB.ext hx1).cell 0
 have hb1:=(hB.ext hx1).cell 1
 simp at hb0 hb1
 have hbl:=(hB.ext hx1).lt
 go_wp2_with fail
 refine (c_checkSettle A1 A2 n1 c1 n2 c2 ns ps A n c xs B m d L h _ (hs1.ext hX1) (hs2.ext hX1) (hs.ext hX1) (hL.ext hX1) HNT.out none 0 0 [] (SliceOf.nil.2 (by decide)) (fun q hq=>by cases hq)).mono ?_
 rw [show rdB n1 []=true from rfl,setV_C HNT.out,HZ.out]
 rintro e w2 ⟨rfl,hx2⟩
 clear hb0 hb1 hbl
 have hx02:=hx1.trans hx2
 have hX2:=hx0.trans hx02
 have hb0:=(hB.ext hx02).cell 0
 have hb1:=(hB.ext hx02).cell 1
 simp at hb0 hb1
 have hbl:=(hB.ext hx02).lt
 by_cases h0:z=0
 ·subst h0
  have HK:=hide (setC_ok HZ.out)
  have HR:Hid (pfV n1 ns ps xs L h=routR ps n1 (supT n1 (lessT ps n1 xs L h))):=hide (by unfold pfV; rw [if_pos HZ.out])
  have hn20:n≤20:=by rw [HLN.out]; exact HK.out.le
  have hn24:n1≤24:=by rw [hs1.len]; exact (net_pipes HK.out.net).1.n24
  go_wp2_with fail
  refine (c_curtailedIn A1 A2 n1 c1 n2 c2 ns ps A n c xs B m d L h _ (hs1.ext hX2) (hs2.ext hX2) (hs.ext hX2) (hL.ext hX2) HK.out).mono ?_
  rintro e w3 ⟨v1,v2,rfl,ho1,ho2,hx3⟩
  have HLO:=hide (less_ok HK.out.bk HK.out.nm (ps:=ps) h)
  obtain ⟨le,HLE⟩:∃le,Hid (lessT ps n1 xs L h=le):=⟨_,hide rfl⟩
  have hlel:le.length=n:=by rw [←HLE.out,lessT_len,HLN.out]
  rw [HLE.out] at ho1 HLO HR
  obtain ⟨A4,c4,rfl,hs4⟩:=ho1.sl trn_len (by omega)
  obtain ⟨A5,c5,rfl,-⟩:=ho2.sl intC_len (by omega)
  rw [hlel] at hs4
  rw [hlel]
  clear hb0 hb1 hbl ho1 ho2
  have hx03:=hx02.trans hx3
  have hX3:=hx0.trans hx03
  have hb0:=(hB.ext hx03).cell 0
  have hb1:=(hB.ext hx03).cell 1
  simp at hb0 hb1
  have hbl:=(hB.ext hx03).lt
  go_wp2_with fail
  refine wp_region_ph [([0,1,2],3),([],4)] [5,6,7,8] (by kernel_rfl) (by kernel_rfl) (by intro c a w d v h; cases d <;> exact h) ?_
  simp only [wpPh,pickL,nthO]
  repeat (go_big_quiet_step (fail))
  refine wpQuiet_nil ?_
  have hXd:=hX3.drew
  go_wp2_with fail
  refine (c_transportSupplies A1 A2 n1 c1 n2 c2 A4 n c4 le _ (hs4.ext (Ext.refl _).drew) (by omega) (by omega) HLO.out).mono ?_
  rintro e w4 ⟨v4,E4,rfl,ho4,HE4,hx4⟩
  have h4l:E4.length=n1:=by rw [HE4.out]; exact supT_len _ _
  obtain ⟨A7,c7,rfl,hs7⟩:=ho4.sl intC_len (by omega)
  rw [h4l] at hs7
  rw [h4l]
  have hX4:=hXd.trans hx4
  go_wp2_with fail
  refine ⟨hx4,?_⟩
  repeat (go_big_quiet_step (fail))
  refine wpQuiet_nil ?_
  go_wp2_with fail
  refine (c_RouteSupplies A1 A2 n1 c1 n2 c2 ns ps _ (hs1.ext hX4) (hs2.ext hX4) HNT.out A7 c7 E4 hs7).mono ?_
  intro e w5 hrt
  have hrt2:=hrt.low hX4
  obtain ⟨_,_,_,_,_,_,-,-,-,-,-,hx5,-⟩:=hrt
  obtain ⟨A8,n8,c8,g8,l,z,rfl,hr1,hr2,hr3,hr4,hr5,HP⟩:=hrt2
  go_wp2_with fail
  refine ⟨hx5,?_⟩
  repeat (go_big_quiet_step (fail))
  refine wpQuiet_nil ?_
  go_wp2_with fail
  go_ret2
  exact ⟨_,_,_,g8,l,z,rfl,hr1,hr2,hr3,hr4,hr5,hide (by rw [HP.out,HR.out,HE4.out])⟩
 ·have HR:Hid (pfV n1 ns ps xs L h=([],z)):=hide (by unfold pfV; rw [if_neg (by rw [HZ.out]; exact h0),HZ.out])
  have hb:(z != 0)=true:=by rw [bne_iff_ne]; exact h0
  go_wp2_with fail
  go_ret2
  exact RetLS.nil0 hX2 HR.out.symm
end Go.Proofs.YtfkpghdmljjegaaGreat
namespace Go.Proofs.YtfkpghdmljjegaaGreat
theorem Alloc.snoc {os:List Order} {g g':List Int} {rs:List Reading} (h:Alloc os g rs g') {x:Reading} {sh:List Int} (hs:0<sumZ (wts os x)) (hd:Shares (absZ x.amount) (wts os x) sh):Alloc os g (rs++[x]) (addS (sgn x) g' sh):=by
 induction h with
 | nil g=>exact .add hs hd (.nil _)
 | skip hz _ ih=>exact .skip hz (ih)
 | add hs' hd' _ ih=>exact .add hs' hd' (ih)
end Go.Proofs.YtfkpghdmljjegaaGreat
namespace Go.Proofs.YtfkpghdmljjegaaGreat
open Go.RowKit
end Go.Proofs.YtfkpghdmljjegaaGreat
