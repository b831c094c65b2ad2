/-
  What flows out of the nodes and whether it is balanced, of the program, for flows that carry the supplies.
-/
import Derived.Test.YtfkpghdmljjegaaGreatVe37
import Derived.Test.YtfkpghdmljjegaaGreatVe03
import Derived.Test.YtfkpghdmljjegaaGreatVe00
import Derived.Test.YtfkpghdmljjegaaGreatVe24
import Derived.Test.YtfkpghdmljjegaaGreatVe17
import Derived.Test.YtfkpghdmljjegaaGreatVe20
namespace Go.Proofs.YtfkpghdmljjegaaGreat
open Go.RowKit
set_option maxHeartbeats 1000000 in
theorem c_EqualI (A A':Option Addr) (n c n' c':Nat) (L:List Int) (w:World) (hs:SliceOf w 1 intC A n c L) (hs':SliceOf w 1 intC A' n' c' L):
  Calls Tryz.prog 155 #[.slice A n c,.slice A' n' c'] w (Ret (.bool true) w):=by
 obtain rfl:n=n':=by rw [hs.len,hs'.len]
 have hm:=hs.max
 have hcp:=hs.cap
 go_enter Tryz.func155,Tryz.ntmps155
 go_wp2_with fail
 go_loopw [13] (fun i wr=>∃(k:Nat),k≤n∧i= .int .i64 k∧Ext w wr) (fun i _=>n-(intOf i).toNat)
 case atStart=>exact ⟨0,Nat.zero_le _,rfl,Ext.refl _⟩
 case round=>
  obtain ⟨k,hk,rfl,hx⟩:=hrel
  by_cases hlt:k<n
  ·obtain ⟨b,off,x,rfl,hb,hxk,hc0⟩:=(hs.ext hx).get1 hlt
   obtain ⟨b',off',x',rfl,hb',hxk',hd0⟩:=(hs'.ext hx).get1 hlt
   obtain rfl:x=x':=by rw [hxk] at hxk'; injection hxk'
   clear hxk hxk'
   go_wp2_with fail
   refine wp_region_later (by kernel_rfl) (by kernel_rfl) ?_
   repeat (go_big_quiet_step (fail))
   refine wpQuiet_nil ?_
   intro w1 hx1
   go_wp2_with fail
   go_roundw
   case rel=>exact ⟨k+1,by omega,by go_num,hx.trans hx1⟩
   case measure=>simp [intOf]; omega
  ·go_wp2_with fail
   go_ret
   exact Ret.bool rfl hx
set_option maxHeartbeats 2000000 in
theorem c_outflows (A1 A2:Option Addr) (n1 c1 n2 c2:Nat) (ps:List Pipe) (A:Option Addr) (n c:Nat) (f:List Int) (w:World) (hs2:SliceOf w 5 Pipe.cells A2 n2 c2 ps) (hf:SliceOf w 1 intC A n c f) (hn1:n1≤100000) (hn:n2≤100000) (hnn:n=n2) (he:EndsN n1 ps) (hb:∀z∈f,-30000≤z∧z≤30000):
  Calls Tryz.prog 156 #[.agg #[.slice A1 n1 c1,.slice A2 n2 c2],.slice A n c] w (RetI (fun E=>E=supT n1 (ofT ps f)) w):=by
 have hx0:Ext w (w.alloc (.cells #[.slice A1 n1 c1,.slice A2 n2 c2] 45)):=Ext.alloc _ _
 have hmk:=fun W=>run_make_flat (P:=Tryz.prog) 24 2 _ _ 1 8 Tryz.underlying24 int_info (f:=intC) 0 rfl rfl rfl (by omega) n1 (by omega) (by omega) W
 have HBD:=hide hb
 have HE:=hide he
 have HLF:=hide hf.len
 have HLP:=hide hs2.len
 have HNN:=hide hnn
 clear hnn
 clear hb he
 go_enter Tryz.func156,Tryz.ntmps156
 go_wp2_with fail
 go_loopw [15] (fun i wr=>∃k:Nat,k≤n2∧i= .int .i64 k∧RowOf wr (w.heap.size+1) 2 intC (supT n1 ((ofT ps f).take k))∧Ext (w.alloc (.cells #[.slice A1 n1 c1,.slice A2 n2 c2] 45)) wr) (fun i _=>n2-(intOf i).toNat)
 case atStart=>exact ⟨0,Nat.zero_le _,rfl,Row.newG _ _ (by simp),Ext.alloc _ _⟩
 case round=>
  obtain ⟨k,hk,rfl,hR,hx⟩:=hrel
  obtain ⟨l,HL⟩:∃l,Hid (supT n1 ((ofT ps f).take k)=l):=⟨_,hide rfl⟩
  have hll:l.length=n1:=by rw [←HL.out]; exact supT_len _ _
  rw [HL.out] at hR
  by_cases hlt:k<n2
  ·obtain ⟨b,off,x,hA,hb,hxk,hc⟩:=(hs2.ext (hx0.trans hx)).get hlt
   have HA:=hide hA
   subst hA
   have hc0:=hc 0 _ rfl
   have hc1:=hc 1 _ rfl
   have hc2:=hc 2 _ rfl
   have hc3:=hc 3 _ rfl
   have hc4:=hc 4 _ rfl
   clear hc
   simp only [Nat.add_zero] at hc0
   obtain ⟨bf,oq,z,hAf,hbf,hzk,hfc⟩:=(hf.ext hx0).get1 (k:=k) (by have:=HNN.out; omega)
   subst hAf
   have hkn:k<n:=by have:=HNN.out; omega
   have HFC:=hide (fun (W:World) (hW:Ext _ W)=>(⟨Nat.lt_of_lt_of_le hbf hW.size,(hW.cell _ _ hbf).trans hfc⟩:bf<W.heap.size∧W.cell? ⟨bf,oq+k,none⟩=some (.int .i64 z)))
   clear hfc hbf
   have hzb:=HBD.out z (List.mem_of_getElem? hzk)
   have hxb:=HE.out x (List.mem_of_getElem? hxk)
   have hTk:(ofT ps f)[k]? =some (trnP x z):=ofT_get hxk hzk
   obtain ⟨⟨he0,he1⟩,⟨hx0',hx1⟩,hne0⟩:=hxb
   obtain ⟨y1,hy1⟩:∃y:Nat,x.src=y:=⟨x.src.toNat,by omega⟩
   obtain ⟨y2,hy2⟩:∃y:Nat,x.dst=y:=⟨x.dst.toNat,by omega⟩
   have hyn1:y1<n1:=by omega
   have hyn2:y2<n1:=by omega
   have hbd:=supT_bd2 (N:=n1) (ofT ps f) (ofT_bd HBD.out) k
   rw [HL.out] at hbd
   obtain ⟨a1,hl1⟩:∃a,l[y1]? =some a:=⟨_,List.getElem?_eq_getElem (by omega)⟩
   obtain ⟨s1,hs1⟩:∃s1,a1+z=s1:=⟨_,rfl⟩
   obtain ⟨a2,hl2⟩:∃a,(l.set y1 s1)[y2]? =some a:=⟨_,List.getElem?_eq_getElem (by rw [List.length_set]; omega)⟩
   obtain ⟨s2,hs2'⟩:∃s2,a2-z=s2:=⟨_,rfl⟩
   have hb1:=hbd a1 (List.mem_of_getElem? hl1)
   have hb2: -(60000*(k:Int)+30000)≤a2∧a2≤60000*k+30000:=by
    rcases List.mem_or_eq_of_mem_set (List.mem_of_getElem? hl2) with h | h
    ·have:=hbd a2 h; omega
    ·omega
   have e1:IntKind.i64.wrap (a1+z)=s1:=by rw [←hs1]; exact IntWalk.i64_in _ (by omega)
   have e2:IntKind.i64.wrap (a2-z)=s2:=by rw [←hs2']; exact IntWalk.i64_in _ (by omega)
   have HST:Hid (supT n1 ((ofT ps f).take (k+1))=(l.set y1 s1).set y2 s2):=hide (by
    rw [supT_take hTk,HL.out]
    unfold supStep
    show (l.set x.src.toNat (zAt l x.src.toNat+z)).set x.dst.toNat (zAt (l.set x.src.toNat (zAt l x.src.toNat+z)) x.dst.toNat-z)=_
    rw [hy1,hy2,Int.toNat_natCast,Int.toNat_natCast,zAt_some hl1,hs1,zAt_some hl2,hs2'])
   have hle:=hR.lt
   have HL1:=hide hl1
   have HL2:=hide hl2
   rw [hy1] at hc0
   rw [hy2] at hc1
   have HX:=hide hx
   have HR:=hide hR
   clear hbd hl1 hl2 hs1 hs2' hb1 hb2 hxk hzk hTk HL hx hR
   go_wp2_with fail
   obtain ⟨W1,HW1⟩:∃W1,Hid ((wr.alloc (.cells #[.int .i64 y1,.int .i64 y2,.int .i64 x.k,.int .i64 x.volume,.int .i64 x.limit] 181))=W1):=⟨_,hide rfl⟩
   rw [HW1.out]
   have hbx:Row W1 wr.heap.size 181 [.int .i64 y1,.int .i64 y2,.int .i64 x.k,.int .i64 x.volume,.int .i64 x.limit]:=by rw [←HW1.out]; exact Row.new wr 181 [.int .i64 y1,.int .i64 y2,.int .i64 x.k,.int .i64 x.volume,.int .i64 x.limit]
   have hx1':Ext wr W1:=by rw [←HW1.out]; exact Ext.alloc _ _
   obtain ⟨g,hg⟩:∃g,wr.heap.size=g:=⟨_,rfl⟩
   rw [hg] at hbx hle
   have q0:=hbx.cell 0
   simp at q0
   have hbl:=hbx.lt
   have hne:g≠w.heap.size+1:=by omega
   have hR1:=(HR.out.ext hx1')
   have hX1:=HX.out.trans hx1'
   have hcl1:=hR1.get intC_len HL1.out (j:=0) rfl
   simp only [Nat.mul_one,Nat.add_zero] at hcl1
   have hfr:=hR1.frozen y1
   have hl1:=hR1.lt
   obtain ⟨hbf1,hfc1⟩:=HFC.out _ hX1
   have hR2:=(RowOf.set0 hR1 (fun x=>⟨_,rfl⟩) (d:=y1) (by omega) s1 (.int .i64 s1) rfl).drew
   have hX2:=(hX1.setCell (p:=⟨w.heap.size+1,y1,none⟩) (by simp) (.int .i64 s1)).drew
   have hbx2:=hbx.far (p:=⟨w.heap.size+1,y1,none⟩) hne (.int .i64 s1)
   clear hc0 hc1 hc2 hc3 hc4 hb hbx hx1'
   refine wp_region_phZ [(g,0),(w.heap.size+1,y1),(bf,oq+k)] [] [0,1,2,3,4,5,6,7,8,9,10] 11 (by kernel_rfl) (by kernel_rfl) (by intro c a w d v h; cases d <;> exact h) ?_
   simp only [wpPhZ,pickL,nthO]
   repeat (go_big_quiet_step (fail))
   refine wpQuiet_nil ?_
   set_option maxRecDepth 20000 in
   go_wp2_with fail
   obtain ⟨W2,HW2⟩:∃W2,Hid ((W1.setCell ⟨w.heap.size+1,y1,none⟩ (.int .i64 s1)).drew=W2):=⟨_,hide rfl⟩
   have hbx3:Row W2 g 181 [.int .i64 y1,.int .i64 y2,.int .i64 x.k,.int .i64 x.volume,.int .i64 x.limit]:=by rw [←HW2.out]; exact hbx2.drew
   rw [HW2.out] at hR2 hX2
   generalize (W1.setCell ⟨w.heap.size+1,y1,none⟩ (.int .i64 s1)).drew=W3 at *
   obtain rfl:W3=W2:=HW2.out
   have r1:=hbx3.cell 1
   simp at r1
   have hbl2:=hbx3.lt
   have hf2:=hR2.frozen y2
   have hcl2:=hR2.get intC_len HL2.out (j:=0) rfl
   simp only [Nat.mul_one,Nat.add_zero] at hcl2
   have hle2:=hR2.lt
   obtain ⟨hbf2,hfc2⟩:=HFC.out _ hX2
   have hR3:=RowOf.set0 (hR2.ext (Ext.refl _).drew) (fun x=>⟨_,rfl⟩) (d:=y2) (by rw [List.length_set]; omega) s2 (.int .i64 s2) rfl
   have hX3:=hX2.drew.setCell (p:=⟨w.heap.size+1,y2,none⟩) (by simp) (.int .i64 s2)
   clear hR1 hX1 hR2 hX2 hbx2 hbx3 q0 hcl1 hfr hbl hfc1 hbf1
   refine wp_region_phZ [(g,1),(w.heap.size+1,y2),(bf,oq+k)] [] [0,1,2,3,4,5,6,7,8,9,10] 11 (by kernel_rfl) (by kernel_rfl) (by intro c a w d v h; cases d <;> exact h) ?_
   simp only [wpPhZ,pickL,nthO]
   repeat (go_big_quiet_step (fail))
   refine wpQuiet_nil ?_
   set_option maxRecDepth 20000 in
   go_wp2_with fail
   go_roundw
   case rel=>exact ⟨k+1,by omega,by go_num,by rw [HST.out]; exact hR3,hX3⟩
   case measure=>simp [intOf]; omega
  ·have HE2:Hid (l=supT n1 (ofT ps f)):=hide (by rw [←HL.out,List.take_of_length_le (by rw [ofT_len, ←HLF.out, ←HLP.out]; have:=HNN.out; omega)])
   have hle:=hR.lt
   go_wp2_with fail
   go_ret
   have hO:=OwnL.of_row hR intC_len (base:=w.heap.size) (by omega) (by omega)
   rw [hll] at hO
   exact ⟨_,l,rfl,hO,HE2,hx0.trans hx⟩
set_option maxHeartbeats 1000000 in
theorem c_IsBalanced (A1 A2:Option Addr) (n1 c1 n2 c2:Nat) (ns:List Node) (ps:List Pipe) (w:World) (hs1:SliceOf w 3 Node.cells A1 n1 c1 ns) (hs2:SliceOf w 5 Pipe.cells A2 n2 c2 ps) (hnet:netB ns ps=true) (A:Option Addr) (n c:Nat) (f:List Int) (B:Option Addr) (d:Nat) (sup:List Int) (hf:SliceOf w 1 intC A n c f) (hs:SliceOf w 1 intC B n1 d sup) (hF:Flows ps n1 sup f) (hsb:supB sup=true):
  Calls Tryz.prog 81 #[.agg #[.slice A1 n1 c1,.slice A2 n2 c2],.slice A n c,.slice B n1 d] w (Ret (.bool true) w):=by
 obtain ⟨W,HW⟩:∃W,Hid ((w.alloc (.cells #[.slice A1 n1 c1,.slice A2 n2 c2] 45))=W):=⟨_,hide rfl⟩
 have hB:Row W w.heap.size 45 [.slice A1 n1 c1,.slice A2 n2 c2]:=by rw [←HW.out]; exact Row.new w 45 [.slice A1 n1 c1,.slice A2 n2 c2]
 have hx0:Ext w W:=by rw [←HW.out]; exact Ext.alloc _ _
 have hP:PipesN n1 ps:=by rw [hs1.len]; exact (net_pipes hnet).1
 have HEQ:=hide (out_sup hP hs.len.symm hF)
 have HP:=hide hP
 have HNT:=hide hnet
 have HF:=hide hF
 have HSB:=hide hsb
 have h24:n1≤24:=hP.n24
 have h40:n2≤40:=by rw [hs2.len]; exact hP.p40
 have hnn:n=n2:=by rw [hf.len,hF.len,hs2.len]
 have HNN:=hide hnn
 clear hnet hF hsb hP hnn
 go_enter Tryz.func81,Tryz.ntmps81
 go_wp2_with fail
 rw [HW.out]
 refine (c_IsNetwork A1 A2 n1 c1 n2 c2 ns ps _ (hs1.ext hx0) (hs2.ext hx0)).mono ?_
 rw [HNT.out]
 rintro e w1 ⟨rfl,hx1⟩
 have X1:=hx0.trans hx1
 have hb0:=(hB.ext (hx1)).cell 0
 have hb1:=(hB.ext (hx1)).cell 1
 simp at hb0 hb1
 have hbl:=(hB.ext (hx1)).lt
 go_wp2_with fail
 refine (c_isFlowList A1 A2 n1 c1 n2 c2 A n c f _ (hf.ext X1) HNN.out (by omega) HF.out.bd).mono ?_
 rintro e w2 ⟨rfl,hx2⟩
 have X2:=X1.trans hx2
 clear hb0 hb1 hbl
 have hb0:=(hB.ext (hx1.trans hx2)).cell 0
 have hb1:=(hB.ext (hx1.trans hx2)).cell 1
 simp at hb0 hb1
 have hbl:=(hB.ext (hx1.trans hx2)).lt
 go_wp2_with fail
 refine (c_areSupplies A1 A2 n1 c1 n2 c2 B n1 d sup _ (hs.ext X2)).mono ?_
 rw [beq_self_eq_true,Bool.true_and,HSB.out]
 rintro e w3 ⟨rfl,hx3⟩
 have X3:=X2.trans hx3
 clear hb0 hb1 hbl
 have hb0:=(hB.ext ((hx1.trans hx2).trans hx3)).cell 0
 have hb1:=(hB.ext ((hx1.trans hx2).trans hx3)).cell 1
 simp at hb0 hb1
 have hbl:=(hB.ext ((hx1.trans hx2).trans hx3)).lt
 go_wp2_with fail
 refine (c_outflows A1 A2 n1 c1 n2 c2 ps A n c f _ (hs2.ext X3) (hf.ext X3) (by omega) (by omega) HNN.out HP.out.ends HF.out.bd).mono ?_
 rintro e w4 ⟨v,E,rfl,ho,HE,hx4⟩
 obtain rfl:E=sup:=by rw [HE.out,HEQ.out]
 obtain ⟨B4,d4,rfl,hs4⟩:=ho.sl intC_len (by omega)
 have X4:=X3.trans hx4
 clear hb0 hb1 hbl
 go_wp2_with fail
 refine (c_EqualI B4 B E.length d4 n1 d E _ hs4 (hs.ext X4)).mono ?_
 rintro e w5 ⟨rfl,hx5⟩
 go_wp2_with fail
 go_ret
 exact Ret.bool rfl (X4.trans hx5)
end Go.Proofs.YtfkpghdmljjegaaGreat
namespace Go.Proofs.YtfkpghdmljjegaaGreat
open Go.RowKit
structure Posting where
 debit:Int
 credit:Int
 gas:Int
 money:Int
def Posting.cells (p:Posting):List Value:=[.int .i64 p.debit,.int .i64 p.credit,.int .i64 p.gas,.int .i64 p.money]
theorem post_len (p:Posting):p.cells.length=4:=rfl
def postB (p:Posting):Bool:=inB p.debit 0 23&&inB p.credit 0 23&&(p.debit != p.credit)&&inB p.gas (-1000000000) 1000000000&&inB p.money (-1000000000000000) 1000000000000000
theorem c_l30Account (n:Int) (w:World):
  Calls Tryz.prog 231 #[.int .i64 n] w fun e w'=>e= .returned (.bool (inB n 0 23))∧w=w':=by
 go_enter Tryz.func231,Tryz.ntmps231
 go_wp2_with (go_at_call 169; refine (c_l01In _ _ _ _).mono ?_; rintro e w' ⟨rfl,rfl⟩)
 go_ret
 exact ⟨rfl,rfl⟩
theorem c_l29BalanceL (n:Int) (w:World):
  Calls Tryz.prog 174 #[.int .i64 n] w fun e w'=>e= .returned (.bool (inB n (-1000000000) 1000000000))∧w=w':=by
 go_enter Tryz.func174,Tryz.ntmps174
 go_wp2_with (go_at_call 169; refine (c_l01In _ _ _ _).mono ?_; rintro e w' ⟨rfl,rfl⟩)
 go_ret
 exact ⟨rfl,rfl⟩
set_option maxHeartbeats 1000000 in
theorem c_IsPosting (p:Posting) (w:World):
  Calls Tryz.prog 172 #[.agg #[.int .i64 p.debit,.int .i64 p.credit,.int .i64 p.gas,.int .i64 p.money]] w (Ret (.bool (postB p)) w):=by
 obtain ⟨d,c,g,m⟩:=p
 go_enter Tryz.func172,Tryz.ntmps172
 go_wp2_with (go_at_call 164; refine (c_within _ _ _ _).mono ?_; rintro e w' ⟨rfl,rfl⟩)
 all_goals
  go_ret
  refine Ret.bool ?_ (Ext.alloc _ _)
  simp_all [postB]
set_option maxHeartbeats 1000000 in
theorem c_specIsPosting (p:Posting) (w:World):
  Calls Tryz.prog 173 #[.agg #[.int .i64 p.debit,.int .i64 p.credit,.int .i64 p.gas,.int .i64 p.money]] w (Ret (.bool (postB p)) w):=by
 obtain ⟨d,c,g,m⟩:=p
 go_enter Tryz.func173,Tryz.ntmps173
 go_wp2_with (first | (go_at_call 169; refine (c_l01In _ _ _ _).mono ?_; rintro e w' ⟨rfl,rfl⟩) | (go_at_call 231; refine (c_l30Account _ _).mono ?_; rintro e w' ⟨rfl,rfl⟩) | (go_at_call 174; refine (c_l29BalanceL _ _).mono ?_; rintro e w' ⟨rfl,rfl⟩))
 all_goals
  go_ret
  refine Ret.bool ?_ (Ext.alloc _ _)
  simp_all [postB]
end Go.Proofs.YtfkpghdmljjegaaGreat
namespace Go.Proofs.YtfkpghdmljjegaaGreat
open Go.RowKit
def ledB (ps:List Posting):Bool:=decide (ps.length≤300)&&ps.all postB
theorem c_bad (p:Posting) (w:World):
  Calls Tryz.prog 171 #[.agg #[.int .i64 p.debit,.int .i64 p.credit,.int .i64 p.gas,.int .i64 p.money]] w (Ret (.bool (!postB p)) w):=by
 go_enter Tryz.func171,Tryz.ntmps171
 go_wp2_with (go_at_call 172; refine (c_IsPosting p _).mono ?_; rintro e w1 ⟨rfl,hx1⟩)
 go_ret
 exact Ret.bool rfl hx1.box
def FoundIdxP (b:Bool) (w:World) (e:Ending) (w':World):Prop:=∃r:Int,e= .returned (.int .i64 r)∧decide (0≤r)= !b∧Ext w w'
set_option maxHeartbeats 1000000 in
theorem c_IndexFunc (A:Option Addr) (n c:Nat) (ps:List Posting) (w:World) (hs:SliceOf w 4 Posting.cells A n c ps):
  Calls Tryz.prog 230 #[.slice A n c,.func (.func 171) #[] #[]] w (FoundIdxP (ps.all postB) w):=by
 have hm:=hs.max
 have hcap:=hs.cap
 go_enter Tryz.func230,Tryz.ntmps230
 go_wp2_with fail
 go_loopw [4,8] (fun r i wr=>∃k:Nat,k≤n∧r= .int .i64 0∧i= .int .i64 k∧Hid (∀(j:Nat) (p:Posting),j<k→ps[j]? =some p→postB p=true)∧Ext w wr) (fun _ i _=>n-(intOf i).toNat)
 case atStart=>exact ⟨0,Nat.zero_le _,rfl,rfl,hide (fun j p hj=>absurd hj (by omega)),Ext.refl _⟩
 case round=>
  obtain ⟨k,hk,rfl,rfl,HK,hx⟩:=hrel
  by_cases hlt:k<n
  ·obtain ⟨b,off,p,rfl,hb,hxk,hc⟩:=(hs.ext hx).get hlt
   have hc0:=hc 0 _ rfl
   have hc1:=hc 1 _ rfl
   have hc2:=hc 2 _ rfl
   have hc3:=hc 3 _ rfl
   clear hc
   simp only [Nat.add_zero] at hc0
   have HX:=hide hxk
   clear hxk
   cases hp:postB p
   ·go_wp2_with (go_at_call 171; refine (c_bad p _).mono ?_; rw [hp]; rintro e w1 ⟨rfl,hx1⟩)
    go_ret
    refine ⟨k,rfl,?_,hx.trans hx1⟩
    have:ps.all postB=false:=by rw [List.all_eq_false]; exact ⟨p,List.mem_of_getElem? HX.out,by simp [hp]⟩
    rw [this]; simp
   ·go_wp2_with (go_at_call 171; refine (c_bad p _).mono ?_; rw [hp]; rintro e w1 ⟨rfl,hx1⟩)
    go_roundw
    case rel=>
     refine ⟨k+1,by omega,rfl,by go_num,hide fun j q hj hq=> ?_,hx.trans hx1⟩
     by_cases e:j=k
     ·subst e; rw [HX.out] at hq; injection hq with hq; subst hq; exact hp
     ·exact HK.out j q (by omega) hq
    case measure=>simp [intOf]; omega
  ·go_wp2_with fail
   go_ret
   refine ⟨-1,rfl,?_,hx⟩
   have:ps.all postB=true:=by
    rw [List.all_eq_true]; intro q hq
    obtain ⟨j,hj,rfl⟩:=List.mem_iff_getElem.1 hq
    exact HK.out j _ (by have:=hs.len; omega) (List.getElem?_eq_getElem hj)
   rw [this]; simp
theorem c_ContainsFunc (A:Option Addr) (n c:Nat) (ps:List Posting) (w:World) (hs:SliceOf w 4 Posting.cells A n c ps):
  Calls Tryz.prog 170 #[.slice A n c,.func (.func 171) #[] #[]] w (Ret (.bool (!ps.all postB)) w):=by
 go_enter Tryz.func170,Tryz.ntmps170
 go_wp2_with fail
 refine (c_IndexFunc A n c ps _ hs).mono ?_
 rintro e w1 ⟨r,rfl,hr,hx1⟩
 have HR:=hide hr
 clear hr
 go_wp2_with fail
 go_ret
 exact Ret.bool HR.out.symm hx1
theorem c_isLedger (A:Option Addr) (n c:Nat) (ps:List Posting) (w:World) (hs:SliceOf w 4 Posting.cells A n c ps):
  Calls Tryz.prog 91 #[.slice A n c] w (Ret (.bool (ledB ps)) w):=by
 have hm:=hs.max
 have hcap:=hs.cap
 by_cases h3:n≤300
 ·have HR:=hide (show ledB ps=ps.all postB by simp [ledB, ←hs.len,h3])
  go_enter Tryz.func91,Tryz.ntmps91
  go_wp2_with fail
  refine (c_ContainsFunc A n c ps _ hs).mono ?_
  rintro e w1 ⟨rfl,hx1⟩
  go_wp2_with fail
  go_ret
  refine Ret.bool ?_ hx1
  rw [HR.out]
 ·have HR:=hide (show ledB ps=false by simp [ledB, ←hs.len,h3])
  have h3':decide (n≤300)=false:=by simpa using h3
  go_enter Tryz.func91,Tryz.ntmps91
  go_wp2_with fail
  go_ret
  exact Ret.bool HR.out (Ext.refl _)
set_option maxHeartbeats 1000000 in
theorem c_l30List (A:Option Addr) (n c:Nat) (ps:List Posting) (w:World) (hs:SliceOf w 4 Posting.cells A n c ps):
  Calls Tryz.prog 94 #[.slice A n c] w (Ret (.bool (ledB ps)) w):=by
 have hm:=hs.max
 have hcap:=hs.cap
 go_enter Tryz.func94,Tryz.ntmps94
 go_wp2_with fail
 go_loopw [2,3] (fun r i wr=>∃k:Nat,k≤n∧r= .bool false∧i= .int .i64 k∧Hid (∀(j:Nat) (p:Posting),j<k→ps[j]? =some p→postB p=true)∧Ext w wr) (fun _ i _=>n-(intOf i).toNat)
 case atStart=>exact ⟨0,Nat.zero_le _,rfl,rfl,hide (fun j p hj=>absurd hj (by omega)),Ext.refl _⟩
 case round=>
  obtain ⟨k,hk,rfl,rfl,HK,hx⟩:=hrel
  by_cases hlt:k<n
  ·obtain ⟨b,off,p,rfl,hb,hxk,hc⟩:=(hs.ext hx).get hlt
   have hc0:=hc 0 _ rfl
   have hc1:=hc 1 _ rfl
   have hc2:=hc 2 _ rfl
   have hc3:=hc 3 _ rfl
   clear hc
   simp only [Nat.add_zero] at hc0
   have HX:=hide hxk
   clear hxk
   cases hp:postB p
   ·go_wp2_with (go_at_call 173; refine (c_specIsPosting p _).mono ?_; rw [hp]; rintro e w1 ⟨rfl,hx1⟩)
    go_ret
    refine Ret.bool ?_ (hx.trans hx1)
    have:ps.all postB=false:=by rw [List.all_eq_false]; exact ⟨p,List.mem_of_getElem? HX.out,by simp [hp]⟩
    simp [ledB,this]
   ·go_wp2_with (go_at_call 173; refine (c_specIsPosting p _).mono ?_; rw [hp]; rintro e w1 ⟨rfl,hx1⟩)
    go_roundw
    case rel=>
     refine ⟨k+1,by omega,rfl,by go_num,hide fun j q hj hq=> ?_,hx.trans hx1⟩
     by_cases e:j=k
     ·subst e; rw [HX.out] at hq; injection hq with hq; subst hq; exact hp
     ·exact HK.out j q (by omega) hq
    case measure=>simp [intOf]; omega
  ·have:ps.all postB=true:=by
    rw [List.all_eq_true]; intro q hq
    obtain ⟨j,hj,rfl⟩:=List.mem_iff_getElem.1 hq
    exact HK.out j _ (by have:=hs.len; omega) (List.getElem?_eq_getElem hj)
   have HR:=hide (show ledB ps=decide (n≤300) by simp [ledB,this, ←hs.len])
   clear this
   go_wp2_with fail
   go_ret
   exact Ret.bool (by rw [HR.out,Bool.eq_iff_iff]; simp; omega) hx
end Go.Proofs.YtfkpghdmljjegaaGreat
namespace Go.Proofs.YtfkpghdmljjegaaGreat
open Go.RowKit
theorem posting_info:(Tryz.prog.info? 188).map (fun i=>(i.zero,i.size,i.bytes))=some (some (.agg #[.int .i64 0,.int .i64 0,.int .i64 0,.int .i64 0]),4,32):=by kernel_rfl
end Go.Proofs.YtfkpghdmljjegaaGreat
namespace Go.Proofs.YtfkpghdmljjegaaGreat
open Go.RowKit
set_option maxHeartbeats 1000000 in
theorem c_likeInts (A A':Option Addr) (n c n' c':Nat) (ts:List Int) (w:World) (hs:SliceOf w 1 intC A n c ts) (hs':SliceOf w 1 intC A' n' c' ts):
  Calls Tryz.prog 42 #[.slice A n c,.slice A' n' c'] w (Ret (.bool true) w):=by
 have hl:=hs.len
 obtain rfl:n=n':=by rw [hs.len,hs'.len]
 have hm:=hs.max
 have hcp:=hs.cap
 clear hl
 go_enter Tryz.func42,Tryz.ntmps42
 go_wp2_with fail
 go_loopw [5] (fun i wr=>∃(k:Nat),k≤n∧i= .int .i64 k∧Ext w wr) (fun i _=>n-(intOf i).toNat)
 case atStart=>exact ⟨0,Nat.zero_le _,rfl,Ext.refl _⟩
 case round=>
  obtain ⟨k,hk,rfl,hx⟩:=hrel
  by_cases hlt:k<n
  ·obtain ⟨b,off,x,rfl,hb,hxk,hc0⟩:=(hs.ext hx).get1 hlt
   obtain ⟨b',off',x',rfl,hb',hxk',hd0⟩:=(hs'.ext hx).get1 hlt
   obtain rfl:x=x':=by rw [hxk] at hxk'; injection hxk'
   clear hxk hxk'
   go_wp2_with fail
   refine wp_region_later (by kernel_rfl) (by kernel_rfl) ?_
   repeat (go_big_quiet_step (fail))
   refine wpQuiet_nil ?_
   intro w1 hx1
   go_wp2_with fail
   go_roundw
   case rel=>exact ⟨k+1,by omega,by go_num,hx.trans hx1⟩
   case measure=>simp [intOf]; omega
  ·go_wp2_with fail
   go_ret
   exact Ret.bool rfl hx
set_option maxHeartbeats 1000000 in
theorem c_likePostings (A A':Option Addr) (n c n' c':Nat) (ts:List Posting) (w:World) (hs:SliceOf w 4 Posting.cells A n c ts) (hs':SliceOf w 4 Posting.cells A' n' c' ts):
  Calls Tryz.prog 48 #[.slice A n c,.slice A' n' c'] w (Ret (.bool true) w):=by
 have hl:=hs.len
 obtain rfl:n=n':=by rw [hs.len,hs'.len]
 have hm:=hs.max
 have hcp:=hs.cap
 clear hl
 go_enter Tryz.func48,Tryz.ntmps48
 go_wp2_with fail
 go_loopw [5] (fun i wr=>∃(k:Nat),k≤n∧i= .int .i64 k∧Ext w wr) (fun i _=>n-(intOf i).toNat)
 case atStart=>exact ⟨0,Nat.zero_le _,rfl,Ext.refl _⟩
 case round=>
  obtain ⟨k,hk,rfl,hx⟩:=hrel
  by_cases hlt:k<n
  ·obtain ⟨b,off,x,rfl,hb,hxk,hc⟩:=(hs.ext hx).get hlt
   obtain ⟨b',off',x',rfl,hb',hxk',hd⟩:=(hs'.ext hx).get hlt
   obtain rfl:x=x':=by rw [hxk] at hxk'; injection hxk'
   clear hxk hxk'
   have hc0:=hc 0 _ rfl
   have hc1:=hc 1 _ rfl
   have hc2:=hc 2 _ rfl
   have hc3:=hc 3 _ rfl
   have hd0:=hd 0 _ rfl
   have hd1:=hd 1 _ rfl
   have hd2:=hd 2 _ rfl
   have hd3:=hd 3 _ rfl
   simp only [Nat.add_zero] at hc0 hd0
   clear hc hd
   go_wp2_with fail
   refine wp_region_later (by kernel_rfl) (by kernel_rfl) ?_
   repeat (go_big_quiet_step (fail))
   refine wpQuiet_nil ?_
   intro w1 hx1
   go_wp2_with fail
   go_roundw
   case rel=>exact ⟨k+1,by omega,by go_num,hx.trans hx1⟩
   case measure=>simp [intOf]; omega
  ·go_wp2_with fail
   go_ret
   exact Ret.bool rfl hx
end Go.Proofs.YtfkpghdmljjegaaGreat
namespace Go.Proofs.YtfkpghdmljjegaaGreat
open Go.RowKit
end Go.Proofs.YtfkpghdmljjegaaGreat
namespace Go.Proofs.YtfkpghdmljjegaaGreat
open Go.RowKit
set_option maxHeartbeats 1000000 in
theorem c_likeOrders (A A':Option Addr) (n c n' c':Nat) (ts:List Order) (w:World) (hs:SliceOf w 4 Order.cells A n c ts) (hs':SliceOf w 4 Order.cells A' n' c' ts):
  Calls Tryz.prog 75 #[.slice A n c,.slice A' n' c'] w (Ret (.bool true) w):=by
 have hl:=hs.len
 obtain rfl:n=n':=by rw [hs.len,hs'.len]
 have hm:=hs.max
 have hcp:=hs.cap
 clear hl
 go_enter Tryz.func75,Tryz.ntmps75
 go_wp2_with fail
 go_loopw [5] (fun i wr=>∃(k:Nat),k≤n∧i= .int .i64 k∧Ext w wr) (fun i _=>n-(intOf i).toNat)
 case atStart=>exact ⟨0,Nat.zero_le _,rfl,Ext.refl _⟩
 case round=>
  obtain ⟨k,hk,rfl,hx⟩:=hrel
  by_cases hlt:k<n
  ·obtain ⟨b,off,x,rfl,hb,hxk,hc⟩:=(hs.ext hx).get hlt
   obtain ⟨b',off',x',rfl,hb',hxk',hd⟩:=(hs'.ext hx).get hlt
   obtain rfl:x=x':=by rw [hxk] at hxk'; injection hxk'
   clear hxk hxk'
   have hc0:=hc 0 _ rfl
   have hc1:=hc 1 _ rfl
   have hc2:=hc 2 _ rfl
   have hc3:=hc 3 _ rfl
   have hd0:=hd 0 _ rfl
   have hd1:=hd 1 _ rfl
   have hd2:=hd 2 _ rfl
   have hd3:=hd 3 _ rfl
   simp only [Nat.add_zero] at hc0 hd0
   clear hc hd
   go_wp2_with fail
   refine wp_region_later (by kernel_rfl) (by kernel_rfl) ?_
   repeat (go_big_quiet_step (fail))
   refine wpQuiet_nil ?_
   intro w1 hx1
   go_wp2_with fail
   go_roundw
   case rel=>exact ⟨k+1,by omega,by go_num,hx.trans hx1⟩
   case measure=>simp [intOf]; omega
  ·go_wp2_with fail
   go_ret
   exact Ret.bool rfl hx
end Go.Proofs.YtfkpghdmljjegaaGreat
namespace Go.Proofs.YtfkpghdmljjegaaGreat
structure Valid (band percent price:Int) (ts:List Tier):Prop where
 band0:0≤band
 band1:band≤1000000000
 per0:0≤percent
 per1:percent≤100
 pr0:0≤price
 pr1:price≤1000000
 len0:1≤ts.length
 len1:ts.length≤6
 at_:∀(k:Nat) (x:Tier),ts[k]? =some x→1≤x.upto∧x.upto≤1000000000∧0≤x.factor∧x.factor≤1000
 next:∀(k:Nat) (x y:Tier),ts[k]? =some x→ts[k+1]? =some y→x.upto<y.upto∧x.factor≤y.factor
theorem valid_of {band percent price:Int} {ts:List Tier} (h:isTermsB band percent price ts=true):Valid band percent price ts:=by
 unfold isTermsB at h
 simp only [Bool.and_eq_true,inB_true] at h
 obtain ⟨⟨⟨⟨h1,h2⟩,h3⟩,h4⟩,h5⟩:=h
 have hk:∀k,k<ts.length→tierOk ts k=true:=fun k hk=>List.all_eq_true.1 h5 k (by simpa using hk)
 refine ⟨h1.1,h1.2,h2.1,h2.2,h3.1,h3.2,by omega,by omega,?_,?_⟩
 ·intro k x hx
  have:=hk k (List.getElem?_eq_some_iff.1 hx).1
  unfold tierOk at this
  rw [hx] at this
  simp only [Bool.and_eq_true,inB_true] at this
  omega
 ·intro k x y hx hy
  have:=hk (k+1) (List.getElem?_eq_some_iff.1 hy).1
  unfold tierOk at this
  rw [hy] at this
  simp only [hx,stepOk,Bool.and_eq_true,decide_eq_true_eq] at this
  exact this.2
def chg (ex:Int):List Tier→Int→Int
 | [],_=>0
 | [x],b=>if b<ex then (ex-b)*x.factor else 0
 | x::y::r,b=>if b<min ex x.upto then (min ex x.upto-b)*x.factor+chg ex (y::r) (min ex x.upto) else chg ex (y::r) b
theorem chg_nil (ex b:Int):chg ex [] b=0:=rfl
theorem chg_last (ex b:Int) (x:Tier):chg ex [x] b=if b<ex then (ex-b)*x.factor else 0:=rfl
theorem chg_cons (ex b:Int) (x:Tier) (l:List Tier) (h:l≠[]):chg ex (x::l) b=if b<min ex x.upto then (min ex x.upto-b)*x.factor+chg ex l (min ex x.upto) else chg ex l b:=by
 cases l with
 | nil=>exact absurd rfl h
 | cons y r=>rfl
theorem chg_done (ex:Int) (l:List Tier) (b:Int) (h:ex≤b):chg ex l b=0:=by
 induction l with
 | nil=>rfl
 | cons x l ih=>
  by_cases hl:l=[]
  ·subst hl; rw [chg_last,if_neg (by omega)]
  ·rw [chg_cons _ _ _ _ hl,if_neg (by omega),ih]
theorem drop_at {ts:List Tier} {k:Nat} {x:Tier} (h:ts[k]? =some x):ts.drop k=x::ts.drop (k+1):=by
 obtain ⟨hk,rfl⟩:=List.getElem?_eq_some_iff.1 h
 exact List.drop_eq_getElem_cons hk
def chargeF (price:Int) (ts:List Tier) (ex:Int):Int:=(price*chg ex ts 0+99)/100
theorem charge_spec (s price:Int):s/100*price+(s % 100*price+99)/100=(price*s+99)/100:=by
 have h:price*s+99=(s % 100*price+99)+100*(s/100*price):=by
  have e:=Int.emod_add_mul_ediv s 100
  calc price*s+99=(s % 100+100*(s/100))*price+99:=by rw [e,Int.mul_comm]
   _=(s % 100*price+99)+100*(s/100*price):=by rw [Int.add_mul,Int.mul_assoc]; omega
 rw [h,Int.add_mul_ediv_left _ _ (by decide)]
 omega
end Go.Proofs.YtfkpghdmljjegaaGreat
namespace Go.Proofs.YtfkpghdmljjegaaGreat
open Go.RowKit
set_option maxHeartbeats 2000000 in
theorem c_specIsTerms (band percent price:Int) (A:Option Addr) (n c:Nat) (ts:List Tier) (w:World) (hs:SliceOf w 2 Tier.cells A n c ts):
  Calls Tryz.prog 133 #[.agg #[.int .i64 band,.int .i64 percent,.int .i64 price,.slice A n c]] w (Ret (.bool (isTermsB band percent price ts)) w):=by
 have HF:=hide (show isTermsB band percent price ts=(inB band 0 1000000000&&inB percent 0 100&&inB price 0 1000000&&inB n 1 6&&(List.range n).all (tierOk ts)) by rw [isTermsB,hs.1])
 generalize isTermsB band percent price ts=R at HF ⊢
 by_cases hg:inB band 0 1000000000=true∧inB percent 0 100=true∧inB price 0 1000000=true∧inB n 1 6=true
 ·obtain ⟨h1,h2,h3,h4⟩:=hg
  have hn:n≤6:=by simp [inB] at h4; omega
  have hn1:1≤n:=by simp [inB] at h4; omega
  have HR:=hide (show R=(List.range n).all (tierOk ts) by rw [HF.out]; simp [h1,h2,h3,h4])
  clear HF
  go_enter Tryz.func133,Tryz.ntmps133
  go_wp2_with (go_at_call 169; refine (c_l01In _ _ _ _).mono ?_; rintro e w' ⟨rfl,rfl⟩)
  go_loopw [2,3] (fun r i wr=>∃k:Nat,k≤n∧r= .bool false∧i= .int .i64 k∧Hid (∀j,j<k→tierOk ts j=true)∧Ext (w.alloc (.cells #[.int .i64 band,.int .i64 percent,.int .i64 price,.slice A n c] 73)) wr) (fun _ i _=>n-(intOf i).toNat)
  case atStart=>exact ⟨0,Nat.zero_le _,rfl,rfl,hide (fun j hj=>absurd hj (by omega)),Ext.refl _⟩
  case round=>
   obtain ⟨k,hk,rfl,rfl,HK,hx⟩:=hrel
   have hxs:=hx.size
   have hz:w.heap.size<wr.heap.size:=by simp at hxs; omega
   clear hxs
   have hbx3:wr.cell? ⟨w.heap.size,3,none⟩=some (.slice A n c):=by rw [hx.cell _ _ (by simp)]; simp
   have hx0:Ext w wr:=hx.box
   by_cases hlt:k<n
   ·have hs':=hs.ext hx0
    obtain ⟨b,off,x,rfl,hb,hxk,hc⟩:=hs'.get hlt
    have hc0:=hc 0 _ rfl
    have hc1:=hc 1 _ rfl
    clear hc
    simp only [Nat.add_zero] at hc0
    by_cases h0:0<k
    ·obtain ⟨y,hyk,hc⟩:=hs'.at_ (k:=k-1) (by omega)
     have hd0:=hc 0 _ rfl
     have hd1:=hc 1 _ rfl
     clear hc
     simp only [Nat.add_zero] at hd0
     have ways:=tier_ways hlt (tierOk_pos h0 hxk hyk)
     clear hxk hyk
     have e1:IntKind.i64.wrap (↑k-1)=(↑k-1):=IntWalk.i64_in _ (by omega)
     have e2:(0:Int)≤ ↑k-1:=by omega
     have e3:((k:Int)-1).toNat=k-1:=by omega
     rcases ways with ⟨g1,g2,g3,g4,HT⟩ | ⟨g1,HT⟩ | ⟨g1,g2,HT⟩ | ⟨g1,g2,g3,HT⟩ | ⟨g1,g2,g3,g4,HT⟩
     ·go_wp2_with (go_at_call 169; refine (c_l01In _ _ _ _).mono ?_; rintro e w' ⟨rfl,rfl⟩)
      go_quiet (fail)
      go_wp2
      go_roundw
      case rel=>exact ⟨k+1,by omega,rfl,by go_num,hide (all_upto HK.out HT.out),hx.drewN _⟩
      case measure=>simp [intOf]; omega
     ·go_wp2_with (go_at_call 169; refine (c_l01In _ _ _ _).mono ?_; rintro e w' ⟨rfl,rfl⟩)
      go_ret
      exact Ret.bool (HR.out.trans HT.out) hx0
     ·go_wp2_with (go_at_call 169; refine (c_l01In _ _ _ _).mono ?_; rintro e w' ⟨rfl,rfl⟩)
      go_ret
      exact Ret.bool (HR.out.trans HT.out) hx0
     all_goals
      go_wp2_with (go_at_call 169; refine (c_l01In _ _ _ _).mono ?_; rintro e w' ⟨rfl,rfl⟩)
      go_quiet (fail)
      go_wp2
      go_ret
      exact Ret.bool (HR.out.trans HT.out) (hx0.drewN _)
    ·have ways:=tier_ways0 hlt (tierOk_zero h0 hxk)
     clear hxk
     have h0':decide (0<k)=false:=by simpa using h0
     rcases ways with ⟨g1,g2,HT⟩ | ⟨g1,HT⟩ | ⟨g1,g2,HT⟩
     ·go_wp2_with (go_at_call 169; refine (c_l01In _ _ _ _).mono ?_; rintro e w' ⟨rfl,rfl⟩)
      go_quiet (fail)
      go_wp2
      go_roundw
      case rel=>exact ⟨k+1,by omega,rfl,by go_num,hide (all_upto HK.out HT.out),hx.drewN _⟩
      case measure=>simp [intOf]; omega
     all_goals
      go_wp2_with (go_at_call 169; refine (c_l01In _ _ _ _).mono ?_; rintro e w' ⟨rfl,rfl⟩)
      go_ret
      exact Ret.bool (HR.out.trans HT.out) hx0
   ·go_wp2
    go_ret
    exact Ret.bool (HR.out.trans (all_range_true (fun j hj=>HK.out j (by omega)))) hx0
 ·have hw:inB band 0 1000000000=false∨(inB band 0 1000000000=true∧inB percent 0 100=false)∨(inB band 0 1000000000=true∧inB percent 0 100=true∧inB price 0 1000000=false)∨(inB band 0 1000000000=true∧inB percent 0 100=true∧inB price 0 1000000=true∧inB n 1 6=false):=by
   revert hg; cases inB band 0 1000000000 <;> cases inB percent 0 100 <;> cases inB price 0 1000000 <;> cases inB n 1 6 <;> simp
  have HR:=hide (show R=false by rw [HF.out]; rcases hw with h | h | h | h <;> simp [h])
  clear HF hg
  rcases hw with g1 | ⟨g1,g2⟩ | ⟨g1,g2,g3⟩ | ⟨g1,g2,g3,g4⟩
  case' inr.inr.inr=>
   have hn:n<1∨(1≤n∧6<n):=by simp [inB] at g4; omega
   rcases hn with hn | ⟨hn,hn'⟩
  all_goals
   go_enter Tryz.func133,Tryz.ntmps133
   go_wp2_with (go_at_call 169; refine (c_l01In _ _ _ _).mono ?_; rintro e w' ⟨rfl,rfl⟩)
   go_ret
   exact Ret.bool HR.out (Ext.alloc _ _)
end Go.Proofs.YtfkpghdmljjegaaGreat
