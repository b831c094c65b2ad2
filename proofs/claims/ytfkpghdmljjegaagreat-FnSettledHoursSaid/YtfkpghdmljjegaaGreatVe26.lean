/-
  Even supplies, of the reference, exactly.
-/
import Derived.Test.YtfkpghdmljjegaaGreatVe24
import Derived.Test.YtfkpghdmljjegaaGreatVe04
import Derived.Test.YtfkpghdmljjegaaGreatVe22
import Derived.Test.YtfkpghdmljjegaaGreatVe16
import Derived.Test.YtfkpghdmljjegaaGreatVe25
import Derived.Test.YtfkpghdmljjegaaGreatVe19
import Derived.Test.YtfkpghdmljjegaaGreatVe03
namespace Go.Proofs.YtfkpghdmljjegaaGreat
open Go.RowKit
theorem c_l05Zero (A:Option Addr) (n c:Nat) (zs:List Int) (w:World) (hs:SliceOf w 1 intC A n c zs):
  Calls Tryz.prog 180 #[.slice A n c] w fun e w'=>e= .returned (.bool (allB zs 0 0))∧w=w':=by
 have hm:=hs.max
 have hcap:=hs.cap
 go_enter Tryz.func180,Tryz.ntmps180
 go_wp2_with fail
 go_loop [2,3] (fun r i=>∃k:Nat,k≤n∧r= .bool false∧i= .int .i64 k∧Hid (∀(j:Nat) (z:Int),j<k→zs[j]? =some z→inB z 0 0=true)) (fun _ i=>n-(intOf i).toNat)
 case atStart=>exact ⟨0,Nat.zero_le _,rfl,rfl,hide (fun j z hj=>absurd hj (by omega))⟩
 case round=>
  obtain ⟨k,hk,rfl,rfl,HK⟩:=hrel
  by_cases hlt:k<n
  ·obtain ⟨b,off,x,rfl,hb,hxk,hc0⟩:=hs.get1 hlt
   have HX:=hide hxk
   clear hxk
   by_cases h0:x=0
   ·have h0':(x != 0)=false:=by simpa using h0
    have HI:=hide (show inB x 0 0=true by rw [inB_true]; omega)
    clear h0
    go_wp2_with fail
    go_round
    case rel=>
     refine ⟨k+1,by omega,rfl,by go_num,hide fun j z hj hz=> ?_⟩
     by_cases e:j=k
     ·subst e; rw [HX.out] at hz; injection hz with hz; subst hz; exact HI.out
     ·exact HK.out j z (by omega) hz
    case measure=>simp [intOf]; omega
   ·have h0':(x != 0)=true:=by simpa using h0
    have HI:=hide (show inB x 0 0=false by rw [inB_false]; omega)
    clear h0
    go_wp2_with fail
    go_ret
    exact ⟨by rw [all_take_false HX.out HI.out]; rfl,rfl⟩
  ·go_wp2_with fail
   go_ret
   refine ⟨?_,rfl⟩
   rw [all_take_true (fun j z hz=>HK.out j z (by have:=(List.getElem?_eq_some_iff.1 hz).1; have:=hs.len; omega) hz)]; rfl
theorem allB0 (zs:List Int):allB zs 0 0=zs.all fun z=>decide (z=0):=by
 unfold allB
 congr 1
 funext z
 rw [Bool.eq_iff_iff,inB_true,decide_eq_true_eq]
 omega
theorem supB_all (sup:List Int):supB sup=allB sup (-30000) 30000:=by
 unfold supB allB
 congr 1
theorem evenB_all (ps:List Pipe) (N:Nat) (sup:List Int):evenB ps N sup=allB (sumK (comps ps N) sup N N) 0 0:=by rw [allB0]; rfl
theorem net_pipes {ns:List Node} {ps:List Pipe} (h:netB ns ps=true):PipesN ns.length ps∧1≤ns.length:=by
 simp only [netB,Bool.and_eq_true,decide_eq_true_eq] at h
 obtain ⟨⟨⟨⟨h1,h2⟩,h3⟩,_⟩,h5⟩:=h
 have hp:∀p∈ps,(0≤p.src∧p.src≤ns.length-1)∧(0≤p.dst∧p.dst≤ns.length-1)∧p.src≠p.dst∧1≤p.limit∧p.limit≤30000:=fun p hp=>by
  have:=List.all_eq_true.1 h5 p hp
  simp only [pipeB,Bool.and_eq_true,inB_true,bne_iff_ne] at this
  obtain ⟨⟨⟨⟨⟨a,b⟩,c⟩,_⟩,_⟩,d⟩:=this
  exact ⟨a,b,c,d.1,d.2⟩
 exact ⟨⟨fun p h=>by have:=hp p h; omega,fun p h=>(hp p h).2.2.2,h2,h3⟩,h1⟩
def codeSup (sup:List Int):Int:=if supB sup=true then 0 else 3
def codeRt (ps:List Pipe) (N:Nat) (sup:List Int):Int:=if supB sup=false then 3 else if evenB ps N sup=false then 5 else 0
set_option maxHeartbeats 1000000 in
theorem c_l06Even (A1 A2:Option Addr) (n1 c1 n2 c2:Nat) (ps:List Pipe) (w:World) (hs2:SliceOf w 5 Pipe.cells A2 n2 c2 ps) (m1:n1≤100000) (m2:n2≤100000) (he:EndsN n1 ps) (A3:Option Addr) (c3:Nat) (sup:List Int) (hs3:SliceOf w 1 intC A3 n1 c3 sup) (hb:∀z∈sup,-30000≤z∧z≤30000):
  Calls Tryz.prog 234 #[.agg #[.slice A1 n1 c1,.slice A2 n2 c2],.slice A3 n1 c3] w (Ret (.bool (evenB ps n1 sup)) w):=by
 have hx0:Ext w (w.alloc (.cells #[.slice A1 n1 c1,.slice A2 n2 c2] 45)):=Ext.alloc _ _
 have hmkI:=fun W=>run_make_flat (P:=Tryz.prog) 24 2 _ _ 1 8 Tryz.underlying24 int_info (f:=intC) 0 rfl rfl rfl (by omega) n1 (by omega) (by omega) W
 have HB:=hide hb
 clear hb
 rw [evenB_all]
 obtain ⟨cs,HCS⟩:∃cs,Hid (comps ps n1=cs):=⟨_,hide rfl⟩
 rw [HCS.out]
 have hcl:cs.length=n1:=by rw [←HCS.out]; exact comps_len ps n1
 go_enter Tryz.func234,Tryz.ntmps234
 go_wp2_with fail
 refine (c_l04ComponentsX A1 A2 n1 c1 n2 c2 ps _ (hs2.ext hx0) m1 m2 he).mono ?_
 rintro e w1 ⟨v1,E,rfl,ho1,HE,hx1⟩
 have hEc:E=cs:=by rw [HE.out]; exact HCS.out
 subst hEc
 obtain ⟨Ao,co,rfl,-⟩:=ho1.sl intC_len (by omega)
 rw [hcl]
 rw [hcl] at ho1
 have hX1:=hx0.trans hx1
 have hw1:=hx1.size
 simp at hw1
 have ho1:=ho1.lowG (show w.heap.size+1≤_ by simp)
 have HAL:Hid (∀k,(Value.slice Ao n1 co).ownBlock=some k→k<w1.heap.size):=hide (fun k hk=>(ho1.ltG hk).2)
 go_wp2_with fail
 go_loopw [7] (fun i wr=>∃k:Nat,k≤n1∧i= .int .i64 k∧RowOf wr w1.heap.size 2 intC (sumK E sup n1 k)∧OwnL wr (w.heap.size+1) 2 1 intC (.slice Ao n1 co) E∧Ext w1 wr) (fun i _=>n1-(intOf i).toNat)
 case atStart=>exact ⟨0,Nat.zero_le _,rfl,Row.newG _ _ (by simp),ho1.ext (Ext.alloc _ _),Ext.alloc _ _⟩
 case round=>
  clear ho1
  obtain ⟨k,hk,rfl,hR,ho1,hx⟩:=hrel
  obtain ⟨l,HSK⟩:∃l,Hid (sumK E sup n1 k=l):=⟨_,hide rfl⟩
  have hll:l.length=n1:=by rw [←HSK.out]; exact sumK_len E sup n1 k
  have hle:=hR.lt
  have hlz:w1.heap.size<wr.heap.size:=hle
  rw [HSK.out] at hR
  have hs3':=hs3.ext (hX1.trans hx)
  by_cases hlt:k<n1
  ·obtain ⟨c,hc,hcn⟩:=comps_in ps n1 hlt
   rw [HCS.out] at hc
   obtain ⟨bo,oo,zo,hAo,hbo,hok,hco⟩:=(ho1.slE intC_len (by omega)).get hlt
   subst hAo
   obtain rfl:zo=(c:Int):=by rw [hc] at hok; exact (Option.some.inj hok).symm
   have hco0:=hco 0 _ rfl
   obtain ⟨b3,o3,z3,rfl,hb3,hk3,hc3⟩:=hs3'.get hlt
   have hc30:=hc3 0 _ rfl
   simp only [Nat.add_zero,Nat.mul_one] at hco0 hc30
   obtain ⟨a,ha⟩:∃a,l[c]? =some a:=⟨_,List.getElem?_eq_getElem (by rw [hll]; exact hcn)⟩
   have hca:=hR.get intC_len ha (j:=0) rfl
   simp only [Nat.add_zero,Nat.mul_one] at hca
   have hf:=hR.frozen c
   have hab:=sumK_bd (cs:=E) (N:=n1) HB.out k a (by rw [HSK.out]; exact List.mem_of_getElem? ha)
   have hzb:=HB.out z3 (List.mem_of_getElem? hk3)
   obtain ⟨s1,hs1⟩:∃s1,a+z3=s1:=⟨_,rfl⟩
   have e1:IntKind.i64.wrap (a+z3)=s1:=by rw [←hs1]; exact IntWalk.i64_in _ (by omega)
   have HSN:Hid (sumK E sup n1 (k+1)=l.set c s1):=hide (by rw [sumK_at hc hk3 (by rw [HSK.out]; exact ha),HSK.out,hs1])
   have hR2:=RowOf.set0 (hR.ext (Ext.refl _).drew) (fun x=>⟨_,rfl⟩) (d:=c) (by omega) s1 (.int .i64 s1) rfl
   have hne1:bo≠w1.heap.size:=by have:bo<w1.heap.size:=HAL.out bo rfl; omega
   have ho3:=(ho1.ext (Ext.refl _).drew).farX (p:=⟨w1.heap.size,c,none⟩) (fun k hk=>by have:=HAL.out k hk; show k≠w1.heap.size; omega) (.int .i64 s1)
   have hx2:=(hx.trans (Ext.refl _).drew).setCell (p:=⟨w1.heap.size,c,none⟩) (Nat.le_refl _) (.int .i64 s1)
   clear hs1 hc hok hco hc3 hk3 ha hR hab hzb
   go_wp2_with fail
   refine wp_region_phZ [(bo,oo+k),(w1.heap.size,c),(b3,o3+k)] [] [0,1,2,3,4,5,6,7,8,9,10,11,12,13,14,15,16,17] 18 (by kernel_rfl) (by kernel_rfl) (by intro c a w d v h; cases d <;> exact h) ?_
   simp only [wpPhZ,pickL,nthO]
   repeat (go_big_quiet_step (fail))
   refine wpQuiet_nil ?_
   set_option maxRecDepth 20000 in
   go_wp2_with fail
   go_roundw
   case rel=>exact ⟨k+1,by omega,by go_num,by rw [HSN.out]; exact hR2,ho3,hx2⟩
   case measure=>simp [intOf]; omega
  ·obtain rfl:k=n1:=by omega
   go_wp2_with fail
   refine (c_l05Zero (some ⟨w1.heap.size,0,none⟩) k k l _ (hR.slice intC_len hll.symm (by omega))).mono ?_
   rintro e w' ⟨rfl,rfl⟩
   go_wp2_with fail
   go_ret
   exact Ret.of (by rw [HSK.out]; rfl) (hX1.trans hx)
theorem c_l06Supply (x:Int) (w:World):Calls Tryz.prog 300 #[.int .i64 x] w fun e w'=>e= .returned (.bool (inB x (-30000) 30000))∧w=w':=by
 go_enter Tryz.func300,Tryz.ntmps300
 go_wp2_with (go_at_call 169; refine (c_l01In _ _ _ _).mono ?_; rintro e w' ⟨rfl,rfl⟩)
 go_ret
 exact ⟨rfl,rfl⟩
set_option maxHeartbeats 1000000 in
theorem c_l06List (A1 A2:Option Addr) (n1 c1 n2 c2:Nat) (A3:Option Addr) (n3 c3:Nat) (sup:List Int) (w:World) (hs3:SliceOf w 1 intC A3 n3 c3 sup):
  Calls Tryz.prog 275 #[.agg #[.slice A1 n1 c1,.slice A2 n2 c2],.slice A3 n3 c3] w (Ret (.bool (supB sup&&n3==n1)) w):=by
 have hB:=Row.new w 45 [.slice A1 n1 c1,.slice A2 n2 c2]
 have hx0:Ext w (w.alloc (.cells #[.slice A1 n1 c1,.slice A2 n2 c2] 45)):=Ext.alloc _ _
 have hmx:=hs3.max
 have hcp:=hs3.cap
 go_enter Tryz.func275,Tryz.ntmps275
 go_wp2_with fail
 go_loopw [5] (fun i wr=>∃k:Nat,k≤n3∧i= .int .i64 k∧Hid (∀(j:Nat) (z:Int),j<k→sup[j]? =some z→inB z (-30000) 30000=true)∧Ext (w.alloc (.cells #[.slice A1 n1 c1,.slice A2 n2 c2] 45)) wr) (fun i _=>n3-(intOf i).toNat)
 case atStart=>exact ⟨0,Nat.zero_le _,rfl,hide (fun j z hj=>absurd hj (by omega)),Ext.refl _⟩
 case round=>
  obtain ⟨k,hk,rfl,HK,hx⟩:=hrel
  by_cases hlt:k<n3
  ·obtain ⟨b,off,x,rfl,hb,hxk,hc⟩:=(hs3.ext (hx0.trans hx)).get hlt
   have hc0:=hc 0 _ rfl
   simp only [Nat.add_zero,Nat.mul_one] at hc0
   have HX:=hide hxk
   clear hc hxk
   cases hI:inB x (-30000) 30000
   ·have HI:=hide hI
    go_wp2_with (go_at_call 300; refine (c_l06Supply x _).mono ?_; rintro e w' ⟨rfl,rfl⟩)
    go_ret
    exact Ret.of (by rw [supB_all,all_take_false HX.out HI.out]; rfl) (hx0.trans hx)
   ·have HI:=hide hI
    go_wp2_with (go_at_call 300; refine (c_l06Supply x _).mono ?_; rintro e w' ⟨rfl,rfl⟩)
    go_roundw
    case rel=>
     refine ⟨k+1,by omega,by go_num,hide fun j z hj hz=> ?_,hx⟩
     by_cases e:j=k
     ·subst e; rw [HX.out] at hz; injection hz with hz; subst hz; exact HI.out
     ·exact HK.out j z (by omega) hz
    case measure=>simp [intOf]; omega
  ·obtain rfl:n3=k:=by omega
   have hb0:=(hB.ext hx).cell 0
   simp at hb0
   have hbl:=(hB.ext hx).lt
   have HA:Hid (supB sup=true):=hide (by rw [supB_all]; exact all_take_true (fun j z hz=>HK.out j z (by rw [hs3.len]; exact (List.getElem?_eq_some_iff.1 hz).1) hz))
   go_wp2_with fail
   go_ret
   refine Ret.of ?_ (hx0.trans hx)
   rw [HA.out,Bool.true_and]
   have he:((n3:Int)==(n1:Int))=(n3==n1):=by rw [Bool.eq_iff_iff,beq_iff_eq,beq_iff_eq]; omega
   rw [←he]; rfl
set_option maxHeartbeats 1000000 in
theorem c_l06Code (A1 A2:Option Addr) (n1 c1 n2 c2:Nat) (ns:List Node) (ps:List Pipe) (w:World) (hs1:SliceOf w 3 Node.cells A1 n1 c1 ns) (hs2:SliceOf w 5 Pipe.cells A2 n2 c2 ps) (hnm:∀x∈ns,x.name.size≤1048576) (hnet:netB ns ps=true) (A3:Option Addr) (c3:Nat) (sup:List Int) (hs3:SliceOf w 1 intC A3 n1 c3 sup):
  Calls Tryz.prog 233 #[.agg #[.slice A1 n1 c1,.slice A2 n2 c2],.slice A3 n1 c3] w (Ret (.int .i64 (codeSup sup)) w):=by
 have hx0:Ext w (w.alloc (.cells #[.slice A1 n1 c1,.slice A2 n2 c2] 45)):=Ext.alloc _ _
 have HNM:=hide hnm
 have HNT:=hide hnet
 clear hnm hnet
 go_enter Tryz.func233,Tryz.ntmps233
 go_wp2_with fail
 refine (c_specIsNetwork A1 A2 n1 c1 n2 c2 ns ps _ (hs1.ext hx0) (hs2.ext hx0) HNM.out).mono ?_
 rw [HNT.out]
 rintro e w1 ⟨rfl,hx1⟩
 have hcl:=hx1.cell
 go_wp2_with fail
 refine (c_l06List A1 A2 n1 c1 n2 c2 A3 n1 c3 sup _ (hs3.ext hx1.box)).mono ?_
 cases hb:supB sup
 ·have HB:Hid (codeSup sup=3):=hide (by unfold codeSup; rw [if_neg (by rw [hb]; decide)])
  clear hb
  rw [Bool.false_and]
  rintro e w2 ⟨rfl,hx2⟩
  go_wp2_with fail
  go_ret
  exact Ret.int HB.out (hx1.box.trans hx2)
 ·have HB:Hid (codeSup sup=0):=hide (by unfold codeSup; rw [if_pos hb])
  clear hb
  rw [Bool.true_and,beq_self_eq_true]
  rintro e w2 ⟨rfl,hx2⟩
  go_wp2_with fail
  go_ret
  exact Ret.int HB.out (hx1.box.trans hx2)
set_option maxHeartbeats 1000000 in
theorem c_l23Code (A1 A2:Option Addr) (n1 c1 n2 c2:Nat) (ns:List Node) (ps:List Pipe) (w:World) (hs1:SliceOf w 3 Node.cells A1 n1 c1 ns) (hs2:SliceOf w 5 Pipe.cells A2 n2 c2 ps) (hnm:∀x∈ns,x.name.size≤1048576) (hnet:netB ns ps=true) (A3:Option Addr) (c3:Nat) (sup:List Int) (hs3:SliceOf w 1 intC A3 n1 c3 sup):
  Calls Tryz.prog 178 #[.agg #[.slice A1 n1 c1,.slice A2 n2 c2],.slice A3 n1 c3] w (Ret (.int .i64 (codeRt ps n1 sup)) w):=by
 have hx0:Ext w (w.alloc (.cells #[.slice A1 n1 c1,.slice A2 n2 c2] 45)):=Ext.alloc _ _
 have HNM:=hide hnm
 have HNT:=hide hnet
 have HP:=hide (net_pipes hnet)
 have hn1:n1≤24:=by rw [hs1.len]; exact HP.out.1.n24
 have hn2:n2≤40:=by rw [hs2.len]; exact HP.out.1.p40
 clear hnm hnet
 go_enter Tryz.func178,Tryz.ntmps178
 go_wp2_with fail
 refine (c_l06Code A1 A2 n1 c1 n2 c2 ns ps _ (hs1.ext hx0) (hs2.ext hx0) HNM.out HNT.out A3 c3 sup (hs3.ext hx0)).mono ?_
 cases hb:supB sup
 ·have HR:Hid (codeRt ps n1 sup=3):=hide (by unfold codeRt; rw [if_pos hb])
  have HC:Hid (codeSup sup=3):=hide (by unfold codeSup; rw [if_neg (by rw [hb]; decide)])
  clear hb
  rw [HC.out]
  rintro e w1 ⟨rfl,hx1⟩
  go_wp2_with fail
  go_ret
  exact Ret.int HR.out (hx0.trans hx1)
 ·have HB:=hide hb
  have HR:Hid (codeRt ps n1 sup=if evenB ps n1 sup=false then 5 else 0):=hide (by unfold codeRt; rw [if_neg (by rw [hb]; decide)])
  have HC:Hid (codeSup sup=0):=hide (by unfold codeSup; rw [if_pos hb])
  clear hb
  rw [HC.out]
  rintro e w1 ⟨rfl,hx1⟩
  have hcl:=hx1.cell
  go_wp2_with fail
  refine (c_l06Even A1 A2 n1 c1 n2 c2 ps _ (hs2.ext hx1.box) (by omega) (by omega) (by rw [hs1.len]; exact HP.out.1.ends) A3 c3 sup (hs3.ext hx1.box) (supB_bd HB.out)).mono ?_
  cases he:evenB ps n1 sup
  ·have HR2:Hid (codeRt ps n1 sup=5):=hide (by rw [HR.out,if_pos he])
   clear he
   rintro e w2 ⟨rfl,hx2⟩
   go_wp2_with fail
   go_ret
   exact Ret.int HR2.out (hx1.box.trans hx2)
  ·have HR2:Hid (codeRt ps n1 sup=0):=hide (by rw [HR.out,if_neg (by rw [he]; decide)])
   clear he
   rintro e w2 ⟨rfl,hx2⟩
   go_wp2_with fail
   go_ret
   exact Ret.int HR2.out (hx1.box.trans hx2)
end Go.Proofs.YtfkpghdmljjegaaGreat
namespace Go.Proofs.YtfkpghdmljjegaaGreat
open Go.RowKit
def RetFl (p:List Int×Int) (w:World) (e:Ending) (w':World):Prop:=
 ∃A n c l z,e= .returned (.tuple #[.slice A n c,.int .i64 z])∧SliceOf w' 1 intC A n c l∧Ext w w'∧Hid ((l,z)=p)
theorem codeRt_bad {ps:List Pipe} {N:Nat} {sup:List Int} (h:codeRt ps N sup≠0):routR ps N sup=([],codeRt ps N sup):=by
 unfold codeRt at h ⊢
 unfold routR
 split
 ·rfl
 ·rename_i h1
  rw [if_neg h1] at h
  split
  ·rfl
  ·rename_i h2; rw [if_neg h2] at h; exact absurd rfl h
theorem codeRt_ok {ps:List Pipe} {N:Nat} {sup:List Int} (h:codeRt ps N sup=0):supB sup=true∧routR ps N sup=if ((routed ps N sup).lf.all fun z=>decide (z=0))=false then ([],7) else ((routed ps N sup).fl,0):=by
 unfold codeRt at h
 unfold routR
 split at h
 ·cases h
 ·rename_i h1
  split at h
  ·cases h
  ·rename_i h2
   rw [if_neg h1,if_neg h2]
   exact ⟨by simpa using h1,rfl⟩
set_option maxHeartbeats 1000000 in
theorem c_specRouteSupplies (A1 A2:Option Addr) (n1 c1 n2 c2:Nat) (ns:List Node) (ps:List Pipe) (w:World) (hs1:SliceOf w 3 Node.cells A1 n1 c1 ns) (hs2:SliceOf w 5 Pipe.cells A2 n2 c2 ps) (hnm:∀x∈ns,x.name.size≤1048576) (hnet:netB ns ps=true) (A3:Option Addr) (c3:Nat) (sup:List Int) (hs3:SliceOf w 1 intC A3 n1 c3 sup):
  Calls Tryz.prog 102 #[.agg #[.slice A1 n1 c1,.slice A2 n2 c2],.slice A3 n1 c3] w (RetFl (routR ps n1 sup) w):=by
 have hx0:Ext w (w.alloc (.cells #[.slice A1 n1 c1,.slice A2 n2 c2] 45)):=Ext.alloc _ _
 have HNM:=hide hnm
 have HNT:=hide hnet
 have HP:=hide (net_pipes hnet)
 clear hnm hnet
 go_enter Tryz.func102,Tryz.ntmps102
 go_wp2_with fail
 refine (c_l23Code A1 A2 n1 c1 n2 c2 ns ps _ (hs1.ext hx0) (hs2.ext hx0) HNM.out HNT.out A3 c3 sup (hs3.ext hx0)).mono ?_
 obtain ⟨z,HZ⟩:∃z,Hid (codeRt ps n1 sup=z):=⟨_,hide rfl⟩
 rw [HZ.out]
 rintro e w1 ⟨rfl,hx1⟩
 have hcl:=hx1.cell
 by_cases h0:z=0
 ·subst h0
  obtain ⟨hsb,hR⟩:=codeRt_ok HZ.out
  have HSB:=hide hsb
  have HR:=hide hR
  clear hsb hR
  go_wp2_with fail
  refine (c_l23Route A1 A2 n1 c1 n2 c2 ps _ (hs2.ext hx1.box) (by rw [hs1.len]; exact HP.out.1) (by rw [hs1.len]; exact HP.out.2) A3 c3 sup (hs3.ext hx1.box) (supB_bd HSB.out)).mono ?_
  rintro e w2 ⟨A4,c4,A5,c5,rfl,hs4,hs5,hx2⟩
  go_wp2_with fail
  refine (c_l05Zero A5 n1 c5 _ _ hs5).mono ?_
  rw [allB0]
  rintro e w' ⟨rfl,rfl⟩
  cases ha:(routed ps n1 sup).lf.all fun z=>decide (z=0)
  ·have HR2:Hid (routR ps n1 sup=([],7)):=hide (by rw [HR.out,if_pos ha])
   clear ha
   go_wp2_with fail
   go_ret2
   exact ⟨_,_,_,[],7,rfl,SliceOf.nil.2 (by decide),hx1.box.trans hx2,hide HR2.out.symm⟩
  ·have HR2:Hid (routR ps n1 sup=((routed ps n1 sup).fl,0)):=hide (by rw [HR.out,if_neg (by rw [ha]; decide)])
   clear ha
   go_wp2_with fail
   go_ret2
   exact ⟨_,_,_,_,0,rfl,hs4,hx1.box.trans hx2,hide HR2.out.symm⟩
 ·have HR:Hid (routR ps n1 sup=([],z)):=hide (by rw [codeRt_bad (by rw [HZ.out]; exact h0),HZ.out])
  have hb:(z != 0)=true:=by rw [bne_iff_ne]; exact h0
  go_wp2_with fail
  go_ret2
  exact ⟨_,_,_,[],z,rfl,SliceOf.nil.2 (by decide),hx1.box,hide HR.out.symm⟩
set_option maxHeartbeats 1000000 in
theorem c_specIsRoutable (A1 A2:Option Addr) (n1 c1 n2 c2:Nat) (ns:List Node) (ps:List Pipe) (w:World) (hs1:SliceOf w 3 Node.cells A1 n1 c1 ns) (hs2:SliceOf w 5 Pipe.cells A2 n2 c2 ps) (hnm:∀x∈ns,x.name.size≤1048576) (hnet:netB ns ps=true) (A3:Option Addr) (c3:Nat) (sup:List Int) (hs3:SliceOf w 1 intC A3 n1 c3 sup):
  Calls Tryz.prog 236 #[.agg #[.slice A1 n1 c1,.slice A2 n2 c2],.slice A3 n1 c3] w (Ret (.bool (routB ps n1 sup)) w):=by
 have hx0:Ext w (w.alloc (.cells #[.slice A1 n1 c1,.slice A2 n2 c2] 45)):=Ext.alloc _ _
 have HNM:=hide hnm
 have HNT:=hide hnet
 clear hnm hnet
 go_enter Tryz.func236,Tryz.ntmps236
 go_wp2_with fail
 refine (c_specRouteSupplies A1 A2 n1 c1 n2 c2 ns ps _ (hs1.ext hx0) (hs2.ext hx0) HNM.out HNT.out A3 c3 sup (hs3.ext hx0)).mono ?_
 rintro e w1 ⟨A4,n4,c4,l,z,rfl,-,hx1,HP⟩
 have HR:Hid ((z==0)=routB ps n1 sup):=hide (by rw [←routR_code, ←HP.out])
 go_wp2_with fail
 go_ret
 exact Ret.of (by rw [←HR.out]; rfl) (hx0.trans hx1)
end Go.Proofs.YtfkpghdmljjegaaGreat
namespace Go.Proofs.YtfkpghdmljjegaaGreat
open Go.RowKit
set_option maxHeartbeats 1000000 in
theorem c_l24Fit (A1 A2:Option Addr) (n1 c1 n2 c2:Nat) (ns:List Node) (ps:List Pipe) (w:World) (hs1:SliceOf w 3 Node.cells A1 n1 c1 ns) (hs2:SliceOf w 5 Pipe.cells A2 n2 c2 ps) (hnm:∀x∈ns,x.name.size≤1048576) (hnet:netB ns ps=true) (A:Option Addr) (n c:Nat) (ts:List Trn) (hs:SliceOf w 4 Trn.cells A n c ts) (hn:n≤100000) (hb:∀x∈ts,TrnB n1 30000 x):
  Calls Tryz.prog 181 #[.agg #[.slice A1 n1 c1,.slice A2 n2 c2],.slice A n c] w (Ret (.bool (fitB ps n1 ts)) w):=by
 obtain ⟨W,HW⟩:∃W,Hid ((w.alloc (.cells #[.slice A1 n1 c1,.slice A2 n2 c2] 45))=W):=⟨_,hide rfl⟩
 have hB:Row W w.heap.size 45 [.slice A1 n1 c1,.slice A2 n2 c2]:=by rw [←HW.out]; exact Row.new w 45 [.slice A1 n1 c1,.slice A2 n2 c2]
 have hx0:Ext w W:=by rw [←HW.out]; exact Ext.alloc _ _
 have hb0:=hB.cell 0
 have hb1:=hB.cell 1
 simp at hb0 hb1
 have hbl:=hB.lt
 have HNM:=hide hnm
 have HNT:=hide hnet
 have HB:=hide hb
 have hn1:n1≤24:=by rw [hs1.len]; exact (net_pipes hnet).1.n24
 clear hnm hnet hb hB
 go_enter Tryz.func181,Tryz.ntmps181
 go_wp2_with fail
 rw [HW.out]
 refine wp_region_ph [([0,1,2],3),([],4)] [5] (by kernel_rfl) (by kernel_rfl) (by intro c a w d v h; cases d <;> exact h) ?_
 simp only [wpPh,pickL,nthO]
 repeat (go_big_quiet_step (fail))
 refine wpQuiet_nil ?_
 go_wp2_with fail
 have hxd:Ext w W.drew:=hx0.drew
 refine (c_l24Supplies A1 A2 n1 c1 n2 c2 A n c ts _ (hs.ext hxd) (by omega) hn HB.out).mono ?_
 rintro e w2 ⟨v2,E,rfl,ho2,HE,hx2⟩
 have hel:E.length=n1:=by rw [HE.out]; exact supT_len _ _
 obtain ⟨A3,c3,rfl,hs3⟩:=ho2.sl intC_len (by omega)
 rw [hel] at hs3
 rw [hel]
 go_wp2_with fail
 refine ⟨hx2,?_⟩
 repeat (go_big_quiet_step (fail))
 refine wpQuiet_nil ?_
 have hX2:=hxd.trans hx2
 go_wp2_with fail
 refine (c_specIsRoutable A1 A2 n1 c1 n2 c2 ns ps _ (hs1.ext hX2) (hs2.ext hX2) HNM.out HNT.out A3 c3 E hs3).mono ?_
 rintro e w3 ⟨rfl,hx3⟩
 go_wp2_with fail
 refine ⟨hx3,?_⟩
 repeat (go_big_quiet_step (fail))
 refine wpQuiet_nil ?_
 go_wp2_with fail
 go_ret
 exact Ret.of (by unfold fitB; rw [←HE.out]; rfl) (hX2.trans hx3)
set_option maxHeartbeats 2000000 in
theorem c_l25Scales (A1 A2:Option Addr) (n1 c1 n2 c2:Nat) (ns:List Node) (ps:List Pipe) (w:World) (hs1:SliceOf w 3 Node.cells A1 n1 c1 ns) (hs2:SliceOf w 5 Pipe.cells A2 n2 c2 ps) (hnm:∀x∈ns,x.name.size≤1048576) (hnet:netB ns ps=true) (A:Option Addr) (n c:Nat) (ts:List Trn) (hs:SliceOf w 4 Trn.cells A n c ts) (hn:n≤100000) (hb:∀x∈ts,TrnB n1 30000 x):
  Calls Tryz.prog 105 #[.agg #[.slice A1 n1 c1,.slice A2 n2 c2],.slice A n c] w (RetI (fun E=>E=scalesF (fitS ps n1 ts)) w):=by
 have hB:=Row.new w 45 [.slice A1 n1 c1,.slice A2 n2 c2]
 have hx0:Ext w (w.alloc (.cells #[.slice A1 n1 c1,.slice A2 n2 c2] 45)):=Ext.alloc _ _
 have HNM:=hide hnm
 have HNT:=hide hnet
 have HB:=hide hb
 obtain ⟨z4,HZ4⟩:∃z4,Hid (List.replicate 4 (0:Int)=z4):=⟨_,hide rfl⟩
 have hmk:∀W:World,(Instr.makeSlice 24 (.int .i64 4) (.int .i64 4)).run Tryz.prog W= .ok (.slice (some ⟨W.heap.size,0,none⟩) 4 4) (W.alloc (.cells (z4.flatMap intC).toArray 2)):=fun W=>by rw [←HZ4.out]; exact run_make_flat (P:=Tryz.prog) 24 2 _ _ 1 8 Tryz.underlying24 int_info (f:=intC) 0 rfl rfl rfl (by omega) 4 (by omega) (by omega) W
 clear hnm hnet hb
 obtain ⟨F,HF⟩:∃F,Hid (fitS ps n1 ts=F):=⟨_,hide rfl⟩
 have HF0:Hid (F (List.replicate 4 0)=true):=hide (by rw [←HF.out]; exact fitS_zero ps n1 ts)
 rw [HF.out]
 go_enter Tryz.func105,Tryz.ntmps105
 go_wp2_with fail
 go_loopw [6] (fun i wr=>∃k:Nat,k≤4∧i= .int .i64 k∧RowOf wr (w.heap.size+1) 2 intC (scK F k)∧Ext (w.alloc (.cells #[.slice A1 n1 c1,.slice A2 n2 c2] 45)) wr) (fun i _=>4-(intOf i).toNat)
 case atStart=>exact ⟨0,Nat.zero_le _,rfl,by rw [show scK F 0=z4 from HZ4.out]; exact Row.newG _ _ (by simp),Ext.alloc _ _⟩
 case round=>
  obtain ⟨k,hk,rfl,hR,hx⟩:=hrel
  have hlen:(scK F k).length=4:=(scK_in F k).1
  have hle:=hR.lt
  by_cases hlt:k<4
  ·have HSI:=hide (scK_in F k)
   have hR0:RowOf wr (w.heap.size+1) 2 intC ((scK F k).set k 0):=by rw [scK_set0 F hlt]; exact hR
   have HS0:Hid (F ((scK F k).set k 0)=true):=hide (by rw [scK_set0 F hlt]; exact scK_fit HF0.out k (by omega))
   have HSC:Hid (scK F (k+1)=(scK F k).set k (bestS F (scK F k) k 100:Int)):=hide (by rw [scK_succ]; rfl)
   obtain ⟨sc,hsc⟩:∃sc,scK F k=sc:=⟨_,rfl⟩
   rw [hsc] at hR0 HS0 HSC hlen HSI
   clear hR hsc
   have hkd:decide ((k:Int)<4)=true:=decide_eq_true (by omega)
   go_wp2_with fail
   go_loopw [7] (fun i wr'=>∃(m:Nat) (z:Int),m≤100∧i= .int .i64 m∧RowOf wr' (w.heap.size+1) 2 intC (sc.set k z)∧Hid (bestS F sc k 100=bestS F sc k m)∧Ext (w.alloc (.cells #[.slice A1 n1 c1,.slice A2 n2 c2] 45)) wr') (fun i _=>(intOf i).toNat)
   case atStart=>exact ⟨100,0,Nat.le_refl _,rfl,hR0,hide rfl,hx⟩
   case round=>
    clear hR0 hx
    obtain ⟨m,z,hm,rfl,hR,HBS,hx⟩:=hrel
    have hle:=hR.lt
    obtain ⟨u,hu⟩:=hR.there intC_len (i:=k) (by rw [List.length_set]; omega) (j:=0) (by omega)
    simp only [Nat.mul_one,Nat.add_zero] at hu
    have hf:=hR.frozen k
    have hR1:=RowOf.set0 hR (fun x=>⟨_,rfl⟩) (d:=k) (by rw [List.length_set]; omega) (m:Int) (.int .i64 m) rfl
    rw [List.set_set] at hR1
    have hx1:=hx.setCell (p:=⟨w.heap.size+1,k,none⟩) (by simp) (.int .i64 m)
    obtain ⟨W,HW⟩:∃W,Hid (wr.setCell ⟨w.heap.size+1,k,none⟩ (.int .i64 m)=W):=⟨_,hide rfl⟩
    rw [HW.out] at hR1 hx1
    have hsl:(sc.set k (m:Int)).length=4:=by rw [List.length_set]; exact hlen
    have HSI2:Hid (ScaleIn (sc.set k (m:Int))):=hide (HSI.out.set k (by omega))
    have hS:=hR1.slice intC_len hsl.symm (by omega)
    have hb0:=(hB.ext hx1).cell 0
    have hb1:=(hB.ext hx1).cell 1
    simp at hb0 hb1
    have hbl:=(hB.ext hx1).lt
    have hX1:=hx0.trans hx1
    clear hR
    go_wp2_with fail
    rw [HW.out]
    refine wp_region_ph [([0,1,2],3),([],4)] [] (by kernel_rfl) (by kernel_rfl) (by intro c a w d v h; cases d <;> exact h) ?_
    simp only [wpPh,pickL,nthO]
    repeat (go_big_quiet_step (fail))
    refine wpQuiet_nil ?_
    go_wp2_with fail
    refine (c_l24Scale A n c ts (some ⟨w.heap.size+1,0,none⟩) 4 (sc.set k (m:Int)) _ (hs.ext hX1.drew) (hS.ext (Ext.refl _).drew) hn n1 HB.out HSI2.out).mono ?_
    rintro e w2 ⟨v2,E,rfl,ho2,HE,hx2⟩
    obtain ⟨A4,c4,rfl,hs4⟩:=ho2.sl trn_len (by omega)
    have hel:E.length=n:=by rw [HE.out,List.length_map,hs.len]
    rw [hel] at hs4
    rw [hel]
    have hX2:=hX1.drew.trans hx2
    go_wp2_with fail
    refine ⟨hx2,?_⟩
    repeat (go_big_quiet_step (fail))
    refine wpQuiet_nil ?_
    go_wp2_with fail
    refine (c_l24Fit A1 A2 n1 c1 n2 c2 ns ps _ (hs1.ext hX2) (hs2.ext hX2) HNM.out HNT.out A4 n c4 E hs4 hn (by
     rw [HE.out]
     intro x hx
     obtain ⟨y,hy,rfl⟩:=List.mem_map.1 hx
     exact scaleT_ok (HB.out y hy) HSI2.out)).mono ?_
    have hfe:fitB ps n1 E=F (sc.set k (m:Int)):=by rw [HE.out, ←HF.out]; rfl
    rw [hfe]
    have hRw:∀W',Ext w2 W'→RowOf W' (w.heap.size+1) 2 intC (sc.set k (m:Int)):=fun W' h=>(hR1.ext (Ext.refl _).drew).ext (hx2.trans h)
    have hxw:∀W',Ext w2 W'→Ext (w.alloc (.cells #[.slice A1 n1 c1,.slice A2 n2 c2] 45)) W':=fun W' h=>(hx1.drew.trans hx2).trans h
    cases hfit:F (sc.set k (m:Int))
    ·obtain ⟨m,rfl⟩:∃j,m=j+1:=by
      cases m with
      | zero=>rw [show ((0:Nat):Int)=0 from rfl,HS0.out] at hfit; cases hfit
      | succ j=>exact ⟨j,rfl⟩
     have HBS2:Hid (bestS F sc k 100=bestS F sc k m):=hide (by rw [HBS.out,bestS_down hfit])
     clear hfit hfe
     rintro e w3 ⟨rfl,hx3⟩
     go_wp2_with fail
     refine ⟨hx3,?_⟩
     repeat (go_big_quiet_step (fail))
     refine wpQuiet_nil ?_
     go_wp2_with fail
     go_roundw
     case rel=>exact ⟨m,_,by omega,by go_num,hRw _ hx3,HBS2,hxw _ hx3⟩
     case measure=>simp [intOf]
    ·have HSE:Hid (scK F (k+1)=sc.set k (m:Int)):=hide (by rw [HSC.out,HBS.out,bestS_at hfit])
     clear hfit hfe
     rintro e w3 ⟨rfl,hx3⟩
     go_wp2_with fail
     refine ⟨hx3,?_⟩
     repeat (go_big_quiet_step (fail))
     refine wpQuiet_nil ?_
     go_wp2_with fail
     go_roundw
     case rel=>exact ⟨k+1,by omega,by go_num,by rw [HSE.out]; exact hRw _ hx3,hxw _ hx3⟩
     case measure=>simp [intOf]; omega
  ·obtain rfl:k=4:=by omega
   go_wp2_with fail
   go_ret
   have hO:=OwnL.of_row hR intC_len (base:=w.heap.size) (by omega) (by omega)
   rw [hlen] at hO
   exact ⟨_,_,rfl,hO,hide rfl,hx0.trans hx⟩
end Go.Proofs.YtfkpghdmljjegaaGreat
namespace Go.Proofs.YtfkpghdmljjegaaGreat
open Go.RowKit
def sumI:List Int→Int
 | []=>0
 | z::zs=>z+sumI zs
theorem sumI_snoc (zs:List Int) (z:Int):sumI (zs++[z])=sumI zs+z:=by
 induction zs with
 | nil=>simp [sumI]
 | cons y ys ih=>simp only [List.cons_append,sumI,ih]; omega
theorem takeI_snoc {zs:List Int} {k:Nat} {z:Int} (h:zs[k]? =some z):zs.take (k+1)=zs.take k++[z]:=by
 obtain ⟨hk,rfl⟩:=List.getElem?_eq_some_iff.1 h
 rw [List.take_succ_eq_append_getElem hk]
theorem sumI_bd {M:Int} (zs:List Int) (h:∀z∈zs,-M≤z∧z≤M): -(M*(zs.length:Int))≤sumI zs∧sumI zs≤M*(zs.length:Int):=by
 induction zs with
 | nil=>simp [sumI]
 | cons z zs ih=>
  have h1:=h z (by simp)
  have h2:=ih (fun y hy=>h y (by simp [hy]))
  have h4:M*((z::zs).length:Int)=M*(zs.length:Int)+M:=by rw [List.length_cons,show ((zs.length+1:Nat):Int)=(zs.length:Int)+1 by omega,Int.mul_add,Int.mul_one]
  rw [h4]
  simp only [sumI]
  omega
theorem allB_mem {zs:List Int} {lo hi:Int} (h:allB zs lo hi=true):∀z∈zs,lo≤z∧z≤hi:=fun z hz=>inB_true.1 (List.all_eq_true.1 h z hz)
theorem c_sumOf (A:Option Addr) (n c:Nat) (zs:List Int) (w:World) (hs:SliceOf w 1 intC A n c zs) (hz:allB zs (-1000000000) 1000000000=true) (hn:n≤1048576):
  Calls Tryz.prog 93 #[.slice A n c] w fun e w'=>e= .returned (.int .i64 (sumI zs))∧w=w':=by
 have HZ:=hide (allB_mem hz)
 clear hz
 go_enter Tryz.func93,Tryz.ntmps93
 go_wp2_with fail
 go_loop [3,8] (fun q i=>∃(k:Nat) (S:Int),k≤n∧q= .int .i64 S∧i= .int .i64 k∧ -(1000000000*(k:Int))≤S∧S≤1000000000*(k:Int)∧Hid (S=sumI (zs.take k))) (fun _ i=>n-(intOf i).toNat)
 case atStart=>exact ⟨0,0,Nat.zero_le _,rfl,rfl,by omega,by omega,hide (by simp [sumI])⟩
 case round=>
  obtain ⟨k,S,hk,rfl,rfl,hS0,hS1,HS⟩:=hrel
  by_cases hlt:k<n
  ·obtain ⟨b,off,x,rfl,hb,hxk,hc0⟩:=hs.get1 hlt
   obtain ⟨x0,x1⟩:=HZ.out x (List.mem_of_getElem? hxk)
   have HX:=hide (show S+x=sumI (zs.take (k+1)) by rw [takeI_snoc hxk,sumI_snoc,HS.out])
   clear hxk HS
   go_wp2_with fail
   go_round
   case rel=>exact ⟨k+1,_,by omega,rfl,by go_num,by omega,by omega,HX⟩
   case measure=>simp [intOf]; omega
  ·go_wp2_with fail
   go_ret
   have:=HS.out
   rw [List.take_of_length_le (by have:=hs.len; omega)] at this
   exact ⟨by rw [←this]; rfl,rfl⟩
theorem c_l01Sum (A:Option Addr) (n c:Nat) (zs:List Int) (w:World) (hs:SliceOf w 1 intC A n c zs) (hz:allB zs (-1000000000) 1000000000=true) (hn:n≤1048576):
  Calls Tryz.prog 96 #[.slice A n c] w fun e w'=>e= .returned (.int .i64 (sumI zs))∧w=w':=by
 have HZ:=hide (allB_mem hz)
 clear hz
 go_enter Tryz.func96,Tryz.ntmps96
 go_wp2_with fail
 go_loop [3,4] (fun q i=>∃(k:Nat) (S:Int),k≤n∧q= .int .i64 S∧i= .int .i64 k∧ -(1000000000*(k:Int))≤S∧S≤1000000000*(k:Int)∧Hid (S=sumI (zs.take k))) (fun _ i=>n-(intOf i).toNat)
 case atStart=>exact ⟨0,0,Nat.zero_le _,rfl,rfl,by omega,by omega,hide (by simp [sumI])⟩
 case round=>
  obtain ⟨k,S,hk,rfl,rfl,hS0,hS1,HS⟩:=hrel
  by_cases hlt:k<n
  ·obtain ⟨b,off,x,rfl,hb,hxk,hc0⟩:=hs.get1 hlt
   obtain ⟨x0,x1⟩:=HZ.out x (List.mem_of_getElem? hxk)
   have HX:=hide (show S+x=sumI (zs.take (k+1)) by rw [takeI_snoc hxk,sumI_snoc,HS.out])
   clear hxk HS
   go_wp2_with fail
   go_round
   case rel=>exact ⟨k+1,_,by omega,rfl,by go_num,by omega,by omega,HX⟩
   case measure=>simp [intOf]; omega
  ·go_wp2_with fail
   go_ret
   have:=HS.out
   rw [List.take_of_length_le (by have:=hs.len; omega)] at this
   exact ⟨by rw [←this]; rfl,rfl⟩
end Go.Proofs.YtfkpghdmljjegaaGreat
