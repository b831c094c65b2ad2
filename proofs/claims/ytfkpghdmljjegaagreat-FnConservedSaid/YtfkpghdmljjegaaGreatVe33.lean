/-
  Components, evenness and codes of supplies, of the program, exactly.
-/
import Derived.Test.YtfkpghdmljjegaaGreatVe32
import Derived.Test.YtfkpghdmljjegaaGreatVe26
import Derived.Test.YtfkpghdmljjegaaGreatVe04
import Derived.Test.YtfkpghdmljjegaaGreatVe31
import Derived.Test.YtfkpghdmljjegaaGreatVe02
import Derived.Deep.CutRange
import Derived.Test.YtfkpghdmljjegaaGreatVe06
namespace Go.Proofs.YtfkpghdmljjegaaGreat
open Go.RowKit
theorem fld0 (A:Option Addr) (n c:Nat) (B:Option Addr) (m d:Nat) (C:Option Addr) (k e:Nat) (W:World):(Instr.field 301 (.agg #[.slice A n c,.slice B m d,.slice C k e]) 0).run Tryz.prog W= .ok (.slice A n c) W:=by kernel_rfl
set_option maxHeartbeats 4000000 in
theorem c_componentsOf (A1 A2:Option Addr) (n1 c1 n2 c2:Nat) (ps:List Pipe) (w:World) (hs2:SliceOf w 5 Pipe.cells A2 n2 c2 ps) (m1:n1≤100000) (m2:n2≤100000) (he:EndsN n1 ps):
  Calls Tryz.prog 281 #[.agg #[.slice A1 n1 c1,.slice A2 n2 c2]] w (RetI (fun E=>E=comps ps n1) w):=by
 have hB:=Row.new w 45 [.slice A1 n1 c1,.slice A2 n2 c2]
 have hx0:Ext w (w.alloc (.cells #[.slice A1 n1 c1,.slice A2 n2 c2] 45)):=Ext.alloc _ _
 have hmkI:=fun W=>run_make_flat (P:=Tryz.prog) 24 2 _ _ 1 8 Tryz.underlying24 int_info (f:=intC) 0 rfl rfl rfl (by omega) n1 (by omega) (by omega) W
 have HE:=hide he
 clear he
 go_enter Tryz.func281,Tryz.ntmps281
 go_wp2_with fail
 go_loopw [14] (fun i wr=>∃(k:Nat) (E:List Int),k≤n1∧i= .int .i64 k∧RowOf wr (w.heap.size+1) 2 intC E∧E.length=n1∧Hid (∀(j:Nat) (z:Int),j<k→E[j]? =some z→z= -1)∧Ext (w.alloc (.cells #[.slice A1 n1 c1,.slice A2 n2 c2] 45)) wr) (fun i _=>n1-(intOf i).toNat)
 case atStart=>exact ⟨0,List.replicate n1 0,Nat.zero_le _,rfl,Row.newG _ _ (by simp),by simp,hide (fun j z hj=>absurd hj (by omega)),Ext.alloc _ _⟩
 case round=>
  obtain ⟨k,E,hk,rfl,hEn,hel,HEN,hx⟩:=hrel
  have hle:=hEn.lt
  by_cases hlt:k<n1
  ·obtain ⟨u,hu⟩:=hEn.there intC_len (i:=k) (by omega) (j:=0) (by omega)
   simp only [Nat.mul_one,Nat.add_zero] at hu
   have hf:=hEn.frozen k
   have hN:=RowOf.set0 hEn (fun x=>⟨_,rfl⟩) (d:=k) (by omega) (-1) (.int .i64 (-1)) rfl
   have hx2:=hx.setCell (p:=⟨w.heap.size+1,k,none⟩) (by simp) (.int .i64 (-1))
   clear hx hEn
   go_wp2_with fail
   go_roundw
   case rel=>exact ⟨k+1,_,by omega,by go_num,hN,by rw [List.length_set]; exact hel,hide (step_ent HEN.out),hx2⟩
   case measure=>simp [intOf]; omega
  ·obtain rfl:n1=k:=by omega
   have hE0:E=compK ps n1 0:=all_rep hel HEN.out
   subst hE0
   clear hmkI HEN
   go_wp2_with fail
   go_loopw [23] (fun i wr=>∃(k:Nat) (E:List Int),k≤n1∧i= .int .i64 k∧RowOf wr (w.heap.size+1) 2 intC E∧E.length=n1∧Hid (E=compK ps n1 k)∧Ext (w.alloc (.cells #[.slice A1 n1 c1,.slice A2 n2 c2] 45)) wr) (fun i _=>n1-(intOf i).toNat)
   case atStart=>exact ⟨0,_,Nat.zero_le _,rfl,hEn,hel,hide rfl,hx⟩
   case round=>
    clear hx hEn hel hle hlt hk
    obtain ⟨k,E,hk,rfl,hEn,hel,HC,hx⟩:=hrel
    have hle:=hEn.lt
    by_cases hlt:k<n1
    ·obtain ⟨z,hz⟩:∃z,E[k]? =some z:=⟨_,List.getElem?_eq_getElem (by omega)⟩
     have hu:=hEn.get intC_len hz (j:=0) rfl
     simp only [Nat.mul_one,Nat.add_zero] at hu
     have hf:=hEn.frozen k
     have hza:=zAt_some hz
     by_cases h0:0≤z
     ·have HC1:Hid (E=compK ps n1 (k+1)):=hide (by rw [compK_succ, ←HC.out,compStep,if_neg (by omega)])
      have hn0:decide (z<0)=false:=decide_eq_false (by omega)
      clear hz hza
      go_wp2_with fail
      go_roundw
      case rel=>exact ⟨k+1,_,by omega,by go_num,hEn,hel,HC1,hx⟩
      case measure=>simp [intOf]; omega
     ·obtain ⟨Eo,HEO⟩:∃Eo,Hid ((srchC ps n1 k).E=Eo):=⟨_,hide rfl⟩
      have HC1:Hid (setAll E Eo (k:Int)=compK ps n1 (k+1)):=hide (by rw [compK_succ, ←HC.out,compStep,if_pos (by omega),HEO.out])
      have hok:=srch_ok (room:=anyR) (e:= -1) (P:=n2+1) hlt (by omega) HE.out (by rw [←hs2.len]; omega)
      have hin:∀z∈Eo,∃k:Nat,z=k∧k<n1:=by rw [←HEO.out]; exact hok.inn
      have ho3:Eo.length≤n1:=by rw [←HEO.out]; exact hok.le
      have HIN:=hide hin
      have hn0:decide (z<0)=true:=decide_eq_true (by omega)
      clear hz hza hok hin
      have hb0:=(hB.ext hx).cell 0
      have hb1:=(hB.ext hx).cell 1
      simp at hb0 hb1
      have hbl:=(hB.ext hx).lt
      go_wp2_with fail
      refine (c_searchFrom A1 A2 n1 c1 n2 c2 ps _ (hs2.ext (hx0.trans hx)) m1 m2 HE.out k hlt).mono ?_
      rintro e w2 ⟨vo,Ad,nd,cd,ve,rfl,ho2,hov,hx2⟩
      obtain ⟨Av,cv,rfl,-⟩:=hov.sl intC_len (by omega)
      rw [show (srch ps anyR n1 (-1) k).E=Eo from HEO.out] at ho2
      obtain ⟨Ao,co,rfl,_⟩:=ho2.sl intC_len (by omega)
      have hE2:=hEn.ext hx2
      have hX2:=hx.trans hx2
      have hfd:=fld0 Ao Eo.length co Ad nd cd Av (srch ps anyR n1 (-1) k).en.length cv
      clear hu hf hb0 hb1 hbl hEn hx hov
      go_wp2_with fail
      go_loopw [36] (fun i wr'=>∃(j:Nat) (E':List Int),j≤Eo.length∧i= .int .i64 j∧RowOf wr' (w.heap.size+1) 2 intC E'∧E'.length=n1∧Hid (E'=setAll E (Eo.take j) (k:Int))∧OwnL wr' wr.heap.size 2 1 intC (.slice Ao Eo.length co) Eo∧Ext (w.alloc (.cells #[.slice A1 n1 c1,.slice A2 n2 c2] 45)) wr') (fun i _=>Eo.length-(intOf i).toNat)
      case atStart=>exact ⟨0,E,Nat.zero_le _,rfl,hE2,hel,hide rfl,ho2,hX2⟩
      case round=>
       clear ho2 hE2 hX2 hel hx2
       obtain ⟨j,E',hj,rfl,hE2,hel,HS,ho2,hX2⟩:=hrel
       have hl2:=hE2.lt
       by_cases hjl:j<Eo.length
       ·obtain ⟨bo,oo,zo,rfl,hbo,hok,hco⟩:=(ho2.slE intC_len (by omega)).get hjl
        have hc0:=hco 0 _ rfl
        simp only [Nat.add_zero,Nat.mul_one] at hc0
        obtain ⟨y,rfl,hy⟩:=HIN.out _ (List.mem_of_getElem? hok)
        obtain ⟨u,hu⟩:=hE2.there intC_len (i:=y) (by omega) (j:=0) (by omega)
        simp only [Nat.mul_one,Nat.add_zero] at hu
        have hf:=hE2.frozen y
        have hN:=RowOf.set0 hE2 (fun x=>⟨_,rfl⟩) (d:=y) (by omega) (k:Int) (.int .i64 k) rfl
        have hx3:=hX2.setCell (p:=⟨w.heap.size+1,y,none⟩) (by simp) (.int .i64 k)
        have ho3:=ho2.farK (p:=⟨w.heap.size+1,y,none⟩) hle (.int .i64 k)
        have HS1:Hid (E'.set y (k:Int)=setAll E (Eo.take (j+1)) (k:Int)):=hide (by rw [setAll_step hok, ←HS.out,Int.toNat_natCast])
        clear hok hco hE2 hX2 ho2
        go_wp2_with fail
        go_roundw
        case rel=>exact ⟨j+1,_,by omega,by go_num,hN,by rw [List.length_set]; exact hel,HS1,ho3,hx3⟩
        case measure=>simp [intOf]; omega
       ·go_wp2_with fail
        go_roundw
        case rel=>exact ⟨k+1,E',by omega,by go_num,hE2,hel,hide (by rw [HS.out,List.take_of_length_le (by omega),HC1.out]),hX2⟩
        case measure=>simp [intOf]; omega
    ·go_wp2_with fail
     go_ret
     have hO:=OwnL.of_row hEn intC_len (base:=w.heap.size) (by omega) (by omega)
     rw [hel] at hO
     obtain rfl:k=n1:=by omega
     exact ⟨_,E,rfl,hO,hide HC.out,hx0.trans hx⟩
set_option maxHeartbeats 1000000 in
theorem c_isEven (A1 A2:Option Addr) (n1 c1 n2 c2:Nat) (ps:List Pipe) (w:World) (hs2:SliceOf w 5 Pipe.cells A2 n2 c2 ps) (m1:n1≤100000) (m2:n2≤100000) (he:EndsN n1 ps) (A3:Option Addr) (c3:Nat) (sup:List Int) (hs3:SliceOf w 1 intC A3 n1 c3 sup) (hb:∀z∈sup,-30000≤z∧z≤30000):
  Calls Tryz.prog 244 #[.agg #[.slice A1 n1 c1,.slice A2 n2 c2],.slice A3 n1 c3] w (Ret (.bool (evenB ps n1 sup)) w):=by
 have hB:=Row.new w 45 [.slice A1 n1 c1,.slice A2 n2 c2]
 have hx0:Ext w (w.alloc (.cells #[.slice A1 n1 c1,.slice A2 n2 c2] 45)):=Ext.alloc _ _
 have hmkI:=fun W=>run_make_flat (P:=Tryz.prog) 24 2 _ _ 1 8 Tryz.underlying24 int_info (f:=intC) 0 rfl rfl rfl (by omega) n1 (by omega) (by omega) W
 have HB:=hide hb
 clear hb
 rw [evenB_all]
 obtain ⟨cs,HCS⟩:∃cs,Hid (comps ps n1=cs):=⟨_,hide rfl⟩
 rw [HCS.out]
 have hcl:cs.length=n1:=by rw [←HCS.out]; exact comps_len ps n1
 have hS0:RowOf ((w.alloc (.cells #[.slice A1 n1 c1,.slice A2 n2 c2] 45)).alloc (.cells ((List.replicate n1 0).flatMap intC).toArray 2)) (w.heap.size+1) 2 intC (List.replicate n1 0):=Row.newG _ _ (by simp)
 obtain ⟨W1,HW1⟩:∃W1,Hid ((w.alloc (.cells #[.slice A1 n1 c1,.slice A2 n2 c2] 45)).alloc (.cells ((List.replicate n1 0).flatMap intC).toArray 2)=W1):=⟨_,hide rfl⟩
 have hB1:Row W1 w.heap.size 45 [.slice A1 n1 c1,.slice A2 n2 c2]:=by rw [←HW1.out]; exact hB.ext (Ext.alloc _ _)
 have hX0:Ext w W1:=by rw [←HW1.out]; exact hx0.trans (Ext.alloc _ _)
 have hz1:w.heap.size+2≤W1.heap.size:=by rw [←HW1.out]; simp
 rw [HW1.out] at hS0
 have hb0:=hB1.cell 0
 have hb1:=hB1.cell 1
 simp at hb0 hb1
 have hbl:=hB1.lt
 clear hB
 go_enter Tryz.func244,Tryz.ntmps244
 go_wp2_with fail
 rw [HW1.out]
 refine (c_componentsOf A1 A2 n1 c1 n2 c2 ps _ (hs2.ext hX0) m1 m2 he).mono ?_
 rintro e w1 ⟨v1,E,rfl,ho1,HE,hx1⟩
 have hEc:E=cs:=by rw [HE.out]; exact HCS.out
 subst hEc
 obtain ⟨Ao,co,rfl,-⟩:=ho1.sl intC_len (by omega)
 rw [hcl]
 rw [hcl] at ho1
 have hX1:=hX0.trans hx1
 have hS1:=hS0.ext hx1
 have hw1:=hx1.size
 clear hS0 hb0 hb1 hbl hB1 hmkI
 go_wp2_with fail
 go_loopw [15] (fun i wr=>∃k:Nat,k≤n1∧i= .int .i64 k∧RowOf wr (w.heap.size+1) 2 intC (sumK E sup n1 k)∧OwnL wr W1.heap.size 2 1 intC (.slice Ao n1 co) E∧Ext w wr) (fun i _=>n1-(intOf i).toNat)
 case atStart=>exact ⟨0,Nat.zero_le _,rfl,hS1,ho1,hX1⟩
 case round=>
  clear ho1 hS1 hX1
  obtain ⟨k,hk,rfl,hR,ho1,hx⟩:=hrel
  obtain ⟨l,HSK⟩:∃l,Hid (sumK E sup n1 k=l):=⟨_,hide rfl⟩
  have hll:l.length=n1:=by rw [←HSK.out]; exact sumK_len E sup n1 k
  have hle:=hR.lt
  rw [HSK.out] at hR
  have hs3':=hs3.ext hx
  by_cases hlt:k<n1
  ·obtain ⟨c,hc,hcn⟩:=comps_in ps n1 hlt
   rw [HCS.out] at hc
   obtain ⟨bo,oo,zo,hAo,hbo,hok,hco⟩:=(ho1.slE intC_len (by omega)).get hlt
   have hbo2:=ho1.block_le (k:=bo) (by rw [hAo]; rfl)
   subst hAo
   obtain rfl:zo=(c:Int):=by rw [hc] at hok; exact (Option.some.inj hok).symm
   have hco0:=hco 0 _ rfl
   obtain ⟨b3,o3,z3,hA3,hb3,hk3,hc3⟩:=hs3'.get hlt
   have hb3w:b3<w.heap.size:=hs3.blk (b:=b3) (by unfold blkOf; rw [if_neg (by omega),hA3]; rfl)
   subst hA3
   have hc30:=hc3 0 _ rfl
   simp only [Nat.add_zero,Nat.mul_one] at hco0 hc30
   obtain ⟨a,ha⟩:∃a,l[c]? =some a:=⟨_,List.getElem?_eq_getElem (by rw [hll]; exact hcn)⟩
   have hca:=hR.get intC_len ha (j:=0) rfl
   simp only [Nat.add_zero,Nat.mul_one] at hca
   have hf:=hR.frozen c
   have hab:=sumK_bd (cs:=E) (N:=n1) HB.out k a (by rw [HSK.out]; exact List.mem_of_getElem? ha)
   have hzb:=HB.out z3 (List.mem_of_getElem? hk3)
   obtain ⟨s1,hs1⟩:∃s1,a+z3=s1:=⟨_,rfl⟩
   have e1:IntKind.i64.wrap (a+z3)=s1:=by rw [←hs1]; exact IntWalk.i64_in _ (by omega)
   have HSN:Hid (sumK E sup n1 (k+1)=l.set c s1):=hide (by rw [sumK_at hc hk3 (by rw [HSK.out]; exact ha),HSK.out,hs1])
   have hR2:=RowOf.set0 (hR.ext (Ext.refl _).drew) (fun x=>⟨_,rfl⟩) (d:=c) (by omega) s1 (.int .i64 s1) rfl
   have ho3:=(ho1.ext (Ext.refl _).drew).farK (p:=⟨w.heap.size+1,c,none⟩) (show w.heap.size+1<W1.heap.size by omega) (.int .i64 s1)
   have hx2:=(hx.trans (Ext.refl _).drew).setCell (p:=⟨w.heap.size+1,c,none⟩) (by simp) (.int .i64 s1)
   clear hs1 hc hok hco hc3 hk3 ha hR hab hzb
   go_wp2_with fail
   refine wp_region_phZ [(w.heap.size+1,c),(b3,o3+k)] [] [0,1,2,3,4,5,6,7,8,9] 10 (by kernel_rfl) (by kernel_rfl) (by intro c a w d v h; cases d <;> exact h) ?_
   simp only [wpPhZ,pickL,nthO]
   repeat (go_big_quiet_step (fail))
   refine wpQuiet_nil ?_
   set_option maxRecDepth 20000 in
   go_wp2_with fail
   go_roundw
   case rel=>exact ⟨k+1,by omega,by go_num,by rw [HSN.out]; exact hR2,ho3,hx2⟩
   case measure=>simp [intOf]; omega
  ·obtain rfl:k=n1:=by omega
   go_wp2_with fail
   refine (c_allWithin (some ⟨w.heap.size+1,0,none⟩) k k l 0 0 _ (hR.slice intC_len hll.symm (by omega))).mono ?_
   rintro e w' ⟨rfl,rfl⟩
   go_wp2_with fail
   go_ret
   exact Ret.of (by rw [HSK.out]; rfl) hx
set_option maxHeartbeats 1000000 in
theorem c_areSupplies (A1 A2:Option Addr) (n1 c1 n2 c2:Nat) (A3:Option Addr) (n3 c3:Nat) (sup:List Int) (w:World) (hs3:SliceOf w 1 intC A3 n3 c3 sup):
  Calls Tryz.prog 153 #[.agg #[.slice A1 n1 c1,.slice A2 n2 c2],.slice A3 n3 c3] w (Ret (.bool (n3==n1&&supB sup)) w):=by
 have hx0:Ext w (w.alloc (.cells #[.slice A1 n1 c1,.slice A2 n2 c2] 45)):=Ext.alloc _ _
 cases he:(n3==n1)
 ·have he2:((n3:Int)==(n1:Int))=false:=by rw [beq_eq_false_iff_ne] at he ⊢; omega
  go_enter Tryz.func153,Tryz.ntmps153
  go_wp2_with fail
  go_ret
  exact Ret.bool rfl hx0
 ·obtain rfl:n3=n1:=by simpa using he
  go_enter Tryz.func153,Tryz.ntmps153
  go_wp2_with fail
  refine (c_allWithin A3 n3 c3 sup (-30000) 30000 _ (hs3.ext hx0)).mono ?_
  rw [←supB_all]
  rintro e w' ⟨rfl,rfl⟩
  go_wp2_with fail
  go_ret
  exact Ret.bool (by simp) hx0
set_option maxHeartbeats 1000000 in
theorem c_checkSupplies (A1 A2:Option Addr) (n1 c1 n2 c2:Nat) (ns:List Node) (ps:List Pipe) (w:World) (hs1:SliceOf w 3 Node.cells A1 n1 c1 ns) (hs2:SliceOf w 5 Pipe.cells A2 n2 c2 ps) (hnet:netB ns ps=true) (A3:Option Addr) (c3:Nat) (sup:List Int) (hs3:SliceOf w 1 intC A3 n1 c3 sup):
  Calls Tryz.prog 243 #[.agg #[.slice A1 n1 c1,.slice A2 n2 c2],.slice A3 n1 c3] w (Ret (.int .i64 (codeSup sup)) w):=by
 have hx0:Ext w (w.alloc (.cells #[.slice A1 n1 c1,.slice A2 n2 c2] 45)):=Ext.alloc _ _
 have HNT:=hide hnet
 clear hnet
 go_enter Tryz.func243,Tryz.ntmps243
 go_wp2_with fail
 refine (c_IsNetwork A1 A2 n1 c1 n2 c2 ns ps _ (hs1.ext hx0) (hs2.ext hx0)).mono ?_
 rw [HNT.out]
 rintro e w1 ⟨rfl,hx1⟩
 have hcl:=hx1.cell
 have hsz:=hx1.size
 go_wp2_with fail
 refine (c_areSupplies A1 A2 n1 c1 n2 c2 A3 n1 c3 sup _ (hs3.ext hx1.box)).mono ?_
 rw [beq_self_eq_true,Bool.true_and]
 cases hb:supB sup
 ·have HB:Hid (codeSup sup=3):=hide (by unfold codeSup; rw [if_neg (by rw [hb]; decide)])
  clear hb
  rintro e w2 ⟨rfl,hx2⟩
  go_wp2_with fail
  go_ret
  exact Ret.int HB.out (hx1.box.trans hx2)
 ·have HB:Hid (codeSup sup=0):=hide (by unfold codeSup; rw [if_pos hb])
  clear hb
  rintro e w2 ⟨rfl,hx2⟩
  go_wp2_with fail
  go_ret
  exact Ret.int HB.out (hx1.box.trans hx2)
set_option maxHeartbeats 1000000 in
theorem c_checkEven (A1 A2:Option Addr) (n1 c1 n2 c2:Nat) (ns:List Node) (ps:List Pipe) (w:World) (hs1:SliceOf w 3 Node.cells A1 n1 c1 ns) (hs2:SliceOf w 5 Pipe.cells A2 n2 c2 ps) (hnet:netB ns ps=true) (A3:Option Addr) (c3:Nat) (sup:List Int) (hs3:SliceOf w 1 intC A3 n1 c3 sup):
  Calls Tryz.prog 189 #[.agg #[.slice A1 n1 c1,.slice A2 n2 c2],.slice A3 n1 c3] w (Ret (.int .i64 (codeRt ps n1 sup)) w):=by
 have hx0:Ext w (w.alloc (.cells #[.slice A1 n1 c1,.slice A2 n2 c2] 45)):=Ext.alloc _ _
 have HNT:=hide hnet
 have HP:=hide (net_pipes hnet)
 have hn1:n1≤24:=by rw [hs1.len]; exact HP.out.1.n24
 have hn2:n2≤40:=by rw [hs2.len]; exact HP.out.1.p40
 clear hnet
 go_enter Tryz.func189,Tryz.ntmps189
 go_wp2_with fail
 refine (c_checkSupplies A1 A2 n1 c1 n2 c2 ns ps _ (hs1.ext hx0) (hs2.ext hx0) HNT.out A3 c3 sup (hs3.ext hx0)).mono ?_
 cases hb:supB sup
 ·have HR:Hid (codeRt ps n1 sup=3):=hide (by unfold codeRt; rw [if_pos hb])
  have HC:Hid (codeSup sup=3):=hide (by unfold codeSup; rw [if_neg (by rw [hb]; decide)])
  clear hb
  rw [HC.out]
  rintro e w1 ⟨rfl,hx1⟩
  go_wp2_with fail
  go_ret
  exact Ret.int HR.out (hx0.trans hx1)
 ·have HB:=hide hb
  have HR:Hid (codeRt ps n1 sup=if evenB ps n1 sup=false then 5 else 0):=hide (by unfold codeRt; rw [if_neg (by rw [hb]; decide)])
  have HC:Hid (codeSup sup=0):=hide (by unfold codeSup; rw [if_pos hb])
  clear hb
  rw [HC.out]
  rintro e w1 ⟨rfl,hx1⟩
  have hcl:=hx1.cell
  have hsz:=hx1.size
  go_wp2_with fail
  refine (c_isEven A1 A2 n1 c1 n2 c2 ps _ (hs2.ext hx1.box) (by omega) (by omega) (by rw [hs1.len]; exact HP.out.1.ends) A3 c3 sup (hs3.ext hx1.box) (supB_bd HB.out)).mono ?_
  cases he:evenB ps n1 sup
  ·have HR2:Hid (codeRt ps n1 sup=5):=hide (by rw [HR.out,if_pos he])
   clear he
   rintro e w2 ⟨rfl,hx2⟩
   go_wp2_with fail
   go_ret
   exact Ret.int HR2.out (hx1.box.trans hx2)
  ·have HR2:Hid (codeRt ps n1 sup=0):=hide (by rw [HR.out,if_neg (by rw [he]; decide)])
   clear he
   rintro e w2 ⟨rfl,hx2⟩
   go_wp2_with fail
   go_ret
   exact Ret.int HR2.out (hx1.box.trans hx2)
end Go.Proofs.YtfkpghdmljjegaaGreat
namespace Go.Proofs.YtfkpghdmljjegaaGreat
open Go.RowKit
set_option maxRecDepth 8000 in
set_option maxHeartbeats 1000000 in
theorem c_cloneI (A:Option Addr) (n c:Nat) (xs:List Int) (w:World) (hs:SliceOf w 1 intC A n c xs) (hn:n≤1048576):
  Calls Tryz.prog 245 #[.slice A n c] w (RetI (fun E=>E=xs) w):=by
 cases A with
 | none=>
  obtain ⟨rfl,rfl⟩:=hs.none_nil
  have hnil:∀W,(binOp .eql 24 (.slice none 0 c) (.slice none 0 0)).run Tryz.prog W= .ok (.bool true) W:=fun W=>run_eql_nil_slice W _ _ none 0 c 0 0 Tryz.underlying24
  go_enter Tryz.func245,Tryz.ntmps245
  go_wp2_with fail
  go_ret
  exact ⟨_,[],rfl,OwnL.nil_ _ _ _ _ _,hide rfl,Ext.refl _⟩
 | some ad=>
  have hnil:∀W,(binOp .eql 24 (.slice (some ad) n c) (.slice none 0 0)).run Tryz.prog W= .ok (.bool false) W:=fun W=>run_eql_nil_slice W _ _ (some ad) n c 0 0 Tryz.underlying24
  go_enter Tryz.func245,Tryz.ntmps245
  go_wp2_with (at_builtin; go_must (refine wpList_append_slice rfl _ _ 24 rfl w.heap.size 2 _ 1 8 Tryz.underlying24 int_info rfl (by decide) intC intC_len int_one' _ [] rfl (OwnL.empty w _ _ _ _ (Nat.le_refl _)) (some ad) n c xs rfl (hs.ext (Ext.alloc _ _)) (by first | omega | (simp; omega)) (by omega) (by first | exact Nat.le_refl _ | omega | (simp; done) | (simp; omega)) ?_))
  intro v w1 hown hext
  have hx:=hext w (Nat.le_refl _) (Ext.alloc _ _)
  go_wp2_with fail
  go_ret
  exact ⟨v,xs,rfl,hown,hide rfl,hx⟩
structure RtIn (w0 w:World) (A1 A2:Option Addr) (n1 c1 n2 c2 c3 c4 g gf gl:Nat) (s:Rst):Prop where
 row:Row w g 233 [.slice A1 n1 c1,.slice A2 n2 c2,.slice (some ⟨gf,0,none⟩) n2 c3,.slice (some ⟨gl,0,none⟩) n1 c4]
 m:RtM w gf gl n2 n1 s
 ext:Ext w0 w
 gg:g≠gf∧g≠gl
 lo:w0.heap.size≤gf∧w0.heap.size≤gl∧gf<w.heap.size∧gl<w.heap.size
 c3:n2≤c3∧c3≤100000
 c4:n1≤c4∧c4≤9223372036854775807
def RetRI (A1 A2:Option Addr) (n1 c1 n2 c2:Nat) (T:Rst) (w:World) (e:Ending) (w':World):Prop:=
 ∃c3 c4 g gf gl,e= .returned (.pointer (some ⟨g,0,none⟩))∧RtIn w w' A1 A2 n1 c1 n2 c2 c3 c4 g gf gl T
theorem rtin_new {w W:World} {A1 A2:Option Addr} {n1 c1 n2 c2 c4 gf gl:Nat} {ps:List Pipe} {sup:List Int} (hF:RowOf W gf 2 intC (List.replicate n2 0)) (hL:OwnS W gl 2 intC (some ⟨gl,0,none⟩) n1 sup) (hl:gl<W.heap.size) (hx:Ext w W) (hne:gf≠gl) (h1:w.heap.size≤gf) (h2:w.heap.size≤gl) (hc4:n1≤c4∧c4≤9223372036854775807) (hn2:n2≤40) (hp:n2=ps.length):
  RtIn w (W.alloc (.cells #[.slice A1 n1 c1,.slice A2 n2 c2,.slice (some ⟨gf,0,none⟩) n2 n2,.slice (some ⟨gl,0,none⟩) n1 c4] 233)) A1 A2 n1 c1 n2 c2 n2 c4 W.heap.size gf gl (rst0 ps sup):=by
 have hFl:=hF.lt
 refine ⟨Row.new W 233 [.slice A1 n1 c1,.slice A2 n2 c2,.slice (some ⟨gf,0,none⟩) n2 n2,.slice (some ⟨gl,0,none⟩) n1 c4],⟨?_,hL.ext (Ext.alloc _ _),hne⟩,hx.and_alloc _,⟨by omega,by omega⟩,⟨h1,h2,by simp; omega,by simp; omega⟩,⟨Nat.le_refl _,by omega⟩,hc4⟩
 have:=OwnS.of_row (hF.ext (Ext.alloc W (.cells #[.slice A1 n1 c1,.slice A2 n2 c2,.slice (some ⟨gf,0,none⟩) n2 n2,.slice (some ⟨gl,0,none⟩) n1 c4] 233)))
 rw [List.length_replicate] at this
 unfold rst0
 rw [←hp]
 exact this
set_option maxHeartbeats 4000000 in
theorem c_routed (A1 A2:Option Addr) (n1 c1 n2 c2:Nat) (ps:List Pipe) (w:World) (hs2:SliceOf w 5 Pipe.cells A2 n2 c2 ps) (hP:PipesN n1 ps) (h1:1≤n1) (A3:Option Addr) (c3:Nat) (sup:List Int) (hs3:SliceOf w 1 intC A3 n1 c3 sup) (hb:∀z∈sup,-30000≤z∧z≤30000):
  Calls Tryz.prog 190 #[.agg #[.slice A1 n1 c1,.slice A2 n2 c2],.slice A3 n1 c3] w (RetRI A1 A2 n1 c1 n2 c2 (routed ps n1 sup) w):=by
 have hB:=Row.new w 45 [.slice A1 n1 c1,.slice A2 n2 c2]
 have hx0:Ext w (w.alloc (.cells #[.slice A1 n1 c1,.slice A2 n2 c2] 45)):=Ext.alloc _ _
 have hn1:=hP.n24
 have hn2:n2≤40:=by rw [hs2.len]; exact hP.p40
 have hmk:=fun W=>run_make_flat (P:=Tryz.prog) 24 2 _ _ 1 8 Tryz.underlying24 int_info (f:=intC) 0 rfl rfl rfl (by omega) n2 (by omega) (by omega) W
 have HP:=hide hP
 have HRT:=hide (routed_route hP hs3.len.symm hb)
 have HI0:=hide (rst0_inv hP hs3.len.symm hb)
 have HLEN:=hide hs3.len
 have HLP:=hide hs2.len
 obtain ⟨T,HT⟩:∃T,Hid (routed ps n1 sup=T):=⟨_,hide rfl⟩
 rw [HT.out] at HRT ⊢
 clear hP hb
 have hb0:=hB.cell 0
 have hb1:=hB.cell 1
 simp at hb0 hb1
 have hbl:=hB.lt
 go_enter Tryz.func190,Tryz.ntmps190
 go_wp2_with fail
 go_cut [5] from 6 to 14 (fun v wx=>∃c3 c4 g gf gl:Nat,v= .pointer (some ⟨g,0,none⟩)∧RtIn w wx A1 A2 n1 c1 n2 c2 c3 c4 g gf gl (rst0 ps sup))
 case first=>
  refine wp_region_phT [(w.heap.size,0),(w.heap.size,1)] (.two [0,1,2,3,5] 4 (.one [] 6 (.one [7] 8 (.last [9]))) 6 (.one [] 4 (.one [7] 8 (.last [9])))) (by kernel_rfl) (by kernel_rfl) (by intro c a w d v h; cases d <;> exact h) ?_
  simp only [wpPhT,pickL,nthO]
  repeat (go_big_quiet_step (fail))
  refine wpQuiet_nil ?_
  have hzb:((w.alloc (.cells #[.slice A1 n1 c1,.slice A2 n2 c2] 45))).heap.size=w.heap.size+1:=by simp
  refine ⟨?_,?_⟩
  ·go_wp2_with fail
   refine ⟨SameC.of_ext ((Ext.refl _).drew.and_alloc _) (by simp),?_⟩
   repeat (go_big_quiet_step (fail))
   refine wpQuiet_nil ?_
   have hxa:Ext (w.alloc (.cells #[.slice A1 n1 c1,.slice A2 n2 c2] 45)) (((w.alloc (.cells #[.slice A1 n1 c1,.slice A2 n2 c2] 45))).drew.alloc (.cells ((List.replicate n2 0).flatMap intC).toArray 2)):=(Ext.refl _).drew.and_alloc _
   go_wp2_with fail
   refine (c_cloneI A3 n1 c3 sup _ ((hs3.ext hx0).ext hxa) (by omega)).mono ?_
   rintro e w1 ⟨v,E,rfl,ho,HE,hx1⟩
   obtain rfl:=HE.out
   have hq:=own_of ho (by rw [←HLEN.out]; omega)
   rw [←HLEN.out] at hq
   obtain ⟨gl,cl,rfl,hgl,hgl2,hcl,hcl2,hOl⟩:=hq
   go_wp2_with fail
   refine ⟨(SameC.of_ext hxa (by simp)).trans (SameC.of_ext hx1 (by simp; omega)),?_⟩
   repeat (go_big_quiet_step (fail))
   refine wpQuiet_nil ?_
   have hF:=(Row.newG (W:=((w.alloc (.cells #[.slice A1 n1 c1,.slice A2 n2 c2] 45))).drew) (g:=w.heap.size+1) 2 ((List.replicate n2 (0:Int)).flatMap intC) (by simp))
   have hFr:RowOf w1 (w.heap.size+1) 2 intC (List.replicate n2 0):=Row.ext hF hx1
   simp at hgl
   go_wp2_with fail
   refine ⟨((SameC.of_ext hxa (by simp)).trans (SameC.of_ext hx1 (by simp; omega))).trans (SameC.of_ext (Ext.alloc _ _) (by have:=hx1.size; simp at this; simp; omega)),?_⟩
   repeat (go_big_quiet_step (fail))
   refine wpQuiet_nil ?_
   go_wp2_with fail
   go_meet
   exact ⟨_,_,_,_,_,rfl,rtin_new hFr hOl hgl2 (hx0.trans (hxa.trans hx1)) (by omega) (by omega) (by omega) ⟨hcl,hcl2⟩ hn2 HLP.out⟩
  ·go_wp2_with fail
   have hxd:Ext (w.alloc (.cells #[.slice A1 n1 c1,.slice A2 n2 c2] 45)) ((w.alloc (.cells #[.slice A1 n1 c1,.slice A2 n2 c2] 45))).drew:=(Ext.refl _).drew
   refine (c_cloneI A3 n1 c3 sup _ ((hs3.ext hx0).ext hxd) (by omega)).mono ?_
   rintro e w1 ⟨v,E,rfl,ho,HE,hx1⟩
   obtain rfl:=HE.out
   have hq:=own_of ho (by rw [←HLEN.out]; omega)
   rw [←HLEN.out] at hq
   obtain ⟨gl,cl,rfl,hgl,hgl2,hcl,hcl2,hOl⟩:=hq
   go_wp2_with fail
   refine ⟨SameC.of_ext (hxd.trans hx1) (by simp),?_⟩
   repeat (go_big_quiet_step (fail))
   refine wpQuiet_nil ?_
   have hgl3:w.heap.size+1≤gl:=by have:((w.alloc (.cells #[.slice A1 n1 c1,.slice A2 n2 c2] 45))).heap.size≤gl:=hgl; omega
   have hzz:=hx1.size
   have hzz2:w.heap.size+1≤w1.heap.size:=by have:((w.alloc (.cells #[.slice A1 n1 c1,.slice A2 n2 c2] 45))).heap.size≤w1.heap.size:=hzz; omega
   go_wp2_with fail
   refine ⟨(SameC.of_ext (hxd.trans hx1) (by simp)).trans (SameC.of_ext (Ext.alloc _ _) (by simp; omega)),?_⟩
   repeat (go_big_quiet_step (fail))
   refine wpQuiet_nil ?_
   have hFr:RowOf (w1.alloc (.cells ((List.replicate n2 (0:Int)).flatMap intC).toArray 2)) w1.heap.size 2 intC (List.replicate n2 0):=Row.newG _ _ rfl
   have hX:Ext w (w1.alloc (.cells ((List.replicate n2 (0:Int)).flatMap intC).toArray 2)):=(hx0.trans (hxd.trans hx1)).and_alloc _
   have hOl2:=hOl.ext (Ext.alloc w1 (.cells ((List.replicate n2 (0:Int)).flatMap intC).toArray 2))
   go_wp2_with fail
   refine ⟨((SameC.of_ext (hxd.trans hx1) (by simp)).trans (SameC.of_ext (Ext.alloc _ _) (by simp; omega))).trans (SameC.of_ext (Ext.alloc _ _) (by simp; omega)),?_⟩
   repeat (go_big_quiet_step (fail))
   refine wpQuiet_nil ?_
   go_wp2_with fail
   go_meet
   have hR:=rtin_new (A1:=A1) (A2:=A2) (c1:=c1) (c2:=c2) (c4:=cl) (ps:=ps) hFr hOl2 (by simp; omega) hX (by omega) (by omega) (by omega) ⟨hcl,hcl2⟩ hn2 HLP.out
   simp only [World.size_alloc] at hR
   exact ⟨_,_,_,_,_,rfl,hR⟩
 case rest=>
  obtain ⟨d3,d4,g,gf,gl,rfl,hI⟩:=hcut
  clear hmk hb0 hb1 hbl hB
  have HC3:=hide hI.c3
  have HC4:=hide hI.c4
  have hgg:=hI.gg
  have hlo:=hI.lo
  have hgl0:=hI.row.lt
  have hR0:Rtg ps n1 n2 T wc wc gf gl (rst0 ps sup):=⟨hI.m,Turn.refl _,HI0.out,HRT.out⟩
  have HROW:=hide (fun (W:World) (h:Turn (Rtb gf gl) wc W)=>hI.row.turn h (by rintro (h | h) <;> omega))
  have HS2:=hide (fun (W:World) (h:Turn (Rtb gf gl) wc W)=>(hs2.ext hI.ext).turn h (fun b hb=>by have:=hs2.blk hb; rintro (h | h) <;> omega))
  have HSEP:=hide (fun (b:Nat) (hb:blkOf A2 n2=some b)=>show ¬Rtb gf gl b by have:=hs2.blk hb; rintro (h | h) <;> omega)
  have HX:=hide (fun (W:World) (h:Turn (Rtb gf gl) wc W)=>hI.ext.turn h (by rintro b (h | h) <;> omega))
  have HG:Hid (¬Rtb gf gl g):=hide (by rintro (h | h) <;> omega)
  clear hI
  go_wp2_with fail
  go_loopw [] (fun wr=>∃s,Rtg ps n1 n2 T wc wr gf gl s) (fun wr=>(posS (readI wr gl n1)).toNat)
  case atStart=>exact ⟨_,hR0⟩
  case round=>
   clear hR0
   obtain ⟨s,hR⟩:=hrel
   have hz:=hR.t.size
   go_wp2_with fail
   refine (c_sendOne A1 A2 n1 c1 n2 c2 d3 d4 g gf gl ps wr (HROW.out _ hR.t) (HS2.out _ hR.t) (by omega) (by omega) HP.out HC3.out.1 HC3.out.2 s hR.m (by omega) (by omega) hR.i HSEP.out HG.out).mono ?_
   rintro e w2 (⟨hn,rfl,hx2⟩ | ⟨s',hs',rfl,ht2,hm2⟩)
   ·have hTs:=hR.r.fin hn
    have hM2:=hR.m.ext hx2
    have hT2:=hR.t.more hx2
    clear hn
    go_wp2_with fail
    go_ret
    have hle:=hT2.size
    exact ⟨d3,d4,g,gf,gl,rfl,HROW.out _ hT2,by rw [hTs]; exact hM2,HX.out _ hT2,hgg,⟨hlo.1,hlo.2.1,by omega,by omega⟩,HC3.out,HC4.out⟩
   ·have hmv:=(oneS_keeps hs' hR.i HP.out).2
    have hpn:=posS_nn s'.lf
    have e1:readI wr gl n1=s.lf:=readI_eq hR.m.l
    have e2:readI w2 gl n1=s'.lf:=readI_eq hm2.l
    have HR3:=hide (show Rtg ps n1 n2 T wc w2 gf gl s' from ⟨hm2,hR.t.trans ht2,(oneS_keeps hs' hR.i HP.out).1,hR.r.nxt hs'⟩)
    have HME:=hide (show (posS (readI w2 gl n1)).toNat<(posS (readI wr gl n1)).toNat by rw [e1,e2]; omega)
    clear hs' hmv hpn e1 e2
    go_wp2_with fail
    go_roundw
    case rel=>exact ⟨s',HR3.out⟩
    case measure=>exact HME.out
end Go.Proofs.YtfkpghdmljjegaaGreat
namespace Go.Proofs.YtfkpghdmljjegaaGreat
open Go.RowKit
def RetLS {α:Type} (t:TypeId) (f:α→List Value) (p:List α×Int) (w:World) (e:Ending) (w':World):Prop:=
 ∃A n c g l z,e= .returned (.tuple #[.slice A n c,.int .i64 z])∧n≤c∧c≤9223372036854775807∧w.heap.size≤g∧OwnS w' g t f A n l∧Ext w w'∧Hid ((l,z)=p)
theorem RetLS.nil0 {α:Type} {t:TypeId} {f:α→List Value} {p:List α×Int} {w w':World} {z:Int} (hx:Ext w w') (h:([],z)=p):RetLS t f p w (.returned (.tuple #[.slice none 0 0,.int .i64 z])) w':=
 ⟨none,0,0,w.heap.size,[],z,rfl,Nat.le_refl _,by omega,Nat.le_refl _,⟨rfl,fun h=>absurd h (by omega)⟩,hx,hide h⟩
theorem RetLS.of {α:Type} {t:TypeId} {size:Nat} {f:α→List Value} {p:List α×Int} {w w':World} {v:Value} {l:List α} {z:Int} (h:OwnL w' w.heap.size t size f v l) (hf:∀x,(f x).length=size) (hs:0<size) (hx:Ext w w') (hp:(l,z)=p):RetLS t f p w (.returned (.tuple #[v,.int .i64 z])) w':=by
 obtain ⟨A,c,g,rfl,h1,h2,h3,h4⟩:=h.own hf hs
 exact ⟨A,_,c,g,l,z,rfl,h2,h3,h1,h4,hx,hide hp⟩
theorem RetLS.low {α:Type} {t:TypeId} {f:α→List Value} {p:List α×Int} {w w0 w':World} {e:Ending} (h:RetLS t f p w e w') (hx:Ext w0 w):RetLS t f p w0 e w':=by
 obtain ⟨A,n,c,g,l,z,h1,h2,h3,h4,h5,h6,h7⟩:=h
 exact ⟨A,n,c,g,l,z,h1,h2,h3,Nat.le_trans hx.size h4,h5,hx.trans h6,h7⟩
theorem OwnS.rd {α:Type} {w:World} {g:Nat} {t:TypeId} {size:Nat} {f:α→List Value} {A:Option Addr} {n c:Nat} {l:List α} (h:OwnS w g t f A n l) (hf:∀x,(f x).length=size) (h1:n≤c) (h2:c≤9223372036854775807):SliceOf w size f A n c l:=h.slice hf h1 h2
set_option maxHeartbeats 1000000 in
theorem c_RouteSupplies (A1 A2:Option Addr) (n1 c1 n2 c2:Nat) (ns:List Node) (ps:List Pipe) (w:World) (hs1:SliceOf w 3 Node.cells A1 n1 c1 ns) (hs2:SliceOf w 5 Pipe.cells A2 n2 c2 ps) (hnet:netB ns ps=true) (A3:Option Addr) (c3:Nat) (sup:List Int) (hs3:SliceOf w 1 intC A3 n1 c3 sup):
  Calls Tryz.prog 113 #[.agg #[.slice A1 n1 c1,.slice A2 n2 c2],.slice A3 n1 c3] w (RetLS 2 intC (routR ps n1 sup) w):=by
 have hx0:Ext w (w.alloc (.cells #[.slice A1 n1 c1,.slice A2 n2 c2] 45)):=Ext.alloc _ _
 have HNT:=hide hnet
 have HP:=hide (net_pipes hnet)
 clear hnet
 go_enter Tryz.func113,Tryz.ntmps113
 go_wp2_with fail
 refine (c_checkEven A1 A2 n1 c1 n2 c2 ns ps _ (hs1.ext hx0) (hs2.ext hx0) HNT.out A3 c3 sup (hs3.ext hx0)).mono ?_
 obtain ⟨z,HZ⟩:∃z,Hid (codeRt ps n1 sup=z):=⟨_,hide rfl⟩
 rw [HZ.out]
 rintro e w1 ⟨rfl,hx1⟩
 have hcl:=hx1.cell
 have hsz:=hx1.size
 by_cases h0:z=0
 ·subst h0
  obtain ⟨hsb,hR⟩:=codeRt_ok HZ.out
  have HSB:=hide hsb
  have HR:=hide hR
  clear hsb hR
  go_wp2_with fail
  refine (c_routed A1 A2 n1 c1 n2 c2 ps _ (hs2.ext hx1.box) (by rw [hs1.len]; exact HP.out.1) (by rw [hs1.len]; exact HP.out.2) A3 c3 sup (hs3.ext hx1.box) (supB_bd HSB.out)).mono ?_
  rintro e w2 ⟨d3,d4,g,gf,gl,rfl,hI⟩
  have hX:=hx1.box.trans hI.ext
  have hr2:=hI.row.cell 2
  have hr3:=hI.row.cell 3
  simp at hr2 hr3
  have hrl:=hI.row.lt
  have hM:=hI.m
  have hc3:=hI.c3
  have hlo:=hI.lo
  have hz1:=hx1.box.size
  have HSL:=hide (hM.l.slice intC_len hI.c4.1 hI.c4.2)
  clear hI
  go_wp2_with fail
  refine (c_allWithin (some ⟨gl,0,none⟩) n1 d4 _ 0 0 _ HSL.out).mono ?_
  rw [allB0]
  rintro e w' ⟨rfl,rfl⟩
  cases ha:(routed ps n1 sup).lf.all fun z=>decide (z=0)
  ·have HR2:Hid (routR ps n1 sup=([],7)):=hide (by rw [HR.out,if_pos ha])
   clear ha
   go_wp2_with fail
   go_ret2
   exact RetLS.nil0 hX HR2.out.symm
  ·have HR2:Hid (routR ps n1 sup=((routed ps n1 sup).fl,0)):=hide (by rw [HR.out,if_neg (by rw [ha]; decide)])
   clear ha
   go_wp2_with fail
   go_ret2
   exact ⟨_,_,_,gf,_,0,rfl,hc3.1,by omega,by omega,hM.f,hX,hide HR2.out.symm⟩
 ·have HR:Hid (routR ps n1 sup=([],z)):=hide (by rw [codeRt_bad (by rw [HZ.out]; exact h0),HZ.out])
  have hb:(z != 0)=true:=by rw [bne_iff_ne]; exact h0
  go_wp2_with fail
  go_ret2
  exact RetLS.nil0 hx1.box HR.out.symm
set_option maxHeartbeats 1000000 in
theorem c_IsRoutable (A1 A2:Option Addr) (n1 c1 n2 c2:Nat) (ns:List Node) (ps:List Pipe) (w:World) (hs1:SliceOf w 3 Node.cells A1 n1 c1 ns) (hs2:SliceOf w 5 Pipe.cells A2 n2 c2 ps) (hnet:netB ns ps=true) (A3:Option Addr) (c3:Nat) (sup:List Int) (hs3:SliceOf w 1 intC A3 n1 c3 sup):
  Calls Tryz.prog 219 #[.agg #[.slice A1 n1 c1,.slice A2 n2 c2],.slice A3 n1 c3] w (Ret (.bool (routB ps n1 sup)) w):=by
 have hx0:Ext w (w.alloc (.cells #[.slice A1 n1 c1,.slice A2 n2 c2] 45)):=Ext.alloc _ _
 have HNT:=hide hnet
 have HP:=hide (net_pipes hnet)
 clear hnet
 go_enter Tryz.func219,Tryz.ntmps219
 go_wp2_with fail
 refine (c_checkEven A1 A2 n1 c1 n2 c2 ns ps _ (hs1.ext hx0) (hs2.ext hx0) HNT.out A3 c3 sup (hs3.ext hx0)).mono ?_
 obtain ⟨z,HZ⟩:∃z,Hid (codeRt ps n1 sup=z):=⟨_,hide rfl⟩
 rw [HZ.out]
 rintro e w1 ⟨rfl,hx1⟩
 have hcl:=hx1.cell
 have hsz:=hx1.size
 by_cases h0:z=0
 ·subst h0
  obtain ⟨hsb,hR⟩:=codeRt_ok HZ.out
  have HSB:=hide hsb
  have HR:=hide hR
  clear hsb hR
  go_wp2_with fail
  refine (c_routed A1 A2 n1 c1 n2 c2 ps _ (hs2.ext hx1.box) (by rw [hs1.len]; exact HP.out.1) (by rw [hs1.len]; exact HP.out.2) A3 c3 sup (hs3.ext hx1.box) (supB_bd HSB.out)).mono ?_
  rintro e w2 ⟨d3,d4,g,gf,gl,rfl,hI⟩
  have hX:=hx1.box.trans hI.ext
  have hr3:=hI.row.cell 3
  simp at hr3
  have hrl:=hI.row.lt
  have HSL:=hide (hI.m.l.slice intC_len hI.c4.1 hI.c4.2)
  clear hI
  go_wp2_with fail
  refine (c_allWithin (some ⟨gl,0,none⟩) n1 d4 _ 0 0 _ HSL.out).mono ?_
  rw [allB0]
  rintro e w' ⟨rfl,rfl⟩
  cases ha:(routed ps n1 sup).lf.all fun z=>decide (z=0)
  ·have HR2:Hid (routB ps n1 sup=false):=hide (by rw [←routR_code,HR.out,if_pos ha]; rfl)
   clear ha
   go_wp2_with fail
   go_ret
   exact Ret.of (by rw [HR2.out]; rfl) hX
  ·have HR2:Hid (routB ps n1 sup=true):=hide (by rw [←routR_code,HR.out,if_neg (by rw [ha]; decide)]; rfl)
   clear ha
   go_wp2_with fail
   go_ret
   exact Ret.of (by rw [HR2.out]; rfl) hX
 ·have HR:Hid (routB ps n1 sup=false):=hide (by rw [←routR_code,codeRt_bad (by rw [HZ.out]; exact h0),HZ.out]; simpa using h0)
  have hb:(z==0)=false:=by rw [beq_eq_false_iff_ne]; exact h0
  go_wp2_with fail
  go_ret
  exact Ret.of (by rw [HR.out]; rfl) hx1.box
end Go.Proofs.YtfkpghdmljjegaaGreat
namespace Go.Proofs.YtfkpghdmljjegaaGreat
open Go.RowKit
set_option maxHeartbeats 1000000 in
theorem c_l20Code (A1 A2:Option Addr) (n1 c1 n2 c2:Nat) (ns:List Node) (ps:List Pipe) (A:Option Addr) (n c:Nat) (xs:List Contract) (w:World) (hs1:SliceOf w 3 Node.cells A1 n1 c1 ns) (hs2:SliceOf w 5 Pipe.cells A2 n2 c2 ps) (hs:SliceOf w 8 Contract.cells A n c xs) (hnm:∀x∈ns,x.name.size≤1048576):
  Calls Tryz.prog 232 #[.agg #[.slice A1 n1 c1,.slice A2 n2 c2],.slice A n c] w (Ret (.int .i64 (bookC n1 ns ps xs)) w):=by
 have hm1:=hs1.max
 have hp1:=hs1.cap
 have HNM:=hide hnm
 clear hnm
 go_enter Tryz.func232,Tryz.ntmps232
 go_wp2_with fail
 refine (c_specIsNetwork A1 A2 n1 c1 n2 c2 ns ps _ (hs1.ext (Ext.alloc _ _)) (hs2.ext (Ext.alloc _ _)) HNM.out).mono ?_
 cases hN:netB ns ps
 ·have HR:=hide (show bookC n1 ns ps xs=1 by unfold bookC; rw [hN]; rfl)
  rintro e w1 ⟨rfl,hx1⟩
  go_wp2_with fail
  go_ret
  exact Ret.int HR.out hx1.box
 rintro e w1 ⟨rfl,hx1⟩
 have hcl:=hx1.cell
 go_wp2_with fail
 refine (c_l20Book A1 A2 n1 c1 n2 c2 A n c xs _ (by omega) (hs.ext hx1.box)).mono ?_
 cases hB:bookB n1 xs
 ·have HR:=hide (show bookC n1 ns ps xs=3 by unfold bookC; rw [hN,hB]; rfl)
  rintro e w2 ⟨rfl,hx2⟩
  go_wp2_with fail
  go_ret
  exact Ret.int HR.out (hx1.box.trans hx2)
 ·have HR:=hide (show bookC n1 ns ps xs=0 by unfold bookC; rw [hN,hB]; rfl)
  rintro e w2 ⟨rfl,hx2⟩
  go_wp2_with fail
  go_ret
  exact Ret.int HR.out (hx1.box.trans hx2)
set_option maxHeartbeats 1000000 in
theorem c_l21Code (A1 A2:Option Addr) (n1 c1 n2 c2:Nat) (ns:List Node) (ps:List Pipe) (A:Option Addr) (n c:Nat) (xs:List Contract) (B:Option Addr) (m d:Nat) (L:List Nomination) (w:World) (hs1:SliceOf w 3 Node.cells A1 n1 c1 ns) (hs2:SliceOf w 5 Pipe.cells A2 n2 c2 ps) (hs:SliceOf w 8 Contract.cells A n c xs) (hL:SliceOf w 4 Nomination.cells B m d L) (hnm:∀x∈ns,x.name.size≤1048576):
  Calls Tryz.prog 176 #[.agg #[.slice A1 n1 c1,.slice A2 n2 c2],.slice A n c,.slice B m d] w (Ret (.int .i64 (nomC n1 ns ps xs L)) w):=by
 have HNM:=hide hnm
 clear hnm
 go_enter Tryz.func176,Tryz.ntmps176
 go_wp2_with fail
 refine (c_l20Code A1 A2 n1 c1 n2 c2 ns ps A n c xs _ (hs1.ext (Ext.alloc _ _)) (hs2.ext (Ext.alloc _ _)) (hs.ext (Ext.alloc _ _)) HNM.out).mono ?_
 by_cases hz:bookC n1 ns ps xs=0
 ·have hbk:=book_zero hz
  have HOK:=hide (book_hours hbk.2)
  clear hbk
  rw [hz]
  rintro e w1 ⟨rfl,hx1⟩
  go_wp2_with fail
  refine (c_l21List A n c xs B m d L _ (hs.ext hx1.box) (hL.ext hx1.box) HOK.out).mono ?_
  cases hb:nomsB xs L
  ·have HR:=hide (show nomC n1 ns ps xs L=5 by unfold nomC; rw [if_pos hz,hb]; rfl)
   clear hz
   rintro e w2 ⟨rfl,hx2⟩
   go_wp2_with fail
   go_ret
   exact Ret.int HR.out (hx1.box.trans hx2)
  ·have HR:=hide (show nomC n1 ns ps xs L=0 by unfold nomC; rw [if_pos hz,hb]; rfl)
   clear hz
   rintro e w2 ⟨rfl,hx2⟩
   go_wp2_with fail
   go_ret
   exact Ret.int HR.out (hx1.box.trans hx2)
 ·have HR:=hide (show nomC n1 ns ps xs L=bookC n1 ns ps xs by unfold nomC; rw [if_neg hz])
  have hz1:(bookC n1 ns ps xs==0)=false:=by simpa using hz
  clear hz
  generalize bookC n1 ns ps xs=Z at *
  rintro e w1 ⟨rfl,hx1⟩
  go_wp2_with fail
  go_ret
  exact Ret.int HR.out hx1.box
end Go.Proofs.YtfkpghdmljjegaaGreat
