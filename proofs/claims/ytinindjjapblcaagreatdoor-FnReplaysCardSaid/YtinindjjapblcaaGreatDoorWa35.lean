/-
  The line of an event, of the program: decimal, joinNumbers, eventLine.
-/
import Derived.Test.YtinindjjapblcaaGreatDoorWa07
import Derived.Test.YtinindjjapblcaaGreatDoorWa34
import Derived.Lib.AppendIntMem
import Derived.WalkSmall
import Derived.Lib.AppendStr
import Derived.Lib.AtoiErrMem
namespace Go.Proofs.YtinindjjapblcaaGreatDoor
open Go.RowKit
open Go.Lib hiding intOf
structure GlobJ (w:World):Prop where
 lt:8<w.heap.size
 pow : TabIs Tryz.prog w "internal/strconv.uint64pow10" .u64 pow10Tab
 words:∀k:Nat,k<4→w.cell? ⟨0,k,none⟩=some (.string (mkB (if k=0 then [] else evWord k)))
theorem globPow : Tryz.prog.globalNamed "internal/strconv.uint64pow10" = some 1 := by kernel_rfl
theorem GlobJ.ext {w w':World} (h:GlobJ w) (hx:Ext w w'):GlobJ w':=by
 have h1:=h.lt
 exact ⟨Nat.lt_of_lt_of_le h.lt hx.size,var?_below hx globPow (by omega) h.pow,fun k hk=>(hx.cell 0 k (by omega)).trans (h.words k hk)⟩
theorem c_decimal (n:Int) (h0: -9223372036854775808≤n) (h1:n≤9223372036854775807) (w:World) (hg:GlobJ w):
  Calls Tryz.prog 101 #[.int .i64 n] w (Ret (.string (mkB (itoa n))) w):=by
 go_enter Tryz.func101,Tryz.ntmps101
 go_wp2_with fail
 refine (Tryz.strconv_FormatInt_10 n h0 h1 _ hg.pow).mono ?_
 rintro e w1 ⟨rfl,k,os,rfl⟩
 go_wp2_with fail
 go_ret
 exact Ret.of rfl (below_grow _ _ (Nat.le_refl _) k os)
def strC (b:List UInt8):List Value:=[.string (mkB b)]
theorem strC_len (b:List UInt8):(strC b).length=1:=rfl
theorem string_info:(Tryz.prog.info? 9).map (fun i=>(i.zero,i.size,i.bytes))=some (some (.string ⟨#[]⟩),1,16):=by kernel_rfl
theorem itoa_len (n:Int) (h0: -1000000000≤n) (h1:n≤1000000000):(itoa n).length≤1000000010:=by
 unfold itoa
 split
 ·have:=decDigits_len (n.natAbs+1) n.natAbs (Nat.lt_succ_self _)
  simp
  omega
 ·have:=decDigits_len (n.toNat+1) n.toNat (Nat.lt_succ_self _)
  omega
theorem strRow_cells {w:World} {g:Nat} {t:TypeId} {L:List (List UInt8)} (h:RowOf w g t strC L) (j:Nat) (x:ByteArray) (hx:(L.map mkB)[j]? =some x):w.cell? ⟨g,0+j,none⟩=some (.string x):=by
 rw [List.getElem?_map] at hx
 cases hl:L[j]? with
 | none=>rw [hl] at hx; cases hx
 | some y=>
  rw [hl] at hx
  simp at hx
  subst hx
  have:=h.get strC_len hl (j:=0) (u:= .string (mkB y)) rfl
  simpa using this
theorem map_mkB_list (L:List (List UInt8)):(L.map mkB).map (·.data.toList)=L:=by
 rw [List.map_map]
 have:((fun b:ByteArray=>b.data.toList) ∘ mkB)=id:=funext mkB_list
 rw [this,List.map_id]
set_option maxHeartbeats 1000000 in
theorem c_joinNumbers (A:Option Addr) (n c:Nat) (xs:List Int) (sep:List UInt8) (w:World) (hs:SliceOf w 1 intC A n c xs) (hn:n≤1048576) (hb:∀x∈xs,-1000000000≤x∧x≤1000000000) (hJ:(join (xs.map itoa) sep).length≤140737488355328) (hg:GlobJ w):
  Calls Tryz.prog 100 #[.slice A n c,.string (mkB sep)] w (Ret (.string (mkB (join (xs.map itoa) sep))) w):=by
 have hmk:=fun W=>run_make_flat (P:=Tryz.prog) 159 9 _ _ 1 16 Tryz.underlying159 string_info (f:=strC) [] rfl rfl rfl (by omega) n (by omega) (by omega) W
 have hR0:=Row.new w 9 ((List.replicate n ([]:List UInt8)).flatMap strC)
 have HB:=hide hb
 have HJ:=hide hJ
 clear hb hJ
 go_enter Tryz.func100,Tryz.ntmps100
 go_wp2_with fail
 go_loopw [6,7,13] (fun _ _ i wr=>∃(k:Nat) (L:List (List UInt8)),k≤n∧i= .int .i64 k∧L.length=n∧RowOf wr w.heap.size 9 strC L∧Hid (∀j,j<k→L[j]? =(xs.map itoa)[j]?)∧Ext w wr) (fun _ _ i _=>n-(intOf i).toNat)
 case atStart=>exact ⟨0,_,Nat.zero_le _,rfl,List.length_replicate,hR0,hide (fun j hj=>absurd hj (by omega)),Ext.alloc _ _⟩
 case round=>
  obtain ⟨k,L,hk,rfl,hL,hrow,HK,hx⟩:=hrel
  clear hR0 hmk
  have hgs:=hrow.lt
  by_cases hlt:k<n
  ·obtain ⟨b,off,x,rfl,hb,hxk,hc0⟩:=(hs.ext hx).get1 hlt
   have Hx:=hide hxk
   have HL:=hide hL
   have hbx:=HB.out x (List.mem_of_getElem? hxk)
   clear hxk hL
   go_wp2_with fail
   refine (c_decimal x (by omega) (by omega) _ (hg.ext hx)).mono ?_
   rintro e w1 ⟨rfl,hx1⟩
   have hrow1:=hrow.ext hx1
   have hgs1:=hrow1.lt
   obtain ⟨v0,hv0⟩:=hrow1.there strC_len (i:=k) (by rw [HL.out]; exact hlt) (j:=0) (by omega)
   have hf0:=hrow1.frozen k
   simp only [Nat.mul_one,Nat.add_zero] at hv0
   go_wp2_with fail
   go_roundw
   case rel=>
    have hput:=hrow1.put strC_len (i:=k) (by rw [HL.out]; exact hlt) (itoa x)
    rw [Nat.mul_one] at hput
    refine ⟨k+1,L.set k (itoa x),by omega,by go_num,by simpa using HL.out,hput,hide ?_,(hx.trans hx1).put (Nat.le_refl _) k (strC (itoa x))⟩
    intro j hj
    rw [List.getElem?_set]
    by_cases e:k=j
    ·subst e; rw [if_pos rfl,if_pos (by rw [HL.out]; exact hlt),List.getElem?_map,Hx.out]; rfl
    ·rw [if_neg e]; exact HK.out j (by omega)
   case measure=>simp [intOf]; omega
  ·have hLts:L=xs.map itoa:=by
    apply List.ext_getElem?
    intro j
    by_cases hj:j<n
    ·exact HK.out j (by omega)
    ·rw [List.getElem?_eq_none (by omega),List.getElem?_eq_none (by have:=hs.len; simp; omega)]
   go_wp2_with fail
   have hj:=Tryz.strings_Join w.heap.size 0 n (L.map mkB) (mkB sep) wr (fun j x h=>strRow_cells hrow j x h) hgs (by rw [List.length_map,hL]; omega) (by rw [List.length_map,hL]; exact Nat.le_refl _) (by rw [map_mkB_list,hLts]; exact HJ.out)
   rw [List.length_map,hL,map_mkB_list,hLts] at hj
   refine hj.mono ?_
   rintro e w1 ⟨rfl,hx1⟩
   go_wp2_with fail
   go_ret
   exact Ret.of rfl (hx.trans hx1)
end Go.Proofs.YtinindjjapblcaaGreatDoor
namespace Go.Proofs.YtinindjjapblcaaGreatDoor
open Go.RowKit
open Go.Lib hiding intOf
theorem str_at (l:List UInt8) (k:Nat) (c:UInt8) (h:l[k]? =some c) (W:World):(Instr.index 9 (.string (mkB l)) (.int .i64 (k:Int))).run Tryz.prog W= .ok (.int .u8 (c.toNat:Int)) W:=by
 obtain ⟨hk,hc⟩:=List.getElem?_eq_some_iff.1 h
 rw [run_index_string W 9 (mkB l) .i64 k Tryz.underlying9,dif_pos ⟨by omega,by rw [mkB_size]; omega⟩]
 have:(mkB l)[(k:Int).toNat]'(by rw [mkB_size]; simpa using hk)=c:=hc
 rw [this]
theorem evWord_len (k:Int):(evWord k).length≤8:=by
 unfold evWord
 split
 ·decide
 ·split <;> decide
theorem sumL_drop (l:List UInt8) (k:Nat) (c:UInt8) (x:Int) (h:l[k]? =some c):sumL x (l.drop k)=sumL ((257*x+(c.toNat:Int)+1) % 99991) (l.drop (k+1)):=by
 obtain ⟨hk,hc⟩:=List.getElem?_eq_some_iff.1 h
 rw [List.drop_eq_getElem_cons hk,hc]
 rfl
theorem headL_len (e:Event) (he:evB e=true):(headL e).length≤4000000100:=by
 obtain ⟨_,ha,hb,hc,hd⟩:=evB_bounds he
 have h0:=evWord_len e.kind
 have h1:=itoa_len e.a (by omega) (by omega)
 have h2:=itoa_len e.b (by omega) (by omega)
 have h3:=itoa_len e.c (by omega) (by omega)
 have h4:=itoa_len e.d (by omega) (by omega)
 rw [headL,join_four]
 simp
 omega
set_option maxHeartbeats 4000000 in
theorem c_eventLine (p:Event) (s:Int) (w:World) (he:evB p=true) (s0:0≤s) (s1:s<99991) (hg:GlobJ w):
  Calls Tryz.prog 50 #[.agg #[.int .i64 p.kind,.int .i64 p.a,.int .i64 p.b,.int .i64 p.c,.int .i64 p.d],.int .i64 s] w (Ret (.tuple #[.string (mkB (lineL p s++[10])),.int .i64 (sumE p s)]) w):=by
 have hhl:=headL_len p he
 have HHL:=hide hhl
 have hsb:=hide (sumE_bound p s s0 s1)
 have HE:=hide (show headL p=evWord p.kind++32::join ([p.a,p.b,p.c,p.d].map itoa) [32] from rfl)
 have HL:=hide (show lineL p s=headL p++32::itoa (sumE p s) from rfl)
 have HSE:=hide (show sumE p s=sumL s (headL p) from rfl)
 generalize headL p=hd at *
 generalize lineL p s=ln at *
 generalize sumE p s=sm at *
 obtain ⟨hk,ha,hb,hc,hdd⟩:=evB_bounds he
 clear he
 obtain ⟨k,a,b,c,d⟩:=p
 simp only at hk ha hb hc hdd HE
 rw [inB_true] at hk
 obtain ⟨K,rfl⟩:∃K:Nat,k=K:=⟨k.toNat,by omega⟩
 obtain ⟨W,HW⟩:∃W,Hid (W=w.alloc (.cells #[.int .i64 K,.int .i64 a,.int .i64 b,.int .i64 c,.int .i64 d] 54)):=⟨_,hide rfl⟩
 have hR:Row W w.heap.size 54 [.int .i64 K,.int .i64 a,.int .i64 b,.int .i64 c,.int .i64 d]:=by rw [HW.out]; exact Row.new _ _ _
 have hx0:Ext w W:=by rw [HW.out]; exact Ext.alloc _ _
 have hG:=hg.ext hx0
 have hwd:=hG.words K (by omega)
 rw [if_neg (by omega)] at hwd
 have hlt:=hR.lt
 have x0:=hR.cell 0
 have x1:=hR.cell 1
 have x2:=hR.cell 2
 have x3:=hR.cell 3
 have x4:=hR.cell 4
 simp only [List.getElem?_cons_zero,List.getElem?_cons_succ] at x0 x1 x2 x3 x4
 have hz0:0<W.heap.size:=by omega
 have hwl:=evWord_len K
 have hsz1:(mkB (evWord K)).size≤8:=hwl
 generalize hwe:evWord K=wd at *
 go_enter Tryz.func50,Tryz.ntmps50
 go_wp2_with fail
 rw [←HW.out]
 refine wp_region_ph [([0,1,2,3,4,5,6,7,8,9,10,11,12],13),([],14)] [15,16] (by kernel_rfl) (by kernel_rfl) (by intro c a w d v h; cases d <;> exact h) ?_
 simp only [wpPh,pickL,nthO]
 repeat (go_big_quiet_step (fail))
 refine wpQuiet_nil ?_
 go_wp2_with fail
 have hx1:Ext W (W.alloc (.cells #[.int .i64 a,.int .i64 b,.int .i64 c,.int .i64 d] 2)).drew:=(Ext.alloc _ _).drew
 have hrow:RowOf (W.alloc (.cells #[.int .i64 a,.int .i64 b,.int .i64 c,.int .i64 d] 2)).drew W.heap.size 2 intC [a,b,c,d]:=(Row.new W 2 [.int .i64 a,.int .i64 b,.int .i64 c,.int .i64 d]).drew
 refine ⟨Ext.alloc W.drew _,wpQuiet_nil ?_⟩
 have hG1:=hG.ext hx1
 generalize (W.alloc (.cells #[.int .i64 a,.int .i64 b,.int .i64 c,.int .i64 d] 2)).drew=W1 at *
 go_wp2_with fail
 have hjl:(join ([a,b,c,d].map itoa) [32]).length≤hd.length:=by rw [HE.out]; simp; omega
 refine (c_joinNumbers (some ⟨W.heap.size,0,none⟩) 4 4 [a,b,c,d] [32] _ (hrow.slice intC_len rfl (by omega)) (by omega) (by intro x hx; simp at hx; omega) (by omega) hG1).mono ?_
 rintro e w2 ⟨rfl,hx2⟩
 generalize hjn:join ([a,b,c,d].map itoa) [32]=jn at *
 go_wp2_with fail
 refine ⟨hx2,?_⟩
 have HJN:=hide hjn
 have HWE:=hide hwe
 clear hjn hwe
 have h12:mkB wd++(⟨#[32]⟩:ByteArray)=mkB (wd++[32]):=mkB_append wd [32]
 rw [h12]
 have q1:(mkB (wd++[32])).size≤9:=by rw [mkB_size]; simp; omega
 have q2:(mkB jn).size≤4000000100:=by rw [mkB_size]; omega
 have h23:mkB (wd++[32])++mkB jn=mkB hd:=by rw [mkB_append,HE.out]; simp
 clear h12
 have H23:=hide h23
 clear h23
 repeat (go_big_quiet_step (fail))
 refine wpQuiet_nil ?_
 rw [H23.out]
 have q3:(mkB hd).size=hd.length:=rfl
 have hsz:hd.length≤4000000100:=hhl
 have hG2:=hG1.ext hx2
 have hX2:=hx0.trans (hx1.trans hx2)
 clear x0 x1 x2 x3 x4 hlt hwd hR hG hrow hx0 hx1 hz0
 go_wp2_with fail
 go_loop [1,7] (fun v i=>∃(j:Nat) (z:Int),j≤hd.length∧i= .int .i64 j∧v= .int .i64 z∧0≤z∧z<99991∧Hid (sumL z (hd.drop j)=sm)) (fun _ i=>hd.length-(intOf i).toNat)
 case atStart=>exact ⟨0,s,Nat.zero_le _,rfl,rfl,s0,s1,hide (by rw [HSE.out]; rfl)⟩
 case round=>
  obtain ⟨j,z,hj,rfl,rfl,z0,z1,HZ⟩:=hrel
  by_cases hjl:j<hd.length
  ·obtain ⟨ch,hch⟩:∃ch,hd[j]? =some ch:=⟨_,List.getElem?_eq_getElem hjl⟩
   have hat:=str_at hd j ch hch w2
   have HCH:=hide hch
   clear hch
   have hcb:(ch.toNat:Int)<256:=by have:=ch.toNat_lt; omega
   have hc0:0≤(ch.toNat:Int):=by omega
   generalize hcn:(ch.toNat:Int)=cn at *
   have HCN:=hide hcn
   clear hcn
   go_wp2_with fail
   go_round
   case rel=>exact ⟨j+1,(257*z+cn+1) % 99991,by omega,by go_num,by go_num,Int.emod_nonneg _ (by omega),Int.emod_lt_of_pos _ (by omega),hide (by rw [←HZ.out,sumL_drop hd j ch z HCH.out,HCN.out])⟩
   case measure=>simp [intOf]; omega
  ·obtain rfl:j=hd.length:=by omega
   have HZ2:=hide (show z=sm by have:=HZ.out; rwa [List.drop_length] at this)
   clear HZ
   go_wp2_with fail
   refine (c_decimal z (by omega) (by omega) _ hG2).mono ?_
   rintro e w3 ⟨rfl,hx3⟩
   have g1:mkB hd++(⟨#[32]⟩:ByteArray)=mkB (hd++[32]):=mkB_append hd [32]
   rw [g1]
   have il:=itoa_len z (by omega) (by omega)
   have q4:(mkB (hd++[32])).size≤4000000101:=by rw [mkB_size]; simp; omega
   have q5:(mkB (itoa z)).size≤1000000010:=il
   have q6:(mkB (hd++[32])++mkB (itoa z)).size≤5000000111:=by rw [ByteArray.size_append]; omega
   have hend:mkB (hd++[32])++mkB (itoa z)++(⟨#[10]⟩:ByteArray)=mkB (ln++[10]):=by
    rw [mkB_append]
    show _++mkB [10]=_
    rw [mkB_append,HL.out,HZ2.out]
    simp
   have HEND:=hide hend
   clear g1 hend
   go_wp2_with fail
   rw [HEND.out]
   exact bodyPost_ret (v:= .tuple #[.string (mkB (ln++[10])),.int .i64 z]) (by simp [results,Tryz.results50,go_sem]) rfl (Ret.of (by rw [HZ2.out]) (hX2.trans hx3))
end Go.Proofs.YtinindjjapblcaaGreatDoor
namespace Go.Proofs.YtinindjjapblcaaGreatDoor
open Go.RowKit
open Go.Lib hiding intOf
theorem c_l32Words (w:World):
  Calls Tryz.prog 164 #[] w (fun e w'=>e= .returned (.slice (some ⟨w.heap.size,0,none⟩) 3 3)∧w'=w.alloc (.cells #[.string (mkB wNom),.string (mkB wRead),.string (mkB wClose)] 9)):=by
 go_enter Tryz.func164,Tryz.ntmps164
 go_wp2_with fail
 go_ret
 exact ⟨rfl,rfl⟩
theorem words_cell {w':World} {g:Nat} (h:Row w' g 9 [.string (mkB wNom),.string (mkB wRead),.string (mkB wClose)]) (M:Nat) (hM:M<3):w'.cell? ⟨g,M,none⟩=some (.string (mkB (evWord ((M:Int)+1)))):=by
 rw [h.cell M]
 have:M=0∨M=1∨M=2:=by omega
 rcases this with rfl | rfl | rfl <;> rfl
def tailL (xs:List Int):List UInt8:=xs.flatMap fun x=>32::itoa x
theorem headL_tail (k a b c d:Int):headL ⟨k,a,b,c,d⟩=evWord k++tailL [a,b,c,d]:=by
 simp [headL,join_four,tailL]
theorem tailL_take {xs:List Int} {j:Nat} {x:Int} (h:xs[j]? =some x):tailL (xs.take (j+1))=tailL (xs.take j)++32::itoa x:=by
 rw [List.take_add_one,h]
 simp [tailL]
set_option maxHeartbeats 4000000 in
theorem c_l32Line (p:Event) (s:Int) (w:World) (he:evB p=true) (s0:0≤s) (s1:s<99991):
  Calls Tryz.prog 117 #[.agg #[.int .i64 p.kind,.int .i64 p.a,.int .i64 p.b,.int .i64 p.c,.int .i64 p.d],.int .i64 s] w (Ret (.tuple #[.string (mkB (lineL p s)),.int .i64 (sumE p s)]) w):=by
 have hhl:=headL_len p he
 have HL:=hide (show lineL p s=headL p++32::itoa (sumE p s) from rfl)
 have HSE:=hide (show sumE p s=sumL s (headL p) from rfl)
 have HE0:=hide (headL_tail p.kind p.a p.b p.c p.d)
 have HE:=hide (show headL p=evWord p.kind++tailL [p.a,p.b,p.c,p.d] from HE0.out)
 clear HE0
 generalize headL p=hd at *
 generalize lineL p s=ln at *
 generalize sumE p s=sm at *
 obtain ⟨hk,ha,hb,hc,hdd⟩:=evB_bounds he
 clear he
 obtain ⟨k,a,b,c,d⟩:=p
 simp only at hk ha hb hc hdd HE
 rw [inB_true] at hk
 obtain ⟨M,rfl⟩:∃M:Nat,k=(M:Int)+1:=⟨k.toNat-1,by omega⟩
 have hM:M<3:=by omega
 obtain ⟨W,HW⟩:∃W,Hid (W=w.alloc (.cells #[.int .i64 ((M:Int)+1),.int .i64 a,.int .i64 b,.int .i64 c,.int .i64 d] 54)):=⟨_,hide rfl⟩
 have hR:Row W w.heap.size 54 [.int .i64 ((M:Int)+1),.int .i64 a,.int .i64 b,.int .i64 c,.int .i64 d]:=by rw [HW.out]; exact Row.new _ _ _
 have hx0:Ext w W:=by rw [HW.out]; exact Ext.alloc _ _
 have hlt:=hR.lt
 have x0:=hR.cell 0
 have x1:=hR.cell 1
 have x2:=hR.cell 2
 have x3:=hR.cell 3
 have x4:=hR.cell 4
 simp only [List.getElem?_cons_zero,List.getElem?_cons_succ] at x0 x1 x2 x3 x4
 have hzw:W.heap.size=w.heap.size+1:=by rw [HW.out]; simp
 obtain ⟨W1,HW1⟩:∃W1,Hid (W1=W.alloc (.cells #[.int .i64 a,.int .i64 b,.int .i64 c,.int .i64 d] 2)):=⟨_,hide rfl⟩
 have hx1:Ext W W1:=by rw [HW1.out]; exact Ext.alloc _ _
 have hrow:RowOf W1 (w.heap.size+1) 2 intC [a,b,c,d]:=by rw [HW1.out, ←hzw]; exact Row.new W 2 [.int .i64 a,.int .i64 b,.int .i64 c,.int .i64 d]
 have y0:=(hR.ext hx1).cell 0
 have hlt1:=(hR.ext hx1).lt
 simp only [List.getElem?_cons_zero] at y0
 have hwl:=evWord_len ((M:Int)+1)
 go_enter Tryz.func117,Tryz.ntmps117
 go_wp2_with fail
 rw [←HW.out, ←HW1.out]
 refine wp_region_ph [([1,2,3],0)] [4,5,6] (by kernel_rfl) (by kernel_rfl) (by intro c a w d v h; cases d <;> exact h) ?_
 simp only [wpPh,pickL,nthO]
 repeat (go_big_quiet_step (fail))
 refine wpQuiet_nil ?_
 go_wp2_with fail
 refine (c_l32Words _).mono ?_
 rintro e w2 ⟨rfl,rfl⟩
 obtain ⟨W2,HW2⟩:∃W2,Hid (W2=(W1.alloc (.cells #[.string (mkB wNom),.string (mkB wRead),.string (mkB wClose)] 9)).drew):=⟨_,hide rfl⟩
 have hwr:Row W2 W1.heap.size 9 [.string (mkB wNom),.string (mkB wRead),.string (mkB wClose)]:=by rw [HW2.out]; exact (Row.new W1 _ _).drew
 have hx2:Ext W1 W2:=by rw [HW2.out]; exact (Ext.alloc _ _).drew
 have hx2d:Ext W1.drew W2:=by rw [HW2.out]; exact Ext.alloc W1.drew _
 have hwc:=words_cell hwr M hM
 have hwlt:=hwr.lt
 go_wp2_with fail
 rw [←HW2.out]
 refine ⟨hx2d,?_⟩
 generalize hwd:evWord ((M:Int)+1)=wd at *
 have HWD:=hide hwd
 clear hwd
 repeat (go_big_quiet_step (fail))
 refine wpQuiet_nil ?_
 have hrow2:=hrow.ext hx2
 have hX2:=hx0.trans (hx1.trans hx2)
 clear x0 x1 x2 x3 x4 hlt hlt1 y0 hwc hwlt hrow hR hwr hx0 hx1 hx2 hx2d
 have hl:=hide (show ∀j,j≤4→(tailL ([a,b,c,d].take j)).length≤1000000011*j∧(wd++tailL ([a,b,c,d].take j)).length≤4000000100 from by
  have i1:=itoa_len a (by omega) (by omega)
  have i2:=itoa_len b (by omega) (by omega)
  have i3:=itoa_len c (by omega) (by omega)
  have i4:=itoa_len d (by omega) (by omega)
  intro j hj
  have:j=0∨j=1∨j=2∨j=3∨j=4:=by omega
  rcases this with rfl | rfl | rfl | rfl | rfl <;> simp [tailL] <;> omega)
 go_wp2_with fail
 go_loopw [7,8] (fun v i wr=>∃(j:Nat),j≤4∧i= .int .i64 j∧v= .string (mkB (wd++tailL ([a,b,c,d].take j)))∧Ext W2 wr) (fun _ i _=>4-(intOf i).toNat)
 case atStart=>exact ⟨0,Nat.zero_le _,rfl,by simp [tailL],Ext.refl _⟩
 case round=>
  obtain ⟨j,hj,rfl,rfl,hx⟩:=hrel
  have hlj:=(hl.out j hj).2
  by_cases hj4:j<4
  ·have hlj1:=(hl.out (j+1) (by omega)).2
   have hsl:=RowOf.slice (hrow2.ext hx) intC_len (n:=4) rfl (by omega)
   obtain ⟨b',off,x,hA,hb',hxk,hc0⟩:=hsl.get1 hj4
   injection hA with hA
   injection hA with hA1 hA2
   subst hA1 hA2
   rw [Nat.zero_add] at hc0
   have hbx: -1000000000≤x∧x≤1000000000:=by
    have:=List.mem_of_getElem? hxk
    simp at this
    omega
   have HX:=hide hxk
   clear hxk hsl
   have HT:=hide (tailL_take HX.out)
   generalize htj:wd++tailL ([a,b,c,d].take j)=tj at *
   have q1:(mkB tj).size≤4000000100:=hlj
   have g1:mkB tj++(⟨#[32]⟩:ByteArray)=mkB (tj++[32]):=mkB_append tj [32]
   have G1:=hide g1
   clear g1
   go_wp2_with fail
   refine (c_l12Number x (by omega) (by omega) _).mono ?_
   rintro e w3 ⟨rfl,hx3⟩
   rw [G1.out]
   have q2:(mkB (tj++[32])).size≤4000000101:=by rw [mkB_size]; simp; omega
   have q3:(mkB (itoa x)).size≤1000000010:=itoa_len x hbx.1 hbx.2
   have g2:mkB (tj++[32])++mkB (itoa x)=mkB (wd++tailL ([a,b,c,d].take (j+1))):=by
    rw [mkB_append,HT.out, ←htj]; simp
   have G2:=hide g2
   clear g2
   go_wp2_with fail
   go_roundw
   case rel=>exact ⟨j+1,by omega,by go_num,by rw [G2.out],hx.trans hx3⟩
   case measure=>simp [intOf]; omega
  ·obtain rfl:j=4:=by omega
   have h4:wd++tailL ([a,b,c,d].take 4)=hd:=by rw [HE.out]; rfl
   have H4:=hide h4
   rw [h4] at hlj
   rw [H4.out]
   clear h4
   have q3:(mkB hd).size=hd.length:=rfl
   go_wp2_with fail
   go_loop [9,10] (fun v i=>∃(j:Nat) (z:Int),j≤hd.length∧i= .int .i64 j∧v= .int .i64 z∧0≤z∧z<99991∧Hid (sumL z (hd.drop j)=sm)) (fun _ i=>hd.length-(intOf i).toNat)
   case atStart=>exact ⟨0,s,Nat.zero_le _,rfl,rfl,s0,s1,hide (by rw [HSE.out]; rfl)⟩
   case round=>
    obtain ⟨j,z,hj,rfl,rfl,z0,z1,HZ⟩:=hrel
    by_cases hjl:j<hd.length
    ·obtain ⟨ch,hch⟩:∃ch,hd[j]? =some ch:=⟨_,List.getElem?_eq_getElem hjl⟩
     have hat:=str_at hd j ch hch wr
     have HCH:=hide hch
     clear hch
     have hcb:(ch.toNat:Int)<256:=by have:=ch.toNat_lt; omega
     have hc0:0≤(ch.toNat:Int):=by omega
     generalize hcn:(ch.toNat:Int)=cn at *
     have HCN:=hide hcn
     clear hcn
     go_wp2_with fail
     go_round
     case rel=>exact ⟨j+1,(257*z+cn+1) % 99991,by omega,by go_num,by go_num,Int.emod_nonneg _ (by omega),Int.emod_lt_of_pos _ (by omega),hide (by rw [←HZ.out,sumL_drop hd j ch z HCH.out,HCN.out])⟩
     case measure=>simp [intOf]; omega
    ·obtain rfl:j=hd.length:=by omega
     have HZ2:=hide (show z=sm by have:=HZ.out; rwa [List.drop_length] at this)
     clear HZ
     have Z:∃zn:Nat,z=zn:=⟨z.toNat,by omega⟩
     obtain ⟨zn,rfl⟩:=Z
     have IL:=hide (itoa_nonneg zn)
     go_wp2_with fail
     refine (c_l01Dec zn (by omega) _).mono ?_
     rintro e w3 ⟨rfl,hx3⟩
     have g1:mkB hd++(⟨#[32]⟩:ByteArray)=mkB (hd++[32]):=mkB_append hd [32]
     rw [g1]
     have il:=itoa_len zn (by omega) (by omega)
     have q4:(mkB (hd++[32])).size≤4000000101:=by rw [mkB_size]; simp; omega
     have q5:(mkB (decDigits zn)).size≤1000000010:=by rw [mkB_size, ←IL.out]; exact il
     have hend:mkB (hd++[32])++mkB (decDigits zn)=mkB ln:=by
      rw [mkB_append,HL.out, ←HZ2.out,IL.out]
      simp
     have HEND:=hide hend
     clear g1 hend
     go_wp2_with fail
     rw [HEND.out]
     exact bodyPost_ret (v:= .tuple #[.string (mkB ln),.int .i64 zn]) (by simp [results,Tryz.results117,go_sem]) rfl (Ret.of (by rw [HZ2.out]) (hX2.trans (hx.trans hx3)))
end Go.Proofs.YtinindjjapblcaaGreatDoor
namespace Go.Proofs.YtinindjjapblcaaGreatDoor
open Go.RowKit
open Go.Lib hiding intOf
theorem strC_one (y:List UInt8):∀u∈strC y,u.oneCell'=true:=by intro u hu; simp [strC] at hu; subst hu; rfl
theorem mkB_extract (l:List UInt8) (a b:Nat):(mkB l).extract a b=mkB ((l.drop a).take (b-a)):=by
 have h:=extract_data (mkB l) a b
 rw [mkB_list] at h
 rw [←mkB_of ((mkB l).extract a b),h]
def SpInv (c:UInt8) (l:List UInt8) (i f:Nat) (out:List (List UInt8)):Prop:=
 (i≤l.length∧f≤i∧splitL c l=out++splitL c (l.drop f)∧c ∉ (l.drop f).take (i-f))∨(i=l.length+1∧splitL c l=out)
theorem SpInv.start (c:UInt8) (l:List UInt8):SpInv c l 0 0 []:= .inl ⟨Nat.zero_le _,Nat.le_refl _,by simp,by simp⟩
theorem SpInv.same {c:UInt8} {l:List UInt8} {i f:Nat} {out:List (List UInt8)} (h:SpInv c l i f out) {b:UInt8} (hb:l[i]? =some b) (hne:b≠c):SpInv c l (i+1) f out:=by
 obtain ⟨hi,hbi⟩:=List.getElem?_eq_some_iff.1 hb
 rcases h with ⟨h1,h2,h3,h4⟩ | ⟨h1,_⟩
 ·refine .inl ⟨hi,by omega,h3,?_⟩
  have hd:(l.drop f)[i-f]? =some b:=by rw [List.getElem?_drop,show f+(i-f)=i by omega,hb]
  rw [show i+1-f=(i-f)+1 by omega,List.take_add_one,hd]
  simp only [Option.toList_some,List.mem_append,List.mem_singleton,not_or]
  exact ⟨h4,fun e=>hne e.symm⟩
 ·omega
theorem SpInv.hit {c:UInt8} {l:List UInt8} {i f:Nat} {out:List (List UInt8)} (h:SpInv c l i f out) (hb:l[i]? =some c):SpInv c l (i+1) (i+1) (out++[(l.drop f).take (i-f)]):=by
 obtain ⟨hi,hbi⟩:=List.getElem?_eq_some_iff.1 hb
 rcases h with ⟨h1,h2,h3,h4⟩ | ⟨h1,_⟩
 ·refine .inl ⟨hi,Nat.le_refl _,?_,by simp⟩
  have hd:l.drop f=(l.drop f).take (i-f)++c::l.drop (i+1):=by
   conv=>lhs; rw [←List.take_append_drop (i-f) (l.drop f)]
   rw [List.drop_drop,show f+(i-f)=i by omega,List.drop_eq_getElem_cons hi,hbi]
  rw [h3,List.append_assoc]
  congr 1
  conv=>lhs; rw [hd]
  rw [splitL_app c _ _ h4]
  rfl
 ·omega
theorem SpInv.stop {c:UInt8} {l:List UInt8} {f:Nat} {out:List (List UInt8)} (h:SpInv c l l.length f out):SpInv c l (l.length+1) (l.length+1) (out++[(l.drop f).take (l.length-f)]):=by
 rcases h with ⟨h1,h2,h3,h4⟩ | ⟨h1,_⟩
 ·refine .inr ⟨rfl,?_⟩
  have ht:(l.drop f).take (l.length-f)=l.drop f:=List.take_of_length_le (by rw [List.length_drop]; exact Nat.le_refl _)
  rw [ht] at h4 ⊢
  rw [h3,splitL_no c _ h4]
 ·omega
theorem SpInv.done {c:UInt8} {l:List UInt8} {f:Nat} {out:List (List UInt8)} (h:SpInv c l (l.length+1) f out):splitL c l=out:=by
 rcases h with ⟨h1,_⟩ | ⟨_,h⟩
 ·omega
 ·exact h
set_option maxHeartbeats 4000000 in
set_option maxRecDepth 8000 in
theorem c_l01Split (l:List UInt8) (c:UInt8) (cn:Int) (hcn:(c.toNat:Int)=cn) (hl:l.length≤1048576) (w:World):
  Calls Tryz.prog 115 #[.string (mkB l),.int .u8 cn] w (fun e w'=>∃v,e= .returned v∧OwnL w' w.heap.size 9 1 strC v (splitL c l)∧Ext w w'):=by
 have hsz:(mkB l).size=l.length:=rfl
 have HCN:=hide hcn
 clear hcn
 obtain ⟨W0,HW⟩:∃W0,Hid (w.alloc (.cells #[] 9)=W0):=⟨_,hide rfl⟩
 have ho0:OwnL W0 w.heap.size 9 1 strC (.slice (some ⟨w.heap.size,0,none⟩) 0 0) []:=by rw [←HW.out]; exact OwnL.empty w _ _ _ _ (Nat.le_refl _)
 have hx0:Ext w W0:=by rw [←HW.out]; exact Ext.alloc _ _
 go_enter Tryz.func115,Tryz.ntmps115
 go_wp2_with fail
 rw [HW.out]
 go_loopw [5,6,7] (fun v f i wr=>∃(k g:Nat) (out:List (List UInt8)),k≤l.length+1∧g≤k∧out.length≤k∧i= .int .i64 k∧f= .int .i64 g∧Hid (SpInv c l k g out)∧OwnL wr w.heap.size 9 1 strC v out∧Ext w wr) (fun _ _ i _=>l.length+1-(intOf i).toNat)
 case atStart=>exact ⟨0,0,[],Nat.zero_le _,Nat.le_refl _,Nat.le_refl _,rfl,rfl,hide (SpInv.start c l),ho0,hx0⟩
 case round=>
  obtain ⟨k,g,out,hk,hgk,hol,rfl,rfl,HS,ho,hx⟩:=hrel
  clear ho0 hx0
  have hzx:=hx.size
  by_cases hlt:k<l.length
  ·obtain ⟨b,hb⟩:∃b,l[k]? =some b:=⟨_,List.getElem?_eq_getElem hlt⟩
   have hat:=str_at l k b hb wr
   have HB:=hide hb
   clear hb
   by_cases hbc:b=c
   ·subst hbc
    rw [HCN.out] at hat
    have hke:((k:Int)==(l.length:Int))=false:=by rw [beq_eq_false_iff_ne]; omega
    go_wp2_with (at_builtin; go_must (refine wpList_append_one rfl _ _ 159 rfl (w.heap.size) 9 _ 1 16 Tryz.underlying159 string_info rfl (by decide) strC strC_len strC_one _ _ rfl (ho.ext (Ext.alloc _ _)) _ (((mkB l).extract g k).data.toList) rfl _ rfl (by first | rfl | simp) (by omega) (by omega) (by first | omega | (simp; omega)) ?_))
    intro v1 w4 ho4 hext4
    rw [mkB_list] at ho4
    have hx4:=hext4 w (Nat.le_refl _) (hx.and_alloc _)
    go_wp2_with fail
    go_roundw
    case rel=>exact ⟨k+1,k+1,_,by omega,by omega,by simp; omega,by go_num,by go_num,hide (HS.out.hit HB.out),ho4,hx4⟩
    case measure=>simp [intOf]; omega
   ·have hne:¬((b.toNat:Int)=cn):=by
     rw [←HCN.out]
     intro h
     exact hbc (UInt8.toNat_inj.1 (by omega))
    generalize (b.toNat:Int)=bn at *
    have hbe:(bn==cn)=false:=by rw [beq_eq_false_iff_ne]; exact hne
    have hke:((k:Int)==(l.length:Int))=false:=by rw [beq_eq_false_iff_ne]; omega
    go_wp2_with fail
    go_roundw
    case rel=>exact ⟨k+1,g,out,by omega,by omega,by omega,by go_num,rfl,hide (HS.out.same HB.out hbc),ho,hx⟩
    case measure=>simp [intOf]; omega
  ·by_cases hke:k=l.length
   ·subst hke
    go_wp2_with (at_builtin; go_must (refine wpList_append_one rfl _ _ 159 rfl (w.heap.size) 9 _ 1 16 Tryz.underlying159 string_info rfl (by decide) strC strC_len strC_one _ _ rfl (ho.ext (Ext.alloc _ _)) _ (((mkB l).extract g l.length).data.toList) rfl _ rfl (by first | rfl | simp) (by omega) (by omega) (by first | omega | (simp; omega)) ?_))
    intro v1 w4 ho4 hext4
    rw [mkB_list] at ho4
    have hx4:=hext4 w (Nat.le_refl _) (hx.and_alloc _)
    go_wp2_with fail
    go_roundw
    case rel=>exact ⟨l.length+1,l.length+1,_,by omega,by omega,by simp; omega,by go_num,by go_num,hide HS.out.stop,ho4,hx4⟩
    case measure=>simp [intOf]
   ·obtain rfl:k=l.length+1:=by omega
    have hd:=HS.out.done
    go_wp2_with fail
    go_ret
    exact ⟨_,rfl,by rw [hd]; exact ho,hx⟩
end Go.Proofs.YtinindjjapblcaaGreatDoor
namespace Go.Proofs.YtinindjjapblcaaGreatDoor
open Go.RowKit
open Go.Lib hiding intOf
section
variable {P:Program}
def bytC (b:UInt8):List Value:=[.int .u8 (b.toNat:Int)]
theorem bytC_len (b:UInt8):(bytC b).length=1:=rfl
theorem bytC_one (y:UInt8):∀u∈bytC y,u.oneCell'=true:=by intro u hu; simp [bytC] at hu; subst hu; rfl
theorem strCells_mkB (l:List UInt8):strCells (mkB l)=l.flatMap bytC:=by
 unfold strCells
 rw [mkB_list]
 induction l with
 | nil=>rfl
 | cons b l ih=>rw [List.map_cons,List.flatMap_cons,ih]; rfl
theorem wpList_append_str {ops:Array Oper} {rest:List Oper} {o:Oper} {a:Act} {Q:Exit→Act→World→Prop} {w:World} (hgd:o.guard=none) (s x:Operand) (t u:TypeId)
  (ho:o.op= .call {callee:= .builtin .append,args:= #[s,x],argTypes:= #[t,u]}) (base:Nat) (e:TypeId) (ht:P.underlying t=some (.slice e)) (hu:P.underlying u=some .string)
  (hi:(P.info? e).map (fun i=>(i.zero,i.size,i.bytes))=some (some (.int .u8 0),1,1))
  (v:Value) (L:List UInt8) (hs:a.eval s=v) (hown:OwnL w base e 1 bytC v L) (l:List UInt8) (hx:a.eval x= .string (mkB l)) (hlen:L.length+l.length≤1000000000) (hbase:base≤w.heap.size)
  (h:∀v' w',OwnL w' base e 1 bytC v' (L++l)→(∀w0:World,w0.heap.size≤base→Ext w0 w→Ext w0 w')→wpList P ops Q rest (a.put o.dst v') w'):wpList P ops Q (o::rest) a w:=by
 obtain ⟨i,hi1,hi2,hi3,hi4⟩:=info_parts hi
 refine wpList_append_own_string w hgd s x t u ho base e i ht hu hi1 hi2 hi3 hi4 v L.length (L.flatMap bytC) hs hown (mkB l) hx (by rw [mkB_size]; simp only [maxLen]; omega) (by rw [mkB_size]; omega) hbase ?_
 intro v' w' h2 h3 _
 refine h v' w' ?_ ?_
 ·unfold OwnL
  rw [List.length_append,List.flatMap_append, ←strCells_mkB l]
  exact h2
 ·intro w0 hw0 hx0
  exact hx0.grown h3 (fun k hk=>Nat.le_trans hw0 (hown.block_le hk))
end
theorem byte_info:(Tryz.prog.info? 5).map (fun i=>(i.zero,i.size,i.bytes))=some (some (.int .u8 0),1,1):=by kernel_rfl
theorem flat_byte (L:List UInt8) (j:Nat) (hj:j<L.length):(L.flatMap bytC)[j]? =some (.int .u8 (L[j].toNat:Int)):=by
 rw [←strCells_mkB,strCells,mkB_list,List.getElem?_map,List.getElem?_eq_getElem hj]
 rfl
theorem str_conv {w:World} {base:Nat} {v:Value} {L:List UInt8} (h:OwnL w base 5 1 bytC v L):(convert 22 9 v).run Tryz.prog w= .ok (.string (mkB L)) w:=by
 have hc:=fun (g:Nat) (he:v.ownBlock=some g)=>World.ownsRow.cells (g:=g) h he
 rcases h.2 with ⟨rfl,hn⟩ | ⟨g,cap,cur,rfl,_⟩
 ·have:L=[]:=List.length_eq_zero_iff.1 hn
  subst this
  rw [run_convert_bytes_string w 22 9 5 none 0 0 Tryz.underlying22 Tryz.underlying5 Tryz.underlying9]
  simp [Conv.bytesToString]
  rfl
 ·exact run_convert_bytes_back (P:=Tryz.prog) w 22 9 5 ⟨g,0,none⟩ cap L Tryz.underlying22 Tryz.underlying5 Tryz.underlying9 (fun j hj=>hc g rfl j _ (flat_byte L j hj))
theorem decDigits_small:∀(k u:Nat),1≤k→u<10 ^ k→(decDigits u).length≤k:=by
 intro k
 induction k with
 | zero=>intro u h; omega
 | succ k ih=>
  intro u _ hu
  rw [decDigits]
  split
  ·simp
  ·by_cases hk:k=0
   ·subst hk; omega
   ·have:=ih (u/10) (by omega) (by rw [Nat.pow_succ] at hu; omega)
    rw [List.length_append]
    simp
    omega
theorem itoa_small (n:Int) (h0: -1000000<n) (h1:n<1000000):(itoa n).length≤7:=by
 unfold itoa
 split
 ·have:=decDigits_small 6 n.natAbs (by omega) (by omega)
  simp
  omega
 ·have:=decDigits_small 6 n.toNat (by omega) (by omega)
  omega
theorem headL_small (e:Event) (he:evB e=true):(headL e).length≤40:=by
 obtain ⟨_,ha,hb,hc,hd⟩:=evB_bounds he
 have h0:=evWord_len e.kind
 have h1:=itoa_small e.a (by omega) (by omega)
 have h2:=itoa_small e.b (by omega) (by omega)
 have h3:=itoa_small e.c (by omega) (by omega)
 have h4:=itoa_small e.d (by omega) (by omega)
 rw [headL,join_four]
 simp
 omega
theorem lineL_small (e:Event) (x:Int) (he:evB e=true) (h0:0≤x) (h1:x<99991):(lineL e x).length≤48:=by
 have h2:=headL_small e he
 have h3:=sumE_bound e x h0 h1
 have h4:=itoa_small (sumE e x) (by omega) (by omega)
 rw [lineL]
 simp
 omega
theorem textL_take {es:List Event} {k:Nat} {e:Event} (h:es[k]? =some e):textL (es.take (k+1)) 1=textL (es.take k) 1++lineL e (sumEs (es.take k) 1)++[10]∧sumEs (es.take (k+1)) 1=sumE e (sumEs (es.take k) 1):=by
 rw [List.take_add_one,h]
 simp only [Option.toList_some]
 rw [textL_append,sumEs_append]
 simp [textL,sumEs]
set_option maxHeartbeats 4000000 in
set_option maxRecDepth 8000 in
theorem c_l32Text (A:Option Addr) (n c:Nat) (es:List Event) (w:World) (hs:SliceOf w 5 Event.cells A n c es) (he:∀e∈es,evB e=true) (hn:n≤1048576):
  Calls Tryz.prog 64 #[.slice A n c] w (Ret (.tuple #[.string (mkB (textL es 1)),.int .i64 (sumEs es 1)]) w):=by
 have HE:=hide he
 clear he
 obtain ⟨W0,HW⟩:∃W0,Hid (w.alloc (.cells #[] 5)=W0):=⟨_,hide rfl⟩
 have ho0:OwnL W0 w.heap.size 5 1 bytC (.slice (some ⟨w.heap.size,0,none⟩) 0 0) []:=by rw [←HW.out]; exact OwnL.empty w _ _ _ _ (Nat.le_refl _)
 have hx0:Ext w W0:=by rw [←HW.out]; exact Ext.alloc _ _
 go_enter Tryz.func64,Tryz.ntmps64
 go_wp2_with fail
 rw [HW.out]
 go_loopw [4,5,6,7,8] (fun v x i _ _ wr=>∃(k:Nat) (z:Int) (L:List UInt8),k≤n∧L.length≤49*k∧i= .int .i64 k∧x= .int .i64 z∧0≤z∧z<99991∧Hid (z=sumEs (es.take k) 1)∧Hid (L=textL (es.take k) 1)∧OwnL wr w.heap.size 5 1 bytC v L∧Ext w wr) (fun _ _ i _ _ _=>n-(intOf i).toNat)
 case atStart=>exact ⟨0,1,[],Nat.zero_le _,Nat.le_refl _,rfl,rfl,by omega,by omega,hide rfl,hide rfl,ho0,hx0⟩
 case round=>
  obtain ⟨k,z,L,hk,hL,rfl,rfl,z0,z1,HZ,HL,ho,hx⟩:=hrel
  clear ho0 hx0
  have hzx:=hx.size
  by_cases hlt:k<n
  ·obtain ⟨b,off,e,rfl,hb,hxk,hc⟩:=(hs.ext hx).get hlt
   have hc0:=hc 0 _ rfl
   have hc1:=hc 1 _ rfl
   have hc2:=hc 2 _ rfl
   have hc3:=hc 3 _ rfl
   have hc4:=hc 4 _ rfl
   clear hc
   simp only [Nat.add_zero] at hc0
   have HX:=hide hxk
   have hev:=HE.out e (List.mem_of_getElem? hxk)
   clear hxk
   have hls:=lineL_small e z hev z0 z1
   have hsb:=sumE_bound e z z0 z1
   have HT:=hide (textL_take HX.out)
   go_wp2_with fail
   refine (c_l32Line e z _ hev z0 z1).mono ?_
   rintro e' w1 ⟨rfl,hx1⟩
   have hx1':=hx.trans hx1
   have hz1':=hx1'.size
   go_wp2_with (at_builtin; go_must (refine wpList_append_str rfl _ _ 22 9 rfl w.heap.size 5 Tryz.underlying22 Tryz.underlying9 byte_info _ _ rfl (ho.ext hx1) _ rfl (by omega) (by omega) ?_))
   intro v2 w2 ho2 hext2
   have hx2:=hext2 w (Nat.le_refl _) hx1'
   have hz2:=hx2.size
   have hl2:(L++lineL e z).length≤49*k+48:=by rw [List.length_append]; omega
   go_wp2_with (at_builtin; go_must (refine wpList_append_one rfl _ _ 22 rfl w.heap.size 5 _ 1 1 Tryz.underlying22 byte_info rfl (by decide) bytC bytC_len bytC_one _ _ rfl (ho2.ext (Ext.alloc _ _)) _ (10:UInt8) rfl _ rfl (by first | rfl | simp) (by omega) (by omega) (by first | omega | (simp; omega)) ?_))
   intro v3 w3 ho3 hext3
   have hx3:=hext3 w (Nat.le_refl _) (hx2.and_alloc _)
   go_wp2_with fail
   go_roundw
   case rel=>exact ⟨k+1,sumE e z,_,by omega,by simp; omega,by go_num,rfl,hsb.1,hsb.2,hide (by rw [HT.out.2, ←HZ.out]),hide (by rw [HT.out.1, ←HZ.out,HL.out,List.append_assoc]),ho3,hx3⟩
   case measure=>simp [intOf]; omega
  ·obtain rfl:n=k:=by omega
   have ht:es.take n=es:=by rw [hs.len]; exact List.take_length
   have hcv:=str_conv ho
   have HL2:=hide (show L=textL es 1 by rw [HL.out,ht])
   have HZ2:=hide (show z=sumEs es 1 by rw [HZ.out,ht])
   clear ht
   go_wp2_with fail
   exact bodyPost_ret (v:= .tuple #[.string (mkB L),.int .i64 z]) (by simp [results,Tryz.results64,go_sem]) rfl (Ret.of (by rw [HL2.out,HZ2.out]) hx)
end Go.Proofs.YtinindjjapblcaaGreatDoor
namespace Go.Proofs.YtinindjjapblcaaGreatDoor
open Go.RowKit
open Go.Lib hiding intOf
structure Glob (w:World):Prop where
 toJ:GlobJ w
 maxLen:∃m,w.cell? ⟨2,0,none⟩=some (.int .i64 m)
 esyn:∃tp p,w.cell? ⟨7,0,none⟩=some (.iface tp p)
 erng:∃tp p,w.cell? ⟨8,0,none⟩=some (.iface tp p)
theorem Glob.ext {w w':World} (h:Glob w) (hx:Ext w w'):Glob w':=by
 have h1:=h.toJ.lt
 obtain ⟨m,hm⟩:=h.maxLen
 obtain ⟨t1,p1,h2⟩:=h.esyn
 obtain ⟨t2,p2,h3⟩:=h.erng
 exact ⟨h.toJ.ext hx,⟨m,(hx.cell 2 0 (by omega)).trans hm⟩,⟨t1,p1,(hx.cell 7 0 (by omega)).trans h2⟩,⟨t2,p2,(hx.cell 8 0 (by omega)).trans h3⟩⟩
theorem num_casesN (r:NumEnd Nat):(∃v,r= .ok v)∨r=parseUintB 64 []∨r= .range:=by
 cases r
 ·exact .inl ⟨_,rfl⟩
 ·exact .inr (.inl rfl)
 ·exact .inr (.inr rfl)
theorem num_casesI (r:NumEnd Int):(∃v,r= .ok v)∨r=parseIntB 64 []∨r= .range:=by
 cases r
 ·exact .inl ⟨_,rfl⟩
 ·exact .inr (.inl rfl)
 ·exact .inr (.inr rfl)
theorem parse_none (s:ByteArray) (hlim:s.size≤281474976710656) (h:parseIntB 64 s.data.toList=parseIntB 64 []) (ev:Value) (w:World) (hv:w.cell? ⟨7,0,none⟩=some ev) (hev:ev= .nilIface∨∃te pe,ev= .iface te pe):
  Calls Tryz.prog 216 #[.string s,.int .i64 10,.int .i64 64] w fun e w'=>∃v,e= .returned (.tuple #[.int .i64 0,.iface 265 v])∧Ext w w':=by
 refine (Any.strconv_ParseInt_10_at64_syntax Tryz.laysC174 s hlim h ev w hv hev).mono ?_
 rintro e w1 ⟨N,rfl,_,_,hx⟩
 exact ⟨_,rfl,hx⟩
theorem parse_range {l:List UInt8} {v:Int} (h:parseIntB 64 l= .ok v): -9223372036854775808≤v∧v≤9223372036854775807:=by
 cases l with
 | nil=>cases h
 | cons c r=>
  simp only [parseIntB] at h
  generalize parseUintB 64 (if c.toNat=43∨c.toNat=45 then r else c::r)=u at h
  rcases num_casesN u with ⟨u,rfl⟩ | rfl | rfl
  ·simp only at h
   split at h
   ·cases h
   ·split at h
    ·cases h
    ·rename_i h1 h2
     injection h with h
     by_cases hc:c.toNat=45
     ·rw [if_pos hc] at h; simp [hc] at h2; omega
     ·rw [if_neg hc] at h; simp [hc] at h1; omega
  ·cases h
  ·cases h
theorem mkB_toList (l:List UInt8):(mkB l).toList=l:=ByteArray.toList_mk l
theorem mkB_beq_false {a b:List UInt8} (h:a≠b):((mkB a).toList==(mkB b).toList)=false:=by
 rw [mkB_toList,mkB_toList,beq_eq_false_iff_ne]
 exact h
def NumPost (l:List UInt8) (w:World) (e:Ending) (w':World):Prop:=∃n ok,e= .returned (.tuple #[.int .i64 n,.bool ok])∧numP l=(if ok=true then some n else none)∧Ext w w'
set_option maxHeartbeats 1000000 in
theorem c_readNumber (l:List UInt8) (hl:l.length≤1048576) (w:World) (hg:Glob w):
  Calls Tryz.prog 202 #[.string (mkB l)] w (NumPost l w):=by
 obtain ⟨t1,p1,hs⟩:=hg.esyn
 obtain ⟨t2,p2,hr⟩:=hg.erng
 obtain ⟨r,hp⟩:∃r,parseIntB 64 l=r:=⟨_,rfl⟩
 rcases num_casesI r with ⟨v,rfl⟩ | rfl | rfl
 ·skip
  have hv:=parse_range hp
  have HP:=hide hp
  have HN:=hide (show numP l=if itoa v=l then some v else none by rw [numP,hp])
  have hc:=Tryz.strconv_ParseInt_10_at64_ok (mkB l) (by rw [mkB_size]; omega) v hp w
  clear hp
  go_enter Tryz.func202,Tryz.ntmps202
  go_wp2_with fail
  refine hc.mono ?_
  rintro e w1 ⟨rfl,hw1⟩
  have hx1:Ext w w1:=by
   rcases hw1 with rfl | ⟨t,rfl⟩
   ·exact Ext.refl _
   ·exact bytesWorld_below _ _ _
  clear hw1
  by_cases he:itoa v=l
  ·go_wp2_with (go_at_call 101; refine (c_decimal v hv.1 hv.2 _ (hg.toJ.ext hx1)).mono ?_; rw [he]; rintro e w2 ⟨rfl,hx2⟩)
   exact bodyPost_ret (v:= .tuple #[.int .i64 v,.bool true]) (by simp [results,Tryz.results202,go_sem]) rfl ⟨v,true,rfl,by rw [HN.out,if_pos he]; rfl,hx1.trans hx2⟩
  ·have hb:=mkB_beq_false he
   go_wp2_with (go_at_call 101; refine (c_decimal v hv.1 hv.2 _ (hg.toJ.ext hx1)).mono ?_; rintro e w2 ⟨rfl,hx2⟩)
   exact bodyPost_ret (v:= .tuple #[.int .i64 0,.bool false]) (by simp [results,Tryz.results202,go_sem]) rfl ⟨0,false,rfl,by rw [HN.out,if_neg he]; rfl,hx1.trans hx2⟩
 ·have HN:=hide (show numP l=none by rw [numP,hp]; rfl)
  have hc:=parse_none (mkB l) (by rw [mkB_size]; omega) hp _ w hs (.inr ⟨_,_,rfl⟩)
  clear hp
  go_enter Tryz.func202,Tryz.ntmps202
  go_wp2_with fail
  refine hc.mono ?_
  rintro e w1 ⟨v,rfl,hx1⟩
  go_wp2_with fail
  exact bodyPost_ret (v:= .tuple #[.int .i64 0,.bool false]) (by simp [results,Tryz.results202,go_sem]) rfl ⟨0,false,rfl,HN.out,hx1⟩
 ·skip
  have HN:=hide (show numP l=none by rw [numP,hp])
  have hc:=Tryz.strconv_ParseInt_10_at64_range (mkB l) (by rw [mkB_size]; omega) hp _ w hr (.inr ⟨_,_,rfl⟩)
  clear hp
  go_enter Tryz.func202,Tryz.ntmps202
  go_wp2_with fail
  refine hc.mono ?_
  rintro e w1 ⟨N,rfl,_,_,hx1⟩
  go_wp2_with fail
  exact bodyPost_ret (v:= .tuple #[.int .i64 0,.bool false]) (by simp [results,Tryz.results202,go_sem]) rfl ⟨0,false,rfl,HN.out,hx1⟩
end Go.Proofs.YtinindjjapblcaaGreatDoor
