/-
  FnConserved: for every code the law returns true and the code reads as before.
-/
import Derived.Test.YtfkpghdmljjegaaGreatVg01
import Derived.Test.YtfkpghdmljjegaaGreatVe40
import Derived.Test.YtfkpghdmljjegaaGreatVe16
import Derived.Test.YtfkpghdmljjegaaGreatVe46
namespace Go.Proofs.YtfkpghdmljjegaaGreat
open Go.RowKit Go.ChangeShapes Go.WideShapes Go.ChangeAt Go.Deep Go.Joins
set_option maxRecDepth 20000 in
set_option maxHeartbeats 4000000 in
theorem law_Conserved (A:Option Addr) (n c:Nat) (bs:List Int) (w:World) (hbs:SliceOf w 1 byteC A n c bs) (hbd:∀z∈bs,0≤z∧z≤255):
  Calls Tryz.prog 3 #[.slice A n c] w (Ret (.bool true) w):=by
 have HD:=hide hbd
 clear hbd
 by_cases hbig:(4096:Int)<n
 ·have hb:decide ((4096:Int)<n)=true:=by simpa using hbig
  go_enter Tryz.func3,Tryz.ntmps3
  go_wp2_with fail
  refine (c_big A n c _).mono ?_
  rw [hb]
  rintro e w' ⟨rfl,rfl⟩
  go_wp2_with fail
  go_ret
  exact Ret.bool rfl (Ext.refl _)
 have hb:decide ((4096:Int)<n)=false:=by simpa using hbig
 go_enter Tryz.func3,Tryz.ntmps3
 go_wp2_with fail
 refine (c_big A n c _).mono ?_
 rw [hb]
 rintro e w' ⟨rfl,rfl⟩
 clear hb
 go_wp2_with fail
 refine (c_DrawIsConserved A n c bs _ hbs HD.out (by omega)).mono ?_
 rintro e w1 ⟨A0,A1,A2,A3,A4,n0,c0,n1,c1,n2,c2,n3,c3,n4,c4,g,ch,ps,rfl,hO,l2,l3,hx1⟩
 obtain ⟨W1,HW1⟩:∃W1,Hid (w1.alloc (.cells #[.slice A0 n0 c0,.slice A1 n1 c1,.slice A2 n2 c2,.slice A3 n3 c3,.slice A4 n4 c4] 28)=W1):=⟨_,hide rfl⟩
 have hB:Row W1 w1.heap.size 28 [.slice A0 n0 c0,.slice A1 n1 c1,.slice A2 n2 c2,.slice A3 n3 c3,.slice A4 n4 c4]:=by rw [←HW1.out]; exact Row.new w1 28 [.slice A0 n0 c0,.slice A1 n1 c1,.slice A2 n2 c2,.slice A3 n3 c3,.slice A4 n4 c4]
 have hx11:Ext w1 W1:=by rw [←HW1.out]; exact Ext.alloc _ _
 have hO1:=hO.more hx11
 have X1:=hx1.trans hx11
 have hz1:=hx1.size
 obtain ⟨v,HV⟩:∃v,Hid (consB g ch ps=v):=⟨_,hide rfl⟩
 have HB2:=hide (fun b (hb:blkOf A2 n2=some b)=>hO.s2.blk hb)
 clear hO hx1 hx11 hbs
 go_wp2_with fail
 rw [HW1.out]
 refine (c_IsConserved A0 A1 A2 A3 A4 n0 c0 n1 c1 n2 c2 n3 c3 n4 c4 g ch ps _ hO1.s2 hO1.s3 hO1.s4 (by omega) (by omega)).mono ?_
 rw [HV.out]
 rintro e w2 ⟨rfl,hx2⟩
 have hBr:=hB.ext (hx2)
 have b0:=hBr.cell 0
 have b1:=hBr.cell 1
 have b2:=hBr.cell 2
 have b3:=hBr.cell 3
 have b4:=hBr.cell 4
 simp at b0 b1 b2 b3 b4
 have bl:=hBr.lt
 have hO2:=hO1.more hx2
 go_wp2_with fail
 refine (c_specIsConserved A0 A1 A2 A3 A4 n0 c0 n1 c1 n2 c2 n3 c3 n4 c4 g ch ps _ hO2.s2 hO2.s3 hO2.s4 (by omega) (by omega)).mono ?_
 rw [HV.out]
 rintro e w3 ⟨rfl,hx3⟩
 have hO3:=hO2.more hx3
 have hx13:=hx2.trans hx3
 clear hBr b0 b1 b2 b3 b4 bl
 have hBr:=hB.ext (hx13)
 have b0:=hBr.cell 0
 have b1:=hBr.cell 1
 have b2:=hBr.cell 2
 have b3:=hBr.cell 3
 have b4:=hBr.cell 4
 simp at b0 b1 b2 b3 b4
 have bl:=hBr.lt
 have X3:=X1.trans hx13
 by_cases h0:n2=0
 ·have hb0:((n2:Int)==0)=true:=by rw [beq_iff_eq]; omega
  subst h0
  go_wp2_with fail
  go_ret
  exact Ret.bool rfl X3
 ·have hb0:((n2:Int)==0)=false:=by rw [beq_eq_false_iff_ne]; omega
  obtain ⟨b,off,z,hA2,hlo,hbl,hz,hc,hf,hset⟩:=hO3.setGot (k:=0) (by omega)
  subst hA2
  obtain ⟨g',rfl⟩:∃g',g=z::g':=by
   cases g with
   | nil=>simp at hz
   | cons y g'=>simp at hz; subst hz; exact ⟨g',rfl⟩
  have hbw:b<w1.heap.size:=HB2.out b (by unfold blkOf; rw [if_neg h0]; rfl)
  have hne:b≠w1.heap.size:=by omega
  simp only [Nat.add_zero] at hc
  cases v
  ·have X4:=(X3.setCell (p:=⟨b,off,none⟩) hlo (.int .i64 (wrap64 (z+1)))).drew
   clear hset hz hO3 hO2 hO1 hx13 hx2 hx3
   go_wp2_with fail
   clear hb0
   refine wp_region_phZ [(w1.heap.size,2),(b,off)] [] [0,1,2,3,4,5,6,7] 8 (by kernel_rfl) (by kernel_rfl) (by intro c a w d v h; cases d <;> exact h) ?_
   simp only [wpPhZ,pickL,nthO]
   repeat (go_big_quiet_step (fail))
   refine wpQuiet_nil ?_
   go_wp2_with fail
   go_ret
   exact Ret.bool rfl X4
  ·have hzb:=cons_bd HV.out
   have HN:=hide (cons_one HV.out)
   have e1:IntKind.i64.wrap (z+1)=z+1:=IntWalk.i64_in _ (by omega)
   have hO4:=hset (z+1)
   simp only [Nat.add_zero,List.set_cons_zero] at hO4
   have hB4:=(hB.ext hx13).far (p:=⟨b,off,none⟩) hne.symm (.int .i64 (z+1))
   have X4:=(X3.setCell (p:=⟨b,off,none⟩) hlo (.int .i64 (z+1))).drew
   have hO5:=hO4.more (Ext.refl _).drew
   obtain ⟨w4,HW4⟩:∃w4,Hid ((w3.setCell ⟨b,off,none⟩ (.int .i64 (z+1))).drew=w4):=⟨_,hide rfl⟩
   have hB5:Row w4 w1.heap.size 28 [.slice A0 n0 c0,.slice A1 n1 c1,.slice (some ⟨b,off,none⟩) n2 c2,.slice A3 n3 c3,.slice A4 n4 c4]:=by rw [←HW4.out]; exact hB4.drew
   rw [HW4.out] at hO5 X4
   clear hset hz hO3 hO2 hO1 hx13 hx2 hx3 hO4 hB4
   go_wp2_with fail
   clear hb0
   refine wp_region_phZ [(w1.heap.size,2),(b,off)] [] [0,1,2,3,4,5,6,7] 8 (by kernel_rfl) (by kernel_rfl) (by intro c a w d v h; cases d <;> exact h) ?_
   simp only [wpPhZ,pickL,nthO]
   repeat (go_big_quiet_step (fail))
   refine wpQuiet_nil ?_
   have hne':=hne.symm
   go_wp2_with fail
   rw [HW4.out]
   refine (c_IsConserved A0 A1 (some ⟨b,off,none⟩) A3 A4 n0 c0 n1 c1 n2 c2 n3 c3 n4 c4 ((z+1)::g') ch ps _ hO5.s2 hO5.s3 hO5.s4 (by omega) (by omega)).mono ?_
   rw [HN.out]
   rintro e w5 ⟨rfl,hx5⟩
   go_wp2_with fail
   go_ret
   exact Ret.bool rfl (X4.trans hx5)
set_option maxRecDepth 100000 in
theorem lifted_Conserved (os:Os) (started:os.Started) (H:Type) (enc:TypeId×Value→H):
  ReturnsInHanded {} Tryz.checked os 3 .any (Rows.fnConservedSpec.pre6 enc Tryz.prog Tryz.f3 Rows.fnConservedRow.domain false) (Rows.fnConservedSpec.post enc Tryz.prog Tryz.f3 false true false false):=by
 refine returnsInHanded_of_change (C:=Tryz.checked) own started (by kernel_rfl) Tryz.func3
  (ChangeSpec.witness6 (enc:=enc) (C:=Tryz.checked) false ⟨#[],#[.slice none 0 0],[]⟩ 8 (by kernel_rfl) (by kernel_rfl) (by kernel_rfl) (by kernel_rfl)) ?_
 intro W base args ds gs before hval0 hW _ _
 have hval:∀(j:Nat) t v,Tryz.f3.params[j]? =some t→args[j]? =some v→Value.okWide Tryz.prog W .any base t v:=hval0
 have hW':=hW
 obtain ⟨p,q,hA0,hV,rfl,hfz,hnd⟩:=hW
 have hA:DataW.TrodAll enc Tryz.prog W 0 (fun _=>true) true Tryz.f3.params.toList args.toList ds p:=hA0
 rw [Tryz.params3] at hA hval
 obtain ⟨v0,vs0,d0,ds0,p0,q0,hargs,rfl,rfl,h0,r0⟩:=trodAll_cons hA
 obtain ⟨rfl,rfl,rfl⟩:=trodAll_nil r0
 obtain rfl:args= #[v0]:=by cases args; simp_all
 obtain ⟨rfl,rfl⟩:=trodVars_none hV
 have k0:=h0
 have lt0:∀x∈p0,x.block<W.heap.size:=by obtain ⟨m,hm⟩:=k0; exact DataW.trod_lt m _ _ _ hm
 obtain ⟨A,n,c,bs,e0,hs,hbd⟩:=open_bytes (hval 0 22 v0 rfl rfl) h0
 rw [e0]
 clear hA0 hval0
 refine (law_Conserved A n c bs W hs hbd).mono fun e W' ⟨he,bel⟩=> ?_
 subst he
 rw [e0] at hW'
 exact ⟨_,rfl,_,_,_,[],_,[],hW',trodAll_mk1 (shut_bool Tryz.underlying4 _),(trodAll_cons_mk (Below.trod laidOut (by kernel_rfl) (of_decide_eq_true (by kernel_rfl)) (e0 ▸ k0) bel lt0) trodAll_mk0),rfl,bel.frame _,fun h=>by cases h⟩
theorem cf_Conserved:Tryz.pinned.checked.prog.funcNamed Rows.fnConservedRow.func=some 3:=by kernel_rfl
theorem cA_Conserved:jA Tryz.pinned.checked.prog Tryz.f3 Rows.fnConservedSpec Rows.fnConservedRow=true:=by kernel_rfl
theorem cB_Conserved:jB Tryz.pinned.checked.prog 3 Rows.fnConservedRow=true:=by kernel_rfl
theorem cC_Conserved:jC Tryz.pinned.checked.prog 3 Rows.fnConservedRow=true:=by kernel_rfl
theorem cD_Conserved:jD Tryz.pinned.checked.prog Tryz.f3 Rows.fnConservedSpec Rows.fnConservedRow=true:=by kernel_rfl
theorem cE_Conserved:jE Tryz.pinned.checked.prog Rows.fnConservedRow=true:=by kernel_rfl
theorem cF_Conserved:jF Tryz.pinned.checked.prog Tryz.f3 Rows.fnConservedSpec Rows.fnConservedRow=true:=by kernel_rfl
theorem cI_Conserved:decide (Tryz.f3.isInstance Tryz.pinned.checked.prog Rows.fnConservedRow.origin Rows.fnConservedRow.targs)=true:=by kernel_rfl
theorem cW_Conserved:Tryz.f3.isWrapper Tryz.pinned.checked.prog Rows.fnConservedRow.wrapper Rows.fnConservedRow.mainSum:=by unfold Func.isWrapper; first | (rw [if_pos (by decide +kernel)]; kernel_rfl) | (rw [if_neg (by decide +kernel)]; exact ⟨rfl,rfl⟩)
theorem holds_Conserved:Rows.FnConservedSaid:=
 OpenClaim.holds_of_wide 3 Tryz.f3 rfl rfl rfl rfl rfl rfl rfl ⟨rfl,rfl,rfl,rfl,rfl⟩ rfl rfl rfl rfl rfl cf_Conserved Tryz.func3
  (joined_of cA_Conserved cB_Conserved cC_Conserved cD_Conserved cE_Conserved cF_Conserved) (of_decide_eq_true cI_Conserved) cW_Conserved
  (fun os started H enc _=>lifted_Conserved os started H enc)
#print axioms holds_Conserved
end Go.Proofs.YtfkpghdmljjegaaGreat
