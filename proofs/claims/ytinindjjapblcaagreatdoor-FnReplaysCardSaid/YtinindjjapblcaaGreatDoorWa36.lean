/-
  Reading a number, of the reference.
-/
import Derived.Test.YtinindjjapblcaaGreatDoorWa35
import Derived.Test.YtinindjjapblcaaGreatDoorWa01
namespace Go.Proofs.YtinindjjapblcaaGreatDoor
open Go.RowKit
open Go.Lib hiding intOf
def digVal (l:List UInt8):Nat:=l.foldl (fun n b=>10*n+(b.toNat-48)) 0
theorem digVal_snoc (l:List UInt8) (b:UInt8):digVal (l++[b])=10*digVal l+(b.toNat-48):=by simp [digVal]
theorem digVal_dec:∀(k m:Nat),m<k→digVal (decDigits m)=m:=by
 intro k
 induction k with
 | zero=>intro m h; omega
 | succ k ih=>
  intro m hm
  rw [decDigits]
  split
  ·rename_i h
   simp only [digVal,List.foldl_cons,List.foldl_nil,digit_toNat h]
   omega
  ·rename_i h
   rw [digVal_snoc,ih (m/10) (by omega),digit_toNat (Nat.mod_lt m (by omega))]
   omega
def ValPost (l:List UInt8) (w:World) (e:Ending) (w':World):Prop:=
 ∃(n:Int) (ok:Bool),e= .returned (.tuple #[.int .i64 n,.bool ok])∧(∀m:Nat,m≤30000→l=decDigits m→ok=true∧n=m)∧(0≤n∧n≤1000000000000000000)∧Ext w w'
theorem ten18 (k:Nat) (h:k≤18):(10:Nat) ^ k≤1000000000000000000:=by
 have:=Nat.pow_le_pow_right (show 0<10 by omega) h
 have e:(10:Nat) ^ 18=1000000000000000000:=by decide
 omega
set_option maxHeartbeats 2000000 in
set_option maxRecDepth 8000 in
theorem c_l01Value (l:List UInt8) (hl:l.length≤1048576) (w:World):
  Calls Tryz.prog 163 #[.string (mkB l)] w (ValPost l w):=by
 have hsz:(mkB l).size=l.length:=rfl
 by_cases h0:l.length<1
 ·have HN:=hide (show ∀m,m≤30000→l≠decDigits m from fun m _ he=>by
   have:l=[]:=List.length_eq_zero_iff.1 (by omega)
   exact decDigits_ne m (by rw [←he]; exact this))
  go_enter Tryz.func163,Tryz.ntmps163
  go_wp2_with fail
  exact bodyPost_ret (v:= .tuple #[.int .i64 0,.bool false]) (by simp [results,Tryz.results163,go_sem]) rfl ⟨0,false,rfl,fun m hm he=>absurd he (HN.out m hm),by omega,Ext.refl _⟩
 by_cases h18:18<l.length
 ·have HN:=hide (show ∀m,m≤30000→l≠decDigits m from fun m hm he=>by
   have:=decDigits_small 5 m (by omega) (by omega)
   rw [←he] at this
   omega)
  go_enter Tryz.func163,Tryz.ntmps163
  go_wp2_with fail
  exact bodyPost_ret (v:= .tuple #[.int .i64 0,.bool false]) (by simp [results,Tryz.results163,go_sem]) rfl ⟨0,false,rfl,fun m hm he=>absurd he (HN.out m hm),by omega,Ext.refl _⟩
 go_enter Tryz.func163,Tryz.ntmps163
 go_wp2_with fail
 go_loop [4,5] (fun v i=>∃(k z:Nat),k≤l.length∧i= .int .i64 k∧v= .int .i64 z∧z<10 ^ k∧Hid (z=digVal (l.take k))) (fun _ i=>l.length-(intOf i).toNat)
 case atStart=>exact ⟨0,0,Nat.zero_le _,rfl,rfl,by decide,hide rfl⟩
 case round=>
  obtain ⟨k,z,hk,rfl,rfl,hz,HZ⟩:=hrel
  have hp:=ten18 k (by omega)
  have hz1:z<1000000000000000000:=by omega
  have HZK:=hide hz
  clear hz hp
  by_cases hlt:k<l.length
  ·have hk17:=ten18 k (by omega)
   have hz2:z<100000000000000000:=by
    have h1:=HZK.out
    have h2:(10:Nat) ^ k≤10 ^ 17:=Nat.pow_le_pow_right (by omega) (by omega)
    have e:(10:Nat) ^ 17=100000000000000000:=by decide
    omega
   clear hk17
   obtain ⟨b,hb⟩:∃b,l[k]? =some b:=⟨_,List.getElem?_eq_getElem hlt⟩
   have hat:=str_at l k b hb w
   have HB:=hide hb
   clear hb
   have hbb:=b.toNat_lt
   by_cases hd:48≤b.toNat∧b.toNat≤57
   ·have HT:=hide (show l.take (k+1)=l.take k++[b] by rw [List.take_add_one,HB.out]; rfl)
    have hw:IntKind.u8.wrap ((b.toNat:Int)-48)=(b.toNat:Int)-48:=by simp [IntKind.wrap,IntKind.signed,IntKind.bits]; omega
    obtain ⟨bn,hbn⟩:∃bn:Nat,b.toNat=bn:=⟨_,rfl⟩
    rw [hbn] at hat hd hbb hw
    have HBN:=hide hbn
    clear hbn
    go_wp2_with fail
    go_round
    case rel=>exact ⟨k+1,10*z+(bn-48),by omega,by go_num,by go_num,by rw [Nat.pow_succ]; have:=HZK.out; omega,hide (by rw [HT.out,digVal_snoc, ←HZ.out,HBN.out])⟩
    case measure=>simp [intOf]; omega
   ·have HN:=hide (show ∀m,m≤30000→l≠decDigits m from fun m _ he=>by
     have:=decDigits_digit (m+1) m (Nat.lt_succ_self _) b (by rw [←he]; exact List.mem_of_getElem? HB.out)
     omega)
    obtain ⟨bn,hbn⟩:∃bn:Nat,b.toNat=bn:=⟨_,rfl⟩
    rw [hbn] at hat hd hbb
    clear hbn
    by_cases h48:bn<48
    ·go_wp2_with fail
     exact bodyPost_ret (v:= .tuple #[.int .i64 0,.bool false]) (by simp [results,Tryz.results163,go_sem]) rfl ⟨0,false,rfl,fun m hm he=>absurd he (HN.out m hm),by omega,Ext.refl _⟩
    ·have h57:57<bn:=by omega
     go_wp2_with fail
     exact bodyPost_ret (v:= .tuple #[.int .i64 0,.bool false]) (by simp [results,Tryz.results163,go_sem]) rfl ⟨0,false,rfl,fun m hm he=>absurd he (HN.out m hm),by omega,Ext.refl _⟩
  ·have hkn:k=l.length:=by omega
   have HZ2:=hide (show z=digVal l by rw [HZ.out,hkn,List.take_length])
   clear HZ HZK hkn
   go_wp2_with fail
   refine (c_l01Dec z (by omega) _).mono ?_
   rintro e w1 ⟨rfl,hx⟩
   go_wp2_with fail
   refine bodyPost_ret (v:= .tuple #[.int .i64 z,.bool ((mkB (decDigits z)).toList==(mkB l).toList)]) (by simp [results,Tryz.results163,go_sem]) rfl ⟨z,_,rfl,fun m hm he=> ?_,by omega,hx⟩
   have hzm:z=m:=by rw [HZ2.out,he,digVal_dec (m+1) m (Nat.lt_succ_self _)]
   exact ⟨by rw [mkB_toList,mkB_toList,hzm, ←he]; simp,by rw [hzm]⟩
end Go.Proofs.YtinindjjapblcaaGreatDoor
namespace Go.Proofs.YtinindjjapblcaaGreatDoor
open Go.RowKit
open Go.Lib hiding intOf
theorem mapM_none {α β:Type} {f:α→Option β}:∀ {ws:List α} {k:Nat} {x:α},ws[k]? =some x→f x=none→ws.mapM f=none
 | [],k,x,h,_=>by simp at h
 | w::ws,0,x,h,hf=>by
  simp only [List.getElem?_cons_zero,Option.some.injEq] at h
  subst h
  simp [List.mapM_cons,hf]
 | w::ws,k+1,x,h,hf=>by
  have ih:=mapM_none (ws:=ws) (k:=k) (by simpa using h) hf
  simp only [List.mapM_cons,ih]
  cases f w <;> rfl
theorem mapM_some {α β:Type} {f:α→Option β}:∀ {ws:List α} {L:List β},L.length=ws.length→(∀j,j<ws.length→∃x y,ws[j]? =some x∧f x=some y∧L[j]? =some y)→ws.mapM f=some L
 | [],L,h,_=>by
  obtain rfl:=List.length_eq_zero_iff.1 h
  rfl
 | w::ws,[],h,_=>by simp at h
 | w::ws,y::L,h,hj=>by
  obtain ⟨x0,y0,h0,h1,h2⟩:=hj 0 (by simp)
  simp only [List.getElem?_cons_zero,Option.some.injEq] at h0 h2
  subst h0 h2
  have ih:=mapM_some (ws:=ws) (L:=L) (by simpa using h) (fun j hjl=>by
   obtain ⟨x,y',a,b,c⟩:=hj (j+1) (by simp; omega)
   exact ⟨x,y',by simpa using a,b,by simpa using c⟩)
  simp only [List.mapM_cons,h1,ih]
  rfl
theorem SliceOf.getStr {w:World} {A:Option Addr} {n c:Nat} {xs:List (List UInt8)} (h:SliceOf w 1 strC A n c xs) {k:Nat} (hk:k<n):
  ∃b off x,A=some ⟨b,off,none⟩∧b<w.heap.size∧xs[k]? =some x∧w.cell? ⟨b,off+k,none⟩=some (.string (mkB x)):=by
 obtain ⟨b,off,x,hA,hb,hx,hc⟩:=h.get hk
 exact ⟨b,off,x,hA,hb,hx,by simpa using hc 0 _ rfl⟩
def NumsPost (ws:List (List UInt8)) (w:World) (e:Ending) (w':World):Prop:=
 (∃A n c xs,e= .returned (.tuple #[.slice A n c,.bool true])∧ws.mapM numP=some xs∧SliceOf w' 1 intC A n c xs∧Ext w w')∨
 (e= .returned (.tuple #[.slice none 0 0,.bool false])∧ws.mapM numP=none∧Ext w w')
set_option maxHeartbeats 2000000 in
theorem c_readNumbers (A:Option Addr) (n c:Nat) (ws:List (List UInt8)) (w:World) (hs:SliceOf w 1 strC A n c ws) (hn:n≤1048577) (hl:∀x∈ws,x.length≤1048576) (hg:Glob w):
  Calls Tryz.prog 187 #[.slice A n c] w (NumsPost ws w):=by
 have hmk:=fun W=>run_make_flat (P:=Tryz.prog) 137 2 _ _ 1 8 Tryz.underlying137 int_info (f:=intC) 0 rfl rfl rfl (by omega) n (by omega) (by omega) W
 have hR0:=Row.new w 2 ((List.replicate n (0:Int)).flatMap intC)
 have HLn:=hide hl
 clear hl
 go_enter Tryz.func187,Tryz.ntmps187
 go_wp2_with fail
 go_loopw [5,6,7,8,14] (fun _ _ _ _ i wr=>∃(k:Nat) (L:List Int),k≤n∧i= .int .i64 k∧L.length=n∧RowOf wr w.heap.size 2 intC L∧Hid (∀j,j<k→∃x y,ws[j]? =some x∧numP x=some y∧L[j]? =some y)∧Ext w wr) (fun _ _ _ _ i _=>n-(intOf i).toNat)
 case atStart=>exact ⟨0,_,Nat.zero_le _,rfl,List.length_replicate,hR0,hide (fun j hj=>absurd hj (by omega)),Ext.alloc _ _⟩
 case round=>
  obtain ⟨k,L,hk,rfl,hL,hrow,HK,hx⟩:=hrel
  clear hR0 hmk
  have hgs:=hrow.lt
  by_cases hlt:k<n
  ·obtain ⟨b,off,x,rfl,hb,hxk,hc0⟩:=(hs.ext hx).getStr hlt
   have Hx:=hide hxk
   have HL:=hide hL
   have hlx:=HLn.out x (List.mem_of_getElem? hxk)
   clear hxk hL
   go_wp2_with fail
   refine (c_readNumber x hlx _ (hg.ext hx)).mono ?_
   rintro e w1 ⟨z,ok,rfl,hnum,hx1⟩
   have HN:=hide hnum
   clear hnum
   cases ok with
   | false=>
    go_wp2_with fail
    exact bodyPost_ret (v:= .tuple #[.slice none 0 0,.bool false]) (by simp [results,Tryz.results187,go_sem]) rfl (.inr ⟨rfl,mapM_none Hx.out HN.out,hx.trans hx1⟩)
   | true=>
    have hrow1:=hrow.ext hx1
    have hgs1:=hrow1.lt
    obtain ⟨v0,hv0⟩:=hrow1.there intC_len (i:=k) (by rw [HL.out]; exact hlt) (j:=0) (by omega)
    have hf0:=hrow1.frozen k
    simp only [Nat.mul_one,Nat.add_zero] at hv0
    go_wp2_with fail
    go_roundw
    case rel=>
     have hput:=hrow1.put intC_len (i:=k) (by rw [HL.out]; exact hlt) z
     rw [Nat.mul_one] at hput
     refine ⟨k+1,L.set k z,by omega,by go_num,by simpa using HL.out,hput,hide ?_,(hx.trans hx1).put (Nat.le_refl _) k (intC z)⟩
     intro j hj
     by_cases e:j=k
     ·subst e
      exact ⟨x,z,Hx.out,HN.out,by rw [List.getElem?_set,if_pos rfl,if_pos (by rw [HL.out]; exact hlt)]⟩
     ·obtain ⟨x',y',a,b',c'⟩:=HK.out j (by omega)
      exact ⟨x',y',a,b',by rw [List.getElem?_set,if_neg (fun h=>e h.symm)]; exact c'⟩
    case measure=>simp [intOf]; omega
  ·obtain rfl:n=k:=by omega
   have hM:=mapM_some (f:=numP) (ws:=ws) (L:=L) (by rw [hL,hs.len]) (fun j hj=>HK.out j (by rw [hs.len]; exact hj))
   have HM:=hide hM
   clear hM
   go_wp2_with fail
   exact bodyPost_ret (v:= .tuple #[.slice (some ⟨w.heap.size,0,none⟩) n n,.bool true]) (by simp [results,Tryz.results187,go_sem]) rfl (.inl ⟨_,_,_,L,rfl,HM.out,hrow.slice intC_len hL.symm (by omega),hx⟩)
theorem split_row (c:UInt8) (l:List UInt8) (w:World):RowOf (w.alloc (.cells ((splitB (mkB [c]) 0 (countB (mkB l) (mkB [c])) (mkB l)).map Value.string).toArray 9)) w.heap.size 9 strC (splitL c l):=by
 rw [splitB_mkB]
 have h:=Row.new w 9 ((splitL c l).flatMap strC)
 have e:((splitL c l).map mkB).map Value.string=(splitL c l).flatMap strC:=by
  induction splitL c l with
  | nil=>rfl
  | cons x xs ih=>rw [List.map_cons,List.map_cons,ih,List.flatMap_cons]; rfl
 rw [e]
 exact h
theorem c_split (l:List UInt8) (c:UInt8) (hl:l.length≤1048576) (w:World) (hg:Glob w):
  Calls Tryz.prog 186 #[.string (mkB l),.string (mkB [c])] w (fun e w'=>e= .returned (.slice (some ⟨w.heap.size,0,none⟩) (splitL c l).length (splitL c l).length)∧RowOf w' w.heap.size 9 strC (splitL c l)∧Ext w w'):=by
 obtain ⟨m,hm⟩:=hg.maxLen
 refine (Tryz.strings_Split (mkB l) (mkB [c]) m w (by rw [mkB_size]; omega) hm (Nat.le_refl _)).mono ?_
 rintro e w1 ⟨rfl,rfl⟩
 exact ⟨by rw [countB_mkB],split_row c l w,Ext.alloc _ _⟩
theorem splitL_len (c:UInt8):∀l:List UInt8,(splitL c l).length≤l.length+1
 | []=>by simp [splitL]
 | b::l=>by
  have ih:=splitL_len c l
  rw [splitL]
  split
  ·simp; omega
  ·split
   ·rename_i x xs h; rw [h] at ih; simp at ih ⊢; omega
   ·simp
theorem splitL_piece (c:UInt8):∀(l:List UInt8),∀x∈splitL c l,x.length≤l.length
 | [],x,hx=>by simp [splitL] at hx; subst hx; simp
 | b::l,x,hx=>by
  have ih:=splitL_piece c l
  rw [splitL] at hx
  split at hx
  ·rcases List.mem_cons.1 hx with rfl | hx
   ·simp
   ·have:=ih x hx; simp; omega
  ·split at hx
   ·rename_i y ys h
    rw [h] at ih
    rcases List.mem_cons.1 hx with rfl | hx
    ·have:=ih y (by simp); simp; omega
    ·have:=ih x (by simp [hx]); simp; omega
   ·cases hx
def LinesPost (l:List UInt8) (w:World) (e:Ending) (w':World):Prop:=
 ∃n c last,e= .returned (.tuple #[.slice (some ⟨w.heap.size,0,none⟩) n c,.string last])∧SliceOf w' 1 strC (some ⟨w.heap.size,0,none⟩) n c (splitL 10 l).dropLast∧Ext w w'∧w.heap.size<w'.heap.size
set_option maxHeartbeats 1000000 in
theorem c_linesOf (l:List UInt8) (hl:l.length≤1048576) (w:World) (hg:Glob w):
  Calls Tryz.prog 154 #[.string (mkB l)] w (LinesPost l w):=by
 have hn:=splitL_len 10 l
 have hne:=splitL_ne 10 l
 go_enter Tryz.func154,Tryz.ntmps154
 go_wp2_with fail
 refine (c_split l 10 hl _ hg).mono ?_
 rintro e w1 ⟨rfl,hrow,hx1⟩
 generalize hS:splitL 10 l=S at *
 obtain ⟨m,hm⟩:∃m,S.length=m+1:=by
  cases S with
  | nil=>exact absurd rfl hne
  | cons x xs=>exact ⟨xs.length,rfl⟩
 have hlast:S[m]? =some (S[m]'(by omega)):=List.getElem?_eq_getElem (by omega)
 generalize S[m]'(by omega)=last at hlast
 have hcl:=hrow.get strC_len hlast (j:=0) (u:= .string (mkB last)) rfl
 simp only [Nat.mul_one,Nat.add_zero] at hcl
 have hlt:=hrow.lt
 have HROW:=hide hrow
 have HS:=hide hS
 have HM:=hide hm
 rw [hm]
 clear hrow hS hne hlast
 rw [hm] at hn
 clear hm
 go_wp2_with fail
 refine wp_region_ph [] [0,1,2,3,4,5,6,7,8] (by kernel_rfl) (by kernel_rfl) (by intro c a w d v h; cases d <;> exact h) ?_
 simp only [wpPh,pickL,nthO]
 repeat (go_big_quiet_step (fail))
 refine wpQuiet_nil ?_
 go_wp2_with fail
 refine bodyPost_ret (v:= .tuple #[.slice (some ⟨w.heap.size,0,none⟩) m (m+1),.string (mkB last)]) (by simp [results,Tryz.results154,go_sem]) rfl ⟨m,m+1,mkB last,rfl,?_,hx1.drew,hlt⟩
 have hsl:SliceOf w1 1 strC (some ⟨w.heap.size,0,none⟩) (m+1) (m+1) S:=HROW.out.slice strC_len HM.out.symm (by omega)
 have hl2:=HM.out
 rw [HS.out]
 refine ⟨by rw [List.length_dropLast]; omega,by omega,by show m+1≤9223372036854775807; omega,fun hm0=> ?_⟩
 obtain ⟨h1,h2,h3,h4⟩:=hsl
 obtain ⟨b,off,hA,hb,hc⟩:=h4 (by omega)
 refine ⟨b,off,hA,hb,fun i x hx j u hu=>hc i x ?_ j u hu⟩
 rw [List.getElem?_dropLast] at hx
 split at hx
 ·exact hx
 ·cases hx
end Go.Proofs.YtinindjjapblcaaGreatDoor
namespace Go.Proofs.YtinindjjapblcaaGreatDoor
open Go.RowKit
open Go.Lib hiding intOf
def EvPost (p:Event) (w:World) (e:Ending) (w':World):Prop:=e= .returned (.tuple #[.agg #[.int .i64 p.kind,.int .i64 p.a,.int .i64 p.b,.int .i64 p.c,.int .i64 p.d],.bool (evB p)])∧Ext w w'
theorem words_zs {w:World} (hg:GlobJ w) (j:Nat) (hj:j<([mkB [],mkB wNom,mkB wRead,mkB wClose]:List ByteArray).length):w.cell? ⟨0,0+j,none⟩=some (.string (([mkB [],mkB wNom,mkB wRead,mkB wClose]:List ByteArray).getD j ByteArray.empty)):=by
 rw [Nat.zero_add,hg.words j hj]
 have:j=0∨j=1∨j=2∨j=3:=by simp at hj; omega
 rcases this with rfl | rfl | rfl | rfl <;> rfl
theorem five_set {w:World} {g:Nat} {t:TypeId} {v0 v1 v2 v3 v4:Value} (h:Row w g t [v0,v1,v2,v3,v4]) (u0 u1 u2 u3 u4:Value):Row (((((w.setCell ⟨g,0,none⟩ u0).setCell ⟨g,1,none⟩ u1).setCell ⟨g,2,none⟩ u2).setCell ⟨g,3,none⟩ u3).setCell ⟨g,4,none⟩ u4) g t [u0,u1,u2,u3,u4]:=
 ((((h.set_ 0 u0).set_ 1 u1).set_ 2 u2).set_ 3 u3).set_ 4 u4
theorem five_ext {w w2:World} {g:Nat} (h:Ext w w2) (hg:w.heap.size≤g) (u0 u1 u2 u3 u4:Value):Ext w (((((w2.setCell ⟨g,0,none⟩ u0).setCell ⟨g,1,none⟩ u1).setCell ⟨g,2,none⟩ u2).setCell ⟨g,3,none⟩ u3).setCell ⟨g,4,none⟩ u4):=
 ((((h.setCell (p:=⟨g,0,none⟩) hg u0).setCell (p:=⟨g,1,none⟩) hg u1).setCell (p:=⟨g,2,none⟩) hg u2).setCell (p:=⟨g,3,none⟩) hg u3).setCell (p:=⟨g,4,none⟩) hg u4
theorem samec_five {cs:List (Nat×Nat)} {a b:World} {g:Nat} (h:SameC cs a b) (hg:∀q∈cs,q.1≠g) (u0 u1 u2 u3 u4:Value):SameC cs a (((((b.setCell ⟨g,0,none⟩ u0).setCell ⟨g,1,none⟩ u1).setCell ⟨g,2,none⟩ u2).setCell ⟨g,3,none⟩ u3).setCell ⟨g,4,none⟩ u4):=
 ((((h.setCell (p:=⟨g,0,none⟩) (fun q hq=> .inl (hg q hq)) u0).setCell (p:=⟨g,1,none⟩) (fun q hq=> .inl (hg q hq)) u1).setCell (p:=⟨g,2,none⟩) (fun q hq=> .inl (hg q hq)) u2).setCell (p:=⟨g,3,none⟩) (fun q hq=> .inl (hg q hq)) u3).setCell (p:=⟨g,4,none⟩) (fun q hq=> .inl (hg q hq)) u4
theorem evOf_five {w:List UInt8} {a b c d e:Int}:evOf w (some [a,b,c,d,e])=⟨kindP w,a,b,c,d⟩:=rfl
theorem evOf_other {w:List UInt8} {xs:List Int} (h:xs.length≠5):evOf w (some xs)=noEv:=by
 match xs,h with
 | [],_=>rfl
 | [_],_=>rfl
 | [_,_],_=>rfl
 | [_,_,_],_=>rfl
 | [_,_,_,_],_=>rfl
 | [_,_,_,_,_],h=>exact absurd rfl h
 | _::_::_::_::_::_::_,_=>rfl
set_option maxHeartbeats 1000000 in
set_option maxRecDepth 8000 in
theorem c_readEvent (l:List UInt8) (hl:l.length≤1048576) (w:World) (hg:Glob w):
  Calls Tryz.prog 155 #[.string (mkB l)] w (EvPost (readP l) w):=by
 have hn:=splitL_len 32 l
 have hne:=splitL_ne 32 l
 have hpc:=hide (splitL_piece 32 l)
 obtain ⟨W0,HW⟩:∃W0,Hid (w.alloc (.cells #[.int .i64 0,.int .i64 0,.int .i64 0,.int .i64 0,.int .i64 0] 54)=W0):=⟨_,hide rfl⟩
 have hx0:Ext w W0:=by rw [←HW.out]; exact Ext.alloc _ _
 have hR:Row W0 w.heap.size 54 [.int .i64 0,.int .i64 0,.int .i64 0,.int .i64 0,.int .i64 0]:=by rw [←HW.out]; exact Row.new _ _ _
 have hg0:=hg.ext hx0
 have HRP:=hide (show readP l=match splitL 32 l with | w::ws=>evOf w (ws.mapM numP) | []=>noEv from rfl)
 generalize readP l=rp at *
 go_enter Tryz.func155,Tryz.ntmps155
 go_wp2_with fail
 rw [HW.out]
 refine (c_split l 32 hl _ hg0).mono ?_
 rintro e w1 ⟨rfl,hrow,hx1⟩
 cases hS:splitL 32 l with
 | nil=>exact absurd hS hne
 | cons x xs=>
  rw [hS] at hrow hn
  have HRP2:=hide (show rp=evOf x (xs.mapM numP) by rw [HRP.out,hS])
  have hsl:SliceOf w1 1 strC (some ⟨W0.heap.size,1,none⟩) xs.length xs.length xs:=by
   refine ⟨rfl,Nat.le_refl _,by simp at hn; show xs.length≤9223372036854775807; omega,fun _=>⟨W0.heap.size,1,rfl,hrow.lt,fun i y hy j u hu=> ?_⟩⟩
   have:=hrow.get strC_len (i:=i+1) (x:=y) (by simpa using hy) (j:=j) (u:=u) hu
   rw [show (i+1)*1+j=1+i*1+j by omega] at this
   exact this
  have hpx:∀y∈xs,y.length≤1048576:=fun y hy=>by have:=hpc.out y (by rw [hS]; simp [hy]); omega
  have hx0w:x.length≤1048576:=by have:=hpc.out x (by rw [hS]; simp); omega
  have hcx:=hrow.get strC_len (i:=0) (x:=x) rfl (j:=0) (u:= .string (mkB x)) rfl
  simp only [Nat.zero_mul,Nat.add_zero] at hcx
  have hxl:xs.length≤1048576:=by simp at hn; omega
  rw [List.length_cons]
  have hlt1:=hrow.lt
  have hg1:=hg0.ext hx1
  have hR1:=hR.ext hx1
  have hX1:=hx0.trans hx1
  have hz01:=hx0.size
  have hlt0:=hR.lt
  clear hrow hS HRP hpc hn hne hR hg0
  by_cases hxs:xs=[]
  ·subst hxs
   go_wp2_with fail
   refine (c_readNumbers (some ⟨W0.heap.size,0,none⟩) 0 0 [] _ (SliceOf.nil.2 (Nat.zero_le _)) (by omega) hpx hg1).mono ?_
   rintro e w2 hr
   rcases hr with ⟨A,m,c,ys,rfl,hM,hsy,hx2⟩ | ⟨rfl,hM,hx2⟩
   ·obtain rfl:ys=[]:=by cases hM; rfl
    have hr2:=hR1.ext hx2
    obtain rfl:m=0:=hsy.len
    have HE:=hide (show rp=noEv by rw [HRP2.out]; rfl)
    have hlt2:=hr2.lt
    have x0:=hr2.cell 0
    have x1:=hr2.cell 1
    have x2:=hr2.cell 2
    have x3:=hr2.cell 3
    have x4:=hr2.cell 4
    have hf:=hr2.frozen
    simp only [List.getElem?_cons_zero,List.getElem?_cons_succ] at x0 x1 x2 x3 x4
    go_wp2_with fail
    have rS:=five_set hr2 (.int .i64 0) (.int .i64 0) (.int .i64 0) (.int .i64 0) (.int .i64 0)
    have hXS:=five_ext (hX1.trans hx2) (g:=w.heap.size) (Nat.le_refl _) (.int .i64 0) (.int .i64 0) (.int .i64 0) (.int .i64 0) (.int .i64 0)
    generalize (((((w2.setCell ⟨w.heap.size,0,none⟩ (.int .i64 0)).setCell ⟨w.heap.size,1,none⟩ (.int .i64 0)).setCell ⟨w.heap.size,2,none⟩ (.int .i64 0)).setCell ⟨w.heap.size,3,none⟩ (.int .i64 0)).setCell ⟨w.heap.size,4,none⟩ (.int .i64 0))=W5 at *
    have y0:=rS.cell 0
    have y1:=rS.cell 1
    have y2:=rS.cell 2
    have y3:=rS.cell 3
    have y4:=rS.cell 4
    simp only [List.getElem?_cons_zero,List.getElem?_cons_succ] at y0 y1 y2 y3 y4
    exact bodyPost_ret (v:= .tuple #[.agg #[.int .i64 0,.int .i64 0,.int .i64 0,.int .i64 0,.int .i64 0],.bool false]) (by simp [results,Tryz.results155,go_sem,y0,y1,y2,y3,y4]) rfl ⟨by rw [HE.out]; rfl,hXS⟩
   ·cases hM
  ·go_wp2_with fail
   refine (c_readNumbers (some ⟨W0.heap.size,1,none⟩) xs.length xs.length xs _ hsl (by omega) hpx hg1).mono ?_
   rintro e w2 hr
   rcases hr with ⟨A,m,c,ys,rfl,hM,hsy,hx2⟩ | ⟨rfl,hM,hx2⟩
   ·have hr2:=hR1.ext hx2
    have hlt2:=hr2.lt
    have x0:=hr2.cell 0
    have x1:=hr2.cell 1
    have x2:=hr2.cell 2
    have x3:=hr2.cell 3
    have x4:=hr2.cell 4
    have hf:=hr2.frozen
    simp only [List.getElem?_cons_zero,List.getElem?_cons_succ] at x0 x1 x2 x3 x4
    have hyl:=hsy.len
    by_cases h5:m=5
    ·subst h5
     obtain ⟨a,b,cc,d,s,rfl⟩:∃a b cc d s,ys=[a,b,cc,d,s]:=by
      match ys,hyl with
      | [a,b,cc,d,s],_=>exact ⟨a,b,cc,d,s,rfl⟩
     ·clear hyl
      obtain ⟨hA1,hA2,hA3,hA4⟩:=hsy
      obtain ⟨g,off,rfl,hgl,hc⟩:=hA4 (by omega)
      have c0:=hc 0 a rfl 0 _ rfl
      have c1:=hc 1 b rfl 0 _ rfl
      have c2:=hc 2 cc rfl 0 _ rfl
      have c3:=hc 3 d rfl 0 _ rfl
      simp only [Nat.add_zero,Nat.mul_one] at c0 c1 c2 c3
      clear hc
      have hcx2:=(hx2.cell _ 0 hlt1).trans hcx
      have hltx:W0.heap.size<w2.heap.size:=Nat.lt_of_lt_of_le hlt1 hx2.size
      have HE:=hide (show rp=⟨kindP x,a,b,cc,d⟩ by rw [HRP2.out,hM,evOf_five])
      have hg2:=hg1.ext hx2
      have HI:=hide (show ∀w',Ext w2 w'→Calls Tryz.prog 188 #[.slice (some ⟨0,0,none⟩) 4 4,.string (mkB x)] w' (fun e w''=>e= .returned (.int .i64 (kindP x))∧w''=w') from fun w' hw=>Tryz.slices_Index_string 0 0 4 4 [mkB [],mkB wNom,mkB wRead,mkB wClose] (mkB x) w' (Nat.le_refl _) (by omega) (words_zs (hg2.toJ.ext hw)))
      have hX2:=hX1.trans hx2
      clear hM hcx x0 x1 x2 x3 x4 hf hg1 hR1 hX1 hx0 hx1 hx2 hA1 hA4 hsl hpx
      go_wp2_with fail
      refine wp_region_phT [(W0.heap.size,0),(g,off),(g,off+1),(g,off+2),(g,off+3)] (.two [0,1,2,3,5,6,7,8,9,10,11,12,13,14,15,16] 4 (.one [17] 18 (.one [] 19 (.last []))) 18 (.one [] 4 (.one [17] 19 (.last [])))) (by kernel_rfl) (by kernel_rfl) (by intro c a w d v h; cases d <;> exact h) ?_
      simp only [wpPhT,pickL,nthO]
      repeat (go_big_quiet_step (fail))
      refine wpQuiet_nil ⟨?_,?_⟩
      ·go_wp2_with fail
       refine (HI.out w2.drew (Ext.refl _).drew).mono ?_
       rintro e w3 ⟨rfl,rfl⟩
       go_wp2_with fail
       refine ⟨SameC.of_ext (Ext.refl _).drew (by simp; omega),?_⟩
       repeat (go_big_quiet_step (fail))
       refine wpQuiet_nil ?_
       go_wp2_with fail
       refine ⟨SameC.of_ext ((Ext.refl _).drew.and_alloc _) (by simp; omega),wpQuiet_nil ?_⟩
       go_wp2_with fail
       refine ⟨SameC.of_ext ((Ext.alloc w2 _).drew) (by simp; omega),wpQuiet_nil ?_⟩
       have rB:Row (w2.alloc (.cells #[.int .i64 (kindP x),.int .i64 a,.int .i64 b,.int .i64 cc,.int .i64 d] 54)).drew w2.heap.size 54 [.int .i64 (kindP x),.int .i64 a,.int .i64 b,.int .i64 cc,.int .i64 d]:=(Row.new w2 _ _).drew
       have hX3:Ext w2 (w2.alloc (.cells #[.int .i64 (kindP x),.int .i64 a,.int .i64 b,.int .i64 cc,.int .i64 d] 54)).drew:=(Ext.alloc _ _).drew
       generalize (w2.alloc (.cells #[.int .i64 (kindP x),.int .i64 a,.int .i64 b,.int .i64 cc,.int .i64 d] 54)).drew=W3 at *
       clear c0 c1 c2 c3 hcx2 hg2
       have b0:=rB.cell 0
       have b1:=rB.cell 1
       have b2:=rB.cell 2
       have b3:=rB.cell 3
       have b4:=rB.cell 4
       have hlB:=rB.lt
       simp only [List.getElem?_cons_zero,List.getElem?_cons_succ] at b0 b1 b2 b3 b4
       go_wp2_with fail
       refine wp_region_phT [(w2.heap.size,0),(w2.heap.size,1),(w2.heap.size,2),(w2.heap.size,3),(w2.heap.size,4)] (.one [0,1] 2 (.one [] 3 (.last [4]))) (by kernel_rfl) (by kernel_rfl) (by intro c a w d v h; cases d <;> exact h) ?_
       simp only [wpPhT,pickL,nthO]
       repeat (go_big_quiet_step (fail))
       refine wpQuiet_nil ?_
       go_wp2_with fail
       refine (c_IsEvent ⟨kindP x,a,b,cc,d⟩ _).mono ?_
       rintro e w4 ⟨rfl,hx4⟩
       have hx34:Ext W3 w4:=(Ext.refl _).drew.trans hx4
       have r4:=(hr2.ext hX3).ext hx34
       have hf:=r4.frozen
       have hlt4:=r4.lt
       have x0:=r4.cell 0
       have x1:=r4.cell 1
       have x2:=r4.cell 2
       have x3:=r4.cell 3
       have x4:=r4.cell 4
       simp only [List.getElem?_cons_zero,List.getElem?_cons_succ] at x0 x1 x2 x3 x4
       go_wp2_with fail
       refine ⟨SameC.of_ext hx34 (by simp; omega),wpQuiet_nil ?_⟩
       go_wp2_with fail
       have rS:=five_set r4 (.int .i64 (kindP x)) (.int .i64 a) (.int .i64 b) (.int .i64 cc) (.int .i64 d)
       have hXS:=five_ext (hX2.trans (hX3.trans hx34)) (g:=w.heap.size) (Nat.le_refl _) (.int .i64 (kindP x)) (.int .i64 a) (.int .i64 b) (.int .i64 cc) (.int .i64 d)
       have hSS:=samec_five (SameC.of_ext (cs:=[(w2.heap.size,0),(w2.heap.size,1),(w2.heap.size,2),(w2.heap.size,3),(w2.heap.size,4)]) hx34 (by simp; omega)) (g:=w.heap.size) (by simp; omega) (.int .i64 (kindP x)) (.int .i64 a) (.int .i64 b) (.int .i64 cc) (.int .i64 d)
       generalize (((((w4.setCell ⟨w.heap.size,0,none⟩ (.int .i64 (kindP x))).setCell ⟨w.heap.size,1,none⟩ (.int .i64 a)).setCell ⟨w.heap.size,2,none⟩ (.int .i64 b)).setCell ⟨w.heap.size,3,none⟩ (.int .i64 cc)).setCell ⟨w.heap.size,4,none⟩ (.int .i64 d))=W5 at *
       refine ⟨hSS,?_⟩
       repeat (go_big_quiet_step (fail))
       refine wpQuiet_nil ?_
       have y0:=rS.cell 0
       have y1:=rS.cell 1
       have y2:=rS.cell 2
       have y3:=rS.cell 3
       have y4:=rS.cell 4
       simp only [List.getElem?_cons_zero,List.getElem?_cons_succ] at y0 y1 y2 y3 y4
       go_wp2_with fail
       exact bodyPost_ret (v:= .tuple #[.agg #[.int .i64 (kindP x),.int .i64 a,.int .i64 b,.int .i64 cc,.int .i64 d],.bool (evB ⟨kindP x,a,b,cc,d⟩)]) (by simp [results,Tryz.results155,go_sem,y0,y1,y2,y3,y4]) rfl ⟨by rw [HE.out],hXS⟩
      ·go_wp2_with fail
       refine ⟨SameC.of_ext ((Ext.refl _).drew.and_alloc _) (by simp; omega),wpQuiet_nil ?_⟩
       go_wp2_with fail
       refine (HI.out _ ((Ext.refl _).drew.and_alloc _)).mono ?_
       rintro e w3 ⟨rfl,rfl⟩
       go_wp2_with fail
       refine ⟨SameC.of_ext ((Ext.refl _).drew.and_alloc _) (by simp; omega),?_⟩
       repeat (go_big_quiet_step (fail))
       refine wpQuiet_nil ?_
       go_wp2_with fail
       refine ⟨SameC.of_ext ((Ext.alloc w2 _).drew) (by simp; omega),wpQuiet_nil ?_⟩
       have rB:Row (w2.alloc (.cells #[.int .i64 (kindP x),.int .i64 a,.int .i64 b,.int .i64 cc,.int .i64 d] 54)).drew w2.heap.size 54 [.int .i64 (kindP x),.int .i64 a,.int .i64 b,.int .i64 cc,.int .i64 d]:=(Row.new w2 _ _).drew
       have hX3:Ext w2 (w2.alloc (.cells #[.int .i64 (kindP x),.int .i64 a,.int .i64 b,.int .i64 cc,.int .i64 d] 54)).drew:=(Ext.alloc _ _).drew
       generalize (w2.alloc (.cells #[.int .i64 (kindP x),.int .i64 a,.int .i64 b,.int .i64 cc,.int .i64 d] 54)).drew=W3 at *
       clear c0 c1 c2 c3 hcx2 hg2
       have b0:=rB.cell 0
       have b1:=rB.cell 1
       have b2:=rB.cell 2
       have b3:=rB.cell 3
       have b4:=rB.cell 4
       have hlB:=rB.lt
       simp only [List.getElem?_cons_zero,List.getElem?_cons_succ] at b0 b1 b2 b3 b4
       go_wp2_with fail
       refine wp_region_phT [(w2.heap.size,0),(w2.heap.size,1),(w2.heap.size,2),(w2.heap.size,3),(w2.heap.size,4)] (.one [0,1] 2 (.one [] 3 (.last [4]))) (by kernel_rfl) (by kernel_rfl) (by intro c a w d v h; cases d <;> exact h) ?_
       simp only [wpPhT,pickL,nthO]
       repeat (go_big_quiet_step (fail))
       refine wpQuiet_nil ?_
       go_wp2_with fail
       refine (c_IsEvent ⟨kindP x,a,b,cc,d⟩ _).mono ?_
       rintro e w4 ⟨rfl,hx4⟩
       have hx34:Ext W3 w4:=(Ext.refl _).drew.trans hx4
       have r4:=(hr2.ext hX3).ext hx34
       have hf:=r4.frozen
       have hlt4:=r4.lt
       have x0:=r4.cell 0
       have x1:=r4.cell 1
       have x2:=r4.cell 2
       have x3:=r4.cell 3
       have x4:=r4.cell 4
       simp only [List.getElem?_cons_zero,List.getElem?_cons_succ] at x0 x1 x2 x3 x4
       go_wp2_with fail
       refine ⟨SameC.of_ext hx34 (by simp; omega),wpQuiet_nil ?_⟩
       go_wp2_with fail
       have rS:=five_set r4 (.int .i64 (kindP x)) (.int .i64 a) (.int .i64 b) (.int .i64 cc) (.int .i64 d)
       have hXS:=five_ext (hX2.trans (hX3.trans hx34)) (g:=w.heap.size) (Nat.le_refl _) (.int .i64 (kindP x)) (.int .i64 a) (.int .i64 b) (.int .i64 cc) (.int .i64 d)
       have hSS:=samec_five (SameC.of_ext (cs:=[(w2.heap.size,0),(w2.heap.size,1),(w2.heap.size,2),(w2.heap.size,3),(w2.heap.size,4)]) hx34 (by simp; omega)) (g:=w.heap.size) (by simp; omega) (.int .i64 (kindP x)) (.int .i64 a) (.int .i64 b) (.int .i64 cc) (.int .i64 d)
       generalize (((((w4.setCell ⟨w.heap.size,0,none⟩ (.int .i64 (kindP x))).setCell ⟨w.heap.size,1,none⟩ (.int .i64 a)).setCell ⟨w.heap.size,2,none⟩ (.int .i64 b)).setCell ⟨w.heap.size,3,none⟩ (.int .i64 cc)).setCell ⟨w.heap.size,4,none⟩ (.int .i64 d))=W5 at *
       refine ⟨hSS,?_⟩
       repeat (go_big_quiet_step (fail))
       refine wpQuiet_nil ?_
       have y0:=rS.cell 0
       have y1:=rS.cell 1
       have y2:=rS.cell 2
       have y3:=rS.cell 3
       have y4:=rS.cell 4
       simp only [List.getElem?_cons_zero,List.getElem?_cons_succ] at y0 y1 y2 y3 y4
       go_wp2_with fail
       exact bodyPost_ret (v:= .tuple #[.agg #[.int .i64 (kindP x),.int .i64 a,.int .i64 b,.int .i64 cc,.int .i64 d],.bool (evB ⟨kindP x,a,b,cc,d⟩)]) (by simp [results,Tryz.results155,go_sem,y0,y1,y2,y3,y4]) rfl ⟨by rw [HE.out],hXS⟩
    ·have HE:=hide (show rp=noEv by rw [HRP2.out,hM]; exact evOf_other (by omega))
     go_wp2_with fail
     have rS:=five_set hr2 (.int .i64 0) (.int .i64 0) (.int .i64 0) (.int .i64 0) (.int .i64 0)
     have hXS:=five_ext (hX1.trans hx2) (g:=w.heap.size) (Nat.le_refl _) (.int .i64 0) (.int .i64 0) (.int .i64 0) (.int .i64 0) (.int .i64 0)
     generalize (((((w2.setCell ⟨w.heap.size,0,none⟩ (.int .i64 0)).setCell ⟨w.heap.size,1,none⟩ (.int .i64 0)).setCell ⟨w.heap.size,2,none⟩ (.int .i64 0)).setCell ⟨w.heap.size,3,none⟩ (.int .i64 0)).setCell ⟨w.heap.size,4,none⟩ (.int .i64 0))=W5 at *
     have y0:=rS.cell 0
     have y1:=rS.cell 1
     have y2:=rS.cell 2
     have y3:=rS.cell 3
     have y4:=rS.cell 4
     simp only [List.getElem?_cons_zero,List.getElem?_cons_succ] at y0 y1 y2 y3 y4
     exact bodyPost_ret (v:= .tuple #[.agg #[.int .i64 0,.int .i64 0,.int .i64 0,.int .i64 0,.int .i64 0],.bool false]) (by simp [results,Tryz.results155,go_sem,y0,y1,y2,y3,y4]) rfl ⟨by rw [HE.out]; rfl,hXS⟩
   ·have HE:=hide (show rp=noEv by rw [HRP2.out,hM]; rfl)
    have hr2:=hR1.ext hx2
    have hlt2:=hr2.lt
    have x0:=hr2.cell 0
    have x1:=hr2.cell 1
    have x2:=hr2.cell 2
    have x3:=hr2.cell 3
    have x4:=hr2.cell 4
    have hf:=hr2.frozen
    simp only [List.getElem?_cons_zero,List.getElem?_cons_succ] at x0 x1 x2 x3 x4
    go_wp2_with fail
    have rS:=five_set hr2 (.int .i64 0) (.int .i64 0) (.int .i64 0) (.int .i64 0) (.int .i64 0)
    have hXS:=five_ext (hX1.trans hx2) (g:=w.heap.size) (Nat.le_refl _) (.int .i64 0) (.int .i64 0) (.int .i64 0) (.int .i64 0) (.int .i64 0)
    generalize (((((w2.setCell ⟨w.heap.size,0,none⟩ (.int .i64 0)).setCell ⟨w.heap.size,1,none⟩ (.int .i64 0)).setCell ⟨w.heap.size,2,none⟩ (.int .i64 0)).setCell ⟨w.heap.size,3,none⟩ (.int .i64 0)).setCell ⟨w.heap.size,4,none⟩ (.int .i64 0))=W5 at *
    have y0:=rS.cell 0
    have y1:=rS.cell 1
    have y2:=rS.cell 2
    have y3:=rS.cell 3
    have y4:=rS.cell 4
    simp only [List.getElem?_cons_zero,List.getElem?_cons_succ] at y0 y1 y2 y3 y4
    exact bodyPost_ret (v:= .tuple #[.agg #[.int .i64 0,.int .i64 0,.int .i64 0,.int .i64 0,.int .i64 0],.bool false]) (by simp [results,Tryz.results155,go_sem,y0,y1,y2,y3,y4]) rfl ⟨by rw [HE.out]; rfl,hXS⟩
end Go.Proofs.YtinindjjapblcaaGreatDoor
namespace Go.Proofs.YtinindjjapblcaaGreatDoor
open Go.RowKit
def wpAnyZ (P:Program) (md:Region.Mode) (ops:Array Oper) (Q:Exit→Act→World→Prop) (S:World→Prop) (z:Nat):Nat→Array Bool→Act→World→Prop
 | 0,listed,a,w=>Region.ready md ops listed=[]∧Q .normal a w
 | fuel+1,listed,a,w=>
  (Region.ready md ops listed=[]→Q .normal a w)∧
  ∀i∈Region.ready md ops listed,wpOp P ops Q i (fun a' w'=>(i≠z→S w')∧wpAnyZ P md ops Q S z fuel (listed.setIfInBounds i true) a' w') a w
section
variable {P:Program} {ops:Array Oper} {Q:Exit→Act→World→Prop} {md:Region.Mode} {S:World→Prop} {z:Nat}
theorem wpAny_of_Z:∀(fuel:Nat) (listed:Array Bool) (a:Act) (w:World),wpAnyZ P md ops Q S z fuel listed a w→wpAny P md ops Q fuel listed a w
 | 0,_,_,_,h=>h
 | fuel+1,_,_,_,h=>⟨h.1,fun i hi=>wpOp_mono (fun a' w' h'=>wpAny_of_Z fuel _ a' w' h'.2) (h.2 i hi)⟩
theorem wpAnyZ_first {i:Nat} {oi:Oper} {v:Value} (hi:ops[i]? =some oi) (hsel:∀(j:Nat) (o:Oper) cs b,ops[j]? =some o→o.op≠ .select cs b)
  (hQ:∀c a w,Q (.panic c) (a.put oi.dst v) w→Q (.panic c) a w) (hiz:i≠z) {oz:Oper} (hoz:ops[z]? =some oz) (hwz:∃e∈oz.after,Region.binds md e=true∧e.on=i):
  ∀(fuel:Nat) (listed:Array Bool) (a:Act) (w:World),
   (∀j oj,ops[j]? =some oj→j≠i→listed.getD j true=false→(∀e∈oj.after,Region.binds md e=true→e.on≠i)→oi.apart ops oj=true)→
   i∈Region.ready md ops listed→YieldsIf P ops S oi v a→S w→
   wpAnyZ P md ops Q S z fuel (listed.setIfInBounds i true) (a.put oi.dst v) w→wpAnyZ P md ops Q S z (fuel+1) listed a w:=by
 intro fuel
 induction fuel with
 | zero=>
  intro listed a w _ hr hy hS H
  refine ⟨fun h=>(by rw [h] at hr; cases hr),fun j hj=> ?_⟩
  by_cases hji:j=i
  ·subst hji; exact hy.wpOp hi hS ⟨fun _=>hS,H⟩
  ·have:=ready_mono hj hji
   rw [H.1] at this
   cases this
 | succ fuel ih=>
  intro listed a w hfree hr hy hS H
  refine ⟨fun h=>(by rw [h] at hr; cases hr),fun j hj=> ?_⟩
  by_cases hji:j=i
  ·subst hji; exact hy.wpOp hi hS ⟨fun _=>hS,H⟩
  ·have h1:=H.2 j (ready_mono hj hji)
   obtain ⟨hjun,oj,hoj,hall⟩:=mem_ready.1 hj
   have hnot:∀e∈oj.after,Region.binds md e=true→e.on≠i:=fun e he hb heq=>by
    have h1:=hall e he hb
    have h0:=(mem_ready.1 hr).1
    rw [heq] at h1
    rcases Nat.lt_or_ge i listed.size with h' | h'
    ·simp [h'] at h0 h1; rw [h0] at h1; cases h1
    ·simp [Array.getElem?_eq_none h'] at h1
   have hjz:j≠z:=by
    rintro rfl
    rw [hoj] at hoz
    injection hoz with hoz
    subst hoz
    obtain ⟨e,he,hb,heq⟩:=hwz
    exact hnot e he hb heq
   have h2:=wpOp_putIf hoj (hfree j oj hoj hji hjun hnot) (fun cs b=>hsel i oi cs b hi) (fun cs b=>hsel j oj cs b hoj) hQ hy h1
   have hfree':∀k ok,ops[k]? =some ok→k≠i→(listed.setIfInBounds j true).getD k true=false→
     (∀e∈ok.after,Region.binds md e=true→e.on≠i)→oi.apart ops ok=true:=fun k ok hk hki hun hno=>by
    refine hfree k ok hk hki ?_ hno
    by_cases hjk:j=k
    ·subst hjk; exact hjun
    ·rw [getD_set_ne true hjk] at hun; exact hun
   refine wpOp_mono (fun a' w' h3=>⟨h3.2.1,ih (listed.setIfInBounds j true) a' w' hfree' (ready_mono hr (Ne.symm hji)) h3.1 (h3.2.1 hjz) ?_⟩) h2
   rw [Array.setIfInBounds_comm _ _ hji]
   exact h3.2.2
end
def waitsZ (md:Region.Mode) (l:List Oper) (z i:Nat):Bool:=decide (i≠z)&&decide (z<l.length)&&(nthO l z).after.any (fun e=>Region.binds md e&&e.on==i)
theorem wpAnyZ_still {P:Program} {md:Region.Mode} {l:List Oper} {Q:Exit→Act→World→Prop} {bs:List (Nat×Nat)} {w0 w:World} {z:Nat} (hw0:SameC bs w0 w) (hs:Region.noSelect l.toArray=true) (hQ:∀c a w d v,Q (.panic c) (a.put d v) w→Q (.panic c) a w) {fuel:Nat} {listed':Array Bool} {K:Act→Prop}
  (hK:∀a,K a→wpAnyZ P md l.toArray Q (SameC bs w0) z fuel listed' a w):∀(is:List Nat) (listed:Array Bool) (a:Act),goStill md l listed is=some listed'→(∀i∈is,waitsZ md l z i=true)→wpQuiet P l.toArray (GrowC bs w0) K (pickL l is) a→
   wpAnyZ P md l.toArray Q (SameC bs w0) z (fuel+is.length) listed a w:=by
 intro is
 induction is with
 | nil=>
  intro listed a hg _ h
  simp only [goStill,Option.some.injEq] at hg
  subst hg
  exact hK a h
 | cons i is ih=>
  intro listed a hg hz h
  unfold goStill at hg
  split at hg
  ·rename_i hc
   simp only [Bool.and_eq_true,decide_eq_true_eq] at hc
   obtain ⟨⟨⟨h1,h2⟩,h3⟩,h4⟩:=hc
   have hi:l.toArray[i]? =some (nthO l i):=by simpa using nthO_some h1
   have hzi:=hz i (by simp)
   simp only [waitsZ,Bool.and_eq_true,decide_eq_true_eq,Array.any_eq_true'] at hzi
   obtain ⟨⟨hiz,hzl⟩,e,he,hb⟩:=hzi
   have hoz:l.toArray[z]? =some (nthO l z):=by simpa using nthO_some hzl
   have hwz:∃e∈(nthO l z).after,Region.binds md e=true∧e.on=i:=by
    simp only [beq_iff_eq] at hb
    exact ⟨e,he,hb⟩
   simp only [pickL,wpQuiet] at h
   by_cases hw:Region.wanted (nthO l i) (yielded l.toArray a.tmps)=true
   ·rw [if_pos hw] at h
    obtain ⟨v,hv,hn⟩:=h
    exact wpAnyZ_first hi (Region.noSelect_spec hs) (fun c a w=>hQ c a w _ _) hiz hoz hwz (fuel+is.length) listed a w (Region.free_spec hi h3) (by simpa using h4) (yields_of_quietC h2 hw hv) hw0 (ih _ _ hg (fun i hi=>hz i (by simp [hi])) hn)
   ·rw [if_neg hw] at h
    exact wpAnyZ_first hi (Region.noSelect_spec hs) (fun c a w=>hQ c a w _ _) hiz hoz hwz (fuel+is.length) listed a w (Region.free_spec hi h3) (by simpa using h4) (.inr ⟨by simpa using hw,rfl⟩) hw0 (ih _ _ hg (fun i hi=>hz i (by simp [hi])) h)
  ·cases hg
def wpPhZ (P:Program) (l:List Oper) (Q:Exit→Act→World→Prop) (bs:List (Nat×Nat)) (w0:World) (z:Nat):List (List Nat×Nat)→List Nat→Act→World→Prop
 | [],last,a,w=>wpQuiet P l.toArray (fun w'=>∃x,w'=laterC bs w0 x) (fun a'=>wpList P l.toArray (Exit.then (fun a'' w''=>Q .normal a'' w'') Q) [nthO l z] a' w) (pickL l last) a
 | (is,j)::r,last,a,w=>wpQuiet P l.toArray (fun w'=>∃x,w'=laterC bs w0 x) (fun a'=>wpList P l.toArray (Exit.then (fun a'' w''=>SameC bs w0 w''∧wpPhZ P l Q bs w0 z r last a'' w'') Q) [nthO l j] a' w) (pickL l is) a
def okPhZ (md:Region.Mode) (l:List Oper) (z:Nat):Array Bool→List (List Nat×Nat)→List Nat→Bool
 | listed,[],last=>match goStill md l listed last with
  | some listed'=>decide (z<l.length)&&last.all (waitsZ md l z)&&(Region.ready md l.toArray listed'==[z])&&(Region.ready md l.toArray (listed'.setIfInBounds z true)).isEmpty
  | none=>false
 | listed,(is,j)::r,last=>match goStill md l listed is with
  | some listed'=>decide (j<l.length)&&is.all (waitsZ md l z)&&decide (j≠z)&&(Region.ready md l.toArray listed'==[j])&&okPhZ md l z (listed'.setIfInBounds j true) r last
  | none=>false
theorem wpAnyZ_ph {P:Program} {md:Region.Mode} {l:List Oper} {Q:Exit→Act→World→Prop} {bs:List (Nat×Nat)} {w0:World} {z:Nat} (hs:Region.noSelect l.toArray=true) (hQ:∀c a w d v,Q (.panic c) (a.put d v) w→Q (.panic c) a w) (last:List Nat):
  ∀(ph:List (List Nat×Nat)) (listed:Array Bool) (a:Act) (w:World),SameC bs w0 w→okPhZ md l z listed ph last=true→wpPhZ P l Q bs w0 z ph last a w→wpAnyZ P md l.toArray Q (SameC bs w0) z (phLen ph last+1) listed a w:=by
 intro ph
 induction ph with
 | nil=>
  intro listed a w hw0 ho h
  unfold okPhZ at ho
  cases hg:goStill md l listed last with
  | none=>rw [hg] at ho; simp at ho
  | some listed'=>
   rw [hg] at ho
   simp only [Bool.and_eq_true,decide_eq_true_eq,beq_iff_eq,List.all_eq_true,List.isEmpty_iff] at ho
   obtain ⟨⟨⟨hz,hw⟩,hr⟩,he⟩:=ho
   have:=wpAnyZ_still (fuel:=1) hw0 hs hQ (K:=fun a'=>wpList P l.toArray (Exit.then (fun a'' w''=>Q .normal a'' w'') Q) [nthO l z] a' w) (fun a' ha=> ?_) last listed a hg hw h
   ·rw [Nat.add_comm] at this; exact this
   ·refine ⟨fun h0=>(by rw [hr] at h0; cases h0),fun i hi=> ?_⟩
    rw [hr] at hi
    obtain rfl:i=z:=by simpa using hi
    exact wpOp_mono (fun a'' w'' h'=>⟨fun hne=>absurd rfl hne,he,h'⟩) (wpOp_one hz ha)
 | cons p r ih=>
  obtain ⟨is,j⟩:=p
  intro listed a w hw0 ho h
  unfold okPhZ at ho
  cases hg:goStill md l listed is with
  | none=>rw [hg] at ho; simp at ho
  | some listed'=>
   rw [hg] at ho
   simp only [Bool.and_eq_true,decide_eq_true_eq,beq_iff_eq,List.all_eq_true] at ho
   obtain ⟨⟨⟨⟨hj,hw⟩,hjz⟩,hr⟩,ho⟩:=ho
   have hfu:phLen ((is,j)::r) last+1=(phLen r last+1+1)+is.length:=by simp only [phLen]; omega
   rw [hfu]
   refine wpAnyZ_still (fuel:=phLen r last+1+1) hw0 hs hQ (fun a' ha=> ?_) is listed a hg hw h
   refine ⟨fun h0=>(by rw [hr] at h0; cases h0),fun i hi=> ?_⟩
   rw [hr] at hi
   obtain rfl:i=j:=by simpa using hi
   exact wpOp_mono (fun a'' w'' h'=>⟨fun _=>h'.1,ih _ a'' w'' h'.1 ho h'.2⟩) (wpOp_one hj ha)
theorem wp_region_phZ {P:Program} {id:Nat} {Q:Exit→Act→World→Prop} {a:Act} {w:World} {l:List Oper} (bs:List (Nat×Nat)) (ph:List (List Nat×Nat)) (last:List Nat) (z:Nat) (hm:P.follows .mixedOrders=true)
  (hc:(Region.noSelect l.toArray&&decide (phLen ph last+1=l.length)&&okPhZ .any l z (Array.replicate l.length false) ph last)=true) (hQ:∀c a w d v,Q (.panic c) (a.put d v) w→Q (.panic c) a w)
  (h:wpPhZ P l Q bs w z ph last a w.drew):(Code.region id l.toArray true).wp P Q a w:=by
 simp only [Bool.and_eq_true,decide_eq_true_eq] at hc
 obtain ⟨⟨hs,hl⟩,ho⟩:=hc
 refine wp_region_any hm (wpAny_of_Z (S:=SameC bs w) (z:=z) _ _ _ _ ?_)
 have:=wpAnyZ_ph (P:=P) (md:= .any) (w0:=w) (bs:=bs) hs hQ last ph _ a w.drew (SameC.refl bs w).drew ho h
 rw [hl] at this
 simpa using this
end Go.Proofs.YtinindjjapblcaaGreatDoor
