/-
  Plain: what is recovered of a journal's text, whole or cut off anywhere.
-/
import Derived.Test.YtinindjjapblcaaGreatDoorWa06
import Derived.Test.YtinindjjapblcaaGreatDoorWa16
import Derived.Test.YtinindjjapblcaaGreatDoorWa01
import Derived.Test.YtinindjjapblcaaGreatDoorWa37
import Derived.Test.YtinindjjapblcaaGreatDoorWa35
namespace Go.Proofs.YtinindjjapblcaaGreatDoor
open Go.Lib
def linesE:List Event→Int→List (List UInt8)
 | [],_=>[]
 | e::es,x=>lineL e x::linesE es (sumE e x)
theorem splitL_text (p:List UInt8) (hp:(10:UInt8) ∉ p):∀(es:List Event) (x:Int),splitL 10 (textL es x++p)=linesE es x++[p]
 | [],_=>splitL_no 10 p hp
 | e::es,x=>by
  rw [textL,List.append_assoc,List.cons_append,splitL_app 10 _ _ (lineL_no e x),splitL_text p hp es,linesE,List.cons_append]
theorem recL_lines:∀(es:List Event) (k:Nat) (x:Int),(∀e∈es,evB e=true)→es.length≤k→0≤x→x<99991→recL (linesE es x) k x=es
 | [],k,x,_,_,_,_=>by cases k <;> rfl
 | e::es,0,x,_,h,_,_=>by simp at h
 | e::es,k+1,x,h,hk,h0,h1=>by
  have hs:=sumE_bound e x h0 h1
  rw [linesE,recL,next_line e x (h e (by simp)) h0 h1]
  simp only
  rw [recL_lines es k _ (fun f hf=>h f (by simp [hf])) (by simpa using hk) hs.1 hs.2]
theorem recS_app (es:List Event) (p:List UInt8) (hv:∀e∈es,evB e=true) (hl:es.length≤300) (hp:(10:UInt8) ∉ p):recS (textL es 1++p)=es:=by
 unfold recS
 rw [splitL_text p hp es 1,List.dropLast_concat]
 exact recL_lines es maxEv 1 hv hl (by omega) (by omega)
theorem recS_whole (es:List Event) (hv:∀e∈es,evB e=true) (hl:es.length≤300):recS (textL es 1)=es:=by
 have:=recS_app es [] hv hl (by simp)
 rwa [List.append_nil] at this
end Go.Proofs.YtinindjjapblcaaGreatDoor
namespace Go.Proofs.YtinindjjapblcaaGreatDoor
open Go.RowKit
def DrawnEvs (a:Nat) (A:Option Addr) (n c:Nat) (w:World) (e:Ending) (w':World):Prop:=
 ∃(v:Value) (L:List Event),e= .returned v∧L.length≤301∧OwnL w' w.heap.size 54 5 Event.cells v L∧SrcAt w' a A n c∧Only a w w'
structure LStJ (w0 w:World) (a:Nat) (A:Option Addr) (n c:Nat) (wr:World) (v:Value) (L:List Event):Prop where
 le0:w0.heap.size≤a
 lt1:a<w.heap.size
 size:w.heap.size≤wr.heap.size
 ext:Ext w0 wr
 src:SrcAt wr a A n c
 only:Only a w wr
 own:OwnL wr w.heap.size 54 5 Event.cells v L
section
variable {w0 w wr wr':World} {a n c:Nat} {A:Option Addr} {v v':Value} {L L':List Event}
theorem LStJ.draw (h:LStJ w0 w a A n c wr v L) (ho:Only a wr wr') (hs:SrcAt wr' a A n c):LStJ w0 w a A n c wr' v L:=
 ⟨h.le0,h.lt1,Nat.le_trans h.size ho.size,h.ext.only ho h.le0,hs,h.only.trans ho,h.own.only ho h.lt1⟩
theorem LStJ.more (h:LStJ w0 w a A n c wr v L) (hx:Ext wr wr'):LStJ w0 w a A n c wr' v L:=h.draw (Only.of_ext hx a) (h.src.ext hx)
theorem LStJ.app (h:LStJ w0 w a A n c wr v L) (hx:∀w1:World,w1.heap.size≤w.heap.size→Ext w1 wr→Ext w1 wr') (ho:OwnL wr' w.heap.size 54 5 Event.cells v' L'):LStJ w0 w a A n c wr' v' L':=by
 obtain ⟨l0,l1,sz,ex,sr,on,ow⟩:=h
 have hk:=kept_append sz hx
 exact ⟨l0,l1,hk.size,hx w0 (by omega) ex,sr.kept hk l1,on.kept hk (Nat.le_refl _),ho⟩
theorem LStJ.fresh (h:LStJ w0 w a A n c wr v L):LStJ w0 w a A n c (wr.alloc (.cells #[] 54)) (.slice (some ⟨wr.heap.size,0,none⟩) 0 0) []:=
 {h.more (Ext.alloc wr _) with own:=OwnL.empty wr w.heap.size 54 5 Event.cells h.size}
end
set_option maxHeartbeats 2000000 in
theorem c_l32DrawList (a:Nat) (A:Option Addr) (n c:Nat) (bs:List Int) (w0 w:World) (hbs:SliceOf w0 1 byteC A n c bs) (hbd:∀z∈bs,0≤z∧z≤255) (hx0:Ext w0 w) (ha:w0.heap.size≤a) (hsrc:SrcAt w a A n c) (hn:n≤1048576):
  Calls Tryz.prog 110 #[.pointer (some ⟨a,0,none⟩)] w (DrawnEvs a A n c w):=by
 have nxt:=fun (m:Int) (w:World) hx0 hsrc=>c_l01Next a m A n c bs w0 w hbs hbd hx0 ha hsrc hn
 have NX:=hide nxt
 clear nxt
 have one:=fun (w:World) hx0 hsrc=>c_l32DrawOne a A n c bs w0 w hbs hbd hx0 ha hsrc hn
 have ONE:=hide one
 clear one
 have hal:=hsrc.lt
 have hD0:LStJ w0 w a A n c (w.alloc (.cells #[] 54)) (.slice (some ⟨w.heap.size,0,none⟩) 0 0) []:=
  LStJ.fresh (v:= .slice none 0 0) (L:=[]) ⟨ha,hal,Nat.le_refl _,hx0,hsrc,Only.refl _ _,OwnL.nil_ _ _ _ _ _⟩
 go_enter Tryz.func110,Tryz.ntmps110
 go_wp2_with fail
 refine (NX.out 9 _ hD0.ext hD0.src (by omega) (by omega)).mono ?_
 rintro e w1 ⟨x1,rfl,hx1,hx2,hs1,ho1⟩
 have hD1:=hD0.draw ho1 hs1
 clear hD0 ho1 hs1
 go_wp2_with fail
 go_loopw [3,4] (fun v k wr=>∃(k':Nat) (L:List Event),k'≤9∧k= .int .i64 k'∧L.length+k'≤9∧LStJ w0 w a A n c wr v L) (fun _ k _=>(intOf k).toNat)
 case atStart=>
  refine ⟨x1.toNat,[],by omega,?_,by simp; omega,hD1⟩
  rw [Int.toNat_of_nonneg (by omega)]
 case round=>
  obtain ⟨k',L,hk,rfl,hL,hD⟩:=hrel
  clear hD1
  have hszr:=hD.size
  by_cases hlt:0<k'
  ·have hlt':decide ((0:Int)<(k':Int))=true:=by simpa using hlt
   go_wp2_with fail
   refine (ONE.out _ hD.ext hD.src).mono ?_
   rintro e w2 ⟨p,rfl,hs2,ho2⟩
   have hD2:=hD.draw ho2 hs2
   have hsz2:=hD2.size
   clear hD ho2 hs2
   have hD3:=hD2.more (Ext.alloc w2 (.cells #[.int .i64 p.kind,.int .i64 p.a,.int .i64 p.b,.int .i64 p.c,.int .i64 p.d] 54))
   go_wp2_with (at_builtin; go_must (refine wpList_append_one rfl _ _ 34 rfl w.heap.size 54 _ 5 40 Tryz.underlying34 event_info rfl (by decide) Event.cells event_len event_oneJ _ _ rfl (hD3.own) w2 p rfl _ rfl (by simp) (by omega) (by omega) (by omega) ?_))
   intro v4 w4 hown4 hx4
   have hD4:=hD3.app hx4 hown4
   clear hD2 hD3 hown4 hx4
   go_wp2_with fail
   go_roundw
   case rel=>exact ⟨k'-1,_,by omega,by go_num,by simp; omega,hD4⟩
   case measure=>simp [intOf]; omega
  ·have hk0:k'=0:=by omega
   subst hk0
   go_wp2_with fail
   refine (NX.out 60 _ hD.ext hD.src (by omega) (by omega)).mono ?_
   rintro e w2 ⟨x2,rfl,hx3,hx4,hs2,ho2⟩
   have hD2:=hD.draw ho2 hs2
   clear hD ho2 hs2
   by_cases h0:x2=0
   ·subst h0
    clear hx3 hx4
    obtain ⟨A2,c2,hv2,_,_⟩:=hD2.own.form
    subst hv2
    have hL9:L.length≤9:=by omega
    go_wp2_with fail
    go_loopw [3] (fun v wr=>∃(A':Option Addr) (c':Nat) (L:List Event),v= .slice A' L.length c'∧L.length≤301∧LStJ w0 w a A n c wr v L) (fun v _=>302-(match v with | .slice _ n _=>n | _=>0))
    case atStart=>exact ⟨_,_,L,rfl,by omega,hD2⟩
    case round=>
     obtain ⟨A',c',L,rfl,hL,hD⟩:=hrel
     clear hD2
     have hszr:=hD.size
     go_wp2_with fail
     refine (NX.out 2 _ hD.ext hD.src (by omega) (by omega)).mono ?_
     rintro e w5 ⟨x5,rfl,hx5,hx6,hs5,ho5⟩
     have hD5:=hD.draw ho5 hs5
     have hsz5:=hD5.size
     clear hD ho5 hs5
     have e1:IntKind.i64.wrap (300+x5)=300+x5:=IntWalk.i64_in _ (by omega)
     by_cases hlt:(L.length:Int)<300+x5
     ·have hlt':decide ((L.length:Int)<300+x5)=true:=by simpa using hlt
      have hD6:=hD5.more (Ext.alloc w5 (.cells #[.int .i64 3,.int .i64 2,.int .i64 0,.int .i64 0,.int .i64 0] 54))
      go_wp2_with (at_builtin; go_must (refine wpList_append_one rfl _ _ 34 rfl w.heap.size 54 _ 5 40 Tryz.underlying34 event_info rfl (by decide) Event.cells event_len event_oneJ _ _ rfl (hD6.own) w5 ⟨3,2,0,0,0⟩ rfl _ rfl (by simp) (by omega) (by omega) (by omega) ?_))
      intro v7 w7 hown7 hx7
      have hD7:=hD6.app hx7 hown7
      clear hD5 hD6 hown7 hx7
      obtain ⟨A7,c7,rfl,_,_⟩:=hD7.own.form
      go_wp2_with fail
      go_roundw
      case rel=>exact ⟨A7,c7,_,rfl,by simp; omega,hD7⟩
      case measure=>simp; omega
     ·have hlt':decide ((L.length:Int)<300+x5)=false:=by simpa using hlt
      go_wp2_with fail
      go_ret
      exact ⟨_,_,rfl,hL,hD5.own,hD5.src,hD5.only⟩
   ·have h0':(x2==0)=false:=by simpa using h0
    go_wp2_with fail
    go_ret
    exact ⟨_,_,rfl,by omega,hD2.own,hD2.src,hD2.only⟩
end Go.Proofs.YtinindjjapblcaaGreatDoor
namespace Go.Proofs.YtinindjjapblcaaGreatDoor
open Go.RowKit
open Go.Lib hiding intOf
def DrawnTxt (m:Nat) (a:Nat) (A:Option Addr) (n c:Nat) (w:World) (e:Ending) (w':World):Prop:=
 ∃l:List UInt8,e= .returned (.string (mkB l))∧l.length≤m∧SrcAt w' a A n c∧Only a w w'
theorem cut_low (l:List UInt8) (k:Nat):(mkB l).extract 0 k=mkB (l.take k):=by rw [mkB_extract]; simp
theorem cut_high (l:List UInt8) (k:Nat):(mkB l).extract k l.length=mkB (l.drop k):=by
 rw [mkB_extract,List.take_of_length_le (by rw [List.length_drop]; exact Nat.le_refl _)]
theorem dmg_cell {w:World} {g:Nat} (h:Row w g 9 [.string (⟨#[48]⟩),.string (⟨#[49]⟩),.string (⟨#[32]⟩),.string (⟨#[46]⟩),.string (⟨#[45]⟩),.string (⟨#[97]⟩),.string (⟨#[47]⟩),.string (⟨#[10]⟩)]) (j:Nat) (hj:j<8):∃ch,w.cell? ⟨g,j,none⟩=some (.string (mkB [ch])):=by
 rw [h.cell j]
 have:j=0∨j=1∨j=2∨j=3∨j=4∨j=5∨j=6∨j=7:=by omega
 rcases this with rfl | rfl | rfl | rfl | rfl | rfl | rfl | rfl
 ·exact ⟨48,rfl⟩
 ·exact ⟨49,rfl⟩
 ·exact ⟨32,rfl⟩
 ·exact ⟨46,rfl⟩
 ·exact ⟨45,rfl⟩
 ·exact ⟨97,rfl⟩
 ·exact ⟨47,rfl⟩
 ·exact ⟨10,rfl⟩
set_option maxHeartbeats 1000000 in
set_option maxRecDepth 8000 in
theorem c_l01Damage (l:List UInt8) (hl:l.length≤1000000) (a:Nat) (A:Option Addr) (n c:Nat) (bs:List Int) (w0 w:World) (hbs:SliceOf w0 1 byteC A n c bs) (hbd:∀z∈bs,0≤z∧z≤255) (hx0:Ext w0 w) (ha:w0.heap.size≤a) (hsrc:SrcAt w a A n c) (hn:n≤1048576):
  Calls Tryz.prog 111 #[.pointer (some ⟨a,0,none⟩),.string (mkB l)] w (DrawnTxt (l.length+1) a A n c w):=by
 have nxt:=fun (m:Int) (w:World) hx0 hsrc=>c_l01Next a m A n c bs w0 w hbs hbd hx0 ha hsrc hn
 have NX:=hide nxt
 clear nxt
 have hsz:(mkB l).size=l.length:=rfl
 go_enter Tryz.func111,Tryz.ntmps111
 go_wp2_with fail
 refine (NX.out ((l.length:Int)+1) _ hx0 hsrc (by omega) (by omega)).mono ?_
 rintro e w1 ⟨x1,rfl,hx1,hx1',hs1,ho1⟩
 have hE1:=hx0.only ho1 ha
 obtain ⟨k,rfl⟩:=Int.eq_ofNat_of_zero_le hx1
 have hk:k≤l.length:=by omega
 go_wp2_with fail
 refine (NX.out 8 _ hE1 hs1 (by omega) (by omega)).mono ?_
 rintro e w2 ⟨x2,rfl,hx2,hx2',hs2,ho2⟩
 have hE2:=hE1.only ho2 ha
 have hO2:=ho1.trans ho2
 have hcl:=cut_low l k
 have hch:=cut_high l k
 clear ho1 ho2 hs1 hE1 hx1 hx1'
 by_cases h0:x2=0
 ·subst h0
  go_wp2_with fail
  go_ret
  exact ⟨l.take k,rfl,by rw [List.length_take]; omega,hs2,hO2⟩
 ·have b0:(x2==0)=false:=by rw [beq_eq_false_iff_ne]; exact h0
  by_cases h1:x2=1
  ·subst h1
   have q1:(mkB (l.take k)).size≤1000000:=by rw [mkB_size,List.length_take]; omega
   have q2:(mkB (l.drop k)).size≤1000000:=by rw [mkB_size,List.length_drop]; omega
   have ha2:a<w2.heap.size:=hs2.lt
   go_wp2_with fail
   refine wp_region_phT [] (.two [0,1,2,4,9,10,11] 3 (.one [] 5 (.one [6] 7 (.last [8,12,13]))) 5 (.one [] 3 (.one [6] 7 (.last [8,12,13])))) (by kernel_rfl) (by kernel_rfl) (by intro c a w d v h; cases d <;> exact h) ?_
   simp only [wpPhT,pickL,nthO]
   repeat (go_big_quiet_step (fail))
   refine wpQuiet_nil ⟨?_,?_⟩
   ·go_wp2_with fail
    refine ⟨fun _ h=>(by cases h),wpQuiet_nil ?_⟩
    have hr3:Row (w2.alloc (.cells #[.string (⟨#[48]⟩),.string (⟨#[49]⟩),.string (⟨#[32]⟩),.string (⟨#[46]⟩),.string (⟨#[45]⟩),.string (⟨#[97]⟩),.string (⟨#[47]⟩),.string (⟨#[10]⟩)] 9)).drew w2.heap.size 9 [.string (⟨#[48]⟩),.string (⟨#[49]⟩),.string (⟨#[32]⟩),.string (⟨#[46]⟩),.string (⟨#[45]⟩),.string (⟨#[97]⟩),.string (⟨#[47]⟩),.string (⟨#[10]⟩)]:=(Row.new w2 _ _).drew
    have hx3:Ext w2 (w2.alloc (.cells #[.string (⟨#[48]⟩),.string (⟨#[49]⟩),.string (⟨#[32]⟩),.string (⟨#[46]⟩),.string (⟨#[45]⟩),.string (⟨#[97]⟩),.string (⟨#[47]⟩),.string (⟨#[10]⟩)] 9)).drew:=(Ext.alloc _ _).drew
    generalize (w2.alloc (.cells #[.string (⟨#[48]⟩),.string (⟨#[49]⟩),.string (⟨#[32]⟩),.string (⟨#[46]⟩),.string (⟨#[45]⟩),.string (⟨#[97]⟩),.string (⟨#[47]⟩),.string (⟨#[10]⟩)] 9)).drew=w3 at *
    go_wp2_with fail
    refine (NX.out 8 _ (hE2.trans hx3) (hs2.ext hx3) (by omega) (by omega)).mono ?_
    rintro e w4 ⟨y,rfl,hy1,hy2,hs4,ho4⟩
    obtain ⟨j,rfl⟩:=Int.eq_ofNat_of_zero_le hy1
    have hj:j<8:=by omega
    obtain ⟨ch,hz⟩:=dmg_cell (hr3.only ho4 (by omega)) j hj
    have hl4:=(hr3.only ho4 (by omega)).lt
    have q3:(mkB [ch]).size=1:=rfl
    have hO4:=hO2.trans ((Only.of_ext hx3 a).trans ho4)
    go_wp2_with fail
    refine ⟨fun _ h=>(by cases h),?_⟩
    have H1:=mkB_append (l.take k) [ch]
    have H2:=mkB_append (l.take k++[ch]) (l.drop k)
    have q4:(mkB (l.take k++[ch])).size≤1000001:=by rw [mkB_size,List.length_append,List.length_take,List.length_singleton]; omega
    have HL:=hide (show (l.take k++ch::l.drop k).length≤l.length+1 by simp; omega)
    repeat (go_big_quiet_step (fail))
    refine wpQuiet_nil ?_
    go_wp2_with fail
    refine ⟨fun _ h=>(by cases h),?_⟩
    repeat (go_big_quiet_step (fail))
    refine wpQuiet_nil ?_
    go_wp2_with fail
    go_ret
    exact ⟨l.take k++ch::l.drop k,rfl,HL.out,hs4,hO4⟩
   ·go_wp2_with fail
    refine (NX.out 8 _ (hE2.drew) (hs2.ext (Ext.refl _).drew) (by omega) (by omega)).mono ?_
    rintro e w3 ⟨y,rfl,hy1,hy2,hs3,ho3⟩
    obtain ⟨j,rfl⟩:=Int.eq_ofNat_of_zero_le hy1
    have hj:j<8:=by omega
    go_wp2_with fail
    refine ⟨fun _ h=>(by cases h),wpQuiet_nil ?_⟩
    have hr4:Row (w3.alloc (.cells #[.string (⟨#[48]⟩),.string (⟨#[49]⟩),.string (⟨#[32]⟩),.string (⟨#[46]⟩),.string (⟨#[45]⟩),.string (⟨#[97]⟩),.string (⟨#[47]⟩),.string (⟨#[10]⟩)] 9)) w3.heap.size 9 [.string (⟨#[48]⟩),.string (⟨#[49]⟩),.string (⟨#[32]⟩),.string (⟨#[46]⟩),.string (⟨#[45]⟩),.string (⟨#[97]⟩),.string (⟨#[47]⟩),.string (⟨#[10]⟩)]:=Row.new w3 _ _
    have hx4:Ext w3 (w3.alloc (.cells #[.string (⟨#[48]⟩),.string (⟨#[49]⟩),.string (⟨#[32]⟩),.string (⟨#[46]⟩),.string (⟨#[45]⟩),.string (⟨#[97]⟩),.string (⟨#[47]⟩),.string (⟨#[10]⟩)] 9)):=Ext.alloc _ _
    obtain ⟨ch,hz⟩:=dmg_cell hr4 j hj
    have hl4:=hr4.lt
    have q3:(mkB [ch]).size=1:=rfl
    have hs4:=hs3.ext hx4
    have hO4:=hO2.trans (((Only.refl a w2).drew.trans ho3).trans (Only.of_ext hx4 a))
    go_wp2_with fail
    refine ⟨fun _ h=>(by cases h),?_⟩
    have H1:=mkB_append (l.take k) [ch]
    have H2:=mkB_append (l.take k++[ch]) (l.drop k)
    have q4:(mkB (l.take k++[ch])).size≤1000001:=by rw [mkB_size,List.length_append,List.length_take,List.length_singleton]; omega
    have HL:=hide (show (l.take k++ch::l.drop k).length≤l.length+1 by simp; omega)
    repeat (go_big_quiet_step (fail))
    refine wpQuiet_nil ?_
    go_wp2_with fail
    refine ⟨fun _ h=>(by cases h),?_⟩
    repeat (go_big_quiet_step (fail))
    refine wpQuiet_nil ?_
    go_wp2_with fail
    go_ret
    exact ⟨l.take k++ch::l.drop k,rfl,HL.out,hs4,hO4⟩
  ·have b1:(x2==1)=false:=by rw [beq_eq_false_iff_ne]; exact h1
   by_cases h2:x2=2
   ·subst h2
    by_cases hlt:k<l.length
    ·have hch2:=cut_high l (k+1)
     have hlt':(k:Int)<(l.length:Int):=by omega
     have q1:(mkB (l.take k)).size≤1000000:=by rw [mkB_size,List.length_take]; omega
     have q2:(mkB (l.drop (k+1))).size≤1000000:=by rw [mkB_size,List.length_drop]; omega
     have HCT:=hide (mkB_append (l.take k) (l.drop (k+1)))
     go_wp2_with fail
     refine wp_region_ph [] [0,1,2,3,4,5,6,7,8] (by kernel_rfl) (by kernel_rfl) (by intro c a w d v h; cases d <;> exact h) ?_
     simp only [wpPh,pickL,nthO]
     repeat (go_big_quiet_step (fail))
     refine wpQuiet_nil ?_
     go_wp2_with fail
     go_ret
     exact ⟨l.take k++l.drop (k+1),by rw [HCT.out]; rfl,by simp; omega,hs2.ext (Ext.refl _).drew,hO2.trans (Only.refl _ _).drew⟩
    ·have hlt':¬(k:Int)<(l.length:Int):=by omega
     go_wp2_with fail
     go_ret
     exact ⟨l,rfl,by omega,hs2,hO2⟩
   ·have b2:(x2==2)=false:=by rw [beq_eq_false_iff_ne]; exact h2
    go_wp2_with fail
    go_ret
    exact ⟨l,rfl,by omega,hs2,hO2⟩
end Go.Proofs.YtinindjjapblcaaGreatDoor
