/-
  JournalOf: validity of a list of events, by way of slices.ContainsFunc; JournalOf of the reference.
-/
import Derived.Test.YtinindjjapblcaaGreatDoorWa35
import Derived.Test.YtinindjjapblcaaGreatDoorWc00
import Derived.Lib.ItoaMem
import Derived.Test.YtinindjjapblcaaGreatDoorWa39
namespace Go.Proofs.YtinindjjapblcaaGreatDoor
open Go.RowKit
open Go.Lib hiding intOf
def jourR (es:List Event):List UInt8×Int:=if 300<es.length then ([],3) else if es.all evB=false then ([],1) else (textL es 1,0)
set_option maxHeartbeats 1000000 in
set_option maxRecDepth 8000 in
theorem c_specJournalOf (A:Option Addr) (n c:Nat) (es:List Event) (w:World) (hs:SliceOf w 5 Event.cells A n c es):
  Calls Tryz.prog 20 #[.slice A n c] w (Ret (.tuple #[.string (mkB (jourR es).1),.int .i64 (jourR es).2]) w):=by
 have hm:=hs.max
 have hcap:=hs.cap
 have HN:=hide hs.len
 by_cases h:300<n
 ·have HR:=hide (show jourR es=([],3) by unfold jourR; rw [if_pos (by have:=HN.out; omega)])
  go_enter Tryz.func20,Tryz.ntmps20
  go_wp2_with fail
  exact bodyPost_ret (v:= .tuple #[.string ⟨#[]⟩,.int .i64 3]) (by simp [results,Tryz.results20,go_sem]) rfl (Ret.of (by rw [HR.out]; rfl) (Ext.refl _))
 ·have HR:=hide (show jourR es=if es.all evB=false then ([],1) else (textL es 1,0) by unfold jourR; rw [if_neg (by have:=HN.out; omega)])
  go_enter Tryz.func20,Tryz.ntmps20
  go_wp2_with fail
  go_loopw [4] (fun i wr=>∃k:Nat,k≤n∧i= .int .i64 k∧Hid (∀(j:Nat) (p:Event),j<k→es[j]? =some p→evB p=true)∧Ext w wr) (fun i _=>n-(intOf i).toNat)
  case atStart=>exact ⟨0,Nat.zero_le _,rfl,hide (fun j p hj=>absurd hj (by omega)),Ext.refl _⟩
  case round=>
   obtain ⟨k,hk,rfl,HK,hx⟩:=hrel
   by_cases hlt:k<n
   ·obtain ⟨b,off,p,rfl,hb,hxk,hc⟩:=(hs.ext hx).get hlt
    have hc0:=hc 0 _ rfl
    have hc1:=hc 1 _ rfl
    have hc2:=hc 2 _ rfl
    have hc3:=hc 3 _ rfl
    have hc4:=hc 4 _ rfl
    clear hc
    simp only [Nat.add_zero] at hc0
    have HX:=hide hxk
    clear hxk
    cases hp:evB p
    ·have HR2:=hide (show jourR es=([],1) by
      rw [HR.out,if_pos]
      rw [List.all_eq_false]; exact ⟨p,List.mem_of_getElem? HX.out,by simp [hp]⟩)
     go_wp2_with (go_at_call 62; refine (c_specIsEvent p _).mono ?_; rw [hp]; rintro e w1 ⟨rfl,hx1⟩)
     exact bodyPost_ret (v:= .tuple #[.string ⟨#[]⟩,.int .i64 1]) (by simp [results,Tryz.results20,go_sem]) rfl (Ret.of (by rw [HR2.out]; rfl) (hx.trans hx1))
    ·go_wp2_with (go_at_call 62; refine (c_specIsEvent p _).mono ?_; rw [hp]; rintro e w1 ⟨rfl,hx1⟩)
     go_roundw
     case rel=>
      refine ⟨k+1,by omega,by go_num,hide fun j q hj hq=> ?_,hx.trans hx1⟩
      by_cases e:j=k
      ·subst e; rw [HX.out] at hq; injection hq with hq; subst hq; exact hp
      ·exact HK.out j q (by omega) hq
     case measure=>simp [intOf]; omega
   ·have hall:es.all evB=true:=by
     rw [List.all_eq_true]; intro q hq
     obtain ⟨j,hj,rfl⟩:=List.mem_iff_getElem.1 hq
     exact HK.out j _ (by have:=HN.out; omega) (List.getElem?_eq_getElem hj)
    have HR2:=hide (show jourR es=(textL es 1,0) by rw [HR.out,if_neg (by rw [hall]; decide)])
    have HAL:=hide (List.all_eq_true.1 hall)
    clear hall
    go_wp2_with fail
    refine (c_l32Text A n c es _ (hs.ext hx) HAL.out (by omega)).mono ?_
    rintro e w1 ⟨rfl,hx1⟩
    go_wp2_with fail
    exact bodyPost_ret (v:= .tuple #[.string (mkB (textL es 1)),.int .i64 0]) (by simp [results,Tryz.results20,go_sem]) rfl (Ret.of (by rw [HR2.out]) (hx.trans hx1))
end Go.Proofs.YtinindjjapblcaaGreatDoor
namespace Go.Proofs.YtinindjjapblcaaGreatDoor
open Go.RowKit
open Go.Lib hiding intOf
theorem textL_len:∀(es:List Event) (x:Int),(∀e∈es,evB e=true)→0≤x→x<99991→(textL es x).length≤49*es.length
 | [],_,_,_,_=>by simp [textL]
 | e::es,x,h,h0,h1=>by
  have hs:=sumE_bound e x h0 h1
  have ih:=textL_len es (sumE e x) (fun f hf=>h f (by simp [hf])) hs.1 hs.2
  have hl:=lineL_small e x (h e (by simp)) h0 h1
  simp only [textL,List.length_append,List.length_cons]
  omega
theorem jourR_len (es:List Event):(jourR es).1.length≤14700:=by
 unfold jourR
 split
 ·simp
 ·split
  ·simp
  ·rename_i h1 h2
   have hall:es.all evB=true:=by simpa using h2
   have:=textL_len es 1 (List.all_eq_true.1 hall) (by omega) (by omega)
   show (textL es 1).length≤14700
   omega
def zerosL (n:Nat):List UInt8:=List.replicate n 0
set_option maxHeartbeats 1000000 in
set_option maxRecDepth 8000 in
theorem c_l32DrawText (a:Nat) (A:Option Addr) (n c:Nat) (bs:List Int) (w0 w:World) (hbs:SliceOf w0 1 byteC A n c bs) (hbd:∀z∈bs,0≤z∧z≤255) (hx0:Ext w0 w) (ha:w0.heap.size≤a) (hsrc:SrcAt w a A n c) (hn:n≤1048576):
  Calls Tryz.prog 59 #[.pointer (some ⟨a,0,none⟩)] w (DrawnTxt 20001 a A n c w):=by
 have nxt:=fun (m:Int) (w:World) hx0 hsrc=>c_l01Next a m A n c bs w0 w hbs hbd hx0 ha hsrc hn
 have NX:=hide nxt
 clear nxt
 go_enter Tryz.func59,Tryz.ntmps59
 go_wp2_with fail
 refine (c_l32DrawList a A n c bs w0 w hbs hbd hx0 ha hsrc hn).mono ?_
 rintro e w1 ⟨v,es,rfl,hes,ho,hs1,ho1⟩
 obtain ⟨B,d,rfl,hoA,_⟩:=ho.toOwn event_len (by omega)
 have hE1:=hx0.only ho1 ha
 go_wp2_with fail
 refine (c_specJournalOf B es.length d es _ (hoA.slice event_len)).mono ?_
 rintro e w2 ⟨rfl,hx2⟩
 have hE2:=hE1.trans hx2
 have hs2:=hs1.ext hx2
 have hO2:=ho1.trans (Only.of_ext hx2 a)
 have hjl:=jourR_len es
 generalize (jourR es).1=t at *
 generalize (jourR es).2=cd at *
 clear ho hoA ho1 hs1 hE1 hx2
 have hsz:(mkB t).size=t.length:=rfl
 by_cases hc:cd=0
 ·subst hc
  go_wp2_with fail
  refine (NX.out 5 _ hE2 hs2 (by omega) (by omega)).mono ?_
  rintro e w3 ⟨x3,rfl,hx3,hx3',hs3,ho3⟩
  have hE3:=hE2.only ho3 ha
  have hO3:=hO2.trans ho3
  by_cases h0:x3=0
  ·subst h0
   go_wp2_with fail
   refine (NX.out ((t.length:Int)+1) _ hE3 hs3 (by omega) (by omega)).mono ?_
   rintro e w4 ⟨x4,rfl,hx4,hx4',hs4,ho4⟩
   obtain ⟨k,rfl⟩:=Int.eq_ofNat_of_zero_le hx4
   have hk:k≤t.length:=by omega
   have hcl:=cut_low t k
   go_wp2_with fail
   go_ret
   exact ⟨t.take k,rfl,by rw [List.length_take]; omega,hs4,hO3.trans ho4⟩
  ·have b0:(x3==0)=false:=by rw [beq_eq_false_iff_ne]; exact h0
   by_cases h1:x3=1
   ·subst h1
    go_wp2_with fail
    refine (c_l01Damage t (by omega) a A n c bs w0 _ hbs hbd hE3 ha hs3 hn).mono ?_
    rintro e w4 ⟨t',rfl,ht',hs4,ho4⟩
    go_wp2_with fail
    go_ret
    exact ⟨t',rfl,by omega,hs4,hO3.trans ho4⟩
   ·have b1:(x3==1)=false:=by rw [beq_eq_false_iff_ne]; exact h1
    go_wp2_with fail
    refine (NX.out 60 _ hE3 hs3 (by omega) (by omega)).mono ?_
    rintro e w4 ⟨x4,rfl,hx4,hx4',hs4,ho4⟩
    have hE4:=hE3.only ho4 ha
    have hO4:=hO3.trans ho4
    by_cases h4:x4=0
    ·subst h4
     go_wp2_with fail
     refine (NX.out 2 _ hE4 hs4 (by omega) (by omega)).mono ?_
     rintro e w5 ⟨x5,rfl,hx5,hx5',hs5,ho5⟩
     obtain ⟨j,rfl⟩:=Int.eq_ofNat_of_zero_le hx5
     have hmk:=run_make_flat (P:=Tryz.prog) 22 5 _ _ 1 1 Tryz.underlying22 byte_info (f:=bytC) 0 rfl rfl rfl (by omega) (20000+j) (by omega) (by omega) w5
     rw [show ((20000+j:Nat):Int)=20000+(j:Int) by omega] at hmk
     have hr:RowOf (w5.alloc (.cells ((List.replicate (20000+j) (0:UInt8)).flatMap bytC).toArray 5)) w5.heap.size 5 bytC (zerosL (20000+j)):=Row.new w5 _ _
     have hcv:=run_convert_bytes_back (P:=Tryz.prog) (w5.alloc (.cells ((List.replicate (20000+j) (0:UInt8)).flatMap bytC).toArray 5)) 22 9 5 ⟨w5.heap.size,0,none⟩ (20000+j) (zerosL (20000+j)) Tryz.underlying22 Tryz.underlying5 Tryz.underlying9 (fun i hi=>by
      have:=hr.get bytC_len (i:=i) (List.getElem?_eq_getElem hi) (j:=0) rfl
      rw [add_plain]
      simpa using this)
     rw [show (zerosL (20000+j)).length=20000+j from List.length_replicate] at hcv
     have hx6:=Ext.alloc w5 (.cells ((List.replicate (20000+j) (0:UInt8)).flatMap bytC).toArray 5)
     clear hr
     generalize (w5.alloc (.cells ((List.replicate (20000+j) (0:UInt8)).flatMap bytC).toArray 5))=w6 at *
     go_wp2_with fail
     go_ret
     exact ⟨zerosL (20000+j),rfl,by simp [zerosL]; omega,hs5.ext hx6,(hO4.trans ho5).trans (Only.of_ext hx6 a)⟩
    ·have b4:(x4==0)=false:=by rw [beq_eq_false_iff_ne]; exact h4
     go_wp2_with fail
     go_ret
     exact ⟨t,rfl,by omega,hs4,hO4⟩
 ·have hcb:(cd != 0)=true:=by rw [bne_iff_ne]; exact hc
  go_wp2_with fail
  go_ret
  exact ⟨[99,108,111,115,101,32,49,32,48,32,48,32,48,32,53,10],rfl,by decide,hs2,hO2⟩
end Go.Proofs.YtinindjjapblcaaGreatDoor
namespace Go.Proofs.YtinindjjapblcaaGreatDoor
open Go.RowKit
open Go.Lib hiding intOf
theorem text_shortR (es:List Event) (h:∀e∈es,evB e=true) (hl:es.length≤300):(textL es 1).length≤14700:=by
 have:=textL_len es 1 h (by omega) (by omega)
 omega
theorem jourR_valid {es:List Event} (hl:es.length≤300) (hv:∀e∈es,evB e=true):jourR es=(textL es 1,0):=by
 unfold jourR
 rw [if_neg (by omega),if_neg (by rw [List.all_eq_true.2 hv]; decide)]
theorem repV_whole {n1:Int} {ns:List Node} {ps:List Pipe} {xs:List Contract} {es:List Event} (hb:(netB ns ps&&bookB n1 xs)=true) (hl:es.length≤300) (hv:∀e∈es,evB e=true):
  repV n1 ns ps xs (textL es 1)=((replR n1 (newR ns ps xs) es).1,((replR n1 (newR ns ps xs) es).2:Int),0):=by
 have h1:=text_shortR es hv hl
 unfold repV
 rw [if_pos hb,if_neg (by omega),recS_whole es hv hl]
end Go.Proofs.YtinindjjapblcaaGreatDoor
