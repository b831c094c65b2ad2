/-
  Plain: what is recovered of a journal's text, whole or cut off anywhere.
-/
import Derived.Test.YtinindjjapblcaaGreatDoorWa06
import Derived.Test.YtinindjjapblcaaGreatDoorWa16
import Derived.Test.YtinindjjapblcaaGreatDoorWa01
import Derived.Test.YtinindjjapblcaaGreatDoorWa37
import Derived.Test.YtinindjjapblcaaGreatDoorWa35
import Derived.Lib.ItoaMem
import Derived.Test.YtinindjjapblcaaGreatDoorWa39
namespace Go.Proofs.YtinindjjapblcaaGreatDoor
open Go.Lib
def linesE:List Event→Int→List (List UInt8)
 | [],_=>[]
 | e::es,x=>lineL e x::linesE es (sumE e x)
theorem splitL_text (p:List UInt8) (hp:(10:UInt8) ∉ p):∀(es:List Event) (x:Int),splitL 10 (textL es x++p)=linesE es x++[p]
 | [],_=>splitL_no 10 p hp
 | e::es,x=>by
  rw [textL,List.append_assoc,List.cons_append,splitL_app 10 _ _ (lineL_no e x),splitL_text p hp es,linesE,List.cons_append]
theorem recL_lines:∀(es:List Event) (k:Nat) (x:Int),(∀e∈es,evB e=true)→es.length≤k→0≤x→x<99991→recL (linesE es x) k x=es
 | [],k,x,_,_,_,_=>by cases k <;> rfl
 | e::es,0,x,_,h,_,_=>by simp at h
 | e::es,k+1,x,h,hk,h0,h1=>by
  have hs:=sumE_bound e x h0 h1
  rw [linesE,recL,next_line e x (h e (by simp)) h0 h1]
  simp only
  rw [recL_lines es k _ (fun f hf=>h f (by simp [hf])) (by simpa using hk) hs.1 hs.2]
theorem recS_app (es:List Event) (p:List UInt8) (hv:∀e∈es,evB e=true) (hl:es.length≤300) (hp:(10:UInt8) ∉ p):recS (textL es 1++p)=es:=by
 unfold recS
 rw [splitL_text p hp es 1,List.dropLast_concat]
 exact recL_lines es maxEv 1 hv hl (by omega) (by omega)
theorem recS_whole (es:List Event) (hv:∀e∈es,evB e=true) (hl:es.length≤300):recS (textL es 1)=es:=by
 have:=recS_app es [] hv hl (by simp)
 rwa [List.append_nil] at this
end Go.Proofs.YtinindjjapblcaaGreatDoor
namespace Go.Proofs.YtinindjjapblcaaGreatDoor
open Go.RowKit
structure LStJ (w0 w:World) (a:Nat) (A:Option Addr) (n c:Nat) (wr:World) (v:Value) (L:List Event):Prop where
 le0:w0.heap.size≤a
 lt1:a<w.heap.size
 size:w.heap.size≤wr.heap.size
 ext:Ext w0 wr
 src:SrcAt wr a A n c
 only:Only a w wr
 own:OwnL wr w.heap.size 54 5 Event.cells v L
section
variable {w0 w wr wr':World} {a n c:Nat} {A:Option Addr} {v v':Value} {L L':List Event}
theorem LStJ.draw (h:LStJ w0 w a A n c wr v L) (ho:Only a wr wr') (hs:SrcAt wr' a A n c):LStJ w0 w a A n c wr' v L:=
 ⟨h.le0,h.lt1,Nat.le_trans h.size ho.size,h.ext.only ho h.le0,hs,h.only.trans ho,h.own.only ho h.lt1⟩
theorem LStJ.more (h:LStJ w0 w a A n c wr v L) (hx:Ext wr wr'):LStJ w0 w a A n c wr' v L:=h.draw (Only.of_ext hx a) (h.src.ext hx)
end
end Go.Proofs.YtinindjjapblcaaGreatDoor
namespace Go.Proofs.YtinindjjapblcaaGreatDoor
open Go.RowKit
open Go.Lib hiding intOf
end Go.Proofs.YtinindjjapblcaaGreatDoor
namespace Go.Proofs.YtinindjjapblcaaGreatDoor
open Go.RowKit
open Go.Lib hiding intOf
theorem c_badEvent (p:Event) (w:World):
  Calls Tryz.prog 48 #[.agg #[.int .i64 p.kind,.int .i64 p.a,.int .i64 p.b,.int .i64 p.c,.int .i64 p.d]] w (Ret (.bool (!evB p)) w):=by
 go_enter Tryz.func48,Tryz.ntmps48
 go_wp2_with (go_at_call 49; refine (c_IsEvent p _).mono ?_; rintro e w1 ⟨rfl,hx1⟩)
 go_ret
 exact Ret.bool rfl hx1.box
def FoundIdxJ (b:Bool) (w:World) (e:Ending) (w':World):Prop:=∃r:Int,e= .returned (.int .i64 r)∧decide (0≤r)= !b∧Ext w w'
set_option maxHeartbeats 1000000 in
theorem c_IndexFuncE (A:Option Addr) (n c:Nat) (ps:List Event) (w:World) (hs:SliceOf w 5 Event.cells A n c ps):
  Calls Tryz.prog 98 #[.slice A n c,.func (.func 48) #[] #[]] w (FoundIdxJ (ps.all evB) w):=by
 have hm:=hs.max
 have hcap:=hs.cap
 go_enter Tryz.func98,Tryz.ntmps98
 go_wp2_with fail
 go_loopw [5,8] (fun _ i wr=>∃k:Nat,k≤n∧i= .int .i64 k∧Hid (∀(j:Nat) (p:Event),j<k→ps[j]? =some p→evB p=true)∧Ext w wr) (fun _ i _=>n-(intOf i).toNat)
 case atStart=>exact ⟨0,Nat.zero_le _,rfl,hide (fun j p hj=>absurd hj (by omega)),Ext.refl _⟩
 case round=>
  obtain ⟨k,hk,rfl,HK,hx⟩:=hrel
  by_cases hlt:k<n
  ·obtain ⟨b,off,p,rfl,hb,hxk,hc⟩:=(hs.ext hx).get hlt
   have hc0:=hc 0 _ rfl
   have hc1:=hc 1 _ rfl
   have hc2:=hc 2 _ rfl
   have hc3:=hc 3 _ rfl
   have hc4:=hc 4 _ rfl
   clear hc
   simp only [Nat.add_zero] at hc0
   have HX:=hide hxk
   clear hxk
   cases hp:evB p
   ·go_wp2_with (go_at_call 48; refine (c_badEvent p _).mono ?_; rw [hp]; rintro e w1 ⟨rfl,hx1⟩)
    go_ret
    refine ⟨k,rfl,?_,hx.trans hx1⟩
    have:ps.all evB=false:=by rw [List.all_eq_false]; exact ⟨p,List.mem_of_getElem? HX.out,by simp [hp]⟩
    rw [this]; simp
   ·go_wp2_with (go_at_call 48; refine (c_badEvent p _).mono ?_; rw [hp]; rintro e w1 ⟨rfl,hx1⟩)
    go_roundw
    case rel=>
     refine ⟨k+1,by omega,by go_num,hide fun j q hj hq=> ?_,hx.trans hx1⟩
     by_cases e:j=k
     ·subst e; rw [HX.out] at hq; injection hq with hq; subst hq; exact hp
     ·exact HK.out j q (by omega) hq
    case measure=>simp [intOf]; omega
  ·go_wp2_with fail
   go_ret
   refine ⟨-1,rfl,?_,hx⟩
   have:ps.all evB=true:=by
    rw [List.all_eq_true]; intro q hq
    obtain ⟨j,hj,rfl⟩:=List.mem_iff_getElem.1 hq
    exact HK.out j _ (by have:=hs.len; omega) (List.getElem?_eq_getElem hj)
   rw [this]; simp
theorem c_ContainsFuncE (A:Option Addr) (n c:Nat) (ps:List Event) (w:World) (hs:SliceOf w 5 Event.cells A n c ps):
  Calls Tryz.prog 47 #[.slice A n c,.func (.func 48) #[] #[]] w (Ret (.bool (!ps.all evB)) w):=by
 go_enter Tryz.func47,Tryz.ntmps47
 go_wp2_with fail
 refine (c_IndexFuncE A n c ps _ hs).mono ?_
 rintro e w1 ⟨r,rfl,hr,hx1⟩
 have HR:=hide hr
 clear hr
 go_wp2_with fail
 go_ret
 exact Ret.bool HR.out.symm hx1
def jourR (es:List Event):List UInt8×Int:=if 300<es.length then ([],3) else if es.all evB=false then ([],1) else (textL es 1,0)
end Go.Proofs.YtinindjjapblcaaGreatDoor
namespace Go.Proofs.YtinindjjapblcaaGreatDoor
open Go.RowKit
open Go.Lib hiding intOf
theorem textL_len:∀(es:List Event) (x:Int),(∀e∈es,evB e=true)→0≤x→x<99991→(textL es x).length≤49*es.length
 | [],_,_,_,_=>by simp [textL]
 | e::es,x,h,h0,h1=>by
  have hs:=sumE_bound e x h0 h1
  have ih:=textL_len es (sumE e x) (fun f hf=>h f (by simp [hf])) hs.1 hs.2
  have hl:=lineL_small e x (h e (by simp)) h0 h1
  simp only [textL,List.length_append,List.length_cons]
  omega
end Go.Proofs.YtinindjjapblcaaGreatDoor
namespace Go.Proofs.YtinindjjapblcaaGreatDoor
open Go.RowKit
open Go.Lib hiding intOf
theorem text_shortR (es:List Event) (h:∀e∈es,evB e=true) (hl:es.length≤300):(textL es 1).length≤14700:=by
 have:=textL_len es 1 h (by omega) (by omega)
 omega
theorem jourR_valid {es:List Event} (hl:es.length≤300) (hv:∀e∈es,evB e=true):jourR es=(textL es 1,0):=by
 unfold jourR
 rw [if_neg (by omega),if_neg (by rw [List.all_eq_true.2 hv]; decide)]
theorem repV_whole {n1:Int} {ns:List Node} {ps:List Pipe} {xs:List Contract} {es:List Event} (hb:(netB ns ps&&bookB n1 xs)=true) (hl:es.length≤300) (hv:∀e∈es,evB e=true):
  repV n1 ns ps xs (textL es 1)=((replR n1 (newR ns ps xs) es).1,((replR n1 (newR ns ps xs) es).2:Int),0):=by
 have h1:=text_shortR es hv hl
 unfold repV
 rw [if_pos hb,if_neg (by omega),recS_whole es hv hl]
theorem room_book {n1:Int} {r:Room} (h:roomB n1 r=true):(netB r.ns r.ps&&bookB n1 r.xs)=true:=by
 simp only [roomB,nomsOk,Bool.and_eq_true] at h
 simp [h]
end Go.Proofs.YtinindjjapblcaaGreatDoor
